/- The pure statement of FnExactDecrypt: what the printed functions compute answers true for all arguments within the printed bounds. -/
import Derived.Test.YtlmfpdlekelooaaPFnExactDecryptx3
import Derived.Test.YtlmfpdlekelooaaKit
namespace Go.Proofs.Ytlmfpdlekelooaa.Pure
open Go.RowKit Go.Proofs.Ytlmfpdlekelooaa.PFnExactDecrypt Go.Proofs.YtlmfpdlekelooaaW.PrintWords Go.Proofs.YtlmfpdlekelooaaW.PrintLast Go.Proofs.Ytlmfpdlekelooaa.Kit
set_option linter.unusedVariables false
set_option linter.unusedSimpArgs false
namespace OfFnExactDecrypt
theorem toByteS_ev (x : List Int) (hx : x.length ≤ 281474976710656) : Ev (fun k => laws_toByteS.f k x) x := by
  unfold laws_toByteS.f
  refine ev_pos (by omega) (ev_pos (by omega) ?_)
  exact copy_loop (L := laws_toByteS.l0) (rdf := rd) (fun _ _ _ _ => rfl) rd_at x (by omega) x.length 0 _ (by omega) (by simp) (by simp)

theorem eqByteS_ev (x y : List Int) (hx : x.length ≤ 9223372036854775806) (b : Bool) (hb : b = true ↔ x = y) : Ev (fun k => laws_eqByteS.f k x y) b := by
  unfold laws_eqByteS.f
  refine ev_dec (fun h => ?_) (fun h => ?_)
  · exact eq_loop (L := laws_eqByteS.l0) (c := fun x y i => rd x i = rd y i) (fun _ _ _ _ => rfl) (fun x y i h h' => by rw [rd_at x i h, rd_at y i h']) x y hx (by omega) b x.length 0 (by omega) (by simpa using hb)
  · have e : b = false := by
      rw [Bool.eq_false_iff]
      intro z
      exact h (by rw [hb.mp z])
    subst e
    exact ev_const rfl
theorem eqByteS_refl (x : List Int) (hx : x.length ≤ 9223372036854775806) : Ev (fun k => laws_eqByteS.f k x x) true := eqByteS_ev x x hx true (by simp)

theorem markByteS_ev (x : List Int) (hx : x.length ≤ 1000000000000000) (m : Int) (h0 : 0 ≤ m) (h1 : m ≤ 1000000000000000) : Ev (fun k => laws_markByteS.f k x m) (m + (x.length : Int), mk (fun m => m % 256) m x.length) := by
  unfold laws_markByteS.f
  have h := mark_loop (L := laws_markByteS.l0) (f := fun m => m % 256) (fun _ _ _ _ => rfl) x.length m (by omega) (by omega) (by omega) x.length 0 x (by omega) rfl (by simp [mk])
  simpa using h

theorem heldByteS_ev (n : Nat) (hx : n ≤ 1000000000000000) (m : Int) (h0 : 0 ≤ m) (h1 : m ≤ 1000000000000000) : Ev (fun k => laws_heldByteS.f k (mk (fun m => m % 256) m n) m) (m + (n : Int)) := by
  unfold laws_heldByteS.f
  have h := held_loop (L := laws_heldByteS.l0) (f := fun m => m % 256) (c := fun x i m => rd x i = (m) % 256) (fun _ _ _ _ => rfl) n m (by omega) (by omega) (by omega) (fun i hi => by rw [rd_at _ i (by rw [mk_length]; exact hi), mk_get]) n 0 (by omega)
  simpa using h

theorem InRange_v (a b c : Int) : impl_InRange.f a b c = some (decide (b ≤ a ∧ a ≤ c)) := by
  unfold impl_InRange.f
  by_cases h : b ≤ a <;> simp [h]

theorem l1In_v (a b c : Int) : spec_l1In.f a b c = some (decide (b ≤ a ∧ a ≤ c)) := by
  unfold spec_l1In.f
  by_cases h : b ≤ a <;> simp [h]

theorem Mod_v (a b : Int) : spec_Mod.f a b = some (if 1 ≤ b ∧ b ≤ 1000000000000 then a % b else 0) := by
  unfold spec_Mod.f
  rw [l1In_v]
  by_cases h2 : 1 ≤ b ∧ b ≤ 1000000000000
  · have hb : ¬ b = 0 := by omega
    have h3 := Int.lt_tmod_of_pos a (show 0 < b by omega)
    have h4 := Int.tmod_lt_of_pos a (show 0 < b by omega)
    rw [if_pos h2]
    simp only [h2, hb, and_self, decide_true, Option.bind_some, if_true, if_false]
    rw [w64 (i := Int.tmod a b + b) (by omega) (by omega), Int.tmod_eq_emod_of_nonneg (a := Int.tmod a b + b) (by omega)]
    congr 1
    have h5 := Int.tmod_add_tdiv_mul a b
    rw [Int.add_emod_right]
    conv => rhs; rw [← h5]
    rw [Int.add_mul_emod_self_right]
  · rw [if_neg h2]
    simp [h2]
theorem iMod_v (a b : Int) : impl_Mod.f a b = spec_Mod.f a b := by
  unfold impl_Mod.f spec_Mod.f
  simp only [InRange_v, l1In_v]

/-- One round of the hash. -/
def hstep (d v : Int) : Int := (d * 1000003 + v % 2147483647 + 13) % 2147483647
def hashL (l : List Int) : Int := l.foldl hstep 11
theorem hstep_bd (d v : Int) : 0 ≤ hstep d v ∧ hstep d v < 2147483647 := by unfold hstep; omega
theorem hfold_bd (l : List Int) : ∀ d : Int, 0 ≤ d → d < 2147483647 → 0 ≤ l.foldl hstep d ∧ l.foldl hstep d < 2147483647 := by
  induction l with
  | nil => intro d h0 h1; exact ⟨h0, h1⟩
  | cons a l ih => intro d _ _; exact ih _ (hstep_bd d a).1 (hstep_bd d a).2
theorem hashL_bd (l : List Int) : 0 ≤ hashL l ∧ hashL l < 2147483647 := hfold_bd l 11 (by omega) (by omega)
theorem Mod_at (v : Int) : spec_Mod.f v 2147483647 = some (v % 2147483647) := by
  rw [Mod_v, if_pos (by omega)]
theorem hround (d v : Int) (h0 : 0 ≤ d) (h1 : d < 2147483647) : Int.tmod (wrap64 ((wrap64 ((wrap64 (d * 1000003)) + v % 2147483647)) + 13)) 2147483647 = hstep d v := by
  have hv0 : 0 ≤ v % 2147483647 := by omega
  have hv1 : v % 2147483647 < 2147483647 := by omega
  rw [w64 (i := d * 1000003) (by omega) (by omega), w64 (i := d * 1000003 + v % 2147483647) (by omega) (by omega), w64 (i := d * 1000003 + v % 2147483647 + 13) (by omega) (by omega), Int.tmod_eq_emod_of_nonneg (by omega)]
  rfl
theorem Hash_sl (x : List Int) (hx : x.length ≤ 9223372036854775806) : ∀ (m i : Nat) (d : Int), i + m = x.length → 0 ≤ d → d < 2147483647 → Ev (fun k => spec_Hash.l0 k x d (i : Int)) ((x.drop i).foldl hstep d) := by
  intro m
  induction m with
  | zero =>
    intro i d hi _ _
    refine ev_step ?_
    simp only [spec_Hash.l0]
    rw [List.drop_of_length_le (by omega)]
    exact ev_neg (by omega) (ev_const rfl)
  | succ m ih =>
    intro i d hi h0 h1
    have hlt : i < x.length := by omega
    refine ev_step ?_
    simp only [spec_Hash.l0]
    refine ev_pos (by omega) (ev_pos (by omega) (ev_bindc (Mod_at _) ?_))
    rw [hround _ _ h0 h1, w64s (n := x.length) hlt (by omega), rd_at x i hlt, List.drop_eq_getElem_cons hlt]
    exact ih (i + 1) _ (by omega) (hstep_bd _ _).1 (hstep_bd _ _).2
theorem Hash_il (x : List Int) (hx : x.length ≤ 9223372036854775806) : ∀ (m i : Nat) (d : Int), i + m = x.length → 0 ≤ d → d < 2147483647 → Ev (fun k => impl_Hash.l0 k d x (x.length : Int) (i : Int)) ((x.drop i).foldl hstep d) := by
  intro m
  induction m with
  | zero =>
    intro i d hi _ _
    refine ev_step ?_
    simp only [impl_Hash.l0]
    rw [List.drop_of_length_le (by omega)]
    exact ev_neg (by omega) (ev_const rfl)
  | succ m ih =>
    intro i d hi h0 h1
    have hlt : i < x.length := by omega
    refine ev_step ?_
    simp only [impl_Hash.l0]
    refine ev_pos (by omega) (ev_pos (by omega) (ev_pos (by omega) (ev_bindc ((iMod_v _ _).trans (Mod_at _)) ?_)))
    rw [hround _ _ h0 h1, w64s (n := x.length) hlt (by omega), rd_at x i hlt, List.drop_eq_getElem_cons hlt]
    exact ih (i + 1) _ (by omega) (hstep_bd _ _).1 (hstep_bd _ _).2
theorem Hash_sev (x : List Int) (hx : x.length ≤ 9223372036854775806) : Ev (fun k => spec_Hash.f k x) (hashL x) := by
  unfold spec_Hash.f
  exact Hash_sl x hx x.length 0 11 (by omega) (by omega) (by omega)
theorem Hash_iev (x : List Int) (hx : x.length ≤ 9223372036854775806) : Ev (fun k => impl_Hash.f k x) (hashL x) := by
  unfold impl_Hash.f
  exact Hash_il x hx x.length 0 11 (by omega) (by omega) (by omega)

def khL (a : Int) (l : List Int) : Int := hashL (a :: (l ++ [a]))
theorem khL_bd (a : Int) (l : List Int) : 0 ≤ khL a l ∧ khL a l < 2147483647 := hashL_bd _
theorem KH_sev (a : Int) (l : List Int) (hl : l.length ≤ 10000000000000) : Ev (fun k => spec_KeyedHash.f k a l) (khL a l) := by
  unfold spec_KeyedHash.f
  refine ev_bindc rfl (ev_pos (by simp; omega) (ev_bindc rfl (ev_pos (by simp; omega) (ev_bind (Hash_sev _ (by simp; omega)) ?_))))
  unfold khL
  exact ev_const (by simp)
theorem KH_iev (a : Int) (l : List Int) (hl : l.length ≤ 10000000000000) : Ev (fun k => impl_KeyedHash.f k a l) (khL a l) := by
  unfold impl_KeyedHash.f
  exact ev_pos (by omega) (Hash_iev _ (by simp; omega))

/-- The bytes b, each with s times its key's hash added. -/
def shL (s key : Int) (b : List Int) : List Int := (List.range b.length).map fun i : Nat => (rd b (i : Int) + s * khL key [(i : Int)]) % 256
theorem shL_length (s key : Int) (b : List Int) : (shL s key b).length = b.length := by simp [shL]
theorem shL_get (s key : Int) (b : List Int) (i : Nat) (h : i < (shL s key b).length) (h' : i < b.length) : (shL s key b)[i] = (b[i] + s * khL key [(i : Int)]) % 256 := by
  simp only [shL, List.getElem_map, List.getElem_range]
  rw [rd_at b i h']
theorem shL_bd (s key : Int) (b : List Int) : ∀ v ∈ shL s key b, 0 ≤ v ∧ v ≤ 255 := by
  intro v hv
  simp only [shL, List.mem_map] at hv
  obtain ⟨i, _, rfl⟩ := hv
  omega
/-- Two shifts that undo each other. -/
theorem shL_back (s t key : Int) (b : List Int) (hst : s = 1 ∧ t = -1 ∨ s = -1 ∧ t = 1) (hw : ∀ v ∈ b, 0 ≤ v ∧ v ≤ 255) : shL t key (shL s key b) = b := by
  apply List.ext_getElem
  · rw [shL_length, shL_length]
  · intro i h1 h2
    rw [shL_get _ _ _ i h1 (by rw [shL_length]; exact h2), shL_get _ _ _ i _ h2]
    have hb := hw b[i] (List.getElem_mem h2)
    generalize khL key [(i : Int)] = z
    rcases hst with ⟨rfl, rfl⟩ | ⟨rfl, rfl⟩ <;> omega
theorem shifted_l (key s : Int) (hs : s = 1 ∨ s = -1) (b : List Int) (hl : b.length ≤ 100000000000000) : ∀ (m i : Nat), i + m = b.length →
    Ev (fun k => impl_shifted.l0 k key s ((shL s key b).take i ++ b.drop i) (b.length : Int) (i : Int)) (shL s key b) := by
  have hsl := shL_length s key b
  intro m
  induction m with
  | zero =>
    intro i hi
    refine ev_step ?_
    simp only [impl_shifted.l0]
    rw [List.drop_of_length_le (by omega), List.take_of_length_le (by omega), List.append_nil]
    exact ev_neg (by omega) (ev_const rfl)
  | succ m ih =>
    intro i hi
    have hlt : i < b.length := by omega
    have hlt2 : i < (shL s key b).length := by omega
    have htl : ((shL s key b).take i).length = i := by rw [List.length_take]; omega
    refine ev_step ?_
    simp only [impl_shifted.l0]
    refine ev_pos (by omega) (ev_pos (by omega) (ev_pos (by simp; omega) (ev_bind (KH_iev key _ (by simp)) ?_)))
    have hk := khL_bd key [(i : Int)]
    have hrd : rd ((shL s key b).take i ++ b.drop i) (i : Int) = b[i] := by
      rw [rd_at _ i (by simp; omega), List.getElem_append_right (by omega)]
      simp [htl]
    have hval : ((rd ((shL s key b).take i ++ b.drop i) (i : Int)) + ((wrap64 (s * khL key [(i : Int)])) % 256)) % 256 = (shL s key b)[i] := by
      rw [hrd, shL_get s key b i hlt2 hlt]
      rcases hs with rfl | rfl
      · rw [w64 (by omega) (by omega)]; omega
      · rw [w64 (by omega) (by omega)]; omega
    rw [hval, w64s (n := b.length) hlt (by omega)]
    have hset : ((shL s key b).take i ++ b.drop i).set (i : Int).toNat (shL s key b)[i] = (shL s key b).take (i + 1) ++ b.drop (i + 1) := by
      rw [Int.toNat_natCast, List.set_append_right _ _ (by omega), htl, Nat.sub_self, List.drop_eq_getElem_cons hlt, List.set_cons_zero, List.take_succ_eq_append_getElem hlt2, List.append_assoc]
      rfl
    rw [hset]
    exact ih (i + 1) (by omega)
theorem shifted_ev (key s : Int) (hs : s = 1 ∨ s = -1) (b : List Int) (hl : b.length ≤ 100000000000000) : Ev (fun k => impl_shifted.f k key b s) (shL s key b) := by
  unfold impl_shifted.f
  refine ev_bindc (show impl_cloned.f b = some b from if_pos (by omega)) ?_
  have h := shifted_l key s hs b hl b.length 0 (by omega)
  simpa using h

theorem Dec_sl (key : Int) (b : List Int) (hl : b.length ≤ 100000000000000) (hw : ∀ v ∈ b, 0 ≤ v ∧ v ≤ 255) : ∀ (m i : Nat), i + m = b.length →
    Ev (fun k => spec_Decrypt.l0 k key b ((shL (-1) key b).take i) (i : Int)) (shL (-1) key b) := by
  have hsl := shL_length (-1) key b
  intro m
  induction m with
  | zero =>
    intro i hi
    refine ev_step ?_
    simp only [spec_Decrypt.l0]
    rw [List.take_of_length_le (by omega)]
    exact ev_neg (by omega) (ev_const rfl)
  | succ m ih =>
    intro i hi
    have hlt : i < b.length := by omega
    have hlt2 : i < (shL (-1) key b).length := by omega
    have hb := hw b[i] (List.getElem_mem hlt)
    have hk := khL_bd key [(i : Int)]
    refine ev_step ?_
    simp only [spec_Decrypt.l0]
    refine ev_pos (by omega) (ev_pos (by omega) (ev_bind (KH_sev key _ (by simp)) (ev_bindc (Mod_v _ _) (ev_pos (by simp; omega) ?_))))
    have hval : (if (1 : Int) ≤ 256 ∧ (256 : Int) ≤ 1000000000000 then (wrap64 ((wrap64 (rd b (i : Int))) - (Int.tmod (khL key [(i : Int)]) 256))) % 256 else 0) % 256 = (shL (-1) key b)[i] := by
      rw [if_pos (by omega), rd_at b i hlt, shL_get (-1) key b i hlt2 hlt, Int.tmod_eq_emod_of_nonneg hk.1, w64 (i := b[i]) (by omega) (by omega), w64 (i := b[i] - khL key [(i : Int)] % 256) (by omega) (by omega)]
      omega
    rw [hval, w64s (n := b.length) hlt (by omega)]
    have h := ih (i + 1) (by omega)
    rw [List.take_succ_eq_append_getElem hlt2] at h
    exact h
theorem Dec_sev (key : Int) (b : List Int) (hl : b.length ≤ 100000000000000) (hw : ∀ v ∈ b, 0 ≤ v ∧ v ≤ 255) : Ev (fun k => spec_Decrypt.f k key b) (shL (-1) key b) := by
  unfold spec_Decrypt.f
  exact Dec_sl key b hl hw b.length 0 (by omega)

theorem Dec_iev (key : Int) (b : List Int) (hl : b.length ≤ 100000000000000) : Ev (fun k => impl_Decrypt.f k key b) (shL (-1) key b) := by
  unfold impl_Decrypt.f
  exact ev_bind (shifted_ev key (-1) (Or.inr rfl) b hl) (ev_const rfl)
end OfFnExactDecrypt
open OfFnExactDecrypt in
theorem FnExactDecrypt : laws_FnExactDecrypt.Pure := by
  intro a l _ _ hb hw
  apply Ev.rounds
  unfold laws_FnExactDecrypt.f
  refine ev_dec (fun _ => ev_const rfl) (fun h0 => ?_)
  have hw' : ∀ v ∈ l, 0 ≤ v ∧ v ≤ 255 := fun v hv => wfu8 (hw v hv)
  have e := toByteS_ev l (by omega)
  have s := Dec_sev a l (by omega) hw'
  have g := Dec_iev a l (by omega)
  have hl := shL_length (-1) a l
  generalize shL (-1) a l = r at s g hl
  have q := eqByteS_refl l (by omega)
  have qr := eqByteS_refl r (by omega)
  have m := markByteS_ev l (by omega) 1 (by omega) (by omega)
  have mr := markByteS_ev r (by omega) 1 (by omega) (by omega)
  have hh := heldByteS_ev r.length (by omega) 1 (by omega) (by omega)
  repeat' first
    | exact ev_const rfl
    | refine ev_bind e ?_
    | refine ev_bind s ?_
    | refine ev_bind g ?_
    | refine ev_bind q ?_
    | refine ev_bind qr ?_
    | refine ev_bind m ?_
    | refine ev_bind mr ?_
    | refine ev_bind hh ?_
    | refine ev_pos rfl ?_
    | refine ev_neg (by first | omega | (simp; done) | (simp; omega)) ?_
    | refine ev_pos (by first | omega | (simp; done) | (simp; omega)) ?_
    | (refine ev_step ?_; simp only [laws_FnExactDecrypt.j0]; refine ev_neg (by simp) ?_)
end Go.Proofs.Ytlmfpdlekelooaa.Pure
