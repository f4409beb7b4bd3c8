/- The pure statement of FnExactKeysDigest: what the printed functions compute answers true for all arguments within the printed bounds. -/
import Derived.Test.YtaebboanblfmjaaPFnExactKeysDigestx2
import Derived.Test.YtaebboanblfmjaaKit
namespace Go.Proofs.Ytaebboanblfmjaa.Pure
open Go.RowKit Go.Proofs.Ytaebboanblfmjaa.PFnExactKeysDigest Go.Proofs.YtaebboanblfmjaaW.PrintWords Go.Proofs.YtaebboanblfmjaaW.PrintLast Go.Proofs.Ytaebboanblfmjaa.Kit
set_option linter.unusedVariables false
set_option linter.unusedSimpArgs false
namespace OfFnExactKeysDigest
theorem szInt_v (l : List Int) (a : Int) (hl : l.length ≤ maxLen) (h0 : 0 ≤ a) (h1 : a ≤ 1048576) : laws_szIntS.f l a = some (if a < (l.length : Int) then -1 else a - (l.length : Int)) := by
  unfold maxLen at hl
  unfold laws_szIntS.f
  rw [w64 (i := a - (l.length : Int)) (by omega) (by omega)]
  by_cases h : a < (l.length : Int)
  · rw [if_pos h, if_pos (by omega)]
  · rw [if_neg h, if_neg (by omega)]
theorem szKeys_v (l : List Int) (n a : Int) (hl : l.length ≤ maxLen) (h0 : 0 ≤ a) (h1 : a ≤ 1048576) : laws_szKeys.f l n a = some (if a < (l.length : Int) then -1 else a - (l.length : Int)) := by
  unfold laws_szKeys.f
  rw [szInt_v l a hl h0 h1, Option.bind_some]
  by_cases h : a < (l.length : Int)
  · rw [if_pos h, if_pos (by omega)]
  · rw [if_neg h, if_neg (by omega)]

theorem toIntS_ev (x : List Int) (hx : x.length ≤ 35184372088832) : Ev (fun k => laws_toIntS.f k x) x := by
  unfold laws_toIntS.f
  refine ev_pos (by omega) (ev_pos (by omega) ?_)
  exact copy_loop (L := laws_toIntS.l0) (rdf := rd) (fun _ _ _ _ => rfl) rd_at x (by omega) x.length 0 _ (by omega) (by simp) (by simp)

theorem toKeys_ev (l : List Int) (n : Int) (hx : l.length ≤ 35184372088832) : Ev (fun k => laws_toKeys.f k l n) (l, n) := by
  unfold laws_toKeys.f
  exact ev_bind (toIntS_ev l hx) (ev_const rfl)

theorem eqIntS_ev (x y : List Int) (hx : x.length ≤ 9223372036854775806) (b : Bool) (hb : b = true ↔ x = y) : Ev (fun k => laws_eqIntS.f k x y) b := by
  unfold laws_eqIntS.f
  refine ev_dec (fun h => ?_) (fun h => ?_)
  · exact eq_loop (L := laws_eqIntS.l0) (c := fun x y i => rd x i = rd y i) (fun _ _ _ _ => rfl) (fun x y i h h' => by rw [rd_at x i h, rd_at y i h']) x y hx (by omega) b x.length 0 (by omega) (by simpa using hb)
  · have e : b = false := by
      rw [Bool.eq_false_iff]
      intro z
      exact h (by rw [hb.mp z])
    subst e
    exact ev_const rfl
theorem eqIntS_refl (x : List Int) (hx : x.length ≤ 9223372036854775806) : Ev (fun k => laws_eqIntS.f k x x) true := eqIntS_ev x x hx true (by simp)

theorem eqKeys_refl (l : List Int) (n : Int) (hl : l.length ≤ 9223372036854775806) : Ev (fun k => laws_eqKeys.f k l n l n) true := by
  unfold laws_eqKeys.f
  exact ev_bind (eqIntS_refl l hl) (ev_pos rfl (ev_pos rfl (ev_const rfl)))

theorem sKeysInts_v (l : List Int) (n : Int) (hl : l.length ≤ 1000000000000) : spec_KeysInts.f l n = some (n :: (l.length : Int) :: l) := by
  unfold spec_KeysInts.f
  rw [Option.bind_some, if_pos (by simp; omega)]
  rfl
theorem iKeysInts_v (l : List Int) (n : Int) (hl : l.length ≤ 1000000000000) : impl_KeysInts.f l n = some (n :: (l.length : Int) :: l) := by
  unfold impl_KeysInts.f
  rw [Option.bind_some, if_pos (by simp; omega)]
  rfl

theorem InRange_v (a b c : Int) : impl_InRange.f a b c = some (decide (b ≤ a ∧ a ≤ c)) := by
  unfold impl_InRange.f
  by_cases h : b ≤ a <;> simp [h]

theorem l1In_v (a b c : Int) : spec_l1In.f a b c = some (decide (b ≤ a ∧ a ≤ c)) := by
  unfold spec_l1In.f
  by_cases h : b ≤ a <;> simp [h]

theorem Mod_v (a b : Int) : spec_Mod.f a b = some (if 1 ≤ b ∧ b ≤ 1000000000000 then a % b else 0) := by
  unfold spec_Mod.f
  rw [l1In_v]
  by_cases h2 : 1 ≤ b ∧ b ≤ 1000000000000
  · have hb : ¬ b = 0 := by omega
    have h3 := Int.lt_tmod_of_pos a (show 0 < b by omega)
    have h4 := Int.tmod_lt_of_pos a (show 0 < b by omega)
    rw [if_pos h2]
    simp only [h2, hb, and_self, decide_true, Option.bind_some, if_true, if_false]
    rw [w64 (i := Int.tmod a b + b) (by omega) (by omega), Int.tmod_eq_emod_of_nonneg (a := Int.tmod a b + b) (by omega)]
    congr 1
    have h5 := Int.tmod_add_tdiv_mul a b
    rw [Int.add_emod_right]
    conv => rhs; rw [← h5]
    rw [Int.add_mul_emod_self_right]
  · rw [if_neg h2]
    simp [h2]
theorem iMod_v (a b : Int) : impl_Mod.f a b = some (if 1 ≤ b ∧ b ≤ 1000000000000 then a % b else 0) := by
  unfold impl_Mod.f
  rw [InRange_v]
  by_cases h2 : 1 ≤ b ∧ b ≤ 1000000000000
  · have hb : ¬ b = 0 := by omega
    have h3 := Int.lt_tmod_of_pos a (show 0 < b by omega)
    have h4 := Int.tmod_lt_of_pos a (show 0 < b by omega)
    rw [if_pos h2]
    simp only [h2, hb, and_self, decide_true, Option.bind_some, if_true, if_false]
    rw [w64 (i := Int.tmod a b + b) (by omega) (by omega), Int.tmod_eq_emod_of_nonneg (a := Int.tmod a b + b) (by omega)]
    congr 1
    have h5 := Int.tmod_add_tdiv_mul a b
    rw [Int.add_emod_right]
    conv => rhs; rw [← h5]
    rw [Int.add_mul_emod_self_right]
  · rw [if_neg h2]
    simp [h2]

/-- One round of the hash. -/
def hstep (d v : Int) : Int := (d * 1000003 + v % 2147483647 + 13) % 2147483647
def hashL (l : List Int) : Int := l.foldl hstep 11
theorem hstep_bd (d v : Int) : 0 ≤ hstep d v ∧ hstep d v < 2147483647 := by unfold hstep; omega
theorem hfold_bd (l : List Int) : ∀ d : Int, 0 ≤ d → d < 2147483647 → 0 ≤ l.foldl hstep d ∧ l.foldl hstep d < 2147483647 := by
  induction l with
  | nil => intro d h0 h1; exact ⟨h0, h1⟩
  | cons a l ih => intro d _ _; exact ih _ (hstep_bd d a).1 (hstep_bd d a).2
theorem hashL_bd (l : List Int) : 0 ≤ hashL l ∧ hashL l < 2147483647 := hfold_bd l 11 (by omega) (by omega)
theorem hround (d v : Int) (h0 : 0 ≤ d) (h1 : d < 2147483647) : Int.tmod (wrap64 ((wrap64 ((wrap64 (d * 1000003)) + v % 2147483647)) + 13)) 2147483647 = hstep d v := by
  have hv0 : 0 ≤ v % 2147483647 := by omega
  have hv1 : v % 2147483647 < 2147483647 := by omega
  rw [w64 (i := d * 1000003) (by omega) (by omega), w64 (i := d * 1000003 + v % 2147483647) (by omega) (by omega), w64 (i := d * 1000003 + v % 2147483647 + 13) (by omega) (by omega), Int.tmod_eq_emod_of_nonneg (by omega)]
  rfl
theorem Mod_at (v : Int) : spec_Mod.f v 2147483647 = some (v % 2147483647) := by
  rw [Mod_v, if_pos (by omega)]
theorem Hash_sl (x : List Int) (hx : x.length ≤ 9223372036854775806) : ∀ (m i : Nat) (d : Int), i + m = x.length → 0 ≤ d → d < 2147483647 → Ev (fun k => spec_Hash.l0 k x d (i : Int)) ((x.drop i).foldl hstep d) := by
  intro m
  induction m with
  | zero =>
    intro i d hi _ _
    refine ev_step ?_
    simp only [spec_Hash.l0]
    rw [List.drop_of_length_le (by omega)]
    exact ev_neg (by omega) (ev_const rfl)
  | succ m ih =>
    intro i d hi h0 h1
    have hlt : i < x.length := by omega
    refine ev_step ?_
    simp only [spec_Hash.l0]
    refine ev_pos (by omega) (ev_pos (by omega) (ev_bindc (Mod_at _) ?_))
    rw [hround _ _ h0 h1, w64s (n := x.length) hlt (by omega), rd_at x i hlt, List.drop_eq_getElem_cons hlt]
    exact ih (i + 1) _ (by omega) (hstep_bd _ _).1 (hstep_bd _ _).2
theorem Hash_sev (x : List Int) (hx : x.length ≤ 9223372036854775806) : Ev (fun k => spec_Hash.f k x) (hashL x) := by
  unfold spec_Hash.f
  exact Hash_sl x hx x.length 0 11 (by omega) (by omega) (by omega)
theorem iMod_at (v : Int) : impl_Mod.f v 2147483647 = some (v % 2147483647) := by
  rw [iMod_v, if_pos (by omega)]
theorem Hash_il (x : List Int) (hx : x.length ≤ 9223372036854775806) : ∀ (m i : Nat) (d : Int), i + m = x.length → 0 ≤ d → d < 2147483647 → Ev (fun k => impl_Hash.l0 k d x (x.length : Int) (i : Int)) ((x.drop i).foldl hstep d) := by
  intro m
  induction m with
  | zero =>
    intro i d hi _ _
    refine ev_step ?_
    simp only [impl_Hash.l0]
    rw [List.drop_of_length_le (by omega)]
    exact ev_neg (by omega) (ev_const rfl)
  | succ m ih =>
    intro i d hi h0 h1
    have hlt : i < x.length := by omega
    refine ev_step ?_
    simp only [impl_Hash.l0]
    refine ev_pos (by omega) (ev_pos (by omega) (ev_pos (by omega) (ev_bindc (iMod_at _) ?_)))
    rw [hround _ _ h0 h1, w64s (n := x.length) hlt (by omega), rd_at x i hlt, List.drop_eq_getElem_cons hlt]
    exact ih (i + 1) _ (by omega) (hstep_bd _ _).1 (hstep_bd _ _).2
theorem Hash_iev (x : List Int) (hx : x.length ≤ 9223372036854775806) : Ev (fun k => impl_Hash.f k x) (hashL x) := by
  unfold impl_Hash.f
  exact Hash_il x hx x.length 0 11 (by omega) (by omega) (by omega)

def kdL (l : List Int) (n : Int) : Int := hashL (211 :: n :: (l.length : Int) :: l)
theorem KD_sev (l : List Int) (n : Int) (hl : l.length ≤ 100000000000) : Ev (fun k => spec_KeysDigest.f k l n) (kdL l n) := by
  unfold spec_KeysDigest.f
  exact ev_bindc rfl (ev_bindc (sKeysInts_v l n (by omega)) (ev_pos (by simp; omega) (ev_bind (Hash_sev _ (by simp; omega)) (ev_const rfl))))
theorem KD_iev (l : List Int) (n : Int) (hl : l.length ≤ 100000000000) : Ev (fun k => impl_KeysDigest.f k l n) (kdL l n) := by
  unfold impl_KeysDigest.f
  exact ev_bindc rfl (ev_bindc (iKeysInts_v l n (by omega)) (ev_pos (by simp; omega) (ev_bind (Hash_iev _ (by simp; omega)) (ev_const rfl))))
end OfFnExactKeysDigest
open OfFnExactKeysDigest in
theorem FnExactKeysDigest : laws_FnExactKeysDigest.Pure := by
  intro l n hl _ _
  apply Ev.rounds
  unfold laws_FnExactKeysDigest.f
  refine ev_bindc (szKeys_v l n 1048576 hl (by omega) (by omega)) (ev_dec (fun _ => ev_const rfl) (fun h0 => ?_))
  have hb : l.length ≤ 1048576 := by split at h0 <;> omega
  have e := toKeys_ev l n (by omega)
  have s := KD_sev l n (by omega)
  have g := KD_iev l n (by omega)
  have q := eqKeys_refl l n (by omega)
  repeat' first
    | exact ev_const rfl
    | refine ev_bind e ?_
    | refine ev_bind s ?_
    | refine ev_bind g ?_
    | refine ev_bind q ?_
    | refine ev_pos rfl ?_
    | refine ev_neg (by first | omega | (simp; done) | (simp; omega)) ?_
    | refine ev_pos (by first | omega | (simp; done) | (simp; omega)) ?_
end Go.Proofs.Ytaebboanblfmjaa.Pure
