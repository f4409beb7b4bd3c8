/- The pure statement of FnExactSignBy: what the printed functions compute answers true for all arguments within the printed bounds. -/
import Derived.Test.YtaebboanblfmjaaPFnExactSignByx5
import Derived.Test.YtaebboanblfmjaaKit
namespace Go.Proofs.Ytaebboanblfmjaa.Pure
open Go.RowKit Go.Proofs.Ytaebboanblfmjaa.PFnExactSignBy Go.Proofs.YtaebboanblfmjaaW.PrintWords Go.Proofs.YtaebboanblfmjaaW.PrintLast Go.Proofs.Ytaebboanblfmjaa.Kit
set_option linter.unusedVariables false
set_option linter.unusedSimpArgs false
namespace OfFnExactSignBy
theorem szInt_v (l : List Int) (a : Int) (hl : l.length ≤ maxLen) (h0 : 0 ≤ a) (h1 : a ≤ 1048576) : laws_szIntS.f l a = some (if a < (l.length : Int) then -1 else a - (l.length : Int)) := by
  unfold maxLen at hl
  unfold laws_szIntS.f
  rw [w64 (i := a - (l.length : Int)) (by omega) (by omega)]
  by_cases h : a < (l.length : Int)
  · rw [if_pos h, if_pos (by omega)]
  · rw [if_neg h, if_neg (by omega)]
theorem szKeys_v (l : List Int) (n a : Int) (hl : l.length ≤ maxLen) (h0 : 0 ≤ a) (h1 : a ≤ 1048576) : laws_szKeys.f l n a = some (if a < (l.length : Int) then -1 else a - (l.length : Int)) := by
  unfold laws_szKeys.f
  rw [szInt_v l a hl h0 h1, Option.bind_some]
  by_cases h : a < (l.length : Int)
  · rw [if_pos h, if_pos (by omega)]
  · rw [if_neg h, if_neg (by omega)]

theorem toIntS_ev (x : List Int) (hx : x.length ≤ 35184372088832) : Ev (fun k => laws_toIntS.f k x) x := by
  unfold laws_toIntS.f
  refine ev_pos (by omega) (ev_pos (by omega) ?_)
  exact copy_loop (L := laws_toIntS.l0) (rdf := rd) (fun _ _ _ _ => rfl) rd_at x (by omega) x.length 0 _ (by omega) (by simp) (by simp)

theorem toKeys_ev (l : List Int) (n : Int) (hx : l.length ≤ 35184372088832) : Ev (fun k => laws_toKeys.f k l n) (l, n) := by
  unfold laws_toKeys.f
  exact ev_bind (toIntS_ev l hx) (ev_const rfl)

theorem eqIntS_ev (x y : List Int) (hx : x.length ≤ 9223372036854775806) (b : Bool) (hb : b = true ↔ x = y) : Ev (fun k => laws_eqIntS.f k x y) b := by
  unfold laws_eqIntS.f
  refine ev_dec (fun h => ?_) (fun h => ?_)
  · exact eq_loop (L := laws_eqIntS.l0) (c := fun x y i => rd x i = rd y i) (fun _ _ _ _ => rfl) (fun x y i h h' => by rw [rd_at x i h, rd_at y i h']) x y hx (by omega) b x.length 0 (by omega) (by simpa using hb)
  · have e : b = false := by
      rw [Bool.eq_false_iff]
      intro z
      exact h (by rw [hb.mp z])
    subst e
    exact ev_const rfl
theorem eqIntS_refl (x : List Int) (hx : x.length ≤ 9223372036854775806) : Ev (fun k => laws_eqIntS.f k x x) true := eqIntS_ev x x hx true (by simp)

theorem eqKeys_refl (l : List Int) (n : Int) (hl : l.length ≤ 9223372036854775806) : Ev (fun k => laws_eqKeys.f k l n l n) true := by
  unfold laws_eqKeys.f
  exact ev_bind (eqIntS_refl l hl) (ev_pos rfl (ev_pos rfl (ev_const rfl)))

theorem markIntS_ev (x : List Int) (hx : x.length ≤ 1000000000000000) (m : Int) (h0 : 0 ≤ m) (h1 : m ≤ 1000000000000000) : Ev (fun k => laws_markIntS.f k x m) (m + (x.length : Int), mk (fun m => m) m x.length) := by
  unfold laws_markIntS.f
  have h := mark_loop (L := laws_markIntS.l0) (f := fun m => m) (fun _ _ _ _ => rfl) x.length m (by omega) (by omega) (by omega) x.length 0 x (by omega) rfl (by simp [mk])
  simpa using h

theorem markKeys_ev (l : List Int) (n : Int) (hx : l.length ≤ 1000000000000000) (m : Int) (h0 : 0 ≤ m) (h1 : m ≤ 1000000000000000) : Ev (fun k => laws_markKeys.f k l n m) (m + (l.length : Int), mk (fun m => m) m l.length) := by
  unfold laws_markKeys.f
  exact ev_bind (markIntS_ev l hx m h0 h1) (ev_const rfl)

theorem rdI_at (x : List S49) (i : Nat) (h : i < x.length) : rd_T49 x (i : Int) = x[i] := by simp [rd_T49, List.getD, h]
theorem eqSigS_l (x : List S49) (hx : x.length ≤ 9223372036854775806) : ∀ (d i : Nat), i + d = x.length → Ev (fun k => laws_eqSigS.l0 k x x (i : Int)) true := by
  intro d
  induction d with
  | zero =>
    intro i hi
    refine ev_step ?_
    simp only [laws_eqSigS.l0]
    exact ev_neg (by omega) (ev_const rfl)
  | succ d ih =>
    intro i hi
    refine ev_step ?_
    simp only [laws_eqSigS.l0]
    rw [w64s (n := x.length) (by omega) (by omega)]
    refine ev_pos (by omega) (ev_pos (by omega) (ev_pos (by omega) (ev_bindc (a := true) ?_ (ev_pos rfl (ih (i + 1) (by omega))))))
    unfold laws_eqSig.f
    rw [if_pos rfl, if_pos rfl]
theorem eqSigS_refl (x : List S49) (hx : x.length ≤ 9223372036854775806) : Ev (fun k => laws_eqSigS.f k x x) true := by
  unfold laws_eqSigS.f
  exact ev_pos rfl (eqSigS_l x hx x.length 0 (by omega))

/-- What marking a row of n signatures from m on leaves. -/
def mkS (m : Int) (n : Nat) : List S49 := (List.range n).map fun i : Nat => ⟨m + 2 * (i : Int), m + 2 * (i : Int) + 1⟩
theorem mkS_length (m : Int) (n : Nat) : (mkS m n).length = n := by simp [mkS]
theorem mkS_get (m : Int) (n i : Nat) (h : i < (mkS m n).length) : (mkS m n)[i] = ⟨m + 2 * (i : Int), m + 2 * (i : Int) + 1⟩ := by simp [mkS]
theorem rdM_at (x : List S49) (i : Nat) (h : i < x.length) : rd_T49 x (i : Int) = x[i] := by simp [rd_T49, List.getD, h]
theorem markSig_l (n : Nat) (m : Int) (hm : 0 ≤ m) (hn : m + 2 * n ≤ 1000000000000000000) :
    ∀ (d i : Nat) (x : List S49), i + d = n → x.length = n → x.take i = mkS m i → Ev (fun k => laws_markSigS.l0 k x (m + 2 * (i : Int)) (i : Int)) (m + 2 * (n : Int), mkS m n) := by
  intro d
  induction d with
  | zero =>
    intro i x hi hx ht
    obtain rfl : i = n := by omega
    have e : x = mkS m i := by rw [← ht, List.take_of_length_le (by omega)]
    refine ev_step ?_
    simp only [laws_markSigS.l0]
    rw [← e]
    exact ev_neg (by omega) (ev_const rfl)
  | succ d ih =>
    intro i x hi hx ht
    have hix : i < x.length := by omega
    refine ev_step ?_
    simp only [laws_markSigS.l0]
    refine ev_pos (by omega) (ev_pos (by omega) (ev_bindc rfl ?_))
    rw [w64s (n := n) (by omega) (by omega), w64 (i := m + 2 * (i : Int) + 1) (by omega) (by omega), w64 (i := m + 2 * (i : Int) + 1 + 1) (by omega) (by omega), show m + 2 * (i : Int) + 1 + 1 = m + 2 * ((i + 1 : Nat) : Int) from by omega]
    rw [rdM_at x i hix, Int.toNat_natCast, rdM_at (x.set i _) i (by simpa using hix), List.getElem_set_self, List.set_set]
    refine ih (i + 1) _ (by omega) (by simpa using hx) ?_
    apply List.ext_getElem
    · simp [mkS_length]; omega
    · intro j h1 h2
      rw [mkS_get]
      simp only [List.getElem_take, List.getElem_set]
      by_cases hj : i = j
      · subst hj; simp
      · rw [if_neg hj]
        have hji : j < i := by
          have := mkS_length m (i + 1)
          omega
        have e := congrArg (fun l => l[j]?) ht
        simp only [List.getElem?_take, hji, if_true] at e
        rw [List.getElem?_eq_getElem (by omega), List.getElem?_eq_getElem (by rw [mkS_length]; omega), mkS_get] at e
        exact Option.some.inj e
theorem markSig_ev (x : List S49) (hx : x.length ≤ 100000000000000000) (m : Int) (h0 : 0 ≤ m) (h1 : m ≤ 100000000000000000) : Ev (fun k => laws_markSigS.f k x m) (m + 2 * (x.length : Int), mkS m x.length) := by
  unfold laws_markSigS.f
  have h := markSig_l x.length m h0 (by omega) x.length 0 x (by omega) rfl (by simp [mkS])
  simpa using h
theorem heldSig_l (n : Nat) (m : Int) (hm : 0 ≤ m) (hn : m + 2 * n ≤ 1000000000000000000) :
    ∀ (d i : Nat), i + d = n → Ev (fun k => laws_heldSigS.l0 k (mkS m n) (m + 2 * (i : Int)) (i : Int)) (m + 2 * (n : Int)) := by
  intro d
  induction d with
  | zero =>
    intro i hi
    obtain rfl : i = n := by omega
    refine ev_step ?_
    simp only [laws_heldSigS.l0]
    exact ev_neg (by rw [mkS_length]; omega) (ev_const rfl)
  | succ d ih =>
    intro i hi
    have hlt : i < (mkS m n).length := by rw [mkS_length]; omega
    refine ev_step ?_
    simp only [laws_heldSigS.l0]
    rw [rdM_at _ i hlt, mkS_get]
    refine ev_pos (by omega) (ev_pos (by omega) (ev_pos rfl (ev_pos (by rw [w64 (by omega) (by omega)]) ?_)))
    rw [w64s (n := n) (by omega) (by omega), w64 (i := m + 2 * (i : Int) + 1) (by omega) (by omega), w64 (i := m + 2 * (i : Int) + 1 + 1) (by omega) (by omega), show m + 2 * (i : Int) + 1 + 1 = m + 2 * ((i + 1 : Nat) : Int) from by omega]
    exact ih (i + 1) (by omega)
theorem heldSig_ev (n : Nat) (hx : n ≤ 100000000000000000) (m : Int) (h0 : 0 ≤ m) (h1 : m ≤ 100000000000000000) : Ev (fun k => laws_heldSigS.f k (mkS m n) m) (m + 2 * (n : Int)) := by
  unfold laws_heldSigS.f
  have h := heldSig_l n m h0 (by omega) n 0 (by omega)
  simpa using h

theorem InRange_v (a b c : Int) : impl_InRange.f a b c = some (decide (b ≤ a ∧ a ≤ c)) := by
  unfold impl_InRange.f
  by_cases h : b ≤ a <;> simp [h]

theorem l1In_v (a b c : Int) : spec_l1In.f a b c = some (decide (b ≤ a ∧ a ≤ c)) := by
  unfold spec_l1In.f
  by_cases h : b ≤ a <;> simp [h]

theorem Mod_v (a b : Int) : spec_Mod.f a b = some (if 1 ≤ b ∧ b ≤ 1000000000000 then a % b else 0) := by
  unfold spec_Mod.f
  rw [l1In_v]
  by_cases h2 : 1 ≤ b ∧ b ≤ 1000000000000
  · have hb : ¬ b = 0 := by omega
    have h3 := Int.lt_tmod_of_pos a (show 0 < b by omega)
    have h4 := Int.tmod_lt_of_pos a (show 0 < b by omega)
    rw [if_pos h2]
    simp only [h2, hb, and_self, decide_true, Option.bind_some, if_true, if_false]
    rw [w64 (i := Int.tmod a b + b) (by omega) (by omega), Int.tmod_eq_emod_of_nonneg (a := Int.tmod a b + b) (by omega)]
    congr 1
    have h5 := Int.tmod_add_tdiv_mul a b
    rw [Int.add_emod_right]
    conv => rhs; rw [← h5]
    rw [Int.add_mul_emod_self_right]
  · rw [if_neg h2]
    simp [h2]
theorem iMod_v (a b : Int) : impl_Mod.f a b = some (if 1 ≤ b ∧ b ≤ 1000000000000 then a % b else 0) := by
  unfold impl_Mod.f
  rw [InRange_v]
  by_cases h2 : 1 ≤ b ∧ b ≤ 1000000000000
  · have hb : ¬ b = 0 := by omega
    have h3 := Int.lt_tmod_of_pos a (show 0 < b by omega)
    have h4 := Int.tmod_lt_of_pos a (show 0 < b by omega)
    rw [if_pos h2]
    simp only [h2, hb, and_self, decide_true, Option.bind_some, if_true, if_false]
    rw [w64 (i := Int.tmod a b + b) (by omega) (by omega), Int.tmod_eq_emod_of_nonneg (a := Int.tmod a b + b) (by omega)]
    congr 1
    have h5 := Int.tmod_add_tdiv_mul a b
    rw [Int.add_emod_right]
    conv => rhs; rw [← h5]
    rw [Int.add_mul_emod_self_right]
  · rw [if_neg h2]
    simp [h2]

/-- One round of the hash. -/
def hstep (d v : Int) : Int := (d * 1000003 + v % 2147483647 + 13) % 2147483647
def hashL (l : List Int) : Int := l.foldl hstep 11
theorem hstep_bd (d v : Int) : 0 ≤ hstep d v ∧ hstep d v < 2147483647 := by unfold hstep; omega
theorem hfold_bd (l : List Int) : ∀ d : Int, 0 ≤ d → d < 2147483647 → 0 ≤ l.foldl hstep d ∧ l.foldl hstep d < 2147483647 := by
  induction l with
  | nil => intro d h0 h1; exact ⟨h0, h1⟩
  | cons a l ih => intro d _ _; exact ih _ (hstep_bd d a).1 (hstep_bd d a).2
theorem hashL_bd (l : List Int) : 0 ≤ hashL l ∧ hashL l < 2147483647 := hfold_bd l 11 (by omega) (by omega)
theorem hround (d v : Int) (h0 : 0 ≤ d) (h1 : d < 2147483647) : Int.tmod (wrap64 ((wrap64 ((wrap64 (d * 1000003)) + v % 2147483647)) + 13)) 2147483647 = hstep d v := by
  have hv0 : 0 ≤ v % 2147483647 := by omega
  have hv1 : v % 2147483647 < 2147483647 := by omega
  rw [w64 (i := d * 1000003) (by omega) (by omega), w64 (i := d * 1000003 + v % 2147483647) (by omega) (by omega), w64 (i := d * 1000003 + v % 2147483647 + 13) (by omega) (by omega), Int.tmod_eq_emod_of_nonneg (by omega)]
  rfl
theorem Mod_at (v : Int) : spec_Mod.f v 2147483647 = some (v % 2147483647) := by
  rw [Mod_v, if_pos (by omega)]
theorem Hash_sl (x : List Int) (hx : x.length ≤ 9223372036854775806) : ∀ (m i : Nat) (d : Int), i + m = x.length → 0 ≤ d → d < 2147483647 → Ev (fun k => spec_Hash.l0 k x d (i : Int)) ((x.drop i).foldl hstep d) := by
  intro m
  induction m with
  | zero =>
    intro i d hi _ _
    refine ev_step ?_
    simp only [spec_Hash.l0]
    rw [List.drop_of_length_le (by omega)]
    exact ev_neg (by omega) (ev_const rfl)
  | succ m ih =>
    intro i d hi h0 h1
    have hlt : i < x.length := by omega
    refine ev_step ?_
    simp only [spec_Hash.l0]
    refine ev_pos (by omega) (ev_pos (by omega) (ev_bindc (Mod_at _) ?_))
    rw [hround _ _ h0 h1, w64s (n := x.length) hlt (by omega), rd_at x i hlt, List.drop_eq_getElem_cons hlt]
    exact ih (i + 1) _ (by omega) (hstep_bd _ _).1 (hstep_bd _ _).2
theorem Hash_sev (x : List Int) (hx : x.length ≤ 9223372036854775806) : Ev (fun k => spec_Hash.f k x) (hashL x) := by
  unfold spec_Hash.f
  exact Hash_sl x hx x.length 0 11 (by omega) (by omega) (by omega)
theorem iMod_at (v : Int) : impl_Mod.f v 2147483647 = some (v % 2147483647) := by
  rw [iMod_v, if_pos (by omega)]
theorem Hash_il (x : List Int) (hx : x.length ≤ 9223372036854775806) : ∀ (m i : Nat) (d : Int), i + m = x.length → 0 ≤ d → d < 2147483647 → Ev (fun k => impl_Hash.l0 k d x (x.length : Int) (i : Int)) ((x.drop i).foldl hstep d) := by
  intro m
  induction m with
  | zero =>
    intro i d hi _ _
    refine ev_step ?_
    simp only [impl_Hash.l0]
    rw [List.drop_of_length_le (by omega)]
    exact ev_neg (by omega) (ev_const rfl)
  | succ m ih =>
    intro i d hi h0 h1
    have hlt : i < x.length := by omega
    refine ev_step ?_
    simp only [impl_Hash.l0]
    refine ev_pos (by omega) (ev_pos (by omega) (ev_pos (by omega) (ev_bindc (iMod_at _) ?_)))
    rw [hround _ _ h0 h1, w64s (n := x.length) hlt (by omega), rd_at x i hlt, List.drop_eq_getElem_cons hlt]
    exact ih (i + 1) _ (by omega) (hstep_bd _ _).1 (hstep_bd _ _).2
theorem Hash_iev (x : List Int) (hx : x.length ≤ 9223372036854775806) : Ev (fun k => impl_Hash.f k x) (hashL x) := by
  unfold impl_Hash.f
  exact Hash_il x hx x.length 0 11 (by omega) (by omega) (by omega)

def khL (a : Int) (l : List Int) : Int := hashL (a :: (l ++ [a]))
theorem khL_bd (a : Int) (l : List Int) : 0 ≤ khL a l ∧ khL a l < 2147483647 := hashL_bd _
theorem KH_sev (a : Int) (l : List Int) (hl : l.length ≤ 10000000000000) : Ev (fun k => spec_KeyedHash.f k a l) (khL a l) := by
  unfold spec_KeyedHash.f
  refine ev_bindc rfl (ev_pos (by simp; omega) (ev_bindc rfl (ev_pos (by simp; omega) (ev_bind (Hash_sev _ (by simp; omega)) ?_))))
  unfold khL
  exact ev_const (by simp)
theorem KH_iev (a : Int) (l : List Int) (hl : l.length ≤ 10000000000000) : Ev (fun k => impl_KeyedHash.f k a l) (khL a l) := by
  unfold impl_KeyedHash.f
  exact ev_pos (by omega) (Hash_iev _ (by simp; omega))

def tagL (a : Int) (l : List Int) : Int := khL a (223 :: l)
theorem TO_sev (a : Int) (l : List Int) (hl : l.length ≤ 1000000000000) : Ev (fun k => spec_TagOf.f k a l) (tagL a l) := by
  unfold spec_TagOf.f
  exact ev_bindc rfl (ev_pos (by simp; omega) (ev_bind (KH_sev a _ (by simp; omega)) (ev_const rfl)))
theorem TO_iev (a : Int) (l : List Int) (hl : l.length ≤ 1000000000000) : Ev (fun k => impl_TagOf.f k a l) (tagL a l) := by
  unfold impl_TagOf.f
  exact ev_bindc rfl (ev_pos (by simp; omega) (ev_bind (KH_iev a _ (by simp; omega)) (ev_const rfl)))

theorem l6Has_l (x : List Int) (v : Int) (hx : x.length ≤ 9223372036854775806) (b : Bool) : ∀ (d i : Nat), i + d = x.length → (b = true ↔ v ∈ x.drop i) → Ev (fun k => spec_l6Has.l0 k x v (i : Int)) b := by
  intro d
  induction d with
  | zero =>
    intro i hi hb
    rw [List.drop_of_length_le (by omega)] at hb
    obtain rfl : b = false := by rw [Bool.eq_false_iff]; intro z; simpa using hb.mp z
    refine ev_step ?_
    simp only [spec_l6Has.l0]
    exact ev_neg (by omega) (ev_const rfl)
  | succ d ih =>
    intro i hi hb
    have hlt : i < x.length := by omega
    rw [List.drop_eq_getElem_cons hlt, List.mem_cons] at hb
    refine ev_step ?_
    simp only [spec_l6Has.l0]
    rw [rd_at x i hlt, w64s (n := x.length) hlt (by omega)]
    refine ev_pos (by omega) (ev_pos (by omega) (ev_dec (fun h => ?_) (fun h => ?_)))
    · rw [hb.mpr (Or.inl h.symm)]
      exact ev_const rfl
    · exact ih (i + 1) (by omega) (hb.trans ⟨fun z => z.resolve_left (fun e => h e.symm), Or.inr⟩)
theorem l6Has_ev (x : List Int) (v : Int) (hx : x.length ≤ 9223372036854775806) (b : Bool) (hb : b = true ↔ v ∈ x) : Ev (fun k => spec_l6Has.f k x v) b := by
  unfold spec_l6Has.f
  exact l6Has_l x v hx b x.length 0 (by omega) (by simpa using hb)
theorem slIndex_l (x : List Int) (v : Int) (hx : x.length ≤ 9223372036854775806) (b : Bool) : ∀ (d i : Nat), i + d = x.length → (b = true ↔ v ∈ x.drop i) → ∃ r : Int, Ev (fun k => slices_Index_int_int.l0 k x v (x.length : Int) (i : Int)) r ∧ (b = true ↔ 0 ≤ r) := by
  intro d
  induction d with
  | zero =>
    intro i hi hb
    rw [List.drop_of_length_le (by omega)] at hb
    refine ⟨-1, ev_step ?_, hb.trans (by simp)⟩
    simp only [slices_Index_int_int.l0]
    exact ev_neg (by omega) (ev_const rfl)
  | succ d ih =>
    intro i hi hb
    have hlt : i < x.length := by omega
    rw [List.drop_eq_getElem_cons hlt, List.mem_cons] at hb
    by_cases h : v = x[i]
    · refine ⟨(i : Int), ev_step ?_, ⟨fun _ => by omega, fun _ => hb.mpr (Or.inl h)⟩⟩
      simp only [slices_Index_int_int.l0]
      rw [rd_at x i hlt]
      exact ev_pos (by omega) (ev_pos (by omega) (ev_pos (by omega) (ev_pos h (ev_const rfl))))
    · obtain ⟨r, e, hr⟩ := ih (i + 1) (by omega) (hb.trans ⟨fun z => z.resolve_left h, Or.inr⟩)
      refine ⟨r, ev_step ?_, hr⟩
      simp only [slices_Index_int_int.l0]
      rw [rd_at x i hlt, w64s (n := x.length) hlt (by omega)]
      exact ev_pos (by omega) (ev_pos (by omega) (ev_pos (by omega) (ev_neg h e)))
theorem slContains_ev (x : List Int) (v : Int) (hx : x.length ≤ 9223372036854775806) (b : Bool) (hb : b = true ↔ v ∈ x) : Ev (fun k => slices_Contains_int_int.f k x v) b := by
  unfold slices_Contains_int_int.f slices_Index_int_int.f
  obtain ⟨r, e, hr⟩ := slIndex_l x v hx b x.length 0 (by omega) (by simpa using hb)
  refine ev_bind e (ev_const ?_)
  congr 1
  rw [Bool.eq_iff_iff, hr, decide_eq_true_iff]

/-- The signatures of the keys that are held, behind those that are there. -/
def sgnL (h m : List Int) : List Int → List S49 → List S49
  | [], out => out
  | key :: l, out => sgnL h m l (if decide (key ∈ h) = true then out ++ [⟨key, tagL key m⟩] else out)
theorem sgnL_len (h m : List Int) : ∀ l out, (sgnL h m l out).length ≤ out.length + l.length
  | [], out => by simp [sgnL]
  | key :: l, out => by
    have z := sgnL_len h m l (if decide (key ∈ h) = true then out ++ [⟨key, tagL key m⟩] else out)
    simp only [sgnL, List.length_cons]
    split at z
    · rename_i q; rw [if_pos q]; simp at z; omega
    · rename_i q; rw [if_neg q]; omega
theorem SignBy_sl (h m l : List Int) (a : Int) (hh : h.length ≤ 1000000000000) (hm : m.length ≤ 1000000000000) (hl : l.length ≤ 1000000000000) : ∀ (d i : Nat) (out : List S49), i + d = l.length → out.length ≤ i →
    Ev (fun k => spec_SignBy.l0 k h m out (i : Int) l a) (sgnL h m (l.drop i) out) := by
  intro d
  induction d with
  | zero =>
    intro i out hi _
    refine ev_step ?_
    simp only [spec_SignBy.l0]
    rw [List.drop_of_length_le (by omega)]
    exact ev_neg (by omega) (ev_const rfl)
  | succ d ih =>
    intro i out hi ho
    have hlt : i < l.length := by omega
    refine ev_step ?_
    simp only [spec_SignBy.l0]
    rw [rd_at l i hlt, w64s (n := l.length) hlt (by omega), List.drop_eq_getElem_cons hlt]
    refine ev_pos (by omega) (ev_pos (by omega) (ev_bind (l6Has_ev h l[i] (by omega) (decide (l[i] ∈ h)) (by simp)) ?_))
    simp only [sgnL]
    refine ev_dec (fun z => ?_) (fun z => ?_)
    · rw [if_pos z]
      exact ev_bind (TO_sev l[i] m hm) (ev_pos (by omega) (ih (i + 1) _ (by omega) (by simp; omega)))
    · rw [if_neg z]
      exact ih (i + 1) _ (by omega) (by omega)
theorem SignBy_sev (h m l : List Int) (a : Int) (hh : h.length ≤ 1000000000000) (hm : m.length ≤ 1000000000000) (hl : l.length ≤ 1000000000000) : Ev (fun k => spec_SignBy.f k h l a m) (sgnL h m l []) := by
  unfold spec_SignBy.f
  exact SignBy_sl h m l a hh hm hl l.length 0 [] (by omega) (by simp)
theorem SignBy_il (h m l : List Int) (hh : h.length ≤ 1000000000000) (hm : m.length ≤ 1000000000000) (hl : l.length ≤ 1000000000000) : ∀ (d i : Nat) (out : List S49), i + d = l.length → out.length ≤ i →
    Ev (fun k => impl_SignBy.l0 k h m out l (l.length : Int) (i : Int)) (sgnL h m (l.drop i) out) := by
  intro d
  induction d with
  | zero =>
    intro i out hi _
    refine ev_step ?_
    simp only [impl_SignBy.l0]
    rw [List.drop_of_length_le (by omega)]
    exact ev_neg (by omega) (ev_const rfl)
  | succ d ih =>
    intro i out hi ho
    have hlt : i < l.length := by omega
    refine ev_step ?_
    simp only [impl_SignBy.l0]
    rw [rd_at l i hlt, w64s (n := l.length) hlt (by omega), List.drop_eq_getElem_cons hlt]
    refine ev_pos (by omega) (ev_pos (by omega) (ev_pos (by omega) (ev_bind (slContains_ev h l[i] (by omega) (decide (l[i] ∈ h)) (by simp)) ?_)))
    simp only [sgnL]
    refine ev_dec (fun z => ?_) (fun z => ?_)
    · rw [if_pos z]
      exact ev_bind (TO_iev l[i] m hm) (ev_pos (by omega) (ih (i + 1) _ (by omega) (by simp; omega)))
    · rw [if_neg z]
      exact ih (i + 1) _ (by omega) (by omega)
theorem SignBy_iev (h m l : List Int) (a : Int) (hh : h.length ≤ 1000000000000) (hm : m.length ≤ 1000000000000) (hl : l.length ≤ 1000000000000) : Ev (fun k => impl_SignBy.f k h l a m) (sgnL h m l []) := by
  unfold impl_SignBy.f
  exact SignBy_il h m l hh hm hl l.length 0 [] (by omega) (by simp)
end OfFnExactSignBy
open OfFnExactSignBy in
theorem FnExactSignBy : laws_FnExactSignBy.Pure := by
  intro h l n m hh _ hl _ _ hm _
  apply Ev.rounds
  unfold laws_FnExactSignBy.f
  refine ev_dec (fun _ => ev_const rfl) (fun h1 => ev_dec (fun _ => ev_const rfl) (fun h2 => ?_))
  refine ev_bindc (szKeys_v l n 1048576 hl (by omega) (by omega)) (ev_dec (fun _ => ev_const rfl) (fun h0 => ?_))
  have hb : l.length ≤ 1048576 := by split at h0 <;> omega
  have hhl : h.length ≤ 1048576 := by omega
  have hml : m.length ≤ 1048576 := by omega
  clear h0 h1 h2
  have e0 := toIntS_ev h (by omega)
  have e1 := toKeys_ev l n (by omega)
  have e2 := toIntS_ev m (by omega)
  have s := SignBy_sev h m l n (by omega) (by omega) (by omega)
  have g := SignBy_iev h m l n (by omega) (by omega) (by omega)
  have hr := sgnL_len h m l []
  simp only [List.length_nil] at hr
  generalize sgnL h m l [] = r at s g hr
  have q0 := eqIntS_refl h (by omega)
  have q1 := eqKeys_refl l n (by omega)
  have q2 := eqIntS_refl m (by omega)
  have qr := eqSigS_refl r (by omega)
  have m0 := markIntS_ev h (by omega) 1 (by omega) (by omega)
  have m1 := markKeys_ev l n (by omega) (1 + (h.length : Int)) (by omega) (by omega)
  have m2 := markIntS_ev m (by omega) (1 + (h.length : Int) + (l.length : Int)) (by omega) (by omega)
  have m3 := markSig_ev r (by omega) 1 (by omega) (by omega)
  have hd := heldSig_ev r.length (by omega) 1 (by omega) (by omega)
  repeat' first
    | exact ev_const rfl
    | refine ev_bind e0 ?_
    | refine ev_bind e1 ?_
    | refine ev_bind e2 ?_
    | refine ev_bind s ?_
    | refine ev_bind g ?_
    | refine ev_bind q0 ?_
    | refine ev_bind q1 ?_
    | refine ev_bind q2 ?_
    | refine ev_bind qr ?_
    | refine ev_bind m0 ?_
    | refine ev_bind m1 ?_
    | refine ev_bind m2 ?_
    | refine ev_bind m3 ?_
    | refine ev_bind hd ?_
    | refine ev_pos rfl ?_
    | refine ev_neg (by first | omega | (simp; done) | (simp; omega)) ?_
    | refine ev_pos (by first | omega | (simp; done) | (simp; omega)) ?_
    | (refine ev_step ?_; simp only [laws_FnExactSignBy.j0]; refine ev_neg (by simp) ?_)
end Go.Proofs.Ytaebboanblfmjaa.Pure
