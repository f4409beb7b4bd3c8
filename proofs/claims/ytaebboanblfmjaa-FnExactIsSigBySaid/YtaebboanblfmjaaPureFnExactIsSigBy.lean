/- The pure statement of FnExactIsSigBy: what the printed functions compute answers true for all arguments within the printed bounds. -/
import Derived.Test.YtaebboanblfmjaaPFnExactIsSigByx2
import Derived.Test.YtaebboanblfmjaaKit
namespace Go.Proofs.Ytaebboanblfmjaa.Pure
open Go.RowKit Go.Proofs.Ytaebboanblfmjaa.PFnExactIsSigBy Go.Proofs.YtaebboanblfmjaaW.PrintWords Go.Proofs.YtaebboanblfmjaaW.PrintLast Go.Proofs.Ytaebboanblfmjaa.Kit
set_option linter.unusedVariables false
set_option linter.unusedSimpArgs false
namespace OfFnExactIsSigBy
theorem toIntS_ev (x : List Int) (hx : x.length ≤ 35184372088832) : Ev (fun k => laws_toIntS.f k x) x := by
  unfold laws_toIntS.f
  refine ev_pos (by omega) (ev_pos (by omega) ?_)
  exact copy_loop (L := laws_toIntS.l0) (rdf := rd) (fun _ _ _ _ => rfl) rd_at x (by omega) x.length 0 _ (by omega) (by simp) (by simp)

theorem eqIntS_ev (x y : List Int) (hx : x.length ≤ 9223372036854775806) (b : Bool) (hb : b = true ↔ x = y) : Ev (fun k => laws_eqIntS.f k x y) b := by
  unfold laws_eqIntS.f
  refine ev_dec (fun h => ?_) (fun h => ?_)
  · exact eq_loop (L := laws_eqIntS.l0) (c := fun x y i => rd x i = rd y i) (fun _ _ _ _ => rfl) (fun x y i h h' => by rw [rd_at x i h, rd_at y i h']) x y hx (by omega) b x.length 0 (by omega) (by simpa using hb)
  · have e : b = false := by
      rw [Bool.eq_false_iff]
      intro z
      exact h (by rw [hb.mp z])
    subst e
    exact ev_const rfl
theorem eqIntS_refl (x : List Int) (hx : x.length ≤ 9223372036854775806) : Ev (fun k => laws_eqIntS.f k x x) true := eqIntS_ev x x hx true (by simp)

theorem InRange_v (a b c : Int) : impl_InRange.f a b c = some (decide (b ≤ a ∧ a ≤ c)) := by
  unfold impl_InRange.f
  by_cases h : b ≤ a <;> simp [h]

theorem l1In_v (a b c : Int) : spec_l1In.f a b c = some (decide (b ≤ a ∧ a ≤ c)) := by
  unfold spec_l1In.f
  by_cases h : b ≤ a <;> simp [h]

theorem Mod_v (a b : Int) : spec_Mod.f a b = some (if 1 ≤ b ∧ b ≤ 1000000000000 then a % b else 0) := by
  unfold spec_Mod.f
  rw [l1In_v]
  by_cases h2 : 1 ≤ b ∧ b ≤ 1000000000000
  · have hb : ¬ b = 0 := by omega
    have h3 := Int.lt_tmod_of_pos a (show 0 < b by omega)
    have h4 := Int.tmod_lt_of_pos a (show 0 < b by omega)
    rw [if_pos h2]
    simp only [h2, hb, and_self, decide_true, Option.bind_some, if_true, if_false]
    rw [w64 (i := Int.tmod a b + b) (by omega) (by omega), Int.tmod_eq_emod_of_nonneg (a := Int.tmod a b + b) (by omega)]
    congr 1
    have h5 := Int.tmod_add_tdiv_mul a b
    rw [Int.add_emod_right]
    conv => rhs; rw [← h5]
    rw [Int.add_mul_emod_self_right]
  · rw [if_neg h2]
    simp [h2]
theorem iMod_v (a b : Int) : impl_Mod.f a b = some (if 1 ≤ b ∧ b ≤ 1000000000000 then a % b else 0) := by
  unfold impl_Mod.f
  rw [InRange_v]
  by_cases h2 : 1 ≤ b ∧ b ≤ 1000000000000
  · have hb : ¬ b = 0 := by omega
    have h3 := Int.lt_tmod_of_pos a (show 0 < b by omega)
    have h4 := Int.tmod_lt_of_pos a (show 0 < b by omega)
    rw [if_pos h2]
    simp only [h2, hb, and_self, decide_true, Option.bind_some, if_true, if_false]
    rw [w64 (i := Int.tmod a b + b) (by omega) (by omega), Int.tmod_eq_emod_of_nonneg (a := Int.tmod a b + b) (by omega)]
    congr 1
    have h5 := Int.tmod_add_tdiv_mul a b
    rw [Int.add_emod_right]
    conv => rhs; rw [← h5]
    rw [Int.add_mul_emod_self_right]
  · rw [if_neg h2]
    simp [h2]

/-- One round of the hash. -/
def hstep (d v : Int) : Int := (d * 1000003 + v % 2147483647 + 13) % 2147483647
def hashL (l : List Int) : Int := l.foldl hstep 11
theorem hstep_bd (d v : Int) : 0 ≤ hstep d v ∧ hstep d v < 2147483647 := by unfold hstep; omega
theorem hfold_bd (l : List Int) : ∀ d : Int, 0 ≤ d → d < 2147483647 → 0 ≤ l.foldl hstep d ∧ l.foldl hstep d < 2147483647 := by
  induction l with
  | nil => intro d h0 h1; exact ⟨h0, h1⟩
  | cons a l ih => intro d _ _; exact ih _ (hstep_bd d a).1 (hstep_bd d a).2
theorem hashL_bd (l : List Int) : 0 ≤ hashL l ∧ hashL l < 2147483647 := hfold_bd l 11 (by omega) (by omega)
theorem hround (d v : Int) (h0 : 0 ≤ d) (h1 : d < 2147483647) : Int.tmod (wrap64 ((wrap64 ((wrap64 (d * 1000003)) + v % 2147483647)) + 13)) 2147483647 = hstep d v := by
  have hv0 : 0 ≤ v % 2147483647 := by omega
  have hv1 : v % 2147483647 < 2147483647 := by omega
  rw [w64 (i := d * 1000003) (by omega) (by omega), w64 (i := d * 1000003 + v % 2147483647) (by omega) (by omega), w64 (i := d * 1000003 + v % 2147483647 + 13) (by omega) (by omega), Int.tmod_eq_emod_of_nonneg (by omega)]
  rfl
theorem Mod_at (v : Int) : spec_Mod.f v 2147483647 = some (v % 2147483647) := by
  rw [Mod_v, if_pos (by omega)]
theorem Hash_sl (x : List Int) (hx : x.length ≤ 9223372036854775806) : ∀ (m i : Nat) (d : Int), i + m = x.length → 0 ≤ d → d < 2147483647 → Ev (fun k => spec_Hash.l0 k x d (i : Int)) ((x.drop i).foldl hstep d) := by
  intro m
  induction m with
  | zero =>
    intro i d hi _ _
    refine ev_step ?_
    simp only [spec_Hash.l0]
    rw [List.drop_of_length_le (by omega)]
    exact ev_neg (by omega) (ev_const rfl)
  | succ m ih =>
    intro i d hi h0 h1
    have hlt : i < x.length := by omega
    refine ev_step ?_
    simp only [spec_Hash.l0]
    refine ev_pos (by omega) (ev_pos (by omega) (ev_bindc (Mod_at _) ?_))
    rw [hround _ _ h0 h1, w64s (n := x.length) hlt (by omega), rd_at x i hlt, List.drop_eq_getElem_cons hlt]
    exact ih (i + 1) _ (by omega) (hstep_bd _ _).1 (hstep_bd _ _).2
theorem Hash_sev (x : List Int) (hx : x.length ≤ 9223372036854775806) : Ev (fun k => spec_Hash.f k x) (hashL x) := by
  unfold spec_Hash.f
  exact Hash_sl x hx x.length 0 11 (by omega) (by omega) (by omega)
theorem iMod_at (v : Int) : impl_Mod.f v 2147483647 = some (v % 2147483647) := by
  rw [iMod_v, if_pos (by omega)]
theorem Hash_il (x : List Int) (hx : x.length ≤ 9223372036854775806) : ∀ (m i : Nat) (d : Int), i + m = x.length → 0 ≤ d → d < 2147483647 → Ev (fun k => impl_Hash.l0 k d x (x.length : Int) (i : Int)) ((x.drop i).foldl hstep d) := by
  intro m
  induction m with
  | zero =>
    intro i d hi _ _
    refine ev_step ?_
    simp only [impl_Hash.l0]
    rw [List.drop_of_length_le (by omega)]
    exact ev_neg (by omega) (ev_const rfl)
  | succ m ih =>
    intro i d hi h0 h1
    have hlt : i < x.length := by omega
    refine ev_step ?_
    simp only [impl_Hash.l0]
    refine ev_pos (by omega) (ev_pos (by omega) (ev_pos (by omega) (ev_bindc (iMod_at _) ?_)))
    rw [hround _ _ h0 h1, w64s (n := x.length) hlt (by omega), rd_at x i hlt, List.drop_eq_getElem_cons hlt]
    exact ih (i + 1) _ (by omega) (hstep_bd _ _).1 (hstep_bd _ _).2
theorem Hash_iev (x : List Int) (hx : x.length ≤ 9223372036854775806) : Ev (fun k => impl_Hash.f k x) (hashL x) := by
  unfold impl_Hash.f
  exact Hash_il x hx x.length 0 11 (by omega) (by omega) (by omega)

def khL (a : Int) (l : List Int) : Int := hashL (a :: (l ++ [a]))
theorem khL_bd (a : Int) (l : List Int) : 0 ≤ khL a l ∧ khL a l < 2147483647 := hashL_bd _
theorem KH_sev (a : Int) (l : List Int) (hl : l.length ≤ 10000000000000) : Ev (fun k => spec_KeyedHash.f k a l) (khL a l) := by
  unfold spec_KeyedHash.f
  refine ev_bindc rfl (ev_pos (by simp; omega) (ev_bindc rfl (ev_pos (by simp; omega) (ev_bind (Hash_sev _ (by simp; omega)) ?_))))
  unfold khL
  exact ev_const (by simp)
theorem KH_iev (a : Int) (l : List Int) (hl : l.length ≤ 10000000000000) : Ev (fun k => impl_KeyedHash.f k a l) (khL a l) := by
  unfold impl_KeyedHash.f
  exact ev_pos (by omega) (Hash_iev _ (by simp; omega))

def tagL (a : Int) (l : List Int) : Int := khL a (223 :: l)
theorem TO_sev (a : Int) (l : List Int) (hl : l.length ≤ 1000000000000) : Ev (fun k => spec_TagOf.f k a l) (tagL a l) := by
  unfold spec_TagOf.f
  exact ev_bindc rfl (ev_pos (by simp; omega) (ev_bind (KH_sev a _ (by simp; omega)) (ev_const rfl)))
theorem TO_iev (a : Int) (l : List Int) (hl : l.length ≤ 1000000000000) : Ev (fun k => impl_TagOf.f k a l) (tagL a l) := by
  unfold impl_TagOf.f
  exact ev_bindc rfl (ev_pos (by simp; omega) (ev_bind (KH_iev a _ (by simp; omega)) (ev_const rfl)))

def sigB (key tag : Int) (m : List Int) : Bool := decide (1 ≤ key ∧ key ≤ 99) && (tag == tagL key m)
theorem SB_sev (key tag : Int) (m : List Int) (hm : m.length ≤ 1000000000000) : Ev (fun k => spec_IsSigBy.f k key tag m) (sigB key tag m) := by
  unfold spec_IsSigBy.f sigB
  refine ev_bindc (l1In_v _ _ _) ?_
  by_cases h : 1 ≤ key ∧ key ≤ 99
  · refine ev_pos (by simpa using h) (ev_bind (TO_sev key m hm) (ev_const ?_))
    rw [decide_eq_true h, Bool.true_and]
  · rw [decide_eq_false h, Bool.false_and]
    exact ev_neg (by simp) (ev_const rfl)
theorem SB_key (a : Int) : impl_isKey.f a = some (decide (1 ≤ a ∧ a ≤ 99)) := by
  unfold impl_isKey.f
  rw [InRange_v]
  rfl
theorem SB_iev (key tag : Int) (m : List Int) (hm : m.length ≤ 1000000000000) : Ev (fun k => impl_IsSigBy.f k key tag m) (sigB key tag m) := by
  unfold impl_IsSigBy.f sigB
  refine ev_bindc (SB_key _) ?_
  by_cases h : 1 ≤ key ∧ key ≤ 99
  · refine ev_pos (by simpa using h) (ev_bind (TO_iev key m hm) (ev_const ?_))
    rw [decide_eq_true h, Bool.true_and]
  · rw [decide_eq_false h, Bool.false_and]
    exact ev_neg (by simp) (ev_const rfl)
end OfFnExactIsSigBy
open OfFnExactIsSigBy in
theorem FnExactIsSigBy : laws_FnExactIsSigBy.Pure := by
  intro key tag m _ _ hm _
  apply Ev.rounds
  unfold laws_FnExactIsSigBy.f laws_toSig.f
  refine ev_dec (fun _ => ev_const rfl) (fun h1 => ?_)
  have e := toIntS_ev m (by omega)
  have s := SB_sev key tag m (by omega)
  have g := SB_iev key tag m (by omega)
  generalize sigB key tag m = r at s g
  have q := eqIntS_refl m (by omega)
  refine ev_bindc rfl (ev_bind e (ev_bind s (ev_bind e (ev_bindc rfl (ev_bind g (ev_neg (by simp) ?_))))))
  exact ev_bind e (ev_bind q (ev_pos rfl (ev_const rfl)))
end Go.Proofs.Ytaebboanblfmjaa.Pure
