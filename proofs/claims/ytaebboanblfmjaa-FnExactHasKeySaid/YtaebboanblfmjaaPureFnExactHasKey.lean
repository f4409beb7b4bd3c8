/- The pure statement of FnExactHasKey: what the printed functions compute answers true for all arguments within the printed bounds. -/
import Derived.Test.YtaebboanblfmjaaPFnExactHasKeyx2
import Derived.Test.YtaebboanblfmjaaKit
namespace Go.Proofs.Ytaebboanblfmjaa.Pure
open Go.RowKit Go.Proofs.Ytaebboanblfmjaa.PFnExactHasKey Go.Proofs.YtaebboanblfmjaaW.PrintWords Go.Proofs.YtaebboanblfmjaaW.PrintLast Go.Proofs.Ytaebboanblfmjaa.Kit
set_option linter.unusedVariables false
set_option linter.unusedSimpArgs false
namespace OfFnExactHasKey
theorem szInt_v (l : List Int) (a : Int) (hl : l.length ≤ maxLen) (h0 : 0 ≤ a) (h1 : a ≤ 1048576) : laws_szIntS.f l a = some (if a < (l.length : Int) then -1 else a - (l.length : Int)) := by
  unfold maxLen at hl
  unfold laws_szIntS.f
  rw [w64 (i := a - (l.length : Int)) (by omega) (by omega)]
  by_cases h : a < (l.length : Int)
  · rw [if_pos h, if_pos (by omega)]
  · rw [if_neg h, if_neg (by omega)]
theorem szKeys_v (l : List Int) (n a : Int) (hl : l.length ≤ maxLen) (h0 : 0 ≤ a) (h1 : a ≤ 1048576) : laws_szKeys.f l n a = some (if a < (l.length : Int) then -1 else a - (l.length : Int)) := by
  unfold laws_szKeys.f
  rw [szInt_v l a hl h0 h1, Option.bind_some]
  by_cases h : a < (l.length : Int)
  · rw [if_pos h, if_pos (by omega)]
  · rw [if_neg h, if_neg (by omega)]

theorem toIntS_ev (x : List Int) (hx : x.length ≤ 35184372088832) : Ev (fun k => laws_toIntS.f k x) x := by
  unfold laws_toIntS.f
  refine ev_pos (by omega) (ev_pos (by omega) ?_)
  exact copy_loop (L := laws_toIntS.l0) (rdf := rd) (fun _ _ _ _ => rfl) rd_at x (by omega) x.length 0 _ (by omega) (by simp) (by simp)

theorem toKeys_ev (l : List Int) (n : Int) (hx : l.length ≤ 35184372088832) : Ev (fun k => laws_toKeys.f k l n) (l, n) := by
  unfold laws_toKeys.f
  exact ev_bind (toIntS_ev l hx) (ev_const rfl)

theorem eqIntS_ev (x y : List Int) (hx : x.length ≤ 9223372036854775806) (b : Bool) (hb : b = true ↔ x = y) : Ev (fun k => laws_eqIntS.f k x y) b := by
  unfold laws_eqIntS.f
  refine ev_dec (fun h => ?_) (fun h => ?_)
  · exact eq_loop (L := laws_eqIntS.l0) (c := fun x y i => rd x i = rd y i) (fun _ _ _ _ => rfl) (fun x y i h h' => by rw [rd_at x i h, rd_at y i h']) x y hx (by omega) b x.length 0 (by omega) (by simpa using hb)
  · have e : b = false := by
      rw [Bool.eq_false_iff]
      intro z
      exact h (by rw [hb.mp z])
    subst e
    exact ev_const rfl
theorem eqIntS_refl (x : List Int) (hx : x.length ≤ 9223372036854775806) : Ev (fun k => laws_eqIntS.f k x x) true := eqIntS_ev x x hx true (by simp)

theorem eqKeys_refl (l : List Int) (n : Int) (hl : l.length ≤ 9223372036854775806) : Ev (fun k => laws_eqKeys.f k l n l n) true := by
  unfold laws_eqKeys.f
  exact ev_bind (eqIntS_refl l hl) (ev_pos rfl (ev_pos rfl (ev_const rfl)))

theorem l6Has_l (x : List Int) (v : Int) (hx : x.length ≤ 9223372036854775806) (b : Bool) : ∀ (d i : Nat), i + d = x.length → (b = true ↔ v ∈ x.drop i) → Ev (fun k => spec_l6Has.l0 k x v (i : Int)) b := by
  intro d
  induction d with
  | zero =>
    intro i hi hb
    rw [List.drop_of_length_le (by omega)] at hb
    obtain rfl : b = false := by rw [Bool.eq_false_iff]; intro z; simpa using hb.mp z
    refine ev_step ?_
    simp only [spec_l6Has.l0]
    exact ev_neg (by omega) (ev_const rfl)
  | succ d ih =>
    intro i hi hb
    have hlt : i < x.length := by omega
    rw [List.drop_eq_getElem_cons hlt, List.mem_cons] at hb
    refine ev_step ?_
    simp only [spec_l6Has.l0]
    rw [rd_at x i hlt, w64s (n := x.length) hlt (by omega)]
    refine ev_pos (by omega) (ev_pos (by omega) (ev_dec (fun h => ?_) (fun h => ?_)))
    · rw [hb.mpr (Or.inl h.symm)]
      exact ev_const rfl
    · exact ih (i + 1) (by omega) (hb.trans ⟨fun z => z.resolve_left (fun e => h e.symm), Or.inr⟩)
theorem l6Has_ev (x : List Int) (v : Int) (hx : x.length ≤ 9223372036854775806) (b : Bool) (hb : b = true ↔ v ∈ x) : Ev (fun k => spec_l6Has.f k x v) b := by
  unfold spec_l6Has.f
  exact l6Has_l x v hx b x.length 0 (by omega) (by simpa using hb)
theorem slIndex_l (x : List Int) (v : Int) (hx : x.length ≤ 9223372036854775806) (b : Bool) : ∀ (d i : Nat), i + d = x.length → (b = true ↔ v ∈ x.drop i) → ∃ r : Int, Ev (fun k => slices_Index_int_int.l0 k x v (x.length : Int) (i : Int)) r ∧ (b = true ↔ 0 ≤ r) := by
  intro d
  induction d with
  | zero =>
    intro i hi hb
    rw [List.drop_of_length_le (by omega)] at hb
    refine ⟨-1, ev_step ?_, hb.trans (by simp)⟩
    simp only [slices_Index_int_int.l0]
    exact ev_neg (by omega) (ev_const rfl)
  | succ d ih =>
    intro i hi hb
    have hlt : i < x.length := by omega
    rw [List.drop_eq_getElem_cons hlt, List.mem_cons] at hb
    by_cases h : v = x[i]
    · refine ⟨(i : Int), ev_step ?_, ⟨fun _ => by omega, fun _ => hb.mpr (Or.inl h)⟩⟩
      simp only [slices_Index_int_int.l0]
      rw [rd_at x i hlt]
      exact ev_pos (by omega) (ev_pos (by omega) (ev_pos (by omega) (ev_pos h (ev_const rfl))))
    · obtain ⟨r, e, hr⟩ := ih (i + 1) (by omega) (hb.trans ⟨fun z => z.resolve_left h, Or.inr⟩)
      refine ⟨r, ev_step ?_, hr⟩
      simp only [slices_Index_int_int.l0]
      rw [rd_at x i hlt, w64s (n := x.length) hlt (by omega)]
      exact ev_pos (by omega) (ev_pos (by omega) (ev_pos (by omega) (ev_neg h e)))
theorem slContains_ev (x : List Int) (v : Int) (hx : x.length ≤ 9223372036854775806) (b : Bool) (hb : b = true ↔ v ∈ x) : Ev (fun k => slices_Contains_int_int.f k x v) b := by
  unfold slices_Contains_int_int.f slices_Index_int_int.f
  obtain ⟨r, e, hr⟩ := slIndex_l x v hx b x.length 0 (by omega) (by simpa using hb)
  refine ev_bind e (ev_const ?_)
  congr 1
  rw [Bool.eq_iff_iff, hr, decide_eq_true_iff]
end OfFnExactHasKey
open OfFnExactHasKey in
theorem FnExactHasKey : laws_FnExactHasKey.Pure := by
  intro l n v hl _ _ _
  apply Ev.rounds
  unfold laws_FnExactHasKey.f spec_HasKey.f impl_HasKey.f
  refine ev_bindc (szKeys_v l n 1048576 hl (by omega) (by omega)) (ev_dec (fun _ => ev_const rfl) (fun h0 => ?_))
  have hb : l.length ≤ 1048576 := by split at h0 <;> omega
  have e := toKeys_ev l n (by omega)
  have s := l6Has_ev l v (by omega) (decide (v ∈ l)) (by simp)
  have g := slContains_ev l v (by omega) (decide (v ∈ l)) (by simp)
  have q := eqKeys_refl l n (by omega)
  refine ev_bind e (ev_bind (ev_bind s (ev_const rfl)) (ev_bind e (ev_bind (ev_bind g (ev_const rfl)) (ev_neg (by simp) ?_))))
  exact ev_bind e (ev_bind q (ev_pos rfl (ev_const rfl)))
end Go.Proofs.Ytaebboanblfmjaa.Pure
