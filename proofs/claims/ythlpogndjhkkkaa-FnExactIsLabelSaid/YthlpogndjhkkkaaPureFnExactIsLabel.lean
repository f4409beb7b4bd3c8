/- The pure statement of FnExactIsLabel: what the printed functions compute answers true for all arguments within the printed bounds. -/
import Derived.Test.YthlpogndjhkkkaaPFnExactIsLabelx2
import Derived.Test.YthlpogndjhkkkaaKit
namespace Go.Proofs.Ythlpogndjhkkkaa.Pure
open Go.RowKit Go.Proofs.Ythlpogndjhkkkaa.PFnExactIsLabel Go.Proofs.YthlpogndjhkkkaaW.PrintWords Go.Proofs.YthlpogndjhkkkaaW.PrintLast Go.Proofs.Ythlpogndjhkkkaa.Kit
set_option linter.unusedVariables false
set_option linter.unusedSimpArgs false
namespace OfFnExactIsLabel
theorem InRange_v (a b c : Int) : impl_InRange.f a b c = some (decide (b ≤ a ∧ a ≤ c)) := by
  unfold impl_InRange.f
  by_cases h : b ≤ a <;> simp [h]

theorem l1In_v (a b c : Int) : spec_l1In.f a b c = some (decide (b ≤ a ∧ a ≤ c)) := by
  unfold spec_l1In.f
  by_cases h : b ≤ a <;> simp [h]

/-- A byte of a label. -/
def okc (c : Int) : Prop := (97 ≤ c ∧ c ≤ 122) ∨ (48 ≤ c ∧ c ≤ 57) ∨ c = 45
instance (c : Int) : Decidable (okc c) := by unfold okc; exact inferInstance
/-- Is a string a label. -/
def isLab (s : ByteArray) : Prop := 1 ≤ s.size ∧ s.size ≤ 8 ∧ (∀ j : Nat, j < s.size → okc (bt s j)) ∧ bt s 0 ≠ 45 ∧ bt s ((s.size : Int) - 1) ≠ 45
theorem IsLabel_s1 (k : Nat) (x : ByteArray) (i : Int) : spec_IsLabel.l0 (k + 1) x i = if i < (x.size : Int) then (if 0 ≤ i then (if okc (bt x i) then (spec_IsLabel.l0 k x (wrap64 (i + 1))) else (some false)) else (none)) else (some true) := by
  rw [spec_IsLabel.l0]
  by_cases h1 : i < (x.size : Int)
  · by_cases h2 : 0 ≤ i
    · rw [if_pos h1, if_pos h2, if_pos h1, if_pos h2]
      by_cases hc : okc (bt x i)
      all_goals
        first | rw [if_pos (c := okc _) hc] | rw [if_neg (c := okc _) hc]
        generalize bt x i = c at hc
        unfold okc at hc
        repeat' split
        all_goals first | rfl | (exfalso; omega)
    · simp [h1, h2]
  · simp [h1]
theorem IsLabel_i1 (k : Nat) (x : ByteArray) (n i : Int) : impl_IsLabel.l0 (k + 1) x n i = if i < n then (if 0 ≤ i then (if i < (x.size : Int) then (if okc (bt x i) ∧ (bt x i = 45 → 0 < i ∧ i < wrap64 ((x.size : Int) - 1)) then (impl_IsLabel.l0 k x n (wrap64 (i + 1))) else (some false)) else (none)) else (none)) else ((impl_InRange.f (x.size : Int) 1 8).bind fun t => some t) := by
  rw [impl_IsLabel.l0]
  by_cases h1 : i < n
  · by_cases h2 : 0 ≤ i
    · by_cases h3 : i < (x.size : Int)
      · rw [if_pos h1, if_pos h2, if_pos h3, if_pos h1, if_pos h2, if_pos h3]
        generalize wrap64 ((x.size : Int) - 1) = m
        by_cases hc : okc (bt x i) ∧ (bt x i = 45 → 0 < i ∧ i < m)
        all_goals
          first | rw [if_pos (c := okc _ ∧ _) hc] | rw [if_neg (c := okc _ ∧ _) hc]
          generalize bt x i = c at hc
          unfold okc at hc
          repeat' split
          all_goals first | rfl | (exfalso; omega)
      · simp [h1, h2, h3]
    · simp [h1, h2]
  · simp [h1]
theorem IsLabel_sl (x : ByteArray) (hx : x.size ≤ 9223372036854775806) (b : Bool) : ∀ (d i : Nat), i + d = x.size → (b = true ↔ ∀ j : Nat, i ≤ j → j < x.size → okc (bt x j)) → Ev (fun k => spec_IsLabel.l0 k x (i : Int)) b := by
  intro d
  induction d with
  | zero =>
    intro i hi hb
    have e : b = true := hb.mpr (fun j h1 h2 => by omega)
    subst e
    refine ev_step (ev_congr (fun k => IsLabel_s1 k x i) ?_)
    exact ev_neg (by omega) (ev_const rfl)
  | succ d ih =>
    intro i hi hb
    refine ev_step (ev_congr (fun k => IsLabel_s1 k x i) ?_)
    refine ev_pos (by omega) (ev_pos (by omega) (ev_dec (fun h => ?_) (fun h => ?_)))
    · rw [w64s (n := x.size) (by omega) (by omega)]
      refine ih (i + 1) (by omega) (hb.trans ⟨fun z j h1 h2 => z j (by omega) h2, fun z j h1 h2 => ?_⟩)
      by_cases e : j = i
      · subst e; exact h
      · exact z j (by omega) h2
    · have e : b = false := by
        rw [Bool.eq_false_iff]
        intro z
        exact h (hb.mp z i (by omega) (by omega))
      subst e
      exact ev_const rfl
theorem IsLabel_il (x : ByteArray) (hx : x.size ≤ 9223372036854775806) (b : Bool) : ∀ (d i : Nat), i + d = x.size → (b = true ↔ (∀ j : Nat, i ≤ j → j < x.size → okc (bt x j) ∧ (bt x j = 45 → 0 < j ∧ j + 1 < x.size)) ∧ 1 ≤ x.size ∧ x.size ≤ 8) → Ev (fun k => impl_IsLabel.l0 k x (x.size : Int) (i : Int)) b := by
  intro d
  induction d with
  | zero =>
    intro i hi hb
    refine ev_step (ev_congr (fun k => IsLabel_i1 k x _ i) ?_)
    refine ev_neg (by omega) (ev_const ?_)
    rw [InRange_v]
    have e : b = decide ((1 : Int) ≤ (x.size : Int) ∧ (x.size : Int) ≤ 8) := by
      rw [Bool.eq_iff_iff, hb, decide_eq_true_iff]
      exact ⟨fun z => by omega, fun z => ⟨fun j h1 h2 => by omega, by omega⟩⟩
    rw [e]
    rfl
  | succ d ih =>
    intro i hi hb
    have hw : wrap64 ((x.size : Int) - 1) = (x.size : Int) - 1 := w64 (by omega) (by omega)
    refine ev_step (ev_congr (fun k => IsLabel_i1 k x _ i) ?_)
    rw [hw]
    refine ev_pos (by omega) (ev_pos (by omega) (ev_pos (by omega) (ev_dec (fun h => ?_) (fun h => ?_))))
    · rw [w64s (n := x.size) (by omega) (by omega)]
      refine ih (i + 1) (by omega) (hb.trans ⟨fun z => ⟨fun j h1 h2 => z.1 j (by omega) h2, z.2⟩, fun z => ⟨fun j h1 h2 => ?_, z.2⟩⟩)
      by_cases e : j = i
      · subst e
        exact ⟨h.1, fun q => by have := h.2 q; omega⟩
      · exact z.1 j (by omega) h2
    · have e : b = false := by
        rw [Bool.eq_false_iff]
        intro z
        have q := (hb.mp z).1 i (by omega) (by omega)
        exact h ⟨q.1, fun r => by have := q.2 r; omega⟩
      subst e
      exact ev_const rfl
theorem IsLabel_iev (x : ByteArray) (hx : x.size ≤ 9223372036854775806) (b : Bool) (hb : b = true ↔ isLab x) : Ev (fun k => impl_IsLabel.f k x) b := by
  unfold impl_IsLabel.f
  refine IsLabel_il x hx b x.size 0 (by omega) (hb.trans ?_)
  unfold isLab
  constructor
  · rintro ⟨h1, h2, h3, h4, h5⟩
    refine ⟨fun j _ hj => ⟨h3 j hj, fun q => ?_⟩, h1, h2⟩
    constructor
    · rcases Nat.eq_zero_or_pos j with e | e
      · subst e; exact absurd q h4
      · exact e
    · rcases Nat.lt_or_ge (j + 1) x.size with e | e
      · exact e
      · exfalso
        apply h5
        rw [show (x.size : Int) - 1 = (j : Int) from by omega]
        exact q
  · rintro ⟨h1, h2, h3⟩
    refine ⟨h2, h3, fun j hj => (h1 j (by omega) hj).1, fun q => ?_, fun q => ?_⟩
    · have := ((h1 0 (by omega) (by omega)).2 q).1
      omega
    · have e : (x.size : Int) - 1 = ((x.size - 1 : Nat) : Int) := by omega
      rw [e] at q
      have := ((h1 (x.size - 1) (by omega) (by omega)).2 q).2
      omega
theorem IsLabel_sev (x : ByteArray) (hx : x.size ≤ 9223372036854775806) (b : Bool) (hb : b = true ↔ isLab x) : Ev (fun k => spec_IsLabel.f k x) b := by
  unfold spec_IsLabel.f
  rw [l1In_v]
  have hf : ∀ (_ : ¬ isLab x), b = false := by
    intro h
    rw [Bool.eq_false_iff]
    intro z
    exact h (hb.mp z)
  have hj : ∀ (_ : ¬ isLab x), Ev (fun k => spec_IsLabel.j0 k x true) b := by
    intro h
    rw [hf h]
    refine ev_step ?_
    simp only [spec_IsLabel.j0]
    exact ev_const rfl
  by_cases h1 : 1 ≤ x.size ∧ x.size ≤ 8
  · refine ev_bindc (a := true) (by rw [decide_eq_true (show (1 : Int) ≤ (x.size : Int) ∧ (x.size : Int) ≤ 8 from by omega)]) ?_
    have hw : wrap64 ((x.size : Int) - 1) = (x.size : Int) - 1 := w64 (by omega) (by omega)
    rw [hw]
    refine ev_pos rfl (ev_pos (by omega) (ev_dec (fun h => ?_) (fun h => ?_)))
    · exact hj (fun z => z.2.2.2.1 h)
    · refine ev_pos (by omega) (ev_pos (by omega) ?_)
      by_cases h5 : bt x ((x.size : Int) - 1) = 45
      · rw [h5]
        exact hj (fun z => z.2.2.2.2 h5)
      · refine ev_step ?_
        simp only [spec_IsLabel.j0]
        refine ev_neg (by simpa using h5) ?_
        refine IsLabel_sl x hx b x.size 0 (by omega) (hb.trans ?_)
        unfold isLab
        exact ⟨fun z j _ hj => z.2.2.1 j hj, fun z => ⟨h1.1, h1.2, fun j hj => z j (by omega) hj, h, h5⟩⟩
  · refine ev_bindc (a := false) (by rw [decide_eq_false (show ¬ ((1 : Int) ≤ (x.size : Int) ∧ (x.size : Int) ≤ 8) from by omega)]) ?_
    refine ev_neg (by simp) ?_
    exact hj (fun z => h1 ⟨z.1, z.2.1⟩)
theorem lab_bool (x : ByteArray) : ∃ b : Bool, b = true ↔ isLab x := by
  by_cases h : isLab x
  · exact ⟨true, by simp [h]⟩
  · exact ⟨false, by simp [h]⟩
end OfFnExactIsLabel
open OfFnExactIsLabel in
theorem FnExactIsLabel : laws_FnExactIsLabel.Pure := by
  intro x hx
  apply Ev.rounds
  unfold laws_FnExactIsLabel.f
  obtain ⟨b, hb⟩ := lab_bool x
  refine ev_dec (fun _ => ev_const rfl) (fun _ => ?_)
  refine ev_bind (IsLabel_sev x (by omega) b hb) (ev_bind (IsLabel_iev x (by omega) b hb) ?_)
  exact ev_neg (by simp) (ev_const rfl)
end Go.Proofs.Ythlpogndjhkkkaa.Pure
