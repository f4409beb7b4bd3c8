/- The pure statement of FnExactCanSign: what the printed functions compute answers true for all arguments within the printed bounds. -/
import Derived.Test.YtaebboanblfmjaaPFnExactCanSignx3
import Derived.Test.YtaebboanblfmjaaKit
namespace Go.Proofs.Ytaebboanblfmjaa.Pure
open Go.RowKit Go.Proofs.Ytaebboanblfmjaa.PFnExactCanSign Go.Proofs.YtaebboanblfmjaaW.PrintWords Go.Proofs.YtaebboanblfmjaaW.PrintLast Go.Proofs.Ytaebboanblfmjaa.Kit
set_option linter.unusedVariables false
set_option linter.unusedSimpArgs false
namespace OfFnExactCanSign
theorem szInt_v (l : List Int) (a : Int) (hl : l.length ≤ maxLen) (h0 : 0 ≤ a) (h1 : a ≤ 1048576) : laws_szIntS.f l a = some (if a < (l.length : Int) then -1 else a - (l.length : Int)) := by
  unfold maxLen at hl
  unfold laws_szIntS.f
  rw [w64 (i := a - (l.length : Int)) (by omega) (by omega)]
  by_cases h : a < (l.length : Int)
  · rw [if_pos h, if_pos (by omega)]
  · rw [if_neg h, if_neg (by omega)]
theorem szKeys_v (l : List Int) (n a : Int) (hl : l.length ≤ maxLen) (h0 : 0 ≤ a) (h1 : a ≤ 1048576) : laws_szKeys.f l n a = some (if a < (l.length : Int) then -1 else a - (l.length : Int)) := by
  unfold laws_szKeys.f
  rw [szInt_v l a hl h0 h1, Option.bind_some]
  by_cases h : a < (l.length : Int)
  · rw [if_pos h, if_pos (by omega)]
  · rw [if_neg h, if_neg (by omega)]

theorem toIntS_ev (x : List Int) (hx : x.length ≤ 35184372088832) : Ev (fun k => laws_toIntS.f k x) x := by
  unfold laws_toIntS.f
  refine ev_pos (by omega) (ev_pos (by omega) ?_)
  exact copy_loop (L := laws_toIntS.l0) (rdf := rd) (fun _ _ _ _ => rfl) rd_at x (by omega) x.length 0 _ (by omega) (by simp) (by simp)

theorem toKeys_ev (l : List Int) (n : Int) (hx : l.length ≤ 35184372088832) : Ev (fun k => laws_toKeys.f k l n) (l, n) := by
  unfold laws_toKeys.f
  exact ev_bind (toIntS_ev l hx) (ev_const rfl)

theorem eqIntS_ev (x y : List Int) (hx : x.length ≤ 9223372036854775806) (b : Bool) (hb : b = true ↔ x = y) : Ev (fun k => laws_eqIntS.f k x y) b := by
  unfold laws_eqIntS.f
  refine ev_dec (fun h => ?_) (fun h => ?_)
  · exact eq_loop (L := laws_eqIntS.l0) (c := fun x y i => rd x i = rd y i) (fun _ _ _ _ => rfl) (fun x y i h h' => by rw [rd_at x i h, rd_at y i h']) x y hx (by omega) b x.length 0 (by omega) (by simpa using hb)
  · have e : b = false := by
      rw [Bool.eq_false_iff]
      intro z
      exact h (by rw [hb.mp z])
    subst e
    exact ev_const rfl
theorem eqIntS_refl (x : List Int) (hx : x.length ≤ 9223372036854775806) : Ev (fun k => laws_eqIntS.f k x x) true := eqIntS_ev x x hx true (by simp)

theorem eqKeys_refl (l : List Int) (n : Int) (hl : l.length ≤ 9223372036854775806) : Ev (fun k => laws_eqKeys.f k l n l n) true := by
  unfold laws_eqKeys.f
  exact ev_bind (eqIntS_refl l hl) (ev_pos rfl (ev_pos rfl (ev_const rfl)))

theorem InRange_v (a b c : Int) : impl_InRange.f a b c = some (decide (b ≤ a ∧ a ≤ c)) := by
  unfold impl_InRange.f
  by_cases h : b ≤ a <;> simp [h]

theorem l1In_v (a b c : Int) : spec_l1In.f a b c = some (decide (b ≤ a ∧ a ≤ c)) := by
  unfold spec_l1In.f
  by_cases h : b ≤ a <;> simp [h]

/-- What a set of keys must be. -/
def isKs (l : List Int) (n : Int) : Prop := 1 ≤ l.length ∧ l.length ≤ 4 ∧ 1 ≤ n ∧ n ≤ (l.length : Int) ∧ (∀ i : Nat, i < l.length → 1 ≤ rd l (i : Int) ∧ rd l (i : Int) ≤ 99) ∧ (∀ i : Nat, i + 1 < l.length → rd l (i : Int) < rd l ((i + 1 : Nat) : Int))
theorem ks_bool (l : List Int) (n : Int) : ∃ b : Bool, b = true ↔ isKs l n := by
  by_cases h : isKs l n
  · exact ⟨true, by simp [h]⟩
  · exact ⟨false, by simp [h]⟩
theorem IsKeys_sl (l : List Int) (n : Int) (hl : l.length ≤ 9223372036854775806) (b : Bool) : ∀ (d i : Nat), i + d = l.length →
    (b = true ↔ (1 ≤ l.length ∧ l.length ≤ 4 ∧ 1 ≤ n ∧ n ≤ (l.length : Int)) ∧ (∀ j : Nat, i ≤ j → j < l.length → 1 ≤ rd l (j : Int) ∧ rd l (j : Int) ≤ 99 ∧ (0 < j → rd l ((j - 1 : Nat) : Int) < rd l (j : Int)))) → Ev (fun k => spec_IsKeys.l0 k (i : Int) l n) b := by
  intro d
  induction d with
  | zero =>
    intro i hi hb
    refine ev_step ?_
    simp only [spec_IsKeys.l0]
    refine ev_neg (by omega) (ev_bindc (l1In_v _ _ _) ?_)
    have hb' : b = true ↔ (1 ≤ l.length ∧ l.length ≤ 4 ∧ 1 ≤ n ∧ n ≤ (l.length : Int)) := hb.trans ⟨fun z => z.1, fun z => ⟨z, fun j h1 h2 => by omega⟩⟩
    by_cases h : 1 ≤ l.length ∧ l.length ≤ 4
    · refine ev_pos (by simp; omega) (ev_bindc (l1In_v _ _ _) (ev_const ?_))
      congr 1
      rw [Bool.eq_iff_iff, hb', decide_eq_true_iff]
      exact ⟨fun z => ⟨h.1, h.2, z⟩, fun z => z.2.2⟩
    · have e : b = false := by rw [Bool.eq_false_iff]; intro z; exact h ⟨(hb'.mp z).1, (hb'.mp z).2.1⟩
      rw [e]
      exact ev_neg (by simp; omega) (ev_const rfl)
  | succ d ih =>
    intro i hi hb
    have hlt : i < l.length := by omega
    refine ev_step ?_
    simp only [spec_IsKeys.l0]
    rw [w64s (n := l.length) hlt (by omega), w64 (i := (i : Int) - 1) (by omega) (by omega)]
    have hf : ∀ (_ : ¬ (1 ≤ rd l (i : Int) ∧ rd l (i : Int) ≤ 99 ∧ (0 < i → rd l ((i - 1 : Nat) : Int) < rd l (i : Int)))), b = false := by
      intro h
      rw [Bool.eq_false_iff]
      exact fun z => h ((hb.mp z).2 i (Nat.le_refl _) hlt)
    have hgo : (1 ≤ rd l (i : Int) ∧ rd l (i : Int) ≤ 99 ∧ (0 < i → rd l ((i - 1 : Nat) : Int) < rd l (i : Int))) → Ev (fun k => spec_IsKeys.l0 k ((i + 1 : Nat) : Int) l n) b := by
      intro h
      refine ih (i + 1) (by omega) (hb.trans ⟨fun z => ⟨z.1, fun j h1 h2 => z.2 j (by omega) h2⟩, fun z => ⟨z.1, fun j h1 h2 => ?_⟩⟩)
      by_cases e : j = i
      · subst e; exact h
      · exact z.2 j (by omega) h2
    refine ev_pos (by omega) (ev_pos (by omega) (ev_bindc (l1In_v _ _ _) ?_))
    by_cases h1 : 1 ≤ rd l (i : Int) ∧ rd l (i : Int) ≤ 99
    · refine ev_pos (by simpa using h1) (ev_dec (fun hp => ?_) (fun hp => ?_))
      · have e1 : (i : Int) - 1 = ((i - 1 : Nat) : Int) := by omega
        rw [e1]
        refine ev_pos (by omega) (ev_pos (by omega) (ev_dec (fun h2 => ?_) (fun h2 => ?_)))
        · rw [hf (fun z => by have := z.2.2 (by omega); omega)]
          exact ev_const rfl
        · exact hgo ⟨h1.1, h1.2, fun _ => by omega⟩
      · exact hgo ⟨h1.1, h1.2, fun z => by omega⟩
    · rw [hf (fun z => h1 ⟨z.1, z.2.1⟩)]
      exact ev_neg (by simp; omega) (ev_const rfl)
theorem IsKeys_sev (l : List Int) (n : Int) (hl : l.length ≤ 9223372036854775806) (b : Bool) (hb : b = true ↔ isKs l n) : Ev (fun k => spec_IsKeys.f k l n) b := by
  unfold spec_IsKeys.f
  refine IsKeys_sl l n hl b l.length 0 (by omega) (hb.trans ?_)
  unfold isKs
  constructor
  · rintro ⟨h1, h2, h3, h4, h5, h6⟩
    refine ⟨⟨h1, h2, h3, h4⟩, fun j _ hj => ⟨(h5 j hj).1, (h5 j hj).2, fun hp => ?_⟩⟩
    have := h6 (j - 1) (by omega)
    rw [show j - 1 + 1 = j from by omega] at this
    exact this
  · rintro ⟨⟨h1, h2, h3, h4⟩, h5⟩
    refine ⟨h1, h2, h3, h4, fun i hi => ⟨(h5 i (by omega) hi).1, (h5 i (by omega) hi).2.1⟩, fun i hi => ?_⟩
    have := (h5 (i + 1) (by omega) hi).2.2 (by omega)
    simpa using this
theorem asc_l (l : List Int) (hl : l.length ≤ 9223372036854775806) (b : Bool) : ∀ (d i : Nat), i + d = l.length → (b = true ↔ ∀ j : Nat, i ≤ j → j < l.length → 0 < j → rd l ((j - 1 : Nat) : Int) < rd l (j : Int)) → Ev (fun k => impl_ascending.l0 k l (l.length : Int) (i : Int)) b := by
  intro d
  induction d with
  | zero =>
    intro i hi hb
    obtain rfl : b = true := hb.mpr (fun j h1 h2 => by omega)
    refine ev_step ?_
    simp only [impl_ascending.l0]
    exact ev_neg (by omega) (ev_const rfl)
  | succ d ih =>
    intro i hi hb
    have hlt : i < l.length := by omega
    refine ev_step ?_
    simp only [impl_ascending.l0]
    rw [w64s (n := l.length) hlt (by omega), w64 (i := (i : Int) - 1) (by omega) (by omega)]
    have hgo : (0 < i → rd l ((i - 1 : Nat) : Int) < rd l (i : Int)) → Ev (fun k => impl_ascending.l0 k l (l.length : Int) ((i + 1 : Nat) : Int)) b := by
      intro h
      refine ih (i + 1) (by omega) (hb.trans ⟨fun z j h1 h2 => z j (by omega) h2, fun z j h1 h2 h3 => ?_⟩)
      by_cases e : j = i
      · subst e; exact h h3
      · exact z j (by omega) h2 h3
    refine ev_pos (by omega) (ev_dec (fun hp => ?_) (fun hp => ?_))
    · have e1 : (i : Int) - 1 = ((i - 1 : Nat) : Int) := by omega
      rw [e1]
      refine ev_pos (by omega) (ev_pos (by omega) (ev_pos (by omega) (ev_pos (by omega) (ev_dec (fun h2 => ?_) (fun h2 => ?_)))))
      · have e : b = false := by
          rw [Bool.eq_false_iff]
          intro z
          have := hb.mp z i (Nat.le_refl _) hlt (by omega)
          omega
        rw [e]
        exact ev_const rfl
      · exact hgo (fun _ => by omega)
    · exact hgo (fun z => by omega)
theorem asc_ends (l : List Int) (h : ∀ i : Nat, i + 1 < l.length → rd l (i : Int) < rd l ((i + 1 : Nat) : Int)) : ∀ j : Nat, j < l.length → rd l 0 ≤ rd l (j : Int) ∧ rd l (j : Int) ≤ rd l ((l.length - 1 : Nat) : Int) := by
  have up : ∀ j : Nat, j < l.length → rd l 0 ≤ rd l (j : Int) := by
    intro j
    induction j with
    | zero => intro _; exact Int.le_refl _
    | succ j ih => intro hj; have := ih (by omega); have := h j hj; omega
  have down : ∀ d j : Nat, j + d + 1 = l.length → rd l (j : Int) ≤ rd l ((l.length - 1 : Nat) : Int) := by
    intro d
    induction d with
    | zero => intro j hj; rw [show l.length - 1 = j from by omega]; exact Int.le_refl _
    | succ d ih => intro j hj; have := ih (j + 1) (by omega); have := h j (by omega); omega
  exact fun j hj => ⟨up j hj, down (l.length - 1 - j) j (by omega)⟩
theorem isKey_v (a : Int) : impl_isKey.f a = some (decide (1 ≤ a ∧ a ≤ 99)) := by
  unfold impl_isKey.f
  rw [InRange_v]
  rfl
theorem IsKeys_iev (l : List Int) (n : Int) (hl : l.length ≤ 9223372036854775806) (b : Bool) (hb : b = true ↔ isKs l n) : Ev (fun k => impl_IsKeys.f k l n) b := by
  unfold impl_IsKeys.f
  have hf : ∀ (_ : ¬ isKs l n), b = false := by
    intro h
    rw [Bool.eq_false_iff]
    exact fun z => h (hb.mp z)
  refine ev_bindc (InRange_v _ _ _) ?_
  by_cases h1 : 1 ≤ l.length ∧ l.length ≤ 4
  · refine ev_pos (by simp; omega) ?_
    have hasc : ∃ q : Bool, q = true ↔ ∀ i : Nat, i + 1 < l.length → rd l (i : Int) < rd l ((i + 1 : Nat) : Int) := by
      by_cases h : ∀ i : Nat, i + 1 < l.length → rd l (i : Int) < rd l ((i + 1 : Nat) : Int)
      · exact ⟨true, ⟨fun _ => h, fun _ => rfl⟩⟩
      · exact ⟨false, ⟨fun z => (by cases z), fun z => absurd z h⟩⟩
    obtain ⟨q, hq⟩ := hasc
    have ea : Ev (fun k => impl_ascending.f k l) q := by
      unfold impl_ascending.f
      refine asc_l l hl q l.length 0 (by omega) (hq.trans ⟨fun z j _ h2 h3 => ?_, fun z i hi => ?_⟩)
      · have := z (j - 1) (by omega)
        rw [show j - 1 + 1 = j from by omega] at this
        exact this
      · have := z (i + 1) (by omega) hi (by omega)
        simpa using this
    refine ev_bind ea ?_
    cases q with
    | false =>
      rw [hf (fun z => by have := hq.mpr z.2.2.2.2.2; cases this)]
      exact ev_neg (by simp) (ev_const rfl)
    | true =>
      have ha := hq.mp rfl
      have hends := asc_ends l ha
      have e1 : wrap64 ((l.length : Int) - 1) = ((l.length - 1 : Nat) : Int) := by rw [w64 (by omega) (by omega)]; omega
      rw [e1]
      refine ev_pos rfl (ev_pos (by omega) (ev_bindc (isKey_v _) ?_))
      by_cases h2 : 1 ≤ rd l 0 ∧ rd l 0 ≤ 99
      · refine ev_pos (by simpa using h2) (ev_pos (by omega) (ev_pos (by omega) (ev_bindc (isKey_v _) ?_)))
        by_cases h3 : 1 ≤ rd l ((l.length - 1 : Nat) : Int) ∧ rd l ((l.length - 1 : Nat) : Int) ≤ 99
        · refine ev_pos (by simpa using h3) (ev_bindc (InRange_v _ _ _) (ev_const ?_))
          congr 1
          rw [Bool.eq_iff_iff, hb, decide_eq_true_iff]
          unfold isKs
          constructor
          · intro z
            exact ⟨h1.1, h1.2, z.1, z.2, fun i hi => by have := hends i hi; omega, ha⟩
          · rintro ⟨_, _, z1, z2, _⟩
            exact ⟨z1, z2⟩
        · rw [hf (fun z => h3 (z.2.2.2.2.1 (l.length - 1) (by omega)))]
          exact ev_neg (by simp; omega) (ev_const rfl)
      · rw [hf (fun z => h2 (z.2.2.2.2.1 0 (by omega)))]
        exact ev_neg (by simp; omega) (ev_const rfl)
  · rw [hf (fun z => h1 ⟨z.1, z.2.1⟩)]
    exact ev_neg (by simp; omega) (ev_const rfl)

theorem l6Has_l (x : List Int) (v : Int) (hx : x.length ≤ 9223372036854775806) (b : Bool) : ∀ (d i : Nat), i + d = x.length → (b = true ↔ v ∈ x.drop i) → Ev (fun k => spec_l6Has.l0 k x v (i : Int)) b := by
  intro d
  induction d with
  | zero =>
    intro i hi hb
    rw [List.drop_of_length_le (by omega)] at hb
    obtain rfl : b = false := by rw [Bool.eq_false_iff]; intro z; simpa using hb.mp z
    refine ev_step ?_
    simp only [spec_l6Has.l0]
    exact ev_neg (by omega) (ev_const rfl)
  | succ d ih =>
    intro i hi hb
    have hlt : i < x.length := by omega
    rw [List.drop_eq_getElem_cons hlt, List.mem_cons] at hb
    refine ev_step ?_
    simp only [spec_l6Has.l0]
    rw [rd_at x i hlt, w64s (n := x.length) hlt (by omega)]
    refine ev_pos (by omega) (ev_pos (by omega) (ev_dec (fun h => ?_) (fun h => ?_)))
    · rw [hb.mpr (Or.inl h.symm)]
      exact ev_const rfl
    · exact ih (i + 1) (by omega) (hb.trans ⟨fun z => z.resolve_left (fun e => h e.symm), Or.inr⟩)
theorem l6Has_ev (x : List Int) (v : Int) (hx : x.length ≤ 9223372036854775806) (b : Bool) (hb : b = true ↔ v ∈ x) : Ev (fun k => spec_l6Has.f k x v) b := by
  unfold spec_l6Has.f
  exact l6Has_l x v hx b x.length 0 (by omega) (by simpa using hb)
theorem slIndex_l (x : List Int) (v : Int) (hx : x.length ≤ 9223372036854775806) (b : Bool) : ∀ (d i : Nat), i + d = x.length → (b = true ↔ v ∈ x.drop i) → ∃ r : Int, Ev (fun k => slices_Index_int_int.l0 k x v (x.length : Int) (i : Int)) r ∧ (b = true ↔ 0 ≤ r) := by
  intro d
  induction d with
  | zero =>
    intro i hi hb
    rw [List.drop_of_length_le (by omega)] at hb
    refine ⟨-1, ev_step ?_, hb.trans (by simp)⟩
    simp only [slices_Index_int_int.l0]
    exact ev_neg (by omega) (ev_const rfl)
  | succ d ih =>
    intro i hi hb
    have hlt : i < x.length := by omega
    rw [List.drop_eq_getElem_cons hlt, List.mem_cons] at hb
    by_cases h : v = x[i]
    · refine ⟨(i : Int), ev_step ?_, ⟨fun _ => by omega, fun _ => hb.mpr (Or.inl h)⟩⟩
      simp only [slices_Index_int_int.l0]
      rw [rd_at x i hlt]
      exact ev_pos (by omega) (ev_pos (by omega) (ev_pos (by omega) (ev_pos h (ev_const rfl))))
    · obtain ⟨r, e, hr⟩ := ih (i + 1) (by omega) (hb.trans ⟨fun z => z.resolve_left h, Or.inr⟩)
      refine ⟨r, ev_step ?_, hr⟩
      simp only [slices_Index_int_int.l0]
      rw [rd_at x i hlt, w64s (n := x.length) hlt (by omega)]
      exact ev_pos (by omega) (ev_pos (by omega) (ev_pos (by omega) (ev_neg h e)))
theorem slContains_ev (x : List Int) (v : Int) (hx : x.length ≤ 9223372036854775806) (b : Bool) (hb : b = true ↔ v ∈ x) : Ev (fun k => slices_Contains_int_int.f k x v) b := by
  unfold slices_Contains_int_int.f slices_Index_int_int.f
  obtain ⟨r, e, hr⟩ := slIndex_l x v hx b x.length 0 (by omega) (by simpa using hb)
  refine ev_bind e (ev_const ?_)
  congr 1
  rw [Bool.eq_iff_iff, hr, decide_eq_true_iff]

/-- How many of the keys are held. -/
def held_ (h l : List Int) : Nat := l.countP (fun x => decide (x ∈ h))
theorem CS_sl (h l : List Int) (n : Int) (hh : h.length ≤ 9223372036854775806) (hl : l.length ≤ 1000000000000) (q : Bool) (hq : q = true ↔ isKs l n) : ∀ (d i c : Nat), i + d = l.length → c ≤ i →
    Ev (fun k => spec_CanSign.l0 k h (c : Int) (i : Int) l n) (q && decide (((c + held_ h (l.drop i) : Nat) : Int) ≥ n)) := by
  intro d
  induction d with
  | zero =>
    intro i c hi hc
    refine ev_step ?_
    simp only [spec_CanSign.l0]
    rw [List.drop_of_length_le (by omega)]
    refine ev_neg (by omega) (ev_bind (IsKeys_sev l n (by omega) q hq) ?_)
    cases q with
    | true => exact ev_pos rfl (ev_const (by simp [held_]))
    | false => exact ev_neg (by simp) (ev_const (by simp))
  | succ d ih =>
    intro i c hi hc
    have hlt : i < l.length := by omega
    refine ev_step ?_
    simp only [spec_CanSign.l0]
    rw [rd_at l i hlt, w64s (n := l.length) hlt (by omega), w64s (n := l.length) (i := c) (by omega) (by omega), List.drop_eq_getElem_cons hlt]
    refine ev_pos (by omega) (ev_pos (by omega) (ev_bind (l6Has_ev h l[i] hh (decide (l[i] ∈ h)) (by simp)) (ev_dec (fun z => ?_) (fun z => ?_))))
    · have := ih (i + 1) (c + 1) (by omega) (by omega)
      have e : c + held_ h (l[i] :: l.drop (i + 1)) = c + 1 + held_ h (l.drop (i + 1)) := by
        unfold held_
        rw [List.countP_cons, if_pos z]
        omega
      rw [e]
      exact this
    · have := ih (i + 1) c (by omega) (by omega)
      have e : held_ h (l[i] :: l.drop (i + 1)) = held_ h (l.drop (i + 1)) := by
        unfold held_
        rw [List.countP_cons, if_neg z]
        omega
      rw [e]
      exact this
theorem CS_sev (h l : List Int) (n : Int) (hh : h.length ≤ 9223372036854775806) (hl : l.length ≤ 1000000000000) (q : Bool) (hq : q = true ↔ isKs l n) : Ev (fun k => spec_CanSign.f k l n h) (q && decide (((held_ h l : Nat) : Int) ≥ n)) := by
  unfold spec_CanSign.f
  have := CS_sl h l n hh hl q hq l.length 0 0 (by omega) (by omega)
  simpa using this
theorem CS_il (h l : List Int) (n : Int) (hh : h.length ≤ 9223372036854775806) (hl : l.length ≤ 1000000000000) (q : Bool) (hq : q = true ↔ isKs l n) : ∀ (d i c : Nat), i + d = l.length → c ≤ i →
    Ev (fun k => impl_CanSign.l0 k h (c : Int) l (l.length : Int) (i : Int) l n) (q && decide (((c + held_ h (l.drop i) : Nat) : Int) ≥ n)) := by
  intro d
  induction d with
  | zero =>
    intro i c hi hc
    refine ev_step ?_
    simp only [impl_CanSign.l0]
    rw [List.drop_of_length_le (by omega)]
    refine ev_neg (by omega) (ev_bind (IsKeys_iev l n (by omega) q hq) ?_)
    cases q with
    | true => exact ev_pos rfl (ev_const (by simp [held_]))
    | false => exact ev_neg (by simp) (ev_const (by simp))
  | succ d ih =>
    intro i c hi hc
    have hlt : i < l.length := by omega
    refine ev_step ?_
    simp only [impl_CanSign.l0]
    rw [rd_at l i hlt, w64s (n := l.length) hlt (by omega), w64s (n := l.length) (i := c) (by omega) (by omega), List.drop_eq_getElem_cons hlt]
    refine ev_pos (by omega) (ev_pos (by omega) (ev_pos (by omega) (ev_bind (slContains_ev h l[i] hh (decide (l[i] ∈ h)) (by simp)) (ev_dec (fun z => ?_) (fun z => ?_)))))
    · have := ih (i + 1) (c + 1) (by omega) (by omega)
      have e : c + held_ h (l[i] :: l.drop (i + 1)) = c + 1 + held_ h (l.drop (i + 1)) := by
        unfold held_
        rw [List.countP_cons, if_pos z]
        omega
      rw [e]
      exact this
    · have := ih (i + 1) c (by omega) (by omega)
      have e : held_ h (l[i] :: l.drop (i + 1)) = held_ h (l.drop (i + 1)) := by
        unfold held_
        rw [List.countP_cons, if_neg z]
        omega
      rw [e]
      exact this
theorem CS_iev (h l : List Int) (n : Int) (hh : h.length ≤ 9223372036854775806) (hl : l.length ≤ 1000000000000) (q : Bool) (hq : q = true ↔ isKs l n) : Ev (fun k => impl_CanSign.f k l n h) (q && decide (((held_ h l : Nat) : Int) ≥ n)) := by
  unfold impl_CanSign.f
  have := CS_il h l n hh hl q hq l.length 0 0 (by omega) (by omega)
  simpa using this
end OfFnExactCanSign
open OfFnExactCanSign in
theorem FnExactCanSign : laws_FnExactCanSign.Pure := by
  intro l n h hl _ _ hh _
  apply Ev.rounds
  unfold laws_FnExactCanSign.f
  refine ev_dec (fun _ => ev_const rfl) (fun h1 => ?_)
  refine ev_bindc (szKeys_v l n 1048576 hl (by omega) (by omega)) (ev_dec (fun _ => ev_const rfl) (fun h0 => ?_))
  have hb : l.length ≤ 1048576 := by split at h0 <;> omega
  obtain ⟨b, hk⟩ := ks_bool l n
  have e := toKeys_ev l n (by omega)
  have e1 := toIntS_ev h (by omega)
  have s := CS_sev h l n (by omega) (by omega) b hk
  have g := CS_iev h l n (by omega) (by omega) b hk
  generalize (b && decide (((held_ h l : Nat) : Int) ≥ n)) = r at s g
  have q := eqKeys_refl l n (by omega)
  have q1 := eqIntS_refl h (by omega)
  repeat' first
    | exact ev_const rfl
    | refine ev_bind e ?_
    | refine ev_bind e1 ?_
    | refine ev_bind s ?_
    | refine ev_bind g ?_
    | refine ev_bind q ?_
    | refine ev_bind q1 ?_
    | refine ev_pos rfl ?_
    | refine ev_neg (by first | omega | (simp; done) | (simp; omega)) ?_
    | refine ev_pos (by first | omega | (simp; done) | (simp; omega)) ?_
end Go.Proofs.Ytaebboanblfmjaa.Pure
