/- The pure statement of FnKeySets: what the printed functions compute answers true for all arguments within the printed bounds. -/
import Derived.Test.YtanogkaledgecaaPFnKeySetsx6
import Derived.Test.YtanogkaledgecaaKit
namespace Go.Proofs.Ytanogkaledgecaa.Pure
open Go.RowKit Go.Proofs.Ytanogkaledgecaa.PFnKeySets Go.Proofs.YtanogkaledgecaaW.PrintWords Go.Proofs.YtanogkaledgecaaW.PrintLast Go.Proofs.Ytanogkaledgecaa.Kit
set_option linter.unusedVariables false
set_option linter.unusedSimpArgs false
namespace OfFnKeySets
theorem l1New_ok (b : List Int) (hb : b.length ≤ 1000000000000000000) : ∃ h, Ev (fun k => spec_l1New.f k b) (b, 0, h) := by
  have key : ∀ (m i : Nat) (h : Int), i + m = b.length → ∃ h', Ev (fun k => spec_l1New.l0 k b h (i : Int)) (b, 0, h') := by
    intro m
    induction m with
    | zero =>
      intro i h hi
      refine ⟨h, ev_step ?_⟩
      simp only [spec_l1New.l0]
      exact ev_neg (by omega) (ev_const rfl)
    | succ m ih =>
      intro i h hi
      by_cases h4 : (i : Int) < 4000
      · obtain ⟨h', e⟩ := ih (i + 1) (Go.bits .and .i64 (wrap64 ((wrap64 ((wrap64 (h * 137)) + (wrap64 (rd b (i : Int))))) + 11)) 1073741823) (by omega)
        refine ⟨h', ev_step ?_⟩
        simp only [spec_l1New.l0]
        rw [w64s (n := b.length) (by omega) (by omega)]
        exact ev_pos (by omega) (ev_pos h4 (ev_pos (by omega) e))
      · refine ⟨h, ev_step ?_⟩
        simp only [spec_l1New.l0]
        exact ev_pos (by omega) (ev_neg h4 (ev_const rfl))
  unfold spec_l1New.f
  exact key b.length 0 _ (by omega)

theorem and255 (x : Int) : 0 ≤ Go.bits .and .i64 x 255 ∧ Go.bits .and .i64 x 255 ≤ 255 := by
  unfold Go.bits
  simp only []
  have h1 : (BitVec.ofInt IntKind.i64.bits x &&& BitVec.ofInt IntKind.i64.bits 255).toNat ≤ 255 := by
    rw [BitVec.toNat_and]
    exact Nat.le_trans Nat.and_le_right (by decide)
  generalize (BitVec.ofInt IntKind.i64.bits x &&& BitVec.ofInt IntKind.i64.bits 255).toNat = n at h1
  rw [IntKind.wrap_i64]
  omega

/-- The drawing of bytes and of what is made of them: each draw ends, and its values lie where they should. The reader's place i never is below 0. -/
theorem l1Byte_ok (b : List Int) (i h : Int) (hb : b.length ≤ 1000000000000000000) (hi : 0 ≤ i) : ∃ x i' h', spec_l1Byte.f b i h = some (x, i', h') ∧ 0 ≤ x ∧ x ≤ 255 ∧ 0 ≤ i' := by
  unfold spec_l1Byte.f
  by_cases h1 : i < (b.length : Int)
  · rw [if_pos h1, if_pos hi]
    exact ⟨_, _, _, rfl, (and255 _).1, (and255 _).2, by rw [w64 (by omega) (by omega)]; omega⟩
  · rw [if_neg h1]
    exact ⟨_, _, _, rfl, (and255 _).1, (and255 _).2, hi⟩
theorem l1Below_ok (b : List Int) (i h n : Int) (hb : b.length ≤ 1000000000000000000) (hi : 0 ≤ i) : ∃ x i' h', spec_l1Below.f b i h n = some (x, i', h') ∧ 0 ≤ x ∧ (0 < n → x < n) ∧ (n ≤ 0 → x = 0) ∧ 0 ≤ i' := by
  unfold spec_l1Below.f
  by_cases h1 : n ≤ 0
  · rw [if_pos h1]
    exact ⟨_, _, _, rfl, by omega, by omega, by omega, hi⟩
  · rw [if_neg h1]
    obtain ⟨x1, i1, h1', e1, a1, b1, c1⟩ := l1Byte_ok b i h hb hi
    by_cases h2 : n ≤ 256
    · rw [if_pos h2, e1, Option.bind_some, if_neg (by omega)]
      exact ⟨_, _, _, rfl, Int.tmod_nonneg _ a1, fun _ => Int.tmod_lt_of_pos _ (by omega), by omega, c1⟩
    · obtain ⟨x2, i2, h2', e2, a2, b2, c2⟩ := l1Byte_ok b i1 h1' hb c1
      obtain ⟨x3, i3, h3', e3, a3, b3, c3⟩ := l1Byte_ok b i2 h2' hb c2
      rw [if_neg h2, e1, Option.bind_some, e2, Option.bind_some, e3, Option.bind_some, if_neg (by omega)]
      refine ⟨_, _, _, rfl, ?_, fun _ => Int.tmod_lt_of_pos _ (by omega), by omega, c3⟩
      simp only []
      rw [w64 (i := x1 * 65536) (by omega) (by omega), w64 (i := x2 * 256) (by omega) (by omega), w64 (i := x1 * 65536 + x2 * 256) (by omega) (by omega), w64 (i := x1 * 65536 + x2 * 256 + x3) (by omega) (by omega)]
      exact Int.tmod_nonneg _ (by omega)

theorem l1Int_ok (b : List Int) (i h : Int) (l : List Int) (hb : b.length ≤ 1000000000000000000) (hi : 0 ≤ i) (hl : 0 < l.length) : ∃ x i' h', spec_l1Int.f b i h l = some (x, i', h') ∧ x ∈ l ∧ 0 ≤ i' := by
  obtain ⟨x, i1, h1, e, p, q, _, c⟩ := l1Below_ok b i h (l.length : Int) hb hi
  have q' := q (by omega)
  unfold spec_l1Int.f
  rw [e, Option.bind_some, if_pos p, if_pos q']
  refine ⟨_, _, _, rfl, ?_, c⟩
  obtain ⟨m, rfl⟩ := Int.eq_ofNat_of_zero_le p
  rw [rd_at l m (by omega)]
  exact List.getElem_mem _

theorem l1Once_ok (b : List Int) (i h n : Int) (hb : b.length ≤ 1000000000000000000) (hi : 0 ≤ i) : ∃ (x : Bool) (i' h' : Int), spec_l1Once.f b i h n = some (x, i', h') ∧ 0 ≤ i' := by
  obtain ⟨x, i1, h1, e, _, _, _, c⟩ := l1Below_ok b i h n hb hi
  unfold spec_l1Once.f
  rw [e, Option.bind_some]
  exact ⟨_, _, _, rfl, c⟩

theorem InRange_v (a b c : Int) : impl_InRange.f a b c = some (decide (b ≤ a ∧ a ≤ c)) := by
  unfold impl_InRange.f
  by_cases h : b ≤ a <;> simp [h]

theorem l1In_v (a b c : Int) : spec_l1In.f a b c = some (decide (b ≤ a ∧ a ≤ c)) := by
  unfold spec_l1In.f
  by_cases h : b ≤ a <;> simp [h]

/-- What a set of keys must be. -/
def isKs (l : List Int) (n : Int) : Prop := 1 ≤ l.length ∧ l.length ≤ 4 ∧ 1 ≤ n ∧ n ≤ (l.length : Int) ∧ (∀ i : Nat, i < l.length → 1 ≤ rd l (i : Int) ∧ rd l (i : Int) ≤ 99) ∧ (∀ i : Nat, i + 1 < l.length → rd l (i : Int) < rd l ((i + 1 : Nat) : Int))
theorem ks_bool (l : List Int) (n : Int) : ∃ b : Bool, b = true ↔ isKs l n := by
  by_cases h : isKs l n
  · exact ⟨true, by simp [h]⟩
  · exact ⟨false, by simp [h]⟩
theorem IsKeys_sl (l : List Int) (n : Int) (hl : l.length ≤ 9223372036854775806) (b : Bool) : ∀ (d i : Nat), i + d = l.length →
    (b = true ↔ (1 ≤ l.length ∧ l.length ≤ 4 ∧ 1 ≤ n ∧ n ≤ (l.length : Int)) ∧ (∀ j : Nat, i ≤ j → j < l.length → 1 ≤ rd l (j : Int) ∧ rd l (j : Int) ≤ 99 ∧ (0 < j → rd l ((j - 1 : Nat) : Int) < rd l (j : Int)))) → Ev (fun k => spec_IsKeys.l0 k (i : Int) l n) b := by
  intro d
  induction d with
  | zero =>
    intro i hi hb
    refine ev_step ?_
    simp only [spec_IsKeys.l0]
    refine ev_neg (by omega) (ev_bindc (l1In_v _ _ _) ?_)
    have hb' : b = true ↔ (1 ≤ l.length ∧ l.length ≤ 4 ∧ 1 ≤ n ∧ n ≤ (l.length : Int)) := hb.trans ⟨fun z => z.1, fun z => ⟨z, fun j h1 h2 => by omega⟩⟩
    by_cases h : 1 ≤ l.length ∧ l.length ≤ 4
    · refine ev_pos (by simp; omega) (ev_bindc (l1In_v _ _ _) (ev_const ?_))
      congr 1
      rw [Bool.eq_iff_iff, hb', decide_eq_true_iff]
      exact ⟨fun z => ⟨h.1, h.2, z⟩, fun z => z.2.2⟩
    · have e : b = false := by rw [Bool.eq_false_iff]; intro z; exact h ⟨(hb'.mp z).1, (hb'.mp z).2.1⟩
      rw [e]
      exact ev_neg (by simp; omega) (ev_const rfl)
  | succ d ih =>
    intro i hi hb
    have hlt : i < l.length := by omega
    refine ev_step ?_
    simp only [spec_IsKeys.l0]
    rw [w64s (n := l.length) hlt (by omega), w64 (i := (i : Int) - 1) (by omega) (by omega)]
    have hf : ∀ (_ : ¬ (1 ≤ rd l (i : Int) ∧ rd l (i : Int) ≤ 99 ∧ (0 < i → rd l ((i - 1 : Nat) : Int) < rd l (i : Int)))), b = false := by
      intro h
      rw [Bool.eq_false_iff]
      exact fun z => h ((hb.mp z).2 i (Nat.le_refl _) hlt)
    have hgo : (1 ≤ rd l (i : Int) ∧ rd l (i : Int) ≤ 99 ∧ (0 < i → rd l ((i - 1 : Nat) : Int) < rd l (i : Int))) → Ev (fun k => spec_IsKeys.l0 k ((i + 1 : Nat) : Int) l n) b := by
      intro h
      refine ih (i + 1) (by omega) (hb.trans ⟨fun z => ⟨z.1, fun j h1 h2 => z.2 j (by omega) h2⟩, fun z => ⟨z.1, fun j h1 h2 => ?_⟩⟩)
      by_cases e : j = i
      · subst e; exact h
      · exact z.2 j (by omega) h2
    refine ev_pos (by omega) (ev_pos (by omega) (ev_bindc (l1In_v _ _ _) ?_))
    by_cases h1 : 1 ≤ rd l (i : Int) ∧ rd l (i : Int) ≤ 99
    · refine ev_pos (by simpa using h1) (ev_dec (fun hp => ?_) (fun hp => ?_))
      · have e1 : (i : Int) - 1 = ((i - 1 : Nat) : Int) := by omega
        rw [e1]
        refine ev_pos (by omega) (ev_pos (by omega) (ev_dec (fun h2 => ?_) (fun h2 => ?_)))
        · rw [hf (fun z => by have := z.2.2 (by omega); omega)]
          exact ev_const rfl
        · exact hgo ⟨h1.1, h1.2, fun _ => by omega⟩
      · exact hgo ⟨h1.1, h1.2, fun z => by omega⟩
    · rw [hf (fun z => h1 ⟨z.1, z.2.1⟩)]
      exact ev_neg (by simp; omega) (ev_const rfl)
theorem IsKeys_sev (l : List Int) (n : Int) (hl : l.length ≤ 9223372036854775806) (b : Bool) (hb : b = true ↔ isKs l n) : Ev (fun k => spec_IsKeys.f k l n) b := by
  unfold spec_IsKeys.f
  refine IsKeys_sl l n hl b l.length 0 (by omega) (hb.trans ?_)
  unfold isKs
  constructor
  · rintro ⟨h1, h2, h3, h4, h5, h6⟩
    refine ⟨⟨h1, h2, h3, h4⟩, fun j _ hj => ⟨(h5 j hj).1, (h5 j hj).2, fun hp => ?_⟩⟩
    have := h6 (j - 1) (by omega)
    rw [show j - 1 + 1 = j from by omega] at this
    exact this
  · rintro ⟨⟨h1, h2, h3, h4⟩, h5⟩
    refine ⟨h1, h2, h3, h4, fun i hi => ⟨(h5 i (by omega) hi).1, (h5 i (by omega) hi).2.1⟩, fun i hi => ?_⟩
    have := (h5 (i + 1) (by omega) hi).2.2 (by omega)
    simpa using this
theorem asc_l (l : List Int) (hl : l.length ≤ 9223372036854775806) (b : Bool) : ∀ (d i : Nat), i + d = l.length → (b = true ↔ ∀ j : Nat, i ≤ j → j < l.length → 0 < j → rd l ((j - 1 : Nat) : Int) < rd l (j : Int)) → Ev (fun k => impl_ascending.l0 k l (l.length : Int) (i : Int)) b := by
  intro d
  induction d with
  | zero =>
    intro i hi hb
    obtain rfl : b = true := hb.mpr (fun j h1 h2 => by omega)
    refine ev_step ?_
    simp only [impl_ascending.l0]
    exact ev_neg (by omega) (ev_const rfl)
  | succ d ih =>
    intro i hi hb
    have hlt : i < l.length := by omega
    refine ev_step ?_
    simp only [impl_ascending.l0]
    rw [w64s (n := l.length) hlt (by omega), w64 (i := (i : Int) - 1) (by omega) (by omega)]
    have hgo : (0 < i → rd l ((i - 1 : Nat) : Int) < rd l (i : Int)) → Ev (fun k => impl_ascending.l0 k l (l.length : Int) ((i + 1 : Nat) : Int)) b := by
      intro h
      refine ih (i + 1) (by omega) (hb.trans ⟨fun z j h1 h2 => z j (by omega) h2, fun z j h1 h2 h3 => ?_⟩)
      by_cases e : j = i
      · subst e; exact h h3
      · exact z j (by omega) h2 h3
    refine ev_pos (by omega) (ev_dec (fun hp => ?_) (fun hp => ?_))
    · have e1 : (i : Int) - 1 = ((i - 1 : Nat) : Int) := by omega
      rw [e1]
      refine ev_pos (by omega) (ev_pos (by omega) (ev_pos (by omega) (ev_pos (by omega) (ev_dec (fun h2 => ?_) (fun h2 => ?_)))))
      · have e : b = false := by
          rw [Bool.eq_false_iff]
          intro z
          have := hb.mp z i (Nat.le_refl _) hlt (by omega)
          omega
        rw [e]
        exact ev_const rfl
      · exact hgo (fun _ => by omega)
    · exact hgo (fun z => by omega)
theorem asc_ends (l : List Int) (h : ∀ i : Nat, i + 1 < l.length → rd l (i : Int) < rd l ((i + 1 : Nat) : Int)) : ∀ j : Nat, j < l.length → rd l 0 ≤ rd l (j : Int) ∧ rd l (j : Int) ≤ rd l ((l.length - 1 : Nat) : Int) := by
  have up : ∀ j : Nat, j < l.length → rd l 0 ≤ rd l (j : Int) := by
    intro j
    induction j with
    | zero => intro _; exact Int.le_refl _
    | succ j ih => intro hj; have := ih (by omega); have := h j hj; omega
  have down : ∀ d j : Nat, j + d + 1 = l.length → rd l (j : Int) ≤ rd l ((l.length - 1 : Nat) : Int) := by
    intro d
    induction d with
    | zero => intro j hj; rw [show l.length - 1 = j from by omega]; exact Int.le_refl _
    | succ d ih => intro j hj; have := ih (j + 1) (by omega); have := h j (by omega); omega
  exact fun j hj => ⟨up j hj, down (l.length - 1 - j) j (by omega)⟩
theorem isKey_v (a : Int) : impl_isKey.f a = some (decide (1 ≤ a ∧ a ≤ 99)) := by
  unfold impl_isKey.f
  rw [InRange_v]
  rfl
theorem IsKeys_iev (l : List Int) (n : Int) (hl : l.length ≤ 9223372036854775806) (b : Bool) (hb : b = true ↔ isKs l n) : Ev (fun k => impl_IsKeys.f k l n) b := by
  unfold impl_IsKeys.f
  have hf : ∀ (_ : ¬ isKs l n), b = false := by
    intro h
    rw [Bool.eq_false_iff]
    exact fun z => h (hb.mp z)
  refine ev_bindc (InRange_v _ _ _) ?_
  by_cases h1 : 1 ≤ l.length ∧ l.length ≤ 4
  · refine ev_pos (by simp; omega) ?_
    have hasc : ∃ q : Bool, q = true ↔ ∀ i : Nat, i + 1 < l.length → rd l (i : Int) < rd l ((i + 1 : Nat) : Int) := by
      by_cases h : ∀ i : Nat, i + 1 < l.length → rd l (i : Int) < rd l ((i + 1 : Nat) : Int)
      · exact ⟨true, ⟨fun _ => h, fun _ => rfl⟩⟩
      · exact ⟨false, ⟨fun z => (by cases z), fun z => absurd z h⟩⟩
    obtain ⟨q, hq⟩ := hasc
    have ea : Ev (fun k => impl_ascending.f k l) q := by
      unfold impl_ascending.f
      refine asc_l l hl q l.length 0 (by omega) (hq.trans ⟨fun z j _ h2 h3 => ?_, fun z i hi => ?_⟩)
      · have := z (j - 1) (by omega)
        rw [show j - 1 + 1 = j from by omega] at this
        exact this
      · have := z (i + 1) (by omega) hi (by omega)
        simpa using this
    refine ev_bind ea ?_
    cases q with
    | false =>
      rw [hf (fun z => by have := hq.mpr z.2.2.2.2.2; cases this)]
      exact ev_neg (by simp) (ev_const rfl)
    | true =>
      have ha := hq.mp rfl
      have hends := asc_ends l ha
      have e1 : wrap64 ((l.length : Int) - 1) = ((l.length - 1 : Nat) : Int) := by rw [w64 (by omega) (by omega)]; omega
      rw [e1]
      refine ev_pos rfl (ev_pos (by omega) (ev_bindc (isKey_v _) ?_))
      by_cases h2 : 1 ≤ rd l 0 ∧ rd l 0 ≤ 99
      · refine ev_pos (by simpa using h2) (ev_pos (by omega) (ev_pos (by omega) (ev_bindc (isKey_v _) ?_)))
        by_cases h3 : 1 ≤ rd l ((l.length - 1 : Nat) : Int) ∧ rd l ((l.length - 1 : Nat) : Int) ≤ 99
        · refine ev_pos (by simpa using h3) (ev_bindc (InRange_v _ _ _) (ev_const ?_))
          congr 1
          rw [Bool.eq_iff_iff, hb, decide_eq_true_iff]
          unfold isKs
          constructor
          · intro z
            exact ⟨h1.1, h1.2, z.1, z.2, fun i hi => by have := hends i hi; omega, ha⟩
          · rintro ⟨_, _, z1, z2, _⟩
            exact ⟨z1, z2⟩
        · rw [hf (fun z => h3 (z.2.2.2.2.1 (l.length - 1) (by omega)))]
          exact ev_neg (by simp; omega) (ev_const rfl)
      · rw [hf (fun z => h2 (z.2.2.2.2.1 0 (by omega)))]
        exact ev_neg (by simp; omega) (ev_const rfl)
  · rw [hf (fun z => h1 ⟨z.1, z.2.1⟩)]
    exact ev_neg (by simp; omega) (ev_const rfl)

theorem slIndex_l (x : List Int) (v : Int) (hx : x.length ≤ 9223372036854775806) (b : Bool) : ∀ (d i : Nat), i + d = x.length → (b = true ↔ v ∈ x.drop i) → ∃ r : Int, Ev (fun k => slices_Index_int_int.l0 k x v (x.length : Int) (i : Int)) r ∧ (b = true ↔ 0 ≤ r) := by
  intro d
  induction d with
  | zero =>
    intro i hi hb
    rw [List.drop_of_length_le (by omega)] at hb
    refine ⟨-1, ev_step ?_, hb.trans (by simp)⟩
    simp only [slices_Index_int_int.l0]
    exact ev_neg (by omega) (ev_const rfl)
  | succ d ih =>
    intro i hi hb
    have hlt : i < x.length := by omega
    rw [List.drop_eq_getElem_cons hlt, List.mem_cons] at hb
    by_cases h : v = x[i]
    · refine ⟨(i : Int), ev_step ?_, ⟨fun _ => by omega, fun _ => hb.mpr (Or.inl h)⟩⟩
      simp only [slices_Index_int_int.l0]
      rw [rd_at x i hlt]
      exact ev_pos (by omega) (ev_pos (by omega) (ev_pos (by omega) (ev_pos h (ev_const rfl))))
    · obtain ⟨r, e, hr⟩ := ih (i + 1) (by omega) (hb.trans ⟨fun z => z.resolve_left h, Or.inr⟩)
      refine ⟨r, ev_step ?_, hr⟩
      simp only [slices_Index_int_int.l0]
      rw [rd_at x i hlt, w64s (n := x.length) hlt (by omega)]
      exact ev_pos (by omega) (ev_pos (by omega) (ev_pos (by omega) (ev_neg h e)))
theorem slContains_ev (x : List Int) (v : Int) (hx : x.length ≤ 9223372036854775806) (b : Bool) (hb : b = true ↔ v ∈ x) : Ev (fun k => slices_Contains_int_int.f k x v) b := by
  unfold slices_Contains_int_int.f slices_Index_int_int.f
  obtain ⟨r, e, hr⟩ := slIndex_l x v hx b x.length 0 (by omega) (by simpa using hb)
  refine ev_bind e (ev_const ?_)
  congr 1
  rw [Bool.eq_iff_iff, hr, decide_eq_true_iff]

/-- How many of the keys are held. -/
def held_ (h l : List Int) : Nat := l.countP (fun x => decide (x ∈ h))
theorem CS_il (h l : List Int) (n : Int) (hh : h.length ≤ 9223372036854775806) (hl : l.length ≤ 1000000000000) (q : Bool) (hq : q = true ↔ isKs l n) : ∀ (d i c : Nat), i + d = l.length → c ≤ i →
    Ev (fun k => impl_CanSign.l0 k h (c : Int) l (l.length : Int) (i : Int) l n) (q && decide (((c + held_ h (l.drop i) : Nat) : Int) ≥ n)) := by
  intro d
  induction d with
  | zero =>
    intro i c hi hc
    refine ev_step ?_
    simp only [impl_CanSign.l0]
    rw [List.drop_of_length_le (by omega)]
    refine ev_neg (by omega) (ev_bind (IsKeys_iev l n (by omega) q hq) ?_)
    cases q with
    | true => exact ev_pos rfl (ev_const (by simp [held_]))
    | false => exact ev_neg (by simp) (ev_const (by simp))
  | succ d ih =>
    intro i c hi hc
    have hlt : i < l.length := by omega
    refine ev_step ?_
    simp only [impl_CanSign.l0]
    rw [rd_at l i hlt, w64s (n := l.length) hlt (by omega), w64s (n := l.length) (i := c) (by omega) (by omega), List.drop_eq_getElem_cons hlt]
    refine ev_pos (by omega) (ev_pos (by omega) (ev_pos (by omega) (ev_bind (slContains_ev h l[i] hh (decide (l[i] ∈ h)) (by simp)) (ev_dec (fun z => ?_) (fun z => ?_)))))
    · have := ih (i + 1) (c + 1) (by omega) (by omega)
      have e : c + held_ h (l[i] :: l.drop (i + 1)) = c + 1 + held_ h (l.drop (i + 1)) := by
        unfold held_
        rw [List.countP_cons, if_pos z]
        omega
      rw [e]
      exact this
    · have := ih (i + 1) c (by omega) (by omega)
      have e : held_ h (l[i] :: l.drop (i + 1)) = held_ h (l.drop (i + 1)) := by
        unfold held_
        rw [List.countP_cons, if_neg z]
        omega
      rw [e]
      exact this
theorem CS_iev (h l : List Int) (n : Int) (hh : h.length ≤ 9223372036854775806) (hl : l.length ≤ 1000000000000) (q : Bool) (hq : q = true ↔ isKs l n) : Ev (fun k => impl_CanSign.f k l n h) (q && decide (((held_ h l : Nat) : Int) ≥ n)) := by
  unfold impl_CanSign.f
  have := CS_il h l n hh hl q hq l.length 0 0 (by omega) (by omega)
  simpa using this

theorem sKeysInts_v (l : List Int) (n : Int) (hl : l.length ≤ 1000000000000) : spec_KeysInts.f l n = some (n :: (l.length : Int) :: l) := by
  unfold spec_KeysInts.f
  rw [Option.bind_some, if_pos (by simp; omega)]
  rfl
theorem iKeysInts_v (l : List Int) (n : Int) (hl : l.length ≤ 1000000000000) : impl_KeysInts.f l n = some (n :: (l.length : Int) :: l) := by
  unfold impl_KeysInts.f
  rw [Option.bind_some, if_pos (by simp; omega)]
  rfl

theorem iMod_v (a b : Int) : impl_Mod.f a b = some (if 1 ≤ b ∧ b ≤ 1000000000000 then a % b else 0) := by
  unfold impl_Mod.f
  rw [InRange_v]
  by_cases h2 : 1 ≤ b ∧ b ≤ 1000000000000
  · have hb : ¬ b = 0 := by omega
    have h3 := Int.lt_tmod_of_pos a (show 0 < b by omega)
    have h4 := Int.tmod_lt_of_pos a (show 0 < b by omega)
    rw [if_pos h2]
    simp only [h2, hb, and_self, decide_true, Option.bind_some, if_true, if_false]
    rw [w64 (i := Int.tmod a b + b) (by omega) (by omega), Int.tmod_eq_emod_of_nonneg (a := Int.tmod a b + b) (by omega)]
    congr 1
    have h5 := Int.tmod_add_tdiv_mul a b
    rw [Int.add_emod_right]
    conv => rhs; rw [← h5]
    rw [Int.add_mul_emod_self_right]
  · rw [if_neg h2]
    simp [h2]

/-- One round of the hash. -/
def hstep (d v : Int) : Int := (d * 1000003 + v % 2147483647 + 13) % 2147483647
def hashL (l : List Int) : Int := l.foldl hstep 11
theorem hstep_bd (d v : Int) : 0 ≤ hstep d v ∧ hstep d v < 2147483647 := by unfold hstep; omega
theorem hfold_bd (l : List Int) : ∀ d : Int, 0 ≤ d → d < 2147483647 → 0 ≤ l.foldl hstep d ∧ l.foldl hstep d < 2147483647 := by
  induction l with
  | nil => intro d h0 h1; exact ⟨h0, h1⟩
  | cons a l ih => intro d _ _; exact ih _ (hstep_bd d a).1 (hstep_bd d a).2
theorem hashL_bd (l : List Int) : 0 ≤ hashL l ∧ hashL l < 2147483647 := hfold_bd l 11 (by omega) (by omega)
theorem hround (d v : Int) (h0 : 0 ≤ d) (h1 : d < 2147483647) : Int.tmod (wrap64 ((wrap64 ((wrap64 (d * 1000003)) + v % 2147483647)) + 13)) 2147483647 = hstep d v := by
  have hv0 : 0 ≤ v % 2147483647 := by omega
  have hv1 : v % 2147483647 < 2147483647 := by omega
  rw [w64 (i := d * 1000003) (by omega) (by omega), w64 (i := d * 1000003 + v % 2147483647) (by omega) (by omega), w64 (i := d * 1000003 + v % 2147483647 + 13) (by omega) (by omega), Int.tmod_eq_emod_of_nonneg (by omega)]
  rfl
theorem iMod_at (v : Int) : impl_Mod.f v 2147483647 = some (v % 2147483647) := by
  rw [iMod_v, if_pos (by omega)]
theorem Hash_il (x : List Int) (hx : x.length ≤ 9223372036854775806) : ∀ (m i : Nat) (d : Int), i + m = x.length → 0 ≤ d → d < 2147483647 → Ev (fun k => impl_Hash.l0 k d x (x.length : Int) (i : Int)) ((x.drop i).foldl hstep d) := by
  intro m
  induction m with
  | zero =>
    intro i d hi _ _
    refine ev_step ?_
    simp only [impl_Hash.l0]
    rw [List.drop_of_length_le (by omega)]
    exact ev_neg (by omega) (ev_const rfl)
  | succ m ih =>
    intro i d hi h0 h1
    have hlt : i < x.length := by omega
    refine ev_step ?_
    simp only [impl_Hash.l0]
    refine ev_pos (by omega) (ev_pos (by omega) (ev_pos (by omega) (ev_bindc (iMod_at _) ?_)))
    rw [hround _ _ h0 h1, w64s (n := x.length) hlt (by omega), rd_at x i hlt, List.drop_eq_getElem_cons hlt]
    exact ih (i + 1) _ (by omega) (hstep_bd _ _).1 (hstep_bd _ _).2
theorem Hash_iev (x : List Int) (hx : x.length ≤ 9223372036854775806) : Ev (fun k => impl_Hash.f k x) (hashL x) := by
  unfold impl_Hash.f
  exact Hash_il x hx x.length 0 11 (by omega) (by omega) (by omega)

def kdL (l : List Int) (n : Int) : Int := hashL (211 :: n :: (l.length : Int) :: l)
theorem KD_iev (l : List Int) (n : Int) (hl : l.length ≤ 100000000000) : Ev (fun k => impl_KeysDigest.f k l n) (kdL l n) := by
  unfold impl_KeysDigest.f
  exact ev_bindc rfl (ev_bindc (iKeysInts_v l n (by omega)) (ev_pos (by simp; omega) (ev_bind (Hash_iev _ (by simp; omega)) (ev_const rfl))))

theorem EqualInts_ev (x y : List Int) (hx : x.length ≤ 9223372036854775806) (b : Bool) (hb : b = true ↔ x = y) : Ev (fun k => spec_EqualInts.f k x y) b := by
  unfold spec_EqualInts.f
  refine ev_dec (fun h => ?_) (fun h => ?_)
  · exact eq_loop (L := spec_EqualInts.l0) (c := fun x y i => rd x i = rd y i) (fun _ _ _ _ => rfl) (fun x y i h h' => by rw [rd_at x i h, rd_at y i h']) x y hx (by omega) b x.length 0 (by omega) (by simpa using hb)
  · have e : b = false := by
      rw [Bool.eq_false_iff]
      intro z
      exact h (by rw [hb.mp z])
    subst e
    exact ev_const rfl
theorem EqualInts_refl (x : List Int) (hx : x.length ≤ 9223372036854775806) : Ev (fun k => spec_EqualInts.f k x x) true := EqualInts_ev x x hx true (by simp)

theorem slEqual_ev (x y : List Int) (hx : x.length ≤ 9223372036854775806) (b : Bool) (hb : b = true ↔ x = y) : Ev (fun k => slices_Equal_int_int.f k x y) b := by
  unfold slices_Equal_int_int.f
  refine ev_dec (fun h => ?_) (fun h => ?_)
  · exact eq_loop_n (L := slices_Equal_int_int.l0) (c := fun x y i => rd x i = rd y i) (fun _ _ _ _ _ => rfl) (fun x y i h h' => by rw [rd_at x i h, rd_at y i h']) x y hx (by omega) b x.length 0 (by omega) (by simpa using hb)
  · have e : b = false := by
      rw [Bool.eq_false_iff]
      intro z
      exact h (by rw [hb.mp z])
    subst e
    exact ev_const rfl

theorem sameInts_ev (x y : List Int) (hx : x.length ≤ 9223372036854775806) (b : Bool) (hb : b = true ↔ x = y) : Ev (fun k => laws_sameInts.f k x y) b := by
  unfold laws_sameInts.f
  refine ev_dec (fun h => ?_) (fun h => ?_)
  · exact eq_loop (L := laws_sameInts.l0) (c := fun x y i => rd x i = rd y i) (fun _ _ _ _ => rfl) (fun x y i h h' => by rw [rd_at x i h, rd_at y i h']) x y hx (by omega) b x.length 0 (by omega) (by simpa using hb)
  · have e : b = false := by
      rw [Bool.eq_false_iff]
      intro z
      exact h (by rw [hb.mp z])
    subst e
    exact ev_const rfl
theorem sameInts_refl (x : List Int) (hx : x.length ≤ 9223372036854775806) : Ev (fun k => laws_sameInts.f k x x) true := sameInts_ev x x hx true (by simp)

theorem hasInt_l (x : List Int) (v : Int) (hx : x.length ≤ 9223372036854775806) (b : Bool) : ∀ (d i : Nat), i + d = x.length → (b = true ↔ v ∈ x.drop i) → Ev (fun k => laws_hasInt.l0 k x v (i : Int)) b := by
  intro d
  induction d with
  | zero =>
    intro i hi hb
    rw [List.drop_of_length_le (by omega)] at hb
    obtain rfl : b = false := by rw [Bool.eq_false_iff]; intro z; simpa using hb.mp z
    refine ev_step ?_
    simp only [laws_hasInt.l0]
    exact ev_neg (by omega) (ev_const rfl)
  | succ d ih =>
    intro i hi hb
    have hlt : i < x.length := by omega
    rw [List.drop_eq_getElem_cons hlt, List.mem_cons] at hb
    refine ev_step ?_
    simp only [laws_hasInt.l0]
    rw [rd_at x i hlt, w64s (n := x.length) hlt (by omega)]
    refine ev_pos (by omega) (ev_pos (by omega) (ev_dec (fun h => ?_) (fun h => ?_)))
    · rw [hb.mpr (Or.inl h.symm)]
      exact ev_const rfl
    · exact ih (i + 1) (by omega) (hb.trans ⟨fun z => z.resolve_left (fun e => h e.symm), Or.inr⟩)
theorem hasInt_ev (x : List Int) (v : Int) (hx : x.length ≤ 9223372036854775806) (b : Bool) (hb : b = true ↔ v ∈ x) : Ev (fun k => laws_hasInt.f k x v) b := by
  unfold laws_hasInt.f
  exact hasInt_l x v hx b x.length 0 (by omega) (by simpa using hb)

theorem l6Held_l (b : List Int) (hb : b.length ≤ 1000000000000000000) : ∀ (d : Nat) (out : List Int) (i h : Int), 0 ≤ i → d ≤ 1000 → out.length + d ≤ 1000 → ∃ x i' h', Ev (fun k => spec_l6Held.l0 k out (d : Int) b i h) (x, i', h') ∧ x.length ≤ 1000 ∧ 0 ≤ i' := by
  intro d
  induction d with
  | zero =>
    intro out i h hi _ ho
    refine ⟨out, i, h, ev_step ?_, by omega, hi⟩
    simp only [spec_l6Held.l0]
    exact ev_neg (by simp) (ev_const rfl)
  | succ d ih =>
    intro out i h hi hd ho
    obtain ⟨s, i1, h1, e, _, _, _, c⟩ := l1Below_ok b i h 9 hb hi
    obtain ⟨x, i2, h2, e2, q⟩ := ih (out ++ [wrap64 (1 + s)]) i1 h1 c (by omega) (by simp; omega)
    refine ⟨x, i2, h2, ev_step ?_, q⟩
    simp only [spec_l6Held.l0]
    refine ev_pos (by omega) (ev_bindc e (ev_pos (by omega) ?_))
    rw [w64 (i := ((d + 1 : Nat) : Int) - 1) (by omega) (by omega), show ((d + 1 : Nat) : Int) - 1 = (d : Int) from by omega]
    exact e2
theorem l6Held_ok (b : List Int) (i h : Int) (hb : b.length ≤ 1000000000000000000) (hi : 0 ≤ i) : ∃ x i' h', Ev (fun k => spec_l6Held.f k b i h) (x, i', h') ∧ x.length ≤ 1000 ∧ 0 ≤ i' := by
  obtain ⟨n, i2, h2, e2, p, q, _, c⟩ := l1Below_ok b i h 6 hb hi
  have q' := q (by omega)
  obtain ⟨m, rfl⟩ := Int.eq_ofNat_of_zero_le p
  obtain ⟨x, i3, h3, e3, r⟩ := l6Held_l b hb m [] i2 h2 c (by omega) (by simp; omega)
  unfold spec_l6Held.f
  exact ⟨x, i3, h3, ev_bindc e2 e3, r⟩
/-- Numbers that ascend by at most three each, from a on. -/
def gr (a : Int) : List Int → Prop
  | [] => True
  | x :: l => a + 1 ≤ x ∧ x ≤ a + 3 ∧ gr x l
theorem l6Keys_l (b : List Int) (hb : b.length ≤ 1000000000000000000) (N : Nat) (h1N : 1 ≤ N) (hN : N ≤ 3) (nd : Int) : ∀ (d j : Nat) (a i h : Int) (out : List Int), j + d = N → 0 ≤ i → out.length + d ≤ 1000 → 0 ≤ a → a + 3 * (d : Int) ≤ 1000 → ∃ t n i' h', Ev (fun k => spec_l6Keys.l0 k (N : Int) a (j : Int) b i h out nd) (out ++ t, n, i', h') ∧ gr a t ∧ t.length = d ∧ 1 ≤ n ∧ n ≤ (N : Int) ∧ 0 ≤ i' := by
  intro d
  induction d with
  | zero =>
    intro j a i h out hj hi ho _ _
    obtain ⟨s, i1, h1, e, p, q, _, c⟩ := l1Below_ok b i h (N : Int) hb hi
    have q := q (by omega)
    refine ⟨[], wrap64 (1 + s), i1, h1, ev_step ?_, trivial, rfl, ?_, ?_, c⟩
    · simp only [spec_l6Keys.l0]
      exact ev_neg (by omega) (ev_bindc e (ev_const (by simp)))
    · rw [w64 (by omega) (by omega)]; omega
    · rw [w64 (by omega) (by omega)]; omega
  | succ d ih =>
    intro j a i h out hj hi ho ha hm
    obtain ⟨s, i1, h1, e, p, q, _, c⟩ := l1Below_ok b i h 3 hb hi
    have q := q (by omega)
    obtain ⟨t, n, i2, h2, e2, g, gl, r⟩ := ih (j + 1) (a + 1 + s) i1 h1 (out ++ [a + 1 + s]) (by omega) c (by simp; omega) (by omega) (by omega)
    refine ⟨(a + 1 + s) :: t, n, i2, h2, ev_step ?_, ⟨by omega, by omega, g⟩, by simp [gl], r⟩
    simp only [spec_l6Keys.l0]
    rw [w64s (n := N) (by omega) (by omega), w64 (i := a + 1) (by omega) (by omega)]
    rw [List.append_assoc] at e2
    refine ev_pos (by omega) (ev_bindc e (ev_pos (by omega) ?_))
    rw [w64 (i := a + 1 + s) (by omega) (by omega)]
    exact e2
/-- What a drawn set is, where it is valid. -/
def Dr (x : List Int) (n : Int) : Prop := x.length ≤ 1001 ∧ (isKs x n → ∃ y, (x = y ∨ x = y ++ [99]) ∧ 1 ≤ y.length ∧ y.length ≤ 3 ∧ (∃ a, 0 ≤ a ∧ a ≤ 3 ∧ gr a y) ∧ 1 ≤ n ∧ n ≤ (y.length : Int))
theorem last99 (y : List Int) (v n : Int) (h1 : 1 ≤ y.length) (hv : v ∈ ([1, 99, 100] : List Int)) (hk : isKs (y ++ [v]) n) : v = 99 := by
  obtain ⟨_, _, _, _, h5, h6⟩ := hk
  have z1 := h5 y.length (by simp)
  rw [rd_at _ y.length (by simp)] at z1
  have z2 := (h5 (y.length - 1) (by simp; omega)).1
  have z3 := h6 (y.length - 1) (by simp; omega)
  rw [show y.length - 1 + 1 = y.length from by omega, rd_at (y ++ [v]) y.length (by simp)] at z3
  simp only [List.getElem_append_right (Nat.le_refl _), Nat.sub_self, List.getElem_cons_zero] at z1 z3
  simp only [List.mem_cons, List.not_mem_nil, or_false] at hv
  omega
theorem l6Any_ok (b : List Int) (i h : Int) (hb : b.length ≤ 1000000000000000000) (hi : 0 ≤ i) : ∃ x n i' h', Ev (fun k => spec_l6Any.f k b i h) (x, n, i', h') ∧ Dr x n ∧ 0 ≤ i' := by
  obtain ⟨s, i1, h1, e1, p1, q1, _, c1⟩ := l1Below_ok b i h 3 hb hi
  obtain ⟨m, rfl⟩ := Int.eq_ofNat_of_zero_le p1
  have q1 := q1 (by omega)
  obtain ⟨a, i2, h2, e2, p2, q2, _, c2⟩ := l1Below_ok b i1 h1 4 hb c1
  have q2 := q2 (by omega)
  obtain ⟨x, n, i3, h3, e3, g, gl, n1, n2, c3⟩ := l6Keys_l b hb (m + 1) (by omega) (by omega) 0 (m + 1) 0 a i2 h2 [] (by omega) c2 (by simp; omega) p2 (by omega)
  rw [List.nil_append] at e3
  have ek : Ev (fun k => spec_l6Keys.f k b i h) (x, n, i3, h3) := by
    unfold spec_l6Keys.f
    refine ev_bindc e1 (ev_bindc e2 ?_)
    have e : wrap64 (1 + (m : Int)) = ((m + 1 : Nat) : Int) := by rw [w64 (by omega) (by omega)]; omega
    simp only [e]
    exact e3
  obtain ⟨t, i4, h4, e4, _, _, _, c4⟩ := l1Below_ok b i3 h3 10 hb c3
  unfold spec_l6Any.f
  by_cases t0 : t = 0
  · obtain ⟨v, i5, h5, e5, hv, c5⟩ := l1Int_ok b i4 h4 [0, (-1), 5] hb c4 (by simp)
    refine ⟨x, v, i5, h5, ev_bind ek (ev_bindc e4 (ev_pos t0 (ev_bindc e5 (ev_const rfl)))), ⟨by omega, fun hk => ?_⟩, c5⟩
    obtain ⟨_, _, z1, z2, _⟩ := hk
    simp only [List.mem_cons, List.not_mem_nil, or_false] at hv
    omega
  by_cases t1 : t = 1
  · obtain ⟨v, i5, h5, e5, hv, c5⟩ := l1Int_ok b i4 h4 [1, 99, 100] hb c4 (by simp)
    refine ⟨x ++ [v], n, i5, h5, ev_bind ek (ev_bindc e4 (ev_neg t0 (ev_pos t1 (ev_bindc e5 (ev_pos (by simp only []; omega) (ev_const rfl)))))), ⟨by simp; omega, fun hk => ?_⟩, c5⟩
    obtain rfl := last99 x v n (by omega) hv hk
    exact ⟨x, Or.inr rfl, by omega, by omega, ⟨a, p2, by omega, g⟩, n1, by omega⟩
  by_cases t2 : t = 2
  · refine ⟨[], n, i4, h4, ev_bind ek (ev_bindc e4 (ev_neg t0 (ev_neg t1 (ev_pos t2 (ev_const rfl))))), ⟨by simp, fun hk => ?_⟩, c4⟩
    have := hk.1
    simp at this
  · exact ⟨x, n, i4, h4, ev_bind ek (ev_bindc e4 (ev_neg t0 (ev_neg t1 (ev_neg t2 (ev_const rfl))))), ⟨by omega, fun _ => ⟨x, Or.inl rfl, by omega, by omega, ⟨a, p2, by omega, g⟩, n1, by omega⟩⟩, c4⟩
/-- All such lists of k numbers, from a on. -/
def grN : Nat → Nat → List (List Nat)
  | _, 0 => [[]]
  | a, k + 1 => [a + 1, a + 2, a + 3].flatMap fun x => (grN x k).map (x :: ·)
def toI (l : List Nat) : List Int := l.map fun n : Nat => (n : Int)
theorem gr_mem : ∀ (y : List Int) (a : Nat), gr (a : Int) y → ∃ l ∈ grN a y.length, y = toI l
  | [], a, _ => ⟨[], by simp [grN], rfl⟩
  | x :: y, a, h => by
    obtain ⟨h1, h2, h3⟩ := h
    obtain ⟨m, rfl⟩ := Int.eq_ofNat_of_zero_le (show 0 ≤ x by omega)
    obtain ⟨l, hl, rfl⟩ := gr_mem y m h3
    refine ⟨m :: l, ?_, rfl⟩
    simp only [List.length_cons, grN, List.mem_flatMap, List.mem_map]
    exact ⟨m, by simp; omega, l, hl, rfl⟩
/-- All valid sets that can be drawn. -/
def allK : List (List Nat × Nat) := [0, 3].flatMap fun a => [1, 2, 3].flatMap fun k => (grN a k).flatMap fun y => [1, 2, 3].flatMap fun n => if n ≤ k then [(y, n), (y ++ [99], n)] else []
def hsN (h w : Nat) : Nat := (h * 1000003 + w % 2147483647 + 13) % 2147483647
def digN (p : List Nat × Nat) : Nat := (211 :: p.2 :: p.1.length :: p.1).foldl hsN 11
def ndp : List Nat → Bool
  | [] => true
  | x :: l => l.all (fun y => !(Nat.beq x y)) && ndp l
theorem dig_nd : ndp (allK.map digN) = true := by decide +kernel
theorem ndp_inj {α : Type} (f : α → Nat) : ∀ l : List α, ndp (l.map f) = true → ∀ p ∈ l, ∀ q ∈ l, f p = f q → p = q
  | [], _, p, hp, _, _, _ => by cases hp
  | x :: l, h, p, hp, q, hq, e => by
    simp only [List.map_cons, ndp, Bool.and_eq_true] at h
    have ne : ∀ y ∈ l, f x ≠ f y := by
      intro y hy c
      have z := List.all_eq_true.1 h.1 (f y) (List.mem_map.2 ⟨y, hy, rfl⟩)
      rw [c] at z
      simp at z
    rcases List.mem_cons.1 hp with rfl | hp' <;> rcases List.mem_cons.1 hq with rfl | hq'
    · rfl
    · exact absurd e (ne _ hq')
    · exact absurd e.symm (ne _ hp')
    · exact ndp_inj f l h.2 p hp' q hq' e
theorem hstep_nat (h w : Nat) : hstep (h : Int) (w : Int) = ((hsN h w : Nat) : Int) := by unfold hstep hsN; omega
theorem fold_nat : ∀ (l : List Nat) (h : Nat), (toI l).foldl hstep (h : Int) = ((l.foldl hsN h : Nat) : Int)
  | [], _ => rfl
  | x :: l, h => by
    have := fold_nat l (hsN h x)
    rw [← hstep_nat] at this
    exact this
theorem kd_nat (l : List Nat) (n : Nat) : kdL (toI l) (n : Int) = ((digN (l, n) : Nat) : Int) := by
  have := fold_nat (211 :: n :: l.length :: l) 11
  unfold kdL hashL digN
  rw [← this]
  simp [toI]
theorem dr_all (x : List Int) (n : Int) (h : Dr x n) (hk : isKs x n) : ∃ l m, (l, m) ∈ allK ∧ x = toI l ∧ n = ((m : Nat) : Int) := by
  obtain ⟨y, hx, y1, y3, ⟨a, a0, a3, g⟩, n1, n2⟩ := h.2 hk
  obtain ⟨m, rfl⟩ := Int.eq_ofNat_of_zero_le (show 0 ≤ n by omega)
  have ga : ∃ c : Nat, c ∈ ([0, 3] : List Nat) ∧ gr (c : Int) y := by
    cases y with
    | nil => simp at y1
    | cons v y =>
      obtain ⟨g1, g2, g3⟩ := g
      by_cases hv : v ≤ 3
      · exact ⟨0, by simp, by simp [gr]; exact ⟨by omega, by omega, g3⟩⟩
      · exact ⟨3, by simp, by simp [gr]; exact ⟨by omega, by omega, g3⟩⟩
  obtain ⟨c, hc, gc⟩ := ga
  obtain ⟨l, hl, rfl⟩ := gr_mem y c gc
  have el : (toI l).length = l.length := by simp [toI]
  have mem : ∀ z : List Nat × Nat, z ∈ ([(l, m), (l ++ [99], m)] : List (List Nat × Nat)) → z ∈ allK := by
    intro z hz
    unfold allK
    simp only [List.mem_flatMap]
    refine ⟨c, hc, (toI l).length, ?_, l, hl, m, ?_, ?_⟩
    · simp only [List.mem_cons, List.not_mem_nil, or_false]; omega
    · simp only [List.mem_cons, List.not_mem_nil, or_false]; omega
    · rw [if_pos (by omega)]; exact hz
  rcases hx with rfl | rfl
  · exact ⟨l, m, mem _ (by simp), rfl, rfl⟩
  · exact ⟨l ++ [99], m, mem _ (by simp), by simp [toI], rfl⟩
theorem kd_inj (x y : List Int) (n p : Int) (hx : Dr x n) (hy : Dr y p) (kx : isKs x n) (ky : isKs y p) (h : kdL x n = kdL y p) : x = y ∧ n = p := by
  obtain ⟨l, m, hm, rfl, rfl⟩ := dr_all x n hx kx
  obtain ⟨l', m', hm', rfl, rfl⟩ := dr_all y p hy ky
  rw [kd_nat, kd_nat] at h
  have e := ndp_inj digN allK dig_nd _ hm _ hm' (by omega)
  rw [Prod.mk.injEq] at e
  rw [e.1, e.2]
  exact ⟨rfl, rfl⟩
theorem eqK_i (l m : List Int) (n p : Int) (hl : l.length ≤ 1001) : Ev (fun k => impl_EqualKeys.f k l n m p) (decide (l = m ∧ n = p)) := by
  unfold impl_EqualKeys.f
  refine ev_bind (slEqual_ev l m (by omega) (decide (l = m)) (by simp)) ?_
  by_cases h : l = m
  · refine ev_pos (by simp [h]) (ev_const ?_)
    simp [h]
    rw [Bool.eq_iff_iff]
    simp
  · exact ev_neg (by simp [h]) (ev_const (by simp [h]))
theorem eqK_s (l m : List Int) (n p : Int) (hl : l.length ≤ 1001) : Ev (fun k => spec_EqualKeys.f k l n m p) (decide (l = m ∧ n = p)) := by
  unfold spec_EqualKeys.f
  by_cases h : n = p
  · refine ev_pos h (ev_bind (EqualInts_ev l m (by omega) (decide (l = m)) (by simp)) (ev_const ?_))
    simp [h]
  · exact ev_neg h (ev_const (by simp [h]))
theorem one_ks (o : Int) : (decide (1 ≤ o ∧ o ≤ 99)) = true ↔ isKs [o] 1 := by
  rw [decide_eq_true_iff]
  unfold isKs
  constructor
  · intro q
    refine ⟨by simp, by simp, by simp, by simp, fun i hi => ?_, fun i hi => ?_⟩
    · obtain rfl : i = 0 := by simp at hi; exact hi
      rw [rd_at [o] 0 (by simp)]
      exact q
    · simp at hi
  · intro q
    have z := q.2.2.2.2.1 0 (by simp)
    rw [rd_at [o] 0 (by simp)] at z
    exact z
theorem has_i (l : List Int) (n v : Int) (hl : l.length ≤ 1001) : Ev (fun k => impl_HasKey.f k l n v) (decide (v ∈ l)) := by
  unfold impl_HasKey.f
  exact ev_bind (slContains_ev l v (by omega) (decide (v ∈ l)) (by simp)) (ev_const rfl)
theorem f2_ok (v : Int) (a : List Int) (p : Int) (l : List Int) (n : Int) (e : List Int) (q o : Int) (ha : a.length ≤ 1001) (hl : l.length ≤ 1001) (he : e.length ≤ 1001) : Ev (fun k => laws_FnKeySets.f2 k v a p l n e q o) true := by
  obtain ⟨b, hb⟩ := ks_bool l n
  have c1 := CS_iev [o] [o] 1 (by simp) (by simp) _ (one_ks o)
  have hd : held_ [o] [o] = 1 := by simp [held_]
  rw [hd] at c1
  have h1 := has_i [o] 1 o (by simp)
  simp only [List.mem_singleton, decide_true] at h1
  unfold laws_FnKeySets.f2
  refine ev_bind (IsKeys_iev l n (by omega) b hb) (ev_bind (IsKeys_sev l n (by omega) b hb) (ev_pos (by simp) (ev_bind (has_i e q v he) (ev_bind (hasInt_ev e v (by omega) (decide (v ∈ e)) (by simp)) (ev_pos (by simp) (ev_bindc (iKeysInts_v a p (by omega)) (ev_bindc (sKeysInts_v a p (by omega)) (ev_bind (sameInts_refl _ (by simp; omega)) (ev_pos rfl (ev_bindc rfl (ev_bind h1 (ev_pos rfl (ev_bindc rfl (ev_bind c1 (ev_dec (fun z => ev_const ?_) (fun z => ev_const ?_))))))))))))))))
  · simp [z]
  · simp [z]
theorem f1_ok (h : List Int) (v : Int) (a : List Int) (p : Int) (l : List Int) (n : Int) (e : List Int) (q o : Int) (hh : h.length ≤ 1000) (ha : a.length ≤ 1001) (hl : l.length ≤ 1001) (he : e.length ≤ 1001) : Ev (fun k => laws_FnKeySets.f1 k h v ((held_ h l : Nat) : Int) a p l n e q o) true := by
  obtain ⟨b, hb⟩ := ks_bool l n
  have f := f2_ok v a p l n e q o ha hl he
  unfold laws_FnKeySets.f1
  refine ev_bind (CS_iev h l n (by omega) (by omega) b hb) (ev_bind (IsKeys_iev l n (by omega) b hb) ?_)
  cases b with
  | false => exact ev_neg (by simp) (ev_pos (by simp) f)
  | true => exact ev_pos rfl (ev_pos (by simp) f)
theorem KS_l0 (c h : List Int) (v : Int) (a : List Int) (p : Int) (b : List Int) (q : Int) (l : List Int) (n : Int) (e : List Int) (m : Int) (hh : h.length ≤ 1000) (hl : l.length ≤ 1001)
    (fin : Ev (fun k => laws_FnKeySets.l0 k c h v ((held_ h l : Nat) : Int) ((l.length : Nat) : Int) a p b q l n e m) true) :
    ∀ d i s : Nat, i + d = l.length → s ≤ i → s + held_ h (l.drop i) = held_ h l → Ev (fun k => laws_FnKeySets.l0 k c h v (s : Int) (i : Int) a p b q l n e m) true := by
  intro d
  induction d with
  | zero =>
    intro i s hi _ hs
    rw [List.drop_of_length_le (by omega)] at hs
    obtain rfl : i = l.length := by omega
    obtain rfl : s = held_ h l := by simpa [held_] using hs
    exact fin
  | succ d ih =>
    intro i s hi hsi hs
    have hlt : i < l.length := by omega
    have ev := hasInt_ev h l[i] (by omega) (decide (l[i] ∈ h)) (by simp)
    have hd : held_ h (l.drop i) = held_ h (l.drop (i + 1)) + (if l[i] ∈ h then 1 else 0) := by
      unfold held_
      rw [List.drop_eq_getElem_cons hlt, List.countP_cons]
      simp
    refine ev_step ?_
    simp only [laws_FnKeySets.l0]
    rw [rd_at l i hlt, w64s (n := l.length) hlt (by omega), w64s (n := i + 1) (i := s) (by omega) (by omega)]
    refine ev_pos (by omega) (ev_pos (by omega) (ev_bind ev ?_))
    by_cases hm : l[i] ∈ h
    · rw [if_pos hm] at hd
      exact ev_pos (by simpa using hm) (ih (i + 1) (s + 1) (by omega) (by omega) (by omega))
    · rw [if_neg hm] at hd
      exact ev_neg (by simpa using hm) (ih (i + 1) s (by omega) (by omega) (by omega))
theorem zero_ok (c : List Int) (hc : c.length ≤ 1000000000000000000) (h : List Int) (v : Int) (a : List Int) (p : Int) (b : List Int) (q : Int) (l : List Int) (n : Int) (e : List Int) (m : Int) (hh : h.length ≤ 1000) (hl : l.length ≤ 1001) (he : e.length ≤ 1001) (da : Dr a p) (db : Dr b q) :
    Ev (fun k => laws_FnKeySets.l0 k c h v ((held_ h l : Nat) : Int) ((l.length : Nat) : Int) a p b q l n e m) true := by
  obtain ⟨h1, e1⟩ := l1New_ok c hc
  obtain ⟨o, i8, h8, e8, _, _, _, _⟩ := l1Below_ok c 0 h1 101 hc (by omega)
  have d3 : Ev (fun k => spec_DrawOneKey.f k c) o := by
    unfold spec_DrawOneKey.f
    exact ev_bind e1 (ev_bindc e8 (ev_const rfl))
  obtain ⟨ba, ka⟩ := ks_bool a p
  obtain ⟨bb, kb⟩ := ks_bool b q
  have g := eqK_i a b p q da.1
  have f := f1_ok h v a p l n e m o hh da.1 hl he
  refine ev_step ?_
  simp only [laws_FnKeySets.l0]
  refine ev_neg (by omega) (ev_bind d3 (ev_bind g (ev_bind (eqK_s a b p q da.1) (ev_pos (by simp) (ev_bind (IsKeys_sev a p (by have := da.1; omega) ba ka) ?_)))))
  cases ba with
  | false => exact ev_neg (by simp) f
  | true =>
    refine ev_pos rfl (ev_bind (IsKeys_sev b q (by have := db.1; omega) bb kb) ?_)
    cases bb with
    | false => exact ev_neg (by simp) f
    | true =>
      refine ev_pos rfl (ev_bind (KD_iev a p (by have := da.1; omega)) (ev_bind (KD_iev b q (by have := db.1; omega)) (ev_bind g (ev_pos ?_ f))))
      rw [beq_iff_eq, Bool.eq_iff_iff, beq_iff_eq, decide_eq_true_iff]
      exact ⟨kd_inj a b p q da db (ka.mp rfl) (kb.mp rfl), fun z => by rw [z.1, z.2]⟩
end OfFnKeySets
open OfFnKeySets in
theorem FnKeySets : laws_FnKeySets.Pure := by
  intro c _ hb _
  apply Ev.rounds
  unfold laws_FnKeySets.f laws_big.f
  refine ev_bindc rfl (ev_dec (fun _ => ev_const rfl) (fun h0 => ?_))
  have hc : c.length ≤ 1000000000000000000 := by omega
  obtain ⟨h1, e1⟩ := l1New_ok c hc
  obtain ⟨a, p, i2, h2, e2, da, c2⟩ := l6Any_ok c 0 h1 hc (by omega)
  obtain ⟨x, i3, h3, e3, c3⟩ := l1Once_ok c i2 h2 2 hc c2
  obtain ⟨b, q, db, d1⟩ : ∃ b q, Dr b q ∧ Ev (fun k => spec_DrawEqualKeys.f k c) (a, p, b, q) := by
    unfold spec_DrawEqualKeys.f
    cases x with
    | true =>
      have ec : spec_l6Copy.f a p = some (a, p) := by
        unfold spec_l6Copy.f
        rw [Option.bind_some, if_pos (by have := da.1; simp; omega)]
        rfl
      exact ⟨a, p, da, ev_bind e1 (ev_bind e2 (ev_bindc e3 (ev_pos rfl (ev_bindc ec (ev_const rfl)))))⟩
    | false =>
      obtain ⟨b, q, i4, h4, e4, db, c4⟩ := l6Any_ok c i3 h3 hc c3
      exact ⟨b, q, db, ev_bind e1 (ev_bind e2 (ev_bindc e3 (ev_neg (by simp) (ev_bind e4 (ev_const rfl)))))⟩
  obtain ⟨h, i5, h5, e5, hh, c5⟩ := l6Held_ok c i2 h2 hc c2
  have d2 : Ev (fun k => spec_DrawCanSign.f k c) (a, p, h) := by
    unfold spec_DrawCanSign.f
    exact ev_bind e1 (ev_bind e2 (ev_bind e5 (ev_const rfl)))
  obtain ⟨v, i6, h6, e6, _, _, _, c6⟩ := l1Below_ok c i2 h2 9 hc c2
  have d3 : Ev (fun k => spec_DrawHasKey.f k c) (a, p, v) := by
    unfold spec_DrawHasKey.f
    exact ev_bind e1 (ev_bind e2 (ev_bindc e6 (ev_const rfl)))
  refine ev_bind d1 (ev_bind d2 (ev_bind d3 ?_))
  exact KS_l0 c h v a p b q a p a p hh da.1 (zero_ok c hc h v a p b q a p a p hh da.1 da.1 da db) a.length 0 0 (by omega) (Nat.le_refl _) (by simp)
end Go.Proofs.Ytanogkaledgecaa.Pure
