/- The pure statement of FnPaths: what the printed functions compute answers true for all arguments within the printed bounds. -/
import Derived.Test.YtdiemlfceoaopaaDoorPFnPathsx6
import Derived.Test.YtdiemlfceoaopaaDoorKit
namespace Go.Proofs.YtdiemlfceoaopaaDoor.Pure
open Go.RowKit Go.Proofs.YtdiemlfceoaopaaDoor.PFnPaths Go.Proofs.YtdiemlfceoaopaaDoorW.PrintWords Go.Proofs.YtdiemlfceoaopaaDoorW.PrintLast Go.Proofs.YtdiemlfceoaopaaDoor.Kit
set_option linter.unusedVariables false
set_option linter.unusedSimpArgs false
namespace OfFnPaths
theorem l1New_ok (b : List Int) (hb : b.length ≤ 1000000000000000000) : ∃ h, Ev (fun k => spec_l1New.f k b) (b, 0, h) := by
  have key : ∀ (m i : Nat) (h : Int), i + m = b.length → ∃ h', Ev (fun k => spec_l1New.l0 k b h (i : Int)) (b, 0, h') := by
    intro m
    induction m with
    | zero =>
      intro i h hi
      refine ⟨h, ev_step ?_⟩
      simp only [spec_l1New.l0]
      exact ev_neg (by omega) (ev_const rfl)
    | succ m ih =>
      intro i h hi
      by_cases h4 : (i : Int) < 4000
      · obtain ⟨h', e⟩ := ih (i + 1) (Go.bits .and .i64 (wrap64 ((wrap64 ((wrap64 (h * 137)) + (wrap64 (rd b (i : Int))))) + 11)) 1073741823) (by omega)
        refine ⟨h', ev_step ?_⟩
        simp only [spec_l1New.l0]
        rw [w64s (n := b.length) (by omega) (by omega)]
        exact ev_pos (by omega) (ev_pos h4 (ev_pos (by omega) e))
      · refine ⟨h, ev_step ?_⟩
        simp only [spec_l1New.l0]
        exact ev_pos (by omega) (ev_neg h4 (ev_const rfl))
  unfold spec_l1New.f
  exact key b.length 0 _ (by omega)

theorem and255 (x : Int) : 0 ≤ Go.bits .and .i64 x 255 ∧ Go.bits .and .i64 x 255 ≤ 255 := by
  unfold Go.bits
  simp only []
  have h1 : (BitVec.ofInt IntKind.i64.bits x &&& BitVec.ofInt IntKind.i64.bits 255).toNat ≤ 255 := by
    rw [BitVec.toNat_and]
    exact Nat.le_trans Nat.and_le_right (by decide)
  generalize (BitVec.ofInt IntKind.i64.bits x &&& BitVec.ofInt IntKind.i64.bits 255).toNat = n at h1
  rw [IntKind.wrap_i64]
  omega

/-- The drawing of bytes and of what is made of them: each draw ends, and its values lie where they should. The reader's place i never is below 0. -/
theorem l1Byte_ok (b : List Int) (i h : Int) (hb : b.length ≤ 1000000000000000000) (hi : 0 ≤ i) : ∃ x i' h', spec_l1Byte.f b i h = some (x, i', h') ∧ 0 ≤ x ∧ x ≤ 255 ∧ 0 ≤ i' := by
  unfold spec_l1Byte.f
  by_cases h1 : i < (b.length : Int)
  · rw [if_pos h1, if_pos hi]
    exact ⟨_, _, _, rfl, (and255 _).1, (and255 _).2, by rw [w64 (by omega) (by omega)]; omega⟩
  · rw [if_neg h1]
    exact ⟨_, _, _, rfl, (and255 _).1, (and255 _).2, hi⟩
theorem l1Below_ok (b : List Int) (i h n : Int) (hb : b.length ≤ 1000000000000000000) (hi : 0 ≤ i) : ∃ x i' h', spec_l1Below.f b i h n = some (x, i', h') ∧ 0 ≤ x ∧ (0 < n → x < n) ∧ (n ≤ 0 → x = 0) ∧ 0 ≤ i' := by
  unfold spec_l1Below.f
  by_cases h1 : n ≤ 0
  · rw [if_pos h1]
    exact ⟨_, _, _, rfl, by omega, by omega, by omega, hi⟩
  · rw [if_neg h1]
    obtain ⟨x1, i1, h1', e1, a1, b1, c1⟩ := l1Byte_ok b i h hb hi
    by_cases h2 : n ≤ 256
    · rw [if_pos h2, e1, Option.bind_some, if_neg (by omega)]
      exact ⟨_, _, _, rfl, Int.tmod_nonneg _ a1, fun _ => Int.tmod_lt_of_pos _ (by omega), by omega, c1⟩
    · obtain ⟨x2, i2, h2', e2, a2, b2, c2⟩ := l1Byte_ok b i1 h1' hb c1
      obtain ⟨x3, i3, h3', e3, a3, b3, c3⟩ := l1Byte_ok b i2 h2' hb c2
      rw [if_neg h2, e1, Option.bind_some, e2, Option.bind_some, e3, Option.bind_some, if_neg (by omega)]
      refine ⟨_, _, _, rfl, ?_, fun _ => Int.tmod_lt_of_pos _ (by omega), by omega, c3⟩
      simp only []
      rw [w64 (i := x1 * 65536) (by omega) (by omega), w64 (i := x2 * 256) (by omega) (by omega), w64 (i := x1 * 65536 + x2 * 256) (by omega) (by omega), w64 (i := x1 * 65536 + x2 * 256 + x3) (by omega) (by omega)]
      exact Int.tmod_nonneg _ (by omega)

theorem l1Once_ok (b : List Int) (i h n : Int) (hb : b.length ≤ 1000000000000000000) (hi : 0 ≤ i) : ∃ (x : Bool) (i' h' : Int), spec_l1Once.f b i h n = some (x, i', h') ∧ 0 ≤ i' := by
  obtain ⟨x, i1, h1, e, _, _, _, c⟩ := l1Below_ok b i h n hb hi
  unfold spec_l1Once.f
  rw [e, Option.bind_some]
  exact ⟨_, _, _, rfl, c⟩

theorem l1Str_ok (b : List Int) (i h : Int) (l : List ByteArray) (hb : b.length ≤ 1000000000000000000) (hi : 0 ≤ i) (hl : 0 < l.length) : ∃ x i' h', spec_l1Str.f b i h l = some (x, i', h') ∧ x ∈ l ∧ 0 ≤ i' := by
  obtain ⟨x, i1, h1, e, p, q, _, c⟩ := l1Below_ok b i h (l.length : Int) hb hi
  have q' := q (by omega)
  unfold spec_l1Str.f
  rw [e, Option.bind_some, if_pos p, if_pos q']
  refine ⟨_, _, _, rfl, ?_, c⟩
  obtain ⟨m, rfl⟩ := Int.eq_ofNat_of_zero_le p
  rw [rdOf_at _ l m (by omega)]
  exact List.getElem_mem _

theorem l4Label_ok (b : List Int) (i h : Int) (hb : b.length ≤ 1000000000000000000) (hi : 0 ≤ i) : ∃ x i' h', spec_l4Label.f b i h = some (x, i', h') ∧ x.size ≤ 100 ∧ 0 ≤ i' := by
  unfold spec_l4Label.f
  obtain ⟨x, i1, h1, e, m, c⟩ := l1Str_ok b i h [(⟨#[97, 110, 110]⟩ : ByteArray), (⟨#[98, 111, 98]⟩ : ByteArray), (⟨#[98, 97, 110, 107]⟩ : ByteArray), (⟨#[115, 104, 111, 112]⟩ : ByteArray), (⟨#[115, 104, 48, 112]⟩ : ByteArray), (⟨#[53, 104, 111, 112]⟩ : ByteArray), (⟨#[109, 97, 105, 108]⟩ : ByteArray), (⟨#[109, 97, 45, 105, 108]⟩ : ByteArray), (⟨#[97]⟩ : ByteArray)] hb hi (by simp)
  rw [e, Option.bind_some]
  have hz : x.size ≤ 100 := by
    simp only [List.mem_cons, List.not_mem_nil, or_false] at m
    clear e c
    rcases m with rfl | rfl | rfl | rfl | rfl | rfl | rfl | rfl | rfl <;> decide
  exact ⟨_, _, _, rfl, hz, c⟩
theorem l4Any_ok (b : List Int) (i h : Int) (hb : b.length ≤ 1000000000000000000) (hi : 0 ≤ i) : ∃ x i' h', spec_l4Any.f b i h = some (x, i', h') ∧ x.size ≤ 100 ∧ 0 ≤ i' := by
  unfold spec_l4Any.f
  obtain ⟨q, i1, h1, e1, c1⟩ := l1Once_ok b i h 4 hb hi
  rw [e1, Option.bind_some]
  cases q with
  | true =>
    obtain ⟨x, i2, h2, e, m, c⟩ := l1Str_ok b i1 h1 [(⟨#[]⟩ : ByteArray), (⟨#[45, 97]⟩ : ByteArray), (⟨#[97, 45]⟩ : ByteArray), (⟨#[65]⟩ : ByteArray), (⟨#[97, 46, 98]⟩ : ByteArray), (⟨#[97, 98, 99, 100, 101, 102, 103, 104]⟩ : ByteArray), (⟨#[97, 98, 99, 100, 101, 102, 103, 104, 105]⟩ : ByteArray), (⟨#[49, 108]⟩ : ByteArray), (⟨#[108, 49]⟩ : ByteArray), (⟨#[48]⟩ : ByteArray)] hb c1 (by simp)
    rw [if_pos rfl, e, Option.bind_some]
    have hz : x.size ≤ 100 := by
      simp only [List.mem_cons, List.not_mem_nil, or_false] at m
      clear e c
      rcases m with rfl | rfl | rfl | rfl | rfl | rfl | rfl | rfl | rfl | rfl <;> decide
    exact ⟨_, _, _, rfl, hz, c⟩
  | false =>
    obtain ⟨x, i2, h2, e, m, c⟩ := l4Label_ok b i1 h1 hb c1
    rw [if_neg (by simp), e, Option.bind_some]
    exact ⟨_, _, _, rfl, m, c⟩

theorem InRange_v (a b c : Int) : impl_InRange.f a b c = some (decide (b ≤ a ∧ a ≤ c)) := by
  unfold impl_InRange.f
  by_cases h : b ≤ a <;> simp [h]

theorem l1In_v (a b c : Int) : spec_l1In.f a b c = some (decide (b ≤ a ∧ a ≤ c)) := by
  unfold spec_l1In.f
  by_cases h : b ≤ a <;> simp [h]

/-- A byte of a label. -/
def okc (c : Int) : Prop := (97 ≤ c ∧ c ≤ 122) ∨ (48 ≤ c ∧ c ≤ 57) ∨ c = 45
instance (c : Int) : Decidable (okc c) := by unfold okc; exact inferInstance
/-- Is a string a label. -/
def isLab (s : ByteArray) : Prop := 1 ≤ s.size ∧ s.size ≤ 8 ∧ (∀ j : Nat, j < s.size → okc (bt s j)) ∧ bt s 0 ≠ 45 ∧ bt s ((s.size : Int) - 1) ≠ 45
theorem IsLabel_s1 (k : Nat) (x : ByteArray) (i : Int) : spec_IsLabel.l0 (k + 1) x i = if i < (x.size : Int) then (if 0 ≤ i then (if okc (bt x i) then (spec_IsLabel.l0 k x (wrap64 (i + 1))) else (some false)) else (none)) else (some true) := by
  rw [spec_IsLabel.l0]
  by_cases h1 : i < (x.size : Int)
  · by_cases h2 : 0 ≤ i
    · rw [if_pos h1, if_pos h2, if_pos h1, if_pos h2]
      by_cases hc : okc (bt x i)
      all_goals
        first | rw [if_pos (c := okc _) hc] | rw [if_neg (c := okc _) hc]
        generalize bt x i = c at hc
        unfold okc at hc
        repeat' split
        all_goals first | rfl | (exfalso; omega)
    · simp [h1, h2]
  · simp [h1]
theorem IsLabel_sl (x : ByteArray) (hx : x.size ≤ 9223372036854775806) (b : Bool) : ∀ (d i : Nat), i + d = x.size → (b = true ↔ ∀ j : Nat, i ≤ j → j < x.size → okc (bt x j)) → Ev (fun k => spec_IsLabel.l0 k x (i : Int)) b := by
  intro d
  induction d with
  | zero =>
    intro i hi hb
    have e : b = true := hb.mpr (fun j h1 h2 => by omega)
    subst e
    refine ev_step (ev_congr (fun k => IsLabel_s1 k x i) ?_)
    exact ev_neg (by omega) (ev_const rfl)
  | succ d ih =>
    intro i hi hb
    refine ev_step (ev_congr (fun k => IsLabel_s1 k x i) ?_)
    refine ev_pos (by omega) (ev_pos (by omega) (ev_dec (fun h => ?_) (fun h => ?_)))
    · rw [w64s (n := x.size) (by omega) (by omega)]
      refine ih (i + 1) (by omega) (hb.trans ⟨fun z j h1 h2 => z j (by omega) h2, fun z j h1 h2 => ?_⟩)
      by_cases e : j = i
      · subst e; exact h
      · exact z j (by omega) h2
    · have e : b = false := by
        rw [Bool.eq_false_iff]
        intro z
        exact h (hb.mp z i (by omega) (by omega))
      subst e
      exact ev_const rfl
theorem IsLabel_sev (x : ByteArray) (hx : x.size ≤ 9223372036854775806) (b : Bool) (hb : b = true ↔ isLab x) : Ev (fun k => spec_IsLabel.f k x) b := by
  unfold spec_IsLabel.f
  rw [l1In_v]
  have hf : ∀ (_ : ¬ isLab x), b = false := by
    intro h
    rw [Bool.eq_false_iff]
    intro z
    exact h (hb.mp z)
  have hj : ∀ (_ : ¬ isLab x), Ev (fun k => spec_IsLabel.j0 k x true) b := by
    intro h
    rw [hf h]
    refine ev_step ?_
    simp only [spec_IsLabel.j0]
    exact ev_const rfl
  by_cases h1 : 1 ≤ x.size ∧ x.size ≤ 8
  · refine ev_bindc (a := true) (by rw [decide_eq_true (show (1 : Int) ≤ (x.size : Int) ∧ (x.size : Int) ≤ 8 from by omega)]) ?_
    have hw : wrap64 ((x.size : Int) - 1) = (x.size : Int) - 1 := w64 (by omega) (by omega)
    rw [hw]
    refine ev_pos rfl (ev_pos (by omega) (ev_dec (fun h => ?_) (fun h => ?_)))
    · exact hj (fun z => z.2.2.2.1 h)
    · refine ev_pos (by omega) (ev_pos (by omega) ?_)
      by_cases h5 : bt x ((x.size : Int) - 1) = 45
      · rw [h5]
        exact hj (fun z => z.2.2.2.2 h5)
      · refine ev_step ?_
        simp only [spec_IsLabel.j0]
        refine ev_neg (by simpa using h5) ?_
        refine IsLabel_sl x hx b x.size 0 (by omega) (hb.trans ?_)
        unfold isLab
        exact ⟨fun z j _ hj => z.2.2.1 j hj, fun z => ⟨h1.1, h1.2, fun j hj => z j (by omega) hj, h, h5⟩⟩
  · refine ev_bindc (a := false) (by rw [decide_eq_false (show ¬ ((1 : Int) ≤ (x.size : Int) ∧ (x.size : Int) ≤ 8) from by omega)]) ?_
    refine ev_neg (by simp) ?_
    exact hj (fun z => h1 ⟨z.1, z.2.1⟩)
theorem IsLabel_i1 (k : Nat) (x : ByteArray) (n i : Int) : impl_IsLabel.l0 (k + 1) x n i = if i < n then (if 0 ≤ i then (if i < (x.size : Int) then (if okc (bt x i) ∧ (bt x i = 45 → 0 < i ∧ i < wrap64 ((x.size : Int) - 1)) then (impl_IsLabel.l0 k x n (wrap64 (i + 1))) else (some false)) else (none)) else (none)) else ((impl_InRange.f (x.size : Int) 1 8).bind fun t => some t) := by
  rw [impl_IsLabel.l0]
  by_cases h1 : i < n
  · by_cases h2 : 0 ≤ i
    · by_cases h3 : i < (x.size : Int)
      · rw [if_pos h1, if_pos h2, if_pos h3, if_pos h1, if_pos h2, if_pos h3]
        generalize wrap64 ((x.size : Int) - 1) = m
        by_cases hc : okc (bt x i) ∧ (bt x i = 45 → 0 < i ∧ i < m)
        all_goals
          first | rw [if_pos (c := okc _ ∧ _) hc] | rw [if_neg (c := okc _ ∧ _) hc]
          generalize bt x i = c at hc
          unfold okc at hc
          repeat' split
          all_goals first | rfl | (exfalso; omega)
      · simp [h1, h2, h3]
    · simp [h1, h2]
  · simp [h1]
theorem IsLabel_il (x : ByteArray) (hx : x.size ≤ 9223372036854775806) (b : Bool) : ∀ (d i : Nat), i + d = x.size → (b = true ↔ (∀ j : Nat, i ≤ j → j < x.size → okc (bt x j) ∧ (bt x j = 45 → 0 < j ∧ j + 1 < x.size)) ∧ 1 ≤ x.size ∧ x.size ≤ 8) → Ev (fun k => impl_IsLabel.l0 k x (x.size : Int) (i : Int)) b := by
  intro d
  induction d with
  | zero =>
    intro i hi hb
    refine ev_step (ev_congr (fun k => IsLabel_i1 k x _ i) ?_)
    refine ev_neg (by omega) (ev_const ?_)
    rw [InRange_v]
    have e : b = decide ((1 : Int) ≤ (x.size : Int) ∧ (x.size : Int) ≤ 8) := by
      rw [Bool.eq_iff_iff, hb, decide_eq_true_iff]
      exact ⟨fun z => by omega, fun z => ⟨fun j h1 h2 => by omega, by omega⟩⟩
    rw [e]
    rfl
  | succ d ih =>
    intro i hi hb
    have hw : wrap64 ((x.size : Int) - 1) = (x.size : Int) - 1 := w64 (by omega) (by omega)
    refine ev_step (ev_congr (fun k => IsLabel_i1 k x _ i) ?_)
    rw [hw]
    refine ev_pos (by omega) (ev_pos (by omega) (ev_pos (by omega) (ev_dec (fun h => ?_) (fun h => ?_))))
    · rw [w64s (n := x.size) (by omega) (by omega)]
      refine ih (i + 1) (by omega) (hb.trans ⟨fun z => ⟨fun j h1 h2 => z.1 j (by omega) h2, z.2⟩, fun z => ⟨fun j h1 h2 => ?_, z.2⟩⟩)
      by_cases e : j = i
      · subst e
        exact ⟨h.1, fun q => by have := h.2 q; omega⟩
      · exact z.1 j (by omega) h2
    · have e : b = false := by
        rw [Bool.eq_false_iff]
        intro z
        have q := (hb.mp z).1 i (by omega) (by omega)
        exact h ⟨q.1, fun r => by have := q.2 r; omega⟩
      subst e
      exact ev_const rfl
theorem IsLabel_iev (x : ByteArray) (hx : x.size ≤ 9223372036854775806) (b : Bool) (hb : b = true ↔ isLab x) : Ev (fun k => impl_IsLabel.f k x) b := by
  unfold impl_IsLabel.f
  refine IsLabel_il x hx b x.size 0 (by omega) (hb.trans ?_)
  unfold isLab
  constructor
  · rintro ⟨h1, h2, h3, h4, h5⟩
    refine ⟨fun j _ hj => ⟨h3 j hj, fun q => ?_⟩, h1, h2⟩
    constructor
    · rcases Nat.eq_zero_or_pos j with e | e
      · subst e; exact absurd q h4
      · exact e
    · rcases Nat.lt_or_ge (j + 1) x.size with e | e
      · exact e
      · exfalso
        apply h5
        rw [show (x.size : Int) - 1 = (j : Int) from by omega]
        exact q
  · rintro ⟨h1, h2, h3⟩
    refine ⟨h2, h3, fun j hj => (h1 j (by omega) hj).1, fun q => ?_, fun q => ?_⟩
    · have := ((h1 0 (by omega) (by omega)).2 q).1
      omega
    · have e : (x.size : Int) - 1 = ((x.size - 1 : Nat) : Int) := by omega
      rw [e] at q
      have := ((h1 (x.size - 1) (by omega) (by omega)).2 q).2
      omega
theorem lab_bool (x : ByteArray) : ∃ b : Bool, b = true ↔ isLab x := by
  by_cases h : isLab x
  · exact ⟨true, by simp [h]⟩
  · exact ⟨false, by simp [h]⟩

/-- Is a list of strings a path. -/
def isPth (l : List ByteArray) : Prop := (1 ≤ l.length ∧ l.length ≤ 4) ∧ ∀ s ∈ l, isLab s
theorem pth_bool (x : List ByteArray) : ∃ b : Bool, b = true ↔ isPth x := by
  by_cases h : isPth x
  · exact ⟨true, by simp [h]⟩
  · exact ⟨false, by simp [h]⟩
theorem IsPath_sl (x : List ByteArray) (hx : x.length ≤ 1000000000000) (hs : ∀ s ∈ x, s.size ≤ 1000000000000) (b : Bool) : ∀ (d i : Nat), i + d = x.length → (b = true ↔ (1 ≤ x.length ∧ x.length ≤ 4) ∧ ∀ s ∈ x.drop i, isLab s) → Ev (fun k => spec_IsPath.l0 k x (i : Int)) b := by
  intro d
  induction d with
  | zero =>
    intro i hi hb
    refine ev_step ?_
    simp only [spec_IsPath.l0]
    rw [List.drop_of_length_le (by omega)] at hb
    have e : b = decide ((1 : Int) ≤ (x.length : Int) ∧ (x.length : Int) ≤ 4) := by
      rw [Bool.eq_iff_iff, hb, decide_eq_true_iff]
      exact ⟨fun z => by omega, fun z => ⟨by omega, by simp⟩⟩
    exact ev_neg (by omega) (ev_bindc (l1In_v _ _ _) (ev_const (by rw [e])))
  | succ d ih =>
    intro i hi hb
    have hlt : i < x.length := by omega
    have hz := hs x[i] (List.getElem_mem hlt)
    rw [List.drop_eq_getElem_cons hlt] at hb
    refine ev_step ?_
    simp only [spec_IsPath.l0]
    rw [rdOf_at _ x i hlt, w64s (n := x.length) hlt (by omega)]
    obtain ⟨c, hc⟩ := lab_bool x[i]
    refine ev_pos (by omega) (ev_pos (by omega) (ev_bind (IsLabel_sev x[i] (by omega) c hc) (ev_dec (fun h => ?_) (fun h => ?_))))
    · exact ih (i + 1) (by omega) (hb.trans ⟨fun z => ⟨z.1, fun s q => z.2 s (List.mem_cons_of_mem _ q)⟩, fun z => ⟨z.1, fun s q => by
        rcases List.mem_cons.1 q with rfl | q
        · exact hc.mp h
        · exact z.2 s q⟩⟩)
    · have e : b = false := by
        rw [Bool.eq_false_iff]
        exact fun z => h (hc.mpr ((hb.mp z).2 _ (List.mem_cons_self)))
      rw [e]
      exact ev_const rfl
theorem IsPath_sev (x : List ByteArray) (hx : x.length ≤ 1000000000000) (hs : ∀ s ∈ x, s.size ≤ 1000000000000) (b : Bool) (hb : b = true ↔ isPth x) : Ev (fun k => spec_IsPath.f k x) b := by
  unfold spec_IsPath.f
  exact IsPath_sl x hx hs b x.length 0 (by omega) hb
theorem IsPath_any (x : List ByteArray) (hs : ∀ s ∈ x, s.size ≤ 1000000000000) : ∀ b : Bool, (b = true ↔ ∀ s ∈ x, isLab s) → Ev (fun k => impl_IsPath.any k x) (!b) := by
  induction x with
  | nil =>
    intro b hb
    obtain rfl : b = true := hb.mpr (by simp)
    exact ev_const rfl
  | cons a x ih =>
    intro b hb
    obtain ⟨c, hc⟩ := lab_bool a
    have hz := hs a (by simp)
    simp only [impl_IsPath.any]
    refine ev_bind (IsLabel_iev a (by omega) c hc) (ev_dec (fun h => ?_) (fun h => ?_))
    · exact ih (fun s q => hs s (by simp [q])) b (hb.trans ⟨fun z s q => z s (by simp [q]), fun z s q => by
        rcases List.mem_cons.1 q with rfl | q
        · exact hc.mp h
        · exact z s q⟩)
    · have e : b = false := by
        rw [Bool.eq_false_iff]
        exact fun z => h (hc.mpr (hb.mp z _ (List.mem_cons_self)))
      rw [e]
      exact ev_const rfl
theorem IsPath_iev (x : List ByteArray) (hx : x.length ≤ 1000000000000) (hs : ∀ s ∈ x, s.size ≤ 1000000000000) (b : Bool) (hb : b = true ↔ isPth x) : Ev (fun k => impl_IsPath.f k x) b := by
  unfold impl_IsPath.f
  refine ev_bindc (InRange_v _ _ _) (ev_dec (fun h => ?_) (fun h => ?_))
  · rw [decide_eq_true_iff] at h
    have z := IsPath_any x hs b (hb.trans ⟨fun q => q.2, fun q => ⟨by omega, q⟩⟩)
    exact ev_bind z (ev_const (by rw [Bool.not_not]))
  · rw [decide_eq_true_iff] at h
    have e : b = false := by
      rw [Bool.eq_false_iff]
      intro z
      have := (hb.mp z).1
      omega
    rw [e]
    exact ev_const rfl

theorem BT_byte (s : ByteArray) (i : Nat) (h : i < s.size) : bt s (i : Int) = ((s.data.toList[i]'(by rw [data_length]; exact h)).toNat : Int) := by
  rw [← rd_bytesOf, rd_at _ i (by rw [bytesOf_length]; exact h)]
  simp [bytesOf]

/-- A list of bytes cut at its slashes. -/
def cut : List UInt8 → List (List UInt8)
  | [] => [[]]
  | c :: l => if c = 47 then [] :: cut l else match cut l with
    | [] => [[c]]
    | h :: t => (c :: h) :: t
theorem cut_cons (c : UInt8) (l : List UInt8) (h : List UInt8) (t : List (List UInt8)) (e : cut l = h :: t) : cut (c :: l) = if c = 47 then [] :: h :: t else (c :: h) :: t := by
  rw [cut, e]
theorem cut_ne : ∀ l : List UInt8, ∃ h t, cut l = h :: t
  | [] => ⟨_, _, rfl⟩
  | c :: l => by
    obtain ⟨h, t, e⟩ := cut_ne l
    rw [cut_cons c l h t e]
    split
    · exact ⟨_, _, rfl⟩
    · exact ⟨_, _, rfl⟩
theorem cut_len : ∀ l : List UInt8, ∀ x ∈ cut l, x.length ≤ l.length
  | [], x, hx => by rw [cut, List.mem_singleton] at hx; subst hx; simp
  | c :: l, x, hx => by
    obtain ⟨h, t, e⟩ := cut_ne l
    have ih := cut_len l
    rw [e] at ih
    rw [cut_cons c l h t e] at hx
    have hh := ih h (by simp)
    split at hx
    · rcases List.mem_cons.1 hx with rfl | hx
      · simp
      · have := ih x hx
        simp
        omega
    · rcases List.mem_cons.1 hx with rfl | hx
      · simp
        exact hh
      · have := ih x (by simp [hx])
        simp
        omega
theorem cut_count : ∀ l : List UInt8, (cut l).length ≤ l.length + 1
  | [] => by simp [cut]
  | c :: l => by
    obtain ⟨h, t, e⟩ := cut_ne l
    have ih := cut_count l
    rw [e] at ih
    rw [cut_cons c l h t e]
    simp only [List.length_cons] at *
    split <;> simp <;> omega
theorem cut_index : ∀ l : List UInt8, (Lib.index l [47] = -1 ∧ cut l = [l]) ∨ ∃ i : Nat, Lib.index l [47] = (i : Int) ∧ i < l.length ∧ cut l = l.take i :: cut (l.drop (i + 1))
  | [] => Or.inl ⟨rfl, rfl⟩
  | b :: l => by
    have hi : Lib.index (b :: l) [47] = if b = 47 then 0 else if Lib.index l [47] == -1 then -1 else Lib.index l [47] + 1 := by
      rw [Lib.index]
      by_cases hb : b = 47
      · subst hb
        rfl
      · have hp : List.isPrefixOf [47] (b :: l) = false := by
          simp [List.isPrefixOf]
          exact fun z => hb z.symm
        rw [hp, if_neg (by simp), if_neg hb]
    rw [hi]
    by_cases hb : b = 47
    · subst hb
      rw [if_pos rfl]
      obtain ⟨h, t, e⟩ := cut_ne l
      exact Or.inr ⟨0, rfl, by simp, by rw [cut_cons 47 l h t e, if_pos rfl, List.take_zero, Nat.zero_add, List.drop_succ_cons, List.drop_zero, e]⟩
    · rw [if_neg hb]
      rcases cut_index l with ⟨h1, h2⟩ | ⟨i, h1, h2, h3⟩
      · exact Or.inl ⟨by rw [h1]; rfl, by rw [cut_cons b l l [] h2, if_neg hb]⟩
      · refine Or.inr ⟨i + 1, ?_, by simp; omega, ?_⟩
        · rw [h1, if_neg (by rw [beq_iff_eq]; omega)]
          rfl
        · rw [cut_cons b l _ _ h3, if_neg hb]
          rfl
def baL (l : List UInt8) : ByteArray := ⟨l.toArray⟩
theorem ba_extract (s : ByteArray) (a b : Nat) : s.extract a b = baL ((s.data.toList.take b).drop a) := by
  unfold baL
  apply ByteArray.ext
  rw [ByteArray.data_extract]
  apply Array.ext'
  rw [Array.toList_extract, List.extract_eq_take_drop]
  show _ = (s.data.toList.take b).drop a
  rw [List.drop_take]
theorem parts_cut : ∀ (n : Nat) (s : ByteArray), s.size ≤ n → impl_ParsePath.parts s = (cut s.data.toList).map baL := by
  intro n
  induction n with
  | zero =>
    intro s hs
    have e : s.data.toList = [] := List.eq_nil_of_length_eq_zero (by rw [data_length]; omega)
    rw [e]
    have hx : Lib.indexB s ⟨#[47]⟩ = -1 := by unfold Lib.indexB; rw [e]; rfl
    unfold impl_ParsePath.parts
    rw [Lib.splitB_miss _ _ _ _ hx]
    show [s] = [baL []]
    rw [← e]
    rfl
  | succ n ih =>
    intro s hs
    rcases cut_index s.data.toList with ⟨h1, h2⟩ | ⟨i, h1, h2, h3⟩
    · have hx : Lib.indexB s ⟨#[47]⟩ = -1 := h1
      unfold impl_ParsePath.parts
      rw [Lib.splitB_miss _ _ _ _ hx, h2]
      rfl
    · have hx : Lib.indexB s ⟨#[47]⟩ = (i : Int) := h1
      have hc := Lib.countB_hit s ⟨#[47]⟩ i (by decide) hx
      rw [data_length] at h2
      have hsz : (s.extract (i + 1) s.size).size ≤ n := by rw [ByteArray.size_extract]; omega
      have hr := ih (s.extract (i + 1) s.size) hsz
      unfold impl_ParsePath.parts at hr ⊢
      rw [hc, Nat.add_comm, Lib.splitB_hit _ _ _ _ i hx, Nat.add_zero]
      have h47 : (⟨#[47]⟩ : ByteArray).size = 1 := rfl
      rw [h47, hr, h3, List.map_cons]
      congr 1
      · rw [ba_extract, List.drop_zero]
      · congr 2
        rw [ba_extract]
        show ((s.data.toList.take s.size).drop (i + 1)) = _
        rw [List.take_of_length_le (by rw [data_length]; omega)]
/-- The first part behind what is there already. -/
def glue (p : List UInt8) : List (List UInt8) → List (List UInt8)
  | [] => [p]
  | h :: t => (p ++ h) :: t
theorem split_l (s : ByteArray) (hs : s.size ≤ 1000000000000) : ∀ (d i fr : Nat) (out : List ByteArray), i + d = s.size → fr ≤ i → out.length ≤ fr →
    Ev (fun k => spec_l5Split.l0 k s 47 out (fr : Int) (i : Int)) (out ++ (glue ((s.data.toList.take i).drop fr) (cut (s.data.toList.drop i))).map baL) := by
  intro d
  induction d with
  | zero =>
    intro i fr out hi hf ho
    have hd : s.data.toList.drop i = [] := List.drop_of_length_le (by rw [data_length]; omega)
    refine ev_step ?_
    simp only [spec_l5Split.l0]
    refine ev_pos (by omega) (ev_pos (by omega) (ev_pos (by omega) (ev_pos (by omega) (ev_pos (by omega) (ev_step ?_)))))
    simp only [spec_l5Split.l0]
    rw [w64 (i := (i : Int) + 1) (by omega) (by omega)]
    refine ev_neg (by omega) (ev_const ?_)
    rw [hd, cut, glue, List.append_nil, Int.toNat_natCast, Int.toNat_natCast, ba_extract]
    rfl
  | succ d ih =>
    intro i fr out hi hf ho
    have hlt : i < s.size := by omega
    have hl : i < s.data.toList.length := by rw [data_length]; exact hlt
    obtain ⟨h, t, e⟩ := cut_ne (s.data.toList.drop (i + 1))
    refine ev_step ?_
    simp only [spec_l5Split.l0]
    rw [BT_byte s i hlt, w64 (i := (i : Int) + 1) (by omega) (by omega), List.drop_eq_getElem_cons hl, cut_cons _ _ h t e]
    have h47 : ((s.data.toList[i].toNat : Int) = 47) ↔ s.data.toList[i] = 47 := by
      rw [show (47 : Int) = (((47 : UInt8).toNat : Nat) : Int) from rfl, Int.ofNat_inj]
      exact UInt8.toNat_inj
    refine ev_pos (by omega) (ev_neg (by omega) (ev_pos (by omega) (ev_pos (by omega) (ev_dec (fun hc => ?_) (fun hc => ?_)))))
    · rw [if_pos (h47.1 hc)]
      refine ev_pos (by omega) (ev_pos (by omega) (ev_pos (by omega) ?_))
      have z := ih (i + 1) (i + 1) (out ++ [s.extract ((fr : Int)).toNat ((i : Int)).toNat]) (by omega) (Nat.le_refl _) (by simp; omega)
      rw [e, List.append_assoc] at z
      have e1 : (s.data.toList.take (i + 1)).drop (i + 1) = [] := List.drop_of_length_le (by rw [List.length_take]; omega)
      rw [e1] at z
      have e2 : [s.extract ((fr : Int)).toNat ((i : Int)).toNat] ++ (glue [] (h :: t)).map baL = (glue ((s.data.toList.take i).drop fr) ([] :: h :: t)).map baL := by
        rw [Int.toNat_natCast, Int.toNat_natCast, ba_extract]
        simp [glue]
      rw [e2] at z
      exact z
    · rw [if_neg (fun q => hc (h47.2 q))]
      have z := ih (i + 1) fr out (by omega) (by omega) ho
      rw [e] at z
      have e1 : (s.data.toList.take (i + 1)).drop fr = (s.data.toList.take i).drop fr ++ [s.data.toList[i]] := by
        rw [List.take_succ_eq_append_getElem hl, List.drop_append_of_le_length (by rw [List.length_take]; omega)]
      rw [e1] at z
      have e2 : glue ((s.data.toList.take i).drop fr ++ [s.data.toList[i]]) (h :: t) = glue ((s.data.toList.take i).drop fr) ((s.data.toList[i] :: h) :: t) := by simp [glue]
      rw [e2] at z
      exact z
theorem split_ev (s : ByteArray) (hs : s.size ≤ 1000000000000) : Ev (fun k => spec_l5Split.f k s 47) (impl_ParsePath.parts s) := by
  unfold spec_l5Split.f
  have h := split_l s hs s.size 0 0 [] (by omega) (Nat.le_refl _) (by simp)
  obtain ⟨a, t, e⟩ := cut_ne s.data.toList
  simp only [List.take_zero, List.drop_zero, List.nil_append, e] at h
  have e2 : glue ([] : List UInt8) (a :: t) = a :: t := rfl
  rw [e2, ← e, ← parts_cut s.size s (Nat.le_refl _)] at h
  exact h
theorem parts_size (s : ByteArray) : ∀ x ∈ impl_ParsePath.parts s, x.size ≤ s.size := by
  intro x hx
  rw [parts_cut s.size s (Nat.le_refl _), List.mem_map] at hx
  obtain ⟨l, hl, rfl⟩ := hx
  have h := cut_len s.data.toList l hl
  rw [data_length] at h
  have e : (baL l).size = l.length := by
    show l.toArray.size = _
    simp
  omega
/-- What a text is as a path. -/
def ppB (s : ByteArray) (b : Bool) : List ByteArray × Bool := if b = true then (impl_ParsePath.parts s, true) else ([], false)
theorem ParsePath_sev (s : ByteArray) (hs : s.size ≤ 1000000000) (b : Bool) (hb : b = true ↔ isPth (impl_ParsePath.parts s)) : Ev (fun k => spec_ParsePath.f k s) (ppB s b) := by
  unfold spec_ParsePath.f ppB
  have h1 := impl_ParsePath.parts_le s
  have h2 := parts_size s
  refine ev_bind (split_ev s (by omega)) (ev_bind (IsPath_sev _ (by omega) (fun x hx => by have := h2 x hx; omega) b hb) (ev_dec (fun h => ?_) (fun h => ?_)))
  · rw [if_pos h]
    exact ev_const rfl
  · rw [if_neg h]
    exact ev_const rfl
theorem ParsePath_iev (s : ByteArray) (hs : s.size ≤ 1000000000) (b : Bool) (hb : b = true ↔ isPth (impl_ParsePath.parts s)) : Ev (fun k => impl_ParsePath.f k s) (ppB s b) := by
  unfold impl_ParsePath.f ppB
  have h1 := impl_ParsePath.parts_le s
  have h2 := parts_size s
  exact ev_pos (by omega) (ev_bind (IsPath_iev _ (by omega) (fun x hx => by have := h2 x hx; omega) b hb) (ev_const rfl))

/-- The elements behind what is there, each behind a slash. -/
def fmt : List ByteArray → ByteArray → ByteArray
  | [], a => a
  | s :: l, a => fmt l ((a ++ (⟨#[47]⟩ : ByteArray)) ++ s)
theorem fmt_data : ∀ (l : List ByteArray) (a : ByteArray), (fmt l a).data.toList = a.data.toList ++ Lib.joinTail [47] (l.map (·.data.toList))
  | [], a => by simp [fmt, Lib.joinTail]
  | s :: l, a => by
    rw [fmt, fmt_data l]
    simp [Lib.joinTail, ByteArray.data_append]
theorem fmt_size : ∀ (l : List ByteArray) (a : ByteArray), (∀ s ∈ l, s.size ≤ 8) → (fmt l a).size ≤ a.size + 9 * l.length
  | [], a, _ => by simp [fmt]
  | s :: l, a, h => by
    have h1 := h s (by simp)
    have h2 := fmt_size l ((a ++ (⟨#[47]⟩ : ByteArray)) ++ s) (fun t ht => h t (by simp [ht]))
    rw [ByteArray.size_append, ByteArray.size_append] at h2
    have h3 : (⟨#[47]⟩ : ByteArray).size = 1 := rfl
    rw [fmt]
    simp only [List.length_cons]
    omega
theorem FormatPath_sl (x : List ByteArray) (hx : x.length ≤ 4) (hs : ∀ s ∈ x, s.size ≤ 8) : ∀ (d i : Nat) (a : ByteArray), i + d = x.length → a.size ≤ 1000 * i → Ev (fun k => spec_FormatPath.l0 k x a (i : Int)) (fmt (x.drop i) a) := by
  intro d
  induction d with
  | zero =>
    intro i a hi _
    refine ev_step ?_
    simp only [spec_FormatPath.l0]
    rw [List.drop_of_length_le (by omega)]
    exact ev_neg (by omega) (ev_const rfl)
  | succ d ih =>
    intro i a hi ha
    have hlt : i < x.length := by omega
    have hz := hs x[i] (List.getElem_mem hlt)
    have h3 : (⟨#[47]⟩ : ByteArray).size = 1 := rfl
    refine ev_step ?_
    simp only [spec_FormatPath.l0]
    rw [rdOf_at _ x i hlt, w64s (n := x.length) hlt (by omega), List.drop_eq_getElem_cons hlt]
    refine ev_pos (by omega) (ev_pos (by omega) (ev_pos (by omega) (ev_pos (by rw [ByteArray.size_append, h3]; omega) ?_)))
    exact ih (i + 1) _ (by omega) (by rw [ByteArray.size_append, ByteArray.size_append, h3]; omega)
/-- What a path is as a text. -/
def fmtB (x : List ByteArray) (b : Bool) : ByteArray := if b = true then (match x with | [] => ⟨#[]⟩ | s :: l => fmt l s) else ⟨#[]⟩
theorem fmtB_size (x : List ByteArray) (b : Bool) (hb : b = true ↔ isPth x) : (fmtB x b).size ≤ 1000 := by
  unfold fmtB
  split
  · rename_i h
    have z := hb.mp h
    cases x with
    | nil => exact Nat.zero_le _
    | cons s l =>
      have h1 := fmt_size l s (fun t q => (z.2 t (by simp [q])).2.1)
      have h2 := (z.2 s (by simp)).2.1
      have h3 := z.1
      simp only [List.length_cons] at h3
      show (fmt l s).size ≤ 1000
      omega
  · exact Nat.zero_le _
theorem fmtB_data (x : List ByteArray) (hx : x ≠ []) : (fmtB x true).data.toList = Lib.join (x.map (·.data.toList)) [47] := by
  cases x with
  | nil => exact absurd rfl hx
  | cons s l =>
    rw [List.map_cons, Lib.join_cons]
    exact fmt_data l s
theorem FormatPath_sev (x : List ByteArray) (hx : x.length ≤ 1000000000000) (hs : ∀ s ∈ x, s.size ≤ 1000000000000) (b : Bool) (hb : b = true ↔ isPth x) : Ev (fun k => spec_FormatPath.f k x) (fmtB x b) := by
  have es := IsPath_sev x hx hs b hb
  unfold spec_FormatPath.f fmtB
  cases b with
  | false => exact ev_bind es (ev_neg (by simp) (ev_const rfl))
  | true =>
    obtain ⟨⟨hl0, hl1⟩, hall⟩ := hb.mp rfl
    have hs8 : ∀ s ∈ x, s.size ≤ 8 := fun s q => (hall s q).2.1
    cases x with
    | nil => simp at hl0
    | cons s l =>
      have h8 := hs8 s (by simp)
      have hf := FormatPath_sl (s :: l) hl1 hs8 l.length 1 s (by simp; omega) (by omega)
      exact ev_bind es (ev_pos rfl (ev_pos (by simp) hf))
theorem FormatPath_iev (x : List ByteArray) (hx : x.length ≤ 1000000000000) (hs : ∀ s ∈ x, s.size ≤ 1000000000000) (b : Bool) (hb : b = true ↔ isPth x) : Ev (fun k => impl_FormatPath.f k x) (fmtB x b) := by
  have ei := IsPath_iev x hx hs b hb
  have hz := fmtB_size x b hb
  unfold impl_FormatPath.f
  cases b with
  | false => exact ev_bind ei (ev_neg (by simp) (ev_const rfl))
  | true =>
    obtain ⟨⟨hl0, hl1⟩, hall⟩ := hb.mp rfl
    have hne : x ≠ [] := by rintro rfl; simp at hl0
    have hv : strings_Join.v x (⟨#[47]⟩ : ByteArray) = (fmtB x true).data.toList := by
      rw [fmtB_data x hne]
      rfl
    have hlen : (strings_Join.v x (⟨#[47]⟩ : ByteArray)).length = (fmtB x true).size := by rw [hv, Array.length_toList]; rfl
    have hj : strings_Join.f x (⟨#[47]⟩ : ByteArray) = some (fmtB x true) := by
      unfold strings_Join.f
      rw [if_pos ⟨hne, by rw [hlen]; omega, by omega⟩, hv]
    exact ev_bind ei (ev_pos rfl (ev_bindc hj (ev_const rfl)))

theorem str_eq (a b : ByteArray) : a.toList = b.toList ↔ a = b := ⟨fun h => Go.WideShapes.bytes_inj (by rw [← ByteArray.toList_eq, ← ByteArray.toList_eq]; exact h), fun h => by rw [h]⟩
theorem str_at (x y : List ByteArray) (i : Nat) (h : i < x.length) (h' : i < y.length) : (rdOf ByteArray.empty x (i : Int)).toList = (rdOf ByteArray.empty y (i : Int)).toList ↔ x[i] = y[i] := by
  rw [rdOf_at _ x i h, rdOf_at _ y i h', str_eq]

theorem SamePath_sev (x y : List ByteArray) (hx : x.length ≤ 9223372036854775806) (b : Bool) (hb : b = true ↔ x = y) : Ev (fun k => spec_SamePath.f k x y) b := by
  unfold spec_SamePath.f
  refine ev_dec (fun h => ?_) (fun h => ?_)
  · exact eq_loop (L := spec_SamePath.l0) (c := fun x y i => (rdOf ByteArray.empty x i).toList = (rdOf ByteArray.empty y i).toList) (fun _ _ _ _ => rfl) str_at x y hx (by omega) b x.length 0 (by omega) (by simpa using hb)
  · have e : b = false := by
      rw [Bool.eq_false_iff]
      intro z
      exact h (by rw [hb.mp z])
    subst e
    exact ev_const rfl
theorem SamePath_iev (x y : List ByteArray) (hx : x.length ≤ 9223372036854775806) (b : Bool) (hb : b = true ↔ x = y) : Ev (fun k => impl_SamePath.f k x y) b := by
  unfold impl_SamePath.f slices_Equal_string_string.f
  refine ev_bind ?_ (ev_const rfl)
  refine ev_dec (fun h => ?_) (fun h => ?_)
  · exact eq_loop_n (L := slices_Equal_string_string.l0) (c := fun x y i => (rdOf ByteArray.empty x i).toList = (rdOf ByteArray.empty y i).toList) (fun _ _ _ _ _ => rfl) str_at x y hx (by omega) b x.length 0 (by omega) (by simpa using hb)
  · have e : b = false := by
      rw [Bool.eq_false_iff]
      intro z
      exact h (by rw [hb.mp z])
    subst e
    exact ev_const rfl

def isBel (x y : List ByteArray) : Prop := isPth x ∧ isPth y ∧ y.length < x.length ∧ x.take y.length = y
theorem bel_bool (x y : List ByteArray) : ∃ b : Bool, b = true ↔ isBel x y := by
  by_cases h : isBel x y
  · exact ⟨true, by simp [h]⟩
  · exact ⟨false, by simp [h]⟩
theorem IsBelow_sev (x y : List ByteArray) (hx : x.length ≤ 1000000000000) (hs : ∀ s ∈ x, s.size ≤ 1000000000000) (hy : y.length ≤ 1000000000000) (ht : ∀ s ∈ y, s.size ≤ 1000000000000) (b : Bool) (hb : b = true ↔ isBel x y) : Ev (fun k => spec_IsBelow.f k x y) b := by
  unfold spec_IsBelow.f
  obtain ⟨p, hp⟩ := pth_bool x
  obtain ⟨q, hq⟩ := pth_bool y
  have hf : ¬ isBel x y → b = false := fun n => by rw [Bool.eq_false_iff]; exact fun z => n (hb.mp z)
  refine ev_bind (IsPath_sev x hx hs p hp) (ev_dec (fun h1 => ?_) (fun h1 => ?_))
  · refine ev_bind (IsPath_sev y hy ht q hq) (ev_dec (fun h2 => ?_) (fun h2 => ?_))
    · refine ev_dec (fun h3 => ?_) (fun h3 => ?_)
      · refine ev_pos (by omega) (ev_pos (by omega) ?_)
        rw [Int.toNat_natCast]
        exact ev_bind (SamePath_sev (x.take y.length) y (by simp; omega) b (hb.trans ⟨fun z => z.2.2.2, fun z => ⟨hp.mp h1, hq.mp h2, by omega, z⟩⟩)) (ev_const rfl)
      · rw [hf (fun z => h3 (by have := z.2.2.1; omega))]
        exact ev_const rfl
    · rw [hf (fun z => h2 (hq.mpr z.2.1))]
      exact ev_const rfl
  · rw [hf (fun z => h1 (hp.mpr z.1))]
    exact ev_const rfl
theorem IsBelow_iev (x y : List ByteArray) (hx : x.length ≤ 1000000000000) (hs : ∀ s ∈ x, s.size ≤ 1000000000000) (hy : y.length ≤ 1000000000000) (ht : ∀ s ∈ y, s.size ≤ 1000000000000) (b : Bool) (hb : b = true ↔ isBel x y) : Ev (fun k => impl_IsBelow.f k x y) b := by
  unfold impl_IsBelow.f
  obtain ⟨p, hp⟩ := pth_bool x
  obtain ⟨q, hq⟩ := pth_bool y
  have hf : ¬ isBel x y → b = false := fun n => by rw [Bool.eq_false_iff]; exact fun z => n (hb.mp z)
  refine ev_bind (IsPath_iev x hx hs p hp) (ev_dec (fun h1 => ?_) (fun h1 => ?_))
  · refine ev_bind (IsPath_iev y hy ht q hq) (ev_dec (fun h2 => ?_) (fun h2 => ?_))
    · refine ev_dec (fun h3 => ?_) (fun h3 => ?_)
      · refine ev_pos (by omega) (ev_pos (by omega) ?_)
        rw [Int.toNat_natCast]
        exact ev_bind (SamePath_iev (x.take y.length) y (by simp; omega) b (hb.trans ⟨fun z => z.2.2.2, fun z => ⟨hp.mp h1, hq.mp h2, by omega, z⟩⟩)) (ev_const rfl)
      · rw [hf (fun z => h3 (by have := z.2.2.1; omega))]
        exact ev_const rfl
    · rw [hf (fun z => h2 (hq.mpr z.2.1))]
      exact ev_const rfl
  · rw [hf (fun z => h1 (hp.mpr z.1))]
    exact ev_const rfl

/-- Cutting undoes joining, and joining undoes cutting. -/
theorem cut_no : ∀ l : List UInt8, (∀ c ∈ l, c ≠ 47) → cut l = [l]
  | [], _ => rfl
  | c :: l, h => by rw [cut_cons c l l [] (cut_no l (fun d hd => h d (by simp [hd]))), if_neg (h c (by simp))]
theorem cut_sep : ∀ (a m : List UInt8), (∀ c ∈ a, c ≠ 47) → cut (a ++ 47 :: m) = a :: cut m
  | [], m, _ => by
    obtain ⟨h, t, e⟩ := cut_ne m
    rw [List.nil_append, cut_cons 47 m h t e, if_pos rfl, e]
  | c :: a, m, hc => by rw [List.cons_append, cut_cons c _ _ _ (cut_sep a m (fun d hd => hc d (by simp [hd]))), if_neg (hc c (by simp))]
theorem cut_join : ∀ (l : List (List UInt8)) (a : List UInt8), (∀ c ∈ a, c ≠ 47) → (∀ s ∈ l, ∀ c ∈ s, c ≠ 47) → cut (a ++ Lib.joinTail [47] l) = a :: l
  | [], a, ha, _ => by
    have e : Lib.joinTail [47] ([] : List (List UInt8)) = [] := rfl
    rw [e, List.append_nil, cut_no a ha]
  | s :: l, a, ha, hl => by
    have e : Lib.joinTail [47] (s :: l) = 47 :: (s ++ Lib.joinTail [47] l) := by simp [Lib.joinTail]
    rw [e, cut_sep a _ ha, cut_join l s (hl s (by simp)) (fun t ht => hl t (by simp [ht]))]
theorem join_cut : ∀ l : List UInt8, Lib.join (cut l) [47] = l
  | [] => rfl
  | c :: l => by
    have ih := join_cut l
    obtain ⟨h, t, e⟩ := cut_ne l
    rw [e, Lib.join_cons] at ih
    rw [cut_cons c l h t e]
    split
    · rename_i hc
      have e : Lib.joinTail [47] (h :: t) = 47 :: (h ++ Lib.joinTail [47] t) := by simp [Lib.joinTail]
      rw [Lib.join_cons, e, ih, hc]
      rfl
    · rw [Lib.join_cons, List.cons_append, ih]
theorem lab_no47 (s : ByteArray) (h : isLab s) : ∀ c ∈ s.data.toList, c ≠ 47 := by
  intro c hc e
  obtain ⟨j, hj, rfl⟩ := List.getElem_of_mem hc
  rw [data_length] at hj
  have z := h.2.2.1 j hj
  rw [BT_byte s j hj, e] at z
  unfold okc at z
  have : ((47 : UInt8).toNat : Int) = 47 := rfl
  omega
theorem map_baL (l : List ByteArray) : (l.map (·.data.toList)).map baL = l := by
  rw [List.map_map]
  conv => rhs; rw [← List.map_id l]
  exact List.map_congr_left (fun s _ => rfl)
theorem map_data (l : List (List UInt8)) : (l.map baL).map (·.data.toList) = l := by
  rw [List.map_map]
  conv => rhs; rw [← List.map_id l]
  exact List.map_congr_left (fun s _ => rfl)
theorem parts_fmt (x : List ByteArray) (hx : isPth x) : impl_ParsePath.parts (fmtB x true) = x := by
  rw [parts_cut _ _ (Nat.le_refl _)]
  cases x with
  | nil => have := hx.1; simp at this
  | cons s l =>
    rw [fmtB_data _ (by simp), List.map_cons, Lib.join_cons, cut_join]
    · exact map_baL (s :: l)
    · exact lab_no47 s (hx.2 s (by simp))
    · intro t ht
      rw [List.mem_map] at ht
      obtain ⟨u, hu, rfl⟩ := ht
      exact lab_no47 u (hx.2 u (by simp [hu]))
theorem parts_empty : ¬ isPth (impl_ParsePath.parts ⟨#[]⟩) := by
  rw [parts_cut _ _ (Nat.le_refl _)]
  intro h
  have h := (h.2 ⟨#[]⟩ (List.mem_singleton.2 rfl)).1
  exact absurd h (by decide)
theorem fmt_parts (s : ByteArray) : fmtB (impl_ParsePath.parts s) true = s := by
  obtain ⟨a, t, e⟩ := cut_ne s.data.toList
  have hp := parts_cut s.size s (Nat.le_refl _)
  have hd := fmtB_data (impl_ParsePath.parts s) (by rw [hp, e]; simp)
  rw [hp, map_data, join_cut, ← hp] at hd
  exact ByteArray.ext (Array.ext' hd)
theorem l5Path_l (b : List Int) (hb : b.length ≤ 1000000000000000000) : ∀ (d : Nat) (out : List ByteArray) (i h : Int), 0 ≤ i → d ≤ 1000 → out.length + d ≤ 1000 → (∀ s ∈ out, s.size ≤ 100) → ∃ x i' h', Ev (fun k => spec_l5Path.l0 k out (d : Int) b i h) (x, i', h') ∧ x.length ≤ 1000 ∧ (∀ s ∈ x, s.size ≤ 100) ∧ 0 ≤ i' := by
  intro d
  induction d with
  | zero =>
    intro out i h hi _ ho hs
    refine ⟨out, i, h, ev_step ?_, by omega, hs, hi⟩
    simp only [spec_l5Path.l0]
    exact ev_neg (by simp) (ev_const rfl)
  | succ d ih =>
    intro out i h hi hd ho hs
    obtain ⟨s, i1, h1, e, m, c⟩ := l4Label_ok b i h hb hi
    obtain ⟨x, i2, h2, e2, q1, q2, q3⟩ := ih (out ++ [s]) i1 h1 c (by omega) (by simp; omega) (fun z hz => by
      rcases List.mem_append.1 hz with hz | hz
      · exact hs z hz
      · rw [List.mem_singleton.1 hz]; exact m)
    refine ⟨x, i2, h2, ev_step ?_, q1, q2, q3⟩
    simp only [spec_l5Path.l0]
    refine ev_pos (by omega) (ev_bindc e (ev_pos (by omega) ?_))
    rw [w64 (i := ((d + 1 : Nat) : Int) - 1) (by omega) (by omega), show ((d + 1 : Nat) : Int) - 1 = (d : Int) from by omega]
    exact e2
theorem l5Path_ok (b : List Int) (i h : Int) (hb : b.length ≤ 1000000000000000000) (hi : 0 ≤ i) : ∃ x i' h', Ev (fun k => spec_l5Path.f k b i h) (x, i', h') ∧ x.length ≤ 1000 ∧ (∀ s ∈ x, s.size ≤ 100) ∧ 0 ≤ i' := by
  obtain ⟨n, i2, h2, e2, p, q, _, c⟩ := l1Below_ok b i h 3 hb hi
  have q' := q (by omega)
  obtain ⟨m, rfl⟩ := Int.eq_ofNat_of_zero_le p
  obtain ⟨x, i3, h3, e3, r⟩ := l5Path_l b hb (m + 1) [] i2 h2 c (by omega) (by simp; omega) (by simp)
  unfold spec_l5Path.f
  refine ⟨x, i3, h3, ev_bindc e2 ?_, r⟩
  have e : wrap64 (1 + (m : Int)) = ((m + 1 : Nat) : Int) := by rw [w64 (by omega) (by omega)]; omega
  simp only [e]
  exact e3
theorem l5Any_ok (b : List Int) (i h : Int) (hb : b.length ≤ 1000000000000000000) (hi : 0 ≤ i) : ∃ x i' h', Ev (fun k => spec_l5Any.f k b i h) (x, i', h') ∧ x.length ≤ 1002 ∧ (∀ s ∈ x, s.size ≤ 100) ∧ 0 ≤ i' := by
  obtain ⟨x, i1, h1, e1, hx, hs, c1⟩ := l5Path_ok b i h hb hi
  obtain ⟨n, i2, h2, e2, _, _, _, c2⟩ := l1Below_ok b i1 h1 8 hb c1
  unfold spec_l5Any.f
  by_cases h0 : n = 0
  · obtain ⟨s, i3, h3, e3, m3, c3⟩ := l4Any_ok b i2 h2 hb c2
    obtain ⟨t, i4, h4, e4, m4, c4⟩ := l4Any_ok b i3 h3 hb c3
    refine ⟨x ++ [s, t], i4, h4, ev_bind e1 (ev_bindc e2 (ev_pos h0 (ev_bindc e3 (ev_bindc e4 (ev_bindc rfl (ev_pos (by simp; omega) (ev_const rfl))))))), by simp; omega, fun u hu => ?_, c4⟩
    rcases List.mem_append.1 hu with hu | hu
    · exact hs u hu
    · simp at hu
      rcases hu with rfl | rfl
      · exact m3
      · exact m4
  · by_cases h1' : n = 1
    · exact ⟨[], i2, h2, ev_bind e1 (ev_bindc e2 (ev_neg h0 (ev_pos h1' (ev_const rfl)))), by simp, by simp, c2⟩
    · exact ⟨x, i2, h2, ev_bind e1 (ev_bindc e2 (ev_neg h0 (ev_neg h1' (ev_const rfl)))), by omega, hs, c2⟩
theorem DrawFP_ok (l : List Int) (hl : l.length ≤ 1000000000000000000) : ∃ x, Ev (fun k => spec_DrawFormatPath.f k l) x ∧ x.length ≤ 1002 ∧ (∀ s ∈ x, s.size ≤ 100) := by
  obtain ⟨h1, e1⟩ := l1New_ok l hl
  obtain ⟨x, i2, h2, e2, hx, hs, _⟩ := l5Any_ok l 0 h1 hl (by omega)
  unfold spec_DrawFormatPath.f spec_DrawIsPath.f
  exact ⟨x, ev_bind (ev_bind e1 (ev_bind e2 (ev_const rfl))) (ev_const rfl), hx, hs⟩
theorem DrawPP_ok (l : List Int) (hl : l.length ≤ 1000000000000000000) : ∃ s, Ev (fun k => spec_DrawParsePath.f k l) s ∧ s.size ≤ 1000 := by
  obtain ⟨h1, e1⟩ := l1New_ok l hl
  obtain ⟨q, i2, h2, e2, c2⟩ := l1Once_ok l 0 h1 3 hl (by omega)
  unfold spec_DrawParsePath.f
  cases q with
  | true =>
    obtain ⟨x, i3, h3, e3, m, c3⟩ := l1Str_ok l i2 h2 [(⟨#[]⟩ : ByteArray), (⟨#[47]⟩ : ByteArray), (⟨#[97, 47]⟩ : ByteArray), (⟨#[47, 97]⟩ : ByteArray), (⟨#[97, 47, 47, 98]⟩ : ByteArray), (⟨#[97, 47, 98, 47, 99, 47, 100]⟩ : ByteArray), (⟨#[97, 47, 98, 47, 99, 47, 100, 47, 101]⟩ : ByteArray), (⟨#[65, 47, 98]⟩ : ByteArray)] hl c2 (by simp)
    have hz : x.size ≤ 1000 := by
      simp only [List.mem_cons, List.not_mem_nil, or_false] at m
      clear e3 c3
      rcases m with rfl | rfl | rfl | rfl | rfl | rfl | rfl | rfl <;> decide
    exact ⟨x, ev_bind e1 (ev_bindc e2 (ev_pos rfl (ev_bindc e3 (ev_const rfl)))), hz⟩
  | false =>
    obtain ⟨x, i3, h3, e3, hx, hs, _⟩ := l5Any_ok l i2 h2 hl c2
    obtain ⟨b, hb⟩ := pth_bool x
    have f := FormatPath_sev x (by omega) (fun s q => by have := hs s q; omega) b hb
    exact ⟨fmtB x b, ev_bind e1 (ev_bindc e2 (ev_neg (by simp) (ev_bind e3 (ev_bind f (ev_const rfl))))), fmtB_size x b hb⟩
theorem DrawIB_ok (l : List Int) (hl : l.length ≤ 1000000000000000000) : ∃ x y, Ev (fun k => spec_DrawIsBelow.f k l) (x, y) ∧ x.length ≤ 1002 ∧ (∀ s ∈ x, s.size ≤ 100) ∧ y.length ≤ 1002 ∧ (∀ s ∈ y, s.size ≤ 100) := by
  obtain ⟨h1, e1⟩ := l1New_ok l hl
  obtain ⟨x, i2, h2, e2, hx, hs, c2⟩ := l5Any_ok l 0 h1 hl (by omega)
  have any : ∀ (i h : Int), 0 ≤ i → ∃ y, Ev (fun k => spec_DrawIsBelow.j0 k x false l i h) (x, y) ∧ y.length ≤ 1002 ∧ (∀ s ∈ y, s.size ≤ 100) := by
    intro i h hi
    obtain ⟨y, i3, h3, e3, hy, ht, _⟩ := l5Any_ok l i h hl hi
    refine ⟨y, ev_step ?_, hy, ht⟩
    simp only [spec_DrawIsBelow.j0]
    exact ev_neg (by simp) (ev_bind e3 (ev_const rfl))
  unfold spec_DrawIsBelow.f
  by_cases h0 : (x.length : Int) > 0
  · obtain ⟨q, i3, h3, e3, c3⟩ := l1Once_ok l i2 h2 2 hl c2
    cases q with
    | false =>
      obtain ⟨y, e4, hy, ht⟩ := any i3 h3 c3
      exact ⟨x, y, ev_bind e1 (ev_bind e2 (ev_pos h0 (ev_bindc e3 e4))), hx, hs, hy, ht⟩
    | true =>
      obtain ⟨n, i4, h4, e4, p, q, _, c⟩ := l1Below_ok l i3 h3 (x.length : Int) hl c3
      have q' := q (by omega)
      have hcp : spec_l5Copy.f (x.take (n : Int).toNat) = some (x.take (n : Int).toNat) := by
        unfold spec_l5Copy.f
        rw [Option.bind_some, if_pos (by simp; omega), List.nil_append]
      refine ⟨x, x.take (n : Int).toNat, ev_bind e1 (ev_bind e2 (ev_pos h0 (ev_bindc e3 (ev_step ?_)))), hx, hs, by simp; omega, fun s q => hs s (List.mem_of_mem_take q)⟩
      simp only [spec_DrawIsBelow.j0]
      exact ev_pos (by trivial) (ev_bindc e4 (ev_pos p (ev_pos (by omega) (ev_bindc hcp (ev_const rfl)))))
  · obtain ⟨y, e4, hy, ht⟩ := any i2 h2 c2
    exact ⟨x, y, ev_bind e1 (ev_bind e2 (ev_neg h0 e4)), hx, hs, hy, ht⟩
theorem FnPaths_j1 (l : List Int) (hl : l.length ≤ 1000000000000000000) (x : List ByteArray) (hx : x.length ≤ 1002) (hs : ∀ s ∈ x, s.size ≤ 100) (b : Bool) (hb : b = true ↔ isPth x) : Ev (fun k => laws_FnPaths.j1 k l x (b && decide ((x.length : Int) > 1))) true := by
  obtain ⟨y, z, e1, hy, hys, hz, hzs⟩ := DrawIB_ok l hl
  obtain ⟨c, hc⟩ := bel_bool y z
  have g := IsBelow_iev y z (by omega) (fun s q => by have := hys s q; omega) (by omega) (fun s q => by have := hzs s q; omega) c hc
  have s := IsBelow_sev y z (by omega) (fun s q => by have := hys s q; omega) (by omega) (fun s q => by have := hzs s q; omega) c hc
  have ip := IsPath_iev x (by omega) (fun s q => by have := hs s q; omega) b hb
  refine ev_step ?_
  simp only [laws_FnPaths.j1]
  refine ev_bind e1 (ev_bind ip ?_)
  cases b with
  | true => exact ev_pos rfl (ev_pos (by simp) (ev_bind g (ev_bind s (ev_const (by simp)))))
  | false => exact ev_neg (by simp) (ev_pos (by simp) (ev_bind g (ev_bind s (ev_const (by simp)))))
theorem FnPaths_j0 (l : List Int) (hl : l.length ≤ 1000000000000000000) (x : List ByteArray) (hx : x.length ≤ 1002) (hs : ∀ s ∈ x, s.size ≤ 100) (b : Bool) (hb : b = true ↔ isPth x) (t : ByteArray) (ht : t.size ≤ 1000) (c : Bool) (hc : c = true ↔ isPth (impl_ParsePath.parts t)) : Ev (fun k => laws_FnPaths.j0 k l x t c false) true := by
  have sp := ParsePath_sev t (by omega) c hc
  have ip := IsPath_iev x (by omega) (fun s q => by have := hs s q; omega) b hb
  have j1 := FnPaths_j1 l hl x hx hs b hb
  have hcc : (ppB t c).2 = c := by unfold ppB; cases c <;> rfl
  refine ev_step ?_
  simp only [laws_FnPaths.j0]
  refine ev_neg (by simp) (ev_bind sp (ev_neg (by rw [hcc]; simp) ?_))
  unfold impl_ParentOf.f
  cases b with
  | false =>
    refine ev_bind (ev_bind ip (ev_neg (by simp) (ev_const rfl))) (ev_neg (by simp) ?_)
    exact j1
  | true =>
    have hp := hb.mp rfl
    have hl4 := hp.1
    by_cases h1 : (x.length : Int) = 1
    · have e : decide ((x.length : Int) > 1) = false := decide_eq_false (by omega)
      rw [e] at j1
      exact ev_bind (ev_bind ip (ev_pos rfl (ev_pos h1 (ev_const rfl)))) (ev_neg (by simp) j1)
    · have e : decide ((x.length : Int) > 1) = true := decide_eq_true (by omega)
      rw [e] at j1
      have hw : wrap64 ((x.length : Int) - 1) = ((x.length - 1 : Nat) : Int) := by rw [w64 (by omega) (by omega)]; omega
      have hlt : x.length - 1 < x.length := by omega
      have hq : isPth (x.take (x.length - 1)) := ⟨by simp; omega, fun s q => hp.2 s (List.mem_of_mem_take q)⟩
      have hql : (x.take (x.length - 1)).length = x.length - 1 := by simp
      have hqs : ∀ s ∈ x.take (x.length - 1), s.size ≤ 1000000000000 := fun s q => by have := hs s (List.mem_of_mem_take q); omega
      have hxs : ∀ s ∈ x, s.size ≤ 1000000000000 := fun s q => by have := hs s q; omega
      have hj : x.take (x.length - 1) ++ [x[x.length - 1]] = x := by
        rw [← List.take_succ_eq_append_getElem hlt]
        exact List.take_of_length_le (by omega)
      have c1 : slices_Clone_string_string.f (x.take (x.length - 1)) = some (x.take (x.length - 1)) := if_pos (by simp; omega)
      have g1 := IsBelow_iev x (x.take (x.length - 1)) (by omega) hxs (by omega) hqs true ⟨fun _ => ⟨hp, hq, by omega, by rw [hql]⟩, fun _ => rfl⟩
      have g2 := IsBelow_iev (x.take (x.length - 1)) x (by omega) hqs (by omega) hxs false ⟨fun z => (by cases z), fun z => by have := z.2.2.1; omega⟩
      have sm := SamePath_iev x x (by omega) true (by simp)
      have jp : Ev (fun k => impl_JoinPath.f k (x.take (x.length - 1)) x[x.length - 1]) (x, true) := by
        unfold impl_JoinPath.f
        refine ev_bindc c1 (ev_pos (by omega) ?_)
        rw [hj]
        exact ev_bindc rfl (ev_bind ip (ev_pos rfl (ev_const rfl)))
      rw [hw, Int.toNat_natCast, rdOf_at _ x _ hlt]
      refine ev_bind (a := (x.take (x.length - 1), true)) (ev_bind ip (ev_pos rfl (ev_neg h1 (ev_pos (by omega) (ev_pos (by omega) (ev_bindc c1 (ev_const rfl))))))) (ev_pos rfl (ev_pos (by omega) (ev_pos (by omega) ?_)))
      exact ev_bind jp (ev_pos rfl (ev_bind sm (ev_pos rfl (ev_bind g1 (ev_pos rfl (ev_bind g2 (ev_neg (by simp) j1)))))))
theorem FnPaths_y (l : List Int) (hl : l.length ≤ 1000000000000000000) (x : List ByteArray) (hx : x.length ≤ 1002) (hs : ∀ s ∈ x, s.size ≤ 100) (b : Bool) (hb : b = true ↔ isPth x) (t : ByteArray) (ht : t.size ≤ 1000) (c : Bool) (hc : c = true ↔ isPth (impl_ParsePath.parts t)) :
    Ev (fun k => if c = true then ((impl_IsPath.f k (ppB t c).1).bind fun t308 => (if t308 = true then ((impl_FormatPath.f k (ppB t c).1).bind fun t309 => (if t309.toList = t.toList then ((impl_IsPath.f k x).bind fun t310 => ((spec_IsPath.f k x).bind fun t311 => (laws_FnPaths.j0 k l x t c (t310 != t311)))) else (laws_FnPaths.j0 k l x t c true))) else (laws_FnPaths.j0 k l x t c true))) else ((impl_IsPath.f k x).bind fun t312 => ((spec_IsPath.f k x).bind fun t313 => (laws_FnPaths.j0 k l x t c (t312 != t313))))) true := by
  have ip := IsPath_iev x (by omega) (fun s q => by have := hs s q; omega) b hb
  have sp := IsPath_sev x (by omega) (fun s q => by have := hs s q; omega) b hb
  have j0 := FnPaths_j0 l hl x hx hs b hb t ht c hc
  have last : Ev (fun k => (impl_IsPath.f k x).bind fun t310 => ((spec_IsPath.f k x).bind fun t311 => (laws_FnPaths.j0 k l x t c (t310 != t311)))) true := by
    refine ev_bind ip (ev_bind sp ?_)
    have e : (b != b) = false := by simp
    simp only [e]
    exact j0
  cases c with
  | false => exact ev_neg (by simp) last
  | true =>
    have hp := hc.mp rfl
    have h1 := impl_ParsePath.parts_le t
    have h2 := parts_size t
    have iy := IsPath_iev (impl_ParsePath.parts t) (by omega) (fun s q => by have := h2 s q; omega) true hc
    have fy := FormatPath_iev (impl_ParsePath.parts t) (by omega) (fun s q => by have := h2 s q; omega) true hc
    rw [fmt_parts] at fy
    exact ev_pos rfl (ev_bind iy (ev_pos rfl (ev_bind fy (ev_pos rfl last))))
end OfFnPaths
open OfFnPaths in
theorem FnPaths : laws_FnPaths.Pure := by
  intro l _ hb _
  apply Ev.rounds
  unfold laws_FnPaths.f laws_big.f
  refine ev_bindc rfl (ev_dec (fun _ => ev_const rfl) (fun h0 => ?_))
  have hl : l.length ≤ 1000000000000000000 := by omega
  obtain ⟨x, e1, hx, hs⟩ := DrawFP_ok l hl
  obtain ⟨t, e2, ht⟩ := DrawPP_ok l hl
  obtain ⟨b, hb⟩ := pth_bool x
  obtain ⟨c, hc⟩ := pth_bool (impl_ParsePath.parts t)
  have fx := FormatPath_iev x (by omega) (fun s q => by have := hs s q; omega) b hb
  have pt := ParsePath_iev t (by omega) c hc
  have ip := IsPath_iev x (by omega) (fun s q => by have := hs s q; omega) b hb
  have hcc : (ppB t c).2 = c := by unfold ppB; cases c <;> rfl
  have fin := FnPaths_y l hl x hx hs b hb t ht c hc
  have sm := SamePath_iev x x (by omega) true (by simp)
  have px : Ev (fun k => impl_ParsePath.f k (fmtB x b)) (if b = true then (x, true) else ([], false)) := by
    cases b with
    | true =>
      have z := ParsePath_iev (fmtB x true) (by have := fmtB_size x true hb; omega) true (by rw [parts_fmt x (hb.mp rfl)]; exact hb)
      unfold ppB at z
      rw [parts_fmt x (hb.mp rfl)] at z
      exact z
    | false => exact ParsePath_iev (fmtB x false) (by have := fmtB_size x false hb; omega) false ⟨fun z => (by cases z), fun z => absurd z parts_empty⟩
  refine ev_bind e1 (ev_bind fx (ev_bind px (ev_bind e2 (ev_bind pt (ev_bind ip ?_)))))
  rw [hcc]
  cases b with
  | true => exact ev_neg (by simp) (ev_pos rfl (ev_bind sm (ev_pos rfl fin)))
  | false => exact ev_neg (by simp) (ev_neg (by simp) fin)
end Go.Proofs.YtdiemlfceoaopaaDoor.Pure
