/- The pure statement of FnLabels: what the printed functions compute answers true for all arguments within the printed bounds. -/
import Derived.Test.YtnkgglihlmileaaGreatPFnLabelsx6
import Derived.Test.YtnkgglihlmileaaGreatKit
namespace Go.Proofs.YtnkgglihlmileaaGreat.Pure
open Go.RowKit Go.Proofs.YtnkgglihlmileaaGreat.PFnLabels Go.Proofs.YtnkgglihlmileaaGreatW.PrintWords Go.Proofs.YtnkgglihlmileaaGreatW.PrintLast Go.Proofs.YtnkgglihlmileaaGreat.Kit
set_option linter.unusedVariables false
set_option linter.unusedSimpArgs false
namespace OfFnLabels
theorem l1New_ok (b : List Int) (hb : b.length ≤ 1000000000000000000) : ∃ h, Ev (fun k => spec_l1New.f k b) (b, 0, h) := by
  have key : ∀ (m i : Nat) (h : Int), i + m = b.length → ∃ h', Ev (fun k => spec_l1New.l0 k b h (i : Int)) (b, 0, h') := by
    intro m
    induction m with
    | zero =>
      intro i h hi
      refine ⟨h, ev_step ?_⟩
      simp only [spec_l1New.l0]
      exact ev_neg (by omega) (ev_const rfl)
    | succ m ih =>
      intro i h hi
      by_cases h4 : (i : Int) < 4000
      · obtain ⟨h', e⟩ := ih (i + 1) (Go.bits .and .i64 (wrap64 ((wrap64 ((wrap64 (h * 137)) + (wrap64 (rd b (i : Int))))) + 11)) 1073741823) (by omega)
        refine ⟨h', ev_step ?_⟩
        simp only [spec_l1New.l0]
        rw [w64s (n := b.length) (by omega) (by omega)]
        exact ev_pos (by omega) (ev_pos h4 (ev_pos (by omega) e))
      · refine ⟨h, ev_step ?_⟩
        simp only [spec_l1New.l0]
        exact ev_pos (by omega) (ev_neg h4 (ev_const rfl))
  unfold spec_l1New.f
  exact key b.length 0 _ (by omega)

theorem and255 (x : Int) : 0 ≤ Go.bits .and .i64 x 255 ∧ Go.bits .and .i64 x 255 ≤ 255 := by
  unfold Go.bits
  simp only []
  have h1 : (BitVec.ofInt IntKind.i64.bits x &&& BitVec.ofInt IntKind.i64.bits 255).toNat ≤ 255 := by
    rw [BitVec.toNat_and]
    exact Nat.le_trans Nat.and_le_right (by decide)
  generalize (BitVec.ofInt IntKind.i64.bits x &&& BitVec.ofInt IntKind.i64.bits 255).toNat = n at h1
  rw [IntKind.wrap_i64]
  omega

/-- The drawing of bytes and of what is made of them: each draw ends, and its values lie where they should. The reader's place i never is below 0. -/
theorem l1Byte_ok (b : List Int) (i h : Int) (hb : b.length ≤ 1000000000000000000) (hi : 0 ≤ i) : ∃ x i' h', spec_l1Byte.f b i h = some (x, i', h') ∧ 0 ≤ x ∧ x ≤ 255 ∧ 0 ≤ i' := by
  unfold spec_l1Byte.f
  by_cases h1 : i < (b.length : Int)
  · rw [if_pos h1, if_pos hi]
    exact ⟨_, _, _, rfl, (and255 _).1, (and255 _).2, by rw [w64 (by omega) (by omega)]; omega⟩
  · rw [if_neg h1]
    exact ⟨_, _, _, rfl, (and255 _).1, (and255 _).2, hi⟩
theorem l1Below_ok (b : List Int) (i h n : Int) (hb : b.length ≤ 1000000000000000000) (hi : 0 ≤ i) : ∃ x i' h', spec_l1Below.f b i h n = some (x, i', h') ∧ 0 ≤ x ∧ (0 < n → x < n) ∧ (n ≤ 0 → x = 0) ∧ 0 ≤ i' := by
  unfold spec_l1Below.f
  by_cases h1 : n ≤ 0
  · rw [if_pos h1]
    exact ⟨_, _, _, rfl, by omega, by omega, by omega, hi⟩
  · rw [if_neg h1]
    obtain ⟨x1, i1, h1', e1, a1, b1, c1⟩ := l1Byte_ok b i h hb hi
    by_cases h2 : n ≤ 256
    · rw [if_pos h2, e1, Option.bind_some, if_neg (by omega)]
      exact ⟨_, _, _, rfl, Int.tmod_nonneg _ a1, fun _ => Int.tmod_lt_of_pos _ (by omega), by omega, c1⟩
    · obtain ⟨x2, i2, h2', e2, a2, b2, c2⟩ := l1Byte_ok b i1 h1' hb c1
      obtain ⟨x3, i3, h3', e3, a3, b3, c3⟩ := l1Byte_ok b i2 h2' hb c2
      rw [if_neg h2, e1, Option.bind_some, e2, Option.bind_some, e3, Option.bind_some, if_neg (by omega)]
      refine ⟨_, _, _, rfl, ?_, fun _ => Int.tmod_lt_of_pos _ (by omega), by omega, c3⟩
      simp only []
      rw [w64 (i := x1 * 65536) (by omega) (by omega), w64 (i := x2 * 256) (by omega) (by omega), w64 (i := x1 * 65536 + x2 * 256) (by omega) (by omega), w64 (i := x1 * 65536 + x2 * 256 + x3) (by omega) (by omega)]
      exact Int.tmod_nonneg _ (by omega)

theorem l1Once_ok (b : List Int) (i h n : Int) (hb : b.length ≤ 1000000000000000000) (hi : 0 ≤ i) : ∃ (x : Bool) (i' h' : Int), spec_l1Once.f b i h n = some (x, i', h') ∧ 0 ≤ i' := by
  obtain ⟨x, i1, h1, e, _, _, _, c⟩ := l1Below_ok b i h n hb hi
  unfold spec_l1Once.f
  rw [e, Option.bind_some]
  exact ⟨_, _, _, rfl, c⟩

theorem l1Str_ok (b : List Int) (i h : Int) (l : List ByteArray) (hb : b.length ≤ 1000000000000000000) (hi : 0 ≤ i) (hl : 0 < l.length) : ∃ x i' h', spec_l1Str.f b i h l = some (x, i', h') ∧ x ∈ l ∧ 0 ≤ i' := by
  obtain ⟨x, i1, h1, e, p, q, _, c⟩ := l1Below_ok b i h (l.length : Int) hb hi
  have q' := q (by omega)
  unfold spec_l1Str.f
  rw [e, Option.bind_some, if_pos p, if_pos q']
  refine ⟨_, _, _, rfl, ?_, c⟩
  obtain ⟨m, rfl⟩ := Int.eq_ofNat_of_zero_le p
  rw [rdOf_at _ l m (by omega)]
  exact List.getElem_mem _

theorem l4Label_ok (b : List Int) (i h : Int) (hb : b.length ≤ 1000000000000000000) (hi : 0 ≤ i) : ∃ x i' h', spec_l4Label.f b i h = some (x, i', h') ∧ x.size ≤ 100 ∧ 0 ≤ i' := by
  unfold spec_l4Label.f
  obtain ⟨x, i1, h1, e, m, c⟩ := l1Str_ok b i h [(⟨#[97, 110, 110]⟩ : ByteArray), (⟨#[98, 111, 98]⟩ : ByteArray), (⟨#[98, 97, 110, 107]⟩ : ByteArray), (⟨#[115, 104, 111, 112]⟩ : ByteArray), (⟨#[115, 104, 48, 112]⟩ : ByteArray), (⟨#[53, 104, 111, 112]⟩ : ByteArray), (⟨#[109, 97, 105, 108]⟩ : ByteArray), (⟨#[109, 97, 45, 105, 108]⟩ : ByteArray), (⟨#[97]⟩ : ByteArray)] hb hi (by simp)
  rw [e, Option.bind_some]
  have hz : x.size ≤ 100 := by
    simp only [List.mem_cons, List.not_mem_nil, or_false] at m
    clear e c
    rcases m with rfl | rfl | rfl | rfl | rfl | rfl | rfl | rfl | rfl <;> decide
  exact ⟨_, _, _, rfl, hz, c⟩
theorem l4Any_ok (b : List Int) (i h : Int) (hb : b.length ≤ 1000000000000000000) (hi : 0 ≤ i) : ∃ x i' h', spec_l4Any.f b i h = some (x, i', h') ∧ x.size ≤ 100 ∧ 0 ≤ i' := by
  unfold spec_l4Any.f
  obtain ⟨q, i1, h1, e1, c1⟩ := l1Once_ok b i h 4 hb hi
  rw [e1, Option.bind_some]
  cases q with
  | true =>
    obtain ⟨x, i2, h2, e, m, c⟩ := l1Str_ok b i1 h1 [(⟨#[]⟩ : ByteArray), (⟨#[45, 97]⟩ : ByteArray), (⟨#[97, 45]⟩ : ByteArray), (⟨#[65]⟩ : ByteArray), (⟨#[97, 46, 98]⟩ : ByteArray), (⟨#[97, 98, 99, 100, 101, 102, 103, 104]⟩ : ByteArray), (⟨#[97, 98, 99, 100, 101, 102, 103, 104, 105]⟩ : ByteArray), (⟨#[49, 108]⟩ : ByteArray), (⟨#[108, 49]⟩ : ByteArray), (⟨#[48]⟩ : ByteArray)] hb c1 (by simp)
    rw [if_pos rfl, e, Option.bind_some]
    have hz : x.size ≤ 100 := by
      simp only [List.mem_cons, List.not_mem_nil, or_false] at m
      clear e c
      rcases m with rfl | rfl | rfl | rfl | rfl | rfl | rfl | rfl | rfl | rfl <;> decide
    exact ⟨_, _, _, rfl, hz, c⟩
  | false =>
    obtain ⟨x, i2, h2, e, m, c⟩ := l4Label_ok b i1 h1 hb c1
    rw [if_neg (by simp), e, Option.bind_some]
    exact ⟨_, _, _, rfl, m, c⟩

theorem InRange_v (a b c : Int) : impl_InRange.f a b c = some (decide (b ≤ a ∧ a ≤ c)) := by
  unfold impl_InRange.f
  by_cases h : b ≤ a <;> simp [h]

theorem l1In_v (a b c : Int) : spec_l1In.f a b c = some (decide (b ≤ a ∧ a ≤ c)) := by
  unfold spec_l1In.f
  by_cases h : b ≤ a <;> simp [h]

/-- A byte of a label. -/
def okc (c : Int) : Prop := (97 ≤ c ∧ c ≤ 122) ∨ (48 ≤ c ∧ c ≤ 57) ∨ c = 45
instance (c : Int) : Decidable (okc c) := by unfold okc; exact inferInstance
/-- Is a string a label. -/
def isLab (s : ByteArray) : Prop := 1 ≤ s.size ∧ s.size ≤ 8 ∧ (∀ j : Nat, j < s.size → okc (bt s j)) ∧ bt s 0 ≠ 45 ∧ bt s ((s.size : Int) - 1) ≠ 45
theorem IsLabel_s1 (k : Nat) (x : ByteArray) (i : Int) : spec_IsLabel.l0 (k + 1) x i = if i < (x.size : Int) then (if 0 ≤ i then (if okc (bt x i) then (spec_IsLabel.l0 k x (wrap64 (i + 1))) else (some false)) else (none)) else (some true) := by
  rw [spec_IsLabel.l0]
  by_cases h1 : i < (x.size : Int)
  · by_cases h2 : 0 ≤ i
    · rw [if_pos h1, if_pos h2, if_pos h1, if_pos h2]
      by_cases hc : okc (bt x i)
      all_goals
        first | rw [if_pos (c := okc _) hc] | rw [if_neg (c := okc _) hc]
        generalize bt x i = c at hc
        unfold okc at hc
        repeat' split
        all_goals first | rfl | (exfalso; omega)
    · simp [h1, h2]
  · simp [h1]
theorem IsLabel_sl (x : ByteArray) (hx : x.size ≤ 9223372036854775806) (b : Bool) : ∀ (d i : Nat), i + d = x.size → (b = true ↔ ∀ j : Nat, i ≤ j → j < x.size → okc (bt x j)) → Ev (fun k => spec_IsLabel.l0 k x (i : Int)) b := by
  intro d
  induction d with
  | zero =>
    intro i hi hb
    have e : b = true := hb.mpr (fun j h1 h2 => by omega)
    subst e
    refine ev_step (ev_congr (fun k => IsLabel_s1 k x i) ?_)
    exact ev_neg (by omega) (ev_const rfl)
  | succ d ih =>
    intro i hi hb
    refine ev_step (ev_congr (fun k => IsLabel_s1 k x i) ?_)
    refine ev_pos (by omega) (ev_pos (by omega) (ev_dec (fun h => ?_) (fun h => ?_)))
    · rw [w64s (n := x.size) (by omega) (by omega)]
      refine ih (i + 1) (by omega) (hb.trans ⟨fun z j h1 h2 => z j (by omega) h2, fun z j h1 h2 => ?_⟩)
      by_cases e : j = i
      · subst e; exact h
      · exact z j (by omega) h2
    · have e : b = false := by
        rw [Bool.eq_false_iff]
        intro z
        exact h (hb.mp z i (by omega) (by omega))
      subst e
      exact ev_const rfl
theorem IsLabel_sev (x : ByteArray) (hx : x.size ≤ 9223372036854775806) (b : Bool) (hb : b = true ↔ isLab x) : Ev (fun k => spec_IsLabel.f k x) b := by
  unfold spec_IsLabel.f
  rw [l1In_v]
  have hf : ∀ (_ : ¬ isLab x), b = false := by
    intro h
    rw [Bool.eq_false_iff]
    intro z
    exact h (hb.mp z)
  have hj : ∀ (_ : ¬ isLab x), Ev (fun k => spec_IsLabel.j0 k x true) b := by
    intro h
    rw [hf h]
    refine ev_step ?_
    simp only [spec_IsLabel.j0]
    exact ev_const rfl
  by_cases h1 : 1 ≤ x.size ∧ x.size ≤ 8
  · refine ev_bindc (a := true) (by rw [decide_eq_true (show (1 : Int) ≤ (x.size : Int) ∧ (x.size : Int) ≤ 8 from by omega)]) ?_
    have hw : wrap64 ((x.size : Int) - 1) = (x.size : Int) - 1 := w64 (by omega) (by omega)
    rw [hw]
    refine ev_pos rfl (ev_pos (by omega) (ev_dec (fun h => ?_) (fun h => ?_)))
    · exact hj (fun z => z.2.2.2.1 h)
    · refine ev_pos (by omega) (ev_pos (by omega) ?_)
      by_cases h5 : bt x ((x.size : Int) - 1) = 45
      · rw [h5]
        exact hj (fun z => z.2.2.2.2 h5)
      · refine ev_step ?_
        simp only [spec_IsLabel.j0]
        refine ev_neg (by simpa using h5) ?_
        refine IsLabel_sl x hx b x.size 0 (by omega) (hb.trans ?_)
        unfold isLab
        exact ⟨fun z j _ hj => z.2.2.1 j hj, fun z => ⟨h1.1, h1.2, fun j hj => z j (by omega) hj, h, h5⟩⟩
  · refine ev_bindc (a := false) (by rw [decide_eq_false (show ¬ ((1 : Int) ≤ (x.size : Int) ∧ (x.size : Int) ≤ 8) from by omega)]) ?_
    refine ev_neg (by simp) ?_
    exact hj (fun z => h1 ⟨z.1, z.2.1⟩)
theorem IsLabel_i1 (k : Nat) (x : ByteArray) (n i : Int) : impl_IsLabel.l0 (k + 1) x n i = if i < n then (if 0 ≤ i then (if i < (x.size : Int) then (if okc (bt x i) ∧ (bt x i = 45 → 0 < i ∧ i < wrap64 ((x.size : Int) - 1)) then (impl_IsLabel.l0 k x n (wrap64 (i + 1))) else (some false)) else (none)) else (none)) else ((impl_InRange.f (x.size : Int) 1 8).bind fun t => some t) := by
  rw [impl_IsLabel.l0]
  by_cases h1 : i < n
  · by_cases h2 : 0 ≤ i
    · by_cases h3 : i < (x.size : Int)
      · rw [if_pos h1, if_pos h2, if_pos h3, if_pos h1, if_pos h2, if_pos h3]
        generalize wrap64 ((x.size : Int) - 1) = m
        by_cases hc : okc (bt x i) ∧ (bt x i = 45 → 0 < i ∧ i < m)
        all_goals
          first | rw [if_pos (c := okc _ ∧ _) hc] | rw [if_neg (c := okc _ ∧ _) hc]
          generalize bt x i = c at hc
          unfold okc at hc
          repeat' split
          all_goals first | rfl | (exfalso; omega)
      · simp [h1, h2, h3]
    · simp [h1, h2]
  · simp [h1]
theorem IsLabel_il (x : ByteArray) (hx : x.size ≤ 9223372036854775806) (b : Bool) : ∀ (d i : Nat), i + d = x.size → (b = true ↔ (∀ j : Nat, i ≤ j → j < x.size → okc (bt x j) ∧ (bt x j = 45 → 0 < j ∧ j + 1 < x.size)) ∧ 1 ≤ x.size ∧ x.size ≤ 8) → Ev (fun k => impl_IsLabel.l0 k x (x.size : Int) (i : Int)) b := by
  intro d
  induction d with
  | zero =>
    intro i hi hb
    refine ev_step (ev_congr (fun k => IsLabel_i1 k x _ i) ?_)
    refine ev_neg (by omega) (ev_const ?_)
    rw [InRange_v]
    have e : b = decide ((1 : Int) ≤ (x.size : Int) ∧ (x.size : Int) ≤ 8) := by
      rw [Bool.eq_iff_iff, hb, decide_eq_true_iff]
      exact ⟨fun z => by omega, fun z => ⟨fun j h1 h2 => by omega, by omega⟩⟩
    rw [e]
    rfl
  | succ d ih =>
    intro i hi hb
    have hw : wrap64 ((x.size : Int) - 1) = (x.size : Int) - 1 := w64 (by omega) (by omega)
    refine ev_step (ev_congr (fun k => IsLabel_i1 k x _ i) ?_)
    rw [hw]
    refine ev_pos (by omega) (ev_pos (by omega) (ev_pos (by omega) (ev_dec (fun h => ?_) (fun h => ?_))))
    · rw [w64s (n := x.size) (by omega) (by omega)]
      refine ih (i + 1) (by omega) (hb.trans ⟨fun z => ⟨fun j h1 h2 => z.1 j (by omega) h2, z.2⟩, fun z => ⟨fun j h1 h2 => ?_, z.2⟩⟩)
      by_cases e : j = i
      · subst e
        exact ⟨h.1, fun q => by have := h.2 q; omega⟩
      · exact z.1 j (by omega) h2
    · have e : b = false := by
        rw [Bool.eq_false_iff]
        intro z
        have q := (hb.mp z).1 i (by omega) (by omega)
        exact h ⟨q.1, fun r => by have := q.2 r; omega⟩
      subst e
      exact ev_const rfl
theorem IsLabel_iev (x : ByteArray) (hx : x.size ≤ 9223372036854775806) (b : Bool) (hb : b = true ↔ isLab x) : Ev (fun k => impl_IsLabel.f k x) b := by
  unfold impl_IsLabel.f
  refine IsLabel_il x hx b x.size 0 (by omega) (hb.trans ?_)
  unfold isLab
  constructor
  · rintro ⟨h1, h2, h3, h4, h5⟩
    refine ⟨fun j _ hj => ⟨h3 j hj, fun q => ?_⟩, h1, h2⟩
    constructor
    · rcases Nat.eq_zero_or_pos j with e | e
      · subst e; exact absurd q h4
      · exact e
    · rcases Nat.lt_or_ge (j + 1) x.size with e | e
      · exact e
      · exfalso
        apply h5
        rw [show (x.size : Int) - 1 = (j : Int) from by omega]
        exact q
  · rintro ⟨h1, h2, h3⟩
    refine ⟨h2, h3, fun j hj => (h1 j (by omega) hj).1, fun q => ?_, fun q => ?_⟩
    · have := ((h1 0 (by omega) (by omega)).2 q).1
      omega
    · have e : (x.size : Int) - 1 = ((x.size - 1 : Nat) : Int) := by omega
      rw [e] at q
      have := ((h1 (x.size - 1) (by omega) (by omega)).2 q).2
      omega
theorem lab_bool (x : ByteArray) : ∃ b : Bool, b = true ↔ isLab x := by
  by_cases h : isLab x
  · exact ⟨true, by simp [h]⟩
  · exact ⟨false, by simp [h]⟩

theorem PL_byte (s : ByteArray) (i : Nat) (h : i < s.size) : bt s (i : Int) = ((s.data.toList[i]'(by rw [data_length]; exact h)).toNat : Int) := by
  rw [← rd_bytesOf, rd_at _ i (by rw [bytesOf_length]; exact h)]
  simp [bytesOf]
theorem PL_nums (l : List UInt8) : strOfNums (l.map fun x => (x.toNat : Int)) = ⟨l.toArray⟩ := by
  unfold strOfNums
  congr 1
  congr 1
  rw [List.map_map]
  conv => rhs; rw [← List.map_id l]
  apply List.map_congr_left
  intro x _
  simp
theorem PL_one (c : UInt8) : (impl_PlainOf.outC c).map (fun x => (x.toNat : Int)) = if (c.toNat : Int) = 48 then [111] else if (c.toNat : Int) = 49 then [108] else if (c.toNat : Int) = 53 then [115] else if (c.toNat : Int) = 45 then [] else [(c.toNat : Int)] := by
  have g : ∀ n : UInt8, (c.toNat : Int) = (n.toNat : Int) ↔ c = n := fun n => by rw [Int.ofNat_inj]; exact UInt8.toNat_inj
  have g45 : (c.toNat : Int) = 45 ↔ c = 45 := g 45
  have g53 : (c.toNat : Int) = 53 ↔ c = 53 := g 53
  have g49 : (c.toNat : Int) = 49 ↔ c = 49 := g 49
  have g48 : (c.toNat : Int) = 48 ↔ c = 48 := g 48
  unfold impl_PlainOf.outC
  by_cases e45 : c = 45
  · subst e45; rfl
  · by_cases e53 : c = 53
    · subst e53; rfl
    · by_cases e49 : c = 49
      · subst e49; rfl
      · by_cases e48 : c = 48
        · subst e48; rfl
        · rw [if_neg e45, if_neg e53, if_neg e49, if_neg e48, if_neg (fun z => e48 (g48.1 z)), if_neg (fun z => e49 (g49.1 z)), if_neg (fun z => e53 (g53.1 z)), if_neg (fun z => e45 (g45.1 z))]
          rfl
theorem PL_sl (s : ByteArray) (hs : s.size ≤ 100000000000000) : ∀ (d i : Nat) (out : List Int), i + d = s.size → out.length ≤ i →
    Ev (fun k => spec_PlainOf.l0 k s out (i : Int)) (strOfNums (out ++ (impl_PlainOf.plain (s.data.toList.drop i)).map (fun x => (x.toNat : Int)))) := by
  intro d
  induction d with
  | zero =>
    intro i out hi _
    refine ev_step ?_
    simp only [spec_PlainOf.l0]
    rw [List.drop_of_length_le (by rw [data_length]; omega)]
    refine ev_neg (by omega) (ev_const ?_)
    simp [impl_PlainOf.plain]
  | succ d ih =>
    intro i out hi ho
    have hlt : i < s.size := by omega
    have hl : i < s.data.toList.length := by rw [data_length]; exact hlt
    have hd : impl_PlainOf.plain (s.data.toList.drop i) = impl_PlainOf.outC s.data.toList[i] ++ impl_PlainOf.plain (s.data.toList.drop (i + 1)) := by
      rw [List.drop_eq_getElem_cons hl]
      simp [impl_PlainOf.plain]
    refine ev_step ?_
    simp only [spec_PlainOf.l0]
    rw [PL_byte s i hlt, w64s (n := s.size) hlt (by omega), hd, List.map_append, PL_one, ← List.append_assoc]
    generalize (s.data.toList[i].toNat : Int) = c
    refine ev_pos (by omega) (ev_pos (by omega) ?_)
    refine ev_dec (fun h => ?_) (fun h => ?_)
    · rw [if_pos h]
      exact ev_pos (by omega) (ih (i + 1) _ (by omega) (by simp; omega))
    · rw [if_neg h]
      refine ev_dec (fun h => ?_) (fun h => ?_)
      · rw [if_pos h]
        exact ev_pos (by omega) (ih (i + 1) _ (by omega) (by simp; omega))
      · rw [if_neg h]
        refine ev_dec (fun h => ?_) (fun h => ?_)
        · rw [if_pos h]
          exact ev_pos (by omega) (ih (i + 1) _ (by omega) (by simp; omega))
        · rw [if_neg h]
          refine ev_dec (fun h => ?_) (fun h => ?_)
          · rw [if_pos h, List.append_nil]
            exact ih (i + 1) _ (by omega) (by omega)
          · rw [if_neg h]
            exact ev_pos (by omega) (ih (i + 1) _ (by omega) (by simp; omega))
theorem PL_sev (s : ByteArray) (hs : s.size ≤ 100000000000000) : Ev (fun k => spec_PlainOf.f k s) ⟨(impl_PlainOf.plain s.data.toList).toArray⟩ := by
  unfold spec_PlainOf.f
  have h := PL_sl s hs s.size 0 [] (by omega) (by simp)
  rw [List.nil_append, PL_nums] at h
  exact h
theorem PL_iev (s : ByteArray) (hs : s.size ≤ 100000000000000) : impl_PlainOf.f s = some ⟨(impl_PlainOf.plain s.data.toList).toArray⟩ := if_pos (by omega)

/-- What a label's text becomes. -/
def plainB (a : ByteArray) : ByteArray := ⟨(impl_PlainOf.plain a.data.toList).toArray⟩
def likeB (ba bb : Bool) (a b : ByteArray) : Bool := ba && (bb && ((plainB a).toList == (plainB b).toList))
theorem LL_sev (a b : ByteArray) (ha : a.size ≤ 100000000000000) (hb : b.size ≤ 100000000000000) (ba bb : Bool) (h1 : ba = true ↔ isLab a) (h2 : bb = true ↔ isLab b) : Ev (fun k => spec_LooksLike.f k a b) (likeB ba bb a b) := by
  unfold spec_LooksLike.f likeB
  refine ev_bind (IsLabel_sev a (by omega) ba h1) (ev_dec (fun h => ?_) (fun h => ?_))
  · rw [h, Bool.true_and]
    refine ev_bind (IsLabel_sev b (by omega) bb h2) (ev_dec (fun h => ?_) (fun h => ?_))
    · rw [h, Bool.true_and]
      exact ev_bind (PL_sev a ha) (ev_bind (PL_sev b hb) (ev_const rfl))
    · rw [show bb = false from by simpa using h, Bool.false_and]
      exact ev_const rfl
  · rw [show ba = false from by simpa using h, Bool.false_and]
    exact ev_const rfl
theorem LL_iev (a b : ByteArray) (ha : a.size ≤ 100000000000000) (hb : b.size ≤ 100000000000000) (ba bb : Bool) (h1 : ba = true ↔ isLab a) (h2 : bb = true ↔ isLab b) : Ev (fun k => impl_LooksLike.f k a b) (likeB ba bb a b) := by
  unfold impl_LooksLike.f likeB
  refine ev_bind (IsLabel_iev a (by omega) ba h1) (ev_dec (fun h => ?_) (fun h => ?_))
  · rw [h, Bool.true_and]
    refine ev_bind (IsLabel_iev b (by omega) bb h2) (ev_dec (fun h => ?_) (fun h => ?_))
    · rw [h, Bool.true_and]
      exact ev_bindc (PL_iev a ha) (ev_bindc (PL_iev b hb) (ev_const rfl))
    · rw [show bb = false from by simpa using h, Bool.false_and]
      exact ev_const rfl
  · rw [show ba = false from by simpa using h, Bool.false_and]
    exact ev_const rfl

noncomputable def labB (a : ByteArray) : Bool := @decide (isLab a) (Classical.propDecidable _)
theorem labB_iff (a : ByteArray) : labB a = true ↔ isLab a := @decide_eq_true_iff _ (Classical.propDecidable _)
/-- Do two strings look alike. -/
noncomputable def lk (a b : ByteArray) : Bool := likeB (labB a) (labB b) a b
theorem LK_sev (a b : ByteArray) (ha : a.size ≤ 100000000000000) (hb : b.size ≤ 100000000000000) : Ev (fun k => spec_LooksLike.f k a b) (lk a b) := LL_sev a b ha hb _ _ (labB_iff _) (labB_iff _)
theorem LK_iev (a b : ByteArray) (ha : a.size ≤ 100000000000000) (hb : b.size ≤ 100000000000000) : Ev (fun k => impl_LooksLike.f k a b) (lk a b) := LL_iev a b ha hb _ _ (labB_iff _) (labB_iff _)
/-- The first place, from i on, whose string looks like a. -/
noncomputable def faL (a : ByteArray) : List ByteArray → Nat → Int
  | [], _ => -1
  | s :: l, i => if lk s a = true then (i : Int) else faL a l (i + 1)
theorem FA_il (a : ByteArray) (ha : a.size ≤ 1000000000000) : ∀ (x : List ByteArray) (i : Nat), (∀ s ∈ x, s.size ≤ 1000000000000) → Ev (fun k => impl_FirstAlike.at_ k a x i) (faL a x i)
  | [], _, _ => ev_const rfl
  | s :: l, i, hs => by
    have hz := hs s (by simp)
    simp only [impl_FirstAlike.at_, faL]
    refine ev_bind (LK_iev s a (by omega) (by omega)) (ev_dec (fun h => ?_) (fun h => ?_))
    · rw [if_pos h]
      exact ev_const rfl
    · rw [if_neg h]
      exact FA_il a ha l (i + 1) (fun t ht => hs t (by simp [ht]))
theorem FA_iev (x : List ByteArray) (a : ByteArray) (hx : x.length ≤ 1000000000000) (hs : ∀ s ∈ x, s.size ≤ 1000000000000) (ha : a.size ≤ 1000000000000) : Ev (fun k => impl_FirstAlike.f k x a) (faL a x 0) := by
  unfold impl_FirstAlike.f
  exact ev_pos (by omega) (FA_il a ha x 0 hs)

theorem BytesToInts_sl (x : List Int) (hx : x.length ≤ 1000000000000) (hw : ∀ v ∈ x, 0 ≤ v ∧ v ≤ 255) : ∀ (m i : Nat), i + m = x.length → Ev (fun k => spec_BytesToInts.l0 k x ((x.length : Int) :: x.take i) (i : Int)) ((x.length : Int) :: x) := by
  intro m
  induction m with
  | zero =>
    intro i hi
    refine ev_step ?_
    simp only [spec_BytesToInts.l0]
    rw [List.take_of_length_le (by omega)]
    exact ev_neg (by omega) (ev_const rfl)
  | succ m ih =>
    intro i hi
    have hlt : i < x.length := by omega
    have hv := hw x[i] (List.getElem_mem hlt)
    refine ev_step ?_
    simp only [spec_BytesToInts.l0]
    refine ev_pos (by omega) (ev_pos (by omega) (ev_pos (by simp; omega) ?_))
    rw [w64s (n := x.length) hlt (by omega), rd_at x i hlt, w64 (i := x[i]) (by omega) (by omega)]
    have h := ih (i + 1) (by omega)
    rw [List.take_succ_eq_append_getElem hlt] at h
    exact h
theorem BytesToInts_sev (x : List Int) (hx : x.length ≤ 1000000000000) (hw : ∀ v ∈ x, 0 ≤ v ∧ v ≤ 255) : Ev (fun k => spec_BytesToInts.f k x) ((x.length : Int) :: x) := by
  unfold spec_BytesToInts.f
  exact BytesToInts_sl x hx hw x.length 0 (by omega)
theorem BytesToInts_il (x : List Int) (hx : x.length ≤ 1000000000000) (hw : ∀ v ∈ x, 0 ≤ v ∧ v ≤ 255) : ∀ (m i : Nat), i + m = x.length → Ev (fun k => impl_BytesToInts.l0 k ((x.length : Int) :: x.take i) x (x.length : Int) (i : Int)) ((x.length : Int) :: x) := by
  intro m
  induction m with
  | zero =>
    intro i hi
    refine ev_step ?_
    simp only [impl_BytesToInts.l0]
    rw [List.take_of_length_le (by omega)]
    exact ev_neg (by omega) (ev_const rfl)
  | succ m ih =>
    intro i hi
    have hlt : i < x.length := by omega
    have hv := hw x[i] (List.getElem_mem hlt)
    refine ev_step ?_
    simp only [impl_BytesToInts.l0]
    refine ev_pos (by omega) (ev_pos (by omega) (ev_pos (by omega) (ev_pos (by simp; omega) ?_)))
    rw [w64s (n := x.length) hlt (by omega), rd_at x i hlt, w64 (i := x[i]) (by omega) (by omega)]
    have h := ih (i + 1) (by omega)
    rw [List.take_succ_eq_append_getElem hlt] at h
    exact h
theorem BytesToInts_iev (x : List Int) (hx : x.length ≤ 1000000000000) (hw : ∀ v ∈ x, 0 ≤ v ∧ v ≤ 255) : Ev (fun k => impl_BytesToInts.f k x) ((x.length : Int) :: x) := by
  unfold impl_BytesToInts.f
  exact BytesToInts_il x hx hw x.length 0 (by omega)

theorem LabelInts_rg (a : ByteArray) : ∀ v ∈ bytesOf a, 0 ≤ v ∧ v ≤ 255 := by
  intro v hv
  unfold bytesOf at hv
  simp only [List.mem_map] at hv
  obtain ⟨b, _, rfl⟩ := hv
  have := b.toNat_lt
  omega

theorem LabelInts_sev (a : ByteArray) (h : a.size ≤ 1000000000000) : Ev (fun k => spec_LabelInts.f k a) ((a.size : Int) :: bytesOf a) := by
  unfold spec_LabelInts.f
  have e := BytesToInts_sev (bytesOf a) (by rw [bytesOf_length]; omega) (LabelInts_rg a)
  rw [bytesOf_length] at e
  exact ev_pos (by omega) e
theorem LabelInts_iev (a : ByteArray) (h : a.size ≤ 1000000000000) : Ev (fun k => impl_LabelInts.f k a) ((a.size : Int) :: bytesOf a) := by
  unfold impl_LabelInts.f
  have e := BytesToInts_iev (bytesOf a) (by rw [bytesOf_length]; omega) (LabelInts_rg a)
  rw [bytesOf_length] at e
  exact ev_pos (by omega) e

theorem sameInts_ev (x y : List Int) (hx : x.length ≤ 9223372036854775806) (b : Bool) (hb : b = true ↔ x = y) : Ev (fun k => laws_sameInts.f k x y) b := by
  unfold laws_sameInts.f
  refine ev_dec (fun h => ?_) (fun h => ?_)
  · exact eq_loop (L := laws_sameInts.l0) (c := fun x y i => rd x i = rd y i) (fun _ _ _ _ => rfl) (fun x y i h h' => by rw [rd_at x i h, rd_at y i h']) x y hx (by omega) b x.length 0 (by omega) (by simpa using hb)
  · have e : b = false := by
      rw [Bool.eq_false_iff]
      intro z
      exact h (by rw [hb.mp z])
    subst e
    exact ev_const rfl
theorem sameInts_refl (x : List Int) (hx : x.length ≤ 9223372036854775806) : Ev (fun k => laws_sameInts.f k x x) true := sameInts_ev x x hx true (by simp)

theorem cmp_anti : ∀ a b : List UInt8, Lib.compareBytes a b = - Lib.compareBytes b a
  | [], [] => rfl
  | [], _ :: _ => rfl
  | _ :: _, [] => rfl
  | a :: x, b :: y => by
    have ih := cmp_anti x y
    simp only [Lib.compareBytes]
    by_cases h1 : a < b
    · have h2 : ¬ b < a := fun h => by rw [UInt8.lt_iff_toNat_lt] at *; omega
      rw [if_pos h1, if_neg h2, if_pos h1]
    · by_cases h2 : b < a
      · rw [if_neg h1, if_pos h2, if_pos h2]; rfl
      · rw [if_neg h1, if_neg h2, if_neg h2, if_neg h1]; exact ih
theorem cmp_rg : ∀ a b : List UInt8, -1 ≤ Lib.compareBytes a b ∧ Lib.compareBytes a b ≤ 1
  | [], [] => by simp [Lib.compareBytes]
  | [], _ :: _ => by simp [Lib.compareBytes]
  | _ :: _, [] => by simp [Lib.compareBytes]
  | a :: x, b :: y => by
    have ih := cmp_rg x y
    simp only [Lib.compareBytes]
    split
    · omega
    · split
      · omega
      · exact ih
theorem plain_nokey : ∀ l : List UInt8, (impl_PlainOf.plain l).any impl_PlainOf.keyB = false
  | [] => rfl
  | c :: l => by
    have ih := plain_nokey l
    have ho : (impl_PlainOf.outC c).any impl_PlainOf.keyB = false := by
      cases hk : impl_PlainOf.keyB c with
      | false => rw [impl_PlainOf.out_other c hk, List.any_cons, hk]; rfl
      | true =>
        unfold impl_PlainOf.outC
        split
        · rfl
        · split
          · rfl
          · split
            · rfl
            · split
              · rfl
              · rename_i h1 h2 h3 h4
                unfold impl_PlainOf.keyB at hk
                simp [h1, h2, h3, h4] at hk
    simp only [impl_PlainOf.plain, List.flatMap_cons, List.any_append] at *
    rw [ho, ih]
    rfl
theorem plain_twice (l : List UInt8) : impl_PlainOf.plain (impl_PlainOf.plain l) = impl_PlainOf.plain l := impl_PlainOf.plain_none _ (plain_nokey l)
theorem likeB_symm (x y : Bool) (a b : ByteArray) : likeB x y a b = likeB y x b a := by
  unfold likeB
  have e : ((plainB a).toList == (plainB b).toList) = ((plainB b).toList == (plainB a).toList) := by
    rw [Bool.eq_iff_iff, beq_iff_eq, beq_iff_eq]
    exact ⟨Eq.symm, Eq.symm⟩
  rw [e]
  cases x <;> cases y <;> rfl
theorem likeB_self (x : Bool) (a : ByteArray) : likeB x x a a = x := by
  unfold likeB
  cases x <;> simp
theorem plain_size (s : ByteArray) : (plainB s).size ≤ s.size := by
  have h := impl_PlainOf.plain_le s.data.toList
  rw [data_length] at h
  have e : (plainB s).size = (impl_PlainOf.plain s.data.toList).length := by
    show (impl_PlainOf.plain s.data.toList).toArray.size = _
    simp
  omega
theorem DrawLooksLike_ok (l : List Int) (hl : l.length ≤ 1000000000000000000) : ∃ a b, Ev (fun k => spec_DrawLooksLike.f k l) (a, b) ∧ a.size ≤ 100 ∧ b.size ≤ 100 := by
  obtain ⟨h1, e1⟩ := l1New_ok l hl
  obtain ⟨a, i2, h2, e2, ma, c2⟩ := l4Any_ok l 0 h1 hl (by omega)
  obtain ⟨q, i3, h3, e3, c3⟩ := l1Once_ok l i2 h2 3 hl c2
  unfold spec_DrawLooksLike.f
  cases q with
  | true => exact ⟨a, plainB a, ev_bind e1 (ev_bindc e2 (ev_bindc e3 (ev_pos rfl (ev_bind (PL_sev a (by omega)) (ev_const rfl))))), ma, by have := plain_size a; omega⟩
  | false =>
    obtain ⟨b, i4, h4, e4, mb, c4⟩ := l4Any_ok l i3 h3 hl c3
    exact ⟨a, b, ev_bind e1 (ev_bindc e2 (ev_bindc e3 (ev_neg (by simp) (ev_bindc e4 (ev_const rfl))))), ma, mb⟩
theorem DrawFA_l (l : List Int) (hl : l.length ≤ 1000000000000000000) : ∀ (d : Nat) (out : List ByteArray) (i h : Int), 0 ≤ i → d ≤ 1000 → out.length + d ≤ 1000 → (∀ s ∈ out, s.size ≤ 100) → ∃ x s, Ev (fun k => spec_DrawFirstAlike.l0 k out (d : Int) l i h) (x, s) ∧ x.length ≤ 1000 ∧ (∀ s ∈ x, s.size ≤ 100) ∧ s.size ≤ 100 := by
  intro d
  induction d with
  | zero =>
    intro out i h hi _ ho hs
    obtain ⟨s, i1, h1, e, m, c⟩ := l4Any_ok l i h hl hi
    refine ⟨out, s, ev_step ?_, by omega, hs, m⟩
    simp only [spec_DrawFirstAlike.l0]
    exact ev_neg (by simp) (ev_bindc e (ev_const rfl))
  | succ d ih =>
    intro out i h hi hd ho hs
    obtain ⟨s, i1, h1, e, m, c⟩ := l4Any_ok l i h hl hi
    obtain ⟨x, t, e2, q1, q2, q3⟩ := ih (out ++ [s]) i1 h1 c (by omega) (by simp; omega) (fun z hz => by
      rcases List.mem_append.1 hz with hz | hz
      · exact hs z hz
      · rw [List.mem_singleton.1 hz]; exact m)
    refine ⟨x, t, ev_step ?_, q1, q2, q3⟩
    simp only [spec_DrawFirstAlike.l0]
    refine ev_pos (by omega) (ev_bindc e (ev_pos (by omega) ?_))
    rw [w64 (i := ((d + 1 : Nat) : Int) - 1) (by omega) (by omega), show ((d + 1 : Nat) : Int) - 1 = (d : Int) from by omega]
    exact e2
theorem DrawFA_ok (l : List Int) (hl : l.length ≤ 1000000000000000000) : ∃ x s, Ev (fun k => spec_DrawFirstAlike.f k l) (x, s) ∧ x.length ≤ 1000 ∧ (∀ s ∈ x, s.size ≤ 100) ∧ s.size ≤ 100 := by
  obtain ⟨h1, e1⟩ := l1New_ok l hl
  obtain ⟨n, i2, h2, e2, p, q, _, c⟩ := l1Below_ok l 0 h1 5 hl (by omega)
  have q' := q (by omega)
  obtain ⟨m, rfl⟩ := Int.eq_ofNat_of_zero_le p
  obtain ⟨x, s, e3, r⟩ := DrawFA_l l hl m [] i2 h2 c (by omega) (by simp; omega) (by simp)
  unfold spec_DrawFirstAlike.f
  exact ⟨x, s, ev_bind e1 (ev_bindc e2 e3), r⟩
theorem faL_rg (a : ByteArray) : ∀ (x : List ByteArray) (i : Nat), faL a x i = -1 ∧ (∀ s ∈ x, lk s a = false) ∨ ∃ j : Nat, faL a x i = ((i + j : Nat) : Int) ∧ ∃ h : j < x.length, lk x[j] a = true ∧ ∀ m : Nat, (h2 : m < j) → lk (x[m]'(by omega)) a = false
  | [], _ => Or.inl ⟨rfl, by simp⟩
  | s :: l, i => by
    simp only [faL]
    by_cases hk : lk s a = true
    · rw [if_pos hk]
      exact Or.inr ⟨0, rfl, by simp, by simpa using hk, fun m hm => by omega⟩
    · rw [if_neg hk]
      have hk' : lk s a = false := by simpa using hk
      rcases faL_rg a l (i + 1) with ⟨h1, h2⟩ | ⟨j, h1, h, h2, h3⟩
      · exact Or.inl ⟨h1, fun t ht => by
          rcases List.mem_cons.1 ht with rfl | ht
          · exact hk'
          · exact h2 t ht⟩
      · refine Or.inr ⟨j + 1, by rw [h1]; omega, by simp; omega, by simpa using h2, fun m hm => ?_⟩
        cases m with
        | zero => simpa using hk'
        | succ m => simpa using h3 m (by omega)
theorem FnLabels_tail (a b : ByteArray) (ha : a.size ≤ 100) (hb : b.size ≤ 100) (x : List ByteArray) (s : ByteArray) (hx : x.length ≤ 1000) (hs : ∀ t ∈ x, t.size ≤ 100) (hz : s.size ≤ 100) (k : Int) (hk : ∀ m : Nat, (h : m < x.length) → (k < 0 ∨ (m : Int) < k) → lk x[m] s = false) : ∀ (d i : Nat), i + d = x.length → Ev (fun q => laws_FnLabels.l0 q a b x s k (i : Int)) true := by
  intro d
  induction d with
  | zero =>
    intro i hi
    refine ev_step ?_
    simp only [laws_FnLabels.l0]
    refine ev_neg (by omega) ?_
    have l1 := IsLabel_iev a (by omega) (labB a) (labB_iff a)
    have l2 := IsLabel_sev a (by omega) (labB a) (labB_iff a)
    have l3 := LK_iev a b (by omega) (by omega)
    have l4 := LK_sev a b (by omega) (by omega)
    have l5 := LK_iev b a (by omega) (by omega)
    have l6 := LK_iev a a (by omega) (by omega)
    have e1 : lk b a = lk a b := likeB_symm _ _ _ _
    have e2 : lk a a = labB a := likeB_self _ _
    rw [e1] at l5
    rw [e2] at l6
    have p1 := PL_iev a (by omega)
    have p2 : impl_PlainOf.f (plainB a) = some (plainB a) := by
      rw [PL_iev (plainB a) (by have := plain_size a; omega)]
      unfold plainB
      rw [plain_twice]
    have i1 := LabelInts_iev a (by omega)
    have i2 := LabelInts_sev a (by omega)
    have c1 : impl_CompareLabels.f a b = some (Lib.compareBytes a.data.toList b.data.toList) := rfl
    have c2 : impl_CompareLabels.f b a = some (Lib.compareBytes b.data.toList a.data.toList) := rfl
    have cr := cmp_rg b.data.toList a.data.toList
    refine ev_bind l1 (ev_bind l2 (ev_pos (by simp) (ev_bind l3 (ev_bind l4 (ev_pos (by simp) (ev_bind l3 (ev_bind l5 (ev_pos (by simp) (ev_bind l6 (ev_bind l1 (ev_pos (by simp) ?_)))))))))))
    refine ev_bindc c1 (ev_bindc c2 (ev_pos ?_ (ev_bindc p1 (ev_bindc p2 (ev_bindc p1 (ev_pos rfl (ev_bind i1 (ev_bind i2 (ev_bind (sameInts_refl _ ?_) (ev_const rfl))))))))))
    · rw [w64 (by omega) (by omega)]
      exact cmp_anti _ _
    · rw [List.length_cons, bytesOf_length]
      omega
  | succ d ih =>
    intro i hi
    have hlt : i < x.length := by omega
    have hi8 := hs x[i] (List.getElem_mem hlt)
    have lq := LK_iev x[i] s (by omega) (by omega)
    have nx := ih (i + 1) (by omega)
    refine ev_step ?_
    simp only [laws_FnLabels.l0]
    rw [rdOf_at _ x i hlt, w64s (n := x.length) hlt (by omega)]
    refine ev_pos (by omega) (ev_dec (fun h => ?_) (fun h => ?_))
    · rw [hk i hlt (Or.inl h)] at lq
      exact ev_pos (by omega) (ev_bind lq (ev_neg (by simp) nx))
    · refine ev_dec (fun h2 => ?_) (fun h2 => nx)
      rw [hk i hlt (Or.inr h2)] at lq
      exact ev_pos (by omega) (ev_bind lq (ev_neg (by simp) nx))
end OfFnLabels
open OfFnLabels in
theorem FnLabels : laws_FnLabels.Pure := by
  intro l _ hb _
  apply Ev.rounds
  unfold laws_FnLabels.f laws_big.f
  refine ev_bindc rfl (ev_dec (fun _ => ev_const rfl) (fun h0 => ?_))
  have hl : l.length ≤ 1000000000000000000 := by omega
  obtain ⟨a, b, e1, ha, hb2⟩ := DrawLooksLike_ok l hl
  obtain ⟨x, s, e2, hx, hs, hz⟩ := DrawFA_ok l hl
  have f := FA_iev x s (by omega) (fun t ht => by have := hs t ht; omega) (by omega)
  refine ev_bind e1 (ev_bind e2 (ev_bind f ?_))
  simp only []
  rcases faL_rg s x 0 with ⟨h1, h2⟩ | ⟨j, h1, h, h2, h3⟩
  · rw [h1]
    refine ev_neg (by omega) (ev_neg (by omega) (ev_step ?_))
    simp only [laws_FnLabels.j0]
    exact ev_neg (by simp) (FnLabels_tail a b ha hb2 x s hx hs hz (-1) (fun m hm _ => h2 _ (List.getElem_mem hm)) x.length 0 (by omega))
  · rw [h1, Nat.zero_add]
    have hj8 := hs x[j] (List.getElem_mem h)
    have lq := LK_iev x[j] s (by omega) (by omega)
    rw [h2] at lq
    refine ev_neg (by omega) (ev_pos (by omega) (ev_pos (by omega) (ev_pos (by omega) ?_)))
    rw [rdOf_at _ x j h]
    refine ev_bind lq (ev_step ?_)
    simp only [laws_FnLabels.j0]
    exact ev_neg (by simp) (FnLabels_tail a b ha hb2 x s hx hs hz j (fun m hm q => h3 m (by omega)) x.length 0 (by omega))
end Go.Proofs.YtnkgglihlmileaaGreat.Pure
