/- The pure statement of FnIntegers: what the printed functions compute answers true for all arguments within the printed bounds. -/
import Derived.Test.YtmfcfgcohjdclaaDoorPFnIntegersx3
import Derived.Test.YtmfcfgcohjdclaaDoorKit
namespace Go.Proofs.YtmfcfgcohjdclaaDoor.Pure
open Go.RowKit Go.Proofs.YtmfcfgcohjdclaaDoor.PFnIntegers Go.Proofs.YtmfcfgcohjdclaaDoorW.PrintWords Go.Proofs.YtmfcfgcohjdclaaDoorW.PrintLast Go.Proofs.YtmfcfgcohjdclaaDoor.Kit
set_option linter.unusedVariables false
set_option linter.unusedSimpArgs false
namespace OfFnIntegers
theorem l1New_ok (b : List Int) (hb : b.length ≤ 1000000000000000000) : ∃ h, Ev (fun k => spec_l1New.f k b) (b, 0, h) := by
  have key : ∀ (m i : Nat) (h : Int), i + m = b.length → ∃ h', Ev (fun k => spec_l1New.l0 k b h (i : Int)) (b, 0, h') := by
    intro m
    induction m with
    | zero =>
      intro i h hi
      refine ⟨h, ev_step ?_⟩
      simp only [spec_l1New.l0]
      exact ev_neg (by omega) (ev_const rfl)
    | succ m ih =>
      intro i h hi
      by_cases h4 : (i : Int) < 4000
      · obtain ⟨h', e⟩ := ih (i + 1) (Go.bits .and .i64 (wrap64 ((wrap64 ((wrap64 (h * 137)) + (wrap64 (rd b (i : Int))))) + 11)) 1073741823) (by omega)
        refine ⟨h', ev_step ?_⟩
        simp only [spec_l1New.l0]
        rw [w64s (n := b.length) (by omega) (by omega)]
        exact ev_pos (by omega) (ev_pos h4 (ev_pos (by omega) e))
      · refine ⟨h, ev_step ?_⟩
        simp only [spec_l1New.l0]
        exact ev_pos (by omega) (ev_neg h4 (ev_const rfl))
  unfold spec_l1New.f
  exact key b.length 0 _ (by omega)

theorem and255 (x : Int) : 0 ≤ Go.bits .and .i64 x 255 ∧ Go.bits .and .i64 x 255 ≤ 255 := by
  unfold Go.bits
  simp only []
  have h1 : (BitVec.ofInt IntKind.i64.bits x &&& BitVec.ofInt IntKind.i64.bits 255).toNat ≤ 255 := by
    rw [BitVec.toNat_and]
    exact Nat.le_trans Nat.and_le_right (by decide)
  generalize (BitVec.ofInt IntKind.i64.bits x &&& BitVec.ofInt IntKind.i64.bits 255).toNat = n at h1
  rw [IntKind.wrap_i64]
  omega

/-- The drawing of bytes and of what is made of them: each draw ends, and its values lie where they should. The reader's place i never is below 0. -/
theorem l1Byte_ok (b : List Int) (i h : Int) (hb : b.length ≤ 1000000000000000000) (hi : 0 ≤ i) : ∃ x i' h', spec_l1Byte.f b i h = some (x, i', h') ∧ 0 ≤ x ∧ x ≤ 255 ∧ 0 ≤ i' := by
  unfold spec_l1Byte.f
  by_cases h1 : i < (b.length : Int)
  · rw [if_pos h1, if_pos hi]
    exact ⟨_, _, _, rfl, (and255 _).1, (and255 _).2, by rw [w64 (by omega) (by omega)]; omega⟩
  · rw [if_neg h1]
    exact ⟨_, _, _, rfl, (and255 _).1, (and255 _).2, hi⟩
theorem l1Below_ok (b : List Int) (i h n : Int) (hb : b.length ≤ 1000000000000000000) (hi : 0 ≤ i) : ∃ x i' h', spec_l1Below.f b i h n = some (x, i', h') ∧ 0 ≤ x ∧ (0 < n → x < n) ∧ (n ≤ 0 → x = 0) ∧ 0 ≤ i' := by
  unfold spec_l1Below.f
  by_cases h1 : n ≤ 0
  · rw [if_pos h1]
    exact ⟨_, _, _, rfl, by omega, by omega, by omega, hi⟩
  · rw [if_neg h1]
    obtain ⟨x1, i1, h1', e1, a1, b1, c1⟩ := l1Byte_ok b i h hb hi
    by_cases h2 : n ≤ 256
    · rw [if_pos h2, e1, Option.bind_some, if_neg (by omega)]
      exact ⟨_, _, _, rfl, Int.tmod_nonneg _ a1, fun _ => Int.tmod_lt_of_pos _ (by omega), by omega, c1⟩
    · obtain ⟨x2, i2, h2', e2, a2, b2, c2⟩ := l1Byte_ok b i1 h1' hb c1
      obtain ⟨x3, i3, h3', e3, a3, b3, c3⟩ := l1Byte_ok b i2 h2' hb c2
      rw [if_neg h2, e1, Option.bind_some, e2, Option.bind_some, e3, Option.bind_some, if_neg (by omega)]
      refine ⟨_, _, _, rfl, ?_, fun _ => Int.tmod_lt_of_pos _ (by omega), by omega, c3⟩
      simp only []
      rw [w64 (i := x1 * 65536) (by omega) (by omega), w64 (i := x2 * 256) (by omega) (by omega), w64 (i := x1 * 65536 + x2 * 256) (by omega) (by omega), w64 (i := x1 * 65536 + x2 * 256 + x3) (by omega) (by omega)]
      exact Int.tmod_nonneg _ (by omega)

theorem l1Int_ok (b : List Int) (i h : Int) (l : List Int) (hb : b.length ≤ 1000000000000000000) (hi : 0 ≤ i) (hl : 0 < l.length) : ∃ x i' h', spec_l1Int.f b i h l = some (x, i', h') ∧ x ∈ l ∧ 0 ≤ i' := by
  obtain ⟨x, i1, h1, e, p, q, _, c⟩ := l1Below_ok b i h (l.length : Int) hb hi
  have q' := q (by omega)
  unfold spec_l1Int.f
  rw [e, Option.bind_some, if_pos p, if_pos q']
  refine ⟨_, _, _, rfl, ?_, c⟩
  obtain ⟨m, rfl⟩ := Int.eq_ofNat_of_zero_le p
  rw [rd_at l m (by omega)]
  exact List.getElem_mem _

theorem l1Num_ok (b : List Int) (i h : Int) (hb : b.length ≤ 1000000000000000000) (hi : 0 ≤ i) : ∃ x i' h', spec_l1Num.f b i h = some (x, i', h') ∧ 0 ≤ x ∧ x ≤ 1000000000000 ∧ 0 ≤ i' := by
  unfold spec_l1Num.f
  obtain ⟨x, i1, h1, e, p, q, _, c⟩ := l1Below_ok b i h 4 hb hi
  rw [e, Option.bind_some]
  simp only []
  by_cases c0 : x = 0
  · obtain ⟨y, i2, h2, e2, p2, q2, _, c2⟩ := l1Below_ok b i1 h1 2000 hb c
    rw [if_pos c0, e2, Option.bind_some]
    exact ⟨_, _, _, rfl, p2, by simp only []; omega, c2⟩
  rw [if_neg c0]
  by_cases c1 : x = 1
  · obtain ⟨y, i2, h2, e2, p2, c2⟩ := l1Int_ok b i1 h1 [0, 1, 127, 128, 2147483646, 2147483647, 1000000000000] hb c (by simp)
    rw [if_pos c1, e2, Option.bind_some]
    simp at p2
    exact ⟨_, _, _, rfl, by simp only []; omega, by simp only []; omega, c2⟩
  rw [if_neg c1]
  by_cases c2 : x = 2
  · obtain ⟨y, i2, h2, e2, p2, q2, _, c3⟩ := l1Below_ok b i1 h1 1000000 hb c
    obtain ⟨z, i3, h3, e3, p3, q3, _, c4⟩ := l1Below_ok b i2 h2 1000000 hb c3
    rw [if_pos c2, e2, Option.bind_some, e3, Option.bind_some]
    have hm : y * z ≤ 999999 * 999999 := Int.mul_le_mul (by omega) (by omega) p3 (by omega)
    have hm0 : 0 ≤ y * z := Int.mul_nonneg p2 p3
    exact ⟨_, _, _, rfl, by simp only []; rw [w64 (i := y * z) (by omega) (by omega)]; exact hm0, by simp only []; rw [w64 (i := y * z) (by omega) (by omega)]; omega, c4⟩
  · obtain ⟨y, i2, h2, e2, p2, q2, _, c3⟩ := l1Below_ok b i1 h1 20 hb c
    rw [if_neg c2, e2, Option.bind_some]
    exact ⟨_, _, _, rfl, p2, by simp only []; omega, c3⟩

theorem l1Once_ok (b : List Int) (i h n : Int) (hb : b.length ≤ 1000000000000000000) (hi : 0 ≤ i) : ∃ (x : Bool) (i' h' : Int), spec_l1Once.f b i h n = some (x, i', h') ∧ 0 ≤ i' := by
  obtain ⟨x, i1, h1, e, _, _, _, c⟩ := l1Below_ok b i h n hb hi
  unfold spec_l1Once.f
  rw [e, Option.bind_some]
  exact ⟨_, _, _, rfl, c⟩

theorem l1Odd_ok (b : List Int) (i h : Int) (hb : b.length ≤ 1000000000000000000) (hi : 0 ≤ i) : ∃ x i' h', spec_l1Odd.f b i h = some (x, i', h') ∧ -9223372036854775808 ≤ x ∧ x ≤ 9223372036854775807 ∧ 0 ≤ i' := by
  unfold spec_l1Odd.f
  obtain ⟨y, i2, h2, e2, p2, c2⟩ := l1Int_ok b i h [(-1), 0, 1, 2, 255, 256, 65535, 2147483647, 2147483648, 4294967295, 4294967296, (-2147483648), 9223372036854775807, (-9223372036854775808)] hb hi (by simp)
  rw [e2, Option.bind_some]
  simp at p2
  exact ⟨_, _, _, rfl, by simp only []; omega, by simp only []; omega, c2⟩
theorem l1Raw_ok (b : List Int) (i h : Int) (hb : b.length ≤ 1000000000000000000) (hi : 0 ≤ i) : ∃ x i' h', spec_l1Raw.f b i h = some (x, i', h') ∧ -9223372036854775808 ≤ x ∧ x ≤ 9223372036854775807 ∧ 0 ≤ i' := by
  unfold spec_l1Raw.f
  obtain ⟨q, i1, h1, e1, c1⟩ := l1Once_ok b i h 2 hb hi
  rw [e1, Option.bind_some]
  simp only []
  cases q with
  | true =>
    obtain ⟨x, i2, h2, e2, p, r, c⟩ := l1Odd_ok b i1 h1 hb c1
    rw [if_pos rfl, e2, Option.bind_some]
    exact ⟨_, _, _, rfl, p, r, c⟩
  | false =>
    obtain ⟨y, i2, h2, e2, p2, c2⟩ := l1Int_ok b i1 h1 [(-1), 1000000000000, 1000000000001] hb c1 (by simp)
    rw [if_neg (by simp), e2, Option.bind_some]
    simp at p2
    exact ⟨_, _, _, rfl, by simp only []; omega, by simp only []; omega, c2⟩
theorem l1One_ok (b : List Int) (i h : Int) (hb : b.length ≤ 1000000000000000000) (hi : 0 ≤ i) : ∃ x i' h', spec_l1One.f b i h = some (x, i', h') ∧ -9223372036854775808 ≤ x ∧ x ≤ 9223372036854775807 ∧ 0 ≤ i' := by
  unfold spec_l1One.f
  obtain ⟨q, i1, h1, e1, c1⟩ := l1Once_ok b i h 6 hb hi
  rw [e1, Option.bind_some]
  simp only []
  cases q with
  | true =>
    obtain ⟨x, i2, h2, e2, p, r, c⟩ := l1Raw_ok b i1 h1 hb c1
    rw [if_pos rfl, e2, Option.bind_some]
    exact ⟨_, _, _, rfl, p, r, c⟩
  | false =>
    obtain ⟨x, i2, h2, e2, p, r, c⟩ := l1Num_ok b i1 h1 hb c1
    rw [if_neg (by simp), e2, Option.bind_some]
    exact ⟨_, _, _, rfl, by simp only []; omega, by simp only []; omega, c⟩

theorem l1Str_ok (b : List Int) (i h : Int) (l : List ByteArray) (hb : b.length ≤ 1000000000000000000) (hi : 0 ≤ i) (hl : 0 < l.length) : ∃ x i' h', spec_l1Str.f b i h l = some (x, i', h') ∧ x ∈ l ∧ 0 ≤ i' := by
  obtain ⟨x, i1, h1, e, p, q, _, c⟩ := l1Below_ok b i h (l.length : Int) hb hi
  have q' := q (by omega)
  unfold spec_l1Str.f
  rw [e, Option.bind_some, if_pos p, if_pos q']
  refine ⟨_, _, _, rfl, ?_, c⟩
  obtain ⟨m, rfl⟩ := Int.eq_ofNat_of_zero_le p
  rw [rdOf_at _ l m (by omega)]
  exact List.getElem_mem _

theorem FI_digit (u : Nat) : (strOfNums [((48 + u % 10 : Nat) : Int)]).data.toList = [UInt8.ofNat (48 + u % 10)] := by
  rw [strOfNums_data]
  simp only [List.map_cons, List.map_nil, Int.toNat_natCast]
theorem FI_l (x0 : Int) : ∀ (d u : Nat) (x4 : Int) (x3 : ByteArray), 1 ≤ u → u < 10 ^ d → (x4 = (u : Int) ∨ x4 = -(u : Int)) → u ≤ 9223372036854775808 → x3.size + d ≤ 100 →
    ∃ r, Ev (fun k => spec_FormatInt.l0 k x0 x3 x4) r ∧ r.data.toList = (if x0 < 0 then [45] else []) ++ (Lib.decDigits u ++ x3.data.toList) := by
  intro d
  induction d with
  | zero => intro u _ _ h1 h2; simp at h2; omega
  | succ d ih =>
    intro u x4 x3 hu hd hx hb hs
    have hD1 : (strOfNums [((48 + u % 10 : Nat) : Int)]).size = 1 := by rw [strOfNums_size]; rfl
    have hq : ∃ x4' : Int, wrap64 (Int.tdiv x4 10) = x4' ∧ (x4' = ((u / 10 : Nat) : Int) ∨ x4' = -((u / 10 : Nat) : Int)) := by
      rcases hx with rfl | rfl
      · exact ⟨_, rfl, Or.inl (by rw [Int.tdiv_eq_ediv_of_nonneg (by omega), w64 (by omega) (by omega)]; omega)⟩
      · exact ⟨_, rfl, Or.inr (by rw [Int.neg_tdiv, Int.tdiv_eq_ediv_of_nonneg (by omega), w64 (by omega) (by omega)]; omega)⟩
    obtain ⟨x4', hq1, hq2⟩ := hq
    have go : ∀ r, Ev (fun k => spec_FormatInt.l0 k x0 (strOfNums [((48 + u % 10 : Nat) : Int)] ++ x3) x4') r → Ev (fun k => spec_FormatInt.l0 k x0 x3 x4) r := by
      intro r e
      refine ev_step ?_
      simp only [spec_FormatInt.l0]
      rw [hq1]
      refine ev_neg (by rcases hx with rfl | rfl <;> omega) ?_
      have ht : (Int.tmod x4 10 < 0 ∧ (wrap64 (48 + wrap64 (-(Int.tmod x4 10)))) % 256 = ((48 + u % 10 : Nat) : Int)) ∨ (¬ Int.tmod x4 10 < 0 ∧ (wrap64 (48 + Int.tmod x4 10)) % 256 = ((48 + u % 10 : Nat) : Int)) := by
        rcases hx with rfl | rfl
        · right
          rw [Int.tmod_eq_emod_of_nonneg (by omega)]
          refine ⟨by omega, ?_⟩
          rw [w64 (by omega) (by omega)]
          omega
        · rw [Int.neg_tmod, Int.tmod_eq_emod_of_nonneg (by omega)]
          by_cases hz : (u : Int) % 10 = 0
          · right
            refine ⟨by omega, ?_⟩
            rw [w64 (by omega) (by omega)]
            omega
          · left
            refine ⟨by omega, ?_⟩
            rw [w64 (i := -(-((u : Int) % 10))) (by omega) (by omega), w64 (by omega) (by omega)]
            omega
      rcases ht with ⟨h1, h2⟩ | ⟨h1, h2⟩
      · rw [h2]
        exact ev_pos h1 (ev_bindc rfl (ev_pos (by rw [hD1]; omega) e))
      · rw [h2]
        exact ev_neg h1 (ev_bindc rfl (ev_pos (by rw [hD1]; omega) e))
    by_cases h10 : u < 10
    · have hz : x4' = 0 := by rcases hq2 with rfl | rfl <;> omega
      subst hz
      have hdig : Lib.decDigits u = [UInt8.ofNat (48 + u % 10)] := by rw [Lib.decDigits, dif_pos h10, Nat.mod_eq_of_lt h10]
      by_cases hneg : x0 < 0
      · refine ⟨(⟨#[45]⟩ : ByteArray) ++ (strOfNums [((48 + u % 10 : Nat) : Int)] ++ x3), go _ ?_, ?_⟩
        · refine ev_step ?_
          simp only [spec_FormatInt.l0]
          exact ev_pos trivial (ev_pos hneg (ev_pos (by rw [ByteArray.size_append, hD1]; omega) (ev_const rfl)))
        · rw [if_pos hneg, hdig, ByteArray.data_append, ByteArray.data_append, Array.toList_append, Array.toList_append, FI_digit]
      · refine ⟨strOfNums [((48 + u % 10 : Nat) : Int)] ++ x3, go _ ?_, ?_⟩
        · refine ev_step ?_
          simp only [spec_FormatInt.l0]
          exact ev_pos trivial (ev_neg hneg (ev_const rfl))
        · rw [if_neg hneg, hdig, ByteArray.data_append, Array.toList_append, FI_digit]
          rfl
    · obtain ⟨r, e, hr⟩ := ih (u / 10) x4' (strOfNums [((48 + u % 10 : Nat) : Int)] ++ x3) (by omega) (by rw [Nat.div_lt_iff_lt_mul (by omega)]; rw [Nat.pow_succ] at hd; exact hd) hq2 (by omega) (by rw [ByteArray.size_append, hD1]; omega)
      refine ⟨r, go r e, ?_⟩
      have hdig : Lib.decDigits u = Lib.decDigits (u / 10) ++ [UInt8.ofNat (48 + u % 10)] := by rw [Lib.decDigits, dif_neg h10]
      rw [hr, hdig, ByteArray.data_append, Array.toList_append, FI_digit]
      simp
theorem FI_ev (n : Int) (h0 : -9223372036854775808 ≤ n) (h1 : n ≤ 9223372036854775807) : Ev (fun k => spec_FormatInt.f k n) ⟨(Lib.itoa n).toArray⟩ := by
  unfold spec_FormatInt.f
  by_cases hz : n = 0
  · subst hz
    refine ev_pos rfl (ev_const ?_)
    congr 1
    apply Go.WideShapes.bytes_inj
    rw [Lib.itoa, if_neg (by omega), Lib.decDigits, dif_pos (by omega)]
    rfl
  · have hle : n.natAbs ≤ 9223372036854775808 := by omega
    have hlt : n.natAbs < 10 ^ 19 := Nat.lt_of_le_of_lt hle (by decide)
    obtain ⟨r, e, hr⟩ := FI_l n 19 n.natAbs n ⟨#[]⟩ (by omega) hlt (by omega) (by omega) (by decide)
    refine ev_neg hz (ev_eq e ?_)
    apply Go.WideShapes.bytes_inj
    rw [hr, Lib.itoa]
    by_cases hn : n < 0
    · rw [if_pos hn, if_pos hn]
      simp
    · rw [if_neg hn, if_neg hn, show n.natAbs = n.toNat from by omega]
      simp

theorem PI_digit (u : Nat) : ∀ c ∈ Lib.decDigits u, 48 ≤ c.toNat ∧ c.toNat ≤ 57 := by
  induction u using Nat.strongRecOn with
  | _ u ih =>
    intro c hc
    have key : ∀ x : Nat, x < 10 → 48 ≤ (UInt8.ofNat (48 + x)).toNat ∧ (UInt8.ofNat (48 + x)).toNat ≤ 57 := by
      intro x hx
      rw [UInt8.toNat_ofNat']
      omega
    rw [Lib.decDigits] at hc
    split at hc
    · rename_i h
      simp only [List.mem_singleton] at hc
      rw [hc]
      exact key u h
    · rename_i h
      rcases List.mem_append.1 hc with hc | hc
      · exact ih (u / 10) (by omega) c hc
      · simp only [List.mem_singleton] at hc
        rw [hc]
        exact key _ (by omega)
theorem PI_len : ∀ (k u : Nat), u < 10 ^ (k + 1) → (Lib.decDigits u).length ≤ k + 1 := by
  intro k
  induction k with
  | zero =>
    intro u h
    rw [Lib.decDigits, dif_pos (by simpa using h)]
    simp
  | succ k ih =>
    intro u h
    rw [Lib.decDigits]
    split
    · simp
    · have z := ih (u / 10) (by rw [Nat.div_lt_iff_lt_mul (by omega)]; rw [Nat.pow_succ] at h; exact h)
      simp
      omega
theorem PI_pos (u : Nat) : Lib.decDigits u ≠ [] := by
  rw [Lib.decDigits]
  split <;> simp

/-- What digits spell, behind x. -/
def dval (x : Nat) (l : List UInt8) : Nat := l.foldl (fun x c => x * 10 + (c.toNat - 48)) x
theorem dval_dec : ∀ u : Nat, dval 0 (Lib.decDigits u) = u := by
  intro u
  induction u using Nat.strongRecOn with
  | _ u ih =>
    have key : ∀ x : Nat, x < 10 → (UInt8.ofNat (48 + x)).toNat = 48 + x := by
      intro x hx
      rw [UInt8.toNat_ofNat']
      omega
    rw [Lib.decDigits]
    split
    · rename_i h
      simp only [dval, List.foldl_cons, List.foldl_nil]
      rw [key u h]
      omega
    · rename_i h
      have z := ih (u / 10) (by omega)
      unfold dval at z ⊢
      rw [List.foldl_append, z]
      simp only [List.foldl_cons, List.foldl_nil]
      rw [key _ (by omega)]
      omega
theorem dval_le : ∀ (l : List UInt8) (x : Nat), x ≤ dval x l := by
  intro l
  induction l with
  | nil => intro x; exact Nat.le_refl _
  | cons c l ih =>
    intro x
    have := ih (x * 10 + (c.toNat - 48))
    show x ≤ dval (x * 10 + (c.toNat - 48)) l
    omega
theorem parse_dval : ∀ (l : List UInt8) (x : Nat), (∀ c ∈ l, 48 ≤ c.toNat ∧ c.toNat ≤ 57) → dval x l ≤ 1000000000000 → Lib.parseUint10 x l = .ok (dval x l) := by
  intro l
  induction l with
  | nil => intro x _ _; rfl
  | cons c l ih =>
    intro x hd hb
    have hc := hd c (by simp)
    have e : dval x (c :: l) = dval (x * 10 + (c.toNat - 48)) l := rfl
    rw [e] at hb ⊢
    have := dval_le l (x * 10 + (c.toNat - 48))
    rw [Lib.parseUint10, if_pos hc, if_neg (by omega), if_neg (by omega)]
    exact ih _ (fun d h => hd d (by simp [h])) hb
theorem atoi_dec (u : Nat) (h : u ≤ 1000000000000) : Lib.atoiAll (Lib.decDigits u) = .ok (u : Int) := by
  have hp := parse_dval (Lib.decDigits u) 0 (PI_digit u) (by rw [dval_dec]; exact h)
  rw [dval_dec] at hp
  cases hq : Lib.decDigits u with
  | nil => exact absurd hq (PI_pos u)
  | cons c r =>
    have hc := PI_digit u c (by rw [hq]; simp)
    rw [hq] at hp
    unfold Lib.atoiAll
    have h43 : ¬ (c.toNat = 43 ∨ c.toNat = 45) := by omega
    have h45 : ¬ c.toNat = 45 := by omega
    simp only [if_neg h43, Lib.parseMag]
    rw [if_neg (by simp), hp]
    simp only [h45, not_false_eq_true, true_and, false_and, if_false]
    rw [if_neg (by omega)]
theorem itoa_inj (m v : Int) (hv : 0 ≤ v) (h : Lib.itoa v = Lib.itoa m) : m = v := by
  rw [Lib.itoa, if_neg (by omega), Lib.itoa] at h
  split at h
  · have := PI_digit v.toNat 45 (by rw [h]; simp)
    have e : (45 : UInt8).toNat = 45 := rfl
    omega
  · have z := congrArg (dval 0) h
    rw [dval_dec, dval_dec] at z
    omega
/-- A number that is spelt is read back just if it lies in range. -/
theorem v_itoa (m : Int) : impl_ParseInt.v ⟨(Lib.itoa m).toArray⟩ = if 0 ≤ m ∧ m ≤ 1000000000000 then (m, true) else (0, false) := by
  unfold impl_ParseInt.v
  by_cases hm : 0 ≤ m ∧ m ≤ 1000000000000
  · rw [if_pos hm]
    have e : (⟨(Lib.itoa m).toArray⟩ : ByteArray).data.toList = Lib.decDigits m.toNat := by
      show (Lib.itoa m).toArray.toList = _
      rw [Lib.itoa, if_neg (by omega)]
    rw [e, atoi_dec m.toNat (by omega)]
    simp only []
    rw [show ((m.toNat : Nat) : Int) = m from by omega, if_pos ⟨hm, rfl⟩]
  · rw [if_neg hm]
    split
    · rename_i v _
      by_cases hc : (0 ≤ v ∧ v ≤ 1000000000000) ∧ (⟨(Lib.itoa v).toArray⟩ : ByteArray).toList = (⟨(Lib.itoa m).toArray⟩ : ByteArray).toList
      · exfalso
        have z := hc.2
        rw [ByteArray.toList_eq, ByteArray.toList_eq] at z
        have := itoa_inj m v hc.1.1 (by simpa using z)
        omega
      · rw [if_neg hc]
    · rfl

theorem InRange_v (a b c : Int) : impl_InRange.f a b c = some (decide (b ≤ a ∧ a ≤ c)) := by
  unfold impl_InRange.f
  by_cases h : b ≤ a <;> simp [h]


theorem iMod_v (a b : Int) : impl_Mod.f a b = some (if 1 ≤ b ∧ b ≤ 1000000000000 then a % b else 0) := by
  unfold impl_Mod.f
  rw [InRange_v]
  by_cases h2 : 1 ≤ b ∧ b ≤ 1000000000000
  · have hb : ¬ b = 0 := by omega
    have h3 := Int.lt_tmod_of_pos a (show 0 < b by omega)
    have h4 := Int.tmod_lt_of_pos a (show 0 < b by omega)
    rw [if_pos h2]
    simp only [h2, hb, and_self, decide_true, Option.bind_some, if_true, if_false]
    rw [w64 (i := Int.tmod a b + b) (by omega) (by omega), Int.tmod_eq_emod_of_nonneg (a := Int.tmod a b + b) (by omega)]
    congr 1
    have h5 := Int.tmod_add_tdiv_mul a b
    rw [Int.add_emod_right]
    conv => rhs; rw [← h5]
    rw [Int.add_mul_emod_self_right]
  · rw [if_neg h2]
    simp [h2]

theorem iCeilDiv_v (a b : Int) : impl_CeilDiv.f a b = some (if 0 ≤ a ∧ a ≤ 1000000000000 ∧ 1 ≤ b ∧ b ≤ 1000000000000 then (a + b - 1) / b else 0) := by
  unfold impl_CeilDiv.f
  rw [InRange_v, InRange_v]
  by_cases h1 : 0 ≤ a ∧ a ≤ 1000000000000
  · by_cases h2 : 1 ≤ b ∧ b ≤ 1000000000000
    · have hb : ¬ b = 0 := by omega
      have hq : (a + b - 1) / b ≤ a + b - 1 := Int.ediv_le_self _ (by omega)
      have hq0 : 0 ≤ (a + b - 1) / b := Int.ediv_nonneg (by omega) (by omega)
      rw [if_pos (show 0 ≤ a ∧ a ≤ 1000000000000 ∧ 1 ≤ b ∧ b ≤ 1000000000000 from ⟨h1.1, h1.2, h2⟩)]
      simp only [h1, h2, hb, and_self, decide_true, Option.bind_some, if_true, if_false]
      rw [w64 (i := a + b) (by omega) (by omega), w64 (i := a + b - 1) (by omega) (by omega), Int.tdiv_eq_ediv_of_nonneg (by omega), w64 (by omega) (by omega)]
    · rw [if_neg (show ¬ (0 ≤ a ∧ a ≤ 1000000000000 ∧ 1 ≤ b ∧ b ≤ 1000000000000) from fun h => h2 h.2.2)]
      simp [h1, h2]
  · rw [if_neg (show ¬ (0 ≤ a ∧ a ≤ 1000000000000 ∧ 1 ≤ b ∧ b ≤ 1000000000000) from fun h => h1 ⟨h.1, h.2.1⟩)]
    simp [h1]

theorem FI_size (n : Int) (h0 : -9223372036854775808 ≤ n) (h1 : n ≤ 9223372036854775807) : (⟨(Lib.itoa n).toArray⟩ : ByteArray).size ≤ 100 := by
  have e : (⟨(Lib.itoa n).toArray⟩ : ByteArray).size = (Lib.itoa n).length := by
    show (Lib.itoa n).toArray.size = _
    simp
  rw [e, Lib.itoa]
  have b1 : n.natAbs < 10 ^ (18 + 1) := Nat.lt_of_le_of_lt (show n.natAbs ≤ 9223372036854775808 by omega) (by decide)
  have b2 : n.toNat < 10 ^ (18 + 1) := Nat.lt_of_le_of_lt (show n.toNat ≤ 9223372036854775808 by omega) (by decide)
  have l1 := PI_len 18 _ b1
  have l2 := PI_len 18 _ b2
  split
  · simp; omega
  · omega
theorem tmod_two (a b : Int) (hb : 0 < b) : Int.tmod a b = a % b ∨ Int.tmod a b = a % b - b := by
  have h1 := Int.tmod_add_tdiv_mul a b
  have h2 := Int.emod_add_ediv_mul a b
  have h3 := Int.lt_tmod_of_pos a hb
  have h4 := Int.tmod_lt_of_pos a hb
  have h5 := Int.emod_nonneg a (show b ≠ 0 by omega)
  have h6 := Int.emod_lt_of_pos a hb
  have h7 : (Int.tdiv a b - a / b) * b = a % b - Int.tmod a b := by rw [Int.sub_mul]; omega
  generalize Int.tdiv a b - a / b = k at h7
  have k0 : k = 0 ∨ k = 1 := by
    rcases Int.lt_trichotomy k 0 with hk | hk | hk
    · have := Int.mul_le_mul_of_nonneg_right (show k ≤ -1 by omega) (show 0 ≤ b by omega)
      omega
    · exact Or.inl hk
    · rcases Int.lt_or_le k 2 with h | h
      · right; omega
      · have := Int.mul_le_mul_of_nonneg_right (show 2 ≤ k by omega) (show 0 ≤ b by omega)
        omega
  rcases k0 with rfl | rfl <;> omega
theorem FnIntegers_j (a b : Int) (ha0 : -9223372036854775808 ≤ a) (ha1 : a ≤ 9223372036854775807) (q r : Int) (hq : q = if 0 ≤ a ∧ a ≤ 1000000000000 ∧ 1 ≤ b ∧ b ≤ 1000000000000 then (a + b - 1) / b else 0) (hr : r = if 1 ≤ b ∧ b ≤ 1000000000000 then a % b else 0) :
    Ev (fun k => laws_FnIntegers.j0 k a b q r false) true := by
  refine ev_step ?_
  simp only [laws_FnIntegers.j0]
  refine ev_neg (by simp) ?_
  by_cases hb : 1 ≤ b ∧ b ≤ 1000000000000
  · rw [if_pos hb] at hr
    refine ev_neg (by omega) ?_
    rw [decide_eq_false (show ¬ b > 1000000000000 from by omega)]
    have r0 := Int.emod_nonneg a (show b ≠ 0 by omega)
    have r1 := Int.emod_lt_of_pos a (show 0 < b by omega)
    refine ev_step ?_
    simp only [laws_FnIntegers.j1]
    refine ev_neg (by simp) (ev_neg (by omega) (ev_neg (by omega) (ev_neg (by omega) ?_)))
    have ht : Int.tmod (wrap64 (Int.tmod a b - r)) b = 0 := by
      rcases tmod_two a b (by omega) with e | e
      · rw [e, hr, Int.sub_self, w64 (by omega) (by omega), Int.zero_tmod]
      · rw [e, hr, show a % b - b - a % b = -b from by omega, w64 (by omega) (by omega), Int.neg_tmod, Int.tmod_self]
        rfl
    rw [ht]
    refine ev_step ?_
    simp only [laws_FnIntegers.j2]
    refine ev_neg (by simp) (ev_dec (fun h => ?_) (fun h => ev_dec (fun h2 => ?_) (fun h2 => ?_)))
    · rw [if_neg (by omega)] at hq
      rw [hq]
      exact ev_const rfl
    · rw [if_neg (by omega)] at hq
      rw [hq]
      exact ev_const rfl
    · rw [if_pos (by omega)] at hq
      have m1 : q * b ≤ a + b - 1 := by rw [hq]; exact Int.ediv_mul_le _ (by omega)
      have m2 : a + b - 1 < (q + 1) * b := by rw [hq]; exact Int.lt_ediv_add_one_mul_self _ (by omega)
      rw [Int.add_mul, Int.one_mul] at m2
      generalize q * b = z at m1 m2
      rw [w64 (i := z) (by omega) (by omega), w64 (i := z - a) (by omega) (by omega)]
      exact ev_pos (by omega) (ev_const (by rw [decide_eq_true (by omega)]))
  · have hj : Ev (fun k => laws_FnIntegers.j1 k a b q r true) true := by
      rw [if_neg (by omega)] at hq
      rw [if_neg hb] at hr
      refine ev_step ?_
      simp only [laws_FnIntegers.j1]
      exact ev_pos trivial (ev_pos hq (ev_const (by rw [hr]; rfl)))
    refine ev_dec (fun _ => hj) (fun h => ?_)
    rw [decide_eq_true (show b > 1000000000000 from by omega)]
    exact hj
end OfFnIntegers
open OfFnIntegers in
theorem FnIntegers : laws_FnIntegers.Pure := by
  intro l _ hb _
  apply Ev.rounds
  unfold laws_FnIntegers.f laws_big.f
  refine ev_bindc rfl (ev_dec (fun _ => ev_const rfl) (fun h0 => ?_))
  have hl : l.length ≤ 1000000000000000000 := by omega
  obtain ⟨h1, e1⟩ := l1New_ok l hl
  have ds : ∃ s : ByteArray, Ev (fun k => spec_DrawParseInt.f k l) s ∧ s.size ≤ 1000 := by
    obtain ⟨q, i2, h2, e2, c2⟩ := l1Once_ok l 0 h1 2 hl (by omega)
    unfold spec_DrawParseInt.f
    cases q with
    | true =>
      obtain ⟨s, i4, h4, e4, p4, c4⟩ := l1Str_ok l i2 h2 [(⟨#[]⟩ : ByteArray), (⟨#[48]⟩ : ByteArray), (⟨#[48, 48]⟩ : ByteArray), (⟨#[45, 49]⟩ : ByteArray), (⟨#[48, 49]⟩ : ByteArray), (⟨#[55]⟩ : ByteArray), (⟨#[49, 48, 48, 48, 48, 48, 48, 48, 48, 48, 48, 48, 48]⟩ : ByteArray), (⟨#[49, 48, 48, 48, 48, 48, 48, 48, 48, 48, 48, 48, 49]⟩ : ByteArray), (⟨#[57, 57, 57, 57, 57, 57, 57, 57, 57, 57, 57, 57, 57, 57]⟩ : ByteArray), (⟨#[49, 120]⟩ : ByteArray), (⟨#[32, 49]⟩ : ByteArray)] hl c2 (by simp)
      refine ⟨s, ev_bind e1 (ev_bindc e2 (ev_pos rfl (ev_bindc e4 (ev_const rfl)))), ?_⟩
      simp only [List.mem_cons, List.not_mem_nil, or_false] at p4
      rcases p4 with rfl | rfl | rfl | rfl | rfl | rfl | rfl | rfl | rfl | rfl | rfl <;> decide
    | false =>
      obtain ⟨n, i4, h4, e4, p4, q4, c4⟩ := l1Num_ok l i2 h2 hl c2
      have := FI_size n (by omega) (by omega)
      exact ⟨⟨(Lib.itoa n).toArray⟩, ev_bind e1 (ev_bindc e2 (ev_neg (by simp) (ev_bindc e4 (ev_bind (FI_ev n (by omega) (by omega)) (ev_const rfl))))), by omega⟩
  obtain ⟨s, hs, hsz⟩ := ds
  obtain ⟨m, i2, h2, e2, m0, m1, c2⟩ := l1One_ok l 0 h1 hl (by omega)
  obtain ⟨b, i3, h3, e3, b0, b1, c3⟩ := l1One_ok l i2 h2 hl c2
  have dm : Ev (fun k => spec_DrawFormatInt.f k l) m := by
    unfold spec_DrawFormatInt.f
    exact ev_bind e1 (ev_bindc e2 (ev_const rfl))
  have dc : Ev (fun k => spec_DrawCeilDiv.f k l) (m, b) := by
    unfold spec_DrawCeilDiv.f
    exact ev_bind e1 (ev_bindc e2 (ev_bindc e3 (ev_const rfl)))
  have p1 : impl_ParseInt.f s = some (impl_ParseInt.v s) := if_pos (by omega)
  have f1 : impl_FormatInt.f m = some ⟨(Lib.itoa m).toArray⟩ := if_pos ⟨m0, m1⟩
  have p2 : impl_ParseInt.f ⟨(Lib.itoa m).toArray⟩ = some (if 0 ≤ m ∧ m ≤ 1000000000000 then (m, true) else (0, false)) := by
    have := FI_size m m0 m1
    rw [← v_itoa m]
    exact if_pos (by omega)
  have J := FnIntegers_j m b m0 m1 _ _ rfl rfl
  refine ev_bind hs (ev_bindc p1 (ev_bind dm (ev_bindc f1 (ev_bindc p2 (ev_bind dc (ev_bindc (iCeilDiv_v m b) (ev_bindc (iMod_v m b) ?_)))))))
  simp only []
  have tail : Ev (fun k => if m ≥ 0 then (if (((if 0 ≤ m ∧ m ≤ 1000000000000 then (m, true) else (0, false)) : Int × Bool).2 != (decide (m ≤ 1000000000000))) = true then (laws_FnIntegers.j0 k m b (if 0 ≤ m ∧ m ≤ 1000000000000 ∧ 1 ≤ b ∧ b ≤ 1000000000000 then (m + b - 1) / b else 0) (if 1 ≤ b ∧ b ≤ 1000000000000 then m % b else 0) true) else (if ((if 0 ≤ m ∧ m ≤ 1000000000000 then (m, true) else (0, false)) : Int × Bool).2 = true then (laws_FnIntegers.j0 k m b (if 0 ≤ m ∧ m ≤ 1000000000000 ∧ 1 ≤ b ∧ b ≤ 1000000000000 then (m + b - 1) / b else 0) (if 1 ≤ b ∧ b ≤ 1000000000000 then m % b else 0) (((if 0 ≤ m ∧ m ≤ 1000000000000 then (m, true) else (0, false)) : Int × Bool).1 != m)) else (laws_FnIntegers.j0 k m b (if 0 ≤ m ∧ m ≤ 1000000000000 ∧ 1 ≤ b ∧ b ≤ 1000000000000 then (m + b - 1) / b else 0) (if 1 ≤ b ∧ b ≤ 1000000000000 then m % b else 0) false))) else (if (((if 0 ≤ m ∧ m ≤ 1000000000000 then (m, true) else (0, false)) : Int × Bool).2 != false) = true then (laws_FnIntegers.j0 k m b (if 0 ≤ m ∧ m ≤ 1000000000000 ∧ 1 ≤ b ∧ b ≤ 1000000000000 then (m + b - 1) / b else 0) (if 1 ≤ b ∧ b ≤ 1000000000000 then m % b else 0) true) else (if ((if 0 ≤ m ∧ m ≤ 1000000000000 then (m, true) else (0, false)) : Int × Bool).2 = true then (laws_FnIntegers.j0 k m b (if 0 ≤ m ∧ m ≤ 1000000000000 ∧ 1 ≤ b ∧ b ≤ 1000000000000 then (m + b - 1) / b else 0) (if 1 ≤ b ∧ b ≤ 1000000000000 then m % b else 0) (((if 0 ≤ m ∧ m ≤ 1000000000000 then (m, true) else (0, false)) : Int × Bool).1 != m)) else (laws_FnIntegers.j0 k m b (if 0 ≤ m ∧ m ≤ 1000000000000 ∧ 1 ≤ b ∧ b ≤ 1000000000000 then (m + b - 1) / b else 0) (if 1 ≤ b ∧ b ≤ 1000000000000 then m % b else 0) false)))) true := by
    by_cases hr : 0 ≤ m ∧ m ≤ 1000000000000
    · rw [if_pos hr, decide_eq_true hr.2]
      refine ev_pos hr.1 (ev_neg (by simp) (ev_pos rfl ?_))
      rw [show ((m, true).1 != m) = false from by simp]
      exact J
    · rw [if_neg hr]
      refine ev_dec (fun h => ?_) (fun h => ?_)
      · rw [decide_eq_false (by omega)]
        exact ev_neg (by simp) (ev_neg (by simp) J)
      · exact ev_neg (by simp) (ev_neg (by simp) J)
  cases hv : impl_ParseInt.v s with
  | mk n ok =>
    cases ok with
    | true =>
      have hn : (0 ≤ n ∧ n ≤ 1000000000000) ∧ (⟨(Lib.itoa n).toArray⟩ : ByteArray).toList = s.toList := by
        unfold impl_ParseInt.v at hv
        split at hv
        · split at hv
          · rename_i hc
            simp only [Prod.mk.injEq, and_true] at hv
            rw [hv] at hc
            exact hc
          · simp at hv
        · simp at hv
      have f2 : impl_FormatInt.f n = some ⟨(Lib.itoa n).toArray⟩ := if_pos (by omega)
      exact ev_pos rfl (ev_bindc f2 (ev_pos hn.2 tail))
    | false => exact ev_neg (by simp) tail
end Go.Proofs.YtmfcfgcohjdclaaDoor.Pure
