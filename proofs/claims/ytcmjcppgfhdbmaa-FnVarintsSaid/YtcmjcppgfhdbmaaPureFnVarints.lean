/- The pure statement of FnVarints: what the printed functions compute answers true for all arguments within the printed bounds. -/
import Derived.Test.YtcmjcppgfhdbmaaPFnVarintsx4
import Derived.Test.YtcmjcppgfhdbmaaKit
namespace Go.Proofs.Ytcmjcppgfhdbmaa.Pure
open Go.RowKit Go.Proofs.Ytcmjcppgfhdbmaa.PFnVarints Go.Proofs.YtcmjcppgfhdbmaaW.PrintWords Go.Proofs.YtcmjcppgfhdbmaaW.PrintLast Go.Proofs.Ytcmjcppgfhdbmaa.Kit
set_option linter.unusedVariables false
set_option linter.unusedSimpArgs false
namespace OfFnVarints
theorem l1New_ok (b : List Int) (hb : b.length ≤ 1000000000000000000) : ∃ h, Ev (fun k => spec_l1New.f k b) (b, 0, h) := by
  have key : ∀ (m i : Nat) (h : Int), i + m = b.length → ∃ h', Ev (fun k => spec_l1New.l0 k b h (i : Int)) (b, 0, h') := by
    intro m
    induction m with
    | zero =>
      intro i h hi
      refine ⟨h, ev_step ?_⟩
      simp only [spec_l1New.l0]
      exact ev_neg (by omega) (ev_const rfl)
    | succ m ih =>
      intro i h hi
      by_cases h4 : (i : Int) < 4000
      · obtain ⟨h', e⟩ := ih (i + 1) (Go.bits .and .i64 (wrap64 ((wrap64 ((wrap64 (h * 137)) + (wrap64 (rd b (i : Int))))) + 11)) 1073741823) (by omega)
        refine ⟨h', ev_step ?_⟩
        simp only [spec_l1New.l0]
        rw [w64s (n := b.length) (by omega) (by omega)]
        exact ev_pos (by omega) (ev_pos h4 (ev_pos (by omega) e))
      · refine ⟨h, ev_step ?_⟩
        simp only [spec_l1New.l0]
        exact ev_pos (by omega) (ev_neg h4 (ev_const rfl))
  unfold spec_l1New.f
  exact key b.length 0 _ (by omega)

theorem and255 (x : Int) : 0 ≤ Go.bits .and .i64 x 255 ∧ Go.bits .and .i64 x 255 ≤ 255 := by
  unfold Go.bits
  simp only []
  have h1 : (BitVec.ofInt IntKind.i64.bits x &&& BitVec.ofInt IntKind.i64.bits 255).toNat ≤ 255 := by
    rw [BitVec.toNat_and]
    exact Nat.le_trans Nat.and_le_right (by decide)
  generalize (BitVec.ofInt IntKind.i64.bits x &&& BitVec.ofInt IntKind.i64.bits 255).toNat = n at h1
  rw [IntKind.wrap_i64]
  omega

/-- The drawing of bytes and of what is made of them: each draw ends, and its values lie where they should. The reader's place i never is below 0. -/
theorem l1Byte_ok (b : List Int) (i h : Int) (hb : b.length ≤ 1000000000000000000) (hi : 0 ≤ i) : ∃ x i' h', spec_l1Byte.f b i h = some (x, i', h') ∧ 0 ≤ x ∧ x ≤ 255 ∧ 0 ≤ i' := by
  unfold spec_l1Byte.f
  by_cases h1 : i < (b.length : Int)
  · rw [if_pos h1, if_pos hi]
    exact ⟨_, _, _, rfl, (and255 _).1, (and255 _).2, by rw [w64 (by omega) (by omega)]; omega⟩
  · rw [if_neg h1]
    exact ⟨_, _, _, rfl, (and255 _).1, (and255 _).2, hi⟩
theorem l1Below_ok (b : List Int) (i h n : Int) (hb : b.length ≤ 1000000000000000000) (hi : 0 ≤ i) : ∃ x i' h', spec_l1Below.f b i h n = some (x, i', h') ∧ 0 ≤ x ∧ (0 < n → x < n) ∧ (n ≤ 0 → x = 0) ∧ 0 ≤ i' := by
  unfold spec_l1Below.f
  by_cases h1 : n ≤ 0
  · rw [if_pos h1]
    exact ⟨_, _, _, rfl, by omega, by omega, by omega, hi⟩
  · rw [if_neg h1]
    obtain ⟨x1, i1, h1', e1, a1, b1, c1⟩ := l1Byte_ok b i h hb hi
    by_cases h2 : n ≤ 256
    · rw [if_pos h2, e1, Option.bind_some, if_neg (by omega)]
      exact ⟨_, _, _, rfl, Int.tmod_nonneg _ a1, fun _ => Int.tmod_lt_of_pos _ (by omega), by omega, c1⟩
    · obtain ⟨x2, i2, h2', e2, a2, b2, c2⟩ := l1Byte_ok b i1 h1' hb c1
      obtain ⟨x3, i3, h3', e3, a3, b3, c3⟩ := l1Byte_ok b i2 h2' hb c2
      rw [if_neg h2, e1, Option.bind_some, e2, Option.bind_some, e3, Option.bind_some, if_neg (by omega)]
      refine ⟨_, _, _, rfl, ?_, fun _ => Int.tmod_lt_of_pos _ (by omega), by omega, c3⟩
      simp only []
      rw [w64 (i := x1 * 65536) (by omega) (by omega), w64 (i := x2 * 256) (by omega) (by omega), w64 (i := x1 * 65536 + x2 * 256) (by omega) (by omega), w64 (i := x1 * 65536 + x2 * 256 + x3) (by omega) (by omega)]
      exact Int.tmod_nonneg _ (by omega)

theorem l1Bytes_ok (b : List Int) (i h n : Int) (hb : b.length ≤ 1000000000000000000) (hi : 0 ≤ i) (hn : n ≤ 1000000) : ∃ r i' h', Ev (fun k => spec_l1Bytes.f k b i h n) (r, i', h') ∧ (r.length : Int) ≤ 1000000 ∧ (0 ≤ n → (r.length : Int) = n) ∧ (∀ v ∈ r, 0 ≤ v ∧ v ≤ 255) ∧ 0 ≤ i' := by
  have key : ∀ (m : Nat) (j : Nat) (out : List Int) (i h : Int), 0 ≤ i → (j : Int) + m = (if 0 ≤ n then n else 0) → out.length = j → (∀ v ∈ out, 0 ≤ v ∧ v ≤ 255) →
      ∃ r i' h', Ev (fun k => spec_l1Bytes.l0 k n out (j : Int) b i h) (r, i', h') ∧ (r.length : Int) = (if 0 ≤ n then n else 0) ∧ (∀ v ∈ r, 0 ≤ v ∧ v ≤ 255) ∧ 0 ≤ i' := by
    intro m
    induction m with
    | zero =>
      intro j out i h hi hj ho hw
      refine ⟨out, i, h, ev_step ?_, by omega, hw, hi⟩
      simp only [spec_l1Bytes.l0]
      exact ev_neg (by split at hj <;> omega) (ev_const rfl)
    | succ m ih =>
      intro j out i h hi hj ho hw
      obtain ⟨x, i1, h1, e, p, q, c⟩ := l1Byte_ok b i h hb hi
      have hw2 : ∀ v ∈ out ++ [x % 256], 0 ≤ v ∧ v ≤ 255 := by
        intro v hv
        rcases List.mem_append.1 hv with z | z
        · exact hw v z
        · simp at z; omega
      obtain ⟨r, i', h', e2, hl, hw3, c2⟩ := ih (j + 1) (out ++ [x % 256]) i1 h1 c (by omega) (by simp [ho]) hw2
      refine ⟨r, i', h', ev_step ?_, hl, hw3, c2⟩
      simp only [spec_l1Bytes.l0]
      have hlt : (j : Int) < n := by split at hj <;> omega
      refine ev_pos hlt (ev_bindc e (ev_pos (by omega) ?_))
      rw [show wrap64 ((j : Int) + 1) = ((j + 1 : Nat) : Int) from by rw [w64 (by omega) (by omega)]; omega]
      exact e2
  unfold spec_l1Bytes.f
  obtain ⟨r, i', h', e, hl, hw, c⟩ := key (if 0 ≤ n then n else 0).toNat 0 [] i h hi (by split <;> omega) rfl (by simp)
  exact ⟨r, i', h', e, by split at hl <;> omega, fun z => by rw [if_pos z] at hl; exact hl, hw, c⟩

theorem l1Int_ok (b : List Int) (i h : Int) (l : List Int) (hb : b.length ≤ 1000000000000000000) (hi : 0 ≤ i) (hl : 0 < l.length) : ∃ x i' h', spec_l1Int.f b i h l = some (x, i', h') ∧ x ∈ l ∧ 0 ≤ i' := by
  obtain ⟨x, i1, h1, e, p, q, _, c⟩ := l1Below_ok b i h (l.length : Int) hb hi
  have q' := q (by omega)
  unfold spec_l1Int.f
  rw [e, Option.bind_some, if_pos p, if_pos q']
  refine ⟨_, _, _, rfl, ?_, c⟩
  obtain ⟨m, rfl⟩ := Int.eq_ofNat_of_zero_le p
  rw [rd_at l m (by omega)]
  exact List.getElem_mem _

theorem l1Num_ok (b : List Int) (i h : Int) (hb : b.length ≤ 1000000000000000000) (hi : 0 ≤ i) : ∃ x i' h', spec_l1Num.f b i h = some (x, i', h') ∧ 0 ≤ x ∧ x ≤ 1000000000000 ∧ 0 ≤ i' := by
  unfold spec_l1Num.f
  obtain ⟨x, i1, h1, e, p, q, _, c⟩ := l1Below_ok b i h 4 hb hi
  rw [e, Option.bind_some]
  simp only []
  by_cases c0 : x = 0
  · obtain ⟨y, i2, h2, e2, p2, q2, _, c2⟩ := l1Below_ok b i1 h1 2000 hb c
    rw [if_pos c0, e2, Option.bind_some]
    exact ⟨_, _, _, rfl, p2, by simp only []; omega, c2⟩
  rw [if_neg c0]
  by_cases c1 : x = 1
  · obtain ⟨y, i2, h2, e2, p2, c2⟩ := l1Int_ok b i1 h1 [0, 1, 127, 128, 2147483646, 2147483647, 1000000000000] hb c (by simp)
    rw [if_pos c1, e2, Option.bind_some]
    simp at p2
    exact ⟨_, _, _, rfl, by simp only []; omega, by simp only []; omega, c2⟩
  rw [if_neg c1]
  by_cases c2 : x = 2
  · obtain ⟨y, i2, h2, e2, p2, q2, _, c3⟩ := l1Below_ok b i1 h1 1000000 hb c
    obtain ⟨z, i3, h3, e3, p3, q3, _, c4⟩ := l1Below_ok b i2 h2 1000000 hb c3
    rw [if_pos c2, e2, Option.bind_some, e3, Option.bind_some]
    have hm : y * z ≤ 999999 * 999999 := Int.mul_le_mul (by omega) (by omega) p3 (by omega)
    have hm0 : 0 ≤ y * z := Int.mul_nonneg p2 p3
    exact ⟨_, _, _, rfl, by simp only []; rw [w64 (i := y * z) (by omega) (by omega)]; exact hm0, by simp only []; rw [w64 (i := y * z) (by omega) (by omega)]; omega, c4⟩
  · obtain ⟨y, i2, h2, e2, p2, q2, _, c3⟩ := l1Below_ok b i1 h1 20 hb c
    rw [if_neg c2, e2, Option.bind_some]
    exact ⟨_, _, _, rfl, p2, by simp only []; omega, c3⟩

theorem l1Once_ok (b : List Int) (i h n : Int) (hb : b.length ≤ 1000000000000000000) (hi : 0 ≤ i) : ∃ (x : Bool) (i' h' : Int), spec_l1Once.f b i h n = some (x, i', h') ∧ 0 ≤ i' := by
  obtain ⟨x, i1, h1, e, _, _, _, c⟩ := l1Below_ok b i h n hb hi
  unfold spec_l1Once.f
  rw [e, Option.bind_some]
  exact ⟨_, _, _, rfl, c⟩

theorem l1Odd_ok (b : List Int) (i h : Int) (hb : b.length ≤ 1000000000000000000) (hi : 0 ≤ i) : ∃ x i' h', spec_l1Odd.f b i h = some (x, i', h') ∧ -9223372036854775808 ≤ x ∧ x ≤ 9223372036854775807 ∧ 0 ≤ i' := by
  unfold spec_l1Odd.f
  obtain ⟨y, i2, h2, e2, p2, c2⟩ := l1Int_ok b i h [(-1), 0, 1, 2, 255, 256, 65535, 2147483647, 2147483648, 4294967295, 4294967296, (-2147483648), 9223372036854775807, (-9223372036854775808)] hb hi (by simp)
  rw [e2, Option.bind_some]
  simp at p2
  exact ⟨_, _, _, rfl, by simp only []; omega, by simp only []; omega, c2⟩
theorem l1Raw_ok (b : List Int) (i h : Int) (hb : b.length ≤ 1000000000000000000) (hi : 0 ≤ i) : ∃ x i' h', spec_l1Raw.f b i h = some (x, i', h') ∧ -9223372036854775808 ≤ x ∧ x ≤ 9223372036854775807 ∧ 0 ≤ i' := by
  unfold spec_l1Raw.f
  obtain ⟨q, i1, h1, e1, c1⟩ := l1Once_ok b i h 2 hb hi
  rw [e1, Option.bind_some]
  simp only []
  cases q with
  | true =>
    obtain ⟨x, i2, h2, e2, p, r, c⟩ := l1Odd_ok b i1 h1 hb c1
    rw [if_pos rfl, e2, Option.bind_some]
    exact ⟨_, _, _, rfl, p, r, c⟩
  | false =>
    obtain ⟨y, i2, h2, e2, p2, c2⟩ := l1Int_ok b i1 h1 [(-1), 1000000000000, 1000000000001] hb c1 (by simp)
    rw [if_neg (by simp), e2, Option.bind_some]
    simp at p2
    exact ⟨_, _, _, rfl, by simp only []; omega, by simp only []; omega, c2⟩
theorem l1One_ok (b : List Int) (i h : Int) (hb : b.length ≤ 1000000000000000000) (hi : 0 ≤ i) : ∃ x i' h', spec_l1One.f b i h = some (x, i', h') ∧ -9223372036854775808 ≤ x ∧ x ≤ 9223372036854775807 ∧ 0 ≤ i' := by
  unfold spec_l1One.f
  obtain ⟨q, i1, h1, e1, c1⟩ := l1Once_ok b i h 6 hb hi
  rw [e1, Option.bind_some]
  simp only []
  cases q with
  | true =>
    obtain ⟨x, i2, h2, e2, p, r, c⟩ := l1Raw_ok b i1 h1 hb c1
    rw [if_pos rfl, e2, Option.bind_some]
    exact ⟨_, _, _, rfl, p, r, c⟩
  | false =>
    obtain ⟨x, i2, h2, e2, p, r, c⟩ := l1Num_ok b i1 h1 hb c1
    rw [if_neg (by simp), e2, Option.bind_some]
    exact ⟨_, _, _, rfl, by simp only []; omega, by simp only []; omega, c⟩

theorem wraps_i64 (n : Int) (h₀ : 0 ≤ n) (h₁ : n < 2 ^ 62) : IntKind.i64.wrap n = n := by rw [IntKind.wrap_i64]; omega
theorem or_comm64 (x y : Int) : Go.bits .or .i64 x y = Go.bits .or .i64 y x := by
  unfold Go.bits
  simp only [BitVec.or_comm]
theorem or_add (n y : Int) (s : Nat) (hs : s ≤ 62) (h0 : 0 ≤ n) (h1 : n < 2 ^ s) (hy0 : 0 ≤ y) (hy : y % 2 ^ s = 0) (hy1 : y < 2 ^ 62) (hn1 : n < 2 ^ 62) : Go.bits .or .i64 n y = n + y := by
  rw [or_comm64, bits_join .i64 62 (by decide) wraps_i64 s y n hy0 hy hy1 h0 h1 hn1, Int.add_comm]
theorem and127 (b : Int) (h0 : 0 ≤ b) (h1 : b < 2 ^ 62) : Go.bits .and .i64 b 127 = b % 128 := by
  have h := bits_mask .i64 62 (by decide) wraps_i64 7 (by decide) b h0 h1
  simpa using h

theorem InRange_v (a b c : Int) : impl_InRange.f a b c = some (decide (b ≤ a ∧ a ≤ c)) := by
  unfold impl_InRange.f
  by_cases h : b ≤ a <;> simp [h]

theorem RU_bits (b n : Int) (j : Nat) (hj : j ≤ 5) (hb0 : 0 ≤ b) (hb1 : b ≤ 255) (h0 : 0 ≤ n) (h1 : n < 2 ^ (7 * j)) :
    Go.bits .or .i64 n (shl .i64 (Go.bits .and .i64 (wrap64 b) 127) (wrap64 (7 * (j : Int)))) = n + b % 128 * 2 ^ (7 * j) ∧ 0 ≤ n + b % 128 * 2 ^ (7 * j) ∧ n + b % 128 * 2 ^ (7 * j) < 2 ^ (7 * (j + 1)) := by
  have hP : (1 : Int) ≤ 2 ^ (7 * j) ∧ (2 : Int) ^ (7 * j) ≤ 34359738368 ∧ (2 : Int) ^ (7 * (j + 1)) = 128 * 2 ^ (7 * j) := by
    have : j = 0 ∨ j = 1 ∨ j = 2 ∨ j = 3 ∨ j = 4 ∨ j = 5 := by omega
    rcases this with rfl | rfl | rfl | rfl | rfl | rfl <;> decide
  obtain ⟨hP1, hP2, hP3⟩ := hP
  have hm : b % 128 * 2 ^ (7 * j) ≤ 127 * 2 ^ (7 * j) := Int.mul_le_mul_of_nonneg_right (by omega) (by omega)
  have hm0 : 0 ≤ b % 128 * 2 ^ (7 * j) := Int.mul_nonneg (by omega) (by omega)
  have hmod : b % 128 * 2 ^ (7 * j) % 2 ^ (7 * j) = 0 := Int.mul_emod_left _ _
  refine ⟨?_, by omega, by omega⟩
  unfold shl
  rw [w64 (i := b) (by omega) (by omega), w64 (i := 7 * (j : Int)) (by omega) (by omega), and127 b hb0 (by omega), show min (7 * (j : Int)).toNat IntKind.i64.bits = 7 * j from by simp [IntKind.bits]; omega]
  rw [wraps_i64 _ hm0 (by omega)]
  exact or_add _ _ (7 * j) (by omega) h0 h1 hm0 hmod (by omega) (by omega)
/-- What reading a varint comes to: d bytes may still be read, n is what has been read. -/
def rvar (x : List Int) (a : Int) : Nat → Int → Int × Int × Bool
  | 0, _ => (0, 0, false)
  | d + 1, n => if 0 ≤ a ∧ a + (5 - (d : Int)) < (x.length : Int) then
      (if rd x (a + (5 - (d : Int))) < 128 then
        (if (rd x (a + (5 - (d : Int))) = 0 ∧ d < 5) ∨ n + rd x (a + (5 - (d : Int))) % 128 * 2 ^ (7 * (5 - d)) > 1000000000000 then (0, 0, false)
         else (n + rd x (a + (5 - (d : Int))) % 128 * 2 ^ (7 * (5 - d)), a + (5 - (d : Int)) + 1, true))
       else rvar x a d (n + rd x (a + (5 - (d : Int))) % 128 * 2 ^ (7 * (5 - d))))
    else (0, 0, false)
theorem rd_bd (x : List Int) (hw : ∀ v ∈ x, 0 ≤ v ∧ v ≤ 255) (i : Int) : 0 ≤ rd x i ∧ rd x i ≤ 255 := by
  unfold rd
  rw [List.getD_eq_getElem?_getD]
  rcases h : x[i.toNat]? with _ | v
  · simp
  · exact hw v (List.mem_of_getElem? h)
theorem rvar_bd (x : List Int) (a : Int) (hx : x.length ≤ 1000000000000000) (hw : ∀ v ∈ x, 0 ≤ v ∧ v ≤ 255) : ∀ (d : Nat) (n : Int), d ≤ 6 → 0 ≤ n → 0 ≤ (rvar x a d n).1 ∧ (rvar x a d n).1 ≤ 1000000000000 ∧ 0 ≤ (rvar x a d n).2.1 ∧ (rvar x a d n).2.1 ≤ (x.length : Int) := by
  intro d
  induction d with
  | zero => intro n _ _; simp [rvar]
  | succ d ih =>
    intro n hd h0
    have hb := rd_bd x hw (a + (5 - (d : Int)))
    have hm0 : 0 ≤ rd x (a + (5 - (d : Int))) % 128 * 2 ^ (7 * (5 - d)) := Int.mul_nonneg (by omega) (Int.pow_nonneg (by omega))
    simp only [rvar]
    split
    · split
      · split
        · simp
        · simp only []
          omega
      · exact ih _ (by omega) (by omega)
    · simp
theorem RU_sl (x : List Int) (hx : x.length ≤ 1000000000000000) (hw : ∀ v ∈ x, 0 ≤ v ∧ v ≤ 255) (a : Int) (ha : -9223372036854775808 ≤ a ∧ a ≤ 9223372036854775807) :
    ∀ (d i : Nat) (n : Int), i + d = 6 → 0 ≤ n → n < 2 ^ (7 * i) → Ev (fun k => spec_ReadUvarint.l0 k x a n (i : Int)) (rvar x a d n) := by
  intro d
  induction d with
  | zero =>
    intro i n hi _ _
    refine ev_step ?_
    simp only [spec_ReadUvarint.l0, rvar]
    exact ev_neg (by omega) (ev_const rfl)
  | succ d ih =>
    intro i n hi h0 h1
    have e5 : (5 - (d : Int)) = (i : Int) := by omega
    have e6 : 5 - d = i := by omega
    have hstop : ∀ r : Int × Int × Bool, r = (0, 0, false) → Ev (fun k => spec_ReadUvarint.j1 k x a n (i : Int) true) r := by
      rintro r rfl
      refine ev_step ?_
      simp only [spec_ReadUvarint.j1]
      exact ev_const rfl
    refine ev_step ?_
    simp only [spec_ReadUvarint.l0, rvar]
    rw [e5, e6]
    refine ev_pos (by omega) (ev_dec (fun hneg => ?_) (fun hneg => ?_))
    · exact hstop _ (if_neg (by omega))
    · rw [w64 (i := (x.length : Int) - i) (by omega) (by omega)]
      by_cases hlt : a + (i : Int) < (x.length : Int)
      · have hb := rd_bd x hw (a + (i : Int))
        obtain ⟨hbits, hn0, hn1⟩ := RU_bits (rd x (a + (i : Int))) n i (by omega) hb.1 hb.2 h0 h1
        rw [if_pos ⟨by omega, hlt⟩, decide_eq_false (show ¬ (a ≥ (x.length : Int) - i) from by omega)]
        refine ev_step ?_
        simp only [spec_ReadUvarint.j1]
        refine ev_neg (by simp) ?_
        rw [w64 (i := a + (i : Int)) (by omega) (by omega), hbits, w64 (i := rd x (a + (i : Int))) (by omega) (by omega), w64 (i := 7 * (i : Int)) (by omega) (by omega), w64 (i := a + (i : Int) + 1) (by omega) (by omega), w64s (n := 6) (i := i) (by omega) (by omega)]
        refine ev_pos (by omega) (ev_pos (by omega) (ev_pos (by omega) (ev_dec (fun hb1 => ?_) (fun hb1 => ?_))))
        · rw [if_pos hb1]
          refine ev_dec (fun hz => ?_) (fun hz => ?_)
          · refine ev_dec (fun hp => ?_) (fun hp => ?_)
            · rw [if_pos (Or.inl ⟨hz, by omega⟩)]
              exact ev_const rfl
            · refine ev_dec (fun hM => ?_) (fun hM => ?_)
              · rw [if_pos (Or.inr hM)]
                exact ev_const rfl
              · rw [if_neg (by omega)]
                exact ev_const rfl
          · refine ev_dec (fun hM => ?_) (fun hM => ?_)
            · rw [if_pos (Or.inr hM)]
              exact ev_const rfl
            · rw [if_neg (by omega)]
              exact ev_const rfl
        · rw [if_neg hb1]
          exact ih (i + 1) _ (by omega) hn0 hn1
      · rw [if_neg (by omega), decide_eq_true (show a ≥ (x.length : Int) - i from by omega)]
        exact hstop _ rfl
theorem RU_il (x : List Int) (hx : x.length ≤ 1000000000000000) (hw : ∀ v ∈ x, 0 ≤ v ∧ v ≤ 255) (a : Int) (ha : -9223372036854775808 ≤ a ∧ a ≤ 9223372036854775807) :
    ∀ (d i : Nat) (n : Int), i + d = 6 → 0 ≤ n → n < 2 ^ (7 * i) → Ev (fun k => impl_ReadUvarint.l0 k x a n (i : Int)) (rvar x a d n) := by
  intro d
  induction d with
  | zero =>
    intro i n hi _ _
    refine ev_step ?_
    simp only [impl_ReadUvarint.l0, rvar]
    exact ev_neg (by omega) (ev_const rfl)
  | succ d ih =>
    intro i n hi h0 h1
    have e5 : (5 - (d : Int)) = (i : Int) := by omega
    have e6 : 5 - d = i := by omega
    refine ev_step ?_
    simp only [impl_ReadUvarint.l0, rvar]
    rw [e5, e6, w64 (i := (x.length : Int) - 1) (by omega) (by omega), w64 (i := (x.length : Int) - 1 - i) (by omega) (by omega)]
    refine ev_pos (by omega) (ev_bindc (InRange_v _ _ _) ?_)
    by_cases hlt : 0 ≤ a ∧ a + (i : Int) < (x.length : Int)
    · have hb := rd_bd x hw (a + (i : Int))
      obtain ⟨hbits, hn0, hn1⟩ := RU_bits (rd x (a + (i : Int))) n i (by omega) hb.1 hb.2 h0 h1
      rw [if_pos hlt]
      refine ev_pos (by simp; omega) ?_
      rw [w64 (i := a + (i : Int)) (by omega) (by omega), hbits, w64 (i := rd x (a + (i : Int))) (by omega) (by omega), w64 (i := 7 * (i : Int)) (by omega) (by omega), w64 (i := a + (i : Int) + 1) (by omega) (by omega), w64s (n := 6) (i := i) (by omega) (by omega)]
      refine ev_pos (by omega) (ev_pos (by omega) (ev_pos (by omega) (ev_dec (fun hb1 => ?_) (fun hb1 => ?_))))
      · rw [if_neg (show ¬ rd x (a + (i : Int)) < 128 from by omega)]
        exact ih (i + 1) _ (by omega) hn0 hn1
      · rw [if_pos (show rd x (a + (i : Int)) < 128 from by omega)]
        refine ev_dec (fun hp => ?_) (fun hp => ?_)
        · refine ev_dec (fun hz => ?_) (fun hz => ?_)
          · rw [if_pos (Or.inl ⟨hz, by omega⟩)]
            exact ev_const rfl
          · refine ev_dec (fun hM => ?_) (fun hM => ?_)
            · rw [if_pos (Or.inr hM)]
              exact ev_const rfl
            · rw [if_neg (by omega)]
              exact ev_const rfl
        · refine ev_dec (fun hM => ?_) (fun hM => ?_)
          · rw [if_pos (Or.inr hM)]
            exact ev_const rfl
          · rw [if_neg (by omega)]
            exact ev_const rfl
    · rw [if_neg hlt]
      exact ev_neg (by simp; omega) (ev_const rfl)
theorem RU_sev (x : List Int) (hx : x.length ≤ 1000000000000000) (hw : ∀ v ∈ x, 0 ≤ v ∧ v ≤ 255) (a : Int) (ha : -9223372036854775808 ≤ a ∧ a ≤ 9223372036854775807) : Ev (fun k => spec_ReadUvarint.f k x a) (rvar x a 6 0) := by
  unfold spec_ReadUvarint.f
  exact RU_sl x hx hw a ha 6 0 0 (by omega) (by omega) (by decide)
theorem RU_iev (x : List Int) (hx : x.length ≤ 1000000000000000) (hw : ∀ v ∈ x, 0 ≤ v ∧ v ≤ 255) (a : Int) (ha : -9223372036854775808 ≤ a ∧ a ≤ 9223372036854775807) : Ev (fun k => impl_ReadUvarint.f k x a) (rvar x a 6 0) := by
  unfold impl_ReadUvarint.f
  exact RU_il x hx hw a ha 6 0 0 (by omega) (by omega) (by decide)

theorem l1In_v (a b c : Int) : spec_l1In.f a b c = some (decide (b ≤ a ∧ a ≤ c)) := by
  unfold spec_l1In.f
  by_cases h : b ≤ a <;> simp [h]

/-- The bytes of a number, low ones first. -/
def venc (n : Nat) : List Int := if n < 128 then [(n : Int)] else ((n % 128 + 128 : Nat) : Int) :: venc (n / 128)
termination_by n
decreasing_by omega
theorem venc_len : ∀ (d n : Nat), n < 128 ^ (d + 1) → 1 ≤ (venc n).length ∧ (venc n).length ≤ d + 1 := by
  intro d
  induction d with
  | zero =>
    intro n hn
    rw [venc, if_pos (by simpa using hn)]
    simp
  | succ d ih =>
    intro n hn
    rw [venc]
    split
    · simp
    · have := ih (n / 128) (by rw [Nat.div_lt_iff_lt_mul (by omega)]; rw [Nat.pow_succ] at hn; exact hn)
      simp
      omega
theorem venc_len6 (n : Nat) (h : n ≤ 1000000000000) : 1 ≤ (venc n).length ∧ (venc n).length ≤ 6 := venc_len 5 n (by omega)
theorem venc_bd : ∀ (N n : Nat), n ≤ N → ∀ v ∈ venc n, 0 ≤ v ∧ v ≤ 255 := by
  intro N
  induction N with
  | zero =>
    intro n hn v hv
    rw [venc, if_pos (by omega)] at hv
    simp at hv
    omega
  | succ N ih =>
    intro n hn v hv
    rw [venc] at hv
    split at hv
    · simp at hv
      omega
    · rcases List.mem_cons.1 hv with h | h
      · omega
      · exact ih (n / 128) (by omega) v h
theorem or_u8 (n : Nat) : Go.bits .or .u8 (((n : Int)) % 256) 128 = ((n % 128 + 128 : Nat) : Int) := by
  rw [show ((n : Int)) % 256 = ((n % 256 : Nat) : Int) from by omega, show (128 : Int) = ((128 : Nat) : Int) from rfl, (bits_nat .u8 8 (by decide) wraps_u8 (n % 256) 128 (by omega) (by omega)).2]
  have h : ∀ m, m < 256 → m ||| 128 = m % 128 + 128 := by decide +kernel
  rw [h (n % 256) (by omega)]
  omega
theorem or_i64 (n : Nat) (hn : n ≤ 1000000000000) : (Go.bits .or .i64 (Go.bits .and .i64 (n : Int) 127) 128) % 256 = ((n % 128 + 128 : Nat) : Int) := by
  rw [and127 _ (by omega) (by omega), show ((n : Int)) % 128 = ((n % 128 : Nat) : Int) from by omega, show (128 : Int) = ((128 : Nat) : Int) from rfl, (bits_nat .i64 62 (by decide) wraps_i64 (n % 128) 128 (by omega) (by omega)).2]
  have h : ∀ m, m < 128 → m ||| 128 = m + 128 := by decide +kernel
  rw [h (n % 128) (by omega)]
  omega
theorem AU_sl : ∀ (N n : Nat) (acc : List Int), n ≤ N → n ≤ 1000000000000 → acc.length + (venc n).length ≤ 140737488355328 → Ev (fun k => spec_AppendUvarint.l0 k (n : Int) acc) (acc ++ venc n) := by
  intro N
  induction N with
  | zero =>
    intro n acc hn _ hl
    have hv : venc n = [(n : Int)] := by rw [venc, if_pos (by omega)]
    rw [hv] at hl ⊢
    simp at hl
    refine ev_step ?_
    simp only [spec_AppendUvarint.l0]
    refine ev_neg (by omega) (ev_pos (by omega) ?_)
    rw [show (n : Int) % 256 = n from by omega]
    exact ev_const rfl
  | succ N ih =>
    intro n acc hn hM hl
    refine ev_step ?_
    simp only [spec_AppendUvarint.l0]
    by_cases h : n < 128
    · have hv : venc n = [(n : Int)] := by rw [venc, if_pos h]
      rw [hv] at hl ⊢
      simp at hl
      refine ev_neg (by omega) (ev_pos (by omega) ?_)
      rw [show (n : Int) % 256 = n from by omega]
      exact ev_const rfl
    · have hv : venc n = ((n % 128 + 128 : Nat) : Int) :: venc (n / 128) := by rw [venc, if_neg h]
      rw [hv] at hl ⊢
      simp at hl
      refine ev_pos (by omega) (ev_pos (by omega) ?_)
      rw [or_i64 n hM, show (n : Int) / 128 = ((n / 128 : Nat) : Int) from by omega]
      have := ih (n / 128) (acc ++ [((n % 128 + 128 : Nat) : Int)]) (by omega) (by omega) (by simp; omega)
      simpa using this
theorem AU_il : ∀ (N n : Nat) (acc : List Int), n ≤ N → acc.length + (venc n).length ≤ 140737488355328 → Ev (fun k => impl_AppendUvarint.l0 k (n : Int) acc) (acc ++ venc n) := by
  intro N
  induction N with
  | zero =>
    intro n acc hn hl
    have hv : venc n = [(n : Int)] := by rw [venc, if_pos (by omega)]
    rw [hv] at hl ⊢
    simp at hl
    refine ev_step ?_
    simp only [impl_AppendUvarint.l0]
    refine ev_neg (by omega) (ev_pos (by omega) ?_)
    rw [show (n : Int) % 256 = n from by omega]
    exact ev_const rfl
  | succ N ih =>
    intro n acc hn hl
    refine ev_step ?_
    simp only [impl_AppendUvarint.l0]
    by_cases h : n < 128
    · have hv : venc n = [(n : Int)] := by rw [venc, if_pos h]
      rw [hv] at hl ⊢
      simp at hl
      refine ev_neg (by omega) (ev_pos (by omega) ?_)
      rw [show (n : Int) % 256 = n from by omega]
      exact ev_const rfl
    · have hv : venc n = ((n % 128 + 128 : Nat) : Int) :: venc (n / 128) := by rw [venc, if_neg h]
      rw [hv] at hl ⊢
      simp at hl
      refine ev_pos (by omega) (ev_pos (by omega) ?_)
      rw [or_u8 n, show (n : Int) / 128 = ((n / 128 : Nat) : Int) from by omega]
      have := ih (n / 128) (acc ++ [((n % 128 + 128 : Nat) : Int)]) (by omega) (by simp; omega)
      simpa using this
/-- What appending a number to bytes comes to. -/
def appv (b : List Int) (n : Int) : List Int := if 0 ≤ n ∧ n ≤ 1000000000000 then b ++ venc n.toNat else b
theorem appv_len (b : List Int) (n : Int) : (appv b n).length ≤ b.length + 6 := by
  unfold appv
  split
  · have := venc_len6 n.toNat (by omega)
    simp
    omega
  · omega
theorem appv_bd (b : List Int) (n : Int) (hw : ∀ v ∈ b, 0 ≤ v ∧ v ≤ 255) : ∀ v ∈ appv b n, 0 ≤ v ∧ v ≤ 255 := by
  unfold appv
  split
  · intro v hv
    rcases List.mem_append.1 hv with h | h
    · exact hw v h
    · exact venc_bd n.toNat n.toNat (Nat.le_refl _) v h
  · exact hw
theorem AU_sev (b : List Int) (n : Int) (hb : b.length ≤ 100000000000000) : Ev (fun k => spec_AppendUvarint.f k b n) (appv b n) := by
  unfold spec_AppendUvarint.f appv
  refine ev_bindc rfl (ev_pos (by simp; omega) (ev_bindc rfl (ev_bindc (l1In_v _ _ _) ?_)))
  by_cases h : 0 ≤ n ∧ n ≤ 1000000000000
  · rw [if_pos h]
    refine ev_pos (by simp [h]) ?_
    have hl := venc_len6 n.toNat (by omega)
    have := AU_sl n.toNat n.toNat b (Nat.le_refl _) (by omega) (by omega)
    rw [show ((n.toNat : Nat) : Int) = n from by omega] at this
    exact this
  · rw [if_neg h]
    exact ev_neg (by simp; omega) (ev_const rfl)
theorem AU_iev (b : List Int) (n : Int) (hb : b.length ≤ 100000000000000) : Ev (fun k => impl_AppendUvarint.f k b n) (appv b n) := by
  unfold impl_AppendUvarint.f appv
  refine ev_bindc (show impl_cloned.f b = some b from if_pos (by omega)) (ev_bindc (InRange_v _ _ _) ?_)
  by_cases h : 0 ≤ n ∧ n ≤ 1000000000000
  · rw [if_pos h]
    refine ev_pos (by simp [h]) ?_
    have hl := venc_len6 n.toNat (by omega)
    have := AU_il n.toNat n.toNat b (Nat.le_refl _) (by omega)
    rw [show ((n.toNat : Nat) : Int) = n from by omega] at this
    exact this
  · rw [if_neg h]
    exact ev_neg (by simp; omega) (ev_const rfl)

/-- A number's own encoding is read back. -/
theorem rvar_enc (sf : List Int) (p : List Int) (a : Int) (M : Nat) (hM : M ≤ 1000000000000) : ∀ (d m i : Nat) (n : Int), i + d = 6 → 0 ≤ a → a + (i : Int) = (p.length : Int) → m < 128 ^ d → 1 ≤ d → n + (m : Int) * 2 ^ (7 * i) = (M : Int) → 0 ≤ n → (0 < i → 0 < m) →
    ∀ x, x = p ++ (venc m ++ sf) → rvar x a d n = ((M : Int), ((p ++ venc m).length : Int), true) := by
  intro d
  induction d generalizing p with
  | zero => intro m i n _ _ _ _ h; omega
  | succ d ih =>
    intro m i n hi ha hai hm _ hval hn hpos x hx
    have e5 : (5 - (d : Int)) = (i : Int) := by omega
    have e6 : 5 - d = i := by omega
    have hP : (1 : Int) ≤ 2 ^ (7 * i) ∧ (2 : Int) ^ (7 * (i + 1)) = 128 * 2 ^ (7 * i) := by
      have : i = 0 ∨ i = 1 ∨ i = 2 ∨ i = 3 ∨ i = 4 ∨ i = 5 := by omega
      rcases this with rfl | rfl | rfl | rfl | rfl | rfl <;> decide
    rw [rvar, e5, e6]
    by_cases h : m < 128
    · have hv : venc m = [(m : Int)] := by rw [venc, if_pos h]
      rw [hv] at hx
      subst hx
      have hrd : rd (p ++ ([(m : Int)] ++ sf)) (a + (i : Int)) = (m : Int) := by
        rw [hai, rd_at _ p.length (by simp), List.getElem_append_right (by omega)]
        simp
      rw [hrd, hv, if_pos ⟨ha, by simp; omega⟩, if_pos (by omega), show (m : Int) % 128 = m from by omega, hval, if_neg (by omega)]
      simp
      omega
    · have hv : venc m = ((m % 128 + 128 : Nat) : Int) :: venc (m / 128) := by rw [venc, if_neg h]
      have hrd : rd x (a + (i : Int)) = ((m % 128 + 128 : Nat) : Int) := by
        rw [hx, hv, hai, rd_at _ p.length (by simp), List.getElem_append_right (by omega)]
        simp
      have hlen : a + (i : Int) < (x.length : Int) := by
        rw [hx, hv]; simp; omega
      rw [hrd, if_pos ⟨ha, hlen⟩, if_neg (by omega)]
      have hd : 1 ≤ d := by
        rcases Nat.eq_zero_or_pos d with z | z
        · subst z; omega
        · exact z
      rw [show (p ++ venc m).length = (p ++ [((m % 128 + 128 : Nat) : Int)] ++ venc (m / 128)).length from by rw [hv]; simp]
      refine ih (p ++ [((m % 128 + 128 : Nat) : Int)]) (m / 128) (i + 1) _ (by omega) ha (by simp; omega) (by rw [Nat.div_lt_iff_lt_mul (by omega)]; rw [Nat.pow_succ] at hm; exact hm) hd ?_ ?_ (by omega) x (by rw [hx, hv]; simp)
      · rw [hP.2]
        have hq : ((m % 128 + 128 : Nat) : Int) % 128 = ((m % 128 : Nat) : Int) := by omega
        have hs : (m : Int) = 128 * ((m / 128 : Nat) : Int) + ((m % 128 : Nat) : Int) := by omega
        have hz : (m : Int) * 2 ^ (7 * i) = ((m / 128 : Nat) : Int) * (128 * 2 ^ (7 * i)) + ((m % 128 : Nat) : Int) * 2 ^ (7 * i) := by
          conv => lhs; rw [hs]
          rw [Int.add_mul, Int.mul_comm 128 ((m / 128 : Nat) : Int), Int.mul_assoc]
        rw [hq, ← hval, hz]
        omega
      · exact Int.add_nonneg hn (Int.mul_nonneg (by omega) (by omega))
theorem rvar_at (b sf : List Int) (n : Nat) (hn : n ≤ 1000000000000) : rvar (b ++ (venc n ++ sf)) (b.length : Int) 6 0 = ((n : Int), ((b ++ venc n).length : Int), true) :=
  rvar_enc sf b (b.length : Int) n hn 6 n 0 0 (by omega) (by omega) (by omega) (by omega) (by omega) (by simp) (by omega) (by omega) _ rfl
theorem rvar_read (b : List Int) (n : Nat) (hn : n ≤ 1000000000000) : rvar (b ++ venc n) (b.length : Int) 6 0 = ((n : Int), ((b ++ venc n).length : Int), true) := by
  have h := rvar_at b [] n hn
  rwa [List.append_nil] at h
theorem rvar_false (x : List Int) (a : Int) : ∀ (d : Nat) (n : Int), (rvar x a d n).2.2 ≠ true → rvar x a d n = (0, 0, false) := by
  intro d
  induction d with
  | zero => intro n _; rfl
  | succ d ih =>
    intro n
    simp only [rvar]
    split
    · split
      · split
        · intro _; rfl
        · intro h; exact absurd rfl h
      · exact ih _
    · intro _; rfl
theorem rvar_past (x : List Int) (a : Int) (d : Nat) (n : Int) (hd : d ≤ 6) (h : (x.length : Int) ≤ a) : (rvar x a d n).2.2 = false := by
  cases d with
  | zero => rfl
  | succ d => rw [rvar, if_neg (by omega)]
/-- What is read is its own encoding. -/
theorem rvar_canon (y : List Int) (a : Int) (hw : ∀ v ∈ y, 0 ≤ v ∧ v ≤ 255) : ∀ (d i : Nat) (n m e : Int), i + d = 6 → 0 ≤ n → rvar y a d n = (m, e, true) →
    ∃ q : Nat, m = n + (q : Int) * 2 ^ (7 * i) ∧ 0 ≤ a ∧ a + (i : Int) + ((venc q).length : Int) = e ∧ e ≤ (y.length : Int) ∧ (y.take e.toNat).drop (a + (i : Int)).toNat = venc q ∧ (0 < i → 0 < q) ∧ m ≤ 1000000000000 := by
  intro d
  induction d with
  | zero => intro i n m e _ _ h; simp [rvar] at h
  | succ d ih =>
    intro i n m e hi hn h
    have e5 : (5 - (d : Int)) = (i : Int) := by omega
    have e6 : 5 - d = i := by omega
    have hP : (1 : Int) ≤ 2 ^ (7 * i) ∧ (2 : Int) ^ (7 * (i + 1)) = 128 * 2 ^ (7 * i) := by
      have : i = 0 ∨ i = 1 ∨ i = 2 ∨ i = 3 ∨ i = 4 ∨ i = 5 := by omega
      rcases this with rfl | rfl | rfl | rfl | rfl | rfl <;> decide
    rw [rvar, e5, e6] at h
    by_cases h1 : 0 ≤ a ∧ a + (i : Int) < (y.length : Int)
    · rw [if_pos h1] at h
      obtain ⟨j, hj⟩ : ∃ j : Nat, a + (i : Int) = (j : Int) := ⟨(a + (i : Int)).toNat, by omega⟩
      have hjl : j < y.length := by omega
      rw [hj, rd_at y j hjl] at h
      have hb := hw y[j] (List.getElem_mem hjl)
      by_cases h2 : y[j] < 128
      · rw [if_pos h2] at h
        by_cases h3 : (y[j] = 0 ∧ d < 5) ∨ n + y[j] % 128 * 2 ^ (7 * i) > 1000000000000
        · rw [if_pos h3] at h
          simp at h
        · rw [if_neg h3] at h
          simp only [Prod.mk.injEq] at h
          obtain ⟨h4, h5, _⟩ := h
          have hv : venc y[j].toNat = [y[j]] := by
            rw [venc, if_pos (by omega)]
            congr 1
            omega
          refine ⟨y[j].toNat, ?_, h1.1, ?_, by omega, ?_, by omega, by omega⟩
          · rw [← h4, show ((y[j].toNat : Nat) : Int) = y[j] from by omega, show y[j] % 128 = y[j] from by omega]
          · rw [hv]; simp; omega
          · rw [hv, hj, ← h5, show ((j : Int) + 1).toNat = j + 1 from by omega, Int.toNat_natCast, List.take_succ_eq_append_getElem hjl, List.drop_append_of_le_length (by simp; omega), List.drop_of_length_le (by simp; omega)]
            rfl
      · rw [if_neg h2] at h
        obtain ⟨q, q1, q2, q3, q4, q5, q6, q7⟩ := ih (i + 1) _ m e (by omega) (Int.add_nonneg hn (Int.mul_nonneg (by omega) (by omega))) h
        have hq := q6 (by omega)
        have hv : venc (y[j].toNat - 128 + 128 * q) = y[j] :: venc q := by
          rw [venc, if_neg (by omega)]
          congr 1
          · omega
          · congr 1; omega
        refine ⟨y[j].toNat - 128 + 128 * q, ?_, q2, ?_, q4, ?_, by omega, q7⟩
        · rw [q1, hP.2]
          have hs : ((y[j].toNat - 128 + 128 * q : Nat) : Int) = y[j] % 128 + (q : Int) * 128 := by omega
          have hz : (y[j] % 128 + (q : Int) * 128) * 2 ^ (7 * i) = y[j] % 128 * 2 ^ (7 * i) + (q : Int) * (128 * 2 ^ (7 * i)) := by rw [Int.add_mul, Int.mul_assoc]
          rw [hs, hz]
          omega
        · rw [hv]; simp; omega
        · rw [hv, hj]
          have hje : j < e.toNat := by omega
          have hjt : j < (y.take e.toNat).length := by simp; omega
          rw [Int.toNat_natCast, List.drop_eq_getElem_cons hjt, List.getElem_take]
          rw [show a + ((i + 1 : Nat) : Int) = ((j + 1 : Nat) : Int) from by omega, Int.toNat_natCast] at q5
          rw [q5]
    · rw [if_neg h1] at h
      simp at h

theorem sameBytes_ev (x y : List Int) (hx : x.length ≤ 9223372036854775806) (b : Bool) (hb : b = true ↔ x = y) : Ev (fun k => laws_sameBytes.f k x y) b := by
  unfold laws_sameBytes.f
  refine ev_dec (fun h => ?_) (fun h => ?_)
  · exact eq_loop (L := laws_sameBytes.l0) (c := fun x y i => rd x i = rd y i) (fun _ _ _ _ => rfl) (fun x y i h h' => by rw [rd_at x i h, rd_at y i h']) x y hx (by omega) b x.length 0 (by omega) (by simpa using hb)
  · have e : b = false := by
      rw [Bool.eq_false_iff]
      intro z
      exact h (by rw [hb.mp z])
    subst e
    exact ev_const rfl
theorem sameBytes_refl (x : List Int) (hx : x.length ≤ 9223372036854775806) : Ev (fun k => laws_sameBytes.f k x x) true := sameBytes_ev x x hx true (by simp)

theorem drawRead_l (l : List Int) (hl : l.length ≤ 1000000000000000000) : ∀ (m : Nat) (out : List Int) (i h : Int), 0 ≤ i → m ≤ 8 → out.length + m ≤ 8 → (∀ v ∈ out, 0 ≤ v ∧ v ≤ 255) →
    ∃ y o, Ev (fun k => spec_DrawReadUvarint.l0 k out (m : Int) l i h) (y, o) ∧ y.length ≤ 8 ∧ (∀ v ∈ y, 0 ≤ v ∧ v ≤ 255) ∧ -9 ≤ o ∧ o ≤ 9 := by
  intro m
  induction m with
  | zero =>
    intro out i h hi _ ho hw
    obtain ⟨x, i1, h1, e, p, q, _, c⟩ := l1Below_ok l i h 4 hl hi
    have q' := q (by omega)
    refine ⟨out, x - 1, ev_step ?_, by omega, hw, by omega, by omega⟩
    simp only [spec_DrawReadUvarint.l0]
    exact ev_neg (by omega) (ev_bindc e (ev_const (by rw [w64 (by omega) (by omega)])))
  | succ m ih =>
    intro out i h hi hm ho hw
    obtain ⟨x, i1, h1, e, p, c⟩ := l1Int_ok l i h [128, 255, 0, 1, 127] hl hi (by simp)
    have hw2 : ∀ v ∈ out ++ [x % 256], 0 ≤ v ∧ v ≤ 255 := by
      intro v hv
      rcases List.mem_append.1 hv with z | z
      · exact hw v z
      · simp at z; omega
    obtain ⟨y, o, e2, q1, q2, q3⟩ := ih (out ++ [x % 256]) i1 h1 c (by omega) (by simp; omega) hw2
    refine ⟨y, o, ev_step ?_, q1, q2, q3⟩
    simp only [spec_DrawReadUvarint.l0]
    refine ev_pos (by omega) (ev_bindc e (ev_pos (by omega) ?_))
    rw [show wrap64 (((m + 1 : Nat) : Int) - 1) = (m : Int) from by rw [w64 (by omega) (by omega)]; omega]
    exact e2
theorem drawRead (l : List Int) (hl : l.length ≤ 1000000000000000000) : ∃ y o, Ev (fun k => spec_DrawReadUvarint.f k l) (y, o) ∧ y.length ≤ 8 ∧ (∀ v ∈ y, 0 ≤ v ∧ v ≤ 255) ∧ -9 ≤ o ∧ o ≤ 9 := by
  obtain ⟨h1, e1⟩ := l1New_ok l hl
  obtain ⟨q, i2, h2, e2, c2⟩ := l1Once_ok l 0 h1 2 hl (by omega)
  unfold spec_DrawReadUvarint.f
  cases q with
  | true =>
    obtain ⟨b, i3, h3, e3, _, p3, w3, c3⟩ := l1Bytes_ok l i2 h2 1 hl c2 (by omega)
    obtain ⟨n, i4, h4, e4, p4, q4, c4⟩ := l1Num_ok l i3 h3 hl c3
    have hb := p3 (by omega)
    have := appv_len b n
    exact ⟨appv b n, 1, ev_bind e1 (ev_bindc e2 (ev_pos rfl (ev_bind e3 (ev_bindc e4 (ev_bind (AU_sev b n (by omega)) (ev_const rfl)))))), by omega, appv_bd b n w3, by omega, by omega⟩
  | false =>
    obtain ⟨n, i3, h3, e3, p3, q3, _, c3⟩ := l1Below_ok l i2 h2 8 hl c2
    obtain ⟨m, rfl⟩ := Int.eq_ofNat_of_zero_le p3
    have q3' := q3 (by omega)
    obtain ⟨y, o, e4, r⟩ := drawRead_l l hl m [] i3 h3 c3 (by omega) (by simp; omega) (by simp)
    exact ⟨y, o, ev_bind e1 (ev_bindc e2 (ev_neg (by simp) (ev_bindc e3 e4))), r⟩
theorem FnVarints_j1 (l : List Int) (hl : l.length ≤ 1000000000000000000) : Ev (fun k => laws_FnVarints.j1 k l) true := by
  refine ev_step ?_
  simp only [laws_FnVarints.j1]
  obtain ⟨y, o, e, hy, hw, ho⟩ := drawRead l hl
  refine ev_bind e (ev_bind (RU_iev y (by omega) hw o (by omega)) ?_)
  refine ev_dec (fun h => ?_) (fun h => ?_)
  · obtain ⟨m, e2, hm⟩ : ∃ m e2, rvar y o 6 0 = (m, e2, true) := ⟨(rvar y o 6 0).1, (rvar y o 6 0).2.1, by rw [← h]⟩
    rw [hm]
    obtain ⟨q, q1, q2, q3, q4, q5, _, q7⟩ := rvar_canon y o hw 6 0 0 m e2 (by omega) (by omega) hm
    have hv := venc_len6 q (by simp at q1; omega)
    have hmq : m = (q : Int) := by simpa using q1
    have ho2 : o + ((0 : Nat) : Int) = o := by simp
    rw [ho2] at q5 q3
    simp only []
    refine ev_pos q2 (ev_pos q4 (ev_pos (by omega) (ev_bind (AU_iev [] m (by simp)) ?_)))
    have ha : appv [] m = venc q := by
      unfold appv
      rw [if_pos (by omega), hmq, List.nil_append, Int.toNat_natCast]
    rw [ha, q5]
    exact ev_pos q2 (ev_pos (by omega) (ev_bind (sameBytes_refl _ (by omega)) (ev_const rfl)))
  · have hz := rvar_false y o 6 0 h
    rw [hz]
    refine ev_bind (RU_sev y (by omega) hw o (by omega)) ?_
    rw [hz]
    exact ev_pos rfl (ev_pos rfl (ev_const rfl))
end OfFnVarints
open OfFnVarints in
theorem FnVarints : laws_FnVarints.Pure := by
  intro l _ hb _
  apply Ev.rounds
  unfold laws_FnVarints.f laws_big.f
  refine ev_bindc rfl (ev_dec (fun _ => ev_const rfl) (fun h0 => ?_))
  have hl : l.length ≤ 1000000000000000000 := by omega
  obtain ⟨h1, e1⟩ := l1New_ok l hl
  obtain ⟨n, i2, h2, e2, p2, q2, _, c2⟩ := l1Below_ok l 0 h1 3 hl (by omega)
  have q2' := q2 (by omega)
  obtain ⟨b, i3, h3, e3, _, p3, w3, c3⟩ := l1Bytes_ok l i2 h2 n hl c2 (by omega)
  have hbl := p3 p2
  obtain ⟨v, i4, h4, e4, v0, v1, c4⟩ := l1One_ok l i3 h3 hl c3
  have d : Ev (fun k => spec_DrawAppendUvarint.f k l) (b, v) := by
    unfold spec_DrawAppendUvarint.f
    exact ev_bind e1 (ev_bindc e2 (ev_bind e3 (ev_bindc e4 (ev_const rfl))))
  have hx := appv_len b v
  refine ev_bind d (ev_bind (AU_iev b v (by omega)) (ev_bind (RU_iev (appv b v) (by omega) (appv_bd b v w3) (b.length : Int) (by omega)) ?_))
  have j1 := FnVarints_j1 l hl
  by_cases hv : 0 ≤ v ∧ v ≤ 1000000000000
  · have ha : appv b v = b ++ venc v.toNat := if_pos hv
    have hr := rvar_read b v.toNat (by omega)
    refine ev_neg (by omega) ?_
    rw [ha, hr, decide_eq_false (show ¬ v > 1000000000000 from by omega)]
    refine ev_step ?_
    simp only [laws_FnVarints.j0]
    exact ev_neg (by simp) (ev_pos (by first | trivial | rfl) (ev_pos (by omega) (ev_pos (by first | trivial | rfl) j1)))
  · have ha : appv b v = b := if_neg hv
    have hr := rvar_false b (b.length : Int) 6 0 (by rw [rvar_past b _ 6 0 (by omega) (by omega)]; simp)
    have st : Ev (fun k => laws_FnVarints.j0 k l b v b 0 0 false true) true := by
      refine ev_step ?_
      simp only [laws_FnVarints.j0]
      exact ev_pos (by first | trivial | rfl) (ev_neg (by simp) (ev_bind (sameBytes_refl b (by omega)) (ev_pos rfl j1)))
    rw [ha, hr]
    refine ev_dec (fun _ => st) (fun hn => ?_)
    rw [decide_eq_true (show v > 1000000000000 from by omega)]
    exact st
end Go.Proofs.Ytcmjcppgfhdbmaa.Pure
