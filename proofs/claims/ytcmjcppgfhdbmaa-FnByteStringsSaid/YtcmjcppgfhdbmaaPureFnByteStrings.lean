/- The pure statement of FnByteStrings: what the printed functions compute answers true for all arguments within the printed bounds. -/
import Derived.Test.YtcmjcppgfhdbmaaPFnByteStringsx3
import Derived.Test.YtcmjcppgfhdbmaaKit
namespace Go.Proofs.Ytcmjcppgfhdbmaa.Pure
open Go.RowKit Go.Proofs.Ytcmjcppgfhdbmaa.PFnByteStrings Go.Proofs.YtcmjcppgfhdbmaaW.PrintWords Go.Proofs.YtcmjcppgfhdbmaaW.PrintLast Go.Proofs.Ytcmjcppgfhdbmaa.Kit
set_option linter.unusedVariables false
set_option linter.unusedSimpArgs false
namespace OfFnByteStrings
theorem l1New_ok (b : List Int) (hb : b.length ≤ 1000000000000000000) : ∃ h, Ev (fun k => spec_l1New.f k b) (b, 0, h) := by
  have key : ∀ (m i : Nat) (h : Int), i + m = b.length → ∃ h', Ev (fun k => spec_l1New.l0 k b h (i : Int)) (b, 0, h') := by
    intro m
    induction m with
    | zero =>
      intro i h hi
      refine ⟨h, ev_step ?_⟩
      simp only [spec_l1New.l0]
      exact ev_neg (by omega) (ev_const rfl)
    | succ m ih =>
      intro i h hi
      by_cases h4 : (i : Int) < 4000
      · obtain ⟨h', e⟩ := ih (i + 1) (Go.bits .and .i64 (wrap64 ((wrap64 ((wrap64 (h * 137)) + (wrap64 (rd b (i : Int))))) + 11)) 1073741823) (by omega)
        refine ⟨h', ev_step ?_⟩
        simp only [spec_l1New.l0]
        rw [w64s (n := b.length) (by omega) (by omega)]
        exact ev_pos (by omega) (ev_pos h4 (ev_pos (by omega) e))
      · refine ⟨h, ev_step ?_⟩
        simp only [spec_l1New.l0]
        exact ev_pos (by omega) (ev_neg h4 (ev_const rfl))
  unfold spec_l1New.f
  exact key b.length 0 _ (by omega)

theorem and255 (x : Int) : 0 ≤ Go.bits .and .i64 x 255 ∧ Go.bits .and .i64 x 255 ≤ 255 := by
  unfold Go.bits
  simp only []
  have h1 : (BitVec.ofInt IntKind.i64.bits x &&& BitVec.ofInt IntKind.i64.bits 255).toNat ≤ 255 := by
    rw [BitVec.toNat_and]
    exact Nat.le_trans Nat.and_le_right (by decide)
  generalize (BitVec.ofInt IntKind.i64.bits x &&& BitVec.ofInt IntKind.i64.bits 255).toNat = n at h1
  rw [IntKind.wrap_i64]
  omega

/-- The drawing of bytes and of what is made of them: each draw ends, and its values lie where they should. The reader's place i never is below 0. -/
theorem l1Byte_ok (b : List Int) (i h : Int) (hb : b.length ≤ 1000000000000000000) (hi : 0 ≤ i) : ∃ x i' h', spec_l1Byte.f b i h = some (x, i', h') ∧ 0 ≤ x ∧ x ≤ 255 ∧ 0 ≤ i' := by
  unfold spec_l1Byte.f
  by_cases h1 : i < (b.length : Int)
  · rw [if_pos h1, if_pos hi]
    exact ⟨_, _, _, rfl, (and255 _).1, (and255 _).2, by rw [w64 (by omega) (by omega)]; omega⟩
  · rw [if_neg h1]
    exact ⟨_, _, _, rfl, (and255 _).1, (and255 _).2, hi⟩
theorem l1Below_ok (b : List Int) (i h n : Int) (hb : b.length ≤ 1000000000000000000) (hi : 0 ≤ i) : ∃ x i' h', spec_l1Below.f b i h n = some (x, i', h') ∧ 0 ≤ x ∧ (0 < n → x < n) ∧ (n ≤ 0 → x = 0) ∧ 0 ≤ i' := by
  unfold spec_l1Below.f
  by_cases h1 : n ≤ 0
  · rw [if_pos h1]
    exact ⟨_, _, _, rfl, by omega, by omega, by omega, hi⟩
  · rw [if_neg h1]
    obtain ⟨x1, i1, h1', e1, a1, b1, c1⟩ := l1Byte_ok b i h hb hi
    by_cases h2 : n ≤ 256
    · rw [if_pos h2, e1, Option.bind_some, if_neg (by omega)]
      exact ⟨_, _, _, rfl, Int.tmod_nonneg _ a1, fun _ => Int.tmod_lt_of_pos _ (by omega), by omega, c1⟩
    · obtain ⟨x2, i2, h2', e2, a2, b2, c2⟩ := l1Byte_ok b i1 h1' hb c1
      obtain ⟨x3, i3, h3', e3, a3, b3, c3⟩ := l1Byte_ok b i2 h2' hb c2
      rw [if_neg h2, e1, Option.bind_some, e2, Option.bind_some, e3, Option.bind_some, if_neg (by omega)]
      refine ⟨_, _, _, rfl, ?_, fun _ => Int.tmod_lt_of_pos _ (by omega), by omega, c3⟩
      simp only []
      rw [w64 (i := x1 * 65536) (by omega) (by omega), w64 (i := x2 * 256) (by omega) (by omega), w64 (i := x1 * 65536 + x2 * 256) (by omega) (by omega), w64 (i := x1 * 65536 + x2 * 256 + x3) (by omega) (by omega)]
      exact Int.tmod_nonneg _ (by omega)

theorem l1Bytes_ok (b : List Int) (i h n : Int) (hb : b.length ≤ 1000000000000000000) (hi : 0 ≤ i) (hn : n ≤ 1000000) : ∃ r i' h', Ev (fun k => spec_l1Bytes.f k b i h n) (r, i', h') ∧ (r.length : Int) ≤ 1000000 ∧ (0 ≤ n → (r.length : Int) = n) ∧ (∀ v ∈ r, 0 ≤ v ∧ v ≤ 255) ∧ 0 ≤ i' := by
  have key : ∀ (m : Nat) (j : Nat) (out : List Int) (i h : Int), 0 ≤ i → (j : Int) + m = (if 0 ≤ n then n else 0) → out.length = j → (∀ v ∈ out, 0 ≤ v ∧ v ≤ 255) →
      ∃ r i' h', Ev (fun k => spec_l1Bytes.l0 k n out (j : Int) b i h) (r, i', h') ∧ (r.length : Int) = (if 0 ≤ n then n else 0) ∧ (∀ v ∈ r, 0 ≤ v ∧ v ≤ 255) ∧ 0 ≤ i' := by
    intro m
    induction m with
    | zero =>
      intro j out i h hi hj ho hw
      refine ⟨out, i, h, ev_step ?_, by omega, hw, hi⟩
      simp only [spec_l1Bytes.l0]
      exact ev_neg (by split at hj <;> omega) (ev_const rfl)
    | succ m ih =>
      intro j out i h hi hj ho hw
      obtain ⟨x, i1, h1, e, p, q, c⟩ := l1Byte_ok b i h hb hi
      have hw2 : ∀ v ∈ out ++ [x % 256], 0 ≤ v ∧ v ≤ 255 := by
        intro v hv
        rcases List.mem_append.1 hv with z | z
        · exact hw v z
        · simp at z; omega
      obtain ⟨r, i', h', e2, hl, hw3, c2⟩ := ih (j + 1) (out ++ [x % 256]) i1 h1 c (by omega) (by simp [ho]) hw2
      refine ⟨r, i', h', ev_step ?_, hl, hw3, c2⟩
      simp only [spec_l1Bytes.l0]
      have hlt : (j : Int) < n := by split at hj <;> omega
      refine ev_pos hlt (ev_bindc e (ev_pos (by omega) ?_))
      rw [show wrap64 ((j : Int) + 1) = ((j + 1 : Nat) : Int) from by rw [w64 (by omega) (by omega)]; omega]
      exact e2
  unfold spec_l1Bytes.f
  obtain ⟨r, i', h', e, hl, hw, c⟩ := key (if 0 ≤ n then n else 0).toNat 0 [] i h hi (by split <;> omega) rfl (by simp)
  exact ⟨r, i', h', e, by split at hl <;> omega, fun z => by rw [if_pos z] at hl; exact hl, hw, c⟩

theorem wraps_i64 (n : Int) (h₀ : 0 ≤ n) (h₁ : n < 2 ^ 62) : IntKind.i64.wrap n = n := by rw [IntKind.wrap_i64]; omega
theorem or_comm64 (x y : Int) : Go.bits .or .i64 x y = Go.bits .or .i64 y x := by
  unfold Go.bits
  simp only [BitVec.or_comm]
theorem or_add (n y : Int) (s : Nat) (hs : s ≤ 62) (h0 : 0 ≤ n) (h1 : n < 2 ^ s) (hy0 : 0 ≤ y) (hy : y % 2 ^ s = 0) (hy1 : y < 2 ^ 62) (hn1 : n < 2 ^ 62) : Go.bits .or .i64 n y = n + y := by
  rw [or_comm64, bits_join .i64 62 (by decide) wraps_i64 s y n hy0 hy hy1 h0 h1 hn1, Int.add_comm]
theorem and127 (b : Int) (h0 : 0 ≤ b) (h1 : b < 2 ^ 62) : Go.bits .and .i64 b 127 = b % 128 := by
  have h := bits_mask .i64 62 (by decide) wraps_i64 7 (by decide) b h0 h1
  simpa using h

theorem InRange_v (a b c : Int) : impl_InRange.f a b c = some (decide (b ≤ a ∧ a ≤ c)) := by
  unfold impl_InRange.f
  by_cases h : b ≤ a <;> simp [h]

theorem RU_bits (b n : Int) (j : Nat) (hj : j ≤ 5) (hb0 : 0 ≤ b) (hb1 : b ≤ 255) (h0 : 0 ≤ n) (h1 : n < 2 ^ (7 * j)) :
    Go.bits .or .i64 n (shl .i64 (Go.bits .and .i64 (wrap64 b) 127) (wrap64 (7 * (j : Int)))) = n + b % 128 * 2 ^ (7 * j) ∧ 0 ≤ n + b % 128 * 2 ^ (7 * j) ∧ n + b % 128 * 2 ^ (7 * j) < 2 ^ (7 * (j + 1)) := by
  have hP : (1 : Int) ≤ 2 ^ (7 * j) ∧ (2 : Int) ^ (7 * j) ≤ 34359738368 ∧ (2 : Int) ^ (7 * (j + 1)) = 128 * 2 ^ (7 * j) := by
    have : j = 0 ∨ j = 1 ∨ j = 2 ∨ j = 3 ∨ j = 4 ∨ j = 5 := by omega
    rcases this with rfl | rfl | rfl | rfl | rfl | rfl <;> decide
  obtain ⟨hP1, hP2, hP3⟩ := hP
  have hm : b % 128 * 2 ^ (7 * j) ≤ 127 * 2 ^ (7 * j) := Int.mul_le_mul_of_nonneg_right (by omega) (by omega)
  have hm0 : 0 ≤ b % 128 * 2 ^ (7 * j) := Int.mul_nonneg (by omega) (by omega)
  have hmod : b % 128 * 2 ^ (7 * j) % 2 ^ (7 * j) = 0 := Int.mul_emod_left _ _
  refine ⟨?_, by omega, by omega⟩
  unfold shl
  rw [w64 (i := b) (by omega) (by omega), w64 (i := 7 * (j : Int)) (by omega) (by omega), and127 b hb0 (by omega), show min (7 * (j : Int)).toNat IntKind.i64.bits = 7 * j from by simp [IntKind.bits]; omega]
  rw [wraps_i64 _ hm0 (by omega)]
  exact or_add _ _ (7 * j) (by omega) h0 h1 hm0 hmod (by omega) (by omega)
/-- What reading a varint comes to: d bytes may still be read, n is what has been read. -/
def rvar (x : List Int) (a : Int) : Nat → Int → Int × Int × Bool
  | 0, _ => (0, 0, false)
  | d + 1, n => if 0 ≤ a ∧ a + (5 - (d : Int)) < (x.length : Int) then
      (if rd x (a + (5 - (d : Int))) < 128 then
        (if (rd x (a + (5 - (d : Int))) = 0 ∧ d < 5) ∨ n + rd x (a + (5 - (d : Int))) % 128 * 2 ^ (7 * (5 - d)) > 1000000000000 then (0, 0, false)
         else (n + rd x (a + (5 - (d : Int))) % 128 * 2 ^ (7 * (5 - d)), a + (5 - (d : Int)) + 1, true))
       else rvar x a d (n + rd x (a + (5 - (d : Int))) % 128 * 2 ^ (7 * (5 - d))))
    else (0, 0, false)
theorem rd_bd (x : List Int) (hw : ∀ v ∈ x, 0 ≤ v ∧ v ≤ 255) (i : Int) : 0 ≤ rd x i ∧ rd x i ≤ 255 := by
  unfold rd
  rw [List.getD_eq_getElem?_getD]
  rcases h : x[i.toNat]? with _ | v
  · simp
  · exact hw v (List.mem_of_getElem? h)
theorem rvar_bd (x : List Int) (a : Int) (hx : x.length ≤ 1000000000000000) (hw : ∀ v ∈ x, 0 ≤ v ∧ v ≤ 255) : ∀ (d : Nat) (n : Int), d ≤ 6 → 0 ≤ n → 0 ≤ (rvar x a d n).1 ∧ (rvar x a d n).1 ≤ 1000000000000 ∧ 0 ≤ (rvar x a d n).2.1 ∧ (rvar x a d n).2.1 ≤ (x.length : Int) := by
  intro d
  induction d with
  | zero => intro n _ _; simp [rvar]
  | succ d ih =>
    intro n hd h0
    have hb := rd_bd x hw (a + (5 - (d : Int)))
    have hm0 : 0 ≤ rd x (a + (5 - (d : Int))) % 128 * 2 ^ (7 * (5 - d)) := Int.mul_nonneg (by omega) (Int.pow_nonneg (by omega))
    simp only [rvar]
    split
    · split
      · split
        · simp
        · simp only []
          omega
      · exact ih _ (by omega) (by omega)
    · simp
theorem RU_il (x : List Int) (hx : x.length ≤ 1000000000000000) (hw : ∀ v ∈ x, 0 ≤ v ∧ v ≤ 255) (a : Int) (ha : -9223372036854775808 ≤ a ∧ a ≤ 9223372036854775807) :
    ∀ (d i : Nat) (n : Int), i + d = 6 → 0 ≤ n → n < 2 ^ (7 * i) → Ev (fun k => impl_ReadUvarint.l0 k x a n (i : Int)) (rvar x a d n) := by
  intro d
  induction d with
  | zero =>
    intro i n hi _ _
    refine ev_step ?_
    simp only [impl_ReadUvarint.l0, rvar]
    exact ev_neg (by omega) (ev_const rfl)
  | succ d ih =>
    intro i n hi h0 h1
    have e5 : (5 - (d : Int)) = (i : Int) := by omega
    have e6 : 5 - d = i := by omega
    refine ev_step ?_
    simp only [impl_ReadUvarint.l0, rvar]
    rw [e5, e6, w64 (i := (x.length : Int) - 1) (by omega) (by omega), w64 (i := (x.length : Int) - 1 - i) (by omega) (by omega)]
    refine ev_pos (by omega) (ev_bindc (InRange_v _ _ _) ?_)
    by_cases hlt : 0 ≤ a ∧ a + (i : Int) < (x.length : Int)
    · have hb := rd_bd x hw (a + (i : Int))
      obtain ⟨hbits, hn0, hn1⟩ := RU_bits (rd x (a + (i : Int))) n i (by omega) hb.1 hb.2 h0 h1
      rw [if_pos hlt]
      refine ev_pos (by simp; omega) ?_
      rw [w64 (i := a + (i : Int)) (by omega) (by omega), hbits, w64 (i := rd x (a + (i : Int))) (by omega) (by omega), w64 (i := 7 * (i : Int)) (by omega) (by omega), w64 (i := a + (i : Int) + 1) (by omega) (by omega), w64s (n := 6) (i := i) (by omega) (by omega)]
      refine ev_pos (by omega) (ev_pos (by omega) (ev_pos (by omega) (ev_dec (fun hb1 => ?_) (fun hb1 => ?_))))
      · rw [if_neg (show ¬ rd x (a + (i : Int)) < 128 from by omega)]
        exact ih (i + 1) _ (by omega) hn0 hn1
      · rw [if_pos (show rd x (a + (i : Int)) < 128 from by omega)]
        refine ev_dec (fun hp => ?_) (fun hp => ?_)
        · refine ev_dec (fun hz => ?_) (fun hz => ?_)
          · rw [if_pos (Or.inl ⟨hz, by omega⟩)]
            exact ev_const rfl
          · refine ev_dec (fun hM => ?_) (fun hM => ?_)
            · rw [if_pos (Or.inr hM)]
              exact ev_const rfl
            · rw [if_neg (by omega)]
              exact ev_const rfl
        · refine ev_dec (fun hM => ?_) (fun hM => ?_)
          · rw [if_pos (Or.inr hM)]
            exact ev_const rfl
          · rw [if_neg (by omega)]
            exact ev_const rfl
    · rw [if_neg hlt]
      exact ev_neg (by simp; omega) (ev_const rfl)
theorem RU_iev (x : List Int) (hx : x.length ≤ 1000000000000000) (hw : ∀ v ∈ x, 0 ≤ v ∧ v ≤ 255) (a : Int) (ha : -9223372036854775808 ≤ a ∧ a ≤ 9223372036854775807) : Ev (fun k => impl_ReadUvarint.f k x a) (rvar x a 6 0) := by
  unfold impl_ReadUvarint.f
  exact RU_il x hx hw a ha 6 0 0 (by omega) (by omega) (by decide)


/-- The bytes of a number, low ones first. -/
def venc (n : Nat) : List Int := if n < 128 then [(n : Int)] else ((n % 128 + 128 : Nat) : Int) :: venc (n / 128)
termination_by n
decreasing_by omega
theorem venc_len : ∀ (d n : Nat), n < 128 ^ (d + 1) → 1 ≤ (venc n).length ∧ (venc n).length ≤ d + 1 := by
  intro d
  induction d with
  | zero =>
    intro n hn
    rw [venc, if_pos (by simpa using hn)]
    simp
  | succ d ih =>
    intro n hn
    rw [venc]
    split
    · simp
    · have := ih (n / 128) (by rw [Nat.div_lt_iff_lt_mul (by omega)]; rw [Nat.pow_succ] at hn; exact hn)
      simp
      omega
theorem venc_len6 (n : Nat) (h : n ≤ 1000000000000) : 1 ≤ (venc n).length ∧ (venc n).length ≤ 6 := venc_len 5 n (by omega)
theorem venc_bd : ∀ (N n : Nat), n ≤ N → ∀ v ∈ venc n, 0 ≤ v ∧ v ≤ 255 := by
  intro N
  induction N with
  | zero =>
    intro n hn v hv
    rw [venc, if_pos (by omega)] at hv
    simp at hv
    omega
  | succ N ih =>
    intro n hn v hv
    rw [venc] at hv
    split at hv
    · simp at hv
      omega
    · rcases List.mem_cons.1 hv with h | h
      · omega
      · exact ih (n / 128) (by omega) v h
theorem or_u8 (n : Nat) : Go.bits .or .u8 (((n : Int)) % 256) 128 = ((n % 128 + 128 : Nat) : Int) := by
  rw [show ((n : Int)) % 256 = ((n % 256 : Nat) : Int) from by omega, show (128 : Int) = ((128 : Nat) : Int) from rfl, (bits_nat .u8 8 (by decide) wraps_u8 (n % 256) 128 (by omega) (by omega)).2]
  have h : ∀ m, m < 256 → m ||| 128 = m % 128 + 128 := by decide +kernel
  rw [h (n % 256) (by omega)]
  omega
theorem or_i64 (n : Nat) (hn : n ≤ 1000000000000) : (Go.bits .or .i64 (Go.bits .and .i64 (n : Int) 127) 128) % 256 = ((n % 128 + 128 : Nat) : Int) := by
  rw [and127 _ (by omega) (by omega), show ((n : Int)) % 128 = ((n % 128 : Nat) : Int) from by omega, show (128 : Int) = ((128 : Nat) : Int) from rfl, (bits_nat .i64 62 (by decide) wraps_i64 (n % 128) 128 (by omega) (by omega)).2]
  have h : ∀ m, m < 128 → m ||| 128 = m + 128 := by decide +kernel
  rw [h (n % 128) (by omega)]
  omega
theorem AU_il : ∀ (N n : Nat) (acc : List Int), n ≤ N → acc.length + (venc n).length ≤ 140737488355328 → Ev (fun k => impl_AppendUvarint.l0 k (n : Int) acc) (acc ++ venc n) := by
  intro N
  induction N with
  | zero =>
    intro n acc hn hl
    have hv : venc n = [(n : Int)] := by rw [venc, if_pos (by omega)]
    rw [hv] at hl ⊢
    simp at hl
    refine ev_step ?_
    simp only [impl_AppendUvarint.l0]
    refine ev_neg (by omega) (ev_pos (by omega) ?_)
    rw [show (n : Int) % 256 = n from by omega]
    exact ev_const rfl
  | succ N ih =>
    intro n acc hn hl
    refine ev_step ?_
    simp only [impl_AppendUvarint.l0]
    by_cases h : n < 128
    · have hv : venc n = [(n : Int)] := by rw [venc, if_pos h]
      rw [hv] at hl ⊢
      simp at hl
      refine ev_neg (by omega) (ev_pos (by omega) ?_)
      rw [show (n : Int) % 256 = n from by omega]
      exact ev_const rfl
    · have hv : venc n = ((n % 128 + 128 : Nat) : Int) :: venc (n / 128) := by rw [venc, if_neg h]
      rw [hv] at hl ⊢
      simp at hl
      refine ev_pos (by omega) (ev_pos (by omega) ?_)
      rw [or_u8 n, show (n : Int) / 128 = ((n / 128 : Nat) : Int) from by omega]
      have := ih (n / 128) (acc ++ [((n % 128 + 128 : Nat) : Int)]) (by omega) (by simp; omega)
      simpa using this
/-- What appending a number to bytes comes to. -/
def appv (b : List Int) (n : Int) : List Int := if 0 ≤ n ∧ n ≤ 1000000000000 then b ++ venc n.toNat else b
theorem appv_len (b : List Int) (n : Int) : (appv b n).length ≤ b.length + 6 := by
  unfold appv
  split
  · have := venc_len6 n.toNat (by omega)
    simp
    omega
  · omega
theorem appv_bd (b : List Int) (n : Int) (hw : ∀ v ∈ b, 0 ≤ v ∧ v ≤ 255) : ∀ v ∈ appv b n, 0 ≤ v ∧ v ≤ 255 := by
  unfold appv
  split
  · intro v hv
    rcases List.mem_append.1 hv with h | h
    · exact hw v h
    · exact venc_bd n.toNat n.toNat (Nat.le_refl _) v h
  · exact hw
theorem AU_iev (b : List Int) (n : Int) (hb : b.length ≤ 100000000000000) : Ev (fun k => impl_AppendUvarint.f k b n) (appv b n) := by
  unfold impl_AppendUvarint.f appv
  refine ev_bindc (show impl_cloned.f b = some b from if_pos (by omega)) (ev_bindc (InRange_v _ _ _) ?_)
  by_cases h : 0 ≤ n ∧ n ≤ 1000000000000
  · rw [if_pos h]
    refine ev_pos (by simp [h]) ?_
    have hl := venc_len6 n.toNat (by omega)
    have := AU_il n.toNat n.toNat b (Nat.le_refl _) (by omega)
    rw [show ((n.toNat : Nat) : Int) = n from by omega] at this
    exact this
  · rw [if_neg h]
    exact ev_neg (by simp; omega) (ev_const rfl)

/-- A number's own encoding is read back. -/
theorem rvar_enc (sf : List Int) (p : List Int) (a : Int) (M : Nat) (hM : M ≤ 1000000000000) : ∀ (d m i : Nat) (n : Int), i + d = 6 → 0 ≤ a → a + (i : Int) = (p.length : Int) → m < 128 ^ d → 1 ≤ d → n + (m : Int) * 2 ^ (7 * i) = (M : Int) → 0 ≤ n → (0 < i → 0 < m) →
    ∀ x, x = p ++ (venc m ++ sf) → rvar x a d n = ((M : Int), ((p ++ venc m).length : Int), true) := by
  intro d
  induction d generalizing p with
  | zero => intro m i n _ _ _ _ h; omega
  | succ d ih =>
    intro m i n hi ha hai hm _ hval hn hpos x hx
    have e5 : (5 - (d : Int)) = (i : Int) := by omega
    have e6 : 5 - d = i := by omega
    have hP : (1 : Int) ≤ 2 ^ (7 * i) ∧ (2 : Int) ^ (7 * (i + 1)) = 128 * 2 ^ (7 * i) := by
      have : i = 0 ∨ i = 1 ∨ i = 2 ∨ i = 3 ∨ i = 4 ∨ i = 5 := by omega
      rcases this with rfl | rfl | rfl | rfl | rfl | rfl <;> decide
    rw [rvar, e5, e6]
    by_cases h : m < 128
    · have hv : venc m = [(m : Int)] := by rw [venc, if_pos h]
      rw [hv] at hx
      subst hx
      have hrd : rd (p ++ ([(m : Int)] ++ sf)) (a + (i : Int)) = (m : Int) := by
        rw [hai, rd_at _ p.length (by simp), List.getElem_append_right (by omega)]
        simp
      rw [hrd, hv, if_pos ⟨ha, by simp; omega⟩, if_pos (by omega), show (m : Int) % 128 = m from by omega, hval, if_neg (by omega)]
      simp
      omega
    · have hv : venc m = ((m % 128 + 128 : Nat) : Int) :: venc (m / 128) := by rw [venc, if_neg h]
      have hrd : rd x (a + (i : Int)) = ((m % 128 + 128 : Nat) : Int) := by
        rw [hx, hv, hai, rd_at _ p.length (by simp), List.getElem_append_right (by omega)]
        simp
      have hlen : a + (i : Int) < (x.length : Int) := by
        rw [hx, hv]; simp; omega
      rw [hrd, if_pos ⟨ha, hlen⟩, if_neg (by omega)]
      have hd : 1 ≤ d := by
        rcases Nat.eq_zero_or_pos d with z | z
        · subst z; omega
        · exact z
      rw [show (p ++ venc m).length = (p ++ [((m % 128 + 128 : Nat) : Int)] ++ venc (m / 128)).length from by rw [hv]; simp]
      refine ih (p ++ [((m % 128 + 128 : Nat) : Int)]) (m / 128) (i + 1) _ (by omega) ha (by simp; omega) (by rw [Nat.div_lt_iff_lt_mul (by omega)]; rw [Nat.pow_succ] at hm; exact hm) hd ?_ ?_ (by omega) x (by rw [hx, hv]; simp)
      · rw [hP.2]
        have hq : ((m % 128 + 128 : Nat) : Int) % 128 = ((m % 128 : Nat) : Int) := by omega
        have hs : (m : Int) = 128 * ((m / 128 : Nat) : Int) + ((m % 128 : Nat) : Int) := by omega
        have hz : (m : Int) * 2 ^ (7 * i) = ((m / 128 : Nat) : Int) * (128 * 2 ^ (7 * i)) + ((m % 128 : Nat) : Int) * 2 ^ (7 * i) := by
          conv => lhs; rw [hs]
          rw [Int.add_mul, Int.mul_comm 128 ((m / 128 : Nat) : Int), Int.mul_assoc]
        rw [hq, ← hval, hz]
        omega
      · exact Int.add_nonneg hn (Int.mul_nonneg (by omega) (by omega))
theorem rvar_at (b sf : List Int) (n : Nat) (hn : n ≤ 1000000000000) : rvar (b ++ (venc n ++ sf)) (b.length : Int) 6 0 = ((n : Int), ((b ++ venc n).length : Int), true) :=
  rvar_enc sf b (b.length : Int) n hn 6 n 0 0 (by omega) (by omega) (by omega) (by omega) (by omega) (by simp) (by omega) (by omega) _ rfl
theorem rvar_read (b : List Int) (n : Nat) (hn : n ≤ 1000000000000) : rvar (b ++ venc n) (b.length : Int) 6 0 = ((n : Int), ((b ++ venc n).length : Int), true) := by
  have h := rvar_at b [] n hn
  rwa [List.append_nil] at h
theorem rvar_false (x : List Int) (a : Int) : ∀ (d : Nat) (n : Int), (rvar x a d n).2.2 ≠ true → rvar x a d n = (0, 0, false) := by
  intro d
  induction d with
  | zero => intro n _; rfl
  | succ d ih =>
    intro n
    simp only [rvar]
    split
    · split
      · split
        · intro _; rfl
        · intro h; exact absurd rfl h
      · exact ih _
    · intro _; rfl
theorem rvar_past (x : List Int) (a : Int) (d : Nat) (n : Int) (hd : d ≤ 6) (h : (x.length : Int) ≤ a) : (rvar x a d n).2.2 = false := by
  cases d with
  | zero => rfl
  | succ d => rw [rvar, if_neg (by omega)]
/-- What is read is its own encoding. -/
theorem rvar_canon (y : List Int) (a : Int) (hw : ∀ v ∈ y, 0 ≤ v ∧ v ≤ 255) : ∀ (d i : Nat) (n m e : Int), i + d = 6 → 0 ≤ n → rvar y a d n = (m, e, true) →
    ∃ q : Nat, m = n + (q : Int) * 2 ^ (7 * i) ∧ 0 ≤ a ∧ a + (i : Int) + ((venc q).length : Int) = e ∧ e ≤ (y.length : Int) ∧ (y.take e.toNat).drop (a + (i : Int)).toNat = venc q ∧ (0 < i → 0 < q) ∧ m ≤ 1000000000000 := by
  intro d
  induction d with
  | zero => intro i n m e _ _ h; simp [rvar] at h
  | succ d ih =>
    intro i n m e hi hn h
    have e5 : (5 - (d : Int)) = (i : Int) := by omega
    have e6 : 5 - d = i := by omega
    have hP : (1 : Int) ≤ 2 ^ (7 * i) ∧ (2 : Int) ^ (7 * (i + 1)) = 128 * 2 ^ (7 * i) := by
      have : i = 0 ∨ i = 1 ∨ i = 2 ∨ i = 3 ∨ i = 4 ∨ i = 5 := by omega
      rcases this with rfl | rfl | rfl | rfl | rfl | rfl <;> decide
    rw [rvar, e5, e6] at h
    by_cases h1 : 0 ≤ a ∧ a + (i : Int) < (y.length : Int)
    · rw [if_pos h1] at h
      obtain ⟨j, hj⟩ : ∃ j : Nat, a + (i : Int) = (j : Int) := ⟨(a + (i : Int)).toNat, by omega⟩
      have hjl : j < y.length := by omega
      rw [hj, rd_at y j hjl] at h
      have hb := hw y[j] (List.getElem_mem hjl)
      by_cases h2 : y[j] < 128
      · rw [if_pos h2] at h
        by_cases h3 : (y[j] = 0 ∧ d < 5) ∨ n + y[j] % 128 * 2 ^ (7 * i) > 1000000000000
        · rw [if_pos h3] at h
          simp at h
        · rw [if_neg h3] at h
          simp only [Prod.mk.injEq] at h
          obtain ⟨h4, h5, _⟩ := h
          have hv : venc y[j].toNat = [y[j]] := by
            rw [venc, if_pos (by omega)]
            congr 1
            omega
          refine ⟨y[j].toNat, ?_, h1.1, ?_, by omega, ?_, by omega, by omega⟩
          · rw [← h4, show ((y[j].toNat : Nat) : Int) = y[j] from by omega, show y[j] % 128 = y[j] from by omega]
          · rw [hv]; simp; omega
          · rw [hv, hj, ← h5, show ((j : Int) + 1).toNat = j + 1 from by omega, Int.toNat_natCast, List.take_succ_eq_append_getElem hjl, List.drop_append_of_le_length (by simp; omega), List.drop_of_length_le (by simp; omega)]
            rfl
      · rw [if_neg h2] at h
        obtain ⟨q, q1, q2, q3, q4, q5, q6, q7⟩ := ih (i + 1) _ m e (by omega) (Int.add_nonneg hn (Int.mul_nonneg (by omega) (by omega))) h
        have hq := q6 (by omega)
        have hv : venc (y[j].toNat - 128 + 128 * q) = y[j] :: venc q := by
          rw [venc, if_neg (by omega)]
          congr 1
          · omega
          · congr 1; omega
        refine ⟨y[j].toNat - 128 + 128 * q, ?_, q2, ?_, q4, ?_, by omega, q7⟩
        · rw [q1, hP.2]
          have hs : ((y[j].toNat - 128 + 128 * q : Nat) : Int) = y[j] % 128 + (q : Int) * 128 := by omega
          have hz : (y[j] % 128 + (q : Int) * 128) * 2 ^ (7 * i) = y[j] % 128 * 2 ^ (7 * i) + (q : Int) * (128 * 2 ^ (7 * i)) := by rw [Int.add_mul, Int.mul_assoc]
          rw [hs, hz]
          omega
        · rw [hv]; simp; omega
        · rw [hv, hj]
          have hje : j < e.toNat := by omega
          have hjt : j < (y.take e.toNat).length := by simp; omega
          rw [Int.toNat_natCast, List.drop_eq_getElem_cons hjt, List.getElem_take]
          rw [show a + ((i + 1 : Nat) : Int) = ((j + 1 : Nat) : Int) from by omega, Int.toNat_natCast] at q5
          rw [q5]
    · rw [if_neg h1] at h
      simp at h

def appb (b s : List Int) : List Int := appv b (s.length : Int) ++ s
theorem appb_len (b s : List Int) : (appb b s).length ≤ b.length + 6 + s.length := by
  unfold appb
  have := appv_len b (s.length : Int)
  simp
  omega
theorem AB_iev (b s : List Int) (hb : b.length ≤ 10000000000000) (hs : s.length ≤ 10000000000000) : Ev (fun k => impl_AppendBytes.f k b s) (appb b s) := by
  unfold impl_AppendBytes.f
  have := appv_len b (s.length : Int)
  exact ev_bind (AU_iev b _ (by omega)) (ev_pos (by omega) (ev_const rfl))

/-- What reading a byte string comes to. -/
def rbytes (x : List Int) (a most : Int) : List Int × Int × Bool :=
  let r := rvar x a 6 0
  if r.2.2 = true ∧ r.1 ≤ most ∧ r.1 ≤ (x.length : Int) - r.2.1 then ((x.take (r.2.1 + r.1).toNat).drop r.2.1.toNat, r.2.1 + r.1, true) else ([], 0, false)
theorem rbytes_len (x : List Int) (a most : Int) : (rbytes x a most).1.length ≤ x.length := by
  unfold rbytes
  simp only []
  split
  · simp
    omega
  · simp
theorem RB_iev (x : List Int) (hx : x.length ≤ 100000000000000) (hw : ∀ v ∈ x, 0 ≤ v ∧ v ≤ 255) (a most : Int) (ha : -9223372036854775808 ≤ a ∧ a ≤ 9223372036854775807) : Ev (fun k => impl_ReadBytes.f k x a most) (rbytes x a most) := by
  unfold impl_ReadBytes.f rbytes
  refine ev_bind (RU_iev x (by omega) hw a ha) ?_
  have hb := rvar_bd x a (by omega) hw 6 0 (by omega) (by omega)
  generalize rvar x a 6 0 = r at hb
  simp only []
  refine ev_dec (fun h1 => ?_) (fun h1 => ?_)
  · refine ev_dec (fun h2 => ?_) (fun h2 => ?_)
    · rw [if_neg (show ¬ (r.2.2 = true ∧ r.1 ≤ most ∧ r.1 ≤ (x.length : Int) - r.2.1) from fun z => by omega)]
      exact ev_const rfl
    · rw [w64 (i := (x.length : Int) - r.2.1) (by omega) (by omega)]
      refine ev_dec (fun h3 => ?_) (fun h3 => ?_)
      · rw [if_neg (show ¬ (r.2.2 = true ∧ r.1 ≤ most ∧ r.1 ≤ (x.length : Int) - r.2.1) from fun z => by omega)]
        exact ev_const rfl
      · rw [if_pos (show r.2.2 = true ∧ r.1 ≤ most ∧ r.1 ≤ (x.length : Int) - r.2.1 from ⟨h1, by omega, by omega⟩), w64 (i := r.2.1 + r.1) (by omega) (by omega)]
        exact ev_pos (by omega) (ev_pos (by omega) (ev_pos (by omega) (ev_bindc (show impl_cloned.f _ = some _ from if_pos (by simp; omega)) (ev_const rfl))))
  · rw [if_neg (show ¬ (r.2.2 = true ∧ r.1 ≤ most ∧ r.1 ≤ (x.length : Int) - r.2.1) from fun z => h1 z.1)]
    exact ev_const rfl

def encs_ (l : List Int) (b : List Int) : List Int := l.foldl appv b
theorem encs_len (l : List Int) : ∀ b, (encs_ l b).length ≤ b.length + 6 * l.length := by
  induction l with
  | nil => intro b; simp [encs_]
  | cons a l ih =>
    intro b
    have h1 := ih (appv b a)
    have h2 := appv_len b a
    simp only [encs_, List.foldl_cons, List.length_cons] at h1 ⊢
    omega
theorem EI_il (x : List Int) (hx : x.length ≤ 1000000000000) : ∀ (m i : Nat) (b : List Int), i + m = x.length → b.length ≤ 6 * i → Ev (fun k => impl_EncodeInts.l0 k b x (x.length : Int) (i : Int)) (encs_ (x.drop i) b) := by
  intro m
  induction m with
  | zero =>
    intro i b hi _
    refine ev_step ?_
    simp only [impl_EncodeInts.l0]
    rw [List.drop_of_length_le (by omega)]
    exact ev_neg (by omega) (ev_const rfl)
  | succ m ih =>
    intro i b hi hb
    have hlt : i < x.length := by omega
    refine ev_step ?_
    simp only [impl_EncodeInts.l0]
    rw [rd_at x i hlt, w64s (n := x.length) hlt (by omega), List.drop_eq_getElem_cons hlt]
    have := appv_len b x[i]
    exact ev_pos (by omega) (ev_pos (by omega) (ev_pos (by omega) (ev_bind (AU_iev b _ (by omega)) (ih (i + 1) _ (by omega) (by omega)))))
theorem EI_iev (x : List Int) (hx : x.length ≤ 1000000000000) : Ev (fun k => impl_EncodeInts.f k x) (encs_ x []) := by
  unfold impl_EncodeInts.f
  exact EI_il x hx x.length 0 [] (by omega) (by simp)

/-- What decoding d numbers comes to. -/
def dints (x : List Int) : Nat → Int → List Int → List Int × Int × Bool
  | 0, a, out => (out, a, true)
  | d + 1, a, out => if (rvar x a 6 0).2.2 = true then dints x d (rvar x a 6 0).2.1 (out ++ [(rvar x a 6 0).1]) else ([], 0, false)
theorem dints_len (x : List Int) : ∀ (d : Nat) (a : Int) (out : List Int), (dints x d a out).1.length ≤ out.length + d := by
  intro d
  induction d with
  | zero => intro a out; simp [dints]
  | succ d ih =>
    intro a out
    simp only [dints]
    split
    · have := ih (rvar x a 6 0).2.1 (out ++ [(rvar x a 6 0).1])
      simp at this
      omega
    · simp
def dres (x : List Int) (a n : Int) : List Int × Int × Bool := if (0 ≤ n ∧ n ≤ 100) ∧ (0 ≤ a ∧ a ≤ (x.length : Int)) then dints x n.toNat a [] else ([], 0, false)
theorem dres_len (x : List Int) (a n : Int) : (dres x a n).1.length ≤ 100 := by
  unfold dres
  split
  · have := dints_len x n.toNat a []
    simp at this
    omega
  · simp
theorem DI_il (x : List Int) (hx : x.length ≤ 1000000000000000) (hw : ∀ v ∈ x, 0 ≤ v ∧ v ≤ 255) (n : Nat) (hn : n ≤ 1000) :
    ∀ (d i : Nat) (a : Int) (out : List Int), i + d = n → 0 ≤ a → a ≤ (x.length : Int) → out.length = i → Ev (fun k => impl_DecodeInts.l0 k x a out (n : Int) (i : Int)) (dints x d a out) := by
  intro d
  induction d with
  | zero =>
    intro i a out hi _ _ _
    refine ev_step ?_
    simp only [impl_DecodeInts.l0, dints]
    exact ev_neg (by omega) (ev_const rfl)
  | succ d ih =>
    intro i a out hi h0 h1 ho
    refine ev_step ?_
    simp only [impl_DecodeInts.l0, dints]
    refine ev_pos (by omega) (ev_bind (RU_iev x hx hw a ⟨by omega, by omega⟩) ?_)
    have hb := rvar_bd x a hx hw 6 0 (by omega) (by omega)
    refine ev_dec (fun h => ?_) (fun h => ?_)
    · rw [if_pos h]
      refine ev_pos (by omega) ?_
      rw [w64s (n := n) (by omega) (by omega)]
      exact ih (i + 1) _ _ (by omega) hb.2.2.1 hb.2.2.2 (by simp [ho])
    · rw [if_neg h]
      exact ev_const rfl
theorem DI_iev (x : List Int) (hx : x.length ≤ 1000000000000000) (hw : ∀ v ∈ x, 0 ≤ v ∧ v ≤ 255) (a n : Int) : Ev (fun k => impl_DecodeInts.f k x a n) (dres x a n) := by
  unfold impl_DecodeInts.f dres
  refine ev_bindc (InRange_v _ _ _) ?_
  by_cases h1 : 0 ≤ n ∧ n ≤ 100
  · refine ev_pos (by simp [h1]) (ev_bindc (InRange_v _ _ _) ?_)
    refine ev_step ?_
    simp only [impl_DecodeInts.j0]
    by_cases h2 : 0 ≤ a ∧ a ≤ (x.length : Int)
    · refine ev_neg (by simp [h2]) ?_
      rw [if_pos ⟨h1, h2⟩]
      have h := DI_il x hx hw n.toNat (by omega) n.toNat 0 a [] (by omega) h2.1 h2.2 rfl
      rw [show ((n.toNat : Nat) : Int) = n from by omega] at h
      exact h
    · refine ev_pos (by simp; omega) ?_
      rw [if_neg (fun z => h2 z.2)]
      exact ev_const rfl
  · refine ev_neg (by simpa using h1) ?_
    refine ev_step ?_
    simp only [impl_DecodeInts.j0]
    rw [if_neg (fun z => h1 z.1)]
    exact ev_const rfl

theorem sameBytes_ev (x y : List Int) (hx : x.length ≤ 9223372036854775806) (b : Bool) (hb : b = true ↔ x = y) : Ev (fun k => laws_sameBytes.f k x y) b := by
  unfold laws_sameBytes.f
  refine ev_dec (fun h => ?_) (fun h => ?_)
  · exact eq_loop (L := laws_sameBytes.l0) (c := fun x y i => rd x i = rd y i) (fun _ _ _ _ => rfl) (fun x y i h h' => by rw [rd_at x i h, rd_at y i h']) x y hx (by omega) b x.length 0 (by omega) (by simpa using hb)
  · have e : b = false := by
      rw [Bool.eq_false_iff]
      intro z
      exact h (by rw [hb.mp z])
    subst e
    exact ev_const rfl
theorem sameBytes_refl (x : List Int) (hx : x.length ≤ 9223372036854775806) : Ev (fun k => laws_sameBytes.f k x x) true := sameBytes_ev x x hx true (by simp)

theorem sameInts_ev (x y : List Int) (hx : x.length ≤ 9223372036854775806) (b : Bool) (hb : b = true ↔ x = y) : Ev (fun k => laws_sameInts.f k x y) b := by
  unfold laws_sameInts.f
  refine ev_dec (fun h => ?_) (fun h => ?_)
  · exact eq_loop (L := laws_sameInts.l0) (c := fun x y i => rd x i = rd y i) (fun _ _ _ _ => rfl) (fun x y i h h' => by rw [rd_at x i h, rd_at y i h']) x y hx (by omega) b x.length 0 (by omega) (by simpa using hb)
  · have e : b = false := by
      rw [Bool.eq_false_iff]
      intro z
      exact h (by rw [hb.mp z])
    subst e
    exact ev_const rfl
theorem sameInts_refl (x : List Int) (hx : x.length ≤ 9223372036854775806) : Ev (fun k => laws_sameInts.f k x x) true := sameInts_ev x x hx true (by simp)

/-- A byte of the code, or what stands in its place. -/
theorem at_ok (l : List Int) (hl : l.length ≤ 1000000000000000) (hw : ∀ v ∈ l, 0 ≤ v ∧ v ≤ 255) (a : Nat) (ha : a ≤ 1000000000000) : ∃ x, laws_at.f l (a : Int) = some x ∧ 0 ≤ x ∧ x ≤ 255 := by
  unfold laws_at.f
  by_cases h : (a : Int) < (l.length : Int)
  · rw [if_pos h, if_pos (by omega), rd_at l a (by omega)]
    have := hw l[a] (List.getElem_mem _)
    exact ⟨_, rfl, by rw [w64 (by omega) (by omega)]; exact this.1, by rw [w64 (by omega) (by omega)]; exact this.2⟩
  · rw [if_neg h]
    refine ⟨_, rfl, ?_, ?_⟩
    · rw [w64 (i := (a : Int) * 31) (by omega) (by omega), w64 (i := (l.length : Int) * 7) (by omega) (by omega), w64 (by omega) (by omega)]
      exact Int.tmod_nonneg _ (by omega)
    · have := Int.tmod_lt_of_pos (wrap64 ((wrap64 ((a : Int) * 31)) + (wrap64 ((l.length : Int) * 7)))) (show (0 : Int) < 256 by omega)
      omega

def vencs (l : List Int) : List Int := (l.map (fun n => venc n.toNat)).flatten
theorem encs_eq (l : List Int) : ∀ b, (∀ v ∈ l, 0 ≤ v ∧ v ≤ 1000000000000) → encs_ l b = b ++ vencs l := by
  induction l with
  | nil => intro b _; simp [encs_, vencs]
  | cons a l ih =>
    intro b h
    have ha := h a (by simp)
    have z := ih (appv b a) (fun v hv => h v (by simp [hv]))
    have e : appv b a = b ++ venc a.toNat := if_pos ha
    rw [e] at z
    unfold encs_ at z ⊢
    rw [List.foldl_cons, e, z]
    simp [vencs]
theorem dints_enc (l : List Int) : ∀ (p out : List Int) (d : Nat), (∀ v ∈ l, 0 ≤ v ∧ v ≤ 1000000000000) → dints (p ++ vencs l) (l.length + d) (p.length : Int) out = dints (p ++ vencs l) d ((p ++ vencs l).length : Int) (out ++ l) := by
  induction l with
  | nil => intro p out d _; simp [vencs]
  | cons a l ih =>
    intro p out d h
    have ha := h a (by simp)
    have e : p ++ vencs (a :: l) = p ++ (venc a.toNat ++ vencs l) := by simp [vencs]
    have e2 : p ++ (venc a.toNat ++ vencs l) = (p ++ venc a.toNat) ++ vencs l := by simp
    have r := rvar_at p (vencs l) a.toNat (by omega)
    rw [e, show (a :: l).length + d = (l.length + d) + 1 from by simp; omega, dints, r, if_pos rfl]
    simp only []
    rw [e2, ih (p ++ venc a.toNat) (out ++ [((a.toNat : Nat) : Int)]) d (fun v hv => h v (by simp [hv])), show ((a.toNat : Nat) : Int) = a from by omega, List.append_assoc out]
    rfl
theorem dres_enc (l : List Int) (hl : l.length ≤ 50) (h : ∀ v ∈ l, 0 ≤ v ∧ v ≤ 1000000000000) : dres (vencs l) 0 (l.length : Int) = (l, ((vencs l).length : Int), true) ∧ (dres (vencs l) 0 ((l.length : Int) + 1)).2.2 = false := by
  have z0 := dints_enc l [] [] 0 h
  have z1 := dints_enc l [] [] 1 h
  simp only [List.nil_append, List.length_nil, Nat.add_zero] at z0 z1
  refine ⟨?_, ?_⟩
  · unfold dres
    rw [if_pos (by omega), Int.toNat_natCast]
    exact z0
  · unfold dres
    rw [if_pos (by omega), show ((l.length : Int) + 1).toNat = l.length + 1 from by omega, show (0 : Int) = ((0 : Nat) : Int) from rfl, z1, dints, rvar_past _ _ 6 0 (by omega) (Int.le_refl _), if_neg (by simp)]
theorem vencs_len (l : List Int) (h : ∀ v ∈ l, 0 ≤ v ∧ v ≤ 1000000000000) : (vencs l).length ≤ 6 * l.length := by
  have z := encs_len l []
  rw [encs_eq l [] h] at z
  simpa using z
theorem vencs_bd (l : List Int) : ∀ v ∈ vencs l, 0 ≤ v ∧ v ≤ 255 := by
  intro v hv
  unfold vencs at hv
  simp only [List.mem_flatten, List.mem_map] at hv
  obtain ⟨_, ⟨n, _, rfl⟩, hv⟩ := hv
  exact venc_bd _ _ (Nat.le_refl _) v hv
theorem FnByteStrings_l (l : List Int) (hl : l.length ≤ 140737488351232) (hw : ∀ v ∈ l, 0 ≤ v ∧ v ≤ 255) (n : Int) (hn : laws_at.f l 0 = some n) (hn0 : 0 ≤ n) : ∀ (m i : Nat) (out : List Int), (i : Int) + m = Int.tmod n 6 → out.length = i → (∀ v ∈ out, 0 ≤ v ∧ v ≤ 1000000000000) →
    Ev (fun k => laws_FnByteStrings.l0 k l out (i : Int)) true := by
  have hn6 := Int.tmod_lt_of_pos n (show (0 : Int) < 6 by omega)
  intro m
  induction m with
  | zero =>
    intro i out hi ho hv
    refine ev_step ?_
    simp only [laws_FnByteStrings.l0]
    have he := encs_eq out [] hv
    rw [List.nil_append] at he
    have hlen := vencs_len out hv
    have hd := dres_enc out (by omega) hv
    have en := EI_iev out (by omega)
    rw [he] at en
    refine ev_bindc hn (ev_neg (by omega) (ev_bind en (ev_bind (DI_iev (vencs out) (by omega) (vencs_bd out) 0 _) (ev_bind (DI_iev (vencs out) (by omega) (vencs_bd out) 0 _) ?_))))
    rw [w64 (i := (out.length : Int) + 1) (by omega) (by omega), hd.1]
    refine ev_pos rfl (ev_bind (sameInts_refl out (by omega)) (ev_pos rfl (ev_pos rfl ?_)))
    rw [hd.2]
    exact ev_const rfl
  | succ m ih =>
    intro i out hi ho hv
    refine ev_step ?_
    simp only [laws_FnByteStrings.l0]
    obtain ⟨a, ea, a0, a1⟩ := at_ok l (by omega) hw (i + 1) (by omega)
    obtain ⟨b, eb, b0, b1⟩ := at_ok l (by omega) hw (i + 2) (by omega)
    obtain ⟨c, ec, c0, c1⟩ := at_ok l (by omega) hw (i + 3) (by omega)
    have m0 : 0 ≤ a * b := Int.mul_nonneg a0 b0
    have m1 : a * b ≤ 255 * 255 := Int.mul_le_mul a1 b1 b0 (by omega)
    have m2 : 0 ≤ a * b * c := Int.mul_nonneg m0 c0
    have m3 : a * b * c ≤ (255 * 255) * 255 := Int.mul_le_mul m1 c1 c0 (by omega)
    rw [w64 (i := (i : Int) + 1) (by omega) (by omega), w64 (i := (i : Int) + 2) (by omega) (by omega), w64 (i := (i : Int) + 3) (by omega) (by omega)]
    refine ev_bindc hn (ev_pos (by omega) (ev_bindc ea (ev_bindc eb (ev_bindc ec (ev_pos (by omega) ?_)))))
    rw [w64 (i := a * b) (by omega) (by omega), w64 (i := a * b * c) (by omega) (by omega)]
    refine ih (i + 1) _ (by omega) (by simp [ho]) ?_
    intro v hv2
    rcases List.mem_append.1 hv2 with z | z
    · exact hv v z
    · simp at z; omega
end OfFnByteStrings
open OfFnByteStrings in
theorem FnByteStrings : laws_FnByteStrings.Pure := by
  intro l _ hb hw0
  apply Ev.rounds
  have hw : ∀ v ∈ l, 0 ≤ v ∧ v ≤ 255 := fun v hv => wfu8 (hw0 v hv)
  unfold laws_FnByteStrings.f laws_big.f
  refine ev_bindc rfl (ev_dec (fun _ => ev_const rfl) (fun h0 => ?_))
  have hl : l.length ≤ 140737488351232 := by omega
  obtain ⟨h1, e1⟩ := l1New_ok l (by omega)
  obtain ⟨n, i2, h2, e2, p2, q2, _, c2⟩ := l1Below_ok l 0 h1 3 (by omega) (by omega)
  have q2' := q2 (by omega)
  obtain ⟨b, i3, h3, e3, _, p3, w3, c3⟩ := l1Bytes_ok l i2 h2 n (by omega) c2 (by omega)
  have hbl := p3 p2
  obtain ⟨n2, i4, h4, e4, p4, q4, _, c4⟩ := l1Below_ok l i3 h3 6 (by omega) c3
  have q4' := q4 (by omega)
  obtain ⟨s, i5, h5, e5, _, p5, w5, c5⟩ := l1Bytes_ok l i4 h4 n2 (by omega) c4 (by omega)
  have hsl := p5 p4
  have d : Ev (fun k => spec_DrawAppendBytes.f k l) (b, s) := by
    unfold spec_DrawAppendBytes.f
    exact ev_bind e1 (ev_bindc e2 (ev_bind e3 (ev_bindc e4 (ev_bind e5 (ev_const rfl)))))
  have hx := appb_len b s
  have hxe : appb b s = b ++ (venc s.length ++ s) := by
    unfold appb appv
    rw [if_pos (by omega), Int.toNat_natCast, List.append_assoc]
  have hr := rvar_at b s s.length (by omega)
  rw [← hxe] at hr
  have hxl : (appb b s).length = (b ++ venc s.length).length + s.length := by rw [hxe]; simp; omega
  have hxw : ∀ v ∈ appb b s, 0 ≤ v ∧ v ≤ 255 := by
    unfold appb
    intro v hv
    rcases List.mem_append.1 hv with z | z
    · exact appv_bd b _ w3 v z
    · exact w5 v z
  have hr1 : rbytes (appb b s) (b.length : Int) (s.length : Int) = (s, ((appb b s).length : Int), true) := by
    unfold rbytes
    rw [hr]
    simp only []
    rw [if_pos ⟨by first | trivial | rfl, by omega, by omega⟩]
    congr 1
    · rw [show (((b ++ venc s.length).length : Int) + (s.length : Int)).toNat = (appb b s).length from by omega, List.take_length, Int.toNat_natCast, hxe, ← List.append_assoc, List.drop_left]
    · congr 1
      omega
  have hr2 : (rbytes (appb b s) (b.length : Int) ((s.length : Int) - 1)).2.2 = false := by
    unfold rbytes
    rw [hr]
    simp only []
    rw [if_neg (by omega)]
  have hj : Ev (fun k => laws_FnByteStrings.j0 k l false) true := by
    obtain ⟨a, ea, a0, a1⟩ := at_ok l (by omega) hw 0 (by omega)
    refine ev_step ?_
    simp only [laws_FnByteStrings.j0]
    refine ev_neg (by simp) ?_
    have t0 := Int.tmod_nonneg (a := a) 6 a0
    exact FnByteStrings_l l hl hw a ea a0 (Int.tmod a 6).toNat 0 [] (by omega) rfl (by simp)
  refine ev_bind d (ev_bind (AB_iev b s (by omega) (by omega)) (ev_bind (RB_iev (appb b s) (by omega) hxw (b.length : Int) (s.length : Int) (by omega)) (ev_bind (RB_iev (appb b s) (by omega) hxw (b.length : Int) (wrap64 ((s.length : Int) - 1)) (by omega)) ?_)))
  rw [w64 (i := (s.length : Int) - 1) (by omega) (by omega), hr1, hr2]
  exact ev_pos rfl (ev_bind (sameBytes_refl s (by omega)) (ev_pos rfl (ev_pos rfl hj)))
end Go.Proofs.Ytcmjcppgfhdbmaa.Pure
