/- The pure statement of FnExactReadBytes: what the printed functions compute answers true for all arguments within the printed bounds. -/
import Derived.Test.YtcmjcppgfhdbmaaPFnExactReadBytesx3
import Derived.Test.YtcmjcppgfhdbmaaKit
namespace Go.Proofs.Ytcmjcppgfhdbmaa.Pure
open Go.RowKit Go.Proofs.Ytcmjcppgfhdbmaa.PFnExactReadBytes Go.Proofs.YtcmjcppgfhdbmaaW.PrintWords Go.Proofs.YtcmjcppgfhdbmaaW.PrintLast Go.Proofs.Ytcmjcppgfhdbmaa.Kit
set_option linter.unusedVariables false
set_option linter.unusedSimpArgs false
namespace OfFnExactReadBytes
theorem toByteS_ev (x : List Int) (hx : x.length ≤ 281474976710656) : Ev (fun k => laws_toByteS.f k x) x := by
  unfold laws_toByteS.f
  refine ev_pos (by omega) (ev_pos (by omega) ?_)
  exact copy_loop (L := laws_toByteS.l0) (rdf := rd) (fun _ _ _ _ => rfl) rd_at x (by omega) x.length 0 _ (by omega) (by simp) (by simp)

theorem eqByteS_ev (x y : List Int) (hx : x.length ≤ 9223372036854775806) (b : Bool) (hb : b = true ↔ x = y) : Ev (fun k => laws_eqByteS.f k x y) b := by
  unfold laws_eqByteS.f
  refine ev_dec (fun h => ?_) (fun h => ?_)
  · exact eq_loop (L := laws_eqByteS.l0) (c := fun x y i => rd x i = rd y i) (fun _ _ _ _ => rfl) (fun x y i h h' => by rw [rd_at x i h, rd_at y i h']) x y hx (by omega) b x.length 0 (by omega) (by simpa using hb)
  · have e : b = false := by
      rw [Bool.eq_false_iff]
      intro z
      exact h (by rw [hb.mp z])
    subst e
    exact ev_const rfl
theorem eqByteS_refl (x : List Int) (hx : x.length ≤ 9223372036854775806) : Ev (fun k => laws_eqByteS.f k x x) true := eqByteS_ev x x hx true (by simp)

theorem markByteS_ev (x : List Int) (hx : x.length ≤ 1000000000000000) (m : Int) (h0 : 0 ≤ m) (h1 : m ≤ 1000000000000000) : Ev (fun k => laws_markByteS.f k x m) (m + (x.length : Int), mk (fun m => m % 256) m x.length) := by
  unfold laws_markByteS.f
  have h := mark_loop (L := laws_markByteS.l0) (f := fun m => m % 256) (fun _ _ _ _ => rfl) x.length m (by omega) (by omega) (by omega) x.length 0 x (by omega) rfl (by simp [mk])
  simpa using h

theorem heldByteS_ev (n : Nat) (hx : n ≤ 1000000000000000) (m : Int) (h0 : 0 ≤ m) (h1 : m ≤ 1000000000000000) : Ev (fun k => laws_heldByteS.f k (mk (fun m => m % 256) m n) m) (m + (n : Int)) := by
  unfold laws_heldByteS.f
  have h := held_loop (L := laws_heldByteS.l0) (f := fun m => m % 256) (c := fun x i m => rd x i = (m) % 256) (fun _ _ _ _ => rfl) n m (by omega) (by omega) (by omega) (fun i hi => by rw [rd_at _ i (by rw [mk_length]; exact hi), mk_get]) n 0 (by omega)
  simpa using h

theorem wraps_i64 (n : Int) (h₀ : 0 ≤ n) (h₁ : n < 2 ^ 62) : IntKind.i64.wrap n = n := by rw [IntKind.wrap_i64]; omega
theorem or_comm64 (x y : Int) : Go.bits .or .i64 x y = Go.bits .or .i64 y x := by
  unfold Go.bits
  simp only [BitVec.or_comm]
theorem or_add (n y : Int) (s : Nat) (hs : s ≤ 62) (h0 : 0 ≤ n) (h1 : n < 2 ^ s) (hy0 : 0 ≤ y) (hy : y % 2 ^ s = 0) (hy1 : y < 2 ^ 62) (hn1 : n < 2 ^ 62) : Go.bits .or .i64 n y = n + y := by
  rw [or_comm64, bits_join .i64 62 (by decide) wraps_i64 s y n hy0 hy hy1 h0 h1 hn1, Int.add_comm]
theorem and127 (b : Int) (h0 : 0 ≤ b) (h1 : b < 2 ^ 62) : Go.bits .and .i64 b 127 = b % 128 := by
  have h := bits_mask .i64 62 (by decide) wraps_i64 7 (by decide) b h0 h1
  simpa using h

theorem InRange_v (a b c : Int) : impl_InRange.f a b c = some (decide (b ≤ a ∧ a ≤ c)) := by
  unfold impl_InRange.f
  by_cases h : b ≤ a <;> simp [h]

theorem RU_bits (b n : Int) (j : Nat) (hj : j ≤ 5) (hb0 : 0 ≤ b) (hb1 : b ≤ 255) (h0 : 0 ≤ n) (h1 : n < 2 ^ (7 * j)) :
    Go.bits .or .i64 n (shl .i64 (Go.bits .and .i64 (wrap64 b) 127) (wrap64 (7 * (j : Int)))) = n + b % 128 * 2 ^ (7 * j) ∧ 0 ≤ n + b % 128 * 2 ^ (7 * j) ∧ n + b % 128 * 2 ^ (7 * j) < 2 ^ (7 * (j + 1)) := by
  have hP : (1 : Int) ≤ 2 ^ (7 * j) ∧ (2 : Int) ^ (7 * j) ≤ 34359738368 ∧ (2 : Int) ^ (7 * (j + 1)) = 128 * 2 ^ (7 * j) := by
    have : j = 0 ∨ j = 1 ∨ j = 2 ∨ j = 3 ∨ j = 4 ∨ j = 5 := by omega
    rcases this with rfl | rfl | rfl | rfl | rfl | rfl <;> decide
  obtain ⟨hP1, hP2, hP3⟩ := hP
  have hm : b % 128 * 2 ^ (7 * j) ≤ 127 * 2 ^ (7 * j) := Int.mul_le_mul_of_nonneg_right (by omega) (by omega)
  have hm0 : 0 ≤ b % 128 * 2 ^ (7 * j) := Int.mul_nonneg (by omega) (by omega)
  have hmod : b % 128 * 2 ^ (7 * j) % 2 ^ (7 * j) = 0 := Int.mul_emod_left _ _
  refine ⟨?_, by omega, by omega⟩
  unfold shl
  rw [w64 (i := b) (by omega) (by omega), w64 (i := 7 * (j : Int)) (by omega) (by omega), and127 b hb0 (by omega), show min (7 * (j : Int)).toNat IntKind.i64.bits = 7 * j from by simp [IntKind.bits]; omega]
  rw [wraps_i64 _ hm0 (by omega)]
  exact or_add _ _ (7 * j) (by omega) h0 h1 hm0 hmod (by omega) (by omega)
/-- What reading a varint comes to: d bytes may still be read, n is what has been read. -/
def rvar (x : List Int) (a : Int) : Nat → Int → Int × Int × Bool
  | 0, _ => (0, 0, false)
  | d + 1, n => if 0 ≤ a ∧ a + (5 - (d : Int)) < (x.length : Int) then
      (if rd x (a + (5 - (d : Int))) < 128 then
        (if (rd x (a + (5 - (d : Int))) = 0 ∧ d < 5) ∨ n + rd x (a + (5 - (d : Int))) % 128 * 2 ^ (7 * (5 - d)) > 1000000000000 then (0, 0, false)
         else (n + rd x (a + (5 - (d : Int))) % 128 * 2 ^ (7 * (5 - d)), a + (5 - (d : Int)) + 1, true))
       else rvar x a d (n + rd x (a + (5 - (d : Int))) % 128 * 2 ^ (7 * (5 - d))))
    else (0, 0, false)
theorem rd_bd (x : List Int) (hw : ∀ v ∈ x, 0 ≤ v ∧ v ≤ 255) (i : Int) : 0 ≤ rd x i ∧ rd x i ≤ 255 := by
  unfold rd
  rw [List.getD_eq_getElem?_getD]
  rcases h : x[i.toNat]? with _ | v
  · simp
  · exact hw v (List.mem_of_getElem? h)
theorem rvar_bd (x : List Int) (a : Int) (hx : x.length ≤ 1000000000000000) (hw : ∀ v ∈ x, 0 ≤ v ∧ v ≤ 255) : ∀ (d : Nat) (n : Int), d ≤ 6 → 0 ≤ n → 0 ≤ (rvar x a d n).1 ∧ (rvar x a d n).1 ≤ 1000000000000 ∧ 0 ≤ (rvar x a d n).2.1 ∧ (rvar x a d n).2.1 ≤ (x.length : Int) := by
  intro d
  induction d with
  | zero => intro n _ _; simp [rvar]
  | succ d ih =>
    intro n hd h0
    have hb := rd_bd x hw (a + (5 - (d : Int)))
    have hm0 : 0 ≤ rd x (a + (5 - (d : Int))) % 128 * 2 ^ (7 * (5 - d)) := Int.mul_nonneg (by omega) (Int.pow_nonneg (by omega))
    simp only [rvar]
    split
    · split
      · split
        · simp
        · simp only []
          omega
      · exact ih _ (by omega) (by omega)
    · simp
theorem RU_sl (x : List Int) (hx : x.length ≤ 1000000000000000) (hw : ∀ v ∈ x, 0 ≤ v ∧ v ≤ 255) (a : Int) (ha : -9223372036854775808 ≤ a ∧ a ≤ 9223372036854775807) :
    ∀ (d i : Nat) (n : Int), i + d = 6 → 0 ≤ n → n < 2 ^ (7 * i) → Ev (fun k => spec_ReadUvarint.l0 k x a n (i : Int)) (rvar x a d n) := by
  intro d
  induction d with
  | zero =>
    intro i n hi _ _
    refine ev_step ?_
    simp only [spec_ReadUvarint.l0, rvar]
    exact ev_neg (by omega) (ev_const rfl)
  | succ d ih =>
    intro i n hi h0 h1
    have e5 : (5 - (d : Int)) = (i : Int) := by omega
    have e6 : 5 - d = i := by omega
    have hstop : ∀ r : Int × Int × Bool, r = (0, 0, false) → Ev (fun k => spec_ReadUvarint.j1 k x a n (i : Int) true) r := by
      rintro r rfl
      refine ev_step ?_
      simp only [spec_ReadUvarint.j1]
      exact ev_const rfl
    refine ev_step ?_
    simp only [spec_ReadUvarint.l0, rvar]
    rw [e5, e6]
    refine ev_pos (by omega) (ev_dec (fun hneg => ?_) (fun hneg => ?_))
    · exact hstop _ (if_neg (by omega))
    · rw [w64 (i := (x.length : Int) - i) (by omega) (by omega)]
      by_cases hlt : a + (i : Int) < (x.length : Int)
      · have hb := rd_bd x hw (a + (i : Int))
        obtain ⟨hbits, hn0, hn1⟩ := RU_bits (rd x (a + (i : Int))) n i (by omega) hb.1 hb.2 h0 h1
        rw [if_pos ⟨by omega, hlt⟩, decide_eq_false (show ¬ (a ≥ (x.length : Int) - i) from by omega)]
        refine ev_step ?_
        simp only [spec_ReadUvarint.j1]
        refine ev_neg (by simp) ?_
        rw [w64 (i := a + (i : Int)) (by omega) (by omega), hbits, w64 (i := rd x (a + (i : Int))) (by omega) (by omega), w64 (i := 7 * (i : Int)) (by omega) (by omega), w64 (i := a + (i : Int) + 1) (by omega) (by omega), w64s (n := 6) (i := i) (by omega) (by omega)]
        refine ev_pos (by omega) (ev_pos (by omega) (ev_pos (by omega) (ev_dec (fun hb1 => ?_) (fun hb1 => ?_))))
        · rw [if_pos hb1]
          refine ev_dec (fun hz => ?_) (fun hz => ?_)
          · refine ev_dec (fun hp => ?_) (fun hp => ?_)
            · rw [if_pos (Or.inl ⟨hz, by omega⟩)]
              exact ev_const rfl
            · refine ev_dec (fun hM => ?_) (fun hM => ?_)
              · rw [if_pos (Or.inr hM)]
                exact ev_const rfl
              · rw [if_neg (by omega)]
                exact ev_const rfl
          · refine ev_dec (fun hM => ?_) (fun hM => ?_)
            · rw [if_pos (Or.inr hM)]
              exact ev_const rfl
            · rw [if_neg (by omega)]
              exact ev_const rfl
        · rw [if_neg hb1]
          exact ih (i + 1) _ (by omega) hn0 hn1
      · rw [if_neg (by omega), decide_eq_true (show a ≥ (x.length : Int) - i from by omega)]
        exact hstop _ rfl
theorem RU_il (x : List Int) (hx : x.length ≤ 1000000000000000) (hw : ∀ v ∈ x, 0 ≤ v ∧ v ≤ 255) (a : Int) (ha : -9223372036854775808 ≤ a ∧ a ≤ 9223372036854775807) :
    ∀ (d i : Nat) (n : Int), i + d = 6 → 0 ≤ n → n < 2 ^ (7 * i) → Ev (fun k => impl_ReadUvarint.l0 k x a n (i : Int)) (rvar x a d n) := by
  intro d
  induction d with
  | zero =>
    intro i n hi _ _
    refine ev_step ?_
    simp only [impl_ReadUvarint.l0, rvar]
    exact ev_neg (by omega) (ev_const rfl)
  | succ d ih =>
    intro i n hi h0 h1
    have e5 : (5 - (d : Int)) = (i : Int) := by omega
    have e6 : 5 - d = i := by omega
    refine ev_step ?_
    simp only [impl_ReadUvarint.l0, rvar]
    rw [e5, e6, w64 (i := (x.length : Int) - 1) (by omega) (by omega), w64 (i := (x.length : Int) - 1 - i) (by omega) (by omega)]
    refine ev_pos (by omega) (ev_bindc (InRange_v _ _ _) ?_)
    by_cases hlt : 0 ≤ a ∧ a + (i : Int) < (x.length : Int)
    · have hb := rd_bd x hw (a + (i : Int))
      obtain ⟨hbits, hn0, hn1⟩ := RU_bits (rd x (a + (i : Int))) n i (by omega) hb.1 hb.2 h0 h1
      rw [if_pos hlt]
      refine ev_pos (by simp; omega) ?_
      rw [w64 (i := a + (i : Int)) (by omega) (by omega), hbits, w64 (i := rd x (a + (i : Int))) (by omega) (by omega), w64 (i := 7 * (i : Int)) (by omega) (by omega), w64 (i := a + (i : Int) + 1) (by omega) (by omega), w64s (n := 6) (i := i) (by omega) (by omega)]
      refine ev_pos (by omega) (ev_pos (by omega) (ev_pos (by omega) (ev_dec (fun hb1 => ?_) (fun hb1 => ?_))))
      · rw [if_neg (show ¬ rd x (a + (i : Int)) < 128 from by omega)]
        exact ih (i + 1) _ (by omega) hn0 hn1
      · rw [if_pos (show rd x (a + (i : Int)) < 128 from by omega)]
        refine ev_dec (fun hp => ?_) (fun hp => ?_)
        · refine ev_dec (fun hz => ?_) (fun hz => ?_)
          · rw [if_pos (Or.inl ⟨hz, by omega⟩)]
            exact ev_const rfl
          · refine ev_dec (fun hM => ?_) (fun hM => ?_)
            · rw [if_pos (Or.inr hM)]
              exact ev_const rfl
            · rw [if_neg (by omega)]
              exact ev_const rfl
        · refine ev_dec (fun hM => ?_) (fun hM => ?_)
          · rw [if_pos (Or.inr hM)]
            exact ev_const rfl
          · rw [if_neg (by omega)]
            exact ev_const rfl
    · rw [if_neg hlt]
      exact ev_neg (by simp; omega) (ev_const rfl)
theorem RU_sev (x : List Int) (hx : x.length ≤ 1000000000000000) (hw : ∀ v ∈ x, 0 ≤ v ∧ v ≤ 255) (a : Int) (ha : -9223372036854775808 ≤ a ∧ a ≤ 9223372036854775807) : Ev (fun k => spec_ReadUvarint.f k x a) (rvar x a 6 0) := by
  unfold spec_ReadUvarint.f
  exact RU_sl x hx hw a ha 6 0 0 (by omega) (by omega) (by decide)
theorem RU_iev (x : List Int) (hx : x.length ≤ 1000000000000000) (hw : ∀ v ∈ x, 0 ≤ v ∧ v ≤ 255) (a : Int) (ha : -9223372036854775808 ≤ a ∧ a ≤ 9223372036854775807) : Ev (fun k => impl_ReadUvarint.f k x a) (rvar x a 6 0) := by
  unfold impl_ReadUvarint.f
  exact RU_il x hx hw a ha 6 0 0 (by omega) (by omega) (by decide)

/-- What reading a byte string comes to. -/
def rbytes (x : List Int) (a most : Int) : List Int × Int × Bool :=
  let r := rvar x a 6 0
  if r.2.2 = true ∧ r.1 ≤ most ∧ r.1 ≤ (x.length : Int) - r.2.1 then ((x.take (r.2.1 + r.1).toNat).drop r.2.1.toNat, r.2.1 + r.1, true) else ([], 0, false)
theorem rbytes_len (x : List Int) (a most : Int) : (rbytes x a most).1.length ≤ x.length := by
  unfold rbytes
  simp only []
  split
  · simp
    omega
  · simp
theorem RB_sev (x : List Int) (hx : x.length ≤ 100000000000000) (hw : ∀ v ∈ x, 0 ≤ v ∧ v ≤ 255) (a most : Int) (ha : -9223372036854775808 ≤ a ∧ a ≤ 9223372036854775807) : Ev (fun k => spec_ReadBytes.f k x a most) (rbytes x a most) := by
  unfold spec_ReadBytes.f rbytes
  refine ev_bind (RU_sev x (by omega) hw a ha) ?_
  have hb := rvar_bd x a (by omega) hw 6 0 (by omega) (by omega)
  generalize rvar x a 6 0 = r at hb
  simp only []
  refine ev_dec (fun h1 => ?_) (fun h1 => ?_)
  · refine ev_dec (fun h2 => ?_) (fun h2 => ?_)
    · rw [if_neg (show ¬ (r.2.2 = true ∧ r.1 ≤ most ∧ r.1 ≤ (x.length : Int) - r.2.1) from fun z => by omega)]
      exact ev_const rfl
    · rw [w64 (i := (x.length : Int) - r.2.1) (by omega) (by omega)]
      refine ev_dec (fun h3 => ?_) (fun h3 => ?_)
      · rw [if_neg (show ¬ (r.2.2 = true ∧ r.1 ≤ most ∧ r.1 ≤ (x.length : Int) - r.2.1) from fun z => by omega)]
        exact ev_const rfl
      · rw [if_pos (show r.2.2 = true ∧ r.1 ≤ most ∧ r.1 ≤ (x.length : Int) - r.2.1 from ⟨h1, by omega, by omega⟩), w64 (i := r.2.1 + r.1) (by omega) (by omega)]
        exact ev_bindc rfl (ev_pos (by omega) (ev_pos (by omega) (ev_pos (by omega) (ev_pos (by simp; omega) (ev_const rfl)))))
  · rw [if_neg (show ¬ (r.2.2 = true ∧ r.1 ≤ most ∧ r.1 ≤ (x.length : Int) - r.2.1) from fun z => h1 z.1)]
    exact ev_const rfl
theorem RB_iev (x : List Int) (hx : x.length ≤ 100000000000000) (hw : ∀ v ∈ x, 0 ≤ v ∧ v ≤ 255) (a most : Int) (ha : -9223372036854775808 ≤ a ∧ a ≤ 9223372036854775807) : Ev (fun k => impl_ReadBytes.f k x a most) (rbytes x a most) := by
  unfold impl_ReadBytes.f rbytes
  refine ev_bind (RU_iev x (by omega) hw a ha) ?_
  have hb := rvar_bd x a (by omega) hw 6 0 (by omega) (by omega)
  generalize rvar x a 6 0 = r at hb
  simp only []
  refine ev_dec (fun h1 => ?_) (fun h1 => ?_)
  · refine ev_dec (fun h2 => ?_) (fun h2 => ?_)
    · rw [if_neg (show ¬ (r.2.2 = true ∧ r.1 ≤ most ∧ r.1 ≤ (x.length : Int) - r.2.1) from fun z => by omega)]
      exact ev_const rfl
    · rw [w64 (i := (x.length : Int) - r.2.1) (by omega) (by omega)]
      refine ev_dec (fun h3 => ?_) (fun h3 => ?_)
      · rw [if_neg (show ¬ (r.2.2 = true ∧ r.1 ≤ most ∧ r.1 ≤ (x.length : Int) - r.2.1) from fun z => by omega)]
        exact ev_const rfl
      · rw [if_pos (show r.2.2 = true ∧ r.1 ≤ most ∧ r.1 ≤ (x.length : Int) - r.2.1 from ⟨h1, by omega, by omega⟩), w64 (i := r.2.1 + r.1) (by omega) (by omega)]
        exact ev_pos (by omega) (ev_pos (by omega) (ev_pos (by omega) (ev_bindc (show impl_cloned.f _ = some _ from if_pos (by simp; omega)) (ev_const rfl))))
  · rw [if_neg (show ¬ (r.2.2 = true ∧ r.1 ≤ most ∧ r.1 ≤ (x.length : Int) - r.2.1) from fun z => h1 z.1)]
    exact ev_const rfl
end OfFnExactReadBytes
open OfFnExactReadBytes in
theorem FnExactReadBytes : laws_FnExactReadBytes.Pure := by
  intro l a n _ hb hw ha _
  apply Ev.rounds
  unfold laws_FnExactReadBytes.f
  refine ev_dec (fun _ => ev_const rfl) (fun h0 => ?_)
  have hw' : ∀ v ∈ l, 0 ≤ v ∧ v ≤ 255 := fun v hv => wfu8 (hw v hv)
  have e := toByteS_ev l (by omega)
  have s := RB_sev l (by omega) hw' a n (wf64 ha)
  have g := RB_iev l (by omega) hw' a n (wf64 ha)
  have hl := rbytes_len l a n
  generalize rbytes l a n = r at s g hl
  have q := eqByteS_refl l (by omega)
  have qr := eqByteS_refl r.1 (by omega)
  have m := markByteS_ev l (by omega) 1 (by omega) (by omega)
  have mr := markByteS_ev r.1 (by omega) 1 (by omega) (by omega)
  have hh := heldByteS_ev r.1.length (by omega) 1 (by omega) (by omega)
  repeat' first
    | exact ev_const rfl
    | refine ev_bind e ?_
    | refine ev_bind s ?_
    | refine ev_bind g ?_
    | refine ev_bind q ?_
    | refine ev_bind qr ?_
    | refine ev_bind m ?_
    | refine ev_bind mr ?_
    | refine ev_bind hh ?_
    | refine ev_pos rfl ?_
    | refine ev_neg (by first | omega | (simp; done) | (simp; omega)) ?_
    | refine ev_pos (by first | omega | (simp; done) | (simp; omega)) ?_
    | (refine ev_step ?_; simp only [laws_FnExactReadBytes.j0]; refine ev_neg (by simp) ?_)
    | (refine ev_step ?_; simp only [laws_FnExactReadBytes.j1]; refine ev_neg (by simp) ?_)
    | (refine ev_step ?_; simp only [laws_FnExactReadBytes.j2]; refine ev_neg (by simp) ?_)
end Go.Proofs.Ytcmjcppgfhdbmaa.Pure
