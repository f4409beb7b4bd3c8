/- The pure statement of FnExactEncodeInts: what the printed functions compute answers true for all arguments within the printed bounds. -/
import Derived.Test.YtcmjcppgfhdbmaaPFnExactEncodeIntsx2
import Derived.Test.YtcmjcppgfhdbmaaKit
namespace Go.Proofs.Ytcmjcppgfhdbmaa.Pure
open Go.RowKit Go.Proofs.Ytcmjcppgfhdbmaa.PFnExactEncodeInts Go.Proofs.YtcmjcppgfhdbmaaW.PrintWords Go.Proofs.YtcmjcppgfhdbmaaW.PrintLast Go.Proofs.Ytcmjcppgfhdbmaa.Kit
set_option linter.unusedVariables false
set_option linter.unusedSimpArgs false
namespace OfFnExactEncodeInts
theorem toIntS_ev (x : List Int) (hx : x.length ≤ 35184372088832) : Ev (fun k => laws_toIntS.f k x) x := by
  unfold laws_toIntS.f
  refine ev_pos (by omega) (ev_pos (by omega) ?_)
  exact copy_loop (L := laws_toIntS.l0) (rdf := rd) (fun _ _ _ _ => rfl) rd_at x (by omega) x.length 0 _ (by omega) (by simp) (by simp)

theorem eqIntS_ev (x y : List Int) (hx : x.length ≤ 9223372036854775806) (b : Bool) (hb : b = true ↔ x = y) : Ev (fun k => laws_eqIntS.f k x y) b := by
  unfold laws_eqIntS.f
  refine ev_dec (fun h => ?_) (fun h => ?_)
  · exact eq_loop (L := laws_eqIntS.l0) (c := fun x y i => rd x i = rd y i) (fun _ _ _ _ => rfl) (fun x y i h h' => by rw [rd_at x i h, rd_at y i h']) x y hx (by omega) b x.length 0 (by omega) (by simpa using hb)
  · have e : b = false := by
      rw [Bool.eq_false_iff]
      intro z
      exact h (by rw [hb.mp z])
    subst e
    exact ev_const rfl
theorem eqIntS_refl (x : List Int) (hx : x.length ≤ 9223372036854775806) : Ev (fun k => laws_eqIntS.f k x x) true := eqIntS_ev x x hx true (by simp)

theorem eqByteS_ev (x y : List Int) (hx : x.length ≤ 9223372036854775806) (b : Bool) (hb : b = true ↔ x = y) : Ev (fun k => laws_eqByteS.f k x y) b := by
  unfold laws_eqByteS.f
  refine ev_dec (fun h => ?_) (fun h => ?_)
  · exact eq_loop (L := laws_eqByteS.l0) (c := fun x y i => rd x i = rd y i) (fun _ _ _ _ => rfl) (fun x y i h h' => by rw [rd_at x i h, rd_at y i h']) x y hx (by omega) b x.length 0 (by omega) (by simpa using hb)
  · have e : b = false := by
      rw [Bool.eq_false_iff]
      intro z
      exact h (by rw [hb.mp z])
    subst e
    exact ev_const rfl
theorem eqByteS_refl (x : List Int) (hx : x.length ≤ 9223372036854775806) : Ev (fun k => laws_eqByteS.f k x x) true := eqByteS_ev x x hx true (by simp)

theorem markIntS_ev (x : List Int) (hx : x.length ≤ 1000000000000000) (m : Int) (h0 : 0 ≤ m) (h1 : m ≤ 1000000000000000) : Ev (fun k => laws_markIntS.f k x m) (m + (x.length : Int), mk (fun m => m) m x.length) := by
  unfold laws_markIntS.f
  have h := mark_loop (L := laws_markIntS.l0) (f := fun m => m) (fun _ _ _ _ => rfl) x.length m (by omega) (by omega) (by omega) x.length 0 x (by omega) rfl (by simp [mk])
  simpa using h

theorem markByteS_ev (x : List Int) (hx : x.length ≤ 1000000000000000) (m : Int) (h0 : 0 ≤ m) (h1 : m ≤ 1000000000000000) : Ev (fun k => laws_markByteS.f k x m) (m + (x.length : Int), mk (fun m => m % 256) m x.length) := by
  unfold laws_markByteS.f
  have h := mark_loop (L := laws_markByteS.l0) (f := fun m => m % 256) (fun _ _ _ _ => rfl) x.length m (by omega) (by omega) (by omega) x.length 0 x (by omega) rfl (by simp [mk])
  simpa using h

theorem heldByteS_ev (n : Nat) (hx : n ≤ 1000000000000000) (m : Int) (h0 : 0 ≤ m) (h1 : m ≤ 1000000000000000) : Ev (fun k => laws_heldByteS.f k (mk (fun m => m % 256) m n) m) (m + (n : Int)) := by
  unfold laws_heldByteS.f
  have h := held_loop (L := laws_heldByteS.l0) (f := fun m => m % 256) (c := fun x i m => rd x i = (m) % 256) (fun _ _ _ _ => rfl) n m (by omega) (by omega) (by omega) (fun i hi => by rw [rd_at _ i (by rw [mk_length]; exact hi), mk_get]) n 0 (by omega)
  simpa using h

theorem wraps_i64 (n : Int) (h₀ : 0 ≤ n) (h₁ : n < 2 ^ 62) : IntKind.i64.wrap n = n := by rw [IntKind.wrap_i64]; omega
theorem or_comm64 (x y : Int) : Go.bits .or .i64 x y = Go.bits .or .i64 y x := by
  unfold Go.bits
  simp only [BitVec.or_comm]
theorem or_add (n y : Int) (s : Nat) (hs : s ≤ 62) (h0 : 0 ≤ n) (h1 : n < 2 ^ s) (hy0 : 0 ≤ y) (hy : y % 2 ^ s = 0) (hy1 : y < 2 ^ 62) (hn1 : n < 2 ^ 62) : Go.bits .or .i64 n y = n + y := by
  rw [or_comm64, bits_join .i64 62 (by decide) wraps_i64 s y n hy0 hy hy1 h0 h1 hn1, Int.add_comm]
theorem and127 (b : Int) (h0 : 0 ≤ b) (h1 : b < 2 ^ 62) : Go.bits .and .i64 b 127 = b % 128 := by
  have h := bits_mask .i64 62 (by decide) wraps_i64 7 (by decide) b h0 h1
  simpa using h

theorem InRange_v (a b c : Int) : impl_InRange.f a b c = some (decide (b ≤ a ∧ a ≤ c)) := by
  unfold impl_InRange.f
  by_cases h : b ≤ a <;> simp [h]

theorem l1In_v (a b c : Int) : spec_l1In.f a b c = some (decide (b ≤ a ∧ a ≤ c)) := by
  unfold spec_l1In.f
  by_cases h : b ≤ a <;> simp [h]

/-- The bytes of a number, low ones first. -/
def venc (n : Nat) : List Int := if n < 128 then [(n : Int)] else ((n % 128 + 128 : Nat) : Int) :: venc (n / 128)
termination_by n
decreasing_by omega
theorem venc_len : ∀ (d n : Nat), n < 128 ^ (d + 1) → 1 ≤ (venc n).length ∧ (venc n).length ≤ d + 1 := by
  intro d
  induction d with
  | zero =>
    intro n hn
    rw [venc, if_pos (by simpa using hn)]
    simp
  | succ d ih =>
    intro n hn
    rw [venc]
    split
    · simp
    · have := ih (n / 128) (by rw [Nat.div_lt_iff_lt_mul (by omega)]; rw [Nat.pow_succ] at hn; exact hn)
      simp
      omega
theorem venc_len6 (n : Nat) (h : n ≤ 1000000000000) : 1 ≤ (venc n).length ∧ (venc n).length ≤ 6 := venc_len 5 n (by omega)
theorem venc_bd : ∀ (N n : Nat), n ≤ N → ∀ v ∈ venc n, 0 ≤ v ∧ v ≤ 255 := by
  intro N
  induction N with
  | zero =>
    intro n hn v hv
    rw [venc, if_pos (by omega)] at hv
    simp at hv
    omega
  | succ N ih =>
    intro n hn v hv
    rw [venc] at hv
    split at hv
    · simp at hv
      omega
    · rcases List.mem_cons.1 hv with h | h
      · omega
      · exact ih (n / 128) (by omega) v h
theorem or_u8 (n : Nat) : Go.bits .or .u8 (((n : Int)) % 256) 128 = ((n % 128 + 128 : Nat) : Int) := by
  rw [show ((n : Int)) % 256 = ((n % 256 : Nat) : Int) from by omega, show (128 : Int) = ((128 : Nat) : Int) from rfl, (bits_nat .u8 8 (by decide) wraps_u8 (n % 256) 128 (by omega) (by omega)).2]
  have h : ∀ m, m < 256 → m ||| 128 = m % 128 + 128 := by decide +kernel
  rw [h (n % 256) (by omega)]
  omega
theorem or_i64 (n : Nat) (hn : n ≤ 1000000000000) : (Go.bits .or .i64 (Go.bits .and .i64 (n : Int) 127) 128) % 256 = ((n % 128 + 128 : Nat) : Int) := by
  rw [and127 _ (by omega) (by omega), show ((n : Int)) % 128 = ((n % 128 : Nat) : Int) from by omega, show (128 : Int) = ((128 : Nat) : Int) from rfl, (bits_nat .i64 62 (by decide) wraps_i64 (n % 128) 128 (by omega) (by omega)).2]
  have h : ∀ m, m < 128 → m ||| 128 = m + 128 := by decide +kernel
  rw [h (n % 128) (by omega)]
  omega
theorem AU_sl : ∀ (N n : Nat) (acc : List Int), n ≤ N → n ≤ 1000000000000 → acc.length + (venc n).length ≤ 140737488355328 → Ev (fun k => spec_AppendUvarint.l0 k (n : Int) acc) (acc ++ venc n) := by
  intro N
  induction N with
  | zero =>
    intro n acc hn _ hl
    have hv : venc n = [(n : Int)] := by rw [venc, if_pos (by omega)]
    rw [hv] at hl ⊢
    simp at hl
    refine ev_step ?_
    simp only [spec_AppendUvarint.l0]
    refine ev_neg (by omega) (ev_pos (by omega) ?_)
    rw [show (n : Int) % 256 = n from by omega]
    exact ev_const rfl
  | succ N ih =>
    intro n acc hn hM hl
    refine ev_step ?_
    simp only [spec_AppendUvarint.l0]
    by_cases h : n < 128
    · have hv : venc n = [(n : Int)] := by rw [venc, if_pos h]
      rw [hv] at hl ⊢
      simp at hl
      refine ev_neg (by omega) (ev_pos (by omega) ?_)
      rw [show (n : Int) % 256 = n from by omega]
      exact ev_const rfl
    · have hv : venc n = ((n % 128 + 128 : Nat) : Int) :: venc (n / 128) := by rw [venc, if_neg h]
      rw [hv] at hl ⊢
      simp at hl
      refine ev_pos (by omega) (ev_pos (by omega) ?_)
      rw [or_i64 n hM, show (n : Int) / 128 = ((n / 128 : Nat) : Int) from by omega]
      have := ih (n / 128) (acc ++ [((n % 128 + 128 : Nat) : Int)]) (by omega) (by omega) (by simp; omega)
      simpa using this
theorem AU_il : ∀ (N n : Nat) (acc : List Int), n ≤ N → acc.length + (venc n).length ≤ 140737488355328 → Ev (fun k => impl_AppendUvarint.l0 k (n : Int) acc) (acc ++ venc n) := by
  intro N
  induction N with
  | zero =>
    intro n acc hn hl
    have hv : venc n = [(n : Int)] := by rw [venc, if_pos (by omega)]
    rw [hv] at hl ⊢
    simp at hl
    refine ev_step ?_
    simp only [impl_AppendUvarint.l0]
    refine ev_neg (by omega) (ev_pos (by omega) ?_)
    rw [show (n : Int) % 256 = n from by omega]
    exact ev_const rfl
  | succ N ih =>
    intro n acc hn hl
    refine ev_step ?_
    simp only [impl_AppendUvarint.l0]
    by_cases h : n < 128
    · have hv : venc n = [(n : Int)] := by rw [venc, if_pos h]
      rw [hv] at hl ⊢
      simp at hl
      refine ev_neg (by omega) (ev_pos (by omega) ?_)
      rw [show (n : Int) % 256 = n from by omega]
      exact ev_const rfl
    · have hv : venc n = ((n % 128 + 128 : Nat) : Int) :: venc (n / 128) := by rw [venc, if_neg h]
      rw [hv] at hl ⊢
      simp at hl
      refine ev_pos (by omega) (ev_pos (by omega) ?_)
      rw [or_u8 n, show (n : Int) / 128 = ((n / 128 : Nat) : Int) from by omega]
      have := ih (n / 128) (acc ++ [((n % 128 + 128 : Nat) : Int)]) (by omega) (by simp; omega)
      simpa using this
/-- What appending a number to bytes comes to. -/
def appv (b : List Int) (n : Int) : List Int := if 0 ≤ n ∧ n ≤ 1000000000000 then b ++ venc n.toNat else b
theorem appv_len (b : List Int) (n : Int) : (appv b n).length ≤ b.length + 6 := by
  unfold appv
  split
  · have := venc_len6 n.toNat (by omega)
    simp
    omega
  · omega
theorem appv_bd (b : List Int) (n : Int) (hw : ∀ v ∈ b, 0 ≤ v ∧ v ≤ 255) : ∀ v ∈ appv b n, 0 ≤ v ∧ v ≤ 255 := by
  unfold appv
  split
  · intro v hv
    rcases List.mem_append.1 hv with h | h
    · exact hw v h
    · exact venc_bd n.toNat n.toNat (Nat.le_refl _) v h
  · exact hw
theorem AU_sev (b : List Int) (n : Int) (hb : b.length ≤ 100000000000000) : Ev (fun k => spec_AppendUvarint.f k b n) (appv b n) := by
  unfold spec_AppendUvarint.f appv
  refine ev_bindc rfl (ev_pos (by simp; omega) (ev_bindc rfl (ev_bindc (l1In_v _ _ _) ?_)))
  by_cases h : 0 ≤ n ∧ n ≤ 1000000000000
  · rw [if_pos h]
    refine ev_pos (by simp [h]) ?_
    have hl := venc_len6 n.toNat (by omega)
    have := AU_sl n.toNat n.toNat b (Nat.le_refl _) (by omega) (by omega)
    rw [show ((n.toNat : Nat) : Int) = n from by omega] at this
    exact this
  · rw [if_neg h]
    exact ev_neg (by simp; omega) (ev_const rfl)
theorem AU_iev (b : List Int) (n : Int) (hb : b.length ≤ 100000000000000) : Ev (fun k => impl_AppendUvarint.f k b n) (appv b n) := by
  unfold impl_AppendUvarint.f appv
  refine ev_bindc (show impl_cloned.f b = some b from if_pos (by omega)) (ev_bindc (InRange_v _ _ _) ?_)
  by_cases h : 0 ≤ n ∧ n ≤ 1000000000000
  · rw [if_pos h]
    refine ev_pos (by simp [h]) ?_
    have hl := venc_len6 n.toNat (by omega)
    have := AU_il n.toNat n.toNat b (Nat.le_refl _) (by omega)
    rw [show ((n.toNat : Nat) : Int) = n from by omega] at this
    exact this
  · rw [if_neg h]
    exact ev_neg (by simp; omega) (ev_const rfl)

def encs_ (l : List Int) (b : List Int) : List Int := l.foldl appv b
theorem encs_len (l : List Int) : ∀ b, (encs_ l b).length ≤ b.length + 6 * l.length := by
  induction l with
  | nil => intro b; simp [encs_]
  | cons a l ih =>
    intro b
    have h1 := ih (appv b a)
    have h2 := appv_len b a
    simp only [encs_, List.foldl_cons, List.length_cons] at h1 ⊢
    omega
theorem EI_sl (x : List Int) (hx : x.length ≤ 1000000000000) : ∀ (m i : Nat) (b : List Int), i + m = x.length → b.length ≤ 6 * i → Ev (fun k => spec_EncodeInts.l0 k x b (i : Int)) (encs_ (x.drop i) b) := by
  intro m
  induction m with
  | zero =>
    intro i b hi _
    refine ev_step ?_
    simp only [spec_EncodeInts.l0]
    rw [List.drop_of_length_le (by omega)]
    exact ev_neg (by omega) (ev_const rfl)
  | succ m ih =>
    intro i b hi hb
    have hlt : i < x.length := by omega
    refine ev_step ?_
    simp only [spec_EncodeInts.l0]
    rw [rd_at x i hlt, w64s (n := x.length) hlt (by omega), List.drop_eq_getElem_cons hlt]
    have := appv_len b x[i]
    exact ev_pos (by omega) (ev_pos (by omega) (ev_bind (AU_sev b _ (by omega)) (ih (i + 1) _ (by omega) (by omega))))
theorem EI_il (x : List Int) (hx : x.length ≤ 1000000000000) : ∀ (m i : Nat) (b : List Int), i + m = x.length → b.length ≤ 6 * i → Ev (fun k => impl_EncodeInts.l0 k b x (x.length : Int) (i : Int)) (encs_ (x.drop i) b) := by
  intro m
  induction m with
  | zero =>
    intro i b hi _
    refine ev_step ?_
    simp only [impl_EncodeInts.l0]
    rw [List.drop_of_length_le (by omega)]
    exact ev_neg (by omega) (ev_const rfl)
  | succ m ih =>
    intro i b hi hb
    have hlt : i < x.length := by omega
    refine ev_step ?_
    simp only [impl_EncodeInts.l0]
    rw [rd_at x i hlt, w64s (n := x.length) hlt (by omega), List.drop_eq_getElem_cons hlt]
    have := appv_len b x[i]
    exact ev_pos (by omega) (ev_pos (by omega) (ev_pos (by omega) (ev_bind (AU_iev b _ (by omega)) (ih (i + 1) _ (by omega) (by omega)))))
theorem EI_sev (x : List Int) (hx : x.length ≤ 1000000000000) : Ev (fun k => spec_EncodeInts.f k x) (encs_ x []) := by
  unfold spec_EncodeInts.f
  exact EI_sl x hx x.length 0 [] (by omega) (by simp)
theorem EI_iev (x : List Int) (hx : x.length ≤ 1000000000000) : Ev (fun k => impl_EncodeInts.f k x) (encs_ x []) := by
  unfold impl_EncodeInts.f
  exact EI_il x hx x.length 0 [] (by omega) (by simp)
end OfFnExactEncodeInts
open OfFnExactEncodeInts in
theorem FnExactEncodeInts : laws_FnExactEncodeInts.Pure := by
  intro l _ hb _
  apply Ev.rounds
  unfold laws_FnExactEncodeInts.f
  refine ev_dec (fun _ => ev_const rfl) (fun h0 => ?_)
  have e := toIntS_ev l (by omega)
  have s := EI_sev l (by omega)
  have g := EI_iev l (by omega)
  have hl := encs_len l []
  generalize encs_ l [] = r at s g hl
  simp at hl
  have q := eqIntS_refl l (by omega)
  have qr := eqByteS_refl r (by omega)
  have m := markIntS_ev l (by omega) 1 (by omega) (by omega)
  have mr := markByteS_ev r (by omega) 1 (by omega) (by omega)
  have hh := heldByteS_ev r.length (by omega) 1 (by omega) (by omega)
  repeat' first
    | exact ev_const rfl
    | refine ev_bind e ?_
    | refine ev_bind s ?_
    | refine ev_bind g ?_
    | refine ev_bind q ?_
    | refine ev_bind qr ?_
    | refine ev_bind m ?_
    | refine ev_bind mr ?_
    | refine ev_bind hh ?_
    | refine ev_pos rfl ?_
    | refine ev_neg (by first | omega | (simp; done) | (simp; omega)) ?_
    | refine ev_pos (by first | omega | (simp; done) | (simp; omega)) ?_
    | (refine ev_step ?_; simp only [laws_FnExactEncodeInts.j0]; refine ev_neg (by simp) ?_)
end Go.Proofs.Ytcmjcppgfhdbmaa.Pure
