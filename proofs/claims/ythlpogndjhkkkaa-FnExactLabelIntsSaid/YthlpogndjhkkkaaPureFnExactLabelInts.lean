/- The pure statement of FnExactLabelInts: what the printed functions compute answers true for all arguments within the printed bounds. -/
import Derived.Test.YthlpogndjhkkkaaPFnExactLabelIntsx1
import Derived.Test.YthlpogndjhkkkaaKit
namespace Go.Proofs.Ythlpogndjhkkkaa.Pure
open Go.RowKit Go.Proofs.Ythlpogndjhkkkaa.PFnExactLabelInts Go.Proofs.YthlpogndjhkkkaaW.PrintWords Go.Proofs.YthlpogndjhkkkaaW.PrintLast Go.Proofs.Ythlpogndjhkkkaa.Kit
set_option linter.unusedVariables false
set_option linter.unusedSimpArgs false
namespace OfFnExactLabelInts
theorem eqIntS_ev (x y : List Int) (hx : x.length ≤ 9223372036854775806) (b : Bool) (hb : b = true ↔ x = y) : Ev (fun k => laws_eqIntS.f k x y) b := by
  unfold laws_eqIntS.f
  refine ev_dec (fun h => ?_) (fun h => ?_)
  · exact eq_loop (L := laws_eqIntS.l0) (c := fun x y i => rd x i = rd y i) (fun _ _ _ _ => rfl) (fun x y i h h' => by rw [rd_at x i h, rd_at y i h']) x y hx (by omega) b x.length 0 (by omega) (by simpa using hb)
  · have e : b = false := by
      rw [Bool.eq_false_iff]
      intro z
      exact h (by rw [hb.mp z])
    subst e
    exact ev_const rfl
theorem eqIntS_refl (x : List Int) (hx : x.length ≤ 9223372036854775806) : Ev (fun k => laws_eqIntS.f k x x) true := eqIntS_ev x x hx true (by simp)

theorem markIntS_ev (x : List Int) (hx : x.length ≤ 1000000000000000) (m : Int) (h0 : 0 ≤ m) (h1 : m ≤ 1000000000000000) : Ev (fun k => laws_markIntS.f k x m) (m + (x.length : Int), mk (fun m => m) m x.length) := by
  unfold laws_markIntS.f
  have h := mark_loop (L := laws_markIntS.l0) (f := fun m => m) (fun _ _ _ _ => rfl) x.length m (by omega) (by omega) (by omega) x.length 0 x (by omega) rfl (by simp [mk])
  simpa using h

theorem heldIntS_ev (n : Nat) (hx : n ≤ 1000000000000000) (m : Int) (h0 : 0 ≤ m) (h1 : m ≤ 1000000000000000) : Ev (fun k => laws_heldIntS.f k (mk (fun m => m) m n) m) (m + (n : Int)) := by
  unfold laws_heldIntS.f
  have h := held_loop (L := laws_heldIntS.l0) (f := fun m => m) (c := fun x i m => rd x i = m) (fun _ _ _ _ => rfl) n m (by omega) (by omega) (by omega) (fun i hi => by rw [rd_at _ i (by rw [mk_length]; exact hi), mk_get]) n 0 (by omega)
  simpa using h

theorem BytesToInts_sl (x : List Int) (hx : x.length ≤ 1000000000000) (hw : ∀ v ∈ x, 0 ≤ v ∧ v ≤ 255) : ∀ (m i : Nat), i + m = x.length → Ev (fun k => spec_BytesToInts.l0 k x ((x.length : Int) :: x.take i) (i : Int)) ((x.length : Int) :: x) := by
  intro m
  induction m with
  | zero =>
    intro i hi
    refine ev_step ?_
    simp only [spec_BytesToInts.l0]
    rw [List.take_of_length_le (by omega)]
    exact ev_neg (by omega) (ev_const rfl)
  | succ m ih =>
    intro i hi
    have hlt : i < x.length := by omega
    have hv := hw x[i] (List.getElem_mem hlt)
    refine ev_step ?_
    simp only [spec_BytesToInts.l0]
    refine ev_pos (by omega) (ev_pos (by omega) (ev_pos (by simp; omega) ?_))
    rw [w64s (n := x.length) hlt (by omega), rd_at x i hlt, w64 (i := x[i]) (by omega) (by omega)]
    have h := ih (i + 1) (by omega)
    rw [List.take_succ_eq_append_getElem hlt] at h
    exact h
theorem BytesToInts_il (x : List Int) (hx : x.length ≤ 1000000000000) (hw : ∀ v ∈ x, 0 ≤ v ∧ v ≤ 255) : ∀ (m i : Nat), i + m = x.length → Ev (fun k => impl_BytesToInts.l0 k ((x.length : Int) :: x.take i) x (x.length : Int) (i : Int)) ((x.length : Int) :: x) := by
  intro m
  induction m with
  | zero =>
    intro i hi
    refine ev_step ?_
    simp only [impl_BytesToInts.l0]
    rw [List.take_of_length_le (by omega)]
    exact ev_neg (by omega) (ev_const rfl)
  | succ m ih =>
    intro i hi
    have hlt : i < x.length := by omega
    have hv := hw x[i] (List.getElem_mem hlt)
    refine ev_step ?_
    simp only [impl_BytesToInts.l0]
    refine ev_pos (by omega) (ev_pos (by omega) (ev_pos (by omega) (ev_pos (by simp; omega) ?_)))
    rw [w64s (n := x.length) hlt (by omega), rd_at x i hlt, w64 (i := x[i]) (by omega) (by omega)]
    have h := ih (i + 1) (by omega)
    rw [List.take_succ_eq_append_getElem hlt] at h
    exact h
theorem BytesToInts_sev (x : List Int) (hx : x.length ≤ 1000000000000) (hw : ∀ v ∈ x, 0 ≤ v ∧ v ≤ 255) : Ev (fun k => spec_BytesToInts.f k x) ((x.length : Int) :: x) := by
  unfold spec_BytesToInts.f
  exact BytesToInts_sl x hx hw x.length 0 (by omega)
theorem BytesToInts_iev (x : List Int) (hx : x.length ≤ 1000000000000) (hw : ∀ v ∈ x, 0 ≤ v ∧ v ≤ 255) : Ev (fun k => impl_BytesToInts.f k x) ((x.length : Int) :: x) := by
  unfold impl_BytesToInts.f
  exact BytesToInts_il x hx hw x.length 0 (by omega)

theorem LabelInts_rg (a : ByteArray) : ∀ v ∈ bytesOf a, 0 ≤ v ∧ v ≤ 255 := by
  intro v hv
  unfold bytesOf at hv
  simp only [List.mem_map] at hv
  obtain ⟨b, _, rfl⟩ := hv
  have := b.toNat_lt
  omega
theorem LabelInts_sev (a : ByteArray) (h : a.size ≤ 1000000000000) : Ev (fun k => spec_LabelInts.f k a) ((a.size : Int) :: bytesOf a) := by
  unfold spec_LabelInts.f
  have e := BytesToInts_sev (bytesOf a) (by rw [bytesOf_length]; omega) (LabelInts_rg a)
  rw [bytesOf_length] at e
  exact ev_pos (by omega) e
theorem LabelInts_iev (a : ByteArray) (h : a.size ≤ 1000000000000) : Ev (fun k => impl_LabelInts.f k a) ((a.size : Int) :: bytesOf a) := by
  unfold impl_LabelInts.f
  have e := BytesToInts_iev (bytesOf a) (by rw [bytesOf_length]; omega) (LabelInts_rg a)
  rw [bytesOf_length] at e
  exact ev_pos (by omega) e
end OfFnExactLabelInts
open OfFnExactLabelInts in
theorem FnExactLabelInts : laws_FnExactLabelInts.Pure := by
  intro a hb
  apply Ev.rounds
  unfold laws_FnExactLabelInts.f
  refine ev_dec (fun _ => ev_const rfl) (fun h0 => ?_)
  have hlen : ((a.size : Int) :: bytesOf a).length = a.size + 1 := by simp [bytesOf_length]
  have s := LabelInts_sev a (by omega)
  have g := LabelInts_iev a (by omega)
  generalize ((a.size : Int) :: bytesOf a) = r at s g hlen
  have q := eqIntS_refl r (by omega)
  have hl : r.length ≤ 1000000000000000 := by omega
  have hh := heldIntS_ev r.length hl 1 (by omega) (by omega)
  refine ev_bind s (ev_bind g (ev_bind q (ev_pos rfl ?_)))
  refine ev_bind (markIntS_ev _ hl 1 (by omega) (by omega)) (ev_bind hh (ev_neg (by omega) (ev_pos rfl ?_)))
  refine ev_bind g (ev_bind q (ev_pos rfl ?_))
  exact ev_bind hh (ev_neg (by omega) (ev_pos rfl (ev_const rfl)))
end Go.Proofs.Ythlpogndjhkkkaa.Pure
