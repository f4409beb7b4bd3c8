/- The pure statement of FnExactEqualInts: what the printed functions compute answers true for all arguments within the printed bounds. -/
import Derived.Test.YthlpogndjhkkkaaPFnExactEqualIntsx1
import Derived.Test.YthlpogndjhkkkaaKit
namespace Go.Proofs.Ythlpogndjhkkkaa.Pure
open Go.RowKit Go.Proofs.Ythlpogndjhkkkaa.PFnExactEqualInts Go.Proofs.YthlpogndjhkkkaaW.PrintWords Go.Proofs.YthlpogndjhkkkaaW.PrintLast Go.Proofs.Ythlpogndjhkkkaa.Kit
set_option linter.unusedVariables false
set_option linter.unusedSimpArgs false
namespace OfFnExactEqualInts
theorem toIntS_ev (x : List Int) (hx : x.length ≤ 35184372088832) : Ev (fun k => laws_toIntS.f k x) x := by
  unfold laws_toIntS.f
  refine ev_pos (by omega) (ev_pos (by omega) ?_)
  exact copy_loop (L := laws_toIntS.l0) (rdf := rd) (fun _ _ _ _ => rfl) rd_at x (by omega) x.length 0 _ (by omega) (by simp) (by simp)

theorem eqIntS_ev (x y : List Int) (hx : x.length ≤ 9223372036854775806) (b : Bool) (hb : b = true ↔ x = y) : Ev (fun k => laws_eqIntS.f k x y) b := by
  unfold laws_eqIntS.f
  refine ev_dec (fun h => ?_) (fun h => ?_)
  · exact eq_loop (L := laws_eqIntS.l0) (c := fun x y i => rd x i = rd y i) (fun _ _ _ _ => rfl) (fun x y i h h' => by rw [rd_at x i h, rd_at y i h']) x y hx (by omega) b x.length 0 (by omega) (by simpa using hb)
  · have e : b = false := by
      rw [Bool.eq_false_iff]
      intro z
      exact h (by rw [hb.mp z])
    subst e
    exact ev_const rfl
theorem eqIntS_refl (x : List Int) (hx : x.length ≤ 9223372036854775806) : Ev (fun k => laws_eqIntS.f k x x) true := eqIntS_ev x x hx true (by simp)

theorem EqualInts_ev (x y : List Int) (hx : x.length ≤ 9223372036854775806) (b : Bool) (hb : b = true ↔ x = y) : Ev (fun k => spec_EqualInts.f k x y) b := by
  unfold spec_EqualInts.f
  refine ev_dec (fun h => ?_) (fun h => ?_)
  · exact eq_loop (L := spec_EqualInts.l0) (c := fun x y i => rd x i = rd y i) (fun _ _ _ _ => rfl) (fun x y i h h' => by rw [rd_at x i h, rd_at y i h']) x y hx (by omega) b x.length 0 (by omega) (by simpa using hb)
  · have e : b = false := by
      rw [Bool.eq_false_iff]
      intro z
      exact h (by rw [hb.mp z])
    subst e
    exact ev_const rfl
theorem EqualInts_refl (x : List Int) (hx : x.length ≤ 9223372036854775806) : Ev (fun k => spec_EqualInts.f k x x) true := EqualInts_ev x x hx true (by simp)

theorem slEqual_ev (x y : List Int) (hx : x.length ≤ 9223372036854775806) (b : Bool) (hb : b = true ↔ x = y) : Ev (fun k => slices_Equal_int_int.f k x y) b := by
  unfold slices_Equal_int_int.f
  refine ev_dec (fun h => ?_) (fun h => ?_)
  · exact eq_loop_n (L := slices_Equal_int_int.l0) (c := fun x y i => rd x i = rd y i) (fun _ _ _ _ _ => rfl) (fun x y i h h' => by rw [rd_at x i h, rd_at y i h']) x y hx (by omega) b x.length 0 (by omega) (by simpa using hb)
  · have e : b = false := by
      rw [Bool.eq_false_iff]
      intro z
      exact h (by rw [hb.mp z])
    subst e
    exact ev_const rfl
end OfFnExactEqualInts
open OfFnExactEqualInts in
theorem FnExactEqualInts : laws_FnExactEqualInts.Pure := by
  intro l0 l1 _ b0 _ _ b1 _
  apply Ev.rounds
  unfold laws_FnExactEqualInts.f impl_EqualInts.f
  refine ev_dec (fun _ => ev_const rfl) (fun h0 => ?_)
  refine ev_dec (fun _ => ev_const rfl) (fun h1 => ?_)
  have e0 := toIntS_ev l0 (by omega)
  have e1 := toIntS_ev l1 (by omega)
  have g1 := EqualInts_ev l0 l1 (by omega) (decide (l0 = l1)) (by simp)
  have g2 := slEqual_ev l0 l1 (by omega) (decide (l0 = l1)) (by simp)
  refine ev_bind e0 (ev_bind e1 (ev_bind g1 (ev_bind e0 (ev_bind e1 (ev_bind (ev_bind g2 (ev_const rfl)) ?_)))))
  refine ev_neg (by simp) ?_
  refine ev_bind e0 (ev_bind (eqIntS_refl l0 (by omega)) (ev_pos rfl ?_))
  exact ev_bind e1 (ev_bind (eqIntS_refl l1 (by omega)) (ev_pos rfl (ev_const rfl)))
end Go.Proofs.Ythlpogndjhkkkaa.Pure
