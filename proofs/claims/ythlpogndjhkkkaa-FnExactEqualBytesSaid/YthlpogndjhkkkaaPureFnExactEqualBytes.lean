/- The pure statement of FnExactEqualBytes: what the printed functions compute answers true for all arguments within the printed bounds. -/
import Derived.Test.YthlpogndjhkkkaaPFnExactEqualBytesx1
import Derived.Test.YthlpogndjhkkkaaKit
namespace Go.Proofs.Ythlpogndjhkkkaa.Pure
open Go.RowKit Go.Proofs.Ythlpogndjhkkkaa.PFnExactEqualBytes Go.Proofs.YthlpogndjhkkkaaW.PrintWords Go.Proofs.YthlpogndjhkkkaaW.PrintLast Go.Proofs.Ythlpogndjhkkkaa.Kit
set_option linter.unusedVariables false
set_option linter.unusedSimpArgs false
namespace OfFnExactEqualBytes
theorem toByteS_ev (x : List Int) (hx : x.length ≤ 281474976710656) : Ev (fun k => laws_toByteS.f k x) x := by
  unfold laws_toByteS.f
  refine ev_pos (by omega) (ev_pos (by omega) ?_)
  exact copy_loop (L := laws_toByteS.l0) (rdf := rd) (fun _ _ _ _ => rfl) rd_at x (by omega) x.length 0 _ (by omega) (by simp) (by simp)

theorem eqByteS_ev (x y : List Int) (hx : x.length ≤ 9223372036854775806) (b : Bool) (hb : b = true ↔ x = y) : Ev (fun k => laws_eqByteS.f k x y) b := by
  unfold laws_eqByteS.f
  refine ev_dec (fun h => ?_) (fun h => ?_)
  · exact eq_loop (L := laws_eqByteS.l0) (c := fun x y i => rd x i = rd y i) (fun _ _ _ _ => rfl) (fun x y i h h' => by rw [rd_at x i h, rd_at y i h']) x y hx (by omega) b x.length 0 (by omega) (by simpa using hb)
  · have e : b = false := by
      rw [Bool.eq_false_iff]
      intro z
      exact h (by rw [hb.mp z])
    subst e
    exact ev_const rfl
theorem eqByteS_refl (x : List Int) (hx : x.length ≤ 9223372036854775806) : Ev (fun k => laws_eqByteS.f k x x) true := eqByteS_ev x x hx true (by simp)
end OfFnExactEqualBytes
open OfFnExactEqualBytes in
theorem FnExactEqualBytes : laws_FnExactEqualBytes.Pure := by
  intro l0 l1 _ b0 _ _ b1 _
  apply Ev.rounds
  unfold laws_FnExactEqualBytes.f spec_EqualBytes.f impl_EqualBytes.f bytes_Equal.f
  refine ev_dec (fun _ => ev_const rfl) (fun h0 => ?_)
  refine ev_dec (fun _ => ev_const rfl) (fun h1 => ?_)
  have e0 := toByteS_ev l0 (by omega)
  have e1 := toByteS_ev l1 (by omega)
  refine ev_bind e0 (ev_bind e1 (ev_bindc rfl (ev_bind e0 (ev_bind e1 (ev_bindc rfl ?_)))))
  refine ev_neg (by simp) ?_
  refine ev_bind e0 (ev_bind (eqByteS_refl l0 (by omega)) (ev_pos rfl ?_))
  exact ev_bind e1 (ev_bind (eqByteS_refl l1 (by omega)) (ev_pos rfl (ev_const rfl)))
end Go.Proofs.Ythlpogndjhkkkaa.Pure
