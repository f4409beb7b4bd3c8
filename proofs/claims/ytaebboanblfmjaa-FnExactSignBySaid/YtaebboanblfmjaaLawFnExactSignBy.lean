/- The row of the law FnExactSignBy: for every input the call answers true and leaves its arguments as they were. Out of the pure statement and the walk of the law's own text. No condition. -/
import Derived.Test.YtaebboanblfmjaaRows
import Derived.Test.YtaebboanblfmjaaPFnExactSignByx5
import Derived.Test.YtaebboanblfmjaaPureFnExactSignBy
import Derived.Test.YtaebboanblfmjaaOpen
import Derived.WalkKit
import Derived.ProofKit
import Derived.OpenShut
import Derived.ShutString
import Derived.ChangeOld
import Derived.Below
import Derived.SizedLaws
namespace Go.Proofs.Ytaebboanblfmjaa.fnExactSignBy
open Go.ChangeShapes Go.WideShapes Go.ChangeAt Go.RowKit Go.Proofs.YtaebboanblfmjaaW.PrintWords
open Go.ChangeMaps (open_string shut_string)
set_option linter.unusedVariables false
theorem own : ownKnob Try.prog.godebug = none := by kernel_rfl
theorem laidOut : laidOutB Try.prog = true := by kernel_rfl
set_option maxRecDepth 100000 in
theorem lifted (os : Os) (started : os.Started) (H : Type) (enc : TypeId × Value → H) :
    ReturnsInHanded {} Try.checked os 13 .any (Rows.fnExactSignBySpec.pre6 enc Try.prog Try.f13 Rows.fnExactSignByRow.domain false) (Rows.fnExactSignBySpec.post enc Try.prog Try.f13 false true false false) := by
  refine returnsInHanded_of_change_sized (C := Try.checked) own started (by kernel_rfl) Try.func13
    (ChangeSpec.witness6 (enc := enc) (C := Try.checked) false ⟨#[], #[.slice none 0 0, .agg #[.slice none 0 0, .int .i64 0], .slice none 0 0], []⟩ 8 (by kernel_rfl) (by kernel_rfl) (by kernel_rfl) (by kernel_rfl)) ?_
  intro W base args ds gs before hval0 hW hcnd hsz0 _
  have hval : ∀ (j : Nat) t v, Try.f13.params[j]? = some t → args[j]? = some v → Value.okWide Try.prog W .any base t v := hval0
  have hW' := hW
  obtain ⟨p, q, hA0, hV, rfl, hfz, hnd⟩ := hW
  have hA : DataW.TrodAll enc Try.prog W 0 (fun _ => true) true Try.f13.params.toList args.toList ds p := hA0
  rw [Try.params13] at hA hval
  obtain ⟨v0, vs0, d0, ds0, p0, q0, hargs, rfl, rfl, h0, r0⟩ := trodAll_cons hA
  obtain ⟨v1, vs1, d1, ds1, p1, q1, rfl, rfl, rfl, h1, r1⟩ := trodAll_cons r0
  obtain ⟨v2, vs2, d2, ds2, p2, q2, rfl, rfl, rfl, h2, r2⟩ := trodAll_cons r1
  obtain ⟨rfl, rfl, rfl⟩ := trodAll_nil r2
  obtain rfl : args = #[v0, v1, v2] := by cases args; simp_all
  obtain ⟨rfl, rfl⟩ := trodVars_none hV
  have k0 := h0
  have lt0 : ∀ x ∈ p0, x.block < W.heap.size := by obtain ⟨m, hm⟩ := k0; exact DataW.trod_lt m _ _ _ hm
  obtain ⟨aa0, ll0, cc0, rfl⟩ := okWide_slice Try.underlying22 (hval 0 22 v0 rfl rfl)
  obtain ⟨fu0, hf0⟩ := Open.of_trod h0
  obtain ⟨A0, c0, l0, ev0, hr0, hm0, hw0, hc0⟩ := Open.ints_at Try.underlying22 Try.underlying3 (by kernel_rfl) hf0
  injection ev0.symm with e1_ e2_ e3_
  subst e1_ e2_ e3_
  have k1 := h1
  have lt1 : ∀ x ∈ p1, x.block < W.heap.size := by obtain ⟨m, hm⟩ := k1; exact DataW.trod_lt m _ _ _ hm
  obtain ⟨u1_0, u1_1, y1_0, y1_1, nn1, rfl, _, _, g1_0, g1_1⟩ := Joins.open_agg2 Try.underlying29 (by kernel_rfl) (by kernel_rfl) (hval 1 29 v1 rfl rfl) h1
  obtain ⟨A1_0, c1_0, l1_0, ev1_0, hr1_0, hm1_0, hw1_0, hc1_0⟩ := Open.ints_at Try.underlying22 Try.underlying3 (by kernel_rfl) g1_0
  subst ev1_0
  obtain ⟨a1_1, ev1_1, _, w1_1⟩ := DataW.trod_int Try.underlying3 g1_1
  obtain rfl : u1_1 = .int .i64 a1_1 := by simpa using ev1_1
  have k2 := h2
  have lt2 : ∀ x ∈ p2, x.block < W.heap.size := by obtain ⟨m, hm⟩ := k2; exact DataW.trod_lt m _ _ _ hm
  obtain ⟨aa2, ll2, cc2, rfl⟩ := okWide_slice Try.underlying22 (hval 2 22 v2 rfl rfl)
  obtain ⟨fu2, hf2⟩ := Open.of_trod h2
  obtain ⟨A2, c2, l2, ev2, hr2, hm2, hw2, hc2⟩ := Open.ints_at Try.underlying22 Try.underlying3 (by kernel_rfl) hf2
  injection ev2.symm with e1_ e2_ e3_
  subst e1_ e2_ e3_
  clear hA0 hval0 hsz0
  obtain ⟨k, hk⟩ := Pure.FnExactSignBy l0 l1_0 a1_1 l2 hm0 hw0 hm1_0 hw1_0 w1_1 hm2 hw2
  refine (PFnExactSignBy.laws_FnExactSignBy.calls k A0 c0 l0 A1_0 c1_0 l1_0 a1_1 A2 c2 l2 true W hr0 hc0 hr1_0 hc1_0 hr2 hc2 rfl hk).mono ?_
  rintro e W' ⟨he, bel⟩
  subst he
  exact ⟨_, rfl, _, _, _, [], _, [], hW', trodAll_mk1 (shut_bool Try.underlying4 _), (trodAll_cons_mk (Below.trod laidOut (by kernel_rfl) (of_decide_eq_true (by kernel_rfl)) k0 bel lt0) (trodAll_cons_mk (Below.trod laidOut (by kernel_rfl) (of_decide_eq_true (by kernel_rfl)) k1 bel lt1) (trodAll_cons_mk (Below.trod laidOut (by kernel_rfl) (of_decide_eq_true (by kernel_rfl)) k2 bel lt2) trodAll_mk0))), rfl, bel.frame _, fun h => by cases h⟩
theorem over : Rows.fnExactSignByRow.holds Try.pinned (OpenSpec.ofChange Rows.fnExactSignBySpec) :=
  OpenClaim.holds_of_wide 13 Try.f13 rfl rfl rfl rfl rfl rfl rfl ⟨rfl, rfl, rfl, rfl, rfl⟩ rfl rfl rfl rfl rfl (by kernel_rfl) Try.func13 (by kernel_rfl)
    (of_decide_eq_true (by kernel_rfl)) (by unfold Func.isWrapper; first | (rw [if_pos (by decide +kernel)]; kernel_rfl) | (rw [if_neg (by decide +kernel)]; exact ⟨rfl, rfl⟩))
    (fun os started H enc _ => lifted os started H enc)
theorem proved : Rows.FnExactSignBySaid := over
end Go.Proofs.Ytaebboanblfmjaa.fnExactSignBy
namespace Go.Proofs.Ytaebboanblfmjaa
/-- The row, under a short name, for the claim. -/
theorem fnExactSignBy_holds : Rows.FnExactSignBySaid := fnExactSignBy.proved
end Go.Proofs.Ytaebboanblfmjaa
