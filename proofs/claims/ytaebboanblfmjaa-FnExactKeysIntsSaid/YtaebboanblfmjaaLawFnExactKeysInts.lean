/- The row of the law FnExactKeysInts: for every input the call answers true and leaves its arguments as they were. Out of the pure statement and the walk of the law's own text. No condition. -/
import Derived.Test.YtaebboanblfmjaaRows
import Derived.Test.YtaebboanblfmjaaPFnExactKeysIntsx2
import Derived.Test.YtaebboanblfmjaaPureFnExactKeysInts
import Derived.Test.YtaebboanblfmjaaOpen
import Derived.WalkKit
import Derived.ProofKit
import Derived.OpenShut
import Derived.ShutString
import Derived.ChangeOld
import Derived.Below
import Derived.SizedLaws
namespace Go.Proofs.Ytaebboanblfmjaa.fnExactKeysInts
open Go.ChangeShapes Go.WideShapes Go.ChangeAt Go.RowKit Go.Proofs.YtaebboanblfmjaaW.PrintWords
open Go.ChangeMaps (open_string shut_string)
set_option linter.unusedVariables false
theorem own : ownKnob Try.prog.godebug = none := by kernel_rfl
theorem laidOut : laidOutB Try.prog = true := by kernel_rfl
set_option maxRecDepth 100000 in
theorem lifted (os : Os) (started : os.Started) (H : Type) (enc : TypeId × Value → H) :
    ReturnsInHanded {} Try.checked os 5 .any (Rows.fnExactKeysIntsSpec.pre6 enc Try.prog Try.f5 Rows.fnExactKeysIntsRow.domain false) (Rows.fnExactKeysIntsSpec.post enc Try.prog Try.f5 false true false false) := by
  refine returnsInHanded_of_change_sized (C := Try.checked) own started (by kernel_rfl) Try.func5
    (ChangeSpec.witness6 (enc := enc) (C := Try.checked) false ⟨#[], #[.agg #[.slice none 0 0, .int .i64 0]], []⟩ 8 (by kernel_rfl) (by kernel_rfl) (by kernel_rfl) (by kernel_rfl)) ?_
  intro W base args ds gs before hval0 hW hcnd hsz0 _
  have hval : ∀ (j : Nat) t v, Try.f5.params[j]? = some t → args[j]? = some v → Value.okWide Try.prog W .any base t v := hval0
  have hW' := hW
  obtain ⟨p, q, hA0, hV, rfl, hfz, hnd⟩ := hW
  have hA : DataW.TrodAll enc Try.prog W 0 (fun _ => true) true Try.f5.params.toList args.toList ds p := hA0
  rw [Try.params5] at hA hval
  obtain ⟨v0, vs0, d0, ds0, p0, q0, hargs, rfl, rfl, h0, r0⟩ := trodAll_cons hA
  obtain ⟨rfl, rfl, rfl⟩ := trodAll_nil r0
  obtain rfl : args = #[v0] := by cases args; simp_all
  obtain ⟨rfl, rfl⟩ := trodVars_none hV
  have k0 := h0
  have lt0 : ∀ x ∈ p0, x.block < W.heap.size := by obtain ⟨m, hm⟩ := k0; exact DataW.trod_lt m _ _ _ hm
  obtain ⟨u0_0, u0_1, y0_0, y0_1, nn0, rfl, _, _, g0_0, g0_1⟩ := Joins.open_agg2 Try.underlying29 (by kernel_rfl) (by kernel_rfl) (hval 0 29 v0 rfl rfl) h0
  obtain ⟨A0_0, c0_0, l0_0, ev0_0, hr0_0, hm0_0, hw0_0, hc0_0⟩ := Open.ints_at Try.underlying22 Try.underlying3 (by kernel_rfl) g0_0
  subst ev0_0
  obtain ⟨a0_1, ev0_1, _, w0_1⟩ := DataW.trod_int Try.underlying3 g0_1
  obtain rfl : u0_1 = .int .i64 a0_1 := by simpa using ev0_1
  clear hA0 hval0 hsz0
  obtain ⟨k, hk⟩ := Pure.FnExactKeysInts l0_0 a0_1 hm0_0 hw0_0 w0_1
  refine (PFnExactKeysInts.laws_FnExactKeysInts.calls k A0_0 c0_0 l0_0 a0_1 true W hr0_0 hc0_0 hk).mono ?_
  rintro e W' ⟨he, bel⟩
  subst he
  exact ⟨_, rfl, _, _, _, [], _, [], hW', trodAll_mk1 (shut_bool Try.underlying4 _), (trodAll_cons_mk (Below.trod laidOut (by kernel_rfl) (of_decide_eq_true (by kernel_rfl)) k0 bel lt0) trodAll_mk0), rfl, bel.frame _, fun h => by cases h⟩
theorem over : Rows.fnExactKeysIntsRow.holds Try.pinned (OpenSpec.ofChange Rows.fnExactKeysIntsSpec) :=
  OpenClaim.holds_of_wide 5 Try.f5 rfl rfl rfl rfl rfl rfl rfl ⟨rfl, rfl, rfl, rfl, rfl⟩ rfl rfl rfl rfl rfl (by kernel_rfl) Try.func5 (by kernel_rfl)
    (of_decide_eq_true (by kernel_rfl)) (by unfold Func.isWrapper; first | (rw [if_pos (by decide +kernel)]; kernel_rfl) | (rw [if_neg (by decide +kernel)]; exact ⟨rfl, rfl⟩))
    (fun os started H enc _ => lifted os started H enc)
theorem proved : Rows.FnExactKeysIntsSaid := over
end Go.Proofs.Ytaebboanblfmjaa.fnExactKeysInts
namespace Go.Proofs.Ytaebboanblfmjaa
/-- The row, under a short name, for the claim. -/
theorem fnExactKeysInts_holds : Rows.FnExactKeysIntsSaid := fnExactKeysInts.proved
end Go.Proofs.Ytaebboanblfmjaa
