/- The row of the law FnExactIsSigned: for every input the call answers true and leaves its arguments as they were. Out of the pure statement and the walk of the law's own text. No condition. -/
import Derived.Test.YtaebboanblfmjaaRows
import Derived.Test.YtaebboanblfmjaaPFnExactIsSignedx8
import Derived.Test.YtaebboanblfmjaaPureFnExactIsSigned
import Derived.Test.YtaebboanblfmjaaOpen
import Derived.WalkKit
import Derived.ProofKit
import Derived.OpenShut
import Derived.ShutString
import Derived.ChangeOld
import Derived.Below
import Derived.SizedLaws
namespace Go.Proofs.Ytaebboanblfmjaa.fnExactIsSigned
open Go.ChangeShapes Go.WideShapes Go.ChangeAt Go.RowKit Go.Proofs.YtaebboanblfmjaaW.PrintWords
open Go.ChangeMaps (open_string shut_string)
set_option linter.unusedVariables false
theorem own : ownKnob Try.prog.godebug = none := by kernel_rfl
theorem laidOut : laidOutB Try.prog = true := by kernel_rfl
set_option maxRecDepth 100000 in
theorem lifted (os : Os) (started : os.Started) (H : Type) (enc : TypeId × Value → H) :
    ReturnsInHanded {} Try.checked os 14 .any (Rows.fnExactIsSignedSpec.pre6 enc Try.prog Try.f14 Rows.fnExactIsSignedRow.domain false) (Rows.fnExactIsSignedSpec.post enc Try.prog Try.f14 false true false false) := by
  refine returnsInHanded_of_change_sized (C := Try.checked) own started (by kernel_rfl) Try.func14
    (ChangeSpec.witness6 (enc := enc) (C := Try.checked) false ⟨#[], #[.agg #[.slice none 0 0, .int .i64 0], .slice none 0 0, .slice none 0 0], []⟩ 8 (by kernel_rfl) (by kernel_rfl) (by kernel_rfl) (by kernel_rfl)) ?_
  intro W base args ds gs before hval0 hW hcnd hsz0 _
  have hval : ∀ (j : Nat) t v, Try.f14.params[j]? = some t → args[j]? = some v → Value.okWide Try.prog W .any base t v := hval0
  have hW' := hW
  obtain ⟨p, q, hA0, hV, rfl, hfz, hnd⟩ := hW
  have hA : DataW.TrodAll enc Try.prog W 0 (fun _ => true) true Try.f14.params.toList args.toList ds p := hA0
  rw [Try.params14] at hA hval
  obtain ⟨v0, vs0, d0, ds0, p0, q0, hargs, rfl, rfl, h0, r0⟩ := trodAll_cons hA
  obtain ⟨v1, vs1, d1, ds1, p1, q1, rfl, rfl, rfl, h1, r1⟩ := trodAll_cons r0
  obtain ⟨v2, vs2, d2, ds2, p2, q2, rfl, rfl, rfl, h2, r2⟩ := trodAll_cons r1
  obtain ⟨rfl, rfl, rfl⟩ := trodAll_nil r2
  obtain rfl : args = #[v0, v1, v2] := by cases args; simp_all
  obtain ⟨rfl, rfl⟩ := trodVars_none hV
  have k0 := h0
  have lt0 : ∀ x ∈ p0, x.block < W.heap.size := by obtain ⟨m, hm⟩ := k0; exact DataW.trod_lt m _ _ _ hm
  obtain ⟨u0_0, u0_1, y0_0, y0_1, nn0, rfl, _, _, g0_0, g0_1⟩ := Joins.open_agg2 Try.underlying29 (by kernel_rfl) (by kernel_rfl) (hval 0 29 v0 rfl rfl) h0
  obtain ⟨A0_0, c0_0, l0_0, ev0_0, hr0_0, hm0_0, hw0_0, hc0_0⟩ := Open.ints_at Try.underlying22 Try.underlying3 (by kernel_rfl) g0_0
  subst ev0_0
  obtain ⟨a0_1, ev0_1, _, w0_1⟩ := DataW.trod_int Try.underlying3 g0_1
  obtain rfl : u0_1 = .int .i64 a0_1 := by simpa using ev0_1
  have k1 := h1
  have lt1 : ∀ x ∈ p1, x.block < W.heap.size := by obtain ⟨m, hm⟩ := k1; exact DataW.trod_lt m _ _ _ hm
  obtain ⟨aa1, ll1, cc1, rfl⟩ := okWide_slice Try.underlying22 (hval 1 22 v1 rfl rfl)
  obtain ⟨fu1, hf1⟩ := Open.of_trod h1
  obtain ⟨A1, c1, l1, ev1, hr1, hm1, hw1, hc1⟩ := Open.ints_at Try.underlying22 Try.underlying3 (by kernel_rfl) hf1
  injection ev1.symm with e1_ e2_ e3_
  subst e1_ e2_ e3_
  have k2 := h2
  have lt2 : ∀ x ∈ p2, x.block < W.heap.size := by obtain ⟨m, hm⟩ := k2; exact DataW.trod_lt m _ _ _ hm
  obtain ⟨aa2, ll2, cc2, rfl⟩ := okWide_slice Try.underlying52 (hval 2 52 v2 rfl rfl)
  obtain ⟨fu2, hf2⟩ := Open.of_trod h2
  obtain ⟨A2, c2, m2, ev2, hp2, hmm2, hww2, hcc2⟩ := Open.pairs_at Try.underlying52 Try.underlying47 (by kernel_rfl) (by kernel_rfl) Try.underlying3 Try.underlying3 hf2
  obtain ⟨l2, el2⟩ : ∃ l : List PFnExactIsSigned.S47, l = m2.map (fun z => (⟨z.1, z.2⟩ : PFnExactIsSigned.S47)) := ⟨_, rfl⟩
  have hr2 : Kd.C PFnExactIsSigned.k47 W A2 l2.length l2 := by rw [el2]; exact hp2 (fun z : PFnExactIsSigned.S47 => (z.f0, z.f1)) (fun z => ⟨z.1, z.2⟩) (fun _ => rfl)
  have ll2 : m2.length = l2.length := by rw [el2, List.length_map]
  rw [ll2] at ev2 hmm2 hcc2
  have hm2 := hmm2
  have hc2 := hcc2
  have hw2 : ∀ x ∈ l2, (Lit.int .i64 x.f0).wf = true ∧ (Lit.int .i64 x.f1).wf = true := by
    intro z hz
    rw [el2] at hz
    obtain ⟨y, hy, rfl⟩ := List.mem_map.1 hz
    exact hww2 y hy
  injection ev2.symm with e1_ e2_ e3_
  subst e1_ e2_ e3_
  clear hA0 hval0 hsz0
  obtain ⟨k, hk⟩ := Pure.FnExactIsSigned l0_0 a0_1 l1 l2 hm0_0 hw0_0 w0_1 hm1 hw1 hm2 hw2
  refine (PFnExactIsSigned.laws_FnExactIsSigned.calls k A0_0 c0_0 l0_0 a0_1 A1 c1 l1 A2 c2 l2 true W hr0_0 hc0_0 hr1 hc1 hr2 hc2 hk).mono ?_
  rintro e W' ⟨he, bel⟩
  subst he
  exact ⟨_, rfl, _, _, _, [], _, [], hW', trodAll_mk1 (shut_bool Try.underlying4 _), (trodAll_cons_mk (Below.trod laidOut (by kernel_rfl) (of_decide_eq_true (by kernel_rfl)) k0 bel lt0) (trodAll_cons_mk (Below.trod laidOut (by kernel_rfl) (of_decide_eq_true (by kernel_rfl)) k1 bel lt1) (trodAll_cons_mk (Below.trod laidOut (by kernel_rfl) (of_decide_eq_true (by kernel_rfl)) k2 bel lt2) trodAll_mk0))), rfl, bel.frame _, fun h => by cases h⟩
theorem over : Rows.fnExactIsSignedRow.holds Try.pinned (OpenSpec.ofChange Rows.fnExactIsSignedSpec) :=
  OpenClaim.holds_of_wide 14 Try.f14 rfl rfl rfl rfl rfl rfl rfl ⟨rfl, rfl, rfl, rfl, rfl⟩ rfl rfl rfl rfl rfl (by kernel_rfl) Try.func14 (by kernel_rfl)
    (of_decide_eq_true (by kernel_rfl)) (by unfold Func.isWrapper; first | (rw [if_pos (by decide +kernel)]; kernel_rfl) | (rw [if_neg (by decide +kernel)]; exact ⟨rfl, rfl⟩))
    (fun os started H enc _ => lifted os started H enc)
theorem proved : Rows.FnExactIsSignedSaid := over
end Go.Proofs.Ytaebboanblfmjaa.fnExactIsSigned
namespace Go.Proofs.Ytaebboanblfmjaa
/-- The row, under a short name, for the claim. -/
theorem fnExactIsSigned_holds : Rows.FnExactIsSignedSaid := fnExactIsSigned.proved
end Go.Proofs.Ytaebboanblfmjaa
