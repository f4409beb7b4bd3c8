/- The row of the law FnExactSignersOf: for every input the call answers true and leaves its arguments as they were. Out of the pure statement and the walk of the law's own text. No condition. -/
import Derived.Test.YtanogkaledgecaaRows
import Derived.Test.YtanogkaledgecaaPFnExactSignersOfx5
import Derived.Test.YtanogkaledgecaaPureFnExactSignersOf
import Derived.Test.YtanogkaledgecaaOpen
import Derived.WalkKit
import Derived.ProofKit
import Derived.OpenShut
import Derived.ShutString
import Derived.ChangeOld
import Derived.Below
import Derived.SizedLaws
namespace Go.Proofs.Ytanogkaledgecaa.fnExactSignersOf
open Go.ChangeShapes Go.WideShapes Go.ChangeAt Go.RowKit Go.Proofs.YtanogkaledgecaaW.PrintWords
open Go.ChangeMaps (open_string shut_string)
set_option linter.unusedVariables false
theorem own : ownKnob Try.prog.godebug = none := by kernel_rfl
theorem laidOut : laidOutB Try.prog = true := by kernel_rfl
set_option maxRecDepth 100000 in
theorem lifted (os : Os) (started : os.Started) (H : Type) (enc : TypeId × Value → H) :
    ReturnsInHanded {} Try.checked os 3 .any (Rows.fnExactSignersOfSpec.pre6 enc Try.prog Try.f3 Rows.fnExactSignersOfRow.domain false) (Rows.fnExactSignersOfSpec.post enc Try.prog Try.f3 false true false false) := by
  refine returnsInHanded_of_change_sized (C := Try.checked) own started (by kernel_rfl) Try.func3
    (ChangeSpec.witness6 (enc := enc) (C := Try.checked) false ⟨#[], #[.slice none 0 0, .slice none 0 0], []⟩ 8 (by kernel_rfl) (by kernel_rfl) (by kernel_rfl) (by kernel_rfl)) ?_
  intro W base args ds gs before hval0 hW hcnd hsz0 _
  have hval : ∀ (j : Nat) t v, Try.f3.params[j]? = some t → args[j]? = some v → Value.okWide Try.prog W .any base t v := hval0
  have hW' := hW
  obtain ⟨p, q, hA0, hV, rfl, hfz, hnd⟩ := hW
  have hA : DataW.TrodAll enc Try.prog W 0 (fun _ => true) true Try.f3.params.toList args.toList ds p := hA0
  rw [Try.params3] at hA hval
  obtain ⟨v0, vs0, d0, ds0, p0, q0, hargs, rfl, rfl, h0, r0⟩ := trodAll_cons hA
  obtain ⟨v1, vs1, d1, ds1, p1, q1, rfl, rfl, rfl, h1, r1⟩ := trodAll_cons r0
  obtain ⟨rfl, rfl, rfl⟩ := trodAll_nil r1
  obtain rfl : args = #[v0, v1] := by cases args; simp_all
  obtain ⟨rfl, rfl⟩ := trodVars_none hV
  have k0 := h0
  have lt0 : ∀ x ∈ p0, x.block < W.heap.size := by obtain ⟨m, hm⟩ := k0; exact DataW.trod_lt m _ _ _ hm
  obtain ⟨aa0, ll0, cc0, rfl⟩ := okWide_slice Try.underlying22 (hval 0 22 v0 rfl rfl)
  obtain ⟨fu0, hf0⟩ := Open.of_trod h0
  obtain ⟨A0, c0, l0, ev0, hr0, hm0, hw0, hc0⟩ := Open.ints_at Try.underlying22 Try.underlying3 (by kernel_rfl) hf0
  injection ev0.symm with e1_ e2_ e3_
  subst e1_ e2_ e3_
  have k1 := h1
  have lt1 : ∀ x ∈ p1, x.block < W.heap.size := by obtain ⟨m, hm⟩ := k1; exact DataW.trod_lt m _ _ _ hm
  obtain ⟨aa1, ll1, cc1, rfl⟩ := okWide_slice Try.underlying23 (hval 1 23 v1 rfl rfl)
  obtain ⟨fu1, hf1⟩ := Open.of_trod h1
  obtain ⟨A1, c1, m1, ev1, hp1, hmm1, hww1, hcc1⟩ := Open.pairs_at Try.underlying23 Try.underlying67 (by kernel_rfl) (by kernel_rfl) Try.underlying3 Try.underlying3 hf1
  obtain ⟨l1, el1⟩ : ∃ l : List PFnExactSignersOf.S67, l = m1.map (fun z => (⟨z.1, z.2⟩ : PFnExactSignersOf.S67)) := ⟨_, rfl⟩
  have hr1 : Kd.C PFnExactSignersOf.k67 W A1 l1.length l1 := by rw [el1]; exact hp1 (fun z : PFnExactSignersOf.S67 => (z.f0, z.f1)) (fun z => ⟨z.1, z.2⟩) (fun _ => rfl)
  have ll1 : m1.length = l1.length := by rw [el1, List.length_map]
  rw [ll1] at ev1 hmm1 hcc1
  have hm1 := hmm1
  have hc1 := hcc1
  have hw1 : ∀ x ∈ l1, (Lit.int .i64 x.f0).wf = true ∧ (Lit.int .i64 x.f1).wf = true := by
    intro z hz
    rw [el1] at hz
    obtain ⟨y, hy, rfl⟩ := List.mem_map.1 hz
    exact hww1 y hy
  injection ev1.symm with e1_ e2_ e3_
  subst e1_ e2_ e3_
  clear hA0 hval0 hsz0
  obtain ⟨k, hk⟩ := Pure.FnExactSignersOf l0 l1 hm0 hw0 hm1 hw1
  refine (PFnExactSignersOf.laws_FnExactSignersOf.calls k A0 c0 l0 A1 c1 l1 true W hr0 hc0 hr1 hc1 hk).mono ?_
  rintro e W' ⟨he, bel⟩
  subst he
  exact ⟨_, rfl, _, _, _, [], _, [], hW', trodAll_mk1 (shut_bool Try.underlying4 _), (trodAll_cons_mk (Below.trod laidOut (by kernel_rfl) (of_decide_eq_true (by kernel_rfl)) k0 bel lt0) (trodAll_cons_mk (Below.trod laidOut (by kernel_rfl) (of_decide_eq_true (by kernel_rfl)) k1 bel lt1) trodAll_mk0)), rfl, bel.frame _, fun h => by cases h⟩
theorem over : Rows.fnExactSignersOfRow.holds Try.pinned (OpenSpec.ofChange Rows.fnExactSignersOfSpec) :=
  OpenClaim.holds_of_wide 3 Try.f3 rfl rfl rfl rfl rfl rfl rfl ⟨rfl, rfl, rfl, rfl, rfl⟩ rfl rfl rfl rfl rfl (by kernel_rfl) Try.func3 (by kernel_rfl)
    (of_decide_eq_true (by kernel_rfl)) (by unfold Func.isWrapper; first | (rw [if_pos (by decide +kernel)]; kernel_rfl) | (rw [if_neg (by decide +kernel)]; exact ⟨rfl, rfl⟩))
    (fun os started H enc _ => lifted os started H enc)
theorem proved : Rows.FnExactSignersOfSaid := over
end Go.Proofs.Ytanogkaledgecaa.fnExactSignersOf
namespace Go.Proofs.Ytanogkaledgecaa
/-- The row, under a short name, for the claim. -/
theorem fnExactSignersOf_holds : Rows.FnExactSignersOfSaid := fnExactSignersOf.proved
end Go.Proofs.Ytanogkaledgecaa
