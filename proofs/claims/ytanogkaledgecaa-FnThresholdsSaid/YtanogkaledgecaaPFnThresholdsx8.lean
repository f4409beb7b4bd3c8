/- The machine's side of a law: what its Go functions compute, as Lean functions, and the walks that show it; laid by this session's program (wip/tools) out of the translation. Conditions: those of each theorem. -/
import Derived.Test.YtanogkaledgecaaPFnThresholdsx0
import Derived.Test.YtanogkaledgecaaPFnThresholdsx1
import Derived.Test.YtanogkaledgecaaPFnThresholdsx2
import Derived.Test.YtanogkaledgecaaPFnThresholdsx5
import Derived.Test.YtanogkaledgecaaPFnThresholdsx7
namespace Go.Proofs.Ytanogkaledgecaa.PFnThresholds
open Go.RowKit Go.Proofs.YtanogkaledgecaaW.PrintWords Go.Proofs.YtanogkaledgecaaW.PrintLast Go.Proofs.YtanogkaledgecaaW.PrintMore
attribute [local go_sem] max2_int min2_int max_two min_two max_three min_three max_four min_four   -- for this text's walks alone
set_option linter.unusedVariables false
set_option linter.unusedSimpArgs false

/-! ### spec_DrawCountSigs: function 23 -/
def spec_DrawCountSigs.f (k : Nat) (l0 : List Int) : Option (List Int × Int × List Int × (List (S46))) := (spec_l1New.f k l0).bind fun bt321 => ((spec_l6Any.f k bt321.1 bt321.2.1 bt321.2.2).bind fun bt325 => ((spec_l7Message.f k bt321.1 bt325.2.2.1 bt325.2.2.2).bind fun bt332 => ((spec_l7Sigs.f k bt321.1 bt332.2.1 bt332.2.2 bt325.1 bt325.2.1 bt332.1).bind fun bt337 => (some (bt325.1, bt325.2.1, bt332.1, bt337.1)))))
theorem spec_DrawCountSigs.mono : ∀ a0 k, LeO (spec_DrawCountSigs.f k a0) (spec_DrawCountSigs.f (k + 1) a0) := by
  intro a0 k
  unfold spec_DrawCountSigs.f
  repeat' first
      | (with_reducible exact spec_l1New.mono _ _)
      | (with_reducible exact spec_l6Any.mono _ _ _ _)
      | (with_reducible exact spec_l7Message.mono _ _ _ _)
      | (with_reducible exact spec_l7Sigs.mono _ _ _ _ _ _ _)
      | (with_reducible exact LeO.refl _)
      | (with_reducible exact za34 _)
      | (with_reducible refine za33 ?_ ?_)
      | (with_reducible refine za32 ?_ (fun _ => ?_))
      | exact spec_l1New.mono _ _
      | exact spec_l6Any.mono _ _ _ _
      | exact spec_l7Message.mono _ _ _ _
      | exact spec_l7Sigs.mono _ _ _ _ _ _ _
      | exact za34 _
      | refine za33 ?_ ?_
      | refine za32 ?_ (fun _ => ?_)
def spec_DrawCountSigs.T4 : Bool × List (List Nat × List Nat) := (true, [([], []), ([], []), ([], []), ([], []), ([], []), ([2, 3, 4], [2, 3, 4]), ([0, 5, 0], [0]), ([1, 6, 0, 1, 6], [1]), ([5, 7, 0, 1, 2, 3, 4, 5, 6, 7], [5])])
def spec_DrawCountSigs.B4 : List Nat := [0, 0, 0, 0, 0, 28, 61, 127, 255]
theorem spec_DrawCountSigs.tab4 : rtab .any (opsOf Try.f23 4) = spec_DrawCountSigs.T4 := by kernel_rfl
theorem spec_DrawCountSigs.bits4 : waitsOk spec_DrawCountSigs.T4.2 spec_DrawCountSigs.B4 = true := by kernel_rfl
set_option maxHeartbeats 8000000 in
set_option maxRecDepth 100000 in
theorem spec_DrawCountSigs.calls (k : Nat) (A0 : Option Addr) (c0 : Nat) (l0 : List Int) (r1 : List Int) (r2 : Int) (r3 : List Int) (r4 : List (S46)) (w : World) (hr0 : Kd.C (Kd.int .u8) w A0 l0.length l0) (hc0 : l0.length ≤ c0) (h : spec_DrawCountSigs.f k l0 = some (r1, r2, r3, r4)) :
  Calls Try.prog 23 #[.slice A0 l0.length c0] w fun e w' => ∃ v0_ v2_ v3_ : Value, e = .returned (.tuple #[.agg #[v0_, .int .i64 r2], v2_, v3_]) ∧ Kd.R (Kd.int .i64) 3 w' w.heap.size (fun k_ => some k_ ≠ (v2_ : Value).ownBlock) v0_ r1 ∧ Kd.R (Kd.int .i64) 3 w' w.heap.size (fun k_ => some k_ ≠ (v0_ : Value).ownBlock) v2_ r3 ∧ Kd.R k46 46 w' w.heap.size (fun _ => True) v3_ r4 ∧ Below w.heap.size w w' := by
 have hu37 := Try.underlying37
 have HR0 := za1 hr0
 have HC0 := za1 hc0
 clear hr0 hc0
 have HB := za1 (Below.refl w.heap.size w)
 have H : ((spec_l1New.f k l0).bind fun bt321 => ((spec_l6Any.f k bt321.1 bt321.2.1 bt321.2.2).bind fun bt325 => ((spec_l7Message.f k bt321.1 bt325.2.2.1 bt325.2.2.2).bind fun bt332 => ((spec_l7Sigs.f k bt321.1 bt332.2.1 bt332.2.2 bt325.1 bt325.2.1 bt332.1).bind fun bt337 => (some (bt325.1, bt325.2.1, bt332.1, bt337.1)))))) = some (r1, r2, r3, r4) := h
 clear h
 replace H := za16.mp H
 obtain ⟨⟨t321, t322, t323⟩, A20, H⟩ := H
 replace H : ((spec_l6Any.f k t321 t322 t323).bind fun bt325 => ((spec_l7Message.f k t321 bt325.2.2.1 bt325.2.2.2).bind fun bt332 => ((spec_l7Sigs.f k t321 bt332.2.1 bt332.2.2 bt325.1 bt325.2.1 bt332.1).bind fun bt337 => (some (bt325.1, bt325.2.1, bt332.1, bt337.1))))) = some (r1, r2, r3, r4) := H
 have A2 := za1 A20
 clear A20
 replace H := za16.mp H
 obtain ⟨⟨t325, t328, t329, t330⟩, A30, H⟩ := H
 replace H : ((spec_l7Message.f k t321 t329 t330).bind fun bt332 => ((spec_l7Sigs.f k t321 bt332.2.1 bt332.2.2 t325 t328 bt332.1).bind fun bt337 => (some (t325, t328, bt332.1, bt337.1)))) = some (r1, r2, r3, r4) := H
 have A3 := za1 A30
 clear A30
 replace H := za16.mp H
 obtain ⟨⟨t332, t335, t336⟩, A40, H⟩ := H
 replace H : ((spec_l7Sigs.f k t321 t335 t336 t325 t328 t332).bind fun bt337 => (some (t325, t328, t332, bt337.1))) = some (r1, r2, r3, r4) := H
 have A4 := za1 A40
 clear A40
 replace H := za16.mp H
 obtain ⟨⟨t337, t340, t341⟩, A50, H⟩ := H
 replace H : (some (t325, t328, t332, t337)) = some (r1, r2, r3, r4) := H
 have A5 := za1 A50
 clear A50
 simp only [Option.some.injEq, Prod.mk.injEq] at H
 obtain ⟨rfl, rfl, rfl, rfl⟩ := H
 go_enter Try.func23, Try.ntmps23
 try go_wp2_with (first | ((with_reducible refine gate_dst (N := 2) rfl ?_); refine box_event ?hg (N := 2) ?hd (cs := #[.slice none 0 0, .int .i64 0]) (t := 37) ?hr ?_; (case hd => rfl); (case hg => rfl); (case hr => first | (go_simp; done) | (go_simp; rfl)); intro gb320 hg w6 hbox hb; have n0_ := za1 (za28 (by repeat (first | (with_reducible first | exact HB.out | apply za14 | apply za7 | apply za9) | exact HB.out)) hb); have n1_ := za1 (hbox); have n2_ := za1 ((by rw [hg]; exact (za29 (by repeat (first | (with_reducible first | exact HB.out | apply za14 | apply za7 | apply za9) | exact HB.out))) : w.heap.size ≤ gb320)); have n3_ := za1 ((by rw [hg]; exact (za29 (by repeat (first | (with_reducible first | exact HB.out | apply za14 | apply za7 | apply za9) | exact HB.out))) : w.heap.size ≤ gb320)); clear HB; have HB := n0_; have BK320 := n1_; have GW320 := n2_; have GE320 := n3_; clear n0_ n1_ n2_ n3_; clear hb hbox hg) | ((with_reducible refine gate_callee (f := 48) rfl ?_); refine goesL_ (some 9) rfl rfl Try.func48 (by kernel_rfl) rfl #[.slice A0 l0.length c0] rfl (by (try simp only [za18, za26, za27]); first | done | rfl | (simp only [za20, za19]; rfl)) ?_; (with_reducible refine (spec_l1New.calls k _ _ l0 t321 t322 t323 w _ ?side1 ?side2 ?side3 A2.out).mono ?_); (case side1 => repeat (first | (with_reducible first | exact HB.out | apply za14 | apply za7 | apply za9 | refine za8 ?_ GE320.out) | exact HB.out)); (case side2 => exact HR0.out); (case side3 => exact HC0.out); rintro e w7 ⟨g324, rfl, hi, hb, hb2⟩; refine ⟨_, rfl, ?_⟩; have n0_ := za1 (za17 (g := gb320) (o := .cells #[.slice none 0 0, .int .i64 0] 37 (0, 0)) (by (with_reducible repeat (first | refine za11 ?_ _ | refine za12 ?_ | refine za13 ?_ _)); exact BK320.out) hb2); have n1_ := za1 (hb); have n2_ := za1 (hi); have n3_ := za1 (IsS89.ne_blk hi (za17 (g := gb320) (o := .cells #[.slice none 0 0, .int .i64 0] 37 (0, 0)) (by (with_reducible repeat (first | refine za11 ?_ _ | refine za12 ?_ | refine za13 ?_ _)); exact BK320.out) hb2) (by decide)); have n4_ := za1 (Ne.symm (IsS89.ne_blk hi (za17 (g := gb320) (o := .cells #[.slice none 0 0, .int .i64 0] 37 (0, 0)) (by (with_reducible repeat (first | refine za11 ?_ _ | refine za12 ?_ | refine za13 ?_ _)); exact BK320.out) hb2) (by decide))); clear BK320; clear HB; have BK320 := n0_; have HB := n1_; have HI324 := n2_; have NB324_320 := n3_; have NB320_324 := n4_; clear n0_ n1_ n2_ n3_ n4_; (try clear hb); (try clear hb2); (try clear hk); (try clear hi)) | ((with_reducible refine gate_callee (f := 50) rfl ?_); refine goesL_ (some 11) rfl rfl Try.func50 (by kernel_rfl) rfl #[.pointer (some ⟨g324, 0, none⟩)] rfl (by (try simp only [za18, za26, za27]); first | done | rfl | (simp only [za20, za19]; rfl)) ?_; (with_reducible refine (spec_l6Any.calls k g324 t321 t322 t323 t325 t328 t329 t330 w _ ?side1 ?side2 A3.out).mono ?_); (case side1 => repeat (first | (with_reducible first | exact HI324.out | apply IsS89.alloc | apply IsS89.drewN | apply IsS89.drew | apply IsS89.set_1 | apply IsS89.set_2 | refine IsS89.far ?_ NB324_320.out _) | exact HI324.out)); (case side2 => repeat (first | (with_reducible first | exact HB.out | apply za14 | apply za7 | apply za9 | refine za8 ?_ (IsS89.ge HI324.out) | refine za8 ?_ GE320.out) | exact HB.out)); rintro e w8 ⟨v326, rfl, ho0, hi, hb, hk⟩; refine ⟨_, rfl, ?_⟩; have n0_ := za1 (KeepBut.blk hk (g' := gb320) (o := .cells #[.slice none 0 0, .int .i64 0] 37 (0, 0)) (by (with_reducible repeat (first | refine za11 ?_ _ | refine za12 ?_ | refine za13 ?_ _)); exact BK320.out) NB320_324.out (by simp)); have n1_ := za1 (za31 ho0 (za29 (by repeat (first | (with_reducible first | exact HB.out | apply za14 | apply za7 | apply za9 | refine za8 ?_ (IsS89.ge HI324.out) | refine za8 ?_ GE320.out) | exact HB.out)))); have n2_ := za1 (hb); have n3_ := za1 (hi); clear BK320; clear HB; clear HI324; have BK320 := n0_; have HO327 := n1_; have HB := n2_; have HI324 := n3_; clear n0_ n1_ n2_ n3_; (try clear hb); (try clear hb2); (try clear hk); (try clear hi); (try clear ho0)) | ((with_reducible refine gate_dst (N := 6) rfl ?_); refine box_event ?hg (N := 6) ?hd (cs := #[.slice none 0 0, .int .i64 0]) (t := 37) ?hr ?_; (case hd => rfl); (case hg => rfl); (case hr => first | (go_simp; done) | (go_simp; rfl)); intro gb331 hg w9 hbox hb; have n0_ := za1 (Kd.R_below (by (with_reducible repeat (first | apply za5 | apply za4 | apply za6)); exact HO327.out) hb); have n1_ := za1 (za17 (g := gb320) (o := .cells #[.slice none 0 0, .int .i64 0] 37 (0, 0)) (by (with_reducible repeat (first | refine za11 ?_ _ | refine za12 ?_ | refine za13 ?_ _)); exact BK320.out) hb); have n2_ := za1 (IsS89.below (by repeat (first | (with_reducible first | exact HI324.out | apply IsS89.alloc | apply IsS89.drewN | apply IsS89.drew | apply IsS89.set_1 | apply IsS89.set_2 | refine IsS89.far ?_ NB324_320.out _) | exact HI324.out)) hb); have n3_ := za1 (za28 (by repeat (first | (with_reducible first | exact HB.out | apply za14 | apply za7 | apply za9 | refine za8 ?_ (IsS89.ge HI324.out) | refine za8 ?_ GE320.out) | exact HB.out)) hb); have n4_ := za1 (hbox); have n5_ := za1 ((by rw [hg]; exact (za29 (by repeat (first | (with_reducible first | exact HB.out | apply za14 | apply za7 | apply za9 | refine za8 ?_ (IsS89.ge HI324.out) | refine za8 ?_ GE320.out) | exact HB.out))) : w.heap.size ≤ gb331)); have n6_ := za1 ((by rw [hg]; exact (za29 (by repeat (first | (with_reducible first | exact HB.out | apply za14 | apply za7 | apply za9 | refine za8 ?_ (IsS89.ge HI324.out) | refine za8 ?_ GE320.out) | exact HB.out))) : w.heap.size ≤ gb331)); have n7_ := za1 ((by rw [hg]; exact Nat.ne_of_lt (blk_lt (g := gb320) (o := .cells #[.slice none 0 0, .int .i64 0] 37 (0, 0)) (by (with_reducible repeat (first | refine za11 ?_ _ | refine za12 ?_ | refine za13 ?_ _)); exact BK320.out)) : gb320 ≠ gb331)); have n8_ := za1 ((by rw [hg]; exact Nat.ne_of_gt (blk_lt (g := gb320) (o := .cells #[.slice none 0 0, .int .i64 0] 37 (0, 0)) (by (with_reducible repeat (first | refine za11 ?_ _ | refine za12 ?_ | refine za13 ?_ _)); exact BK320.out)) : gb331 ≠ gb320)); have n9_ := za1 ((by rw [hg]; exact Nat.ne_of_lt (IsS89.lt (show IsS89 w _ g324 t321 t329 t330 from by repeat (first | (with_reducible first | exact HI324.out | apply IsS89.alloc | apply IsS89.drewN | apply IsS89.drew | apply IsS89.set_1 | apply IsS89.set_2 | refine IsS89.far ?_ NB324_320.out _) | exact HI324.out))) : g324 ≠ gb331)); have n10_ := za1 ((by rw [hg]; exact Nat.ne_of_gt (IsS89.lt (show IsS89 w _ g324 t321 t329 t330 from by repeat (first | (with_reducible first | exact HI324.out | apply IsS89.alloc | apply IsS89.drewN | apply IsS89.drew | apply IsS89.set_1 | apply IsS89.set_2 | refine IsS89.far ?_ NB324_320.out _) | exact HI324.out))) : gb331 ≠ g324)); clear HO327; clear BK320; clear HI324; clear HB; have HO327 := n0_; have BK320 := n1_; have HI324 := n2_; have HB := n3_; have BK331 := n4_; have GW331 := n5_; have GE331 := n6_; have NB320_331 := n7_; have NB331_320 := n8_; have NB324_331 := n9_; have NB331_324 := n10_; clear n0_ n1_ n2_ n3_ n4_ n5_ n6_ n7_ n8_ n9_ n10_; clear hb hbox hg; obtain ⟨Ao10, co10, eo10⟩ := Kd.R_slice HO327.out; subst eo10; have hnb11 := NB331_320.out; have hnc11 := NB320_331.out; have hnb12 := NB331_324.out; have hnc12 := NB324_331.out; have hcz13_0 : w9.cell? ⟨gb331, 0, none⟩ = some (.slice none 0 0) := (za15 BK331.out 0).trans rfl; have hcz13_1 : w9.cell? ⟨gb331, 1, none⟩ = some (.int .i64 0) := (za15 BK331.out 1).trans rfl; have hfz13_0 := blk_frozen BK331.out 0; have hfz13_1 := blk_frozen BK331.out 1) | ((with_reducible refine gate_callee (f := 51) rfl ?_); refine goesL_ (some 13) rfl rfl Try.func51 (by kernel_rfl) rfl #[.pointer (some ⟨g324, 0, none⟩)] rfl (by (try simp only [za18, za26, za27]); first | done | rfl | (simp only [za20, za19]; rfl)) ?_; (with_reducible refine (spec_l7Message.calls k g324 t321 t329 t330 t332 t335 t336 w _ ?side1 ?side2 A4.out).mono ?_); (case side1 => repeat (first | (with_reducible first | exact HI324.out | apply IsS89.alloc | apply IsS89.drewN | apply IsS89.drew | apply IsS89.set_1 | apply IsS89.set_2 | refine IsS89.far ?_ NB324_320.out _ | refine IsS89.far ?_ NB324_331.out _) | exact HI324.out)); (case side2 => repeat (first | (with_reducible first | exact HB.out | apply za14 | apply za7 | apply za9 | refine za8 ?_ (IsS89.ge HI324.out) | refine za8 ?_ GE320.out | refine za8 ?_ GE331.out) | exact HB.out)); rintro e w14 ⟨v333, rfl, ho0, hi, hb, hk⟩; refine ⟨_, rfl, ?_⟩; have n0_ := za1 (KeepBut.blk hk (g' := gb320) (o := .cells #[.slice none 0 0, .int .i64 0] 37 (0, 0)) (by (with_reducible repeat (first | refine za11 ?_ _ | refine za12 ?_ | refine za13 ?_ _)); refine blk_far ?_ NB320_331.out _; (with_reducible repeat (first | refine za11 ?_ _ | refine za12 ?_ | refine za13 ?_ _)); refine blk_far ?_ NB320_331.out _; (with_reducible repeat (first | refine za11 ?_ _ | refine za12 ?_ | refine za13 ?_ _)); exact BK320.out) NB320_324.out (by simp)); have n1_ := za1 (za21 (Kd.R_told (Kd.R_oldK (IsS89.apart (show IsS89 w _ g324 t321 t329 t330 from by repeat (first | (with_reducible first | exact HI324.out | apply IsS89.alloc | apply IsS89.drewN | apply IsS89.drew | apply IsS89.set_1 | apply IsS89.set_2 | refine IsS89.far ?_ NB324_320.out _ | refine IsS89.far ?_ NB324_331.out _) | exact HI324.out)) (by (with_reducible repeat (first | apply za5 | apply za4 | apply za6)); exact (za21 (Kd.R_far (p := ⟨gb331, 1, none⟩) (Kd.R_far (p := ⟨gb331, 0, none⟩) (Kd.R_types HO327.out BK331.out (by decide)) (fun _ hk => hk.2) (.slice Ao10 t325.length co10)) (fun _ hk => hk.2) (.int .i64 t328)) (fun _ h_ => h_.1))) (by decide)) hk) (Kd.R_base ho0)) (fun _ h_ => h_.1)); have n2_ := za1 (KeepBut.blk hk (g' := gb331) (o := .cells #[.slice Ao10 t325.length co10, .int .i64 t328] 37 (0, 0)) (by (with_reducible repeat (first | refine za11 ?_ _ | refine za12 ?_ | refine za13 ?_ _)); refine blk_put (cs := #[.slice Ao10 t325.length co10, .int .i64 0]) ?_ 1 _ rfl; (with_reducible repeat (first | refine za11 ?_ _ | refine za12 ?_ | refine za13 ?_ _)); refine blk_put (cs := #[.slice none 0 0, .int .i64 0]) ?_ 0 _ rfl; (with_reducible repeat (first | refine za11 ?_ _ | refine za12 ?_ | refine za13 ?_ _)); exact BK331.out) NB331_324.out (by simp)); have n3_ := za1 (za31 (Kd.R_new' ho0 (Kd.R_lt (by (with_reducible repeat (first | apply za5 | apply za4 | apply za6)); exact (za21 (Kd.R_far (p := ⟨gb331, 1, none⟩) (Kd.R_far (p := ⟨gb331, 0, none⟩) (Kd.R_types HO327.out BK331.out (by decide)) (fun _ hk => hk.2) (.slice Ao10 t325.length co10)) (fun _ hk => hk.2) (.int .i64 t328)) (fun _ h_ => h_.1))))) (za29 (by repeat (first | (with_reducible first | exact HB.out | apply za14 | apply za7 | apply za9 | refine za8 ?_ (IsS89.ge HI324.out) | refine za8 ?_ GE320.out | refine za8 ?_ GE331.out) | exact HB.out)))); have n4_ := za1 (hb); have n5_ := za1 (hi); clear BK320; clear HO327; clear BK331; clear HB; clear HI324; have BK320 := n0_; have HO327 := n1_; have BK331 := n2_; have HO334 := n3_; have HB := n4_; have HI324 := n5_; clear n0_ n1_ n2_ n3_ n4_ n5_; (try clear hb); (try clear hb2); (try clear hk); (try clear hi); (try clear ho0)))
 have n0_ := za1 (za6 HO327.out)
 have n1_ := za1 (za6 HO334.out)
 have n2_ := za1 (za12 BK320.out)
 have n3_ := za1 (za12 BK331.out)
 have n4_ := za1 (IsS89.drew HI324.out)
 have n5_ := za1 (za9 HB.out)
 clear HO327
 clear HO334
 clear BK320
 clear BK331
 clear HI324
 clear HB
 have HO327 := n0_
 have HO334 := n1_
 have BK320 := n2_
 have BK331 := n3_
 have HI324 := n4_
 have HB := n5_
 clear n0_ n1_ n2_ n3_ n4_ n5_
 obtain ⟨Ao16, co16, eo16⟩ := Kd.R_slice HO334.out
 (first | subst eo16 | (injection eo16 with f1_ f2_ f3_; have f4_ := f1_.symm; have f5_ := f3_.symm; clear f1_ f2_ f3_; subst f4_; subst f5_))
 refine start_ (n := 9) (S := fun w' => w'.cell? ⟨gb331, 0, none⟩ = some (.slice Ao10 t325.length co10) ∧ w'.cell? ⟨gb331, 1, none⟩ = some (.int .i64 t328)) (ds := []) #[false, false, false, false, false, false, false, false, false] (by kernel_rfl) rfl rfl ⟨(za15 BK331.out 0).trans rfl, (za15 BK331.out 1).trans rfl⟩ (fun hHeld => ?_); refine with_tabW spec_DrawCountSigs.tab4 spec_DrawCountSigs.bits4 (fun HT_ HW_ => ?_)
 generalize w14.drew = w15 at HO327 HO334 BK320 BK331 HI324 HB hHeld ⊢
 refine pure_ (i := 1) (N := some 15) (v := ?_) (a' := ?_) #[false, true, false, false, false, false, false, false, false] rfl rfl (za25 HT_.out (by kernel_rfl)) (fun _ _ _ h => h) (Or.inl ⟨by rfl, ?_⟩) ?_ ?_
 rotate_left
 ·intro w'
  go_simp
  with_reducible rfl
 rotate_left
 ·simp only [Act.put, za0, za2, za3, i64_w, i32_w]
  rfl
 refine pure_ (i := 2) (N := some 16) (v := ?_) (a' := ?_) #[false, true, true, false, false, false, false, false, false] rfl rfl (za25 HT_.out (by kernel_rfl)) (fun _ _ _ h => h) (Or.inl ⟨by rfl, ?_⟩) ?_ ?_
 rotate_left
 ·intro w'
  go_simp
  with_reducible rfl
 rotate_left
 ·simp only [Act.put, za0, za2, za3, i64_w, i32_w]
  rfl
 refine pure_ (i := 4) (N := some 18) (v := ?_) (a' := ?_) #[false, true, true, false, true, false, false, false, false] rfl rfl (za25 HT_.out (by kernel_rfl)) (fun _ _ _ h => h) (Or.inl ⟨by rfl, ?_⟩) ?_ ?_
 rotate_left
 ·intro w'
  go_simp
  with_reducible rfl
 rotate_left
 ·simp only [Act.put, za0, za2, za3, i64_w, i32_w]
  rfl
 refine take_ (i := 0) (N := some 14) (v := ?_) (a' := ?_) #[true, true, true, false, true, false, false, false, false] rfl rfl (take_ofW HT_.out HW_.out (by kernel_rfl)) (fun _ _ _ h => h) (Or.inl ⟨by rfl, ?_⟩) hHeld ?_ ?_
 rotate_left
 ·rintro w' ⟨s0, s1⟩
  go_simp
  with_reducible rfl
 rotate_left
 ·simp only [Act.put, za0, za2, za3, i64_w, i32_w]
  rfl
 refine take_ (i := 3) (N := some 17) (v := ?_) (a' := ?_) #[true, true, true, true, true, false, false, false, false] rfl rfl (take_ofW HT_.out HW_.out (by kernel_rfl)) (fun _ _ _ h => h) (Or.inl ⟨by rfl, ?_⟩) hHeld ?_ ?_
 rotate_left
 ·rintro w' ⟨s0, s1⟩
  go_simp
  with_reducible rfl
 rotate_left
 ·simp only [Act.put, za0, za2, za3, i64_w, i32_w]
  rfl
 refine one_ (i := 5) (N := some 19) #[true, true, true, true, true, true, false, false, false] rfl rfl (one_of HT_.out (by kernel_rfl)) (by decide) (fun K hK => ?_)
 refine goes_ Try.func56 (by kernel_rfl) rfl #[.pointer (some ⟨g324, 0, none⟩), .agg #[.slice Ao10 t325.length co10, .int .i64 t328], .slice Ao16 t332.length co16] (by rfl) rfl rfl (by (try simp only [za18, za26, za27]); first | done | rfl | (simp only [za20, za19]; rfl)) ?_
 with_reducible refine (spec_l7Sigs.calls k g324 t321 t335 t336 _ _ t325 t328 _ _ t332 t337 t340 t341 w _ ?side1 ?side2 ?side3 ?side4 ?side5 ?side6 ?side7 ?side8 A5.out).mono ?_
 (case side1 => repeat (first | (with_reducible first | exact HI324.out | apply IsS89.alloc | apply IsS89.drewN | apply IsS89.drew | apply IsS89.set_1 | apply IsS89.set_2 | refine IsS89.far ?_ NB324_320.out _ | refine IsS89.far ?_ NB324_331.out _) | exact HI324.out))
 (case side2 => repeat (first | (with_reducible first | exact HB.out | apply za14 | apply za7 | apply za9 | refine za8 ?_ (IsS89.ge HI324.out) | refine za8 ?_ GE320.out | refine za8 ?_ GE331.out) | exact HB.out))
 (case side3 => repeat (first | exact (za10 HO327.out).2.2 | (with_reducible refine za24 ?_ _) | (with_reducible refine za22 ?_ _) | (with_reducible refine za23 ?_)))
 (case side4 => exact (za10 HO327.out).2.1)
 (case side5 => exact far_slice (IsS89.own_ne HI324.out HO327.out (by decide)))
 (case side6 => repeat (first | exact (za10 HO334.out).2.2 | (with_reducible refine za24 ?_ _) | (with_reducible refine za22 ?_ _) | (with_reducible refine za23 ?_)))
 (case side7 => exact (za10 HO334.out).2.1)
 (case side8 => exact far_slice (IsS89.own_ne HI324.out HO334.out (by decide)))
 rintro e w17 ⟨v338, rfl, ho0, hi, hb, hk⟩
 refine ⟨_, rfl, ?_⟩
 have n0_ := za1 (KeepBut.blk hk (g' := gb320) (o := .cells #[.slice none 0 0, .int .i64 0] 37 (0, 0)) (by (with_reducible repeat (first | refine za11 ?_ _ | refine za12 ?_ | refine za13 ?_ _)); exact BK320.out) NB320_324.out (by simp))
 have n1_ := za1 (za21 (Kd.R_keep (IsS89.apart (show IsS89 w _ g324 t321 t335 t336 from by repeat (first | (with_reducible first | exact HI324.out | apply IsS89.alloc | apply IsS89.drewN | apply IsS89.drew | apply IsS89.set_1 | apply IsS89.set_2 | refine IsS89.far ?_ NB324_320.out _ | refine IsS89.far ?_ NB324_331.out _) | exact HI324.out)) (by (with_reducible repeat (first | apply za5 | apply za4 | apply za6)); exact HO327.out) (by decide)) hk (fun _ h => h.2)) (fun _ h => h.1))
 have n2_ := za1 (KeepBut.blk hk (g' := gb331) (o := .cells #[.slice Ao10 t325.length co10, .int .i64 t328] 37 (0, 0)) (by (with_reducible repeat (first | refine za11 ?_ _ | refine za12 ?_ | refine za13 ?_ _)); exact BK331.out) NB331_324.out (by simp))
 have n3_ := za1 (za21 (Kd.R_keep (IsS89.apart (show IsS89 w _ g324 t321 t335 t336 from by repeat (first | (with_reducible first | exact HI324.out | apply IsS89.alloc | apply IsS89.drewN | apply IsS89.drew | apply IsS89.set_1 | apply IsS89.set_2 | refine IsS89.far ?_ NB324_320.out _ | refine IsS89.far ?_ NB324_331.out _) | exact HI324.out)) (by (with_reducible repeat (first | apply za5 | apply za4 | apply za6)); exact HO334.out) (by decide)) hk (fun _ h => h.2)) (fun _ h => h.1))
 have n4_ := za1 (za31 ho0 (za29 (by repeat (first | (with_reducible first | exact HB.out | apply za14 | apply za7 | apply za9 | refine za8 ?_ (IsS89.ge HI324.out) | refine za8 ?_ GE320.out | refine za8 ?_ GE331.out) | exact HB.out))))
 have n5_ := za1 (hb)
 have n6_ := za1 (hi)
 clear BK320
 clear HO327
 clear BK331
 clear HO334
 clear HB
 clear HI324
 have BK320 := n0_
 have HO327 := n1_
 have BK331 := n2_
 have HO334 := n3_
 have HO339 := n4_
 have HB := n5_
 have HI324 := n6_
 clear n0_ n1_ n2_ n3_ n4_ n5_ n6_
 (try clear hb)
 (try clear hb2)
 (try clear hk)
 (try clear hi)
 (try clear ho0)
 refine hK.out _ _ ⟨(za15 BK331.out 0).trans rfl, (za15 BK331.out 1).trans rfl⟩ (fun hHeld => ?_)
 clear hK K
 refine norm_ (a' := ?_) ?_ ?_
 rotate_left
 ·show Act.put _ (some 19) _ = _
  simp only [Act.put, za0, za2, za3, i64_w, i32_w]
  rfl
 refine one_ (i := 6) (N := none) #[true, true, true, true, true, true, true, false, false] rfl rfl (one_of HT_.out (by kernel_rfl)) (by decide) (fun K hK => ?_)
 have hs18 : w17.cell? ⟨gb320, 0, none⟩ = some (.slice none 0 0) := (za15 BK320.out 0).trans rfl
 have hfs18 := blk_frozen BK320.out 0
 have hns18_1 := NB331_320.out
 have hms18_1 := NB320_331.out
 have hs19 : w17.cell? ⟨gb320, 1, none⟩ = some (.int .i64 0) := (za15 BK320.out 1).trans rfl
 have hfs19 := blk_frozen BK320.out 1
 have hns19_1 := NB331_320.out
 have hms19_1 := NB320_331.out
 refine skip_ (w1 := ?_) (by rfl) rfl ?_ ?_
 rotate_left
 ·go_simp
  rfl
 refine hK.out _ _ ⟨((cell_far (p := ⟨gb320, _, none⟩) NB331_320.out _).trans (((cell_far (p := ⟨gb320, _, none⟩) NB331_320.out _).trans (hHeld.1)))), ((cell_far (p := ⟨gb320, _, none⟩) NB331_320.out _).trans (((cell_far (p := ⟨gb320, _, none⟩) NB331_320.out _).trans (hHeld.2))))⟩ (fun hHeld => ?_)
 clear hK K
 refine pure_ (i := 7) (N := some 3) (v := ?_) (a' := ?_) #[true, true, true, true, true, true, true, true, false] rfl rfl (za25 HT_.out (by kernel_rfl)) (fun _ _ _ h => h) (Or.inl ⟨by rfl, ?_⟩) ?_ ?_
 rotate_left
 ·intro w'
  go_simp
  with_reducible rfl
 rotate_left
 ·simp only [Act.put, za0, za2, za3, i64_w, i32_w]
  rfl
 refine pure_ (i := 8) (N := some 4) (v := ?_) (a' := ?_) #[true, true, true, true, true, true, true, true, true] rfl rfl (za25 HT_.out (by kernel_rfl)) (fun _ _ _ h => h) (Or.inl ⟨by rfl, ?_⟩) ?_ ?_
 rotate_left
 ·intro w'
  go_simp
  with_reducible rfl
 rotate_left
 ·simp only [Act.put, za0, za2, za3, i64_w, i32_w]
  rfl
 refine done_ (done_of HT_.out (by kernel_rfl)) ?_
 try go_wp2
 refine bodyPost_ret (results_ctt rfl _ _ gb320 37 #[.slice Ao10 t325.length co10, .int .i64 t328] (0, 0) _ rfl (by (with_reducible repeat (first | refine za11 ?_ _ | refine za12 ?_ | refine za13 ?_ _)); refine blk_put (cs := #[.slice Ao10 t325.length co10, .int .i64 0]) ?_ 1 _ rfl; (with_reducible repeat (first | refine za11 ?_ _ | refine za12 ?_ | refine za13 ?_ _)); refine blk_put (cs := #[.slice none 0 0, .int .i64 0]) ?_ 0 _ rfl; (with_reducible repeat (first | refine za11 ?_ _ | refine za12 ?_ | refine za13 ?_ _)); exact BK320.out) Try.underlying37 rfl (by kernel_rfl)) rfl ?_
 exact ⟨_, _, _, by first | rfl | (simp [errW_none, errW_some] <;> rfl) | (simp [*, errW_none, errW_some] <;> rfl), by (with_reducible repeat (first | apply za5 | apply za4 | apply za6)); exact za21 (Kd.R_far (p := ⟨gb320, 1, none⟩) (Kd.R_far (p := ⟨gb320, 0, none⟩) (Kd.R_types HO327.out BK320.out (by decide)) (fun _ hk => hk.2) (.slice Ao10 t325.length co10)) (fun _ hk => hk.2) (.int .i64 t328)) (fun _ hk => hk.1.2), by (with_reducible repeat (first | apply za5 | apply za4 | apply za6)); exact za21 (Kd.R_far (p := ⟨gb320, 1, none⟩) (Kd.R_far (p := ⟨gb320, 0, none⟩) (Kd.R_types HO334.out BK320.out (by decide)) (fun _ hk => hk.2) (.slice Ao10 t325.length co10)) (fun _ hk => hk.2) (.int .i64 t328)) (fun _ hk => hk.1.2), by (with_reducible repeat (first | apply za5 | apply za4 | apply za6)); exact za21 (Kd.R_far (p := ⟨gb320, 1, none⟩) (Kd.R_far (p := ⟨gb320, 0, none⟩) (Kd.R_types HO339.out BK320.out (by decide)) (fun _ hk => hk.2) (.slice Ao10 t325.length co10)) (fun _ hk => hk.2) (.int .i64 t328)) (fun _ hk => trivial), by repeat (first | (with_reducible first | exact HB.out | apply za14 | apply za7 | apply za9 | refine za8 ?_ (IsS89.ge HI324.out) | refine za8 ?_ GE320.out | refine za8 ?_ GE331.out) | exact HB.out)⟩

/-! ### spec_DrawIsSigBy: function 25 -/
def spec_DrawIsSigBy.f (k : Nat) (l0 : List Int) : Option (Int × Int × List Int) := (spec_l1New.f k l0).bind fun bt343 => ((spec_l7Message.f k bt343.1 bt343.2.1 bt343.2.2).bind fun bt347 => ((spec_l1Int.f bt343.1 bt347.2.1 bt347.2.2 (([0, 1, 5, 99, 100] : List Int))).bind fun bt355 => ((spec_TagOf.f k bt355.1 bt347.1).bind fun t358 => ((spec_l1Below.f bt343.1 bt355.2.1 bt355.2.2 2).bind fun bt359 => (some (bt355.1, wrap64 (t358 + bt359.1), bt347.1))))))
theorem spec_DrawIsSigBy.mono : ∀ a0 k, LeO (spec_DrawIsSigBy.f k a0) (spec_DrawIsSigBy.f (k + 1) a0) := by
  intro a0 k
  unfold spec_DrawIsSigBy.f
  repeat' first
      | (with_reducible exact spec_TagOf.mono _ _ _)
      | (with_reducible exact spec_l1New.mono _ _)
      | (with_reducible exact spec_l7Message.mono _ _ _ _)
      | (with_reducible exact LeO.refl _)
      | (with_reducible exact za34 _)
      | (with_reducible refine za33 ?_ ?_)
      | (with_reducible refine za32 ?_ (fun _ => ?_))
      | exact spec_TagOf.mono _ _ _
      | exact spec_l1New.mono _ _
      | exact spec_l7Message.mono _ _ _ _
      | exact za34 _
      | refine za33 ?_ ?_
      | refine za32 ?_ (fun _ => ?_)
set_option maxHeartbeats 8000000 in
set_option maxRecDepth 100000 in
theorem spec_DrawIsSigBy.calls (k : Nat) (A0 : Option Addr) (c0 : Nat) (l0 : List Int) (r1 : Int) (r2 : Int) (r3 : List Int) (w : World) (hr0 : Kd.C (Kd.int .u8) w A0 l0.length l0) (hc0 : l0.length ≤ c0) (h : spec_DrawIsSigBy.f k l0 = some (r1, r2, r3)) :
  Calls Try.prog 25 #[.slice A0 l0.length c0] w fun e w' => ∃ v2_ : Value, e = .returned (.tuple #[.agg #[.int .i64 r1, .int .i64 r2], v2_]) ∧ Kd.R (Kd.int .i64) 3 w' w.heap.size (fun _ => True) v2_ r3 ∧ Below w.heap.size w w' := by
 have hu46 := Try.underlying46
 have HR0 := za1 hr0
 have HC0 := za1 hc0
 clear hr0 hc0
 have HB := za1 (Below.refl w.heap.size w)
 have H : ((spec_l1New.f k l0).bind fun bt343 => ((spec_l7Message.f k bt343.1 bt343.2.1 bt343.2.2).bind fun bt347 => ((spec_l1Int.f bt343.1 bt347.2.1 bt347.2.2 (([0, 1, 5, 99, 100] : List Int))).bind fun bt355 => ((spec_TagOf.f k bt355.1 bt347.1).bind fun t358 => ((spec_l1Below.f bt343.1 bt355.2.1 bt355.2.2 2).bind fun bt359 => (some (bt355.1, wrap64 (t358 + bt359.1), bt347.1))))))) = some (r1, r2, r3) := h
 clear h
 replace H := za16.mp H
 obtain ⟨⟨t343, t344, t345⟩, A20, H⟩ := H
 replace H : ((spec_l7Message.f k t343 t344 t345).bind fun bt347 => ((spec_l1Int.f t343 bt347.2.1 bt347.2.2 (([0, 1, 5, 99, 100] : List Int))).bind fun bt355 => ((spec_TagOf.f k bt355.1 bt347.1).bind fun t358 => ((spec_l1Below.f t343 bt355.2.1 bt355.2.2 2).bind fun bt359 => (some (bt355.1, wrap64 (t358 + bt359.1), bt347.1)))))) = some (r1, r2, r3) := H
 have A2 := za1 A20
 clear A20
 replace H := za16.mp H
 obtain ⟨⟨t347, t350, t351⟩, A30, H⟩ := H
 replace H : ((spec_l1Int.f t343 t350 t351 (([0, 1, 5, 99, 100] : List Int))).bind fun bt355 => ((spec_TagOf.f k bt355.1 t347).bind fun t358 => ((spec_l1Below.f t343 bt355.2.1 bt355.2.2 2).bind fun bt359 => (some (bt355.1, wrap64 (t358 + bt359.1), t347))))) = some (r1, r2, r3) := H
 have A3 := za1 A30
 clear A30
 obtain ⟨y352, hy352⟩ : ∃ y_ : List Int, y_ = (([0, 1, 5, 99, 100] : List Int)) := ⟨_, rfl⟩
 replace H : ((spec_l1Int.f t343 t350 t351 y352).bind fun bt355 => ((spec_TagOf.f k bt355.1 t347).bind fun t358 => ((spec_l1Below.f t343 bt355.2.1 bt355.2.2 2).bind fun bt359 => (some (bt355.1, wrap64 (t358 + bt359.1), t347))))) = some (r1, r2, r3) := by first | (rw [hy352]; with_reducible exact H) | (have H2_ := (za36 _ _).symm.trans H; rw [hy352]; with_reducible exact H2_) | (have H2_ := (za36 _ _).symm.trans H; with_reducible exact H2_) | with_reducible exact H | (rw [hy352]; exact H) | exact H
 have Ny352 := za1 hy352
 clear hy352
 replace H := za16.mp H
 obtain ⟨⟨t355, t356, t357⟩, A40, H⟩ := H
 replace H : ((spec_TagOf.f k t355 t347).bind fun t358 => ((spec_l1Below.f t343 t356 t357 2).bind fun bt359 => (some (t355, wrap64 (t358 + bt359.1), t347)))) = some (r1, r2, r3) := H
 have A4 := za1 A40
 clear A40
 replace H := za16.mp H
 obtain ⟨t358, A50, H⟩ := H
 replace H : ((spec_l1Below.f t343 t356 t357 2).bind fun bt359 => (some (t355, wrap64 (t358 + bt359.1), t347))) = some (r1, r2, r3) := H
 have A5 := za1 A50
 clear A50
 replace H := za16.mp H
 obtain ⟨⟨t359, t360, t361⟩, A60, H⟩ := H
 replace H : (some (t355, wrap64 (t358 + t359), t347)) = some (r1, r2, r3) := H
 have A6 := za1 A60
 clear A60
 simp only [Option.some.injEq, Prod.mk.injEq] at H
 obtain ⟨rfl, rfl, rfl⟩ := H
 go_enter Try.func25, Try.ntmps25
 go_wp2_with (first | ((with_reducible refine gate_dst (N := 2) rfl ?_); refine box_event ?hg (N := 2) ?hd (cs := #[.int .i64 0, .int .i64 0]) (t := 46) ?hr ?_; (case hd => rfl); (case hg => rfl); (case hr => first | (go_simp; done) | (go_simp; rfl)); intro gb342 hg w7 hbox hb; have n0_ := za1 (za28 (by repeat (first | (with_reducible first | exact HB.out | apply za14 | apply za7 | apply za9) | exact HB.out)) hb); have n1_ := za1 (hbox); have n2_ := za1 ((by rw [hg]; exact (za29 (by repeat (first | (with_reducible first | exact HB.out | apply za14 | apply za7 | apply za9) | exact HB.out))) : w.heap.size ≤ gb342)); have n3_ := za1 ((by rw [hg]; exact (za29 (by repeat (first | (with_reducible first | exact HB.out | apply za14 | apply za7 | apply za9) | exact HB.out))) : w.heap.size ≤ gb342)); clear HB; have HB := n0_; have BK342 := n1_; have GW342 := n2_; have GE342 := n3_; clear n0_ n1_ n2_ n3_; clear hb hbox hg) | ((with_reducible refine gate_callee (f := 48) rfl ?_); refine goesL_ (some 8) rfl rfl Try.func48 (by kernel_rfl) rfl #[.slice A0 l0.length c0] rfl (by (try simp only [za18, za26, za27]); first | done | rfl | (simp only [za20, za19]; rfl)) ?_; (with_reducible refine (spec_l1New.calls k _ _ l0 t343 t344 t345 w _ ?side1 ?side2 ?side3 A2.out).mono ?_); (case side1 => repeat (first | (with_reducible first | exact HB.out | apply za14 | apply za7 | apply za9 | refine za8 ?_ GE342.out) | exact HB.out)); (case side2 => exact HR0.out); (case side3 => exact HC0.out); rintro e w8 ⟨g346, rfl, hi, hb, hb2⟩; refine ⟨_, rfl, ?_⟩; have n0_ := za1 (za17 (g := gb342) (o := .cells #[.int .i64 0, .int .i64 0] 46 (0, 0)) (by (with_reducible repeat (first | refine za11 ?_ _ | refine za12 ?_ | refine za13 ?_ _)); exact BK342.out) hb2); have n1_ := za1 (hb); have n2_ := za1 (hi); have n3_ := za1 (IsS89.ne_blk hi (za17 (g := gb342) (o := .cells #[.int .i64 0, .int .i64 0] 46 (0, 0)) (by (with_reducible repeat (first | refine za11 ?_ _ | refine za12 ?_ | refine za13 ?_ _)); exact BK342.out) hb2) (by decide)); have n4_ := za1 (Ne.symm (IsS89.ne_blk hi (za17 (g := gb342) (o := .cells #[.int .i64 0, .int .i64 0] 46 (0, 0)) (by (with_reducible repeat (first | refine za11 ?_ _ | refine za12 ?_ | refine za13 ?_ _)); exact BK342.out) hb2) (by decide))); clear BK342; clear HB; have BK342 := n0_; have HB := n1_; have HI346 := n2_; have NB346_342 := n3_; have NB342_346 := n4_; clear n0_ n1_ n2_ n3_ n4_; (try clear hb); (try clear hb2); (try clear hk); (try clear hi)) | ((with_reducible refine gate_callee (f := 51) rfl ?_); refine goesL_ (some 10) rfl rfl Try.func51 (by kernel_rfl) rfl #[.pointer (some ⟨g346, 0, none⟩)] rfl (by (try simp only [za18, za26, za27]); first | done | rfl | (simp only [za20, za19]; rfl)) ?_; (with_reducible refine (spec_l7Message.calls k g346 t343 t344 t345 t347 t350 t351 w _ ?side1 ?side2 A3.out).mono ?_); (case side1 => repeat (first | (with_reducible first | exact HI346.out | apply IsS89.alloc | apply IsS89.drewN | apply IsS89.drew | apply IsS89.set_1 | apply IsS89.set_2 | refine IsS89.far ?_ NB346_342.out _) | exact HI346.out)); (case side2 => repeat (first | (with_reducible first | exact HB.out | apply za14 | apply za7 | apply za9 | refine za8 ?_ (IsS89.ge HI346.out) | refine za8 ?_ GE342.out) | exact HB.out)); rintro e w9 ⟨v348, rfl, ho0, hi, hb, hk⟩; refine ⟨_, rfl, ?_⟩; have n0_ := za1 (KeepBut.blk hk (g' := gb342) (o := .cells #[.int .i64 0, .int .i64 0] 46 (0, 0)) (by (with_reducible repeat (first | refine za11 ?_ _ | refine za12 ?_ | refine za13 ?_ _)); exact BK342.out) NB342_346.out (by simp)); have n1_ := za1 (za31 ho0 (za29 (by repeat (first | (with_reducible first | exact HB.out | apply za14 | apply za7 | apply za9 | refine za8 ?_ (IsS89.ge HI346.out) | refine za8 ?_ GE342.out) | exact HB.out)))); have n2_ := za1 (hb); have n3_ := za1 (hi); clear BK342; clear HB; clear HI346; have BK342 := n0_; have HO349 := n1_; have HB := n2_; have HI346 := n3_; clear n0_ n1_ n2_ n3_; (try clear hb); (try clear hb2); (try clear hk); (try clear hi); (try clear ho0)) | ((with_reducible refine gate_dst (N := 12) rfl ?_); refine Kd.R_lit (Kd.int .i64) _ 3 ?hg (N := 12) ?hd (xs := ([0, 1, 5, 99, 100] : List Int)) (inner := [.int .i64 0, .int .i64 1, .int .i64 5, .int .i64 99, .int .i64 100]) (ok := fun _ => True) (okp := fun _ => True) ?hr ?hp (fun _ hk => hk) trivial (Below.refl _ _) (Nat.le_refl _) (by simp) ?_; (case hd => rfl); (case hg => rfl); (case hr => first | (go_simp; done) | (go_simp; rfl)); (case hp => exact (Reps.one (show Kd.M (Kd.int .i64) _ _ _ 0 [.int .i64 0] from rfl) (Reps.one (show Kd.M (Kd.int .i64) _ _ _ 1 [.int .i64 1] from rfl) (Reps.one (show Kd.M (Kd.int .i64) _ _ _ 5 [.int .i64 5] from rfl) (Reps.one (show Kd.M (Kd.int .i64) _ _ _ 99 [.int .i64 99] from rfl) (Reps.one (show Kd.M (Kd.int .i64) _ _ _ 100 [.int .i64 100] from rfl) (Reps.none _ _))))))); intro v353 w10 ho11 hb hg_ hnew_; clear hg_ hnew_; (first | rw [← Ny352.out] at ho11 | (simp only [Int.reduceToNat] at ho11; rw [← Ny352.out] at ho11)); have n0_ := za1 (Kd.R_elder' (by (with_reducible repeat (first | apply za5 | apply za4 | apply za6)); exact HO349.out) (Kd.R_base ho11) hb); have n1_ := za1 (za31 (Kd.R_new' ho11 (Kd.R_lt (by (with_reducible repeat (first | apply za5 | apply za4 | apply za6)); exact HO349.out))) (za29 (by repeat (first | (with_reducible first | exact HB.out | apply za14 | apply za7 | apply za9 | refine za8 ?_ (IsS89.ge HI346.out) | refine za8 ?_ GE342.out) | exact HB.out)))); have n2_ := za1 (za17 (g := gb342) (o := .cells #[.int .i64 0, .int .i64 0] 46 (0, 0)) (by (with_reducible repeat (first | refine za11 ?_ _ | refine za12 ?_ | refine za13 ?_ _)); exact BK342.out) hb); have n3_ := za1 (IsS89.below (by repeat (first | (with_reducible first | exact HI346.out | apply IsS89.alloc | apply IsS89.drewN | apply IsS89.drew | apply IsS89.set_1 | apply IsS89.set_2 | refine IsS89.far ?_ NB346_342.out _) | exact HI346.out)) hb); have n4_ := za1 (za28 (by repeat (first | (with_reducible first | exact HB.out | apply za14 | apply za7 | apply za9 | refine za8 ?_ (IsS89.ge HI346.out) | refine za8 ?_ GE342.out) | exact HB.out)) hb); clear HO349; clear BK342; clear HI346; clear HB; have HO349 := n0_; have HO354 := n1_; have BK342 := n2_; have HI346 := n3_; have HB := n4_; clear n0_ n1_ n2_ n3_ n4_; clear hb ho11; obtain ⟨Ao12, co12, eo12⟩ := Kd.R_slice HO354.out; subst eo12) | ((with_reducible refine gate_callee (f := 59) rfl ?_); refine goesL_ (some 13) rfl rfl Try.func59 (by kernel_rfl) rfl #[.pointer (some ⟨g346, 0, none⟩), .slice Ao12 y352.length co12] rfl (by (try simp only [za18, za26, za27]); first | done | rfl | (simp only [za20, za19]; rfl)) ?_; (with_reducible refine (spec_l1Int.calls g346 t343 t350 t351 _ _ y352 t355 t356 t357 w _ ?side1 ?side2 ?side3 ?side4 ?side5 A4.out).mono ?_); (case side1 => repeat (first | (with_reducible first | exact HI346.out | apply IsS89.alloc | apply IsS89.drewN | apply IsS89.drew | apply IsS89.set_1 | apply IsS89.set_2 | refine IsS89.far ?_ NB346_342.out _) | exact HI346.out)); (case side2 => repeat (first | (with_reducible first | exact HB.out | apply za14 | apply za7 | apply za9 | refine za8 ?_ (IsS89.ge HI346.out) | refine za8 ?_ GE342.out) | exact HB.out)); (case side3 => repeat (first | exact (za10 HO354.out).2.2 | (with_reducible refine za24 ?_ _) | (with_reducible refine za22 ?_ _) | (with_reducible refine za23 ?_))); (case side4 => exact (za10 HO354.out).2.1); (case side5 => exact far_slice (IsS89.own_ne HI346.out HO354.out (by decide))); rintro e w13 ⟨rfl, hi, hb, hk⟩; refine ⟨_, rfl, ?_⟩; have n0_ := za1 (KeepBut.blk hk (g' := gb342) (o := .cells #[.int .i64 0, .int .i64 0] 46 (0, 0)) (by (with_reducible repeat (first | refine za11 ?_ _ | refine za12 ?_ | refine za13 ?_ _)); exact BK342.out) NB342_346.out (by simp)); have n1_ := za1 (za21 (Kd.R_keep (IsS89.apart (show IsS89 w _ g346 t343 t350 t351 from by repeat (first | (with_reducible first | exact HI346.out | apply IsS89.alloc | apply IsS89.drewN | apply IsS89.drew | apply IsS89.set_1 | apply IsS89.set_2 | refine IsS89.far ?_ NB346_342.out _) | exact HI346.out)) (by (with_reducible repeat (first | apply za5 | apply za4 | apply za6)); exact HO349.out) (by decide)) hk (fun _ h => h.2)) (fun _ h => h.1)); have n2_ := za1 (za21 (Kd.R_keep (IsS89.apart (show IsS89 w _ g346 t343 t350 t351 from by repeat (first | (with_reducible first | exact HI346.out | apply IsS89.alloc | apply IsS89.drewN | apply IsS89.drew | apply IsS89.set_1 | apply IsS89.set_2 | refine IsS89.far ?_ NB346_342.out _) | exact HI346.out)) (by (with_reducible repeat (first | apply za5 | apply za4 | apply za6)); exact HO354.out) (by decide)) hk (fun _ h => h.2)) (fun _ h => h.1)); have n3_ := za1 (hb); have n4_ := za1 (hi); clear BK342; clear HO349; clear HO354; clear HB; clear HI346; have BK342 := n0_; have HO349 := n1_; have HO354 := n2_; have HB := n3_; have HI346 := n4_; clear n0_ n1_ n2_ n3_ n4_; (try clear hb); (try clear hb2); (try clear hk); (try clear hi); obtain ⟨Ao14, co14, eo14⟩ := Kd.R_slice HO349.out; subst eo14) | ((with_reducible refine gate_callee (f := 32) rfl ?_); refine goesL_ (some 17) rfl rfl Try.func32 (by kernel_rfl) rfl #[.int .i64 t355, .slice Ao14 t347.length co14] rfl (by (try simp only [za18, za26, za27]); first | done | rfl | (simp only [za20, za19]; rfl)) ?_; (with_reducible refine (spec_TagOf.calls k t355 _ _ t347 t358 _ ?side1 ?side2 A5.out).mono ?_); (case side1 => repeat (first | exact (za10 HO349.out).2.2 | (with_reducible refine za24 ?_ _) | (with_reducible refine za22 ?_ _) | (with_reducible refine za23 ?_))); (case side2 => exact (za10 HO349.out).2.1); rintro e w15 ⟨rfl, hb⟩; refine ⟨_, rfl, ?_⟩; have n0_ := za1 (Kd.R_below (by (with_reducible repeat (first | apply za5 | apply za4 | apply za6)); exact HO349.out) hb); have n1_ := za1 (Kd.R_below (by (with_reducible repeat (first | apply za5 | apply za4 | apply za6)); exact HO354.out) hb); have n2_ := za1 (za17 (g := gb342) (o := .cells #[.int .i64 0, .int .i64 0] 46 (0, 0)) (by (with_reducible repeat (first | refine za11 ?_ _ | refine za12 ?_ | refine za13 ?_ _)); exact BK342.out) hb); have n3_ := za1 (IsS89.below (by repeat (first | (with_reducible first | exact HI346.out | apply IsS89.alloc | apply IsS89.drewN | apply IsS89.drew | apply IsS89.set_1 | apply IsS89.set_2 | refine IsS89.far ?_ NB346_342.out _) | exact HI346.out)) hb); have n4_ := za1 (za28 (by repeat (first | (with_reducible first | exact HB.out | apply za14 | apply za7 | apply za9 | refine za8 ?_ (IsS89.ge HI346.out) | refine za8 ?_ GE342.out) | exact HB.out)) hb); clear HO349; clear HO354; clear BK342; clear HI346; clear HB; have HO349 := n0_; have HO354 := n1_; have BK342 := n2_; have HI346 := n3_; have HB := n4_; clear n0_ n1_ n2_ n3_ n4_; (try clear hb); (try clear hb2); (try clear hk); (try clear hi)) | ((with_reducible refine gate_callee (f := 60) rfl ?_); refine goesL_ (some 19) rfl rfl Try.func60 (by kernel_rfl) rfl #[.pointer (some ⟨g346, 0, none⟩), .int .i64 2] rfl (by (try simp only [za18, za26, za27]); first | done | rfl | (simp only [za20, za19]; rfl)) ?_; (with_reducible refine (spec_l1Below.calls g346 t343 t356 t357 2 t359 t360 t361 w _ ?side1 ?side2 A6.out).mono ?_); (case side1 => repeat (first | (with_reducible first | exact HI346.out | apply IsS89.alloc | apply IsS89.drewN | apply IsS89.drew | apply IsS89.set_1 | apply IsS89.set_2 | refine IsS89.far ?_ NB346_342.out _) | exact HI346.out)); (case side2 => repeat (first | (with_reducible first | exact HB.out | apply za14 | apply za7 | apply za9 | refine za8 ?_ (IsS89.ge HI346.out) | refine za8 ?_ GE342.out) | exact HB.out)); rintro e w16 ⟨rfl, hi, hb, hk⟩; refine ⟨_, rfl, ?_⟩; have n0_ := za1 (KeepBut.blk hk (g' := gb342) (o := .cells #[.int .i64 0, .int .i64 0] 46 (0, 0)) (by (with_reducible repeat (first | refine za11 ?_ _ | refine za12 ?_ | refine za13 ?_ _)); exact BK342.out) NB342_346.out (by simp)); have n1_ := za1 (za21 (Kd.R_keep (IsS89.apart (show IsS89 w _ g346 t343 t356 t357 from by repeat (first | (with_reducible first | exact HI346.out | apply IsS89.alloc | apply IsS89.drewN | apply IsS89.drew | apply IsS89.set_1 | apply IsS89.set_2 | refine IsS89.far ?_ NB346_342.out _) | exact HI346.out)) (by (with_reducible repeat (first | apply za5 | apply za4 | apply za6)); exact HO349.out) (by decide)) hk (fun _ h => h.2)) (fun _ h => h.1)); have n2_ := za1 (za21 (Kd.R_keep (IsS89.apart (show IsS89 w _ g346 t343 t356 t357 from by repeat (first | (with_reducible first | exact HI346.out | apply IsS89.alloc | apply IsS89.drewN | apply IsS89.drew | apply IsS89.set_1 | apply IsS89.set_2 | refine IsS89.far ?_ NB346_342.out _) | exact HI346.out)) (by (with_reducible repeat (first | apply za5 | apply za4 | apply za6)); exact HO354.out) (by decide)) hk (fun _ h => h.2)) (fun _ h => h.1)); have n3_ := za1 (hb); have n4_ := za1 (hi); clear BK342; clear HO349; clear HO354; clear HB; clear HI346; have BK342 := n0_; have HO349 := n1_; have HO354 := n2_; have HB := n3_; have HI346 := n4_; clear n0_ n1_ n2_ n3_ n4_; (try clear hb); (try clear hb2); (try clear hk); (try clear hi); have hnb17 := NB342_346.out; have hnc17 := NB346_342.out; have hcz18_0 : w16.cell? ⟨gb342, 0, none⟩ = some (.int .i64 0) := (za15 BK342.out 0).trans rfl; have hcz18_1 : w16.cell? ⟨gb342, 1, none⟩ = some (.int .i64 0) := (za15 BK342.out 1).trans rfl; have hfz18_0 := blk_frozen BK342.out 0; have hfz18_1 := blk_frozen BK342.out 1))
 refine bodyPost_ret (results_ct rfl _ _ gb342 46 #[.int .i64 t355, .int .i64 (wrap64 (t358 + t359))] (0, 0) _ rfl (by (with_reducible repeat (first | refine za11 ?_ _ | refine za12 ?_ | refine za13 ?_ _)); refine blk_put (cs := #[.int .i64 t355, .int .i64 0]) ?_ 1 _ rfl; (with_reducible repeat (first | refine za11 ?_ _ | refine za12 ?_ | refine za13 ?_ _)); refine blk_put (cs := #[.int .i64 0, .int .i64 0]) ?_ 0 _ rfl; (with_reducible repeat (first | refine za11 ?_ _ | refine za12 ?_ | refine za13 ?_ _)); exact BK342.out) Try.underlying46 rfl (by kernel_rfl)) rfl ?_
 exact ⟨_, by first | rfl | (simp [errW_none, errW_some] <;> rfl) | (simp [*, errW_none, errW_some] <;> rfl), by (with_reducible repeat (first | apply za5 | apply za4 | apply za6)); exact za21 (Kd.R_far (p := ⟨gb342, 1, none⟩) (Kd.R_far (p := ⟨gb342, 0, none⟩) (Kd.R_types HO349.out BK342.out (by decide)) (fun _ hk => hk.2) (.int .i64 t355)) (fun _ hk => hk.2) (.int .i64 (wrap64 (t358 + t359)))) (fun _ hk => trivial), by repeat (first | (with_reducible first | exact HB.out | apply za14 | apply za7 | apply za9 | refine za8 ?_ (IsS89.ge HI346.out) | refine za8 ?_ GE342.out) | exact HB.out)⟩

/-! ### spec_DrawOneKey: function 26 -/
def spec_DrawOneKey.f (k : Nat) (l0 : List Int) : Option (Int) := (spec_l1New.f k l0).bind fun bt362 => ((spec_l1Below.f bt362.1 bt362.2.1 bt362.2.2 101).bind fun bt366 => (some bt366.1))
theorem spec_DrawOneKey.mono : ∀ a0 k, LeO (spec_DrawOneKey.f k a0) (spec_DrawOneKey.f (k + 1) a0) := by
  intro a0 k
  unfold spec_DrawOneKey.f
  repeat' first
      | (with_reducible exact spec_l1New.mono _ _)
      | (with_reducible exact LeO.refl _)
      | (with_reducible exact za34 _)
      | (with_reducible refine za33 ?_ ?_)
      | (with_reducible refine za32 ?_ (fun _ => ?_))
      | exact spec_l1New.mono _ _
      | exact za34 _
      | refine za33 ?_ ?_
      | refine za32 ?_ (fun _ => ?_)
set_option maxHeartbeats 8000000 in
set_option maxRecDepth 100000 in
theorem spec_DrawOneKey.calls (k : Nat) (A0 : Option Addr) (c0 : Nat) (l0 : List Int) (r : Int) (w : World) (hr0 : Kd.C (Kd.int .u8) w A0 l0.length l0) (hc0 : l0.length ≤ c0) (h : spec_DrawOneKey.f k l0 = some r) :
  Calls Try.prog 26 #[.slice A0 l0.length c0] w fun e w' => e = .returned (.int .i64 r) ∧ Below w.heap.size w w' := by
 have HR0 := za1 hr0
 have HC0 := za1 hc0
 clear hr0 hc0
 have HB := za1 (Below.refl w.heap.size w)
 have H : ((spec_l1New.f k l0).bind fun bt362 => ((spec_l1Below.f bt362.1 bt362.2.1 bt362.2.2 101).bind fun bt366 => (some bt366.1))) = some r := h
 clear h
 replace H := za16.mp H
 obtain ⟨⟨t362, t363, t364⟩, A20, H⟩ := H
 replace H : ((spec_l1Below.f t362 t363 t364 101).bind fun bt366 => (some bt366.1)) = some r := H
 have A2 := za1 A20
 clear A20
 replace H := za16.mp H
 obtain ⟨⟨t366, t367, t368⟩, A30, H⟩ := H
 replace H : (some t366) = some r := H
 have A3 := za1 A30
 clear A30
 obtain rfl := za37 H
 go_enter Try.func26, Try.ntmps26
 go_wp2_with (first | ((with_reducible refine gate_callee (f := 48) rfl ?_); refine goesL_ (some 5) rfl rfl Try.func48 (by kernel_rfl) rfl #[.slice A0 l0.length c0] rfl (by (try simp only [za18, za26, za27]); first | done | rfl | (simp only [za20, za19]; rfl)) ?_; (with_reducible refine (spec_l1New.calls k _ _ l0 t362 t363 t364 w _ ?side1 ?side2 ?side3 A2.out).mono ?_); (case side1 => repeat (first | (with_reducible first | exact HB.out | apply za14 | apply za7 | apply za9) | exact HB.out)); (case side2 => exact HR0.out); (case side3 => exact HC0.out); rintro e w4 ⟨g365, rfl, hi, hb, hb2⟩; refine ⟨_, rfl, ?_⟩; have n0_ := za1 (hb); have n1_ := za1 (hi); clear HB; have HB := n0_; have HI365 := n1_; clear n0_ n1_; (try clear hb); (try clear hb2); (try clear hk); (try clear hi)) | ((with_reducible refine gate_callee (f := 60) rfl ?_); refine goesL_ (some 7) rfl rfl Try.func60 (by kernel_rfl) rfl #[.pointer (some ⟨g365, 0, none⟩), .int .i64 101] rfl (by (try simp only [za18, za26, za27]); first | done | rfl | (simp only [za20, za19]; rfl)) ?_; (with_reducible refine (spec_l1Below.calls g365 t362 t363 t364 101 t366 t367 t368 w _ ?side1 ?side2 A3.out).mono ?_); (case side1 => repeat (first | (with_reducible first | exact HI365.out | apply IsS89.alloc | apply IsS89.drewN | apply IsS89.drew | apply IsS89.set_1 | apply IsS89.set_2) | exact HI365.out)); (case side2 => repeat (first | (with_reducible first | exact HB.out | apply za14 | apply za7 | apply za9 | refine za8 ?_ (IsS89.ge HI365.out)) | exact HB.out)); rintro e w5 ⟨rfl, hi, hb, hk⟩; refine ⟨_, rfl, ?_⟩; have n0_ := za1 (hb); have n1_ := za1 (hi); clear HB; clear HI365; have HB := n0_; have HI365 := n1_; clear n0_ n1_; (try clear hb); (try clear hb2); (try clear hk); (try clear hi)))
 go_ret
 exact ⟨by first | rfl | (simp [errW_none, errW_some] <;> rfl) | (simp [*, errW_none, errW_some] <;> rfl), by repeat (first | (with_reducible first | exact HB.out | apply za14 | apply za7 | apply za9 | refine za8 ?_ (IsS89.ge HI365.out)) | exact HB.out)⟩

/-! ### spec_IsSigBy: function 29 -/
def spec_IsSigBy.f (k : Nat) (a0_0 : Int) (a0_1 : Int) (l1 : List Int) : Option (Bool) := (spec_l1In.f a0_0 1 99).bind fun t370 => (if t370 = true then ((spec_TagOf.f k a0_0 l1).bind fun t371 => (some (a0_1 == t371))) else (some false))
theorem spec_IsSigBy.mono : ∀ a0 a1 a2 k, LeO (spec_IsSigBy.f k a0 a1 a2) (spec_IsSigBy.f (k + 1) a0 a1 a2) := by
  intro a0 a1 a2 k
  unfold spec_IsSigBy.f
  repeat' first
      | (with_reducible exact spec_TagOf.mono _ _ _)
      | (with_reducible exact LeO.refl _)
      | (with_reducible exact za34 _)
      | (with_reducible refine za33 ?_ ?_)
      | (with_reducible refine za32 ?_ (fun _ => ?_))
      | exact spec_TagOf.mono _ _ _
      | exact za34 _
      | refine za33 ?_ ?_
      | refine za32 ?_ (fun _ => ?_)
def spec_IsSigBy.T1 : Bool × List (List Nat × List Nat) := (true, [([], []), ([0], [0]), ([1], [1]), ([2, 2], [2]), ([3], [3]), ([4, 3], [3, 4]), ([3], [3]), ([6, 3], [3, 6]), ([3], [3]), ([7, 8, 3, 3], [3, 7, 8]), ([5, 9, 3], [3, 5, 9]), ([3, 10], [3, 10]), ([11, 9, 0, 1, 2, 3, 4, 5, 6, 7, 8, 9, 10, 11], [11])])
def spec_IsSigBy.B1 : List Nat := [0, 1, 3, 7, 15, 31, 15, 79, 15, 463, 1023, 2047, 4095]
theorem spec_IsSigBy.tab1 : rtab .any (opsOf Try.f29 1) = spec_IsSigBy.T1 := by kernel_rfl
theorem spec_IsSigBy.bits1 : waitsOk spec_IsSigBy.T1.2 spec_IsSigBy.B1 = true := by kernel_rfl
set_option maxHeartbeats 8000000 in
set_option maxRecDepth 100000 in
theorem spec_IsSigBy.calls (k : Nat) (a0_0 : Int) (a0_1 : Int) (A1 : Option Addr) (c1 : Nat) (l1 : List Int) (r : Bool) (w : World) (hr1 : Kd.C (Kd.int .i64) w A1 l1.length l1) (hc1 : l1.length ≤ c1) (h : spec_IsSigBy.f k a0_0 a0_1 l1 = some r) :
  Calls Try.prog 29 #[.agg #[.int .i64 a0_0, .int .i64 a0_1], .slice A1 l1.length c1] w fun e w' => e = .returned (.bool r) ∧ Below w.heap.size w w' := by
 have hu46 := Try.underlying46
 have HR1 := za1 hr1
 have HC1 := za1 hc1
 clear hr1 hc1
 have HB := za1 (Below.refl w.heap.size w)
 have H : ((spec_l1In.f a0_0 1 99).bind fun t370 => (if t370 = true then ((spec_TagOf.f k a0_0 l1).bind fun t371 => (some (a0_1 == t371))) else (some false))) = some r := h
 clear h
 replace H := za16.mp H
 obtain ⟨t370, A30, H⟩ := H
 replace H : (if t370 = true then ((spec_TagOf.f k a0_0 l1).bind fun t371 => (some (a0_1 == t371))) else (some false)) = some r := H
 have A3 := za1 A30
 clear A30
 by_cases c4 : t370 = true
 ·subst c4
  have H1 : ((spec_TagOf.f k a0_0 l1).bind fun t371 => (some (a0_1 == t371))) = some r := by rw [if_pos rfl] at H; exact H
  clear H
  have H := H1
  clear H1
  replace H := za16.mp H
  obtain ⟨t371, A50, H⟩ := H
  replace H : (some (a0_1 == t371)) = some r := H
  have A5 := za1 A50
  clear A50
  obtain rfl := za37 H
  go_enter Try.func29, Try.ntmps29
  try go_wp2_with (first | ((with_reducible refine gate_dst (N := 2) rfl ?_); refine box_event ?hg (N := 2) ?hd (cs := #[.int .i64 a0_0, .int .i64 a0_1]) (t := 46) ?hr ?_; (case hd => rfl); (case hg => rfl); (case hr => first | (go_simp; done) | (go_simp; rfl)); intro gb369 hg w6 hbox hb; have n0_ := za1 (za28 (by repeat (first | (with_reducible first | exact HB.out | apply za14 | apply za7 | apply za9) | exact HB.out)) hb); have n1_ := za1 (hbox); have n2_ := za1 ((by rw [hg]; exact (za29 (by repeat (first | (with_reducible first | exact HB.out | apply za14 | apply za7 | apply za9) | exact HB.out))) : w.heap.size ≤ gb369)); have n3_ := za1 ((by rw [hg]; exact (za29 (by repeat (first | (with_reducible first | exact HB.out | apply za14 | apply za7 | apply za9) | exact HB.out))) : w.heap.size ≤ gb369)); clear HB; have HB := n0_; have BK369 := n1_; have GW369 := n2_; have GE369 := n3_; clear n0_ n1_ n2_ n3_; clear hb hbox hg))
  have n0_ := za1 (za12 BK369.out)
  have n1_ := za1 (za9 HB.out)
  clear BK369
  clear HB
  have BK369 := n0_
  have HB := n1_
  clear n0_ n1_
  refine start_ (n := 13) (S := fun w' => w'.cell? ⟨gb369, 0, none⟩ = some (.int .i64 a0_0) ∧ w'.cell? ⟨gb369, 1, none⟩ = some (.int .i64 a0_1)) (ds := []) #[false, false, false, false, false, false, false, false, false, false, false, false, false] (by kernel_rfl) rfl rfl ⟨(za15 BK369.out 0).trans rfl, (za15 BK369.out 1).trans rfl⟩ (fun hHeld => ?_); refine with_tabW spec_IsSigBy.tab1 spec_IsSigBy.bits1 (fun HT_ HW_ => ?_)
  generalize w6.drew = w7 at BK369 HB hHeld ⊢
  refine pure_ (i := 0) (N := some 5) (v := ?_) (a' := ?_) #[true, false, false, false, false, false, false, false, false, false, false, false, false] rfl rfl (za25 HT_.out (by kernel_rfl)) (fun _ _ _ h => h) (Or.inl ⟨by rfl, ?_⟩) ?_ ?_
  rotate_left
  ·intro w'
   go_simp
   with_reducible rfl
  rotate_left
  ·simp only [Act.put, za0, za2, za3, i64_w, i32_w]
   rfl
  refine take_ (i := 1) (N := some 6) (v := ?_) (a' := ?_) #[true, true, false, false, false, false, false, false, false, false, false, false, false] rfl rfl (take_ofW HT_.out HW_.out (by kernel_rfl)) (fun _ _ _ h => h) (Or.inl ⟨by rfl, ?_⟩) hHeld ?_ ?_
  rotate_left
  ·rintro w' ⟨s0, s1⟩
   go_simp
   with_reducible rfl
  rotate_left
  ·simp only [Act.put, za0, za2, za3, i64_w, i32_w]
   rfl
  refine one_ (i := 2) (N := some 7) #[true, true, true, false, false, false, false, false, false, false, false, false, false] rfl rfl (one_of HT_.out (by kernel_rfl)) (by decide) (fun K hK => ?_)
  refine goes_ Try.func61 (by kernel_rfl) rfl #[.int .i64 a0_0, .int .i64 1, .int .i64 99] (by rfl) rfl rfl (by (try simp only [za18, za26, za27]); first | done | rfl | (simp only [za20, za19]; rfl)) ?_
  with_reducible refine (spec_l1In.calls a0_0 1 99 true _ A3.out).mono ?_
  rintro e w' ⟨rfl, ⟨nd, rfl⟩⟩
  refine ⟨_, rfl, ?_⟩
  refine hK.out _ _ ⟨(za15 BK369.out 0).trans rfl, (za15 BK369.out 1).trans rfl⟩ (fun hHeld => ?_)
  clear hK K
  refine norm_ (a' := ?_) ?_ ?_
  rotate_left
  ·show Act.put _ (some 7) _ = _
   simp only [Act.put, za0, za2, za3, i64_w, i32_w]
   rfl
  refine pure_ (i := 3) (N := some 8) (v := ?_) (a' := ?_) #[true, true, true, true, false, false, false, false, false, false, false, false, false] rfl rfl (za25 HT_.out (by kernel_rfl)) (fun _ _ _ h => h) (Or.inl ⟨by rfl, ?_⟩) ?_ ?_
  rotate_left
  ·intro w'
   go_simp
   with_reducible rfl
  rotate_left
  ·simp only [Act.put, za0, za2, za3, i64_w, i32_w]
   rfl
  refine pure_ (i := 4) (N := some 9) (v := ?_) (a' := ?_) #[true, true, true, true, true, false, false, false, false, false, false, false, false] rfl rfl (za25 HT_.out (by kernel_rfl)) (fun _ _ _ h => h) (Or.inl ⟨by rfl, ?_⟩) ?_ ?_
  rotate_left
  ·intro w'
   go_simp
   with_reducible rfl
  rotate_left
  ·simp only [Act.put, za0, za2, za3, i64_w, i32_w]
   rfl
  refine pure_ (i := 6) (N := some 11) (v := ?_) (a' := ?_) #[true, true, true, true, true, false, true, false, false, false, false, false, false] rfl rfl (za25 HT_.out (by kernel_rfl)) (fun _ _ _ h => h) (Or.inl ⟨by rfl, ?_⟩) ?_ ?_
  rotate_left
  ·intro w'
   go_simp
   with_reducible rfl
  rotate_left
  ·simp only [Act.put, za0, za2, za3, i64_w, i32_w]
   rfl
  refine pure_ (i := 8) (N := some 13) (v := ?_) (a' := ?_) #[true, true, true, true, true, false, true, false, true, false, false, false, false] rfl rfl (za25 HT_.out (by kernel_rfl)) (fun _ _ _ h => h) (Or.inl ⟨by rfl, ?_⟩) ?_ ?_
  rotate_left
  ·intro w'
   go_simp
   with_reducible rfl
  rotate_left
  ·simp only [Act.put, za0, za2, za3, i64_w, i32_w]
   rfl
  refine take_ (i := 5) (N := some 10) (v := ?_) (a' := ?_) #[true, true, true, true, true, true, true, false, true, false, false, false, false] rfl rfl (take_ofW HT_.out HW_.out (by kernel_rfl)) (fun _ _ _ h => h) (Or.inl ⟨by rfl, ?_⟩) hHeld ?_ ?_
  rotate_left
  ·rintro w' ⟨s0, s1⟩
   go_simp
   with_reducible rfl
  rotate_left
  ·simp only [Act.put, za0, za2, za3, i64_w, i32_w]
   rfl
  refine take_ (i := 7) (N := some 12) (v := ?_) (a' := ?_) #[true, true, true, true, true, true, true, true, true, false, false, false, false] rfl rfl (take_ofW HT_.out HW_.out (by kernel_rfl)) (fun _ _ _ h => h) (Or.inl ⟨by rfl, ?_⟩) hHeld ?_ ?_
  rotate_left
  ·rintro w' ⟨s0, s1⟩
   go_simp
   with_reducible rfl
  rotate_left
  ·simp only [Act.put, za0, za2, za3, i64_w, i32_w]
   rfl
  refine one_ (i := 9) (N := some 14) #[true, true, true, true, true, true, true, true, true, true, false, false, false] rfl rfl (one_of HT_.out (by kernel_rfl)) (by decide) (fun K hK => ?_)
  refine goes_ Try.func32 (by kernel_rfl) rfl #[.int .i64 a0_0, .slice A1 l1.length c1] (by rfl) rfl rfl (by (try simp only [za18, za26, za27]); first | done | rfl | (simp only [za20, za19]; rfl)) ?_
  with_reducible refine (spec_TagOf.calls k a0_0 _ _ l1 t371 _ ?side1 ?side2 A5.out).mono ?_
  (case side1 => repeat (first | exact (za30 HR1.out (by repeat (first | (with_reducible first | exact HB.out | apply za14 | apply za7 | apply za9 | refine za8 ?_ GE369.out) | exact HB.out))) | (with_reducible refine za24 ?_ _) | (with_reducible refine za22 ?_ _) | (with_reducible refine za23 ?_)))
  (case side2 => exact HC1.out)
  rintro e w8 ⟨rfl, hb⟩
  refine ⟨_, rfl, ?_⟩
  have n0_ := za1 (za17 (g := gb369) (o := .cells #[.int .i64 a0_0, .int .i64 a0_1] 46 (0, 0)) (by (with_reducible repeat (first | refine za11 ?_ _ | refine za12 ?_ | refine za13 ?_ _)); exact BK369.out) hb)
  have n1_ := za1 (za28 (by repeat (first | (with_reducible first | exact HB.out | apply za14 | apply za7 | apply za9 | refine za8 ?_ GE369.out) | exact HB.out)) hb)
  clear BK369
  clear HB
  have BK369 := n0_
  have HB := n1_
  clear n0_ n1_
  (try clear hb)
  (try clear hb2)
  (try clear hk)
  (try clear hi)
  refine hK.out _ _ ⟨(za15 BK369.out 0).trans rfl, (za15 BK369.out 1).trans rfl⟩ (fun hHeld => ?_)
  clear hK K
  refine norm_ (a' := ?_) ?_ ?_
  rotate_left
  ·show Act.put _ (some 14) _ = _
   simp only [Act.put, za0, za2, za3, i64_w, i32_w]
   rfl
  refine pure_ (i := 10) (N := some 15) (v := ?_) (a' := ?_) #[true, true, true, true, true, true, true, true, true, true, true, false, false] rfl rfl (za25 HT_.out (by kernel_rfl)) (fun _ _ _ h => h) (Or.inl ⟨by rfl, ?_⟩) ?_ ?_
  rotate_left
  ·intro w'
   go_simp
   with_reducible rfl
  rotate_left
  ·simp only [Act.put, za0, za2, za3, i64_w, i32_w]
   rfl
  refine pure_ (i := 11) (N := some 16) (v := ?_) (a' := ?_) #[true, true, true, true, true, true, true, true, true, true, true, true, false] rfl rfl (za25 HT_.out (by kernel_rfl)) (fun _ _ _ h => h) (Or.inl ⟨by rfl, ?_⟩) ?_ ?_
  rotate_left
  ·intro w'
   go_simp
   with_reducible rfl
  rotate_left
  ·simp only [Act.put, za0, za2, za3, i64_w, i32_w]
   rfl
  refine pure_ (i := 12) (N := some 4) (v := ?_) (a' := ?_) #[true, true, true, true, true, true, true, true, true, true, true, true, true] rfl rfl (za25 HT_.out (by kernel_rfl)) (fun _ _ _ h => h) (Or.inl ⟨by rfl, ?_⟩) ?_ ?_
  rotate_left
  ·intro w'
   go_simp
   with_reducible rfl
  rotate_left
  ·simp only [Act.put, za0, za2, za3, i64_w, i32_w]
   rfl
  refine done_ (done_of HT_.out (by kernel_rfl)) ?_
  try go_wp2
  go_ret
  exact ⟨by first | rfl | (simp [errW_none, errW_some] <;> rfl) | (simp [*, errW_none, errW_some] <;> rfl), by repeat (first | (with_reducible first | exact HB.out | apply za14 | apply za7 | apply za9 | refine za8 ?_ GE369.out) | exact HB.out)⟩
 ·replace c4 := Bool.eq_false_iff.mpr c4
  subst c4
  have H1 : (some false) = some r := by rw [if_neg (show ¬ (false = true) by decide)] at H; exact H
  clear H
  have H := H1
  clear H1
  obtain rfl := za37 H
  go_enter Try.func29, Try.ntmps29
  try go_wp2_with (first | ((with_reducible refine gate_dst (N := 2) rfl ?_); refine box_event ?hg (N := 2) ?hd (cs := #[.int .i64 a0_0, .int .i64 a0_1]) (t := 46) ?hr ?_; (case hd => rfl); (case hg => rfl); (case hr => first | (go_simp; done) | (go_simp; rfl)); intro gb369 hg w9 hbox hb; have n0_ := za1 (za28 (by repeat (first | (with_reducible first | exact HB.out | apply za14 | apply za7 | apply za9) | exact HB.out)) hb); have n1_ := za1 (hbox); have n2_ := za1 ((by rw [hg]; exact (za29 (by repeat (first | (with_reducible first | exact HB.out | apply za14 | apply za7 | apply za9) | exact HB.out))) : w.heap.size ≤ gb369)); have n3_ := za1 ((by rw [hg]; exact (za29 (by repeat (first | (with_reducible first | exact HB.out | apply za14 | apply za7 | apply za9) | exact HB.out))) : w.heap.size ≤ gb369)); clear HB; have HB := n0_; have BK369 := n1_; have GW369 := n2_; have GE369 := n3_; clear n0_ n1_ n2_ n3_; clear hb hbox hg))
  have n0_ := za1 (za12 BK369.out)
  have n1_ := za1 (za9 HB.out)
  clear BK369
  clear HB
  have BK369 := n0_
  have HB := n1_
  clear n0_ n1_
  refine start_ (n := 13) (S := fun w' => w'.cell? ⟨gb369, 0, none⟩ = some (.int .i64 a0_0) ∧ w'.cell? ⟨gb369, 1, none⟩ = some (.int .i64 a0_1)) (ds := []) #[false, false, false, false, false, false, false, false, false, false, false, false, false] (by kernel_rfl) rfl rfl ⟨(za15 BK369.out 0).trans rfl, (za15 BK369.out 1).trans rfl⟩ (fun hHeld => ?_); refine with_tabW spec_IsSigBy.tab1 spec_IsSigBy.bits1 (fun HT_ HW_ => ?_)
  generalize w9.drew = w10 at BK369 HB hHeld ⊢
  refine pure_ (i := 0) (N := some 5) (v := ?_) (a' := ?_) #[true, false, false, false, false, false, false, false, false, false, false, false, false] rfl rfl (za25 HT_.out (by kernel_rfl)) (fun _ _ _ h => h) (Or.inl ⟨by rfl, ?_⟩) ?_ ?_
  rotate_left
  ·intro w'
   go_simp
   with_reducible rfl
  rotate_left
  ·simp only [Act.put, za0, za2, za3, i64_w, i32_w]
   rfl
  refine take_ (i := 1) (N := some 6) (v := ?_) (a' := ?_) #[true, true, false, false, false, false, false, false, false, false, false, false, false] rfl rfl (take_ofW HT_.out HW_.out (by kernel_rfl)) (fun _ _ _ h => h) (Or.inl ⟨by rfl, ?_⟩) hHeld ?_ ?_
  rotate_left
  ·rintro w' ⟨s0, s1⟩
   go_simp
   with_reducible rfl
  rotate_left
  ·simp only [Act.put, za0, za2, za3, i64_w, i32_w]
   rfl
  refine one_ (i := 2) (N := some 7) #[true, true, true, false, false, false, false, false, false, false, false, false, false] rfl rfl (one_of HT_.out (by kernel_rfl)) (by decide) (fun K hK => ?_)
  refine goes_ Try.func61 (by kernel_rfl) rfl #[.int .i64 a0_0, .int .i64 1, .int .i64 99] (by rfl) rfl rfl (by (try simp only [za18, za26, za27]); first | done | rfl | (simp only [za20, za19]; rfl)) ?_
  with_reducible refine (spec_l1In.calls a0_0 1 99 false _ A3.out).mono ?_
  rintro e w' ⟨rfl, ⟨nd, rfl⟩⟩
  refine ⟨_, rfl, ?_⟩
  refine hK.out _ _ ⟨(za15 BK369.out 0).trans rfl, (za15 BK369.out 1).trans rfl⟩ (fun hHeld => ?_)
  clear hK K
  refine norm_ (a' := ?_) ?_ ?_
  rotate_left
  ·show Act.put _ (some 7) _ = _
   simp only [Act.put, za0, za2, za3, i64_w, i32_w]
   rfl
  refine pure_ (i := 3) (N := some 8) (v := ?_) (a' := ?_) #[true, true, true, true, false, false, false, false, false, false, false, false, false] rfl rfl (za25 HT_.out (by kernel_rfl)) (fun _ _ _ h => h) (Or.inl ⟨by rfl, ?_⟩) ?_ ?_
  rotate_left
  ·intro w'
   go_simp
   with_reducible rfl
  rotate_left
  ·simp only [Act.put, za0, za2, za3, i64_w, i32_w]
   rfl
  refine pure_ (i := 4) (N := some 9) (v := undef) (a' := ?_) #[true, true, true, true, true, false, false, false, false, false, false, false, false] rfl rfl (za25 HT_.out (by kernel_rfl)) (fun _ _ _ h => h) (Or.inr ⟨by rfl, rfl⟩) ?_ ?_
  rotate_left
  ·simp only [Act.put, za0, za2, za3, i64_w, i32_w]
   rfl
  refine pure_ (i := 5) (N := some 10) (v := undef) (a' := ?_) #[true, true, true, true, true, true, false, false, false, false, false, false, false] rfl rfl (za25 HT_.out (by kernel_rfl)) (fun _ _ _ h => h) (Or.inr ⟨by rfl, rfl⟩) ?_ ?_
  rotate_left
  ·simp only [Act.put, za0, za2, za3, i64_w, i32_w]
   rfl
  refine pure_ (i := 6) (N := some 11) (v := undef) (a' := ?_) #[true, true, true, true, true, true, true, false, false, false, false, false, false] rfl rfl (za25 HT_.out (by kernel_rfl)) (fun _ _ _ h => h) (Or.inr ⟨by rfl, rfl⟩) ?_ ?_
  rotate_left
  ·simp only [Act.put, za0, za2, za3, i64_w, i32_w]
   rfl
  refine pure_ (i := 7) (N := some 12) (v := undef) (a' := ?_) #[true, true, true, true, true, true, true, true, false, false, false, false, false] rfl rfl (za25 HT_.out (by kernel_rfl)) (fun _ _ _ h => h) (Or.inr ⟨by rfl, rfl⟩) ?_ ?_
  rotate_left
  ·simp only [Act.put, za0, za2, za3, i64_w, i32_w]
   rfl
  refine pure_ (i := 8) (N := some 13) (v := undef) (a' := ?_) #[true, true, true, true, true, true, true, true, true, false, false, false, false] rfl rfl (za25 HT_.out (by kernel_rfl)) (fun _ _ _ h => h) (Or.inr ⟨by rfl, rfl⟩) ?_ ?_
  rotate_left
  ·simp only [Act.put, za0, za2, za3, i64_w, i32_w]
   rfl
  refine pure_ (i := 9) (N := some 14) (v := undef) (a' := ?_) #[true, true, true, true, true, true, true, true, true, true, false, false, false] rfl rfl (za25 HT_.out (by kernel_rfl)) (fun _ _ _ h => h) (Or.inr ⟨by rfl, rfl⟩) ?_ ?_
  rotate_left
  ·simp only [Act.put, za0, za2, za3, i64_w, i32_w]
   rfl
  refine pure_ (i := 10) (N := some 15) (v := undef) (a' := ?_) #[true, true, true, true, true, true, true, true, true, true, true, false, false] rfl rfl (za25 HT_.out (by kernel_rfl)) (fun _ _ _ h => h) (Or.inr ⟨by rfl, rfl⟩) ?_ ?_
  rotate_left
  ·simp only [Act.put, za0, za2, za3, i64_w, i32_w]
   rfl
  refine pure_ (i := 11) (N := some 16) (v := ?_) (a' := ?_) #[true, true, true, true, true, true, true, true, true, true, true, true, false] rfl rfl (za25 HT_.out (by kernel_rfl)) (fun _ _ _ h => h) (Or.inl ⟨by rfl, ?_⟩) ?_ ?_
  rotate_left
  ·intro w'
   go_simp
   with_reducible rfl
  rotate_left
  ·simp only [Act.put, za0, za2, za3, i64_w, i32_w]
   rfl
  refine pure_ (i := 12) (N := some 4) (v := ?_) (a' := ?_) #[true, true, true, true, true, true, true, true, true, true, true, true, true] rfl rfl (za25 HT_.out (by kernel_rfl)) (fun _ _ _ h => h) (Or.inl ⟨by rfl, ?_⟩) ?_ ?_
  rotate_left
  ·intro w'
   go_simp
   with_reducible rfl
  rotate_left
  ·simp only [Act.put, za0, za2, za3, i64_w, i32_w]
   rfl
  refine done_ (done_of HT_.out (by kernel_rfl)) ?_
  try go_wp2
  go_ret
  exact ⟨by first | rfl | (simp [errW_none, errW_some] <;> rfl) | (simp [*, errW_none, errW_some] <;> rfl), by repeat (first | (with_reducible first | exact HB.out | apply za14 | apply za7 | apply za9 | refine za8 ?_ GE369.out) | exact HB.out)⟩

end Go.Proofs.Ytanogkaledgecaa.PFnThresholds
