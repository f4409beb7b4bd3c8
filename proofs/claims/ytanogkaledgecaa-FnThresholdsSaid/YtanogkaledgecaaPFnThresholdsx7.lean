/- The machine's side of a law: what its Go functions compute, as Lean functions, and the walks that show it; laid by this session's program (wip/tools) out of the translation. Conditions: those of each theorem. -/
import Derived.Test.YtanogkaledgecaaPFnThresholdsx0
import Derived.Test.YtanogkaledgecaaPFnThresholdsx1
import Derived.Test.YtanogkaledgecaaPFnThresholdsx6
namespace Go.Proofs.Ytanogkaledgecaa.PFnThresholds
open Go.RowKit Go.Proofs.YtanogkaledgecaaW.PrintWords Go.Proofs.YtanogkaledgecaaW.PrintLast Go.Proofs.YtanogkaledgecaaW.PrintMore
attribute [local go_sem] max2_int min2_int max_two min_two max_three min_three max_four min_four   -- for this text's walks alone
set_option linter.unusedVariables false
set_option linter.unusedSimpArgs false

/-! ### spec_l7Sigs: function 56 -/
def spec_l7Sigs.f (k : Nat) (s0_0 : List Int) (s0_1 : Int) (s0_2 : Int) (l1_0 : List Int) (a1_1 : Int) (l2 : List Int) : Option ((List (S46)) × Int × Int) := (spec_l6Held.f k s0_0 s0_1 s0_2).bind fun bt292 => ((spec_SignBy.f k bt292.1 l1_0 a1_1 l2).bind fun t297 => ((spec_l1Below.f s0_0 bt292.2.1 bt292.2.2 6).bind fun bt300 => (if bt300.1 = 0 then ((spec_l1Int.f s0_0 bt300.2.1 bt300.2.2 (([0, 1, 2, 100] : List Int))).bind fun bt306 => ((spec_l1Below.f s0_0 bt306.2.1 bt306.2.2 9).bind fun bt309 => (if t297.length < 8796093022208 then (some ((t297 ++ [(⟨bt306.1, bt309.1⟩ : S46)]), bt309.2.1, bt309.2.2)) else (none)))) else (if bt300.1 = 1 then (if t297.length + t297.length < 8796093022208 then (some ((t297 ++ t297), bt300.2.1, bt300.2.2)) else (none)) else (if bt300.1 = 2 then (if (t297.length : Int) > 0 then (if 0 < (t297.length : Int) then (some ((t297.set (0 : Int).toNat (⟨(rd_T46 t297 0).f0, wrap64 (((rd_T46 t297 0).f1) + 1)⟩ : S46)), bt300.2.1, bt300.2.2)) else (none)) else (some (t297, bt300.2.1, bt300.2.2))) else (some (t297, bt300.2.1, bt300.2.2)))))))
theorem spec_l7Sigs.mono : ∀ a0 a1 a2 a3 a4 a5 k, LeO (spec_l7Sigs.f k a0 a1 a2 a3 a4 a5) (spec_l7Sigs.f (k + 1) a0 a1 a2 a3 a4 a5) := by
  intro a0 a1 a2 a3 a4 a5 k
  unfold spec_l7Sigs.f
  repeat' first
      | (with_reducible exact spec_SignBy.mono _ _ _ _ _)
      | (with_reducible exact spec_l6Held.mono _ _ _ _)
      | (with_reducible exact LeO.refl _)
      | (with_reducible exact za34 _)
      | (with_reducible refine za33 ?_ ?_)
      | (with_reducible refine za32 ?_ (fun _ => ?_))
      | exact spec_SignBy.mono _ _ _ _ _
      | exact spec_l6Held.mono _ _ _ _
      | exact za34 _
      | refine za33 ?_ ?_
      | refine za32 ?_ (fun _ => ?_)
set_option maxHeartbeats 8000000 in
set_option maxRecDepth 100000 in
theorem spec_l7Sigs.calls (k : Nat) (g : Nat) (s0_0 : List Int) (s0_1 : Int) (s0_2 : Int) (A1_0 : Option Addr) (c1_0 : Nat) (l1_0 : List Int) (a1_1 : Int) (A2 : Option Addr) (c2 : Nat) (l2 : List Int) (r1 : List (S46)) (r2 : Int) (r3 : Int) (w0 w : World) (hI : IsS89 w0 w g s0_0 s0_1 s0_2) (hB : Below w0.heap.size w0 w) (hr1_0 : Kd.C (Kd.int .i64) w A1_0 l1_0.length l1_0) (hc1_0 : l1_0.length ≤ c1_0) (hf1_0 : ∀ ad, A1_0 = some ad → 0 < l1_0.length → ad.block ≠ g) (hr2 : Kd.C (Kd.int .i64) w A2 l2.length l2) (hc2 : l2.length ≤ c2) (hf2 : ∀ ad, A2 = some ad → 0 < l2.length → ad.block ≠ g) (h : spec_l7Sigs.f k s0_0 s0_1 s0_2 l1_0 a1_1 l2 = some (r1, r2, r3)) :
  Calls Try.prog 56 #[.pointer (some ⟨g, 0, none⟩), .agg #[.slice A1_0 l1_0.length c1_0, .int .i64 a1_1], .slice A2 l2.length c2] w fun e w' => ∃ v0_ : Value, e = .returned (v0_) ∧ Kd.R k46 46 w' w.heap.size (fun _ => True) v0_ r1 ∧ IsS89 w0 w' g s0_0 r2 r3 ∧ Below w0.heap.size w0 w' ∧ KeepBut w w' g none := by
 have hu37 := Try.underlying37
 have hu46 := Try.underlying46
 have HR1_0 := za1 hr1_0
 have HC1_0 := za1 hc1_0
 clear hr1_0 hc1_0
 have HR2 := za1 hr2
 have HC2 := za1 hc2
 clear hr2 hc2
 have HI0 := za1 hI
 have HK := za1 (KeepBut.refl w g none)
 have HL := za1 hB.size
 clear hI
 have HW0 := za1 hB.size
 have HB := za1 hB
 clear hB
 have H : ((spec_l6Held.f k s0_0 s0_1 s0_2).bind fun bt292 => ((spec_SignBy.f k bt292.1 l1_0 a1_1 l2).bind fun t297 => ((spec_l1Below.f s0_0 bt292.2.1 bt292.2.2 6).bind fun bt300 => (if bt300.1 = 0 then ((spec_l1Int.f s0_0 bt300.2.1 bt300.2.2 (([0, 1, 2, 100] : List Int))).bind fun bt306 => ((spec_l1Below.f s0_0 bt306.2.1 bt306.2.2 9).bind fun bt309 => (if t297.length < 8796093022208 then (some ((t297 ++ [(⟨bt306.1, bt309.1⟩ : S46)]), bt309.2.1, bt309.2.2)) else (none)))) else (if bt300.1 = 1 then (if t297.length + t297.length < 8796093022208 then (some ((t297 ++ t297), bt300.2.1, bt300.2.2)) else (none)) else (if bt300.1 = 2 then (if (t297.length : Int) > 0 then (if 0 < (t297.length : Int) then (some ((t297.set (0 : Int).toNat (⟨(rd_T46 t297 0).f0, wrap64 (((rd_T46 t297 0).f1) + 1)⟩ : S46)), bt300.2.1, bt300.2.2)) else (none)) else (some (t297, bt300.2.1, bt300.2.2))) else (some (t297, bt300.2.1, bt300.2.2)))))))) = some (r1, r2, r3) := h
 clear h
 replace H := za16.mp H
 obtain ⟨⟨t292, t295, t296⟩, A40, H⟩ := H
 replace H : ((spec_SignBy.f k t292 l1_0 a1_1 l2).bind fun t297 => ((spec_l1Below.f s0_0 t295 t296 6).bind fun bt300 => (if bt300.1 = 0 then ((spec_l1Int.f s0_0 bt300.2.1 bt300.2.2 (([0, 1, 2, 100] : List Int))).bind fun bt306 => ((spec_l1Below.f s0_0 bt306.2.1 bt306.2.2 9).bind fun bt309 => (if t297.length < 8796093022208 then (some ((t297 ++ [(⟨bt306.1, bt309.1⟩ : S46)]), bt309.2.1, bt309.2.2)) else (none)))) else (if bt300.1 = 1 then (if t297.length + t297.length < 8796093022208 then (some ((t297 ++ t297), bt300.2.1, bt300.2.2)) else (none)) else (if bt300.1 = 2 then (if (t297.length : Int) > 0 then (if 0 < (t297.length : Int) then (some ((t297.set (0 : Int).toNat (⟨(rd_T46 t297 0).f0, wrap64 (((rd_T46 t297 0).f1) + 1)⟩ : S46)), bt300.2.1, bt300.2.2)) else (none)) else (some (t297, bt300.2.1, bt300.2.2))) else (some (t297, bt300.2.1, bt300.2.2))))))) = some (r1, r2, r3) := H
 have A4 := za1 A40
 clear A40
 replace H := za16.mp H
 obtain ⟨t297, A50, H⟩ := H
 replace H : ((spec_l1Below.f s0_0 t295 t296 6).bind fun bt300 => (if bt300.1 = 0 then ((spec_l1Int.f s0_0 bt300.2.1 bt300.2.2 (([0, 1, 2, 100] : List Int))).bind fun bt306 => ((spec_l1Below.f s0_0 bt306.2.1 bt306.2.2 9).bind fun bt309 => (if t297.length < 8796093022208 then (some ((t297 ++ [(⟨bt306.1, bt309.1⟩ : S46)]), bt309.2.1, bt309.2.2)) else (none)))) else (if bt300.1 = 1 then (if t297.length + t297.length < 8796093022208 then (some ((t297 ++ t297), bt300.2.1, bt300.2.2)) else (none)) else (if bt300.1 = 2 then (if (t297.length : Int) > 0 then (if 0 < (t297.length : Int) then (some ((t297.set (0 : Int).toNat (⟨(rd_T46 t297 0).f0, wrap64 (((rd_T46 t297 0).f1) + 1)⟩ : S46)), bt300.2.1, bt300.2.2)) else (none)) else (some (t297, bt300.2.1, bt300.2.2))) else (some (t297, bt300.2.1, bt300.2.2)))))) = some (r1, r2, r3) := H
 have A5 := za1 A50
 clear A50
 replace H := za16.mp H
 obtain ⟨⟨t300, t301, t302⟩, A60, H⟩ := H
 replace H : (if t300 = 0 then ((spec_l1Int.f s0_0 t301 t302 (([0, 1, 2, 100] : List Int))).bind fun bt306 => ((spec_l1Below.f s0_0 bt306.2.1 bt306.2.2 9).bind fun bt309 => (if t297.length < 8796093022208 then (some ((t297 ++ [(⟨bt306.1, bt309.1⟩ : S46)]), bt309.2.1, bt309.2.2)) else (none)))) else (if t300 = 1 then (if t297.length + t297.length < 8796093022208 then (some ((t297 ++ t297), t301, t302)) else (none)) else (if t300 = 2 then (if (t297.length : Int) > 0 then (if 0 < (t297.length : Int) then (some ((t297.set (0 : Int).toNat (⟨(rd_T46 t297 0).f0, wrap64 (((rd_T46 t297 0).f1) + 1)⟩ : S46)), t301, t302)) else (none)) else (some (t297, t301, t302))) else (some (t297, t301, t302))))) = some (r1, r2, r3) := H
 have A6 := za1 A60
 clear A60
 by_cases c7 : t300 = 0
 ·rw [if_pos c7] at H
  have c7b0 : (t300 == 0) = true := beq_iff_eq.mpr c7
  have c7b1 : (t300 != 0) = false := bne_eq_false_iff_eq.mpr c7
  clear c7
  obtain ⟨y303, hy303⟩ : ∃ y_ : List Int, y_ = (([0, 1, 2, 100] : List Int)) := ⟨_, rfl⟩
  replace H : ((spec_l1Int.f s0_0 t301 t302 y303).bind fun bt306 => ((spec_l1Below.f s0_0 bt306.2.1 bt306.2.2 9).bind fun bt309 => (if t297.length < 8796093022208 then (some ((t297 ++ [(⟨bt306.1, bt309.1⟩ : S46)]), bt309.2.1, bt309.2.2)) else (none)))) = some (r1, r2, r3) := by first | (rw [hy303]; with_reducible exact H) | (have H2_ := (za36 _ _).symm.trans H; rw [hy303]; with_reducible exact H2_) | (have H2_ := (za36 _ _).symm.trans H; with_reducible exact H2_) | with_reducible exact H | (rw [hy303]; exact H) | exact H
  have Ny303 := za1 hy303
  clear hy303
  replace H := za16.mp H
  obtain ⟨⟨t306, t307, t308⟩, A80, H⟩ := H
  replace H : ((spec_l1Below.f s0_0 t307 t308 9).bind fun bt309 => (if t297.length < 8796093022208 then (some ((t297 ++ [(⟨t306, bt309.1⟩ : S46)]), bt309.2.1, bt309.2.2)) else (none))) = some (r1, r2, r3) := H
  have A8 := za1 A80
  clear A80
  replace H := za16.mp H
  obtain ⟨⟨t309, t310, t311⟩, A90, H⟩ := H
  replace H : (if t297.length < 8796093022208 then (some ((t297 ++ [(⟨t306, t309⟩ : S46)]), t310, t311)) else (none)) = some (r1, r2, r3) := H
  have A9 := za1 A90
  clear A90
  by_cases c10 : t297.length < 8796093022208
  ·rw [if_pos c10] at H
   have LMc10 := za1 c10
   clear c10
   obtain ⟨y312, hy312⟩ : ∃ y_ : List (S46), y_ = (t297 ++ [(⟨t306, t309⟩ : S46)]) := ⟨_, rfl⟩
   replace H : (some (y312, t310, t311)) = some (r1, r2, r3) := by first | (rw [hy312]; with_reducible exact H) | (have H2_ := (za36 _ _).symm.trans H; rw [hy312]; with_reducible exact H2_) | (have H2_ := (za36 _ _).symm.trans H; with_reducible exact H2_) | with_reducible exact H | (rw [hy312]; exact H) | exact H
   have Ny312 := za1 hy312
   clear hy312
   simp only [Option.some.injEq, Prod.mk.injEq] at H
   obtain ⟨rfl, rfl, rfl⟩ := H
   go_enter Try.func56, Try.ntmps56
   try go_wp2_with (first | ((with_reducible refine gate_dst (N := 4) rfl ?_); refine box_event ?hg (N := 4) ?hd (cs := #[.slice A1_0 l1_0.length c1_0, .int .i64 a1_1]) (t := 37) ?hr ?_; (case hd => rfl); (case hg => rfl); (case hr => first | (go_simp; done) | (go_simp; rfl)); intro gb291 hg w11 hbox hb; have n0_ := za1 (IsS89.below (by repeat (first | (with_reducible first | exact HI0.out | apply IsS89.alloc | apply IsS89.drewN | apply IsS89.drew | apply IsS89.set_1 | apply IsS89.set_2) | exact HI0.out)) hb); have n1_ := za1 (KeepBut.trans (by repeat (first | (with_reducible first | exact HK.out | apply KeepBut.set_ | apply keep_drewN | apply keep_drew | apply keep_alloc) | exact HK.out)) (KeepBut.of_below hb g none) (.inl rfl)); have n2_ := za1 (za28 (by repeat (first | (with_reducible first | exact HB.out | apply za14 | apply za7 | apply za9 | refine za8 ?_ (IsS89.ge HI0.out)) | exact HB.out)) hb); have n3_ := za1 (hbox); have n4_ := za1 ((by rw [hg]; exact (keep_size (w := w) (g := g) (row := none) (by repeat (first | (with_reducible first | exact HK.out | apply KeepBut.set_ | apply keep_drewN | apply keep_drew | apply keep_alloc) | exact HK.out))) : w.heap.size ≤ gb291)); have n5_ := za1 ((Nat.le_trans HW0.out (by rw [hg]; exact (keep_size (w := w) (g := g) (row := none) (by repeat (first | (with_reducible first | exact HK.out | apply KeepBut.set_ | apply keep_drewN | apply keep_drew | apply keep_alloc) | exact HK.out))) : w.heap.size ≤ gb291) : w0.heap.size ≤ gb291)); have n6_ := za1 ((by rw [hg]; exact Nat.ne_of_lt (IsS89.lt (show IsS89 w0 _ g s0_0 s0_1 s0_2 from by repeat (first | (with_reducible first | exact HI0.out | apply IsS89.alloc | apply IsS89.drewN | apply IsS89.drew | apply IsS89.set_1 | apply IsS89.set_2) | exact HI0.out))) : g ≠ gb291)); have n7_ := za1 ((by rw [hg]; exact Nat.ne_of_gt (IsS89.lt (show IsS89 w0 _ g s0_0 s0_1 s0_2 from by repeat (first | (with_reducible first | exact HI0.out | apply IsS89.alloc | apply IsS89.drewN | apply IsS89.drew | apply IsS89.set_1 | apply IsS89.set_2) | exact HI0.out))) : gb291 ≠ g)); clear HI0; clear HK; clear HB; have HI0 := n0_; have HK := n1_; have HB := n2_; have BK291 := n3_; have GW291 := n4_; have GE291 := n5_; have NB0_291 := n6_; have NB291_0 := n7_; clear n0_ n1_ n2_ n3_ n4_ n5_ n6_ n7_; clear hb hbox hg))
   have n0_ := za1 (za12 BK291.out)
   have n1_ := za1 (IsS89.drew HI0.out)
   have n2_ := za1 (keep_drew HK.out)
   have n3_ := za1 (za9 HB.out)
   clear BK291
   clear HI0
   clear HK
   clear HB
   have BK291 := n0_
   have HI0 := n1_
   have HK := n2_
   have HB := n3_
   clear n0_ n1_ n2_ n3_
   refine start_ (n := 6) (S := fun w' => w'.cell? ⟨gb291, 0, none⟩ = some (.slice A1_0 l1_0.length c1_0) ∧ w'.cell? ⟨gb291, 1, none⟩ = some (.int .i64 a1_1)) (ds := []) #[false, false, false, false, false, false] (by kernel_rfl) rfl rfl ⟨(za15 BK291.out 0).trans rfl, (za15 BK291.out 1).trans rfl⟩ (fun hHeld => ?_)
   generalize w11.drew = w12 at BK291 HI0 HK HB hHeld ⊢
   refine pure_ (i := 0) (N := some 8) (v := ?_) (a' := ?_) #[true, false, false, false, false, false] rfl rfl (by kernel_rfl) (fun _ _ _ h => h) (Or.inl ⟨by rfl, ?_⟩) ?_ ?_
   rotate_left
   ·intro w'
    go_simp
    with_reducible rfl
   rotate_left
   ·simp only [Act.put, za0, za2, za3, i64_w, i32_w]
    rfl
   refine pure_ (i := 3) (N := some 11) (v := ?_) (a' := ?_) #[true, false, false, true, false, false] rfl rfl (by kernel_rfl) (fun _ _ _ h => h) (Or.inl ⟨by rfl, ?_⟩) ?_ ?_
   rotate_left
   ·intro w'
    go_simp
    with_reducible rfl
   rotate_left
   ·simp only [Act.put, za0, za2, za3, i64_w, i32_w]
    rfl
   refine take_ (i := 2) (N := some 10) (v := ?_) (a' := ?_) #[true, false, true, true, false, false] rfl rfl (by kernel_rfl) (fun _ _ _ h => h) (Or.inl ⟨by rfl, ?_⟩) hHeld ?_ ?_
   rotate_left
   ·rintro w' ⟨s0, s1⟩
    go_simp
    with_reducible rfl
   rotate_left
   ·simp only [Act.put, za0, za2, za3, i64_w, i32_w]
    rfl
   refine one_ (i := 1) (N := some 9) #[true, true, true, true, false, false] rfl rfl (by kernel_rfl) (by decide) (fun K hK => ?_)
   refine goes_ Try.func49 (by kernel_rfl) rfl #[.pointer (some ⟨g, 0, none⟩)] (by rfl) rfl rfl (by (try simp only [za18, za26, za27]); first | done | rfl | (simp only [za20, za19]; rfl)) ?_
   with_reducible refine (spec_l6Held.calls k g s0_0 s0_1 s0_2 t292 t295 t296 w0 _ ?side1 ?side2 A4.out).mono ?_
   (case side1 => repeat (first | (with_reducible first | exact HI0.out | apply IsS89.alloc | apply IsS89.drewN | apply IsS89.drew | apply IsS89.set_1 | apply IsS89.set_2 | refine IsS89.far ?_ NB0_291.out _) | exact HI0.out))
   (case side2 => repeat (first | (with_reducible first | exact HB.out | apply za14 | apply za7 | apply za9 | refine za8 ?_ (IsS89.ge HI0.out) | refine za8 ?_ GE291.out) | exact HB.out))
   rintro e w13 ⟨v293, rfl, ho0, hi, hb, hk⟩
   refine ⟨_, rfl, ?_⟩
   have n0_ := za1 (KeepBut.blk hk (g' := gb291) (o := .cells #[.slice A1_0 l1_0.length c1_0, .int .i64 a1_1] 37 (0, 0)) (by (with_reducible repeat (first | refine za11 ?_ _ | refine za12 ?_ | refine za13 ?_ _)); exact BK291.out) NB291_0.out (by simp))
   have n1_ := za1 (za31 ho0 (keep_size (w := w) (g := g) (row := none) (by repeat (first | (with_reducible first | exact HK.out | apply KeepBut.set_ | apply keep_drewN | apply keep_drew | apply keep_alloc | refine keep_far ?_ GW291.out _) | exact HK.out))))
   have n2_ := za1 (KeepBut.trans (by repeat (first | (with_reducible first | exact HK.out | apply KeepBut.set_ | apply keep_drewN | apply keep_drew | apply keep_alloc | refine keep_far ?_ GW291.out _) | exact HK.out)) hk (.inl rfl))
   have n3_ := za1 (hb)
   have n4_ := za1 (hi)
   clear BK291
   clear HK
   clear HB
   clear HI0
   have BK291 := n0_
   have HO294 := n1_
   have HK := n2_
   have HB := n3_
   have HI0 := n4_
   clear n0_ n1_ n2_ n3_ n4_
   (try clear hb)
   (try clear hb2)
   (try clear hk)
   (try clear hi)
   (try clear ho0)
   obtain ⟨Ao14, co14, eo14⟩ := Kd.R_slice HO294.out
   (first | subst eo14 | (injection eo14 with f1_ f2_ f3_; have f4_ := f1_.symm; have f5_ := f3_.symm; clear f1_ f2_ f3_; subst f4_; subst f5_))
   refine hK.out _ _ ⟨(za15 BK291.out 0).trans rfl, (za15 BK291.out 1).trans rfl⟩ (fun hHeld => ?_)
   clear hK K
   refine norm_ (a' := ?_) ?_ ?_
   rotate_left
   ·show Act.put _ (some 9) _ = _
    simp only [Act.put, za0, za2, za3, i64_w, i32_w]
    rfl
   refine one_ (i := 4) (N := some 12) #[true, true, true, true, true, false] rfl rfl (by kernel_rfl) (by decide) (fun K hK => ?_)
   refine goes_ Try.func73 (by kernel_rfl) rfl #[.slice Ao14 t292.length co14, .agg #[.slice A1_0 l1_0.length c1_0, .int .i64 a1_1], .slice A2 l2.length c2] (by rfl) rfl rfl (by (try simp only [za18, za26, za27]); first | done | rfl | (simp only [za20, za19]; rfl)) ?_
   with_reducible refine (spec_SignBy.calls k _ _ t292 _ _ l1_0 a1_1 _ _ l2 t297 _ ?side1 ?side2 ?side3 ?side4 ?side5 ?side6 A5.out).mono ?_
   (case side1 => repeat (first | exact (za10 HO294.out).2.2 | (with_reducible refine za24 ?_ _) | (with_reducible refine za22 ?_ _) | (with_reducible refine za23 ?_)))
   (case side2 => exact (za10 HO294.out).2.1)
   (case side3 => exact Kd.C_keep 0 HR1_0.out (by repeat (first | (with_reducible first | exact HK.out | apply KeepBut.set_ | apply keep_drewN | apply keep_drew | apply keep_alloc | refine keep_far ?_ GW291.out _) | exact HK.out)) hf1_0)
   (case side4 => exact HC1_0.out)
   (case side5 => exact Kd.C_keep 0 HR2.out (by repeat (first | (with_reducible first | exact HK.out | apply KeepBut.set_ | apply keep_drewN | apply keep_drew | apply keep_alloc | refine keep_far ?_ GW291.out _) | exact HK.out)) hf2)
   (case side6 => exact HC2.out)
   rintro e w15 ⟨v298, rfl, ho0, hb⟩
   refine ⟨_, rfl, ?_⟩
   have n0_ := za1 (Kd.R_below (by (with_reducible repeat (first | apply za5 | apply za4 | apply za6)); exact HO294.out) hb)
   have n1_ := za1 (za31 ho0 (keep_size (w := w) (g := g) (row := none) (by repeat (first | (with_reducible first | exact HK.out | apply KeepBut.set_ | apply keep_drewN | apply keep_drew | apply keep_alloc | refine keep_far ?_ GW291.out _) | exact HK.out))))
   have n2_ := za1 (IsS89.below (by repeat (first | (with_reducible first | exact HI0.out | apply IsS89.alloc | apply IsS89.drewN | apply IsS89.drew | apply IsS89.set_1 | apply IsS89.set_2 | refine IsS89.far ?_ NB0_291.out _) | exact HI0.out)) hb)
   have n3_ := za1 (za17 (g := gb291) (o := .cells #[.slice A1_0 l1_0.length c1_0, .int .i64 a1_1] 37 (0, 0)) (by (with_reducible repeat (first | refine za11 ?_ _ | refine za12 ?_ | refine za13 ?_ _)); exact BK291.out) hb)
   have n4_ := za1 (KeepBut.trans (by repeat (first | (with_reducible first | exact HK.out | apply KeepBut.set_ | apply keep_drewN | apply keep_drew | apply keep_alloc | refine keep_far ?_ GW291.out _) | exact HK.out)) (KeepBut.of_below hb g none) (.inl rfl))
   have n5_ := za1 (za28 (by repeat (first | (with_reducible first | exact HB.out | apply za14 | apply za7 | apply za9 | refine za8 ?_ (IsS89.ge HI0.out) | refine za8 ?_ GE291.out) | exact HB.out)) hb)
   clear HO294
   clear HI0
   clear BK291
   clear HK
   clear HB
   have HO294 := n0_
   have HO299 := n1_
   have HI0 := n2_
   have BK291 := n3_
   have HK := n4_
   have HB := n5_
   clear n0_ n1_ n2_ n3_ n4_ n5_
   (try clear hb)
   (try clear hb2)
   (try clear hk)
   (try clear hi)
   (try clear ho0)
   refine hK.out _ _ ⟨(za15 BK291.out 0).trans rfl, (za15 BK291.out 1).trans rfl⟩ (fun hHeld => ?_)
   clear hK K
   refine norm_ (a' := ?_) ?_ ?_
   rotate_left
   ·show Act.put _ (some 12) _ = _
    simp only [Act.put, za0, za2, za3, i64_w, i32_w]
    rfl
   refine pure_ (i := 5) (N := some 7) (v := ?_) (a' := ?_) #[true, true, true, true, true, true] rfl rfl (by kernel_rfl) (fun _ _ _ h => h) (Or.inl ⟨by rfl, ?_⟩) ?_ ?_
   rotate_left
   ·intro w'
    go_simp
    with_reducible rfl
   rotate_left
   ·simp only [Act.put, za0, za2, za3, i64_w, i32_w]
    rfl
   refine done_ (by kernel_rfl) ?_
   try go_wp2_with (first | ((with_reducible refine gate_callee (f := 60) rfl ?_); refine goesL_ (some 14) rfl rfl Try.func60 (by kernel_rfl) rfl #[.pointer (some ⟨g, 0, none⟩), .int .i64 6] rfl (by (try simp only [za18, za26, za27]); first | done | rfl | (simp only [za20, za19]; rfl)) ?_; (with_reducible refine (spec_l1Below.calls g s0_0 t295 t296 6 t300 t301 t302 w0 _ ?side1 ?side2 A6.out).mono ?_); (case side1 => repeat (first | (with_reducible first | exact HI0.out | apply IsS89.alloc | apply IsS89.drewN | apply IsS89.drew | apply IsS89.set_1 | apply IsS89.set_2 | refine IsS89.far ?_ NB0_291.out _) | exact HI0.out)); (case side2 => repeat (first | (with_reducible first | exact HB.out | apply za14 | apply za7 | apply za9 | refine za8 ?_ (IsS89.ge HI0.out) | refine za8 ?_ GE291.out) | exact HB.out)); rintro e w16 ⟨rfl, hi, hb, hk⟩; refine ⟨_, rfl, ?_⟩; have n0_ := za1 (KeepBut.blk hk (g' := gb291) (o := .cells #[.slice A1_0 l1_0.length c1_0, .int .i64 a1_1] 37 (0, 0)) (by (with_reducible repeat (first | refine za11 ?_ _ | refine za12 ?_ | refine za13 ?_ _)); exact BK291.out) NB291_0.out (by simp)); have n1_ := za1 (za21 (Kd.R_keep (IsS89.apart (show IsS89 w0 _ g s0_0 t295 t296 from by repeat (first | (with_reducible first | exact HI0.out | apply IsS89.alloc | apply IsS89.drewN | apply IsS89.drew | apply IsS89.set_1 | apply IsS89.set_2 | refine IsS89.far ?_ NB0_291.out _) | exact HI0.out)) (by (with_reducible repeat (first | apply za5 | apply za4 | apply za6)); exact HO294.out) (by decide)) hk (fun _ h => h.2)) (fun _ h => h.1)); have n2_ := za1 (za21 (Kd.R_keep (IsS89.apart (show IsS89 w0 _ g s0_0 t295 t296 from by repeat (first | (with_reducible first | exact HI0.out | apply IsS89.alloc | apply IsS89.drewN | apply IsS89.drew | apply IsS89.set_1 | apply IsS89.set_2 | refine IsS89.far ?_ NB0_291.out _) | exact HI0.out)) (by (with_reducible repeat (first | apply za5 | apply za4 | apply za6)); exact HO299.out) (by decide)) hk (fun _ h => h.2)) (fun _ h => h.1)); have n3_ := za1 (KeepBut.trans (by repeat (first | (with_reducible first | exact HK.out | apply KeepBut.set_ | apply keep_drewN | apply keep_drew | apply keep_alloc | refine keep_far ?_ GW291.out _) | exact HK.out)) hk (.inl rfl)); have n4_ := za1 (hb); have n5_ := za1 (hi); clear BK291; clear HO294; clear HO299; clear HK; clear HB; clear HI0; have BK291 := n0_; have HO294 := n1_; have HO299 := n2_; have HK := n3_; have HB := n4_; have HI0 := n5_; clear n0_ n1_ n2_ n3_ n4_ n5_; (try clear hb); (try clear hb2); (try clear hk); (try clear hi)) | ((with_reducible refine gate_dst (N := 19) rfl ?_); refine Kd.R_lit (Kd.int .i64) _ 3 ?hg (N := 19) ?hd (xs := ([0, 1, 2, 100] : List Int)) (inner := [.int .i64 0, .int .i64 1, .int .i64 2, .int .i64 100]) (ok := fun _ => True) (okp := fun _ => True) ?hr ?hp (fun _ hk => hk) trivial (Below.refl _ _) (Nat.le_refl _) (by simp) ?_; (case hd => rfl); (case hg => rfl); (case hr => first | (go_simp; done) | (go_simp; rfl)); (case hp => exact (Reps.one (show Kd.M (Kd.int .i64) _ _ _ 0 [.int .i64 0] from rfl) (Reps.one (show Kd.M (Kd.int .i64) _ _ _ 1 [.int .i64 1] from rfl) (Reps.one (show Kd.M (Kd.int .i64) _ _ _ 2 [.int .i64 2] from rfl) (Reps.one (show Kd.M (Kd.int .i64) _ _ _ 100 [.int .i64 100] from rfl) (Reps.none _ _)))))); intro v304 w17 ho18 hb hg_ hnew_; clear hg_ hnew_; (first | rw [← Ny303.out] at ho18 | (simp only [Int.reduceToNat] at ho18; rw [← Ny303.out] at ho18)); have n0_ := za1 (Kd.R_elder' (by (with_reducible repeat (first | apply za5 | apply za4 | apply za6)); exact HO294.out) (Kd.R_base ho18) hb); have n1_ := za1 (Kd.R_below (by (with_reducible repeat (first | apply za5 | apply za4 | apply za6)); exact HO299.out) hb); have n2_ := za1 (za31 (Kd.R_new' ho18 (Kd.R_lt (by (with_reducible repeat (first | apply za5 | apply za4 | apply za6)); exact HO294.out))) (keep_size (w := w) (g := g) (row := none) (by repeat (first | (with_reducible first | exact HK.out | apply KeepBut.set_ | apply keep_drewN | apply keep_drew | apply keep_alloc | refine keep_far ?_ GW291.out _) | exact HK.out)))); have n3_ := za1 (IsS89.below (by repeat (first | (with_reducible first | exact HI0.out | apply IsS89.alloc | apply IsS89.drewN | apply IsS89.drew | apply IsS89.set_1 | apply IsS89.set_2 | refine IsS89.far ?_ NB0_291.out _) | exact HI0.out)) hb); have n4_ := za1 (za17 (g := gb291) (o := .cells #[.slice A1_0 l1_0.length c1_0, .int .i64 a1_1] 37 (0, 0)) (by (with_reducible repeat (first | refine za11 ?_ _ | refine za12 ?_ | refine za13 ?_ _)); exact BK291.out) hb); have n5_ := za1 (KeepBut.trans (by repeat (first | (with_reducible first | exact HK.out | apply KeepBut.set_ | apply keep_drewN | apply keep_drew | apply keep_alloc | refine keep_far ?_ GW291.out _) | exact HK.out)) (KeepBut.of_below hb g none) (.inl rfl)); have n6_ := za1 (za28 (by repeat (first | (with_reducible first | exact HB.out | apply za14 | apply za7 | apply za9 | refine za8 ?_ (IsS89.ge HI0.out) | refine za8 ?_ GE291.out) | exact HB.out)) hb); clear HO294; clear HO299; clear HI0; clear BK291; clear HK; clear HB; have HO294 := n0_; have HO299 := n1_; have HO305 := n2_; have HI0 := n3_; have BK291 := n4_; have HK := n5_; have HB := n6_; clear n0_ n1_ n2_ n3_ n4_ n5_ n6_; clear hb ho18; obtain ⟨Ao19, co19, eo19⟩ := Kd.R_slice HO305.out; subst eo19) | ((with_reducible refine gate_callee (f := 59) rfl ?_); refine goesL_ (some 20) rfl rfl Try.func59 (by kernel_rfl) rfl #[.pointer (some ⟨g, 0, none⟩), .slice Ao19 y303.length co19] rfl (by (try simp only [za18, za26, za27]); first | done | rfl | (simp only [za20, za19]; rfl)) ?_; (with_reducible refine (spec_l1Int.calls g s0_0 t301 t302 _ _ y303 t306 t307 t308 w0 _ ?side1 ?side2 ?side3 ?side4 ?side5 A8.out).mono ?_); (case side1 => repeat (first | (with_reducible first | exact HI0.out | apply IsS89.alloc | apply IsS89.drewN | apply IsS89.drew | apply IsS89.set_1 | apply IsS89.set_2 | refine IsS89.far ?_ NB0_291.out _) | exact HI0.out)); (case side2 => repeat (first | (with_reducible first | exact HB.out | apply za14 | apply za7 | apply za9 | refine za8 ?_ (IsS89.ge HI0.out) | refine za8 ?_ GE291.out) | exact HB.out)); (case side3 => repeat (first | exact (za10 HO305.out).2.2 | (with_reducible refine za24 ?_ _) | (with_reducible refine za22 ?_ _) | (with_reducible refine za23 ?_))); (case side4 => exact (za10 HO305.out).2.1); (case side5 => exact far_slice (IsS89.own_ne HI0.out HO305.out (by decide))); rintro e w20 ⟨rfl, hi, hb, hk⟩; refine ⟨_, rfl, ?_⟩; have n0_ := za1 (KeepBut.blk hk (g' := gb291) (o := .cells #[.slice A1_0 l1_0.length c1_0, .int .i64 a1_1] 37 (0, 0)) (by (with_reducible repeat (first | refine za11 ?_ _ | refine za12 ?_ | refine za13 ?_ _)); exact BK291.out) NB291_0.out (by simp)); have n1_ := za1 (za21 (Kd.R_keep (IsS89.apart (show IsS89 w0 _ g s0_0 t301 t302 from by repeat (first | (with_reducible first | exact HI0.out | apply IsS89.alloc | apply IsS89.drewN | apply IsS89.drew | apply IsS89.set_1 | apply IsS89.set_2 | refine IsS89.far ?_ NB0_291.out _) | exact HI0.out)) (by (with_reducible repeat (first | apply za5 | apply za4 | apply za6)); exact HO294.out) (by decide)) hk (fun _ h => h.2)) (fun _ h => h.1)); have n2_ := za1 (za21 (Kd.R_keep (IsS89.apart (show IsS89 w0 _ g s0_0 t301 t302 from by repeat (first | (with_reducible first | exact HI0.out | apply IsS89.alloc | apply IsS89.drewN | apply IsS89.drew | apply IsS89.set_1 | apply IsS89.set_2 | refine IsS89.far ?_ NB0_291.out _) | exact HI0.out)) (by (with_reducible repeat (first | apply za5 | apply za4 | apply za6)); exact HO299.out) (by decide)) hk (fun _ h => h.2)) (fun _ h => h.1)); have n3_ := za1 (za21 (Kd.R_keep (IsS89.apart (show IsS89 w0 _ g s0_0 t301 t302 from by repeat (first | (with_reducible first | exact HI0.out | apply IsS89.alloc | apply IsS89.drewN | apply IsS89.drew | apply IsS89.set_1 | apply IsS89.set_2 | refine IsS89.far ?_ NB0_291.out _) | exact HI0.out)) (by (with_reducible repeat (first | apply za5 | apply za4 | apply za6)); exact HO305.out) (by decide)) hk (fun _ h => h.2)) (fun _ h => h.1)); have n4_ := za1 (KeepBut.trans (by repeat (first | (with_reducible first | exact HK.out | apply KeepBut.set_ | apply keep_drewN | apply keep_drew | apply keep_alloc | refine keep_far ?_ GW291.out _) | exact HK.out)) hk (.inl rfl)); have n5_ := za1 (hb); have n6_ := za1 (hi); clear BK291; clear HO294; clear HO299; clear HO305; clear HK; clear HB; clear HI0; have BK291 := n0_; have HO294 := n1_; have HO299 := n2_; have HO305 := n3_; have HK := n4_; have HB := n5_; have HI0 := n6_; clear n0_ n1_ n2_ n3_ n4_ n5_ n6_; (try clear hb); (try clear hb2); (try clear hk); (try clear hi)) | ((with_reducible refine gate_callee (f := 60) rfl ?_); refine goesL_ (some 22) rfl rfl Try.func60 (by kernel_rfl) rfl #[.pointer (some ⟨g, 0, none⟩), .int .i64 9] rfl (by (try simp only [za18, za26, za27]); first | done | rfl | (simp only [za20, za19]; rfl)) ?_; (with_reducible refine (spec_l1Below.calls g s0_0 t307 t308 9 t309 t310 t311 w0 _ ?side1 ?side2 A9.out).mono ?_); (case side1 => repeat (first | (with_reducible first | exact HI0.out | apply IsS89.alloc | apply IsS89.drewN | apply IsS89.drew | apply IsS89.set_1 | apply IsS89.set_2 | refine IsS89.far ?_ NB0_291.out _) | exact HI0.out)); (case side2 => repeat (first | (with_reducible first | exact HB.out | apply za14 | apply za7 | apply za9 | refine za8 ?_ (IsS89.ge HI0.out) | refine za8 ?_ GE291.out) | exact HB.out)); rintro e w21 ⟨rfl, hi, hb, hk⟩; refine ⟨_, rfl, ?_⟩; have n0_ := za1 (KeepBut.blk hk (g' := gb291) (o := .cells #[.slice A1_0 l1_0.length c1_0, .int .i64 a1_1] 37 (0, 0)) (by (with_reducible repeat (first | refine za11 ?_ _ | refine za12 ?_ | refine za13 ?_ _)); exact BK291.out) NB291_0.out (by simp)); have n1_ := za1 (za21 (Kd.R_keep (IsS89.apart (show IsS89 w0 _ g s0_0 t307 t308 from by repeat (first | (with_reducible first | exact HI0.out | apply IsS89.alloc | apply IsS89.drewN | apply IsS89.drew | apply IsS89.set_1 | apply IsS89.set_2 | refine IsS89.far ?_ NB0_291.out _) | exact HI0.out)) (by (with_reducible repeat (first | apply za5 | apply za4 | apply za6)); exact HO294.out) (by decide)) hk (fun _ h => h.2)) (fun _ h => h.1)); have n2_ := za1 (za21 (Kd.R_keep (IsS89.apart (show IsS89 w0 _ g s0_0 t307 t308 from by repeat (first | (with_reducible first | exact HI0.out | apply IsS89.alloc | apply IsS89.drewN | apply IsS89.drew | apply IsS89.set_1 | apply IsS89.set_2 | refine IsS89.far ?_ NB0_291.out _) | exact HI0.out)) (by (with_reducible repeat (first | apply za5 | apply za4 | apply za6)); exact HO299.out) (by decide)) hk (fun _ h => h.2)) (fun _ h => h.1)); have n3_ := za1 (za21 (Kd.R_keep (IsS89.apart (show IsS89 w0 _ g s0_0 t307 t308 from by repeat (first | (with_reducible first | exact HI0.out | apply IsS89.alloc | apply IsS89.drewN | apply IsS89.drew | apply IsS89.set_1 | apply IsS89.set_2 | refine IsS89.far ?_ NB0_291.out _) | exact HI0.out)) (by (with_reducible repeat (first | apply za5 | apply za4 | apply za6)); exact HO305.out) (by decide)) hk (fun _ h => h.2)) (fun _ h => h.1)); have n4_ := za1 (KeepBut.trans (by repeat (first | (with_reducible first | exact HK.out | apply KeepBut.set_ | apply keep_drewN | apply keep_drew | apply keep_alloc | refine keep_far ?_ GW291.out _) | exact HK.out)) hk (.inl rfl)); have n5_ := za1 (hb); have n6_ := za1 (hi); clear BK291; clear HO294; clear HO299; clear HO305; clear HK; clear HB; clear HI0; have BK291 := n0_; have HO294 := n1_; have HO299 := n2_; have HO305 := n3_; have HK := n4_; have HB := n5_; have HI0 := n6_; clear n0_ n1_ n2_ n3_ n4_ n5_ n6_; (try clear hb); (try clear hb2); (try clear hk); (try clear hi)) | ((with_reducible refine gate_builtin (b := .append) (xs := #[.tmp 17, .tmp 24]) rfl ?_); at_builtin; refine Kd.R_append k46 w.heap.size rfl (.tmp 17) (.tmp 24) 27 46 (.agg #[(.int .i64 0), (.int .i64 0)]) 16 rfl Try.underlying27 info46 rfl (by decide) (by omega) v298 t297 (⟨t306, t309⟩ : S46) [.int .i64 t306, .int .i64 t309] (fun _ => True) (fun _ => False) rfl rfl ?aP (fun _ hk => hk.elim) ?aF ?aO (Below.refl _ _) ?aS ?aL ?_; (case aP => exact k46_mkM _ _ _ (⟨t306, t309⟩ : S46)); (case aF => exact (fun _ _ => trivial)); (case aO => exact (by (with_reducible repeat (first | apply za5 | apply za4 | apply za6)); exact HO299.out)); (case aS => exact (keep_size (w := w) (g := g) (row := none) (by repeat (first | (with_reducible first | exact HK.out | apply KeepBut.set_ | apply keep_drewN | apply keep_drew | apply keep_alloc | refine keep_far ?_ GW291.out _) | exact HK.out)))); (case aL => have := LMc10.out; omega); intro v313 w22 ho hb hg hat; rw [← Ny312.out] at ho; have n0_ := za1 (IsS89.grown (by repeat (first | (with_reducible first | exact HI0.out | apply IsS89.alloc | apply IsS89.drewN | apply IsS89.drew | apply IsS89.set_1 | apply IsS89.set_2 | refine IsS89.far ?_ NB0_291.out _) | exact HI0.out)) hg (IsS89.own_ne HI0.out HO299.out (by decide))); have n1_ := za1 (blk_grown (g := gb291) (o := .cells #[.slice A1_0 l1_0.length c1_0, .int .i64 a1_1] 37 (0, 0)) (by (with_reducible repeat (first | refine za11 ?_ _ | refine za12 ?_ | refine za13 ?_ _)); exact BK291.out) hg (Kd.R_ne HO299.out BK291.out (by decide))); have n2_ := za1 (Kd.R_over' (by (with_reducible repeat (first | apply za5 | apply za4 | apply za6)); exact HO294.out) (Kd.R_typed (by (with_reducible repeat (first | apply za5 | apply za4 | apply za6)); exact HO299.out)) (by decide) hg); have n3_ := za1 (Kd.R_over' (by (with_reducible repeat (first | apply za5 | apply za4 | apply za6)); exact HO305.out) (Kd.R_typed (by (with_reducible repeat (first | apply za5 | apply za4 | apply za6)); exact HO299.out)) (by decide) hg); have n4_ := za1 (below_weaken (by repeat (first | (with_reducible first | exact HB.out | apply za14 | apply za7 | apply za9 | refine za8 ?_ (IsS89.ge HI0.out) | refine za8 ?_ GE291.out) | exact HB.out)) HL.out hb); have n5_ := za1 (KeepBut.trans (by repeat (first | (with_reducible first | exact HK.out | apply KeepBut.set_ | apply keep_drewN | apply keep_drew | apply keep_alloc | refine keep_far ?_ GW291.out _) | exact HK.out)) (KeepBut.of_grown hg g) (Kd.R_base2 HO299.out)); have n6_ := za1 (ho); clear HI0; clear BK291; clear HO294; clear HO305; clear HB; clear HK; clear HO299; have HI0 := n0_; have BK291 := n1_; have HO294 := n2_; have HO305 := n3_; have HB := n4_; have HK := n5_; have HO314 := n6_; clear n0_ n1_ n2_ n3_ n4_ n5_ n6_; clear ho hb hg hat))
   go_ret
   exact ⟨_, by first | rfl | (simp [errW_none, errW_some] <;> rfl) | (simp [*, errW_none, errW_some] <;> rfl), by (with_reducible repeat (first | apply za5 | apply za4 | apply za6)); exact HO314.out, by repeat (first | (with_reducible first | exact HI0.out | apply IsS89.alloc | apply IsS89.drewN | apply IsS89.drew | apply IsS89.set_1 | apply IsS89.set_2 | refine IsS89.far ?_ NB0_291.out _) | exact HI0.out), by repeat (first | (with_reducible first | exact HB.out | apply za14 | apply za7 | apply za9 | refine za8 ?_ (IsS89.ge HI0.out) | refine za8 ?_ GE291.out) | exact HB.out), by repeat (first | (with_reducible first | exact HK.out | apply KeepBut.set_ | apply keep_drewN | apply keep_drew | apply keep_alloc | refine keep_far ?_ GW291.out _) | exact HK.out)⟩
  ·rw [if_neg c10] at H
   exact absurd H (by simp)
 ·rw [if_neg c7] at H
  have c7b0 : (t300 == 0) = false := beq_eq_false_iff_ne.mpr c7
  have c7b1 : (t300 != 0) = true := bne_iff_ne.mpr c7
  by_cases c23 : t300 = 1
  ·rw [if_pos c23] at H
   have c23b0 : (t300 == 1) = true := beq_iff_eq.mpr c23
   have c23b1 : (t300 != 1) = false := bne_eq_false_iff_eq.mpr c23
   clear c23
   by_cases c24 : t297.length + t297.length < 8796093022208
   ·rw [if_pos c24] at H
    have LMc24 := za1 c24
    clear c24
    obtain ⟨y315, hy315⟩ : ∃ y_ : List (S46), y_ = (t297 ++ t297) := ⟨_, rfl⟩
    replace H : (some (y315, t301, t302)) = some (r1, r2, r3) := by first | (rw [hy315]; with_reducible exact H) | (have H2_ := (za36 _ _).symm.trans H; rw [hy315]; with_reducible exact H2_) | (have H2_ := (za36 _ _).symm.trans H; with_reducible exact H2_) | with_reducible exact H | (rw [hy315]; exact H) | exact H
    have Ny315 := za1 hy315
    clear hy315
    simp only [Option.some.injEq, Prod.mk.injEq] at H
    obtain ⟨rfl, rfl, rfl⟩ := H
    go_enter Try.func56, Try.ntmps56
    try go_wp2_with (first | ((with_reducible refine gate_dst (N := 4) rfl ?_); refine box_event ?hg (N := 4) ?hd (cs := #[.slice A1_0 l1_0.length c1_0, .int .i64 a1_1]) (t := 37) ?hr ?_; (case hd => rfl); (case hg => rfl); (case hr => first | (go_simp; done) | (go_simp; rfl)); intro gb291 hg w25 hbox hb; have n0_ := za1 (IsS89.below (by repeat (first | (with_reducible first | exact HI0.out | apply IsS89.alloc | apply IsS89.drewN | apply IsS89.drew | apply IsS89.set_1 | apply IsS89.set_2) | exact HI0.out)) hb); have n1_ := za1 (KeepBut.trans (by repeat (first | (with_reducible first | exact HK.out | apply KeepBut.set_ | apply keep_drewN | apply keep_drew | apply keep_alloc) | exact HK.out)) (KeepBut.of_below hb g none) (.inl rfl)); have n2_ := za1 (za28 (by repeat (first | (with_reducible first | exact HB.out | apply za14 | apply za7 | apply za9 | refine za8 ?_ (IsS89.ge HI0.out)) | exact HB.out)) hb); have n3_ := za1 (hbox); have n4_ := za1 ((by rw [hg]; exact (keep_size (w := w) (g := g) (row := none) (by repeat (first | (with_reducible first | exact HK.out | apply KeepBut.set_ | apply keep_drewN | apply keep_drew | apply keep_alloc) | exact HK.out))) : w.heap.size ≤ gb291)); have n5_ := za1 ((Nat.le_trans HW0.out (by rw [hg]; exact (keep_size (w := w) (g := g) (row := none) (by repeat (first | (with_reducible first | exact HK.out | apply KeepBut.set_ | apply keep_drewN | apply keep_drew | apply keep_alloc) | exact HK.out))) : w.heap.size ≤ gb291) : w0.heap.size ≤ gb291)); have n6_ := za1 ((by rw [hg]; exact Nat.ne_of_lt (IsS89.lt (show IsS89 w0 _ g s0_0 s0_1 s0_2 from by repeat (first | (with_reducible first | exact HI0.out | apply IsS89.alloc | apply IsS89.drewN | apply IsS89.drew | apply IsS89.set_1 | apply IsS89.set_2) | exact HI0.out))) : g ≠ gb291)); have n7_ := za1 ((by rw [hg]; exact Nat.ne_of_gt (IsS89.lt (show IsS89 w0 _ g s0_0 s0_1 s0_2 from by repeat (first | (with_reducible first | exact HI0.out | apply IsS89.alloc | apply IsS89.drewN | apply IsS89.drew | apply IsS89.set_1 | apply IsS89.set_2) | exact HI0.out))) : gb291 ≠ g)); clear HI0; clear HK; clear HB; have HI0 := n0_; have HK := n1_; have HB := n2_; have BK291 := n3_; have GW291 := n4_; have GE291 := n5_; have NB0_291 := n6_; have NB291_0 := n7_; clear n0_ n1_ n2_ n3_ n4_ n5_ n6_ n7_; clear hb hbox hg))
    have n0_ := za1 (za12 BK291.out)
    have n1_ := za1 (IsS89.drew HI0.out)
    have n2_ := za1 (keep_drew HK.out)
    have n3_ := za1 (za9 HB.out)
    clear BK291
    clear HI0
    clear HK
    clear HB
    have BK291 := n0_
    have HI0 := n1_
    have HK := n2_
    have HB := n3_
    clear n0_ n1_ n2_ n3_
    refine start_ (n := 6) (S := fun w' => w'.cell? ⟨gb291, 0, none⟩ = some (.slice A1_0 l1_0.length c1_0) ∧ w'.cell? ⟨gb291, 1, none⟩ = some (.int .i64 a1_1)) (ds := []) #[false, false, false, false, false, false] (by kernel_rfl) rfl rfl ⟨(za15 BK291.out 0).trans rfl, (za15 BK291.out 1).trans rfl⟩ (fun hHeld => ?_)
    generalize w25.drew = w26 at BK291 HI0 HK HB hHeld ⊢
    refine pure_ (i := 0) (N := some 8) (v := ?_) (a' := ?_) #[true, false, false, false, false, false] rfl rfl (by kernel_rfl) (fun _ _ _ h => h) (Or.inl ⟨by rfl, ?_⟩) ?_ ?_
    rotate_left
    ·intro w'
     go_simp
     with_reducible rfl
    rotate_left
    ·simp only [Act.put, za0, za2, za3, i64_w, i32_w]
     rfl
    refine pure_ (i := 3) (N := some 11) (v := ?_) (a' := ?_) #[true, false, false, true, false, false] rfl rfl (by kernel_rfl) (fun _ _ _ h => h) (Or.inl ⟨by rfl, ?_⟩) ?_ ?_
    rotate_left
    ·intro w'
     go_simp
     with_reducible rfl
    rotate_left
    ·simp only [Act.put, za0, za2, za3, i64_w, i32_w]
     rfl
    refine take_ (i := 2) (N := some 10) (v := ?_) (a' := ?_) #[true, false, true, true, false, false] rfl rfl (by kernel_rfl) (fun _ _ _ h => h) (Or.inl ⟨by rfl, ?_⟩) hHeld ?_ ?_
    rotate_left
    ·rintro w' ⟨s0, s1⟩
     go_simp
     with_reducible rfl
    rotate_left
    ·simp only [Act.put, za0, za2, za3, i64_w, i32_w]
     rfl
    refine one_ (i := 1) (N := some 9) #[true, true, true, true, false, false] rfl rfl (by kernel_rfl) (by decide) (fun K hK => ?_)
    refine goes_ Try.func49 (by kernel_rfl) rfl #[.pointer (some ⟨g, 0, none⟩)] (by rfl) rfl rfl (by (try simp only [za18, za26, za27]); first | done | rfl | (simp only [za20, za19]; rfl)) ?_
    with_reducible refine (spec_l6Held.calls k g s0_0 s0_1 s0_2 t292 t295 t296 w0 _ ?side1 ?side2 A4.out).mono ?_
    (case side1 => repeat (first | (with_reducible first | exact HI0.out | apply IsS89.alloc | apply IsS89.drewN | apply IsS89.drew | apply IsS89.set_1 | apply IsS89.set_2 | refine IsS89.far ?_ NB0_291.out _) | exact HI0.out))
    (case side2 => repeat (first | (with_reducible first | exact HB.out | apply za14 | apply za7 | apply za9 | refine za8 ?_ (IsS89.ge HI0.out) | refine za8 ?_ GE291.out) | exact HB.out))
    rintro e w27 ⟨v293, rfl, ho0, hi, hb, hk⟩
    refine ⟨_, rfl, ?_⟩
    have n0_ := za1 (KeepBut.blk hk (g' := gb291) (o := .cells #[.slice A1_0 l1_0.length c1_0, .int .i64 a1_1] 37 (0, 0)) (by (with_reducible repeat (first | refine za11 ?_ _ | refine za12 ?_ | refine za13 ?_ _)); exact BK291.out) NB291_0.out (by simp))
    have n1_ := za1 (za31 ho0 (keep_size (w := w) (g := g) (row := none) (by repeat (first | (with_reducible first | exact HK.out | apply KeepBut.set_ | apply keep_drewN | apply keep_drew | apply keep_alloc | refine keep_far ?_ GW291.out _) | exact HK.out))))
    have n2_ := za1 (KeepBut.trans (by repeat (first | (with_reducible first | exact HK.out | apply KeepBut.set_ | apply keep_drewN | apply keep_drew | apply keep_alloc | refine keep_far ?_ GW291.out _) | exact HK.out)) hk (.inl rfl))
    have n3_ := za1 (hb)
    have n4_ := za1 (hi)
    clear BK291
    clear HK
    clear HB
    clear HI0
    have BK291 := n0_
    have HO294 := n1_
    have HK := n2_
    have HB := n3_
    have HI0 := n4_
    clear n0_ n1_ n2_ n3_ n4_
    (try clear hb)
    (try clear hb2)
    (try clear hk)
    (try clear hi)
    (try clear ho0)
    obtain ⟨Ao28, co28, eo28⟩ := Kd.R_slice HO294.out
    (first | subst eo28 | (injection eo28 with f1_ f2_ f3_; have f4_ := f1_.symm; have f5_ := f3_.symm; clear f1_ f2_ f3_; subst f4_; subst f5_))
    refine hK.out _ _ ⟨(za15 BK291.out 0).trans rfl, (za15 BK291.out 1).trans rfl⟩ (fun hHeld => ?_)
    clear hK K
    refine norm_ (a' := ?_) ?_ ?_
    rotate_left
    ·show Act.put _ (some 9) _ = _
     simp only [Act.put, za0, za2, za3, i64_w, i32_w]
     rfl
    refine one_ (i := 4) (N := some 12) #[true, true, true, true, true, false] rfl rfl (by kernel_rfl) (by decide) (fun K hK => ?_)
    refine goes_ Try.func73 (by kernel_rfl) rfl #[.slice Ao28 t292.length co28, .agg #[.slice A1_0 l1_0.length c1_0, .int .i64 a1_1], .slice A2 l2.length c2] (by rfl) rfl rfl (by (try simp only [za18, za26, za27]); first | done | rfl | (simp only [za20, za19]; rfl)) ?_
    with_reducible refine (spec_SignBy.calls k _ _ t292 _ _ l1_0 a1_1 _ _ l2 t297 _ ?side1 ?side2 ?side3 ?side4 ?side5 ?side6 A5.out).mono ?_
    (case side1 => repeat (first | exact (za10 HO294.out).2.2 | (with_reducible refine za24 ?_ _) | (with_reducible refine za22 ?_ _) | (with_reducible refine za23 ?_)))
    (case side2 => exact (za10 HO294.out).2.1)
    (case side3 => exact Kd.C_keep 0 HR1_0.out (by repeat (first | (with_reducible first | exact HK.out | apply KeepBut.set_ | apply keep_drewN | apply keep_drew | apply keep_alloc | refine keep_far ?_ GW291.out _) | exact HK.out)) hf1_0)
    (case side4 => exact HC1_0.out)
    (case side5 => exact Kd.C_keep 0 HR2.out (by repeat (first | (with_reducible first | exact HK.out | apply KeepBut.set_ | apply keep_drewN | apply keep_drew | apply keep_alloc | refine keep_far ?_ GW291.out _) | exact HK.out)) hf2)
    (case side6 => exact HC2.out)
    rintro e w29 ⟨v298, rfl, ho0, hb⟩
    refine ⟨_, rfl, ?_⟩
    have n0_ := za1 (Kd.R_below (by (with_reducible repeat (first | apply za5 | apply za4 | apply za6)); exact HO294.out) hb)
    have n1_ := za1 (za31 ho0 (keep_size (w := w) (g := g) (row := none) (by repeat (first | (with_reducible first | exact HK.out | apply KeepBut.set_ | apply keep_drewN | apply keep_drew | apply keep_alloc | refine keep_far ?_ GW291.out _) | exact HK.out))))
    have n2_ := za1 (IsS89.below (by repeat (first | (with_reducible first | exact HI0.out | apply IsS89.alloc | apply IsS89.drewN | apply IsS89.drew | apply IsS89.set_1 | apply IsS89.set_2 | refine IsS89.far ?_ NB0_291.out _) | exact HI0.out)) hb)
    have n3_ := za1 (za17 (g := gb291) (o := .cells #[.slice A1_0 l1_0.length c1_0, .int .i64 a1_1] 37 (0, 0)) (by (with_reducible repeat (first | refine za11 ?_ _ | refine za12 ?_ | refine za13 ?_ _)); exact BK291.out) hb)
    have n4_ := za1 (KeepBut.trans (by repeat (first | (with_reducible first | exact HK.out | apply KeepBut.set_ | apply keep_drewN | apply keep_drew | apply keep_alloc | refine keep_far ?_ GW291.out _) | exact HK.out)) (KeepBut.of_below hb g none) (.inl rfl))
    have n5_ := za1 (za28 (by repeat (first | (with_reducible first | exact HB.out | apply za14 | apply za7 | apply za9 | refine za8 ?_ (IsS89.ge HI0.out) | refine za8 ?_ GE291.out) | exact HB.out)) hb)
    clear HO294
    clear HI0
    clear BK291
    clear HK
    clear HB
    have HO294 := n0_
    have HO299 := n1_
    have HI0 := n2_
    have BK291 := n3_
    have HK := n4_
    have HB := n5_
    clear n0_ n1_ n2_ n3_ n4_ n5_
    (try clear hb)
    (try clear hb2)
    (try clear hk)
    (try clear hi)
    (try clear ho0)
    refine hK.out _ _ ⟨(za15 BK291.out 0).trans rfl, (za15 BK291.out 1).trans rfl⟩ (fun hHeld => ?_)
    clear hK K
    refine norm_ (a' := ?_) ?_ ?_
    rotate_left
    ·show Act.put _ (some 12) _ = _
     simp only [Act.put, za0, za2, za3, i64_w, i32_w]
     rfl
    refine pure_ (i := 5) (N := some 7) (v := ?_) (a' := ?_) #[true, true, true, true, true, true] rfl rfl (by kernel_rfl) (fun _ _ _ h => h) (Or.inl ⟨by rfl, ?_⟩) ?_ ?_
    rotate_left
    ·intro w'
     go_simp
     with_reducible rfl
    rotate_left
    ·simp only [Act.put, za0, za2, za3, i64_w, i32_w]
     rfl
    refine done_ (by kernel_rfl) ?_
    try go_wp2_with (first | ((with_reducible refine gate_callee (f := 60) rfl ?_); refine goesL_ (some 14) rfl rfl Try.func60 (by kernel_rfl) rfl #[.pointer (some ⟨g, 0, none⟩), .int .i64 6] rfl (by (try simp only [za18, za26, za27]); first | done | rfl | (simp only [za20, za19]; rfl)) ?_; (with_reducible refine (spec_l1Below.calls g s0_0 t295 t296 6 t300 t301 t302 w0 _ ?side1 ?side2 A6.out).mono ?_); (case side1 => repeat (first | (with_reducible first | exact HI0.out | apply IsS89.alloc | apply IsS89.drewN | apply IsS89.drew | apply IsS89.set_1 | apply IsS89.set_2 | refine IsS89.far ?_ NB0_291.out _) | exact HI0.out)); (case side2 => repeat (first | (with_reducible first | exact HB.out | apply za14 | apply za7 | apply za9 | refine za8 ?_ (IsS89.ge HI0.out) | refine za8 ?_ GE291.out) | exact HB.out)); rintro e w30 ⟨rfl, hi, hb, hk⟩; refine ⟨_, rfl, ?_⟩; have n0_ := za1 (KeepBut.blk hk (g' := gb291) (o := .cells #[.slice A1_0 l1_0.length c1_0, .int .i64 a1_1] 37 (0, 0)) (by (with_reducible repeat (first | refine za11 ?_ _ | refine za12 ?_ | refine za13 ?_ _)); exact BK291.out) NB291_0.out (by simp)); have n1_ := za1 (za21 (Kd.R_keep (IsS89.apart (show IsS89 w0 _ g s0_0 t295 t296 from by repeat (first | (with_reducible first | exact HI0.out | apply IsS89.alloc | apply IsS89.drewN | apply IsS89.drew | apply IsS89.set_1 | apply IsS89.set_2 | refine IsS89.far ?_ NB0_291.out _) | exact HI0.out)) (by (with_reducible repeat (first | apply za5 | apply za4 | apply za6)); exact HO294.out) (by decide)) hk (fun _ h => h.2)) (fun _ h => h.1)); have n2_ := za1 (za21 (Kd.R_keep (IsS89.apart (show IsS89 w0 _ g s0_0 t295 t296 from by repeat (first | (with_reducible first | exact HI0.out | apply IsS89.alloc | apply IsS89.drewN | apply IsS89.drew | apply IsS89.set_1 | apply IsS89.set_2 | refine IsS89.far ?_ NB0_291.out _) | exact HI0.out)) (by (with_reducible repeat (first | apply za5 | apply za4 | apply za6)); exact HO299.out) (by decide)) hk (fun _ h => h.2)) (fun _ h => h.1)); have n3_ := za1 (KeepBut.trans (by repeat (first | (with_reducible first | exact HK.out | apply KeepBut.set_ | apply keep_drewN | apply keep_drew | apply keep_alloc | refine keep_far ?_ GW291.out _) | exact HK.out)) hk (.inl rfl)); have n4_ := za1 (hb); have n5_ := za1 (hi); clear BK291; clear HO294; clear HO299; clear HK; clear HB; clear HI0; have BK291 := n0_; have HO294 := n1_; have HO299 := n2_; have HK := n3_; have HB := n4_; have HI0 := n5_; clear n0_ n1_ n2_ n3_ n4_ n5_; (try clear hb); (try clear hb2); (try clear hk); (try clear hi); obtain ⟨Ao32, co32, eo32⟩ := Kd.R_slice HO299.out; subst eo32) | ((with_reducible refine gate_builtin (b := .append) (xs := #[.tmp 28, .tmp 29]) rfl ?_); at_builtin; refine Kd.R_append_rows k46 w.heap.size rfl (.tmp 28) (.tmp 29) 27 46 (.agg #[(.int .i64 0), (.int .i64 0)]) 16 rfl Try.underlying27 info46 rfl (by decide) (by omega) (.slice Ao32 t297.length co32) t297 t297 _ _ _ (fun _ => True) (fun _ => False) rfl rfl ?aO ?aR (fun _ _ h => h) (fun _ h => h.elim) ?aF (Below.refl _ _) ?aS ?aL ?_; (case aR => repeat (first | exact (za10 HO299.out).2.2 | (with_reducible refine za24 ?_ _) | (with_reducible refine za22 ?_ _) | (with_reducible refine za23 ?_))); (case aF => exact (fun _ _ => trivial)); (case aO => exact (by (with_reducible repeat (first | apply za5 | apply za4 | apply za6)); exact HO299.out)); (case aS => exact (keep_size (w := w) (g := g) (row := none) (by repeat (first | (with_reducible first | exact HK.out | apply KeepBut.set_ | apply keep_drewN | apply keep_drew | apply keep_alloc | refine keep_far ?_ GW291.out _) | exact HK.out)))); (case aL => have := LMc24.out; omega); intro v316 w31 ho hb hg hat; rw [← Ny315.out] at ho; have n0_ := za1 (IsS89.grown (by repeat (first | (with_reducible first | exact HI0.out | apply IsS89.alloc | apply IsS89.drewN | apply IsS89.drew | apply IsS89.set_1 | apply IsS89.set_2 | refine IsS89.far ?_ NB0_291.out _) | exact HI0.out)) hg (IsS89.own_ne HI0.out HO299.out (by decide))); have n1_ := za1 (blk_grown (g := gb291) (o := .cells #[.slice A1_0 l1_0.length c1_0, .int .i64 a1_1] 37 (0, 0)) (by (with_reducible repeat (first | refine za11 ?_ _ | refine za12 ?_ | refine za13 ?_ _)); exact BK291.out) hg (Kd.R_ne HO299.out BK291.out (by decide))); have n2_ := za1 (Kd.R_over' (by (with_reducible repeat (first | apply za5 | apply za4 | apply za6)); exact HO294.out) (Kd.R_typed (by (with_reducible repeat (first | apply za5 | apply za4 | apply za6)); exact HO299.out)) (by decide) hg); have n3_ := za1 (below_weaken (by repeat (first | (with_reducible first | exact HB.out | apply za14 | apply za7 | apply za9 | refine za8 ?_ (IsS89.ge HI0.out) | refine za8 ?_ GE291.out) | exact HB.out)) HL.out hb); have n4_ := za1 (KeepBut.trans (by repeat (first | (with_reducible first | exact HK.out | apply KeepBut.set_ | apply keep_drewN | apply keep_drew | apply keep_alloc | refine keep_far ?_ GW291.out _) | exact HK.out)) (KeepBut.of_grown hg g) (Kd.R_base2 HO299.out)); have n5_ := za1 (ho); clear HI0; clear BK291; clear HO294; clear HB; clear HK; clear HO299; have HI0 := n0_; have BK291 := n1_; have HO294 := n2_; have HB := n3_; have HK := n4_; have HO317 := n5_; clear n0_ n1_ n2_ n3_ n4_ n5_; clear ho hb hg hat))
    go_ret
    exact ⟨_, by first | rfl | (simp [errW_none, errW_some] <;> rfl) | (simp [*, errW_none, errW_some] <;> rfl), by (with_reducible repeat (first | apply za5 | apply za4 | apply za6)); exact HO317.out, by repeat (first | (with_reducible first | exact HI0.out | apply IsS89.alloc | apply IsS89.drewN | apply IsS89.drew | apply IsS89.set_1 | apply IsS89.set_2 | refine IsS89.far ?_ NB0_291.out _) | exact HI0.out), by repeat (first | (with_reducible first | exact HB.out | apply za14 | apply za7 | apply za9 | refine za8 ?_ (IsS89.ge HI0.out) | refine za8 ?_ GE291.out) | exact HB.out), by repeat (first | (with_reducible first | exact HK.out | apply KeepBut.set_ | apply keep_drewN | apply keep_drew | apply keep_alloc | refine keep_far ?_ GW291.out _) | exact HK.out)⟩
   ·rw [if_neg c24] at H
    exact absurd H (by simp)
  ·rw [if_neg c23] at H
   have c23b0 : (t300 == 1) = false := beq_eq_false_iff_ne.mpr c23
   have c23b1 : (t300 != 1) = true := bne_iff_ne.mpr c23
   by_cases c33 : t300 = 2
   ·rw [if_pos c33] at H
    have c33b0 : (t300 == 2) = true := beq_iff_eq.mpr c33
    have c33b1 : (t300 != 2) = false := bne_eq_false_iff_eq.mpr c33
    clear c33
    by_cases c34 : (t297.length : Int) > 0
    ·rw [if_pos c34] at H
     have c34b0 : decide (0 < (t297.length : Int)) = true := za38 c34
     have c34b1 : decide (0 < t297.length) = true := za38 (by omega)
     clear c34
     by_cases c35 : 0 < (t297.length : Int)
     ·rw [if_pos c35] at H
      have c35b0 : decide (0 < (t297.length : Int)) = true := za38 c35
      have c35b1 : decide (0 < t297.length) = true := za38 (by omega)
      clear c35
      obtain ⟨y319, hy319⟩ : ∃ y_ : List (S46), y_ = (t297.set (0 : Int).toNat (⟨(rd_T46 t297 0).f0, wrap64 (((rd_T46 t297 0).f1) + 1)⟩ : S46)) := ⟨_, rfl⟩
      replace H : (some (y319, t301, t302)) = some (r1, r2, r3) := by first | (rw [hy319]; with_reducible exact H) | (have H2_ := (za36 _ _).symm.trans H; rw [hy319]; with_reducible exact H2_) | (have H2_ := (za36 _ _).symm.trans H; with_reducible exact H2_) | with_reducible exact H | (rw [hy319]; exact H) | exact H
      have Ny319 := za1 hy319
      clear hy319
      simp only [Option.some.injEq, Prod.mk.injEq] at H
      obtain ⟨rfl, rfl, rfl⟩ := H
      go_enter Try.func56, Try.ntmps56
      try go_wp2_with (first | ((with_reducible refine gate_dst (N := 4) rfl ?_); refine box_event ?hg (N := 4) ?hd (cs := #[.slice A1_0 l1_0.length c1_0, .int .i64 a1_1]) (t := 37) ?hr ?_; (case hd => rfl); (case hg => rfl); (case hr => first | (go_simp; done) | (go_simp; rfl)); intro gb291 hg w37 hbox hb; have n0_ := za1 (IsS89.below (by repeat (first | (with_reducible first | exact HI0.out | apply IsS89.alloc | apply IsS89.drewN | apply IsS89.drew | apply IsS89.set_1 | apply IsS89.set_2) | exact HI0.out)) hb); have n1_ := za1 (KeepBut.trans (by repeat (first | (with_reducible first | exact HK.out | apply KeepBut.set_ | apply keep_drewN | apply keep_drew | apply keep_alloc) | exact HK.out)) (KeepBut.of_below hb g none) (.inl rfl)); have n2_ := za1 (za28 (by repeat (first | (with_reducible first | exact HB.out | apply za14 | apply za7 | apply za9 | refine za8 ?_ (IsS89.ge HI0.out)) | exact HB.out)) hb); have n3_ := za1 (hbox); have n4_ := za1 ((by rw [hg]; exact (keep_size (w := w) (g := g) (row := none) (by repeat (first | (with_reducible first | exact HK.out | apply KeepBut.set_ | apply keep_drewN | apply keep_drew | apply keep_alloc) | exact HK.out))) : w.heap.size ≤ gb291)); have n5_ := za1 ((Nat.le_trans HW0.out (by rw [hg]; exact (keep_size (w := w) (g := g) (row := none) (by repeat (first | (with_reducible first | exact HK.out | apply KeepBut.set_ | apply keep_drewN | apply keep_drew | apply keep_alloc) | exact HK.out))) : w.heap.size ≤ gb291) : w0.heap.size ≤ gb291)); have n6_ := za1 ((by rw [hg]; exact Nat.ne_of_lt (IsS89.lt (show IsS89 w0 _ g s0_0 s0_1 s0_2 from by repeat (first | (with_reducible first | exact HI0.out | apply IsS89.alloc | apply IsS89.drewN | apply IsS89.drew | apply IsS89.set_1 | apply IsS89.set_2) | exact HI0.out))) : g ≠ gb291)); have n7_ := za1 ((by rw [hg]; exact Nat.ne_of_gt (IsS89.lt (show IsS89 w0 _ g s0_0 s0_1 s0_2 from by repeat (first | (with_reducible first | exact HI0.out | apply IsS89.alloc | apply IsS89.drewN | apply IsS89.drew | apply IsS89.set_1 | apply IsS89.set_2) | exact HI0.out))) : gb291 ≠ g)); clear HI0; clear HK; clear HB; have HI0 := n0_; have HK := n1_; have HB := n2_; have BK291 := n3_; have GW291 := n4_; have GE291 := n5_; have NB0_291 := n6_; have NB291_0 := n7_; clear n0_ n1_ n2_ n3_ n4_ n5_ n6_ n7_; clear hb hbox hg))
      have n0_ := za1 (za12 BK291.out)
      have n1_ := za1 (IsS89.drew HI0.out)
      have n2_ := za1 (keep_drew HK.out)
      have n3_ := za1 (za9 HB.out)
      clear BK291
      clear HI0
      clear HK
      clear HB
      have BK291 := n0_
      have HI0 := n1_
      have HK := n2_
      have HB := n3_
      clear n0_ n1_ n2_ n3_
      refine start_ (n := 6) (S := fun w' => w'.cell? ⟨gb291, 0, none⟩ = some (.slice A1_0 l1_0.length c1_0) ∧ w'.cell? ⟨gb291, 1, none⟩ = some (.int .i64 a1_1)) (ds := []) #[false, false, false, false, false, false] (by kernel_rfl) rfl rfl ⟨(za15 BK291.out 0).trans rfl, (za15 BK291.out 1).trans rfl⟩ (fun hHeld => ?_)
      generalize w37.drew = w38 at BK291 HI0 HK HB hHeld ⊢
      refine pure_ (i := 0) (N := some 8) (v := ?_) (a' := ?_) #[true, false, false, false, false, false] rfl rfl (by kernel_rfl) (fun _ _ _ h => h) (Or.inl ⟨by rfl, ?_⟩) ?_ ?_
      rotate_left
      ·intro w'
       go_simp
       with_reducible rfl
      rotate_left
      ·simp only [Act.put, za0, za2, za3, i64_w, i32_w]
       rfl
      refine pure_ (i := 3) (N := some 11) (v := ?_) (a' := ?_) #[true, false, false, true, false, false] rfl rfl (by kernel_rfl) (fun _ _ _ h => h) (Or.inl ⟨by rfl, ?_⟩) ?_ ?_
      rotate_left
      ·intro w'
       go_simp
       with_reducible rfl
      rotate_left
      ·simp only [Act.put, za0, za2, za3, i64_w, i32_w]
       rfl
      refine take_ (i := 2) (N := some 10) (v := ?_) (a' := ?_) #[true, false, true, true, false, false] rfl rfl (by kernel_rfl) (fun _ _ _ h => h) (Or.inl ⟨by rfl, ?_⟩) hHeld ?_ ?_
      rotate_left
      ·rintro w' ⟨s0, s1⟩
       go_simp
       with_reducible rfl
      rotate_left
      ·simp only [Act.put, za0, za2, za3, i64_w, i32_w]
       rfl
      refine one_ (i := 1) (N := some 9) #[true, true, true, true, false, false] rfl rfl (by kernel_rfl) (by decide) (fun K hK => ?_)
      refine goes_ Try.func49 (by kernel_rfl) rfl #[.pointer (some ⟨g, 0, none⟩)] (by rfl) rfl rfl (by (try simp only [za18, za26, za27]); first | done | rfl | (simp only [za20, za19]; rfl)) ?_
      with_reducible refine (spec_l6Held.calls k g s0_0 s0_1 s0_2 t292 t295 t296 w0 _ ?side1 ?side2 A4.out).mono ?_
      (case side1 => repeat (first | (with_reducible first | exact HI0.out | apply IsS89.alloc | apply IsS89.drewN | apply IsS89.drew | apply IsS89.set_1 | apply IsS89.set_2 | refine IsS89.far ?_ NB0_291.out _) | exact HI0.out))
      (case side2 => repeat (first | (with_reducible first | exact HB.out | apply za14 | apply za7 | apply za9 | refine za8 ?_ (IsS89.ge HI0.out) | refine za8 ?_ GE291.out) | exact HB.out))
      rintro e w39 ⟨v293, rfl, ho0, hi, hb, hk⟩
      refine ⟨_, rfl, ?_⟩
      have n0_ := za1 (KeepBut.blk hk (g' := gb291) (o := .cells #[.slice A1_0 l1_0.length c1_0, .int .i64 a1_1] 37 (0, 0)) (by (with_reducible repeat (first | refine za11 ?_ _ | refine za12 ?_ | refine za13 ?_ _)); exact BK291.out) NB291_0.out (by simp))
      have n1_ := za1 (za31 ho0 (keep_size (w := w) (g := g) (row := none) (by repeat (first | (with_reducible first | exact HK.out | apply KeepBut.set_ | apply keep_drewN | apply keep_drew | apply keep_alloc | refine keep_far ?_ GW291.out _) | exact HK.out))))
      have n2_ := za1 (KeepBut.trans (by repeat (first | (with_reducible first | exact HK.out | apply KeepBut.set_ | apply keep_drewN | apply keep_drew | apply keep_alloc | refine keep_far ?_ GW291.out _) | exact HK.out)) hk (.inl rfl))
      have n3_ := za1 (hb)
      have n4_ := za1 (hi)
      clear BK291
      clear HK
      clear HB
      clear HI0
      have BK291 := n0_
      have HO294 := n1_
      have HK := n2_
      have HB := n3_
      have HI0 := n4_
      clear n0_ n1_ n2_ n3_ n4_
      (try clear hb)
      (try clear hb2)
      (try clear hk)
      (try clear hi)
      (try clear ho0)
      obtain ⟨Ao40, co40, eo40⟩ := Kd.R_slice HO294.out
      (first | subst eo40 | (injection eo40 with f1_ f2_ f3_; have f4_ := f1_.symm; have f5_ := f3_.symm; clear f1_ f2_ f3_; subst f4_; subst f5_))
      refine hK.out _ _ ⟨(za15 BK291.out 0).trans rfl, (za15 BK291.out 1).trans rfl⟩ (fun hHeld => ?_)
      clear hK K
      refine norm_ (a' := ?_) ?_ ?_
      rotate_left
      ·show Act.put _ (some 9) _ = _
       simp only [Act.put, za0, za2, za3, i64_w, i32_w]
       rfl
      refine one_ (i := 4) (N := some 12) #[true, true, true, true, true, false] rfl rfl (by kernel_rfl) (by decide) (fun K hK => ?_)
      refine goes_ Try.func73 (by kernel_rfl) rfl #[.slice Ao40 t292.length co40, .agg #[.slice A1_0 l1_0.length c1_0, .int .i64 a1_1], .slice A2 l2.length c2] (by rfl) rfl rfl (by (try simp only [za18, za26, za27]); first | done | rfl | (simp only [za20, za19]; rfl)) ?_
      with_reducible refine (spec_SignBy.calls k _ _ t292 _ _ l1_0 a1_1 _ _ l2 t297 _ ?side1 ?side2 ?side3 ?side4 ?side5 ?side6 A5.out).mono ?_
      (case side1 => repeat (first | exact (za10 HO294.out).2.2 | (with_reducible refine za24 ?_ _) | (with_reducible refine za22 ?_ _) | (with_reducible refine za23 ?_)))
      (case side2 => exact (za10 HO294.out).2.1)
      (case side3 => exact Kd.C_keep 0 HR1_0.out (by repeat (first | (with_reducible first | exact HK.out | apply KeepBut.set_ | apply keep_drewN | apply keep_drew | apply keep_alloc | refine keep_far ?_ GW291.out _) | exact HK.out)) hf1_0)
      (case side4 => exact HC1_0.out)
      (case side5 => exact Kd.C_keep 0 HR2.out (by repeat (first | (with_reducible first | exact HK.out | apply KeepBut.set_ | apply keep_drewN | apply keep_drew | apply keep_alloc | refine keep_far ?_ GW291.out _) | exact HK.out)) hf2)
      (case side6 => exact HC2.out)
      rintro e w41 ⟨v298, rfl, ho0, hb⟩
      refine ⟨_, rfl, ?_⟩
      have n0_ := za1 (Kd.R_below (by (with_reducible repeat (first | apply za5 | apply za4 | apply za6)); exact HO294.out) hb)
      have n1_ := za1 (za31 ho0 (keep_size (w := w) (g := g) (row := none) (by repeat (first | (with_reducible first | exact HK.out | apply KeepBut.set_ | apply keep_drewN | apply keep_drew | apply keep_alloc | refine keep_far ?_ GW291.out _) | exact HK.out))))
      have n2_ := za1 (IsS89.below (by repeat (first | (with_reducible first | exact HI0.out | apply IsS89.alloc | apply IsS89.drewN | apply IsS89.drew | apply IsS89.set_1 | apply IsS89.set_2 | refine IsS89.far ?_ NB0_291.out _) | exact HI0.out)) hb)
      have n3_ := za1 (za17 (g := gb291) (o := .cells #[.slice A1_0 l1_0.length c1_0, .int .i64 a1_1] 37 (0, 0)) (by (with_reducible repeat (first | refine za11 ?_ _ | refine za12 ?_ | refine za13 ?_ _)); exact BK291.out) hb)
      have n4_ := za1 (KeepBut.trans (by repeat (first | (with_reducible first | exact HK.out | apply KeepBut.set_ | apply keep_drewN | apply keep_drew | apply keep_alloc | refine keep_far ?_ GW291.out _) | exact HK.out)) (KeepBut.of_below hb g none) (.inl rfl))
      have n5_ := za1 (za28 (by repeat (first | (with_reducible first | exact HB.out | apply za14 | apply za7 | apply za9 | refine za8 ?_ (IsS89.ge HI0.out) | refine za8 ?_ GE291.out) | exact HB.out)) hb)
      clear HO294
      clear HI0
      clear BK291
      clear HK
      clear HB
      have HO294 := n0_
      have HO299 := n1_
      have HI0 := n2_
      have BK291 := n3_
      have HK := n4_
      have HB := n5_
      clear n0_ n1_ n2_ n3_ n4_ n5_
      (try clear hb)
      (try clear hb2)
      (try clear hk)
      (try clear hi)
      (try clear ho0)
      refine hK.out _ _ ⟨(za15 BK291.out 0).trans rfl, (za15 BK291.out 1).trans rfl⟩ (fun hHeld => ?_)
      clear hK K
      refine norm_ (a' := ?_) ?_ ?_
      rotate_left
      ·show Act.put _ (some 12) _ = _
       simp only [Act.put, za0, za2, za3, i64_w, i32_w]
       rfl
      refine pure_ (i := 5) (N := some 7) (v := ?_) (a' := ?_) #[true, true, true, true, true, true] rfl rfl (by kernel_rfl) (fun _ _ _ h => h) (Or.inl ⟨by rfl, ?_⟩) ?_ ?_
      rotate_left
      ·intro w'
       go_simp
       with_reducible rfl
      rotate_left
      ·simp only [Act.put, za0, za2, za3, i64_w, i32_w]
       rfl
      refine done_ (by kernel_rfl) ?_
      try go_wp2_with (first | ((with_reducible refine gate_callee (f := 60) rfl ?_); refine goesL_ (some 14) rfl rfl Try.func60 (by kernel_rfl) rfl #[.pointer (some ⟨g, 0, none⟩), .int .i64 6] rfl (by (try simp only [za18, za26, za27]); first | done | rfl | (simp only [za20, za19]; rfl)) ?_; (with_reducible refine (spec_l1Below.calls g s0_0 t295 t296 6 t300 t301 t302 w0 _ ?side1 ?side2 A6.out).mono ?_); (case side1 => repeat (first | (with_reducible first | exact HI0.out | apply IsS89.alloc | apply IsS89.drewN | apply IsS89.drew | apply IsS89.set_1 | apply IsS89.set_2 | refine IsS89.far ?_ NB0_291.out _) | exact HI0.out)); (case side2 => repeat (first | (with_reducible first | exact HB.out | apply za14 | apply za7 | apply za9 | refine za8 ?_ (IsS89.ge HI0.out) | refine za8 ?_ GE291.out) | exact HB.out)); rintro e w42 ⟨rfl, hi, hb, hk⟩; refine ⟨_, rfl, ?_⟩; have n0_ := za1 (KeepBut.blk hk (g' := gb291) (o := .cells #[.slice A1_0 l1_0.length c1_0, .int .i64 a1_1] 37 (0, 0)) (by (with_reducible repeat (first | refine za11 ?_ _ | refine za12 ?_ | refine za13 ?_ _)); exact BK291.out) NB291_0.out (by simp)); have n1_ := za1 (za21 (Kd.R_keep (IsS89.apart (show IsS89 w0 _ g s0_0 t295 t296 from by repeat (first | (with_reducible first | exact HI0.out | apply IsS89.alloc | apply IsS89.drewN | apply IsS89.drew | apply IsS89.set_1 | apply IsS89.set_2 | refine IsS89.far ?_ NB0_291.out _) | exact HI0.out)) (by (with_reducible repeat (first | apply za5 | apply za4 | apply za6)); exact HO294.out) (by decide)) hk (fun _ h => h.2)) (fun _ h => h.1)); have n2_ := za1 (za21 (Kd.R_keep (IsS89.apart (show IsS89 w0 _ g s0_0 t295 t296 from by repeat (first | (with_reducible first | exact HI0.out | apply IsS89.alloc | apply IsS89.drewN | apply IsS89.drew | apply IsS89.set_1 | apply IsS89.set_2 | refine IsS89.far ?_ NB0_291.out _) | exact HI0.out)) (by (with_reducible repeat (first | apply za5 | apply za4 | apply za6)); exact HO299.out) (by decide)) hk (fun _ h => h.2)) (fun _ h => h.1)); have n3_ := za1 (KeepBut.trans (by repeat (first | (with_reducible first | exact HK.out | apply KeepBut.set_ | apply keep_drewN | apply keep_drew | apply keep_alloc | refine keep_far ?_ GW291.out _) | exact HK.out)) hk (.inl rfl)); have n4_ := za1 (hb); have n5_ := za1 (hi); clear BK291; clear HO294; clear HO299; clear HK; clear HB; clear HI0; have BK291 := n0_; have HO294 := n1_; have HO299 := n2_; have HK := n3_; have HB := n4_; have HI0 := n5_; clear n0_ n1_ n2_ n3_ n4_ n5_; (try clear hb); (try clear hb2); (try clear hk); (try clear hi); obtain ⟨Ao43, co43, eo43⟩ := Kd.R_slice HO299.out; subst eo43; have p318 : 0 ≤ (0 : Int) := (by omega); have q318 : 0 < (t297.length : Int) := za35 (by first | (with_reducible assumption) | assumption); obtain ⟨ad318, e318, hx318_0, hx318_1⟩ := at_T46 (za10 HO299.out).2.2 0 p318 q318; cases e318; have qi318 : (0 < t297.length) = True := eq_true (by omega); (try rw [show ((0 : Int)).toNat = 0 from rfl] at hx318_0); (try rw [show 0 * 2 = 0 from rfl] at hx318_0); (try rw [Addr.add_zero'] at hx318_0); (try rw [show ((0 : Int)).toNat = 0 from rfl] at hx318_1); (try rw [show 0 * 2 = 0 from rfl] at hx318_1); (try rw [Addr.add_zero'] at hx318_1); replace p318 := eq_true p318; replace q318 := eq_true q318; have p36 : 0 ≤ (0 : Int) := (by omega); have q36 : (0 : Int) < ((t297.length : Int) : Int) := za35 (by first | (with_reducible assumption) | assumption); have qi36 : (0 < t297.length) = True := eq_true (by omega); obtain ⟨go36, co36, eo36, gb36, gl36, cl36, HG36⟩ := Kd.R_form HO299.out (by omega); (first | cases eo36 | (injection eo36 with ea_ en_ ec_; (first | subst ea_ | (injection ea_ with ea_; subst ea_)); subst ec_; clear en_)); have GB36 := za1 gb36; have GG36 := za1 HG36; clear gb36 gl36 HG36; (first | simp only [add_plain] at hx318_0 | skip); (first | simp only [add_plain] at hx318_1 | skip); obtain ⟨ce36, hcl36, hM36, hcc36, hfr36⟩ := Kd.R_elem HO299.out z46 (0 : Int) p36 q36; obtain rfl := k46_openM hM36; have hx36_0 : w42.cell? ⟨go36, (0 : Int).toNat * 2, none⟩ = some (.int .i64 ((rd_T46 t297 0).f0)) := hcc36 0 _ rfl; have hx36_1 : w42.cell? ⟨go36, (0 : Int).toNat * 2 + 1, none⟩ = some (.int .i64 ((rd_T46 t297 0).f1)) := hcc36 1 _ rfl; have hf36_0 : w42.frozen? ⟨go36, (0 : Int).toNat * 2, none⟩ = false := hfr36 0; have hf36_1 : w42.frozen? ⟨go36, (0 : Int).toNat * 2 + 1, none⟩ = false := hfr36 1; clear hcl36 hcc36 hfr36 hM36; (try rw [show ((0 : Int)).toNat = 0 from rfl] at hx36_0); (try simp only [Nat.reduceMul, Nat.zero_mul, Nat.zero_add, Nat.reduceAdd] at hx36_0); (try rw [show ((0 : Int)).toNat = 0 from rfl] at hf36_0); (try simp only [Nat.reduceMul, Nat.zero_mul, Nat.zero_add, Nat.reduceAdd] at hf36_0); (try rw [show ((0 : Int)).toNat = 0 from rfl] at hx36_1); (try simp only [Nat.reduceMul, Nat.zero_mul, Nat.zero_add, Nat.reduceAdd] at hx36_1); (try rw [show ((0 : Int)).toNat = 0 from rfl] at hf36_1); (try simp only [Nat.reduceMul, Nat.zero_mul, Nat.zero_add, Nat.reduceAdd] at hf36_1); replace p36 := eq_true p36; replace q36 := eq_true q36; have HX44 := za1 (show Kd.R k46 46 w42 w.heap.size (fun _ => True) (.slice (some ⟨go36, 0, none⟩) t297.length co43) t297 from (by (with_reducible repeat (first | apply za5 | apply za4 | apply za6)); exact HO299.out)); obtain ⟨ce44, hcl44, hM44, hcc44, hfr44⟩ := Kd.R_elem HX44.out z46 (0 : Int) (by omega) (by have h_ : (0 : Int) < ((t297.length : Int) : Int) := za35 (by first | (with_reducible assumption) | assumption); first | exact h_ | (have e_ := (za10 HO299.out).1; omega) | simpa using h_); obtain rfl := k46_openM hM44; have HP44 := Kd.R_seg HX44.out (0 : Int) (by omega) (by have h_ : (0 : Int) < ((t297.length : Int) : Int) := za35 (by first | (with_reducible assumption) | assumption); first | exact h_ | (have e_ := (za10 HO299.out).1; omega) | simpa using h_) (seg := [.int .i64 (wrap64 (((rd_T46 t297 0).f1) + 1))]) (j := 1) hcl44 hcc44 (show 2 ≤ 2 from by decide) (x' := (⟨(rd_T46 t297 0).f0, wrap64 (((rd_T46 t297 0).f1) + 1)⟩ : S46)) (k46_mkM _ _ _ (⟨(rd_T46 t297 0).f0, wrap64 (((rd_T46 t297 0).f1) + 1)⟩ : S46) ) (fun _ hk => hk); have hx44_1 := hcc44 1 _ rfl; (try simp only [show (k46).sz = 2 from rfl, Nat.mul_one, Nat.add_zero] at hx44_1); (try rw [show ((0 : Int)).toNat = 0 from rfl] at hx44_1); (try simp only [Nat.reduceMul, Nat.zero_mul, Nat.zero_add, Nat.reduceAdd] at hx44_1); have hf44_1 := hfr44 1; (try simp only [show (k46).sz = 2 from rfl, Nat.mul_one, Nat.add_zero] at hf44_1); (try rw [show ((0 : Int)).toNat = 0 from rfl] at hf44_1); (try simp only [Nat.reduceMul, Nat.zero_mul, Nat.zero_add, Nat.reduceAdd] at hf44_1); clear hcl44 hcc44 hfr44 hM44) | ((with_reducible refine gate_store (t := 3) (p := 43) rfl ?_); refine store_event (t := 3) (p := 43) (v := ?vo_w45) (w1 := (w42.setCell ⟨go36, 1, none⟩ (.int .i64 (wrap64 (((rd_T46 t297 0).f1) + 1))))) ?hg ?ho ?hn ?hr ?_; (case ho => rfl); (case hg => rfl); (case hn => rfl); (case hr => first | (go_simp; done) | (go_simp; rfl)); intro w45 hw; have hg : w42.grownBy w45 (some go36) := (by rw [hw]; exact HP44.2); have hp_ : Kd.R k46 46 w45 w.heap.size (fun _ => True) (.slice (some ⟨go36, 0, none⟩) t297.length co43) y319 := (by rw [hw, Ny319.out]; exact HP44.1); clear HP44; have n0_ := za1 (IsS89.grown (by repeat (first | (with_reducible first | exact HI0.out | apply IsS89.alloc | apply IsS89.drewN | apply IsS89.drew | apply IsS89.set_1 | apply IsS89.set_2 | refine IsS89.far ?_ NB0_291.out _) | exact HI0.out)) hg (IsS89.own_ne HI0.out HO299.out (by decide))); have n1_ := za1 (blk_grown (g := gb291) (o := .cells #[.slice A1_0 l1_0.length c1_0, .int .i64 a1_1] 37 (0, 0)) (by (with_reducible repeat (first | refine za11 ?_ _ | refine za12 ?_ | refine za13 ?_ _)); exact BK291.out) hg (Kd.R_ne HO299.out BK291.out (by decide))); have n2_ := za1 (Kd.R_over' (v := (.slice (some ⟨go36, 0, none⟩) t297.length co43)) (by (with_reducible repeat (first | apply za5 | apply za4 | apply za6)); exact HO294.out) (Kd.R_typed HO299.out) (by decide) hg); have n3_ := za1 (hp_); have n4_ := za1 ((by rw [hw]; exact za8 (HB.out) (Nat.le_trans HL.out GB36.out) : Below w0.heap.size w0 w45)); have n5_ := za1 (KeepBut.trans (by repeat (first | (with_reducible first | exact HK.out | apply KeepBut.set_ | apply keep_drewN | apply keep_drew | apply keep_alloc | refine keep_far ?_ GW291.out _) | exact HK.out)) (KeepBut.of_grown hg g) (Kd.R_base2 HO299.out)); clear HI0; clear BK291; clear HO294; clear HO299; clear HB; clear HK; have HI0 := n0_; have BK291 := n1_; have HO294 := n2_; have HO299 := n3_; have HB := n4_; have HK := n5_; clear n0_ n1_ n2_ n3_ n4_ n5_; clear hg hw hp_))
      go_ret
      exact ⟨_, by first | rfl | (simp [errW_none, errW_some] <;> rfl) | (simp [*, errW_none, errW_some] <;> rfl), by (with_reducible repeat (first | apply za5 | apply za4 | apply za6)); exact HO299.out, by repeat (first | (with_reducible first | exact HI0.out | apply IsS89.alloc | apply IsS89.drewN | apply IsS89.drew | apply IsS89.set_1 | apply IsS89.set_2 | refine IsS89.far ?_ NB0_291.out _) | exact HI0.out), by repeat (first | (with_reducible first | exact HB.out | apply za14 | apply za7 | apply za9 | refine za8 ?_ (IsS89.ge HI0.out) | refine za8 ?_ GE291.out) | exact HB.out), by repeat (first | (with_reducible first | exact HK.out | apply KeepBut.set_ | apply keep_drewN | apply keep_drew | apply keep_alloc | refine keep_far ?_ GW291.out _) | exact HK.out)⟩
     ·rw [if_neg c35] at H
      exact absurd H (by simp)
    ·rw [if_neg c34] at H
     have c34b0 : decide (0 < (t297.length : Int)) = false := za39 c34
     have c34b1 : decide (0 < t297.length) = false := za39 (by omega)
     clear c34
     simp only [Option.some.injEq, Prod.mk.injEq] at H
     obtain ⟨rfl, rfl, rfl⟩ := H
     go_enter Try.func56, Try.ntmps56
     try go_wp2_with (first | ((with_reducible refine gate_dst (N := 4) rfl ?_); refine box_event ?hg (N := 4) ?hd (cs := #[.slice A1_0 l1_0.length c1_0, .int .i64 a1_1]) (t := 37) ?hr ?_; (case hd => rfl); (case hg => rfl); (case hr => first | (go_simp; done) | (go_simp; rfl)); intro gb291 hg w46 hbox hb; have n0_ := za1 (IsS89.below (by repeat (first | (with_reducible first | exact HI0.out | apply IsS89.alloc | apply IsS89.drewN | apply IsS89.drew | apply IsS89.set_1 | apply IsS89.set_2) | exact HI0.out)) hb); have n1_ := za1 (KeepBut.trans (by repeat (first | (with_reducible first | exact HK.out | apply KeepBut.set_ | apply keep_drewN | apply keep_drew | apply keep_alloc) | exact HK.out)) (KeepBut.of_below hb g none) (.inl rfl)); have n2_ := za1 (za28 (by repeat (first | (with_reducible first | exact HB.out | apply za14 | apply za7 | apply za9 | refine za8 ?_ (IsS89.ge HI0.out)) | exact HB.out)) hb); have n3_ := za1 (hbox); have n4_ := za1 ((by rw [hg]; exact (keep_size (w := w) (g := g) (row := none) (by repeat (first | (with_reducible first | exact HK.out | apply KeepBut.set_ | apply keep_drewN | apply keep_drew | apply keep_alloc) | exact HK.out))) : w.heap.size ≤ gb291)); have n5_ := za1 ((Nat.le_trans HW0.out (by rw [hg]; exact (keep_size (w := w) (g := g) (row := none) (by repeat (first | (with_reducible first | exact HK.out | apply KeepBut.set_ | apply keep_drewN | apply keep_drew | apply keep_alloc) | exact HK.out))) : w.heap.size ≤ gb291) : w0.heap.size ≤ gb291)); have n6_ := za1 ((by rw [hg]; exact Nat.ne_of_lt (IsS89.lt (show IsS89 w0 _ g s0_0 s0_1 s0_2 from by repeat (first | (with_reducible first | exact HI0.out | apply IsS89.alloc | apply IsS89.drewN | apply IsS89.drew | apply IsS89.set_1 | apply IsS89.set_2) | exact HI0.out))) : g ≠ gb291)); have n7_ := za1 ((by rw [hg]; exact Nat.ne_of_gt (IsS89.lt (show IsS89 w0 _ g s0_0 s0_1 s0_2 from by repeat (first | (with_reducible first | exact HI0.out | apply IsS89.alloc | apply IsS89.drewN | apply IsS89.drew | apply IsS89.set_1 | apply IsS89.set_2) | exact HI0.out))) : gb291 ≠ g)); clear HI0; clear HK; clear HB; have HI0 := n0_; have HK := n1_; have HB := n2_; have BK291 := n3_; have GW291 := n4_; have GE291 := n5_; have NB0_291 := n6_; have NB291_0 := n7_; clear n0_ n1_ n2_ n3_ n4_ n5_ n6_ n7_; clear hb hbox hg))
     have n0_ := za1 (za12 BK291.out)
     have n1_ := za1 (IsS89.drew HI0.out)
     have n2_ := za1 (keep_drew HK.out)
     have n3_ := za1 (za9 HB.out)
     clear BK291
     clear HI0
     clear HK
     clear HB
     have BK291 := n0_
     have HI0 := n1_
     have HK := n2_
     have HB := n3_
     clear n0_ n1_ n2_ n3_
     refine start_ (n := 6) (S := fun w' => w'.cell? ⟨gb291, 0, none⟩ = some (.slice A1_0 l1_0.length c1_0) ∧ w'.cell? ⟨gb291, 1, none⟩ = some (.int .i64 a1_1)) (ds := []) #[false, false, false, false, false, false] (by kernel_rfl) rfl rfl ⟨(za15 BK291.out 0).trans rfl, (za15 BK291.out 1).trans rfl⟩ (fun hHeld => ?_)
     generalize w46.drew = w47 at BK291 HI0 HK HB hHeld ⊢
     refine pure_ (i := 0) (N := some 8) (v := ?_) (a' := ?_) #[true, false, false, false, false, false] rfl rfl (by kernel_rfl) (fun _ _ _ h => h) (Or.inl ⟨by rfl, ?_⟩) ?_ ?_
     rotate_left
     ·intro w'
      go_simp
      with_reducible rfl
     rotate_left
     ·simp only [Act.put, za0, za2, za3, i64_w, i32_w]
      rfl
     refine pure_ (i := 3) (N := some 11) (v := ?_) (a' := ?_) #[true, false, false, true, false, false] rfl rfl (by kernel_rfl) (fun _ _ _ h => h) (Or.inl ⟨by rfl, ?_⟩) ?_ ?_
     rotate_left
     ·intro w'
      go_simp
      with_reducible rfl
     rotate_left
     ·simp only [Act.put, za0, za2, za3, i64_w, i32_w]
      rfl
     refine take_ (i := 2) (N := some 10) (v := ?_) (a' := ?_) #[true, false, true, true, false, false] rfl rfl (by kernel_rfl) (fun _ _ _ h => h) (Or.inl ⟨by rfl, ?_⟩) hHeld ?_ ?_
     rotate_left
     ·rintro w' ⟨s0, s1⟩
      go_simp
      with_reducible rfl
     rotate_left
     ·simp only [Act.put, za0, za2, za3, i64_w, i32_w]
      rfl
     refine one_ (i := 1) (N := some 9) #[true, true, true, true, false, false] rfl rfl (by kernel_rfl) (by decide) (fun K hK => ?_)
     refine goes_ Try.func49 (by kernel_rfl) rfl #[.pointer (some ⟨g, 0, none⟩)] (by rfl) rfl rfl (by (try simp only [za18, za26, za27]); first | done | rfl | (simp only [za20, za19]; rfl)) ?_
     with_reducible refine (spec_l6Held.calls k g s0_0 s0_1 s0_2 t292 t295 t296 w0 _ ?side1 ?side2 A4.out).mono ?_
     (case side1 => repeat (first | (with_reducible first | exact HI0.out | apply IsS89.alloc | apply IsS89.drewN | apply IsS89.drew | apply IsS89.set_1 | apply IsS89.set_2 | refine IsS89.far ?_ NB0_291.out _) | exact HI0.out))
     (case side2 => repeat (first | (with_reducible first | exact HB.out | apply za14 | apply za7 | apply za9 | refine za8 ?_ (IsS89.ge HI0.out) | refine za8 ?_ GE291.out) | exact HB.out))
     rintro e w48 ⟨v293, rfl, ho0, hi, hb, hk⟩
     refine ⟨_, rfl, ?_⟩
     have n0_ := za1 (KeepBut.blk hk (g' := gb291) (o := .cells #[.slice A1_0 l1_0.length c1_0, .int .i64 a1_1] 37 (0, 0)) (by (with_reducible repeat (first | refine za11 ?_ _ | refine za12 ?_ | refine za13 ?_ _)); exact BK291.out) NB291_0.out (by simp))
     have n1_ := za1 (za31 ho0 (keep_size (w := w) (g := g) (row := none) (by repeat (first | (with_reducible first | exact HK.out | apply KeepBut.set_ | apply keep_drewN | apply keep_drew | apply keep_alloc | refine keep_far ?_ GW291.out _) | exact HK.out))))
     have n2_ := za1 (KeepBut.trans (by repeat (first | (with_reducible first | exact HK.out | apply KeepBut.set_ | apply keep_drewN | apply keep_drew | apply keep_alloc | refine keep_far ?_ GW291.out _) | exact HK.out)) hk (.inl rfl))
     have n3_ := za1 (hb)
     have n4_ := za1 (hi)
     clear BK291
     clear HK
     clear HB
     clear HI0
     have BK291 := n0_
     have HO294 := n1_
     have HK := n2_
     have HB := n3_
     have HI0 := n4_
     clear n0_ n1_ n2_ n3_ n4_
     (try clear hb)
     (try clear hb2)
     (try clear hk)
     (try clear hi)
     (try clear ho0)
     obtain ⟨Ao49, co49, eo49⟩ := Kd.R_slice HO294.out
     (first | subst eo49 | (injection eo49 with f1_ f2_ f3_; have f4_ := f1_.symm; have f5_ := f3_.symm; clear f1_ f2_ f3_; subst f4_; subst f5_))
     refine hK.out _ _ ⟨(za15 BK291.out 0).trans rfl, (za15 BK291.out 1).trans rfl⟩ (fun hHeld => ?_)
     clear hK K
     refine norm_ (a' := ?_) ?_ ?_
     rotate_left
     ·show Act.put _ (some 9) _ = _
      simp only [Act.put, za0, za2, za3, i64_w, i32_w]
      rfl
     refine one_ (i := 4) (N := some 12) #[true, true, true, true, true, false] rfl rfl (by kernel_rfl) (by decide) (fun K hK => ?_)
     refine goes_ Try.func73 (by kernel_rfl) rfl #[.slice Ao49 t292.length co49, .agg #[.slice A1_0 l1_0.length c1_0, .int .i64 a1_1], .slice A2 l2.length c2] (by rfl) rfl rfl (by (try simp only [za18, za26, za27]); first | done | rfl | (simp only [za20, za19]; rfl)) ?_
     with_reducible refine (spec_SignBy.calls k _ _ t292 _ _ l1_0 a1_1 _ _ l2 t297 _ ?side1 ?side2 ?side3 ?side4 ?side5 ?side6 A5.out).mono ?_
     (case side1 => repeat (first | exact (za10 HO294.out).2.2 | (with_reducible refine za24 ?_ _) | (with_reducible refine za22 ?_ _) | (with_reducible refine za23 ?_)))
     (case side2 => exact (za10 HO294.out).2.1)
     (case side3 => exact Kd.C_keep 0 HR1_0.out (by repeat (first | (with_reducible first | exact HK.out | apply KeepBut.set_ | apply keep_drewN | apply keep_drew | apply keep_alloc | refine keep_far ?_ GW291.out _) | exact HK.out)) hf1_0)
     (case side4 => exact HC1_0.out)
     (case side5 => exact Kd.C_keep 0 HR2.out (by repeat (first | (with_reducible first | exact HK.out | apply KeepBut.set_ | apply keep_drewN | apply keep_drew | apply keep_alloc | refine keep_far ?_ GW291.out _) | exact HK.out)) hf2)
     (case side6 => exact HC2.out)
     rintro e w50 ⟨v298, rfl, ho0, hb⟩
     refine ⟨_, rfl, ?_⟩
     have n0_ := za1 (Kd.R_below (by (with_reducible repeat (first | apply za5 | apply za4 | apply za6)); exact HO294.out) hb)
     have n1_ := za1 (za31 ho0 (keep_size (w := w) (g := g) (row := none) (by repeat (first | (with_reducible first | exact HK.out | apply KeepBut.set_ | apply keep_drewN | apply keep_drew | apply keep_alloc | refine keep_far ?_ GW291.out _) | exact HK.out))))
     have n2_ := za1 (IsS89.below (by repeat (first | (with_reducible first | exact HI0.out | apply IsS89.alloc | apply IsS89.drewN | apply IsS89.drew | apply IsS89.set_1 | apply IsS89.set_2 | refine IsS89.far ?_ NB0_291.out _) | exact HI0.out)) hb)
     have n3_ := za1 (za17 (g := gb291) (o := .cells #[.slice A1_0 l1_0.length c1_0, .int .i64 a1_1] 37 (0, 0)) (by (with_reducible repeat (first | refine za11 ?_ _ | refine za12 ?_ | refine za13 ?_ _)); exact BK291.out) hb)
     have n4_ := za1 (KeepBut.trans (by repeat (first | (with_reducible first | exact HK.out | apply KeepBut.set_ | apply keep_drewN | apply keep_drew | apply keep_alloc | refine keep_far ?_ GW291.out _) | exact HK.out)) (KeepBut.of_below hb g none) (.inl rfl))
     have n5_ := za1 (za28 (by repeat (first | (with_reducible first | exact HB.out | apply za14 | apply za7 | apply za9 | refine za8 ?_ (IsS89.ge HI0.out) | refine za8 ?_ GE291.out) | exact HB.out)) hb)
     clear HO294
     clear HI0
     clear BK291
     clear HK
     clear HB
     have HO294 := n0_
     have HO299 := n1_
     have HI0 := n2_
     have BK291 := n3_
     have HK := n4_
     have HB := n5_
     clear n0_ n1_ n2_ n3_ n4_ n5_
     (try clear hb)
     (try clear hb2)
     (try clear hk)
     (try clear hi)
     (try clear ho0)
     refine hK.out _ _ ⟨(za15 BK291.out 0).trans rfl, (za15 BK291.out 1).trans rfl⟩ (fun hHeld => ?_)
     clear hK K
     refine norm_ (a' := ?_) ?_ ?_
     rotate_left
     ·show Act.put _ (some 12) _ = _
      simp only [Act.put, za0, za2, za3, i64_w, i32_w]
      rfl
     refine pure_ (i := 5) (N := some 7) (v := ?_) (a' := ?_) #[true, true, true, true, true, true] rfl rfl (by kernel_rfl) (fun _ _ _ h => h) (Or.inl ⟨by rfl, ?_⟩) ?_ ?_
     rotate_left
     ·intro w'
      go_simp
      with_reducible rfl
     rotate_left
     ·simp only [Act.put, za0, za2, za3, i64_w, i32_w]
      rfl
     refine done_ (by kernel_rfl) ?_
     try go_wp2_with (first | ((with_reducible refine gate_callee (f := 60) rfl ?_); refine goesL_ (some 14) rfl rfl Try.func60 (by kernel_rfl) rfl #[.pointer (some ⟨g, 0, none⟩), .int .i64 6] rfl (by (try simp only [za18, za26, za27]); first | done | rfl | (simp only [za20, za19]; rfl)) ?_; (with_reducible refine (spec_l1Below.calls g s0_0 t295 t296 6 t300 t301 t302 w0 _ ?side1 ?side2 A6.out).mono ?_); (case side1 => repeat (first | (with_reducible first | exact HI0.out | apply IsS89.alloc | apply IsS89.drewN | apply IsS89.drew | apply IsS89.set_1 | apply IsS89.set_2 | refine IsS89.far ?_ NB0_291.out _) | exact HI0.out)); (case side2 => repeat (first | (with_reducible first | exact HB.out | apply za14 | apply za7 | apply za9 | refine za8 ?_ (IsS89.ge HI0.out) | refine za8 ?_ GE291.out) | exact HB.out)); rintro e w51 ⟨rfl, hi, hb, hk⟩; refine ⟨_, rfl, ?_⟩; have n0_ := za1 (KeepBut.blk hk (g' := gb291) (o := .cells #[.slice A1_0 l1_0.length c1_0, .int .i64 a1_1] 37 (0, 0)) (by (with_reducible repeat (first | refine za11 ?_ _ | refine za12 ?_ | refine za13 ?_ _)); exact BK291.out) NB291_0.out (by simp)); have n1_ := za1 (za21 (Kd.R_keep (IsS89.apart (show IsS89 w0 _ g s0_0 t295 t296 from by repeat (first | (with_reducible first | exact HI0.out | apply IsS89.alloc | apply IsS89.drewN | apply IsS89.drew | apply IsS89.set_1 | apply IsS89.set_2 | refine IsS89.far ?_ NB0_291.out _) | exact HI0.out)) (by (with_reducible repeat (first | apply za5 | apply za4 | apply za6)); exact HO294.out) (by decide)) hk (fun _ h => h.2)) (fun _ h => h.1)); have n2_ := za1 (za21 (Kd.R_keep (IsS89.apart (show IsS89 w0 _ g s0_0 t295 t296 from by repeat (first | (with_reducible first | exact HI0.out | apply IsS89.alloc | apply IsS89.drewN | apply IsS89.drew | apply IsS89.set_1 | apply IsS89.set_2 | refine IsS89.far ?_ NB0_291.out _) | exact HI0.out)) (by (with_reducible repeat (first | apply za5 | apply za4 | apply za6)); exact HO299.out) (by decide)) hk (fun _ h => h.2)) (fun _ h => h.1)); have n3_ := za1 (KeepBut.trans (by repeat (first | (with_reducible first | exact HK.out | apply KeepBut.set_ | apply keep_drewN | apply keep_drew | apply keep_alloc | refine keep_far ?_ GW291.out _) | exact HK.out)) hk (.inl rfl)); have n4_ := za1 (hb); have n5_ := za1 (hi); clear BK291; clear HO294; clear HO299; clear HK; clear HB; clear HI0; have BK291 := n0_; have HO294 := n1_; have HO299 := n2_; have HK := n3_; have HB := n4_; have HI0 := n5_; clear n0_ n1_ n2_ n3_ n4_ n5_; (try clear hb); (try clear hb2); (try clear hk); (try clear hi); obtain ⟨Ao52, co52, eo52⟩ := Kd.R_slice HO299.out; subst eo52))
     go_ret
     exact ⟨_, by first | rfl | (simp [errW_none, errW_some] <;> rfl) | (simp [*, errW_none, errW_some] <;> rfl), by (with_reducible repeat (first | apply za5 | apply za4 | apply za6)); exact HO299.out, by repeat (first | (with_reducible first | exact HI0.out | apply IsS89.alloc | apply IsS89.drewN | apply IsS89.drew | apply IsS89.set_1 | apply IsS89.set_2 | refine IsS89.far ?_ NB0_291.out _) | exact HI0.out), by repeat (first | (with_reducible first | exact HB.out | apply za14 | apply za7 | apply za9 | refine za8 ?_ (IsS89.ge HI0.out) | refine za8 ?_ GE291.out) | exact HB.out), by repeat (first | (with_reducible first | exact HK.out | apply KeepBut.set_ | apply keep_drewN | apply keep_drew | apply keep_alloc | refine keep_far ?_ GW291.out _) | exact HK.out)⟩
   ·rw [if_neg c33] at H
    have c33b0 : (t300 == 2) = false := beq_eq_false_iff_ne.mpr c33
    have c33b1 : (t300 != 2) = true := bne_iff_ne.mpr c33
    simp only [Option.some.injEq, Prod.mk.injEq] at H
    obtain ⟨rfl, rfl, rfl⟩ := H
    go_enter Try.func56, Try.ntmps56
    try go_wp2_with (first | ((with_reducible refine gate_dst (N := 4) rfl ?_); refine box_event ?hg (N := 4) ?hd (cs := #[.slice A1_0 l1_0.length c1_0, .int .i64 a1_1]) (t := 37) ?hr ?_; (case hd => rfl); (case hg => rfl); (case hr => first | (go_simp; done) | (go_simp; rfl)); intro gb291 hg w53 hbox hb; have n0_ := za1 (IsS89.below (by repeat (first | (with_reducible first | exact HI0.out | apply IsS89.alloc | apply IsS89.drewN | apply IsS89.drew | apply IsS89.set_1 | apply IsS89.set_2) | exact HI0.out)) hb); have n1_ := za1 (KeepBut.trans (by repeat (first | (with_reducible first | exact HK.out | apply KeepBut.set_ | apply keep_drewN | apply keep_drew | apply keep_alloc) | exact HK.out)) (KeepBut.of_below hb g none) (.inl rfl)); have n2_ := za1 (za28 (by repeat (first | (with_reducible first | exact HB.out | apply za14 | apply za7 | apply za9 | refine za8 ?_ (IsS89.ge HI0.out)) | exact HB.out)) hb); have n3_ := za1 (hbox); have n4_ := za1 ((by rw [hg]; exact (keep_size (w := w) (g := g) (row := none) (by repeat (first | (with_reducible first | exact HK.out | apply KeepBut.set_ | apply keep_drewN | apply keep_drew | apply keep_alloc) | exact HK.out))) : w.heap.size ≤ gb291)); have n5_ := za1 ((Nat.le_trans HW0.out (by rw [hg]; exact (keep_size (w := w) (g := g) (row := none) (by repeat (first | (with_reducible first | exact HK.out | apply KeepBut.set_ | apply keep_drewN | apply keep_drew | apply keep_alloc) | exact HK.out))) : w.heap.size ≤ gb291) : w0.heap.size ≤ gb291)); have n6_ := za1 ((by rw [hg]; exact Nat.ne_of_lt (IsS89.lt (show IsS89 w0 _ g s0_0 s0_1 s0_2 from by repeat (first | (with_reducible first | exact HI0.out | apply IsS89.alloc | apply IsS89.drewN | apply IsS89.drew | apply IsS89.set_1 | apply IsS89.set_2) | exact HI0.out))) : g ≠ gb291)); have n7_ := za1 ((by rw [hg]; exact Nat.ne_of_gt (IsS89.lt (show IsS89 w0 _ g s0_0 s0_1 s0_2 from by repeat (first | (with_reducible first | exact HI0.out | apply IsS89.alloc | apply IsS89.drewN | apply IsS89.drew | apply IsS89.set_1 | apply IsS89.set_2) | exact HI0.out))) : gb291 ≠ g)); clear HI0; clear HK; clear HB; have HI0 := n0_; have HK := n1_; have HB := n2_; have BK291 := n3_; have GW291 := n4_; have GE291 := n5_; have NB0_291 := n6_; have NB291_0 := n7_; clear n0_ n1_ n2_ n3_ n4_ n5_ n6_ n7_; clear hb hbox hg))
    have n0_ := za1 (za12 BK291.out)
    have n1_ := za1 (IsS89.drew HI0.out)
    have n2_ := za1 (keep_drew HK.out)
    have n3_ := za1 (za9 HB.out)
    clear BK291
    clear HI0
    clear HK
    clear HB
    have BK291 := n0_
    have HI0 := n1_
    have HK := n2_
    have HB := n3_
    clear n0_ n1_ n2_ n3_
    refine start_ (n := 6) (S := fun w' => w'.cell? ⟨gb291, 0, none⟩ = some (.slice A1_0 l1_0.length c1_0) ∧ w'.cell? ⟨gb291, 1, none⟩ = some (.int .i64 a1_1)) (ds := []) #[false, false, false, false, false, false] (by kernel_rfl) rfl rfl ⟨(za15 BK291.out 0).trans rfl, (za15 BK291.out 1).trans rfl⟩ (fun hHeld => ?_)
    generalize w53.drew = w54 at BK291 HI0 HK HB hHeld ⊢
    refine pure_ (i := 0) (N := some 8) (v := ?_) (a' := ?_) #[true, false, false, false, false, false] rfl rfl (by kernel_rfl) (fun _ _ _ h => h) (Or.inl ⟨by rfl, ?_⟩) ?_ ?_
    rotate_left
    ·intro w'
     go_simp
     with_reducible rfl
    rotate_left
    ·simp only [Act.put, za0, za2, za3, i64_w, i32_w]
     rfl
    refine pure_ (i := 3) (N := some 11) (v := ?_) (a' := ?_) #[true, false, false, true, false, false] rfl rfl (by kernel_rfl) (fun _ _ _ h => h) (Or.inl ⟨by rfl, ?_⟩) ?_ ?_
    rotate_left
    ·intro w'
     go_simp
     with_reducible rfl
    rotate_left
    ·simp only [Act.put, za0, za2, za3, i64_w, i32_w]
     rfl
    refine take_ (i := 2) (N := some 10) (v := ?_) (a' := ?_) #[true, false, true, true, false, false] rfl rfl (by kernel_rfl) (fun _ _ _ h => h) (Or.inl ⟨by rfl, ?_⟩) hHeld ?_ ?_
    rotate_left
    ·rintro w' ⟨s0, s1⟩
     go_simp
     with_reducible rfl
    rotate_left
    ·simp only [Act.put, za0, za2, za3, i64_w, i32_w]
     rfl
    refine one_ (i := 1) (N := some 9) #[true, true, true, true, false, false] rfl rfl (by kernel_rfl) (by decide) (fun K hK => ?_)
    refine goes_ Try.func49 (by kernel_rfl) rfl #[.pointer (some ⟨g, 0, none⟩)] (by rfl) rfl rfl (by (try simp only [za18, za26, za27]); first | done | rfl | (simp only [za20, za19]; rfl)) ?_
    with_reducible refine (spec_l6Held.calls k g s0_0 s0_1 s0_2 t292 t295 t296 w0 _ ?side1 ?side2 A4.out).mono ?_
    (case side1 => repeat (first | (with_reducible first | exact HI0.out | apply IsS89.alloc | apply IsS89.drewN | apply IsS89.drew | apply IsS89.set_1 | apply IsS89.set_2 | refine IsS89.far ?_ NB0_291.out _) | exact HI0.out))
    (case side2 => repeat (first | (with_reducible first | exact HB.out | apply za14 | apply za7 | apply za9 | refine za8 ?_ (IsS89.ge HI0.out) | refine za8 ?_ GE291.out) | exact HB.out))
    rintro e w55 ⟨v293, rfl, ho0, hi, hb, hk⟩
    refine ⟨_, rfl, ?_⟩
    have n0_ := za1 (KeepBut.blk hk (g' := gb291) (o := .cells #[.slice A1_0 l1_0.length c1_0, .int .i64 a1_1] 37 (0, 0)) (by (with_reducible repeat (first | refine za11 ?_ _ | refine za12 ?_ | refine za13 ?_ _)); exact BK291.out) NB291_0.out (by simp))
    have n1_ := za1 (za31 ho0 (keep_size (w := w) (g := g) (row := none) (by repeat (first | (with_reducible first | exact HK.out | apply KeepBut.set_ | apply keep_drewN | apply keep_drew | apply keep_alloc | refine keep_far ?_ GW291.out _) | exact HK.out))))
    have n2_ := za1 (KeepBut.trans (by repeat (first | (with_reducible first | exact HK.out | apply KeepBut.set_ | apply keep_drewN | apply keep_drew | apply keep_alloc | refine keep_far ?_ GW291.out _) | exact HK.out)) hk (.inl rfl))
    have n3_ := za1 (hb)
    have n4_ := za1 (hi)
    clear BK291
    clear HK
    clear HB
    clear HI0
    have BK291 := n0_
    have HO294 := n1_
    have HK := n2_
    have HB := n3_
    have HI0 := n4_
    clear n0_ n1_ n2_ n3_ n4_
    (try clear hb)
    (try clear hb2)
    (try clear hk)
    (try clear hi)
    (try clear ho0)
    obtain ⟨Ao56, co56, eo56⟩ := Kd.R_slice HO294.out
    (first | subst eo56 | (injection eo56 with f1_ f2_ f3_; have f4_ := f1_.symm; have f5_ := f3_.symm; clear f1_ f2_ f3_; subst f4_; subst f5_))
    refine hK.out _ _ ⟨(za15 BK291.out 0).trans rfl, (za15 BK291.out 1).trans rfl⟩ (fun hHeld => ?_)
    clear hK K
    refine norm_ (a' := ?_) ?_ ?_
    rotate_left
    ·show Act.put _ (some 9) _ = _
     simp only [Act.put, za0, za2, za3, i64_w, i32_w]
     rfl
    refine one_ (i := 4) (N := some 12) #[true, true, true, true, true, false] rfl rfl (by kernel_rfl) (by decide) (fun K hK => ?_)
    refine goes_ Try.func73 (by kernel_rfl) rfl #[.slice Ao56 t292.length co56, .agg #[.slice A1_0 l1_0.length c1_0, .int .i64 a1_1], .slice A2 l2.length c2] (by rfl) rfl rfl (by (try simp only [za18, za26, za27]); first | done | rfl | (simp only [za20, za19]; rfl)) ?_
    with_reducible refine (spec_SignBy.calls k _ _ t292 _ _ l1_0 a1_1 _ _ l2 t297 _ ?side1 ?side2 ?side3 ?side4 ?side5 ?side6 A5.out).mono ?_
    (case side1 => repeat (first | exact (za10 HO294.out).2.2 | (with_reducible refine za24 ?_ _) | (with_reducible refine za22 ?_ _) | (with_reducible refine za23 ?_)))
    (case side2 => exact (za10 HO294.out).2.1)
    (case side3 => exact Kd.C_keep 0 HR1_0.out (by repeat (first | (with_reducible first | exact HK.out | apply KeepBut.set_ | apply keep_drewN | apply keep_drew | apply keep_alloc | refine keep_far ?_ GW291.out _) | exact HK.out)) hf1_0)
    (case side4 => exact HC1_0.out)
    (case side5 => exact Kd.C_keep 0 HR2.out (by repeat (first | (with_reducible first | exact HK.out | apply KeepBut.set_ | apply keep_drewN | apply keep_drew | apply keep_alloc | refine keep_far ?_ GW291.out _) | exact HK.out)) hf2)
    (case side6 => exact HC2.out)
    rintro e w57 ⟨v298, rfl, ho0, hb⟩
    refine ⟨_, rfl, ?_⟩
    have n0_ := za1 (Kd.R_below (by (with_reducible repeat (first | apply za5 | apply za4 | apply za6)); exact HO294.out) hb)
    have n1_ := za1 (za31 ho0 (keep_size (w := w) (g := g) (row := none) (by repeat (first | (with_reducible first | exact HK.out | apply KeepBut.set_ | apply keep_drewN | apply keep_drew | apply keep_alloc | refine keep_far ?_ GW291.out _) | exact HK.out))))
    have n2_ := za1 (IsS89.below (by repeat (first | (with_reducible first | exact HI0.out | apply IsS89.alloc | apply IsS89.drewN | apply IsS89.drew | apply IsS89.set_1 | apply IsS89.set_2 | refine IsS89.far ?_ NB0_291.out _) | exact HI0.out)) hb)
    have n3_ := za1 (za17 (g := gb291) (o := .cells #[.slice A1_0 l1_0.length c1_0, .int .i64 a1_1] 37 (0, 0)) (by (with_reducible repeat (first | refine za11 ?_ _ | refine za12 ?_ | refine za13 ?_ _)); exact BK291.out) hb)
    have n4_ := za1 (KeepBut.trans (by repeat (first | (with_reducible first | exact HK.out | apply KeepBut.set_ | apply keep_drewN | apply keep_drew | apply keep_alloc | refine keep_far ?_ GW291.out _) | exact HK.out)) (KeepBut.of_below hb g none) (.inl rfl))
    have n5_ := za1 (za28 (by repeat (first | (with_reducible first | exact HB.out | apply za14 | apply za7 | apply za9 | refine za8 ?_ (IsS89.ge HI0.out) | refine za8 ?_ GE291.out) | exact HB.out)) hb)
    clear HO294
    clear HI0
    clear BK291
    clear HK
    clear HB
    have HO294 := n0_
    have HO299 := n1_
    have HI0 := n2_
    have BK291 := n3_
    have HK := n4_
    have HB := n5_
    clear n0_ n1_ n2_ n3_ n4_ n5_
    (try clear hb)
    (try clear hb2)
    (try clear hk)
    (try clear hi)
    (try clear ho0)
    refine hK.out _ _ ⟨(za15 BK291.out 0).trans rfl, (za15 BK291.out 1).trans rfl⟩ (fun hHeld => ?_)
    clear hK K
    refine norm_ (a' := ?_) ?_ ?_
    rotate_left
    ·show Act.put _ (some 12) _ = _
     simp only [Act.put, za0, za2, za3, i64_w, i32_w]
     rfl
    refine pure_ (i := 5) (N := some 7) (v := ?_) (a' := ?_) #[true, true, true, true, true, true] rfl rfl (by kernel_rfl) (fun _ _ _ h => h) (Or.inl ⟨by rfl, ?_⟩) ?_ ?_
    rotate_left
    ·intro w'
     go_simp
     with_reducible rfl
    rotate_left
    ·simp only [Act.put, za0, za2, za3, i64_w, i32_w]
     rfl
    refine done_ (by kernel_rfl) ?_
    try go_wp2_with (first | ((with_reducible refine gate_callee (f := 60) rfl ?_); refine goesL_ (some 14) rfl rfl Try.func60 (by kernel_rfl) rfl #[.pointer (some ⟨g, 0, none⟩), .int .i64 6] rfl (by (try simp only [za18, za26, za27]); first | done | rfl | (simp only [za20, za19]; rfl)) ?_; (with_reducible refine (spec_l1Below.calls g s0_0 t295 t296 6 t300 t301 t302 w0 _ ?side1 ?side2 A6.out).mono ?_); (case side1 => repeat (first | (with_reducible first | exact HI0.out | apply IsS89.alloc | apply IsS89.drewN | apply IsS89.drew | apply IsS89.set_1 | apply IsS89.set_2 | refine IsS89.far ?_ NB0_291.out _) | exact HI0.out)); (case side2 => repeat (first | (with_reducible first | exact HB.out | apply za14 | apply za7 | apply za9 | refine za8 ?_ (IsS89.ge HI0.out) | refine za8 ?_ GE291.out) | exact HB.out)); rintro e w58 ⟨rfl, hi, hb, hk⟩; refine ⟨_, rfl, ?_⟩; have n0_ := za1 (KeepBut.blk hk (g' := gb291) (o := .cells #[.slice A1_0 l1_0.length c1_0, .int .i64 a1_1] 37 (0, 0)) (by (with_reducible repeat (first | refine za11 ?_ _ | refine za12 ?_ | refine za13 ?_ _)); exact BK291.out) NB291_0.out (by simp)); have n1_ := za1 (za21 (Kd.R_keep (IsS89.apart (show IsS89 w0 _ g s0_0 t295 t296 from by repeat (first | (with_reducible first | exact HI0.out | apply IsS89.alloc | apply IsS89.drewN | apply IsS89.drew | apply IsS89.set_1 | apply IsS89.set_2 | refine IsS89.far ?_ NB0_291.out _) | exact HI0.out)) (by (with_reducible repeat (first | apply za5 | apply za4 | apply za6)); exact HO294.out) (by decide)) hk (fun _ h => h.2)) (fun _ h => h.1)); have n2_ := za1 (za21 (Kd.R_keep (IsS89.apart (show IsS89 w0 _ g s0_0 t295 t296 from by repeat (first | (with_reducible first | exact HI0.out | apply IsS89.alloc | apply IsS89.drewN | apply IsS89.drew | apply IsS89.set_1 | apply IsS89.set_2 | refine IsS89.far ?_ NB0_291.out _) | exact HI0.out)) (by (with_reducible repeat (first | apply za5 | apply za4 | apply za6)); exact HO299.out) (by decide)) hk (fun _ h => h.2)) (fun _ h => h.1)); have n3_ := za1 (KeepBut.trans (by repeat (first | (with_reducible first | exact HK.out | apply KeepBut.set_ | apply keep_drewN | apply keep_drew | apply keep_alloc | refine keep_far ?_ GW291.out _) | exact HK.out)) hk (.inl rfl)); have n4_ := za1 (hb); have n5_ := za1 (hi); clear BK291; clear HO294; clear HO299; clear HK; clear HB; clear HI0; have BK291 := n0_; have HO294 := n1_; have HO299 := n2_; have HK := n3_; have HB := n4_; have HI0 := n5_; clear n0_ n1_ n2_ n3_ n4_ n5_; (try clear hb); (try clear hb2); (try clear hk); (try clear hi)))
    go_ret
    exact ⟨_, by first | rfl | (simp [errW_none, errW_some] <;> rfl) | (simp [*, errW_none, errW_some] <;> rfl), by (with_reducible repeat (first | apply za5 | apply za4 | apply za6)); exact HO299.out, by repeat (first | (with_reducible first | exact HI0.out | apply IsS89.alloc | apply IsS89.drewN | apply IsS89.drew | apply IsS89.set_1 | apply IsS89.set_2 | refine IsS89.far ?_ NB0_291.out _) | exact HI0.out), by repeat (first | (with_reducible first | exact HB.out | apply za14 | apply za7 | apply za9 | refine za8 ?_ (IsS89.ge HI0.out) | refine za8 ?_ GE291.out) | exact HB.out), by repeat (first | (with_reducible first | exact HK.out | apply KeepBut.set_ | apply keep_drewN | apply keep_drew | apply keep_alloc | refine keep_far ?_ GW291.out _) | exact HK.out)⟩

end Go.Proofs.Ytanogkaledgecaa.PFnThresholds
