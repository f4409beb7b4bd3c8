/- The machine's side of a law: what its Go functions compute, as Lean functions, and the walks that show it; laid by this session's program (wip/tools) out of the translation. Conditions: those of each theorem. -/
import Derived.Test.YtanogkaledgecaaPFnThresholdsx0
import Derived.Test.YtanogkaledgecaaPFnThresholdsx1
namespace Go.Proofs.Ytanogkaledgecaa.PFnThresholds
open Go.RowKit Go.Proofs.YtanogkaledgecaaW.PrintWords Go.Proofs.YtanogkaledgecaaW.PrintLast Go.Proofs.YtanogkaledgecaaW.PrintMore
attribute [local go_sem] max2_int min2_int max_two min_two max_three min_three max_four min_four   -- for this text's walks alone
set_option linter.unusedVariables false
set_option linter.unusedSimpArgs false

/-! ### spec_l6Any: function 50 -/
def spec_l6Any.f (k : Nat) (s0_0 : List Int) (s0_1 : Int) (s0_2 : Int) : Option (List Int × Int × Int × Int) := (spec_l6Keys.f k s0_0 s0_1 s0_2).bind fun bt151 => ((spec_l1Below.f s0_0 bt151.2.2.1 bt151.2.2.2 10).bind fun bt158 => (if bt158.1 = 0 then ((spec_l1Int.f s0_0 bt158.2.1 bt158.2.2 (([0, (-1), 5] : List Int))).bind fun bt164 => (some (bt151.1, bt164.1, bt164.2.1, bt164.2.2))) else (if bt158.1 = 1 then ((spec_l1Int.f s0_0 bt158.2.1 bt158.2.2 (([1, 99, 100] : List Int))).bind fun bt170 => (if bt151.1.length < 17592186044416 then (some ((bt151.1 ++ [bt170.1]), bt151.2.1, bt170.2.1, bt170.2.2)) else (none))) else (if bt158.1 = 2 then (some ((([] : List Int)), bt151.2.1, bt158.2.1, bt158.2.2)) else (some (bt151.1, bt151.2.1, bt158.2.1, bt158.2.2))))))
theorem spec_l6Any.mono : ∀ a0 a1 a2 k, LeO (spec_l6Any.f k a0 a1 a2) (spec_l6Any.f (k + 1) a0 a1 a2) := by
  intro a0 a1 a2 k
  unfold spec_l6Any.f
  repeat' first
      | (with_reducible exact spec_l6Keys.mono _ _ _ _)
      | (with_reducible exact LeO.refl _)
      | (with_reducible exact za34 _)
      | (with_reducible refine za33 ?_ ?_)
      | (with_reducible refine za32 ?_ (fun _ => ?_))
      | exact spec_l6Keys.mono _ _ _ _
      | exact za34 _
      | refine za33 ?_ ?_
      | refine za32 ?_ (fun _ => ?_)
def spec_l6Any.T6 : Bool × List (List Nat × List Nat) := (true, [([], []), ([0], [0]), ([], []), ([], []), ([2, 3], [2, 3]), ([4], [4]), ([1, 5, 4], [1, 5]), ([0, 1, 2, 3, 4, 5, 6], []), ([7, 6, 6, 0, 1, 2, 3, 4, 5, 6], [6, 7])])
def spec_l6Any.B6 : List Nat := [0, 1, 0, 0, 12, 28, 63, 127, 255]
theorem spec_l6Any.tab6 : rtab .any (opsOf Try.f50 6) = spec_l6Any.T6 := by kernel_rfl
theorem spec_l6Any.bits6 : waitsOk spec_l6Any.T6.2 spec_l6Any.B6 = true := by kernel_rfl
set_option maxHeartbeats 8000000 in
set_option maxRecDepth 100000 in
theorem spec_l6Any.calls (k : Nat) (g : Nat) (s0_0 : List Int) (s0_1 : Int) (s0_2 : Int) (r1 : List Int) (r2 : Int) (r3 : Int) (r4 : Int) (w0 w : World) (hI : IsS89 w0 w g s0_0 s0_1 s0_2) (hB : Below w0.heap.size w0 w) (h : spec_l6Any.f k s0_0 s0_1 s0_2 = some (r1, r2, r3, r4)) :
  Calls Try.prog 50 #[.pointer (some ⟨g, 0, none⟩)] w fun e w' => ∃ v0_ : Value, e = .returned (.agg #[v0_, .int .i64 r2]) ∧ Kd.R (Kd.int .i64) 3 w' w.heap.size (fun _ => True) v0_ r1 ∧ IsS89 w0 w' g s0_0 r3 r4 ∧ Below w0.heap.size w0 w' ∧ KeepBut w w' g none := by
 have hu37 := Try.underlying37
 have HI0 := za1 hI
 have HK := za1 (KeepBut.refl w g none)
 have HL := za1 hB.size
 clear hI
 have HW0 := za1 hB.size
 have HB := za1 hB
 clear hB
 have H : ((spec_l6Keys.f k s0_0 s0_1 s0_2).bind fun bt151 => ((spec_l1Below.f s0_0 bt151.2.2.1 bt151.2.2.2 10).bind fun bt158 => (if bt158.1 = 0 then ((spec_l1Int.f s0_0 bt158.2.1 bt158.2.2 (([0, (-1), 5] : List Int))).bind fun bt164 => (some (bt151.1, bt164.1, bt164.2.1, bt164.2.2))) else (if bt158.1 = 1 then ((spec_l1Int.f s0_0 bt158.2.1 bt158.2.2 (([1, 99, 100] : List Int))).bind fun bt170 => (if bt151.1.length < 17592186044416 then (some ((bt151.1 ++ [bt170.1]), bt151.2.1, bt170.2.1, bt170.2.2)) else (none))) else (if bt158.1 = 2 then (some ((([] : List Int)), bt151.2.1, bt158.2.1, bt158.2.2)) else (some (bt151.1, bt151.2.1, bt158.2.1, bt158.2.2))))))) = some (r1, r2, r3, r4) := h
 clear h
 replace H := za16.mp H
 obtain ⟨⟨t151, t154, t155, t156⟩, A20, H⟩ := H
 replace H : ((spec_l1Below.f s0_0 t155 t156 10).bind fun bt158 => (if bt158.1 = 0 then ((spec_l1Int.f s0_0 bt158.2.1 bt158.2.2 (([0, (-1), 5] : List Int))).bind fun bt164 => (some (t151, bt164.1, bt164.2.1, bt164.2.2))) else (if bt158.1 = 1 then ((spec_l1Int.f s0_0 bt158.2.1 bt158.2.2 (([1, 99, 100] : List Int))).bind fun bt170 => (if t151.length < 17592186044416 then (some ((t151 ++ [bt170.1]), t154, bt170.2.1, bt170.2.2)) else (none))) else (if bt158.1 = 2 then (some ((([] : List Int)), t154, bt158.2.1, bt158.2.2)) else (some (t151, t154, bt158.2.1, bt158.2.2)))))) = some (r1, r2, r3, r4) := H
 have A2 := za1 A20
 clear A20
 replace H := za16.mp H
 obtain ⟨⟨t158, t159, t160⟩, A30, H⟩ := H
 replace H : (if t158 = 0 then ((spec_l1Int.f s0_0 t159 t160 (([0, (-1), 5] : List Int))).bind fun bt164 => (some (t151, bt164.1, bt164.2.1, bt164.2.2))) else (if t158 = 1 then ((spec_l1Int.f s0_0 t159 t160 (([1, 99, 100] : List Int))).bind fun bt170 => (if t151.length < 17592186044416 then (some ((t151 ++ [bt170.1]), t154, bt170.2.1, bt170.2.2)) else (none))) else (if t158 = 2 then (some ((([] : List Int)), t154, t159, t160)) else (some (t151, t154, t159, t160))))) = some (r1, r2, r3, r4) := H
 have A3 := za1 A30
 clear A30
 by_cases c4 : t158 = 0
 ·rw [if_pos c4] at H
  have c4b0 : (t158 == 0) = true := beq_iff_eq.mpr c4
  have c4b1 : (t158 != 0) = false := bne_eq_false_iff_eq.mpr c4
  clear c4
  obtain ⟨y161, hy161⟩ : ∃ y_ : List Int, y_ = (([0, (-1), 5] : List Int)) := ⟨_, rfl⟩
  replace H : ((spec_l1Int.f s0_0 t159 t160 y161).bind fun bt164 => (some (t151, bt164.1, bt164.2.1, bt164.2.2))) = some (r1, r2, r3, r4) := by first | (rw [hy161]; with_reducible exact H) | (have H2_ := (za36 _ _).symm.trans H; rw [hy161]; with_reducible exact H2_) | (have H2_ := (za36 _ _).symm.trans H; with_reducible exact H2_) | with_reducible exact H | (rw [hy161]; exact H) | exact H
  have Ny161 := za1 hy161
  clear hy161
  replace H := za16.mp H
  obtain ⟨⟨t164, t165, t166⟩, A50, H⟩ := H
  replace H : (some (t151, t164, t165, t166)) = some (r1, r2, r3, r4) := H
  have A5 := za1 A50
  clear A50
  simp only [Option.some.injEq, Prod.mk.injEq] at H
  obtain ⟨rfl, rfl, rfl, rfl⟩ := H
  go_enter Try.func50, Try.ntmps50
  go_wp2_with (first | ((with_reducible refine gate_dst (N := 2) rfl ?_); refine box_event ?hg (N := 2) ?hd (cs := #[.slice none 0 0, .int .i64 0]) (t := 37) ?hr ?_; (case hd => rfl); (case hg => rfl); (case hr => first | (go_simp; done) | (go_simp; rfl)); intro gb150 hg w6 hbox hb; have n0_ := za1 (IsS89.below (by repeat (first | (with_reducible first | exact HI0.out | apply IsS89.alloc | apply IsS89.drewN | apply IsS89.drew | apply IsS89.set_1 | apply IsS89.set_2) | exact HI0.out)) hb); have n1_ := za1 (KeepBut.trans (by repeat (first | (with_reducible first | exact HK.out | apply KeepBut.set_ | apply keep_drewN | apply keep_drew | apply keep_alloc) | exact HK.out)) (KeepBut.of_below hb g none) (.inl rfl)); have n2_ := za1 (za28 (by repeat (first | (with_reducible first | exact HB.out | apply za14 | apply za7 | apply za9 | refine za8 ?_ (IsS89.ge HI0.out)) | exact HB.out)) hb); have n3_ := za1 (hbox); have n4_ := za1 ((by rw [hg]; exact (keep_size (w := w) (g := g) (row := none) (by repeat (first | (with_reducible first | exact HK.out | apply KeepBut.set_ | apply keep_drewN | apply keep_drew | apply keep_alloc) | exact HK.out))) : w.heap.size ≤ gb150)); have n5_ := za1 ((Nat.le_trans HW0.out (by rw [hg]; exact (keep_size (w := w) (g := g) (row := none) (by repeat (first | (with_reducible first | exact HK.out | apply KeepBut.set_ | apply keep_drewN | apply keep_drew | apply keep_alloc) | exact HK.out))) : w.heap.size ≤ gb150) : w0.heap.size ≤ gb150)); have n6_ := za1 ((by rw [hg]; exact Nat.ne_of_lt (IsS89.lt (show IsS89 w0 _ g s0_0 s0_1 s0_2 from by repeat (first | (with_reducible first | exact HI0.out | apply IsS89.alloc | apply IsS89.drewN | apply IsS89.drew | apply IsS89.set_1 | apply IsS89.set_2) | exact HI0.out))) : g ≠ gb150)); have n7_ := za1 ((by rw [hg]; exact Nat.ne_of_gt (IsS89.lt (show IsS89 w0 _ g s0_0 s0_1 s0_2 from by repeat (first | (with_reducible first | exact HI0.out | apply IsS89.alloc | apply IsS89.drewN | apply IsS89.drew | apply IsS89.set_1 | apply IsS89.set_2) | exact HI0.out))) : gb150 ≠ g)); clear HI0; clear HK; clear HB; have HI0 := n0_; have HK := n1_; have HB := n2_; have BK150 := n3_; have GW150 := n4_; have GE150 := n5_; have NB0_150 := n6_; have NB150_0 := n7_; clear n0_ n1_ n2_ n3_ n4_ n5_ n6_ n7_; clear hb hbox hg) | ((with_reducible refine gate_callee (f := 71) rfl ?_); refine goesL_ (some 5) rfl rfl Try.func71 (by kernel_rfl) rfl #[.pointer (some ⟨g, 0, none⟩)] rfl (by (try simp only [za18, za26, za27]); first | done | rfl | (simp only [za20, za19]; rfl)) ?_; (with_reducible refine (spec_l6Keys.calls k g s0_0 s0_1 s0_2 t151 t154 t155 t156 w0 _ ?side1 ?side2 A2.out).mono ?_); (case side1 => repeat (first | (with_reducible first | exact HI0.out | apply IsS89.alloc | apply IsS89.drewN | apply IsS89.drew | apply IsS89.set_1 | apply IsS89.set_2 | refine IsS89.far ?_ NB0_150.out _) | exact HI0.out)); (case side2 => repeat (first | (with_reducible first | exact HB.out | apply za14 | apply za7 | apply za9 | refine za8 ?_ (IsS89.ge HI0.out) | refine za8 ?_ GE150.out) | exact HB.out)); rintro e w7 ⟨v152, rfl, ho0, hi, hb, hk⟩; refine ⟨_, rfl, ?_⟩; have n0_ := za1 (KeepBut.blk hk (g' := gb150) (o := .cells #[.slice none 0 0, .int .i64 0] 37 (0, 0)) (by (with_reducible repeat (first | refine za11 ?_ _ | refine za12 ?_ | refine za13 ?_ _)); exact BK150.out) NB150_0.out (by simp)); have n1_ := za1 (za31 ho0 (keep_size (w := w) (g := g) (row := none) (by repeat (first | (with_reducible first | exact HK.out | apply KeepBut.set_ | apply keep_drewN | apply keep_drew | apply keep_alloc | refine keep_far ?_ GW150.out _) | exact HK.out)))); have n2_ := za1 (KeepBut.trans (by repeat (first | (with_reducible first | exact HK.out | apply KeepBut.set_ | apply keep_drewN | apply keep_drew | apply keep_alloc | refine keep_far ?_ GW150.out _) | exact HK.out)) hk (.inl rfl)); have n3_ := za1 (hb); have n4_ := za1 (hi); clear BK150; clear HK; clear HB; clear HI0; have BK150 := n0_; have HO153 := n1_; have HK := n2_; have HB := n3_; have HI0 := n4_; clear n0_ n1_ n2_ n3_ n4_; (try clear hb); (try clear hb2); (try clear hk); (try clear hi); (try clear ho0)) | ((with_reducible refine gate_dst (N := 3) rfl ?_); refine box_event ?hg (N := 3) ?hd (cs := #[.slice none 0 0, .int .i64 0]) (t := 37) ?hr ?_; (case hd => rfl); (case hg => rfl); (case hr => first | (go_simp; done) | (go_simp; rfl)); intro gb157 hg w8 hbox hb; have n0_ := za1 (Kd.R_below (by (with_reducible repeat (first | apply za5 | apply za4 | apply za6)); exact HO153.out) hb); have n1_ := za1 (IsS89.below (by repeat (first | (with_reducible first | exact HI0.out | apply IsS89.alloc | apply IsS89.drewN | apply IsS89.drew | apply IsS89.set_1 | apply IsS89.set_2 | refine IsS89.far ?_ NB0_150.out _) | exact HI0.out)) hb); have n2_ := za1 (za17 (g := gb150) (o := .cells #[.slice none 0 0, .int .i64 0] 37 (0, 0)) (by (with_reducible repeat (first | refine za11 ?_ _ | refine za12 ?_ | refine za13 ?_ _)); exact BK150.out) hb); have n3_ := za1 (KeepBut.trans (by repeat (first | (with_reducible first | exact HK.out | apply KeepBut.set_ | apply keep_drewN | apply keep_drew | apply keep_alloc | refine keep_far ?_ GW150.out _) | exact HK.out)) (KeepBut.of_below hb g none) (.inl rfl)); have n4_ := za1 (za28 (by repeat (first | (with_reducible first | exact HB.out | apply za14 | apply za7 | apply za9 | refine za8 ?_ (IsS89.ge HI0.out) | refine za8 ?_ GE150.out) | exact HB.out)) hb); have n5_ := za1 (hbox); have n6_ := za1 ((by rw [hg]; exact (keep_size (w := w) (g := g) (row := none) (by repeat (first | (with_reducible first | exact HK.out | apply KeepBut.set_ | apply keep_drewN | apply keep_drew | apply keep_alloc | refine keep_far ?_ GW150.out _) | exact HK.out))) : w.heap.size ≤ gb157)); have n7_ := za1 ((Nat.le_trans HW0.out (by rw [hg]; exact (keep_size (w := w) (g := g) (row := none) (by repeat (first | (with_reducible first | exact HK.out | apply KeepBut.set_ | apply keep_drewN | apply keep_drew | apply keep_alloc | refine keep_far ?_ GW150.out _) | exact HK.out))) : w.heap.size ≤ gb157) : w0.heap.size ≤ gb157)); have n8_ := za1 ((by rw [hg]; exact Nat.ne_of_lt (blk_lt (g := gb150) (o := .cells #[.slice none 0 0, .int .i64 0] 37 (0, 0)) (by (with_reducible repeat (first | refine za11 ?_ _ | refine za12 ?_ | refine za13 ?_ _)); exact BK150.out)) : gb150 ≠ gb157)); have n9_ := za1 ((by rw [hg]; exact Nat.ne_of_gt (blk_lt (g := gb150) (o := .cells #[.slice none 0 0, .int .i64 0] 37 (0, 0)) (by (with_reducible repeat (first | refine za11 ?_ _ | refine za12 ?_ | refine za13 ?_ _)); exact BK150.out)) : gb157 ≠ gb150)); have n10_ := za1 ((by rw [hg]; exact Nat.ne_of_lt (IsS89.lt (show IsS89 w0 _ g s0_0 t155 t156 from by repeat (first | (with_reducible first | exact HI0.out | apply IsS89.alloc | apply IsS89.drewN | apply IsS89.drew | apply IsS89.set_1 | apply IsS89.set_2 | refine IsS89.far ?_ NB0_150.out _) | exact HI0.out))) : g ≠ gb157)); have n11_ := za1 ((by rw [hg]; exact Nat.ne_of_gt (IsS89.lt (show IsS89 w0 _ g s0_0 t155 t156 from by repeat (first | (with_reducible first | exact HI0.out | apply IsS89.alloc | apply IsS89.drewN | apply IsS89.drew | apply IsS89.set_1 | apply IsS89.set_2 | refine IsS89.far ?_ NB0_150.out _) | exact HI0.out))) : gb157 ≠ g)); clear HO153; clear HI0; clear BK150; clear HK; clear HB; have HO153 := n0_; have HI0 := n1_; have BK150 := n2_; have HK := n3_; have HB := n4_; have BK157 := n5_; have GW157 := n6_; have GE157 := n7_; have NB150_157 := n8_; have NB157_150 := n9_; have NB0_157 := n10_; have NB157_0 := n11_; clear n0_ n1_ n2_ n3_ n4_ n5_ n6_ n7_ n8_ n9_ n10_ n11_; clear hb hbox hg; obtain ⟨Ao9, co9, eo9⟩ := Kd.R_slice HO153.out; subst eo9; have hnb10 := NB157_150.out; have hnc10 := NB150_157.out; have hnb11 := NB157_0.out; have hnc11 := NB0_157.out; have hcz12_0 : w8.cell? ⟨gb157, 0, none⟩ = some (.slice none 0 0) := (za15 BK157.out 0).trans rfl; have hcz12_1 : w8.cell? ⟨gb157, 1, none⟩ = some (.int .i64 0) := (za15 BK157.out 1).trans rfl; have hfz12_0 := blk_frozen BK157.out 0; have hfz12_1 := blk_frozen BK157.out 1) | ((with_reducible refine gate_callee (f := 60) rfl ?_); refine goesL_ (some 7) rfl rfl Try.func60 (by kernel_rfl) rfl #[.pointer (some ⟨g, 0, none⟩), .int .i64 10] rfl (by (try simp only [za18, za26, za27]); first | done | rfl | (simp only [za20, za19]; rfl)) ?_; (with_reducible refine (spec_l1Below.calls g s0_0 t155 t156 10 t158 t159 t160 w0 _ ?side1 ?side2 A3.out).mono ?_); (case side1 => repeat (first | (with_reducible first | exact HI0.out | apply IsS89.alloc | apply IsS89.drewN | apply IsS89.drew | apply IsS89.set_1 | apply IsS89.set_2 | refine IsS89.far ?_ NB0_150.out _ | refine IsS89.far ?_ NB0_157.out _) | exact HI0.out)); (case side2 => repeat (first | (with_reducible first | exact HB.out | apply za14 | apply za7 | apply za9 | refine za8 ?_ (IsS89.ge HI0.out) | refine za8 ?_ GE150.out | refine za8 ?_ GE157.out) | exact HB.out)); rintro e w13 ⟨rfl, hi, hb, hk⟩; refine ⟨_, rfl, ?_⟩; have n0_ := za1 (KeepBut.blk hk (g' := gb150) (o := .cells #[.slice none 0 0, .int .i64 0] 37 (0, 0)) (by (with_reducible repeat (first | refine za11 ?_ _ | refine za12 ?_ | refine za13 ?_ _)); refine blk_far ?_ NB150_157.out _; (with_reducible repeat (first | refine za11 ?_ _ | refine za12 ?_ | refine za13 ?_ _)); refine blk_far ?_ NB150_157.out _; (with_reducible repeat (first | refine za11 ?_ _ | refine za12 ?_ | refine za13 ?_ _)); exact BK150.out) NB150_0.out (by simp)); have n1_ := za1 (za21 (Kd.R_keep (IsS89.apart (show IsS89 w0 _ g s0_0 t155 t156 from by repeat (first | (with_reducible first | exact HI0.out | apply IsS89.alloc | apply IsS89.drewN | apply IsS89.drew | apply IsS89.set_1 | apply IsS89.set_2 | refine IsS89.far ?_ NB0_150.out _ | refine IsS89.far ?_ NB0_157.out _) | exact HI0.out)) (by (with_reducible repeat (first | apply za5 | apply za4 | apply za6)); exact (za21 (Kd.R_far (p := ⟨gb157, 1, none⟩) (Kd.R_far (p := ⟨gb157, 0, none⟩) (Kd.R_types HO153.out BK157.out (by decide)) (fun _ hk => hk.2) (.slice Ao9 t151.length co9)) (fun _ hk => hk.2) (.int .i64 t154)) (fun _ h_ => h_.1))) (by decide)) hk (fun _ h => h.2)) (fun _ h => h.1)); have n2_ := za1 (KeepBut.blk hk (g' := gb157) (o := .cells #[.slice Ao9 t151.length co9, .int .i64 t154] 37 (0, 0)) (by (with_reducible repeat (first | refine za11 ?_ _ | refine za12 ?_ | refine za13 ?_ _)); refine blk_put (cs := #[.slice Ao9 t151.length co9, .int .i64 0]) ?_ 1 _ rfl; (with_reducible repeat (first | refine za11 ?_ _ | refine za12 ?_ | refine za13 ?_ _)); refine blk_put (cs := #[.slice none 0 0, .int .i64 0]) ?_ 0 _ rfl; (with_reducible repeat (first | refine za11 ?_ _ | refine za12 ?_ | refine za13 ?_ _)); exact BK157.out) NB157_0.out (by simp)); have n3_ := za1 (KeepBut.trans (by repeat (first | (with_reducible first | exact HK.out | apply KeepBut.set_ | apply keep_drewN | apply keep_drew | apply keep_alloc | refine keep_far ?_ GW150.out _ | refine keep_far ?_ GW157.out _) | exact HK.out)) hk (.inl rfl)); have n4_ := za1 (hb); have n5_ := za1 (hi); clear BK150; clear HO153; clear BK157; clear HK; clear HB; clear HI0; have BK150 := n0_; have HO153 := n1_; have BK157 := n2_; have HK := n3_; have HB := n4_; have HI0 := n5_; clear n0_ n1_ n2_ n3_ n4_ n5_; (try clear hb); (try clear hb2); (try clear hk); (try clear hi)) | ((with_reducible refine gate_dst (N := 11) rfl ?_); refine Kd.R_lit (Kd.int .i64) _ 3 ?hg (N := 11) ?hd (xs := ([0, (-1), 5] : List Int)) (inner := [.int .i64 0, .int .i64 (-1), .int .i64 5]) (ok := fun _ => True) (okp := fun _ => True) ?hr ?hp (fun _ hk => hk) trivial (Below.refl _ _) (Nat.le_refl _) (by simp) ?_; (case hd => rfl); (case hg => rfl); (case hr => first | (go_simp; done) | (go_simp; rfl)); (case hp => exact (Reps.one (show Kd.M (Kd.int .i64) _ _ _ 0 [.int .i64 0] from rfl) (Reps.one (show Kd.M (Kd.int .i64) _ _ _ (-1) [.int .i64 (-1)] from rfl) (Reps.one (show Kd.M (Kd.int .i64) _ _ _ 5 [.int .i64 5] from rfl) (Reps.none _ _))))); intro v162 w14 ho15 hb hg_ hnew_; clear hg_ hnew_; (first | rw [← Ny161.out] at ho15 | (simp only [Int.reduceToNat] at ho15; rw [← Ny161.out] at ho15)); have n0_ := za1 (Kd.R_elder' (by (with_reducible repeat (first | apply za5 | apply za4 | apply za6)); exact HO153.out) (Kd.R_base ho15) hb); have n1_ := za1 (za31 (Kd.R_new' ho15 (Kd.R_lt (by (with_reducible repeat (first | apply za5 | apply za4 | apply za6)); exact HO153.out))) (keep_size (w := w) (g := g) (row := none) (by repeat (first | (with_reducible first | exact HK.out | apply KeepBut.set_ | apply keep_drewN | apply keep_drew | apply keep_alloc | refine keep_far ?_ GW150.out _ | refine keep_far ?_ GW157.out _) | exact HK.out)))); have n2_ := za1 (IsS89.below (by repeat (first | (with_reducible first | exact HI0.out | apply IsS89.alloc | apply IsS89.drewN | apply IsS89.drew | apply IsS89.set_1 | apply IsS89.set_2 | refine IsS89.far ?_ NB0_150.out _ | refine IsS89.far ?_ NB0_157.out _) | exact HI0.out)) hb); have n3_ := za1 (za17 (g := gb150) (o := .cells #[.slice none 0 0, .int .i64 0] 37 (0, 0)) (by (with_reducible repeat (first | refine za11 ?_ _ | refine za12 ?_ | refine za13 ?_ _)); exact BK150.out) hb); have n4_ := za1 (za17 (g := gb157) (o := .cells #[.slice Ao9 t151.length co9, .int .i64 t154] 37 (0, 0)) (by (with_reducible repeat (first | refine za11 ?_ _ | refine za12 ?_ | refine za13 ?_ _)); exact BK157.out) hb); have n5_ := za1 (KeepBut.trans (by repeat (first | (with_reducible first | exact HK.out | apply KeepBut.set_ | apply keep_drewN | apply keep_drew | apply keep_alloc | refine keep_far ?_ GW150.out _ | refine keep_far ?_ GW157.out _) | exact HK.out)) (KeepBut.of_below hb g none) (.inl rfl)); have n6_ := za1 (za28 (by repeat (first | (with_reducible first | exact HB.out | apply za14 | apply za7 | apply za9 | refine za8 ?_ (IsS89.ge HI0.out) | refine za8 ?_ GE150.out | refine za8 ?_ GE157.out) | exact HB.out)) hb); clear HO153; clear HI0; clear BK150; clear BK157; clear HK; clear HB; have HO153 := n0_; have HO163 := n1_; have HI0 := n2_; have BK150 := n3_; have BK157 := n4_; have HK := n5_; have HB := n6_; clear n0_ n1_ n2_ n3_ n4_ n5_ n6_; clear hb ho15; obtain ⟨Ao16, co16, eo16⟩ := Kd.R_slice HO163.out; subst eo16) | ((with_reducible refine gate_callee (f := 59) rfl ?_); refine goesL_ (some 12) rfl rfl Try.func59 (by kernel_rfl) rfl #[.pointer (some ⟨g, 0, none⟩), .slice Ao16 y161.length co16] rfl (by (try simp only [za18, za26, za27]); first | done | rfl | (simp only [za20, za19]; rfl)) ?_; (with_reducible refine (spec_l1Int.calls g s0_0 t159 t160 _ _ y161 t164 t165 t166 w0 _ ?side1 ?side2 ?side3 ?side4 ?side5 A5.out).mono ?_); (case side1 => repeat (first | (with_reducible first | exact HI0.out | apply IsS89.alloc | apply IsS89.drewN | apply IsS89.drew | apply IsS89.set_1 | apply IsS89.set_2 | refine IsS89.far ?_ NB0_150.out _ | refine IsS89.far ?_ NB0_157.out _) | exact HI0.out)); (case side2 => repeat (first | (with_reducible first | exact HB.out | apply za14 | apply za7 | apply za9 | refine za8 ?_ (IsS89.ge HI0.out) | refine za8 ?_ GE150.out | refine za8 ?_ GE157.out) | exact HB.out)); (case side3 => repeat (first | exact (za10 HO163.out).2.2 | (with_reducible refine za24 ?_ _) | (with_reducible refine za22 ?_ _) | (with_reducible refine za23 ?_))); (case side4 => exact (za10 HO163.out).2.1); (case side5 => exact far_slice (IsS89.own_ne HI0.out HO163.out (by decide))); rintro e w17 ⟨rfl, hi, hb, hk⟩; refine ⟨_, rfl, ?_⟩; have n0_ := za1 (KeepBut.blk hk (g' := gb150) (o := .cells #[.slice none 0 0, .int .i64 0] 37 (0, 0)) (by (with_reducible repeat (first | refine za11 ?_ _ | refine za12 ?_ | refine za13 ?_ _)); exact BK150.out) NB150_0.out (by simp)); have n1_ := za1 (za21 (Kd.R_keep (IsS89.apart (show IsS89 w0 _ g s0_0 t159 t160 from by repeat (first | (with_reducible first | exact HI0.out | apply IsS89.alloc | apply IsS89.drewN | apply IsS89.drew | apply IsS89.set_1 | apply IsS89.set_2 | refine IsS89.far ?_ NB0_150.out _ | refine IsS89.far ?_ NB0_157.out _) | exact HI0.out)) (by (with_reducible repeat (first | apply za5 | apply za4 | apply za6)); exact HO153.out) (by decide)) hk (fun _ h => h.2)) (fun _ h => h.1)); have n2_ := za1 (KeepBut.blk hk (g' := gb157) (o := .cells #[.slice Ao9 t151.length co9, .int .i64 t154] 37 (0, 0)) (by (with_reducible repeat (first | refine za11 ?_ _ | refine za12 ?_ | refine za13 ?_ _)); exact BK157.out) NB157_0.out (by simp)); have n3_ := za1 (za21 (Kd.R_keep (IsS89.apart (show IsS89 w0 _ g s0_0 t159 t160 from by repeat (first | (with_reducible first | exact HI0.out | apply IsS89.alloc | apply IsS89.drewN | apply IsS89.drew | apply IsS89.set_1 | apply IsS89.set_2 | refine IsS89.far ?_ NB0_150.out _ | refine IsS89.far ?_ NB0_157.out _) | exact HI0.out)) (by (with_reducible repeat (first | apply za5 | apply za4 | apply za6)); exact HO163.out) (by decide)) hk (fun _ h => h.2)) (fun _ h => h.1)); have n4_ := za1 (KeepBut.trans (by repeat (first | (with_reducible first | exact HK.out | apply KeepBut.set_ | apply keep_drewN | apply keep_drew | apply keep_alloc | refine keep_far ?_ GW150.out _ | refine keep_far ?_ GW157.out _) | exact HK.out)) hk (.inl rfl)); have n5_ := za1 (hb); have n6_ := za1 (hi); clear BK150; clear HO153; clear BK157; clear HO163; clear HK; clear HB; clear HI0; have BK150 := n0_; have HO153 := n1_; have BK157 := n2_; have HO163 := n3_; have HK := n4_; have HB := n5_; have HI0 := n6_; clear n0_ n1_ n2_ n3_ n4_ n5_ n6_; (try clear hb); (try clear hb2); (try clear hk); (try clear hi); have hcz18_0 : w17.cell? ⟨gb157, 0, none⟩ = some (.slice Ao9 t151.length co9) := (za15 BK157.out 0).trans rfl; have hcz18_1 : w17.cell? ⟨gb157, 1, none⟩ = some (.int .i64 t154) := (za15 BK157.out 1).trans rfl; have hfz18_0 := blk_frozen BK157.out 0; have hfz18_1 := blk_frozen BK157.out 1; have hnb19 := NB150_0.out; have hnc19 := NB0_150.out; have hcz20_0 : w17.cell? ⟨gb150, 0, none⟩ = some (.slice none 0 0) := (za15 BK150.out 0).trans rfl; have hcz20_1 : w17.cell? ⟨gb150, 1, none⟩ = some (.int .i64 0) := (za15 BK150.out 1).trans rfl; have hfz20_0 := blk_frozen BK150.out 0; have hfz20_1 := blk_frozen BK150.out 1))
  refine bodyPost_ret (results_cell_row rfl _ _ gb150 37 #[.slice Ao9 t151.length co9, .int .i64 t164] (0, 0) _ rfl (by (with_reducible repeat (first | refine za11 ?_ _ | refine za12 ?_ | refine za13 ?_ _)); refine blk_put (cs := #[.slice Ao9 t151.length co9, .int .i64 0]) ?_ 1 _ rfl; (with_reducible repeat (first | refine za11 ?_ _ | refine za12 ?_ | refine za13 ?_ _)); refine blk_put (cs := #[.slice none 0 0, .int .i64 0]) ?_ 0 _ rfl; (with_reducible repeat (first | refine za11 ?_ _ | refine za12 ?_ | refine za13 ?_ _)); refine blk_far ?_ NB150_157.out _; (with_reducible repeat (first | refine za11 ?_ _ | refine za12 ?_ | refine za13 ?_ _)); exact BK150.out) Try.underlying37 rfl (by kernel_rfl)) rfl ?_
  exact ⟨_, by first | rfl | (simp [errW_none, errW_some] <;> rfl) | (simp [*, errW_none, errW_some] <;> rfl), by (with_reducible repeat (first | apply za5 | apply za4 | apply za6)); exact za21 (Kd.R_far (p := ⟨gb150, 1, none⟩) (Kd.R_far (p := ⟨gb150, 0, none⟩) (Kd.R_far (p := ⟨gb157, 1, none⟩) (Kd.R_types (Kd.R_types HO153.out BK157.out (by decide)) BK150.out (by decide)) (fun _ hk => hk.1.2) (.int .i64 t164)) (fun _ hk => hk.2) (.slice Ao9 t151.length co9)) (fun _ hk => hk.2) (.int .i64 t164)) (fun _ hk => trivial), by repeat (first | (with_reducible first | exact HI0.out | apply IsS89.alloc | apply IsS89.drewN | apply IsS89.drew | apply IsS89.set_1 | apply IsS89.set_2 | refine IsS89.far ?_ NB0_150.out _ | refine IsS89.far ?_ NB0_157.out _) | exact HI0.out), by repeat (first | (with_reducible first | exact HB.out | apply za14 | apply za7 | apply za9 | refine za8 ?_ (IsS89.ge HI0.out) | refine za8 ?_ GE150.out | refine za8 ?_ GE157.out) | exact HB.out), by repeat (first | (with_reducible first | exact HK.out | apply KeepBut.set_ | apply keep_drewN | apply keep_drew | apply keep_alloc | refine keep_far ?_ GW150.out _ | refine keep_far ?_ GW157.out _) | exact HK.out)⟩
 ·rw [if_neg c4] at H
  have c4b0 : (t158 == 0) = false := beq_eq_false_iff_ne.mpr c4
  have c4b1 : (t158 != 0) = true := bne_iff_ne.mpr c4
  by_cases c21 : t158 = 1
  ·rw [if_pos c21] at H
   have c21b0 : (t158 == 1) = true := beq_iff_eq.mpr c21
   have c21b1 : (t158 != 1) = false := bne_eq_false_iff_eq.mpr c21
   clear c21
   obtain ⟨y167, hy167⟩ : ∃ y_ : List Int, y_ = (([1, 99, 100] : List Int)) := ⟨_, rfl⟩
   replace H : ((spec_l1Int.f s0_0 t159 t160 y167).bind fun bt170 => (if t151.length < 17592186044416 then (some ((t151 ++ [bt170.1]), t154, bt170.2.1, bt170.2.2)) else (none))) = some (r1, r2, r3, r4) := by first | (rw [hy167]; with_reducible exact H) | (have H2_ := (za36 _ _).symm.trans H; rw [hy167]; with_reducible exact H2_) | (have H2_ := (za36 _ _).symm.trans H; with_reducible exact H2_) | with_reducible exact H | (rw [hy167]; exact H) | exact H
   have Ny167 := za1 hy167
   clear hy167
   replace H := za16.mp H
   obtain ⟨⟨t170, t171, t172⟩, A220, H⟩ := H
   replace H : (if t151.length < 17592186044416 then (some ((t151 ++ [t170]), t154, t171, t172)) else (none)) = some (r1, r2, r3, r4) := H
   have A22 := za1 A220
   clear A220
   by_cases c23 : t151.length < 17592186044416
   ·rw [if_pos c23] at H
    have LMc23 := za1 c23
    clear c23
    obtain ⟨y173, hy173⟩ : ∃ y_ : List Int, y_ = (t151 ++ [t170]) := ⟨_, rfl⟩
    replace H : (some (y173, t154, t171, t172)) = some (r1, r2, r3, r4) := by first | (rw [hy173]; with_reducible exact H) | (have H2_ := (za36 _ _).symm.trans H; rw [hy173]; with_reducible exact H2_) | (have H2_ := (za36 _ _).symm.trans H; with_reducible exact H2_) | with_reducible exact H | (rw [hy173]; exact H) | exact H
    have Ny173 := za1 hy173
    clear hy173
    simp only [Option.some.injEq, Prod.mk.injEq] at H
    obtain ⟨rfl, rfl, rfl, rfl⟩ := H
    go_enter Try.func50, Try.ntmps50
    try go_wp2_with (first | ((with_reducible refine gate_dst (N := 2) rfl ?_); refine box_event ?hg (N := 2) ?hd (cs := #[.slice none 0 0, .int .i64 0]) (t := 37) ?hr ?_; (case hd => rfl); (case hg => rfl); (case hr => first | (go_simp; done) | (go_simp; rfl)); intro gb150 hg w24 hbox hb; have n0_ := za1 (IsS89.below (by repeat (first | (with_reducible first | exact HI0.out | apply IsS89.alloc | apply IsS89.drewN | apply IsS89.drew | apply IsS89.set_1 | apply IsS89.set_2) | exact HI0.out)) hb); have n1_ := za1 (KeepBut.trans (by repeat (first | (with_reducible first | exact HK.out | apply KeepBut.set_ | apply keep_drewN | apply keep_drew | apply keep_alloc) | exact HK.out)) (KeepBut.of_below hb g none) (.inl rfl)); have n2_ := za1 (za28 (by repeat (first | (with_reducible first | exact HB.out | apply za14 | apply za7 | apply za9 | refine za8 ?_ (IsS89.ge HI0.out)) | exact HB.out)) hb); have n3_ := za1 (hbox); have n4_ := za1 ((by rw [hg]; exact (keep_size (w := w) (g := g) (row := none) (by repeat (first | (with_reducible first | exact HK.out | apply KeepBut.set_ | apply keep_drewN | apply keep_drew | apply keep_alloc) | exact HK.out))) : w.heap.size ≤ gb150)); have n5_ := za1 ((Nat.le_trans HW0.out (by rw [hg]; exact (keep_size (w := w) (g := g) (row := none) (by repeat (first | (with_reducible first | exact HK.out | apply KeepBut.set_ | apply keep_drewN | apply keep_drew | apply keep_alloc) | exact HK.out))) : w.heap.size ≤ gb150) : w0.heap.size ≤ gb150)); have n6_ := za1 ((by rw [hg]; exact Nat.ne_of_lt (IsS89.lt (show IsS89 w0 _ g s0_0 s0_1 s0_2 from by repeat (first | (with_reducible first | exact HI0.out | apply IsS89.alloc | apply IsS89.drewN | apply IsS89.drew | apply IsS89.set_1 | apply IsS89.set_2) | exact HI0.out))) : g ≠ gb150)); have n7_ := za1 ((by rw [hg]; exact Nat.ne_of_gt (IsS89.lt (show IsS89 w0 _ g s0_0 s0_1 s0_2 from by repeat (first | (with_reducible first | exact HI0.out | apply IsS89.alloc | apply IsS89.drewN | apply IsS89.drew | apply IsS89.set_1 | apply IsS89.set_2) | exact HI0.out))) : gb150 ≠ g)); clear HI0; clear HK; clear HB; have HI0 := n0_; have HK := n1_; have HB := n2_; have BK150 := n3_; have GW150 := n4_; have GE150 := n5_; have NB0_150 := n6_; have NB150_0 := n7_; clear n0_ n1_ n2_ n3_ n4_ n5_ n6_ n7_; clear hb hbox hg) | ((with_reducible refine gate_callee (f := 71) rfl ?_); refine goesL_ (some 5) rfl rfl Try.func71 (by kernel_rfl) rfl #[.pointer (some ⟨g, 0, none⟩)] rfl (by (try simp only [za18, za26, za27]); first | done | rfl | (simp only [za20, za19]; rfl)) ?_; (with_reducible refine (spec_l6Keys.calls k g s0_0 s0_1 s0_2 t151 t154 t155 t156 w0 _ ?side1 ?side2 A2.out).mono ?_); (case side1 => repeat (first | (with_reducible first | exact HI0.out | apply IsS89.alloc | apply IsS89.drewN | apply IsS89.drew | apply IsS89.set_1 | apply IsS89.set_2 | refine IsS89.far ?_ NB0_150.out _) | exact HI0.out)); (case side2 => repeat (first | (with_reducible first | exact HB.out | apply za14 | apply za7 | apply za9 | refine za8 ?_ (IsS89.ge HI0.out) | refine za8 ?_ GE150.out) | exact HB.out)); rintro e w25 ⟨v152, rfl, ho0, hi, hb, hk⟩; refine ⟨_, rfl, ?_⟩; have n0_ := za1 (KeepBut.blk hk (g' := gb150) (o := .cells #[.slice none 0 0, .int .i64 0] 37 (0, 0)) (by (with_reducible repeat (first | refine za11 ?_ _ | refine za12 ?_ | refine za13 ?_ _)); exact BK150.out) NB150_0.out (by simp)); have n1_ := za1 (za31 ho0 (keep_size (w := w) (g := g) (row := none) (by repeat (first | (with_reducible first | exact HK.out | apply KeepBut.set_ | apply keep_drewN | apply keep_drew | apply keep_alloc | refine keep_far ?_ GW150.out _) | exact HK.out)))); have n2_ := za1 (KeepBut.trans (by repeat (first | (with_reducible first | exact HK.out | apply KeepBut.set_ | apply keep_drewN | apply keep_drew | apply keep_alloc | refine keep_far ?_ GW150.out _) | exact HK.out)) hk (.inl rfl)); have n3_ := za1 (hb); have n4_ := za1 (hi); clear BK150; clear HK; clear HB; clear HI0; have BK150 := n0_; have HO153 := n1_; have HK := n2_; have HB := n3_; have HI0 := n4_; clear n0_ n1_ n2_ n3_ n4_; (try clear hb); (try clear hb2); (try clear hk); (try clear hi); (try clear ho0)) | ((with_reducible refine gate_dst (N := 3) rfl ?_); refine box_event ?hg (N := 3) ?hd (cs := #[.slice none 0 0, .int .i64 0]) (t := 37) ?hr ?_; (case hd => rfl); (case hg => rfl); (case hr => first | (go_simp; done) | (go_simp; rfl)); intro gb157 hg w26 hbox hb; have n0_ := za1 (Kd.R_below (by (with_reducible repeat (first | apply za5 | apply za4 | apply za6)); exact HO153.out) hb); have n1_ := za1 (IsS89.below (by repeat (first | (with_reducible first | exact HI0.out | apply IsS89.alloc | apply IsS89.drewN | apply IsS89.drew | apply IsS89.set_1 | apply IsS89.set_2 | refine IsS89.far ?_ NB0_150.out _) | exact HI0.out)) hb); have n2_ := za1 (za17 (g := gb150) (o := .cells #[.slice none 0 0, .int .i64 0] 37 (0, 0)) (by (with_reducible repeat (first | refine za11 ?_ _ | refine za12 ?_ | refine za13 ?_ _)); exact BK150.out) hb); have n3_ := za1 (KeepBut.trans (by repeat (first | (with_reducible first | exact HK.out | apply KeepBut.set_ | apply keep_drewN | apply keep_drew | apply keep_alloc | refine keep_far ?_ GW150.out _) | exact HK.out)) (KeepBut.of_below hb g none) (.inl rfl)); have n4_ := za1 (za28 (by repeat (first | (with_reducible first | exact HB.out | apply za14 | apply za7 | apply za9 | refine za8 ?_ (IsS89.ge HI0.out) | refine za8 ?_ GE150.out) | exact HB.out)) hb); have n5_ := za1 (hbox); have n6_ := za1 ((by rw [hg]; exact (keep_size (w := w) (g := g) (row := none) (by repeat (first | (with_reducible first | exact HK.out | apply KeepBut.set_ | apply keep_drewN | apply keep_drew | apply keep_alloc | refine keep_far ?_ GW150.out _) | exact HK.out))) : w.heap.size ≤ gb157)); have n7_ := za1 ((Nat.le_trans HW0.out (by rw [hg]; exact (keep_size (w := w) (g := g) (row := none) (by repeat (first | (with_reducible first | exact HK.out | apply KeepBut.set_ | apply keep_drewN | apply keep_drew | apply keep_alloc | refine keep_far ?_ GW150.out _) | exact HK.out))) : w.heap.size ≤ gb157) : w0.heap.size ≤ gb157)); have n8_ := za1 ((by rw [hg]; exact Nat.ne_of_lt (blk_lt (g := gb150) (o := .cells #[.slice none 0 0, .int .i64 0] 37 (0, 0)) (by (with_reducible repeat (first | refine za11 ?_ _ | refine za12 ?_ | refine za13 ?_ _)); exact BK150.out)) : gb150 ≠ gb157)); have n9_ := za1 ((by rw [hg]; exact Nat.ne_of_gt (blk_lt (g := gb150) (o := .cells #[.slice none 0 0, .int .i64 0] 37 (0, 0)) (by (with_reducible repeat (first | refine za11 ?_ _ | refine za12 ?_ | refine za13 ?_ _)); exact BK150.out)) : gb157 ≠ gb150)); have n10_ := za1 ((by rw [hg]; exact Nat.ne_of_lt (IsS89.lt (show IsS89 w0 _ g s0_0 t155 t156 from by repeat (first | (with_reducible first | exact HI0.out | apply IsS89.alloc | apply IsS89.drewN | apply IsS89.drew | apply IsS89.set_1 | apply IsS89.set_2 | refine IsS89.far ?_ NB0_150.out _) | exact HI0.out))) : g ≠ gb157)); have n11_ := za1 ((by rw [hg]; exact Nat.ne_of_gt (IsS89.lt (show IsS89 w0 _ g s0_0 t155 t156 from by repeat (first | (with_reducible first | exact HI0.out | apply IsS89.alloc | apply IsS89.drewN | apply IsS89.drew | apply IsS89.set_1 | apply IsS89.set_2 | refine IsS89.far ?_ NB0_150.out _) | exact HI0.out))) : gb157 ≠ g)); clear HO153; clear HI0; clear BK150; clear HK; clear HB; have HO153 := n0_; have HI0 := n1_; have BK150 := n2_; have HK := n3_; have HB := n4_; have BK157 := n5_; have GW157 := n6_; have GE157 := n7_; have NB150_157 := n8_; have NB157_150 := n9_; have NB0_157 := n10_; have NB157_0 := n11_; clear n0_ n1_ n2_ n3_ n4_ n5_ n6_ n7_ n8_ n9_ n10_ n11_; clear hb hbox hg; obtain ⟨Ao27, co27, eo27⟩ := Kd.R_slice HO153.out; subst eo27; have hnb28 := NB157_150.out; have hnc28 := NB150_157.out; have hnb29 := NB157_0.out; have hnc29 := NB0_157.out; have hcz30_0 : w26.cell? ⟨gb157, 0, none⟩ = some (.slice none 0 0) := (za15 BK157.out 0).trans rfl; have hcz30_1 : w26.cell? ⟨gb157, 1, none⟩ = some (.int .i64 0) := (za15 BK157.out 1).trans rfl; have hfz30_0 := blk_frozen BK157.out 0; have hfz30_1 := blk_frozen BK157.out 1) | ((with_reducible refine gate_callee (f := 60) rfl ?_); refine goesL_ (some 7) rfl rfl Try.func60 (by kernel_rfl) rfl #[.pointer (some ⟨g, 0, none⟩), .int .i64 10] rfl (by (try simp only [za18, za26, za27]); first | done | rfl | (simp only [za20, za19]; rfl)) ?_; (with_reducible refine (spec_l1Below.calls g s0_0 t155 t156 10 t158 t159 t160 w0 _ ?side1 ?side2 A3.out).mono ?_); (case side1 => repeat (first | (with_reducible first | exact HI0.out | apply IsS89.alloc | apply IsS89.drewN | apply IsS89.drew | apply IsS89.set_1 | apply IsS89.set_2 | refine IsS89.far ?_ NB0_150.out _ | refine IsS89.far ?_ NB0_157.out _) | exact HI0.out)); (case side2 => repeat (first | (with_reducible first | exact HB.out | apply za14 | apply za7 | apply za9 | refine za8 ?_ (IsS89.ge HI0.out) | refine za8 ?_ GE150.out | refine za8 ?_ GE157.out) | exact HB.out)); rintro e w31 ⟨rfl, hi, hb, hk⟩; refine ⟨_, rfl, ?_⟩; have n0_ := za1 (KeepBut.blk hk (g' := gb150) (o := .cells #[.slice none 0 0, .int .i64 0] 37 (0, 0)) (by (with_reducible repeat (first | refine za11 ?_ _ | refine za12 ?_ | refine za13 ?_ _)); refine blk_far ?_ NB150_157.out _; (with_reducible repeat (first | refine za11 ?_ _ | refine za12 ?_ | refine za13 ?_ _)); refine blk_far ?_ NB150_157.out _; (with_reducible repeat (first | refine za11 ?_ _ | refine za12 ?_ | refine za13 ?_ _)); exact BK150.out) NB150_0.out (by simp)); have n1_ := za1 (za21 (Kd.R_keep (IsS89.apart (show IsS89 w0 _ g s0_0 t155 t156 from by repeat (first | (with_reducible first | exact HI0.out | apply IsS89.alloc | apply IsS89.drewN | apply IsS89.drew | apply IsS89.set_1 | apply IsS89.set_2 | refine IsS89.far ?_ NB0_150.out _ | refine IsS89.far ?_ NB0_157.out _) | exact HI0.out)) (by (with_reducible repeat (first | apply za5 | apply za4 | apply za6)); exact (za21 (Kd.R_far (p := ⟨gb157, 1, none⟩) (Kd.R_far (p := ⟨gb157, 0, none⟩) (Kd.R_types HO153.out BK157.out (by decide)) (fun _ hk => hk.2) (.slice Ao27 t151.length co27)) (fun _ hk => hk.2) (.int .i64 t154)) (fun _ h_ => h_.1))) (by decide)) hk (fun _ h => h.2)) (fun _ h => h.1)); have n2_ := za1 (KeepBut.blk hk (g' := gb157) (o := .cells #[.slice Ao27 t151.length co27, .int .i64 t154] 37 (0, 0)) (by (with_reducible repeat (first | refine za11 ?_ _ | refine za12 ?_ | refine za13 ?_ _)); refine blk_put (cs := #[.slice Ao27 t151.length co27, .int .i64 0]) ?_ 1 _ rfl; (with_reducible repeat (first | refine za11 ?_ _ | refine za12 ?_ | refine za13 ?_ _)); refine blk_put (cs := #[.slice none 0 0, .int .i64 0]) ?_ 0 _ rfl; (with_reducible repeat (first | refine za11 ?_ _ | refine za12 ?_ | refine za13 ?_ _)); exact BK157.out) NB157_0.out (by simp)); have n3_ := za1 (KeepBut.trans (by repeat (first | (with_reducible first | exact HK.out | apply KeepBut.set_ | apply keep_drewN | apply keep_drew | apply keep_alloc | refine keep_far ?_ GW150.out _ | refine keep_far ?_ GW157.out _) | exact HK.out)) hk (.inl rfl)); have n4_ := za1 (hb); have n5_ := za1 (hi); clear BK150; clear HO153; clear BK157; clear HK; clear HB; clear HI0; have BK150 := n0_; have HO153 := n1_; have BK157 := n2_; have HK := n3_; have HB := n4_; have HI0 := n5_; clear n0_ n1_ n2_ n3_ n4_ n5_; (try clear hb); (try clear hb2); (try clear hk); (try clear hi)))
    have n0_ := za1 (za6 HO153.out)
    have n1_ := za1 (za12 BK150.out)
    have n2_ := za1 (za12 BK157.out)
    have n3_ := za1 (IsS89.drew HI0.out)
    have n4_ := za1 (keep_drew HK.out)
    have n5_ := za1 (za9 HB.out)
    clear HO153
    clear BK150
    clear BK157
    clear HI0
    clear HK
    clear HB
    have HO153 := n0_
    have BK150 := n1_
    have BK157 := n2_
    have HI0 := n3_
    have HK := n4_
    have HB := n5_
    clear n0_ n1_ n2_ n3_ n4_ n5_
    refine start_ (n := 9) (S := fun w' => w'.cell? ⟨gb157, 0, none⟩ = some (.slice Ao27 t151.length co27) ∧ w'.cell? ⟨gb157, 1, none⟩ = some (.int .i64 t154)) (ds := [8]) #[false, false, false, false, false, false, false, false, false] (by kernel_rfl) rfl rfl ⟨(za15 BK157.out 0).trans rfl, (za15 BK157.out 1).trans rfl⟩ (fun hHeld => ?_); refine with_tabW spec_l6Any.tab6 spec_l6Any.bits6 (fun HT_ HW_ => ?_)
    generalize w31.drew = w32 at HO153 BK150 BK157 HI0 HK HB hHeld ⊢
    refine pure_ (i := 0) (N := some 16) (v := ?_) (a' := ?_) #[true, false, false, false, false, false, false, false, false] rfl rfl (za25 HT_.out (by kernel_rfl)) (fun _ _ _ h => h) (Or.inl ⟨by rfl, ?_⟩) ?_ ?_
    rotate_left
    ·intro w'
     go_simp
     with_reducible rfl
    rotate_left
    ·simp only [Act.put, za0, za2, za3, i64_w, i32_w]
     rfl
    refine pure_ (i := 2) (N := some 18) (v := ?_) (a' := ?_) #[true, false, true, false, false, false, false, false, false] rfl rfl (za25 HT_.out (by kernel_rfl)) (fun _ _ _ h => h) (Or.inl ⟨by rfl, ?_⟩) ?_ ?_
    rotate_left
    ·intro w'
     go_simp
     with_reducible rfl
    rotate_left
    ·simp only [Act.put, za0, za2, za3, i64_w, i32_w]
     rfl
    refine take_ (i := 1) (N := some 17) (v := ?_) (a' := ?_) #[true, true, true, false, false, false, false, false, false] rfl rfl (take_ofW HT_.out HW_.out (by kernel_rfl)) (fun _ _ _ h => h) (Or.inl ⟨by rfl, ?_⟩) hHeld ?_ ?_
    rotate_left
    ·rintro w' ⟨s0, s1⟩
     go_simp
     with_reducible rfl
    rotate_left
    ·simp only [Act.put, za0, za2, za3, i64_w, i32_w]
     rfl
    refine one_ (i := 3) (N := some 19) #[true, true, true, true, false, false, false, false, false] rfl rfl (one_of HT_.out (by kernel_rfl)) (by decide) (fun K hK => ?_)
    refine Kd.R_lit_step (Kd.int .i64) _ 3 ?hg (N := 19) ?hd (xs := ([1, 99, 100] : List Int)) (inner := [.int .i64 1, .int .i64 99, .int .i64 100]) (ok := fun _ => True) (okp := fun _ => True) ?hr ?hp (fun _ hk => hk) trivial (Below.refl _ _) (Nat.le_refl _) (by simp) ?_; (case hd => rfl); (case hg => rfl); (case hr => first | (go_simp; done) | (go_simp; rfl)); (case hp => exact (Reps.one (show Kd.M (Kd.int .i64) _ _ _ 1 [.int .i64 1] from rfl) (Reps.one (show Kd.M (Kd.int .i64) _ _ _ 99 [.int .i64 99] from rfl) (Reps.one (show Kd.M (Kd.int .i64) _ _ _ 100 [.int .i64 100] from rfl) (Reps.none _ _)))))
    intro v168 w33 ho34 hb hg_ hnew_
    clear hg_ hnew_
    (first | rw [← Ny167.out] at ho34 | (simp only [Int.reduceToNat] at ho34; rw [← Ny167.out] at ho34))
    have n0_ := za1 (Kd.R_elder' (by (with_reducible repeat (first | apply za5 | apply za4 | apply za6)); exact HO153.out) (Kd.R_base ho34) hb)
    have n1_ := za1 (za31 (Kd.R_new' ho34 (Kd.R_lt (by (with_reducible repeat (first | apply za5 | apply za4 | apply za6)); exact HO153.out))) (keep_size (w := w) (g := g) (row := none) (by repeat (first | (with_reducible first | exact HK.out | apply KeepBut.set_ | apply keep_drewN | apply keep_drew | apply keep_alloc | refine keep_far ?_ GW150.out _ | refine keep_far ?_ GW157.out _) | exact HK.out))))
    have n2_ := za1 (IsS89.below (by repeat (first | (with_reducible first | exact HI0.out | apply IsS89.alloc | apply IsS89.drewN | apply IsS89.drew | apply IsS89.set_1 | apply IsS89.set_2 | refine IsS89.far ?_ NB0_150.out _ | refine IsS89.far ?_ NB0_157.out _) | exact HI0.out)) hb)
    have n3_ := za1 (za17 (g := gb150) (o := .cells #[.slice none 0 0, .int .i64 0] 37 (0, 0)) (by (with_reducible repeat (first | refine za11 ?_ _ | refine za12 ?_ | refine za13 ?_ _)); exact BK150.out) hb)
    have n4_ := za1 (za17 (g := gb157) (o := .cells #[.slice Ao27 t151.length co27, .int .i64 t154] 37 (0, 0)) (by (with_reducible repeat (first | refine za11 ?_ _ | refine za12 ?_ | refine za13 ?_ _)); exact BK157.out) hb)
    have n5_ := za1 (KeepBut.trans (by repeat (first | (with_reducible first | exact HK.out | apply KeepBut.set_ | apply keep_drewN | apply keep_drew | apply keep_alloc | refine keep_far ?_ GW150.out _ | refine keep_far ?_ GW157.out _) | exact HK.out)) (KeepBut.of_below hb g none) (.inl rfl))
    have n6_ := za1 (za28 (by repeat (first | (with_reducible first | exact HB.out | apply za14 | apply za7 | apply za9 | refine za8 ?_ (IsS89.ge HI0.out) | refine za8 ?_ GE150.out | refine za8 ?_ GE157.out) | exact HB.out)) hb)
    clear HO153
    clear HI0
    clear BK150
    clear BK157
    clear HK
    clear HB
    have HO153 := n0_
    have HO169 := n1_
    have HI0 := n2_
    have BK150 := n3_
    have BK157 := n4_
    have HK := n5_
    have HB := n6_
    clear n0_ n1_ n2_ n3_ n4_ n5_ n6_
    clear hb ho34
    obtain ⟨Ao35, co35, eo35⟩ := Kd.R_slice HO169.out
    (first | subst eo35 | (injection eo35 with f1_ f2_ f3_; have f4_ := f1_.symm; have f5_ := f3_.symm; clear f1_ f2_ f3_; subst f4_; subst f5_))
    refine hK.out _ _ ⟨(za15 BK157.out 0).trans rfl, (za15 BK157.out 1).trans rfl⟩ (fun hHeld => ?_)
    clear hK K
    refine norm_ (a' := ?_) ?_ ?_
    rotate_left
    ·show Act.put _ (some 19) _ = _
     simp only [Act.put, za0, za2, za3, i64_w, i32_w]
     rfl
    refine one_ (i := 4) (N := some 20) #[true, true, true, true, true, false, false, false, false] rfl rfl (one_of HT_.out (by kernel_rfl)) (by decide) (fun K hK => ?_)
    refine goes_ Try.func59 (by kernel_rfl) rfl #[.pointer (some ⟨g, 0, none⟩), .slice Ao35 y167.length co35] (by rfl) rfl rfl (by (try simp only [za18, za26, za27]); first | done | rfl | (simp only [za20, za19]; rfl)) ?_
    with_reducible refine (spec_l1Int.calls g s0_0 t159 t160 _ _ y167 t170 t171 t172 w0 _ ?side1 ?side2 ?side3 ?side4 ?side5 A22.out).mono ?_
    (case side1 => repeat (first | (with_reducible first | exact HI0.out | apply IsS89.alloc | apply IsS89.drewN | apply IsS89.drew | apply IsS89.set_1 | apply IsS89.set_2 | refine IsS89.far ?_ NB0_150.out _ | refine IsS89.far ?_ NB0_157.out _) | exact HI0.out))
    (case side2 => repeat (first | (with_reducible first | exact HB.out | apply za14 | apply za7 | apply za9 | refine za8 ?_ (IsS89.ge HI0.out) | refine za8 ?_ GE150.out | refine za8 ?_ GE157.out) | exact HB.out))
    (case side3 => repeat (first | exact (za10 HO169.out).2.2 | (with_reducible refine za24 ?_ _) | (with_reducible refine za22 ?_ _) | (with_reducible refine za23 ?_)))
    (case side4 => exact (za10 HO169.out).2.1)
    (case side5 => exact far_slice (IsS89.own_ne HI0.out HO169.out (by decide)))
    rintro e w36 ⟨rfl, hi, hb, hk⟩
    refine ⟨_, rfl, ?_⟩
    have n0_ := za1 (KeepBut.blk hk (g' := gb150) (o := .cells #[.slice none 0 0, .int .i64 0] 37 (0, 0)) (by (with_reducible repeat (first | refine za11 ?_ _ | refine za12 ?_ | refine za13 ?_ _)); exact BK150.out) NB150_0.out (by simp))
    have n1_ := za1 (za21 (Kd.R_keep (IsS89.apart (show IsS89 w0 _ g s0_0 t159 t160 from by repeat (first | (with_reducible first | exact HI0.out | apply IsS89.alloc | apply IsS89.drewN | apply IsS89.drew | apply IsS89.set_1 | apply IsS89.set_2 | refine IsS89.far ?_ NB0_150.out _ | refine IsS89.far ?_ NB0_157.out _) | exact HI0.out)) (by (with_reducible repeat (first | apply za5 | apply za4 | apply za6)); exact HO153.out) (by decide)) hk (fun _ h => h.2)) (fun _ h => h.1))
    have n2_ := za1 (KeepBut.blk hk (g' := gb157) (o := .cells #[.slice Ao27 t151.length co27, .int .i64 t154] 37 (0, 0)) (by (with_reducible repeat (first | refine za11 ?_ _ | refine za12 ?_ | refine za13 ?_ _)); exact BK157.out) NB157_0.out (by simp))
    have n3_ := za1 (za21 (Kd.R_keep (IsS89.apart (show IsS89 w0 _ g s0_0 t159 t160 from by repeat (first | (with_reducible first | exact HI0.out | apply IsS89.alloc | apply IsS89.drewN | apply IsS89.drew | apply IsS89.set_1 | apply IsS89.set_2 | refine IsS89.far ?_ NB0_150.out _ | refine IsS89.far ?_ NB0_157.out _) | exact HI0.out)) (by (with_reducible repeat (first | apply za5 | apply za4 | apply za6)); exact HO169.out) (by decide)) hk (fun _ h => h.2)) (fun _ h => h.1))
    have n4_ := za1 (KeepBut.trans (by repeat (first | (with_reducible first | exact HK.out | apply KeepBut.set_ | apply keep_drewN | apply keep_drew | apply keep_alloc | refine keep_far ?_ GW150.out _ | refine keep_far ?_ GW157.out _) | exact HK.out)) hk (.inl rfl))
    have n5_ := za1 (hb)
    have n6_ := za1 (hi)
    clear BK150
    clear HO153
    clear BK157
    clear HO169
    clear HK
    clear HB
    clear HI0
    have BK150 := n0_
    have HO153 := n1_
    have BK157 := n2_
    have HO169 := n3_
    have HK := n4_
    have HB := n5_
    have HI0 := n6_
    clear n0_ n1_ n2_ n3_ n4_ n5_ n6_
    (try clear hb)
    (try clear hb2)
    (try clear hk)
    (try clear hi)
    refine hK.out _ _ ⟨(za15 BK157.out 0).trans rfl, (za15 BK157.out 1).trans rfl⟩ (fun hHeld => ?_)
    clear hK K
    refine norm_ (a' := ?_) ?_ ?_
    rotate_left
    ·show Act.put _ (some 20) _ = _
     simp only [Act.put, za0, za2, za3, i64_w, i32_w]
     rfl
    refine one_ (i := 5) (N := some 21) #[true, true, true, true, true, true, false, false, false] rfl rfl (one_of HT_.out (by kernel_rfl)) (by decide) (fun K hK => ?_)
    refine value_ (w1 := ?_) (v := ?_) (by rfl) rfl ?_ ?_
    rotate_left 2
    ·go_simp
     constructor
     ·rfl
     ·rfl
    refine hK.out _ _ ⟨(za15 (za13 BK157.out _) 0).trans rfl, (za15 (za13 BK157.out _) 1).trans rfl⟩ (fun hHeld => ?_)
    clear hK K
    refine norm_ (a' := ?_) ?_ ?_
    rotate_left
    ·show Act.put _ (some 21) _ = _
     simp only [Act.put, za0, za2, za3, i64_w, i32_w]
     rfl
    refine one_ (i := 6) (N := some 22) #[true, true, true, true, true, true, true, false, false] rfl rfl (one_of HT_.out (by kernel_rfl)) (by decide) (fun K hK => ?_)
    refine Kd.R_append_step (Kd.int .i64) w.heap.size (by rfl) (.tmp 17) (.tmp 21) 22 3 (.int .i64 0) 8 rfl Try.underlying22 info3 rfl (by decide) (by omega) (.slice Ao27 t151.length co27) t151 t170 [.int .i64 t170] (fun k_ => some k_ ≠ (.slice Ao35 y167.length co35 : Value).ownBlock) (fun _ => False) rfl rfl ?aP (fun _ hk => hk.elim) ?aF ?aO (Below.refl _ _) ?aS ?aL ?_
    (case aP => exact rfl)
    (case aF => exact (fun k_ hk => Kd.fresh' (Kd.R_lt (by (with_reducible repeat (first | apply za5 | apply za4 | apply za6)); exact HO169.out)) k_ hk))
    (case aO => exact (by (with_reducible repeat (first | apply za5 | apply za4 | apply za6)); exact za21 HO153.out (fun _ hk => hk.2)))
    (case aS => exact (keep_size (w := w) (g := g) (row := none) (by repeat (first | (with_reducible first | exact HK.out | apply KeepBut.set_ | apply keep_drewN | apply keep_drew | apply keep_alloc | refine keep_far ?_ GW150.out _ | refine keep_far ?_ GW157.out _) | exact HK.out))))
    (case aL => have := LMc23.out; omega)
    intro v174 w37 ho hb hg hat
    rw [← Ny173.out] at ho
    have n0_ := za1 (IsS89.grown (by repeat (first | (with_reducible first | exact HI0.out | apply IsS89.alloc | apply IsS89.drewN | apply IsS89.drew | apply IsS89.set_1 | apply IsS89.set_2 | refine IsS89.far ?_ NB0_150.out _ | refine IsS89.far ?_ NB0_157.out _) | exact HI0.out)) hg (IsS89.own_ne HI0.out HO153.out (by decide)))
    have n1_ := za1 (blk_grown (g := gb150) (o := .cells #[.slice none 0 0, .int .i64 0] 37 (0, 0)) (by (with_reducible repeat (first | refine za11 ?_ _ | refine za12 ?_ | refine za13 ?_ _)); exact BK150.out) hg (Kd.R_ne HO153.out BK150.out (by decide)))
    have n2_ := za1 (blk_grown (g := gb157) (o := .cells #[.slice Ao27 t151.length co27, .int .i64 t154] 37 (0, 0)) (by (with_reducible repeat (first | refine za11 ?_ _ | refine za12 ?_ | refine za13 ?_ _)); exact BK157.out) hg (Kd.R_ne HO153.out BK157.out (by decide)))
    have n3_ := za1 (Kd.R_after (ok := (fun _ => True)) (by (with_reducible repeat (first | apply za5 | apply za4 | apply za6)); exact HO169.out) hg hat)
    have n4_ := za1 (below_weaken (by repeat (first | (with_reducible first | exact HB.out | apply za14 | apply za7 | apply za9 | refine za8 ?_ (IsS89.ge HI0.out) | refine za8 ?_ GE150.out | refine za8 ?_ GE157.out) | exact HB.out)) HL.out hb)
    have n5_ := za1 (KeepBut.trans (by repeat (first | (with_reducible first | exact HK.out | apply KeepBut.set_ | apply keep_drewN | apply keep_drew | apply keep_alloc | refine keep_far ?_ GW150.out _ | refine keep_far ?_ GW157.out _) | exact HK.out)) (KeepBut.of_grown hg g) (Kd.R_base2 HO153.out))
    have n6_ := za1 (ho)
    clear HI0
    clear BK150
    clear BK157
    clear HO169
    clear HB
    clear HK
    clear HO153
    have HI0 := n0_
    have BK150 := n1_
    have BK157 := n2_
    have HO169 := n3_
    have HB := n4_
    have HK := n5_
    have HO175 := n6_
    clear n0_ n1_ n2_ n3_ n4_ n5_ n6_
    clear ho hb hg hat
    obtain ⟨Ao38, co38, eo38⟩ := Kd.R_slice HO175.out
    (first | subst eo38 | (injection eo38 with f1_ f2_ f3_; have f4_ := f1_.symm; have f5_ := f3_.symm; clear f1_ f2_ f3_; subst f4_; subst f5_))
    refine hK.out _ _ ⟨(za15 BK157.out 0).trans rfl, (za15 BK157.out 1).trans rfl⟩ (fun hHeld => ?_)
    clear hK K
    refine norm_ (a' := ?_) ?_ ?_
    rotate_left
    ·show Act.put _ (some 22) _ = _
     simp only [Act.put, za0, za2, za3, i64_w, i32_w]
     rfl
    refine pure_ (i := 7) (N := some 23) (v := ?_) (a' := ?_) #[true, true, true, true, true, true, true, true, false] rfl rfl (za25 HT_.out (by kernel_rfl)) (fun _ _ _ h => h) (Or.inl ⟨by rfl, ?_⟩) ?_ ?_
    rotate_left
    ·intro w'
     go_simp
     with_reducible rfl
    rotate_left
    ·simp only [Act.put, za0, za2, za3, i64_w, i32_w]
     rfl
    refine last_ (i := 8) (N := none) #[true, true, true, true, true, true, true, true, true] rfl rfl (one_of HT_.out (by kernel_rfl)) (by decide) (fun K hK => ?_)
    have hs39 : w37.cell? ⟨gb157, 0, none⟩ = some (.slice Ao27 t151.length co27) := (za15 BK157.out 0).trans rfl
    have hfs39 := blk_frozen BK157.out 0
    have hns39_0 := NB150_157.out
    have hms39_0 := NB157_150.out
    refine skip_ (w1 := ?_) (by rfl) rfl ?_ ?_
    rotate_left
    ·go_simp
     rfl
    refine hK.out _ _ ?_
    clear hK K
    refine done_ (done_of HT_.out (by kernel_rfl)) ?_
    have hcz40_0 : w37.cell? ⟨gb157, 0, none⟩ = some (.slice Ao27 t151.length co27) := (za15 BK157.out 0).trans rfl
    have hcz40_1 : w37.cell? ⟨gb157, 1, none⟩ = some (.int .i64 t154) := (za15 BK157.out 1).trans rfl
    have hfz40_0 := blk_frozen BK157.out 0
    have hfz40_1 := blk_frozen BK157.out 1
    have hnb41 := NB150_0.out
    have hnc41 := NB0_150.out
    have hcz42_0 : w37.cell? ⟨gb150, 0, none⟩ = some (.slice none 0 0) := (za15 BK150.out 0).trans rfl
    have hcz42_1 : w37.cell? ⟨gb150, 1, none⟩ = some (.int .i64 0) := (za15 BK150.out 1).trans rfl
    have hfz42_0 := blk_frozen BK150.out 0
    have hfz42_1 := blk_frozen BK150.out 1
    try go_wp2
    refine bodyPost_ret (results_cell_row rfl _ _ gb150 37 #[.slice Ao38 y173.length co38, .int .i64 t154] (0, 0) _ rfl (by (with_reducible repeat (first | refine za11 ?_ _ | refine za12 ?_ | refine za13 ?_ _)); refine blk_put (cs := #[.slice Ao38 y173.length co38, .int .i64 0]) ?_ 1 _ rfl; (with_reducible repeat (first | refine za11 ?_ _ | refine za12 ?_ | refine za13 ?_ _)); refine blk_put (cs := #[.slice none 0 0, .int .i64 0]) ?_ 0 _ rfl; (with_reducible repeat (first | refine za11 ?_ _ | refine za12 ?_ | refine za13 ?_ _)); refine blk_far ?_ NB150_157.out _; (with_reducible repeat (first | refine za11 ?_ _ | refine za12 ?_ | refine za13 ?_ _)); exact BK150.out) Try.underlying37 rfl (by kernel_rfl)) rfl ?_
    exact ⟨_, by first | rfl | (simp [errW_none, errW_some] <;> rfl) | (simp [*, errW_none, errW_some] <;> rfl), by (with_reducible repeat (first | apply za5 | apply za4 | apply za6)); exact za21 (Kd.R_far (p := ⟨gb150, 1, none⟩) (Kd.R_far (p := ⟨gb150, 0, none⟩) (Kd.R_far (p := ⟨gb157, 0, none⟩) (Kd.R_types (Kd.R_types HO175.out BK157.out (by decide)) BK150.out (by decide)) (fun _ hk => hk.1.2) (.slice Ao38 y173.length co38)) (fun _ hk => hk.2) (.slice Ao38 y173.length co38)) (fun _ hk => hk.2) (.int .i64 t154)) (fun _ hk => trivial), by repeat (first | (with_reducible first | exact HI0.out | apply IsS89.alloc | apply IsS89.drewN | apply IsS89.drew | apply IsS89.set_1 | apply IsS89.set_2 | refine IsS89.far ?_ NB0_150.out _ | refine IsS89.far ?_ NB0_157.out _) | exact HI0.out), by repeat (first | (with_reducible first | exact HB.out | apply za14 | apply za7 | apply za9 | refine za8 ?_ (IsS89.ge HI0.out) | refine za8 ?_ GE150.out | refine za8 ?_ GE157.out) | exact HB.out), by repeat (first | (with_reducible first | exact HK.out | apply KeepBut.set_ | apply keep_drewN | apply keep_drew | apply keep_alloc | refine keep_far ?_ GW150.out _ | refine keep_far ?_ GW157.out _) | exact HK.out)⟩
   ·rw [if_neg c23] at H
    exact absurd H (by simp)
  ·rw [if_neg c21] at H
   have c21b0 : (t158 == 1) = false := beq_eq_false_iff_ne.mpr c21
   have c21b1 : (t158 != 1) = true := bne_iff_ne.mpr c21
   by_cases c43 : t158 = 2
   ·rw [if_pos c43] at H
    have c43b0 : (t158 == 2) = true := beq_iff_eq.mpr c43
    have c43b1 : (t158 != 2) = false := bne_eq_false_iff_eq.mpr c43
    clear c43
    obtain ⟨y176, hy176⟩ : ∃ y_ : List Int, y_ = (([] : List Int)) := ⟨_, rfl⟩
    replace H : (some (y176, t154, t159, t160)) = some (r1, r2, r3, r4) := by first | (rw [hy176]; with_reducible exact H) | (have H2_ := (za36 _ _).symm.trans H; rw [hy176]; with_reducible exact H2_) | (have H2_ := (za36 _ _).symm.trans H; with_reducible exact H2_) | with_reducible exact H | (rw [hy176]; exact H) | exact H
    have Ny176 := za1 hy176
    clear hy176
    simp only [Option.some.injEq, Prod.mk.injEq] at H
    obtain ⟨rfl, rfl, rfl, rfl⟩ := H
    go_enter Try.func50, Try.ntmps50
    go_wp2_with (first | ((with_reducible refine gate_dst (N := 2) rfl ?_); refine box_event ?hg (N := 2) ?hd (cs := #[.slice none 0 0, .int .i64 0]) (t := 37) ?hr ?_; (case hd => rfl); (case hg => rfl); (case hr => first | (go_simp; done) | (go_simp; rfl)); intro gb150 hg w44 hbox hb; have n0_ := za1 (IsS89.below (by repeat (first | (with_reducible first | exact HI0.out | apply IsS89.alloc | apply IsS89.drewN | apply IsS89.drew | apply IsS89.set_1 | apply IsS89.set_2) | exact HI0.out)) hb); have n1_ := za1 (KeepBut.trans (by repeat (first | (with_reducible first | exact HK.out | apply KeepBut.set_ | apply keep_drewN | apply keep_drew | apply keep_alloc) | exact HK.out)) (KeepBut.of_below hb g none) (.inl rfl)); have n2_ := za1 (za28 (by repeat (first | (with_reducible first | exact HB.out | apply za14 | apply za7 | apply za9 | refine za8 ?_ (IsS89.ge HI0.out)) | exact HB.out)) hb); have n3_ := za1 (hbox); have n4_ := za1 ((by rw [hg]; exact (keep_size (w := w) (g := g) (row := none) (by repeat (first | (with_reducible first | exact HK.out | apply KeepBut.set_ | apply keep_drewN | apply keep_drew | apply keep_alloc) | exact HK.out))) : w.heap.size ≤ gb150)); have n5_ := za1 ((Nat.le_trans HW0.out (by rw [hg]; exact (keep_size (w := w) (g := g) (row := none) (by repeat (first | (with_reducible first | exact HK.out | apply KeepBut.set_ | apply keep_drewN | apply keep_drew | apply keep_alloc) | exact HK.out))) : w.heap.size ≤ gb150) : w0.heap.size ≤ gb150)); have n6_ := za1 ((by rw [hg]; exact Nat.ne_of_lt (IsS89.lt (show IsS89 w0 _ g s0_0 s0_1 s0_2 from by repeat (first | (with_reducible first | exact HI0.out | apply IsS89.alloc | apply IsS89.drewN | apply IsS89.drew | apply IsS89.set_1 | apply IsS89.set_2) | exact HI0.out))) : g ≠ gb150)); have n7_ := za1 ((by rw [hg]; exact Nat.ne_of_gt (IsS89.lt (show IsS89 w0 _ g s0_0 s0_1 s0_2 from by repeat (first | (with_reducible first | exact HI0.out | apply IsS89.alloc | apply IsS89.drewN | apply IsS89.drew | apply IsS89.set_1 | apply IsS89.set_2) | exact HI0.out))) : gb150 ≠ g)); clear HI0; clear HK; clear HB; have HI0 := n0_; have HK := n1_; have HB := n2_; have BK150 := n3_; have GW150 := n4_; have GE150 := n5_; have NB0_150 := n6_; have NB150_0 := n7_; clear n0_ n1_ n2_ n3_ n4_ n5_ n6_ n7_; clear hb hbox hg) | ((with_reducible refine gate_callee (f := 71) rfl ?_); refine goesL_ (some 5) rfl rfl Try.func71 (by kernel_rfl) rfl #[.pointer (some ⟨g, 0, none⟩)] rfl (by (try simp only [za18, za26, za27]); first | done | rfl | (simp only [za20, za19]; rfl)) ?_; (with_reducible refine (spec_l6Keys.calls k g s0_0 s0_1 s0_2 t151 t154 t155 t156 w0 _ ?side1 ?side2 A2.out).mono ?_); (case side1 => repeat (first | (with_reducible first | exact HI0.out | apply IsS89.alloc | apply IsS89.drewN | apply IsS89.drew | apply IsS89.set_1 | apply IsS89.set_2 | refine IsS89.far ?_ NB0_150.out _) | exact HI0.out)); (case side2 => repeat (first | (with_reducible first | exact HB.out | apply za14 | apply za7 | apply za9 | refine za8 ?_ (IsS89.ge HI0.out) | refine za8 ?_ GE150.out) | exact HB.out)); rintro e w45 ⟨v152, rfl, ho0, hi, hb, hk⟩; refine ⟨_, rfl, ?_⟩; have n0_ := za1 (KeepBut.blk hk (g' := gb150) (o := .cells #[.slice none 0 0, .int .i64 0] 37 (0, 0)) (by (with_reducible repeat (first | refine za11 ?_ _ | refine za12 ?_ | refine za13 ?_ _)); exact BK150.out) NB150_0.out (by simp)); have n1_ := za1 (za31 ho0 (keep_size (w := w) (g := g) (row := none) (by repeat (first | (with_reducible first | exact HK.out | apply KeepBut.set_ | apply keep_drewN | apply keep_drew | apply keep_alloc | refine keep_far ?_ GW150.out _) | exact HK.out)))); have n2_ := za1 (KeepBut.trans (by repeat (first | (with_reducible first | exact HK.out | apply KeepBut.set_ | apply keep_drewN | apply keep_drew | apply keep_alloc | refine keep_far ?_ GW150.out _) | exact HK.out)) hk (.inl rfl)); have n3_ := za1 (hb); have n4_ := za1 (hi); clear BK150; clear HK; clear HB; clear HI0; have BK150 := n0_; have HO153 := n1_; have HK := n2_; have HB := n3_; have HI0 := n4_; clear n0_ n1_ n2_ n3_ n4_; (try clear hb); (try clear hb2); (try clear hk); (try clear hi); (try clear ho0)) | ((with_reducible refine gate_dst (N := 3) rfl ?_); refine box_event ?hg (N := 3) ?hd (cs := #[.slice none 0 0, .int .i64 0]) (t := 37) ?hr ?_; (case hd => rfl); (case hg => rfl); (case hr => first | (go_simp; done) | (go_simp; rfl)); intro gb157 hg w46 hbox hb; have n0_ := za1 (Kd.R_below (by (with_reducible repeat (first | apply za5 | apply za4 | apply za6)); exact HO153.out) hb); have n1_ := za1 (IsS89.below (by repeat (first | (with_reducible first | exact HI0.out | apply IsS89.alloc | apply IsS89.drewN | apply IsS89.drew | apply IsS89.set_1 | apply IsS89.set_2 | refine IsS89.far ?_ NB0_150.out _) | exact HI0.out)) hb); have n2_ := za1 (za17 (g := gb150) (o := .cells #[.slice none 0 0, .int .i64 0] 37 (0, 0)) (by (with_reducible repeat (first | refine za11 ?_ _ | refine za12 ?_ | refine za13 ?_ _)); exact BK150.out) hb); have n3_ := za1 (KeepBut.trans (by repeat (first | (with_reducible first | exact HK.out | apply KeepBut.set_ | apply keep_drewN | apply keep_drew | apply keep_alloc | refine keep_far ?_ GW150.out _) | exact HK.out)) (KeepBut.of_below hb g none) (.inl rfl)); have n4_ := za1 (za28 (by repeat (first | (with_reducible first | exact HB.out | apply za14 | apply za7 | apply za9 | refine za8 ?_ (IsS89.ge HI0.out) | refine za8 ?_ GE150.out) | exact HB.out)) hb); have n5_ := za1 (hbox); have n6_ := za1 ((by rw [hg]; exact (keep_size (w := w) (g := g) (row := none) (by repeat (first | (with_reducible first | exact HK.out | apply KeepBut.set_ | apply keep_drewN | apply keep_drew | apply keep_alloc | refine keep_far ?_ GW150.out _) | exact HK.out))) : w.heap.size ≤ gb157)); have n7_ := za1 ((Nat.le_trans HW0.out (by rw [hg]; exact (keep_size (w := w) (g := g) (row := none) (by repeat (first | (with_reducible first | exact HK.out | apply KeepBut.set_ | apply keep_drewN | apply keep_drew | apply keep_alloc | refine keep_far ?_ GW150.out _) | exact HK.out))) : w.heap.size ≤ gb157) : w0.heap.size ≤ gb157)); have n8_ := za1 ((by rw [hg]; exact Nat.ne_of_lt (blk_lt (g := gb150) (o := .cells #[.slice none 0 0, .int .i64 0] 37 (0, 0)) (by (with_reducible repeat (first | refine za11 ?_ _ | refine za12 ?_ | refine za13 ?_ _)); exact BK150.out)) : gb150 ≠ gb157)); have n9_ := za1 ((by rw [hg]; exact Nat.ne_of_gt (blk_lt (g := gb150) (o := .cells #[.slice none 0 0, .int .i64 0] 37 (0, 0)) (by (with_reducible repeat (first | refine za11 ?_ _ | refine za12 ?_ | refine za13 ?_ _)); exact BK150.out)) : gb157 ≠ gb150)); have n10_ := za1 ((by rw [hg]; exact Nat.ne_of_lt (IsS89.lt (show IsS89 w0 _ g s0_0 t155 t156 from by repeat (first | (with_reducible first | exact HI0.out | apply IsS89.alloc | apply IsS89.drewN | apply IsS89.drew | apply IsS89.set_1 | apply IsS89.set_2 | refine IsS89.far ?_ NB0_150.out _) | exact HI0.out))) : g ≠ gb157)); have n11_ := za1 ((by rw [hg]; exact Nat.ne_of_gt (IsS89.lt (show IsS89 w0 _ g s0_0 t155 t156 from by repeat (first | (with_reducible first | exact HI0.out | apply IsS89.alloc | apply IsS89.drewN | apply IsS89.drew | apply IsS89.set_1 | apply IsS89.set_2 | refine IsS89.far ?_ NB0_150.out _) | exact HI0.out))) : gb157 ≠ g)); clear HO153; clear HI0; clear BK150; clear HK; clear HB; have HO153 := n0_; have HI0 := n1_; have BK150 := n2_; have HK := n3_; have HB := n4_; have BK157 := n5_; have GW157 := n6_; have GE157 := n7_; have NB150_157 := n8_; have NB157_150 := n9_; have NB0_157 := n10_; have NB157_0 := n11_; clear n0_ n1_ n2_ n3_ n4_ n5_ n6_ n7_ n8_ n9_ n10_ n11_; clear hb hbox hg; obtain ⟨Ao47, co47, eo47⟩ := Kd.R_slice HO153.out; subst eo47; have hnb48 := NB157_150.out; have hnc48 := NB150_157.out; have hnb49 := NB157_0.out; have hnc49 := NB0_157.out; have hcz50_0 : w46.cell? ⟨gb157, 0, none⟩ = some (.slice none 0 0) := (za15 BK157.out 0).trans rfl; have hcz50_1 : w46.cell? ⟨gb157, 1, none⟩ = some (.int .i64 0) := (za15 BK157.out 1).trans rfl; have hfz50_0 := blk_frozen BK157.out 0; have hfz50_1 := blk_frozen BK157.out 1) | ((with_reducible refine gate_callee (f := 60) rfl ?_); refine goesL_ (some 7) rfl rfl Try.func60 (by kernel_rfl) rfl #[.pointer (some ⟨g, 0, none⟩), .int .i64 10] rfl (by (try simp only [za18, za26, za27]); first | done | rfl | (simp only [za20, za19]; rfl)) ?_; (with_reducible refine (spec_l1Below.calls g s0_0 t155 t156 10 t158 t159 t160 w0 _ ?side1 ?side2 A3.out).mono ?_); (case side1 => repeat (first | (with_reducible first | exact HI0.out | apply IsS89.alloc | apply IsS89.drewN | apply IsS89.drew | apply IsS89.set_1 | apply IsS89.set_2 | refine IsS89.far ?_ NB0_150.out _ | refine IsS89.far ?_ NB0_157.out _) | exact HI0.out)); (case side2 => repeat (first | (with_reducible first | exact HB.out | apply za14 | apply za7 | apply za9 | refine za8 ?_ (IsS89.ge HI0.out) | refine za8 ?_ GE150.out | refine za8 ?_ GE157.out) | exact HB.out)); rintro e w51 ⟨rfl, hi, hb, hk⟩; refine ⟨_, rfl, ?_⟩; have n0_ := za1 (KeepBut.blk hk (g' := gb150) (o := .cells #[.slice none 0 0, .int .i64 0] 37 (0, 0)) (by (with_reducible repeat (first | refine za11 ?_ _ | refine za12 ?_ | refine za13 ?_ _)); refine blk_far ?_ NB150_157.out _; (with_reducible repeat (first | refine za11 ?_ _ | refine za12 ?_ | refine za13 ?_ _)); refine blk_far ?_ NB150_157.out _; (with_reducible repeat (first | refine za11 ?_ _ | refine za12 ?_ | refine za13 ?_ _)); exact BK150.out) NB150_0.out (by simp)); have n1_ := za1 (za21 (Kd.R_keep (IsS89.apart (show IsS89 w0 _ g s0_0 t155 t156 from by repeat (first | (with_reducible first | exact HI0.out | apply IsS89.alloc | apply IsS89.drewN | apply IsS89.drew | apply IsS89.set_1 | apply IsS89.set_2 | refine IsS89.far ?_ NB0_150.out _ | refine IsS89.far ?_ NB0_157.out _) | exact HI0.out)) (by (with_reducible repeat (first | apply za5 | apply za4 | apply za6)); exact (za21 (Kd.R_far (p := ⟨gb157, 1, none⟩) (Kd.R_far (p := ⟨gb157, 0, none⟩) (Kd.R_types HO153.out BK157.out (by decide)) (fun _ hk => hk.2) (.slice Ao47 t151.length co47)) (fun _ hk => hk.2) (.int .i64 t154)) (fun _ h_ => h_.1))) (by decide)) hk (fun _ h => h.2)) (fun _ h => h.1)); have n2_ := za1 (KeepBut.blk hk (g' := gb157) (o := .cells #[.slice Ao47 t151.length co47, .int .i64 t154] 37 (0, 0)) (by (with_reducible repeat (first | refine za11 ?_ _ | refine za12 ?_ | refine za13 ?_ _)); refine blk_put (cs := #[.slice Ao47 t151.length co47, .int .i64 0]) ?_ 1 _ rfl; (with_reducible repeat (first | refine za11 ?_ _ | refine za12 ?_ | refine za13 ?_ _)); refine blk_put (cs := #[.slice none 0 0, .int .i64 0]) ?_ 0 _ rfl; (with_reducible repeat (first | refine za11 ?_ _ | refine za12 ?_ | refine za13 ?_ _)); exact BK157.out) NB157_0.out (by simp)); have n3_ := za1 (KeepBut.trans (by repeat (first | (with_reducible first | exact HK.out | apply KeepBut.set_ | apply keep_drewN | apply keep_drew | apply keep_alloc | refine keep_far ?_ GW150.out _ | refine keep_far ?_ GW157.out _) | exact HK.out)) hk (.inl rfl)); have n4_ := za1 (hb); have n5_ := za1 (hi); clear BK150; clear HO153; clear BK157; clear HK; clear HB; clear HI0; have BK150 := n0_; have HO153 := n1_; have BK157 := n2_; have HK := n3_; have HB := n4_; have HI0 := n5_; clear n0_ n1_ n2_ n3_ n4_ n5_; (try clear hb); (try clear hb2); (try clear hk); (try clear hi)) | ((with_reducible refine gate_dst (N := 26) rfl ?_); refine Kd.R_lit (Kd.int .i64) _ 3 ?hg (N := 26) ?hd (xs := ([] : List Int)) (inner := []) (ok := fun _ => True) (okp := fun _ => True) ?hr ?hp (fun _ hk => hk) trivial (Below.refl _ _) (Nat.le_refl _) (by simp) ?_; (case hd => rfl); (case hg => rfl); (case hr => first | (go_simp; done) | (go_simp; rfl)); (case hp => exact (Reps.none _ _)); intro v177 w52 ho53 hb hg_ hnew_; clear hg_ hnew_; (first | rw [← Ny176.out] at ho53 | (simp only [Int.reduceToNat] at ho53; rw [← Ny176.out] at ho53)); have n0_ := za1 (Kd.R_elder' (by (with_reducible repeat (first | apply za5 | apply za4 | apply za6)); exact HO153.out) (Kd.R_base ho53) hb); have n1_ := za1 (za31 (Kd.R_new' ho53 (Kd.R_lt (by (with_reducible repeat (first | apply za5 | apply za4 | apply za6)); exact HO153.out))) (keep_size (w := w) (g := g) (row := none) (by repeat (first | (with_reducible first | exact HK.out | apply KeepBut.set_ | apply keep_drewN | apply keep_drew | apply keep_alloc | refine keep_far ?_ GW150.out _ | refine keep_far ?_ GW157.out _) | exact HK.out)))); have n2_ := za1 (IsS89.below (by repeat (first | (with_reducible first | exact HI0.out | apply IsS89.alloc | apply IsS89.drewN | apply IsS89.drew | apply IsS89.set_1 | apply IsS89.set_2 | refine IsS89.far ?_ NB0_150.out _ | refine IsS89.far ?_ NB0_157.out _) | exact HI0.out)) hb); have n3_ := za1 (za17 (g := gb150) (o := .cells #[.slice none 0 0, .int .i64 0] 37 (0, 0)) (by (with_reducible repeat (first | refine za11 ?_ _ | refine za12 ?_ | refine za13 ?_ _)); exact BK150.out) hb); have n4_ := za1 (za17 (g := gb157) (o := .cells #[.slice Ao47 t151.length co47, .int .i64 t154] 37 (0, 0)) (by (with_reducible repeat (first | refine za11 ?_ _ | refine za12 ?_ | refine za13 ?_ _)); exact BK157.out) hb); have n5_ := za1 (KeepBut.trans (by repeat (first | (with_reducible first | exact HK.out | apply KeepBut.set_ | apply keep_drewN | apply keep_drew | apply keep_alloc | refine keep_far ?_ GW150.out _ | refine keep_far ?_ GW157.out _) | exact HK.out)) (KeepBut.of_below hb g none) (.inl rfl)); have n6_ := za1 (za28 (by repeat (first | (with_reducible first | exact HB.out | apply za14 | apply za7 | apply za9 | refine za8 ?_ (IsS89.ge HI0.out) | refine za8 ?_ GE150.out | refine za8 ?_ GE157.out) | exact HB.out)) hb); clear HO153; clear HI0; clear BK150; clear BK157; clear HK; clear HB; have HO153 := n0_; have HO178 := n1_; have HI0 := n2_; have BK150 := n3_; have BK157 := n4_; have HK := n5_; have HB := n6_; clear n0_ n1_ n2_ n3_ n4_ n5_ n6_; clear hb ho53; obtain ⟨Ao54, co54, eo54⟩ := Kd.R_slice HO178.out; subst eo54; have hcz55_0 : w52.cell? ⟨gb157, 0, none⟩ = some (.slice Ao47 t151.length co47) := (za15 BK157.out 0).trans rfl; have hcz55_1 : w52.cell? ⟨gb157, 1, none⟩ = some (.int .i64 t154) := (za15 BK157.out 1).trans rfl; have hfz55_0 := blk_frozen BK157.out 0; have hfz55_1 := blk_frozen BK157.out 1; have hnb56 := NB150_0.out; have hnc56 := NB0_150.out; have hcz57_0 : w52.cell? ⟨gb150, 0, none⟩ = some (.slice none 0 0) := (za15 BK150.out 0).trans rfl; have hcz57_1 : w52.cell? ⟨gb150, 1, none⟩ = some (.int .i64 0) := (za15 BK150.out 1).trans rfl; have hfz57_0 := blk_frozen BK150.out 0; have hfz57_1 := blk_frozen BK150.out 1))
    refine bodyPost_ret (results_cell_row rfl _ _ gb150 37 #[.slice Ao54 y176.length co54, .int .i64 t154] (0, 0) _ rfl (by (with_reducible repeat (first | refine za11 ?_ _ | refine za12 ?_ | refine za13 ?_ _)); refine blk_put (cs := #[.slice Ao54 y176.length co54, .int .i64 0]) ?_ 1 _ rfl; (with_reducible repeat (first | refine za11 ?_ _ | refine za12 ?_ | refine za13 ?_ _)); refine blk_put (cs := #[.slice none 0 0, .int .i64 0]) ?_ 0 _ rfl; (with_reducible repeat (first | refine za11 ?_ _ | refine za12 ?_ | refine za13 ?_ _)); refine blk_far ?_ NB150_157.out _; (with_reducible repeat (first | refine za11 ?_ _ | refine za12 ?_ | refine za13 ?_ _)); exact BK150.out) Try.underlying37 rfl (by kernel_rfl)) rfl ?_
    exact ⟨_, by first | rfl | (simp [errW_none, errW_some] <;> rfl) | (simp [*, errW_none, errW_some] <;> rfl), by (with_reducible repeat (first | apply za5 | apply za4 | apply za6)); exact za21 (Kd.R_far (p := ⟨gb150, 1, none⟩) (Kd.R_far (p := ⟨gb150, 0, none⟩) (Kd.R_far (p := ⟨gb157, 0, none⟩) (Kd.R_types (Kd.R_types HO178.out BK157.out (by decide)) BK150.out (by decide)) (fun _ hk => hk.1.2) (.slice Ao54 y176.length co54)) (fun _ hk => hk.2) (.slice Ao54 y176.length co54)) (fun _ hk => hk.2) (.int .i64 t154)) (fun _ hk => trivial), by repeat (first | (with_reducible first | exact HI0.out | apply IsS89.alloc | apply IsS89.drewN | apply IsS89.drew | apply IsS89.set_1 | apply IsS89.set_2 | refine IsS89.far ?_ NB0_150.out _ | refine IsS89.far ?_ NB0_157.out _) | exact HI0.out), by repeat (first | (with_reducible first | exact HB.out | apply za14 | apply za7 | apply za9 | refine za8 ?_ (IsS89.ge HI0.out) | refine za8 ?_ GE150.out | refine za8 ?_ GE157.out) | exact HB.out), by repeat (first | (with_reducible first | exact HK.out | apply KeepBut.set_ | apply keep_drewN | apply keep_drew | apply keep_alloc | refine keep_far ?_ GW150.out _ | refine keep_far ?_ GW157.out _) | exact HK.out)⟩
   ·rw [if_neg c43] at H
    have c43b0 : (t158 == 2) = false := beq_eq_false_iff_ne.mpr c43
    have c43b1 : (t158 != 2) = true := bne_iff_ne.mpr c43
    simp only [Option.some.injEq, Prod.mk.injEq] at H
    obtain ⟨rfl, rfl, rfl, rfl⟩ := H
    go_enter Try.func50, Try.ntmps50
    go_wp2_with (first | ((with_reducible refine gate_dst (N := 2) rfl ?_); refine box_event ?hg (N := 2) ?hd (cs := #[.slice none 0 0, .int .i64 0]) (t := 37) ?hr ?_; (case hd => rfl); (case hg => rfl); (case hr => first | (go_simp; done) | (go_simp; rfl)); intro gb150 hg w58 hbox hb; have n0_ := za1 (IsS89.below (by repeat (first | (with_reducible first | exact HI0.out | apply IsS89.alloc | apply IsS89.drewN | apply IsS89.drew | apply IsS89.set_1 | apply IsS89.set_2) | exact HI0.out)) hb); have n1_ := za1 (KeepBut.trans (by repeat (first | (with_reducible first | exact HK.out | apply KeepBut.set_ | apply keep_drewN | apply keep_drew | apply keep_alloc) | exact HK.out)) (KeepBut.of_below hb g none) (.inl rfl)); have n2_ := za1 (za28 (by repeat (first | (with_reducible first | exact HB.out | apply za14 | apply za7 | apply za9 | refine za8 ?_ (IsS89.ge HI0.out)) | exact HB.out)) hb); have n3_ := za1 (hbox); have n4_ := za1 ((by rw [hg]; exact (keep_size (w := w) (g := g) (row := none) (by repeat (first | (with_reducible first | exact HK.out | apply KeepBut.set_ | apply keep_drewN | apply keep_drew | apply keep_alloc) | exact HK.out))) : w.heap.size ≤ gb150)); have n5_ := za1 ((Nat.le_trans HW0.out (by rw [hg]; exact (keep_size (w := w) (g := g) (row := none) (by repeat (first | (with_reducible first | exact HK.out | apply KeepBut.set_ | apply keep_drewN | apply keep_drew | apply keep_alloc) | exact HK.out))) : w.heap.size ≤ gb150) : w0.heap.size ≤ gb150)); have n6_ := za1 ((by rw [hg]; exact Nat.ne_of_lt (IsS89.lt (show IsS89 w0 _ g s0_0 s0_1 s0_2 from by repeat (first | (with_reducible first | exact HI0.out | apply IsS89.alloc | apply IsS89.drewN | apply IsS89.drew | apply IsS89.set_1 | apply IsS89.set_2) | exact HI0.out))) : g ≠ gb150)); have n7_ := za1 ((by rw [hg]; exact Nat.ne_of_gt (IsS89.lt (show IsS89 w0 _ g s0_0 s0_1 s0_2 from by repeat (first | (with_reducible first | exact HI0.out | apply IsS89.alloc | apply IsS89.drewN | apply IsS89.drew | apply IsS89.set_1 | apply IsS89.set_2) | exact HI0.out))) : gb150 ≠ g)); clear HI0; clear HK; clear HB; have HI0 := n0_; have HK := n1_; have HB := n2_; have BK150 := n3_; have GW150 := n4_; have GE150 := n5_; have NB0_150 := n6_; have NB150_0 := n7_; clear n0_ n1_ n2_ n3_ n4_ n5_ n6_ n7_; clear hb hbox hg) | ((with_reducible refine gate_callee (f := 71) rfl ?_); refine goesL_ (some 5) rfl rfl Try.func71 (by kernel_rfl) rfl #[.pointer (some ⟨g, 0, none⟩)] rfl (by (try simp only [za18, za26, za27]); first | done | rfl | (simp only [za20, za19]; rfl)) ?_; (with_reducible refine (spec_l6Keys.calls k g s0_0 s0_1 s0_2 t151 t154 t155 t156 w0 _ ?side1 ?side2 A2.out).mono ?_); (case side1 => repeat (first | (with_reducible first | exact HI0.out | apply IsS89.alloc | apply IsS89.drewN | apply IsS89.drew | apply IsS89.set_1 | apply IsS89.set_2 | refine IsS89.far ?_ NB0_150.out _) | exact HI0.out)); (case side2 => repeat (first | (with_reducible first | exact HB.out | apply za14 | apply za7 | apply za9 | refine za8 ?_ (IsS89.ge HI0.out) | refine za8 ?_ GE150.out) | exact HB.out)); rintro e w59 ⟨v152, rfl, ho0, hi, hb, hk⟩; refine ⟨_, rfl, ?_⟩; have n0_ := za1 (KeepBut.blk hk (g' := gb150) (o := .cells #[.slice none 0 0, .int .i64 0] 37 (0, 0)) (by (with_reducible repeat (first | refine za11 ?_ _ | refine za12 ?_ | refine za13 ?_ _)); exact BK150.out) NB150_0.out (by simp)); have n1_ := za1 (za31 ho0 (keep_size (w := w) (g := g) (row := none) (by repeat (first | (with_reducible first | exact HK.out | apply KeepBut.set_ | apply keep_drewN | apply keep_drew | apply keep_alloc | refine keep_far ?_ GW150.out _) | exact HK.out)))); have n2_ := za1 (KeepBut.trans (by repeat (first | (with_reducible first | exact HK.out | apply KeepBut.set_ | apply keep_drewN | apply keep_drew | apply keep_alloc | refine keep_far ?_ GW150.out _) | exact HK.out)) hk (.inl rfl)); have n3_ := za1 (hb); have n4_ := za1 (hi); clear BK150; clear HK; clear HB; clear HI0; have BK150 := n0_; have HO153 := n1_; have HK := n2_; have HB := n3_; have HI0 := n4_; clear n0_ n1_ n2_ n3_ n4_; (try clear hb); (try clear hb2); (try clear hk); (try clear hi); (try clear ho0)) | ((with_reducible refine gate_dst (N := 3) rfl ?_); refine box_event ?hg (N := 3) ?hd (cs := #[.slice none 0 0, .int .i64 0]) (t := 37) ?hr ?_; (case hd => rfl); (case hg => rfl); (case hr => first | (go_simp; done) | (go_simp; rfl)); intro gb157 hg w60 hbox hb; have n0_ := za1 (Kd.R_below (by (with_reducible repeat (first | apply za5 | apply za4 | apply za6)); exact HO153.out) hb); have n1_ := za1 (IsS89.below (by repeat (first | (with_reducible first | exact HI0.out | apply IsS89.alloc | apply IsS89.drewN | apply IsS89.drew | apply IsS89.set_1 | apply IsS89.set_2 | refine IsS89.far ?_ NB0_150.out _) | exact HI0.out)) hb); have n2_ := za1 (za17 (g := gb150) (o := .cells #[.slice none 0 0, .int .i64 0] 37 (0, 0)) (by (with_reducible repeat (first | refine za11 ?_ _ | refine za12 ?_ | refine za13 ?_ _)); exact BK150.out) hb); have n3_ := za1 (KeepBut.trans (by repeat (first | (with_reducible first | exact HK.out | apply KeepBut.set_ | apply keep_drewN | apply keep_drew | apply keep_alloc | refine keep_far ?_ GW150.out _) | exact HK.out)) (KeepBut.of_below hb g none) (.inl rfl)); have n4_ := za1 (za28 (by repeat (first | (with_reducible first | exact HB.out | apply za14 | apply za7 | apply za9 | refine za8 ?_ (IsS89.ge HI0.out) | refine za8 ?_ GE150.out) | exact HB.out)) hb); have n5_ := za1 (hbox); have n6_ := za1 ((by rw [hg]; exact (keep_size (w := w) (g := g) (row := none) (by repeat (first | (with_reducible first | exact HK.out | apply KeepBut.set_ | apply keep_drewN | apply keep_drew | apply keep_alloc | refine keep_far ?_ GW150.out _) | exact HK.out))) : w.heap.size ≤ gb157)); have n7_ := za1 ((Nat.le_trans HW0.out (by rw [hg]; exact (keep_size (w := w) (g := g) (row := none) (by repeat (first | (with_reducible first | exact HK.out | apply KeepBut.set_ | apply keep_drewN | apply keep_drew | apply keep_alloc | refine keep_far ?_ GW150.out _) | exact HK.out))) : w.heap.size ≤ gb157) : w0.heap.size ≤ gb157)); have n8_ := za1 ((by rw [hg]; exact Nat.ne_of_lt (blk_lt (g := gb150) (o := .cells #[.slice none 0 0, .int .i64 0] 37 (0, 0)) (by (with_reducible repeat (first | refine za11 ?_ _ | refine za12 ?_ | refine za13 ?_ _)); exact BK150.out)) : gb150 ≠ gb157)); have n9_ := za1 ((by rw [hg]; exact Nat.ne_of_gt (blk_lt (g := gb150) (o := .cells #[.slice none 0 0, .int .i64 0] 37 (0, 0)) (by (with_reducible repeat (first | refine za11 ?_ _ | refine za12 ?_ | refine za13 ?_ _)); exact BK150.out)) : gb157 ≠ gb150)); have n10_ := za1 ((by rw [hg]; exact Nat.ne_of_lt (IsS89.lt (show IsS89 w0 _ g s0_0 t155 t156 from by repeat (first | (with_reducible first | exact HI0.out | apply IsS89.alloc | apply IsS89.drewN | apply IsS89.drew | apply IsS89.set_1 | apply IsS89.set_2 | refine IsS89.far ?_ NB0_150.out _) | exact HI0.out))) : g ≠ gb157)); have n11_ := za1 ((by rw [hg]; exact Nat.ne_of_gt (IsS89.lt (show IsS89 w0 _ g s0_0 t155 t156 from by repeat (first | (with_reducible first | exact HI0.out | apply IsS89.alloc | apply IsS89.drewN | apply IsS89.drew | apply IsS89.set_1 | apply IsS89.set_2 | refine IsS89.far ?_ NB0_150.out _) | exact HI0.out))) : gb157 ≠ g)); clear HO153; clear HI0; clear BK150; clear HK; clear HB; have HO153 := n0_; have HI0 := n1_; have BK150 := n2_; have HK := n3_; have HB := n4_; have BK157 := n5_; have GW157 := n6_; have GE157 := n7_; have NB150_157 := n8_; have NB157_150 := n9_; have NB0_157 := n10_; have NB157_0 := n11_; clear n0_ n1_ n2_ n3_ n4_ n5_ n6_ n7_ n8_ n9_ n10_ n11_; clear hb hbox hg; obtain ⟨Ao61, co61, eo61⟩ := Kd.R_slice HO153.out; subst eo61; have hnb62 := NB157_150.out; have hnc62 := NB150_157.out; have hnb63 := NB157_0.out; have hnc63 := NB0_157.out; have hcz64_0 : w60.cell? ⟨gb157, 0, none⟩ = some (.slice none 0 0) := (za15 BK157.out 0).trans rfl; have hcz64_1 : w60.cell? ⟨gb157, 1, none⟩ = some (.int .i64 0) := (za15 BK157.out 1).trans rfl; have hfz64_0 := blk_frozen BK157.out 0; have hfz64_1 := blk_frozen BK157.out 1) | ((with_reducible refine gate_callee (f := 60) rfl ?_); refine goesL_ (some 7) rfl rfl Try.func60 (by kernel_rfl) rfl #[.pointer (some ⟨g, 0, none⟩), .int .i64 10] rfl (by (try simp only [za18, za26, za27]); first | done | rfl | (simp only [za20, za19]; rfl)) ?_; (with_reducible refine (spec_l1Below.calls g s0_0 t155 t156 10 t158 t159 t160 w0 _ ?side1 ?side2 A3.out).mono ?_); (case side1 => repeat (first | (with_reducible first | exact HI0.out | apply IsS89.alloc | apply IsS89.drewN | apply IsS89.drew | apply IsS89.set_1 | apply IsS89.set_2 | refine IsS89.far ?_ NB0_150.out _ | refine IsS89.far ?_ NB0_157.out _) | exact HI0.out)); (case side2 => repeat (first | (with_reducible first | exact HB.out | apply za14 | apply za7 | apply za9 | refine za8 ?_ (IsS89.ge HI0.out) | refine za8 ?_ GE150.out | refine za8 ?_ GE157.out) | exact HB.out)); rintro e w65 ⟨rfl, hi, hb, hk⟩; refine ⟨_, rfl, ?_⟩; have n0_ := za1 (KeepBut.blk hk (g' := gb150) (o := .cells #[.slice none 0 0, .int .i64 0] 37 (0, 0)) (by (with_reducible repeat (first | refine za11 ?_ _ | refine za12 ?_ | refine za13 ?_ _)); refine blk_far ?_ NB150_157.out _; (with_reducible repeat (first | refine za11 ?_ _ | refine za12 ?_ | refine za13 ?_ _)); refine blk_far ?_ NB150_157.out _; (with_reducible repeat (first | refine za11 ?_ _ | refine za12 ?_ | refine za13 ?_ _)); exact BK150.out) NB150_0.out (by simp)); have n1_ := za1 (za21 (Kd.R_keep (IsS89.apart (show IsS89 w0 _ g s0_0 t155 t156 from by repeat (first | (with_reducible first | exact HI0.out | apply IsS89.alloc | apply IsS89.drewN | apply IsS89.drew | apply IsS89.set_1 | apply IsS89.set_2 | refine IsS89.far ?_ NB0_150.out _ | refine IsS89.far ?_ NB0_157.out _) | exact HI0.out)) (by (with_reducible repeat (first | apply za5 | apply za4 | apply za6)); exact (za21 (Kd.R_far (p := ⟨gb157, 1, none⟩) (Kd.R_far (p := ⟨gb157, 0, none⟩) (Kd.R_types HO153.out BK157.out (by decide)) (fun _ hk => hk.2) (.slice Ao61 t151.length co61)) (fun _ hk => hk.2) (.int .i64 t154)) (fun _ h_ => h_.1))) (by decide)) hk (fun _ h => h.2)) (fun _ h => h.1)); have n2_ := za1 (KeepBut.blk hk (g' := gb157) (o := .cells #[.slice Ao61 t151.length co61, .int .i64 t154] 37 (0, 0)) (by (with_reducible repeat (first | refine za11 ?_ _ | refine za12 ?_ | refine za13 ?_ _)); refine blk_put (cs := #[.slice Ao61 t151.length co61, .int .i64 0]) ?_ 1 _ rfl; (with_reducible repeat (first | refine za11 ?_ _ | refine za12 ?_ | refine za13 ?_ _)); refine blk_put (cs := #[.slice none 0 0, .int .i64 0]) ?_ 0 _ rfl; (with_reducible repeat (first | refine za11 ?_ _ | refine za12 ?_ | refine za13 ?_ _)); exact BK157.out) NB157_0.out (by simp)); have n3_ := za1 (KeepBut.trans (by repeat (first | (with_reducible first | exact HK.out | apply KeepBut.set_ | apply keep_drewN | apply keep_drew | apply keep_alloc | refine keep_far ?_ GW150.out _ | refine keep_far ?_ GW157.out _) | exact HK.out)) hk (.inl rfl)); have n4_ := za1 (hb); have n5_ := za1 (hi); clear BK150; clear HO153; clear BK157; clear HK; clear HB; clear HI0; have BK150 := n0_; have HO153 := n1_; have BK157 := n2_; have HK := n3_; have HB := n4_; have HI0 := n5_; clear n0_ n1_ n2_ n3_ n4_ n5_; (try clear hb); (try clear hb2); (try clear hk); (try clear hi); have hcz66_0 : w65.cell? ⟨gb157, 0, none⟩ = some (.slice Ao61 t151.length co61) := (za15 BK157.out 0).trans rfl; have hcz66_1 : w65.cell? ⟨gb157, 1, none⟩ = some (.int .i64 t154) := (za15 BK157.out 1).trans rfl; have hfz66_0 := blk_frozen BK157.out 0; have hfz66_1 := blk_frozen BK157.out 1; have hnb67 := NB150_0.out; have hnc67 := NB0_150.out; have hcz68_0 : w65.cell? ⟨gb150, 0, none⟩ = some (.slice none 0 0) := (za15 BK150.out 0).trans rfl; have hcz68_1 : w65.cell? ⟨gb150, 1, none⟩ = some (.int .i64 0) := (za15 BK150.out 1).trans rfl; have hfz68_0 := blk_frozen BK150.out 0; have hfz68_1 := blk_frozen BK150.out 1))
    refine bodyPost_ret (results_cell_row rfl _ _ gb150 37 #[.slice Ao61 t151.length co61, .int .i64 t154] (0, 0) _ rfl (by (with_reducible repeat (first | refine za11 ?_ _ | refine za12 ?_ | refine za13 ?_ _)); refine blk_put (cs := #[.slice Ao61 t151.length co61, .int .i64 0]) ?_ 1 _ rfl; (with_reducible repeat (first | refine za11 ?_ _ | refine za12 ?_ | refine za13 ?_ _)); refine blk_put (cs := #[.slice none 0 0, .int .i64 0]) ?_ 0 _ rfl; (with_reducible repeat (first | refine za11 ?_ _ | refine za12 ?_ | refine za13 ?_ _)); exact BK150.out) Try.underlying37 rfl (by kernel_rfl)) rfl ?_
    exact ⟨_, by first | rfl | (simp [errW_none, errW_some] <;> rfl) | (simp [*, errW_none, errW_some] <;> rfl), by (with_reducible repeat (first | apply za5 | apply za4 | apply za6)); exact za21 (Kd.R_far (p := ⟨gb150, 1, none⟩) (Kd.R_far (p := ⟨gb150, 0, none⟩) (Kd.R_types HO153.out BK150.out (by decide)) (fun _ hk => hk.2) (.slice Ao61 t151.length co61)) (fun _ hk => hk.2) (.int .i64 t154)) (fun _ hk => trivial), by repeat (first | (with_reducible first | exact HI0.out | apply IsS89.alloc | apply IsS89.drewN | apply IsS89.drew | apply IsS89.set_1 | apply IsS89.set_2 | refine IsS89.far ?_ NB0_150.out _ | refine IsS89.far ?_ NB0_157.out _) | exact HI0.out), by repeat (first | (with_reducible first | exact HB.out | apply za14 | apply za7 | apply za9 | refine za8 ?_ (IsS89.ge HI0.out) | refine za8 ?_ GE150.out | refine za8 ?_ GE157.out) | exact HB.out), by repeat (first | (with_reducible first | exact HK.out | apply KeepBut.set_ | apply keep_drewN | apply keep_drew | apply keep_alloc | refine keep_far ?_ GW150.out _ | refine keep_far ?_ GW157.out _) | exact HK.out)⟩

/-! ### spec_l7Message: function 51 -/
def spec_l7Message.l0 : Nat → List Int → Int → List Int → Int → Int → Option (List Int × Int × Int)
  | 0, _, _, _, _, _ => none
  | k + 1, x3, x4, x1000, x1001, x1002 => if x4 > 0 then ((spec_l1Below.f x1000 x1001 x1002 9).bind fun bt185 => (if x3.length < 17592186044416 then (spec_l7Message.l0 k (x3 ++ [bt185.1]) (wrap64 (x4 - 1)) x1000 bt185.2.1 bt185.2.2) else (none))) else (some (x3, x1001, x1002))
def spec_l7Message.f (k : Nat) (s0_0 : List Int) (s0_1 : Int) (s0_2 : Int) : Option (List Int × Int × Int) := (spec_l1Below.f s0_0 s0_1 s0_2 4).bind fun bt182 => (spec_l7Message.l0 k (([] : List Int)) bt182.1 s0_0 bt182.2.1 bt182.2.2)
theorem spec_l7Message.mono_l : ∀ k, (∀ y0 y1 y2 y3 y4, LeO (spec_l7Message.l0 k y0 y1 y2 y3 y4) (spec_l7Message.l0 (k + 1) y0 y1 y2 y3 y4))
  | 0 => fun _ _ _ _ _ r h => by simp [spec_l7Message.l0] at h
  | k + 1 => by
    have ih0 := spec_l7Message.mono_l k
    · intro y0 y1 y2 y3 y4
      unfold spec_l7Message.l0
      repeat' first
      | (with_reducible exact ih0 _ _ _ _ _)
      | (with_reducible exact LeO.refl _)
      | (with_reducible exact za34 _)
      | (with_reducible refine za33 ?_ ?_)
      | (with_reducible refine za32 ?_ (fun _ => ?_))
      | exact ih0 _ _ _ _ _
      | exact za34 _
      | refine za33 ?_ ?_
      | refine za32 ?_ (fun _ => ?_)
theorem spec_l7Message.mono : ∀ a0 a1 a2 k, LeO (spec_l7Message.f k a0 a1 a2) (spec_l7Message.f (k + 1) a0 a1 a2) := by
  intro a0 a1 a2 k
  have ih0 := spec_l7Message.mono_l k
  unfold spec_l7Message.f
  repeat' first
      | (with_reducible exact ih0 _ _ _ _ _)
      | (with_reducible exact LeO.refl _)
      | (with_reducible exact za34 _)
      | (with_reducible refine za33 ?_ ?_)
      | (with_reducible refine za32 ?_ (fun _ => ?_))
      | exact ih0 _ _ _ _ _
      | exact za34 _
      | refine za33 ?_ ?_
      | refine za32 ?_ (fun _ => ?_)
set_option maxHeartbeats 8000000 in
set_option maxRecDepth 100000 in
theorem spec_l7Message.calls (k : Nat) (g : Nat) (s0_0 : List Int) (s0_1 : Int) (s0_2 : Int) (r1 : List Int) (r2 : Int) (r3 : Int) (w0 w : World) (hI : IsS89 w0 w g s0_0 s0_1 s0_2) (hB : Below w0.heap.size w0 w) (h : spec_l7Message.f k s0_0 s0_1 s0_2 = some (r1, r2, r3)) :
  Calls Try.prog 51 #[.pointer (some ⟨g, 0, none⟩)] w fun e w' => ∃ v0_ : Value, e = .returned (v0_) ∧ Kd.R (Kd.int .i64) 3 w' w.heap.size (fun _ => True) v0_ r1 ∧ IsS89 w0 w' g s0_0 r2 r3 ∧ Below w0.heap.size w0 w' ∧ KeepBut w w' g none := by
 have HI0 := za1 hI
 have HK := za1 (KeepBut.refl w g none)
 have HL := za1 hB.size
 clear hI
 have HW0 := za1 hB.size
 have HB := za1 hB
 clear hB
 have H : ((spec_l1Below.f s0_0 s0_1 s0_2 4).bind fun bt182 => (spec_l7Message.l0 k (([] : List Int)) bt182.1 s0_0 bt182.2.1 bt182.2.2)) = some (r1, r2, r3) := h
 clear h
 obtain ⟨y179, hy179⟩ : ∃ y_ : List Int, y_ = (([] : List Int)) := ⟨_, rfl⟩
 replace H : ((spec_l1Below.f s0_0 s0_1 s0_2 4).bind fun bt182 => (spec_l7Message.l0 k y179 bt182.1 s0_0 bt182.2.1 bt182.2.2)) = some (r1, r2, r3) := by first | (rw [hy179]; with_reducible exact H) | (have H2_ := (za36 _ _).symm.trans H; rw [hy179]; with_reducible exact H2_) | (have H2_ := (za36 _ _).symm.trans H; with_reducible exact H2_) | with_reducible exact H | (rw [hy179]; exact H) | exact H
 have Ny179 := za1 hy179
 clear hy179
 replace H := za16.mp H
 obtain ⟨⟨t182, t183, t184⟩, A20, H⟩ := H
 replace H : (spec_l7Message.l0 k y179 t182 s0_0 t183 t184) = some (r1, r2, r3) := H
 have A2 := za1 A20
 clear A20
 have H' := za1 H
 clear H
 go_enter Try.func51, Try.ntmps51
 go_wp2_with (first | ((with_reducible refine gate_dst (N := 5) rfl ?_); refine Kd.R_lit (Kd.int .i64) _ 3 ?hg (N := 5) ?hd (xs := ([] : List Int)) (inner := []) (ok := fun _ => True) (okp := fun _ => True) ?hr ?hp (fun _ hk => hk) trivial (Below.refl _ _) (Nat.le_refl _) (by simp) ?_; (case hd => rfl); (case hg => rfl); (case hr => first | (go_simp; done) | (go_simp; rfl)); (case hp => exact (Reps.none _ _)); intro v180 w3 ho4 hb hg_ hnew_; clear hg_ hnew_; (first | rw [← Ny179.out] at ho4 | (simp only [Int.reduceToNat] at ho4; rw [← Ny179.out] at ho4)); have n0_ := za1 (za31 ho4 (keep_size (w := w) (g := g) (row := none) (by repeat (first | (with_reducible first | exact HK.out | apply KeepBut.set_ | apply keep_drewN | apply keep_drew | apply keep_alloc) | exact HK.out)))); have n1_ := za1 (IsS89.below (by repeat (first | (with_reducible first | exact HI0.out | apply IsS89.alloc | apply IsS89.drewN | apply IsS89.drew | apply IsS89.set_1 | apply IsS89.set_2) | exact HI0.out)) hb); have n2_ := za1 (KeepBut.trans (by repeat (first | (with_reducible first | exact HK.out | apply KeepBut.set_ | apply keep_drewN | apply keep_drew | apply keep_alloc) | exact HK.out)) (KeepBut.of_below hb g none) (.inl rfl)); have n3_ := za1 (za28 (by repeat (first | (with_reducible first | exact HB.out | apply za14 | apply za7 | apply za9 | refine za8 ?_ (IsS89.ge HI0.out)) | exact HB.out)) hb); clear HI0; clear HK; clear HB; have HO181 := n0_; have HI0 := n1_; have HK := n2_; have HB := n3_; clear n0_ n1_ n2_ n3_; clear hb ho4) | ((with_reducible refine gate_callee (f := 60) rfl ?_); refine goesL_ (some 7) rfl rfl Try.func60 (by kernel_rfl) rfl #[.pointer (some ⟨g, 0, none⟩), .int .i64 4] rfl (by (try simp only [za18, za26, za27]); first | done | rfl | (simp only [za20, za19]; rfl)) ?_; (with_reducible refine (spec_l1Below.calls g s0_0 s0_1 s0_2 4 t182 t183 t184 w0 _ ?side1 ?side2 A2.out).mono ?_); (case side1 => repeat (first | (with_reducible first | exact HI0.out | apply IsS89.alloc | apply IsS89.drewN | apply IsS89.drew | apply IsS89.set_1 | apply IsS89.set_2) | exact HI0.out)); (case side2 => repeat (first | (with_reducible first | exact HB.out | apply za14 | apply za7 | apply za9 | refine za8 ?_ (IsS89.ge HI0.out)) | exact HB.out)); rintro e w5 ⟨rfl, hi, hb, hk⟩; refine ⟨_, rfl, ?_⟩; have n0_ := za1 (za21 (Kd.R_keep (IsS89.apart (show IsS89 w0 _ g s0_0 s0_1 s0_2 from by repeat (first | (with_reducible first | exact HI0.out | apply IsS89.alloc | apply IsS89.drewN | apply IsS89.drew | apply IsS89.set_1 | apply IsS89.set_2) | exact HI0.out)) (by (with_reducible repeat (first | apply za5 | apply za4 | apply za6)); exact HO181.out) (by decide)) hk (fun _ h => h.2)) (fun _ h => h.1)); have n1_ := za1 (KeepBut.trans (by repeat (first | (with_reducible first | exact HK.out | apply KeepBut.set_ | apply keep_drewN | apply keep_drew | apply keep_alloc) | exact HK.out)) hk (.inl rfl)); have n2_ := za1 (hb); have n3_ := za1 (hi); clear HO181; clear HK; clear HB; clear HI0; have HO181 := n0_; have HK := n1_; have HB := n2_; have HI0 := n3_; clear n0_ n1_ n2_ n3_; (try clear hb); (try clear hb2); (try clear hk); (try clear hi)))
 go_loopg [3, 4] k (fun kq v3 v4 w' => ∃ (x3_1 : List Int) (x4_1 : Int) (x1001_1 : Int) (x1002_1 : Int), v4 = .int .i64 x4_1 ∧ Aside0 (spec_l7Message.l0 kq x3_1 x4_1 s0_0 x1001_1 x1002_1 = some (r1, r2, r3)) ∧ Aside0 (kq ≤ k) ∧ Aside0 (Kd.R (Kd.int .i64) 3 w' w.heap.size (fun _ => True) v3 x3_1) ∧ Aside0 (IsS89 w0 w' g s0_0 x1001_1 x1002_1) ∧ Aside0 (KeepBut w w' g none) ∧ Aside0 (Below w0.heap.size w0 w'))
 case atStart => exact ⟨(y179), (t182), (t183), (t184), (by first | rfl | (simp; done) | (simp [*]; done)), H', ⟨Nat.le_refl _⟩, ⟨by (with_reducible repeat (first | apply za5 | apply za4 | apply za6)); exact HO181.out⟩, ⟨by repeat (first | (with_reducible first | exact HI0.out | apply IsS89.alloc | apply IsS89.drewN | apply IsS89.drew | apply IsS89.set_1 | apply IsS89.set_2) | exact HI0.out)⟩, ⟨by repeat (first | (with_reducible first | exact HK.out | apply KeepBut.set_ | apply keep_drewN | apply keep_drew | apply keep_alloc) | exact HK.out)⟩, ⟨by repeat (first | (with_reducible first | exact HB.out | apply za14 | apply za7 | apply za9 | refine za8 ?_ (IsS89.ge HI0.out)) | exact HB.out)⟩⟩
 case round =>
  clear H'
  try clear p2
  try clear c5
  obtain ⟨x3_1, x4_1, x1001_1, x1002_1, rfl, HA, HK1, HO_3, HI0, HK, HB⟩ := hrel
  cases gk with
  | zero => exact absurd HA.out (by simp [spec_l7Message.l0])
  | succ k1 =>
   have H := HA.out
   clear HA
   simp only [spec_l7Message.l0] at H
   by_cases c6 : x4_1 > 0
   ·rw [if_pos c6] at H
    have c6b0 : decide (0 < x4_1) = true := za38 c6
    clear c6
    replace H := za16.mp H
    obtain ⟨⟨t185, t186, t187⟩, A70, H⟩ := H
    replace H : (if x3_1.length < 17592186044416 then (spec_l7Message.l0 k1 (x3_1 ++ [t185]) (wrap64 (x4_1 - 1)) s0_0 t186 t187) else (none)) = some (r1, r2, r3) := H
    have A7 := za1 A70
    clear A70
    by_cases c8 : x3_1.length < 17592186044416
    ·rw [if_pos c8] at H
     have LMc8 := za1 c8
     clear c8
     obtain ⟨y188, hy188⟩ : ∃ y_ : List Int, y_ = (x3_1 ++ [t185]) := ⟨_, rfl⟩
     replace H : (spec_l7Message.l0 k1 y188 (wrap64 (x4_1 - 1)) s0_0 t186 t187) = some (r1, r2, r3) := by first | (rw [hy188]; with_reducible exact H) | (have H2_ := (za36 _ _).symm.trans H; rw [hy188]; with_reducible exact H2_) | (have H2_ := (za36 _ _).symm.trans H; with_reducible exact H2_) | with_reducible exact H | (rw [hy188]; exact H) | exact H
     have Ny188 := za1 hy188
     clear hy188
     have H' := za1 H
     clear H
     go_wp2_with (first | ((with_reducible refine gate_callee (f := 60) rfl ?_); refine goesL_ (some 14) rfl rfl Try.func60 (by kernel_rfl) rfl #[.pointer (some ⟨g, 0, none⟩), .int .i64 9] rfl (by (try simp only [za18, za26, za27]); first | done | rfl | (simp only [za20, za19]; rfl)) ?_; (with_reducible refine (spec_l1Below.calls g s0_0 x1001_1 x1002_1 9 t185 t186 t187 w0 _ ?side1 ?side2 A7.out).mono ?_); (case side1 => repeat (first | (with_reducible first | exact HI0.out | apply IsS89.alloc | apply IsS89.drewN | apply IsS89.drew | apply IsS89.set_1 | apply IsS89.set_2) | exact HI0.out)); (case side2 => repeat (first | (with_reducible first | exact HB.out | apply za14 | apply za7 | apply za9 | refine za8 ?_ (IsS89.ge HI0.out)) | exact HB.out)); rintro e w9 ⟨rfl, hi, hb, hk⟩; refine ⟨_, rfl, ?_⟩; have n0_ := za1 (za21 (Kd.R_keep (IsS89.apart (show IsS89 w0 _ g s0_0 x1001_1 x1002_1 from by repeat (first | (with_reducible first | exact HI0.out | apply IsS89.alloc | apply IsS89.drewN | apply IsS89.drew | apply IsS89.set_1 | apply IsS89.set_2) | exact HI0.out)) (by (with_reducible repeat (first | apply za5 | apply za4 | apply za6)); exact HO_3.out) (by decide)) hk (fun _ h => h.2)) (fun _ h => h.1)); have n1_ := za1 (KeepBut.trans (by repeat (first | (with_reducible first | exact HK.out | apply KeepBut.set_ | apply keep_drewN | apply keep_drew | apply keep_alloc) | exact HK.out)) hk (.inl rfl)); have n2_ := za1 (hb); have n3_ := za1 (hi); clear HO_3; clear HK; clear HB; clear HI0; have HO_3 := n0_; have HK := n1_; have HB := n2_; have HI0 := n3_; clear n0_ n1_ n2_ n3_; (try clear hb); (try clear hb2); (try clear hk); (try clear hi)) | ((with_reducible refine gate_builtin (b := .append) (xs := #[.tmp 12, .tmp 15]) rfl ?_); at_builtin; refine Kd.R_append (Kd.int .i64) w.heap.size rfl (.tmp 12) (.tmp 15) 22 3 (.int .i64 0) 8 rfl Try.underlying22 info3 rfl (by decide) (by omega) u3 x3_1 t185 [.int .i64 t185] (fun _ => True) (fun _ => False) rfl rfl ?aP (fun _ hk => hk.elim) ?aF ?aO (Below.refl _ _) ?aS ?aL ?_; (case aP => exact rfl); (case aF => exact (fun _ _ => trivial)); (case aO => exact (by (with_reducible repeat (first | apply za5 | apply za4 | apply za6)); exact HO_3.out)); (case aS => exact (keep_size (w := w) (g := g) (row := none) (by repeat (first | (with_reducible first | exact HK.out | apply KeepBut.set_ | apply keep_drewN | apply keep_drew | apply keep_alloc) | exact HK.out)))); (case aL => have := LMc8.out; omega); intro v189 w10 ho hb hg hat; rw [← Ny188.out] at ho; have n0_ := za1 (IsS89.grown (by repeat (first | (with_reducible first | exact HI0.out | apply IsS89.alloc | apply IsS89.drewN | apply IsS89.drew | apply IsS89.set_1 | apply IsS89.set_2) | exact HI0.out)) hg (IsS89.own_ne HI0.out HO_3.out (by decide))); have n1_ := za1 (below_weaken (by repeat (first | (with_reducible first | exact HB.out | apply za14 | apply za7 | apply za9 | refine za8 ?_ (IsS89.ge HI0.out)) | exact HB.out)) HL.out hb); have n2_ := za1 (KeepBut.trans (by repeat (first | (with_reducible first | exact HK.out | apply KeepBut.set_ | apply keep_drewN | apply keep_drew | apply keep_alloc) | exact HK.out)) (KeepBut.of_grown hg g) (Kd.R_base2 HO_3.out)); have n3_ := za1 (ho); clear HI0; clear HB; clear HK; clear HO_3; have HI0 := n0_; have HB := n1_; have HK := n2_; have HO190 := n3_; clear n0_ n1_ n2_ n3_; clear ho hb hg hat))
     go_roundg k1
     case measure => have := HK1.out; omega
     case rel => exact ⟨(y188), (wrap64 (x4_1 - 1)), (t186), (t187), (by first | rfl | (simp; done) | (simp [*]; done)), H', ⟨by have := HK1.out; omega⟩, ⟨by (with_reducible repeat (first | apply za5 | apply za4 | apply za6)); exact HO190.out⟩, ⟨by repeat (first | (with_reducible first | exact HI0.out | apply IsS89.alloc | apply IsS89.drewN | apply IsS89.drew | apply IsS89.set_1 | apply IsS89.set_2) | exact HI0.out)⟩, ⟨by repeat (first | (with_reducible first | exact HK.out | apply KeepBut.set_ | apply keep_drewN | apply keep_drew | apply keep_alloc) | exact HK.out)⟩, ⟨by repeat (first | (with_reducible first | exact HB.out | apply za14 | apply za7 | apply za9 | refine za8 ?_ (IsS89.ge HI0.out)) | exact HB.out)⟩⟩
    ·rw [if_neg c8] at H
     exact absurd H (by simp)
   ·rw [if_neg c6] at H
    have c6b0 : decide (0 < x4_1) = false := za39 c6
    clear c6
    simp only [Option.some.injEq, Prod.mk.injEq] at H
    obtain ⟨rfl, rfl, rfl⟩ := H
    go_wp2
    go_ret
    exact ⟨_, by first | rfl | (simp [errW_none, errW_some] <;> rfl) | (simp [*, errW_none, errW_some] <;> rfl), by (with_reducible repeat (first | apply za5 | apply za4 | apply za6)); exact HO_3.out, by repeat (first | (with_reducible first | exact HI0.out | apply IsS89.alloc | apply IsS89.drewN | apply IsS89.drew | apply IsS89.set_1 | apply IsS89.set_2) | exact HI0.out), by repeat (first | (with_reducible first | exact HB.out | apply za14 | apply za7 | apply za9 | refine za8 ?_ (IsS89.ge HI0.out)) | exact HB.out), by repeat (first | (with_reducible first | exact HK.out | apply KeepBut.set_ | apply keep_drewN | apply keep_drew | apply keep_alloc) | exact HK.out)⟩

/-! ### spec_DrawSignBy: function 17 -/
def spec_DrawSignBy.f (k : Nat) (l0 : List Int) : Option (List Int × List Int × Int × List Int) := (spec_l1New.f k l0).bind fun bt192 => ((spec_l6Held.f k bt192.1 bt192.2.1 bt192.2.2).bind fun bt196 => ((spec_l6Any.f k bt192.1 bt196.2.1 bt196.2.2).bind fun bt201 => ((spec_l7Message.f k bt192.1 bt201.2.2.1 bt201.2.2.2).bind fun bt208 => (some (bt196.1, bt201.1, bt201.2.1, bt208.1)))))
theorem spec_DrawSignBy.mono : ∀ a0 k, LeO (spec_DrawSignBy.f k a0) (spec_DrawSignBy.f (k + 1) a0) := by
  intro a0 k
  unfold spec_DrawSignBy.f
  repeat' first
      | (with_reducible exact spec_l1New.mono _ _)
      | (with_reducible exact spec_l6Any.mono _ _ _ _)
      | (with_reducible exact spec_l6Held.mono _ _ _ _)
      | (with_reducible exact spec_l7Message.mono _ _ _ _)
      | (with_reducible exact LeO.refl _)
      | (with_reducible exact za34 _)
      | (with_reducible refine za33 ?_ ?_)
      | (with_reducible refine za32 ?_ (fun _ => ?_))
      | exact spec_l1New.mono _ _
      | exact spec_l6Any.mono _ _ _ _
      | exact spec_l6Held.mono _ _ _ _
      | exact spec_l7Message.mono _ _ _ _
      | exact za34 _
      | refine za33 ?_ ?_
      | refine za32 ?_ (fun _ => ?_)
set_option maxHeartbeats 8000000 in
set_option maxRecDepth 100000 in
theorem spec_DrawSignBy.calls (k : Nat) (A0 : Option Addr) (c0 : Nat) (l0 : List Int) (r1 : List Int) (r2 : List Int) (r3 : Int) (r4 : List Int) (w : World) (hr0 : Kd.C (Kd.int .u8) w A0 l0.length l0) (hc0 : l0.length ≤ c0) (h : spec_DrawSignBy.f k l0 = some (r1, r2, r3, r4)) :
  Calls Try.prog 17 #[.slice A0 l0.length c0] w fun e w' => ∃ v0_ v1_ v3_ : Value, e = .returned (.tuple #[v0_, .agg #[v1_, .int .i64 r3], v3_]) ∧ Kd.R (Kd.int .i64) 3 w' w.heap.size (fun k_ => some k_ ≠ (v1_ : Value).ownBlock ∧ some k_ ≠ (v3_ : Value).ownBlock) v0_ r1 ∧ Kd.R (Kd.int .i64) 3 w' w.heap.size (fun k_ => some k_ ≠ (v0_ : Value).ownBlock ∧ some k_ ≠ (v3_ : Value).ownBlock) v1_ r2 ∧ Kd.R (Kd.int .i64) 3 w' w.heap.size (fun k_ => some k_ ≠ (v0_ : Value).ownBlock ∧ some k_ ≠ (v1_ : Value).ownBlock) v3_ r4 ∧ Below w.heap.size w w' := by
 have hu37 := Try.underlying37
 have HR0 := za1 hr0
 have HC0 := za1 hc0
 clear hr0 hc0
 have HB := za1 (Below.refl w.heap.size w)
 have H : ((spec_l1New.f k l0).bind fun bt192 => ((spec_l6Held.f k bt192.1 bt192.2.1 bt192.2.2).bind fun bt196 => ((spec_l6Any.f k bt192.1 bt196.2.1 bt196.2.2).bind fun bt201 => ((spec_l7Message.f k bt192.1 bt201.2.2.1 bt201.2.2.2).bind fun bt208 => (some (bt196.1, bt201.1, bt201.2.1, bt208.1)))))) = some (r1, r2, r3, r4) := h
 clear h
 replace H := za16.mp H
 obtain ⟨⟨t192, t193, t194⟩, A20, H⟩ := H
 replace H : ((spec_l6Held.f k t192 t193 t194).bind fun bt196 => ((spec_l6Any.f k t192 bt196.2.1 bt196.2.2).bind fun bt201 => ((spec_l7Message.f k t192 bt201.2.2.1 bt201.2.2.2).bind fun bt208 => (some (bt196.1, bt201.1, bt201.2.1, bt208.1))))) = some (r1, r2, r3, r4) := H
 have A2 := za1 A20
 clear A20
 replace H := za16.mp H
 obtain ⟨⟨t196, t199, t200⟩, A30, H⟩ := H
 replace H : ((spec_l6Any.f k t192 t199 t200).bind fun bt201 => ((spec_l7Message.f k t192 bt201.2.2.1 bt201.2.2.2).bind fun bt208 => (some (t196, bt201.1, bt201.2.1, bt208.1)))) = some (r1, r2, r3, r4) := H
 have A3 := za1 A30
 clear A30
 replace H := za16.mp H
 obtain ⟨⟨t201, t204, t205, t206⟩, A40, H⟩ := H
 replace H : ((spec_l7Message.f k t192 t205 t206).bind fun bt208 => (some (t196, t201, t204, bt208.1))) = some (r1, r2, r3, r4) := H
 have A4 := za1 A40
 clear A40
 replace H := za16.mp H
 obtain ⟨⟨t208, t211, t212⟩, A50, H⟩ := H
 replace H : (some (t196, t201, t204, t208)) = some (r1, r2, r3, r4) := H
 have A5 := za1 A50
 clear A50
 simp only [Option.some.injEq, Prod.mk.injEq] at H
 obtain ⟨rfl, rfl, rfl, rfl⟩ := H
 go_enter Try.func17, Try.ntmps17
 try go_wp2_with (first | ((with_reducible refine gate_dst (N := 3) rfl ?_); refine box_event ?hg (N := 3) ?hd (cs := #[.slice none 0 0, .int .i64 0]) (t := 37) ?hr ?_; (case hd => rfl); (case hg => rfl); (case hr => first | (go_simp; done) | (go_simp; rfl)); intro gb191 hg w6 hbox hb; have n0_ := za1 (za28 (by repeat (first | (with_reducible first | exact HB.out | apply za14 | apply za7 | apply za9) | exact HB.out)) hb); have n1_ := za1 (hbox); have n2_ := za1 ((by rw [hg]; exact (za29 (by repeat (first | (with_reducible first | exact HB.out | apply za14 | apply za7 | apply za9) | exact HB.out))) : w.heap.size ≤ gb191)); have n3_ := za1 ((by rw [hg]; exact (za29 (by repeat (first | (with_reducible first | exact HB.out | apply za14 | apply za7 | apply za9) | exact HB.out))) : w.heap.size ≤ gb191)); clear HB; have HB := n0_; have BK191 := n1_; have GW191 := n2_; have GE191 := n3_; clear n0_ n1_ n2_ n3_; clear hb hbox hg) | ((with_reducible refine gate_callee (f := 48) rfl ?_); refine goesL_ (some 9) rfl rfl Try.func48 (by kernel_rfl) rfl #[.slice A0 l0.length c0] rfl (by (try simp only [za18, za26, za27]); first | done | rfl | (simp only [za20, za19]; rfl)) ?_; (with_reducible refine (spec_l1New.calls k _ _ l0 t192 t193 t194 w _ ?side1 ?side2 ?side3 A2.out).mono ?_); (case side1 => repeat (first | (with_reducible first | exact HB.out | apply za14 | apply za7 | apply za9 | refine za8 ?_ GE191.out) | exact HB.out)); (case side2 => exact HR0.out); (case side3 => exact HC0.out); rintro e w7 ⟨g195, rfl, hi, hb, hb2⟩; refine ⟨_, rfl, ?_⟩; have n0_ := za1 (za17 (g := gb191) (o := .cells #[.slice none 0 0, .int .i64 0] 37 (0, 0)) (by (with_reducible repeat (first | refine za11 ?_ _ | refine za12 ?_ | refine za13 ?_ _)); exact BK191.out) hb2); have n1_ := za1 (hb); have n2_ := za1 (hi); have n3_ := za1 (IsS89.ne_blk hi (za17 (g := gb191) (o := .cells #[.slice none 0 0, .int .i64 0] 37 (0, 0)) (by (with_reducible repeat (first | refine za11 ?_ _ | refine za12 ?_ | refine za13 ?_ _)); exact BK191.out) hb2) (by decide)); have n4_ := za1 (Ne.symm (IsS89.ne_blk hi (za17 (g := gb191) (o := .cells #[.slice none 0 0, .int .i64 0] 37 (0, 0)) (by (with_reducible repeat (first | refine za11 ?_ _ | refine za12 ?_ | refine za13 ?_ _)); exact BK191.out) hb2) (by decide))); clear BK191; clear HB; have BK191 := n0_; have HB := n1_; have HI195 := n2_; have NB195_191 := n3_; have NB191_195 := n4_; clear n0_ n1_ n2_ n3_ n4_; (try clear hb); (try clear hb2); (try clear hk); (try clear hi)) | ((with_reducible refine gate_callee (f := 49) rfl ?_); refine goesL_ (some 11) rfl rfl Try.func49 (by kernel_rfl) rfl #[.pointer (some ⟨g195, 0, none⟩)] rfl (by (try simp only [za18, za26, za27]); first | done | rfl | (simp only [za20, za19]; rfl)) ?_; (with_reducible refine (spec_l6Held.calls k g195 t192 t193 t194 t196 t199 t200 w _ ?side1 ?side2 A3.out).mono ?_); (case side1 => repeat (first | (with_reducible first | exact HI195.out | apply IsS89.alloc | apply IsS89.drewN | apply IsS89.drew | apply IsS89.set_1 | apply IsS89.set_2 | refine IsS89.far ?_ NB195_191.out _) | exact HI195.out)); (case side2 => repeat (first | (with_reducible first | exact HB.out | apply za14 | apply za7 | apply za9 | refine za8 ?_ (IsS89.ge HI195.out) | refine za8 ?_ GE191.out) | exact HB.out)); rintro e w8 ⟨v197, rfl, ho0, hi, hb, hk⟩; refine ⟨_, rfl, ?_⟩; have n0_ := za1 (KeepBut.blk hk (g' := gb191) (o := .cells #[.slice none 0 0, .int .i64 0] 37 (0, 0)) (by (with_reducible repeat (first | refine za11 ?_ _ | refine za12 ?_ | refine za13 ?_ _)); exact BK191.out) NB191_195.out (by simp)); have n1_ := za1 (za31 ho0 (za29 (by repeat (first | (with_reducible first | exact HB.out | apply za14 | apply za7 | apply za9 | refine za8 ?_ (IsS89.ge HI195.out) | refine za8 ?_ GE191.out) | exact HB.out)))); have n2_ := za1 (hb); have n3_ := za1 (hi); clear BK191; clear HB; clear HI195; have BK191 := n0_; have HO198 := n1_; have HB := n2_; have HI195 := n3_; clear n0_ n1_ n2_ n3_; (try clear hb); (try clear hb2); (try clear hk); (try clear hi); (try clear ho0)) | ((with_reducible refine gate_callee (f := 50) rfl ?_); refine goesL_ (some 13) rfl rfl Try.func50 (by kernel_rfl) rfl #[.pointer (some ⟨g195, 0, none⟩)] rfl (by (try simp only [za18, za26, za27]); first | done | rfl | (simp only [za20, za19]; rfl)) ?_; (with_reducible refine (spec_l6Any.calls k g195 t192 t199 t200 t201 t204 t205 t206 w _ ?side1 ?side2 A4.out).mono ?_); (case side1 => repeat (first | (with_reducible first | exact HI195.out | apply IsS89.alloc | apply IsS89.drewN | apply IsS89.drew | apply IsS89.set_1 | apply IsS89.set_2 | refine IsS89.far ?_ NB195_191.out _) | exact HI195.out)); (case side2 => repeat (first | (with_reducible first | exact HB.out | apply za14 | apply za7 | apply za9 | refine za8 ?_ (IsS89.ge HI195.out) | refine za8 ?_ GE191.out) | exact HB.out)); rintro e w9 ⟨v202, rfl, ho0, hi, hb, hk⟩; refine ⟨_, rfl, ?_⟩; have n0_ := za1 (KeepBut.blk hk (g' := gb191) (o := .cells #[.slice none 0 0, .int .i64 0] 37 (0, 0)) (by (with_reducible repeat (first | refine za11 ?_ _ | refine za12 ?_ | refine za13 ?_ _)); exact BK191.out) NB191_195.out (by simp)); have n1_ := za1 (za21 (Kd.R_told (Kd.R_oldK (IsS89.apart (show IsS89 w _ g195 t192 t199 t200 from by repeat (first | (with_reducible first | exact HI195.out | apply IsS89.alloc | apply IsS89.drewN | apply IsS89.drew | apply IsS89.set_1 | apply IsS89.set_2 | refine IsS89.far ?_ NB195_191.out _) | exact HI195.out)) (by (with_reducible repeat (first | apply za5 | apply za4 | apply za6)); exact HO198.out) (by decide)) hk) (Kd.R_base ho0)) (fun _ h_ => h_.1)); have n2_ := za1 (za31 (Kd.R_new' ho0 (Kd.R_lt (by (with_reducible repeat (first | apply za5 | apply za4 | apply za6)); exact HO198.out))) (za29 (by repeat (first | (with_reducible first | exact HB.out | apply za14 | apply za7 | apply za9 | refine za8 ?_ (IsS89.ge HI195.out) | refine za8 ?_ GE191.out) | exact HB.out)))); have n3_ := za1 (hb); have n4_ := za1 (hi); clear BK191; clear HO198; clear HB; clear HI195; have BK191 := n0_; have HO198 := n1_; have HO203 := n2_; have HB := n3_; have HI195 := n4_; clear n0_ n1_ n2_ n3_ n4_; (try clear hb); (try clear hb2); (try clear hk); (try clear hi); (try clear ho0)) | ((with_reducible refine gate_dst (N := 7) rfl ?_); refine box_event ?hg (N := 7) ?hd (cs := #[.slice none 0 0, .int .i64 0]) (t := 37) ?hr ?_; (case hd => rfl); (case hg => rfl); (case hr => first | (go_simp; done) | (go_simp; rfl)); intro gb207 hg w10 hbox hb; have n0_ := za1 (Kd.R_below (by (with_reducible repeat (first | apply za5 | apply za4 | apply za6)); exact HO198.out) hb); have n1_ := za1 (Kd.R_below (by (with_reducible repeat (first | apply za5 | apply za4 | apply za6)); exact HO203.out) hb); have n2_ := za1 (za17 (g := gb191) (o := .cells #[.slice none 0 0, .int .i64 0] 37 (0, 0)) (by (with_reducible repeat (first | refine za11 ?_ _ | refine za12 ?_ | refine za13 ?_ _)); exact BK191.out) hb); have n3_ := za1 (IsS89.below (by repeat (first | (with_reducible first | exact HI195.out | apply IsS89.alloc | apply IsS89.drewN | apply IsS89.drew | apply IsS89.set_1 | apply IsS89.set_2 | refine IsS89.far ?_ NB195_191.out _) | exact HI195.out)) hb); have n4_ := za1 (za28 (by repeat (first | (with_reducible first | exact HB.out | apply za14 | apply za7 | apply za9 | refine za8 ?_ (IsS89.ge HI195.out) | refine za8 ?_ GE191.out) | exact HB.out)) hb); have n5_ := za1 (hbox); have n6_ := za1 ((by rw [hg]; exact (za29 (by repeat (first | (with_reducible first | exact HB.out | apply za14 | apply za7 | apply za9 | refine za8 ?_ (IsS89.ge HI195.out) | refine za8 ?_ GE191.out) | exact HB.out))) : w.heap.size ≤ gb207)); have n7_ := za1 ((by rw [hg]; exact (za29 (by repeat (first | (with_reducible first | exact HB.out | apply za14 | apply za7 | apply za9 | refine za8 ?_ (IsS89.ge HI195.out) | refine za8 ?_ GE191.out) | exact HB.out))) : w.heap.size ≤ gb207)); have n8_ := za1 ((by rw [hg]; exact Nat.ne_of_lt (blk_lt (g := gb191) (o := .cells #[.slice none 0 0, .int .i64 0] 37 (0, 0)) (by (with_reducible repeat (first | refine za11 ?_ _ | refine za12 ?_ | refine za13 ?_ _)); exact BK191.out)) : gb191 ≠ gb207)); have n9_ := za1 ((by rw [hg]; exact Nat.ne_of_gt (blk_lt (g := gb191) (o := .cells #[.slice none 0 0, .int .i64 0] 37 (0, 0)) (by (with_reducible repeat (first | refine za11 ?_ _ | refine za12 ?_ | refine za13 ?_ _)); exact BK191.out)) : gb207 ≠ gb191)); have n10_ := za1 ((by rw [hg]; exact Nat.ne_of_lt (IsS89.lt (show IsS89 w _ g195 t192 t205 t206 from by repeat (first | (with_reducible first | exact HI195.out | apply IsS89.alloc | apply IsS89.drewN | apply IsS89.drew | apply IsS89.set_1 | apply IsS89.set_2 | refine IsS89.far ?_ NB195_191.out _) | exact HI195.out))) : g195 ≠ gb207)); have n11_ := za1 ((by rw [hg]; exact Nat.ne_of_gt (IsS89.lt (show IsS89 w _ g195 t192 t205 t206 from by repeat (first | (with_reducible first | exact HI195.out | apply IsS89.alloc | apply IsS89.drewN | apply IsS89.drew | apply IsS89.set_1 | apply IsS89.set_2 | refine IsS89.far ?_ NB195_191.out _) | exact HI195.out))) : gb207 ≠ g195)); clear HO198; clear HO203; clear BK191; clear HI195; clear HB; have HO198 := n0_; have HO203 := n1_; have BK191 := n2_; have HI195 := n3_; have HB := n4_; have BK207 := n5_; have GW207 := n6_; have GE207 := n7_; have NB191_207 := n8_; have NB207_191 := n9_; have NB195_207 := n10_; have NB207_195 := n11_; clear n0_ n1_ n2_ n3_ n4_ n5_ n6_ n7_ n8_ n9_ n10_ n11_; clear hb hbox hg; obtain ⟨Ao11, co11, eo11⟩ := Kd.R_slice HO203.out; subst eo11; have hnb12 := NB207_191.out; have hnc12 := NB191_207.out; have hnb13 := NB207_195.out; have hnc13 := NB195_207.out; have hcz14_0 : w10.cell? ⟨gb207, 0, none⟩ = some (.slice none 0 0) := (za15 BK207.out 0).trans rfl; have hcz14_1 : w10.cell? ⟨gb207, 1, none⟩ = some (.int .i64 0) := (za15 BK207.out 1).trans rfl; have hfz14_0 := blk_frozen BK207.out 0; have hfz14_1 := blk_frozen BK207.out 1))
 have n0_ : Aside0 (Kd.R (Kd.int .i64) 3 ((w10.setCell ⟨gb207, 0, none⟩ (.slice Ao11 t201.length co11)).setCell ⟨gb207, 1, none⟩ (.int .i64 t204)) w.heap.size (fun k_ => some k_ ≠ (.slice Ao11 t201.length co11 : Value).ownBlock) v197 t196) := ⟨by (with_reducible repeat (first | apply za5 | apply za4 | apply za6)); exact za21 (Kd.R_far (p := ⟨gb207, 1, none⟩) (Kd.R_far (p := ⟨gb207, 0, none⟩) (Kd.R_types HO198.out BK207.out (by decide)) (fun _ hk => hk.2) (.slice Ao11 t201.length co11)) (fun _ hk => hk.2) (.int .i64 t204)) (fun _ hk => hk.1.2)⟩
 have n1_ : Aside0 (Kd.R (Kd.int .i64) 3 ((w10.setCell ⟨gb207, 0, none⟩ (.slice Ao11 t201.length co11)).setCell ⟨gb207, 1, none⟩ (.int .i64 t204)) w.heap.size (fun k_ => some k_ ≠ (v197 : Value).ownBlock) (.slice Ao11 t201.length co11) t201) := ⟨by (with_reducible repeat (first | apply za5 | apply za4 | apply za6)); exact za21 (Kd.R_far (p := ⟨gb207, 1, none⟩) (Kd.R_far (p := ⟨gb207, 0, none⟩) (Kd.R_types HO203.out BK207.out (by decide)) (fun _ hk => hk.2) (.slice Ao11 t201.length co11)) (fun _ hk => hk.2) (.int .i64 t204)) (fun _ hk => hk.1.2)⟩
 have n2_ : Aside0 (((w10.setCell ⟨gb207, 0, none⟩ (.slice Ao11 t201.length co11)).setCell ⟨gb207, 1, none⟩ (.int .i64 t204)).heap[gb191]? = some (.cells #[.slice none 0 0, .int .i64 0] 37 (0, 0))) := ⟨by (with_reducible repeat (first | refine za11 ?_ _ | refine za12 ?_ | refine za13 ?_ _)); refine blk_far ?_ NB191_207.out _; (with_reducible repeat (first | refine za11 ?_ _ | refine za12 ?_ | refine za13 ?_ _)); refine blk_far ?_ NB191_207.out _; (with_reducible repeat (first | refine za11 ?_ _ | refine za12 ?_ | refine za13 ?_ _)); exact BK191.out⟩
 have n3_ : Aside0 (((w10.setCell ⟨gb207, 0, none⟩ (.slice Ao11 t201.length co11)).setCell ⟨gb207, 1, none⟩ (.int .i64 t204)).heap[gb207]? = some (.cells #[.slice Ao11 t201.length co11, .int .i64 t204] 37 (0, 0))) := ⟨by (with_reducible repeat (first | refine za11 ?_ _ | refine za12 ?_ | refine za13 ?_ _)); refine blk_put (cs := #[.slice Ao11 t201.length co11, .int .i64 0]) ?_ 1 _ rfl; (with_reducible repeat (first | refine za11 ?_ _ | refine za12 ?_ | refine za13 ?_ _)); refine blk_put (cs := #[.slice none 0 0, .int .i64 0]) ?_ 0 _ rfl; (with_reducible repeat (first | refine za11 ?_ _ | refine za12 ?_ | refine za13 ?_ _)); exact BK207.out⟩
 have n4_ : Aside0 (IsS89 w ((w10.setCell ⟨gb207, 0, none⟩ (.slice Ao11 t201.length co11)).setCell ⟨gb207, 1, none⟩ (.int .i64 t204)) g195 t192 t205 t206) := ⟨by repeat (first | (with_reducible first | exact HI195.out | apply IsS89.alloc | apply IsS89.drewN | apply IsS89.drew | apply IsS89.set_1 | apply IsS89.set_2 | refine IsS89.far ?_ NB195_191.out _ | refine IsS89.far ?_ NB195_207.out _) | exact HI195.out)⟩
 have n5_ : Aside0 (Below w.heap.size w ((w10.setCell ⟨gb207, 0, none⟩ (.slice Ao11 t201.length co11)).setCell ⟨gb207, 1, none⟩ (.int .i64 t204))) := ⟨by repeat (first | (with_reducible first | exact HB.out | apply za14 | apply za7 | apply za9 | refine za8 ?_ (IsS89.ge HI195.out) | refine za8 ?_ GE191.out | refine za8 ?_ GE207.out) | exact HB.out)⟩
 (try clear HO198)
 (try clear HO203)
 (try clear BK191)
 (try clear BK207)
 (try clear HI195)
 (try clear HB)
 generalize ((w10.setCell ⟨gb207, 0, none⟩ (.slice Ao11 t201.length co11)).setCell ⟨gb207, 1, none⟩ (.int .i64 t204)) = w15 at n0_ n1_ n2_ n3_ n4_ n5_ ⊢
 have HO198 := n0_
 have HO203 := n1_
 have BK191 := n2_
 have BK207 := n3_
 have HI195 := n4_
 have HB := n5_
 clear n0_ n1_ n2_ n3_ n4_ n5_
 have n0_ := za1 (za6 HO198.out)
 have n1_ := za1 (za6 HO203.out)
 have n2_ := za1 (za12 BK191.out)
 have n3_ := za1 (za12 BK207.out)
 have n4_ := za1 (IsS89.drew HI195.out)
 have n5_ := za1 (za9 HB.out)
 clear HO198
 clear HO203
 clear BK191
 clear BK207
 clear HI195
 clear HB
 have HO198 := n0_
 have HO203 := n1_
 have BK191 := n2_
 have BK207 := n3_
 have HI195 := n4_
 have HB := n5_
 clear n0_ n1_ n2_ n3_ n4_ n5_
 refine start_ (n := 7) (S := fun w' => w'.cell? ⟨gb207, 0, none⟩ = some (.slice Ao11 t201.length co11) ∧ w'.cell? ⟨gb207, 1, none⟩ = some (.int .i64 t204)) (ds := []) #[false, false, false, false, false, false, false] (by kernel_rfl) rfl rfl ⟨(za15 BK207.out 0).trans rfl, (za15 BK207.out 1).trans rfl⟩ (fun hHeld => ?_)
 generalize w15.drew = w16 at HO198 HO203 BK191 BK207 HI195 HB hHeld ⊢
 refine pure_ (i := 0) (N := some 14) (v := ?_) (a' := ?_) #[true, false, false, false, false, false, false] rfl rfl (by kernel_rfl) (fun _ _ _ h => h) (Or.inl ⟨by rfl, ?_⟩) ?_ ?_
 rotate_left
 ·intro w'
  go_simp
  with_reducible rfl
 rotate_left
 ·simp only [Act.put, za0, za2, za3, i64_w, i32_w]
  rfl
 refine pure_ (i := 2) (N := some 16) (v := ?_) (a' := ?_) #[true, false, true, false, false, false, false] rfl rfl (by kernel_rfl) (fun _ _ _ h => h) (Or.inl ⟨by rfl, ?_⟩) ?_ ?_
 rotate_left
 ·intro w'
  go_simp
  with_reducible rfl
 rotate_left
 ·simp only [Act.put, za0, za2, za3, i64_w, i32_w]
  rfl
 refine take_ (i := 1) (N := some 15) (v := ?_) (a' := ?_) #[true, true, true, false, false, false, false] rfl rfl (by kernel_rfl) (fun _ _ _ h => h) (Or.inl ⟨by rfl, ?_⟩) hHeld ?_ ?_
 rotate_left
 ·rintro w' ⟨s0, s1⟩
  go_simp
  with_reducible rfl
 rotate_left
 ·simp only [Act.put, za0, za2, za3, i64_w, i32_w]
  rfl
 refine one_ (i := 3) (N := some 17) #[true, true, true, true, false, false, false] rfl rfl (by kernel_rfl) (by decide) (fun K hK => ?_)
 refine goes_ Try.func51 (by kernel_rfl) rfl #[.pointer (some ⟨g195, 0, none⟩)] (by rfl) rfl rfl (by (try simp only [za18, za26, za27]); first | done | rfl | (simp only [za20, za19]; rfl)) ?_
 with_reducible refine (spec_l7Message.calls k g195 t192 t205 t206 t208 t211 t212 w _ ?side1 ?side2 A5.out).mono ?_
 (case side1 => repeat (first | (with_reducible first | exact HI195.out | apply IsS89.alloc | apply IsS89.drewN | apply IsS89.drew | apply IsS89.set_1 | apply IsS89.set_2 | refine IsS89.far ?_ NB195_191.out _ | refine IsS89.far ?_ NB195_207.out _) | exact HI195.out))
 (case side2 => repeat (first | (with_reducible first | exact HB.out | apply za14 | apply za7 | apply za9 | refine za8 ?_ (IsS89.ge HI195.out) | refine za8 ?_ GE191.out | refine za8 ?_ GE207.out) | exact HB.out))
 rintro e w17 ⟨v209, rfl, ho0, hi, hb, hk⟩
 refine ⟨_, rfl, ?_⟩
 have n0_ := za1 (KeepBut.blk hk (g' := gb191) (o := .cells #[.slice none 0 0, .int .i64 0] 37 (0, 0)) (by (with_reducible repeat (first | refine za11 ?_ _ | refine za12 ?_ | refine za13 ?_ _)); exact BK191.out) NB191_195.out (by simp))
 have n1_ := za1 (za21 (Kd.R_told (Kd.R_oldK (IsS89.apart (show IsS89 w _ g195 t192 t205 t206 from by repeat (first | (with_reducible first | exact HI195.out | apply IsS89.alloc | apply IsS89.drewN | apply IsS89.drew | apply IsS89.set_1 | apply IsS89.set_2 | refine IsS89.far ?_ NB195_191.out _ | refine IsS89.far ?_ NB195_207.out _) | exact HI195.out)) (by (with_reducible repeat (first | apply za5 | apply za4 | apply za6)); exact HO198.out) (by decide)) hk) (Kd.R_base ho0)) (fun _ h_ => h_.1))
 have n2_ := za1 (za21 (Kd.R_told (Kd.R_oldK (IsS89.apart (show IsS89 w _ g195 t192 t205 t206 from by repeat (first | (with_reducible first | exact HI195.out | apply IsS89.alloc | apply IsS89.drewN | apply IsS89.drew | apply IsS89.set_1 | apply IsS89.set_2 | refine IsS89.far ?_ NB195_191.out _ | refine IsS89.far ?_ NB195_207.out _) | exact HI195.out)) (by (with_reducible repeat (first | apply za5 | apply za4 | apply za6)); exact HO203.out) (by decide)) hk) (Kd.R_base ho0)) (fun _ h_ => h_.1))
 have n3_ := za1 (KeepBut.blk hk (g' := gb207) (o := .cells #[.slice Ao11 t201.length co11, .int .i64 t204] 37 (0, 0)) (by (with_reducible repeat (first | refine za11 ?_ _ | refine za12 ?_ | refine za13 ?_ _)); exact BK207.out) NB207_195.out (by simp))
 have n4_ := za1 (za31 (Kd.R_new' (Kd.R_new' ho0 (Kd.R_lt (by (with_reducible repeat (first | apply za5 | apply za4 | apply za6)); exact HO198.out))) (Kd.R_lt (by (with_reducible repeat (first | apply za5 | apply za4 | apply za6)); exact HO203.out))) (za29 (by repeat (first | (with_reducible first | exact HB.out | apply za14 | apply za7 | apply za9 | refine za8 ?_ (IsS89.ge HI195.out) | refine za8 ?_ GE191.out | refine za8 ?_ GE207.out) | exact HB.out))))
 have n5_ := za1 (hb)
 have n6_ := za1 (hi)
 clear BK191
 clear HO198
 clear HO203
 clear BK207
 clear HB
 clear HI195
 have BK191 := n0_
 have HO198 := n1_
 have HO203 := n2_
 have BK207 := n3_
 have HO210 := n4_
 have HB := n5_
 have HI195 := n6_
 clear n0_ n1_ n2_ n3_ n4_ n5_ n6_
 (try clear hb)
 (try clear hb2)
 (try clear hk)
 (try clear hi)
 (try clear ho0)
 refine hK.out _ _ ⟨(za15 BK207.out 0).trans rfl, (za15 BK207.out 1).trans rfl⟩ (fun hHeld => ?_)
 clear hK K
 refine norm_ (a' := ?_) ?_ ?_
 rotate_left
 ·show Act.put _ (some 17) _ = _
  simp only [Act.put, za0, za2, za3, i64_w, i32_w]
  rfl
 refine pure_ (i := 4) (N := some 2) (v := ?_) (a' := ?_) #[true, true, true, true, true, false, false] rfl rfl (by kernel_rfl) (fun _ _ _ h => h) (Or.inl ⟨by rfl, ?_⟩) ?_ ?_
 rotate_left
 ·intro w'
  go_simp
  with_reducible rfl
 rotate_left
 ·simp only [Act.put, za0, za2, za3, i64_w, i32_w]
  rfl
 refine one_ (i := 5) (N := none) #[true, true, true, true, true, true, false] rfl rfl (by kernel_rfl) (by decide) (fun K hK => ?_)
 have hs18 : w17.cell? ⟨gb191, 0, none⟩ = some (.slice none 0 0) := (za15 BK191.out 0).trans rfl
 have hfs18 := blk_frozen BK191.out 0
 have hns18_1 := NB207_191.out
 have hms18_1 := NB191_207.out
 have hs19 : w17.cell? ⟨gb191, 1, none⟩ = some (.int .i64 0) := (za15 BK191.out 1).trans rfl
 have hfs19 := blk_frozen BK191.out 1
 have hns19_1 := NB207_191.out
 have hms19_1 := NB191_207.out
 refine skip_ (w1 := ?_) (by rfl) rfl ?_ ?_
 rotate_left
 ·go_simp
  rfl
 refine hK.out _ _ ⟨((cell_far (p := ⟨gb191, _, none⟩) NB207_191.out _).trans (((cell_far (p := ⟨gb191, _, none⟩) NB207_191.out _).trans (hHeld.1)))), ((cell_far (p := ⟨gb191, _, none⟩) NB207_191.out _).trans (((cell_far (p := ⟨gb191, _, none⟩) NB207_191.out _).trans (hHeld.2))))⟩ (fun hHeld => ?_)
 clear hK K
 refine pure_ (i := 6) (N := some 4) (v := ?_) (a' := ?_) #[true, true, true, true, true, true, true] rfl rfl (by kernel_rfl) (fun _ _ _ h => h) (Or.inl ⟨by rfl, ?_⟩) ?_ ?_
 rotate_left
 ·intro w'
  go_simp
  with_reducible rfl
 rotate_left
 ·simp only [Act.put, za0, za2, za3, i64_w, i32_w]
  rfl
 refine done_ (by kernel_rfl) ?_
 try go_wp2
 refine bodyPost_ret (results_list (rs := [.tmp 2, .cell 3 37, .tmp 4]) rfl (by simp) (.tmp (.cell gb191 37 #[.slice Ao11 t201.length co11, .int .i64 t204] (0, 0) _ rfl (by (with_reducible repeat (first | refine za11 ?_ _ | refine za12 ?_ | refine za13 ?_ _)); refine blk_put (cs := #[.slice Ao11 t201.length co11, .int .i64 0]) ?_ 1 _ rfl; (with_reducible repeat (first | refine za11 ?_ _ | refine za12 ?_ | refine za13 ?_ _)); refine blk_put (cs := #[.slice none 0 0, .int .i64 0]) ?_ 0 _ rfl; (with_reducible repeat (first | refine za11 ?_ _ | refine za12 ?_ | refine za13 ?_ _)); exact BK191.out) Try.underlying37 rfl (by kernel_rfl) (.tmp .nil)))) rfl ?_
 exact ⟨_, _, _, by first | rfl | (simp [errW_none, errW_some] <;> rfl) | (simp [*, errW_none, errW_some] <;> rfl), by (with_reducible repeat (first | apply za5 | apply za4 | apply za6)); exact za21 (Kd.R_far (p := ⟨gb191, 1, none⟩) (Kd.R_far (p := ⟨gb191, 0, none⟩) (Kd.R_types HO198.out BK191.out (by decide)) (fun _ hk => hk.2) (.slice Ao11 t201.length co11)) (fun _ hk => hk.2) (.int .i64 t204)) (fun _ hk => ⟨hk.1.1, hk.1.2⟩), by (with_reducible repeat (first | apply za5 | apply za4 | apply za6)); exact za21 (Kd.R_far (p := ⟨gb191, 1, none⟩) (Kd.R_far (p := ⟨gb191, 0, none⟩) (Kd.R_types HO203.out BK191.out (by decide)) (fun _ hk => hk.2) (.slice Ao11 t201.length co11)) (fun _ hk => hk.2) (.int .i64 t204)) (fun _ hk => ⟨hk.1.1, hk.1.2⟩), by (with_reducible repeat (first | apply za5 | apply za4 | apply za6)); exact za21 (Kd.R_far (p := ⟨gb191, 1, none⟩) (Kd.R_far (p := ⟨gb191, 0, none⟩) (Kd.R_types HO210.out BK191.out (by decide)) (fun _ hk => hk.2) (.slice Ao11 t201.length co11)) (fun _ hk => hk.2) (.int .i64 t204)) (fun _ hk => ⟨hk.1.1.2, hk.1.2⟩), by repeat (first | (with_reducible first | exact HB.out | apply za14 | apply za7 | apply za9 | refine za8 ?_ (IsS89.ge HI195.out) | refine za8 ?_ GE191.out | refine za8 ?_ GE207.out) | exact HB.out)⟩

/-! ### impl_InRange: function 53 -/
def impl_InRange.f (a0 : Int) (a1 : Int) (a2 : Int) : Option (Bool) := if a1 ≤ a0 then (some (decide (a0 ≤ a2))) else (some false)
set_option maxHeartbeats 8000000 in
set_option maxRecDepth 100000 in
theorem impl_InRange.calls (a0 : Int) (a1 : Int) (a2 : Int) (r : Bool) (w : World) (h : impl_InRange.f a0 a1 a2 = some r) :
  Calls Try.prog 53 #[.int .i64 a0, .int .i64 a1, .int .i64 a2] w fun e w' => e = .returned (.bool r) ∧ Drawn0 w w' := by
 have H : (if a1 ≤ a0 then (some (decide (a0 ≤ a2))) else (some false)) = some r := h
 clear h
 by_cases c4 : a1 ≤ a0
 ·rw [if_pos c4] at H
  have c4b0 : decide (a1 ≤ a0) = true := za38 c4
  clear c4
  obtain rfl := za37 H
  go_enter Try.func53, Try.ntmps53
  go_wp2
  go_ret
  exact ⟨by first | rfl | (simp; done) | (simp [*]; done), by repeat (first | exact Drawn0.refl _ | apply Drawn0.step)⟩
 ·rw [if_neg c4] at H
  have c4b0 : decide (a1 ≤ a0) = false := za39 c4
  clear c4
  obtain rfl := za37 H
  go_enter Try.func53, Try.ntmps53
  go_wp2
  go_ret
  exact ⟨by first | rfl | (simp; done) | (simp [*]; done), by repeat (first | exact Drawn0.refl _ | apply Drawn0.step)⟩

/-! ### impl_Mod: function 78 -/
def impl_Mod.f (a0 : Int) (a1 : Int) : Option (Int) := (impl_InRange.f a1 1 1000000000000).bind fun t213 => (if t213 = true then (if a1 = 0 then (none) else (some (Int.tmod (wrap64 ((Int.tmod a0 a1) + a1)) a1))) else (some 0))
set_option maxHeartbeats 8000000 in
set_option maxRecDepth 100000 in
theorem impl_Mod.calls (a0 : Int) (a1 : Int) (r : Int) (w : World) (h : impl_Mod.f a0 a1 = some r) :
  Calls Try.prog 78 #[.int .i64 a0, .int .i64 a1] w fun e w' => e = .returned (.int .i64 r) ∧ Drawn0 w w' := by
 have H : ((impl_InRange.f a1 1 1000000000000).bind fun t213 => (if t213 = true then (if a1 = 0 then (none) else (some (Int.tmod (wrap64 ((Int.tmod a0 a1) + a1)) a1))) else (some 0))) = some r := h
 clear h
 replace H := za16.mp H
 obtain ⟨t213, A30, H⟩ := H
 replace H : (if t213 = true then (if a1 = 0 then (none) else (some (Int.tmod (wrap64 ((Int.tmod a0 a1) + a1)) a1))) else (some 0)) = some r := H
 have A3 := za1 A30
 clear A30
 by_cases c4 : t213 = true
 ·subst c4
  have H1 : (if a1 = 0 then (none) else (some (Int.tmod (wrap64 ((Int.tmod a0 a1) + a1)) a1))) = some r := by rw [if_pos rfl] at H; exact H
  clear H
  have H := H1
  clear H1
  by_cases c5 : a1 = 0
  ·rw [if_pos c5] at H
   exact absurd H (by simp)
  ·rw [if_neg c5] at H
   have c5b0 : (a1 == 0) = false := beq_eq_false_iff_ne.mpr c5
   have c5b1 : (a1 != 0) = true := bne_iff_ne.mpr c5
   obtain rfl := za37 H
   go_enter Try.func78, Try.ntmps78
   go_wp2_with (first | ((with_reducible refine gate_callee (f := 53) rfl ?_); refine goesL_ (some 6) rfl rfl Try.func53 (by kernel_rfl) rfl #[.int .i64 a1, .int .i64 1, .int .i64 1000000000000] rfl (by (try simp only [za18, za26, za27]); first | done | rfl | (simp only [za20, za19]; rfl)) ?_; (with_reducible refine (impl_InRange.calls a1 1 1000000000000 true _ A3.out).mono ?_); rintro e w' ⟨rfl, ⟨nd, rfl⟩⟩; refine ⟨_, rfl, ?_⟩))
   go_ret
   exact ⟨by first | rfl | (simp; done) | (simp [*]; done), by repeat (first | exact Drawn0.refl _ | apply Drawn0.step)⟩
 ·replace c4 := Bool.eq_false_iff.mpr c4
  subst c4
  have H1 : (some 0) = some r := by rw [if_neg (show ¬ (false = true) by decide)] at H; exact H
  clear H
  have H := H1
  clear H1
  obtain rfl := za37 H
  go_enter Try.func78, Try.ntmps78
  go_wp2_with (first | ((with_reducible refine gate_callee (f := 53) rfl ?_); refine goesL_ (some 6) rfl rfl Try.func53 (by kernel_rfl) rfl #[.int .i64 a1, .int .i64 1, .int .i64 1000000000000] rfl (by (try simp only [za18, za26, za27]); first | done | rfl | (simp only [za20, za19]; rfl)) ?_; (with_reducible refine (impl_InRange.calls a1 1 1000000000000 false _ A3.out).mono ?_); rintro e w' ⟨rfl, ⟨nd, rfl⟩⟩; refine ⟨_, rfl, ?_⟩))
  go_ret
  exact ⟨by first | rfl | (simp; done) | (simp [*]; done), by repeat (first | exact Drawn0.refl _ | apply Drawn0.step)⟩

/-! ### impl_Hash: function 68 -/
def impl_Hash.l0 : Nat → Int → List Int → Int → Int → Option (Int)
  | 0, _, _, _, _ => none
  | k + 1, x3, x6, x7, x8 => if x8 < x7 then (if 0 ≤ x8 then (if x8 < (x6.length : Int) then ((impl_Mod.f (rd x6 x8) 2147483647).bind fun t215 => (impl_Hash.l0 k (Int.tmod (wrap64 ((wrap64 ((wrap64 (x3 * 1000003)) + t215)) + 13)) 2147483647) x6 x7 (wrap64 (x8 + 1)))) else (none)) else (none)) else (some x3)
def impl_Hash.f (k : Nat) (l0 : List Int) : Option (Int) := impl_Hash.l0 k 11 l0 (l0.length : Int) 0
theorem impl_Hash.mono_l : ∀ k, (∀ y0 y1 y2 y3, LeO (impl_Hash.l0 k y0 y1 y2 y3) (impl_Hash.l0 (k + 1) y0 y1 y2 y3))
  | 0 => fun _ _ _ _ r h => by simp [impl_Hash.l0] at h
  | k + 1 => by
    have ih0 := impl_Hash.mono_l k
    · intro y0 y1 y2 y3
      unfold impl_Hash.l0
      repeat' first
      | (with_reducible exact ih0 _ _ _ _)
      | (with_reducible exact LeO.refl _)
      | (with_reducible exact za34 _)
      | (with_reducible refine za33 ?_ ?_)
      | (with_reducible refine za32 ?_ (fun _ => ?_))
      | exact ih0 _ _ _ _
      | exact za34 _
      | refine za33 ?_ ?_
      | refine za32 ?_ (fun _ => ?_)
theorem impl_Hash.mono : ∀ a0 k, LeO (impl_Hash.f k a0) (impl_Hash.f (k + 1) a0) := by
  intro a0 k
  have ih0 := impl_Hash.mono_l k
  unfold impl_Hash.f
  repeat' first
      | (with_reducible exact ih0 _ _ _ _)
      | (with_reducible exact LeO.refl _)
      | (with_reducible exact za34 _)
      | (with_reducible refine za33 ?_ ?_)
      | (with_reducible refine za32 ?_ (fun _ => ?_))
      | exact ih0 _ _ _ _
      | exact za34 _
      | refine za33 ?_ ?_
      | refine za32 ?_ (fun _ => ?_)
set_option maxHeartbeats 8000000 in
set_option maxRecDepth 100000 in
theorem impl_Hash.calls (k : Nat) (A0 : Option Addr) (c0 : Nat) (l0 : List Int) (r : Int) (w : World) (hr0 : Kd.C (Kd.int .i64) w A0 l0.length l0) (hc0 : l0.length ≤ c0) (h : impl_Hash.f k l0 = some r) :
  Calls Try.prog 68 #[.slice A0 l0.length c0] w fun e w' => e = .returned (.int .i64 r) ∧ Drawn0 w w' := by
 have HR0 := za1 hr0
 have HC0 := za1 hc0
 clear hr0 hc0
 have H : (impl_Hash.l0 k 11 l0 (l0.length : Int) 0) = some r := h
 clear h
 have H' := za1 H
 clear H
 go_enter Try.func68, Try.ntmps68
 go_wp2
 go_loopg [3, 8] k (fun kq v3 v8 w' => ∃ (x3_1 : Int) (x8_1 : Int), v3 = .int .i64 x3_1 ∧ v8 = .int .i64 x8_1 ∧ Aside0 (impl_Hash.l0 kq x3_1 l0 (l0.length : Int) x8_1 = some r) ∧ Aside0 (kq ≤ k) ∧ Drawn0 w w')
 case atStart => exact ⟨(11), (0), (by first | rfl | (simp; done) | (simp [*]; done)), (by first | rfl | (simp; done) | (simp [*]; done)), H', ⟨Nat.le_refl _⟩, by repeat (first | exact Drawn0.refl _ | apply Drawn0.step)⟩
 case round =>
  clear H'
  obtain ⟨x3_1, x8_1, rfl, rfl, HA, HK1, ⟨m1, rfl⟩⟩ := hrel
  cases gk with
  | zero => exact absurd HA.out (by simp [impl_Hash.l0])
  | succ k1 =>
   have H := HA.out
   clear HA
   simp only [impl_Hash.l0] at H
   by_cases c2 : x8_1 < (l0.length : Int)
   ·rw [if_pos c2] at H
    have c2b0 : decide (x8_1 < (l0.length : Int)) = true := za38 c2
    clear c2
    by_cases c3 : 0 ≤ x8_1
    ·rw [if_pos c3] at H
     have c3b0 : decide (0 ≤ x8_1) = true := za38 c3
     clear c3
     by_cases c4 : x8_1 < (l0.length : Int)
     ·rw [if_pos c4] at H
      have c4b0 : decide (x8_1 < (l0.length : Int)) = true := za38 c4
      clear c4
      replace H := za16.mp H
      obtain ⟨t215, A50, H⟩ := H
      replace H : (impl_Hash.l0 k1 (Int.tmod (wrap64 ((wrap64 ((wrap64 (x3_1 * 1000003)) + t215)) + 13)) 2147483647) l0 (l0.length : Int) (wrap64 (x8_1 + 1))) = some r := H
      have A5 := za1 A50
      clear A50
      have H' := za1 H
      clear H
      have p214 : 0 ≤ (x8_1 : Int) := za35 (by first | (with_reducible assumption) | assumption)
      have q214 : x8_1 < (l0.length : Int) := za35 (by first | (with_reducible assumption) | assumption)
      obtain ⟨ad214, e214, hx214_0⟩ := Kd.at_int HR0.out x8_1 p214 q214
      cases e214
      replace p214 := eq_true p214
      replace q214 := eq_true q214
      go_wp2_with (first | ((with_reducible refine gate_callee (f := 78) rfl ?_); refine goesL_ (some 15) rfl rfl Try.func78 (by kernel_rfl) rfl #[.int .i64 (rd l0 x8_1), .int .i64 2147483647] rfl (by (try simp only [za18, za26, za27]); first | done | rfl | (simp only [za20, za19]; rfl)) ?_; (with_reducible refine (impl_Mod.calls (rd l0 x8_1) 2147483647 t215 _ A5.out).mono ?_); rintro e w' ⟨rfl, ⟨nd, rfl⟩⟩; refine ⟨_, rfl, ?_⟩))
      go_roundg k1
      case measure => have := HK1.out; omega
      case rel => exact ⟨(Int.tmod (wrap64 ((wrap64 ((wrap64 (x3_1 * 1000003)) + t215)) + 13)) 2147483647), (wrap64 (x8_1 + 1)), (by first | rfl | (simp; done) | (simp [*]; done)), (by first | rfl | (simp; done) | (simp [*]; done)), H', ⟨by have := HK1.out; omega⟩, by repeat (first | exact Drawn0.refl _ | apply Drawn0.step)⟩
     ·rw [if_neg c4] at H
      exact absurd H (by simp)
    ·rw [if_neg c3] at H
     exact absurd H (by simp)
   ·rw [if_neg c2] at H
    have c2b0 : decide (x8_1 < (l0.length : Int)) = false := za39 c2
    clear c2
    obtain rfl := za37 H
    go_wp2
    go_ret
    exact ⟨by first | rfl | (simp; done) | (simp [*]; done), by repeat (first | exact Drawn0.refl _ | apply Drawn0.step)⟩

end Go.Proofs.Ytanogkaledgecaa.PFnThresholds
