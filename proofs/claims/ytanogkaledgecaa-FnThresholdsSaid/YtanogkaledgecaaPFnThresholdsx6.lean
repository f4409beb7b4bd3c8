/- The machine's side of a law: what its Go functions compute, as Lean functions, and the walks that show it; laid by this session's program (wip/tools) out of the translation. Conditions: those of each theorem. -/
import Derived.Test.YtanogkaledgecaaPFnThresholdsx0
import Derived.Test.YtanogkaledgecaaPFnThresholdsx5
namespace Go.Proofs.Ytanogkaledgecaa.PFnThresholds
open Go.RowKit Go.Proofs.YtanogkaledgecaaW.PrintWords Go.Proofs.YtanogkaledgecaaW.PrintLast Go.Proofs.YtanogkaledgecaaW.PrintMore
attribute [local go_sem] max2_int min2_int max_two min_two max_three min_three max_four min_four   -- for this text's walks alone
set_option linter.unusedVariables false
set_option linter.unusedSimpArgs false

/-! ### spec_SignBy: function 73 -/
def spec_SignBy.l0 : Nat → List Int → List Int → List (S46) → Int → List Int → Int → Option ((List (S46)))
  | 0, _, _, _, _, _, _ => none
  | k + 1, x0, x2, x7, x8, x280000, x280001 => if x8 < (x280000.length : Int) then (if 0 ≤ x8 then ((spec_l6Has.f k x0 (rd x280000 x8)).bind fun t284 => (if t284 = true then ((spec_TagOf.f k (rd x280000 x8) x2).bind fun t287 => (if x7.length < 8796093022208 then (spec_SignBy.l0 k x0 x2 (x7 ++ [(⟨rd x280000 x8, t287⟩ : S46)]) (wrap64 (x8 + 1)) x280000 x280001) else (none))) else (spec_SignBy.l0 k x0 x2 x7 (wrap64 (x8 + 1)) x280000 x280001))) else (none)) else (some x7)
def spec_SignBy.f (k : Nat) (l0 : List Int) (l1_0 : List Int) (a1_1 : Int) (l2 : List Int) : Option ((List (S46))) := spec_SignBy.l0 k l0 l2 (([] : List (S46))) 0 l1_0 a1_1
theorem spec_SignBy.mono_l : ∀ k, (∀ y0 y1 y2 y3 y4 y5, LeO (spec_SignBy.l0 k y0 y1 y2 y3 y4 y5) (spec_SignBy.l0 (k + 1) y0 y1 y2 y3 y4 y5))
  | 0 => fun _ _ _ _ _ _ r h => by simp [spec_SignBy.l0] at h
  | k + 1 => by
    have ih0 := spec_SignBy.mono_l k
    · intro y0 y1 y2 y3 y4 y5
      unfold spec_SignBy.l0
      repeat' first
      | (with_reducible exact ih0 _ _ _ _ _ _)
      | (with_reducible exact spec_TagOf.mono _ _ _)
      | (with_reducible exact spec_l6Has.mono _ _ _)
      | (with_reducible exact LeO.refl _)
      | (with_reducible exact za34 _)
      | (with_reducible refine za33 ?_ ?_)
      | (with_reducible refine za32 ?_ (fun _ => ?_))
      | exact ih0 _ _ _ _ _ _
      | exact spec_TagOf.mono _ _ _
      | exact spec_l6Has.mono _ _ _
      | exact za34 _
      | refine za33 ?_ ?_
      | refine za32 ?_ (fun _ => ?_)
theorem spec_SignBy.mono : ∀ a0 a1 a2 a3 k, LeO (spec_SignBy.f k a0 a1 a2 a3) (spec_SignBy.f (k + 1) a0 a1 a2 a3) := by
  intro a0 a1 a2 a3 k
  have ih0 := spec_SignBy.mono_l k
  unfold spec_SignBy.f
  repeat' first
      | (with_reducible exact ih0 _ _ _ _ _ _)
      | (with_reducible exact spec_TagOf.mono _ _ _)
      | (with_reducible exact spec_l6Has.mono _ _ _)
      | (with_reducible exact LeO.refl _)
      | (with_reducible exact za34 _)
      | (with_reducible refine za33 ?_ ?_)
      | (with_reducible refine za32 ?_ (fun _ => ?_))
      | exact ih0 _ _ _ _ _ _
      | exact spec_TagOf.mono _ _ _
      | exact spec_l6Has.mono _ _ _
      | exact za34 _
      | refine za33 ?_ ?_
      | refine za32 ?_ (fun _ => ?_)
def spec_SignBy.T6 : Bool × List (List Nat × List Nat) := (true, [([], []), ([], []), ([1], [1]), ([], []), ([2, 3], [2, 3]), ([4], [4]), ([], []), ([6], [6]), ([], []), ([7, 8], [7, 8]), ([9], [9]), ([], []), ([10, 11], [10, 11]), ([5, 12], [5, 12]), ([13], [13]), ([0, 14, 12], [0, 14]), ([15, 15, 0, 1, 2, 3, 4, 5, 6, 7, 8, 9, 10, 11, 12, 13, 14, 15], [0, 15])])
def spec_SignBy.B6 : List Nat := [0, 0, 2, 0, 14, 30, 0, 64, 0, 448, 960, 0, 4032, 8190, 16382, 32767, 65535]
theorem spec_SignBy.tab6 : rtab .any (opsOf Try.f73 6) = spec_SignBy.T6 := by kernel_rfl
theorem spec_SignBy.bits6 : waitsOk spec_SignBy.T6.2 spec_SignBy.B6 = true := by kernel_rfl
set_option maxHeartbeats 8000000 in
set_option maxRecDepth 100000 in
theorem spec_SignBy.calls (k : Nat) (A0 : Option Addr) (c0 : Nat) (l0 : List Int) (A1_0 : Option Addr) (c1_0 : Nat) (l1_0 : List Int) (a1_1 : Int) (A2 : Option Addr) (c2 : Nat) (l2 : List Int) (r : List (S46)) (w : World) (hr0 : Kd.C (Kd.int .i64) w A0 l0.length l0) (hc0 : l0.length ≤ c0) (hr1_0 : Kd.C (Kd.int .i64) w A1_0 l1_0.length l1_0) (hc1_0 : l1_0.length ≤ c1_0) (hr2 : Kd.C (Kd.int .i64) w A2 l2.length l2) (hc2 : l2.length ≤ c2) (h : spec_SignBy.f k l0 l1_0 a1_1 l2 = some r) :
  Calls Try.prog 73 #[.slice A0 l0.length c0, .agg #[.slice A1_0 l1_0.length c1_0, .int .i64 a1_1], .slice A2 l2.length c2] w fun e w' => ∃ v0_ : Value, e = .returned (v0_) ∧ Kd.R k46 46 w' w.heap.size (fun _ => True) v0_ r ∧ Below w.heap.size w w' := by
 have hu37 := Try.underlying37
 have hu46 := Try.underlying46
 have HR0 := za1 hr0
 have HC0 := za1 hc0
 clear hr0 hc0
 have HR1_0 := za1 hr1_0
 have HC1_0 := za1 hc1_0
 clear hr1_0 hc1_0
 have HR2 := za1 hr2
 have HC2 := za1 hc2
 clear hr2 hc2
 have HB := za1 (Below.refl w.heap.size w)
 have H : (spec_SignBy.l0 k l0 l2 (([] : List (S46))) 0 l1_0 a1_1) = some r := h
 clear h
 obtain ⟨y280, hy280⟩ : ∃ y_ : List (S46), y_ = (([] : List (S46))) := ⟨_, rfl⟩
 replace H : (spec_SignBy.l0 k l0 l2 y280 0 l1_0 a1_1) = some r := by first | (rw [hy280]; with_reducible exact H) | (have H2_ := (za36 _ _).symm.trans H; rw [hy280]; with_reducible exact H2_) | (have H2_ := (za36 _ _).symm.trans H; with_reducible exact H2_) | with_reducible exact H | (rw [hy280]; exact H) | exact H
 have Ny280 := za1 hy280
 clear hy280
 have H' := za1 H
 clear H
 go_enter Try.func73, Try.ntmps73
 go_wp2_with (first | ((with_reducible refine gate_dst (N := 4) rfl ?_); refine box_event ?hg (N := 4) ?hd (cs := #[.slice A1_0 l1_0.length c1_0, .int .i64 a1_1]) (t := 37) ?hr ?_; (case hd => rfl); (case hg => rfl); (case hr => first | (go_simp; done) | (go_simp; rfl)); intro gb279 hg w4 hbox hb; have n0_ := za1 (za28 (by repeat (first | (with_reducible first | exact HB.out | apply za14 | apply za7 | apply za9) | exact HB.out)) hb); have n1_ := za1 (hbox); have n2_ := za1 ((by rw [hg]; exact (za29 (by repeat (first | (with_reducible first | exact HB.out | apply za14 | apply za7 | apply za9) | exact HB.out))) : w.heap.size ≤ gb279)); have n3_ := za1 ((by rw [hg]; exact (za29 (by repeat (first | (with_reducible first | exact HB.out | apply za14 | apply za7 | apply za9) | exact HB.out))) : w.heap.size ≤ gb279)); clear HB; have HB := n0_; have BK279 := n1_; have GW279 := n2_; have GE279 := n3_; clear n0_ n1_ n2_ n3_; clear hb hbox hg) | ((with_reducible refine gate_dst (N := 9) rfl ?_); refine Kd.R_lit k46 _ 46 ?hg (N := 9) ?hd (xs := ([] : List (S46))) (inner := []) (ok := fun _ => True) (okp := fun _ => True) ?hr ?hp (fun _ hk => hk) trivial (Below.refl _ _) (Nat.le_refl _) (by simp) ?_; (case hd => rfl); (case hg => rfl); (case hr => first | (go_simp; done) | (go_simp; rfl)); (case hp => exact (Reps.none _ _)); intro v281 w5 ho6 hb hg_ hnew_; clear hg_ hnew_; (first | rw [← Ny280.out] at ho6 | (simp only [Int.reduceToNat] at ho6; rw [← Ny280.out] at ho6)); have n0_ := za1 (za31 ho6 (za29 (by repeat (first | (with_reducible first | exact HB.out | apply za14 | apply za7 | apply za9 | refine za8 ?_ GE279.out) | exact HB.out)))); have n1_ := za1 (za17 (g := gb279) (o := .cells #[.slice A1_0 l1_0.length c1_0, .int .i64 a1_1] 37 (0, 0)) (by (with_reducible repeat (first | refine za11 ?_ _ | refine za12 ?_ | refine za13 ?_ _)); exact BK279.out) hb); have n2_ := za1 (za28 (by repeat (first | (with_reducible first | exact HB.out | apply za14 | apply za7 | apply za9 | refine za8 ?_ GE279.out) | exact HB.out)) hb); clear BK279; clear HB; have HO282 := n0_; have BK279 := n1_; have HB := n2_; clear n0_ n1_ n2_; clear hb ho6))
 go_loopg [7, 8] k (fun kq v7 v8 w' => ∃ (x7_1 : List (S46)) (x8_1 : Int), v8 = .int .i64 x8_1 ∧ Aside0 (spec_SignBy.l0 kq l0 l2 x7_1 x8_1 l1_0 a1_1 = some r) ∧ Aside0 (kq ≤ k) ∧ Aside0 (Kd.R k46 46 w' w.heap.size (fun _ => True) v7 x7_1) ∧ Aside0 (w'.heap[gb279]? = some (.cells #[(.slice A1_0 l1_0.length c1_0), .int .i64 a1_1] 37 (0, 0))) ∧ Aside0 (Below w.heap.size w w'))
 case atStart => exact ⟨(y280), (0), (by first | rfl | (simp; done) | (simp [*]; done)), H', ⟨Nat.le_refl _⟩, ⟨by (with_reducible repeat (first | apply za5 | apply za4 | apply za6)); exact HO282.out⟩, ⟨by (with_reducible repeat (first | refine za11 ?_ _ | refine za12 ?_ | refine za13 ?_ _)); exact BK279.out⟩, ⟨by repeat (first | (with_reducible first | exact HB.out | apply za14 | apply za7 | apply za9 | refine za8 ?_ GE279.out) | exact HB.out)⟩⟩
 case round =>
  clear H'
  try clear c1
  try clear c2
  try clear p2
  obtain ⟨x7_1, x8_1, rfl, HA, HK1, HO_7, BK279, HB⟩ := hrel
  cases gk with
  | zero => exact absurd HA.out (by simp [spec_SignBy.l0])
  | succ k1 =>
   have H := HA.out
   clear HA
   simp only [spec_SignBy.l0] at H
   by_cases c7 : x8_1 < (l1_0.length : Int)
   ·rw [if_pos c7] at H
    have c7b0 : decide (x8_1 < (l1_0.length : Int)) = true := za38 c7
    clear c7
    by_cases c8 : 0 ≤ x8_1
    ·rw [if_pos c8] at H
     have c8b0 : decide (0 ≤ x8_1) = true := za38 c8
     clear c8
     replace H := za16.mp H
     obtain ⟨t284, A90, H⟩ := H
     replace H : (if t284 = true then ((spec_TagOf.f k1 (rd l1_0 x8_1) l2).bind fun t287 => (if x7_1.length < 8796093022208 then (spec_SignBy.l0 k1 l0 l2 (x7_1 ++ [(⟨rd l1_0 x8_1, t287⟩ : S46)]) (wrap64 (x8_1 + 1)) l1_0 a1_1) else (none))) else (spec_SignBy.l0 k1 l0 l2 x7_1 (wrap64 (x8_1 + 1)) l1_0 a1_1)) = some r := H
     have A9 := za1 A90
     clear A90
     by_cases c10 : t284 = true
     ·subst c10
      have H1 : ((spec_TagOf.f k1 (rd l1_0 x8_1) l2).bind fun t287 => (if x7_1.length < 8796093022208 then (spec_SignBy.l0 k1 l0 l2 (x7_1 ++ [(⟨rd l1_0 x8_1, t287⟩ : S46)]) (wrap64 (x8_1 + 1)) l1_0 a1_1) else (none))) = some r := by rw [if_pos rfl] at H; exact H
      clear H
      have H := H1
      clear H1
      replace H := za16.mp H
      obtain ⟨t287, A110, H⟩ := H
      replace H : (if x7_1.length < 8796093022208 then (spec_SignBy.l0 k1 l0 l2 (x7_1 ++ [(⟨rd l1_0 x8_1, t287⟩ : S46)]) (wrap64 (x8_1 + 1)) l1_0 a1_1) else (none)) = some r := H
      have A11 := za1 A110
      clear A110
      by_cases c12 : x7_1.length < 8796093022208
      ·rw [if_pos c12] at H
       have LMc12 := za1 c12
       clear c12
       obtain ⟨y288, hy288⟩ : ∃ y_ : List (S46), y_ = (x7_1 ++ [(⟨rd l1_0 x8_1, t287⟩ : S46)]) := ⟨_, rfl⟩
       replace H : (spec_SignBy.l0 k1 l0 l2 y288 (wrap64 (x8_1 + 1)) l1_0 a1_1) = some r := by first | (rw [hy288]; with_reducible exact H) | (have H2_ := (za36 _ _).symm.trans H; rw [hy288]; with_reducible exact H2_) | (have H2_ := (za36 _ _).symm.trans H; with_reducible exact H2_) | with_reducible exact H | (rw [hy288]; exact H) | exact H
       have Ny288 := za1 hy288
       clear hy288
       have H' := za1 H
       clear H
       have hcz13_0 : wr.cell? ⟨gb279, 0, none⟩ = some (.slice A1_0 l1_0.length c1_0) := (za15 BK279.out 0).trans rfl
       have hcz13_1 : wr.cell? ⟨gb279, 1, none⟩ = some (.int .i64 a1_1) := (za15 BK279.out 1).trans rfl
       have hfz13_0 := blk_frozen BK279.out 0
       have hfz13_1 := blk_frozen BK279.out 1
       have p283 : 0 ≤ (x8_1 : Int) := za35 (by first | (with_reducible assumption) | assumption)
       have q283 : x8_1 < (l1_0.length : Int) := za35 (by first | (with_reducible assumption) | assumption)
       obtain ⟨ad283, e283, hx283_0⟩ := Kd.at_int HR1_0.out x8_1 p283 q283
       cases e283
       replace hx283_0 := (HB.out.cell (World.block_lt_of_cell? w _ hx283_0)).trans hx283_0
       replace p283 := eq_true p283
       replace q283 := eq_true q283
       try go_wp2_with (first | ((with_reducible refine gate_callee (f := 90) rfl ?_); refine goesL_ (some 23) rfl rfl Try.func90 (by kernel_rfl) rfl #[.slice A0 l0.length c0, .int .i64 (rd l1_0 x8_1)] rfl (by (try simp only [za18, za26, za27]); first | done | rfl | (simp only [za20, za19]; rfl)) ?_; (with_reducible refine (spec_l6Has.calls k1 _ _ l0 (rd l1_0 x8_1) true _ ?side1 ?side2 A9.out).mono ?_); (case side1 => repeat (first | exact (za30 HR0.out HB.out) | (with_reducible refine za24 ?_ _) | (with_reducible refine za22 ?_ _) | (with_reducible refine za23 ?_))); (case side2 => exact HC0.out); rintro e w' ⟨rfl, ⟨nd, rfl⟩⟩; refine ⟨_, rfl, ?_⟩))
       (try (rw [drewN_self wr]; generalize hq_ : World.drewN wr _ = wr; have n0_ : Aside0 (Kd.R k46 46 wr w.heap.size (fun _ => True) u7 x7_1) := ⟨by rw [← hq_]; exact (by (with_reducible repeat (first | apply za5 | apply za4 | apply za6)); exact HO_7.out)⟩; have n1_ : Aside0 (wr.heap[gb279]? = some (.cells #[.slice (some ad283) l1_0.length c1_0, .int .i64 a1_1] 37 (0, 0))) := ⟨by rw [← hq_]; exact (by (with_reducible repeat (first | refine za11 ?_ _ | refine za12 ?_ | refine za13 ?_ _)); exact BK279.out)⟩; have n2_ : Aside0 (Below w.heap.size w wr) := ⟨by rw [← hq_]; exact (by repeat (first | (with_reducible first | exact HB.out | apply za14 | apply za7 | apply za9 | refine za8 ?_ GE279.out) | exact HB.out))⟩; clear HO_7 BK279 HB hq_; have HO_7 := n0_; have BK279 := n1_; have HB := n2_; clear n0_ n1_ n2_))
       have n0_ := za1 (za6 HO_7.out)
       have n1_ := za1 (za12 BK279.out)
       have n2_ := za1 (za9 HB.out)
       clear HO_7
       clear BK279
       clear HB
       have HO_7 := n0_
       have BK279 := n1_
       have HB := n2_
       clear n0_ n1_ n2_
       have p285 : 0 ≤ (x8_1 : Int) := za35 (by first | (with_reducible assumption) | assumption)
       have q285 : x8_1 < (l1_0.length : Int) := za35 (by first | (with_reducible assumption) | assumption)
       obtain ⟨ad285, e285, hx285_0⟩ := Kd.at_int HR1_0.out x8_1 p285 q285
       have hw285_0 := hx285_0
       obtain rfl : ad283 = ad285 := (by injection e285)
       replace hx285_0 := (HB.out.cell (World.block_lt_of_cell? w _ hx285_0)).trans hx285_0
       replace p285 := eq_true p285
       replace q285 := eq_true q285
       have p286 : 0 ≤ (x8_1 : Int) := za35 (by first | (with_reducible assumption) | assumption)
       have q286 : x8_1 < (l1_0.length : Int) := za35 (by first | (with_reducible assumption) | assumption)
       obtain ⟨ad286, e286, hx286_0⟩ := Kd.at_int HR1_0.out x8_1 p286 q286
       have hw286_0 := hx286_0
       obtain rfl : ad283 = ad286 := (by injection e286)
       replace hx286_0 := (HB.out.cell (World.block_lt_of_cell? w _ hx286_0)).trans hx286_0
       replace p286 := eq_true p286
       replace q286 := eq_true q286
       refine start_ (n := 17) (S := fun w' => w'.cell? ⟨gb279, 0, none⟩ = some (.slice (some ad283) l1_0.length c1_0) ∧ w'.cell? ⟨gb279, 1, none⟩ = some (.int .i64 a1_1) ∧ w'.cell? (ad283.add (x8_1).toNat) = some (.int .i64 (rd l1_0 x8_1)) ∧ w'.cell? (ad283.add (x8_1).toNat) = some (.int .i64 (rd l1_0 x8_1))) (ds := []) #[false, false, false, false, false, false, false, false, false, false, false, false, false, false, false, false, false] (by kernel_rfl) rfl rfl ⟨(za15 BK279.out 0).trans rfl, (za15 BK279.out 1).trans rfl, ((HB.out.cell (World.block_lt_of_cell? w _ hw285_0)).trans hw285_0), ((HB.out.cell (World.block_lt_of_cell? w _ hw286_0)).trans hw286_0)⟩ (fun hHeld => ?_); refine with_tabW spec_SignBy.tab6 spec_SignBy.bits6 (fun HT_ HW_ => ?_)
       generalize wr.drew = w14 at HO_7 BK279 HB hx285_0 hx286_0 hHeld ⊢
       refine pure_ (i := 0) (N := some 24) (v := ?_) (a' := ?_) #[true, false, false, false, false, false, false, false, false, false, false, false, false, false, false, false, false] rfl rfl (za25 HT_.out (by kernel_rfl)) (fun _ _ _ h => h) (Or.inl ⟨by rfl, ?_⟩) ?_ ?_
       rotate_left
       ·intro w'
        go_simp
        with_reducible rfl
       rotate_left
       ·simp only [Act.put, za0, za2, za3, i64_w, i32_w]
        rfl
       refine pure_ (i := 1) (N := some 25) (v := ?_) (a' := ?_) #[true, true, false, false, false, false, false, false, false, false, false, false, false, false, false, false, false] rfl rfl (za25 HT_.out (by kernel_rfl)) (fun _ _ _ h => h) (Or.inl ⟨by rfl, ?_⟩) ?_ ?_
       rotate_left
       ·intro w'
        go_simp
        with_reducible rfl
       rotate_left
       ·simp only [Act.put, za0, za2, za3, i64_w, i32_w]
        rfl
       refine pure_ (i := 3) (N := some 27) (v := ?_) (a' := ?_) #[true, true, false, true, false, false, false, false, false, false, false, false, false, false, false, false, false] rfl rfl (za25 HT_.out (by kernel_rfl)) (fun _ _ _ h => h) (Or.inl ⟨by rfl, ?_⟩) ?_ ?_
       rotate_left
       ·intro w'
        go_simp
        with_reducible rfl
       rotate_left
       ·simp only [Act.put, za0, za2, za3, i64_w, i32_w]
        rfl
       refine pure_ (i := 6) (N := some 30) (v := ?_) (a' := ?_) #[true, true, false, true, false, false, true, false, false, false, false, false, false, false, false, false, false] rfl rfl (za25 HT_.out (by kernel_rfl)) (fun _ _ _ h => h) (Or.inl ⟨by rfl, ?_⟩) ?_ ?_
       rotate_left
       ·intro w'
        go_simp
        with_reducible rfl
       rotate_left
       ·simp only [Act.put, za0, za2, za3, i64_w, i32_w]
        rfl
       refine pure_ (i := 8) (N := some 32) (v := ?_) (a' := ?_) #[true, true, false, true, false, false, true, false, true, false, false, false, false, false, false, false, false] rfl rfl (za25 HT_.out (by kernel_rfl)) (fun _ _ _ h => h) (Or.inl ⟨by rfl, ?_⟩) ?_ ?_
       rotate_left
       ·intro w'
        go_simp
        with_reducible rfl
       rotate_left
       ·simp only [Act.put, za0, za2, za3, i64_w, i32_w]
        rfl
       refine pure_ (i := 11) (N := some 35) (v := ?_) (a' := ?_) #[true, true, false, true, false, false, true, false, true, false, false, true, false, false, false, false, false] rfl rfl (za25 HT_.out (by kernel_rfl)) (fun _ _ _ h => h) (Or.inl ⟨by rfl, ?_⟩) ?_ ?_
       rotate_left
       ·intro w'
        go_simp
        with_reducible rfl
       rotate_left
       ·simp only [Act.put, za0, za2, za3, i64_w, i32_w]
        rfl
       refine take_ (i := 2) (N := some 26) (v := ?_) (a' := ?_) #[true, true, true, true, false, false, true, false, true, false, false, true, false, false, false, false, false] rfl rfl (take_ofW HT_.out HW_.out (by kernel_rfl)) (fun _ _ _ h => h) (Or.inl ⟨by rfl, ?_⟩) hHeld ?_ ?_
       rotate_left
       ·rintro w' ⟨s0, s1, s2, s3⟩
        go_simp
        with_reducible rfl
       rotate_left
       ·simp only [Act.put, za0, za2, za3, i64_w, i32_w]
        rfl
       refine pure_ (i := 4) (N := some 28) (v := ?_) (a' := ?_) #[true, true, true, true, true, false, true, false, true, false, false, true, false, false, false, false, false] rfl rfl (za25 HT_.out (by kernel_rfl)) (fun _ _ _ h => h) (Or.inl ⟨by rfl, ?_⟩) ?_ ?_
       rotate_left
       ·intro w'
        go_simp
        with_reducible rfl
       rotate_left
       ·simp only [Act.put, za0, za2, za3, i64_w, i32_w]
        rfl
       refine take_ (i := 5) (N := some 29) (v := ?_) (a' := ?_) #[true, true, true, true, true, true, true, false, true, false, false, true, false, false, false, false, false] rfl rfl (take_ofW HT_.out HW_.out (by kernel_rfl)) (fun _ _ _ h => h) (Or.inl ⟨by rfl, ?_⟩) hHeld ?_ ?_
       rotate_left
       ·rintro w' ⟨s0, s1, s2, s3⟩
        go_simp
        with_reducible rfl
       rotate_left
       ·simp only [Act.put, za0, za2, za3, i64_w, i32_w]
        rfl
       refine take_ (i := 7) (N := some 31) (v := ?_) (a' := ?_) #[true, true, true, true, true, true, true, true, true, false, false, true, false, false, false, false, false] rfl rfl (take_ofW HT_.out HW_.out (by kernel_rfl)) (fun _ _ _ h => h) (Or.inl ⟨by rfl, ?_⟩) hHeld ?_ ?_
       rotate_left
       ·rintro w' ⟨s0, s1, s2, s3⟩
        go_simp
        with_reducible rfl
       rotate_left
       ·simp only [Act.put, za0, za2, za3, i64_w, i32_w]
        rfl
       refine pure_ (i := 9) (N := some 33) (v := ?_) (a' := ?_) #[true, true, true, true, true, true, true, true, true, true, false, true, false, false, false, false, false] rfl rfl (za25 HT_.out (by kernel_rfl)) (fun _ _ _ h => h) (Or.inl ⟨by rfl, ?_⟩) ?_ ?_
       rotate_left
       ·intro w'
        go_simp
        with_reducible rfl
       rotate_left
       ·simp only [Act.put, za0, za2, za3, i64_w, i32_w]
        rfl
       refine take_ (i := 10) (N := some 34) (v := ?_) (a' := ?_) #[true, true, true, true, true, true, true, true, true, true, true, true, false, false, false, false, false] rfl rfl (take_ofW HT_.out HW_.out (by kernel_rfl)) (fun _ _ _ h => h) (Or.inl ⟨by rfl, ?_⟩) hHeld ?_ ?_
       rotate_left
       ·rintro w' ⟨s0, s1, s2, s3⟩
        go_simp
        with_reducible rfl
       rotate_left
       ·simp only [Act.put, za0, za2, za3, i64_w, i32_w]
        rfl
       refine one_ (i := 12) (N := some 36) #[true, true, true, true, true, true, true, true, true, true, true, true, true, false, false, false, false] rfl rfl (one_of HT_.out (by kernel_rfl)) (by decide) (fun K hK => ?_)
       refine goes_ Try.func32 (by kernel_rfl) rfl #[.int .i64 (rd l1_0 x8_1), .slice A2 l2.length c2] (by rfl) rfl rfl (by (try simp only [za18, za26, za27]); first | done | rfl | (simp only [za20, za19]; rfl)) ?_
       with_reducible refine (spec_TagOf.calls k1 (rd l1_0 x8_1) _ _ l2 t287 _ ?side1 ?side2 A11.out).mono ?_
       (case side1 => repeat (first | exact (za30 HR2.out HB.out) | (with_reducible refine za24 ?_ _) | (with_reducible refine za22 ?_ _) | (with_reducible refine za23 ?_)))
       (case side2 => exact HC2.out)
       rintro e w15 ⟨rfl, hb⟩
       refine ⟨_, rfl, ?_⟩
       have n0_ := za1 (Kd.R_below (by (with_reducible repeat (first | apply za5 | apply za4 | apply za6)); exact HO_7.out) hb)
       have n1_ := za1 (za17 (g := gb279) (o := .cells #[.slice (some ad283) l1_0.length c1_0, .int .i64 a1_1] 37 (0, 0)) (by (with_reducible repeat (first | refine za11 ?_ _ | refine za12 ?_ | refine za13 ?_ _)); exact BK279.out) hb)
       have n2_ := za1 (za28 (by repeat (first | (with_reducible first | exact HB.out | apply za14 | apply za7 | apply za9 | refine za8 ?_ GE279.out) | exact HB.out)) hb)
       clear HO_7
       clear BK279
       clear HB
       have HO_7 := n0_
       have BK279 := n1_
       have HB := n2_
       clear n0_ n1_ n2_
       (try clear hb)
       (try clear hb2)
       (try clear hk)
       (try clear hi)
       refine hK.out _ _ ⟨(za15 BK279.out 0).trans rfl, (za15 BK279.out 1).trans rfl, ((HB.out.cell (World.block_lt_of_cell? w _ hw285_0)).trans hw285_0), ((HB.out.cell (World.block_lt_of_cell? w _ hw286_0)).trans hw286_0)⟩ (fun hHeld => ?_)
       clear hK K
       refine norm_ (a' := ?_) ?_ ?_
       rotate_left
       ·show Act.put _ (some 36) _ = _
        simp only [Act.put, za0, za2, za3, i64_w, i32_w]
        rfl
       refine pure_ (i := 13) (N := some 37) (v := ?_) (a' := ?_) #[true, true, true, true, true, true, true, true, true, true, true, true, true, true, false, false, false] rfl rfl (za25 HT_.out (by kernel_rfl)) (fun _ _ _ h => h) (Or.inl ⟨by rfl, ?_⟩) ?_ ?_
       rotate_left
       ·intro w'
        go_simp
        with_reducible rfl
       rotate_left
       ·simp only [Act.put, za0, za2, za3, i64_w, i32_w]
        rfl
       refine one_ (i := 14) (N := some 38) #[true, true, true, true, true, true, true, true, true, true, true, true, true, true, true, false, false] rfl rfl (one_of HT_.out (by kernel_rfl)) (by decide) (fun K hK => ?_)
       refine value_ (w1 := ?_) (v := ?_) (by rfl) rfl ?_ ?_
       rotate_left 2
       ·go_simp
        constructor
        ·rfl
        ·rfl
       refine hK.out _ _ ⟨(za15 (za13 BK279.out _) 0).trans rfl, (za15 (za13 BK279.out _) 1).trans rfl, (World.cell?_alloc_lt _ _ _ (World.block_lt_of_cell? _ _ (((HB.out.cell (World.block_lt_of_cell? w _ hw285_0)).trans hw285_0)))).trans (((HB.out.cell (World.block_lt_of_cell? w _ hw285_0)).trans hw285_0)), (World.cell?_alloc_lt _ _ _ (World.block_lt_of_cell? _ _ (((HB.out.cell (World.block_lt_of_cell? w _ hw286_0)).trans hw286_0)))).trans (((HB.out.cell (World.block_lt_of_cell? w _ hw286_0)).trans hw286_0))⟩ (fun hHeld => ?_)
       clear hK K
       refine norm_ (a' := ?_) ?_ ?_
       rotate_left
       ·show Act.put _ (some 38) _ = _
        simp only [Act.put, za0, za2, za3, i64_w, i32_w]
        rfl
       refine one_ (i := 15) (N := some 39) #[true, true, true, true, true, true, true, true, true, true, true, true, true, true, true, true, false] rfl rfl (one_of HT_.out (by kernel_rfl)) (by decide) (fun K hK => ?_)
       refine Kd.R_append_step k46 (w0 := w) w.heap.size (by rfl) (.tmp 24) (.tmp 38) 27 46 (.agg #[(.int .i64 0), (.int .i64 0)]) 16 rfl Try.underlying27 info46 rfl (by decide) (by omega) u7 x7_1 (⟨rd l1_0 x8_1, t287⟩ : S46) [.int .i64 (rd l1_0 x8_1), .int .i64 t287] (fun _ => True) (fun _ => False) rfl rfl ?aP (fun _ hk => hk.elim) ?aF ?aO ?aB ?aS ?aL ?_
       (case aP => exact k46_mkM _ _ _ (⟨rd l1_0 x8_1, t287⟩ : S46))
       (case aB => exact (by repeat (first | (with_reducible first | exact HB.out | apply za14 | apply za7 | apply za9 | refine za8 ?_ GE279.out) | exact HB.out)))
       (case aF => exact (fun _ _ => trivial))
       (case aO => exact (by (with_reducible repeat (first | apply za5 | apply za4 | apply za6)); exact HO_7.out))
       (case aS => exact (za29 (by repeat (first | (with_reducible first | exact HB.out | apply za14 | apply za7 | apply za9 | refine za8 ?_ GE279.out) | exact HB.out))))
       (case aL => have := LMc12.out; omega)
       intro v289 w16 ho hb hg hat
       rw [← Ny288.out] at ho
       have n0_ := za1 (blk_grown (g := gb279) (o := .cells #[.slice (some ad283) l1_0.length c1_0, .int .i64 a1_1] 37 (0, 0)) (by (with_reducible repeat (first | refine za11 ?_ _ | refine za12 ?_ | refine za13 ?_ _)); exact BK279.out) hg (Kd.R_ne HO_7.out BK279.out (by decide)))
       have n1_ := za1 (hb)
       have n2_ := za1 (ho)
       clear BK279
       clear HB
       clear HO_7
       have BK279 := n0_
       have HB := n1_
       have HO290 := n2_
       clear n0_ n1_ n2_
       clear ho hb hg hat
       refine hK.out _ _ ⟨(za15 BK279.out 0).trans rfl, (za15 BK279.out 1).trans rfl, ((HB.out.cell (World.block_lt_of_cell? w _ hw285_0)).trans hw285_0), ((HB.out.cell (World.block_lt_of_cell? w _ hw286_0)).trans hw286_0)⟩ (fun hHeld => ?_)
       clear hK K
       refine norm_ (a' := ?_) ?_ ?_
       rotate_left
       ·show Act.put _ (some 39) _ = _
        simp only [Act.put, za0, za2, za3, i64_w, i32_w]
        rfl
       refine pure_ (i := 16) (N := some 7) (v := ?_) (a' := ?_) #[true, true, true, true, true, true, true, true, true, true, true, true, true, true, true, true, true] rfl rfl (za25 HT_.out (by kernel_rfl)) (fun _ _ _ h => h) (Or.inl ⟨by rfl, ?_⟩) ?_ ?_
       rotate_left
       ·intro w'
        go_simp
        with_reducible rfl
       rotate_left
       ·simp only [Act.put, za0, za2, za3, i64_w, i32_w]
        rfl
       refine done_ (done_of HT_.out (by kernel_rfl)) ?_
       try go_wp2
       go_roundg k1
       case measure => have := HK1.out; omega
       case rel => exact ⟨(y288), (wrap64 (x8_1 + 1)), (by first | rfl | (simp; done) | (simp [*]; done)), H', ⟨by have := HK1.out; omega⟩, ⟨by (with_reducible repeat (first | apply za5 | apply za4 | apply za6)); exact HO290.out⟩, ⟨by (with_reducible repeat (first | refine za11 ?_ _ | refine za12 ?_ | refine za13 ?_ _)); exact BK279.out⟩, ⟨by repeat (first | (with_reducible first | exact HB.out | apply za14 | apply za7 | apply za9 | refine za8 ?_ GE279.out) | exact HB.out)⟩⟩
      ·rw [if_neg c12] at H
       exact absurd H (by simp)
     ·replace c10 := Bool.eq_false_iff.mpr c10
      subst c10
      have H1 : (spec_SignBy.l0 k1 l0 l2 x7_1 (wrap64 (x8_1 + 1)) l1_0 a1_1) = some r := by rw [if_neg (show ¬ (false = true) by decide)] at H; exact H
      clear H
      have H := H1
      clear H1
      have H' := za1 H
      clear H
      have hcz17_0 : wr.cell? ⟨gb279, 0, none⟩ = some (.slice A1_0 l1_0.length c1_0) := (za15 BK279.out 0).trans rfl
      have hcz17_1 : wr.cell? ⟨gb279, 1, none⟩ = some (.int .i64 a1_1) := (za15 BK279.out 1).trans rfl
      have hfz17_0 := blk_frozen BK279.out 0
      have hfz17_1 := blk_frozen BK279.out 1
      have p283 : 0 ≤ (x8_1 : Int) := za35 (by first | (with_reducible assumption) | assumption)
      have q283 : x8_1 < (l1_0.length : Int) := za35 (by first | (with_reducible assumption) | assumption)
      obtain ⟨ad283, e283, hx283_0⟩ := Kd.at_int HR1_0.out x8_1 p283 q283
      cases e283
      replace hx283_0 := (HB.out.cell (World.block_lt_of_cell? w _ hx283_0)).trans hx283_0
      replace p283 := eq_true p283
      replace q283 := eq_true q283
      go_wp2_with (first | ((with_reducible refine gate_callee (f := 90) rfl ?_); refine goesL_ (some 23) rfl rfl Try.func90 (by kernel_rfl) rfl #[.slice A0 l0.length c0, .int .i64 (rd l1_0 x8_1)] rfl (by (try simp only [za18, za26, za27]); first | done | rfl | (simp only [za20, za19]; rfl)) ?_; (with_reducible refine (spec_l6Has.calls k1 _ _ l0 (rd l1_0 x8_1) false _ ?side1 ?side2 A9.out).mono ?_); (case side1 => repeat (first | exact (za30 HR0.out HB.out) | (with_reducible refine za24 ?_ _) | (with_reducible refine za22 ?_ _) | (with_reducible refine za23 ?_))); (case side2 => exact HC0.out); rintro e w' ⟨rfl, ⟨nd, rfl⟩⟩; refine ⟨_, rfl, ?_⟩))
      go_roundg k1
      case measure => have := HK1.out; omega
      case rel => exact ⟨(x7_1), (wrap64 (x8_1 + 1)), (by first | rfl | (simp; done) | (simp [*]; done)), H', ⟨by have := HK1.out; omega⟩, ⟨by (with_reducible repeat (first | apply za5 | apply za4 | apply za6)); exact HO_7.out⟩, ⟨by (with_reducible repeat (first | refine za11 ?_ _ | refine za12 ?_ | refine za13 ?_ _)); exact BK279.out⟩, ⟨by repeat (first | (with_reducible first | exact HB.out | apply za14 | apply za7 | apply za9 | refine za8 ?_ GE279.out) | exact HB.out)⟩⟩
    ·rw [if_neg c8] at H
     exact absurd H (by simp)
   ·rw [if_neg c7] at H
    have c7b0 : decide (x8_1 < (l1_0.length : Int)) = false := za39 c7
    clear c7
    obtain rfl := za37 H
    have hcz18_0 : wr.cell? ⟨gb279, 0, none⟩ = some (.slice A1_0 l1_0.length c1_0) := (za15 BK279.out 0).trans rfl
    have hcz18_1 : wr.cell? ⟨gb279, 1, none⟩ = some (.int .i64 a1_1) := (za15 BK279.out 1).trans rfl
    have hfz18_0 := blk_frozen BK279.out 0
    have hfz18_1 := blk_frozen BK279.out 1
    go_wp2
    go_ret
    exact ⟨_, by first | rfl | (simp [errW_none, errW_some] <;> rfl) | (simp [*, errW_none, errW_some] <;> rfl), by (with_reducible repeat (first | apply za5 | apply za4 | apply za6)); exact HO_7.out, by repeat (first | (with_reducible first | exact HB.out | apply za14 | apply za7 | apply za9 | refine za8 ?_ GE279.out) | exact HB.out)⟩

end Go.Proofs.Ytanogkaledgecaa.PFnThresholds
