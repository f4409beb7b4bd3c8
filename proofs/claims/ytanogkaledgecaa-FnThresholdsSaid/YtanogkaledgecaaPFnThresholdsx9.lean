/- The machine's side of a law: what its Go functions compute, as Lean functions, and the walks that show it; laid by this session's program (wip/tools) out of the translation. Conditions: those of each theorem. -/
import Derived.Test.YtanogkaledgecaaPFnThresholdsx0
import Derived.Test.YtanogkaledgecaaPFnThresholdsx8
namespace Go.Proofs.Ytanogkaledgecaa.PFnThresholds
open Go.RowKit Go.Proofs.YtanogkaledgecaaW.PrintWords Go.Proofs.YtanogkaledgecaaW.PrintLast Go.Proofs.YtanogkaledgecaaW.PrintMore
attribute [local go_sem] max2_int min2_int max_two min_two max_three min_three max_four min_four   -- for this text's walks alone
set_option linter.unusedVariables false
set_option linter.unusedSimpArgs false

/-! ### spec_CountSigs: function 27 -/
mutual
def spec_CountSigs.l0 : Nat → List Int → List (S46) → Int → Int → List Int → Int → Option (Int)
  | 0, _, _, _, _, _, _ => none
  | k + 1, x1, x2, x7, x8, x373000, x373001 => if x8 < (x373000.length : Int) then (spec_CountSigs.l1 k x1 x2 x7 x8 0 x373000 x373001) else (some x7)
def spec_CountSigs.l1 : Nat → List Int → List (S46) → Int → Int → Int → List Int → Int → Option (Int)
  | 0, _, _, _, _, _, _, _ => none
  | k + 1, x1, x2, x7, x8, x9, x373000, x373001 => if x9 < (x2.length : Int) then (if 0 ≤ x9 then (if 0 ≤ x8 then (if x8 < (x373000.length : Int) then (if ((rd_T46 x2 x9).f0) = (rd x373000 x8) then ((spec_IsSigBy.f k ((rd_T46 x2 x9).f0) ((rd_T46 x2 x9).f1) x1).bind fun t376 => (if t376 = true then (spec_CountSigs.l0 k x1 x2 (wrap64 (x7 + 1)) (wrap64 (x8 + 1)) x373000 x373001) else (spec_CountSigs.l1 k x1 x2 x7 x8 (wrap64 (x9 + 1)) x373000 x373001))) else (spec_CountSigs.l1 k x1 x2 x7 x8 (wrap64 (x9 + 1)) x373000 x373001)) else (none)) else (none)) else (none)) else (spec_CountSigs.l0 k x1 x2 x7 (wrap64 (x8 + 1)) x373000 x373001)
end
def spec_CountSigs.f (k : Nat) (l0_0 : List Int) (a0_1 : Int) (l1 : List Int) (l2 : List (S46)) : Option (Int) := spec_CountSigs.l0 k l1 l2 0 0 l0_0 a0_1
theorem spec_CountSigs.mono_l : ∀ k, (∀ y0 y1 y2 y3 y4 y5, LeO (spec_CountSigs.l0 k y0 y1 y2 y3 y4 y5) (spec_CountSigs.l0 (k + 1) y0 y1 y2 y3 y4 y5)) ∧ (∀ y0 y1 y2 y3 y4 y5 y6, LeO (spec_CountSigs.l1 k y0 y1 y2 y3 y4 y5 y6) (spec_CountSigs.l1 (k + 1) y0 y1 y2 y3 y4 y5 y6))
  | 0 => ⟨fun _ _ _ _ _ _ r h => by simp [spec_CountSigs.l0] at h, fun _ _ _ _ _ _ _ r h => by simp [spec_CountSigs.l1] at h⟩
  | k + 1 => by
    obtain ⟨ih0, ih1⟩ := spec_CountSigs.mono_l k
    refine ⟨?_, ?_⟩
    · intro y0 y1 y2 y3 y4 y5
      unfold spec_CountSigs.l0
      repeat' first
      | (with_reducible exact ih0 _ _ _ _ _ _)
      | (with_reducible exact ih1 _ _ _ _ _ _ _)
      | (with_reducible exact spec_IsSigBy.mono _ _ _ _)
      | (with_reducible exact LeO.refl _)
      | (with_reducible exact za34 _)
      | (with_reducible refine za33 ?_ ?_)
      | (with_reducible refine za32 ?_ (fun _ => ?_))
      | exact ih0 _ _ _ _ _ _
      | exact ih1 _ _ _ _ _ _ _
      | exact spec_IsSigBy.mono _ _ _ _
      | exact za34 _
      | refine za33 ?_ ?_
      | refine za32 ?_ (fun _ => ?_)
    · intro y0 y1 y2 y3 y4 y5 y6
      unfold spec_CountSigs.l1
      repeat' first
      | (with_reducible exact ih0 _ _ _ _ _ _)
      | (with_reducible exact ih1 _ _ _ _ _ _ _)
      | (with_reducible exact spec_IsSigBy.mono _ _ _ _)
      | (with_reducible exact LeO.refl _)
      | (with_reducible exact za34 _)
      | (with_reducible refine za33 ?_ ?_)
      | (with_reducible refine za32 ?_ (fun _ => ?_))
      | exact ih0 _ _ _ _ _ _
      | exact ih1 _ _ _ _ _ _ _
      | exact spec_IsSigBy.mono _ _ _ _
      | exact za34 _
      | refine za33 ?_ ?_
      | refine za32 ?_ (fun _ => ?_)
theorem spec_CountSigs.mono : ∀ a0 a1 a2 a3 k, LeO (spec_CountSigs.f k a0 a1 a2 a3) (spec_CountSigs.f (k + 1) a0 a1 a2 a3) := by
  intro a0 a1 a2 a3 k
  obtain ⟨ih0, ih1⟩ := spec_CountSigs.mono_l k
  unfold spec_CountSigs.f
  repeat' first
      | (with_reducible exact ih0 _ _ _ _ _ _)
      | (with_reducible exact ih1 _ _ _ _ _ _ _)
      | (with_reducible exact spec_IsSigBy.mono _ _ _ _)
      | (with_reducible exact LeO.refl _)
      | (with_reducible exact za34 _)
      | (with_reducible refine za33 ?_ ?_)
      | (with_reducible refine za32 ?_ (fun _ => ?_))
      | exact ih0 _ _ _ _ _ _
      | exact ih1 _ _ _ _ _ _ _
      | exact spec_IsSigBy.mono _ _ _ _
      | exact za34 _
      | refine za33 ?_ ?_
      | refine za32 ?_ (fun _ => ?_)
def spec_CountSigs.T8 : Bool × List (List Nat × List Nat) := (true, [([], []), ([], []), ([0, 1], [0, 1]), ([2], [2]), ([3], [3]), ([], []), ([5], [5]), ([], []), ([6, 7], [6, 7]), ([8], [8]), ([4, 9], [4, 9]), ([10], [10]), ([11], [11]), ([11], [11]), ([12, 13, 11], [11, 12, 13]), ([14, 11], [11, 14]), ([11], [11]), ([15, 16, 11, 11], [11, 15, 16]), ([11, 17], [11, 17])])
def spec_CountSigs.B8 : List Nat := [0, 0, 3, 7, 15, 0, 32, 0, 224, 480, 1023, 2047, 4095, 4095, 16383, 32767, 4095, 131071, 262143]
theorem spec_CountSigs.tab8 : rtab .any (opsOf Try.f27 8) = spec_CountSigs.T8 := by kernel_rfl
theorem spec_CountSigs.bits8 : waitsOk spec_CountSigs.T8.2 spec_CountSigs.B8 = true := by kernel_rfl
set_option maxHeartbeats 8000000 in
set_option maxRecDepth 100000 in
theorem spec_CountSigs.calls (k : Nat) (A0_0 : Option Addr) (c0_0 : Nat) (l0_0 : List Int) (a0_1 : Int) (A1 : Option Addr) (c1 : Nat) (l1 : List Int) (A2 : Option Addr) (c2 : Nat) (l2 : List (S46)) (r : Int) (w : World) (hr0_0 : Kd.C (Kd.int .i64) w A0_0 l0_0.length l0_0) (hc0_0 : l0_0.length ≤ c0_0) (hr1 : Kd.C (Kd.int .i64) w A1 l1.length l1) (hc1 : l1.length ≤ c1) (hr2 : Kd.C k46 w A2 l2.length l2) (hc2 : l2.length ≤ c2) (h : spec_CountSigs.f k l0_0 a0_1 l1 l2 = some r) :
  Calls Try.prog 27 #[.agg #[.slice A0_0 l0_0.length c0_0, .int .i64 a0_1], .slice A1 l1.length c1, .slice A2 l2.length c2] w fun e w' => e = .returned (.int .i64 r) ∧ Below w.heap.size w w' := by
 have hu37 := Try.underlying37
 have hu46 := Try.underlying46
 have HR0_0 := za1 hr0_0
 have HC0_0 := za1 hc0_0
 clear hr0_0 hc0_0
 have HR1 := za1 hr1
 have HC1 := za1 hc1
 clear hr1 hc1
 have HR2 := za1 hr2
 have HC2 := za1 hc2
 clear hr2 hc2
 have HB := za1 (Below.refl w.heap.size w)
 have H : (spec_CountSigs.l0 k l1 l2 0 0 l0_0 a0_1) = some r := h
 clear h
 have H' := za1 H
 clear H
 go_enter Try.func27, Try.ntmps27
 go_wp2_with (first | ((with_reducible refine gate_dst (N := 3) rfl ?_); refine box_event ?hg (N := 3) ?hd (cs := #[.slice A0_0 l0_0.length c0_0, .int .i64 a0_1]) (t := 37) ?hr ?_; (case hd => rfl); (case hg => rfl); (case hr => first | (go_simp; done) | (go_simp; rfl)); intro gb372 hg w4 hbox hb; have n0_ := za1 (za28 (by repeat (first | (with_reducible first | exact HB.out | apply za14 | apply za7 | apply za9) | exact HB.out)) hb); have n1_ := za1 (hbox); have n2_ := za1 ((by rw [hg]; exact (za29 (by repeat (first | (with_reducible first | exact HB.out | apply za14 | apply za7 | apply za9) | exact HB.out))) : w.heap.size ≤ gb372)); have n3_ := za1 ((by rw [hg]; exact (za29 (by repeat (first | (with_reducible first | exact HB.out | apply za14 | apply za7 | apply za9) | exact HB.out))) : w.heap.size ≤ gb372)); clear HB; have HB := n0_; have BK372 := n1_; have GW372 := n2_; have GE372 := n3_; clear n0_ n1_ n2_ n3_; clear hb hbox hg))
 go_loopg [7, 8] k (fun kq v7 v8 w' => ∃ (x7_1 : Int) (x8_1 : Int), v7 = .int .i64 x7_1 ∧ v8 = .int .i64 x8_1 ∧ Aside0 (spec_CountSigs.l0 kq l1 l2 x7_1 x8_1 l0_0 a0_1 = some r) ∧ Aside0 (kq ≤ k) ∧ Aside0 (w'.heap[gb372]? = some (.cells #[(.slice A0_0 l0_0.length c0_0), .int .i64 a0_1] 37 (0, 0))) ∧ Aside0 (Below w.heap.size w w'))
 case atStart => exact ⟨(0), (0), (by first | rfl | (simp; done) | (simp [*]; done)), (by first | rfl | (simp; done) | (simp [*]; done)), H', ⟨Nat.le_refl _⟩, ⟨by (with_reducible repeat (first | refine za11 ?_ _ | refine za12 ?_ | refine za13 ?_ _)); exact BK372.out⟩, ⟨by repeat (first | (with_reducible first | exact HB.out | apply za14 | apply za7 | apply za9 | refine za8 ?_ GE372.out) | exact HB.out)⟩⟩
 case round =>
  clear H'
  try clear c1
  try clear c2
  try clear p2
  obtain ⟨x7_1, x8_1, rfl, rfl, HA, HK1, BK372, HB⟩ := hrel
  cases gk with
  | zero => exact absurd HA.out (by simp [spec_CountSigs.l0])
  | succ k1 =>
   have H := HA.out
   clear HA
   simp only [spec_CountSigs.l0] at H
   by_cases c5 : x8_1 < (l0_0.length : Int)
   ·rw [if_pos c5] at H
    have c5b0 : decide (x8_1 < (l0_0.length : Int)) = true := za38 c5
    clear c5
    have H' := za1 H
    clear H
    have hcz6_0 : wr.cell? ⟨gb372, 0, none⟩ = some (.slice A0_0 l0_0.length c0_0) := (za15 BK372.out 0).trans rfl
    have hcz6_1 : wr.cell? ⟨gb372, 1, none⟩ = some (.int .i64 a0_1) := (za15 BK372.out 1).trans rfl
    have hfz6_0 := blk_frozen BK372.out 0
    have hfz6_1 := blk_frozen BK372.out 1
    go_wp2
    go_loopg [7, 9] k1 (fun kq v7 v9 w' => ∃ (x7_2 : Int) (x9_2 : Int), v7 = .int .i64 x7_2 ∧ v9 = .int .i64 x9_2 ∧ Aside0 (spec_CountSigs.l1 kq l1 l2 x7_2 x8_1 x9_2 l0_0 a0_1 = some r) ∧ Aside0 (kq ≤ k1) ∧ Aside0 (w'.heap[gb372]? = some (.cells #[(.slice A0_0 l0_0.length c0_0), .int .i64 a0_1] 37 (0, 0))) ∧ Aside0 (Below w.heap.size w w'))
    case atStart => exact ⟨(x7_1), (0), (by first | rfl | (simp; done) | (simp [*]; done)), (by first | rfl | (simp; done) | (simp [*]; done)), H', ⟨Nat.le_refl _⟩, ⟨by (with_reducible repeat (first | refine za11 ?_ _ | refine za12 ?_ | refine za13 ?_ _)); exact BK372.out⟩, ⟨by repeat (first | (with_reducible first | exact HB.out | apply za14 | apply za7 | apply za9 | refine za8 ?_ GE372.out) | exact HB.out)⟩⟩
    case round =>
     clear H'
     try clear c1
     try clear c2
     try clear p2
     try clear c5
     try clear c5b0
     try clear hcz6_0
     try clear hcz6_1
     try clear hfz6_0
     try clear hfz6_1
     try clear p2
     obtain ⟨x7_2, x9_2, rfl, rfl, HA, HK2, BK372, HB⟩ := hrel
     cases gk with
     | zero => exact absurd HA.out (by simp [spec_CountSigs.l1])
     | succ k2 =>
      have H := HA.out
      clear HA
      simp only [spec_CountSigs.l1] at H
      by_cases c7 : x9_2 < (l2.length : Int)
      ·rw [if_pos c7] at H
       have c7b0 : decide (x9_2 < (l2.length : Int)) = true := za38 c7
       clear c7
       by_cases c8 : 0 ≤ x9_2
       ·rw [if_pos c8] at H
        have c8b0 : decide (0 ≤ x9_2) = true := za38 c8
        clear c8
        by_cases c9 : 0 ≤ x8_1
        ·rw [if_pos c9] at H
         have c9b0 : decide (0 ≤ x8_1) = true := za38 c9
         clear c9
         by_cases c10 : x8_1 < (l0_0.length : Int)
         ·rw [if_pos c10] at H
          have c10b0 : decide (x8_1 < (l0_0.length : Int)) = true := za38 c10
          clear c10
          by_cases c11 : ((rd_T46 l2 x9_2).f0) = (rd l0_0 x8_1)
          ·rw [if_pos c11] at H
           have c11b0 : (((rd_T46 l2 x9_2).f0) == (rd l0_0 x8_1)) = true := beq_iff_eq.mpr c11
           have c11b1 : (((rd_T46 l2 x9_2).f0) != (rd l0_0 x8_1)) = false := bne_eq_false_iff_eq.mpr c11
           clear c11
           replace H := za16.mp H
           obtain ⟨t376, A120, H⟩ := H
           replace H : (if t376 = true then (spec_CountSigs.l0 k2 l1 l2 (wrap64 (x7_2 + 1)) (wrap64 (x8_1 + 1)) l0_0 a0_1) else (spec_CountSigs.l1 k2 l1 l2 x7_2 x8_1 (wrap64 (x9_2 + 1)) l0_0 a0_1)) = some r := H
           have A12 := za1 A120
           clear A120
           by_cases c13 : t376 = true
           ·subst c13
            have H1 : (spec_CountSigs.l0 k2 l1 l2 (wrap64 (x7_2 + 1)) (wrap64 (x8_1 + 1)) l0_0 a0_1) = some r := by rw [if_pos rfl] at H; exact H
            clear H
            have H := H1
            clear H1
            have H' := za1 H
            clear H
            try go_wp2
            have n0_ := za1 (za12 BK372.out)
            have n1_ := za1 (za9 HB.out)
            clear BK372
            clear HB
            have BK372 := n0_
            have HB := n1_
            clear n0_ n1_
            have p373 : 0 ≤ (x9_2 : Int) := za35 (by first | (with_reducible assumption) | assumption)
            have q373 : x9_2 < (l2.length : Int) := za35 (by first | (with_reducible assumption) | assumption)
            obtain ⟨ad373, e373, hx373_0, hx373_1⟩ := at_T46 HR2.out x9_2 p373 q373
            have hw373_1 := hx373_1
            have hw373_0 := hx373_0
            cases e373
            replace hx373_0 := (HB.out.cell (World.block_lt_of_cell? w _ hx373_0)).trans hx373_0
            replace hx373_1 := (HB.out.cell (World.block_lt_of_cell? w _ hx373_1)).trans hx373_1
            replace p373 := eq_true p373
            replace q373 := eq_true q373
            have p374 : 0 ≤ (x8_1 : Int) := za35 (by first | (with_reducible assumption) | assumption)
            have q374 : x8_1 < (l0_0.length : Int) := za35 (by first | (with_reducible assumption) | assumption)
            obtain ⟨ad374, e374, hx374_0⟩ := Kd.at_int HR0_0.out x8_1 p374 q374
            have hw374_0 := hx374_0
            cases e374
            replace hx374_0 := (HB.out.cell (World.block_lt_of_cell? w _ hx374_0)).trans hx374_0
            replace p374 := eq_true p374
            replace q374 := eq_true q374
            have p375 : 0 ≤ (x9_2 : Int) := za35 (by first | (with_reducible assumption) | assumption)
            have q375 : x9_2 < (l2.length : Int) := za35 (by first | (with_reducible assumption) | assumption)
            obtain ⟨ad375, e375, hx375_0, hx375_1⟩ := at_T46 HR2.out x9_2 p375 q375
            have hw375_1 := hx375_1
            have hw375_0 := hx375_0
            obtain rfl : ad373 = ad375 := (by injection e375)
            replace hx375_0 := (HB.out.cell (World.block_lt_of_cell? w _ hx375_0)).trans hx375_0
            replace hx375_1 := (HB.out.cell (World.block_lt_of_cell? w _ hx375_1)).trans hx375_1
            replace p375 := eq_true p375
            replace q375 := eq_true q375
            refine start_ (n := 19) (S := fun w' => w'.cell? ⟨gb372, 0, none⟩ = some (.slice (some ad374) l0_0.length c0_0) ∧ w'.cell? ⟨gb372, 1, none⟩ = some (.int .i64 a0_1) ∧ w'.cell? (ad373.add ((x9_2).toNat * 2)) = some (.int .i64 ((rd_T46 l2 x9_2).f0)) ∧ w'.cell? ⟨(ad373.add ((x9_2).toNat * 2)).block, (ad373.add ((x9_2).toNat * 2)).off + 1, none⟩ = some (.int .i64 ((rd_T46 l2 x9_2).f1)) ∧ w'.cell? (ad374.add (x8_1).toNat) = some (.int .i64 (rd l0_0 x8_1)) ∧ w'.cell? (ad373.add ((x9_2).toNat * 2)) = some (.int .i64 ((rd_T46 l2 x9_2).f0)) ∧ w'.cell? ⟨(ad373.add ((x9_2).toNat * 2)).block, (ad373.add ((x9_2).toNat * 2)).off + 1, none⟩ = some (.int .i64 ((rd_T46 l2 x9_2).f1))) (ds := []) #[false, false, false, false, false, false, false, false, false, false, false, false, false, false, false, false, false, false, false] (by kernel_rfl) rfl rfl ⟨(za15 BK372.out 0).trans rfl, (za15 BK372.out 1).trans rfl, ((HB.out.cell (World.block_lt_of_cell? w _ hw373_0)).trans hw373_0), ((HB.out.cell (World.block_lt_of_cell? w _ hw373_1)).trans hw373_1), ((HB.out.cell (World.block_lt_of_cell? w _ hw374_0)).trans hw374_0), ((HB.out.cell (World.block_lt_of_cell? w _ hw375_0)).trans hw375_0), ((HB.out.cell (World.block_lt_of_cell? w _ hw375_1)).trans hw375_1)⟩ (fun hHeld => ?_); refine with_tabW spec_CountSigs.tab8 spec_CountSigs.bits8 (fun HT_ HW_ => ?_)
            generalize wr.drew = w14 at BK372 HB hx373_0 hx373_1 hx374_0 hx375_0 hx375_1 hHeld ⊢
            refine pure_ (i := 0) (N := some 23) (v := ?_) (a' := ?_) #[true, false, false, false, false, false, false, false, false, false, false, false, false, false, false, false, false, false, false] rfl rfl (za25 HT_.out (by kernel_rfl)) (fun _ _ _ h => h) (Or.inl ⟨by rfl, ?_⟩) ?_ ?_
            rotate_left
            ·intro w'
             go_simp
             with_reducible rfl
            rotate_left
            ·simp only [Act.put, za0, za2, za3, i64_w, i32_w]
             rfl
            refine pure_ (i := 1) (N := some 24) (v := ?_) (a' := ?_) #[true, true, false, false, false, false, false, false, false, false, false, false, false, false, false, false, false, false, false] rfl rfl (za25 HT_.out (by kernel_rfl)) (fun _ _ _ h => h) (Or.inl ⟨by rfl, ?_⟩) ?_ ?_
            rotate_left
            ·intro w'
             go_simp
             with_reducible rfl
            rotate_left
            ·simp only [Act.put, za0, za2, za3, i64_w, i32_w]
             rfl
            refine pure_ (i := 2) (N := some 25) (v := ?_) (a' := ?_) #[true, true, true, false, false, false, false, false, false, false, false, false, false, false, false, false, false, false, false] rfl rfl (za25 HT_.out (by kernel_rfl)) (fun _ _ _ h => h) (Or.inl ⟨by rfl, ?_⟩) ?_ ?_
            rotate_left
            ·intro w'
             go_simp
             with_reducible rfl
            rotate_left
            ·simp only [Act.put, za0, za2, za3, i64_w, i32_w]
             rfl
            refine pure_ (i := 3) (N := some 26) (v := ?_) (a' := ?_) #[true, true, true, true, false, false, false, false, false, false, false, false, false, false, false, false, false, false, false] rfl rfl (za25 HT_.out (by kernel_rfl)) (fun _ _ _ h => h) (Or.inl ⟨by rfl, ?_⟩) ?_ ?_
            rotate_left
            ·intro w'
             go_simp
             with_reducible rfl
            rotate_left
            ·simp only [Act.put, za0, za2, za3, i64_w, i32_w]
             rfl
            refine pure_ (i := 5) (N := some 28) (v := ?_) (a' := ?_) #[true, true, true, true, false, true, false, false, false, false, false, false, false, false, false, false, false, false, false] rfl rfl (za25 HT_.out (by kernel_rfl)) (fun _ _ _ h => h) (Or.inl ⟨by rfl, ?_⟩) ?_ ?_
            rotate_left
            ·intro w'
             go_simp
             with_reducible rfl
            rotate_left
            ·simp only [Act.put, za0, za2, za3, i64_w, i32_w]
             rfl
            refine pure_ (i := 7) (N := some 30) (v := ?_) (a' := ?_) #[true, true, true, true, false, true, false, true, false, false, false, false, false, false, false, false, false, false, false] rfl rfl (za25 HT_.out (by kernel_rfl)) (fun _ _ _ h => h) (Or.inl ⟨by rfl, ?_⟩) ?_ ?_
            rotate_left
            ·intro w'
             go_simp
             with_reducible rfl
            rotate_left
            ·simp only [Act.put, za0, za2, za3, i64_w, i32_w]
             rfl
            refine take_ (i := 4) (N := some 27) (v := ?_) (a' := ?_) #[true, true, true, true, true, true, false, true, false, false, false, false, false, false, false, false, false, false, false] rfl rfl (take_ofW HT_.out HW_.out (by kernel_rfl)) (fun _ _ _ h => h) (Or.inl ⟨by rfl, ?_⟩) hHeld ?_ ?_
            rotate_left
            ·rintro w' ⟨s0, s1, s2, s3, s4, s5, s6⟩
             go_simp
             with_reducible rfl
            rotate_left
            ·simp only [Act.put, za0, za2, za3, i64_w, i32_w]
             rfl
            refine take_ (i := 6) (N := some 29) (v := ?_) (a' := ?_) #[true, true, true, true, true, true, true, true, false, false, false, false, false, false, false, false, false, false, false] rfl rfl (take_ofW HT_.out HW_.out (by kernel_rfl)) (fun _ _ _ h => h) (Or.inl ⟨by rfl, ?_⟩) hHeld ?_ ?_
            rotate_left
            ·rintro w' ⟨s0, s1, s2, s3, s4, s5, s6⟩
             go_simp
             with_reducible rfl
            rotate_left
            ·simp only [Act.put, za0, za2, za3, i64_w, i32_w]
             rfl
            refine pure_ (i := 8) (N := some 31) (v := ?_) (a' := ?_) #[true, true, true, true, true, true, true, true, true, false, false, false, false, false, false, false, false, false, false] rfl rfl (za25 HT_.out (by kernel_rfl)) (fun _ _ _ h => h) (Or.inl ⟨by rfl, ?_⟩) ?_ ?_
            rotate_left
            ·intro w'
             go_simp
             with_reducible rfl
            rotate_left
            ·simp only [Act.put, za0, za2, za3, i64_w, i32_w]
             rfl
            refine take_ (i := 9) (N := some 32) (v := ?_) (a' := ?_) #[true, true, true, true, true, true, true, true, true, true, false, false, false, false, false, false, false, false, false] rfl rfl (take_ofW HT_.out HW_.out (by kernel_rfl)) (fun _ _ _ h => h) (Or.inl ⟨by rfl, ?_⟩) hHeld ?_ ?_
            rotate_left
            ·rintro w' ⟨s0, s1, s2, s3, s4, s5, s6⟩
             go_simp
             with_reducible rfl
            rotate_left
            ·simp only [Act.put, za0, za2, za3, i64_w, i32_w]
             rfl
            refine pure_ (i := 10) (N := some 33) (v := ?_) (a' := ?_) #[true, true, true, true, true, true, true, true, true, true, true, false, false, false, false, false, false, false, false] rfl rfl (za25 HT_.out (by kernel_rfl)) (fun _ _ _ h => h) (Or.inl ⟨by rfl, ?_⟩) ?_ ?_
            rotate_left
            ·intro w'
             go_simp
             with_reducible rfl
            rotate_left
            ·simp only [Act.put, za0, za2, za3, i64_w, i32_w]
             rfl
            refine pure_ (i := 11) (N := some 34) (v := ?_) (a' := ?_) #[true, true, true, true, true, true, true, true, true, true, true, true, false, false, false, false, false, false, false] rfl rfl (za25 HT_.out (by kernel_rfl)) (fun _ _ _ h => h) (Or.inl ⟨by rfl, ?_⟩) ?_ ?_
            rotate_left
            ·intro w'
             go_simp
             with_reducible rfl
            rotate_left
            ·simp only [Act.put, za0, za2, za3, i64_w, i32_w]
             rfl
            refine pure_ (i := 12) (N := some 35) (v := ?_) (a' := ?_) #[true, true, true, true, true, true, true, true, true, true, true, true, true, false, false, false, false, false, false] rfl rfl (za25 HT_.out (by kernel_rfl)) (fun _ _ _ h => h) (Or.inl ⟨by rfl, ?_⟩) ?_ ?_
            rotate_left
            ·intro w'
             go_simp
             with_reducible rfl
            rotate_left
            ·simp only [Act.put, za0, za2, za3, i64_w, i32_w]
             rfl
            refine pure_ (i := 13) (N := some 36) (v := ?_) (a' := ?_) #[true, true, true, true, true, true, true, true, true, true, true, true, true, true, false, false, false, false, false] rfl rfl (za25 HT_.out (by kernel_rfl)) (fun _ _ _ h => h) (Or.inl ⟨by rfl, ?_⟩) ?_ ?_
            rotate_left
            ·intro w'
             go_simp
             with_reducible rfl
            rotate_left
            ·simp only [Act.put, za0, za2, za3, i64_w, i32_w]
             rfl
            refine pure_ (i := 14) (N := some 37) (v := ?_) (a' := ?_) #[true, true, true, true, true, true, true, true, true, true, true, true, true, true, true, false, false, false, false] rfl rfl (za25 HT_.out (by kernel_rfl)) (fun _ _ _ h => h) (Or.inl ⟨by rfl, ?_⟩) ?_ ?_
            rotate_left
            ·intro w'
             go_simp
             with_reducible rfl
            rotate_left
            ·simp only [Act.put, za0, za2, za3, i64_w, i32_w]
             rfl
            refine pure_ (i := 16) (N := some 39) (v := ?_) (a' := ?_) #[true, true, true, true, true, true, true, true, true, true, true, true, true, true, true, false, true, false, false] rfl rfl (za25 HT_.out (by kernel_rfl)) (fun _ _ _ h => h) (Or.inl ⟨by rfl, ?_⟩) ?_ ?_
            rotate_left
            ·intro w'
             go_simp
             with_reducible rfl
            rotate_left
            ·simp only [Act.put, za0, za2, za3, i64_w, i32_w]
             rfl
            refine take_ (i := 15) (N := some 38) (v := ?_) (a' := ?_) #[true, true, true, true, true, true, true, true, true, true, true, true, true, true, true, true, true, false, false] rfl rfl (take_ofW HT_.out HW_.out (by kernel_rfl)) (fun _ _ _ h => h) (Or.inl ⟨by rfl, ?_⟩) hHeld ?_ ?_
            rotate_left
            ·rintro w' ⟨s0, s1, s2, s3, s4, s5, s6⟩
             go_simp
             with_reducible rfl
            rotate_left
            ·simp only [Act.put, za0, za2, za3, i64_w, i32_w]
             rfl
            refine one_ (i := 17) (N := some 40) #[true, true, true, true, true, true, true, true, true, true, true, true, true, true, true, true, true, true, false] rfl rfl (one_of HT_.out (by kernel_rfl)) (by decide) (fun K hK => ?_)
            refine goes_ Try.func29 (by kernel_rfl) rfl #[.agg #[.int .i64 ((rd_T46 l2 x9_2).f0), .int .i64 ((rd_T46 l2 x9_2).f1)], .slice A1 l1.length c1] (by rfl) rfl rfl (by (try simp only [za18, za26, za27]); first | done | rfl | (simp only [za20, za19]; rfl)) ?_
            with_reducible refine (spec_IsSigBy.calls k2 ((rd_T46 l2 x9_2).f0) ((rd_T46 l2 x9_2).f1) _ _ l1 true _ ?side1 ?side2 A12.out).mono ?_
            (case side1 => repeat (first | exact (za30 HR1.out HB.out) | (with_reducible refine za24 ?_ _) | (with_reducible refine za22 ?_ _) | (with_reducible refine za23 ?_)))
            (case side2 => exact HC1.out)
            rintro e w15 ⟨rfl, hb⟩
            refine ⟨_, rfl, ?_⟩
            have n0_ := za1 (za17 (g := gb372) (o := .cells #[.slice (some ad374) l0_0.length c0_0, .int .i64 a0_1] 37 (0, 0)) (by (with_reducible repeat (first | refine za11 ?_ _ | refine za12 ?_ | refine za13 ?_ _)); exact BK372.out) hb)
            have n1_ := za1 (za28 (by repeat (first | (with_reducible first | exact HB.out | apply za14 | apply za7 | apply za9 | refine za8 ?_ GE372.out) | exact HB.out)) hb)
            clear BK372
            clear HB
            have BK372 := n0_
            have HB := n1_
            clear n0_ n1_
            (try clear hb)
            (try clear hb2)
            (try clear hk)
            (try clear hi)
            refine hK.out _ _ ⟨(za15 BK372.out 0).trans rfl, (za15 BK372.out 1).trans rfl, ((HB.out.cell (World.block_lt_of_cell? w _ hw373_0)).trans hw373_0), ((HB.out.cell (World.block_lt_of_cell? w _ hw373_1)).trans hw373_1), ((HB.out.cell (World.block_lt_of_cell? w _ hw374_0)).trans hw374_0), ((HB.out.cell (World.block_lt_of_cell? w _ hw375_0)).trans hw375_0), ((HB.out.cell (World.block_lt_of_cell? w _ hw375_1)).trans hw375_1)⟩ (fun hHeld => ?_)
            clear hK K
            refine norm_ (a' := ?_) ?_ ?_
            rotate_left
            ·show Act.put _ (some 40) _ = _
             simp only [Act.put, za0, za2, za3, i64_w, i32_w]
             rfl
            refine pure_ (i := 18) (N := some 41) (v := ?_) (a' := ?_) #[true, true, true, true, true, true, true, true, true, true, true, true, true, true, true, true, true, true, true] rfl rfl (za25 HT_.out (by kernel_rfl)) (fun _ _ _ h => h) (Or.inl ⟨by rfl, ?_⟩) ?_ ?_
            rotate_left
            ·intro w'
             go_simp
             with_reducible rfl
            rotate_left
            ·simp only [Act.put, za0, za2, za3, i64_w, i32_w]
             rfl
            refine done_ (done_of HT_.out (by kernel_rfl)) ?_
            try go_wp2
            go_roundg k2
            case measure => have := HK1.out; have := HK2.out; omega
            case rel => exact ⟨(wrap64 (x7_2 + 1)), (wrap64 (x8_1 + 1)), (by first | rfl | (simp; done) | (simp [*]; done)), (by first | rfl | (simp; done) | (simp [*]; done)), H', ⟨by have := HK1.out; have := HK2.out; omega⟩, ⟨by (with_reducible repeat (first | refine za11 ?_ _ | refine za12 ?_ | refine za13 ?_ _)); exact BK372.out⟩, ⟨by repeat (first | (with_reducible first | exact HB.out | apply za14 | apply za7 | apply za9 | refine za8 ?_ GE372.out) | exact HB.out)⟩⟩
           ·replace c13 := Bool.eq_false_iff.mpr c13
            subst c13
            have H1 : (spec_CountSigs.l1 k2 l1 l2 x7_2 x8_1 (wrap64 (x9_2 + 1)) l0_0 a0_1) = some r := by rw [if_neg (show ¬ (false = true) by decide)] at H; exact H
            clear H
            have H := H1
            clear H1
            have H' := za1 H
            clear H
            try go_wp2
            have n0_ := za1 (za12 BK372.out)
            have n1_ := za1 (za9 HB.out)
            clear BK372
            clear HB
            have BK372 := n0_
            have HB := n1_
            clear n0_ n1_
            have p373 : 0 ≤ (x9_2 : Int) := za35 (by first | (with_reducible assumption) | assumption)
            have q373 : x9_2 < (l2.length : Int) := za35 (by first | (with_reducible assumption) | assumption)
            obtain ⟨ad373, e373, hx373_0, hx373_1⟩ := at_T46 HR2.out x9_2 p373 q373
            have hw373_1 := hx373_1
            have hw373_0 := hx373_0
            cases e373
            replace hx373_0 := (HB.out.cell (World.block_lt_of_cell? w _ hx373_0)).trans hx373_0
            replace hx373_1 := (HB.out.cell (World.block_lt_of_cell? w _ hx373_1)).trans hx373_1
            replace p373 := eq_true p373
            replace q373 := eq_true q373
            have p374 : 0 ≤ (x8_1 : Int) := za35 (by first | (with_reducible assumption) | assumption)
            have q374 : x8_1 < (l0_0.length : Int) := za35 (by first | (with_reducible assumption) | assumption)
            obtain ⟨ad374, e374, hx374_0⟩ := Kd.at_int HR0_0.out x8_1 p374 q374
            have hw374_0 := hx374_0
            cases e374
            replace hx374_0 := (HB.out.cell (World.block_lt_of_cell? w _ hx374_0)).trans hx374_0
            replace p374 := eq_true p374
            replace q374 := eq_true q374
            have p375 : 0 ≤ (x9_2 : Int) := za35 (by first | (with_reducible assumption) | assumption)
            have q375 : x9_2 < (l2.length : Int) := za35 (by first | (with_reducible assumption) | assumption)
            obtain ⟨ad375, e375, hx375_0, hx375_1⟩ := at_T46 HR2.out x9_2 p375 q375
            have hw375_1 := hx375_1
            have hw375_0 := hx375_0
            obtain rfl : ad373 = ad375 := (by injection e375)
            replace hx375_0 := (HB.out.cell (World.block_lt_of_cell? w _ hx375_0)).trans hx375_0
            replace hx375_1 := (HB.out.cell (World.block_lt_of_cell? w _ hx375_1)).trans hx375_1
            replace p375 := eq_true p375
            replace q375 := eq_true q375
            refine start_ (n := 19) (S := fun w' => w'.cell? ⟨gb372, 0, none⟩ = some (.slice (some ad374) l0_0.length c0_0) ∧ w'.cell? ⟨gb372, 1, none⟩ = some (.int .i64 a0_1) ∧ w'.cell? (ad373.add ((x9_2).toNat * 2)) = some (.int .i64 ((rd_T46 l2 x9_2).f0)) ∧ w'.cell? ⟨(ad373.add ((x9_2).toNat * 2)).block, (ad373.add ((x9_2).toNat * 2)).off + 1, none⟩ = some (.int .i64 ((rd_T46 l2 x9_2).f1)) ∧ w'.cell? (ad374.add (x8_1).toNat) = some (.int .i64 (rd l0_0 x8_1)) ∧ w'.cell? (ad373.add ((x9_2).toNat * 2)) = some (.int .i64 ((rd_T46 l2 x9_2).f0)) ∧ w'.cell? ⟨(ad373.add ((x9_2).toNat * 2)).block, (ad373.add ((x9_2).toNat * 2)).off + 1, none⟩ = some (.int .i64 ((rd_T46 l2 x9_2).f1))) (ds := []) #[false, false, false, false, false, false, false, false, false, false, false, false, false, false, false, false, false, false, false] (by kernel_rfl) rfl rfl ⟨(za15 BK372.out 0).trans rfl, (za15 BK372.out 1).trans rfl, ((HB.out.cell (World.block_lt_of_cell? w _ hw373_0)).trans hw373_0), ((HB.out.cell (World.block_lt_of_cell? w _ hw373_1)).trans hw373_1), ((HB.out.cell (World.block_lt_of_cell? w _ hw374_0)).trans hw374_0), ((HB.out.cell (World.block_lt_of_cell? w _ hw375_0)).trans hw375_0), ((HB.out.cell (World.block_lt_of_cell? w _ hw375_1)).trans hw375_1)⟩ (fun hHeld => ?_); refine with_tabW spec_CountSigs.tab8 spec_CountSigs.bits8 (fun HT_ HW_ => ?_)
            generalize wr.drew = w16 at BK372 HB hx373_0 hx373_1 hx374_0 hx375_0 hx375_1 hHeld ⊢
            refine pure_ (i := 0) (N := some 23) (v := ?_) (a' := ?_) #[true, false, false, false, false, false, false, false, false, false, false, false, false, false, false, false, false, false, false] rfl rfl (za25 HT_.out (by kernel_rfl)) (fun _ _ _ h => h) (Or.inl ⟨by rfl, ?_⟩) ?_ ?_
            rotate_left
            ·intro w'
             go_simp
             with_reducible rfl
            rotate_left
            ·simp only [Act.put, za0, za2, za3, i64_w, i32_w]
             rfl
            refine pure_ (i := 1) (N := some 24) (v := ?_) (a' := ?_) #[true, true, false, false, false, false, false, false, false, false, false, false, false, false, false, false, false, false, false] rfl rfl (za25 HT_.out (by kernel_rfl)) (fun _ _ _ h => h) (Or.inl ⟨by rfl, ?_⟩) ?_ ?_
            rotate_left
            ·intro w'
             go_simp
             with_reducible rfl
            rotate_left
            ·simp only [Act.put, za0, za2, za3, i64_w, i32_w]
             rfl
            refine pure_ (i := 2) (N := some 25) (v := ?_) (a' := ?_) #[true, true, true, false, false, false, false, false, false, false, false, false, false, false, false, false, false, false, false] rfl rfl (za25 HT_.out (by kernel_rfl)) (fun _ _ _ h => h) (Or.inl ⟨by rfl, ?_⟩) ?_ ?_
            rotate_left
            ·intro w'
             go_simp
             with_reducible rfl
            rotate_left
            ·simp only [Act.put, za0, za2, za3, i64_w, i32_w]
             rfl
            refine pure_ (i := 3) (N := some 26) (v := ?_) (a' := ?_) #[true, true, true, true, false, false, false, false, false, false, false, false, false, false, false, false, false, false, false] rfl rfl (za25 HT_.out (by kernel_rfl)) (fun _ _ _ h => h) (Or.inl ⟨by rfl, ?_⟩) ?_ ?_
            rotate_left
            ·intro w'
             go_simp
             with_reducible rfl
            rotate_left
            ·simp only [Act.put, za0, za2, za3, i64_w, i32_w]
             rfl
            refine pure_ (i := 5) (N := some 28) (v := ?_) (a' := ?_) #[true, true, true, true, false, true, false, false, false, false, false, false, false, false, false, false, false, false, false] rfl rfl (za25 HT_.out (by kernel_rfl)) (fun _ _ _ h => h) (Or.inl ⟨by rfl, ?_⟩) ?_ ?_
            rotate_left
            ·intro w'
             go_simp
             with_reducible rfl
            rotate_left
            ·simp only [Act.put, za0, za2, za3, i64_w, i32_w]
             rfl
            refine pure_ (i := 7) (N := some 30) (v := ?_) (a' := ?_) #[true, true, true, true, false, true, false, true, false, false, false, false, false, false, false, false, false, false, false] rfl rfl (za25 HT_.out (by kernel_rfl)) (fun _ _ _ h => h) (Or.inl ⟨by rfl, ?_⟩) ?_ ?_
            rotate_left
            ·intro w'
             go_simp
             with_reducible rfl
            rotate_left
            ·simp only [Act.put, za0, za2, za3, i64_w, i32_w]
             rfl
            refine take_ (i := 4) (N := some 27) (v := ?_) (a' := ?_) #[true, true, true, true, true, true, false, true, false, false, false, false, false, false, false, false, false, false, false] rfl rfl (take_ofW HT_.out HW_.out (by kernel_rfl)) (fun _ _ _ h => h) (Or.inl ⟨by rfl, ?_⟩) hHeld ?_ ?_
            rotate_left
            ·rintro w' ⟨s0, s1, s2, s3, s4, s5, s6⟩
             go_simp
             with_reducible rfl
            rotate_left
            ·simp only [Act.put, za0, za2, za3, i64_w, i32_w]
             rfl
            refine take_ (i := 6) (N := some 29) (v := ?_) (a' := ?_) #[true, true, true, true, true, true, true, true, false, false, false, false, false, false, false, false, false, false, false] rfl rfl (take_ofW HT_.out HW_.out (by kernel_rfl)) (fun _ _ _ h => h) (Or.inl ⟨by rfl, ?_⟩) hHeld ?_ ?_
            rotate_left
            ·rintro w' ⟨s0, s1, s2, s3, s4, s5, s6⟩
             go_simp
             with_reducible rfl
            rotate_left
            ·simp only [Act.put, za0, za2, za3, i64_w, i32_w]
             rfl
            refine pure_ (i := 8) (N := some 31) (v := ?_) (a' := ?_) #[true, true, true, true, true, true, true, true, true, false, false, false, false, false, false, false, false, false, false] rfl rfl (za25 HT_.out (by kernel_rfl)) (fun _ _ _ h => h) (Or.inl ⟨by rfl, ?_⟩) ?_ ?_
            rotate_left
            ·intro w'
             go_simp
             with_reducible rfl
            rotate_left
            ·simp only [Act.put, za0, za2, za3, i64_w, i32_w]
             rfl
            refine take_ (i := 9) (N := some 32) (v := ?_) (a' := ?_) #[true, true, true, true, true, true, true, true, true, true, false, false, false, false, false, false, false, false, false] rfl rfl (take_ofW HT_.out HW_.out (by kernel_rfl)) (fun _ _ _ h => h) (Or.inl ⟨by rfl, ?_⟩) hHeld ?_ ?_
            rotate_left
            ·rintro w' ⟨s0, s1, s2, s3, s4, s5, s6⟩
             go_simp
             with_reducible rfl
            rotate_left
            ·simp only [Act.put, za0, za2, za3, i64_w, i32_w]
             rfl
            refine pure_ (i := 10) (N := some 33) (v := ?_) (a' := ?_) #[true, true, true, true, true, true, true, true, true, true, true, false, false, false, false, false, false, false, false] rfl rfl (za25 HT_.out (by kernel_rfl)) (fun _ _ _ h => h) (Or.inl ⟨by rfl, ?_⟩) ?_ ?_
            rotate_left
            ·intro w'
             go_simp
             with_reducible rfl
            rotate_left
            ·simp only [Act.put, za0, za2, za3, i64_w, i32_w]
             rfl
            refine pure_ (i := 11) (N := some 34) (v := ?_) (a' := ?_) #[true, true, true, true, true, true, true, true, true, true, true, true, false, false, false, false, false, false, false] rfl rfl (za25 HT_.out (by kernel_rfl)) (fun _ _ _ h => h) (Or.inl ⟨by rfl, ?_⟩) ?_ ?_
            rotate_left
            ·intro w'
             go_simp
             with_reducible rfl
            rotate_left
            ·simp only [Act.put, za0, za2, za3, i64_w, i32_w]
             rfl
            refine pure_ (i := 12) (N := some 35) (v := ?_) (a' := ?_) #[true, true, true, true, true, true, true, true, true, true, true, true, true, false, false, false, false, false, false] rfl rfl (za25 HT_.out (by kernel_rfl)) (fun _ _ _ h => h) (Or.inl ⟨by rfl, ?_⟩) ?_ ?_
            rotate_left
            ·intro w'
             go_simp
             with_reducible rfl
            rotate_left
            ·simp only [Act.put, za0, za2, za3, i64_w, i32_w]
             rfl
            refine pure_ (i := 13) (N := some 36) (v := ?_) (a' := ?_) #[true, true, true, true, true, true, true, true, true, true, true, true, true, true, false, false, false, false, false] rfl rfl (za25 HT_.out (by kernel_rfl)) (fun _ _ _ h => h) (Or.inl ⟨by rfl, ?_⟩) ?_ ?_
            rotate_left
            ·intro w'
             go_simp
             with_reducible rfl
            rotate_left
            ·simp only [Act.put, za0, za2, za3, i64_w, i32_w]
             rfl
            refine pure_ (i := 14) (N := some 37) (v := ?_) (a' := ?_) #[true, true, true, true, true, true, true, true, true, true, true, true, true, true, true, false, false, false, false] rfl rfl (za25 HT_.out (by kernel_rfl)) (fun _ _ _ h => h) (Or.inl ⟨by rfl, ?_⟩) ?_ ?_
            rotate_left
            ·intro w'
             go_simp
             with_reducible rfl
            rotate_left
            ·simp only [Act.put, za0, za2, za3, i64_w, i32_w]
             rfl
            refine pure_ (i := 16) (N := some 39) (v := ?_) (a' := ?_) #[true, true, true, true, true, true, true, true, true, true, true, true, true, true, true, false, true, false, false] rfl rfl (za25 HT_.out (by kernel_rfl)) (fun _ _ _ h => h) (Or.inl ⟨by rfl, ?_⟩) ?_ ?_
            rotate_left
            ·intro w'
             go_simp
             with_reducible rfl
            rotate_left
            ·simp only [Act.put, za0, za2, za3, i64_w, i32_w]
             rfl
            refine take_ (i := 15) (N := some 38) (v := ?_) (a' := ?_) #[true, true, true, true, true, true, true, true, true, true, true, true, true, true, true, true, true, false, false] rfl rfl (take_ofW HT_.out HW_.out (by kernel_rfl)) (fun _ _ _ h => h) (Or.inl ⟨by rfl, ?_⟩) hHeld ?_ ?_
            rotate_left
            ·rintro w' ⟨s0, s1, s2, s3, s4, s5, s6⟩
             go_simp
             with_reducible rfl
            rotate_left
            ·simp only [Act.put, za0, za2, za3, i64_w, i32_w]
             rfl
            refine one_ (i := 17) (N := some 40) #[true, true, true, true, true, true, true, true, true, true, true, true, true, true, true, true, true, true, false] rfl rfl (one_of HT_.out (by kernel_rfl)) (by decide) (fun K hK => ?_)
            refine goes_ Try.func29 (by kernel_rfl) rfl #[.agg #[.int .i64 ((rd_T46 l2 x9_2).f0), .int .i64 ((rd_T46 l2 x9_2).f1)], .slice A1 l1.length c1] (by rfl) rfl rfl (by (try simp only [za18, za26, za27]); first | done | rfl | (simp only [za20, za19]; rfl)) ?_
            with_reducible refine (spec_IsSigBy.calls k2 ((rd_T46 l2 x9_2).f0) ((rd_T46 l2 x9_2).f1) _ _ l1 false _ ?side1 ?side2 A12.out).mono ?_
            (case side1 => repeat (first | exact (za30 HR1.out HB.out) | (with_reducible refine za24 ?_ _) | (with_reducible refine za22 ?_ _) | (with_reducible refine za23 ?_)))
            (case side2 => exact HC1.out)
            rintro e w17 ⟨rfl, hb⟩
            refine ⟨_, rfl, ?_⟩
            have n0_ := za1 (za17 (g := gb372) (o := .cells #[.slice (some ad374) l0_0.length c0_0, .int .i64 a0_1] 37 (0, 0)) (by (with_reducible repeat (first | refine za11 ?_ _ | refine za12 ?_ | refine za13 ?_ _)); exact BK372.out) hb)
            have n1_ := za1 (za28 (by repeat (first | (with_reducible first | exact HB.out | apply za14 | apply za7 | apply za9 | refine za8 ?_ GE372.out) | exact HB.out)) hb)
            clear BK372
            clear HB
            have BK372 := n0_
            have HB := n1_
            clear n0_ n1_
            (try clear hb)
            (try clear hb2)
            (try clear hk)
            (try clear hi)
            refine hK.out _ _ ⟨(za15 BK372.out 0).trans rfl, (za15 BK372.out 1).trans rfl, ((HB.out.cell (World.block_lt_of_cell? w _ hw373_0)).trans hw373_0), ((HB.out.cell (World.block_lt_of_cell? w _ hw373_1)).trans hw373_1), ((HB.out.cell (World.block_lt_of_cell? w _ hw374_0)).trans hw374_0), ((HB.out.cell (World.block_lt_of_cell? w _ hw375_0)).trans hw375_0), ((HB.out.cell (World.block_lt_of_cell? w _ hw375_1)).trans hw375_1)⟩ (fun hHeld => ?_)
            clear hK K
            refine norm_ (a' := ?_) ?_ ?_
            rotate_left
            ·show Act.put _ (some 40) _ = _
             simp only [Act.put, za0, za2, za3, i64_w, i32_w]
             rfl
            refine pure_ (i := 18) (N := some 41) (v := ?_) (a' := ?_) #[true, true, true, true, true, true, true, true, true, true, true, true, true, true, true, true, true, true, true] rfl rfl (za25 HT_.out (by kernel_rfl)) (fun _ _ _ h => h) (Or.inl ⟨by rfl, ?_⟩) ?_ ?_
            rotate_left
            ·intro w'
             go_simp
             with_reducible rfl
            rotate_left
            ·simp only [Act.put, za0, za2, za3, i64_w, i32_w]
             rfl
            refine done_ (done_of HT_.out (by kernel_rfl)) ?_
            try go_wp2
            go_roundg k2
            case measure => have := HK1.out; have := HK2.out; omega
            case rel => exact ⟨(x7_2), (wrap64 (x9_2 + 1)), (by first | rfl | (simp; done) | (simp [*]; done)), (by first | rfl | (simp; done) | (simp [*]; done)), H', ⟨by have := HK1.out; have := HK2.out; omega⟩, ⟨by (with_reducible repeat (first | refine za11 ?_ _ | refine za12 ?_ | refine za13 ?_ _)); exact BK372.out⟩, ⟨by repeat (first | (with_reducible first | exact HB.out | apply za14 | apply za7 | apply za9 | refine za8 ?_ GE372.out) | exact HB.out)⟩⟩
          ·rw [if_neg c11] at H
           have c11b0 : (((rd_T46 l2 x9_2).f0) == (rd l0_0 x8_1)) = false := beq_eq_false_iff_ne.mpr c11
           have c11b1 : (((rd_T46 l2 x9_2).f0) != (rd l0_0 x8_1)) = true := bne_iff_ne.mpr c11
           have H' := za1 H
           clear H
           try go_wp2
           have n0_ := za1 (za12 BK372.out)
           have n1_ := za1 (za9 HB.out)
           clear BK372
           clear HB
           have BK372 := n0_
           have HB := n1_
           clear n0_ n1_
           have p373 : 0 ≤ (x9_2 : Int) := za35 (by first | (with_reducible assumption) | assumption)
           have q373 : x9_2 < (l2.length : Int) := za35 (by first | (with_reducible assumption) | assumption)
           obtain ⟨ad373, e373, hx373_0, hx373_1⟩ := at_T46 HR2.out x9_2 p373 q373
           have hw373_1 := hx373_1
           have hw373_0 := hx373_0
           cases e373
           replace hx373_0 := (HB.out.cell (World.block_lt_of_cell? w _ hx373_0)).trans hx373_0
           replace hx373_1 := (HB.out.cell (World.block_lt_of_cell? w _ hx373_1)).trans hx373_1
           replace p373 := eq_true p373
           replace q373 := eq_true q373
           have p374 : 0 ≤ (x8_1 : Int) := za35 (by first | (with_reducible assumption) | assumption)
           have q374 : x8_1 < (l0_0.length : Int) := za35 (by first | (with_reducible assumption) | assumption)
           obtain ⟨ad374, e374, hx374_0⟩ := Kd.at_int HR0_0.out x8_1 p374 q374
           have hw374_0 := hx374_0
           cases e374
           replace hx374_0 := (HB.out.cell (World.block_lt_of_cell? w _ hx374_0)).trans hx374_0
           replace p374 := eq_true p374
           replace q374 := eq_true q374
           refine start_ (n := 19) (S := fun w' => w'.cell? ⟨gb372, 0, none⟩ = some (.slice (some ad374) l0_0.length c0_0) ∧ w'.cell? ⟨gb372, 1, none⟩ = some (.int .i64 a0_1) ∧ w'.cell? (ad373.add ((x9_2).toNat * 2)) = some (.int .i64 ((rd_T46 l2 x9_2).f0)) ∧ w'.cell? ⟨(ad373.add ((x9_2).toNat * 2)).block, (ad373.add ((x9_2).toNat * 2)).off + 1, none⟩ = some (.int .i64 ((rd_T46 l2 x9_2).f1)) ∧ w'.cell? (ad374.add (x8_1).toNat) = some (.int .i64 (rd l0_0 x8_1))) (ds := []) #[false, false, false, false, false, false, false, false, false, false, false, false, false, false, false, false, false, false, false] (by kernel_rfl) rfl rfl ⟨(za15 BK372.out 0).trans rfl, (za15 BK372.out 1).trans rfl, ((HB.out.cell (World.block_lt_of_cell? w _ hw373_0)).trans hw373_0), ((HB.out.cell (World.block_lt_of_cell? w _ hw373_1)).trans hw373_1), ((HB.out.cell (World.block_lt_of_cell? w _ hw374_0)).trans hw374_0)⟩ (fun hHeld => ?_); refine with_tabW spec_CountSigs.tab8 spec_CountSigs.bits8 (fun HT_ HW_ => ?_)
           generalize wr.drew = w18 at BK372 HB hx373_0 hx373_1 hx374_0 hHeld ⊢
           refine pure_ (i := 0) (N := some 23) (v := ?_) (a' := ?_) #[true, false, false, false, false, false, false, false, false, false, false, false, false, false, false, false, false, false, false] rfl rfl (za25 HT_.out (by kernel_rfl)) (fun _ _ _ h => h) (Or.inl ⟨by rfl, ?_⟩) ?_ ?_
           rotate_left
           ·intro w'
            go_simp
            with_reducible rfl
           rotate_left
           ·simp only [Act.put, za0, za2, za3, i64_w, i32_w]
            rfl
           refine pure_ (i := 1) (N := some 24) (v := ?_) (a' := ?_) #[true, true, false, false, false, false, false, false, false, false, false, false, false, false, false, false, false, false, false] rfl rfl (za25 HT_.out (by kernel_rfl)) (fun _ _ _ h => h) (Or.inl ⟨by rfl, ?_⟩) ?_ ?_
           rotate_left
           ·intro w'
            go_simp
            with_reducible rfl
           rotate_left
           ·simp only [Act.put, za0, za2, za3, i64_w, i32_w]
            rfl
           refine pure_ (i := 2) (N := some 25) (v := ?_) (a' := ?_) #[true, true, true, false, false, false, false, false, false, false, false, false, false, false, false, false, false, false, false] rfl rfl (za25 HT_.out (by kernel_rfl)) (fun _ _ _ h => h) (Or.inl ⟨by rfl, ?_⟩) ?_ ?_
           rotate_left
           ·intro w'
            go_simp
            with_reducible rfl
           rotate_left
           ·simp only [Act.put, za0, za2, za3, i64_w, i32_w]
            rfl
           refine pure_ (i := 3) (N := some 26) (v := ?_) (a' := ?_) #[true, true, true, true, false, false, false, false, false, false, false, false, false, false, false, false, false, false, false] rfl rfl (za25 HT_.out (by kernel_rfl)) (fun _ _ _ h => h) (Or.inl ⟨by rfl, ?_⟩) ?_ ?_
           rotate_left
           ·intro w'
            go_simp
            with_reducible rfl
           rotate_left
           ·simp only [Act.put, za0, za2, za3, i64_w, i32_w]
            rfl
           refine pure_ (i := 5) (N := some 28) (v := ?_) (a' := ?_) #[true, true, true, true, false, true, false, false, false, false, false, false, false, false, false, false, false, false, false] rfl rfl (za25 HT_.out (by kernel_rfl)) (fun _ _ _ h => h) (Or.inl ⟨by rfl, ?_⟩) ?_ ?_
           rotate_left
           ·intro w'
            go_simp
            with_reducible rfl
           rotate_left
           ·simp only [Act.put, za0, za2, za3, i64_w, i32_w]
            rfl
           refine pure_ (i := 7) (N := some 30) (v := ?_) (a' := ?_) #[true, true, true, true, false, true, false, true, false, false, false, false, false, false, false, false, false, false, false] rfl rfl (za25 HT_.out (by kernel_rfl)) (fun _ _ _ h => h) (Or.inl ⟨by rfl, ?_⟩) ?_ ?_
           rotate_left
           ·intro w'
            go_simp
            with_reducible rfl
           rotate_left
           ·simp only [Act.put, za0, za2, za3, i64_w, i32_w]
            rfl
           refine take_ (i := 4) (N := some 27) (v := ?_) (a' := ?_) #[true, true, true, true, true, true, false, true, false, false, false, false, false, false, false, false, false, false, false] rfl rfl (take_ofW HT_.out HW_.out (by kernel_rfl)) (fun _ _ _ h => h) (Or.inl ⟨by rfl, ?_⟩) hHeld ?_ ?_
           rotate_left
           ·rintro w' ⟨s0, s1, s2, s3, s4⟩
            go_simp
            with_reducible rfl
           rotate_left
           ·simp only [Act.put, za0, za2, za3, i64_w, i32_w]
            rfl
           refine take_ (i := 6) (N := some 29) (v := ?_) (a' := ?_) #[true, true, true, true, true, true, true, true, false, false, false, false, false, false, false, false, false, false, false] rfl rfl (take_ofW HT_.out HW_.out (by kernel_rfl)) (fun _ _ _ h => h) (Or.inl ⟨by rfl, ?_⟩) hHeld ?_ ?_
           rotate_left
           ·rintro w' ⟨s0, s1, s2, s3, s4⟩
            go_simp
            with_reducible rfl
           rotate_left
           ·simp only [Act.put, za0, za2, za3, i64_w, i32_w]
            rfl
           refine pure_ (i := 8) (N := some 31) (v := ?_) (a' := ?_) #[true, true, true, true, true, true, true, true, true, false, false, false, false, false, false, false, false, false, false] rfl rfl (za25 HT_.out (by kernel_rfl)) (fun _ _ _ h => h) (Or.inl ⟨by rfl, ?_⟩) ?_ ?_
           rotate_left
           ·intro w'
            go_simp
            with_reducible rfl
           rotate_left
           ·simp only [Act.put, za0, za2, za3, i64_w, i32_w]
            rfl
           refine take_ (i := 9) (N := some 32) (v := ?_) (a' := ?_) #[true, true, true, true, true, true, true, true, true, true, false, false, false, false, false, false, false, false, false] rfl rfl (take_ofW HT_.out HW_.out (by kernel_rfl)) (fun _ _ _ h => h) (Or.inl ⟨by rfl, ?_⟩) hHeld ?_ ?_
           rotate_left
           ·rintro w' ⟨s0, s1, s2, s3, s4⟩
            go_simp
            with_reducible rfl
           rotate_left
           ·simp only [Act.put, za0, za2, za3, i64_w, i32_w]
            rfl
           refine pure_ (i := 10) (N := some 33) (v := ?_) (a' := ?_) #[true, true, true, true, true, true, true, true, true, true, true, false, false, false, false, false, false, false, false] rfl rfl (za25 HT_.out (by kernel_rfl)) (fun _ _ _ h => h) (Or.inl ⟨by rfl, ?_⟩) ?_ ?_
           rotate_left
           ·intro w'
            go_simp
            with_reducible rfl
           rotate_left
           ·simp only [Act.put, za0, za2, za3, i64_w, i32_w]
            rfl
           refine pure_ (i := 11) (N := some 34) (v := ?_) (a' := ?_) #[true, true, true, true, true, true, true, true, true, true, true, true, false, false, false, false, false, false, false] rfl rfl (za25 HT_.out (by kernel_rfl)) (fun _ _ _ h => h) (Or.inl ⟨by rfl, ?_⟩) ?_ ?_
           rotate_left
           ·intro w'
            go_simp
            with_reducible rfl
           rotate_left
           ·simp only [Act.put, za0, za2, za3, i64_w, i32_w]
            rfl
           refine pure_ (i := 12) (N := some 35) (v := undef) (a' := ?_) #[true, true, true, true, true, true, true, true, true, true, true, true, true, false, false, false, false, false, false] rfl rfl (za25 HT_.out (by kernel_rfl)) (fun _ _ _ h => h) (Or.inr ⟨by rfl, rfl⟩) ?_ ?_
           rotate_left
           ·simp only [Act.put, za0, za2, za3, i64_w, i32_w]
            rfl
           refine pure_ (i := 13) (N := some 36) (v := undef) (a' := ?_) #[true, true, true, true, true, true, true, true, true, true, true, true, true, true, false, false, false, false, false] rfl rfl (za25 HT_.out (by kernel_rfl)) (fun _ _ _ h => h) (Or.inr ⟨by rfl, rfl⟩) ?_ ?_
           rotate_left
           ·simp only [Act.put, za0, za2, za3, i64_w, i32_w]
            rfl
           refine pure_ (i := 14) (N := some 37) (v := undef) (a' := ?_) #[true, true, true, true, true, true, true, true, true, true, true, true, true, true, true, false, false, false, false] rfl rfl (za25 HT_.out (by kernel_rfl)) (fun _ _ _ h => h) (Or.inr ⟨by rfl, rfl⟩) ?_ ?_
           rotate_left
           ·simp only [Act.put, za0, za2, za3, i64_w, i32_w]
            rfl
           refine pure_ (i := 15) (N := some 38) (v := undef) (a' := ?_) #[true, true, true, true, true, true, true, true, true, true, true, true, true, true, true, true, false, false, false] rfl rfl (za25 HT_.out (by kernel_rfl)) (fun _ _ _ h => h) (Or.inr ⟨by rfl, rfl⟩) ?_ ?_
           rotate_left
           ·simp only [Act.put, za0, za2, za3, i64_w, i32_w]
            rfl
           refine pure_ (i := 16) (N := some 39) (v := undef) (a' := ?_) #[true, true, true, true, true, true, true, true, true, true, true, true, true, true, true, true, true, false, false] rfl rfl (za25 HT_.out (by kernel_rfl)) (fun _ _ _ h => h) (Or.inr ⟨by rfl, rfl⟩) ?_ ?_
           rotate_left
           ·simp only [Act.put, za0, za2, za3, i64_w, i32_w]
            rfl
           refine pure_ (i := 17) (N := some 40) (v := undef) (a' := ?_) #[true, true, true, true, true, true, true, true, true, true, true, true, true, true, true, true, true, true, false] rfl rfl (za25 HT_.out (by kernel_rfl)) (fun _ _ _ h => h) (Or.inr ⟨by rfl, rfl⟩) ?_ ?_
           rotate_left
           ·simp only [Act.put, za0, za2, za3, i64_w, i32_w]
            rfl
           refine pure_ (i := 18) (N := some 41) (v := ?_) (a' := ?_) #[true, true, true, true, true, true, true, true, true, true, true, true, true, true, true, true, true, true, true] rfl rfl (za25 HT_.out (by kernel_rfl)) (fun _ _ _ h => h) (Or.inl ⟨by rfl, ?_⟩) ?_ ?_
           rotate_left
           ·intro w'
            go_simp
            with_reducible rfl
           rotate_left
           ·simp only [Act.put, za0, za2, za3, i64_w, i32_w]
            rfl
           refine done_ (done_of HT_.out (by kernel_rfl)) ?_
           try go_wp2
           go_roundg k2
           case measure => have := HK1.out; have := HK2.out; omega
           case rel => exact ⟨(x7_2), (wrap64 (x9_2 + 1)), (by first | rfl | (simp; done) | (simp [*]; done)), (by first | rfl | (simp; done) | (simp [*]; done)), H', ⟨by have := HK1.out; have := HK2.out; omega⟩, ⟨by (with_reducible repeat (first | refine za11 ?_ _ | refine za12 ?_ | refine za13 ?_ _)); exact BK372.out⟩, ⟨by repeat (first | (with_reducible first | exact HB.out | apply za14 | apply za7 | apply za9 | refine za8 ?_ GE372.out) | exact HB.out)⟩⟩
         ·rw [if_neg c10] at H
          exact absurd H (by simp)
        ·rw [if_neg c9] at H
         exact absurd H (by simp)
       ·rw [if_neg c8] at H
        exact absurd H (by simp)
      ·rw [if_neg c7] at H
       have c7b0 : decide (x9_2 < (l2.length : Int)) = false := za39 c7
       clear c7
       have H' := za1 H
       clear H
       go_wp2
       go_roundg k2
       case measure => have := HK1.out; have := HK2.out; omega
       case rel => exact ⟨(x7_2), (wrap64 (x8_1 + 1)), (by first | rfl | (simp; done) | (simp [*]; done)), (by first | rfl | (simp; done) | (simp [*]; done)), H', ⟨by have := HK1.out; have := HK2.out; omega⟩, ⟨by (with_reducible repeat (first | refine za11 ?_ _ | refine za12 ?_ | refine za13 ?_ _)); exact BK372.out⟩, ⟨by repeat (first | (with_reducible first | exact HB.out | apply za14 | apply za7 | apply za9 | refine za8 ?_ GE372.out) | exact HB.out)⟩⟩
   ·rw [if_neg c5] at H
    have c5b0 : decide (x8_1 < (l0_0.length : Int)) = false := za39 c5
    clear c5
    obtain rfl := za37 H
    have hcz19_0 : wr.cell? ⟨gb372, 0, none⟩ = some (.slice A0_0 l0_0.length c0_0) := (za15 BK372.out 0).trans rfl
    have hcz19_1 : wr.cell? ⟨gb372, 1, none⟩ = some (.int .i64 a0_1) := (za15 BK372.out 1).trans rfl
    have hfz19_0 := blk_frozen BK372.out 0
    have hfz19_1 := blk_frozen BK372.out 1
    go_wp2
    go_ret
    exact ⟨by first | rfl | (simp [errW_none, errW_some] <;> rfl) | (simp [*, errW_none, errW_some] <;> rfl), by repeat (first | (with_reducible first | exact HB.out | apply za14 | apply za7 | apply za9 | refine za8 ?_ GE372.out) | exact HB.out)⟩

/-! ### impl_OneKey: function 30 -/
def impl_OneKey.f (a0 : Int) : Option (List Int × Int) := some ((([a0] : List Int)), 1)
set_option maxHeartbeats 8000000 in
set_option maxRecDepth 100000 in
theorem impl_OneKey.calls (a0 : Int) (r1 : List Int) (r2 : Int) (w : World) (h : impl_OneKey.f a0 = some (r1, r2)) :
  Calls Try.prog 30 #[.int .i64 a0] w fun e w' => ∃ v0_ : Value, e = .returned (.agg #[v0_, .int .i64 r2]) ∧ Kd.R (Kd.int .i64) 3 w' w.heap.size (fun _ => True) v0_ r1 ∧ Below w.heap.size w w' := by
 have hu37 := Try.underlying37
 have HB := za1 (Below.refl w.heap.size w)
 have H : (some ((([a0] : List Int)), 1)) = some (r1, r2) := h
 clear h
 obtain ⟨y378, hy378⟩ : ∃ y_ : List Int, y_ = (([a0] : List Int)) := ⟨_, rfl⟩
 replace H : (some (y378, 1)) = some (r1, r2) := by first | (rw [hy378]; with_reducible exact H) | (have H2_ := (za36 _ _).symm.trans H; rw [hy378]; with_reducible exact H2_) | (have H2_ := (za36 _ _).symm.trans H; with_reducible exact H2_) | with_reducible exact H | (rw [hy378]; exact H) | exact H
 have Ny378 := za1 hy378
 clear hy378
 simp only [Option.some.injEq, Prod.mk.injEq] at H
 obtain ⟨rfl, rfl⟩ := H
 go_enter Try.func30, Try.ntmps30
 go_wp2_with (first | ((with_reducible refine gate_dst (N := 2) rfl ?_); refine box_event ?hg (N := 2) ?hd (cs := #[.slice none 0 0, .int .i64 0]) (t := 37) ?hr ?_; (case hd => rfl); (case hg => rfl); (case hr => first | (go_simp; done) | (go_simp; rfl)); intro gb377 hg w2 hbox hb; have n0_ := za1 (za28 (by repeat (first | (with_reducible first | exact HB.out | apply za14 | apply za7 | apply za9) | exact HB.out)) hb); have n1_ := za1 (hbox); have n2_ := za1 ((by rw [hg]; exact (za29 (by repeat (first | (with_reducible first | exact HB.out | apply za14 | apply za7 | apply za9) | exact HB.out))) : w.heap.size ≤ gb377)); have n3_ := za1 ((by rw [hg]; exact (za29 (by repeat (first | (with_reducible first | exact HB.out | apply za14 | apply za7 | apply za9) | exact HB.out))) : w.heap.size ≤ gb377)); clear HB; have HB := n0_; have BK377 := n1_; have GW377 := n2_; have GE377 := n3_; clear n0_ n1_ n2_ n3_; clear hb hbox hg) | ((with_reducible refine gate_dst (N := 4) rfl ?_); refine Kd.R_lit (Kd.int .i64) _ 3 ?hg (N := 4) ?hd (xs := ([a0] : List Int)) (inner := [.int .i64 a0]) (ok := fun _ => True) (okp := fun _ => True) ?hr ?hp (fun _ hk => hk) trivial (Below.refl _ _) (Nat.le_refl _) (by simp) ?_; (case hd => rfl); (case hg => rfl); (case hr => first | (go_simp; done) | (go_simp; rfl)); (case hp => exact (Reps.one (show Kd.M (Kd.int .i64) _ _ _ a0 [.int .i64 a0] from rfl) (Reps.none _ _))); intro v379 w3 ho4 hb hg_ hnew_; clear hg_ hnew_; (first | rw [← Ny378.out] at ho4 | (simp only [Int.reduceToNat] at ho4; rw [← Ny378.out] at ho4)); have n0_ := za1 (za31 ho4 (za29 (by repeat (first | (with_reducible first | exact HB.out | apply za14 | apply za7 | apply za9 | refine za8 ?_ GE377.out) | exact HB.out)))); have n1_ := za1 (za17 (g := gb377) (o := .cells #[.slice none 0 0, .int .i64 0] 37 (0, 0)) (by (with_reducible repeat (first | refine za11 ?_ _ | refine za12 ?_ | refine za13 ?_ _)); exact BK377.out) hb); have n2_ := za1 (za28 (by repeat (first | (with_reducible first | exact HB.out | apply za14 | apply za7 | apply za9 | refine za8 ?_ GE377.out) | exact HB.out)) hb); clear BK377; clear HB; have HO380 := n0_; have BK377 := n1_; have HB := n2_; clear n0_ n1_ n2_; clear hb ho4; obtain ⟨Ao5, co5, eo5⟩ := Kd.R_slice HO380.out; subst eo5; have hcz6_0 : w3.cell? ⟨gb377, 0, none⟩ = some (.slice none 0 0) := (za15 BK377.out 0).trans rfl; have hcz6_1 : w3.cell? ⟨gb377, 1, none⟩ = some (.int .i64 0) := (za15 BK377.out 1).trans rfl; have hfz6_0 := blk_frozen BK377.out 0; have hfz6_1 := blk_frozen BK377.out 1))
 refine bodyPost_ret (results_cell_row rfl _ _ gb377 37 #[.slice Ao5 y378.length co5, .int .i64 1] (0, 0) _ rfl (by (with_reducible repeat (first | refine za11 ?_ _ | refine za12 ?_ | refine za13 ?_ _)); refine blk_put (cs := #[.slice Ao5 y378.length co5, .int .i64 0]) ?_ 1 _ rfl; (with_reducible repeat (first | refine za11 ?_ _ | refine za12 ?_ | refine za13 ?_ _)); refine blk_put (cs := #[.slice none 0 0, .int .i64 0]) ?_ 0 _ rfl; (with_reducible repeat (first | refine za11 ?_ _ | refine za12 ?_ | refine za13 ?_ _)); exact BK377.out) Try.underlying37 rfl (by kernel_rfl)) rfl ?_
 exact ⟨_, by first | rfl | (simp [errW_none, errW_some] <;> rfl) | (simp [*, errW_none, errW_some] <;> rfl), by (with_reducible repeat (first | apply za5 | apply za4 | apply za6)); exact za21 (Kd.R_far (p := ⟨gb377, 1, none⟩) (Kd.R_far (p := ⟨gb377, 0, none⟩) (Kd.R_types HO380.out BK377.out (by decide)) (fun _ hk => hk.2) (.slice Ao5 y378.length co5)) (fun _ hk => hk.2) (.int .i64 1)) (fun _ hk => trivial), by repeat (first | (with_reducible first | exact HB.out | apply za14 | apply za7 | apply za9 | refine za8 ?_ GE377.out) | exact HB.out)⟩

end Go.Proofs.Ytanogkaledgecaa.PFnThresholds
