/- The machine's side of a law: what its Go functions compute, as Lean functions, and the walks that show it; laid by this session's program (wip/tools) out of the translation. Conditions: those of each theorem. -/
import Derived.Test.YtanogkaledgecaaPFnThresholdsx0
import Derived.Test.YtanogkaledgecaaPFnThresholdsx3
namespace Go.Proofs.Ytanogkaledgecaa.PFnThresholds
open Go.RowKit Go.Proofs.YtanogkaledgecaaW.PrintWords Go.Proofs.YtanogkaledgecaaW.PrintLast Go.Proofs.YtanogkaledgecaaW.PrintMore
attribute [local go_sem] max2_int min2_int max_two min_two max_three min_three max_four min_four   -- for this text's walks alone
set_option linter.unusedVariables false
set_option linter.unusedSimpArgs false

/-! ### impl_IsSigBy: function 28 -/
def impl_IsSigBy.f (k : Nat) (a0_0 : Int) (a0_1 : Int) (l1 : List Int) : Option (Bool) := (impl_isKey.f a0_0).bind fun t247 => (if t247 = true then ((impl_TagOf.f k a0_0 l1).bind fun t248 => (some (a0_1 == t248))) else (some false))
theorem impl_IsSigBy.mono : ∀ a0 a1 a2 k, LeO (impl_IsSigBy.f k a0 a1 a2) (impl_IsSigBy.f (k + 1) a0 a1 a2) := by
  intro a0 a1 a2 k
  unfold impl_IsSigBy.f
  repeat' first
      | (with_reducible exact impl_TagOf.mono _ _ _)
      | (with_reducible exact LeO.refl _)
      | (with_reducible exact za34 _)
      | (with_reducible refine za33 ?_ ?_)
      | (with_reducible refine za32 ?_ (fun _ => ?_))
      | exact impl_TagOf.mono _ _ _
      | exact za34 _
      | refine za33 ?_ ?_
      | refine za32 ?_ (fun _ => ?_)
def impl_IsSigBy.T1 : Bool × List (List Nat × List Nat) := (true, [([], []), ([0], [0]), ([1], [1]), ([2, 2], [2]), ([3], [3]), ([4, 3], [3, 4]), ([3], [3]), ([6, 3], [3, 6]), ([3], [3]), ([7, 8, 3, 3], [3, 7, 8]), ([5, 9, 3], [3, 5, 9]), ([3, 10], [3, 10]), ([11, 9, 0, 1, 2, 3, 4, 5, 6, 7, 8, 9, 10, 11], [11])])
def impl_IsSigBy.B1 : List Nat := [0, 1, 3, 7, 15, 31, 15, 79, 15, 463, 1023, 2047, 4095]
theorem impl_IsSigBy.tab1 : rtab .any (opsOf Try.f28 1) = impl_IsSigBy.T1 := by kernel_rfl
theorem impl_IsSigBy.bits1 : waitsOk impl_IsSigBy.T1.2 impl_IsSigBy.B1 = true := by kernel_rfl
set_option maxHeartbeats 8000000 in
set_option maxRecDepth 100000 in
theorem impl_IsSigBy.calls (k : Nat) (a0_0 : Int) (a0_1 : Int) (A1 : Option Addr) (c1 : Nat) (l1 : List Int) (r : Bool) (w : World) (hr1 : Kd.C (Kd.int .i64) w A1 l1.length l1) (hc1 : l1.length ≤ c1) (h : impl_IsSigBy.f k a0_0 a0_1 l1 = some r) :
  Calls Try.prog 28 #[.agg #[.int .i64 a0_0, .int .i64 a0_1], .slice A1 l1.length c1] w fun e w' => e = .returned (.bool r) ∧ Below w.heap.size w w' := by
 have hu46 := Try.underlying46
 have HR1 := za1 hr1
 have HC1 := za1 hc1
 clear hr1 hc1
 have HB := za1 (Below.refl w.heap.size w)
 have H : ((impl_isKey.f a0_0).bind fun t247 => (if t247 = true then ((impl_TagOf.f k a0_0 l1).bind fun t248 => (some (a0_1 == t248))) else (some false))) = some r := h
 clear h
 replace H := za16.mp H
 obtain ⟨t247, A30, H⟩ := H
 replace H : (if t247 = true then ((impl_TagOf.f k a0_0 l1).bind fun t248 => (some (a0_1 == t248))) else (some false)) = some r := H
 have A3 := za1 A30
 clear A30
 by_cases c4 : t247 = true
 ·subst c4
  have H1 : ((impl_TagOf.f k a0_0 l1).bind fun t248 => (some (a0_1 == t248))) = some r := by rw [if_pos rfl] at H; exact H
  clear H
  have H := H1
  clear H1
  replace H := za16.mp H
  obtain ⟨t248, A50, H⟩ := H
  replace H : (some (a0_1 == t248)) = some r := H
  have A5 := za1 A50
  clear A50
  obtain rfl := za37 H
  go_enter Try.func28, Try.ntmps28
  try go_wp2_with (first | ((with_reducible refine gate_dst (N := 2) rfl ?_); refine box_event ?hg (N := 2) ?hd (cs := #[.int .i64 a0_0, .int .i64 a0_1]) (t := 46) ?hr ?_; (case hd => rfl); (case hg => rfl); (case hr => first | (go_simp; done) | (go_simp; rfl)); intro gb246 hg w6 hbox hb; have n0_ := za1 (za28 (by repeat (first | (with_reducible first | exact HB.out | apply za14 | apply za7 | apply za9) | exact HB.out)) hb); have n1_ := za1 (hbox); have n2_ := za1 ((by rw [hg]; exact (za29 (by repeat (first | (with_reducible first | exact HB.out | apply za14 | apply za7 | apply za9) | exact HB.out))) : w.heap.size ≤ gb246)); have n3_ := za1 ((by rw [hg]; exact (za29 (by repeat (first | (with_reducible first | exact HB.out | apply za14 | apply za7 | apply za9) | exact HB.out))) : w.heap.size ≤ gb246)); clear HB; have HB := n0_; have BK246 := n1_; have GW246 := n2_; have GE246 := n3_; clear n0_ n1_ n2_ n3_; clear hb hbox hg))
  have n0_ := za1 (za12 BK246.out)
  have n1_ := za1 (za9 HB.out)
  clear BK246
  clear HB
  have BK246 := n0_
  have HB := n1_
  clear n0_ n1_
  refine start_ (n := 13) (S := fun w' => w'.cell? ⟨gb246, 0, none⟩ = some (.int .i64 a0_0) ∧ w'.cell? ⟨gb246, 1, none⟩ = some (.int .i64 a0_1)) (ds := []) #[false, false, false, false, false, false, false, false, false, false, false, false, false] (by kernel_rfl) rfl rfl ⟨(za15 BK246.out 0).trans rfl, (za15 BK246.out 1).trans rfl⟩ (fun hHeld => ?_); refine with_tabW impl_IsSigBy.tab1 impl_IsSigBy.bits1 (fun HT_ HW_ => ?_)
  generalize w6.drew = w7 at BK246 HB hHeld ⊢
  refine pure_ (i := 0) (N := some 5) (v := ?_) (a' := ?_) #[true, false, false, false, false, false, false, false, false, false, false, false, false] rfl rfl (za25 HT_.out (by kernel_rfl)) (fun _ _ _ h => h) (Or.inl ⟨by rfl, ?_⟩) ?_ ?_
  rotate_left
  ·intro w'
   go_simp
   with_reducible rfl
  rotate_left
  ·simp only [Act.put, za0, za2, za3, i64_w, i32_w]
   rfl
  refine take_ (i := 1) (N := some 6) (v := ?_) (a' := ?_) #[true, true, false, false, false, false, false, false, false, false, false, false, false] rfl rfl (take_ofW HT_.out HW_.out (by kernel_rfl)) (fun _ _ _ h => h) (Or.inl ⟨by rfl, ?_⟩) hHeld ?_ ?_
  rotate_left
  ·rintro w' ⟨s0, s1⟩
   go_simp
   with_reducible rfl
  rotate_left
  ·simp only [Act.put, za0, za2, za3, i64_w, i32_w]
   rfl
  refine one_ (i := 2) (N := some 7) #[true, true, true, false, false, false, false, false, false, false, false, false, false] rfl rfl (one_of HT_.out (by kernel_rfl)) (by decide) (fun K hK => ?_)
  refine goes_ Try.func55 (by kernel_rfl) rfl #[.int .i64 a0_0] (by rfl) rfl rfl (by (try simp only [za18, za26, za27]); first | done | rfl | (simp only [za20, za19]; rfl)) ?_
  with_reducible refine (impl_isKey.calls a0_0 true _ A3.out).mono ?_
  rintro e w' ⟨rfl, ⟨nd, rfl⟩⟩
  refine ⟨_, rfl, ?_⟩
  refine hK.out _ _ ⟨(za15 BK246.out 0).trans rfl, (za15 BK246.out 1).trans rfl⟩ (fun hHeld => ?_)
  clear hK K
  refine norm_ (a' := ?_) ?_ ?_
  rotate_left
  ·show Act.put _ (some 7) _ = _
   simp only [Act.put, za0, za2, za3, i64_w, i32_w]
   rfl
  refine pure_ (i := 3) (N := some 8) (v := ?_) (a' := ?_) #[true, true, true, true, false, false, false, false, false, false, false, false, false] rfl rfl (za25 HT_.out (by kernel_rfl)) (fun _ _ _ h => h) (Or.inl ⟨by rfl, ?_⟩) ?_ ?_
  rotate_left
  ·intro w'
   go_simp
   with_reducible rfl
  rotate_left
  ·simp only [Act.put, za0, za2, za3, i64_w, i32_w]
   rfl
  refine pure_ (i := 4) (N := some 9) (v := ?_) (a' := ?_) #[true, true, true, true, true, false, false, false, false, false, false, false, false] rfl rfl (za25 HT_.out (by kernel_rfl)) (fun _ _ _ h => h) (Or.inl ⟨by rfl, ?_⟩) ?_ ?_
  rotate_left
  ·intro w'
   go_simp
   with_reducible rfl
  rotate_left
  ·simp only [Act.put, za0, za2, za3, i64_w, i32_w]
   rfl
  refine pure_ (i := 6) (N := some 11) (v := ?_) (a' := ?_) #[true, true, true, true, true, false, true, false, false, false, false, false, false] rfl rfl (za25 HT_.out (by kernel_rfl)) (fun _ _ _ h => h) (Or.inl ⟨by rfl, ?_⟩) ?_ ?_
  rotate_left
  ·intro w'
   go_simp
   with_reducible rfl
  rotate_left
  ·simp only [Act.put, za0, za2, za3, i64_w, i32_w]
   rfl
  refine pure_ (i := 8) (N := some 13) (v := ?_) (a' := ?_) #[true, true, true, true, true, false, true, false, true, false, false, false, false] rfl rfl (za25 HT_.out (by kernel_rfl)) (fun _ _ _ h => h) (Or.inl ⟨by rfl, ?_⟩) ?_ ?_
  rotate_left
  ·intro w'
   go_simp
   with_reducible rfl
  rotate_left
  ·simp only [Act.put, za0, za2, za3, i64_w, i32_w]
   rfl
  refine take_ (i := 5) (N := some 10) (v := ?_) (a' := ?_) #[true, true, true, true, true, true, true, false, true, false, false, false, false] rfl rfl (take_ofW HT_.out HW_.out (by kernel_rfl)) (fun _ _ _ h => h) (Or.inl ⟨by rfl, ?_⟩) hHeld ?_ ?_
  rotate_left
  ·rintro w' ⟨s0, s1⟩
   go_simp
   with_reducible rfl
  rotate_left
  ·simp only [Act.put, za0, za2, za3, i64_w, i32_w]
   rfl
  refine take_ (i := 7) (N := some 12) (v := ?_) (a' := ?_) #[true, true, true, true, true, true, true, true, true, false, false, false, false] rfl rfl (take_ofW HT_.out HW_.out (by kernel_rfl)) (fun _ _ _ h => h) (Or.inl ⟨by rfl, ?_⟩) hHeld ?_ ?_
  rotate_left
  ·rintro w' ⟨s0, s1⟩
   go_simp
   with_reducible rfl
  rotate_left
  ·simp only [Act.put, za0, za2, za3, i64_w, i32_w]
   rfl
  refine one_ (i := 9) (N := some 14) #[true, true, true, true, true, true, true, true, true, true, false, false, false] rfl rfl (one_of HT_.out (by kernel_rfl)) (by decide) (fun K hK => ?_)
  refine goes_ Try.func31 (by kernel_rfl) rfl #[.int .i64 a0_0, .slice A1 l1.length c1] (by rfl) rfl rfl (by (try simp only [za18, za26, za27]); first | done | rfl | (simp only [za20, za19]; rfl)) ?_
  with_reducible refine (impl_TagOf.calls k a0_0 _ _ l1 t248 _ ?side1 ?side2 A5.out).mono ?_
  (case side1 => repeat (first | exact (za30 HR1.out (by repeat (first | (with_reducible first | exact HB.out | apply za14 | apply za7 | apply za9 | refine za8 ?_ GE246.out) | exact HB.out))) | (with_reducible refine za24 ?_ _) | (with_reducible refine za22 ?_ _) | (with_reducible refine za23 ?_)))
  (case side2 => exact HC1.out)
  rintro e w8 ⟨rfl, hb⟩
  refine ⟨_, rfl, ?_⟩
  have n0_ := za1 (za17 (g := gb246) (o := .cells #[.int .i64 a0_0, .int .i64 a0_1] 46 (0, 0)) (by (with_reducible repeat (first | refine za11 ?_ _ | refine za12 ?_ | refine za13 ?_ _)); exact BK246.out) hb)
  have n1_ := za1 (za28 (by repeat (first | (with_reducible first | exact HB.out | apply za14 | apply za7 | apply za9 | refine za8 ?_ GE246.out) | exact HB.out)) hb)
  clear BK246
  clear HB
  have BK246 := n0_
  have HB := n1_
  clear n0_ n1_
  (try clear hb)
  (try clear hb2)
  (try clear hk)
  (try clear hi)
  refine hK.out _ _ ⟨(za15 BK246.out 0).trans rfl, (za15 BK246.out 1).trans rfl⟩ (fun hHeld => ?_)
  clear hK K
  refine norm_ (a' := ?_) ?_ ?_
  rotate_left
  ·show Act.put _ (some 14) _ = _
   simp only [Act.put, za0, za2, za3, i64_w, i32_w]
   rfl
  refine pure_ (i := 10) (N := some 15) (v := ?_) (a' := ?_) #[true, true, true, true, true, true, true, true, true, true, true, false, false] rfl rfl (za25 HT_.out (by kernel_rfl)) (fun _ _ _ h => h) (Or.inl ⟨by rfl, ?_⟩) ?_ ?_
  rotate_left
  ·intro w'
   go_simp
   with_reducible rfl
  rotate_left
  ·simp only [Act.put, za0, za2, za3, i64_w, i32_w]
   rfl
  refine pure_ (i := 11) (N := some 16) (v := ?_) (a' := ?_) #[true, true, true, true, true, true, true, true, true, true, true, true, false] rfl rfl (za25 HT_.out (by kernel_rfl)) (fun _ _ _ h => h) (Or.inl ⟨by rfl, ?_⟩) ?_ ?_
  rotate_left
  ·intro w'
   go_simp
   with_reducible rfl
  rotate_left
  ·simp only [Act.put, za0, za2, za3, i64_w, i32_w]
   rfl
  refine pure_ (i := 12) (N := some 4) (v := ?_) (a' := ?_) #[true, true, true, true, true, true, true, true, true, true, true, true, true] rfl rfl (za25 HT_.out (by kernel_rfl)) (fun _ _ _ h => h) (Or.inl ⟨by rfl, ?_⟩) ?_ ?_
  rotate_left
  ·intro w'
   go_simp
   with_reducible rfl
  rotate_left
  ·simp only [Act.put, za0, za2, za3, i64_w, i32_w]
   rfl
  refine done_ (done_of HT_.out (by kernel_rfl)) ?_
  try go_wp2
  go_ret
  exact ⟨by first | rfl | (simp [errW_none, errW_some] <;> rfl) | (simp [*, errW_none, errW_some] <;> rfl), by repeat (first | (with_reducible first | exact HB.out | apply za14 | apply za7 | apply za9 | refine za8 ?_ GE246.out) | exact HB.out)⟩
 ·replace c4 := Bool.eq_false_iff.mpr c4
  subst c4
  have H1 : (some false) = some r := by rw [if_neg (show ¬ (false = true) by decide)] at H; exact H
  clear H
  have H := H1
  clear H1
  obtain rfl := za37 H
  go_enter Try.func28, Try.ntmps28
  try go_wp2_with (first | ((with_reducible refine gate_dst (N := 2) rfl ?_); refine box_event ?hg (N := 2) ?hd (cs := #[.int .i64 a0_0, .int .i64 a0_1]) (t := 46) ?hr ?_; (case hd => rfl); (case hg => rfl); (case hr => first | (go_simp; done) | (go_simp; rfl)); intro gb246 hg w9 hbox hb; have n0_ := za1 (za28 (by repeat (first | (with_reducible first | exact HB.out | apply za14 | apply za7 | apply za9) | exact HB.out)) hb); have n1_ := za1 (hbox); have n2_ := za1 ((by rw [hg]; exact (za29 (by repeat (first | (with_reducible first | exact HB.out | apply za14 | apply za7 | apply za9) | exact HB.out))) : w.heap.size ≤ gb246)); have n3_ := za1 ((by rw [hg]; exact (za29 (by repeat (first | (with_reducible first | exact HB.out | apply za14 | apply za7 | apply za9) | exact HB.out))) : w.heap.size ≤ gb246)); clear HB; have HB := n0_; have BK246 := n1_; have GW246 := n2_; have GE246 := n3_; clear n0_ n1_ n2_ n3_; clear hb hbox hg))
  have n0_ := za1 (za12 BK246.out)
  have n1_ := za1 (za9 HB.out)
  clear BK246
  clear HB
  have BK246 := n0_
  have HB := n1_
  clear n0_ n1_
  refine start_ (n := 13) (S := fun w' => w'.cell? ⟨gb246, 0, none⟩ = some (.int .i64 a0_0) ∧ w'.cell? ⟨gb246, 1, none⟩ = some (.int .i64 a0_1)) (ds := []) #[false, false, false, false, false, false, false, false, false, false, false, false, false] (by kernel_rfl) rfl rfl ⟨(za15 BK246.out 0).trans rfl, (za15 BK246.out 1).trans rfl⟩ (fun hHeld => ?_); refine with_tabW impl_IsSigBy.tab1 impl_IsSigBy.bits1 (fun HT_ HW_ => ?_)
  generalize w9.drew = w10 at BK246 HB hHeld ⊢
  refine pure_ (i := 0) (N := some 5) (v := ?_) (a' := ?_) #[true, false, false, false, false, false, false, false, false, false, false, false, false] rfl rfl (za25 HT_.out (by kernel_rfl)) (fun _ _ _ h => h) (Or.inl ⟨by rfl, ?_⟩) ?_ ?_
  rotate_left
  ·intro w'
   go_simp
   with_reducible rfl
  rotate_left
  ·simp only [Act.put, za0, za2, za3, i64_w, i32_w]
   rfl
  refine take_ (i := 1) (N := some 6) (v := ?_) (a' := ?_) #[true, true, false, false, false, false, false, false, false, false, false, false, false] rfl rfl (take_ofW HT_.out HW_.out (by kernel_rfl)) (fun _ _ _ h => h) (Or.inl ⟨by rfl, ?_⟩) hHeld ?_ ?_
  rotate_left
  ·rintro w' ⟨s0, s1⟩
   go_simp
   with_reducible rfl
  rotate_left
  ·simp only [Act.put, za0, za2, za3, i64_w, i32_w]
   rfl
  refine one_ (i := 2) (N := some 7) #[true, true, true, false, false, false, false, false, false, false, false, false, false] rfl rfl (one_of HT_.out (by kernel_rfl)) (by decide) (fun K hK => ?_)
  refine goes_ Try.func55 (by kernel_rfl) rfl #[.int .i64 a0_0] (by rfl) rfl rfl (by (try simp only [za18, za26, za27]); first | done | rfl | (simp only [za20, za19]; rfl)) ?_
  with_reducible refine (impl_isKey.calls a0_0 false _ A3.out).mono ?_
  rintro e w' ⟨rfl, ⟨nd, rfl⟩⟩
  refine ⟨_, rfl, ?_⟩
  refine hK.out _ _ ⟨(za15 BK246.out 0).trans rfl, (za15 BK246.out 1).trans rfl⟩ (fun hHeld => ?_)
  clear hK K
  refine norm_ (a' := ?_) ?_ ?_
  rotate_left
  ·show Act.put _ (some 7) _ = _
   simp only [Act.put, za0, za2, za3, i64_w, i32_w]
   rfl
  refine pure_ (i := 3) (N := some 8) (v := ?_) (a' := ?_) #[true, true, true, true, false, false, false, false, false, false, false, false, false] rfl rfl (za25 HT_.out (by kernel_rfl)) (fun _ _ _ h => h) (Or.inl ⟨by rfl, ?_⟩) ?_ ?_
  rotate_left
  ·intro w'
   go_simp
   with_reducible rfl
  rotate_left
  ·simp only [Act.put, za0, za2, za3, i64_w, i32_w]
   rfl
  refine pure_ (i := 4) (N := some 9) (v := undef) (a' := ?_) #[true, true, true, true, true, false, false, false, false, false, false, false, false] rfl rfl (za25 HT_.out (by kernel_rfl)) (fun _ _ _ h => h) (Or.inr ⟨by rfl, rfl⟩) ?_ ?_
  rotate_left
  ·simp only [Act.put, za0, za2, za3, i64_w, i32_w]
   rfl
  refine pure_ (i := 5) (N := some 10) (v := undef) (a' := ?_) #[true, true, true, true, true, true, false, false, false, false, false, false, false] rfl rfl (za25 HT_.out (by kernel_rfl)) (fun _ _ _ h => h) (Or.inr ⟨by rfl, rfl⟩) ?_ ?_
  rotate_left
  ·simp only [Act.put, za0, za2, za3, i64_w, i32_w]
   rfl
  refine pure_ (i := 6) (N := some 11) (v := undef) (a' := ?_) #[true, true, true, true, true, true, true, false, false, false, false, false, false] rfl rfl (za25 HT_.out (by kernel_rfl)) (fun _ _ _ h => h) (Or.inr ⟨by rfl, rfl⟩) ?_ ?_
  rotate_left
  ·simp only [Act.put, za0, za2, za3, i64_w, i32_w]
   rfl
  refine pure_ (i := 7) (N := some 12) (v := undef) (a' := ?_) #[true, true, true, true, true, true, true, true, false, false, false, false, false] rfl rfl (za25 HT_.out (by kernel_rfl)) (fun _ _ _ h => h) (Or.inr ⟨by rfl, rfl⟩) ?_ ?_
  rotate_left
  ·simp only [Act.put, za0, za2, za3, i64_w, i32_w]
   rfl
  refine pure_ (i := 8) (N := some 13) (v := undef) (a' := ?_) #[true, true, true, true, true, true, true, true, true, false, false, false, false] rfl rfl (za25 HT_.out (by kernel_rfl)) (fun _ _ _ h => h) (Or.inr ⟨by rfl, rfl⟩) ?_ ?_
  rotate_left
  ·simp only [Act.put, za0, za2, za3, i64_w, i32_w]
   rfl
  refine pure_ (i := 9) (N := some 14) (v := undef) (a' := ?_) #[true, true, true, true, true, true, true, true, true, true, false, false, false] rfl rfl (za25 HT_.out (by kernel_rfl)) (fun _ _ _ h => h) (Or.inr ⟨by rfl, rfl⟩) ?_ ?_
  rotate_left
  ·simp only [Act.put, za0, za2, za3, i64_w, i32_w]
   rfl
  refine pure_ (i := 10) (N := some 15) (v := undef) (a' := ?_) #[true, true, true, true, true, true, true, true, true, true, true, false, false] rfl rfl (za25 HT_.out (by kernel_rfl)) (fun _ _ _ h => h) (Or.inr ⟨by rfl, rfl⟩) ?_ ?_
  rotate_left
  ·simp only [Act.put, za0, za2, za3, i64_w, i32_w]
   rfl
  refine pure_ (i := 11) (N := some 16) (v := ?_) (a' := ?_) #[true, true, true, true, true, true, true, true, true, true, true, true, false] rfl rfl (za25 HT_.out (by kernel_rfl)) (fun _ _ _ h => h) (Or.inl ⟨by rfl, ?_⟩) ?_ ?_
  rotate_left
  ·intro w'
   go_simp
   with_reducible rfl
  rotate_left
  ·simp only [Act.put, za0, za2, za3, i64_w, i32_w]
   rfl
  refine pure_ (i := 12) (N := some 4) (v := ?_) (a' := ?_) #[true, true, true, true, true, true, true, true, true, true, true, true, true] rfl rfl (za25 HT_.out (by kernel_rfl)) (fun _ _ _ h => h) (Or.inl ⟨by rfl, ?_⟩) ?_ ?_
  rotate_left
  ·intro w'
   go_simp
   with_reducible rfl
  rotate_left
  ·simp only [Act.put, za0, za2, za3, i64_w, i32_w]
   rfl
  refine done_ (done_of HT_.out (by kernel_rfl)) ?_
  try go_wp2
  go_ret
  exact ⟨by first | rfl | (simp [errW_none, errW_some] <;> rfl) | (simp [*, errW_none, errW_some] <;> rfl), by repeat (first | (with_reducible first | exact HB.out | apply za14 | apply za7 | apply za9 | refine za8 ?_ GE246.out) | exact HB.out)⟩

/-! ### impl_CountSigs: function 24 -/
/-- Whether some signature is right for the key, asked in order. -/
def impl_CountSigs.one (k : Nat) (l1 : List Int) (key : Int) (s : S46) : Option Bool := if s.f0 = key then impl_IsSigBy.f k s.f0 s.f1 l1 else some false
def impl_CountSigs.has (k : Nat) (l1 : List Int) (key : Int) : List S46 → Option Bool
  | [] => some false
  | s :: l => (impl_CountSigs.one k l1 key s).bind fun b => if b = true then some true else impl_CountSigs.has k l1 key l
def impl_CountSigs.cnt (k : Nat) (l1 : List Int) (l2 : List S46) : List Int → Int → Option Int
  | [], n => some n
  | key :: t, n => (impl_CountSigs.has k l1 key l2).bind fun b => impl_CountSigs.cnt k l1 l2 t (if b = true then wrap64 (n + 1) else n)
def impl_CountSigs.f (k : Nat) (l0_0 : List Int) (a0_1 : Int) (l1 : List Int) (l2 : List S46) : Option Int := if l2.length ≤ 17592186044416 ∧ l0_0.length ≤ 17592186044416 then impl_CountSigs.cnt k l1 l2 l0_0 0 else none
theorem impl_CountSigs.one_mono (k : Nat) (l1 : List Int) (key : Int) (s : S46) : LeO (impl_CountSigs.one k l1 key s) (impl_CountSigs.one (k + 1) l1 key s) := by
  unfold impl_CountSigs.one
  exact za33 (impl_IsSigBy.mono _ _ _ _) (LeO.refl _)
theorem impl_CountSigs.has_mono (k : Nat) (l1 : List Int) (key : Int) : ∀ l, LeO (impl_CountSigs.has k l1 key l) (impl_CountSigs.has (k + 1) l1 key l)
  | [] => LeO.refl _
  | s :: l => za32 (impl_CountSigs.one_mono _ _ _ _) (fun _ => za33 (LeO.refl _) (impl_CountSigs.has_mono k l1 key l))
theorem impl_CountSigs.cnt_mono (k : Nat) (l1 : List Int) (l2 : List S46) : ∀ l n, LeO (impl_CountSigs.cnt k l1 l2 l n) (impl_CountSigs.cnt (k + 1) l1 l2 l n)
  | [], _ => LeO.refl _
  | key :: l, n => za32 (impl_CountSigs.has_mono k l1 key l2) (fun _ => impl_CountSigs.cnt_mono k l1 l2 l _)
theorem impl_CountSigs.mono : ∀ a0 a1 a2 a3 k, LeO (impl_CountSigs.f k a0 a1 a2 a3) (impl_CountSigs.f (k + 1) a0 a1 a2 a3) := by
  intro a0 a1 a2 a3 k
  unfold impl_CountSigs.f
  exact za33 (impl_CountSigs.cnt_mono _ _ _ _ _) (za34 _)
set_option maxHeartbeats 8000000 in
set_option maxRecDepth 100000 in
/-- The predicate. -/
theorem impl_CountSigs.clo (k : Nat) (A1 : Option Addr) (c1 : Nat) (l1 : List Int) (key : Int) (s0 s1 : Int) (b : Bool) (kb mb : Nat) (w : World) (hr1 : Kd.C (Kd.int .i64) w A1 l1.length l1) (hc1 : l1.length ≤ c1)
    (hk : w.heap[kb]? = some (.cells #[.int .i64 key] 3 (0, 0))) (hm : w.heap[mb]? = some (.cells #[.slice A1 l1.length c1] 22 (0, 0))) (h : impl_CountSigs.one k l1 key ⟨s0, s1⟩ = some b) :
    Calls Try.prog 58 #[.agg #[.int .i64 s0, .int .i64 s1], .pointer (some ⟨kb, 0, none⟩), .pointer (some ⟨mb, 0, none⟩)] w fun e w' => e = .returned (.bool b) ∧ Below w.heap.size w w' := by
  have hu := Try.underlying46
  have HR1 := za1 hr1
  have HC1 := za1 hc1
  have HKB := za1 (blk_lt hk)
  have HMB := za1 (blk_lt hm)
  have HK := za1 ((za15 hk 0).trans rfl : w.cell? ⟨kb, 0, none⟩ = some (.int .i64 key))
  have HM := za1 ((za15 hm 0).trans rfl : w.cell? ⟨mb, 0, none⟩ = some (.slice A1 l1.length c1))
  clear hr1 hc1 hk hm
  unfold impl_CountSigs.one at h
  by_cases hq : s0 = key
  · have HQ : (s0 == key) = true := by simp [hq]
    have H : Aside0 (impl_IsSigBy.f k s0 s1 l1 = some b) := ⟨by rw [if_pos hq] at h; exact h⟩
    clear h hq
    go_enter Try.func58, Try.ntmps58
    go_wp2_with (first
      | ((with_reducible refine gate_dst (N := 3) rfl ?_); refine box_event ?hg (N := 3) ?hd (cs := #[.int .i64 s0, .int .i64 s1]) (t := 46) ?hr ?_; (case hd => rfl); (case hg => rfl); (case hr => first | (go_simp; done) | (go_simp; rfl)); intro gb hg w1 hbox hb; have hcs0 : w1.cell? ⟨gb, 0, none⟩ = some (.int .i64 s0) := (za15 hbox 0).trans rfl; have hcs1 : w1.cell? ⟨gb, 1, none⟩ = some (.int .i64 s1) := (za15 hbox 1).trans rfl; have hck := (hb.cell (p := ⟨kb, 0, none⟩) HKB.out).trans HK.out; have hcm := (hb.cell (p := ⟨mb, 0, none⟩) HMB.out).trans HM.out; have HB1 := za1 hb; clear hb hbox hg)
      | (go_at_call 28; go_loud (refine (impl_IsSigBy.calls k s0 s1 A1 c1 l1 b _ (za30 HR1.out (by repeat (first | exact HB1.out | apply za7 | apply za9))) HC1.out H.out).mono ?_); rintro e w2 ⟨rfl, hd⟩; have HB2 := za1 (below_then (by repeat (first | exact HB1.out | apply za7 | apply za9)) (by first | exact HB1.out.size | (simp; exact HB1.out.size)) hd); clear hd))
    go_ret
    exact ⟨rfl, by repeat (first | exact HB2.out | apply za7 | apply za9)⟩
  · have HQ : (s0 == key) = false := by simp [hq]
    obtain rfl : b = false := by
      rw [if_neg hq] at h
      exact (za37 h).symm
    clear h hq
    go_enter Try.func58, Try.ntmps58
    go_wp2_with ((with_reducible refine gate_dst (N := 3) rfl ?_); refine box_event ?hg (N := 3) ?hd (cs := #[.int .i64 s0, .int .i64 s1]) (t := 46) ?hr ?_; (case hd => rfl); (case hg => rfl); (case hr => first | (go_simp; done) | (go_simp; rfl)); intro gb hg w1 hbox hb; have hcs0 : w1.cell? ⟨gb, 0, none⟩ = some (.int .i64 s0) := (za15 hbox 0).trans rfl; have hcs1 : w1.cell? ⟨gb, 1, none⟩ = some (.int .i64 s1) := (za15 hbox 1).trans rfl; have hck := (hb.cell (p := ⟨kb, 0, none⟩) HKB.out).trans HK.out; have hcm := (hb.cell (p := ⟨mb, 0, none⟩) HMB.out).trans HM.out; have HB1 := za1 hb; clear hb hbox hg)
    go_ret
    exact ⟨rfl, by repeat (first | exact HB1.out | apply za7 | apply za9)⟩
set_option maxHeartbeats 8000000 in
set_option maxRecDepth 100000 in
theorem impl_CountSigs.index (k : Nat) (A1 : Option Addr) (c1 : Nat) (l1 : List Int) (key : Int) (kb mb : Nat) (A2 : Option Addr) (c2 : Nat) (l2 : List S46) (r : Bool) (w : World) (hr1 : Kd.C (Kd.int .i64) w A1 l1.length l1) (hc1 : l1.length ≤ c1)
    (hk : w.heap[kb]? = some (.cells #[.int .i64 key] 3 (0, 0))) (hm : w.heap[mb]? = some (.cells #[.slice A1 l1.length c1] 22 (0, 0))) (hr2 : Kd.C k46 w A2 l2.length l2) (hl : l2.length ≤ 17592186044416) (h : impl_CountSigs.has k l1 key l2 = some r) :
    Calls Try.prog 74 #[.slice A2 l2.length c2, .func (.func 58) #[] #[.pointer (some ⟨kb, 0, none⟩), .pointer (some ⟨mb, 0, none⟩)]] w fun e w' => ∃ v : Int, e = .returned (.int .i64 v) ∧ r = decide (0 ≤ v) ∧ Below w.heap.size w w' := by
  have hu := Try.underlying46
  have HR1 := za1 hr1
  have HC1 := za1 hc1
  have HR2 := za1 hr2
  have HK := za1 hk
  have HM := za1 hm
  have H0 := za1 h
  clear hr1 hc1 hr2 hk hm h
  have eg : ∀ args w, (callFunc 58 args).run Try.prog w = .ok (.enter 58 args) w := enters_of Try.func58 (by kernel_rfl) rfl
  go_enter Try.func74, Try.ntmps74
  go_wp2
  go_loopw [5, 8] (fun v i wr => ∃ j : Nat, j ≤ l2.length ∧ i = .int .i64 (j : Int) ∧ Aside0 (impl_CountSigs.has k l1 key (l2.drop j) = some r) ∧ Aside0 (Below w.heap.size w wr)) (fun _ i _ => l2.length - (intOf i).toNat)
  case atStart => exact ⟨0, Nat.zero_le _, rfl, H0, ⟨Below.refl _ _⟩⟩
  case round =>
    obtain ⟨j, hj, rfl, HA, HB⟩ := hrel
    by_cases hlt : j < l2.length
    · obtain ⟨ad, hA, hcell0, hcell1⟩ := at_T46 (za30 HR2.out HB.out) (j : Int) (by omega) (by omega)
      have hrd : rd_T46 l2 (j : Int) = l2[j] := by simp [rd_T46, List.getD, hlt]
      rw [hrd, Int.toNat_natCast] at hcell0 hcell1
      subst hA
      have hz := HA.out
      rw [List.drop_eq_getElem_cons hlt, impl_CountSigs.has] at hz
      obtain ⟨b, hb, hz2⟩ : ∃ b, impl_CountSigs.one k l1 key l2[j] = some b ∧ (if b = true then some true else impl_CountSigs.has k l1 key (l2.drop (j + 1))) = some r := by
        obtain ⟨b, hb, hz⟩ := za16.1 hz
        exact ⟨b, hb, hz⟩
      have HK1 := za1 ((HB.out.block kb (blk_lt HK.out)).trans HK.out)
      have HM1 := za1 ((HB.out.block mb (blk_lt HM.out)).trans HM.out)
      have HR11 := za1 (za30 HR1.out HB.out)
      have HLB := za1 hb
      have HZ := za1 hz2
      clear hz hz2 hb hrd HA
      generalize l2[j] = s at hcell0 hcell1 HLB
      obtain ⟨s0, s1⟩ := s
      cases b with
      | true =>
        go_wp2_with (go_at_fn 58; go_loud (refine (impl_CountSigs.clo k A1 c1 l1 key s0 s1 true kb mb _ HR11.out HC1.out HK1.out HM1.out HLB.out).mono ?_); rintro e w1 ⟨rfl, hd⟩; have HB2 := za1 (below_then HB.out HB.out.size hd); clear hd)
        go_ret
        have hr : r = true := by
          have z := HZ.out
          simp at z
          first | exact z | exact z.symm
        exact ⟨(j : Int), rfl, by rw [hr]; simp, HB2.out⟩
      | false =>
        go_wp2_with (go_at_fn 58; go_loud (refine (impl_CountSigs.clo k A1 c1 l1 key s0 s1 false kb mb _ HR11.out HC1.out HK1.out HM1.out HLB.out).mono ?_); rintro e w1 ⟨rfl, hd⟩; have HB2 := za1 (below_then HB.out HB.out.size hd); clear hd)
        go_roundw
        case rel => exact ⟨j + 1, by omega, by go_num, ⟨by simpa using HZ.out⟩, HB2⟩
        case measure => simp [intOf]; omega
    · obtain rfl : j = l2.length := by omega
      have hf : r = false := by
        have z := HA.out
        rw [List.drop_length] at z
        exact (za37 z).symm
      go_wp2
      go_ret
      exact ⟨-1, rfl, by rw [hf]; rfl, HB.out⟩
set_option maxHeartbeats 8000000 in
set_option maxRecDepth 100000 in
theorem impl_CountSigs.contains (k : Nat) (A1 : Option Addr) (c1 : Nat) (l1 : List Int) (key : Int) (kb mb : Nat) (A2 : Option Addr) (c2 : Nat) (l2 : List S46) (r : Bool) (w : World) (hr1 : Kd.C (Kd.int .i64) w A1 l1.length l1) (hc1 : l1.length ≤ c1)
    (hk : w.heap[kb]? = some (.cells #[.int .i64 key] 3 (0, 0))) (hm : w.heap[mb]? = some (.cells #[.slice A1 l1.length c1] 22 (0, 0))) (hr2 : Kd.C k46 w A2 l2.length l2) (hl : l2.length ≤ 17592186044416) (h : impl_CountSigs.has k l1 key l2 = some r) :
    Calls Try.prog 57 #[.slice A2 l2.length c2, .func (.func 58) #[] #[.pointer (some ⟨kb, 0, none⟩), .pointer (some ⟨mb, 0, none⟩)]] w fun e w' => e = .returned (.bool r) ∧ Below w.heap.size w w' := by
  have K := impl_CountSigs.index k A1 c1 l1 key kb mb A2 c2 l2 r w hr1 hc1 hk hm hr2 hl h
  clear hr1 hc1 hk hm hr2 hl h
  go_enter Try.func57, Try.ntmps57
  go_wp2_with fail
  refine K.mono ?_
  rintro e w1 ⟨v, rfl, hv, hd⟩
  have HB := za1 hd
  have HV := za1 hv
  clear hd hv K
  go_wp2
  go_ret
  exact ⟨by rw [HV.out]; rfl, HB.out⟩
set_option maxHeartbeats 8000000 in
set_option maxRecDepth 100000 in
theorem impl_CountSigs.calls (k : Nat) (A0_0 : Option Addr) (c0_0 : Nat) (l0_0 : List Int) (a0_1 : Int) (A1 : Option Addr) (c1 : Nat) (l1 : List Int) (A2 : Option Addr) (c2 : Nat) (l2 : List (S46)) (r : Int) (w : World) (hr0_0 : Kd.C (Kd.int .i64) w A0_0 l0_0.length l0_0) (hc0_0 : l0_0.length ≤ c0_0) (hr1 : Kd.C (Kd.int .i64) w A1 l1.length l1) (hc1 : l1.length ≤ c1) (hr2 : Kd.C k46 w A2 l2.length l2) (hc2 : l2.length ≤ c2) (h : impl_CountSigs.f k l0_0 a0_1 l1 l2 = some r) :
  Calls Try.prog 24 #[.agg #[.slice A0_0 l0_0.length c0_0, .int .i64 a0_1], .slice A1 l1.length c1, .slice A2 l2.length c2] w fun e w' => e = .returned (.int .i64 r) ∧ Below w.heap.size w w' := by
 obtain ⟨⟨hl2, hl0⟩, h⟩ : (l2.length ≤ 17592186044416 ∧ l0_0.length ≤ 17592186044416) ∧ impl_CountSigs.cnt k l1 l2 l0_0 0 = some r := by
  unfold impl_CountSigs.f at h
  split at h
  ·exact ⟨‹_›, h⟩
  ·cases h
 have hu24 := Try.underlying37
 have hu49 := Try.underlying46
 have HR0 := za1 hr0_0
 have HR1 := za1 hr1
 have HC1 := za1 hc1
 have HR2 := za1 hr2
 have HL2 := za1 hl2
 have H0 := za1 h
 clear hr0_0 hc0_0 hr1 hc1 hr2 hc2 h hl2
 go_enter Try.func24, Try.ntmps24
 go_wp2_with (first
  | ((with_reducible refine gate_dst (N := 3) rfl ?_); refine box_event ?hg (N := 3) ?hd (cs := #[.slice A0_0 l0_0.length c0_0, .int .i64 a0_1]) (t := 37) ?hr ?_; (case hd => rfl); (case hg => rfl); (case hr => first | (go_simp; done) | (go_simp; rfl)); intro gk hgk w1 hbk hb; have HG := za1 hgk; have HBK := za1 hbk; have HB1 := za1 hb; clear hb hbk hgk)
  | ((with_reducible refine gate_dst (N := 4) rfl ?_); refine box_event ?hg (N := 4) ?hd (cs := #[.slice A1 l1.length c1]) (t := 22) ?hr ?_; (case hd => rfl); (case hg => rfl); (case hr => first | (go_simp; done) | (go_simp; rfl)); intro gm hgm w2 hbm hb; have HB2 := za1 (below_then HB1.out HB1.out.size hb); have HMB := za1 hbm; have hbk2 := (hb.block gk (blk_lt HBK.out)).trans HBK.out; have hkc0 : w2.cell? ⟨gk, 0, none⟩ = some (.slice A0_0 l0_0.length c0_0) := (za15 hbk2 0).trans rfl; clear hb hbm hgm hbk2))
 go_loopw [7, 13] (fun v i wr => ∃ (j : Nat) (n : Int), j ≤ l0_0.length ∧ i = .int .i64 (j : Int) ∧ v = .int .i64 n ∧ Aside0 (impl_CountSigs.cnt k l1 l2 (l0_0.drop j) n = some r) ∧ Aside0 (wr.heap[gm]? = some (.cells #[.slice A1 l1.length c1] 22 (0, 0))) ∧ Aside0 (Below w.heap.size w wr)) (fun _ i _ => l0_0.length - (intOf i).toNat)
 case atStart => exact ⟨0, 0, Nat.zero_le _, rfl, rfl, H0, HMB, HB2⟩
 case round =>
  clear HMB HB2 hkc0
  obtain ⟨j, n, hj, rfl, rfl, HA, HM, HB⟩ := hrel
  by_cases hlt : j < l0_0.length
  ·obtain ⟨ad, hA, hcell⟩ := Kd.at_int (za30 HR0.out HB.out) (j : Int) (by omega) (by omega)
   have hrd : rd l0_0 (j : Int) = l0_0[j] := by simp [rd, List.getD, hlt]
   rw [hrd, Int.toNat_natCast] at hcell
   subst hA
   have hz := HA.out
   rw [List.drop_eq_getElem_cons hlt, impl_CountSigs.cnt] at hz
   generalize l0_0[j] = key at hcell hz
   obtain ⟨b, hb, hz2⟩ : ∃ b, impl_CountSigs.has k l1 key l2 = some b ∧ impl_CountSigs.cnt k l1 l2 (l0_0.drop (j + 1)) (if b = true then wrap64 (n + 1) else n) = some r := by
    obtain ⟨b, hb, hz⟩ := za16.1 hz
    exact ⟨b, hb, hz⟩
   have HLB := za1 hb
   have HZ := za1 hz2
   have HADL := za1 (World.block_lt_of_cell? wr _ hcell)
   have HCELL := za1 hcell
   clear hz hz2 hb hrd HA
   cases b with
   | true =>
    go_wp2_with (first
     | ((with_reducible refine gate_dst (N := 9) rfl ?_); refine box_event ?hg (N := 9) ?hd (cs := #[.int .i64 0]) (t := 3) ?hr ?_; (case hd => rfl); (case hg => rfl); (case hr => first | (go_simp; done) | (go_simp; rfl)); intro gq hgq w3 hbq hb; have hcell3 := (hb.cell (p := ad.add j) HADL.out).trans HCELL.out; have hq0 : w3.cell? ⟨gq, 0, none⟩ = some (.int .i64 0) := (za15 hbq 0).trans rfl; have hqf := blk_frozen hbq 0; have HB3 := za1 (below_then HB.out HB.out.size hb); have HM3 := za1 ((hb.block gm (blk_lt HM.out)).trans HM.out); have HNE := za1 (show gm ≠ gq from by have := blk_lt HM.out; omega); have HGE := za1 (show w.heap.size ≤ gq from by have := HB.out.size; omega); have HQ3 := za1 hbq; clear hb hbq hgq)
     | (go_at_call 57; have HBX := za1 (show Below w.heap.size w (w3.setCell ⟨gq, 0, none⟩ (.int .i64 key)) from za8 HB3.out HGE.out); have HMX := za1 (blk_far HM3.out (p := ⟨gq, 0, none⟩) HNE.out (.int .i64 key)); go_loud (refine (impl_CountSigs.contains k A1 c1 l1 key gq gm A2 c2 l2 true _ (za30 HR1.out HBX.out) HC1.out ((blk_set HQ3.out 0 (.int .i64 key)).trans rfl) HMX.out (za30 HR2.out HBX.out) HL2.out HLB.out).mono ?_); rintro e w4 ⟨rfl, hd⟩; have HB4 := za1 (below_then HBX.out HBX.out.size hd); have HM4 := za1 ((hd.block gm (blk_lt HMX.out)).trans HMX.out); clear hd))
    go_roundw
    case rel => exact ⟨j + 1, wrap64 (n + 1), by omega, by go_num, rfl, ⟨by simpa using HZ.out⟩, HM4, HB4⟩
    case measure => simp [intOf]; omega
   | false =>
    go_wp2_with (first
     | ((with_reducible refine gate_dst (N := 9) rfl ?_); refine box_event ?hg (N := 9) ?hd (cs := #[.int .i64 0]) (t := 3) ?hr ?_; (case hd => rfl); (case hg => rfl); (case hr => first | (go_simp; done) | (go_simp; rfl)); intro gq hgq w3 hbq hb; have hcell3 := (hb.cell (p := ad.add j) HADL.out).trans HCELL.out; have hq0 : w3.cell? ⟨gq, 0, none⟩ = some (.int .i64 0) := (za15 hbq 0).trans rfl; have hqf := blk_frozen hbq 0; have HB3 := za1 (below_then HB.out HB.out.size hb); have HM3 := za1 ((hb.block gm (blk_lt HM.out)).trans HM.out); have HNE := za1 (show gm ≠ gq from by have := blk_lt HM.out; omega); have HGE := za1 (show w.heap.size ≤ gq from by have := HB.out.size; omega); have HQ3 := za1 hbq; clear hb hbq hgq)
     | (go_at_call 57; have HBX := za1 (show Below w.heap.size w (w3.setCell ⟨gq, 0, none⟩ (.int .i64 key)) from za8 HB3.out HGE.out); have HMX := za1 (blk_far HM3.out (p := ⟨gq, 0, none⟩) HNE.out (.int .i64 key)); go_loud (refine (impl_CountSigs.contains k A1 c1 l1 key gq gm A2 c2 l2 false _ (za30 HR1.out HBX.out) HC1.out ((blk_set HQ3.out 0 (.int .i64 key)).trans rfl) HMX.out (za30 HR2.out HBX.out) HL2.out HLB.out).mono ?_); rintro e w4 ⟨rfl, hd⟩; have HB4 := za1 (below_then HBX.out HBX.out.size hd); have HM4 := za1 ((hd.block gm (blk_lt HMX.out)).trans HMX.out); clear hd))
    go_roundw
    case rel => exact ⟨j + 1, n, by omega, by go_num, rfl, ⟨by simpa using HZ.out⟩, HM4, HB4⟩
    case measure => simp [intOf]; omega
  ·obtain rfl : j = l0_0.length := by omega
   have hf : n = r := by
    have z := HA.out
    rw [List.drop_length] at z
    exact za37 z
   subst hf
   go_wp2
   go_ret
   exact ⟨rfl, HB.out⟩

/-! ### impl_IsSigned: function 19 -/
def impl_IsSigned.f (k : Nat) (l0_0 : List Int) (a0_1 : Int) (l1 : List Int) (l2 : List (S46)) : Option (Bool) := (impl_IsKeys.f k l0_0 a0_1).bind fun t250 => (if t250 = true then ((impl_CountSigs.f k l0_0 a0_1 l1 l2).bind fun t251 => (some (decide (t251 ≥ a0_1)))) else (some false))
theorem impl_IsSigned.mono : ∀ a0 a1 a2 a3 k, LeO (impl_IsSigned.f k a0 a1 a2 a3) (impl_IsSigned.f (k + 1) a0 a1 a2 a3) := by
  intro a0 a1 a2 a3 k
  unfold impl_IsSigned.f
  repeat' first
      | (with_reducible exact impl_CountSigs.mono _ _ _ _ _)
      | (with_reducible exact impl_IsKeys.mono _ _ _)
      | (with_reducible exact LeO.refl _)
      | (with_reducible exact za34 _)
      | (with_reducible refine za33 ?_ ?_)
      | (with_reducible refine za32 ?_ (fun _ => ?_))
      | exact impl_CountSigs.mono _ _ _ _ _
      | exact impl_IsKeys.mono _ _ _
      | exact za34 _
      | refine za33 ?_ ?_
      | refine za32 ?_ (fun _ => ?_)
def impl_IsSigned.T1 : Bool × List (List Nat × List Nat) := (true, [([], []), ([0], [0]), ([1, 1], [1]), ([2], [2]), ([2], [2]), ([2], [2]), ([3, 4, 5, 2, 2], [2, 3, 4, 5]), ([2], [2]), ([7, 2], [2, 7]), ([6, 8, 2], [2, 6, 8]), ([2, 9], [2, 9]), ([10, 6, 0, 1, 2, 3, 4, 5, 6, 7, 8, 9, 10], [10])])
def impl_IsSigned.B1 : List Nat := [0, 1, 3, 7, 7, 7, 63, 7, 135, 511, 1023, 2047]
theorem impl_IsSigned.tab1 : rtab .any (opsOf Try.f19 1) = impl_IsSigned.T1 := by kernel_rfl
theorem impl_IsSigned.bits1 : waitsOk impl_IsSigned.T1.2 impl_IsSigned.B1 = true := by kernel_rfl
set_option maxHeartbeats 8000000 in
set_option maxRecDepth 100000 in
theorem impl_IsSigned.calls (k : Nat) (A0_0 : Option Addr) (c0_0 : Nat) (l0_0 : List Int) (a0_1 : Int) (A1 : Option Addr) (c1 : Nat) (l1 : List Int) (A2 : Option Addr) (c2 : Nat) (l2 : List (S46)) (r : Bool) (w : World) (hr0_0 : Kd.C (Kd.int .i64) w A0_0 l0_0.length l0_0) (hc0_0 : l0_0.length ≤ c0_0) (hr1 : Kd.C (Kd.int .i64) w A1 l1.length l1) (hc1 : l1.length ≤ c1) (hr2 : Kd.C k46 w A2 l2.length l2) (hc2 : l2.length ≤ c2) (h : impl_IsSigned.f k l0_0 a0_1 l1 l2 = some r) :
  Calls Try.prog 19 #[.agg #[.slice A0_0 l0_0.length c0_0, .int .i64 a0_1], .slice A1 l1.length c1, .slice A2 l2.length c2] w fun e w' => e = .returned (.bool r) ∧ Below w.heap.size w w' := by
 have hu37 := Try.underlying37
 have HR0_0 := za1 hr0_0
 have HC0_0 := za1 hc0_0
 clear hr0_0 hc0_0
 have HR1 := za1 hr1
 have HC1 := za1 hc1
 clear hr1 hc1
 have HR2 := za1 hr2
 have HC2 := za1 hc2
 clear hr2 hc2
 have HB := za1 (Below.refl w.heap.size w)
 have H : ((impl_IsKeys.f k l0_0 a0_1).bind fun t250 => (if t250 = true then ((impl_CountSigs.f k l0_0 a0_1 l1 l2).bind fun t251 => (some (decide (t251 ≥ a0_1)))) else (some false))) = some r := h
 clear h
 replace H := za16.mp H
 obtain ⟨t250, A40, H⟩ := H
 replace H : (if t250 = true then ((impl_CountSigs.f k l0_0 a0_1 l1 l2).bind fun t251 => (some (decide (t251 ≥ a0_1)))) else (some false)) = some r := H
 have A4 := za1 A40
 clear A40
 by_cases c5 : t250 = true
 ·subst c5
  have H1 : ((impl_CountSigs.f k l0_0 a0_1 l1 l2).bind fun t251 => (some (decide (t251 ≥ a0_1)))) = some r := by rw [if_pos rfl] at H; exact H
  clear H
  have H := H1
  clear H1
  replace H := za16.mp H
  obtain ⟨t251, A60, H⟩ := H
  replace H : (some (decide (t251 ≥ a0_1))) = some r := H
  have A6 := za1 A60
  clear A60
  obtain rfl := za37 H
  go_enter Try.func19, Try.ntmps19
  try go_wp2_with (first | ((with_reducible refine gate_dst (N := 3) rfl ?_); refine box_event ?hg (N := 3) ?hd (cs := #[.slice A0_0 l0_0.length c0_0, .int .i64 a0_1]) (t := 37) ?hr ?_; (case hd => rfl); (case hg => rfl); (case hr => first | (go_simp; done) | (go_simp; rfl)); intro gb249 hg w7 hbox hb; have n0_ := za1 (za28 (by repeat (first | (with_reducible first | exact HB.out | apply za14 | apply za7 | apply za9) | exact HB.out)) hb); have n1_ := za1 (hbox); have n2_ := za1 ((by rw [hg]; exact (za29 (by repeat (first | (with_reducible first | exact HB.out | apply za14 | apply za7 | apply za9) | exact HB.out))) : w.heap.size ≤ gb249)); have n3_ := za1 ((by rw [hg]; exact (za29 (by repeat (first | (with_reducible first | exact HB.out | apply za14 | apply za7 | apply za9) | exact HB.out))) : w.heap.size ≤ gb249)); clear HB; have HB := n0_; have BK249 := n1_; have GW249 := n2_; have GE249 := n3_; clear n0_ n1_ n2_ n3_; clear hb hbox hg))
  have n0_ := za1 (za12 BK249.out)
  have n1_ := za1 (za9 HB.out)
  clear BK249
  clear HB
  have BK249 := n0_
  have HB := n1_
  clear n0_ n1_
  refine start_ (n := 12) (S := fun w' => w'.cell? ⟨gb249, 0, none⟩ = some (.slice A0_0 l0_0.length c0_0) ∧ w'.cell? ⟨gb249, 1, none⟩ = some (.int .i64 a0_1)) (ds := []) #[false, false, false, false, false, false, false, false, false, false, false, false] (by kernel_rfl) rfl rfl ⟨(za15 BK249.out 0).trans rfl, (za15 BK249.out 1).trans rfl⟩ (fun hHeld => ?_); refine with_tabW impl_IsSigned.tab1 impl_IsSigned.bits1 (fun HT_ HW_ => ?_)
  generalize w7.drew = w8 at BK249 HB hHeld ⊢
  refine take_ (i := 0) (N := some 7) (v := ?_) (a' := ?_) #[true, false, false, false, false, false, false, false, false, false, false, false] rfl rfl (take_ofW HT_.out HW_.out (by kernel_rfl)) (fun _ _ _ h => h) (Or.inl ⟨by rfl, ?_⟩) hHeld ?_ ?_
  rotate_left
  ·rintro w' ⟨s0, s1⟩
   go_simp
   with_reducible rfl
  rotate_left
  ·simp only [Act.put, za0, za2, za3, i64_w, i32_w]
   rfl
  refine one_ (i := 1) (N := some 8) #[true, true, false, false, false, false, false, false, false, false, false, false] rfl rfl (one_of HT_.out (by kernel_rfl)) (by decide) (fun K hK => ?_)
  refine goes_ Try.func21 (by kernel_rfl) rfl #[.agg #[.slice A0_0 l0_0.length c0_0, .int .i64 a0_1]] (by rfl) rfl rfl (by (try simp only [za18, za26, za27]); first | done | rfl | (simp only [za20, za19]; rfl)) ?_
  with_reducible refine (impl_IsKeys.calls k _ _ l0_0 a0_1 true _ ?side1 ?side2 A4.out).mono ?_
  (case side1 => repeat (first | exact (za30 HR0_0.out HB.out) | (with_reducible refine za24 ?_ _) | (with_reducible refine za22 ?_ _) | (with_reducible refine za23 ?_)))
  (case side2 => exact HC0_0.out)
  rintro e w9 ⟨rfl, hb⟩
  refine ⟨_, rfl, ?_⟩
  have n0_ := za1 (za17 (g := gb249) (o := .cells #[.slice A0_0 l0_0.length c0_0, .int .i64 a0_1] 37 (0, 0)) (by (with_reducible repeat (first | refine za11 ?_ _ | refine za12 ?_ | refine za13 ?_ _)); exact BK249.out) hb)
  have n1_ := za1 (za28 (by repeat (first | (with_reducible first | exact HB.out | apply za14 | apply za7 | apply za9 | refine za8 ?_ GE249.out) | exact HB.out)) hb)
  clear BK249
  clear HB
  have BK249 := n0_
  have HB := n1_
  clear n0_ n1_
  (try clear hb)
  (try clear hb2)
  (try clear hk)
  (try clear hi)
  refine hK.out _ _ ⟨(za15 BK249.out 0).trans rfl, (za15 BK249.out 1).trans rfl⟩ (fun hHeld => ?_)
  clear hK K
  refine norm_ (a' := ?_) ?_ ?_
  rotate_left
  ·show Act.put _ (some 8) _ = _
   simp only [Act.put, za0, za2, za3, i64_w, i32_w]
   rfl
  refine pure_ (i := 2) (N := some 9) (v := ?_) (a' := ?_) #[true, true, true, false, false, false, false, false, false, false, false, false] rfl rfl (za25 HT_.out (by kernel_rfl)) (fun _ _ _ h => h) (Or.inl ⟨by rfl, ?_⟩) ?_ ?_
  rotate_left
  ·intro w'
   go_simp
   with_reducible rfl
  rotate_left
  ·simp only [Act.put, za0, za2, za3, i64_w, i32_w]
   rfl
  refine pure_ (i := 4) (N := some 11) (v := ?_) (a' := ?_) #[true, true, true, false, true, false, false, false, false, false, false, false] rfl rfl (za25 HT_.out (by kernel_rfl)) (fun _ _ _ h => h) (Or.inl ⟨by rfl, ?_⟩) ?_ ?_
  rotate_left
  ·intro w'
   go_simp
   with_reducible rfl
  rotate_left
  ·simp only [Act.put, za0, za2, za3, i64_w, i32_w]
   rfl
  refine pure_ (i := 5) (N := some 12) (v := ?_) (a' := ?_) #[true, true, true, false, true, true, false, false, false, false, false, false] rfl rfl (za25 HT_.out (by kernel_rfl)) (fun _ _ _ h => h) (Or.inl ⟨by rfl, ?_⟩) ?_ ?_
  rotate_left
  ·intro w'
   go_simp
   with_reducible rfl
  rotate_left
  ·simp only [Act.put, za0, za2, za3, i64_w, i32_w]
   rfl
  refine pure_ (i := 7) (N := some 14) (v := ?_) (a' := ?_) #[true, true, true, false, true, true, false, true, false, false, false, false] rfl rfl (za25 HT_.out (by kernel_rfl)) (fun _ _ _ h => h) (Or.inl ⟨by rfl, ?_⟩) ?_ ?_
  rotate_left
  ·intro w'
   go_simp
   with_reducible rfl
  rotate_left
  ·simp only [Act.put, za0, za2, za3, i64_w, i32_w]
   rfl
  refine take_ (i := 3) (N := some 10) (v := ?_) (a' := ?_) #[true, true, true, true, true, true, false, true, false, false, false, false] rfl rfl (take_ofW HT_.out HW_.out (by kernel_rfl)) (fun _ _ _ h => h) (Or.inl ⟨by rfl, ?_⟩) hHeld ?_ ?_
  rotate_left
  ·rintro w' ⟨s0, s1⟩
   go_simp
   with_reducible rfl
  rotate_left
  ·simp only [Act.put, za0, za2, za3, i64_w, i32_w]
   rfl
  refine take_ (i := 8) (N := some 15) (v := ?_) (a' := ?_) #[true, true, true, true, true, true, false, true, true, false, false, false] rfl rfl (take_ofW HT_.out HW_.out (by kernel_rfl)) (fun _ _ _ h => h) (Or.inl ⟨by rfl, ?_⟩) hHeld ?_ ?_
  rotate_left
  ·rintro w' ⟨s0, s1⟩
   go_simp
   with_reducible rfl
  rotate_left
  ·simp only [Act.put, za0, za2, za3, i64_w, i32_w]
   rfl
  refine one_ (i := 6) (N := some 13) #[true, true, true, true, true, true, true, true, true, false, false, false] rfl rfl (one_of HT_.out (by kernel_rfl)) (by decide) (fun K hK => ?_)
  refine goes_ Try.func24 (by kernel_rfl) rfl #[.agg #[.slice A0_0 l0_0.length c0_0, .int .i64 a0_1], .slice A1 l1.length c1, .slice A2 l2.length c2] (by rfl) rfl rfl (by (try simp only [za18, za26, za27]); first | done | rfl | (simp only [za20, za19]; rfl)) ?_
  with_reducible refine (impl_CountSigs.calls k _ _ l0_0 a0_1 _ _ l1 _ _ l2 t251 _ ?side1 ?side2 ?side3 ?side4 ?side5 ?side6 A6.out).mono ?_
  (case side1 => repeat (first | exact (za30 HR0_0.out HB.out) | (with_reducible refine za24 ?_ _) | (with_reducible refine za22 ?_ _) | (with_reducible refine za23 ?_)))
  (case side2 => exact HC0_0.out)
  (case side3 => repeat (first | exact (za30 HR1.out HB.out) | (with_reducible refine za24 ?_ _) | (with_reducible refine za22 ?_ _) | (with_reducible refine za23 ?_)))
  (case side4 => exact HC1.out)
  (case side5 => repeat (first | exact (za30 HR2.out HB.out) | (with_reducible refine za24 ?_ _) | (with_reducible refine za22 ?_ _) | (with_reducible refine za23 ?_)))
  (case side6 => exact HC2.out)
  rintro e w10 ⟨rfl, hb⟩
  refine ⟨_, rfl, ?_⟩
  have n0_ := za1 (za17 (g := gb249) (o := .cells #[.slice A0_0 l0_0.length c0_0, .int .i64 a0_1] 37 (0, 0)) (by (with_reducible repeat (first | refine za11 ?_ _ | refine za12 ?_ | refine za13 ?_ _)); exact BK249.out) hb)
  have n1_ := za1 (za28 (by repeat (first | (with_reducible first | exact HB.out | apply za14 | apply za7 | apply za9 | refine za8 ?_ GE249.out) | exact HB.out)) hb)
  clear BK249
  clear HB
  have BK249 := n0_
  have HB := n1_
  clear n0_ n1_
  (try clear hb)
  (try clear hb2)
  (try clear hk)
  (try clear hi)
  refine hK.out _ _ ⟨(za15 BK249.out 0).trans rfl, (za15 BK249.out 1).trans rfl⟩ (fun hHeld => ?_)
  clear hK K
  refine norm_ (a' := ?_) ?_ ?_
  rotate_left
  ·show Act.put _ (some 13) _ = _
   simp only [Act.put, za0, za2, za3, i64_w, i32_w]
   rfl
  refine pure_ (i := 9) (N := some 16) (v := ?_) (a' := ?_) #[true, true, true, true, true, true, true, true, true, true, false, false] rfl rfl (za25 HT_.out (by kernel_rfl)) (fun _ _ _ h => h) (Or.inl ⟨by rfl, ?_⟩) ?_ ?_
  rotate_left
  ·intro w'
   go_simp
   with_reducible rfl
  rotate_left
  ·simp only [Act.put, za0, za2, za3, i64_w, i32_w]
   rfl
  refine pure_ (i := 10) (N := some 17) (v := ?_) (a' := ?_) #[true, true, true, true, true, true, true, true, true, true, true, false] rfl rfl (za25 HT_.out (by kernel_rfl)) (fun _ _ _ h => h) (Or.inl ⟨by rfl, ?_⟩) ?_ ?_
  rotate_left
  ·intro w'
   go_simp
   with_reducible rfl
  rotate_left
  ·simp only [Act.put, za0, za2, za3, i64_w, i32_w]
   rfl
  refine pure_ (i := 11) (N := some 6) (v := ?_) (a' := ?_) #[true, true, true, true, true, true, true, true, true, true, true, true] rfl rfl (za25 HT_.out (by kernel_rfl)) (fun _ _ _ h => h) (Or.inl ⟨by rfl, ?_⟩) ?_ ?_
  rotate_left
  ·intro w'
   go_simp
   with_reducible rfl
  rotate_left
  ·simp only [Act.put, za0, za2, za3, i64_w, i32_w]
   rfl
  refine done_ (done_of HT_.out (by kernel_rfl)) ?_
  try go_wp2
  go_ret
  exact ⟨by first | rfl | (simp [errW_none, errW_some] <;> rfl) | (simp [*, errW_none, errW_some] <;> rfl), by repeat (first | (with_reducible first | exact HB.out | apply za14 | apply za7 | apply za9 | refine za8 ?_ GE249.out) | exact HB.out)⟩
 ·replace c5 := Bool.eq_false_iff.mpr c5
  subst c5
  have H1 : (some false) = some r := by rw [if_neg (show ¬ (false = true) by decide)] at H; exact H
  clear H
  have H := H1
  clear H1
  obtain rfl := za37 H
  go_enter Try.func19, Try.ntmps19
  try go_wp2_with (first | ((with_reducible refine gate_dst (N := 3) rfl ?_); refine box_event ?hg (N := 3) ?hd (cs := #[.slice A0_0 l0_0.length c0_0, .int .i64 a0_1]) (t := 37) ?hr ?_; (case hd => rfl); (case hg => rfl); (case hr => first | (go_simp; done) | (go_simp; rfl)); intro gb249 hg w11 hbox hb; have n0_ := za1 (za28 (by repeat (first | (with_reducible first | exact HB.out | apply za14 | apply za7 | apply za9) | exact HB.out)) hb); have n1_ := za1 (hbox); have n2_ := za1 ((by rw [hg]; exact (za29 (by repeat (first | (with_reducible first | exact HB.out | apply za14 | apply za7 | apply za9) | exact HB.out))) : w.heap.size ≤ gb249)); have n3_ := za1 ((by rw [hg]; exact (za29 (by repeat (first | (with_reducible first | exact HB.out | apply za14 | apply za7 | apply za9) | exact HB.out))) : w.heap.size ≤ gb249)); clear HB; have HB := n0_; have BK249 := n1_; have GW249 := n2_; have GE249 := n3_; clear n0_ n1_ n2_ n3_; clear hb hbox hg))
  have n0_ := za1 (za12 BK249.out)
  have n1_ := za1 (za9 HB.out)
  clear BK249
  clear HB
  have BK249 := n0_
  have HB := n1_
  clear n0_ n1_
  refine start_ (n := 12) (S := fun w' => w'.cell? ⟨gb249, 0, none⟩ = some (.slice A0_0 l0_0.length c0_0) ∧ w'.cell? ⟨gb249, 1, none⟩ = some (.int .i64 a0_1)) (ds := []) #[false, false, false, false, false, false, false, false, false, false, false, false] (by kernel_rfl) rfl rfl ⟨(za15 BK249.out 0).trans rfl, (za15 BK249.out 1).trans rfl⟩ (fun hHeld => ?_); refine with_tabW impl_IsSigned.tab1 impl_IsSigned.bits1 (fun HT_ HW_ => ?_)
  generalize w11.drew = w12 at BK249 HB hHeld ⊢
  refine take_ (i := 0) (N := some 7) (v := ?_) (a' := ?_) #[true, false, false, false, false, false, false, false, false, false, false, false] rfl rfl (take_ofW HT_.out HW_.out (by kernel_rfl)) (fun _ _ _ h => h) (Or.inl ⟨by rfl, ?_⟩) hHeld ?_ ?_
  rotate_left
  ·rintro w' ⟨s0, s1⟩
   go_simp
   with_reducible rfl
  rotate_left
  ·simp only [Act.put, za0, za2, za3, i64_w, i32_w]
   rfl
  refine one_ (i := 1) (N := some 8) #[true, true, false, false, false, false, false, false, false, false, false, false] rfl rfl (one_of HT_.out (by kernel_rfl)) (by decide) (fun K hK => ?_)
  refine goes_ Try.func21 (by kernel_rfl) rfl #[.agg #[.slice A0_0 l0_0.length c0_0, .int .i64 a0_1]] (by rfl) rfl rfl (by (try simp only [za18, za26, za27]); first | done | rfl | (simp only [za20, za19]; rfl)) ?_
  with_reducible refine (impl_IsKeys.calls k _ _ l0_0 a0_1 false _ ?side1 ?side2 A4.out).mono ?_
  (case side1 => repeat (first | exact (za30 HR0_0.out HB.out) | (with_reducible refine za24 ?_ _) | (with_reducible refine za22 ?_ _) | (with_reducible refine za23 ?_)))
  (case side2 => exact HC0_0.out)
  rintro e w13 ⟨rfl, hb⟩
  refine ⟨_, rfl, ?_⟩
  have n0_ := za1 (za17 (g := gb249) (o := .cells #[.slice A0_0 l0_0.length c0_0, .int .i64 a0_1] 37 (0, 0)) (by (with_reducible repeat (first | refine za11 ?_ _ | refine za12 ?_ | refine za13 ?_ _)); exact BK249.out) hb)
  have n1_ := za1 (za28 (by repeat (first | (with_reducible first | exact HB.out | apply za14 | apply za7 | apply za9 | refine za8 ?_ GE249.out) | exact HB.out)) hb)
  clear BK249
  clear HB
  have BK249 := n0_
  have HB := n1_
  clear n0_ n1_
  (try clear hb)
  (try clear hb2)
  (try clear hk)
  (try clear hi)
  refine hK.out _ _ ⟨(za15 BK249.out 0).trans rfl, (za15 BK249.out 1).trans rfl⟩ (fun hHeld => ?_)
  clear hK K
  refine norm_ (a' := ?_) ?_ ?_
  rotate_left
  ·show Act.put _ (some 8) _ = _
   simp only [Act.put, za0, za2, za3, i64_w, i32_w]
   rfl
  refine pure_ (i := 2) (N := some 9) (v := ?_) (a' := ?_) #[true, true, true, false, false, false, false, false, false, false, false, false] rfl rfl (za25 HT_.out (by kernel_rfl)) (fun _ _ _ h => h) (Or.inl ⟨by rfl, ?_⟩) ?_ ?_
  rotate_left
  ·intro w'
   go_simp
   with_reducible rfl
  rotate_left
  ·simp only [Act.put, za0, za2, za3, i64_w, i32_w]
   rfl
  refine pure_ (i := 3) (N := some 10) (v := undef) (a' := ?_) #[true, true, true, true, false, false, false, false, false, false, false, false] rfl rfl (za25 HT_.out (by kernel_rfl)) (fun _ _ _ h => h) (Or.inr ⟨by rfl, rfl⟩) ?_ ?_
  rotate_left
  ·simp only [Act.put, za0, za2, za3, i64_w, i32_w]
   rfl
  refine pure_ (i := 4) (N := some 11) (v := undef) (a' := ?_) #[true, true, true, true, true, false, false, false, false, false, false, false] rfl rfl (za25 HT_.out (by kernel_rfl)) (fun _ _ _ h => h) (Or.inr ⟨by rfl, rfl⟩) ?_ ?_
  rotate_left
  ·simp only [Act.put, za0, za2, za3, i64_w, i32_w]
   rfl
  refine pure_ (i := 5) (N := some 12) (v := undef) (a' := ?_) #[true, true, true, true, true, true, false, false, false, false, false, false] rfl rfl (za25 HT_.out (by kernel_rfl)) (fun _ _ _ h => h) (Or.inr ⟨by rfl, rfl⟩) ?_ ?_
  rotate_left
  ·simp only [Act.put, za0, za2, za3, i64_w, i32_w]
   rfl
  refine pure_ (i := 6) (N := some 13) (v := undef) (a' := ?_) #[true, true, true, true, true, true, true, false, false, false, false, false] rfl rfl (za25 HT_.out (by kernel_rfl)) (fun _ _ _ h => h) (Or.inr ⟨by rfl, rfl⟩) ?_ ?_
  rotate_left
  ·simp only [Act.put, za0, za2, za3, i64_w, i32_w]
   rfl
  refine pure_ (i := 7) (N := some 14) (v := undef) (a' := ?_) #[true, true, true, true, true, true, true, true, false, false, false, false] rfl rfl (za25 HT_.out (by kernel_rfl)) (fun _ _ _ h => h) (Or.inr ⟨by rfl, rfl⟩) ?_ ?_
  rotate_left
  ·simp only [Act.put, za0, za2, za3, i64_w, i32_w]
   rfl
  refine pure_ (i := 8) (N := some 15) (v := undef) (a' := ?_) #[true, true, true, true, true, true, true, true, true, false, false, false] rfl rfl (za25 HT_.out (by kernel_rfl)) (fun _ _ _ h => h) (Or.inr ⟨by rfl, rfl⟩) ?_ ?_
  rotate_left
  ·simp only [Act.put, za0, za2, za3, i64_w, i32_w]
   rfl
  refine pure_ (i := 9) (N := some 16) (v := undef) (a' := ?_) #[true, true, true, true, true, true, true, true, true, true, false, false] rfl rfl (za25 HT_.out (by kernel_rfl)) (fun _ _ _ h => h) (Or.inr ⟨by rfl, rfl⟩) ?_ ?_
  rotate_left
  ·simp only [Act.put, za0, za2, za3, i64_w, i32_w]
   rfl
  refine pure_ (i := 10) (N := some 17) (v := ?_) (a' := ?_) #[true, true, true, true, true, true, true, true, true, true, true, false] rfl rfl (za25 HT_.out (by kernel_rfl)) (fun _ _ _ h => h) (Or.inl ⟨by rfl, ?_⟩) ?_ ?_
  rotate_left
  ·intro w'
   go_simp
   with_reducible rfl
  rotate_left
  ·simp only [Act.put, za0, za2, za3, i64_w, i32_w]
   rfl
  refine pure_ (i := 11) (N := some 6) (v := ?_) (a' := ?_) #[true, true, true, true, true, true, true, true, true, true, true, true] rfl rfl (za25 HT_.out (by kernel_rfl)) (fun _ _ _ h => h) (Or.inl ⟨by rfl, ?_⟩) ?_ ?_
  rotate_left
  ·intro w'
   go_simp
   with_reducible rfl
  rotate_left
  ·simp only [Act.put, za0, za2, za3, i64_w, i32_w]
   rfl
  refine done_ (done_of HT_.out (by kernel_rfl)) ?_
  try go_wp2
  go_ret
  exact ⟨by first | rfl | (simp [errW_none, errW_some] <;> rfl) | (simp [*, errW_none, errW_some] <;> rfl), by repeat (first | (with_reducible first | exact HB.out | apply za14 | apply za7 | apply za9 | refine za8 ?_ GE249.out) | exact HB.out)⟩

end Go.Proofs.Ytanogkaledgecaa.PFnThresholds
