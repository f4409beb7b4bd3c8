/- The machine's side of a law: what its Go functions compute, as Lean functions, and the walks that show it; laid by this session's program (wip/tools) out of the translation. Conditions: those of each theorem. -/
import Derived.Test.YtaebboanblfmjaaPFnExactSignByx0
import Derived.Test.YtaebboanblfmjaaPFnExactSignByx1
import Derived.Test.YtaebboanblfmjaaPFnExactSignByx2
import Derived.Test.YtaebboanblfmjaaPFnExactSignByx3
import Derived.Test.YtaebboanblfmjaaPFnExactSignByx4
namespace Go.Proofs.Ytaebboanblfmjaa.PFnExactSignBy
open Go.RowKit Go.Proofs.YtaebboanblfmjaaW.PrintWords Go.Proofs.YtaebboanblfmjaaW.PrintLast Go.Proofs.YtaebboanblfmjaaW.PrintMore
attribute [local go_sem] max2_int min2_int max_two min_two max_three min_three max_four min_four   -- for this text's walks alone
set_option linter.unusedVariables false
set_option linter.unusedSimpArgs false

/-! ### laws_FnExactSignBy: function 13 -/
def laws_FnExactSignBy.j0 : Nat → List Int → List Int → List (S49) → List (S49) → Bool → List Int → Int → Option (Bool)
  | 0, _, _, _, _, _, _, _ => none
  | k + 1, x0, x2, x8, x12, x80, x188000, x188001 => if x80 = true then (some false) else ((laws_markSigS.f k x12 1).bind fun bt237 => ((laws_heldSigS.f k bt237.2 1).bind fun t239 => (if t239 < 0 then (some false) else (if t239 = bt237.1 then ((laws_toIntS.f k x0).bind fun t240 => ((laws_toKeys.f k x188000 x188001).bind fun bt243 => ((laws_toIntS.f k x2).bind fun t247 => ((impl_SignBy.f k t240 bt243.1 bt243.2 t247).bind fun t250 => ((laws_eqSigS.f k t250 x8).bind fun t253 => (if t253 = true then ((laws_heldSigS.f k bt237.2 1).bind fun t254 => (if t254 < 0 then (some false) else (if t254 = bt237.1 then (some true) else (some false)))) else (some false))))))) else (some false)))))
def laws_FnExactSignBy.f (k : Nat) (l0 : List Int) (l1_0 : List Int) (a1_1 : Int) (l2 : List Int) : Option (Bool) := if (l0.length : Int) > 1048576 then (some true) else (if (l2.length : Int) > 1048576 then (some true) else ((laws_szKeys.f l1_0 a1_1 1048576).bind fun t188 => (if t188 < 0 then (some true) else ((laws_toIntS.f k l0).bind fun t189 => ((laws_toKeys.f k l1_0 a1_1).bind fun bt192 => ((laws_toIntS.f k l2).bind fun t196 => ((spec_SignBy.f k t189 bt192.1 bt192.2 t196).bind fun t199 => ((laws_toIntS.f k l0).bind fun t202 => ((laws_toKeys.f k l1_0 a1_1).bind fun bt205 => ((laws_toIntS.f k l2).bind fun t210 => ((impl_SignBy.f k t202 bt205.1 bt205.2 t210).bind fun t213 => ((laws_eqSigS.f k t213 t199).bind fun t216 => (if t216 = true then ((laws_toIntS.f k l0).bind fun t217 => ((laws_eqIntS.f k t202 t217).bind fun t220 => (if t220 = true then ((laws_toKeys.f k l1_0 a1_1).bind fun bt221 => ((laws_eqKeys.f k bt205.1 bt205.2 bt221.1 bt221.2).bind fun t225 => (if t225 = true then ((laws_toIntS.f k l2).bind fun t226 => ((laws_eqIntS.f k t210 t226).bind fun t229 => (if t229 = true then ((laws_markIntS.f k t202 1).bind fun bt230 => ((laws_markKeys.f k bt205.1 bt205.2 bt230.1).bind fun bt232 => ((laws_markIntS.f k t210 bt232.1).bind fun bt234 => (if bt234.1 < 0 then (laws_FnExactSignBy.j0 k l0 l2 t199 t213 true l1_0 a1_1) else ((laws_eqSigS.f k t213 t199).bind fun t236 => (laws_FnExactSignBy.j0 k l0 l2 t199 t213 (!t236) l1_0 a1_1)))))) else (some false)))) else (some false)))) else (some false)))) else (some false))))))))))))))
theorem laws_FnExactSignBy.mono_l : ∀ k, (∀ y0 y1 y2 y3 y4 y5 y6, LeO (laws_FnExactSignBy.j0 k y0 y1 y2 y3 y4 y5 y6) (laws_FnExactSignBy.j0 (k + 1) y0 y1 y2 y3 y4 y5 y6))
  | 0 => fun _ _ _ _ _ _ _ r h => by simp [laws_FnExactSignBy.j0] at h
  | k + 1 => by
    have ih0 := laws_FnExactSignBy.mono_l k
    · intro y0 y1 y2 y3 y4 y5 y6
      unfold laws_FnExactSignBy.j0
      repeat' first
      | (with_reducible exact ih0 _ _ _ _ _ _ _)
      | (with_reducible exact impl_SignBy.mono _ _ _ _ _)
      | (with_reducible exact laws_eqIntS.mono _ _ _)
      | (with_reducible exact laws_eqKeys.mono _ _ _ _ _)
      | (with_reducible exact laws_eqSigS.mono _ _ _)
      | (with_reducible exact laws_heldSigS.mono _ _ _)
      | (with_reducible exact laws_markIntS.mono _ _ _)
      | (with_reducible exact laws_markKeys.mono _ _ _ _)
      | (with_reducible exact laws_markSigS.mono _ _ _)
      | (with_reducible exact laws_toIntS.mono _ _)
      | (with_reducible exact laws_toKeys.mono _ _ _)
      | (with_reducible exact spec_SignBy.mono _ _ _ _ _)
      | (with_reducible exact LeO.refl _)
      | (with_reducible exact LeO.none _)
      | (with_reducible refine LeO.ite ?_ ?_)
      | (with_reducible refine LeO.bind ?_ (fun _ => ?_))
      | exact ih0 _ _ _ _ _ _ _
      | exact impl_SignBy.mono _ _ _ _ _
      | exact laws_eqIntS.mono _ _ _
      | exact laws_eqKeys.mono _ _ _ _ _
      | exact laws_eqSigS.mono _ _ _
      | exact laws_heldSigS.mono _ _ _
      | exact laws_markIntS.mono _ _ _
      | exact laws_markKeys.mono _ _ _ _
      | exact laws_markSigS.mono _ _ _
      | exact laws_toIntS.mono _ _
      | exact laws_toKeys.mono _ _ _
      | exact spec_SignBy.mono _ _ _ _ _
      | exact LeO.none _
      | refine LeO.ite ?_ ?_
      | refine LeO.bind ?_ (fun _ => ?_)
theorem laws_FnExactSignBy.mono : ∀ a0 a1 a2 a3 k, LeO (laws_FnExactSignBy.f k a0 a1 a2 a3) (laws_FnExactSignBy.f (k + 1) a0 a1 a2 a3) := by
  intro a0 a1 a2 a3 k
  have ih0 := laws_FnExactSignBy.mono_l k
  unfold laws_FnExactSignBy.f
  repeat' first
      | (with_reducible exact ih0 _ _ _ _ _ _ _)
      | (with_reducible exact impl_SignBy.mono _ _ _ _ _)
      | (with_reducible exact laws_eqIntS.mono _ _ _)
      | (with_reducible exact laws_eqKeys.mono _ _ _ _ _)
      | (with_reducible exact laws_eqSigS.mono _ _ _)
      | (with_reducible exact laws_heldSigS.mono _ _ _)
      | (with_reducible exact laws_markIntS.mono _ _ _)
      | (with_reducible exact laws_markKeys.mono _ _ _ _)
      | (with_reducible exact laws_markSigS.mono _ _ _)
      | (with_reducible exact laws_toIntS.mono _ _)
      | (with_reducible exact laws_toKeys.mono _ _ _)
      | (with_reducible exact spec_SignBy.mono _ _ _ _ _)
      | (with_reducible exact LeO.refl _)
      | (with_reducible exact LeO.none _)
      | (with_reducible refine LeO.ite ?_ ?_)
      | (with_reducible refine LeO.bind ?_ (fun _ => ?_))
      | exact ih0 _ _ _ _ _ _ _
      | exact impl_SignBy.mono _ _ _ _ _
      | exact laws_eqIntS.mono _ _ _
      | exact laws_eqKeys.mono _ _ _ _ _
      | exact laws_eqSigS.mono _ _ _
      | exact laws_heldSigS.mono _ _ _
      | exact laws_markIntS.mono _ _ _
      | exact laws_markKeys.mono _ _ _ _
      | exact laws_markSigS.mono _ _ _
      | exact laws_toIntS.mono _ _
      | exact laws_toKeys.mono _ _ _
      | exact spec_SignBy.mono _ _ _ _ _
      | exact LeO.none _
      | refine LeO.ite ?_ ?_
      | refine LeO.bind ?_ (fun _ => ?_)
def laws_FnExactSignBy.T9 : Bool × List (List Nat × List Nat) := (true, [([], []), ([0], [0]), ([], []), ([2, 1], [2]), ([], []), ([4, 3], [4]), ([1, 3, 5, 5], [1, 3, 5]), ([6, 6, 0, 1, 2, 3, 4, 5, 6], [6])])
def laws_FnExactSignBy.B9 : List Nat := [0, 1, 0, 7, 0, 31, 63, 127]
theorem laws_FnExactSignBy.tab9 : rtab .any (opsOf Try.f13 9) = laws_FnExactSignBy.T9 := by kernel_rfl
theorem laws_FnExactSignBy.bits9 : waitsOk laws_FnExactSignBy.T9.2 laws_FnExactSignBy.B9 = true := by kernel_rfl
def laws_FnExactSignBy.T36 : Bool × List (List Nat × List Nat) := (true, [([], []), ([0], [0]), ([], []), ([2, 1], [2]), ([], []), ([4, 3], [4]), ([1, 3, 5, 5], [1, 3, 5]), ([6, 6, 0, 1, 2, 3, 4, 5, 6], [6])])
def laws_FnExactSignBy.B36 : List Nat := [0, 1, 0, 7, 0, 31, 63, 127]
theorem laws_FnExactSignBy.tab36 : rtab .any (opsOf Try.f13 36) = laws_FnExactSignBy.T36 := by kernel_rfl
theorem laws_FnExactSignBy.bits36 : waitsOk laws_FnExactSignBy.T36.2 laws_FnExactSignBy.B36 = true := by kernel_rfl
set_option maxHeartbeats 8000000 in
set_option maxRecDepth 100000 in
theorem laws_FnExactSignBy.calls (k : Nat) (A0 : Option Addr) (c0 : Nat) (l0 : List Int) (A1_0 : Option Addr) (c1_0 : Nat) (l1_0 : List Int) (a1_1 : Int) (A2 : Option Addr) (c2 : Nat) (l2 : List Int) (r : Bool) (w : World) (hr0 : Kd.C (Kd.int .i64) w A0 l0.length l0) (hc0 : l0.length ≤ c0) (hr1_0 : Kd.C (Kd.int .i64) w A1_0 l1_0.length l1_0) (hc1_0 : l1_0.length ≤ c1_0) (hr2 : Kd.C (Kd.int .i64) w A2 l2.length l2) (hc2 : l2.length ≤ c2) (hrt : r = true) (h : laws_FnExactSignBy.f k l0 l1_0 a1_1 l2 = some r) :
    Calls Try.prog 13 #[.slice A0 l0.length c0, .agg #[.slice A1_0 l1_0.length c1_0, .int .i64 a1_1], .slice A2 l2.length c2] w fun e w' => e = .returned (.bool r) ∧ Below w.heap.size w w' := by
  have hu29 := Try.underlying29
  have hu24 := Try.underlying24
  have HR0 := Aside0.mk hr0
  have HC0 := Aside0.mk hc0
  clear hr0 hc0
  have HR1_0 := Aside0.mk hr1_0
  have HC1_0 := Aside0.mk hc1_0
  clear hr1_0 hc1_0
  have HR2 := Aside0.mk hr2
  have HC2 := Aside0.mk hc2
  clear hr2 hc2
  have HB := Aside0.mk (Below.refl w.heap.size w)
  have H : (if (l0.length : Int) > 1048576 then (some true) else (if (l2.length : Int) > 1048576 then (some true) else ((laws_szKeys.f l1_0 a1_1 1048576).bind fun t188 => (if t188 < 0 then (some true) else ((laws_toIntS.f k l0).bind fun t189 => ((laws_toKeys.f k l1_0 a1_1).bind fun bt192 => ((laws_toIntS.f k l2).bind fun t196 => ((spec_SignBy.f k t189 bt192.1 bt192.2 t196).bind fun t199 => ((laws_toIntS.f k l0).bind fun t202 => ((laws_toKeys.f k l1_0 a1_1).bind fun bt205 => ((laws_toIntS.f k l2).bind fun t210 => ((impl_SignBy.f k t202 bt205.1 bt205.2 t210).bind fun t213 => ((laws_eqSigS.f k t213 t199).bind fun t216 => (if t216 = true then ((laws_toIntS.f k l0).bind fun t217 => ((laws_eqIntS.f k t202 t217).bind fun t220 => (if t220 = true then ((laws_toKeys.f k l1_0 a1_1).bind fun bt221 => ((laws_eqKeys.f k bt205.1 bt205.2 bt221.1 bt221.2).bind fun t225 => (if t225 = true then ((laws_toIntS.f k l2).bind fun t226 => ((laws_eqIntS.f k t210 t226).bind fun t229 => (if t229 = true then ((laws_markIntS.f k t202 1).bind fun bt230 => ((laws_markKeys.f k bt205.1 bt205.2 bt230.1).bind fun bt232 => ((laws_markIntS.f k t210 bt232.1).bind fun bt234 => (if bt234.1 < 0 then (laws_FnExactSignBy.j0 k l0 l2 t199 t213 true l1_0 a1_1) else ((laws_eqSigS.f k t213 t199).bind fun t236 => (laws_FnExactSignBy.j0 k l0 l2 t199 t213 (!t236) l1_0 a1_1)))))) else (some false)))) else (some false)))) else (some false)))) else (some false))))))))))))))) = some r := h
  clear h
  by_cases c4 : (l0.length : Int) > 1048576
  · rw [if_pos c4] at H
    have c4b0 : decide (1048576 < (l0.length : Int)) = true := decide_eq_true c4
    have c4b1 : decide (1048576 < l0.length) = true := decide_eq_true (by omega)
    clear c4
    obtain rfl := Option.some.inj H
    go_enter Try.func13, Try.ntmps13
    go_wp2_with (first | ((with_reducible refine gate_dst (N := 4) rfl ?_); refine box_event ?hg (N := 4) ?hd (cs := #[.slice A1_0 l1_0.length c1_0, .int .i64 a1_1]) (t := 29) ?hr ?_; (case hd => rfl); (case hg => rfl); (case hr => first | (go_simp; done) | (go_simp; rfl)); intro gb187 hg w5 hbox hb; have n0_ := Aside0.mk (below_step (by repeat (first | (with_reducible first | exact HB.out | apply below_alloc | apply pw_below_drewN | apply below_drew1) | exact HB.out)) hb); have n1_ := Aside0.mk (hbox); have n2_ := Aside0.mk ((by rw [hg]; exact (below_size (by repeat (first | (with_reducible first | exact HB.out | apply below_alloc | apply pw_below_drewN | apply below_drew1) | exact HB.out))) : w.heap.size ≤ gb187)); have n3_ := Aside0.mk ((by rw [hg]; exact (below_size (by repeat (first | (with_reducible first | exact HB.out | apply below_alloc | apply pw_below_drewN | apply below_drew1) | exact HB.out))) : w.heap.size ≤ gb187)); clear HB; have HB := n0_; have BK187 := n1_; have GW187 := n2_; have GE187 := n3_; clear n0_ n1_ n2_ n3_; clear hb hbox hg))
    go_ret
    exact ⟨by first | rfl | (simp [errW_none, errW_some] <;> rfl) | (simp [*, errW_none, errW_some] <;> rfl), by repeat (first | (with_reducible first | exact HB.out | apply below_alloc | apply pw_below_drewN | apply below_drew1 | refine below_set ?_ GE187.out) | exact HB.out)⟩
  · rw [if_neg c4] at H
    have c4b0 : decide (1048576 < (l0.length : Int)) = false := decide_eq_false c4
    have c4b1 : decide (1048576 < l0.length) = false := decide_eq_false (by omega)
    clear c4
    by_cases c6 : (l2.length : Int) > 1048576
    · rw [if_pos c6] at H
      have c6b0 : decide (1048576 < (l2.length : Int)) = true := decide_eq_true c6
      have c6b1 : decide (1048576 < l2.length) = true := decide_eq_true (by omega)
      clear c6
      obtain rfl := Option.some.inj H
      go_enter Try.func13, Try.ntmps13
      go_wp2_with (first | ((with_reducible refine gate_dst (N := 4) rfl ?_); refine box_event ?hg (N := 4) ?hd (cs := #[.slice A1_0 l1_0.length c1_0, .int .i64 a1_1]) (t := 29) ?hr ?_; (case hd => rfl); (case hg => rfl); (case hr => first | (go_simp; done) | (go_simp; rfl)); intro gb187 hg w7 hbox hb; have n0_ := Aside0.mk (below_step (by repeat (first | (with_reducible first | exact HB.out | apply below_alloc | apply pw_below_drewN | apply below_drew1) | exact HB.out)) hb); have n1_ := Aside0.mk (hbox); have n2_ := Aside0.mk ((by rw [hg]; exact (below_size (by repeat (first | (with_reducible first | exact HB.out | apply below_alloc | apply pw_below_drewN | apply below_drew1) | exact HB.out))) : w.heap.size ≤ gb187)); have n3_ := Aside0.mk ((by rw [hg]; exact (below_size (by repeat (first | (with_reducible first | exact HB.out | apply below_alloc | apply pw_below_drewN | apply below_drew1) | exact HB.out))) : w.heap.size ≤ gb187)); clear HB; have HB := n0_; have BK187 := n1_; have GW187 := n2_; have GE187 := n3_; clear n0_ n1_ n2_ n3_; clear hb hbox hg))
      go_ret
      exact ⟨by first | rfl | (simp [errW_none, errW_some] <;> rfl) | (simp [*, errW_none, errW_some] <;> rfl), by repeat (first | (with_reducible first | exact HB.out | apply below_alloc | apply pw_below_drewN | apply below_drew1 | refine below_set ?_ GE187.out) | exact HB.out)⟩
    · rw [if_neg c6] at H
      have c6b0 : decide (1048576 < (l2.length : Int)) = false := decide_eq_false c6
      have c6b1 : decide (1048576 < l2.length) = false := decide_eq_false (by omega)
      clear c6
      replace H := Option.bind_eq_some_iff.mp H
      obtain ⟨t188, A80, H⟩ := H
      replace H : (if t188 < 0 then (some true) else ((laws_toIntS.f k l0).bind fun t189 => ((laws_toKeys.f k l1_0 a1_1).bind fun bt192 => ((laws_toIntS.f k l2).bind fun t196 => ((spec_SignBy.f k t189 bt192.1 bt192.2 t196).bind fun t199 => ((laws_toIntS.f k l0).bind fun t202 => ((laws_toKeys.f k l1_0 a1_1).bind fun bt205 => ((laws_toIntS.f k l2).bind fun t210 => ((impl_SignBy.f k t202 bt205.1 bt205.2 t210).bind fun t213 => ((laws_eqSigS.f k t213 t199).bind fun t216 => (if t216 = true then ((laws_toIntS.f k l0).bind fun t217 => ((laws_eqIntS.f k t202 t217).bind fun t220 => (if t220 = true then ((laws_toKeys.f k l1_0 a1_1).bind fun bt221 => ((laws_eqKeys.f k bt205.1 bt205.2 bt221.1 bt221.2).bind fun t225 => (if t225 = true then ((laws_toIntS.f k l2).bind fun t226 => ((laws_eqIntS.f k t210 t226).bind fun t229 => (if t229 = true then ((laws_markIntS.f k t202 1).bind fun bt230 => ((laws_markKeys.f k bt205.1 bt205.2 bt230.1).bind fun bt232 => ((laws_markIntS.f k t210 bt232.1).bind fun bt234 => (if bt234.1 < 0 then (laws_FnExactSignBy.j0 k l0 l2 t199 t213 true l1_0 a1_1) else ((laws_eqSigS.f k t213 t199).bind fun t236 => (laws_FnExactSignBy.j0 k l0 l2 t199 t213 (!t236) l1_0 a1_1)))))) else (some false)))) else (some false)))) else (some false)))) else (some false)))))))))))) = some r := H
      have A8 := Aside0.mk A80
      clear A80
      by_cases c9 : t188 < 0
      · rw [if_pos c9] at H
        have c9b0 : decide (t188 < 0) = true := decide_eq_true c9
        clear c9
        obtain rfl := Option.some.inj H
        go_enter Try.func13, Try.ntmps13
        go_wp2_with (first | ((with_reducible refine gate_dst (N := 4) rfl ?_); refine box_event ?hg (N := 4) ?hd (cs := #[.slice A1_0 l1_0.length c1_0, .int .i64 a1_1]) (t := 29) ?hr ?_; (case hd => rfl); (case hg => rfl); (case hr => first | (go_simp; done) | (go_simp; rfl)); intro gb187 hg w10 hbox hb; have n0_ := Aside0.mk (below_step (by repeat (first | (with_reducible first | exact HB.out | apply below_alloc | apply pw_below_drewN | apply below_drew1) | exact HB.out)) hb); have n1_ := Aside0.mk (hbox); have n2_ := Aside0.mk ((by rw [hg]; exact (below_size (by repeat (first | (with_reducible first | exact HB.out | apply below_alloc | apply pw_below_drewN | apply below_drew1) | exact HB.out))) : w.heap.size ≤ gb187)); have n3_ := Aside0.mk ((by rw [hg]; exact (below_size (by repeat (first | (with_reducible first | exact HB.out | apply below_alloc | apply pw_below_drewN | apply below_drew1) | exact HB.out))) : w.heap.size ≤ gb187)); clear HB; have HB := n0_; have BK187 := n1_; have GW187 := n2_; have GE187 := n3_; clear n0_ n1_ n2_ n3_; clear hb hbox hg; have hcz11_0 : w10.cell? ⟨gb187, 0, none⟩ = some (.slice A1_0 l1_0.length c1_0) := (blk_cell BK187.out 0).trans rfl; have hcz11_1 : w10.cell? ⟨gb187, 1, none⟩ = some (.int .i64 a1_1) := (blk_cell BK187.out 1).trans rfl; have hfz11_0 := blk_frozen BK187.out 0; have hfz11_1 := blk_frozen BK187.out 1) | ((with_reducible refine gate_callee (f := 20) rfl ?_); refine goesL_ (some 25) rfl rfl Try.func20 (by kernel_rfl) rfl #[.agg #[.slice A1_0 l1_0.length c1_0, .int .i64 a1_1], .int .i64 1048576] rfl (by (try simp only [List.map_toArray, List.map_cons, List.map_nil]); first | done | rfl | (simp only [List.length_drop, List.length_take]; rfl)) ?_; (with_reducible refine (laws_szKeys.calls _ _ l1_0 a1_1 1048576 t188 _ ?side1 ?side2 A8.out).mono ?_); (case side1 => repeat (first | exact (Kd.C_below HR1_0.out HB.out) | (with_reducible refine Kd.C_alloc ?_ _) | (with_reducible refine Kd.C_drewN ?_ _) | (with_reducible refine Kd.C_drew ?_))); (case side2 => exact HC1_0.out); rintro e w12 ⟨rfl, hb⟩; refine ⟨_, rfl, ?_⟩; have n0_ := Aside0.mk (blk_below (g := gb187) (o := .cells #[.slice A1_0 l1_0.length c1_0, .int .i64 a1_1] 29 (0, 0)) (by (with_reducible repeat (first | refine blk_drewN ?_ _ | refine blk_drew ?_ | refine blk_alloc ?_ _)); exact BK187.out) hb); have n1_ := Aside0.mk (below_step (by repeat (first | (with_reducible first | exact HB.out | apply below_alloc | apply pw_below_drewN | apply below_drew1 | refine below_set ?_ GE187.out) | exact HB.out)) hb); clear BK187; clear HB; have BK187 := n0_; have HB := n1_; clear n0_ n1_; (try clear hb); (try clear hb2); (try clear hk); (try clear hi)))
        go_ret
        exact ⟨by first | rfl | (simp [errW_none, errW_some] <;> rfl) | (simp [*, errW_none, errW_some] <;> rfl), by repeat (first | (with_reducible first | exact HB.out | apply below_alloc | apply pw_below_drewN | apply below_drew1 | refine below_set ?_ GE187.out) | exact HB.out)⟩
      · rw [if_neg c9] at H
        have c9b0 : decide (t188 < 0) = false := decide_eq_false c9
        clear c9
        replace H := Option.bind_eq_some_iff.mp H
        obtain ⟨t189, A130, H⟩ := H
        replace H : ((laws_toKeys.f k l1_0 a1_1).bind fun bt192 => ((laws_toIntS.f k l2).bind fun t196 => ((spec_SignBy.f k t189 bt192.1 bt192.2 t196).bind fun t199 => ((laws_toIntS.f k l0).bind fun t202 => ((laws_toKeys.f k l1_0 a1_1).bind fun bt205 => ((laws_toIntS.f k l2).bind fun t210 => ((impl_SignBy.f k t202 bt205.1 bt205.2 t210).bind fun t213 => ((laws_eqSigS.f k t213 t199).bind fun t216 => (if t216 = true then ((laws_toIntS.f k l0).bind fun t217 => ((laws_eqIntS.f k t202 t217).bind fun t220 => (if t220 = true then ((laws_toKeys.f k l1_0 a1_1).bind fun bt221 => ((laws_eqKeys.f k bt205.1 bt205.2 bt221.1 bt221.2).bind fun t225 => (if t225 = true then ((laws_toIntS.f k l2).bind fun t226 => ((laws_eqIntS.f k t210 t226).bind fun t229 => (if t229 = true then ((laws_markIntS.f k t202 1).bind fun bt230 => ((laws_markKeys.f k bt205.1 bt205.2 bt230.1).bind fun bt232 => ((laws_markIntS.f k t210 bt232.1).bind fun bt234 => (if bt234.1 < 0 then (laws_FnExactSignBy.j0 k l0 l2 t199 t213 true l1_0 a1_1) else ((laws_eqSigS.f k t213 t199).bind fun t236 => (laws_FnExactSignBy.j0 k l0 l2 t199 t213 (!t236) l1_0 a1_1)))))) else (some false)))) else (some false)))) else (some false)))) else (some false)))))))))) = some r := H
        have A13 := Aside0.mk A130
        clear A130
        replace H := Option.bind_eq_some_iff.mp H
        obtain ⟨⟨t192, t195⟩, A140, H⟩ := H
        replace H : ((laws_toIntS.f k l2).bind fun t196 => ((spec_SignBy.f k t189 t192 t195 t196).bind fun t199 => ((laws_toIntS.f k l0).bind fun t202 => ((laws_toKeys.f k l1_0 a1_1).bind fun bt205 => ((laws_toIntS.f k l2).bind fun t210 => ((impl_SignBy.f k t202 bt205.1 bt205.2 t210).bind fun t213 => ((laws_eqSigS.f k t213 t199).bind fun t216 => (if t216 = true then ((laws_toIntS.f k l0).bind fun t217 => ((laws_eqIntS.f k t202 t217).bind fun t220 => (if t220 = true then ((laws_toKeys.f k l1_0 a1_1).bind fun bt221 => ((laws_eqKeys.f k bt205.1 bt205.2 bt221.1 bt221.2).bind fun t225 => (if t225 = true then ((laws_toIntS.f k l2).bind fun t226 => ((laws_eqIntS.f k t210 t226).bind fun t229 => (if t229 = true then ((laws_markIntS.f k t202 1).bind fun bt230 => ((laws_markKeys.f k bt205.1 bt205.2 bt230.1).bind fun bt232 => ((laws_markIntS.f k t210 bt232.1).bind fun bt234 => (if bt234.1 < 0 then (laws_FnExactSignBy.j0 k l0 l2 t199 t213 true l1_0 a1_1) else ((laws_eqSigS.f k t213 t199).bind fun t236 => (laws_FnExactSignBy.j0 k l0 l2 t199 t213 (!t236) l1_0 a1_1)))))) else (some false)))) else (some false)))) else (some false)))) else (some false))))))))) = some r := H
        have A14 := Aside0.mk A140
        clear A140
        replace H := Option.bind_eq_some_iff.mp H
        obtain ⟨t196, A150, H⟩ := H
        replace H : ((spec_SignBy.f k t189 t192 t195 t196).bind fun t199 => ((laws_toIntS.f k l0).bind fun t202 => ((laws_toKeys.f k l1_0 a1_1).bind fun bt205 => ((laws_toIntS.f k l2).bind fun t210 => ((impl_SignBy.f k t202 bt205.1 bt205.2 t210).bind fun t213 => ((laws_eqSigS.f k t213 t199).bind fun t216 => (if t216 = true then ((laws_toIntS.f k l0).bind fun t217 => ((laws_eqIntS.f k t202 t217).bind fun t220 => (if t220 = true then ((laws_toKeys.f k l1_0 a1_1).bind fun bt221 => ((laws_eqKeys.f k bt205.1 bt205.2 bt221.1 bt221.2).bind fun t225 => (if t225 = true then ((laws_toIntS.f k l2).bind fun t226 => ((laws_eqIntS.f k t210 t226).bind fun t229 => (if t229 = true then ((laws_markIntS.f k t202 1).bind fun bt230 => ((laws_markKeys.f k bt205.1 bt205.2 bt230.1).bind fun bt232 => ((laws_markIntS.f k t210 bt232.1).bind fun bt234 => (if bt234.1 < 0 then (laws_FnExactSignBy.j0 k l0 l2 t199 t213 true l1_0 a1_1) else ((laws_eqSigS.f k t213 t199).bind fun t236 => (laws_FnExactSignBy.j0 k l0 l2 t199 t213 (!t236) l1_0 a1_1)))))) else (some false)))) else (some false)))) else (some false)))) else (some false)))))))) = some r := H
        have A15 := Aside0.mk A150
        clear A150
        replace H := Option.bind_eq_some_iff.mp H
        obtain ⟨t199, A160, H⟩ := H
        replace H : ((laws_toIntS.f k l0).bind fun t202 => ((laws_toKeys.f k l1_0 a1_1).bind fun bt205 => ((laws_toIntS.f k l2).bind fun t210 => ((impl_SignBy.f k t202 bt205.1 bt205.2 t210).bind fun t213 => ((laws_eqSigS.f k t213 t199).bind fun t216 => (if t216 = true then ((laws_toIntS.f k l0).bind fun t217 => ((laws_eqIntS.f k t202 t217).bind fun t220 => (if t220 = true then ((laws_toKeys.f k l1_0 a1_1).bind fun bt221 => ((laws_eqKeys.f k bt205.1 bt205.2 bt221.1 bt221.2).bind fun t225 => (if t225 = true then ((laws_toIntS.f k l2).bind fun t226 => ((laws_eqIntS.f k t210 t226).bind fun t229 => (if t229 = true then ((laws_markIntS.f k t202 1).bind fun bt230 => ((laws_markKeys.f k bt205.1 bt205.2 bt230.1).bind fun bt232 => ((laws_markIntS.f k t210 bt232.1).bind fun bt234 => (if bt234.1 < 0 then (laws_FnExactSignBy.j0 k l0 l2 t199 t213 true l1_0 a1_1) else ((laws_eqSigS.f k t213 t199).bind fun t236 => (laws_FnExactSignBy.j0 k l0 l2 t199 t213 (!t236) l1_0 a1_1)))))) else (some false)))) else (some false)))) else (some false)))) else (some false))))))) = some r := H
        have A16 := Aside0.mk A160
        clear A160
        replace H := Option.bind_eq_some_iff.mp H
        obtain ⟨t202, A170, H⟩ := H
        replace H : ((laws_toKeys.f k l1_0 a1_1).bind fun bt205 => ((laws_toIntS.f k l2).bind fun t210 => ((impl_SignBy.f k t202 bt205.1 bt205.2 t210).bind fun t213 => ((laws_eqSigS.f k t213 t199).bind fun t216 => (if t216 = true then ((laws_toIntS.f k l0).bind fun t217 => ((laws_eqIntS.f k t202 t217).bind fun t220 => (if t220 = true then ((laws_toKeys.f k l1_0 a1_1).bind fun bt221 => ((laws_eqKeys.f k bt205.1 bt205.2 bt221.1 bt221.2).bind fun t225 => (if t225 = true then ((laws_toIntS.f k l2).bind fun t226 => ((laws_eqIntS.f k t210 t226).bind fun t229 => (if t229 = true then ((laws_markIntS.f k t202 1).bind fun bt230 => ((laws_markKeys.f k bt205.1 bt205.2 bt230.1).bind fun bt232 => ((laws_markIntS.f k t210 bt232.1).bind fun bt234 => (if bt234.1 < 0 then (laws_FnExactSignBy.j0 k l0 l2 t199 t213 true l1_0 a1_1) else ((laws_eqSigS.f k t213 t199).bind fun t236 => (laws_FnExactSignBy.j0 k l0 l2 t199 t213 (!t236) l1_0 a1_1)))))) else (some false)))) else (some false)))) else (some false)))) else (some false)))))) = some r := H
        have A17 := Aside0.mk A170
        clear A170
        replace H := Option.bind_eq_some_iff.mp H
        obtain ⟨⟨t205, t208⟩, A180, H⟩ := H
        replace H : ((laws_toIntS.f k l2).bind fun t210 => ((impl_SignBy.f k t202 t205 t208 t210).bind fun t213 => ((laws_eqSigS.f k t213 t199).bind fun t216 => (if t216 = true then ((laws_toIntS.f k l0).bind fun t217 => ((laws_eqIntS.f k t202 t217).bind fun t220 => (if t220 = true then ((laws_toKeys.f k l1_0 a1_1).bind fun bt221 => ((laws_eqKeys.f k t205 t208 bt221.1 bt221.2).bind fun t225 => (if t225 = true then ((laws_toIntS.f k l2).bind fun t226 => ((laws_eqIntS.f k t210 t226).bind fun t229 => (if t229 = true then ((laws_markIntS.f k t202 1).bind fun bt230 => ((laws_markKeys.f k t205 t208 bt230.1).bind fun bt232 => ((laws_markIntS.f k t210 bt232.1).bind fun bt234 => (if bt234.1 < 0 then (laws_FnExactSignBy.j0 k l0 l2 t199 t213 true l1_0 a1_1) else ((laws_eqSigS.f k t213 t199).bind fun t236 => (laws_FnExactSignBy.j0 k l0 l2 t199 t213 (!t236) l1_0 a1_1)))))) else (some false)))) else (some false)))) else (some false)))) else (some false))))) = some r := H
        have A18 := Aside0.mk A180
        clear A180
        replace H := Option.bind_eq_some_iff.mp H
        obtain ⟨t210, A190, H⟩ := H
        replace H : ((impl_SignBy.f k t202 t205 t208 t210).bind fun t213 => ((laws_eqSigS.f k t213 t199).bind fun t216 => (if t216 = true then ((laws_toIntS.f k l0).bind fun t217 => ((laws_eqIntS.f k t202 t217).bind fun t220 => (if t220 = true then ((laws_toKeys.f k l1_0 a1_1).bind fun bt221 => ((laws_eqKeys.f k t205 t208 bt221.1 bt221.2).bind fun t225 => (if t225 = true then ((laws_toIntS.f k l2).bind fun t226 => ((laws_eqIntS.f k t210 t226).bind fun t229 => (if t229 = true then ((laws_markIntS.f k t202 1).bind fun bt230 => ((laws_markKeys.f k t205 t208 bt230.1).bind fun bt232 => ((laws_markIntS.f k t210 bt232.1).bind fun bt234 => (if bt234.1 < 0 then (laws_FnExactSignBy.j0 k l0 l2 t199 t213 true l1_0 a1_1) else ((laws_eqSigS.f k t213 t199).bind fun t236 => (laws_FnExactSignBy.j0 k l0 l2 t199 t213 (!t236) l1_0 a1_1)))))) else (some false)))) else (some false)))) else (some false)))) else (some false)))) = some r := H
        have A19 := Aside0.mk A190
        clear A190
        replace H := Option.bind_eq_some_iff.mp H
        obtain ⟨t213, A200, H⟩ := H
        replace H : ((laws_eqSigS.f k t213 t199).bind fun t216 => (if t216 = true then ((laws_toIntS.f k l0).bind fun t217 => ((laws_eqIntS.f k t202 t217).bind fun t220 => (if t220 = true then ((laws_toKeys.f k l1_0 a1_1).bind fun bt221 => ((laws_eqKeys.f k t205 t208 bt221.1 bt221.2).bind fun t225 => (if t225 = true then ((laws_toIntS.f k l2).bind fun t226 => ((laws_eqIntS.f k t210 t226).bind fun t229 => (if t229 = true then ((laws_markIntS.f k t202 1).bind fun bt230 => ((laws_markKeys.f k t205 t208 bt230.1).bind fun bt232 => ((laws_markIntS.f k t210 bt232.1).bind fun bt234 => (if bt234.1 < 0 then (laws_FnExactSignBy.j0 k l0 l2 t199 t213 true l1_0 a1_1) else ((laws_eqSigS.f k t213 t199).bind fun t236 => (laws_FnExactSignBy.j0 k l0 l2 t199 t213 (!t236) l1_0 a1_1)))))) else (some false)))) else (some false)))) else (some false)))) else (some false))) = some r := H
        have A20 := Aside0.mk A200
        clear A200
        replace H := Option.bind_eq_some_iff.mp H
        obtain ⟨t216, A210, H⟩ := H
        replace H : (if t216 = true then ((laws_toIntS.f k l0).bind fun t217 => ((laws_eqIntS.f k t202 t217).bind fun t220 => (if t220 = true then ((laws_toKeys.f k l1_0 a1_1).bind fun bt221 => ((laws_eqKeys.f k t205 t208 bt221.1 bt221.2).bind fun t225 => (if t225 = true then ((laws_toIntS.f k l2).bind fun t226 => ((laws_eqIntS.f k t210 t226).bind fun t229 => (if t229 = true then ((laws_markIntS.f k t202 1).bind fun bt230 => ((laws_markKeys.f k t205 t208 bt230.1).bind fun bt232 => ((laws_markIntS.f k t210 bt232.1).bind fun bt234 => (if bt234.1 < 0 then (laws_FnExactSignBy.j0 k l0 l2 t199 t213 true l1_0 a1_1) else ((laws_eqSigS.f k t213 t199).bind fun t236 => (laws_FnExactSignBy.j0 k l0 l2 t199 t213 (!t236) l1_0 a1_1)))))) else (some false)))) else (some false)))) else (some false)))) else (some false)) = some r := H
        have A21 := Aside0.mk A210
        clear A210
        by_cases c22 : t216 = true
        · subst c22
          have H1 : ((laws_toIntS.f k l0).bind fun t217 => ((laws_eqIntS.f k t202 t217).bind fun t220 => (if t220 = true then ((laws_toKeys.f k l1_0 a1_1).bind fun bt221 => ((laws_eqKeys.f k t205 t208 bt221.1 bt221.2).bind fun t225 => (if t225 = true then ((laws_toIntS.f k l2).bind fun t226 => ((laws_eqIntS.f k t210 t226).bind fun t229 => (if t229 = true then ((laws_markIntS.f k t202 1).bind fun bt230 => ((laws_markKeys.f k t205 t208 bt230.1).bind fun bt232 => ((laws_markIntS.f k t210 bt232.1).bind fun bt234 => (if bt234.1 < 0 then (laws_FnExactSignBy.j0 k l0 l2 t199 t213 true l1_0 a1_1) else ((laws_eqSigS.f k t213 t199).bind fun t236 => (laws_FnExactSignBy.j0 k l0 l2 t199 t213 (!t236) l1_0 a1_1)))))) else (some false)))) else (some false)))) else (some false)))) = some r := by rw [if_pos rfl] at H; exact H
          clear H
          have H := H1
          clear H1
          replace H := Option.bind_eq_some_iff.mp H
          obtain ⟨t217, A230, H⟩ := H
          replace H : ((laws_eqIntS.f k t202 t217).bind fun t220 => (if t220 = true then ((laws_toKeys.f k l1_0 a1_1).bind fun bt221 => ((laws_eqKeys.f k t205 t208 bt221.1 bt221.2).bind fun t225 => (if t225 = true then ((laws_toIntS.f k l2).bind fun t226 => ((laws_eqIntS.f k t210 t226).bind fun t229 => (if t229 = true then ((laws_markIntS.f k t202 1).bind fun bt230 => ((laws_markKeys.f k t205 t208 bt230.1).bind fun bt232 => ((laws_markIntS.f k t210 bt232.1).bind fun bt234 => (if bt234.1 < 0 then (laws_FnExactSignBy.j0 k l0 l2 t199 t213 true l1_0 a1_1) else ((laws_eqSigS.f k t213 t199).bind fun t236 => (laws_FnExactSignBy.j0 k l0 l2 t199 t213 (!t236) l1_0 a1_1)))))) else (some false)))) else (some false)))) else (some false))) = some r := H
          have A23 := Aside0.mk A230
          clear A230
          replace H := Option.bind_eq_some_iff.mp H
          obtain ⟨t220, A240, H⟩ := H
          replace H : (if t220 = true then ((laws_toKeys.f k l1_0 a1_1).bind fun bt221 => ((laws_eqKeys.f k t205 t208 bt221.1 bt221.2).bind fun t225 => (if t225 = true then ((laws_toIntS.f k l2).bind fun t226 => ((laws_eqIntS.f k t210 t226).bind fun t229 => (if t229 = true then ((laws_markIntS.f k t202 1).bind fun bt230 => ((laws_markKeys.f k t205 t208 bt230.1).bind fun bt232 => ((laws_markIntS.f k t210 bt232.1).bind fun bt234 => (if bt234.1 < 0 then (laws_FnExactSignBy.j0 k l0 l2 t199 t213 true l1_0 a1_1) else ((laws_eqSigS.f k t213 t199).bind fun t236 => (laws_FnExactSignBy.j0 k l0 l2 t199 t213 (!t236) l1_0 a1_1)))))) else (some false)))) else (some false)))) else (some false)) = some r := H
          have A24 := Aside0.mk A240
          clear A240
          by_cases c25 : t220 = true
          · subst c25
            have H1 : ((laws_toKeys.f k l1_0 a1_1).bind fun bt221 => ((laws_eqKeys.f k t205 t208 bt221.1 bt221.2).bind fun t225 => (if t225 = true then ((laws_toIntS.f k l2).bind fun t226 => ((laws_eqIntS.f k t210 t226).bind fun t229 => (if t229 = true then ((laws_markIntS.f k t202 1).bind fun bt230 => ((laws_markKeys.f k t205 t208 bt230.1).bind fun bt232 => ((laws_markIntS.f k t210 bt232.1).bind fun bt234 => (if bt234.1 < 0 then (laws_FnExactSignBy.j0 k l0 l2 t199 t213 true l1_0 a1_1) else ((laws_eqSigS.f k t213 t199).bind fun t236 => (laws_FnExactSignBy.j0 k l0 l2 t199 t213 (!t236) l1_0 a1_1)))))) else (some false)))) else (some false)))) = some r := by rw [if_pos rfl] at H; exact H
            clear H
            have H := H1
            clear H1
            replace H := Option.bind_eq_some_iff.mp H
            obtain ⟨⟨t221, t224⟩, A260, H⟩ := H
            replace H : ((laws_eqKeys.f k t205 t208 t221 t224).bind fun t225 => (if t225 = true then ((laws_toIntS.f k l2).bind fun t226 => ((laws_eqIntS.f k t210 t226).bind fun t229 => (if t229 = true then ((laws_markIntS.f k t202 1).bind fun bt230 => ((laws_markKeys.f k t205 t208 bt230.1).bind fun bt232 => ((laws_markIntS.f k t210 bt232.1).bind fun bt234 => (if bt234.1 < 0 then (laws_FnExactSignBy.j0 k l0 l2 t199 t213 true l1_0 a1_1) else ((laws_eqSigS.f k t213 t199).bind fun t236 => (laws_FnExactSignBy.j0 k l0 l2 t199 t213 (!t236) l1_0 a1_1)))))) else (some false)))) else (some false))) = some r := H
            have A26 := Aside0.mk A260
            clear A260
            replace H := Option.bind_eq_some_iff.mp H
            obtain ⟨t225, A270, H⟩ := H
            replace H : (if t225 = true then ((laws_toIntS.f k l2).bind fun t226 => ((laws_eqIntS.f k t210 t226).bind fun t229 => (if t229 = true then ((laws_markIntS.f k t202 1).bind fun bt230 => ((laws_markKeys.f k t205 t208 bt230.1).bind fun bt232 => ((laws_markIntS.f k t210 bt232.1).bind fun bt234 => (if bt234.1 < 0 then (laws_FnExactSignBy.j0 k l0 l2 t199 t213 true l1_0 a1_1) else ((laws_eqSigS.f k t213 t199).bind fun t236 => (laws_FnExactSignBy.j0 k l0 l2 t199 t213 (!t236) l1_0 a1_1)))))) else (some false)))) else (some false)) = some r := H
            have A27 := Aside0.mk A270
            clear A270
            by_cases c28 : t225 = true
            · subst c28
              have H1 : ((laws_toIntS.f k l2).bind fun t226 => ((laws_eqIntS.f k t210 t226).bind fun t229 => (if t229 = true then ((laws_markIntS.f k t202 1).bind fun bt230 => ((laws_markKeys.f k t205 t208 bt230.1).bind fun bt232 => ((laws_markIntS.f k t210 bt232.1).bind fun bt234 => (if bt234.1 < 0 then (laws_FnExactSignBy.j0 k l0 l2 t199 t213 true l1_0 a1_1) else ((laws_eqSigS.f k t213 t199).bind fun t236 => (laws_FnExactSignBy.j0 k l0 l2 t199 t213 (!t236) l1_0 a1_1)))))) else (some false)))) = some r := by rw [if_pos rfl] at H; exact H
              clear H
              have H := H1
              clear H1
              replace H := Option.bind_eq_some_iff.mp H
              obtain ⟨t226, A290, H⟩ := H
              replace H : ((laws_eqIntS.f k t210 t226).bind fun t229 => (if t229 = true then ((laws_markIntS.f k t202 1).bind fun bt230 => ((laws_markKeys.f k t205 t208 bt230.1).bind fun bt232 => ((laws_markIntS.f k t210 bt232.1).bind fun bt234 => (if bt234.1 < 0 then (laws_FnExactSignBy.j0 k l0 l2 t199 t213 true l1_0 a1_1) else ((laws_eqSigS.f k t213 t199).bind fun t236 => (laws_FnExactSignBy.j0 k l0 l2 t199 t213 (!t236) l1_0 a1_1)))))) else (some false))) = some r := H
              have A29 := Aside0.mk A290
              clear A290
              replace H := Option.bind_eq_some_iff.mp H
              obtain ⟨t229, A300, H⟩ := H
              replace H : (if t229 = true then ((laws_markIntS.f k t202 1).bind fun bt230 => ((laws_markKeys.f k t205 t208 bt230.1).bind fun bt232 => ((laws_markIntS.f k t210 bt232.1).bind fun bt234 => (if bt234.1 < 0 then (laws_FnExactSignBy.j0 k l0 l2 t199 t213 true l1_0 a1_1) else ((laws_eqSigS.f k t213 t199).bind fun t236 => (laws_FnExactSignBy.j0 k l0 l2 t199 t213 (!t236) l1_0 a1_1)))))) else (some false)) = some r := H
              have A30 := Aside0.mk A300
              clear A300
              by_cases c31 : t229 = true
              · subst c31
                have H1 : ((laws_markIntS.f k t202 1).bind fun bt230 => ((laws_markKeys.f k t205 t208 bt230.1).bind fun bt232 => ((laws_markIntS.f k t210 bt232.1).bind fun bt234 => (if bt234.1 < 0 then (laws_FnExactSignBy.j0 k l0 l2 t199 t213 true l1_0 a1_1) else ((laws_eqSigS.f k t213 t199).bind fun t236 => (laws_FnExactSignBy.j0 k l0 l2 t199 t213 (!t236) l1_0 a1_1)))))) = some r := by rw [if_pos rfl] at H; exact H
                clear H
                have H := H1
                clear H1
                replace H := Option.bind_eq_some_iff.mp H
                obtain ⟨⟨t230, t231⟩, A320, H⟩ := H
                replace H : ((laws_markKeys.f k t205 t208 t230).bind fun bt232 => ((laws_markIntS.f k t210 bt232.1).bind fun bt234 => (if bt234.1 < 0 then (laws_FnExactSignBy.j0 k l0 l2 t199 t213 true l1_0 a1_1) else ((laws_eqSigS.f k t213 t199).bind fun t236 => (laws_FnExactSignBy.j0 k l0 l2 t199 t213 (!t236) l1_0 a1_1))))) = some r := H
                have A32 := Aside0.mk A320
                clear A320
                replace H := Option.bind_eq_some_iff.mp H
                obtain ⟨⟨t232, t233⟩, A330, H⟩ := H
                replace H : ((laws_markIntS.f k t210 t232).bind fun bt234 => (if bt234.1 < 0 then (laws_FnExactSignBy.j0 k l0 l2 t199 t213 true l1_0 a1_1) else ((laws_eqSigS.f k t213 t199).bind fun t236 => (laws_FnExactSignBy.j0 k l0 l2 t199 t213 (!t236) l1_0 a1_1)))) = some r := H
                have A33 := Aside0.mk A330
                clear A330
                replace H := Option.bind_eq_some_iff.mp H
                obtain ⟨⟨t234, t235⟩, A340, H⟩ := H
                replace H : (if t234 < 0 then (laws_FnExactSignBy.j0 k l0 l2 t199 t213 true l1_0 a1_1) else ((laws_eqSigS.f k t213 t199).bind fun t236 => (laws_FnExactSignBy.j0 k l0 l2 t199 t213 (!t236) l1_0 a1_1))) = some r := H
                have A34 := Aside0.mk A340
                clear A340
                have HC35 := Aside0.mk H
                clear H
                go_enter Try.func13, Try.ntmps13
                try go_wp2_with (first | ((with_reducible refine gate_dst (N := 4) rfl ?_); refine box_event ?hg (N := 4) ?hd (cs := #[.slice A1_0 l1_0.length c1_0, .int .i64 a1_1]) (t := 29) ?hr ?_; (case hd => rfl); (case hg => rfl); (case hr => first | (go_simp; done) | (go_simp; rfl)); intro gb187 hg w36 hbox hb; have n0_ := Aside0.mk (below_step (by repeat (first | (with_reducible first | exact HB.out | apply below_alloc | apply pw_below_drewN | apply below_drew1) | exact HB.out)) hb); have n1_ := Aside0.mk (hbox); have n2_ := Aside0.mk ((by rw [hg]; exact (below_size (by repeat (first | (with_reducible first | exact HB.out | apply below_alloc | apply pw_below_drewN | apply below_drew1) | exact HB.out))) : w.heap.size ≤ gb187)); have n3_ := Aside0.mk ((by rw [hg]; exact (below_size (by repeat (first | (with_reducible first | exact HB.out | apply below_alloc | apply pw_below_drewN | apply below_drew1) | exact HB.out))) : w.heap.size ≤ gb187)); clear HB; have HB := n0_; have BK187 := n1_; have GW187 := n2_; have GE187 := n3_; clear n0_ n1_ n2_ n3_; clear hb hbox hg; have hcz37_0 : w36.cell? ⟨gb187, 0, none⟩ = some (.slice A1_0 l1_0.length c1_0) := (blk_cell BK187.out 0).trans rfl; have hcz37_1 : w36.cell? ⟨gb187, 1, none⟩ = some (.int .i64 a1_1) := (blk_cell BK187.out 1).trans rfl; have hfz37_0 := blk_frozen BK187.out 0; have hfz37_1 := blk_frozen BK187.out 1) | ((with_reducible refine gate_callee (f := 20) rfl ?_); refine goesL_ (some 25) rfl rfl Try.func20 (by kernel_rfl) rfl #[.agg #[.slice A1_0 l1_0.length c1_0, .int .i64 a1_1], .int .i64 1048576] rfl (by (try simp only [List.map_toArray, List.map_cons, List.map_nil]); first | done | rfl | (simp only [List.length_drop, List.length_take]; rfl)) ?_; (with_reducible refine (laws_szKeys.calls _ _ l1_0 a1_1 1048576 t188 _ ?side1 ?side2 A8.out).mono ?_); (case side1 => repeat (first | exact (Kd.C_below HR1_0.out HB.out) | (with_reducible refine Kd.C_alloc ?_ _) | (with_reducible refine Kd.C_drewN ?_ _) | (with_reducible refine Kd.C_drew ?_))); (case side2 => exact HC1_0.out); rintro e w38 ⟨rfl, hb⟩; refine ⟨_, rfl, ?_⟩; have n0_ := Aside0.mk (blk_below (g := gb187) (o := .cells #[.slice A1_0 l1_0.length c1_0, .int .i64 a1_1] 29 (0, 0)) (by (with_reducible repeat (first | refine blk_drewN ?_ _ | refine blk_drew ?_ | refine blk_alloc ?_ _)); exact BK187.out) hb); have n1_ := Aside0.mk (below_step (by repeat (first | (with_reducible first | exact HB.out | apply below_alloc | apply pw_below_drewN | apply below_drew1 | refine below_set ?_ GE187.out) | exact HB.out)) hb); clear BK187; clear HB; have BK187 := n0_; have HB := n1_; clear n0_ n1_; (try clear hb); (try clear hb2); (try clear hk); (try clear hi)))
                have n0_ := Aside0.mk (blk_drew BK187.out)
                have n1_ := Aside0.mk (below_drew1 HB.out)
                clear BK187
                clear HB
                have BK187 := n0_
                have HB := n1_
                clear n0_ n1_
                refine start_ (n := 8) (S := fun w' => w'.cell? ⟨gb187, 0, none⟩ = some (.slice A1_0 l1_0.length c1_0) ∧ w'.cell? ⟨gb187, 1, none⟩ = some (.int .i64 a1_1)) (ds := []) #[false, false, false, false, false, false, false, false] (by kernel_rfl) rfl rfl ⟨(blk_cell BK187.out 0).trans rfl, (blk_cell BK187.out 1).trans rfl⟩ (fun hHeld => ?_); refine with_tabW laws_FnExactSignBy.tab9 laws_FnExactSignBy.bits9 (fun HT_ HW_ => ?_)
                generalize w38.drew = w39 at BK187 HB hHeld ⊢
                refine pure_ (i := 0) (N := some 28) (v := ?_) (a' := ?_) #[true, false, false, false, false, false, false, false] rfl rfl (any_of HT_.out (by kernel_rfl)) (fun _ _ _ h => h) (Or.inl ⟨by rfl, ?_⟩) ?_ ?_
                rotate_left
                · intro w'
                  go_simp
                  with_reducible rfl
                rotate_left
                · simp only [Act.put, List.setIfInBounds_toArray, List.set_cons_zero, List.set_cons_succ, i64_w, i32_w]
                  rfl
                refine pure_ (i := 4) (N := some 32) (v := ?_) (a' := ?_) #[true, false, false, false, true, false, false, false] rfl rfl (any_of HT_.out (by kernel_rfl)) (fun _ _ _ h => h) (Or.inl ⟨by rfl, ?_⟩) ?_ ?_
                rotate_left
                · intro w'
                  go_simp
                  with_reducible rfl
                rotate_left
                · simp only [Act.put, List.setIfInBounds_toArray, List.set_cons_zero, List.set_cons_succ, i64_w, i32_w]
                  rfl
                refine take_ (i := 2) (N := some 30) (v := ?_) (a' := ?_) #[true, false, true, false, true, false, false, false] rfl rfl (take_ofW HT_.out HW_.out (by kernel_rfl)) (fun _ _ _ h => h) (Or.inl ⟨by rfl, ?_⟩) hHeld ?_ ?_
                rotate_left
                · rintro w' ⟨s0, s1⟩
                  go_simp
                  with_reducible rfl
                rotate_left
                · simp only [Act.put, List.setIfInBounds_toArray, List.set_cons_zero, List.set_cons_succ, i64_w, i32_w]
                  rfl
                refine one_ (i := 1) (N := some 29) #[true, true, true, false, true, false, false, false] rfl rfl (one_of HT_.out (by kernel_rfl)) (by decide) (fun K hK => ?_)
                refine goes_ Try.func36 (by kernel_rfl) rfl #[.slice A0 l0.length c0] (by rfl) rfl rfl (by (try simp only [List.map_toArray, List.map_cons, List.map_nil]); first | done | rfl | (simp only [List.length_drop, List.length_take]; rfl)) ?_
                with_reducible refine (laws_toIntS.calls k _ _ l0 t189 _ ?side1 ?side2 A13.out).mono ?_
                (case side1 => repeat (first | exact (Kd.C_below HR0.out HB.out) | (with_reducible refine Kd.C_alloc ?_ _) | (with_reducible refine Kd.C_drewN ?_ _) | (with_reducible refine Kd.C_drew ?_)))
                (case side2 => exact HC0.out)
                rintro e w40 ⟨v190, rfl, ho0, hb⟩
                refine ⟨_, rfl, ?_⟩
                have n0_ := Aside0.mk (Kd.R_lower ho0 (below_size (by repeat (first | (with_reducible first | exact HB.out | apply below_alloc | apply pw_below_drewN | apply below_drew1 | refine below_set ?_ GE187.out) | exact HB.out))))
                have n1_ := Aside0.mk (blk_below (g := gb187) (o := .cells #[.slice A1_0 l1_0.length c1_0, .int .i64 a1_1] 29 (0, 0)) (by (with_reducible repeat (first | refine blk_drewN ?_ _ | refine blk_drew ?_ | refine blk_alloc ?_ _)); exact BK187.out) hb)
                have n2_ := Aside0.mk (below_step (by repeat (first | (with_reducible first | exact HB.out | apply below_alloc | apply pw_below_drewN | apply below_drew1 | refine below_set ?_ GE187.out) | exact HB.out)) hb)
                clear BK187
                clear HB
                have HO191 := n0_
                have BK187 := n1_
                have HB := n2_
                clear n0_ n1_ n2_
                (try clear hb)
                (try clear hb2)
                (try clear hk)
                (try clear hi)
                (try clear ho0)
                refine hK.out _ _ ⟨(blk_cell BK187.out 0).trans rfl, (blk_cell BK187.out 1).trans rfl⟩ (fun hHeld => ?_)
                clear hK K
                refine norm_ (a' := ?_) ?_ ?_
                rotate_left
                · show Act.put _ (some 29) _ = _
                  simp only [Act.put, List.setIfInBounds_toArray, List.set_cons_zero, List.set_cons_succ, i64_w, i32_w]
                  rfl
                refine one_ (i := 3) (N := some 31) #[true, true, true, true, true, false, false, false] rfl rfl (one_of HT_.out (by kernel_rfl)) (by decide) (fun K hK => ?_)
                refine goes_ Try.func22 (by kernel_rfl) rfl #[.agg #[.slice A1_0 l1_0.length c1_0, .int .i64 a1_1]] (by rfl) rfl rfl (by (try simp only [List.map_toArray, List.map_cons, List.map_nil]); first | done | rfl | (simp only [List.length_drop, List.length_take]; rfl)) ?_
                with_reducible refine (laws_toKeys.calls k _ _ l1_0 a1_1 t192 t195 _ ?side1 ?side2 A14.out).mono ?_
                (case side1 => repeat (first | exact (Kd.C_below HR1_0.out HB.out) | (with_reducible refine Kd.C_alloc ?_ _) | (with_reducible refine Kd.C_drewN ?_ _) | (with_reducible refine Kd.C_drew ?_)))
                (case side2 => exact HC1_0.out)
                rintro e w41 ⟨v193, rfl, ho0, hb⟩
                refine ⟨_, rfl, ?_⟩
                have n0_ := Aside0.mk (Kd.R_elder' (by (with_reducible repeat (first | apply Kd.R_alloc | apply Kd.R_drewN | apply Kd.R_drew)); exact HO191.out) (Kd.R_base ho0) hb)
                have n1_ := Aside0.mk (Kd.R_lower (Kd.R_new' ho0 (Kd.R_lt (by (with_reducible repeat (first | apply Kd.R_alloc | apply Kd.R_drewN | apply Kd.R_drew)); exact HO191.out))) (below_size (by repeat (first | (with_reducible first | exact HB.out | apply below_alloc | apply pw_below_drewN | apply below_drew1 | refine below_set ?_ GE187.out) | exact HB.out))))
                have n2_ := Aside0.mk (blk_below (g := gb187) (o := .cells #[.slice A1_0 l1_0.length c1_0, .int .i64 a1_1] 29 (0, 0)) (by (with_reducible repeat (first | refine blk_drewN ?_ _ | refine blk_drew ?_ | refine blk_alloc ?_ _)); exact BK187.out) hb)
                have n3_ := Aside0.mk (below_step (by repeat (first | (with_reducible first | exact HB.out | apply below_alloc | apply pw_below_drewN | apply below_drew1 | refine below_set ?_ GE187.out) | exact HB.out)) hb)
                clear HO191
                clear BK187
                clear HB
                have HO191 := n0_
                have HO194 := n1_
                have BK187 := n2_
                have HB := n3_
                clear n0_ n1_ n2_ n3_
                (try clear hb)
                (try clear hb2)
                (try clear hk)
                (try clear hi)
                (try clear ho0)
                refine hK.out _ _ ⟨(blk_cell BK187.out 0).trans rfl, (blk_cell BK187.out 1).trans rfl⟩ (fun hHeld => ?_)
                clear hK K
                refine norm_ (a' := ?_) ?_ ?_
                rotate_left
                · show Act.put _ (some 31) _ = _
                  simp only [Act.put, List.setIfInBounds_toArray, List.set_cons_zero, List.set_cons_succ, i64_w, i32_w]
                  rfl
                refine one_ (i := 5) (N := some 33) #[true, true, true, true, true, true, false, false] rfl rfl (one_of HT_.out (by kernel_rfl)) (by decide) (fun K hK => ?_)
                refine goes_ Try.func36 (by kernel_rfl) rfl #[.slice A2 l2.length c2] (by rfl) rfl rfl (by (try simp only [List.map_toArray, List.map_cons, List.map_nil]); first | done | rfl | (simp only [List.length_drop, List.length_take]; rfl)) ?_
                with_reducible refine (laws_toIntS.calls k _ _ l2 t196 _ ?side1 ?side2 A15.out).mono ?_
                (case side1 => repeat (first | exact (Kd.C_below HR2.out HB.out) | (with_reducible refine Kd.C_alloc ?_ _) | (with_reducible refine Kd.C_drewN ?_ _) | (with_reducible refine Kd.C_drew ?_)))
                (case side2 => exact HC2.out)
                rintro e w42 ⟨v197, rfl, ho0, hb⟩
                refine ⟨_, rfl, ?_⟩
                have n0_ := Aside0.mk (Kd.R_elder' (by (with_reducible repeat (first | apply Kd.R_alloc | apply Kd.R_drewN | apply Kd.R_drew)); exact HO191.out) (Kd.R_base ho0) hb)
                have n1_ := Aside0.mk (Kd.R_elder' (by (with_reducible repeat (first | apply Kd.R_alloc | apply Kd.R_drewN | apply Kd.R_drew)); exact HO194.out) (Kd.R_base ho0) hb)
                have n2_ := Aside0.mk (Kd.R_lower (Kd.R_new' (Kd.R_new' ho0 (Kd.R_lt (by (with_reducible repeat (first | apply Kd.R_alloc | apply Kd.R_drewN | apply Kd.R_drew)); exact HO191.out))) (Kd.R_lt (by (with_reducible repeat (first | apply Kd.R_alloc | apply Kd.R_drewN | apply Kd.R_drew)); exact HO194.out))) (below_size (by repeat (first | (with_reducible first | exact HB.out | apply below_alloc | apply pw_below_drewN | apply below_drew1 | refine below_set ?_ GE187.out) | exact HB.out))))
                have n3_ := Aside0.mk (blk_below (g := gb187) (o := .cells #[.slice A1_0 l1_0.length c1_0, .int .i64 a1_1] 29 (0, 0)) (by (with_reducible repeat (first | refine blk_drewN ?_ _ | refine blk_drew ?_ | refine blk_alloc ?_ _)); exact BK187.out) hb)
                have n4_ := Aside0.mk (below_step (by repeat (first | (with_reducible first | exact HB.out | apply below_alloc | apply pw_below_drewN | apply below_drew1 | refine below_set ?_ GE187.out) | exact HB.out)) hb)
                clear HO191
                clear HO194
                clear BK187
                clear HB
                have HO191 := n0_
                have HO194 := n1_
                have HO198 := n2_
                have BK187 := n3_
                have HB := n4_
                clear n0_ n1_ n2_ n3_ n4_
                (try clear hb)
                (try clear hb2)
                (try clear hk)
                (try clear hi)
                (try clear ho0)
                obtain ⟨Ao43, co43, eo43⟩ := Kd.R_slice HO191.out
                (first | subst eo43 | (injection eo43 with f1_ f2_ f3_; have f4_ := f1_.symm; have f5_ := f3_.symm; clear f1_ f2_ f3_; subst f4_; subst f5_))
                obtain ⟨Ao44, co44, eo44⟩ := Kd.R_slice HO194.out
                (first | subst eo44 | (injection eo44 with f1_ f2_ f3_; have f4_ := f1_.symm; have f5_ := f3_.symm; clear f1_ f2_ f3_; subst f4_; subst f5_))
                obtain ⟨Ao45, co45, eo45⟩ := Kd.R_slice HO198.out
                (first | subst eo45 | (injection eo45 with f1_ f2_ f3_; have f4_ := f1_.symm; have f5_ := f3_.symm; clear f1_ f2_ f3_; subst f4_; subst f5_))
                refine hK.out _ _ ⟨(blk_cell BK187.out 0).trans rfl, (blk_cell BK187.out 1).trans rfl⟩ (fun hHeld => ?_)
                clear hK K
                refine norm_ (a' := ?_) ?_ ?_
                rotate_left
                · show Act.put _ (some 33) _ = _
                  simp only [Act.put, List.setIfInBounds_toArray, List.set_cons_zero, List.set_cons_succ, i64_w, i32_w]
                  rfl
                refine one_ (i := 6) (N := some 34) #[true, true, true, true, true, true, true, false] rfl rfl (one_of HT_.out (by kernel_rfl)) (by decide) (fun K hK => ?_)
                refine goes_ Try.func48 (by kernel_rfl) rfl #[.slice Ao43 t189.length co43, .agg #[.slice Ao44 t192.length co44, .int .i64 t195], .slice Ao45 t196.length co45] (by rfl) rfl rfl (by (try simp only [List.map_toArray, List.map_cons, List.map_nil]); first | done | rfl | (simp only [List.length_drop, List.length_take]; rfl)) ?_
                with_reducible refine (spec_SignBy.calls k _ _ t189 _ _ t192 t195 _ _ t196 t199 _ ?side1 ?side2 ?side3 ?side4 ?side5 ?side6 A16.out).mono ?_
                (case side1 => repeat (first | exact (Kd.R_reads' HO191.out).2.2 | (with_reducible refine Kd.C_alloc ?_ _) | (with_reducible refine Kd.C_drewN ?_ _) | (with_reducible refine Kd.C_drew ?_)))
                (case side2 => exact (Kd.R_reads' HO191.out).2.1)
                (case side3 => repeat (first | exact (Kd.R_reads' HO194.out).2.2 | (with_reducible refine Kd.C_alloc ?_ _) | (with_reducible refine Kd.C_drewN ?_ _) | (with_reducible refine Kd.C_drew ?_)))
                (case side4 => exact (Kd.R_reads' HO194.out).2.1)
                (case side5 => repeat (first | exact (Kd.R_reads' HO198.out).2.2 | (with_reducible refine Kd.C_alloc ?_ _) | (with_reducible refine Kd.C_drewN ?_ _) | (with_reducible refine Kd.C_drew ?_)))
                (case side6 => exact (Kd.R_reads' HO198.out).2.1)
                rintro e w46 ⟨v200, rfl, ho0, hb⟩
                refine ⟨_, rfl, ?_⟩
                have n0_ := Aside0.mk (Kd.R_below (by (with_reducible repeat (first | apply Kd.R_alloc | apply Kd.R_drewN | apply Kd.R_drew)); exact HO191.out) hb)
                have n1_ := Aside0.mk (Kd.R_below (by (with_reducible repeat (first | apply Kd.R_alloc | apply Kd.R_drewN | apply Kd.R_drew)); exact HO194.out) hb)
                have n2_ := Aside0.mk (Kd.R_below (by (with_reducible repeat (first | apply Kd.R_alloc | apply Kd.R_drewN | apply Kd.R_drew)); exact HO198.out) hb)
                have n3_ := Aside0.mk (Kd.R_lower ho0 (below_size (by repeat (first | (with_reducible first | exact HB.out | apply below_alloc | apply pw_below_drewN | apply below_drew1 | refine below_set ?_ GE187.out) | exact HB.out))))
                have n4_ := Aside0.mk (blk_below (g := gb187) (o := .cells #[.slice A1_0 l1_0.length c1_0, .int .i64 a1_1] 29 (0, 0)) (by (with_reducible repeat (first | refine blk_drewN ?_ _ | refine blk_drew ?_ | refine blk_alloc ?_ _)); exact BK187.out) hb)
                have n5_ := Aside0.mk (below_step (by repeat (first | (with_reducible first | exact HB.out | apply below_alloc | apply pw_below_drewN | apply below_drew1 | refine below_set ?_ GE187.out) | exact HB.out)) hb)
                clear HO191
                clear HO194
                clear HO198
                clear BK187
                clear HB
                have HO191 := n0_
                have HO194 := n1_
                have HO198 := n2_
                have HO201 := n3_
                have BK187 := n4_
                have HB := n5_
                clear n0_ n1_ n2_ n3_ n4_ n5_
                (try clear hb)
                (try clear hb2)
                (try clear hk)
                (try clear hi)
                (try clear ho0)
                refine hK.out _ _ ⟨(blk_cell BK187.out 0).trans rfl, (blk_cell BK187.out 1).trans rfl⟩ (fun hHeld => ?_)
                clear hK K
                refine norm_ (a' := ?_) ?_ ?_
                rotate_left
                · show Act.put _ (some 34) _ = _
                  simp only [Act.put, List.setIfInBounds_toArray, List.set_cons_zero, List.set_cons_succ, i64_w, i32_w]
                  rfl
                refine pure_ (i := 7) (N := some 8) (v := ?_) (a' := ?_) #[true, true, true, true, true, true, true, true] rfl rfl (any_of HT_.out (by kernel_rfl)) (fun _ _ _ h => h) (Or.inl ⟨by rfl, ?_⟩) ?_ ?_
                rotate_left
                · intro w'
                  go_simp
                  with_reducible rfl
                rotate_left
                · simp only [Act.put, List.setIfInBounds_toArray, List.set_cons_zero, List.set_cons_succ, i64_w, i32_w]
                  rfl
                refine done_ (done_of HT_.out (by kernel_rfl)) ?_
                try go_wp2_with (first | ((with_reducible refine gate_callee (f := 36) rfl ?_); refine goesL_ (some 36) rfl rfl Try.func36 (by kernel_rfl) rfl #[.slice A0 l0.length c0] rfl (by (try simp only [List.map_toArray, List.map_cons, List.map_nil]); first | done | rfl | (simp only [List.length_drop, List.length_take]; rfl)) ?_; (with_reducible refine (laws_toIntS.calls k _ _ l0 t202 _ ?side1 ?side2 A17.out).mono ?_); (case side1 => repeat (first | exact (Kd.C_below HR0.out HB.out) | (with_reducible refine Kd.C_alloc ?_ _) | (with_reducible refine Kd.C_drewN ?_ _) | (with_reducible refine Kd.C_drew ?_))); (case side2 => exact HC0.out); rintro e w47 ⟨v203, rfl, ho0, hb⟩; refine ⟨_, rfl, ?_⟩; have n0_ := Aside0.mk (Kd.R_elder' (by (with_reducible repeat (first | apply Kd.R_alloc | apply Kd.R_drewN | apply Kd.R_drew)); exact HO191.out) (Kd.R_base ho0) hb); have n1_ := Aside0.mk (Kd.R_elder' (by (with_reducible repeat (first | apply Kd.R_alloc | apply Kd.R_drewN | apply Kd.R_drew)); exact HO194.out) (Kd.R_base ho0) hb); have n2_ := Aside0.mk (Kd.R_elder' (by (with_reducible repeat (first | apply Kd.R_alloc | apply Kd.R_drewN | apply Kd.R_drew)); exact HO198.out) (Kd.R_base ho0) hb); have n3_ := Aside0.mk (Kd.R_below (by (with_reducible repeat (first | apply Kd.R_alloc | apply Kd.R_drewN | apply Kd.R_drew)); exact HO201.out) hb); have n4_ := Aside0.mk (Kd.R_lower (Kd.R_new' (Kd.R_new' (Kd.R_new' ho0 (Kd.R_lt (by (with_reducible repeat (first | apply Kd.R_alloc | apply Kd.R_drewN | apply Kd.R_drew)); exact HO191.out))) (Kd.R_lt (by (with_reducible repeat (first | apply Kd.R_alloc | apply Kd.R_drewN | apply Kd.R_drew)); exact HO194.out))) (Kd.R_lt (by (with_reducible repeat (first | apply Kd.R_alloc | apply Kd.R_drewN | apply Kd.R_drew)); exact HO198.out))) (below_size (by repeat (first | (with_reducible first | exact HB.out | apply below_alloc | apply pw_below_drewN | apply below_drew1 | refine below_set ?_ GE187.out) | exact HB.out)))); have n5_ := Aside0.mk (blk_below (g := gb187) (o := .cells #[.slice A1_0 l1_0.length c1_0, .int .i64 a1_1] 29 (0, 0)) (by (with_reducible repeat (first | refine blk_drewN ?_ _ | refine blk_drew ?_ | refine blk_alloc ?_ _)); exact BK187.out) hb); have n6_ := Aside0.mk (below_step (by repeat (first | (with_reducible first | exact HB.out | apply below_alloc | apply pw_below_drewN | apply below_drew1 | refine below_set ?_ GE187.out) | exact HB.out)) hb); clear HO191; clear HO194; clear HO198; clear HO201; clear BK187; clear HB; have HO191 := n0_; have HO194 := n1_; have HO198 := n2_; have HO201 := n3_; have HO204 := n4_; have BK187 := n5_; have HB := n6_; clear n0_ n1_ n2_ n3_ n4_ n5_ n6_; (try clear hb); (try clear hb2); (try clear hk); (try clear hi); (try clear ho0); have hcz48_0 : w47.cell? ⟨gb187, 0, none⟩ = some (.slice A1_0 l1_0.length c1_0) := (blk_cell BK187.out 0).trans rfl; have hcz48_1 : w47.cell? ⟨gb187, 1, none⟩ = some (.int .i64 a1_1) := (blk_cell BK187.out 1).trans rfl; have hfz48_0 := blk_frozen BK187.out 0; have hfz48_1 := blk_frozen BK187.out 1) | ((with_reducible refine gate_callee (f := 22) rfl ?_); refine goesL_ (some 38) rfl rfl Try.func22 (by kernel_rfl) rfl #[.agg #[.slice A1_0 l1_0.length c1_0, .int .i64 a1_1]] rfl (by (try simp only [List.map_toArray, List.map_cons, List.map_nil]); first | done | rfl | (simp only [List.length_drop, List.length_take]; rfl)) ?_; (with_reducible refine (laws_toKeys.calls k _ _ l1_0 a1_1 t205 t208 _ ?side1 ?side2 A18.out).mono ?_); (case side1 => repeat (first | exact (Kd.C_below HR1_0.out HB.out) | (with_reducible refine Kd.C_alloc ?_ _) | (with_reducible refine Kd.C_drewN ?_ _) | (with_reducible refine Kd.C_drew ?_))); (case side2 => exact HC1_0.out); rintro e w49 ⟨v206, rfl, ho0, hb⟩; refine ⟨_, rfl, ?_⟩; have n0_ := Aside0.mk (Kd.R_elder' (by (with_reducible repeat (first | apply Kd.R_alloc | apply Kd.R_drewN | apply Kd.R_drew)); exact HO191.out) (Kd.R_base ho0) hb); have n1_ := Aside0.mk (Kd.R_elder' (by (with_reducible repeat (first | apply Kd.R_alloc | apply Kd.R_drewN | apply Kd.R_drew)); exact HO194.out) (Kd.R_base ho0) hb); have n2_ := Aside0.mk (Kd.R_elder' (by (with_reducible repeat (first | apply Kd.R_alloc | apply Kd.R_drewN | apply Kd.R_drew)); exact HO198.out) (Kd.R_base ho0) hb); have n3_ := Aside0.mk (Kd.R_below (by (with_reducible repeat (first | apply Kd.R_alloc | apply Kd.R_drewN | apply Kd.R_drew)); exact HO201.out) hb); have n4_ := Aside0.mk (Kd.R_elder' (by (with_reducible repeat (first | apply Kd.R_alloc | apply Kd.R_drewN | apply Kd.R_drew)); exact HO204.out) (Kd.R_base ho0) hb); have n5_ := Aside0.mk (Kd.R_lower (Kd.R_new' (Kd.R_new' (Kd.R_new' (Kd.R_new' ho0 (Kd.R_lt (by (with_reducible repeat (first | apply Kd.R_alloc | apply Kd.R_drewN | apply Kd.R_drew)); exact HO191.out))) (Kd.R_lt (by (with_reducible repeat (first | apply Kd.R_alloc | apply Kd.R_drewN | apply Kd.R_drew)); exact HO194.out))) (Kd.R_lt (by (with_reducible repeat (first | apply Kd.R_alloc | apply Kd.R_drewN | apply Kd.R_drew)); exact HO198.out))) (Kd.R_lt (by (with_reducible repeat (first | apply Kd.R_alloc | apply Kd.R_drewN | apply Kd.R_drew)); exact HO204.out))) (below_size (by repeat (first | (with_reducible first | exact HB.out | apply below_alloc | apply pw_below_drewN | apply below_drew1 | refine below_set ?_ GE187.out) | exact HB.out)))); have n6_ := Aside0.mk (blk_below (g := gb187) (o := .cells #[.slice A1_0 l1_0.length c1_0, .int .i64 a1_1] 29 (0, 0)) (by (with_reducible repeat (first | refine blk_drewN ?_ _ | refine blk_drew ?_ | refine blk_alloc ?_ _)); exact BK187.out) hb); have n7_ := Aside0.mk (below_step (by repeat (first | (with_reducible first | exact HB.out | apply below_alloc | apply pw_below_drewN | apply below_drew1 | refine below_set ?_ GE187.out) | exact HB.out)) hb); clear HO191; clear HO194; clear HO198; clear HO201; clear HO204; clear BK187; clear HB; have HO191 := n0_; have HO194 := n1_; have HO198 := n2_; have HO201 := n3_; have HO204 := n4_; have HO207 := n5_; have BK187 := n6_; have HB := n7_; clear n0_ n1_ n2_ n3_ n4_ n5_ n6_ n7_; (try clear hb); (try clear hb2); (try clear hk); (try clear hi); (try clear ho0)) | ((with_reducible refine gate_dst (N := 10) rfl ?_); refine box_event ?hg (N := 10) ?hd (cs := #[.slice none 0 0, .int .i64 0]) (t := 24) ?hr ?_; (case hd => rfl); (case hg => rfl); (case hr => first | (go_simp; done) | (go_simp; rfl)); intro gb209 hg w50 hbox hb; have n0_ := Aside0.mk (Kd.R_below (by (with_reducible repeat (first | apply Kd.R_alloc | apply Kd.R_drewN | apply Kd.R_drew)); exact HO191.out) hb); have n1_ := Aside0.mk (Kd.R_below (by (with_reducible repeat (first | apply Kd.R_alloc | apply Kd.R_drewN | apply Kd.R_drew)); exact HO194.out) hb); have n2_ := Aside0.mk (Kd.R_below (by (with_reducible repeat (first | apply Kd.R_alloc | apply Kd.R_drewN | apply Kd.R_drew)); exact HO198.out) hb); have n3_ := Aside0.mk (Kd.R_below (by (with_reducible repeat (first | apply Kd.R_alloc | apply Kd.R_drewN | apply Kd.R_drew)); exact HO201.out) hb); have n4_ := Aside0.mk (Kd.R_below (by (with_reducible repeat (first | apply Kd.R_alloc | apply Kd.R_drewN | apply Kd.R_drew)); exact HO204.out) hb); have n5_ := Aside0.mk (Kd.R_below (by (with_reducible repeat (first | apply Kd.R_alloc | apply Kd.R_drewN | apply Kd.R_drew)); exact HO207.out) hb); have n6_ := Aside0.mk (blk_below (g := gb187) (o := .cells #[.slice A1_0 l1_0.length c1_0, .int .i64 a1_1] 29 (0, 0)) (by (with_reducible repeat (first | refine blk_drewN ?_ _ | refine blk_drew ?_ | refine blk_alloc ?_ _)); exact BK187.out) hb); have n7_ := Aside0.mk (below_step (by repeat (first | (with_reducible first | exact HB.out | apply below_alloc | apply pw_below_drewN | apply below_drew1 | refine below_set ?_ GE187.out) | exact HB.out)) hb); have n8_ := Aside0.mk (hbox); have n9_ := Aside0.mk ((by rw [hg]; exact (below_size (by repeat (first | (with_reducible first | exact HB.out | apply below_alloc | apply pw_below_drewN | apply below_drew1 | refine below_set ?_ GE187.out) | exact HB.out))) : w.heap.size ≤ gb209)); have n10_ := Aside0.mk ((by rw [hg]; exact (below_size (by repeat (first | (with_reducible first | exact HB.out | apply below_alloc | apply pw_below_drewN | apply below_drew1 | refine below_set ?_ GE187.out) | exact HB.out))) : w.heap.size ≤ gb209)); have n11_ := Aside0.mk ((by rw [hg]; exact Nat.ne_of_lt (blk_lt (g := gb187) (o := .cells #[.slice A1_0 l1_0.length c1_0, .int .i64 a1_1] 29 (0, 0)) (by (with_reducible repeat (first | refine blk_drewN ?_ _ | refine blk_drew ?_ | refine blk_alloc ?_ _)); exact BK187.out)) : gb187 ≠ gb209)); have n12_ := Aside0.mk ((by rw [hg]; exact Nat.ne_of_gt (blk_lt (g := gb187) (o := .cells #[.slice A1_0 l1_0.length c1_0, .int .i64 a1_1] 29 (0, 0)) (by (with_reducible repeat (first | refine blk_drewN ?_ _ | refine blk_drew ?_ | refine blk_alloc ?_ _)); exact BK187.out)) : gb209 ≠ gb187)); clear HO191; clear HO194; clear HO198; clear HO201; clear HO204; clear HO207; clear BK187; clear HB; have HO191 := n0_; have HO194 := n1_; have HO198 := n2_; have HO201 := n3_; have HO204 := n4_; have HO207 := n5_; have BK187 := n6_; have HB := n7_; have BK209 := n8_; have GW209 := n9_; have GE209 := n10_; have NB187_209 := n11_; have NB209_187 := n12_; clear n0_ n1_ n2_ n3_ n4_ n5_ n6_ n7_ n8_ n9_ n10_ n11_ n12_; clear hb hbox hg; obtain ⟨Ao51, co51, eo51⟩ := Kd.R_slice HO207.out; subst eo51; have hnb52 := NB209_187.out; have hnc52 := NB187_209.out; have hcz53_0 : w50.cell? ⟨gb209, 0, none⟩ = some (.slice none 0 0) := (blk_cell BK209.out 0).trans rfl; have hcz53_1 : w50.cell? ⟨gb209, 1, none⟩ = some (.int .i64 0) := (blk_cell BK209.out 1).trans rfl; have hfz53_0 := blk_frozen BK209.out 0; have hfz53_1 := blk_frozen BK209.out 1) | ((with_reducible refine gate_callee (f := 36) rfl ?_); refine goesL_ (some 40) rfl rfl Try.func36 (by kernel_rfl) rfl #[.slice A2 l2.length c2] rfl (by (try simp only [List.map_toArray, List.map_cons, List.map_nil]); first | done | rfl | (simp only [List.length_drop, List.length_take]; rfl)) ?_; (with_reducible refine (laws_toIntS.calls k _ _ l2 t210 _ ?side1 ?side2 A19.out).mono ?_); (case side1 => exact Kd.C_below HR2.out (by repeat (first | (with_reducible first | exact HB.out | apply below_alloc | apply pw_below_drewN | apply below_drew1 | refine below_set ?_ GE187.out | refine below_set ?_ GE209.out) | exact HB.out))); (case side2 => exact HC2.out); rintro e w54 ⟨v211, rfl, ho0, hb⟩; refine ⟨_, rfl, ?_⟩; have n0_ := Aside0.mk (Kd.R_elder' (by (with_reducible repeat (first | apply Kd.R_alloc | apply Kd.R_drewN | apply Kd.R_drew)); exact (Kd.R_mono (Kd.R_far (p := ⟨gb209, 1, none⟩) (Kd.R_far (p := ⟨gb209, 0, none⟩) (Kd.R_types HO191.out BK209.out (by decide)) (fun _ hk => hk.2) (.slice Ao51 t205.length co51)) (fun _ hk => hk.2) (.int .i64 t208)) (fun _ h_ => h_.1))) (Kd.R_base ho0) hb); have n1_ := Aside0.mk (Kd.R_elder' (by (with_reducible repeat (first | apply Kd.R_alloc | apply Kd.R_drewN | apply Kd.R_drew)); exact (Kd.R_mono (Kd.R_far (p := ⟨gb209, 1, none⟩) (Kd.R_far (p := ⟨gb209, 0, none⟩) (Kd.R_types HO194.out BK209.out (by decide)) (fun _ hk => hk.2) (.slice Ao51 t205.length co51)) (fun _ hk => hk.2) (.int .i64 t208)) (fun _ h_ => h_.1))) (Kd.R_base ho0) hb); have n2_ := Aside0.mk (Kd.R_elder' (by (with_reducible repeat (first | apply Kd.R_alloc | apply Kd.R_drewN | apply Kd.R_drew)); exact (Kd.R_mono (Kd.R_far (p := ⟨gb209, 1, none⟩) (Kd.R_far (p := ⟨gb209, 0, none⟩) (Kd.R_types HO198.out BK209.out (by decide)) (fun _ hk => hk.2) (.slice Ao51 t205.length co51)) (fun _ hk => hk.2) (.int .i64 t208)) (fun _ h_ => h_.1))) (Kd.R_base ho0) hb); have n3_ := Aside0.mk (Kd.R_below (by (with_reducible repeat (first | apply Kd.R_alloc | apply Kd.R_drewN | apply Kd.R_drew)); exact (Kd.R_mono (Kd.R_far (p := ⟨gb209, 1, none⟩) (Kd.R_far (p := ⟨gb209, 0, none⟩) (Kd.R_types HO201.out BK209.out (by decide)) (fun _ hk => hk.2) (.slice Ao51 t205.length co51)) (fun _ hk => hk.2) (.int .i64 t208)) (fun _ h_ => h_.1))) hb); have n4_ := Aside0.mk (Kd.R_elder' (by (with_reducible repeat (first | apply Kd.R_alloc | apply Kd.R_drewN | apply Kd.R_drew)); exact (Kd.R_mono (Kd.R_far (p := ⟨gb209, 1, none⟩) (Kd.R_far (p := ⟨gb209, 0, none⟩) (Kd.R_types HO204.out BK209.out (by decide)) (fun _ hk => hk.2) (.slice Ao51 t205.length co51)) (fun _ hk => hk.2) (.int .i64 t208)) (fun _ h_ => h_.1))) (Kd.R_base ho0) hb); have n5_ := Aside0.mk (Kd.R_elder' (by (with_reducible repeat (first | apply Kd.R_alloc | apply Kd.R_drewN | apply Kd.R_drew)); exact (Kd.R_mono (Kd.R_far (p := ⟨gb209, 1, none⟩) (Kd.R_far (p := ⟨gb209, 0, none⟩) (Kd.R_types HO207.out BK209.out (by decide)) (fun _ hk => hk.2) (.slice Ao51 t205.length co51)) (fun _ hk => hk.2) (.int .i64 t208)) (fun _ h_ => h_.1))) (Kd.R_base ho0) hb); have n6_ := Aside0.mk (Kd.R_lower (Kd.R_new' (Kd.R_new' (Kd.R_new' (Kd.R_new' (Kd.R_new' ho0 (Kd.R_lt (by (with_reducible repeat (first | apply Kd.R_alloc | apply Kd.R_drewN | apply Kd.R_drew)); exact (Kd.R_mono (Kd.R_far (p := ⟨gb209, 1, none⟩) (Kd.R_far (p := ⟨gb209, 0, none⟩) (Kd.R_types HO191.out BK209.out (by decide)) (fun _ hk => hk.2) (.slice Ao51 t205.length co51)) (fun _ hk => hk.2) (.int .i64 t208)) (fun _ h_ => h_.1))))) (Kd.R_lt (by (with_reducible repeat (first | apply Kd.R_alloc | apply Kd.R_drewN | apply Kd.R_drew)); exact (Kd.R_mono (Kd.R_far (p := ⟨gb209, 1, none⟩) (Kd.R_far (p := ⟨gb209, 0, none⟩) (Kd.R_types HO194.out BK209.out (by decide)) (fun _ hk => hk.2) (.slice Ao51 t205.length co51)) (fun _ hk => hk.2) (.int .i64 t208)) (fun _ h_ => h_.1))))) (Kd.R_lt (by (with_reducible repeat (first | apply Kd.R_alloc | apply Kd.R_drewN | apply Kd.R_drew)); exact (Kd.R_mono (Kd.R_far (p := ⟨gb209, 1, none⟩) (Kd.R_far (p := ⟨gb209, 0, none⟩) (Kd.R_types HO198.out BK209.out (by decide)) (fun _ hk => hk.2) (.slice Ao51 t205.length co51)) (fun _ hk => hk.2) (.int .i64 t208)) (fun _ h_ => h_.1))))) (Kd.R_lt (by (with_reducible repeat (first | apply Kd.R_alloc | apply Kd.R_drewN | apply Kd.R_drew)); exact (Kd.R_mono (Kd.R_far (p := ⟨gb209, 1, none⟩) (Kd.R_far (p := ⟨gb209, 0, none⟩) (Kd.R_types HO204.out BK209.out (by decide)) (fun _ hk => hk.2) (.slice Ao51 t205.length co51)) (fun _ hk => hk.2) (.int .i64 t208)) (fun _ h_ => h_.1))))) (Kd.R_lt (by (with_reducible repeat (first | apply Kd.R_alloc | apply Kd.R_drewN | apply Kd.R_drew)); exact (Kd.R_mono (Kd.R_far (p := ⟨gb209, 1, none⟩) (Kd.R_far (p := ⟨gb209, 0, none⟩) (Kd.R_types HO207.out BK209.out (by decide)) (fun _ hk => hk.2) (.slice Ao51 t205.length co51)) (fun _ hk => hk.2) (.int .i64 t208)) (fun _ h_ => h_.1))))) (below_size (by repeat (first | (with_reducible first | exact HB.out | apply below_alloc | apply pw_below_drewN | apply below_drew1 | refine below_set ?_ GE187.out | refine below_set ?_ GE209.out) | exact HB.out)))); have n7_ := Aside0.mk (blk_below (g := gb187) (o := .cells #[.slice A1_0 l1_0.length c1_0, .int .i64 a1_1] 29 (0, 0)) (by (with_reducible repeat (first | refine blk_drewN ?_ _ | refine blk_drew ?_ | refine blk_alloc ?_ _)); refine blk_far ?_ NB187_209.out _; (with_reducible repeat (first | refine blk_drewN ?_ _ | refine blk_drew ?_ | refine blk_alloc ?_ _)); refine blk_far ?_ NB187_209.out _; (with_reducible repeat (first | refine blk_drewN ?_ _ | refine blk_drew ?_ | refine blk_alloc ?_ _)); exact BK187.out) hb); have n8_ := Aside0.mk (blk_below (g := gb209) (o := .cells #[.slice Ao51 t205.length co51, .int .i64 t208] 24 (0, 0)) (by (with_reducible repeat (first | refine blk_drewN ?_ _ | refine blk_drew ?_ | refine blk_alloc ?_ _)); refine blk_put (cs := #[.slice Ao51 t205.length co51, .int .i64 0]) ?_ 1 _ rfl; (with_reducible repeat (first | refine blk_drewN ?_ _ | refine blk_drew ?_ | refine blk_alloc ?_ _)); refine blk_put (cs := #[.slice none 0 0, .int .i64 0]) ?_ 0 _ rfl; (with_reducible repeat (first | refine blk_drewN ?_ _ | refine blk_drew ?_ | refine blk_alloc ?_ _)); exact BK209.out) hb); have n9_ := Aside0.mk (below_step (by repeat (first | (with_reducible first | exact HB.out | apply below_alloc | apply pw_below_drewN | apply below_drew1 | refine below_set ?_ GE187.out | refine below_set ?_ GE209.out) | exact HB.out)) hb); clear HO191; clear HO194; clear HO198; clear HO201; clear HO204; clear HO207; clear BK187; clear BK209; clear HB; have HO191 := n0_; have HO194 := n1_; have HO198 := n2_; have HO201 := n3_; have HO204 := n4_; have HO207 := n5_; have HO212 := n6_; have BK187 := n7_; have BK209 := n8_; have HB := n9_; clear n0_ n1_ n2_ n3_ n4_ n5_ n6_ n7_ n8_ n9_; (try clear hb); (try clear hb2); (try clear hk); (try clear hi); (try clear ho0); have hcz55_0 : w54.cell? ⟨gb209, 0, none⟩ = some (.slice Ao51 t205.length co51) := (blk_cell BK209.out 0).trans rfl; have hcz55_1 : w54.cell? ⟨gb209, 1, none⟩ = some (.int .i64 t208) := (blk_cell BK209.out 1).trans rfl; have hfz55_0 := blk_frozen BK209.out 0; have hfz55_1 := blk_frozen BK209.out 1; obtain ⟨Ao56, co56, eo56⟩ := Kd.R_slice HO204.out; subst eo56; obtain ⟨Ao57, co57, eo57⟩ := Kd.R_slice HO212.out; subst eo57) | ((with_reducible refine gate_callee (f := 49) rfl ?_); refine goesL_ (some 44) rfl rfl Try.func49 (by kernel_rfl) rfl #[.slice Ao56 t202.length co56, .agg #[.slice Ao51 t205.length co51, .int .i64 t208], .slice Ao57 t210.length co57] rfl (by (try simp only [List.map_toArray, List.map_cons, List.map_nil]); first | done | rfl | (simp only [List.length_drop, List.length_take]; rfl)) ?_; (with_reducible refine (impl_SignBy.calls k _ _ t202 _ _ t205 t208 _ _ t210 t213 _ ?side1 ?side2 ?side3 ?side4 ?side5 ?side6 A20.out).mono ?_); (case side1 => repeat (first | exact (Kd.R_reads' HO204.out).2.2 | (with_reducible refine Kd.C_alloc ?_ _) | (with_reducible refine Kd.C_drewN ?_ _) | (with_reducible refine Kd.C_drew ?_))); (case side2 => exact (Kd.R_reads' HO204.out).2.1); (case side3 => repeat (first | exact (Kd.R_reads' HO207.out).2.2 | (with_reducible refine Kd.C_alloc ?_ _) | (with_reducible refine Kd.C_drewN ?_ _) | (with_reducible refine Kd.C_drew ?_))); (case side4 => exact (Kd.R_reads' HO207.out).2.1); (case side5 => repeat (first | exact (Kd.R_reads' HO212.out).2.2 | (with_reducible refine Kd.C_alloc ?_ _) | (with_reducible refine Kd.C_drewN ?_ _) | (with_reducible refine Kd.C_drew ?_))); (case side6 => exact (Kd.R_reads' HO212.out).2.1); rintro e w58 ⟨v214, rfl, ho0, hb⟩; refine ⟨_, rfl, ?_⟩; have n0_ := Aside0.mk (Kd.R_below (by (with_reducible repeat (first | apply Kd.R_alloc | apply Kd.R_drewN | apply Kd.R_drew)); exact HO191.out) hb); have n1_ := Aside0.mk (Kd.R_below (by (with_reducible repeat (first | apply Kd.R_alloc | apply Kd.R_drewN | apply Kd.R_drew)); exact HO194.out) hb); have n2_ := Aside0.mk (Kd.R_below (by (with_reducible repeat (first | apply Kd.R_alloc | apply Kd.R_drewN | apply Kd.R_drew)); exact HO198.out) hb); have n3_ := Aside0.mk (Kd.R_elder' (by (with_reducible repeat (first | apply Kd.R_alloc | apply Kd.R_drewN | apply Kd.R_drew)); exact HO201.out) (Kd.R_base ho0) hb); have n4_ := Aside0.mk (Kd.R_below (by (with_reducible repeat (first | apply Kd.R_alloc | apply Kd.R_drewN | apply Kd.R_drew)); exact HO204.out) hb); have n5_ := Aside0.mk (Kd.R_below (by (with_reducible repeat (first | apply Kd.R_alloc | apply Kd.R_drewN | apply Kd.R_drew)); exact HO207.out) hb); have n6_ := Aside0.mk (Kd.R_below (by (with_reducible repeat (first | apply Kd.R_alloc | apply Kd.R_drewN | apply Kd.R_drew)); exact HO212.out) hb); have n7_ := Aside0.mk (Kd.R_lower (Kd.R_new' ho0 (Kd.R_lt (by (with_reducible repeat (first | apply Kd.R_alloc | apply Kd.R_drewN | apply Kd.R_drew)); exact HO201.out))) (below_size (by repeat (first | (with_reducible first | exact HB.out | apply below_alloc | apply pw_below_drewN | apply below_drew1 | refine below_set ?_ GE187.out | refine below_set ?_ GE209.out) | exact HB.out)))); have n8_ := Aside0.mk (blk_below (g := gb187) (o := .cells #[.slice A1_0 l1_0.length c1_0, .int .i64 a1_1] 29 (0, 0)) (by (with_reducible repeat (first | refine blk_drewN ?_ _ | refine blk_drew ?_ | refine blk_alloc ?_ _)); exact BK187.out) hb); have n9_ := Aside0.mk (blk_below (g := gb209) (o := .cells #[.slice Ao51 t205.length co51, .int .i64 t208] 24 (0, 0)) (by (with_reducible repeat (first | refine blk_drewN ?_ _ | refine blk_drew ?_ | refine blk_alloc ?_ _)); exact BK209.out) hb); have n10_ := Aside0.mk (below_step (by repeat (first | (with_reducible first | exact HB.out | apply below_alloc | apply pw_below_drewN | apply below_drew1 | refine below_set ?_ GE187.out | refine below_set ?_ GE209.out) | exact HB.out)) hb); clear HO191; clear HO194; clear HO198; clear HO201; clear HO204; clear HO207; clear HO212; clear BK187; clear BK209; clear HB; have HO191 := n0_; have HO194 := n1_; have HO198 := n2_; have HO201 := n3_; have HO204 := n4_; have HO207 := n5_; have HO212 := n6_; have HO215 := n7_; have BK187 := n8_; have BK209 := n9_; have HB := n10_; clear n0_ n1_ n2_ n3_ n4_ n5_ n6_ n7_ n8_ n9_ n10_; (try clear hb); (try clear hb2); (try clear hk); (try clear hi); (try clear ho0); obtain ⟨Ao59, co59, eo59⟩ := Kd.R_slice HO215.out; subst eo59; obtain ⟨Ao60, co60, eo60⟩ := Kd.R_slice HO201.out; subst eo60) | ((with_reducible refine gate_callee (f := 47) rfl ?_); refine goesL_ (some 47) rfl rfl Try.func47 (by kernel_rfl) rfl #[.slice Ao59 t213.length co59, .slice Ao60 t199.length co60] rfl (by (try simp only [List.map_toArray, List.map_cons, List.map_nil]); first | done | rfl | (simp only [List.length_drop, List.length_take]; rfl)) ?_; (with_reducible refine (laws_eqSigS.calls k _ _ t213 _ _ t199 true _ ?side1 ?side2 ?side3 ?side4 A21.out).mono ?_); (case side1 => repeat (first | exact (Kd.R_reads' HO215.out).2.2 | (with_reducible refine Kd.C_alloc ?_ _) | (with_reducible refine Kd.C_drewN ?_ _) | (with_reducible refine Kd.C_drew ?_))); (case side2 => exact (Kd.R_reads' HO215.out).2.1); (case side3 => repeat (first | exact (Kd.R_reads' HO201.out).2.2 | (with_reducible refine Kd.C_alloc ?_ _) | (with_reducible refine Kd.C_drewN ?_ _) | (with_reducible refine Kd.C_drew ?_))); (case side4 => exact (Kd.R_reads' HO201.out).2.1); rintro e w61 ⟨rfl, hb⟩; refine ⟨_, rfl, ?_⟩; have n0_ := Aside0.mk (Kd.R_below (by (with_reducible repeat (first | apply Kd.R_alloc | apply Kd.R_drewN | apply Kd.R_drew)); exact HO191.out) hb); have n1_ := Aside0.mk (Kd.R_below (by (with_reducible repeat (first | apply Kd.R_alloc | apply Kd.R_drewN | apply Kd.R_drew)); exact HO194.out) hb); have n2_ := Aside0.mk (Kd.R_below (by (with_reducible repeat (first | apply Kd.R_alloc | apply Kd.R_drewN | apply Kd.R_drew)); exact HO198.out) hb); have n3_ := Aside0.mk (Kd.R_below (by (with_reducible repeat (first | apply Kd.R_alloc | apply Kd.R_drewN | apply Kd.R_drew)); exact HO201.out) hb); have n4_ := Aside0.mk (Kd.R_below (by (with_reducible repeat (first | apply Kd.R_alloc | apply Kd.R_drewN | apply Kd.R_drew)); exact HO204.out) hb); have n5_ := Aside0.mk (Kd.R_below (by (with_reducible repeat (first | apply Kd.R_alloc | apply Kd.R_drewN | apply Kd.R_drew)); exact HO207.out) hb); have n6_ := Aside0.mk (Kd.R_below (by (with_reducible repeat (first | apply Kd.R_alloc | apply Kd.R_drewN | apply Kd.R_drew)); exact HO212.out) hb); have n7_ := Aside0.mk (Kd.R_below (by (with_reducible repeat (first | apply Kd.R_alloc | apply Kd.R_drewN | apply Kd.R_drew)); exact HO215.out) hb); have n8_ := Aside0.mk (blk_below (g := gb187) (o := .cells #[.slice A1_0 l1_0.length c1_0, .int .i64 a1_1] 29 (0, 0)) (by (with_reducible repeat (first | refine blk_drewN ?_ _ | refine blk_drew ?_ | refine blk_alloc ?_ _)); exact BK187.out) hb); have n9_ := Aside0.mk (blk_below (g := gb209) (o := .cells #[.slice Ao51 t205.length co51, .int .i64 t208] 24 (0, 0)) (by (with_reducible repeat (first | refine blk_drewN ?_ _ | refine blk_drew ?_ | refine blk_alloc ?_ _)); exact BK209.out) hb); have n10_ := Aside0.mk (below_step (by repeat (first | (with_reducible first | exact HB.out | apply below_alloc | apply pw_below_drewN | apply below_drew1 | refine below_set ?_ GE187.out | refine below_set ?_ GE209.out) | exact HB.out)) hb); clear HO191; clear HO194; clear HO198; clear HO201; clear HO204; clear HO207; clear HO212; clear HO215; clear BK187; clear BK209; clear HB; have HO191 := n0_; have HO194 := n1_; have HO198 := n2_; have HO201 := n3_; have HO204 := n4_; have HO207 := n5_; have HO212 := n6_; have HO215 := n7_; have BK187 := n8_; have BK209 := n9_; have HB := n10_; clear n0_ n1_ n2_ n3_ n4_ n5_ n6_ n7_ n8_ n9_ n10_; (try clear hb); (try clear hb2); (try clear hk); (try clear hi)) | ((with_reducible refine gate_callee (f := 36) rfl ?_); refine goesL_ (some 51) rfl rfl Try.func36 (by kernel_rfl) rfl #[.slice A0 l0.length c0] rfl (by (try simp only [List.map_toArray, List.map_cons, List.map_nil]); first | done | rfl | (simp only [List.length_drop, List.length_take]; rfl)) ?_; (with_reducible refine (laws_toIntS.calls k _ _ l0 t217 _ ?side1 ?side2 A23.out).mono ?_); (case side1 => repeat (first | exact (Kd.C_below HR0.out HB.out) | (with_reducible refine Kd.C_alloc ?_ _) | (with_reducible refine Kd.C_drewN ?_ _) | (with_reducible refine Kd.C_drew ?_))); (case side2 => exact HC0.out); rintro e w62 ⟨v218, rfl, ho0, hb⟩; refine ⟨_, rfl, ?_⟩; have n0_ := Aside0.mk (Kd.R_elder' (by (with_reducible repeat (first | apply Kd.R_alloc | apply Kd.R_drewN | apply Kd.R_drew)); exact HO191.out) (Kd.R_base ho0) hb); have n1_ := Aside0.mk (Kd.R_elder' (by (with_reducible repeat (first | apply Kd.R_alloc | apply Kd.R_drewN | apply Kd.R_drew)); exact HO194.out) (Kd.R_base ho0) hb); have n2_ := Aside0.mk (Kd.R_elder' (by (with_reducible repeat (first | apply Kd.R_alloc | apply Kd.R_drewN | apply Kd.R_drew)); exact HO198.out) (Kd.R_base ho0) hb); have n3_ := Aside0.mk (Kd.R_below (by (with_reducible repeat (first | apply Kd.R_alloc | apply Kd.R_drewN | apply Kd.R_drew)); exact HO201.out) hb); have n4_ := Aside0.mk (Kd.R_elder' (by (with_reducible repeat (first | apply Kd.R_alloc | apply Kd.R_drewN | apply Kd.R_drew)); exact HO204.out) (Kd.R_base ho0) hb); have n5_ := Aside0.mk (Kd.R_elder' (by (with_reducible repeat (first | apply Kd.R_alloc | apply Kd.R_drewN | apply Kd.R_drew)); exact HO207.out) (Kd.R_base ho0) hb); have n6_ := Aside0.mk (Kd.R_elder' (by (with_reducible repeat (first | apply Kd.R_alloc | apply Kd.R_drewN | apply Kd.R_drew)); exact HO212.out) (Kd.R_base ho0) hb); have n7_ := Aside0.mk (Kd.R_below (by (with_reducible repeat (first | apply Kd.R_alloc | apply Kd.R_drewN | apply Kd.R_drew)); exact HO215.out) hb); have n8_ := Aside0.mk (Kd.R_lower (Kd.R_new' (Kd.R_new' (Kd.R_new' (Kd.R_new' (Kd.R_new' (Kd.R_new' ho0 (Kd.R_lt (by (with_reducible repeat (first | apply Kd.R_alloc | apply Kd.R_drewN | apply Kd.R_drew)); exact HO191.out))) (Kd.R_lt (by (with_reducible repeat (first | apply Kd.R_alloc | apply Kd.R_drewN | apply Kd.R_drew)); exact HO194.out))) (Kd.R_lt (by (with_reducible repeat (first | apply Kd.R_alloc | apply Kd.R_drewN | apply Kd.R_drew)); exact HO198.out))) (Kd.R_lt (by (with_reducible repeat (first | apply Kd.R_alloc | apply Kd.R_drewN | apply Kd.R_drew)); exact HO204.out))) (Kd.R_lt (by (with_reducible repeat (first | apply Kd.R_alloc | apply Kd.R_drewN | apply Kd.R_drew)); exact HO207.out))) (Kd.R_lt (by (with_reducible repeat (first | apply Kd.R_alloc | apply Kd.R_drewN | apply Kd.R_drew)); exact HO212.out))) (below_size (by repeat (first | (with_reducible first | exact HB.out | apply below_alloc | apply pw_below_drewN | apply below_drew1 | refine below_set ?_ GE187.out | refine below_set ?_ GE209.out) | exact HB.out)))); have n9_ := Aside0.mk (blk_below (g := gb187) (o := .cells #[.slice A1_0 l1_0.length c1_0, .int .i64 a1_1] 29 (0, 0)) (by (with_reducible repeat (first | refine blk_drewN ?_ _ | refine blk_drew ?_ | refine blk_alloc ?_ _)); exact BK187.out) hb); have n10_ := Aside0.mk (blk_below (g := gb209) (o := .cells #[.slice Ao51 t205.length co51, .int .i64 t208] 24 (0, 0)) (by (with_reducible repeat (first | refine blk_drewN ?_ _ | refine blk_drew ?_ | refine blk_alloc ?_ _)); exact BK209.out) hb); have n11_ := Aside0.mk (below_step (by repeat (first | (with_reducible first | exact HB.out | apply below_alloc | apply pw_below_drewN | apply below_drew1 | refine below_set ?_ GE187.out | refine below_set ?_ GE209.out) | exact HB.out)) hb); clear HO191; clear HO194; clear HO198; clear HO201; clear HO204; clear HO207; clear HO212; clear HO215; clear BK187; clear BK209; clear HB; have HO191 := n0_; have HO194 := n1_; have HO198 := n2_; have HO201 := n3_; have HO204 := n4_; have HO207 := n5_; have HO212 := n6_; have HO215 := n7_; have HO219 := n8_; have BK187 := n9_; have BK209 := n10_; have HB := n11_; clear n0_ n1_ n2_ n3_ n4_ n5_ n6_ n7_ n8_ n9_ n10_ n11_; (try clear hb); (try clear hb2); (try clear hk); (try clear hi); (try clear ho0); obtain ⟨Ao63, co63, eo63⟩ := Kd.R_slice HO219.out; subst eo63) | ((with_reducible refine gate_callee (f := 26) rfl ?_); refine goesL_ (some 52) rfl rfl Try.func26 (by kernel_rfl) rfl #[.slice Ao56 t202.length co56, .slice Ao63 t217.length co63] rfl (by (try simp only [List.map_toArray, List.map_cons, List.map_nil]); first | done | rfl | (simp only [List.length_drop, List.length_take]; rfl)) ?_; (with_reducible refine (laws_eqIntS.calls k _ _ t202 _ _ t217 true _ ?side1 ?side2 ?side3 ?side4 A24.out).mono ?_); (case side1 => repeat (first | exact (Kd.R_reads' HO204.out).2.2 | (with_reducible refine Kd.C_alloc ?_ _) | (with_reducible refine Kd.C_drewN ?_ _) | (with_reducible refine Kd.C_drew ?_))); (case side2 => exact (Kd.R_reads' HO204.out).2.1); (case side3 => repeat (first | exact (Kd.R_reads' HO219.out).2.2 | (with_reducible refine Kd.C_alloc ?_ _) | (with_reducible refine Kd.C_drewN ?_ _) | (with_reducible refine Kd.C_drew ?_))); (case side4 => exact (Kd.R_reads' HO219.out).2.1); rintro e w' ⟨rfl, ⟨nd, rfl⟩⟩; refine ⟨_, rfl, ?_⟩))
                (try (rw [drewN_self w62]; generalize hq_ : World.drewN w62 _ = w62; have n0_ : Aside0 (Kd.R (Kd.int .i64) 3 w62 w.heap.size (fun k_ => some k_ ≠ (.slice Ao44 t192.length co44 : Value).ownBlock ∧ some k_ ≠ (.slice Ao45 t196.length co45 : Value).ownBlock ∧ some k_ ≠ (.slice Ao56 t202.length co56 : Value).ownBlock ∧ some k_ ≠ (.slice Ao51 t205.length co51 : Value).ownBlock ∧ some k_ ≠ (.slice Ao57 t210.length co57 : Value).ownBlock ∧ some k_ ≠ (.slice Ao63 t217.length co63 : Value).ownBlock) (.slice Ao43 t189.length co43) t189) := ⟨by rw [← hq_]; exact (by (with_reducible repeat (first | apply Kd.R_alloc | apply Kd.R_drewN | apply Kd.R_drew)); exact Kd.R_mono HO191.out (fun _ hk => ⟨hk.1.1.1.1.1.2, ⟨hk.1.1.1.1.2, ⟨hk.1.1.1.2, ⟨hk.1.1.2, ⟨hk.1.2, hk.2⟩⟩⟩⟩⟩))⟩; have n1_ : Aside0 (Kd.R (Kd.int .i64) 3 w62 w.heap.size (fun k_ => some k_ ≠ (.slice Ao43 t189.length co43 : Value).ownBlock ∧ some k_ ≠ (.slice Ao45 t196.length co45 : Value).ownBlock ∧ some k_ ≠ (.slice Ao56 t202.length co56 : Value).ownBlock ∧ some k_ ≠ (.slice Ao51 t205.length co51 : Value).ownBlock ∧ some k_ ≠ (.slice Ao57 t210.length co57 : Value).ownBlock ∧ some k_ ≠ (.slice Ao63 t217.length co63 : Value).ownBlock) (.slice Ao44 t192.length co44) t192) := ⟨by rw [← hq_]; exact (by (with_reducible repeat (first | apply Kd.R_alloc | apply Kd.R_drewN | apply Kd.R_drew)); exact Kd.R_mono HO194.out (fun _ hk => ⟨hk.1.1.1.1.1.2, ⟨hk.1.1.1.1.2, ⟨hk.1.1.1.2, ⟨hk.1.1.2, ⟨hk.1.2, hk.2⟩⟩⟩⟩⟩))⟩; have n2_ : Aside0 (Kd.R (Kd.int .i64) 3 w62 w.heap.size (fun k_ => some k_ ≠ (.slice Ao43 t189.length co43 : Value).ownBlock ∧ some k_ ≠ (.slice Ao44 t192.length co44 : Value).ownBlock ∧ some k_ ≠ (.slice Ao56 t202.length co56 : Value).ownBlock ∧ some k_ ≠ (.slice Ao51 t205.length co51 : Value).ownBlock ∧ some k_ ≠ (.slice Ao57 t210.length co57 : Value).ownBlock ∧ some k_ ≠ (.slice Ao63 t217.length co63 : Value).ownBlock) (.slice Ao45 t196.length co45) t196) := ⟨by rw [← hq_]; exact (by (with_reducible repeat (first | apply Kd.R_alloc | apply Kd.R_drewN | apply Kd.R_drew)); exact Kd.R_mono HO198.out (fun _ hk => ⟨hk.1.1.1.1.1.2, ⟨hk.1.1.1.1.2, ⟨hk.1.1.1.2, ⟨hk.1.1.2, ⟨hk.1.2, hk.2⟩⟩⟩⟩⟩))⟩; have n3_ : Aside0 (Kd.R k49 49 w62 w.heap.size (fun k_ => some k_ ≠ (.slice Ao59 t213.length co59 : Value).ownBlock) (.slice Ao60 t199.length co60) t199) := ⟨by rw [← hq_]; exact (by (with_reducible repeat (first | apply Kd.R_alloc | apply Kd.R_drewN | apply Kd.R_drew)); exact Kd.R_mono HO201.out (fun _ hk => hk.2))⟩; have n4_ : Aside0 (Kd.R (Kd.int .i64) 3 w62 w.heap.size (fun k_ => some k_ ≠ (.slice Ao43 t189.length co43 : Value).ownBlock ∧ some k_ ≠ (.slice Ao44 t192.length co44 : Value).ownBlock ∧ some k_ ≠ (.slice Ao45 t196.length co45 : Value).ownBlock ∧ some k_ ≠ (.slice Ao51 t205.length co51 : Value).ownBlock ∧ some k_ ≠ (.slice Ao57 t210.length co57 : Value).ownBlock ∧ some k_ ≠ (.slice Ao63 t217.length co63 : Value).ownBlock) (.slice Ao56 t202.length co56) t202) := ⟨by rw [← hq_]; exact (by (with_reducible repeat (first | apply Kd.R_alloc | apply Kd.R_drewN | apply Kd.R_drew)); exact Kd.R_mono HO204.out (fun _ hk => ⟨hk.1.1.1.1.1.2, ⟨hk.1.1.1.1.2, ⟨hk.1.1.1.2, ⟨hk.1.1.2, ⟨hk.1.2, hk.2⟩⟩⟩⟩⟩))⟩; have n5_ : Aside0 (Kd.R (Kd.int .i64) 3 w62 w.heap.size (fun k_ => some k_ ≠ (.slice Ao43 t189.length co43 : Value).ownBlock ∧ some k_ ≠ (.slice Ao44 t192.length co44 : Value).ownBlock ∧ some k_ ≠ (.slice Ao45 t196.length co45 : Value).ownBlock ∧ some k_ ≠ (.slice Ao56 t202.length co56 : Value).ownBlock ∧ some k_ ≠ (.slice Ao57 t210.length co57 : Value).ownBlock ∧ some k_ ≠ (.slice Ao63 t217.length co63 : Value).ownBlock) (.slice Ao51 t205.length co51) t205) := ⟨by rw [← hq_]; exact (by (with_reducible repeat (first | apply Kd.R_alloc | apply Kd.R_drewN | apply Kd.R_drew)); exact Kd.R_mono HO207.out (fun _ hk => ⟨hk.1.1.1.1.1.2, ⟨hk.1.1.1.1.2, ⟨hk.1.1.1.2, ⟨hk.1.1.2, ⟨hk.1.2, hk.2⟩⟩⟩⟩⟩))⟩; have n6_ : Aside0 (Kd.R (Kd.int .i64) 3 w62 w.heap.size (fun k_ => some k_ ≠ (.slice Ao43 t189.length co43 : Value).ownBlock ∧ some k_ ≠ (.slice Ao44 t192.length co44 : Value).ownBlock ∧ some k_ ≠ (.slice Ao45 t196.length co45 : Value).ownBlock ∧ some k_ ≠ (.slice Ao56 t202.length co56 : Value).ownBlock ∧ some k_ ≠ (.slice Ao51 t205.length co51 : Value).ownBlock ∧ some k_ ≠ (.slice Ao63 t217.length co63 : Value).ownBlock) (.slice Ao57 t210.length co57) t210) := ⟨by rw [← hq_]; exact (by (with_reducible repeat (first | apply Kd.R_alloc | apply Kd.R_drewN | apply Kd.R_drew)); exact Kd.R_mono HO212.out (fun _ hk => ⟨hk.1.1.1.1.1.2, ⟨hk.1.1.1.1.2, ⟨hk.1.1.1.2, ⟨hk.1.1.2, ⟨hk.1.2, hk.2⟩⟩⟩⟩⟩))⟩; have n7_ : Aside0 (Kd.R k49 49 w62 w.heap.size (fun k_ => some k_ ≠ (.slice Ao60 t199.length co60 : Value).ownBlock) (.slice Ao59 t213.length co59) t213) := ⟨by rw [← hq_]; exact (by (with_reducible repeat (first | apply Kd.R_alloc | apply Kd.R_drewN | apply Kd.R_drew)); exact Kd.R_mono HO215.out (fun _ hk => hk.2))⟩; have n8_ : Aside0 (Kd.R (Kd.int .i64) 3 w62 w.heap.size (fun k_ => some k_ ≠ (.slice Ao43 t189.length co43 : Value).ownBlock ∧ some k_ ≠ (.slice Ao44 t192.length co44 : Value).ownBlock ∧ some k_ ≠ (.slice Ao45 t196.length co45 : Value).ownBlock ∧ some k_ ≠ (.slice Ao56 t202.length co56 : Value).ownBlock ∧ some k_ ≠ (.slice Ao51 t205.length co51 : Value).ownBlock ∧ some k_ ≠ (.slice Ao57 t210.length co57 : Value).ownBlock) (.slice Ao63 t217.length co63) t217) := ⟨by rw [← hq_]; exact (by (with_reducible repeat (first | apply Kd.R_alloc | apply Kd.R_drewN | apply Kd.R_drew)); exact Kd.R_mono HO219.out (fun _ hk => ⟨hk.1.1.1.1.1.2, ⟨hk.1.1.1.1.2, ⟨hk.1.1.1.2, ⟨hk.1.1.2, ⟨hk.1.2, hk.2⟩⟩⟩⟩⟩))⟩; have n9_ : Aside0 (w62.heap[gb187]? = some (.cells #[.slice A1_0 l1_0.length c1_0, .int .i64 a1_1] 29 (0, 0))) := ⟨by rw [← hq_]; exact (by (with_reducible repeat (first | refine blk_drewN ?_ _ | refine blk_drew ?_ | refine blk_alloc ?_ _)); exact BK187.out)⟩; have n10_ : Aside0 (w62.heap[gb209]? = some (.cells #[.slice Ao51 t205.length co51, .int .i64 t208] 24 (0, 0))) := ⟨by rw [← hq_]; exact (by (with_reducible repeat (first | refine blk_drewN ?_ _ | refine blk_drew ?_ | refine blk_alloc ?_ _)); exact BK209.out)⟩; have n11_ : Aside0 (Below w.heap.size w w62) := ⟨by rw [← hq_]; exact (by repeat (first | (with_reducible first | exact HB.out | apply below_alloc | apply pw_below_drewN | apply below_drew1 | refine below_set ?_ GE187.out | refine below_set ?_ GE209.out) | exact HB.out))⟩; clear HO191 HO194 HO198 HO201 HO204 HO207 HO212 HO215 HO219 BK187 BK209 HB hq_; have HO191 := n0_; have HO194 := n1_; have HO198 := n2_; have HO201 := n3_; have HO204 := n4_; have HO207 := n5_; have HO212 := n6_; have HO215 := n7_; have HO219 := n8_; have BK187 := n9_; have BK209 := n10_; have HB := n11_; clear n0_ n1_ n2_ n3_ n4_ n5_ n6_ n7_ n8_ n9_ n10_ n11_))
                have n0_ := Aside0.mk (Kd.R_drew HO191.out)
                have n1_ := Aside0.mk (Kd.R_drew HO194.out)
                have n2_ := Aside0.mk (Kd.R_drew HO198.out)
                have n3_ := Aside0.mk (Kd.R_drew HO201.out)
                have n4_ := Aside0.mk (Kd.R_drew HO204.out)
                have n5_ := Aside0.mk (Kd.R_drew HO207.out)
                have n6_ := Aside0.mk (Kd.R_drew HO212.out)
                have n7_ := Aside0.mk (Kd.R_drew HO215.out)
                have n8_ := Aside0.mk (Kd.R_drew HO219.out)
                have n9_ := Aside0.mk (blk_drew BK187.out)
                have n10_ := Aside0.mk (blk_drew BK209.out)
                have n11_ := Aside0.mk (below_drew1 HB.out)
                clear HO191
                clear HO194
                clear HO198
                clear HO201
                clear HO204
                clear HO207
                clear HO212
                clear HO215
                clear HO219
                clear BK187
                clear BK209
                clear HB
                have HO191 := n0_
                have HO194 := n1_
                have HO198 := n2_
                have HO201 := n3_
                have HO204 := n4_
                have HO207 := n5_
                have HO212 := n6_
                have HO215 := n7_
                have HO219 := n8_
                have BK187 := n9_
                have BK209 := n10_
                have HB := n11_
                clear n0_ n1_ n2_ n3_ n4_ n5_ n6_ n7_ n8_ n9_ n10_ n11_
                refine start_ (n := 5) (S := fun w' => w'.cell? ⟨gb209, 0, none⟩ = some (.slice Ao51 t205.length co51) ∧ w'.cell? ⟨gb209, 1, none⟩ = some (.int .i64 t208) ∧ w'.cell? ⟨gb187, 0, none⟩ = some (.slice A1_0 l1_0.length c1_0) ∧ w'.cell? ⟨gb187, 1, none⟩ = some (.int .i64 a1_1)) (ds := []) #[false, false, false, false, false] (by kernel_rfl) rfl rfl ⟨(blk_cell BK209.out 0).trans rfl, (blk_cell BK209.out 1).trans rfl, (blk_cell BK187.out 0).trans rfl, (blk_cell BK187.out 1).trans rfl⟩ (fun hHeld => ?_)
                generalize w62.drew = w64 at HO191 HO194 HO198 HO201 HO204 HO207 HO212 HO215 HO219 BK187 BK209 HB hHeld ⊢
                refine take_ (i := 0) (N := some 54) (v := ?_) (a' := ?_) #[true, false, false, false, false] rfl rfl (by kernel_rfl) (fun _ _ _ h => h) (Or.inl ⟨by rfl, ?_⟩) hHeld ?_ ?_
                rotate_left
                · rintro w' ⟨s0, s1, s2, s3⟩
                  go_simp
                  with_reducible rfl
                rotate_left
                · simp only [Act.put, List.setIfInBounds_toArray, List.set_cons_zero, List.set_cons_succ, i64_w, i32_w]
                  rfl
                refine take_ (i := 1) (N := some 55) (v := ?_) (a' := ?_) #[true, true, false, false, false] rfl rfl (by kernel_rfl) (fun _ _ _ h => h) (Or.inl ⟨by rfl, ?_⟩) hHeld ?_ ?_
                rotate_left
                · rintro w' ⟨s0, s1, s2, s3⟩
                  go_simp
                  with_reducible rfl
                rotate_left
                · simp only [Act.put, List.setIfInBounds_toArray, List.set_cons_zero, List.set_cons_succ, i64_w, i32_w]
                  rfl
                refine one_ (i := 2) (N := some 56) #[true, true, true, false, false] rfl rfl (by kernel_rfl) (by decide) (fun K hK => ?_)
                refine goes_ Try.func22 (by kernel_rfl) rfl #[.agg #[.slice A1_0 l1_0.length c1_0, .int .i64 a1_1]] (by rfl) rfl rfl (by (try simp only [List.map_toArray, List.map_cons, List.map_nil]); first | done | rfl | (simp only [List.length_drop, List.length_take]; rfl)) ?_
                with_reducible refine (laws_toKeys.calls k _ _ l1_0 a1_1 t221 t224 _ ?side1 ?side2 A26.out).mono ?_
                (case side1 => repeat (first | exact (Kd.C_below HR1_0.out HB.out) | (with_reducible refine Kd.C_alloc ?_ _) | (with_reducible refine Kd.C_drewN ?_ _) | (with_reducible refine Kd.C_drew ?_)))
                (case side2 => exact HC1_0.out)
                rintro e w65 ⟨v222, rfl, ho0, hb⟩
                refine ⟨_, rfl, ?_⟩
                have n0_ := Aside0.mk (Kd.R_elder' (by (with_reducible repeat (first | apply Kd.R_alloc | apply Kd.R_drewN | apply Kd.R_drew)); exact HO191.out) (Kd.R_base ho0) hb)
                have n1_ := Aside0.mk (Kd.R_elder' (by (with_reducible repeat (first | apply Kd.R_alloc | apply Kd.R_drewN | apply Kd.R_drew)); exact HO194.out) (Kd.R_base ho0) hb)
                have n2_ := Aside0.mk (Kd.R_elder' (by (with_reducible repeat (first | apply Kd.R_alloc | apply Kd.R_drewN | apply Kd.R_drew)); exact HO198.out) (Kd.R_base ho0) hb)
                have n3_ := Aside0.mk (Kd.R_below (by (with_reducible repeat (first | apply Kd.R_alloc | apply Kd.R_drewN | apply Kd.R_drew)); exact HO201.out) hb)
                have n4_ := Aside0.mk (Kd.R_elder' (by (with_reducible repeat (first | apply Kd.R_alloc | apply Kd.R_drewN | apply Kd.R_drew)); exact HO204.out) (Kd.R_base ho0) hb)
                have n5_ := Aside0.mk (Kd.R_elder' (by (with_reducible repeat (first | apply Kd.R_alloc | apply Kd.R_drewN | apply Kd.R_drew)); exact HO207.out) (Kd.R_base ho0) hb)
                have n6_ := Aside0.mk (Kd.R_elder' (by (with_reducible repeat (first | apply Kd.R_alloc | apply Kd.R_drewN | apply Kd.R_drew)); exact HO212.out) (Kd.R_base ho0) hb)
                have n7_ := Aside0.mk (Kd.R_below (by (with_reducible repeat (first | apply Kd.R_alloc | apply Kd.R_drewN | apply Kd.R_drew)); exact HO215.out) hb)
                have n8_ := Aside0.mk (Kd.R_elder' (by (with_reducible repeat (first | apply Kd.R_alloc | apply Kd.R_drewN | apply Kd.R_drew)); exact HO219.out) (Kd.R_base ho0) hb)
                have n9_ := Aside0.mk (Kd.R_lower (Kd.R_new' (Kd.R_new' (Kd.R_new' (Kd.R_new' (Kd.R_new' (Kd.R_new' (Kd.R_new' ho0 (Kd.R_lt (by (with_reducible repeat (first | apply Kd.R_alloc | apply Kd.R_drewN | apply Kd.R_drew)); exact HO191.out))) (Kd.R_lt (by (with_reducible repeat (first | apply Kd.R_alloc | apply Kd.R_drewN | apply Kd.R_drew)); exact HO194.out))) (Kd.R_lt (by (with_reducible repeat (first | apply Kd.R_alloc | apply Kd.R_drewN | apply Kd.R_drew)); exact HO198.out))) (Kd.R_lt (by (with_reducible repeat (first | apply Kd.R_alloc | apply Kd.R_drewN | apply Kd.R_drew)); exact HO204.out))) (Kd.R_lt (by (with_reducible repeat (first | apply Kd.R_alloc | apply Kd.R_drewN | apply Kd.R_drew)); exact HO207.out))) (Kd.R_lt (by (with_reducible repeat (first | apply Kd.R_alloc | apply Kd.R_drewN | apply Kd.R_drew)); exact HO212.out))) (Kd.R_lt (by (with_reducible repeat (first | apply Kd.R_alloc | apply Kd.R_drewN | apply Kd.R_drew)); exact HO219.out))) (below_size (by repeat (first | (with_reducible first | exact HB.out | apply below_alloc | apply pw_below_drewN | apply below_drew1 | refine below_set ?_ GE187.out | refine below_set ?_ GE209.out) | exact HB.out))))
                have n10_ := Aside0.mk (blk_below (g := gb187) (o := .cells #[.slice A1_0 l1_0.length c1_0, .int .i64 a1_1] 29 (0, 0)) (by (with_reducible repeat (first | refine blk_drewN ?_ _ | refine blk_drew ?_ | refine blk_alloc ?_ _)); exact BK187.out) hb)
                have n11_ := Aside0.mk (blk_below (g := gb209) (o := .cells #[.slice Ao51 t205.length co51, .int .i64 t208] 24 (0, 0)) (by (with_reducible repeat (first | refine blk_drewN ?_ _ | refine blk_drew ?_ | refine blk_alloc ?_ _)); exact BK209.out) hb)
                have n12_ := Aside0.mk (below_step (by repeat (first | (with_reducible first | exact HB.out | apply below_alloc | apply pw_below_drewN | apply below_drew1 | refine below_set ?_ GE187.out | refine below_set ?_ GE209.out) | exact HB.out)) hb)
                clear HO191
                clear HO194
                clear HO198
                clear HO201
                clear HO204
                clear HO207
                clear HO212
                clear HO215
                clear HO219
                clear BK187
                clear BK209
                clear HB
                have HO191 := n0_
                have HO194 := n1_
                have HO198 := n2_
                have HO201 := n3_
                have HO204 := n4_
                have HO207 := n5_
                have HO212 := n6_
                have HO215 := n7_
                have HO219 := n8_
                have HO223 := n9_
                have BK187 := n10_
                have BK209 := n11_
                have HB := n12_
                clear n0_ n1_ n2_ n3_ n4_ n5_ n6_ n7_ n8_ n9_ n10_ n11_ n12_
                (try clear hb)
                (try clear hb2)
                (try clear hk)
                (try clear hi)
                (try clear ho0)
                obtain ⟨Ao66, co66, eo66⟩ := Kd.R_slice HO223.out
                (first | subst eo66 | (injection eo66 with f1_ f2_ f3_; have f4_ := f1_.symm; have f5_ := f3_.symm; clear f1_ f2_ f3_; subst f4_; subst f5_))
                refine hK.out _ _ ⟨(blk_cell BK209.out 0).trans rfl, (blk_cell BK209.out 1).trans rfl, (blk_cell BK187.out 0).trans rfl, (blk_cell BK187.out 1).trans rfl⟩ (fun hHeld => ?_)
                clear hK K
                refine norm_ (a' := ?_) ?_ ?_
                rotate_left
                · show Act.put _ (some 56) _ = _
                  simp only [Act.put, List.setIfInBounds_toArray, List.set_cons_zero, List.set_cons_succ, i64_w, i32_w]
                  rfl
                refine one_ (i := 3) (N := some 57) #[true, true, true, true, false] rfl rfl (by kernel_rfl) (by decide) (fun K hK => ?_)
                refine goes_ Try.func17 (by kernel_rfl) rfl #[.agg #[.slice Ao51 t205.length co51, .int .i64 t208], .agg #[.slice Ao66 t221.length co66, .int .i64 t224]] (by rfl) rfl rfl (by (try simp only [List.map_toArray, List.map_cons, List.map_nil]); first | done | rfl | (simp only [List.length_drop, List.length_take]; rfl)) ?_
                with_reducible refine (laws_eqKeys.calls k _ _ t205 t208 _ _ t221 t224 true _ ?side1 ?side2 ?side3 ?side4 A27.out).mono ?_
                (case side1 => repeat (first | exact (Kd.R_reads' HO207.out).2.2 | (with_reducible refine Kd.C_alloc ?_ _) | (with_reducible refine Kd.C_drewN ?_ _) | (with_reducible refine Kd.C_drew ?_)))
                (case side2 => exact (Kd.R_reads' HO207.out).2.1)
                (case side3 => repeat (first | exact (Kd.R_reads' HO223.out).2.2 | (with_reducible refine Kd.C_alloc ?_ _) | (with_reducible refine Kd.C_drewN ?_ _) | (with_reducible refine Kd.C_drew ?_)))
                (case side4 => exact (Kd.R_reads' HO223.out).2.1)
                rintro e w67 ⟨rfl, hb⟩
                refine ⟨_, rfl, ?_⟩
                have n0_ := Aside0.mk (Kd.R_below (by (with_reducible repeat (first | apply Kd.R_alloc | apply Kd.R_drewN | apply Kd.R_drew)); exact HO191.out) hb)
                have n1_ := Aside0.mk (Kd.R_below (by (with_reducible repeat (first | apply Kd.R_alloc | apply Kd.R_drewN | apply Kd.R_drew)); exact HO194.out) hb)
                have n2_ := Aside0.mk (Kd.R_below (by (with_reducible repeat (first | apply Kd.R_alloc | apply Kd.R_drewN | apply Kd.R_drew)); exact HO198.out) hb)
                have n3_ := Aside0.mk (Kd.R_below (by (with_reducible repeat (first | apply Kd.R_alloc | apply Kd.R_drewN | apply Kd.R_drew)); exact HO201.out) hb)
                have n4_ := Aside0.mk (Kd.R_below (by (with_reducible repeat (first | apply Kd.R_alloc | apply Kd.R_drewN | apply Kd.R_drew)); exact HO204.out) hb)
                have n5_ := Aside0.mk (Kd.R_below (by (with_reducible repeat (first | apply Kd.R_alloc | apply Kd.R_drewN | apply Kd.R_drew)); exact HO207.out) hb)
                have n6_ := Aside0.mk (Kd.R_below (by (with_reducible repeat (first | apply Kd.R_alloc | apply Kd.R_drewN | apply Kd.R_drew)); exact HO212.out) hb)
                have n7_ := Aside0.mk (Kd.R_below (by (with_reducible repeat (first | apply Kd.R_alloc | apply Kd.R_drewN | apply Kd.R_drew)); exact HO215.out) hb)
                have n8_ := Aside0.mk (Kd.R_below (by (with_reducible repeat (first | apply Kd.R_alloc | apply Kd.R_drewN | apply Kd.R_drew)); exact HO219.out) hb)
                have n9_ := Aside0.mk (Kd.R_below (by (with_reducible repeat (first | apply Kd.R_alloc | apply Kd.R_drewN | apply Kd.R_drew)); exact HO223.out) hb)
                have n10_ := Aside0.mk (blk_below (g := gb187) (o := .cells #[.slice A1_0 l1_0.length c1_0, .int .i64 a1_1] 29 (0, 0)) (by (with_reducible repeat (first | refine blk_drewN ?_ _ | refine blk_drew ?_ | refine blk_alloc ?_ _)); exact BK187.out) hb)
                have n11_ := Aside0.mk (blk_below (g := gb209) (o := .cells #[.slice Ao51 t205.length co51, .int .i64 t208] 24 (0, 0)) (by (with_reducible repeat (first | refine blk_drewN ?_ _ | refine blk_drew ?_ | refine blk_alloc ?_ _)); exact BK209.out) hb)
                have n12_ := Aside0.mk (below_step (by repeat (first | (with_reducible first | exact HB.out | apply below_alloc | apply pw_below_drewN | apply below_drew1 | refine below_set ?_ GE187.out | refine below_set ?_ GE209.out) | exact HB.out)) hb)
                clear HO191
                clear HO194
                clear HO198
                clear HO201
                clear HO204
                clear HO207
                clear HO212
                clear HO215
                clear HO219
                clear HO223
                clear BK187
                clear BK209
                clear HB
                have HO191 := n0_
                have HO194 := n1_
                have HO198 := n2_
                have HO201 := n3_
                have HO204 := n4_
                have HO207 := n5_
                have HO212 := n6_
                have HO215 := n7_
                have HO219 := n8_
                have HO223 := n9_
                have BK187 := n10_
                have BK209 := n11_
                have HB := n12_
                clear n0_ n1_ n2_ n3_ n4_ n5_ n6_ n7_ n8_ n9_ n10_ n11_ n12_
                (try clear hb)
                (try clear hb2)
                (try clear hk)
                (try clear hi)
                refine hK.out _ _ ⟨(blk_cell BK209.out 0).trans rfl, (blk_cell BK209.out 1).trans rfl, (blk_cell BK187.out 0).trans rfl, (blk_cell BK187.out 1).trans rfl⟩ (fun hHeld => ?_)
                clear hK K
                refine norm_ (a' := ?_) ?_ ?_
                rotate_left
                · show Act.put _ (some 57) _ = _
                  simp only [Act.put, List.setIfInBounds_toArray, List.set_cons_zero, List.set_cons_succ, i64_w, i32_w]
                  rfl
                refine pure_ (i := 4) (N := some 58) (v := ?_) (a' := ?_) #[true, true, true, true, true] rfl rfl (by kernel_rfl) (fun _ _ _ h => h) (Or.inl ⟨by rfl, ?_⟩) ?_ ?_
                rotate_left
                · intro w'
                  go_simp
                  with_reducible rfl
                rotate_left
                · simp only [Act.put, List.setIfInBounds_toArray, List.set_cons_zero, List.set_cons_succ, i64_w, i32_w]
                  rfl
                refine done_ (by kernel_rfl) ?_
                go_upto_region 26 with (first | ((with_reducible refine gate_callee (f := 36) rfl ?_); refine goesL_ (some 61) rfl rfl Try.func36 (by kernel_rfl) rfl #[.slice A2 l2.length c2] rfl (by (try simp only [List.map_toArray, List.map_cons, List.map_nil]); first | done | rfl | (simp only [List.length_drop, List.length_take]; rfl)) ?_; (with_reducible refine (laws_toIntS.calls k _ _ l2 t226 _ ?side1 ?side2 A29.out).mono ?_); (case side1 => repeat (first | exact (Kd.C_below HR2.out HB.out) | (with_reducible refine Kd.C_alloc ?_ _) | (with_reducible refine Kd.C_drewN ?_ _) | (with_reducible refine Kd.C_drew ?_))); (case side2 => exact HC2.out); rintro e w68 ⟨v227, rfl, ho0, hb⟩; refine ⟨_, rfl, ?_⟩; have n0_ := Aside0.mk (Kd.R_elder' (by (with_reducible repeat (first | apply Kd.R_alloc | apply Kd.R_drewN | apply Kd.R_drew)); exact HO191.out) (Kd.R_base ho0) hb); have n1_ := Aside0.mk (Kd.R_elder' (by (with_reducible repeat (first | apply Kd.R_alloc | apply Kd.R_drewN | apply Kd.R_drew)); exact HO194.out) (Kd.R_base ho0) hb); have n2_ := Aside0.mk (Kd.R_elder' (by (with_reducible repeat (first | apply Kd.R_alloc | apply Kd.R_drewN | apply Kd.R_drew)); exact HO198.out) (Kd.R_base ho0) hb); have n3_ := Aside0.mk (Kd.R_below (by (with_reducible repeat (first | apply Kd.R_alloc | apply Kd.R_drewN | apply Kd.R_drew)); exact HO201.out) hb); have n4_ := Aside0.mk (Kd.R_elder' (by (with_reducible repeat (first | apply Kd.R_alloc | apply Kd.R_drewN | apply Kd.R_drew)); exact HO204.out) (Kd.R_base ho0) hb); have n5_ := Aside0.mk (Kd.R_elder' (by (with_reducible repeat (first | apply Kd.R_alloc | apply Kd.R_drewN | apply Kd.R_drew)); exact HO207.out) (Kd.R_base ho0) hb); have n6_ := Aside0.mk (Kd.R_elder' (by (with_reducible repeat (first | apply Kd.R_alloc | apply Kd.R_drewN | apply Kd.R_drew)); exact HO212.out) (Kd.R_base ho0) hb); have n7_ := Aside0.mk (Kd.R_below (by (with_reducible repeat (first | apply Kd.R_alloc | apply Kd.R_drewN | apply Kd.R_drew)); exact HO215.out) hb); have n8_ := Aside0.mk (Kd.R_elder' (by (with_reducible repeat (first | apply Kd.R_alloc | apply Kd.R_drewN | apply Kd.R_drew)); exact HO219.out) (Kd.R_base ho0) hb); have n9_ := Aside0.mk (Kd.R_elder' (by (with_reducible repeat (first | apply Kd.R_alloc | apply Kd.R_drewN | apply Kd.R_drew)); exact HO223.out) (Kd.R_base ho0) hb); have n10_ := Aside0.mk (Kd.R_lower (Kd.R_new' (Kd.R_new' (Kd.R_new' (Kd.R_new' (Kd.R_new' (Kd.R_new' (Kd.R_new' (Kd.R_new' ho0 (Kd.R_lt (by (with_reducible repeat (first | apply Kd.R_alloc | apply Kd.R_drewN | apply Kd.R_drew)); exact HO191.out))) (Kd.R_lt (by (with_reducible repeat (first | apply Kd.R_alloc | apply Kd.R_drewN | apply Kd.R_drew)); exact HO194.out))) (Kd.R_lt (by (with_reducible repeat (first | apply Kd.R_alloc | apply Kd.R_drewN | apply Kd.R_drew)); exact HO198.out))) (Kd.R_lt (by (with_reducible repeat (first | apply Kd.R_alloc | apply Kd.R_drewN | apply Kd.R_drew)); exact HO204.out))) (Kd.R_lt (by (with_reducible repeat (first | apply Kd.R_alloc | apply Kd.R_drewN | apply Kd.R_drew)); exact HO207.out))) (Kd.R_lt (by (with_reducible repeat (first | apply Kd.R_alloc | apply Kd.R_drewN | apply Kd.R_drew)); exact HO212.out))) (Kd.R_lt (by (with_reducible repeat (first | apply Kd.R_alloc | apply Kd.R_drewN | apply Kd.R_drew)); exact HO219.out))) (Kd.R_lt (by (with_reducible repeat (first | apply Kd.R_alloc | apply Kd.R_drewN | apply Kd.R_drew)); exact HO223.out))) (below_size (by repeat (first | (with_reducible first | exact HB.out | apply below_alloc | apply pw_below_drewN | apply below_drew1 | refine below_set ?_ GE187.out | refine below_set ?_ GE209.out) | exact HB.out)))); have n11_ := Aside0.mk (blk_below (g := gb187) (o := .cells #[.slice A1_0 l1_0.length c1_0, .int .i64 a1_1] 29 (0, 0)) (by (with_reducible repeat (first | refine blk_drewN ?_ _ | refine blk_drew ?_ | refine blk_alloc ?_ _)); exact BK187.out) hb); have n12_ := Aside0.mk (blk_below (g := gb209) (o := .cells #[.slice Ao51 t205.length co51, .int .i64 t208] 24 (0, 0)) (by (with_reducible repeat (first | refine blk_drewN ?_ _ | refine blk_drew ?_ | refine blk_alloc ?_ _)); exact BK209.out) hb); have n13_ := Aside0.mk (below_step (by repeat (first | (with_reducible first | exact HB.out | apply below_alloc | apply pw_below_drewN | apply below_drew1 | refine below_set ?_ GE187.out | refine below_set ?_ GE209.out) | exact HB.out)) hb); clear HO191; clear HO194; clear HO198; clear HO201; clear HO204; clear HO207; clear HO212; clear HO215; clear HO219; clear HO223; clear BK187; clear BK209; clear HB; have HO191 := n0_; have HO194 := n1_; have HO198 := n2_; have HO201 := n3_; have HO204 := n4_; have HO207 := n5_; have HO212 := n6_; have HO215 := n7_; have HO219 := n8_; have HO223 := n9_; have HO228 := n10_; have BK187 := n11_; have BK209 := n12_; have HB := n13_; clear n0_ n1_ n2_ n3_ n4_ n5_ n6_ n7_ n8_ n9_ n10_ n11_ n12_ n13_; (try clear hb); (try clear hb2); (try clear hk); (try clear hi); (try clear ho0); obtain ⟨Ao69, co69, eo69⟩ := Kd.R_slice HO228.out; subst eo69) | ((with_reducible refine gate_callee (f := 26) rfl ?_); refine goesL_ (some 62) rfl rfl Try.func26 (by kernel_rfl) rfl #[.slice Ao57 t210.length co57, .slice Ao69 t226.length co69] rfl (by (try simp only [List.map_toArray, List.map_cons, List.map_nil]); first | done | rfl | (simp only [List.length_drop, List.length_take]; rfl)) ?_; (with_reducible refine (laws_eqIntS.calls k _ _ t210 _ _ t226 true _ ?side1 ?side2 ?side3 ?side4 A30.out).mono ?_); (case side1 => repeat (first | exact (Kd.R_reads' HO212.out).2.2 | (with_reducible refine Kd.C_alloc ?_ _) | (with_reducible refine Kd.C_drewN ?_ _) | (with_reducible refine Kd.C_drew ?_))); (case side2 => exact (Kd.R_reads' HO212.out).2.1); (case side3 => repeat (first | exact (Kd.R_reads' HO228.out).2.2 | (with_reducible refine Kd.C_alloc ?_ _) | (with_reducible refine Kd.C_drewN ?_ _) | (with_reducible refine Kd.C_drew ?_))); (case side4 => exact (Kd.R_reads' HO228.out).2.1); rintro e w' ⟨rfl, ⟨nd, rfl⟩⟩; refine ⟨_, rfl, ?_⟩) | ((with_reducible refine gate_callee (f := 27) rfl ?_); refine goesL_ (some 66) rfl rfl Try.func27 (by kernel_rfl) rfl #[.slice Ao56 t202.length co56, .int .i64 1] rfl (by (try simp only [List.map_toArray, List.map_cons, List.map_nil]); first | done | rfl | (simp only [List.length_drop, List.length_take]; rfl)) ?_; (with_reducible refine (laws_markIntS.calls k (fun k_ => some k_ = (.slice Ao56 t202.length co56 : Value).ownBlock) (.slice Ao56 t202.length co56) t202 1 t230 t231 w _ ?side1 ?side2 A32.out).mono ?_); (case side1 => repeat (first | (with_reducible first | exact HB.out | apply below_alloc | apply pw_below_drewN | apply below_drew1 | refine below_set ?_ GE187.out | refine below_set ?_ GE209.out) | exact HB.out)); (case side2 => exact Kd.R_tight rfl HO204.out); rintro e w70 ⟨rfl, hy0, hb, hkp⟩; refine ⟨_, rfl, ?_⟩; have n0_ := Aside0.mk (blk_kept (by (with_reducible repeat (first | refine blk_drewN ?_ _ | refine blk_drew ?_ | refine blk_alloc ?_ _)); exact BK187.out) hkp (fun hs_ => (fun e_ => (Kd.R_ne HO204.out BK187.out (by decide)) e_) hs_)); have n1_ := Aside0.mk (Kd.R_mono (ok' := fun k_ => some k_ ≠ (.slice Ao44 t192.length co44 : Value).ownBlock ∧ some k_ ≠ (.slice Ao45 t196.length co45 : Value).ownBlock ∧ some k_ ≠ (.slice Ao56 t202.length co56 : Value).ownBlock ∧ some k_ ≠ (.slice Ao51 t205.length co51 : Value).ownBlock ∧ some k_ ≠ (.slice Ao57 t210.length co57 : Value).ownBlock ∧ some k_ ≠ (.slice Ao63 t217.length co63 : Value).ownBlock ∧ some k_ ≠ (.slice Ao66 t221.length co66 : Value).ownBlock ∧ some k_ ≠ (.slice Ao69 t226.length co69 : Value).ownBlock) (Kd.R_keptB (HO191.out) hkp (fun k_ hk_ hs_ => (by first | exact (hk_.1.1.1.1.1.2) hs_ | (have h_ := hk_; simp at h_; simp [h_] at hs_) | (have h_ := hk_; simp [hs_] at h_)))) (fun k_ hk_ => (by first | exact ⟨hk_.1.1.1.1.1.1.1.1.2, hk_.1.1.1.1.1.1.1.2, hk_.1.1.1.1.1.1.2, hk_.1.1.1.1.1.2, hk_.1.1.1.1.2, hk_.1.1.1.2, hk_.1.1.2, hk_.1.2⟩ | (have h_ := hk_; simp at h_; simp [h_])))); have n2_ := Aside0.mk (Kd.R_mono (ok' := fun k_ => some k_ ≠ (.slice Ao43 t189.length co43 : Value).ownBlock ∧ some k_ ≠ (.slice Ao45 t196.length co45 : Value).ownBlock ∧ some k_ ≠ (.slice Ao56 t202.length co56 : Value).ownBlock ∧ some k_ ≠ (.slice Ao51 t205.length co51 : Value).ownBlock ∧ some k_ ≠ (.slice Ao57 t210.length co57 : Value).ownBlock ∧ some k_ ≠ (.slice Ao63 t217.length co63 : Value).ownBlock ∧ some k_ ≠ (.slice Ao66 t221.length co66 : Value).ownBlock ∧ some k_ ≠ (.slice Ao69 t226.length co69 : Value).ownBlock) (Kd.R_keptB (HO194.out) hkp (fun k_ hk_ hs_ => (by first | exact (hk_.1.1.1.1.1.2) hs_ | (have h_ := hk_; simp at h_; simp [h_] at hs_) | (have h_ := hk_; simp [hs_] at h_)))) (fun k_ hk_ => (by first | exact ⟨hk_.1.1.1.1.1.1.1.1.2, hk_.1.1.1.1.1.1.1.2, hk_.1.1.1.1.1.1.2, hk_.1.1.1.1.1.2, hk_.1.1.1.1.2, hk_.1.1.1.2, hk_.1.1.2, hk_.1.2⟩ | (have h_ := hk_; simp at h_; simp [h_])))); have n3_ := Aside0.mk (Kd.R_mono (ok' := fun k_ => some k_ ≠ (.slice Ao43 t189.length co43 : Value).ownBlock ∧ some k_ ≠ (.slice Ao44 t192.length co44 : Value).ownBlock ∧ some k_ ≠ (.slice Ao56 t202.length co56 : Value).ownBlock ∧ some k_ ≠ (.slice Ao51 t205.length co51 : Value).ownBlock ∧ some k_ ≠ (.slice Ao57 t210.length co57 : Value).ownBlock ∧ some k_ ≠ (.slice Ao63 t217.length co63 : Value).ownBlock ∧ some k_ ≠ (.slice Ao66 t221.length co66 : Value).ownBlock ∧ some k_ ≠ (.slice Ao69 t226.length co69 : Value).ownBlock) (Kd.R_keptB (HO198.out) hkp (fun k_ hk_ hs_ => (by first | exact (hk_.1.1.1.1.1.2) hs_ | (have h_ := hk_; simp at h_; simp [h_] at hs_) | (have h_ := hk_; simp [hs_] at h_)))) (fun k_ hk_ => (by first | exact ⟨hk_.1.1.1.1.1.1.1.1.2, hk_.1.1.1.1.1.1.1.2, hk_.1.1.1.1.1.1.2, hk_.1.1.1.1.1.2, hk_.1.1.1.1.2, hk_.1.1.1.2, hk_.1.1.2, hk_.1.2⟩ | (have h_ := hk_; simp at h_; simp [h_])))); have n4_ := Aside0.mk (Kd.R_mono (ok' := fun k_ => some k_ ≠ (.slice Ao59 t213.length co59 : Value).ownBlock) (Kd.R_keptB ((Kd.R_apart' HO201.out (Kd.R_typed HO204.out) (by decide))) hkp (fun k_ hk_ hs_ => (by first | exact (hk_.2) hs_ | (have h_ := hk_; simp at h_; simp [h_] at hs_) | (have h_ := hk_; simp [hs_] at h_)))) (fun k_ hk_ => (by first | exact hk_.1.1.2 | (have h_ := hk_; simp at h_; simp [h_])))); have n5_ := Aside0.mk (Kd.R_reok rfl hy0 (fun k_ e_ => HO204.out.1 k_ e_)); have n6_ := Aside0.mk (Kd.R_mono (ok' := fun k_ => some k_ ≠ (.slice Ao43 t189.length co43 : Value).ownBlock ∧ some k_ ≠ (.slice Ao44 t192.length co44 : Value).ownBlock ∧ some k_ ≠ (.slice Ao45 t196.length co45 : Value).ownBlock ∧ some k_ ≠ (.slice Ao56 t202.length co56 : Value).ownBlock ∧ some k_ ≠ (.slice Ao57 t210.length co57 : Value).ownBlock ∧ some k_ ≠ (.slice Ao63 t217.length co63 : Value).ownBlock ∧ some k_ ≠ (.slice Ao66 t221.length co66 : Value).ownBlock ∧ some k_ ≠ (.slice Ao69 t226.length co69 : Value).ownBlock) (Kd.R_keptB (HO207.out) hkp (fun k_ hk_ hs_ => (by first | exact (hk_.1.1.1.1.2) hs_ | (have h_ := hk_; simp at h_; simp [h_] at hs_) | (have h_ := hk_; simp [hs_] at h_)))) (fun k_ hk_ => (by first | exact ⟨hk_.1.1.1.1.1.1.1.1.2, hk_.1.1.1.1.1.1.1.2, hk_.1.1.1.1.1.1.2, hk_.1.1.1.1.1.2, hk_.1.1.1.1.2, hk_.1.1.1.2, hk_.1.1.2, hk_.1.2⟩ | (have h_ := hk_; simp at h_; simp [h_])))); have n7_ := Aside0.mk (blk_kept (by (with_reducible repeat (first | refine blk_drewN ?_ _ | refine blk_drew ?_ | refine blk_alloc ?_ _)); exact BK209.out) hkp (fun hs_ => (fun e_ => (Kd.R_ne HO204.out BK209.out (by decide)) e_) hs_)); have n8_ := Aside0.mk (Kd.R_mono (ok' := fun k_ => some k_ ≠ (.slice Ao43 t189.length co43 : Value).ownBlock ∧ some k_ ≠ (.slice Ao44 t192.length co44 : Value).ownBlock ∧ some k_ ≠ (.slice Ao45 t196.length co45 : Value).ownBlock ∧ some k_ ≠ (.slice Ao56 t202.length co56 : Value).ownBlock ∧ some k_ ≠ (.slice Ao51 t205.length co51 : Value).ownBlock ∧ some k_ ≠ (.slice Ao63 t217.length co63 : Value).ownBlock ∧ some k_ ≠ (.slice Ao66 t221.length co66 : Value).ownBlock ∧ some k_ ≠ (.slice Ao69 t226.length co69 : Value).ownBlock) (Kd.R_keptB (HO212.out) hkp (fun k_ hk_ hs_ => (by first | exact (hk_.1.1.1.1.2) hs_ | (have h_ := hk_; simp at h_; simp [h_] at hs_) | (have h_ := hk_; simp [hs_] at h_)))) (fun k_ hk_ => (by first | exact ⟨hk_.1.1.1.1.1.1.1.1.2, hk_.1.1.1.1.1.1.1.2, hk_.1.1.1.1.1.1.2, hk_.1.1.1.1.1.2, hk_.1.1.1.1.2, hk_.1.1.1.2, hk_.1.1.2, hk_.1.2⟩ | (have h_ := hk_; simp at h_; simp [h_])))); have n9_ := Aside0.mk (Kd.R_mono (ok' := fun k_ => some k_ ≠ (.slice Ao60 t199.length co60 : Value).ownBlock) (Kd.R_keptB ((Kd.R_apart' HO215.out (Kd.R_typed HO204.out) (by decide))) hkp (fun k_ hk_ hs_ => (by first | exact (hk_.2) hs_ | (have h_ := hk_; simp at h_; simp [h_] at hs_) | (have h_ := hk_; simp [hs_] at h_)))) (fun k_ hk_ => (by first | exact hk_.1.1.2 | (have h_ := hk_; simp at h_; simp [h_])))); have n10_ := Aside0.mk (Kd.R_mono (ok' := fun k_ => some k_ ≠ (.slice Ao43 t189.length co43 : Value).ownBlock ∧ some k_ ≠ (.slice Ao44 t192.length co44 : Value).ownBlock ∧ some k_ ≠ (.slice Ao45 t196.length co45 : Value).ownBlock ∧ some k_ ≠ (.slice Ao56 t202.length co56 : Value).ownBlock ∧ some k_ ≠ (.slice Ao51 t205.length co51 : Value).ownBlock ∧ some k_ ≠ (.slice Ao57 t210.length co57 : Value).ownBlock ∧ some k_ ≠ (.slice Ao66 t221.length co66 : Value).ownBlock ∧ some k_ ≠ (.slice Ao69 t226.length co69 : Value).ownBlock) (Kd.R_keptB (HO219.out) hkp (fun k_ hk_ hs_ => (by first | exact (hk_.1.1.1.1.2) hs_ | (have h_ := hk_; simp at h_; simp [h_] at hs_) | (have h_ := hk_; simp [hs_] at h_)))) (fun k_ hk_ => (by first | exact ⟨hk_.1.1.1.1.1.1.1.1.2, hk_.1.1.1.1.1.1.1.2, hk_.1.1.1.1.1.1.2, hk_.1.1.1.1.1.2, hk_.1.1.1.1.2, hk_.1.1.1.2, hk_.1.1.2, hk_.1.2⟩ | (have h_ := hk_; simp at h_; simp [h_])))); have n11_ := Aside0.mk (Kd.R_mono (ok' := fun k_ => some k_ ≠ (.slice Ao43 t189.length co43 : Value).ownBlock ∧ some k_ ≠ (.slice Ao44 t192.length co44 : Value).ownBlock ∧ some k_ ≠ (.slice Ao45 t196.length co45 : Value).ownBlock ∧ some k_ ≠ (.slice Ao56 t202.length co56 : Value).ownBlock ∧ some k_ ≠ (.slice Ao51 t205.length co51 : Value).ownBlock ∧ some k_ ≠ (.slice Ao57 t210.length co57 : Value).ownBlock ∧ some k_ ≠ (.slice Ao63 t217.length co63 : Value).ownBlock ∧ some k_ ≠ (.slice Ao69 t226.length co69 : Value).ownBlock) (Kd.R_keptB (HO223.out) hkp (fun k_ hk_ hs_ => (by first | exact (hk_.1.1.1.1.2) hs_ | (have h_ := hk_; simp at h_; simp [h_] at hs_) | (have h_ := hk_; simp [hs_] at h_)))) (fun k_ hk_ => (by first | exact ⟨hk_.1.1.1.1.1.1.1.1.2, hk_.1.1.1.1.1.1.1.2, hk_.1.1.1.1.1.1.2, hk_.1.1.1.1.1.2, hk_.1.1.1.1.2, hk_.1.1.1.2, hk_.1.1.2, hk_.1.2⟩ | (have h_ := hk_; simp at h_; simp [h_])))); have n12_ := Aside0.mk (Kd.R_mono (ok' := fun k_ => some k_ ≠ (.slice Ao43 t189.length co43 : Value).ownBlock ∧ some k_ ≠ (.slice Ao44 t192.length co44 : Value).ownBlock ∧ some k_ ≠ (.slice Ao45 t196.length co45 : Value).ownBlock ∧ some k_ ≠ (.slice Ao56 t202.length co56 : Value).ownBlock ∧ some k_ ≠ (.slice Ao51 t205.length co51 : Value).ownBlock ∧ some k_ ≠ (.slice Ao57 t210.length co57 : Value).ownBlock ∧ some k_ ≠ (.slice Ao63 t217.length co63 : Value).ownBlock ∧ some k_ ≠ (.slice Ao66 t221.length co66 : Value).ownBlock) (Kd.R_keptB (HO228.out) hkp (fun k_ hk_ hs_ => (by first | exact (hk_.1.1.1.1.2) hs_ | (have h_ := hk_; simp at h_; simp [h_] at hs_) | (have h_ := hk_; simp [hs_] at h_)))) (fun k_ hk_ => (by first | exact ⟨hk_.1.1.1.1.1.1.1.1.2, hk_.1.1.1.1.1.1.1.2, hk_.1.1.1.1.1.1.2, hk_.1.1.1.1.1.2, hk_.1.1.1.1.2, hk_.1.1.1.2, hk_.1.1.2, hk_.1.2⟩ | (have h_ := hk_; simp at h_; simp [h_])))); have n13_ := Aside0.mk (hb); clear BK187; clear HO191; clear HO194; clear HO198; clear HO201; clear HO204; clear HO207; clear BK209; clear HO212; clear HO215; clear HO219; clear HO223; clear HO228; clear HB; have BK187 := n0_; have HO191 := n1_; have HO194 := n2_; have HO198 := n3_; have HO201 := n4_; have HO204 := n5_; have HO207 := n6_; have BK209 := n7_; have HO212 := n8_; have HO215 := n9_; have HO219 := n10_; have HO223 := n11_; have HO228 := n12_; have HB := n13_; clear n0_ n1_ n2_ n3_ n4_ n5_ n6_ n7_ n8_ n9_ n10_ n11_ n12_ n13_; (try clear hb); (try clear hkp); (try clear hy0); have hcz71_0 : w70.cell? ⟨gb209, 0, none⟩ = some (.slice Ao51 t205.length co51) := (blk_cell BK209.out 0).trans rfl; have hcz71_1 : w70.cell? ⟨gb209, 1, none⟩ = some (.int .i64 t208) := (blk_cell BK209.out 1).trans rfl; have hfz71_0 := blk_frozen BK209.out 0; have hfz71_1 := blk_frozen BK209.out 1) | ((with_reducible refine gate_callee (f := 18) rfl ?_); refine goesL_ (some 69) rfl rfl Try.func18 (by kernel_rfl) rfl #[.agg #[.slice Ao51 t205.length co51, .int .i64 t208], .int .i64 t230] rfl (by (try simp only [List.map_toArray, List.map_cons, List.map_nil]); first | done | rfl | (simp only [List.length_drop, List.length_take]; rfl)) ?_; (with_reducible refine (laws_markKeys.calls k (fun k_ => some k_ = (.slice Ao51 t205.length co51 : Value).ownBlock) (.slice Ao51 t205.length co51) t205 t208 t230 t232 t233 w _ ?side1 ?side2 A33.out).mono ?_); (case side1 => repeat (first | (with_reducible first | exact HB.out | apply below_alloc | apply pw_below_drewN | apply below_drew1 | refine below_set ?_ GE187.out | refine below_set ?_ GE209.out) | exact HB.out)); (case side2 => exact Kd.R_tight rfl HO207.out); rintro e w72 ⟨rfl, hy0, hb, hkp⟩; refine ⟨_, rfl, ?_⟩; have n0_ := Aside0.mk (blk_kept (by (with_reducible repeat (first | refine blk_drewN ?_ _ | refine blk_drew ?_ | refine blk_alloc ?_ _)); exact BK187.out) hkp (fun hs_ => (fun e_ => (Kd.R_ne HO207.out BK187.out (by decide)) e_) hs_)); have n1_ := Aside0.mk (Kd.R_mono (ok' := fun k_ => some k_ ≠ (.slice Ao44 t192.length co44 : Value).ownBlock ∧ some k_ ≠ (.slice Ao45 t196.length co45 : Value).ownBlock ∧ some k_ ≠ (.slice Ao56 t202.length co56 : Value).ownBlock ∧ some k_ ≠ (.slice Ao51 t205.length co51 : Value).ownBlock ∧ some k_ ≠ (.slice Ao57 t210.length co57 : Value).ownBlock ∧ some k_ ≠ (.slice Ao63 t217.length co63 : Value).ownBlock ∧ some k_ ≠ (.slice Ao66 t221.length co66 : Value).ownBlock ∧ some k_ ≠ (.slice Ao69 t226.length co69 : Value).ownBlock) (Kd.R_keptB (HO191.out) hkp (fun k_ hk_ hs_ => (by first | exact (hk_.2.2.2.1) hs_ | (have h_ := hk_; simp at h_; simp [h_] at hs_) | (have h_ := hk_; simp [hs_] at h_)))) (fun k_ hk_ => (by first | exact ⟨hk_.1.1, hk_.1.2.1, hk_.1.2.2.1, hk_.1.2.2.2.1, hk_.1.2.2.2.2.1, hk_.1.2.2.2.2.2.1, hk_.1.2.2.2.2.2.2.1, hk_.1.2.2.2.2.2.2.2⟩ | (have h_ := hk_; simp at h_; simp [h_])))); have n2_ := Aside0.mk (Kd.R_mono (ok' := fun k_ => some k_ ≠ (.slice Ao43 t189.length co43 : Value).ownBlock ∧ some k_ ≠ (.slice Ao45 t196.length co45 : Value).ownBlock ∧ some k_ ≠ (.slice Ao56 t202.length co56 : Value).ownBlock ∧ some k_ ≠ (.slice Ao51 t205.length co51 : Value).ownBlock ∧ some k_ ≠ (.slice Ao57 t210.length co57 : Value).ownBlock ∧ some k_ ≠ (.slice Ao63 t217.length co63 : Value).ownBlock ∧ some k_ ≠ (.slice Ao66 t221.length co66 : Value).ownBlock ∧ some k_ ≠ (.slice Ao69 t226.length co69 : Value).ownBlock) (Kd.R_keptB (HO194.out) hkp (fun k_ hk_ hs_ => (by first | exact (hk_.2.2.2.1) hs_ | (have h_ := hk_; simp at h_; simp [h_] at hs_) | (have h_ := hk_; simp [hs_] at h_)))) (fun k_ hk_ => (by first | exact ⟨hk_.1.1, hk_.1.2.1, hk_.1.2.2.1, hk_.1.2.2.2.1, hk_.1.2.2.2.2.1, hk_.1.2.2.2.2.2.1, hk_.1.2.2.2.2.2.2.1, hk_.1.2.2.2.2.2.2.2⟩ | (have h_ := hk_; simp at h_; simp [h_])))); have n3_ := Aside0.mk (Kd.R_mono (ok' := fun k_ => some k_ ≠ (.slice Ao43 t189.length co43 : Value).ownBlock ∧ some k_ ≠ (.slice Ao44 t192.length co44 : Value).ownBlock ∧ some k_ ≠ (.slice Ao56 t202.length co56 : Value).ownBlock ∧ some k_ ≠ (.slice Ao51 t205.length co51 : Value).ownBlock ∧ some k_ ≠ (.slice Ao57 t210.length co57 : Value).ownBlock ∧ some k_ ≠ (.slice Ao63 t217.length co63 : Value).ownBlock ∧ some k_ ≠ (.slice Ao66 t221.length co66 : Value).ownBlock ∧ some k_ ≠ (.slice Ao69 t226.length co69 : Value).ownBlock) (Kd.R_keptB (HO198.out) hkp (fun k_ hk_ hs_ => (by first | exact (hk_.2.2.2.1) hs_ | (have h_ := hk_; simp at h_; simp [h_] at hs_) | (have h_ := hk_; simp [hs_] at h_)))) (fun k_ hk_ => (by first | exact ⟨hk_.1.1, hk_.1.2.1, hk_.1.2.2.1, hk_.1.2.2.2.1, hk_.1.2.2.2.2.1, hk_.1.2.2.2.2.2.1, hk_.1.2.2.2.2.2.2.1, hk_.1.2.2.2.2.2.2.2⟩ | (have h_ := hk_; simp at h_; simp [h_])))); have n4_ := Aside0.mk (Kd.R_mono (ok' := fun k_ => some k_ ≠ (.slice Ao59 t213.length co59 : Value).ownBlock) (Kd.R_keptB ((Kd.R_apart' HO201.out (Kd.R_typed HO207.out) (by decide))) hkp (fun k_ hk_ hs_ => (by first | exact (hk_.2) hs_ | (have h_ := hk_; simp at h_; simp [h_] at hs_) | (have h_ := hk_; simp [hs_] at h_)))) (fun k_ hk_ => (by first | exact hk_.1.1 | (have h_ := hk_; simp at h_; simp [h_])))); have n5_ := Aside0.mk (Kd.R_mono (ok' := fun k_ => some k_ ≠ (.slice Ao43 t189.length co43 : Value).ownBlock ∧ some k_ ≠ (.slice Ao44 t192.length co44 : Value).ownBlock ∧ some k_ ≠ (.slice Ao45 t196.length co45 : Value).ownBlock ∧ some k_ ≠ (.slice Ao51 t205.length co51 : Value).ownBlock ∧ some k_ ≠ (.slice Ao57 t210.length co57 : Value).ownBlock ∧ some k_ ≠ (.slice Ao63 t217.length co63 : Value).ownBlock ∧ some k_ ≠ (.slice Ao66 t221.length co66 : Value).ownBlock ∧ some k_ ≠ (.slice Ao69 t226.length co69 : Value).ownBlock) (Kd.R_keptB (HO204.out) hkp (fun k_ hk_ hs_ => (by first | exact (hk_.1.1.1.1.2) hs_ | (have h_ := hk_; simp at h_; simp [h_] at hs_) | (have h_ := hk_; simp [hs_] at h_)))) (fun k_ hk_ => (by first | exact ⟨hk_.1.1.1.1.1.1.1.1.2, hk_.1.1.1.1.1.1.1.2, hk_.1.1.1.1.1.1.2, hk_.1.1.1.1.1.2, hk_.1.1.1.1.2, hk_.1.1.1.2, hk_.1.1.2, hk_.1.2⟩ | (have h_ := hk_; simp at h_; simp [h_])))); have n6_ := Aside0.mk (Kd.R_reok rfl hy0 (fun k_ e_ => HO207.out.1 k_ e_)); have n7_ := Aside0.mk (blk_kept (by (with_reducible repeat (first | refine blk_drewN ?_ _ | refine blk_drew ?_ | refine blk_alloc ?_ _)); exact BK209.out) hkp (fun hs_ => (fun e_ => (Kd.R_ne HO207.out BK209.out (by decide)) e_) hs_)); have n8_ := Aside0.mk (Kd.R_mono (ok' := fun k_ => some k_ ≠ (.slice Ao43 t189.length co43 : Value).ownBlock ∧ some k_ ≠ (.slice Ao44 t192.length co44 : Value).ownBlock ∧ some k_ ≠ (.slice Ao45 t196.length co45 : Value).ownBlock ∧ some k_ ≠ (.slice Ao56 t202.length co56 : Value).ownBlock ∧ some k_ ≠ (.slice Ao51 t205.length co51 : Value).ownBlock ∧ some k_ ≠ (.slice Ao63 t217.length co63 : Value).ownBlock ∧ some k_ ≠ (.slice Ao66 t221.length co66 : Value).ownBlock ∧ some k_ ≠ (.slice Ao69 t226.length co69 : Value).ownBlock) (Kd.R_keptB (HO212.out) hkp (fun k_ hk_ hs_ => (by first | exact (hk_.2.2.2.2.1) hs_ | (have h_ := hk_; simp at h_; simp [h_] at hs_) | (have h_ := hk_; simp [hs_] at h_)))) (fun k_ hk_ => (by first | exact ⟨hk_.1.1, hk_.1.2.1, hk_.1.2.2.1, hk_.1.2.2.2.1, hk_.1.2.2.2.2.1, hk_.1.2.2.2.2.2.1, hk_.1.2.2.2.2.2.2.1, hk_.1.2.2.2.2.2.2.2⟩ | (have h_ := hk_; simp at h_; simp [h_])))); have n9_ := Aside0.mk (Kd.R_mono (ok' := fun k_ => some k_ ≠ (.slice Ao60 t199.length co60 : Value).ownBlock) (Kd.R_keptB ((Kd.R_apart' HO215.out (Kd.R_typed HO207.out) (by decide))) hkp (fun k_ hk_ hs_ => (by first | exact (hk_.2) hs_ | (have h_ := hk_; simp at h_; simp [h_] at hs_) | (have h_ := hk_; simp [hs_] at h_)))) (fun k_ hk_ => (by first | exact hk_.1.1 | (have h_ := hk_; simp at h_; simp [h_])))); have n10_ := Aside0.mk (Kd.R_mono (ok' := fun k_ => some k_ ≠ (.slice Ao43 t189.length co43 : Value).ownBlock ∧ some k_ ≠ (.slice Ao44 t192.length co44 : Value).ownBlock ∧ some k_ ≠ (.slice Ao45 t196.length co45 : Value).ownBlock ∧ some k_ ≠ (.slice Ao56 t202.length co56 : Value).ownBlock ∧ some k_ ≠ (.slice Ao51 t205.length co51 : Value).ownBlock ∧ some k_ ≠ (.slice Ao57 t210.length co57 : Value).ownBlock ∧ some k_ ≠ (.slice Ao66 t221.length co66 : Value).ownBlock ∧ some k_ ≠ (.slice Ao69 t226.length co69 : Value).ownBlock) (Kd.R_keptB (HO219.out) hkp (fun k_ hk_ hs_ => (by first | exact (hk_.2.2.2.2.1) hs_ | (have h_ := hk_; simp at h_; simp [h_] at hs_) | (have h_ := hk_; simp [hs_] at h_)))) (fun k_ hk_ => (by first | exact ⟨hk_.1.1, hk_.1.2.1, hk_.1.2.2.1, hk_.1.2.2.2.1, hk_.1.2.2.2.2.1, hk_.1.2.2.2.2.2.1, hk_.1.2.2.2.2.2.2.1, hk_.1.2.2.2.2.2.2.2⟩ | (have h_ := hk_; simp at h_; simp [h_])))); have n11_ := Aside0.mk (Kd.R_mono (ok' := fun k_ => some k_ ≠ (.slice Ao43 t189.length co43 : Value).ownBlock ∧ some k_ ≠ (.slice Ao44 t192.length co44 : Value).ownBlock ∧ some k_ ≠ (.slice Ao45 t196.length co45 : Value).ownBlock ∧ some k_ ≠ (.slice Ao56 t202.length co56 : Value).ownBlock ∧ some k_ ≠ (.slice Ao51 t205.length co51 : Value).ownBlock ∧ some k_ ≠ (.slice Ao57 t210.length co57 : Value).ownBlock ∧ some k_ ≠ (.slice Ao63 t217.length co63 : Value).ownBlock ∧ some k_ ≠ (.slice Ao69 t226.length co69 : Value).ownBlock) (Kd.R_keptB (HO223.out) hkp (fun k_ hk_ hs_ => (by first | exact (hk_.2.2.2.2.1) hs_ | (have h_ := hk_; simp at h_; simp [h_] at hs_) | (have h_ := hk_; simp [hs_] at h_)))) (fun k_ hk_ => (by first | exact ⟨hk_.1.1, hk_.1.2.1, hk_.1.2.2.1, hk_.1.2.2.2.1, hk_.1.2.2.2.2.1, hk_.1.2.2.2.2.2.1, hk_.1.2.2.2.2.2.2.1, hk_.1.2.2.2.2.2.2.2⟩ | (have h_ := hk_; simp at h_; simp [h_])))); have n12_ := Aside0.mk (Kd.R_mono (ok' := fun k_ => some k_ ≠ (.slice Ao43 t189.length co43 : Value).ownBlock ∧ some k_ ≠ (.slice Ao44 t192.length co44 : Value).ownBlock ∧ some k_ ≠ (.slice Ao45 t196.length co45 : Value).ownBlock ∧ some k_ ≠ (.slice Ao56 t202.length co56 : Value).ownBlock ∧ some k_ ≠ (.slice Ao51 t205.length co51 : Value).ownBlock ∧ some k_ ≠ (.slice Ao57 t210.length co57 : Value).ownBlock ∧ some k_ ≠ (.slice Ao63 t217.length co63 : Value).ownBlock ∧ some k_ ≠ (.slice Ao66 t221.length co66 : Value).ownBlock) (Kd.R_keptB (HO228.out) hkp (fun k_ hk_ hs_ => (by first | exact (hk_.2.2.2.2.1) hs_ | (have h_ := hk_; simp at h_; simp [h_] at hs_) | (have h_ := hk_; simp [hs_] at h_)))) (fun k_ hk_ => (by first | exact ⟨hk_.1.1, hk_.1.2.1, hk_.1.2.2.1, hk_.1.2.2.2.1, hk_.1.2.2.2.2.1, hk_.1.2.2.2.2.2.1, hk_.1.2.2.2.2.2.2.1, hk_.1.2.2.2.2.2.2.2⟩ | (have h_ := hk_; simp at h_; simp [h_])))); have n13_ := Aside0.mk (hb); clear BK187; clear HO191; clear HO194; clear HO198; clear HO201; clear HO204; clear HO207; clear BK209; clear HO212; clear HO215; clear HO219; clear HO223; clear HO228; clear HB; have BK187 := n0_; have HO191 := n1_; have HO194 := n2_; have HO198 := n3_; have HO201 := n4_; have HO204 := n5_; have HO207 := n6_; have BK209 := n7_; have HO212 := n8_; have HO215 := n9_; have HO219 := n10_; have HO223 := n11_; have HO228 := n12_; have HB := n13_; clear n0_ n1_ n2_ n3_ n4_ n5_ n6_ n7_ n8_ n9_ n10_ n11_ n12_ n13_; (try clear hb); (try clear hkp); (try clear hy0)) | ((with_reducible refine gate_callee (f := 27) rfl ?_); refine goesL_ (some 72) rfl rfl Try.func27 (by kernel_rfl) rfl #[.slice Ao57 t210.length co57, .int .i64 t232] rfl (by (try simp only [List.map_toArray, List.map_cons, List.map_nil]); first | done | rfl | (simp only [List.length_drop, List.length_take]; rfl)) ?_; (with_reducible refine (laws_markIntS.calls k (fun k_ => some k_ = (.slice Ao57 t210.length co57 : Value).ownBlock) (.slice Ao57 t210.length co57) t210 t232 t234 t235 w _ ?side1 ?side2 A34.out).mono ?_); (case side1 => repeat (first | (with_reducible first | exact HB.out | apply below_alloc | apply pw_below_drewN | apply below_drew1 | refine below_set ?_ GE187.out | refine below_set ?_ GE209.out) | exact HB.out)); (case side2 => exact Kd.R_tight rfl HO212.out); rintro e w73 ⟨rfl, hy0, hb, hkp⟩; refine ⟨_, rfl, ?_⟩; have n0_ := Aside0.mk (blk_kept (by (with_reducible repeat (first | refine blk_drewN ?_ _ | refine blk_drew ?_ | refine blk_alloc ?_ _)); exact BK187.out) hkp (fun hs_ => (fun e_ => (Kd.R_ne HO212.out BK187.out (by decide)) e_) hs_)); have n1_ := Aside0.mk (Kd.R_mono (ok' := fun k_ => some k_ ≠ (.slice Ao44 t192.length co44 : Value).ownBlock ∧ some k_ ≠ (.slice Ao45 t196.length co45 : Value).ownBlock ∧ some k_ ≠ (.slice Ao56 t202.length co56 : Value).ownBlock ∧ some k_ ≠ (.slice Ao51 t205.length co51 : Value).ownBlock ∧ some k_ ≠ (.slice Ao57 t210.length co57 : Value).ownBlock ∧ some k_ ≠ (.slice Ao63 t217.length co63 : Value).ownBlock ∧ some k_ ≠ (.slice Ao66 t221.length co66 : Value).ownBlock ∧ some k_ ≠ (.slice Ao69 t226.length co69 : Value).ownBlock) (Kd.R_keptB (HO191.out) hkp (fun k_ hk_ hs_ => (by first | exact (hk_.2.2.2.2.1) hs_ | (have h_ := hk_; simp at h_; simp [h_] at hs_) | (have h_ := hk_; simp [hs_] at h_)))) (fun k_ hk_ => (by first | exact ⟨hk_.1.1, hk_.1.2.1, hk_.1.2.2.1, hk_.1.2.2.2.1, hk_.1.2.2.2.2.1, hk_.1.2.2.2.2.2.1, hk_.1.2.2.2.2.2.2.1, hk_.1.2.2.2.2.2.2.2⟩ | (have h_ := hk_; simp at h_; simp [h_])))); have n2_ := Aside0.mk (Kd.R_mono (ok' := fun k_ => some k_ ≠ (.slice Ao43 t189.length co43 : Value).ownBlock ∧ some k_ ≠ (.slice Ao45 t196.length co45 : Value).ownBlock ∧ some k_ ≠ (.slice Ao56 t202.length co56 : Value).ownBlock ∧ some k_ ≠ (.slice Ao51 t205.length co51 : Value).ownBlock ∧ some k_ ≠ (.slice Ao57 t210.length co57 : Value).ownBlock ∧ some k_ ≠ (.slice Ao63 t217.length co63 : Value).ownBlock ∧ some k_ ≠ (.slice Ao66 t221.length co66 : Value).ownBlock ∧ some k_ ≠ (.slice Ao69 t226.length co69 : Value).ownBlock) (Kd.R_keptB (HO194.out) hkp (fun k_ hk_ hs_ => (by first | exact (hk_.2.2.2.2.1) hs_ | (have h_ := hk_; simp at h_; simp [h_] at hs_) | (have h_ := hk_; simp [hs_] at h_)))) (fun k_ hk_ => (by first | exact ⟨hk_.1.1, hk_.1.2.1, hk_.1.2.2.1, hk_.1.2.2.2.1, hk_.1.2.2.2.2.1, hk_.1.2.2.2.2.2.1, hk_.1.2.2.2.2.2.2.1, hk_.1.2.2.2.2.2.2.2⟩ | (have h_ := hk_; simp at h_; simp [h_])))); have n3_ := Aside0.mk (Kd.R_mono (ok' := fun k_ => some k_ ≠ (.slice Ao43 t189.length co43 : Value).ownBlock ∧ some k_ ≠ (.slice Ao44 t192.length co44 : Value).ownBlock ∧ some k_ ≠ (.slice Ao56 t202.length co56 : Value).ownBlock ∧ some k_ ≠ (.slice Ao51 t205.length co51 : Value).ownBlock ∧ some k_ ≠ (.slice Ao57 t210.length co57 : Value).ownBlock ∧ some k_ ≠ (.slice Ao63 t217.length co63 : Value).ownBlock ∧ some k_ ≠ (.slice Ao66 t221.length co66 : Value).ownBlock ∧ some k_ ≠ (.slice Ao69 t226.length co69 : Value).ownBlock) (Kd.R_keptB (HO198.out) hkp (fun k_ hk_ hs_ => (by first | exact (hk_.2.2.2.2.1) hs_ | (have h_ := hk_; simp at h_; simp [h_] at hs_) | (have h_ := hk_; simp [hs_] at h_)))) (fun k_ hk_ => (by first | exact ⟨hk_.1.1, hk_.1.2.1, hk_.1.2.2.1, hk_.1.2.2.2.1, hk_.1.2.2.2.2.1, hk_.1.2.2.2.2.2.1, hk_.1.2.2.2.2.2.2.1, hk_.1.2.2.2.2.2.2.2⟩ | (have h_ := hk_; simp at h_; simp [h_])))); have n4_ := Aside0.mk (Kd.R_mono (ok' := fun k_ => some k_ ≠ (.slice Ao59 t213.length co59 : Value).ownBlock) (Kd.R_keptB ((Kd.R_apart' HO201.out (Kd.R_typed HO212.out) (by decide))) hkp (fun k_ hk_ hs_ => (by first | exact (hk_.2) hs_ | (have h_ := hk_; simp at h_; simp [h_] at hs_) | (have h_ := hk_; simp [hs_] at h_)))) (fun k_ hk_ => (by first | exact hk_.1.1 | (have h_ := hk_; simp at h_; simp [h_])))); have n5_ := Aside0.mk (Kd.R_mono (ok' := fun k_ => some k_ ≠ (.slice Ao43 t189.length co43 : Value).ownBlock ∧ some k_ ≠ (.slice Ao44 t192.length co44 : Value).ownBlock ∧ some k_ ≠ (.slice Ao45 t196.length co45 : Value).ownBlock ∧ some k_ ≠ (.slice Ao51 t205.length co51 : Value).ownBlock ∧ some k_ ≠ (.slice Ao57 t210.length co57 : Value).ownBlock ∧ some k_ ≠ (.slice Ao63 t217.length co63 : Value).ownBlock ∧ some k_ ≠ (.slice Ao66 t221.length co66 : Value).ownBlock ∧ some k_ ≠ (.slice Ao69 t226.length co69 : Value).ownBlock) (Kd.R_keptB (HO204.out) hkp (fun k_ hk_ hs_ => (by first | exact (hk_.2.2.2.2.1) hs_ | (have h_ := hk_; simp at h_; simp [h_] at hs_) | (have h_ := hk_; simp [hs_] at h_)))) (fun k_ hk_ => (by first | exact ⟨hk_.1.1, hk_.1.2.1, hk_.1.2.2.1, hk_.1.2.2.2.1, hk_.1.2.2.2.2.1, hk_.1.2.2.2.2.2.1, hk_.1.2.2.2.2.2.2.1, hk_.1.2.2.2.2.2.2.2⟩ | (have h_ := hk_; simp at h_; simp [h_])))); have n6_ := Aside0.mk (Kd.R_mono (ok' := fun k_ => some k_ ≠ (.slice Ao43 t189.length co43 : Value).ownBlock ∧ some k_ ≠ (.slice Ao44 t192.length co44 : Value).ownBlock ∧ some k_ ≠ (.slice Ao45 t196.length co45 : Value).ownBlock ∧ some k_ ≠ (.slice Ao56 t202.length co56 : Value).ownBlock ∧ some k_ ≠ (.slice Ao57 t210.length co57 : Value).ownBlock ∧ some k_ ≠ (.slice Ao63 t217.length co63 : Value).ownBlock ∧ some k_ ≠ (.slice Ao66 t221.length co66 : Value).ownBlock ∧ some k_ ≠ (.slice Ao69 t226.length co69 : Value).ownBlock) (Kd.R_keptB (HO207.out) hkp (fun k_ hk_ hs_ => (by first | exact (hk_.2.2.2.2.1) hs_ | (have h_ := hk_; simp at h_; simp [h_] at hs_) | (have h_ := hk_; simp [hs_] at h_)))) (fun k_ hk_ => (by first | exact ⟨hk_.1.1, hk_.1.2.1, hk_.1.2.2.1, hk_.1.2.2.2.1, hk_.1.2.2.2.2.1, hk_.1.2.2.2.2.2.1, hk_.1.2.2.2.2.2.2.1, hk_.1.2.2.2.2.2.2.2⟩ | (have h_ := hk_; simp at h_; simp [h_])))); have n7_ := Aside0.mk (blk_kept (by (with_reducible repeat (first | refine blk_drewN ?_ _ | refine blk_drew ?_ | refine blk_alloc ?_ _)); exact BK209.out) hkp (fun hs_ => (fun e_ => (Kd.R_ne HO212.out BK209.out (by decide)) e_) hs_)); have n8_ := Aside0.mk (Kd.R_reok rfl hy0 (fun k_ e_ => HO212.out.1 k_ e_)); have n9_ := Aside0.mk (Kd.R_mono (ok' := fun k_ => some k_ ≠ (.slice Ao60 t199.length co60 : Value).ownBlock) (Kd.R_keptB ((Kd.R_apart' HO215.out (Kd.R_typed HO212.out) (by decide))) hkp (fun k_ hk_ hs_ => (by first | exact (hk_.2) hs_ | (have h_ := hk_; simp at h_; simp [h_] at hs_) | (have h_ := hk_; simp [hs_] at h_)))) (fun k_ hk_ => (by first | exact hk_.1.1 | (have h_ := hk_; simp at h_; simp [h_])))); have n10_ := Aside0.mk (Kd.R_mono (ok' := fun k_ => some k_ ≠ (.slice Ao43 t189.length co43 : Value).ownBlock ∧ some k_ ≠ (.slice Ao44 t192.length co44 : Value).ownBlock ∧ some k_ ≠ (.slice Ao45 t196.length co45 : Value).ownBlock ∧ some k_ ≠ (.slice Ao56 t202.length co56 : Value).ownBlock ∧ some k_ ≠ (.slice Ao51 t205.length co51 : Value).ownBlock ∧ some k_ ≠ (.slice Ao57 t210.length co57 : Value).ownBlock ∧ some k_ ≠ (.slice Ao66 t221.length co66 : Value).ownBlock ∧ some k_ ≠ (.slice Ao69 t226.length co69 : Value).ownBlock) (Kd.R_keptB (HO219.out) hkp (fun k_ hk_ hs_ => (by first | exact (hk_.2.2.2.2.2.1) hs_ | (have h_ := hk_; simp at h_; simp [h_] at hs_) | (have h_ := hk_; simp [hs_] at h_)))) (fun k_ hk_ => (by first | exact ⟨hk_.1.1, hk_.1.2.1, hk_.1.2.2.1, hk_.1.2.2.2.1, hk_.1.2.2.2.2.1, hk_.1.2.2.2.2.2.1, hk_.1.2.2.2.2.2.2.1, hk_.1.2.2.2.2.2.2.2⟩ | (have h_ := hk_; simp at h_; simp [h_])))); have n11_ := Aside0.mk (Kd.R_mono (ok' := fun k_ => some k_ ≠ (.slice Ao43 t189.length co43 : Value).ownBlock ∧ some k_ ≠ (.slice Ao44 t192.length co44 : Value).ownBlock ∧ some k_ ≠ (.slice Ao45 t196.length co45 : Value).ownBlock ∧ some k_ ≠ (.slice Ao56 t202.length co56 : Value).ownBlock ∧ some k_ ≠ (.slice Ao51 t205.length co51 : Value).ownBlock ∧ some k_ ≠ (.slice Ao57 t210.length co57 : Value).ownBlock ∧ some k_ ≠ (.slice Ao63 t217.length co63 : Value).ownBlock ∧ some k_ ≠ (.slice Ao69 t226.length co69 : Value).ownBlock) (Kd.R_keptB (HO223.out) hkp (fun k_ hk_ hs_ => (by first | exact (hk_.2.2.2.2.2.1) hs_ | (have h_ := hk_; simp at h_; simp [h_] at hs_) | (have h_ := hk_; simp [hs_] at h_)))) (fun k_ hk_ => (by first | exact ⟨hk_.1.1, hk_.1.2.1, hk_.1.2.2.1, hk_.1.2.2.2.1, hk_.1.2.2.2.2.1, hk_.1.2.2.2.2.2.1, hk_.1.2.2.2.2.2.2.1, hk_.1.2.2.2.2.2.2.2⟩ | (have h_ := hk_; simp at h_; simp [h_])))); have n12_ := Aside0.mk (Kd.R_mono (ok' := fun k_ => some k_ ≠ (.slice Ao43 t189.length co43 : Value).ownBlock ∧ some k_ ≠ (.slice Ao44 t192.length co44 : Value).ownBlock ∧ some k_ ≠ (.slice Ao45 t196.length co45 : Value).ownBlock ∧ some k_ ≠ (.slice Ao56 t202.length co56 : Value).ownBlock ∧ some k_ ≠ (.slice Ao51 t205.length co51 : Value).ownBlock ∧ some k_ ≠ (.slice Ao57 t210.length co57 : Value).ownBlock ∧ some k_ ≠ (.slice Ao63 t217.length co63 : Value).ownBlock ∧ some k_ ≠ (.slice Ao66 t221.length co66 : Value).ownBlock) (Kd.R_keptB (HO228.out) hkp (fun k_ hk_ hs_ => (by first | exact (hk_.2.2.2.2.2.1) hs_ | (have h_ := hk_; simp at h_; simp [h_] at hs_) | (have h_ := hk_; simp [hs_] at h_)))) (fun k_ hk_ => (by first | exact ⟨hk_.1.1, hk_.1.2.1, hk_.1.2.2.1, hk_.1.2.2.2.1, hk_.1.2.2.2.2.1, hk_.1.2.2.2.2.2.1, hk_.1.2.2.2.2.2.2.1, hk_.1.2.2.2.2.2.2.2⟩ | (have h_ := hk_; simp at h_; simp [h_])))); have n13_ := Aside0.mk (hb); clear BK187; clear HO191; clear HO194; clear HO198; clear HO201; clear HO204; clear HO207; clear BK209; clear HO212; clear HO215; clear HO219; clear HO223; clear HO228; clear HB; have BK187 := n0_; have HO191 := n1_; have HO194 := n2_; have HO198 := n3_; have HO201 := n4_; have HO204 := n5_; have HO207 := n6_; have BK209 := n7_; have HO212 := n8_; have HO215 := n9_; have HO219 := n10_; have HO223 := n11_; have HO228 := n12_; have HB := n13_; clear n0_ n1_ n2_ n3_ n4_ n5_ n6_ n7_ n8_ n9_ n10_ n11_ n12_ n13_; (try clear hb); (try clear hkp); (try clear hy0)))
                (try simp only [Act.put, List.setIfInBounds_toArray, List.set_cons_zero, List.set_cons_succ])
                go_cut [80] (fun v80 wc => ∃ (kq : Nat) (x80_34 : Bool), v80 = .bool x80_34 ∧ Aside0 (laws_FnExactSignBy.j0 kq l0 l2 t199 t213 x80_34 l1_0 a1_1 = some r) ∧ Aside0 (kq ≤ k) ∧ Aside0 (Kd.R k49 49 wc w.heap.size (fun k_ => some k_ ≠ ((.slice Ao59 t213.length co59) : Value).ownBlock) (.slice Ao60 t199.length co60) t199) ∧ Aside0 (Kd.R k49 49 wc w.heap.size (fun k_ => some k_ ≠ ((.slice Ao60 t199.length co60) : Value).ownBlock) (.slice Ao59 t213.length co59) t213) ∧ Aside0 (Kd.R (Kd.int .i64) 3 wc w.heap.size (fun _ => True) (.slice Ao51 t205.length co51) t233) ∧ Aside0 (wc.heap[gb187]? = some (.cells #[(.slice A1_0 l1_0.length c1_0), .int .i64 a1_1] 29 (0, 0))) ∧ Aside0 (wc.heap[gb209]? = some (.cells #[(.slice Ao51 t205.length co51), .int .i64 t208] 24 (0, 0))) ∧ Aside0 (Below w.heap.size w wc))
                case first =>
                  have H := HC35.out
                  clear HC35
                  by_cases c74 : t234 < 0
                  · rw [if_pos c74] at H
                    have c74b0 : decide (t234 < 0) = true := decide_eq_true c74
                    clear c74
                    (first | rw [c74b0] | (simp only [i64_w, i32_w]; rw [c74b0]) | skip)
                    have H' := Aside0.mk H
                    clear H
                    go_wp2
                    go_meet
                    case rel => exact ⟨_, (true), (by first | rfl | (simp; done) | (simp [*]; done)), H', ⟨by first | omega | exact Nat.le_refl _⟩, ⟨by (with_reducible repeat (first | apply Kd.R_alloc | apply Kd.R_drewN | apply Kd.R_drew)); exact HO201.out⟩, ⟨by (with_reducible repeat (first | apply Kd.R_alloc | apply Kd.R_drewN | apply Kd.R_drew)); exact HO215.out⟩, ⟨by (with_reducible repeat (first | apply Kd.R_alloc | apply Kd.R_drewN | apply Kd.R_drew)); exact Kd.R_mono HO207.out (fun _ hk => trivial)⟩, ⟨by (with_reducible repeat (first | refine blk_drewN ?_ _ | refine blk_drew ?_ | refine blk_alloc ?_ _)); exact BK187.out⟩, ⟨by (with_reducible repeat (first | refine blk_drewN ?_ _ | refine blk_drew ?_ | refine blk_alloc ?_ _)); exact BK209.out⟩, ⟨by repeat (first | (with_reducible first | exact HB.out | apply below_alloc | apply pw_below_drewN | apply below_drew1 | refine below_set ?_ GE187.out | refine below_set ?_ GE209.out) | exact HB.out)⟩⟩
                  · rw [if_neg c74] at H
                    have c74b0 : decide (t234 < 0) = false := decide_eq_false c74
                    clear c74
                    (first | rw [c74b0] | (simp only [i64_w, i32_w]; rw [c74b0]) | skip)
                    replace H := Option.bind_eq_some_iff.mp H
                    obtain ⟨t236, A750, H⟩ := H
                    replace H : (laws_FnExactSignBy.j0 k l0 l2 t199 t213 (!t236) l1_0 a1_1) = some r := H
                    have A75 := Aside0.mk A750
                    clear A750
                    have H' := Aside0.mk H
                    clear H
                    go_wp2_with (first | (go_at_call 47; (with_reducible refine (laws_eqSigS.calls k _ _ t213 _ _ t199 t236 _ ?side1 ?side2 ?side3 ?side4 A75.out).mono ?_); (case side1 => repeat (first | exact (Kd.R_reads' HO215.out).2.2 | (with_reducible refine Kd.C_alloc ?_ _) | (with_reducible refine Kd.C_drewN ?_ _) | (with_reducible refine Kd.C_drew ?_))); (case side2 => exact (Kd.R_reads' HO215.out).2.1); (case side3 => repeat (first | exact (Kd.R_reads' HO201.out).2.2 | (with_reducible refine Kd.C_alloc ?_ _) | (with_reducible refine Kd.C_drewN ?_ _) | (with_reducible refine Kd.C_drew ?_))); (case side4 => exact (Kd.R_reads' HO201.out).2.1); rintro e w76 ⟨rfl, hb⟩; have n0_ := Aside0.mk (Kd.R_below (by (with_reducible repeat (first | apply Kd.R_alloc | apply Kd.R_drewN | apply Kd.R_drew)); exact HO191.out) hb); have n1_ := Aside0.mk (Kd.R_below (by (with_reducible repeat (first | apply Kd.R_alloc | apply Kd.R_drewN | apply Kd.R_drew)); exact HO194.out) hb); have n2_ := Aside0.mk (Kd.R_below (by (with_reducible repeat (first | apply Kd.R_alloc | apply Kd.R_drewN | apply Kd.R_drew)); exact HO198.out) hb); have n3_ := Aside0.mk (Kd.R_below (by (with_reducible repeat (first | apply Kd.R_alloc | apply Kd.R_drewN | apply Kd.R_drew)); exact HO201.out) hb); have n4_ := Aside0.mk (Kd.R_below (by (with_reducible repeat (first | apply Kd.R_alloc | apply Kd.R_drewN | apply Kd.R_drew)); exact HO204.out) hb); have n5_ := Aside0.mk (Kd.R_below (by (with_reducible repeat (first | apply Kd.R_alloc | apply Kd.R_drewN | apply Kd.R_drew)); exact HO207.out) hb); have n6_ := Aside0.mk (Kd.R_below (by (with_reducible repeat (first | apply Kd.R_alloc | apply Kd.R_drewN | apply Kd.R_drew)); exact HO212.out) hb); have n7_ := Aside0.mk (Kd.R_below (by (with_reducible repeat (first | apply Kd.R_alloc | apply Kd.R_drewN | apply Kd.R_drew)); exact HO215.out) hb); have n8_ := Aside0.mk (Kd.R_below (by (with_reducible repeat (first | apply Kd.R_alloc | apply Kd.R_drewN | apply Kd.R_drew)); exact HO219.out) hb); have n9_ := Aside0.mk (Kd.R_below (by (with_reducible repeat (first | apply Kd.R_alloc | apply Kd.R_drewN | apply Kd.R_drew)); exact HO223.out) hb); have n10_ := Aside0.mk (Kd.R_below (by (with_reducible repeat (first | apply Kd.R_alloc | apply Kd.R_drewN | apply Kd.R_drew)); exact HO228.out) hb); have n11_ := Aside0.mk (blk_below (g := gb187) (o := .cells #[.slice A1_0 l1_0.length c1_0, .int .i64 a1_1] 29 (0, 0)) (by (with_reducible repeat (first | refine blk_drewN ?_ _ | refine blk_drew ?_ | refine blk_alloc ?_ _)); exact BK187.out) hb); have n12_ := Aside0.mk (blk_below (g := gb209) (o := .cells #[.slice Ao51 t205.length co51, .int .i64 t208] 24 (0, 0)) (by (with_reducible repeat (first | refine blk_drewN ?_ _ | refine blk_drew ?_ | refine blk_alloc ?_ _)); exact BK209.out) hb); have n13_ := Aside0.mk (below_step (by repeat (first | (with_reducible first | exact HB.out | apply below_alloc | apply pw_below_drewN | apply below_drew1 | refine below_set ?_ GE187.out | refine below_set ?_ GE209.out) | exact HB.out)) hb); clear HO191; clear HO194; clear HO198; clear HO201; clear HO204; clear HO207; clear HO212; clear HO215; clear HO219; clear HO223; clear HO228; clear BK187; clear BK209; clear HB; have HO191 := n0_; have HO194 := n1_; have HO198 := n2_; have HO201 := n3_; have HO204 := n4_; have HO207 := n5_; have HO212 := n6_; have HO215 := n7_; have HO219 := n8_; have HO223 := n9_; have HO228 := n10_; have BK187 := n11_; have BK209 := n12_; have HB := n13_; clear n0_ n1_ n2_ n3_ n4_ n5_ n6_ n7_ n8_ n9_ n10_ n11_ n12_ n13_; (try clear hb); (try clear hb2); (try clear hk); (try clear hi)))
                    go_meet
                    case rel => exact ⟨_, (!t236), (by first | rfl | (simp; done) | (simp [*]; done)), H', ⟨by first | omega | exact Nat.le_refl _⟩, ⟨by (with_reducible repeat (first | apply Kd.R_alloc | apply Kd.R_drewN | apply Kd.R_drew)); exact HO201.out⟩, ⟨by (with_reducible repeat (first | apply Kd.R_alloc | apply Kd.R_drewN | apply Kd.R_drew)); exact HO215.out⟩, ⟨by (with_reducible repeat (first | apply Kd.R_alloc | apply Kd.R_drewN | apply Kd.R_drew)); exact Kd.R_mono HO207.out (fun _ hk => trivial)⟩, ⟨by (with_reducible repeat (first | refine blk_drewN ?_ _ | refine blk_drew ?_ | refine blk_alloc ?_ _)); exact BK187.out⟩, ⟨by (with_reducible repeat (first | refine blk_drewN ?_ _ | refine blk_drew ?_ | refine blk_alloc ?_ _)); exact BK209.out⟩, ⟨by repeat (first | (with_reducible first | exact HB.out | apply below_alloc | apply pw_below_drewN | apply below_drew1 | refine below_set ?_ GE187.out | refine below_set ?_ GE209.out) | exact HB.out)⟩⟩
                case rest =>
                  clear HC35
                  try clear c1
                  try clear c2
                  try clear p2
                  try clear c3
                  try clear c4
                  try clear c4b0
                  try clear c4b1
                  try clear c5
                  try clear c6
                  try clear c6b0
                  try clear c6b1
                  try clear c7
                  try clear c9
                  try clear c9b0
                  try clear c13
                  try clear c17
                  try clear c18
                  try clear c20
                  try clear c22
                  try clear c25
                  try clear c26
                  try clear c27
                  try clear c28
                  try clear c31
                  try clear c36
                  try clear c47
                  try clear c48
                  try clear c49
                  try clear c52
                  try clear c74
                  try clear c74b0
                  try clear hcz11_0
                  try clear hcz11_1
                  try clear hcz37_0
                  try clear hcz37_1
                  try clear hcz48_0
                  try clear hcz48_1
                  try clear hcz53_0
                  try clear hcz53_1
                  try clear hcz55_0
                  try clear hcz55_1
                  try clear hcz71_0
                  try clear hcz71_1
                  try clear hfz11_0
                  try clear hfz11_1
                  try clear hfz37_0
                  try clear hfz37_1
                  try clear hfz48_0
                  try clear hfz48_1
                  try clear hfz53_0
                  try clear hfz53_1
                  try clear hfz55_0
                  try clear hfz55_1
                  try clear hfz71_0
                  try clear hfz71_1
                  obtain ⟨kq, x80_34, rfl, HA, HJ34, HO_8, HO_12, HO_210000, BK187, BK209, HB⟩ := hcut
                  have hl210000_34 := (Kd.R_reads' HO_210000.out).1
                  rw [hl210000_34] at HO_210000
                  (try simp only [hl210000_34])
                  (try simp only [hl210000_34] at BK187)
                  (try simp only [hl210000_34] at BK209)
                  (try simp only [hl210000_34] at HO_8)
                  (try simp only [hl210000_34] at HO_12)
                  cases kq with
                  | zero => exact absurd HA.out (by simp [laws_FnExactSignBy.j0])
                  | succ kj34 =>
                    have H := HA.out
                    clear HA
                    simp only [laws_FnExactSignBy.j0] at H
                    by_cases c77 : x80_34 = true
                    · subst c77
                      have H1 : (some false) = some r := by rw [if_pos rfl] at H; exact H
                      clear H
                      have H := H1
                      clear H1
                      exact absurd (Option.some.inj H) (by rw [hrt]; simp)
                    · replace c77 := Bool.eq_false_iff.mpr c77
                      subst c77
                      have H1 : ((laws_markSigS.f kj34 t213 1).bind fun bt237 => ((laws_heldSigS.f kj34 bt237.2 1).bind fun t239 => (if t239 < 0 then (some false) else (if t239 = bt237.1 then ((laws_toIntS.f kj34 l0).bind fun t240 => ((laws_toKeys.f kj34 l1_0 a1_1).bind fun bt243 => ((laws_toIntS.f kj34 l2).bind fun t247 => ((impl_SignBy.f kj34 t240 bt243.1 bt243.2 t247).bind fun t250 => ((laws_eqSigS.f kj34 t250 t199).bind fun t253 => (if t253 = true then ((laws_heldSigS.f kj34 bt237.2 1).bind fun t254 => (if t254 < 0 then (some false) else (if t254 = bt237.1 then (some true) else (some false)))) else (some false))))))) else (some false))))) = some r := by rw [if_neg (show ¬ (false = true) by decide)] at H; exact H
                      clear H
                      have H := H1
                      clear H1
                      replace H := Option.bind_eq_some_iff.mp H
                      obtain ⟨⟨t237, t238⟩, A780, H⟩ := H
                      replace H : ((laws_heldSigS.f kj34 t238 1).bind fun t239 => (if t239 < 0 then (some false) else (if t239 = t237 then ((laws_toIntS.f kj34 l0).bind fun t240 => ((laws_toKeys.f kj34 l1_0 a1_1).bind fun bt243 => ((laws_toIntS.f kj34 l2).bind fun t247 => ((impl_SignBy.f kj34 t240 bt243.1 bt243.2 t247).bind fun t250 => ((laws_eqSigS.f kj34 t250 t199).bind fun t253 => (if t253 = true then ((laws_heldSigS.f kj34 t238 1).bind fun t254 => (if t254 < 0 then (some false) else (if t254 = t237 then (some true) else (some false)))) else (some false))))))) else (some false)))) = some r := H
                      have A78 := Aside0.mk A780
                      clear A780
                      replace H := Option.bind_eq_some_iff.mp H
                      obtain ⟨t239, A790, H⟩ := H
                      replace H : (if t239 < 0 then (some false) else (if t239 = t237 then ((laws_toIntS.f kj34 l0).bind fun t240 => ((laws_toKeys.f kj34 l1_0 a1_1).bind fun bt243 => ((laws_toIntS.f kj34 l2).bind fun t247 => ((impl_SignBy.f kj34 t240 bt243.1 bt243.2 t247).bind fun t250 => ((laws_eqSigS.f kj34 t250 t199).bind fun t253 => (if t253 = true then ((laws_heldSigS.f kj34 t238 1).bind fun t254 => (if t254 < 0 then (some false) else (if t254 = t237 then (some true) else (some false)))) else (some false))))))) else (some false))) = some r := H
                      have A79 := Aside0.mk A790
                      clear A790
                      by_cases c80 : t239 < 0
                      · rw [if_pos c80] at H
                        have c80b0 : decide (t239 < 0) = true := decide_eq_true c80
                        clear c80
                        exact absurd (Option.some.inj H) (by rw [hrt]; simp)
                      · rw [if_neg c80] at H
                        have c80b0 : decide (t239 < 0) = false := decide_eq_false c80
                        clear c80
                        by_cases c82 : t239 = t237
                        · rw [if_pos c82] at H
                          have c82b0 : (t239 == t237) = true := beq_iff_eq.mpr c82
                          have c82b1 : (t239 != t237) = false := bne_eq_false_iff_eq.mpr c82
                          clear c82
                          replace H := Option.bind_eq_some_iff.mp H
                          obtain ⟨t240, A830, H⟩ := H
                          replace H : ((laws_toKeys.f kj34 l1_0 a1_1).bind fun bt243 => ((laws_toIntS.f kj34 l2).bind fun t247 => ((impl_SignBy.f kj34 t240 bt243.1 bt243.2 t247).bind fun t250 => ((laws_eqSigS.f kj34 t250 t199).bind fun t253 => (if t253 = true then ((laws_heldSigS.f kj34 t238 1).bind fun t254 => (if t254 < 0 then (some false) else (if t254 = t237 then (some true) else (some false)))) else (some false)))))) = some r := H
                          have A83 := Aside0.mk A830
                          clear A830
                          replace H := Option.bind_eq_some_iff.mp H
                          obtain ⟨⟨t243, t246⟩, A840, H⟩ := H
                          replace H : ((laws_toIntS.f kj34 l2).bind fun t247 => ((impl_SignBy.f kj34 t240 t243 t246 t247).bind fun t250 => ((laws_eqSigS.f kj34 t250 t199).bind fun t253 => (if t253 = true then ((laws_heldSigS.f kj34 t238 1).bind fun t254 => (if t254 < 0 then (some false) else (if t254 = t237 then (some true) else (some false)))) else (some false))))) = some r := H
                          have A84 := Aside0.mk A840
                          clear A840
                          replace H := Option.bind_eq_some_iff.mp H
                          obtain ⟨t247, A850, H⟩ := H
                          replace H : ((impl_SignBy.f kj34 t240 t243 t246 t247).bind fun t250 => ((laws_eqSigS.f kj34 t250 t199).bind fun t253 => (if t253 = true then ((laws_heldSigS.f kj34 t238 1).bind fun t254 => (if t254 < 0 then (some false) else (if t254 = t237 then (some true) else (some false)))) else (some false)))) = some r := H
                          have A85 := Aside0.mk A850
                          clear A850
                          replace H := Option.bind_eq_some_iff.mp H
                          obtain ⟨t250, A860, H⟩ := H
                          replace H : ((laws_eqSigS.f kj34 t250 t199).bind fun t253 => (if t253 = true then ((laws_heldSigS.f kj34 t238 1).bind fun t254 => (if t254 < 0 then (some false) else (if t254 = t237 then (some true) else (some false)))) else (some false))) = some r := H
                          have A86 := Aside0.mk A860
                          clear A860
                          replace H := Option.bind_eq_some_iff.mp H
                          obtain ⟨t253, A870, H⟩ := H
                          replace H : (if t253 = true then ((laws_heldSigS.f kj34 t238 1).bind fun t254 => (if t254 < 0 then (some false) else (if t254 = t237 then (some true) else (some false)))) else (some false)) = some r := H
                          have A87 := Aside0.mk A870
                          clear A870
                          by_cases c88 : t253 = true
                          · subst c88
                            have H1 : ((laws_heldSigS.f kj34 t238 1).bind fun t254 => (if t254 < 0 then (some false) else (if t254 = t237 then (some true) else (some false)))) = some r := by rw [if_pos rfl] at H; exact H
                            clear H
                            have H := H1
                            clear H1
                            replace H := Option.bind_eq_some_iff.mp H
                            obtain ⟨t254, A890, H⟩ := H
                            replace H : (if t254 < 0 then (some false) else (if t254 = t237 then (some true) else (some false))) = some r := H
                            have A89 := Aside0.mk A890
                            clear A890
                            by_cases c90 : t254 < 0
                            · rw [if_pos c90] at H
                              have c90b0 : decide (t254 < 0) = true := decide_eq_true c90
                              clear c90
                              exact absurd (Option.some.inj H) (by rw [hrt]; simp)
                            · rw [if_neg c90] at H
                              have c90b0 : decide (t254 < 0) = false := decide_eq_false c90
                              clear c90
                              by_cases c102 : t254 = t237
                              · rw [if_pos c102] at H
                                have c102b0 : (t254 == t237) = true := beq_iff_eq.mpr c102
                                have c102b1 : (t254 != t237) = false := bne_eq_false_iff_eq.mpr c102
                                clear c102
                                obtain rfl := Option.some.inj H
                                try go_wp2_with (first | ((with_reducible refine gate_callee (f := 50) rfl ?_); refine goesL_ (some 83) rfl rfl Try.func50 (by kernel_rfl) rfl #[.slice Ao59 t213.length co59, .int .i64 1] rfl (by (try simp only [List.map_toArray, List.map_cons, List.map_nil]); first | done | rfl | (simp only [List.length_drop, List.length_take]; rfl)) ?_; (with_reducible refine (laws_markSigS.calls kj34 (fun k_ => some k_ = (.slice Ao59 t213.length co59 : Value).ownBlock) (.slice Ao59 t213.length co59) t213 1 t237 t238 w _ ?side1 ?side2 A78.out).mono ?_); (case side1 => repeat (first | (with_reducible first | exact HB.out | apply below_alloc | apply pw_below_drewN | apply below_drew1 | refine below_set ?_ GE187.out | refine below_set ?_ GE209.out) | exact HB.out)); (case side2 => exact Kd.R_tight rfl HO_12.out); rintro e w103 ⟨rfl, hy0, hb, hkp⟩; refine ⟨_, rfl, ?_⟩; have n0_ := Aside0.mk (Kd.R_mono (ok' := fun k_ => some k_ ≠ (.slice Ao59 t213.length co59 : Value).ownBlock) (Kd.R_keptB (HO_8.out) hkp (fun k_ hk_ hs_ => (hk_) hs_)) (fun k_ hk_ => (by first | exact hk_.1 | (have h_ := hk_; simp at h_; simp [h_])))); have n1_ := Aside0.mk (Kd.R_reok rfl hy0 (fun k_ e_ => HO_12.out.1 k_ e_)); have n2_ := Aside0.mk (Kd.R_mono (ok' := fun k_ => True) (Kd.R_keptB ((Kd.R_apart' HO_210000.out (Kd.R_typed HO_12.out) (by decide))) hkp (fun k_ hk_ hs_ => (by first | exact (hk_.2) hs_ | (have h_ := hk_; simp at h_; simp [h_] at hs_) | (have h_ := hk_; simp [hs_] at h_)))) (fun k_ hk_ => trivial)); have n3_ := Aside0.mk (blk_kept (by (with_reducible repeat (first | refine blk_drewN ?_ _ | refine blk_drew ?_ | refine blk_alloc ?_ _)); exact BK187.out) hkp (fun hs_ => (fun e_ => (Kd.R_ne HO_12.out BK187.out (by decide)) e_) hs_)); have n4_ := Aside0.mk (blk_kept (by (with_reducible repeat (first | refine blk_drewN ?_ _ | refine blk_drew ?_ | refine blk_alloc ?_ _)); exact BK209.out) hkp (fun hs_ => (fun e_ => (Kd.R_ne HO_12.out BK209.out (by decide)) e_) hs_)); have n5_ := Aside0.mk (hb); clear HO_8; clear HO_12; clear HO_210000; clear BK187; clear BK209; clear HB; have HO_8 := n0_; have HO_12 := n1_; have HO_210000 := n2_; have BK187 := n3_; have BK209 := n4_; have HB := n5_; clear n0_ n1_ n2_ n3_ n4_ n5_; (try clear hb); (try clear hkp); (try clear hy0)) | ((with_reducible refine gate_callee (f := 51) rfl ?_); refine goesL_ (some 86) rfl rfl Try.func51 (by kernel_rfl) rfl #[.slice Ao59 t238.length co59, .int .i64 1] rfl (by (try simp only [List.map_toArray, List.map_cons, List.map_nil]); first | done | (rw [show t238.length = t213.length from (Kd.R_reads' HO_12.out).1.symm] <;> rfl) | rfl | (simp only [List.length_drop, List.length_take]; rfl)) ?_; (with_reducible refine (laws_heldSigS.calls kj34 _ _ t238 1 t239 _ ?side1 ?side2 A79.out).mono ?_); (case side1 => repeat (first | exact (Kd.R_reads' HO_12.out).2.2 | (with_reducible refine Kd.C_alloc ?_ _) | (with_reducible refine Kd.C_drewN ?_ _) | (with_reducible refine Kd.C_drew ?_))); (case side2 => rw [show t238.length = t213.length from (Kd.R_reads' HO_12.out).1.symm]; exact (Kd.R_reads' HO_12.out).2.1); rintro e w' ⟨rfl, ⟨nd, rfl⟩⟩; refine ⟨_, rfl, ?_⟩))
                                (try (rw [drewN_self w103]; generalize hq_ : World.drewN w103 _ = w103; have n0_ : Aside0 (Kd.R k49 49 w103 w.heap.size (fun k_ => some k_ ≠ (.slice Ao60 t199.length co60 : Value).ownBlock) (.slice Ao59 t213.length co59) t238) := ⟨by rw [← hq_]; exact (by (with_reducible repeat (first | apply Kd.R_alloc | apply Kd.R_drewN | apply Kd.R_drew)); exact HO_12.out)⟩; have n1_ : Aside0 (Kd.R (Kd.int .i64) 3 w103 w.heap.size (fun _ => True) (.slice Ao51 t233.length co51) t233) := ⟨by rw [← hq_]; exact (by (with_reducible repeat (first | apply Kd.R_alloc | apply Kd.R_drewN | apply Kd.R_drew)); exact HO_210000.out)⟩; have n2_ : Aside0 (Kd.R k49 49 w103 w.heap.size (fun k_ => some k_ ≠ (.slice Ao59 t213.length co59 : Value).ownBlock) (.slice Ao60 t199.length co60) t199) := ⟨by rw [← hq_]; exact (by (with_reducible repeat (first | apply Kd.R_alloc | apply Kd.R_drewN | apply Kd.R_drew)); exact HO_8.out)⟩; have n3_ : Aside0 (w103.heap[gb187]? = some (.cells #[.slice A1_0 l1_0.length c1_0, .int .i64 a1_1] 29 (0, 0))) := ⟨by rw [← hq_]; exact (by (with_reducible repeat (first | refine blk_drewN ?_ _ | refine blk_drew ?_ | refine blk_alloc ?_ _)); exact BK187.out)⟩; have n4_ : Aside0 (w103.heap[gb209]? = some (.cells #[.slice Ao51 t233.length co51, .int .i64 t208] 24 (0, 0))) := ⟨by rw [← hq_]; exact (by (with_reducible repeat (first | refine blk_drewN ?_ _ | refine blk_drew ?_ | refine blk_alloc ?_ _)); exact BK209.out)⟩; have n5_ : Aside0 (Below w.heap.size w w103) := ⟨by rw [← hq_]; exact (by repeat (first | (with_reducible first | exact HB.out | apply below_alloc | apply pw_below_drewN | apply below_drew1 | refine below_set ?_ GE187.out | refine below_set ?_ GE209.out) | exact HB.out))⟩; clear HO_12 HO_210000 HO_8 BK187 BK209 HB hq_; have HO_12 := n0_; have HO_210000 := n1_; have HO_8 := n2_; have BK187 := n3_; have BK209 := n4_; have HB := n5_; clear n0_ n1_ n2_ n3_ n4_ n5_))
                                have n0_ := Aside0.mk (Kd.R_drew HO_8.out)
                                have n1_ := Aside0.mk (Kd.R_drew HO_12.out)
                                have n2_ := Aside0.mk (Kd.R_drew HO_210000.out)
                                have n3_ := Aside0.mk (blk_drew BK187.out)
                                have n4_ := Aside0.mk (blk_drew BK209.out)
                                have n5_ := Aside0.mk (below_drew1 HB.out)
                                clear HO_8
                                clear HO_12
                                clear HO_210000
                                clear BK187
                                clear BK209
                                clear HB
                                have HO_8 := n0_
                                have HO_12 := n1_
                                have HO_210000 := n2_
                                have BK187 := n3_
                                have BK209 := n4_
                                have HB := n5_
                                clear n0_ n1_ n2_ n3_ n4_ n5_
                                refine start_ (n := 8) (S := fun w' => w'.cell? ⟨gb187, 0, none⟩ = some (.slice A1_0 l1_0.length c1_0) ∧ w'.cell? ⟨gb187, 1, none⟩ = some (.int .i64 a1_1)) (ds := []) #[false, false, false, false, false, false, false, false] (by kernel_rfl) rfl rfl ⟨(blk_cell BK187.out 0).trans rfl, (blk_cell BK187.out 1).trans rfl⟩ (fun hHeld => ?_); refine with_tabW laws_FnExactSignBy.tab36 laws_FnExactSignBy.bits36 (fun HT_ HW_ => ?_)
                                generalize w103.drew = w104 at HO_8 HO_12 HO_210000 BK187 BK209 HB hHeld ⊢
                                refine pure_ (i := 0) (N := some 92) (v := ?_) (a' := ?_) #[true, false, false, false, false, false, false, false] rfl rfl (any_of HT_.out (by kernel_rfl)) (fun _ _ _ h => h) (Or.inl ⟨by rfl, ?_⟩) ?_ ?_
                                rotate_left
                                · intro w'
                                  go_simp
                                  with_reducible rfl
                                rotate_left
                                · simp only [Act.put, List.setIfInBounds_toArray, List.set_cons_zero, List.set_cons_succ, i64_w, i32_w]
                                  rfl
                                refine pure_ (i := 4) (N := some 96) (v := ?_) (a' := ?_) #[true, false, false, false, true, false, false, false] rfl rfl (any_of HT_.out (by kernel_rfl)) (fun _ _ _ h => h) (Or.inl ⟨by rfl, ?_⟩) ?_ ?_
                                rotate_left
                                · intro w'
                                  go_simp
                                  with_reducible rfl
                                rotate_left
                                · simp only [Act.put, List.setIfInBounds_toArray, List.set_cons_zero, List.set_cons_succ, i64_w, i32_w]
                                  rfl
                                refine take_ (i := 2) (N := some 94) (v := ?_) (a' := ?_) #[true, false, true, false, true, false, false, false] rfl rfl (take_ofW HT_.out HW_.out (by kernel_rfl)) (fun _ _ _ h => h) (Or.inl ⟨by rfl, ?_⟩) hHeld ?_ ?_
                                rotate_left
                                · rintro w' ⟨s0, s1⟩
                                  go_simp
                                  with_reducible rfl
                                rotate_left
                                · simp only [Act.put, List.setIfInBounds_toArray, List.set_cons_zero, List.set_cons_succ, i64_w, i32_w]
                                  rfl
                                refine one_ (i := 1) (N := some 93) #[true, true, true, false, true, false, false, false] rfl rfl (one_of HT_.out (by kernel_rfl)) (by decide) (fun K hK => ?_)
                                refine goes_ Try.func36 (by kernel_rfl) rfl #[.slice A0 l0.length c0] (by rfl) rfl rfl (by (try simp only [List.map_toArray, List.map_cons, List.map_nil]); first | done | rfl | (simp only [List.length_drop, List.length_take]; rfl)) ?_
                                with_reducible refine (laws_toIntS.calls kj34 _ _ l0 t240 _ ?side1 ?side2 A83.out).mono ?_
                                (case side1 => repeat (first | exact (Kd.C_below HR0.out HB.out) | (with_reducible refine Kd.C_alloc ?_ _) | (with_reducible refine Kd.C_drewN ?_ _) | (with_reducible refine Kd.C_drew ?_)))
                                (case side2 => exact HC0.out)
                                rintro e w105 ⟨v241, rfl, ho0, hb⟩
                                refine ⟨_, rfl, ?_⟩
                                have n0_ := Aside0.mk (Kd.R_below (by (with_reducible repeat (first | apply Kd.R_alloc | apply Kd.R_drewN | apply Kd.R_drew)); exact HO_8.out) hb)
                                have n1_ := Aside0.mk (Kd.R_below (by (with_reducible repeat (first | apply Kd.R_alloc | apply Kd.R_drewN | apply Kd.R_drew)); exact HO_12.out) hb)
                                have n2_ := Aside0.mk (Kd.R_elder' (by (with_reducible repeat (first | apply Kd.R_alloc | apply Kd.R_drewN | apply Kd.R_drew)); exact HO_210000.out) (Kd.R_base ho0) hb)
                                have n3_ := Aside0.mk (Kd.R_lower (Kd.R_new' ho0 (Kd.R_lt (by (with_reducible repeat (first | apply Kd.R_alloc | apply Kd.R_drewN | apply Kd.R_drew)); exact HO_210000.out))) (below_size (by repeat (first | (with_reducible first | exact HB.out | apply below_alloc | apply pw_below_drewN | apply below_drew1 | refine below_set ?_ GE187.out | refine below_set ?_ GE209.out) | exact HB.out))))
                                have n4_ := Aside0.mk (blk_below (g := gb187) (o := .cells #[.slice A1_0 l1_0.length c1_0, .int .i64 a1_1] 29 (0, 0)) (by (with_reducible repeat (first | refine blk_drewN ?_ _ | refine blk_drew ?_ | refine blk_alloc ?_ _)); exact BK187.out) hb)
                                have n5_ := Aside0.mk (blk_below (g := gb209) (o := .cells #[.slice Ao51 t233.length co51, .int .i64 t208] 24 (0, 0)) (by (with_reducible repeat (first | refine blk_drewN ?_ _ | refine blk_drew ?_ | refine blk_alloc ?_ _)); exact BK209.out) hb)
                                have n6_ := Aside0.mk (below_step (by repeat (first | (with_reducible first | exact HB.out | apply below_alloc | apply pw_below_drewN | apply below_drew1 | refine below_set ?_ GE187.out | refine below_set ?_ GE209.out) | exact HB.out)) hb)
                                clear HO_8
                                clear HO_12
                                clear HO_210000
                                clear BK187
                                clear BK209
                                clear HB
                                have HO_8 := n0_
                                have HO_12 := n1_
                                have HO_210000 := n2_
                                have HO242 := n3_
                                have BK187 := n4_
                                have BK209 := n5_
                                have HB := n6_
                                clear n0_ n1_ n2_ n3_ n4_ n5_ n6_
                                (try clear hb)
                                (try clear hb2)
                                (try clear hk)
                                (try clear hi)
                                (try clear ho0)
                                refine hK.out _ _ ⟨(blk_cell BK187.out 0).trans rfl, (blk_cell BK187.out 1).trans rfl⟩ (fun hHeld => ?_)
                                clear hK K
                                refine norm_ (a' := ?_) ?_ ?_
                                rotate_left
                                · show Act.put _ (some 93) _ = _
                                  simp only [Act.put, List.setIfInBounds_toArray, List.set_cons_zero, List.set_cons_succ, i64_w, i32_w]
                                  rfl
                                refine one_ (i := 3) (N := some 95) #[true, true, true, true, true, false, false, false] rfl rfl (one_of HT_.out (by kernel_rfl)) (by decide) (fun K hK => ?_)
                                refine goes_ Try.func22 (by kernel_rfl) rfl #[.agg #[.slice A1_0 l1_0.length c1_0, .int .i64 a1_1]] (by rfl) rfl rfl (by (try simp only [List.map_toArray, List.map_cons, List.map_nil]); first | done | rfl | (simp only [List.length_drop, List.length_take]; rfl)) ?_
                                with_reducible refine (laws_toKeys.calls kj34 _ _ l1_0 a1_1 t243 t246 _ ?side1 ?side2 A84.out).mono ?_
                                (case side1 => repeat (first | exact (Kd.C_below HR1_0.out HB.out) | (with_reducible refine Kd.C_alloc ?_ _) | (with_reducible refine Kd.C_drewN ?_ _) | (with_reducible refine Kd.C_drew ?_)))
                                (case side2 => exact HC1_0.out)
                                rintro e w106 ⟨v244, rfl, ho0, hb⟩
                                refine ⟨_, rfl, ?_⟩
                                have n0_ := Aside0.mk (Kd.R_below (by (with_reducible repeat (first | apply Kd.R_alloc | apply Kd.R_drewN | apply Kd.R_drew)); exact HO_8.out) hb)
                                have n1_ := Aside0.mk (Kd.R_below (by (with_reducible repeat (first | apply Kd.R_alloc | apply Kd.R_drewN | apply Kd.R_drew)); exact HO_12.out) hb)
                                have n2_ := Aside0.mk (Kd.R_elder' (by (with_reducible repeat (first | apply Kd.R_alloc | apply Kd.R_drewN | apply Kd.R_drew)); exact HO_210000.out) (Kd.R_base ho0) hb)
                                have n3_ := Aside0.mk (Kd.R_elder' (by (with_reducible repeat (first | apply Kd.R_alloc | apply Kd.R_drewN | apply Kd.R_drew)); exact HO242.out) (Kd.R_base ho0) hb)
                                have n4_ := Aside0.mk (Kd.R_lower (Kd.R_new' (Kd.R_new' ho0 (Kd.R_lt (by (with_reducible repeat (first | apply Kd.R_alloc | apply Kd.R_drewN | apply Kd.R_drew)); exact HO_210000.out))) (Kd.R_lt (by (with_reducible repeat (first | apply Kd.R_alloc | apply Kd.R_drewN | apply Kd.R_drew)); exact HO242.out))) (below_size (by repeat (first | (with_reducible first | exact HB.out | apply below_alloc | apply pw_below_drewN | apply below_drew1 | refine below_set ?_ GE187.out | refine below_set ?_ GE209.out) | exact HB.out))))
                                have n5_ := Aside0.mk (blk_below (g := gb187) (o := .cells #[.slice A1_0 l1_0.length c1_0, .int .i64 a1_1] 29 (0, 0)) (by (with_reducible repeat (first | refine blk_drewN ?_ _ | refine blk_drew ?_ | refine blk_alloc ?_ _)); exact BK187.out) hb)
                                have n6_ := Aside0.mk (blk_below (g := gb209) (o := .cells #[.slice Ao51 t233.length co51, .int .i64 t208] 24 (0, 0)) (by (with_reducible repeat (first | refine blk_drewN ?_ _ | refine blk_drew ?_ | refine blk_alloc ?_ _)); exact BK209.out) hb)
                                have n7_ := Aside0.mk (below_step (by repeat (first | (with_reducible first | exact HB.out | apply below_alloc | apply pw_below_drewN | apply below_drew1 | refine below_set ?_ GE187.out | refine below_set ?_ GE209.out) | exact HB.out)) hb)
                                clear HO_8
                                clear HO_12
                                clear HO_210000
                                clear HO242
                                clear BK187
                                clear BK209
                                clear HB
                                have HO_8 := n0_
                                have HO_12 := n1_
                                have HO_210000 := n2_
                                have HO242 := n3_
                                have HO245 := n4_
                                have BK187 := n5_
                                have BK209 := n6_
                                have HB := n7_
                                clear n0_ n1_ n2_ n3_ n4_ n5_ n6_ n7_
                                (try clear hb)
                                (try clear hb2)
                                (try clear hk)
                                (try clear hi)
                                (try clear ho0)
                                refine hK.out _ _ ⟨(blk_cell BK187.out 0).trans rfl, (blk_cell BK187.out 1).trans rfl⟩ (fun hHeld => ?_)
                                clear hK K
                                refine norm_ (a' := ?_) ?_ ?_
                                rotate_left
                                · show Act.put _ (some 95) _ = _
                                  simp only [Act.put, List.setIfInBounds_toArray, List.set_cons_zero, List.set_cons_succ, i64_w, i32_w]
                                  rfl
                                refine one_ (i := 5) (N := some 97) #[true, true, true, true, true, true, false, false] rfl rfl (one_of HT_.out (by kernel_rfl)) (by decide) (fun K hK => ?_)
                                refine goes_ Try.func36 (by kernel_rfl) rfl #[.slice A2 l2.length c2] (by rfl) rfl rfl (by (try simp only [List.map_toArray, List.map_cons, List.map_nil]); first | done | rfl | (simp only [List.length_drop, List.length_take]; rfl)) ?_
                                with_reducible refine (laws_toIntS.calls kj34 _ _ l2 t247 _ ?side1 ?side2 A85.out).mono ?_
                                (case side1 => repeat (first | exact (Kd.C_below HR2.out HB.out) | (with_reducible refine Kd.C_alloc ?_ _) | (with_reducible refine Kd.C_drewN ?_ _) | (with_reducible refine Kd.C_drew ?_)))
                                (case side2 => exact HC2.out)
                                rintro e w107 ⟨v248, rfl, ho0, hb⟩
                                refine ⟨_, rfl, ?_⟩
                                have n0_ := Aside0.mk (Kd.R_below (by (with_reducible repeat (first | apply Kd.R_alloc | apply Kd.R_drewN | apply Kd.R_drew)); exact HO_8.out) hb)
                                have n1_ := Aside0.mk (Kd.R_below (by (with_reducible repeat (first | apply Kd.R_alloc | apply Kd.R_drewN | apply Kd.R_drew)); exact HO_12.out) hb)
                                have n2_ := Aside0.mk (Kd.R_elder' (by (with_reducible repeat (first | apply Kd.R_alloc | apply Kd.R_drewN | apply Kd.R_drew)); exact HO_210000.out) (Kd.R_base ho0) hb)
                                have n3_ := Aside0.mk (Kd.R_elder' (by (with_reducible repeat (first | apply Kd.R_alloc | apply Kd.R_drewN | apply Kd.R_drew)); exact HO242.out) (Kd.R_base ho0) hb)
                                have n4_ := Aside0.mk (Kd.R_elder' (by (with_reducible repeat (first | apply Kd.R_alloc | apply Kd.R_drewN | apply Kd.R_drew)); exact HO245.out) (Kd.R_base ho0) hb)
                                have n5_ := Aside0.mk (Kd.R_lower (Kd.R_new' (Kd.R_new' (Kd.R_new' ho0 (Kd.R_lt (by (with_reducible repeat (first | apply Kd.R_alloc | apply Kd.R_drewN | apply Kd.R_drew)); exact HO_210000.out))) (Kd.R_lt (by (with_reducible repeat (first | apply Kd.R_alloc | apply Kd.R_drewN | apply Kd.R_drew)); exact HO242.out))) (Kd.R_lt (by (with_reducible repeat (first | apply Kd.R_alloc | apply Kd.R_drewN | apply Kd.R_drew)); exact HO245.out))) (below_size (by repeat (first | (with_reducible first | exact HB.out | apply below_alloc | apply pw_below_drewN | apply below_drew1 | refine below_set ?_ GE187.out | refine below_set ?_ GE209.out) | exact HB.out))))
                                have n6_ := Aside0.mk (blk_below (g := gb187) (o := .cells #[.slice A1_0 l1_0.length c1_0, .int .i64 a1_1] 29 (0, 0)) (by (with_reducible repeat (first | refine blk_drewN ?_ _ | refine blk_drew ?_ | refine blk_alloc ?_ _)); exact BK187.out) hb)
                                have n7_ := Aside0.mk (blk_below (g := gb209) (o := .cells #[.slice Ao51 t233.length co51, .int .i64 t208] 24 (0, 0)) (by (with_reducible repeat (first | refine blk_drewN ?_ _ | refine blk_drew ?_ | refine blk_alloc ?_ _)); exact BK209.out) hb)
                                have n8_ := Aside0.mk (below_step (by repeat (first | (with_reducible first | exact HB.out | apply below_alloc | apply pw_below_drewN | apply below_drew1 | refine below_set ?_ GE187.out | refine below_set ?_ GE209.out) | exact HB.out)) hb)
                                clear HO_8
                                clear HO_12
                                clear HO_210000
                                clear HO242
                                clear HO245
                                clear BK187
                                clear BK209
                                clear HB
                                have HO_8 := n0_
                                have HO_12 := n1_
                                have HO_210000 := n2_
                                have HO242 := n3_
                                have HO245 := n4_
                                have HO249 := n5_
                                have BK187 := n6_
                                have BK209 := n7_
                                have HB := n8_
                                clear n0_ n1_ n2_ n3_ n4_ n5_ n6_ n7_ n8_
                                (try clear hb)
                                (try clear hb2)
                                (try clear hk)
                                (try clear hi)
                                (try clear ho0)
                                obtain ⟨Ao108, co108, eo108⟩ := Kd.R_slice HO242.out
                                (first | subst eo108 | (injection eo108 with f1_ f2_ f3_; have f4_ := f1_.symm; have f5_ := f3_.symm; clear f1_ f2_ f3_; subst f4_; subst f5_))
                                obtain ⟨Ao109, co109, eo109⟩ := Kd.R_slice HO245.out
                                (first | subst eo109 | (injection eo109 with f1_ f2_ f3_; have f4_ := f1_.symm; have f5_ := f3_.symm; clear f1_ f2_ f3_; subst f4_; subst f5_))
                                obtain ⟨Ao110, co110, eo110⟩ := Kd.R_slice HO249.out
                                (first | subst eo110 | (injection eo110 with f1_ f2_ f3_; have f4_ := f1_.symm; have f5_ := f3_.symm; clear f1_ f2_ f3_; subst f4_; subst f5_))
                                refine hK.out _ _ ⟨(blk_cell BK187.out 0).trans rfl, (blk_cell BK187.out 1).trans rfl⟩ (fun hHeld => ?_)
                                clear hK K
                                refine norm_ (a' := ?_) ?_ ?_
                                rotate_left
                                · show Act.put _ (some 97) _ = _
                                  simp only [Act.put, List.setIfInBounds_toArray, List.set_cons_zero, List.set_cons_succ, i64_w, i32_w]
                                  rfl
                                refine one_ (i := 6) (N := some 98) #[true, true, true, true, true, true, true, false] rfl rfl (one_of HT_.out (by kernel_rfl)) (by decide) (fun K hK => ?_)
                                refine goes_ Try.func49 (by kernel_rfl) rfl #[.slice Ao108 t240.length co108, .agg #[.slice Ao109 t243.length co109, .int .i64 t246], .slice Ao110 t247.length co110] (by rfl) rfl rfl (by (try simp only [List.map_toArray, List.map_cons, List.map_nil]); first | done | rfl | (simp only [List.length_drop, List.length_take]; rfl)) ?_
                                with_reducible refine (impl_SignBy.calls kj34 _ _ t240 _ _ t243 t246 _ _ t247 t250 _ ?side1 ?side2 ?side3 ?side4 ?side5 ?side6 A86.out).mono ?_
                                (case side1 => repeat (first | exact (Kd.R_reads' HO242.out).2.2 | (with_reducible refine Kd.C_alloc ?_ _) | (with_reducible refine Kd.C_drewN ?_ _) | (with_reducible refine Kd.C_drew ?_)))
                                (case side2 => exact (Kd.R_reads' HO242.out).2.1)
                                (case side3 => repeat (first | exact (Kd.R_reads' HO245.out).2.2 | (with_reducible refine Kd.C_alloc ?_ _) | (with_reducible refine Kd.C_drewN ?_ _) | (with_reducible refine Kd.C_drew ?_)))
                                (case side4 => exact (Kd.R_reads' HO245.out).2.1)
                                (case side5 => repeat (first | exact (Kd.R_reads' HO249.out).2.2 | (with_reducible refine Kd.C_alloc ?_ _) | (with_reducible refine Kd.C_drewN ?_ _) | (with_reducible refine Kd.C_drew ?_)))
                                (case side6 => exact (Kd.R_reads' HO249.out).2.1)
                                rintro e w111 ⟨v251, rfl, ho0, hb⟩
                                refine ⟨_, rfl, ?_⟩
                                have n0_ := Aside0.mk (Kd.R_elder' (by (with_reducible repeat (first | apply Kd.R_alloc | apply Kd.R_drewN | apply Kd.R_drew)); exact HO_8.out) (Kd.R_base ho0) hb)
                                have n1_ := Aside0.mk (Kd.R_elder' (by (with_reducible repeat (first | apply Kd.R_alloc | apply Kd.R_drewN | apply Kd.R_drew)); exact HO_12.out) (Kd.R_base ho0) hb)
                                have n2_ := Aside0.mk (Kd.R_below (by (with_reducible repeat (first | apply Kd.R_alloc | apply Kd.R_drewN | apply Kd.R_drew)); exact HO_210000.out) hb)
                                have n3_ := Aside0.mk (Kd.R_below (by (with_reducible repeat (first | apply Kd.R_alloc | apply Kd.R_drewN | apply Kd.R_drew)); exact HO242.out) hb)
                                have n4_ := Aside0.mk (Kd.R_below (by (with_reducible repeat (first | apply Kd.R_alloc | apply Kd.R_drewN | apply Kd.R_drew)); exact HO245.out) hb)
                                have n5_ := Aside0.mk (Kd.R_below (by (with_reducible repeat (first | apply Kd.R_alloc | apply Kd.R_drewN | apply Kd.R_drew)); exact HO249.out) hb)
                                have n6_ := Aside0.mk (Kd.R_lower (Kd.R_new' (Kd.R_new' ho0 (Kd.R_lt (by (with_reducible repeat (first | apply Kd.R_alloc | apply Kd.R_drewN | apply Kd.R_drew)); exact HO_8.out))) (Kd.R_lt (by (with_reducible repeat (first | apply Kd.R_alloc | apply Kd.R_drewN | apply Kd.R_drew)); exact HO_12.out))) (below_size (by repeat (first | (with_reducible first | exact HB.out | apply below_alloc | apply pw_below_drewN | apply below_drew1 | refine below_set ?_ GE187.out | refine below_set ?_ GE209.out) | exact HB.out))))
                                have n7_ := Aside0.mk (blk_below (g := gb187) (o := .cells #[.slice A1_0 l1_0.length c1_0, .int .i64 a1_1] 29 (0, 0)) (by (with_reducible repeat (first | refine blk_drewN ?_ _ | refine blk_drew ?_ | refine blk_alloc ?_ _)); exact BK187.out) hb)
                                have n8_ := Aside0.mk (blk_below (g := gb209) (o := .cells #[.slice Ao51 t233.length co51, .int .i64 t208] 24 (0, 0)) (by (with_reducible repeat (first | refine blk_drewN ?_ _ | refine blk_drew ?_ | refine blk_alloc ?_ _)); exact BK209.out) hb)
                                have n9_ := Aside0.mk (below_step (by repeat (first | (with_reducible first | exact HB.out | apply below_alloc | apply pw_below_drewN | apply below_drew1 | refine below_set ?_ GE187.out | refine below_set ?_ GE209.out) | exact HB.out)) hb)
                                clear HO_8
                                clear HO_12
                                clear HO_210000
                                clear HO242
                                clear HO245
                                clear HO249
                                clear BK187
                                clear BK209
                                clear HB
                                have HO_8 := n0_
                                have HO_12 := n1_
                                have HO_210000 := n2_
                                have HO242 := n3_
                                have HO245 := n4_
                                have HO249 := n5_
                                have HO252 := n6_
                                have BK187 := n7_
                                have BK209 := n8_
                                have HB := n9_
                                clear n0_ n1_ n2_ n3_ n4_ n5_ n6_ n7_ n8_ n9_
                                (try clear hb)
                                (try clear hb2)
                                (try clear hk)
                                (try clear hi)
                                (try clear ho0)
                                refine hK.out _ _ ⟨(blk_cell BK187.out 0).trans rfl, (blk_cell BK187.out 1).trans rfl⟩ (fun hHeld => ?_)
                                clear hK K
                                refine norm_ (a' := ?_) ?_ ?_
                                rotate_left
                                · show Act.put _ (some 98) _ = _
                                  simp only [Act.put, List.setIfInBounds_toArray, List.set_cons_zero, List.set_cons_succ, i64_w, i32_w]
                                  rfl
                                refine pure_ (i := 7) (N := some 16) (v := ?_) (a' := ?_) #[true, true, true, true, true, true, true, true] rfl rfl (any_of HT_.out (by kernel_rfl)) (fun _ _ _ h => h) (Or.inl ⟨by rfl, ?_⟩) ?_ ?_
                                rotate_left
                                · intro w'
                                  go_simp
                                  with_reducible rfl
                                rotate_left
                                · simp only [Act.put, List.setIfInBounds_toArray, List.set_cons_zero, List.set_cons_succ, i64_w, i32_w]
                                  rfl
                                refine done_ (done_of HT_.out (by kernel_rfl)) ?_
                                obtain ⟨Ao112, co112, eo112⟩ := Kd.R_slice HO252.out
                                subst eo112
                                try go_wp2_with (first | ((with_reducible refine gate_callee (f := 47) rfl ?_); refine goesL_ (some 101) rfl rfl Try.func47 (by kernel_rfl) rfl #[.slice Ao112 t250.length co112, .slice Ao60 t199.length co60] rfl (by (try simp only [List.map_toArray, List.map_cons, List.map_nil]); first | done | rfl | (simp only [List.length_drop, List.length_take]; rfl)) ?_; (with_reducible refine (laws_eqSigS.calls kj34 _ _ t250 _ _ t199 true _ ?side1 ?side2 ?side3 ?side4 A87.out).mono ?_); (case side1 => repeat (first | exact (Kd.R_reads' HO252.out).2.2 | (with_reducible refine Kd.C_alloc ?_ _) | (with_reducible refine Kd.C_drewN ?_ _) | (with_reducible refine Kd.C_drew ?_))); (case side2 => exact (Kd.R_reads' HO252.out).2.1); (case side3 => repeat (first | exact (Kd.R_reads' HO_8.out).2.2 | (with_reducible refine Kd.C_alloc ?_ _) | (with_reducible refine Kd.C_drewN ?_ _) | (with_reducible refine Kd.C_drew ?_))); (case side4 => exact (Kd.R_reads' HO_8.out).2.1); rintro e w113 ⟨rfl, hb⟩; refine ⟨_, rfl, ?_⟩; have n0_ := Aside0.mk (Kd.R_below (by (with_reducible repeat (first | apply Kd.R_alloc | apply Kd.R_drewN | apply Kd.R_drew)); exact HO_8.out) hb); have n1_ := Aside0.mk (Kd.R_below (by (with_reducible repeat (first | apply Kd.R_alloc | apply Kd.R_drewN | apply Kd.R_drew)); exact HO_12.out) hb); have n2_ := Aside0.mk (Kd.R_below (by (with_reducible repeat (first | apply Kd.R_alloc | apply Kd.R_drewN | apply Kd.R_drew)); exact HO_210000.out) hb); have n3_ := Aside0.mk (Kd.R_below (by (with_reducible repeat (first | apply Kd.R_alloc | apply Kd.R_drewN | apply Kd.R_drew)); exact HO242.out) hb); have n4_ := Aside0.mk (Kd.R_below (by (with_reducible repeat (first | apply Kd.R_alloc | apply Kd.R_drewN | apply Kd.R_drew)); exact HO245.out) hb); have n5_ := Aside0.mk (Kd.R_below (by (with_reducible repeat (first | apply Kd.R_alloc | apply Kd.R_drewN | apply Kd.R_drew)); exact HO249.out) hb); have n6_ := Aside0.mk (Kd.R_below (by (with_reducible repeat (first | apply Kd.R_alloc | apply Kd.R_drewN | apply Kd.R_drew)); exact HO252.out) hb); have n7_ := Aside0.mk (blk_below (g := gb187) (o := .cells #[.slice A1_0 l1_0.length c1_0, .int .i64 a1_1] 29 (0, 0)) (by (with_reducible repeat (first | refine blk_drewN ?_ _ | refine blk_drew ?_ | refine blk_alloc ?_ _)); exact BK187.out) hb); have n8_ := Aside0.mk (blk_below (g := gb209) (o := .cells #[.slice Ao51 t233.length co51, .int .i64 t208] 24 (0, 0)) (by (with_reducible repeat (first | refine blk_drewN ?_ _ | refine blk_drew ?_ | refine blk_alloc ?_ _)); exact BK209.out) hb); have n9_ := Aside0.mk (below_step (by repeat (first | (with_reducible first | exact HB.out | apply below_alloc | apply pw_below_drewN | apply below_drew1 | refine below_set ?_ GE187.out | refine below_set ?_ GE209.out) | exact HB.out)) hb); clear HO_8; clear HO_12; clear HO_210000; clear HO242; clear HO245; clear HO249; clear HO252; clear BK187; clear BK209; clear HB; have HO_8 := n0_; have HO_12 := n1_; have HO_210000 := n2_; have HO242 := n3_; have HO245 := n4_; have HO249 := n5_; have HO252 := n6_; have BK187 := n7_; have BK209 := n8_; have HB := n9_; clear n0_ n1_ n2_ n3_ n4_ n5_ n6_ n7_ n8_ n9_; (try clear hb); (try clear hb2); (try clear hk); (try clear hi)) | ((with_reducible refine gate_callee (f := 51) rfl ?_); refine goesL_ (some 105) rfl rfl Try.func51 (by kernel_rfl) rfl #[.slice Ao59 t238.length co59, .int .i64 1] rfl (by (try simp only [List.map_toArray, List.map_cons, List.map_nil]); first | done | (rw [show t238.length = t213.length from (Kd.R_reads' HO_12.out).1.symm] <;> rfl) | rfl | (simp only [List.length_drop, List.length_take]; rfl)) ?_; (with_reducible refine (laws_heldSigS.calls kj34 _ _ t238 1 t254 _ ?side1 ?side2 A89.out).mono ?_); (case side1 => repeat (first | exact (Kd.R_reads' HO_12.out).2.2 | (with_reducible refine Kd.C_alloc ?_ _) | (with_reducible refine Kd.C_drewN ?_ _) | (with_reducible refine Kd.C_drew ?_))); (case side2 => rw [show t238.length = t213.length from (Kd.R_reads' HO_12.out).1.symm]; exact (Kd.R_reads' HO_12.out).2.1); rintro e w' ⟨rfl, ⟨nd, rfl⟩⟩; refine ⟨_, rfl, ?_⟩))
                                go_ret
                                exact ⟨by first | rfl | (simp [errW_none, errW_some] <;> rfl) | (simp [*, errW_none, errW_some] <;> rfl), by repeat (first | (with_reducible first | exact HB.out | apply below_alloc | apply pw_below_drewN | apply below_drew1 | refine below_set ?_ GE187.out | refine below_set ?_ GE209.out) | exact HB.out)⟩
                              · rw [if_neg c102] at H
                                have c102b0 : (t254 == t237) = false := beq_eq_false_iff_ne.mpr c102
                                have c102b1 : (t254 != t237) = true := bne_iff_ne.mpr c102
                                exact absurd (Option.some.inj H) (by rw [hrt]; simp)
                          · replace c88 := Bool.eq_false_iff.mpr c88
                            subst c88
                            have H1 : (some false) = some r := by rw [if_neg (show ¬ (false = true) by decide)] at H; exact H
                            clear H
                            have H := H1
                            clear H1
                            exact absurd (Option.some.inj H) (by rw [hrt]; simp)
                        · rw [if_neg c82] at H
                          have c82b0 : (t239 == t237) = false := beq_eq_false_iff_ne.mpr c82
                          have c82b1 : (t239 != t237) = true := bne_iff_ne.mpr c82
                          exact absurd (Option.some.inj H) (by rw [hrt]; simp)
              · replace c31 := Bool.eq_false_iff.mpr c31
                subst c31
                have H1 : (some false) = some r := by rw [if_neg (show ¬ (false = true) by decide)] at H; exact H
                clear H
                have H := H1
                clear H1
                exact absurd (Option.some.inj H) (by rw [hrt]; simp)
            · replace c28 := Bool.eq_false_iff.mpr c28
              subst c28
              have H1 : (some false) = some r := by rw [if_neg (show ¬ (false = true) by decide)] at H; exact H
              clear H
              have H := H1
              clear H1
              exact absurd (Option.some.inj H) (by rw [hrt]; simp)
          · replace c25 := Bool.eq_false_iff.mpr c25
            subst c25
            have H1 : (some false) = some r := by rw [if_neg (show ¬ (false = true) by decide)] at H; exact H
            clear H
            have H := H1
            clear H1
            exact absurd (Option.some.inj H) (by rw [hrt]; simp)
        · replace c22 := Bool.eq_false_iff.mpr c22
          subst c22
          have H1 : (some false) = some r := by rw [if_neg (show ¬ (false = true) by decide)] at H; exact H
          clear H
          have H := H1
          clear H1
          exact absurd (Option.some.inj H) (by rw [hrt]; simp)
/-- The one pure statement of laws_FnExactSignBy. -/
def laws_FnExactSignBy.Pure : Prop := ∀ (l0 : List Int) (l1_0 : List Int) (a1_1 : Int) (l2 : List Int), l0.length ≤ maxLen → (∀ x ∈ l0, (Lit.int .i64 x).wf = true) → l1_0.length ≤ maxLen → (∀ x ∈ l1_0, (Lit.int .i64 x).wf = true) → (Lit.int .i64 a1_1).wf = true → l2.length ≤ maxLen → (∀ x ∈ l2, (Lit.int .i64 x).wf = true) → ∃ k, laws_FnExactSignBy.f k l0 l1_0 a1_1 l2 = some true

end Go.Proofs.Ytaebboanblfmjaa.PFnExactSignBy
