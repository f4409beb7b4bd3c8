/- The machine's side of a law: what its Go functions compute, as Lean functions, and the walks that show it; laid by this session's program (wip/tools) out of the translation. Conditions: those of each theorem. -/
import Derived.Test.YtnkgglihlmileaaGreatPFnLabelsx0
import Derived.Test.YtnkgglihlmileaaGreatPFnLabelsx1
import Derived.Test.YtnkgglihlmileaaGreatPFnLabelsx2
import Derived.Test.YtnkgglihlmileaaGreatPFnLabelsx3
import Derived.Test.YtnkgglihlmileaaGreatPFnLabelsx4
import Derived.Test.YtnkgglihlmileaaGreatPFnLabelsx5
namespace Go.Proofs.YtnkgglihlmileaaGreat.PFnLabels
open Go.RowKit Go.Proofs.YtnkgglihlmileaaGreatW.PrintWords Go.Proofs.YtnkgglihlmileaaGreatW.PrintLast Go.Proofs.YtnkgglihlmileaaGreatW.PrintMore
attribute [local go_sem] max2_int min2_int max_two min_two max_three min_three max_four min_four   -- for this text's walks alone
set_option linter.unusedVariables false
set_option linter.unusedSimpArgs false

/-! ### laws_FnLabels: function 3 -/
mutual
def laws_FnLabels.j0 : Nat → ByteArray → ByteArray → List ByteArray → ByteArray → Int → Bool → Option (Bool)
  | 0, _, _, _, _, _, _ => none
  | k + 1, x3, x4, x5, x6, x7, x40 => if x40 = true then (some false) else (laws_FnLabels.l0 k x3 x4 x5 x6 x7 0)
def laws_FnLabels.l0 : Nat → ByteArray → ByteArray → List ByteArray → ByteArray → Int → Int → Option (Bool)
  | 0, _, _, _, _, _, _ => none
  | k + 1, x3, x4, x5, x6, x7, x8 => if x8 < (x5.length : Int) then (if x7 < 0 then (if 0 ≤ x8 then ((impl_LooksLike.f k (rdOf ByteArray.empty x5 x8) x6).bind fun t228 => (if t228 = true then (some false) else (laws_FnLabels.l0 k x3 x4 x5 x6 x7 (wrap64 (x8 + 1))))) else (none)) else (if x8 < x7 then (if 0 ≤ x8 then ((impl_LooksLike.f k (rdOf ByteArray.empty x5 x8) x6).bind fun t230 => (if t230 = true then (some false) else (laws_FnLabels.l0 k x3 x4 x5 x6 x7 (wrap64 (x8 + 1))))) else (none)) else (laws_FnLabels.l0 k x3 x4 x5 x6 x7 (wrap64 (x8 + 1))))) else ((impl_IsLabel.f k x3).bind fun t231 => ((spec_IsLabel.f k x3).bind fun t232 => (if (t231 == t232) = true then ((impl_LooksLike.f k x3 x4).bind fun t233 => ((spec_LooksLike.f k x3 x4).bind fun t234 => (if (t233 == t234) = true then ((impl_LooksLike.f k x3 x4).bind fun t235 => ((impl_LooksLike.f k x4 x3).bind fun t236 => (if (t235 == t236) = true then ((impl_LooksLike.f k x3 x3).bind fun t237 => ((impl_IsLabel.f k x3).bind fun t238 => (if (t237 == t238) = true then ((impl_CompareLabels.f x3 x4).bind fun t239 => ((impl_CompareLabels.f x4 x3).bind fun t240 => (if t239 = (wrap64 (-t240)) then ((impl_PlainOf.f x3).bind fun t241 => ((impl_PlainOf.f t241).bind fun t242 => ((impl_PlainOf.f x3).bind fun t243 => (if t242.toList = t243.toList then ((impl_LabelInts.f k x3).bind fun t244 => ((spec_LabelInts.f k x3).bind fun t247 => ((laws_sameInts.f k t244 t247).bind fun t250 => (some t250)))) else (some false))))) else (some false)))) else (some false)))) else (some false)))) else (some false)))) else (some false))))
end
def laws_FnLabels.f (k : Nat) (l0 : List Int) : Option (Bool) := (laws_big.f l0).bind fun t217 => (if t217 = true then (some true) else ((spec_DrawLooksLike.f k l0).bind fun bt218 => ((spec_DrawFirstAlike.f k l0).bind fun bt220 => ((impl_FirstAlike.f k bt220.1 bt220.2).bind fun t224 => (if t224 ≥ (bt220.1.length : Int) then (laws_FnLabels.j0 k bt218.1 bt218.2 bt220.1 bt220.2 t224 true) else (if t224 ≥ 0 then (if 0 ≤ t224 then (if t224 < (bt220.1.length : Int) then ((impl_LooksLike.f k (rdOf ByteArray.empty bt220.1 t224) bt220.2).bind fun t226 => (laws_FnLabels.j0 k bt218.1 bt218.2 bt220.1 bt220.2 t224 (!t226))) else (none)) else (none)) else (laws_FnLabels.j0 k bt218.1 bt218.2 bt220.1 bt220.2 t224 false)))))))
theorem laws_FnLabels.mono_l : ∀ k, (∀ y0 y1 y2 y3 y4 y5, LeO (laws_FnLabels.j0 k y0 y1 y2 y3 y4 y5) (laws_FnLabels.j0 (k + 1) y0 y1 y2 y3 y4 y5)) ∧ (∀ y0 y1 y2 y3 y4 y5, LeO (laws_FnLabels.l0 k y0 y1 y2 y3 y4 y5) (laws_FnLabels.l0 (k + 1) y0 y1 y2 y3 y4 y5))
  | 0 => ⟨fun _ _ _ _ _ _ r h => by simp [laws_FnLabels.j0] at h, fun _ _ _ _ _ _ r h => by simp [laws_FnLabels.l0] at h⟩
  | k + 1 => by
    obtain ⟨ih0, ih1⟩ := laws_FnLabels.mono_l k
    refine ⟨?_, ?_⟩
    · intro y0 y1 y2 y3 y4 y5
      unfold laws_FnLabels.j0
      repeat' first
      | (with_reducible exact ih0 _ _ _ _ _ _)
      | (with_reducible exact ih1 _ _ _ _ _ _)
      | (with_reducible exact impl_FirstAlike.mono _ _ _)
      | (with_reducible exact impl_IsLabel.mono _ _)
      | (with_reducible exact impl_LabelInts.mono _ _)
      | (with_reducible exact impl_LooksLike.mono _ _ _)
      | (with_reducible exact laws_sameInts.mono _ _ _)
      | (with_reducible exact spec_DrawFirstAlike.mono _ _)
      | (with_reducible exact spec_DrawLooksLike.mono _ _)
      | (with_reducible exact spec_IsLabel.mono _ _)
      | (with_reducible exact spec_LabelInts.mono _ _)
      | (with_reducible exact spec_LooksLike.mono _ _ _)
      | (with_reducible exact LeO.refl _)
      | (with_reducible exact LeO.none _)
      | (with_reducible refine LeO.ite ?_ ?_)
      | (with_reducible refine LeO.bind ?_ (fun _ => ?_))
      | exact ih0 _ _ _ _ _ _
      | exact ih1 _ _ _ _ _ _
      | exact impl_FirstAlike.mono _ _ _
      | exact impl_IsLabel.mono _ _
      | exact impl_LabelInts.mono _ _
      | exact impl_LooksLike.mono _ _ _
      | exact laws_sameInts.mono _ _ _
      | exact spec_DrawFirstAlike.mono _ _
      | exact spec_DrawLooksLike.mono _ _
      | exact spec_IsLabel.mono _ _
      | exact spec_LabelInts.mono _ _
      | exact spec_LooksLike.mono _ _ _
      | exact LeO.none _
      | refine LeO.ite ?_ ?_
      | refine LeO.bind ?_ (fun _ => ?_)
    · intro y0 y1 y2 y3 y4 y5
      unfold laws_FnLabels.l0
      repeat' first
      | (with_reducible exact ih0 _ _ _ _ _ _)
      | (with_reducible exact ih1 _ _ _ _ _ _)
      | (with_reducible exact impl_FirstAlike.mono _ _ _)
      | (with_reducible exact impl_IsLabel.mono _ _)
      | (with_reducible exact impl_LabelInts.mono _ _)
      | (with_reducible exact impl_LooksLike.mono _ _ _)
      | (with_reducible exact laws_sameInts.mono _ _ _)
      | (with_reducible exact spec_DrawFirstAlike.mono _ _)
      | (with_reducible exact spec_DrawLooksLike.mono _ _)
      | (with_reducible exact spec_IsLabel.mono _ _)
      | (with_reducible exact spec_LabelInts.mono _ _)
      | (with_reducible exact spec_LooksLike.mono _ _ _)
      | (with_reducible exact LeO.refl _)
      | (with_reducible exact LeO.none _)
      | (with_reducible refine LeO.ite ?_ ?_)
      | (with_reducible refine LeO.bind ?_ (fun _ => ?_))
      | exact ih0 _ _ _ _ _ _
      | exact ih1 _ _ _ _ _ _
      | exact impl_FirstAlike.mono _ _ _
      | exact impl_IsLabel.mono _ _
      | exact impl_LabelInts.mono _ _
      | exact impl_LooksLike.mono _ _ _
      | exact laws_sameInts.mono _ _ _
      | exact spec_DrawFirstAlike.mono _ _
      | exact spec_DrawLooksLike.mono _ _
      | exact spec_IsLabel.mono _ _
      | exact spec_LabelInts.mono _ _
      | exact spec_LooksLike.mono _ _ _
      | exact LeO.none _
      | refine LeO.ite ?_ ?_
      | refine LeO.bind ?_ (fun _ => ?_)
theorem laws_FnLabels.mono : ∀ a0 k, LeO (laws_FnLabels.f k a0) (laws_FnLabels.f (k + 1) a0) := by
  intro a0 k
  obtain ⟨ih0, ih1⟩ := laws_FnLabels.mono_l k
  unfold laws_FnLabels.f
  repeat' first
      | (with_reducible exact ih0 _ _ _ _ _ _)
      | (with_reducible exact ih1 _ _ _ _ _ _)
      | (with_reducible exact impl_FirstAlike.mono _ _ _)
      | (with_reducible exact impl_IsLabel.mono _ _)
      | (with_reducible exact impl_LabelInts.mono _ _)
      | (with_reducible exact impl_LooksLike.mono _ _ _)
      | (with_reducible exact laws_sameInts.mono _ _ _)
      | (with_reducible exact spec_DrawFirstAlike.mono _ _)
      | (with_reducible exact spec_DrawLooksLike.mono _ _)
      | (with_reducible exact spec_IsLabel.mono _ _)
      | (with_reducible exact spec_LabelInts.mono _ _)
      | (with_reducible exact spec_LooksLike.mono _ _ _)
      | (with_reducible exact LeO.refl _)
      | (with_reducible exact LeO.none _)
      | (with_reducible refine LeO.ite ?_ ?_)
      | (with_reducible refine LeO.bind ?_ (fun _ => ?_))
      | exact ih0 _ _ _ _ _ _
      | exact ih1 _ _ _ _ _ _
      | exact impl_FirstAlike.mono _ _ _
      | exact impl_IsLabel.mono _ _
      | exact impl_LabelInts.mono _ _
      | exact impl_LooksLike.mono _ _ _
      | exact laws_sameInts.mono _ _ _
      | exact spec_DrawFirstAlike.mono _ _
      | exact spec_DrawLooksLike.mono _ _
      | exact spec_IsLabel.mono _ _
      | exact spec_LabelInts.mono _ _
      | exact spec_LooksLike.mono _ _ _
      | exact LeO.none _
      | refine LeO.ite ?_ ?_
      | refine LeO.bind ?_ (fun _ => ?_)
set_option maxHeartbeats 8000000 in
set_option maxRecDepth 100000 in
theorem laws_FnLabels.calls (k : Nat) (A0 : Option Addr) (c0 : Nat) (l0 : List Int) (r : Bool) (w : World) (hr0 : Kd.C (Kd.int .u8) w A0 l0.length l0) (hc0 : l0.length ≤ c0) (h : laws_FnLabels.f k l0 = some r) :
    Calls Tryz.prog 3 #[.slice A0 l0.length c0] w fun e w' => e = .returned (.bool r) ∧ Below w.heap.size w w' := by
  have HR0 := Aside0.mk hr0
  have HC0 := Aside0.mk hc0
  clear hr0 hc0
  have HB := Aside0.mk (Below.refl w.heap.size w)
  have H : ((laws_big.f l0).bind fun t217 => (if t217 = true then (some true) else ((spec_DrawLooksLike.f k l0).bind fun bt218 => ((spec_DrawFirstAlike.f k l0).bind fun bt220 => ((impl_FirstAlike.f k bt220.1 bt220.2).bind fun t224 => (if t224 ≥ (bt220.1.length : Int) then (laws_FnLabels.j0 k bt218.1 bt218.2 bt220.1 bt220.2 t224 true) else (if t224 ≥ 0 then (if 0 ≤ t224 then (if t224 < (bt220.1.length : Int) then ((impl_LooksLike.f k (rdOf ByteArray.empty bt220.1 t224) bt220.2).bind fun t226 => (laws_FnLabels.j0 k bt218.1 bt218.2 bt220.1 bt220.2 t224 (!t226))) else (none)) else (none)) else (laws_FnLabels.j0 k bt218.1 bt218.2 bt220.1 bt220.2 t224 false)))))))) = some r := h
  clear h
  replace H := Option.bind_eq_some_iff.mp H
  obtain ⟨t217, A20, H⟩ := H
  replace H : (if t217 = true then (some true) else ((spec_DrawLooksLike.f k l0).bind fun bt218 => ((spec_DrawFirstAlike.f k l0).bind fun bt220 => ((impl_FirstAlike.f k bt220.1 bt220.2).bind fun t224 => (if t224 ≥ (bt220.1.length : Int) then (laws_FnLabels.j0 k bt218.1 bt218.2 bt220.1 bt220.2 t224 true) else (if t224 ≥ 0 then (if 0 ≤ t224 then (if t224 < (bt220.1.length : Int) then ((impl_LooksLike.f k (rdOf ByteArray.empty bt220.1 t224) bt220.2).bind fun t226 => (laws_FnLabels.j0 k bt218.1 bt218.2 bt220.1 bt220.2 t224 (!t226))) else (none)) else (none)) else (laws_FnLabels.j0 k bt218.1 bt218.2 bt220.1 bt220.2 t224 false))))))) = some r := H
  have A2 := Aside0.mk A20
  clear A20
  by_cases c3 : t217 = true
  · subst c3
    have H1 : (some true) = some r := by rw [if_pos rfl] at H; exact H
    clear H
    have H := H1
    clear H1
    obtain rfl := Option.some.inj H
    go_enter Tryz.func3, Tryz.ntmps3
    go_wp2_with (first | ((with_reducible refine gate_callee (f := 4) rfl ?_); refine goesL_ (some 10) rfl rfl Tryz.func4 (by kernel_rfl) rfl #[.slice A0 l0.length c0] rfl (by (try simp only [List.map_toArray, List.map_cons, List.map_nil]); first | done | rfl | (simp only [List.length_drop, List.length_take]; rfl)) ?_; (with_reducible refine (laws_big.calls _ _ l0 true _ ?side1 ?side2 A2.out).mono ?_); (case side1 => repeat (first | exact HR0.out | (with_reducible refine Kd.C_alloc ?_ _) | (with_reducible refine Kd.C_drewN ?_ _) | (with_reducible refine Kd.C_drew ?_))); (case side2 => exact HC0.out); rintro e w' ⟨rfl, ⟨nd, rfl⟩⟩; refine ⟨_, rfl, ?_⟩))
    go_ret
    exact ⟨by first | rfl | (simp [errW_none, errW_some] <;> rfl) | (simp [*, errW_none, errW_some] <;> rfl), by repeat (first | (with_reducible first | exact HB.out | apply below_alloc | apply pw_below_drewN | apply below_drew1) | exact HB.out)⟩
  · replace c3 := Bool.eq_false_iff.mpr c3
    subst c3
    have H1 : ((spec_DrawLooksLike.f k l0).bind fun bt218 => ((spec_DrawFirstAlike.f k l0).bind fun bt220 => ((impl_FirstAlike.f k bt220.1 bt220.2).bind fun t224 => (if t224 ≥ (bt220.1.length : Int) then (laws_FnLabels.j0 k bt218.1 bt218.2 bt220.1 bt220.2 t224 true) else (if t224 ≥ 0 then (if 0 ≤ t224 then (if t224 < (bt220.1.length : Int) then ((impl_LooksLike.f k (rdOf ByteArray.empty bt220.1 t224) bt220.2).bind fun t226 => (laws_FnLabels.j0 k bt218.1 bt218.2 bt220.1 bt220.2 t224 (!t226))) else (none)) else (none)) else (laws_FnLabels.j0 k bt218.1 bt218.2 bt220.1 bt220.2 t224 false)))))) = some r := by rw [if_neg (show ¬ (false = true) by decide)] at H; exact H
    clear H
    have H := H1
    clear H1
    replace H := Option.bind_eq_some_iff.mp H
    obtain ⟨⟨t218, t219⟩, A40, H⟩ := H
    replace H : ((spec_DrawFirstAlike.f k l0).bind fun bt220 => ((impl_FirstAlike.f k bt220.1 bt220.2).bind fun t224 => (if t224 ≥ (bt220.1.length : Int) then (laws_FnLabels.j0 k t218 t219 bt220.1 bt220.2 t224 true) else (if t224 ≥ 0 then (if 0 ≤ t224 then (if t224 < (bt220.1.length : Int) then ((impl_LooksLike.f k (rdOf ByteArray.empty bt220.1 t224) bt220.2).bind fun t226 => (laws_FnLabels.j0 k t218 t219 bt220.1 bt220.2 t224 (!t226))) else (none)) else (none)) else (laws_FnLabels.j0 k t218 t219 bt220.1 bt220.2 t224 false))))) = some r := H
    have A4 := Aside0.mk A40
    clear A40
    replace H := Option.bind_eq_some_iff.mp H
    obtain ⟨⟨t220, t221⟩, A50, H⟩ := H
    replace H : ((impl_FirstAlike.f k t220 t221).bind fun t224 => (if t224 ≥ (t220.length : Int) then (laws_FnLabels.j0 k t218 t219 t220 t221 t224 true) else (if t224 ≥ 0 then (if 0 ≤ t224 then (if t224 < (t220.length : Int) then ((impl_LooksLike.f k (rdOf ByteArray.empty t220 t224) t221).bind fun t226 => (laws_FnLabels.j0 k t218 t219 t220 t221 t224 (!t226))) else (none)) else (none)) else (laws_FnLabels.j0 k t218 t219 t220 t221 t224 false)))) = some r := H
    have A5 := Aside0.mk A50
    clear A50
    replace H := Option.bind_eq_some_iff.mp H
    obtain ⟨t224, A60, H⟩ := H
    replace H : (if t224 ≥ (t220.length : Int) then (laws_FnLabels.j0 k t218 t219 t220 t221 t224 true) else (if t224 ≥ 0 then (if 0 ≤ t224 then (if t224 < (t220.length : Int) then ((impl_LooksLike.f k (rdOf ByteArray.empty t220 t224) t221).bind fun t226 => (laws_FnLabels.j0 k t218 t219 t220 t221 t224 (!t226))) else (none)) else (none)) else (laws_FnLabels.j0 k t218 t219 t220 t221 t224 false))) = some r := H
    have A6 := Aside0.mk A60
    clear A60
    have HC7 := Aside0.mk H
    clear H
    go_enter Tryz.func3, Tryz.ntmps3
    go_upto_region 6 with (first | ((with_reducible refine gate_callee (f := 4) rfl ?_); refine goesL_ (some 10) rfl rfl Tryz.func4 (by kernel_rfl) rfl #[.slice A0 l0.length c0] rfl (by (try simp only [List.map_toArray, List.map_cons, List.map_nil]); first | done | rfl | (simp only [List.length_drop, List.length_take]; rfl)) ?_; (with_reducible refine (laws_big.calls _ _ l0 false _ ?side1 ?side2 A2.out).mono ?_); (case side1 => repeat (first | exact HR0.out | (with_reducible refine Kd.C_alloc ?_ _) | (with_reducible refine Kd.C_drewN ?_ _) | (with_reducible refine Kd.C_drew ?_))); (case side2 => exact HC0.out); rintro e w' ⟨rfl, ⟨nd, rfl⟩⟩; refine ⟨_, rfl, ?_⟩) | ((with_reducible refine gate_callee (f := 5) rfl ?_); refine goesL_ (some 13) rfl rfl Tryz.func5 (by kernel_rfl) rfl #[.slice A0 l0.length c0] rfl (by (try simp only [List.map_toArray, List.map_cons, List.map_nil]); first | done | rfl | (simp only [List.length_drop, List.length_take]; rfl)) ?_; (with_reducible refine (spec_DrawLooksLike.calls k _ _ l0 t218 t219 _ ?side1 ?side2 A4.out).mono ?_); (case side1 => repeat (first | exact HR0.out | (with_reducible refine Kd.C_alloc ?_ _) | (with_reducible refine Kd.C_drewN ?_ _) | (with_reducible refine Kd.C_drew ?_))); (case side2 => exact HC0.out); rintro e w8 ⟨rfl, hb⟩; refine ⟨_, rfl, ?_⟩; have n0_ := Aside0.mk (below_step (by repeat (first | (with_reducible first | exact HB.out | apply below_alloc | apply pw_below_drewN | apply below_drew1) | exact HB.out)) hb); clear HB; have HB := n0_; clear n0_; (try clear hb); (try clear hb2); (try clear hk); (try clear hi)) | ((with_reducible refine gate_callee (f := 6) rfl ?_); refine goesL_ (some 18) rfl rfl Tryz.func6 (by kernel_rfl) rfl #[.slice A0 l0.length c0] rfl (by (try simp only [List.map_toArray, List.map_cons, List.map_nil]); first | done | rfl | (simp only [List.length_drop, List.length_take]; rfl)) ?_; (with_reducible refine (spec_DrawFirstAlike.calls k _ _ l0 t220 t221 _ ?side1 ?side2 A5.out).mono ?_); (case side1 => repeat (first | exact (Kd.C_below HR0.out HB.out) | (with_reducible refine Kd.C_alloc ?_ _) | (with_reducible refine Kd.C_drewN ?_ _) | (with_reducible refine Kd.C_drew ?_))); (case side2 => exact HC0.out); rintro e w9 ⟨v222, rfl, ho0, hb⟩; refine ⟨_, rfl, ?_⟩; have n0_ := Aside0.mk (Kd.R_lower ho0 (below_size (by repeat (first | (with_reducible first | exact HB.out | apply below_alloc | apply pw_below_drewN | apply below_drew1) | exact HB.out)))); have n1_ := Aside0.mk (below_step (by repeat (first | (with_reducible first | exact HB.out | apply below_alloc | apply pw_below_drewN | apply below_drew1) | exact HB.out)) hb); clear HB; have HO223 := n0_; have HB := n1_; clear n0_ n1_; (try clear hb); (try clear hb2); (try clear hk); (try clear hi); (try clear ho0); obtain ⟨Ao10, co10, eo10⟩ := Kd.R_slice HO223.out; subst eo10) | ((with_reducible refine gate_callee (f := 7) rfl ?_); refine goesL_ (some 23) rfl rfl Tryz.func7 (by kernel_rfl) rfl #[.slice Ao10 t220.length co10, .string t221] rfl (by (try simp only [List.map_toArray, List.map_cons, List.map_nil]); first | done | rfl | (simp only [List.length_drop, List.length_take]; rfl)) ?_; (with_reducible refine (impl_FirstAlike.calls k _ _ t220 t221 t224 _ ?side1 ?side2 A6.out).mono ?_); (case side1 => repeat (first | exact (Kd.R_reads' HO223.out).2.2 | (with_reducible refine Kd.C_alloc ?_ _) | (with_reducible refine Kd.C_drewN ?_ _) | (with_reducible refine Kd.C_drew ?_))); (case side2 => exact (Kd.R_reads' HO223.out).2.1); rintro e w11 ⟨rfl, hb⟩; refine ⟨_, rfl, ?_⟩; have n0_ := Aside0.mk (Kd.R_below (by (with_reducible repeat (first | apply Kd.R_alloc | apply Kd.R_drewN | apply Kd.R_drew)); exact HO223.out) hb); have n1_ := Aside0.mk (below_step (by repeat (first | (with_reducible first | exact HB.out | apply below_alloc | apply pw_below_drewN | apply below_drew1) | exact HB.out)) hb); clear HO223; clear HB; have HO223 := n0_; have HB := n1_; clear n0_ n1_; (try clear hb); (try clear hb2); (try clear hk); (try clear hi)))
    (try simp only [Act.put, List.setIfInBounds_toArray, List.set_cons_zero, List.set_cons_succ])
    go_cut [40] (fun v40 wc => ∃ (kq : Nat) (x40_6 : Bool), v40 = .bool x40_6 ∧ Aside0 (laws_FnLabels.j0 kq t218 t219 t220 t221 t224 x40_6 = some r) ∧ Aside0 (kq ≤ k) ∧ Aside0 (Kd.R Kd.string 9 wc w.heap.size (fun _ => True) (.slice Ao10 t220.length co10) t220) ∧ Aside0 (Below w.heap.size w wc))
    case first =>
      have H := HC7.out
      clear HC7
      by_cases c12 : t224 ≥ (t220.length : Int)
      · rw [if_pos c12] at H
        have c12b0 : decide ((t220.length : Int) ≤ t224) = true := decide_eq_true c12
        clear c12
        (first | rw [c12b0] | (simp only [i64_w, i32_w]; rw [c12b0]) | skip)
        have H' := Aside0.mk H
        clear H
        go_wp2
        go_meet
        case rel => exact ⟨_, (true), (by first | rfl | (simp; done) | (simp [*]; done)), H', ⟨by first | omega | exact Nat.le_refl _⟩, ⟨by (with_reducible repeat (first | apply Kd.R_alloc | apply Kd.R_drewN | apply Kd.R_drew)); exact HO223.out⟩, ⟨by repeat (first | (with_reducible first | exact HB.out | apply below_alloc | apply pw_below_drewN | apply below_drew1) | exact HB.out)⟩⟩
      · rw [if_neg c12] at H
        have c12b0 : decide ((t220.length : Int) ≤ t224) = false := decide_eq_false c12
        clear c12
        (first | rw [c12b0] | (simp only [i64_w, i32_w]; rw [c12b0]) | skip)
        by_cases c13 : t224 ≥ 0
        · rw [if_pos c13] at H
          have c13b0 : decide (0 ≤ t224) = true := decide_eq_true c13
          clear c13
          by_cases c14 : 0 ≤ t224
          · rw [if_pos c14] at H
            have c14b0 : decide (0 ≤ t224) = true := decide_eq_true c14
            clear c14
            by_cases c15 : t224 < (t220.length : Int)
            · rw [if_pos c15] at H
              have c15b0 : decide (t224 < (t220.length : Int)) = true := decide_eq_true c15
              clear c15
              replace H := Option.bind_eq_some_iff.mp H
              obtain ⟨t226, A160, H⟩ := H
              replace H : (laws_FnLabels.j0 k t218 t219 t220 t221 t224 (!t226)) = some r := H
              have A16 := Aside0.mk A160
              clear A160
              have H' := Aside0.mk H
              clear H
              have p225 : 0 ≤ (t224 : Int) := of_decide_eq_true (by first | (with_reducible assumption) | assumption)
              have q225 : t224 < (t220.length : Int) := of_decide_eq_true (by first | (with_reducible assumption) | assumption)
              obtain ⟨ad225, e225, hx225_0⟩ := Kd.at_string (Kd.R_reads' HO223.out).2.2 t224 p225 q225
              cases e225
              replace p225 := eq_true p225
              replace q225 := eq_true q225
              go_wp2_with (first | (go_at_call 8; (with_reducible refine (impl_LooksLike.calls k (rdOf ByteArray.empty t220 t224) t221 t226 _ A16.out).mono ?_); rintro e w17 ⟨rfl, hb⟩; have n0_ := Aside0.mk (Kd.R_below (by (with_reducible repeat (first | apply Kd.R_alloc | apply Kd.R_drewN | apply Kd.R_drew)); exact HO223.out) hb); have n1_ := Aside0.mk (below_step (by repeat (first | (with_reducible first | exact HB.out | apply below_alloc | apply pw_below_drewN | apply below_drew1) | exact HB.out)) hb); clear HO223; clear HB; have HO223 := n0_; have HB := n1_; clear n0_ n1_; (try clear hb); (try clear hb2); (try clear hk); (try clear hi)))
              go_meet
              case rel => exact ⟨_, (!t226), (by first | rfl | (simp; done) | (simp [*]; done)), H', ⟨by first | omega | exact Nat.le_refl _⟩, ⟨by (with_reducible repeat (first | apply Kd.R_alloc | apply Kd.R_drewN | apply Kd.R_drew)); exact HO223.out⟩, ⟨by repeat (first | (with_reducible first | exact HB.out | apply below_alloc | apply pw_below_drewN | apply below_drew1) | exact HB.out)⟩⟩
            · rw [if_neg c15] at H
              exact absurd H (by simp)
          · rw [if_neg c14] at H
            exact absurd H (by simp)
        · rw [if_neg c13] at H
          have c13b0 : decide (0 ≤ t224) = false := decide_eq_false c13
          clear c13
          have H' := Aside0.mk H
          clear H
          go_wp2
          go_meet
          case rel => exact ⟨_, (false), (by first | rfl | (simp; done) | (simp [*]; done)), H', ⟨by first | omega | exact Nat.le_refl _⟩, ⟨by (with_reducible repeat (first | apply Kd.R_alloc | apply Kd.R_drewN | apply Kd.R_drew)); exact HO223.out⟩, ⟨by repeat (first | (with_reducible first | exact HB.out | apply below_alloc | apply pw_below_drewN | apply below_drew1) | exact HB.out)⟩⟩
    case rest =>
      clear HC7
      try clear c1
      try clear p2
      try clear q2
      try clear hx2
      try clear c3
      try clear c4
      try clear c5
      try clear c6
      try clear c7
      try clear c12
      try clear c12b0
      try clear c13
      try clear c13b0
      try clear c14
      try clear c14b0
      try clear c15
      try clear c15b0
      try clear hx225_0
      try clear p225
      try clear q225
      obtain ⟨kq, x40_6, rfl, HA, HJ6, HO_5, HB⟩ := hcut
      cases kq with
      | zero => exact absurd HA.out (by simp [laws_FnLabels.j0])
      | succ kj6 =>
        have H := HA.out
        clear HA
        simp only [laws_FnLabels.j0] at H
        by_cases c18 : x40_6 = true
        · subst c18
          have H1 : (some false) = some r := by rw [if_pos rfl] at H; exact H
          clear H
          have H := H1
          clear H1
          obtain rfl := Option.some.inj H
          go_wp2
          go_ret
          exact ⟨by first | rfl | (simp [errW_none, errW_some] <;> rfl) | (simp [*, errW_none, errW_some] <;> rfl), by repeat (first | (with_reducible first | exact HB.out | apply below_alloc | apply pw_below_drewN | apply below_drew1) | exact HB.out)⟩
        · replace c18 := Bool.eq_false_iff.mpr c18
          subst c18
          have H1 : (laws_FnLabels.l0 kj6 t218 t219 t220 t221 t224 0) = some r := by rw [if_neg (show ¬ (false = true) by decide)] at H; exact H
          clear H
          have H := H1
          clear H1
          have H' := Aside0.mk H
          clear H
          go_wp2
          go_loopg [8] kj6 (fun kq v8 w' => ∃ (x8_2 : Int), v8 = .int .i64 x8_2 ∧ Aside0 (laws_FnLabels.l0 kq t218 t219 t220 t221 t224 x8_2 = some r) ∧ Aside0 (kq ≤ kj6) ∧ Aside0 (Kd.R Kd.string 9 w' w.heap.size (fun _ => True) (.slice Ao10 t220.length co10) t220) ∧ Aside0 (Below w.heap.size w w'))
          case atStart => exact ⟨(0), (by first | rfl | (simp; done) | (simp [*]; done)), H', ⟨Nat.le_refl _⟩, ⟨by (with_reducible repeat (first | apply Kd.R_alloc | apply Kd.R_drewN | apply Kd.R_drew)); exact HO_5.out⟩, ⟨by repeat (first | (with_reducible first | exact HB.out | apply below_alloc | apply pw_below_drewN | apply below_drew1) | exact HB.out)⟩⟩
          case round =>
            clear H'
            try clear c1
            try clear p2
            try clear q2
            try clear hx2
            try clear c3
            try clear c4
            try clear c5
            try clear c6
            try clear c7
            try clear c12
            try clear c12b0
            try clear c13
            try clear c13b0
            try clear c14
            try clear c14b0
            try clear c15
            try clear c15b0
            try clear c18
            try clear hx225_0
            try clear p2
            try clear p225
            try clear q2
            try clear q225
            obtain ⟨x8_2, rfl, HA, HK2, HO_5, HB⟩ := hrel
            cases gk with
            | zero => exact absurd HA.out (by simp [laws_FnLabels.l0])
            | succ k2 =>
              have H := HA.out
              clear HA
              simp only [laws_FnLabels.l0] at H
              by_cases c19 : x8_2 < (t220.length : Int)
              · rw [if_pos c19] at H
                have c19b0 : decide (x8_2 < (t220.length : Int)) = true := decide_eq_true c19
                clear c19
                by_cases c20 : t224 < 0
                · rw [if_pos c20] at H
                  have c20b0 : decide (t224 < 0) = true := decide_eq_true c20
                  clear c20
                  by_cases c21 : 0 ≤ x8_2
                  · rw [if_pos c21] at H
                    have c21b0 : decide (0 ≤ x8_2) = true := decide_eq_true c21
                    clear c21
                    replace H := Option.bind_eq_some_iff.mp H
                    obtain ⟨t228, A220, H⟩ := H
                    replace H : (if t228 = true then (some false) else (laws_FnLabels.l0 k2 t218 t219 t220 t221 t224 (wrap64 (x8_2 + 1)))) = some r := H
                    have A22 := Aside0.mk A220
                    clear A220
                    by_cases c23 : t228 = true
                    · subst c23
                      have H1 : (some false) = some r := by rw [if_pos rfl] at H; exact H
                      clear H
                      have H := H1
                      clear H1
                      obtain rfl := Option.some.inj H
                      have p227 : 0 ≤ (x8_2 : Int) := of_decide_eq_true (by first | (with_reducible assumption) | assumption)
                      have q227 : x8_2 < (t220.length : Int) := of_decide_eq_true (by first | (with_reducible assumption) | assumption)
                      obtain ⟨ad227, e227, hx227_0⟩ := Kd.at_string (Kd.R_reads' HO_5.out).2.2 x8_2 p227 q227
                      cases e227
                      replace p227 := eq_true p227
                      replace q227 := eq_true q227
                      go_wp2_with (first | (go_at_call 8; (with_reducible refine (impl_LooksLike.calls k2 (rdOf ByteArray.empty t220 x8_2) t221 true _ A22.out).mono ?_); rintro e w24 ⟨rfl, hb⟩; have n0_ := Aside0.mk (Kd.R_below (by (with_reducible repeat (first | apply Kd.R_alloc | apply Kd.R_drewN | apply Kd.R_drew)); exact HO_5.out) hb); have n1_ := Aside0.mk (below_step (by repeat (first | (with_reducible first | exact HB.out | apply below_alloc | apply pw_below_drewN | apply below_drew1) | exact HB.out)) hb); clear HO_5; clear HB; have HO_5 := n0_; have HB := n1_; clear n0_ n1_; (try clear hb); (try clear hb2); (try clear hk); (try clear hi)))
                      go_ret
                      exact ⟨by first | rfl | (simp [errW_none, errW_some] <;> rfl) | (simp [*, errW_none, errW_some] <;> rfl), by repeat (first | (with_reducible first | exact HB.out | apply below_alloc | apply pw_below_drewN | apply below_drew1) | exact HB.out)⟩
                    · replace c23 := Bool.eq_false_iff.mpr c23
                      subst c23
                      have H1 : (laws_FnLabels.l0 k2 t218 t219 t220 t221 t224 (wrap64 (x8_2 + 1))) = some r := by rw [if_neg (show ¬ (false = true) by decide)] at H; exact H
                      clear H
                      have H := H1
                      clear H1
                      have H' := Aside0.mk H
                      clear H
                      have p227 : 0 ≤ (x8_2 : Int) := of_decide_eq_true (by first | (with_reducible assumption) | assumption)
                      have q227 : x8_2 < (t220.length : Int) := of_decide_eq_true (by first | (with_reducible assumption) | assumption)
                      obtain ⟨ad227, e227, hx227_0⟩ := Kd.at_string (Kd.R_reads' HO_5.out).2.2 x8_2 p227 q227
                      cases e227
                      replace p227 := eq_true p227
                      replace q227 := eq_true q227
                      go_wp2_with (first | (go_at_call 8; (with_reducible refine (impl_LooksLike.calls k2 (rdOf ByteArray.empty t220 x8_2) t221 false _ A22.out).mono ?_); rintro e w25 ⟨rfl, hb⟩; have n0_ := Aside0.mk (Kd.R_below (by (with_reducible repeat (first | apply Kd.R_alloc | apply Kd.R_drewN | apply Kd.R_drew)); exact HO_5.out) hb); have n1_ := Aside0.mk (below_step (by repeat (first | (with_reducible first | exact HB.out | apply below_alloc | apply pw_below_drewN | apply below_drew1) | exact HB.out)) hb); clear HO_5; clear HB; have HO_5 := n0_; have HB := n1_; clear n0_ n1_; (try clear hb); (try clear hb2); (try clear hk); (try clear hi)))
                      go_roundg k2
                      case measure => have := HJ6.out; have := HK2.out; omega
                      case rel => exact ⟨(wrap64 (x8_2 + 1)), (by first | rfl | (simp; done) | (simp [*]; done)), H', ⟨by have := HJ6.out; have := HK2.out; omega⟩, ⟨by (with_reducible repeat (first | apply Kd.R_alloc | apply Kd.R_drewN | apply Kd.R_drew)); exact HO_5.out⟩, ⟨by repeat (first | (with_reducible first | exact HB.out | apply below_alloc | apply pw_below_drewN | apply below_drew1) | exact HB.out)⟩⟩
                  · rw [if_neg c21] at H
                    exact absurd H (by simp)
                · rw [if_neg c20] at H
                  have c20b0 : decide (t224 < 0) = false := decide_eq_false c20
                  clear c20
                  by_cases c26 : x8_2 < t224
                  · rw [if_pos c26] at H
                    have c26b0 : decide (x8_2 < t224) = true := decide_eq_true c26
                    clear c26
                    by_cases c27 : 0 ≤ x8_2
                    · rw [if_pos c27] at H
                      have c27b0 : decide (0 ≤ x8_2) = true := decide_eq_true c27
                      clear c27
                      replace H := Option.bind_eq_some_iff.mp H
                      obtain ⟨t230, A280, H⟩ := H
                      replace H : (if t230 = true then (some false) else (laws_FnLabels.l0 k2 t218 t219 t220 t221 t224 (wrap64 (x8_2 + 1)))) = some r := H
                      have A28 := Aside0.mk A280
                      clear A280
                      by_cases c29 : t230 = true
                      · subst c29
                        have H1 : (some false) = some r := by rw [if_pos rfl] at H; exact H
                        clear H
                        have H := H1
                        clear H1
                        obtain rfl := Option.some.inj H
                        have p229 : 0 ≤ (x8_2 : Int) := of_decide_eq_true (by first | (with_reducible assumption) | assumption)
                        have q229 : x8_2 < (t220.length : Int) := of_decide_eq_true (by first | (with_reducible assumption) | assumption)
                        obtain ⟨ad229, e229, hx229_0⟩ := Kd.at_string (Kd.R_reads' HO_5.out).2.2 x8_2 p229 q229
                        cases e229
                        replace p229 := eq_true p229
                        replace q229 := eq_true q229
                        go_wp2_with (first | (go_at_call 8; (with_reducible refine (impl_LooksLike.calls k2 (rdOf ByteArray.empty t220 x8_2) t221 true _ A28.out).mono ?_); rintro e w30 ⟨rfl, hb⟩; have n0_ := Aside0.mk (Kd.R_below (by (with_reducible repeat (first | apply Kd.R_alloc | apply Kd.R_drewN | apply Kd.R_drew)); exact HO_5.out) hb); have n1_ := Aside0.mk (below_step (by repeat (first | (with_reducible first | exact HB.out | apply below_alloc | apply pw_below_drewN | apply below_drew1) | exact HB.out)) hb); clear HO_5; clear HB; have HO_5 := n0_; have HB := n1_; clear n0_ n1_; (try clear hb); (try clear hb2); (try clear hk); (try clear hi)))
                        go_ret
                        exact ⟨by first | rfl | (simp [errW_none, errW_some] <;> rfl) | (simp [*, errW_none, errW_some] <;> rfl), by repeat (first | (with_reducible first | exact HB.out | apply below_alloc | apply pw_below_drewN | apply below_drew1) | exact HB.out)⟩
                      · replace c29 := Bool.eq_false_iff.mpr c29
                        subst c29
                        have H1 : (laws_FnLabels.l0 k2 t218 t219 t220 t221 t224 (wrap64 (x8_2 + 1))) = some r := by rw [if_neg (show ¬ (false = true) by decide)] at H; exact H
                        clear H
                        have H := H1
                        clear H1
                        have H' := Aside0.mk H
                        clear H
                        have p229 : 0 ≤ (x8_2 : Int) := of_decide_eq_true (by first | (with_reducible assumption) | assumption)
                        have q229 : x8_2 < (t220.length : Int) := of_decide_eq_true (by first | (with_reducible assumption) | assumption)
                        obtain ⟨ad229, e229, hx229_0⟩ := Kd.at_string (Kd.R_reads' HO_5.out).2.2 x8_2 p229 q229
                        cases e229
                        replace p229 := eq_true p229
                        replace q229 := eq_true q229
                        go_wp2_with (first | (go_at_call 8; (with_reducible refine (impl_LooksLike.calls k2 (rdOf ByteArray.empty t220 x8_2) t221 false _ A28.out).mono ?_); rintro e w31 ⟨rfl, hb⟩; have n0_ := Aside0.mk (Kd.R_below (by (with_reducible repeat (first | apply Kd.R_alloc | apply Kd.R_drewN | apply Kd.R_drew)); exact HO_5.out) hb); have n1_ := Aside0.mk (below_step (by repeat (first | (with_reducible first | exact HB.out | apply below_alloc | apply pw_below_drewN | apply below_drew1) | exact HB.out)) hb); clear HO_5; clear HB; have HO_5 := n0_; have HB := n1_; clear n0_ n1_; (try clear hb); (try clear hb2); (try clear hk); (try clear hi)))
                        go_roundg k2
                        case measure => have := HJ6.out; have := HK2.out; omega
                        case rel => exact ⟨(wrap64 (x8_2 + 1)), (by first | rfl | (simp; done) | (simp [*]; done)), H', ⟨by have := HJ6.out; have := HK2.out; omega⟩, ⟨by (with_reducible repeat (first | apply Kd.R_alloc | apply Kd.R_drewN | apply Kd.R_drew)); exact HO_5.out⟩, ⟨by repeat (first | (with_reducible first | exact HB.out | apply below_alloc | apply pw_below_drewN | apply below_drew1) | exact HB.out)⟩⟩
                    · rw [if_neg c27] at H
                      exact absurd H (by simp)
                  · rw [if_neg c26] at H
                    have c26b0 : decide (x8_2 < t224) = false := decide_eq_false c26
                    clear c26
                    have H' := Aside0.mk H
                    clear H
                    go_wp2
                    go_roundg k2
                    case measure => have := HJ6.out; have := HK2.out; omega
                    case rel => exact ⟨(wrap64 (x8_2 + 1)), (by first | rfl | (simp; done) | (simp [*]; done)), H', ⟨by have := HJ6.out; have := HK2.out; omega⟩, ⟨by (with_reducible repeat (first | apply Kd.R_alloc | apply Kd.R_drewN | apply Kd.R_drew)); exact HO_5.out⟩, ⟨by repeat (first | (with_reducible first | exact HB.out | apply below_alloc | apply pw_below_drewN | apply below_drew1) | exact HB.out)⟩⟩
              · rw [if_neg c19] at H
                have c19b0 : decide (x8_2 < (t220.length : Int)) = false := decide_eq_false c19
                clear c19
                replace H := Option.bind_eq_some_iff.mp H
                obtain ⟨t231, A320, H⟩ := H
                replace H : ((spec_IsLabel.f k2 t218).bind fun t232 => (if (t231 == t232) = true then ((impl_LooksLike.f k2 t218 t219).bind fun t233 => ((spec_LooksLike.f k2 t218 t219).bind fun t234 => (if (t233 == t234) = true then ((impl_LooksLike.f k2 t218 t219).bind fun t235 => ((impl_LooksLike.f k2 t219 t218).bind fun t236 => (if (t235 == t236) = true then ((impl_LooksLike.f k2 t218 t218).bind fun t237 => ((impl_IsLabel.f k2 t218).bind fun t238 => (if (t237 == t238) = true then ((impl_CompareLabels.f t218 t219).bind fun t239 => ((impl_CompareLabels.f t219 t218).bind fun t240 => (if t239 = (wrap64 (-t240)) then ((impl_PlainOf.f t218).bind fun t241 => ((impl_PlainOf.f t241).bind fun t242 => ((impl_PlainOf.f t218).bind fun t243 => (if t242.toList = t243.toList then ((impl_LabelInts.f k2 t218).bind fun t244 => ((spec_LabelInts.f k2 t218).bind fun t247 => ((laws_sameInts.f k2 t244 t247).bind fun t250 => (some t250)))) else (some false))))) else (some false)))) else (some false)))) else (some false)))) else (some false)))) else (some false))) = some r := H
                have A32 := Aside0.mk A320
                clear A320
                replace H := Option.bind_eq_some_iff.mp H
                obtain ⟨t232, A330, H⟩ := H
                replace H : (if (t231 == t232) = true then ((impl_LooksLike.f k2 t218 t219).bind fun t233 => ((spec_LooksLike.f k2 t218 t219).bind fun t234 => (if (t233 == t234) = true then ((impl_LooksLike.f k2 t218 t219).bind fun t235 => ((impl_LooksLike.f k2 t219 t218).bind fun t236 => (if (t235 == t236) = true then ((impl_LooksLike.f k2 t218 t218).bind fun t237 => ((impl_IsLabel.f k2 t218).bind fun t238 => (if (t237 == t238) = true then ((impl_CompareLabels.f t218 t219).bind fun t239 => ((impl_CompareLabels.f t219 t218).bind fun t240 => (if t239 = (wrap64 (-t240)) then ((impl_PlainOf.f t218).bind fun t241 => ((impl_PlainOf.f t241).bind fun t242 => ((impl_PlainOf.f t218).bind fun t243 => (if t242.toList = t243.toList then ((impl_LabelInts.f k2 t218).bind fun t244 => ((spec_LabelInts.f k2 t218).bind fun t247 => ((laws_sameInts.f k2 t244 t247).bind fun t250 => (some t250)))) else (some false))))) else (some false)))) else (some false)))) else (some false)))) else (some false)))) else (some false)) = some r := H
                have A33 := Aside0.mk A330
                clear A330
                by_cases c34 : (t231 == t232) = true
                · rw [if_pos c34] at H
                  have c34b0 : (t231 == t232) = true := c34
                  (try (have c34b1 : decide (t231 = t232) = true := by simpa using c34))
                  (try (have c34b2 : (t231 == t232) = true := by simpa using c34))
                  clear c34
                  replace H := Option.bind_eq_some_iff.mp H
                  obtain ⟨t233, A350, H⟩ := H
                  replace H : ((spec_LooksLike.f k2 t218 t219).bind fun t234 => (if (t233 == t234) = true then ((impl_LooksLike.f k2 t218 t219).bind fun t235 => ((impl_LooksLike.f k2 t219 t218).bind fun t236 => (if (t235 == t236) = true then ((impl_LooksLike.f k2 t218 t218).bind fun t237 => ((impl_IsLabel.f k2 t218).bind fun t238 => (if (t237 == t238) = true then ((impl_CompareLabels.f t218 t219).bind fun t239 => ((impl_CompareLabels.f t219 t218).bind fun t240 => (if t239 = (wrap64 (-t240)) then ((impl_PlainOf.f t218).bind fun t241 => ((impl_PlainOf.f t241).bind fun t242 => ((impl_PlainOf.f t218).bind fun t243 => (if t242.toList = t243.toList then ((impl_LabelInts.f k2 t218).bind fun t244 => ((spec_LabelInts.f k2 t218).bind fun t247 => ((laws_sameInts.f k2 t244 t247).bind fun t250 => (some t250)))) else (some false))))) else (some false)))) else (some false)))) else (some false)))) else (some false))) = some r := H
                  have A35 := Aside0.mk A350
                  clear A350
                  replace H := Option.bind_eq_some_iff.mp H
                  obtain ⟨t234, A360, H⟩ := H
                  replace H : (if (t233 == t234) = true then ((impl_LooksLike.f k2 t218 t219).bind fun t235 => ((impl_LooksLike.f k2 t219 t218).bind fun t236 => (if (t235 == t236) = true then ((impl_LooksLike.f k2 t218 t218).bind fun t237 => ((impl_IsLabel.f k2 t218).bind fun t238 => (if (t237 == t238) = true then ((impl_CompareLabels.f t218 t219).bind fun t239 => ((impl_CompareLabels.f t219 t218).bind fun t240 => (if t239 = (wrap64 (-t240)) then ((impl_PlainOf.f t218).bind fun t241 => ((impl_PlainOf.f t241).bind fun t242 => ((impl_PlainOf.f t218).bind fun t243 => (if t242.toList = t243.toList then ((impl_LabelInts.f k2 t218).bind fun t244 => ((spec_LabelInts.f k2 t218).bind fun t247 => ((laws_sameInts.f k2 t244 t247).bind fun t250 => (some t250)))) else (some false))))) else (some false)))) else (some false)))) else (some false)))) else (some false)) = some r := H
                  have A36 := Aside0.mk A360
                  clear A360
                  by_cases c37 : (t233 == t234) = true
                  · rw [if_pos c37] at H
                    have c37b0 : (t233 == t234) = true := c37
                    (try (have c37b1 : decide (t233 = t234) = true := by simpa using c37))
                    (try (have c37b2 : (t233 == t234) = true := by simpa using c37))
                    clear c37
                    replace H := Option.bind_eq_some_iff.mp H
                    obtain ⟨t235, A380, H⟩ := H
                    replace H : ((impl_LooksLike.f k2 t219 t218).bind fun t236 => (if (t235 == t236) = true then ((impl_LooksLike.f k2 t218 t218).bind fun t237 => ((impl_IsLabel.f k2 t218).bind fun t238 => (if (t237 == t238) = true then ((impl_CompareLabels.f t218 t219).bind fun t239 => ((impl_CompareLabels.f t219 t218).bind fun t240 => (if t239 = (wrap64 (-t240)) then ((impl_PlainOf.f t218).bind fun t241 => ((impl_PlainOf.f t241).bind fun t242 => ((impl_PlainOf.f t218).bind fun t243 => (if t242.toList = t243.toList then ((impl_LabelInts.f k2 t218).bind fun t244 => ((spec_LabelInts.f k2 t218).bind fun t247 => ((laws_sameInts.f k2 t244 t247).bind fun t250 => (some t250)))) else (some false))))) else (some false)))) else (some false)))) else (some false))) = some r := H
                    have A38 := Aside0.mk A380
                    clear A380
                    have DQt235 := Aside0.mk (Option.some.inj (A38.out.symm.trans A35.out))
                    replace H := Option.bind_eq_some_iff.mp H
                    obtain ⟨t236, A390, H⟩ := H
                    replace H : (if (t235 == t236) = true then ((impl_LooksLike.f k2 t218 t218).bind fun t237 => ((impl_IsLabel.f k2 t218).bind fun t238 => (if (t237 == t238) = true then ((impl_CompareLabels.f t218 t219).bind fun t239 => ((impl_CompareLabels.f t219 t218).bind fun t240 => (if t239 = (wrap64 (-t240)) then ((impl_PlainOf.f t218).bind fun t241 => ((impl_PlainOf.f t241).bind fun t242 => ((impl_PlainOf.f t218).bind fun t243 => (if t242.toList = t243.toList then ((impl_LabelInts.f k2 t218).bind fun t244 => ((spec_LabelInts.f k2 t218).bind fun t247 => ((laws_sameInts.f k2 t244 t247).bind fun t250 => (some t250)))) else (some false))))) else (some false)))) else (some false)))) else (some false)) = some r := H
                    have A39 := Aside0.mk A390
                    clear A390
                    by_cases c40 : (t235 == t236) = true
                    · rw [if_pos c40] at H
                      have c40b0 : (t235 == t236) = true := c40
                      (try (have c40b0qt235 : (t233 == t236) = true := by have z_ := c40b0; rw [DQt235.out] at z_; exact z_))
                      (try (have c40b1 : decide (t235 = t236) = true := by simpa using c40))
                      (try (have c40b1qt235 : decide (t233 = t236) = true := by have z_ := c40b1; rw [DQt235.out] at z_; exact z_))
                      (try (have c40b2 : (t235 == t236) = true := by simpa using c40))
                      (try (have c40b2qt235 : (t233 == t236) = true := by have z_ := c40b2; rw [DQt235.out] at z_; exact z_))
                      clear c40
                      replace H := Option.bind_eq_some_iff.mp H
                      obtain ⟨t237, A410, H⟩ := H
                      replace H : ((impl_IsLabel.f k2 t218).bind fun t238 => (if (t237 == t238) = true then ((impl_CompareLabels.f t218 t219).bind fun t239 => ((impl_CompareLabels.f t219 t218).bind fun t240 => (if t239 = (wrap64 (-t240)) then ((impl_PlainOf.f t218).bind fun t241 => ((impl_PlainOf.f t241).bind fun t242 => ((impl_PlainOf.f t218).bind fun t243 => (if t242.toList = t243.toList then ((impl_LabelInts.f k2 t218).bind fun t244 => ((spec_LabelInts.f k2 t218).bind fun t247 => ((laws_sameInts.f k2 t244 t247).bind fun t250 => (some t250)))) else (some false))))) else (some false)))) else (some false))) = some r := H
                      have A41 := Aside0.mk A410
                      clear A410
                      replace H := Option.bind_eq_some_iff.mp H
                      obtain ⟨t238, A420, H⟩ := H
                      replace H : (if (t237 == t238) = true then ((impl_CompareLabels.f t218 t219).bind fun t239 => ((impl_CompareLabels.f t219 t218).bind fun t240 => (if t239 = (wrap64 (-t240)) then ((impl_PlainOf.f t218).bind fun t241 => ((impl_PlainOf.f t241).bind fun t242 => ((impl_PlainOf.f t218).bind fun t243 => (if t242.toList = t243.toList then ((impl_LabelInts.f k2 t218).bind fun t244 => ((spec_LabelInts.f k2 t218).bind fun t247 => ((laws_sameInts.f k2 t244 t247).bind fun t250 => (some t250)))) else (some false))))) else (some false)))) else (some false)) = some r := H
                      have A42 := Aside0.mk A420
                      clear A420
                      by_cases c43 : (t237 == t238) = true
                      · rw [if_pos c43] at H
                        have c43b0 : (t237 == t238) = true := c43
                        (try (have c43b1 : decide (t237 = t238) = true := by simpa using c43))
                        (try (have c43b2 : (t237 == t238) = true := by simpa using c43))
                        clear c43
                        replace H := Option.bind_eq_some_iff.mp H
                        obtain ⟨t239, A440, H⟩ := H
                        replace H : ((impl_CompareLabels.f t219 t218).bind fun t240 => (if t239 = (wrap64 (-t240)) then ((impl_PlainOf.f t218).bind fun t241 => ((impl_PlainOf.f t241).bind fun t242 => ((impl_PlainOf.f t218).bind fun t243 => (if t242.toList = t243.toList then ((impl_LabelInts.f k2 t218).bind fun t244 => ((spec_LabelInts.f k2 t218).bind fun t247 => ((laws_sameInts.f k2 t244 t247).bind fun t250 => (some t250)))) else (some false))))) else (some false))) = some r := H
                        have A44 := Aside0.mk A440
                        clear A440
                        replace H := Option.bind_eq_some_iff.mp H
                        obtain ⟨t240, A450, H⟩ := H
                        replace H : (if t239 = (wrap64 (-t240)) then ((impl_PlainOf.f t218).bind fun t241 => ((impl_PlainOf.f t241).bind fun t242 => ((impl_PlainOf.f t218).bind fun t243 => (if t242.toList = t243.toList then ((impl_LabelInts.f k2 t218).bind fun t244 => ((spec_LabelInts.f k2 t218).bind fun t247 => ((laws_sameInts.f k2 t244 t247).bind fun t250 => (some t250)))) else (some false))))) else (some false)) = some r := H
                        have A45 := Aside0.mk A450
                        clear A450
                        by_cases c46 : t239 = (wrap64 (-t240))
                        · rw [if_pos c46] at H
                          have c46b0 : (t239 == (wrap64 (-t240))) = true := beq_iff_eq.mpr c46
                          have c46b1 : (t239 != (wrap64 (-t240))) = false := bne_eq_false_iff_eq.mpr c46
                          clear c46
                          replace H := Option.bind_eq_some_iff.mp H
                          obtain ⟨t241, A470, H⟩ := H
                          replace H : ((impl_PlainOf.f t241).bind fun t242 => ((impl_PlainOf.f t218).bind fun t243 => (if t242.toList = t243.toList then ((impl_LabelInts.f k2 t218).bind fun t244 => ((spec_LabelInts.f k2 t218).bind fun t247 => ((laws_sameInts.f k2 t244 t247).bind fun t250 => (some t250)))) else (some false)))) = some r := H
                          have A47 := Aside0.mk A470
                          clear A470
                          replace H := Option.bind_eq_some_iff.mp H
                          obtain ⟨t242, A480, H⟩ := H
                          replace H : ((impl_PlainOf.f t218).bind fun t243 => (if t242.toList = t243.toList then ((impl_LabelInts.f k2 t218).bind fun t244 => ((spec_LabelInts.f k2 t218).bind fun t247 => ((laws_sameInts.f k2 t244 t247).bind fun t250 => (some t250)))) else (some false))) = some r := H
                          have A48 := Aside0.mk A480
                          clear A480
                          replace H := Option.bind_eq_some_iff.mp H
                          obtain ⟨t243, A490, H⟩ := H
                          replace H : (if t242.toList = t243.toList then ((impl_LabelInts.f k2 t218).bind fun t244 => ((spec_LabelInts.f k2 t218).bind fun t247 => ((laws_sameInts.f k2 t244 t247).bind fun t250 => (some t250)))) else (some false)) = some r := H
                          have A49 := Aside0.mk A490
                          clear A490
                          have DQt243 := Aside0.mk (Option.some.inj (A49.out.symm.trans A47.out))
                          by_cases c50 : t242.toList = t243.toList
                          · rw [if_pos c50] at H
                            have c50b0 : (t242.toList == t243.toList) = true := beq_iff_eq.mpr c50
                            (try (have c50b0qt243 : (t242.toList == t241.toList) = true := by have z_ := c50b0; rw [DQt243.out] at z_; exact z_))
                            have c50b1 : (t242.toList != t243.toList) = false := bne_eq_false_iff_eq.mpr c50
                            (try (have c50b1qt243 : (t242.toList != t241.toList) = false := by have z_ := c50b1; rw [DQt243.out] at z_; exact z_))
                            clear c50
                            replace H := Option.bind_eq_some_iff.mp H
                            obtain ⟨t244, A510, H⟩ := H
                            replace H : ((spec_LabelInts.f k2 t218).bind fun t247 => ((laws_sameInts.f k2 t244 t247).bind fun t250 => (some t250))) = some r := H
                            have A51 := Aside0.mk A510
                            clear A510
                            replace H := Option.bind_eq_some_iff.mp H
                            obtain ⟨t247, A520, H⟩ := H
                            replace H : ((laws_sameInts.f k2 t244 t247).bind fun t250 => (some t250)) = some r := H
                            have A52 := Aside0.mk A520
                            clear A520
                            replace H := Option.bind_eq_some_iff.mp H
                            obtain ⟨t250, A530, H⟩ := H
                            replace H : (some t250) = some r := H
                            have A53 := Aside0.mk A530
                            clear A530
                            obtain rfl := Option.some.inj H
                            go_wp2_with (first | ((with_reducible refine gate_callee (f := 9) rfl ?_); refine goesL_ (some 63) rfl rfl Tryz.func9 (by kernel_rfl) rfl #[.string t218] rfl (by (try simp only [List.map_toArray, List.map_cons, List.map_nil]); first | done | rfl | (simp only [List.length_drop, List.length_take]; rfl)) ?_; (with_reducible refine (impl_IsLabel.calls k2 t218 t231 _ A32.out).mono ?_); rintro e w' ⟨rfl, ⟨nd, rfl⟩⟩; refine ⟨_, rfl, ?_⟩) | ((with_reducible refine gate_callee (f := 10) rfl ?_); refine goesL_ (some 65) rfl rfl Tryz.func10 (by kernel_rfl) rfl #[.string t218] rfl (by (try simp only [List.map_toArray, List.map_cons, List.map_nil]); first | done | rfl | (simp only [List.length_drop, List.length_take]; rfl)) ?_; (with_reducible refine (spec_IsLabel.calls k2 t218 t232 _ A33.out).mono ?_); rintro e w' ⟨rfl, ⟨nd, rfl⟩⟩; refine ⟨_, rfl, ?_⟩) | (go_at_call 8; (with_reducible refine (impl_LooksLike.calls k2 t218 t219 t233 _ A35.out).mono ?_); rintro e w54 ⟨rfl, hb⟩; have n0_ := Aside0.mk (Kd.R_below (by (with_reducible repeat (first | apply Kd.R_alloc | apply Kd.R_drewN | apply Kd.R_drew)); exact HO_5.out) hb); have n1_ := Aside0.mk (below_step (by repeat (first | (with_reducible first | exact HB.out | apply below_alloc | apply pw_below_drewN | apply below_drew1) | exact HB.out)) hb); clear HO_5; clear HB; have HO_5 := n0_; have HB := n1_; clear n0_ n1_; (try clear hb); (try clear hb2); (try clear hk); (try clear hi)) | (go_at_call 11; (with_reducible refine (spec_LooksLike.calls k2 t218 t219 t234 _ A36.out).mono ?_); rintro e w55 ⟨rfl, hb⟩; have n0_ := Aside0.mk (Kd.R_below (by (with_reducible repeat (first | apply Kd.R_alloc | apply Kd.R_drewN | apply Kd.R_drew)); exact HO_5.out) hb); have n1_ := Aside0.mk (below_step (by repeat (first | (with_reducible first | exact HB.out | apply below_alloc | apply pw_below_drewN | apply below_drew1) | exact HB.out)) hb); clear HO_5; clear HB; have HO_5 := n0_; have HB := n1_; clear n0_ n1_; (try clear hb); (try clear hb2); (try clear hk); (try clear hi)) | (go_at_call 8; (with_reducible refine (impl_LooksLike.calls k2 t218 t219 t235 _ A38.out).mono ?_); rintro e w56 ⟨rfl, hb⟩; have n0_ := Aside0.mk (Kd.R_below (by (with_reducible repeat (first | apply Kd.R_alloc | apply Kd.R_drewN | apply Kd.R_drew)); exact HO_5.out) hb); have n1_ := Aside0.mk (below_step (by repeat (first | (with_reducible first | exact HB.out | apply below_alloc | apply pw_below_drewN | apply below_drew1) | exact HB.out)) hb); clear HO_5; clear HB; have HO_5 := n0_; have HB := n1_; clear n0_ n1_; (try clear hb); (try clear hb2); (try clear hk); (try clear hi)) | (go_at_call 8; (with_reducible refine (impl_LooksLike.calls k2 t219 t218 t236 _ A39.out).mono ?_); rintro e w57 ⟨rfl, hb⟩; have n0_ := Aside0.mk (Kd.R_below (by (with_reducible repeat (first | apply Kd.R_alloc | apply Kd.R_drewN | apply Kd.R_drew)); exact HO_5.out) hb); have n1_ := Aside0.mk (below_step (by repeat (first | (with_reducible first | exact HB.out | apply below_alloc | apply pw_below_drewN | apply below_drew1) | exact HB.out)) hb); clear HO_5; clear HB; have HO_5 := n0_; have HB := n1_; clear n0_ n1_; (try clear hb); (try clear hb2); (try clear hk); (try clear hi)) | (go_at_call 8; (with_reducible refine (impl_LooksLike.calls k2 t218 t218 t237 _ A41.out).mono ?_); rintro e w58 ⟨rfl, hb⟩; have n0_ := Aside0.mk (Kd.R_below (by (with_reducible repeat (first | apply Kd.R_alloc | apply Kd.R_drewN | apply Kd.R_drew)); exact HO_5.out) hb); have n1_ := Aside0.mk (below_step (by repeat (first | (with_reducible first | exact HB.out | apply below_alloc | apply pw_below_drewN | apply below_drew1) | exact HB.out)) hb); clear HO_5; clear HB; have HO_5 := n0_; have HB := n1_; clear n0_ n1_; (try clear hb); (try clear hb2); (try clear hk); (try clear hi)) | (go_at_call 9; (with_reducible refine (impl_IsLabel.calls k2 t218 t238 _ A42.out).mono ?_); rintro e w' ⟨rfl, ⟨nd, rfl⟩⟩) | (go_at_call 12; (with_reducible refine (impl_CompareLabels.calls t218 t219 t239 _ A44.out).mono ?_); rintro e w' ⟨rfl, ⟨nd, rfl⟩⟩) | (go_at_call 12; (with_reducible refine (impl_CompareLabels.calls t219 t218 t240 _ A45.out).mono ?_); rintro e w' ⟨rfl, ⟨nd, rfl⟩⟩) | (go_at_call 13; (with_reducible refine (impl_PlainOf.calls t218 t241 _ A47.out).mono ?_); rintro e w59 ⟨rfl, hb⟩; have n0_ := Aside0.mk (Kd.R_below (by (with_reducible repeat (first | apply Kd.R_alloc | apply Kd.R_drewN | apply Kd.R_drew)); exact HO_5.out) hb); have n1_ := Aside0.mk (below_step (by repeat (first | (with_reducible first | exact HB.out | apply below_alloc | apply pw_below_drewN | apply below_drew1) | exact HB.out)) hb); clear HO_5; clear HB; have HO_5 := n0_; have HB := n1_; clear n0_ n1_; (try clear hb); (try clear hb2); (try clear hk); (try clear hi)) | (go_at_call 13; (with_reducible refine (impl_PlainOf.calls t241 t242 _ A48.out).mono ?_); rintro e w60 ⟨rfl, hb⟩; have n0_ := Aside0.mk (Kd.R_below (by (with_reducible repeat (first | apply Kd.R_alloc | apply Kd.R_drewN | apply Kd.R_drew)); exact HO_5.out) hb); have n1_ := Aside0.mk (below_step (by repeat (first | (with_reducible first | exact HB.out | apply below_alloc | apply pw_below_drewN | apply below_drew1) | exact HB.out)) hb); clear HO_5; clear HB; have HO_5 := n0_; have HB := n1_; clear n0_ n1_; (try clear hb); (try clear hb2); (try clear hk); (try clear hi)) | (go_at_call 13; (with_reducible refine (impl_PlainOf.calls t218 t243 _ A49.out).mono ?_); rintro e w61 ⟨rfl, hb⟩; have n0_ := Aside0.mk (Kd.R_below (by (with_reducible repeat (first | apply Kd.R_alloc | apply Kd.R_drewN | apply Kd.R_drew)); exact HO_5.out) hb); have n1_ := Aside0.mk (below_step (by repeat (first | (with_reducible first | exact HB.out | apply below_alloc | apply pw_below_drewN | apply below_drew1) | exact HB.out)) hb); clear HO_5; clear HB; have HO_5 := n0_; have HB := n1_; clear n0_ n1_; (try clear hb); (try clear hb2); (try clear hk); (try clear hi)) | (go_at_call 15; (with_reducible refine (impl_LabelInts.calls k2 t218 t244 _ A51.out).mono ?_); rintro e w62 ⟨v245, rfl, ho0, hb⟩; have n0_ := Aside0.mk (Kd.R_below (by (with_reducible repeat (first | apply Kd.R_alloc | apply Kd.R_drewN | apply Kd.R_drew)); exact HO_5.out) hb); have n1_ := Aside0.mk (Kd.R_lower ho0 (below_size (by repeat (first | (with_reducible first | exact HB.out | apply below_alloc | apply pw_below_drewN | apply below_drew1) | exact HB.out)))); have n2_ := Aside0.mk (below_step (by repeat (first | (with_reducible first | exact HB.out | apply below_alloc | apply pw_below_drewN | apply below_drew1) | exact HB.out)) hb); clear HO_5; clear HB; have HO_5 := n0_; have HO246 := n1_; have HB := n2_; clear n0_ n1_ n2_; (try clear hb); (try clear hb2); (try clear hk); (try clear hi); (try clear ho0)) | (go_at_call 16; (with_reducible refine (spec_LabelInts.calls k2 t218 t247 _ A52.out).mono ?_); rintro e w63 ⟨v248, rfl, ho0, hb⟩; have n0_ := Aside0.mk (Kd.R_below (by (with_reducible repeat (first | apply Kd.R_alloc | apply Kd.R_drewN | apply Kd.R_drew)); exact HO_5.out) hb); have n1_ := Aside0.mk (Kd.R_elder' (by (with_reducible repeat (first | apply Kd.R_alloc | apply Kd.R_drewN | apply Kd.R_drew)); exact HO246.out) (Kd.R_base ho0) hb); have n2_ := Aside0.mk (Kd.R_lower (Kd.R_new' ho0 (Kd.R_lt (by (with_reducible repeat (first | apply Kd.R_alloc | apply Kd.R_drewN | apply Kd.R_drew)); exact HO246.out))) (below_size (by repeat (first | (with_reducible first | exact HB.out | apply below_alloc | apply pw_below_drewN | apply below_drew1) | exact HB.out)))); have n3_ := Aside0.mk (below_step (by repeat (first | (with_reducible first | exact HB.out | apply below_alloc | apply pw_below_drewN | apply below_drew1) | exact HB.out)) hb); clear HO_5; clear HO246; clear HB; have HO_5 := n0_; have HO246 := n1_; have HO249 := n2_; have HB := n3_; clear n0_ n1_ n2_ n3_; (try clear hb); (try clear hb2); (try clear hk); (try clear hi); (try clear ho0); obtain ⟨Ao64, co64, eo64⟩ := Kd.R_slice HO246.out; subst eo64; obtain ⟨Ao65, co65, eo65⟩ := Kd.R_slice HO249.out; subst eo65) | (go_at_call 14; (with_reducible refine (laws_sameInts.calls k2 _ _ t244 _ _ t247 t250 _ ?side1 ?side2 ?side3 ?side4 A53.out).mono ?_); (case side1 => repeat (first | exact (Kd.R_reads' HO246.out).2.2 | (with_reducible refine Kd.C_alloc ?_ _) | (with_reducible refine Kd.C_drewN ?_ _) | (with_reducible refine Kd.C_drew ?_))); (case side2 => exact (Kd.R_reads' HO246.out).2.1); (case side3 => repeat (first | exact (Kd.R_reads' HO249.out).2.2 | (with_reducible refine Kd.C_alloc ?_ _) | (with_reducible refine Kd.C_drewN ?_ _) | (with_reducible refine Kd.C_drew ?_))); (case side4 => exact (Kd.R_reads' HO249.out).2.1); rintro e w' ⟨rfl, ⟨nd, rfl⟩⟩))
                            go_ret
                            exact ⟨by first | rfl | (simp [errW_none, errW_some] <;> rfl) | (simp [*, errW_none, errW_some] <;> rfl), by repeat (first | (with_reducible first | exact HB.out | apply below_alloc | apply pw_below_drewN | apply below_drew1) | exact HB.out)⟩
                          · rw [if_neg c50] at H
                            have c50b0 : (t242.toList == t243.toList) = false := beq_eq_false_iff_ne.mpr c50
                            (try (have c50b0qt243 : (t242.toList == t241.toList) = false := by have z_ := c50b0; rw [DQt243.out] at z_; exact z_))
                            have c50b1 : (t242.toList != t243.toList) = true := bne_iff_ne.mpr c50
                            (try (have c50b1qt243 : (t242.toList != t241.toList) = true := by have z_ := c50b1; rw [DQt243.out] at z_; exact z_))
                            obtain rfl := Option.some.inj H
                            go_wp2_with (first | ((with_reducible refine gate_callee (f := 9) rfl ?_); refine goesL_ (some 63) rfl rfl Tryz.func9 (by kernel_rfl) rfl #[.string t218] rfl (by (try simp only [List.map_toArray, List.map_cons, List.map_nil]); first | done | rfl | (simp only [List.length_drop, List.length_take]; rfl)) ?_; (with_reducible refine (impl_IsLabel.calls k2 t218 t231 _ A32.out).mono ?_); rintro e w' ⟨rfl, ⟨nd, rfl⟩⟩; refine ⟨_, rfl, ?_⟩) | ((with_reducible refine gate_callee (f := 10) rfl ?_); refine goesL_ (some 65) rfl rfl Tryz.func10 (by kernel_rfl) rfl #[.string t218] rfl (by (try simp only [List.map_toArray, List.map_cons, List.map_nil]); first | done | rfl | (simp only [List.length_drop, List.length_take]; rfl)) ?_; (with_reducible refine (spec_IsLabel.calls k2 t218 t232 _ A33.out).mono ?_); rintro e w' ⟨rfl, ⟨nd, rfl⟩⟩; refine ⟨_, rfl, ?_⟩) | (go_at_call 8; (with_reducible refine (impl_LooksLike.calls k2 t218 t219 t233 _ A35.out).mono ?_); rintro e w66 ⟨rfl, hb⟩; have n0_ := Aside0.mk (Kd.R_below (by (with_reducible repeat (first | apply Kd.R_alloc | apply Kd.R_drewN | apply Kd.R_drew)); exact HO_5.out) hb); have n1_ := Aside0.mk (below_step (by repeat (first | (with_reducible first | exact HB.out | apply below_alloc | apply pw_below_drewN | apply below_drew1) | exact HB.out)) hb); clear HO_5; clear HB; have HO_5 := n0_; have HB := n1_; clear n0_ n1_; (try clear hb); (try clear hb2); (try clear hk); (try clear hi)) | (go_at_call 11; (with_reducible refine (spec_LooksLike.calls k2 t218 t219 t234 _ A36.out).mono ?_); rintro e w67 ⟨rfl, hb⟩; have n0_ := Aside0.mk (Kd.R_below (by (with_reducible repeat (first | apply Kd.R_alloc | apply Kd.R_drewN | apply Kd.R_drew)); exact HO_5.out) hb); have n1_ := Aside0.mk (below_step (by repeat (first | (with_reducible first | exact HB.out | apply below_alloc | apply pw_below_drewN | apply below_drew1) | exact HB.out)) hb); clear HO_5; clear HB; have HO_5 := n0_; have HB := n1_; clear n0_ n1_; (try clear hb); (try clear hb2); (try clear hk); (try clear hi)) | (go_at_call 8; (with_reducible refine (impl_LooksLike.calls k2 t218 t219 t235 _ A38.out).mono ?_); rintro e w68 ⟨rfl, hb⟩; have n0_ := Aside0.mk (Kd.R_below (by (with_reducible repeat (first | apply Kd.R_alloc | apply Kd.R_drewN | apply Kd.R_drew)); exact HO_5.out) hb); have n1_ := Aside0.mk (below_step (by repeat (first | (with_reducible first | exact HB.out | apply below_alloc | apply pw_below_drewN | apply below_drew1) | exact HB.out)) hb); clear HO_5; clear HB; have HO_5 := n0_; have HB := n1_; clear n0_ n1_; (try clear hb); (try clear hb2); (try clear hk); (try clear hi)) | (go_at_call 8; (with_reducible refine (impl_LooksLike.calls k2 t219 t218 t236 _ A39.out).mono ?_); rintro e w69 ⟨rfl, hb⟩; have n0_ := Aside0.mk (Kd.R_below (by (with_reducible repeat (first | apply Kd.R_alloc | apply Kd.R_drewN | apply Kd.R_drew)); exact HO_5.out) hb); have n1_ := Aside0.mk (below_step (by repeat (first | (with_reducible first | exact HB.out | apply below_alloc | apply pw_below_drewN | apply below_drew1) | exact HB.out)) hb); clear HO_5; clear HB; have HO_5 := n0_; have HB := n1_; clear n0_ n1_; (try clear hb); (try clear hb2); (try clear hk); (try clear hi)) | (go_at_call 8; (with_reducible refine (impl_LooksLike.calls k2 t218 t218 t237 _ A41.out).mono ?_); rintro e w70 ⟨rfl, hb⟩; have n0_ := Aside0.mk (Kd.R_below (by (with_reducible repeat (first | apply Kd.R_alloc | apply Kd.R_drewN | apply Kd.R_drew)); exact HO_5.out) hb); have n1_ := Aside0.mk (below_step (by repeat (first | (with_reducible first | exact HB.out | apply below_alloc | apply pw_below_drewN | apply below_drew1) | exact HB.out)) hb); clear HO_5; clear HB; have HO_5 := n0_; have HB := n1_; clear n0_ n1_; (try clear hb); (try clear hb2); (try clear hk); (try clear hi)) | (go_at_call 9; (with_reducible refine (impl_IsLabel.calls k2 t218 t238 _ A42.out).mono ?_); rintro e w' ⟨rfl, ⟨nd, rfl⟩⟩) | (go_at_call 12; (with_reducible refine (impl_CompareLabels.calls t218 t219 t239 _ A44.out).mono ?_); rintro e w' ⟨rfl, ⟨nd, rfl⟩⟩) | (go_at_call 12; (with_reducible refine (impl_CompareLabels.calls t219 t218 t240 _ A45.out).mono ?_); rintro e w' ⟨rfl, ⟨nd, rfl⟩⟩) | (go_at_call 13; (with_reducible refine (impl_PlainOf.calls t218 t241 _ A47.out).mono ?_); rintro e w71 ⟨rfl, hb⟩; have n0_ := Aside0.mk (Kd.R_below (by (with_reducible repeat (first | apply Kd.R_alloc | apply Kd.R_drewN | apply Kd.R_drew)); exact HO_5.out) hb); have n1_ := Aside0.mk (below_step (by repeat (first | (with_reducible first | exact HB.out | apply below_alloc | apply pw_below_drewN | apply below_drew1) | exact HB.out)) hb); clear HO_5; clear HB; have HO_5 := n0_; have HB := n1_; clear n0_ n1_; (try clear hb); (try clear hb2); (try clear hk); (try clear hi)) | (go_at_call 13; (with_reducible refine (impl_PlainOf.calls t241 t242 _ A48.out).mono ?_); rintro e w72 ⟨rfl, hb⟩; have n0_ := Aside0.mk (Kd.R_below (by (with_reducible repeat (first | apply Kd.R_alloc | apply Kd.R_drewN | apply Kd.R_drew)); exact HO_5.out) hb); have n1_ := Aside0.mk (below_step (by repeat (first | (with_reducible first | exact HB.out | apply below_alloc | apply pw_below_drewN | apply below_drew1) | exact HB.out)) hb); clear HO_5; clear HB; have HO_5 := n0_; have HB := n1_; clear n0_ n1_; (try clear hb); (try clear hb2); (try clear hk); (try clear hi)) | (go_at_call 13; (with_reducible refine (impl_PlainOf.calls t218 t243 _ A49.out).mono ?_); rintro e w73 ⟨rfl, hb⟩; have n0_ := Aside0.mk (Kd.R_below (by (with_reducible repeat (first | apply Kd.R_alloc | apply Kd.R_drewN | apply Kd.R_drew)); exact HO_5.out) hb); have n1_ := Aside0.mk (below_step (by repeat (first | (with_reducible first | exact HB.out | apply below_alloc | apply pw_below_drewN | apply below_drew1) | exact HB.out)) hb); clear HO_5; clear HB; have HO_5 := n0_; have HB := n1_; clear n0_ n1_; (try clear hb); (try clear hb2); (try clear hk); (try clear hi)))
                            go_ret
                            exact ⟨by first | rfl | (simp [errW_none, errW_some] <;> rfl) | (simp [*, errW_none, errW_some] <;> rfl), by repeat (first | (with_reducible first | exact HB.out | apply below_alloc | apply pw_below_drewN | apply below_drew1) | exact HB.out)⟩
                        · rw [if_neg c46] at H
                          have c46b0 : (t239 == (wrap64 (-t240))) = false := beq_eq_false_iff_ne.mpr c46
                          have c46b1 : (t239 != (wrap64 (-t240))) = true := bne_iff_ne.mpr c46
                          obtain rfl := Option.some.inj H
                          go_wp2_with (first | ((with_reducible refine gate_callee (f := 9) rfl ?_); refine goesL_ (some 63) rfl rfl Tryz.func9 (by kernel_rfl) rfl #[.string t218] rfl (by (try simp only [List.map_toArray, List.map_cons, List.map_nil]); first | done | rfl | (simp only [List.length_drop, List.length_take]; rfl)) ?_; (with_reducible refine (impl_IsLabel.calls k2 t218 t231 _ A32.out).mono ?_); rintro e w' ⟨rfl, ⟨nd, rfl⟩⟩; refine ⟨_, rfl, ?_⟩) | ((with_reducible refine gate_callee (f := 10) rfl ?_); refine goesL_ (some 65) rfl rfl Tryz.func10 (by kernel_rfl) rfl #[.string t218] rfl (by (try simp only [List.map_toArray, List.map_cons, List.map_nil]); first | done | rfl | (simp only [List.length_drop, List.length_take]; rfl)) ?_; (with_reducible refine (spec_IsLabel.calls k2 t218 t232 _ A33.out).mono ?_); rintro e w' ⟨rfl, ⟨nd, rfl⟩⟩; refine ⟨_, rfl, ?_⟩) | (go_at_call 8; (with_reducible refine (impl_LooksLike.calls k2 t218 t219 t233 _ A35.out).mono ?_); rintro e w74 ⟨rfl, hb⟩; have n0_ := Aside0.mk (Kd.R_below (by (with_reducible repeat (first | apply Kd.R_alloc | apply Kd.R_drewN | apply Kd.R_drew)); exact HO_5.out) hb); have n1_ := Aside0.mk (below_step (by repeat (first | (with_reducible first | exact HB.out | apply below_alloc | apply pw_below_drewN | apply below_drew1) | exact HB.out)) hb); clear HO_5; clear HB; have HO_5 := n0_; have HB := n1_; clear n0_ n1_; (try clear hb); (try clear hb2); (try clear hk); (try clear hi)) | (go_at_call 11; (with_reducible refine (spec_LooksLike.calls k2 t218 t219 t234 _ A36.out).mono ?_); rintro e w75 ⟨rfl, hb⟩; have n0_ := Aside0.mk (Kd.R_below (by (with_reducible repeat (first | apply Kd.R_alloc | apply Kd.R_drewN | apply Kd.R_drew)); exact HO_5.out) hb); have n1_ := Aside0.mk (below_step (by repeat (first | (with_reducible first | exact HB.out | apply below_alloc | apply pw_below_drewN | apply below_drew1) | exact HB.out)) hb); clear HO_5; clear HB; have HO_5 := n0_; have HB := n1_; clear n0_ n1_; (try clear hb); (try clear hb2); (try clear hk); (try clear hi)) | (go_at_call 8; (with_reducible refine (impl_LooksLike.calls k2 t218 t219 t235 _ A38.out).mono ?_); rintro e w76 ⟨rfl, hb⟩; have n0_ := Aside0.mk (Kd.R_below (by (with_reducible repeat (first | apply Kd.R_alloc | apply Kd.R_drewN | apply Kd.R_drew)); exact HO_5.out) hb); have n1_ := Aside0.mk (below_step (by repeat (first | (with_reducible first | exact HB.out | apply below_alloc | apply pw_below_drewN | apply below_drew1) | exact HB.out)) hb); clear HO_5; clear HB; have HO_5 := n0_; have HB := n1_; clear n0_ n1_; (try clear hb); (try clear hb2); (try clear hk); (try clear hi)) | (go_at_call 8; (with_reducible refine (impl_LooksLike.calls k2 t219 t218 t236 _ A39.out).mono ?_); rintro e w77 ⟨rfl, hb⟩; have n0_ := Aside0.mk (Kd.R_below (by (with_reducible repeat (first | apply Kd.R_alloc | apply Kd.R_drewN | apply Kd.R_drew)); exact HO_5.out) hb); have n1_ := Aside0.mk (below_step (by repeat (first | (with_reducible first | exact HB.out | apply below_alloc | apply pw_below_drewN | apply below_drew1) | exact HB.out)) hb); clear HO_5; clear HB; have HO_5 := n0_; have HB := n1_; clear n0_ n1_; (try clear hb); (try clear hb2); (try clear hk); (try clear hi)) | (go_at_call 8; (with_reducible refine (impl_LooksLike.calls k2 t218 t218 t237 _ A41.out).mono ?_); rintro e w78 ⟨rfl, hb⟩; have n0_ := Aside0.mk (Kd.R_below (by (with_reducible repeat (first | apply Kd.R_alloc | apply Kd.R_drewN | apply Kd.R_drew)); exact HO_5.out) hb); have n1_ := Aside0.mk (below_step (by repeat (first | (with_reducible first | exact HB.out | apply below_alloc | apply pw_below_drewN | apply below_drew1) | exact HB.out)) hb); clear HO_5; clear HB; have HO_5 := n0_; have HB := n1_; clear n0_ n1_; (try clear hb); (try clear hb2); (try clear hk); (try clear hi)) | (go_at_call 9; (with_reducible refine (impl_IsLabel.calls k2 t218 t238 _ A42.out).mono ?_); rintro e w' ⟨rfl, ⟨nd, rfl⟩⟩) | (go_at_call 12; (with_reducible refine (impl_CompareLabels.calls t218 t219 t239 _ A44.out).mono ?_); rintro e w' ⟨rfl, ⟨nd, rfl⟩⟩) | (go_at_call 12; (with_reducible refine (impl_CompareLabels.calls t219 t218 t240 _ A45.out).mono ?_); rintro e w' ⟨rfl, ⟨nd, rfl⟩⟩))
                          go_ret
                          exact ⟨by first | rfl | (simp [errW_none, errW_some] <;> rfl) | (simp [*, errW_none, errW_some] <;> rfl), by repeat (first | (with_reducible first | exact HB.out | apply below_alloc | apply pw_below_drewN | apply below_drew1) | exact HB.out)⟩
                      · rw [if_neg c43] at H
                        have c43b0 : (t237 == t238) = false := by simpa using c43
                        (try (have c43b1 : decide (t237 = t238) = false := by simpa using c43))
                        (try (have c43b2 : (t237 == t238) = false := by simpa using c43))
                        (try (have c43b3 : ¬ (t237 = t238) := by simpa using c43))
                        clear c43
                        obtain rfl := Option.some.inj H
                        go_wp2_with (first | ((with_reducible refine gate_callee (f := 9) rfl ?_); refine goesL_ (some 63) rfl rfl Tryz.func9 (by kernel_rfl) rfl #[.string t218] rfl (by (try simp only [List.map_toArray, List.map_cons, List.map_nil]); first | done | rfl | (simp only [List.length_drop, List.length_take]; rfl)) ?_; (with_reducible refine (impl_IsLabel.calls k2 t218 t231 _ A32.out).mono ?_); rintro e w' ⟨rfl, ⟨nd, rfl⟩⟩; refine ⟨_, rfl, ?_⟩) | ((with_reducible refine gate_callee (f := 10) rfl ?_); refine goesL_ (some 65) rfl rfl Tryz.func10 (by kernel_rfl) rfl #[.string t218] rfl (by (try simp only [List.map_toArray, List.map_cons, List.map_nil]); first | done | rfl | (simp only [List.length_drop, List.length_take]; rfl)) ?_; (with_reducible refine (spec_IsLabel.calls k2 t218 t232 _ A33.out).mono ?_); rintro e w' ⟨rfl, ⟨nd, rfl⟩⟩; refine ⟨_, rfl, ?_⟩) | (go_at_call 8; (with_reducible refine (impl_LooksLike.calls k2 t218 t219 t233 _ A35.out).mono ?_); rintro e w79 ⟨rfl, hb⟩; have n0_ := Aside0.mk (Kd.R_below (by (with_reducible repeat (first | apply Kd.R_alloc | apply Kd.R_drewN | apply Kd.R_drew)); exact HO_5.out) hb); have n1_ := Aside0.mk (below_step (by repeat (first | (with_reducible first | exact HB.out | apply below_alloc | apply pw_below_drewN | apply below_drew1) | exact HB.out)) hb); clear HO_5; clear HB; have HO_5 := n0_; have HB := n1_; clear n0_ n1_; (try clear hb); (try clear hb2); (try clear hk); (try clear hi)) | (go_at_call 11; (with_reducible refine (spec_LooksLike.calls k2 t218 t219 t234 _ A36.out).mono ?_); rintro e w80 ⟨rfl, hb⟩; have n0_ := Aside0.mk (Kd.R_below (by (with_reducible repeat (first | apply Kd.R_alloc | apply Kd.R_drewN | apply Kd.R_drew)); exact HO_5.out) hb); have n1_ := Aside0.mk (below_step (by repeat (first | (with_reducible first | exact HB.out | apply below_alloc | apply pw_below_drewN | apply below_drew1) | exact HB.out)) hb); clear HO_5; clear HB; have HO_5 := n0_; have HB := n1_; clear n0_ n1_; (try clear hb); (try clear hb2); (try clear hk); (try clear hi)) | (go_at_call 8; (with_reducible refine (impl_LooksLike.calls k2 t218 t219 t235 _ A38.out).mono ?_); rintro e w81 ⟨rfl, hb⟩; have n0_ := Aside0.mk (Kd.R_below (by (with_reducible repeat (first | apply Kd.R_alloc | apply Kd.R_drewN | apply Kd.R_drew)); exact HO_5.out) hb); have n1_ := Aside0.mk (below_step (by repeat (first | (with_reducible first | exact HB.out | apply below_alloc | apply pw_below_drewN | apply below_drew1) | exact HB.out)) hb); clear HO_5; clear HB; have HO_5 := n0_; have HB := n1_; clear n0_ n1_; (try clear hb); (try clear hb2); (try clear hk); (try clear hi)) | (go_at_call 8; (with_reducible refine (impl_LooksLike.calls k2 t219 t218 t236 _ A39.out).mono ?_); rintro e w82 ⟨rfl, hb⟩; have n0_ := Aside0.mk (Kd.R_below (by (with_reducible repeat (first | apply Kd.R_alloc | apply Kd.R_drewN | apply Kd.R_drew)); exact HO_5.out) hb); have n1_ := Aside0.mk (below_step (by repeat (first | (with_reducible first | exact HB.out | apply below_alloc | apply pw_below_drewN | apply below_drew1) | exact HB.out)) hb); clear HO_5; clear HB; have HO_5 := n0_; have HB := n1_; clear n0_ n1_; (try clear hb); (try clear hb2); (try clear hk); (try clear hi)) | (go_at_call 8; (with_reducible refine (impl_LooksLike.calls k2 t218 t218 t237 _ A41.out).mono ?_); rintro e w83 ⟨rfl, hb⟩; have n0_ := Aside0.mk (Kd.R_below (by (with_reducible repeat (first | apply Kd.R_alloc | apply Kd.R_drewN | apply Kd.R_drew)); exact HO_5.out) hb); have n1_ := Aside0.mk (below_step (by repeat (first | (with_reducible first | exact HB.out | apply below_alloc | apply pw_below_drewN | apply below_drew1) | exact HB.out)) hb); clear HO_5; clear HB; have HO_5 := n0_; have HB := n1_; clear n0_ n1_; (try clear hb); (try clear hb2); (try clear hk); (try clear hi)) | (go_at_call 9; (with_reducible refine (impl_IsLabel.calls k2 t218 t238 _ A42.out).mono ?_); rintro e w' ⟨rfl, ⟨nd, rfl⟩⟩))
                        go_ret
                        exact ⟨by first | rfl | (simp [errW_none, errW_some] <;> rfl) | (simp [*, errW_none, errW_some] <;> rfl), by repeat (first | (with_reducible first | exact HB.out | apply below_alloc | apply pw_below_drewN | apply below_drew1) | exact HB.out)⟩
                    · rw [if_neg c40] at H
                      have c40b0 : (t235 == t236) = false := by simpa using c40
                      (try (have c40b0qt235 : (t233 == t236) = false := by have z_ := c40b0; rw [DQt235.out] at z_; exact z_))
                      (try (have c40b1 : decide (t235 = t236) = false := by simpa using c40))
                      (try (have c40b1qt235 : decide (t233 = t236) = false := by have z_ := c40b1; rw [DQt235.out] at z_; exact z_))
                      (try (have c40b2 : (t235 == t236) = false := by simpa using c40))
                      (try (have c40b2qt235 : (t233 == t236) = false := by have z_ := c40b2; rw [DQt235.out] at z_; exact z_))
                      (try (have c40b3 : ¬ (t235 = t236) := by simpa using c40))
                      (try (have c40b3qt235 : ¬ (t233 = t236) := by have z_ := c40b3; rw [DQt235.out] at z_; exact z_))
                      clear c40
                      obtain rfl := Option.some.inj H
                      go_wp2_with (first | ((with_reducible refine gate_callee (f := 9) rfl ?_); refine goesL_ (some 63) rfl rfl Tryz.func9 (by kernel_rfl) rfl #[.string t218] rfl (by (try simp only [List.map_toArray, List.map_cons, List.map_nil]); first | done | rfl | (simp only [List.length_drop, List.length_take]; rfl)) ?_; (with_reducible refine (impl_IsLabel.calls k2 t218 t231 _ A32.out).mono ?_); rintro e w' ⟨rfl, ⟨nd, rfl⟩⟩; refine ⟨_, rfl, ?_⟩) | ((with_reducible refine gate_callee (f := 10) rfl ?_); refine goesL_ (some 65) rfl rfl Tryz.func10 (by kernel_rfl) rfl #[.string t218] rfl (by (try simp only [List.map_toArray, List.map_cons, List.map_nil]); first | done | rfl | (simp only [List.length_drop, List.length_take]; rfl)) ?_; (with_reducible refine (spec_IsLabel.calls k2 t218 t232 _ A33.out).mono ?_); rintro e w' ⟨rfl, ⟨nd, rfl⟩⟩; refine ⟨_, rfl, ?_⟩) | (go_at_call 8; (with_reducible refine (impl_LooksLike.calls k2 t218 t219 t233 _ A35.out).mono ?_); rintro e w84 ⟨rfl, hb⟩; have n0_ := Aside0.mk (Kd.R_below (by (with_reducible repeat (first | apply Kd.R_alloc | apply Kd.R_drewN | apply Kd.R_drew)); exact HO_5.out) hb); have n1_ := Aside0.mk (below_step (by repeat (first | (with_reducible first | exact HB.out | apply below_alloc | apply pw_below_drewN | apply below_drew1) | exact HB.out)) hb); clear HO_5; clear HB; have HO_5 := n0_; have HB := n1_; clear n0_ n1_; (try clear hb); (try clear hb2); (try clear hk); (try clear hi)) | (go_at_call 11; (with_reducible refine (spec_LooksLike.calls k2 t218 t219 t234 _ A36.out).mono ?_); rintro e w85 ⟨rfl, hb⟩; have n0_ := Aside0.mk (Kd.R_below (by (with_reducible repeat (first | apply Kd.R_alloc | apply Kd.R_drewN | apply Kd.R_drew)); exact HO_5.out) hb); have n1_ := Aside0.mk (below_step (by repeat (first | (with_reducible first | exact HB.out | apply below_alloc | apply pw_below_drewN | apply below_drew1) | exact HB.out)) hb); clear HO_5; clear HB; have HO_5 := n0_; have HB := n1_; clear n0_ n1_; (try clear hb); (try clear hb2); (try clear hk); (try clear hi)) | (go_at_call 8; (with_reducible refine (impl_LooksLike.calls k2 t218 t219 t235 _ A38.out).mono ?_); rintro e w86 ⟨rfl, hb⟩; have n0_ := Aside0.mk (Kd.R_below (by (with_reducible repeat (first | apply Kd.R_alloc | apply Kd.R_drewN | apply Kd.R_drew)); exact HO_5.out) hb); have n1_ := Aside0.mk (below_step (by repeat (first | (with_reducible first | exact HB.out | apply below_alloc | apply pw_below_drewN | apply below_drew1) | exact HB.out)) hb); clear HO_5; clear HB; have HO_5 := n0_; have HB := n1_; clear n0_ n1_; (try clear hb); (try clear hb2); (try clear hk); (try clear hi)) | (go_at_call 8; (with_reducible refine (impl_LooksLike.calls k2 t219 t218 t236 _ A39.out).mono ?_); rintro e w87 ⟨rfl, hb⟩; have n0_ := Aside0.mk (Kd.R_below (by (with_reducible repeat (first | apply Kd.R_alloc | apply Kd.R_drewN | apply Kd.R_drew)); exact HO_5.out) hb); have n1_ := Aside0.mk (below_step (by repeat (first | (with_reducible first | exact HB.out | apply below_alloc | apply pw_below_drewN | apply below_drew1) | exact HB.out)) hb); clear HO_5; clear HB; have HO_5 := n0_; have HB := n1_; clear n0_ n1_; (try clear hb); (try clear hb2); (try clear hk); (try clear hi)))
                      go_ret
                      exact ⟨by first | rfl | (simp [errW_none, errW_some] <;> rfl) | (simp [*, errW_none, errW_some] <;> rfl), by repeat (first | (with_reducible first | exact HB.out | apply below_alloc | apply pw_below_drewN | apply below_drew1) | exact HB.out)⟩
                  · rw [if_neg c37] at H
                    have c37b0 : (t233 == t234) = false := by simpa using c37
                    (try (have c37b1 : decide (t233 = t234) = false := by simpa using c37))
                    (try (have c37b2 : (t233 == t234) = false := by simpa using c37))
                    (try (have c37b3 : ¬ (t233 = t234) := by simpa using c37))
                    clear c37
                    obtain rfl := Option.some.inj H
                    go_wp2_with (first | ((with_reducible refine gate_callee (f := 9) rfl ?_); refine goesL_ (some 63) rfl rfl Tryz.func9 (by kernel_rfl) rfl #[.string t218] rfl (by (try simp only [List.map_toArray, List.map_cons, List.map_nil]); first | done | rfl | (simp only [List.length_drop, List.length_take]; rfl)) ?_; (with_reducible refine (impl_IsLabel.calls k2 t218 t231 _ A32.out).mono ?_); rintro e w' ⟨rfl, ⟨nd, rfl⟩⟩; refine ⟨_, rfl, ?_⟩) | ((with_reducible refine gate_callee (f := 10) rfl ?_); refine goesL_ (some 65) rfl rfl Tryz.func10 (by kernel_rfl) rfl #[.string t218] rfl (by (try simp only [List.map_toArray, List.map_cons, List.map_nil]); first | done | rfl | (simp only [List.length_drop, List.length_take]; rfl)) ?_; (with_reducible refine (spec_IsLabel.calls k2 t218 t232 _ A33.out).mono ?_); rintro e w' ⟨rfl, ⟨nd, rfl⟩⟩; refine ⟨_, rfl, ?_⟩) | (go_at_call 8; (with_reducible refine (impl_LooksLike.calls k2 t218 t219 t233 _ A35.out).mono ?_); rintro e w88 ⟨rfl, hb⟩; have n0_ := Aside0.mk (Kd.R_below (by (with_reducible repeat (first | apply Kd.R_alloc | apply Kd.R_drewN | apply Kd.R_drew)); exact HO_5.out) hb); have n1_ := Aside0.mk (below_step (by repeat (first | (with_reducible first | exact HB.out | apply below_alloc | apply pw_below_drewN | apply below_drew1) | exact HB.out)) hb); clear HO_5; clear HB; have HO_5 := n0_; have HB := n1_; clear n0_ n1_; (try clear hb); (try clear hb2); (try clear hk); (try clear hi)) | (go_at_call 11; (with_reducible refine (spec_LooksLike.calls k2 t218 t219 t234 _ A36.out).mono ?_); rintro e w89 ⟨rfl, hb⟩; have n0_ := Aside0.mk (Kd.R_below (by (with_reducible repeat (first | apply Kd.R_alloc | apply Kd.R_drewN | apply Kd.R_drew)); exact HO_5.out) hb); have n1_ := Aside0.mk (below_step (by repeat (first | (with_reducible first | exact HB.out | apply below_alloc | apply pw_below_drewN | apply below_drew1) | exact HB.out)) hb); clear HO_5; clear HB; have HO_5 := n0_; have HB := n1_; clear n0_ n1_; (try clear hb); (try clear hb2); (try clear hk); (try clear hi)))
                    go_ret
                    exact ⟨by first | rfl | (simp [errW_none, errW_some] <;> rfl) | (simp [*, errW_none, errW_some] <;> rfl), by repeat (first | (with_reducible first | exact HB.out | apply below_alloc | apply pw_below_drewN | apply below_drew1) | exact HB.out)⟩
                · rw [if_neg c34] at H
                  have c34b0 : (t231 == t232) = false := by simpa using c34
                  (try (have c34b1 : decide (t231 = t232) = false := by simpa using c34))
                  (try (have c34b2 : (t231 == t232) = false := by simpa using c34))
                  (try (have c34b3 : ¬ (t231 = t232) := by simpa using c34))
                  clear c34
                  obtain rfl := Option.some.inj H
                  go_wp2_with (first | ((with_reducible refine gate_callee (f := 9) rfl ?_); refine goesL_ (some 63) rfl rfl Tryz.func9 (by kernel_rfl) rfl #[.string t218] rfl (by (try simp only [List.map_toArray, List.map_cons, List.map_nil]); first | done | rfl | (simp only [List.length_drop, List.length_take]; rfl)) ?_; (with_reducible refine (impl_IsLabel.calls k2 t218 t231 _ A32.out).mono ?_); rintro e w' ⟨rfl, ⟨nd, rfl⟩⟩; refine ⟨_, rfl, ?_⟩) | ((with_reducible refine gate_callee (f := 10) rfl ?_); refine goesL_ (some 65) rfl rfl Tryz.func10 (by kernel_rfl) rfl #[.string t218] rfl (by (try simp only [List.map_toArray, List.map_cons, List.map_nil]); first | done | rfl | (simp only [List.length_drop, List.length_take]; rfl)) ?_; (with_reducible refine (spec_IsLabel.calls k2 t218 t232 _ A33.out).mono ?_); rintro e w' ⟨rfl, ⟨nd, rfl⟩⟩; refine ⟨_, rfl, ?_⟩))
                  go_ret
                  exact ⟨by first | rfl | (simp [errW_none, errW_some] <;> rfl) | (simp [*, errW_none, errW_some] <;> rfl), by repeat (first | (with_reducible first | exact HB.out | apply below_alloc | apply pw_below_drewN | apply below_drew1) | exact HB.out)⟩

/-- THE ONE PURE STATEMENT of laws_FnLabels: yours. -/
def laws_FnLabels.Pure : Prop := ∀ (l0 : List Int), l0.length ≤ maxLen → l0.length * 1 ≤ 140737488351232 → (∀ x ∈ l0, (Lit.int .u8 x).wf = true) → ∃ k, laws_FnLabels.f k l0 = some true
theorem laws_FnLabels.walk (P : laws_FnLabels.Pure) (a0 : Option Addr) (len0 cap0 : Nat) (z0 : List Int) (w : World) (w0 : (a0 = none ∧ len0 = 0 ∧ cap0 = 0 ∧ z0 = []) ∨ ∃ x, a0 = some x ∧ len0 ≤ cap0 ∧ cap0 ≤ maxLen ∧ z0.length = cap0 ∧ (∀ i, i < z0.length → w.cell? (x.add i) = some (.int .u8 (z0.getD i 0))) ∧ ∀ n ∈ z0, (Lit.int .u8 n).wf = true) (y0 : len0 * 1 ≤ 140737488351232) :
    Calls Tryz.prog 3 #[.slice a0 len0 cap0] w fun e w' => e = .returned (.bool true) ∧ Below w.heap.size w w' := by
  obtain ⟨l0, rfl, hr0, hm0, hw0, hc0⟩ := ReadsInt.ofRowC w0
  obtain ⟨k, h⟩ := P l0 hm0 y0 hw0
  refine (laws_FnLabels.calls k _ _ l0 true w (Kd.C_of_reads (d := (0 : Int)) (h1 := fun _ => rfl) hr0) hc0 h).mono ?_
  rintro e w' ⟨rfl, hd⟩
  exact ⟨rfl, hd⟩

end Go.Proofs.YtnkgglihlmileaaGreat.PFnLabels
