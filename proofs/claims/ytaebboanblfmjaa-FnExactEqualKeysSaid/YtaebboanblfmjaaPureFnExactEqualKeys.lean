/- The pure statement of FnExactEqualKeys: what the printed functions compute answers true for all arguments within the printed bounds. -/
import Derived.Test.YtaebboanblfmjaaPFnExactEqualKeysx2
import Derived.Test.YtaebboanblfmjaaKit
namespace Go.Proofs.Ytaebboanblfmjaa.Pure
open Go.RowKit Go.Proofs.Ytaebboanblfmjaa.PFnExactEqualKeys Go.Proofs.YtaebboanblfmjaaW.PrintWords Go.Proofs.YtaebboanblfmjaaW.PrintLast Go.Proofs.Ytaebboanblfmjaa.Kit
set_option linter.unusedVariables false
set_option linter.unusedSimpArgs false
namespace OfFnExactEqualKeys
theorem szInt_v (l : List Int) (a : Int) (hl : l.length ≤ maxLen) (h0 : 0 ≤ a) (h1 : a ≤ 1048576) : laws_szIntS.f l a = some (if a < (l.length : Int) then -1 else a - (l.length : Int)) := by
  unfold maxLen at hl
  unfold laws_szIntS.f
  rw [w64 (i := a - (l.length : Int)) (by omega) (by omega)]
  by_cases h : a < (l.length : Int)
  · rw [if_pos h, if_pos (by omega)]
  · rw [if_neg h, if_neg (by omega)]
theorem szKeys_v (l : List Int) (n a : Int) (hl : l.length ≤ maxLen) (h0 : 0 ≤ a) (h1 : a ≤ 1048576) : laws_szKeys.f l n a = some (if a < (l.length : Int) then -1 else a - (l.length : Int)) := by
  unfold laws_szKeys.f
  rw [szInt_v l a hl h0 h1, Option.bind_some]
  by_cases h : a < (l.length : Int)
  · rw [if_pos h, if_pos (by omega)]
  · rw [if_neg h, if_neg (by omega)]

theorem toIntS_ev (x : List Int) (hx : x.length ≤ 35184372088832) : Ev (fun k => laws_toIntS.f k x) x := by
  unfold laws_toIntS.f
  refine ev_pos (by omega) (ev_pos (by omega) ?_)
  exact copy_loop (L := laws_toIntS.l0) (rdf := rd) (fun _ _ _ _ => rfl) rd_at x (by omega) x.length 0 _ (by omega) (by simp) (by simp)

theorem toKeys_ev (l : List Int) (n : Int) (hx : l.length ≤ 35184372088832) : Ev (fun k => laws_toKeys.f k l n) (l, n) := by
  unfold laws_toKeys.f
  exact ev_bind (toIntS_ev l hx) (ev_const rfl)

theorem eqIntS_ev (x y : List Int) (hx : x.length ≤ 9223372036854775806) (b : Bool) (hb : b = true ↔ x = y) : Ev (fun k => laws_eqIntS.f k x y) b := by
  unfold laws_eqIntS.f
  refine ev_dec (fun h => ?_) (fun h => ?_)
  · exact eq_loop (L := laws_eqIntS.l0) (c := fun x y i => rd x i = rd y i) (fun _ _ _ _ => rfl) (fun x y i h h' => by rw [rd_at x i h, rd_at y i h']) x y hx (by omega) b x.length 0 (by omega) (by simpa using hb)
  · have e : b = false := by
      rw [Bool.eq_false_iff]
      intro z
      exact h (by rw [hb.mp z])
    subst e
    exact ev_const rfl
theorem eqIntS_refl (x : List Int) (hx : x.length ≤ 9223372036854775806) : Ev (fun k => laws_eqIntS.f k x x) true := eqIntS_ev x x hx true (by simp)

theorem eqKeys_refl (l : List Int) (n : Int) (hl : l.length ≤ 9223372036854775806) : Ev (fun k => laws_eqKeys.f k l n l n) true := by
  unfold laws_eqKeys.f
  exact ev_bind (eqIntS_refl l hl) (ev_pos rfl (ev_pos rfl (ev_const rfl)))

theorem EqualInts_ev (x y : List Int) (hx : x.length ≤ 9223372036854775806) (b : Bool) (hb : b = true ↔ x = y) : Ev (fun k => spec_EqualInts.f k x y) b := by
  unfold spec_EqualInts.f
  refine ev_dec (fun h => ?_) (fun h => ?_)
  · exact eq_loop (L := spec_EqualInts.l0) (c := fun x y i => rd x i = rd y i) (fun _ _ _ _ => rfl) (fun x y i h h' => by rw [rd_at x i h, rd_at y i h']) x y hx (by omega) b x.length 0 (by omega) (by simpa using hb)
  · have e : b = false := by
      rw [Bool.eq_false_iff]
      intro z
      exact h (by rw [hb.mp z])
    subst e
    exact ev_const rfl
theorem EqualInts_refl (x : List Int) (hx : x.length ≤ 9223372036854775806) : Ev (fun k => spec_EqualInts.f k x x) true := EqualInts_ev x x hx true (by simp)

theorem slEqual_ev (x y : List Int) (hx : x.length ≤ 9223372036854775806) (b : Bool) (hb : b = true ↔ x = y) : Ev (fun k => slices_Equal_int_int.f k x y) b := by
  unfold slices_Equal_int_int.f
  refine ev_dec (fun h => ?_) (fun h => ?_)
  · exact eq_loop_n (L := slices_Equal_int_int.l0) (c := fun x y i => rd x i = rd y i) (fun _ _ _ _ _ => rfl) (fun x y i h h' => by rw [rd_at x i h, rd_at y i h']) x y hx (by omega) b x.length 0 (by omega) (by simpa using hb)
  · have e : b = false := by
      rw [Bool.eq_false_iff]
      intro z
      exact h (by rw [hb.mp z])
    subst e
    exact ev_const rfl
end OfFnExactEqualKeys
open OfFnExactEqualKeys in
theorem FnExactEqualKeys : laws_FnExactEqualKeys.Pure := by
  intro l n m p hl _ _ hm _ _
  apply Ev.rounds
  unfold laws_FnExactEqualKeys.f
  refine ev_bindc (szKeys_v l n 1048576 hl (by omega) (by omega)) (ev_dec (fun _ => ev_const rfl) (fun h0 => ?_))
  have hb : l.length ≤ 1048576 := by split at h0 <;> omega
  refine ev_bindc (szKeys_v m p _ hm (by split at h0 <;> split <;> omega) (by split <;> omega)) (ev_dec (fun _ => ev_const rfl) (fun h1 => ?_))
  have hc : m.length ≤ 1048576 := by
    rw [if_neg (by omega)] at h1
    split at h1 <;> omega
  have e0 := toKeys_ev l n (by omega)
  have e1 := toKeys_ev m p (by omega)
  have q0 := eqKeys_refl l n (by omega)
  have q1 := eqKeys_refl m p (by omega)
  have s : Ev (fun k => spec_EqualKeys.f k l n m p) (decide (l = m ∧ n = p)) := by
    unfold spec_EqualKeys.f
    by_cases h : n = p
    · refine ev_pos h (ev_bind (EqualInts_ev l m (by omega) (decide (l = m)) (by simp)) (ev_const ?_))
      simp [h]
    · exact ev_neg h (ev_const (by simp [h]))
  have g : Ev (fun k => impl_EqualKeys.f k l n m p) (decide (l = m ∧ n = p)) := by
    unfold impl_EqualKeys.f
    refine ev_bind (slEqual_ev l m (by omega) (decide (l = m)) (by simp)) ?_
    by_cases h : l = m
    · refine ev_pos (by simp [h]) (ev_const ?_)
      simp [h]
      rw [Bool.eq_iff_iff]
      simp
    · exact ev_neg (by simp [h]) (ev_const (by simp [h]))
  repeat' first
    | exact ev_const rfl
    | refine ev_bind e0 ?_
    | refine ev_bind e1 ?_
    | refine ev_bind s ?_
    | refine ev_bind g ?_
    | refine ev_bind q0 ?_
    | refine ev_bind q1 ?_
    | refine ev_pos rfl ?_
    | refine ev_neg (by first | omega | (simp; done) | (simp; omega)) ?_
    | refine ev_pos (by first | omega | (simp; done) | (simp; omega)) ?_
end Go.Proofs.Ytaebboanblfmjaa.Pure
