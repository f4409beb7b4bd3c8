/- The pure statement of FnExactKeysInts: what the printed functions compute answers true for all arguments within the printed bounds. -/
import Derived.Test.YtaebboanblfmjaaPFnExactKeysIntsx2
import Derived.Test.YtaebboanblfmjaaKit
namespace Go.Proofs.Ytaebboanblfmjaa.Pure
open Go.RowKit Go.Proofs.Ytaebboanblfmjaa.PFnExactKeysInts Go.Proofs.YtaebboanblfmjaaW.PrintWords Go.Proofs.YtaebboanblfmjaaW.PrintLast Go.Proofs.Ytaebboanblfmjaa.Kit
set_option linter.unusedVariables false
set_option linter.unusedSimpArgs false
namespace OfFnExactKeysInts
theorem szInt_v (l : List Int) (a : Int) (hl : l.length ≤ maxLen) (h0 : 0 ≤ a) (h1 : a ≤ 1048576) : laws_szIntS.f l a = some (if a < (l.length : Int) then -1 else a - (l.length : Int)) := by
  unfold maxLen at hl
  unfold laws_szIntS.f
  rw [w64 (i := a - (l.length : Int)) (by omega) (by omega)]
  by_cases h : a < (l.length : Int)
  · rw [if_pos h, if_pos (by omega)]
  · rw [if_neg h, if_neg (by omega)]
theorem szKeys_v (l : List Int) (n a : Int) (hl : l.length ≤ maxLen) (h0 : 0 ≤ a) (h1 : a ≤ 1048576) : laws_szKeys.f l n a = some (if a < (l.length : Int) then -1 else a - (l.length : Int)) := by
  unfold laws_szKeys.f
  rw [szInt_v l a hl h0 h1, Option.bind_some]
  by_cases h : a < (l.length : Int)
  · rw [if_pos h, if_pos (by omega)]
  · rw [if_neg h, if_neg (by omega)]

theorem toIntS_ev (x : List Int) (hx : x.length ≤ 35184372088832) : Ev (fun k => laws_toIntS.f k x) x := by
  unfold laws_toIntS.f
  refine ev_pos (by omega) (ev_pos (by omega) ?_)
  exact copy_loop (L := laws_toIntS.l0) (rdf := rd) (fun _ _ _ _ => rfl) rd_at x (by omega) x.length 0 _ (by omega) (by simp) (by simp)

theorem toKeys_ev (l : List Int) (n : Int) (hx : l.length ≤ 35184372088832) : Ev (fun k => laws_toKeys.f k l n) (l, n) := by
  unfold laws_toKeys.f
  exact ev_bind (toIntS_ev l hx) (ev_const rfl)

theorem eqIntS_ev (x y : List Int) (hx : x.length ≤ 9223372036854775806) (b : Bool) (hb : b = true ↔ x = y) : Ev (fun k => laws_eqIntS.f k x y) b := by
  unfold laws_eqIntS.f
  refine ev_dec (fun h => ?_) (fun h => ?_)
  · exact eq_loop (L := laws_eqIntS.l0) (c := fun x y i => rd x i = rd y i) (fun _ _ _ _ => rfl) (fun x y i h h' => by rw [rd_at x i h, rd_at y i h']) x y hx (by omega) b x.length 0 (by omega) (by simpa using hb)
  · have e : b = false := by
      rw [Bool.eq_false_iff]
      intro z
      exact h (by rw [hb.mp z])
    subst e
    exact ev_const rfl
theorem eqIntS_refl (x : List Int) (hx : x.length ≤ 9223372036854775806) : Ev (fun k => laws_eqIntS.f k x x) true := eqIntS_ev x x hx true (by simp)

theorem eqKeys_refl (l : List Int) (n : Int) (hl : l.length ≤ 9223372036854775806) : Ev (fun k => laws_eqKeys.f k l n l n) true := by
  unfold laws_eqKeys.f
  exact ev_bind (eqIntS_refl l hl) (ev_pos rfl (ev_pos rfl (ev_const rfl)))

theorem markIntS_ev (x : List Int) (hx : x.length ≤ 1000000000000000) (m : Int) (h0 : 0 ≤ m) (h1 : m ≤ 1000000000000000) : Ev (fun k => laws_markIntS.f k x m) (m + (x.length : Int), mk (fun m => m) m x.length) := by
  unfold laws_markIntS.f
  have h := mark_loop (L := laws_markIntS.l0) (f := fun m => m) (fun _ _ _ _ => rfl) x.length m (by omega) (by omega) (by omega) x.length 0 x (by omega) rfl (by simp [mk])
  simpa using h

theorem markKeys_ev (l : List Int) (n : Int) (hx : l.length ≤ 1000000000000000) (m : Int) (h0 : 0 ≤ m) (h1 : m ≤ 1000000000000000) : Ev (fun k => laws_markKeys.f k l n m) (m + (l.length : Int), mk (fun m => m) m l.length) := by
  unfold laws_markKeys.f
  exact ev_bind (markIntS_ev l hx m h0 h1) (ev_const rfl)

theorem sKeysInts_v (l : List Int) (n : Int) (hl : l.length ≤ 1000000000000) : spec_KeysInts.f l n = some (n :: (l.length : Int) :: l) := by
  unfold spec_KeysInts.f
  rw [Option.bind_some, if_pos (by simp; omega)]
  rfl
theorem iKeysInts_v (l : List Int) (n : Int) (hl : l.length ≤ 1000000000000) : impl_KeysInts.f l n = some (n :: (l.length : Int) :: l) := by
  unfold impl_KeysInts.f
  rw [Option.bind_some, if_pos (by simp; omega)]
  rfl

theorem heldIntS_ev (n : Nat) (hx : n ≤ 1000000000000000) (m : Int) (h0 : 0 ≤ m) (h1 : m ≤ 1000000000000000) : Ev (fun k => laws_heldIntS.f k (mk (fun m => m) m n) m) (m + (n : Int)) := by
  unfold laws_heldIntS.f
  have h := held_loop (L := laws_heldIntS.l0) (f := fun m => m) (c := fun x i m => rd x i = m) (fun _ _ _ _ => rfl) n m (by omega) (by omega) (by omega) (fun i hi => by rw [rd_at _ i (by rw [mk_length]; exact hi), mk_get]) n 0 (by omega)
  simpa using h
end OfFnExactKeysInts
open OfFnExactKeysInts in
theorem FnExactKeysInts : laws_FnExactKeysInts.Pure := by
  intro l n hl _ _
  apply Ev.rounds
  unfold laws_FnExactKeysInts.f
  refine ev_bindc (szKeys_v l n 1048576 hl (by omega) (by omega)) (ev_dec (fun _ => ev_const rfl) (fun h0 => ?_))
  have hb : l.length ≤ 1048576 := by split at h0 <;> omega
  have e := toKeys_ev l n (by omega)
  have s := sKeysInts_v l n (by omega)
  have g := iKeysInts_v l n (by omega)
  have hr : (n :: (l.length : Int) :: l).length ≤ 1048578 := by simp; omega
  generalize n :: (l.length : Int) :: l = r at s g hr
  have q := eqKeys_refl l n (by omega)
  have qr := eqIntS_refl r (by omega)
  have m := markKeys_ev l n (by omega) 1 (by omega) (by omega)
  have mr := markIntS_ev r (by omega) 1 (by omega) (by omega)
  have hh := heldIntS_ev r.length (by omega) 1 (by omega) (by omega)
  repeat' first
    | exact ev_const rfl
    | refine ev_bind e ?_
    | refine ev_bindc s ?_
    | refine ev_bindc g ?_
    | refine ev_bind q ?_
    | refine ev_bind qr ?_
    | refine ev_bind m ?_
    | refine ev_bind mr ?_
    | refine ev_bind hh ?_
    | refine ev_pos rfl ?_
    | refine ev_neg (by first | omega | (simp; done) | (simp; omega)) ?_
    | (refine ev_step ?_; simp only [laws_FnExactKeysInts.j0]; refine ev_neg (by simp) ?_)
end Go.Proofs.Ytaebboanblfmjaa.Pure
