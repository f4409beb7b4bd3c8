/- The pure statement of FnExactOneKey: what the printed functions compute answers true for all arguments within the printed bounds. -/
import Derived.Test.YtaebboanblfmjaaPFnExactOneKeyx1
import Derived.Test.YtaebboanblfmjaaKit
namespace Go.Proofs.Ytaebboanblfmjaa.Pure
open Go.RowKit Go.Proofs.Ytaebboanblfmjaa.PFnExactOneKey Go.Proofs.YtaebboanblfmjaaW.PrintWords Go.Proofs.YtaebboanblfmjaaW.PrintLast Go.Proofs.Ytaebboanblfmjaa.Kit
set_option linter.unusedVariables false
set_option linter.unusedSimpArgs false
namespace OfFnExactOneKey
theorem eqIntS_ev (x y : List Int) (hx : x.length ≤ 9223372036854775806) (b : Bool) (hb : b = true ↔ x = y) : Ev (fun k => laws_eqIntS.f k x y) b := by
  unfold laws_eqIntS.f
  refine ev_dec (fun h => ?_) (fun h => ?_)
  · exact eq_loop (L := laws_eqIntS.l0) (c := fun x y i => rd x i = rd y i) (fun _ _ _ _ => rfl) (fun x y i h h' => by rw [rd_at x i h, rd_at y i h']) x y hx (by omega) b x.length 0 (by omega) (by simpa using hb)
  · have e : b = false := by
      rw [Bool.eq_false_iff]
      intro z
      exact h (by rw [hb.mp z])
    subst e
    exact ev_const rfl
theorem eqIntS_refl (x : List Int) (hx : x.length ≤ 9223372036854775806) : Ev (fun k => laws_eqIntS.f k x x) true := eqIntS_ev x x hx true (by simp)

theorem markIntS_ev (x : List Int) (hx : x.length ≤ 1000000000000000) (m : Int) (h0 : 0 ≤ m) (h1 : m ≤ 1000000000000000) : Ev (fun k => laws_markIntS.f k x m) (m + (x.length : Int), mk (fun m => m) m x.length) := by
  unfold laws_markIntS.f
  have h := mark_loop (L := laws_markIntS.l0) (f := fun m => m) (fun _ _ _ _ => rfl) x.length m (by omega) (by omega) (by omega) x.length 0 x (by omega) rfl (by simp [mk])
  simpa using h

theorem heldIntS_ev (n : Nat) (hx : n ≤ 1000000000000000) (m : Int) (h0 : 0 ≤ m) (h1 : m ≤ 1000000000000000) : Ev (fun k => laws_heldIntS.f k (mk (fun m => m) m n) m) (m + (n : Int)) := by
  unfold laws_heldIntS.f
  have h := held_loop (L := laws_heldIntS.l0) (f := fun m => m) (c := fun x i m => rd x i = m) (fun _ _ _ _ => rfl) n m (by omega) (by omega) (by omega) (fun i hi => by rw [rd_at _ i (by rw [mk_length]; exact hi), mk_get]) n 0 (by omega)
  simpa using h

theorem eqKeys_ev (l m : List Int) (n p : Int) (hl : l.length ≤ 9223372036854775806) (b : Bool) (hb : b = true ↔ l = m ∧ n = p) : Ev (fun k => laws_eqKeys.f k l n m p) b := by
  unfold laws_eqKeys.f
  by_cases h : l = m
  · refine ev_bind (eqIntS_ev l m hl true (by simp [h])) (ev_pos rfl (ev_dec (fun h2 => ?_) (fun h2 => ?_)))
    · rw [hb.mpr ⟨h, h2⟩]; exact ev_const rfl
    · have e : b = false := by
        rw [Bool.eq_false_iff]
        exact fun z => h2 (hb.mp z).2
      rw [e]; exact ev_const rfl
  · have e : b = false := by
      rw [Bool.eq_false_iff]
      exact fun z => h (hb.mp z).1
    rw [e]
    exact ev_bind (eqIntS_ev l m hl false (by simp [h])) (ev_neg (by simp) (ev_const rfl))
theorem eqKeys_refl (l : List Int) (n : Int) (hl : l.length ≤ 9223372036854775806) : Ev (fun k => laws_eqKeys.f k l n l n) true := eqKeys_ev l l n n hl true (by simp)
theorem markKeys_ev (l : List Int) (n : Int) (hx : l.length ≤ 1000000000000000) (m : Int) (h0 : 0 ≤ m) (h1 : m ≤ 1000000000000000) : Ev (fun k => laws_markKeys.f k l n m) (m + (l.length : Int), mk (fun m => m) m l.length) := by
  unfold laws_markKeys.f
  exact ev_bind (markIntS_ev l hx m h0 h1) (ev_const rfl)
theorem heldKeys_ev (n : Nat) (p : Int) (hx : n ≤ 1000000000000000) (m : Int) (h0 : 0 ≤ m) (h1 : m ≤ 1000000000000000) : Ev (fun k => laws_heldKeys.f k (mk (fun m => m) m n) p m) (m + (n : Int)) := by
  unfold laws_heldKeys.f
  exact ev_bind (heldIntS_ev n hx m h0 h1) (ev_neg (by omega) (ev_const rfl))
end OfFnExactOneKey
open OfFnExactOneKey in
theorem FnExactOneKey : laws_FnExactOneKey.Pure := by
  intro a _
  apply Ev.rounds
  unfold laws_FnExactOneKey.f
  have s : spec_OneKey.f a = some ([a], 1) := rfl
  have g : impl_OneKey.f a = some ([a], 1) := rfl
  have q := eqKeys_refl [a] 1 (by simp)
  have m := markKeys_ev [a] 1 (by simp) 1 (by omega) (by omega)
  have hh := heldKeys_ev [a].length 1 (by simp) 1 (by omega) (by omega)
  refine ev_bindc s (ev_bindc g ?_)
  repeat' first
    | exact ev_const rfl
    | refine ev_bindc g ?_
    | refine ev_bind q ?_
    | refine ev_bind m ?_
    | refine ev_bind hh ?_
    | refine ev_pos rfl ?_
    | refine ev_neg (by first | omega | (simp; done) | (simp; omega)) ?_
end Go.Proofs.Ytaebboanblfmjaa.Pure
