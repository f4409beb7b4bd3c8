/- The pure statement of FnExactSamePath: what the printed functions compute answers true for all arguments within the printed bounds. -/
import Derived.Test.YtingkifphhjjeaaPFnExactSamePathx2
import Derived.Test.YtingkifphhjjeaaKit
namespace Go.Proofs.Ytingkifphhjjeaa.Pure
open Go.RowKit Go.Proofs.Ytingkifphhjjeaa.PFnExactSamePath Go.Proofs.YtingkifphhjjeaaW.PrintWords Go.Proofs.YtingkifphhjjeaaW.PrintLast Go.Proofs.Ytingkifphhjjeaa.Kit
set_option linter.unusedVariables false
set_option linter.unusedSimpArgs false
namespace OfFnExactSamePath
theorem szStr_l (x : List ByteArray) (hx : x.length ≤ 9223372036854775806) (hs : ∀ s ∈ x, s.size ≤ maxLen) : ∀ (d i : Nat) (a : Int), i + d = x.length → 0 ≤ a → a ≤ 9000000000000000 →
    ∃ r, Ev (fun k => laws_szStringS.l0 k x a (i : Int)) r ∧ -1 ≤ r ∧ r ≤ a ∧ (0 ≤ r → ∀ s ∈ x.drop i, (s.size : Int) ≤ a) := by
  intro d
  induction d with
  | zero =>
    intro i a hi h0 h1
    refine ⟨a, ev_step ?_, by omega, by omega, fun _ => by rw [List.drop_of_length_le (by omega)]; simp⟩
    simp only [laws_szStringS.l0]
    exact ev_neg (by omega) (ev_const rfl)
  | succ d ih =>
    intro i a hi h0 h1
    have hlt : i < x.length := by omega
    have hz := hs x[i] (List.getElem_mem hlt)
    unfold maxLen at hz
    by_cases hn : a - (x[i].size : Int) < 0
    · refine ⟨-1, ev_step ?_, by omega, by omega, fun z => by omega⟩
      simp only [laws_szStringS.l0]
      rw [rdOf_at _ x i hlt, w64 (i := a - (x[i].size : Int)) (by omega) (by omega)]
      exact ev_pos (by omega) (ev_pos (by omega) (ev_pos hn (ev_const rfl)))
    · obtain ⟨r, e, r0, r1, r2⟩ := ih (i + 1) (a - (x[i].size : Int)) (by omega) (by omega) (by omega)
      refine ⟨r, ev_step ?_, r0, by omega, fun z => ?_⟩
      · simp only [laws_szStringS.l0]
        rw [rdOf_at _ x i hlt, w64 (i := a - (x[i].size : Int)) (by omega) (by omega), w64s (n := x.length) hlt (by omega)]
        exact ev_pos (by omega) (ev_pos (by omega) (ev_neg hn e))
      · rw [List.drop_eq_getElem_cons hlt]
        intro s hs2
        rcases List.mem_cons.1 hs2 with rfl | hs2
        · omega
        · have := r2 z s hs2
          omega
theorem szStr_ok (x : List ByteArray) (a : Int) (hl : x.length ≤ maxLen) (hs : ∀ s ∈ x, s.size ≤ maxLen) (h0 : 0 ≤ a) (h1 : a ≤ 9000000000000000) :
    ∃ r, Ev (fun k => laws_szStringS.f k x a) r ∧ -1 ≤ r ∧ r ≤ a ∧ (0 ≤ r → (x.length : Int) ≤ a ∧ ∀ s ∈ x, (s.size : Int) ≤ a) := by
  unfold maxLen at hl
  unfold laws_szStringS.f
  rw [w64 (i := a - (x.length : Int)) (by omega) (by omega)]
  by_cases hn : a - (x.length : Int) < 0
  · exact ⟨-1, ev_pos hn (ev_const rfl), by omega, by omega, fun z => by omega⟩
  · obtain ⟨r, e, r0, r1, r2⟩ := szStr_l x (by omega) hs x.length 0 (a - (x.length : Int)) (by omega) (by omega) (by omega)
    refine ⟨r, ev_neg hn e, r0, by omega, fun z => ⟨by omega, fun s hs2 => ?_⟩⟩
    have := r2 z s (by simpa using hs2)
    omega

theorem toStr_ev (x : List ByteArray) (hx : x.length ≤ 17592186044416) : Ev (fun k => laws_toStringS.f k x) x := by
  unfold laws_toStringS.f
  refine ev_pos (by omega) (ev_pos (by omega) ?_)
  exact copy_loop (L := laws_toStringS.l0) (rdf := rdOf ByteArray.empty) (fun _ _ _ _ => rfl) (rdOf_at ByteArray.empty) x (by omega) x.length 0 _ (by omega) (by simp) (by simp)

theorem str_eq (a b : ByteArray) : a.toList = b.toList ↔ a = b := ⟨fun h => Go.WideShapes.bytes_inj (by rw [← ByteArray.toList_eq, ← ByteArray.toList_eq]; exact h), fun h => by rw [h]⟩
theorem str_at (x y : List ByteArray) (i : Nat) (h : i < x.length) (h' : i < y.length) : (rdOf ByteArray.empty x (i : Int)).toList = (rdOf ByteArray.empty y (i : Int)).toList ↔ x[i] = y[i] := by
  rw [rdOf_at _ x i h, rdOf_at _ y i h', str_eq]

theorem eqStr_ev (x y : List ByteArray) (hx : x.length ≤ 9223372036854775806) (b : Bool) (hb : b = true ↔ x = y) : Ev (fun k => laws_eqStringS.f k x y) b := by
  unfold laws_eqStringS.f
  refine ev_dec (fun h => ?_) (fun h => ?_)
  · exact eq_loop (L := laws_eqStringS.l0) (c := fun x y i => (rdOf ByteArray.empty x i).toList = (rdOf ByteArray.empty y i).toList) (fun _ _ _ _ => rfl) str_at x y hx (by omega) b x.length 0 (by omega) (by simpa using hb)
  · have e : b = false := by
      rw [Bool.eq_false_iff]
      intro z
      exact h (by rw [hb.mp z])
    subst e
    exact ev_const rfl
theorem eqStr_refl (x : List ByteArray) (hx : x.length ≤ 9223372036854775806) : Ev (fun k => laws_eqStringS.f k x x) true := eqStr_ev x x hx true (by simp)

theorem SamePath_sev (x y : List ByteArray) (hx : x.length ≤ 9223372036854775806) (b : Bool) (hb : b = true ↔ x = y) : Ev (fun k => spec_SamePath.f k x y) b := by
  unfold spec_SamePath.f
  refine ev_dec (fun h => ?_) (fun h => ?_)
  · exact eq_loop (L := spec_SamePath.l0) (c := fun x y i => (rdOf ByteArray.empty x i).toList = (rdOf ByteArray.empty y i).toList) (fun _ _ _ _ => rfl) str_at x y hx (by omega) b x.length 0 (by omega) (by simpa using hb)
  · have e : b = false := by
      rw [Bool.eq_false_iff]
      intro z
      exact h (by rw [hb.mp z])
    subst e
    exact ev_const rfl
theorem SamePath_iev (x y : List ByteArray) (hx : x.length ≤ 9223372036854775806) (b : Bool) (hb : b = true ↔ x = y) : Ev (fun k => impl_SamePath.f k x y) b := by
  unfold impl_SamePath.f slices_Equal_string_string.f
  refine ev_bind ?_ (ev_const rfl)
  refine ev_dec (fun h => ?_) (fun h => ?_)
  · exact eq_loop_n (L := slices_Equal_string_string.l0) (c := fun x y i => (rdOf ByteArray.empty x i).toList = (rdOf ByteArray.empty y i).toList) (fun _ _ _ _ _ => rfl) str_at x y hx (by omega) b x.length 0 (by omega) (by simpa using hb)
  · have e : b = false := by
      rw [Bool.eq_false_iff]
      intro z
      exact h (by rw [hb.mp z])
    subst e
    exact ev_const rfl
end OfFnExactSamePath
open OfFnExactSamePath in
theorem FnExactSamePath : laws_FnExactSamePath.Pure := by
  intro x y hx hsx hy hsy
  apply Ev.rounds
  unfold laws_FnExactSamePath.f
  obtain ⟨r, e, r0, r1, r2⟩ := szStr_ok x 1048576 hx hsx (by omega) (by omega)
  refine ev_bind e (ev_dec (fun _ => ev_const rfl) (fun h0 => ?_))
  obtain ⟨q, f, q0, q1, q2⟩ := szStr_ok y r hy hsy (by omega) (by omega)
  refine ev_bind f (ev_dec (fun _ => ev_const rfl) (fun h1 => ?_))
  have hxl := (r2 (by omega)).1
  have hyl := (q2 (by omega)).1
  have e0 := toStr_ev x (by omega)
  have e1 := toStr_ev y (by omega)
  have q0 := eqStr_refl x (by omega)
  have q1 := eqStr_refl y (by omega)
  have s := SamePath_sev x y (by omega) (decide (x = y)) (by simp)
  have g := SamePath_iev x y (by omega) (decide (x = y)) (by simp)
  refine ev_bind e0 (ev_bind e1 (ev_bind s (ev_bind e0 (ev_bind e1 (ev_bind g (ev_neg (by simp) ?_))))))
  exact ev_bind e0 (ev_bind q0 (ev_pos rfl (ev_bind e1 (ev_bind q1 (ev_pos rfl (ev_const rfl))))))
end Go.Proofs.Ytingkifphhjjeaa.Pure
