/- The pure statement of FnExactPlainOf: what the printed functions compute answers true for all arguments within the printed bounds. -/
import Derived.Test.YtnkgglihlmileaaPFnExactPlainOfx3
import Derived.Test.YtnkgglihlmileaaKit
namespace Go.Proofs.Ytnkgglihlmileaa.Pure
open Go.RowKit Go.Proofs.Ytnkgglihlmileaa.PFnExactPlainOf Go.Proofs.YtnkgglihlmileaaW.PrintWords Go.Proofs.YtnkgglihlmileaaW.PrintLast Go.Proofs.Ytnkgglihlmileaa.Kit
set_option linter.unusedVariables false
set_option linter.unusedSimpArgs false
namespace OfFnExactPlainOf
theorem PL_byte (s : ByteArray) (i : Nat) (h : i < s.size) : bt s (i : Int) = ((s.data.toList[i]'(by rw [data_length]; exact h)).toNat : Int) := by
  rw [← rd_bytesOf, rd_at _ i (by rw [bytesOf_length]; exact h)]
  simp [bytesOf]
theorem PL_nums (l : List UInt8) : strOfNums (l.map fun x => (x.toNat : Int)) = ⟨l.toArray⟩ := by
  unfold strOfNums
  congr 1
  congr 1
  rw [List.map_map]
  conv => rhs; rw [← List.map_id l]
  apply List.map_congr_left
  intro x _
  simp
theorem PL_one (c : UInt8) : (impl_PlainOf.outC c).map (fun x => (x.toNat : Int)) = if (c.toNat : Int) = 48 then [111] else if (c.toNat : Int) = 49 then [108] else if (c.toNat : Int) = 53 then [115] else if (c.toNat : Int) = 45 then [] else [(c.toNat : Int)] := by
  have g : ∀ n : UInt8, (c.toNat : Int) = (n.toNat : Int) ↔ c = n := fun n => by rw [Int.ofNat_inj]; exact UInt8.toNat_inj
  have g45 : (c.toNat : Int) = 45 ↔ c = 45 := g 45
  have g53 : (c.toNat : Int) = 53 ↔ c = 53 := g 53
  have g49 : (c.toNat : Int) = 49 ↔ c = 49 := g 49
  have g48 : (c.toNat : Int) = 48 ↔ c = 48 := g 48
  unfold impl_PlainOf.outC
  by_cases e45 : c = 45
  · subst e45; rfl
  · by_cases e53 : c = 53
    · subst e53; rfl
    · by_cases e49 : c = 49
      · subst e49; rfl
      · by_cases e48 : c = 48
        · subst e48; rfl
        · rw [if_neg e45, if_neg e53, if_neg e49, if_neg e48, if_neg (fun z => e48 (g48.1 z)), if_neg (fun z => e49 (g49.1 z)), if_neg (fun z => e53 (g53.1 z)), if_neg (fun z => e45 (g45.1 z))]
          rfl
theorem PL_sl (s : ByteArray) (hs : s.size ≤ 100000000000000) : ∀ (d i : Nat) (out : List Int), i + d = s.size → out.length ≤ i →
    Ev (fun k => spec_PlainOf.l0 k s out (i : Int)) (strOfNums (out ++ (impl_PlainOf.plain (s.data.toList.drop i)).map (fun x => (x.toNat : Int)))) := by
  intro d
  induction d with
  | zero =>
    intro i out hi _
    refine ev_step ?_
    simp only [spec_PlainOf.l0]
    rw [List.drop_of_length_le (by rw [data_length]; omega)]
    refine ev_neg (by omega) (ev_const ?_)
    simp [impl_PlainOf.plain]
  | succ d ih =>
    intro i out hi ho
    have hlt : i < s.size := by omega
    have hl : i < s.data.toList.length := by rw [data_length]; exact hlt
    have hd : impl_PlainOf.plain (s.data.toList.drop i) = impl_PlainOf.outC s.data.toList[i] ++ impl_PlainOf.plain (s.data.toList.drop (i + 1)) := by
      rw [List.drop_eq_getElem_cons hl]
      simp [impl_PlainOf.plain]
    refine ev_step ?_
    simp only [spec_PlainOf.l0]
    rw [PL_byte s i hlt, w64s (n := s.size) hlt (by omega), hd, List.map_append, PL_one, ← List.append_assoc]
    generalize (s.data.toList[i].toNat : Int) = c
    refine ev_pos (by omega) (ev_pos (by omega) ?_)
    refine ev_dec (fun h => ?_) (fun h => ?_)
    · rw [if_pos h]
      exact ev_pos (by omega) (ih (i + 1) _ (by omega) (by simp; omega))
    · rw [if_neg h]
      refine ev_dec (fun h => ?_) (fun h => ?_)
      · rw [if_pos h]
        exact ev_pos (by omega) (ih (i + 1) _ (by omega) (by simp; omega))
      · rw [if_neg h]
        refine ev_dec (fun h => ?_) (fun h => ?_)
        · rw [if_pos h]
          exact ev_pos (by omega) (ih (i + 1) _ (by omega) (by simp; omega))
        · rw [if_neg h]
          refine ev_dec (fun h => ?_) (fun h => ?_)
          · rw [if_pos h, List.append_nil]
            exact ih (i + 1) _ (by omega) (by omega)
          · rw [if_neg h]
            exact ev_pos (by omega) (ih (i + 1) _ (by omega) (by simp; omega))
theorem PL_sev (s : ByteArray) (hs : s.size ≤ 100000000000000) : Ev (fun k => spec_PlainOf.f k s) ⟨(impl_PlainOf.plain s.data.toList).toArray⟩ := by
  unfold spec_PlainOf.f
  have h := PL_sl s hs s.size 0 [] (by omega) (by simp)
  rw [List.nil_append, PL_nums] at h
  exact h
theorem PL_iev (s : ByteArray) (hs : s.size ≤ 100000000000000) : impl_PlainOf.f s = some ⟨(impl_PlainOf.plain s.data.toList).toArray⟩ := if_pos (by omega)
end OfFnExactPlainOf
open OfFnExactPlainOf in
theorem FnExactPlainOf : laws_FnExactPlainOf.Pure := by
  intro x hx
  apply Ev.rounds
  unfold laws_FnExactPlainOf.f
  refine ev_dec (fun _ => ev_const rfl) (fun h => ?_)
  exact ev_bind (PL_sev x (by omega)) (ev_bindc (PL_iev x (by omega)) (ev_pos rfl (ev_const rfl)))
end Go.Proofs.Ytnkgglihlmileaa.Pure
