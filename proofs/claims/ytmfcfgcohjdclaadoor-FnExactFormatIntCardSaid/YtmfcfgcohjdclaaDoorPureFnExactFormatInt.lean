/- The pure statement of FnExactFormatInt: what the reference computes is the decimal numeral. -/
import Derived.Test.YtmfcfgcohjdclaaDoorPFnExactFormatIntx1
import Derived.Test.YtmfcfgcohjdclaaDoorKit
namespace Go.Proofs.YtmfcfgcohjdclaaDoor.Pure
open Go.RowKit Go.Proofs.YtmfcfgcohjdclaaDoor.PFnExactFormatInt Go.Proofs.YtmfcfgcohjdclaaDoorW.PrintWords Go.Proofs.YtmfcfgcohjdclaaDoorW.PrintLast Go.Proofs.YtmfcfgcohjdclaaDoor.Kit
namespace OfFnExactFormatInt
theorem FI_digit (u : Nat) : (strOfNums [((48 + u % 10 : Nat) : Int)]).data.toList = [UInt8.ofNat (48 + u % 10)] := by
  rw [strOfNums_data]
  simp only [List.map_cons, List.map_nil, Int.toNat_natCast]
theorem FI_l (x0 : Int) : ∀ (d u : Nat) (x4 : Int) (x3 : ByteArray), 1 ≤ u → u < 10 ^ d → (x4 = (u : Int) ∨ x4 = -(u : Int)) → u ≤ 9223372036854775808 → x3.size + d ≤ 100 →
    ∃ r, Ev (fun k => spec_FormatInt.l0 k x0 x3 x4) r ∧ r.data.toList = (if x0 < 0 then [45] else []) ++ (Lib.decDigits u ++ x3.data.toList) := by
  intro d
  induction d with
  | zero => intro u _ _ h1 h2; simp at h2; omega
  | succ d ih =>
    intro u x4 x3 hu hd hx hb hs
    have hD1 : (strOfNums [((48 + u % 10 : Nat) : Int)]).size = 1 := by rw [strOfNums_size]; rfl
    have hq : ∃ x4' : Int, wrap64 (Int.tdiv x4 10) = x4' ∧ (x4' = ((u / 10 : Nat) : Int) ∨ x4' = -((u / 10 : Nat) : Int)) := by
      rcases hx with rfl | rfl
      · exact ⟨_, rfl, Or.inl (by rw [Int.tdiv_eq_ediv_of_nonneg (by omega), w64 (by omega) (by omega)]; omega)⟩
      · exact ⟨_, rfl, Or.inr (by rw [Int.neg_tdiv, Int.tdiv_eq_ediv_of_nonneg (by omega), w64 (by omega) (by omega)]; omega)⟩
    obtain ⟨x4', hq1, hq2⟩ := hq
    have go : ∀ r, Ev (fun k => spec_FormatInt.l0 k x0 (strOfNums [((48 + u % 10 : Nat) : Int)] ++ x3) x4') r → Ev (fun k => spec_FormatInt.l0 k x0 x3 x4) r := by
      intro r e
      refine ev_step ?_
      simp only [spec_FormatInt.l0]
      rw [hq1]
      refine ev_neg (by rcases hx with rfl | rfl <;> omega) ?_
      have ht : (Int.tmod x4 10 < 0 ∧ (wrap64 (48 + wrap64 (-(Int.tmod x4 10)))) % 256 = ((48 + u % 10 : Nat) : Int)) ∨ (¬ Int.tmod x4 10 < 0 ∧ (wrap64 (48 + Int.tmod x4 10)) % 256 = ((48 + u % 10 : Nat) : Int)) := by
        rcases hx with rfl | rfl
        · right
          rw [Int.tmod_eq_emod_of_nonneg (by omega)]
          refine ⟨by omega, ?_⟩
          rw [w64 (by omega) (by omega)]
          omega
        · rw [Int.neg_tmod, Int.tmod_eq_emod_of_nonneg (by omega)]
          by_cases hz : (u : Int) % 10 = 0
          · right
            refine ⟨by omega, ?_⟩
            rw [w64 (by omega) (by omega)]
            omega
          · left
            refine ⟨by omega, ?_⟩
            rw [w64 (i := -(-((u : Int) % 10))) (by omega) (by omega), w64 (by omega) (by omega)]
            omega
      rcases ht with ⟨h1, h2⟩ | ⟨h1, h2⟩
      · rw [h2]
        exact ev_pos h1 (ev_bindc rfl (ev_pos (by rw [hD1]; omega) e))
      · rw [h2]
        exact ev_neg h1 (ev_bindc rfl (ev_pos (by rw [hD1]; omega) e))
    by_cases h10 : u < 10
    · have hz : x4' = 0 := by rcases hq2 with rfl | rfl <;> omega
      subst hz
      have hdig : Lib.decDigits u = [UInt8.ofNat (48 + u % 10)] := by rw [Lib.decDigits, dif_pos h10, Nat.mod_eq_of_lt h10]
      by_cases hneg : x0 < 0
      · refine ⟨(⟨#[45]⟩ : ByteArray) ++ (strOfNums [((48 + u % 10 : Nat) : Int)] ++ x3), go _ ?_, ?_⟩
        · refine ev_step ?_
          simp only [spec_FormatInt.l0]
          exact ev_pos trivial (ev_pos hneg (ev_pos (by rw [ByteArray.size_append, hD1]; omega) (ev_const rfl)))
        · rw [if_pos hneg, hdig, ByteArray.data_append, ByteArray.data_append, Array.toList_append, Array.toList_append, FI_digit]
      · refine ⟨strOfNums [((48 + u % 10 : Nat) : Int)] ++ x3, go _ ?_, ?_⟩
        · refine ev_step ?_
          simp only [spec_FormatInt.l0]
          exact ev_pos trivial (ev_neg hneg (ev_const rfl))
        · rw [if_neg hneg, hdig, ByteArray.data_append, Array.toList_append, FI_digit]
          rfl
    · obtain ⟨r, e, hr⟩ := ih (u / 10) x4' (strOfNums [((48 + u % 10 : Nat) : Int)] ++ x3) (by omega) (by rw [Nat.div_lt_iff_lt_mul (by omega)]; rw [Nat.pow_succ] at hd; exact hd) hq2 (by omega) (by rw [ByteArray.size_append, hD1]; omega)
      refine ⟨r, go r e, ?_⟩
      have hdig : Lib.decDigits u = Lib.decDigits (u / 10) ++ [UInt8.ofNat (48 + u % 10)] := by rw [Lib.decDigits, dif_neg h10]
      rw [hr, hdig, ByteArray.data_append, Array.toList_append, FI_digit]
      simp
theorem FI_ev (n : Int) (h0 : -9223372036854775808 ≤ n) (h1 : n ≤ 9223372036854775807) : Ev (fun k => spec_FormatInt.f k n) ⟨(Lib.itoa n).toArray⟩ := by
  unfold spec_FormatInt.f
  by_cases hz : n = 0
  · subst hz
    refine ev_pos rfl (ev_const ?_)
    congr 1
    apply Go.WideShapes.bytes_inj
    rw [Lib.itoa, if_neg (by omega), Lib.decDigits, dif_pos (by omega)]
    rfl
  · have hle : n.natAbs ≤ 9223372036854775808 := by omega
    have hlt : n.natAbs < 10 ^ 19 := Nat.lt_of_le_of_lt hle (by decide)
    obtain ⟨r, e, hr⟩ := FI_l n 19 n.natAbs n ⟨#[]⟩ (by omega) hlt (by omega) (by omega) (by decide)
    refine ev_neg hz (ev_eq e ?_)
    apply Go.WideShapes.bytes_inj
    rw [hr, Lib.itoa]
    by_cases hn : n < 0
    · rw [if_pos hn, if_pos hn]
      simp
    · rw [if_neg hn, if_neg hn, show n.natAbs = n.toNat from by omega]
      simp
end OfFnExactFormatInt
open OfFnExactFormatInt in
theorem FnExactFormatInt (n : Int) (h0 : -9223372036854775808 ≤ n) (h1 : n ≤ 9223372036854775807) : ∃ k, spec_FormatInt.f k n = some ⟨(Lib.itoa n).toArray⟩ := Ev.rounds (FI_ev n h0 h1)
end Go.Proofs.YtmfcfgcohjdclaaDoor.Pure
