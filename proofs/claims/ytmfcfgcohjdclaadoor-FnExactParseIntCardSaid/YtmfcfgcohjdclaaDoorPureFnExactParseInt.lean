/- The pure statement of FnExactParseInt: the reference reads a string as strconv's reading, in range and spelt back, says. -/
import Derived.Test.YtmfcfgcohjdclaaDoorPFnExactParseIntx1
import Derived.Test.YtmfcfgcohjdclaaDoorKit
namespace Go.Proofs.YtmfcfgcohjdclaaDoor.Pure
open Go.RowKit Go.Proofs.YtmfcfgcohjdclaaDoor.PFnExactParseInt Go.Proofs.YtmfcfgcohjdclaaDoorW.PrintWords Go.Proofs.YtmfcfgcohjdclaaDoorW.PrintLast Go.Proofs.YtmfcfgcohjdclaaDoor.Kit
namespace OfFnExactParseInt
theorem l1In_v (a b c : Int) : spec_l1In.f a b c = some (decide (b ≤ a ∧ a ≤ c)) := by
  unfold spec_l1In.f
  by_cases h : b ≤ a <;> simp [h]
theorem FI_digit (u : Nat) : (strOfNums [((48 + u % 10 : Nat) : Int)]).data.toList = [UInt8.ofNat (48 + u % 10)] := by
  rw [strOfNums_data]
  simp only [List.map_cons, List.map_nil, Int.toNat_natCast]
theorem FI_l (x0 : Int) : ∀ (d u : Nat) (x4 : Int) (x3 : ByteArray), 1 ≤ u → u < 10 ^ d → (x4 = (u : Int) ∨ x4 = -(u : Int)) → u ≤ 9223372036854775808 → x3.size + d ≤ 100 →
    ∃ r, Ev (fun k => spec_FormatInt.l0 k x0 x3 x4) r ∧ r.data.toList = (if x0 < 0 then [45] else []) ++ (Lib.decDigits u ++ x3.data.toList) := by
  intro d
  induction d with
  | zero => intro u _ _ h1 h2; simp at h2; omega
  | succ d ih =>
    intro u x4 x3 hu hd hx hb hs
    have hD1 : (strOfNums [((48 + u % 10 : Nat) : Int)]).size = 1 := by rw [strOfNums_size]; rfl
    have hq : ∃ x4' : Int, wrap64 (Int.tdiv x4 10) = x4' ∧ (x4' = ((u / 10 : Nat) : Int) ∨ x4' = -((u / 10 : Nat) : Int)) := by
      rcases hx with rfl | rfl
      · exact ⟨_, rfl, Or.inl (by rw [Int.tdiv_eq_ediv_of_nonneg (by omega), w64 (by omega) (by omega)]; omega)⟩
      · exact ⟨_, rfl, Or.inr (by rw [Int.neg_tdiv, Int.tdiv_eq_ediv_of_nonneg (by omega), w64 (by omega) (by omega)]; omega)⟩
    obtain ⟨x4', hq1, hq2⟩ := hq
    have go : ∀ r, Ev (fun k => spec_FormatInt.l0 k x0 (strOfNums [((48 + u % 10 : Nat) : Int)] ++ x3) x4') r → Ev (fun k => spec_FormatInt.l0 k x0 x3 x4) r := by
      intro r e
      refine ev_step ?_
      simp only [spec_FormatInt.l0]
      rw [hq1]
      refine ev_neg (by rcases hx with rfl | rfl <;> omega) ?_
      have ht : (Int.tmod x4 10 < 0 ∧ (wrap64 (48 + wrap64 (-(Int.tmod x4 10)))) % 256 = ((48 + u % 10 : Nat) : Int)) ∨ (¬ Int.tmod x4 10 < 0 ∧ (wrap64 (48 + Int.tmod x4 10)) % 256 = ((48 + u % 10 : Nat) : Int)) := by
        rcases hx with rfl | rfl
        · right
          rw [Int.tmod_eq_emod_of_nonneg (by omega)]
          refine ⟨by omega, ?_⟩
          rw [w64 (by omega) (by omega)]
          omega
        · rw [Int.neg_tmod, Int.tmod_eq_emod_of_nonneg (by omega)]
          by_cases hz : (u : Int) % 10 = 0
          · right
            refine ⟨by omega, ?_⟩
            rw [w64 (by omega) (by omega)]
            omega
          · left
            refine ⟨by omega, ?_⟩
            rw [w64 (i := -(-((u : Int) % 10))) (by omega) (by omega), w64 (by omega) (by omega)]
            omega
      rcases ht with ⟨h1, h2⟩ | ⟨h1, h2⟩
      · rw [h2]
        exact ev_pos h1 (ev_bindc rfl (ev_pos (by rw [hD1]; omega) e))
      · rw [h2]
        exact ev_neg h1 (ev_bindc rfl (ev_pos (by rw [hD1]; omega) e))
    by_cases h10 : u < 10
    · have hz : x4' = 0 := by rcases hq2 with rfl | rfl <;> omega
      subst hz
      have hdig : Lib.decDigits u = [UInt8.ofNat (48 + u % 10)] := by rw [Lib.decDigits, dif_pos h10, Nat.mod_eq_of_lt h10]
      by_cases hneg : x0 < 0
      · refine ⟨(⟨#[45]⟩ : ByteArray) ++ (strOfNums [((48 + u % 10 : Nat) : Int)] ++ x3), go _ ?_, ?_⟩
        · refine ev_step ?_
          simp only [spec_FormatInt.l0]
          exact ev_pos trivial (ev_pos hneg (ev_pos (by rw [ByteArray.size_append, hD1]; omega) (ev_const rfl)))
        · rw [if_pos hneg, hdig, ByteArray.data_append, ByteArray.data_append, Array.toList_append, Array.toList_append, FI_digit]
      · refine ⟨strOfNums [((48 + u % 10 : Nat) : Int)] ++ x3, go _ ?_, ?_⟩
        · refine ev_step ?_
          simp only [spec_FormatInt.l0]
          exact ev_pos trivial (ev_neg hneg (ev_const rfl))
        · rw [if_neg hneg, hdig, ByteArray.data_append, Array.toList_append, FI_digit]
          rfl
    · obtain ⟨r, e, hr⟩ := ih (u / 10) x4' (strOfNums [((48 + u % 10 : Nat) : Int)] ++ x3) (by omega) (by rw [Nat.div_lt_iff_lt_mul (by omega)]; rw [Nat.pow_succ] at hd; exact hd) hq2 (by omega) (by rw [ByteArray.size_append, hD1]; omega)
      refine ⟨r, go r e, ?_⟩
      have hdig : Lib.decDigits u = Lib.decDigits (u / 10) ++ [UInt8.ofNat (48 + u % 10)] := by rw [Lib.decDigits, dif_neg h10]
      rw [hr, hdig, ByteArray.data_append, Array.toList_append, FI_digit]
      simp
theorem FI_ev (n : Int) (h0 : -9223372036854775808 ≤ n) (h1 : n ≤ 9223372036854775807) : Ev (fun k => spec_FormatInt.f k n) ⟨(Lib.itoa n).toArray⟩ := by
  unfold spec_FormatInt.f
  by_cases hz : n = 0
  · subst hz
    refine ev_pos rfl (ev_const ?_)
    congr 1
    apply Go.WideShapes.bytes_inj
    rw [Lib.itoa, if_neg (by omega), Lib.decDigits, dif_pos (by omega)]
    rfl
  · have hle : n.natAbs ≤ 9223372036854775808 := by omega
    have hlt : n.natAbs < 10 ^ 19 := Nat.lt_of_le_of_lt hle (by decide)
    obtain ⟨r, e, hr⟩ := FI_l n 19 n.natAbs n ⟨#[]⟩ (by omega) hlt (by omega) (by omega) (by decide)
    refine ev_neg hz (ev_eq e ?_)
    apply Go.WideShapes.bytes_inj
    rw [hr, Lib.itoa]
    by_cases hn : n < 0
    · rw [if_pos hn, if_pos hn]
      simp
    · rw [if_neg hn, if_neg hn, show n.natAbs = n.toNat from by omega]
      simp
theorem PI_digit (u : Nat) : ∀ c ∈ Lib.decDigits u, 48 ≤ c.toNat ∧ c.toNat ≤ 57 := by
  induction u using Nat.strongRecOn with
  | _ u ih =>
    intro c hc
    have key : ∀ x : Nat, x < 10 → 48 ≤ (UInt8.ofNat (48 + x)).toNat ∧ (UInt8.ofNat (48 + x)).toNat ≤ 57 := by
      intro x hx
      rw [UInt8.toNat_ofNat']
      omega
    rw [Lib.decDigits] at hc
    split at hc
    · rename_i h
      simp only [List.mem_singleton] at hc
      rw [hc]
      exact key u h
    · rename_i h
      rcases List.mem_append.1 hc with hc | hc
      · exact ih (u / 10) (by omega) c hc
      · simp only [List.mem_singleton] at hc
        rw [hc]
        exact key _ (by omega)
theorem PI_len : ∀ (k u : Nat), u < 10 ^ (k + 1) → (Lib.decDigits u).length ≤ k + 1 := by
  intro k
  induction k with
  | zero =>
    intro u h
    rw [Lib.decDigits, dif_pos (by simpa using h)]
    simp
  | succ k ih =>
    intro u h
    rw [Lib.decDigits]
    split
    · simp
    · have z := ih (u / 10) (by rw [Nat.div_lt_iff_lt_mul (by omega)]; rw [Nat.pow_succ] at h; exact h)
      simp
      omega
theorem PI_pos (u : Nat) : Lib.decDigits u ≠ [] := by
  rw [Lib.decDigits]
  split <;> simp
theorem PI_bt (s : ByteArray) (i : Nat) (h : i < s.data.toList.length) : bt s (i : Int) = ((s.data.toList[i]).toNat : Int) := by
  have h2 : i < s.size := by rw [Array.length_toList] at h; exact h
  unfold bt
  rw [dif_pos (by simpa using h2)]
  simp only [Int.toNat_natCast, Array.getElem_toList]
  rfl
/-- What reading ends in, once the digits spell u. -/
def PI_fin (s : ByteArray) (u : Nat) : Int × Bool := if (u : Int) > 1000000000000 then (0, false) else if (⟨(Lib.itoa (u : Int)).toArray⟩ : ByteArray).toList = s.toList then ((u : Int), true) else (0, false)
def PI_end (s : ByteArray) : Lib.NumEnd Nat → Int × Bool
  | .ok u => PI_fin s u
  | _ => (0, false)
theorem PI_l (s : ByteArray) (hs : s.size ≤ 13) : ∀ (d i x : Nat), i + d = s.size → x < 10 ^ i → Ev (fun k => spec_ParseInt.l0 k s (x : Int) (i : Int)) (PI_end s (Lib.parseUint10 x (s.data.toList.drop i))) := by
  have hlen : s.data.toList.length = s.size := by rw [Array.length_toList]; rfl
  have hp : ∀ i : Nat, i ≤ 13 → 10 ^ i ≤ 10000000000000 := fun i hi => Nat.le_trans (Nat.pow_le_pow_right (by omega) hi) (by decide)
  intro d
  induction d with
  | zero =>
    intro i x hi hx
    have hb := hp i (by omega)
    rw [List.drop_of_length_le (by omega)]
    refine ev_step ?_
    simp only [spec_ParseInt.l0]
    simp only [Lib.parseUint10, PI_end, PI_fin]
    refine ev_neg (by omega) (ev_dec (fun h => ?_) (fun h => ?_))
    · rw [if_pos h]
      exact ev_const rfl
    · rw [if_neg h]
      refine ev_bind (FI_ev (x : Int) (by omega) (by omega)) (ev_dec (fun h2 => ?_) (fun h2 => ?_))
      · rw [if_pos h2]
        exact ev_const rfl
      · rw [if_neg h2]
        exact ev_const rfl
  | succ d ih =>
    intro i x hi hx
    have hb := hp i (by omega)
    have hlt : i < s.data.toList.length := by omega
    rw [List.drop_eq_getElem_cons hlt]
    generalize hc : s.data.toList[i] = c
    have hbt : bt s (i : Int) = (c.toNat : Int) := by rw [PI_bt s i hlt, hc]
    have hcl := c.toNat_lt
    refine ev_step ?_
    simp only [spec_ParseInt.l0]
    rw [hbt, w64s (n := s.size) (by omega) (by omega), w64 (i := (c.toNat : Int)) (by omega) (by omega)]
    refine ev_pos (by omega) (ev_pos (by omega) (ev_bindc (l1In_v _ _ _) ?_))
    by_cases hd : 48 ≤ c.toNat ∧ c.toNat ≤ 57
    · refine ev_pos (by simp; omega) ?_
      have e1 : wrap64 (wrap64 (10 * (x : Int)) + (((c.toNat : Int) - 48) % 256)) = ((x * 10 + (c.toNat - 48) : Nat) : Int) := by
        rw [w64 (i := 10 * (x : Int)) (by omega) (by omega), w64 (by omega) (by omega)]
        omega
      rw [e1]
      have e2 : Lib.parseUint10 x (c :: s.data.toList.drop (i + 1)) = Lib.parseUint10 (x * 10 + (c.toNat - 48)) (s.data.toList.drop (i + 1)) := by
        rw [Lib.parseUint10, if_pos hd, if_neg (by omega), if_neg (by omega)]
      rw [e2]
      exact ih (i + 1) _ (by omega) (by rw [Nat.pow_succ]; omega)
    · have e2 : Lib.parseUint10 x (c :: s.data.toList.drop (i + 1)) = Lib.parseUint10 0 [0] := by
        rw [Lib.parseUint10, if_neg hd]
        rfl
      rw [e2]
      exact ev_neg (by simp; omega) (ev_const rfl)
theorem PI_num (s : ByteArray) (v : Int) (h0 : 0 ≤ v) (h1 : v ≤ 1000000000000) (h : (⟨(Lib.itoa v).toArray⟩ : ByteArray).toList = s.toList) : s.data.toList = Lib.decDigits v.toNat := by
  rw [ByteArray.toList_eq, ByteArray.toList_eq] at h
  rw [← h, Lib.itoa, if_neg (by omega)]
theorem PI_ev (s : ByteArray) (hz : s.size ≤ 1000000000) : Ev (fun k => spec_ParseInt.f k s) (laws_FnExactParseInt.v s) := by
  have hlen : s.data.toList.length = s.size := by rw [Array.length_toList]; rfl
  have no : (∀ v : Int, (0 ≤ v ∧ v ≤ 1000000000000) → ¬ (⟨(Lib.itoa v).toArray⟩ : ByteArray).toList = s.toList) → laws_FnExactParseInt.v s = (0, false) := by
    intro h
    unfold laws_FnExactParseInt.v
    split
    · rw [if_neg (fun z => h _ z.1 z.2)]
    · rfl
  unfold spec_ParseInt.f
  refine ev_bindc (l1In_v _ _ _) ?_
  by_cases h13 : 1 ≤ s.size ∧ s.size ≤ 13
  · refine ev_pos (by simp; omega) ?_
    have hl := PI_l s h13.2 s.size 0 0 (by omega) (by simp)
    refine ev_eq hl ?_
    rw [List.drop_zero]
    obtain ⟨c, r, hcr⟩ : ∃ c r, s.data.toList = c :: r := by
      cases hq : s.data.toList with
      | nil => rw [hq] at hlen; simp at hlen; omega
      | cons c r => exact ⟨c, r, rfl⟩
    by_cases hsg : c.toNat = 43 ∨ c.toNat = 45
    · have e : Lib.parseUint10 0 s.data.toList = Lib.parseUint10 0 [0] := by
        rw [hcr, Lib.parseUint10, if_neg (by omega)]
        rfl
      rw [e, no (fun v hv h => ?_)]
      · rfl
      · have z := PI_num s v hv.1 hv.2 h
        have := PI_digit v.toNat c (by rw [← z, hcr]; simp)
        omega
    · have e : Lib.atoiAll s.data.toList = (match Lib.parseUint10 0 s.data.toList with
          | .range => .range
          | .ok u => if 9223372036854775808 ≤ u then .range else .ok (u : Int)
          | _ => Lib.atoiAll []) := by
        rw [hcr]
        unfold Lib.atoiAll
        simp only [if_neg hsg, Lib.parseMag]
        rw [if_neg (by simp)]
        have h45 : ¬ c.toNat = 45 := fun z => hsg (Or.inr z)
        simp only [h45, not_false_eq_true, true_and, false_and, if_false]
        cases Lib.parseUint10 0 (c :: r) <;> rfl
      unfold laws_FnExactParseInt.v
      rw [e]
      cases hp : Lib.parseUint10 0 s.data.toList with
      | range => rfl
      | ok u =>
        simp only [PI_end, PI_fin]
        by_cases hu : 9223372036854775808 ≤ u
        · rw [if_pos hu, if_pos (by omega)]
        · rw [if_neg hu]
          by_cases hM : (u : Int) > 1000000000000
          · rw [if_pos hM]
            simp only []
            rw [if_neg (by omega)]
          · rw [if_neg hM]
            simp only []
            by_cases hq : (⟨(Lib.itoa (u : Int)).toArray⟩ : ByteArray).toList = s.toList
            · rw [if_pos hq, if_pos ⟨by omega, hq⟩]
            · rw [if_neg hq, if_neg (fun z => hq z.2)]
      | _ => rfl
  · refine ev_neg (by simp; omega) (ev_const ?_)
    rw [no (fun v hv h => ?_)]
    have z := PI_num s v hv.1 hv.2 h
    have l1 := PI_len 12 v.toNat (by have : v.toNat ≤ 1000000000000 := by omega
                                     exact Nat.lt_of_le_of_lt this (by decide))
    have l2 := List.length_pos_iff.2 (PI_pos v.toNat)
    rw [← z, hlen] at l1 l2
    omega
end OfFnExactParseInt
open OfFnExactParseInt in
theorem FnExactParseInt (s : ByteArray) (h : s.size ≤ 1048576) : ∃ k, spec_ParseInt.f k s = some (laws_FnExactParseInt.v s) := Ev.rounds (PI_ev s (by omega))
end Go.Proofs.YtmfcfgcohjdclaaDoor.Pure
