/- The pure statement of FnExactFirstAlike: what the printed functions compute answers true for all arguments within the printed bounds. -/
import Derived.Test.YtnkgglihlmileaaPFnExactFirstAlikex5
import Derived.Test.YtnkgglihlmileaaKit
namespace Go.Proofs.Ytnkgglihlmileaa.Pure
open Go.RowKit Go.Proofs.Ytnkgglihlmileaa.PFnExactFirstAlike Go.Proofs.YtnkgglihlmileaaW.PrintWords Go.Proofs.YtnkgglihlmileaaW.PrintLast Go.Proofs.Ytnkgglihlmileaa.Kit
set_option linter.unusedVariables false
set_option linter.unusedSimpArgs false
namespace OfFnExactFirstAlike
theorem szStr_l (x : List ByteArray) (hx : x.length ≤ 9223372036854775806) (hs : ∀ s ∈ x, s.size ≤ maxLen) : ∀ (d i : Nat) (a : Int), i + d = x.length → 0 ≤ a → a ≤ 9000000000000000 →
    ∃ r, Ev (fun k => laws_szStringS.l0 k x a (i : Int)) r ∧ -1 ≤ r ∧ r ≤ a ∧ (0 ≤ r → ∀ s ∈ x.drop i, (s.size : Int) ≤ a) := by
  intro d
  induction d with
  | zero =>
    intro i a hi h0 h1
    refine ⟨a, ev_step ?_, by omega, by omega, fun _ => by rw [List.drop_of_length_le (by omega)]; simp⟩
    simp only [laws_szStringS.l0]
    exact ev_neg (by omega) (ev_const rfl)
  | succ d ih =>
    intro i a hi h0 h1
    have hlt : i < x.length := by omega
    have hz := hs x[i] (List.getElem_mem hlt)
    unfold maxLen at hz
    by_cases hn : a - (x[i].size : Int) < 0
    · refine ⟨-1, ev_step ?_, by omega, by omega, fun z => by omega⟩
      simp only [laws_szStringS.l0]
      rw [rdOf_at _ x i hlt, w64 (i := a - (x[i].size : Int)) (by omega) (by omega)]
      exact ev_pos (by omega) (ev_pos (by omega) (ev_pos hn (ev_const rfl)))
    · obtain ⟨r, e, r0, r1, r2⟩ := ih (i + 1) (a - (x[i].size : Int)) (by omega) (by omega) (by omega)
      refine ⟨r, ev_step ?_, r0, by omega, fun z => ?_⟩
      · simp only [laws_szStringS.l0]
        rw [rdOf_at _ x i hlt, w64 (i := a - (x[i].size : Int)) (by omega) (by omega), w64s (n := x.length) hlt (by omega)]
        exact ev_pos (by omega) (ev_pos (by omega) (ev_neg hn e))
      · rw [List.drop_eq_getElem_cons hlt]
        intro s hs2
        rcases List.mem_cons.1 hs2 with rfl | hs2
        · omega
        · have := r2 z s hs2
          omega
theorem szStr_ok (x : List ByteArray) (a : Int) (hl : x.length ≤ maxLen) (hs : ∀ s ∈ x, s.size ≤ maxLen) (h0 : 0 ≤ a) (h1 : a ≤ 9000000000000000) :
    ∃ r, Ev (fun k => laws_szStringS.f k x a) r ∧ -1 ≤ r ∧ r ≤ a ∧ (0 ≤ r → (x.length : Int) ≤ a ∧ ∀ s ∈ x, (s.size : Int) ≤ a) := by
  unfold maxLen at hl
  unfold laws_szStringS.f
  rw [w64 (i := a - (x.length : Int)) (by omega) (by omega)]
  by_cases hn : a - (x.length : Int) < 0
  · exact ⟨-1, ev_pos hn (ev_const rfl), by omega, by omega, fun z => by omega⟩
  · obtain ⟨r, e, r0, r1, r2⟩ := szStr_l x (by omega) hs x.length 0 (a - (x.length : Int)) (by omega) (by omega) (by omega)
    refine ⟨r, ev_neg hn e, r0, by omega, fun z => ⟨by omega, fun s hs2 => ?_⟩⟩
    have := r2 z s (by simpa using hs2)
    omega

theorem toStr_ev (x : List ByteArray) (hx : x.length ≤ 17592186044416) : Ev (fun k => laws_toStringS.f k x) x := by
  unfold laws_toStringS.f
  refine ev_pos (by omega) (ev_pos (by omega) ?_)
  exact copy_loop (L := laws_toStringS.l0) (rdf := rdOf ByteArray.empty) (fun _ _ _ _ => rfl) (rdOf_at ByteArray.empty) x (by omega) x.length 0 _ (by omega) (by simp) (by simp)

theorem str_eq (a b : ByteArray) : a.toList = b.toList ↔ a = b := ⟨fun h => Go.WideShapes.bytes_inj (by rw [← ByteArray.toList_eq, ← ByteArray.toList_eq]; exact h), fun h => by rw [h]⟩
theorem str_at (x y : List ByteArray) (i : Nat) (h : i < x.length) (h' : i < y.length) : (rdOf ByteArray.empty x (i : Int)).toList = (rdOf ByteArray.empty y (i : Int)).toList ↔ x[i] = y[i] := by
  rw [rdOf_at _ x i h, rdOf_at _ y i h', str_eq]

theorem eqStr_ev (x y : List ByteArray) (hx : x.length ≤ 9223372036854775806) (b : Bool) (hb : b = true ↔ x = y) : Ev (fun k => laws_eqStringS.f k x y) b := by
  unfold laws_eqStringS.f
  refine ev_dec (fun h => ?_) (fun h => ?_)
  · exact eq_loop (L := laws_eqStringS.l0) (c := fun x y i => (rdOf ByteArray.empty x i).toList = (rdOf ByteArray.empty y i).toList) (fun _ _ _ _ => rfl) str_at x y hx (by omega) b x.length 0 (by omega) (by simpa using hb)
  · have e : b = false := by
      rw [Bool.eq_false_iff]
      intro z
      exact h (by rw [hb.mp z])
    subst e
    exact ev_const rfl
theorem eqStr_refl (x : List ByteArray) (hx : x.length ≤ 9223372036854775806) : Ev (fun k => laws_eqStringS.f k x x) true := eqStr_ev x x hx true (by simp)

theorem InRange_v (a b c : Int) : impl_InRange.f a b c = some (decide (b ≤ a ∧ a ≤ c)) := by
  unfold impl_InRange.f
  by_cases h : b ≤ a <;> simp [h]

theorem l1In_v (a b c : Int) : spec_l1In.f a b c = some (decide (b ≤ a ∧ a ≤ c)) := by
  unfold spec_l1In.f
  by_cases h : b ≤ a <;> simp [h]

/-- A byte of a label. -/
def okc (c : Int) : Prop := (97 ≤ c ∧ c ≤ 122) ∨ (48 ≤ c ∧ c ≤ 57) ∨ c = 45
instance (c : Int) : Decidable (okc c) := by unfold okc; exact inferInstance
/-- Is a string a label. -/
def isLab (s : ByteArray) : Prop := 1 ≤ s.size ∧ s.size ≤ 8 ∧ (∀ j : Nat, j < s.size → okc (bt s j)) ∧ bt s 0 ≠ 45 ∧ bt s ((s.size : Int) - 1) ≠ 45
theorem IsLabel_s1 (k : Nat) (x : ByteArray) (i : Int) : spec_IsLabel.l0 (k + 1) x i = if i < (x.size : Int) then (if 0 ≤ i then (if okc (bt x i) then (spec_IsLabel.l0 k x (wrap64 (i + 1))) else (some false)) else (none)) else (some true) := by
  rw [spec_IsLabel.l0]
  by_cases h1 : i < (x.size : Int)
  · by_cases h2 : 0 ≤ i
    · rw [if_pos h1, if_pos h2, if_pos h1, if_pos h2]
      by_cases hc : okc (bt x i)
      all_goals
        first | rw [if_pos (c := okc _) hc] | rw [if_neg (c := okc _) hc]
        generalize bt x i = c at hc
        unfold okc at hc
        repeat' split
        all_goals first | rfl | (exfalso; omega)
    · simp [h1, h2]
  · simp [h1]
theorem IsLabel_sl (x : ByteArray) (hx : x.size ≤ 9223372036854775806) (b : Bool) : ∀ (d i : Nat), i + d = x.size → (b = true ↔ ∀ j : Nat, i ≤ j → j < x.size → okc (bt x j)) → Ev (fun k => spec_IsLabel.l0 k x (i : Int)) b := by
  intro d
  induction d with
  | zero =>
    intro i hi hb
    have e : b = true := hb.mpr (fun j h1 h2 => by omega)
    subst e
    refine ev_step (ev_congr (fun k => IsLabel_s1 k x i) ?_)
    exact ev_neg (by omega) (ev_const rfl)
  | succ d ih =>
    intro i hi hb
    refine ev_step (ev_congr (fun k => IsLabel_s1 k x i) ?_)
    refine ev_pos (by omega) (ev_pos (by omega) (ev_dec (fun h => ?_) (fun h => ?_)))
    · rw [w64s (n := x.size) (by omega) (by omega)]
      refine ih (i + 1) (by omega) (hb.trans ⟨fun z j h1 h2 => z j (by omega) h2, fun z j h1 h2 => ?_⟩)
      by_cases e : j = i
      · subst e; exact h
      · exact z j (by omega) h2
    · have e : b = false := by
        rw [Bool.eq_false_iff]
        intro z
        exact h (hb.mp z i (by omega) (by omega))
      subst e
      exact ev_const rfl
theorem IsLabel_sev (x : ByteArray) (hx : x.size ≤ 9223372036854775806) (b : Bool) (hb : b = true ↔ isLab x) : Ev (fun k => spec_IsLabel.f k x) b := by
  unfold spec_IsLabel.f
  rw [l1In_v]
  have hf : ∀ (_ : ¬ isLab x), b = false := by
    intro h
    rw [Bool.eq_false_iff]
    intro z
    exact h (hb.mp z)
  have hj : ∀ (_ : ¬ isLab x), Ev (fun k => spec_IsLabel.j0 k x true) b := by
    intro h
    rw [hf h]
    refine ev_step ?_
    simp only [spec_IsLabel.j0]
    exact ev_const rfl
  by_cases h1 : 1 ≤ x.size ∧ x.size ≤ 8
  · refine ev_bindc (a := true) (by rw [decide_eq_true (show (1 : Int) ≤ (x.size : Int) ∧ (x.size : Int) ≤ 8 from by omega)]) ?_
    have hw : wrap64 ((x.size : Int) - 1) = (x.size : Int) - 1 := w64 (by omega) (by omega)
    rw [hw]
    refine ev_pos rfl (ev_pos (by omega) (ev_dec (fun h => ?_) (fun h => ?_)))
    · exact hj (fun z => z.2.2.2.1 h)
    · refine ev_pos (by omega) (ev_pos (by omega) ?_)
      by_cases h5 : bt x ((x.size : Int) - 1) = 45
      · rw [h5]
        exact hj (fun z => z.2.2.2.2 h5)
      · refine ev_step ?_
        simp only [spec_IsLabel.j0]
        refine ev_neg (by simpa using h5) ?_
        refine IsLabel_sl x hx b x.size 0 (by omega) (hb.trans ?_)
        unfold isLab
        exact ⟨fun z j _ hj => z.2.2.1 j hj, fun z => ⟨h1.1, h1.2, fun j hj => z j (by omega) hj, h, h5⟩⟩
  · refine ev_bindc (a := false) (by rw [decide_eq_false (show ¬ ((1 : Int) ≤ (x.size : Int) ∧ (x.size : Int) ≤ 8) from by omega)]) ?_
    refine ev_neg (by simp) ?_
    exact hj (fun z => h1 ⟨z.1, z.2.1⟩)
theorem IsLabel_i1 (k : Nat) (x : ByteArray) (n i : Int) : impl_IsLabel.l0 (k + 1) x n i = if i < n then (if 0 ≤ i then (if i < (x.size : Int) then (if okc (bt x i) ∧ (bt x i = 45 → 0 < i ∧ i < wrap64 ((x.size : Int) - 1)) then (impl_IsLabel.l0 k x n (wrap64 (i + 1))) else (some false)) else (none)) else (none)) else ((impl_InRange.f (x.size : Int) 1 8).bind fun t => some t) := by
  rw [impl_IsLabel.l0]
  by_cases h1 : i < n
  · by_cases h2 : 0 ≤ i
    · by_cases h3 : i < (x.size : Int)
      · rw [if_pos h1, if_pos h2, if_pos h3, if_pos h1, if_pos h2, if_pos h3]
        generalize wrap64 ((x.size : Int) - 1) = m
        by_cases hc : okc (bt x i) ∧ (bt x i = 45 → 0 < i ∧ i < m)
        all_goals
          first | rw [if_pos (c := okc _ ∧ _) hc] | rw [if_neg (c := okc _ ∧ _) hc]
          generalize bt x i = c at hc
          unfold okc at hc
          repeat' split
          all_goals first | rfl | (exfalso; omega)
      · simp [h1, h2, h3]
    · simp [h1, h2]
  · simp [h1]
theorem IsLabel_il (x : ByteArray) (hx : x.size ≤ 9223372036854775806) (b : Bool) : ∀ (d i : Nat), i + d = x.size → (b = true ↔ (∀ j : Nat, i ≤ j → j < x.size → okc (bt x j) ∧ (bt x j = 45 → 0 < j ∧ j + 1 < x.size)) ∧ 1 ≤ x.size ∧ x.size ≤ 8) → Ev (fun k => impl_IsLabel.l0 k x (x.size : Int) (i : Int)) b := by
  intro d
  induction d with
  | zero =>
    intro i hi hb
    refine ev_step (ev_congr (fun k => IsLabel_i1 k x _ i) ?_)
    refine ev_neg (by omega) (ev_const ?_)
    rw [InRange_v]
    have e : b = decide ((1 : Int) ≤ (x.size : Int) ∧ (x.size : Int) ≤ 8) := by
      rw [Bool.eq_iff_iff, hb, decide_eq_true_iff]
      exact ⟨fun z => by omega, fun z => ⟨fun j h1 h2 => by omega, by omega⟩⟩
    rw [e]
    rfl
  | succ d ih =>
    intro i hi hb
    have hw : wrap64 ((x.size : Int) - 1) = (x.size : Int) - 1 := w64 (by omega) (by omega)
    refine ev_step (ev_congr (fun k => IsLabel_i1 k x _ i) ?_)
    rw [hw]
    refine ev_pos (by omega) (ev_pos (by omega) (ev_pos (by omega) (ev_dec (fun h => ?_) (fun h => ?_))))
    · rw [w64s (n := x.size) (by omega) (by omega)]
      refine ih (i + 1) (by omega) (hb.trans ⟨fun z => ⟨fun j h1 h2 => z.1 j (by omega) h2, z.2⟩, fun z => ⟨fun j h1 h2 => ?_, z.2⟩⟩)
      by_cases e : j = i
      · subst e
        exact ⟨h.1, fun q => by have := h.2 q; omega⟩
      · exact z.1 j (by omega) h2
    · have e : b = false := by
        rw [Bool.eq_false_iff]
        intro z
        have q := (hb.mp z).1 i (by omega) (by omega)
        exact h ⟨q.1, fun r => by have := q.2 r; omega⟩
      subst e
      exact ev_const rfl
theorem IsLabel_iev (x : ByteArray) (hx : x.size ≤ 9223372036854775806) (b : Bool) (hb : b = true ↔ isLab x) : Ev (fun k => impl_IsLabel.f k x) b := by
  unfold impl_IsLabel.f
  refine IsLabel_il x hx b x.size 0 (by omega) (hb.trans ?_)
  unfold isLab
  constructor
  · rintro ⟨h1, h2, h3, h4, h5⟩
    refine ⟨fun j _ hj => ⟨h3 j hj, fun q => ?_⟩, h1, h2⟩
    constructor
    · rcases Nat.eq_zero_or_pos j with e | e
      · subst e; exact absurd q h4
      · exact e
    · rcases Nat.lt_or_ge (j + 1) x.size with e | e
      · exact e
      · exfalso
        apply h5
        rw [show (x.size : Int) - 1 = (j : Int) from by omega]
        exact q
  · rintro ⟨h1, h2, h3⟩
    refine ⟨h2, h3, fun j hj => (h1 j (by omega) hj).1, fun q => ?_, fun q => ?_⟩
    · have := ((h1 0 (by omega) (by omega)).2 q).1
      omega
    · have e : (x.size : Int) - 1 = ((x.size - 1 : Nat) : Int) := by omega
      rw [e] at q
      have := ((h1 (x.size - 1) (by omega) (by omega)).2 q).2
      omega
theorem lab_bool (x : ByteArray) : ∃ b : Bool, b = true ↔ isLab x := by
  by_cases h : isLab x
  · exact ⟨true, by simp [h]⟩
  · exact ⟨false, by simp [h]⟩

theorem PL_byte (s : ByteArray) (i : Nat) (h : i < s.size) : bt s (i : Int) = ((s.data.toList[i]'(by rw [data_length]; exact h)).toNat : Int) := by
  rw [← rd_bytesOf, rd_at _ i (by rw [bytesOf_length]; exact h)]
  simp [bytesOf]
theorem PL_nums (l : List UInt8) : strOfNums (l.map fun x => (x.toNat : Int)) = ⟨l.toArray⟩ := by
  unfold strOfNums
  congr 1
  congr 1
  rw [List.map_map]
  conv => rhs; rw [← List.map_id l]
  apply List.map_congr_left
  intro x _
  simp
theorem PL_one (c : UInt8) : (impl_PlainOf.outC c).map (fun x => (x.toNat : Int)) = if (c.toNat : Int) = 48 then [111] else if (c.toNat : Int) = 49 then [108] else if (c.toNat : Int) = 53 then [115] else if (c.toNat : Int) = 45 then [] else [(c.toNat : Int)] := by
  have g : ∀ n : UInt8, (c.toNat : Int) = (n.toNat : Int) ↔ c = n := fun n => by rw [Int.ofNat_inj]; exact UInt8.toNat_inj
  have g45 : (c.toNat : Int) = 45 ↔ c = 45 := g 45
  have g53 : (c.toNat : Int) = 53 ↔ c = 53 := g 53
  have g49 : (c.toNat : Int) = 49 ↔ c = 49 := g 49
  have g48 : (c.toNat : Int) = 48 ↔ c = 48 := g 48
  unfold impl_PlainOf.outC
  by_cases e45 : c = 45
  · subst e45; rfl
  · by_cases e53 : c = 53
    · subst e53; rfl
    · by_cases e49 : c = 49
      · subst e49; rfl
      · by_cases e48 : c = 48
        · subst e48; rfl
        · rw [if_neg e45, if_neg e53, if_neg e49, if_neg e48, if_neg (fun z => e48 (g48.1 z)), if_neg (fun z => e49 (g49.1 z)), if_neg (fun z => e53 (g53.1 z)), if_neg (fun z => e45 (g45.1 z))]
          rfl
theorem PL_sl (s : ByteArray) (hs : s.size ≤ 100000000000000) : ∀ (d i : Nat) (out : List Int), i + d = s.size → out.length ≤ i →
    Ev (fun k => spec_PlainOf.l0 k s out (i : Int)) (strOfNums (out ++ (impl_PlainOf.plain (s.data.toList.drop i)).map (fun x => (x.toNat : Int)))) := by
  intro d
  induction d with
  | zero =>
    intro i out hi _
    refine ev_step ?_
    simp only [spec_PlainOf.l0]
    rw [List.drop_of_length_le (by rw [data_length]; omega)]
    refine ev_neg (by omega) (ev_const ?_)
    simp [impl_PlainOf.plain]
  | succ d ih =>
    intro i out hi ho
    have hlt : i < s.size := by omega
    have hl : i < s.data.toList.length := by rw [data_length]; exact hlt
    have hd : impl_PlainOf.plain (s.data.toList.drop i) = impl_PlainOf.outC s.data.toList[i] ++ impl_PlainOf.plain (s.data.toList.drop (i + 1)) := by
      rw [List.drop_eq_getElem_cons hl]
      simp [impl_PlainOf.plain]
    refine ev_step ?_
    simp only [spec_PlainOf.l0]
    rw [PL_byte s i hlt, w64s (n := s.size) hlt (by omega), hd, List.map_append, PL_one, ← List.append_assoc]
    generalize (s.data.toList[i].toNat : Int) = c
    refine ev_pos (by omega) (ev_pos (by omega) ?_)
    refine ev_dec (fun h => ?_) (fun h => ?_)
    · rw [if_pos h]
      exact ev_pos (by omega) (ih (i + 1) _ (by omega) (by simp; omega))
    · rw [if_neg h]
      refine ev_dec (fun h => ?_) (fun h => ?_)
      · rw [if_pos h]
        exact ev_pos (by omega) (ih (i + 1) _ (by omega) (by simp; omega))
      · rw [if_neg h]
        refine ev_dec (fun h => ?_) (fun h => ?_)
        · rw [if_pos h]
          exact ev_pos (by omega) (ih (i + 1) _ (by omega) (by simp; omega))
        · rw [if_neg h]
          refine ev_dec (fun h => ?_) (fun h => ?_)
          · rw [if_pos h, List.append_nil]
            exact ih (i + 1) _ (by omega) (by omega)
          · rw [if_neg h]
            exact ev_pos (by omega) (ih (i + 1) _ (by omega) (by simp; omega))
theorem PL_sev (s : ByteArray) (hs : s.size ≤ 100000000000000) : Ev (fun k => spec_PlainOf.f k s) ⟨(impl_PlainOf.plain s.data.toList).toArray⟩ := by
  unfold spec_PlainOf.f
  have h := PL_sl s hs s.size 0 [] (by omega) (by simp)
  rw [List.nil_append, PL_nums] at h
  exact h
theorem PL_iev (s : ByteArray) (hs : s.size ≤ 100000000000000) : impl_PlainOf.f s = some ⟨(impl_PlainOf.plain s.data.toList).toArray⟩ := if_pos (by omega)

/-- What a label's text becomes. -/
def plainB (a : ByteArray) : ByteArray := ⟨(impl_PlainOf.plain a.data.toList).toArray⟩
def likeB (ba bb : Bool) (a b : ByteArray) : Bool := ba && (bb && ((plainB a).toList == (plainB b).toList))
theorem LL_sev (a b : ByteArray) (ha : a.size ≤ 100000000000000) (hb : b.size ≤ 100000000000000) (ba bb : Bool) (h1 : ba = true ↔ isLab a) (h2 : bb = true ↔ isLab b) : Ev (fun k => spec_LooksLike.f k a b) (likeB ba bb a b) := by
  unfold spec_LooksLike.f likeB
  refine ev_bind (IsLabel_sev a (by omega) ba h1) (ev_dec (fun h => ?_) (fun h => ?_))
  · rw [h, Bool.true_and]
    refine ev_bind (IsLabel_sev b (by omega) bb h2) (ev_dec (fun h => ?_) (fun h => ?_))
    · rw [h, Bool.true_and]
      exact ev_bind (PL_sev a ha) (ev_bind (PL_sev b hb) (ev_const rfl))
    · rw [show bb = false from by simpa using h, Bool.false_and]
      exact ev_const rfl
  · rw [show ba = false from by simpa using h, Bool.false_and]
    exact ev_const rfl
theorem LL_iev (a b : ByteArray) (ha : a.size ≤ 100000000000000) (hb : b.size ≤ 100000000000000) (ba bb : Bool) (h1 : ba = true ↔ isLab a) (h2 : bb = true ↔ isLab b) : Ev (fun k => impl_LooksLike.f k a b) (likeB ba bb a b) := by
  unfold impl_LooksLike.f likeB
  refine ev_bind (IsLabel_iev a (by omega) ba h1) (ev_dec (fun h => ?_) (fun h => ?_))
  · rw [h, Bool.true_and]
    refine ev_bind (IsLabel_iev b (by omega) bb h2) (ev_dec (fun h => ?_) (fun h => ?_))
    · rw [h, Bool.true_and]
      exact ev_bindc (PL_iev a ha) (ev_bindc (PL_iev b hb) (ev_const rfl))
    · rw [show bb = false from by simpa using h, Bool.false_and]
      exact ev_const rfl
  · rw [show ba = false from by simpa using h, Bool.false_and]
    exact ev_const rfl

noncomputable def labB (a : ByteArray) : Bool := @decide (isLab a) (Classical.propDecidable _)
theorem labB_iff (a : ByteArray) : labB a = true ↔ isLab a := @decide_eq_true_iff _ (Classical.propDecidable _)
/-- Do two strings look alike. -/
noncomputable def lk (a b : ByteArray) : Bool := likeB (labB a) (labB b) a b
theorem LK_sev (a b : ByteArray) (ha : a.size ≤ 100000000000000) (hb : b.size ≤ 100000000000000) : Ev (fun k => spec_LooksLike.f k a b) (lk a b) := LL_sev a b ha hb _ _ (labB_iff _) (labB_iff _)
theorem LK_iev (a b : ByteArray) (ha : a.size ≤ 100000000000000) (hb : b.size ≤ 100000000000000) : Ev (fun k => impl_LooksLike.f k a b) (lk a b) := LL_iev a b ha hb _ _ (labB_iff _) (labB_iff _)
/-- The first place, from i on, whose string looks like a. -/
noncomputable def faL (a : ByteArray) : List ByteArray → Nat → Int
  | [], _ => -1
  | s :: l, i => if lk s a = true then (i : Int) else faL a l (i + 1)
theorem FA_sl (x : List ByteArray) (a : ByteArray) (hx : x.length ≤ 1000000000000) (hs : ∀ s ∈ x, s.size ≤ 1000000000000) (ha : a.size ≤ 1000000000000) : ∀ (d i : Nat), i + d = x.length → Ev (fun k => spec_FirstAlike.l0 k x a (i : Int)) (faL a (x.drop i) i) := by
  intro d
  induction d with
  | zero =>
    intro i hi
    refine ev_step ?_
    simp only [spec_FirstAlike.l0]
    rw [List.drop_of_length_le (by omega)]
    exact ev_neg (by omega) (ev_const rfl)
  | succ d ih =>
    intro i hi
    have hlt : i < x.length := by omega
    have hz := hs x[i] (List.getElem_mem hlt)
    refine ev_step ?_
    simp only [spec_FirstAlike.l0]
    rw [rdOf_at _ x i hlt, w64s (n := x.length) hlt (by omega), List.drop_eq_getElem_cons hlt]
    refine ev_pos (by omega) (ev_pos (by omega) (ev_bind (LK_sev x[i] a (by omega) (by omega)) ?_))
    simp only [faL]
    refine ev_dec (fun h => ?_) (fun h => ?_)
    · rw [if_pos h]
      exact ev_const rfl
    · rw [if_neg h]
      exact ih (i + 1) (by omega)
theorem FA_sev (x : List ByteArray) (a : ByteArray) (hx : x.length ≤ 1000000000000) (hs : ∀ s ∈ x, s.size ≤ 1000000000000) (ha : a.size ≤ 1000000000000) : Ev (fun k => spec_FirstAlike.f k x a) (faL a x 0) := by
  unfold spec_FirstAlike.f
  exact FA_sl x a hx hs ha x.length 0 (by omega)
theorem FA_il (a : ByteArray) (ha : a.size ≤ 1000000000000) : ∀ (x : List ByteArray) (i : Nat), (∀ s ∈ x, s.size ≤ 1000000000000) → Ev (fun k => impl_FirstAlike.at_ k a x i) (faL a x i)
  | [], _, _ => ev_const rfl
  | s :: l, i, hs => by
    have hz := hs s (by simp)
    simp only [impl_FirstAlike.at_, faL]
    refine ev_bind (LK_iev s a (by omega) (by omega)) (ev_dec (fun h => ?_) (fun h => ?_))
    · rw [if_pos h]
      exact ev_const rfl
    · rw [if_neg h]
      exact FA_il a ha l (i + 1) (fun t ht => hs t (by simp [ht]))
theorem FA_iev (x : List ByteArray) (a : ByteArray) (hx : x.length ≤ 1000000000000) (hs : ∀ s ∈ x, s.size ≤ 1000000000000) (ha : a.size ≤ 1000000000000) : Ev (fun k => impl_FirstAlike.f k x a) (faL a x 0) := by
  unfold impl_FirstAlike.f
  exact ev_pos (by omega) (FA_il a ha x 0 hs)
end OfFnExactFirstAlike
open OfFnExactFirstAlike in
theorem FnExactFirstAlike : laws_FnExactFirstAlike.Pure := by
  intro x a hx hsx ha
  apply Ev.rounds
  unfold laws_FnExactFirstAlike.f
  refine ev_dec (fun _ => ev_const rfl) (fun h1 => ?_)
  obtain ⟨r, e, r0, r1, r2⟩ := szStr_ok x 1048576 hx hsx (by omega) (by omega)
  refine ev_bind e (ev_dec (fun _ => ev_const rfl) (fun h0 => ?_))
  have hxl := (r2 (by omega)).1
  have hxs : ∀ s ∈ x, s.size ≤ 1000000000000 := fun s q => by have := (r2 (by omega)).2 s q; omega
  have e0 := toStr_ev x (by omega)
  have q0 := eqStr_refl x (by omega)
  have s := FA_sev x a (by omega) hxs (by omega)
  have g := FA_iev x a (by omega) hxs (by omega)
  refine ev_bind e0 (ev_bind s (ev_bind e0 (ev_bind g (ev_pos rfl ?_))))
  exact ev_bind e0 (ev_bind q0 (ev_pos rfl (ev_const rfl)))
end Go.Proofs.Ytnkgglihlmileaa.Pure
