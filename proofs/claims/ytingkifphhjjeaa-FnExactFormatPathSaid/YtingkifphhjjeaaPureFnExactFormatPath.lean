/- The pure statement of FnExactFormatPath: what the printed functions compute answers true for all arguments within the printed bounds. -/
import Derived.Test.YtingkifphhjjeaaPFnExactFormatPathx3
import Derived.Test.YtingkifphhjjeaaKit
namespace Go.Proofs.Ytingkifphhjjeaa.Pure
open Go.RowKit Go.Proofs.Ytingkifphhjjeaa.PFnExactFormatPath Go.Proofs.YtingkifphhjjeaaW.PrintWords Go.Proofs.YtingkifphhjjeaaW.PrintLast Go.Proofs.Ytingkifphhjjeaa.Kit
set_option linter.unusedVariables false
set_option linter.unusedSimpArgs false
namespace OfFnExactFormatPath
theorem szStr_l (x : List ByteArray) (hx : x.length ≤ 9223372036854775806) (hs : ∀ s ∈ x, s.size ≤ maxLen) : ∀ (d i : Nat) (a : Int), i + d = x.length → 0 ≤ a → a ≤ 9000000000000000 →
    ∃ r, Ev (fun k => laws_szStringS.l0 k x a (i : Int)) r ∧ -1 ≤ r ∧ r ≤ a ∧ (0 ≤ r → ∀ s ∈ x.drop i, (s.size : Int) ≤ a) := by
  intro d
  induction d with
  | zero =>
    intro i a hi h0 h1
    refine ⟨a, ev_step ?_, by omega, by omega, fun _ => by rw [List.drop_of_length_le (by omega)]; simp⟩
    simp only [laws_szStringS.l0]
    exact ev_neg (by omega) (ev_const rfl)
  | succ d ih =>
    intro i a hi h0 h1
    have hlt : i < x.length := by omega
    have hz := hs x[i] (List.getElem_mem hlt)
    unfold maxLen at hz
    by_cases hn : a - (x[i].size : Int) < 0
    · refine ⟨-1, ev_step ?_, by omega, by omega, fun z => by omega⟩
      simp only [laws_szStringS.l0]
      rw [rdOf_at _ x i hlt, w64 (i := a - (x[i].size : Int)) (by omega) (by omega)]
      exact ev_pos (by omega) (ev_pos (by omega) (ev_pos hn (ev_const rfl)))
    · obtain ⟨r, e, r0, r1, r2⟩ := ih (i + 1) (a - (x[i].size : Int)) (by omega) (by omega) (by omega)
      refine ⟨r, ev_step ?_, r0, by omega, fun z => ?_⟩
      · simp only [laws_szStringS.l0]
        rw [rdOf_at _ x i hlt, w64 (i := a - (x[i].size : Int)) (by omega) (by omega), w64s (n := x.length) hlt (by omega)]
        exact ev_pos (by omega) (ev_pos (by omega) (ev_neg hn e))
      · rw [List.drop_eq_getElem_cons hlt]
        intro s hs2
        rcases List.mem_cons.1 hs2 with rfl | hs2
        · omega
        · have := r2 z s hs2
          omega
theorem szStr_ok (x : List ByteArray) (a : Int) (hl : x.length ≤ maxLen) (hs : ∀ s ∈ x, s.size ≤ maxLen) (h0 : 0 ≤ a) (h1 : a ≤ 9000000000000000) :
    ∃ r, Ev (fun k => laws_szStringS.f k x a) r ∧ -1 ≤ r ∧ r ≤ a ∧ (0 ≤ r → (x.length : Int) ≤ a ∧ ∀ s ∈ x, (s.size : Int) ≤ a) := by
  unfold maxLen at hl
  unfold laws_szStringS.f
  rw [w64 (i := a - (x.length : Int)) (by omega) (by omega)]
  by_cases hn : a - (x.length : Int) < 0
  · exact ⟨-1, ev_pos hn (ev_const rfl), by omega, by omega, fun z => by omega⟩
  · obtain ⟨r, e, r0, r1, r2⟩ := szStr_l x (by omega) hs x.length 0 (a - (x.length : Int)) (by omega) (by omega) (by omega)
    refine ⟨r, ev_neg hn e, r0, by omega, fun z => ⟨by omega, fun s hs2 => ?_⟩⟩
    have := r2 z s (by simpa using hs2)
    omega

theorem toStr_ev (x : List ByteArray) (hx : x.length ≤ 17592186044416) : Ev (fun k => laws_toStringS.f k x) x := by
  unfold laws_toStringS.f
  refine ev_pos (by omega) (ev_pos (by omega) ?_)
  exact copy_loop (L := laws_toStringS.l0) (rdf := rdOf ByteArray.empty) (fun _ _ _ _ => rfl) (rdOf_at ByteArray.empty) x (by omega) x.length 0 _ (by omega) (by simp) (by simp)

theorem str_eq (a b : ByteArray) : a.toList = b.toList ↔ a = b := ⟨fun h => Go.WideShapes.bytes_inj (by rw [← ByteArray.toList_eq, ← ByteArray.toList_eq]; exact h), fun h => by rw [h]⟩
theorem str_at (x y : List ByteArray) (i : Nat) (h : i < x.length) (h' : i < y.length) : (rdOf ByteArray.empty x (i : Int)).toList = (rdOf ByteArray.empty y (i : Int)).toList ↔ x[i] = y[i] := by
  rw [rdOf_at _ x i h, rdOf_at _ y i h', str_eq]

theorem eqStr_ev (x y : List ByteArray) (hx : x.length ≤ 9223372036854775806) (b : Bool) (hb : b = true ↔ x = y) : Ev (fun k => laws_eqStringS.f k x y) b := by
  unfold laws_eqStringS.f
  refine ev_dec (fun h => ?_) (fun h => ?_)
  · exact eq_loop (L := laws_eqStringS.l0) (c := fun x y i => (rdOf ByteArray.empty x i).toList = (rdOf ByteArray.empty y i).toList) (fun _ _ _ _ => rfl) str_at x y hx (by omega) b x.length 0 (by omega) (by simpa using hb)
  · have e : b = false := by
      rw [Bool.eq_false_iff]
      intro z
      exact h (by rw [hb.mp z])
    subst e
    exact ev_const rfl
theorem eqStr_refl (x : List ByteArray) (hx : x.length ≤ 9223372036854775806) : Ev (fun k => laws_eqStringS.f k x x) true := eqStr_ev x x hx true (by simp)

theorem InRange_v (a b c : Int) : impl_InRange.f a b c = some (decide (b ≤ a ∧ a ≤ c)) := by
  unfold impl_InRange.f
  by_cases h : b ≤ a <;> simp [h]

theorem l1In_v (a b c : Int) : spec_l1In.f a b c = some (decide (b ≤ a ∧ a ≤ c)) := by
  unfold spec_l1In.f
  by_cases h : b ≤ a <;> simp [h]

/-- A byte of a label. -/
def okc (c : Int) : Prop := (97 ≤ c ∧ c ≤ 122) ∨ (48 ≤ c ∧ c ≤ 57) ∨ c = 45
instance (c : Int) : Decidable (okc c) := by unfold okc; exact inferInstance
/-- Is a string a label. -/
def isLab (s : ByteArray) : Prop := 1 ≤ s.size ∧ s.size ≤ 8 ∧ (∀ j : Nat, j < s.size → okc (bt s j)) ∧ bt s 0 ≠ 45 ∧ bt s ((s.size : Int) - 1) ≠ 45
theorem IsLabel_s1 (k : Nat) (x : ByteArray) (i : Int) : spec_IsLabel.l0 (k + 1) x i = if i < (x.size : Int) then (if 0 ≤ i then (if okc (bt x i) then (spec_IsLabel.l0 k x (wrap64 (i + 1))) else (some false)) else (none)) else (some true) := by
  rw [spec_IsLabel.l0]
  by_cases h1 : i < (x.size : Int)
  · by_cases h2 : 0 ≤ i
    · rw [if_pos h1, if_pos h2, if_pos h1, if_pos h2]
      by_cases hc : okc (bt x i)
      all_goals
        first | rw [if_pos (c := okc _) hc] | rw [if_neg (c := okc _) hc]
        generalize bt x i = c at hc
        unfold okc at hc
        repeat' split
        all_goals first | rfl | (exfalso; omega)
    · simp [h1, h2]
  · simp [h1]
theorem IsLabel_sl (x : ByteArray) (hx : x.size ≤ 9223372036854775806) (b : Bool) : ∀ (d i : Nat), i + d = x.size → (b = true ↔ ∀ j : Nat, i ≤ j → j < x.size → okc (bt x j)) → Ev (fun k => spec_IsLabel.l0 k x (i : Int)) b := by
  intro d
  induction d with
  | zero =>
    intro i hi hb
    have e : b = true := hb.mpr (fun j h1 h2 => by omega)
    subst e
    refine ev_step (ev_congr (fun k => IsLabel_s1 k x i) ?_)
    exact ev_neg (by omega) (ev_const rfl)
  | succ d ih =>
    intro i hi hb
    refine ev_step (ev_congr (fun k => IsLabel_s1 k x i) ?_)
    refine ev_pos (by omega) (ev_pos (by omega) (ev_dec (fun h => ?_) (fun h => ?_)))
    · rw [w64s (n := x.size) (by omega) (by omega)]
      refine ih (i + 1) (by omega) (hb.trans ⟨fun z j h1 h2 => z j (by omega) h2, fun z j h1 h2 => ?_⟩)
      by_cases e : j = i
      · subst e; exact h
      · exact z j (by omega) h2
    · have e : b = false := by
        rw [Bool.eq_false_iff]
        intro z
        exact h (hb.mp z i (by omega) (by omega))
      subst e
      exact ev_const rfl
theorem IsLabel_sev (x : ByteArray) (hx : x.size ≤ 9223372036854775806) (b : Bool) (hb : b = true ↔ isLab x) : Ev (fun k => spec_IsLabel.f k x) b := by
  unfold spec_IsLabel.f
  rw [l1In_v]
  have hf : ∀ (_ : ¬ isLab x), b = false := by
    intro h
    rw [Bool.eq_false_iff]
    intro z
    exact h (hb.mp z)
  have hj : ∀ (_ : ¬ isLab x), Ev (fun k => spec_IsLabel.j0 k x true) b := by
    intro h
    rw [hf h]
    refine ev_step ?_
    simp only [spec_IsLabel.j0]
    exact ev_const rfl
  by_cases h1 : 1 ≤ x.size ∧ x.size ≤ 8
  · refine ev_bindc (a := true) (by rw [decide_eq_true (show (1 : Int) ≤ (x.size : Int) ∧ (x.size : Int) ≤ 8 from by omega)]) ?_
    have hw : wrap64 ((x.size : Int) - 1) = (x.size : Int) - 1 := w64 (by omega) (by omega)
    rw [hw]
    refine ev_pos rfl (ev_pos (by omega) (ev_dec (fun h => ?_) (fun h => ?_)))
    · exact hj (fun z => z.2.2.2.1 h)
    · refine ev_pos (by omega) (ev_pos (by omega) ?_)
      by_cases h5 : bt x ((x.size : Int) - 1) = 45
      · rw [h5]
        exact hj (fun z => z.2.2.2.2 h5)
      · refine ev_step ?_
        simp only [spec_IsLabel.j0]
        refine ev_neg (by simpa using h5) ?_
        refine IsLabel_sl x hx b x.size 0 (by omega) (hb.trans ?_)
        unfold isLab
        exact ⟨fun z j _ hj => z.2.2.1 j hj, fun z => ⟨h1.1, h1.2, fun j hj => z j (by omega) hj, h, h5⟩⟩
  · refine ev_bindc (a := false) (by rw [decide_eq_false (show ¬ ((1 : Int) ≤ (x.size : Int) ∧ (x.size : Int) ≤ 8) from by omega)]) ?_
    refine ev_neg (by simp) ?_
    exact hj (fun z => h1 ⟨z.1, z.2.1⟩)
theorem IsLabel_i1 (k : Nat) (x : ByteArray) (n i : Int) : impl_IsLabel.l0 (k + 1) x n i = if i < n then (if 0 ≤ i then (if i < (x.size : Int) then (if okc (bt x i) ∧ (bt x i = 45 → 0 < i ∧ i < wrap64 ((x.size : Int) - 1)) then (impl_IsLabel.l0 k x n (wrap64 (i + 1))) else (some false)) else (none)) else (none)) else ((impl_InRange.f (x.size : Int) 1 8).bind fun t => some t) := by
  rw [impl_IsLabel.l0]
  by_cases h1 : i < n
  · by_cases h2 : 0 ≤ i
    · by_cases h3 : i < (x.size : Int)
      · rw [if_pos h1, if_pos h2, if_pos h3, if_pos h1, if_pos h2, if_pos h3]
        generalize wrap64 ((x.size : Int) - 1) = m
        by_cases hc : okc (bt x i) ∧ (bt x i = 45 → 0 < i ∧ i < m)
        all_goals
          first | rw [if_pos (c := okc _ ∧ _) hc] | rw [if_neg (c := okc _ ∧ _) hc]
          generalize bt x i = c at hc
          unfold okc at hc
          repeat' split
          all_goals first | rfl | (exfalso; omega)
      · simp [h1, h2, h3]
    · simp [h1, h2]
  · simp [h1]
theorem IsLabel_il (x : ByteArray) (hx : x.size ≤ 9223372036854775806) (b : Bool) : ∀ (d i : Nat), i + d = x.size → (b = true ↔ (∀ j : Nat, i ≤ j → j < x.size → okc (bt x j) ∧ (bt x j = 45 → 0 < j ∧ j + 1 < x.size)) ∧ 1 ≤ x.size ∧ x.size ≤ 8) → Ev (fun k => impl_IsLabel.l0 k x (x.size : Int) (i : Int)) b := by
  intro d
  induction d with
  | zero =>
    intro i hi hb
    refine ev_step (ev_congr (fun k => IsLabel_i1 k x _ i) ?_)
    refine ev_neg (by omega) (ev_const ?_)
    rw [InRange_v]
    have e : b = decide ((1 : Int) ≤ (x.size : Int) ∧ (x.size : Int) ≤ 8) := by
      rw [Bool.eq_iff_iff, hb, decide_eq_true_iff]
      exact ⟨fun z => by omega, fun z => ⟨fun j h1 h2 => by omega, by omega⟩⟩
    rw [e]
    rfl
  | succ d ih =>
    intro i hi hb
    have hw : wrap64 ((x.size : Int) - 1) = (x.size : Int) - 1 := w64 (by omega) (by omega)
    refine ev_step (ev_congr (fun k => IsLabel_i1 k x _ i) ?_)
    rw [hw]
    refine ev_pos (by omega) (ev_pos (by omega) (ev_pos (by omega) (ev_dec (fun h => ?_) (fun h => ?_))))
    · rw [w64s (n := x.size) (by omega) (by omega)]
      refine ih (i + 1) (by omega) (hb.trans ⟨fun z => ⟨fun j h1 h2 => z.1 j (by omega) h2, z.2⟩, fun z => ⟨fun j h1 h2 => ?_, z.2⟩⟩)
      by_cases e : j = i
      · subst e
        exact ⟨h.1, fun q => by have := h.2 q; omega⟩
      · exact z.1 j (by omega) h2
    · have e : b = false := by
        rw [Bool.eq_false_iff]
        intro z
        have q := (hb.mp z).1 i (by omega) (by omega)
        exact h ⟨q.1, fun r => by have := q.2 r; omega⟩
      subst e
      exact ev_const rfl
theorem IsLabel_iev (x : ByteArray) (hx : x.size ≤ 9223372036854775806) (b : Bool) (hb : b = true ↔ isLab x) : Ev (fun k => impl_IsLabel.f k x) b := by
  unfold impl_IsLabel.f
  refine IsLabel_il x hx b x.size 0 (by omega) (hb.trans ?_)
  unfold isLab
  constructor
  · rintro ⟨h1, h2, h3, h4, h5⟩
    refine ⟨fun j _ hj => ⟨h3 j hj, fun q => ?_⟩, h1, h2⟩
    constructor
    · rcases Nat.eq_zero_or_pos j with e | e
      · subst e; exact absurd q h4
      · exact e
    · rcases Nat.lt_or_ge (j + 1) x.size with e | e
      · exact e
      · exfalso
        apply h5
        rw [show (x.size : Int) - 1 = (j : Int) from by omega]
        exact q
  · rintro ⟨h1, h2, h3⟩
    refine ⟨h2, h3, fun j hj => (h1 j (by omega) hj).1, fun q => ?_, fun q => ?_⟩
    · have := ((h1 0 (by omega) (by omega)).2 q).1
      omega
    · have e : (x.size : Int) - 1 = ((x.size - 1 : Nat) : Int) := by omega
      rw [e] at q
      have := ((h1 (x.size - 1) (by omega) (by omega)).2 q).2
      omega
theorem lab_bool (x : ByteArray) : ∃ b : Bool, b = true ↔ isLab x := by
  by_cases h : isLab x
  · exact ⟨true, by simp [h]⟩
  · exact ⟨false, by simp [h]⟩

/-- Is a list of strings a path. -/
def isPth (l : List ByteArray) : Prop := (1 ≤ l.length ∧ l.length ≤ 4) ∧ ∀ s ∈ l, isLab s
theorem pth_bool (x : List ByteArray) : ∃ b : Bool, b = true ↔ isPth x := by
  by_cases h : isPth x
  · exact ⟨true, by simp [h]⟩
  · exact ⟨false, by simp [h]⟩
theorem IsPath_sl (x : List ByteArray) (hx : x.length ≤ 1000000000000) (hs : ∀ s ∈ x, s.size ≤ 1000000000000) (b : Bool) : ∀ (d i : Nat), i + d = x.length → (b = true ↔ (1 ≤ x.length ∧ x.length ≤ 4) ∧ ∀ s ∈ x.drop i, isLab s) → Ev (fun k => spec_IsPath.l0 k x (i : Int)) b := by
  intro d
  induction d with
  | zero =>
    intro i hi hb
    refine ev_step ?_
    simp only [spec_IsPath.l0]
    rw [List.drop_of_length_le (by omega)] at hb
    have e : b = decide ((1 : Int) ≤ (x.length : Int) ∧ (x.length : Int) ≤ 4) := by
      rw [Bool.eq_iff_iff, hb, decide_eq_true_iff]
      exact ⟨fun z => by omega, fun z => ⟨by omega, by simp⟩⟩
    exact ev_neg (by omega) (ev_bindc (l1In_v _ _ _) (ev_const (by rw [e])))
  | succ d ih =>
    intro i hi hb
    have hlt : i < x.length := by omega
    have hz := hs x[i] (List.getElem_mem hlt)
    rw [List.drop_eq_getElem_cons hlt] at hb
    refine ev_step ?_
    simp only [spec_IsPath.l0]
    rw [rdOf_at _ x i hlt, w64s (n := x.length) hlt (by omega)]
    obtain ⟨c, hc⟩ := lab_bool x[i]
    refine ev_pos (by omega) (ev_pos (by omega) (ev_bind (IsLabel_sev x[i] (by omega) c hc) (ev_dec (fun h => ?_) (fun h => ?_))))
    · exact ih (i + 1) (by omega) (hb.trans ⟨fun z => ⟨z.1, fun s q => z.2 s (List.mem_cons_of_mem _ q)⟩, fun z => ⟨z.1, fun s q => by
        rcases List.mem_cons.1 q with rfl | q
        · exact hc.mp h
        · exact z.2 s q⟩⟩)
    · have e : b = false := by
        rw [Bool.eq_false_iff]
        exact fun z => h (hc.mpr ((hb.mp z).2 _ (List.mem_cons_self)))
      rw [e]
      exact ev_const rfl
theorem IsPath_sev (x : List ByteArray) (hx : x.length ≤ 1000000000000) (hs : ∀ s ∈ x, s.size ≤ 1000000000000) (b : Bool) (hb : b = true ↔ isPth x) : Ev (fun k => spec_IsPath.f k x) b := by
  unfold spec_IsPath.f
  exact IsPath_sl x hx hs b x.length 0 (by omega) hb
theorem IsPath_any (x : List ByteArray) (hs : ∀ s ∈ x, s.size ≤ 1000000000000) : ∀ b : Bool, (b = true ↔ ∀ s ∈ x, isLab s) → Ev (fun k => impl_IsPath.any k x) (!b) := by
  induction x with
  | nil =>
    intro b hb
    obtain rfl : b = true := hb.mpr (by simp)
    exact ev_const rfl
  | cons a x ih =>
    intro b hb
    obtain ⟨c, hc⟩ := lab_bool a
    have hz := hs a (by simp)
    simp only [impl_IsPath.any]
    refine ev_bind (IsLabel_iev a (by omega) c hc) (ev_dec (fun h => ?_) (fun h => ?_))
    · exact ih (fun s q => hs s (by simp [q])) b (hb.trans ⟨fun z s q => z s (by simp [q]), fun z s q => by
        rcases List.mem_cons.1 q with rfl | q
        · exact hc.mp h
        · exact z s q⟩)
    · have e : b = false := by
        rw [Bool.eq_false_iff]
        exact fun z => h (hc.mpr (hb.mp z _ (List.mem_cons_self)))
      rw [e]
      exact ev_const rfl
theorem IsPath_iev (x : List ByteArray) (hx : x.length ≤ 1000000000000) (hs : ∀ s ∈ x, s.size ≤ 1000000000000) (b : Bool) (hb : b = true ↔ isPth x) : Ev (fun k => impl_IsPath.f k x) b := by
  unfold impl_IsPath.f
  refine ev_bindc (InRange_v _ _ _) (ev_dec (fun h => ?_) (fun h => ?_))
  · rw [decide_eq_true_iff] at h
    have z := IsPath_any x hs b (hb.trans ⟨fun q => q.2, fun q => ⟨by omega, q⟩⟩)
    exact ev_bind z (ev_const (by rw [Bool.not_not]))
  · rw [decide_eq_true_iff] at h
    have e : b = false := by
      rw [Bool.eq_false_iff]
      intro z
      have := (hb.mp z).1
      omega
    rw [e]
    exact ev_const rfl

/-- The elements behind what is there, each behind a slash. -/
def fmt : List ByteArray → ByteArray → ByteArray
  | [], a => a
  | s :: l, a => fmt l ((a ++ (⟨#[47]⟩ : ByteArray)) ++ s)
theorem fmt_data : ∀ (l : List ByteArray) (a : ByteArray), (fmt l a).data.toList = a.data.toList ++ Lib.joinTail [47] (l.map (·.data.toList))
  | [], a => by simp [fmt, Lib.joinTail]
  | s :: l, a => by
    rw [fmt, fmt_data l]
    simp [Lib.joinTail, ByteArray.data_append]
theorem fmt_size : ∀ (l : List ByteArray) (a : ByteArray), (∀ s ∈ l, s.size ≤ 8) → (fmt l a).size ≤ a.size + 9 * l.length
  | [], a, _ => by simp [fmt]
  | s :: l, a, h => by
    have h1 := h s (by simp)
    have h2 := fmt_size l ((a ++ (⟨#[47]⟩ : ByteArray)) ++ s) (fun t ht => h t (by simp [ht]))
    rw [ByteArray.size_append, ByteArray.size_append] at h2
    have h3 : (⟨#[47]⟩ : ByteArray).size = 1 := rfl
    rw [fmt]
    simp only [List.length_cons]
    omega
theorem FormatPath_sl (x : List ByteArray) (hx : x.length ≤ 4) (hs : ∀ s ∈ x, s.size ≤ 8) : ∀ (d i : Nat) (a : ByteArray), i + d = x.length → a.size ≤ 1000 * i → Ev (fun k => spec_FormatPath.l0 k x a (i : Int)) (fmt (x.drop i) a) := by
  intro d
  induction d with
  | zero =>
    intro i a hi _
    refine ev_step ?_
    simp only [spec_FormatPath.l0]
    rw [List.drop_of_length_le (by omega)]
    exact ev_neg (by omega) (ev_const rfl)
  | succ d ih =>
    intro i a hi ha
    have hlt : i < x.length := by omega
    have hz := hs x[i] (List.getElem_mem hlt)
    have h3 : (⟨#[47]⟩ : ByteArray).size = 1 := rfl
    refine ev_step ?_
    simp only [spec_FormatPath.l0]
    rw [rdOf_at _ x i hlt, w64s (n := x.length) hlt (by omega), List.drop_eq_getElem_cons hlt]
    refine ev_pos (by omega) (ev_pos (by omega) (ev_pos (by omega) (ev_pos (by rw [ByteArray.size_append, h3]; omega) ?_)))
    exact ih (i + 1) _ (by omega) (by rw [ByteArray.size_append, ByteArray.size_append, h3]; omega)
end OfFnExactFormatPath
open OfFnExactFormatPath in
theorem FnExactFormatPath : laws_FnExactFormatPath.Pure := by
  intro x hx hsx
  apply Ev.rounds
  unfold laws_FnExactFormatPath.f
  obtain ⟨r, e, r0, r1, r2⟩ := szStr_ok x 1048576 hx hsx (by omega) (by omega)
  refine ev_bind e (ev_dec (fun _ => ev_const rfl) (fun h0 => ?_))
  have hxl := (r2 (by omega)).1
  have hxs : ∀ s ∈ x, s.size ≤ 1000000000000 := fun s q => by have := (r2 (by omega)).2 s q; omega
  have e0 := toStr_ev x (by omega)
  have q0 := eqStr_refl x (by omega)
  obtain ⟨b, hb⟩ := pth_bool x
  have es := IsPath_sev x (by omega) hxs b hb
  have ei := IsPath_iev x (by omega) hxs b hb
  have key : ∃ r, Ev (fun k => spec_FormatPath.f k x) r ∧ Ev (fun k => impl_FormatPath.f k x) r := by
    unfold spec_FormatPath.f impl_FormatPath.f
    cases b with
    | false => exact ⟨⟨#[]⟩, ev_bind es (ev_neg (by simp) (ev_const rfl)), ev_bind ei (ev_neg (by simp) (ev_const rfl))⟩
    | true =>
      obtain ⟨⟨hl0, hl1⟩, hall⟩ := hb.mp rfl
      have hs8 : ∀ s ∈ x, s.size ≤ 8 := fun s q => (hall s q).2.1
      cases x with
      | nil => simp at hl0
      | cons s l =>
        have h8 := hs8 s (by simp)
        have hf := FormatPath_sl (s :: l) hl1 hs8 l.length 1 s (by simp; omega) (by omega)
        have hsz := fmt_size l s (fun t q => hs8 t (by simp [q]))
        have hv : strings_Join.v (s :: l) (⟨#[47]⟩ : ByteArray) = (fmt l s).data.toList := by
          unfold strings_Join.v
          rw [List.map_cons, Lib.join_cons, fmt_data]
        have hlen : (strings_Join.v (s :: l) (⟨#[47]⟩ : ByteArray)).length = (fmt l s).size := by rw [hv, Array.length_toList]; rfl
        simp only [List.length_cons] at hl1
        have hj : strings_Join.f (s :: l) (⟨#[47]⟩ : ByteArray) = some (fmt l s) := by
          unfold strings_Join.f
          rw [if_pos ⟨by simp, by rw [hlen]; omega, by simp; omega⟩, hv]
        exact ⟨fmt l s, ev_bind es (ev_pos rfl (ev_pos (by simp) hf)), ev_bind ei (ev_pos rfl (ev_bindc hj (ev_const rfl)))⟩
  obtain ⟨v, s, g⟩ := key
  refine ev_bind e0 (ev_bind s (ev_bind e0 (ev_bind g (ev_pos rfl ?_))))
  exact ev_bind e0 (ev_bind q0 (ev_pos rfl (ev_const rfl)))
end Go.Proofs.Ytingkifphhjjeaa.Pure
