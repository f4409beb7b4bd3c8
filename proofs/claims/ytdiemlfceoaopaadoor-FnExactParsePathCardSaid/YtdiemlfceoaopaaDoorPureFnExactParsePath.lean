/- The pure statement of FnExactParsePath: what the printed functions compute answers true for all arguments within the printed bounds. -/
import Derived.Test.YtdiemlfceoaopaaDoorPFnExactParsePathx4
import Derived.Test.YtdiemlfceoaopaaDoorKit
namespace Go.Proofs.YtdiemlfceoaopaaDoor.Pure
open Go.RowKit Go.Proofs.YtdiemlfceoaopaaDoor.PFnExactParsePath Go.Proofs.YtdiemlfceoaopaaDoorW.PrintWords Go.Proofs.YtdiemlfceoaopaaDoorW.PrintLast Go.Proofs.YtdiemlfceoaopaaDoor.Kit
set_option linter.unusedVariables false
set_option linter.unusedSimpArgs false
namespace OfFnExactParsePath
theorem str_eq (a b : ByteArray) : a.toList = b.toList ↔ a = b := ⟨fun h => Go.WideShapes.bytes_inj (by rw [← ByteArray.toList_eq, ← ByteArray.toList_eq]; exact h), fun h => by rw [h]⟩
theorem str_at (x y : List ByteArray) (i : Nat) (h : i < x.length) (h' : i < y.length) : (rdOf ByteArray.empty x (i : Int)).toList = (rdOf ByteArray.empty y (i : Int)).toList ↔ x[i] = y[i] := by
  rw [rdOf_at _ x i h, rdOf_at _ y i h', str_eq]

theorem eqStr_ev (x y : List ByteArray) (hx : x.length ≤ 9223372036854775806) (b : Bool) (hb : b = true ↔ x = y) : Ev (fun k => laws_eqStringS.f k x y) b := by
  unfold laws_eqStringS.f
  refine ev_dec (fun h => ?_) (fun h => ?_)
  · exact eq_loop (L := laws_eqStringS.l0) (c := fun x y i => (rdOf ByteArray.empty x i).toList = (rdOf ByteArray.empty y i).toList) (fun _ _ _ _ => rfl) str_at x y hx (by omega) b x.length 0 (by omega) (by simpa using hb)
  · have e : b = false := by
      rw [Bool.eq_false_iff]
      intro z
      exact h (by rw [hb.mp z])
    subst e
    exact ev_const rfl
theorem eqStr_refl (x : List ByteArray) (hx : x.length ≤ 9223372036854775806) : Ev (fun k => laws_eqStringS.f k x x) true := eqStr_ev x x hx true (by simp)

theorem markText_l : ∀ (N n : Nat) (x : ByteArray), n ≤ N → n ≤ 1000000000000000000 → x.size + n ≤ 4000000000000000000 → ∃ t, Ev (fun k => laws_markText.l0 k (n : Int) x) t := by
  intro N
  induction N with
  | zero =>
    intro n x hn h1 h2
    refine ⟨(⟨#[109]⟩ : ByteArray) ++ x, ev_step ?_⟩
    simp only [laws_markText.l0]
    exact ev_neg (by omega) (ev_pos (by omega) (ev_const rfl))
  | succ N ih =>
    intro n x hn h1 h2
    rcases Nat.eq_zero_or_pos n with e | e
    · refine ⟨(⟨#[109]⟩ : ByteArray) ++ x, ev_step ?_⟩
      simp only [laws_markText.l0]
      exact ev_neg (by omega) (ev_pos (by omega) (ev_const rfl))
    · have hs : ∀ v : Int, (strOfNums [v]).size = 1 := fun v => by rw [strOfNums_size]; rfl
      obtain ⟨t, ht⟩ := ih (n / 10) (strOfNums [(wrap64 (48 + (Int.tmod (n : Int) 10))) % 256] ++ x) (by omega) (by omega) (by rw [ByteArray.size_append, hs]; omega)
      refine ⟨t, ev_step ?_⟩
      simp only [laws_markText.l0]
      refine ev_pos (by omega) (ev_bindc rfl (ev_pos (by rw [hs]; omega) ?_))
      rw [show wrap64 (Int.tdiv (n : Int) 10) = ((n / 10 : Nat) : Int) from by rw [Int.tdiv_eq_ediv_of_nonneg (by omega), w64 (by omega) (by omega)]; omega]
      exact ht
theorem markText_ok (m : Int) : ∃ t, (0 ≤ m ∧ m ≤ 1000000000000000000 → Ev (fun k => laws_markText.f k m) t) := by
  by_cases h : 0 ≤ m ∧ m ≤ 1000000000000000000
  · unfold laws_markText.f
    rcases Int.lt_or_le 0 m with e | e
    · obtain ⟨n, rfl⟩ := Int.eq_ofNat_of_zero_le h.1
      obtain ⟨t, ht⟩ := markText_l n n ⟨#[]⟩ (Nat.le_refl _) (by omega) (by simp [ByteArray.size]; omega)
      exact ⟨t, fun _ => ev_neg (by omega) ht⟩
    · exact ⟨_, fun _ => ev_pos e (ev_const rfl)⟩
  · exact ⟨ByteArray.empty, fun z => absurd z h⟩
noncomputable def markT (m : Int) : ByteArray := Classical.choose (markText_ok m)
theorem markT_ev (m : Int) (h0 : 0 ≤ m) (h1 : m ≤ 1000000000000000000) : Ev (fun k => laws_markText.f k m) (markT m) := Classical.choose_spec (markText_ok m) ⟨h0, h1⟩
theorem markStr_l (n : Nat) (m : Int) (hm : 0 ≤ m) (hn : m + n ≤ 1000000000000000000) :
    ∀ (d i : Nat) (x : List ByteArray), i + d = n → x.length = n → x.take i = mk markT m i → Ev (fun k => laws_markStringS.l0 k x (m + (i : Int)) (i : Int)) (m + (n : Int), mk markT m n) := by
  intro d
  induction d with
  | zero =>
    intro i x hi hx ht
    obtain rfl : i = n := by omega
    have e : x = mk markT m i := by rw [← ht, List.take_of_length_le (by omega)]
    refine ev_step ?_
    simp only [laws_markStringS.l0]
    rw [← e]
    exact ev_neg (by omega) (ev_const rfl)
  | succ d ih =>
    intro i x hi hx ht
    refine ev_step ?_
    simp only [laws_markStringS.l0]
    refine ev_pos (by omega) (ev_bind (markT_ev _ (by omega) (by omega)) (ev_pos (by omega) ?_))
    rw [w64s (n := n) (by omega) (by omega), w64 (i := m + (i : Int) + 1) (by omega) (by omega), show m + (i : Int) + 1 = m + ((i + 1 : Nat) : Int) from by omega]
    refine ih (i + 1) _ (by omega) (by simpa using hx) ?_
    apply List.ext_getElem
    · simp [mk_length]; omega
    · intro j h1 h2
      rw [mk_get]
      simp only [List.getElem_take, Int.toNat_natCast, List.getElem_set]
      by_cases hj : i = j
      · subst hj; simp
      · rw [if_neg hj]
        have hji : j < i := by
          have := mk_length markT m (i + 1)
          omega
        have e := congrArg (fun l => l[j]?) ht
        simp only [List.getElem?_take, hji, if_true] at e
        rw [List.getElem?_eq_getElem (by omega), List.getElem?_eq_getElem (by rw [mk_length]; omega), mk_get] at e
        exact Option.some.inj e
theorem markStr_ev (x : List ByteArray) (hx : x.length ≤ 100000000000000000) (m : Int) (h0 : 0 ≤ m) (h1 : m ≤ 100000000000000000) : Ev (fun k => laws_markStringS.f k x m) (m + (x.length : Int), mk markT m x.length) := by
  unfold laws_markStringS.f
  have h := markStr_l x.length m h0 (by omega) x.length 0 x (by omega) rfl (by simp [mk])
  simpa using h
theorem heldStr_l (n : Nat) (m : Int) (hm : 0 ≤ m) (hn : m + n ≤ 1000000000000000000) :
    ∀ (d i : Nat), i + d = n → Ev (fun k => laws_heldStringS.l0 k (mk markT m n) (m + (i : Int)) (i : Int)) (m + (n : Int)) := by
  intro d
  induction d with
  | zero =>
    intro i hi
    obtain rfl : i = n := by omega
    refine ev_step ?_
    simp only [laws_heldStringS.l0]
    exact ev_neg (by rw [mk_length]; omega) (ev_const rfl)
  | succ d ih =>
    intro i hi
    have hlt : i < (mk markT m n).length := by rw [mk_length]; omega
    refine ev_step ?_
    simp only [laws_heldStringS.l0]
    refine ev_pos (by omega) (ev_pos (by omega) (ev_bind (markT_ev _ (by omega) (by omega)) (ev_pos (by rw [rdOf_at _ _ i hlt, mk_get]) ?_)))
    rw [w64s (n := n) (by omega) (by omega), w64 (i := m + (i : Int) + 1) (by omega) (by omega), show m + (i : Int) + 1 = m + ((i + 1 : Nat) : Int) from by omega]
    exact ih (i + 1) (by omega)
theorem heldStr_ev (n : Nat) (hx : n ≤ 100000000000000000) (m : Int) (h0 : 0 ≤ m) (h1 : m ≤ 100000000000000000) : Ev (fun k => laws_heldStringS.f k (mk markT m n) m) (m + (n : Int)) := by
  unfold laws_heldStringS.f
  have h := heldStr_l n m h0 (by omega) n 0 (by omega)
  simpa using h

theorem InRange_v (a b c : Int) : impl_InRange.f a b c = some (decide (b ≤ a ∧ a ≤ c)) := by
  unfold impl_InRange.f
  by_cases h : b ≤ a <;> simp [h]

theorem l1In_v (a b c : Int) : spec_l1In.f a b c = some (decide (b ≤ a ∧ a ≤ c)) := by
  unfold spec_l1In.f
  by_cases h : b ≤ a <;> simp [h]

/-- A byte of a label. -/
def okc (c : Int) : Prop := (97 ≤ c ∧ c ≤ 122) ∨ (48 ≤ c ∧ c ≤ 57) ∨ c = 45
instance (c : Int) : Decidable (okc c) := by unfold okc; exact inferInstance
/-- Is a string a label. -/
def isLab (s : ByteArray) : Prop := 1 ≤ s.size ∧ s.size ≤ 8 ∧ (∀ j : Nat, j < s.size → okc (bt s j)) ∧ bt s 0 ≠ 45 ∧ bt s ((s.size : Int) - 1) ≠ 45
theorem IsLabel_s1 (k : Nat) (x : ByteArray) (i : Int) : spec_IsLabel.l0 (k + 1) x i = if i < (x.size : Int) then (if 0 ≤ i then (if okc (bt x i) then (spec_IsLabel.l0 k x (wrap64 (i + 1))) else (some false)) else (none)) else (some true) := by
  rw [spec_IsLabel.l0]
  by_cases h1 : i < (x.size : Int)
  · by_cases h2 : 0 ≤ i
    · rw [if_pos h1, if_pos h2, if_pos h1, if_pos h2]
      by_cases hc : okc (bt x i)
      all_goals
        first | rw [if_pos (c := okc _) hc] | rw [if_neg (c := okc _) hc]
        generalize bt x i = c at hc
        unfold okc at hc
        repeat' split
        all_goals first | rfl | (exfalso; omega)
    · simp [h1, h2]
  · simp [h1]
theorem IsLabel_sl (x : ByteArray) (hx : x.size ≤ 9223372036854775806) (b : Bool) : ∀ (d i : Nat), i + d = x.size → (b = true ↔ ∀ j : Nat, i ≤ j → j < x.size → okc (bt x j)) → Ev (fun k => spec_IsLabel.l0 k x (i : Int)) b := by
  intro d
  induction d with
  | zero =>
    intro i hi hb
    have e : b = true := hb.mpr (fun j h1 h2 => by omega)
    subst e
    refine ev_step (ev_congr (fun k => IsLabel_s1 k x i) ?_)
    exact ev_neg (by omega) (ev_const rfl)
  | succ d ih =>
    intro i hi hb
    refine ev_step (ev_congr (fun k => IsLabel_s1 k x i) ?_)
    refine ev_pos (by omega) (ev_pos (by omega) (ev_dec (fun h => ?_) (fun h => ?_)))
    · rw [w64s (n := x.size) (by omega) (by omega)]
      refine ih (i + 1) (by omega) (hb.trans ⟨fun z j h1 h2 => z j (by omega) h2, fun z j h1 h2 => ?_⟩)
      by_cases e : j = i
      · subst e; exact h
      · exact z j (by omega) h2
    · have e : b = false := by
        rw [Bool.eq_false_iff]
        intro z
        exact h (hb.mp z i (by omega) (by omega))
      subst e
      exact ev_const rfl
theorem IsLabel_sev (x : ByteArray) (hx : x.size ≤ 9223372036854775806) (b : Bool) (hb : b = true ↔ isLab x) : Ev (fun k => spec_IsLabel.f k x) b := by
  unfold spec_IsLabel.f
  rw [l1In_v]
  have hf : ∀ (_ : ¬ isLab x), b = false := by
    intro h
    rw [Bool.eq_false_iff]
    intro z
    exact h (hb.mp z)
  have hj : ∀ (_ : ¬ isLab x), Ev (fun k => spec_IsLabel.j0 k x true) b := by
    intro h
    rw [hf h]
    refine ev_step ?_
    simp only [spec_IsLabel.j0]
    exact ev_const rfl
  by_cases h1 : 1 ≤ x.size ∧ x.size ≤ 8
  · refine ev_bindc (a := true) (by rw [decide_eq_true (show (1 : Int) ≤ (x.size : Int) ∧ (x.size : Int) ≤ 8 from by omega)]) ?_
    have hw : wrap64 ((x.size : Int) - 1) = (x.size : Int) - 1 := w64 (by omega) (by omega)
    rw [hw]
    refine ev_pos rfl (ev_pos (by omega) (ev_dec (fun h => ?_) (fun h => ?_)))
    · exact hj (fun z => z.2.2.2.1 h)
    · refine ev_pos (by omega) (ev_pos (by omega) ?_)
      by_cases h5 : bt x ((x.size : Int) - 1) = 45
      · rw [h5]
        exact hj (fun z => z.2.2.2.2 h5)
      · refine ev_step ?_
        simp only [spec_IsLabel.j0]
        refine ev_neg (by simpa using h5) ?_
        refine IsLabel_sl x hx b x.size 0 (by omega) (hb.trans ?_)
        unfold isLab
        exact ⟨fun z j _ hj => z.2.2.1 j hj, fun z => ⟨h1.1, h1.2, fun j hj => z j (by omega) hj, h, h5⟩⟩
  · refine ev_bindc (a := false) (by rw [decide_eq_false (show ¬ ((1 : Int) ≤ (x.size : Int) ∧ (x.size : Int) ≤ 8) from by omega)]) ?_
    refine ev_neg (by simp) ?_
    exact hj (fun z => h1 ⟨z.1, z.2.1⟩)
theorem IsLabel_i1 (k : Nat) (x : ByteArray) (n i : Int) : impl_IsLabel.l0 (k + 1) x n i = if i < n then (if 0 ≤ i then (if i < (x.size : Int) then (if okc (bt x i) ∧ (bt x i = 45 → 0 < i ∧ i < wrap64 ((x.size : Int) - 1)) then (impl_IsLabel.l0 k x n (wrap64 (i + 1))) else (some false)) else (none)) else (none)) else ((impl_InRange.f (x.size : Int) 1 8).bind fun t => some t) := by
  rw [impl_IsLabel.l0]
  by_cases h1 : i < n
  · by_cases h2 : 0 ≤ i
    · by_cases h3 : i < (x.size : Int)
      · rw [if_pos h1, if_pos h2, if_pos h3, if_pos h1, if_pos h2, if_pos h3]
        generalize wrap64 ((x.size : Int) - 1) = m
        by_cases hc : okc (bt x i) ∧ (bt x i = 45 → 0 < i ∧ i < m)
        all_goals
          first | rw [if_pos (c := okc _ ∧ _) hc] | rw [if_neg (c := okc _ ∧ _) hc]
          generalize bt x i = c at hc
          unfold okc at hc
          repeat' split
          all_goals first | rfl | (exfalso; omega)
      · simp [h1, h2, h3]
    · simp [h1, h2]
  · simp [h1]
theorem IsLabel_il (x : ByteArray) (hx : x.size ≤ 9223372036854775806) (b : Bool) : ∀ (d i : Nat), i + d = x.size → (b = true ↔ (∀ j : Nat, i ≤ j → j < x.size → okc (bt x j) ∧ (bt x j = 45 → 0 < j ∧ j + 1 < x.size)) ∧ 1 ≤ x.size ∧ x.size ≤ 8) → Ev (fun k => impl_IsLabel.l0 k x (x.size : Int) (i : Int)) b := by
  intro d
  induction d with
  | zero =>
    intro i hi hb
    refine ev_step (ev_congr (fun k => IsLabel_i1 k x _ i) ?_)
    refine ev_neg (by omega) (ev_const ?_)
    rw [InRange_v]
    have e : b = decide ((1 : Int) ≤ (x.size : Int) ∧ (x.size : Int) ≤ 8) := by
      rw [Bool.eq_iff_iff, hb, decide_eq_true_iff]
      exact ⟨fun z => by omega, fun z => ⟨fun j h1 h2 => by omega, by omega⟩⟩
    rw [e]
    rfl
  | succ d ih =>
    intro i hi hb
    have hw : wrap64 ((x.size : Int) - 1) = (x.size : Int) - 1 := w64 (by omega) (by omega)
    refine ev_step (ev_congr (fun k => IsLabel_i1 k x _ i) ?_)
    rw [hw]
    refine ev_pos (by omega) (ev_pos (by omega) (ev_pos (by omega) (ev_dec (fun h => ?_) (fun h => ?_))))
    · rw [w64s (n := x.size) (by omega) (by omega)]
      refine ih (i + 1) (by omega) (hb.trans ⟨fun z => ⟨fun j h1 h2 => z.1 j (by omega) h2, z.2⟩, fun z => ⟨fun j h1 h2 => ?_, z.2⟩⟩)
      by_cases e : j = i
      · subst e
        exact ⟨h.1, fun q => by have := h.2 q; omega⟩
      · exact z.1 j (by omega) h2
    · have e : b = false := by
        rw [Bool.eq_false_iff]
        intro z
        have q := (hb.mp z).1 i (by omega) (by omega)
        exact h ⟨q.1, fun r => by have := q.2 r; omega⟩
      subst e
      exact ev_const rfl
theorem IsLabel_iev (x : ByteArray) (hx : x.size ≤ 9223372036854775806) (b : Bool) (hb : b = true ↔ isLab x) : Ev (fun k => impl_IsLabel.f k x) b := by
  unfold impl_IsLabel.f
  refine IsLabel_il x hx b x.size 0 (by omega) (hb.trans ?_)
  unfold isLab
  constructor
  · rintro ⟨h1, h2, h3, h4, h5⟩
    refine ⟨fun j _ hj => ⟨h3 j hj, fun q => ?_⟩, h1, h2⟩
    constructor
    · rcases Nat.eq_zero_or_pos j with e | e
      · subst e; exact absurd q h4
      · exact e
    · rcases Nat.lt_or_ge (j + 1) x.size with e | e
      · exact e
      · exfalso
        apply h5
        rw [show (x.size : Int) - 1 = (j : Int) from by omega]
        exact q
  · rintro ⟨h1, h2, h3⟩
    refine ⟨h2, h3, fun j hj => (h1 j (by omega) hj).1, fun q => ?_, fun q => ?_⟩
    · have := ((h1 0 (by omega) (by omega)).2 q).1
      omega
    · have e : (x.size : Int) - 1 = ((x.size - 1 : Nat) : Int) := by omega
      rw [e] at q
      have := ((h1 (x.size - 1) (by omega) (by omega)).2 q).2
      omega
theorem lab_bool (x : ByteArray) : ∃ b : Bool, b = true ↔ isLab x := by
  by_cases h : isLab x
  · exact ⟨true, by simp [h]⟩
  · exact ⟨false, by simp [h]⟩

/-- Is a list of strings a path. -/
def isPth (l : List ByteArray) : Prop := (1 ≤ l.length ∧ l.length ≤ 4) ∧ ∀ s ∈ l, isLab s
theorem pth_bool (x : List ByteArray) : ∃ b : Bool, b = true ↔ isPth x := by
  by_cases h : isPth x
  · exact ⟨true, by simp [h]⟩
  · exact ⟨false, by simp [h]⟩
theorem IsPath_sl (x : List ByteArray) (hx : x.length ≤ 1000000000000) (hs : ∀ s ∈ x, s.size ≤ 1000000000000) (b : Bool) : ∀ (d i : Nat), i + d = x.length → (b = true ↔ (1 ≤ x.length ∧ x.length ≤ 4) ∧ ∀ s ∈ x.drop i, isLab s) → Ev (fun k => spec_IsPath.l0 k x (i : Int)) b := by
  intro d
  induction d with
  | zero =>
    intro i hi hb
    refine ev_step ?_
    simp only [spec_IsPath.l0]
    rw [List.drop_of_length_le (by omega)] at hb
    have e : b = decide ((1 : Int) ≤ (x.length : Int) ∧ (x.length : Int) ≤ 4) := by
      rw [Bool.eq_iff_iff, hb, decide_eq_true_iff]
      exact ⟨fun z => by omega, fun z => ⟨by omega, by simp⟩⟩
    exact ev_neg (by omega) (ev_bindc (l1In_v _ _ _) (ev_const (by rw [e])))
  | succ d ih =>
    intro i hi hb
    have hlt : i < x.length := by omega
    have hz := hs x[i] (List.getElem_mem hlt)
    rw [List.drop_eq_getElem_cons hlt] at hb
    refine ev_step ?_
    simp only [spec_IsPath.l0]
    rw [rdOf_at _ x i hlt, w64s (n := x.length) hlt (by omega)]
    obtain ⟨c, hc⟩ := lab_bool x[i]
    refine ev_pos (by omega) (ev_pos (by omega) (ev_bind (IsLabel_sev x[i] (by omega) c hc) (ev_dec (fun h => ?_) (fun h => ?_))))
    · exact ih (i + 1) (by omega) (hb.trans ⟨fun z => ⟨z.1, fun s q => z.2 s (List.mem_cons_of_mem _ q)⟩, fun z => ⟨z.1, fun s q => by
        rcases List.mem_cons.1 q with rfl | q
        · exact hc.mp h
        · exact z.2 s q⟩⟩)
    · have e : b = false := by
        rw [Bool.eq_false_iff]
        exact fun z => h (hc.mpr ((hb.mp z).2 _ (List.mem_cons_self)))
      rw [e]
      exact ev_const rfl
theorem IsPath_sev (x : List ByteArray) (hx : x.length ≤ 1000000000000) (hs : ∀ s ∈ x, s.size ≤ 1000000000000) (b : Bool) (hb : b = true ↔ isPth x) : Ev (fun k => spec_IsPath.f k x) b := by
  unfold spec_IsPath.f
  exact IsPath_sl x hx hs b x.length 0 (by omega) hb
theorem IsPath_any (x : List ByteArray) (hs : ∀ s ∈ x, s.size ≤ 1000000000000) : ∀ b : Bool, (b = true ↔ ∀ s ∈ x, isLab s) → Ev (fun k => impl_IsPath.any k x) (!b) := by
  induction x with
  | nil =>
    intro b hb
    obtain rfl : b = true := hb.mpr (by simp)
    exact ev_const rfl
  | cons a x ih =>
    intro b hb
    obtain ⟨c, hc⟩ := lab_bool a
    have hz := hs a (by simp)
    simp only [impl_IsPath.any]
    refine ev_bind (IsLabel_iev a (by omega) c hc) (ev_dec (fun h => ?_) (fun h => ?_))
    · exact ih (fun s q => hs s (by simp [q])) b (hb.trans ⟨fun z s q => z s (by simp [q]), fun z s q => by
        rcases List.mem_cons.1 q with rfl | q
        · exact hc.mp h
        · exact z s q⟩)
    · have e : b = false := by
        rw [Bool.eq_false_iff]
        exact fun z => h (hc.mpr (hb.mp z _ (List.mem_cons_self)))
      rw [e]
      exact ev_const rfl
theorem IsPath_iev (x : List ByteArray) (hx : x.length ≤ 1000000000000) (hs : ∀ s ∈ x, s.size ≤ 1000000000000) (b : Bool) (hb : b = true ↔ isPth x) : Ev (fun k => impl_IsPath.f k x) b := by
  unfold impl_IsPath.f
  refine ev_bindc (InRange_v _ _ _) (ev_dec (fun h => ?_) (fun h => ?_))
  · rw [decide_eq_true_iff] at h
    have z := IsPath_any x hs b (hb.trans ⟨fun q => q.2, fun q => ⟨by omega, q⟩⟩)
    exact ev_bind z (ev_const (by rw [Bool.not_not]))
  · rw [decide_eq_true_iff] at h
    have e : b = false := by
      rw [Bool.eq_false_iff]
      intro z
      have := (hb.mp z).1
      omega
    rw [e]
    exact ev_const rfl

theorem BT_byte (s : ByteArray) (i : Nat) (h : i < s.size) : bt s (i : Int) = ((s.data.toList[i]'(by rw [data_length]; exact h)).toNat : Int) := by
  rw [← rd_bytesOf, rd_at _ i (by rw [bytesOf_length]; exact h)]
  simp [bytesOf]

/-- A list of bytes cut at its slashes. -/
def cut : List UInt8 → List (List UInt8)
  | [] => [[]]
  | c :: l => if c = 47 then [] :: cut l else match cut l with
    | [] => [[c]]
    | h :: t => (c :: h) :: t
theorem cut_cons (c : UInt8) (l : List UInt8) (h : List UInt8) (t : List (List UInt8)) (e : cut l = h :: t) : cut (c :: l) = if c = 47 then [] :: h :: t else (c :: h) :: t := by
  rw [cut, e]
theorem cut_ne : ∀ l : List UInt8, ∃ h t, cut l = h :: t
  | [] => ⟨_, _, rfl⟩
  | c :: l => by
    obtain ⟨h, t, e⟩ := cut_ne l
    rw [cut_cons c l h t e]
    split
    · exact ⟨_, _, rfl⟩
    · exact ⟨_, _, rfl⟩
theorem cut_len : ∀ l : List UInt8, ∀ x ∈ cut l, x.length ≤ l.length
  | [], x, hx => by rw [cut, List.mem_singleton] at hx; subst hx; simp
  | c :: l, x, hx => by
    obtain ⟨h, t, e⟩ := cut_ne l
    have ih := cut_len l
    rw [e] at ih
    rw [cut_cons c l h t e] at hx
    have hh := ih h (by simp)
    split at hx
    · rcases List.mem_cons.1 hx with rfl | hx
      · simp
      · have := ih x hx
        simp
        omega
    · rcases List.mem_cons.1 hx with rfl | hx
      · simp
        exact hh
      · have := ih x (by simp [hx])
        simp
        omega
theorem cut_count : ∀ l : List UInt8, (cut l).length ≤ l.length + 1
  | [] => by simp [cut]
  | c :: l => by
    obtain ⟨h, t, e⟩ := cut_ne l
    have ih := cut_count l
    rw [e] at ih
    rw [cut_cons c l h t e]
    simp only [List.length_cons] at *
    split <;> simp <;> omega
theorem cut_index : ∀ l : List UInt8, (Lib.index l [47] = -1 ∧ cut l = [l]) ∨ ∃ i : Nat, Lib.index l [47] = (i : Int) ∧ i < l.length ∧ cut l = l.take i :: cut (l.drop (i + 1))
  | [] => Or.inl ⟨rfl, rfl⟩
  | b :: l => by
    have hi : Lib.index (b :: l) [47] = if b = 47 then 0 else if Lib.index l [47] == -1 then -1 else Lib.index l [47] + 1 := by
      rw [Lib.index]
      by_cases hb : b = 47
      · subst hb
        rfl
      · have hp : List.isPrefixOf [47] (b :: l) = false := by
          simp [List.isPrefixOf]
          exact fun z => hb z.symm
        rw [hp, if_neg (by simp), if_neg hb]
    rw [hi]
    by_cases hb : b = 47
    · subst hb
      rw [if_pos rfl]
      obtain ⟨h, t, e⟩ := cut_ne l
      exact Or.inr ⟨0, rfl, by simp, by rw [cut_cons 47 l h t e, if_pos rfl, List.take_zero, Nat.zero_add, List.drop_succ_cons, List.drop_zero, e]⟩
    · rw [if_neg hb]
      rcases cut_index l with ⟨h1, h2⟩ | ⟨i, h1, h2, h3⟩
      · exact Or.inl ⟨by rw [h1]; rfl, by rw [cut_cons b l l [] h2, if_neg hb]⟩
      · refine Or.inr ⟨i + 1, ?_, by simp; omega, ?_⟩
        · rw [h1, if_neg (by rw [beq_iff_eq]; omega)]
          rfl
        · rw [cut_cons b l _ _ h3, if_neg hb]
          rfl
def baL (l : List UInt8) : ByteArray := ⟨l.toArray⟩
theorem ba_extract (s : ByteArray) (a b : Nat) : s.extract a b = baL ((s.data.toList.take b).drop a) := by
  unfold baL
  apply ByteArray.ext
  rw [ByteArray.data_extract]
  apply Array.ext'
  rw [Array.toList_extract, List.extract_eq_take_drop]
  show _ = (s.data.toList.take b).drop a
  rw [List.drop_take]
theorem parts_cut : ∀ (n : Nat) (s : ByteArray), s.size ≤ n → impl_ParsePath.parts s = (cut s.data.toList).map baL := by
  intro n
  induction n with
  | zero =>
    intro s hs
    have e : s.data.toList = [] := List.eq_nil_of_length_eq_zero (by rw [data_length]; omega)
    rw [e]
    have hx : Lib.indexB s ⟨#[47]⟩ = -1 := by unfold Lib.indexB; rw [e]; rfl
    unfold impl_ParsePath.parts
    rw [Lib.splitB_miss _ _ _ _ hx]
    show [s] = [baL []]
    rw [← e]
    rfl
  | succ n ih =>
    intro s hs
    rcases cut_index s.data.toList with ⟨h1, h2⟩ | ⟨i, h1, h2, h3⟩
    · have hx : Lib.indexB s ⟨#[47]⟩ = -1 := h1
      unfold impl_ParsePath.parts
      rw [Lib.splitB_miss _ _ _ _ hx, h2]
      rfl
    · have hx : Lib.indexB s ⟨#[47]⟩ = (i : Int) := h1
      have hc := Lib.countB_hit s ⟨#[47]⟩ i (by decide) hx
      rw [data_length] at h2
      have hsz : (s.extract (i + 1) s.size).size ≤ n := by rw [ByteArray.size_extract]; omega
      have hr := ih (s.extract (i + 1) s.size) hsz
      unfold impl_ParsePath.parts at hr ⊢
      rw [hc, Nat.add_comm, Lib.splitB_hit _ _ _ _ i hx, Nat.add_zero]
      have h47 : (⟨#[47]⟩ : ByteArray).size = 1 := rfl
      rw [h47, hr, h3, List.map_cons]
      congr 1
      · rw [ba_extract, List.drop_zero]
      · congr 2
        rw [ba_extract]
        show ((s.data.toList.take s.size).drop (i + 1)) = _
        rw [List.take_of_length_le (by rw [data_length]; omega)]
/-- The first part behind what is there already. -/
def glue (p : List UInt8) : List (List UInt8) → List (List UInt8)
  | [] => [p]
  | h :: t => (p ++ h) :: t
theorem split_l (s : ByteArray) (hs : s.size ≤ 1000000000000) : ∀ (d i fr : Nat) (out : List ByteArray), i + d = s.size → fr ≤ i → out.length ≤ fr →
    Ev (fun k => spec_l5Split.l0 k s 47 out (fr : Int) (i : Int)) (out ++ (glue ((s.data.toList.take i).drop fr) (cut (s.data.toList.drop i))).map baL) := by
  intro d
  induction d with
  | zero =>
    intro i fr out hi hf ho
    have hd : s.data.toList.drop i = [] := List.drop_of_length_le (by rw [data_length]; omega)
    refine ev_step ?_
    simp only [spec_l5Split.l0]
    refine ev_pos (by omega) (ev_pos (by omega) (ev_pos (by omega) (ev_pos (by omega) (ev_pos (by omega) (ev_step ?_)))))
    simp only [spec_l5Split.l0]
    rw [w64 (i := (i : Int) + 1) (by omega) (by omega)]
    refine ev_neg (by omega) (ev_const ?_)
    rw [hd, cut, glue, List.append_nil, Int.toNat_natCast, Int.toNat_natCast, ba_extract]
    rfl
  | succ d ih =>
    intro i fr out hi hf ho
    have hlt : i < s.size := by omega
    have hl : i < s.data.toList.length := by rw [data_length]; exact hlt
    obtain ⟨h, t, e⟩ := cut_ne (s.data.toList.drop (i + 1))
    refine ev_step ?_
    simp only [spec_l5Split.l0]
    rw [BT_byte s i hlt, w64 (i := (i : Int) + 1) (by omega) (by omega), List.drop_eq_getElem_cons hl, cut_cons _ _ h t e]
    have h47 : ((s.data.toList[i].toNat : Int) = 47) ↔ s.data.toList[i] = 47 := by
      rw [show (47 : Int) = (((47 : UInt8).toNat : Nat) : Int) from rfl, Int.ofNat_inj]
      exact UInt8.toNat_inj
    refine ev_pos (by omega) (ev_neg (by omega) (ev_pos (by omega) (ev_pos (by omega) (ev_dec (fun hc => ?_) (fun hc => ?_)))))
    · rw [if_pos (h47.1 hc)]
      refine ev_pos (by omega) (ev_pos (by omega) (ev_pos (by omega) ?_))
      have z := ih (i + 1) (i + 1) (out ++ [s.extract ((fr : Int)).toNat ((i : Int)).toNat]) (by omega) (Nat.le_refl _) (by simp; omega)
      rw [e, List.append_assoc] at z
      have e1 : (s.data.toList.take (i + 1)).drop (i + 1) = [] := List.drop_of_length_le (by rw [List.length_take]; omega)
      rw [e1] at z
      have e2 : [s.extract ((fr : Int)).toNat ((i : Int)).toNat] ++ (glue [] (h :: t)).map baL = (glue ((s.data.toList.take i).drop fr) ([] :: h :: t)).map baL := by
        rw [Int.toNat_natCast, Int.toNat_natCast, ba_extract]
        simp [glue]
      rw [e2] at z
      exact z
    · rw [if_neg (fun q => hc (h47.2 q))]
      have z := ih (i + 1) fr out (by omega) (by omega) ho
      rw [e] at z
      have e1 : (s.data.toList.take (i + 1)).drop fr = (s.data.toList.take i).drop fr ++ [s.data.toList[i]] := by
        rw [List.take_succ_eq_append_getElem hl, List.drop_append_of_le_length (by rw [List.length_take]; omega)]
      rw [e1] at z
      have e2 : glue ((s.data.toList.take i).drop fr ++ [s.data.toList[i]]) (h :: t) = glue ((s.data.toList.take i).drop fr) ((s.data.toList[i] :: h) :: t) := by simp [glue]
      rw [e2] at z
      exact z
theorem split_ev (s : ByteArray) (hs : s.size ≤ 1000000000000) : Ev (fun k => spec_l5Split.f k s 47) (impl_ParsePath.parts s) := by
  unfold spec_l5Split.f
  have h := split_l s hs s.size 0 0 [] (by omega) (Nat.le_refl _) (by simp)
  obtain ⟨a, t, e⟩ := cut_ne s.data.toList
  simp only [List.take_zero, List.drop_zero, List.nil_append, e] at h
  have e2 : glue ([] : List UInt8) (a :: t) = a :: t := rfl
  rw [e2, ← e, ← parts_cut s.size s (Nat.le_refl _)] at h
  exact h
theorem parts_size (s : ByteArray) : ∀ x ∈ impl_ParsePath.parts s, x.size ≤ s.size := by
  intro x hx
  rw [parts_cut s.size s (Nat.le_refl _), List.mem_map] at hx
  obtain ⟨l, hl, rfl⟩ := hx
  have h := cut_len s.data.toList l hl
  rw [data_length] at h
  have e : (baL l).size = l.length := by
    show l.toArray.size = _
    simp
  omega
/-- What a text is as a path. -/
def ppB (s : ByteArray) (b : Bool) : List ByteArray × Bool := if b = true then (impl_ParsePath.parts s, true) else ([], false)
theorem ParsePath_sev (s : ByteArray) (hs : s.size ≤ 1000000000) (b : Bool) (hb : b = true ↔ isPth (impl_ParsePath.parts s)) : Ev (fun k => spec_ParsePath.f k s) (ppB s b) := by
  unfold spec_ParsePath.f ppB
  have h1 := impl_ParsePath.parts_le s
  have h2 := parts_size s
  refine ev_bind (split_ev s (by omega)) (ev_bind (IsPath_sev _ (by omega) (fun x hx => by have := h2 x hx; omega) b hb) (ev_dec (fun h => ?_) (fun h => ?_)))
  · rw [if_pos h]
    exact ev_const rfl
  · rw [if_neg h]
    exact ev_const rfl
theorem ParsePath_iev (s : ByteArray) (hs : s.size ≤ 1000000000) (b : Bool) (hb : b = true ↔ isPth (impl_ParsePath.parts s)) : Ev (fun k => impl_ParsePath.f k s) (ppB s b) := by
  unfold impl_ParsePath.f ppB
  have h1 := impl_ParsePath.parts_le s
  have h2 := parts_size s
  exact ev_pos (by omega) (ev_bind (IsPath_iev _ (by omega) (fun x hx => by have := h2 x hx; omega) b hb) (ev_const rfl))
end OfFnExactParsePath
open OfFnExactParsePath in
theorem FnExactParsePath : laws_FnExactParsePath.Pure := by
  intro x hx
  apply Ev.rounds
  unfold laws_FnExactParsePath.f
  refine ev_dec (fun _ => ev_const rfl) (fun h0 => ?_)
  obtain ⟨b, hb⟩ := pth_bool (impl_ParsePath.parts x)
  have s := ParsePath_sev x (by omega) b hb
  have g := ParsePath_iev x (by omega) b hb
  have hr : (ppB x b).1.length ≤ 1000000000 := by
    have := impl_ParsePath.parts_le x
    unfold ppB
    split
    · show (impl_ParsePath.parts x).length ≤ _
      omega
    · simp
  generalize ppB x b = r at s g hr
  obtain ⟨r, c⟩ := r
  have hr : r.length ≤ 1000000000 := hr
  have qr := eqStr_refl r (by omega)
  have mr := markStr_ev r (by omega) 1 (by omega) (by omega)
  have hh := heldStr_ev r.length (by omega) 1 (by omega) (by omega)
  repeat' first
    | exact ev_const rfl
    | refine ev_bind s ?_
    | refine ev_bind g ?_
    | refine ev_bind qr ?_
    | refine ev_bind mr ?_
    | refine ev_bind hh ?_
    | refine ev_pos rfl ?_
    | refine ev_neg (by first | omega | (simp; done) | (simp; omega)) ?_
    | refine ev_pos (by first | omega | (simp; done) | (simp; omega)) ?_
    | (refine ev_step ?_; simp only [laws_FnExactParsePath.j0]; refine ev_neg (by simp) ?_)
    | (refine ev_step ?_; simp only [laws_FnExactParsePath.j1]; refine ev_neg (by simp) ?_)
end Go.Proofs.YtdiemlfceoaopaaDoor.Pure
