/- Plain lemmas on rounds, lists and bytes, used by the pure statements of one seat. No program in sight. -/
import Derived.Test.YtanogkaledgecaaWMore
import Derived.Test.YtanogkaledgecaaWSized
import Derived.Laws.BitsLemmas
namespace Go.Proofs.Ytanogkaledgecaa.Kit
open Go.RowKit Go.Proofs.YtanogkaledgecaaW.PrintWords Go.Proofs.YtanogkaledgecaaW.PrintLast Go.Proofs.YtanogkaledgecaaW.PrintMore

theorem w64 {i : Int} (h0 : -9223372036854775808 ≤ i) (h1 : i ≤ 9223372036854775807) : wrap64 i = i := by unfold wrap64; omega
theorem w64s {n : Nat} {i : Nat} (h : i < n) (hn : n ≤ 9223372036854775807) : wrap64 ((i : Int) + 1) = ((i + 1 : Nat) : Int) := by unfold wrap64; omega
theorem wf64 {i : Int} (h : (Lit.int .i64 i).wf = true) : -9223372036854775808 ≤ i ∧ i ≤ 9223372036854775807 := by
  simp [Lit.wf, IntKind.min, IntKind.max, IntKind.bits, IntKind.signed] at h
  omega
theorem wfu8 {i : Int} (h : (Lit.int .u8 i).wf = true) : 0 ≤ i ∧ i ≤ 255 := by
  simp [Lit.wf, IntKind.min, IntKind.max, IntKind.bits, IntKind.signed] at h
  omega

theorem ev_step {α : Type} {g : Nat → Option α} {r : α} (h : Ev (fun k => g (k + 1)) r) : Ev g r := by
  obtain ⟨K, hK⟩ := h
  refine ⟨K + 1, fun k hk => ?_⟩
  obtain ⟨m, rfl⟩ : ∃ m, k = m + 1 := ⟨k - 1, by omega⟩
  exact hK m (by omega)
theorem ev_congr {α : Type} {g f : Nat → Option α} {r : α} (h : ∀ k, g k = f k) (e : Ev f r) : Ev g r := by
  obtain ⟨K, hK⟩ := e
  exact ⟨K, fun k hk => (h k).trans (hK k hk)⟩
theorem ev_const {α : Type} {o : Option α} {r : α} (h : o = some r) : Ev (fun _ => o) r := ⟨0, fun _ _ => h⟩
theorem ev_bind {α β : Type} {g : Nat → Option α} {f : Nat → α → Option β} {a : α} {r : β} (h : Ev g a) (e : Ev (fun n => f n a) r) : Ev (fun n => (g n).bind (f n)) r := Ev.bind h e
theorem ev_bindc {α β : Type} {o : Option α} {f : Nat → α → Option β} {a : α} {r : β} (h : o = some a) (e : Ev (fun n => f n a) r) : Ev (fun n => o.bind (f n)) r := Ev.bind (ev_const h) e
theorem ev_pos {α : Type} {c : Prop} [Decidable c] {f g : Nat → Option α} {r : α} (h : c) (e : Ev f r) : Ev (fun n => if c then f n else g n) r := ev_congr (fun _ => if_pos h) e
theorem ev_neg {α : Type} {c : Prop} [Decidable c] {f g : Nat → Option α} {r : α} (h : ¬ c) (e : Ev g r) : Ev (fun n => if c then f n else g n) r := ev_congr (fun _ => if_neg h) e
theorem ev_dec {α : Type} {c : Prop} [Decidable c] {f g : Nat → Option α} {r : α} (h : c → Ev f r) (e : ¬ c → Ev g r) : Ev (fun n => if c then f n else g n) r := by
  by_cases hc : c
  · exact ev_pos hc (h hc)
  · exact ev_neg hc (e hc)
theorem ev_eq {α : Type} {g : Nat → Option α} {r s : α} (e : Ev g r) (h : r = s) : Ev g s := h ▸ e

theorem rd_at (x : List Int) (i : Nat) (h : i < x.length) : rd x (i : Int) = x[i] := by simp [rd, List.getD, h]
theorem rdOf_at {α : Type} (d : α) (x : List α) (i : Nat) (h : i < x.length) : rdOf d x (i : Int) = x[i] := by simp [rdOf, List.getD, h]

/-- A loop that copies a list into a list of the same length. -/
theorem copy_loop {α : Type} {L : Nat → List α → List α → Int → Option (List α)} {rdf : List α → Int → α}
    (hs : ∀ k x a (i : Int), L (k + 1) x a i = if i < (x.length : Int) then (if 0 ≤ i then (if i < (a.length : Int) then (L k x (a.set (i : Int).toNat (rdf x i)) (wrap64 (i + 1))) else (none)) else (none)) else (some a))
    (hr : ∀ (x : List α) (i : Nat) (h : i < x.length), rdf x (i : Int) = x[i])
    (x : List α) (hx : x.length ≤ 9223372036854775806) :
    ∀ (d i : Nat) (a : List α), i + d = x.length → a.length = x.length → a.take i = x.take i → Ev (fun k => L k x a (i : Int)) x := by
  intro d
  induction d with
  | zero =>
    intro i a hi ha ht
    have e : a = x := by
      rw [List.take_of_length_le (by omega), List.take_of_length_le (by omega)] at ht
      exact ht
    subst e
    refine ev_step (ev_congr (fun k => hs k a a i) ?_)
    exact ev_neg (by omega) (ev_const rfl)
  | succ d ih =>
    intro i a hi ha ht
    refine ev_step (ev_congr (fun k => hs k x a i) ?_)
    refine ev_pos (by omega) (ev_pos (by omega) (ev_pos (by omega) ?_))
    rw [w64s (n := x.length) (by omega) (by omega), hr x i (by omega)]
    refine ih (i + 1) _ (by omega) (by simpa using ha) ?_
    have hia : i < a.length := by omega
    have hix : i < x.length := by omega
    apply List.ext_getElem
    · simp [ha]
    · intro j h1 h2
      simp at h1 h2
      simp only [List.getElem_take, Int.toNat_natCast, List.getElem_set]
      by_cases hj : i = j
      · subst hj; simp
      · rw [if_neg hj]
        have : j < i := by omega
        have e := congrArg (fun l => l[j]?) ht
        simp only [List.getElem?_take, this, if_true] at e
        rw [List.getElem?_eq_getElem (by omega), List.getElem?_eq_getElem (by omega)] at e
        exact Option.some.inj e

/-- A loop that compares two lists of the same length. -/
theorem eq_loop {α : Type} {L : Nat → List α → List α → Int → Option Bool} {c : List α → List α → Int → Prop} [∀ x y i, Decidable (c x y i)]
    (hs : ∀ k x y (i : Int), L (k + 1) x y i = if i < (x.length : Int) then (if 0 ≤ i then (if i < (y.length : Int) then (if c x y i then (L k x y (wrap64 (i + 1))) else (some false)) else (none)) else (none)) else (some true))
    (hc : ∀ (x y : List α) (i : Nat) (h : i < x.length) (h' : i < y.length), c x y (i : Int) ↔ x[i] = y[i])
    (x y : List α) (hx : x.length ≤ 9223372036854775806) (hl : x.length = y.length) (b : Bool) :
    ∀ (d i : Nat), i + d = x.length → (b = true ↔ x.drop i = y.drop i) → Ev (fun k => L k x y (i : Int)) b := by
  intro d
  induction d with
  | zero =>
    intro i hi hb
    have e : b = true := hb.mpr (by rw [List.drop_of_length_le (by omega), List.drop_of_length_le (by omega)])
    subst e
    refine ev_step (ev_congr (fun k => hs k x y i) ?_)
    exact ev_neg (by omega) (ev_const rfl)
  | succ d ih =>
    intro i hi hb
    have h1 : i < x.length := by omega
    have h2 : i < y.length := by omega
    rw [List.drop_eq_getElem_cons h1, List.drop_eq_getElem_cons h2, List.cons.injEq] at hb
    refine ev_step (ev_congr (fun k => hs k x y i) ?_)
    refine ev_pos (by omega) (ev_pos (by omega) (ev_pos (by omega) ?_))
    refine ev_dec (fun hh => ?_) (fun hh => ?_)
    · rw [w64s (n := x.length) (by omega) (by omega)]
      have := (hc x y i h1 h2).mp hh
      exact ih (i + 1) (by omega) (by rw [hb]; exact ⟨fun z => z.2, fun z => ⟨this, z⟩⟩)
    · have hf : b = false := by
        rw [Bool.eq_false_iff]
        intro z
        exact hh ((hc x y i h1 h2).mpr (hb.mp z).1)
      subst hf
      exact ev_const rfl
/-- The same with the length handed along. -/
theorem eq_loop_n {α : Type} {L : Nat → List α → List α → Int → Int → Option Bool} {c : List α → List α → Int → Prop} [∀ x y i, Decidable (c x y i)]
    (hs : ∀ k x y (n i : Int), L (k + 1) x y n i = if i < n then (if 0 ≤ i then (if i < (x.length : Int) then (if i < (y.length : Int) then (if c x y i then (L k x y n (wrap64 (i + 1))) else (some false)) else (none)) else (none)) else (none)) else (some true))
    (hc : ∀ (x y : List α) (i : Nat) (h : i < x.length) (h' : i < y.length), c x y (i : Int) ↔ x[i] = y[i])
    (x y : List α) (hx : x.length ≤ 9223372036854775806) (hl : x.length = y.length) (b : Bool) :
    ∀ (d i : Nat), i + d = x.length → (b = true ↔ x.drop i = y.drop i) → Ev (fun k => L k x y (x.length : Int) (i : Int)) b := by
  intro d
  induction d with
  | zero =>
    intro i hi hb
    have e : b = true := hb.mpr (by rw [List.drop_of_length_le (by omega), List.drop_of_length_le (by omega)])
    subst e
    refine ev_step (ev_congr (fun k => hs k x y x.length i) ?_)
    exact ev_neg (by omega) (ev_const rfl)
  | succ d ih =>
    intro i hi hb
    have h1 : i < x.length := by omega
    have h2 : i < y.length := by omega
    rw [List.drop_eq_getElem_cons h1, List.drop_eq_getElem_cons h2, List.cons.injEq] at hb
    refine ev_step (ev_congr (fun k => hs k x y x.length i) ?_)
    refine ev_pos (by omega) (ev_pos (by omega) (ev_pos (by omega) (ev_pos (by omega) ?_)))
    refine ev_dec (fun hh => ?_) (fun hh => ?_)
    · rw [w64s (n := x.length) (by omega) (by omega)]
      have := (hc x y i h1 h2).mp hh
      exact ih (i + 1) (by omega) (by rw [hb]; exact ⟨fun z => z.2, fun z => ⟨this, z⟩⟩)
    · have hf : b = false := by
        rw [Bool.eq_false_iff]
        intro z
        exact hh ((hc x y i h1 h2).mpr (hb.mp z).1)
      subst hf
      exact ev_const rfl

/-- What marking a row of n elements with f, from m on, leaves. -/
def mk {α : Type} (f : Int → α) (m : Int) (n : Nat) : List α := (List.range n).map fun i : Nat => f (m + (i : Int))
theorem mk_length {α : Type} (f : Int → α) (m : Int) (n : Nat) : (mk f m n).length = n := by simp [mk]
theorem mk_get {α : Type} (f : Int → α) (m : Int) (n i : Nat) (h : i < (mk f m n).length) : (mk f m n)[i] = f (m + (i : Int)) := by simp [mk]
/-- A loop that marks a row. -/
theorem mark_loop {α : Type} {L : Nat → List α → Int → Int → Option (Int × List α)} {f : Int → α}
    (hs : ∀ k x (m i : Int), L (k + 1) x m i = if i < (x.length : Int) then (if 0 ≤ i then (L k (x.set (i : Int).toNat (f m)) (wrap64 (m + 1)) (wrap64 (i + 1))) else (none)) else (some (m, x)))
    (n : Nat) (m : Int) (hm : -4611686018427387904 ≤ m) (hn : m + n ≤ 4611686018427387904) (hn2 : n ≤ 4611686018427387904) :
    ∀ (d i : Nat) (x : List α), i + d = n → x.length = n → x.take i = mk f m i → Ev (fun k => L k x (m + (i : Int)) (i : Int)) (m + (n : Int), mk f m n) := by
  intro d
  induction d with
  | zero =>
    intro i x hi hx ht
    obtain rfl : i = n := by omega
    have e : x = mk f m i := by rw [← ht, List.take_of_length_le (by omega)]
    refine ev_step (ev_congr (fun k => hs k x _ i) ?_)
    rw [← e]
    exact ev_neg (by omega) (ev_const rfl)
  | succ d ih =>
    intro i x hi hx ht
    refine ev_step (ev_congr (fun k => hs k x _ i) ?_)
    refine ev_pos (by omega) (ev_pos (by omega) ?_)
    rw [w64s (n := n) (by omega) (by omega), w64 (i := m + (i : Int) + 1) (by omega) (by omega), show m + (i : Int) + 1 = m + ((i + 1 : Nat) : Int) from by omega]
    refine ih (i + 1) _ (by omega) (by simpa using hx) ?_
    apply List.ext_getElem
    · simp [mk_length]; omega
    · intro j h1 h2
      rw [mk_get]
      simp only [List.getElem_take, Int.toNat_natCast, List.getElem_set]
      by_cases hj : i = j
      · subst hj; simp
      · rw [if_neg hj]
        have hji : j < i := by
          have := mk_length f m (i + 1)
          omega
        have e := congrArg (fun l => l[j]?) ht
        simp only [List.getElem?_take, hji, if_true] at e
        rw [List.getElem?_eq_getElem (by omega), List.getElem?_eq_getElem (by rw [mk_length]; omega), mk_get] at e
        exact Option.some.inj e
/-- A loop that asks whether a row is still marked. -/
theorem held_loop {α : Type} {L : Nat → List α → Int → Int → Option Int} {f : Int → α} {c : List α → Int → Int → Prop} [∀ x i m, Decidable (c x i m)]
    (hs : ∀ k x (m i : Int), L (k + 1) x m i = if i < (x.length : Int) then (if 0 ≤ i then (if c x i m then (L k x (wrap64 (m + 1)) (wrap64 (i + 1))) else (some (-1))) else (none)) else (some m))
    (n : Nat) (m : Int) (hm : -4611686018427387904 ≤ m) (hn : m + n ≤ 4611686018427387904) (hn2 : n ≤ 4611686018427387904)
    (hc : ∀ i : Nat, i < n → c (mk f m n) (i : Int) (m + (i : Int))) :
    ∀ (d i : Nat), i + d = n → Ev (fun k => L k (mk f m n) (m + (i : Int)) (i : Int)) (m + (n : Int)) := by
  intro d
  induction d with
  | zero =>
    intro i hi
    obtain rfl : i = n := by omega
    refine ev_step (ev_congr (fun k => hs k _ _ i) ?_)
    exact ev_neg (by rw [mk_length]; omega) (ev_const rfl)
  | succ d ih =>
    intro i hi
    refine ev_step (ev_congr (fun k => hs k _ _ i) ?_)
    refine ev_pos (by rw [mk_length]; omega) (ev_pos (by omega) (ev_pos (hc i (by omega)) ?_))
    rw [w64s (n := n) (by omega) (by omega), w64 (i := m + (i : Int) + 1) (by omega) (by omega), show m + (i : Int) + 1 = m + ((i + 1 : Nat) : Int) from by omega]
    exact ih (i + 1) (by omega)
end Go.Proofs.Ytanogkaledgecaa.Kit
namespace Go.Proofs.Ytanogkaledgecaa.PrintWords
open Go.ChangeShapes Go.WideShapes
/-- The printed rows call this word by a short name. -/
theorem sized_ints {H : Type} {enc : TypeId × Value → H} {P : Program} {W : World} {base : Nat} {spare : Nat → Bool} {held : Bool} {t e : TypeId} {k : IntKind} {a : Option Addr} {len cap : Nat} {d : DataW H} {ps : List MemPlace} {ts : List TypeId} {ds : List (DataW H)} {j : Nat}
    (hsz : (DataW.weightsEach P ts ds).all (· ≤ reachBytes) = true) (ht : ts[j]? = some t) (hd : ds[j]? = some d) (hu : P.underlying t = some (.slice e)) (he : P.underlying e = some (.int k)) (hc : P.cellsOf e = 1) {B : Nat} (hB : P.bytesOf e = B)
    (h : DataW.Trod enc P W base spare held t (.slice a len cap) d ps) : len * B ≤ 140737488351232 := Go.Proofs.YtanogkaledgecaaW.PrintWords.sized_ints hsz ht hd hu he hc hB h
end Go.Proofs.Ytanogkaledgecaa.PrintWords
