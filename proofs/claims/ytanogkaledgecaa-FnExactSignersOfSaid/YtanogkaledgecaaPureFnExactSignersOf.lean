/- The pure statement of FnExactSignersOf: what the printed functions compute answers true for all arguments within the printed bounds. -/
import Derived.Test.YtanogkaledgecaaPFnExactSignersOfx5
import Derived.Test.YtanogkaledgecaaKit
namespace Go.Proofs.Ytanogkaledgecaa.Pure
open Go.RowKit Go.Proofs.Ytanogkaledgecaa.PFnExactSignersOf Go.Proofs.YtanogkaledgecaaW.PrintWords Go.Proofs.YtanogkaledgecaaW.PrintLast Go.Proofs.Ytanogkaledgecaa.Kit
set_option linter.unusedVariables false
set_option linter.unusedSimpArgs false
namespace OfFnExactSignersOf
theorem toIntS_ev (x : List Int) (hx : x.length ≤ 35184372088832) : Ev (fun k => laws_toIntS.f k x) x := by
  unfold laws_toIntS.f
  refine ev_pos (by omega) (ev_pos (by omega) ?_)
  exact copy_loop (L := laws_toIntS.l0) (rdf := rd) (fun _ _ _ _ => rfl) rd_at x (by omega) x.length 0 _ (by omega) (by simp) (by simp)

theorem eqIntS_ev (x y : List Int) (hx : x.length ≤ 9223372036854775806) (b : Bool) (hb : b = true ↔ x = y) : Ev (fun k => laws_eqIntS.f k x y) b := by
  unfold laws_eqIntS.f
  refine ev_dec (fun h => ?_) (fun h => ?_)
  · exact eq_loop (L := laws_eqIntS.l0) (c := fun x y i => rd x i = rd y i) (fun _ _ _ _ => rfl) (fun x y i h h' => by rw [rd_at x i h, rd_at y i h']) x y hx (by omega) b x.length 0 (by omega) (by simpa using hb)
  · have e : b = false := by
      rw [Bool.eq_false_iff]
      intro z
      exact h (by rw [hb.mp z])
    subst e
    exact ev_const rfl
theorem eqIntS_refl (x : List Int) (hx : x.length ≤ 9223372036854775806) : Ev (fun k => laws_eqIntS.f k x x) true := eqIntS_ev x x hx true (by simp)

theorem markIntS_ev (x : List Int) (hx : x.length ≤ 1000000000000000) (m : Int) (h0 : 0 ≤ m) (h1 : m ≤ 1000000000000000) : Ev (fun k => laws_markIntS.f k x m) (m + (x.length : Int), mk (fun m => m) m x.length) := by
  unfold laws_markIntS.f
  have h := mark_loop (L := laws_markIntS.l0) (f := fun m => m) (fun _ _ _ _ => rfl) x.length m (by omega) (by omega) (by omega) x.length 0 x (by omega) rfl (by simp [mk])
  simpa using h

theorem heldIntS_ev (n : Nat) (hx : n ≤ 1000000000000000) (m : Int) (h0 : 0 ≤ m) (h1 : m ≤ 1000000000000000) : Ev (fun k => laws_heldIntS.f k (mk (fun m => m) m n) m) (m + (n : Int)) := by
  unfold laws_heldIntS.f
  have h := held_loop (L := laws_heldIntS.l0) (f := fun m => m) (c := fun x i m => rd x i = m) (fun _ _ _ _ => rfl) n m (by omega) (by omega) (by omega) (fun i hi => by rw [rd_at _ i (by rw [mk_length]; exact hi), mk_get]) n 0 (by omega)
  simpa using h

theorem szSig_v (l : List S67) (a : Int) (hl : l.length ≤ maxLen) (h0 : 0 ≤ a) (h1 : a ≤ 1048576) : laws_szSigS.f l a = some (if a < (l.length : Int) then -1 else a - (l.length : Int)) := by
  unfold maxLen at hl
  unfold laws_szSigS.f
  rw [w64 (i := a - (l.length : Int)) (by omega) (by omega)]
  by_cases h : a < (l.length : Int)
  · rw [if_pos h, if_pos (by omega)]
  · rw [if_neg h, if_neg (by omega)]
/-- A signature of the law's as one of impl's. -/
def cvS (x : S67) : S46 := ⟨x.f0, x.f1⟩
theorem rdL_at (x : List S67) (i : Nat) (h : i < x.length) : rd_T67 x (i : Int) = x[i] := by simp [rd_T67, List.getD, h]
theorem rdI_at (x : List S46) (i : Nat) (h : i < x.length) : rd_T46 x (i : Int) = x[i] := by simp [rd_T46, List.getD, h]
theorem toSigS_l (x : List S67) (hx : x.length ≤ 9223372036854775806) : ∀ (d i : Nat) (a : List S46), i + d = x.length → a.length = x.length → a.take i = (x.map cvS).take i → Ev (fun k => laws_toSigS.l0 k x a (i : Int)) (x.map cvS) := by
  intro d
  induction d with
  | zero =>
    intro i a hi ha ht
    have e : a = x.map cvS := by
      rw [List.take_of_length_le (by omega), List.take_of_length_le (by simp; omega)] at ht
      exact ht
    subst e
    refine ev_step ?_
    simp only [laws_toSigS.l0]
    exact ev_neg (by omega) (ev_const rfl)
  | succ d ih =>
    intro i a hi ha ht
    have hix : i < x.length := by omega
    have hia : i < a.length := by omega
    refine ev_step ?_
    simp only [laws_toSigS.l0]
    rw [rdL_at x i hix, w64s (n := x.length) (by omega) (by omega)]
    refine ev_pos (by omega) (ev_pos (by omega) (ev_bindc rfl (ev_pos (by omega) ?_)))
    refine ih (i + 1) _ (by omega) (by simpa using ha) ?_
    apply List.ext_getElem
    · simp [ha]
    · intro j h1 h2
      simp at h1 h2
      simp only [List.getElem_take, Int.toNat_natCast, List.getElem_set]
      by_cases hj : i = j
      · subst hj; simp [cvS]
      · rw [if_neg hj]
        have : j < i := by omega
        have e := congrArg (fun l => l[j]?) ht
        simp only [List.getElem?_take, this, if_true] at e
        rw [List.getElem?_eq_getElem (by omega), List.getElem?_eq_getElem (by simp; omega)] at e
        exact Option.some.inj e
theorem toSigS_ev (x : List S67) (hx : x.length ≤ 17592186044416) : Ev (fun k => laws_toSigS.f k x) (x.map cvS) := by
  unfold laws_toSigS.f
  refine ev_pos (by omega) (ev_pos (by omega) ?_)
  exact toSigS_l x (by omega) x.length 0 _ (by omega) (by simp) (by simp)
theorem eqSigS_l (x : List S46) (hx : x.length ≤ 9223372036854775806) : ∀ (d i : Nat), i + d = x.length → Ev (fun k => laws_eqSigS.l0 k x x (i : Int)) true := by
  intro d
  induction d with
  | zero =>
    intro i hi
    refine ev_step ?_
    simp only [laws_eqSigS.l0]
    exact ev_neg (by omega) (ev_const rfl)
  | succ d ih =>
    intro i hi
    refine ev_step ?_
    simp only [laws_eqSigS.l0]
    rw [w64s (n := x.length) (by omega) (by omega)]
    refine ev_pos (by omega) (ev_pos (by omega) (ev_pos (by omega) (ev_bindc (a := true) ?_ (ev_pos rfl (ih (i + 1) (by omega))))))
    unfold laws_eqSig.f
    rw [if_pos rfl, if_pos rfl]
theorem eqSigS_refl (x : List S46) (hx : x.length ≤ 9223372036854775806) : Ev (fun k => laws_eqSigS.f k x x) true := by
  unfold laws_eqSigS.f
  exact ev_pos rfl (eqSigS_l x hx x.length 0 (by omega))

/-- What marking a row of n signatures from m on leaves. -/
def mkS (m : Int) (n : Nat) : List S46 := (List.range n).map fun i : Nat => ⟨m + 2 * (i : Int), m + 2 * (i : Int) + 1⟩
theorem mkS_length (m : Int) (n : Nat) : (mkS m n).length = n := by simp [mkS]
theorem mkS_get (m : Int) (n i : Nat) (h : i < (mkS m n).length) : (mkS m n)[i] = ⟨m + 2 * (i : Int), m + 2 * (i : Int) + 1⟩ := by simp [mkS]
theorem rdM_at (x : List S46) (i : Nat) (h : i < x.length) : rd_T46 x (i : Int) = x[i] := by simp [rd_T46, List.getD, h]
theorem markSig_l (n : Nat) (m : Int) (hm : 0 ≤ m) (hn : m + 2 * n ≤ 1000000000000000000) :
    ∀ (d i : Nat) (x : List S46), i + d = n → x.length = n → x.take i = mkS m i → Ev (fun k => laws_markSigS.l0 k x (m + 2 * (i : Int)) (i : Int)) (m + 2 * (n : Int), mkS m n) := by
  intro d
  induction d with
  | zero =>
    intro i x hi hx ht
    obtain rfl : i = n := by omega
    have e : x = mkS m i := by rw [← ht, List.take_of_length_le (by omega)]
    refine ev_step ?_
    simp only [laws_markSigS.l0]
    rw [← e]
    exact ev_neg (by omega) (ev_const rfl)
  | succ d ih =>
    intro i x hi hx ht
    have hix : i < x.length := by omega
    refine ev_step ?_
    simp only [laws_markSigS.l0]
    refine ev_pos (by omega) (ev_pos (by omega) (ev_bindc rfl ?_))
    rw [w64s (n := n) (by omega) (by omega), w64 (i := m + 2 * (i : Int) + 1) (by omega) (by omega), w64 (i := m + 2 * (i : Int) + 1 + 1) (by omega) (by omega), show m + 2 * (i : Int) + 1 + 1 = m + 2 * ((i + 1 : Nat) : Int) from by omega]
    rw [rdM_at x i hix, Int.toNat_natCast, rdM_at (x.set i _) i (by simpa using hix), List.getElem_set_self, List.set_set]
    refine ih (i + 1) _ (by omega) (by simpa using hx) ?_
    apply List.ext_getElem
    · simp [mkS_length]; omega
    · intro j h1 h2
      rw [mkS_get]
      simp only [List.getElem_take, List.getElem_set]
      by_cases hj : i = j
      · subst hj; simp
      · rw [if_neg hj]
        have hji : j < i := by
          have := mkS_length m (i + 1)
          omega
        have e := congrArg (fun l => l[j]?) ht
        simp only [List.getElem?_take, hji, if_true] at e
        rw [List.getElem?_eq_getElem (by omega), List.getElem?_eq_getElem (by rw [mkS_length]; omega), mkS_get] at e
        exact Option.some.inj e
theorem markSig_ev (x : List S46) (hx : x.length ≤ 100000000000000000) (m : Int) (h0 : 0 ≤ m) (h1 : m ≤ 100000000000000000) : Ev (fun k => laws_markSigS.f k x m) (m + 2 * (x.length : Int), mkS m x.length) := by
  unfold laws_markSigS.f
  have h := markSig_l x.length m h0 (by omega) x.length 0 x (by omega) rfl (by simp [mkS])
  simpa using h

theorem InRange_v (a b c : Int) : impl_InRange.f a b c = some (decide (b ≤ a ∧ a ≤ c)) := by
  unfold impl_InRange.f
  by_cases h : b ≤ a <;> simp [h]

theorem l1In_v (a b c : Int) : spec_l1In.f a b c = some (decide (b ≤ a ∧ a ≤ c)) := by
  unfold spec_l1In.f
  by_cases h : b ≤ a <;> simp [h]

theorem Mod_v (a b : Int) : spec_Mod.f a b = some (if 1 ≤ b ∧ b ≤ 1000000000000 then a % b else 0) := by
  unfold spec_Mod.f
  rw [l1In_v]
  by_cases h2 : 1 ≤ b ∧ b ≤ 1000000000000
  · have hb : ¬ b = 0 := by omega
    have h3 := Int.lt_tmod_of_pos a (show 0 < b by omega)
    have h4 := Int.tmod_lt_of_pos a (show 0 < b by omega)
    rw [if_pos h2]
    simp only [h2, hb, and_self, decide_true, Option.bind_some, if_true, if_false]
    rw [w64 (i := Int.tmod a b + b) (by omega) (by omega), Int.tmod_eq_emod_of_nonneg (a := Int.tmod a b + b) (by omega)]
    congr 1
    have h5 := Int.tmod_add_tdiv_mul a b
    rw [Int.add_emod_right]
    conv => rhs; rw [← h5]
    rw [Int.add_mul_emod_self_right]
  · rw [if_neg h2]
    simp [h2]
theorem iMod_v (a b : Int) : impl_Mod.f a b = some (if 1 ≤ b ∧ b ≤ 1000000000000 then a % b else 0) := by
  unfold impl_Mod.f
  rw [InRange_v]
  by_cases h2 : 1 ≤ b ∧ b ≤ 1000000000000
  · have hb : ¬ b = 0 := by omega
    have h3 := Int.lt_tmod_of_pos a (show 0 < b by omega)
    have h4 := Int.tmod_lt_of_pos a (show 0 < b by omega)
    rw [if_pos h2]
    simp only [h2, hb, and_self, decide_true, Option.bind_some, if_true, if_false]
    rw [w64 (i := Int.tmod a b + b) (by omega) (by omega), Int.tmod_eq_emod_of_nonneg (a := Int.tmod a b + b) (by omega)]
    congr 1
    have h5 := Int.tmod_add_tdiv_mul a b
    rw [Int.add_emod_right]
    conv => rhs; rw [← h5]
    rw [Int.add_mul_emod_self_right]
  · rw [if_neg h2]
    simp [h2]

/-- One round of the hash. -/
def hstep (d v : Int) : Int := (d * 1000003 + v % 2147483647 + 13) % 2147483647
def hashL (l : List Int) : Int := l.foldl hstep 11
theorem hstep_bd (d v : Int) : 0 ≤ hstep d v ∧ hstep d v < 2147483647 := by unfold hstep; omega
theorem hfold_bd (l : List Int) : ∀ d : Int, 0 ≤ d → d < 2147483647 → 0 ≤ l.foldl hstep d ∧ l.foldl hstep d < 2147483647 := by
  induction l with
  | nil => intro d h0 h1; exact ⟨h0, h1⟩
  | cons a l ih => intro d _ _; exact ih _ (hstep_bd d a).1 (hstep_bd d a).2
theorem hashL_bd (l : List Int) : 0 ≤ hashL l ∧ hashL l < 2147483647 := hfold_bd l 11 (by omega) (by omega)
theorem hround (d v : Int) (h0 : 0 ≤ d) (h1 : d < 2147483647) : Int.tmod (wrap64 ((wrap64 ((wrap64 (d * 1000003)) + v % 2147483647)) + 13)) 2147483647 = hstep d v := by
  have hv0 : 0 ≤ v % 2147483647 := by omega
  have hv1 : v % 2147483647 < 2147483647 := by omega
  rw [w64 (i := d * 1000003) (by omega) (by omega), w64 (i := d * 1000003 + v % 2147483647) (by omega) (by omega), w64 (i := d * 1000003 + v % 2147483647 + 13) (by omega) (by omega), Int.tmod_eq_emod_of_nonneg (by omega)]
  rfl
theorem Mod_at (v : Int) : spec_Mod.f v 2147483647 = some (v % 2147483647) := by
  rw [Mod_v, if_pos (by omega)]
theorem Hash_sl (x : List Int) (hx : x.length ≤ 9223372036854775806) : ∀ (m i : Nat) (d : Int), i + m = x.length → 0 ≤ d → d < 2147483647 → Ev (fun k => spec_Hash.l0 k x d (i : Int)) ((x.drop i).foldl hstep d) := by
  intro m
  induction m with
  | zero =>
    intro i d hi _ _
    refine ev_step ?_
    simp only [spec_Hash.l0]
    rw [List.drop_of_length_le (by omega)]
    exact ev_neg (by omega) (ev_const rfl)
  | succ m ih =>
    intro i d hi h0 h1
    have hlt : i < x.length := by omega
    refine ev_step ?_
    simp only [spec_Hash.l0]
    refine ev_pos (by omega) (ev_pos (by omega) (ev_bindc (Mod_at _) ?_))
    rw [hround _ _ h0 h1, w64s (n := x.length) hlt (by omega), rd_at x i hlt, List.drop_eq_getElem_cons hlt]
    exact ih (i + 1) _ (by omega) (hstep_bd _ _).1 (hstep_bd _ _).2
theorem Hash_sev (x : List Int) (hx : x.length ≤ 9223372036854775806) : Ev (fun k => spec_Hash.f k x) (hashL x) := by
  unfold spec_Hash.f
  exact Hash_sl x hx x.length 0 11 (by omega) (by omega) (by omega)
theorem iMod_at (v : Int) : impl_Mod.f v 2147483647 = some (v % 2147483647) := by
  rw [iMod_v, if_pos (by omega)]
theorem Hash_il (x : List Int) (hx : x.length ≤ 9223372036854775806) : ∀ (m i : Nat) (d : Int), i + m = x.length → 0 ≤ d → d < 2147483647 → Ev (fun k => impl_Hash.l0 k d x (x.length : Int) (i : Int)) ((x.drop i).foldl hstep d) := by
  intro m
  induction m with
  | zero =>
    intro i d hi _ _
    refine ev_step ?_
    simp only [impl_Hash.l0]
    rw [List.drop_of_length_le (by omega)]
    exact ev_neg (by omega) (ev_const rfl)
  | succ m ih =>
    intro i d hi h0 h1
    have hlt : i < x.length := by omega
    refine ev_step ?_
    simp only [impl_Hash.l0]
    refine ev_pos (by omega) (ev_pos (by omega) (ev_pos (by omega) (ev_bindc (iMod_at _) ?_)))
    rw [hround _ _ h0 h1, w64s (n := x.length) hlt (by omega), rd_at x i hlt, List.drop_eq_getElem_cons hlt]
    exact ih (i + 1) _ (by omega) (hstep_bd _ _).1 (hstep_bd _ _).2
theorem Hash_iev (x : List Int) (hx : x.length ≤ 9223372036854775806) : Ev (fun k => impl_Hash.f k x) (hashL x) := by
  unfold impl_Hash.f
  exact Hash_il x hx x.length 0 11 (by omega) (by omega) (by omega)

def khL (a : Int) (l : List Int) : Int := hashL (a :: (l ++ [a]))
theorem khL_bd (a : Int) (l : List Int) : 0 ≤ khL a l ∧ khL a l < 2147483647 := hashL_bd _
theorem KH_sev (a : Int) (l : List Int) (hl : l.length ≤ 10000000000000) : Ev (fun k => spec_KeyedHash.f k a l) (khL a l) := by
  unfold spec_KeyedHash.f
  refine ev_bindc rfl (ev_pos (by simp; omega) (ev_bindc rfl (ev_pos (by simp; omega) (ev_bind (Hash_sev _ (by simp; omega)) ?_))))
  unfold khL
  exact ev_const (by simp)
theorem KH_iev (a : Int) (l : List Int) (hl : l.length ≤ 10000000000000) : Ev (fun k => impl_KeyedHash.f k a l) (khL a l) := by
  unfold impl_KeyedHash.f
  exact ev_pos (by omega) (Hash_iev _ (by simp; omega))

def tagL (a : Int) (l : List Int) : Int := khL a (223 :: l)
theorem TO_sev (a : Int) (l : List Int) (hl : l.length ≤ 1000000000000) : Ev (fun k => spec_TagOf.f k a l) (tagL a l) := by
  unfold spec_TagOf.f
  exact ev_bindc rfl (ev_pos (by simp; omega) (ev_bind (KH_sev a _ (by simp; omega)) (ev_const rfl)))
theorem TO_iev (a : Int) (l : List Int) (hl : l.length ≤ 1000000000000) : Ev (fun k => impl_TagOf.f k a l) (tagL a l) := by
  unfold impl_TagOf.f
  exact ev_bindc rfl (ev_pos (by simp; omega) (ev_bind (KH_iev a _ (by simp; omega)) (ev_const rfl)))

def sigB (key tag : Int) (m : List Int) : Bool := decide (1 ≤ key ∧ key ≤ 99) && (tag == tagL key m)
theorem SB_sev (key tag : Int) (m : List Int) (hm : m.length ≤ 1000000000000) : Ev (fun k => spec_IsSigBy.f k key tag m) (sigB key tag m) := by
  unfold spec_IsSigBy.f sigB
  refine ev_bindc (l1In_v _ _ _) ?_
  by_cases h : 1 ≤ key ∧ key ≤ 99
  · refine ev_pos (by simpa using h) (ev_bind (TO_sev key m hm) (ev_const ?_))
    rw [decide_eq_true h, Bool.true_and]
  · rw [decide_eq_false h, Bool.false_and]
    exact ev_neg (by simp) (ev_const rfl)
theorem SB_key (a : Int) : impl_isKey.f a = some (decide (1 ≤ a ∧ a ≤ 99)) := by
  unfold impl_isKey.f
  rw [InRange_v]
  rfl
theorem SB_iev (key tag : Int) (m : List Int) (hm : m.length ≤ 1000000000000) : Ev (fun k => impl_IsSigBy.f k key tag m) (sigB key tag m) := by
  unfold impl_IsSigBy.f sigB
  refine ev_bindc (SB_key _) ?_
  by_cases h : 1 ≤ key ∧ key ≤ 99
  · refine ev_pos (by simpa using h) (ev_bind (TO_iev key m hm) (ev_const ?_))
    rw [decide_eq_true h, Bool.true_and]
  · rw [decide_eq_false h, Bool.false_and]
    exact ev_neg (by simp) (ev_const rfl)

/-- Is a signature one of the key's, and right. -/
def okS (m : List Int) (key : Int) (x : S46) : Bool := decide (x.f0 = key) && sigB x.f0 x.f1 m
def hasS (m : List Int) (s : List S46) (key : Int) : Bool := s.any (okS m key)
/-- How many of the keys have signed, behind n of them. -/
def cntS (m : List Int) (s : List S46) : List Int → Int → Int
  | [], n => n
  | key :: l, n => cntS m s l (if hasS m s key = true then n + 1 else n)

theorem asc_ext : ∀ (a b : List Int), a.Pairwise (· < ·) → b.Pairwise (· < ·) → (∀ x, x ∈ a ↔ x ∈ b) → a = b
  | [], [], _, _, _ => rfl
  | [], y :: b, _, _, h => absurd ((h y).2 List.mem_cons_self) (by simp)
  | x :: a, [], _, _, h => absurd ((h x).1 List.mem_cons_self) (by simp)
  | x :: a, y :: b, ha, hb, h => by
    rw [List.pairwise_cons] at ha hb
    have e : x = y := by
      rcases List.mem_cons.1 ((h x).1 List.mem_cons_self) with e | e
      · exact e
      · rcases List.mem_cons.1 ((h y).2 List.mem_cons_self) with e2 | e2
        · exact e2.symm
        · have := ha.1 y e2
          have := hb.1 x e
          omega
    subst e
    congr 1
    refine asc_ext a b ha.2 hb.2 (fun z => ⟨fun hz => ?_, fun hz => ?_⟩)
    · rcases List.mem_cons.1 ((h z).1 (List.mem_cons_of_mem _ hz)) with e | e
      · have := ha.1 z hz
        omega
      · exact e
    · rcases List.mem_cons.1 ((h z).2 (List.mem_cons_of_mem _ hz)) with e | e
      · have := hb.1 z hz
        omega
      · exact e
theorem cmp_inv (d : Array Int) (hs : ∀ i j, i ≤ j → j < d.size → d[i]! ≤ d[j]!) : ∀ m, m ≤ d.size → (Lib.compactUpTo d m).Pairwise (· < ·) ∧ ∀ x, x ∈ Lib.compactUpTo d m ↔ ∃ i, i < m ∧ d[i]! = x
  | 0, _ => by simp [Lib.compactUpTo]
  | m + 1, hm => by
    obtain ⟨h1, h2⟩ := cmp_inv d hs m (by omega)
    rw [Lib.compactUpTo_succ]
    by_cases hk : m = 0 ∨ d[m]! ≠ d[m - 1]!
    · rw [if_pos (by simp only [Lib.keeps]; exact decide_eq_true hk)]
      constructor
      · rw [List.pairwise_append]
        refine ⟨h1, by simp, fun a ha b hb => ?_⟩
        obtain rfl : b = d[m]! := by simpa using hb
        obtain ⟨i, hi, rfl⟩ := (h2 a).1 ha
        have a1 := hs i (m - 1) (by omega) (by omega)
        have a2 := hs (m - 1) m (by omega) (by omega)
        have a3 : d[m]! ≠ d[m - 1]! := by
          rcases hk with hk | hk
          · omega
          · exact hk
        omega
      · intro x
        rw [List.mem_append, h2]
        constructor
        · rintro (⟨i, hi, e⟩ | e)
          · exact ⟨i, by omega, e⟩
          · exact ⟨m, by omega, (List.mem_singleton.1 e).symm⟩
        · rintro ⟨i, hi, e⟩
          by_cases z : i = m
          · subst z; right; simp [e]
          · left; exact ⟨i, by omega, e⟩
    · rw [if_neg (by simp only [Lib.keeps]; rw [decide_eq_false hk]; simp), List.append_nil]
      refine ⟨h1, fun x => ?_⟩
      rw [h2]
      have e0 : m ≠ 0 := fun z => hk (Or.inl z)
      have e1 : d[m]! = d[m - 1]! := Decidable.byContradiction (fun z => hk (Or.inr z))
      constructor
      · rintro ⟨i, hi, e⟩
        exact ⟨i, by omega, e⟩
      · rintro ⟨i, hi, e⟩
        by_cases z : i = m
        · subst z; exact ⟨i - 1, by omega, by rw [← e1]; exact e⟩
        · exact ⟨i, by omega, e⟩
theorem cmpsort (o : List Int) : (Lib.compact (o.mergeSort fun x y => decide (x ≤ y))).Pairwise (· < ·) ∧ ∀ x, x ∈ Lib.compact (o.mergeSort fun x y => decide (x ≤ y)) ↔ x ∈ o := by
  have hp := List.mergeSort_perm o (fun x y => decide (x ≤ y))
  have hs : (o.mergeSort fun x y => decide (x ≤ y)).Pairwise (fun x y => decide (x ≤ y) = true) := List.pairwise_mergeSort (fun a b c h1 h2 => by simp at *; omega) (fun a b => by simp; omega) o
  generalize (o.mergeSort fun x y => decide (x ≤ y)) = z at hp hs
  have hsz : z.toArray.size = z.length := by simp
  have hs2 : ∀ i j, i ≤ j → j < z.toArray.size → z.toArray[i]! ≤ z.toArray[j]! := by
    intro i j hij hj
    rw [hsz] at hj
    have e1 : z.toArray[i]! = z[i] := by simp [show i < z.length from by omega]
    have e2 : z.toArray[j]! = z[j] := by simp [hj]
    rw [e1, e2]
    by_cases e : i = j
    · subst e; omega
    · have := List.pairwise_iff_getElem.1 hs i j (by omega) hj (by omega)
      simpa using this
  obtain ⟨a1, a2⟩ := cmp_inv z.toArray hs2 z.length (by omega)
  refine ⟨a1, fun x => ?_⟩
  unfold Lib.compact
  rw [a2, ← hp.mem_iff, List.mem_iff_getElem]
  constructor
  · rintro ⟨i, hi, e⟩
    exact ⟨i, hi, by rw [← e]; simp [hi]⟩
  · rintro ⟨i, hi, e⟩
    exact ⟨i, hi, by rw [← e]; simp [hi]⟩
/-- The keys from key on that have signed, behind those that are there. -/
def sgrK (m : List Int) (s : List S46) : Nat → Int → List Int → List Int
  | 0, _, out => out
  | d + 1, key, out => sgrK m s d (key + 1) (if hasS m s key = true then out ++ [key] else out)
theorem sgrK_len (m : List Int) (s : List S46) : ∀ d key out, (sgrK m s d key out).length ≤ out.length + d
  | 0, _, out => by simp [sgrK]
  | d + 1, key, out => by
    have := sgrK_len m s d (key + 1) (if hasS m s key = true then out ++ [key] else out)
    simp only [sgrK]
    have h2 : (if hasS m s key = true then out ++ [key] else out).length ≤ out.length + 1 := by split <;> simp
    omega
theorem sgrK_inv (m : List Int) (s : List S46) : ∀ (d : Nat) (key : Int) (out : List Int), out.Pairwise (· < ·) → (∀ x ∈ out, x < key) → (sgrK m s d key out).Pairwise (· < ·) ∧ ∀ x, x ∈ sgrK m s d key out ↔ x ∈ out ∨ (key ≤ x ∧ x < key + d ∧ hasS m s x = true)
  | 0, key, out, h1, h2 => by
    simp only [sgrK]
    refine ⟨h1, fun x => ⟨Or.inl, ?_⟩⟩
    rintro (h | ⟨h, h', _⟩)
    · exact h
    · omega
  | d + 1, key, out, h1, h2 => by
    simp only [sgrK]
    by_cases hk : hasS m s key = true
    · rw [if_pos hk]
      obtain ⟨a1, a2⟩ := sgrK_inv m s d (key + 1) (out ++ [key]) (by rw [List.pairwise_append]; exact ⟨h1, by simp, fun a ha b hb => by rw [List.mem_singleton.1 hb]; exact h2 a ha⟩) (fun x hx => by rcases List.mem_append.1 hx with hx | hx; (· have := h2 x hx; omega); (· have := List.mem_singleton.1 hx; omega))
      refine ⟨a1, fun x => ?_⟩
      rw [a2, List.mem_append]
      constructor
      · rintro ((h | h) | ⟨h, h', h3⟩)
        · exact Or.inl h
        · obtain rfl : x = key := by simpa using h
          exact Or.inr ⟨by omega, by omega, hk⟩
        · exact Or.inr ⟨by omega, by omega, h3⟩
      · rintro (h | ⟨h, h', h3⟩)
        · exact Or.inl (Or.inl h)
        · by_cases e : x = key
          · subst e; exact Or.inl (Or.inr (by simp))
          · exact Or.inr ⟨by omega, by omega, h3⟩
    · rw [if_neg hk]
      obtain ⟨a1, a2⟩ := sgrK_inv m s d (key + 1) out h1 (fun x hx => by have := h2 x hx; omega)
      refine ⟨a1, fun x => ?_⟩
      rw [a2]
      constructor
      · rintro (h | ⟨h, h', h3⟩)
        · exact Or.inl h
        · exact Or.inr ⟨by omega, by omega, h3⟩
      · rintro (h | ⟨h, h', h3⟩)
        · exact Or.inl h
        · by_cases e : x = key
          · subst e; exact absurd h3 hk
          · exact Or.inr ⟨by omega, by omega, h3⟩
theorem sgr_mem (m : List Int) (s : List S46) (x : Int) : x ∈ sgrK m s 99 1 [] ↔ x ∈ (s.filter (fun z => sigB z.f0 z.f1 m)).map (fun z => z.f0) := by
  rw [(sgrK_inv m s 99 1 [] (by simp) (by simp)).2, List.mem_map]
  unfold hasS okS
  constructor
  · rintro (h | ⟨h1, h2, h3⟩)
    · simp at h
    · rw [List.any_eq_true] at h3
      obtain ⟨z, hz, h⟩ := h3
      rw [Bool.and_eq_true, decide_eq_true_eq] at h
      exact ⟨z, List.mem_filter.2 ⟨hz, h.2⟩, h.1⟩
  · rintro ⟨z, hz, rfl⟩
    obtain ⟨hz, h⟩ := List.mem_filter.1 hz
    have hr : 1 ≤ z.f0 ∧ z.f0 ≤ 99 := by
      unfold sigB at h
      rw [Bool.and_eq_true, decide_eq_true_eq] at h
      exact h.1
    refine Or.inr ⟨by omega, by omega, ?_⟩
    rw [List.any_eq_true]
    exact ⟨z, hz, by rw [h, decide_eq_true rfl]; rfl⟩
theorem sgr_eq (m : List Int) (s : List S46) : sgrK m s 99 1 [] = impl_SignersOf.v ((s.filter (fun z => sigB z.f0 z.f1 m)).map (fun z => z.f0)) := by
  unfold impl_SignersOf.v
  obtain ⟨c1, c2⟩ := cmpsort ((s.filter (fun z => sigB z.f0 z.f1 m)).map (fun z => z.f0))
  refine asc_ext _ _ (sgrK_inv m s 99 1 [] (by simp) (by simp)).1 c1 (fun x => ?_)
  rw [sgr_mem, c2]
theorem rdSg_at (x : List S46) (i : Nat) (h : i < x.length) : rd_T46 x (i : Int) = x[i] := by simp [rd_T46, List.getD, h]
theorem SG_s1 (m : List Int) (hm : m.length ≤ 1000000000000) (s : List S46) (hs : s.length ≤ 9223372036854775806) (key : Int) (h0 : 1 ≤ key) (h1 : key ≤ 99) (out : List Int) (ho : out.length ≤ 99) (r : List Int) : ∀ (d j : Nat), j + d = s.length →
    Ev (fun k => spec_SignersOf.l0 k m s (if (s.drop j).any (okS m key) = true then out ++ [key] else out) (key + 1)) r → Ev (fun k => spec_SignersOf.l1 k m s out key (j : Int)) r := by
  intro d
  induction d with
  | zero =>
    intro j hj e
    rw [List.drop_of_length_le (by omega)] at e
    simp only [List.any_nil, Bool.false_eq_true, if_false] at e
    refine ev_step ?_
    simp only [spec_SignersOf.l1]
    rw [w64 (i := key + 1) (by omega) (by omega)]
    exact ev_neg (by omega) e
  | succ d ih =>
    intro j hj e
    have hlt : j < s.length := by omega
    rw [List.drop_eq_getElem_cons hlt, List.any_cons] at e
    refine ev_step ?_
    simp only [spec_SignersOf.l1]
    rw [w64s (n := s.length) hlt (by omega), w64 (i := key + 1) (by omega) (by omega), rdSg_at s j hlt]
    refine ev_pos (by omega) (ev_pos (by omega) (ev_dec (fun h => ?_) (fun h => ?_)))
    · refine ev_bind (SB_sev s[j].f0 s[j].f1 m hm) (ev_dec (fun h2 => ?_) (fun h2 => ?_))
      · have ho2 : okS m key s[j] = true := by unfold okS; rw [decide_eq_true h, h2]; rfl
        rw [ho2, Bool.true_or, if_pos rfl] at e
        exact ev_pos (by omega) e
      · have ho2 : okS m key s[j] = false := by unfold okS; rw [decide_eq_true h, Bool.true_and]; simpa using h2
        rw [ho2, Bool.false_or] at e
        exact ih (j + 1) (by omega) e
    · have ho2 : okS m key s[j] = false := by unfold okS; rw [decide_eq_false h, Bool.false_and]
      rw [ho2, Bool.false_or] at e
      exact ih (j + 1) (by omega) e
theorem SG_s0 (m : List Int) (hm : m.length ≤ 1000000000000) (s : List S46) (hs : s.length ≤ 9223372036854775806) : ∀ (d : Nat) (key : Int) (out : List Int), key + d = 100 → 1 ≤ key → (out.length : Int) + 1 ≤ key →
    Ev (fun k => spec_SignersOf.l0 k m s out key) (sgrK m s d key out) := by
  intro d
  induction d with
  | zero =>
    intro key out hk _ _
    refine ev_step ?_
    simp only [spec_SignersOf.l0]
    exact ev_neg (by omega) (ev_const rfl)
  | succ d ih =>
    intro key out hk h1 ho
    refine ev_step ?_
    simp only [spec_SignersOf.l0]
    refine ev_pos (by omega) (SG_s1 m hm s hs key h1 (by omega) out (by omega) _ s.length 0 (by omega) ?_)
    have e : (s.drop 0).any (okS m key) = hasS m s key := by simp [hasS]
    rw [e]
    simp only [sgrK]
    exact ih (key + 1) _ (by omega) (by omega) (by split <;> simp <;> omega)
theorem Sgr_sev (m : List Int) (hm : m.length ≤ 1000000000000) (s : List S46) (hs : s.length ≤ 1000000000000) : Ev (fun k => spec_SignersOf.f k m s) (sgrK m s 99 1 []) := by
  unfold spec_SignersOf.f
  exact SG_s0 m hm s (by omega) 99 1 [] (by omega) (by omega) (by simp)
theorem SG_col (m : List Int) (hm : m.length ≤ 1000000000000) : ∀ (s : List S46) (out : List Int), out.length + s.length ≤ 1000000000000 → Ev (fun k => impl_SignersOf.col k m s out) (out ++ (s.filter (fun z => sigB z.f0 z.f1 m)).map (fun z => z.f0))
  | [], out, _ => by simp only [impl_SignersOf.col, List.filter_nil, List.map_nil, List.append_nil]; exact ev_const rfl
  | x :: s, out, h => by
    simp only [List.length_cons] at h
    simp only [impl_SignersOf.col]
    refine ev_bind (SB_iev x.f0 x.f1 m hm) (ev_dec (fun h2 => ?_) (fun h2 => ?_))
    · rw [List.filter_cons, if_pos h2, List.map_cons]
      have := SG_col m hm s (out ++ [x.f0]) (by simp; omega)
      rw [List.append_assoc, List.singleton_append] at this
      exact ev_pos (by omega) this
    · rw [List.filter_cons, if_neg h2]
      exact SG_col m hm s out (by omega)
theorem Sgr_iev (m : List Int) (hm : m.length ≤ 1000000000000) (s : List S46) (hs : s.length ≤ 1000000000000) : Ev (fun k => impl_SignersOf.f k m s) (sgrK m s 99 1 []) := by
  unfold impl_SignersOf.f
  rw [sgr_eq]
  refine ev_pos (by omega) (ev_bind (SG_col m hm s [] (by simp; omega)) (ev_const ?_))
  rfl
end OfFnExactSignersOf
open OfFnExactSignersOf in
theorem FnExactSignersOf : laws_FnExactSignersOf.Pure := by
  intro m s hm _ hs _
  apply Ev.rounds
  unfold laws_FnExactSignersOf.f
  refine ev_dec (fun _ => ev_const rfl) (fun h1 => ?_)
  refine ev_bindc (szSig_v s 1048576 hs (by omega) (by omega)) (ev_dec (fun _ => ev_const rfl) (fun h2 => ?_))
  have hsl : s.length ≤ 1048576 := by split at h2 <;> omega
  clear h2
  have hml : m.length ≤ 1048576 := by omega
  clear h1
  have e1 := toIntS_ev m (by omega)
  have e2 := toSigS_ev s (by omega)
  have hcl : (s.map cvS).length ≤ 1048576 := by simpa using hsl
  generalize s.map cvS = t at e2 hcl
  have c := Sgr_sev m (by omega) t (by omega)
  have g := Sgr_iev m (by omega) t (by omega)
  have hv := sgrK_len m t 99 1 []
  simp only [List.length_nil] at hv
  generalize sgrK m t 99 1 [] = v at c g hv
  have q0 := eqIntS_refl m (by omega)
  have q1 := eqSigS_refl t (by omega)
  have q2 := eqIntS_refl v (by omega)
  have m0 := markIntS_ev m (by omega) 1 (by omega) (by omega)
  have m1 := markSig_ev t (by omega) (1 + (m.length : Int)) (by omega) (by omega)
  have m2 := markIntS_ev v (by omega) 1 (by omega) (by omega)
  have hd := heldIntS_ev v.length (by omega) 1 (by omega) (by omega)
  repeat' first
    | exact ev_const rfl
    | refine ev_bind e1 ?_
    | refine ev_bind e2 ?_
    | refine ev_bind c ?_
    | refine ev_bind g ?_
    | refine ev_bind q0 ?_
    | refine ev_bind q1 ?_
    | refine ev_bind q2 ?_
    | refine ev_bind m0 ?_
    | refine ev_bind m1 ?_
    | refine ev_bind m2 ?_
    | refine ev_bind hd ?_
    | refine ev_pos rfl ?_
    | refine ev_neg (by first | omega | (simp; done) | (simp; omega)) ?_
    | refine ev_pos (by first | omega | (simp; done) | (simp; omega)) ?_
    | (refine ev_step ?_; simp only [laws_FnExactSignersOf.j0]; refine ev_neg (by simp) ?_)
end Go.Proofs.Ytanogkaledgecaa.Pure
