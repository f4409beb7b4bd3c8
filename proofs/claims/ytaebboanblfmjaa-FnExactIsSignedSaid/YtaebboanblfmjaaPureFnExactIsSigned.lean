/- The pure statement of FnExactIsSigned: what the printed functions compute answers true for all arguments within the printed bounds. -/
import Derived.Test.YtaebboanblfmjaaPFnExactIsSignedx8
import Derived.Test.YtaebboanblfmjaaKit
namespace Go.Proofs.Ytaebboanblfmjaa.Pure
open Go.RowKit Go.Proofs.Ytaebboanblfmjaa.PFnExactIsSigned Go.Proofs.YtaebboanblfmjaaW.PrintWords Go.Proofs.YtaebboanblfmjaaW.PrintLast Go.Proofs.Ytaebboanblfmjaa.Kit
set_option linter.unusedVariables false
set_option linter.unusedSimpArgs false
namespace OfFnExactIsSigned
theorem szInt_v (l : List Int) (a : Int) (hl : l.length ≤ maxLen) (h0 : 0 ≤ a) (h1 : a ≤ 1048576) : laws_szIntS.f l a = some (if a < (l.length : Int) then -1 else a - (l.length : Int)) := by
  unfold maxLen at hl
  unfold laws_szIntS.f
  rw [w64 (i := a - (l.length : Int)) (by omega) (by omega)]
  by_cases h : a < (l.length : Int)
  · rw [if_pos h, if_pos (by omega)]
  · rw [if_neg h, if_neg (by omega)]
theorem szKeys_v (l : List Int) (n a : Int) (hl : l.length ≤ maxLen) (h0 : 0 ≤ a) (h1 : a ≤ 1048576) : laws_szKeys.f l n a = some (if a < (l.length : Int) then -1 else a - (l.length : Int)) := by
  unfold laws_szKeys.f
  rw [szInt_v l a hl h0 h1, Option.bind_some]
  by_cases h : a < (l.length : Int)
  · rw [if_pos h, if_pos (by omega)]
  · rw [if_neg h, if_neg (by omega)]

theorem toIntS_ev (x : List Int) (hx : x.length ≤ 35184372088832) : Ev (fun k => laws_toIntS.f k x) x := by
  unfold laws_toIntS.f
  refine ev_pos (by omega) (ev_pos (by omega) ?_)
  exact copy_loop (L := laws_toIntS.l0) (rdf := rd) (fun _ _ _ _ => rfl) rd_at x (by omega) x.length 0 _ (by omega) (by simp) (by simp)

theorem toKeys_ev (l : List Int) (n : Int) (hx : l.length ≤ 35184372088832) : Ev (fun k => laws_toKeys.f k l n) (l, n) := by
  unfold laws_toKeys.f
  exact ev_bind (toIntS_ev l hx) (ev_const rfl)

theorem eqIntS_ev (x y : List Int) (hx : x.length ≤ 9223372036854775806) (b : Bool) (hb : b = true ↔ x = y) : Ev (fun k => laws_eqIntS.f k x y) b := by
  unfold laws_eqIntS.f
  refine ev_dec (fun h => ?_) (fun h => ?_)
  · exact eq_loop (L := laws_eqIntS.l0) (c := fun x y i => rd x i = rd y i) (fun _ _ _ _ => rfl) (fun x y i h h' => by rw [rd_at x i h, rd_at y i h']) x y hx (by omega) b x.length 0 (by omega) (by simpa using hb)
  · have e : b = false := by
      rw [Bool.eq_false_iff]
      intro z
      exact h (by rw [hb.mp z])
    subst e
    exact ev_const rfl
theorem eqIntS_refl (x : List Int) (hx : x.length ≤ 9223372036854775806) : Ev (fun k => laws_eqIntS.f k x x) true := eqIntS_ev x x hx true (by simp)

theorem eqKeys_refl (l : List Int) (n : Int) (hl : l.length ≤ 9223372036854775806) : Ev (fun k => laws_eqKeys.f k l n l n) true := by
  unfold laws_eqKeys.f
  exact ev_bind (eqIntS_refl l hl) (ev_pos rfl (ev_pos rfl (ev_const rfl)))

theorem szSig_v (l : List S47) (a : Int) (hl : l.length ≤ maxLen) (h0 : 0 ≤ a) (h1 : a ≤ 1048576) : laws_szSigS.f l a = some (if a < (l.length : Int) then -1 else a - (l.length : Int)) := by
  unfold maxLen at hl
  unfold laws_szSigS.f
  rw [w64 (i := a - (l.length : Int)) (by omega) (by omega)]
  by_cases h : a < (l.length : Int)
  · rw [if_pos h, if_pos (by omega)]
  · rw [if_neg h, if_neg (by omega)]
/-- A signature of the law's as one of impl's. -/
def cvS (x : S47) : S49 := ⟨x.f0, x.f1⟩
theorem rdL_at (x : List S47) (i : Nat) (h : i < x.length) : rd_T47 x (i : Int) = x[i] := by simp [rd_T47, List.getD, h]
theorem rdI_at (x : List S49) (i : Nat) (h : i < x.length) : rd_T49 x (i : Int) = x[i] := by simp [rd_T49, List.getD, h]
theorem toSigS_l (x : List S47) (hx : x.length ≤ 9223372036854775806) : ∀ (d i : Nat) (a : List S49), i + d = x.length → a.length = x.length → a.take i = (x.map cvS).take i → Ev (fun k => laws_toSigS.l0 k x a (i : Int)) (x.map cvS) := by
  intro d
  induction d with
  | zero =>
    intro i a hi ha ht
    have e : a = x.map cvS := by
      rw [List.take_of_length_le (by omega), List.take_of_length_le (by simp; omega)] at ht
      exact ht
    subst e
    refine ev_step ?_
    simp only [laws_toSigS.l0]
    exact ev_neg (by omega) (ev_const rfl)
  | succ d ih =>
    intro i a hi ha ht
    have hix : i < x.length := by omega
    have hia : i < a.length := by omega
    refine ev_step ?_
    simp only [laws_toSigS.l0]
    rw [rdL_at x i hix, w64s (n := x.length) (by omega) (by omega)]
    refine ev_pos (by omega) (ev_pos (by omega) (ev_bindc rfl (ev_pos (by omega) ?_)))
    refine ih (i + 1) _ (by omega) (by simpa using ha) ?_
    apply List.ext_getElem
    · simp [ha]
    · intro j h1 h2
      simp at h1 h2
      simp only [List.getElem_take, Int.toNat_natCast, List.getElem_set]
      by_cases hj : i = j
      · subst hj; simp [cvS]
      · rw [if_neg hj]
        have : j < i := by omega
        have e := congrArg (fun l => l[j]?) ht
        simp only [List.getElem?_take, this, if_true] at e
        rw [List.getElem?_eq_getElem (by omega), List.getElem?_eq_getElem (by simp; omega)] at e
        exact Option.some.inj e
theorem toSigS_ev (x : List S47) (hx : x.length ≤ 17592186044416) : Ev (fun k => laws_toSigS.f k x) (x.map cvS) := by
  unfold laws_toSigS.f
  refine ev_pos (by omega) (ev_pos (by omega) ?_)
  exact toSigS_l x (by omega) x.length 0 _ (by omega) (by simp) (by simp)
theorem eqSigS_l (x : List S49) (hx : x.length ≤ 9223372036854775806) : ∀ (d i : Nat), i + d = x.length → Ev (fun k => laws_eqSigS.l0 k x x (i : Int)) true := by
  intro d
  induction d with
  | zero =>
    intro i hi
    refine ev_step ?_
    simp only [laws_eqSigS.l0]
    exact ev_neg (by omega) (ev_const rfl)
  | succ d ih =>
    intro i hi
    refine ev_step ?_
    simp only [laws_eqSigS.l0]
    rw [w64s (n := x.length) (by omega) (by omega)]
    refine ev_pos (by omega) (ev_pos (by omega) (ev_pos (by omega) (ev_bindc (a := true) ?_ (ev_pos rfl (ih (i + 1) (by omega))))))
    unfold laws_eqSig.f
    rw [if_pos rfl, if_pos rfl]
theorem eqSigS_refl (x : List S49) (hx : x.length ≤ 9223372036854775806) : Ev (fun k => laws_eqSigS.f k x x) true := by
  unfold laws_eqSigS.f
  exact ev_pos rfl (eqSigS_l x hx x.length 0 (by omega))

theorem InRange_v (a b c : Int) : impl_InRange.f a b c = some (decide (b ≤ a ∧ a ≤ c)) := by
  unfold impl_InRange.f
  by_cases h : b ≤ a <;> simp [h]

theorem l1In_v (a b c : Int) : spec_l1In.f a b c = some (decide (b ≤ a ∧ a ≤ c)) := by
  unfold spec_l1In.f
  by_cases h : b ≤ a <;> simp [h]

theorem Mod_v (a b : Int) : spec_Mod.f a b = some (if 1 ≤ b ∧ b ≤ 1000000000000 then a % b else 0) := by
  unfold spec_Mod.f
  rw [l1In_v]
  by_cases h2 : 1 ≤ b ∧ b ≤ 1000000000000
  · have hb : ¬ b = 0 := by omega
    have h3 := Int.lt_tmod_of_pos a (show 0 < b by omega)
    have h4 := Int.tmod_lt_of_pos a (show 0 < b by omega)
    rw [if_pos h2]
    simp only [h2, hb, and_self, decide_true, Option.bind_some, if_true, if_false]
    rw [w64 (i := Int.tmod a b + b) (by omega) (by omega), Int.tmod_eq_emod_of_nonneg (a := Int.tmod a b + b) (by omega)]
    congr 1
    have h5 := Int.tmod_add_tdiv_mul a b
    rw [Int.add_emod_right]
    conv => rhs; rw [← h5]
    rw [Int.add_mul_emod_self_right]
  · rw [if_neg h2]
    simp [h2]
theorem iMod_v (a b : Int) : impl_Mod.f a b = some (if 1 ≤ b ∧ b ≤ 1000000000000 then a % b else 0) := by
  unfold impl_Mod.f
  rw [InRange_v]
  by_cases h2 : 1 ≤ b ∧ b ≤ 1000000000000
  · have hb : ¬ b = 0 := by omega
    have h3 := Int.lt_tmod_of_pos a (show 0 < b by omega)
    have h4 := Int.tmod_lt_of_pos a (show 0 < b by omega)
    rw [if_pos h2]
    simp only [h2, hb, and_self, decide_true, Option.bind_some, if_true, if_false]
    rw [w64 (i := Int.tmod a b + b) (by omega) (by omega), Int.tmod_eq_emod_of_nonneg (a := Int.tmod a b + b) (by omega)]
    congr 1
    have h5 := Int.tmod_add_tdiv_mul a b
    rw [Int.add_emod_right]
    conv => rhs; rw [← h5]
    rw [Int.add_mul_emod_self_right]
  · rw [if_neg h2]
    simp [h2]

/-- One round of the hash. -/
def hstep (d v : Int) : Int := (d * 1000003 + v % 2147483647 + 13) % 2147483647
def hashL (l : List Int) : Int := l.foldl hstep 11
theorem hstep_bd (d v : Int) : 0 ≤ hstep d v ∧ hstep d v < 2147483647 := by unfold hstep; omega
theorem hfold_bd (l : List Int) : ∀ d : Int, 0 ≤ d → d < 2147483647 → 0 ≤ l.foldl hstep d ∧ l.foldl hstep d < 2147483647 := by
  induction l with
  | nil => intro d h0 h1; exact ⟨h0, h1⟩
  | cons a l ih => intro d _ _; exact ih _ (hstep_bd d a).1 (hstep_bd d a).2
theorem hashL_bd (l : List Int) : 0 ≤ hashL l ∧ hashL l < 2147483647 := hfold_bd l 11 (by omega) (by omega)
theorem hround (d v : Int) (h0 : 0 ≤ d) (h1 : d < 2147483647) : Int.tmod (wrap64 ((wrap64 ((wrap64 (d * 1000003)) + v % 2147483647)) + 13)) 2147483647 = hstep d v := by
  have hv0 : 0 ≤ v % 2147483647 := by omega
  have hv1 : v % 2147483647 < 2147483647 := by omega
  rw [w64 (i := d * 1000003) (by omega) (by omega), w64 (i := d * 1000003 + v % 2147483647) (by omega) (by omega), w64 (i := d * 1000003 + v % 2147483647 + 13) (by omega) (by omega), Int.tmod_eq_emod_of_nonneg (by omega)]
  rfl
theorem Mod_at (v : Int) : spec_Mod.f v 2147483647 = some (v % 2147483647) := by
  rw [Mod_v, if_pos (by omega)]
theorem Hash_sl (x : List Int) (hx : x.length ≤ 9223372036854775806) : ∀ (m i : Nat) (d : Int), i + m = x.length → 0 ≤ d → d < 2147483647 → Ev (fun k => spec_Hash.l0 k x d (i : Int)) ((x.drop i).foldl hstep d) := by
  intro m
  induction m with
  | zero =>
    intro i d hi _ _
    refine ev_step ?_
    simp only [spec_Hash.l0]
    rw [List.drop_of_length_le (by omega)]
    exact ev_neg (by omega) (ev_const rfl)
  | succ m ih =>
    intro i d hi h0 h1
    have hlt : i < x.length := by omega
    refine ev_step ?_
    simp only [spec_Hash.l0]
    refine ev_pos (by omega) (ev_pos (by omega) (ev_bindc (Mod_at _) ?_))
    rw [hround _ _ h0 h1, w64s (n := x.length) hlt (by omega), rd_at x i hlt, List.drop_eq_getElem_cons hlt]
    exact ih (i + 1) _ (by omega) (hstep_bd _ _).1 (hstep_bd _ _).2
theorem Hash_sev (x : List Int) (hx : x.length ≤ 9223372036854775806) : Ev (fun k => spec_Hash.f k x) (hashL x) := by
  unfold spec_Hash.f
  exact Hash_sl x hx x.length 0 11 (by omega) (by omega) (by omega)
theorem iMod_at (v : Int) : impl_Mod.f v 2147483647 = some (v % 2147483647) := by
  rw [iMod_v, if_pos (by omega)]
theorem Hash_il (x : List Int) (hx : x.length ≤ 9223372036854775806) : ∀ (m i : Nat) (d : Int), i + m = x.length → 0 ≤ d → d < 2147483647 → Ev (fun k => impl_Hash.l0 k d x (x.length : Int) (i : Int)) ((x.drop i).foldl hstep d) := by
  intro m
  induction m with
  | zero =>
    intro i d hi _ _
    refine ev_step ?_
    simp only [impl_Hash.l0]
    rw [List.drop_of_length_le (by omega)]
    exact ev_neg (by omega) (ev_const rfl)
  | succ m ih =>
    intro i d hi h0 h1
    have hlt : i < x.length := by omega
    refine ev_step ?_
    simp only [impl_Hash.l0]
    refine ev_pos (by omega) (ev_pos (by omega) (ev_pos (by omega) (ev_bindc (iMod_at _) ?_)))
    rw [hround _ _ h0 h1, w64s (n := x.length) hlt (by omega), rd_at x i hlt, List.drop_eq_getElem_cons hlt]
    exact ih (i + 1) _ (by omega) (hstep_bd _ _).1 (hstep_bd _ _).2
theorem Hash_iev (x : List Int) (hx : x.length ≤ 9223372036854775806) : Ev (fun k => impl_Hash.f k x) (hashL x) := by
  unfold impl_Hash.f
  exact Hash_il x hx x.length 0 11 (by omega) (by omega) (by omega)

def khL (a : Int) (l : List Int) : Int := hashL (a :: (l ++ [a]))
theorem khL_bd (a : Int) (l : List Int) : 0 ≤ khL a l ∧ khL a l < 2147483647 := hashL_bd _
theorem KH_sev (a : Int) (l : List Int) (hl : l.length ≤ 10000000000000) : Ev (fun k => spec_KeyedHash.f k a l) (khL a l) := by
  unfold spec_KeyedHash.f
  refine ev_bindc rfl (ev_pos (by simp; omega) (ev_bindc rfl (ev_pos (by simp; omega) (ev_bind (Hash_sev _ (by simp; omega)) ?_))))
  unfold khL
  exact ev_const (by simp)
theorem KH_iev (a : Int) (l : List Int) (hl : l.length ≤ 10000000000000) : Ev (fun k => impl_KeyedHash.f k a l) (khL a l) := by
  unfold impl_KeyedHash.f
  exact ev_pos (by omega) (Hash_iev _ (by simp; omega))

def tagL (a : Int) (l : List Int) : Int := khL a (223 :: l)
theorem TO_sev (a : Int) (l : List Int) (hl : l.length ≤ 1000000000000) : Ev (fun k => spec_TagOf.f k a l) (tagL a l) := by
  unfold spec_TagOf.f
  exact ev_bindc rfl (ev_pos (by simp; omega) (ev_bind (KH_sev a _ (by simp; omega)) (ev_const rfl)))
theorem TO_iev (a : Int) (l : List Int) (hl : l.length ≤ 1000000000000) : Ev (fun k => impl_TagOf.f k a l) (tagL a l) := by
  unfold impl_TagOf.f
  exact ev_bindc rfl (ev_pos (by simp; omega) (ev_bind (KH_iev a _ (by simp; omega)) (ev_const rfl)))

def sigB (key tag : Int) (m : List Int) : Bool := decide (1 ≤ key ∧ key ≤ 99) && (tag == tagL key m)
theorem SB_sev (key tag : Int) (m : List Int) (hm : m.length ≤ 1000000000000) : Ev (fun k => spec_IsSigBy.f k key tag m) (sigB key tag m) := by
  unfold spec_IsSigBy.f sigB
  refine ev_bindc (l1In_v _ _ _) ?_
  by_cases h : 1 ≤ key ∧ key ≤ 99
  · refine ev_pos (by simpa using h) (ev_bind (TO_sev key m hm) (ev_const ?_))
    rw [decide_eq_true h, Bool.true_and]
  · rw [decide_eq_false h, Bool.false_and]
    exact ev_neg (by simp) (ev_const rfl)
theorem SB_key (a : Int) : impl_isKey.f a = some (decide (1 ≤ a ∧ a ≤ 99)) := by
  unfold impl_isKey.f
  rw [InRange_v]
  rfl
theorem SB_iev (key tag : Int) (m : List Int) (hm : m.length ≤ 1000000000000) : Ev (fun k => impl_IsSigBy.f k key tag m) (sigB key tag m) := by
  unfold impl_IsSigBy.f sigB
  refine ev_bindc (SB_key _) ?_
  by_cases h : 1 ≤ key ∧ key ≤ 99
  · refine ev_pos (by simpa using h) (ev_bind (TO_iev key m hm) (ev_const ?_))
    rw [decide_eq_true h, Bool.true_and]
  · rw [decide_eq_false h, Bool.false_and]
    exact ev_neg (by simp) (ev_const rfl)

/-- Is a signature one of the key's, and right. -/
def okS (m : List Int) (key : Int) (x : S49) : Bool := decide (x.f0 = key) && sigB x.f0 x.f1 m
def hasS (m : List Int) (s : List S49) (key : Int) : Bool := s.any (okS m key)
/-- How many of the keys have signed, behind n of them. -/
def cntS (m : List Int) (s : List S49) : List Int → Int → Int
  | [], n => n
  | key :: l, n => cntS m s l (if hasS m s key = true then n + 1 else n)
theorem rdI2_at (x : List S49) (i : Nat) (h : i < x.length) : rd_T49 x (i : Int) = x[i] := by simp [rd_T49, List.getD, h]
theorem CS_s1 (m : List Int) (hm : m.length ≤ 1000000000000) (s : List S49) (hs : s.length ≤ 9223372036854775806) (l : List Int) (a n : Int) (i : Nat) (hi : i < l.length) (hl : l.length ≤ 9223372036854775806) (r : Int) : ∀ (d j : Nat), j + d = s.length →
    Ev (fun k => spec_CountSigs.l0 k m s (if (s.drop j).any (okS m l[i]) = true then wrap64 (n + 1) else n) ((i + 1 : Nat) : Int) l a) r → Ev (fun k => spec_CountSigs.l1 k m s n (i : Int) (j : Int) l a) r := by
  intro d
  induction d with
  | zero =>
    intro j hj e
    rw [List.drop_of_length_le (by omega)] at e
    simp only [List.any_nil, Bool.false_eq_true, if_false] at e
    refine ev_step ?_
    simp only [spec_CountSigs.l1]
    rw [w64s (n := l.length) hi (by omega)]
    exact ev_neg (by omega) e
  | succ d ih =>
    intro j hj e
    have hlt : j < s.length := by omega
    rw [List.drop_eq_getElem_cons hlt, List.any_cons] at e
    refine ev_step ?_
    simp only [spec_CountSigs.l1]
    rw [w64s (n := l.length) hi (by omega), w64s (n := s.length) hlt (by omega), rdI2_at s j hlt, rd_at l i hi]
    refine ev_pos (by omega) (ev_pos (by omega) (ev_pos (by omega) (ev_pos (by omega) (ev_dec (fun h => ?_) (fun h => ?_)))))
    · refine ev_bind (SB_sev s[j].f0 s[j].f1 m hm) (ev_dec (fun h2 => ?_) (fun h2 => ?_))
      · have ho : okS m l[i] s[j] = true := by unfold okS; rw [decide_eq_true h, h2]; rfl
        rw [ho, Bool.true_or, if_pos rfl] at e
        exact e
      · have ho : okS m l[i] s[j] = false := by unfold okS; rw [decide_eq_true h, Bool.true_and]; simpa using h2
        rw [ho, Bool.false_or] at e
        exact ih (j + 1) (by omega) e
    · have ho : okS m l[i] s[j] = false := by unfold okS; rw [decide_eq_false h, Bool.false_and]
      rw [ho, Bool.false_or] at e
      exact ih (j + 1) (by omega) e
theorem CS_s0 (m : List Int) (hm : m.length ≤ 1000000000000) (s : List S49) (hs : s.length ≤ 9223372036854775806) (l : List Int) (a : Int) (hl : l.length ≤ 4611686018427387904) : ∀ (d i : Nat) (n : Int), i + d = l.length → 0 ≤ n → n ≤ (i : Int) →
    Ev (fun k => spec_CountSigs.l0 k m s n (i : Int) l a) (cntS m s (l.drop i) n) := by
  intro d
  induction d with
  | zero =>
    intro i n hi _ _
    refine ev_step ?_
    simp only [spec_CountSigs.l0]
    rw [List.drop_of_length_le (by omega)]
    exact ev_neg (by omega) (ev_const rfl)
  | succ d ih =>
    intro i n hi h0 h1
    have hlt : i < l.length := by omega
    refine ev_step ?_
    simp only [spec_CountSigs.l0]
    rw [List.drop_eq_getElem_cons hlt]
    refine ev_pos (by omega) (CS_s1 m hm s hs l a n i hlt (by omega) _ s.length 0 (by omega) ?_)
    have e : (s.drop 0).any (okS m l[i]) = hasS m s l[i] := by simp [hasS]
    rw [e, w64 (i := n + 1) (by omega) (by omega)]
    simp only [cntS]
    exact ih (i + 1) _ (by omega) (by split <;> omega) (by split <;> omega)
theorem CntS_sev (m : List Int) (hm : m.length ≤ 1000000000000) (s : List S49) (hs : s.length ≤ 1000000000000) (l : List Int) (a : Int) (hl : l.length ≤ 1000000000000) : Ev (fun k => spec_CountSigs.f k l a m s) (cntS m s l 0) := by
  unfold spec_CountSigs.f
  exact CS_s0 m hm s (by omega) l a (by omega) l.length 0 0 (by omega) (by omega) (by omega)
theorem CS_has (m : List Int) (hm : m.length ≤ 1000000000000) (key : Int) : ∀ s : List S49, Ev (fun k => impl_CountSigs.has k m key s) (s.any (okS m key))
  | [] => ev_const rfl
  | x :: s => by
    simp only [impl_CountSigs.has, List.any_cons]
    refine ev_bind (a := okS m key x) ?_ (ev_dec (fun h => ?_) (fun h => ?_))
    · unfold impl_CountSigs.one okS
      refine ev_dec (fun h => ?_) (fun h => ?_)
      · rw [decide_eq_true h, Bool.true_and]
        exact SB_iev x.f0 x.f1 m hm
      · rw [decide_eq_false h, Bool.false_and]
        exact ev_const rfl
    · rw [h]
      exact ev_const rfl
    · rw [show okS m key x = false from by simpa using h, Bool.false_or]
      exact CS_has m hm key s
theorem CS_cnt (m : List Int) (hm : m.length ≤ 1000000000000) (s : List S49) : ∀ (l : List Int) (n : Int), 0 ≤ n → n + l.length ≤ 4611686018427387904 → Ev (fun k => impl_CountSigs.cnt k m s l n) (cntS m s l n)
  | [], n, _, _ => ev_const rfl
  | key :: l, n, h0, h1 => by
    simp only [List.length_cons] at h1
    simp only [impl_CountSigs.cnt, cntS]
    refine ev_bind (CS_has m hm key s) ?_
    rw [w64 (i := n + 1) (by omega) (by omega)]
    exact CS_cnt m hm s l _ (by split <;> omega) (by split <;> omega)
theorem CntS_iev (m : List Int) (hm : m.length ≤ 1000000000000) (s : List S49) (hs : s.length ≤ 1000000000000) (l : List Int) (a : Int) (hl : l.length ≤ 1000000000000) : Ev (fun k => impl_CountSigs.f k l a m s) (cntS m s l 0) := by
  unfold impl_CountSigs.f
  exact ev_pos (by omega) (CS_cnt m hm s l 0 (by omega) (by omega))

/-- What a set of keys must be. -/
def isKs (l : List Int) (n : Int) : Prop := 1 ≤ l.length ∧ l.length ≤ 4 ∧ 1 ≤ n ∧ n ≤ (l.length : Int) ∧ (∀ i : Nat, i < l.length → 1 ≤ rd l (i : Int) ∧ rd l (i : Int) ≤ 99) ∧ (∀ i : Nat, i + 1 < l.length → rd l (i : Int) < rd l ((i + 1 : Nat) : Int))
theorem ks_bool (l : List Int) (n : Int) : ∃ b : Bool, b = true ↔ isKs l n := by
  by_cases h : isKs l n
  · exact ⟨true, by simp [h]⟩
  · exact ⟨false, by simp [h]⟩
theorem IsKeys_sl (l : List Int) (n : Int) (hl : l.length ≤ 9223372036854775806) (b : Bool) : ∀ (d i : Nat), i + d = l.length →
    (b = true ↔ (1 ≤ l.length ∧ l.length ≤ 4 ∧ 1 ≤ n ∧ n ≤ (l.length : Int)) ∧ (∀ j : Nat, i ≤ j → j < l.length → 1 ≤ rd l (j : Int) ∧ rd l (j : Int) ≤ 99 ∧ (0 < j → rd l ((j - 1 : Nat) : Int) < rd l (j : Int)))) → Ev (fun k => spec_IsKeys.l0 k (i : Int) l n) b := by
  intro d
  induction d with
  | zero =>
    intro i hi hb
    refine ev_step ?_
    simp only [spec_IsKeys.l0]
    refine ev_neg (by omega) (ev_bindc (l1In_v _ _ _) ?_)
    have hb' : b = true ↔ (1 ≤ l.length ∧ l.length ≤ 4 ∧ 1 ≤ n ∧ n ≤ (l.length : Int)) := hb.trans ⟨fun z => z.1, fun z => ⟨z, fun j h1 h2 => by omega⟩⟩
    by_cases h : 1 ≤ l.length ∧ l.length ≤ 4
    · refine ev_pos (by simp; omega) (ev_bindc (l1In_v _ _ _) (ev_const ?_))
      congr 1
      rw [Bool.eq_iff_iff, hb', decide_eq_true_iff]
      exact ⟨fun z => ⟨h.1, h.2, z⟩, fun z => z.2.2⟩
    · have e : b = false := by rw [Bool.eq_false_iff]; intro z; exact h ⟨(hb'.mp z).1, (hb'.mp z).2.1⟩
      rw [e]
      exact ev_neg (by simp; omega) (ev_const rfl)
  | succ d ih =>
    intro i hi hb
    have hlt : i < l.length := by omega
    refine ev_step ?_
    simp only [spec_IsKeys.l0]
    rw [w64s (n := l.length) hlt (by omega), w64 (i := (i : Int) - 1) (by omega) (by omega)]
    have hf : ∀ (_ : ¬ (1 ≤ rd l (i : Int) ∧ rd l (i : Int) ≤ 99 ∧ (0 < i → rd l ((i - 1 : Nat) : Int) < rd l (i : Int)))), b = false := by
      intro h
      rw [Bool.eq_false_iff]
      exact fun z => h ((hb.mp z).2 i (Nat.le_refl _) hlt)
    have hgo : (1 ≤ rd l (i : Int) ∧ rd l (i : Int) ≤ 99 ∧ (0 < i → rd l ((i - 1 : Nat) : Int) < rd l (i : Int))) → Ev (fun k => spec_IsKeys.l0 k ((i + 1 : Nat) : Int) l n) b := by
      intro h
      refine ih (i + 1) (by omega) (hb.trans ⟨fun z => ⟨z.1, fun j h1 h2 => z.2 j (by omega) h2⟩, fun z => ⟨z.1, fun j h1 h2 => ?_⟩⟩)
      by_cases e : j = i
      · subst e; exact h
      · exact z.2 j (by omega) h2
    refine ev_pos (by omega) (ev_pos (by omega) (ev_bindc (l1In_v _ _ _) ?_))
    by_cases h1 : 1 ≤ rd l (i : Int) ∧ rd l (i : Int) ≤ 99
    · refine ev_pos (by simpa using h1) (ev_dec (fun hp => ?_) (fun hp => ?_))
      · have e1 : (i : Int) - 1 = ((i - 1 : Nat) : Int) := by omega
        rw [e1]
        refine ev_pos (by omega) (ev_pos (by omega) (ev_dec (fun h2 => ?_) (fun h2 => ?_)))
        · rw [hf (fun z => by have := z.2.2 (by omega); omega)]
          exact ev_const rfl
        · exact hgo ⟨h1.1, h1.2, fun _ => by omega⟩
      · exact hgo ⟨h1.1, h1.2, fun z => by omega⟩
    · rw [hf (fun z => h1 ⟨z.1, z.2.1⟩)]
      exact ev_neg (by simp; omega) (ev_const rfl)
theorem IsKeys_sev (l : List Int) (n : Int) (hl : l.length ≤ 9223372036854775806) (b : Bool) (hb : b = true ↔ isKs l n) : Ev (fun k => spec_IsKeys.f k l n) b := by
  unfold spec_IsKeys.f
  refine IsKeys_sl l n hl b l.length 0 (by omega) (hb.trans ?_)
  unfold isKs
  constructor
  · rintro ⟨h1, h2, h3, h4, h5, h6⟩
    refine ⟨⟨h1, h2, h3, h4⟩, fun j _ hj => ⟨(h5 j hj).1, (h5 j hj).2, fun hp => ?_⟩⟩
    have := h6 (j - 1) (by omega)
    rw [show j - 1 + 1 = j from by omega] at this
    exact this
  · rintro ⟨⟨h1, h2, h3, h4⟩, h5⟩
    refine ⟨h1, h2, h3, h4, fun i hi => ⟨(h5 i (by omega) hi).1, (h5 i (by omega) hi).2.1⟩, fun i hi => ?_⟩
    have := (h5 (i + 1) (by omega) hi).2.2 (by omega)
    simpa using this
theorem asc_l (l : List Int) (hl : l.length ≤ 9223372036854775806) (b : Bool) : ∀ (d i : Nat), i + d = l.length → (b = true ↔ ∀ j : Nat, i ≤ j → j < l.length → 0 < j → rd l ((j - 1 : Nat) : Int) < rd l (j : Int)) → Ev (fun k => impl_ascending.l0 k l (l.length : Int) (i : Int)) b := by
  intro d
  induction d with
  | zero =>
    intro i hi hb
    obtain rfl : b = true := hb.mpr (fun j h1 h2 => by omega)
    refine ev_step ?_
    simp only [impl_ascending.l0]
    exact ev_neg (by omega) (ev_const rfl)
  | succ d ih =>
    intro i hi hb
    have hlt : i < l.length := by omega
    refine ev_step ?_
    simp only [impl_ascending.l0]
    rw [w64s (n := l.length) hlt (by omega), w64 (i := (i : Int) - 1) (by omega) (by omega)]
    have hgo : (0 < i → rd l ((i - 1 : Nat) : Int) < rd l (i : Int)) → Ev (fun k => impl_ascending.l0 k l (l.length : Int) ((i + 1 : Nat) : Int)) b := by
      intro h
      refine ih (i + 1) (by omega) (hb.trans ⟨fun z j h1 h2 => z j (by omega) h2, fun z j h1 h2 h3 => ?_⟩)
      by_cases e : j = i
      · subst e; exact h h3
      · exact z j (by omega) h2 h3
    refine ev_pos (by omega) (ev_dec (fun hp => ?_) (fun hp => ?_))
    · have e1 : (i : Int) - 1 = ((i - 1 : Nat) : Int) := by omega
      rw [e1]
      refine ev_pos (by omega) (ev_pos (by omega) (ev_pos (by omega) (ev_pos (by omega) (ev_dec (fun h2 => ?_) (fun h2 => ?_)))))
      · have e : b = false := by
          rw [Bool.eq_false_iff]
          intro z
          have := hb.mp z i (Nat.le_refl _) hlt (by omega)
          omega
        rw [e]
        exact ev_const rfl
      · exact hgo (fun _ => by omega)
    · exact hgo (fun z => by omega)
theorem asc_ends (l : List Int) (h : ∀ i : Nat, i + 1 < l.length → rd l (i : Int) < rd l ((i + 1 : Nat) : Int)) : ∀ j : Nat, j < l.length → rd l 0 ≤ rd l (j : Int) ∧ rd l (j : Int) ≤ rd l ((l.length - 1 : Nat) : Int) := by
  have up : ∀ j : Nat, j < l.length → rd l 0 ≤ rd l (j : Int) := by
    intro j
    induction j with
    | zero => intro _; exact Int.le_refl _
    | succ j ih => intro hj; have := ih (by omega); have := h j hj; omega
  have down : ∀ d j : Nat, j + d + 1 = l.length → rd l (j : Int) ≤ rd l ((l.length - 1 : Nat) : Int) := by
    intro d
    induction d with
    | zero => intro j hj; rw [show l.length - 1 = j from by omega]; exact Int.le_refl _
    | succ d ih => intro j hj; have := ih (j + 1) (by omega); have := h j (by omega); omega
  exact fun j hj => ⟨up j hj, down (l.length - 1 - j) j (by omega)⟩
theorem isKey_v (a : Int) : impl_isKey.f a = some (decide (1 ≤ a ∧ a ≤ 99)) := by
  unfold impl_isKey.f
  rw [InRange_v]
  rfl
theorem IsKeys_iev (l : List Int) (n : Int) (hl : l.length ≤ 9223372036854775806) (b : Bool) (hb : b = true ↔ isKs l n) : Ev (fun k => impl_IsKeys.f k l n) b := by
  unfold impl_IsKeys.f
  have hf : ∀ (_ : ¬ isKs l n), b = false := by
    intro h
    rw [Bool.eq_false_iff]
    exact fun z => h (hb.mp z)
  refine ev_bindc (InRange_v _ _ _) ?_
  by_cases h1 : 1 ≤ l.length ∧ l.length ≤ 4
  · refine ev_pos (by simp; omega) ?_
    have hasc : ∃ q : Bool, q = true ↔ ∀ i : Nat, i + 1 < l.length → rd l (i : Int) < rd l ((i + 1 : Nat) : Int) := by
      by_cases h : ∀ i : Nat, i + 1 < l.length → rd l (i : Int) < rd l ((i + 1 : Nat) : Int)
      · exact ⟨true, ⟨fun _ => h, fun _ => rfl⟩⟩
      · exact ⟨false, ⟨fun z => (by cases z), fun z => absurd z h⟩⟩
    obtain ⟨q, hq⟩ := hasc
    have ea : Ev (fun k => impl_ascending.f k l) q := by
      unfold impl_ascending.f
      refine asc_l l hl q l.length 0 (by omega) (hq.trans ⟨fun z j _ h2 h3 => ?_, fun z i hi => ?_⟩)
      · have := z (j - 1) (by omega)
        rw [show j - 1 + 1 = j from by omega] at this
        exact this
      · have := z (i + 1) (by omega) hi (by omega)
        simpa using this
    refine ev_bind ea ?_
    cases q with
    | false =>
      rw [hf (fun z => by have := hq.mpr z.2.2.2.2.2; cases this)]
      exact ev_neg (by simp) (ev_const rfl)
    | true =>
      have ha := hq.mp rfl
      have hends := asc_ends l ha
      have e1 : wrap64 ((l.length : Int) - 1) = ((l.length - 1 : Nat) : Int) := by rw [w64 (by omega) (by omega)]; omega
      rw [e1]
      refine ev_pos rfl (ev_pos (by omega) (ev_bindc (isKey_v _) ?_))
      by_cases h2 : 1 ≤ rd l 0 ∧ rd l 0 ≤ 99
      · refine ev_pos (by simpa using h2) (ev_pos (by omega) (ev_pos (by omega) (ev_bindc (isKey_v _) ?_)))
        by_cases h3 : 1 ≤ rd l ((l.length - 1 : Nat) : Int) ∧ rd l ((l.length - 1 : Nat) : Int) ≤ 99
        · refine ev_pos (by simpa using h3) (ev_bindc (InRange_v _ _ _) (ev_const ?_))
          congr 1
          rw [Bool.eq_iff_iff, hb, decide_eq_true_iff]
          unfold isKs
          constructor
          · intro z
            exact ⟨h1.1, h1.2, z.1, z.2, fun i hi => by have := hends i hi; omega, ha⟩
          · rintro ⟨_, _, z1, z2, _⟩
            exact ⟨z1, z2⟩
        · rw [hf (fun z => h3 (z.2.2.2.2.1 (l.length - 1) (by omega)))]
          exact ev_neg (by simp; omega) (ev_const rfl)
      · rw [hf (fun z => h2 (z.2.2.2.2.1 0 (by omega)))]
        exact ev_neg (by simp; omega) (ev_const rfl)
  · rw [hf (fun z => h1 ⟨z.1, z.2.1⟩)]
    exact ev_neg (by simp; omega) (ev_const rfl)

def sgdB (l : List Int) (n : Int) (m : List Int) (s : List S49) (b : Bool) : Bool := b && decide (cntS m s l 0 ≥ n)
theorem IsSgd_sev (m : List Int) (hm : m.length ≤ 1000000000000) (s : List S49) (hs : s.length ≤ 1000000000000) (l : List Int) (n : Int) (hl : l.length ≤ 1000000000000) (b : Bool) (hb : b = true ↔ isKs l n) : Ev (fun k => spec_IsSigned.f k l n m s) (sgdB l n m s b) := by
  unfold spec_IsSigned.f sgdB
  refine ev_bind (IsKeys_sev l n (by omega) b hb) ?_
  cases b with
  | true => exact ev_pos rfl (ev_bind (CntS_sev m hm s hs l n hl) (ev_const rfl))
  | false => exact ev_neg (by simp) (ev_const rfl)
theorem IsSgd_iev (m : List Int) (hm : m.length ≤ 1000000000000) (s : List S49) (hs : s.length ≤ 1000000000000) (l : List Int) (n : Int) (hl : l.length ≤ 1000000000000) (b : Bool) (hb : b = true ↔ isKs l n) : Ev (fun k => impl_IsSigned.f k l n m s) (sgdB l n m s b) := by
  unfold impl_IsSigned.f sgdB
  refine ev_bind (IsKeys_iev l n (by omega) b hb) ?_
  cases b with
  | true => exact ev_pos rfl (ev_bind (CntS_iev m hm s hs l n hl) (ev_const rfl))
  | false => exact ev_neg (by simp) (ev_const rfl)
end OfFnExactIsSigned
open OfFnExactIsSigned in
theorem FnExactIsSigned : laws_FnExactIsSigned.Pure := by
  intro l n m s hl _ _ hm _ hs _
  apply Ev.rounds
  unfold laws_FnExactIsSigned.f
  refine ev_dec (fun _ => ev_const rfl) (fun h1 => ?_)
  refine ev_bindc (szKeys_v l n 1048576 hl (by omega) (by omega)) (ev_dec (fun _ => ev_const rfl) (fun h0 => ?_))
  have hb : l.length ≤ 1048576 := by split at h0 <;> omega
  refine ev_bindc (szSig_v s _ hs (by split at h0 <;> split <;> omega) (by split <;> omega)) (ev_dec (fun _ => ev_const rfl) (fun h2 => ?_))
  have hsl : s.length ≤ 1048576 := by
    rw [if_neg (by omega)] at h2
    split at h2 <;> omega
  clear h0 h2
  have e0 := toKeys_ev l n (by omega)
  have e1 := toIntS_ev m (by omega)
  have e2 := toSigS_ev s (by omega)
  have hcl : (s.map cvS).length ≤ 1048576 := by simpa using hsl
  generalize s.map cvS = t at e2 hcl
  obtain ⟨b, hk⟩ := ks_bool l n
  have c := IsSgd_sev m (by omega) t (by omega) l n (by omega) b hk
  have g := IsSgd_iev m (by omega) t (by omega) l n (by omega) b hk
  have q0 := eqKeys_refl l n (by omega)
  have q1 := eqIntS_refl m (by omega)
  have q2 := eqSigS_refl t (by omega)
  generalize sgdB l n m t b = v at c g
  repeat' first
    | exact ev_const rfl
    | refine ev_bind e0 ?_
    | refine ev_bind e1 ?_
    | refine ev_bind e2 ?_
    | refine ev_bind c ?_
    | refine ev_bind g ?_
    | refine ev_bind q0 ?_
    | refine ev_bind q1 ?_
    | refine ev_bind q2 ?_
    | refine ev_pos rfl ?_
    | refine ev_neg (by first | omega | (simp; done) | (simp; omega)) ?_
    | refine ev_pos (by first | omega | (simp; done) | (simp; omega)) ?_
end Go.Proofs.Ytaebboanblfmjaa.Pure
