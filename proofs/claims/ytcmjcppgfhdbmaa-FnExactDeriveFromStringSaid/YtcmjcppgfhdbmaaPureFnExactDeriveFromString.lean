/- The pure statement of FnExactDeriveFromString: what the printed functions compute answers true for all arguments within the printed bounds. -/
import Derived.Test.YtcmjcppgfhdbmaaPFnExactDeriveFromStringx2
import Derived.Test.YtcmjcppgfhdbmaaKit
namespace Go.Proofs.Ytcmjcppgfhdbmaa.Pure
open Go.RowKit Go.Proofs.Ytcmjcppgfhdbmaa.PFnExactDeriveFromString Go.Proofs.YtcmjcppgfhdbmaaW.PrintWords Go.Proofs.YtcmjcppgfhdbmaaW.PrintLast Go.Proofs.Ytcmjcppgfhdbmaa.Kit
set_option linter.unusedVariables false
set_option linter.unusedSimpArgs false
namespace OfFnExactDeriveFromString
theorem BytesToInts_sl (x : List Int) (hx : x.length ≤ 1000000000000) (hw : ∀ v ∈ x, 0 ≤ v ∧ v ≤ 255) : ∀ (m i : Nat), i + m = x.length → Ev (fun k => spec_BytesToInts.l0 k x ((x.length : Int) :: x.take i) (i : Int)) ((x.length : Int) :: x) := by
  intro m
  induction m with
  | zero =>
    intro i hi
    refine ev_step ?_
    simp only [spec_BytesToInts.l0]
    rw [List.take_of_length_le (by omega)]
    exact ev_neg (by omega) (ev_const rfl)
  | succ m ih =>
    intro i hi
    have hlt : i < x.length := by omega
    have hv := hw x[i] (List.getElem_mem hlt)
    refine ev_step ?_
    simp only [spec_BytesToInts.l0]
    refine ev_pos (by omega) (ev_pos (by omega) (ev_pos (by simp; omega) ?_))
    rw [w64s (n := x.length) hlt (by omega), rd_at x i hlt, w64 (i := x[i]) (by omega) (by omega)]
    have h := ih (i + 1) (by omega)
    rw [List.take_succ_eq_append_getElem hlt] at h
    exact h
theorem BytesToInts_il (x : List Int) (hx : x.length ≤ 1000000000000) (hw : ∀ v ∈ x, 0 ≤ v ∧ v ≤ 255) : ∀ (m i : Nat), i + m = x.length → Ev (fun k => impl_BytesToInts.l0 k ((x.length : Int) :: x.take i) x (x.length : Int) (i : Int)) ((x.length : Int) :: x) := by
  intro m
  induction m with
  | zero =>
    intro i hi
    refine ev_step ?_
    simp only [impl_BytesToInts.l0]
    rw [List.take_of_length_le (by omega)]
    exact ev_neg (by omega) (ev_const rfl)
  | succ m ih =>
    intro i hi
    have hlt : i < x.length := by omega
    have hv := hw x[i] (List.getElem_mem hlt)
    refine ev_step ?_
    simp only [impl_BytesToInts.l0]
    refine ev_pos (by omega) (ev_pos (by omega) (ev_pos (by omega) (ev_pos (by simp; omega) ?_)))
    rw [w64s (n := x.length) hlt (by omega), rd_at x i hlt, w64 (i := x[i]) (by omega) (by omega)]
    have h := ih (i + 1) (by omega)
    rw [List.take_succ_eq_append_getElem hlt] at h
    exact h
theorem BytesToInts_sev (x : List Int) (hx : x.length ≤ 1000000000000) (hw : ∀ v ∈ x, 0 ≤ v ∧ v ≤ 255) : Ev (fun k => spec_BytesToInts.f k x) ((x.length : Int) :: x) := by
  unfold spec_BytesToInts.f
  exact BytesToInts_sl x hx hw x.length 0 (by omega)
theorem BytesToInts_iev (x : List Int) (hx : x.length ≤ 1000000000000) (hw : ∀ v ∈ x, 0 ≤ v ∧ v ≤ 255) : Ev (fun k => impl_BytesToInts.f k x) ((x.length : Int) :: x) := by
  unfold impl_BytesToInts.f
  exact BytesToInts_il x hx hw x.length 0 (by omega)

theorem LabelInts_rg (a : ByteArray) : ∀ v ∈ bytesOf a, 0 ≤ v ∧ v ≤ 255 := by
  intro v hv
  unfold bytesOf at hv
  simp only [List.mem_map] at hv
  obtain ⟨b, _, rfl⟩ := hv
  have := b.toNat_lt
  omega

theorem InRange_v (a b c : Int) : impl_InRange.f a b c = some (decide (b ≤ a ∧ a ≤ c)) := by
  unfold impl_InRange.f
  by_cases h : b ≤ a <;> simp [h]

theorem l1In_v (a b c : Int) : spec_l1In.f a b c = some (decide (b ≤ a ∧ a ≤ c)) := by
  unfold spec_l1In.f
  by_cases h : b ≤ a <;> simp [h]

theorem Mod_v (a b : Int) : spec_Mod.f a b = some (if 1 ≤ b ∧ b ≤ 1000000000000 then a % b else 0) := by
  unfold spec_Mod.f
  rw [l1In_v]
  by_cases h2 : 1 ≤ b ∧ b ≤ 1000000000000
  · have hb : ¬ b = 0 := by omega
    have h3 := Int.lt_tmod_of_pos a (show 0 < b by omega)
    have h4 := Int.tmod_lt_of_pos a (show 0 < b by omega)
    rw [if_pos h2]
    simp only [h2, hb, and_self, decide_true, Option.bind_some, if_true, if_false]
    rw [w64 (i := Int.tmod a b + b) (by omega) (by omega), Int.tmod_eq_emod_of_nonneg (a := Int.tmod a b + b) (by omega)]
    congr 1
    have h5 := Int.tmod_add_tdiv_mul a b
    rw [Int.add_emod_right]
    conv => rhs; rw [← h5]
    rw [Int.add_mul_emod_self_right]
  · rw [if_neg h2]
    simp [h2]
theorem iMod_v (a b : Int) : impl_Mod.f a b = some (if 1 ≤ b ∧ b ≤ 1000000000000 then a % b else 0) := by
  unfold impl_Mod.f
  rw [InRange_v]
  by_cases h2 : 1 ≤ b ∧ b ≤ 1000000000000
  · have hb : ¬ b = 0 := by omega
    have h3 := Int.lt_tmod_of_pos a (show 0 < b by omega)
    have h4 := Int.tmod_lt_of_pos a (show 0 < b by omega)
    rw [if_pos h2]
    simp only [h2, hb, and_self, decide_true, Option.bind_some, if_true, if_false]
    rw [w64 (i := Int.tmod a b + b) (by omega) (by omega), Int.tmod_eq_emod_of_nonneg (a := Int.tmod a b + b) (by omega)]
    congr 1
    have h5 := Int.tmod_add_tdiv_mul a b
    rw [Int.add_emod_right]
    conv => rhs; rw [← h5]
    rw [Int.add_mul_emod_self_right]
  · rw [if_neg h2]
    simp [h2]

/-- One round of the hash. -/
def hstep (d v : Int) : Int := (d * 1000003 + v % 2147483647 + 13) % 2147483647
def hashL (l : List Int) : Int := l.foldl hstep 11
theorem hstep_bd (d v : Int) : 0 ≤ hstep d v ∧ hstep d v < 2147483647 := by unfold hstep; omega
theorem hfold_bd (l : List Int) : ∀ d : Int, 0 ≤ d → d < 2147483647 → 0 ≤ l.foldl hstep d ∧ l.foldl hstep d < 2147483647 := by
  induction l with
  | nil => intro d h0 h1; exact ⟨h0, h1⟩
  | cons a l ih => intro d _ _; exact ih _ (hstep_bd d a).1 (hstep_bd d a).2
theorem hashL_bd (l : List Int) : 0 ≤ hashL l ∧ hashL l < 2147483647 := hfold_bd l 11 (by omega) (by omega)
theorem hround (d v : Int) (h0 : 0 ≤ d) (h1 : d < 2147483647) : Int.tmod (wrap64 ((wrap64 ((wrap64 (d * 1000003)) + v % 2147483647)) + 13)) 2147483647 = hstep d v := by
  have hv0 : 0 ≤ v % 2147483647 := by omega
  have hv1 : v % 2147483647 < 2147483647 := by omega
  rw [w64 (i := d * 1000003) (by omega) (by omega), w64 (i := d * 1000003 + v % 2147483647) (by omega) (by omega), w64 (i := d * 1000003 + v % 2147483647 + 13) (by omega) (by omega), Int.tmod_eq_emod_of_nonneg (by omega)]
  rfl
theorem Mod_at (v : Int) : spec_Mod.f v 2147483647 = some (v % 2147483647) := by
  rw [Mod_v, if_pos (by omega)]
theorem Hash_sl (x : List Int) (hx : x.length ≤ 9223372036854775806) : ∀ (m i : Nat) (d : Int), i + m = x.length → 0 ≤ d → d < 2147483647 → Ev (fun k => spec_Hash.l0 k x d (i : Int)) ((x.drop i).foldl hstep d) := by
  intro m
  induction m with
  | zero =>
    intro i d hi _ _
    refine ev_step ?_
    simp only [spec_Hash.l0]
    rw [List.drop_of_length_le (by omega)]
    exact ev_neg (by omega) (ev_const rfl)
  | succ m ih =>
    intro i d hi h0 h1
    have hlt : i < x.length := by omega
    refine ev_step ?_
    simp only [spec_Hash.l0]
    refine ev_pos (by omega) (ev_pos (by omega) (ev_bindc (Mod_at _) ?_))
    rw [hround _ _ h0 h1, w64s (n := x.length) hlt (by omega), rd_at x i hlt, List.drop_eq_getElem_cons hlt]
    exact ih (i + 1) _ (by omega) (hstep_bd _ _).1 (hstep_bd _ _).2
theorem Hash_sev (x : List Int) (hx : x.length ≤ 9223372036854775806) : Ev (fun k => spec_Hash.f k x) (hashL x) := by
  unfold spec_Hash.f
  exact Hash_sl x hx x.length 0 11 (by omega) (by omega) (by omega)
theorem iMod_at (v : Int) : impl_Mod.f v 2147483647 = some (v % 2147483647) := by
  rw [iMod_v, if_pos (by omega)]
theorem Hash_il (x : List Int) (hx : x.length ≤ 9223372036854775806) : ∀ (m i : Nat) (d : Int), i + m = x.length → 0 ≤ d → d < 2147483647 → Ev (fun k => impl_Hash.l0 k d x (x.length : Int) (i : Int)) ((x.drop i).foldl hstep d) := by
  intro m
  induction m with
  | zero =>
    intro i d hi _ _
    refine ev_step ?_
    simp only [impl_Hash.l0]
    rw [List.drop_of_length_le (by omega)]
    exact ev_neg (by omega) (ev_const rfl)
  | succ m ih =>
    intro i d hi h0 h1
    have hlt : i < x.length := by omega
    refine ev_step ?_
    simp only [impl_Hash.l0]
    refine ev_pos (by omega) (ev_pos (by omega) (ev_pos (by omega) (ev_bindc (iMod_at _) ?_)))
    rw [hround _ _ h0 h1, w64s (n := x.length) hlt (by omega), rd_at x i hlt, List.drop_eq_getElem_cons hlt]
    exact ih (i + 1) _ (by omega) (hstep_bd _ _).1 (hstep_bd _ _).2
theorem Hash_iev (x : List Int) (hx : x.length ≤ 9223372036854775806) : Ev (fun k => impl_Hash.f k x) (hashL x) := by
  unfold impl_Hash.f
  exact Hash_il x hx x.length 0 11 (by omega) (by omega) (by omega)

def khL (a : Int) (l : List Int) : Int := hashL (a :: (l ++ [a]))
theorem khL_bd (a : Int) (l : List Int) : 0 ≤ khL a l ∧ khL a l < 2147483647 := hashL_bd _
theorem KH_sev (a : Int) (l : List Int) (hl : l.length ≤ 10000000000000) : Ev (fun k => spec_KeyedHash.f k a l) (khL a l) := by
  unfold spec_KeyedHash.f
  refine ev_bindc rfl (ev_pos (by simp; omega) (ev_bindc rfl (ev_pos (by simp; omega) (ev_bind (Hash_sev _ (by simp; omega)) ?_))))
  unfold khL
  exact ev_const (by simp)
theorem KH_iev (a : Int) (l : List Int) (hl : l.length ≤ 10000000000000) : Ev (fun k => impl_KeyedHash.f k a l) (khL a l) := by
  unfold impl_KeyedHash.f
  exact ev_pos (by omega) (Hash_iev _ (by simp; omega))

def deriveL (a : Int) (s : ByteArray) : Int := if khL a ((s.size : Int) :: bytesOf s) > 1 then khL a ((s.size : Int) :: bytesOf s) else 1
theorem Derive_sev (a : Int) (s : ByteArray) (h : s.size ≤ 1000000000000) : Ev (fun k => spec_DeriveFromString.f k a s) (deriveL a s) := by
  unfold spec_DeriveFromString.f
  have e := BytesToInts_sev (bytesOf s) (by rw [bytesOf_length]; omega) (LabelInts_rg s)
  rw [bytesOf_length] at e
  refine ev_pos (by omega) (ev_bind e (ev_bind (KH_sev _ _ (by simp [bytesOf_length]; omega)) ?_))
  unfold deriveL spec_Max.f
  split
  · exact ev_const rfl
  · exact ev_const rfl
theorem Derive_iev (a : Int) (s : ByteArray) (h : s.size ≤ 1000000000000) : Ev (fun k => impl_DeriveFromString.f k a s) (deriveL a s) := by
  unfold impl_DeriveFromString.f
  have e := BytesToInts_iev (bytesOf s) (by rw [bytesOf_length]; omega) (LabelInts_rg s)
  rw [bytesOf_length] at e
  refine ev_pos (by omega) (ev_bind e (ev_bind (KH_iev _ _ (by simp [bytesOf_length]; omega)) ?_))
  refine ev_const ?_
  unfold deriveL mx
  rfl
end OfFnExactDeriveFromString
open OfFnExactDeriveFromString in
theorem FnExactDeriveFromString : laws_FnExactDeriveFromString.Pure := by
  intro a s _ _
  apply Ev.rounds
  unfold laws_FnExactDeriveFromString.f
  refine ev_dec (fun _ => ev_const rfl) (fun h0 => ?_)
  exact ev_bind (Derive_sev a s (by omega)) (ev_bind (Derive_iev a s (by omega)) (ev_pos rfl (ev_const rfl)))
end Go.Proofs.Ytcmjcppgfhdbmaa.Pure
