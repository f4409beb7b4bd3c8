/- The pure statement of FnThresholds: what the printed functions compute answers true for all arguments within the printed bounds. -/
import Derived.Test.YtanogkaledgecaaPFnThresholdsx10
import Derived.Test.YtanogkaledgecaaKit
namespace Go.Proofs.Ytanogkaledgecaa.Pure
open Go.RowKit Go.Proofs.Ytanogkaledgecaa.PFnThresholds Go.Proofs.YtanogkaledgecaaW.PrintWords Go.Proofs.YtanogkaledgecaaW.PrintLast Go.Proofs.Ytanogkaledgecaa.Kit
set_option linter.unusedVariables false
set_option linter.unusedSimpArgs false
namespace OfFnThresholds
theorem l1New_ok (b : List Int) (hb : b.length ≤ 1000000000000000000) : ∃ h, Ev (fun k => spec_l1New.f k b) (b, 0, h) := by
  have key : ∀ (m i : Nat) (h : Int), i + m = b.length → ∃ h', Ev (fun k => spec_l1New.l0 k b h (i : Int)) (b, 0, h') := by
    intro m
    induction m with
    | zero =>
      intro i h hi
      refine ⟨h, ev_step ?_⟩
      simp only [spec_l1New.l0]
      exact ev_neg (by omega) (ev_const rfl)
    | succ m ih =>
      intro i h hi
      by_cases h4 : (i : Int) < 4000
      · obtain ⟨h', e⟩ := ih (i + 1) (Go.bits .and .i64 (wrap64 ((wrap64 ((wrap64 (h * 137)) + (wrap64 (rd b (i : Int))))) + 11)) 1073741823) (by omega)
        refine ⟨h', ev_step ?_⟩
        simp only [spec_l1New.l0]
        rw [w64s (n := b.length) (by omega) (by omega)]
        exact ev_pos (by omega) (ev_pos h4 (ev_pos (by omega) e))
      · refine ⟨h, ev_step ?_⟩
        simp only [spec_l1New.l0]
        exact ev_pos (by omega) (ev_neg h4 (ev_const rfl))
  unfold spec_l1New.f
  exact key b.length 0 _ (by omega)

theorem and255 (x : Int) : 0 ≤ Go.bits .and .i64 x 255 ∧ Go.bits .and .i64 x 255 ≤ 255 := by
  unfold Go.bits
  simp only []
  have h1 : (BitVec.ofInt IntKind.i64.bits x &&& BitVec.ofInt IntKind.i64.bits 255).toNat ≤ 255 := by
    rw [BitVec.toNat_and]
    exact Nat.le_trans Nat.and_le_right (by decide)
  generalize (BitVec.ofInt IntKind.i64.bits x &&& BitVec.ofInt IntKind.i64.bits 255).toNat = n at h1
  rw [IntKind.wrap_i64]
  omega

/-- The drawing of bytes and of what is made of them: each draw ends, and its values lie where they should. The reader's place i never is below 0. -/
theorem l1Byte_ok (b : List Int) (i h : Int) (hb : b.length ≤ 1000000000000000000) (hi : 0 ≤ i) : ∃ x i' h', spec_l1Byte.f b i h = some (x, i', h') ∧ 0 ≤ x ∧ x ≤ 255 ∧ 0 ≤ i' := by
  unfold spec_l1Byte.f
  by_cases h1 : i < (b.length : Int)
  · rw [if_pos h1, if_pos hi]
    exact ⟨_, _, _, rfl, (and255 _).1, (and255 _).2, by rw [w64 (by omega) (by omega)]; omega⟩
  · rw [if_neg h1]
    exact ⟨_, _, _, rfl, (and255 _).1, (and255 _).2, hi⟩
theorem l1Below_ok (b : List Int) (i h n : Int) (hb : b.length ≤ 1000000000000000000) (hi : 0 ≤ i) : ∃ x i' h', spec_l1Below.f b i h n = some (x, i', h') ∧ 0 ≤ x ∧ (0 < n → x < n) ∧ (n ≤ 0 → x = 0) ∧ 0 ≤ i' := by
  unfold spec_l1Below.f
  by_cases h1 : n ≤ 0
  · rw [if_pos h1]
    exact ⟨_, _, _, rfl, by omega, by omega, by omega, hi⟩
  · rw [if_neg h1]
    obtain ⟨x1, i1, h1', e1, a1, b1, c1⟩ := l1Byte_ok b i h hb hi
    by_cases h2 : n ≤ 256
    · rw [if_pos h2, e1, Option.bind_some, if_neg (by omega)]
      exact ⟨_, _, _, rfl, Int.tmod_nonneg _ a1, fun _ => Int.tmod_lt_of_pos _ (by omega), by omega, c1⟩
    · obtain ⟨x2, i2, h2', e2, a2, b2, c2⟩ := l1Byte_ok b i1 h1' hb c1
      obtain ⟨x3, i3, h3', e3, a3, b3, c3⟩ := l1Byte_ok b i2 h2' hb c2
      rw [if_neg h2, e1, Option.bind_some, e2, Option.bind_some, e3, Option.bind_some, if_neg (by omega)]
      refine ⟨_, _, _, rfl, ?_, fun _ => Int.tmod_lt_of_pos _ (by omega), by omega, c3⟩
      simp only []
      rw [w64 (i := x1 * 65536) (by omega) (by omega), w64 (i := x2 * 256) (by omega) (by omega), w64 (i := x1 * 65536 + x2 * 256) (by omega) (by omega), w64 (i := x1 * 65536 + x2 * 256 + x3) (by omega) (by omega)]
      exact Int.tmod_nonneg _ (by omega)

theorem l1Int_ok (b : List Int) (i h : Int) (l : List Int) (hb : b.length ≤ 1000000000000000000) (hi : 0 ≤ i) (hl : 0 < l.length) : ∃ x i' h', spec_l1Int.f b i h l = some (x, i', h') ∧ x ∈ l ∧ 0 ≤ i' := by
  obtain ⟨x, i1, h1, e, p, q, _, c⟩ := l1Below_ok b i h (l.length : Int) hb hi
  have q' := q (by omega)
  unfold spec_l1Int.f
  rw [e, Option.bind_some, if_pos p, if_pos q']
  refine ⟨_, _, _, rfl, ?_, c⟩
  obtain ⟨m, rfl⟩ := Int.eq_ofNat_of_zero_le p
  rw [rd_at l m (by omega)]
  exact List.getElem_mem _

theorem InRange_v (a b c : Int) : impl_InRange.f a b c = some (decide (b ≤ a ∧ a ≤ c)) := by
  unfold impl_InRange.f
  by_cases h : b ≤ a <;> simp [h]

theorem l1In_v (a b c : Int) : spec_l1In.f a b c = some (decide (b ≤ a ∧ a ≤ c)) := by
  unfold spec_l1In.f
  by_cases h : b ≤ a <;> simp [h]

theorem Mod_v (a b : Int) : spec_Mod.f a b = some (if 1 ≤ b ∧ b ≤ 1000000000000 then a % b else 0) := by
  unfold spec_Mod.f
  rw [l1In_v]
  by_cases h2 : 1 ≤ b ∧ b ≤ 1000000000000
  · have hb : ¬ b = 0 := by omega
    have h3 := Int.lt_tmod_of_pos a (show 0 < b by omega)
    have h4 := Int.tmod_lt_of_pos a (show 0 < b by omega)
    rw [if_pos h2]
    simp only [h2, hb, and_self, decide_true, Option.bind_some, if_true, if_false]
    rw [w64 (i := Int.tmod a b + b) (by omega) (by omega), Int.tmod_eq_emod_of_nonneg (a := Int.tmod a b + b) (by omega)]
    congr 1
    have h5 := Int.tmod_add_tdiv_mul a b
    rw [Int.add_emod_right]
    conv => rhs; rw [← h5]
    rw [Int.add_mul_emod_self_right]
  · rw [if_neg h2]
    simp [h2]
theorem iMod_v (a b : Int) : impl_Mod.f a b = some (if 1 ≤ b ∧ b ≤ 1000000000000 then a % b else 0) := by
  unfold impl_Mod.f
  rw [InRange_v]
  by_cases h2 : 1 ≤ b ∧ b ≤ 1000000000000
  · have hb : ¬ b = 0 := by omega
    have h3 := Int.lt_tmod_of_pos a (show 0 < b by omega)
    have h4 := Int.tmod_lt_of_pos a (show 0 < b by omega)
    rw [if_pos h2]
    simp only [h2, hb, and_self, decide_true, Option.bind_some, if_true, if_false]
    rw [w64 (i := Int.tmod a b + b) (by omega) (by omega), Int.tmod_eq_emod_of_nonneg (a := Int.tmod a b + b) (by omega)]
    congr 1
    have h5 := Int.tmod_add_tdiv_mul a b
    rw [Int.add_emod_right]
    conv => rhs; rw [← h5]
    rw [Int.add_mul_emod_self_right]
  · rw [if_neg h2]
    simp [h2]

/-- One round of the hash. -/
def hstep (d v : Int) : Int := (d * 1000003 + v % 2147483647 + 13) % 2147483647
def hashL (l : List Int) : Int := l.foldl hstep 11
theorem hstep_bd (d v : Int) : 0 ≤ hstep d v ∧ hstep d v < 2147483647 := by unfold hstep; omega
theorem hfold_bd (l : List Int) : ∀ d : Int, 0 ≤ d → d < 2147483647 → 0 ≤ l.foldl hstep d ∧ l.foldl hstep d < 2147483647 := by
  induction l with
  | nil => intro d h0 h1; exact ⟨h0, h1⟩
  | cons a l ih => intro d _ _; exact ih _ (hstep_bd d a).1 (hstep_bd d a).2
theorem hashL_bd (l : List Int) : 0 ≤ hashL l ∧ hashL l < 2147483647 := hfold_bd l 11 (by omega) (by omega)
theorem hround (d v : Int) (h0 : 0 ≤ d) (h1 : d < 2147483647) : Int.tmod (wrap64 ((wrap64 ((wrap64 (d * 1000003)) + v % 2147483647)) + 13)) 2147483647 = hstep d v := by
  have hv0 : 0 ≤ v % 2147483647 := by omega
  have hv1 : v % 2147483647 < 2147483647 := by omega
  rw [w64 (i := d * 1000003) (by omega) (by omega), w64 (i := d * 1000003 + v % 2147483647) (by omega) (by omega), w64 (i := d * 1000003 + v % 2147483647 + 13) (by omega) (by omega), Int.tmod_eq_emod_of_nonneg (by omega)]
  rfl
theorem Mod_at (v : Int) : spec_Mod.f v 2147483647 = some (v % 2147483647) := by
  rw [Mod_v, if_pos (by omega)]
theorem Hash_sl (x : List Int) (hx : x.length ≤ 9223372036854775806) : ∀ (m i : Nat) (d : Int), i + m = x.length → 0 ≤ d → d < 2147483647 → Ev (fun k => spec_Hash.l0 k x d (i : Int)) ((x.drop i).foldl hstep d) := by
  intro m
  induction m with
  | zero =>
    intro i d hi _ _
    refine ev_step ?_
    simp only [spec_Hash.l0]
    rw [List.drop_of_length_le (by omega)]
    exact ev_neg (by omega) (ev_const rfl)
  | succ m ih =>
    intro i d hi h0 h1
    have hlt : i < x.length := by omega
    refine ev_step ?_
    simp only [spec_Hash.l0]
    refine ev_pos (by omega) (ev_pos (by omega) (ev_bindc (Mod_at _) ?_))
    rw [hround _ _ h0 h1, w64s (n := x.length) hlt (by omega), rd_at x i hlt, List.drop_eq_getElem_cons hlt]
    exact ih (i + 1) _ (by omega) (hstep_bd _ _).1 (hstep_bd _ _).2
theorem Hash_sev (x : List Int) (hx : x.length ≤ 9223372036854775806) : Ev (fun k => spec_Hash.f k x) (hashL x) := by
  unfold spec_Hash.f
  exact Hash_sl x hx x.length 0 11 (by omega) (by omega) (by omega)
theorem iMod_at (v : Int) : impl_Mod.f v 2147483647 = some (v % 2147483647) := by
  rw [iMod_v, if_pos (by omega)]
theorem Hash_il (x : List Int) (hx : x.length ≤ 9223372036854775806) : ∀ (m i : Nat) (d : Int), i + m = x.length → 0 ≤ d → d < 2147483647 → Ev (fun k => impl_Hash.l0 k d x (x.length : Int) (i : Int)) ((x.drop i).foldl hstep d) := by
  intro m
  induction m with
  | zero =>
    intro i d hi _ _
    refine ev_step ?_
    simp only [impl_Hash.l0]
    rw [List.drop_of_length_le (by omega)]
    exact ev_neg (by omega) (ev_const rfl)
  | succ m ih =>
    intro i d hi h0 h1
    have hlt : i < x.length := by omega
    refine ev_step ?_
    simp only [impl_Hash.l0]
    refine ev_pos (by omega) (ev_pos (by omega) (ev_pos (by omega) (ev_bindc (iMod_at _) ?_)))
    rw [hround _ _ h0 h1, w64s (n := x.length) hlt (by omega), rd_at x i hlt, List.drop_eq_getElem_cons hlt]
    exact ih (i + 1) _ (by omega) (hstep_bd _ _).1 (hstep_bd _ _).2
theorem Hash_iev (x : List Int) (hx : x.length ≤ 9223372036854775806) : Ev (fun k => impl_Hash.f k x) (hashL x) := by
  unfold impl_Hash.f
  exact Hash_il x hx x.length 0 11 (by omega) (by omega) (by omega)

def khL (a : Int) (l : List Int) : Int := hashL (a :: (l ++ [a]))
theorem khL_bd (a : Int) (l : List Int) : 0 ≤ khL a l ∧ khL a l < 2147483647 := hashL_bd _
theorem KH_sev (a : Int) (l : List Int) (hl : l.length ≤ 10000000000000) : Ev (fun k => spec_KeyedHash.f k a l) (khL a l) := by
  unfold spec_KeyedHash.f
  refine ev_bindc rfl (ev_pos (by simp; omega) (ev_bindc rfl (ev_pos (by simp; omega) (ev_bind (Hash_sev _ (by simp; omega)) ?_))))
  unfold khL
  exact ev_const (by simp)
theorem KH_iev (a : Int) (l : List Int) (hl : l.length ≤ 10000000000000) : Ev (fun k => impl_KeyedHash.f k a l) (khL a l) := by
  unfold impl_KeyedHash.f
  exact ev_pos (by omega) (Hash_iev _ (by simp; omega))

def tagL (a : Int) (l : List Int) : Int := khL a (223 :: l)
theorem TO_sev (a : Int) (l : List Int) (hl : l.length ≤ 1000000000000) : Ev (fun k => spec_TagOf.f k a l) (tagL a l) := by
  unfold spec_TagOf.f
  exact ev_bindc rfl (ev_pos (by simp; omega) (ev_bind (KH_sev a _ (by simp; omega)) (ev_const rfl)))
theorem TO_iev (a : Int) (l : List Int) (hl : l.length ≤ 1000000000000) : Ev (fun k => impl_TagOf.f k a l) (tagL a l) := by
  unfold impl_TagOf.f
  exact ev_bindc rfl (ev_pos (by simp; omega) (ev_bind (KH_iev a _ (by simp; omega)) (ev_const rfl)))

theorem l6Has_l (x : List Int) (v : Int) (hx : x.length ≤ 9223372036854775806) (b : Bool) : ∀ (d i : Nat), i + d = x.length → (b = true ↔ v ∈ x.drop i) → Ev (fun k => spec_l6Has.l0 k x v (i : Int)) b := by
  intro d
  induction d with
  | zero =>
    intro i hi hb
    rw [List.drop_of_length_le (by omega)] at hb
    obtain rfl : b = false := by rw [Bool.eq_false_iff]; intro z; simpa using hb.mp z
    refine ev_step ?_
    simp only [spec_l6Has.l0]
    exact ev_neg (by omega) (ev_const rfl)
  | succ d ih =>
    intro i hi hb
    have hlt : i < x.length := by omega
    rw [List.drop_eq_getElem_cons hlt, List.mem_cons] at hb
    refine ev_step ?_
    simp only [spec_l6Has.l0]
    rw [rd_at x i hlt, w64s (n := x.length) hlt (by omega)]
    refine ev_pos (by omega) (ev_pos (by omega) (ev_dec (fun h => ?_) (fun h => ?_)))
    · rw [hb.mpr (Or.inl h.symm)]
      exact ev_const rfl
    · exact ih (i + 1) (by omega) (hb.trans ⟨fun z => z.resolve_left (fun e => h e.symm), Or.inr⟩)
theorem l6Has_ev (x : List Int) (v : Int) (hx : x.length ≤ 9223372036854775806) (b : Bool) (hb : b = true ↔ v ∈ x) : Ev (fun k => spec_l6Has.f k x v) b := by
  unfold spec_l6Has.f
  exact l6Has_l x v hx b x.length 0 (by omega) (by simpa using hb)
theorem slIndex_l (x : List Int) (v : Int) (hx : x.length ≤ 9223372036854775806) (b : Bool) : ∀ (d i : Nat), i + d = x.length → (b = true ↔ v ∈ x.drop i) → ∃ r : Int, Ev (fun k => slices_Index_int_int.l0 k x v (x.length : Int) (i : Int)) r ∧ (b = true ↔ 0 ≤ r) := by
  intro d
  induction d with
  | zero =>
    intro i hi hb
    rw [List.drop_of_length_le (by omega)] at hb
    refine ⟨-1, ev_step ?_, hb.trans (by simp)⟩
    simp only [slices_Index_int_int.l0]
    exact ev_neg (by omega) (ev_const rfl)
  | succ d ih =>
    intro i hi hb
    have hlt : i < x.length := by omega
    rw [List.drop_eq_getElem_cons hlt, List.mem_cons] at hb
    by_cases h : v = x[i]
    · refine ⟨(i : Int), ev_step ?_, ⟨fun _ => by omega, fun _ => hb.mpr (Or.inl h)⟩⟩
      simp only [slices_Index_int_int.l0]
      rw [rd_at x i hlt]
      exact ev_pos (by omega) (ev_pos (by omega) (ev_pos (by omega) (ev_pos h (ev_const rfl))))
    · obtain ⟨r, e, hr⟩ := ih (i + 1) (by omega) (hb.trans ⟨fun z => z.resolve_left h, Or.inr⟩)
      refine ⟨r, ev_step ?_, hr⟩
      simp only [slices_Index_int_int.l0]
      rw [rd_at x i hlt, w64s (n := x.length) hlt (by omega)]
      exact ev_pos (by omega) (ev_pos (by omega) (ev_pos (by omega) (ev_neg h e)))
theorem slContains_ev (x : List Int) (v : Int) (hx : x.length ≤ 9223372036854775806) (b : Bool) (hb : b = true ↔ v ∈ x) : Ev (fun k => slices_Contains_int_int.f k x v) b := by
  unfold slices_Contains_int_int.f slices_Index_int_int.f
  obtain ⟨r, e, hr⟩ := slIndex_l x v hx b x.length 0 (by omega) (by simpa using hb)
  refine ev_bind e (ev_const ?_)
  congr 1
  rw [Bool.eq_iff_iff, hr, decide_eq_true_iff]

/-- The signatures of the keys that are held, behind those that are there. -/
def sgnL (h m : List Int) : List Int → List S46 → List S46
  | [], out => out
  | key :: l, out => sgnL h m l (if decide (key ∈ h) = true then out ++ [⟨key, tagL key m⟩] else out)
theorem sgnL_len (h m : List Int) : ∀ l out, (sgnL h m l out).length ≤ out.length + l.length
  | [], out => by simp [sgnL]
  | key :: l, out => by
    have z := sgnL_len h m l (if decide (key ∈ h) = true then out ++ [⟨key, tagL key m⟩] else out)
    simp only [sgnL, List.length_cons]
    split at z
    · rename_i q; rw [if_pos q]; simp at z; omega
    · rename_i q; rw [if_neg q]; omega
theorem SignBy_sl (h m l : List Int) (a : Int) (hh : h.length ≤ 1000000000000) (hm : m.length ≤ 1000000000000) (hl : l.length ≤ 1000000000000) : ∀ (d i : Nat) (out : List S46), i + d = l.length → out.length ≤ i →
    Ev (fun k => spec_SignBy.l0 k h m out (i : Int) l a) (sgnL h m (l.drop i) out) := by
  intro d
  induction d with
  | zero =>
    intro i out hi _
    refine ev_step ?_
    simp only [spec_SignBy.l0]
    rw [List.drop_of_length_le (by omega)]
    exact ev_neg (by omega) (ev_const rfl)
  | succ d ih =>
    intro i out hi ho
    have hlt : i < l.length := by omega
    refine ev_step ?_
    simp only [spec_SignBy.l0]
    rw [rd_at l i hlt, w64s (n := l.length) hlt (by omega), List.drop_eq_getElem_cons hlt]
    refine ev_pos (by omega) (ev_pos (by omega) (ev_bind (l6Has_ev h l[i] (by omega) (decide (l[i] ∈ h)) (by simp)) ?_))
    simp only [sgnL]
    refine ev_dec (fun z => ?_) (fun z => ?_)
    · rw [if_pos z]
      exact ev_bind (TO_sev l[i] m hm) (ev_pos (by omega) (ih (i + 1) _ (by omega) (by simp; omega)))
    · rw [if_neg z]
      exact ih (i + 1) _ (by omega) (by omega)
theorem SignBy_sev (h m l : List Int) (a : Int) (hh : h.length ≤ 1000000000000) (hm : m.length ≤ 1000000000000) (hl : l.length ≤ 1000000000000) : Ev (fun k => spec_SignBy.f k h l a m) (sgnL h m l []) := by
  unfold spec_SignBy.f
  exact SignBy_sl h m l a hh hm hl l.length 0 [] (by omega) (by simp)
theorem SignBy_il (h m l : List Int) (hh : h.length ≤ 1000000000000) (hm : m.length ≤ 1000000000000) (hl : l.length ≤ 1000000000000) : ∀ (d i : Nat) (out : List S46), i + d = l.length → out.length ≤ i →
    Ev (fun k => impl_SignBy.l0 k h m out l (l.length : Int) (i : Int)) (sgnL h m (l.drop i) out) := by
  intro d
  induction d with
  | zero =>
    intro i out hi _
    refine ev_step ?_
    simp only [impl_SignBy.l0]
    rw [List.drop_of_length_le (by omega)]
    exact ev_neg (by omega) (ev_const rfl)
  | succ d ih =>
    intro i out hi ho
    have hlt : i < l.length := by omega
    refine ev_step ?_
    simp only [impl_SignBy.l0]
    rw [rd_at l i hlt, w64s (n := l.length) hlt (by omega), List.drop_eq_getElem_cons hlt]
    refine ev_pos (by omega) (ev_pos (by omega) (ev_pos (by omega) (ev_bind (slContains_ev h l[i] (by omega) (decide (l[i] ∈ h)) (by simp)) ?_)))
    simp only [sgnL]
    refine ev_dec (fun z => ?_) (fun z => ?_)
    · rw [if_pos z]
      exact ev_bind (TO_iev l[i] m hm) (ev_pos (by omega) (ih (i + 1) _ (by omega) (by simp; omega)))
    · rw [if_neg z]
      exact ih (i + 1) _ (by omega) (by omega)
theorem SignBy_iev (h m l : List Int) (a : Int) (hh : h.length ≤ 1000000000000) (hm : m.length ≤ 1000000000000) (hl : l.length ≤ 1000000000000) : Ev (fun k => impl_SignBy.f k h l a m) (sgnL h m l []) := by
  unfold impl_SignBy.f
  exact SignBy_il h m l hh hm hl l.length 0 [] (by omega) (by simp)

def sigB (key tag : Int) (m : List Int) : Bool := decide (1 ≤ key ∧ key ≤ 99) && (tag == tagL key m)
theorem SB_sev (key tag : Int) (m : List Int) (hm : m.length ≤ 1000000000000) : Ev (fun k => spec_IsSigBy.f k key tag m) (sigB key tag m) := by
  unfold spec_IsSigBy.f sigB
  refine ev_bindc (l1In_v _ _ _) ?_
  by_cases h : 1 ≤ key ∧ key ≤ 99
  · refine ev_pos (by simpa using h) (ev_bind (TO_sev key m hm) (ev_const ?_))
    rw [decide_eq_true h, Bool.true_and]
  · rw [decide_eq_false h, Bool.false_and]
    exact ev_neg (by simp) (ev_const rfl)
theorem SB_key (a : Int) : impl_isKey.f a = some (decide (1 ≤ a ∧ a ≤ 99)) := by
  unfold impl_isKey.f
  rw [InRange_v]
  rfl
theorem SB_iev (key tag : Int) (m : List Int) (hm : m.length ≤ 1000000000000) : Ev (fun k => impl_IsSigBy.f k key tag m) (sigB key tag m) := by
  unfold impl_IsSigBy.f sigB
  refine ev_bindc (SB_key _) ?_
  by_cases h : 1 ≤ key ∧ key ≤ 99
  · refine ev_pos (by simpa using h) (ev_bind (TO_iev key m hm) (ev_const ?_))
    rw [decide_eq_true h, Bool.true_and]
  · rw [decide_eq_false h, Bool.false_and]
    exact ev_neg (by simp) (ev_const rfl)

/-- Is a signature one of the key's, and right. -/
def okS (m : List Int) (key : Int) (x : S46) : Bool := decide (x.f0 = key) && sigB x.f0 x.f1 m
def hasS (m : List Int) (s : List S46) (key : Int) : Bool := s.any (okS m key)
/-- How many of the keys have signed, behind n of them. -/
def cntS (m : List Int) (s : List S46) : List Int → Int → Int
  | [], n => n
  | key :: l, n => cntS m s l (if hasS m s key = true then n + 1 else n)
theorem rdI2_at (x : List S46) (i : Nat) (h : i < x.length) : rd_T46 x (i : Int) = x[i] := by simp [rd_T46, List.getD, h]
theorem CS_s1 (m : List Int) (hm : m.length ≤ 1000000000000) (s : List S46) (hs : s.length ≤ 9223372036854775806) (l : List Int) (a n : Int) (i : Nat) (hi : i < l.length) (hl : l.length ≤ 9223372036854775806) (r : Int) : ∀ (d j : Nat), j + d = s.length →
    Ev (fun k => spec_CountSigs.l0 k m s (if (s.drop j).any (okS m l[i]) = true then wrap64 (n + 1) else n) ((i + 1 : Nat) : Int) l a) r → Ev (fun k => spec_CountSigs.l1 k m s n (i : Int) (j : Int) l a) r := by
  intro d
  induction d with
  | zero =>
    intro j hj e
    rw [List.drop_of_length_le (by omega)] at e
    simp only [List.any_nil, Bool.false_eq_true, if_false] at e
    refine ev_step ?_
    simp only [spec_CountSigs.l1]
    rw [w64s (n := l.length) hi (by omega)]
    exact ev_neg (by omega) e
  | succ d ih =>
    intro j hj e
    have hlt : j < s.length := by omega
    rw [List.drop_eq_getElem_cons hlt, List.any_cons] at e
    refine ev_step ?_
    simp only [spec_CountSigs.l1]
    rw [w64s (n := l.length) hi (by omega), w64s (n := s.length) hlt (by omega), rdI2_at s j hlt, rd_at l i hi]
    refine ev_pos (by omega) (ev_pos (by omega) (ev_pos (by omega) (ev_pos (by omega) (ev_dec (fun h => ?_) (fun h => ?_)))))
    · refine ev_bind (SB_sev s[j].f0 s[j].f1 m hm) (ev_dec (fun h2 => ?_) (fun h2 => ?_))
      · have ho : okS m l[i] s[j] = true := by unfold okS; rw [decide_eq_true h, h2]; rfl
        rw [ho, Bool.true_or, if_pos rfl] at e
        exact e
      · have ho : okS m l[i] s[j] = false := by unfold okS; rw [decide_eq_true h, Bool.true_and]; simpa using h2
        rw [ho, Bool.false_or] at e
        exact ih (j + 1) (by omega) e
    · have ho : okS m l[i] s[j] = false := by unfold okS; rw [decide_eq_false h, Bool.false_and]
      rw [ho, Bool.false_or] at e
      exact ih (j + 1) (by omega) e
theorem CS_s0 (m : List Int) (hm : m.length ≤ 1000000000000) (s : List S46) (hs : s.length ≤ 9223372036854775806) (l : List Int) (a : Int) (hl : l.length ≤ 4611686018427387904) : ∀ (d i : Nat) (n : Int), i + d = l.length → 0 ≤ n → n ≤ (i : Int) →
    Ev (fun k => spec_CountSigs.l0 k m s n (i : Int) l a) (cntS m s (l.drop i) n) := by
  intro d
  induction d with
  | zero =>
    intro i n hi _ _
    refine ev_step ?_
    simp only [spec_CountSigs.l0]
    rw [List.drop_of_length_le (by omega)]
    exact ev_neg (by omega) (ev_const rfl)
  | succ d ih =>
    intro i n hi h0 h1
    have hlt : i < l.length := by omega
    refine ev_step ?_
    simp only [spec_CountSigs.l0]
    rw [List.drop_eq_getElem_cons hlt]
    refine ev_pos (by omega) (CS_s1 m hm s hs l a n i hlt (by omega) _ s.length 0 (by omega) ?_)
    have e : (s.drop 0).any (okS m l[i]) = hasS m s l[i] := by simp [hasS]
    rw [e, w64 (i := n + 1) (by omega) (by omega)]
    simp only [cntS]
    exact ih (i + 1) _ (by omega) (by split <;> omega) (by split <;> omega)
theorem CntS_sev (m : List Int) (hm : m.length ≤ 1000000000000) (s : List S46) (hs : s.length ≤ 1000000000000) (l : List Int) (a : Int) (hl : l.length ≤ 1000000000000) : Ev (fun k => spec_CountSigs.f k l a m s) (cntS m s l 0) := by
  unfold spec_CountSigs.f
  exact CS_s0 m hm s (by omega) l a (by omega) l.length 0 0 (by omega) (by omega) (by omega)
theorem CS_has (m : List Int) (hm : m.length ≤ 1000000000000) (key : Int) : ∀ s : List S46, Ev (fun k => impl_CountSigs.has k m key s) (s.any (okS m key))
  | [] => ev_const rfl
  | x :: s => by
    simp only [impl_CountSigs.has, List.any_cons]
    refine ev_bind (a := okS m key x) ?_ (ev_dec (fun h => ?_) (fun h => ?_))
    · unfold impl_CountSigs.one okS
      refine ev_dec (fun h => ?_) (fun h => ?_)
      · rw [decide_eq_true h, Bool.true_and]
        exact SB_iev x.f0 x.f1 m hm
      · rw [decide_eq_false h, Bool.false_and]
        exact ev_const rfl
    · rw [h]
      exact ev_const rfl
    · rw [show okS m key x = false from by simpa using h, Bool.false_or]
      exact CS_has m hm key s
theorem CS_cnt (m : List Int) (hm : m.length ≤ 1000000000000) (s : List S46) : ∀ (l : List Int) (n : Int), 0 ≤ n → n + l.length ≤ 4611686018427387904 → Ev (fun k => impl_CountSigs.cnt k m s l n) (cntS m s l n)
  | [], n, _, _ => ev_const rfl
  | key :: l, n, h0, h1 => by
    simp only [List.length_cons] at h1
    simp only [impl_CountSigs.cnt, cntS]
    refine ev_bind (CS_has m hm key s) ?_
    rw [w64 (i := n + 1) (by omega) (by omega)]
    exact CS_cnt m hm s l _ (by split <;> omega) (by split <;> omega)
theorem CntS_iev (m : List Int) (hm : m.length ≤ 1000000000000) (s : List S46) (hs : s.length ≤ 1000000000000) (l : List Int) (a : Int) (hl : l.length ≤ 1000000000000) : Ev (fun k => impl_CountSigs.f k l a m s) (cntS m s l 0) := by
  unfold impl_CountSigs.f
  exact ev_pos (by omega) (CS_cnt m hm s l 0 (by omega) (by omega))

/-- What a set of keys must be. -/
def isKs (l : List Int) (n : Int) : Prop := 1 ≤ l.length ∧ l.length ≤ 4 ∧ 1 ≤ n ∧ n ≤ (l.length : Int) ∧ (∀ i : Nat, i < l.length → 1 ≤ rd l (i : Int) ∧ rd l (i : Int) ≤ 99) ∧ (∀ i : Nat, i + 1 < l.length → rd l (i : Int) < rd l ((i + 1 : Nat) : Int))
theorem ks_bool (l : List Int) (n : Int) : ∃ b : Bool, b = true ↔ isKs l n := by
  by_cases h : isKs l n
  · exact ⟨true, by simp [h]⟩
  · exact ⟨false, by simp [h]⟩
theorem asc_l (l : List Int) (hl : l.length ≤ 9223372036854775806) (b : Bool) : ∀ (d i : Nat), i + d = l.length → (b = true ↔ ∀ j : Nat, i ≤ j → j < l.length → 0 < j → rd l ((j - 1 : Nat) : Int) < rd l (j : Int)) → Ev (fun k => impl_ascending.l0 k l (l.length : Int) (i : Int)) b := by
  intro d
  induction d with
  | zero =>
    intro i hi hb
    obtain rfl : b = true := hb.mpr (fun j h1 h2 => by omega)
    refine ev_step ?_
    simp only [impl_ascending.l0]
    exact ev_neg (by omega) (ev_const rfl)
  | succ d ih =>
    intro i hi hb
    have hlt : i < l.length := by omega
    refine ev_step ?_
    simp only [impl_ascending.l0]
    rw [w64s (n := l.length) hlt (by omega), w64 (i := (i : Int) - 1) (by omega) (by omega)]
    have hgo : (0 < i → rd l ((i - 1 : Nat) : Int) < rd l (i : Int)) → Ev (fun k => impl_ascending.l0 k l (l.length : Int) ((i + 1 : Nat) : Int)) b := by
      intro h
      refine ih (i + 1) (by omega) (hb.trans ⟨fun z j h1 h2 => z j (by omega) h2, fun z j h1 h2 h3 => ?_⟩)
      by_cases e : j = i
      · subst e; exact h h3
      · exact z j (by omega) h2 h3
    refine ev_pos (by omega) (ev_dec (fun hp => ?_) (fun hp => ?_))
    · have e1 : (i : Int) - 1 = ((i - 1 : Nat) : Int) := by omega
      rw [e1]
      refine ev_pos (by omega) (ev_pos (by omega) (ev_pos (by omega) (ev_pos (by omega) (ev_dec (fun h2 => ?_) (fun h2 => ?_)))))
      · have e : b = false := by
          rw [Bool.eq_false_iff]
          intro z
          have := hb.mp z i (Nat.le_refl _) hlt (by omega)
          omega
        rw [e]
        exact ev_const rfl
      · exact hgo (fun _ => by omega)
    · exact hgo (fun z => by omega)
theorem asc_ends (l : List Int) (h : ∀ i : Nat, i + 1 < l.length → rd l (i : Int) < rd l ((i + 1 : Nat) : Int)) : ∀ j : Nat, j < l.length → rd l 0 ≤ rd l (j : Int) ∧ rd l (j : Int) ≤ rd l ((l.length - 1 : Nat) : Int) := by
  have up : ∀ j : Nat, j < l.length → rd l 0 ≤ rd l (j : Int) := by
    intro j
    induction j with
    | zero => intro _; exact Int.le_refl _
    | succ j ih => intro hj; have := ih (by omega); have := h j hj; omega
  have down : ∀ d j : Nat, j + d + 1 = l.length → rd l (j : Int) ≤ rd l ((l.length - 1 : Nat) : Int) := by
    intro d
    induction d with
    | zero => intro j hj; rw [show l.length - 1 = j from by omega]; exact Int.le_refl _
    | succ d ih => intro j hj; have := ih (j + 1) (by omega); have := h j (by omega); omega
  exact fun j hj => ⟨up j hj, down (l.length - 1 - j) j (by omega)⟩
theorem isKey_v (a : Int) : impl_isKey.f a = some (decide (1 ≤ a ∧ a ≤ 99)) := by
  unfold impl_isKey.f
  rw [InRange_v]
  rfl
theorem IsKeys_iev (l : List Int) (n : Int) (hl : l.length ≤ 9223372036854775806) (b : Bool) (hb : b = true ↔ isKs l n) : Ev (fun k => impl_IsKeys.f k l n) b := by
  unfold impl_IsKeys.f
  have hf : ∀ (_ : ¬ isKs l n), b = false := by
    intro h
    rw [Bool.eq_false_iff]
    exact fun z => h (hb.mp z)
  refine ev_bindc (InRange_v _ _ _) ?_
  by_cases h1 : 1 ≤ l.length ∧ l.length ≤ 4
  · refine ev_pos (by simp; omega) ?_
    have hasc : ∃ q : Bool, q = true ↔ ∀ i : Nat, i + 1 < l.length → rd l (i : Int) < rd l ((i + 1 : Nat) : Int) := by
      by_cases h : ∀ i : Nat, i + 1 < l.length → rd l (i : Int) < rd l ((i + 1 : Nat) : Int)
      · exact ⟨true, ⟨fun _ => h, fun _ => rfl⟩⟩
      · exact ⟨false, ⟨fun z => (by cases z), fun z => absurd z h⟩⟩
    obtain ⟨q, hq⟩ := hasc
    have ea : Ev (fun k => impl_ascending.f k l) q := by
      unfold impl_ascending.f
      refine asc_l l hl q l.length 0 (by omega) (hq.trans ⟨fun z j _ h2 h3 => ?_, fun z i hi => ?_⟩)
      · have := z (j - 1) (by omega)
        rw [show j - 1 + 1 = j from by omega] at this
        exact this
      · have := z (i + 1) (by omega) hi (by omega)
        simpa using this
    refine ev_bind ea ?_
    cases q with
    | false =>
      rw [hf (fun z => by have := hq.mpr z.2.2.2.2.2; cases this)]
      exact ev_neg (by simp) (ev_const rfl)
    | true =>
      have ha := hq.mp rfl
      have hends := asc_ends l ha
      have e1 : wrap64 ((l.length : Int) - 1) = ((l.length - 1 : Nat) : Int) := by rw [w64 (by omega) (by omega)]; omega
      rw [e1]
      refine ev_pos rfl (ev_pos (by omega) (ev_bindc (isKey_v _) ?_))
      by_cases h2 : 1 ≤ rd l 0 ∧ rd l 0 ≤ 99
      · refine ev_pos (by simpa using h2) (ev_pos (by omega) (ev_pos (by omega) (ev_bindc (isKey_v _) ?_)))
        by_cases h3 : 1 ≤ rd l ((l.length - 1 : Nat) : Int) ∧ rd l ((l.length - 1 : Nat) : Int) ≤ 99
        · refine ev_pos (by simpa using h3) (ev_bindc (InRange_v _ _ _) (ev_const ?_))
          congr 1
          rw [Bool.eq_iff_iff, hb, decide_eq_true_iff]
          unfold isKs
          constructor
          · intro z
            exact ⟨h1.1, h1.2, z.1, z.2, fun i hi => by have := hends i hi; omega, ha⟩
          · rintro ⟨_, _, z1, z2, _⟩
            exact ⟨z1, z2⟩
        · rw [hf (fun z => h3 (z.2.2.2.2.1 (l.length - 1) (by omega)))]
          exact ev_neg (by simp; omega) (ev_const rfl)
      · rw [hf (fun z => h2 (z.2.2.2.2.1 0 (by omega)))]
        exact ev_neg (by simp; omega) (ev_const rfl)
  · rw [hf (fun z => h1 ⟨z.1, z.2.1⟩)]
    exact ev_neg (by simp; omega) (ev_const rfl)

def sgdB (l : List Int) (n : Int) (m : List Int) (s : List S46) (b : Bool) : Bool := b && decide (cntS m s l 0 ≥ n)
theorem IsSgd_iev (m : List Int) (hm : m.length ≤ 1000000000000) (s : List S46) (hs : s.length ≤ 1000000000000) (l : List Int) (n : Int) (hl : l.length ≤ 1000000000000) (b : Bool) (hb : b = true ↔ isKs l n) : Ev (fun k => impl_IsSigned.f k l n m s) (sgdB l n m s b) := by
  unfold impl_IsSigned.f sgdB
  refine ev_bind (IsKeys_iev l n (by omega) b hb) ?_
  cases b with
  | true => exact ev_pos rfl (ev_bind (CntS_iev m hm s hs l n hl) (ev_const rfl))
  | false => exact ev_neg (by simp) (ev_const rfl)

/-- How many of the keys are held. -/
def held_ (h l : List Int) : Nat := l.countP (fun x => decide (x ∈ h))
theorem CS_il (h l : List Int) (n : Int) (hh : h.length ≤ 9223372036854775806) (hl : l.length ≤ 1000000000000) (q : Bool) (hq : q = true ↔ isKs l n) : ∀ (d i c : Nat), i + d = l.length → c ≤ i →
    Ev (fun k => impl_CanSign.l0 k h (c : Int) l (l.length : Int) (i : Int) l n) (q && decide (((c + held_ h (l.drop i) : Nat) : Int) ≥ n)) := by
  intro d
  induction d with
  | zero =>
    intro i c hi hc
    refine ev_step ?_
    simp only [impl_CanSign.l0]
    rw [List.drop_of_length_le (by omega)]
    refine ev_neg (by omega) (ev_bind (IsKeys_iev l n (by omega) q hq) ?_)
    cases q with
    | true => exact ev_pos rfl (ev_const (by simp [held_]))
    | false => exact ev_neg (by simp) (ev_const (by simp))
  | succ d ih =>
    intro i c hi hc
    have hlt : i < l.length := by omega
    refine ev_step ?_
    simp only [impl_CanSign.l0]
    rw [rd_at l i hlt, w64s (n := l.length) hlt (by omega), w64s (n := l.length) (i := c) (by omega) (by omega), List.drop_eq_getElem_cons hlt]
    refine ev_pos (by omega) (ev_pos (by omega) (ev_pos (by omega) (ev_bind (slContains_ev h l[i] hh (decide (l[i] ∈ h)) (by simp)) (ev_dec (fun z => ?_) (fun z => ?_)))))
    · have := ih (i + 1) (c + 1) (by omega) (by omega)
      have e : c + held_ h (l[i] :: l.drop (i + 1)) = c + 1 + held_ h (l.drop (i + 1)) := by
        unfold held_
        rw [List.countP_cons, if_pos z]
        omega
      rw [e]
      exact this
    · have := ih (i + 1) c (by omega) (by omega)
      have e : held_ h (l[i] :: l.drop (i + 1)) = held_ h (l.drop (i + 1)) := by
        unfold held_
        rw [List.countP_cons, if_neg z]
        omega
      rw [e]
      exact this
theorem CS_iev (h l : List Int) (n : Int) (hh : h.length ≤ 9223372036854775806) (hl : l.length ≤ 1000000000000) (q : Bool) (hq : q = true ↔ isKs l n) : Ev (fun k => impl_CanSign.f k l n h) (q && decide (((held_ h l : Nat) : Int) ≥ n)) := by
  unfold impl_CanSign.f
  have := CS_il h l n hh hl q hq l.length 0 0 (by omega) (by omega)
  simpa using this

theorem hstep_inj (a b v : Int) (h0 : 0 ≤ a) (h1 : a < 2147483647) (h2 : 0 ≤ b) (h3 : b < 2147483647) (h : hstep a v = hstep b v) : a = b := by
  unfold hstep at h
  rw [Int.emod_eq_emod_iff_emod_sub_eq_zero] at h
  obtain ⟨q, hq⟩ := Int.dvd_of_emod_eq_zero h
  generalize v % 2147483647 = c at hq
  have hx : (a - b) * 1000003 = 2147483647 * q := by rw [← hq, Int.sub_mul, Int.add_sub_add_right, Int.add_sub_add_right]
  have hd : (2147483647 : Int) ∣ a - b := by
    refine ⟨q * 1523789695 - (a - b) * 709572, ?_⟩
    have one : (1000003 : Int) * 1523789695 - 2147483647 * 709572 = 1 := by decide
    calc a - b = (a - b) * (1000003 * 1523789695 - 2147483647 * 709572) := by rw [one, Int.mul_one]
      _ = 2147483647 * (q * 1523789695 - (a - b) * 709572) := by rw [Int.mul_sub, ← Int.mul_assoc (a - b) 1000003, hx, Int.mul_left_comm (a - b) 2147483647, Int.mul_assoc 2147483647 q, ← Int.mul_sub]
  clear hx hq h
  obtain ⟨s, hs⟩ := hd
  omega

/-- Does no message of n numbers below 9 lead to the one state that the value 1 leaves as it is? -/
def hsN (h w : Nat) : Nat := (h * 1000003 + w + 13) % 2147483647
def chk : Nat → Nat → Bool
  | 0, h => h != 1387731222
  | n + 1, h => h != 1387731222 && [0, 1, 2, 3, 4, 5, 6, 7, 8].all fun v => chk n (hsN h v)
theorem chk_all : ((List.range 99).all fun i => chk 3 (hsN (hsN 11 (i + 1)) 223)) = true := by decide +kernel
theorem hstep_nat (h w : Nat) (hw : w < 2147483647) : hstep (h : Int) (w : Int) = ((hsN h w : Nat) : Int) := by unfold hstep hsN; omega
theorem chk_fold : ∀ (m : List Int) (n h : Nat), chk n h = true → m.length ≤ n → (∀ v ∈ m, 0 ≤ v ∧ v ≤ 8) → m.foldl hstep (h : Int) ≠ 1387731222
  | [], n, h, hc, _, _ => by
    intro e
    have e : (h : Int) = 1387731222 := e
    obtain rfl : h = 1387731222 := by omega
    cases n <;> simp [chk] at hc
  | v :: m, 0, _, _, hl, _ => by simp at hl
  | v :: m, n + 1, h, hc, hl, hv => by
    simp only [chk, Bool.and_eq_true] at hc
    obtain ⟨w, rfl⟩ := Int.eq_ofNat_of_zero_le (hv v (by simp)).1
    have hw := (hv (w : Int) (by simp)).2
    have z := List.all_eq_true.1 hc.2 w (by simp; omega)
    rw [List.foldl_cons, hstep_nat h w (by omega)]
    exact chk_fold m n _ z (by simpa using hl) (fun u hu => hv u (by simp [hu]))
theorem step_aux (d q : Int) (z : 2147483647 * q + d = d * 1000003 + 1 + 13) : d * 1000002 = 2147483647 * q - 14 := by
  have e : d * 1000003 = d * 1000002 + d := by rw [show (1000003 : Int) = 1000002 + 1 from rfl, Int.mul_add, Int.mul_one]
  rw [e] at z
  generalize d * 1000002 = x at z ⊢
  generalize 2147483647 * q = y at z ⊢
  omega
theorem step_one (d : Int) (h0 : 0 ≤ d) (h1 : d < 2147483647) (h : d ≠ 1387731222) : d ≠ hstep d 1 := by
  unfold hstep
  intro e
  have z := Int.mul_ediv_add_emod (d * 1000003 + 1 % 2147483647 + 13) 2147483647
  rw [← e] at z
  have hx := step_aux d _ z
  generalize (d * 1000003 + 1 % 2147483647 + 13) / 2147483647 = q at hx
  clear z e
  have hd : d = 2147483647 * (q * 1434793232 - d * 668129) - 14 * 1434793232 := by
    have one : (1000002 : Int) * 1434793232 - 2147483647 * 668129 = 1 := rfl
    calc d = d * (1000002 * 1434793232 - 2147483647 * 668129) := by rw [one, Int.mul_one]
      _ = 2147483647 * (q * 1434793232 - d * 668129) - 14 * 1434793232 := by
        rw [Int.mul_sub, ← Int.mul_assoc d 1000002, hx, Int.sub_mul, Int.mul_assoc, Int.mul_left_comm d, Int.mul_sub]
        generalize (14 * 1434793232 : Int) = w
        generalize 2147483647 * (q * 1434793232) = x
        generalize 2147483647 * (d * 668129) = y
        omega
  generalize q * 1434793232 - d * 668129 = t at hd
  clear hx
  have hd : d = 2147483647 * (t - 10) + 1387731222 := by
    rw [hd, Int.mul_sub]
    generalize 2147483647 * t = y
    rw [show (14 * 1434793232 : Int) = 2147483647 * 10 - 1387731222 from rfl]; generalize (2147483647 * 10 : Int) = x; omega
  generalize t - 10 = u at hd
  rcases Int.lt_trichotomy u 0 with q | q | q
  · have : 2147483647 * u ≤ 2147483647 * (-1) := Int.mul_le_mul_of_nonneg_left (by omega) (by decide)
    omega
  · subst q; exact h (by rw [hd]; rfl)
  · have : 2147483647 * 1 ≤ 2147483647 * u := Int.mul_le_mul_of_nonneg_left (by omega) (by decide)
    omega
theorem tag_fold (a : Int) (l m : List Int) : (a :: (l ++ m)).foldl hstep 11 = m.foldl hstep (l.foldl hstep (hstep 11 a)) := by rw [List.foldl_cons, List.foldl_append]
theorem tag_ne (key : Int) (m : List Int) (h1 : 1 ≤ key) (h2 : key ≤ 99) (hl : m.length ≤ 3) (hv : ∀ v ∈ m, 0 ≤ v ∧ v ≤ 8) : tagL key m ≠ tagL key (m ++ [1]) := by
  obtain ⟨i, rfl⟩ : ∃ i : Nat, key = ((i + 1 : Nat) : Int) := ⟨(key - 1).toNat, by omega⟩
  have z := List.all_eq_true.1 chk_all i (by simp; omega)
  have y := chk_fold m 3 _ z hl hv
  have b := hfold_bd m _ (Int.natCast_nonneg (hsN (hsN 11 (i + 1)) 223)) (by unfold hsN; omega)
  have e : hstep (hstep 11 ((i + 1 : Nat) : Int)) 223 = ((hsN (hsN 11 (i + 1)) 223 : Nat) : Int) := by
    rw [← hstep_nat _ 223 (by omega), ← hstep_nat 11 (i + 1) (by omega)]
    rfl
  rw [← e] at y b
  generalize ((i + 1 : Nat) : Int) = key at y b ⊢
  have f1 : tagL key m = hstep (m.foldl hstep (hstep (hstep 11 key) 223)) key := by
    unfold tagL khL hashL
    rw [tag_fold]
    rfl
  have f2 : tagL key (m ++ [1]) = hstep (hstep (m.foldl hstep (hstep (hstep 11 key) 223)) 1) key := by
    unfold tagL khL hashL
    rw [tag_fold, List.foldl_cons (l := m ++ [1]), List.foldl_append]
    rfl
  rw [f1, f2]
  generalize m.foldl hstep (hstep (hstep 11 key) 223) = d at y b
  exact fun q => step_one d b.1 b.2 y (hstep_inj _ _ _ b.1 b.2 (hstep_bd _ _).1 (hstep_bd _ _).2 q)
theorem sgnL_mem (h m : List Int) : ∀ l out (x : S46), x ∈ sgnL h m l out ↔ x ∈ out ∨ (x.f0 ∈ l ∧ x.f0 ∈ h ∧ x.f1 = tagL x.f0 m)
  | [], out, x => by simp [sgnL]
  | key :: l, out, x => by
    simp only [sgnL]
    rw [sgnL_mem h m l]
    by_cases q : key ∈ h
    · rw [if_pos (by simpa using q)]
      simp only [List.mem_append, List.mem_cons, List.not_mem_nil, or_false]
      constructor
      · rintro ((z | rfl) | ⟨z1, z2⟩)
        · exact Or.inl z
        · exact Or.inr ⟨Or.inl rfl, q, rfl⟩
        · exact Or.inr ⟨Or.inr z1, z2⟩
      · rintro (z | ⟨(z1 | z1), z2, z3⟩)
        · exact Or.inl (Or.inl z)
        · exact Or.inl (Or.inr (by cases x; simp_all))
        · exact Or.inr ⟨z1, z2, z3⟩
    · rw [if_neg (by simpa using q)]
      simp only [List.mem_cons]
      constructor
      · rintro (z | ⟨z1, z2⟩)
        · exact Or.inl z
        · exact Or.inr ⟨Or.inr z1, z2⟩
      · rintro (z | ⟨(z1 | z1), z2, z3⟩)
        · exact Or.inl z
        · exact absurd (z1 ▸ z2) q
        · exact Or.inr ⟨z1, z2, z3⟩
theorem cntS_count (m : List Int) (s : List S46) : ∀ l n, cntS m s l n = n + ((l.countP (hasS m s) : Nat) : Int)
  | [], n => by simp [cntS]
  | key :: l, n => by
    simp only [cntS]
    rw [cntS_count m s l, List.countP_cons]
    split <;> simp <;> omega
theorem ks_rg (l : List Int) (n : Int) (h : isKs l n) : ∀ k ∈ l, 1 ≤ k ∧ k ≤ 99 := by
  intro k hk
  obtain ⟨i, hi, rfl⟩ := List.getElem_of_mem hk
  have z := h.2.2.2.2.1 i hi
  rw [rd_at l i hi] at z
  exact z
theorem cnt_sgn (h m l : List Int) (hk : ∀ k ∈ l, 1 ≤ k ∧ k ≤ 99) : cntS m (sgnL h m l []) l 0 = ((held_ h l : Nat) : Int) := by
  rw [cntS_count, Int.zero_add]
  unfold held_
  congr 1
  refine List.countP_congr (fun key hkey => ?_)
  rw [decide_eq_true_iff]
  unfold hasS
  rw [List.any_eq_true]
  constructor
  · rintro ⟨x, hx, hq⟩
    have z := (sgnL_mem h m l [] x).1 hx
    unfold okS at hq
    rw [Bool.and_eq_true, decide_eq_true_iff] at hq
    rcases z with z | z
    · cases z
    · rw [← hq.1]
      exact z.2.1
  · intro q
    exact ⟨⟨key, tagL key m⟩, (sgnL_mem h m l [] _).2 (Or.inr ⟨hkey, q, rfl⟩), by simp [okS, sigB, hk key hkey]⟩
theorem cnt_more (h m l : List Int) (hk : ∀ k ∈ l, 1 ≤ k ∧ k ≤ 99) (hl : m.length ≤ 3) (hv : ∀ v ∈ m, 0 ≤ v ∧ v ≤ 8) : cntS (m ++ [1]) (sgnL h m l []) l 0 = 0 := by
  rw [cntS_count, Int.zero_add]
  have e : l.countP (hasS (m ++ [1]) (sgnL h m l [])) = 0 := by
    rw [List.countP_eq_zero]
    intro key hkey c
    unfold hasS at c
    rw [List.any_eq_true] at c
    obtain ⟨x, hx, hq⟩ := c
    have z := (sgnL_mem h m l [] x).1 hx
    unfold okS sigB at hq
    rw [Bool.and_eq_true, Bool.and_eq_true, beq_iff_eq] at hq
    rcases z with z | z
    · cases z
    · have r := hk _ z.1
      exact tag_ne x.f0 m r.1 r.2 hl hv (z.2.2.symm.trans hq.2.2)
  rw [e]
  rfl
theorem l6Held_l (b : List Int) (hb : b.length ≤ 1000000000000000000) : ∀ (d : Nat) (out : List Int) (i h : Int), 0 ≤ i → d ≤ 1000 → out.length + d ≤ 1000 → ∃ x i' h', Ev (fun k => spec_l6Held.l0 k out (d : Int) b i h) (x, i', h') ∧ x.length ≤ 1000 ∧ 0 ≤ i' := by
  intro d
  induction d with
  | zero =>
    intro out i h hi _ ho
    refine ⟨out, i, h, ev_step ?_, by omega, hi⟩
    simp only [spec_l6Held.l0]
    exact ev_neg (by simp) (ev_const rfl)
  | succ d ih =>
    intro out i h hi hd ho
    obtain ⟨s, i1, h1, e, _, _, _, c⟩ := l1Below_ok b i h 9 hb hi
    obtain ⟨x, i2, h2, e2, q⟩ := ih (out ++ [wrap64 (1 + s)]) i1 h1 c (by omega) (by simp; omega)
    refine ⟨x, i2, h2, ev_step ?_, q⟩
    simp only [spec_l6Held.l0]
    refine ev_pos (by omega) (ev_bindc e (ev_pos (by omega) ?_))
    rw [w64 (i := ((d + 1 : Nat) : Int) - 1) (by omega) (by omega), show ((d + 1 : Nat) : Int) - 1 = (d : Int) from by omega]
    exact e2
theorem l6Held_ok (b : List Int) (i h : Int) (hb : b.length ≤ 1000000000000000000) (hi : 0 ≤ i) : ∃ x i' h', Ev (fun k => spec_l6Held.f k b i h) (x, i', h') ∧ x.length ≤ 1000 ∧ 0 ≤ i' := by
  obtain ⟨n, i2, h2, e2, p, q, _, c⟩ := l1Below_ok b i h 6 hb hi
  have q' := q (by omega)
  obtain ⟨m, rfl⟩ := Int.eq_ofNat_of_zero_le p
  obtain ⟨x, i3, h3, e3, r⟩ := l6Held_l b hb m [] i2 h2 c (by omega) (by simp; omega)
  unfold spec_l6Held.f
  exact ⟨x, i3, h3, ev_bindc e2 e3, r⟩
theorem l7Msg_l (b : List Int) (hb : b.length ≤ 1000000000000000000) : ∀ (d : Nat) (out : List Int) (i h : Int), 0 ≤ i → out.length + d ≤ 3 → (∀ v ∈ out, 0 ≤ v ∧ v ≤ 8) → ∃ x i' h', Ev (fun k => spec_l7Message.l0 k out (d : Int) b i h) (x, i', h') ∧ x.length ≤ 3 ∧ (∀ v ∈ x, 0 ≤ v ∧ v ≤ 8) ∧ 0 ≤ i' := by
  intro d
  induction d with
  | zero =>
    intro out i h hi ho hv
    refine ⟨out, i, h, ev_step ?_, by omega, hv, hi⟩
    simp only [spec_l7Message.l0]
    exact ev_neg (by simp) (ev_const rfl)
  | succ d ih =>
    intro out i h hi ho hv
    obtain ⟨s, i1, h1, e, p, q, _, c⟩ := l1Below_ok b i h 9 hb hi
    have q' := q (by omega)
    obtain ⟨x, i2, h2, e2, r⟩ := ih (out ++ [s]) i1 h1 c (by simp; omega) (fun v hv' => by
      rcases List.mem_append.1 hv' with z | z
      · exact hv v z
      · rw [List.mem_singleton.1 z]; omega)
    refine ⟨x, i2, h2, ev_step ?_, r⟩
    simp only [spec_l7Message.l0]
    refine ev_pos (by omega) (ev_bindc e (ev_pos (by omega) ?_))
    rw [w64 (i := ((d + 1 : Nat) : Int) - 1) (by omega) (by omega), show ((d + 1 : Nat) : Int) - 1 = (d : Int) from by omega]
    exact e2
theorem l7Msg_ok (b : List Int) (i h : Int) (hb : b.length ≤ 1000000000000000000) (hi : 0 ≤ i) : ∃ x i' h', Ev (fun k => spec_l7Message.f k b i h) (x, i', h') ∧ x.length ≤ 3 ∧ (∀ v ∈ x, 0 ≤ v ∧ v ≤ 8) ∧ 0 ≤ i' := by
  obtain ⟨n, i2, h2, e2, p, q, _, c⟩ := l1Below_ok b i h 4 hb hi
  have q' := q (by omega)
  obtain ⟨m, rfl⟩ := Int.eq_ofNat_of_zero_le p
  obtain ⟨x, i3, h3, e3, r⟩ := l7Msg_l b hb m [] i2 h2 c (by simp; omega) (by simp)
  unfold spec_l7Message.f
  exact ⟨x, i3, h3, ev_bindc e2 e3, r⟩
theorem l6Keys_l (b : List Int) (hb : b.length ≤ 1000000000000000000) (N : Nat) (hN : N ≤ 1000) (nd : Int) : ∀ (d j : Nat) (a i h : Int) (out : List Int), j + d = N → 0 ≤ i → out.length + d ≤ 1000 → ∃ x n i' h', Ev (fun k => spec_l6Keys.l0 k (N : Int) a (j : Int) b i h out nd) (x, n, i', h') ∧ x.length ≤ 1000 ∧ 0 ≤ i' := by
  intro d
  induction d with
  | zero =>
    intro j a i h out hj hi ho
    obtain ⟨s, i1, h1, e, _, _, _, c⟩ := l1Below_ok b i h (N : Int) hb hi
    refine ⟨out, wrap64 (1 + s), i1, h1, ev_step ?_, by omega, c⟩
    simp only [spec_l6Keys.l0]
    exact ev_neg (by omega) (ev_bindc e (ev_const rfl))
  | succ d ih =>
    intro j a i h out hj hi ho
    obtain ⟨s, i1, h1, e, _, _, _, c⟩ := l1Below_ok b i h 3 hb hi
    obtain ⟨x, n, i2, h2, e2, q⟩ := ih (j + 1) (wrap64 ((wrap64 (a + 1)) + s)) i1 h1 (out ++ [wrap64 ((wrap64 (a + 1)) + s)]) (by omega) c (by simp; omega)
    refine ⟨x, n, i2, h2, ev_step ?_, q⟩
    simp only [spec_l6Keys.l0]
    rw [w64s (n := N) (by omega) (by omega)]
    exact ev_pos (by omega) (ev_bindc e (ev_pos (by omega) e2))
theorem l6Any_ok (b : List Int) (i h : Int) (hb : b.length ≤ 1000000000000000000) (hi : 0 ≤ i) : ∃ x n i' h', Ev (fun k => spec_l6Any.f k b i h) (x, n, i', h') ∧ x.length ≤ 1001 ∧ 0 ≤ i' := by
  obtain ⟨s, i1, h1, e1, p1, q1, _, c1⟩ := l1Below_ok b i h 3 hb hi
  obtain ⟨m, rfl⟩ := Int.eq_ofNat_of_zero_le p1
  have q1 := q1 (by omega)
  obtain ⟨a, i2, h2, e2, _, _, _, c2⟩ := l1Below_ok b i1 h1 4 hb c1
  obtain ⟨x, n, i3, h3, e3, hx, c3⟩ := l6Keys_l b hb (m + 1) (by omega) 0 (m + 1) 0 a i2 h2 [] (by omega) c2 (by simp; omega)
  have ek : Ev (fun k => spec_l6Keys.f k b i h) (x, n, i3, h3) := by
    unfold spec_l6Keys.f
    refine ev_bindc e1 (ev_bindc e2 ?_)
    have e : wrap64 (1 + (m : Int)) = ((m + 1 : Nat) : Int) := by rw [w64 (by omega) (by omega)]; omega
    simp only [e]
    exact e3
  obtain ⟨t, i4, h4, e4, _, _, _, c4⟩ := l1Below_ok b i3 h3 10 hb c3
  unfold spec_l6Any.f
  by_cases t0 : t = 0
  · obtain ⟨v, i5, h5, e5, _, c5⟩ := l1Int_ok b i4 h4 [0, (-1), 5] hb c4 (by simp)
    exact ⟨x, v, i5, h5, ev_bind ek (ev_bindc e4 (ev_pos t0 (ev_bindc e5 (ev_const rfl)))), by omega, c5⟩
  by_cases t1 : t = 1
  · obtain ⟨v, i5, h5, e5, _, c5⟩ := l1Int_ok b i4 h4 [1, 99, 100] hb c4 (by simp)
    exact ⟨x ++ [v], n, i5, h5, ev_bind ek (ev_bindc e4 (ev_neg t0 (ev_pos t1 (ev_bindc e5 (ev_pos (by simp only []; omega) (ev_const rfl)))))), by simp; omega, c5⟩
  by_cases t2 : t = 2
  · exact ⟨[], n, i4, h4, ev_bind ek (ev_bindc e4 (ev_neg t0 (ev_neg t1 (ev_pos t2 (ev_const rfl))))), by simp, c4⟩
  · exact ⟨x, n, i4, h4, ev_bind ek (ev_bindc e4 (ev_neg t0 (ev_neg t1 (ev_neg t2 (ev_const rfl))))), by omega, c4⟩
theorem l7Sigs_ok (b : List Int) (i h : Int) (l : List Int) (n : Int) (m : List Int) (hl : l.length ≤ 1001) (hm : m.length ≤ 3) (hb : b.length ≤ 1000000000000000000) (hi : 0 ≤ i) : ∃ x i' h', Ev (fun k => spec_l7Sigs.f k b i h l n m) (x, i', h') ∧ x.length ≤ 10000 ∧ 0 ≤ i' := by
  obtain ⟨g, i1, h1, e1, hg, c1⟩ := l6Held_ok b i h hb hi
  have e2 := SignBy_sev g m l n (by omega) (by omega) (by omega)
  have hs := sgnL_len g m l []
  simp only [List.length_nil] at hs
  generalize sgnL g m l [] = s at e2 hs
  obtain ⟨t, i3, h3, e3, _, _, _, c3⟩ := l1Below_ok b i1 h1 6 hb c1
  unfold spec_l7Sigs.f
  by_cases t0 : t = 0
  · obtain ⟨v, i4, h4, e4, _, c4⟩ := l1Int_ok b i3 h3 [0, 1, 2, 100] hb c3 (by simp)
    obtain ⟨u, i5, h5, e5, _, _, _, c5⟩ := l1Below_ok b i4 h4 9 hb c4
    exact ⟨s ++ [⟨v, u⟩], i5, h5, ev_bind e1 (ev_bind e2 (ev_bindc e3 (ev_pos t0 (ev_bindc e4 (ev_bindc e5 (ev_pos (by omega) (ev_const rfl))))))), by simp; omega, c5⟩
  by_cases t1 : t = 1
  · exact ⟨s ++ s, i3, h3, ev_bind e1 (ev_bind e2 (ev_bindc e3 (ev_neg t0 (ev_pos t1 (ev_pos (by omega) (ev_const rfl)))))), by simp; omega, c3⟩
  by_cases t2 : t = 2
  · by_cases hz : (s.length : Int) > 0
    · exact ⟨_, i3, h3, ev_bind e1 (ev_bind e2 (ev_bindc e3 (ev_neg t0 (ev_neg t1 (ev_pos t2 (ev_pos hz (ev_pos (by omega) (ev_const rfl)))))))), by rw [List.length_set]; omega, c3⟩
    · exact ⟨s, i3, h3, ev_bind e1 (ev_bind e2 (ev_bindc e3 (ev_neg t0 (ev_neg t1 (ev_pos t2 (ev_neg hz (ev_const rfl))))))), by omega, c3⟩
  · exact ⟨s, i3, h3, ev_bind e1 (ev_bind e2 (ev_bindc e3 (ev_neg t0 (ev_neg t1 (ev_neg t2 (ev_const rfl)))))), by omega, c3⟩
theorem FT_l0 (c : List Int) (hc : c.length ≤ 1000000000000000000) (s : List S46) (hsl : s.length ≤ 10000) (l : List Int) (n : Int) (hl : l.length ≤ 1001) (hs : ∀ x ∈ s, x.f0 ∈ l) : ∀ d i : Nat, i + d = s.length → Ev (fun k => laws_FnThresholds.l0 k c s (i : Int) l n) true := by
  intro d
  induction d with
  | zero =>
    intro i hi
    obtain ⟨h1, e1⟩ := l1New_ok c hc
    obtain ⟨a, p, i2, h2, e2, ha, c2⟩ := l6Any_ok c 0 h1 hc (by omega)
    obtain ⟨x, i3, h3, e3, hx, hxv, c3⟩ := l7Msg_ok c i2 h2 hc c2
    obtain ⟨y, i4, h4, e4, hy, c4⟩ := l7Sigs_ok c i3 h3 a p x ha hx hc c3
    have d1 : Ev (fun k => spec_DrawCountSigs.f k c) (a, p, x, y) := by
      unfold spec_DrawCountSigs.f
      exact ev_bind e1 (ev_bind e2 (ev_bind e3 (ev_bind e4 (ev_const rfl))))
    obtain ⟨z, i5, h5, e5, hz, hzv, c5⟩ := l7Msg_ok c 0 h1 hc (by omega)
    obtain ⟨key, i6, h6, e6, _, c6⟩ := l1Int_ok c i5 h5 [0, 1, 5, 99, 100] hc c5 (by simp)
    obtain ⟨u, i7, h7, e7, _, _, _, c7⟩ := l1Below_ok c i6 h6 2 hc c6
    have d2 : Ev (fun k => spec_DrawIsSigBy.f k c) (key, wrap64 (tagL key z + u), z) := by
      unfold spec_DrawIsSigBy.f
      exact ev_bind e1 (ev_bind e5 (ev_bindc e6 (ev_bind (TO_sev key z (by omega)) (ev_bindc e7 (ev_const rfl)))))
    obtain ⟨o, i8, h8, e8, o1, o2, _, c8⟩ := l1Below_ok c 0 h1 101 hc (by omega)
    have d3 : Ev (fun k => spec_DrawOneKey.f k c) o := by
      unfold spec_DrawOneKey.f
      exact ev_bind e1 (ev_bindc e8 (ev_const rfl))
    have g1 := CntS_iev x (by omega) y (by omega) a p (by omega)
    have g2 := CntS_sev x (by omega) y (by omega) a p (by omega)
    have g3 := SB_iev key (wrap64 (tagL key z + u)) z (by omega)
    have g4 := SB_sev key (wrap64 (tagL key z + u)) z (by omega)
    have t1 := TO_iev 3 x (by omega)
    have t2 := TO_sev 3 x (by omega)
    have ik := IsKeys_iev [o] 1 (by simp) (decide (1 ≤ o ∧ o ≤ 99)) (by
      rw [decide_eq_true_iff]
      unfold isKs
      constructor
      · intro q
        refine ⟨by simp, by simp, by simp, by simp, fun i hi => ?_, fun i hi => ?_⟩
        · obtain rfl : i = 0 := by simp at hi; exact hi
          rw [rd_at [o] 0 (by simp)]
          exact q
        · simp at hi
      · intro q
        have z := q.2.2.2.2.1 0 (by simp)
        rw [rd_at [o] 0 (by simp)] at z
        exact z)
    have hn : cntS x y a 0 ≤ (a.length : Int) := by
      rw [cntS_count]
      have := List.countP_le_length (p := hasS x y) (l := a)
      omega
    have last : Ev (fun k => (impl_TagOf.f k 3 x).bind fun t441 => ((spec_TagOf.f k 3 x).bind fun t442 => (some (t441 == t442)))) true := ev_bind t1 (ev_bind t2 (ev_const (by simp)))
    refine ev_step ?_
    simp only [laws_FnThresholds.l0]
    refine ev_neg (by omega) (ev_bind d1 (ev_bind g1 (ev_bind d2 (ev_bind d3 (ev_bind g2 (ev_pos rfl (ev_pos hn (ev_bind g3 (ev_bind g4 (ev_pos (by simp) (ev_bindc rfl (ev_bind ik (ev_dec (fun q => ev_pos ?_ last) (fun q => ev_pos ?_ last))))))))))))))
    · rw [beq_iff_eq, decide_eq_decide]
      omega
    · rw [beq_iff_eq, decide_eq_false_iff_not]
      omega
  | succ d ih =>
    intro i hi
    have hlt : i < s.length := by omega
    have e := slContains_ev l s[i].f0 (by omega) true (by simp; exact hs _ (List.getElem_mem hlt))
    refine ev_step ?_
    simp only [laws_FnThresholds.l0]
    rw [rdI2_at s i hlt, w64s (n := s.length) hlt (by omega)]
    unfold impl_HasKey.f
    exact ev_pos (by omega) (ev_pos (by omega) (ev_bind (ev_bind e (ev_const rfl)) (ev_pos rfl (ih (i + 1) (by omega)))))
end OfFnThresholds
open OfFnThresholds in
theorem FnThresholds : laws_FnThresholds.Pure := by
  intro c _ hb _
  apply Ev.rounds
  unfold laws_FnThresholds.f laws_big.f
  refine ev_bindc rfl (ev_dec (fun _ => ev_const rfl) (fun h0 => ?_))
  have hc : c.length ≤ 1000000000000000000 := by omega
  obtain ⟨h1, e1⟩ := l1New_ok c hc
  obtain ⟨h, i2, h2, e2, hh, c2⟩ := l6Held_ok c 0 h1 hc (by omega)
  obtain ⟨l, n, i3, h3, e3, hl, c3⟩ := l6Any_ok c i2 h2 hc c2
  obtain ⟨m, i4, h4, e4, hm, hv, c4⟩ := l7Msg_ok c i3 h3 hc c3
  have d1 : Ev (fun k => spec_DrawSignBy.f k c) (h, l, n, m) := by
    unfold spec_DrawSignBy.f
    exact ev_bind e1 (ev_bind e2 (ev_bind e3 (ev_bind e4 (ev_const rfl))))
  have e5 := SignBy_iev h m l n (by omega) (by omega) (by omega)
  have hs := sgnL_len h m l []
  simp only [List.length_nil] at hs
  obtain ⟨b, hk⟩ := ks_bool l n
  have g1 := IsSgd_iev m (by omega) (sgnL h m l []) (by omega) l n (by omega) b hk
  have g2 := IsSgd_iev (m ++ [1]) (by simp; omega) (sgnL h m l []) (by omega) l n (by omega) b hk
  have g3 := CS_iev h l n (by omega) (by omega) b hk
  have ik := IsKeys_iev l n (by omega) b hk
  have fin : Ev (fun k => laws_FnThresholds.j0 k c (sgnL h m l []) false l n) true := by
    refine ev_step ?_
    simp only [laws_FnThresholds.j0]
    exact ev_neg (by simp) (FT_l0 c hc _ (by omega) l n hl (fun x hx => by
      rcases (sgnL_mem h m l [] x).1 hx with z | z
      · cases z
      · exact z.1) _ 0 (Nat.zero_add _))
  refine ev_bind d1 (ev_bind e5 (ev_bind g1 (ev_bind g3 (ev_neg ?_ (ev_bind ik ?_)))))
  · unfold sgdB
    cases b with
    | false => simp
    | true =>
      have z := ks_rg l n (hk.mp rfl)
      simp only [cnt_sgn h m l z]
      simp
  · cases b with
    | false => exact ev_neg (by simp) fin
    | true =>
      have z := ks_rg l n (hk.mp rfl)
      have hn := (hk.mp rfl).2.2.1
      have e : sgdB l n (m ++ [1]) (sgnL h m l []) true = false := by
        unfold sgdB
        rw [cnt_more h m l z hm hv, Bool.true_and]
        exact decide_eq_false (by omega)
      rw [e] at g2
      exact ev_pos rfl (ev_bindc rfl (ev_pos (by simp; omega) (ev_bindc rfl (ev_bindc rfl (ev_pos (by simp; omega) (ev_bind g2 fin))))))
end Go.Proofs.Ytanogkaledgecaa.Pure
