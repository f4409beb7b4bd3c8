/- The pure statement of FnKeyedHash: what the printed functions compute answers true for all arguments within the printed bounds. -/
import Derived.Test.YtlmfpdlekelooaaPFnKeyedHashx3
import Derived.Test.YtlmfpdlekelooaaKit
namespace Go.Proofs.Ytlmfpdlekelooaa.Pure
open Go.RowKit Go.Proofs.Ytlmfpdlekelooaa.PFnKeyedHash Go.Proofs.YtlmfpdlekelooaaW.PrintWords Go.Proofs.YtlmfpdlekelooaaW.PrintLast Go.Proofs.Ytlmfpdlekelooaa.Kit
set_option linter.unusedVariables false
set_option linter.unusedSimpArgs false
namespace OfFnKeyedHash
theorem l1New_ok (b : List Int) (hb : b.length ≤ 1000000000000000000) : ∃ h, Ev (fun k => spec_l1New.f k b) (b, 0, h) := by
  have key : ∀ (m i : Nat) (h : Int), i + m = b.length → ∃ h', Ev (fun k => spec_l1New.l0 k b h (i : Int)) (b, 0, h') := by
    intro m
    induction m with
    | zero =>
      intro i h hi
      refine ⟨h, ev_step ?_⟩
      simp only [spec_l1New.l0]
      exact ev_neg (by omega) (ev_const rfl)
    | succ m ih =>
      intro i h hi
      by_cases h4 : (i : Int) < 4000
      · obtain ⟨h', e⟩ := ih (i + 1) (Go.bits .and .i64 (wrap64 ((wrap64 ((wrap64 (h * 137)) + (wrap64 (rd b (i : Int))))) + 11)) 1073741823) (by omega)
        refine ⟨h', ev_step ?_⟩
        simp only [spec_l1New.l0]
        rw [w64s (n := b.length) (by omega) (by omega)]
        exact ev_pos (by omega) (ev_pos h4 (ev_pos (by omega) e))
      · refine ⟨h, ev_step ?_⟩
        simp only [spec_l1New.l0]
        exact ev_pos (by omega) (ev_neg h4 (ev_const rfl))
  unfold spec_l1New.f
  exact key b.length 0 _ (by omega)

theorem and255 (x : Int) : 0 ≤ Go.bits .and .i64 x 255 ∧ Go.bits .and .i64 x 255 ≤ 255 := by
  unfold Go.bits
  simp only []
  have h1 : (BitVec.ofInt IntKind.i64.bits x &&& BitVec.ofInt IntKind.i64.bits 255).toNat ≤ 255 := by
    rw [BitVec.toNat_and]
    exact Nat.le_trans Nat.and_le_right (by decide)
  generalize (BitVec.ofInt IntKind.i64.bits x &&& BitVec.ofInt IntKind.i64.bits 255).toNat = n at h1
  rw [IntKind.wrap_i64]
  omega

/-- The drawing of bytes and of what is made of them: each draw ends, and its values lie where they should. The reader's place i never is below 0. -/
theorem l1Byte_ok (b : List Int) (i h : Int) (hb : b.length ≤ 1000000000000000000) (hi : 0 ≤ i) : ∃ x i' h', spec_l1Byte.f b i h = some (x, i', h') ∧ 0 ≤ x ∧ x ≤ 255 ∧ 0 ≤ i' := by
  unfold spec_l1Byte.f
  by_cases h1 : i < (b.length : Int)
  · rw [if_pos h1, if_pos hi]
    exact ⟨_, _, _, rfl, (and255 _).1, (and255 _).2, by rw [w64 (by omega) (by omega)]; omega⟩
  · rw [if_neg h1]
    exact ⟨_, _, _, rfl, (and255 _).1, (and255 _).2, hi⟩
theorem l1Below_ok (b : List Int) (i h n : Int) (hb : b.length ≤ 1000000000000000000) (hi : 0 ≤ i) : ∃ x i' h', spec_l1Below.f b i h n = some (x, i', h') ∧ 0 ≤ x ∧ (0 < n → x < n) ∧ (n ≤ 0 → x = 0) ∧ 0 ≤ i' := by
  unfold spec_l1Below.f
  by_cases h1 : n ≤ 0
  · rw [if_pos h1]
    exact ⟨_, _, _, rfl, by omega, by omega, by omega, hi⟩
  · rw [if_neg h1]
    obtain ⟨x1, i1, h1', e1, a1, b1, c1⟩ := l1Byte_ok b i h hb hi
    by_cases h2 : n ≤ 256
    · rw [if_pos h2, e1, Option.bind_some, if_neg (by omega)]
      exact ⟨_, _, _, rfl, Int.tmod_nonneg _ a1, fun _ => Int.tmod_lt_of_pos _ (by omega), by omega, c1⟩
    · obtain ⟨x2, i2, h2', e2, a2, b2, c2⟩ := l1Byte_ok b i1 h1' hb c1
      obtain ⟨x3, i3, h3', e3, a3, b3, c3⟩ := l1Byte_ok b i2 h2' hb c2
      rw [if_neg h2, e1, Option.bind_some, e2, Option.bind_some, e3, Option.bind_some, if_neg (by omega)]
      refine ⟨_, _, _, rfl, ?_, fun _ => Int.tmod_lt_of_pos _ (by omega), by omega, c3⟩
      simp only []
      rw [w64 (i := x1 * 65536) (by omega) (by omega), w64 (i := x2 * 256) (by omega) (by omega), w64 (i := x1 * 65536 + x2 * 256) (by omega) (by omega), w64 (i := x1 * 65536 + x2 * 256 + x3) (by omega) (by omega)]
      exact Int.tmod_nonneg _ (by omega)

theorem l1Int_ok (b : List Int) (i h : Int) (l : List Int) (hb : b.length ≤ 1000000000000000000) (hi : 0 ≤ i) (hl : 0 < l.length) : ∃ x i' h', spec_l1Int.f b i h l = some (x, i', h') ∧ x ∈ l ∧ 0 ≤ i' := by
  obtain ⟨x, i1, h1, e, p, q, _, c⟩ := l1Below_ok b i h (l.length : Int) hb hi
  have q' := q (by omega)
  unfold spec_l1Int.f
  rw [e, Option.bind_some, if_pos p, if_pos q']
  refine ⟨_, _, _, rfl, ?_, c⟩
  obtain ⟨m, rfl⟩ := Int.eq_ofNat_of_zero_le p
  rw [rd_at l m (by omega)]
  exact List.getElem_mem _

theorem l1Once_ok (b : List Int) (i h n : Int) (hb : b.length ≤ 1000000000000000000) (hi : 0 ≤ i) : ∃ (x : Bool) (i' h' : Int), spec_l1Once.f b i h n = some (x, i', h') ∧ 0 ≤ i' := by
  obtain ⟨x, i1, h1, e, _, _, _, c⟩ := l1Below_ok b i h n hb hi
  unfold spec_l1Once.f
  rw [e, Option.bind_some]
  exact ⟨_, _, _, rfl, c⟩

theorem l3Word_ok (b : List Int) (i h : Int) (hb : b.length ≤ 1000000000000000000) (hi : 0 ≤ i) : ∃ x i' h', spec_l3Word.f b i h = some (x, i', h') ∧ -1 ≤ x ∧ x ≤ 2147483648 ∧ 0 ≤ i' := by
  unfold spec_l3Word.f
  obtain ⟨q, i1, h1, e1, c1⟩ := l1Once_ok b i h 10 hb hi
  rw [e1, Option.bind_some]
  simp only []
  cases q with
  | true =>
    obtain ⟨y, i2, h2, e2, p2, c2⟩ := l1Int_ok b i1 h1 [(-1), 2147483647, 2147483648] hb c1 (by simp)
    rw [if_pos rfl, e2, Option.bind_some]
    simp at p2
    exact ⟨_, _, _, rfl, by simp only []; omega, by simp only []; omega, c2⟩
  | false =>
    obtain ⟨q2, i2, h2, e2, c2⟩ := l1Once_ok b i1 h1 4 hb c1
    rw [if_neg (by simp), e2, Option.bind_some]
    simp only []
    cases q2 with
    | true =>
      obtain ⟨y, i3, h3, e3, p3, c3⟩ := l1Int_ok b i2 h2 [0, 1, 2147483646] hb c2 (by simp)
      rw [if_pos rfl, e3, Option.bind_some]
      simp at p3
      exact ⟨_, _, _, rfl, by simp only []; omega, by simp only []; omega, c3⟩
    | false =>
      obtain ⟨y, i3, h3, e3, p3, q3, _, c3⟩ := l1Below_ok b i2 h2 1000000 hb c2
      obtain ⟨z, i4, h4, e4, p4, q4, _, c4⟩ := l1Below_ok b i3 h3 2000 hb c3
      rw [if_neg (by simp), e3, Option.bind_some, e4, Option.bind_some]
      have hm : y * z ≤ 999999 * 1999 := Int.mul_le_mul (by omega) (by omega) p4 (by omega)
      have hm0 : 0 ≤ y * z := Int.mul_nonneg p3 p4
      exact ⟨_, _, _, rfl, by simp only []; rw [w64 (i := y * z) (by omega) (by omega)]; omega, by simp only []; rw [w64 (i := y * z) (by omega) (by omega)]; omega, c4⟩

theorem l3Words_ok (b : List Int) (i h : Int) (hb : b.length ≤ 1000000000000000000) (hi : 0 ≤ i) : ∃ r i' h', Ev (fun k => spec_l3Words.f k b i h) (r, i', h') ∧ r.length ≤ 4 ∧ (∀ v ∈ r, -1 ≤ v ∧ v ≤ 2147483648) ∧ 0 ≤ i' := by
  have key : ∀ (m : Nat) (out : List Int) (i h : Int), 0 ≤ i → m ≤ 4 → out.length + m ≤ 4 → (∀ v ∈ out, -1 ≤ v ∧ v ≤ 2147483648) →
      ∃ r i' h', Ev (fun k => spec_l3Words.l0 k out (m : Int) b i h) (r, i', h') ∧ r.length ≤ 4 ∧ (∀ v ∈ r, -1 ≤ v ∧ v ≤ 2147483648) ∧ 0 ≤ i' := by
    intro m
    induction m with
    | zero =>
      intro out i h hi _ ho hw
      refine ⟨out, i, h, ev_step ?_, by omega, hw, hi⟩
      simp only [spec_l3Words.l0]
      exact ev_neg (by omega) (ev_const rfl)
    | succ m ih =>
      intro out i h hi hm ho hw
      obtain ⟨x, i1, h1, e, p, q, c⟩ := l3Word_ok b i h hb hi
      have hw2 : ∀ v ∈ out ++ [x], -1 ≤ v ∧ v ≤ 2147483648 := by
        intro v hv
        rcases List.mem_append.1 hv with z | z
        · exact hw v z
        · simp at z; omega
      obtain ⟨r, i', h', e2, hl, hw3, c2⟩ := ih (out ++ [x]) i1 h1 c (by omega) (by simp; omega) hw2
      refine ⟨r, i', h', ev_step ?_, hl, hw3, c2⟩
      simp only [spec_l3Words.l0]
      refine ev_pos (by omega) (ev_bindc e (ev_pos (by omega) ?_))
      rw [show wrap64 (((m + 1 : Nat) : Int) - 1) = (m : Int) from by rw [w64 (by omega) (by omega)]; omega]
      exact e2
  unfold spec_l3Words.f
  obtain ⟨n, i1, h1, e, p, q, _, c⟩ := l1Below_ok b i h 5 hb hi
  obtain ⟨m, rfl⟩ := Int.eq_ofNat_of_zero_le p
  obtain ⟨r, i', h', e2, hl, hw, c2⟩ := key m [] i1 h1 c (by omega) (by simp; omega) (by simp)
  exact ⟨r, i', h', ev_bindc e e2, hl, hw, c2⟩

theorem l1Str_ok (b : List Int) (i h : Int) (l : List ByteArray) (hb : b.length ≤ 1000000000000000000) (hi : 0 ≤ i) (hl : 0 < l.length) : ∃ x i' h', spec_l1Str.f b i h l = some (x, i', h') ∧ x ∈ l ∧ 0 ≤ i' := by
  obtain ⟨x, i1, h1, e, p, q, _, c⟩ := l1Below_ok b i h (l.length : Int) hb hi
  have q' := q (by omega)
  unfold spec_l1Str.f
  rw [e, Option.bind_some, if_pos p, if_pos q']
  refine ⟨_, _, _, rfl, ?_, c⟩
  obtain ⟨m, rfl⟩ := Int.eq_ofNat_of_zero_le p
  rw [rdOf_at _ l m (by omega)]
  exact List.getElem_mem _

theorem InRange_v (a b c : Int) : impl_InRange.f a b c = some (decide (b ≤ a ∧ a ≤ c)) := by
  unfold impl_InRange.f
  by_cases h : b ≤ a <;> simp [h]

theorem l1In_v (a b c : Int) : spec_l1In.f a b c = some (decide (b ≤ a ∧ a ≤ c)) := by
  unfold spec_l1In.f
  by_cases h : b ≤ a <;> simp [h]

theorem Mod_v (a b : Int) : spec_Mod.f a b = some (if 1 ≤ b ∧ b ≤ 1000000000000 then a % b else 0) := by
  unfold spec_Mod.f
  rw [l1In_v]
  by_cases h2 : 1 ≤ b ∧ b ≤ 1000000000000
  · have hb : ¬ b = 0 := by omega
    have h3 := Int.lt_tmod_of_pos a (show 0 < b by omega)
    have h4 := Int.tmod_lt_of_pos a (show 0 < b by omega)
    rw [if_pos h2]
    simp only [h2, hb, and_self, decide_true, Option.bind_some, if_true, if_false]
    rw [w64 (i := Int.tmod a b + b) (by omega) (by omega), Int.tmod_eq_emod_of_nonneg (a := Int.tmod a b + b) (by omega)]
    congr 1
    have h5 := Int.tmod_add_tdiv_mul a b
    rw [Int.add_emod_right]
    conv => rhs; rw [← h5]
    rw [Int.add_mul_emod_self_right]
  · rw [if_neg h2]
    simp [h2]
theorem iMod_v (a b : Int) : impl_Mod.f a b = some (if 1 ≤ b ∧ b ≤ 1000000000000 then a % b else 0) := by
  unfold impl_Mod.f
  rw [InRange_v]
  by_cases h2 : 1 ≤ b ∧ b ≤ 1000000000000
  · have hb : ¬ b = 0 := by omega
    have h3 := Int.lt_tmod_of_pos a (show 0 < b by omega)
    have h4 := Int.tmod_lt_of_pos a (show 0 < b by omega)
    rw [if_pos h2]
    simp only [h2, hb, and_self, decide_true, Option.bind_some, if_true, if_false]
    rw [w64 (i := Int.tmod a b + b) (by omega) (by omega), Int.tmod_eq_emod_of_nonneg (a := Int.tmod a b + b) (by omega)]
    congr 1
    have h5 := Int.tmod_add_tdiv_mul a b
    rw [Int.add_emod_right]
    conv => rhs; rw [← h5]
    rw [Int.add_mul_emod_self_right]
  · rw [if_neg h2]
    simp [h2]

/-- One round of the hash. -/
def hstep (d v : Int) : Int := (d * 1000003 + v % 2147483647 + 13) % 2147483647
def hashL (l : List Int) : Int := l.foldl hstep 11
theorem hstep_bd (d v : Int) : 0 ≤ hstep d v ∧ hstep d v < 2147483647 := by unfold hstep; omega
theorem hfold_bd (l : List Int) : ∀ d : Int, 0 ≤ d → d < 2147483647 → 0 ≤ l.foldl hstep d ∧ l.foldl hstep d < 2147483647 := by
  induction l with
  | nil => intro d h0 h1; exact ⟨h0, h1⟩
  | cons a l ih => intro d _ _; exact ih _ (hstep_bd d a).1 (hstep_bd d a).2
theorem hashL_bd (l : List Int) : 0 ≤ hashL l ∧ hashL l < 2147483647 := hfold_bd l 11 (by omega) (by omega)
theorem hround (d v : Int) (h0 : 0 ≤ d) (h1 : d < 2147483647) : Int.tmod (wrap64 ((wrap64 ((wrap64 (d * 1000003)) + v % 2147483647)) + 13)) 2147483647 = hstep d v := by
  have hv0 : 0 ≤ v % 2147483647 := by omega
  have hv1 : v % 2147483647 < 2147483647 := by omega
  rw [w64 (i := d * 1000003) (by omega) (by omega), w64 (i := d * 1000003 + v % 2147483647) (by omega) (by omega), w64 (i := d * 1000003 + v % 2147483647 + 13) (by omega) (by omega), Int.tmod_eq_emod_of_nonneg (by omega)]
  rfl
theorem iMod_at (v : Int) : impl_Mod.f v 2147483647 = some (v % 2147483647) := by
  rw [iMod_v, if_pos (by omega)]
theorem Hash_il (x : List Int) (hx : x.length ≤ 9223372036854775806) : ∀ (m i : Nat) (d : Int), i + m = x.length → 0 ≤ d → d < 2147483647 → Ev (fun k => impl_Hash.l0 k d x (x.length : Int) (i : Int)) ((x.drop i).foldl hstep d) := by
  intro m
  induction m with
  | zero =>
    intro i d hi _ _
    refine ev_step ?_
    simp only [impl_Hash.l0]
    rw [List.drop_of_length_le (by omega)]
    exact ev_neg (by omega) (ev_const rfl)
  | succ m ih =>
    intro i d hi h0 h1
    have hlt : i < x.length := by omega
    refine ev_step ?_
    simp only [impl_Hash.l0]
    refine ev_pos (by omega) (ev_pos (by omega) (ev_pos (by omega) (ev_bindc (iMod_at _) ?_)))
    rw [hround _ _ h0 h1, w64s (n := x.length) hlt (by omega), rd_at x i hlt, List.drop_eq_getElem_cons hlt]
    exact ih (i + 1) _ (by omega) (hstep_bd _ _).1 (hstep_bd _ _).2
theorem Hash_iev (x : List Int) (hx : x.length ≤ 9223372036854775806) : Ev (fun k => impl_Hash.f k x) (hashL x) := by
  unfold impl_Hash.f
  exact Hash_il x hx x.length 0 11 (by omega) (by omega) (by omega)

def khL (a : Int) (l : List Int) : Int := hashL (a :: (l ++ [a]))
theorem khL_bd (a : Int) (l : List Int) : 0 ≤ khL a l ∧ khL a l < 2147483647 := hashL_bd _
theorem KH_iev (a : Int) (l : List Int) (hl : l.length ≤ 10000000000000) : Ev (fun k => impl_KeyedHash.f k a l) (khL a l) := by
  unfold impl_KeyedHash.f
  exact ev_pos (by omega) (Hash_iev _ (by simp; omega))

theorem hstep_inj (a b v : Int) (h0 : 0 ≤ a) (h1 : a < 2147483647) (h2 : 0 ≤ b) (h3 : b < 2147483647) (h : hstep a v = hstep b v) : a = b := by
  unfold hstep at h
  rw [Int.emod_eq_emod_iff_emod_sub_eq_zero] at h
  obtain ⟨q, hq⟩ := Int.dvd_of_emod_eq_zero h
  generalize v % 2147483647 = c at hq
  have hx : (a - b) * 1000003 = 2147483647 * q := by rw [← hq, Int.sub_mul, Int.add_sub_add_right, Int.add_sub_add_right]
  have hd : (2147483647 : Int) ∣ a - b := by
    refine ⟨q * 1523789695 - (a - b) * 709572, ?_⟩
    have one : (1000003 : Int) * 1523789695 - 2147483647 * 709572 = 1 := by decide
    calc a - b = (a - b) * (1000003 * 1523789695 - 2147483647 * 709572) := by rw [one, Int.mul_one]
      _ = 2147483647 * (q * 1523789695 - (a - b) * 709572) := by rw [Int.mul_sub, ← Int.mul_assoc (a - b) 1000003, hx, Int.mul_left_comm (a - b) 2147483647, Int.mul_assoc 2147483647 q, ← Int.mul_sub]
  clear hx hq h
  obtain ⟨s, hs⟩ := hd
  omega
theorem hfold_inj (l : List Int) : ∀ a b : Int, 0 ≤ a → a < 2147483647 → 0 ≤ b → b < 2147483647 → l.foldl hstep a = l.foldl hstep b → a = b := by
  induction l with
  | nil => intro a b _ _ _ _ h; exact h
  | cons x l ih =>
    intro a b h0 h1 h2 h3 h
    exact hstep_inj a b x h0 h1 h2 h3 (ih _ _ (hstep_bd a x).1 (hstep_bd a x).2 (hstep_bd b x).1 (hstep_bd b x).2 h)
theorem hstep_ne (d v w : Int) (h : v % 2147483647 ≠ w % 2147483647) : hstep d v ≠ hstep d w := by
  unfold hstep
  omega
theorem hash_ne (p q : List Int) (v w : Int) (h : v % 2147483647 ≠ w % 2147483647) : hashL (p ++ v :: q) ≠ hashL (p ++ w :: q) := by
  unfold hashL
  rw [List.foldl_append, List.foldl_append, List.foldl_cons, List.foldl_cons]
  exact fun e => hstep_ne _ v w h (hfold_inj q _ _ (hstep_bd _ _).1 (hstep_bd _ _).2 (hstep_bd _ _).1 (hstep_bd _ _).2 e)
theorem khL_set_ne (a : Int) (l : List Int) (i : Nat) (hi : i < l.length) (v : Int) (h : v % 2147483647 ≠ l[i] % 2147483647) : khL a (l.set i v) ≠ khL a l := by
  have e1 : l.set i v = l.take i ++ v :: l.drop (i + 1) := by rw [List.set_eq_take_append_cons_drop, if_pos hi]
  have e2 : l = l.take i ++ l[i] :: l.drop (i + 1) := by rw [← List.drop_eq_getElem_cons hi, List.take_append_drop]
  have z := hash_ne (a :: l.take i) (l.drop (i + 1) ++ [a]) v l[i] h
  unfold khL
  rw [e1]
  intro c
  apply z
  rw [List.cons_append, List.cons_append]
  have e3 : a :: (l.take i ++ l[i] :: (l.drop (i + 1) ++ [a])) = a :: (l ++ [a]) := by
    have e4 : l.take i ++ l[i] :: (l.drop (i + 1) ++ [a]) = (l.take i ++ l[i] :: l.drop (i + 1)) ++ [a] := by rw [List.append_assoc, List.cons_append]
    rw [e4, ← e2]
  rw [e3, ← c]
  simp

theorem BytesToInts_il (x : List Int) (hx : x.length ≤ 1000000000000) (hw : ∀ v ∈ x, 0 ≤ v ∧ v ≤ 255) : ∀ (m i : Nat), i + m = x.length → Ev (fun k => impl_BytesToInts.l0 k ((x.length : Int) :: x.take i) x (x.length : Int) (i : Int)) ((x.length : Int) :: x) := by
  intro m
  induction m with
  | zero =>
    intro i hi
    refine ev_step ?_
    simp only [impl_BytesToInts.l0]
    rw [List.take_of_length_le (by omega)]
    exact ev_neg (by omega) (ev_const rfl)
  | succ m ih =>
    intro i hi
    have hlt : i < x.length := by omega
    have hv := hw x[i] (List.getElem_mem hlt)
    refine ev_step ?_
    simp only [impl_BytesToInts.l0]
    refine ev_pos (by omega) (ev_pos (by omega) (ev_pos (by omega) (ev_pos (by simp; omega) ?_)))
    rw [w64s (n := x.length) hlt (by omega), rd_at x i hlt, w64 (i := x[i]) (by omega) (by omega)]
    have h := ih (i + 1) (by omega)
    rw [List.take_succ_eq_append_getElem hlt] at h
    exact h
theorem BytesToInts_iev (x : List Int) (hx : x.length ≤ 1000000000000) (hw : ∀ v ∈ x, 0 ≤ v ∧ v ≤ 255) : Ev (fun k => impl_BytesToInts.f k x) ((x.length : Int) :: x) := by
  unfold impl_BytesToInts.f
  exact BytesToInts_il x hx hw x.length 0 (by omega)

theorem LabelInts_rg (a : ByteArray) : ∀ v ∈ bytesOf a, 0 ≤ v ∧ v ≤ 255 := by
  intro v hv
  unfold bytesOf at hv
  simp only [List.mem_map] at hv
  obtain ⟨b, _, rfl⟩ := hv
  have := b.toNat_lt
  omega

def deriveL (a : Int) (s : ByteArray) : Int := if khL a ((s.size : Int) :: bytesOf s) > 1 then khL a ((s.size : Int) :: bytesOf s) else 1
theorem Derive_iev (a : Int) (s : ByteArray) (h : s.size ≤ 1000000000000) : Ev (fun k => impl_DeriveFromString.f k a s) (deriveL a s) := by
  unfold impl_DeriveFromString.f
  have e := BytesToInts_iev (bytesOf s) (by rw [bytesOf_length]; omega) (LabelInts_rg s)
  rw [bytesOf_length] at e
  refine ev_pos (by omega) (ev_bind e (ev_bind (KH_iev _ _ (by simp [bytesOf_length]; omega)) ?_))
  refine ev_const ?_
  unfold deriveL mx
  rfl

/-- A byte of the code, or what stands in its place. -/
theorem at_ok (l : List Int) (hl : l.length ≤ 1000000000000000) (hw : ∀ v ∈ l, 0 ≤ v ∧ v ≤ 255) (a : Nat) (ha : a ≤ 1000000000000) : ∃ x, laws_at.f l (a : Int) = some x ∧ 0 ≤ x ∧ x ≤ 255 := by
  unfold laws_at.f
  by_cases h : (a : Int) < (l.length : Int)
  · rw [if_pos h, if_pos (by omega), rd_at l a (by omega)]
    have := hw l[a] (List.getElem_mem _)
    exact ⟨_, rfl, by rw [w64 (by omega) (by omega)]; exact this.1, by rw [w64 (by omega) (by omega)]; exact this.2⟩
  · rw [if_neg h]
    refine ⟨_, rfl, ?_, ?_⟩
    · rw [w64 (i := (a : Int) * 31) (by omega) (by omega), w64 (i := (l.length : Int) * 7) (by omega) (by omega), w64 (by omega) (by omega)]
      exact Int.tmod_nonneg _ (by omega)
    · have := Int.tmod_lt_of_pos (wrap64 ((wrap64 ((a : Int) * 31)) + (wrap64 ((l.length : Int) * 7)))) (show (0 : Int) < 256 by omega)
      omega
end OfFnKeyedHash
open OfFnKeyedHash in
theorem FnKeyedHash : laws_FnKeyedHash.Pure := by
  intro l _ hb hw0
  apply Ev.rounds
  have hw : ∀ v ∈ l, 0 ≤ v ∧ v ≤ 255 := fun v hv => wfu8 (hw0 v hv)
  unfold laws_FnKeyedHash.f laws_big.f
  refine ev_bindc rfl (ev_dec (fun _ => ev_const rfl) (fun h0 => ?_))
  have hl : l.length ≤ 1000000000000000000 := by omega
  obtain ⟨h1, e1⟩ := l1New_ok l hl
  obtain ⟨key, i2, h2, e2, _, _, c2⟩ := l3Word_ok l 0 h1 hl (by omega)
  obtain ⟨ws, i3, h3, e3, p3, w3, c3⟩ := l3Words_ok l i2 h2 hl c2
  obtain ⟨s, i4, h4, e4, p4, c4⟩ := l1Str_ok l i2 h2 [(⟨#[]⟩ : ByteArray), (⟨#[97]⟩ : ByteArray), (⟨#[98]⟩ : ByteArray), (⟨#[97, 98]⟩ : ByteArray), (⟨#[110, 101, 119, 115]⟩ : ByteArray), (⟨#[120]⟩ : ByteArray)] hl c2 (by simp)
  have hs : s.size ≤ 4 := by
    simp only [List.mem_cons, List.not_mem_nil, or_false] at p4
    rcases p4 with rfl | rfl | rfl | rfl | rfl | rfl <;> decide
  have d : Ev (fun k => spec_DrawKeyedHash.f k l) (key, ws) := by
    unfold spec_DrawKeyedHash.f
    exact ev_bind e1 (ev_bindc e2 (ev_bind e3 (ev_const rfl)))
  have d2 : Ev (fun k => spec_DrawDeriveFromString.f k l) (key, s) := by
    unfold spec_DrawDeriveFromString.f
    exact ev_bind e1 (ev_bindc e2 (ev_bindc e4 (ev_const rfl)))
  have hk := khL_bd key ws
  have dr := Derive_iev key s (by omega)
  have valid : impl_IsValidKey.f (deriveL key s) = some true := by
    have := khL_bd key ((s.size : Int) :: bytesOf s)
    unfold impl_IsValidKey.f
    rw [InRange_v, Option.bind_some]
    congr 1
    unfold deriveL
    simp only [decide_eq_true_eq]
    split <;> omega
  refine ev_bind d (ev_bind (KH_iev key ws (by omega)) (ev_neg (by omega) (ev_neg (by omega) (ev_bindc rfl (ev_pos (by simp; omega) (ev_bindc rfl (ev_pos (by simp; omega) (ev_bind (Hash_iev _ (by simp; omega)) ?_))))))))
  have e0 : (khL key ws != hashL ([key] ++ ws ++ [key])) = false := by
    unfold khL
    simp
  rw [e0]
  refine ev_step ?_
  simp only [laws_FnKeyedHash.j0]
  refine ev_neg (by simp) (ev_dec (fun hpos => ?_) (fun _ => ?_))
  · obtain ⟨a0, f0, g0, _⟩ := at_ok l (by omega) hw 0 (by omega)
    obtain ⟨a1, f1, g1, q1⟩ := at_ok l (by omega) hw 1 (by omega)
    refine ev_bindc rfl (ev_pos (by simp; omega) (ev_bindc rfl ?_))
    simp only [List.nil_append]
    have t0 := Int.tmod_nonneg (a := a0) (ws.length : Int) g0
    have t1 := Int.tmod_lt_of_pos a0 hpos
    refine ev_bindc f0 (ev_neg (by omega) (ev_pos t0 (ev_pos t1 (ev_bindc f1 ?_))))
    obtain ⟨m, hm⟩ := Int.eq_ofNat_of_zero_le t0
    rw [hm]
    have hm2 : m < ws.length := by omega
    have hv := w3 ws[m] (List.getElem_mem hm2)
    rw [rd_at ws m hm2, w64 (i := ws[m] + 1) (by omega) (by omega), w64 (i := ws[m] + 1 + a1) (by omega) (by omega)]
    refine ev_bindc (Mod_v _ _) ?_
    rw [if_pos (by omega)]
    have ne := khL_set_ne key ws m hm2 ((ws[m] + 1 + a1) % 2147483647) (by omega)
    rw [Int.toNat_natCast]
    refine ev_bind (KH_iev key _ (by simp; omega)) (ev_neg ne ?_)
    exact ev_bind d2 (ev_bind dr (ev_bindc valid (ev_const rfl)))
  · exact ev_bind d2 (ev_bind dr (ev_bindc valid (ev_const rfl)))
end Go.Proofs.Ytlmfpdlekelooaa.Pure
