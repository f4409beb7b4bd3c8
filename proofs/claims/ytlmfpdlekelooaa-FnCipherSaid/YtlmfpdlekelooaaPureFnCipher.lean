/- The pure statement of FnCipher: what the printed functions compute answers true for all arguments within the printed bounds. -/
import Derived.Test.YtlmfpdlekelooaaPFnCipherx3
import Derived.Test.YtlmfpdlekelooaaKit
namespace Go.Proofs.Ytlmfpdlekelooaa.Pure
open Go.RowKit Go.Proofs.Ytlmfpdlekelooaa.PFnCipher Go.Proofs.YtlmfpdlekelooaaW.PrintWords Go.Proofs.YtlmfpdlekelooaaW.PrintLast Go.Proofs.Ytlmfpdlekelooaa.Kit
set_option linter.unusedVariables false
set_option linter.unusedSimpArgs false
namespace OfFnCipher
theorem l1New_ok (b : List Int) (hb : b.length ≤ 1000000000000000000) : ∃ h, Ev (fun k => spec_l1New.f k b) (b, 0, h) := by
  have key : ∀ (m i : Nat) (h : Int), i + m = b.length → ∃ h', Ev (fun k => spec_l1New.l0 k b h (i : Int)) (b, 0, h') := by
    intro m
    induction m with
    | zero =>
      intro i h hi
      refine ⟨h, ev_step ?_⟩
      simp only [spec_l1New.l0]
      exact ev_neg (by omega) (ev_const rfl)
    | succ m ih =>
      intro i h hi
      by_cases h4 : (i : Int) < 4000
      · obtain ⟨h', e⟩ := ih (i + 1) (Go.bits .and .i64 (wrap64 ((wrap64 ((wrap64 (h * 137)) + (wrap64 (rd b (i : Int))))) + 11)) 1073741823) (by omega)
        refine ⟨h', ev_step ?_⟩
        simp only [spec_l1New.l0]
        rw [w64s (n := b.length) (by omega) (by omega)]
        exact ev_pos (by omega) (ev_pos h4 (ev_pos (by omega) e))
      · refine ⟨h, ev_step ?_⟩
        simp only [spec_l1New.l0]
        exact ev_pos (by omega) (ev_neg h4 (ev_const rfl))
  unfold spec_l1New.f
  exact key b.length 0 _ (by omega)

theorem and255 (x : Int) : 0 ≤ Go.bits .and .i64 x 255 ∧ Go.bits .and .i64 x 255 ≤ 255 := by
  unfold Go.bits
  simp only []
  have h1 : (BitVec.ofInt IntKind.i64.bits x &&& BitVec.ofInt IntKind.i64.bits 255).toNat ≤ 255 := by
    rw [BitVec.toNat_and]
    exact Nat.le_trans Nat.and_le_right (by decide)
  generalize (BitVec.ofInt IntKind.i64.bits x &&& BitVec.ofInt IntKind.i64.bits 255).toNat = n at h1
  rw [IntKind.wrap_i64]
  omega

/-- The drawing of bytes and of what is made of them: each draw ends, and its values lie where they should. The reader's place i never is below 0. -/
theorem l1Byte_ok (b : List Int) (i h : Int) (hb : b.length ≤ 1000000000000000000) (hi : 0 ≤ i) : ∃ x i' h', spec_l1Byte.f b i h = some (x, i', h') ∧ 0 ≤ x ∧ x ≤ 255 ∧ 0 ≤ i' := by
  unfold spec_l1Byte.f
  by_cases h1 : i < (b.length : Int)
  · rw [if_pos h1, if_pos hi]
    exact ⟨_, _, _, rfl, (and255 _).1, (and255 _).2, by rw [w64 (by omega) (by omega)]; omega⟩
  · rw [if_neg h1]
    exact ⟨_, _, _, rfl, (and255 _).1, (and255 _).2, hi⟩
theorem l1Below_ok (b : List Int) (i h n : Int) (hb : b.length ≤ 1000000000000000000) (hi : 0 ≤ i) : ∃ x i' h', spec_l1Below.f b i h n = some (x, i', h') ∧ 0 ≤ x ∧ (0 < n → x < n) ∧ (n ≤ 0 → x = 0) ∧ 0 ≤ i' := by
  unfold spec_l1Below.f
  by_cases h1 : n ≤ 0
  · rw [if_pos h1]
    exact ⟨_, _, _, rfl, by omega, by omega, by omega, hi⟩
  · rw [if_neg h1]
    obtain ⟨x1, i1, h1', e1, a1, b1, c1⟩ := l1Byte_ok b i h hb hi
    by_cases h2 : n ≤ 256
    · rw [if_pos h2, e1, Option.bind_some, if_neg (by omega)]
      exact ⟨_, _, _, rfl, Int.tmod_nonneg _ a1, fun _ => Int.tmod_lt_of_pos _ (by omega), by omega, c1⟩
    · obtain ⟨x2, i2, h2', e2, a2, b2, c2⟩ := l1Byte_ok b i1 h1' hb c1
      obtain ⟨x3, i3, h3', e3, a3, b3, c3⟩ := l1Byte_ok b i2 h2' hb c2
      rw [if_neg h2, e1, Option.bind_some, e2, Option.bind_some, e3, Option.bind_some, if_neg (by omega)]
      refine ⟨_, _, _, rfl, ?_, fun _ => Int.tmod_lt_of_pos _ (by omega), by omega, c3⟩
      simp only []
      rw [w64 (i := x1 * 65536) (by omega) (by omega), w64 (i := x2 * 256) (by omega) (by omega), w64 (i := x1 * 65536 + x2 * 256) (by omega) (by omega), w64 (i := x1 * 65536 + x2 * 256 + x3) (by omega) (by omega)]
      exact Int.tmod_nonneg _ (by omega)

theorem l1Int_ok (b : List Int) (i h : Int) (l : List Int) (hb : b.length ≤ 1000000000000000000) (hi : 0 ≤ i) (hl : 0 < l.length) : ∃ x i' h', spec_l1Int.f b i h l = some (x, i', h') ∧ x ∈ l ∧ 0 ≤ i' := by
  obtain ⟨x, i1, h1, e, p, q, _, c⟩ := l1Below_ok b i h (l.length : Int) hb hi
  have q' := q (by omega)
  unfold spec_l1Int.f
  rw [e, Option.bind_some, if_pos p, if_pos q']
  refine ⟨_, _, _, rfl, ?_, c⟩
  obtain ⟨m, rfl⟩ := Int.eq_ofNat_of_zero_le p
  rw [rd_at l m (by omega)]
  exact List.getElem_mem _

theorem l1Once_ok (b : List Int) (i h n : Int) (hb : b.length ≤ 1000000000000000000) (hi : 0 ≤ i) : ∃ (x : Bool) (i' h' : Int), spec_l1Once.f b i h n = some (x, i', h') ∧ 0 ≤ i' := by
  obtain ⟨x, i1, h1, e, _, _, _, c⟩ := l1Below_ok b i h n hb hi
  unfold spec_l1Once.f
  rw [e, Option.bind_some]
  exact ⟨_, _, _, rfl, c⟩

theorem l3Word_ok (b : List Int) (i h : Int) (hb : b.length ≤ 1000000000000000000) (hi : 0 ≤ i) : ∃ x i' h', spec_l3Word.f b i h = some (x, i', h') ∧ -9223372036854775808 ≤ x ∧ x ≤ 9223372036854775807 ∧ 0 ≤ i' := by
  unfold spec_l3Word.f
  obtain ⟨q, i1, h1, e1, c1⟩ := l1Once_ok b i h 10 hb hi
  rw [e1, Option.bind_some]
  simp only []
  cases q with
  | true =>
    obtain ⟨y, i2, h2, e2, p2, c2⟩ := l1Int_ok b i1 h1 [(-1), 2147483647, 2147483648] hb c1 (by simp)
    rw [if_pos rfl, e2, Option.bind_some]
    simp at p2
    exact ⟨_, _, _, rfl, by simp only []; omega, by simp only []; omega, c2⟩
  | false =>
    obtain ⟨q2, i2, h2, e2, c2⟩ := l1Once_ok b i1 h1 4 hb c1
    rw [if_neg (by simp), e2, Option.bind_some]
    simp only []
    cases q2 with
    | true =>
      obtain ⟨y, i3, h3, e3, p3, c3⟩ := l1Int_ok b i2 h2 [0, 1, 2147483646] hb c2 (by simp)
      rw [if_pos rfl, e3, Option.bind_some]
      simp at p3
      exact ⟨_, _, _, rfl, by simp only []; omega, by simp only []; omega, c3⟩
    | false =>
      obtain ⟨y, i3, h3, e3, p3, q3, _, c3⟩ := l1Below_ok b i2 h2 1000000 hb c2
      obtain ⟨z, i4, h4, e4, p4, q4, _, c4⟩ := l1Below_ok b i3 h3 2000 hb c3
      rw [if_neg (by simp), e3, Option.bind_some, e4, Option.bind_some]
      have hm : y * z ≤ 999999 * 1999 := Int.mul_le_mul (by omega) (by omega) p4 (by omega)
      have hm0 : 0 ≤ y * z := Int.mul_nonneg p3 p4
      exact ⟨_, _, _, rfl, by simp only []; rw [w64 (i := y * z) (by omega) (by omega)]; omega, by simp only []; rw [w64 (i := y * z) (by omega) (by omega)]; omega, c4⟩

theorem l1Bytes_ok (b : List Int) (i h n : Int) (hb : b.length ≤ 1000000000000000000) (hi : 0 ≤ i) (hn : n ≤ 1000000) : ∃ r i' h', Ev (fun k => spec_l1Bytes.f k b i h n) (r, i', h') ∧ (r.length : Int) ≤ 1000000 ∧ (0 ≤ n → (r.length : Int) = n) ∧ (∀ v ∈ r, 0 ≤ v ∧ v ≤ 255) ∧ 0 ≤ i' := by
  have key : ∀ (m : Nat) (j : Nat) (out : List Int) (i h : Int), 0 ≤ i → (j : Int) + m = (if 0 ≤ n then n else 0) → out.length = j → (∀ v ∈ out, 0 ≤ v ∧ v ≤ 255) →
      ∃ r i' h', Ev (fun k => spec_l1Bytes.l0 k n out (j : Int) b i h) (r, i', h') ∧ (r.length : Int) = (if 0 ≤ n then n else 0) ∧ (∀ v ∈ r, 0 ≤ v ∧ v ≤ 255) ∧ 0 ≤ i' := by
    intro m
    induction m with
    | zero =>
      intro j out i h hi hj ho hw
      refine ⟨out, i, h, ev_step ?_, by omega, hw, hi⟩
      simp only [spec_l1Bytes.l0]
      exact ev_neg (by split at hj <;> omega) (ev_const rfl)
    | succ m ih =>
      intro j out i h hi hj ho hw
      obtain ⟨x, i1, h1, e, p, q, c⟩ := l1Byte_ok b i h hb hi
      have hw2 : ∀ v ∈ out ++ [x % 256], 0 ≤ v ∧ v ≤ 255 := by
        intro v hv
        rcases List.mem_append.1 hv with z | z
        · exact hw v z
        · simp at z; omega
      obtain ⟨r, i', h', e2, hl, hw3, c2⟩ := ih (j + 1) (out ++ [x % 256]) i1 h1 c (by omega) (by simp [ho]) hw2
      refine ⟨r, i', h', ev_step ?_, hl, hw3, c2⟩
      simp only [spec_l1Bytes.l0]
      have hlt : (j : Int) < n := by split at hj <;> omega
      refine ev_pos hlt (ev_bindc e (ev_pos (by omega) ?_))
      rw [show wrap64 ((j : Int) + 1) = ((j + 1 : Nat) : Int) from by rw [w64 (by omega) (by omega)]; omega]
      exact e2
  unfold spec_l1Bytes.f
  obtain ⟨r, i', h', e, hl, hw, c⟩ := key (if 0 ≤ n then n else 0).toNat 0 [] i h hi (by split <;> omega) rfl (by simp)
  exact ⟨r, i', h', e, by split at hl <;> omega, fun z => by rw [if_pos z] at hl; exact hl, hw, c⟩

theorem InRange_v (a b c : Int) : impl_InRange.f a b c = some (decide (b ≤ a ∧ a ≤ c)) := by
  unfold impl_InRange.f
  by_cases h : b ≤ a <;> simp [h]


theorem iMod_v (a b : Int) : impl_Mod.f a b = some (if 1 ≤ b ∧ b ≤ 1000000000000 then a % b else 0) := by
  unfold impl_Mod.f
  rw [InRange_v]
  by_cases h2 : 1 ≤ b ∧ b ≤ 1000000000000
  · have hb : ¬ b = 0 := by omega
    have h3 := Int.lt_tmod_of_pos a (show 0 < b by omega)
    have h4 := Int.tmod_lt_of_pos a (show 0 < b by omega)
    rw [if_pos h2]
    simp only [h2, hb, and_self, decide_true, Option.bind_some, if_true, if_false]
    rw [w64 (i := Int.tmod a b + b) (by omega) (by omega), Int.tmod_eq_emod_of_nonneg (a := Int.tmod a b + b) (by omega)]
    congr 1
    have h5 := Int.tmod_add_tdiv_mul a b
    rw [Int.add_emod_right]
    conv => rhs; rw [← h5]
    rw [Int.add_mul_emod_self_right]
  · rw [if_neg h2]
    simp [h2]

/-- One round of the hash. -/
def hstep (d v : Int) : Int := (d * 1000003 + v % 2147483647 + 13) % 2147483647
def hashL (l : List Int) : Int := l.foldl hstep 11
theorem hstep_bd (d v : Int) : 0 ≤ hstep d v ∧ hstep d v < 2147483647 := by unfold hstep; omega
theorem hfold_bd (l : List Int) : ∀ d : Int, 0 ≤ d → d < 2147483647 → 0 ≤ l.foldl hstep d ∧ l.foldl hstep d < 2147483647 := by
  induction l with
  | nil => intro d h0 h1; exact ⟨h0, h1⟩
  | cons a l ih => intro d _ _; exact ih _ (hstep_bd d a).1 (hstep_bd d a).2
theorem hashL_bd (l : List Int) : 0 ≤ hashL l ∧ hashL l < 2147483647 := hfold_bd l 11 (by omega) (by omega)
theorem hround (d v : Int) (h0 : 0 ≤ d) (h1 : d < 2147483647) : Int.tmod (wrap64 ((wrap64 ((wrap64 (d * 1000003)) + v % 2147483647)) + 13)) 2147483647 = hstep d v := by
  have hv0 : 0 ≤ v % 2147483647 := by omega
  have hv1 : v % 2147483647 < 2147483647 := by omega
  rw [w64 (i := d * 1000003) (by omega) (by omega), w64 (i := d * 1000003 + v % 2147483647) (by omega) (by omega), w64 (i := d * 1000003 + v % 2147483647 + 13) (by omega) (by omega), Int.tmod_eq_emod_of_nonneg (by omega)]
  rfl
theorem iMod_at (v : Int) : impl_Mod.f v 2147483647 = some (v % 2147483647) := by
  rw [iMod_v, if_pos (by omega)]
theorem Hash_il (x : List Int) (hx : x.length ≤ 9223372036854775806) : ∀ (m i : Nat) (d : Int), i + m = x.length → 0 ≤ d → d < 2147483647 → Ev (fun k => impl_Hash.l0 k d x (x.length : Int) (i : Int)) ((x.drop i).foldl hstep d) := by
  intro m
  induction m with
  | zero =>
    intro i d hi _ _
    refine ev_step ?_
    simp only [impl_Hash.l0]
    rw [List.drop_of_length_le (by omega)]
    exact ev_neg (by omega) (ev_const rfl)
  | succ m ih =>
    intro i d hi h0 h1
    have hlt : i < x.length := by omega
    refine ev_step ?_
    simp only [impl_Hash.l0]
    refine ev_pos (by omega) (ev_pos (by omega) (ev_pos (by omega) (ev_bindc (iMod_at _) ?_)))
    rw [hround _ _ h0 h1, w64s (n := x.length) hlt (by omega), rd_at x i hlt, List.drop_eq_getElem_cons hlt]
    exact ih (i + 1) _ (by omega) (hstep_bd _ _).1 (hstep_bd _ _).2
theorem Hash_iev (x : List Int) (hx : x.length ≤ 9223372036854775806) : Ev (fun k => impl_Hash.f k x) (hashL x) := by
  unfold impl_Hash.f
  exact Hash_il x hx x.length 0 11 (by omega) (by omega) (by omega)

def khL (a : Int) (l : List Int) : Int := hashL (a :: (l ++ [a]))
theorem khL_bd (a : Int) (l : List Int) : 0 ≤ khL a l ∧ khL a l < 2147483647 := hashL_bd _
theorem KH_iev (a : Int) (l : List Int) (hl : l.length ≤ 10000000000000) : Ev (fun k => impl_KeyedHash.f k a l) (khL a l) := by
  unfold impl_KeyedHash.f
  exact ev_pos (by omega) (Hash_iev _ (by simp; omega))

/-- The bytes b, each with s times its key's hash added. -/
def shL (s key : Int) (b : List Int) : List Int := (List.range b.length).map fun i : Nat => (rd b (i : Int) + s * khL key [(i : Int)]) % 256
theorem shL_length (s key : Int) (b : List Int) : (shL s key b).length = b.length := by simp [shL]
theorem shL_get (s key : Int) (b : List Int) (i : Nat) (h : i < (shL s key b).length) (h' : i < b.length) : (shL s key b)[i] = (b[i] + s * khL key [(i : Int)]) % 256 := by
  simp only [shL, List.getElem_map, List.getElem_range]
  rw [rd_at b i h']
theorem shL_bd (s key : Int) (b : List Int) : ∀ v ∈ shL s key b, 0 ≤ v ∧ v ≤ 255 := by
  intro v hv
  simp only [shL, List.mem_map] at hv
  obtain ⟨i, _, rfl⟩ := hv
  omega
/-- Two shifts that undo each other. -/
theorem shL_back (s t key : Int) (b : List Int) (hst : s = 1 ∧ t = -1 ∨ s = -1 ∧ t = 1) (hw : ∀ v ∈ b, 0 ≤ v ∧ v ≤ 255) : shL t key (shL s key b) = b := by
  apply List.ext_getElem
  · rw [shL_length, shL_length]
  · intro i h1 h2
    rw [shL_get _ _ _ i h1 (by rw [shL_length]; exact h2), shL_get _ _ _ i _ h2]
    have hb := hw b[i] (List.getElem_mem h2)
    generalize khL key [(i : Int)] = z
    rcases hst with ⟨rfl, rfl⟩ | ⟨rfl, rfl⟩ <;> omega
theorem shifted_l (key s : Int) (hs : s = 1 ∨ s = -1) (b : List Int) (hl : b.length ≤ 100000000000000) : ∀ (m i : Nat), i + m = b.length →
    Ev (fun k => impl_shifted.l0 k key s ((shL s key b).take i ++ b.drop i) (b.length : Int) (i : Int)) (shL s key b) := by
  have hsl := shL_length s key b
  intro m
  induction m with
  | zero =>
    intro i hi
    refine ev_step ?_
    simp only [impl_shifted.l0]
    rw [List.drop_of_length_le (by omega), List.take_of_length_le (by omega), List.append_nil]
    exact ev_neg (by omega) (ev_const rfl)
  | succ m ih =>
    intro i hi
    have hlt : i < b.length := by omega
    have hlt2 : i < (shL s key b).length := by omega
    have htl : ((shL s key b).take i).length = i := by rw [List.length_take]; omega
    refine ev_step ?_
    simp only [impl_shifted.l0]
    refine ev_pos (by omega) (ev_pos (by omega) (ev_pos (by simp; omega) (ev_bind (KH_iev key _ (by simp)) ?_)))
    have hk := khL_bd key [(i : Int)]
    have hrd : rd ((shL s key b).take i ++ b.drop i) (i : Int) = b[i] := by
      rw [rd_at _ i (by simp; omega), List.getElem_append_right (by omega)]
      simp [htl]
    have hval : ((rd ((shL s key b).take i ++ b.drop i) (i : Int)) + ((wrap64 (s * khL key [(i : Int)])) % 256)) % 256 = (shL s key b)[i] := by
      rw [hrd, shL_get s key b i hlt2 hlt]
      rcases hs with rfl | rfl
      · rw [w64 (by omega) (by omega)]; omega
      · rw [w64 (by omega) (by omega)]; omega
    rw [hval, w64s (n := b.length) hlt (by omega)]
    have hset : ((shL s key b).take i ++ b.drop i).set (i : Int).toNat (shL s key b)[i] = (shL s key b).take (i + 1) ++ b.drop (i + 1) := by
      rw [Int.toNat_natCast, List.set_append_right _ _ (by omega), htl, Nat.sub_self, List.drop_eq_getElem_cons hlt, List.set_cons_zero, List.take_succ_eq_append_getElem hlt2, List.append_assoc]
      rfl
    rw [hset]
    exact ih (i + 1) (by omega)
theorem shifted_ev (key s : Int) (hs : s = 1 ∨ s = -1) (b : List Int) (hl : b.length ≤ 100000000000000) : Ev (fun k => impl_shifted.f k key b s) (shL s key b) := by
  unfold impl_shifted.f
  refine ev_bindc (show impl_cloned.f b = some b from if_pos (by omega)) ?_
  have h := shifted_l key s hs b hl b.length 0 (by omega)
  simpa using h

theorem Enc_iev (key : Int) (b : List Int) (hl : b.length ≤ 100000000000000) : Ev (fun k => impl_Encrypt.f k key b) (shL 1 key b) := by
  unfold impl_Encrypt.f
  exact ev_bind (shifted_ev key 1 (Or.inl rfl) b hl) (ev_const rfl)

theorem Dec_iev (key : Int) (b : List Int) (hl : b.length ≤ 100000000000000) : Ev (fun k => impl_Decrypt.f k key b) (shL (-1) key b) := by
  unfold impl_Decrypt.f
  exact ev_bind (shifted_ev key (-1) (Or.inr rfl) b hl) (ev_const rfl)

theorem sameBytes_ev (x y : List Int) (hx : x.length ≤ 9223372036854775806) (b : Bool) (hb : b = true ↔ x = y) : Ev (fun k => laws_sameBytes.f k x y) b := by
  unfold laws_sameBytes.f
  refine ev_dec (fun h => ?_) (fun h => ?_)
  · exact eq_loop (L := laws_sameBytes.l0) (c := fun x y i => rd x i = rd y i) (fun _ _ _ _ => rfl) (fun x y i h h' => by rw [rd_at x i h, rd_at y i h']) x y hx (by omega) b x.length 0 (by omega) (by simpa using hb)
  · have e : b = false := by
      rw [Bool.eq_false_iff]
      intro z
      exact h (by rw [hb.mp z])
    subst e
    exact ev_const rfl
theorem sameBytes_refl (x : List Int) (hx : x.length ≤ 9223372036854775806) : Ev (fun k => laws_sameBytes.f k x x) true := sameBytes_ev x x hx true (by simp)
end OfFnCipher
open OfFnCipher in
theorem FnCipher : laws_FnCipher.Pure := by
  intro l _ hb _
  apply Ev.rounds
  unfold laws_FnCipher.f laws_big.f
  refine ev_bindc rfl (ev_dec (fun _ => ev_const rfl) (fun h0 => ?_))
  have hl : l.length ≤ 1000000000000000000 := by omega
  obtain ⟨h1, e1⟩ := l1New_ok l hl
  obtain ⟨key, i2, h2, e2, _, _, c2⟩ := l3Word_ok l 0 h1 hl (by omega)
  obtain ⟨n, i3, h3, e3, p3, q3, _, c3⟩ := l1Below_ok l i2 h2 8 hl c2
  obtain ⟨b, i4, h4, e4, p4, _, w4, c4⟩ := l1Bytes_ok l i3 h3 n hl c3 (by omega)
  have d : Ev (fun k => spec_DrawEncrypt.f k l) (key, b) := by
    unfold spec_DrawEncrypt.f
    exact ev_bind e1 (ev_bindc e2 (ev_bindc e3 (ev_bind e4 (ev_const rfl))))
  have en := Enc_iev key b (by omega)
  have de := Dec_iev key b (by omega)
  have den := Dec_iev key (shL 1 key b) (by rw [shL_length]; omega)
  have ende := Enc_iev key (shL (-1) key b) (by rw [shL_length]; omega)
  rw [shL_back 1 (-1) key b (Or.inl ⟨rfl, rfl⟩) w4] at den
  rw [shL_back (-1) 1 key b (Or.inr ⟨rfl, rfl⟩) w4] at ende
  have q := sameBytes_refl b (by omega)
  refine ev_bind d (ev_bind en (ev_bind den (ev_bind q (ev_pos rfl ?_))))
  refine ev_bind de (ev_bind ende (ev_bind q (ev_pos rfl ?_)))
  refine ev_bind en (ev_const ?_)
  rw [shL_length]
  simp
end Go.Proofs.Ytlmfpdlekelooaa.Pure
