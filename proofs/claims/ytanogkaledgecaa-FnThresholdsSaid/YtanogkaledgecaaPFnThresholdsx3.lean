/- The machine's side of a law: what its Go functions compute, as Lean functions, and the walks that show it; laid by this session's program (wip/tools) out of the translation. Conditions: those of each theorem. -/
import Derived.Test.YtanogkaledgecaaPFnThresholdsx0
import Derived.Test.YtanogkaledgecaaPFnThresholdsx2
namespace Go.Proofs.Ytanogkaledgecaa.PFnThresholds
open Go.RowKit Go.Proofs.YtanogkaledgecaaW.PrintWords Go.Proofs.YtanogkaledgecaaW.PrintLast Go.Proofs.YtanogkaledgecaaW.PrintMore
attribute [local go_sem] max2_int min2_int max_two min_two max_three min_three max_four min_four   -- for this text's walks alone
set_option linter.unusedVariables false
set_option linter.unusedSimpArgs false

/-! ### impl_KeyedHash: function 62 -/
theorem impl_KeyedHash.info : (Try.prog.info? 3).map (fun i => (i.zero, i.size, i.bytes)) = some (some (.int .i64 0), 1, 8) := by kernel_rfl
set_option maxHeartbeats 8000000 in
set_option maxRecDepth 100000 in
/-- slices.Grow of nil: a row of the call's own that holds nothing. -/
theorem impl_KeyedHash.grow (n : Nat) (w : World) (h0 : 0 < n) (hn : n ≤ 17592186044416) :
    Calls Try.prog 91 #[.slice none 0 0, .int .i64 (n : Int)] w fun e w' => ∃ v0_ : Value, e = .returned (v0_) ∧ Kd.R (Kd.int .i64) 3 w' w.heap.size (fun _ => True) v0_ [] ∧ Below w.heap.size w w' := by
  obtain ⟨i0, hi, hz0, hz1, hz2⟩ := info_parts impl_KeyedHash.info
  have HI := za1 hi
  clear hi hz0 hz1 hz2
  have hcut0 := cut_to (P := Try.prog) 22 3 .i64 Try.underlying22 HI.out none 0 0 0 (by omega) (by omega) (by omega)
  go_enter Try.func91, Try.ntmps91
  go_wp2_with (at_builtin; go_loud (refine Kd.R_append_zeros (Kd.int .i64) (w0 := w) w.heap.size rfl _ _ 22 3 3 (.int .i64 0) 8 rfl Try.underlying22 Try.underlying3 impl_KeyedHash.info rfl (by decide) (by decide) _ [] (0 : Int) (n : Int) (fun _ => True) rfl rfl rfl (fun _ _ => trivial) (Kd.R_nil _ _ _ _ _) (by omega) (Below.refl _ _) (Nat.le_refl _) (by simp; omega) ?_); go_loud (intro v1 w1 hR hB hg ha; have hlen : ([] ++ List.replicate (n : Int).toNat (0 : Int)).length = n := (by simp); have HB1 := za1 hB; obtain ⟨g, cap, rfl, hgb, hgl, hG⟩ := Kd.R_form hR (by omega); have hcl := (za10 hR).2.1; have HR1 := za1 hR; have hcut1 := cut_to (P := Try.prog) 22 3 .i64 Try.underlying22 HI.out (some ⟨g, 0, none⟩) _ cap 0 (by omega) (by omega) hcl; rw [hlen] at hcut1; clear hR hB hg ha hlen hgb hgl hcl hG))
  go_ret
  exact ⟨_, rfl, Kd.R_take HR1.out (m := 0) (by omega), HB1.out⟩
/-- The numbers of the first j rows of a list of rows. -/
def impl_KeyedHash.cat (L : List (Option Addr × Nat × List Int)) (j : Nat) : List Int := ((L.take j).map (·.2.2)).flatten
theorem impl_KeyedHash.cat_succ (L : List (Option Addr × Nat × List Int)) (j : Nat) (p : Option Addr × Nat × List Int) (h : L[j]? = some p) : impl_KeyedHash.cat L (j + 1) = impl_KeyedHash.cat L j ++ p.2.2 := by
  obtain ⟨hl, rfl⟩ := List.getElem?_eq_some_iff.1 h
  unfold impl_KeyedHash.cat
  rw [List.take_succ_eq_append_getElem hl, List.map_append, List.flatten_append]
  simp only [za26, za27, List.flatten_cons, List.flatten_nil, List.append_nil]
theorem impl_KeyedHash.cat_le (L : List (Option Addr × Nat × List Int)) (j : Nat) : (impl_KeyedHash.cat L j).length ≤ (impl_KeyedHash.cat L L.length).length := by
  unfold impl_KeyedHash.cat
  rw [List.take_length]
  have h := congrArg (fun l => ((l.map (·.2.2)).flatten).length) (List.take_append_drop j L)
  simp only [List.map_append, List.flatten_append, List.length_append] at h
  omega
set_option maxHeartbeats 8000000 in
set_option maxRecDepth 100000 in
/-- slices.Concat of rows that are read: a row of the call's own. -/
theorem impl_KeyedHash.concat (L : List (Option Addr × Nat × List Int)) (ad : Addr) (c : Nat) (w : World) (hm : L.length ≤ 1000) (hcell : ∀ (j : Nat) (p : Option Addr × Nat × List Int), L[j]? = some p → w.cell? (ad.add j) = some (.slice p.1 p.2.2.length p.2.1))
    (hread : ∀ (j : Nat) (p : Option Addr × Nat × List Int), L[j]? = some p → Kd.C (Kd.int .i64) w p.1 p.2.2.length p.2.2) (h0 : 0 < (impl_KeyedHash.cat L L.length).length) (hn : (impl_KeyedHash.cat L L.length).length ≤ 17592186044416) :
    Calls Try.prog 76 #[.slice (some ad) L.length c] w fun e w' => ∃ v0_ : Value, e = .returned (v0_) ∧ Kd.R (Kd.int .i64) 3 w' w.heap.size (fun _ => True) v0_ (impl_KeyedHash.cat L L.length) ∧ Below w.heap.size w w' := by
  have HCELL := za1 hcell
  have HREAD := za1 hread
  have HLE := za1 (impl_KeyedHash.cat_le L)
  clear hcell hread
  go_enter Try.func76, Try.ntmps76
  go_wp2
  go_loop [3, 11] (fun s i => ∃ j : Nat, j ≤ L.length ∧ i = .int .i64 (j : Int) ∧ s = .int .i64 ((impl_KeyedHash.cat L j).length : Int)) (fun _ i => L.length - (intOf i).toNat)
  case atStart => exact ⟨0, Nat.zero_le _, rfl, rfl⟩
  case round =>
    obtain ⟨j, hj, rfl, rfl⟩ := hrel
    by_cases hlt : j < L.length
    · have hc := HCELL.out j _ (List.getElem?_eq_getElem hlt)
      have HS := za1 (impl_KeyedHash.cat_succ L j _ (List.getElem?_eq_getElem hlt))
      have hle := HLE.out (j + 1)
      have hs : (impl_KeyedHash.cat L (j + 1)).length = (impl_KeyedHash.cat L j).length + L[j].2.2.length := by rw [HS.out]; simp
      have hb1 : (impl_KeyedHash.cat L j).length + L[j].2.2.length ≤ 17592186044416 := by omega
      have HS2 := za1 hs
      clear hs
      go_wp2
      go_round
      case rel => exact ⟨j + 1, by omega, by go_num, by rw [HS2.out]; go_num⟩
      case measure => simp [intOf]; omega
    · obtain rfl : j = L.length := by omega
      go_wp2_with (go_at_call 91; refine (impl_KeyedHash.grow _ _ h0 hn).mono ?_; rintro e w1 ⟨v1, rfl, hR, hB⟩; have HR1 := za1 hR; have HB1 := za1 hB; clear hR hB)
      go_loopw [6, 27] (fun v i wr => ∃ j : Nat, j ≤ L.length ∧ i = .int .i64 (j : Int) ∧ Aside0 (Kd.R (Kd.int .i64) 3 wr w.heap.size (fun _ => True) v (impl_KeyedHash.cat L j)) ∧ Aside0 (Below w.heap.size w wr)) (fun _ i _ => L.length - (intOf i).toNat)
      case atStart => exact ⟨0, Nat.zero_le _, rfl, HR1, HB1⟩
      case round =>
        clear HR1 HB1
        obtain ⟨j, hj2, rfl, HR, HB⟩ := hrel
        by_cases hlt2 : j < L.length
        · have hc0 := HCELL.out j _ (List.getElem?_eq_getElem hlt2)
          have hc := (HB.out.cell (World.block_lt_of_cell? w _ hc0)).trans hc0
          have HS := za1 (impl_KeyedHash.cat_succ L j _ (List.getElem?_eq_getElem hlt2))
          have hle := HLE.out (j + 1)
          have HS2 := za1 (show (impl_KeyedHash.cat L (j + 1)).length = (impl_KeyedHash.cat L j).length + L[j].2.2.length from by rw [HS.out]; simp)
          have HBD := za1 (show (impl_KeyedHash.cat L j).length + L[j].2.2.length ≤ 17592186044416 from by have := HS2.out; omega)
          have HRD := za1 (za30 (HREAD.out j _ (List.getElem?_eq_getElem hlt2)) HB.out)
          clear hc0
          go_wp2_with (at_builtin; go_loud (refine Kd.R_append_rows (Kd.int .i64) (w0 := w) w.heap.size rfl _ _ 22 3 (.int .i64 0) 8 rfl Try.underlying22 impl_KeyedHash.info rfl (by decide) (by decide) _ (impl_KeyedHash.cat L j) L[j].2.2 L[j].1 L[j].2.2.length L[j].2.1 (fun _ => True) (fun _ => False) rfl rfl HR.out HRD.out (fun _ _ h => h) (fun _ h => h.elim) (fun _ _ => trivial) HB.out HB.out.size (by have := HBD.out; omega) ?_); intro v2 w2 hR hB hg ha; have HR2 := za1 hR; have HB2 := za1 hB; clear hR hB hg ha)
          go_roundw
          case rel => exact ⟨j + 1, by omega, by go_num, ⟨by rw [HS.out]; exact HR2.out⟩, HB2⟩
          case measure => simp [intOf]; omega
        · obtain rfl : j = L.length := by omega
          go_wp2
          go_ret
          exact ⟨_, rfl, HR.out, HB.out⟩
theorem impl_KeyedHash.single {W : World} {g : Nat} {x : Int} {e : TypeId} (h : W.heap[g]? = some (.cells #[.int .i64 x] e (0, 0))) : Kd.C (Kd.int .i64) W (some ⟨g, 0, none⟩) 1 [x] :=
  Kd.C_of_reads (d := (0 : Int)) ⟨rfl, by decide, fun _ => ⟨_, rfl, fun j hj => by
    obtain rfl : j = 0 := by omega
    rw [add_plain, cell_of_row W g 0 _ e (0, 0) h]
    rfl⟩⟩
/-- The call of slices.Concat with the key, the values and the key. -/
theorem impl_KeyedHash.three (a0 : Int) (A1 : Option Addr) (c1 : Nat) (l1 : List Int) (w W : World) (g : Nat) (hr1 : Kd.C (Kd.int .i64) W A1 l1.length l1) (hl : l1.length + 2 ≤ 17592186044416)
    (e0 : W.heap[g]? = some (.cells #[.int .i64 a0] 3 (0, 0))) (e1 : W.heap[g + 1]? = some (.cells #[.int .i64 a0] 3 (0, 0)))
    (e2 : W.heap[g + 1 + 1]? = some (.cells #[.slice (some ⟨g, 0, none⟩) 1 1, .slice A1 l1.length c1, .slice (some ⟨g + 1, 0, none⟩) 1 1] 22 (0, 0))) :
    Calls Try.prog 76 #[.slice (some ⟨g + 1 + 1, 0, none⟩) 3 3] W fun e w' => ∃ v0_ : Value, e = .returned (v0_) ∧ Kd.R (Kd.int .i64) 3 w' W.heap.size (fun _ => True) v0_ (a0 :: (l1 ++ [a0])) ∧ Below W.heap.size W w' := by
  have hcat : impl_KeyedHash.cat [(some (⟨g, 0, none⟩ : Addr), 1, [a0]), (A1, c1, l1), (some ⟨g + 1, 0, none⟩, 1, [a0])] 3 = a0 :: (l1 ++ [a0]) := by simp [impl_KeyedHash.cat]
  have K := impl_KeyedHash.concat [(some (⟨g, 0, none⟩ : Addr), 1, [a0]), (A1, c1, l1), (some ⟨g + 1, 0, none⟩, 1, [a0])] ⟨g + 1 + 1, 0, none⟩ 3 W (by simp)
    (by
      intro j p hp
      rw [add_plain, cell_of_row _ _ _ _ _ _ e2]
      match j, hp with
      | 0, hp => cases hp; rfl
      | 1, hp => cases hp; rfl
      | 2, hp => cases hp; rfl
      | j + 3, hp => simp at hp)
    (by
      intro j p hp
      match j, hp with
      | 0, hp => cases hp; exact impl_KeyedHash.single e0
      | 1, hp => cases hp; exact hr1
      | 2, hp => cases hp; exact impl_KeyedHash.single e1
      | j + 3, hp => simp at hp)
    (by
      show 0 < (impl_KeyedHash.cat _ 3).length
      rw [hcat]; simp)
    (by
      show (impl_KeyedHash.cat _ 3).length ≤ 17592186044416
      rw [hcat]; simp; omega)
  simp only [List.length_cons, List.length_nil, Nat.zero_add, Nat.reduceAdd] at K
  rw [hcat] at K
  exact K
def impl_KeyedHash.f (k : Nat) (a0 : Int) (l1 : List Int) : Option (Int) := if l1.length + 2 ≤ 17592186044416 then impl_Hash.f k (a0 :: (l1 ++ [a0])) else none
theorem impl_KeyedHash.mono : ∀ a0 a1 k, LeO (impl_KeyedHash.f k a0 a1) (impl_KeyedHash.f (k + 1) a0 a1) := by
  intro a0 a1 k
  unfold impl_KeyedHash.f
  exact za33 (impl_Hash.mono _ _) (za34 _)
set_option maxHeartbeats 8000000 in
set_option maxRecDepth 100000 in
theorem impl_KeyedHash.calls (k : Nat) (a0 : Int) (A1 : Option Addr) (c1 : Nat) (l1 : List Int) (r : Int) (w : World) (hr1 : Kd.C (Kd.int .i64) w A1 l1.length l1) (hc1 : l1.length ≤ c1) (h : impl_KeyedHash.f k a0 l1 = some r) :
  Calls Try.prog 62 #[.int .i64 a0, .slice A1 l1.length c1] w fun e w' => e = .returned (.int .i64 r) ∧ Below w.heap.size w w' := by
 have HR1 := za1 hr1
 have HC1 := za1 hc1
 clear hr1 hc1
 have hl : l1.length + 2 ≤ 17592186044416 ∧ impl_Hash.f k (a0 :: (l1 ++ [a0])) = some r := by
  unfold impl_KeyedHash.f at h
  split at h
  ·exact ⟨‹_›, h⟩
  ·cases h
 clear h
 obtain ⟨hl, h⟩ := hl
 have HL := za1 hl
 obtain ⟨ls, hls⟩ : ∃ ls : List Int, ls = a0 :: (l1 ++ [a0]) := ⟨_, rfl⟩
 rw [← hls] at h
 have H := za1 h
 have HLS := za1 hls
 clear h hl hls
 go_enter Try.func62, Try.ntmps62
 go_wp2_with fail
 have g0 := heap_alloc_new w (.cells #[Value.int IntKind.i64 a0] 3)
 have g1 := heap_alloc_new (w.alloc (.cells #[Value.int IntKind.i64 a0] 3)) (.cells #[Value.int IntKind.i64 a0] 3)
 have g2 := heap_alloc_new ((w.alloc (.cells #[Value.int IntKind.i64 a0] 3)).alloc (.cells #[Value.int IntKind.i64 a0] 3)) (.cells #[Value.slice (some { block := w.heap.size, off := 0 }) 1 1, Value.slice A1 l1.length c1, Value.slice (some { block := w.heap.size + 1, off := 0 }) 1 1] 22)
 have s1 : (w.alloc (.cells #[Value.int IntKind.i64 a0] 3)).heap.size = w.heap.size + 1 := by simp
 have s2 : ((w.alloc (.cells #[Value.int IntKind.i64 a0] 3)).alloc (.cells #[Value.int IntKind.i64 a0] 3)).heap.size = w.heap.size + 1 + 1 := by simp
 rw [s1] at g1
 rw [s2] at g2
 have e1 := (Below.heap_alloc ((w.alloc (.cells #[Value.int IntKind.i64 a0] 3)).alloc (.cells #[Value.int IntKind.i64 a0] 3)) (.cells #[Value.slice (some { block := w.heap.size, off := 0 }) 1 1, Value.slice A1 l1.length c1, Value.slice (some { block := w.heap.size + 1, off := 0 }) 1 1] 22) (w.heap.size + 1) (by omega)).trans g1
 have e0 := (Below.heap_alloc ((w.alloc (.cells #[Value.int IntKind.i64 a0] 3)).alloc (.cells #[Value.int IntKind.i64 a0] 3)) (.cells #[Value.slice (some { block := w.heap.size, off := 0 }) 1 1, Value.slice A1 l1.length c1, Value.slice (some { block := w.heap.size + 1, off := 0 }) 1 1] 22) w.heap.size (by omega)).trans ((Below.heap_alloc (w.alloc (.cells #[Value.int IntKind.i64 a0] 3)) (.cells #[Value.int IntKind.i64 a0] 3) w.heap.size (by omega)).trans g0)
 have hb3 : Below w.heap.size w (((w.alloc (.cells #[Value.int IntKind.i64 a0] 3)).alloc (.cells #[Value.int IntKind.i64 a0] 3)).alloc (.cells #[Value.slice (some { block := w.heap.size, off := 0 }) 1 1, Value.slice A1 l1.length c1, Value.slice (some { block := w.heap.size + 1, off := 0 }) 1 1] 22)) := za14 (za14 (za14 (Below.refl _ _) _) _) _
 have K := impl_KeyedHash.three a0 A1 c1 l1 w _ w.heap.size (za30 HR1.out hb3) HL.out e0 e1 g2
 rw [← HLS.out] at K
 have HB3 := za1 hb3
 clear g0 g1 g2 s1 s2 e0 e1 hb3
 refine K.mono ?_
 clear K
 rintro e w4 ⟨v4, rfl, hR, hB⟩
 obtain ⟨A4, c4, rfl, hl4, hC4⟩ := Kd.R_reads hR
 have HC4 := za1 hC4
 have HL4 := za1 hl4
 have HB4 := za1 (HB3.out.trans (hB.mono HB3.out.size))
 clear hR hB hC4 hl4
 go_wp2_with fail
 refine (impl_Hash.calls k A4 c4 _ r _ HC4.out HL4.out H.out).mono ?_
 rintro e w5 ⟨rfl, hd⟩
 have HB5 := za1 (below_then HB4.out HB4.out.size (hd.below))
 clear hd
 go_wp2
 go_ret
 exact ⟨rfl, HB5.out⟩

/-! ### impl_TagOf: function 31 -/
def impl_TagOf.f (k : Nat) (a0 : Int) (l1 : List Int) : Option (Int) := (some (([223] : List Int) : List Int)).bind fun y216 => (if y216.length + l1.length < 17592186044416 then ((impl_KeyedHash.f k a0 (y216 ++ l1)).bind fun t222 => (some t222)) else (none))
theorem impl_TagOf.mono : ∀ a0 a1 k, LeO (impl_TagOf.f k a0 a1) (impl_TagOf.f (k + 1) a0 a1) := by
  intro a0 a1 k
  unfold impl_TagOf.f
  repeat' first
      | (with_reducible exact impl_KeyedHash.mono _ _ _)
      | (with_reducible exact LeO.refl _)
      | (with_reducible exact za34 _)
      | (with_reducible refine za33 ?_ ?_)
      | (with_reducible refine za32 ?_ (fun _ => ?_))
      | exact impl_KeyedHash.mono _ _ _
      | exact za34 _
      | refine za33 ?_ ?_
      | refine za32 ?_ (fun _ => ?_)
set_option maxHeartbeats 8000000 in
set_option maxRecDepth 100000 in
theorem impl_TagOf.calls (k : Nat) (a0 : Int) (A1 : Option Addr) (c1 : Nat) (l1 : List Int) (r : Int) (w : World) (hr1 : Kd.C (Kd.int .i64) w A1 l1.length l1) (hc1 : l1.length ≤ c1) (h : impl_TagOf.f k a0 l1 = some r) :
  Calls Try.prog 31 #[.int .i64 a0, .slice A1 l1.length c1] w fun e w' => e = .returned (.int .i64 r) ∧ Below w.heap.size w w' := by
 have HR1 := za1 hr1
 have HC1 := za1 hc1
 clear hr1 hc1
 have HB := za1 (Below.refl w.heap.size w)
 have H : ((some (([223] : List Int) : List Int)).bind fun y216 => (if y216.length + l1.length < 17592186044416 then ((impl_KeyedHash.f k a0 (y216 ++ l1)).bind fun t222 => (some t222)) else (none))) = some r := h
 clear h
 obtain ⟨y216, hy216⟩ : ∃ y_ : List Int, y_ = (([223] : List Int)) := ⟨_, rfl⟩
 replace H : (if y216.length + l1.length < 17592186044416 then ((impl_KeyedHash.f k a0 (y216 ++ l1)).bind fun t222 => (some t222)) else (none)) = some r := by first | (rw [hy216]; with_reducible exact H) | (have H2_ := (za36 _ _).symm.trans H; rw [hy216]; with_reducible exact H2_) | (have H2_ := (za36 _ _).symm.trans H; with_reducible exact H2_) | with_reducible exact H | (rw [hy216]; exact H) | exact H
 have Ny216 := za1 hy216
 clear hy216
 by_cases c3 : y216.length + l1.length < 17592186044416
 ·rw [if_pos c3] at H
  have LMc3 := za1 c3
  clear c3
  obtain ⟨y219, hy219⟩ : ∃ y_ : List Int, y_ = (y216 ++ l1) := ⟨_, rfl⟩
  replace H : ((impl_KeyedHash.f k a0 y219).bind fun t222 => (some t222)) = some r := by first | (rw [hy219]; with_reducible exact H) | (have H2_ := (za36 _ _).symm.trans H; rw [hy219]; with_reducible exact H2_) | (have H2_ := (za36 _ _).symm.trans H; with_reducible exact H2_) | with_reducible exact H | (rw [hy219]; exact H) | exact H
  have Ny219 := za1 hy219
  clear hy219
  replace H := za16.mp H
  obtain ⟨t222, A40, H⟩ := H
  replace H : (some t222) = some r := H
  have A4 := za1 A40
  clear A40
  obtain rfl := za37 H
  go_enter Try.func31, Try.ntmps31
  go_wp2_with (first | ((with_reducible refine gate_dst (N := 6) rfl ?_); refine Kd.R_lit (Kd.int .i64) _ 3 ?hg (N := 6) ?hd (xs := ([223] : List Int)) (inner := [.int .i64 223]) (ok := fun _ => True) (okp := fun _ => True) ?hr ?hp (fun _ hk => hk) trivial (Below.refl _ _) (Nat.le_refl _) (by simp) ?_; (case hd => rfl); (case hg => rfl); (case hr => first | (go_simp; done) | (go_simp; rfl)); (case hp => exact (Reps.one (show Kd.M (Kd.int .i64) _ _ _ 223 [.int .i64 223] from rfl) (Reps.none _ _))); intro v217 w5 ho6 hb hg_ hnew_; clear hg_ hnew_; (first | rw [← Ny216.out] at ho6 | (simp only [Int.reduceToNat] at ho6; rw [← Ny216.out] at ho6)); have n0_ := za1 (za31 ho6 (za29 (by repeat (first | (with_reducible first | exact HB.out | apply za14 | apply za7 | apply za9) | exact HB.out)))); have n1_ := za1 (za28 (by repeat (first | (with_reducible first | exact HB.out | apply za14 | apply za7 | apply za9) | exact HB.out)) hb); clear HB; have HO218 := n0_; have HB := n1_; clear n0_ n1_; clear hb ho6) | ((with_reducible refine gate_builtin (b := .append) (xs := #[.tmp 6, .tmp 7]) rfl ?_); at_builtin; refine Kd.R_append_rows (Kd.int .i64) (w0 := w) w.heap.size rfl (.tmp 6) (.tmp 7) 22 3 (.int .i64 0) 8 rfl Try.underlying22 info3 rfl (by decide) (by omega) v217 y216 l1 _ _ _ (fun _ => True) (fun _ => False) rfl rfl ?aO ?aR (fun _ _ h => h) (fun _ h => h.elim) ?aF ?aB ?aS ?aL ?_; (case aR => repeat (first | exact (za30 HR1.out HB.out) | (with_reducible refine za24 ?_ _) | (with_reducible refine za22 ?_ _) | (with_reducible refine za23 ?_))); (case aB => exact (by repeat (first | (with_reducible first | exact HB.out | apply za14 | apply za7 | apply za9) | exact HB.out))); (case aF => exact (fun _ _ => trivial)); (case aO => exact (by (with_reducible repeat (first | apply za5 | apply za4 | apply za6)); exact HO218.out)); (case aS => exact (za29 (by repeat (first | (with_reducible first | exact HB.out | apply za14 | apply za7 | apply za9) | exact HB.out)))); (case aL => have := LMc3.out; omega); intro v220 w7 ho hb hg hat; rw [← Ny219.out] at ho; have n0_ := za1 (hb); have n1_ := za1 (ho); clear HB; clear HO218; have HB := n0_; have HO221 := n1_; clear n0_ n1_; clear ho hb hg hat; obtain ⟨Ao8, co8, eo8⟩ := Kd.R_slice HO221.out; subst eo8) | ((with_reducible refine gate_callee (f := 62) rfl ?_); refine goesL_ (some 9) rfl rfl Try.func62 (by kernel_rfl) rfl #[.int .i64 a0, .slice Ao8 y219.length co8] rfl (by (try simp only [za18, za26, za27]); first | done | rfl | (simp only [za20, za19]; rfl)) ?_; (with_reducible refine (impl_KeyedHash.calls k a0 _ _ y219 t222 _ ?side1 ?side2 A4.out).mono ?_); (case side1 => repeat (first | exact (za10 HO221.out).2.2 | (with_reducible refine za24 ?_ _) | (with_reducible refine za22 ?_ _) | (with_reducible refine za23 ?_))); (case side2 => exact (za10 HO221.out).2.1); rintro e w9 ⟨rfl, hb⟩; refine ⟨_, rfl, ?_⟩; have n0_ := za1 (Kd.R_below (by (with_reducible repeat (first | apply za5 | apply za4 | apply za6)); exact HO221.out) hb); have n1_ := za1 (za28 (by repeat (first | (with_reducible first | exact HB.out | apply za14 | apply za7 | apply za9) | exact HB.out)) hb); clear HO221; clear HB; have HO221 := n0_; have HB := n1_; clear n0_ n1_; (try clear hb); (try clear hb2); (try clear hk); (try clear hi)))
  go_ret
  exact ⟨by first | rfl | (simp [errW_none, errW_some] <;> rfl) | (simp [*, errW_none, errW_some] <;> rfl), by repeat (first | (with_reducible first | exact HB.out | apply za14 | apply za7 | apply za9) | exact HB.out)⟩
 ·rw [if_neg c3] at H
  exact absurd H (by simp)

/-! ### slices_Index_int_int: function 72 -/
def slices_Index_int_int.l0 : Nat → List Int → Int → Int → Int → Option (Int)
  | 0, _, _, _, _ => none
  | k + 1, x0, x1, x7, x8 => if x8 < x7 then (if 0 ≤ x8 then (if x8 < (x0.length : Int) then (if x1 = (rd x0 x8) then (some x8) else (slices_Index_int_int.l0 k x0 x1 x7 (wrap64 (x8 + 1)))) else (none)) else (none)) else (some (-1))
def slices_Index_int_int.f (k : Nat) (l0 : List Int) (a1 : Int) : Option (Int) := slices_Index_int_int.l0 k l0 a1 (l0.length : Int) 0
theorem slices_Index_int_int.mono_l : ∀ k, (∀ y0 y1 y2 y3, LeO (slices_Index_int_int.l0 k y0 y1 y2 y3) (slices_Index_int_int.l0 (k + 1) y0 y1 y2 y3))
  | 0 => fun _ _ _ _ r h => by simp [slices_Index_int_int.l0] at h
  | k + 1 => by
    have ih0 := slices_Index_int_int.mono_l k
    · intro y0 y1 y2 y3
      unfold slices_Index_int_int.l0
      repeat' first
      | (with_reducible exact ih0 _ _ _ _)
      | (with_reducible exact LeO.refl _)
      | (with_reducible exact za34 _)
      | (with_reducible refine za33 ?_ ?_)
      | (with_reducible refine za32 ?_ (fun _ => ?_))
      | exact ih0 _ _ _ _
      | exact za34 _
      | refine za33 ?_ ?_
      | refine za32 ?_ (fun _ => ?_)
theorem slices_Index_int_int.mono : ∀ a0 a1 k, LeO (slices_Index_int_int.f k a0 a1) (slices_Index_int_int.f (k + 1) a0 a1) := by
  intro a0 a1 k
  have ih0 := slices_Index_int_int.mono_l k
  unfold slices_Index_int_int.f
  repeat' first
      | (with_reducible exact ih0 _ _ _ _)
      | (with_reducible exact LeO.refl _)
      | (with_reducible exact za34 _)
      | (with_reducible refine za33 ?_ ?_)
      | (with_reducible refine za32 ?_ (fun _ => ?_))
      | exact ih0 _ _ _ _
      | exact za34 _
      | refine za33 ?_ ?_
      | refine za32 ?_ (fun _ => ?_)
set_option maxHeartbeats 8000000 in
set_option maxRecDepth 100000 in
theorem slices_Index_int_int.calls (k : Nat) (A0 : Option Addr) (c0 : Nat) (l0 : List Int) (a1 : Int) (r : Int) (w : World) (hr0 : Kd.C (Kd.int .i64) w A0 l0.length l0) (hc0 : l0.length ≤ c0) (h : slices_Index_int_int.f k l0 a1 = some r) :
  Calls Try.prog 72 #[.slice A0 l0.length c0, .int .i64 a1] w fun e w' => e = .returned (.int .i64 r) ∧ Drawn0 w w' := by
 have HR0 := za1 hr0
 have HC0 := za1 hc0
 clear hr0 hc0
 have H : (slices_Index_int_int.l0 k l0 a1 (l0.length : Int) 0) = some r := h
 clear h
 have H' := za1 H
 clear H
 go_enter Try.func72, Try.ntmps72
 go_wp2
 go_loopg [8] k (fun kq v8 w' => ∃ (x8_1 : Int), v8 = .int .i64 x8_1 ∧ Aside0 (slices_Index_int_int.l0 kq l0 a1 (l0.length : Int) x8_1 = some r) ∧ Aside0 (kq ≤ k) ∧ Drawn0 w w')
 case atStart => exact ⟨(0), (by first | rfl | (simp; done) | (simp [*]; done)), H', ⟨Nat.le_refl _⟩, by repeat (first | exact Drawn0.refl _ | apply Drawn0.step)⟩
 case round =>
  clear H'
  try clear p2
  obtain ⟨x8_1, rfl, HA, HK1, ⟨m1, rfl⟩⟩ := hrel
  cases gk with
  | zero => exact absurd HA.out (by simp [slices_Index_int_int.l0])
  | succ k1 =>
   have H := HA.out
   clear HA
   simp only [slices_Index_int_int.l0] at H
   by_cases c3 : x8_1 < (l0.length : Int)
   ·rw [if_pos c3] at H
    have c3b0 : decide (x8_1 < (l0.length : Int)) = true := za38 c3
    clear c3
    by_cases c4 : 0 ≤ x8_1
    ·rw [if_pos c4] at H
     have c4b0 : decide (0 ≤ x8_1) = true := za38 c4
     clear c4
     by_cases c5 : x8_1 < (l0.length : Int)
     ·rw [if_pos c5] at H
      have c5b0 : decide (x8_1 < (l0.length : Int)) = true := za38 c5
      clear c5
      by_cases c6 : a1 = (rd l0 x8_1)
      ·rw [if_pos c6] at H
       have c6b0 : (a1 == (rd l0 x8_1)) = true := beq_iff_eq.mpr c6
       have c6b1 : (a1 != (rd l0 x8_1)) = false := bne_eq_false_iff_eq.mpr c6
       clear c6
       obtain rfl := za37 H
       have p223 : 0 ≤ (x8_1 : Int) := za35 (by first | (with_reducible assumption) | assumption)
       have q223 : x8_1 < (l0.length : Int) := za35 (by first | (with_reducible assumption) | assumption)
       obtain ⟨ad223, e223, hx223_0⟩ := Kd.at_int HR0.out x8_1 p223 q223
       cases e223
       replace p223 := eq_true p223
       replace q223 := eq_true q223
       go_wp2
       go_ret
       exact ⟨by first | rfl | (simp; done) | (simp [*]; done), by repeat (first | exact Drawn0.refl _ | apply Drawn0.step)⟩
      ·rw [if_neg c6] at H
       have c6b0 : (a1 == (rd l0 x8_1)) = false := beq_eq_false_iff_ne.mpr c6
       have c6b1 : (a1 != (rd l0 x8_1)) = true := bne_iff_ne.mpr c6
       have H' := za1 H
       clear H
       have p223 : 0 ≤ (x8_1 : Int) := za35 (by first | (with_reducible assumption) | assumption)
       have q223 : x8_1 < (l0.length : Int) := za35 (by first | (with_reducible assumption) | assumption)
       obtain ⟨ad223, e223, hx223_0⟩ := Kd.at_int HR0.out x8_1 p223 q223
       cases e223
       replace p223 := eq_true p223
       replace q223 := eq_true q223
       go_wp2
       go_roundg k1
       case measure => have := HK1.out; omega
       case rel => exact ⟨(wrap64 (x8_1 + 1)), (by first | rfl | (simp; done) | (simp [*]; done)), H', ⟨by have := HK1.out; omega⟩, by repeat (first | exact Drawn0.refl _ | apply Drawn0.step)⟩
     ·rw [if_neg c5] at H
      exact absurd H (by simp)
    ·rw [if_neg c4] at H
     exact absurd H (by simp)
   ·rw [if_neg c3] at H
    have c3b0 : decide (x8_1 < (l0.length : Int)) = false := za39 c3
    clear c3
    obtain rfl := za37 H
    go_wp2
    go_ret
    exact ⟨by first | rfl | (simp; done) | (simp [*]; done), by repeat (first | exact Drawn0.refl _ | apply Drawn0.step)⟩

/-! ### slices_Contains_int_int: function 52 -/
def slices_Contains_int_int.f (k : Nat) (l0 : List Int) (a1 : Int) : Option (Bool) := (slices_Index_int_int.f k l0 a1).bind fun t224 => (some (decide (t224 ≥ 0)))
theorem slices_Contains_int_int.mono : ∀ a0 a1 k, LeO (slices_Contains_int_int.f k a0 a1) (slices_Contains_int_int.f (k + 1) a0 a1) := by
  intro a0 a1 k
  unfold slices_Contains_int_int.f
  repeat' first
      | (with_reducible exact slices_Index_int_int.mono _ _ _)
      | (with_reducible exact LeO.refl _)
      | (with_reducible exact za34 _)
      | (with_reducible refine za33 ?_ ?_)
      | (with_reducible refine za32 ?_ (fun _ => ?_))
      | exact slices_Index_int_int.mono _ _ _
      | exact za34 _
      | refine za33 ?_ ?_
      | refine za32 ?_ (fun _ => ?_)
set_option maxHeartbeats 8000000 in
set_option maxRecDepth 100000 in
theorem slices_Contains_int_int.calls (k : Nat) (A0 : Option Addr) (c0 : Nat) (l0 : List Int) (a1 : Int) (r : Bool) (w : World) (hr0 : Kd.C (Kd.int .i64) w A0 l0.length l0) (hc0 : l0.length ≤ c0) (h : slices_Contains_int_int.f k l0 a1 = some r) :
  Calls Try.prog 52 #[.slice A0 l0.length c0, .int .i64 a1] w fun e w' => e = .returned (.bool r) ∧ Drawn0 w w' := by
 have HR0 := za1 hr0
 have HC0 := za1 hc0
 clear hr0 hc0
 have H : ((slices_Index_int_int.f k l0 a1).bind fun t224 => (some (decide (t224 ≥ 0)))) = some r := h
 clear h
 replace H := za16.mp H
 obtain ⟨t224, A30, H⟩ := H
 replace H : (some (decide (t224 ≥ 0))) = some r := H
 have A3 := za1 A30
 clear A30
 obtain rfl := za37 H
 go_enter Try.func52, Try.ntmps52
 go_wp2_with (first | ((with_reducible refine gate_callee (f := 72) rfl ?_); refine goesL_ (some 7) rfl rfl Try.func72 (by kernel_rfl) rfl #[.slice A0 l0.length c0, .int .i64 a1] rfl (by (try simp only [za18, za26, za27]); first | done | rfl | (simp only [za20, za19]; rfl)) ?_; (with_reducible refine (slices_Index_int_int.calls k _ _ l0 a1 t224 _ ?side1 ?side2 A3.out).mono ?_); (case side1 => repeat (first | exact HR0.out | (with_reducible refine za24 ?_ _) | (with_reducible refine za22 ?_ _) | (with_reducible refine za23 ?_))); (case side2 => exact HC0.out); rintro e w' ⟨rfl, ⟨nd, rfl⟩⟩; refine ⟨_, rfl, ?_⟩))
 go_ret
 exact ⟨by first | rfl | (simp; done) | (simp [*]; done), by repeat (first | exact Drawn0.refl _ | apply Drawn0.step)⟩

/-! ### impl_SignBy: function 18 -/
def impl_SignBy.l0 : Nat → List Int → List Int → List (S46) → List Int → Int → Int → Option ((List (S46)))
  | 0, _, _, _, _, _, _ => none
  | k + 1, x0, x2, x7, x12, x13, x14 => if x14 < x13 then (if 0 ≤ x14 then (if x14 < (x12.length : Int) then ((slices_Contains_int_int.f k x0 (rd x12 x14)).bind fun t230 => (if t230 = true then ((impl_TagOf.f k (rd x12 x14) x2).bind fun t231 => (if x7.length < 8796093022208 then (impl_SignBy.l0 k x0 x2 (x7 ++ [(⟨rd x12 x14, t231⟩ : S46)]) x12 x13 (wrap64 (x14 + 1))) else (none))) else (impl_SignBy.l0 k x0 x2 x7 x12 x13 (wrap64 (x14 + 1))))) else (none)) else (none)) else (some x7)
def impl_SignBy.f (k : Nat) (l0 : List Int) (l1_0 : List Int) (a1_1 : Int) (l2 : List Int) : Option ((List (S46))) := impl_SignBy.l0 k l0 l2 (([] : List (S46))) l1_0 (l1_0.length : Int) 0
theorem impl_SignBy.mono_l : ∀ k, (∀ y0 y1 y2 y3 y4 y5, LeO (impl_SignBy.l0 k y0 y1 y2 y3 y4 y5) (impl_SignBy.l0 (k + 1) y0 y1 y2 y3 y4 y5))
  | 0 => fun _ _ _ _ _ _ r h => by simp [impl_SignBy.l0] at h
  | k + 1 => by
    have ih0 := impl_SignBy.mono_l k
    · intro y0 y1 y2 y3 y4 y5
      unfold impl_SignBy.l0
      repeat' first
      | (with_reducible exact ih0 _ _ _ _ _ _)
      | (with_reducible exact impl_TagOf.mono _ _ _)
      | (with_reducible exact slices_Contains_int_int.mono _ _ _)
      | (with_reducible exact LeO.refl _)
      | (with_reducible exact za34 _)
      | (with_reducible refine za33 ?_ ?_)
      | (with_reducible refine za32 ?_ (fun _ => ?_))
      | exact ih0 _ _ _ _ _ _
      | exact impl_TagOf.mono _ _ _
      | exact slices_Contains_int_int.mono _ _ _
      | exact za34 _
      | refine za33 ?_ ?_
      | refine za32 ?_ (fun _ => ?_)
theorem impl_SignBy.mono : ∀ a0 a1 a2 a3 k, LeO (impl_SignBy.f k a0 a1 a2 a3) (impl_SignBy.f (k + 1) a0 a1 a2 a3) := by
  intro a0 a1 a2 a3 k
  have ih0 := impl_SignBy.mono_l k
  unfold impl_SignBy.f
  repeat' first
      | (with_reducible exact ih0 _ _ _ _ _ _)
      | (with_reducible exact impl_TagOf.mono _ _ _)
      | (with_reducible exact slices_Contains_int_int.mono _ _ _)
      | (with_reducible exact LeO.refl _)
      | (with_reducible exact za34 _)
      | (with_reducible refine za33 ?_ ?_)
      | (with_reducible refine za32 ?_ (fun _ => ?_))
      | exact ih0 _ _ _ _ _ _
      | exact impl_TagOf.mono _ _ _
      | exact slices_Contains_int_int.mono _ _ _
      | exact za34 _
      | refine za33 ?_ ?_
      | refine za32 ?_ (fun _ => ?_)
set_option maxHeartbeats 8000000 in
set_option maxRecDepth 100000 in
theorem impl_SignBy.calls (k : Nat) (A0 : Option Addr) (c0 : Nat) (l0 : List Int) (A1_0 : Option Addr) (c1_0 : Nat) (l1_0 : List Int) (a1_1 : Int) (A2 : Option Addr) (c2 : Nat) (l2 : List Int) (r : List (S46)) (w : World) (hr0 : Kd.C (Kd.int .i64) w A0 l0.length l0) (hc0 : l0.length ≤ c0) (hr1_0 : Kd.C (Kd.int .i64) w A1_0 l1_0.length l1_0) (hc1_0 : l1_0.length ≤ c1_0) (hr2 : Kd.C (Kd.int .i64) w A2 l2.length l2) (hc2 : l2.length ≤ c2) (h : impl_SignBy.f k l0 l1_0 a1_1 l2 = some r) :
  Calls Try.prog 18 #[.slice A0 l0.length c0, .agg #[.slice A1_0 l1_0.length c1_0, .int .i64 a1_1], .slice A2 l2.length c2] w fun e w' => ∃ v0_ : Value, e = .returned (v0_) ∧ Kd.R k46 46 w' w.heap.size (fun _ => True) v0_ r ∧ Below w.heap.size w w' := by
 have hu37 := Try.underlying37
 have hu46 := Try.underlying46
 have HR0 := za1 hr0
 have HC0 := za1 hc0
 clear hr0 hc0
 have HR1_0 := za1 hr1_0
 have HC1_0 := za1 hc1_0
 clear hr1_0 hc1_0
 have HR2 := za1 hr2
 have HC2 := za1 hc2
 clear hr2 hc2
 have HB := za1 (Below.refl w.heap.size w)
 have H : (impl_SignBy.l0 k l0 l2 (([] : List (S46))) l1_0 (l1_0.length : Int) 0) = some r := h
 clear h
 obtain ⟨y226, hy226⟩ : ∃ y_ : List (S46), y_ = (([] : List (S46))) := ⟨_, rfl⟩
 replace H : (impl_SignBy.l0 k l0 l2 y226 l1_0 (l1_0.length : Int) 0) = some r := by first | (rw [hy226]; with_reducible exact H) | (have H2_ := (za36 _ _).symm.trans H; rw [hy226]; with_reducible exact H2_) | (have H2_ := (za36 _ _).symm.trans H; with_reducible exact H2_) | with_reducible exact H | (rw [hy226]; exact H) | exact H
 have Ny226 := za1 hy226
 clear hy226
 have H' := za1 H
 clear H
 go_enter Try.func18, Try.ntmps18
 go_wp2_with (first | ((with_reducible refine gate_dst (N := 4) rfl ?_); refine box_event ?hg (N := 4) ?hd (cs := #[.slice A1_0 l1_0.length c1_0, .int .i64 a1_1]) (t := 37) ?hr ?_; (case hd => rfl); (case hg => rfl); (case hr => first | (go_simp; done) | (go_simp; rfl)); intro gb225 hg w4 hbox hb; have n0_ := za1 (za28 (by repeat (first | (with_reducible first | exact HB.out | apply za14 | apply za7 | apply za9) | exact HB.out)) hb); have n1_ := za1 (hbox); have n2_ := za1 ((by rw [hg]; exact (za29 (by repeat (first | (with_reducible first | exact HB.out | apply za14 | apply za7 | apply za9) | exact HB.out))) : w.heap.size ≤ gb225)); have n3_ := za1 ((by rw [hg]; exact (za29 (by repeat (first | (with_reducible first | exact HB.out | apply za14 | apply za7 | apply za9) | exact HB.out))) : w.heap.size ≤ gb225)); clear HB; have HB := n0_; have BK225 := n1_; have GW225 := n2_; have GE225 := n3_; clear n0_ n1_ n2_ n3_; clear hb hbox hg) | ((with_reducible refine gate_dst (N := 10) rfl ?_); refine Kd.R_lit k46 _ 46 ?hg (N := 10) ?hd (xs := ([] : List (S46))) (inner := []) (ok := fun _ => True) (okp := fun _ => True) ?hr ?hp (fun _ hk => hk) trivial (Below.refl _ _) (Nat.le_refl _) (by simp) ?_; (case hd => rfl); (case hg => rfl); (case hr => first | (go_simp; done) | (go_simp; rfl)); (case hp => exact (Reps.none _ _)); intro v227 w5 ho6 hb hg_ hnew_; clear hg_ hnew_; (first | rw [← Ny226.out] at ho6 | (simp only [Int.reduceToNat] at ho6; rw [← Ny226.out] at ho6)); have n0_ := za1 (za31 ho6 (za29 (by repeat (first | (with_reducible first | exact HB.out | apply za14 | apply za7 | apply za9 | refine za8 ?_ GE225.out) | exact HB.out)))); have n1_ := za1 (za17 (g := gb225) (o := .cells #[.slice A1_0 l1_0.length c1_0, .int .i64 a1_1] 37 (0, 0)) (by (with_reducible repeat (first | refine za11 ?_ _ | refine za12 ?_ | refine za13 ?_ _)); exact BK225.out) hb); have n2_ := za1 (za28 (by repeat (first | (with_reducible first | exact HB.out | apply za14 | apply za7 | apply za9 | refine za8 ?_ GE225.out) | exact HB.out)) hb); clear BK225; clear HB; have HO228 := n0_; have BK225 := n1_; have HB := n2_; clear n0_ n1_ n2_; clear hb ho6; have hcz7_0 : w5.cell? ⟨gb225, 0, none⟩ = some (.slice A1_0 l1_0.length c1_0) := (za15 BK225.out 0).trans rfl; have hcz7_1 : w5.cell? ⟨gb225, 1, none⟩ = some (.int .i64 a1_1) := (za15 BK225.out 1).trans rfl; have hfz7_0 := blk_frozen BK225.out 0; have hfz7_1 := blk_frozen BK225.out 1))
 go_loopg [7, 14] k (fun kq v7 v14 w' => ∃ (x7_1 : List (S46)) (x14_1 : Int), v14 = .int .i64 x14_1 ∧ Aside0 (impl_SignBy.l0 kq l0 l2 x7_1 l1_0 (l1_0.length : Int) x14_1 = some r) ∧ Aside0 (kq ≤ k) ∧ Aside0 (Kd.R k46 46 w' w.heap.size (fun _ => True) v7 x7_1) ∧ Aside0 (w'.heap[gb225]? = some (.cells #[(.slice A1_0 l1_0.length c1_0), .int .i64 a1_1] 37 (0, 0))) ∧ Aside0 (Below w.heap.size w w'))
 case atStart => exact ⟨(y226), (0), (by first | rfl | (simp; done) | (simp [*]; done)), H', ⟨Nat.le_refl _⟩, ⟨by (with_reducible repeat (first | apply za5 | apply za4 | apply za6)); exact HO228.out⟩, ⟨by (with_reducible repeat (first | refine za11 ?_ _ | refine za12 ?_ | refine za13 ?_ _)); exact BK225.out⟩, ⟨by repeat (first | (with_reducible first | exact HB.out | apply za14 | apply za7 | apply za9 | refine za8 ?_ GE225.out) | exact HB.out)⟩⟩
 case round =>
  clear H'
  try clear c1
  try clear c2
  try clear p2
  try clear hcz7_0
  try clear hcz7_1
  try clear hfz7_0
  try clear hfz7_1
  obtain ⟨x7_1, x14_1, rfl, HA, HK1, HO_7, BK225, HB⟩ := hrel
  cases gk with
  | zero => exact absurd HA.out (by simp [impl_SignBy.l0])
  | succ k1 =>
   have H := HA.out
   clear HA
   simp only [impl_SignBy.l0] at H
   by_cases c8 : x14_1 < (l1_0.length : Int)
   ·rw [if_pos c8] at H
    have c8b0 : decide (x14_1 < (l1_0.length : Int)) = true := za38 c8
    clear c8
    by_cases c9 : 0 ≤ x14_1
    ·rw [if_pos c9] at H
     have c9b0 : decide (0 ≤ x14_1) = true := za38 c9
     clear c9
     by_cases c10 : x14_1 < (l1_0.length : Int)
     ·rw [if_pos c10] at H
      have c10b0 : decide (x14_1 < (l1_0.length : Int)) = true := za38 c10
      clear c10
      replace H := za16.mp H
      obtain ⟨t230, A110, H⟩ := H
      replace H : (if t230 = true then ((impl_TagOf.f k1 (rd l1_0 x14_1) l2).bind fun t231 => (if x7_1.length < 8796093022208 then (impl_SignBy.l0 k1 l0 l2 (x7_1 ++ [(⟨rd l1_0 x14_1, t231⟩ : S46)]) l1_0 (l1_0.length : Int) (wrap64 (x14_1 + 1))) else (none))) else (impl_SignBy.l0 k1 l0 l2 x7_1 l1_0 (l1_0.length : Int) (wrap64 (x14_1 + 1)))) = some r := H
      have A11 := za1 A110
      clear A110
      by_cases c12 : t230 = true
      ·subst c12
       have H1 : ((impl_TagOf.f k1 (rd l1_0 x14_1) l2).bind fun t231 => (if x7_1.length < 8796093022208 then (impl_SignBy.l0 k1 l0 l2 (x7_1 ++ [(⟨rd l1_0 x14_1, t231⟩ : S46)]) l1_0 (l1_0.length : Int) (wrap64 (x14_1 + 1))) else (none))) = some r := by rw [if_pos rfl] at H; exact H
       clear H
       have H := H1
       clear H1
       replace H := za16.mp H
       obtain ⟨t231, A130, H⟩ := H
       replace H : (if x7_1.length < 8796093022208 then (impl_SignBy.l0 k1 l0 l2 (x7_1 ++ [(⟨rd l1_0 x14_1, t231⟩ : S46)]) l1_0 (l1_0.length : Int) (wrap64 (x14_1 + 1))) else (none)) = some r := H
       have A13 := za1 A130
       clear A130
       by_cases c14 : x7_1.length < 8796093022208
       ·rw [if_pos c14] at H
        have LMc14 := za1 c14
        clear c14
        obtain ⟨y232, hy232⟩ : ∃ y_ : List (S46), y_ = (x7_1 ++ [(⟨rd l1_0 x14_1, t231⟩ : S46)]) := ⟨_, rfl⟩
        replace H : (impl_SignBy.l0 k1 l0 l2 y232 l1_0 (l1_0.length : Int) (wrap64 (x14_1 + 1))) = some r := by first | (rw [hy232]; with_reducible exact H) | (have H2_ := (za36 _ _).symm.trans H; rw [hy232]; with_reducible exact H2_) | (have H2_ := (za36 _ _).symm.trans H; with_reducible exact H2_) | with_reducible exact H | (rw [hy232]; exact H) | exact H
        have Ny232 := za1 hy232
        clear hy232
        have H' := za1 H
        clear H
        have p229 : 0 ≤ (x14_1 : Int) := za35 (by first | (with_reducible assumption) | assumption)
        have q229 : x14_1 < (l1_0.length : Int) := za35 (by first | (with_reducible assumption) | assumption)
        obtain ⟨ad229, e229, hx229_0⟩ := Kd.at_int HR1_0.out x14_1 p229 q229
        cases e229
        replace hx229_0 := (HB.out.cell (World.block_lt_of_cell? w _ hx229_0)).trans hx229_0
        replace p229 := eq_true p229
        replace q229 := eq_true q229
        go_wp2_with (first | ((with_reducible refine gate_callee (f := 52) rfl ?_); refine goesL_ (some 20) rfl rfl Try.func52 (by kernel_rfl) rfl #[.slice A0 l0.length c0, .int .i64 (rd l1_0 x14_1)] rfl (by (try simp only [za18, za26, za27]); first | done | rfl | (simp only [za20, za19]; rfl)) ?_; (with_reducible refine (slices_Contains_int_int.calls k1 _ _ l0 (rd l1_0 x14_1) true _ ?side1 ?side2 A11.out).mono ?_); (case side1 => repeat (first | exact (za30 HR0.out HB.out) | (with_reducible refine za24 ?_ _) | (with_reducible refine za22 ?_ _) | (with_reducible refine za23 ?_))); (case side2 => exact HC0.out); rintro e w' ⟨rfl, ⟨nd, rfl⟩⟩; refine ⟨_, rfl, ?_⟩) | ((with_reducible refine gate_callee (f := 31) rfl ?_); refine goesL_ (some 25) rfl rfl Try.func31 (by kernel_rfl) rfl #[.int .i64 (rd l1_0 x14_1), .slice A2 l2.length c2] rfl (by (try simp only [za18, za26, za27]); first | done | rfl | (simp only [za20, za19]; rfl)) ?_; (with_reducible refine (impl_TagOf.calls k1 (rd l1_0 x14_1) _ _ l2 t231 _ ?side1 ?side2 A13.out).mono ?_); (case side1 => repeat (first | exact (za30 HR2.out (by repeat (first | (with_reducible first | exact HB.out | apply za14 | apply za7 | apply za9 | refine za8 ?_ GE225.out) | exact HB.out))) | (with_reducible refine za24 ?_ _) | (with_reducible refine za22 ?_ _) | (with_reducible refine za23 ?_))); (case side2 => exact HC2.out); rintro e w15 ⟨rfl, hb⟩; refine ⟨_, rfl, ?_⟩; have n0_ := za1 (Kd.R_below (by (with_reducible repeat (first | apply za5 | apply za4 | apply za6)); exact HO_7.out) hb); have n1_ := za1 (za17 (g := gb225) (o := .cells #[.slice (some ad229) l1_0.length c1_0, .int .i64 a1_1] 37 (0, 0)) (by (with_reducible repeat (first | refine za11 ?_ _ | refine za12 ?_ | refine za13 ?_ _)); exact BK225.out) hb); have n2_ := za1 (za28 (by repeat (first | (with_reducible first | exact HB.out | apply za14 | apply za7 | apply za9 | refine za8 ?_ GE225.out) | exact HB.out)) hb); clear HO_7; clear BK225; clear HB; have HO_7 := n0_; have BK225 := n1_; have HB := n2_; clear n0_ n1_ n2_; (try clear hb); (try clear hb2); (try clear hk); (try clear hi)) | ((with_reducible refine gate_builtin (b := .append) (xs := #[.tmp 21, .tmp 27]) rfl ?_); at_builtin; refine Kd.R_append k46 (w0 := w) w.heap.size rfl (.tmp 21) (.tmp 27) 27 46 (.agg #[(.int .i64 0), (.int .i64 0)]) 16 rfl Try.underlying27 info46 rfl (by decide) (by omega) u7 x7_1 (⟨rd l1_0 x14_1, t231⟩ : S46) [.int .i64 (rd l1_0 x14_1), .int .i64 t231] (fun _ => True) (fun _ => False) rfl rfl ?aP (fun _ hk => hk.elim) ?aF ?aO ?aB ?aS ?aL ?_; (case aP => exact k46_mkM _ _ _ (⟨rd l1_0 x14_1, t231⟩ : S46)); (case aB => exact (by repeat (first | (with_reducible first | exact HB.out | apply za14 | apply za7 | apply za9 | refine za8 ?_ GE225.out) | exact HB.out))); (case aF => exact (fun _ _ => trivial)); (case aO => exact (by (with_reducible repeat (first | apply za5 | apply za4 | apply za6)); exact HO_7.out)); (case aS => exact (za29 (by repeat (first | (with_reducible first | exact HB.out | apply za14 | apply za7 | apply za9 | refine za8 ?_ GE225.out) | exact HB.out)))); (case aL => have := LMc14.out; omega); intro v233 w16 ho hb hg hat; rw [← Ny232.out] at ho; have n0_ := za1 (blk_grown (g := gb225) (o := .cells #[.slice (some ad229) l1_0.length c1_0, .int .i64 a1_1] 37 (0, 0)) (by (with_reducible repeat (first | refine za11 ?_ _ | refine za12 ?_ | refine za13 ?_ _)); exact BK225.out) hg (Kd.R_ne HO_7.out BK225.out (by decide))); have n1_ := za1 (hb); have n2_ := za1 (ho); clear BK225; clear HB; clear HO_7; have BK225 := n0_; have HB := n1_; have HO234 := n2_; clear n0_ n1_ n2_; clear ho hb hg hat))
        go_roundg k1
        case measure => have := HK1.out; omega
        case rel => exact ⟨(y232), (wrap64 (x14_1 + 1)), (by first | rfl | (simp; done) | (simp [*]; done)), H', ⟨by have := HK1.out; omega⟩, ⟨by (with_reducible repeat (first | apply za5 | apply za4 | apply za6)); exact HO234.out⟩, ⟨by (with_reducible repeat (first | refine za11 ?_ _ | refine za12 ?_ | refine za13 ?_ _)); exact BK225.out⟩, ⟨by repeat (first | (with_reducible first | exact HB.out | apply za14 | apply za7 | apply za9 | refine za8 ?_ GE225.out) | exact HB.out)⟩⟩
       ·rw [if_neg c14] at H
        exact absurd H (by simp)
      ·replace c12 := Bool.eq_false_iff.mpr c12
       subst c12
       have H1 : (impl_SignBy.l0 k1 l0 l2 x7_1 l1_0 (l1_0.length : Int) (wrap64 (x14_1 + 1))) = some r := by rw [if_neg (show ¬ (false = true) by decide)] at H; exact H
       clear H
       have H := H1
       clear H1
       have H' := za1 H
       clear H
       have p229 : 0 ≤ (x14_1 : Int) := za35 (by first | (with_reducible assumption) | assumption)
       have q229 : x14_1 < (l1_0.length : Int) := za35 (by first | (with_reducible assumption) | assumption)
       obtain ⟨ad229, e229, hx229_0⟩ := Kd.at_int HR1_0.out x14_1 p229 q229
       cases e229
       replace hx229_0 := (HB.out.cell (World.block_lt_of_cell? w _ hx229_0)).trans hx229_0
       replace p229 := eq_true p229
       replace q229 := eq_true q229
       go_wp2_with (first | ((with_reducible refine gate_callee (f := 52) rfl ?_); refine goesL_ (some 20) rfl rfl Try.func52 (by kernel_rfl) rfl #[.slice A0 l0.length c0, .int .i64 (rd l1_0 x14_1)] rfl (by (try simp only [za18, za26, za27]); first | done | rfl | (simp only [za20, za19]; rfl)) ?_; (with_reducible refine (slices_Contains_int_int.calls k1 _ _ l0 (rd l1_0 x14_1) false _ ?side1 ?side2 A11.out).mono ?_); (case side1 => repeat (first | exact (za30 HR0.out HB.out) | (with_reducible refine za24 ?_ _) | (with_reducible refine za22 ?_ _) | (with_reducible refine za23 ?_))); (case side2 => exact HC0.out); rintro e w' ⟨rfl, ⟨nd, rfl⟩⟩; refine ⟨_, rfl, ?_⟩))
       go_roundg k1
       case measure => have := HK1.out; omega
       case rel => exact ⟨(x7_1), (wrap64 (x14_1 + 1)), (by first | rfl | (simp; done) | (simp [*]; done)), H', ⟨by have := HK1.out; omega⟩, ⟨by (with_reducible repeat (first | apply za5 | apply za4 | apply za6)); exact HO_7.out⟩, ⟨by (with_reducible repeat (first | refine za11 ?_ _ | refine za12 ?_ | refine za13 ?_ _)); exact BK225.out⟩, ⟨by repeat (first | (with_reducible first | exact HB.out | apply za14 | apply za7 | apply za9 | refine za8 ?_ GE225.out) | exact HB.out)⟩⟩
     ·rw [if_neg c10] at H
      exact absurd H (by simp)
    ·rw [if_neg c9] at H
     exact absurd H (by simp)
   ·rw [if_neg c8] at H
    have c8b0 : decide (x14_1 < (l1_0.length : Int)) = false := za39 c8
    clear c8
    obtain rfl := za37 H
    go_wp2
    go_ret
    exact ⟨_, by first | rfl | (simp [errW_none, errW_some] <;> rfl) | (simp [*, errW_none, errW_some] <;> rfl), by (with_reducible repeat (first | apply za5 | apply za4 | apply za6)); exact HO_7.out, by repeat (first | (with_reducible first | exact HB.out | apply za14 | apply za7 | apply za9 | refine za8 ?_ GE225.out) | exact HB.out)⟩

/-! ### impl_ascending: function 54 -/
def impl_ascending.l0 : Nat → List Int → Int → Int → Option (Bool)
  | 0, _, _, _ => none
  | k + 1, x0, x5, x6 => if x6 < x5 then (if x6 > 0 then (if 0 ≤ x6 then (if x6 < (x0.length : Int) then (if 0 ≤ (wrap64 (x6 - 1)) then (if (wrap64 (x6 - 1)) < (x0.length : Int) then (if (rd x0 x6) ≤ (rd x0 (wrap64 (x6 - 1))) then (some false) else (impl_ascending.l0 k x0 x5 (wrap64 (x6 + 1)))) else (none)) else (none)) else (none)) else (none)) else (impl_ascending.l0 k x0 x5 (wrap64 (x6 + 1)))) else (some true)
def impl_ascending.f (k : Nat) (l0 : List Int) : Option (Bool) := impl_ascending.l0 k l0 (l0.length : Int) 0
theorem impl_ascending.mono_l : ∀ k, (∀ y0 y1 y2, LeO (impl_ascending.l0 k y0 y1 y2) (impl_ascending.l0 (k + 1) y0 y1 y2))
  | 0 => fun _ _ _ r h => by simp [impl_ascending.l0] at h
  | k + 1 => by
    have ih0 := impl_ascending.mono_l k
    · intro y0 y1 y2
      unfold impl_ascending.l0
      repeat' first
      | (with_reducible exact ih0 _ _ _)
      | (with_reducible exact LeO.refl _)
      | (with_reducible exact za34 _)
      | (with_reducible refine za33 ?_ ?_)
      | (with_reducible refine za32 ?_ (fun _ => ?_))
      | exact ih0 _ _ _
      | exact za34 _
      | refine za33 ?_ ?_
      | refine za32 ?_ (fun _ => ?_)
theorem impl_ascending.mono : ∀ a0 k, LeO (impl_ascending.f k a0) (impl_ascending.f (k + 1) a0) := by
  intro a0 k
  have ih0 := impl_ascending.mono_l k
  unfold impl_ascending.f
  repeat' first
      | (with_reducible exact ih0 _ _ _)
      | (with_reducible exact LeO.refl _)
      | (with_reducible exact za34 _)
      | (with_reducible refine za33 ?_ ?_)
      | (with_reducible refine za32 ?_ (fun _ => ?_))
      | exact ih0 _ _ _
      | exact za34 _
      | refine za33 ?_ ?_
      | refine za32 ?_ (fun _ => ?_)
set_option maxHeartbeats 8000000 in
set_option maxRecDepth 100000 in
theorem impl_ascending.calls (k : Nat) (A0 : Option Addr) (c0 : Nat) (l0 : List Int) (r : Bool) (w : World) (hr0 : Kd.C (Kd.int .i64) w A0 l0.length l0) (hc0 : l0.length ≤ c0) (h : impl_ascending.f k l0 = some r) :
  Calls Try.prog 54 #[.slice A0 l0.length c0] w fun e w' => e = .returned (.bool r) ∧ Drawn0 w w' := by
 have HR0 := za1 hr0
 have HC0 := za1 hc0
 clear hr0 hc0
 have H : (impl_ascending.l0 k l0 (l0.length : Int) 0) = some r := h
 clear h
 have H' := za1 H
 clear H
 go_enter Try.func54, Try.ntmps54
 go_wp2
 repeat (go_quiet (fail); try go_wp2)
 go_loopg [6] k (fun kq v6 w' => ∃ (x6_1 : Int), v6 = .int .i64 x6_1 ∧ Aside0 (impl_ascending.l0 kq l0 (l0.length : Int) x6_1 = some r) ∧ Aside0 (kq ≤ k) ∧ Drawn0 w w')
 case atStart => exact ⟨(0), (by first | rfl | (simp; done) | (simp [*]; done)), H', ⟨Nat.le_refl _⟩, by repeat (first | exact Drawn0.refl _ | apply Drawn0.step)⟩
 case round =>
  clear H'
  obtain ⟨x6_1, rfl, HA, HK1, ⟨m1, rfl⟩⟩ := hrel
  cases gk with
  | zero => exact absurd HA.out (by simp [impl_ascending.l0])
  | succ k1 =>
   have H := HA.out
   clear HA
   simp only [impl_ascending.l0] at H
   by_cases c2 : x6_1 < (l0.length : Int)
   ·rw [if_pos c2] at H
    have c2b0 : decide (x6_1 < (l0.length : Int)) = true := za38 c2
    clear c2
    by_cases c3 : x6_1 > 0
    ·rw [if_pos c3] at H
     have c3b0 : decide (0 < x6_1) = true := za38 c3
     clear c3
     by_cases c4 : 0 ≤ x6_1
     ·rw [if_pos c4] at H
      have c4b0 : decide (0 ≤ x6_1) = true := za38 c4
      clear c4
      by_cases c5 : x6_1 < (l0.length : Int)
      ·rw [if_pos c5] at H
       have c5b0 : decide (x6_1 < (l0.length : Int)) = true := za38 c5
       clear c5
       obtain ⟨ji6, hji6⟩ : ∃ j_ : Int, (wrap64 (x6_1 - 1)) = j_ := ⟨_, rfl⟩
       replace H : (if 0 ≤ (ji6) then (if (ji6) < (l0.length : Int) then (if (rd l0 x6_1) ≤ (rd l0 (ji6)) then (some false) else (impl_ascending.l0 k1 l0 (l0.length : Int) (wrap64 (x6_1 + 1)))) else (none)) else (none)) = some r := by first | (rw [hji6] at H; exact H) | (simp only [hji6] at H ⊢; exact H)
       have hji6w : (IntKind.i64.wrap (x6_1 - 1)) = ji6 := (i64_w _).trans hji6
       by_cases c7 : 0 ≤ (ji6)
       ·rw [if_pos c7] at H
        have c7b0 : decide (0 ≤ (ji6)) = true := za38 c7
        clear c7
        by_cases c8 : (ji6) < (l0.length : Int)
        ·rw [if_pos c8] at H
         have c8b0 : decide ((ji6) < (l0.length : Int)) = true := za38 c8
         clear c8
         by_cases c9 : (rd l0 x6_1) ≤ (rd l0 (ji6))
         ·rw [if_pos c9] at H
          have c9b0 : decide ((rd l0 x6_1) ≤ (rd l0 (ji6))) = true := za38 c9
          clear c9
          obtain rfl := za37 H
          have p235 : 0 ≤ (x6_1 : Int) := za35 (by first | (with_reducible assumption) | assumption)
          have q235 : x6_1 < (l0.length : Int) := za35 (by first | (with_reducible assumption) | assumption)
          obtain ⟨ad235, e235, hx235_0⟩ := Kd.at_int HR0.out x6_1 p235 q235
          cases e235
          replace p235 := eq_true p235
          replace q235 := eq_true q235
          have p236 : 0 ≤ ((ji6) : Int) := za35 (by first | (with_reducible assumption) | assumption)
          have q236 : (ji6) < (l0.length : Int) := za35 (by first | (with_reducible assumption) | assumption)
          obtain ⟨ad236, e236, hx236_0⟩ := Kd.at_int HR0.out (ji6) p236 q236
          obtain rfl : ad235 = ad236 := (by injection e236)
          replace p236 := eq_true p236
          replace q236 := eq_true q236
          go_wp2
          repeat (go_quiet (fail); try go_wp2)
          go_ret
          exact ⟨by first | rfl | (simp; done) | (simp only [← hji6] <;> (first | rfl | simp)) | (simp [*]; done), by repeat (first | exact Drawn0.refl _ | apply Drawn0.step)⟩
         ·rw [if_neg c9] at H
          have c9b0 : decide ((rd l0 x6_1) ≤ (rd l0 (ji6))) = false := za39 c9
          clear c9
          have H' := za1 H
          clear H
          have p235 : 0 ≤ (x6_1 : Int) := za35 (by first | (with_reducible assumption) | assumption)
          have q235 : x6_1 < (l0.length : Int) := za35 (by first | (with_reducible assumption) | assumption)
          obtain ⟨ad235, e235, hx235_0⟩ := Kd.at_int HR0.out x6_1 p235 q235
          cases e235
          replace p235 := eq_true p235
          replace q235 := eq_true q235
          have p236 : 0 ≤ ((ji6) : Int) := za35 (by first | (with_reducible assumption) | assumption)
          have q236 : (ji6) < (l0.length : Int) := za35 (by first | (with_reducible assumption) | assumption)
          obtain ⟨ad236, e236, hx236_0⟩ := Kd.at_int HR0.out (ji6) p236 q236
          obtain rfl : ad235 = ad236 := (by injection e236)
          replace p236 := eq_true p236
          replace q236 := eq_true q236
          go_wp2
          repeat (go_quiet (fail); try go_wp2)
          go_roundg k1
          case measure => have := HK1.out; omega
          case rel => exact ⟨(wrap64 (x6_1 + 1)), (by first | rfl | (simp; done) | (simp [*]; done)), H', ⟨by have := HK1.out; omega⟩, by repeat (first | exact Drawn0.refl _ | apply Drawn0.step)⟩
        ·rw [if_neg c8] at H
         exact absurd H (by simp)
       ·rw [if_neg c7] at H
        exact absurd H (by simp)
      ·rw [if_neg c5] at H
       exact absurd H (by simp)
     ·rw [if_neg c4] at H
      exact absurd H (by simp)
    ·rw [if_neg c3] at H
     have c3b0 : decide (0 < x6_1) = false := za39 c3
     clear c3
     have H' := za1 H
     clear H
     go_wp2
     repeat (go_quiet (fail); try go_wp2)
     go_roundg k1
     case measure => have := HK1.out; omega
     case rel => exact ⟨(wrap64 (x6_1 + 1)), (by first | rfl | (simp; done) | (simp [*]; done)), H', ⟨by have := HK1.out; omega⟩, by repeat (first | exact Drawn0.refl _ | apply Drawn0.step)⟩
   ·rw [if_neg c2] at H
    have c2b0 : decide (x6_1 < (l0.length : Int)) = false := za39 c2
    clear c2
    obtain rfl := za37 H
    go_wp2
    repeat (go_quiet (fail); try go_wp2)
    go_ret
    exact ⟨by first | rfl | (simp; done) | (simp [*]; done), by repeat (first | exact Drawn0.refl _ | apply Drawn0.step)⟩

/-! ### impl_isKey: function 55 -/
def impl_isKey.f (a0 : Int) : Option (Bool) := (impl_InRange.f a0 1 99).bind fun t237 => (some t237)
set_option maxHeartbeats 8000000 in
set_option maxRecDepth 100000 in
theorem impl_isKey.calls (a0 : Int) (r : Bool) (w : World) (h : impl_isKey.f a0 = some r) :
  Calls Try.prog 55 #[.int .i64 a0] w fun e w' => e = .returned (.bool r) ∧ Drawn0 w w' := by
 have H : ((impl_InRange.f a0 1 99).bind fun t237 => (some t237)) = some r := h
 clear h
 replace H := za16.mp H
 obtain ⟨t237, A20, H⟩ := H
 replace H : (some t237) = some r := H
 have A2 := za1 A20
 clear A20
 obtain rfl := za37 H
 go_enter Try.func55, Try.ntmps55
 go_wp2_with (first | ((with_reducible refine gate_callee (f := 53) rfl ?_); refine goesL_ (some 4) rfl rfl Try.func53 (by kernel_rfl) rfl #[.int .i64 a0, .int .i64 1, .int .i64 99] rfl (by (try simp only [za18, za26, za27]); first | done | rfl | (simp only [za20, za19]; rfl)) ?_; (with_reducible refine (impl_InRange.calls a0 1 99 t237 _ A2.out).mono ?_); rintro e w' ⟨rfl, ⟨nd, rfl⟩⟩; refine ⟨_, rfl, ?_⟩))
 go_ret
 exact ⟨by first | rfl | (simp; done) | (simp [*]; done), by repeat (first | exact Drawn0.refl _ | apply Drawn0.step)⟩

/-! ### impl_IsKeys: function 21 -/
def impl_IsKeys.f (k : Nat) (l0_0 : List Int) (a0_1 : Int) : Option (Bool) := (impl_InRange.f (l0_0.length : Int) 1 4).bind fun t239 => (if t239 = true then ((impl_ascending.f k l0_0).bind fun t240 => (if t240 = true then (if 0 < (l0_0.length : Int) then ((impl_isKey.f (rd l0_0 0)).bind fun t242 => (if t242 = true then (if 0 ≤ (wrap64 ((l0_0.length : Int) - 1)) then (if (wrap64 ((l0_0.length : Int) - 1)) < (l0_0.length : Int) then ((impl_isKey.f (rd l0_0 (wrap64 ((l0_0.length : Int) - 1)))).bind fun t244 => (if t244 = true then ((impl_InRange.f a0_1 1 (l0_0.length : Int)).bind fun t245 => (some t245)) else (some false))) else (none)) else (none)) else (some false))) else (none)) else (some false))) else (some false))
theorem impl_IsKeys.mono : ∀ a0 a1 k, LeO (impl_IsKeys.f k a0 a1) (impl_IsKeys.f (k + 1) a0 a1) := by
  intro a0 a1 k
  unfold impl_IsKeys.f
  repeat' first
      | (with_reducible exact impl_ascending.mono _ _)
      | (with_reducible exact LeO.refl _)
      | (with_reducible exact za34 _)
      | (with_reducible refine za33 ?_ ?_)
      | (with_reducible refine za32 ?_ (fun _ => ?_))
      | exact impl_ascending.mono _ _
      | exact za34 _
      | refine za33 ?_ ?_
      | refine za32 ?_ (fun _ => ?_)
set_option maxHeartbeats 8000000 in
set_option maxRecDepth 100000 in
theorem impl_IsKeys.calls (k : Nat) (A0_0 : Option Addr) (c0_0 : Nat) (l0_0 : List Int) (a0_1 : Int) (r : Bool) (w : World) (hr0_0 : Kd.C (Kd.int .i64) w A0_0 l0_0.length l0_0) (hc0_0 : l0_0.length ≤ c0_0) (h : impl_IsKeys.f k l0_0 a0_1 = some r) :
  Calls Try.prog 21 #[.agg #[.slice A0_0 l0_0.length c0_0, .int .i64 a0_1]] w fun e w' => e = .returned (.bool r) ∧ Below w.heap.size w w' := by
 have hu37 := Try.underlying37
 have HR0_0 := za1 hr0_0
 have HC0_0 := za1 hc0_0
 clear hr0_0 hc0_0
 have HB := za1 (Below.refl w.heap.size w)
 have H : ((impl_InRange.f (l0_0.length : Int) 1 4).bind fun t239 => (if t239 = true then ((impl_ascending.f k l0_0).bind fun t240 => (if t240 = true then (if 0 < (l0_0.length : Int) then ((impl_isKey.f (rd l0_0 0)).bind fun t242 => (if t242 = true then (if 0 ≤ (wrap64 ((l0_0.length : Int) - 1)) then (if (wrap64 ((l0_0.length : Int) - 1)) < (l0_0.length : Int) then ((impl_isKey.f (rd l0_0 (wrap64 ((l0_0.length : Int) - 1)))).bind fun t244 => (if t244 = true then ((impl_InRange.f a0_1 1 (l0_0.length : Int)).bind fun t245 => (some t245)) else (some false))) else (none)) else (none)) else (some false))) else (none)) else (some false))) else (some false))) = some r := h
 clear h
 replace H := za16.mp H
 obtain ⟨t239, A20, H⟩ := H
 replace H : (if t239 = true then ((impl_ascending.f k l0_0).bind fun t240 => (if t240 = true then (if 0 < (l0_0.length : Int) then ((impl_isKey.f (rd l0_0 0)).bind fun t242 => (if t242 = true then (if 0 ≤ (wrap64 ((l0_0.length : Int) - 1)) then (if (wrap64 ((l0_0.length : Int) - 1)) < (l0_0.length : Int) then ((impl_isKey.f (rd l0_0 (wrap64 ((l0_0.length : Int) - 1)))).bind fun t244 => (if t244 = true then ((impl_InRange.f a0_1 1 (l0_0.length : Int)).bind fun t245 => (some t245)) else (some false))) else (none)) else (none)) else (some false))) else (none)) else (some false))) else (some false)) = some r := H
 have A2 := za1 A20
 clear A20
 by_cases c3 : t239 = true
 ·subst c3
  have H1 : ((impl_ascending.f k l0_0).bind fun t240 => (if t240 = true then (if 0 < (l0_0.length : Int) then ((impl_isKey.f (rd l0_0 0)).bind fun t242 => (if t242 = true then (if 0 ≤ (wrap64 ((l0_0.length : Int) - 1)) then (if (wrap64 ((l0_0.length : Int) - 1)) < (l0_0.length : Int) then ((impl_isKey.f (rd l0_0 (wrap64 ((l0_0.length : Int) - 1)))).bind fun t244 => (if t244 = true then ((impl_InRange.f a0_1 1 (l0_0.length : Int)).bind fun t245 => (some t245)) else (some false))) else (none)) else (none)) else (some false))) else (none)) else (some false))) = some r := by rw [if_pos rfl] at H; exact H
  clear H
  have H := H1
  clear H1
  replace H := za16.mp H
  obtain ⟨t240, A40, H⟩ := H
  replace H : (if t240 = true then (if 0 < (l0_0.length : Int) then ((impl_isKey.f (rd l0_0 0)).bind fun t242 => (if t242 = true then (if 0 ≤ (wrap64 ((l0_0.length : Int) - 1)) then (if (wrap64 ((l0_0.length : Int) - 1)) < (l0_0.length : Int) then ((impl_isKey.f (rd l0_0 (wrap64 ((l0_0.length : Int) - 1)))).bind fun t244 => (if t244 = true then ((impl_InRange.f a0_1 1 (l0_0.length : Int)).bind fun t245 => (some t245)) else (some false))) else (none)) else (none)) else (some false))) else (none)) else (some false)) = some r := H
  have A4 := za1 A40
  clear A40
  by_cases c5 : t240 = true
  ·subst c5
   have H1 : (if 0 < (l0_0.length : Int) then ((impl_isKey.f (rd l0_0 0)).bind fun t242 => (if t242 = true then (if 0 ≤ (wrap64 ((l0_0.length : Int) - 1)) then (if (wrap64 ((l0_0.length : Int) - 1)) < (l0_0.length : Int) then ((impl_isKey.f (rd l0_0 (wrap64 ((l0_0.length : Int) - 1)))).bind fun t244 => (if t244 = true then ((impl_InRange.f a0_1 1 (l0_0.length : Int)).bind fun t245 => (some t245)) else (some false))) else (none)) else (none)) else (some false))) else (none)) = some r := by rw [if_pos rfl] at H; exact H
   clear H
   have H := H1
   clear H1
   by_cases c6 : 0 < (l0_0.length : Int)
   ·rw [if_pos c6] at H
    have c6b0 : decide (0 < (l0_0.length : Int)) = true := za38 c6
    have c6b1 : decide (0 < l0_0.length) = true := za38 (by omega)
    clear c6
    replace H := za16.mp H
    obtain ⟨t242, A70, H⟩ := H
    replace H : (if t242 = true then (if 0 ≤ (wrap64 ((l0_0.length : Int) - 1)) then (if (wrap64 ((l0_0.length : Int) - 1)) < (l0_0.length : Int) then ((impl_isKey.f (rd l0_0 (wrap64 ((l0_0.length : Int) - 1)))).bind fun t244 => (if t244 = true then ((impl_InRange.f a0_1 1 (l0_0.length : Int)).bind fun t245 => (some t245)) else (some false))) else (none)) else (none)) else (some false)) = some r := H
    have A7 := za1 A70
    clear A70
    by_cases c8 : t242 = true
    ·subst c8
     have H1 : (if 0 ≤ (wrap64 ((l0_0.length : Int) - 1)) then (if (wrap64 ((l0_0.length : Int) - 1)) < (l0_0.length : Int) then ((impl_isKey.f (rd l0_0 (wrap64 ((l0_0.length : Int) - 1)))).bind fun t244 => (if t244 = true then ((impl_InRange.f a0_1 1 (l0_0.length : Int)).bind fun t245 => (some t245)) else (some false))) else (none)) else (none)) = some r := by rw [if_pos rfl] at H; exact H
     clear H
     have H := H1
     clear H1
     obtain ⟨ji9, hji9⟩ : ∃ j_ : Int, (wrap64 ((l0_0.length : Int) - 1)) = j_ := ⟨_, rfl⟩
     replace H : (if 0 ≤ (ji9) then (if (ji9) < (l0_0.length : Int) then ((impl_isKey.f (rd l0_0 (ji9))).bind fun t244 => (if t244 = true then ((impl_InRange.f a0_1 1 (l0_0.length : Int)).bind fun t245 => (some t245)) else (some false))) else (none)) else (none)) = some r := by first | (rw [hji9] at H; exact H) | (simp only [hji9] at H ⊢; exact H)
     (try rw [hji9] at A2)
     (try rw [hji9] at A4)
     (try rw [hji9] at A7)
     have hji9w : (IntKind.i64.wrap ((l0_0.length : Int) - 1)) = ji9 := (i64_w _).trans hji9
     by_cases c10 : 0 ≤ (ji9)
     ·rw [if_pos c10] at H
      have c10b0 : decide (0 ≤ (ji9)) = true := za38 c10
      clear c10
      by_cases c11 : (ji9) < (l0_0.length : Int)
      ·rw [if_pos c11] at H
       have c11b0 : decide ((ji9) < (l0_0.length : Int)) = true := za38 c11
       clear c11
       replace H := za16.mp H
       obtain ⟨t244, A120, H⟩ := H
       replace H : (if t244 = true then ((impl_InRange.f a0_1 1 (l0_0.length : Int)).bind fun t245 => (some t245)) else (some false)) = some r := H
       have A12 := za1 A120
       clear A120
       by_cases c13 : t244 = true
       ·subst c13
        have H1 : ((impl_InRange.f a0_1 1 (l0_0.length : Int)).bind fun t245 => (some t245)) = some r := by rw [if_pos rfl] at H; exact H
        clear H
        have H := H1
        clear H1
        replace H := za16.mp H
        obtain ⟨t245, A140, H⟩ := H
        replace H : (some t245) = some r := H
        have A14 := za1 A140
        clear A140
        obtain rfl := za37 H
        go_enter Try.func21, Try.ntmps21
        go_wp2_with (first | ((with_reducible refine gate_dst (N := 1) rfl ?_); (try (refine gate_guard (by rfl) ?_; dsimp only)); refine box_event ?hg (N := 1) ?hd (cs := #[.slice A0_0 l0_0.length c0_0, .int .i64 a0_1]) (t := 37) ?hr ?_; (case hd => rfl); (case hg => rfl); (case hr => first | (go_simp; done) | (go_simp; rfl)); intro gb238 hg w15 hbox hb; have n0_ := za1 (za28 (by repeat (first | (with_reducible first | exact HB.out | apply za14 | apply za7 | apply za9) | exact HB.out)) hb); have n1_ := za1 (hbox); have n2_ := za1 ((by rw [hg]; exact (za29 (by repeat (first | (with_reducible first | exact HB.out | apply za14 | apply za7 | apply za9) | exact HB.out))) : w.heap.size ≤ gb238)); have n3_ := za1 ((by rw [hg]; exact (za29 (by repeat (first | (with_reducible first | exact HB.out | apply za14 | apply za7 | apply za9) | exact HB.out))) : w.heap.size ≤ gb238)); clear HB; have HB := n0_; have BK238 := n1_; have GW238 := n2_; have GE238 := n3_; clear n0_ n1_ n2_ n3_; clear hb hbox hg; have hcz16_0 : w15.cell? ⟨gb238, 0, none⟩ = some (.slice A0_0 l0_0.length c0_0) := (za15 BK238.out 0).trans rfl; have hcz16_1 : w15.cell? ⟨gb238, 1, none⟩ = some (.int .i64 a0_1) := (za15 BK238.out 1).trans rfl; have hfz16_0 := blk_frozen BK238.out 0; have hfz16_1 := blk_frozen BK238.out 1) | ((with_reducible refine gate_callee (f := 53) rfl ?_); refine goesL_ (some 6) rfl rfl Try.func53 (by kernel_rfl) rfl #[.int .i64 (l0_0.length : Int), .int .i64 1, .int .i64 4] rfl (by (try simp only [za18, za26, za27]); first | done | rfl | (simp only [za20, za19]; rfl)) ?_; (with_reducible refine (impl_InRange.calls (l0_0.length : Int) 1 4 true _ A2.out).mono ?_); rintro e w' ⟨rfl, ⟨nd, rfl⟩⟩; refine ⟨_, rfl, ?_⟩) | (go_at_call 54; (with_reducible refine (impl_ascending.calls k _ _ l0_0 true _ ?side1 ?side2 A4.out).mono ?_); (case side1 => repeat (first | exact (za30 HR0_0.out (by repeat (first | (with_reducible first | exact HB.out | apply za14 | apply za7 | apply za9 | refine za8 ?_ GE238.out) | exact HB.out))) | (with_reducible refine za24 ?_ _) | (with_reducible refine za22 ?_ _) | (with_reducible refine za23 ?_))); (case side2 => exact HC0_0.out); rintro e w' ⟨rfl, ⟨nd, rfl⟩⟩; have p241 : 0 ≤ (0 : Int) := (by omega); have q241 : 0 < (l0_0.length : Int) := za35 (by first | (with_reducible assumption) | assumption); obtain ⟨ad241, e241, hx241_0⟩ := Kd.at_int HR0_0.out 0 p241 q241; cases e241; have qi241 : (0 < l0_0.length) = True := eq_true (by omega); (try rw [show ((0 : Int)).toNat = 0 from rfl] at hx241_0); (try rw [Addr.add_zero'] at hx241_0); replace hx241_0 := (HB.out.cell (World.block_lt_of_cell? w _ hx241_0)).trans hx241_0; replace p241 := eq_true p241; replace q241 := eq_true q241) | (go_at_call 55; (with_reducible refine (impl_isKey.calls (rd l0_0 0) true _ A7.out).mono ?_); rintro e w' ⟨rfl, ⟨nd, rfl⟩⟩; have p243 : 0 ≤ ((ji9) : Int) := za35 (by first | (with_reducible assumption) | assumption); have q243 : (ji9) < (l0_0.length : Int) := za35 (by first | (with_reducible assumption) | assumption); obtain ⟨ad243, e243, hx243_0⟩ := Kd.at_int HR0_0.out (ji9) p243 q243; obtain rfl : ad241 = ad243 := (by injection e243); replace hx243_0 := (HB.out.cell (World.block_lt_of_cell? w _ hx243_0)).trans hx243_0; replace p243 := eq_true p243; replace q243 := eq_true q243) | (go_at_call 55; (with_reducible refine (impl_isKey.calls (rd l0_0 (ji9)) true _ A12.out).mono ?_); rintro e w' ⟨rfl, ⟨nd, rfl⟩⟩) | (go_at_call 53; (with_reducible refine (impl_InRange.calls a0_1 1 (l0_0.length : Int) t245 _ A14.out).mono ?_); rintro e w' ⟨rfl, ⟨nd, rfl⟩⟩))
        go_ret
        exact ⟨by first | rfl | (simp [errW_none, errW_some] <;> rfl) | (simp only [← hji9]; first | rfl | (simp [errW_none, errW_some] <;> rfl)) | (simp [*, errW_none, errW_some] <;> rfl), by repeat (first | (with_reducible first | exact HB.out | apply za14 | apply za7 | apply za9 | refine za8 ?_ GE238.out) | exact HB.out)⟩
       ·replace c13 := Bool.eq_false_iff.mpr c13
        subst c13
        have H1 : (some false) = some r := by rw [if_neg (show ¬ (false = true) by decide)] at H; exact H
        clear H
        have H := H1
        clear H1
        obtain rfl := za37 H
        go_enter Try.func21, Try.ntmps21
        go_wp2_with (first | ((with_reducible refine gate_dst (N := 1) rfl ?_); (try (refine gate_guard (by rfl) ?_; dsimp only)); refine box_event ?hg (N := 1) ?hd (cs := #[.slice A0_0 l0_0.length c0_0, .int .i64 a0_1]) (t := 37) ?hr ?_; (case hd => rfl); (case hg => rfl); (case hr => first | (go_simp; done) | (go_simp; rfl)); intro gb238 hg w17 hbox hb; have n0_ := za1 (za28 (by repeat (first | (with_reducible first | exact HB.out | apply za14 | apply za7 | apply za9) | exact HB.out)) hb); have n1_ := za1 (hbox); have n2_ := za1 ((by rw [hg]; exact (za29 (by repeat (first | (with_reducible first | exact HB.out | apply za14 | apply za7 | apply za9) | exact HB.out))) : w.heap.size ≤ gb238)); have n3_ := za1 ((by rw [hg]; exact (za29 (by repeat (first | (with_reducible first | exact HB.out | apply za14 | apply za7 | apply za9) | exact HB.out))) : w.heap.size ≤ gb238)); clear HB; have HB := n0_; have BK238 := n1_; have GW238 := n2_; have GE238 := n3_; clear n0_ n1_ n2_ n3_; clear hb hbox hg; have hcz18_0 : w17.cell? ⟨gb238, 0, none⟩ = some (.slice A0_0 l0_0.length c0_0) := (za15 BK238.out 0).trans rfl; have hcz18_1 : w17.cell? ⟨gb238, 1, none⟩ = some (.int .i64 a0_1) := (za15 BK238.out 1).trans rfl; have hfz18_0 := blk_frozen BK238.out 0; have hfz18_1 := blk_frozen BK238.out 1) | ((with_reducible refine gate_callee (f := 53) rfl ?_); refine goesL_ (some 6) rfl rfl Try.func53 (by kernel_rfl) rfl #[.int .i64 (l0_0.length : Int), .int .i64 1, .int .i64 4] rfl (by (try simp only [za18, za26, za27]); first | done | rfl | (simp only [za20, za19]; rfl)) ?_; (with_reducible refine (impl_InRange.calls (l0_0.length : Int) 1 4 true _ A2.out).mono ?_); rintro e w' ⟨rfl, ⟨nd, rfl⟩⟩; refine ⟨_, rfl, ?_⟩) | (go_at_call 54; (with_reducible refine (impl_ascending.calls k _ _ l0_0 true _ ?side1 ?side2 A4.out).mono ?_); (case side1 => repeat (first | exact (za30 HR0_0.out (by repeat (first | (with_reducible first | exact HB.out | apply za14 | apply za7 | apply za9 | refine za8 ?_ GE238.out) | exact HB.out))) | (with_reducible refine za24 ?_ _) | (with_reducible refine za22 ?_ _) | (with_reducible refine za23 ?_))); (case side2 => exact HC0_0.out); rintro e w' ⟨rfl, ⟨nd, rfl⟩⟩; have p241 : 0 ≤ (0 : Int) := (by omega); have q241 : 0 < (l0_0.length : Int) := za35 (by first | (with_reducible assumption) | assumption); obtain ⟨ad241, e241, hx241_0⟩ := Kd.at_int HR0_0.out 0 p241 q241; cases e241; have qi241 : (0 < l0_0.length) = True := eq_true (by omega); (try rw [show ((0 : Int)).toNat = 0 from rfl] at hx241_0); (try rw [Addr.add_zero'] at hx241_0); replace hx241_0 := (HB.out.cell (World.block_lt_of_cell? w _ hx241_0)).trans hx241_0; replace p241 := eq_true p241; replace q241 := eq_true q241) | (go_at_call 55; (with_reducible refine (impl_isKey.calls (rd l0_0 0) true _ A7.out).mono ?_); rintro e w' ⟨rfl, ⟨nd, rfl⟩⟩; have p243 : 0 ≤ ((ji9) : Int) := za35 (by first | (with_reducible assumption) | assumption); have q243 : (ji9) < (l0_0.length : Int) := za35 (by first | (with_reducible assumption) | assumption); obtain ⟨ad243, e243, hx243_0⟩ := Kd.at_int HR0_0.out (ji9) p243 q243; obtain rfl : ad241 = ad243 := (by injection e243); replace hx243_0 := (HB.out.cell (World.block_lt_of_cell? w _ hx243_0)).trans hx243_0; replace p243 := eq_true p243; replace q243 := eq_true q243) | (go_at_call 55; (with_reducible refine (impl_isKey.calls (rd l0_0 (ji9)) false _ A12.out).mono ?_); rintro e w' ⟨rfl, ⟨nd, rfl⟩⟩))
        go_ret
        exact ⟨by first | rfl | (simp [errW_none, errW_some] <;> rfl) | (simp only [← hji9]; first | rfl | (simp [errW_none, errW_some] <;> rfl)) | (simp [*, errW_none, errW_some] <;> rfl), by repeat (first | (with_reducible first | exact HB.out | apply za14 | apply za7 | apply za9 | refine za8 ?_ GE238.out) | exact HB.out)⟩
      ·rw [if_neg c11] at H
       exact absurd H (by simp)
     ·rw [if_neg c10] at H
      exact absurd H (by simp)
    ·replace c8 := Bool.eq_false_iff.mpr c8
     subst c8
     have H1 : (some false) = some r := by rw [if_neg (show ¬ (false = true) by decide)] at H; exact H
     clear H
     have H := H1
     clear H1
     obtain rfl := za37 H
     go_enter Try.func21, Try.ntmps21
     go_wp2_with (first | ((with_reducible refine gate_dst (N := 1) rfl ?_); (try (refine gate_guard (by rfl) ?_; dsimp only)); refine box_event ?hg (N := 1) ?hd (cs := #[.slice A0_0 l0_0.length c0_0, .int .i64 a0_1]) (t := 37) ?hr ?_; (case hd => rfl); (case hg => rfl); (case hr => first | (go_simp; done) | (go_simp; rfl)); intro gb238 hg w19 hbox hb; have n0_ := za1 (za28 (by repeat (first | (with_reducible first | exact HB.out | apply za14 | apply za7 | apply za9) | exact HB.out)) hb); have n1_ := za1 (hbox); have n2_ := za1 ((by rw [hg]; exact (za29 (by repeat (first | (with_reducible first | exact HB.out | apply za14 | apply za7 | apply za9) | exact HB.out))) : w.heap.size ≤ gb238)); have n3_ := za1 ((by rw [hg]; exact (za29 (by repeat (first | (with_reducible first | exact HB.out | apply za14 | apply za7 | apply za9) | exact HB.out))) : w.heap.size ≤ gb238)); clear HB; have HB := n0_; have BK238 := n1_; have GW238 := n2_; have GE238 := n3_; clear n0_ n1_ n2_ n3_; clear hb hbox hg; have hcz20_0 : w19.cell? ⟨gb238, 0, none⟩ = some (.slice A0_0 l0_0.length c0_0) := (za15 BK238.out 0).trans rfl; have hcz20_1 : w19.cell? ⟨gb238, 1, none⟩ = some (.int .i64 a0_1) := (za15 BK238.out 1).trans rfl; have hfz20_0 := blk_frozen BK238.out 0; have hfz20_1 := blk_frozen BK238.out 1) | ((with_reducible refine gate_callee (f := 53) rfl ?_); refine goesL_ (some 6) rfl rfl Try.func53 (by kernel_rfl) rfl #[.int .i64 (l0_0.length : Int), .int .i64 1, .int .i64 4] rfl (by (try simp only [za18, za26, za27]); first | done | rfl | (simp only [za20, za19]; rfl)) ?_; (with_reducible refine (impl_InRange.calls (l0_0.length : Int) 1 4 true _ A2.out).mono ?_); rintro e w' ⟨rfl, ⟨nd, rfl⟩⟩; refine ⟨_, rfl, ?_⟩) | (go_at_call 54; (with_reducible refine (impl_ascending.calls k _ _ l0_0 true _ ?side1 ?side2 A4.out).mono ?_); (case side1 => repeat (first | exact (za30 HR0_0.out (by repeat (first | (with_reducible first | exact HB.out | apply za14 | apply za7 | apply za9 | refine za8 ?_ GE238.out) | exact HB.out))) | (with_reducible refine za24 ?_ _) | (with_reducible refine za22 ?_ _) | (with_reducible refine za23 ?_))); (case side2 => exact HC0_0.out); rintro e w' ⟨rfl, ⟨nd, rfl⟩⟩; have p241 : 0 ≤ (0 : Int) := (by omega); have q241 : 0 < (l0_0.length : Int) := za35 (by first | (with_reducible assumption) | assumption); obtain ⟨ad241, e241, hx241_0⟩ := Kd.at_int HR0_0.out 0 p241 q241; cases e241; have qi241 : (0 < l0_0.length) = True := eq_true (by omega); (try rw [show ((0 : Int)).toNat = 0 from rfl] at hx241_0); (try rw [Addr.add_zero'] at hx241_0); replace hx241_0 := (HB.out.cell (World.block_lt_of_cell? w _ hx241_0)).trans hx241_0; replace p241 := eq_true p241; replace q241 := eq_true q241) | (go_at_call 55; (with_reducible refine (impl_isKey.calls (rd l0_0 0) false _ A7.out).mono ?_); rintro e w' ⟨rfl, ⟨nd, rfl⟩⟩))
     go_ret
     exact ⟨by first | rfl | (simp [errW_none, errW_some] <;> rfl) | (simp [*, errW_none, errW_some] <;> rfl), by repeat (first | (with_reducible first | exact HB.out | apply za14 | apply za7 | apply za9 | refine za8 ?_ GE238.out) | exact HB.out)⟩
   ·rw [if_neg c6] at H
    exact absurd H (by simp)
  ·replace c5 := Bool.eq_false_iff.mpr c5
   subst c5
   have H1 : (some false) = some r := by rw [if_neg (show ¬ (false = true) by decide)] at H; exact H
   clear H
   have H := H1
   clear H1
   obtain rfl := za37 H
   go_enter Try.func21, Try.ntmps21
   go_wp2_with (first | ((with_reducible refine gate_dst (N := 1) rfl ?_); (try (refine gate_guard (by rfl) ?_; dsimp only)); refine box_event ?hg (N := 1) ?hd (cs := #[.slice A0_0 l0_0.length c0_0, .int .i64 a0_1]) (t := 37) ?hr ?_; (case hd => rfl); (case hg => rfl); (case hr => first | (go_simp; done) | (go_simp; rfl)); intro gb238 hg w21 hbox hb; have n0_ := za1 (za28 (by repeat (first | (with_reducible first | exact HB.out | apply za14 | apply za7 | apply za9) | exact HB.out)) hb); have n1_ := za1 (hbox); have n2_ := za1 ((by rw [hg]; exact (za29 (by repeat (first | (with_reducible first | exact HB.out | apply za14 | apply za7 | apply za9) | exact HB.out))) : w.heap.size ≤ gb238)); have n3_ := za1 ((by rw [hg]; exact (za29 (by repeat (first | (with_reducible first | exact HB.out | apply za14 | apply za7 | apply za9) | exact HB.out))) : w.heap.size ≤ gb238)); clear HB; have HB := n0_; have BK238 := n1_; have GW238 := n2_; have GE238 := n3_; clear n0_ n1_ n2_ n3_; clear hb hbox hg; have hcz22_0 : w21.cell? ⟨gb238, 0, none⟩ = some (.slice A0_0 l0_0.length c0_0) := (za15 BK238.out 0).trans rfl; have hcz22_1 : w21.cell? ⟨gb238, 1, none⟩ = some (.int .i64 a0_1) := (za15 BK238.out 1).trans rfl; have hfz22_0 := blk_frozen BK238.out 0; have hfz22_1 := blk_frozen BK238.out 1) | ((with_reducible refine gate_callee (f := 53) rfl ?_); refine goesL_ (some 6) rfl rfl Try.func53 (by kernel_rfl) rfl #[.int .i64 (l0_0.length : Int), .int .i64 1, .int .i64 4] rfl (by (try simp only [za18, za26, za27]); first | done | rfl | (simp only [za20, za19]; rfl)) ?_; (with_reducible refine (impl_InRange.calls (l0_0.length : Int) 1 4 true _ A2.out).mono ?_); rintro e w' ⟨rfl, ⟨nd, rfl⟩⟩; refine ⟨_, rfl, ?_⟩) | (go_at_call 54; (with_reducible refine (impl_ascending.calls k _ _ l0_0 false _ ?side1 ?side2 A4.out).mono ?_); (case side1 => repeat (first | exact (za30 HR0_0.out (by repeat (first | (with_reducible first | exact HB.out | apply za14 | apply za7 | apply za9 | refine za8 ?_ GE238.out) | exact HB.out))) | (with_reducible refine za24 ?_ _) | (with_reducible refine za22 ?_ _) | (with_reducible refine za23 ?_))); (case side2 => exact HC0_0.out); rintro e w' ⟨rfl, ⟨nd, rfl⟩⟩))
   go_ret
   exact ⟨by first | rfl | (simp [errW_none, errW_some] <;> rfl) | (simp [*, errW_none, errW_some] <;> rfl), by repeat (first | (with_reducible first | exact HB.out | apply za14 | apply za7 | apply za9 | refine za8 ?_ GE238.out) | exact HB.out)⟩
 ·replace c3 := Bool.eq_false_iff.mpr c3
  subst c3
  have H1 : (some false) = some r := by rw [if_neg (show ¬ (false = true) by decide)] at H; exact H
  clear H
  have H := H1
  clear H1
  obtain rfl := za37 H
  go_enter Try.func21, Try.ntmps21
  go_wp2_with (first | ((with_reducible refine gate_dst (N := 1) rfl ?_); (try (refine gate_guard (by rfl) ?_; dsimp only)); refine box_event ?hg (N := 1) ?hd (cs := #[.slice A0_0 l0_0.length c0_0, .int .i64 a0_1]) (t := 37) ?hr ?_; (case hd => rfl); (case hg => rfl); (case hr => first | (go_simp; done) | (go_simp; rfl)); intro gb238 hg w23 hbox hb; have n0_ := za1 (za28 (by repeat (first | (with_reducible first | exact HB.out | apply za14 | apply za7 | apply za9) | exact HB.out)) hb); have n1_ := za1 (hbox); have n2_ := za1 ((by rw [hg]; exact (za29 (by repeat (first | (with_reducible first | exact HB.out | apply za14 | apply za7 | apply za9) | exact HB.out))) : w.heap.size ≤ gb238)); have n3_ := za1 ((by rw [hg]; exact (za29 (by repeat (first | (with_reducible first | exact HB.out | apply za14 | apply za7 | apply za9) | exact HB.out))) : w.heap.size ≤ gb238)); clear HB; have HB := n0_; have BK238 := n1_; have GW238 := n2_; have GE238 := n3_; clear n0_ n1_ n2_ n3_; clear hb hbox hg; have hcz24_0 : w23.cell? ⟨gb238, 0, none⟩ = some (.slice A0_0 l0_0.length c0_0) := (za15 BK238.out 0).trans rfl; have hcz24_1 : w23.cell? ⟨gb238, 1, none⟩ = some (.int .i64 a0_1) := (za15 BK238.out 1).trans rfl; have hfz24_0 := blk_frozen BK238.out 0; have hfz24_1 := blk_frozen BK238.out 1) | ((with_reducible refine gate_callee (f := 53) rfl ?_); refine goesL_ (some 6) rfl rfl Try.func53 (by kernel_rfl) rfl #[.int .i64 (l0_0.length : Int), .int .i64 1, .int .i64 4] rfl (by (try simp only [za18, za26, za27]); first | done | rfl | (simp only [za20, za19]; rfl)) ?_; (with_reducible refine (impl_InRange.calls (l0_0.length : Int) 1 4 false _ A2.out).mono ?_); rintro e w' ⟨rfl, ⟨nd, rfl⟩⟩; refine ⟨_, rfl, ?_⟩))
  go_ret
  exact ⟨by first | rfl | (simp [errW_none, errW_some] <;> rfl) | (simp [*, errW_none, errW_some] <;> rfl), by repeat (first | (with_reducible first | exact HB.out | apply za14 | apply za7 | apply za9 | refine za8 ?_ GE238.out) | exact HB.out)⟩

end Go.Proofs.Ytanogkaledgecaa.PFnThresholds
