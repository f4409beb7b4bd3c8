/- The machine's side of a law: what its Go functions compute, as Lean functions, and the walks that show it; laid by this session's program (wip/tools) out of the translation. Conditions: those of each theorem. -/
import Derived.Test.YtaebboanblfmjaaPFnExactIsSignedx0
import Derived.Test.YtaebboanblfmjaaPFnExactIsSignedx5
namespace Go.Proofs.Ytaebboanblfmjaa.PFnExactIsSigned
open Go.RowKit Go.Proofs.YtaebboanblfmjaaW.PrintWords Go.Proofs.YtaebboanblfmjaaW.PrintLast Go.Proofs.YtaebboanblfmjaaW.PrintMore
attribute [local go_sem] max2_int min2_int max_two min_two max_three min_three max_four min_four   -- for this text's walks alone
set_option linter.unusedVariables false
set_option linter.unusedSimpArgs false

/-! ### impl_KeyedHash: function 66 -/
theorem impl_KeyedHash.info : (Try.prog.info? 3).map (fun i => (i.zero, i.size, i.bytes)) = some (some (.int .i64 0), 1, 8) := by kernel_rfl
set_option maxHeartbeats 8000000 in
set_option maxRecDepth 100000 in
/-- slices.Grow of nil: a row of the call's own that holds nothing. -/
theorem impl_KeyedHash.grow (n : Nat) (w : World) (h0 : 0 < n) (hn : n ≤ 17592186044416) :
    Calls Try.prog 75 #[.slice none 0 0, .int .i64 (n : Int)] w fun e w' => ∃ v0_ : Value, e = .returned (v0_) ∧ Kd.R (Kd.int .i64) 3 w' w.heap.size (fun _ => True) v0_ [] ∧ Below w.heap.size w w' := by
  obtain ⟨i0, hi, hz0, hz1, hz2⟩ := info_parts impl_KeyedHash.info
  have HI := Aside0.mk hi
  clear hi hz0 hz1 hz2
  have hcut0 := cut_to (P := Try.prog) 22 3 .i64 Try.underlying22 HI.out none 0 0 0 (by omega) (by omega) (by omega)
  go_enter Try.func75, Try.ntmps75
  go_wp2_with (at_builtin; go_loud (refine Kd.R_append_zeros (Kd.int .i64) (w0 := w) w.heap.size rfl _ _ 22 3 3 (.int .i64 0) 8 rfl Try.underlying22 Try.underlying3 impl_KeyedHash.info rfl (by decide) (by decide) _ [] (0 : Int) (n : Int) (fun _ => True) rfl rfl rfl (fun _ _ => trivial) (Kd.R_nil _ _ _ _ _) (by omega) (Below.refl _ _) (Nat.le_refl _) (by simp; omega) ?_); go_loud (intro v1 w1 hR hB hg ha; have hlen : ([] ++ List.replicate (n : Int).toNat (0 : Int)).length = n := (by simp); have HB1 := Aside0.mk hB; obtain ⟨g, cap, rfl, hgb, hgl, hG⟩ := Kd.R_form hR (by omega); have hcl := (Kd.R_reads' hR).2.1; have HR1 := Aside0.mk hR; have hcut1 := cut_to (P := Try.prog) 22 3 .i64 Try.underlying22 HI.out (some ⟨g, 0, none⟩) _ cap 0 (by omega) (by omega) hcl; rw [hlen] at hcut1; clear hR hB hg ha hlen hgb hgl hcl hG))
  go_ret
  exact ⟨_, rfl, Kd.R_take HR1.out (m := 0) (by omega), HB1.out⟩
/-- The numbers of the first j rows of a list of rows. -/
def impl_KeyedHash.cat (L : List (Option Addr × Nat × List Int)) (j : Nat) : List Int := ((L.take j).map (·.2.2)).flatten
theorem impl_KeyedHash.cat_succ (L : List (Option Addr × Nat × List Int)) (j : Nat) (p : Option Addr × Nat × List Int) (h : L[j]? = some p) : impl_KeyedHash.cat L (j + 1) = impl_KeyedHash.cat L j ++ p.2.2 := by
  obtain ⟨hl, rfl⟩ := List.getElem?_eq_some_iff.1 h
  unfold impl_KeyedHash.cat
  rw [List.take_succ_eq_append_getElem hl, List.map_append, List.flatten_append]
  simp only [List.map_cons, List.map_nil, List.flatten_cons, List.flatten_nil, List.append_nil]
theorem impl_KeyedHash.cat_le (L : List (Option Addr × Nat × List Int)) (j : Nat) : (impl_KeyedHash.cat L j).length ≤ (impl_KeyedHash.cat L L.length).length := by
  unfold impl_KeyedHash.cat
  rw [List.take_length]
  have h := congrArg (fun l => ((l.map (·.2.2)).flatten).length) (List.take_append_drop j L)
  simp only [List.map_append, List.flatten_append, List.length_append] at h
  omega
set_option maxHeartbeats 8000000 in
set_option maxRecDepth 100000 in
/-- slices.Concat of rows that are read: a row of the call's own. -/
theorem impl_KeyedHash.concat (L : List (Option Addr × Nat × List Int)) (ad : Addr) (c : Nat) (w : World) (hm : L.length ≤ 1000) (hcell : ∀ (j : Nat) (p : Option Addr × Nat × List Int), L[j]? = some p → w.cell? (ad.add j) = some (.slice p.1 p.2.2.length p.2.1))
    (hread : ∀ (j : Nat) (p : Option Addr × Nat × List Int), L[j]? = some p → Kd.C (Kd.int .i64) w p.1 p.2.2.length p.2.2) (h0 : 0 < (impl_KeyedHash.cat L L.length).length) (hn : (impl_KeyedHash.cat L L.length).length ≤ 17592186044416) :
    Calls Try.prog 73 #[.slice (some ad) L.length c] w fun e w' => ∃ v0_ : Value, e = .returned (v0_) ∧ Kd.R (Kd.int .i64) 3 w' w.heap.size (fun _ => True) v0_ (impl_KeyedHash.cat L L.length) ∧ Below w.heap.size w w' := by
  have HCELL := Aside0.mk hcell
  have HREAD := Aside0.mk hread
  have HLE := Aside0.mk (impl_KeyedHash.cat_le L)
  clear hcell hread
  go_enter Try.func73, Try.ntmps73
  go_wp2
  go_loop [3, 11] (fun s i => ∃ j : Nat, j ≤ L.length ∧ i = .int .i64 (j : Int) ∧ s = .int .i64 ((impl_KeyedHash.cat L j).length : Int)) (fun _ i => L.length - (intOf i).toNat)
  case atStart => exact ⟨0, Nat.zero_le _, rfl, rfl⟩
  case round =>
    obtain ⟨j, hj, rfl, rfl⟩ := hrel
    by_cases hlt : j < L.length
    · have hc := HCELL.out j _ (List.getElem?_eq_getElem hlt)
      have HS := Aside0.mk (impl_KeyedHash.cat_succ L j _ (List.getElem?_eq_getElem hlt))
      have hle := HLE.out (j + 1)
      have hs : (impl_KeyedHash.cat L (j + 1)).length = (impl_KeyedHash.cat L j).length + L[j].2.2.length := by rw [HS.out]; simp
      have hb1 : (impl_KeyedHash.cat L j).length + L[j].2.2.length ≤ 17592186044416 := by omega
      have HS2 := Aside0.mk hs
      clear hs
      go_wp2
      go_round
      case rel => exact ⟨j + 1, by omega, by go_num, by rw [HS2.out]; go_num⟩
      case measure => simp [intOf]; omega
    · obtain rfl : j = L.length := by omega
      go_wp2_with (go_at_call 75; refine (impl_KeyedHash.grow _ _ h0 hn).mono ?_; rintro e w1 ⟨v1, rfl, hR, hB⟩; have HR1 := Aside0.mk hR; have HB1 := Aside0.mk hB; clear hR hB)
      go_loopw [6, 27] (fun v i wr => ∃ j : Nat, j ≤ L.length ∧ i = .int .i64 (j : Int) ∧ Aside0 (Kd.R (Kd.int .i64) 3 wr w.heap.size (fun _ => True) v (impl_KeyedHash.cat L j)) ∧ Aside0 (Below w.heap.size w wr)) (fun _ i _ => L.length - (intOf i).toNat)
      case atStart => exact ⟨0, Nat.zero_le _, rfl, HR1, HB1⟩
      case round =>
        clear HR1 HB1
        obtain ⟨j, hj2, rfl, HR, HB⟩ := hrel
        by_cases hlt2 : j < L.length
        · have hc0 := HCELL.out j _ (List.getElem?_eq_getElem hlt2)
          have hc := (HB.out.cell (World.block_lt_of_cell? w _ hc0)).trans hc0
          have HS := Aside0.mk (impl_KeyedHash.cat_succ L j _ (List.getElem?_eq_getElem hlt2))
          have hle := HLE.out (j + 1)
          have HS2 := Aside0.mk (show (impl_KeyedHash.cat L (j + 1)).length = (impl_KeyedHash.cat L j).length + L[j].2.2.length from by rw [HS.out]; simp)
          have HBD := Aside0.mk (show (impl_KeyedHash.cat L j).length + L[j].2.2.length ≤ 17592186044416 from by have := HS2.out; omega)
          have HRD := Aside0.mk (Kd.C_below (HREAD.out j _ (List.getElem?_eq_getElem hlt2)) HB.out)
          clear hc0
          go_wp2_with (at_builtin; go_loud (refine Kd.R_append_rows (Kd.int .i64) (w0 := w) w.heap.size rfl _ _ 22 3 (.int .i64 0) 8 rfl Try.underlying22 impl_KeyedHash.info rfl (by decide) (by decide) _ (impl_KeyedHash.cat L j) L[j].2.2 L[j].1 L[j].2.2.length L[j].2.1 (fun _ => True) (fun _ => False) rfl rfl HR.out HRD.out (fun _ _ h => h) (fun _ h => h.elim) (fun _ _ => trivial) HB.out HB.out.size (by have := HBD.out; omega) ?_); intro v2 w2 hR hB hg ha; have HR2 := Aside0.mk hR; have HB2 := Aside0.mk hB; clear hR hB hg ha)
          go_roundw
          case rel => exact ⟨j + 1, by omega, by go_num, ⟨by rw [HS.out]; exact HR2.out⟩, HB2⟩
          case measure => simp [intOf]; omega
        · obtain rfl : j = L.length := by omega
          go_wp2
          go_ret
          exact ⟨_, rfl, HR.out, HB.out⟩
theorem impl_KeyedHash.single {W : World} {g : Nat} {x : Int} {e : TypeId} (h : W.heap[g]? = some (.cells #[.int .i64 x] e (0, 0))) : Kd.C (Kd.int .i64) W (some ⟨g, 0, none⟩) 1 [x] :=
  Kd.C_of_reads (d := (0 : Int)) ⟨rfl, by decide, fun _ => ⟨_, rfl, fun j hj => by
    obtain rfl : j = 0 := by omega
    rw [add_plain, cell_of_row W g 0 _ e (0, 0) h]
    rfl⟩⟩
/-- The call of slices.Concat with the key, the values and the key. -/
theorem impl_KeyedHash.three (a0 : Int) (A1 : Option Addr) (c1 : Nat) (l1 : List Int) (w W : World) (g : Nat) (hr1 : Kd.C (Kd.int .i64) W A1 l1.length l1) (hl : l1.length + 2 ≤ 17592186044416)
    (e0 : W.heap[g]? = some (.cells #[.int .i64 a0] 3 (0, 0))) (e1 : W.heap[g + 1]? = some (.cells #[.int .i64 a0] 3 (0, 0)))
    (e2 : W.heap[g + 1 + 1]? = some (.cells #[.slice (some ⟨g, 0, none⟩) 1 1, .slice A1 l1.length c1, .slice (some ⟨g + 1, 0, none⟩) 1 1] 22 (0, 0))) :
    Calls Try.prog 73 #[.slice (some ⟨g + 1 + 1, 0, none⟩) 3 3] W fun e w' => ∃ v0_ : Value, e = .returned (v0_) ∧ Kd.R (Kd.int .i64) 3 w' W.heap.size (fun _ => True) v0_ (a0 :: (l1 ++ [a0])) ∧ Below W.heap.size W w' := by
  have hcat : impl_KeyedHash.cat [(some (⟨g, 0, none⟩ : Addr), 1, [a0]), (A1, c1, l1), (some ⟨g + 1, 0, none⟩, 1, [a0])] 3 = a0 :: (l1 ++ [a0]) := by simp [impl_KeyedHash.cat]
  have K := impl_KeyedHash.concat [(some (⟨g, 0, none⟩ : Addr), 1, [a0]), (A1, c1, l1), (some ⟨g + 1, 0, none⟩, 1, [a0])] ⟨g + 1 + 1, 0, none⟩ 3 W (by simp)
    (by
      intro j p hp
      rw [add_plain, cell_of_row _ _ _ _ _ _ e2]
      match j, hp with
      | 0, hp => cases hp; rfl
      | 1, hp => cases hp; rfl
      | 2, hp => cases hp; rfl
      | j + 3, hp => simp at hp)
    (by
      intro j p hp
      match j, hp with
      | 0, hp => cases hp; exact impl_KeyedHash.single e0
      | 1, hp => cases hp; exact hr1
      | 2, hp => cases hp; exact impl_KeyedHash.single e1
      | j + 3, hp => simp at hp)
    (by
      show 0 < (impl_KeyedHash.cat _ 3).length
      rw [hcat]; simp)
    (by
      show (impl_KeyedHash.cat _ 3).length ≤ 17592186044416
      rw [hcat]; simp; omega)
  simp only [List.length_cons, List.length_nil, Nat.zero_add, Nat.reduceAdd] at K
  rw [hcat] at K
  exact K
def impl_KeyedHash.f (k : Nat) (a0 : Int) (l1 : List Int) : Option (Int) := if l1.length + 2 ≤ 17592186044416 then impl_Hash.f k (a0 :: (l1 ++ [a0])) else none
theorem impl_KeyedHash.mono : ∀ a0 a1 k, LeO (impl_KeyedHash.f k a0 a1) (impl_KeyedHash.f (k + 1) a0 a1) := by
  intro a0 a1 k
  unfold impl_KeyedHash.f
  exact LeO.ite (impl_Hash.mono _ _) (LeO.none _)
set_option maxHeartbeats 8000000 in
set_option maxRecDepth 100000 in
theorem impl_KeyedHash.calls (k : Nat) (a0 : Int) (A1 : Option Addr) (c1 : Nat) (l1 : List Int) (r : Int) (w : World) (hr1 : Kd.C (Kd.int .i64) w A1 l1.length l1) (hc1 : l1.length ≤ c1) (h : impl_KeyedHash.f k a0 l1 = some r) :
    Calls Try.prog 66 #[.int .i64 a0, .slice A1 l1.length c1] w fun e w' => e = .returned (.int .i64 r) ∧ Below w.heap.size w w' := by
  have HR1 := Aside0.mk hr1
  have HC1 := Aside0.mk hc1
  clear hr1 hc1
  have hl : l1.length + 2 ≤ 17592186044416 ∧ impl_Hash.f k (a0 :: (l1 ++ [a0])) = some r := by
    unfold impl_KeyedHash.f at h
    split at h
    · exact ⟨‹_›, h⟩
    · cases h
  clear h
  obtain ⟨hl, h⟩ := hl
  have HL := Aside0.mk hl
  obtain ⟨ls, hls⟩ : ∃ ls : List Int, ls = a0 :: (l1 ++ [a0]) := ⟨_, rfl⟩
  rw [← hls] at h
  have H := Aside0.mk h
  have HLS := Aside0.mk hls
  clear h hl hls
  go_enter Try.func66, Try.ntmps66
  go_wp2_with fail
  have g0 := heap_alloc_new w (.cells #[Value.int IntKind.i64 a0] 3)
  have g1 := heap_alloc_new (w.alloc (.cells #[Value.int IntKind.i64 a0] 3)) (.cells #[Value.int IntKind.i64 a0] 3)
  have g2 := heap_alloc_new ((w.alloc (.cells #[Value.int IntKind.i64 a0] 3)).alloc (.cells #[Value.int IntKind.i64 a0] 3)) (.cells #[Value.slice (some { block := w.heap.size, off := 0 }) 1 1, Value.slice A1 l1.length c1, Value.slice (some { block := w.heap.size + 1, off := 0 }) 1 1] 22)
  have s1 : (w.alloc (.cells #[Value.int IntKind.i64 a0] 3)).heap.size = w.heap.size + 1 := by simp
  have s2 : ((w.alloc (.cells #[Value.int IntKind.i64 a0] 3)).alloc (.cells #[Value.int IntKind.i64 a0] 3)).heap.size = w.heap.size + 1 + 1 := by simp
  rw [s1] at g1
  rw [s2] at g2
  have e1 := (Below.heap_alloc ((w.alloc (.cells #[Value.int IntKind.i64 a0] 3)).alloc (.cells #[Value.int IntKind.i64 a0] 3)) (.cells #[Value.slice (some { block := w.heap.size, off := 0 }) 1 1, Value.slice A1 l1.length c1, Value.slice (some { block := w.heap.size + 1, off := 0 }) 1 1] 22) (w.heap.size + 1) (by omega)).trans g1
  have e0 := (Below.heap_alloc ((w.alloc (.cells #[Value.int IntKind.i64 a0] 3)).alloc (.cells #[Value.int IntKind.i64 a0] 3)) (.cells #[Value.slice (some { block := w.heap.size, off := 0 }) 1 1, Value.slice A1 l1.length c1, Value.slice (some { block := w.heap.size + 1, off := 0 }) 1 1] 22) w.heap.size (by omega)).trans ((Below.heap_alloc (w.alloc (.cells #[Value.int IntKind.i64 a0] 3)) (.cells #[Value.int IntKind.i64 a0] 3) w.heap.size (by omega)).trans g0)
  have hb3 : Below w.heap.size w (((w.alloc (.cells #[Value.int IntKind.i64 a0] 3)).alloc (.cells #[Value.int IntKind.i64 a0] 3)).alloc (.cells #[Value.slice (some { block := w.heap.size, off := 0 }) 1 1, Value.slice A1 l1.length c1, Value.slice (some { block := w.heap.size + 1, off := 0 }) 1 1] 22)) := below_alloc (below_alloc (below_alloc (Below.refl _ _) _) _) _
  have K := impl_KeyedHash.three a0 A1 c1 l1 w _ w.heap.size (Kd.C_below HR1.out hb3) HL.out e0 e1 g2
  rw [← HLS.out] at K
  have HB3 := Aside0.mk hb3
  clear g0 g1 g2 s1 s2 e0 e1 hb3
  refine K.mono ?_
  clear K
  rintro e w4 ⟨v4, rfl, hR, hB⟩
  obtain ⟨A4, c4, rfl, hl4, hC4⟩ := Kd.R_reads hR
  have HC4 := Aside0.mk hC4
  have HL4 := Aside0.mk hl4
  have HB4 := Aside0.mk (HB3.out.trans (hB.mono HB3.out.size))
  clear hR hB hC4 hl4
  go_wp2_with fail
  refine (impl_Hash.calls k A4 c4 _ r _ HC4.out HL4.out H.out).mono ?_
  rintro e w5 ⟨rfl, hd⟩
  have HB5 := Aside0.mk (below_then HB4.out HB4.out.size (hd.below))
  clear hd
  go_wp2
  go_ret
  exact ⟨rfl, HB5.out⟩

/-! ### impl_TagOf: function 39 -/
def impl_TagOf.f (k : Nat) (a0 : Int) (l1 : List Int) : Option (Int) := (some (([223] : List Int) : List Int)).bind fun y186 => (if y186.length + l1.length < 17592186044416 then ((impl_KeyedHash.f k a0 (y186 ++ l1)).bind fun t192 => (some t192)) else (none))
theorem impl_TagOf.mono : ∀ a0 a1 k, LeO (impl_TagOf.f k a0 a1) (impl_TagOf.f (k + 1) a0 a1) := by
  intro a0 a1 k
  unfold impl_TagOf.f
  repeat' first
      | (with_reducible exact impl_KeyedHash.mono _ _ _)
      | (with_reducible exact LeO.refl _)
      | (with_reducible exact LeO.none _)
      | (with_reducible refine LeO.ite ?_ ?_)
      | (with_reducible refine LeO.bind ?_ (fun _ => ?_))
      | exact impl_KeyedHash.mono _ _ _
      | exact LeO.none _
      | refine LeO.ite ?_ ?_
      | refine LeO.bind ?_ (fun _ => ?_)
set_option maxHeartbeats 8000000 in
set_option maxRecDepth 100000 in
theorem impl_TagOf.calls (k : Nat) (a0 : Int) (A1 : Option Addr) (c1 : Nat) (l1 : List Int) (r : Int) (w : World) (hr1 : Kd.C (Kd.int .i64) w A1 l1.length l1) (hc1 : l1.length ≤ c1) (h : impl_TagOf.f k a0 l1 = some r) :
    Calls Try.prog 39 #[.int .i64 a0, .slice A1 l1.length c1] w fun e w' => e = .returned (.int .i64 r) ∧ Below w.heap.size w w' := by
  have HR1 := Aside0.mk hr1
  have HC1 := Aside0.mk hc1
  clear hr1 hc1
  have HB := Aside0.mk (Below.refl w.heap.size w)
  have H : ((some (([223] : List Int) : List Int)).bind fun y186 => (if y186.length + l1.length < 17592186044416 then ((impl_KeyedHash.f k a0 (y186 ++ l1)).bind fun t192 => (some t192)) else (none))) = some r := h
  clear h
  obtain ⟨y186, hy186⟩ : ∃ y_ : List Int, y_ = (([223] : List Int)) := ⟨_, rfl⟩
  replace H : (if y186.length + l1.length < 17592186044416 then ((impl_KeyedHash.f k a0 (y186 ++ l1)).bind fun t192 => (some t192)) else (none)) = some r := by first | (rw [hy186]; with_reducible exact H) | (have H2_ := (Option.bind_some _ _).symm.trans H; rw [hy186]; with_reducible exact H2_) | (have H2_ := (Option.bind_some _ _).symm.trans H; with_reducible exact H2_) | with_reducible exact H | (rw [hy186]; exact H) | exact H
  have Ny186 := Aside0.mk hy186
  clear hy186
  by_cases c3 : y186.length + l1.length < 17592186044416
  · rw [if_pos c3] at H
    have LMc3 := Aside0.mk c3
    clear c3
    obtain ⟨y189, hy189⟩ : ∃ y_ : List Int, y_ = (y186 ++ l1) := ⟨_, rfl⟩
    replace H : ((impl_KeyedHash.f k a0 y189).bind fun t192 => (some t192)) = some r := by first | (rw [hy189]; with_reducible exact H) | (have H2_ := (Option.bind_some _ _).symm.trans H; rw [hy189]; with_reducible exact H2_) | (have H2_ := (Option.bind_some _ _).symm.trans H; with_reducible exact H2_) | with_reducible exact H | (rw [hy189]; exact H) | exact H
    have Ny189 := Aside0.mk hy189
    clear hy189
    replace H := Option.bind_eq_some_iff.mp H
    obtain ⟨t192, A40, H⟩ := H
    replace H : (some t192) = some r := H
    have A4 := Aside0.mk A40
    clear A40
    obtain rfl := Option.some.inj H
    go_enter Try.func39, Try.ntmps39
    go_wp2_with (first | ((with_reducible refine gate_dst (N := 6) rfl ?_); refine Kd.R_lit (Kd.int .i64) _ 3 ?hg (N := 6) ?hd (xs := ([223] : List Int)) (inner := [.int .i64 223]) (ok := fun _ => True) (okp := fun _ => True) ?hr ?hp (fun _ hk => hk) trivial (Below.refl _ _) (Nat.le_refl _) (by simp) ?_; (case hd => rfl); (case hg => rfl); (case hr => first | (go_simp; done) | (go_simp; rfl)); (case hp => exact (Reps.one (show Kd.M (Kd.int .i64) _ _ _ 223 [.int .i64 223] from rfl) (Reps.none _ _))); intro v187 w5 ho6 hb hg_ hnew_; clear hg_ hnew_; (first | rw [← Ny186.out] at ho6 | (simp only [Int.reduceToNat] at ho6; rw [← Ny186.out] at ho6)); have n0_ := Aside0.mk (Kd.R_lower ho6 (below_size (by repeat (first | (with_reducible first | exact HB.out | apply below_alloc | apply pw_below_drewN | apply below_drew1) | exact HB.out)))); have n1_ := Aside0.mk (below_step (by repeat (first | (with_reducible first | exact HB.out | apply below_alloc | apply pw_below_drewN | apply below_drew1) | exact HB.out)) hb); clear HB; have HO188 := n0_; have HB := n1_; clear n0_ n1_; clear hb ho6) | ((with_reducible refine gate_builtin (b := .append) (xs := #[.tmp 6, .tmp 7]) rfl ?_); at_builtin; refine Kd.R_append_rows (Kd.int .i64) (w0 := w) w.heap.size rfl (.tmp 6) (.tmp 7) 22 3 (.int .i64 0) 8 rfl Try.underlying22 info3 rfl (by decide) (by omega) v187 y186 l1 _ _ _ (fun _ => True) (fun _ => False) rfl rfl ?aO ?aR (fun _ _ h => h) (fun _ h => h.elim) ?aF ?aB ?aS ?aL ?_; (case aR => repeat (first | exact (Kd.C_below HR1.out HB.out) | (with_reducible refine Kd.C_alloc ?_ _) | (with_reducible refine Kd.C_drewN ?_ _) | (with_reducible refine Kd.C_drew ?_))); (case aB => exact (by repeat (first | (with_reducible first | exact HB.out | apply below_alloc | apply pw_below_drewN | apply below_drew1) | exact HB.out))); (case aF => exact (fun _ _ => trivial)); (case aO => exact (by (with_reducible repeat (first | apply Kd.R_alloc | apply Kd.R_drewN | apply Kd.R_drew)); exact HO188.out)); (case aS => exact (below_size (by repeat (first | (with_reducible first | exact HB.out | apply below_alloc | apply pw_below_drewN | apply below_drew1) | exact HB.out)))); (case aL => have := LMc3.out; omega); intro v190 w7 ho hb hg hat; rw [← Ny189.out] at ho; have n0_ := Aside0.mk (hb); have n1_ := Aside0.mk (ho); clear HB; clear HO188; have HB := n0_; have HO191 := n1_; clear n0_ n1_; clear ho hb hg hat; obtain ⟨Ao8, co8, eo8⟩ := Kd.R_slice HO191.out; subst eo8) | ((with_reducible refine gate_callee (f := 66) rfl ?_); refine goesL_ (some 9) rfl rfl Try.func66 (by kernel_rfl) rfl #[.int .i64 a0, .slice Ao8 y189.length co8] rfl (by (try simp only [List.map_toArray, List.map_cons, List.map_nil]); first | done | rfl | (simp only [List.length_drop, List.length_take]; rfl)) ?_; (with_reducible refine (impl_KeyedHash.calls k a0 _ _ y189 t192 _ ?side1 ?side2 A4.out).mono ?_); (case side1 => repeat (first | exact (Kd.R_reads' HO191.out).2.2 | (with_reducible refine Kd.C_alloc ?_ _) | (with_reducible refine Kd.C_drewN ?_ _) | (with_reducible refine Kd.C_drew ?_))); (case side2 => exact (Kd.R_reads' HO191.out).2.1); rintro e w9 ⟨rfl, hb⟩; refine ⟨_, rfl, ?_⟩; have n0_ := Aside0.mk (Kd.R_below (by (with_reducible repeat (first | apply Kd.R_alloc | apply Kd.R_drewN | apply Kd.R_drew)); exact HO191.out) hb); have n1_ := Aside0.mk (below_step (by repeat (first | (with_reducible first | exact HB.out | apply below_alloc | apply pw_below_drewN | apply below_drew1) | exact HB.out)) hb); clear HO191; clear HB; have HO191 := n0_; have HB := n1_; clear n0_ n1_; (try clear hb); (try clear hb2); (try clear hk); (try clear hi)))
    go_ret
    exact ⟨by first | rfl | (simp [errW_none, errW_some] <;> rfl) | (simp [*, errW_none, errW_some] <;> rfl), by repeat (first | (with_reducible first | exact HB.out | apply below_alloc | apply pw_below_drewN | apply below_drew1) | exact HB.out)⟩
  · rw [if_neg c3] at H
    exact absurd H (by simp)

/-! ### impl_IsSigBy: function 42 -/
def impl_IsSigBy.f (k : Nat) (a0_0 : Int) (a0_1 : Int) (l1 : List Int) : Option (Bool) := (impl_isKey.f a0_0).bind fun t194 => (if t194 = true then ((impl_TagOf.f k a0_0 l1).bind fun t195 => (some (a0_1 == t195))) else (some false))
theorem impl_IsSigBy.mono : ∀ a0 a1 a2 k, LeO (impl_IsSigBy.f k a0 a1 a2) (impl_IsSigBy.f (k + 1) a0 a1 a2) := by
  intro a0 a1 a2 k
  unfold impl_IsSigBy.f
  repeat' first
      | (with_reducible exact impl_TagOf.mono _ _ _)
      | (with_reducible exact LeO.refl _)
      | (with_reducible exact LeO.none _)
      | (with_reducible refine LeO.ite ?_ ?_)
      | (with_reducible refine LeO.bind ?_ (fun _ => ?_))
      | exact impl_TagOf.mono _ _ _
      | exact LeO.none _
      | refine LeO.ite ?_ ?_
      | refine LeO.bind ?_ (fun _ => ?_)
def impl_IsSigBy.T1 : Bool × List (List Nat × List Nat) := (true, [([], []), ([0], [0]), ([1], [1]), ([2, 2], [2]), ([3], [3]), ([4, 3], [3, 4]), ([3], [3]), ([6, 3], [3, 6]), ([3], [3]), ([7, 8, 3, 3], [3, 7, 8]), ([5, 9, 3], [3, 5, 9]), ([3, 10], [3, 10]), ([11, 9, 0, 1, 2, 3, 4, 5, 6, 7, 8, 9, 10, 11], [11])])
def impl_IsSigBy.B1 : List Nat := [0, 1, 3, 7, 15, 31, 15, 79, 15, 463, 1023, 2047, 4095]
theorem impl_IsSigBy.tab1 : rtab .any (opsOf Try.f42 1) = impl_IsSigBy.T1 := by kernel_rfl
theorem impl_IsSigBy.bits1 : waitsOk impl_IsSigBy.T1.2 impl_IsSigBy.B1 = true := by kernel_rfl
set_option maxHeartbeats 8000000 in
set_option maxRecDepth 100000 in
theorem impl_IsSigBy.calls (k : Nat) (a0_0 : Int) (a0_1 : Int) (A1 : Option Addr) (c1 : Nat) (l1 : List Int) (r : Bool) (w : World) (hr1 : Kd.C (Kd.int .i64) w A1 l1.length l1) (hc1 : l1.length ≤ c1) (h : impl_IsSigBy.f k a0_0 a0_1 l1 = some r) :
    Calls Try.prog 42 #[.agg #[.int .i64 a0_0, .int .i64 a0_1], .slice A1 l1.length c1] w fun e w' => e = .returned (.bool r) ∧ Below w.heap.size w w' := by
  have hu49 := Try.underlying49
  have HR1 := Aside0.mk hr1
  have HC1 := Aside0.mk hc1
  clear hr1 hc1
  have HB := Aside0.mk (Below.refl w.heap.size w)
  have H : ((impl_isKey.f a0_0).bind fun t194 => (if t194 = true then ((impl_TagOf.f k a0_0 l1).bind fun t195 => (some (a0_1 == t195))) else (some false))) = some r := h
  clear h
  replace H := Option.bind_eq_some_iff.mp H
  obtain ⟨t194, A30, H⟩ := H
  replace H : (if t194 = true then ((impl_TagOf.f k a0_0 l1).bind fun t195 => (some (a0_1 == t195))) else (some false)) = some r := H
  have A3 := Aside0.mk A30
  clear A30
  by_cases c4 : t194 = true
  · subst c4
    have H1 : ((impl_TagOf.f k a0_0 l1).bind fun t195 => (some (a0_1 == t195))) = some r := by rw [if_pos rfl] at H; exact H
    clear H
    have H := H1
    clear H1
    replace H := Option.bind_eq_some_iff.mp H
    obtain ⟨t195, A50, H⟩ := H
    replace H : (some (a0_1 == t195)) = some r := H
    have A5 := Aside0.mk A50
    clear A50
    obtain rfl := Option.some.inj H
    go_enter Try.func42, Try.ntmps42
    try go_wp2_with (first | ((with_reducible refine gate_dst (N := 2) rfl ?_); refine box_event ?hg (N := 2) ?hd (cs := #[.int .i64 a0_0, .int .i64 a0_1]) (t := 49) ?hr ?_; (case hd => rfl); (case hg => rfl); (case hr => first | (go_simp; done) | (go_simp; rfl)); intro gb193 hg w6 hbox hb; have n0_ := Aside0.mk (below_step (by repeat (first | (with_reducible first | exact HB.out | apply below_alloc | apply pw_below_drewN | apply below_drew1) | exact HB.out)) hb); have n1_ := Aside0.mk (hbox); have n2_ := Aside0.mk ((by rw [hg]; exact (below_size (by repeat (first | (with_reducible first | exact HB.out | apply below_alloc | apply pw_below_drewN | apply below_drew1) | exact HB.out))) : w.heap.size ≤ gb193)); have n3_ := Aside0.mk ((by rw [hg]; exact (below_size (by repeat (first | (with_reducible first | exact HB.out | apply below_alloc | apply pw_below_drewN | apply below_drew1) | exact HB.out))) : w.heap.size ≤ gb193)); clear HB; have HB := n0_; have BK193 := n1_; have GW193 := n2_; have GE193 := n3_; clear n0_ n1_ n2_ n3_; clear hb hbox hg))
    have n0_ := Aside0.mk (blk_drew BK193.out)
    have n1_ := Aside0.mk (below_drew1 HB.out)
    clear BK193
    clear HB
    have BK193 := n0_
    have HB := n1_
    clear n0_ n1_
    refine start_ (n := 13) (S := fun w' => w'.cell? ⟨gb193, 0, none⟩ = some (.int .i64 a0_0) ∧ w'.cell? ⟨gb193, 1, none⟩ = some (.int .i64 a0_1)) (ds := []) #[false, false, false, false, false, false, false, false, false, false, false, false, false] (by kernel_rfl) rfl rfl ⟨(blk_cell BK193.out 0).trans rfl, (blk_cell BK193.out 1).trans rfl⟩ (fun hHeld => ?_); refine with_tabW impl_IsSigBy.tab1 impl_IsSigBy.bits1 (fun HT_ HW_ => ?_)
    generalize w6.drew = w7 at BK193 HB hHeld ⊢
    refine pure_ (i := 0) (N := some 5) (v := ?_) (a' := ?_) #[true, false, false, false, false, false, false, false, false, false, false, false, false] rfl rfl (any_of HT_.out (by kernel_rfl)) (fun _ _ _ h => h) (Or.inl ⟨by rfl, ?_⟩) ?_ ?_
    rotate_left
    · intro w'
      go_simp
      with_reducible rfl
    rotate_left
    · simp only [Act.put, List.setIfInBounds_toArray, List.set_cons_zero, List.set_cons_succ, i64_w, i32_w]
      rfl
    refine take_ (i := 1) (N := some 6) (v := ?_) (a' := ?_) #[true, true, false, false, false, false, false, false, false, false, false, false, false] rfl rfl (take_ofW HT_.out HW_.out (by kernel_rfl)) (fun _ _ _ h => h) (Or.inl ⟨by rfl, ?_⟩) hHeld ?_ ?_
    rotate_left
    · rintro w' ⟨s0, s1⟩
      go_simp
      with_reducible rfl
    rotate_left
    · simp only [Act.put, List.setIfInBounds_toArray, List.set_cons_zero, List.set_cons_succ, i64_w, i32_w]
      rfl
    refine one_ (i := 2) (N := some 7) #[true, true, true, false, false, false, false, false, false, false, false, false, false] rfl rfl (one_of HT_.out (by kernel_rfl)) (by decide) (fun K hK => ?_)
    refine goes_ Try.func60 (by kernel_rfl) rfl #[.int .i64 a0_0] (by rfl) rfl rfl (by (try simp only [List.map_toArray, List.map_cons, List.map_nil]); first | done | rfl | (simp only [List.length_drop, List.length_take]; rfl)) ?_
    with_reducible refine (impl_isKey.calls a0_0 true _ A3.out).mono ?_
    rintro e w' ⟨rfl, ⟨nd, rfl⟩⟩
    refine ⟨_, rfl, ?_⟩
    refine hK.out _ _ ⟨(blk_cell BK193.out 0).trans rfl, (blk_cell BK193.out 1).trans rfl⟩ (fun hHeld => ?_)
    clear hK K
    refine norm_ (a' := ?_) ?_ ?_
    rotate_left
    · show Act.put _ (some 7) _ = _
      simp only [Act.put, List.setIfInBounds_toArray, List.set_cons_zero, List.set_cons_succ, i64_w, i32_w]
      rfl
    refine pure_ (i := 3) (N := some 8) (v := ?_) (a' := ?_) #[true, true, true, true, false, false, false, false, false, false, false, false, false] rfl rfl (any_of HT_.out (by kernel_rfl)) (fun _ _ _ h => h) (Or.inl ⟨by rfl, ?_⟩) ?_ ?_
    rotate_left
    · intro w'
      go_simp
      with_reducible rfl
    rotate_left
    · simp only [Act.put, List.setIfInBounds_toArray, List.set_cons_zero, List.set_cons_succ, i64_w, i32_w]
      rfl
    refine pure_ (i := 4) (N := some 9) (v := ?_) (a' := ?_) #[true, true, true, true, true, false, false, false, false, false, false, false, false] rfl rfl (any_of HT_.out (by kernel_rfl)) (fun _ _ _ h => h) (Or.inl ⟨by rfl, ?_⟩) ?_ ?_
    rotate_left
    · intro w'
      go_simp
      with_reducible rfl
    rotate_left
    · simp only [Act.put, List.setIfInBounds_toArray, List.set_cons_zero, List.set_cons_succ, i64_w, i32_w]
      rfl
    refine pure_ (i := 6) (N := some 11) (v := ?_) (a' := ?_) #[true, true, true, true, true, false, true, false, false, false, false, false, false] rfl rfl (any_of HT_.out (by kernel_rfl)) (fun _ _ _ h => h) (Or.inl ⟨by rfl, ?_⟩) ?_ ?_
    rotate_left
    · intro w'
      go_simp
      with_reducible rfl
    rotate_left
    · simp only [Act.put, List.setIfInBounds_toArray, List.set_cons_zero, List.set_cons_succ, i64_w, i32_w]
      rfl
    refine pure_ (i := 8) (N := some 13) (v := ?_) (a' := ?_) #[true, true, true, true, true, false, true, false, true, false, false, false, false] rfl rfl (any_of HT_.out (by kernel_rfl)) (fun _ _ _ h => h) (Or.inl ⟨by rfl, ?_⟩) ?_ ?_
    rotate_left
    · intro w'
      go_simp
      with_reducible rfl
    rotate_left
    · simp only [Act.put, List.setIfInBounds_toArray, List.set_cons_zero, List.set_cons_succ, i64_w, i32_w]
      rfl
    refine take_ (i := 5) (N := some 10) (v := ?_) (a' := ?_) #[true, true, true, true, true, true, true, false, true, false, false, false, false] rfl rfl (take_ofW HT_.out HW_.out (by kernel_rfl)) (fun _ _ _ h => h) (Or.inl ⟨by rfl, ?_⟩) hHeld ?_ ?_
    rotate_left
    · rintro w' ⟨s0, s1⟩
      go_simp
      with_reducible rfl
    rotate_left
    · simp only [Act.put, List.setIfInBounds_toArray, List.set_cons_zero, List.set_cons_succ, i64_w, i32_w]
      rfl
    refine take_ (i := 7) (N := some 12) (v := ?_) (a' := ?_) #[true, true, true, true, true, true, true, true, true, false, false, false, false] rfl rfl (take_ofW HT_.out HW_.out (by kernel_rfl)) (fun _ _ _ h => h) (Or.inl ⟨by rfl, ?_⟩) hHeld ?_ ?_
    rotate_left
    · rintro w' ⟨s0, s1⟩
      go_simp
      with_reducible rfl
    rotate_left
    · simp only [Act.put, List.setIfInBounds_toArray, List.set_cons_zero, List.set_cons_succ, i64_w, i32_w]
      rfl
    refine one_ (i := 9) (N := some 14) #[true, true, true, true, true, true, true, true, true, true, false, false, false] rfl rfl (one_of HT_.out (by kernel_rfl)) (by decide) (fun K hK => ?_)
    refine goes_ Try.func39 (by kernel_rfl) rfl #[.int .i64 a0_0, .slice A1 l1.length c1] (by rfl) rfl rfl (by (try simp only [List.map_toArray, List.map_cons, List.map_nil]); first | done | rfl | (simp only [List.length_drop, List.length_take]; rfl)) ?_
    with_reducible refine (impl_TagOf.calls k a0_0 _ _ l1 t195 _ ?side1 ?side2 A5.out).mono ?_
    (case side1 => repeat (first | exact (Kd.C_below HR1.out (by repeat (first | (with_reducible first | exact HB.out | apply below_alloc | apply pw_below_drewN | apply below_drew1 | refine below_set ?_ GE193.out) | exact HB.out))) | (with_reducible refine Kd.C_alloc ?_ _) | (with_reducible refine Kd.C_drewN ?_ _) | (with_reducible refine Kd.C_drew ?_)))
    (case side2 => exact HC1.out)
    rintro e w8 ⟨rfl, hb⟩
    refine ⟨_, rfl, ?_⟩
    have n0_ := Aside0.mk (blk_below (g := gb193) (o := .cells #[.int .i64 a0_0, .int .i64 a0_1] 49 (0, 0)) (by (with_reducible repeat (first | refine blk_drewN ?_ _ | refine blk_drew ?_ | refine blk_alloc ?_ _)); exact BK193.out) hb)
    have n1_ := Aside0.mk (below_step (by repeat (first | (with_reducible first | exact HB.out | apply below_alloc | apply pw_below_drewN | apply below_drew1 | refine below_set ?_ GE193.out) | exact HB.out)) hb)
    clear BK193
    clear HB
    have BK193 := n0_
    have HB := n1_
    clear n0_ n1_
    (try clear hb)
    (try clear hb2)
    (try clear hk)
    (try clear hi)
    refine hK.out _ _ ⟨(blk_cell BK193.out 0).trans rfl, (blk_cell BK193.out 1).trans rfl⟩ (fun hHeld => ?_)
    clear hK K
    refine norm_ (a' := ?_) ?_ ?_
    rotate_left
    · show Act.put _ (some 14) _ = _
      simp only [Act.put, List.setIfInBounds_toArray, List.set_cons_zero, List.set_cons_succ, i64_w, i32_w]
      rfl
    refine pure_ (i := 10) (N := some 15) (v := ?_) (a' := ?_) #[true, true, true, true, true, true, true, true, true, true, true, false, false] rfl rfl (any_of HT_.out (by kernel_rfl)) (fun _ _ _ h => h) (Or.inl ⟨by rfl, ?_⟩) ?_ ?_
    rotate_left
    · intro w'
      go_simp
      with_reducible rfl
    rotate_left
    · simp only [Act.put, List.setIfInBounds_toArray, List.set_cons_zero, List.set_cons_succ, i64_w, i32_w]
      rfl
    refine pure_ (i := 11) (N := some 16) (v := ?_) (a' := ?_) #[true, true, true, true, true, true, true, true, true, true, true, true, false] rfl rfl (any_of HT_.out (by kernel_rfl)) (fun _ _ _ h => h) (Or.inl ⟨by rfl, ?_⟩) ?_ ?_
    rotate_left
    · intro w'
      go_simp
      with_reducible rfl
    rotate_left
    · simp only [Act.put, List.setIfInBounds_toArray, List.set_cons_zero, List.set_cons_succ, i64_w, i32_w]
      rfl
    refine pure_ (i := 12) (N := some 4) (v := ?_) (a' := ?_) #[true, true, true, true, true, true, true, true, true, true, true, true, true] rfl rfl (any_of HT_.out (by kernel_rfl)) (fun _ _ _ h => h) (Or.inl ⟨by rfl, ?_⟩) ?_ ?_
    rotate_left
    · intro w'
      go_simp
      with_reducible rfl
    rotate_left
    · simp only [Act.put, List.setIfInBounds_toArray, List.set_cons_zero, List.set_cons_succ, i64_w, i32_w]
      rfl
    refine done_ (done_of HT_.out (by kernel_rfl)) ?_
    try go_wp2
    go_ret
    exact ⟨by first | rfl | (simp [errW_none, errW_some] <;> rfl) | (simp [*, errW_none, errW_some] <;> rfl), by repeat (first | (with_reducible first | exact HB.out | apply below_alloc | apply pw_below_drewN | apply below_drew1 | refine below_set ?_ GE193.out) | exact HB.out)⟩
  · replace c4 := Bool.eq_false_iff.mpr c4
    subst c4
    have H1 : (some false) = some r := by rw [if_neg (show ¬ (false = true) by decide)] at H; exact H
    clear H
    have H := H1
    clear H1
    obtain rfl := Option.some.inj H
    go_enter Try.func42, Try.ntmps42
    try go_wp2_with (first | ((with_reducible refine gate_dst (N := 2) rfl ?_); refine box_event ?hg (N := 2) ?hd (cs := #[.int .i64 a0_0, .int .i64 a0_1]) (t := 49) ?hr ?_; (case hd => rfl); (case hg => rfl); (case hr => first | (go_simp; done) | (go_simp; rfl)); intro gb193 hg w9 hbox hb; have n0_ := Aside0.mk (below_step (by repeat (first | (with_reducible first | exact HB.out | apply below_alloc | apply pw_below_drewN | apply below_drew1) | exact HB.out)) hb); have n1_ := Aside0.mk (hbox); have n2_ := Aside0.mk ((by rw [hg]; exact (below_size (by repeat (first | (with_reducible first | exact HB.out | apply below_alloc | apply pw_below_drewN | apply below_drew1) | exact HB.out))) : w.heap.size ≤ gb193)); have n3_ := Aside0.mk ((by rw [hg]; exact (below_size (by repeat (first | (with_reducible first | exact HB.out | apply below_alloc | apply pw_below_drewN | apply below_drew1) | exact HB.out))) : w.heap.size ≤ gb193)); clear HB; have HB := n0_; have BK193 := n1_; have GW193 := n2_; have GE193 := n3_; clear n0_ n1_ n2_ n3_; clear hb hbox hg))
    have n0_ := Aside0.mk (blk_drew BK193.out)
    have n1_ := Aside0.mk (below_drew1 HB.out)
    clear BK193
    clear HB
    have BK193 := n0_
    have HB := n1_
    clear n0_ n1_
    refine start_ (n := 13) (S := fun w' => w'.cell? ⟨gb193, 0, none⟩ = some (.int .i64 a0_0) ∧ w'.cell? ⟨gb193, 1, none⟩ = some (.int .i64 a0_1)) (ds := []) #[false, false, false, false, false, false, false, false, false, false, false, false, false] (by kernel_rfl) rfl rfl ⟨(blk_cell BK193.out 0).trans rfl, (blk_cell BK193.out 1).trans rfl⟩ (fun hHeld => ?_); refine with_tabW impl_IsSigBy.tab1 impl_IsSigBy.bits1 (fun HT_ HW_ => ?_)
    generalize w9.drew = w10 at BK193 HB hHeld ⊢
    refine pure_ (i := 0) (N := some 5) (v := ?_) (a' := ?_) #[true, false, false, false, false, false, false, false, false, false, false, false, false] rfl rfl (any_of HT_.out (by kernel_rfl)) (fun _ _ _ h => h) (Or.inl ⟨by rfl, ?_⟩) ?_ ?_
    rotate_left
    · intro w'
      go_simp
      with_reducible rfl
    rotate_left
    · simp only [Act.put, List.setIfInBounds_toArray, List.set_cons_zero, List.set_cons_succ, i64_w, i32_w]
      rfl
    refine take_ (i := 1) (N := some 6) (v := ?_) (a' := ?_) #[true, true, false, false, false, false, false, false, false, false, false, false, false] rfl rfl (take_ofW HT_.out HW_.out (by kernel_rfl)) (fun _ _ _ h => h) (Or.inl ⟨by rfl, ?_⟩) hHeld ?_ ?_
    rotate_left
    · rintro w' ⟨s0, s1⟩
      go_simp
      with_reducible rfl
    rotate_left
    · simp only [Act.put, List.setIfInBounds_toArray, List.set_cons_zero, List.set_cons_succ, i64_w, i32_w]
      rfl
    refine one_ (i := 2) (N := some 7) #[true, true, true, false, false, false, false, false, false, false, false, false, false] rfl rfl (one_of HT_.out (by kernel_rfl)) (by decide) (fun K hK => ?_)
    refine goes_ Try.func60 (by kernel_rfl) rfl #[.int .i64 a0_0] (by rfl) rfl rfl (by (try simp only [List.map_toArray, List.map_cons, List.map_nil]); first | done | rfl | (simp only [List.length_drop, List.length_take]; rfl)) ?_
    with_reducible refine (impl_isKey.calls a0_0 false _ A3.out).mono ?_
    rintro e w' ⟨rfl, ⟨nd, rfl⟩⟩
    refine ⟨_, rfl, ?_⟩
    refine hK.out _ _ ⟨(blk_cell BK193.out 0).trans rfl, (blk_cell BK193.out 1).trans rfl⟩ (fun hHeld => ?_)
    clear hK K
    refine norm_ (a' := ?_) ?_ ?_
    rotate_left
    · show Act.put _ (some 7) _ = _
      simp only [Act.put, List.setIfInBounds_toArray, List.set_cons_zero, List.set_cons_succ, i64_w, i32_w]
      rfl
    refine pure_ (i := 3) (N := some 8) (v := ?_) (a' := ?_) #[true, true, true, true, false, false, false, false, false, false, false, false, false] rfl rfl (any_of HT_.out (by kernel_rfl)) (fun _ _ _ h => h) (Or.inl ⟨by rfl, ?_⟩) ?_ ?_
    rotate_left
    · intro w'
      go_simp
      with_reducible rfl
    rotate_left
    · simp only [Act.put, List.setIfInBounds_toArray, List.set_cons_zero, List.set_cons_succ, i64_w, i32_w]
      rfl
    refine pure_ (i := 4) (N := some 9) (v := undef) (a' := ?_) #[true, true, true, true, true, false, false, false, false, false, false, false, false] rfl rfl (any_of HT_.out (by kernel_rfl)) (fun _ _ _ h => h) (Or.inr ⟨by rfl, rfl⟩) ?_ ?_
    rotate_left
    · simp only [Act.put, List.setIfInBounds_toArray, List.set_cons_zero, List.set_cons_succ, i64_w, i32_w]
      rfl
    refine pure_ (i := 5) (N := some 10) (v := undef) (a' := ?_) #[true, true, true, true, true, true, false, false, false, false, false, false, false] rfl rfl (any_of HT_.out (by kernel_rfl)) (fun _ _ _ h => h) (Or.inr ⟨by rfl, rfl⟩) ?_ ?_
    rotate_left
    · simp only [Act.put, List.setIfInBounds_toArray, List.set_cons_zero, List.set_cons_succ, i64_w, i32_w]
      rfl
    refine pure_ (i := 6) (N := some 11) (v := undef) (a' := ?_) #[true, true, true, true, true, true, true, false, false, false, false, false, false] rfl rfl (any_of HT_.out (by kernel_rfl)) (fun _ _ _ h => h) (Or.inr ⟨by rfl, rfl⟩) ?_ ?_
    rotate_left
    · simp only [Act.put, List.setIfInBounds_toArray, List.set_cons_zero, List.set_cons_succ, i64_w, i32_w]
      rfl
    refine pure_ (i := 7) (N := some 12) (v := undef) (a' := ?_) #[true, true, true, true, true, true, true, true, false, false, false, false, false] rfl rfl (any_of HT_.out (by kernel_rfl)) (fun _ _ _ h => h) (Or.inr ⟨by rfl, rfl⟩) ?_ ?_
    rotate_left
    · simp only [Act.put, List.setIfInBounds_toArray, List.set_cons_zero, List.set_cons_succ, i64_w, i32_w]
      rfl
    refine pure_ (i := 8) (N := some 13) (v := undef) (a' := ?_) #[true, true, true, true, true, true, true, true, true, false, false, false, false] rfl rfl (any_of HT_.out (by kernel_rfl)) (fun _ _ _ h => h) (Or.inr ⟨by rfl, rfl⟩) ?_ ?_
    rotate_left
    · simp only [Act.put, List.setIfInBounds_toArray, List.set_cons_zero, List.set_cons_succ, i64_w, i32_w]
      rfl
    refine pure_ (i := 9) (N := some 14) (v := undef) (a' := ?_) #[true, true, true, true, true, true, true, true, true, true, false, false, false] rfl rfl (any_of HT_.out (by kernel_rfl)) (fun _ _ _ h => h) (Or.inr ⟨by rfl, rfl⟩) ?_ ?_
    rotate_left
    · simp only [Act.put, List.setIfInBounds_toArray, List.set_cons_zero, List.set_cons_succ, i64_w, i32_w]
      rfl
    refine pure_ (i := 10) (N := some 15) (v := undef) (a' := ?_) #[true, true, true, true, true, true, true, true, true, true, true, false, false] rfl rfl (any_of HT_.out (by kernel_rfl)) (fun _ _ _ h => h) (Or.inr ⟨by rfl, rfl⟩) ?_ ?_
    rotate_left
    · simp only [Act.put, List.setIfInBounds_toArray, List.set_cons_zero, List.set_cons_succ, i64_w, i32_w]
      rfl
    refine pure_ (i := 11) (N := some 16) (v := ?_) (a' := ?_) #[true, true, true, true, true, true, true, true, true, true, true, true, false] rfl rfl (any_of HT_.out (by kernel_rfl)) (fun _ _ _ h => h) (Or.inl ⟨by rfl, ?_⟩) ?_ ?_
    rotate_left
    · intro w'
      go_simp
      with_reducible rfl
    rotate_left
    · simp only [Act.put, List.setIfInBounds_toArray, List.set_cons_zero, List.set_cons_succ, i64_w, i32_w]
      rfl
    refine pure_ (i := 12) (N := some 4) (v := ?_) (a' := ?_) #[true, true, true, true, true, true, true, true, true, true, true, true, true] rfl rfl (any_of HT_.out (by kernel_rfl)) (fun _ _ _ h => h) (Or.inl ⟨by rfl, ?_⟩) ?_ ?_
    rotate_left
    · intro w'
      go_simp
      with_reducible rfl
    rotate_left
    · simp only [Act.put, List.setIfInBounds_toArray, List.set_cons_zero, List.set_cons_succ, i64_w, i32_w]
      rfl
    refine done_ (done_of HT_.out (by kernel_rfl)) ?_
    try go_wp2
    go_ret
    exact ⟨by first | rfl | (simp [errW_none, errW_some] <;> rfl) | (simp [*, errW_none, errW_some] <;> rfl), by repeat (first | (with_reducible first | exact HB.out | apply below_alloc | apply pw_below_drewN | apply below_drew1 | refine below_set ?_ GE193.out) | exact HB.out)⟩

/-! ### impl_CountSigs: function 46 -/
/-- Whether some signature is right for the key, asked in order. -/
def impl_CountSigs.one (k : Nat) (l1 : List Int) (key : Int) (s : S49) : Option Bool := if s.f0 = key then impl_IsSigBy.f k s.f0 s.f1 l1 else some false
def impl_CountSigs.has (k : Nat) (l1 : List Int) (key : Int) : List S49 → Option Bool
  | [] => some false
  | s :: l => (impl_CountSigs.one k l1 key s).bind fun b => if b = true then some true else impl_CountSigs.has k l1 key l
def impl_CountSigs.cnt (k : Nat) (l1 : List Int) (l2 : List S49) : List Int → Int → Option Int
  | [], n => some n
  | key :: t, n => (impl_CountSigs.has k l1 key l2).bind fun b => impl_CountSigs.cnt k l1 l2 t (if b = true then wrap64 (n + 1) else n)
def impl_CountSigs.f (k : Nat) (l0_0 : List Int) (a0_1 : Int) (l1 : List Int) (l2 : List S49) : Option Int := if l2.length ≤ 17592186044416 ∧ l0_0.length ≤ 17592186044416 then impl_CountSigs.cnt k l1 l2 l0_0 0 else none
theorem impl_CountSigs.one_mono (k : Nat) (l1 : List Int) (key : Int) (s : S49) : LeO (impl_CountSigs.one k l1 key s) (impl_CountSigs.one (k + 1) l1 key s) := by
  unfold impl_CountSigs.one
  exact LeO.ite (impl_IsSigBy.mono _ _ _ _) (LeO.refl _)
theorem impl_CountSigs.has_mono (k : Nat) (l1 : List Int) (key : Int) : ∀ l, LeO (impl_CountSigs.has k l1 key l) (impl_CountSigs.has (k + 1) l1 key l)
  | [] => LeO.refl _
  | s :: l => LeO.bind (impl_CountSigs.one_mono _ _ _ _) (fun _ => LeO.ite (LeO.refl _) (impl_CountSigs.has_mono k l1 key l))
theorem impl_CountSigs.cnt_mono (k : Nat) (l1 : List Int) (l2 : List S49) : ∀ l n, LeO (impl_CountSigs.cnt k l1 l2 l n) (impl_CountSigs.cnt (k + 1) l1 l2 l n)
  | [], _ => LeO.refl _
  | key :: l, n => LeO.bind (impl_CountSigs.has_mono k l1 key l2) (fun _ => impl_CountSigs.cnt_mono k l1 l2 l _)
theorem impl_CountSigs.mono : ∀ a0 a1 a2 a3 k, LeO (impl_CountSigs.f k a0 a1 a2 a3) (impl_CountSigs.f (k + 1) a0 a1 a2 a3) := by
  intro a0 a1 a2 a3 k
  unfold impl_CountSigs.f
  exact LeO.ite (impl_CountSigs.cnt_mono _ _ _ _ _) (LeO.none _)
set_option maxHeartbeats 8000000 in
set_option maxRecDepth 100000 in
/-- The predicate. -/
theorem impl_CountSigs.clo (k : Nat) (A1 : Option Addr) (c1 : Nat) (l1 : List Int) (key : Int) (s0 s1 : Int) (b : Bool) (kb mb : Nat) (w : World) (hr1 : Kd.C (Kd.int .i64) w A1 l1.length l1) (hc1 : l1.length ≤ c1)
    (hk : w.heap[kb]? = some (.cells #[.int .i64 key] 3 (0, 0))) (hm : w.heap[mb]? = some (.cells #[.slice A1 l1.length c1] 22 (0, 0))) (h : impl_CountSigs.one k l1 key ⟨s0, s1⟩ = some b) :
    Calls Try.prog 68 #[.agg #[.int .i64 s0, .int .i64 s1], .pointer (some ⟨kb, 0, none⟩), .pointer (some ⟨mb, 0, none⟩)] w fun e w' => e = .returned (.bool b) ∧ Below w.heap.size w w' := by
  have hu := Try.underlying49
  have HR1 := Aside0.mk hr1
  have HC1 := Aside0.mk hc1
  have HKB := Aside0.mk (blk_lt hk)
  have HMB := Aside0.mk (blk_lt hm)
  have HK := Aside0.mk ((blk_cell hk 0).trans rfl : w.cell? ⟨kb, 0, none⟩ = some (.int .i64 key))
  have HM := Aside0.mk ((blk_cell hm 0).trans rfl : w.cell? ⟨mb, 0, none⟩ = some (.slice A1 l1.length c1))
  clear hr1 hc1 hk hm
  unfold impl_CountSigs.one at h
  by_cases hq : s0 = key
  · have HQ : (s0 == key) = true := by simp [hq]
    have H : Aside0 (impl_IsSigBy.f k s0 s1 l1 = some b) := ⟨by rw [if_pos hq] at h; exact h⟩
    clear h hq
    go_enter Try.func68, Try.ntmps68
    go_wp2_with (first
      | ((with_reducible refine gate_dst (N := 3) rfl ?_); refine box_event ?hg (N := 3) ?hd (cs := #[.int .i64 s0, .int .i64 s1]) (t := 49) ?hr ?_; (case hd => rfl); (case hg => rfl); (case hr => first | (go_simp; done) | (go_simp; rfl)); intro gb hg w1 hbox hb; have hcs0 : w1.cell? ⟨gb, 0, none⟩ = some (.int .i64 s0) := (blk_cell hbox 0).trans rfl; have hcs1 : w1.cell? ⟨gb, 1, none⟩ = some (.int .i64 s1) := (blk_cell hbox 1).trans rfl; have hck := (hb.cell (p := ⟨kb, 0, none⟩) HKB.out).trans HK.out; have hcm := (hb.cell (p := ⟨mb, 0, none⟩) HMB.out).trans HM.out; have HB1 := Aside0.mk hb; clear hb hbox hg)
      | (go_at_call 42; go_loud (refine (impl_IsSigBy.calls k s0 s1 A1 c1 l1 b _ (Kd.C_below HR1.out (by repeat (first | exact HB1.out | apply pw_below_drewN | apply below_drew1))) HC1.out H.out).mono ?_); rintro e w2 ⟨rfl, hd⟩; have HB2 := Aside0.mk (below_then (by repeat (first | exact HB1.out | apply pw_below_drewN | apply below_drew1)) (by first | exact HB1.out.size | (simp; exact HB1.out.size)) hd); clear hd))
    go_ret
    exact ⟨rfl, by repeat (first | exact HB2.out | apply pw_below_drewN | apply below_drew1)⟩
  · have HQ : (s0 == key) = false := by simp [hq]
    obtain rfl : b = false := by
      rw [if_neg hq] at h
      exact (Option.some.inj h).symm
    clear h hq
    go_enter Try.func68, Try.ntmps68
    go_wp2_with ((with_reducible refine gate_dst (N := 3) rfl ?_); refine box_event ?hg (N := 3) ?hd (cs := #[.int .i64 s0, .int .i64 s1]) (t := 49) ?hr ?_; (case hd => rfl); (case hg => rfl); (case hr => first | (go_simp; done) | (go_simp; rfl)); intro gb hg w1 hbox hb; have hcs0 : w1.cell? ⟨gb, 0, none⟩ = some (.int .i64 s0) := (blk_cell hbox 0).trans rfl; have hcs1 : w1.cell? ⟨gb, 1, none⟩ = some (.int .i64 s1) := (blk_cell hbox 1).trans rfl; have hck := (hb.cell (p := ⟨kb, 0, none⟩) HKB.out).trans HK.out; have hcm := (hb.cell (p := ⟨mb, 0, none⟩) HMB.out).trans HM.out; have HB1 := Aside0.mk hb; clear hb hbox hg)
    go_ret
    exact ⟨rfl, by repeat (first | exact HB1.out | apply pw_below_drewN | apply below_drew1)⟩
set_option maxHeartbeats 8000000 in
set_option maxRecDepth 100000 in
theorem impl_CountSigs.index (k : Nat) (A1 : Option Addr) (c1 : Nat) (l1 : List Int) (key : Int) (kb mb : Nat) (A2 : Option Addr) (c2 : Nat) (l2 : List S49) (r : Bool) (w : World) (hr1 : Kd.C (Kd.int .i64) w A1 l1.length l1) (hc1 : l1.length ≤ c1)
    (hk : w.heap[kb]? = some (.cells #[.int .i64 key] 3 (0, 0))) (hm : w.heap[mb]? = some (.cells #[.slice A1 l1.length c1] 22 (0, 0))) (hr2 : Kd.C k49 w A2 l2.length l2) (hl : l2.length ≤ 17592186044416) (h : impl_CountSigs.has k l1 key l2 = some r) :
    Calls Try.prog 74 #[.slice A2 l2.length c2, .func (.func 68) #[] #[.pointer (some ⟨kb, 0, none⟩), .pointer (some ⟨mb, 0, none⟩)]] w fun e w' => ∃ v : Int, e = .returned (.int .i64 v) ∧ r = decide (0 ≤ v) ∧ Below w.heap.size w w' := by
  have hu := Try.underlying49
  have HR1 := Aside0.mk hr1
  have HC1 := Aside0.mk hc1
  have HR2 := Aside0.mk hr2
  have HK := Aside0.mk hk
  have HM := Aside0.mk hm
  have H0 := Aside0.mk h
  clear hr1 hc1 hr2 hk hm h
  have eg : ∀ args w, (callFunc 68 args).run Try.prog w = .ok (.enter 68 args) w := enters_of Try.func68 (by kernel_rfl) rfl
  go_enter Try.func74, Try.ntmps74
  go_wp2
  go_loopw [5, 8] (fun v i wr => ∃ j : Nat, j ≤ l2.length ∧ i = .int .i64 (j : Int) ∧ Aside0 (impl_CountSigs.has k l1 key (l2.drop j) = some r) ∧ Aside0 (Below w.heap.size w wr)) (fun _ i _ => l2.length - (intOf i).toNat)
  case atStart => exact ⟨0, Nat.zero_le _, rfl, H0, ⟨Below.refl _ _⟩⟩
  case round =>
    obtain ⟨j, hj, rfl, HA, HB⟩ := hrel
    by_cases hlt : j < l2.length
    · obtain ⟨ad, hA, hcell0, hcell1⟩ := at_T49 (Kd.C_below HR2.out HB.out) (j : Int) (by omega) (by omega)
      have hrd : rd_T49 l2 (j : Int) = l2[j] := by simp [rd_T49, List.getD, hlt]
      rw [hrd, Int.toNat_natCast] at hcell0 hcell1
      subst hA
      have hz := HA.out
      rw [List.drop_eq_getElem_cons hlt, impl_CountSigs.has] at hz
      obtain ⟨b, hb, hz2⟩ : ∃ b, impl_CountSigs.one k l1 key l2[j] = some b ∧ (if b = true then some true else impl_CountSigs.has k l1 key (l2.drop (j + 1))) = some r := by
        obtain ⟨b, hb, hz⟩ := Option.bind_eq_some_iff.1 hz
        exact ⟨b, hb, hz⟩
      have HK1 := Aside0.mk ((HB.out.block kb (blk_lt HK.out)).trans HK.out)
      have HM1 := Aside0.mk ((HB.out.block mb (blk_lt HM.out)).trans HM.out)
      have HR11 := Aside0.mk (Kd.C_below HR1.out HB.out)
      have HLB := Aside0.mk hb
      have HZ := Aside0.mk hz2
      clear hz hz2 hb hrd HA
      generalize l2[j] = s at hcell0 hcell1 HLB
      obtain ⟨s0, s1⟩ := s
      cases b with
      | true =>
        go_wp2_with (go_at_fn 68; go_loud (refine (impl_CountSigs.clo k A1 c1 l1 key s0 s1 true kb mb _ HR11.out HC1.out HK1.out HM1.out HLB.out).mono ?_); rintro e w1 ⟨rfl, hd⟩; have HB2 := Aside0.mk (below_then HB.out HB.out.size hd); clear hd)
        go_ret
        have hr : r = true := by
          have z := HZ.out
          simp at z
          first | exact z | exact z.symm
        exact ⟨(j : Int), rfl, by rw [hr]; simp, HB2.out⟩
      | false =>
        go_wp2_with (go_at_fn 68; go_loud (refine (impl_CountSigs.clo k A1 c1 l1 key s0 s1 false kb mb _ HR11.out HC1.out HK1.out HM1.out HLB.out).mono ?_); rintro e w1 ⟨rfl, hd⟩; have HB2 := Aside0.mk (below_then HB.out HB.out.size hd); clear hd)
        go_roundw
        case rel => exact ⟨j + 1, by omega, by go_num, ⟨by simpa using HZ.out⟩, HB2⟩
        case measure => simp [intOf]; omega
    · obtain rfl : j = l2.length := by omega
      have hf : r = false := by
        have z := HA.out
        rw [List.drop_length] at z
        exact (Option.some.inj z).symm
      go_wp2
      go_ret
      exact ⟨-1, rfl, by rw [hf]; rfl, HB.out⟩
set_option maxHeartbeats 8000000 in
set_option maxRecDepth 100000 in
theorem impl_CountSigs.contains (k : Nat) (A1 : Option Addr) (c1 : Nat) (l1 : List Int) (key : Int) (kb mb : Nat) (A2 : Option Addr) (c2 : Nat) (l2 : List S49) (r : Bool) (w : World) (hr1 : Kd.C (Kd.int .i64) w A1 l1.length l1) (hc1 : l1.length ≤ c1)
    (hk : w.heap[kb]? = some (.cells #[.int .i64 key] 3 (0, 0))) (hm : w.heap[mb]? = some (.cells #[.slice A1 l1.length c1] 22 (0, 0))) (hr2 : Kd.C k49 w A2 l2.length l2) (hl : l2.length ≤ 17592186044416) (h : impl_CountSigs.has k l1 key l2 = some r) :
    Calls Try.prog 67 #[.slice A2 l2.length c2, .func (.func 68) #[] #[.pointer (some ⟨kb, 0, none⟩), .pointer (some ⟨mb, 0, none⟩)]] w fun e w' => e = .returned (.bool r) ∧ Below w.heap.size w w' := by
  have K := impl_CountSigs.index k A1 c1 l1 key kb mb A2 c2 l2 r w hr1 hc1 hk hm hr2 hl h
  clear hr1 hc1 hk hm hr2 hl h
  go_enter Try.func67, Try.ntmps67
  go_wp2_with fail
  refine K.mono ?_
  rintro e w1 ⟨v, rfl, hv, hd⟩
  have HB := Aside0.mk hd
  have HV := Aside0.mk hv
  clear hd hv K
  go_wp2
  go_ret
  exact ⟨by rw [HV.out]; rfl, HB.out⟩
set_option maxHeartbeats 8000000 in
set_option maxRecDepth 100000 in
theorem impl_CountSigs.calls (k : Nat) (A0_0 : Option Addr) (c0_0 : Nat) (l0_0 : List Int) (a0_1 : Int) (A1 : Option Addr) (c1 : Nat) (l1 : List Int) (A2 : Option Addr) (c2 : Nat) (l2 : List (S49)) (r : Int) (w : World) (hr0_0 : Kd.C (Kd.int .i64) w A0_0 l0_0.length l0_0) (hc0_0 : l0_0.length ≤ c0_0) (hr1 : Kd.C (Kd.int .i64) w A1 l1.length l1) (hc1 : l1.length ≤ c1) (hr2 : Kd.C k49 w A2 l2.length l2) (hc2 : l2.length ≤ c2) (h : impl_CountSigs.f k l0_0 a0_1 l1 l2 = some r) :
    Calls Try.prog 46 #[.agg #[.slice A0_0 l0_0.length c0_0, .int .i64 a0_1], .slice A1 l1.length c1, .slice A2 l2.length c2] w fun e w' => e = .returned (.int .i64 r) ∧ Below w.heap.size w w' := by
  obtain ⟨⟨hl2, hl0⟩, h⟩ : (l2.length ≤ 17592186044416 ∧ l0_0.length ≤ 17592186044416) ∧ impl_CountSigs.cnt k l1 l2 l0_0 0 = some r := by
    unfold impl_CountSigs.f at h
    split at h
    · exact ⟨‹_›, h⟩
    · cases h
  have hu24 := Try.underlying24
  have hu49 := Try.underlying49
  have HR0 := Aside0.mk hr0_0
  have HR1 := Aside0.mk hr1
  have HC1 := Aside0.mk hc1
  have HR2 := Aside0.mk hr2
  have HL2 := Aside0.mk hl2
  have H0 := Aside0.mk h
  clear hr0_0 hc0_0 hr1 hc1 hr2 hc2 h hl2
  go_enter Try.func46, Try.ntmps46
  go_wp2_with (first
    | ((with_reducible refine gate_dst (N := 3) rfl ?_); refine box_event ?hg (N := 3) ?hd (cs := #[.slice A0_0 l0_0.length c0_0, .int .i64 a0_1]) (t := 24) ?hr ?_; (case hd => rfl); (case hg => rfl); (case hr => first | (go_simp; done) | (go_simp; rfl)); intro gk hgk w1 hbk hb; have HG := Aside0.mk hgk; have HBK := Aside0.mk hbk; have HB1 := Aside0.mk hb; clear hb hbk hgk)
    | ((with_reducible refine gate_dst (N := 4) rfl ?_); refine box_event ?hg (N := 4) ?hd (cs := #[.slice A1 l1.length c1]) (t := 22) ?hr ?_; (case hd => rfl); (case hg => rfl); (case hr => first | (go_simp; done) | (go_simp; rfl)); intro gm hgm w2 hbm hb; have HB2 := Aside0.mk (below_then HB1.out HB1.out.size hb); have HMB := Aside0.mk hbm; have hbk2 := (hb.block gk (blk_lt HBK.out)).trans HBK.out; have hkc0 : w2.cell? ⟨gk, 0, none⟩ = some (.slice A0_0 l0_0.length c0_0) := (blk_cell hbk2 0).trans rfl; clear hb hbm hgm hbk2))
  go_loopw [7, 13] (fun v i wr => ∃ (j : Nat) (n : Int), j ≤ l0_0.length ∧ i = .int .i64 (j : Int) ∧ v = .int .i64 n ∧ Aside0 (impl_CountSigs.cnt k l1 l2 (l0_0.drop j) n = some r) ∧ Aside0 (wr.heap[gm]? = some (.cells #[.slice A1 l1.length c1] 22 (0, 0))) ∧ Aside0 (Below w.heap.size w wr)) (fun _ i _ => l0_0.length - (intOf i).toNat)
  case atStart => exact ⟨0, 0, Nat.zero_le _, rfl, rfl, H0, HMB, HB2⟩
  case round =>
    clear HMB HB2 hkc0
    obtain ⟨j, n, hj, rfl, rfl, HA, HM, HB⟩ := hrel
    by_cases hlt : j < l0_0.length
    · obtain ⟨ad, hA, hcell⟩ := Kd.at_int (Kd.C_below HR0.out HB.out) (j : Int) (by omega) (by omega)
      have hrd : rd l0_0 (j : Int) = l0_0[j] := by simp [rd, List.getD, hlt]
      rw [hrd, Int.toNat_natCast] at hcell
      subst hA
      have hz := HA.out
      rw [List.drop_eq_getElem_cons hlt, impl_CountSigs.cnt] at hz
      generalize l0_0[j] = key at hcell hz
      obtain ⟨b, hb, hz2⟩ : ∃ b, impl_CountSigs.has k l1 key l2 = some b ∧ impl_CountSigs.cnt k l1 l2 (l0_0.drop (j + 1)) (if b = true then wrap64 (n + 1) else n) = some r := by
        obtain ⟨b, hb, hz⟩ := Option.bind_eq_some_iff.1 hz
        exact ⟨b, hb, hz⟩
      have HLB := Aside0.mk hb
      have HZ := Aside0.mk hz2
      have HADL := Aside0.mk (World.block_lt_of_cell? wr _ hcell)
      have HCELL := Aside0.mk hcell
      clear hz hz2 hb hrd HA
      cases b with
      | true =>
        go_wp2_with (first
          | ((with_reducible refine gate_dst (N := 9) rfl ?_); refine box_event ?hg (N := 9) ?hd (cs := #[.int .i64 0]) (t := 3) ?hr ?_; (case hd => rfl); (case hg => rfl); (case hr => first | (go_simp; done) | (go_simp; rfl)); intro gq hgq w3 hbq hb; have hcell3 := (hb.cell (p := ad.add j) HADL.out).trans HCELL.out; have hq0 : w3.cell? ⟨gq, 0, none⟩ = some (.int .i64 0) := (blk_cell hbq 0).trans rfl; have hqf := blk_frozen hbq 0; have HB3 := Aside0.mk (below_then HB.out HB.out.size hb); have HM3 := Aside0.mk ((hb.block gm (blk_lt HM.out)).trans HM.out); have HNE := Aside0.mk (show gm ≠ gq from by have := blk_lt HM.out; omega); have HGE := Aside0.mk (show w.heap.size ≤ gq from by have := HB.out.size; omega); have HQ3 := Aside0.mk hbq; clear hb hbq hgq)
          | (go_at_call 67; have HBX := Aside0.mk (show Below w.heap.size w (w3.setCell ⟨gq, 0, none⟩ (.int .i64 key)) from below_set HB3.out HGE.out); have HMX := Aside0.mk (blk_far HM3.out (p := ⟨gq, 0, none⟩) HNE.out (.int .i64 key)); go_loud (refine (impl_CountSigs.contains k A1 c1 l1 key gq gm A2 c2 l2 true _ (Kd.C_below HR1.out HBX.out) HC1.out ((blk_set HQ3.out 0 (.int .i64 key)).trans rfl) HMX.out (Kd.C_below HR2.out HBX.out) HL2.out HLB.out).mono ?_); rintro e w4 ⟨rfl, hd⟩; have HB4 := Aside0.mk (below_then HBX.out HBX.out.size hd); have HM4 := Aside0.mk ((hd.block gm (blk_lt HMX.out)).trans HMX.out); clear hd))
        go_roundw
        case rel => exact ⟨j + 1, wrap64 (n + 1), by omega, by go_num, rfl, ⟨by simpa using HZ.out⟩, HM4, HB4⟩
        case measure => simp [intOf]; omega
      | false =>
        go_wp2_with (first
          | ((with_reducible refine gate_dst (N := 9) rfl ?_); refine box_event ?hg (N := 9) ?hd (cs := #[.int .i64 0]) (t := 3) ?hr ?_; (case hd => rfl); (case hg => rfl); (case hr => first | (go_simp; done) | (go_simp; rfl)); intro gq hgq w3 hbq hb; have hcell3 := (hb.cell (p := ad.add j) HADL.out).trans HCELL.out; have hq0 : w3.cell? ⟨gq, 0, none⟩ = some (.int .i64 0) := (blk_cell hbq 0).trans rfl; have hqf := blk_frozen hbq 0; have HB3 := Aside0.mk (below_then HB.out HB.out.size hb); have HM3 := Aside0.mk ((hb.block gm (blk_lt HM.out)).trans HM.out); have HNE := Aside0.mk (show gm ≠ gq from by have := blk_lt HM.out; omega); have HGE := Aside0.mk (show w.heap.size ≤ gq from by have := HB.out.size; omega); have HQ3 := Aside0.mk hbq; clear hb hbq hgq)
          | (go_at_call 67; have HBX := Aside0.mk (show Below w.heap.size w (w3.setCell ⟨gq, 0, none⟩ (.int .i64 key)) from below_set HB3.out HGE.out); have HMX := Aside0.mk (blk_far HM3.out (p := ⟨gq, 0, none⟩) HNE.out (.int .i64 key)); go_loud (refine (impl_CountSigs.contains k A1 c1 l1 key gq gm A2 c2 l2 false _ (Kd.C_below HR1.out HBX.out) HC1.out ((blk_set HQ3.out 0 (.int .i64 key)).trans rfl) HMX.out (Kd.C_below HR2.out HBX.out) HL2.out HLB.out).mono ?_); rintro e w4 ⟨rfl, hd⟩; have HB4 := Aside0.mk (below_then HBX.out HBX.out.size hd); have HM4 := Aside0.mk ((hd.block gm (blk_lt HMX.out)).trans HMX.out); clear hd))
        go_roundw
        case rel => exact ⟨j + 1, n, by omega, by go_num, rfl, ⟨by simpa using HZ.out⟩, HM4, HB4⟩
        case measure => simp [intOf]; omega
    · obtain rfl : j = l0_0.length := by omega
      have hf : n = r := by
        have z := HA.out
        rw [List.drop_length] at z
        exact Option.some.inj z
      subst hf
      go_wp2
      go_ret
      exact ⟨rfl, HB.out⟩

end Go.Proofs.Ytaebboanblfmjaa.PFnExactIsSigned
