/- The machine's side of a law: what its Go functions compute, as Lean functions, and the walks that show it; laid by this session's program (wip/tools) out of the translation. Conditions: those of each theorem. -/
import Derived.Test.YtnkgglihlmileaaGreatPFnLabelsx0
namespace Go.Proofs.YtnkgglihlmileaaGreat.PFnLabels
open Go.RowKit Go.Proofs.YtnkgglihlmileaaGreatW.PrintWords Go.Proofs.YtnkgglihlmileaaGreatW.PrintLast Go.Proofs.YtnkgglihlmileaaGreatW.PrintMore
attribute [local go_sem] max2_int min2_int max_two min_two max_three min_three max_four min_four   -- for this text's walks alone
set_option linter.unusedVariables false
set_option linter.unusedSimpArgs false

/-! ### impl_PlainOf: function 13 -/
def impl_PlainOf.laysCount_ren : Go.Shelf.Ren := ⟨fun | 138 => 104 | 195 => 105 | 218 => 106 | 143 => 107 | 219 => 108 | 217 => 109 | 225 => 110 | 224 => 111 | 267 => 112 | 266 => 113 | 314 => 114 | n => n, fun | 9 => 9 | 3 => 3 | 4 => 4 | 5 => 5 | 0 => 0 | 46 => 68 | 146 => 157 | 51 => 54 | n => n, fun | 1 => 0 | n => n⟩
theorem impl_PlainOf.laysCount : Go.Proofs.Lays.n138 Tryz.prog impl_PlainOf.laysCount_ren := {
  mixed := by kernel_rfl
  f138 := Tryz.func104.trans (congrArg some (by kernel_rfl))
  f143 := Tryz.func107.trans (congrArg some (by kernel_rfl))
  f195 := Tryz.func105.trans (congrArg some (by kernel_rfl))
  f217 := Tryz.func109.trans (congrArg some (by kernel_rfl))
  f218 := Tryz.func106.trans (congrArg some (by kernel_rfl))
  f219 := Tryz.func108.trans (congrArg some (by kernel_rfl))
  f224 := Tryz.func111.trans (congrArg some (by kernel_rfl))
  f225 := Tryz.func110.trans (congrArg some (by kernel_rfl))
  f266 := Tryz.func113.trans (congrArg some (by kernel_rfl))
  f267 := Tryz.func112.trans (congrArg some (by kernel_rfl))
  f314 := Tryz.func114.trans (congrArg some (by kernel_rfl))
  t0 := Tryz.underlying0
  a0 := Tryz.isAgg0
  z0 := Tryz.sizeOf0
  v0 := Tryz.zeroValue0
  t3 := Tryz.underlying3
  a3 := Tryz.isAgg3
  z3 := Tryz.sizeOf3
  v3 := Tryz.zeroValue3
  t4 := Tryz.underlying4
  a4 := Tryz.isAgg4
  z4 := Tryz.sizeOf4
  v4 := Tryz.zeroValue4
  t5 := Tryz.underlying5
  a5 := Tryz.isAgg5
  z5 := Tryz.sizeOf5
  v5 := Tryz.zeroValue5
  t9 := Tryz.underlying9
  a9 := Tryz.isAgg9
  z9 := Tryz.sizeOf9
  v9 := Tryz.zeroValue9
  t46 := Tryz.underlying68
  a46 := Tryz.isAgg68
  z46 := Tryz.sizeOf68
  v46 := Tryz.zeroValue68
  t51 := Tryz.underlying54
  a51 := Tryz.isAgg54
  z51 := Tryz.sizeOf54
  v51 := Tryz.zeroValue54
  t146 := Tryz.underlying157
  a146 := Tryz.isAgg157
  z146 := Tryz.sizeOf157
  v146 := Tryz.zeroValue157
  g1 := by kernel_rfl }
/-- The pairs that PlainOf hands on. -/
def impl_PlainOf.L : List ByteArray := [⟨#[48]⟩, ⟨#[111]⟩, ⟨#[49]⟩, ⟨#[108]⟩, ⟨#[53]⟩, ⟨#[115]⟩, ⟨#[45]⟩, ⟨#[]⟩]
theorem impl_PlainOf.infoS : (Tryz.prog.info? 9).map (fun i => (i.zero, i.size, i.bytes)) = some (some (.string ⟨#[]⟩), 1, 16) := by kernel_rfl
/-- The pairs lie in block ob. -/
structure impl_PlainOf.Old (w : World) (ob : Nat) : Prop where
  c0 : w.cell? ⟨ob, 0, none⟩ = some (.string ⟨#[48]⟩)
  c1 : w.cell? ⟨ob, 1, none⟩ = some (.string ⟨#[111]⟩)
  c2 : w.cell? ⟨ob, 2, none⟩ = some (.string ⟨#[49]⟩)
  c3 : w.cell? ⟨ob, 3, none⟩ = some (.string ⟨#[108]⟩)
  c4 : w.cell? ⟨ob, 4, none⟩ = some (.string ⟨#[53]⟩)
  c5 : w.cell? ⟨ob, 5, none⟩ = some (.string ⟨#[115]⟩)
  c6 : w.cell? ⟨ob, 6, none⟩ = some (.string ⟨#[45]⟩)
  c7 : w.cell? ⟨ob, 7, none⟩ = some (.string ⟨#[]⟩)
theorem impl_PlainOf.old_of {w : World} {ob : Nat} (h : Kd.C Kd.string w (some ⟨ob, 0, none⟩) 8 impl_PlainOf.L) : impl_PlainOf.Old w ob := by
  have g : ∀ i : Nat, i < 8 → w.cell? ⟨ob, i, none⟩ = some (.string (rdOf ByteArray.empty impl_PlainOf.L (i : Int))) := by
    intro i hi
    obtain ⟨ad2, e, h1⟩ := Kd.at_string h (i : Int) (by omega) (by omega)
    cases e
    rw [Int.toNat_natCast, add_plain] at h1
    exact h1
  exact ⟨g 0 (by decide), g 1 (by decide), g 2 (by decide), g 3 (by decide), g 4 (by decide), g 5 (by decide), g 6 (by decide), g 7 (by decide)⟩
theorem impl_PlainOf.Old.below {w w1 : World} {ob : Nat} (h : impl_PlainOf.Old w ob) (hb : Below w.heap.size w w1) : impl_PlainOf.Old w1 ob :=
  have g : ∀ i v, w.cell? ⟨ob, i, none⟩ = some v → w1.cell? ⟨ob, i, none⟩ = some v := fun i v e => (hb.cell (World.block_lt_of_cell? w _ e)).trans e
  ⟨g _ _ h.c0, g _ _ h.c1, g _ _ h.c2, g _ _ h.c3, g _ _ h.c4, g _ _ h.c5, g _ _ h.c6, g _ _ h.c7⟩
set_option maxHeartbeats 8000000 in
set_option maxRecDepth 100000 in
theorem impl_PlainOf.new (A0 : Option Addr) (c0 : Nat) (w : World) (hr0 : Kd.C Kd.string w A0 8 impl_PlainOf.L) (hc0 : 8 ≤ c0) :
    Calls Tryz.prog 27 #[.slice A0 8 c0] w fun e w' => ∃ rb ob c, e = .returned (.pointer (some ⟨rb, 0, none⟩)) ∧ w'.heap[rb]? = some (.cells #[.int .u32 0, .int .i32 0, .int .u32 0, .nilIface, .slice (some ⟨ob, 0, none⟩) 8 c] 66 (0, 0)) ∧ impl_PlainOf.Old w' ob ∧ ob ≠ rb ∧ w.heap.size ≤ rb ∧ Below w.heap.size w w' := by
  have HR0 := Aside0.mk hr0
  have HB := Aside0.mk (Below.refl w.heap.size w)
  clear hr0
  go_enter Tryz.func27, Tryz.ntmps27
  go_wp2_with (first
      | (at_builtin; go_loud (refine Kd.R_append_rows Kd.string (w0 := w) w.heap.size rfl _ _ 26 9 (.string ⟨#[]⟩) 16 rfl Tryz.underlying26 impl_PlainOf.infoS rfl (by decide) (by omega) (.slice none 0 0) [] impl_PlainOf.L A0 8 c0 (fun _ => True) (fun _ => False) rfl rfl (Kd.R_nil _ _ _ _ _) HR0.out (fun _ _ h => h) (fun _ h => h.elim) (fun _ _ => trivial) HB.out HB.out.size (by simp) ?_); intro v2 w2 hR hB hg ha; go_loud (obtain ⟨g, c2, hv⟩ : ∃ g c2, v2 = .slice (some ⟨g, 0, none⟩) 8 c2 := by (rcases (Kd.own_of_R hR).2 with ⟨_, hl⟩ | ⟨g, cap, cur, hv, _⟩; (cases hl); (exact ⟨g, cap, hv⟩))); obtain ⟨A2, c3, hv2, hl2, hC2⟩ := Kd.R_reads hR; rw [hv] at hv2; injection hv2 with e1 e2 e3; rw [← e1] at hC2; have HO2 : Aside0 (impl_PlainOf.Old w2 g) := ⟨impl_PlainOf.old_of hC2⟩; have HG2 : Aside0 (g < w2.heap.size) := ⟨World.block_lt_of_cell? w2 _ (impl_PlainOf.old_of hC2).c0⟩; subst hv; have HB2 := Aside0.mk hB; clear hR hB hg ha hl2 hC2 e1 e2 e3))
  refine bodyPost_ret (v := .pointer (some ⟨w2.heap.size, 0, none⟩)) (by first | (simp [results, Tryz.results27, go_sem]; done) | trace_state) rfl ?_
  exact ⟨w2.heap.size, g, c2, rfl, blk_new _ _, HO2.out.below (below_alloc (Below.refl _ _) _), Nat.ne_of_lt HG2.out, HB2.out.size, below_alloc HB2.out _⟩
/-- A row of bytes in memory. -/
def impl_PlainOf.Row (W : World) (v : Value) (l : List Int) : Prop := ∃ (g cap : Nat) (cur : Array Value) (fr : Nat × Nat), v = .slice (some ⟨g, 0, none⟩) l.length cap ∧ l.length ≤ cap ∧ W.heap[g]? = some (.cells cur 5 fr) ∧ ∀ (j : Nat) (x : Int), l[j]? = some x → cur[j]? = some (Value.int .u8 x)
theorem impl_PlainOf.Row.step {W W' : World} {v : Value} {l : List Int} (h : impl_PlainOf.Row W v l) (hs : ∀ (g : Nat) (cur : Array Value) (fr : Nat × Nat), W.heap[g]? = some (.cells cur 5 fr) → W'.heap[g]? = some (.cells cur 5 fr)) : impl_PlainOf.Row W' v l := by
  obtain ⟨g, cap, cur, fr, h1, h2, h3, h4⟩ := h
  exact ⟨g, cap, cur, fr, h1, h2, hs _ _ _ h3, h4⟩
theorem impl_PlainOf.row_new (W : World) (s : ByteArray) : impl_PlainOf.Row (Lib.bytesWorld W 5 s) (.slice (some ⟨W.heap.size, 0, none⟩) s.size (grownCap W s.size 0 5)) (bytesOf s) := by
  refine ⟨W.heap.size, grownCap W s.size 0 5, _, _, by rw [bytesOf_length], by rw [bytesOf_length]; exact grownCap_ge W s.size 0 _, Lib.bytesWorld_at_new W _ s, fun j x hx => ?_⟩
  have hj : j < s.size := by
    have := (List.getElem?_eq_some_iff.1 hx).1
    rwa [bytesOf_length] at this
  rw [← cell_of_row (Lib.bytesWorld W 5 s) W.heap.size j _ _ _ (Lib.bytesWorld_at_new W _ s), Lib.bytesWorld_cell W _ s j hj]
  have h' : j < s.data.toList.length := by rw [data_length]; exact hj
  obtain ⟨_, e⟩ := List.getElem?_eq_some_iff.1 hx
  rw [← e]
  simp [bytesOf, List.getD_eq_getElem?_getD, List.getElem?_eq_getElem h']
theorem impl_PlainOf.far {W : World} {g bb t t' : Nat} {cur cs : Array Value} {fr : Nat × Nat} (h : W.heap[g]? = some (.cells cur t fr)) (hb : W.heap[bb]? = some (.cells cs t' (0, 0))) (hne : t ≠ t') : g ≠ bb := by
  rintro rfl
  rw [h] at hb
  injection hb with hb
  injection hb with _ hb _
  exact hne hb
/-- What one round of the table's making leaves. -/
theorem impl_PlainOf.round (w W w2 : World) (bb key : Nat) (cs : Array Value) (tv v2 : Value) (l l2 : List ByteArray) (n : ByteArray) (x : Array Value)
    (hbk : W.heap[bb]? = some (.cells cs 85 (0, 0))) (hle : w.heap.size ≤ bb) (ht : Kd.R Kd.string 9 W w.heap.size (fun _ => True) tv l)
    (ho : Kd.R Kd.string 9 w2 w.heap.size (fun _ => True) v2 l2) (hb : Below w.heap.size w w2) (hg : (W.alloc (.cells x 5)).grownBy w2 tv.ownBlock) :
    w2.heap[bb]? = some (.cells cs 85 (0, 0)) ∧
    (Lib.bytesWorld (w2.setCell ⟨bb, 256, none⟩ v2) 5 n).heap[bb]? = some (.cells (cs.setIfInBounds 256 v2) 85 (0, 0)) ∧
    ∀ v, v = .slice (some ⟨w2.heap.size, 0, none⟩) n.size (grownCap (w2.setCell ⟨bb, 256, none⟩ v2) n.size 0 5) → ∀ W4, W4 = (Lib.bytesWorld (w2.setCell ⟨bb, 256, none⟩ v2) 5 n).setCell ⟨bb, key, none⟩ v →
      Below w.heap.size w W4 ∧ W4.heap[bb]? = some (.cells ((cs.setIfInBounds 256 v2).setIfInBounds key v) 85 (0, 0)) ∧ Kd.R Kd.string 9 W4 w.heap.size (fun _ => True) v2 l2 ∧ impl_PlainOf.Row W4 v (bytesOf n) ∧ ∀ v' l', impl_PlainOf.Row W v' l' → impl_PlainOf.Row W4 v' l' := by
  have hbk1 : (W.alloc (.cells x 5)).heap[bb]? = some (.cells cs 85 (0, 0)) := blk_alloc hbk _
  have ht1 : Kd.R Kd.string 9 (W.alloc (.cells x 5)) w.heap.size (fun _ => True) tv l := Kd.R_alloc ht _
  have hbk2 : w2.heap[bb]? = some (.cells cs 85 (0, 0)) := blk_grown hbk1 hg (Kd.R_ne ht1 hbk1 (by decide))
  have hbk3 : (w2.setCell ⟨bb, 256, none⟩ v2).heap[bb]? = some (.cells (cs.setIfInBounds 256 v2) 85 (0, 0)) := blk_set hbk2 256 v2
  have hbk4 : (Lib.bytesWorld (w2.setCell ⟨bb, 256, none⟩ v2) 5 n).heap[bb]? = some (.cells (cs.setIfInBounds 256 v2) 85 (0, 0)) := (Lib.bytesWorld_at_old _ _ _ _ (blk_lt hbk3)).trans hbk3
  have hsz : (w2.setCell ⟨bb, 256, none⟩ v2).heap.size = w2.heap.size := by simp [World.setCell]
  refine ⟨hbk2, hbk4, ?_⟩
  rintro v hv W4 rfl
  have hB3 : Below w.heap.size w (w2.setCell ⟨bb, 256, none⟩ v2) := below_set hb hle
  have hB4 := bytes_below hB3 hB3.size 5 n
  have hR3 : Kd.R Kd.string 9 (w2.setCell ⟨bb, 256, none⟩ v2) w.heap.size (fun _ => True) v2 l2 := Kd.R_set ho hbk2 (fun q hq => by simp [Kd.string, Kd.scalar] at hq; subst hq; decide) 256 v2
  have hR4 : Kd.R Kd.string 9 (Lib.bytesWorld (w2.setCell ⟨bb, 256, none⟩ v2) 5 n) w.heap.size (fun _ => True) v2 l2 := Kd.R_step hR3 (fun k _ hk => Lib.bytesWorld_at_old _ _ _ k hk)
  refine ⟨below_set hB4 hle, blk_set hbk4 key v, Kd.R_set hR4 hbk4 (fun q hq => by simp [Kd.string, Kd.scalar] at hq; subst hq; decide) key v, ?_, ?_⟩
  · have h := impl_PlainOf.row_new (w2.setCell ⟨bb, 256, none⟩ v2) n
    rw [hsz] at h
    rw [hv]
    exact h.step (fun g cur fr hh => (Below.heap_setCell _ _ _ g (impl_PlainOf.far hh hbk4 (by decide))).trans hh)
  · intro v' l' hr
    refine hr.step (fun g cur fr hh => ?_)
    have hh1 : (W.alloc (.cells x 5)).heap[g]? = some (.cells cur 5 fr) := blk_alloc hh _
    have hne : some g ≠ tv.ownBlock := by
      intro e
      obtain ⟨inner, hown⟩ := Kd.R_own ht1
      obtain ⟨cells, hc⟩ := own_typed hown g e.symm
      exact impl_PlainOf.far hh1 hc (by decide) rfl
    have hh2 := blk_grown hh1 hg hne
    have hh3 : (w2.setCell ⟨bb, 256, none⟩ v2).heap[g]? = some (.cells cur 5 fr) := (Below.heap_setCell _ _ _ g (impl_PlainOf.far hh2 hbk2 (by decide))).trans hh2
    have hh4 := (Lib.bytesWorld_at_old (w2.setCell ⟨bb, 256, none⟩ v2) 5 n g (blk_lt hh3)).trans hh3
    exact (Below.heap_setCell _ _ _ g (impl_PlainOf.far hh4 hbk4 (by decide))).trans hh4
theorem impl_PlainOf.str1 (W : World) (k : UInt8) (n : Int) (hn : n = (k.toNat : Int)) : (convert 22 9 (.slice (some ⟨W.heap.size, 0, none⟩) 1 1)).run Tryz.prog (W.alloc (.cells #[.int .u8 n] 5)) = .ok (.string ⟨#[k]⟩) (W.alloc (.cells #[.int .u8 n] 5)) := by
  subst hn
  refine run_convert_bytes_back (P := Tryz.prog) (W.alloc (.cells #[.int .u8 (k.toNat : Int)] 5)) 22 9 5 ⟨W.heap.size, 0, none⟩ 1 [k] Tryz.underlying22 Tryz.underlying5 Tryz.underlying9 ?_
  intro j hj
  obtain rfl : j = 0 := by simpa using hj
  rw [add_plain, blk_cell (blk_new _ _)]
  rfl
theorem impl_PlainOf.szA (W : World) (o : Obj) : (W.alloc o).heap.size = W.heap.size + 1 := by simp
theorem impl_PlainOf.tab_step {cs : Array Value} {tab : Nat → Value} (h : ∀ i, i < 256 → cs[i]? = some (tab i)) (hs : cs.size = 257) (key : Nat) (hk : key < 256) (u v : Value) :
    (∀ i, i < 256 → ((cs.setIfInBounds 256 u).setIfInBounds key v)[i]? = some (if i = key then v else tab i)) ∧ ((cs.setIfInBounds 256 u).setIfInBounds key v).size = 257 ∧ ((cs.setIfInBounds 256 u).setIfInBounds key v)[256]? = some u := by
  refine ⟨fun i hi => ?_, by simpa using hs, ?_⟩
  · rw [Array.getElem?_setIfInBounds]
    by_cases e : key = i
    · rw [if_pos e, if_pos (by rw [Array.size_setIfInBounds]; omega), if_pos e.symm]
    · rw [if_neg e, Array.getElem?_setIfInBounds, if_neg (by omega), if_neg (fun z => e z.symm)]
      exact h i hi
  · rw [Array.getElem?_setIfInBounds, if_neg (by omega), Array.getElem?_setIfInBounds, if_pos rfl, if_pos (by omega)]
/-- What stands in a byte's place, if another text does. -/
def impl_PlainOf.rep (i : Nat) : Option (List Int) := if i = 45 then some [] else if i = 53 then some [115] else if i = 49 then some [108] else if i = 48 then some [111] else none
def impl_PlainOf.RepAt (W : World) (v : Value) : Option (List Int) → Prop
  | none => v = .slice none 0 0
  | some l => impl_PlainOf.Row W v l
/-- The table lies in block bb. -/
def impl_PlainOf.Rep (W : World) (bb : Nat) : Prop := ∃ (cs : Array Value) (tab : Nat → Value) (tv : Value), W.heap[bb]? = some (.cells cs 85 (0, 0)) ∧ cs[256]? = some tv ∧ Kd.R Kd.string 9 W 0 (fun _ => True) tv [⟨#[45]⟩, ⟨#[53]⟩, ⟨#[49]⟩, ⟨#[48]⟩] ∧ ∀ i, i < 256 → cs[i]? = some (tab i) ∧ impl_PlainOf.RepAt W (tab i) (impl_PlainOf.rep i)
theorem impl_PlainOf.RepAt.step {W W' : World} {v : Value} {r : Option (List Int)} (h : impl_PlainOf.RepAt W v r) (hs : ∀ (g : Nat) (cur : Array Value) (fr : Nat × Nat), W.heap[g]? = some (.cells cur 5 fr) → W'.heap[g]? = some (.cells cur 5 fr)) : impl_PlainOf.RepAt W' v r := by
  cases r with
  | none => exact h
  | some l => exact impl_PlainOf.Row.step h hs
theorem impl_PlainOf.Rep.below {W W' : World} {bb : Nat} (h : impl_PlainOf.Rep W bb) (hb : Below W.heap.size W W') : impl_PlainOf.Rep W' bb := by
  obtain ⟨cs, tab, tv, h1, h2, h3, h4⟩ := h
  exact ⟨cs, tab, tv, blk_below h1 hb, h2, Kd.R_below h3 hb, fun i hi => ⟨(h4 i hi).1, (h4 i hi).2.step (fun g cur fr hh => blk_below hh hb)⟩⟩
theorem impl_PlainOf.Rep.set {W : World} {bb rb : Nat} {c50 : Array Value} (h : impl_PlainOf.Rep W bb) (hrb : W.heap[rb]? = some (.cells c50 66 (0, 0))) (j : Nat) (u : Value) : impl_PlainOf.Rep (W.setCell ⟨rb, j, none⟩ u) bb := by
  obtain ⟨cs, tab, tv, h1, h2, h3, h4⟩ := h
  exact ⟨cs, tab, tv, blk_far h1 (impl_PlainOf.far h1 hrb (by decide)) u, h2, Kd.R_set h3 hrb (fun q hq => by simp [Kd.string, Kd.scalar] at hq; subst hq; decide) j u, fun i hi => ⟨(h4 i hi).1, (h4 i hi).2.step (fun g cur fr hh => (Below.heap_setCell _ _ _ g (impl_PlainOf.far hh hrb (by decide))).trans hh)⟩⟩
/-- What stands below stays, but for block rb and what is made. -/
def impl_PlainOf.Up (rb : Nat) (w w' : World) : Prop := ∀ (B : Nat) (w0 : World), Below B w0 w → B ≤ rb → Below B w0 w'
theorem impl_PlainOf.Up.set {rb : Nat} {w w' : World} (h : impl_PlainOf.Up rb w w') (j : Nat) (u : Value) : impl_PlainOf.Up rb w (w'.setCell ⟨rb, j, none⟩ u) := fun B w0 hb hB => (h B w0 hb hB).setCell hB _
theorem impl_PlainOf.Up.drew {rb : Nat} {w w' : World} (h : impl_PlainOf.Up rb w w') : impl_PlainOf.Up rb w w'.drew := fun B w0 hb hB => below_drew (h B w0 hb hB)
theorem impl_PlainOf.Up.below {rb : Nat} {w w' w2 : World} (h : impl_PlainOf.Up rb w w') (hrb : rb < w'.heap.size) (hb2 : Below w'.heap.size w' w2) : impl_PlainOf.Up rb w w2 := fun B w0 hb hB => below_then (h B w0 hb hB) (by omega) hb2
theorem impl_PlainOf.Up.refl (rb : Nat) (w : World) : impl_PlainOf.Up rb w w := fun _ _ hb _ => hb
theorem impl_PlainOf.Up.trans {rb : Nat} {w w' w2 : World} (h : impl_PlainOf.Up rb w w') (h2 : impl_PlainOf.Up rb w' w2) : impl_PlainOf.Up rb w w2 := fun B w0 hb hB => h2 B w0 (h B w0 hb hB) hB
theorem impl_PlainOf.zeros : Tryz.zeroCells85 = Array.replicate 257 (.slice none 0 0) := by kernel_rfl
set_option maxHeartbeats 8000000 in
set_option maxRecDepth 100000 in
theorem impl_PlainOf.build (rb ob : Nat) (c : Nat) (w : World) (hrb : w.heap[rb]? = some (.cells #[.int .u32 0, .int .i32 1, .int .u32 0, .nilIface, .slice (some ⟨ob, 0, none⟩) 8 c] 66 (0, 0))) (ho : impl_PlainOf.Old w ob) :
    Calls Tryz.prog 40 #[.pointer (some ⟨rb, 0, none⟩)] w fun e w' => ∃ bb, e = .returned (.iface 86 (.pointer (some ⟨bb, 0, none⟩))) ∧ w.heap.size ≤ bb ∧ impl_PlainOf.Rep w' bb ∧ Below w.heap.size w w' := by
  have HOLD := Aside0.mk ho
  obtain ⟨h0, h1, h2, h3, h4, h5, h6, h7⟩ := ho
  have hf4 : w.cell? ⟨rb, 4, none⟩ = some (.slice (some ⟨ob, 0, none⟩) 8 c) := (blk_cell hrb 4).trans rfl
  obtain ⟨i0, hi, hz0, hz1, hz2⟩ := info_parts impl_PlainOf.infoS
  have HI := Aside0.mk hi
  have HZ0 := Aside0.mk hz0
  have HZ1 := Aside0.mk hz1
  have HZ2 := Aside0.mk hz2
  clear hi hz0 hz1 hz2
  have keql := fun (W : World) (a : Option Addr) (n c : Nat) => Lib.run_eql_slice_nil (P := Tryz.prog) W 22 5 a n c 0 0 Tryz.underlying22
  have hst : ∀ (w1 : World) (g n c : Nat), (storeCells ⟨w1.heap.size, 0, none⟩ (Tryz.zeroCells85.toList.set 256 (.slice (some ⟨g, 0, none⟩) n c))).run Tryz.prog (w1.alloc (.cells Tryz.zeroCells85 85)) = .ok () (w1.alloc (.cells (Tryz.zeroCells85.setIfInBounds 256 (.slice (some ⟨g, 0, none⟩) n c)) 85)) := by
    intro w1 g n c
    have h := Go.run_storeCells_new (P := Tryz.prog) w1 85 Tryz.zeroCells85 (Tryz.zeroCells85.setIfInBounds 256 (.slice (some ⟨g, 0, none⟩) n c)) (by rw [Array.size_setIfInBounds]; kernel_rfl) (by rw [Array.size_setIfInBounds]) (by rw [impl_PlainOf.zeros, Array.all_eq_true]; intro i hi; rw [Array.getElem_setIfInBounds (by simpa using hi)]; split <;> simp [Value.oneCell'])
    rw [Array.toList_setIfInBounds] at h
    exact h
  go_enter Tryz.func40, Tryz.ntmps40
  go_wp2
  refine wp_loop_rounds 5 ?_
  rw [rounds_succ]
  go_wp2
  rw [rounds_succ]
  go_wp2
  rw [rounds_succ]
  go_wp2
  rw [rounds_succ]
  go_wp2
  rw [rounds_succ]
  go_wp2_with ((at_make; refine wpList_make_own _ rfl _ _ 26 rfl w.heap.size 9 i0 (.string ⟨#[]⟩) 1 Tryz.underlying26 HI.out HZ0.out HZ1.out .i64 .i64 _ 4 rfl rfl rfl (by rw [HZ2.out]; omega) (by unfold maxLen; omega) (Nat.le_refl _) ?_; intro w1 hown1 hgrow1; have HO1 := Aside0.mk hown1; have HB1 := Aside0.mk (pw_below_grown (Below.refl w.heap.size w) none (Nat.le_refl _) hgrow1 (by simp)); clear hown1 hgrow1))
  have HBK := Aside0.mk (blk_new w1 (.cells (Tryz.zeroCells85.setIfInBounds 256 (.slice (some ⟨w.heap.size, 0, none⟩) 0 4)) 85))
  have HBW := Aside0.mk (below_alloc HB1.out (.cells (Tryz.zeroCells85.setIfInBounds 256 (.slice (some ⟨w.heap.size, 0, none⟩) 0 4)) 85))
  have HT : Aside0 (Kd.R Kd.string 9 (w1.alloc (.cells (Tryz.zeroCells85.setIfInBounds 256 (.slice (some ⟨w.heap.size, 0, none⟩) 0 4)) 85)) w.heap.size (fun _ => True) (.slice (some ⟨w.heap.size, 0, none⟩) 0 4) []) := ⟨by apply Kd.R_alloc; exact Kd.R_of_own HO1.out (fun _ _ => trivial)⟩
  have HLE := Aside0.mk HB1.out.size
  have hcs : ∃ cs, cs = Tryz.zeroCells85.setIfInBounds 256 (.slice (some ⟨w.heap.size, 0, none⟩) 0 4) := ⟨_, rfl⟩
  obtain ⟨cs0, hcs⟩ := hcs
  rw [← hcs] at HBK HBW HT ⊢
  generalize w1.alloc (.cells cs0 85) = W0 at HBK HBW HT ⊢
  generalize w1.heap.size = bb at HBK HLE ⊢
  generalize (Value.slice (some ⟨w.heap.size, 0, none⟩) 0 4) = tv0 at hcs HT ⊢
  have e256 : cs0[256]? = some tv0 := by rw [hcs, impl_PlainOf.zeros]; simp
  have eN : ∀ i : Nat, i < 256 → cs0[i]? = some (.slice none 0 0) := by
    intro i hi
    rw [hcs, impl_PlainOf.zeros, Array.getElem?_setIfInBounds, if_neg (by omega)]
    simp [show i < 257 from by omega]
  have HN : Aside0 (∀ i, i < 256 → cs0[i]? = some ((fun _ : Nat => Value.slice none 0 0) i)) := ⟨eN⟩
  have HS : Aside0 (cs0.size = 257) := ⟨by rw [hcs, impl_PlainOf.zeros]; simp⟩
  clear eN hcs HO1 HB1
  have E256 := Aside0.mk e256
  clear e256
  clear h0 h1 h2 h3 h4 h5 h6 h7 hst hf4
  refine wp_loop_rounds 5 ?_
  rw [rounds_succ]
  have hx0 := (HOLD.out.below HBW.out).c6
  have hx1 := (HOLD.out.below HBW.out).c7
  have hkey : cs0[45]? = some (.slice none 0 0) := HN.out 45 (by decide)
  have hk := (blk_cell HBK.out 45).trans hkey
  have ht := (blk_cell HBK.out 256).trans E256.out
  have HKEY := Aside0.mk hkey
  clear hkey
  have hbv : ∀ h : 0 < (⟨#[45]⟩ : ByteArray).size, ((⟨#[45]⟩ : ByteArray)[0]'h).toNat = 45 := fun _ => rfl
  have hcv := impl_PlainOf.str1 W0 45 45 rfl
  have kb := fun W => print_bytes (P := Tryz.prog) 9 22 5 Tryz.underlying9 Tryz.underlying22 Tryz.underlying5 ⟨#[]⟩ W
  go_wp2_with ((with_reducible refine gate_builtin (b := .append) (xs := #[.tmp 119, .tmp 123]) rfl ?_); at_builtin; go_loud (refine Kd.R_append Kd.string (w0 := w) w.heap.size rfl (.tmp 119) (.tmp 123) 26 9 (.string ⟨#[]⟩) 16 rfl Tryz.underlying26 impl_PlainOf.infoS rfl (by decide) (by omega) tv0 [] ⟨#[45]⟩ [.string ⟨#[45]⟩] (fun _ => True) (fun _ => False) rfl (by rw [impl_PlainOf.szA]; rfl) rfl (fun _ hk => hk.elim) (fun _ _ => trivial) (Kd.R_alloc HT.out _) (below_alloc HBW.out _) (below_alloc HBW.out _).size (by simp) ?_); intro v2 w2 ho hb hg hat; go_loud (obtain ⟨A2, c2, hv2⟩ := Kd.R_slice ho; obtain rfl : v2 = .slice A2 1 c2 := hv2; obtain ⟨hbk2, hbk4, hall⟩ := impl_PlainOf.round w W0 w2 bb 45 cs0 tv0 (.slice A2 1 c2) [] _ ⟨#[]⟩ _ HBK.out HLE.out HT.out ho hb hg; have hc2 := (blk_cell hbk2 256).trans E256.out; have hf2 := blk_frozen hbk2 256; have hc4 := (blk_cell hbk4 45).trans (show (cs0.setIfInBounds 256 (.slice A2 1 c2))[45]? = some (.slice none 0 0) from by rw [Array.getElem?_setIfInBounds, if_neg (by decide)]; exact HKEY.out); have hf4 := blk_frozen hbk4 45; have HALL := Aside0.mk hall; clear hall hbk2 hbk4 ho hb hg hat))
  obtain ⟨v45, hv⟩ : ∃ z_ : Value, z_ = Value.slice (some ⟨w2.heap.size, 0, none⟩) 0 (grownCap (w2.setCell ⟨bb, 256, none⟩ (.slice A2 1 c2)) 0 0 5) := ⟨_, rfl⟩
  obtain ⟨W1, hW⟩ : ∃ z_ : World, z_ = (Lib.bytesWorld (w2.setCell ⟨bb, 256, none⟩ (.slice A2 1 c2)) 5 ⟨#[]⟩).setCell ⟨bb, 45, none⟩ v45 := ⟨_, rfl⟩
  rw [← hv, ← hW]
  obtain ⟨hB, hK, hT, hrow, hkeep⟩ := HALL.out v45 hv W1 hW
  have ROW45 : Aside0 (impl_PlainOf.Row W1 v45 []) := ⟨hrow⟩
  obtain ⟨hn2, hs2, he2⟩ := impl_PlainOf.tab_step HN.out HS.out 45 (by decide) (.slice A2 1 c2) v45
  obtain ⟨cs1, hcs2⟩ : ∃ z_ : Array Value, z_ = (cs0.setIfInBounds 256 (.slice A2 1 c2)).setIfInBounds 45 v45 := ⟨_, rfl⟩
  rw [← hcs2] at hK hn2 hs2 he2
  clear hcs2 hv hW hkeep hrow HALL HKEY HBW HBK HT HN HS E256
  clear hx0 hx1 hk ht hbv hcv kb
  try clear hc2 hf2 hc4 hf4
  have HBW := Aside0.mk hB
  have HBK := Aside0.mk hK
  have HT := Aside0.mk hT
  have HN := Aside0.mk hn2
  have HS := Aside0.mk hs2
  have E256 := Aside0.mk he2
  clear hB hK hT hn2 hs2 he2
  obtain ⟨tv1, htv⟩ : ∃ z_ : Value, z_ = Value.slice A2 1 c2 := ⟨_, rfl⟩
  rw [← htv] at HT E256 ⊢
  clear htv
  clear A2 c2 
  rw [rounds_succ]
  have hx0 := (HOLD.out.below HBW.out).c4
  have hx1 := (HOLD.out.below HBW.out).c5
  have hkey : cs1[53]? = some (.slice none 0 0) := HN.out 53 (by decide)
  have hk := (blk_cell HBK.out 53).trans hkey
  have ht := (blk_cell HBK.out 256).trans E256.out
  have HKEY := Aside0.mk hkey
  clear hkey
  have hbv : ∀ h : 0 < (⟨#[53]⟩ : ByteArray).size, ((⟨#[53]⟩ : ByteArray)[0]'h).toNat = 53 := fun _ => rfl
  have hcv := impl_PlainOf.str1 W1 53 53 rfl
  have kb := fun W => print_bytes (P := Tryz.prog) 9 22 5 Tryz.underlying9 Tryz.underlying22 Tryz.underlying5 ⟨#[115]⟩ W
  go_wp2_with ((with_reducible refine gate_builtin (b := .append) (xs := #[.tmp 119, .tmp 123]) rfl ?_); at_builtin; go_loud (refine Kd.R_append Kd.string (w0 := w) w.heap.size rfl (.tmp 119) (.tmp 123) 26 9 (.string ⟨#[]⟩) 16 rfl Tryz.underlying26 impl_PlainOf.infoS rfl (by decide) (by omega) tv1 [⟨#[45]⟩] ⟨#[53]⟩ [.string ⟨#[53]⟩] (fun _ => True) (fun _ => False) rfl (by rw [impl_PlainOf.szA]; rfl) rfl (fun _ hk => hk.elim) (fun _ _ => trivial) (Kd.R_alloc HT.out _) (below_alloc HBW.out _) (below_alloc HBW.out _).size (by simp) ?_); intro v2 w2 ho hb hg hat; go_loud (obtain ⟨A2, c2, hv2⟩ := Kd.R_slice ho; obtain rfl : v2 = .slice A2 2 c2 := hv2; obtain ⟨hbk2, hbk4, hall⟩ := impl_PlainOf.round w W1 w2 bb 53 cs1 tv1 (.slice A2 2 c2) [⟨#[45]⟩] _ ⟨#[115]⟩ _ HBK.out HLE.out HT.out ho hb hg; have hc2 := (blk_cell hbk2 256).trans E256.out; have hf2 := blk_frozen hbk2 256; have hc4 := (blk_cell hbk4 53).trans (show (cs1.setIfInBounds 256 (.slice A2 2 c2))[53]? = some (.slice none 0 0) from by rw [Array.getElem?_setIfInBounds, if_neg (by decide)]; exact HKEY.out); have hf4 := blk_frozen hbk4 53; have HALL := Aside0.mk hall; clear hall hbk2 hbk4 ho hb hg hat))
  obtain ⟨v53, hv⟩ : ∃ z_ : Value, z_ = Value.slice (some ⟨w2.heap.size, 0, none⟩) 1 (grownCap (w2.setCell ⟨bb, 256, none⟩ (.slice A2 2 c2)) 1 0 5) := ⟨_, rfl⟩
  obtain ⟨W2, hW⟩ : ∃ z_ : World, z_ = (Lib.bytesWorld (w2.setCell ⟨bb, 256, none⟩ (.slice A2 2 c2)) 5 ⟨#[115]⟩).setCell ⟨bb, 53, none⟩ v53 := ⟨_, rfl⟩
  rw [← hv, ← hW]
  obtain ⟨hB, hK, hT, hrow, hkeep⟩ := HALL.out v53 hv W2 hW
  have ROW53 : Aside0 (impl_PlainOf.Row W2 v53 [115]) := ⟨hrow⟩
  have ROW45_ := Aside0.mk (hkeep _ _ ROW45.out)
  clear ROW45
  have ROW45 := ROW45_
  clear ROW45_
  obtain ⟨hn2, hs2, he2⟩ := impl_PlainOf.tab_step HN.out HS.out 53 (by decide) (.slice A2 2 c2) v53
  obtain ⟨cs2, hcs2⟩ : ∃ z_ : Array Value, z_ = (cs1.setIfInBounds 256 (.slice A2 2 c2)).setIfInBounds 53 v53 := ⟨_, rfl⟩
  rw [← hcs2] at hK hn2 hs2 he2
  clear hcs2 hv hW hkeep hrow HALL HKEY HBW HBK HT HN HS E256
  clear hx0 hx1 hk ht hbv hcv kb
  try clear hc2 hf2 hc4 hf4
  have HBW := Aside0.mk hB
  have HBK := Aside0.mk hK
  have HT := Aside0.mk hT
  have HN := Aside0.mk hn2
  have HS := Aside0.mk hs2
  have E256 := Aside0.mk he2
  clear hB hK hT hn2 hs2 he2
  obtain ⟨tv2, htv⟩ : ∃ z_ : Value, z_ = Value.slice A2 2 c2 := ⟨_, rfl⟩
  rw [← htv] at HT E256 ⊢
  clear htv
  clear A2 c2 
  rw [rounds_succ]
  have hx0 := (HOLD.out.below HBW.out).c2
  have hx1 := (HOLD.out.below HBW.out).c3
  have hkey : cs2[49]? = some (.slice none 0 0) := HN.out 49 (by decide)
  have hk := (blk_cell HBK.out 49).trans hkey
  have ht := (blk_cell HBK.out 256).trans E256.out
  have HKEY := Aside0.mk hkey
  clear hkey
  have hbv : ∀ h : 0 < (⟨#[49]⟩ : ByteArray).size, ((⟨#[49]⟩ : ByteArray)[0]'h).toNat = 49 := fun _ => rfl
  have hcv := impl_PlainOf.str1 W2 49 49 rfl
  have kb := fun W => print_bytes (P := Tryz.prog) 9 22 5 Tryz.underlying9 Tryz.underlying22 Tryz.underlying5 ⟨#[108]⟩ W
  go_wp2_with ((with_reducible refine gate_builtin (b := .append) (xs := #[.tmp 119, .tmp 123]) rfl ?_); at_builtin; go_loud (refine Kd.R_append Kd.string (w0 := w) w.heap.size rfl (.tmp 119) (.tmp 123) 26 9 (.string ⟨#[]⟩) 16 rfl Tryz.underlying26 impl_PlainOf.infoS rfl (by decide) (by omega) tv2 [⟨#[45]⟩, ⟨#[53]⟩] ⟨#[49]⟩ [.string ⟨#[49]⟩] (fun _ => True) (fun _ => False) rfl (by rw [impl_PlainOf.szA]; rfl) rfl (fun _ hk => hk.elim) (fun _ _ => trivial) (Kd.R_alloc HT.out _) (below_alloc HBW.out _) (below_alloc HBW.out _).size (by simp) ?_); intro v2 w2 ho hb hg hat; go_loud (obtain ⟨A2, c2, hv2⟩ := Kd.R_slice ho; obtain rfl : v2 = .slice A2 3 c2 := hv2; obtain ⟨hbk2, hbk4, hall⟩ := impl_PlainOf.round w W2 w2 bb 49 cs2 tv2 (.slice A2 3 c2) [⟨#[45]⟩, ⟨#[53]⟩] _ ⟨#[108]⟩ _ HBK.out HLE.out HT.out ho hb hg; have hc2 := (blk_cell hbk2 256).trans E256.out; have hf2 := blk_frozen hbk2 256; have hc4 := (blk_cell hbk4 49).trans (show (cs2.setIfInBounds 256 (.slice A2 3 c2))[49]? = some (.slice none 0 0) from by rw [Array.getElem?_setIfInBounds, if_neg (by decide)]; exact HKEY.out); have hf4 := blk_frozen hbk4 49; have HALL := Aside0.mk hall; clear hall hbk2 hbk4 ho hb hg hat))
  obtain ⟨v49, hv⟩ : ∃ z_ : Value, z_ = Value.slice (some ⟨w2.heap.size, 0, none⟩) 1 (grownCap (w2.setCell ⟨bb, 256, none⟩ (.slice A2 3 c2)) 1 0 5) := ⟨_, rfl⟩
  obtain ⟨W3, hW⟩ : ∃ z_ : World, z_ = (Lib.bytesWorld (w2.setCell ⟨bb, 256, none⟩ (.slice A2 3 c2)) 5 ⟨#[108]⟩).setCell ⟨bb, 49, none⟩ v49 := ⟨_, rfl⟩
  rw [← hv, ← hW]
  obtain ⟨hB, hK, hT, hrow, hkeep⟩ := HALL.out v49 hv W3 hW
  have ROW49 : Aside0 (impl_PlainOf.Row W3 v49 [108]) := ⟨hrow⟩
  have ROW45_ := Aside0.mk (hkeep _ _ ROW45.out)
  clear ROW45
  have ROW45 := ROW45_
  clear ROW45_
  have ROW53_ := Aside0.mk (hkeep _ _ ROW53.out)
  clear ROW53
  have ROW53 := ROW53_
  clear ROW53_
  obtain ⟨hn2, hs2, he2⟩ := impl_PlainOf.tab_step HN.out HS.out 49 (by decide) (.slice A2 3 c2) v49
  obtain ⟨cs3, hcs2⟩ : ∃ z_ : Array Value, z_ = (cs2.setIfInBounds 256 (.slice A2 3 c2)).setIfInBounds 49 v49 := ⟨_, rfl⟩
  rw [← hcs2] at hK hn2 hs2 he2
  clear hcs2 hv hW hkeep hrow HALL HKEY HBW HBK HT HN HS E256
  clear hx0 hx1 hk ht hbv hcv kb
  try clear hc2 hf2 hc4 hf4
  have HBW := Aside0.mk hB
  have HBK := Aside0.mk hK
  have HT := Aside0.mk hT
  have HN := Aside0.mk hn2
  have HS := Aside0.mk hs2
  have E256 := Aside0.mk he2
  clear hB hK hT hn2 hs2 he2
  obtain ⟨tv3, htv⟩ : ∃ z_ : Value, z_ = Value.slice A2 3 c2 := ⟨_, rfl⟩
  rw [← htv] at HT E256 ⊢
  clear htv
  clear A2 c2 
  rw [rounds_succ]
  have hx0 := (HOLD.out.below HBW.out).c0
  have hx1 := (HOLD.out.below HBW.out).c1
  have hkey : cs3[48]? = some (.slice none 0 0) := HN.out 48 (by decide)
  have hk := (blk_cell HBK.out 48).trans hkey
  have ht := (blk_cell HBK.out 256).trans E256.out
  have HKEY := Aside0.mk hkey
  clear hkey
  have hbv : ∀ h : 0 < (⟨#[48]⟩ : ByteArray).size, ((⟨#[48]⟩ : ByteArray)[0]'h).toNat = 48 := fun _ => rfl
  have hcv := impl_PlainOf.str1 W3 48 48 rfl
  have kb := fun W => print_bytes (P := Tryz.prog) 9 22 5 Tryz.underlying9 Tryz.underlying22 Tryz.underlying5 ⟨#[111]⟩ W
  go_wp2_with ((with_reducible refine gate_builtin (b := .append) (xs := #[.tmp 119, .tmp 123]) rfl ?_); at_builtin; go_loud (refine Kd.R_append Kd.string (w0 := w) w.heap.size rfl (.tmp 119) (.tmp 123) 26 9 (.string ⟨#[]⟩) 16 rfl Tryz.underlying26 impl_PlainOf.infoS rfl (by decide) (by omega) tv3 [⟨#[45]⟩, ⟨#[53]⟩, ⟨#[49]⟩] ⟨#[48]⟩ [.string ⟨#[48]⟩] (fun _ => True) (fun _ => False) rfl (by rw [impl_PlainOf.szA]; rfl) rfl (fun _ hk => hk.elim) (fun _ _ => trivial) (Kd.R_alloc HT.out _) (below_alloc HBW.out _) (below_alloc HBW.out _).size (by simp) ?_); intro v2 w2 ho hb hg hat; go_loud (obtain ⟨A2, c2, hv2⟩ := Kd.R_slice ho; obtain rfl : v2 = .slice A2 4 c2 := hv2; obtain ⟨hbk2, hbk4, hall⟩ := impl_PlainOf.round w W3 w2 bb 48 cs3 tv3 (.slice A2 4 c2) [⟨#[45]⟩, ⟨#[53]⟩, ⟨#[49]⟩] _ ⟨#[111]⟩ _ HBK.out HLE.out HT.out ho hb hg; have hc2 := (blk_cell hbk2 256).trans E256.out; have hf2 := blk_frozen hbk2 256; have hc4 := (blk_cell hbk4 48).trans (show (cs3.setIfInBounds 256 (.slice A2 4 c2))[48]? = some (.slice none 0 0) from by rw [Array.getElem?_setIfInBounds, if_neg (by decide)]; exact HKEY.out); have hf4 := blk_frozen hbk4 48; have HALL := Aside0.mk hall; clear hall hbk2 hbk4 ho hb hg hat))
  obtain ⟨v48, hv⟩ : ∃ z_ : Value, z_ = Value.slice (some ⟨w2.heap.size, 0, none⟩) 1 (grownCap (w2.setCell ⟨bb, 256, none⟩ (.slice A2 4 c2)) 1 0 5) := ⟨_, rfl⟩
  obtain ⟨W4, hW⟩ : ∃ z_ : World, z_ = (Lib.bytesWorld (w2.setCell ⟨bb, 256, none⟩ (.slice A2 4 c2)) 5 ⟨#[111]⟩).setCell ⟨bb, 48, none⟩ v48 := ⟨_, rfl⟩
  rw [← hv, ← hW]
  obtain ⟨hB, hK, hT, hrow, hkeep⟩ := HALL.out v48 hv W4 hW
  have ROW48 : Aside0 (impl_PlainOf.Row W4 v48 [111]) := ⟨hrow⟩
  have ROW45_ := Aside0.mk (hkeep _ _ ROW45.out)
  clear ROW45
  have ROW45 := ROW45_
  clear ROW45_
  have ROW53_ := Aside0.mk (hkeep _ _ ROW53.out)
  clear ROW53
  have ROW53 := ROW53_
  clear ROW53_
  have ROW49_ := Aside0.mk (hkeep _ _ ROW49.out)
  clear ROW49
  have ROW49 := ROW49_
  clear ROW49_
  obtain ⟨hn2, hs2, he2⟩ := impl_PlainOf.tab_step HN.out HS.out 48 (by decide) (.slice A2 4 c2) v48
  obtain ⟨cs4, hcs2⟩ : ∃ z_ : Array Value, z_ = (cs3.setIfInBounds 256 (.slice A2 4 c2)).setIfInBounds 48 v48 := ⟨_, rfl⟩
  rw [← hcs2] at hK hn2 hs2 he2
  clear hcs2 hv hW hkeep hrow HALL HKEY HBW HBK HT HN HS E256
  clear hx0 hx1 hk ht hbv hcv kb
  try clear hc2 hf2 hc4 hf4
  have HBW := Aside0.mk hB
  have HBK := Aside0.mk hK
  have HT := Aside0.mk hT
  have HN := Aside0.mk hn2
  have HS := Aside0.mk hs2
  have E256 := Aside0.mk he2
  clear hB hK hT hn2 hs2 he2
  obtain ⟨tv4, htv⟩ : ∃ z_ : Value, z_ = Value.slice A2 4 c2 := ⟨_, rfl⟩
  rw [← htv] at HT E256 ⊢
  clear htv
  clear A2 c2 
  rw [rounds_succ]
  go_wp2
  go_ret
  have ht : Kd.R Kd.string 9 W4 w.heap.size (fun _ => True) tv4 [⟨#[45]⟩, ⟨#[53]⟩, ⟨#[49]⟩, ⟨#[48]⟩] := HT.out
  refine ⟨bb, rfl, HLE.out, ⟨cs4, _, tv4, HBK.out, E256.out, Kd.R_lower ht (Nat.zero_le _), fun i hi => ⟨HN.out i hi, ?_⟩⟩, HBW.out⟩
  unfold impl_PlainOf.rep
  by_cases e45 : i = 45
  · subst e45; exact ROW45.out
  · by_cases e53 : i = 53
    · subst e53; exact ROW53.out
    · by_cases e49 : i = 49
      · subst e49; exact ROW49.out
      · by_cases e48 : i = 48
        · subst e48; exact ROW48.out
        · rw [if_neg e45, if_neg e53, if_neg e49, if_neg e48, if_neg e45, if_neg e53, if_neg e49, if_neg e48]
          rfl
set_option maxHeartbeats 8000000 in
set_option maxRecDepth 100000 in
theorem impl_PlainOf.once (rb ob : Nat) (c : Nat) (w : World) (hrb : w.heap[rb]? = some (.cells #[.int .u32 0, .int .i32 1, .int .u32 0, .nilIface, .slice (some ⟨ob, 0, none⟩) 8 c] 66 (0, 0))) (ho : impl_PlainOf.Old w ob) :
    Calls Tryz.prog 36 #[.pointer (some ⟨rb, 0, none⟩)] w fun e w' => ∃ bb, e = .returned (.tuple #[]) ∧ impl_PlainOf.Rep w' bb ∧ impl_PlainOf.Up rb w w' ∧ w'.heap[rb]? = some (.cells #[.int .u32 0, .int .i32 1, .int .u32 0, .iface 86 (.pointer (some ⟨bb, 0, none⟩)), .slice none 0 0] 66 (0, 0)) := by
  have K := Aside0.mk (impl_PlainOf.build rb ob c w hrb ho)
  have HRB := Aside0.mk hrb
  clear hrb ho
  go_enter Tryz.func36, Tryz.ntmps36
  go_wp2_with (go_at_call 40; refine K.out.mono ?_; rintro e w1 ⟨bb, rfl, hle, hrep, hb⟩; have hr1 := blk_below HRB.out hb; have h3 := (blk_cell hr1 3).trans rfl; have f3 := blk_frozen hr1 3; have h4 := (blk_cell hr1 4).trans rfl; have f4 := blk_frozen hr1 4; have HR1 := Aside0.mk hr1; have HREP := Aside0.mk hrep; have HBB := Aside0.mk hb; clear hr1 hrep hb)
  go_end0
  have hs1 := blk_set HR1.out 3 (.iface 86 (.pointer (some ⟨bb, 0, none⟩)))
  have hs2 := blk_set hs1 4 (.slice none 0 0)
  exact ⟨bb, rfl, (HREP.out.set HR1.out 3 _).set hs1 4 _, (((impl_PlainOf.Up.refl rb w).below (blk_lt HRB.out) HBB.out).set 3 _).set 4 _, hs2⟩
theorem impl_PlainOf.disable (w : World) : (callFunc 53 #[]).run Tryz.prog w = .ok (.value (.tuple #[])) w := run_call_mark0 Tryz.func53 (by kernel_rfl) (by kernel_rfl) (by kernel_rfl) .disable (by kernel_rfl) w
theorem impl_PlainOf.enable (w : World) : (callFunc 55 #[]).run Tryz.prog w = .ok (.value (.tuple #[])) w := run_call_mark0 Tryz.func55 (by kernel_rfl) (by kernel_rfl) (by kernel_rfl) .enable (by kernel_rfl) w
theorem impl_PlainOf.acquire (a : Addr) (w : World) : (callFunc 56 #[.pointer (some a)]).run Tryz.prog w = .ok (.value (.tuple #[])) w := run_call_marked Tryz.func56 (by kernel_rfl) (by kernel_rfl) (by kernel_rfl) .acquire (by kernel_rfl) a w
theorem impl_PlainOf.releaseMerge (a : Addr) (w : World) : (callFunc 58 #[.pointer (some a)]).run Tryz.prog w = .ok (.value (.tuple #[])) w := run_call_marked Tryz.func58 (by kernel_rfl) (by kernel_rfl) (by kernel_rfl) .releaseMerge (by kernel_rfl) a w
set_option maxHeartbeats 8000000 in
set_option maxRecDepth 100000 in
/-- The done mark is set, as a deferred call. -/
theorem impl_PlainOf.store_deferred (a : Addr) (x : Value) (u : FrameMode) (w : World) (hc : w.cell? a = some x) (hz : w.frozen? a = false) :
    CallsD Tryz.prog 44 #[.pointer (some a), .bool true] u w fun e u' w' => u' = u ∧ (e = .returned (.tuple #[]) ∧ w' = w.drew.setCell a (.int .u32 1)) := by
  have hc' : w.drew.cell? a = some x := by go_simp
  have hz' : w.drew.frozen? a = false := by go_simp
  have hst := run_call_store (P := Tryz.prog) Tryz.func49 (by kernel_rfl) (by kernel_rfl) (by kernel_rfl) (by kernel_rfl) (k := .u32) (y := 1) hc' hz'
  go_enter_d Tryz.func44, Tryz.ntmps44
  go_wp2
  go_region_calls
  all_goals (go_end0; exact ⟨rfl, rfl⟩)
set_option maxHeartbeats 8000000 in
set_option maxRecDepth 100000 in
/-- The lock is let go, as a deferred call. -/
theorem impl_PlainOf.unlock_deferred (a : Addr) (u : FrameMode) (w : World) (hc : w.cell? a = some (.int .i32 1)) (hz : w.frozen? a = false) :
    CallsD Tryz.prog 43 #[.pointer (some a)] u w fun e u' w' => u' = u ∧ (e = .returned (.tuple #[]) ∧ w' = w.setCell a (.int .i32 0)) := by
  have hd := impl_PlainOf.disable
  have he := impl_PlainOf.enable
  have hr := impl_PlainOf.releaseMerge
  have hadd := run_call_add (P := Tryz.prog) Tryz.func59 (by kernel_rfl) (by kernel_rfl) (by kernel_rfl) .i32 (by kernel_rfl) (y := -1) (s := 0) hc hz (by simp [go_sem]; rfl)
  have hcv := run_convert_to_unsafe (P := Tryz.prog) (src := 101) (dst := 105) Tryz.underlying101 Tryz.underlying105 (by kernel_rfl) hc
  go_enter_d Tryz.func43, Tryz.ntmps43
  go_wp2
  go_end0
  go_wp2
  go_end0
  exact ⟨rfl, rfl⟩
set_option maxHeartbeats 8000000 in
set_option maxRecDepth 100000 in
/-- The lock is taken. -/
theorem impl_PlainOf.lock_free (a : Addr) (w : World) (hc : w.cell? a = some (.int .i32 0)) (hz : w.frozen? a = false) :
    Calls Tryz.prog 42 #[.pointer (some a)] w fun e w' => e = .returned (.tuple #[]) ∧ w' = w.setCell a (.int .i32 1) := by
  have hd := impl_PlainOf.disable
  have he := impl_PlainOf.enable
  have ha := impl_PlainOf.acquire
  have hcas := run_call_cas_hit (P := Tryz.prog) Tryz.func54 (by kernel_rfl) (by kernel_rfl) (by kernel_rfl) .i32 (by kernel_rfl) (y := 1) hc hz
  have hc' : (w.setCell a (.int .i32 1)).cell? a = some (.int .i32 1) := World.cell?_setCell_same w a _ hc
  have hcv := run_convert_to_unsafe (P := Tryz.prog) (src := 101) (dst := 105) Tryz.underlying101 Tryz.underlying105 (by kernel_rfl) hc'
  go_enter Tryz.func42, Tryz.ntmps42
  go_wp2
  first | go_end0 | (simp only [Exit.inBlock, Exit.then]; refine bodyPost_ret (results_none rfl _ _ _) rfl ?_) | refine bodyPost_ret (results_none rfl _ _ _) rfl ?_
  go_wp2
  go_end0
  exact ⟨rfl, rfl⟩
set_option maxHeartbeats 8000000 in
set_option maxRecDepth 100000 in
theorem impl_PlainOf.load0 (a : Addr) (w : World) (hc : w.cell? a = some (.int .u32 0)) : Calls Tryz.prog 38 #[.pointer (some a)] w fun e w' => e = .returned (.bool false) ∧ w' = w := by
  have hl := run_call_load (P := Tryz.prog) Tryz.func41 (by kernel_rfl) (by kernel_rfl) (by kernel_rfl) .u32 (by kernel_rfl) (w := w) (a := a) (x := 0) hc
  go_enter Tryz.func38, Tryz.ntmps38
  go_wp2
  go_ret
  exact ⟨rfl, rfl⟩
set_option maxHeartbeats 8000000 in
set_option maxRecDepth 100000 in
theorem impl_PlainOf.slow (rb ob : Nat) (c : Nat) (w : World) (hrb : w.heap[rb]? = some (.cells #[.int .u32 0, .int .i32 0, .int .u32 0, .nilIface, .slice (some ⟨ob, 0, none⟩) 8 c] 66 (0, 0))) (ho : impl_PlainOf.Old w ob) (hne : ob ≠ rb) :
    Calls Tryz.prog 39 #[.pointer (some ⟨rb, 0, none⟩), .func (.func 36) #[.pointer (some ⟨rb, 0, none⟩)] #[]] w fun e w' => ∃ bb, e = .returned (.tuple #[]) ∧ impl_PlainOf.Rep w' bb ∧ impl_PlainOf.Up rb w w' ∧ w'.heap[rb]? = some (.cells #[.int .u32 1, .int .i32 0, .int .u32 0, .iface 86 (.pointer (some ⟨bb, 0, none⟩)), .slice none 0 0] 66 (0, 0)) := by
  have h0 := (blk_cell hrb 0).trans rfl
  have h1 := (blk_cell hrb 1).trans rfl
  have f1 := blk_frozen hrb 1
  have hrb1 := blk_set hrb 1 (.int .i32 1)
  have h01 := (blk_cell hrb1 0).trans rfl
  have ho1 : impl_PlainOf.Old (w.setCell ⟨rb, 1, none⟩ (.int .i32 1)) ob := by
    have g : ∀ i v, w.cell? ⟨ob, i, none⟩ = some v → (w.setCell ⟨rb, 1, none⟩ (.int .i32 1)).cell? ⟨ob, i, none⟩ = some v := fun i v e => (World.cell?_setCell_other _ ⟨rb, 1, none⟩ ⟨ob, i, none⟩ _ (by intro z; injection z with z; exact hne z.symm)).trans e
    exact ⟨g _ _ ho.c0, g _ _ ho.c1, g _ _ ho.c2, g _ _ ho.c3, g _ _ ho.c4, g _ _ ho.c5, g _ _ ho.c6, g _ _ ho.c7⟩
  have K := Aside0.mk (impl_PlainOf.once rb ob c (w.setCell ⟨rb, 1, none⟩ (.int .i32 1)) hrb1 ho1)
  have HUP := Aside0.mk ((impl_PlainOf.Up.refl rb w).set 1 (.int .i32 1))
  have L := Aside0.mk (impl_PlainOf.lock_free ⟨rb, 1, none⟩ w h1 f1)
  have LD := Aside0.mk (impl_PlainOf.load0 ⟨rb, 0, none⟩ _ h01)
  clear hrb hrb1 ho ho1 h0 h1 f1 h01
  have hnot : ∀ (x : Bool) (w : World), (Op.unary .not (.bool x)).run Tryz.prog w = .ok (.bool (!x)) w := fun _ _ => rfl
  go_enter_defers Tryz.func39, Tryz.ntmps39
  go_wp2_with (first
    | (go_at_call 42; refine L.out.mono ?_; rintro e w' ⟨rfl, rfl⟩)
    | (go_at_call 38; refine LD.out.mono ?_; rintro e w' ⟨rfl, rfl⟩)
    | (go_at_call 36; refine K.out.mono ?_; rintro e w2 ⟨bb, rfl, hrep, hup, hr2⟩; have HREP := Aside0.mk hrep; have HU := Aside0.mk hup; have HR := Aside0.mk hr2; clear hrep hup hr2))
  refine leaves_cons (f := 44) (args := #[.pointer (some ⟨rb, 0, none⟩), .bool true]) (by simp) (by simp [go_sem]) ?_
  refine (impl_PlainOf.store_deferred ⟨rb, 0, none⟩ (.int .u32 0) .returning _ ((blk_cell HR.out 0).trans rfl) (blk_frozen HR.out 0)).mono ?_
  rintro e u' w'' ⟨rfl, rfl, rfl⟩
  have hr3 : w2.drew.heap[rb]? = _ := HR.out
  have hr4 := blk_set hr3 0 (.int .u32 1)
  refine leaves_cons (f := 43) (args := #[.pointer (some ⟨rb, 1, none⟩)]) (by simp [settle]) (by simp [go_sem]) ?_
  refine (impl_PlainOf.unlock_deferred ⟨rb, 1, none⟩ _ _ ((blk_cell hr4 1).trans rfl) (blk_frozen hr4 1)).mono ?_
  rintro e u' w'' ⟨rfl, rfl, rfl⟩
  have hr5 := blk_set hr4 1 (.int .i32 0)
  have hrep3 : impl_PlainOf.Rep w2.drew bb := HREP.out
  have hfin : impl_PlainOf.Rep ((w2.drew.setCell ⟨rb, 0, none⟩ (.int .u32 1)).setCell ⟨rb, 1, none⟩ (.int .i32 0)) bb := (hrep3.set hr3 0 _).set hr4 1 _
  have hup3 : impl_PlainOf.Up rb w ((w2.drew.setCell ⟨rb, 0, none⟩ (.int .u32 1)).setCell ⟨rb, 1, none⟩ (.int .i32 0)) := (((HUP.out.trans HU.out).drew).set 0 _).set 1 _
  have H5 := Aside0.mk (And.intro hfin (And.intro hup3 hr5))
  clear hr3 hr4 hr5 hrep3 hfin hup3
  simp [Leaves, settle, results, Tryz.results39]
  exact ⟨bb, H5.out⟩
set_option maxHeartbeats 8000000 in
set_option maxRecDepth 100000 in
theorem impl_PlainOf.doOnce (rb ob : Nat) (c : Nat) (w : World) (hrb : w.heap[rb]? = some (.cells #[.int .u32 0, .int .i32 0, .int .u32 0, .nilIface, .slice (some ⟨ob, 0, none⟩) 8 c] 66 (0, 0))) (ho : impl_PlainOf.Old w ob) (hne : ob ≠ rb) :
    Calls Tryz.prog 35 #[.pointer (some ⟨rb, 0, none⟩), .func (.func 36) #[.pointer (some ⟨rb, 0, none⟩)] #[]] w fun e w' => ∃ bb, e = .returned (.tuple #[]) ∧ impl_PlainOf.Rep w' bb ∧ impl_PlainOf.Up rb w w' ∧ w'.heap[rb]? = some (.cells #[.int .u32 1, .int .i32 0, .int .u32 0, .iface 86 (.pointer (some ⟨bb, 0, none⟩)), .slice none 0 0] 66 (0, 0)) := by
  have LD := Aside0.mk (impl_PlainOf.load0 ⟨rb, 0, none⟩ w ((blk_cell hrb 0).trans rfl))
  have K := Aside0.mk (impl_PlainOf.slow rb ob c w hrb ho hne)
  clear hrb ho
  have hnot : ∀ (x : Bool) (w : World), (Op.unary .not (.bool x)).run Tryz.prog w = .ok (.bool (!x)) w := fun _ _ => rfl
  go_enter Tryz.func35, Tryz.ntmps35
  go_wp2_with (first
    | (go_at_call 38; refine LD.out.mono ?_; rintro e w' ⟨rfl, rfl⟩)
    | (go_at_call 39; refine K.out.mono ?_; rintro e w2 ⟨bb, rfl, hd⟩; have H := Aside0.mk hd; clear hd))
  go_end0
  exact ⟨bb, rfl, H.out⟩
def impl_PlainOf.keyB (c : UInt8) : Bool := c == 45 || c == 53 || c == 49 || c == 48
def impl_PlainOf.outC (c : UInt8) : List UInt8 := if c = 45 then [] else if c = 53 then [115] else if c = 49 then [108] else if c = 48 then [111] else [c]
/-- What the text becomes. -/
def impl_PlainOf.plain (l : List UInt8) : List UInt8 := l.flatMap impl_PlainOf.outC
theorem impl_PlainOf.out_other (c : UInt8) (h : impl_PlainOf.keyB c = false) : impl_PlainOf.outC c = [c] := by
  unfold impl_PlainOf.keyB at h
  simp at h
  unfold impl_PlainOf.outC
  rw [if_neg h.1.1.1, if_neg h.1.1.2, if_neg h.1.2, if_neg h.2]
theorem impl_PlainOf.out_le (c : UInt8) : (impl_PlainOf.outC c).length ≤ 1 := by
  unfold impl_PlainOf.outC
  split
  · simp
  · split
    · simp
    · split
      · simp
      · split <;> simp
theorem impl_PlainOf.rep_key (c : UInt8) : impl_PlainOf.rep c.toNat = if impl_PlainOf.keyB c = true then some ((impl_PlainOf.outC c).map fun x => (x.toNat : Int)) else none := by
  have g : ∀ n : UInt8, c.toNat = n.toNat ↔ c = n := fun n => UInt8.toNat_inj
  unfold impl_PlainOf.rep impl_PlainOf.keyB impl_PlainOf.outC
  have g45 : c.toNat = 45 ↔ c = 45 := g 45
  have g53 : c.toNat = 53 ↔ c = 53 := g 53
  have g49 : c.toNat = 49 ↔ c = 49 := g 49
  have g48 : c.toNat = 48 ↔ c = 48 := g 48
  by_cases e45 : c = 45
  · subst e45; rfl
  · by_cases e53 : c = 53
    · subst e53; rfl
    · by_cases e49 : c = 49
      · subst e49; rfl
      · by_cases e48 : c = 48
        · subst e48; rfl
        · rw [if_neg (fun z => e45 (g45.1 z)), if_neg (fun z => e53 (g53.1 z)), if_neg (fun z => e49 (g49.1 z)), if_neg (fun z => e48 (g48.1 z))]
          simp [e45, e53, e49, e48]
theorem impl_PlainOf.Rep.other {W : World} {bb : Nat} (h : impl_PlainOf.Rep W bb) (c : UInt8) (hc : impl_PlainOf.keyB c = false) : W.cell? ⟨bb, c.toNat, none⟩ = some (.slice none 0 0) := by
  obtain ⟨cs, tab, tv, h1, h2, h3, h4⟩ := h
  have h5 := h4 c.toNat (UInt8.toNat_lt c)
  rw [impl_PlainOf.rep_key, hc] at h5
  rw [blk_cell h1, h5.1]
  exact congrArg some h5.2
theorem impl_PlainOf.Rep.key {W : World} {bb : Nat} (h : impl_PlainOf.Rep W bb) (c : UInt8) (hc : impl_PlainOf.keyB c = true) : ∃ g cap, W.cell? ⟨bb, c.toNat, none⟩ = some (.slice (some ⟨g, 0, none⟩) (impl_PlainOf.outC c).length cap) ∧ (impl_PlainOf.outC c).length ≤ cap ∧ ∀ (j : Nat) (x : UInt8), (impl_PlainOf.outC c)[j]? = some x → W.cell? ⟨g, j, none⟩ = some (.int .u8 (x.toNat : Int)) := by
  obtain ⟨cs, tab, tv, h1, h2, h3, h4⟩ := h
  have h5 := h4 c.toNat (UInt8.toNat_lt c)
  rw [impl_PlainOf.rep_key, hc] at h5
  obtain ⟨h6, g, cap, cur, fr, h7, h8, h9, h10⟩ := h5
  refine ⟨g, cap, by rw [blk_cell h1, h6, h7, List.length_map], by simpa using h8, fun j x hx => ?_⟩
  rw [cell_of_row W g j _ _ _ h9]
  exact h10 j _ (by rw [List.getElem?_map, hx]; rfl)
theorem impl_PlainOf.Rep.strs {W : World} {bb : Nat} (h : impl_PlainOf.Rep W bb) : ∃ tb tc, 4 ≤ tc ∧ W.cell? ⟨bb, 256, none⟩ = some (.slice (some ⟨tb, 0, none⟩) 4 tc) ∧ W.cell? ⟨tb, 0, none⟩ = some (.string ⟨#[45]⟩) ∧ W.cell? ⟨tb, 1, none⟩ = some (.string ⟨#[53]⟩) ∧ W.cell? ⟨tb, 2, none⟩ = some (.string ⟨#[49]⟩) ∧ W.cell? ⟨tb, 3, none⟩ = some (.string ⟨#[48]⟩) := by
  obtain ⟨cs, tab, tv, h1, h2, h3, h4⟩ := h
  rcases (Kd.own_of_R h3).2 with ⟨_, hl⟩ | ⟨g, cap, cur, hv, _, hh, hn, hc, hs, ht⟩
  · cases hl
  · subst hv
    have ht2 : cur.toList.take 4 = [.string ⟨#[45]⟩, .string ⟨#[53]⟩, .string ⟨#[49]⟩, .string ⟨#[48]⟩] := by simpa [encs] using ht
    have q : ∀ j, j < 4 → W.cell? ⟨g, j, none⟩ = ([.string ⟨#[45]⟩, .string ⟨#[53]⟩, .string ⟨#[49]⟩, .string ⟨#[48]⟩] : List Value)[j]? := by
      intro j hj
      rw [blk_cell hh, ← ht2, List.getElem?_take_of_lt hj, Array.getElem?_toList]
    exact ⟨g, cap, hn, (blk_cell h1 256).trans h2, q 0 (by decide), q 1 (by decide), q 2 (by decide), q 3 (by decide)⟩
theorem impl_PlainOf.plain_snoc (l : List UInt8) (c : UInt8) : impl_PlainOf.plain (l ++ [c]) = impl_PlainOf.plain l ++ impl_PlainOf.outC c := by simp [impl_PlainOf.plain]
theorem impl_PlainOf.plain_le : ∀ l : List UInt8, (impl_PlainOf.plain l).length ≤ l.length
  | [] => by simp [impl_PlainOf.plain]
  | c :: l => by
    have := impl_PlainOf.plain_le l
    have := impl_PlainOf.out_le c
    simp only [impl_PlainOf.plain, List.flatMap_cons, List.length_append, List.length_cons] at *
    omega
theorem impl_PlainOf.plain_none : ∀ l : List UInt8, l.any impl_PlainOf.keyB = false → impl_PlainOf.plain l = l
  | [], _ => rfl
  | c :: l, h => by
    rw [List.any_cons, Bool.or_eq_false_iff] at h
    have := impl_PlainOf.plain_none l h.2
    simp only [impl_PlainOf.plain, List.flatMap_cons] at *
    rw [this, impl_PlainOf.out_other c h.1]
    rfl
theorem impl_PlainOf.neqnil (W : World) (a : Option Addr) (n c : Nat) : (binOp .neq 22 (.slice a n c) (.slice none 0 0)).run Tryz.prog W = .ok (.bool (!a.isNone)) W := by
  simp only [binOp]
  simp [Op.equal, Op.maxDepth, Lib.run_equalIn_slice_nil W 9999 22 5 a n c 0 0 Tryz.underlying22]
theorem impl_PlainOf.infoB : (Tryz.prog.info? 5).map (fun i => (i.zero, i.size, i.bytes)) = some (some (.int .u8 0), 1, 1) := by kernel_rfl
theorem impl_PlainOf.plain_take (l : List UInt8) (i : Nat) : (impl_PlainOf.plain (l.take i)).length ≤ (impl_PlainOf.plain l).length := by
  have h : impl_PlainOf.plain l = impl_PlainOf.plain (l.take i) ++ impl_PlainOf.plain (l.drop i) := by rw [impl_PlainOf.plain, impl_PlainOf.plain, impl_PlainOf.plain, ← List.flatMap_append, List.take_append_drop]
  rw [h, List.length_append]
  omega
theorem impl_PlainOf.spliced (cur : Array Value) (L C : List UInt8) (m : Nat) (h : cur.toList.take m = L.map (fun x => Value.int .u8 (x.toNat : Int))) (hl : m = L.length) (hm : m + C.length ≤ cur.size) :
    (splice cur.toList m (C.map (fun x => Value.int .u8 (x.toNat : Int)))).toArray.size = cur.size ∧ (splice cur.toList m (C.map (fun x => Value.int .u8 (x.toNat : Int)))).toArray.toList.take (m + C.length) = (L ++ C).map (fun x => Value.int .u8 (x.toNat : Int)) := by
  have hlm : (cur.toList.take m).length = m := by rw [List.length_take, Array.length_toList]; omega
  refine ⟨?_, ?_⟩
  · show (splice cur.toList m (C.map (fun x => Value.int .u8 (x.toNat : Int)))).length = cur.size
    rw [length_splice _ _ _ (by rw [List.length_map, Array.length_toList]; exact hm), Array.length_toList]
  · show (splice cur.toList m (C.map (fun x => Value.int .u8 (x.toNat : Int)))).take (m + C.length) = _
    unfold splice
    rw [← List.append_assoc, List.take_append_of_le_length (by rw [List.length_append, hlm, List.length_map]; omega), List.take_of_length_le (by rw [List.length_append, hlm, List.length_map]; omega), List.map_append, h]
def impl_PlainOf.anyJ (l : List UInt8) (j : Nat) : Bool := (([45, 53, 49, 48] : List UInt8).take j).any fun k => decide (Lib.countByte l k ≠ 0)
theorem impl_PlainOf.count_le (l : List UInt8) (k : UInt8) : Lib.countByte l k ≤ l.length := List.count_le_length
theorem impl_PlainOf.count_plain : ∀ l : List UInt8, (impl_PlainOf.plain l).length + Lib.countByte l 45 = l.length
  | [] => rfl
  | c :: l => by
    have h := impl_PlainOf.count_plain l
    unfold Lib.countByte impl_PlainOf.plain at *
    rw [List.flatMap_cons, List.length_append, List.count_cons, List.length_cons]
    have ho : (impl_PlainOf.outC c).length + (if (c == 45) = true then 1 else 0) = 1 := by
      unfold impl_PlainOf.outC
      by_cases e45 : c = 45
      · simp [e45]
      · by_cases e53 : c = 53
        · simp [e53]
        · by_cases e49 : c = 49
          · simp [e49]
          · by_cases e48 : c = 48
            · simp [e48]
            · simp [e45, e53, e49, e48]
    omega
theorem impl_PlainOf.any_count (l : List UInt8) : impl_PlainOf.anyJ l 4 = l.any impl_PlainOf.keyB := by
  have hd : ∀ k : UInt8, decide (Lib.countByte l k ≠ 0) = decide (k ∈ l) := fun k => by
    unfold Lib.countByte
    rw [Bool.eq_iff_iff, decide_eq_true_eq, decide_eq_true_eq, ← Nat.pos_iff_ne_zero, List.count_pos_iff]
  have ha : impl_PlainOf.anyJ l 4 = (decide ((45 : UInt8) ∈ l) || (decide ((53 : UInt8) ∈ l) || (decide ((49 : UInt8) ∈ l) || (decide ((48 : UInt8) ∈ l) || false)))) := by
    rw [← hd, ← hd, ← hd, ← hd]
    rfl
  rw [ha, Bool.eq_iff_iff, List.any_eq_true]
  simp only [Bool.or_eq_true, decide_eq_true_eq, Bool.false_eq_true, or_false, impl_PlainOf.keyB, beq_iff_eq]
  constructor
  · rintro (h | h | h | h)
    · exact ⟨_, h, Or.inl (Or.inl (Or.inl rfl))⟩
    · exact ⟨_, h, Or.inl (Or.inl (Or.inr rfl))⟩
    · exact ⟨_, h, Or.inl (Or.inr rfl)⟩
    · exact ⟨_, h, Or.inr rfl⟩
  · rintro ⟨x, hx, ((rfl | rfl) | rfl) | rfl⟩
    · exact Or.inl hx
    · exact Or.inr (Or.inl hx)
    · exact Or.inr (Or.inr (Or.inl hx))
    · exact Or.inr (Or.inr (Or.inr hx))
theorem impl_PlainOf.sizeB : (Tryz.prog.info? 5).map (·.size) = some 1 := by kernel_rfl
theorem impl_PlainOf.put (cur : Array Value) (L : List UInt8) (m : Nat) (c : UInt8) (h : cur.toList.take m = L.map (fun x => Value.int .u8 (x.toNat : Int))) (hl : m = L.length) (hm : m < cur.size) :
    (cur.setIfInBounds m (.int .u8 (c.toNat : Int))).toList.take (m + 1) = (L ++ [c]).map (fun x => Value.int .u8 (x.toNat : Int)) := by
  rw [Array.toList_setIfInBounds, List.take_succ_eq_append_getElem (by rw [List.length_set]; simpa using hm), List.getElem_set_self, List.map_append, ← h]
  congr 1
  apply List.ext_getElem?
  intro j
  by_cases hj : j < m
  · rw [List.getElem?_take_of_lt hj, List.getElem?_take_of_lt hj, List.getElem?_set_ne (by omega)]
  · rw [List.getElem?_take_eq_none (by omega), List.getElem?_take_eq_none (by omega)]
theorem impl_PlainOf.buf_of {w1 : World} {base N : Nat} {v : Value} (h : Kd.R (Kd.int .u8) 5 w1 base (fun _ => True) v (List.replicate (N : Int).toNat 0)) {x : Nat} (hnew : ∃ b, v.ownBlock = some b ∧ x ≤ b) :
    ∃ g cap cur, v = .slice (some ⟨g, 0, none⟩) N cap ∧ x ≤ g ∧ w1.heap[g]? = some (.cells cur 5 (0, 0)) ∧ N ≤ cap ∧ cur.size = cap ∧ True := by
  obtain ⟨b, hb, hx⟩ := hnew
  rcases (Kd.own_of_R h).2 with ⟨hv, _⟩ | ⟨g, cap, cur, hv, _, hh, hn, hc, hs, ht⟩
  · subst hv; simp [Value.ownBlock] at hb
  · subst hv
    have e : g = b := by simpa [Value.ownBlock] using hb
    exact ⟨g, cap, cur, by simp, by omega, hh, by simpa using hn, by simpa using hs, trivial⟩
set_option maxHeartbeats 8000000 in
set_option maxRecDepth 100000 in
theorem impl_PlainOf.repl (bb : Nat) (s : ByteArray) (w : World) (hs : s.size ≤ 140737488355328) (hrep : impl_PlainOf.Rep w bb) :
    Calls Tryz.prog 102 #[.pointer (some ⟨bb, 0, none⟩), .string s] w fun e w' => e = .returned (.string ⟨(impl_PlainOf.plain s.data.toList).toArray⟩) ∧ Below w.heap.size w w' := by
  obtain ⟨tb, tc, htc, ht, hx0, hx1, hx2, hx3⟩ := hrep.strs
  have HREP := Aside0.mk hrep
  have HB0 := Aside0.mk (Below.refl w.heap.size w)
  have HBBL : Aside0 (bb < w.heap.size) := ⟨by obtain ⟨cs, tab, tv, h1, _⟩ := hrep; exact blk_lt h1⟩
  clear hrep
  have keql := fun (W : World) (a : Option Addr) (n c : Nat) => impl_PlainOf.neqnil W a n c
  by_cases h32 : 32 ≤ s.size
  · have h32b : decide ((32 : Int) ≤ (s.size : Int)) = true := decide_eq_true (by omega)
    go_enter Tryz.func102, Tryz.ntmps102
    go_wp2
    go_loopw [5, 6, 32] (fun v5 v6 v32 wr => ∃ (j : Nat) (n : Int) (b : Bool), j ≤ 4 ∧ v32 = .int .i64 (j : Int) ∧ v5 = .int .i64 n ∧ v6 = .bool b ∧ 0 ≤ n ∧ n ≤ 140737488355328 ∧ Aside0 (n = (s.size : Int) - (if 0 < j then (Lib.countByte s.data.toList 45 : Int) else 0)) ∧ Aside0 (b = impl_PlainOf.anyJ s.data.toList j) ∧ Aside0 (Below w.heap.size w wr)) (fun _ _ v _ => 4 - (intOf v).toNat)
    case atStart => exact ⟨0, (s.size : Int), false, Nat.zero_le _, rfl, rfl, rfl, by omega, by omega, ⟨by simp⟩, ⟨rfl⟩, HB0⟩
    case round =>
      obtain ⟨j, n, b, hj, rfl, rfl, rfl, hn0, hn1, HN, HF, HB⟩ := hrel
      have hst := HREP.out.below HB.out
      have hrw := Aside0.mk hst
      have HX := Aside0.mk (And.intro hx0 (And.intro hx1 (And.intro hx2 hx3)))
      clear hst ht hx0 hx1 hx2 hx3
      rcases (show j = 0 ∨ j = 1 ∨ j = 2 ∨ j = 3 ∨ j = 4 from by omega) with rfl | rfl | rfl | rfl | rfl
      · have hx := (HB.out.cell (World.block_lt_of_cell? w _ HX.out.1)).trans HX.out.1
        obtain ⟨g2, cap2, hc1, _, _⟩ := hrw.out.key 45 rfl
        have hc1' : wr.cell? ⟨bb, 45, none⟩ = some (.slice (some ⟨g2, 0, none⟩) 0 cap2) := hc1
        clear hc1
        have hcl := impl_PlainOf.count_le s.data.toList 45
        have CT := Aside0.mk (fun W => Any.strings_Count_one impl_PlainOf.laysCount s 45 W)
        have hja : impl_PlainOf.anyJ s.data.toList 1 = (impl_PlainOf.anyJ s.data.toList 0 || decide (Lib.countByte s.data.toList 45 ≠ 0)) := by simp [impl_PlainOf.anyJ, Bool.or_assoc]
        have HJA := Aside0.mk hja
        clear hja
        obtain ⟨cn, hcn⟩ : ∃ cn, cn = Lib.countByte s.data.toList 45 := ⟨_, rfl⟩
        rw [← hcn] at CT HJA hcl
        have HCN := Aside0.mk hcn
        clear hcn
        rw [data_length] at hcl
        have hbv : ∀ h : 0 < (⟨#[45]⟩ : ByteArray).size, ((⟨#[45]⟩ : ByteArray)[0]'h).toNat = 45 := fun _ => rfl
        by_cases hcz : cn = 0
        · subst hcz
          go_wp2_with (go_at_call 104; refine (CT.out _).mono ?_; rintro e w' ⟨rfl, rfl⟩)
          go_roundw
          case rel => exact ⟨1, n, b, by omega, by go_num, rfl, rfl, hn0, hn1, ⟨by have := HN.out; have := HCN.out; simp at *; omega⟩, ⟨by rw [HJA.out, ← HF.out]; simp⟩, HB⟩
          case measure => simp [intOf]
        · have hcp : 0 < cn := by omega
          have HCZ := Aside0.mk hcz
          clear hcz
          go_wp2_with (go_at_call 104; refine (CT.out _).mono ?_; rintro e w' ⟨rfl, rfl⟩)
          go_quiet (fail)
          go_wp2
          go_roundw
          case rel => exact ⟨1, n + -(cn : Int), true, by omega, by go_num, rfl, rfl, by have := HN.out; simp at this; omega, by omega, ⟨by have := HN.out; have := HCN.out; simp at *; omega⟩, ⟨by rw [HJA.out, decide_eq_true HCZ.out, Bool.or_true]⟩, ⟨pw_below_drewN HB.out _⟩⟩
          case measure => simp [intOf]
      · have hx := (HB.out.cell (World.block_lt_of_cell? w _ HX.out.2.1)).trans HX.out.2.1
        obtain ⟨g2, cap2, hc1, _, _⟩ := hrw.out.key 53 rfl
        have hc1' : wr.cell? ⟨bb, 53, none⟩ = some (.slice (some ⟨g2, 0, none⟩) 1 cap2) := hc1
        clear hc1
        have hcl := impl_PlainOf.count_le s.data.toList 53
        have CT := Aside0.mk (fun W => Any.strings_Count_one impl_PlainOf.laysCount s 53 W)
        have hja : impl_PlainOf.anyJ s.data.toList 2 = (impl_PlainOf.anyJ s.data.toList 1 || decide (Lib.countByte s.data.toList 53 ≠ 0)) := by simp [impl_PlainOf.anyJ, Bool.or_assoc]
        have HJA := Aside0.mk hja
        clear hja
        obtain ⟨cn, hcn⟩ : ∃ cn, cn = Lib.countByte s.data.toList 53 := ⟨_, rfl⟩
        rw [← hcn] at CT HJA hcl
        have HCN := Aside0.mk hcn
        clear hcn
        rw [data_length] at hcl
        have hbv : ∀ h : 0 < (⟨#[53]⟩ : ByteArray).size, ((⟨#[53]⟩ : ByteArray)[0]'h).toNat = 53 := fun _ => rfl
        by_cases hcz : cn = 0
        · subst hcz
          go_wp2_with (go_at_call 104; refine (CT.out _).mono ?_; rintro e w' ⟨rfl, rfl⟩)
          go_roundw
          case rel => exact ⟨2, n, b, by omega, by go_num, rfl, rfl, hn0, hn1, ⟨by have := HN.out; simpa using this⟩, ⟨by rw [HJA.out, ← HF.out]; simp⟩, HB⟩
          case measure => simp [intOf]
        · have hcp : 0 < cn := by omega
          have HCZ := Aside0.mk hcz
          clear hcz
          go_wp2_with (go_at_call 104; refine (CT.out _).mono ?_; rintro e w' ⟨rfl, rfl⟩)
          go_quiet (fail)
          go_wp2
          go_roundw
          case rel => exact ⟨2, n, true, by omega, by go_num, rfl, rfl, by have := HN.out; simp at this; omega, by omega, ⟨by have := HN.out; simpa using this⟩, ⟨by rw [HJA.out, decide_eq_true HCZ.out, Bool.or_true]⟩, ⟨pw_below_drewN HB.out _⟩⟩
          case measure => simp [intOf]
      · have hx := (HB.out.cell (World.block_lt_of_cell? w _ HX.out.2.2.1)).trans HX.out.2.2.1
        obtain ⟨g2, cap2, hc1, _, _⟩ := hrw.out.key 49 rfl
        have hc1' : wr.cell? ⟨bb, 49, none⟩ = some (.slice (some ⟨g2, 0, none⟩) 1 cap2) := hc1
        clear hc1
        have hcl := impl_PlainOf.count_le s.data.toList 49
        have CT := Aside0.mk (fun W => Any.strings_Count_one impl_PlainOf.laysCount s 49 W)
        have hja : impl_PlainOf.anyJ s.data.toList 3 = (impl_PlainOf.anyJ s.data.toList 2 || decide (Lib.countByte s.data.toList 49 ≠ 0)) := by simp [impl_PlainOf.anyJ, Bool.or_assoc]
        have HJA := Aside0.mk hja
        clear hja
        obtain ⟨cn, hcn⟩ : ∃ cn, cn = Lib.countByte s.data.toList 49 := ⟨_, rfl⟩
        rw [← hcn] at CT HJA hcl
        have HCN := Aside0.mk hcn
        clear hcn
        rw [data_length] at hcl
        have hbv : ∀ h : 0 < (⟨#[49]⟩ : ByteArray).size, ((⟨#[49]⟩ : ByteArray)[0]'h).toNat = 49 := fun _ => rfl
        by_cases hcz : cn = 0
        · subst hcz
          go_wp2_with (go_at_call 104; refine (CT.out _).mono ?_; rintro e w' ⟨rfl, rfl⟩)
          go_roundw
          case rel => exact ⟨3, n, b, by omega, by go_num, rfl, rfl, hn0, hn1, ⟨by have := HN.out; simpa using this⟩, ⟨by rw [HJA.out, ← HF.out]; simp⟩, HB⟩
          case measure => simp [intOf]
        · have hcp : 0 < cn := by omega
          have HCZ := Aside0.mk hcz
          clear hcz
          go_wp2_with (go_at_call 104; refine (CT.out _).mono ?_; rintro e w' ⟨rfl, rfl⟩)
          go_quiet (fail)
          go_wp2
          go_roundw
          case rel => exact ⟨3, n, true, by omega, by go_num, rfl, rfl, by have := HN.out; simp at this; omega, by omega, ⟨by have := HN.out; simpa using this⟩, ⟨by rw [HJA.out, decide_eq_true HCZ.out, Bool.or_true]⟩, ⟨pw_below_drewN HB.out _⟩⟩
          case measure => simp [intOf]
      · have hx := (HB.out.cell (World.block_lt_of_cell? w _ HX.out.2.2.2)).trans HX.out.2.2.2
        obtain ⟨g2, cap2, hc1, _, _⟩ := hrw.out.key 48 rfl
        have hc1' : wr.cell? ⟨bb, 48, none⟩ = some (.slice (some ⟨g2, 0, none⟩) 1 cap2) := hc1
        clear hc1
        have hcl := impl_PlainOf.count_le s.data.toList 48
        have CT := Aside0.mk (fun W => Any.strings_Count_one impl_PlainOf.laysCount s 48 W)
        have hja : impl_PlainOf.anyJ s.data.toList 4 = (impl_PlainOf.anyJ s.data.toList 3 || decide (Lib.countByte s.data.toList 48 ≠ 0)) := by simp [impl_PlainOf.anyJ, Bool.or_assoc]
        have HJA := Aside0.mk hja
        clear hja
        obtain ⟨cn, hcn⟩ : ∃ cn, cn = Lib.countByte s.data.toList 48 := ⟨_, rfl⟩
        rw [← hcn] at CT HJA hcl
        have HCN := Aside0.mk hcn
        clear hcn
        rw [data_length] at hcl
        have hbv : ∀ h : 0 < (⟨#[48]⟩ : ByteArray).size, ((⟨#[48]⟩ : ByteArray)[0]'h).toNat = 48 := fun _ => rfl
        by_cases hcz : cn = 0
        · subst hcz
          go_wp2_with (go_at_call 104; refine (CT.out _).mono ?_; rintro e w' ⟨rfl, rfl⟩)
          go_roundw
          case rel => exact ⟨4, n, b, by omega, by go_num, rfl, rfl, hn0, hn1, ⟨by have := HN.out; simpa using this⟩, ⟨by rw [HJA.out, ← HF.out]; simp⟩, HB⟩
          case measure => simp [intOf]
        · have hcp : 0 < cn := by omega
          have HCZ := Aside0.mk hcz
          clear hcz
          go_wp2_with (go_at_call 104; refine (CT.out _).mono ?_; rintro e w' ⟨rfl, rfl⟩)
          go_quiet (fail)
          go_wp2
          go_roundw
          case rel => exact ⟨4, n, true, by omega, by go_num, rfl, rfl, by have := HN.out; simp at this; omega, by omega, ⟨by have := HN.out; simpa using this⟩, ⟨by rw [HJA.out, decide_eq_true HCZ.out, Bool.or_true]⟩, ⟨pw_below_drewN HB.out _⟩⟩
          case measure => simp [intOf]
      · have HN2 : Aside0 (n = ((impl_PlainOf.plain s.data.toList).length : Int)) := ⟨by have := HN.out; have hcp := impl_PlainOf.count_plain s.data.toList; rw [data_length] at hcp; simp at this; omega⟩
        have HF2 : Aside0 (b = s.data.toList.any impl_PlainOf.keyB) := ⟨by rw [HF.out, impl_PlainOf.any_count]⟩
        clear HN HF HX hrw
        have HN := HN2
        have HF := HF2
        clear HN2 HF2
        obtain ⟨N, hN⟩ : ∃ N, N = (impl_PlainOf.plain s.data.toList).length := ⟨_, rfl⟩
        obtain rfl : n = (N : Int) := by rw [hN]; exact HN.out
        have hNle : N ≤ 140737488355328 := by omega
        have HNN := Aside0.mk hN
        clear hN HN
        cases b with
        | false =>
          go_wp2
          go_ret
          have hp := impl_PlainOf.plain_none s.data.toList HF.out.symm
          have hs2 : (⟨s.data.toList.toArray⟩ : ByteArray) = s := by simp
          exact ⟨by rw [hp, hs2]; rfl, HB.out⟩
        | true =>
          clear HF
          go_wp2_with ((with_reducible refine gate_dst (N := 85) rfl ?_); go_loud (refine Kd.R_make (Kd.int .u8) (w0 := w) w.heap.size 5 rfl (N := 85) rfl 22 _ _ rfl (N : Int) rfl rfl Tryz.underlying22 (.int .u8 0) 1 impl_PlainOf.infoB rfl (by decide) (by omega) 0 (ok := fun _ => True) (okp := fun _ => True) rfl (fun _ hk => hk) trivial (by omega) (by simp; omega) HB.out HB.out.size ?_); intro v1 w1 ho hb hg_ hnew_; clear hg_; go_loud (obtain ⟨g, cap, cur, rfl, hg, hh, hnc, hcs, hct⟩ := impl_PlainOf.buf_of ho hnew_; have HB1 := Aside0.mk hb; have HG : Aside0 (w.heap.size ≤ g) := ⟨Nat.le_trans HB.out.size hg⟩; have HH := Aside0.mk hh; have HCS := Aside0.mk hcs; have HRW := Aside0.mk (HREP.out.below hb); clear ho hb hg hh hcs hct hnew_))
          go_loopw [13, 14] (fun v13 v14 wr => ∃ (i m : Nat), i ≤ s.size ∧ v14 = .int .i64 (i : Int) ∧ v13 = .int .i64 (m : Int) ∧ m ≤ N ∧ Aside0 (m = (impl_PlainOf.plain (s.data.toList.take i)).length) ∧ Aside0 (∃ cur, wr.heap[g]? = some (.cells cur 5 (0, 0)) ∧ cur.size = cap ∧ cur.toList.take m = (impl_PlainOf.plain (s.data.toList.take i)).map (fun x => Value.int .u8 (x.toNat : Int))) ∧ Aside0 (Below w.heap.size w wr)) (fun _ v _ => s.size - (intOf v).toNat)
          case atStart => exact ⟨0, 0, Nat.zero_le _, rfl, rfl, Nat.zero_le _, ⟨by simp [impl_PlainOf.plain]⟩, ⟨cur, HH.out, HCS.out, by simp [impl_PlainOf.plain]⟩, HB1⟩
          case round =>
            clear HH HCS HB1 HRW
            obtain ⟨i, m, hi, rfl, rfl, hmN, HM, HC, HB⟩ := hrel
            by_cases hlt : i < s.size
            · have hsn : s.data.toList.take (i + 1) = s.data.toList.take i ++ [s[i]] := by rw [List.take_succ_eq_append_getElem (by simpa using hlt)]; rfl
              have hpl : impl_PlainOf.plain (s.data.toList.take (i + 1)) = impl_PlainOf.plain (s.data.toList.take i) ++ impl_PlainOf.outC s[i] := by rw [hsn, impl_PlainOf.plain_snoc]
              have hmono : (impl_PlainOf.plain (s.data.toList.take (i + 1))).length ≤ N := by rw [HNN.out]; exact impl_PlainOf.plain_take _ _
              have hm2 : m + (impl_PlainOf.outC s[i]).length ≤ N := by rw [hpl, List.length_append, ← HM.out] at hmono; exact hmono
              have HPL := Aside0.mk hpl
              have hb256 : s[i].toNat < 256 := UInt8.toNat_lt _
              have hrw := HREP.out.below HB.out
              obtain ⟨cur, hh, hcs, hct⟩ := HC.out
              have hne : g ≠ bb := by have := HG.out; have := HBBL.out; omega
              clear hsn hpl hmono HC
              cases hk : impl_PlainOf.keyB s[i] with
              | true =>
                obtain ⟨g2, cap2, hc1, hc2, hc3⟩ := hrw.key s[i] hk
                have HC3 := Aside0.mk hc3
                have HHH := Aside0.mk hh
                have HCS := Aside0.mk hcs
                have HCT := Aside0.mk hct
                clear hrw hk hh hcs hct hc3 hne hc2
                generalize hml : (impl_PlainOf.outC s[i]).length = ml at hc1 hm2
                have HML := Aside0.mk hml
                clear hml
                have hlen : ((impl_PlainOf.outC s[i]).map (fun x => Value.int .u8 (x.toNat : Int))).length = ml := by rw [List.length_map, HML.out]
                have H1 := Aside0.mk (show wr.drew.heap[g]? = some (.cells cur.toList.toArray 5 (0, 0)) from by rw [Array.toArray_toList]; exact HHH.out)
                have H2 := Aside0.mk (show ((impl_PlainOf.outC s[i]).map (fun x => Value.int .u8 (x.toNat : Int))).length = Nat.min ml (N - m) from by rw [hlen]; exact (Nat.min_eq_left (by omega)).symm)
                have H3 : Aside0 (0 < ((impl_PlainOf.outC s[i]).map (fun x => Value.int .u8 (x.toNat : Int))).length → (if cap = m then some (⟨g, 0, none⟩ : Addr) else some ⟨g, m, none⟩) = some ⟨g, m, none⟩ ∧ ∃ ad, some (⟨g2, 0, none⟩ : Addr) = some ad ∧ ∀ j v, ((impl_PlainOf.outC s[i]).map (fun x => Value.int .u8 (x.toNat : Int)))[j]? = some v → wr.drew.cell? (ad.add j) = some v) := ⟨fun h0 => ⟨if_neg (by omega), ⟨g2, 0, none⟩, rfl, fun j v hv => by
                  rw [List.getElem?_map] at hv
                  obtain ⟨x, hx, rfl⟩ := Option.map_eq_some_iff.1 hv
                  rw [add_plain]
                  exact HC3.out j x hx⟩⟩
                have H4 := Aside0.mk (show m + ((impl_PlainOf.outC s[i]).map (fun x => Value.int .u8 (x.toNat : Int))).length ≤ cur.toList.length from by rw [hlen, Array.length_toList, HCS.out]; omega)
                have H5 : Aside0 (∀ v ∈ (impl_PlainOf.outC s[i]).map (fun x => Value.int .u8 (x.toNat : Int)), v.oneCell' = true) := ⟨fun v hv => by obtain ⟨x, _, rfl⟩ := List.mem_map.1 hv; rfl⟩
                have H6 := Aside0.mk (below_drew HB.out)
                have HLL := Aside0.mk hlen
                have hb256i : (s[i].toNat : Int) < 256 := by omega
                clear hlen
                go_wp2
                go_region_law ((refine step_copy_splice rfl (.tmp 105) (.tmp 111) 22 22 rfl 5 Tryz.underlying22 impl_PlainOf.sizeB (if cap = m then some ⟨g, 0, none⟩ else some ⟨g, m, none⟩) (some ⟨g2, 0, none⟩) (N - m) (cap - m) ml cap2 (by simp [Act.eval, Act.put]) (by simp [Act.eval, Act.put]) g m cur.toList 5 H1.out ((impl_PlainOf.outC s[i]).map (fun x => Value.int .u8 (x.toNat : Int))) H2.out H3.out H4.out H5.out w.heap.size w H6.out HG.out ?_); intro w3 hh3 hb3; have HH3 := Aside0.mk hh3; have HB3 := Aside0.mk hb3; clear hh3 hb3; rw [HLL.out])
                go_wp2
                go_roundw
                case rel =>
                  obtain ⟨q1, q2⟩ := impl_PlainOf.spliced cur _ (impl_PlainOf.outC s[i]) m HCT.out HM.out (by have := H4.out; rw [HLL.out, Array.length_toList] at this; rw [HML.out]; exact this)
                  rw [HML.out] at q2
                  exact ⟨i + 1, m + ml, by omega, by go_num, by go_num, by omega, ⟨by rw [HPL.out, List.length_append, ← HM.out, HML.out]⟩, ⟨_, HH3.out, by rw [q1]; exact HCS.out, by rw [HPL.out]; exact q2⟩, HB3⟩
                case measure => simp [intOf]; omega
              | false =>
                have hc1 := hrw.other s[i] hk
                have ho1 := impl_PlainOf.out_other s[i] hk
                rw [ho1] at hm2
                have hm3 : m < N := Nat.lt_of_lt_of_le (Nat.lt_succ_self m) hm2
                obtain ⟨cm, hcm⟩ : ∃ cm, cur[m]? = some cm := ⟨_, Array.getElem?_eq_getElem (by omega)⟩
                have hcell := (blk_cell hh m).trans hcm
                clear hcm
                have hfz := blk_frozen hh m
                have HHH := Aside0.mk hh
                have HCS := Aside0.mk hcs
                have HCT := Aside0.mk hct
                have HO1 := Aside0.mk ho1
                clear hrw hk hh hcs hct ho1 hm2 hne
                go_wp2
                go_roundw
                case rel =>
                  have hpm := impl_PlainOf.put _ _ m s[i] HCT.out HM.out (by rw [HCS.out]; omega)
                  exact ⟨i + 1, m + 1, by omega, by go_num, by go_num, by omega, ⟨by rw [HPL.out, HO1.out, List.length_append, ← HM.out]; rfl⟩, ⟨_, blk_set HHH.out m _, by rw [Array.size_setIfInBounds]; exact HCS.out, by rw [HPL.out, HO1.out]; exact hpm⟩, ⟨below_set HB.out HG.out⟩⟩
                case measure => simp [intOf]; omega
            · obtain rfl : i = s.size := by omega
              have htk : s.data.toList.take s.size = s.data.toList := List.take_of_length_le (by rw [data_length]; omega)
              have hmN2 : m = N := by rw [HM.out, htk, HNN.out]
              obtain ⟨cur, hh, hcs, hct⟩ := HC.out
              rw [htk] at hct
              have hst := run_convert_bytes_back (P := Tryz.prog) wr 22 9 5 ⟨g, 0, none⟩ cap (impl_PlainOf.plain s.data.toList) Tryz.underlying22 Tryz.underlying5 Tryz.underlying9 (fun j hj => by
                rw [add_plain, blk_cell hh, ← Array.getElem?_toList, ← List.getElem?_take_of_lt (show j < m from by rw [HM.out, htk]; exact hj), hct, List.getElem?_map, List.getElem?_eq_getElem hj]
                rfl)
              rw [← HNN.out] at hst
              have HST := Aside0.mk hst
              clear hst hh hcs hct htk HM HC
              have hst := HST.out
              go_wp2
              go_ret
              exact ⟨rfl, HB.out⟩
  · go_enter Tryz.func102, Tryz.ntmps102
    go_wp2
    go_loopw [5, 6, 10] (fun v5 v6 v10 wr => ∃ (i : Nat) (n : Int) (b : Bool), i ≤ s.size ∧ v10 = .int .i64 (i : Int) ∧ v5 = .int .i64 n ∧ v6 = .bool b ∧ 0 ≤ n ∧ n ≤ 140737488355328 ∧ Aside0 (n = (s.size : Int) - (i : Int) + ((impl_PlainOf.plain (s.data.toList.take i)).length : Int)) ∧ Aside0 (b = (s.data.toList.take i).any impl_PlainOf.keyB) ∧ Aside0 (Below w.heap.size w wr)) (fun _ _ v _ => s.size - (intOf v).toNat)
    case atStart => exact ⟨0, (s.size : Int), false, Nat.zero_le _, rfl, rfl, rfl, by omega, by omega, ⟨by simp [impl_PlainOf.plain]⟩, ⟨by simp⟩, HB0⟩
    case round =>
      clear ht hx0 hx1 hx2 hx3
      obtain ⟨i, n, b, hi, rfl, rfl, rfl, hn0, hn1, HN, HF, HB⟩ := hrel
      by_cases hlt : i < s.size
      · have hsn : s.data.toList.take (i + 1) = s.data.toList.take i ++ [s[i]] := by rw [List.take_succ_eq_append_getElem (by simpa using hlt)]; rfl
        have hln : (impl_PlainOf.plain (s.data.toList.take (i + 1))).length = (impl_PlainOf.plain (s.data.toList.take i)).length + (impl_PlainOf.outC s[i]).length := by rw [hsn, impl_PlainOf.plain_snoc, List.length_append]
        have hany : (s.data.toList.take (i + 1)).any impl_PlainOf.keyB = ((s.data.toList.take i).any impl_PlainOf.keyB || impl_PlainOf.keyB s[i]) := by rw [hsn, List.any_append]; simp
        have HLN := Aside0.mk hln
        have HANY := Aside0.mk hany
        have hle := impl_PlainOf.out_le s[i]
        have hlo := impl_PlainOf.plain_le (s.data.toList.take i)
        have hlt2 : (s.data.toList.take i).length = i := by rw [List.length_take]; simp; omega
        have HLO := Aside0.mk (show (impl_PlainOf.plain (s.data.toList.take i)).length ≤ i from by omega)
        have hb256 : s[i].toNat < 256 := UInt8.toNat_lt _
        clear hsn hln hany hlo hlt2
        have hrw := HREP.out.below HB.out
        cases hk : impl_PlainOf.keyB s[i] with
        | true =>
          obtain ⟨g, cap, hc1, hc2, hc3⟩ := hrw.key s[i] hk
          have HC3 := Aside0.mk hc3
          have HK := Aside0.mk hk
          have HLEN := Aside0.mk hle
          clear hrw hc3 hk hle hc2
          generalize hm : (impl_PlainOf.outC s[i]).length = m at hc1 HLN HLEN
          have HM := Aside0.mk hm
          have hm1 : m ≤ 1 := HLEN.out
          clear hm
          go_wp2
          go_roundw
          case rel =>
            have hpc : ((impl_PlainOf.plain (s.data.toList.take (i + 1))).length : Int) = ((impl_PlainOf.plain (s.data.toList.take i)).length : Int) + (m : Int) := by rw [HLN.out]; omega
            exact ⟨i + 1, n + ((m : Int) - 1), true, by omega, by go_num, rfl, rfl, by have := HN.out; have := HLO.out; omega, by omega, ⟨by have := HN.out; omega⟩, ⟨by rw [HANY.out, HK.out, Bool.or_true]⟩, HB⟩
          case measure => simp [intOf]; omega
        | false =>
          have hc1 := hrw.other s[i] hk
          have HK := Aside0.mk hk
          clear hrw hk hle
          go_wp2
          go_roundw
          case rel =>
            have ho1 := impl_PlainOf.out_other s[i] HK.out
            have hpc : ((impl_PlainOf.plain (s.data.toList.take (i + 1))).length : Int) = ((impl_PlainOf.plain (s.data.toList.take i)).length : Int) + 1 := by rw [HLN.out, ho1]; rfl
            exact ⟨i + 1, n, b, by omega, by go_num, rfl, rfl, hn0, hn1, ⟨by have := HN.out; omega⟩, ⟨by rw [HANY.out, HK.out, Bool.or_false]; exact HF.out⟩, HB⟩
          case measure => simp [intOf]; omega
      · obtain rfl : i = s.size := by omega
        have htk : s.data.toList.take s.size = s.data.toList := List.take_of_length_le (by rw [data_length]; omega)
        have HN2 : Aside0 (n = ((impl_PlainOf.plain s.data.toList).length : Int)) := ⟨by have := HN.out; rw [htk] at this; omega⟩
        have HF2 : Aside0 (b = s.data.toList.any impl_PlainOf.keyB) := ⟨by rw [HF.out, htk]⟩
        clear HN HF htk
        have HN := HN2
        have HF := HF2
        clear HN2 HF2
        obtain ⟨N, hN⟩ : ∃ N, N = (impl_PlainOf.plain s.data.toList).length := ⟨_, rfl⟩
        obtain rfl : n = (N : Int) := by rw [hN]; exact HN.out
        have hNle : N ≤ 140737488355328 := by omega
        have HNN := Aside0.mk hN
        clear hN HN
        cases b with
        | false =>
          go_wp2
          go_ret
          have hp := impl_PlainOf.plain_none s.data.toList HF.out.symm
          have hs2 : (⟨s.data.toList.toArray⟩ : ByteArray) = s := by simp
          exact ⟨by rw [hp, hs2]; rfl, HB.out⟩
        | true =>
          clear HF
          go_wp2_with ((with_reducible refine gate_dst (N := 85) rfl ?_); go_loud (refine Kd.R_make (Kd.int .u8) (w0 := w) w.heap.size 5 rfl (N := 85) rfl 22 _ _ rfl (N : Int) rfl rfl Tryz.underlying22 (.int .u8 0) 1 impl_PlainOf.infoB rfl (by decide) (by omega) 0 (ok := fun _ => True) (okp := fun _ => True) rfl (fun _ hk => hk) trivial (by omega) (by simp; omega) HB.out HB.out.size ?_); intro v1 w1 ho hb hg_ hnew_; clear hg_; go_loud (obtain ⟨g, cap, cur, rfl, hg, hh, hnc, hcs, hct⟩ := impl_PlainOf.buf_of ho hnew_; have HB1 := Aside0.mk hb; have HG : Aside0 (w.heap.size ≤ g) := ⟨Nat.le_trans HB.out.size hg⟩; have HH := Aside0.mk hh; have HCS := Aside0.mk hcs; have HRW := Aside0.mk (HREP.out.below hb); clear ho hb hg hh hcs hct hnew_))
          go_loopw [13, 14] (fun v13 v14 wr => ∃ (i m : Nat), i ≤ s.size ∧ v14 = .int .i64 (i : Int) ∧ v13 = .int .i64 (m : Int) ∧ m ≤ N ∧ Aside0 (m = (impl_PlainOf.plain (s.data.toList.take i)).length) ∧ Aside0 (∃ cur, wr.heap[g]? = some (.cells cur 5 (0, 0)) ∧ cur.size = cap ∧ cur.toList.take m = (impl_PlainOf.plain (s.data.toList.take i)).map (fun x => Value.int .u8 (x.toNat : Int))) ∧ Aside0 (Below w.heap.size w wr)) (fun _ v _ => s.size - (intOf v).toNat)
          case atStart => exact ⟨0, 0, Nat.zero_le _, rfl, rfl, Nat.zero_le _, ⟨by simp [impl_PlainOf.plain]⟩, ⟨cur, HH.out, HCS.out, by simp [impl_PlainOf.plain]⟩, HB1⟩
          case round =>
            clear HH HCS HB1 HRW
            obtain ⟨i, m, hi, rfl, rfl, hmN, HM, HC, HB⟩ := hrel
            by_cases hlt : i < s.size
            · have hsn : s.data.toList.take (i + 1) = s.data.toList.take i ++ [s[i]] := by rw [List.take_succ_eq_append_getElem (by simpa using hlt)]; rfl
              have hpl : impl_PlainOf.plain (s.data.toList.take (i + 1)) = impl_PlainOf.plain (s.data.toList.take i) ++ impl_PlainOf.outC s[i] := by rw [hsn, impl_PlainOf.plain_snoc]
              have hmono : (impl_PlainOf.plain (s.data.toList.take (i + 1))).length ≤ N := by rw [HNN.out]; exact impl_PlainOf.plain_take _ _
              have hm2 : m + (impl_PlainOf.outC s[i]).length ≤ N := by rw [hpl, List.length_append, ← HM.out] at hmono; exact hmono
              have HPL := Aside0.mk hpl
              have hb256 : s[i].toNat < 256 := UInt8.toNat_lt _
              have hrw := HREP.out.below HB.out
              obtain ⟨cur, hh, hcs, hct⟩ := HC.out
              have hne : g ≠ bb := by have := HG.out; have := HBBL.out; omega
              clear hsn hpl hmono HC
              cases hk : impl_PlainOf.keyB s[i] with
              | true =>
                obtain ⟨g2, cap2, hc1, hc2, hc3⟩ := hrw.key s[i] hk
                have HC3 := Aside0.mk hc3
                have HHH := Aside0.mk hh
                have HCS := Aside0.mk hcs
                have HCT := Aside0.mk hct
                clear hrw hk hh hcs hct hc3 hne hc2
                generalize hml : (impl_PlainOf.outC s[i]).length = ml at hc1 hm2
                have HML := Aside0.mk hml
                clear hml
                have hlen : ((impl_PlainOf.outC s[i]).map (fun x => Value.int .u8 (x.toNat : Int))).length = ml := by rw [List.length_map, HML.out]
                have H1 := Aside0.mk (show wr.drew.heap[g]? = some (.cells cur.toList.toArray 5 (0, 0)) from by rw [Array.toArray_toList]; exact HHH.out)
                have H2 := Aside0.mk (show ((impl_PlainOf.outC s[i]).map (fun x => Value.int .u8 (x.toNat : Int))).length = Nat.min ml (N - m) from by rw [hlen]; exact (Nat.min_eq_left (by omega)).symm)
                have H3 : Aside0 (0 < ((impl_PlainOf.outC s[i]).map (fun x => Value.int .u8 (x.toNat : Int))).length → (if cap = m then some (⟨g, 0, none⟩ : Addr) else some ⟨g, m, none⟩) = some ⟨g, m, none⟩ ∧ ∃ ad, some (⟨g2, 0, none⟩ : Addr) = some ad ∧ ∀ j v, ((impl_PlainOf.outC s[i]).map (fun x => Value.int .u8 (x.toNat : Int)))[j]? = some v → wr.drew.cell? (ad.add j) = some v) := ⟨fun h0 => ⟨if_neg (by omega), ⟨g2, 0, none⟩, rfl, fun j v hv => by
                  rw [List.getElem?_map] at hv
                  obtain ⟨x, hx, rfl⟩ := Option.map_eq_some_iff.1 hv
                  rw [add_plain]
                  exact HC3.out j x hx⟩⟩
                have H4 := Aside0.mk (show m + ((impl_PlainOf.outC s[i]).map (fun x => Value.int .u8 (x.toNat : Int))).length ≤ cur.toList.length from by rw [hlen, Array.length_toList, HCS.out]; omega)
                have H5 : Aside0 (∀ v ∈ (impl_PlainOf.outC s[i]).map (fun x => Value.int .u8 (x.toNat : Int)), v.oneCell' = true) := ⟨fun v hv => by obtain ⟨x, _, rfl⟩ := List.mem_map.1 hv; rfl⟩
                have H6 := Aside0.mk (below_drew HB.out)
                have HLL := Aside0.mk hlen
                have hb256i : (s[i].toNat : Int) < 256 := by omega
                clear hlen
                go_wp2
                go_region_law ((refine step_copy_splice rfl (.tmp 105) (.tmp 111) 22 22 rfl 5 Tryz.underlying22 impl_PlainOf.sizeB (if cap = m then some ⟨g, 0, none⟩ else some ⟨g, m, none⟩) (some ⟨g2, 0, none⟩) (N - m) (cap - m) ml cap2 (by simp [Act.eval, Act.put]) (by simp [Act.eval, Act.put]) g m cur.toList 5 H1.out ((impl_PlainOf.outC s[i]).map (fun x => Value.int .u8 (x.toNat : Int))) H2.out H3.out H4.out H5.out w.heap.size w H6.out HG.out ?_); intro w3 hh3 hb3; have HH3 := Aside0.mk hh3; have HB3 := Aside0.mk hb3; clear hh3 hb3; rw [HLL.out])
                go_wp2
                go_roundw
                case rel =>
                  obtain ⟨q1, q2⟩ := impl_PlainOf.spliced cur _ (impl_PlainOf.outC s[i]) m HCT.out HM.out (by have := H4.out; rw [HLL.out, Array.length_toList] at this; rw [HML.out]; exact this)
                  rw [HML.out] at q2
                  exact ⟨i + 1, m + ml, by omega, by go_num, by go_num, by omega, ⟨by rw [HPL.out, List.length_append, ← HM.out, HML.out]⟩, ⟨_, HH3.out, by rw [q1]; exact HCS.out, by rw [HPL.out]; exact q2⟩, HB3⟩
                case measure => simp [intOf]; omega
              | false =>
                have hc1 := hrw.other s[i] hk
                have ho1 := impl_PlainOf.out_other s[i] hk
                rw [ho1] at hm2
                have hm3 : m < N := Nat.lt_of_lt_of_le (Nat.lt_succ_self m) hm2
                obtain ⟨cm, hcm⟩ : ∃ cm, cur[m]? = some cm := ⟨_, Array.getElem?_eq_getElem (by omega)⟩
                have hcell := (blk_cell hh m).trans hcm
                clear hcm
                have hfz := blk_frozen hh m
                have HHH := Aside0.mk hh
                have HCS := Aside0.mk hcs
                have HCT := Aside0.mk hct
                have HO1 := Aside0.mk ho1
                clear hrw hk hh hcs hct ho1 hm2 hne
                go_wp2
                go_roundw
                case rel =>
                  have hpm := impl_PlainOf.put _ _ m s[i] HCT.out HM.out (by rw [HCS.out]; omega)
                  exact ⟨i + 1, m + 1, by omega, by go_num, by go_num, by omega, ⟨by rw [HPL.out, HO1.out, List.length_append, ← HM.out]; rfl⟩, ⟨_, blk_set HHH.out m _, by rw [Array.size_setIfInBounds]; exact HCS.out, by rw [HPL.out, HO1.out]; exact hpm⟩, ⟨below_set HB.out HG.out⟩⟩
                case measure => simp [intOf]; omega
            · obtain rfl : i = s.size := by omega
              have htk : s.data.toList.take s.size = s.data.toList := List.take_of_length_le (by rw [data_length]; omega)
              have hmN2 : m = N := by rw [HM.out, htk, HNN.out]
              obtain ⟨cur, hh, hcs, hct⟩ := HC.out
              rw [htk] at hct
              have hst := run_convert_bytes_back (P := Tryz.prog) wr 22 9 5 ⟨g, 0, none⟩ cap (impl_PlainOf.plain s.data.toList) Tryz.underlying22 Tryz.underlying5 Tryz.underlying9 (fun j hj => by
                rw [add_plain, blk_cell hh, ← Array.getElem?_toList, ← List.getElem?_take_of_lt (show j < m from by rw [HM.out, htk]; exact hj), hct, List.getElem?_map, List.getElem?_eq_getElem hj]
                rfl)
              rw [← HNN.out] at hst
              have HST := Aside0.mk hst
              clear hst hh hcs hct htk HM HC
              have hst := HST.out
              go_wp2
              go_ret
              exact ⟨rfl, HB.out⟩
set_option maxHeartbeats 8000000 in
set_option maxRecDepth 100000 in
theorem impl_PlainOf.replace (rb ob c : Nat) (s : ByteArray) (w : World) (hs : s.size ≤ 140737488355328) (hrb : w.heap[rb]? = some (.cells #[.int .u32 0, .int .i32 0, .int .u32 0, .nilIface, .slice (some ⟨ob, 0, none⟩) 8 c] 66 (0, 0))) (ho : impl_PlainOf.Old w ob) (hne : ob ≠ rb) :
    Calls Tryz.prog 28 #[.pointer (some ⟨rb, 0, none⟩), .string s] w fun e w' => e = .returned (.string ⟨(impl_PlainOf.plain s.data.toList).toArray⟩) ∧ impl_PlainOf.Up rb w w' := by
  have K := Aside0.mk (impl_PlainOf.doOnce rb ob c w hrb ho hne)
  have HS := Aside0.mk hs
  clear hrb ho hs
  have hmf : ∀ (fn : Fn) (first cap : Array Value) (w : World), (Instr.makeFunc fn first cap).run Tryz.prog w = .ok (.func fn first cap) w := fun _ _ _ _ => rfl
  have hm : ∀ (b : Nat) (w : World), (method 259 86 (.pointer (some ⟨b, 0, none⟩)) "Replace").run Tryz.prog w = .ok (102, .pointer (some ⟨b, 0, none⟩)) w := fun _ _ => by kernel_rfl
  go_enter Tryz.func28, Tryz.ntmps28
  go_wp2_with (first
    | (go_at_call 35; refine K.out.mono ?_; rintro e w2 ⟨bb, rfl, hrep, hup, hr2⟩; have h3 := (blk_cell hr2 3).trans rfl; have HREP := Aside0.mk hrep; have HUP := Aside0.mk hup; have HR2 := Aside0.mk hr2; clear hrep hup hr2)
    | (go_at_call 102; refine (impl_PlainOf.repl bb s _ HS.out HREP.out).mono ?_; rintro e w3 ⟨rfl, hb⟩; have HB3 := Aside0.mk hb; clear hb))
  go_ret
  exact ⟨rfl, HUP.out.below (blk_lt HR2.out) HB3.out⟩
theorem impl_PlainOf.lit_reads (w : World) : Kd.C Kd.string (w.alloc (.cells #[.string ⟨#[48]⟩, .string ⟨#[111]⟩, .string ⟨#[49]⟩, .string ⟨#[108]⟩, .string ⟨#[53]⟩, .string ⟨#[115]⟩, .string ⟨#[45]⟩, .string ⟨#[]⟩] 9)) (some ⟨w.heap.size, 0, none⟩) 8 impl_PlainOf.L := by
  refine Kd.C_of_reads (d := ByteArray.empty) (h1 := fun _ => rfl) ⟨rfl, by decide, fun _ => ⟨_, rfl, fun j hj => ?_⟩⟩
  rw [add_plain, blk_cell (blk_new _ _)]
  rcases (show j = 0 ∨ j = 1 ∨ j = 2 ∨ j = 3 ∨ j = 4 ∨ j = 5 ∨ j = 6 ∨ j = 7 from by omega) with rfl | rfl | rfl | rfl | rfl | rfl | rfl | rfl <;> rfl
set_option maxHeartbeats 8000000 in
set_option maxRecDepth 100000 in
theorem impl_PlainOf.all (s : ByteArray) (w : World) (hs : s.size ≤ 140737488355328) :
    Calls Tryz.prog 13 #[.string s] w fun e w' => e = .returned (.string ⟨(impl_PlainOf.plain s.data.toList).toArray⟩) ∧ Below w.heap.size w w' := by
  have HS := Aside0.mk hs
  clear hs
  go_enter Tryz.func13, Tryz.ntmps13
  go_wp2_with (first
    | (go_at_call 27; refine (impl_PlainOf.new (some ⟨w.heap.size, 0, none⟩) 8 _ ?hr (Nat.le_refl _)).mono ?_; (case hr => exact impl_PlainOf.lit_reads w); rintro e w1 ⟨rb, ob, c, rfl, hrb, ho, hne, hle, hb⟩; have HRB := Aside0.mk hrb; have HO := Aside0.mk ho; have HNE := Aside0.mk hne; have HLE := Aside0.mk hle; have HB1 := Aside0.mk hb; clear hrb ho hne hle hb)
    | (go_at_call 28; refine (impl_PlainOf.replace rb ob c s _ HS.out HRB.out HO.out HNE.out).mono ?_; rintro e w2 ⟨rfl, hup⟩; have HUP := Aside0.mk hup; clear hup))
  go_ret
  have hz : w.heap.size ≤ rb := by have := HLE.out; simp at this; omega
  have hb1 : Below w.heap.size w w1 := below_step (below_alloc (Below.refl w.heap.size w) _) HB1.out
  exact ⟨rfl, HUP.out _ _ hb1 hz⟩
def impl_PlainOf.f (a0 : ByteArray) : Option ByteArray := if a0.size ≤ 140737488355328 then some ⟨(impl_PlainOf.plain a0.data.toList).toArray⟩ else none
theorem impl_PlainOf.calls (a0 : ByteArray) (r : ByteArray) (w : World) (h : impl_PlainOf.f a0 = some r) :
    Calls Tryz.prog 13 #[.string a0] w fun e w' => e = .returned (.string r) ∧ Below w.heap.size w w' := by
  unfold impl_PlainOf.f at h
  split at h
  · have K := impl_PlainOf.all a0 w ‹_›
    rw [Option.some.inj h] at K
    exact K
  · cases h

end Go.Proofs.YtnkgglihlmileaaGreat.PFnLabels
