/- How the arguments of a law are read: slices of whole numbers, of strings, of records of two whole numbers. No program in sight: the closed facts on the types are premises. -/
import Derived.Test.YtnkgglihlmileaaWMore
import Derived.ChangeSlices
import Derived.Deep.Slices
import Derived.Deep.Strs
import Derived.Deep.Fields
import Derived.ChangeSame
import Derived.Lib.SmallJoins
namespace Go.Proofs.Ytnkgglihlmileaa.Open
open Go.RowKit Go.ChangeShapes Go.WideShapes Go.Deep Go.Proofs.YtnkgglihlmileaaW.PrintWords
section
variable {H : Type} {enc : TypeId × Value → H} {P : Program} {W : World} {base : Nat} {spare : Nat → Bool} {held : Bool}
/-- A slice of whole numbers. -/
theorem ints_at {t e : TypeId} {k : IntKind} {fuel : Nat} {v : Value} {y : DataW H × List MemPlace} (hu : P.underlying t = some (.slice e)) (he : P.underlying e = some (.int k)) (hc : P.cellsOf e = 1)
    (h : DataW.trod enc P W base spare held fuel t [v] = some y) : ∃ (a : Option Addr) (cap : Nat) (l : List Int), v = .slice a l.length cap ∧ Kd.C (Kd.int k) W a l.length l ∧ l.length ≤ maxLen ∧ (∀ x ∈ l, (Lit.int k x).wf = true) ∧ l.length ≤ cap := by
  rcases open_ints hu he hc h with ⟨hcs, _⟩ | ⟨x, len, cap, zs, hcs, _, hl, hm, hz, _, hcell, hwz⟩
  · refine ⟨none, 0, [], by simpa using hcs, Kd.C_of_reads (d := (0 : Int)) ⟨rfl, by decide, fun z => by simp at z⟩, by simp, by simp, by simp⟩
  · have hlz : len ≤ zs.length := by rw [hz]; split <;> omega
    have htl : (zs.take len).length = len := by rw [List.length_take]; omega
    refine ⟨some x, cap, zs.take len, by rw [htl]; simpa using hcs, Kd.C_of_reads (d := (0 : Int)) ⟨rfl, ?_, fun _ => ⟨x, rfl, fun j hj => ?_⟩⟩, by rw [htl]; omega, fun z hz2 => hwz z (List.mem_of_mem_take hz2), by rw [htl]; exact hl⟩
    · rw [htl]; unfold maxLen at hm; omega
    · rw [htl] at hj
      rw [hcell j (by omega)]
      simp [List.getD_eq_getElem?_getD, hj]
/-- A slice of strings. -/
theorem strs_at {t e : TypeId} {fuel : Nat} {v : Value} {y : DataW H × List MemPlace} (hu : P.underlying t = some (.slice e)) (he : P.underlying e = some .string) (hc : P.cellsOf e = 1)
    (h : DataW.trod enc P W base spare held fuel t [v] = some y) : ∃ (a : Option Addr) (cap : Nat) (l : List ByteArray), v = .slice a l.length cap ∧ Kd.C Kd.string W a l.length l ∧ l.length ≤ maxLen ∧ (∀ x ∈ l, x.size ≤ maxLen) ∧ l.length ≤ cap := by
  rcases open_strs hu he hc h with ⟨hcs, _⟩ | ⟨x, len, cap, m, Sx, hcs, _, hl, hm, hmm, _, hcell⟩
  · refine ⟨none, 0, [], by simpa using hcs, Kd.C_of_reads (d := ByteArray.empty) ⟨rfl, by decide, fun z => by simp at z⟩, by simp, by simp, by simp⟩
  · have hlm : len ≤ m := by rw [hmm]; split <;> omega
    have htl : ((List.range len).map Sx).length = len := by simp
    refine ⟨some x, cap, (List.range len).map Sx, by rw [htl]; simpa using hcs, Kd.C_of_reads (d := ByteArray.empty) ⟨rfl, ?_, fun _ => ⟨x, rfl, fun j hj => ?_⟩⟩, by rw [htl]; omega, ?_, by rw [htl]; exact hl⟩
    · rw [htl]; unfold maxLen at hm; omega
    · rw [htl] at hj
      rw [(hcell j (by omega)).1]
      simp [List.getD_eq_getElem?_getD, hj]
    · intro z hz
      simp only [List.mem_map, List.mem_range] at hz
      obtain ⟨i, hi, rfl⟩ := hz
      exact (hcell i (by omega)).2
/-- A slice of records of two whole numbers. -/
theorem pairs_at {t e : TypeId} {f0 f1 : Field} {fuel : Nat} {v : Value} {y : DataW H × List MemPlace} (hu : P.underlying t = some (.slice e)) (he : P.underlying e = some (.struct #[f0, f1])) (hone : oneCellFields P #[f0, f1] = true) (hC : P.cellsOf e = 2)
    (h0 : P.underlying f0.type = some (.int .i64)) (h1 : P.underlying f1.type = some (.int .i64))
    (h : DataW.trod enc P W base spare held fuel t [v] = some y) : ∃ (a : Option Addr) (cap : Nat) (l : List (Int × Int)), v = .slice a l.length cap ∧
      (∀ {β : Type} (f : β → Int × Int) (g : Int × Int → β), (∀ x, f (g x) = x) → Kd.C (Kd.iso (Kd.pair (Kd.int .i64) (Kd.int .i64)) f) W a (l.map g).length (l.map g)) ∧ l.length ≤ maxLen ∧ (∀ x ∈ l, (Lit.int .i64 x.1).wf = true ∧ (Lit.int .i64 x.2).wf = true) ∧ l.length ≤ cap := by
  rcases open_slice hu h with ⟨hcs, _⟩ | ⟨x, len, cap, m, n, D, Pl, hcs, _, hl, hm, hmm, _, hi⟩
  · refine ⟨none, 0, [], by simpa using hcs, fun f g _ => ⟨rfl, by simp, fun z => by simp at z⟩, by simp, by simp, by simp⟩
  · have hlm : len ≤ m := by rw [hmm]; split <;> omega
    have each : ∀ i, i < len → ∃ p : Int × Int, W.cell? (x.add (i * 2)) = some (.int .i64 p.1) ∧ W.cell? (x.add (i * 2 + 1)) = some (.int .i64 p.2) ∧ (Lit.int .i64 p.1).wf = true ∧ (Lit.int .i64 p.2).wf = true := by
      intro i him
      obtain ⟨cs', hc, ht'⟩ := hi i (by omega)
      rw [hC] at hc
      obtain ⟨ys, n', hn', hy, hlen, hyl, hf⟩ := DataW.trod_struct he ht'
      obtain ⟨_, hcl, hat⟩ := World.cells?_some hc
      obtain ⟨c0, c1, rfl⟩ : ∃ c0 c1, cs' = [c0, c1] := by
        match cs', hcl with
        | [c0, c1], _ => exact ⟨c0, c1, rfl⟩
      have e0 := hf 0 f0 rfl
      have e1 := hf 1 f1 rfl
      obtain ⟨o0, k0⟩ := hone_of hone 0 f0 rfl
      obtain ⟨o1, k1⟩ := hone_of hone 1 f1 rfl
      rw [o0, k0] at e0
      rw [o1, k1] at e1
      have y0 : ∃ z, ys[0]? = some z := ⟨_, List.getElem?_eq_getElem (by rw [hyl]; simp)⟩
      have y1 : ∃ z, ys[1]? = some z := ⟨_, List.getElem?_eq_getElem (by rw [hyl]; simp)⟩
      obtain ⟨z0, hz0⟩ := y0
      obtain ⟨z1, hz1⟩ := y1
      rw [hz0] at e0
      rw [hz1] at e1
      obtain ⟨n0, hn0, _, w0⟩ := DataW.trod_int h0 e0
      obtain ⟨n1, hn1, _, w1⟩ := DataW.trod_int h1 e1
      have b0 := hat 0 (by omega)
      have b1 := hat 1 (by omega)
      simp at hn0 hn1 b0 b1
      subst hn0 hn1
      refine ⟨(n0, n1), ?_, ?_, w0, w1⟩
      · exact b0
      · rw [← Go.Deep.add_add]; exact b1
    have hex : ∃ F : Nat → Int × Int, ∀ i, i < len → W.cell? (x.add (i * 2)) = some (.int .i64 (F i).1) ∧ W.cell? (x.add (i * 2 + 1)) = some (.int .i64 (F i).2) ∧ (Lit.int .i64 (F i).1).wf = true ∧ (Lit.int .i64 (F i).2).wf = true :=
      ⟨fun i => if hlt : i < len then Classical.choose (each i hlt) else (0, 0), fun i hlt => by simp only [hlt, dite_true]; exact Classical.choose_spec (each i hlt)⟩
    obtain ⟨F, hF⟩ := hex
    have htl : ((List.range len).map F).length = len := by simp
    refine ⟨some x, cap, (List.range len).map F, by rw [htl]; simpa using hcs, fun f g hfg => ⟨rfl, ?_, fun _ => ⟨x, rfl, fun j p hj => ?_⟩⟩, by rw [htl]; omega, ?_, by rw [htl]; exact hl⟩
    · simp; unfold maxLen at hm; omega
    · obtain ⟨hjl, hjp⟩ := List.getElem?_eq_some_iff.1 hj
      have hjl' : j < len := by simpa using hjl
      have hp : f p = F j := by rw [← hjp]; simp [hfg]
      refine ⟨[.int .i64 (F j).1, .int .i64 (F j).2], rfl, ⟨[.int .i64 (F j).1], [.int .i64 (F j).2], rfl, by rw [hp]; rfl, by rw [hp]; rfl⟩, fun i u hiu => ?_⟩
      match i, hiu with
      | 0, hiu => cases hiu; exact (hF j hjl').1
      | 1, hiu => cases hiu; exact (hF j hjl').2.1
      | i + 2, hiu => simp at hiu
    · intro z hz
      simp only [List.mem_map, List.mem_range] at hz
      obtain ⟨i, hi2, rfl⟩ := hz
      exact (hF i hi2).2.2
/-- The same of an argument as it is handed over. -/
theorem of_trod {t : TypeId} {a : Option Addr} {len cap : Nat} {d : DataW H} {ps : List MemPlace} (h : DataW.Trod enc P W base spare held t (.slice a len cap) d ps) : ∃ fuel, DataW.trod enc P W base spare held fuel t [.slice a len cap] = some (d, ps) := by
  obtain ⟨fuel, hf⟩ := h
  exact ⟨fuel, by simpa [Value.cells] using hf⟩
end
end Go.Proofs.Ytnkgglihlmileaa.Open
