/-
  No cell of these rows narrows 'for every input' (looked for: loops, veiled, ifaces, maps, wideKeys, modest, calm, conditions, laid).
  DERIVED. THE GIVEN ROWS OF THIS SEAT. 3 by the template 'for every input the law returns true; each argument reads behind the call as it read before'; 0 by the template 'total and deterministic' (their statements: YtanogkaledgecaaTotals.lean).
  GIVEN WITH THE SEED: the statements are not yours to turn. If you find one false, say at which input.
  Laid BY PROGRAM, IN A SANDBOX (cutbox-rows.mjs): the forced cells as the released guide's own fill.sh prints them over the translation 0ba075d5c2c46540… (all of the seat's roots in one cut). By AI agents, Wed Nov 11 2026. No macro, syntax, notation, axiom, sorry.
-/
import Derived.Test.YtanogkaledgecaaChecked
import GoSem.Claim
import GoSem.ClaimJoined
import GoSem.ClaimMapViews
import Derived.JoinedTies
import Derived.KernelRfl
namespace Go.Proofs.Ytanogkaledgecaa
/- THE CELL 'sum', in the pinned program and in every row, IS THE sha256 OF THE DUMP (.gsa) THAT YtanogkaledgecaaProg.lean LOADS. Nothing in Lean hashes anything: it is a label: what it is worth is what the hold of that sum in a sandbox is worth. -/
noncomputable def Try.pinned : Pinned := { name := "ytanogkaledgecaa", sum := "0ba075d5c2c46540f00e49ea535d582d646f55b4fd2fe527454c0c1dd489a5ef", checked := Try.checked }
namespace Rows
def none {H : Type} : Left H := { results := [], args := [] }

/-- 'laws.FnExactSignersOf': WHATEVER THE INPUT: true; the input reads as it did. -/
def fnExactSignersOfSpec : ChangeSpec := { name := "fnExactSignersOf", fn := fun _ => fun
  | [d1, d2] => { results := [.lit (.bool true)], args := [d1, d2] }
  | _ => none }
def fnExactSignersOfRow : OpenClaim := { program := "ytanogkaledgecaa", sum := "0ba075d5c2c46540f00e49ea535d582d646f55b4fd2fe527454c0c1dd489a5ef", func := "loop.example/g00588/laws.FnExactSignersOf", spec := "fnExactSignersOf", recurses := true, apart := false }
def FnExactSignersOfSaid : Prop := fnExactSignersOfRow.holds Try.pinned (OpenSpec.ofChange fnExactSignersOfSpec)

/-- ITS FALSE NEIGHBOUR: 'it returns false'. Refute it at one input. -/
def fnExactSignersOfWrong : ChangeSpec := { name := "fnExactSignersOf", fn := fun _ => fun
  | [d1, d2] => { results := [.lit (.bool false)], args := [d1, d2] }
  | _ => none }
def FnExactSignersOfWrongFalsely : Prop := fnExactSignersOfRow.holds Try.pinned (OpenSpec.ofChange fnExactSignersOfWrong)

/-- 'laws.FnThresholds': WHATEVER THE INPUT: true; the input reads as it did. -/
def fnThresholdsSpec : ChangeSpec := { name := "fnThresholds", fn := fun _ => fun
  | [d] => { results := [.lit (.bool true)], args := [d] }
  | _ => none }
def fnThresholdsRow : OpenClaim := { program := "ytanogkaledgecaa", sum := "0ba075d5c2c46540f00e49ea535d582d646f55b4fd2fe527454c0c1dd489a5ef", func := "loop.example/g00588/laws.FnThresholds", spec := "fnThresholds", unfollowed := true, recurses := true, apart := false }
def FnThresholdsSaid : Prop := fnThresholdsRow.holds Try.pinned (OpenSpec.ofChange fnThresholdsSpec)

/-- ITS FALSE NEIGHBOUR: 'it returns false'. Refute it at one input. -/
def fnThresholdsWrong : ChangeSpec := { name := "fnThresholds", fn := fun _ => fun
  | [d] => { results := [.lit (.bool false)], args := [d] }
  | _ => none }
def FnThresholdsWrongFalsely : Prop := fnThresholdsRow.holds Try.pinned (OpenSpec.ofChange fnThresholdsWrong)

/-- 'laws.FnKeySets': WHATEVER THE INPUT: true; the input reads as it did. -/
def fnKeySetsSpec : ChangeSpec := { name := "fnKeySets", fn := fun _ => fun
  | [d] => { results := [.lit (.bool true)], args := [d] }
  | _ => none }
def fnKeySetsRow : OpenClaim := { program := "ytanogkaledgecaa", sum := "0ba075d5c2c46540f00e49ea535d582d646f55b4fd2fe527454c0c1dd489a5ef", func := "loop.example/g00588/laws.FnKeySets", spec := "fnKeySets", apart := false }
def FnKeySetsSaid : Prop := fnKeySetsRow.holds Try.pinned (OpenSpec.ofChange fnKeySetsSpec)

/-- ITS FALSE NEIGHBOUR: 'it returns false'. Refute it at one input. -/
def fnKeySetsWrong : ChangeSpec := { name := "fnKeySets", fn := fun _ => fun
  | [d] => { results := [.lit (.bool false)], args := [d] }
  | _ => none }
def FnKeySetsWrongFalsely : Prop := fnKeySetsRow.holds Try.pinned (OpenSpec.ofChange fnKeySetsWrong)

/- THE SECOND FORM. 'bulk': how many values and letters a reading holds, each counted each time it is reached (what is shared counts as often as it is met; a slice's spare places count too). A statement '..UptoSaid' is the law's where the arguments, and the package variables that the reading takes, are together of bulk at most 1048576: NARROWER than '..Said'. Prove '..Said' where nothing that the law and all that it calls make is longer than what came in: it says more and counts as full. Else prove '..UptoSaid'. A law counts once. -/
mutual
def uptoBulk {H : Type} : DataW H → Nat
  | .lit (.string bytes) => bytes.length + 1
  | .lit _ => 1
  | .nil => 1
  | .ptr d => uptoBulk d + 1
  | .slice elems spare => uptoBulkAll elems + uptoBulkAll spare + 1
  | .agg parts => uptoBulkAll parts + 1
  | .iface _ d => uptoBulk d + 1
  | .map entries => uptoBulkEntries entries + 1
  | .held _ => 1
def uptoBulkAll {H : Type} : List (DataW H) → Nat
  | [] => 0
  | d :: r => uptoBulk d + uptoBulkAll r
def uptoBulkEntries {H : Type} : List (Lit × DataW H) → Nat
  | [] => 0
  | x :: r => uptoBulkEntry x + uptoBulkEntries r
def uptoBulkEntry {H : Type} : Lit × DataW H → Nat
  | (.string bytes, d) => bytes.length + uptoBulk d + 1
  | (_, d) => uptoBulk d + 1
 end
def uptoSmall : (H : Type) → List (DataW H) → Bool := fun _ ds => decide (uptoBulkAll ds ≤ 1048576)
def OpenSpec.upto (s : _root_.Go.ChangeSpec) : _root_.Go.OpenSpec := { _root_.Go.OpenSpec.ofChange s with cond := some uptoSmall }

/-- 'laws.FnExactSignersOf', WHERE WHAT IT READS IS OF BULK AT MOST 1048576: true; the input reads as it did. -/
def fnExactSignersOfUptoRow : OpenClaim := { program := "ytanogkaledgecaa", sum := "0ba075d5c2c46540f00e49ea535d582d646f55b4fd2fe527454c0c1dd489a5ef", func := "loop.example/g00588/laws.FnExactSignersOf", spec := "fnExactSignersOf", recurses := true, apart := false, narrowed := true }
def FnExactSignersOfUptoSaid : Prop := fnExactSignersOfUptoRow.holds Try.pinned (OpenSpec.upto fnExactSignersOfSpec)

/-- 'laws.FnThresholds', WHERE WHAT IT READS IS OF BULK AT MOST 1048576: true; the input reads as it did. -/
def fnThresholdsUptoRow : OpenClaim := { program := "ytanogkaledgecaa", sum := "0ba075d5c2c46540f00e49ea535d582d646f55b4fd2fe527454c0c1dd489a5ef", func := "loop.example/g00588/laws.FnThresholds", spec := "fnThresholds", unfollowed := true, recurses := true, apart := false, narrowed := true }
def FnThresholdsUptoSaid : Prop := fnThresholdsUptoRow.holds Try.pinned (OpenSpec.upto fnThresholdsSpec)

/-- 'laws.FnKeySets', WHERE WHAT IT READS IS OF BULK AT MOST 1048576: true; the input reads as it did. -/
def fnKeySetsUptoRow : OpenClaim := { program := "ytanogkaledgecaa", sum := "0ba075d5c2c46540f00e49ea535d582d646f55b4fd2fe527454c0c1dd489a5ef", func := "loop.example/g00588/laws.FnKeySets", spec := "fnKeySets", apart := false, narrowed := true }
def FnKeySetsUptoSaid : Prop := fnKeySetsUptoRow.holds Try.pinned (OpenSpec.upto fnKeySetsSpec)

end Rows
end Go.Proofs.Ytanogkaledgecaa
