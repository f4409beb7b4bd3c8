/-
  No cell of these rows narrows 'for every input' (looked for: loops, veiled, ifaces, maps, wideKeys, modest, calm, conditions, laid).
  DERIVED. THE GIVEN ROWS OF THIS SEAT. 6 by the template 'for every input the law returns true; each argument reads behind the call as it read before'; 0 by the template 'total and deterministic' (their statements: YtingkifphhjjeaaTotals.lean).
  GIVEN WITH THE SEED: the statements are not yours to turn. If you find one false, say at which input.
  Laid BY PROGRAM, IN A SANDBOX (cutbox-rows.mjs): the forced cells as the released guide's own fill.sh prints them over the translation 0253ecde2675aec0… (all of the seat's roots in one cut). By AI agents, Wed Nov 11 2026. No macro, syntax, notation, axiom, sorry.
-/
import Derived.Test.YtingkifphhjjeaaChecked
import GoSem.Claim
import GoSem.ClaimJoined
import GoSem.ClaimMapViews
import Derived.JoinedTies
import Derived.KernelRfl
namespace Go.Proofs.Ytingkifphhjjeaa
/- THE CELL 'sum', in the pinned program and in every row, IS THE sha256 OF THE DUMP (.gsa) THAT YtingkifphhjjeaaProg.lean LOADS. Nothing in Lean hashes anything: it is a label: what it is worth is what the hold of that sum in a sandbox is worth. -/
noncomputable def Try.pinned : Pinned := { name := "ytingkifphhjjeaa", sum := "0253ecde2675aec0ebcd9c9c20d36ae3c3f3de7b26d921055a172d571bf2005b", checked := Try.checked }
namespace Rows
def none {H : Type} : Left H := { results := [], args := [] }

/-- 'laws.FnExactSamePath': WHATEVER THE INPUT: true; the input reads as it did. -/
def fnExactSamePathSpec : ChangeSpec := { name := "fnExactSamePath", fn := fun _ => fun
  | [d1, d2] => { results := [.lit (.bool true)], args := [d1, d2] }
  | _ => none }
def fnExactSamePathRow : OpenClaim := { program := "ytingkifphhjjeaa", sum := "0253ecde2675aec0ebcd9c9c20d36ae3c3f3de7b26d921055a172d571bf2005b", func := "loop.example/g00588/laws.FnExactSamePath", spec := "fnExactSamePath", apart := false }
def FnExactSamePathSaid : Prop := fnExactSamePathRow.holds Try.pinned (OpenSpec.ofChange fnExactSamePathSpec)

/-- ITS FALSE NEIGHBOUR: 'it returns false'. Refute it at one input. -/
def fnExactSamePathWrong : ChangeSpec := { name := "fnExactSamePath", fn := fun _ => fun
  | [d1, d2] => { results := [.lit (.bool false)], args := [d1, d2] }
  | _ => none }
def FnExactSamePathWrongFalsely : Prop := fnExactSamePathRow.holds Try.pinned (OpenSpec.ofChange fnExactSamePathWrong)

/-- 'laws.FnExactIsPath': WHATEVER THE INPUT: true; the input reads as it did. -/
def fnExactIsPathSpec : ChangeSpec := { name := "fnExactIsPath", fn := fun _ => fun
  | [d] => { results := [.lit (.bool true)], args := [d] }
  | _ => none }
def fnExactIsPathRow : OpenClaim := { program := "ytingkifphhjjeaa", sum := "0253ecde2675aec0ebcd9c9c20d36ae3c3f3de7b26d921055a172d571bf2005b", func := "loop.example/g00588/laws.FnExactIsPath", spec := "fnExactIsPath", unfollowed := true, recurses := true, apart := false }
def FnExactIsPathSaid : Prop := fnExactIsPathRow.holds Try.pinned (OpenSpec.ofChange fnExactIsPathSpec)

/-- ITS FALSE NEIGHBOUR: 'it returns false'. Refute it at one input. -/
def fnExactIsPathWrong : ChangeSpec := { name := "fnExactIsPath", fn := fun _ => fun
  | [d] => { results := [.lit (.bool false)], args := [d] }
  | _ => none }
def FnExactIsPathWrongFalsely : Prop := fnExactIsPathRow.holds Try.pinned (OpenSpec.ofChange fnExactIsPathWrong)

/-- 'laws.FnExactIsBelow': WHATEVER THE INPUT: true; the input reads as it did. -/
def fnExactIsBelowSpec : ChangeSpec := { name := "fnExactIsBelow", fn := fun _ => fun
  | [d1, d2] => { results := [.lit (.bool true)], args := [d1, d2] }
  | _ => none }
def fnExactIsBelowRow : OpenClaim := { program := "ytingkifphhjjeaa", sum := "0253ecde2675aec0ebcd9c9c20d36ae3c3f3de7b26d921055a172d571bf2005b", func := "loop.example/g00588/laws.FnExactIsBelow", spec := "fnExactIsBelow", unfollowed := true, recurses := true, apart := false }
def FnExactIsBelowSaid : Prop := fnExactIsBelowRow.holds Try.pinned (OpenSpec.ofChange fnExactIsBelowSpec)

/-- ITS FALSE NEIGHBOUR: 'it returns false'. Refute it at one input. -/
def fnExactIsBelowWrong : ChangeSpec := { name := "fnExactIsBelow", fn := fun _ => fun
  | [d1, d2] => { results := [.lit (.bool false)], args := [d1, d2] }
  | _ => none }
def FnExactIsBelowWrongFalsely : Prop := fnExactIsBelowRow.holds Try.pinned (OpenSpec.ofChange fnExactIsBelowWrong)

/-- 'laws.FnExactParentOf': WHATEVER THE INPUT: true; the input reads as it did. -/
def fnExactParentOfSpec : ChangeSpec := { name := "fnExactParentOf", fn := fun _ => fun
  | [d] => { results := [.lit (.bool true)], args := [d] }
  | _ => none }
def fnExactParentOfRow : OpenClaim := { program := "ytingkifphhjjeaa", sum := "0253ecde2675aec0ebcd9c9c20d36ae3c3f3de7b26d921055a172d571bf2005b", func := "loop.example/g00588/laws.FnExactParentOf", spec := "fnExactParentOf", unfollowed := true, recurses := true, apart := false }
def FnExactParentOfSaid : Prop := fnExactParentOfRow.holds Try.pinned (OpenSpec.ofChange fnExactParentOfSpec)

/-- ITS FALSE NEIGHBOUR: 'it returns false'. Refute it at one input. -/
def fnExactParentOfWrong : ChangeSpec := { name := "fnExactParentOf", fn := fun _ => fun
  | [d] => { results := [.lit (.bool false)], args := [d] }
  | _ => none }
def FnExactParentOfWrongFalsely : Prop := fnExactParentOfRow.holds Try.pinned (OpenSpec.ofChange fnExactParentOfWrong)

/-- 'laws.FnExactJoinPath': WHATEVER THE INPUT: true; the input reads as it did. -/
def fnExactJoinPathSpec : ChangeSpec := { name := "fnExactJoinPath", fn := fun _ => fun
  | [d1, d2] => { results := [.lit (.bool true)], args := [d1, d2] }
  | _ => none }
def fnExactJoinPathRow : OpenClaim := { program := "ytingkifphhjjeaa", sum := "0253ecde2675aec0ebcd9c9c20d36ae3c3f3de7b26d921055a172d571bf2005b", func := "loop.example/g00588/laws.FnExactJoinPath", spec := "fnExactJoinPath", unfollowed := true, recurses := true, apart := false }
def FnExactJoinPathSaid : Prop := fnExactJoinPathRow.holds Try.pinned (OpenSpec.ofChange fnExactJoinPathSpec)

/-- ITS FALSE NEIGHBOUR: 'it returns false'. Refute it at one input. -/
def fnExactJoinPathWrong : ChangeSpec := { name := "fnExactJoinPath", fn := fun _ => fun
  | [d1, d2] => { results := [.lit (.bool false)], args := [d1, d2] }
  | _ => none }
def FnExactJoinPathWrongFalsely : Prop := fnExactJoinPathRow.holds Try.pinned (OpenSpec.ofChange fnExactJoinPathWrong)

/-- 'laws.FnExactFormatPath': WHATEVER THE INPUT: true; the input reads as it did. -/
def fnExactFormatPathSpec : ChangeSpec := { name := "fnExactFormatPath", fn := fun _ => fun
  | [d] => { results := [.lit (.bool true)], args := [d] }
  | _ => none }
def fnExactFormatPathRow : OpenClaim := { program := "ytingkifphhjjeaa", sum := "0253ecde2675aec0ebcd9c9c20d36ae3c3f3de7b26d921055a172d571bf2005b", func := "loop.example/g00588/laws.FnExactFormatPath", spec := "fnExactFormatPath", inPlace := ["internal/abi.NoEscape", "internal/bytealg.MakeNoZero"], unfollowed := true, recurses := true, apart := false }
def FnExactFormatPathSaid : Prop := fnExactFormatPathRow.holds Try.pinned (OpenSpec.ofChange fnExactFormatPathSpec)

/-- ITS FALSE NEIGHBOUR: 'it returns false'. Refute it at one input. -/
def fnExactFormatPathWrong : ChangeSpec := { name := "fnExactFormatPath", fn := fun _ => fun
  | [d] => { results := [.lit (.bool false)], args := [d] }
  | _ => none }
def FnExactFormatPathWrongFalsely : Prop := fnExactFormatPathRow.holds Try.pinned (OpenSpec.ofChange fnExactFormatPathWrong)

/- THE SECOND FORM. 'bulk': how many values and letters a reading holds, each counted each time it is reached (what is shared counts as often as it is met; a slice's spare places count too). A statement '..UptoSaid' is the law's where the arguments, and the package variables that the reading takes, are together of bulk at most 1048576: NARROWER than '..Said'. Prove '..Said' where nothing that the law and all that it calls make is longer than what came in: it says more and counts as full. Else prove '..UptoSaid'. A law counts once. -/
mutual
def uptoBulk {H : Type} : DataW H → Nat
  | .lit (.string bytes) => bytes.length + 1
  | .lit _ => 1
  | .nil => 1
  | .ptr d => uptoBulk d + 1
  | .slice elems spare => uptoBulkAll elems + uptoBulkAll spare + 1
  | .agg parts => uptoBulkAll parts + 1
  | .iface _ d => uptoBulk d + 1
  | .map entries => uptoBulkEntries entries + 1
  | .held _ => 1
def uptoBulkAll {H : Type} : List (DataW H) → Nat
  | [] => 0
  | d :: r => uptoBulk d + uptoBulkAll r
def uptoBulkEntries {H : Type} : List (Lit × DataW H) → Nat
  | [] => 0
  | x :: r => uptoBulkEntry x + uptoBulkEntries r
def uptoBulkEntry {H : Type} : Lit × DataW H → Nat
  | (.string bytes, d) => bytes.length + uptoBulk d + 1
  | (_, d) => uptoBulk d + 1
 end
def uptoSmall : (H : Type) → List (DataW H) → Bool := fun _ ds => decide (uptoBulkAll ds ≤ 1048576)
def OpenSpec.upto (s : _root_.Go.ChangeSpec) : _root_.Go.OpenSpec := { _root_.Go.OpenSpec.ofChange s with cond := some uptoSmall }

/-- 'laws.FnExactSamePath', WHERE WHAT IT READS IS OF BULK AT MOST 1048576: true; the input reads as it did. -/
def fnExactSamePathUptoRow : OpenClaim := { program := "ytingkifphhjjeaa", sum := "0253ecde2675aec0ebcd9c9c20d36ae3c3f3de7b26d921055a172d571bf2005b", func := "loop.example/g00588/laws.FnExactSamePath", spec := "fnExactSamePath", apart := false, narrowed := true }
def FnExactSamePathUptoSaid : Prop := fnExactSamePathUptoRow.holds Try.pinned (OpenSpec.upto fnExactSamePathSpec)

/-- 'laws.FnExactIsPath', WHERE WHAT IT READS IS OF BULK AT MOST 1048576: true; the input reads as it did. -/
def fnExactIsPathUptoRow : OpenClaim := { program := "ytingkifphhjjeaa", sum := "0253ecde2675aec0ebcd9c9c20d36ae3c3f3de7b26d921055a172d571bf2005b", func := "loop.example/g00588/laws.FnExactIsPath", spec := "fnExactIsPath", unfollowed := true, recurses := true, apart := false, narrowed := true }
def FnExactIsPathUptoSaid : Prop := fnExactIsPathUptoRow.holds Try.pinned (OpenSpec.upto fnExactIsPathSpec)

/-- 'laws.FnExactIsBelow', WHERE WHAT IT READS IS OF BULK AT MOST 1048576: true; the input reads as it did. -/
def fnExactIsBelowUptoRow : OpenClaim := { program := "ytingkifphhjjeaa", sum := "0253ecde2675aec0ebcd9c9c20d36ae3c3f3de7b26d921055a172d571bf2005b", func := "loop.example/g00588/laws.FnExactIsBelow", spec := "fnExactIsBelow", unfollowed := true, recurses := true, apart := false, narrowed := true }
def FnExactIsBelowUptoSaid : Prop := fnExactIsBelowUptoRow.holds Try.pinned (OpenSpec.upto fnExactIsBelowSpec)

/-- 'laws.FnExactParentOf', WHERE WHAT IT READS IS OF BULK AT MOST 1048576: true; the input reads as it did. -/
def fnExactParentOfUptoRow : OpenClaim := { program := "ytingkifphhjjeaa", sum := "0253ecde2675aec0ebcd9c9c20d36ae3c3f3de7b26d921055a172d571bf2005b", func := "loop.example/g00588/laws.FnExactParentOf", spec := "fnExactParentOf", unfollowed := true, recurses := true, apart := false, narrowed := true }
def FnExactParentOfUptoSaid : Prop := fnExactParentOfUptoRow.holds Try.pinned (OpenSpec.upto fnExactParentOfSpec)

/-- 'laws.FnExactJoinPath', WHERE WHAT IT READS IS OF BULK AT MOST 1048576: true; the input reads as it did. -/
def fnExactJoinPathUptoRow : OpenClaim := { program := "ytingkifphhjjeaa", sum := "0253ecde2675aec0ebcd9c9c20d36ae3c3f3de7b26d921055a172d571bf2005b", func := "loop.example/g00588/laws.FnExactJoinPath", spec := "fnExactJoinPath", unfollowed := true, recurses := true, apart := false, narrowed := true }
def FnExactJoinPathUptoSaid : Prop := fnExactJoinPathUptoRow.holds Try.pinned (OpenSpec.upto fnExactJoinPathSpec)

/-- 'laws.FnExactFormatPath', WHERE WHAT IT READS IS OF BULK AT MOST 1048576: true; the input reads as it did. -/
def fnExactFormatPathUptoRow : OpenClaim := { program := "ytingkifphhjjeaa", sum := "0253ecde2675aec0ebcd9c9c20d36ae3c3f3de7b26d921055a172d571bf2005b", func := "loop.example/g00588/laws.FnExactFormatPath", spec := "fnExactFormatPath", inPlace := ["internal/abi.NoEscape", "internal/bytealg.MakeNoZero"], unfollowed := true, recurses := true, apart := false, narrowed := true }
def FnExactFormatPathUptoSaid : Prop := fnExactFormatPathUptoRow.holds Try.pinned (OpenSpec.upto fnExactFormatPathSpec)

end Rows
end Go.Proofs.Ytingkifphhjjeaa
