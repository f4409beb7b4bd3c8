/-
  No cell of these rows narrows 'for every input' (looked for: loops, veiled, ifaces, maps, wideKeys, modest, calm, conditions, laid).
  DERIVED. THE GIVEN ROWS OF THIS SEAT. 12 by the template 'for every input the law returns true; each argument reads behind the call as it read before'; 0 by the template 'total and deterministic' (their statements: YtaebboanblfmjaaTotals.lean).
  GIVEN WITH THE SEED: the statements are not yours to turn. If you find one false, say at which input.
  Laid BY PROGRAM, IN A SANDBOX (cutbox-rows.mjs): the forced cells as the released guide's own fill.sh prints them over the translation e148dc51221c3b46… (all of the seat's roots in one cut). By AI agents, Wed Nov 11 2026. No macro, syntax, notation, axiom, sorry.
-/
import Derived.Test.YtaebboanblfmjaaChecked
import GoSem.Claim
import GoSem.ClaimJoined
import GoSem.ClaimMapViews
import Derived.JoinedTies
import Derived.KernelRfl
namespace Go.Proofs.Ytaebboanblfmjaa
/- THE CELL 'sum', in the pinned program and in every row, IS THE sha256 OF THE DUMP (.gsa) THAT YtaebboanblfmjaaProg.lean LOADS. Nothing in Lean hashes anything: it is a label: what it is worth is what the hold of that sum in a sandbox is worth. -/
noncomputable def Try.pinned : Pinned := { name := "ytaebboanblfmjaa", sum := "e148dc51221c3b463598e86f9b86837aeefb5d7529472956176729daa42a20e8", checked := Try.checked }
namespace Rows
def none {H : Type} : Left H := { results := [], args := [] }

/-- 'laws.FnExactOneKey': WHATEVER THE INPUT: true; the input reads as it did. -/
def fnExactOneKeySpec : ChangeSpec := { name := "fnExactOneKey", fn := fun _ => fun
  | [d] => { results := [.lit (.bool true)], args := [d] }
  | _ => none }
def fnExactOneKeyRow : OpenClaim := { program := "ytaebboanblfmjaa", sum := "e148dc51221c3b463598e86f9b86837aeefb5d7529472956176729daa42a20e8", func := "loop.example/g00588/laws.FnExactOneKey", spec := "fnExactOneKey", apart := false }
def FnExactOneKeySaid : Prop := fnExactOneKeyRow.holds Try.pinned (OpenSpec.ofChange fnExactOneKeySpec)

/-- ITS FALSE NEIGHBOUR: 'it returns false'. Refute it at one input. -/
def fnExactOneKeyWrong : ChangeSpec := { name := "fnExactOneKey", fn := fun _ => fun
  | [d] => { results := [.lit (.bool false)], args := [d] }
  | _ => none }
def FnExactOneKeyWrongFalsely : Prop := fnExactOneKeyRow.holds Try.pinned (OpenSpec.ofChange fnExactOneKeyWrong)

/-- 'laws.FnExactHasKey': WHATEVER THE INPUT: true; the input reads as it did. -/
def fnExactHasKeySpec : ChangeSpec := { name := "fnExactHasKey", fn := fun _ => fun
  | [d1, d2] => { results := [.lit (.bool true)], args := [d1, d2] }
  | _ => none }
def fnExactHasKeyRow : OpenClaim := { program := "ytaebboanblfmjaa", sum := "e148dc51221c3b463598e86f9b86837aeefb5d7529472956176729daa42a20e8", func := "loop.example/g00588/laws.FnExactHasKey", spec := "fnExactHasKey", apart := false }
def FnExactHasKeySaid : Prop := fnExactHasKeyRow.holds Try.pinned (OpenSpec.ofChange fnExactHasKeySpec)

/-- ITS FALSE NEIGHBOUR: 'it returns false'. Refute it at one input. -/
def fnExactHasKeyWrong : ChangeSpec := { name := "fnExactHasKey", fn := fun _ => fun
  | [d1, d2] => { results := [.lit (.bool false)], args := [d1, d2] }
  | _ => none }
def FnExactHasKeyWrongFalsely : Prop := fnExactHasKeyRow.holds Try.pinned (OpenSpec.ofChange fnExactHasKeyWrong)

/-- 'laws.FnExactKeysInts': WHATEVER THE INPUT: true; the input reads as it did. -/
def fnExactKeysIntsSpec : ChangeSpec := { name := "fnExactKeysInts", fn := fun _ => fun
  | [d] => { results := [.lit (.bool true)], args := [d] }
  | _ => none }
def fnExactKeysIntsRow : OpenClaim := { program := "ytaebboanblfmjaa", sum := "e148dc51221c3b463598e86f9b86837aeefb5d7529472956176729daa42a20e8", func := "loop.example/g00588/laws.FnExactKeysInts", spec := "fnExactKeysInts", apart := false }
def FnExactKeysIntsSaid : Prop := fnExactKeysIntsRow.holds Try.pinned (OpenSpec.ofChange fnExactKeysIntsSpec)

/-- ITS FALSE NEIGHBOUR: 'it returns false'. Refute it at one input. -/
def fnExactKeysIntsWrong : ChangeSpec := { name := "fnExactKeysInts", fn := fun _ => fun
  | [d] => { results := [.lit (.bool false)], args := [d] }
  | _ => none }
def FnExactKeysIntsWrongFalsely : Prop := fnExactKeysIntsRow.holds Try.pinned (OpenSpec.ofChange fnExactKeysIntsWrong)

/-- 'laws.FnExactIsKeys': WHATEVER THE INPUT: true; the input reads as it did. -/
def fnExactIsKeysSpec : ChangeSpec := { name := "fnExactIsKeys", fn := fun _ => fun
  | [d] => { results := [.lit (.bool true)], args := [d] }
  | _ => none }
def fnExactIsKeysRow : OpenClaim := { program := "ytaebboanblfmjaa", sum := "e148dc51221c3b463598e86f9b86837aeefb5d7529472956176729daa42a20e8", func := "loop.example/g00588/laws.FnExactIsKeys", spec := "fnExactIsKeys", apart := false }
def FnExactIsKeysSaid : Prop := fnExactIsKeysRow.holds Try.pinned (OpenSpec.ofChange fnExactIsKeysSpec)

/-- ITS FALSE NEIGHBOUR: 'it returns false'. Refute it at one input. -/
def fnExactIsKeysWrong : ChangeSpec := { name := "fnExactIsKeys", fn := fun _ => fun
  | [d] => { results := [.lit (.bool false)], args := [d] }
  | _ => none }
def FnExactIsKeysWrongFalsely : Prop := fnExactIsKeysRow.holds Try.pinned (OpenSpec.ofChange fnExactIsKeysWrong)

/-- 'laws.FnExactEqualKeys': WHATEVER THE INPUT: true; the input reads as it did. -/
def fnExactEqualKeysSpec : ChangeSpec := { name := "fnExactEqualKeys", fn := fun _ => fun
  | [d1, d2] => { results := [.lit (.bool true)], args := [d1, d2] }
  | _ => none }
def fnExactEqualKeysRow : OpenClaim := { program := "ytaebboanblfmjaa", sum := "e148dc51221c3b463598e86f9b86837aeefb5d7529472956176729daa42a20e8", func := "loop.example/g00588/laws.FnExactEqualKeys", spec := "fnExactEqualKeys", apart := false }
def FnExactEqualKeysSaid : Prop := fnExactEqualKeysRow.holds Try.pinned (OpenSpec.ofChange fnExactEqualKeysSpec)

/-- ITS FALSE NEIGHBOUR: 'it returns false'. Refute it at one input. -/
def fnExactEqualKeysWrong : ChangeSpec := { name := "fnExactEqualKeys", fn := fun _ => fun
  | [d1, d2] => { results := [.lit (.bool false)], args := [d1, d2] }
  | _ => none }
def FnExactEqualKeysWrongFalsely : Prop := fnExactEqualKeysRow.holds Try.pinned (OpenSpec.ofChange fnExactEqualKeysWrong)

/-- 'laws.FnExactKeysDigest': WHATEVER THE INPUT: true; the input reads as it did. -/
def fnExactKeysDigestSpec : ChangeSpec := { name := "fnExactKeysDigest", fn := fun _ => fun
  | [d] => { results := [.lit (.bool true)], args := [d] }
  | _ => none }
def fnExactKeysDigestRow : OpenClaim := { program := "ytaebboanblfmjaa", sum := "e148dc51221c3b463598e86f9b86837aeefb5d7529472956176729daa42a20e8", func := "loop.example/g00588/laws.FnExactKeysDigest", spec := "fnExactKeysDigest", apart := false }
def FnExactKeysDigestSaid : Prop := fnExactKeysDigestRow.holds Try.pinned (OpenSpec.ofChange fnExactKeysDigestSpec)

/-- ITS FALSE NEIGHBOUR: 'it returns false'. Refute it at one input. -/
def fnExactKeysDigestWrong : ChangeSpec := { name := "fnExactKeysDigest", fn := fun _ => fun
  | [d] => { results := [.lit (.bool false)], args := [d] }
  | _ => none }
def FnExactKeysDigestWrongFalsely : Prop := fnExactKeysDigestRow.holds Try.pinned (OpenSpec.ofChange fnExactKeysDigestWrong)

/-- 'laws.FnExactCanSign': WHATEVER THE INPUT: true; the input reads as it did. -/
def fnExactCanSignSpec : ChangeSpec := { name := "fnExactCanSign", fn := fun _ => fun
  | [d1, d2] => { results := [.lit (.bool true)], args := [d1, d2] }
  | _ => none }
def fnExactCanSignRow : OpenClaim := { program := "ytaebboanblfmjaa", sum := "e148dc51221c3b463598e86f9b86837aeefb5d7529472956176729daa42a20e8", func := "loop.example/g00588/laws.FnExactCanSign", spec := "fnExactCanSign", apart := false }
def FnExactCanSignSaid : Prop := fnExactCanSignRow.holds Try.pinned (OpenSpec.ofChange fnExactCanSignSpec)

/-- ITS FALSE NEIGHBOUR: 'it returns false'. Refute it at one input. -/
def fnExactCanSignWrong : ChangeSpec := { name := "fnExactCanSign", fn := fun _ => fun
  | [d1, d2] => { results := [.lit (.bool false)], args := [d1, d2] }
  | _ => none }
def FnExactCanSignWrongFalsely : Prop := fnExactCanSignRow.holds Try.pinned (OpenSpec.ofChange fnExactCanSignWrong)

/-- 'laws.FnExactTagOf': WHATEVER THE INPUT: true; the input reads as it did. -/
def fnExactTagOfSpec : ChangeSpec := { name := "fnExactTagOf", fn := fun _ => fun
  | [d1, d2] => { results := [.lit (.bool true)], args := [d1, d2] }
  | _ => none }
def fnExactTagOfRow : OpenClaim := { program := "ytaebboanblfmjaa", sum := "e148dc51221c3b463598e86f9b86837aeefb5d7529472956176729daa42a20e8", func := "loop.example/g00588/laws.FnExactTagOf", spec := "fnExactTagOf", apart := false }
def FnExactTagOfSaid : Prop := fnExactTagOfRow.holds Try.pinned (OpenSpec.ofChange fnExactTagOfSpec)

/-- ITS FALSE NEIGHBOUR: 'it returns false'. Refute it at one input. -/
def fnExactTagOfWrong : ChangeSpec := { name := "fnExactTagOf", fn := fun _ => fun
  | [d1, d2] => { results := [.lit (.bool false)], args := [d1, d2] }
  | _ => none }
def FnExactTagOfWrongFalsely : Prop := fnExactTagOfRow.holds Try.pinned (OpenSpec.ofChange fnExactTagOfWrong)

/-- 'laws.FnExactIsSigBy': WHATEVER THE INPUT: true; the input reads as it did. -/
def fnExactIsSigBySpec : ChangeSpec := { name := "fnExactIsSigBy", fn := fun _ => fun
  | [d1, d2] => { results := [.lit (.bool true)], args := [d1, d2] }
  | _ => none }
def fnExactIsSigByRow : OpenClaim := { program := "ytaebboanblfmjaa", sum := "e148dc51221c3b463598e86f9b86837aeefb5d7529472956176729daa42a20e8", func := "loop.example/g00588/laws.FnExactIsSigBy", spec := "fnExactIsSigBy", apart := false }
def FnExactIsSigBySaid : Prop := fnExactIsSigByRow.holds Try.pinned (OpenSpec.ofChange fnExactIsSigBySpec)

/-- ITS FALSE NEIGHBOUR: 'it returns false'. Refute it at one input. -/
def fnExactIsSigByWrong : ChangeSpec := { name := "fnExactIsSigBy", fn := fun _ => fun
  | [d1, d2] => { results := [.lit (.bool false)], args := [d1, d2] }
  | _ => none }
def FnExactIsSigByWrongFalsely : Prop := fnExactIsSigByRow.holds Try.pinned (OpenSpec.ofChange fnExactIsSigByWrong)

/-- 'laws.FnExactCountSigs': WHATEVER THE INPUT: true; the input reads as it did. -/
def fnExactCountSigsSpec : ChangeSpec := { name := "fnExactCountSigs", fn := fun _ => fun
  | [d1, d2, d3] => { results := [.lit (.bool true)], args := [d1, d2, d3] }
  | _ => none }
def fnExactCountSigsRow : OpenClaim := { program := "ytaebboanblfmjaa", sum := "e148dc51221c3b463598e86f9b86837aeefb5d7529472956176729daa42a20e8", func := "loop.example/g00588/laws.FnExactCountSigs", spec := "fnExactCountSigs", unfollowed := true, recurses := true, apart := false }
def FnExactCountSigsSaid : Prop := fnExactCountSigsRow.holds Try.pinned (OpenSpec.ofChange fnExactCountSigsSpec)

/-- ITS FALSE NEIGHBOUR: 'it returns false'. Refute it at one input. -/
def fnExactCountSigsWrong : ChangeSpec := { name := "fnExactCountSigs", fn := fun _ => fun
  | [d1, d2, d3] => { results := [.lit (.bool false)], args := [d1, d2, d3] }
  | _ => none }
def FnExactCountSigsWrongFalsely : Prop := fnExactCountSigsRow.holds Try.pinned (OpenSpec.ofChange fnExactCountSigsWrong)

/-- 'laws.FnExactSignBy': WHATEVER THE INPUT: true; the input reads as it did. -/
def fnExactSignBySpec : ChangeSpec := { name := "fnExactSignBy", fn := fun _ => fun
  | [d1, d2, d3] => { results := [.lit (.bool true)], args := [d1, d2, d3] }
  | _ => none }
def fnExactSignByRow : OpenClaim := { program := "ytaebboanblfmjaa", sum := "e148dc51221c3b463598e86f9b86837aeefb5d7529472956176729daa42a20e8", func := "loop.example/g00588/laws.FnExactSignBy", spec := "fnExactSignBy", apart := false }
def FnExactSignBySaid : Prop := fnExactSignByRow.holds Try.pinned (OpenSpec.ofChange fnExactSignBySpec)

/-- ITS FALSE NEIGHBOUR: 'it returns false'. Refute it at one input. -/
def fnExactSignByWrong : ChangeSpec := { name := "fnExactSignBy", fn := fun _ => fun
  | [d1, d2, d3] => { results := [.lit (.bool false)], args := [d1, d2, d3] }
  | _ => none }
def FnExactSignByWrongFalsely : Prop := fnExactSignByRow.holds Try.pinned (OpenSpec.ofChange fnExactSignByWrong)

/-- 'laws.FnExactIsSigned': WHATEVER THE INPUT: true; the input reads as it did. -/
def fnExactIsSignedSpec : ChangeSpec := { name := "fnExactIsSigned", fn := fun _ => fun
  | [d1, d2, d3] => { results := [.lit (.bool true)], args := [d1, d2, d3] }
  | _ => none }
def fnExactIsSignedRow : OpenClaim := { program := "ytaebboanblfmjaa", sum := "e148dc51221c3b463598e86f9b86837aeefb5d7529472956176729daa42a20e8", func := "loop.example/g00588/laws.FnExactIsSigned", spec := "fnExactIsSigned", unfollowed := true, recurses := true, apart := false }
def FnExactIsSignedSaid : Prop := fnExactIsSignedRow.holds Try.pinned (OpenSpec.ofChange fnExactIsSignedSpec)

/-- ITS FALSE NEIGHBOUR: 'it returns false'. Refute it at one input. -/
def fnExactIsSignedWrong : ChangeSpec := { name := "fnExactIsSigned", fn := fun _ => fun
  | [d1, d2, d3] => { results := [.lit (.bool false)], args := [d1, d2, d3] }
  | _ => none }
def FnExactIsSignedWrongFalsely : Prop := fnExactIsSignedRow.holds Try.pinned (OpenSpec.ofChange fnExactIsSignedWrong)

/- THE SECOND FORM. 'bulk': how many values and letters a reading holds, each counted each time it is reached (what is shared counts as often as it is met; a slice's spare places count too). A statement '..UptoSaid' is the law's where the arguments, and the package variables that the reading takes, are together of bulk at most 1048576: NARROWER than '..Said'. Prove '..Said' where nothing that the law and all that it calls make is longer than what came in: it says more and counts as full. Else prove '..UptoSaid'. A law counts once. -/
mutual
def uptoBulk {H : Type} : DataW H → Nat
  | .lit (.string bytes) => bytes.length + 1
  | .lit _ => 1
  | .nil => 1
  | .ptr d => uptoBulk d + 1
  | .slice elems spare => uptoBulkAll elems + uptoBulkAll spare + 1
  | .agg parts => uptoBulkAll parts + 1
  | .iface _ d => uptoBulk d + 1
  | .map entries => uptoBulkEntries entries + 1
  | .held _ => 1
def uptoBulkAll {H : Type} : List (DataW H) → Nat
  | [] => 0
  | d :: r => uptoBulk d + uptoBulkAll r
def uptoBulkEntries {H : Type} : List (Lit × DataW H) → Nat
  | [] => 0
  | x :: r => uptoBulkEntry x + uptoBulkEntries r
def uptoBulkEntry {H : Type} : Lit × DataW H → Nat
  | (.string bytes, d) => bytes.length + uptoBulk d + 1
  | (_, d) => uptoBulk d + 1
 end
def uptoSmall : (H : Type) → List (DataW H) → Bool := fun _ ds => decide (uptoBulkAll ds ≤ 1048576)
def OpenSpec.upto (s : _root_.Go.ChangeSpec) : _root_.Go.OpenSpec := { _root_.Go.OpenSpec.ofChange s with cond := some uptoSmall }

/-- 'laws.FnExactOneKey', WHERE WHAT IT READS IS OF BULK AT MOST 1048576: true; the input reads as it did. -/
def fnExactOneKeyUptoRow : OpenClaim := { program := "ytaebboanblfmjaa", sum := "e148dc51221c3b463598e86f9b86837aeefb5d7529472956176729daa42a20e8", func := "loop.example/g00588/laws.FnExactOneKey", spec := "fnExactOneKey", apart := false, narrowed := true }
def FnExactOneKeyUptoSaid : Prop := fnExactOneKeyUptoRow.holds Try.pinned (OpenSpec.upto fnExactOneKeySpec)

/-- 'laws.FnExactHasKey', WHERE WHAT IT READS IS OF BULK AT MOST 1048576: true; the input reads as it did. -/
def fnExactHasKeyUptoRow : OpenClaim := { program := "ytaebboanblfmjaa", sum := "e148dc51221c3b463598e86f9b86837aeefb5d7529472956176729daa42a20e8", func := "loop.example/g00588/laws.FnExactHasKey", spec := "fnExactHasKey", apart := false, narrowed := true }
def FnExactHasKeyUptoSaid : Prop := fnExactHasKeyUptoRow.holds Try.pinned (OpenSpec.upto fnExactHasKeySpec)

/-- 'laws.FnExactKeysInts', WHERE WHAT IT READS IS OF BULK AT MOST 1048576: true; the input reads as it did. -/
def fnExactKeysIntsUptoRow : OpenClaim := { program := "ytaebboanblfmjaa", sum := "e148dc51221c3b463598e86f9b86837aeefb5d7529472956176729daa42a20e8", func := "loop.example/g00588/laws.FnExactKeysInts", spec := "fnExactKeysInts", apart := false, narrowed := true }
def FnExactKeysIntsUptoSaid : Prop := fnExactKeysIntsUptoRow.holds Try.pinned (OpenSpec.upto fnExactKeysIntsSpec)

/-- 'laws.FnExactIsKeys', WHERE WHAT IT READS IS OF BULK AT MOST 1048576: true; the input reads as it did. -/
def fnExactIsKeysUptoRow : OpenClaim := { program := "ytaebboanblfmjaa", sum := "e148dc51221c3b463598e86f9b86837aeefb5d7529472956176729daa42a20e8", func := "loop.example/g00588/laws.FnExactIsKeys", spec := "fnExactIsKeys", apart := false, narrowed := true }
def FnExactIsKeysUptoSaid : Prop := fnExactIsKeysUptoRow.holds Try.pinned (OpenSpec.upto fnExactIsKeysSpec)

/-- 'laws.FnExactEqualKeys', WHERE WHAT IT READS IS OF BULK AT MOST 1048576: true; the input reads as it did. -/
def fnExactEqualKeysUptoRow : OpenClaim := { program := "ytaebboanblfmjaa", sum := "e148dc51221c3b463598e86f9b86837aeefb5d7529472956176729daa42a20e8", func := "loop.example/g00588/laws.FnExactEqualKeys", spec := "fnExactEqualKeys", apart := false, narrowed := true }
def FnExactEqualKeysUptoSaid : Prop := fnExactEqualKeysUptoRow.holds Try.pinned (OpenSpec.upto fnExactEqualKeysSpec)

/-- 'laws.FnExactKeysDigest', WHERE WHAT IT READS IS OF BULK AT MOST 1048576: true; the input reads as it did. -/
def fnExactKeysDigestUptoRow : OpenClaim := { program := "ytaebboanblfmjaa", sum := "e148dc51221c3b463598e86f9b86837aeefb5d7529472956176729daa42a20e8", func := "loop.example/g00588/laws.FnExactKeysDigest", spec := "fnExactKeysDigest", apart := false, narrowed := true }
def FnExactKeysDigestUptoSaid : Prop := fnExactKeysDigestUptoRow.holds Try.pinned (OpenSpec.upto fnExactKeysDigestSpec)

/-- 'laws.FnExactCanSign', WHERE WHAT IT READS IS OF BULK AT MOST 1048576: true; the input reads as it did. -/
def fnExactCanSignUptoRow : OpenClaim := { program := "ytaebboanblfmjaa", sum := "e148dc51221c3b463598e86f9b86837aeefb5d7529472956176729daa42a20e8", func := "loop.example/g00588/laws.FnExactCanSign", spec := "fnExactCanSign", apart := false, narrowed := true }
def FnExactCanSignUptoSaid : Prop := fnExactCanSignUptoRow.holds Try.pinned (OpenSpec.upto fnExactCanSignSpec)

/-- 'laws.FnExactTagOf', WHERE WHAT IT READS IS OF BULK AT MOST 1048576: true; the input reads as it did. -/
def fnExactTagOfUptoRow : OpenClaim := { program := "ytaebboanblfmjaa", sum := "e148dc51221c3b463598e86f9b86837aeefb5d7529472956176729daa42a20e8", func := "loop.example/g00588/laws.FnExactTagOf", spec := "fnExactTagOf", apart := false, narrowed := true }
def FnExactTagOfUptoSaid : Prop := fnExactTagOfUptoRow.holds Try.pinned (OpenSpec.upto fnExactTagOfSpec)

/-- 'laws.FnExactIsSigBy', WHERE WHAT IT READS IS OF BULK AT MOST 1048576: true; the input reads as it did. -/
def fnExactIsSigByUptoRow : OpenClaim := { program := "ytaebboanblfmjaa", sum := "e148dc51221c3b463598e86f9b86837aeefb5d7529472956176729daa42a20e8", func := "loop.example/g00588/laws.FnExactIsSigBy", spec := "fnExactIsSigBy", apart := false, narrowed := true }
def FnExactIsSigByUptoSaid : Prop := fnExactIsSigByUptoRow.holds Try.pinned (OpenSpec.upto fnExactIsSigBySpec)

/-- 'laws.FnExactCountSigs', WHERE WHAT IT READS IS OF BULK AT MOST 1048576: true; the input reads as it did. -/
def fnExactCountSigsUptoRow : OpenClaim := { program := "ytaebboanblfmjaa", sum := "e148dc51221c3b463598e86f9b86837aeefb5d7529472956176729daa42a20e8", func := "loop.example/g00588/laws.FnExactCountSigs", spec := "fnExactCountSigs", unfollowed := true, recurses := true, apart := false, narrowed := true }
def FnExactCountSigsUptoSaid : Prop := fnExactCountSigsUptoRow.holds Try.pinned (OpenSpec.upto fnExactCountSigsSpec)

/-- 'laws.FnExactSignBy', WHERE WHAT IT READS IS OF BULK AT MOST 1048576: true; the input reads as it did. -/
def fnExactSignByUptoRow : OpenClaim := { program := "ytaebboanblfmjaa", sum := "e148dc51221c3b463598e86f9b86837aeefb5d7529472956176729daa42a20e8", func := "loop.example/g00588/laws.FnExactSignBy", spec := "fnExactSignBy", apart := false, narrowed := true }
def FnExactSignByUptoSaid : Prop := fnExactSignByUptoRow.holds Try.pinned (OpenSpec.upto fnExactSignBySpec)

/-- 'laws.FnExactIsSigned', WHERE WHAT IT READS IS OF BULK AT MOST 1048576: true; the input reads as it did. -/
def fnExactIsSignedUptoRow : OpenClaim := { program := "ytaebboanblfmjaa", sum := "e148dc51221c3b463598e86f9b86837aeefb5d7529472956176729daa42a20e8", func := "loop.example/g00588/laws.FnExactIsSigned", spec := "fnExactIsSigned", unfollowed := true, recurses := true, apart := false, narrowed := true }
def FnExactIsSignedUptoSaid : Prop := fnExactIsSignedUptoRow.holds Try.pinned (OpenSpec.upto fnExactIsSignedSpec)

end Rows
end Go.Proofs.Ytaebboanblfmjaa
