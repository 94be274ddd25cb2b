/-
  No cell of these rows narrows 'for every input' (looked for: loops, veiled, ifaces, maps, wideKeys, modest, calm, conditions, laid).
  DERIVED. THE GIVEN ROWS OF THIS SEAT. 7 by the template 'for every input the law returns true; each argument reads behind the call as it read before'; 0 by the template 'total and deterministic' (their statements: YtjihfeffonadmaaTotals.lean).
  GIVEN WITH THE SEED: the statements are not yours to turn. If you find one false, say at which input.
  Laid BY PROGRAM, IN A SANDBOX (cutbox-rows.mjs): the forced cells as the released guide's own fill.sh prints them over the translation b59919faad9facfb… (all of the seat's roots in one cut). By AI agents, Wed Nov 11 2026. No macro, syntax, notation, axiom, sorry.
-/
import Derived.Test.YtjihfeffonadmaaChecked
import GoSem.Claim
import GoSem.ClaimJoined
import GoSem.ClaimMapViews
import Derived.JoinedTies
import Derived.KernelRfl
namespace Go.Proofs.Ytjihfeffonadmaa
/- THE CELL 'sum', in the pinned program and in every row, IS THE sha256 OF THE DUMP (.gsa) THAT YtjihfeffonadmaaProg.lean LOADS. Nothing in Lean hashes anything: it is a label: what it is worth is what the hold of that sum in a sandbox is worth. -/
noncomputable def Try.pinned : Pinned := { name := "ytjihfeffonadmaa", sum := "b59919faad9facfb1a7e54ac13ada3fa202182927fd138b44b98dbcf6faf325d", checked := Try.checked }
namespace Rows
def none {H : Type} : Left H := { results := [], args := [] }

/-- 'laws.FnExactScaleShared': WHATEVER THE INPUT: true; the input reads as it did. -/
def fnExactScaleSharedSpec : ChangeSpec := { name := "fnExactScaleShared", fn := fun _ => fun
  | [d1, d2, d3] => { results := [.lit (.bool true)], args := [d1, d2, d3] }
  | _ => none }
def fnExactScaleSharedRow : OpenClaim := { program := "ytjihfeffonadmaa", sum := "b59919faad9facfb1a7e54ac13ada3fa202182927fd138b44b98dbcf6faf325d", func := "loop.example/sharedinference/laws.FnExactScaleShared", spec := "fnExactScaleShared", unfollowed := true, recurses := true, apart := false }
def FnExactScaleSharedSaid : Prop := fnExactScaleSharedRow.holds Try.pinned (OpenSpec.ofChange fnExactScaleSharedSpec)

/-- ITS FALSE NEIGHBOUR: 'it returns false'. Refute it at one input. -/
def fnExactScaleSharedWrong : ChangeSpec := { name := "fnExactScaleShared", fn := fun _ => fun
  | [d1, d2, d3] => { results := [.lit (.bool false)], args := [d1, d2, d3] }
  | _ => none }
def FnExactScaleSharedWrongFalsely : Prop := fnExactScaleSharedRow.holds Try.pinned (OpenSpec.ofChange fnExactScaleSharedWrong)

/-- 'laws.FnTurnShared': WHATEVER THE INPUT: true; the input reads as it did. -/
def fnTurnSharedSpec : ChangeSpec := { name := "fnTurnShared", fn := fun _ => fun
  | [d] => { results := [.lit (.bool true)], args := [d] }
  | _ => none }
def fnTurnSharedRow : OpenClaim := { program := "ytjihfeffonadmaa", sum := "b59919faad9facfb1a7e54ac13ada3fa202182927fd138b44b98dbcf6faf325d", func := "loop.example/sharedinference/laws.FnTurnShared", spec := "fnTurnShared", unfollowed := true, recurses := true, apart := false }
def FnTurnSharedSaid : Prop := fnTurnSharedRow.holds Try.pinned (OpenSpec.ofChange fnTurnSharedSpec)

/-- ITS FALSE NEIGHBOUR: 'it returns false'. Refute it at one input. -/
def fnTurnSharedWrong : ChangeSpec := { name := "fnTurnShared", fn := fun _ => fun
  | [d] => { results := [.lit (.bool false)], args := [d] }
  | _ => none }
def FnTurnSharedWrongFalsely : Prop := fnTurnSharedRow.holds Try.pinned (OpenSpec.ofChange fnTurnSharedWrong)

/-- 'laws.FnScaleShared': WHATEVER THE INPUT: true; the input reads as it did. -/
def fnScaleSharedSpec : ChangeSpec := { name := "fnScaleShared", fn := fun _ => fun
  | [d] => { results := [.lit (.bool true)], args := [d] }
  | _ => none }
def fnScaleSharedRow : OpenClaim := { program := "ytjihfeffonadmaa", sum := "b59919faad9facfb1a7e54ac13ada3fa202182927fd138b44b98dbcf6faf325d", func := "loop.example/sharedinference/laws.FnScaleShared", spec := "fnScaleShared", unfollowed := true, recurses := true, apart := false }
def FnScaleSharedSaid : Prop := fnScaleSharedRow.holds Try.pinned (OpenSpec.ofChange fnScaleSharedSpec)

/-- ITS FALSE NEIGHBOUR: 'it returns false'. Refute it at one input. -/
def fnScaleSharedWrong : ChangeSpec := { name := "fnScaleShared", fn := fun _ => fun
  | [d] => { results := [.lit (.bool false)], args := [d] }
  | _ => none }
def FnScaleSharedWrongFalsely : Prop := fnScaleSharedRow.holds Try.pinned (OpenSpec.ofChange fnScaleSharedWrong)

/-- 'laws.FnNetSides': WHATEVER THE INPUT: true; the input reads as it did. -/
def fnNetSidesSpec : ChangeSpec := { name := "fnNetSides", fn := fun _ => fun
  | [d] => { results := [.lit (.bool true)], args := [d] }
  | _ => none }
def fnNetSidesRow : OpenClaim := { program := "ytjihfeffonadmaa", sum := "b59919faad9facfb1a7e54ac13ada3fa202182927fd138b44b98dbcf6faf325d", func := "loop.example/sharedinference/laws.FnNetSides", spec := "fnNetSides", unfollowed := true, recurses := true, apart := false }
def FnNetSidesSaid : Prop := fnNetSidesRow.holds Try.pinned (OpenSpec.ofChange fnNetSidesSpec)

/-- ITS FALSE NEIGHBOUR: 'it returns false'. Refute it at one input. -/
def fnNetSidesWrong : ChangeSpec := { name := "fnNetSides", fn := fun _ => fun
  | [d] => { results := [.lit (.bool false)], args := [d] }
  | _ => none }
def FnNetSidesWrongFalsely : Prop := fnNetSidesRow.holds Try.pinned (OpenSpec.ofChange fnNetSidesWrong)

/-- 'laws.FnExactNetSides': WHATEVER THE INPUT: true; the input reads as it did. -/
def fnExactNetSidesSpec : ChangeSpec := { name := "fnExactNetSides", fn := fun _ => fun
  | [d1, d2, d3] => { results := [.lit (.bool true)], args := [d1, d2, d3] }
  | _ => none }
def fnExactNetSidesRow : OpenClaim := { program := "ytjihfeffonadmaa", sum := "b59919faad9facfb1a7e54ac13ada3fa202182927fd138b44b98dbcf6faf325d", func := "loop.example/sharedinference/laws.FnExactNetSides", spec := "fnExactNetSides", unfollowed := true, recurses := true, apart := false }
def FnExactNetSidesSaid : Prop := fnExactNetSidesRow.holds Try.pinned (OpenSpec.ofChange fnExactNetSidesSpec)

/-- ITS FALSE NEIGHBOUR: 'it returns false'. Refute it at one input. -/
def fnExactNetSidesWrong : ChangeSpec := { name := "fnExactNetSides", fn := fun _ => fun
  | [d1, d2, d3] => { results := [.lit (.bool false)], args := [d1, d2, d3] }
  | _ => none }
def FnExactNetSidesWrongFalsely : Prop := fnExactNetSidesRow.holds Try.pinned (OpenSpec.ofChange fnExactNetSidesWrong)

/-- 'laws.FnNeedsOf': WHATEVER THE INPUT: true; the input reads as it did. -/
def fnNeedsOfSpec : ChangeSpec := { name := "fnNeedsOf", fn := fun _ => fun
  | [d] => { results := [.lit (.bool true)], args := [d] }
  | _ => none }
def fnNeedsOfRow : OpenClaim := { program := "ytjihfeffonadmaa", sum := "b59919faad9facfb1a7e54ac13ada3fa202182927fd138b44b98dbcf6faf325d", func := "loop.example/sharedinference/laws.FnNeedsOf", spec := "fnNeedsOf", unfollowed := true, recurses := true, apart := false }
def FnNeedsOfSaid : Prop := fnNeedsOfRow.holds Try.pinned (OpenSpec.ofChange fnNeedsOfSpec)

/-- ITS FALSE NEIGHBOUR: 'it returns false'. Refute it at one input. -/
def fnNeedsOfWrong : ChangeSpec := { name := "fnNeedsOf", fn := fun _ => fun
  | [d] => { results := [.lit (.bool false)], args := [d] }
  | _ => none }
def FnNeedsOfWrongFalsely : Prop := fnNeedsOfRow.holds Try.pinned (OpenSpec.ofChange fnNeedsOfWrong)

/-- 'laws.FnExactNeedsOf': WHATEVER THE INPUT: true; the input reads as it did. -/
def fnExactNeedsOfSpec : ChangeSpec := { name := "fnExactNeedsOf", fn := fun _ => fun
  | [d1, d2, d3] => { results := [.lit (.bool true)], args := [d1, d2, d3] }
  | _ => none }
def fnExactNeedsOfRow : OpenClaim := { program := "ytjihfeffonadmaa", sum := "b59919faad9facfb1a7e54ac13ada3fa202182927fd138b44b98dbcf6faf325d", func := "loop.example/sharedinference/laws.FnExactNeedsOf", spec := "fnExactNeedsOf", unfollowed := true, recurses := true, apart := false }
def FnExactNeedsOfSaid : Prop := fnExactNeedsOfRow.holds Try.pinned (OpenSpec.ofChange fnExactNeedsOfSpec)

/-- ITS FALSE NEIGHBOUR: 'it returns false'. Refute it at one input. -/
def fnExactNeedsOfWrong : ChangeSpec := { name := "fnExactNeedsOf", fn := fun _ => fun
  | [d1, d2, d3] => { results := [.lit (.bool false)], args := [d1, d2, d3] }
  | _ => none }
def FnExactNeedsOfWrongFalsely : Prop := fnExactNeedsOfRow.holds Try.pinned (OpenSpec.ofChange fnExactNeedsOfWrong)

/- THE SECOND FORM. 'bulk': how many values and letters a reading holds, each counted each time it is reached (what is shared counts as often as it is met; a slice's spare places count too). A statement '..UptoSaid' is the law's where the arguments, and the package variables that the reading takes, are together of bulk at most 1048576: NARROWER than '..Said'. Prove '..Said' where nothing that the law and all that it calls make is longer than what came in: it says more and counts as full. Else prove '..UptoSaid'. A law counts once. -/
mutual
def uptoBulk {H : Type} : DataW H → Nat
  | .lit (.string bytes) => bytes.length + 1
  | .lit _ => 1
  | .nil => 1
  | .ptr d => uptoBulk d + 1
  | .slice elems spare => uptoBulkAll elems + uptoBulkAll spare + 1
  | .agg parts => uptoBulkAll parts + 1
  | .iface _ d => uptoBulk d + 1
  | .map entries => uptoBulkEntries entries + 1
  | .held _ => 1
def uptoBulkAll {H : Type} : List (DataW H) → Nat
  | [] => 0
  | d :: r => uptoBulk d + uptoBulkAll r
def uptoBulkEntries {H : Type} : List (Lit × DataW H) → Nat
  | [] => 0
  | x :: r => uptoBulkEntry x + uptoBulkEntries r
def uptoBulkEntry {H : Type} : Lit × DataW H → Nat
  | (.string bytes, d) => bytes.length + uptoBulk d + 1
  | (_, d) => uptoBulk d + 1
 end
def uptoSmall : (H : Type) → List (DataW H) → Bool := fun _ ds => decide (uptoBulkAll ds ≤ 1048576)
def OpenSpec.upto (s : _root_.Go.ChangeSpec) : _root_.Go.OpenSpec := { _root_.Go.OpenSpec.ofChange s with cond := some uptoSmall }

/-- 'laws.FnExactScaleShared', WHERE WHAT IT READS IS OF BULK AT MOST 1048576: true; the input reads as it did. -/
def fnExactScaleSharedUptoRow : OpenClaim := { program := "ytjihfeffonadmaa", sum := "b59919faad9facfb1a7e54ac13ada3fa202182927fd138b44b98dbcf6faf325d", func := "loop.example/sharedinference/laws.FnExactScaleShared", spec := "fnExactScaleShared", unfollowed := true, recurses := true, apart := false, narrowed := true }
def FnExactScaleSharedUptoSaid : Prop := fnExactScaleSharedUptoRow.holds Try.pinned (OpenSpec.upto fnExactScaleSharedSpec)

/-- 'laws.FnTurnShared', WHERE WHAT IT READS IS OF BULK AT MOST 1048576: true; the input reads as it did. -/
def fnTurnSharedUptoRow : OpenClaim := { program := "ytjihfeffonadmaa", sum := "b59919faad9facfb1a7e54ac13ada3fa202182927fd138b44b98dbcf6faf325d", func := "loop.example/sharedinference/laws.FnTurnShared", spec := "fnTurnShared", unfollowed := true, recurses := true, apart := false, narrowed := true }
def FnTurnSharedUptoSaid : Prop := fnTurnSharedUptoRow.holds Try.pinned (OpenSpec.upto fnTurnSharedSpec)

/-- 'laws.FnScaleShared', WHERE WHAT IT READS IS OF BULK AT MOST 1048576: true; the input reads as it did. -/
def fnScaleSharedUptoRow : OpenClaim := { program := "ytjihfeffonadmaa", sum := "b59919faad9facfb1a7e54ac13ada3fa202182927fd138b44b98dbcf6faf325d", func := "loop.example/sharedinference/laws.FnScaleShared", spec := "fnScaleShared", unfollowed := true, recurses := true, apart := false, narrowed := true }
def FnScaleSharedUptoSaid : Prop := fnScaleSharedUptoRow.holds Try.pinned (OpenSpec.upto fnScaleSharedSpec)

/-- 'laws.FnNetSides', WHERE WHAT IT READS IS OF BULK AT MOST 1048576: true; the input reads as it did. -/
def fnNetSidesUptoRow : OpenClaim := { program := "ytjihfeffonadmaa", sum := "b59919faad9facfb1a7e54ac13ada3fa202182927fd138b44b98dbcf6faf325d", func := "loop.example/sharedinference/laws.FnNetSides", spec := "fnNetSides", unfollowed := true, recurses := true, apart := false, narrowed := true }
def FnNetSidesUptoSaid : Prop := fnNetSidesUptoRow.holds Try.pinned (OpenSpec.upto fnNetSidesSpec)

/-- 'laws.FnExactNetSides', WHERE WHAT IT READS IS OF BULK AT MOST 1048576: true; the input reads as it did. -/
def fnExactNetSidesUptoRow : OpenClaim := { program := "ytjihfeffonadmaa", sum := "b59919faad9facfb1a7e54ac13ada3fa202182927fd138b44b98dbcf6faf325d", func := "loop.example/sharedinference/laws.FnExactNetSides", spec := "fnExactNetSides", unfollowed := true, recurses := true, apart := false, narrowed := true }
def FnExactNetSidesUptoSaid : Prop := fnExactNetSidesUptoRow.holds Try.pinned (OpenSpec.upto fnExactNetSidesSpec)

/-- 'laws.FnNeedsOf', WHERE WHAT IT READS IS OF BULK AT MOST 1048576: true; the input reads as it did. -/
def fnNeedsOfUptoRow : OpenClaim := { program := "ytjihfeffonadmaa", sum := "b59919faad9facfb1a7e54ac13ada3fa202182927fd138b44b98dbcf6faf325d", func := "loop.example/sharedinference/laws.FnNeedsOf", spec := "fnNeedsOf", unfollowed := true, recurses := true, apart := false, narrowed := true }
def FnNeedsOfUptoSaid : Prop := fnNeedsOfUptoRow.holds Try.pinned (OpenSpec.upto fnNeedsOfSpec)

/-- 'laws.FnExactNeedsOf', WHERE WHAT IT READS IS OF BULK AT MOST 1048576: true; the input reads as it did. -/
def fnExactNeedsOfUptoRow : OpenClaim := { program := "ytjihfeffonadmaa", sum := "b59919faad9facfb1a7e54ac13ada3fa202182927fd138b44b98dbcf6faf325d", func := "loop.example/sharedinference/laws.FnExactNeedsOf", spec := "fnExactNeedsOf", unfollowed := true, recurses := true, apart := false, narrowed := true }
def FnExactNeedsOfUptoSaid : Prop := fnExactNeedsOfUptoRow.holds Try.pinned (OpenSpec.upto fnExactNeedsOfSpec)

end Rows
end Go.Proofs.Ytjihfeffonadmaa
