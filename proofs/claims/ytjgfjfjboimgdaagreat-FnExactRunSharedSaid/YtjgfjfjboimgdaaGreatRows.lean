/-
  No cell of these rows narrows 'for every input' (looked for: loops, veiled, ifaces, maps, wideKeys, modest, calm, conditions, laid).
  DERIVED. THE GIVEN ROWS OF THIS SEAT. 6 by the template 'for every input the law returns true; each argument reads behind the call as it read before'; 0 by the template 'total and deterministic' (their statements: YtjgfjfjboimgdaaGreatTotals.lean).
  GIVEN WITH THE SEED: the statements are not yours to turn. If you find one false, say at which input.
  Laid BY PROGRAM, IN A SANDBOX (cutbox-rows.mjs): the forced cells as the released guide's own fill.sh prints them over the translation 8b26f281d44f7b65… (all of the seat's roots in one cut). By AI agents, Wed Nov 11 2026. No macro, syntax, notation, axiom, sorry.
-/
import Derived.Test.YtjgfjfjboimgdaaGreatChecked
import GoSem.Claim
import GoSem.ClaimJoined
import GoSem.ClaimMapViews
import Derived.JoinedTies
import Derived.KernelRfl
namespace Go.Proofs.YtjgfjfjboimgdaaGreat
/- THE CELL 'sum', in the pinned program and in every row, IS THE sha256 OF THE DUMP (.gsa) THAT YtjgfjfjboimgdaaGreatProg.lean LOADS. Nothing in Lean hashes anything: it is a label: what it is worth is what the hold of that sum in a sandbox is worth. -/
noncomputable def Tryz.pinned : Pinned := { name := "ytjgfjfjboimgdaagreat", sum := "8b26f281d44f7b6515be48a1afdb1e3c4c7d4cbb3f052c69e46e821c9c455b4a", checked := Tryz.checked }
namespace Rows
def none {H : Type} : Left H := { results := [], args := [] }

/-- 'laws.FnExactSharedMix': WHATEVER THE INPUT: true; the input reads as it did. -/
def fnExactSharedMixSpec : ChangeSpec := { name := "fnExactSharedMix", fn := fun _ => fun
  | [d1, d2, d3] => { results := [.lit (.bool true)], args := [d1, d2, d3] }
  | _ => none }
def fnExactSharedMixRow : OpenClaim := { program := "ytjgfjfjboimgdaagreat", sum := "8b26f281d44f7b6515be48a1afdb1e3c4c7d4cbb3f052c69e46e821c9c455b4a", func := "loop.example/sharedinference/laws.FnExactSharedMix", spec := "fnExactSharedMix", unfollowed := true, recurses := true, apart := false }
def FnExactSharedMixSaid : Prop := fnExactSharedMixRow.holds Tryz.pinned (OpenSpec.ofChange fnExactSharedMixSpec)

/-- ITS FALSE NEIGHBOUR: 'it returns false'. Refute it at one input. -/
def fnExactSharedMixWrong : ChangeSpec := { name := "fnExactSharedMix", fn := fun _ => fun
  | [d1, d2, d3] => { results := [.lit (.bool false)], args := [d1, d2, d3] }
  | _ => none }
def FnExactSharedMixWrongFalsely : Prop := fnExactSharedMixRow.holds Tryz.pinned (OpenSpec.ofChange fnExactSharedMixWrong)

/-- 'laws.FnSharedMix': WHATEVER THE INPUT: true; the input reads as it did. -/
def fnSharedMixSpec : ChangeSpec := { name := "fnSharedMix", fn := fun _ => fun
  | [d] => { results := [.lit (.bool true)], args := [d] }
  | _ => none }
def fnSharedMixRow : OpenClaim := { program := "ytjgfjfjboimgdaagreat", sum := "8b26f281d44f7b6515be48a1afdb1e3c4c7d4cbb3f052c69e46e821c9c455b4a", func := "loop.example/sharedinference/laws.FnSharedMix", spec := "fnSharedMix", unfollowed := true, recurses := true, apart := false }
def FnSharedMixSaid : Prop := fnSharedMixRow.holds Tryz.pinned (OpenSpec.ofChange fnSharedMixSpec)

/-- ITS FALSE NEIGHBOUR: 'it returns false'. Refute it at one input. -/
def fnSharedMixWrong : ChangeSpec := { name := "fnSharedMix", fn := fun _ => fun
  | [d] => { results := [.lit (.bool false)], args := [d] }
  | _ => none }
def FnSharedMixWrongFalsely : Prop := fnSharedMixRow.holds Tryz.pinned (OpenSpec.ofChange fnSharedMixWrong)

/-- 'laws.FnRunParts': WHATEVER THE INPUT: true; the input reads as it did. -/
def fnRunPartsSpec : ChangeSpec := { name := "fnRunParts", fn := fun _ => fun
  | [d] => { results := [.lit (.bool true)], args := [d] }
  | _ => none }
def fnRunPartsRow : OpenClaim := { program := "ytjgfjfjboimgdaagreat", sum := "8b26f281d44f7b6515be48a1afdb1e3c4c7d4cbb3f052c69e46e821c9c455b4a", func := "loop.example/sharedinference/laws.FnRunParts", spec := "fnRunParts", unfollowed := true, recurses := true, apart := false }
def FnRunPartsSaid : Prop := fnRunPartsRow.holds Tryz.pinned (OpenSpec.ofChange fnRunPartsSpec)

/-- ITS FALSE NEIGHBOUR: 'it returns false'. Refute it at one input. -/
def fnRunPartsWrong : ChangeSpec := { name := "fnRunParts", fn := fun _ => fun
  | [d] => { results := [.lit (.bool false)], args := [d] }
  | _ => none }
def FnRunPartsWrongFalsely : Prop := fnRunPartsRow.holds Tryz.pinned (OpenSpec.ofChange fnRunPartsWrong)

/-- 'laws.FnRunSeeds': WHATEVER THE INPUT: true; the input reads as it did. -/
def fnRunSeedsSpec : ChangeSpec := { name := "fnRunSeeds", fn := fun _ => fun
  | [d] => { results := [.lit (.bool true)], args := [d] }
  | _ => none }
def fnRunSeedsRow : OpenClaim := { program := "ytjgfjfjboimgdaagreat", sum := "8b26f281d44f7b6515be48a1afdb1e3c4c7d4cbb3f052c69e46e821c9c455b4a", func := "loop.example/sharedinference/laws.FnRunSeeds", spec := "fnRunSeeds", unfollowed := true, recurses := true, apart := false }
def FnRunSeedsSaid : Prop := fnRunSeedsRow.holds Tryz.pinned (OpenSpec.ofChange fnRunSeedsSpec)

/-- ITS FALSE NEIGHBOUR: 'it returns false'. Refute it at one input. -/
def fnRunSeedsWrong : ChangeSpec := { name := "fnRunSeeds", fn := fun _ => fun
  | [d] => { results := [.lit (.bool false)], args := [d] }
  | _ => none }
def FnRunSeedsWrongFalsely : Prop := fnRunSeedsRow.holds Tryz.pinned (OpenSpec.ofChange fnRunSeedsWrong)

/-- 'laws.FnExactRunShared': WHATEVER THE INPUT: true; the input reads as it did. -/
def fnExactRunSharedSpec : ChangeSpec := { name := "fnExactRunShared", fn := fun _ => fun
  | [d1, d2, d3] => { results := [.lit (.bool true)], args := [d1, d2, d3] }
  | _ => none }
def fnExactRunSharedRow : OpenClaim := { program := "ytjgfjfjboimgdaagreat", sum := "8b26f281d44f7b6515be48a1afdb1e3c4c7d4cbb3f052c69e46e821c9c455b4a", func := "loop.example/sharedinference/laws.FnExactRunShared", spec := "fnExactRunShared", unfollowed := true, recurses := true, apart := false }
def FnExactRunSharedSaid : Prop := fnExactRunSharedRow.holds Tryz.pinned (OpenSpec.ofChange fnExactRunSharedSpec)

/-- ITS FALSE NEIGHBOUR: 'it returns false'. Refute it at one input. -/
def fnExactRunSharedWrong : ChangeSpec := { name := "fnExactRunShared", fn := fun _ => fun
  | [d1, d2, d3] => { results := [.lit (.bool false)], args := [d1, d2, d3] }
  | _ => none }
def FnExactRunSharedWrongFalsely : Prop := fnExactRunSharedRow.holds Tryz.pinned (OpenSpec.ofChange fnExactRunSharedWrong)

/-- 'laws.FnRunShared': WHATEVER THE INPUT: true; the input reads as it did. -/
def fnRunSharedSpec : ChangeSpec := { name := "fnRunShared", fn := fun _ => fun
  | [d] => { results := [.lit (.bool true)], args := [d] }
  | _ => none }
def fnRunSharedRow : OpenClaim := { program := "ytjgfjfjboimgdaagreat", sum := "8b26f281d44f7b6515be48a1afdb1e3c4c7d4cbb3f052c69e46e821c9c455b4a", func := "loop.example/sharedinference/laws.FnRunShared", spec := "fnRunShared", unfollowed := true, recurses := true, apart := false }
def FnRunSharedSaid : Prop := fnRunSharedRow.holds Tryz.pinned (OpenSpec.ofChange fnRunSharedSpec)

/-- ITS FALSE NEIGHBOUR: 'it returns false'. Refute it at one input. -/
def fnRunSharedWrong : ChangeSpec := { name := "fnRunShared", fn := fun _ => fun
  | [d] => { results := [.lit (.bool false)], args := [d] }
  | _ => none }
def FnRunSharedWrongFalsely : Prop := fnRunSharedRow.holds Tryz.pinned (OpenSpec.ofChange fnRunSharedWrong)

/- THE SECOND FORM. 'bulk': how many values and letters a reading holds, each counted each time it is reached (what is shared counts as often as it is met; a slice's spare places count too). A statement '..UptoSaid' is the law's where the arguments, and the package variables that the reading takes, are together of bulk at most 1048576: NARROWER than '..Said'. Prove '..Said' where nothing that the law and all that it calls make is longer than what came in: it says more and counts as full. Else prove '..UptoSaid'. A law counts once. -/
mutual
def uptoBulk {H : Type} : DataW H → Nat
  | .lit (.string bytes) => bytes.length + 1
  | .lit _ => 1
  | .nil => 1
  | .ptr d => uptoBulk d + 1
  | .slice elems spare => uptoBulkAll elems + uptoBulkAll spare + 1
  | .agg parts => uptoBulkAll parts + 1
  | .iface _ d => uptoBulk d + 1
  | .map entries => uptoBulkEntries entries + 1
  | .held _ => 1
def uptoBulkAll {H : Type} : List (DataW H) → Nat
  | [] => 0
  | d :: r => uptoBulk d + uptoBulkAll r
def uptoBulkEntries {H : Type} : List (Lit × DataW H) → Nat
  | [] => 0
  | x :: r => uptoBulkEntry x + uptoBulkEntries r
def uptoBulkEntry {H : Type} : Lit × DataW H → Nat
  | (.string bytes, d) => bytes.length + uptoBulk d + 1
  | (_, d) => uptoBulk d + 1
 end
def uptoSmall : (H : Type) → List (DataW H) → Bool := fun _ ds => decide (uptoBulkAll ds ≤ 1048576)
def OpenSpec.upto (s : _root_.Go.ChangeSpec) : _root_.Go.OpenSpec := { _root_.Go.OpenSpec.ofChange s with cond := some uptoSmall }

/-- 'laws.FnExactSharedMix', WHERE WHAT IT READS IS OF BULK AT MOST 1048576: true; the input reads as it did. -/
def fnExactSharedMixUptoRow : OpenClaim := { program := "ytjgfjfjboimgdaagreat", sum := "8b26f281d44f7b6515be48a1afdb1e3c4c7d4cbb3f052c69e46e821c9c455b4a", func := "loop.example/sharedinference/laws.FnExactSharedMix", spec := "fnExactSharedMix", unfollowed := true, recurses := true, apart := false, narrowed := true }
def FnExactSharedMixUptoSaid : Prop := fnExactSharedMixUptoRow.holds Tryz.pinned (OpenSpec.upto fnExactSharedMixSpec)

/-- 'laws.FnSharedMix', WHERE WHAT IT READS IS OF BULK AT MOST 1048576: true; the input reads as it did. -/
def fnSharedMixUptoRow : OpenClaim := { program := "ytjgfjfjboimgdaagreat", sum := "8b26f281d44f7b6515be48a1afdb1e3c4c7d4cbb3f052c69e46e821c9c455b4a", func := "loop.example/sharedinference/laws.FnSharedMix", spec := "fnSharedMix", unfollowed := true, recurses := true, apart := false, narrowed := true }
def FnSharedMixUptoSaid : Prop := fnSharedMixUptoRow.holds Tryz.pinned (OpenSpec.upto fnSharedMixSpec)

/-- 'laws.FnRunParts', WHERE WHAT IT READS IS OF BULK AT MOST 1048576: true; the input reads as it did. -/
def fnRunPartsUptoRow : OpenClaim := { program := "ytjgfjfjboimgdaagreat", sum := "8b26f281d44f7b6515be48a1afdb1e3c4c7d4cbb3f052c69e46e821c9c455b4a", func := "loop.example/sharedinference/laws.FnRunParts", spec := "fnRunParts", unfollowed := true, recurses := true, apart := false, narrowed := true }
def FnRunPartsUptoSaid : Prop := fnRunPartsUptoRow.holds Tryz.pinned (OpenSpec.upto fnRunPartsSpec)

/-- 'laws.FnRunSeeds', WHERE WHAT IT READS IS OF BULK AT MOST 1048576: true; the input reads as it did. -/
def fnRunSeedsUptoRow : OpenClaim := { program := "ytjgfjfjboimgdaagreat", sum := "8b26f281d44f7b6515be48a1afdb1e3c4c7d4cbb3f052c69e46e821c9c455b4a", func := "loop.example/sharedinference/laws.FnRunSeeds", spec := "fnRunSeeds", unfollowed := true, recurses := true, apart := false, narrowed := true }
def FnRunSeedsUptoSaid : Prop := fnRunSeedsUptoRow.holds Tryz.pinned (OpenSpec.upto fnRunSeedsSpec)

/-- 'laws.FnExactRunShared', WHERE WHAT IT READS IS OF BULK AT MOST 1048576: true; the input reads as it did. -/
def fnExactRunSharedUptoRow : OpenClaim := { program := "ytjgfjfjboimgdaagreat", sum := "8b26f281d44f7b6515be48a1afdb1e3c4c7d4cbb3f052c69e46e821c9c455b4a", func := "loop.example/sharedinference/laws.FnExactRunShared", spec := "fnExactRunShared", unfollowed := true, recurses := true, apart := false, narrowed := true }
def FnExactRunSharedUptoSaid : Prop := fnExactRunSharedUptoRow.holds Tryz.pinned (OpenSpec.upto fnExactRunSharedSpec)

/-- 'laws.FnRunShared', WHERE WHAT IT READS IS OF BULK AT MOST 1048576: true; the input reads as it did. -/
def fnRunSharedUptoRow : OpenClaim := { program := "ytjgfjfjboimgdaagreat", sum := "8b26f281d44f7b6515be48a1afdb1e3c4c7d4cbb3f052c69e46e821c9c455b4a", func := "loop.example/sharedinference/laws.FnRunShared", spec := "fnRunShared", unfollowed := true, recurses := true, apart := false, narrowed := true }
def FnRunSharedUptoSaid : Prop := fnRunSharedUptoRow.holds Tryz.pinned (OpenSpec.upto fnRunSharedSpec)

end Rows
end Go.Proofs.YtjgfjfjboimgdaaGreat
