/-
  No cell of these rows narrows 'for every input' (looked for: loops, veiled, ifaces, maps, wideKeys, modest, calm, conditions, laid).
  DERIVED. THE GIVEN ROWS OF THIS SEAT. 4 by the template 'for every input the law returns true; each argument reads behind the call as it read before'; 0 by the template 'total and deterministic' (their statements: YtpndkgiglgamaaaTotals.lean).
  GIVEN WITH THE SEED: the statements are not yours to turn. If you find one false, say at which input.
  Laid BY PROGRAM, IN A SANDBOX (cutbox-rows.mjs): the forced cells as the released guide's own fill.sh prints them over the translation 154487e66c485b46… (all of the seat's roots in one cut). By AI agents, Wed Nov 11 2026. No macro, syntax, notation, axiom, sorry.
-/
import Derived.Test.YtpndkgiglgamaaaChecked
import GoSem.Claim
import GoSem.ClaimJoined
import GoSem.ClaimMapViews
import Derived.JoinedTies
import Derived.KernelRfl
namespace Go.Proofs.Ytpndkgiglgamaaa
/- THE CELL 'sum', in the pinned program and in every row, IS THE sha256 OF THE DUMP (.gsa) THAT YtpndkgiglgamaaaProg.lean LOADS. Nothing in Lean hashes anything: it is a label: what it is worth is what the hold of that sum in a sandbox is worth. -/
noncomputable def Try.pinned : Pinned := { name := "ytpndkgiglgamaaa", sum := "154487e66c485b46cfac5786b0361296341c7c6114980caae22dc0a878d236e4", checked := Try.checked }
namespace Rows
def none {H : Type} : Left H := { results := [], args := [] }

/-- 'laws.FnExactAddNeeds': WHATEVER THE INPUT: true; the input reads as it did. -/
def fnExactAddNeedsSpec : ChangeSpec := { name := "fnExactAddNeeds", fn := fun _ => fun
  | [d1, d2] => { results := [.lit (.bool true)], args := [d1, d2] }
  | _ => none }
def fnExactAddNeedsRow : OpenClaim := { program := "ytpndkgiglgamaaa", sum := "154487e66c485b46cfac5786b0361296341c7c6114980caae22dc0a878d236e4", func := "loop.example/sharedinference/laws.FnExactAddNeeds", spec := "fnExactAddNeeds", apart := false }
def FnExactAddNeedsSaid : Prop := fnExactAddNeedsRow.holds Try.pinned (OpenSpec.ofChange fnExactAddNeedsSpec)

/-- ITS FALSE NEIGHBOUR: 'it returns false'. Refute it at one input. -/
def fnExactAddNeedsWrong : ChangeSpec := { name := "fnExactAddNeeds", fn := fun _ => fun
  | [d1, d2] => { results := [.lit (.bool false)], args := [d1, d2] }
  | _ => none }
def FnExactAddNeedsWrongFalsely : Prop := fnExactAddNeedsRow.holds Try.pinned (OpenSpec.ofChange fnExactAddNeedsWrong)

/-- 'laws.FnExactFairViews': WHATEVER THE INPUT: true; the input reads as it did. -/
def fnExactFairViewsSpec : ChangeSpec := { name := "fnExactFairViews", fn := fun _ => fun
  | [d] => { results := [.lit (.bool true)], args := [d] }
  | _ => none }
def fnExactFairViewsRow : OpenClaim := { program := "ytpndkgiglgamaaa", sum := "154487e66c485b46cfac5786b0361296341c7c6114980caae22dc0a878d236e4", func := "loop.example/sharedinference/laws.FnExactFairViews", spec := "fnExactFairViews", apart := false }
def FnExactFairViewsSaid : Prop := fnExactFairViewsRow.holds Try.pinned (OpenSpec.ofChange fnExactFairViewsSpec)

/-- ITS FALSE NEIGHBOUR: 'it returns false'. Refute it at one input. -/
def fnExactFairViewsWrong : ChangeSpec := { name := "fnExactFairViews", fn := fun _ => fun
  | [d] => { results := [.lit (.bool false)], args := [d] }
  | _ => none }
def FnExactFairViewsWrongFalsely : Prop := fnExactFairViewsRow.holds Try.pinned (OpenSpec.ofChange fnExactFairViewsWrong)

/-- 'laws.FnExactAddChecked': WHATEVER THE INPUT: true; the input reads as it did. -/
def fnExactAddCheckedSpec : ChangeSpec := { name := "fnExactAddChecked", fn := fun _ => fun
  | [d1, d2] => { results := [.lit (.bool true)], args := [d1, d2] }
  | _ => none }
def fnExactAddCheckedRow : OpenClaim := { program := "ytpndkgiglgamaaa", sum := "154487e66c485b46cfac5786b0361296341c7c6114980caae22dc0a878d236e4", func := "loop.example/sharedinference/laws.FnExactAddChecked", spec := "fnExactAddChecked", unfollowed := true, recurses := true, apart := false }
def FnExactAddCheckedSaid : Prop := fnExactAddCheckedRow.holds Try.pinned (OpenSpec.ofChange fnExactAddCheckedSpec)

/-- ITS FALSE NEIGHBOUR: 'it returns false'. Refute it at one input. -/
def fnExactAddCheckedWrong : ChangeSpec := { name := "fnExactAddChecked", fn := fun _ => fun
  | [d1, d2] => { results := [.lit (.bool false)], args := [d1, d2] }
  | _ => none }
def FnExactAddCheckedWrongFalsely : Prop := fnExactAddCheckedRow.holds Try.pinned (OpenSpec.ofChange fnExactAddCheckedWrong)

/-- 'laws.FnExactTimesChecked': WHATEVER THE INPUT: true; the input reads as it did. -/
def fnExactTimesCheckedSpec : ChangeSpec := { name := "fnExactTimesChecked", fn := fun _ => fun
  | [d1, d2] => { results := [.lit (.bool true)], args := [d1, d2] }
  | _ => none }
def fnExactTimesCheckedRow : OpenClaim := { program := "ytpndkgiglgamaaa", sum := "154487e66c485b46cfac5786b0361296341c7c6114980caae22dc0a878d236e4", func := "loop.example/sharedinference/laws.FnExactTimesChecked", spec := "fnExactTimesChecked", unfollowed := true, recurses := true, apart := false }
def FnExactTimesCheckedSaid : Prop := fnExactTimesCheckedRow.holds Try.pinned (OpenSpec.ofChange fnExactTimesCheckedSpec)

/-- ITS FALSE NEIGHBOUR: 'it returns false'. Refute it at one input. -/
def fnExactTimesCheckedWrong : ChangeSpec := { name := "fnExactTimesChecked", fn := fun _ => fun
  | [d1, d2] => { results := [.lit (.bool false)], args := [d1, d2] }
  | _ => none }
def FnExactTimesCheckedWrongFalsely : Prop := fnExactTimesCheckedRow.holds Try.pinned (OpenSpec.ofChange fnExactTimesCheckedWrong)

/- THE SECOND FORM. 'bulk': how many values and letters a reading holds, each counted each time it is reached (what is shared counts as often as it is met; a slice's spare places count too). A statement '..UptoSaid' is the law's where the arguments, and the package variables that the reading takes, are together of bulk at most 1048576: NARROWER than '..Said'. Prove '..Said' where nothing that the law and all that it calls make is longer than what came in: it says more and counts as full. Else prove '..UptoSaid'. A law counts once. -/
mutual
def uptoBulk {H : Type} : DataW H → Nat
  | .lit (.string bytes) => bytes.length + 1
  | .lit _ => 1
  | .nil => 1
  | .ptr d => uptoBulk d + 1
  | .slice elems spare => uptoBulkAll elems + uptoBulkAll spare + 1
  | .agg parts => uptoBulkAll parts + 1
  | .iface _ d => uptoBulk d + 1
  | .map entries => uptoBulkEntries entries + 1
  | .held _ => 1
def uptoBulkAll {H : Type} : List (DataW H) → Nat
  | [] => 0
  | d :: r => uptoBulk d + uptoBulkAll r
def uptoBulkEntries {H : Type} : List (Lit × DataW H) → Nat
  | [] => 0
  | x :: r => uptoBulkEntry x + uptoBulkEntries r
def uptoBulkEntry {H : Type} : Lit × DataW H → Nat
  | (.string bytes, d) => bytes.length + uptoBulk d + 1
  | (_, d) => uptoBulk d + 1
 end
def uptoSmall : (H : Type) → List (DataW H) → Bool := fun _ ds => decide (uptoBulkAll ds ≤ 1048576)
def OpenSpec.upto (s : _root_.Go.ChangeSpec) : _root_.Go.OpenSpec := { _root_.Go.OpenSpec.ofChange s with cond := some uptoSmall }

/-- 'laws.FnExactAddNeeds', WHERE WHAT IT READS IS OF BULK AT MOST 1048576: true; the input reads as it did. -/
def fnExactAddNeedsUptoRow : OpenClaim := { program := "ytpndkgiglgamaaa", sum := "154487e66c485b46cfac5786b0361296341c7c6114980caae22dc0a878d236e4", func := "loop.example/sharedinference/laws.FnExactAddNeeds", spec := "fnExactAddNeeds", apart := false, narrowed := true }
def FnExactAddNeedsUptoSaid : Prop := fnExactAddNeedsUptoRow.holds Try.pinned (OpenSpec.upto fnExactAddNeedsSpec)

/-- 'laws.FnExactFairViews', WHERE WHAT IT READS IS OF BULK AT MOST 1048576: true; the input reads as it did. -/
def fnExactFairViewsUptoRow : OpenClaim := { program := "ytpndkgiglgamaaa", sum := "154487e66c485b46cfac5786b0361296341c7c6114980caae22dc0a878d236e4", func := "loop.example/sharedinference/laws.FnExactFairViews", spec := "fnExactFairViews", apart := false, narrowed := true }
def FnExactFairViewsUptoSaid : Prop := fnExactFairViewsUptoRow.holds Try.pinned (OpenSpec.upto fnExactFairViewsSpec)

/-- 'laws.FnExactAddChecked', WHERE WHAT IT READS IS OF BULK AT MOST 1048576: true; the input reads as it did. -/
def fnExactAddCheckedUptoRow : OpenClaim := { program := "ytpndkgiglgamaaa", sum := "154487e66c485b46cfac5786b0361296341c7c6114980caae22dc0a878d236e4", func := "loop.example/sharedinference/laws.FnExactAddChecked", spec := "fnExactAddChecked", unfollowed := true, recurses := true, apart := false, narrowed := true }
def FnExactAddCheckedUptoSaid : Prop := fnExactAddCheckedUptoRow.holds Try.pinned (OpenSpec.upto fnExactAddCheckedSpec)

/-- 'laws.FnExactTimesChecked', WHERE WHAT IT READS IS OF BULK AT MOST 1048576: true; the input reads as it did. -/
def fnExactTimesCheckedUptoRow : OpenClaim := { program := "ytpndkgiglgamaaa", sum := "154487e66c485b46cfac5786b0361296341c7c6114980caae22dc0a878d236e4", func := "loop.example/sharedinference/laws.FnExactTimesChecked", spec := "fnExactTimesChecked", unfollowed := true, recurses := true, apart := false, narrowed := true }
def FnExactTimesCheckedUptoSaid : Prop := fnExactTimesCheckedUptoRow.holds Try.pinned (OpenSpec.upto fnExactTimesCheckedSpec)

end Rows
end Go.Proofs.Ytpndkgiglgamaaa
