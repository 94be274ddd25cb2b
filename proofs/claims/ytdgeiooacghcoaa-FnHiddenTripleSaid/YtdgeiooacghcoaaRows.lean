/-
  No cell of these rows narrows 'for every input' (looked for: loops, veiled, ifaces, maps, wideKeys, modest, calm, conditions, laid).
  DERIVED. THE GIVEN ROWS OF THIS SEAT. 15 by the template 'for every input the law returns true; each argument reads behind the call as it read before'; 0 by the template 'total and deterministic' (their statements: YtdgeiooacghcoaaTotals.lean).
  GIVEN WITH THE SEED: the statements are not yours to turn. If you find one false, say at which input.
  Laid BY PROGRAM, IN A SANDBOX (cutbox-rows.mjs): the forced cells as the released guide's own fill.sh prints them over the translation 7dc5a8714416c31a… (all of the seat's roots in one cut). By AI agents, Wed Nov 11 2026. No macro, syntax, notation, axiom, sorry.
-/
import Derived.Test.YtdgeiooacghcoaaChecked
import GoSem.Claim
import GoSem.ClaimJoined
import GoSem.ClaimMapViews
import Derived.JoinedTies
import Derived.KernelRfl
namespace Go.Proofs.Ytdgeiooacghcoaa
/- THE CELL 'sum', in the pinned program and in every row, IS THE sha256 OF THE DUMP (.gsa) THAT YtdgeiooacghcoaaProg.lean LOADS. Nothing in Lean hashes anything: it is a label: what it is worth is what the hold of that sum in a sandbox is worth. -/
noncomputable def Try.pinned : Pinned := { name := "ytdgeiooacghcoaa", sum := "7dc5a8714416c31ad55f2d819b9174b96b4e13ad5284b7d152df64fa396d18da", checked := Try.checked }
namespace Rows
def none {H : Type} : Left H := { results := [], args := [] }

/-- 'laws.FnFairViews': WHATEVER THE INPUT: true; the input reads as it did. -/
def fnFairViewsSpec : ChangeSpec := { name := "fnFairViews", fn := fun _ => fun
  | [d] => { results := [.lit (.bool true)], args := [d] }
  | _ => none }
def fnFairViewsRow : OpenClaim := { program := "ytdgeiooacghcoaa", sum := "7dc5a8714416c31ad55f2d819b9174b96b4e13ad5284b7d152df64fa396d18da", func := "loop.example/sharedinference/laws.FnFairViews", spec := "fnFairViews", apart := false }
def FnFairViewsSaid : Prop := fnFairViewsRow.holds Try.pinned (OpenSpec.ofChange fnFairViewsSpec)

/-- ITS FALSE NEIGHBOUR: 'it returns false'. Refute it at one input. -/
def fnFairViewsWrong : ChangeSpec := { name := "fnFairViews", fn := fun _ => fun
  | [d] => { results := [.lit (.bool false)], args := [d] }
  | _ => none }
def FnFairViewsWrongFalsely : Prop := fnFairViewsRow.holds Try.pinned (OpenSpec.ofChange fnFairViewsWrong)

/-- 'laws.FnMessagesValid': WHATEVER THE INPUT: true; the input reads as it did. -/
def fnMessagesValidSpec : ChangeSpec := { name := "fnMessagesValid", fn := fun _ => fun
  | [d] => { results := [.lit (.bool true)], args := [d] }
  | _ => none }
def fnMessagesValidRow : OpenClaim := { program := "ytdgeiooacghcoaa", sum := "7dc5a8714416c31ad55f2d819b9174b96b4e13ad5284b7d152df64fa396d18da", func := "loop.example/sharedinference/laws.FnMessagesValid", spec := "fnMessagesValid", apart := false }
def FnMessagesValidSaid : Prop := fnMessagesValidRow.holds Try.pinned (OpenSpec.ofChange fnMessagesValidSpec)

/-- ITS FALSE NEIGHBOUR: 'it returns false'. Refute it at one input. -/
def fnMessagesValidWrong : ChangeSpec := { name := "fnMessagesValid", fn := fun _ => fun
  | [d] => { results := [.lit (.bool false)], args := [d] }
  | _ => none }
def FnMessagesValidWrongFalsely : Prop := fnMessagesValidRow.holds Try.pinned (OpenSpec.ofChange fnMessagesValidWrong)

/-- 'laws.FnExactOpenMessages': WHATEVER THE INPUT: true; the input reads as it did. -/
def fnExactOpenMessagesSpec : ChangeSpec := { name := "fnExactOpenMessages", fn := fun _ => fun
  | [d1, d2] => { results := [.lit (.bool true)], args := [d1, d2] }
  | _ => none }
def fnExactOpenMessagesRow : OpenClaim := { program := "ytdgeiooacghcoaa", sum := "7dc5a8714416c31ad55f2d819b9174b96b4e13ad5284b7d152df64fa396d18da", func := "loop.example/sharedinference/laws.FnExactOpenMessages", spec := "fnExactOpenMessages", apart := false }
def FnExactOpenMessagesSaid : Prop := fnExactOpenMessagesRow.holds Try.pinned (OpenSpec.ofChange fnExactOpenMessagesSpec)

/-- ITS FALSE NEIGHBOUR: 'it returns false'. Refute it at one input. -/
def fnExactOpenMessagesWrong : ChangeSpec := { name := "fnExactOpenMessages", fn := fun _ => fun
  | [d1, d2] => { results := [.lit (.bool false)], args := [d1, d2] }
  | _ => none }
def FnExactOpenMessagesWrongFalsely : Prop := fnExactOpenMessagesRow.holds Try.pinned (OpenSpec.ofChange fnExactOpenMessagesWrong)

/-- 'laws.FnCheckNumber': WHATEVER THE INPUT: true; the input reads as it did. -/
def fnCheckNumberSpec : ChangeSpec := { name := "fnCheckNumber", fn := fun _ => fun
  | [d] => { results := [.lit (.bool true)], args := [d] }
  | _ => none }
def fnCheckNumberRow : OpenClaim := { program := "ytdgeiooacghcoaa", sum := "7dc5a8714416c31ad55f2d819b9174b96b4e13ad5284b7d152df64fa396d18da", func := "loop.example/sharedinference/laws.FnCheckNumber", spec := "fnCheckNumber", unfollowed := true, recurses := true, apart := false }
def FnCheckNumberSaid : Prop := fnCheckNumberRow.holds Try.pinned (OpenSpec.ofChange fnCheckNumberSpec)

/-- ITS FALSE NEIGHBOUR: 'it returns false'. Refute it at one input. -/
def fnCheckNumberWrong : ChangeSpec := { name := "fnCheckNumber", fn := fun _ => fun
  | [d] => { results := [.lit (.bool false)], args := [d] }
  | _ => none }
def FnCheckNumberWrongFalsely : Prop := fnCheckNumberRow.holds Try.pinned (OpenSpec.ofChange fnCheckNumberWrong)

/-- 'laws.FnExactHiddenTriple': WHATEVER THE INPUT: true; the input reads as it did. -/
def fnExactHiddenTripleSpec : ChangeSpec := { name := "fnExactHiddenTriple", fn := fun _ => fun
  | [d1, d2, d3, d4, d5] => { results := [.lit (.bool true)], args := [d1, d2, d3, d4, d5] }
  | _ => none }
def fnExactHiddenTripleRow : OpenClaim := { program := "ytdgeiooacghcoaa", sum := "7dc5a8714416c31ad55f2d819b9174b96b4e13ad5284b7d152df64fa396d18da", func := "loop.example/sharedinference/laws.FnExactHiddenTriple", spec := "fnExactHiddenTriple", apart := false }
def FnExactHiddenTripleSaid : Prop := fnExactHiddenTripleRow.holds Try.pinned (OpenSpec.ofChange fnExactHiddenTripleSpec)

/-- ITS FALSE NEIGHBOUR: 'it returns false'. Refute it at one input. -/
def fnExactHiddenTripleWrong : ChangeSpec := { name := "fnExactHiddenTriple", fn := fun _ => fun
  | [d1, d2, d3, d4, d5] => { results := [.lit (.bool false)], args := [d1, d2, d3, d4, d5] }
  | _ => none }
def FnExactHiddenTripleWrongFalsely : Prop := fnExactHiddenTripleRow.holds Try.pinned (OpenSpec.ofChange fnExactHiddenTripleWrong)

/-- 'laws.FnAddChecked': WHATEVER THE INPUT: true; the input reads as it did. -/
def fnAddCheckedSpec : ChangeSpec := { name := "fnAddChecked", fn := fun _ => fun
  | [d] => { results := [.lit (.bool true)], args := [d] }
  | _ => none }
def fnAddCheckedRow : OpenClaim := { program := "ytdgeiooacghcoaa", sum := "7dc5a8714416c31ad55f2d819b9174b96b4e13ad5284b7d152df64fa396d18da", func := "loop.example/sharedinference/laws.FnAddChecked", spec := "fnAddChecked", unfollowed := true, recurses := true, apart := false }
def FnAddCheckedSaid : Prop := fnAddCheckedRow.holds Try.pinned (OpenSpec.ofChange fnAddCheckedSpec)

/-- ITS FALSE NEIGHBOUR: 'it returns false'. Refute it at one input. -/
def fnAddCheckedWrong : ChangeSpec := { name := "fnAddChecked", fn := fun _ => fun
  | [d] => { results := [.lit (.bool false)], args := [d] }
  | _ => none }
def FnAddCheckedWrongFalsely : Prop := fnAddCheckedRow.holds Try.pinned (OpenSpec.ofChange fnAddCheckedWrong)

/-- 'laws.FnTimesChecked': WHATEVER THE INPUT: true; the input reads as it did. -/
def fnTimesCheckedSpec : ChangeSpec := { name := "fnTimesChecked", fn := fun _ => fun
  | [d] => { results := [.lit (.bool true)], args := [d] }
  | _ => none }
def fnTimesCheckedRow : OpenClaim := { program := "ytdgeiooacghcoaa", sum := "7dc5a8714416c31ad55f2d819b9174b96b4e13ad5284b7d152df64fa396d18da", func := "loop.example/sharedinference/laws.FnTimesChecked", spec := "fnTimesChecked", unfollowed := true, recurses := true, apart := false }
def FnTimesCheckedSaid : Prop := fnTimesCheckedRow.holds Try.pinned (OpenSpec.ofChange fnTimesCheckedSpec)

/-- ITS FALSE NEIGHBOUR: 'it returns false'. Refute it at one input. -/
def fnTimesCheckedWrong : ChangeSpec := { name := "fnTimesChecked", fn := fun _ => fun
  | [d] => { results := [.lit (.bool false)], args := [d] }
  | _ => none }
def FnTimesCheckedWrongFalsely : Prop := fnTimesCheckedRow.holds Try.pinned (OpenSpec.ofChange fnTimesCheckedWrong)

/-- 'laws.FnCheckedTimes': WHATEVER THE INPUT: true; the input reads as it did. -/
def fnCheckedTimesSpec : ChangeSpec := { name := "fnCheckedTimes", fn := fun _ => fun
  | [d] => { results := [.lit (.bool true)], args := [d] }
  | _ => none }
def fnCheckedTimesRow : OpenClaim := { program := "ytdgeiooacghcoaa", sum := "7dc5a8714416c31ad55f2d819b9174b96b4e13ad5284b7d152df64fa396d18da", func := "loop.example/sharedinference/laws.FnCheckedTimes", spec := "fnCheckedTimes", unfollowed := true, recurses := true, apart := false }
def FnCheckedTimesSaid : Prop := fnCheckedTimesRow.holds Try.pinned (OpenSpec.ofChange fnCheckedTimesSpec)

/-- ITS FALSE NEIGHBOUR: 'it returns false'. Refute it at one input. -/
def fnCheckedTimesWrong : ChangeSpec := { name := "fnCheckedTimes", fn := fun _ => fun
  | [d] => { results := [.lit (.bool false)], args := [d] }
  | _ => none }
def FnCheckedTimesWrongFalsely : Prop := fnCheckedTimesRow.holds Try.pinned (OpenSpec.ofChange fnCheckedTimesWrong)

/-- 'laws.FnOpenChecked': WHATEVER THE INPUT: true; the input reads as it did. -/
def fnOpenCheckedSpec : ChangeSpec := { name := "fnOpenChecked", fn := fun _ => fun
  | [d] => { results := [.lit (.bool true)], args := [d] }
  | _ => none }
def fnOpenCheckedRow : OpenClaim := { program := "ytdgeiooacghcoaa", sum := "7dc5a8714416c31ad55f2d819b9174b96b4e13ad5284b7d152df64fa396d18da", func := "loop.example/sharedinference/laws.FnOpenChecked", spec := "fnOpenChecked", unfollowed := true, recurses := true, apart := false }
def FnOpenCheckedSaid : Prop := fnOpenCheckedRow.holds Try.pinned (OpenSpec.ofChange fnOpenCheckedSpec)

/-- ITS FALSE NEIGHBOUR: 'it returns false'. Refute it at one input. -/
def fnOpenCheckedWrong : ChangeSpec := { name := "fnOpenChecked", fn := fun _ => fun
  | [d] => { results := [.lit (.bool false)], args := [d] }
  | _ => none }
def FnOpenCheckedWrongFalsely : Prop := fnOpenCheckedRow.holds Try.pinned (OpenSpec.ofChange fnOpenCheckedWrong)

/-- 'laws.FnHiddenTriple': WHATEVER THE INPUT: true; the input reads as it did. -/
def fnHiddenTripleSpec : ChangeSpec := { name := "fnHiddenTriple", fn := fun _ => fun
  | [d] => { results := [.lit (.bool true)], args := [d] }
  | _ => none }
def fnHiddenTripleRow : OpenClaim := { program := "ytdgeiooacghcoaa", sum := "7dc5a8714416c31ad55f2d819b9174b96b4e13ad5284b7d152df64fa396d18da", func := "loop.example/sharedinference/laws.FnHiddenTriple", spec := "fnHiddenTriple", apart := false }
def FnHiddenTripleSaid : Prop := fnHiddenTripleRow.holds Try.pinned (OpenSpec.ofChange fnHiddenTripleSpec)

/-- ITS FALSE NEIGHBOUR: 'it returns false'. Refute it at one input. -/
def fnHiddenTripleWrong : ChangeSpec := { name := "fnHiddenTriple", fn := fun _ => fun
  | [d] => { results := [.lit (.bool false)], args := [d] }
  | _ => none }
def FnHiddenTripleWrongFalsely : Prop := fnHiddenTripleRow.holds Try.pinned (OpenSpec.ofChange fnHiddenTripleWrong)

/-- 'laws.FnFirstWrong': WHATEVER THE INPUT: true; the input reads as it did. -/
def fnFirstWrongSpec : ChangeSpec := { name := "fnFirstWrong", fn := fun _ => fun
  | [d] => { results := [.lit (.bool true)], args := [d] }
  | _ => none }
def fnFirstWrongRow : OpenClaim := { program := "ytdgeiooacghcoaa", sum := "7dc5a8714416c31ad55f2d819b9174b96b4e13ad5284b7d152df64fa396d18da", func := "loop.example/sharedinference/laws.FnFirstWrong", spec := "fnFirstWrong", apart := false }
def FnFirstWrongSaid : Prop := fnFirstWrongRow.holds Try.pinned (OpenSpec.ofChange fnFirstWrongSpec)

/-- ITS FALSE NEIGHBOUR: 'it returns false'. Refute it at one input. -/
def fnFirstWrongWrong : ChangeSpec := { name := "fnFirstWrong", fn := fun _ => fun
  | [d] => { results := [.lit (.bool false)], args := [d] }
  | _ => none }
def FnFirstWrongWrongFalsely : Prop := fnFirstWrongRow.holds Try.pinned (OpenSpec.ofChange fnFirstWrongWrong)

/-- 'laws.FnExactBatchSum': WHATEVER THE INPUT: true; the input reads as it did. -/
def fnExactBatchSumSpec : ChangeSpec := { name := "fnExactBatchSum", fn := fun _ => fun
  | [d1, d2] => { results := [.lit (.bool true)], args := [d1, d2] }
  | _ => none }
def fnExactBatchSumRow : OpenClaim := { program := "ytdgeiooacghcoaa", sum := "7dc5a8714416c31ad55f2d819b9174b96b4e13ad5284b7d152df64fa396d18da", func := "loop.example/sharedinference/laws.FnExactBatchSum", spec := "fnExactBatchSum", unfollowed := true, recurses := true, apart := false }
def FnExactBatchSumSaid : Prop := fnExactBatchSumRow.holds Try.pinned (OpenSpec.ofChange fnExactBatchSumSpec)

/-- ITS FALSE NEIGHBOUR: 'it returns false'. Refute it at one input. -/
def fnExactBatchSumWrong : ChangeSpec := { name := "fnExactBatchSum", fn := fun _ => fun
  | [d1, d2] => { results := [.lit (.bool false)], args := [d1, d2] }
  | _ => none }
def FnExactBatchSumWrongFalsely : Prop := fnExactBatchSumRow.holds Try.pinned (OpenSpec.ofChange fnExactBatchSumWrong)

/-- 'laws.FnBatchSum': WHATEVER THE INPUT: true; the input reads as it did. -/
def fnBatchSumSpec : ChangeSpec := { name := "fnBatchSum", fn := fun _ => fun
  | [d] => { results := [.lit (.bool true)], args := [d] }
  | _ => none }
def fnBatchSumRow : OpenClaim := { program := "ytdgeiooacghcoaa", sum := "7dc5a8714416c31ad55f2d819b9174b96b4e13ad5284b7d152df64fa396d18da", func := "loop.example/sharedinference/laws.FnBatchSum", spec := "fnBatchSum", unfollowed := true, recurses := true, apart := false }
def FnBatchSumSaid : Prop := fnBatchSumRow.holds Try.pinned (OpenSpec.ofChange fnBatchSumSpec)

/-- ITS FALSE NEIGHBOUR: 'it returns false'. Refute it at one input. -/
def fnBatchSumWrong : ChangeSpec := { name := "fnBatchSum", fn := fun _ => fun
  | [d] => { results := [.lit (.bool false)], args := [d] }
  | _ => none }
def FnBatchSumWrongFalsely : Prop := fnBatchSumRow.holds Try.pinned (OpenSpec.ofChange fnBatchSumWrong)

/-- 'laws.FnExactBatchRight': WHATEVER THE INPUT: true; the input reads as it did. -/
def fnExactBatchRightSpec : ChangeSpec := { name := "fnExactBatchRight", fn := fun _ => fun
  | [d1, d2, d3] => { results := [.lit (.bool true)], args := [d1, d2, d3] }
  | _ => none }
def fnExactBatchRightRow : OpenClaim := { program := "ytdgeiooacghcoaa", sum := "7dc5a8714416c31ad55f2d819b9174b96b4e13ad5284b7d152df64fa396d18da", func := "loop.example/sharedinference/laws.FnExactBatchRight", spec := "fnExactBatchRight", unfollowed := true, recurses := true, apart := false }
def FnExactBatchRightSaid : Prop := fnExactBatchRightRow.holds Try.pinned (OpenSpec.ofChange fnExactBatchRightSpec)

/-- ITS FALSE NEIGHBOUR: 'it returns false'. Refute it at one input. -/
def fnExactBatchRightWrong : ChangeSpec := { name := "fnExactBatchRight", fn := fun _ => fun
  | [d1, d2, d3] => { results := [.lit (.bool false)], args := [d1, d2, d3] }
  | _ => none }
def FnExactBatchRightWrongFalsely : Prop := fnExactBatchRightRow.holds Try.pinned (OpenSpec.ofChange fnExactBatchRightWrong)

/-- 'laws.FnBatchRight': WHATEVER THE INPUT: true; the input reads as it did. -/
def fnBatchRightSpec : ChangeSpec := { name := "fnBatchRight", fn := fun _ => fun
  | [d] => { results := [.lit (.bool true)], args := [d] }
  | _ => none }
def fnBatchRightRow : OpenClaim := { program := "ytdgeiooacghcoaa", sum := "7dc5a8714416c31ad55f2d819b9174b96b4e13ad5284b7d152df64fa396d18da", func := "loop.example/sharedinference/laws.FnBatchRight", spec := "fnBatchRight", unfollowed := true, recurses := true, apart := false }
def FnBatchRightSaid : Prop := fnBatchRightRow.holds Try.pinned (OpenSpec.ofChange fnBatchRightSpec)

/-- ITS FALSE NEIGHBOUR: 'it returns false'. Refute it at one input. -/
def fnBatchRightWrong : ChangeSpec := { name := "fnBatchRight", fn := fun _ => fun
  | [d] => { results := [.lit (.bool false)], args := [d] }
  | _ => none }
def FnBatchRightWrongFalsely : Prop := fnBatchRightRow.holds Try.pinned (OpenSpec.ofChange fnBatchRightWrong)

/- THE SECOND FORM. 'bulk': how many values and letters a reading holds, each counted each time it is reached (what is shared counts as often as it is met; a slice's spare places count too). A statement '..UptoSaid' is the law's where the arguments, and the package variables that the reading takes, are together of bulk at most 1048576: NARROWER than '..Said'. Prove '..Said' where nothing that the law and all that it calls make is longer than what came in: it says more and counts as full. Else prove '..UptoSaid'. A law counts once. -/
mutual
def uptoBulk {H : Type} : DataW H → Nat
  | .lit (.string bytes) => bytes.length + 1
  | .lit _ => 1
  | .nil => 1
  | .ptr d => uptoBulk d + 1
  | .slice elems spare => uptoBulkAll elems + uptoBulkAll spare + 1
  | .agg parts => uptoBulkAll parts + 1
  | .iface _ d => uptoBulk d + 1
  | .map entries => uptoBulkEntries entries + 1
  | .held _ => 1
def uptoBulkAll {H : Type} : List (DataW H) → Nat
  | [] => 0
  | d :: r => uptoBulk d + uptoBulkAll r
def uptoBulkEntries {H : Type} : List (Lit × DataW H) → Nat
  | [] => 0
  | x :: r => uptoBulkEntry x + uptoBulkEntries r
def uptoBulkEntry {H : Type} : Lit × DataW H → Nat
  | (.string bytes, d) => bytes.length + uptoBulk d + 1
  | (_, d) => uptoBulk d + 1
 end
def uptoSmall : (H : Type) → List (DataW H) → Bool := fun _ ds => decide (uptoBulkAll ds ≤ 1048576)
def OpenSpec.upto (s : _root_.Go.ChangeSpec) : _root_.Go.OpenSpec := { _root_.Go.OpenSpec.ofChange s with cond := some uptoSmall }

/-- 'laws.FnFairViews', WHERE WHAT IT READS IS OF BULK AT MOST 1048576: true; the input reads as it did. -/
def fnFairViewsUptoRow : OpenClaim := { program := "ytdgeiooacghcoaa", sum := "7dc5a8714416c31ad55f2d819b9174b96b4e13ad5284b7d152df64fa396d18da", func := "loop.example/sharedinference/laws.FnFairViews", spec := "fnFairViews", apart := false, narrowed := true }
def FnFairViewsUptoSaid : Prop := fnFairViewsUptoRow.holds Try.pinned (OpenSpec.upto fnFairViewsSpec)

/-- 'laws.FnMessagesValid', WHERE WHAT IT READS IS OF BULK AT MOST 1048576: true; the input reads as it did. -/
def fnMessagesValidUptoRow : OpenClaim := { program := "ytdgeiooacghcoaa", sum := "7dc5a8714416c31ad55f2d819b9174b96b4e13ad5284b7d152df64fa396d18da", func := "loop.example/sharedinference/laws.FnMessagesValid", spec := "fnMessagesValid", apart := false, narrowed := true }
def FnMessagesValidUptoSaid : Prop := fnMessagesValidUptoRow.holds Try.pinned (OpenSpec.upto fnMessagesValidSpec)

/-- 'laws.FnExactOpenMessages', WHERE WHAT IT READS IS OF BULK AT MOST 1048576: true; the input reads as it did. -/
def fnExactOpenMessagesUptoRow : OpenClaim := { program := "ytdgeiooacghcoaa", sum := "7dc5a8714416c31ad55f2d819b9174b96b4e13ad5284b7d152df64fa396d18da", func := "loop.example/sharedinference/laws.FnExactOpenMessages", spec := "fnExactOpenMessages", apart := false, narrowed := true }
def FnExactOpenMessagesUptoSaid : Prop := fnExactOpenMessagesUptoRow.holds Try.pinned (OpenSpec.upto fnExactOpenMessagesSpec)

/-- 'laws.FnCheckNumber', WHERE WHAT IT READS IS OF BULK AT MOST 1048576: true; the input reads as it did. -/
def fnCheckNumberUptoRow : OpenClaim := { program := "ytdgeiooacghcoaa", sum := "7dc5a8714416c31ad55f2d819b9174b96b4e13ad5284b7d152df64fa396d18da", func := "loop.example/sharedinference/laws.FnCheckNumber", spec := "fnCheckNumber", unfollowed := true, recurses := true, apart := false, narrowed := true }
def FnCheckNumberUptoSaid : Prop := fnCheckNumberUptoRow.holds Try.pinned (OpenSpec.upto fnCheckNumberSpec)

/-- 'laws.FnExactHiddenTriple', WHERE WHAT IT READS IS OF BULK AT MOST 1048576: true; the input reads as it did. -/
def fnExactHiddenTripleUptoRow : OpenClaim := { program := "ytdgeiooacghcoaa", sum := "7dc5a8714416c31ad55f2d819b9174b96b4e13ad5284b7d152df64fa396d18da", func := "loop.example/sharedinference/laws.FnExactHiddenTriple", spec := "fnExactHiddenTriple", apart := false, narrowed := true }
def FnExactHiddenTripleUptoSaid : Prop := fnExactHiddenTripleUptoRow.holds Try.pinned (OpenSpec.upto fnExactHiddenTripleSpec)

/-- 'laws.FnAddChecked', WHERE WHAT IT READS IS OF BULK AT MOST 1048576: true; the input reads as it did. -/
def fnAddCheckedUptoRow : OpenClaim := { program := "ytdgeiooacghcoaa", sum := "7dc5a8714416c31ad55f2d819b9174b96b4e13ad5284b7d152df64fa396d18da", func := "loop.example/sharedinference/laws.FnAddChecked", spec := "fnAddChecked", unfollowed := true, recurses := true, apart := false, narrowed := true }
def FnAddCheckedUptoSaid : Prop := fnAddCheckedUptoRow.holds Try.pinned (OpenSpec.upto fnAddCheckedSpec)

/-- 'laws.FnTimesChecked', WHERE WHAT IT READS IS OF BULK AT MOST 1048576: true; the input reads as it did. -/
def fnTimesCheckedUptoRow : OpenClaim := { program := "ytdgeiooacghcoaa", sum := "7dc5a8714416c31ad55f2d819b9174b96b4e13ad5284b7d152df64fa396d18da", func := "loop.example/sharedinference/laws.FnTimesChecked", spec := "fnTimesChecked", unfollowed := true, recurses := true, apart := false, narrowed := true }
def FnTimesCheckedUptoSaid : Prop := fnTimesCheckedUptoRow.holds Try.pinned (OpenSpec.upto fnTimesCheckedSpec)

/-- 'laws.FnCheckedTimes', WHERE WHAT IT READS IS OF BULK AT MOST 1048576: true; the input reads as it did. -/
def fnCheckedTimesUptoRow : OpenClaim := { program := "ytdgeiooacghcoaa", sum := "7dc5a8714416c31ad55f2d819b9174b96b4e13ad5284b7d152df64fa396d18da", func := "loop.example/sharedinference/laws.FnCheckedTimes", spec := "fnCheckedTimes", unfollowed := true, recurses := true, apart := false, narrowed := true }
def FnCheckedTimesUptoSaid : Prop := fnCheckedTimesUptoRow.holds Try.pinned (OpenSpec.upto fnCheckedTimesSpec)

/-- 'laws.FnOpenChecked', WHERE WHAT IT READS IS OF BULK AT MOST 1048576: true; the input reads as it did. -/
def fnOpenCheckedUptoRow : OpenClaim := { program := "ytdgeiooacghcoaa", sum := "7dc5a8714416c31ad55f2d819b9174b96b4e13ad5284b7d152df64fa396d18da", func := "loop.example/sharedinference/laws.FnOpenChecked", spec := "fnOpenChecked", unfollowed := true, recurses := true, apart := false, narrowed := true }
def FnOpenCheckedUptoSaid : Prop := fnOpenCheckedUptoRow.holds Try.pinned (OpenSpec.upto fnOpenCheckedSpec)

/-- 'laws.FnHiddenTriple', WHERE WHAT IT READS IS OF BULK AT MOST 1048576: true; the input reads as it did. -/
def fnHiddenTripleUptoRow : OpenClaim := { program := "ytdgeiooacghcoaa", sum := "7dc5a8714416c31ad55f2d819b9174b96b4e13ad5284b7d152df64fa396d18da", func := "loop.example/sharedinference/laws.FnHiddenTriple", spec := "fnHiddenTriple", apart := false, narrowed := true }
def FnHiddenTripleUptoSaid : Prop := fnHiddenTripleUptoRow.holds Try.pinned (OpenSpec.upto fnHiddenTripleSpec)

/-- 'laws.FnFirstWrong', WHERE WHAT IT READS IS OF BULK AT MOST 1048576: true; the input reads as it did. -/
def fnFirstWrongUptoRow : OpenClaim := { program := "ytdgeiooacghcoaa", sum := "7dc5a8714416c31ad55f2d819b9174b96b4e13ad5284b7d152df64fa396d18da", func := "loop.example/sharedinference/laws.FnFirstWrong", spec := "fnFirstWrong", apart := false, narrowed := true }
def FnFirstWrongUptoSaid : Prop := fnFirstWrongUptoRow.holds Try.pinned (OpenSpec.upto fnFirstWrongSpec)

/-- 'laws.FnExactBatchSum', WHERE WHAT IT READS IS OF BULK AT MOST 1048576: true; the input reads as it did. -/
def fnExactBatchSumUptoRow : OpenClaim := { program := "ytdgeiooacghcoaa", sum := "7dc5a8714416c31ad55f2d819b9174b96b4e13ad5284b7d152df64fa396d18da", func := "loop.example/sharedinference/laws.FnExactBatchSum", spec := "fnExactBatchSum", unfollowed := true, recurses := true, apart := false, narrowed := true }
def FnExactBatchSumUptoSaid : Prop := fnExactBatchSumUptoRow.holds Try.pinned (OpenSpec.upto fnExactBatchSumSpec)

/-- 'laws.FnBatchSum', WHERE WHAT IT READS IS OF BULK AT MOST 1048576: true; the input reads as it did. -/
def fnBatchSumUptoRow : OpenClaim := { program := "ytdgeiooacghcoaa", sum := "7dc5a8714416c31ad55f2d819b9174b96b4e13ad5284b7d152df64fa396d18da", func := "loop.example/sharedinference/laws.FnBatchSum", spec := "fnBatchSum", unfollowed := true, recurses := true, apart := false, narrowed := true }
def FnBatchSumUptoSaid : Prop := fnBatchSumUptoRow.holds Try.pinned (OpenSpec.upto fnBatchSumSpec)

/-- 'laws.FnExactBatchRight', WHERE WHAT IT READS IS OF BULK AT MOST 1048576: true; the input reads as it did. -/
def fnExactBatchRightUptoRow : OpenClaim := { program := "ytdgeiooacghcoaa", sum := "7dc5a8714416c31ad55f2d819b9174b96b4e13ad5284b7d152df64fa396d18da", func := "loop.example/sharedinference/laws.FnExactBatchRight", spec := "fnExactBatchRight", unfollowed := true, recurses := true, apart := false, narrowed := true }
def FnExactBatchRightUptoSaid : Prop := fnExactBatchRightUptoRow.holds Try.pinned (OpenSpec.upto fnExactBatchRightSpec)

/-- 'laws.FnBatchRight', WHERE WHAT IT READS IS OF BULK AT MOST 1048576: true; the input reads as it did. -/
def fnBatchRightUptoRow : OpenClaim := { program := "ytdgeiooacghcoaa", sum := "7dc5a8714416c31ad55f2d819b9174b96b4e13ad5284b7d152df64fa396d18da", func := "loop.example/sharedinference/laws.FnBatchRight", spec := "fnBatchRight", unfollowed := true, recurses := true, apart := false, narrowed := true }
def FnBatchRightUptoSaid : Prop := fnBatchRightUptoRow.holds Try.pinned (OpenSpec.upto fnBatchRightSpec)

end Rows
end Go.Proofs.Ytdgeiooacghcoaa
