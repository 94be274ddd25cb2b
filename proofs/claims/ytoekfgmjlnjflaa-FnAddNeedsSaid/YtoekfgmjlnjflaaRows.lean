/-
  No cell of these rows narrows 'for every input' (looked for: loops, veiled, ifaces, maps, wideKeys, modest, calm, conditions, laid).
  DERIVED. THE GIVEN ROWS OF THIS SEAT. 12 by the template 'for every input the law returns true; each argument reads behind the call as it read before'; 0 by the template 'total and deterministic' (their statements: YtoekfgmjlnjflaaTotals.lean).
  GIVEN WITH THE SEED: the statements are not yours to turn. If you find one false, say at which input.
  Laid BY PROGRAM, IN A SANDBOX (cutbox-rows.mjs): the forced cells as the released guide's own fill.sh prints them over the translation 68de6711b4d70734… (all of the seat's roots in one cut). By AI agents, Wed Nov 11 2026. No macro, syntax, notation, axiom, sorry.
-/
import Derived.Test.YtoekfgmjlnjflaaChecked
import GoSem.Claim
import GoSem.ClaimJoined
import GoSem.ClaimMapViews
import Derived.JoinedTies
import Derived.KernelRfl
namespace Go.Proofs.Ytoekfgmjlnjflaa
/- THE CELL 'sum', in the pinned program and in every row, IS THE sha256 OF THE DUMP (.gsa) THAT YtoekfgmjlnjflaaProg.lean LOADS. Nothing in Lean hashes anything: it is a label: what it is worth is what the hold of that sum in a sandbox is worth. -/
noncomputable def Try.pinned : Pinned := { name := "ytoekfgmjlnjflaa", sum := "68de6711b4d70734874092d7d899f46bfcf3efdead39ba7ef88fd6bb9c619c3f", checked := Try.checked }
namespace Rows
def none {H : Type} : Left H := { results := [], args := [] }

/-- 'laws.FnExactAddNeeds': WHATEVER THE INPUT: true; the input reads as it did. -/
def fnExactAddNeedsSpec : ChangeSpec := { name := "fnExactAddNeeds", fn := fun _ => fun
  | [d1, d2] => { results := [.lit (.bool true)], args := [d1, d2] }
  | _ => none }
def fnExactAddNeedsRow : OpenClaim := { program := "ytoekfgmjlnjflaa", sum := "68de6711b4d70734874092d7d899f46bfcf3efdead39ba7ef88fd6bb9c619c3f", func := "loop.example/sharedinference/laws.FnExactAddNeeds", spec := "fnExactAddNeeds", apart := false }
def FnExactAddNeedsSaid : Prop := fnExactAddNeedsRow.holds Try.pinned (OpenSpec.ofChange fnExactAddNeedsSpec)

/-- ITS FALSE NEIGHBOUR: 'it returns false'. Refute it at one input. -/
def fnExactAddNeedsWrong : ChangeSpec := { name := "fnExactAddNeeds", fn := fun _ => fun
  | [d1, d2] => { results := [.lit (.bool false)], args := [d1, d2] }
  | _ => none }
def FnExactAddNeedsWrongFalsely : Prop := fnExactAddNeedsRow.holds Try.pinned (OpenSpec.ofChange fnExactAddNeedsWrong)

/-- 'laws.FnExactFairViews': WHATEVER THE INPUT: true; the input reads as it did. -/
def fnExactFairViewsSpec : ChangeSpec := { name := "fnExactFairViews", fn := fun _ => fun
  | [d] => { results := [.lit (.bool true)], args := [d] }
  | _ => none }
def fnExactFairViewsRow : OpenClaim := { program := "ytoekfgmjlnjflaa", sum := "68de6711b4d70734874092d7d899f46bfcf3efdead39ba7ef88fd6bb9c619c3f", func := "loop.example/sharedinference/laws.FnExactFairViews", spec := "fnExactFairViews", apart := false }
def FnExactFairViewsSaid : Prop := fnExactFairViewsRow.holds Try.pinned (OpenSpec.ofChange fnExactFairViewsSpec)

/-- ITS FALSE NEIGHBOUR: 'it returns false'. Refute it at one input. -/
def fnExactFairViewsWrong : ChangeSpec := { name := "fnExactFairViews", fn := fun _ => fun
  | [d] => { results := [.lit (.bool false)], args := [d] }
  | _ => none }
def FnExactFairViewsWrongFalsely : Prop := fnExactFairViewsRow.holds Try.pinned (OpenSpec.ofChange fnExactFairViewsWrong)

/-- 'laws.FnAddNeeds': WHATEVER THE INPUT: true; the input reads as it did. -/
def fnAddNeedsSpec : ChangeSpec := { name := "fnAddNeeds", fn := fun _ => fun
  | [d] => { results := [.lit (.bool true)], args := [d] }
  | _ => none }
def fnAddNeedsRow : OpenClaim := { program := "ytoekfgmjlnjflaa", sum := "68de6711b4d70734874092d7d899f46bfcf3efdead39ba7ef88fd6bb9c619c3f", func := "loop.example/sharedinference/laws.FnAddNeeds", spec := "fnAddNeeds", apart := false }
def FnAddNeedsSaid : Prop := fnAddNeedsRow.holds Try.pinned (OpenSpec.ofChange fnAddNeedsSpec)

/-- ITS FALSE NEIGHBOUR: 'it returns false'. Refute it at one input. -/
def fnAddNeedsWrong : ChangeSpec := { name := "fnAddNeeds", fn := fun _ => fun
  | [d] => { results := [.lit (.bool false)], args := [d] }
  | _ => none }
def FnAddNeedsWrongFalsely : Prop := fnAddNeedsRow.holds Try.pinned (OpenSpec.ofChange fnAddNeedsWrong)

/-- 'laws.FnExactMessagesValid': WHATEVER THE INPUT: true; the input reads as it did. -/
def fnExactMessagesValidSpec : ChangeSpec := { name := "fnExactMessagesValid", fn := fun _ => fun
  | [d] => { results := [.lit (.bool true)], args := [d] }
  | _ => none }
def fnExactMessagesValidRow : OpenClaim := { program := "ytoekfgmjlnjflaa", sum := "68de6711b4d70734874092d7d899f46bfcf3efdead39ba7ef88fd6bb9c619c3f", func := "loop.example/sharedinference/laws.FnExactMessagesValid", spec := "fnExactMessagesValid", apart := false }
def FnExactMessagesValidSaid : Prop := fnExactMessagesValidRow.holds Try.pinned (OpenSpec.ofChange fnExactMessagesValidSpec)

/-- ITS FALSE NEIGHBOUR: 'it returns false'. Refute it at one input. -/
def fnExactMessagesValidWrong : ChangeSpec := { name := "fnExactMessagesValid", fn := fun _ => fun
  | [d] => { results := [.lit (.bool false)], args := [d] }
  | _ => none }
def FnExactMessagesValidWrongFalsely : Prop := fnExactMessagesValidRow.holds Try.pinned (OpenSpec.ofChange fnExactMessagesValidWrong)

/-- 'laws.FnExactAddChecked': WHATEVER THE INPUT: true; the input reads as it did. -/
def fnExactAddCheckedSpec : ChangeSpec := { name := "fnExactAddChecked", fn := fun _ => fun
  | [d1, d2] => { results := [.lit (.bool true)], args := [d1, d2] }
  | _ => none }
def fnExactAddCheckedRow : OpenClaim := { program := "ytoekfgmjlnjflaa", sum := "68de6711b4d70734874092d7d899f46bfcf3efdead39ba7ef88fd6bb9c619c3f", func := "loop.example/sharedinference/laws.FnExactAddChecked", spec := "fnExactAddChecked", unfollowed := true, recurses := true, apart := false }
def FnExactAddCheckedSaid : Prop := fnExactAddCheckedRow.holds Try.pinned (OpenSpec.ofChange fnExactAddCheckedSpec)

/-- ITS FALSE NEIGHBOUR: 'it returns false'. Refute it at one input. -/
def fnExactAddCheckedWrong : ChangeSpec := { name := "fnExactAddChecked", fn := fun _ => fun
  | [d1, d2] => { results := [.lit (.bool false)], args := [d1, d2] }
  | _ => none }
def FnExactAddCheckedWrongFalsely : Prop := fnExactAddCheckedRow.holds Try.pinned (OpenSpec.ofChange fnExactAddCheckedWrong)

/-- 'laws.FnExactTimesChecked': WHATEVER THE INPUT: true; the input reads as it did. -/
def fnExactTimesCheckedSpec : ChangeSpec := { name := "fnExactTimesChecked", fn := fun _ => fun
  | [d1, d2] => { results := [.lit (.bool true)], args := [d1, d2] }
  | _ => none }
def fnExactTimesCheckedRow : OpenClaim := { program := "ytoekfgmjlnjflaa", sum := "68de6711b4d70734874092d7d899f46bfcf3efdead39ba7ef88fd6bb9c619c3f", func := "loop.example/sharedinference/laws.FnExactTimesChecked", spec := "fnExactTimesChecked", unfollowed := true, recurses := true, apart := false }
def FnExactTimesCheckedSaid : Prop := fnExactTimesCheckedRow.holds Try.pinned (OpenSpec.ofChange fnExactTimesCheckedSpec)

/-- ITS FALSE NEIGHBOUR: 'it returns false'. Refute it at one input. -/
def fnExactTimesCheckedWrong : ChangeSpec := { name := "fnExactTimesChecked", fn := fun _ => fun
  | [d1, d2] => { results := [.lit (.bool false)], args := [d1, d2] }
  | _ => none }
def FnExactTimesCheckedWrongFalsely : Prop := fnExactTimesCheckedRow.holds Try.pinned (OpenSpec.ofChange fnExactTimesCheckedWrong)

/-- 'laws.FnExactSplitViews': WHATEVER THE INPUT: true; the input reads as it did. -/
def fnExactSplitViewsSpec : ChangeSpec := { name := "fnExactSplitViews", fn := fun _ => fun
  | [d] => { results := [.lit (.bool true)], args := [d] }
  | _ => none }
def fnExactSplitViewsRow : OpenClaim := { program := "ytoekfgmjlnjflaa", sum := "68de6711b4d70734874092d7d899f46bfcf3efdead39ba7ef88fd6bb9c619c3f", func := "loop.example/sharedinference/laws.FnExactSplitViews", spec := "fnExactSplitViews", apart := false }
def FnExactSplitViewsSaid : Prop := fnExactSplitViewsRow.holds Try.pinned (OpenSpec.ofChange fnExactSplitViewsSpec)

/-- ITS FALSE NEIGHBOUR: 'it returns false'. Refute it at one input. -/
def fnExactSplitViewsWrong : ChangeSpec := { name := "fnExactSplitViews", fn := fun _ => fun
  | [d] => { results := [.lit (.bool false)], args := [d] }
  | _ => none }
def FnExactSplitViewsWrongFalsely : Prop := fnExactSplitViewsRow.holds Try.pinned (OpenSpec.ofChange fnExactSplitViewsWrong)

/-- 'laws.FnExactOpenChecked': WHATEVER THE INPUT: true; the input reads as it did. -/
def fnExactOpenCheckedSpec : ChangeSpec := { name := "fnExactOpenChecked", fn := fun _ => fun
  | [d1, d2] => { results := [.lit (.bool true)], args := [d1, d2] }
  | _ => none }
def fnExactOpenCheckedRow : OpenClaim := { program := "ytoekfgmjlnjflaa", sum := "68de6711b4d70734874092d7d899f46bfcf3efdead39ba7ef88fd6bb9c619c3f", func := "loop.example/sharedinference/laws.FnExactOpenChecked", spec := "fnExactOpenChecked", apart := false }
def FnExactOpenCheckedSaid : Prop := fnExactOpenCheckedRow.holds Try.pinned (OpenSpec.ofChange fnExactOpenCheckedSpec)

/-- ITS FALSE NEIGHBOUR: 'it returns false'. Refute it at one input. -/
def fnExactOpenCheckedWrong : ChangeSpec := { name := "fnExactOpenChecked", fn := fun _ => fun
  | [d1, d2] => { results := [.lit (.bool false)], args := [d1, d2] }
  | _ => none }
def FnExactOpenCheckedWrongFalsely : Prop := fnExactOpenCheckedRow.holds Try.pinned (OpenSpec.ofChange fnExactOpenCheckedWrong)

/-- 'laws.FnExactTableViews': WHATEVER THE INPUT: true; the input reads as it did. -/
def fnExactTableViewsSpec : ChangeSpec := { name := "fnExactTableViews", fn := fun _ => fun
  | [d] => { results := [.lit (.bool true)], args := [d] }
  | _ => none }
def fnExactTableViewsRow : OpenClaim := { program := "ytoekfgmjlnjflaa", sum := "68de6711b4d70734874092d7d899f46bfcf3efdead39ba7ef88fd6bb9c619c3f", func := "loop.example/sharedinference/laws.FnExactTableViews", spec := "fnExactTableViews", apart := false }
def FnExactTableViewsSaid : Prop := fnExactTableViewsRow.holds Try.pinned (OpenSpec.ofChange fnExactTableViewsSpec)

/-- ITS FALSE NEIGHBOUR: 'it returns false'. Refute it at one input. -/
def fnExactTableViewsWrong : ChangeSpec := { name := "fnExactTableViews", fn := fun _ => fun
  | [d] => { results := [.lit (.bool false)], args := [d] }
  | _ => none }
def FnExactTableViewsWrongFalsely : Prop := fnExactTableViewsRow.holds Try.pinned (OpenSpec.ofChange fnExactTableViewsWrong)

/-- 'laws.FnExactRoundsOf': WHATEVER THE INPUT: true; the input reads as it did. -/
def fnExactRoundsOfSpec : ChangeSpec := { name := "fnExactRoundsOf", fn := fun _ => fun
  | [d] => { results := [.lit (.bool true)], args := [d] }
  | _ => none }
def fnExactRoundsOfRow : OpenClaim := { program := "ytoekfgmjlnjflaa", sum := "68de6711b4d70734874092d7d899f46bfcf3efdead39ba7ef88fd6bb9c619c3f", func := "loop.example/sharedinference/laws.FnExactRoundsOf", spec := "fnExactRoundsOf", apart := false }
def FnExactRoundsOfSaid : Prop := fnExactRoundsOfRow.holds Try.pinned (OpenSpec.ofChange fnExactRoundsOfSpec)

/-- ITS FALSE NEIGHBOUR: 'it returns false'. Refute it at one input. -/
def fnExactRoundsOfWrong : ChangeSpec := { name := "fnExactRoundsOf", fn := fun _ => fun
  | [d] => { results := [.lit (.bool false)], args := [d] }
  | _ => none }
def FnExactRoundsOfWrongFalsely : Prop := fnExactRoundsOfRow.holds Try.pinned (OpenSpec.ofChange fnExactRoundsOfWrong)

/-- 'laws.FnFairViews': WHATEVER THE INPUT: true; the input reads as it did. -/
def fnFairViewsSpec : ChangeSpec := { name := "fnFairViews", fn := fun _ => fun
  | [d] => { results := [.lit (.bool true)], args := [d] }
  | _ => none }
def fnFairViewsRow : OpenClaim := { program := "ytoekfgmjlnjflaa", sum := "68de6711b4d70734874092d7d899f46bfcf3efdead39ba7ef88fd6bb9c619c3f", func := "loop.example/sharedinference/laws.FnFairViews", spec := "fnFairViews", apart := false }
def FnFairViewsSaid : Prop := fnFairViewsRow.holds Try.pinned (OpenSpec.ofChange fnFairViewsSpec)

/-- ITS FALSE NEIGHBOUR: 'it returns false'. Refute it at one input. -/
def fnFairViewsWrong : ChangeSpec := { name := "fnFairViews", fn := fun _ => fun
  | [d] => { results := [.lit (.bool false)], args := [d] }
  | _ => none }
def FnFairViewsWrongFalsely : Prop := fnFairViewsRow.holds Try.pinned (OpenSpec.ofChange fnFairViewsWrong)

/-- 'laws.FnExactCheckNumber': WHATEVER THE INPUT: true; the input reads as it did. -/
def fnExactCheckNumberSpec : ChangeSpec := { name := "fnExactCheckNumber", fn := fun _ => fun
  | [d1, d2, d3] => { results := [.lit (.bool true)], args := [d1, d2, d3] }
  | _ => none }
def fnExactCheckNumberRow : OpenClaim := { program := "ytoekfgmjlnjflaa", sum := "68de6711b4d70734874092d7d899f46bfcf3efdead39ba7ef88fd6bb9c619c3f", func := "loop.example/sharedinference/laws.FnExactCheckNumber", spec := "fnExactCheckNumber", apart := false }
def FnExactCheckNumberSaid : Prop := fnExactCheckNumberRow.holds Try.pinned (OpenSpec.ofChange fnExactCheckNumberSpec)

/-- ITS FALSE NEIGHBOUR: 'it returns false'. Refute it at one input. -/
def fnExactCheckNumberWrong : ChangeSpec := { name := "fnExactCheckNumber", fn := fun _ => fun
  | [d1, d2, d3] => { results := [.lit (.bool false)], args := [d1, d2, d3] }
  | _ => none }
def FnExactCheckNumberWrongFalsely : Prop := fnExactCheckNumberRow.holds Try.pinned (OpenSpec.ofChange fnExactCheckNumberWrong)

/- THE SECOND FORM. 'bulk': how many values and letters a reading holds, each counted each time it is reached (what is shared counts as often as it is met; a slice's spare places count too). A statement '..UptoSaid' is the law's where the arguments, and the package variables that the reading takes, are together of bulk at most 1048576: NARROWER than '..Said'. Prove '..Said' where nothing that the law and all that it calls make is longer than what came in: it says more and counts as full. Else prove '..UptoSaid'. A law counts once. -/
mutual
def uptoBulk {H : Type} : DataW H → Nat
  | .lit (.string bytes) => bytes.length + 1
  | .lit _ => 1
  | .nil => 1
  | .ptr d => uptoBulk d + 1
  | .slice elems spare => uptoBulkAll elems + uptoBulkAll spare + 1
  | .agg parts => uptoBulkAll parts + 1
  | .iface _ d => uptoBulk d + 1
  | .map entries => uptoBulkEntries entries + 1
  | .held _ => 1
def uptoBulkAll {H : Type} : List (DataW H) → Nat
  | [] => 0
  | d :: r => uptoBulk d + uptoBulkAll r
def uptoBulkEntries {H : Type} : List (Lit × DataW H) → Nat
  | [] => 0
  | x :: r => uptoBulkEntry x + uptoBulkEntries r
def uptoBulkEntry {H : Type} : Lit × DataW H → Nat
  | (.string bytes, d) => bytes.length + uptoBulk d + 1
  | (_, d) => uptoBulk d + 1
 end
def uptoSmall : (H : Type) → List (DataW H) → Bool := fun _ ds => decide (uptoBulkAll ds ≤ 1048576)
def OpenSpec.upto (s : _root_.Go.ChangeSpec) : _root_.Go.OpenSpec := { _root_.Go.OpenSpec.ofChange s with cond := some uptoSmall }

/-- 'laws.FnExactAddNeeds', WHERE WHAT IT READS IS OF BULK AT MOST 1048576: true; the input reads as it did. -/
def fnExactAddNeedsUptoRow : OpenClaim := { program := "ytoekfgmjlnjflaa", sum := "68de6711b4d70734874092d7d899f46bfcf3efdead39ba7ef88fd6bb9c619c3f", func := "loop.example/sharedinference/laws.FnExactAddNeeds", spec := "fnExactAddNeeds", apart := false, narrowed := true }
def FnExactAddNeedsUptoSaid : Prop := fnExactAddNeedsUptoRow.holds Try.pinned (OpenSpec.upto fnExactAddNeedsSpec)

/-- 'laws.FnExactFairViews', WHERE WHAT IT READS IS OF BULK AT MOST 1048576: true; the input reads as it did. -/
def fnExactFairViewsUptoRow : OpenClaim := { program := "ytoekfgmjlnjflaa", sum := "68de6711b4d70734874092d7d899f46bfcf3efdead39ba7ef88fd6bb9c619c3f", func := "loop.example/sharedinference/laws.FnExactFairViews", spec := "fnExactFairViews", apart := false, narrowed := true }
def FnExactFairViewsUptoSaid : Prop := fnExactFairViewsUptoRow.holds Try.pinned (OpenSpec.upto fnExactFairViewsSpec)

/-- 'laws.FnAddNeeds', WHERE WHAT IT READS IS OF BULK AT MOST 1048576: true; the input reads as it did. -/
def fnAddNeedsUptoRow : OpenClaim := { program := "ytoekfgmjlnjflaa", sum := "68de6711b4d70734874092d7d899f46bfcf3efdead39ba7ef88fd6bb9c619c3f", func := "loop.example/sharedinference/laws.FnAddNeeds", spec := "fnAddNeeds", apart := false, narrowed := true }
def FnAddNeedsUptoSaid : Prop := fnAddNeedsUptoRow.holds Try.pinned (OpenSpec.upto fnAddNeedsSpec)

/-- 'laws.FnExactMessagesValid', WHERE WHAT IT READS IS OF BULK AT MOST 1048576: true; the input reads as it did. -/
def fnExactMessagesValidUptoRow : OpenClaim := { program := "ytoekfgmjlnjflaa", sum := "68de6711b4d70734874092d7d899f46bfcf3efdead39ba7ef88fd6bb9c619c3f", func := "loop.example/sharedinference/laws.FnExactMessagesValid", spec := "fnExactMessagesValid", apart := false, narrowed := true }
def FnExactMessagesValidUptoSaid : Prop := fnExactMessagesValidUptoRow.holds Try.pinned (OpenSpec.upto fnExactMessagesValidSpec)

/-- 'laws.FnExactAddChecked', WHERE WHAT IT READS IS OF BULK AT MOST 1048576: true; the input reads as it did. -/
def fnExactAddCheckedUptoRow : OpenClaim := { program := "ytoekfgmjlnjflaa", sum := "68de6711b4d70734874092d7d899f46bfcf3efdead39ba7ef88fd6bb9c619c3f", func := "loop.example/sharedinference/laws.FnExactAddChecked", spec := "fnExactAddChecked", unfollowed := true, recurses := true, apart := false, narrowed := true }
def FnExactAddCheckedUptoSaid : Prop := fnExactAddCheckedUptoRow.holds Try.pinned (OpenSpec.upto fnExactAddCheckedSpec)

/-- 'laws.FnExactTimesChecked', WHERE WHAT IT READS IS OF BULK AT MOST 1048576: true; the input reads as it did. -/
def fnExactTimesCheckedUptoRow : OpenClaim := { program := "ytoekfgmjlnjflaa", sum := "68de6711b4d70734874092d7d899f46bfcf3efdead39ba7ef88fd6bb9c619c3f", func := "loop.example/sharedinference/laws.FnExactTimesChecked", spec := "fnExactTimesChecked", unfollowed := true, recurses := true, apart := false, narrowed := true }
def FnExactTimesCheckedUptoSaid : Prop := fnExactTimesCheckedUptoRow.holds Try.pinned (OpenSpec.upto fnExactTimesCheckedSpec)

/-- 'laws.FnExactSplitViews', WHERE WHAT IT READS IS OF BULK AT MOST 1048576: true; the input reads as it did. -/
def fnExactSplitViewsUptoRow : OpenClaim := { program := "ytoekfgmjlnjflaa", sum := "68de6711b4d70734874092d7d899f46bfcf3efdead39ba7ef88fd6bb9c619c3f", func := "loop.example/sharedinference/laws.FnExactSplitViews", spec := "fnExactSplitViews", apart := false, narrowed := true }
def FnExactSplitViewsUptoSaid : Prop := fnExactSplitViewsUptoRow.holds Try.pinned (OpenSpec.upto fnExactSplitViewsSpec)

/-- 'laws.FnExactOpenChecked', WHERE WHAT IT READS IS OF BULK AT MOST 1048576: true; the input reads as it did. -/
def fnExactOpenCheckedUptoRow : OpenClaim := { program := "ytoekfgmjlnjflaa", sum := "68de6711b4d70734874092d7d899f46bfcf3efdead39ba7ef88fd6bb9c619c3f", func := "loop.example/sharedinference/laws.FnExactOpenChecked", spec := "fnExactOpenChecked", apart := false, narrowed := true }
def FnExactOpenCheckedUptoSaid : Prop := fnExactOpenCheckedUptoRow.holds Try.pinned (OpenSpec.upto fnExactOpenCheckedSpec)

/-- 'laws.FnExactTableViews', WHERE WHAT IT READS IS OF BULK AT MOST 1048576: true; the input reads as it did. -/
def fnExactTableViewsUptoRow : OpenClaim := { program := "ytoekfgmjlnjflaa", sum := "68de6711b4d70734874092d7d899f46bfcf3efdead39ba7ef88fd6bb9c619c3f", func := "loop.example/sharedinference/laws.FnExactTableViews", spec := "fnExactTableViews", apart := false, narrowed := true }
def FnExactTableViewsUptoSaid : Prop := fnExactTableViewsUptoRow.holds Try.pinned (OpenSpec.upto fnExactTableViewsSpec)

/-- 'laws.FnExactRoundsOf', WHERE WHAT IT READS IS OF BULK AT MOST 1048576: true; the input reads as it did. -/
def fnExactRoundsOfUptoRow : OpenClaim := { program := "ytoekfgmjlnjflaa", sum := "68de6711b4d70734874092d7d899f46bfcf3efdead39ba7ef88fd6bb9c619c3f", func := "loop.example/sharedinference/laws.FnExactRoundsOf", spec := "fnExactRoundsOf", apart := false, narrowed := true }
def FnExactRoundsOfUptoSaid : Prop := fnExactRoundsOfUptoRow.holds Try.pinned (OpenSpec.upto fnExactRoundsOfSpec)

/-- 'laws.FnFairViews', WHERE WHAT IT READS IS OF BULK AT MOST 1048576: true; the input reads as it did. -/
def fnFairViewsUptoRow : OpenClaim := { program := "ytoekfgmjlnjflaa", sum := "68de6711b4d70734874092d7d899f46bfcf3efdead39ba7ef88fd6bb9c619c3f", func := "loop.example/sharedinference/laws.FnFairViews", spec := "fnFairViews", apart := false, narrowed := true }
def FnFairViewsUptoSaid : Prop := fnFairViewsUptoRow.holds Try.pinned (OpenSpec.upto fnFairViewsSpec)

/-- 'laws.FnExactCheckNumber', WHERE WHAT IT READS IS OF BULK AT MOST 1048576: true; the input reads as it did. -/
def fnExactCheckNumberUptoRow : OpenClaim := { program := "ytoekfgmjlnjflaa", sum := "68de6711b4d70734874092d7d899f46bfcf3efdead39ba7ef88fd6bb9c619c3f", func := "loop.example/sharedinference/laws.FnExactCheckNumber", spec := "fnExactCheckNumber", apart := false, narrowed := true }
def FnExactCheckNumberUptoSaid : Prop := fnExactCheckNumberUptoRow.holds Try.pinned (OpenSpec.upto fnExactCheckNumberSpec)

end Rows
end Go.Proofs.Ytoekfgmjlnjflaa
