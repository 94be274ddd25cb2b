/-
  No cell of these rows narrows 'for every input' (looked for: loops, veiled, ifaces, maps, wideKeys, modest, calm, conditions, laid).
  DERIVED. THE GIVEN ROWS OF THIS SEAT. 5 by the template 'for every input the law returns true; each argument reads behind the call as it read before'; 0 by the template 'total and deterministic' (their statements: YtdfpceobfficfaaTotals.lean).
  GIVEN WITH THE SEED: the statements are not yours to turn. If you find one false, say at which input.
  Laid BY PROGRAM, IN A SANDBOX (cutbox-rows.mjs): the forced cells as the released guide's own fill.sh prints them over the translation b44b639ea638f23e… (all of the seat's roots in one cut). By AI agents, Wed Nov 11 2026. No macro, syntax, notation, axiom, sorry.
-/
import Derived.Test.YtdfpceobfficfaaChecked
import GoSem.Claim
import GoSem.ClaimJoined
import GoSem.ClaimMapViews
import Derived.JoinedTies
import Derived.KernelRfl
namespace Go.Proofs.Ytdfpceobfficfaa
/- THE CELL 'sum', in the pinned program and in every row, IS THE sha256 OF THE DUMP (.gsa) THAT YtdfpceobfficfaaProg.lean LOADS. Nothing in Lean hashes anything: it is a label: what it is worth is what the hold of that sum in a sandbox is worth. -/
noncomputable def Try.pinned : Pinned := { name := "ytdfpceobfficfaa", sum := "b44b639ea638f23e8b39b197bc138762eaf0d1e923b3ad964ab4c9c4cf7e7434", checked := Try.checked }
namespace Rows
def none {H : Type} : Left H := { results := [], args := [] }

/-- 'laws.FnJoinNet': WHATEVER THE INPUT: true; the input reads as it did. -/
def fnJoinNetSpec : ChangeSpec := { name := "fnJoinNet", fn := fun _ => fun
  | [d] => { results := [.lit (.bool true)], args := [d] }
  | _ => none }
def fnJoinNetRow : OpenClaim := { program := "ytdfpceobfficfaa", sum := "b44b639ea638f23e8b39b197bc138762eaf0d1e923b3ad964ab4c9c4cf7e7434", func := "loop.example/sharedinference/laws.FnJoinNet", spec := "fnJoinNet", unfollowed := true, recurses := true, apart := false }
def FnJoinNetSaid : Prop := fnJoinNetRow.holds Try.pinned (OpenSpec.ofChange fnJoinNetSpec)

/-- ITS FALSE NEIGHBOUR: 'it returns false'. Refute it at one input. -/
def fnJoinNetWrong : ChangeSpec := { name := "fnJoinNet", fn := fun _ => fun
  | [d] => { results := [.lit (.bool false)], args := [d] }
  | _ => none }
def FnJoinNetWrongFalsely : Prop := fnJoinNetRow.holds Try.pinned (OpenSpec.ofChange fnJoinNetWrong)

/-- 'laws.FnSplitNet': WHATEVER THE INPUT: true; the input reads as it did. -/
def fnSplitNetSpec : ChangeSpec := { name := "fnSplitNet", fn := fun _ => fun
  | [d] => { results := [.lit (.bool true)], args := [d] }
  | _ => none }
def fnSplitNetRow : OpenClaim := { program := "ytdfpceobfficfaa", sum := "b44b639ea638f23e8b39b197bc138762eaf0d1e923b3ad964ab4c9c4cf7e7434", func := "loop.example/sharedinference/laws.FnSplitNet", spec := "fnSplitNet", unfollowed := true, recurses := true, apart := false }
def FnSplitNetSaid : Prop := fnSplitNetRow.holds Try.pinned (OpenSpec.ofChange fnSplitNetSpec)

/-- ITS FALSE NEIGHBOUR: 'it returns false'. Refute it at one input. -/
def fnSplitNetWrong : ChangeSpec := { name := "fnSplitNet", fn := fun _ => fun
  | [d] => { results := [.lit (.bool false)], args := [d] }
  | _ => none }
def FnSplitNetWrongFalsely : Prop := fnSplitNetRow.holds Try.pinned (OpenSpec.ofChange fnSplitNetWrong)

/-- 'laws.FnExactJoinNet': WHATEVER THE INPUT: true; the input reads as it did. -/
def fnExactJoinNetSpec : ChangeSpec := { name := "fnExactJoinNet", fn := fun _ => fun
  | [d] => { results := [.lit (.bool true)], args := [d] }
  | _ => none }
def fnExactJoinNetRow : OpenClaim := { program := "ytdfpceobfficfaa", sum := "b44b639ea638f23e8b39b197bc138762eaf0d1e923b3ad964ab4c9c4cf7e7434", func := "loop.example/sharedinference/laws.FnExactJoinNet", spec := "fnExactJoinNet", unfollowed := true, recurses := true, apart := false }
def FnExactJoinNetSaid : Prop := fnExactJoinNetRow.holds Try.pinned (OpenSpec.ofChange fnExactJoinNetSpec)

/-- ITS FALSE NEIGHBOUR: 'it returns false'. Refute it at one input. -/
def fnExactJoinNetWrong : ChangeSpec := { name := "fnExactJoinNet", fn := fun _ => fun
  | [d] => { results := [.lit (.bool false)], args := [d] }
  | _ => none }
def FnExactJoinNetWrongFalsely : Prop := fnExactJoinNetRow.holds Try.pinned (OpenSpec.ofChange fnExactJoinNetWrong)

/-- 'laws.FnExactSplitNet': WHATEVER THE INPUT: true; the input reads as it did. -/
def fnExactSplitNetSpec : ChangeSpec := { name := "fnExactSplitNet", fn := fun _ => fun
  | [d1, d2] => { results := [.lit (.bool true)], args := [d1, d2] }
  | _ => none }
def fnExactSplitNetRow : OpenClaim := { program := "ytdfpceobfficfaa", sum := "b44b639ea638f23e8b39b197bc138762eaf0d1e923b3ad964ab4c9c4cf7e7434", func := "loop.example/sharedinference/laws.FnExactSplitNet", spec := "fnExactSplitNet", unfollowed := true, recurses := true, apart := false }
def FnExactSplitNetSaid : Prop := fnExactSplitNetRow.holds Try.pinned (OpenSpec.ofChange fnExactSplitNetSpec)

/-- ITS FALSE NEIGHBOUR: 'it returns false'. Refute it at one input. -/
def fnExactSplitNetWrong : ChangeSpec := { name := "fnExactSplitNet", fn := fun _ => fun
  | [d1, d2] => { results := [.lit (.bool false)], args := [d1, d2] }
  | _ => none }
def FnExactSplitNetWrongFalsely : Prop := fnExactSplitNetRow.holds Try.pinned (OpenSpec.ofChange fnExactSplitNetWrong)

/-- 'laws.FnRunPlain': WHATEVER THE INPUT: true; the input reads as it did. -/
def fnRunPlainSpec : ChangeSpec := { name := "fnRunPlain", fn := fun _ => fun
  | [d] => { results := [.lit (.bool true)], args := [d] }
  | _ => none }
def fnRunPlainRow : OpenClaim := { program := "ytdfpceobfficfaa", sum := "b44b639ea638f23e8b39b197bc138762eaf0d1e923b3ad964ab4c9c4cf7e7434", func := "loop.example/sharedinference/laws.FnRunPlain", spec := "fnRunPlain", unfollowed := true, recurses := true, apart := false }
def FnRunPlainSaid : Prop := fnRunPlainRow.holds Try.pinned (OpenSpec.ofChange fnRunPlainSpec)

/-- ITS FALSE NEIGHBOUR: 'it returns false'. Refute it at one input. -/
def fnRunPlainWrong : ChangeSpec := { name := "fnRunPlain", fn := fun _ => fun
  | [d] => { results := [.lit (.bool false)], args := [d] }
  | _ => none }
def FnRunPlainWrongFalsely : Prop := fnRunPlainRow.holds Try.pinned (OpenSpec.ofChange fnRunPlainWrong)

/- THE SECOND FORM. 'bulk': how many values and letters a reading holds, each counted each time it is reached (what is shared counts as often as it is met; a slice's spare places count too). A statement '..UptoSaid' is the law's where the arguments, and the package variables that the reading takes, are together of bulk at most 1048576: NARROWER than '..Said'. Prove '..Said' where nothing that the law and all that it calls make is longer than what came in: it says more and counts as full. Else prove '..UptoSaid'. A law counts once. -/
mutual
def uptoBulk {H : Type} : DataW H → Nat
  | .lit (.string bytes) => bytes.length + 1
  | .lit _ => 1
  | .nil => 1
  | .ptr d => uptoBulk d + 1
  | .slice elems spare => uptoBulkAll elems + uptoBulkAll spare + 1
  | .agg parts => uptoBulkAll parts + 1
  | .iface _ d => uptoBulk d + 1
  | .map entries => uptoBulkEntries entries + 1
  | .held _ => 1
def uptoBulkAll {H : Type} : List (DataW H) → Nat
  | [] => 0
  | d :: r => uptoBulk d + uptoBulkAll r
def uptoBulkEntries {H : Type} : List (Lit × DataW H) → Nat
  | [] => 0
  | x :: r => uptoBulkEntry x + uptoBulkEntries r
def uptoBulkEntry {H : Type} : Lit × DataW H → Nat
  | (.string bytes, d) => bytes.length + uptoBulk d + 1
  | (_, d) => uptoBulk d + 1
 end
def uptoSmall : (H : Type) → List (DataW H) → Bool := fun _ ds => decide (uptoBulkAll ds ≤ 1048576)
def OpenSpec.upto (s : _root_.Go.ChangeSpec) : _root_.Go.OpenSpec := { _root_.Go.OpenSpec.ofChange s with cond := some uptoSmall }

/-- 'laws.FnJoinNet', WHERE WHAT IT READS IS OF BULK AT MOST 1048576: true; the input reads as it did. -/
def fnJoinNetUptoRow : OpenClaim := { program := "ytdfpceobfficfaa", sum := "b44b639ea638f23e8b39b197bc138762eaf0d1e923b3ad964ab4c9c4cf7e7434", func := "loop.example/sharedinference/laws.FnJoinNet", spec := "fnJoinNet", unfollowed := true, recurses := true, apart := false, narrowed := true }
def FnJoinNetUptoSaid : Prop := fnJoinNetUptoRow.holds Try.pinned (OpenSpec.upto fnJoinNetSpec)

/-- 'laws.FnSplitNet', WHERE WHAT IT READS IS OF BULK AT MOST 1048576: true; the input reads as it did. -/
def fnSplitNetUptoRow : OpenClaim := { program := "ytdfpceobfficfaa", sum := "b44b639ea638f23e8b39b197bc138762eaf0d1e923b3ad964ab4c9c4cf7e7434", func := "loop.example/sharedinference/laws.FnSplitNet", spec := "fnSplitNet", unfollowed := true, recurses := true, apart := false, narrowed := true }
def FnSplitNetUptoSaid : Prop := fnSplitNetUptoRow.holds Try.pinned (OpenSpec.upto fnSplitNetSpec)

/-- 'laws.FnExactJoinNet', WHERE WHAT IT READS IS OF BULK AT MOST 1048576: true; the input reads as it did. -/
def fnExactJoinNetUptoRow : OpenClaim := { program := "ytdfpceobfficfaa", sum := "b44b639ea638f23e8b39b197bc138762eaf0d1e923b3ad964ab4c9c4cf7e7434", func := "loop.example/sharedinference/laws.FnExactJoinNet", spec := "fnExactJoinNet", unfollowed := true, recurses := true, apart := false, narrowed := true }
def FnExactJoinNetUptoSaid : Prop := fnExactJoinNetUptoRow.holds Try.pinned (OpenSpec.upto fnExactJoinNetSpec)

/-- 'laws.FnExactSplitNet', WHERE WHAT IT READS IS OF BULK AT MOST 1048576: true; the input reads as it did. -/
def fnExactSplitNetUptoRow : OpenClaim := { program := "ytdfpceobfficfaa", sum := "b44b639ea638f23e8b39b197bc138762eaf0d1e923b3ad964ab4c9c4cf7e7434", func := "loop.example/sharedinference/laws.FnExactSplitNet", spec := "fnExactSplitNet", unfollowed := true, recurses := true, apart := false, narrowed := true }
def FnExactSplitNetUptoSaid : Prop := fnExactSplitNetUptoRow.holds Try.pinned (OpenSpec.upto fnExactSplitNetSpec)

/-- 'laws.FnRunPlain', WHERE WHAT IT READS IS OF BULK AT MOST 1048576: true; the input reads as it did. -/
def fnRunPlainUptoRow : OpenClaim := { program := "ytdfpceobfficfaa", sum := "b44b639ea638f23e8b39b197bc138762eaf0d1e923b3ad964ab4c9c4cf7e7434", func := "loop.example/sharedinference/laws.FnRunPlain", spec := "fnRunPlain", unfollowed := true, recurses := true, apart := false, narrowed := true }
def FnRunPlainUptoSaid : Prop := fnRunPlainUptoRow.holds Try.pinned (OpenSpec.upto fnRunPlainSpec)

end Rows
end Go.Proofs.Ytdfpceobfficfaa
