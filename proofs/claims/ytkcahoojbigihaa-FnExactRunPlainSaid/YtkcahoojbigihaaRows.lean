/-
  No cell of these rows narrows 'for every input' (looked for: loops, veiled, ifaces, maps, wideKeys, modest, calm, conditions, laid).
  DERIVED. THE GIVEN ROWS OF THIS SEAT. 4 by the template 'for every input the law returns true; each argument reads behind the call as it read before'; 0 by the template 'total and deterministic' (their statements: YtkcahoojbigihaaTotals.lean).
  GIVEN WITH THE SEED: the statements are not yours to turn. If you find one false, say at which input.
  Laid BY PROGRAM, IN A SANDBOX (cutbox-rows.mjs): the forced cells as the released guide's own fill.sh prints them over the translation 2420e87aa613b8dd… (all of the seat's roots in one cut). By AI agents, Wed Nov 11 2026. No macro, syntax, notation, axiom, sorry.
-/
import Derived.Test.YtkcahoojbigihaaChecked
import GoSem.Claim
import GoSem.ClaimJoined
import GoSem.ClaimMapViews
import Derived.JoinedTies
import Derived.KernelRfl
namespace Go.Proofs.Ytkcahoojbigihaa
/- THE CELL 'sum', in the pinned program and in every row, IS THE sha256 OF THE DUMP (.gsa) THAT YtkcahoojbigihaaProg.lean LOADS. Nothing in Lean hashes anything: it is a label: what it is worth is what the hold of that sum in a sandbox is worth. -/
noncomputable def Try.pinned : Pinned := { name := "ytkcahoojbigihaa", sum := "2420e87aa613b8dd99305c0f72dfc0806c6fdd1297709f837309923d822988e4", checked := Try.checked }
namespace Rows
def none {H : Type} : Left H := { results := [], args := [] }

/-- 'laws.FnPlainMix': WHATEVER THE INPUT: true; the input reads as it did. -/
def fnPlainMixSpec : ChangeSpec := { name := "fnPlainMix", fn := fun _ => fun
  | [d] => { results := [.lit (.bool true)], args := [d] }
  | _ => none }
def fnPlainMixRow : OpenClaim := { program := "ytkcahoojbigihaa", sum := "2420e87aa613b8dd99305c0f72dfc0806c6fdd1297709f837309923d822988e4", func := "loop.example/sharedinference/laws.FnPlainMix", spec := "fnPlainMix", unfollowed := true, recurses := true, apart := false }
def FnPlainMixSaid : Prop := fnPlainMixRow.holds Try.pinned (OpenSpec.ofChange fnPlainMixSpec)

/-- ITS FALSE NEIGHBOUR: 'it returns false'. Refute it at one input. -/
def fnPlainMixWrong : ChangeSpec := { name := "fnPlainMix", fn := fun _ => fun
  | [d] => { results := [.lit (.bool false)], args := [d] }
  | _ => none }
def FnPlainMixWrongFalsely : Prop := fnPlainMixRow.holds Try.pinned (OpenSpec.ofChange fnPlainMixWrong)

/-- 'laws.FnExactPlainMix': WHATEVER THE INPUT: true; the input reads as it did. -/
def fnExactPlainMixSpec : ChangeSpec := { name := "fnExactPlainMix", fn := fun _ => fun
  | [d1, d2] => { results := [.lit (.bool true)], args := [d1, d2] }
  | _ => none }
def fnExactPlainMixRow : OpenClaim := { program := "ytkcahoojbigihaa", sum := "2420e87aa613b8dd99305c0f72dfc0806c6fdd1297709f837309923d822988e4", func := "loop.example/sharedinference/laws.FnExactPlainMix", spec := "fnExactPlainMix", unfollowed := true, recurses := true, apart := false }
def FnExactPlainMixSaid : Prop := fnExactPlainMixRow.holds Try.pinned (OpenSpec.ofChange fnExactPlainMixSpec)

/-- ITS FALSE NEIGHBOUR: 'it returns false'. Refute it at one input. -/
def fnExactPlainMixWrong : ChangeSpec := { name := "fnExactPlainMix", fn := fun _ => fun
  | [d1, d2] => { results := [.lit (.bool false)], args := [d1, d2] }
  | _ => none }
def FnExactPlainMixWrongFalsely : Prop := fnExactPlainMixRow.holds Try.pinned (OpenSpec.ofChange fnExactPlainMixWrong)

/-- 'laws.FnRunPlain': WHATEVER THE INPUT: true; the input reads as it did. -/
def fnRunPlainSpec : ChangeSpec := { name := "fnRunPlain", fn := fun _ => fun
  | [d] => { results := [.lit (.bool true)], args := [d] }
  | _ => none }
def fnRunPlainRow : OpenClaim := { program := "ytkcahoojbigihaa", sum := "2420e87aa613b8dd99305c0f72dfc0806c6fdd1297709f837309923d822988e4", func := "loop.example/sharedinference/laws.FnRunPlain", spec := "fnRunPlain", unfollowed := true, recurses := true, apart := false }
def FnRunPlainSaid : Prop := fnRunPlainRow.holds Try.pinned (OpenSpec.ofChange fnRunPlainSpec)

/-- ITS FALSE NEIGHBOUR: 'it returns false'. Refute it at one input. -/
def fnRunPlainWrong : ChangeSpec := { name := "fnRunPlain", fn := fun _ => fun
  | [d] => { results := [.lit (.bool false)], args := [d] }
  | _ => none }
def FnRunPlainWrongFalsely : Prop := fnRunPlainRow.holds Try.pinned (OpenSpec.ofChange fnRunPlainWrong)

/-- 'laws.FnExactRunPlain': WHATEVER THE INPUT: true; the input reads as it did. -/
def fnExactRunPlainSpec : ChangeSpec := { name := "fnExactRunPlain", fn := fun _ => fun
  | [d1, d2] => { results := [.lit (.bool true)], args := [d1, d2] }
  | _ => none }
def fnExactRunPlainRow : OpenClaim := { program := "ytkcahoojbigihaa", sum := "2420e87aa613b8dd99305c0f72dfc0806c6fdd1297709f837309923d822988e4", func := "loop.example/sharedinference/laws.FnExactRunPlain", spec := "fnExactRunPlain", unfollowed := true, recurses := true, apart := false }
def FnExactRunPlainSaid : Prop := fnExactRunPlainRow.holds Try.pinned (OpenSpec.ofChange fnExactRunPlainSpec)

/-- ITS FALSE NEIGHBOUR: 'it returns false'. Refute it at one input. -/
def fnExactRunPlainWrong : ChangeSpec := { name := "fnExactRunPlain", fn := fun _ => fun
  | [d1, d2] => { results := [.lit (.bool false)], args := [d1, d2] }
  | _ => none }
def FnExactRunPlainWrongFalsely : Prop := fnExactRunPlainRow.holds Try.pinned (OpenSpec.ofChange fnExactRunPlainWrong)

/- THE SECOND FORM. 'bulk': how many values and letters a reading holds, each counted each time it is reached (what is shared counts as often as it is met; a slice's spare places count too). A statement '..UptoSaid' is the law's where the arguments, and the package variables that the reading takes, are together of bulk at most 1048576: NARROWER than '..Said'. Prove '..Said' where nothing that the law and all that it calls make is longer than what came in: it says more and counts as full. Else prove '..UptoSaid'. A law counts once. -/
mutual
def uptoBulk {H : Type} : DataW H → Nat
  | .lit (.string bytes) => bytes.length + 1
  | .lit _ => 1
  | .nil => 1
  | .ptr d => uptoBulk d + 1
  | .slice elems spare => uptoBulkAll elems + uptoBulkAll spare + 1
  | .agg parts => uptoBulkAll parts + 1
  | .iface _ d => uptoBulk d + 1
  | .map entries => uptoBulkEntries entries + 1
  | .held _ => 1
def uptoBulkAll {H : Type} : List (DataW H) → Nat
  | [] => 0
  | d :: r => uptoBulk d + uptoBulkAll r
def uptoBulkEntries {H : Type} : List (Lit × DataW H) → Nat
  | [] => 0
  | x :: r => uptoBulkEntry x + uptoBulkEntries r
def uptoBulkEntry {H : Type} : Lit × DataW H → Nat
  | (.string bytes, d) => bytes.length + uptoBulk d + 1
  | (_, d) => uptoBulk d + 1
 end
def uptoSmall : (H : Type) → List (DataW H) → Bool := fun _ ds => decide (uptoBulkAll ds ≤ 1048576)
def OpenSpec.upto (s : _root_.Go.ChangeSpec) : _root_.Go.OpenSpec := { _root_.Go.OpenSpec.ofChange s with cond := some uptoSmall }

/-- 'laws.FnPlainMix', WHERE WHAT IT READS IS OF BULK AT MOST 1048576: true; the input reads as it did. -/
def fnPlainMixUptoRow : OpenClaim := { program := "ytkcahoojbigihaa", sum := "2420e87aa613b8dd99305c0f72dfc0806c6fdd1297709f837309923d822988e4", func := "loop.example/sharedinference/laws.FnPlainMix", spec := "fnPlainMix", unfollowed := true, recurses := true, apart := false, narrowed := true }
def FnPlainMixUptoSaid : Prop := fnPlainMixUptoRow.holds Try.pinned (OpenSpec.upto fnPlainMixSpec)

/-- 'laws.FnExactPlainMix', WHERE WHAT IT READS IS OF BULK AT MOST 1048576: true; the input reads as it did. -/
def fnExactPlainMixUptoRow : OpenClaim := { program := "ytkcahoojbigihaa", sum := "2420e87aa613b8dd99305c0f72dfc0806c6fdd1297709f837309923d822988e4", func := "loop.example/sharedinference/laws.FnExactPlainMix", spec := "fnExactPlainMix", unfollowed := true, recurses := true, apart := false, narrowed := true }
def FnExactPlainMixUptoSaid : Prop := fnExactPlainMixUptoRow.holds Try.pinned (OpenSpec.upto fnExactPlainMixSpec)

/-- 'laws.FnRunPlain', WHERE WHAT IT READS IS OF BULK AT MOST 1048576: true; the input reads as it did. -/
def fnRunPlainUptoRow : OpenClaim := { program := "ytkcahoojbigihaa", sum := "2420e87aa613b8dd99305c0f72dfc0806c6fdd1297709f837309923d822988e4", func := "loop.example/sharedinference/laws.FnRunPlain", spec := "fnRunPlain", unfollowed := true, recurses := true, apart := false, narrowed := true }
def FnRunPlainUptoSaid : Prop := fnRunPlainUptoRow.holds Try.pinned (OpenSpec.upto fnRunPlainSpec)

/-- 'laws.FnExactRunPlain', WHERE WHAT IT READS IS OF BULK AT MOST 1048576: true; the input reads as it did. -/
def fnExactRunPlainUptoRow : OpenClaim := { program := "ytkcahoojbigihaa", sum := "2420e87aa613b8dd99305c0f72dfc0806c6fdd1297709f837309923d822988e4", func := "loop.example/sharedinference/laws.FnExactRunPlain", spec := "fnExactRunPlain", unfollowed := true, recurses := true, apart := false, narrowed := true }
def FnExactRunPlainUptoSaid : Prop := fnExactRunPlainUptoRow.holds Try.pinned (OpenSpec.upto fnExactRunPlainSpec)

end Rows
end Go.Proofs.Ytkcahoojbigihaa
