/-
  The plain functions on messages. No program in sight.
-/
import Derived.Test.YtdgeiooacghcoaaPure
namespace Go.Proofs.Ytdgeiooacghcoaa
set_option linter.unusedSimpArgs false
set_option linter.unusedVariables false
set_option linter.unusedSectionVars false
open Go Go.RowKit

/-! ### Messages: three numbers each, flat -/
def rnd (r : Int) : Bool := decide (0 ≤ r) && decide (r ≤ 1000)
def mR (zs : List Int) (k : Nat) : Int := zs.getD (k * 3) 0
def mF (zs : List Int) (k : Nat) : Int := zs.getD (k * 3 + 1) 0
def mV (zs : List Int) (k : Nat) : Int := zs.getD (k * 3 + 2) 0
def lat (zs : List Int) : Nat → Int
  | 0 => 0
  | k + 1 => mR zs k
def mOk (zs : List Int) (k : Nat) : Bool :=
  rnd (mR zs k) && rv (mV zs k) && decide (mF zs k = 1 + (k : Int) % 2) && !decide (mR zs k < lat zs k) && !(decide (k % 2 = 1) && decide (mR zs k ≠ lat zs k))
def msgsOk (n : Nat) (zs : List Int) : Bool := (List.range n).all (mOk zs) && decide (n % 2 = 0) && decide (n ≤ 2000)
theorem msgsOk_bad {n k : Nat} {zs : List Int} (hk : k < n) (h : mOk zs k = false) : msgsOk n zs = false := by
  unfold msgsOk
  have : (List.range n).all (mOk zs) = false := by
    rw [List.all_eq_false]
    exact ⟨k, List.mem_range.2 hk, by rw [h]; simp⟩
  rw [this]; rfl
theorem msgsOk_good {n : Nat} {zs : List Int} (h : ∀ k, k < n → mOk zs k = true) : msgsOk n zs = (decide (n % 2 = 0) && decide (n ≤ 2000)) := by
  unfold msgsOk
  have : (List.range n).all (mOk zs) = true := by
    rw [List.all_eq_true]
    exact fun k hk => h k (List.mem_range.1 hk)
  rw [this]; rfl
/-- How many rounds there are in the first messages. -/
def rounds (zs : List Int) : Nat → Int
  | 0 => 0
  | 1 => 1
  | k + 2 => if mR zs (k + 1) = mR zs k then rounds zs (k + 1) else rounds zs (k + 1) + 1
def roundsOf (n : Nat) (zs : List Int) : Int := if msgsOk n zs then rounds zs n else -1
end Go.Proofs.Ytdgeiooacghcoaa
