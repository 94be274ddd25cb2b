/-
  The plain functions that the program's functions compute: rings, shares, checked numbers, lists. No program in sight.
-/
import Derived.Test.YtdfpceobfficfaaReg
namespace Go.Proofs.Ytdfpceobfficfaa
set_option linter.unusedSimpArgs false
set_option linter.unusedVariables false
set_option linter.unusedSectionVars false
open Go Go.RowKit

/-! ### Ring numbers -/
def rv (x : Int) : Bool := decide (0 ≤ x) && decide (x < 4096)
def ro (x : Int) : Int := x % 4096
def addR (a b : Int) : Int := if rv a && rv b then ro (a + b) else -1
def subR (a b : Int) : Int := if rv a && rv b then ro (a - b) else -1
def mulR (a b : Int) : Int := if rv a && rv b then ro (a * b) else -1
def signed (x : Int) : Int := if rv x then (if x ≥ 2048 then x - 4096 else x) else -4096

theorem rv_iff {x : Int} : rv x = true ↔ 0 ≤ x ∧ x < 4096 := by simp [rv]
theorem rv_bd {x : Int} (h : rv x = true) : 0 ≤ x ∧ x < 4096 := rv_iff.1 h
theorem ro_bd (x : Int) : 0 ≤ ro x ∧ ro x < 4096 := by unfold ro; omega
theorem rv_ro (x : Int) : rv (ro x) = true := rv_iff.2 (ro_bd x)
theorem ro_rv {x : Int} (h : rv x = true) : ro x = x := by have := rv_bd h; unfold ro; omega

theorem and_ring (x : Int) : bits .and .i64 x 4095 = ro x := by
  have e : (BitVec.ofInt 64 (4095 : Int)) = BitVec.ofNat 64 4095 := rfl
  show IntKind.i64.wrap ((BitVec.ofInt 64 x &&& BitVec.ofInt 64 4095).toNat : Int) = _
  have h2 : (BitVec.ofInt 64 x &&& BitVec.ofInt 64 4095).toNat = (BitVec.ofInt 64 x).toNat % 4096 := by
    rw [BitVec.toNat_and, e, BitVec.toNat_ofNat]
    exact Nat.and_two_pow_sub_one_eq_mod _ 12
  rw [h2, IntKind.wrap_i64]
  have h3 : (BitVec.ofInt 64 x).toNat = (x % 18446744073709551616).toNat := by
    rw [BitVec.toNat_ofInt]; rfl
  rw [h3]
  unfold ro
  omega
theorem and_same (x : Int) : (bits .and .i64 x 4095 == x) = rv x := by
  rw [and_ring, Bool.eq_iff_iff, beq_iff_eq, rv_iff]
  unfold ro
  omega
theorem tmod_ring (x : Int) : (wrap64 (x.tmod 4096 + 4096)).tmod 4096 = ro x := by
  have h : -4096 < x.tmod 4096 ∧ x.tmod 4096 < 4096 ∧ x.tmod 4096 % 4096 = x % 4096 := by
    rcases Int.le_total 0 x with h | h
    · rw [Int.tmod_eq_emod_of_nonneg h]; omega
    · obtain ⟨y, rfl⟩ : ∃ y, x = -y := ⟨-x, by omega⟩
      rw [Int.neg_tmod, Int.tmod_eq_emod_of_nonneg (by omega)]; omega
  generalize x.tmod 4096 = t at h
  have e : wrap64 (t + 4096) = t + 4096 := by unfold wrap64; omega
  rw [e, Int.tmod_eq_emod_of_nonneg (by omega)]
  unfold ro
  omega

/-! ### Shares -/
structure Sh where
  a : Int
  b : Int
def Sh.ok (s : Sh) : Bool := rv s.a && rv s.b
def Sh.none_ : Sh := ⟨-1, -1⟩
def splitN (x r : Int) : Sh := if rv x && rv r then ⟨r, subR x r⟩ else Sh.none_
def joinS (s : Sh) : Int := addR s.a s.b
def addS (x y : Sh) : Sh := if x.ok && y.ok then ⟨addR x.a y.a, addR x.b y.b⟩ else Sh.none_
def subS (x y : Sh) : Sh := if x.ok && y.ok then ⟨subR x.a y.a, subR x.b y.b⟩ else Sh.none_
def addK (x : Sh) (k : Int) : Sh := if x.ok && rv k then ⟨addR x.a k, x.b⟩ else Sh.none_
def timesK (x : Sh) (k : Int) : Sh := if x.ok && rv k then ⟨mulR x.a k, mulR x.b k⟩ else Sh.none_

/-! ### Checked numbers -/
structure Ck where
  v : Sh
  m : Sh
def Ck.ok (c : Ck) : Bool := c.v.ok && c.m.ok
def Ck.none_ : Ck := ⟨Sh.none_, Sh.none_⟩
def keyOk (k : Int) : Bool := rv k && decide (k % 2 = 1)
def addC (x y : Ck) : Ck := ⟨addS x.v y.v, addS x.m y.m⟩
def timesC (x : Ck) (k : Int) : Ck := ⟨timesK x.v k, timesK x.m k⟩
def openOk (c : Ck) (k : Int) : Bool := c.ok && keyOk k && decide (joinS c.m = mulR (joinS c.v) k)
def openC (c : Ck) (k : Int) : Int := if openOk c k then joinS c.v else -1
def ckN (x k : Int) (rs : List Int) : Ck := if rv x && keyOk k && decide (rs.length = 2) && rs.all rv then ⟨splitN x (rs.getD 0 0), splitN (mulR x k) (rs.getD 1 0)⟩ else Ck.none_

/-! ### Fair lists -/
def fair (xs : List Int) : Bool := decide (xs.length = 4096) && xs.all (fun x => decide (x = 1))

/-! ### Tables of numbers -/
def tab (n : Nat) (f : Nat → Int) : List Int := (List.range n).map f
theorem tab_length (n : Nat) (f : Nat → Int) : (tab n f).length = n := by simp [tab]
theorem tab_getD (n : Nat) (f : Nat → Int) (i : Nat) (h : i < n) : (tab n f).getD i 0 = f i := by simp [tab, h]
theorem tab_set (n : Nat) (f : Nat → Int) (i : Nat) (v : Int) : (tab n f).set i v = tab n (fun j => if j = i then v else f j) := by
  apply List.ext_getElem?
  intro k
  rw [List.getElem?_set]
  simp only [tab, List.getElem?_map, List.length_map, List.length_range]
  by_cases hk : k < n
  · by_cases h : i = k
    · subst h; simp [hk]
    · simp [hk, h, Ne.symm h]
  · have : (List.range n)[k]? = none := by simp; omega
    rw [this]
    by_cases h : i = k
    · subst h; simp [hk]
    · simp [h]
theorem tab_congr (n : Nat) (f g : Nat → Int) (h : ∀ i, i < n → f i = g i) : tab n f = tab n g := by
  unfold tab
  exact List.map_congr_left fun i hi => h i (List.mem_range.1 hi)
theorem tab_const (n : Nat) (c : Int) : tab n (fun _ => c) = List.replicate n c := by
  apply List.ext_getElem?
  intro k
  by_cases hk : k < n <;> simp [tab, hk]
theorem tab_zero (n : Nat) : tab n (fun _ => 0) = List.replicate n 0 := tab_const n 0
def bump (xs : List Int) (i : Nat) : List Int := xs.set i (wrap64 (xs.getD i 0 + 1))
def bumps (c : Nat → Nat) : Nat → List Int
  | 0 => tab 4096 fun _ => 0
  | k + 1 => bump (bumps c k) (c k)
theorem bumps_length (c : Nat → Nat) : ∀ k, (bumps c k).length = 4096
  | 0 => tab_length _ _
  | k + 1 => by show ((bumps c k).set _ _).length = _; rw [List.length_set]; exact bumps_length c k
/-- The ring number that stands for x - k, as a place. -/
def subAt (x : Int) (k : Nat) : Nat := (ro (x - k)).toNat
theorem subAt_lt (x : Int) (k : Nat) : subAt x k < 4096 := by have := ro_bd (x - k); unfold subAt; omega
theorem subAt_ro (x : Int) (k : Nat) : ro (x - k) = (subAt x k : Int) := by have := ro_bd (x - k); unfold subAt; omega
theorem split_at {x : Int} {k : Nat} (hx : rv x = true) (hk : k < 4096) : splitN x k = ⟨k, (subAt x k : Int)⟩ := by
  have h : rv (k : Int) = true := rv_iff.2 ⟨by omega, by omega⟩
  simp [splitN, hx, h, subR, subAt_ro]
/-- The ring number x + k, as a place. -/
def addAt (x : Int) (k : Nat) : Nat := (ro (x + k)).toNat
theorem addAt_lt (x : Int) (k : Nat) : addAt x k < 4096 := by have := ro_bd (x + k); unfold addAt; omega
theorem addAt_ro (x : Int) (k : Nat) : ro (x + k) = (addAt x k : Int) := by have := ro_bd (x + k); unfold addAt; omega
theorem add_at {x : Int} {k : Nat} (hx : rv x = true) (hk : k < 4096) : addR x k = (addAt x k : Int) := by
  have h : rv (k : Int) = true := rv_iff.2 ⟨by omega, by omega⟩
  simp [addR, hx, h, addAt_ro]
theorem join_bd {s : Sh} (h : s.ok = true) : rv (joinS s) = true := by
  simp only [Sh.ok, Bool.and_eq_true] at h
  simp [joinS, addR, h.1, h.2, rv_ro]
def splitV1 (x : Int) : List Int := if rv x then bumps (fun k => k) 4096 else []
def splitV2 (x : Int) : List Int := if rv x then bumps (subAt x) 4096 else []
def tableV (s : Sh) : List Int := if s.ok then bumps (addAt (joinS s)) 4096 else []
theorem ints_tab_zero (n : Nat) : (madeCells #[Value.int .i64 0] n).toList = ints (tab n fun _ => 0) := by
  rw [toList_madeCells_one, tab_zero]; simp [ints]
theorem fair_ones : fair (tab 4096 fun _ => 1) = true := by
  rw [tab_const]
  generalize h : 4096 = n
  unfold fair
  rw [List.length_replicate, ← h]
  simp only [decide_true, Bool.true_and, List.all_eq_true]
  intro x hx
  simpa using (List.mem_replicate.1 hx).2

/-! ### Needs -/
structure Nd where
  t : Int
  m : Int
  b : Int
  o : Int
def addN (x y : Nd) : Nd := ⟨wrap64 (x.t + y.t), wrap64 (x.m + y.m), wrap64 (x.b + y.b), wrap64 (x.o + y.o)⟩
end Go.Proofs.Ytdfpceobfficfaa
