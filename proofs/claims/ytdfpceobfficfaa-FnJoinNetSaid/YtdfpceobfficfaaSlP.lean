/-
  Shared layers: sizes as the laws reckon them; plain. No statement about the program is made here.
-/
import Derived.Test.YtdfpceobfficfaaSl
import Derived.Test.YtdfpceobfficfaaLyP
namespace Go.Proofs.Ytdfpceobfficfaa
set_option linter.unusedSimpArgs false
set_option linter.unusedVariables false
set_option linter.unusedSectionVars false
open Go Go.RowKit
def szSMsFrom : List SMx → Int → Int
  | [], k => k
  | m :: ms, k => if k - m.a.xs.length - m.b.xs.length < 0 then -1 else szSMsFrom ms (k - m.a.xs.length - m.b.xs.length)
def szSMs (ms : List SMx) (k : Int) : Int := if k - ms.length < 0 then -1 else szSMsFrom ms (k - ms.length)
def szSLsFrom : List SLy → Int → Int
  | [], k => k
  | l :: ls, k => if szSMs l.ws k < 0 then -1 else szSLsFrom ls (szSMs l.ws k)
def szSLs (ls : List SLy) (k : Int) : Int := if k - ls.length < 0 then -1 else szSLsFrom ls (k - ls.length)
theorem szSMsFrom_le : ∀ (ms : List SMx) (k : Int), 0 ≤ k → szSMsFrom ms k ≤ k
  | [], k, _ => Int.le_refl _
  | m :: ms, k, hk => by
    unfold szSMsFrom
    split
    · omega
    · have := szSMsFrom_le ms (k - m.a.xs.length - m.b.xs.length) (by omega)
      omega
theorem szSMs_le (ms : List SMx) (k : Int) (hk : 0 ≤ k) : szSMs ms k ≤ k := by
  unfold szSMs
  split
  · omega
  · have := szSMsFrom_le ms (k - ms.length) (by omega)
    omega
def SMSmall (b : Nat) (m : SMx) : Prop := m.a.xs.length ≤ b ∧ m.b.xs.length ≤ b
theorem szSMsFrom_each : ∀ (ms : List SMx) (k : Int), 0 ≤ szSMsFrom ms k → ∀ m ∈ ms, (m.a.xs.length : Int) ≤ k ∧ (m.b.xs.length : Int) ≤ k
  | [], _, _, m, hm => by cases hm
  | m :: ms, k, h, m', hm => by
    unfold szSMsFrom at h
    split at h
    · omega
    · rcases List.mem_cons.1 hm with rfl | hm
      · omega
      · have := szSMsFrom_each ms _ h m' hm
        omega
theorem szSMs_each {ms : List SMx} {k : Int} (h : 0 ≤ szSMs ms k) : (ms.length : Int) ≤ k ∧ ∀ m ∈ ms, (m.a.xs.length : Int) ≤ k ∧ (m.b.xs.length : Int) ≤ k := by
  unfold szSMs at h
  split at h
  · omega
  · refine ⟨by omega, fun m hm => ?_⟩
    have := szSMsFrom_each ms _ h m hm
    omega
theorem szSMs_small {ms : List SMx} {k : Nat} (h : 0 ≤ szSMs ms k) : ms.length ≤ k ∧ ∀ m ∈ ms, SMSmall k m := by
  obtain ⟨h1, h2⟩ := szSMs_each h
  exact ⟨by omega, fun m hm => by have := h2 m hm; exact ⟨by omega, by omega⟩⟩
theorem szSLsFrom_le : ∀ (ls : List SLy) (k : Int), 0 ≤ k → szSLsFrom ls k ≤ k
  | [], k, _ => Int.le_refl _
  | l :: ls, k, hk => by
    unfold szSLsFrom
    split
    · omega
    · have := szSLsFrom_le ls (szSMs l.ws k) (by omega)
      have := szSMs_le l.ws k hk
      omega
def SLySmall (b : Nat) (l : SLy) : Prop := l.ws.length ≤ b ∧ ∀ m ∈ l.ws, SMSmall b m
theorem szSLsFrom_each : ∀ (ls : List SLy) (k : Int), 0 ≤ k → 0 ≤ szSLsFrom ls k → ∀ l ∈ ls, SLySmall k.toNat l
  | [], _, _, _, m, hm => by cases hm
  | l :: ls, k, hk, h, l', hl => by
    unfold szSLsFrom at h
    split at h
    · omega
    · rename_i h0
      have hle := szSMs_le l.ws k hk
      rcases List.mem_cons.1 hl with rfl | hl
      · obtain ⟨h1, h2⟩ := szSMs_each (Int.not_lt.1 h0)
        exact ⟨by omega, fun m hm => by have := h2 m hm; exact ⟨by omega, by omega⟩⟩
      · obtain ⟨h1, h2⟩ := szSLsFrom_each ls _ (by omega) h l' hl
        exact ⟨by omega, fun m hm => by obtain ⟨h3, h4⟩ := h2 m hm; exact ⟨by omega, by omega⟩⟩
theorem szSLs_each {ls : List SLy} {k : Nat} (h : 0 ≤ szSLs ls k) : ls.length ≤ k ∧ ∀ l ∈ ls, SLySmall k l := by
  unfold szSLs at h
  split at h
  · omega
  · refine ⟨by omega, fun l hl => ?_⟩
    obtain ⟨h1, h2⟩ := szSLsFrom_each ls _ (by omega) h l hl
    exact ⟨by omega, fun m hm => by obtain ⟨h3, h4⟩ := h2 m hm; exact ⟨by omega, by omega⟩⟩
theorem szSMsFrom_neg : ∀ (ms : List SMx) (k : Int), 0 ≤ k → szSMsFrom ms k < 0 → szSMsFrom ms k = -1
  | [], k, h, h' => by unfold szSMsFrom at h'; omega
  | m :: ms, k, h, h' => by
    unfold szSMsFrom at h' ⊢
    split
    · rfl
    · rename_i h0
      rw [if_neg h0] at h'
      exact szSMsFrom_neg ms _ (by omega) h'
theorem szSMs_neg (ms : List SMx) (k : Int) (h : szSMs ms k < 0) : szSMs ms k = -1 := by
  unfold szSMs at h ⊢
  split
  · rfl
  · rename_i h0
    rw [if_neg h0] at h
    exact szSMsFrom_neg ms _ (by omega) h
end Go.Proofs.Ytdfpceobfficfaa
