/-
  Plain laws: places that are met once each are counted once each. No program in sight.
-/
import Derived.Test.YtoekfgmjlnjflabPure
namespace Go.Proofs.Ytoekfgmjlnjflab
set_option linter.unusedSimpArgs false
set_option linter.unusedVariables false
set_option linter.unusedSectionVars false
open Go Go.RowKit
theorem bumps_count (c : Nat → Nat) (hinj : ∀ i j, i < 4096 → j < 4096 → c i = c j → i = j) (hlt : ∀ i, i < 4096 → c i < 4096) : ∀ k, k ≤ 4096 → ∀ i, i < 4096 →
    ((∃ j, j < k ∧ c j = i) → (bumps c k).getD i 0 = 1) ∧ ((¬ ∃ j, j < k ∧ c j = i) → (bumps c k).getD i 0 = 0)
  | 0, _, i, hi => ⟨fun ⟨j, hj, _⟩ => absurd hj (by omega), fun _ => tab_getD 4096 _ i hi⟩
  | k + 1, hk, i, hi => by
    have ih := bumps_count c hinj hlt k (by omega)
    have hl := bumps_length c k
    have hck := hlt k (by omega)
    have hset : (bumps c (k + 1)).getD i 0 = if c k = i then wrap64 ((bumps c k).getD (c k) 0 + 1) else (bumps c k).getD i 0 := by
      show ((bumps c k).set (c k) _).getD i 0 = _
      simp only [List.getD_eq_getElem?_getD, List.getElem?_set, hl, hck, if_true]
      split <;> rfl
    have h0 : (bumps c k).getD (c k) 0 = 0 := (ih (c k) hck).2 (fun ⟨j, hj, he⟩ => absurd (hinj j k (by omega) (by omega) he) (by omega))
    rw [hset]
    constructor
    · rintro ⟨j, hj, he⟩
      by_cases h : c k = i
      · rw [if_pos h, h0]; unfold wrap64; omega
      · rw [if_neg h]
        refine (ih i hi).1 ⟨j, ?_, he⟩
        rcases Nat.lt_or_ge j k with h' | h'
        · exact h'
        · exact absurd (by rw [← he]; congr 1; omega) h
    · intro hno
      have h : ¬ c k = i := fun h => hno ⟨k, by omega, h⟩
      rw [if_neg h]
      exact (ih i hi).2 (fun ⟨j, hj, he⟩ => hno ⟨j, by omega, he⟩)
theorem fair_of {B : List Int} {n : Nat} (hn : n = 4096) (hl : B.length = n) (h : ∀ i, i < n → B.getD i 0 = 1) : fair B = true := by
  unfold fair
  rw [hl, decide_eq_true hn, Bool.true_and, List.all_eq_true]
  intro x hx
  obtain ⟨i, hi, rfl⟩ := List.mem_iff_getElem.1 hx
  have := h i (by omega)
  rw [List.getD_eq_getElem?_getD, List.getElem?_eq_getElem hi] at this
  simpa using this
theorem bumps_fair (c d : Nat → Nat) (hinj : ∀ i j, i < 4096 → j < 4096 → c i = c j → i = j) (hlt : ∀ i, i < 4096 → c i < 4096) (hd : ∀ i, i < 4096 → d i < 4096 ∧ c (d i) = i) (n : Nat) (hn : n = 4096) : fair (bumps c n) = true := by
  refine fair_of hn ((bumps_length c n).trans hn.symm) fun i hi => ?_
  exact (bumps_count c hinj hlt n (by omega) i (by omega)).1 ⟨d i, by have := (hd i (by omega)).1; omega, (hd i (by omega)).2⟩
theorem fair_first : fair (bumps (fun k => k) 4096) = true := bumps_fair _ (fun k => k) (fun _ _ _ _ h => h) (fun _ h => h) (fun i h => ⟨h, rfl⟩) _ rfl
theorem fair_sub (x : Int) : fair (bumps (subAt x) 4096) = true :=
  bumps_fair _ (subAt x) (fun i j hi hj h => by unfold subAt ro at h; omega) (fun i _ => subAt_lt x i) (fun i hi => ⟨subAt_lt x i, by unfold subAt ro; omega⟩) _ rfl
theorem fair_add (x : Int) : fair (bumps (addAt x) 4096) = true :=
  bumps_fair _ (fun i => (ro ((i : Int) - x)).toNat) (fun i j hi hj h => by unfold addAt ro at h; omega) (fun i _ => addAt_lt x i) (fun i hi => ⟨by unfold ro; omega, by unfold addAt ro; omega⟩) _ rfl
end Go.Proofs.Ytoekfgmjlnjflab
