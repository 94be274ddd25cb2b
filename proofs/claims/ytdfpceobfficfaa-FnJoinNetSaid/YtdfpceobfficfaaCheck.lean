/-
  Contracts: splitting numbers, checked numbers, lists of ring numbers.
-/
import Derived.Test.YtdfpceobfficfaaShare
import Derived.Test.YtdfpceobfficfaaView
namespace Go.Proofs.Ytdfpceobfficfaa
set_option linter.unusedSimpArgs false
set_option linter.unusedVariables false
set_option linter.unusedSectionVars false
open Go Go.RowKit
set_option maxHeartbeats 1000000
set_option maxRecDepth 20000

theorem key_bd {k : Int} (h : keyOk k = true) : rv k = true ∧ 0 ≤ k ∧ k < 4096 ∧ (k % 2 == 1) = true ∧ (k % 2 == 0) = false := by
  simp only [keyOk, Bool.and_eq_true, decide_eq_true_eq] at h
  obtain ⟨h1, h2⟩ := h
  have := rv_bd h1
  refine ⟨h1, this.1, this.2, by rw [h2]; rfl, by rw [h2]; rfl⟩
theorem key_odd {k : Int} (h1 : rv k = true) (h : keyOk k = false) : (k % 2 == 0) = true := by
  have : ¬ k % 2 = 1 := by intro h2; simp [keyOk, h1, h2] at h
  have h3 : k % 2 = 0 := by omega
  rw [h3]; rfl
theorem C_impl_allRing (v : Value) (xs : List Int) (w0 : World) (h : Ints w0 v xs) :
    Calls Try.prog 96 #[v] w0 fun e w' => e = .returned (.bool (xs.all rv)) ∧ w0 = w' := by
  obtain ⟨hl, A, cap, rfl, hcap, hmax, hA⟩ := h
  obtain ⟨n, hx⟩ : ∃ n, xs.length = n := ⟨_, rfl⟩
  rw [hx] at hcap hA ⊢
  have HX := Lib.hid hx
  have HA := Lib.hid hA
  clear hl hA hx
  unfold maxLen at hmax
  go_enter Try.func96, Try.ntmps96
  go_wp2
  go_loop [7] (fun i => ∃ (k : Nat), k ≤ n ∧ i = .int .i64 k ∧ Hid (∀ j, j < k → rv (xs.getD j 0) = true)) (fun i => n - (intOf i).toNat)
  case atStart => exact ⟨0, Nat.zero_le _, rfl, fun j hj => absurd hj (by omega)⟩
  case round =>
    obtain ⟨k, hk, rfl, hall⟩ := hrel
    by_cases hlt : k < n
    · obtain ⟨b, off, rfl, hb, hc⟩ := HA.out (by omega)
      have c1 := hc k _ (ints_getD xs k (by rw [HX.out]; exact hlt))
      clear hc
      obtain ⟨y, hy⟩ : ∃ y, xs.getD k 0 = y := ⟨_, rfl⟩
      rw [hy] at c1
      have HY := Lib.hid hy
      clear hy
      by_cases hone : rv y = true
      · have Hone := Lib.hid hone
        go_wp2_with (first | (go_at_call 40; refine (C_impl_RingValid _ _).mono ?_; rintro e w' ⟨rfl, rfl⟩))
        go_round
        case rel =>
          refine ⟨k + 1, by omega, by go_num, fun j hj => ?_⟩
          rcases Nat.lt_or_ge j k with h | h
          · exact hall.out j h
          · obtain rfl : j = k := by omega
            rw [HY.out]
            exact Hone.out
        case measure => simp [intOf]; omega
      · have hone' : rv y = false := by simpa using hone
        clear hone
        go_wp2_with (first | (go_at_call 40; refine (C_impl_RingValid _ _).mono ?_; rintro e w' ⟨rfl, rfl⟩))
        go_ret
        refine ⟨?_, rfl⟩
        have : xs.all rv = false := by
          rw [List.all_eq_false]
          have hk' : k < xs.length := by rw [HX.out]; exact hlt
          refine ⟨xs.getD k 0, ?_, by rw [HY.out, hone']; simp⟩
          rw [List.getD_eq_getElem?_getD, List.getElem?_eq_getElem hk']
          exact List.getElem_mem hk'
        rw [this]
        rfl
    · obtain rfl : k = n := by omega
      go_wp2
      go_ret
      refine ⟨?_, rfl⟩
      have : xs.all rv = true := by
        rw [List.all_eq_true]
        intro x hx
        obtain ⟨j, hj, rfl⟩ := List.mem_iff_getElem.1 hx
        have := hall.out j (by rw [← HX.out]; exact hj)
        rw [List.getD_eq_getElem?_getD, List.getElem?_eq_getElem hj] at this
        exact this
      rw [this]
      rfl
theorem two_of : ∀ {zs : List Int}, zs.length = 2 → ∃ a b, zs = [a, b]
  | [a, b], _ => ⟨a, b, rfl⟩
theorem Ints.two {w : World} {v : Value} {a b : Int} (h : Ints w v [a, b]) : ∃ g off cap, v = .slice (some ⟨g, off, none⟩) 2 cap ∧ 2 ≤ cap ∧ cap ≤ maxLen ∧ g < w.heap.size ∧
    w.cell? ⟨g, off, none⟩ = some (.int .i64 a) ∧ w.cell? ⟨g, off + 1, none⟩ = some (.int .i64 b) := by
  obtain ⟨_, A, cap, rfl, hcap, hmax, hA⟩ := h
  obtain ⟨g, off, rfl, hg, hc⟩ := hA (by simp)
  exact ⟨g, off, cap, rfl, hcap, hmax, hg, hc 0 _ rfl, hc 1 _ rfl⟩
end Go.Proofs.Ytdfpceobfficfaa
