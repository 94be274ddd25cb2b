/-
  Contracts of the ring functions, of the program and of the reference alike.
-/
import Derived.Test.YtdfpceobfficfaaPure
import Derived.Test.YtdfpceobfficfaaRows
namespace Go.Proofs.Ytdfpceobfficfaa
set_option linter.unusedSimpArgs false
set_option linter.unusedVariables false
set_option linter.unusedSectionVars false
open Go Go.RowKit
set_option maxHeartbeats 400000

theorem C_impl_RingValid (n : Int) (w0 : World) : Calls Try.prog 40 #[.int .i64 n] w0 fun e w' => e = .returned (.bool (rv n)) ∧ w0 = w' := by
  go_enter Try.func40, Try.ntmps40
  go_wp2
  go_ret
  exact ⟨by simp [and_same], rfl⟩
theorem C_impl_RingOf (n : Int) (w0 : World) : Calls Try.prog 127 #[.int .i64 n] w0 fun e w' => e = .returned (.int .i64 (ro n)) ∧ w0 = w' := by
  go_enter Try.func127, Try.ntmps127
  go_wp2
  go_ret
  exact ⟨by simp [and_ring], rfl⟩
theorem C_spec_l1In (n lo hi : Int) (w0 : World) : Calls Try.prog 48 #[.int .i64 n, .int .i64 lo, .int .i64 hi] w0 fun e w' => e = .returned (.bool (decide (lo ≤ n) && decide (n ≤ hi))) ∧ w0 = w' := by
  go_enter Try.func48, Try.ntmps48
  go_wp2
  all_goals (go_ret; refine ⟨?_, rfl⟩; simp; omega)
theorem C_spec_l1Ring (n : Int) (w0 : World) : Calls Try.prog 94 #[.int .i64 n] w0 fun e w' => e = .returned (.int .i64 (ro n)) ∧ w0 = w' := by
  go_enter Try.func94, Try.ntmps94
  go_wp2
  go_ret
  exact ⟨by simp [tmod_ring], rfl⟩
theorem C_spec_RingValid (n : Int) (w0 : World) : Calls Try.prog 99 #[.int .i64 n] w0 fun e w' => e = .returned (.bool (rv n)) ∧ w0 = w' := by
  go_enter Try.func99, Try.ntmps99
  go_wp2_with (first | (go_at_call 48; refine (C_spec_l1In _ _ _ _).mono ?_; rintro e w' ⟨rfl, rfl⟩))
  go_ret
  refine ⟨?_, rfl⟩
  have : rv n = (decide (0 ≤ n) && decide (n ≤ 4095)) := by rw [Bool.eq_iff_iff, rv_iff]; simp; omega
  rw [this]
  rfl
theorem C_impl_AddRing (a b : Int) (w0 : World) : Calls Try.prog 107 #[.int .i64 a, .int .i64 b] w0 fun e w' => e = .returned (.int .i64 (addR a b)) ∧ w0 = w' := by
  by_cases h : rv a = true ∧ rv b = true
  · obtain ⟨h1, h2⟩ := h
    obtain ⟨b1, b2⟩ := rv_bd h1
    obtain ⟨b3, b4⟩ := rv_bd h2
    go_enter Try.func107, Try.ntmps107
    go_wp2_with (first | (go_at_call 40; refine (C_impl_RingValid _ _).mono ?_; rintro e w' ⟨rfl, rfl⟩) | (go_at_call 127; refine (C_impl_RingOf _ _).mono ?_; rintro e w' ⟨rfl, rfl⟩))
    go_ret
    exact ⟨by simp [addR, h1, h2], rfl⟩
  · have e : addR a b = -1 := by unfold addR; rw [if_neg (by simpa using h)]
    rw [e]
    by_cases h1 : rv a = true
    · have h2 : rv b = false := by simpa [h1] using h
      go_enter Try.func107, Try.ntmps107
      go_wp2_with (first | (go_at_call 40; refine (C_impl_RingValid _ _).mono ?_; rintro e w' ⟨rfl, rfl⟩) | (go_at_call 127; refine (C_impl_RingOf _ _).mono ?_; rintro e w' ⟨rfl, rfl⟩))
      go_ret
      exact ⟨rfl, rfl⟩
    · have h1' : rv a = false := by simpa using h1
      clear h h1 e
      go_enter Try.func107, Try.ntmps107
      go_wp2_with (first | (go_at_call 40; refine (C_impl_RingValid _ _).mono ?_; rintro e w' ⟨rfl, rfl⟩) | (go_at_call 127; refine (C_impl_RingOf _ _).mono ?_; rintro e w' ⟨rfl, rfl⟩))
      go_ret
      exact ⟨rfl, rfl⟩
theorem C_impl_SubRing (a b : Int) (w0 : World) : Calls Try.prog 112 #[.int .i64 a, .int .i64 b] w0 fun e w' => e = .returned (.int .i64 (subR a b)) ∧ w0 = w' := by
  by_cases h : rv a = true ∧ rv b = true
  · obtain ⟨h1, h2⟩ := h
    obtain ⟨b1, b2⟩ := rv_bd h1
    obtain ⟨b3, b4⟩ := rv_bd h2
    go_enter Try.func112, Try.ntmps112
    go_wp2_with (first | (go_at_call 40; refine (C_impl_RingValid _ _).mono ?_; rintro e w' ⟨rfl, rfl⟩) | (go_at_call 127; refine (C_impl_RingOf _ _).mono ?_; rintro e w' ⟨rfl, rfl⟩))
    go_ret
    exact ⟨by simp [subR, h1, h2], rfl⟩
  · have e : subR a b = -1 := by unfold subR; rw [if_neg (by simpa using h)]
    rw [e]
    by_cases h1 : rv a = true
    · have h2 : rv b = false := by simpa [h1] using h
      go_enter Try.func112, Try.ntmps112
      go_wp2_with (first | (go_at_call 40; refine (C_impl_RingValid _ _).mono ?_; rintro e w' ⟨rfl, rfl⟩) | (go_at_call 127; refine (C_impl_RingOf _ _).mono ?_; rintro e w' ⟨rfl, rfl⟩))
      go_ret
      exact ⟨rfl, rfl⟩
    · have h1' : rv a = false := by simpa using h1
      clear h h1 e
      go_enter Try.func112, Try.ntmps112
      go_wp2_with (first | (go_at_call 40; refine (C_impl_RingValid _ _).mono ?_; rintro e w' ⟨rfl, rfl⟩) | (go_at_call 127; refine (C_impl_RingOf _ _).mono ?_; rintro e w' ⟨rfl, rfl⟩))
      go_ret
      exact ⟨rfl, rfl⟩
theorem C_impl_MulRing (a b : Int) (w0 : World) : Calls Try.prog 173 #[.int .i64 a, .int .i64 b] w0 fun e w' => e = .returned (.int .i64 (mulR a b)) ∧ w0 = w' := by
  by_cases h : rv a = true ∧ rv b = true
  · obtain ⟨h1, h2⟩ := h
    obtain ⟨b1, b2⟩ := rv_bd h1
    obtain ⟨b3, b4⟩ := rv_bd h2
    have m1 : 0 ≤ a * b := Int.mul_nonneg (by omega) (by omega)
    have m2 : a * b ≤ 4095 * 4095 := Int.mul_le_mul (by omega) (by omega) (by omega) (by omega)
    go_enter Try.func173, Try.ntmps173
    go_wp2_with (first | (go_at_call 40; refine (C_impl_RingValid _ _).mono ?_; rintro e w' ⟨rfl, rfl⟩) | (go_at_call 127; refine (C_impl_RingOf _ _).mono ?_; rintro e w' ⟨rfl, rfl⟩))
    go_ret
    exact ⟨by simp [mulR, h1, h2], rfl⟩
  · have e : mulR a b = -1 := by unfold mulR; rw [if_neg (by simpa using h)]
    rw [e]
    by_cases h1 : rv a = true
    · have h2 : rv b = false := by simpa [h1] using h
      go_enter Try.func173, Try.ntmps173
      go_wp2_with (first | (go_at_call 40; refine (C_impl_RingValid _ _).mono ?_; rintro e w' ⟨rfl, rfl⟩) | (go_at_call 127; refine (C_impl_RingOf _ _).mono ?_; rintro e w' ⟨rfl, rfl⟩))
      go_ret
      exact ⟨rfl, rfl⟩
    · have h1' : rv a = false := by simpa using h1
      clear h h1 e
      go_enter Try.func173, Try.ntmps173
      go_wp2_with (first | (go_at_call 40; refine (C_impl_RingValid _ _).mono ?_; rintro e w' ⟨rfl, rfl⟩) | (go_at_call 127; refine (C_impl_RingOf _ _).mono ?_; rintro e w' ⟨rfl, rfl⟩))
      go_ret
      exact ⟨rfl, rfl⟩
theorem C_spec_AddRing (a b : Int) (w0 : World) : Calls Try.prog 109 #[.int .i64 a, .int .i64 b] w0 fun e w' => e = .returned (.int .i64 (addR a b)) ∧ w0 = w' := by
  by_cases h : rv a = true ∧ rv b = true
  · obtain ⟨h1, h2⟩ := h
    obtain ⟨b1, b2⟩ := rv_bd h1
    obtain ⟨b3, b4⟩ := rv_bd h2
    go_enter Try.func109, Try.ntmps109
    go_wp2_with (first | (go_at_call 99; refine (C_spec_RingValid _ _).mono ?_; rintro e w' ⟨rfl, rfl⟩) | (go_at_call 94; refine (C_spec_l1Ring _ _).mono ?_; rintro e w' ⟨rfl, rfl⟩))
    go_ret
    exact ⟨by simp [addR, h1, h2], rfl⟩
  · have e : addR a b = -1 := by unfold addR; rw [if_neg (by simpa using h)]
    rw [e]
    by_cases h1 : rv a = true
    · have h2 : rv b = false := by simpa [h1] using h
      go_enter Try.func109, Try.ntmps109
      go_wp2_with (first | (go_at_call 99; refine (C_spec_RingValid _ _).mono ?_; rintro e w' ⟨rfl, rfl⟩) | (go_at_call 94; refine (C_spec_l1Ring _ _).mono ?_; rintro e w' ⟨rfl, rfl⟩))
      go_ret
      exact ⟨rfl, rfl⟩
    · have h1' : rv a = false := by simpa using h1
      clear h h1 e
      go_enter Try.func109, Try.ntmps109
      go_wp2_with (first | (go_at_call 99; refine (C_spec_RingValid _ _).mono ?_; rintro e w' ⟨rfl, rfl⟩) | (go_at_call 94; refine (C_spec_l1Ring _ _).mono ?_; rintro e w' ⟨rfl, rfl⟩))
      go_ret
      exact ⟨rfl, rfl⟩
theorem C_spec_SubRing (a b : Int) (w0 : World) : Calls Try.prog 115 #[.int .i64 a, .int .i64 b] w0 fun e w' => e = .returned (.int .i64 (subR a b)) ∧ w0 = w' := by
  by_cases h : rv a = true ∧ rv b = true
  · obtain ⟨h1, h2⟩ := h
    obtain ⟨b1, b2⟩ := rv_bd h1
    obtain ⟨b3, b4⟩ := rv_bd h2
    go_enter Try.func115, Try.ntmps115
    go_wp2_with (first | (go_at_call 99; refine (C_spec_RingValid _ _).mono ?_; rintro e w' ⟨rfl, rfl⟩) | (go_at_call 94; refine (C_spec_l1Ring _ _).mono ?_; rintro e w' ⟨rfl, rfl⟩))
    go_ret
    exact ⟨by simp [subR, h1, h2], rfl⟩
  · have e : subR a b = -1 := by unfold subR; rw [if_neg (by simpa using h)]
    rw [e]
    by_cases h1 : rv a = true
    · have h2 : rv b = false := by simpa [h1] using h
      go_enter Try.func115, Try.ntmps115
      go_wp2_with (first | (go_at_call 99; refine (C_spec_RingValid _ _).mono ?_; rintro e w' ⟨rfl, rfl⟩) | (go_at_call 94; refine (C_spec_l1Ring _ _).mono ?_; rintro e w' ⟨rfl, rfl⟩))
      go_ret
      exact ⟨rfl, rfl⟩
    · have h1' : rv a = false := by simpa using h1
      clear h h1 e
      go_enter Try.func115, Try.ntmps115
      go_wp2_with (first | (go_at_call 99; refine (C_spec_RingValid _ _).mono ?_; rintro e w' ⟨rfl, rfl⟩) | (go_at_call 94; refine (C_spec_l1Ring _ _).mono ?_; rintro e w' ⟨rfl, rfl⟩))
      go_ret
      exact ⟨rfl, rfl⟩
theorem C_spec_MulRing (a b : Int) (w0 : World) : Calls Try.prog 125 #[.int .i64 a, .int .i64 b] w0 fun e w' => e = .returned (.int .i64 (mulR a b)) ∧ w0 = w' := by
  by_cases h : rv a = true ∧ rv b = true
  · obtain ⟨h1, h2⟩ := h
    obtain ⟨b1, b2⟩ := rv_bd h1
    obtain ⟨b3, b4⟩ := rv_bd h2
    have m1 : 0 ≤ a * b := Int.mul_nonneg (by omega) (by omega)
    have m2 : a * b ≤ 4095 * 4095 := Int.mul_le_mul (by omega) (by omega) (by omega) (by omega)
    go_enter Try.func125, Try.ntmps125
    go_wp2_with (first | (go_at_call 99; refine (C_spec_RingValid _ _).mono ?_; rintro e w' ⟨rfl, rfl⟩) | (go_at_call 94; refine (C_spec_l1Ring _ _).mono ?_; rintro e w' ⟨rfl, rfl⟩))
    go_ret
    exact ⟨by simp [mulR, h1, h2], rfl⟩
  · have e : mulR a b = -1 := by unfold mulR; rw [if_neg (by simpa using h)]
    rw [e]
    by_cases h1 : rv a = true
    · have h2 : rv b = false := by simpa [h1] using h
      go_enter Try.func125, Try.ntmps125
      go_wp2_with (first | (go_at_call 99; refine (C_spec_RingValid _ _).mono ?_; rintro e w' ⟨rfl, rfl⟩) | (go_at_call 94; refine (C_spec_l1Ring _ _).mono ?_; rintro e w' ⟨rfl, rfl⟩))
      go_ret
      exact ⟨rfl, rfl⟩
    · have h1' : rv a = false := by simpa using h1
      clear h h1 e
      go_enter Try.func125, Try.ntmps125
      go_wp2_with (first | (go_at_call 99; refine (C_spec_RingValid _ _).mono ?_; rintro e w' ⟨rfl, rfl⟩) | (go_at_call 94; refine (C_spec_l1Ring _ _).mono ?_; rintro e w' ⟨rfl, rfl⟩))
      go_ret
      exact ⟨rfl, rfl⟩
end Go.Proofs.Ytdfpceobfficfaa
