/-
  Contracts of the ring functions, of the program and of the reference alike.
-/
import Derived.Test.YtncbmmdldmdndaaPure
import Derived.Test.YtncbmmdldmdndaaRows
namespace Go.Proofs.Ytncbmmdldmdndaa
set_option linter.unusedSimpArgs false
set_option linter.unusedVariables false
set_option linter.unusedSectionVars false
open Go Go.RowKit
set_option maxHeartbeats 400000

theorem C_impl_RingValid (n : Int) (w0 : World) : Calls Try.prog 88 #[.int .i64 n] w0 fun e w' => e = .returned (.bool (rv n)) ∧ w0 = w' := by
  go_enter Try.func88, Try.ntmps88
  go_wp2
  go_ret
  exact ⟨by simp [and_same], rfl⟩
theorem C_impl_RingOf (n : Int) (w0 : World) : Calls Try.prog 122 #[.int .i64 n] w0 fun e w' => e = .returned (.int .i64 (ro n)) ∧ w0 = w' := by
  go_enter Try.func122, Try.ntmps122
  go_wp2
  go_ret
  exact ⟨by simp [and_ring], rfl⟩
theorem C_spec_l1In (n lo hi : Int) (w0 : World) : Calls Try.prog 72 #[.int .i64 n, .int .i64 lo, .int .i64 hi] w0 fun e w' => e = .returned (.bool (decide (lo ≤ n) && decide (n ≤ hi))) ∧ w0 = w' := by
  go_enter Try.func72, Try.ntmps72
  go_wp2
  all_goals (go_ret; refine ⟨?_, rfl⟩; simp; omega)
theorem C_spec_l1Ring (n : Int) (w0 : World) : Calls Try.prog 172 #[.int .i64 n] w0 fun e w' => e = .returned (.int .i64 (ro n)) ∧ w0 = w' := by
  go_enter Try.func172, Try.ntmps172
  go_wp2
  go_ret
  exact ⟨by simp [tmod_ring], rfl⟩
theorem C_spec_RingValid (n : Int) (w0 : World) : Calls Try.prog 140 #[.int .i64 n] w0 fun e w' => e = .returned (.bool (rv n)) ∧ w0 = w' := by
  go_enter Try.func140, Try.ntmps140
  go_wp2_with (first | (go_at_call 72; refine (C_spec_l1In _ _ _ _).mono ?_; rintro e w' ⟨rfl, rfl⟩))
  go_ret
  refine ⟨?_, rfl⟩
  have : rv n = (decide (0 ≤ n) && decide (n ≤ 4095)) := by rw [Bool.eq_iff_iff, rv_iff]; simp; omega
  rw [this]
  rfl
theorem C_impl_AddRing (a b : Int) (w0 : World) : Calls Try.prog 164 #[.int .i64 a, .int .i64 b] w0 fun e w' => e = .returned (.int .i64 (addR a b)) ∧ w0 = w' := by
  by_cases h : rv a = true ∧ rv b = true
  · obtain ⟨h1, h2⟩ := h
    obtain ⟨b1, b2⟩ := rv_bd h1
    obtain ⟨b3, b4⟩ := rv_bd h2
    go_enter Try.func164, Try.ntmps164
    go_wp2_with (first | (go_at_call 88; refine (C_impl_RingValid _ _).mono ?_; rintro e w' ⟨rfl, rfl⟩) | (go_at_call 122; refine (C_impl_RingOf _ _).mono ?_; rintro e w' ⟨rfl, rfl⟩))
    go_ret
    exact ⟨by simp [addR, h1, h2], rfl⟩
  · have e : addR a b = -1 := by unfold addR; rw [if_neg (by simpa using h)]
    rw [e]
    by_cases h1 : rv a = true
    · have h2 : rv b = false := by simpa [h1] using h
      go_enter Try.func164, Try.ntmps164
      go_wp2_with (first | (go_at_call 88; refine (C_impl_RingValid _ _).mono ?_; rintro e w' ⟨rfl, rfl⟩) | (go_at_call 122; refine (C_impl_RingOf _ _).mono ?_; rintro e w' ⟨rfl, rfl⟩))
      go_ret
      exact ⟨rfl, rfl⟩
    · have h1' : rv a = false := by simpa using h1
      clear h h1 e
      go_enter Try.func164, Try.ntmps164
      go_wp2_with (first | (go_at_call 88; refine (C_impl_RingValid _ _).mono ?_; rintro e w' ⟨rfl, rfl⟩) | (go_at_call 122; refine (C_impl_RingOf _ _).mono ?_; rintro e w' ⟨rfl, rfl⟩))
      go_ret
      exact ⟨rfl, rfl⟩
theorem C_impl_SubRing (a b : Int) (w0 : World) : Calls Try.prog 178 #[.int .i64 a, .int .i64 b] w0 fun e w' => e = .returned (.int .i64 (subR a b)) ∧ w0 = w' := by
  by_cases h : rv a = true ∧ rv b = true
  · obtain ⟨h1, h2⟩ := h
    obtain ⟨b1, b2⟩ := rv_bd h1
    obtain ⟨b3, b4⟩ := rv_bd h2
    go_enter Try.func178, Try.ntmps178
    go_wp2_with (first | (go_at_call 88; refine (C_impl_RingValid _ _).mono ?_; rintro e w' ⟨rfl, rfl⟩) | (go_at_call 122; refine (C_impl_RingOf _ _).mono ?_; rintro e w' ⟨rfl, rfl⟩))
    go_ret
    exact ⟨by simp [subR, h1, h2], rfl⟩
  · have e : subR a b = -1 := by unfold subR; rw [if_neg (by simpa using h)]
    rw [e]
    by_cases h1 : rv a = true
    · have h2 : rv b = false := by simpa [h1] using h
      go_enter Try.func178, Try.ntmps178
      go_wp2_with (first | (go_at_call 88; refine (C_impl_RingValid _ _).mono ?_; rintro e w' ⟨rfl, rfl⟩) | (go_at_call 122; refine (C_impl_RingOf _ _).mono ?_; rintro e w' ⟨rfl, rfl⟩))
      go_ret
      exact ⟨rfl, rfl⟩
    · have h1' : rv a = false := by simpa using h1
      clear h h1 e
      go_enter Try.func178, Try.ntmps178
      go_wp2_with (first | (go_at_call 88; refine (C_impl_RingValid _ _).mono ?_; rintro e w' ⟨rfl, rfl⟩) | (go_at_call 122; refine (C_impl_RingOf _ _).mono ?_; rintro e w' ⟨rfl, rfl⟩))
      go_ret
      exact ⟨rfl, rfl⟩
theorem C_impl_MulRing (a b : Int) (w0 : World) : Calls Try.prog 55 #[.int .i64 a, .int .i64 b] w0 fun e w' => e = .returned (.int .i64 (mulR a b)) ∧ w0 = w' := by
  by_cases h : rv a = true ∧ rv b = true
  · obtain ⟨h1, h2⟩ := h
    obtain ⟨b1, b2⟩ := rv_bd h1
    obtain ⟨b3, b4⟩ := rv_bd h2
    have m1 : 0 ≤ a * b := Int.mul_nonneg (by omega) (by omega)
    have m2 : a * b ≤ 4095 * 4095 := Int.mul_le_mul (by omega) (by omega) (by omega) (by omega)
    go_enter Try.func55, Try.ntmps55
    go_wp2_with (first | (go_at_call 88; refine (C_impl_RingValid _ _).mono ?_; rintro e w' ⟨rfl, rfl⟩) | (go_at_call 122; refine (C_impl_RingOf _ _).mono ?_; rintro e w' ⟨rfl, rfl⟩))
    go_ret
    exact ⟨by simp [mulR, h1, h2], rfl⟩
  · have e : mulR a b = -1 := by unfold mulR; rw [if_neg (by simpa using h)]
    rw [e]
    by_cases h1 : rv a = true
    · have h2 : rv b = false := by simpa [h1] using h
      go_enter Try.func55, Try.ntmps55
      go_wp2_with (first | (go_at_call 88; refine (C_impl_RingValid _ _).mono ?_; rintro e w' ⟨rfl, rfl⟩) | (go_at_call 122; refine (C_impl_RingOf _ _).mono ?_; rintro e w' ⟨rfl, rfl⟩))
      go_ret
      exact ⟨rfl, rfl⟩
    · have h1' : rv a = false := by simpa using h1
      clear h h1 e
      go_enter Try.func55, Try.ntmps55
      go_wp2_with (first | (go_at_call 88; refine (C_impl_RingValid _ _).mono ?_; rintro e w' ⟨rfl, rfl⟩) | (go_at_call 122; refine (C_impl_RingOf _ _).mono ?_; rintro e w' ⟨rfl, rfl⟩))
      go_ret
      exact ⟨rfl, rfl⟩
theorem C_spec_AddRing (a b : Int) (w0 : World) : Calls Try.prog 192 #[.int .i64 a, .int .i64 b] w0 fun e w' => e = .returned (.int .i64 (addR a b)) ∧ w0 = w' := by
  by_cases h : rv a = true ∧ rv b = true
  · obtain ⟨h1, h2⟩ := h
    obtain ⟨b1, b2⟩ := rv_bd h1
    obtain ⟨b3, b4⟩ := rv_bd h2
    go_enter Try.func192, Try.ntmps192
    go_wp2_with (first | (go_at_call 140; refine (C_spec_RingValid _ _).mono ?_; rintro e w' ⟨rfl, rfl⟩) | (go_at_call 172; refine (C_spec_l1Ring _ _).mono ?_; rintro e w' ⟨rfl, rfl⟩))
    go_ret
    exact ⟨by simp [addR, h1, h2], rfl⟩
  · have e : addR a b = -1 := by unfold addR; rw [if_neg (by simpa using h)]
    rw [e]
    by_cases h1 : rv a = true
    · have h2 : rv b = false := by simpa [h1] using h
      go_enter Try.func192, Try.ntmps192
      go_wp2_with (first | (go_at_call 140; refine (C_spec_RingValid _ _).mono ?_; rintro e w' ⟨rfl, rfl⟩) | (go_at_call 172; refine (C_spec_l1Ring _ _).mono ?_; rintro e w' ⟨rfl, rfl⟩))
      go_ret
      exact ⟨rfl, rfl⟩
    · have h1' : rv a = false := by simpa using h1
      clear h h1 e
      go_enter Try.func192, Try.ntmps192
      go_wp2_with (first | (go_at_call 140; refine (C_spec_RingValid _ _).mono ?_; rintro e w' ⟨rfl, rfl⟩) | (go_at_call 172; refine (C_spec_l1Ring _ _).mono ?_; rintro e w' ⟨rfl, rfl⟩))
      go_ret
      exact ⟨rfl, rfl⟩
theorem C_spec_SubRing (a b : Int) (w0 : World) : Calls Try.prog 204 #[.int .i64 a, .int .i64 b] w0 fun e w' => e = .returned (.int .i64 (subR a b)) ∧ w0 = w' := by
  by_cases h : rv a = true ∧ rv b = true
  · obtain ⟨h1, h2⟩ := h
    obtain ⟨b1, b2⟩ := rv_bd h1
    obtain ⟨b3, b4⟩ := rv_bd h2
    go_enter Try.func204, Try.ntmps204
    go_wp2_with (first | (go_at_call 140; refine (C_spec_RingValid _ _).mono ?_; rintro e w' ⟨rfl, rfl⟩) | (go_at_call 172; refine (C_spec_l1Ring _ _).mono ?_; rintro e w' ⟨rfl, rfl⟩))
    go_ret
    exact ⟨by simp [subR, h1, h2], rfl⟩
  · have e : subR a b = -1 := by unfold subR; rw [if_neg (by simpa using h)]
    rw [e]
    by_cases h1 : rv a = true
    · have h2 : rv b = false := by simpa [h1] using h
      go_enter Try.func204, Try.ntmps204
      go_wp2_with (first | (go_at_call 140; refine (C_spec_RingValid _ _).mono ?_; rintro e w' ⟨rfl, rfl⟩) | (go_at_call 172; refine (C_spec_l1Ring _ _).mono ?_; rintro e w' ⟨rfl, rfl⟩))
      go_ret
      exact ⟨rfl, rfl⟩
    · have h1' : rv a = false := by simpa using h1
      clear h h1 e
      go_enter Try.func204, Try.ntmps204
      go_wp2_with (first | (go_at_call 140; refine (C_spec_RingValid _ _).mono ?_; rintro e w' ⟨rfl, rfl⟩) | (go_at_call 172; refine (C_spec_l1Ring _ _).mono ?_; rintro e w' ⟨rfl, rfl⟩))
      go_ret
      exact ⟨rfl, rfl⟩
theorem C_spec_MulRing (a b : Int) (w0 : World) : Calls Try.prog 142 #[.int .i64 a, .int .i64 b] w0 fun e w' => e = .returned (.int .i64 (mulR a b)) ∧ w0 = w' := by
  by_cases h : rv a = true ∧ rv b = true
  · obtain ⟨h1, h2⟩ := h
    obtain ⟨b1, b2⟩ := rv_bd h1
    obtain ⟨b3, b4⟩ := rv_bd h2
    have m1 : 0 ≤ a * b := Int.mul_nonneg (by omega) (by omega)
    have m2 : a * b ≤ 4095 * 4095 := Int.mul_le_mul (by omega) (by omega) (by omega) (by omega)
    go_enter Try.func142, Try.ntmps142
    go_wp2_with (first | (go_at_call 140; refine (C_spec_RingValid _ _).mono ?_; rintro e w' ⟨rfl, rfl⟩) | (go_at_call 172; refine (C_spec_l1Ring _ _).mono ?_; rintro e w' ⟨rfl, rfl⟩))
    go_ret
    exact ⟨by simp [mulR, h1, h2], rfl⟩
  · have e : mulR a b = -1 := by unfold mulR; rw [if_neg (by simpa using h)]
    rw [e]
    by_cases h1 : rv a = true
    · have h2 : rv b = false := by simpa [h1] using h
      go_enter Try.func142, Try.ntmps142
      go_wp2_with (first | (go_at_call 140; refine (C_spec_RingValid _ _).mono ?_; rintro e w' ⟨rfl, rfl⟩) | (go_at_call 172; refine (C_spec_l1Ring _ _).mono ?_; rintro e w' ⟨rfl, rfl⟩))
      go_ret
      exact ⟨rfl, rfl⟩
    · have h1' : rv a = false := by simpa using h1
      clear h h1 e
      go_enter Try.func142, Try.ntmps142
      go_wp2_with (first | (go_at_call 140; refine (C_spec_RingValid _ _).mono ?_; rintro e w' ⟨rfl, rfl⟩) | (go_at_call 172; refine (C_spec_l1Ring _ _).mono ?_; rintro e w' ⟨rfl, rfl⟩))
      go_ret
      exact ⟨rfl, rfl⟩
theorem C_impl_keyValid (k : Int) (w0 : World) : Calls Try.prog 77 #[.int .i64 k] w0 fun e w' => e = .returned (.bool (keyOk k)) ∧ w0 = w' := by
  by_cases h1 : rv k = true
  · obtain ⟨b1, b2⟩ := rv_bd h1
    go_enter Try.func77, Try.ntmps77
    go_wp2_with (first | (go_at_call 88; refine (C_impl_RingValid _ _).mono ?_; rintro e w' ⟨rfl, rfl⟩))
    go_ret
    refine ⟨?_, rfl⟩
    simp only [keyOk, h1, Bool.true_and]; rfl
  · have h1' : rv k = false := by simpa using h1
    clear h1
    go_enter Try.func77, Try.ntmps77
    go_wp2_with (first | (go_at_call 88; refine (C_impl_RingValid _ _).mono ?_; rintro e w' ⟨rfl, rfl⟩))
    go_ret
    exact ⟨by simp [keyOk, h1'], rfl⟩
end Go.Proofs.Ytncbmmdldmdndaa
