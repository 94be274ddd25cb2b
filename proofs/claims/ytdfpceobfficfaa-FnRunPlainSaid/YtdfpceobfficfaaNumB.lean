/-
  Contracts: the functions that are looked up in tables (the reference's).
-/
import Derived.Test.YtdfpceobfficfaaNumA
namespace Go.Proofs.Ytdfpceobfficfaa
set_option linter.unusedSimpArgs false
set_option linter.unusedVariables false
set_option linter.unusedSectionVars false
open Go Go.RowKit
set_option maxHeartbeats 2000000
set_option maxRecDepth 20000
theorem C_in15 (n lo hi : Int) (b : Bool) (w0 : World) (h : (decide (lo ≤ n) && decide (n ≤ hi)) = b) : Calls Try.prog 48 #[.int .i64 n, .int .i64 lo, .int .i64 hi] w0 fun e w' => e = .returned (.bool b) ∧ w0 = w' := h ▸ C_spec_l1In n lo hi w0
theorem C_spec_FunctionAt (k x z : Int) (w0 : World) (hx : rv x = true) (hk : k = 1 ∨ k = 2 ∨ k = 3 ∨ k = 4 ∨ k = 5) (hz : fnAt k x = z) : Calls Try.prog 102 #[.int .i64 k, .int .i64 x] w0 fun e w' => e = .returned (.int .i64 z) ∧ w0 = w' := by
  have hb := signed_bd hx
  obtain ⟨s, hs⟩ : ∃ s, signed x = s := ⟨_, rfl⟩
  rcases hk with rfl | rfl | rfl | rfl | rfl
  · simp only [fnAt, if_true] at hz
    rw [hs] at hb
    go_enter Try.func102, Try.ntmps102
    go_wp2_with (first | (go_at_call 99; refine (C_spec_RingValid _ _).mono ?_; rintro e w' ⟨rfl, rfl⟩) | (go_at_call 48; refine (C_in15 _ _ _ true _ (by decide)).mono ?_; rintro e w' ⟨rfl, rfl⟩) | (go_at_call 122; refine (C_spec_SignedOf _ _ _ hx hs).mono ?_; rintro e w' ⟨rfl, rfl⟩) | (go_at_call 123; refine (C_spec_CutRing _ _ _ hx hz).mono ?_; rintro e w' ⟨rfl, rfl⟩))
    go_ret
    exact ⟨rfl, rfl⟩
  · simp [fnAt] at hz
    rw [hs] at hb hz
    subst hz
    go_enter Try.func102, Try.ntmps102
    go_wp2_with (first | (go_at_call 99; refine (C_spec_RingValid _ _).mono ?_; rintro e w' ⟨rfl, rfl⟩) | (go_at_call 48; refine (C_in15 _ _ _ true _ (by decide)).mono ?_; rintro e w' ⟨rfl, rfl⟩) | (go_at_call 122; refine (C_spec_SignedOf _ _ _ hx hs).mono ?_; rintro e w' ⟨rfl, rfl⟩))
    all_goals
      go_ret
      refine ⟨?_, rfl⟩
      simp
      omega
  · simp [fnAt] at hz
    rw [hs] at hb hz
    by_cases h : s < 0
    · rw [if_pos h] at hz
      subst hz
      go_enter Try.func102, Try.ntmps102
      go_wp2_with (first | (go_at_call 99; refine (C_spec_RingValid _ _).mono ?_; rintro e w' ⟨rfl, rfl⟩) | (go_at_call 48; refine (C_in15 _ _ _ true _ (by decide)).mono ?_; rintro e w' ⟨rfl, rfl⟩) | (go_at_call 122; refine (C_spec_SignedOf _ _ _ hx hs).mono ?_; rintro e w' ⟨rfl, rfl⟩))
      go_ret
      exact ⟨rfl, rfl⟩
    · rw [if_neg h] at hz
      subst hz
      go_enter Try.func102, Try.ntmps102
      go_wp2_with (first | (go_at_call 99; refine (C_spec_RingValid _ _).mono ?_; rintro e w' ⟨rfl, rfl⟩) | (go_at_call 48; refine (C_in15 _ _ _ true _ (by decide)).mono ?_; rintro e w' ⟨rfl, rfl⟩) | (go_at_call 122; refine (C_spec_SignedOf _ _ _ hx hs).mono ?_; rintro e w' ⟨rfl, rfl⟩))
      go_ret
      exact ⟨rfl, rfl⟩
  · have hz' : growR x = z := hz
    clear hz
    obtain ⟨q, hq⟩ : ∃ q, s / 16 = q := ⟨_, rfl⟩
    unfold growR growE at hz'
    rw [hs] at hb hz'
    rw [hq] at hz'
    have key := grow_val hz'
    clear hz'
    rcases key with ⟨h, rfl⟩ | ⟨rfl, rfl⟩ | ⟨rfl, rfl⟩ | ⟨rfl, rfl⟩ | ⟨rfl, rfl⟩ | ⟨rfl, rfl⟩ | ⟨rfl, rfl⟩ | ⟨rfl, rfl⟩ | ⟨h, rfl⟩
    all_goals
      go_enter Try.func102, Try.ntmps102
      go_wp2_with (first | (go_at_call 99; refine (C_spec_RingValid _ _).mono ?_; rintro e w' ⟨rfl, rfl⟩) | (go_at_call 48; refine (C_in15 _ _ _ true _ (by decide)).mono ?_; rintro e w' ⟨rfl, rfl⟩) | (go_at_call 122; refine (C_spec_SignedOf _ _ _ hx hs).mono ?_; rintro e w' ⟨rfl, rfl⟩) | (go_at_call 124; refine (C_l2Floor _ _ _ ⟨by omega, by omega⟩ hq).mono ?_; rintro e w' ⟨rfl, rfl⟩))
      go_ret
      exact ⟨rfl, rfl⟩
  · simp [fnAt, backR] at hz
    rw [hs] at hb hz
    by_cases h : s ≤ 0
    · rw [if_pos h] at hz
      subst hz
      go_enter Try.func102, Try.ntmps102
      go_wp2_with (first | (go_at_call 99; refine (C_spec_RingValid _ _).mono ?_; rintro e w' ⟨rfl, rfl⟩) | (go_at_call 48; refine (C_in15 _ _ _ true _ (by decide)).mono ?_; rintro e w' ⟨rfl, rfl⟩) | (go_at_call 122; refine (C_spec_SignedOf _ _ _ hx hs).mono ?_; rintro e w' ⟨rfl, rfl⟩))
      go_ret
      exact ⟨rfl, rfl⟩
    · rw [if_neg h] at hz
      have e1 : (256 : Int).tdiv s = z := by rw [Int.tdiv_eq_ediv_of_nonneg (by omega)]; exact hz
      have hz1 : 0 ≤ z ∧ z ≤ 256 := by
        rw [← hz]
        exact ⟨Int.ediv_nonneg (by omega) (by omega), Int.ediv_le_self _ (by omega)⟩
      clear hz
      go_enter Try.func102, Try.ntmps102
      go_wp2_with (first | (go_at_call 99; refine (C_spec_RingValid _ _).mono ?_; rintro e w' ⟨rfl, rfl⟩) | (go_at_call 48; refine (C_in15 _ _ _ true _ (by decide)).mono ?_; rintro e w' ⟨rfl, rfl⟩) | (go_at_call 122; refine (C_spec_SignedOf _ _ _ hx hs).mono ?_; rintro e w' ⟨rfl, rfl⟩))
      go_ret
      exact ⟨by simp [e1], rfl⟩
end Go.Proofs.Ytdfpceobfficfaa
