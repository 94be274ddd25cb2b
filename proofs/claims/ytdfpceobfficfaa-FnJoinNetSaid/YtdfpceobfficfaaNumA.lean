/-
  Signed numbers, cut numbers and the functions that are looked up in tables: plain laws and contracts.
-/
import Derived.Test.YtdfpceobfficfaaRing
namespace Go.Proofs.Ytdfpceobfficfaa
set_option linter.unusedSimpArgs false
set_option linter.unusedVariables false
set_option linter.unusedSectionVars false
open Go Go.RowKit
set_option maxHeartbeats 2000000
set_option maxRecDepth 20000
def cutR (x : Int) : Int := if rv x then ro (signed x / 16) else -1
def growE (x : Int) : Int := max (-4) (min 2 (signed x / 16))
def growR (x : Int) : Int := 2 ^ (growE x + 4).toNat
def backR (x : Int) : Int := if signed x ≤ 0 then 0 else 256 / signed x
def fnAt (k x : Int) : Int := if k = 1 then cutR x else if k = 2 then max (signed x) 0 else if k = 3 then (if signed x < 0 then 1 else 0) else if k = 4 then growR x else backR x
theorem signed_bd {x : Int} (h : rv x = true) : -2048 ≤ signed x ∧ signed x ≤ 2047 := by
  have := rv_bd h
  unfold signed
  rw [if_pos h]
  split <;> omega
theorem cutR_eq {x : Int} (h : rv x = true) : cutR x = ro (signed x / 16) := by unfold cutR; rw [if_pos h]
theorem growE_bd (x : Int) : -4 ≤ growE x ∧ growE x ≤ 2 := by unfold growE; omega
theorem fnAt_rv {k x : Int} (hx : rv x = true) : rv (fnAt k x) = true := by
  have hs := signed_bd hx
  unfold fnAt
  split
  · rw [cutR_eq hx]; exact rv_ro _
  split
  · rw [rv_iff]; omega
  split
  · split <;> rfl
  split
  · have h1 := growE_bd x
    unfold growR
    obtain ⟨e, he⟩ : ∃ e, (growE x + 4).toNat = e := ⟨_, rfl⟩
    rw [he]
    have he6 : e ≤ 6 := by omega
    rcases (by omega : e = 0 ∨ e = 1 ∨ e = 2 ∨ e = 3 ∨ e = 4 ∨ e = 5 ∨ e = 6) with h | h | h | h | h | h | h <;> subst h <;> decide
  · unfold backR
    split
    · rfl
    · rename_i h0
      have h1 : (256 : Int) / signed x ≤ 256 := Int.ediv_le_self _ (by omega)
      have h2 : 0 ≤ (256 : Int) / signed x := Int.ediv_nonneg (by omega) (by omega)
      rw [rv_iff]; omega
theorem xor_sign {x : Int} (h : rv x = true) : bits .xor .i64 x 2048 = signed x + 2048 := by
  obtain ⟨h1, h2⟩ := rv_bd h
  have key : ∀ n : Fin 4096, bits .xor .i64 (n.val : Int) 2048 = signed (n.val : Int) + 2048 := by decide +kernel
  have := key ⟨x.toNat, by omega⟩
  rwa [show ((x.toNat : Nat) : Int) = x from Int.toNat_of_nonneg h1] at this
theorem grow_val {q z : Int} (hz : 2 ^ (max (-4) (min 2 q) + 4).toNat = z) : q < -4 ∧ z = 1 ∨ q = -4 ∧ z = 1 ∨ q = -3 ∧ z = 2 ∨ q = -2 ∧ z = 4 ∨ q = -1 ∧ z = 8 ∨ q = 0 ∧ z = 16 ∨ q = 1 ∧ z = 32 ∨ q = 2 ∧ z = 64 ∨ q > 2 ∧ z = 64 := by
  subst hz
  rcases (by omega : q < -4 ∨ q = -4 ∨ q = -3 ∨ q = -2 ∨ q = -1 ∨ q = 0 ∨ q = 1 ∨ q = 2 ∨ q > 2) with h | h | h | h | h | h | h | h | h
  · have e : max (-4) (min 2 q) = -4 := by omega
    rw [e]
    exact .inl ⟨h, rfl⟩
  · subst h; exact .inr (.inl ⟨rfl, rfl⟩)
  · subst h; exact .inr (.inr (.inl ⟨rfl, rfl⟩))
  · subst h; exact .inr (.inr (.inr (.inl ⟨rfl, rfl⟩)))
  · subst h; exact .inr (.inr (.inr (.inr (.inl ⟨rfl, rfl⟩))))
  · subst h; exact .inr (.inr (.inr (.inr (.inr (.inl ⟨rfl, rfl⟩)))))
  · subst h; exact .inr (.inr (.inr (.inr (.inr (.inr (.inl ⟨rfl, rfl⟩))))))
  · subst h; exact .inr (.inr (.inr (.inr (.inr (.inr (.inr (.inl ⟨rfl, rfl⟩)))))))
  · have e : max (-4) (min 2 q) = 2 := by omega
    rw [e]
    exact .inr (.inr (.inr (.inr (.inr (.inr (.inr (.inr ⟨h, rfl⟩)))))))
theorem C_impl_SignedOf (x s : Int) (w0 : World) (hx : rv x = true) (hs : signed x = s) : Calls Try.prog 163 #[.int .i64 x] w0 fun e w' => e = .returned (.int .i64 s) ∧ w0 = w' := by
  have hX := xor_sign hx
  have hb := signed_bd hx
  rw [hs] at hX hb
  clear hs
  go_enter Try.func163, Try.ntmps163
  go_wp2_with (first | (go_at_call 40; refine (C_impl_RingValid _ _).mono ?_; rintro e w' ⟨rfl, rfl⟩))
  go_ret
  exact ⟨rfl, rfl⟩
theorem C_impl_CutRing (x z : Int) (w0 : World) (hx : rv x = true) (hz : cutR x = z) : Calls Try.prog 164 #[.int .i64 x] w0 fun e w' => e = .returned (.int .i64 z) ∧ w0 = w' := by
  rw [cutR_eq hx] at hz
  have hb := signed_bd hx
  obtain ⟨s, hs⟩ : ∃ s, signed x = s := ⟨_, rfl⟩
  rw [hs] at hz hb
  subst hz
  go_enter Try.func164, Try.ntmps164
  go_wp2_with (first | (go_at_call 40; refine (C_impl_RingValid _ _).mono ?_; rintro e w' ⟨rfl, rfl⟩) | (go_at_call 127; refine (C_impl_RingOf _ _).mono ?_; rintro e w' ⟨rfl, rfl⟩) | (go_at_call 163; refine (C_impl_SignedOf _ _ _ hx hs).mono ?_; rintro e w' ⟨rfl, rfl⟩))
  go_ret
  exact ⟨rfl, rfl⟩
theorem C_spec_SignedOf (x s : Int) (w0 : World) (hx : rv x = true) (hs : signed x = s) : Calls Try.prog 122 #[.int .i64 x] w0 fun e w' => e = .returned (.int .i64 s) ∧ w0 = w' := by
  have hb := rv_bd hx
  unfold signed at hs
  rw [if_pos hx] at hs
  by_cases h : x ≥ 2048
  · rw [if_pos h] at hs
    subst hs
    go_enter Try.func122, Try.ntmps122
    go_wp2_with (first | (go_at_call 99; refine (C_spec_RingValid _ _).mono ?_; rintro e w' ⟨rfl, rfl⟩))
    go_ret
    exact ⟨rfl, rfl⟩
  · rw [if_neg h] at hs
    subst hs
    go_enter Try.func122, Try.ntmps122
    go_wp2_with (first | (go_at_call 99; refine (C_spec_RingValid _ _).mono ?_; rintro e w' ⟨rfl, rfl⟩))
    go_ret
    exact ⟨rfl, rfl⟩
theorem C_l2Floor (n z : Int) (w0 : World) (hn : -1000000000 ≤ n ∧ n ≤ 1000000000) (hz : n / 16 = z) : Calls Try.prog 124 #[.int .i64 n] w0 fun e w' => e = .returned (.int .i64 z) ∧ w0 = w' := by
  by_cases h : n < 0
  · go_enter Try.func124, Try.ntmps124
    go_wp2
    go_ret
    refine ⟨?_, rfl⟩
    first
      | (simp; done)
      | (simp; omega)
  · have e1 : n.tdiv 16 = z := by rw [Int.tdiv_eq_ediv_of_nonneg (by omega)]; exact hz
    have hz1 : 0 ≤ z ∧ z ≤ 1000000000 := by omega
    clear hz
    go_enter Try.func124, Try.ntmps124
    go_wp2
    go_ret
    refine ⟨?_, rfl⟩
    first
      | (simp [e1]; done)
      | (simp [e1]; unfold wrap64; omega)
theorem C_spec_CutRing (x z : Int) (w0 : World) (hx : rv x = true) (hz : cutR x = z) : Calls Try.prog 123 #[.int .i64 x] w0 fun e w' => e = .returned (.int .i64 z) ∧ w0 = w' := by
  rw [cutR_eq hx] at hz
  have hb := signed_bd hx
  obtain ⟨s, hs⟩ : ∃ s, signed x = s := ⟨_, rfl⟩
  rw [hs] at hz hb
  subst hz
  go_enter Try.func123, Try.ntmps123
  go_wp2_with (first | (go_at_call 99; refine (C_spec_RingValid _ _).mono ?_; rintro e w' ⟨rfl, rfl⟩) | (go_at_call 94; refine (C_spec_l1Ring _ _).mono ?_; rintro e w' ⟨rfl, rfl⟩) | (go_at_call 122; refine (C_spec_SignedOf _ _ _ hx hs).mono ?_; rintro e w' ⟨rfl, rfl⟩) | (go_at_call 124; refine (C_l2Floor _ _ _ ⟨by omega, by omega⟩ rfl).mono ?_; rintro e w' ⟨rfl, rfl⟩))
  go_ret
  exact ⟨rfl, rfl⟩
theorem C_functionKnown (k : Int) (b : Bool) (w0 : World) (hb : (decide (1 ≤ k) && decide (k ≤ 5)) = b) : Calls Try.prog 159 #[.int .i64 k] w0 fun e w' => e = .returned (.bool b) ∧ w0 = w' := by
  subst hb
  go_enter Try.func159, Try.ntmps159
  go_wp2
  all_goals (go_ret; refine ⟨?_, rfl⟩; simp; omega)
theorem C_impl_FunctionAt (k x z : Int) (w0 : World) (hx : rv x = true) (hk : k = 1 ∨ k = 2 ∨ k = 3 ∨ k = 4 ∨ k = 5) (hz : fnAt k x = z) : Calls Try.prog 160 #[.int .i64 k, .int .i64 x] w0 fun e w' => e = .returned (.int .i64 z) ∧ w0 = w' := by
  have hb := signed_bd hx
  obtain ⟨s, hs⟩ : ∃ s, signed x = s := ⟨_, rfl⟩
  rcases hk with rfl | rfl | rfl | rfl | rfl
  · simp only [fnAt, if_true] at hz
    rw [hs] at hb
    go_enter Try.func160, Try.ntmps160
    go_wp2_with (first | (go_at_call 40; refine (C_impl_RingValid _ _).mono ?_; rintro e w' ⟨rfl, rfl⟩) | (go_at_call 159; refine (C_functionKnown _ _ _ rfl).mono ?_; rintro e w' ⟨rfl, rfl⟩) | (go_at_call 163; refine (C_impl_SignedOf _ _ _ hx hs).mono ?_; rintro e w' ⟨rfl, rfl⟩) | (go_at_call 164; refine (C_impl_CutRing _ _ _ hx hz).mono ?_; rintro e w' ⟨rfl, rfl⟩))
    go_ret
    exact ⟨rfl, rfl⟩
  · simp [fnAt] at hz
    rw [hs] at hb hz
    subst hz
    go_enter Try.func160, Try.ntmps160
    go_wp2_with (first | (go_at_call 40; refine (C_impl_RingValid _ _).mono ?_; rintro e w' ⟨rfl, rfl⟩) | (go_at_call 159; refine (C_functionKnown _ _ _ rfl).mono ?_; rintro e w' ⟨rfl, rfl⟩) | (go_at_call 163; refine (C_impl_SignedOf _ _ _ hx hs).mono ?_; rintro e w' ⟨rfl, rfl⟩))
    all_goals
      go_ret
      refine ⟨?_, rfl⟩
      simp
      omega
  · simp [fnAt] at hz
    rw [hs] at hb hz
    by_cases h : s < 0
    · rw [if_pos h] at hz
      subst hz
      go_enter Try.func160, Try.ntmps160
      go_wp2_with (first | (go_at_call 40; refine (C_impl_RingValid _ _).mono ?_; rintro e w' ⟨rfl, rfl⟩) | (go_at_call 159; refine (C_functionKnown _ _ _ rfl).mono ?_; rintro e w' ⟨rfl, rfl⟩) | (go_at_call 163; refine (C_impl_SignedOf _ _ _ hx hs).mono ?_; rintro e w' ⟨rfl, rfl⟩))
      go_ret
      exact ⟨rfl, rfl⟩
    · rw [if_neg h] at hz
      subst hz
      go_enter Try.func160, Try.ntmps160
      go_wp2_with (first | (go_at_call 40; refine (C_impl_RingValid _ _).mono ?_; rintro e w' ⟨rfl, rfl⟩) | (go_at_call 159; refine (C_functionKnown _ _ _ rfl).mono ?_; rintro e w' ⟨rfl, rfl⟩) | (go_at_call 163; refine (C_impl_SignedOf _ _ _ hx hs).mono ?_; rintro e w' ⟨rfl, rfl⟩))
      go_ret
      exact ⟨rfl, rfl⟩
  · have hz' : growR x = z := hz
    clear hz
    obtain ⟨q, hq⟩ : ∃ q, s / 16 = q := ⟨_, rfl⟩
    unfold growR growE at hz'
    rw [hs] at hb hz'
    rw [hq] at hz'
    have key := grow_val hz'
    clear hz'
    rcases key with ⟨h, rfl⟩ | ⟨rfl, rfl⟩ | ⟨rfl, rfl⟩ | ⟨rfl, rfl⟩ | ⟨rfl, rfl⟩ | ⟨rfl, rfl⟩ | ⟨rfl, rfl⟩ | ⟨rfl, rfl⟩ | ⟨h, rfl⟩
    all_goals
      go_enter Try.func160, Try.ntmps160
      go_wp2_with (first | (go_at_call 40; refine (C_impl_RingValid _ _).mono ?_; rintro e w' ⟨rfl, rfl⟩) | (go_at_call 159; refine (C_functionKnown _ _ _ rfl).mono ?_; rintro e w' ⟨rfl, rfl⟩) | (go_at_call 163; refine (C_impl_SignedOf _ _ _ hx hs).mono ?_; rintro e w' ⟨rfl, rfl⟩))
      go_ret
      exact ⟨rfl, rfl⟩
  · simp [fnAt, backR] at hz
    rw [hs] at hb hz
    by_cases h : s ≤ 0
    · rw [if_pos h] at hz
      subst hz
      go_enter Try.func160, Try.ntmps160
      go_wp2_with (first | (go_at_call 40; refine (C_impl_RingValid _ _).mono ?_; rintro e w' ⟨rfl, rfl⟩) | (go_at_call 159; refine (C_functionKnown _ _ _ rfl).mono ?_; rintro e w' ⟨rfl, rfl⟩) | (go_at_call 163; refine (C_impl_SignedOf _ _ _ hx hs).mono ?_; rintro e w' ⟨rfl, rfl⟩))
      go_ret
      exact ⟨rfl, rfl⟩
    · rw [if_neg h] at hz
      have e1 : (256 : Int).tdiv s = z := by rw [Int.tdiv_eq_ediv_of_nonneg (by omega)]; exact hz
      have hz1 : 0 ≤ z ∧ z ≤ 256 := by
        rw [← hz]
        exact ⟨Int.ediv_nonneg (by omega) (by omega), Int.ediv_le_self _ (by omega)⟩
      clear hz
      go_enter Try.func160, Try.ntmps160
      go_wp2_with (first | (go_at_call 40; refine (C_impl_RingValid _ _).mono ?_; rintro e w' ⟨rfl, rfl⟩) | (go_at_call 159; refine (C_functionKnown _ _ _ rfl).mono ?_; rintro e w' ⟨rfl, rfl⟩) | (go_at_call 163; refine (C_impl_SignedOf _ _ _ hx hs).mono ?_; rintro e w' ⟨rfl, rfl⟩))
      go_ret
      exact ⟨by simp [e1], rfl⟩
end Go.Proofs.Ytdfpceobfficfaa
