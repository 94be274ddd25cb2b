/-
  Random ring numbers behind a seed: the plain function; contracts of the reference's.
-/
import Derived.Test.YtdfpceobfficfaaOwn
import Derived.Test.YtdfpceobfficfaaLit
namespace Go.Proofs.Ytdfpceobfficfaa
set_option linter.unusedSimpArgs false
set_option linter.unusedVariables false
set_option linter.unusedSectionVars false
open Go Go.RowKit
set_option maxHeartbeats 8000000
set_option maxRecDepth 20000
def seedOk (s : Int) : Bool := decide (1 ≤ s) && decide (s ≤ 2147483646)
def nextS (s : Int) : Int := (s * 48271) % 2147483647
def seedAt (s : Int) : Nat → Int
  | 0 => s
  | k + 1 => nextS (seedAt s k)
def rndTo (s : Int) : Nat → List Int
  | 0 => []
  | k + 1 => rndTo s k ++ [ro (seedAt s (k + 1) / 8)]
theorem rndTo_length (s : Int) : ∀ k, (rndTo s k).length = k
  | 0 => rfl
  | k + 1 => by rw [rndTo, List.length_append, rndTo_length s k]; rfl
theorem seedAt_bd {s : Int} (h : 0 ≤ s ∧ s ≤ 2147483646) : ∀ k, 0 ≤ seedAt s k ∧ seedAt s k ≤ 2147483646
  | 0 => h
  | k + 1 => by
    show 0 ≤ nextS (seedAt s k) ∧ nextS (seedAt s k) ≤ 2147483646
    unfold nextS
    omega
theorem rndTo_ring (s : Int) : ∀ (n k : Nat), k < n → rv ((rndTo s n).getD k 0) = true
  | 0, k, h => absurd h (by omega)
  | n + 1, k, h => by
    rw [rndTo, List.getD_eq_getElem?_getD]
    by_cases hk : k < n
    · rw [List.getElem?_append_left (by rw [rndTo_length]; exact hk), ← List.getD_eq_getElem?_getD]
      exact rndTo_ring s n k hk
    · obtain rfl : k = n := by omega
      rw [List.getElem?_append_right (by rw [rndTo_length]; exact Nat.le_refl _), rndTo_length, Nat.sub_self]
      exact rv_ro _
theorem C_spec_l4Next (s : Int) (w0 : World) (h : 0 ≤ s ∧ s ≤ 2147483646) : Calls Try.prog 129 #[.int .i64 s] w0 fun e w' => e = .returned (.int .i64 (nextS s)) ∧ w0 = w' := by
  obtain ⟨h1, h2⟩ := h
  go_enter Try.func129, Try.ntmps129
  go_wp2
  go_ret
  exact ⟨rfl, rfl⟩
/-- A new row of random ring numbers and the last seed. -/
def MakesRnd (w0 : World) (s : Int) (n : Nat) (e : Ending) (w : World) : Prop :=
  ∃ u, e = .returned (.tuple #[u, .int .i64 (seedAt s n)]) ∧ St w0 w [.row 3 1 u n (ints (rndTo s n))]
theorem C_spec_l4List (s : Int) (n : Nat) (w0 : World) (h : 0 ≤ s ∧ s ≤ 2147483646) (hn : n ≤ 5000) :
    Calls Try.prog 114 #[.int .i64 s, .int .i64 n] w0 (MakesRnd w0 s n) := by
  have HB := Lib.hid (seedAt_bd h)
  clear h
  obtain ⟨L, HL, S⟩ := st_start w0; have F : True := trivial
  go_enter Try.func114, Try.ntmps114
  go_wp2_with (first | (refine wpList_empty rfl S _ rfl 3 Try.underlying53 infoInt ?_; intro g w L hM T; clear F S; (try rw [HL.out] at hM); clear HL; (try simp [Act.put, Act.eval, Value.cells, splice] at hM); have HL := Lib.hid hM; clear hM; have S := T; clear T; have F := factsAll HL S; (try simp only [factsOf, cellsFrom, and_true, true_and, Nat.reduceAdd] at F)))
  go_loopw [0, 6, 7] (fun c u i wr => ∃ (k : Nat) (L : List Ent), k ≤ n ∧ i = .int .i64 k ∧ c = .int .i64 (seedAt s k) ∧ Hid (L = [.row 3 1 u k (ints (rndTo s k))]) ∧ St w0 wr L) (fun _ _ i _ => n - (intOf i).toNat)
  case atStart => exact ⟨0, L, Nat.zero_le _, rfl, rfl, HL, S⟩
  case round =>
    clear F HL S
    obtain ⟨k, L, hk, rfl, rfl, HL, S⟩ := hrel
    have F : True := trivial
    by_cases hlt : k < n
    · have b0 := HB.out k
      have b1 := HB.out (k + 1)
      have HR := Lib.hid (show rndTo s (k + 1) = rndTo s k ++ [ro (seedAt s (k + 1) / 8)] from rfl)
      have CN : ∀ w, Calls Try.prog 129 #[.int .i64 (seedAt s k)] w fun e w' => e = .returned (.int .i64 (seedAt s (k + 1))) ∧ w = w' := fun w => C_spec_l4Next (seedAt s k) w b0
      obtain ⟨s1, hs1⟩ : ∃ x, seedAt s (k + 1) = x := ⟨_, rfl⟩
      rw [hs1] at HR b1
      simp only [hs1] at CN
      have HS1 := Lib.hid hs1
      obtain ⟨p0, p1⟩ := b1
      clear hs1 b0
      go_wp2_with (first | (go_at_call 129; refine (CN _).mono ?_; rintro e w' ⟨rfl, rfl⟩) | (refine wpList_lit rfl S _ _ _ rfl 3 Try.underlying53 infoInt (by simp [Act.eval]) (by simp [Act.eval, Value.oneCell']) rfl rfl rfl ?_; intro g w L hM T; clear F S; (try rw [HL.out] at hM); clear HL; (try simp [Act.put, Act.eval, Value.cells, splice] at hM); have HL := Lib.hid hM; clear hM; have S := T; clear T; have F := factsAll HL S; (try simp only [factsOf, cellsFrom, and_true, true_and, Nat.reduceAdd] at F)) | (refine wpList_append_box rfl S _ _ _ rfl 3 _ 1 8 Try.underlying53 infoInt rfl (by omega) _ _ _ _ rfl (by first | exact atOf HL (p := 0) rfl | exact atOf HL (p := 1) rfl | exact atOf HL (p := 2) rfl | exact atOf HL (p := 3) rfl | exact atOf HL (p := 4) rfl | exact atOf HL (p := 5) rfl | exact atOf HL (p := 6) rfl | exact atOf HL (p := 7) rfl) (by omega) _ _ _ _ _ _ rfl (by first | exact atOf HL (p := 0) rfl | exact atOf HL (p := 1) rfl | exact atOf HL (p := 2) rfl | exact atOf HL (p := 3) rfl | exact atOf HL (p := 4) rfl | exact atOf HL (p := 5) rfl | exact atOf HL (p := 6) rfl | exact atOf HL (p := 7) rfl) rfl rfl rfl rfl ?_; intro u w L hM T; clear F S; (try rw [HL.out] at hM); clear HL; (try simp [Act.put, Act.eval, Value.cells, splice] at hM); have HL := Lib.hid hM; clear hM; have S := T; clear T; have F := factsAll HL S; (try simp only [factsOf, cellsFrom, and_true, true_and, Nat.reduceAdd] at F)))
      go_roundw
      case rel =>
        refine ⟨k + 1, _, by omega, by go_num, by rw [HS1.out], Lib.hid rfl, ?_⟩
        rw [HL.out] at S
        have T := S.sub (.cons _ (.refl _))
        rw [show ints (rndTo s (k + 1)) = ints (rndTo s k) ++ [.int .i64 (s1 / 8 % 4096)] from by rw [HR.out]; simp [ints, ro]]
        exact T
      case measure => simp [intOf]; omega
    · obtain rfl : k = n := by omega
      go_wp2
      refine ret2 rfl (show _ = _ from rfl) (show _ = _ from rfl) rfl ?_
      rw [HL.out] at S
      exact ⟨_, rfl, S⟩
end Go.Proofs.Ytdfpceobfficfaa
