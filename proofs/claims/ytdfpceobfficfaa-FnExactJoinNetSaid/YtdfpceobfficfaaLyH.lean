/-
  Contracts: rows of matrices, of layers are as they were numbered.
-/
import Derived.Test.YtdfpceobfficfaaLyR
namespace Go.Proofs.Ytdfpceobfficfaa
set_option linter.unusedSimpArgs false
set_option linter.unusedVariables false
set_option linter.unusedSectionVars false
open Go Go.RowKit
set_option maxHeartbeats 8000000
set_option maxRecDepth 20000
theorem C_heldMatrixS (v : Value) (ps : MsO) (k : Int) (w0 : World) (h : SeesMs w0 v ((markPs ps k).map Prod.snd)) (hk : 0 ≤ k) (he : endPs ps k ≤ 100000000) :
    Calls Try.prog 57 #[v, .int .i64 k] w0 fun e w' => e = .returned (.int .i64 (endPs ps k)) ∧ Below w0.heap.size w0 w' := by
  obtain ⟨A0, cap, rfl, hcap, hmax, hA⟩ := h
  obtain ⟨n, hn⟩ : ∃ n, ((markPs ps k).map Prod.snd).length = n := ⟨_, rfl⟩
  have hn2 : ps.length = n := by rw [← hn, List.length_map, markPs_len]
  rw [hn] at hcap hA ⊢
  have HA := Lib.hid hA
  have HN := Lib.hid hn2
  clear hA hn hn2
  unfold maxLen at hmax
  obtain ⟨L, HL, S⟩ := st_start w0; have F : True := trivial
  go_enter Try.func57, Try.ntmps57
  go_wp2
  go_loopw [5, 1] (fun i k' wr => ∃ (j : Nat) (q : Int) (A B : MsO), j ≤ n ∧ i = .int .i64 j ∧ k' = .int .i64 q ∧ 0 ≤ q ∧ endPs B q ≤ 100000000 ∧ A.length = j ∧ j + B.length = n ∧ Hid (endPs B q = endPs ps k) ∧ Hid (A ++ markPs B q = markPs ps k) ∧ St w0 wr L) (fun i _ _ => n - (intOf i).toNat)
  case atStart => exact ⟨0, k, [], ps, Nat.zero_le _, rfl, rfl, hk, he, rfl, by have := HN.out; omega, Lib.hid rfl, Lib.hid rfl, S⟩
  case round =>
    clear S
    obtain ⟨j, q, A, B, hj, rfl, rfl, hq, heB, hA, hB, HE, HM, S⟩ := hrel
    by_cases hlt : j < n
    · obtain ⟨p, B', rfl⟩ : ∃ p B', B = p :: B' := by
        cases B with
        | nil => simp at hB; omega
        | cons p B' => exact ⟨p, B', rfl⟩
      rw [List.length_cons] at hB
      have hle := endPs_le B' (stepM p q)
      have HEB := Lib.hid heB
      have hbd : stepM p q ≤ 100000000 := by
        have h1 : endPs B' (stepM p q) ≤ 100000000 := heB
        omega
      have HLen := Lib.hid hA
      obtain ⟨b, off, rfl, hb, hc⟩ := HA.out (by omega)
      have hget : ((markPs ps k).map Prod.snd)[j]? = some ((Prod.snd) (markOne p q)) := by
        rw [← HM.out, List.getElem?_map, List.getElem?_append_right (by omega), hA, Nat.sub_self]
        rfl
      obtain ⟨u, c1, c2, c3, hu⟩ := hc j _ hget
      obtain ⟨x, r, c, xs⟩ := p
      have e1 : (markOne (x, ⟨r, c, xs⟩) q).2 = ⟨q, q + 1, marks xs.length (q + 1 + 1)⟩ := by
        show (⟨q, q + 1, marks xs.length (q + 2)⟩ : Mx) = _
        rw [show q + 2 = q + 1 + 1 by omega]
      rw [e1] at c1 c2 hu
      dsimp only at c1 c2 hu
      have HU : Hid (Sees w0 1 u xs.length (ints (marks xs.length (q + 1 + 1)))) := Lib.hid (by unfold Ints at hu; rw [marks_len'] at hu; exact hu)
      have hbd' : q + 2 + (xs.length : Int) ≤ 100000000 := hbd
      clear hu
      have hu2 := HU.out
      obtain ⟨-, Au, cu, rfl, hcu, hmu, -⟩ := hu2
      have f1 := fun w' (S' : St w0 w' L) => (S'.below.cell (p := ⟨b, off + j * 3, none⟩) hb).trans c1
      have f2 := fun w' (S' : St w0 w' L) => (S'.below.cell (p := ⟨b, off + j * 3 + 1, none⟩) hb).trans c2
      have f3 := fun w' (S' : St w0 w' L) => (S'.below.cell (p := ⟨b, off + j * 3 + 2, none⟩) hb).trans c3
      clear hc c1 c2 c3 e1 hget hle heB hbd hA
      go_wp2_with (first | (go_at_call 91; refine (C_heldIntS xs.length _ _ _ (HU.out.at_ S) ⟨by omega, by omega⟩ (by omega)).mono ?_; rintro e w' ⟨rfl, rfl⟩))
      go_roundw
      case rel =>
        refine ⟨j + 1, q + 2 + xs.length, A ++ [markOne (x, ⟨r, c, xs⟩) q], B', by omega, by go_num, by go_num, by omega, HEB.out, by rw [List.length_append, HLen.out]; rfl, by omega, HE, Lib.hid ?_, S⟩
        rw [← HM.out, List.append_assoc]
        rfl
      case measure => simp [intOf]; omega
    · obtain rfl : j = n := by omega
      obtain rfl : B = [] := List.length_eq_zero_iff.1 (by omega)
      go_wp2
      go_ret
      exact ⟨congrArg (fun z => Ending.returned (Value.int .i64 z)) HE.out, S.below⟩
theorem C_heldLayerS (v : Value) (ps : LsO) (k : Int) (w0 : World) (h : SeesLs w0 v ((markLs ps k).map lyO)) (hk : 0 ≤ k) (he : endLs ps k ≤ 100000000) :
    Calls Try.prog 24 #[v, .int .i64 k] w0 fun e w' => e = .returned (.int .i64 (endLs ps k)) ∧ Below w0.heap.size w0 w' := by
  obtain ⟨A0, cap, rfl, hcap, hmax, hA⟩ := h
  obtain ⟨n, hn⟩ : ∃ n, ((markLs ps k).map lyO).length = n := ⟨_, rfl⟩
  have hn2 : ps.length = n := by rw [← hn, List.length_map, markLs_len]
  rw [hn] at hcap hA ⊢
  have HA := Lib.hid hA
  have HN := Lib.hid hn2
  clear hA hn hn2
  unfold maxLen at hmax
  obtain ⟨L, HL, S⟩ := st_start w0; have F : True := trivial
  go_enter Try.func24, Try.ntmps24
  go_wp2
  go_loopw [5, 1] (fun i k' wr => ∃ (j : Nat) (q : Int) (A B : LsO), j ≤ n ∧ i = .int .i64 j ∧ k' = .int .i64 q ∧ 0 ≤ q ∧ endLs B q ≤ 100000000 ∧ A.length = j ∧ j + B.length = n ∧ Hid (endLs B q = endLs ps k) ∧ Hid (A ++ markLs B q = markLs ps k) ∧ St w0 wr L) (fun i _ _ => n - (intOf i).toNat)
  case atStart => exact ⟨0, k, [], ps, Nat.zero_le _, rfl, rfl, hk, he, rfl, by have := HN.out; omega, Lib.hid rfl, Lib.hid rfl, S⟩
  case round =>
    clear S
    obtain ⟨j, q, A, B, hj, rfl, rfl, hq, heB, hA, hB, HE, HM, S⟩ := hrel
    by_cases hlt : j < n
    · obtain ⟨p, B', rfl⟩ : ∃ p B', B = p :: B' := by
        cases B with
        | nil => simp at hB; omega
        | cons p B' => exact ⟨p, B', rfl⟩
      rw [List.length_cons] at hB
      have hle := endLs_le B' (stepQ p q)
      have HEB := Lib.hid heB
      have hbd : stepQ p q ≤ 100000000 := by
        have h1 : endLs B' (stepQ p q) ≤ 100000000 := heB
        omega
      have HLen := Lib.hid hA
      obtain ⟨b, off, rfl, hb, hc⟩ := HA.out (by omega)
      have hget : ((markLs ps k).map lyO)[j]? = some ((lyO) (markQ p q)) := by
        rw [← HM.out, List.getElem?_map, List.getElem?_append_right (by omega), hA, Nat.sub_self]
        rfl
      obtain ⟨u, c1, c2, hu⟩ := hc j _ hget
      obtain ⟨x, kd, ms⟩ := p
      have HU : Hid (SeesMs w0 u ((markPs ms (q + 1)).map Prod.snd)) := Lib.hid hu
      obtain ⟨E, hE⟩ : ∃ E, endPs ms (q + 1) = E := ⟨_, rfl⟩
      have hE1 : q + 1 ≤ E := hE ▸ endPs_le ms (q + 1)
      have hE2 : E ≤ 100000000 := hE ▸ hbd
      have CH := C_heldMatrixS u ms (q + 1)
      rw [hE] at CH
      have HEE := Lib.hid hE
      have hum := HU.out
      obtain ⟨Au, cu, eu, hcu, hmu, -⟩ := hum
      have hml : ((markPs ms (q + 1)).map Prod.snd).length = ms.length := by rw [List.length_map, markPs_len]
      rw [hml] at eu
      subst eu
      have c1' : w0.cell? ⟨b, off + j * 2, none⟩ = some (.int .i64 q) := c1
      have f1 := fun w' (S' : St w0 w' L) => (S'.below.cell (p := ⟨b, off + j * 2, none⟩) hb).trans c1'
      have f2 := fun w' (S' : St w0 w' L) => (S'.below.cell (p := ⟨b, off + j * 2 + 1, none⟩) hb).trans c2
      clear hc c1 c1' c2 hget hle heB hbd hA hu hE hml
      go_wp2_with (first | (go_at_call 57; refine (CH _ (by exact HU.out.at_ S) (by omega) hE2).mono ?_; rintro e w ⟨rfl, hb⟩; replace S := S.grow hb; clear hb))
      go_roundw
      case rel =>
        refine ⟨j + 1, E, A ++ [markQ (x, kd, ms) q], B', by omega, by go_num, by go_num, by omega, by have := HEB.out; rw [← HEE.out]; exact this, by rw [List.length_append, HLen.out]; rfl, by omega, Lib.hid ?_, Lib.hid ?_, S⟩
        · rw [← HE.out, ← HEE.out]; rfl
        · rw [← HM.out, List.append_assoc, ← HEE.out]; rfl
      case measure => simp [intOf]; omega
    · obtain rfl : j = n := by omega
      obtain rfl : B = [] := List.length_eq_zero_iff.1 (by omega)
      go_wp2
      go_ret
      exact ⟨congrArg (fun z => Ending.returned (Value.int .i64 z)) HE.out, S.below⟩
end Go.Proofs.Ytdfpceobfficfaa
