/-
  Contracts: rows of shared matrices, of shared layers are as they were numbered.
-/
import Derived.Test.YtdfpceobfficfaaSlK
namespace Go.Proofs.Ytdfpceobfficfaa
set_option linter.unusedSimpArgs false
set_option linter.unusedVariables false
set_option linter.unusedSectionVars false
open Go Go.RowKit
set_option maxHeartbeats 8000000
set_option maxRecDepth 20000
theorem C_heldSharedMatrixS (v : Value) (ps : SMsO) (k : Int) (w0 : World) (h : SeesSMs w0 v ((markSPs ps k).map smO)) (hk : 0 ≤ k) (he : endSPs ps k ≤ 100000000) :
    Calls Try.prog 60 #[v, .int .i64 k] w0 fun e w' => e = .returned (.int .i64 (endSPs ps k)) ∧ Below w0.heap.size w0 w' := by
  obtain ⟨A0, cap, rfl, hcap, hmax, hA⟩ := h
  obtain ⟨n, hn⟩ : ∃ n, ((markSPs ps k).map smO).length = n := ⟨_, rfl⟩
  have hn2 : ps.length = n := by rw [← hn, List.length_map, markSPs_len]
  rw [hn] at hcap hA ⊢
  have HA := Lib.hid hA
  have HN := Lib.hid hn2
  clear hA hn hn2
  unfold maxLen at hmax
  obtain ⟨L, HL, S⟩ := st_start w0; have F : True := trivial
  go_enter Try.func60, Try.ntmps60
  go_wp2
  go_loopw [5, 1] (fun i k' wr => ∃ (j : Nat) (q : Int) (A B : SMsO), j ≤ n ∧ i = .int .i64 j ∧ k' = .int .i64 q ∧ 0 ≤ q ∧ endSPs B q ≤ 100000000 ∧ A.length = j ∧ j + B.length = n ∧ Hid (endSPs B q = endSPs ps k) ∧ Hid (A ++ markSPs B q = markSPs ps k) ∧ St w0 wr L) (fun i _ _ => n - (intOf i).toNat)
  case atStart => exact ⟨0, k, [], ps, Nat.zero_le _, rfl, rfl, hk, he, rfl, by have := HN.out; omega, Lib.hid rfl, Lib.hid rfl, S⟩
  case round =>
    clear S
    obtain ⟨j, q, A, B, hj, rfl, rfl, hq, heB, hA, hB, HE, HM, S⟩ := hrel
    by_cases hlt : j < n
    · obtain ⟨p, B', rfl⟩ : ∃ p B', B = p :: B' := by
        cases B with
        | nil => simp at hB; omega
        | cons p B' => exact ⟨p, B', rfl⟩
      rw [List.length_cons] at hB
      have hle := endSPs_le B' (stepSM p q)
      have HEB := Lib.hid heB
      have hbd : stepSM p q ≤ 100000000 := by
        have h1 : endSPs B' (stepSM p q) ≤ 100000000 := heB
        omega
      have HLen := Lib.hid hA
      obtain ⟨b, off, rfl, hb, hc⟩ := HA.out (by omega)
      have hget : ((markSPs ps k).map smO)[j]? = some ((smO) (markSOne p q)) := by
        rw [← HM.out, List.getElem?_map, List.getElem?_append_right (by omega), hA, Nat.sub_self]
        rfl
      obtain ⟨u, t, c1, c2, c3, c4, c5, c6, hu, ht⟩ := hc j _ hget
      obtain ⟨x, y, ⟨r, c, xs⟩, ⟨r', c', ys⟩⟩ := p
      have e1 : smO (markSOne (x, y, ⟨⟨r, c, xs⟩, ⟨r', c', ys⟩⟩) q) = ⟨⟨q, q + 1, marks xs.length (q + 1 + 1)⟩, ⟨q + 1 + 1 + xs.length, q + 1 + 1 + xs.length + 1, marks ys.length (q + 1 + 1 + xs.length + 1 + 1)⟩⟩ := by
        show (⟨⟨q, q + 1, marks xs.length (q + 2)⟩, ⟨q + 2 + xs.length, q + 3 + xs.length, marks ys.length (q + 4 + xs.length)⟩⟩ : SMx) = _
        rw [show q + 1 + 1 + (xs.length : Int) + 1 + 1 = q + 4 + xs.length by omega, show q + 1 + 1 + (xs.length : Int) + 1 = q + 3 + xs.length by omega, show q + 1 + 1 = q + 2 by omega]
      rw [e1] at c1 c2 c4 c5 hu ht
      dsimp only at c1 c2 c4 c5 hu ht
      have HU : Hid (Sees w0 1 u xs.length (ints (marks xs.length (q + 1 + 1)))) := Lib.hid (by unfold Ints at hu; rw [marks_len'] at hu; exact hu)
      have HT : Hid (Sees w0 1 t ys.length (ints (marks ys.length (q + 1 + 1 + xs.length + 1 + 1)))) := Lib.hid (by unfold Ints at ht; rw [marks_len'] at ht; exact ht)
      have hbd' : q + 4 + (xs.length : Int) + (ys.length : Int) ≤ 100000000 := hbd
      clear hu ht
      have hu2 := HU.out
      have ht2 := HT.out
      obtain ⟨-, Au, cu, rfl, hcu, hmu, -⟩ := hu2
      obtain ⟨-, Av, cv, rfl, hcv, hmv, -⟩ := ht2
      have f1 := fun w' (S' : St w0 w' L) => (S'.below.cell (p := ⟨b, off + j * 6, none⟩) hb).trans c1
      have f2 := fun w' (S' : St w0 w' L) => (S'.below.cell (p := ⟨b, off + j * 6 + 1, none⟩) hb).trans c2
      have f3 := fun w' (S' : St w0 w' L) => (S'.below.cell (p := ⟨b, off + j * 6 + 2, none⟩) hb).trans c3
      have f4 := fun w' (S' : St w0 w' L) => (S'.below.cell (p := ⟨b, off + j * 6 + 3, none⟩) hb).trans c4
      have f5 := fun w' (S' : St w0 w' L) => (S'.below.cell (p := ⟨b, off + j * 6 + 4, none⟩) hb).trans c5
      have f6 := fun w' (S' : St w0 w' L) => (S'.below.cell (p := ⟨b, off + j * 6 + 5, none⟩) hb).trans c6
      clear hc c1 c2 c3 c4 c5 c6 e1 hget hle heB hbd hA
      go_wp2_with (first | (go_at_call 91; refine (C_heldIntS xs.length _ _ _ (by exact HU.out.at_ S) ⟨by omega, by omega⟩ (by omega)).mono ?_; rintro e w' ⟨rfl, rfl⟩) | (go_at_call 91; refine (C_heldIntS ys.length _ _ _ (by exact HT.out.at_ S) ⟨by omega, by omega⟩ (by omega)).mono ?_; rintro e w' ⟨rfl, rfl⟩))
      go_roundw
      case rel =>
        refine ⟨j + 1, q + 4 + xs.length + ys.length, A ++ [markSOne (x, y, ⟨⟨r, c, xs⟩, ⟨r', c', ys⟩⟩) q], B', by omega, by go_num, by go_num, by omega, HEB.out, by rw [List.length_append, HLen.out]; rfl, by omega, HE, Lib.hid ?_, S⟩
        rw [← HM.out, List.append_assoc]
        rfl
      case measure => simp [intOf]; omega
    · obtain rfl : j = n := by omega
      obtain rfl : B = [] := List.length_eq_zero_iff.1 (by omega)
      go_wp2
      go_ret
      exact ⟨congrArg (fun z => Ending.returned (Value.int .i64 z)) HE.out, S.below⟩
theorem C_heldSharedLayerS (v : Value) (ps : SLsO) (k : Int) (w0 : World) (h : SeesSLs w0 v ((markSLs ps k).map slyO)) (hk : 0 ≤ k) (he : endSLs ps k ≤ 100000000) :
    Calls Try.prog 27 #[v, .int .i64 k] w0 fun e w' => e = .returned (.int .i64 (endSLs ps k)) ∧ Below w0.heap.size w0 w' := by
  obtain ⟨A0, cap, rfl, hcap, hmax, hA⟩ := h
  obtain ⟨n, hn⟩ : ∃ n, ((markSLs ps k).map slyO).length = n := ⟨_, rfl⟩
  have hn2 : ps.length = n := by rw [← hn, List.length_map, markSLs_len]
  rw [hn] at hcap hA ⊢
  have HA := Lib.hid hA
  have HN := Lib.hid hn2
  clear hA hn hn2
  unfold maxLen at hmax
  obtain ⟨L, HL, S⟩ := st_start w0; have F : True := trivial
  go_enter Try.func27, Try.ntmps27
  go_wp2
  go_loopw [5, 1] (fun i k' wr => ∃ (j : Nat) (q : Int) (A B : SLsO), j ≤ n ∧ i = .int .i64 j ∧ k' = .int .i64 q ∧ 0 ≤ q ∧ endSLs B q ≤ 100000000 ∧ A.length = j ∧ j + B.length = n ∧ Hid (endSLs B q = endSLs ps k) ∧ Hid (A ++ markSLs B q = markSLs ps k) ∧ St w0 wr L) (fun i _ _ => n - (intOf i).toNat)
  case atStart => exact ⟨0, k, [], ps, Nat.zero_le _, rfl, rfl, hk, he, rfl, by have := HN.out; omega, Lib.hid rfl, Lib.hid rfl, S⟩
  case round =>
    clear S
    obtain ⟨j, q, A, B, hj, rfl, rfl, hq, heB, hA, hB, HE, HM, S⟩ := hrel
    by_cases hlt : j < n
    · obtain ⟨p, B', rfl⟩ : ∃ p B', B = p :: B' := by
        cases B with
        | nil => simp at hB; omega
        | cons p B' => exact ⟨p, B', rfl⟩
      rw [List.length_cons] at hB
      have hle := endSLs_le B' (stepSQ p q)
      have HEB := Lib.hid heB
      have hbd : stepSQ p q ≤ 100000000 := by
        have h1 : endSLs B' (stepSQ p q) ≤ 100000000 := heB
        omega
      have HLen := Lib.hid hA
      obtain ⟨b, off, rfl, hb, hc⟩ := HA.out (by omega)
      have hget : ((markSLs ps k).map slyO)[j]? = some ((slyO) (markSQ p q)) := by
        rw [← HM.out, List.getElem?_map, List.getElem?_append_right (by omega), hA, Nat.sub_self]
        rfl
      obtain ⟨u, c1, c2, hu⟩ := hc j _ hget
      obtain ⟨x, kd, ms⟩ := p
      have HU : Hid (SeesSMs w0 u ((markSPs ms (q + 1)).map smO)) := Lib.hid hu
      obtain ⟨E, hE⟩ : ∃ E, endSPs ms (q + 1) = E := ⟨_, rfl⟩
      have hE1 : q + 1 ≤ E := hE ▸ endSPs_le ms (q + 1)
      have hE2 : E ≤ 100000000 := hE ▸ hbd
      have CH := C_heldSharedMatrixS u ms (q + 1)
      rw [hE] at CH
      have HEE := Lib.hid hE
      have hum := HU.out
      obtain ⟨Au, cu, eu, hcu, hmu, -⟩ := hum
      have hml : ((markSPs ms (q + 1)).map smO).length = ms.length := by rw [List.length_map, markSPs_len]
      rw [hml] at eu
      subst eu
      have c1' : w0.cell? ⟨b, off + j * 2, none⟩ = some (.int .i64 q) := c1
      have f1 := fun w' (S' : St w0 w' L) => (S'.below.cell (p := ⟨b, off + j * 2, none⟩) hb).trans c1'
      have f2 := fun w' (S' : St w0 w' L) => (S'.below.cell (p := ⟨b, off + j * 2 + 1, none⟩) hb).trans c2
      clear hc c1 c1' c2 hget hle heB hbd hA hu hE hml
      go_wp2_with (first | (go_at_call 60; refine (CH _ (by exact HU.out.at_ S) (by omega) hE2).mono ?_; rintro e w ⟨rfl, hb⟩; replace S := S.grow hb; clear hb))
      go_roundw
      case rel =>
        refine ⟨j + 1, E, A ++ [markSQ (x, kd, ms) q], B', by omega, by go_num, by go_num, by omega, by have := HEB.out; rw [← HEE.out]; exact this, by rw [List.length_append, HLen.out]; rfl, by omega, Lib.hid ?_, Lib.hid ?_, S⟩
        · rw [← HE.out, ← HEE.out]; rfl
        · rw [← HM.out, List.append_assoc, ← HEE.out]; rfl
      case measure => simp [intOf]; omega
    · obtain rfl : j = n := by omega
      obtain rfl : B = [] := List.length_eq_zero_iff.1 (by omega)
      go_wp2
      go_ret
      exact ⟨congrArg (fun z => Ending.returned (Value.int .i64 z)) HE.out, S.below⟩
end Go.Proofs.Ytdfpceobfficfaa
