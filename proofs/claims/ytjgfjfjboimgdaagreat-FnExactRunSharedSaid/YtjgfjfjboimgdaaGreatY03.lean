/- Head Pure Ring View Row -/
import Derived.Test.YtjgfjfjboimgdaaGreatRows
import Derived.Test.YtjgfjfjboimgdaaGreatY02
namespace Go.Proofs.YtjgfjfjboimgdaaGreat
set_option linter.unusedSimpArgs false
set_option linter.unusedVariables false
set_option linter.unusedSectionVars false
open Go Go.RowKit
set_option maxHeartbeats 8000000
set_option maxRecDepth 20000
section
set_option maxRecDepth 100000
def headOf : List (List Char) → List Char
  | [] => []
  | [w] => w
  | w :: v :: ws => w ++ Char.ofNat 32 :: headOf (v :: ws)
theorem wordsSigns_word : ∀ (w r : List Char), w.all (fun c => c != Char.ofNat 32) = true → wordsSigns (w ++ Char.ofNat 32 :: r) = w :: wordsSigns r
  | [], r, _ => by simp [wordsSigns]
  | c :: w, r, h => by
    simp only [List.all_cons, Bool.and_eq_true, bne_iff_ne] at h
    have ih := wordsSigns_word w r h.2
    have hc : ∀ (x : Char) (l : List Char), x ≠ Char.ofNat 32 → wordsSigns (x :: l) = match wordsSigns l with | w :: ws => (x :: w) :: ws | [] => [[x]] := by
      intro x l hx
      rw [wordsSigns]
      · rfl
      · exact hx
    rw [List.cons_append, hc _ _ h.1, ih]
theorem wordsSigns_last : ∀ (w : List Char), w.all (fun c => c != Char.ofNat 32) = true → wordsSigns w = [w]
  | [], _ => rfl
  | c :: w, h => by
    simp only [List.all_cons, Bool.and_eq_true, bne_iff_ne] at h
    have hc : ∀ (x : Char) (l : List Char), x ≠ Char.ofNat 32 → wordsSigns (x :: l) = match wordsSigns l with | w :: ws => (x :: w) :: ws | [] => [[x]] := by
      intro x l hx
      rw [wordsSigns]
      · rfl
      · exact hx
    rw [hc _ _ h.1, wordsSigns_last w h.2]
theorem wordsSigns_headOf : ∀ (ws : List (List Char)), ws ≠ [] → ws.all (fun w => w.all (fun c => c != Char.ofNat 32)) = true → wordsSigns (headOf ws) = ws
  | [], h, _ => absurd rfl h
  | [w], _, h => wordsSigns_last w (by simpa using h)
  | w :: v :: ws, _, h => by
    rw [List.all_cons, Bool.and_eq_true] at h
    show wordsSigns (w ++ Char.ofNat 32 :: headOf (v :: ws)) = _
    rw [wordsSigns_word w _ h.1, wordsSigns_headOf (v :: ws) (by simp) h.2]
theorem head_chars : Tryz.prog.initOrder = String.ofList (headOf [[Char.ofNat 104, Char.ofNat 97, Char.ofNat 114, Char.ofNat 110, Char.ofNat 101, Char.ofNat 115, Char.ofNat 115], [Char.ofNat 51, Char.ofNat 48, Char.ofNat 56, Char.ofNat 101, Char.ofNat 53, Char.ofNat 101, Char.ofNat 51, Char.ofNat 49, Char.ofNat 48, Char.ofNat 55, Char.ofNat 55, Char.ofNat 51, Char.ofNat 98, Char.ofNat 54, Char.ofNat 52, Char.ofNat 57, Char.ofNat 99, Char.ofNat 48, Char.ofNat 53, Char.ofNat 48, Char.ofNat 98, Char.ofNat 49, Char.ofNat 48, Char.ofNat 56, Char.ofNat 102, Char.ofNat 102, Char.ofNat 51, Char.ofNat 51, Char.ofNat 97, Char.ofNat 53, Char.ofNat 101, Char.ofNat 52, Char.ofNat 52, Char.ofNat 53, Char.ofNat 50, Char.ofNat 56, Char.ofNat 53, Char.ofNat 100, Char.ofNat 98, Char.ofNat 56, Char.ofNat 51, Char.ofNat 97, Char.ofNat 98, Char.ofNat 97, Char.ofNat 52, Char.ofNat 50, Char.ofNat 55, Char.ofNat 56, Char.ofNat 99, Char.ofNat 53, Char.ofNat 101, Char.ofNat 57, Char.ofNat 51, Char.ofNat 57, Char.ofNat 99, Char.ofNat 53, Char.ofNat 101, Char.ofNat 102, Char.ofNat 102, Char.ofNat 97, Char.ofNat 102, Char.ofNat 53, Char.ofNat 102, Char.ofNat 49], [Char.ofNat 99, Char.ofNat 117, Char.ofNat 116], [Char.ofNat 97, Char.ofNat 116], [Char.ofNat 108, Char.ofNat 111, Char.ofNat 111, Char.ofNat 112, Char.ofNat 46, Char.ofNat 101, Char.ofNat 120, Char.ofNat 97, Char.ofNat 109, Char.ofNat 112, Char.ofNat 108, Char.ofNat 101, Char.ofNat 47, Char.ofNat 115, Char.ofNat 104, Char.ofNat 97, Char.ofNat 114, Char.ofNat 101, Char.ofNat 100, Char.ofNat 105, Char.ofNat 110, Char.ofNat 102, Char.ofNat 101, Char.ofNat 114, Char.ofNat 101, Char.ofNat 110, Char.ofNat 99, Char.ofNat 101, Char.ofNat 47, Char.ofNat 108, Char.ofNat 97, Char.ofNat 119, Char.ofNat 115, Char.ofNat 46, Char.ofNat 70, Char.ofNat 110, Char.ofNat 69, Char.ofNat 120, Char.ofNat 97, Char.ofNat 99, Char.ofNat 116, Char.ofNat 83, Char.ofNat 104, Char.ofNat 97, Char.ofNat 114, Char.ofNat 101, Char.ofNat 100, Char.ofNat 77, Char.ofNat 105, Char.ofNat 120], [Char.ofNat 108, Char.ofNat 111, Char.ofNat 111, Char.ofNat 112, Char.ofNat 46, Char.ofNat 101, Char.ofNat 120, Char.ofNat 97, Char.ofNat 109, Char.ofNat 112, Char.ofNat 108, Char.ofNat 101, Char.ofNat 47, Char.ofNat 115, Char.ofNat 104, Char.ofNat 97, Char.ofNat 114, Char.ofNat 101, Char.ofNat 100, Char.ofNat 105, Char.ofNat 110, Char.ofNat 102, Char.ofNat 101, Char.ofNat 114, Char.ofNat 101, Char.ofNat 110, Char.ofNat 99, Char.ofNat 101, Char.ofNat 47, Char.ofNat 108, Char.ofNat 97, Char.ofNat 119, Char.ofNat 115, Char.ofNat 46, Char.ofNat 70, Char.ofNat 110, Char.ofNat 83, Char.ofNat 104, Char.ofNat 97, Char.ofNat 114, Char.ofNat 101, Char.ofNat 100, Char.ofNat 77, Char.ofNat 105, Char.ofNat 120], [Char.ofNat 108, Char.ofNat 111, Char.ofNat 111, Char.ofNat 112, Char.ofNat 46, Char.ofNat 101, Char.ofNat 120, Char.ofNat 97, Char.ofNat 109, Char.ofNat 112, Char.ofNat 108, Char.ofNat 101, Char.ofNat 47, Char.ofNat 115, Char.ofNat 104, Char.ofNat 97, Char.ofNat 114, Char.ofNat 101, Char.ofNat 100, Char.ofNat 105, Char.ofNat 110, Char.ofNat 102, Char.ofNat 101, Char.ofNat 114, Char.ofNat 101, Char.ofNat 110, Char.ofNat 99, Char.ofNat 101, Char.ofNat 47, Char.ofNat 108, Char.ofNat 97, Char.ofNat 119, Char.ofNat 115, Char.ofNat 46, Char.ofNat 70, Char.ofNat 110, Char.ofNat 82, Char.ofNat 117, Char.ofNat 110, Char.ofNat 80, Char.ofNat 97, Char.ofNat 114, Char.ofNat 116, Char.ofNat 115], [Char.ofNat 108, Char.ofNat 111, Char.ofNat 111, Char.ofNat 112, Char.ofNat 46, Char.ofNat 101, Char.ofNat 120, Char.ofNat 97, Char.ofNat 109, Char.ofNat 112, Char.ofNat 108, Char.ofNat 101, Char.ofNat 47, Char.ofNat 115, Char.ofNat 104, Char.ofNat 97, Char.ofNat 114, Char.ofNat 101, Char.ofNat 100, Char.ofNat 105, Char.ofNat 110, Char.ofNat 102, Char.ofNat 101, Char.ofNat 114, Char.ofNat 101, Char.ofNat 110, Char.ofNat 99, Char.ofNat 101, Char.ofNat 47, Char.ofNat 108, Char.ofNat 97, Char.ofNat 119, Char.ofNat 115, Char.ofNat 46, Char.ofNat 70, Char.ofNat 110, Char.ofNat 82, Char.ofNat 117, Char.ofNat 110, Char.ofNat 83, Char.ofNat 101, Char.ofNat 101, Char.ofNat 100, Char.ofNat 115], [Char.ofNat 108, Char.ofNat 111, Char.ofNat 111, Char.ofNat 112, Char.ofNat 46, Char.ofNat 101, Char.ofNat 120, Char.ofNat 97, Char.ofNat 109, Char.ofNat 112, Char.ofNat 108, Char.ofNat 101, Char.ofNat 47, Char.ofNat 115, Char.ofNat 104, Char.ofNat 97, Char.ofNat 114, Char.ofNat 101, Char.ofNat 100, Char.ofNat 105, Char.ofNat 110, Char.ofNat 102, Char.ofNat 101, Char.ofNat 114, Char.ofNat 101, Char.ofNat 110, Char.ofNat 99, Char.ofNat 101, Char.ofNat 47, Char.ofNat 108, Char.ofNat 97, Char.ofNat 119, Char.ofNat 115, Char.ofNat 46, Char.ofNat 70, Char.ofNat 110, Char.ofNat 69, Char.ofNat 120, Char.ofNat 97, Char.ofNat 99, Char.ofNat 116, Char.ofNat 82, Char.ofNat 117, Char.ofNat 110, Char.ofNat 83, Char.ofNat 104, Char.ofNat 97, Char.ofNat 114, Char.ofNat 101, Char.ofNat 100], [Char.ofNat 108, Char.ofNat 111, Char.ofNat 111, Char.ofNat 112, Char.ofNat 46, Char.ofNat 101, Char.ofNat 120, Char.ofNat 97, Char.ofNat 109, Char.ofNat 112, Char.ofNat 108, Char.ofNat 101, Char.ofNat 47, Char.ofNat 115, Char.ofNat 104, Char.ofNat 97, Char.ofNat 114, Char.ofNat 101, Char.ofNat 100, Char.ofNat 105, Char.ofNat 110, Char.ofNat 102, Char.ofNat 101, Char.ofNat 114, Char.ofNat 101, Char.ofNat 110, Char.ofNat 99, Char.ofNat 101, Char.ofNat 47, Char.ofNat 108, Char.ofNat 97, Char.ofNat 119, Char.ofNat 115, Char.ofNat 46, Char.ofNat 70, Char.ofNat 110, Char.ofNat 82, Char.ofNat 117, Char.ofNat 110, Char.ofNat 83, Char.ofNat 104, Char.ofNat 97, Char.ofNat 114, Char.ofNat 101, Char.ofNat 100]]) := by kernel_rfl
theorem head_words : wordsSigns Tryz.prog.initOrder.toList = [[Char.ofNat 104, Char.ofNat 97, Char.ofNat 114, Char.ofNat 110, Char.ofNat 101, Char.ofNat 115, Char.ofNat 115], [Char.ofNat 51, Char.ofNat 48, Char.ofNat 56, Char.ofNat 101, Char.ofNat 53, Char.ofNat 101, Char.ofNat 51, Char.ofNat 49, Char.ofNat 48, Char.ofNat 55, Char.ofNat 55, Char.ofNat 51, Char.ofNat 98, Char.ofNat 54, Char.ofNat 52, Char.ofNat 57, Char.ofNat 99, Char.ofNat 48, Char.ofNat 53, Char.ofNat 48, Char.ofNat 98, Char.ofNat 49, Char.ofNat 48, Char.ofNat 56, Char.ofNat 102, Char.ofNat 102, Char.ofNat 51, Char.ofNat 51, Char.ofNat 97, Char.ofNat 53, Char.ofNat 101, Char.ofNat 52, Char.ofNat 52, Char.ofNat 53, Char.ofNat 50, Char.ofNat 56, Char.ofNat 53, Char.ofNat 100, Char.ofNat 98, Char.ofNat 56, Char.ofNat 51, Char.ofNat 97, Char.ofNat 98, Char.ofNat 97, Char.ofNat 52, Char.ofNat 50, Char.ofNat 55, Char.ofNat 56, Char.ofNat 99, Char.ofNat 53, Char.ofNat 101, Char.ofNat 57, Char.ofNat 51, Char.ofNat 57, Char.ofNat 99, Char.ofNat 53, Char.ofNat 101, Char.ofNat 102, Char.ofNat 102, Char.ofNat 97, Char.ofNat 102, Char.ofNat 53, Char.ofNat 102, Char.ofNat 49], [Char.ofNat 99, Char.ofNat 117, Char.ofNat 116], [Char.ofNat 97, Char.ofNat 116], [Char.ofNat 108, Char.ofNat 111, Char.ofNat 111, Char.ofNat 112, Char.ofNat 46, Char.ofNat 101, Char.ofNat 120, Char.ofNat 97, Char.ofNat 109, Char.ofNat 112, Char.ofNat 108, Char.ofNat 101, Char.ofNat 47, Char.ofNat 115, Char.ofNat 104, Char.ofNat 97, Char.ofNat 114, Char.ofNat 101, Char.ofNat 100, Char.ofNat 105, Char.ofNat 110, Char.ofNat 102, Char.ofNat 101, Char.ofNat 114, Char.ofNat 101, Char.ofNat 110, Char.ofNat 99, Char.ofNat 101, Char.ofNat 47, Char.ofNat 108, Char.ofNat 97, Char.ofNat 119, Char.ofNat 115, Char.ofNat 46, Char.ofNat 70, Char.ofNat 110, Char.ofNat 69, Char.ofNat 120, Char.ofNat 97, Char.ofNat 99, Char.ofNat 116, Char.ofNat 83, Char.ofNat 104, Char.ofNat 97, Char.ofNat 114, Char.ofNat 101, Char.ofNat 100, Char.ofNat 77, Char.ofNat 105, Char.ofNat 120], [Char.ofNat 108, Char.ofNat 111, Char.ofNat 111, Char.ofNat 112, Char.ofNat 46, Char.ofNat 101, Char.ofNat 120, Char.ofNat 97, Char.ofNat 109, Char.ofNat 112, Char.ofNat 108, Char.ofNat 101, Char.ofNat 47, Char.ofNat 115, Char.ofNat 104, Char.ofNat 97, Char.ofNat 114, Char.ofNat 101, Char.ofNat 100, Char.ofNat 105, Char.ofNat 110, Char.ofNat 102, Char.ofNat 101, Char.ofNat 114, Char.ofNat 101, Char.ofNat 110, Char.ofNat 99, Char.ofNat 101, Char.ofNat 47, Char.ofNat 108, Char.ofNat 97, Char.ofNat 119, Char.ofNat 115, Char.ofNat 46, Char.ofNat 70, Char.ofNat 110, Char.ofNat 83, Char.ofNat 104, Char.ofNat 97, Char.ofNat 114, Char.ofNat 101, Char.ofNat 100, Char.ofNat 77, Char.ofNat 105, Char.ofNat 120], [Char.ofNat 108, Char.ofNat 111, Char.ofNat 111, Char.ofNat 112, Char.ofNat 46, Char.ofNat 101, Char.ofNat 120, Char.ofNat 97, Char.ofNat 109, Char.ofNat 112, Char.ofNat 108, Char.ofNat 101, Char.ofNat 47, Char.ofNat 115, Char.ofNat 104, Char.ofNat 97, Char.ofNat 114, Char.ofNat 101, Char.ofNat 100, Char.ofNat 105, Char.ofNat 110, Char.ofNat 102, Char.ofNat 101, Char.ofNat 114, Char.ofNat 101, Char.ofNat 110, Char.ofNat 99, Char.ofNat 101, Char.ofNat 47, Char.ofNat 108, Char.ofNat 97, Char.ofNat 119, Char.ofNat 115, Char.ofNat 46, Char.ofNat 70, Char.ofNat 110, Char.ofNat 82, Char.ofNat 117, Char.ofNat 110, Char.ofNat 80, Char.ofNat 97, Char.ofNat 114, Char.ofNat 116, Char.ofNat 115], [Char.ofNat 108, Char.ofNat 111, Char.ofNat 111, Char.ofNat 112, Char.ofNat 46, Char.ofNat 101, Char.ofNat 120, Char.ofNat 97, Char.ofNat 109, Char.ofNat 112, Char.ofNat 108, Char.ofNat 101, Char.ofNat 47, Char.ofNat 115, Char.ofNat 104, Char.ofNat 97, Char.ofNat 114, Char.ofNat 101, Char.ofNat 100, Char.ofNat 105, Char.ofNat 110, Char.ofNat 102, Char.ofNat 101, Char.ofNat 114, Char.ofNat 101, Char.ofNat 110, Char.ofNat 99, Char.ofNat 101, Char.ofNat 47, Char.ofNat 108, Char.ofNat 97, Char.ofNat 119, Char.ofNat 115, Char.ofNat 46, Char.ofNat 70, Char.ofNat 110, Char.ofNat 82, Char.ofNat 117, Char.ofNat 110, Char.ofNat 83, Char.ofNat 101, Char.ofNat 101, Char.ofNat 100, Char.ofNat 115], [Char.ofNat 108, Char.ofNat 111, Char.ofNat 111, Char.ofNat 112, Char.ofNat 46, Char.ofNat 101, Char.ofNat 120, Char.ofNat 97, Char.ofNat 109, Char.ofNat 112, Char.ofNat 108, Char.ofNat 101, Char.ofNat 47, Char.ofNat 115, Char.ofNat 104, Char.ofNat 97, Char.ofNat 114, Char.ofNat 101, Char.ofNat 100, Char.ofNat 105, Char.ofNat 110, Char.ofNat 102, Char.ofNat 101, Char.ofNat 114, Char.ofNat 101, Char.ofNat 110, Char.ofNat 99, Char.ofNat 101, Char.ofNat 47, Char.ofNat 108, Char.ofNat 97, Char.ofNat 119, Char.ofNat 115, Char.ofNat 46, Char.ofNat 70, Char.ofNat 110, Char.ofNat 69, Char.ofNat 120, Char.ofNat 97, Char.ofNat 99, Char.ofNat 116, Char.ofNat 82, Char.ofNat 117, Char.ofNat 110, Char.ofNat 83, Char.ofNat 104, Char.ofNat 97, Char.ofNat 114, Char.ofNat 101, Char.ofNat 100], [Char.ofNat 108, Char.ofNat 111, Char.ofNat 111, Char.ofNat 112, Char.ofNat 46, Char.ofNat 101, Char.ofNat 120, Char.ofNat 97, Char.ofNat 109, Char.ofNat 112, Char.ofNat 108, Char.ofNat 101, Char.ofNat 47, Char.ofNat 115, Char.ofNat 104, Char.ofNat 97, Char.ofNat 114, Char.ofNat 101, Char.ofNat 100, Char.ofNat 105, Char.ofNat 110, Char.ofNat 102, Char.ofNat 101, Char.ofNat 114, Char.ofNat 101, Char.ofNat 110, Char.ofNat 99, Char.ofNat 101, Char.ofNat 47, Char.ofNat 108, Char.ofNat 97, Char.ofNat 119, Char.ofNat 115, Char.ofNat 46, Char.ofNat 70, Char.ofNat 110, Char.ofNat 82, Char.ofNat 117, Char.ofNat 110, Char.ofNat 83, Char.ofNat 104, Char.ofNat 97, Char.ofNat 114, Char.ofNat 101, Char.ofNat 100]] := by
  rw [head_chars, String.toList_ofList]
  exact wordsSigns_headOf _ (by simp) (by kernel_rfl)
theorem head_main : behindMainWord (wordsSigns Tryz.prog.initOrder.toList) = [[Char.ofNat 99, Char.ofNat 117, Char.ofNat 116], [Char.ofNat 97, Char.ofNat 116], [Char.ofNat 108, Char.ofNat 111, Char.ofNat 111, Char.ofNat 112, Char.ofNat 46, Char.ofNat 101, Char.ofNat 120, Char.ofNat 97, Char.ofNat 109, Char.ofNat 112, Char.ofNat 108, Char.ofNat 101, Char.ofNat 47, Char.ofNat 115, Char.ofNat 104, Char.ofNat 97, Char.ofNat 114, Char.ofNat 101, Char.ofNat 100, Char.ofNat 105, Char.ofNat 110, Char.ofNat 102, Char.ofNat 101, Char.ofNat 114, Char.ofNat 101, Char.ofNat 110, Char.ofNat 99, Char.ofNat 101, Char.ofNat 47, Char.ofNat 108, Char.ofNat 97, Char.ofNat 119, Char.ofNat 115, Char.ofNat 46, Char.ofNat 70, Char.ofNat 110, Char.ofNat 69, Char.ofNat 120, Char.ofNat 97, Char.ofNat 99, Char.ofNat 116, Char.ofNat 83, Char.ofNat 104, Char.ofNat 97, Char.ofNat 114, Char.ofNat 101, Char.ofNat 100, Char.ofNat 77, Char.ofNat 105, Char.ofNat 120], [Char.ofNat 108, Char.ofNat 111, Char.ofNat 111, Char.ofNat 112, Char.ofNat 46, Char.ofNat 101, Char.ofNat 120, Char.ofNat 97, Char.ofNat 109, Char.ofNat 112, Char.ofNat 108, Char.ofNat 101, Char.ofNat 47, Char.ofNat 115, Char.ofNat 104, Char.ofNat 97, Char.ofNat 114, Char.ofNat 101, Char.ofNat 100, Char.ofNat 105, Char.ofNat 110, Char.ofNat 102, Char.ofNat 101, Char.ofNat 114, Char.ofNat 101, Char.ofNat 110, Char.ofNat 99, Char.ofNat 101, Char.ofNat 47, Char.ofNat 108, Char.ofNat 97, Char.ofNat 119, Char.ofNat 115, Char.ofNat 46, Char.ofNat 70, Char.ofNat 110, Char.ofNat 83, Char.ofNat 104, Char.ofNat 97, Char.ofNat 114, Char.ofNat 101, Char.ofNat 100, Char.ofNat 77, Char.ofNat 105, Char.ofNat 120], [Char.ofNat 108, Char.ofNat 111, Char.ofNat 111, Char.ofNat 112, Char.ofNat 46, Char.ofNat 101, Char.ofNat 120, Char.ofNat 97, Char.ofNat 109, Char.ofNat 112, Char.ofNat 108, Char.ofNat 101, Char.ofNat 47, Char.ofNat 115, Char.ofNat 104, Char.ofNat 97, Char.ofNat 114, Char.ofNat 101, Char.ofNat 100, Char.ofNat 105, Char.ofNat 110, Char.ofNat 102, Char.ofNat 101, Char.ofNat 114, Char.ofNat 101, Char.ofNat 110, Char.ofNat 99, Char.ofNat 101, Char.ofNat 47, Char.ofNat 108, Char.ofNat 97, Char.ofNat 119, Char.ofNat 115, Char.ofNat 46, Char.ofNat 70, Char.ofNat 110, Char.ofNat 82, Char.ofNat 117, Char.ofNat 110, Char.ofNat 80, Char.ofNat 97, Char.ofNat 114, Char.ofNat 116, Char.ofNat 115], [Char.ofNat 108, Char.ofNat 111, Char.ofNat 111, Char.ofNat 112, Char.ofNat 46, Char.ofNat 101, Char.ofNat 120, Char.ofNat 97, Char.ofNat 109, Char.ofNat 112, Char.ofNat 108, Char.ofNat 101, Char.ofNat 47, Char.ofNat 115, Char.ofNat 104, Char.ofNat 97, Char.ofNat 114, Char.ofNat 101, Char.ofNat 100, Char.ofNat 105, Char.ofNat 110, Char.ofNat 102, Char.ofNat 101, Char.ofNat 114, Char.ofNat 101, Char.ofNat 110, Char.ofNat 99, Char.ofNat 101, Char.ofNat 47, Char.ofNat 108, Char.ofNat 97, Char.ofNat 119, Char.ofNat 115, Char.ofNat 46, Char.ofNat 70, Char.ofNat 110, Char.ofNat 82, Char.ofNat 117, Char.ofNat 110, Char.ofNat 83, Char.ofNat 101, Char.ofNat 101, Char.ofNat 100, Char.ofNat 115], [Char.ofNat 108, Char.ofNat 111, Char.ofNat 111, Char.ofNat 112, Char.ofNat 46, Char.ofNat 101, Char.ofNat 120, Char.ofNat 97, Char.ofNat 109, Char.ofNat 112, Char.ofNat 108, Char.ofNat 101, Char.ofNat 47, Char.ofNat 115, Char.ofNat 104, Char.ofNat 97, Char.ofNat 114, Char.ofNat 101, Char.ofNat 100, Char.ofNat 105, Char.ofNat 110, Char.ofNat 102, Char.ofNat 101, Char.ofNat 114, Char.ofNat 101, Char.ofNat 110, Char.ofNat 99, Char.ofNat 101, Char.ofNat 47, Char.ofNat 108, Char.ofNat 97, Char.ofNat 119, Char.ofNat 115, Char.ofNat 46, Char.ofNat 70, Char.ofNat 110, Char.ofNat 69, Char.ofNat 120, Char.ofNat 97, Char.ofNat 99, Char.ofNat 116, Char.ofNat 82, Char.ofNat 117, Char.ofNat 110, Char.ofNat 83, Char.ofNat 104, Char.ofNat 97, Char.ofNat 114, Char.ofNat 101, Char.ofNat 100], [Char.ofNat 108, Char.ofNat 111, Char.ofNat 111, Char.ofNat 112, Char.ofNat 46, Char.ofNat 101, Char.ofNat 120, Char.ofNat 97, Char.ofNat 109, Char.ofNat 112, Char.ofNat 108, Char.ofNat 101, Char.ofNat 47, Char.ofNat 115, Char.ofNat 104, Char.ofNat 97, Char.ofNat 114, Char.ofNat 101, Char.ofNat 100, Char.ofNat 105, Char.ofNat 110, Char.ofNat 102, Char.ofNat 101, Char.ofNat 114, Char.ofNat 101, Char.ofNat 110, Char.ofNat 99, Char.ofNat 101, Char.ofNat 47, Char.ofNat 108, Char.ofNat 97, Char.ofNat 119, Char.ofNat 115, Char.ofNat 46, Char.ofNat 70, Char.ofNat 110, Char.ofNat 82, Char.ofNat 117, Char.ofNat 110, Char.ofNat 83, Char.ofNat 104, Char.ofNat 97, Char.ofNat 114, Char.ofNat 101, Char.ofNat 100]] := by
  rw [head_words]
  kernel_rfl
theorem head_lifts : Tryz.prog.headLifts = [] := by
  unfold Program.headLifts
  rw [head_main]
  kernel_rfl
theorem make_of {P : Program} {r : List (List Char)} (h : behindMainWord (wordsSigns P.initOrder.toList) = [Char.ofNat 99, Char.ofNat 117, Char.ofNat 116] :: r) : P.make = some .cut := by
  unfold Program.make
  rw [h]
  rfl
theorem head_make : Tryz.prog.make = some .cut := make_of head_main
theorem enter_of {P : Program} {r : List (List Char)} (h : behindMainWord (wordsSigns P.initOrder.toList) = [Char.ofNat 99, Char.ofNat 117, Char.ofNat 116] :: r) (h1 : P.laysLater = false) (h2 : P.bearsReflect = false) (h3 : P.doorFits [] = true) : P.mayEnter = true := by
  unfold Program.mayEnter
  have e : stripLifts liftWords ([Char.ofNat 99, Char.ofNat 117, Char.ofNat 116] :: r) = ([], [Char.ofNat 99, Char.ofNat 117, Char.ofNat 116] :: r) := by rfl
  rw [h]
  simp only [e, h1, h2, h3]
  rfl
theorem head_enter : Tryz.prog.mayEnter = true := enter_of head_main (by kernel_rfl) (by kernel_rfl) (by kernel_rfl)
theorem final_of {P : Program} {r : List (List Char)} (h : behindMainWord (wordsSigns P.initOrder.toList) = [Char.ofNat 99, Char.ofNat 117, Char.ofNat 116] :: r) (h1 : P.headLifts = []) : P.liftsFinal = false := by
  unfold Program.liftsFinal
  rw [h, h1]
  rfl
theorem head_final : Tryz.prog.liftsFinal = false := final_of head_main head_lifts
theorem closed_of {f : FuncId} {fn : Func} {s : ChangeSpec} {c : OpenClaim} (h : (c.wf (OpenSpec.ofChange s) && laidOutB Tryz.prog && mapsRowed Tryz.prog &&
  fn.params.all (Tryz.prog.readableRec ·) && namedTie Tryz.prog c.named s.vars &&
  (c.stops == []) && (Tryz.prog.stops == []) && (c.knobs == []) && (Tryz.prog.stopKnobs == []) &&
  (c.inPlace == Tryz.prog.inPlace f) && (c.unfollowed == Tryz.prog.unfollowed f) && (c.recurses == Tryz.prog.recurses f) && (c.named == Tryz.prog.varsNamed f) &&
  (c.maps == (fn.params.toList ++ s.plain.varTypes Tryz.prog).any (Tryz.prog.mapsRec ·)) && (c.ifaces == (fn.params.toList ++ s.plain.varTypes Tryz.prog).any (Tryz.prog.ifacesRec ·)) && (c.mapsOut == Tryz.prog.mapsAmong fn.resultTypes.toList) &&
  (c.loops == (fn.params.toList ++ s.plain.varTypes Tryz.prog).any (Tryz.prog.loopsFrom ·)) && (c.wideKeys == (fn.params.toList ++ s.plain.varTypes Tryz.prog ++ fn.resultTypes.toList).any (Tryz.prog.wideKeysFrom ·)) &&
  s.vars.all (Tryz.prog.varReadable ·) && fn.resultTypes.all (fun t => Tryz.prog.readableRec t && decide (t < Tryz.prog.types.size)) && (c.ifacesOut == fn.resultTypes.toList.any (Tryz.prog.ifacesRec ·)) && (c.loopsOut == fn.resultTypes.toList.any (Tryz.prog.loopsFrom ·)) && (c.plainKeys == Tryz.prog.plainKeys) && c.shortTexts.isNone && Tryz.prog.stopsHeard && true && (c.lifted == false) && (some Make.cut == some c.make) && (c.kinds == (if c.domain.isEmpty then [] else fn.params.toList.map fun t => match Tryz.prog.underlying t with | some (.int k) => some k | _ => none)) && (c.pinned == c.pinnedBy) &&
  (c.veiled == (fn.params.toList ++ s.plain.varTypes Tryz.prog ++ fn.resultTypes.toList).any (Tryz.prog.veiledRec ·)) && c.veiledFits Tryz.prog fn.params.toList (fn.params.toList ++ s.plain.varTypes Tryz.prog ++ fn.resultTypes.toList)) = true) : joinedFacts Tryz.prog f fn s c = true := by
  unfold joinedFacts
  rw [head_enter, head_final, head_make]
  exact h
end
section
def rv (x : Int) : Bool := decide (0 ≤ x) && decide (x < 4096)
def ro (x : Int) : Int := x % 4096
def addR (a b : Int) : Int := if rv a && rv b then ro (a + b) else -1
def subR (a b : Int) : Int := if rv a && rv b then ro (a - b) else -1
def mulR (a b : Int) : Int := if rv a && rv b then ro (a * b) else -1
def signed (x : Int) : Int := if rv x then (if x ≥ 2048 then x - 4096 else x) else -4096
theorem rv_iff {x : Int} : rv x = true ↔ 0 ≤ x ∧ x < 4096 := by simp [rv]
theorem rv_bd {x : Int} (h : rv x = true) : 0 ≤ x ∧ x < 4096 := rv_iff.1 h
theorem ro_bd (x : Int) : 0 ≤ ro x ∧ ro x < 4096 := by unfold ro; omega
theorem rv_ro (x : Int) : rv (ro x) = true := rv_iff.2 (ro_bd x)
theorem and_ring (x : Int) : bits .and .i64 x 4095 = ro x := by
  have e : (BitVec.ofInt 64 (4095 : Int)) = BitVec.ofNat 64 4095 := rfl
  show IntKind.i64.wrap ((BitVec.ofInt 64 x &&& BitVec.ofInt 64 4095).toNat : Int) = _
  have h2 : (BitVec.ofInt 64 x &&& BitVec.ofInt 64 4095).toNat = (BitVec.ofInt 64 x).toNat % 4096 := by
    rw [BitVec.toNat_and, e, BitVec.toNat_ofNat]
    exact Nat.and_two_pow_sub_one_eq_mod _ 12
  rw [h2, IntKind.wrap_i64]
  have h3 : (BitVec.ofInt 64 x).toNat = (x % 18446744073709551616).toNat := by
    rw [BitVec.toNat_ofInt]; rfl
  rw [h3]
  unfold ro
  omega
theorem and_same (x : Int) : (bits .and .i64 x 4095 == x) = rv x := by
  rw [and_ring, Bool.eq_iff_iff, beq_iff_eq, rv_iff]
  unfold ro
  omega
theorem tmod_ring (x : Int) : (wrap64 (x.tmod 4096 + 4096)).tmod 4096 = ro x := by
  have h : -4096 < x.tmod 4096 ∧ x.tmod 4096 < 4096 ∧ x.tmod 4096 % 4096 = x % 4096 := by
    rcases Int.le_total 0 x with h | h
    · rw [Int.tmod_eq_emod_of_nonneg h]; omega
    · obtain ⟨y, rfl⟩ : ∃ y, x = -y := ⟨-x, by omega⟩
      rw [Int.neg_tmod, Int.tmod_eq_emod_of_nonneg (by omega)]; omega
  generalize x.tmod 4096 = t at h
  have e : wrap64 (t + 4096) = t + 4096 := by unfold wrap64; omega
  rw [e, Int.tmod_eq_emod_of_nonneg (by omega)]
  unfold ro
  omega
structure Sh where
  a : Int
  b : Int
def Sh.ok (s : Sh) : Bool := rv s.a && rv s.b
def Sh.none_ : Sh := ⟨-1, -1⟩
def splitN (x r : Int) : Sh := if rv x && rv r then ⟨r, subR x r⟩ else Sh.none_
def joinS (s : Sh) : Int := addR s.a s.b
def addS (x y : Sh) : Sh := if x.ok && y.ok then ⟨addR x.a y.a, addR x.b y.b⟩ else Sh.none_
def subS (x y : Sh) : Sh := if x.ok && y.ok then ⟨subR x.a y.a, subR x.b y.b⟩ else Sh.none_
structure Ck where
  v : Sh
  m : Sh
def Ck.ok (c : Ck) : Bool := c.v.ok && c.m.ok
def Ck.none_ : Ck := ⟨Sh.none_, Sh.none_⟩
def tab (n : Nat) (f : Nat → Int) : List Int := (List.range n).map f
theorem tab_length (n : Nat) (f : Nat → Int) : (tab n f).length = n := by simp [tab]
theorem tab_getD (n : Nat) (f : Nat → Int) (i : Nat) (h : i < n) : (tab n f).getD i 0 = f i := by simp [tab, h]
theorem tab_set (n : Nat) (f : Nat → Int) (i : Nat) (v : Int) : (tab n f).set i v = tab n (fun j => if j = i then v else f j) := by
  apply List.ext_getElem?
  intro k
  rw [List.getElem?_set]
  simp only [tab, List.getElem?_map, List.length_map, List.length_range]
  by_cases hk : k < n
  · by_cases h : i = k
    · subst h; simp [hk]
    · simp [hk, h, Ne.symm h]
  · have : (List.range n)[k]? = none := by simp; omega
    rw [this]
    by_cases h : i = k
    · subst h; simp [hk]
    · simp [h]
theorem tab_congr (n : Nat) (f g : Nat → Int) (h : ∀ i, i < n → f i = g i) : tab n f = tab n g := by
  unfold tab
  exact List.map_congr_left fun i hi => h i (List.mem_range.1 hi)
theorem tab_const (n : Nat) (c : Int) : tab n (fun _ => c) = List.replicate n c := by
  apply List.ext_getElem?
  intro k
  by_cases hk : k < n <;> simp [tab, hk]
theorem tab_zero (n : Nat) : tab n (fun _ => 0) = List.replicate n 0 := tab_const n 0
theorem join_bd {s : Sh} (h : s.ok = true) : rv (joinS s) = true := by
  simp only [Sh.ok, Bool.and_eq_true] at h
  simp [joinS, addR, h.1, h.2, rv_ro]
theorem ints_tab_zero (n : Nat) : (madeCells #[Value.int .i64 0] n).toList = ints (tab n fun _ => 0) := by
  rw [toList_madeCells_one, tab_zero]; simp [ints]
structure Nd where
  t : Int
  m : Int
  b : Int
  o : Int
end
section
set_option maxHeartbeats 400000
theorem C_impl_RingValid (n : Int) (w0 : World) : Calls Tryz.prog 67 #[.int .i64 n] w0 fun e w' => e = .returned (.bool (rv n)) ∧ w0 = w' := by
  go_enter Tryz.func67, Tryz.ntmps67
  go_wp2
  go_ret
  exact ⟨by simp [and_same], rfl⟩
theorem C_impl_RingOf (n : Int) (w0 : World) : Calls Tryz.prog 151 #[.int .i64 n] w0 fun e w' => e = .returned (.int .i64 (ro n)) ∧ w0 = w' := by
  go_enter Tryz.func151, Tryz.ntmps151
  go_wp2
  go_ret
  exact ⟨by simp [and_ring], rfl⟩
theorem C_spec_l1In (n lo hi : Int) (w0 : World) : Calls Tryz.prog 44 #[.int .i64 n, .int .i64 lo, .int .i64 hi] w0 fun e w' => e = .returned (.bool (decide (lo ≤ n) && decide (n ≤ hi))) ∧ w0 = w' := by
  go_enter Tryz.func44, Tryz.ntmps44
  go_wp2
  all_goals (go_ret; refine ⟨?_, rfl⟩; simp; omega)
theorem C_spec_l1Ring (n : Int) (w0 : World) : Calls Tryz.prog 96 #[.int .i64 n] w0 fun e w' => e = .returned (.int .i64 (ro n)) ∧ w0 = w' := by
  go_enter Tryz.func96, Tryz.ntmps96
  go_wp2
  go_ret
  exact ⟨by simp [tmod_ring], rfl⟩
theorem C_spec_RingValid (n : Int) (w0 : World) : Calls Tryz.prog 136 #[.int .i64 n] w0 fun e w' => e = .returned (.bool (rv n)) ∧ w0 = w' := by
  go_enter Tryz.func136, Tryz.ntmps136
  go_wp2_with (first | (go_at_call 44; refine qPu (C_spec_l1In _ _ _ _) ?_))
  go_ret
  refine ⟨?_, rfl⟩
  have : rv n = (decide (0 ≤ n) && decide (n ≤ 4095)) := by rw [Bool.eq_iff_iff, rv_iff]; simp; omega
  rw [this]
  rfl
theorem C_impl_AddRing (a b : Int) (w0 : World) : Calls Tryz.prog 105 #[.int .i64 a, .int .i64 b] w0 fun e w' => e = .returned (.int .i64 (addR a b)) ∧ w0 = w' := by
  by_cases h : rv a = true ∧ rv b = true
  · obtain ⟨h1, h2⟩ := h
    obtain ⟨b1, b2⟩ := rv_bd h1
    obtain ⟨b3, b4⟩ := rv_bd h2
    go_enter Tryz.func105, Tryz.ntmps105
    go_wp2_with (first | (go_at_call 67; refine qPu (C_impl_RingValid _ _) ?_) | (go_at_call 151; refine qPu (C_impl_RingOf _ _) ?_))
    go_ret
    exact ⟨by simp [addR, h1, h2], rfl⟩
  · have e : addR a b = -1 := by unfold addR; rw [if_neg (by simpa using h)]
    rw [e]
    by_cases h1 : rv a = true
    · have h2 : rv b = false := by simpa [h1] using h
      go_enter Tryz.func105, Tryz.ntmps105
      go_wp2_with (first | (go_at_call 67; refine qPu (C_impl_RingValid _ _) ?_) | (go_at_call 151; refine qPu (C_impl_RingOf _ _) ?_))
      go_ret
      exact ⟨rfl, rfl⟩
    · have h1' : rv a = false := by simpa using h1
      clear h h1 e
      go_enter Tryz.func105, Tryz.ntmps105
      go_wp2_with (first | (go_at_call 67; refine qPu (C_impl_RingValid _ _) ?_) | (go_at_call 151; refine qPu (C_impl_RingOf _ _) ?_))
      go_ret
      exact ⟨rfl, rfl⟩
theorem C_impl_SubRing (a b : Int) (w0 : World) : Calls Tryz.prog 179 #[.int .i64 a, .int .i64 b] w0 fun e w' => e = .returned (.int .i64 (subR a b)) ∧ w0 = w' := by
  by_cases h : rv a = true ∧ rv b = true
  · obtain ⟨h1, h2⟩ := h
    obtain ⟨b1, b2⟩ := rv_bd h1
    obtain ⟨b3, b4⟩ := rv_bd h2
    go_enter Tryz.func179, Tryz.ntmps179
    go_wp2_with (first | (go_at_call 67; refine qPu (C_impl_RingValid _ _) ?_) | (go_at_call 151; refine qPu (C_impl_RingOf _ _) ?_))
    go_ret
    exact ⟨by simp [subR, h1, h2], rfl⟩
  · have e : subR a b = -1 := by unfold subR; rw [if_neg (by simpa using h)]
    rw [e]
    by_cases h1 : rv a = true
    · have h2 : rv b = false := by simpa [h1] using h
      go_enter Tryz.func179, Tryz.ntmps179
      go_wp2_with (first | (go_at_call 67; refine qPu (C_impl_RingValid _ _) ?_) | (go_at_call 151; refine qPu (C_impl_RingOf _ _) ?_))
      go_ret
      exact ⟨rfl, rfl⟩
    · have h1' : rv a = false := by simpa using h1
      clear h h1 e
      go_enter Tryz.func179, Tryz.ntmps179
      go_wp2_with (first | (go_at_call 67; refine qPu (C_impl_RingValid _ _) ?_) | (go_at_call 151; refine qPu (C_impl_RingOf _ _) ?_))
      go_ret
      exact ⟨rfl, rfl⟩
theorem C_impl_MulRing (a b : Int) (w0 : World) : Calls Tryz.prog 195 #[.int .i64 a, .int .i64 b] w0 fun e w' => e = .returned (.int .i64 (mulR a b)) ∧ w0 = w' := by
  by_cases h : rv a = true ∧ rv b = true
  · obtain ⟨h1, h2⟩ := h
    obtain ⟨b1, b2⟩ := rv_bd h1
    obtain ⟨b3, b4⟩ := rv_bd h2
    have m1 : 0 ≤ a * b := Int.mul_nonneg (by omega) (by omega)
    have m2 : a * b ≤ 4095 * 4095 := Int.mul_le_mul (by omega) (by omega) (by omega) (by omega)
    go_enter Tryz.func195, Tryz.ntmps195
    go_wp2_with (first | (go_at_call 67; refine qPu (C_impl_RingValid _ _) ?_) | (go_at_call 151; refine qPu (C_impl_RingOf _ _) ?_))
    go_ret
    exact ⟨by simp [mulR, h1, h2], rfl⟩
  · have e : mulR a b = -1 := by unfold mulR; rw [if_neg (by simpa using h)]
    rw [e]
    by_cases h1 : rv a = true
    · have h2 : rv b = false := by simpa [h1] using h
      go_enter Tryz.func195, Tryz.ntmps195
      go_wp2_with (first | (go_at_call 67; refine qPu (C_impl_RingValid _ _) ?_) | (go_at_call 151; refine qPu (C_impl_RingOf _ _) ?_))
      go_ret
      exact ⟨rfl, rfl⟩
    · have h1' : rv a = false := by simpa using h1
      clear h h1 e
      go_enter Tryz.func195, Tryz.ntmps195
      go_wp2_with (first | (go_at_call 67; refine qPu (C_impl_RingValid _ _) ?_) | (go_at_call 151; refine qPu (C_impl_RingOf _ _) ?_))
      go_ret
      exact ⟨rfl, rfl⟩
theorem C_spec_AddRing (a b : Int) (w0 : World) : Calls Tryz.prog 169 #[.int .i64 a, .int .i64 b] w0 fun e w' => e = .returned (.int .i64 (addR a b)) ∧ w0 = w' := by
  by_cases h : rv a = true ∧ rv b = true
  · obtain ⟨h1, h2⟩ := h
    obtain ⟨b1, b2⟩ := rv_bd h1
    obtain ⟨b3, b4⟩ := rv_bd h2
    go_enter Tryz.func169, Tryz.ntmps169
    go_wp2_with (first | (go_at_call 136; refine qPu (C_spec_RingValid _ _) ?_) | (go_at_call 96; refine qPu (C_spec_l1Ring _ _) ?_))
    go_ret
    exact ⟨by simp [addR, h1, h2], rfl⟩
  · have e : addR a b = -1 := by unfold addR; rw [if_neg (by simpa using h)]
    rw [e]
    by_cases h1 : rv a = true
    · have h2 : rv b = false := by simpa [h1] using h
      go_enter Tryz.func169, Tryz.ntmps169
      go_wp2_with (first | (go_at_call 136; refine qPu (C_spec_RingValid _ _) ?_) | (go_at_call 96; refine qPu (C_spec_l1Ring _ _) ?_))
      go_ret
      exact ⟨rfl, rfl⟩
    · have h1' : rv a = false := by simpa using h1
      clear h h1 e
      go_enter Tryz.func169, Tryz.ntmps169
      go_wp2_with (first | (go_at_call 136; refine qPu (C_spec_RingValid _ _) ?_) | (go_at_call 96; refine qPu (C_spec_l1Ring _ _) ?_))
      go_ret
      exact ⟨rfl, rfl⟩
theorem C_spec_SubRing (a b : Int) (w0 : World) : Calls Tryz.prog 186 #[.int .i64 a, .int .i64 b] w0 fun e w' => e = .returned (.int .i64 (subR a b)) ∧ w0 = w' := by
  by_cases h : rv a = true ∧ rv b = true
  · obtain ⟨h1, h2⟩ := h
    obtain ⟨b1, b2⟩ := rv_bd h1
    obtain ⟨b3, b4⟩ := rv_bd h2
    go_enter Tryz.func186, Tryz.ntmps186
    go_wp2_with (first | (go_at_call 136; refine qPu (C_spec_RingValid _ _) ?_) | (go_at_call 96; refine qPu (C_spec_l1Ring _ _) ?_))
    go_ret
    exact ⟨by simp [subR, h1, h2], rfl⟩
  · have e : subR a b = -1 := by unfold subR; rw [if_neg (by simpa using h)]
    rw [e]
    by_cases h1 : rv a = true
    · have h2 : rv b = false := by simpa [h1] using h
      go_enter Tryz.func186, Tryz.ntmps186
      go_wp2_with (first | (go_at_call 136; refine qPu (C_spec_RingValid _ _) ?_) | (go_at_call 96; refine qPu (C_spec_l1Ring _ _) ?_))
      go_ret
      exact ⟨rfl, rfl⟩
    · have h1' : rv a = false := by simpa using h1
      clear h h1 e
      go_enter Tryz.func186, Tryz.ntmps186
      go_wp2_with (first | (go_at_call 136; refine qPu (C_spec_RingValid _ _) ?_) | (go_at_call 96; refine qPu (C_spec_l1Ring _ _) ?_))
      go_ret
      exact ⟨rfl, rfl⟩
theorem C_spec_MulRing (a b : Int) (w0 : World) : Calls Tryz.prog 138 #[.int .i64 a, .int .i64 b] w0 fun e w' => e = .returned (.int .i64 (mulR a b)) ∧ w0 = w' := by
  by_cases h : rv a = true ∧ rv b = true
  · obtain ⟨h1, h2⟩ := h
    obtain ⟨b1, b2⟩ := rv_bd h1
    obtain ⟨b3, b4⟩ := rv_bd h2
    have m1 : 0 ≤ a * b := Int.mul_nonneg (by omega) (by omega)
    have m2 : a * b ≤ 4095 * 4095 := Int.mul_le_mul (by omega) (by omega) (by omega) (by omega)
    go_enter Tryz.func138, Tryz.ntmps138
    go_wp2_with (first | (go_at_call 136; refine qPu (C_spec_RingValid _ _) ?_) | (go_at_call 96; refine qPu (C_spec_l1Ring _ _) ?_))
    go_ret
    exact ⟨by simp [mulR, h1, h2], rfl⟩
  · have e : mulR a b = -1 := by unfold mulR; rw [if_neg (by simpa using h)]
    rw [e]
    by_cases h1 : rv a = true
    · have h2 : rv b = false := by simpa [h1] using h
      go_enter Tryz.func138, Tryz.ntmps138
      go_wp2_with (first | (go_at_call 136; refine qPu (C_spec_RingValid _ _) ?_) | (go_at_call 96; refine qPu (C_spec_l1Ring _ _) ?_))
      go_ret
      exact ⟨rfl, rfl⟩
    · have h1' : rv a = false := by simpa using h1
      clear h h1 e
      go_enter Tryz.func138, Tryz.ntmps138
      go_wp2_with (first | (go_at_call 136; refine qPu (C_spec_RingValid _ _) ?_) | (go_at_call 96; refine qPu (C_spec_l1Ring _ _) ?_))
      go_ret
      exact ⟨rfl, rfl⟩
end
section
set_option maxHeartbeats 1000000
theorem infoInt : (Tryz.prog.info? 3).map (fun i => (i.zero, i.size, i.bytes)) = some (some (.int .i64 0), 1, 8) := by kernel_rfl
theorem Sees.ints {w : World} {v : Value} {n : Nat} {xs : List Int} (h : Sees w 1 v n (ints xs)) : Ints w v xs := by
  have h1 : xs.length = n := by have := h.1; rw [ints_length] at this; omega
  unfold Ints
  rw [h1]
  exact h
theorem St.rowShape {w0 w : World} {L : List Ent} {p size n : Nat} {t : TypeId} {v : Value} {xs : List Value} (S : St w0 w L) (h : At L p (.row t size v n xs)) :
    (v = .slice none 0 0 ∧ n = 0) ∨ ∃ g cap, v = .slice (some ⟨g, 0, none⟩) n cap ∧ n ≤ cap ∧ cap ≤ maxLen := by
  obtain ⟨h1, h2⟩ := S.own _ h.mem
  rcases h2 with ⟨rfl, rfl⟩ | ⟨g, cap, cur, rfl, hb, hg, hn, hm, hcs, htake⟩
  · exact .inl ⟨rfl, rfl⟩
  · exact .inr ⟨g, cap, rfl, hn, hm⟩
theorem At.set {L : List Ent} {p : Nat} {e e' : Ent} (h : At L p e) : At (L.set p e') p e' := by
  have := (List.getElem?_eq_some_iff.1 h.get).1
  exact by unfold At; rw [List.getElem?_set_self this]
end
section
set_option maxHeartbeats 1000000
def mix (A Z : List Value) (k : Nat) : List Value := A.take k ++ Z.drop k
end
end Go.Proofs.YtjgfjfjboimgdaaGreat
