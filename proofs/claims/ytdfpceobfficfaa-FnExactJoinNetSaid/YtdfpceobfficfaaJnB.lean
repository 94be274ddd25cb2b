/-
  How far the numbers of a valid network go: plain.
-/
import Derived.Test.YtdfpceobfficfaaJnS
import Derived.Test.YtdfpceobfficfaaSlH
import Derived.Test.YtdfpceobfficfaaLyH
namespace Go.Proofs.Ytdfpceobfficfaa
set_option linter.unusedSimpArgs false
set_option linter.unusedVariables false
set_option linter.unusedSectionVars false
open Go Go.RowKit
theorem endPs_bd : ∀ (ps : MsO) (k : Int), (∀ p ∈ ps, p.2.xs.length ≤ 25) → endPs ps k ≤ k + 27 * ps.length
  | [], k, _ => by simp [endPs]
  | p :: ps, k, h => by
    have h1 := endPs_bd ps (stepM p k) (fun q hq => h q (List.mem_cons_of_mem _ hq))
    have h2 := h p List.mem_cons_self
    unfold endPs
    unfold stepM at *
    rw [List.length_cons]
    omega
theorem endLs_bd : ∀ (qs : LsO) (k : Int), (∀ q ∈ qs, q.2.2.length ≤ 3 ∧ ∀ p ∈ q.2.2, p.2.xs.length ≤ 25) → endLs qs k ≤ k + 100 * qs.length
  | [], k, _ => by simp [endLs]
  | q :: qs, k, h => by
    have h1 := endLs_bd qs (stepQ q k) (fun x hx => h x (List.mem_cons_of_mem _ hx))
    obtain ⟨h2, h3⟩ := h q List.mem_cons_self
    have h4 := endPs_bd q.2.2 (k + 1) h3
    unfold endLs
    have h5 : stepQ q k = endPs q.2.2 (k + 1) := rfl
    rw [h5] at h1 ⊢
    rw [List.length_cons]
    omega
theorem Ly.ok_few {l : Ly} (h : l.ok = true) : l.ws.length ≤ 3 := by
  cases Ly.ok_case h with
  | dense w b hd => simp
  | ramp => simp
  | mix a b c hd => simp
theorem joinRes_few {ls : List SLy} {b : Bool} {js : List Ly} (h : joinRes ls = (b, js)) : js.length ≤ 4 ∧ ∀ l ∈ js, l.ws.length ≤ 3 ∧ ∀ m ∈ l.ws, m.xs.length ≤ 25 := by
  unfold joinRes at h
  split at h
  · rename_i hc
    rw [Bool.and_eq_true, decide_eq_true_eq] at hc
    injection h with _ h
    subst h
    refine ⟨by rw [List.length_map]; exact hc.1, fun l hl => ⟨Ly.ok_few (List.all_eq_true.1 hc.2 l hl), fun m hm => ?_⟩⟩
    obtain ⟨s, _, rfl⟩ := List.mem_map.1 hl
    obtain ⟨x, _, rfl⟩ := List.mem_map.1 (show m ∈ s.ws.map joinMx from hm)
    exact sumMx_len _ _
  · injection h with _ h
    subst h
    exact ⟨by simp, fun l hl => by cases hl⟩
theorem endLs_few {qs : LsO} {js : List Ly} (hq : qs.map lyO = js) (h4 : js.length ≤ 4) (h : ∀ l ∈ js, l.ws.length ≤ 3 ∧ ∀ m ∈ l.ws, m.xs.length ≤ 25) : endLs qs 1 ≤ 1000 := by
  have h1 := endLs_bd qs 1 (fun q hm => by
    obtain ⟨h2, h3⟩ := h (lyO q) (hq ▸ List.mem_map_of_mem hm)
    refine ⟨?_, fun p hp => h3 p.2 (List.mem_map_of_mem hp)⟩
    have : (lyO q).ws.length = q.2.2.length := by simp [lyO]
    omega)
  have : qs.length = js.length := by rw [← hq, List.length_map]
  omega
end Go.Proofs.Ytdfpceobfficfaa
