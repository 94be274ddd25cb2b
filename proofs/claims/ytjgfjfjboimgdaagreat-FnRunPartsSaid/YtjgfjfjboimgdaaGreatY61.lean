/- SnP NetP SnL -/
import Derived.Test.YtjgfjfjboimgdaaGreatY55
import Derived.Test.YtjgfjfjboimgdaaGreatY57
namespace Go.Proofs.YtjgfjfjboimgdaaGreat
set_option linter.unusedSimpArgs false
set_option linter.unusedVariables false
set_option linter.unusedSectionVars false
open Go Go.RowKit
set_option maxHeartbeats 8000000
set_option maxRecDepth 20000
section
theorem runFromS_append : ∀ (xs ys : List SLy) (x : SMx) (s : Int), runFromS (xs ++ ys) x s =
    ⟨(runFromS ys (runFromS xs x s).m (runFromS xs x s).last).m, (runFromS xs x s).os ++ (runFromS ys (runFromS xs x s).m (runFromS xs x s).last).os, (runFromS ys (runFromS xs x s).m (runFromS xs x s).last).last⟩
  | [], ys, x, s => rfl
  | l :: xs, ys, x, s => by
    show runFromS (l :: (xs ++ ys)) x s = _
    simp only [runFromS]
    rw [runFromS_append xs ys]
    simp only [List.append_assoc]
end
section
theorem sidesFrom_append : ∀ (xs ys : List Ly) (r c : Int) (x : Int × Int), (1 ≤ r ∧ r ≤ 5) → (1 ≤ c ∧ c ≤ 5) → sidesFrom (xs ++ ys) r c = some x →
    ∃ a b, sidesFrom xs r c = some (a, b) ∧ (1 ≤ a ∧ a ≤ 5) ∧ (1 ≤ b ∧ b ≤ 5) ∧ sidesFrom ys a b = some x ∧ needsFrom (xs ++ ys) r c = (needsFrom xs r c).add (needsFrom ys a b)
  | [], ys, r, c, x, hr, hc, h => ⟨r, c, rfl, hr, hc, h, by simp [needsFrom, Need.add, Need.zero]⟩
  | l :: xs, ys, r, c, x, hr, hc, h => by
    obtain ⟨a, b, hok, hs, ha, hb, h'⟩ := sidesFrom_cons (l := l) (ls := xs ++ ys) hr hc h
    obtain ⟨a', b', h1, h2, h3, h4, h5⟩ := sidesFrom_append xs ys a b x ha hb h'
    refine ⟨a', b', ?_, h2, h3, h4, ?_⟩
    · unfold sidesFrom
      rw [if_pos hok, hs]
      exact h1
    · rw [List.cons_append, needsFrom_cons hs, needsFrom_cons hs, h5]
      simp only [Need.add, Need.mk.injEq]
      omega
theorem netSides_of {ls : List Ly} {r c : Int} {x : Int × Int} (h4 : ls.length ≤ 4) (hr : 1 ≤ r ∧ r ≤ 5) (hc : 1 ≤ c ∧ c ≤ 5) (h : sidesFrom ls r c = some x) : netSides ls r c = some x := by
  rw [netSides, if_pos, h]
  simp only [Bool.and_eq_true, decide_eq_true_eq, sideOk_iff]
  exact ⟨⟨h4, hr⟩, hc⟩
theorem net_parts {ls : List Ly} {r c : Int} {x : Int × Int} (h : netSides ls r c = some x) (q : Nat) (hq : q ≤ ls.length) :
    ∃ a b, netSides (ls.take q) r c = some (a, b) ∧ netSides (ls.drop q) a b = some x ∧ netNeeds ls r c = (netNeeds (ls.take q) r c).add (netNeeds (ls.drop q) a b) := by
  obtain ⟨h4, hr, hc, hs⟩ := netSides_some h
  have hs' := hs
  rw [← List.take_append_drop q ls] at hs'
  obtain ⟨a, b, h1, h2, h3, h5, h6⟩ := sidesFrom_append _ _ r c x hr hc hs'
  rw [List.take_append_drop] at h6
  have e1 := netSides_of (by rw [List.length_take]; omega) hr hc h1
  have e2 := netSides_of (by rw [List.length_drop]; omega) h2 h3 h5
  refine ⟨a, b, e1, e2, ?_⟩
  rw [netNeeds, netNeeds, netNeeds, h, e1, e2]
  exact h6
end
section
theorem runFromS_sides : ∀ {ls : List Ly} {x : Mx} {a b : Int}, x.ok = true → sidesFrom ls x.r x.c = some (a, b) → (runFrom ls x).r = a ∧ (runFrom ls x).c = b
  | [], x, a, b, _, h => by
    simp only [sidesFrom, Option.some.injEq, Prod.mk.injEq] at h
    exact h
  | l :: ls, x, a, b, hx, h => by
    obtain ⟨h1, h2⟩ := Mx.ok_sides hx
    obtain ⟨a', b', hl, hs, _, _, hr⟩ := from_cons h1 h2 h
    obtain ⟨h3, h4, h5⟩ := runLy_next hl hx hs
    exact runFromS_sides (ls := ls) (x := runLy l x) h3 (by rw [h4, h5]; exact hr)
theorem runS_parts {ls : List SLy} {x : SMx} {s : Int} (h : runOk ls x s = true) (q : Nat) (hq : q ≤ ls.length) :
    runOk (ls.take q) x s = true ∧ runOk (ls.drop q) (runS (ls.take q) x s).m (runS (ls.take q) x s).last = true ∧
    (runS (ls.drop q) (runS (ls.take q) x s).m (runS (ls.take q) x s).last).m = (runS ls x s).m ∧
    (runS (ls.drop q) (runS (ls.take q) x s).m (runS (ls.take q) x s).last).last = (runS ls x s).last ∧
    (runS ls x s).os = (runS (ls.take q) x s).os ++ (runS (ls.drop q) (runS (ls.take q) x s).m (runS (ls.take q) x s).last).os := by
  obtain ⟨hx, hs, _, h4, p, hp⟩ := runOk_parts h
  obtain ⟨a, b, n1, n2, _⟩ := net_parts hp q (by rw [List.length_map]; exact hq)
  rw [← List.map_take] at n1
  rw [← List.map_drop] at n2
  have h1 : runOk (ls.take q) x s = true := runOk_of hx hs (by rw [List.length_take]; omega) n1
  have g1 := runS_law h1
  obtain ⟨s1, s2⟩ := g1.sides
  obtain ⟨jx0, jx1, jx2, _⟩ := join_smx hx
  have hrun : runPlain ((ls.take q).map joinLy) (joinMx x) = runFrom ((ls.take q).map joinLy) (joinMx x) := by
    unfold runPlain
    rw [jx0, jx1, jx2, n1]
    rfl
  obtain ⟨_, _, _, f1⟩ := sides_some n1
  have hsd := runFromS_sides jx0 (by rw [jx1, jx2]; exact f1)
  rw [hrun] at s1 s2
  have h2 : runOk (ls.drop q) (runS (ls.take q) x s).m (runS (ls.take q) x s).last = true :=
    runOk_of g1.ok g1.seed (by rw [List.length_drop]; omega) (by rw [s1, s2, hsd.1, hsd.2]; exact n2)
  have e1 := runS_if h1
  have e2 : runS (ls.drop q) (runS (ls.take q) x s).m (runS (ls.take q) x s).last = runFromS (ls.drop q) (runFromS (ls.take q) x s).m (runFromS (ls.take q) x s).last := by rw [runS_if h2, e1]
  have e0 := runS_if h
  have ea := runFromS_append (ls.take q) (ls.drop q) x s
  rw [List.take_append_drop] at ea
  exact ⟨h1, h2, by rw [e2, e0, ea], by rw [e2, e0, ea], by rw [e2, e1, e0, ea]⟩
end
end Go.Proofs.YtjgfjfjboimgdaaGreat
