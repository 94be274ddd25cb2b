/-
  The plain function behind HiddenTriple, and its law. No program in sight.
-/
import Derived.Test.YtjihfeffonadmaaPlain
namespace Go.Proofs.Ytjihfeffonadmaa
set_option linter.unusedSimpArgs false
set_option linter.unusedVariables false
set_option linter.unusedSectionVars false
open Go Go.RowKit
structure Tri where
  a : Sh
  b : Sh
  c : Sh
def Tri.zero : Tri := ⟨⟨0, 0⟩, ⟨0, 0⟩, ⟨0, 0⟩⟩
def hidOk (x y : Sh) (d e : Int) (fs : List Int) : Bool := x.ok && y.ok && rv d && rv e && decide (fs.length = 3) && fs.all rv
def hidT (x y : Sh) (d e : Int) (fs : List Int) : Tri :=
  if hidOk x y d e fs then ⟨splitN (subR (joinS x) d) (fs.getD 0 0), splitN (subR (joinS y) e) (fs.getD 1 0), splitN (mulR (subR (joinS x) d) (subR (joinS y) e)) (fs.getD 2 0)⟩ else Tri.zero
theorem hid_not {x y : Sh} {d e : Int} {fs : List Int} (h : hidOk x y d e fs = false) : hidT x y d e fs = Tri.zero := by simp [hidT, h]
theorem subR_rv {a b : Int} (ha : rv a = true) (hb : rv b = true) : rv (subR a b) = true := by rw [subR_ok ha hb]; exact rv_ro _
theorem three_of : ∀ {zs : List Int}, zs.length = 3 → ∃ a b c, zs = [a, b, c]
  | [a, b, c], _ => ⟨a, b, c, rfl⟩
theorem hidOk_three {x y : Sh} {d e f0 f1 f2 : Int} (h1 : x.ok = true) (h2 : y.ok = true) (h3 : rv d = true) (h4 : rv e = true) (h5 : rv f0 = true) (h6 : rv f1 = true) (h7 : rv f2 = true) : hidOk x y d e [f0, f1, f2] = true := by
  simp [hidOk, h1, h2, h3, h4, h5, h6, h7]
theorem hidT_three {x y : Sh} {d e f0 f1 f2 : Int} (h : hidOk x y d e [f0, f1, f2] = true) : hidT x y d e [f0, f1, f2] = ⟨splitN (subR (joinS x) d) f0, splitN (subR (joinS y) e) f1, splitN (mulR (subR (joinS x) d) (subR (joinS y) e)) f2⟩ := by
  simp [hidT, h]
theorem hid_parts {x y : Sh} {d e : Int} {fs : List Int} (h : hidOk x y d e fs = true) : ∃ f0 f1 f2, fs = [f0, f1, f2] ∧ x.ok = true ∧ y.ok = true ∧ rv d = true ∧ rv e = true ∧ rv f0 = true ∧ rv f1 = true ∧ rv f2 = true := by
  simp only [hidOk, Bool.and_eq_true, decide_eq_true_eq] at h
  obtain ⟨⟨⟨⟨⟨h1, h2⟩, h3⟩, h4⟩, h5⟩, h6⟩ := h
  obtain ⟨f0, f1, f2, rfl⟩ := three_of h5
  simp only [List.all_cons, List.all_nil, Bool.and_true, Bool.and_eq_true] at h6
  exact ⟨f0, f1, f2, rfl, h1, h2, h3, h4, h6.1, h6.2.1, h6.2.2⟩
def triOk (t : Tri) : Bool := t.a.ok && t.b.ok && t.c.ok && decide (joinS t.c = mulR (joinS t.a) (joinS t.b))
/-- What such a triple opens. -/
theorem hid_opens {x y : Sh} {d e : Int} {fs : List Int} (h : hidOk x y d e fs = true) :
    triOk (hidT x y d e fs) = true ∧ subR (joinS x) (joinS (hidT x y d e fs).a) = d ∧ subR (joinS y) (joinS (hidT x y d e fs).b) = e ∧
      (hidT x y d e fs).a.a = fs.getD 0 0 ∧ (hidT x y d e fs).b.a = fs.getD 1 0 ∧ (hidT x y d e fs).c.a = fs.getD 2 0 := by
  obtain ⟨f0, f1, f2, rfl, h1, h2, h3, h4, h5, h6, h7⟩ := hid_parts h
  rw [hidT_three h]
  have j1 := join_bd h1
  have j2 := join_bd h2
  have s1 := subR_rv j1 h3
  have s2 := subR_rv j2 h4
  obtain ⟨o1, e1⟩ := split_ok s1 h5
  obtain ⟨o2, e2⟩ := split_ok s2 h6
  obtain ⟨o3, e3⟩ := split_ok (mulR_rv s1 s2) h7
  have back : ∀ {p q : Int}, rv p = true → rv q = true → subR p (subR p q) = q := by
    intro p q hp hq
    rw [subR_ok hp (subR_rv hp hq), subR_ok hp hq]
    have b1 := rv_bd hp
    have b2 := rv_bd hq
    unfold ro
    omega
  refine ⟨?_, by rw [e1]; exact back j1 h3, by rw [e2]; exact back j2 h4, ?_, ?_, ?_⟩
  · simp only [triOk, o1, o2, o3, e1, e2, e3, Bool.and_self, decide_true]
  · simp [splitN, s1, h5]
  · simp [splitN, s2, h6]
  · simp [splitN, mulR_rv s1 s2, h7]
end Go.Proofs.Ytjihfeffonadmaa
