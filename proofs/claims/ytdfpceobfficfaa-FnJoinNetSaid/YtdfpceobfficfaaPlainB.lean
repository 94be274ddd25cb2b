/-
  The plain sum of a batch of checked numbers, and its laws. No program in sight.
-/
import Derived.Test.YtdfpceobfficfaaPlain
import Derived.Test.YtdfpceobfficfaaCks
namespace Go.Proofs.Ytdfpceobfficfaa
set_option linter.unusedSimpArgs false
set_option linter.unusedVariables false
set_option linter.unusedSectionVars false
open Go Go.RowKit

def Ck.zero : Ck := ⟨⟨0, 0⟩, ⟨0, 0⟩⟩
def sumTo (zs ts : List Int) : Nat → Ck
  | 0 => Ck.zero
  | k + 1 => addC (sumTo zs ts k) (timesC (ckAt zs k) (ts.getD k 0))
def batchOk (n : Nat) (zs ts : List Int) : Bool := decide (n ≤ 20) && decide (ts.length = n) && ts.all rv && (List.range n).all (fun k => (ckAt zs k).ok)
def batchSum (n : Nat) (zs ts : List Int) : Ck := if batchOk n zs ts then sumTo zs ts n else Ck.none_

theorem batchOk_iff {n : Nat} {zs ts : List Int} : batchOk n zs ts = true ↔ n ≤ 20 ∧ ts.length = n ∧ (∀ k, k < n → rv (ts.getD k 0) = true) ∧ ∀ k, k < n → (ckAt zs k).ok = true := by
  simp only [batchOk, Bool.and_eq_true, decide_eq_true_eq, List.all_eq_true, List.mem_range]
  constructor
  · rintro ⟨⟨⟨h1, h2⟩, h3⟩, h4⟩
    refine ⟨h1, h2, fun k hk => h3 _ ?_, h4⟩
    rw [List.getD_eq_getElem?_getD, List.getElem?_eq_getElem (by omega)]
    exact List.getElem_mem _
  · rintro ⟨h1, h2, h3, h4⟩
    refine ⟨⟨⟨h1, h2⟩, fun x hx => ?_⟩, h4⟩
    obtain ⟨i, hi, rfl⟩ := List.mem_iff_getElem.1 hx
    have := h3 i (by omega)
    rwa [List.getD_eq_getElem?_getD, List.getElem?_eq_getElem hi] at this
theorem batchSum_ok {n : Nat} {zs ts : List Int} (h : batchOk n zs ts = true) : batchSum n zs ts = sumTo zs ts n := by simp [batchSum, h]
theorem batchSum_not {n : Nat} {zs ts : List Int} (h : ¬ batchOk n zs ts = true) : batchSum n zs ts = Ck.none_ := by simp [batchSum, h]

theorem ck_ok {c : Ck} : c.ok = true ↔ c.v.ok = true ∧ c.m.ok = true := by simp [Ck.ok]
theorem addC_ok {x y : Ck} (hx : x.ok = true) (hy : y.ok = true) : (addC x y).ok = true := by
  have h1 := ck_ok.1 hx
  have h2 := ck_ok.1 hy
  exact ck_ok.2 ⟨(addS_ok h1.1 h2.1).2, (addS_ok h1.2 h2.2).2⟩
theorem timesC_ok {x : Ck} {k : Int} (hx : x.ok = true) (hk : rv k = true) : (timesC x k).ok = true := by
  have h1 := ck_ok.1 hx
  exact ck_ok.2 ⟨(timesK_ok h1.1 hk).2, (timesK_ok h1.2 hk).2⟩
theorem zero_ok : Ck.zero.ok = true := rfl
theorem sumTo_ok {zs ts : List Int} : ∀ {n : Nat}, (∀ k, k < n → rv (ts.getD k 0) = true) → (∀ k, k < n → (ckAt zs k).ok = true) → (sumTo zs ts n).ok = true
  | 0, _, _ => zero_ok
  | n + 1, h1, h2 => addC_ok (sumTo_ok (fun k hk => h1 k (by omega)) (fun k hk => h2 k (by omega))) (timesC_ok (h2 n (by omega)) (h1 n (by omega)))

theorem sh_ext {x y : Sh} (h1 : x.a = y.a) (h2 : x.b = y.b) : x = y := by cases x; cases y; simp_all
theorem addS_assoc {x y z : Sh} (hx : x.ok = true) (hy : y.ok = true) (hz : z.ok = true) : addS (addS x y) z = addS x (addS y z) := by
  obtain ⟨e1, o1⟩ := addS_ok hx hy
  obtain ⟨e2, o2⟩ := addS_ok hy hz
  rw [(addS_ok o1 hz).1, (addS_ok hx o2).1, e1, e2]
  refine sh_ext ?_ ?_
  · show ro (ro (x.a + y.a) + z.a) = ro (x.a + ro (y.a + z.a))
    unfold ro; omega
  · show ro (ro (x.b + y.b) + z.b) = ro (x.b + ro (y.b + z.b))
    unfold ro; omega
theorem addS_zero {x : Sh} (hx : x.ok = true) : addS x ⟨0, 0⟩ = x := by
  have h := sh_ok.1 hx
  rw [(addS_ok hx (by rfl)).1]
  refine sh_ext ?_ ?_
  · show ro (x.a + 0) = x.a
    rw [Int.add_zero, ro_rv h.1]
  · show ro (x.b + 0) = x.b
    rw [Int.add_zero, ro_rv h.2]
theorem addC_assoc {x y z : Ck} (hx : x.ok = true) (hy : y.ok = true) (hz : z.ok = true) : addC (addC x y) z = addC x (addC y z) := by
  have h1 := ck_ok.1 hx
  have h2 := ck_ok.1 hy
  have h3 := ck_ok.1 hz
  show (⟨addS (addS x.v y.v) z.v, addS (addS x.m y.m) z.m⟩ : Ck) = ⟨addS x.v (addS y.v z.v), addS x.m (addS y.m z.m)⟩
  rw [addS_assoc h1.1 h2.1 h3.1, addS_assoc h1.2 h2.2 h3.2]
theorem addC_zero {x : Ck} (hx : x.ok = true) : addC x Ck.zero = x := by
  have h1 := ck_ok.1 hx
  show (⟨addS x.v ⟨0, 0⟩, addS x.m ⟨0, 0⟩⟩ : Ck) = x
  rw [addS_zero h1.1, addS_zero h1.2]
theorem ckAt_take (zs : List Int) (h k : Nat) (hk : k < h) : ckAt (zs.take (h * 4)) k = ckAt zs k := by
  have e : ∀ i, i < h * 4 → (zs.take (h * 4)).getD i 0 = zs.getD i 0 := by
    intro i hi
    rw [List.getD_eq_getElem?_getD, List.getElem?_take, if_pos hi, List.getD_eq_getElem?_getD]
  unfold ckAt
  rw [e _ (by omega), e _ (by omega), e _ (by omega), e _ (by omega)]
theorem ckAt_drop (zs : List Int) (h k : Nat) : ckAt (zs.drop (h * 4)) k = ckAt zs (h + k) := by
  have e : ∀ i, (zs.drop (h * 4)).getD i 0 = zs.getD (h * 4 + i) 0 := by
    intro i
    rw [List.getD_eq_getElem?_getD, List.getElem?_drop, List.getD_eq_getElem?_getD]
  unfold ckAt
  rw [e, e, e, e, show h * 4 + k * 4 = (h + k) * 4 by omega, show h * 4 + (k * 4 + 1) = (h + k) * 4 + 1 by omega, show h * 4 + (k * 4 + 2) = (h + k) * 4 + 2 by omega, show h * 4 + (k * 4 + 3) = (h + k) * 4 + 3 by omega]
theorem getD_take (ts : List Int) (h k : Nat) (hk : k < h) : (ts.take h).getD k 0 = ts.getD k 0 := by
  rw [List.getD_eq_getElem?_getD, List.getElem?_take, if_pos hk, List.getD_eq_getElem?_getD]
theorem getD_drop (ts : List Int) (h k : Nat) : (ts.drop h).getD k 0 = ts.getD (h + k) 0 := by
  rw [List.getD_eq_getElem?_getD, List.getElem?_drop, List.getD_eq_getElem?_getD]
theorem sumTo_congr {zs ts zs' ts' : List Int} : ∀ {n : Nat}, (∀ k, k < n → ckAt zs k = ckAt zs' k ∧ ts.getD k 0 = ts'.getD k 0) → sumTo zs ts n = sumTo zs' ts' n
  | 0, _ => rfl
  | n + 1, h => by
    have := h n (by omega)
    show addC (sumTo zs ts n) (timesC (ckAt zs n) (ts.getD n 0)) = addC (sumTo zs' ts' n) (timesC (ckAt zs' n) (ts'.getD n 0))
    rw [sumTo_congr (fun k hk => h k (by omega)), this.1, this.2]
theorem sumTo_add {zs ts : List Int} {h : Nat} : ∀ {m : Nat}, (∀ k, k < h + m → rv (ts.getD k 0) = true) → (∀ k, k < h + m → (ckAt zs k).ok = true) →
    addC (sumTo zs ts h) (sumTo (zs.drop (h * 4)) (ts.drop h) m) = sumTo zs ts (h + m)
  | 0, h1, h2 => addC_zero (sumTo_ok (fun k hk => h1 k (by omega)) (fun k hk => h2 k (by omega)))
  | m + 1, h1, h2 => by
    show addC (sumTo zs ts h) (addC (sumTo (zs.drop (h * 4)) (ts.drop h) m) (timesC (ckAt (zs.drop (h * 4)) m) ((ts.drop h).getD m 0))) = addC (sumTo zs ts (h + m)) (timesC (ckAt zs (h + m)) (ts.getD (h + m) 0))
    rw [ckAt_drop, getD_drop, ← addC_assoc, sumTo_add (m := m) (fun k hk => h1 k (by omega)) (fun k hk => h2 k (by omega))]
    · exact sumTo_ok (fun k hk => h1 k (by omega)) (fun k hk => h2 k (by omega))
    · exact sumTo_ok (fun k hk => by rw [getD_drop]; exact h1 _ (by omega)) (fun k hk => by rw [ckAt_drop]; exact h2 _ (by omega))
    · exact timesC_ok (h2 _ (by omega)) (h1 _ (by omega))
/-- A batch in two parts is the sum of both. -/
theorem batch_parts {n h : Nat} {zs ts : List Int} (hh : h ≤ n) (hb : batchOk n zs ts = true) : addC (batchSum h (zs.take (h * 4)) (ts.take h)) (batchSum (n - h) (zs.drop (h * 4)) (ts.drop h)) = batchSum n zs ts := by
  obtain ⟨h1, h2, h3, h4⟩ := batchOk_iff.1 hb
  have b1 : batchOk h (zs.take (h * 4)) (ts.take h) = true := batchOk_iff.2 ⟨by omega, by rw [List.length_take]; omega, fun k hk => by rw [getD_take _ _ _ hk]; exact h3 k (by omega), fun k hk => by rw [ckAt_take _ _ _ hk]; exact h4 k (by omega)⟩
  have b2 : batchOk (n - h) (zs.drop (h * 4)) (ts.drop h) = true := batchOk_iff.2 ⟨by omega, by rw [List.length_drop]; omega, fun k hk => by rw [getD_drop]; exact h3 _ (by omega), fun k hk => by rw [ckAt_drop]; exact h4 _ (by omega)⟩
  rw [batchSum_ok b1, batchSum_ok b2, batchSum_ok hb, sumTo_congr (zs' := zs) (ts' := ts) (fun k hk => ⟨ckAt_take zs h k hk, getD_take ts h k hk⟩)]
  have := sumTo_add (zs := zs) (ts := ts) (h := h) (m := n - h) (fun k hk => h3 k (by omega)) (fun k hk => h4 k (by omega))
  rwa [show h + (n - h) = n by omega] at this
theorem batch_valid {n : Nat} {zs ts : List Int} (h : (batchSum n zs ts).v.ok = true) : batchOk n zs ts = true := by
  rw [← Bool.not_eq_false]
  intro hn
  rw [batchSum_not (by rw [hn]; simp)] at h
  cases h
theorem zero_opens {k : Int} (hk : keyOk k = true) : openOk Ck.zero k = true := open_iff.2 ⟨rfl, rfl, hk, by show ro (0 + 0) = ro ((0 + 0) * k); simp⟩
theorem sumTo_opens {zs ts : List Int} {key : Int} (hk : keyOk key = true) : ∀ {n : Nat}, (∀ k, k < n → rv (ts.getD k 0) = true) → (∀ k, k < n → openOk (ckAt zs k) key = true) → openOk (sumTo zs ts n) key = true
  | 0, _, _ => zero_opens hk
  | n + 1, h1, h2 => (add_opens (sumTo_opens hk (fun k hk => h1 k (by omega)) (fun k hk => h2 k (by omega))) (times_opens (h2 n (by omega)) (h1 n (by omega))).1).1
/-- Right numbers make right batches. -/
theorem batch_opens {n : Nat} {zs ts : List Int} {key : Int} (hn : n ≤ 20) (hl : ts.length = n) (hk : keyOk key = true) (h1 : ∀ k, k < n → rv (ts.getD k 0) = true) (h2 : ∀ k, k < n → openOk (ckAt zs k) key = true) : openOk (batchSum n zs ts) key = true := by
  rw [batchSum_ok (batchOk_iff.2 ⟨hn, hl, h1, fun k hk => ?_⟩)]
  · exact sumTo_opens hk h1 h2
  · have := open_iff.1 (h2 k hk)
    exact ck_ok.2 ⟨this.1, this.2.1⟩
end Go.Proofs.Ytdfpceobfficfaa
