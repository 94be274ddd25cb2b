/-
  Rows of structs: stores of several cells, copies that go on place by place.
-/
import Derived.Test.YtdfpceobfficfaaView
namespace Go.Proofs.Ytdfpceobfficfaa
set_option linter.unusedSimpArgs false
set_option linter.unusedVariables false
set_option linter.unusedSectionVars false
open Go Go.RowKit
set_option maxHeartbeats 1000000

section
variable {P : Program} {w0 w : World} {L : List Ent} {o : Oper} {a : Act} {K : Act → World → Prop} {Q : Exit → Act → World → Prop} {ops : Array Oper} {rest : List Oper}

theorem splice_length (xs vs : List Value) (j : Nat) (h : j + vs.length ≤ xs.length) : (splice xs j vs).length = xs.length := by
  unfold splice; simp; omega

/-- A store of several cells into a row of the call's own. -/
theorem wp_store_rowS (S : St w0 w L) (ty : TypeId) (ad x : Operand) (ho : o.op = .store ty ad x) (p g n cap size : Nat) (t : TypeId) (xs : List Value) (j : Nat) (hp : At L p (.row t size (.slice (some ⟨g, 0, none⟩) n cap) n xs))
    (had : a.eval ad = .pointer (some ⟨g, j, none⟩)) (vs : List Value) (hv : (a.eval x).cells.toList = vs) (hsz : (P.info? ty).map (·.size) = some vs.length) (h1 : vs.all (·.oneCell') = true) (hj : j + vs.length ≤ n * size)
    (h : ∀ w' M, M = L.set p (.row t size (.slice (some ⟨g, 0, none⟩) n cap) n (splice xs j vs)) → St w0 w' M → K (a.put o.dst undef) w') : o.wp P a w K Q := by
  obtain ⟨ti, hti, hsz⟩ := Option.map_eq_some_iff.1 hsz
  have hown : w.ownsRow w0.heap.size t size (.slice (some ⟨g, 0, none⟩) n cap) n xs := S.own _ hp.mem
  have hxs := hown.1
  rcases hown.2 with ⟨h', _⟩ | ⟨g', cap', cur, h', hb, hg, hnc, hcm, hcs, htake⟩
  · simp at h'
  · simp only [Value.slice.injEq, Option.some.injEq, Addr.mk.injEq, and_true, true_and] at h'
    obtain ⟨rfl, rfl⟩ := h'
    have hle : n * size ≤ cap * size := Nat.mul_le_mul_right _ hnc
    have hrun := run_storeCells_at P g j t vs 0 cur w hg (by omega) (by simpa using h1)
    have hcs' : (a.eval x).cells.size = ti.size := by rw [hsz, ← hv]; simp
    have hown' : (w.setRow g (cur.toList.take (j + 0) ++ vs ++ cur.toList.drop (j + 0 + vs.length)).toArray).ownsRow w0.heap.size t size (.slice (some ⟨g, 0, none⟩) n cap) n (splice xs j vs) := by
      refine ⟨by rw [splice_length _ _ _ (by omega)]; exact hxs, .inr ⟨g, cap, _, rfl, hb, setRow_heap w g _ _ t _ hg, hnc, hcm, ?_, ?_⟩⟩
      · simp; omega
      · rw [← htake]
        unfold splice
        simp only [Nat.add_zero, List.append_assoc]
        rw [List.take_append, List.take_take, List.take_append]
        have e1 : min (n * size) j = j := by omega
        have e2 : (cur.toList.take j).length = j := by simp; omega
        rw [e1, e2, List.take_of_length_le (by omega : vs.length ≤ n * size - j), List.take_take, Nat.min_eq_left (by omega : j ≤ n * size), List.take_drop]
        congr 3
        rw [show j + vs.length + (n * size - j - vs.length) = n * size by omega]
    have S' : St w0 (w.setRow g (cur.toList.take (j + 0) ++ vs ++ cur.toList.drop (j + 0 + vs.length)).toArray) (L.set p (.row t size (.slice (some ⟨g, 0, none⟩) n cap) n (splice xs j vs))) :=
      S.turn hp ⟨rfl, rfl, rfl, by simp, fun k _ hk => setRow_other w g k _ (fun e => hk (by simp [Ent.blk, Value.ownBlock, e]))⟩ hown' (.inl rfl)
    exact wp_store_of ty ad x ho _ had _ (run_storeVar_of (P := P) (w := w) ty ⟨g, j, none⟩ (a.eval x) ti hti hcs' _ (by rw [hv]; exact hrun)) (h _ _ rfl S')

theorem wpList_store_rowS (hgd : o.guard = none) (S : St w0 w L) (ty : TypeId) (ad x : Operand) (ho : o.op = .store ty ad x) (p g n cap size : Nat) (t : TypeId) (xs : List Value) (j : Nat) (hp : At L p (.row t size (.slice (some ⟨g, 0, none⟩) n cap) n xs))
    (had : a.eval ad = .pointer (some ⟨g, j, none⟩)) (vs : List Value) (hv : (a.eval x).cells.toList = vs) (hsz : (P.info? ty).map (·.size) = some vs.length) (h1 : vs.all (·.oneCell') = true) (hj : j + vs.length ≤ n * size)
    (h : ∀ w' M, M = L.set p (.row t size (.slice (some ⟨g, 0, none⟩) n cap) n (splice xs j vs)) → St w0 w' M → wpList P ops Q rest (a.put o.dst undef) w') : wpList P ops Q (o :: rest) a w :=
  wpList_plain hgd fun _ hK => wp_store_rowS S ty ad x ho p g n cap size t xs j hp had vs hv hsz h1 hj fun w' M hM S' => hK _ _ (h w' M hM S')
end

/-- The first cells are those of A, the others those of Z. -/
def mix (A Z : List Value) (k : Nat) : List Value := A.take k ++ Z.drop k
theorem mix_zero (A Z : List Value) : mix A Z 0 = Z := by simp [mix]
theorem mix_full (A Z : List Value) (h : Z.length = A.length) : mix A Z A.length = A := by
  unfold mix; rw [List.take_length, List.drop_of_length_le (by omega), List.append_nil]
theorem mix_step (A Z vs : List Value) (i : Nat) (hz : Z.length = A.length) (hv : (A.drop i).take vs.length = vs) (hi : i + vs.length ≤ A.length) : splice (mix A Z i) i vs = mix A Z (i + vs.length) := by
  unfold splice mix
  have e1 : (A.take i).length = i := by simp; omega
  rw [List.take_append, e1, Nat.sub_self, List.take_zero, List.append_nil, List.take_of_length_le (by omega), List.drop_append, e1, List.drop_of_length_le (by omega), List.nil_append, List.drop_drop, List.take_add, hv]
  congr 2
  omega
theorem ints_drop_take3 (zs : List Int) (i : Nat) (h : i + 3 ≤ zs.length) : ((ints zs).drop i).take 3 = ints [zs.getD i 0, zs.getD (i + 1) 0, zs.getD (i + 2) 0] := by
  apply List.ext_getElem?
  intro j
  rw [List.getElem?_take]
  by_cases hj : j < 3
  · rw [if_pos hj, List.getElem?_drop]
    rcases (by omega : j = 0 ∨ j = 1 ∨ j = 2) with rfl | rfl | rfl
    · rw [ints_getD zs (i + 0) (by omega)]; rfl
    · rw [ints_getD zs (i + 1) (by omega)]; rfl
    · rw [ints_getD zs (i + 2) (by omega)]; rfl
  · rw [if_neg hj]; simp [ints]; omega
theorem ints_drop_take2 (zs : List Int) (i : Nat) (h : i + 2 ≤ zs.length) : ((ints zs).drop i).take 2 = ints [zs.getD i 0, zs.getD (i + 1) 0] := by
  apply List.ext_getElem?
  intro j
  rw [List.getElem?_take]
  by_cases hj : j < 2
  · rw [if_pos hj, List.getElem?_drop]
    rcases (by omega : j = 0 ∨ j = 1) with rfl | rfl
    · rw [ints_getD zs (i + 0) (by omega)]; rfl
    · rw [ints_getD zs (i + 1) (by omega)]; rfl
  · rw [if_neg hj]; simp [ints]; omega
theorem ints_drop_take4 (zs : List Int) (i : Nat) (h : i + 4 ≤ zs.length) : ((ints zs).drop i).take 4 = ints [zs.getD i 0, zs.getD (i + 1) 0, zs.getD (i + 2) 0, zs.getD (i + 3) 0] := by
  apply List.ext_getElem?
  intro j
  rw [List.getElem?_take]
  by_cases hj : j < 4
  · rw [if_pos hj, List.getElem?_drop]
    rcases (by omega : j = 0 ∨ j = 1 ∨ j = 2 ∨ j = 3) with rfl | rfl | rfl | rfl
    · rw [ints_getD zs (i + 0) (by omega)]; rfl
    · rw [ints_getD zs (i + 1) (by omega)]; rfl
    · rw [ints_getD zs (i + 2) (by omega)]; rfl
    · rw [ints_getD zs (i + 3) (by omega)]; rfl
  · rw [if_neg hj]; simp [ints]; omega
end Go.Proofs.Ytdfpceobfficfaa
