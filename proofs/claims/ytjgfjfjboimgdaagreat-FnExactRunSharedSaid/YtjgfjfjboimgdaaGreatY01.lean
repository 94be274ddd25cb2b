/- Mem -/
import Derived.WalkKit
import Derived.WalkSpells
import Derived.WalkLawsBesides
import Derived.Deep.QuietTactic
import Derived.BigQuiet
import Derived.Deep.RegionHeld3
import Derived.Lib.Hide
import Derived.Deep.DeepCutAuto
namespace Go.Proofs.YtjgfjfjboimgdaaGreat
set_option linter.unusedSimpArgs false
set_option linter.unusedVariables false
set_option linter.unusedSectionVars false
open Go Go.RowKit
set_option maxHeartbeats 8000000
set_option maxRecDepth 20000
section
inductive Ent where
  | box (g : Nat) (t : TypeId) (cs : List Value)
  | row (t : TypeId) (size : Nat) (v : Value) (n : Nat) (xs : List Value)
  | obj (g : Nat) (o : Obj)
def Ent.blk : Ent → Option Nat
  | .box g _ _ => some g
  | .obj g _ => some g
  | .row _ _ v _ _ => v.ownBlock
def Ent.holds (base : Nat) (w : World) : Ent → Prop
  | .box g t cs => base ≤ g ∧ w.heap[g]? = some (.cells cs.toArray t (0, 0))
  | .row t size v n xs => w.ownsRow base t size v n xs
  | .obj g o => base ≤ g ∧ w.heap[g]? = some o
def Ent.apart (e f : Ent) : Prop := ∀ k, e.blk = some k → f.blk ≠ some k
structure St (w0 w : World) (L : List Ent) : Prop where
  below : Below w0.heap.size w0 w
  own : ∀ e ∈ L, e.holds w0.heap.size w
  apart : L.Pairwise Ent.apart
def At (L : List Ent) (p : Nat) (e : Ent) : Prop := L[p]? = some e
theorem At.get {L : List Ent} {p : Nat} {e : Ent} (h : At L p e) : L[p]? = some e := h
theorem At.mem {L : List Ent} {p : Nat} {e : Ent} (h : At L p e) : e ∈ L := List.mem_of_getElem? h
theorem atOf {L M : List Ent} {p : Nat} {e : Ent} (H : Hid (L = M)) (h : M[p]? = some e) : At L p e := by rw [H.out]; exact h
theorem Ent.holds_blk {base : Nat} {w : World} {e : Ent} (h : e.holds base w) {k : Nat} (hk : e.blk = some k) : base ≤ k ∧ k < w.heap.size := by
  cases e with
  | box g t cs =>
    obtain ⟨h1, h2⟩ := h
    simp only [Ent.blk, Option.some.injEq] at hk
    subst hk
    exact ⟨h1, (Array.getElem?_eq_some_iff.1 h2).1⟩
  | row t size v n xs => exact World.ownsRow.lt h k hk
  | obj g o =>
    obtain ⟨h1, h2⟩ := h
    simp only [Ent.blk, Option.some.injEq] at hk
    subst hk
    exact ⟨h1, (Array.getElem?_eq_some_iff.1 h2).1⟩
theorem Ent.holds_keep {base : Nat} {w w' : World} {e : Ent} (h : e.holds base w) (hk : ∀ k, e.blk = some k → w'.heap[k]? = w.heap[k]?) : e.holds base w' := by
  cases e with
  | obj g o => exact ⟨h.1, (hk g rfl).trans h.2⟩
  | box g t cs => exact ⟨h.1, (hk g rfl).trans h.2⟩
  | row t size v n xs =>
    refine ⟨h.1, ?_⟩
    rcases h.2 with hn | ⟨g, cap, cur, rfl, hb, hg, rest⟩
    · exact .inl hn
    · exact .inr ⟨g, cap, cur, rfl, hb, (hk g rfl).trans hg, rest⟩
theorem Ent.holds_base {base base' : Nat} {w : World} {e : Ent} (h : e.holds base w) (hb : base' ≤ base) : e.holds base' w := by
  cases e with
  | obj g o => exact ⟨Nat.le_trans hb h.1, h.2⟩
  | box g t cs => exact ⟨Nat.le_trans hb h.1, h.2⟩
  | row t size v n xs =>
    refine ⟨h.1, ?_⟩
    rcases h.2 with hn | ⟨g, cap, cur, hv, hg, rest⟩
    · exact .inl hn
    · exact .inr ⟨g, cap, cur, hv, Nat.le_trans hb hg, rest⟩
section
variable {w0 w w' : World} {L : List Ent}
theorem St.refl (w : World) : St w w [] := ⟨Below.refl _ _, (fun _ h => by cases h), List.Pairwise.nil⟩
theorem St.lt (S : St w0 w L) {e : Ent} (he : e ∈ L) {k : Nat} (hk : e.blk = some k) : w0.heap.size ≤ k ∧ k < w.heap.size := Ent.holds_blk (S.own e he) hk
theorem St.grow (S : St w0 w L) (hb : Below w.heap.size w w') : St w0 w' L :=
  ⟨S.below.trans (hb.mono S.below.size), fun e he => Ent.holds_keep (S.own e he) (fun k hk => hb.block k (S.lt he hk).2), S.apart⟩
theorem St.drew (S : St w0 w L) : St w0 w.drew L := ⟨S.below.drew, fun e he => Ent.holds_keep (S.own e he) (fun _ _ => rfl), S.apart⟩
theorem St.drewN (S : St w0 w L) (n : Nat) : St w0 (w.drewN n) L := ⟨⟨S.below.os, S.below.tape, S.below.output, S.below.size, S.below.block⟩, fun e he => Ent.holds_keep (S.own e he) (fun _ _ => rfl), S.apart⟩
theorem St.call {L' : List Ent} (S : St w0 w L) (T : St w w' L') : St w0 w' (L' ++ L) := by
  have h1 := S.grow T.below
  refine ⟨h1.below, fun e he => ?_, List.pairwise_append.2 ⟨T.apart, S.apart, fun e he f hf k hk hk' => ?_⟩⟩
  · rcases List.mem_append.1 he with he | he
    · exact Ent.holds_base (T.own e he) S.below.size
    · exact h1.own e he
  · have a := (T.lt he hk).1
    have b := (S.lt hf hk').2
    omega
theorem St.sub {L' : List Ent} (S : St w0 w L) (h : L'.Sublist L) : St w0 w L' := ⟨S.below, fun e he => S.own e (h.subset he), S.apart.sublist h⟩
theorem St.new (S : St w0 w L) (t : TypeId) (cs : List Value) : St w0 (w.alloc (.cells cs.toArray t)) (.box w.heap.size t cs :: L) := by
  have hb : Below w.heap.size w (w.alloc (.cells cs.toArray t)) := (Below.refl _ _).alloc (Nat.le_refl _) _
  have h1 := S.grow hb
  refine ⟨h1.below, fun e he => ?_, List.pairwise_cons.2 ⟨fun f hf k hk hk' => ?_, S.apart⟩⟩
  · rcases List.mem_cons.1 he with rfl | he
    · exact ⟨S.below.size, heap_alloc_new w _⟩
    · exact h1.own e he
  · simp only [Ent.blk, Option.some.injEq] at hk
    have b := (S.lt hf hk').2
    omega
theorem St.nilRow (S : St w0 w L) (t : TypeId) (size : Nat) : St w0 w (.row t size (.slice none 0 0) 0 [] :: L) := by
  refine ⟨S.below, fun e he => ?_, List.pairwise_cons.2 ⟨fun f hf k hk hk' => ?_, S.apart⟩⟩
  · rcases List.mem_cons.1 he with rfl | he
    · exact World.ownsRow_nil w _ t size
    · exact S.own e he
  · simp [Ent.blk, Value.ownBlock] at hk
theorem St.asRow {p g n size : Nat} {t : TypeId} {cs : List Value} (S : St w0 w L) (h : L[p]? = some (.box g t cs)) (hn : cs.length = n * size) (hm : n ≤ maxLen) :
    St w0 w (L.set p (.row t size (.slice (some ⟨g, 0, none⟩) n n) n cs)) := by
  obtain ⟨hp, hpe⟩ := List.getElem?_eq_some_iff.1 h
  have hown := S.own _ (List.mem_of_getElem? h)
  refine ⟨S.below, fun f hf => ?_, ?_⟩
  · obtain ⟨q, hq⟩ := List.mem_iff_getElem?.1 hf
    rw [List.getElem?_set] at hq
    split at hq
    · have hq' : some (Ent.row t size (.slice (some ⟨g, 0, none⟩) n n) n cs) = some f := by
        first | exact hq | simpa [hp] using hq
      · injection hq' with hq'
        subst hq'
        exact ⟨hn, .inr ⟨g, n, cs.toArray, rfl, hown.1, hown.2, Nat.le_refl _, hm, by simpa using hn, by rw [← hn]; simp⟩⟩
    · exact S.own f (List.mem_of_getElem? hq)
  · have e1 : (L.set p (.row t size (.slice (some ⟨g, 0, none⟩) n n) n cs)).map Ent.blk = L.map Ent.blk := by
      rw [List.map_set]
      apply List.ext_getElem?
      intro k
      rw [List.getElem?_set]
      split
      · rename_i hk
        subst hk
        simp [hp, Ent.blk, Value.ownBlock, hpe]
      · rfl
    have tr : ∀ M : List Ent, M.Pairwise Ent.apart ↔ (M.map Ent.blk).Pairwise (fun x y => ∀ k, x = some k → y ≠ some k) := by
      intro M
      rw [List.pairwise_map]
      rfl
    rw [tr, e1, ← tr]
    exact S.apart
theorem St.turn {p : Nat} {e e' : Ent} (S : St w0 w L) (h : At L p e) (hg : w.grownBy w' e.blk) (hh : e'.holds w0.heap.size w')
    (hblk : e'.blk = e.blk ∨ ∀ k, e'.blk = some k → w.heap.size ≤ k) : St w0 w' (L.set p e') := by
  have key : ∀ q f, L[q]? = some f → q ≠ p → ∀ k, f.blk = some k → e.blk ≠ some k := by
    intro q f hq hne k hk hek
    have hp := h.get
    rcases Nat.lt_or_gt_of_ne hne with hlt | hlt
    · have := List.pairwise_iff_getElem.1 S.apart q p (List.getElem?_eq_some_iff.1 hq).1 (List.getElem?_eq_some_iff.1 hp).1 hlt
      rw [(List.getElem?_eq_some_iff.1 hq).2, (List.getElem?_eq_some_iff.1 hp).2] at this
      exact this k hk hek
    · have := List.pairwise_iff_getElem.1 S.apart p q (List.getElem?_eq_some_iff.1 hp).1 (List.getElem?_eq_some_iff.1 hq).1 hlt
      rw [(List.getElem?_eq_some_iff.1 hq).2, (List.getElem?_eq_some_iff.1 hp).2] at this
      exact this k hek hk
  have hkeep : ∀ q f, L[q]? = some f → q ≠ p → f.holds w0.heap.size w' := fun q f hq hne =>
    Ent.holds_keep (S.own f (List.mem_of_getElem? hq)) (fun k hk => hg.block k (S.lt (List.mem_of_getElem? hq) hk).2 (fun e0 => key q f hq hne k hk e0.symm))
  have hel : e ∈ L := h.mem
  refine ⟨S.below.grown hg S.below.size (fun k hk => (S.lt hel hk).1), fun f hf => ?_, List.pairwise_iff_getElem.2 fun i j hi hj hij k hk hk' => ?_⟩
  · obtain ⟨q, hq⟩ := List.mem_iff_getElem?.1 hf
    rw [List.getElem?_set] at hq
    split at hq
    · split at hq
      · injection hq with hq; subst hq; exact hh
      · cases hq
    · exact hkeep q f hq (fun e => by omega)
  · simp only [List.length_set] at hi hj
    rw [List.getElem_set] at hk hk'
    have hne : ∀ q (hq : q < L.length), p ≠ q → L[q].blk = some k → e'.blk = some k → False := by
      intro q hq hpq h1 h2
      rcases hblk with hb | hb
      · exact key q L[q] (List.getElem?_eq_getElem hq) (fun e => hpq e.symm) k h1 (hb ▸ h2)
      · have := hb k h2
        have := (S.lt (List.getElem_mem hq) h1).2
        omega
    split at hk <;> split at hk'
    · omega
    · exact hne j hj ‹_› hk' hk
    · exact hne i hi ‹_› hk hk'
    · exact List.pairwise_iff_getElem.1 S.apart i j hi hj hij k hk hk'
theorem St.cell {g : Nat} {t : TypeId} {cs : List Value} {p : Nat} (S : St w0 w L) (h : At L p (.box g t cs)) (i : Nat) : w.cell? ⟨g, i, none⟩ = cs[i]? := by
  rw [cell_of_row w g i cs.toArray t (0, 0) (S.own _ h.mem).2, List.getElem?_toArray]
theorem St.rowCell {g n cap size : Nat} {t : TypeId} {xs : List Value} {p : Nat} (S : St w0 w L) (h : At L p (.row t size (.slice (some ⟨g, 0, none⟩) n cap) n xs)) (j : Nat) (hj : j < n * size) : w.cell? ⟨g, j, none⟩ = xs[j]? :=
  World.ownsRow.cellAt (S.own _ h.mem) j hj
end
def splice (cs : List Value) (i : Nat) (vs : List Value) : List Value := cs.take i ++ vs ++ cs.drop (i + vs.length)
section
variable {P : Program} {w0 w : World} {L : List Ent} {o : Oper} {a : Act} {K : Act → World → Prop} {Q : Exit → Act → World → Prop} {ops : Array Oper} {rest : List Oper}
theorem wp_box (S : St w0 w L) (ty : TypeId) (x : Operand) (ho : o.op = .box ty x)
    (h : ∀ g w' M, M = .box g ty (a.eval x).cells.toList :: L → St w0 w' M → K (a.put o.dst (.pointer (some ⟨g, 0, none⟩))) w') : o.wp P a w K Q := by
  unfold Oper.wp
  simp only [execOp, ho]
  have := h _ _ _ rfl (S.new ty (a.eval x).cells.toList)
  simpa [Instr.box, newVar, newRow, go_sem] using this
theorem wpList_box (hgd : o.guard = none) (S : St w0 w L) (ty : TypeId) (x : Operand) (ho : o.op = .box ty x)
    (h : ∀ g w' M, M = .box g ty (a.eval x).cells.toList :: L → St w0 w' M → wpList P ops Q rest (a.put o.dst (.pointer (some ⟨g, 0, none⟩))) w') : wpList P ops Q (o :: rest) a w :=
  wpList_plain hgd fun _ hK => wp_box S ty x ho fun g w' M hM S' => hK _ _ (h g w' M hM S')
theorem wp_alloc (S : St w0 w L) (ty : TypeId) (z : Value) (ho : o.op = .alloc ty) (hz : (P.info? ty).bind (·.zero) = some z)
    (h : ∀ g w' M, M = .box g ty z.cells.toList :: L → St w0 w' M → K (a.put o.dst (.pointer (some ⟨g, 0, none⟩))) w') : o.wp P a w K Q := by
  unfold Oper.wp
  simp only [execOp, ho]
  obtain ⟨i, hi, hzz⟩ := Option.bind_eq_some_iff.1 hz
  have := h _ _ _ rfl (S.new ty z.cells.toList)
  simpa [Instr.alloc, zeroValue, typeInfo, hi, hzz, newVar, newRow, go_sem] using this
theorem wpList_alloc (hgd : o.guard = none) (S : St w0 w L) (ty : TypeId) (z : Value) (ho : o.op = .alloc ty) (hz : (P.info? ty).bind (·.zero) = some z)
    (h : ∀ g w' M, M = .box g ty z.cells.toList :: L → St w0 w' M → wpList P ops Q rest (a.put o.dst (.pointer (some ⟨g, 0, none⟩))) w') : wpList P ops Q (o :: rest) a w :=
  wpList_plain hgd fun _ hK => wp_alloc S ty z ho hz fun g w' M hM S' => hK _ _ (h g w' M hM S')
theorem run_storeVar_of (ty : TypeId) (ad : Addr) (X : Value) (ti : TypeInfo) (hti : P.info? ty = some ti) (hsz : X.cells.size = ti.size) (w' : World) (hrun : (storeCells ad X.cells.toList).run P w = .ok () w') :
    (storeVar ty ad X).run P w = .ok () w' := by
  simp only [storeVar, sizeOf, typeInfo, Sem.run_bind, run_program, hti, Sem.run_pure, Result.andThen_ok]
  rw [if_neg (by simp [hsz])]
  exact hrun
theorem wp_store_of (ty : TypeId) (ad x : Operand) (ho : o.op = .store ty ad x) (A : Addr) (had : a.eval ad = .pointer (some A)) (w' : World) (hst : (storeVar ty A (a.eval x)).run P w = .ok () w')
    (h : K (a.put o.dst undef) w') : o.wp P a w K Q := by
  unfold Oper.wp
  simp only [execOp, ho]
  generalize a.eval ad = B at *
  generalize a.eval x = X at *
  subst had
  simp only [Instr.storeAt, Instr.sureAddr, Sem.run_bind, Sem.run_pure, Result.andThen_ok, hst]
  exact h
theorem wp_store_box (S : St w0 w L) (ty : TypeId) (ad x : Operand) (ho : o.op = .store ty ad x) (p g : Nat) (t : TypeId) (cs : List Value) (i : Nat) (hp : At L p (.box g t cs))
    (had : a.eval ad = .pointer (some ⟨g, i, none⟩)) (vs : List Value) (hv : (a.eval x).cells.toList = vs) (hsz : (P.info? ty).map (·.size) = some vs.length)
    (hfit0 : Nat.ble (i + vs.length) cs.length = true) (h1 : vs.all (·.oneCell') = true)
    (h : ∀ w' M, M = L.set p (.box g t (splice cs i vs)) → St w0 w' M → K (a.put o.dst undef) w') : o.wp P a w K Q := by
  have hfit := Nat.le_of_ble_eq_true hfit0
  have hrun := run_storeCells_at P g i t vs 0 cs.toArray w (S.own _ hp.mem).2 (by simpa using hfit) (by simpa using h1)
  obtain ⟨ti, hti, hsz⟩ := Option.map_eq_some_iff.1 hsz
  have hcs : (a.eval x).cells.size = ti.size := by rw [hsz, ← hv]; simp
  have S' : St w0 (w.setRow g (splice cs i vs).toArray) (L.set p (.box g t (splice cs i vs))) := by
    refine S.turn hp ⟨rfl, rfl, rfl, by simp, fun k _ hk => setRow_other w g k _ (fun e => hk (by simp [Ent.blk, e]))⟩ ⟨(S.lt hp.mem (k := g) rfl).1, ?_⟩ (.inl rfl)
    exact setRow_heap w g _ _ t _ (S.own _ hp.mem).2
  have hrun' : (storeCells ⟨g, i, none⟩ vs).run P w = .ok () (w.setRow g (splice cs i vs).toArray) := by
    rw [hrun]; simp [splice]
  exact wp_store_of ty ad x ho _ had _ (run_storeVar_of (P := P) (w := w) ty ⟨g, i, none⟩ (a.eval x) ti hti hcs _ (by rw [hv]; exact hrun')) (h _ _ rfl S')
theorem wpList_store_box (hgd : o.guard = none) (S : St w0 w L) (ty : TypeId) (ad x : Operand) (ho : o.op = .store ty ad x) (p g : Nat) (t : TypeId) (cs : List Value) (i : Nat) (hp : At L p (.box g t cs))
    (had : a.eval ad = .pointer (some ⟨g, i, none⟩)) (vs : List Value) (hv : (a.eval x).cells.toList = vs) (hsz : (P.info? ty).map (·.size) = some vs.length)
    (hfit0 : Nat.ble (i + vs.length) cs.length = true) (h1 : vs.all (·.oneCell') = true)
    (h : ∀ w' M, M = L.set p (.box g t (splice cs i vs)) → St w0 w' M → wpList P ops Q rest (a.put o.dst undef) w') : wpList P ops Q (o :: rest) a w :=
  wpList_plain hgd fun _ hK => wp_store_box S ty ad x ho p g t cs i hp had vs hv hsz hfit0 h1 fun w' M hM S' => hK _ _ (h w' M hM S')
theorem wp_store_row (S : St w0 w L) (ty : TypeId) (ad x : Operand) (ho : o.op = .store ty ad x) (p g n cap size : Nat) (t : TypeId) (xs : List Value) (j : Nat) (hp : At L p (.row t size (.slice (some ⟨g, 0, none⟩) n cap) n xs))
    (had : a.eval ad = .pointer (some ⟨g, j, none⟩)) (v : Value) (hv : a.eval x = v) (hsz : (P.info? ty).map (·.size) = some 1) (h1 : v.oneCell' = true) (hj : j < n * size)
    (h : ∀ w' M, M = L.set p (.row t size (.slice (some ⟨g, 0, none⟩) n cap) n (xs.set j v)) → St w0 w' M → K (a.put o.dst undef) w') : o.wp P a w K Q := by
  obtain ⟨ti, hti, hsz⟩ := Option.map_eq_some_iff.1 hsz
  have hown : w.ownsRow w0.heap.size t size (.slice (some ⟨g, 0, none⟩) n cap) n xs := S.own _ hp.mem
  obtain ⟨h2, h3⟩ := World.ownsRow.stored hown j v
  have hl : j < xs.length := by rw [hown.1]; exact hj
  have hc := World.ownsRow.cellAt hown j hj
  have hf := World.ownsRow.frozenAt hown j
  have S' : St w0 (w.setCell ⟨g, j, none⟩ v) (L.set p (.row t size (.slice (some ⟨g, 0, none⟩) n cap) n (xs.set j v))) :=
    S.turn hp h3 h2 (.inl rfl)
  have hcl : v.cells = #[v] := by cases v <;> first | rfl | cases h1
  have hst : (storeVar ty ⟨g, j, none⟩ (a.eval x)).run P w = .ok () (w.setCell ⟨g, j, none⟩ v) := by
    rw [hv]
    refine run_storeVar_of ty _ v ti hti (by rw [hcl, hsz]; rfl) _ ?_
    rw [hcl]
    have : (store (⟨g, j, none⟩ : Addr) v).run P w = .ok () (w.setCell ⟨g, j, none⟩ v) := by
      rw [run_store P w _ v _ h1, hc, List.getElem?_eq_getElem hl]; simp [hf]
    have e : (⟨g, j, none⟩ : Addr).add 0 = ⟨g, j, none⟩ := by unfold Addr.add; simp
    simp [storeCells, Sem.run_bind, e, this]
  exact wp_store_of ty ad x ho _ had _ hst (h _ _ rfl S')
theorem wpList_store_row (hgd : o.guard = none) (S : St w0 w L) (ty : TypeId) (ad x : Operand) (ho : o.op = .store ty ad x) (p g n cap size : Nat) (t : TypeId) (xs : List Value) (j : Nat) (hp : At L p (.row t size (.slice (some ⟨g, 0, none⟩) n cap) n xs))
    (had : a.eval ad = .pointer (some ⟨g, j, none⟩)) (v : Value) (hv : a.eval x = v) (hsz : (P.info? ty).map (·.size) = some 1) (h1 : v.oneCell' = true) (hj : j < n * size)
    (h : ∀ w' M, M = L.set p (.row t size (.slice (some ⟨g, 0, none⟩) n cap) n (xs.set j v)) → St w0 w' M → wpList P ops Q rest (a.put o.dst undef) w') : wpList P ops Q (o :: rest) a w :=
  wpList_plain hgd fun _ hK => wp_store_row S ty ad x ho p g n cap size t xs j hp had v hv hsz h1 hj fun w' M hM S' => hK _ _ (h w' M hM S')
theorem wpList_make (hgd : o.guard = none) (S : St w0 w L) (l c : Operand) (t : TypeId) (ho : o.op = .makeSlice t l c)
    (e : TypeId) (z : Value) (size bytes : Nat) (ht : P.underlying t = some (.slice e)) (hi : (P.info? e).map (fun i => (i.zero, i.size, i.bytes)) = some (some z, size, bytes))
    (N : Int) (n : Nat) (hl : a.eval l = .int .i64 N) (hc : a.eval c = .int .i64 N) (hN : N = (n : Int)) (hb : bytes * n ≤ 281474976710656) (hm : n ≤ maxLen)
    (h : ∀ g w' M, M = .row e size (.slice (some ⟨g, 0, none⟩) n n) n (madeCells z.cells (n * size)).toList :: L → St w0 w' M → wpList P ops Q rest (a.put o.dst (.slice (some ⟨g, 0, none⟩) n n)) w') : wpList P ops Q (o :: rest) a w := by
  obtain ⟨i, hi0, hz0, hz1, hz2⟩ := info_parts hi
  subst hz2
  refine wpList_make_full w hgd l c t ho w.heap.size e i z size ht hi0 hz0 hz1 .i64 .i64 N N n hl hc hN hN hb hm (Nat.le_refl _) fun w' hown hg => h w.heap.size w' _ rfl ?_
  have hbl : Below w.heap.size w w' := ⟨hg.os, hg.tape, hg.output, hg.size, fun k hk => hg.block k hk (by simp)⟩
  have T : St w w' [.row e size (.slice (some ⟨w.heap.size, 0, none⟩) n n) n (madeCells z.cells (n * size)).toList] :=
    ⟨hbl, fun e' he => by rw [List.mem_singleton.1 he]; exact hown, List.pairwise_singleton _ _⟩
  exact S.call T
theorem wp_buildSlice (S : St w0 w L) (t : TypeId) (len : Nat) (parts : Array (Nat × Operand)) (ho : o.op = .buildSlice t len parts)
    (e : TypeId) (size : Nat) (ht : P.underlying t = some (.slice e)) (hi : (P.info? e).map (fun i => i.size) = some size)
    (cells : List Value) (hrun : ∀ w, (Instr.buildSlice t len (parts.map fun (i, x) => (i, a.eval x))).run P w = .ok (.slice (some ⟨w.heap.size, 0, none⟩) len len) (w.alloc (.cells cells.toArray e)))
    (h : ∀ g w' M, M = .box g e cells :: L → St w0 w' M → K (a.put o.dst (.slice (some ⟨g, 0, none⟩) len len)) w') : o.wp P a w K Q := by
  unfold Oper.wp
  simp only [execOp, ho, Sem.run_bind, hrun w, Result.andThen_ok, Sem.run_pure]
  exact h _ _ _ rfl (S.new e cells)
theorem wpList_buildSlice (hgd : o.guard = none) (S : St w0 w L) (t : TypeId) (len : Nat) (parts : Array (Nat × Operand)) (ho : o.op = .buildSlice t len parts)
    (e : TypeId) (size : Nat) (ht : P.underlying t = some (.slice e)) (hi : (P.info? e).map (fun i => i.size) = some size)
    (cells : List Value) (hrun : ∀ w, (Instr.buildSlice t len (parts.map fun (i, x) => (i, a.eval x))).run P w = .ok (.slice (some ⟨w.heap.size, 0, none⟩) len len) (w.alloc (.cells cells.toArray e)))
    (h : ∀ g w' M, M = .box g e cells :: L → St w0 w' M → wpList P ops Q rest (a.put o.dst (.slice (some ⟨g, 0, none⟩) len len)) w') : wpList P ops Q (o :: rest) a w :=
  wpList_plain hgd fun _ hK => wp_buildSlice S t len parts ho e size ht hi cells hrun fun g w' M hM S' => hK _ _ (h g w' M hM S')
theorem wp_append (S : St w0 w L) (s x : Operand) (t : TypeId) (ho : o.op = .call { callee := .builtin .append, args := #[s, x], argTypes := #[t, t] })
    (p : Nat) (e : TypeId) (z : Value) (size bytes : Nat) (ht : P.underlying t = some (.slice e)) (hi : (P.info? e).map (fun i => (i.zero, i.size, i.bytes)) = some (some z, size, bytes))
    (hzs : z.cells.size = size) (hsz : 0 < size) (v : Value) (n : Nat) (xs : List Value) (hs : a.eval s = v) (hp : At L p (.row e size v n xs))
    (ad : Addr) (m c : Nat) (news : List Value) (hx : a.eval x = .slice (some ad) m c) (hl : news.length = m * size) (hnews : ∀ j u, news[j]? = some u → w.cell? (ad.add j) = some u) (h1 : news.all (·.oneCell') = true)
    (h63 : n + m ≤ maxLen) (hbytes : (n + m) * bytes ≤ 140737488355328)
    (h : ∀ v' w' M, M = L.set p (.row e size v' (n + m) (xs ++ news)) → St w0 w' M → K (a.put o.dst v') w') : o.wp P a w K Q := by
  obtain ⟨i, hi0, hz0, hz1, hz2⟩ := info_parts hi
  have hown : w.ownsRow w0.heap.size e size v n xs := S.own _ hp.mem
  have hsame : ∀ v' w', w'.ownsRow w0.heap.size e size v' (n + m) (xs ++ news) → w.grownBy w' v.ownBlock → (v'.ownBlock = v.ownBlock ∨ v'.ownBlock = some w.heap.size) → K (a.put o.dst v') w' := by
    intro v' w' h2 h3 h5
    refine h v' w' _ rfl (S.turn hp h3 h2 ?_)
    rcases h5 with h5 | h5
    · exact .inl h5
    · refine .inr fun k hk => ?_
      have : some w.heap.size = some k := h5.symm.trans hk
      injection this with this
      omega
  obtain ⟨v', w', hrun, h2, h3, _, h5⟩ := run_append_own_at (P := P) w w0.heap.size t o.type e i z size bytes ht hi0 hz0 hz1 hz2 hzs hsz v n xs hown ad m c news hl hnews (by simpa using h1) h63 hbytes S.below.size
  unfold Oper.wp execOp
  simp only [ho, resolve, invoke, builtin, Sem.run_bind, Sem.run_pure, Result.andThen_ok, List.map_toArray, List.map_cons, List.map_nil, hs, hx, hrun]
  exact hsame v' w' h2 h3 h5
theorem wpList_append (hgd : o.guard = none) (S : St w0 w L) (s x : Operand) (t : TypeId) (ho : o.op = .call { callee := .builtin .append, args := #[s, x], argTypes := #[t, t] })
    (p : Nat) (e : TypeId) (z : Value) (size bytes : Nat) (ht : P.underlying t = some (.slice e)) (hi : (P.info? e).map (fun i => (i.zero, i.size, i.bytes)) = some (some z, size, bytes))
    (hzs : z.cells.size = size) (hsz : 0 < size) (v : Value) (n : Nat) (xs : List Value) (hs : a.eval s = v) (hp : At L p (.row e size v n xs))
    (ad : Addr) (m c : Nat) (news : List Value) (hx : a.eval x = .slice (some ad) m c) (hl : news.length = m * size) (hnews : ∀ j u, news[j]? = some u → w.cell? (ad.add j) = some u) (h1 : news.all (·.oneCell') = true)
    (h63 : n + m ≤ maxLen) (hbytes : (n + m) * bytes ≤ 140737488355328)
    (h : ∀ v' w' M, M = L.set p (.row e size v' (n + m) (xs ++ news)) → St w0 w' M → wpList P ops Q rest (a.put o.dst v') w') : wpList P ops Q (o :: rest) a w :=
  wpList_plain hgd fun _ hK => wp_append S s x t ho p e z size bytes ht hi hzs hsz v n xs hs hp ad m c news hx hl hnews h1 h63 hbytes fun v' w' M hM S' => hK _ _ (h v' w' M hM S')
end
def cellsFrom (w : World) (g : Nat) : Nat → List Value → Prop
  | _, [] => True
  | i, v :: vs => w.cell? ⟨g, i, none⟩ = some v ∧ cellsFrom w g (i + 1) vs
def factsOf (w : World) : List Ent → Prop
  | [] => True
  | .box g _ cs :: L => cellsFrom w g 0 cs ∧ factsOf w L
  | .row .. :: L => factsOf w L
  | .obj .. :: L => factsOf w L
theorem cellsFrom_of {w : World} {g : Nat} : ∀ (vs : List Value) (i : Nat), (∀ j v, vs[j]? = some v → w.cell? ⟨g, i + j, none⟩ = some v) → cellsFrom w g i vs
  | [], _, _ => trivial
  | v :: vs, i, h => ⟨h 0 v rfl, cellsFrom_of vs (i + 1) fun j u hu => by
      have := h (j + 1) u (by simpa using hu)
      rwa [show i + (j + 1) = i + 1 + j by omega] at this⟩
theorem St.facts {w0 w : World} {L : List Ent} (S : St w0 w L) : factsOf w L := by
  have : ∀ (M : List Ent), (∀ e ∈ M, e.holds w0.heap.size w) → factsOf w M := by
    intro M
    induction M with
    | nil => intro _; trivial
    | cons e M ih =>
      intro h
      have hM := ih (fun f hf => h f (List.mem_cons_of_mem _ hf))
      cases e with
      | box g t cs =>
        refine ⟨cellsFrom_of cs 0 fun j v hj => ?_, hM⟩
        have := (h _ List.mem_cons_self).2
        rw [Nat.zero_add, cell_of_row w g j cs.toArray t (0, 0) this, List.getElem?_toArray, hj]
      | row t size v n xs => exact hM
      | obj g o => exact hM
  exact this L S.own
theorem factsAll {w0 w : World} {L M : List Ent} (H : Hid (L = M)) (_ : St w0 w L) : ∀ w', St w0 w' L → factsOf w' M := fun _ S => H.out ▸ S.facts
theorem news_box {w0 w : World} {L : List Ent} {g : Nat} {t : TypeId} {cs : List Value} {p : Nat} (S : St w0 w L) (h : At L p (.box g t cs)) : ∀ j u, cs[j]? = some u → w.cell? ((⟨g, 0, none⟩ : Addr).add j) = some u := by
  intro j u hu
  have hadd : (⟨g, 0, none⟩ : Addr).add j = ⟨g, j, none⟩ := by unfold Addr.add; split <;> simp_all
  rw [hadd, S.cell h j, hu]
def Sees (w : World) (size : Nat) (v : Value) (n : Nat) (xs : List Value) : Prop :=
  xs.length = n * size ∧ ∃ A cap, v = .slice A n cap ∧ n ≤ cap ∧ cap ≤ maxLen ∧ (0 < n → ∃ b off, A = some ⟨b, off, none⟩ ∧ b < w.heap.size ∧ ∀ j u, xs[j]? = some u → w.cell? ⟨b, off + j, none⟩ = some u)
theorem Sees.below {w w' : World} {size n : Nat} {v : Value} {xs : List Value} (h : Sees w size v n xs) (hb : Below w.heap.size w w') : Sees w' size v n xs := by
  obtain ⟨h1, A, cap, rfl, hc, hm, h2⟩ := h
  refine ⟨h1, A, cap, rfl, hc, hm, fun hn => ?_⟩
  obtain ⟨b, off, rfl, hlt, h3⟩ := h2 hn
  exact ⟨b, off, rfl, Nat.lt_of_lt_of_le hlt hb.size, fun j u hu => (hb.cell (p := ⟨b, off + j, none⟩) hlt).trans (h3 j u hu)⟩
theorem Sees.at_ {w0 w : World} {L : List Ent} {size n : Nat} {v : Value} {xs : List Value} (h : Sees w0 size v n xs) (S : St w0 w L) : Sees w size v n xs := h.below S.below
theorem Sees.own {w : World} {base size n : Nat} {t : TypeId} {v : Value} {xs : List Value} (h : w.ownsRow base t size v n xs) : Sees w size v n xs := by
  obtain ⟨h1, h2⟩ := h
  refine ⟨h1, ?_⟩
  rcases h2 with ⟨rfl, rfl⟩ | ⟨g, cap, cur, rfl, hb, hg, hn, hm, hcs, htake⟩
  · exact ⟨none, 0, rfl, Nat.le_refl _, by simp [maxLen], fun h => absurd h (by omega)⟩
  · refine ⟨some ⟨g, 0, none⟩, cap, rfl, hn, hm, fun _ => ⟨g, 0, rfl, (Array.getElem?_eq_some_iff.1 hg).1, fun j u hu => ?_⟩⟩
    rw [Nat.zero_add, cell_of_row w g j cur t (0, 0) hg]
    rw [← htake, List.getElem?_take] at hu
    split at hu
    · simpa using hu
    · cases hu
theorem Sees.row {w0 w : World} {L : List Ent} {p size n : Nat} {t : TypeId} {v : Value} {xs : List Value} (S : St w0 w L) (h : At L p (.row t size v n xs)) : Sees w size v n xs := Sees.own (S.own _ h.mem)
def ResIs (P : Program) (w : World) (tmps : Array Value) : ResultVar → Value → Prop
  | .tmp t, v => tmps.getD t undef = v
  | .cell a t, v => (do loadVar t (← asAddr (tmps.getD a undef)) : Sem Value).run P w = .ok v w
def structAt (P : Program) (ty n : Nat) : Bool :=
  match P.underlying ty, P.info? ty with
  | some (.struct _), some i => i.size == n
  | _, _ => false
theorem resCell {P : Program} {w0 w : World} {L M : List Ent} {tmps : Array Value} {s ty : Nat} {g : Nat} {t : TypeId} {cs : List Value} (S : St w0 w L) (H : Hid (L = M)) (p : Nat) (hp : M[p]? = some (.box g t cs))
    (ha : tmps.getD s undef = .pointer (some ⟨g, 0, none⟩)) (hk : structAt P ty cs.length = true) : ResIs P w tmps (.cell s ty) (.agg cs.toArray) := by
  have hb := (S.own _ (atOf H hp).mem).2
  unfold structAt at hk
  split at hk
  · rename_i fs i hu hi
    have hr := run_loadVar_row (P := P) w g t ty cs.toArray (0, 0) _ hb hu rfl (by rw [hi]; simpa using hk)
    show (do loadVar ty (← asAddr (tmps.getD s undef)) : Sem Value).run P w = _
    rw [ha]
    simpa [asAddr, Sem.run_bind] using hr
  · cases hk
section
variable {P : Program} {w : World} {a : Act} {fn : Func} {R : Ending → World → Prop} {r1 r2 r3 r4 r5 : ResultVar} {v1 v2 v3 v4 v5 : Value}
def resOne (tmps : Array Value) : ResultVar → Sem Value
  | .tmp t => pure (tmps.getD t undef)
  | .cell a t => do loadVar t (← asAddr (tmps.getD a undef))
theorem results_eq (fn : Func) (tmps : Array Value) : results fn tmps = (do
    let vs ← fn.results.mapM (resOne tmps)
    pure (if h : vs.size = 1 then vs[0] else .tuple vs)) := rfl
theorem res_run {r : ResultVar} {v : Value} {tmps : Array Value} (h : ResIs P w tmps r v) : (resOne tmps r).run P w = .ok v w := by
  cases r with
  | tmp t => exact congrArg (fun u => Result.ok u w) h
  | cell a t => exact h
theorem ret1 (h : fn.results = #[r1]) (h1 : ResIs P w a.tmps r1 v1) (hd : a.defers = []) (hR : R (.returned v1) w) : bodyPost P fn R .ret a w := by
  refine bodyPost_ret (v := v1) ?_ hd hR
  have e1 := res_run h1
  rw [results_eq, h, Array.mapM_eq_mapM_toList]
  simp [Sem.run_bind, Result.andThen_ok, e1]
theorem ret2 (h : fn.results = #[r1, r2]) (h1 : ResIs P w a.tmps r1 v1) (h2 : ResIs P w a.tmps r2 v2) (hd : a.defers = []) (hR : R (.returned (.tuple #[v1, v2])) w) : bodyPost P fn R .ret a w := by
  refine bodyPost_ret (v := (.tuple #[v1, v2])) ?_ hd hR
  have e1 := res_run h1
  have e2 := res_run h2
  rw [results_eq, h, Array.mapM_eq_mapM_toList]
  simp [Sem.run_bind, Result.andThen_ok, e1, e2]
theorem ret3 (h : fn.results = #[r1, r2, r3]) (h1 : ResIs P w a.tmps r1 v1) (h2 : ResIs P w a.tmps r2 v2) (h3 : ResIs P w a.tmps r3 v3) (hd : a.defers = []) (hR : R (.returned (.tuple #[v1, v2, v3])) w) : bodyPost P fn R .ret a w := by
  refine bodyPost_ret (v := (.tuple #[v1, v2, v3])) ?_ hd hR
  have e1 := res_run h1
  have e2 := res_run h2
  have e3 := res_run h3
  rw [results_eq, h, Array.mapM_eq_mapM_toList]
  simp [Sem.run_bind, Result.andThen_ok, e1, e2, e3]
theorem ret4 (h : fn.results = #[r1, r2, r3, r4]) (h1 : ResIs P w a.tmps r1 v1) (h2 : ResIs P w a.tmps r2 v2) (h3 : ResIs P w a.tmps r3 v3) (h4 : ResIs P w a.tmps r4 v4) (hd : a.defers = []) (hR : R (.returned (.tuple #[v1, v2, v3, v4])) w) : bodyPost P fn R .ret a w := by
  refine bodyPost_ret (v := (.tuple #[v1, v2, v3, v4])) ?_ hd hR
  have e1 := res_run h1
  have e2 := res_run h2
  have e3 := res_run h3
  have e4 := res_run h4
  rw [results_eq, h, Array.mapM_eq_mapM_toList]
  simp [Sem.run_bind, Result.andThen_ok, e1, e2, e3, e4]
end
theorem st_start (w : World) : ∃ L, Hid (L = ([] : List Ent)) ∧ St w w L := ⟨[], rfl, St.refl w⟩
theorem st_name {w0 w : World} {X : List Ent} (S : St w0 w X) : ∃ M, M = X ∧ St w0 w M := ⟨X, rfl, S⟩
def ints (xs : List Int) : List Value := xs.map (Value.int .i64)
theorem ints_length (xs : List Int) : (ints xs).length = xs.length := by simp [ints]
theorem ints_getD (xs : List Int) (k : Nat) (h : k < xs.length) : (ints xs)[k]? = some (.int .i64 (xs.getD k 0)) := by simp [ints, h]
theorem ints_one (xs : List Int) : (ints xs).all (·.oneCell') = true := by simp [ints, Value.oneCell']
theorem ints_append (xs ys : List Int) : ints (xs ++ ys) = ints xs ++ ints ys := by simp [ints]
theorem ints_set (xs : List Int) (k : Nat) (x : Int) : ints (xs.set k x) = (ints xs).set k (.int .i64 x) := by simp [ints]
def Ints (w : World) (v : Value) (xs : List Int) : Prop := Sees w 1 v xs.length (ints xs)
theorem qAt {L : List Ent} {p : Nat} {e : Ent} (h : At L p e := by first | exact atOf HL (p := 0) rfl | exact atOf HL (p := 1) rfl | exact atOf HL (p := 2) rfl | exact atOf HL (p := 3) rfl | exact atOf HL (p := 4) rfl | exact atOf HL (p := 5) rfl | exact atOf HL (p := 6) rfl | exact atOf HL (p := 7) rfl | exact atOf HL (p := 8) rfl | exact atOf HL (p := 9) rfl | exact atOf HL (p := 10) rfl | exact atOf HL (p := 11) rfl | exact atOf HL (p := 12) rfl | exact atOf HL (p := 13) rfl | exact atOf HL (p := 14) rfl | exact atOf HL (p := 15) rfl | exact atOf HL (p := 16) rfl | exact atOf HL (p := 17) rfl | exact atOf HL (p := 18) rfl | exact atOf HL (p := 19) rfl | exact atOf HL (p := 20) rfl | exact atOf HL (p := 21) rfl | exact atOf HL (p := 22) rfl | exact atOf HL (p := 23) rfl | exact atOf HL (p := 24) rfl | exact atOf HL (p := 25) rfl | exact atOf HL (p := 26) rfl | exact atOf HL (p := 27) rfl | exact atOf HL (p := 28) rfl | exact atOf HL (p := 29) rfl | exact atOf HL (p := 30) rfl | exact atOf HL (p := 31) rfl | exact atOf HL (p := 32) rfl | exact atOf HL (p := 33) rfl | exact atOf HL (p := 34) rfl | exact atOf HL (p := 35) rfl | exact atOf HL (p := 36) rfl | exact atOf HL (p := 37) rfl | exact atOf HL (p := 38) rfl | exact atOf HL (p := 39) rfl) : At L p e := h
theorem qAt0 {L : List Ent} {p : Nat} {e : Ent} (h : At L p e := by first | exact atOf HL0 (p := 0) rfl | exact atOf HL0 (p := 1) rfl | exact atOf HL0 (p := 2) rfl | exact atOf HL0 (p := 3) rfl | exact atOf HL0 (p := 4) rfl | exact atOf HL0 (p := 5) rfl | exact atOf HL0 (p := 6) rfl | exact atOf HL0 (p := 7) rfl | exact atOf HL0 (p := 8) rfl | exact atOf HL0 (p := 9) rfl | exact atOf HL0 (p := 10) rfl | exact atOf HL0 (p := 11) rfl | exact atOf HL0 (p := 12) rfl | exact atOf HL0 (p := 13) rfl | exact atOf HL0 (p := 14) rfl | exact atOf HL0 (p := 15) rfl | exact atOf HL0 (p := 16) rfl | exact atOf HL0 (p := 17) rfl | exact atOf HL0 (p := 18) rfl | exact atOf HL0 (p := 19) rfl | exact atOf HL0 (p := 20) rfl | exact atOf HL0 (p := 21) rfl | exact atOf HL0 (p := 22) rfl | exact atOf HL0 (p := 23) rfl | exact atOf HL0 (p := 24) rfl | exact atOf HL0 (p := 25) rfl | exact atOf HL0 (p := 26) rfl | exact atOf HL0 (p := 27) rfl | exact atOf HL0 (p := 28) rfl | exact atOf HL0 (p := 29) rfl | exact atOf HL0 (p := 30) rfl | exact atOf HL0 (p := 31) rfl | exact atOf HL0 (p := 32) rfl | exact atOf HL0 (p := 33) rfl | exact atOf HL0 (p := 34) rfl | exact atOf HL0 (p := 35) rfl | exact atOf HL0 (p := 36) rfl | exact atOf HL0 (p := 37) rfl | exact atOf HL0 (p := 38) rfl | exact atOf HL0 (p := 39) rfl) : At L p e := h
theorem qNm {L0 M0 L X M : List Ent} (_ : Hid (L0 = M0)) (hM : L = X) (e : X = M := by ((try rewrite [HL.out]); (try simp [Act.put, Act.eval, Value.cells, splice]); (try rfl))) : Hid (L = M) := Lib.hid (hM.trans e)
theorem qFc {w0 w : World} {L M : List Ent} {P : World → Prop} (HL : Hid (L = M)) (_ : St w0 w L) (h : ∀ w', factsOf w' M → P w' := by (intro _ h; (try simp only [factsOf, cellsFrom, and_true, true_and, Nat.reduceAdd] at h); first | exact h | exact trivial)) : ∀ w', St w0 w' L → P w' := fun w' S => h w' (HL.out ▸ S.facts)
theorem qSel {P : Prop} (h : P := by (repeat (first | exact Sel.nil | refine Sel.cons 0 rfl ?_ | refine Sel.cons 1 rfl ?_ | refine Sel.cons 2 rfl ?_ | refine Sel.cons 3 rfl ?_ | refine Sel.cons 4 rfl ?_ | refine Sel.cons 5 rfl ?_ | refine Sel.cons 6 rfl ?_ | refine Sel.cons 7 rfl ?_ | refine Sel.cons 8 rfl ?_ | refine Sel.cons 9 rfl ?_ | refine Sel.cons 10 rfl ?_ | refine Sel.cons 11 rfl ?_ | refine Sel.cons 12 rfl ?_ | refine Sel.cons 13 rfl ?_ | refine Sel.cons 14 rfl ?_ | refine Sel.cons 15 rfl ?_ | refine Sel.cons 16 rfl ?_ | refine Sel.cons 17 rfl ?_ | refine Sel.cons 18 rfl ?_ | refine Sel.cons 19 rfl ?_ | refine Sel.cons 20 rfl ?_ | refine Sel.cons 21 rfl ?_ | refine Sel.cons 22 rfl ?_ | refine Sel.cons 23 rfl ?_ | refine Sel.cons 24 rfl ?_ | refine Sel.cons 25 rfl ?_ | refine Sel.cons 26 rfl ?_ | refine Sel.cons 27 rfl ?_ | refine Sel.cons 28 rfl ?_ | refine Sel.cons 29 rfl ?_))) : P := h
theorem qQ2 {P : Prop} (h : P := by ((first | refine Sel.cons 0 rfl ?_ | refine Sel.cons 1 rfl ?_ | refine Sel.cons 2 rfl ?_ | refine Sel.cons 3 rfl ?_ | refine Sel.cons 4 rfl ?_ | refine Sel.cons 5 rfl ?_ | refine Sel.cons 6 rfl ?_ | refine Sel.cons 7 rfl ?_ | refine Sel.cons 8 rfl ?_ | refine Sel.cons 9 rfl ?_ | refine Sel.cons 10 rfl ?_ | refine Sel.cons 11 rfl ?_ | refine Sel.cons 12 rfl ?_ | refine Sel.cons 13 rfl ?_); (first | refine Sel.cons 0 rfl ?_ | refine Sel.cons 1 rfl ?_ | refine Sel.cons 2 rfl ?_ | refine Sel.cons 3 rfl ?_ | refine Sel.cons 4 rfl ?_ | refine Sel.cons 5 rfl ?_ | refine Sel.cons 6 rfl ?_ | refine Sel.cons 7 rfl ?_ | refine Sel.cons 8 rfl ?_ | refine Sel.cons 9 rfl ?_ | refine Sel.cons 10 rfl ?_ | refine Sel.cons 11 rfl ?_ | refine Sel.cons 12 rfl ?_ | refine Sel.cons 13 rfl ?_); exact Sel.tail (by (repeat (first | exact List.Sublist.refl _ | exact List.nil_sublist _ | apply List.Sublist.cons_cons | apply List.Sublist.cons))))) : P := h
theorem qQ3 {P : Prop} (h : P := by ((first | refine Sel.cons 0 rfl ?_ | refine Sel.cons 1 rfl ?_ | refine Sel.cons 2 rfl ?_ | refine Sel.cons 3 rfl ?_ | refine Sel.cons 4 rfl ?_ | refine Sel.cons 5 rfl ?_ | refine Sel.cons 6 rfl ?_ | refine Sel.cons 7 rfl ?_ | refine Sel.cons 8 rfl ?_ | refine Sel.cons 9 rfl ?_ | refine Sel.cons 10 rfl ?_ | refine Sel.cons 11 rfl ?_ | refine Sel.cons 12 rfl ?_ | refine Sel.cons 13 rfl ?_); (first | refine Sel.cons 0 rfl ?_ | refine Sel.cons 1 rfl ?_ | refine Sel.cons 2 rfl ?_ | refine Sel.cons 3 rfl ?_ | refine Sel.cons 4 rfl ?_ | refine Sel.cons 5 rfl ?_ | refine Sel.cons 6 rfl ?_ | refine Sel.cons 7 rfl ?_ | refine Sel.cons 8 rfl ?_ | refine Sel.cons 9 rfl ?_ | refine Sel.cons 10 rfl ?_ | refine Sel.cons 11 rfl ?_ | refine Sel.cons 12 rfl ?_ | refine Sel.cons 13 rfl ?_); (first | refine Sel.cons 0 rfl ?_ | refine Sel.cons 1 rfl ?_ | refine Sel.cons 2 rfl ?_ | refine Sel.cons 3 rfl ?_ | refine Sel.cons 4 rfl ?_ | refine Sel.cons 5 rfl ?_ | refine Sel.cons 6 rfl ?_ | refine Sel.cons 7 rfl ?_ | refine Sel.cons 8 rfl ?_ | refine Sel.cons 9 rfl ?_ | refine Sel.cons 10 rfl ?_ | refine Sel.cons 11 rfl ?_ | refine Sel.cons 12 rfl ?_ | refine Sel.cons 13 rfl ?_); exact Sel.tail (by (repeat (first | exact List.Sublist.refl _ | exact List.nil_sublist _ | apply List.Sublist.cons_cons | apply List.Sublist.cons))))) : P := h
theorem qQ4 {P : Prop} (h : P := by ((first | refine Sel.cons 0 rfl ?_ | refine Sel.cons 1 rfl ?_ | refine Sel.cons 2 rfl ?_ | refine Sel.cons 3 rfl ?_ | refine Sel.cons 4 rfl ?_ | refine Sel.cons 5 rfl ?_ | refine Sel.cons 6 rfl ?_ | refine Sel.cons 7 rfl ?_ | refine Sel.cons 8 rfl ?_ | refine Sel.cons 9 rfl ?_ | refine Sel.cons 10 rfl ?_ | refine Sel.cons 11 rfl ?_ | refine Sel.cons 12 rfl ?_ | refine Sel.cons 13 rfl ?_); (first | refine Sel.cons 0 rfl ?_ | refine Sel.cons 1 rfl ?_ | refine Sel.cons 2 rfl ?_ | refine Sel.cons 3 rfl ?_ | refine Sel.cons 4 rfl ?_ | refine Sel.cons 5 rfl ?_ | refine Sel.cons 6 rfl ?_ | refine Sel.cons 7 rfl ?_ | refine Sel.cons 8 rfl ?_ | refine Sel.cons 9 rfl ?_ | refine Sel.cons 10 rfl ?_ | refine Sel.cons 11 rfl ?_ | refine Sel.cons 12 rfl ?_ | refine Sel.cons 13 rfl ?_); (first | refine Sel.cons 0 rfl ?_ | refine Sel.cons 1 rfl ?_ | refine Sel.cons 2 rfl ?_ | refine Sel.cons 3 rfl ?_ | refine Sel.cons 4 rfl ?_ | refine Sel.cons 5 rfl ?_ | refine Sel.cons 6 rfl ?_ | refine Sel.cons 7 rfl ?_ | refine Sel.cons 8 rfl ?_ | refine Sel.cons 9 rfl ?_ | refine Sel.cons 10 rfl ?_ | refine Sel.cons 11 rfl ?_ | refine Sel.cons 12 rfl ?_ | refine Sel.cons 13 rfl ?_); (first | refine Sel.cons 0 rfl ?_ | refine Sel.cons 1 rfl ?_ | refine Sel.cons 2 rfl ?_ | refine Sel.cons 3 rfl ?_ | refine Sel.cons 4 rfl ?_ | refine Sel.cons 5 rfl ?_ | refine Sel.cons 6 rfl ?_ | refine Sel.cons 7 rfl ?_ | refine Sel.cons 8 rfl ?_ | refine Sel.cons 9 rfl ?_ | refine Sel.cons 10 rfl ?_ | refine Sel.cons 11 rfl ?_ | refine Sel.cons 12 rfl ?_ | refine Sel.cons 13 rfl ?_); exact Sel.tail (by (repeat (first | exact List.Sublist.refl _ | exact List.nil_sublist _ | apply List.Sublist.cons_cons | apply List.Sublist.cons))))) : P := h
theorem qQ5 {P : Prop} (h : P := by ((first | refine Sel.cons 0 rfl ?_ | refine Sel.cons 1 rfl ?_ | refine Sel.cons 2 rfl ?_ | refine Sel.cons 3 rfl ?_ | refine Sel.cons 4 rfl ?_ | refine Sel.cons 5 rfl ?_ | refine Sel.cons 6 rfl ?_ | refine Sel.cons 7 rfl ?_ | refine Sel.cons 8 rfl ?_ | refine Sel.cons 9 rfl ?_ | refine Sel.cons 10 rfl ?_ | refine Sel.cons 11 rfl ?_ | refine Sel.cons 12 rfl ?_ | refine Sel.cons 13 rfl ?_); (first | refine Sel.cons 0 rfl ?_ | refine Sel.cons 1 rfl ?_ | refine Sel.cons 2 rfl ?_ | refine Sel.cons 3 rfl ?_ | refine Sel.cons 4 rfl ?_ | refine Sel.cons 5 rfl ?_ | refine Sel.cons 6 rfl ?_ | refine Sel.cons 7 rfl ?_ | refine Sel.cons 8 rfl ?_ | refine Sel.cons 9 rfl ?_ | refine Sel.cons 10 rfl ?_ | refine Sel.cons 11 rfl ?_ | refine Sel.cons 12 rfl ?_ | refine Sel.cons 13 rfl ?_); (first | refine Sel.cons 0 rfl ?_ | refine Sel.cons 1 rfl ?_ | refine Sel.cons 2 rfl ?_ | refine Sel.cons 3 rfl ?_ | refine Sel.cons 4 rfl ?_ | refine Sel.cons 5 rfl ?_ | refine Sel.cons 6 rfl ?_ | refine Sel.cons 7 rfl ?_ | refine Sel.cons 8 rfl ?_ | refine Sel.cons 9 rfl ?_ | refine Sel.cons 10 rfl ?_ | refine Sel.cons 11 rfl ?_ | refine Sel.cons 12 rfl ?_ | refine Sel.cons 13 rfl ?_); (first | refine Sel.cons 0 rfl ?_ | refine Sel.cons 1 rfl ?_ | refine Sel.cons 2 rfl ?_ | refine Sel.cons 3 rfl ?_ | refine Sel.cons 4 rfl ?_ | refine Sel.cons 5 rfl ?_ | refine Sel.cons 6 rfl ?_ | refine Sel.cons 7 rfl ?_ | refine Sel.cons 8 rfl ?_ | refine Sel.cons 9 rfl ?_ | refine Sel.cons 10 rfl ?_ | refine Sel.cons 11 rfl ?_ | refine Sel.cons 12 rfl ?_ | refine Sel.cons 13 rfl ?_); (first | refine Sel.cons 0 rfl ?_ | refine Sel.cons 1 rfl ?_ | refine Sel.cons 2 rfl ?_ | refine Sel.cons 3 rfl ?_ | refine Sel.cons 4 rfl ?_ | refine Sel.cons 5 rfl ?_ | refine Sel.cons 6 rfl ?_ | refine Sel.cons 7 rfl ?_ | refine Sel.cons 8 rfl ?_ | refine Sel.cons 9 rfl ?_ | refine Sel.cons 10 rfl ?_ | refine Sel.cons 11 rfl ?_ | refine Sel.cons 12 rfl ?_ | refine Sel.cons 13 rfl ?_); exact Sel.tail (by (repeat (first | exact List.Sublist.refl _ | exact List.nil_sublist _ | apply List.Sublist.cons_cons | apply List.Sublist.cons))))) : P := h
theorem qIn {L : List Ent} {q : Nat} {u : Value} {n : Nat} {xs : List Value} (h : ∃ k t, k ≠ q ∧ L[k]? = some (.row t 1 u n xs) := by first | exact ⟨0, _, by decide, atOf HL rfl⟩ | exact ⟨1, _, by decide, atOf HL rfl⟩ | exact ⟨2, _, by decide, atOf HL rfl⟩ | exact ⟨3, _, by decide, atOf HL rfl⟩ | exact ⟨4, _, by decide, atOf HL rfl⟩ | exact ⟨5, _, by decide, atOf HL rfl⟩ | exact ⟨6, _, by decide, atOf HL rfl⟩ | exact ⟨7, _, by decide, atOf HL rfl⟩ | exact ⟨8, _, by decide, atOf HL rfl⟩ | exact ⟨9, _, by decide, atOf HL rfl⟩ | exact ⟨10, _, by decide, atOf HL rfl⟩ | exact ⟨11, _, by decide, atOf HL rfl⟩ | exact ⟨12, _, by decide, atOf HL rfl⟩ | exact ⟨13, _, by decide, atOf HL rfl⟩ | exact ⟨14, _, by decide, atOf HL rfl⟩ | exact ⟨15, _, by decide, atOf HL rfl⟩ | exact ⟨16, _, by decide, atOf HL rfl⟩ | exact ⟨17, _, by decide, atOf HL rfl⟩ | exact ⟨18, _, by decide, atOf HL rfl⟩ | exact ⟨19, _, by decide, atOf HL rfl⟩ | exact ⟨20, _, by decide, atOf HL rfl⟩ | exact ⟨21, _, by decide, atOf HL rfl⟩ | exact ⟨22, _, by decide, atOf HL rfl⟩ | exact ⟨23, _, by decide, atOf HL rfl⟩ | exact ⟨24, _, by decide, atOf HL rfl⟩ | exact ⟨25, _, by decide, atOf HL rfl⟩ | exact ⟨26, _, by decide, atOf HL rfl⟩ | exact ⟨27, _, by decide, atOf HL rfl⟩ | exact ⟨28, _, by decide, atOf HL rfl⟩ | exact ⟨29, _, by decide, atOf HL rfl⟩) : ∃ k t, k ≠ q ∧ L[k]? = some (.row t 1 u n xs) := h
theorem qP0 {α : Type} (l : List α) (i : Nat) (a : α) : l.toArray.setIfInBounds i a = (l.set i a).toArray := by simp
theorem qP1 {α : Type} (x : α) (l : List α) (a : α) : (x :: l).set 0 a = a :: l := rfl
theorem qP2 {α : Type} (x : α) (l : List α) (i : Nat) (a : α) : (x :: l).set (i + 1) a = x :: l.set i a := rfl
theorem facts_via {w0 : World} {L N : List Ent} {Fa : World → Prop} (H : Hid (L = N)) (hF : ∀ w'', factsOf w'' N → Fa w'') : ∀ w'', St w0 w'' L → Fa w'' := fun w'' S => hF w'' (H.out ▸ S.facts)
theorem qst {P : Program} {w0 w : World} {L M0 : List Ent} {o : Oper} {a : Act} {ops : Array Oper} {rest : List Oper} {Q : Exit → Act → World → Prop} {N : List Ent} {Fa : World → Prop} (HL : Hid (L = M0)) (S : St w0 w L) (p : Nat) {ty : TypeId} {ad x : Operand} {g : Nat} {t : TypeId} {cs : List Value} {i : Nat} {vs : List Value}
    (h : ∀ w' L', Hid (L' = N) → St w0 w' L' → (∀ w'', St w0 w'' L' → Fa w'') → wpList P ops Q rest (a.put o.dst undef) w') (hp : M0[p]? = some (.box g t cs) := by exact rfl) (hgd : o.guard = none := by exact rfl) (ho : o.op = .store ty ad x := by exact rfl) (had : a.eval ad = .pointer (some ⟨g, i, none⟩) := by exact rfl) (hv : (a.eval x).cells.toList = vs := by exact rfl) (hsz : (P.info? ty).map (·.size) = some vs.length := by kernel_rfl)
    (hf : Nat.ble (i + vs.length) cs.length = true := by exact rfl) (h1 : vs.all (·.oneCell') = true := by exact rfl) (hN : M0.set p (.box g t (splice cs i vs)) = N := by ((try simp [Act.put, Act.eval, Value.cells, splice]); (try exact rfl))) (hF : ∀ w'', factsOf w'' N → Fa w'' := by (intro _ h; (try simp only [factsOf, cellsFrom, and_true, true_and, Nat.reduceAdd] at h); first | exact h | exact trivial)) : wpList P ops Q (o :: rest) a w :=
  wpList_store_box hgd S ty ad x ho p g t cs i (atOf HL hp) had vs hv hsz hf h1 fun w' M hM S' => h w' M (Lib.hid (hM.trans (HL.out ▸ hN))) S' (facts_via (Lib.hid (hM.trans (HL.out ▸ hN))) hF)
theorem qsw {P : Program} {w0 w : World} {L M0 : List Ent} {o : Oper} {a : Act} {K : Act → World → Prop} {Q : Exit → Act → World → Prop} {N : List Ent} {Fa : World → Prop} (HL : Hid (L = M0)) (S : St w0 w L) (p : Nat) {ty : TypeId} {ad x : Operand} {g : Nat} {t : TypeId} {cs : List Value} {i : Nat} {vs : List Value}
    (h : ∀ w' L', Hid (L' = N) → St w0 w' L' → (∀ w'', St w0 w'' L' → Fa w'') → K (a.put o.dst undef) w') (hp : M0[p]? = some (.box g t cs) := by exact rfl) (ho : o.op = .store ty ad x := by exact rfl) (had : a.eval ad = .pointer (some ⟨g, i, none⟩) := by exact rfl) (hv : (a.eval x).cells.toList = vs := by exact rfl) (hsz : (P.info? ty).map (·.size) = some vs.length := by kernel_rfl)
    (hf : Nat.ble (i + vs.length) cs.length = true := by exact rfl) (h1 : vs.all (·.oneCell') = true := by exact rfl) (hN : M0.set p (.box g t (splice cs i vs)) = N := by ((try simp [Act.put, Act.eval, Value.cells, splice]); (try exact rfl))) (hF : ∀ w'', factsOf w'' N → Fa w'' := by (intro _ h; (try simp only [factsOf, cellsFrom, and_true, true_and, Nat.reduceAdd] at h); first | exact h | exact trivial)) : o.wp P a w K Q :=
  wp_store_box S ty ad x ho p g t cs i (atOf HL hp) had vs hv hsz hf h1 fun w' M hM S' => h w' M (Lib.hid (hM.trans (HL.out ▸ hN))) S' (facts_via (Lib.hid (hM.trans (HL.out ▸ hN))) hF)
theorem qbx {P : Program} {w0 w : World} {L M0 : List Ent} {o : Oper} {a : Act} {ops : Array Oper} {rest : List Oper} {Q : Exit → Act → World → Prop} {N : Nat → List Ent} {Fa : Nat → World → Prop} (HL : Hid (L = M0)) (S : St w0 w L) {ty : TypeId} {x : Operand} (h : ∀ (g : Nat) w' L', Hid (L' = N g) → St w0 w' L' → (∀ w'', St w0 w'' L' → Fa g w'') → wpList P ops Q rest (a.put o.dst (.pointer (some ⟨g, 0, none⟩))) w') (hgd : o.guard = none := by exact rfl) (ho : o.op = .box ty x := by exact rfl) (hN : ∀ g, .box g ty (a.eval x).cells.toList :: M0 = N g := by (intro g; (try simp [Act.put, Act.eval, Value.cells, splice]); (try exact rfl))) (hF : ∀ g w'', factsOf w'' (N g) → Fa g w'' := by (intro _ _ h; (try simp only [factsOf, cellsFrom, and_true, true_and, Nat.reduceAdd] at h); first | exact h | exact trivial)) : wpList P ops Q (o :: rest) a w :=
  wpList_box hgd S ty x ho fun g w' M hM S' => h g w' M (Lib.hid (hM.trans (HL.out ▸ hN g))) S' (facts_via (Lib.hid (hM.trans (HL.out ▸ hN g))) (hF g))
theorem qbd {P : Program} {w0 w : World} {L M0 : List Ent} {o : Oper} {a : Act} {ops : Array Oper} {rest : List Oper} {Q : Exit → Act → World → Prop} {N : Nat → List Ent} {Fa : Nat → World → Prop} (n : Nat) (HL : Hid (L = M0)) (S : St w0 w L) {ty : TypeId} {x : Operand} (h : ∀ (g : Nat) w' L', Hid (L' = N g) → St w0 w' L' → (∀ w'', St w0 w'' L' → Fa g w'') → wpList P ops Q rest (a.put o.dst (.pointer (some ⟨g, 0, none⟩))) w') (hd : o.dst = some n := by exact rfl) (hgd : o.guard = none := by exact rfl) (ho : o.op = .box ty x := by exact rfl) (hN : ∀ g, .box g ty (a.eval x).cells.toList :: M0 = N g := by (intro g; (try simp [Act.put, Act.eval, Value.cells, splice]); (try exact rfl))) (hF : ∀ g w'', factsOf w'' (N g) → Fa g w'' := by (intro _ _ h; (try simp only [factsOf, cellsFrom, and_true, true_and, Nat.reduceAdd] at h); first | exact h | exact trivial)) : wpList P ops Q (o :: rest) a w :=
  wpList_box hgd S ty x ho fun g w' M hM S' => h g w' M (Lib.hid (hM.trans (HL.out ▸ hN g))) S' (facts_via (Lib.hid (hM.trans (HL.out ▸ hN g))) (hF g))
theorem qal {P : Program} {w0 w : World} {L M0 : List Ent} {o : Oper} {a : Act} {ops : Array Oper} {rest : List Oper} {Q : Exit → Act → World → Prop} {N : Nat → List Ent} {Fa : Nat → World → Prop} (HL : Hid (L = M0)) (S : St w0 w L) {ty : TypeId} {z : Value} (hz : (P.info? ty).bind (·.zero) = some z) (h : ∀ (g : Nat) w' L', Hid (L' = N g) → St w0 w' L' → (∀ w'', St w0 w'' L' → Fa g w'') → wpList P ops Q rest (a.put o.dst (.pointer (some ⟨g, 0, none⟩))) w') (hgd : o.guard = none := by exact rfl) (ho : o.op = .alloc ty := by exact rfl) (hN : ∀ g, .box g ty z.cells.toList :: M0 = N g := by (intro g; (try simp [Act.put, Act.eval, Value.cells, splice]); (try exact rfl))) (hF : ∀ g w'', factsOf w'' (N g) → Fa g w'' := by (intro _ _ h; (try simp only [factsOf, cellsFrom, and_true, true_and, Nat.reduceAdd] at h); first | exact h | exact trivial)) : wpList P ops Q (o :: rest) a w :=
  wpList_alloc hgd S ty z ho hz fun g w' M hM S' => h g w' M (Lib.hid (hM.trans (HL.out ▸ hN g))) S' (facts_via (Lib.hid (hM.trans (HL.out ▸ hN g))) (hF g))
theorem qaw {P : Program} {w0 w : World} {L M0 : List Ent} {o : Oper} {a : Act} {K : Act → World → Prop} {Q : Exit → Act → World → Prop} {N : Nat → List Ent} {Fa : Nat → World → Prop} (HL : Hid (L = M0)) (S : St w0 w L) {ty : TypeId} {z : Value} (hz : (P.info? ty).bind (·.zero) = some z) (h : ∀ (g : Nat) w' L', Hid (L' = N g) → St w0 w' L' → (∀ w'', St w0 w'' L' → Fa g w'') → K (a.put o.dst (.pointer (some ⟨g, 0, none⟩))) w') (ho : o.op = .alloc ty := by exact rfl) (hN : ∀ g, .box g ty z.cells.toList :: M0 = N g := by (intro g; (try simp [Act.put, Act.eval, Value.cells, splice]); (try exact rfl))) (hF : ∀ g w'', factsOf w'' (N g) → Fa g w'' := by (intro _ _ h; (try simp only [factsOf, cellsFrom, and_true, true_and, Nat.reduceAdd] at h); first | exact h | exact trivial)) : o.wp P a w K Q :=
  wp_alloc S ty z ho hz fun g w' M hM S' => h g w' M (Lib.hid (hM.trans (HL.out ▸ hN g))) S' (facts_via (Lib.hid (hM.trans (HL.out ▸ hN g))) (hF g))
theorem qcl {w0 w w' : World} {L M0 L' N : List Ent} {Fa : World → Prop} (HL : Hid (L = M0)) (S : St w0 w L) (T : St w w' L') (hN : L' ++ M0 = N := by ((try simp [Act.put, Act.eval, Value.cells, splice]); (try exact rfl))) (hF : ∀ w'', factsOf w'' N → Fa w'' := by (intro _ h; (try simp only [factsOf, cellsFrom, and_true, true_and, Nat.reduceAdd] at h); first | exact h | exact trivial)) : ∃ L2, Hid (L2 = N) ∧ St w0 w' L2 ∧ (∀ w'', St w0 w'' L2 → Fa w'') := by
  have h := HL.out
  subst h
  exact ⟨_, Lib.hid hN, S.call T, facts_via (Lib.hid hN) hF⟩
theorem qGr {P : Program} {f : Nat} {args : Array Value} {w0 w : World} {L : List Ent} {v : Ending} {Q : Ending → World → Prop} (S : St w0 w L) (h : Calls P f args w fun e w' => e = v ∧ Below w.heap.size w w') (k : ∀ w', St w0 w' L → Q v w') : Calls P f args w Q := h.mono fun e w' he => he.1 ▸ k w' (S.grow he.2)
theorem qPu {P : Program} {f : Nat} {args : Array Value} {w : World} {v : Ending} {Q : Ending → World → Prop} (h : Calls P f args w fun e w' => e = v ∧ w = w') (k : Q v w) : Calls P f args w Q := h.mono fun e w' he => he.1 ▸ he.2 ▸ k
theorem qSl {w0 w : World} {L M : List Ent} {size n : Nat} {t : TypeId} {v : Value} {xs : List Value} (HL : Hid (L = M)) (S : St w0 w L) (p : Nat) (h : M[p]? = some (.row t size v n xs) := by exact rfl) : ∃ A cap, v = .slice A n cap ∧ n ≤ cap ∧ cap ≤ maxLen := by
  obtain ⟨_, A, cap, e, h1, h2, _⟩ := Sees.row S (atOf HL h)
  exact ⟨A, cap, e, h1, h2⟩
end
end Go.Proofs.YtjgfjfjboimgdaaGreat
