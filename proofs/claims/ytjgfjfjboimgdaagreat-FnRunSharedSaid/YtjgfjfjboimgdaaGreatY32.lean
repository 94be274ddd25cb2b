/- Mem Row Ly LyS Sl Spr SnP RuF -/
import Derived.WalkKit
import Derived.WalkSpells
import Derived.WalkLawsBesides
import Derived.Deep.QuietTactic
import Derived.BigQuiet
import Derived.Deep.RegionHeld3
import Derived.Lib.Hide
import Derived.Deep.DeepCutAuto
import Derived.Test.YtjgfjfjboimgdaaGreatY22
namespace Go.Proofs.YtjgfjfjboimgdaaGreat
set_option linter.unusedSimpArgs false
set_option linter.unusedVariables false
set_option linter.unusedSectionVars false
open Go Go.RowKit
set_option maxHeartbeats 8000000
set_option maxRecDepth 20000
section
theorem qNr {L0 M0 L X M : List Ent} (_ : Hid (L0 = M0)) (hM : L = X) (e : X = M := by ((try rewrite [HL.out]); (try simp [Act.put, Act.eval, Value.cells]); (try rfl))) : Hid (L = M) := Lib.hid (hM.trans e)
end
section
set_option maxHeartbeats 1000000
section
variable {P : Program} {w0 w : World} {L : List Ent} {o : Oper} {a : Act} {K : Act → World → Prop} {Q : Exit → Act → World → Prop} {ops : Array Oper} {rest : List Oper}
theorem splice_length (xs vs : List Value) (j : Nat) (h : j + vs.length ≤ xs.length) : (splice xs j vs).length = xs.length := by
  unfold splice; simp; omega
theorem wp_store_rowS (S : St w0 w L) (ty : TypeId) (ad x : Operand) (ho : o.op = .store ty ad x) (p g n cap size : Nat) (t : TypeId) (xs : List Value) (j : Nat) (hp : At L p (.row t size (.slice (some ⟨g, 0, none⟩) n cap) n xs))
    (had : a.eval ad = .pointer (some ⟨g, j, none⟩)) (vs : List Value) (hv : (a.eval x).cells.toList = vs) (hsz : (P.info? ty).map (·.size) = some vs.length) (h1 : vs.all (·.oneCell') = true) (hj : j + vs.length ≤ n * size)
    (h : ∀ w' M, M = L.set p (.row t size (.slice (some ⟨g, 0, none⟩) n cap) n (splice xs j vs)) → St w0 w' M → K (a.put o.dst undef) w') : o.wp P a w K Q := by
  obtain ⟨ti, hti, hsz⟩ := Option.map_eq_some_iff.1 hsz
  have hown : w.ownsRow w0.heap.size t size (.slice (some ⟨g, 0, none⟩) n cap) n xs := S.own _ hp.mem
  have hxs := hown.1
  rcases hown.2 with ⟨h', _⟩ | ⟨g', cap', cur, h', hb, hg, hnc, hcm, hcs, htake⟩
  · simp at h'
  · simp only [Value.slice.injEq, Option.some.injEq, Addr.mk.injEq, and_true, true_and] at h'
    obtain ⟨rfl, rfl⟩ := h'
    have hle : n * size ≤ cap * size := Nat.mul_le_mul_right _ hnc
    have hrun := run_storeCells_at P g j t vs 0 cur w hg (by omega) (by simpa using h1)
    have hcs' : (a.eval x).cells.size = ti.size := by rw [hsz, ← hv]; simp
    have hown' : (w.setRow g (cur.toList.take (j + 0) ++ vs ++ cur.toList.drop (j + 0 + vs.length)).toArray).ownsRow w0.heap.size t size (.slice (some ⟨g, 0, none⟩) n cap) n (splice xs j vs) := by
      refine ⟨by rw [splice_length _ _ _ (by omega)]; exact hxs, .inr ⟨g, cap, _, rfl, hb, setRow_heap w g _ _ t _ hg, hnc, hcm, ?_, ?_⟩⟩
      · simp; omega
      · rw [← htake]
        unfold splice
        simp only [Nat.add_zero, List.append_assoc]
        rw [List.take_append, List.take_take, List.take_append]
        have e1 : min (n * size) j = j := by omega
        have e2 : (cur.toList.take j).length = j := by simp; omega
        rw [e1, e2, List.take_of_length_le (by omega : vs.length ≤ n * size - j), List.take_take, Nat.min_eq_left (by omega : j ≤ n * size), List.take_drop]
        congr 3
        rw [show j + vs.length + (n * size - j - vs.length) = n * size by omega]
    have S' : St w0 (w.setRow g (cur.toList.take (j + 0) ++ vs ++ cur.toList.drop (j + 0 + vs.length)).toArray) (L.set p (.row t size (.slice (some ⟨g, 0, none⟩) n cap) n (splice xs j vs))) :=
      S.turn hp ⟨rfl, rfl, rfl, by simp, fun k _ hk => setRow_other w g k _ (fun e => hk (by simp [Ent.blk, Value.ownBlock, e]))⟩ hown' (.inl rfl)
    exact wp_store_of ty ad x ho _ had _ (run_storeVar_of (P := P) (w := w) ty ⟨g, j, none⟩ (a.eval x) ti hti hcs' _ (by rw [hv]; exact hrun)) (h _ _ rfl S')
theorem wpList_store_rowS (hgd : o.guard = none) (S : St w0 w L) (ty : TypeId) (ad x : Operand) (ho : o.op = .store ty ad x) (p g n cap size : Nat) (t : TypeId) (xs : List Value) (j : Nat) (hp : At L p (.row t size (.slice (some ⟨g, 0, none⟩) n cap) n xs))
    (had : a.eval ad = .pointer (some ⟨g, j, none⟩)) (vs : List Value) (hv : (a.eval x).cells.toList = vs) (hsz : (P.info? ty).map (·.size) = some vs.length) (h1 : vs.all (·.oneCell') = true) (hj : j + vs.length ≤ n * size)
    (h : ∀ w' M, M = L.set p (.row t size (.slice (some ⟨g, 0, none⟩) n cap) n (splice xs j vs)) → St w0 w' M → wpList P ops Q rest (a.put o.dst undef) w') : wpList P ops Q (o :: rest) a w :=
  wpList_plain hgd fun _ hK => wp_store_rowS S ty ad x ho p g n cap size t xs j hp had vs hv hsz h1 hj fun w' M hM S' => hK _ _ (h w' M hM S')
end
end
section
theorem chunk_len {α : Type} (f : α → List Value) (s : Nat) (hs : ∀ x, (f x).length = s) : ∀ (l : List α), (l.flatMap f).length = l.length * s
  | [] => by simp
  | x :: l => by rw [List.flatMap_cons, List.length_append, chunk_len f s hs l, hs, List.length_cons, Nat.succ_mul]; omega
theorem splice_app (A B vs : List Value) (i : Nat) (hi : A.length = i) : splice (A ++ B) i vs = A ++ vs ++ B.drop vs.length := by
  subst hi
  unfold splice
  rw [List.take_left, List.drop_append, List.drop_of_length_le (by omega : A.length ≤ A.length + vs.length), List.nil_append, Nat.add_sub_cancel_left]
end
section
theorem drop_at {α : Type} {l : List α} {k : Nat} {x : α} (h : l[k]? = some x) : l.drop k = x :: l.drop (k + 1) := by
  obtain ⟨h1, h2⟩ := List.getElem?_eq_some_iff.1 h
  rw [List.drop_eq_getElem_cons h1, h2]
end
section
theorem sees_sms {w0 w : World} {L : List Ent} (S : St w0 w L) {u : Value} {ps : SMsO} (h : ∀ e ∈ entsSM u ps, e ∈ L) : SeesSMs w u (ps.map smO) := by
  obtain ⟨hl, A, cap, rfl, hc, hm, hA⟩ := Sees.own (S.own _ (h _ List.mem_cons_self))
  refine ⟨A, cap, by rw [List.length_map], by rw [List.length_map]; exact hc, hm, fun hn => ?_⟩
  rw [List.length_map] at hn
  obtain ⟨b, off, rfl, hb, h3⟩ := hA hn
  refine ⟨b, off, rfl, hb, fun q m hq => ?_⟩
  rw [List.getElem?_map] at hq
  obtain ⟨p, hp, rfl⟩ := Option.map_eq_some_iff.1 hq
  have e : ∀ j, j < 6 → (cellsSM ps)[q * 6 + j]? = (cellSM p)[j]? := fun j hj => by
    rw [cellsSM, chunk_get cellSM 6 (fun _ => rfl) ps q j hj, hp]; rfl
  have hr : ∀ e ∈ rowSM p, e ∈ L := fun e he => h _ (List.mem_cons_of_mem _ (List.mem_flatMap.2 ⟨p, List.mem_of_getElem? hp, he⟩))
  have hI := Sees.own (S.own _ (hr _ List.mem_cons_self))
  have hJ := Sees.own (S.own _ (hr _ (List.mem_cons_of_mem _ List.mem_cons_self)))
  refine ⟨p.1, p.2.1, ?_, ?_, ?_, ?_, ?_, ?_, hI, hJ⟩
  · have := h3 (q * 6) _ ((e 0 (by omega)).trans rfl)
    exact this
  · have := h3 (q * 6 + 1) _ ((e 1 (by omega)).trans rfl)
    rwa [← Nat.add_assoc] at this
  · have := h3 (q * 6 + 2) _ ((e 2 (by omega)).trans rfl)
    rwa [← Nat.add_assoc] at this
  · have := h3 (q * 6 + 3) _ ((e 3 (by omega)).trans rfl)
    rwa [← Nat.add_assoc] at this
  · have := h3 (q * 6 + 4) _ ((e 4 (by omega)).trans rfl)
    rwa [← Nat.add_assoc] at this
  · have := h3 (q * 6 + 5) _ ((e 5 (by omega)).trans rfl)
    rwa [← Nat.add_assoc] at this
end
section
def spreadV (ys : List Int) (D q : Nat) : Int := ys.getD (q / D) 0
end
section
def spreadMx (b : Mx) (D : Nat) : Mx := ⟨b.r, D, tab (b.r.toNat * D) (spreadV b.xs D)⟩
def denseS (w b x : SMx) (s : Int) : Scd := ⟨⟨sumMx (cutS w x s).m.a (spreadMx b.a x.a.c.toNat), sumMx (cutS w x s).m.b (spreadMx b.b x.a.c.toNat)⟩, (cutS w x s).os, (cutS w x s).last⟩
def stepS (l : SLy) (x : SMx) (s : Int) : Scd := match l.ws with
  | [] => mapS 2 x s
  | [w, b] => denseS w b x s
  | [a, b, c] => mixS a b c x s
  | _ => ⟨SMx.zero, [], 0⟩
end
section
theorem step_few (l : SLy) (x : SMx) (s : Int) : (stepS l x s).os.length ≤ 600 := by
  obtain ⟨k, ws⟩ := l
  match ws with
  | [] => exact Nat.le_trans (mapS_few 2 x s) (by decide)
  | [w, b] => exact Nat.le_trans (cutS_few w x s) (by decide)
  | [a, b, c] =>
    show (_ ++ _ ++ _ ++ _ ++ _ ++ _ ++ _ ++ _ ++ _ : List Int).length ≤ 600
    simp only [List.length_append]
    exact Nat.le_trans (Nat.add_le_add (Nat.add_le_add (Nat.add_le_add (Nat.add_le_add (Nat.add_le_add (Nat.add_le_add (Nat.add_le_add (Nat.add_le_add (cutS_few _ _ _) (cutS_few _ _ _)) (cutS_few _ _ _)) (cutS_few _ _ _)) (mapS_few _ _ _)) (mapS_few _ _ _)) (scaleS_few _ _ _)) (mapS_few _ _ _)) (cutS_few _ _ _)) (by decide)
  | [_] => exact Nat.zero_le _
  | _ :: _ :: _ :: _ :: _ => exact Nat.zero_le _
end
end Go.Proofs.YtjgfjfjboimgdaaGreat
