/- MtI Ldb MtJ Stp -/
import Derived.Deep.MidRow
import Derived.BigFrame
import Derived.Test.YtjgfjfjboimgdaaGreatY12
namespace Go.Proofs.YtjgfjfjboimgdaaGreat
set_option linter.unusedSimpArgs false
set_option linter.unusedVariables false
set_option linter.unusedSectionVars false
open Go Go.RowKit
set_option maxHeartbeats 8000000
set_option maxRecDepth 20000
section
theorem C_tri_product (R K D : Nat) (xs ys us vs XA XB : List Int) (u v p q c1 c2 c3 c4 c5 c6 : Value) (w0 : World) (hu : Ints w0 u xs) (hv : Ints w0 v ys) (hp : Ints w0 p us) (hq : Ints w0 q vs)
    (r1 : 1 ≤ R) (r2 : R ≤ 5) (k1 : 1 ≤ K) (k2 : K ≤ 5) (d1 : 1 ≤ D) (d2 : D ≤ 5)
    (hA : sumMx ⟨R, K, xs⟩ ⟨R, K, ys⟩ = ⟨R, K, XA⟩) (hB : sumMx ⟨K, D, us⟩ ⟨K, D, vs⟩ = ⟨K, D, XB⟩) (lA : XA.length = R * K) (lB : XB.length = K * D) (aA : XA.all rv = true) (aB : XB.all rv = true) :
    Calls Tryz.prog 172 #[.agg #[.int .i64 R, .int .i64 K, u, .int .i64 R, .int .i64 K, v, .int .i64 K, .int .i64 D, p, .int .i64 K, .int .i64 D, q, c1, c2, c3, c4, c5, c6]] w0 (MakesMx w0 R D (tab (R * D) (mulAt XA XB K D))) := by
  have CA := fun w h h' => C_impl_JoinL R K xs R K ys u v _ w h h' hA
  have CB := fun w h h' => C_impl_JoinL K D us K D vs p q _ w h h' hB
  have CM := fun u v w h h' => C_impl_Mul R K D XA XB u v w h h' r1 r2 k1 k2 d1 d2 lA lB aA aB
  unfold MakesMx at CA CB CM ⊢
  rw [tab_length] at CM
  rw [tab_length]
  dsimp only at CA CB
  generalize tab (R * D) (mulAt XA XB K D) = zs at CM ⊢
  obtain ⟨NA, hNA⟩ : ∃ N, XA.length = N := ⟨_, rfl⟩
  obtain ⟨NB, hNB⟩ : ∃ N, XB.length = N := ⟨_, rfl⟩
  obtain ⟨NC, hNC⟩ : ∃ N, R * D = N := ⟨_, rfl⟩
  have HNA := Lib.hid hNA
  have HNB := Lib.hid hNB
  rw [hNA] at CA
  rw [hNB] at CB
  rw [hNC] at CM ⊢
  have HU := Lib.hid hu
  have HV := Lib.hid hv
  have HP := Lib.hid hp
  have HQ := Lib.hid hq
  obtain ⟨_, A1, k1', rfl, hk1, hm1, _⟩ := hu
  obtain ⟨_, A2, k2', rfl, hk2, hm2, _⟩ := hv
  obtain ⟨_, A3, k3', rfl, hk3, hm3, _⟩ := hp
  obtain ⟨_, A4, k4', rfl, hk4, hm4, _⟩ := hq
  clear hA hB lA lB aA aB hNA hNB hNC
  obtain ⟨L, HL, S⟩ := st_start w0; have F : True := trivial
  go_enter Tryz.func172, Tryz.ntmps172
  go_upto_region 1 with (first | (refine qbd 1 HL S ?_; clear F S HL; intro gt w L HL S F) | (refine qal HL S zMx ?_; clear F S HL; intro gr w L HL S F))
  have HL0 := HL; have F0 := F; refine wp_region_tree (S := fun w' => St w0 w' L) (.calm 0 (.calm 1 (.calm 3 (.calm 4 (.act 2 (.act 5 (.act 6 (.act 7 .fin .stop) .stop) .stop) .stop))))) (by kernel_rfl) (by kernel_rfl) (by kernel_rfl) (by intro c a d v w h; cases d <;> exact h) ?_; replace S := S.drew
  repeat' (first | refine qCa ?_ | refine qAn ?_ | refine qSk ?_ | exact tree_stop | (refine tree_act rfl rfl ?_ ?_) | (intro K hK; (refine qsw HL S 3 ?_; clear F S HL; intro w L HL S F); (refine qKo hK ?_; clear hK K)) | (intro K hK; go_wp2_with (first | (go_at_call 27; refine (CA _ (HU.out.at_ S) (HV.out.at_ S)).mono ?_; rintro e w ⟨u, rfl, T0⟩; have hX := qcl HL S T0; clear F S HL T0; obtain ⟨L, HL, S, F⟩ := hX; obtain ⟨A', cap', rfl, hcap', hmax'⟩ := qSl HL S 0) | (go_at_call 27; refine (CB _ (HP.out.at_ S) (HQ.out.at_ S)).mono ?_; rintro e w ⟨u, rfl, T0⟩; have hX := qcl HL S T0; clear F S HL T0; obtain ⟨L, HL, S, F⟩ := hX; obtain ⟨A', cap', rfl, hcap', hmax'⟩ := qSl HL S 0) | (go_at_call 175; refine (CM _ _ _ (by unfold Ints; rw [HNA.out]; exact (Sees.row S qAt)) (by unfold Ints; rw [HNB.out]; exact (Sees.row S qAt))).mono ?_; rintro e w ⟨u, rfl, T0⟩; have hX := qcl HL S T0; clear F S HL T0; obtain ⟨L, HL, S, F⟩ := hX; obtain ⟨A', cap', rfl, hcap', hmax'⟩ := qSl HL S 0)); (refine qKo hK ?_; clear hK K)))
  all_goals
    refine tree_fin ?_
    clear HL0 F0
    go_wp2
    ((try simp only [Exit.inBlock, Exit.then]); refine ret1 rfl (resCell S HL 3 rfl rfl (by kernel_rfl)) rfl ?_)
    exact ⟨_, rfl, (by rw [HL.out] at S; exact S.sub (by repeat (first | exact .refl _ | exact List.nil_sublist _ | apply List.Sublist.cons_cons | apply List.Sublist.cons)))⟩
end
section
section
variable {P : Program} {w0 w : World} {a : Act} {L : List Ent} {o : Oper} {ops : Array Oper} {rest : List Oper} {K : Act → World → Prop} {Q : Exit → Act → World → Prop}
theorem structAt_parts {ty n : Nat} (h : structAt P ty n = true) : ∃ fs, P.underlying ty = some (.struct fs) ∧ (P.info? ty).map (·.size) = some n := by
  unfold structAt at h
  split at h
  · rename_i fs i hu hi
    exact ⟨fs, hu, by rw [hi]; simpa using h⟩
  · cases h
theorem St.range {g : Nat} {t : TypeId} {cs : List Value} {p : Nat} (S : St w0 w L) (h : At L p (.box g t cs)) (i n : Nat) : w.rangeAt g i ((cs.drop i).take n) := fun j v hv => by
  rw [S.cell h]
  rw [List.getElem?_take] at hv
  split at hv
  · rw [List.getElem?_drop] at hv; exact hv
  · cases hv
theorem wpList_load_box (hw : Region.wanted o (yielded ops a.tmps) = true) (S : St w0 w L) (ty : TypeId) (x : Operand) (ho : o.op = .load ty x) (p g : Nat) (t : TypeId) (cs : List Value) (i n : Nat) (hp : At L p (.box g t cs))
    (hx : a.eval x = .pointer (some ⟨g, i, none⟩)) (vs : List Value) (hn : vs.length = n) (hk : structAt P ty n = true) (hvs : (cs.drop i).take n = vs)
    (h : wpList P ops Q rest (a.put o.dst (.agg vs.toArray)) w) : wpList P ops Q (o :: rest) a w := by
  obtain ⟨fs, hu, hi⟩ := structAt_parts hk
  subst hn
  exact BigFrame.wpList_want hw fun _ hK => wp_load_mid ty x ho g i hx vs _ (hvs ▸ S.range hp i vs.length) hu rfl hi (hK _ _ h)
theorem tree_load_box {j : Nat} {ro : List Oper} {T : Tree} (S : St w0 w L) (ho : ops.toList.drop j = o :: ro) (hl : lateOp ops j = false) (hw : Region.wanted o (yielded ops a.tmps) = true)
    (ty : TypeId) (x : Operand) (hop : o.op = .load ty x) (p g : Nat) (t : TypeId) (cs : List Value) (i n : Nat) (hp : At L p (.box g t cs))
    (hx : a.eval x = .pointer (some ⟨g, i, none⟩)) (vs : List Value) (hn : vs.length = n) (hk : structAt P ty n = true) (hvs : (cs.drop i).take n = vs)
    (h : wpTree P ops Q (fun w' => St w0 w' L) T (a.put o.dst (.agg vs.toArray)) w) : wpTree P ops Q (fun w' => St w0 w' L) (.calm j T) a w := by
  obtain ⟨fs, hu, hi⟩ := structAt_parts hk
  subst hn
  refine tree_calm S ho hl hw (fun w' S' => ?_) h
  unfold execOp
  simp only [hop, hx, Instr.loadAt, Instr.sureAddr, Sem.run_bind, Sem.run_pure, Result.andThen_ok, run_loadVar_mid w' g i ty vs _ (hvs ▸ St.range S' hp i vs.length) hu rfl hi]
theorem St.toObj {p g : Nat} {t : TypeId} {cs : List Value} (S : St w0 w L) (h : At L p (.box g t cs)) : St w0 w (L.set p (.obj g (.cells cs.toArray t (0, 0)))) :=
  S.turn h ⟨rfl, rfl, rfl, Nat.le_refl _, fun _ _ _ => rfl⟩ (show Ent.holds w0.heap.size w (.obj g (.cells cs.toArray t (0, 0))) from S.own (.box g t cs) h.mem) (.inl rfl)
theorem St.toBox {p g : Nat} {t : TypeId} {cs : List Value} (S : St w0 w L) (h : At L p (.obj g (.cells cs.toArray t (0, 0)))) : St w0 w (L.set p (.box g t cs)) :=
  S.turn h ⟨rfl, rfl, rfl, Nat.le_refl _, fun _ _ _ => rfl⟩ (show Ent.holds w0.heap.size w (.box g t cs) from S.own (.obj g (.cells cs.toArray t (0, 0))) h.mem) (.inl rfl)
theorem St.rangeO {g : Nat} {t : TypeId} {cs : List Value} {p : Nat} (S : St w0 w L) (h : At L p (.obj g (.cells cs.toArray t (0, 0)))) (i n : Nat) : w.rangeAt g i ((cs.drop i).take n) := by
  have T := S.toBox h
  exact T.range (p := p) (t := t) (cs := cs) (show (L.set p _)[p]? = _ from List.getElem?_set_self (List.getElem?_eq_some_iff.1 h.get).1) i n
theorem wpList_load_obj (hw : Region.wanted o (yielded ops a.tmps) = true) (S : St w0 w L) (ty : TypeId) (x : Operand) (ho : o.op = .load ty x) (p g : Nat) (t : TypeId) (cs : List Value) (i n : Nat) (hp : At L p (.obj g (.cells cs.toArray t (0, 0))))
    (hx : a.eval x = .pointer (some ⟨g, i, none⟩)) (vs : List Value) (hn : vs.length = n) (hk : structAt P ty n = true) (hvs : (cs.drop i).take n = vs)
    (h : wpList P ops Q rest (a.put o.dst (.agg vs.toArray)) w) : wpList P ops Q (o :: rest) a w := by
  obtain ⟨fs, hu, hi⟩ := structAt_parts hk
  subst hn
  exact BigFrame.wpList_want hw fun _ hK => wp_load_mid ty x ho g i hx vs _ (hvs ▸ S.rangeO hp i vs.length) hu rfl hi (hK _ _ h)
theorem tree_load_obj {j : Nat} {ro : List Oper} {T : Tree} (S : St w0 w L) (ho : ops.toList.drop j = o :: ro) (hl : lateOp ops j = false) (hw : Region.wanted o (yielded ops a.tmps) = true)
    (ty : TypeId) (x : Operand) (hop : o.op = .load ty x) (p g : Nat) (t : TypeId) (cs : List Value) (i n : Nat) (hp : At L p (.obj g (.cells cs.toArray t (0, 0))))
    (hx : a.eval x = .pointer (some ⟨g, i, none⟩)) (vs : List Value) (hn : vs.length = n) (hk : structAt P ty n = true) (hvs : (cs.drop i).take n = vs)
    (h : wpTree P ops Q (fun w' => St w0 w' L) T (a.put o.dst (.agg vs.toArray)) w) : wpTree P ops Q (fun w' => St w0 w' L) (.calm j T) a w := by
  obtain ⟨fs, hu, hi⟩ := structAt_parts hk
  subst hn
  refine tree_calm S ho hl hw (fun w' S' => ?_) h
  unfold execOp
  simp only [hop, hx, Instr.loadAt, Instr.sureAddr, Sem.run_bind, Sem.run_pure, Result.andThen_ok, run_loadVar_mid w' g i ty vs _ (hvs ▸ St.rangeO S' hp i vs.length) hu rfl hi]
theorem wp_load_int (S : St w0 w L) (ty : TypeId) (x : Operand) (ho : o.op = .load ty x) (hty : P.underlying ty = some (.int .i64)) (p g : Nat) (t : TypeId) (cs : List Value) (i : Nat) (hp : At L p (.box g t cs))
    (hx : a.eval x = .pointer (some ⟨g, i, none⟩)) (v : Int) (hv : cs[i]? = some (.int .i64 v)) (h : K (a.put o.dst (.int .i64 v)) w) : o.wp P a w K Q := by
  have hc := (S.cell hp i).trans hv
  unfold Oper.wp
  simp only [execOp, ho, hx]
  simp [Instr.loadAt, Instr.sureAddr, loadVar, isAgg, Sem.run_bind, run_underlying hty, hc]
  exact h
theorem qLo3 (S : St w0 w L) {c0 c1 c2 : Value} {ty : TypeId} {x : Operand} {p g : Nat} {t : TypeId} {cs : List Value} {i : Nat} (h : wpList P ops Q rest (a.put o.dst (.agg ([c0, c1, c2] : List Value).toArray)) w) (hw : Region.wanted o (yielded ops a.tmps) = true := by exact rfl) (ho : o.op = .load ty x := by exact rfl) (hx : a.eval x = .pointer (some ⟨g, i, none⟩) := by exact rfl) (hp : At L p (.obj g (.cells cs.toArray t (0, 0))) := by exact qAt)
    (hk : structAt P ty 3 = true := by decide +kernel) (hvs : (cs.drop i).take 3 = [c0, c1, c2] := by exact rfl) : wpList P ops Q (o :: rest) a w := wpList_load_obj hw S ty x ho p g t cs i 3 hp hx [c0, c1, c2] rfl hk hvs h
theorem qTb3 {j : Nat} {ro : List Oper} {T : Tree} {a' : Act} {c0 c1 c2 : Value} {ty : TypeId} {x : Operand} {p g : Nat} {t : TypeId} {cs : List Value} {i : Nat} (k : wpTree P ops Q (fun w' => St w0 w' L) T a' w) (hS : St w0 w L := by (first | exact S | (refine S.sub (subL HL0 HL ?_); (repeat (first | exact List.Sublist.refl _ | apply List.Sublist.cons)); done))) (ho : ops.toList.drop j = o :: ro := by exact rfl) (hl : lateOp ops j = false := by decide +kernel) (hw : Region.wanted o (yielded ops a.tmps) = true := by exact rfl) (hop : o.op = .load ty x := by exact rfl) (hx : a.eval x = .pointer (some ⟨g, i, none⟩) := by exact rfl) (hp : At L p (.box g t cs) := by exact qAt0)
    (hk : structAt P ty 3 = true := by decide +kernel) (hvs : (cs.drop i).take 3 = [c0, c1, c2] := by exact rfl) (ha : a.put o.dst (.agg ([c0, c1, c2] : List Value).toArray) = a' := by ((try simp only [Act.put, qP0, qP1, qP2]); exact rfl)) : wpTree P ops Q (fun w' => St w0 w' L) (.calm j T) a w := tree_load_box hS ho hl hw ty x hop p g t cs i 3 hp hx [c0, c1, c2] rfl hk hvs (ha ▸ k)
theorem qTo3 {j : Nat} {ro : List Oper} {T : Tree} {a' : Act} {c0 c1 c2 : Value} {ty : TypeId} {x : Operand} {p g : Nat} {t : TypeId} {cs : List Value} {i : Nat} (k : wpTree P ops Q (fun w' => St w0 w' L) T a' w) (hS : St w0 w L := by (first | exact S | (refine S.sub (subL HL0 HL ?_); (repeat (first | exact List.Sublist.refl _ | apply List.Sublist.cons)); done))) (ho : ops.toList.drop j = o :: ro := by exact rfl) (hl : lateOp ops j = false := by decide +kernel) (hw : Region.wanted o (yielded ops a.tmps) = true := by exact rfl) (hop : o.op = .load ty x := by exact rfl) (hx : a.eval x = .pointer (some ⟨g, i, none⟩) := by exact rfl) (hp : At L p (.obj g (.cells cs.toArray t (0, 0))) := by exact qAt0)
    (hk : structAt P ty 3 = true := by decide +kernel) (hvs : (cs.drop i).take 3 = [c0, c1, c2] := by exact rfl) (ha : a.put o.dst (.agg ([c0, c1, c2] : List Value).toArray) = a' := by ((try simp only [Act.put, qP0, qP1, qP2]); exact rfl)) : wpTree P ops Q (fun w' => St w0 w' L) (.calm j T) a w := tree_load_obj hS ho hl hw ty x hop p g t cs i 3 hp hx [c0, c1, c2] rfl hk hvs (ha ▸ k)
theorem qLb6 (S : St w0 w L) {c0 c1 c2 c3 c4 c5 : Value} {ty : TypeId} {x : Operand} {p g : Nat} {t : TypeId} {cs : List Value} {i : Nat} (h : wpList P ops Q rest (a.put o.dst (.agg ([c0, c1, c2, c3, c4, c5] : List Value).toArray)) w) (hw : Region.wanted o (yielded ops a.tmps) = true := by exact rfl) (ho : o.op = .load ty x := by exact rfl) (hx : a.eval x = .pointer (some ⟨g, i, none⟩) := by exact rfl) (hp : At L p (.box g t cs) := by exact qAt)
    (hk : structAt P ty 6 = true := by decide +kernel) (hvs : (cs.drop i).take 6 = [c0, c1, c2, c3, c4, c5] := by exact rfl) : wpList P ops Q (o :: rest) a w := wpList_load_box hw S ty x ho p g t cs i 6 hp hx [c0, c1, c2, c3, c4, c5] rfl hk hvs h
theorem qLo6 (S : St w0 w L) {c0 c1 c2 c3 c4 c5 : Value} {ty : TypeId} {x : Operand} {p g : Nat} {t : TypeId} {cs : List Value} {i : Nat} (h : wpList P ops Q rest (a.put o.dst (.agg ([c0, c1, c2, c3, c4, c5] : List Value).toArray)) w) (hw : Region.wanted o (yielded ops a.tmps) = true := by exact rfl) (ho : o.op = .load ty x := by exact rfl) (hx : a.eval x = .pointer (some ⟨g, i, none⟩) := by exact rfl) (hp : At L p (.obj g (.cells cs.toArray t (0, 0))) := by exact qAt)
    (hk : structAt P ty 6 = true := by decide +kernel) (hvs : (cs.drop i).take 6 = [c0, c1, c2, c3, c4, c5] := by exact rfl) : wpList P ops Q (o :: rest) a w := wpList_load_obj hw S ty x ho p g t cs i 6 hp hx [c0, c1, c2, c3, c4, c5] rfl hk hvs h
theorem qTb6 {j : Nat} {ro : List Oper} {T : Tree} {a' : Act} {c0 c1 c2 c3 c4 c5 : Value} {ty : TypeId} {x : Operand} {p g : Nat} {t : TypeId} {cs : List Value} {i : Nat} (k : wpTree P ops Q (fun w' => St w0 w' L) T a' w) (hS : St w0 w L := by (first | exact S | (refine S.sub (subL HL0 HL ?_); (repeat (first | exact List.Sublist.refl _ | apply List.Sublist.cons)); done))) (ho : ops.toList.drop j = o :: ro := by exact rfl) (hl : lateOp ops j = false := by decide +kernel) (hw : Region.wanted o (yielded ops a.tmps) = true := by exact rfl) (hop : o.op = .load ty x := by exact rfl) (hx : a.eval x = .pointer (some ⟨g, i, none⟩) := by exact rfl) (hp : At L p (.box g t cs) := by exact qAt0)
    (hk : structAt P ty 6 = true := by decide +kernel) (hvs : (cs.drop i).take 6 = [c0, c1, c2, c3, c4, c5] := by exact rfl) (ha : a.put o.dst (.agg ([c0, c1, c2, c3, c4, c5] : List Value).toArray) = a' := by ((try simp only [Act.put, qP0, qP1, qP2]); exact rfl)) : wpTree P ops Q (fun w' => St w0 w' L) (.calm j T) a w := tree_load_box hS ho hl hw ty x hop p g t cs i 6 hp hx [c0, c1, c2, c3, c4, c5] rfl hk hvs (ha ▸ k)
theorem qTo6 {j : Nat} {ro : List Oper} {T : Tree} {a' : Act} {c0 c1 c2 c3 c4 c5 : Value} {ty : TypeId} {x : Operand} {p g : Nat} {t : TypeId} {cs : List Value} {i : Nat} (k : wpTree P ops Q (fun w' => St w0 w' L) T a' w) (hS : St w0 w L := by (first | exact S | (refine S.sub (subL HL0 HL ?_); (repeat (first | exact List.Sublist.refl _ | apply List.Sublist.cons)); done))) (ho : ops.toList.drop j = o :: ro := by exact rfl) (hl : lateOp ops j = false := by decide +kernel) (hw : Region.wanted o (yielded ops a.tmps) = true := by exact rfl) (hop : o.op = .load ty x := by exact rfl) (hx : a.eval x = .pointer (some ⟨g, i, none⟩) := by exact rfl) (hp : At L p (.obj g (.cells cs.toArray t (0, 0))) := by exact qAt0)
    (hk : structAt P ty 6 = true := by decide +kernel) (hvs : (cs.drop i).take 6 = [c0, c1, c2, c3, c4, c5] := by exact rfl) (ha : a.put o.dst (.agg ([c0, c1, c2, c3, c4, c5] : List Value).toArray) = a' := by ((try simp only [Act.put, qP0, qP1, qP2]); exact rfl)) : wpTree P ops Q (fun w' => St w0 w' L) (.calm j T) a w := tree_load_obj hS ho hl hw ty x hop p g t cs i 6 hp hx [c0, c1, c2, c3, c4, c5] rfl hk hvs (ha ▸ k)
theorem qTb6X {j : Nat} {ro : List Oper} {T : Tree} {a' : Act} {c0 c1 c2 c3 c4 c5 : Value} {ty : TypeId} {x : Operand} {p g : Nat} {t : TypeId} {cs : List Value} {i : Nat} (k : wpTree P ops Q (fun w' => St w0 w' L) T a' w) (hS : St w0 w L := by (first | exact S | (refine S.sub (subL HL0 HL ?_); (repeat (first | exact List.Sublist.refl _ | exact List.nil_sublist _ | exact List.sublist_append_left _ _ | apply List.Sublist.cons_cons | apply List.Sublist.cons)); done))) (ho : ops.toList.drop j = o :: ro := by exact rfl) (hl : lateOp ops j = false := by decide +kernel) (hw : Region.wanted o (yielded ops a.tmps) = true := by exact rfl) (hop : o.op = .load ty x := by exact rfl) (hx : a.eval x = .pointer (some ⟨g, i, none⟩) := by exact rfl) (hp : At L p (.box g t cs) := by exact qAt0)
    (hk : structAt P ty 6 = true := by decide +kernel) (hvs : (cs.drop i).take 6 = [c0, c1, c2, c3, c4, c5] := by exact rfl) (ha : a.put o.dst (.agg ([c0, c1, c2, c3, c4, c5] : List Value).toArray) = a' := by ((try simp only [Act.put, qP0, qP1, qP2]); exact rfl)) : wpTree P ops Q (fun w' => St w0 w' L) (.calm j T) a w := tree_load_box hS ho hl hw ty x hop p g t cs i 6 hp hx [c0, c1, c2, c3, c4, c5] rfl hk hvs (ha ▸ k)
theorem qLb18 (S : St w0 w L) {c0 c1 c2 c3 c4 c5 c6 c7 c8 c9 c10 c11 c12 c13 c14 c15 c16 c17 : Value} {ty : TypeId} {x : Operand} {p g : Nat} {t : TypeId} {cs : List Value} {i : Nat} (h : wpList P ops Q rest (a.put o.dst (.agg ([c0, c1, c2, c3, c4, c5, c6, c7, c8, c9, c10, c11, c12, c13, c14, c15, c16, c17] : List Value).toArray)) w) (hw : Region.wanted o (yielded ops a.tmps) = true := by exact rfl) (ho : o.op = .load ty x := by exact rfl) (hx : a.eval x = .pointer (some ⟨g, i, none⟩) := by exact rfl) (hp : At L p (.box g t cs) := by exact qAt)
    (hk : structAt P ty 18 = true := by decide +kernel) (hvs : (cs.drop i).take 18 = [c0, c1, c2, c3, c4, c5, c6, c7, c8, c9, c10, c11, c12, c13, c14, c15, c16, c17] := by exact rfl) : wpList P ops Q (o :: rest) a w := wpList_load_box hw S ty x ho p g t cs i 18 hp hx [c0, c1, c2, c3, c4, c5, c6, c7, c8, c9, c10, c11, c12, c13, c14, c15, c16, c17] rfl hk hvs h
theorem qLo18 (S : St w0 w L) {c0 c1 c2 c3 c4 c5 c6 c7 c8 c9 c10 c11 c12 c13 c14 c15 c16 c17 : Value} {ty : TypeId} {x : Operand} {p g : Nat} {t : TypeId} {cs : List Value} {i : Nat} (h : wpList P ops Q rest (a.put o.dst (.agg ([c0, c1, c2, c3, c4, c5, c6, c7, c8, c9, c10, c11, c12, c13, c14, c15, c16, c17] : List Value).toArray)) w) (hw : Region.wanted o (yielded ops a.tmps) = true := by exact rfl) (ho : o.op = .load ty x := by exact rfl) (hx : a.eval x = .pointer (some ⟨g, i, none⟩) := by exact rfl) (hp : At L p (.obj g (.cells cs.toArray t (0, 0))) := by exact qAt)
    (hk : structAt P ty 18 = true := by decide +kernel) (hvs : (cs.drop i).take 18 = [c0, c1, c2, c3, c4, c5, c6, c7, c8, c9, c10, c11, c12, c13, c14, c15, c16, c17] := by exact rfl) : wpList P ops Q (o :: rest) a w := wpList_load_obj hw S ty x ho p g t cs i 18 hp hx [c0, c1, c2, c3, c4, c5, c6, c7, c8, c9, c10, c11, c12, c13, c14, c15, c16, c17] rfl hk hvs h
theorem qTb18 {j : Nat} {ro : List Oper} {T : Tree} {a' : Act} {c0 c1 c2 c3 c4 c5 c6 c7 c8 c9 c10 c11 c12 c13 c14 c15 c16 c17 : Value} {ty : TypeId} {x : Operand} {p g : Nat} {t : TypeId} {cs : List Value} {i : Nat} (k : wpTree P ops Q (fun w' => St w0 w' L) T a' w) (hS : St w0 w L := by (first | exact S | (refine S.sub (subL HL0 HL ?_); (repeat (first | exact List.Sublist.refl _ | apply List.Sublist.cons)); done))) (ho : ops.toList.drop j = o :: ro := by exact rfl) (hl : lateOp ops j = false := by decide +kernel) (hw : Region.wanted o (yielded ops a.tmps) = true := by exact rfl) (hop : o.op = .load ty x := by exact rfl) (hx : a.eval x = .pointer (some ⟨g, i, none⟩) := by exact rfl) (hp : At L p (.box g t cs) := by exact qAt0)
    (hk : structAt P ty 18 = true := by decide +kernel) (hvs : (cs.drop i).take 18 = [c0, c1, c2, c3, c4, c5, c6, c7, c8, c9, c10, c11, c12, c13, c14, c15, c16, c17] := by exact rfl) (ha : a.put o.dst (.agg ([c0, c1, c2, c3, c4, c5, c6, c7, c8, c9, c10, c11, c12, c13, c14, c15, c16, c17] : List Value).toArray) = a' := by ((try simp only [Act.put, qP0, qP1, qP2]); exact rfl)) : wpTree P ops Q (fun w' => St w0 w' L) (.calm j T) a w := tree_load_box hS ho hl hw ty x hop p g t cs i 18 hp hx [c0, c1, c2, c3, c4, c5, c6, c7, c8, c9, c10, c11, c12, c13, c14, c15, c16, c17] rfl hk hvs (ha ▸ k)
end
end
section
theorem like_of {R C : Nat} {xs ys : List Int} (r1 : 1 ≤ R) (r2 : R ≤ 5) (c1 : 1 ≤ C) (c2 : C ≤ 5) (h1 : xs.length = R * C) (h2 : ys.length = R * C) (a1 : xs.all rv = true) (a2 : ys.all rv = true) : likeMx ⟨R, C, xs⟩ ⟨R, C, ys⟩ = true := by
  simp only [likeMx, Bool.and_eq_true, decide_eq_true_eq]
  exact ⟨⟨⟨Mx.ok_of r1 r2 c1 c2 (by rw [h1]) a1, Mx.ok_of r1 r2 c1 c2 (by rw [h2]) a2⟩, trivial⟩, trivial⟩
theorem side_le {R C : Nat} (r2 : R ≤ 5) (c2 : C ≤ 5) : R * C ≤ 25 := Nat.mul_le_mul r2 c2
theorem zMTri : (Tryz.prog.info? 164).bind (·.zero) = some (.agg #[.int .i64 0, .int .i64 0, .slice none 0 0, .int .i64 0, .int .i64 0, .slice none 0 0, .int .i64 0, .int .i64 0, .slice none 0 0, .int .i64 0, .int .i64 0, .slice none 0 0, .int .i64 0, .int .i64 0, .slice none 0 0, .int .i64 0, .int .i64 0, .slice none 0 0]) := by kernel_rfl
def MakesMT (w0 : World) (R K D : Nat) (a1 a2 b1 b2 c1 c2 : List Int) (s : Int) (e : Ending) (w : World) : Prop :=
  ∃ u1 u2 u3 u4 u5 u6, e = .returned (.tuple #[.agg #[.int .i64 R, .int .i64 K, u1, .int .i64 R, .int .i64 K, u2, .int .i64 K, .int .i64 D, u3, .int .i64 K, .int .i64 D, u4, .int .i64 R, .int .i64 D, u5, .int .i64 R, .int .i64 D, u6], .int .i64 s]) ∧
    St w0 w [.row 3 1 u6 (R * D) (ints c2), .row 3 1 u5 (R * D) (ints c1), .row 3 1 u4 (K * D) (ints b2), .row 3 1 u3 (K * D) (ints b1), .row 3 1 u2 (R * K) (ints a2), .row 3 1 u1 (R * K) (ints a1)]
theorem C_impl_MakeMT (z : Prd) (w0 : World) (hs : seedOk z.s = true) (r1 : 1 ≤ z.R) (r2 : z.R ≤ 5) (k1 : 1 ≤ z.K) (k2 : z.K ≤ 5) (d1 : 1 ≤ z.D) (d2 : z.D ≤ 5) :
    Calls Tryz.prog 141 #[.int .i64 z.R, .int .i64 z.K, .int .i64 z.D, .int .i64 z.s] w0 (MakesMT w0 z.R z.K z.D z.a1 z.a2 z.b1 z.b2 z.c1 z.c2 z.s5) := by
  obtain ⟨h1, h2, h3, h4, h5⟩ := Prd.seeds hs
  have la1 : z.a1.length = z.R * z.K := rndTo_length _ _
  have la2 : z.a2.length = z.R * z.K := rndTo_length _ _
  have lb1 : z.b1.length = z.K * z.D := rndTo_length _ _
  have lb2 : z.b2.length = z.K * z.D := rndTo_length _ _
  have lc1 : z.c1.length = z.R * z.D := rndTo_length _ _
  have lP : z.P.length = z.R * z.D := tab_length _ _
  have aa1 : z.a1.all rv = true := rndTo_all _ _
  have aa2 : z.a2.all rv = true := rndTo_all _ _
  have ab1 : z.b1.all rv = true := rndTo_all _ _
  have ab2 : z.b2.all rv = true := rndTo_all _ _
  have ac1 : z.c1.all rv = true := rndTo_all _ _
  have aP : z.P.all rv = true := mul_all
  have hA : sumMx ⟨z.R, z.K, z.a1⟩ ⟨z.R, z.K, z.a2⟩ = ⟨z.R, z.K, z.A⟩ := by rw [sumMx_ok (like_of r1 r2 k1 k2 la1 la2 aa1 aa2)]; show Mx.mk _ _ (tab z.a1.length _) = _; rw [la1]; rfl
  have hB : sumMx ⟨z.K, z.D, z.b1⟩ ⟨z.K, z.D, z.b2⟩ = ⟨z.K, z.D, z.B⟩ := by rw [sumMx_ok (like_of k1 k2 d1 d2 lb1 lb2 ab1 ab2)]; show Mx.mk _ _ (tab z.b1.length _) = _; rw [lb1]; rfl
  have C1 := fun w => C_impl_RandomMatrix z.R z.K _ z.s w hs r1 r2 k1 k2 rfl (side_le r2 k2)
  have C2 := fun w => C_impl_RandomMatrix z.R z.K _ z.s1 w h1 r1 r2 k1 k2 rfl (side_le r2 k2)
  have C3 := fun w => C_impl_RandomMatrix z.K z.D _ z.s2 w h2 k1 k2 d1 d2 rfl (side_le k2 d2)
  have C4 := fun w => C_impl_RandomMatrix z.K z.D _ z.s3 w h3 k1 k2 d1 d2 rfl (side_le k2 d2)
  have C5 := fun w => C_impl_RandomMatrix z.R z.D _ z.s4 w h4 r1 r2 d1 d2 rfl (side_le r2 d2)
  have CP := fun u v p q c1 c2 c3 c4 c5 c6 w hu hv hp hq => C_tri_product z.R z.K z.D z.a1 z.a2 z.b1 z.b2 z.A z.B u v p q c1 c2 c3 c4 c5 c6 w hu hv hp hq r1 r2 k1 k2 d1 d2 hA hB (tab_length _ _) (tab_length _ _) (sums_all aa1 aa2) (sums_all ab1 ab2)
  have CS := fun u v w h h' => C_impl_SubL z.R z.D _ z.P z.c1 u v w h h' r1 r2 d1 d2 rfl lP lc1 (side_le r2 d2) aP ac1
  have CV := fun w => C_seedValid z.s w
  rw [hs] at CV
  rw [show tab (z.R * z.D) (mulAt z.A z.B z.K z.D) = z.P from rfl] at CP
  rw [show tab (z.R * z.D) (subV z.P z.c1) = z.c2 from rfl] at CS
  rw [show seedAt z.s (z.R * z.K) = z.s1 from rfl, show rndTo z.s (z.R * z.K) = z.a1 from rfl] at C1
  rw [show seedAt z.s1 (z.R * z.K) = z.s2 from rfl, show rndTo z.s1 (z.R * z.K) = z.a2 from rfl] at C2
  rw [show seedAt z.s2 (z.K * z.D) = z.s3 from rfl, show rndTo z.s2 (z.K * z.D) = z.b1 from rfl] at C3
  rw [show seedAt z.s3 (z.K * z.D) = z.s4 from rfl, show rndTo z.s3 (z.K * z.D) = z.b2 from rfl] at C4
  rw [show seedAt z.s4 (z.R * z.D) = z.s5 from rfl, show rndTo z.s4 (z.R * z.D) = z.c1 from rfl] at C5
  have lc2 : z.c2.length = z.R * z.D := tab_length _ _
  have HR := Lib.hid (show sideOk (z.R : Int) = true from sideOk_iff.2 ⟨by omega, by omega⟩)
  have HK := Lib.hid (show sideOk (z.K : Int) = true from sideOk_iff.2 ⟨by omega, by omega⟩)
  have HD := Lib.hid (show sideOk (z.D : Int) = true from sideOk_iff.2 ⟨by omega, by omega⟩)
  unfold MakesMx at CP CS
  rw [lP] at CP
  rw [lc2] at CS
  unfold MakesMT
  have LA1 := Lib.hid la1
  have LA2 := Lib.hid la2
  have LB1 := Lib.hid lb1
  have LB2 := Lib.hid lb2
  have LC1 := Lib.hid lc1
  have LP := Lib.hid lP
  clear hs h1 h2 h3 h4 h5 la1 la2 lb1 lb2 lc1 lP lc2 aa1 aa2 ab1 ab2 ac1 aP hA hB r1 r2 k1 k2 d1 d2
  generalize z.R * z.K = NA at *
  generalize z.K * z.D = NB at *
  generalize z.R * z.D = NC at *
  generalize z.c2 = yc2 at *
  generalize z.c1 = yc1 at *
  generalize z.b2 = yb2 at *
  generalize z.b1 = yb1 at *
  generalize z.a2 = ya2 at *
  generalize z.a1 = ya1 at *
  generalize z.P = yP at *
  generalize z.s5 = s5 at *
  generalize z.s4 = s4 at *
  generalize z.s3 = s3 at *
  generalize z.s2 = s2 at *
  generalize z.s1 = s1 at *
  generalize z.s = s0 at *
  generalize z.R = R at *
  generalize z.K = K at *
  generalize z.D = D at *
  obtain ⟨L, HL, S⟩ := st_start w0; have F : True := trivial
  go_enter Tryz.func141, Tryz.ntmps141
  go_upto_region 1 with (first | (refine qal HL S zMTri ?_; clear F S HL; intro gr w L HL S F))
  go_upto_region 3 with (first | (go_at_call 112; refine qPu (C_sideValid' _ _ _ (by first | exact HR.out | exact HK.out | exact HD.out)) ?_) | (go_at_call 52; refine qPu (CV _) ?_))
  go_upto_region 5 with (first | (refine qal HL S zMTri ?_; clear F S HL; intro g10 w L HL S F) | (refine qst HL S 1 ?_; clear F S HL; intro w L HL S F) | (go_at_call 170; refine (C1 _).mono ?_; rintro e w ⟨u, rfl, T0⟩; have hX := qcl HL S T0; clear F S HL T0; obtain ⟨L, HL, S, F⟩ := hX; obtain ⟨A', cap', rfl, hcap', hmax'⟩ := qSl HL S 0))
  go_upto_region 6 with (first | (refine qst HL S 2 ?_; clear F S HL; intro w L HL S F) | (go_at_call 170; refine (C2 _).mono ?_; rintro e w ⟨u, rfl, T0⟩; have hX := qcl HL S T0; clear F S HL T0; obtain ⟨L, HL, S, F⟩ := hX; obtain ⟨A', cap', rfl, hcap', hmax'⟩ := qSl HL S 0))
  go_upto_region 7 with (first | (refine qst HL S 3 ?_; clear F S HL; intro w L HL S F) | (go_at_call 170; refine (C3 _).mono ?_; rintro e w ⟨u, rfl, T0⟩; have hX := qcl HL S T0; clear F S HL T0; obtain ⟨L, HL, S, F⟩ := hX; obtain ⟨A', cap', rfl, hcap', hmax'⟩ := qSl HL S 0))
  go_upto_region 8 with (first | (refine qst HL S 4 ?_; clear F S HL; intro w L HL S F) | (go_at_call 170; refine (C4 _).mono ?_; rintro e w ⟨u, rfl, T0⟩; have hX := qcl HL S T0; clear F S HL T0; obtain ⟨L, HL, S, F⟩ := hX; obtain ⟨A', cap', rfl, hcap', hmax'⟩ := qSl HL S 0))
  go_upto_region 9 with (first | (refine qst HL S 5 ?_; clear F S HL; intro w L HL S F) | (go_at_call 170; refine (C5 _).mono ?_; rintro e w ⟨u, rfl, T0⟩; have hX := qcl HL S T0; clear F S HL T0; obtain ⟨L, HL, S, F⟩ := hX; obtain ⟨A', cap', rfl, hcap', hmax'⟩ := qSl HL S 0))
  clear C1 C2 C3 C4 C5 CV
  have HL0 := HL; have F0 := F; refine wp_region_tree (S := fun w' => St w0 w' L) (.calm 0 (qcs 2 3 (.act 1 (.act 5 (.calm 6 (.calm 7 (.act 8 .fin .stop))) .stop) .stop))) (by kernel_rfl) (by kernel_rfl) (by kernel_rfl) (by intro c a d v w h; cases d <;> exact h) ?_; dsimp only [qcs, Nat.reduceAdd]; replace S := S.drew
  repeat' (first | refine qTb18 ?_ | refine qTb3 ?_ | refine qCa ?_ | refine qAn ?_ | refine qSk ?_ | exact tree_stop | (refine tree_act rfl rfl ?_ ?_) | (intro K hK; (refine qsw HL S 7 ?_; clear F S HL; intro w L HL S F); (refine qKo hK ?_; clear hK K)) | (intro K hK; go_wp2_with (first | (go_at_call 172; refine (CP _ _ _ _ _ _ _ _ _ _ _ (by unfold Ints; rw [LA1.out]; exact (Sees.row S qAt)) (by unfold Ints; rw [LA2.out]; exact (Sees.row S qAt)) (by unfold Ints; rw [LB1.out]; exact (Sees.row S qAt)) (by unfold Ints; rw [LB2.out]; exact (Sees.row S qAt))).mono ?_; rintro e w ⟨u, rfl, T0⟩; have hX := qcl HL S T0; clear F S HL T0; obtain ⟨L, HL, S, F⟩ := hX; obtain ⟨A', cap', rfl, hcap', hmax'⟩ := qSl HL S 0) | (go_at_call 171; refine (CS _ _ _ (by unfold Ints; rw [LP.out]; exact (Sees.row S qAt)) (by unfold Ints; rw [LC1.out]; exact (Sees.row S qAt))).mono ?_; rintro e w ⟨u, rfl, T0⟩; have hX := qcl HL S T0; clear F S HL T0; obtain ⟨L, HL, S, F⟩ := hX; obtain ⟨A', cap', rfl, hcap', hmax'⟩ := qSl HL S 0)); (refine qKo hK ?_; clear hK K)))
  all_goals
    refine tree_fin ?_
    clear HL0 F0
    go_wp2_with (first | refine qLb18 S ?_ | (refine qst HL S 8 ?_; clear F S HL; intro w L HL S F))
    refine ret2 rfl (resCell S HL 8 rfl rfl (by kernel_rfl)) (show _ = _ from rfl) rfl ?_
    exact ⟨_, _, _, _, _, _, rfl, (by rw [HL.out] at S; exact S.sub (by repeat (first | exact .refl _ | exact List.nil_sublist _ | apply List.Sublist.cons_cons | apply List.Sublist.cons)))⟩
end
section
inductive Sel : List Ent → List Ent → Prop where
  | nil {L : List Ent} : Sel L []
  | tail {L M : List Ent} (h : M.Sublist L) : Sel L M
  | cons {L M : List Ent} {e : Ent} (p : Nat) (h : L[p]? = some e) (t : Sel (L.eraseIdx p) M) : Sel L (e :: M)
theorem Sel.sub {L M : List Ent} (h : Sel L M) : ∃ K : List Ent, K.Sublist L ∧ K.Perm M := by
  induction h with
  | nil => exact ⟨[], List.nil_sublist _, .refl _⟩
  | tail h => exact ⟨_, h, .refl _⟩
  | @cons L M e p h _ ih =>
    obtain ⟨K, h1, h2⟩ := ih
    obtain ⟨hp, rfl⟩ := List.getElem?_eq_some_iff.1 h
    have hL : L = L.take p ++ L[p] :: L.drop (p + 1) := by
      rw [List.getElem_cons_drop, List.take_append_drop]
    have hE : L.eraseIdx p = L.take p ++ L.drop (p + 1) := List.eraseIdx_eq_take_drop_succ ..
    rw [hE] at h1
    obtain ⟨A, B, rfl, hA, hB⟩ := List.sublist_append_iff.1 h1
    refine ⟨A ++ L[p] :: B, ?_, List.perm_middle.trans (h2.cons _)⟩
    have h3 : (A ++ L[p] :: B).Sublist (L.take p ++ L[p] :: L.drop (p + 1)) := hA.append (hB.cons_cons _)
    rwa [← hL] at h3
theorem St.sel {w0 w : World} {L M : List Ent} (S : St w0 w L) (h : Sel L M) : St w0 w M := by
  obtain ⟨K, h1, h2⟩ := h.sub
  exact (S.sub h1).perm h2
end
end Go.Proofs.YtjgfjfjboimgdaaGreat
