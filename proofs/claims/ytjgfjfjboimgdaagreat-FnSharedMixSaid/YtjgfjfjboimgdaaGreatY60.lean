/- PmP PmI DrRs -/
import Derived.Test.YtjgfjfjboimgdaaGreatY37
import Derived.Test.YtjgfjfjboimgdaaGreatY50
import Derived.Test.YtjgfjfjboimgdaaGreatY54
namespace Go.Proofs.YtjgfjfjboimgdaaGreat
set_option linter.unusedSimpArgs false
set_option linter.unusedVariables false
set_option linter.unusedSectionVars false
open Go Go.RowKit
set_option maxHeartbeats 8000000
set_option maxRecDepth 20000
section
theorem plainMix_bad {l : Ly} {x : Mx} (h : l.ok = false) : plainMix l x = Mx.zero := by
  unfold plainMix
  split
  · rw [h]; rfl
  · rfl
theorem plainMix_x {l : Ly} {x : Mx} (h : x.ok = false) : plainMix l x = Mx.zero := by
  unfold plainMix
  split
  · rw [h, Bool.and_false]; rfl
  · rfl
end
section
theorem C_impl_PlainMix (l : Ly) (x t : Mx) (v u : Value) (w0 : World) (h : SeesMs w0 v l.ws) (hx : Ints w0 u x.xs) (ht : plainMix l x = t) :
    Calls Tryz.prog 29 #[.agg #[.int .i64 l.kind, v], .agg #[.int .i64 (x).r, .int .i64 (x).c, u]] w0 (MakesMx w0 t.r t.c t.xs) := by
  unfold MakesMx
  have H := Lib.hid h
  have HX := Lib.hid hx
  obtain ⟨A, cap, rfl, hcap, hmax, hA⟩ := h
  obtain ⟨_, A2, cap2, rfl, hcap2, hmax2, _⟩ := hx
  obtain ⟨r, c, xs⟩ := x
  dsimp only at HX hcap2 ⊢
  cases hok : l.ok with
  | false =>
    obtain rfl : t = Mx.zero := ht ▸ plainMix_bad hok
    have HO := Lib.hid hok
    clear ht hA hok
    obtain ⟨L, HL, S⟩ := st_start w0; have F : True := trivial
    go_enter Tryz.func29, Tryz.ntmps29
    go_upto_region 2 with (first | (refine qbx HL S ?_; clear F S HL; intro g w L HL S F) | (refine qal HL S zMx ?_; clear F S HL; intro g w L HL S F) | (go_at_call 69; refine (C_layerOf _ l false w0 _ S.below H.out HO.out).mono ?_; rintro e w ⟨x, rfl, hx0, hb⟩; clear hx0; replace S := S.grow hb; clear hb))
    have HL0 := HL; have F0 := F; refine wp_region_tree (S := fun w' => St w0 w' L) (qcs 0 9 (.act 9 (qcs 10 12 .fin) .stop)) (by kernel_rfl) (by kernel_rfl) (by kernel_rfl) (by intro c a d v w h; cases d <;> exact h) ?_; dsimp only [qcs, Nat.reduceAdd]; replace S := S.drew
    repeat (first | refine qCa ?_ | refine qAn ?_ | refine qSk ?_ | refine qAs ?_ | (refine tree_act rfl rfl ?_ tree_stop; intro K hK; go_wp2_with (first | fail); (refine qKo hK ?_; clear hK K)))
    refine tree_fin ?_
    clear HL0 F0
    go_wp2_with (first | (refine qst HL S 0 ?_; clear F S HL; intro w L HL S F))
    ((try simp only [Exit.inBlock, Exit.then]); refine ret1 rfl (resCell S HL 0 rfl rfl (by kernel_rfl)) rfl ?_)
    exact ⟨_, rfl, S.nilMx _⟩
  | true =>
    have HO := Lib.hid hok
    cases Ly.ok_case hok with
    | dense wm d hd =>
      obtain rfl : t = Mx.zero := ht ▸ rfl
      clear ht hA hok hd
      obtain ⟨L, HL, S⟩ := st_start w0; have F : True := trivial
      go_enter Tryz.func29, Tryz.ntmps29
      go_upto_region 2 with (first | (refine qbx HL S ?_; clear F S HL; intro g w L HL S F) | (refine qal HL S zMx ?_; clear F S HL; intro g w L HL S F) | (go_at_call 69; refine (C_layerOf _ ⟨1, [wm, d]⟩ true w0 _ S.below H.out HO.out).mono ?_; rintro e w ⟨x, rfl, hx0, hb⟩; clear hx0; replace S := S.grow hb; clear hb))
      have HL0 := HL; have F0 := F; refine wp_region_tree (S := fun w' => St w0 w' L) (qcs 0 9 (.act 9 (qcs 10 12 .fin) .stop)) (by kernel_rfl) (by kernel_rfl) (by kernel_rfl) (by intro c a d v w h; cases d <;> exact h) ?_; dsimp only [qcs, Nat.reduceAdd]; replace S := S.drew
      repeat (first | refine qCa ?_ | refine qAn ?_ | refine qSk ?_ | refine qAs ?_ | (refine tree_act rfl rfl ?_ tree_stop; intro K hK; go_wp2_with (first | fail); (refine qKo hK ?_; clear hK K)))
      refine tree_fin ?_
      clear HL0 F0
      go_wp2_with (first | (refine qst HL S 0 ?_; clear F S HL; intro w L HL S F))
      ((try simp only [Exit.inBlock, Exit.then]); refine ret1 rfl (resCell S HL 0 rfl rfl (by kernel_rfl)) rfl ?_)
      exact ⟨_, rfl, S.nilMx _⟩
    | ramp =>
      obtain rfl : t = Mx.zero := ht ▸ rfl
      clear ht hA hok
      obtain ⟨L, HL, S⟩ := st_start w0; have F : True := trivial
      go_enter Tryz.func29, Tryz.ntmps29
      go_upto_region 2 with (first | (refine qbx HL S ?_; clear F S HL; intro g w L HL S F) | (refine qal HL S zMx ?_; clear F S HL; intro g w L HL S F) | (go_at_call 69; refine (C_layerOf _ ⟨2, []⟩ true w0 _ S.below H.out HO.out).mono ?_; rintro e w ⟨x, rfl, hx0, hb⟩; clear hx0; replace S := S.grow hb; clear hb))
      have HL0 := HL; have F0 := F; refine wp_region_tree (S := fun w' => St w0 w' L) (qcs 0 9 (.act 9 (qcs 10 12 .fin) .stop)) (by kernel_rfl) (by kernel_rfl) (by kernel_rfl) (by intro c a d v w h; cases d <;> exact h) ?_; dsimp only [qcs, Nat.reduceAdd]; replace S := S.drew
      repeat (first | refine qCa ?_ | refine qAn ?_ | refine qSk ?_ | refine qAs ?_ | (refine tree_act rfl rfl ?_ tree_stop; intro K hK; go_wp2_with (first | fail); (refine qKo hK ?_; clear hK K)))
      refine tree_fin ?_
      clear HL0 F0
      go_wp2_with (first | (refine qst HL S 0 ?_; clear F S HL; intro w L HL S F))
      ((try simp only [Exit.inBlock, Exit.then]); refine ret1 rfl (resCell S HL 0 rfl rfl (by kernel_rfl)) rfl ?_)
      exact ⟨_, rfl, S.nilMx _⟩
    | mix m0 m1 m2 hd =>
      cases hv : (Mx.mk r c xs).ok with
      | false =>
        obtain rfl : t = Mx.zero := ht ▸ plainMix_x hv
        have HV := Lib.hid hv
        clear ht hA hok hd hv
        obtain ⟨L, HL, S⟩ := st_start w0; have F : True := trivial
        go_enter Tryz.func29, Tryz.ntmps29
        go_upto_region 2 with (first | (refine qbx HL S ?_; clear F S HL; intro g w L HL S F) | (refine qal HL S zMx ?_; clear F S HL; intro g w L HL S F) | (go_at_call 69; refine (C_layerOf _ ⟨3, [m0, m1, m2]⟩ true w0 _ S.below H.out HO.out).mono ?_; rintro e w ⟨x, rfl, hx0, hb⟩; clear hx0; replace S := S.grow hb; clear hb))
        have HL0 := HL; have F0 := F; refine wp_region_tree (S := fun w' => St w0 w' L) (qcs 0 9 (.act 9 (qcs 10 12 .fin) .stop)) (by kernel_rfl) (by kernel_rfl) (by kernel_rfl) (by intro c a d v w h; cases d <;> exact h) ?_; dsimp only [qcs, Nat.reduceAdd]; replace S := S.drew
        repeat (first | refine qCa ?_ | refine qAn ?_ | refine qSk ?_ | refine qAs ?_ | (refine tree_act rfl rfl ?_ tree_stop; intro K hK; go_wp2_with (first | (go_at_call 70; refine qGr S (C_impl_MatrixValid _ _ _ _ _ _ (by exact HX.out.at_ S) (by exact HV.out)) ?_; clear S; intro w S)); (refine qKo hK ?_; clear hK K)))
        refine tree_fin ?_
        clear HL0 F0
        go_wp2_with (first | (refine qst HL S 0 ?_; clear F S HL; intro w L HL S F))
        ((try simp only [Exit.inBlock, Exit.then]); refine ret1 rfl (resCell S HL 0 rfl rfl (by kernel_rfl)) rfl ?_)
        exact ⟨_, rfl, S.nilMx _⟩
      | true =>
        obtain ⟨Y, xa, xb, xc, y1, y2, rfl, rfl, rfl, la, lb, lc, aa, ab, ac⟩ := mix_parts hd
        obtain ⟨X, Z, N, e0, x1, x2, z1, z2, hXZ, hN, hN2, hall⟩ := Mx.ok_nat hv
        obtain ⟨rfl, rfl⟩ : r = X ∧ c = Z := by injection e0 with e1 e2 _; exact ⟨e1, e2⟩
        have HV := Lib.hid hv
        obtain ⟨bl, off, cap', _, _, _, e', _, _, hbl, ⟨_, q1, _, _⟩, _, _⟩ := H.out.three
        simp only [Value.slice.injEq] at e'
        obtain ⟨rfl, _, rfl⟩ := e'
        dsimp only at q1 hN hall
        simp only [List.length_cons, List.length_nil, Nat.zero_add, Nat.reduceAdd] at hcap H ⊢
        clear hA e0
        by_cases hc : Z = Y
        · subst hc
          have ht' : mixRun ⟨Z, Z, xa⟩ ⟨Z, Z, xb⟩ ⟨Z, Z, xc⟩ ⟨X, Z, xs⟩ = t := by
            rw [← ht]
            unfold plainMix
            dsimp only
            rw [hok, hv]
            simp
          rw [mixRun_eq x1 x2 z1 z2 (hN.trans hXZ.symm) hall] at ht'
          subst ht'
          dsimp only
          have CR := fun u v w hbw h hx => C_mixRun X Z xa xb xc xs _ u v w0 w hbw h hx x1 x2 z1 z2 la lb lc (hN.trans hXZ.symm) aa ab ac hall rfl
          unfold MakesMx at CR
          clear ht hok hd hv la lb lc aa ab ac hXZ hN hall
          generalize mixL xa xb xc xs X Z = zs at CR ⊢
          obtain ⟨L, HL, S⟩ := st_start w0; have F : True := trivial
          go_enter Tryz.func29, Tryz.ntmps29
          go_upto_region 2 with (first | (refine qbx HL S ?_; clear F S HL; intro g w L HL S F) | (refine qal HL S zMx ?_; clear F S HL; intro gr w L HL S F) | (go_at_call 69; refine (C_layerOf _ ⟨3, [⟨Z, Z, xa⟩, ⟨Z, Z, xb⟩, ⟨Z, Z, xc⟩]⟩ true w0 _ S.below H.out HO.out).mono ?_; rintro e w ⟨x, rfl, hx0, hb⟩; obtain ⟨u, rfl, hu⟩ := hx0 rfl; clear hx0; replace S := S.grow hb; clear hb))
          have HU := Lib.hid hu
          obtain ⟨Au, cu, rfl, _, _, _⟩ := hu
          have f0 := fun w' (S' : St w0 w' L) => (S'.below.cell (p := ⟨bl, off + 1, none⟩) hbl).trans q1
          have HL0 := HL; have F0 := F; refine wp_region_tree (S := fun w' => St w0 w' L) (qcs 0 9 (.act 9 (qcs 10 12 .fin) .stop)) (by kernel_rfl) (by kernel_rfl) (by kernel_rfl) (by intro c a d v w h; cases d <;> exact h) ?_; dsimp only [qcs, Nat.reduceAdd]; replace S := S.drew
          repeat (first | refine qCa ?_ | refine qAn ?_ | refine qSk ?_ | refine qAs ?_ | (refine tree_act rfl rfl ?_ tree_stop; intro K hK; go_wp2_with (first | (go_at_call 70; refine qGr S (C_impl_MatrixValid _ _ _ _ _ _ (by exact HX.out.at_ S) (by exact HV.out)) ?_; clear S; intro w S)); (refine qKo hK ?_; clear hK K)))
          refine tree_fin ?_
          clear HL0 F0 f0
          simp only [List.length_cons, List.length_nil, Nat.zero_add, Nat.reduceAdd] at HU
          have hm := m_runMix Au 3 cu
          go_wp2_with (first | (refine qst HL S 0 ?_; clear F S HL; intro w L HL S F) | (refine qst HL S 1 ?_; clear F S HL; intro w L HL S F) | (go_at_call 228; refine (CR _ _ _ S.below HU.out (HX.out.at_ S)).mono ?_; rintro e w ⟨u, rfl, T0⟩; have hX := qcl HL S T0; clear F S HL T0; obtain ⟨L, HL, S, F⟩ := hX; obtain ⟨A', cap', rfl, hcap', hmax'⟩ := qSl HL S 0))
          ((try simp only [Exit.inBlock, Exit.then]); refine ret1 rfl (resCell S HL 1 rfl rfl (by kernel_rfl)) rfl ?_)
          exact ⟨_, rfl, (by rw [HL.out] at S; exact S.sub (by repeat (first | exact .refl _ | exact List.nil_sublist _ | apply List.Sublist.cons_cons | apply List.Sublist.cons)))⟩
        · have hne : ((Z : Int) == (Y : Int)) = false := by rw [beq_eq_false_iff_ne]; omega
          have hne' : ¬ ((Z : Int) = (Y : Int)) := by omega
          obtain rfl : t = Mx.zero := by
            rw [← ht]
            unfold plainMix
            dsimp only
            rw [decide_eq_false hne', Bool.and_false]
            rfl
          clear ht hok hd hv la lb lc aa ab ac hXZ hN hall
          obtain ⟨L, HL, S⟩ := st_start w0; have F : True := trivial
          go_enter Tryz.func29, Tryz.ntmps29
          go_upto_region 2 with (first | (refine qbx HL S ?_; clear F S HL; intro g w L HL S F) | (refine qal HL S zMx ?_; clear F S HL; intro g w L HL S F) | (go_at_call 69; refine (C_layerOf _ ⟨3, [⟨Y, Y, xa⟩, ⟨Y, Y, xb⟩, ⟨Y, Y, xc⟩]⟩ true w0 _ S.below H.out HO.out).mono ?_; rintro e w ⟨x, rfl, hx0, hb⟩; clear hx0; replace S := S.grow hb; clear hb))
          have f0 := fun w' (S' : St w0 w' L) => (S'.below.cell (p := ⟨bl, off + 1, none⟩) hbl).trans q1
          have HL0 := HL; have F0 := F; refine wp_region_tree (S := fun w' => St w0 w' L) (qcs 0 9 (.act 9 (qcs 10 12 .fin) .stop)) (by kernel_rfl) (by kernel_rfl) (by kernel_rfl) (by intro c a d v w h; cases d <;> exact h) ?_; dsimp only [qcs, Nat.reduceAdd]; replace S := S.drew
          repeat (first | refine qCa ?_ | refine qAn ?_ | refine qSk ?_ | refine qAs ?_ | (refine tree_act rfl rfl ?_ tree_stop; intro K hK; go_wp2_with (first | (go_at_call 70; refine qGr S (C_impl_MatrixValid _ _ _ _ _ _ (by exact HX.out.at_ S) (by exact HV.out)) ?_; clear S; intro w S)); (refine qKo hK ?_; clear hK K)))
          refine tree_fin ?_
          clear HL0 F0 f0
          go_wp2_with (first | (refine qst HL S 0 ?_; clear F S HL; intro w L HL S F))
          ((try simp only [Exit.inBlock, Exit.then]); refine ret1 rfl (resCell S HL 0 rfl rfl (by kernel_rfl)) rfl ?_)
          exact ⟨_, rfl, S.nilMx _⟩
end
section
theorem fill666 (C : Array Value) (hC : C.size = 18) (a b c d e f a' b' c' d' e' f' a2 b2 c2 d2 e2 f2 : Value) : Instr.fill (fun i => some (i * 6, 6)) C [(0, .agg #[a, b, c, d, e, f]), (1, .agg #[a', b', c', d', e', f']), (2, .agg #[a2, b2, c2, d2, e2, f2])] = some #[a, b, c, d, e, f, a', b', c', d', e', f', a2, b2, c2, d2, e2, f2] := by
  obtain ⟨l⟩ := C
  match l, hC with
  | [_, _, _, _, _, _, _, _, _, _, _, _, _, _, _, _, _, _], _ => simp [Instr.fill, Value.cells]
section
variable {P : Program} {w0 w : World} {a : Act} {L : List Ent} {o : Oper} {ops : Array Oper} {rest : List Oper} {Q : Exit → Act → World → Prop}
theorem wpList_lit666 (hgd : o.guard = none) (S : St w0 w L) (t : TypeId) (x y z3 : Operand) (ho : o.op = .buildSlice t 3 #[(0, x), (1, y), (2, z3)])
    (e : TypeId) (ht : P.underlying t = some (.slice e)) {z : Value} {bytes : Nat} (hi : (P.info? e).map (fun i => (i.zero, i.size, i.bytes)) = some (some z, 6, bytes))
    (c0 c1 c2 c3 c4 c5 d0 d1 d2 d3 d4 d5 e0 e1 e2 e3 e4 e5 : Value) (hx : a.eval x = .agg #[c0, c1, c2, c3, c4, c5]) (hy : a.eval y = .agg #[d0, d1, d2, d3, d4, d5]) (hz : a.eval z3 = .agg #[e0, e1, e2, e3, e4, e5])
    (h : ∀ g w' M, M = .box g e [c0, c1, c2, c3, c4, c5, d0, d1, d2, d3, d4, d5, e0, e1, e2, e3, e4, e5] :: L → St w0 w' M → wpList P ops Q rest (a.put o.dst (.slice (some ⟨g, 0, none⟩) 3 3)) w') : wpList P ops Q (o :: rest) a w :=
  wpList_litS hgd S t 3 _ ho e ht hi #[c0, c1, c2, c3, c4, c5, d0, d1, d2, d3, d4, d5, e0, e1, e2, e3, e4, e5] (fun C hC => by
    show Instr.fill _ C [(0, a.eval x), (1, a.eval y), (2, a.eval z3)] = _
    rw [hx, hy, hz]; exact fill666 C hC _ _ _ _ _ _ _ _ _ _ _ _ _ _ _ _ _ _) (by omega) (by omega) h
end
def DrawnSMsSMx (w0 : World) (e : Ending) (w' : World) : Prop :=
  ∃ (ms : List SMx) (x : SMx) (s : Int) (v u t : Value), e = .returned (.tuple #[v, .agg #[.int .i64 (x).a.r, .int .i64 (x).a.c, u, .int .i64 (x).b.r, .int .i64 (x).b.c, t], .int .i64 s]) ∧ (ms.length ≤ 3 ∧ ∀ m ∈ ms, m.a.xs.length ≤ 26 ∧ m.b.xs.length ≤ 26) ∧ (x.a.xs.length ≤ 26 ∧ x.b.xs.length ≤ 26) ∧ SeesSMs w' v ms ∧ Ints w' u x.a.xs ∧ Ints w' t x.b.xs ∧ Below w0.heap.size w0 w'
theorem few_three {a b c : SMx} (h1 : a.a.xs.length ≤ 26) (h2 : a.b.xs.length ≤ 26) (h3 : b.a.xs.length ≤ 26) (h4 : b.b.xs.length ≤ 26) (h5 : c.a.xs.length ≤ 26) (h6 : c.b.xs.length ≤ 26) : ∀ m ∈ [a, b, c], m.a.xs.length ≤ 26 ∧ m.b.xs.length ≤ 26 := by
  intro m hm
  simp only [List.mem_cons, List.not_mem_nil, or_false] at hm
  rcases hm with rfl | rfl | rfl <;> exact ⟨by assumption, by assumption⟩
theorem three_seen {w0 w : World} {M : List Ent} {gz : Nat} {a b c : SMx} {u1 v1 u2 v2 u3 v3 : Value} (S : St w0 w M)
    (hb : .box gz 32 [.int .i64 a.a.r, .int .i64 a.a.c, u1, .int .i64 a.b.r, .int .i64 a.b.c, v1, .int .i64 b.a.r, .int .i64 b.a.c, u2, .int .i64 b.b.r, .int .i64 b.b.c, v2, .int .i64 c.a.r, .int .i64 c.a.c, u3, .int .i64 c.b.r, .int .i64 c.b.c, v3] ∈ M)
    (h1 : .row 3 1 u1 a.a.xs.length (ints a.a.xs) ∈ M) (h2 : .row 3 1 v1 a.b.xs.length (ints a.b.xs) ∈ M) (h3 : .row 3 1 u2 b.a.xs.length (ints b.a.xs) ∈ M) (h4 : .row 3 1 v2 b.b.xs.length (ints b.b.xs) ∈ M) (h5 : .row 3 1 u3 c.a.xs.length (ints c.a.xs) ∈ M) (h6 : .row 3 1 v3 c.b.xs.length (ints c.b.xs) ∈ M) :
    SeesSMs w (.slice (some ⟨gz, 0, none⟩) 3 3) [a, b, c] := by
  obtain ⟨p, hp⟩ := List.mem_iff_getElem?.1 hb
  refine ⟨_, 3, rfl, Nat.le_refl _, by simp [maxLen], fun _ => ⟨gz, 0, rfl, (S.lt hb rfl).2, fun q m hq => ?_⟩⟩
  match q, hq with
  | 0, hq =>
    obtain rfl : a = m := by simpa using hq
    exact ⟨u1, v1, S.cell hp 0, S.cell hp 1, S.cell hp 2, S.cell hp 3, S.cell hp 4, S.cell hp 5, Sees.own (S.own _ h1), Sees.own (S.own _ h2)⟩
  | 1, hq =>
    obtain rfl : b = m := by simpa using hq
    exact ⟨u2, v2, S.cell hp 6, S.cell hp 7, S.cell hp 8, S.cell hp 9, S.cell hp 10, S.cell hp 11, Sees.own (S.own _ h3), Sees.own (S.own _ h4)⟩
  | 2, hq =>
    obtain rfl : c = m := by simpa using hq
    exact ⟨u3, v3, S.cell hp 12, S.cell hp 13, S.cell hp 14, S.cell hp 15, S.cell hp 16, S.cell hp 17, Sees.own (S.own _ h5), Sees.own (S.own _ h6)⟩
  | q + 3, hq => simp at hq
theorem C_DrawSharedMix (v : Value) (w0 : World) (h : Bytes w0 v) : Calls Tryz.prog 23 #[v] w0 (DrawnSMsSMx w0) := by
  have H := Lib.hid h
  clear h
  obtain ⟨L, HL, S⟩ := st_start w0; have F : True := trivial
  go_enter Tryz.func23, Tryz.ntmps23
  go_upto_region 3 with (first | (refine qal HL S zSMx ?_; clear F S HL; intro g3 w L HL S F) | (go_at_call 62; refine (C_l20Open _ w0 _ (H.out)).mono ?_; rintro e w ⟨gr, vr, rfl, hB, T0⟩; have HB := Lib.hid hB; clear hB; have hX := qcl HL S T0; clear F S HL T0; obtain ⟨L, HL, S, F⟩ := hX) | ((go_at_call 63; refine (C_pick _ _ _ _ _ w0 _ (S.front qAt) HB.out ⟨by omega, by omega⟩).mono ?_; rintro e w ⟨ya, rfl, hy0, T0⟩; obtain ⟨L, hM, T⟩ := st_name T0; clear T0; clear F S; (try rw [HL.out] at hM); clear HL; (try simp only [List.eraseIdx_cons_zero, List.eraseIdx_cons_succ] at hM); have HL := Lib.hid hM; clear hM; have S := T; clear T; have F := qFc HL S); have hya := hy0 (by omega); clear hy0; obtain ⟨A, hhA⟩ : ∃ j : Nat, 1 + ya = (j : Int) := ⟨(1 + ya).toNat, by omega⟩))
  have a1 : 1 ≤ A := by omega
  have a2 : A ≤ 2 := by omega
  clear hya hhA
  obtain ⟨A2, hA2⟩ : ∃ A2, A + 1 = A2 := ⟨_, rfl⟩
  have ea : (A : Int) + 1 = (A2 : Int) := by omega
  have a3 : 1 ≤ A2 := by omega
  have a4 : A2 ≤ 3 := by omega
  clear hA2
  go_upto_region 4 with (first | ((go_at_call 64; refine (C_l20SharedMatrixG _ _ _ _ _ _ _ w0 _ ⟨⟨by omega, by omega⟩, by omega, by omega⟩ (by omega) (S.front qAt) HB.out ⟨by omega, by omega⟩).mono ?_; rintro e w ⟨u, t, r, c, xs, r', c', ys, k', rfl, hxs, hys, hka, hkb, T0⟩; obtain ⟨L, hM, T⟩ := st_name T0; clear T0; clear F S; (try rw [HL.out] at hM); clear HL; (try simp only [List.eraseIdx_cons_zero, List.eraseIdx_cons_succ] at hM); have HL := Lib.hid hM; clear hM; have S := T; clear T; have F := qFc HL S); obtain ⟨A', cap', rfl, hcap', hmax'⟩ := qSl HL S 0; obtain ⟨A', cap', rfl, hcap', hmax'⟩ := qSl HL S 1) | (refine wpList_lit666 rfl S _ _ _ _ rfl 32 Tryz.underlying35 infoSMx _ _ _ _ _ _ _ _ _ _ _ _ _ _ _ _ _ _ rfl rfl rfl ?_; clear F S; intro gz w L hM S; replace HL := qNm HL hM; clear hM; have F := qFc HL S))
  go_wp2_with (first | (go_at_call 65; refine (C_odd _ _ _ _ _ w0 _ (S.front qAt) HB.out ⟨by omega, by omega⟩).mono ?_; rintro e w ⟨y, k', rfl, hk1, hk2, T0⟩; obtain ⟨L, hM, T⟩ := st_name T0; clear T0; clear F S; (try rw [HL.out] at hM); clear HL; (try simp only [List.eraseIdx_cons_zero, List.eraseIdx_cons_succ] at hM); have HL := Lib.hid hM; clear hM; have S := T; clear T; have F := qFc HL S) | ((go_at_call 64; refine (C_l20SharedMatrixG _ _ _ _ _ _ _ w0 _ ⟨⟨by omega, by omega⟩, by omega, by omega⟩ (by omega) (S.front qAt) HB.out ⟨by omega, by omega⟩).mono ?_; rintro e w ⟨u4, t4, r4, c4, xs4, r4', c4', ys4, k4, rfl, hxs4, hys4, hka4, hkb4, T0⟩; obtain ⟨L, hM, T⟩ := st_name T0; clear T0; clear F S; (try rw [HL.out] at hM); clear HL; (try simp only [List.eraseIdx_cons_zero, List.eraseIdx_cons_succ] at hM); have HL := Lib.hid hM; clear hM; have S := T; clear T; have F := qFc HL S); obtain ⟨A', cap', rfl, hcap', hmax'⟩ := qSl HL S 0; obtain ⟨A', cap', rfl, hcap', hmax'⟩ := qSl HL S 1) | ((go_at_call 63; refine (C_pick _ _ _ _ _ w0 _ (S.front qAt) HB.out ⟨by omega, by omega⟩).mono ?_; rintro e w ⟨yb, rfl, hy0, T0⟩; obtain ⟨L, hM, T⟩ := st_name T0; clear T0; clear F S; (try rw [HL.out] at hM); clear HL; (try simp only [List.eraseIdx_cons_zero, List.eraseIdx_cons_succ] at hM); have HL := Lib.hid hM; clear hM; have S := T; clear T; have F := qFc HL S); have hyb := hy0 (by omega); clear hy0; obtain ⟨B, hhB⟩ : ∃ j : Nat, 1 + yb = (j : Int) := ⟨(1 + yb).toNat, by omega⟩) | (go_at_call 66; refine (C_l20Seed _ _ _ _ _ w0 _ (S.front qAt) HB.out ⟨by omega, by omega⟩).mono ?_; rintro e w ⟨sd, ks, rfl, hks1, hks2, T0⟩; obtain ⟨L, hM, T⟩ := st_name T0; clear T0; clear F S; (try rw [HL.out] at hM); clear HL; (try simp only [List.eraseIdx_cons_zero, List.eraseIdx_cons_succ] at hM); have HL := Lib.hid hM; clear hM; have S := T; clear T; have F := qFc HL S) | (refine qst HL S 0 ?_; clear F S HL; intro w L HL S F) | (refine qst HL S 1 ?_; clear F S HL; intro w L HL S F) | (refine qst HL S 2 ?_; clear F S HL; intro w L HL S F) | (refine qst HL S 3 ?_; clear F S HL; intro w L HL S F) | (refine qst HL S 4 ?_; clear F S HL; intro w L HL S F) | (refine qst HL S 5 ?_; clear F S HL; intro w L HL S F) | (refine qst HL S 6 ?_; clear F S HL; intro w L HL S F) | (refine qst HL S 7 ?_; clear F S HL; intro w L HL S F) | (refine qst HL S 8 ?_; clear F S HL; intro w L HL S F) | (refine qst HL S 9 ?_; clear F S HL; intro w L HL S F) | (refine qst HL S 10 ?_; clear F S HL; intro w L HL S F) | (refine qst HL S 11 ?_; clear F S HL; intro w L HL S F) | (refine qst HL S 12 ?_; clear F S HL; intro w L HL S F))
  all_goals
    refine ret3 rfl (show _ = _ from rfl) (by first | exact resCell S HL 10 rfl rfl (by kernel_rfl) | exact resCell S HL 11 rfl rfl (by kernel_rfl) | exact resCell S HL 9 rfl rfl (by kernel_rfl) | exact resCell S HL 8 rfl rfl (by kernel_rfl) | exact resCell S HL 7 rfl rfl (by kernel_rfl) | exact resCell S HL 12 rfl rfl (by kernel_rfl) | exact resCell S HL 6 rfl rfl (by kernel_rfl) | exact resCell S HL 5 rfl rfl (by kernel_rfl) | exact resCell S HL 4 rfl rfl (by kernel_rfl) | exact resCell S HL 3 rfl rfl (by kernel_rfl)) (show _ = _ from rfl) rfl ?_
    have H3 := three_seen (gz := gz) (a := ⟨⟨_, _, _⟩, ⟨_, _, _⟩⟩) (b := ⟨⟨_, _, _⟩, ⟨_, _, _⟩⟩) (c := ⟨⟨_, _, _⟩, ⟨_, _, _⟩⟩) S (At.mem qAt) (At.mem qAt) (At.mem qAt) (At.mem qAt) (At.mem qAt) (At.mem qAt) (At.mem qAt)
    first
      | exact ⟨_, ⟨⟨_, _, xs4⟩, ⟨_, _, ys4⟩⟩, _, _, _, _, rfl, ⟨by simp, few_three (by assumption) (by assumption) (by assumption) (by assumption) (by assumption) (by assumption)⟩, ⟨hxs4, hys4⟩, H3, Sees.row S (by first | exact (atOf HL (p := 0) rfl) | exact (atOf HL (p := 1) rfl) | exact (atOf HL (p := 2) rfl) | exact (atOf HL (p := 3) rfl) | exact (atOf HL (p := 4) rfl) | exact (atOf HL (p := 5) rfl) | exact (atOf HL (p := 6) rfl) | exact (atOf HL (p := 7) rfl) | exact (atOf HL (p := 8) rfl) | exact (atOf HL (p := 9) rfl) | exact (atOf HL (p := 10) rfl) | exact (atOf HL (p := 11) rfl) | exact (atOf HL (p := 12) rfl) | exact (atOf HL (p := 13) rfl) | exact (atOf HL (p := 14) rfl) | exact (atOf HL (p := 15) rfl)), Sees.row S (by first | exact (atOf HL (p := 0) rfl) | exact (atOf HL (p := 1) rfl) | exact (atOf HL (p := 2) rfl) | exact (atOf HL (p := 3) rfl) | exact (atOf HL (p := 4) rfl) | exact (atOf HL (p := 5) rfl) | exact (atOf HL (p := 6) rfl) | exact (atOf HL (p := 7) rfl) | exact (atOf HL (p := 8) rfl) | exact (atOf HL (p := 9) rfl) | exact (atOf HL (p := 10) rfl) | exact (atOf HL (p := 11) rfl) | exact (atOf HL (p := 12) rfl) | exact (atOf HL (p := 13) rfl) | exact (atOf HL (p := 14) rfl) | exact (atOf HL (p := 15) rfl)), S.below⟩
      | exact ⟨_, ⟨⟨_, _, xs4⟩, ⟨_, _, ys4⟩⟩, _, _, _, _, rfl, ⟨by simp, fun m hm => few_three (by assumption) (by assumption) (by assumption) (by assumption) (by assumption) (by assumption) m (List.mem_of_mem_drop hm)⟩, ⟨hxs4, hys4⟩, H3.rest 1 2 rfl 6 2 rfl ⟨by decide, by decide⟩, Sees.row S (by first | exact (atOf HL (p := 0) rfl) | exact (atOf HL (p := 1) rfl) | exact (atOf HL (p := 2) rfl) | exact (atOf HL (p := 3) rfl) | exact (atOf HL (p := 4) rfl) | exact (atOf HL (p := 5) rfl) | exact (atOf HL (p := 6) rfl) | exact (atOf HL (p := 7) rfl) | exact (atOf HL (p := 8) rfl) | exact (atOf HL (p := 9) rfl) | exact (atOf HL (p := 10) rfl) | exact (atOf HL (p := 11) rfl) | exact (atOf HL (p := 12) rfl) | exact (atOf HL (p := 13) rfl) | exact (atOf HL (p := 14) rfl) | exact (atOf HL (p := 15) rfl)), Sees.row S (by first | exact (atOf HL (p := 0) rfl) | exact (atOf HL (p := 1) rfl) | exact (atOf HL (p := 2) rfl) | exact (atOf HL (p := 3) rfl) | exact (atOf HL (p := 4) rfl) | exact (atOf HL (p := 5) rfl) | exact (atOf HL (p := 6) rfl) | exact (atOf HL (p := 7) rfl) | exact (atOf HL (p := 8) rfl) | exact (atOf HL (p := 9) rfl) | exact (atOf HL (p := 10) rfl) | exact (atOf HL (p := 11) rfl) | exact (atOf HL (p := 12) rfl) | exact (atOf HL (p := 13) rfl) | exact (atOf HL (p := 14) rfl) | exact (atOf HL (p := 15) rfl)), S.below⟩
end
end Go.Proofs.YtjgfjfjboimgdaaGreat
