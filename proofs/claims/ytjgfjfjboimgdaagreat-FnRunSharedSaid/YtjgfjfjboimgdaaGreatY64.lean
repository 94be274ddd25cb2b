/- Share Ldb DenI RunP NdS LyZ RunA RunI -/
import Derived.Deep.MidRow
import Derived.BigFrame
import Derived.Test.YtjgfjfjboimgdaaGreatY40
import Derived.Test.YtjgfjfjboimgdaaGreatY46
import Derived.Test.YtjgfjfjboimgdaaGreatY54
import Derived.Test.YtjgfjfjboimgdaaGreatY58
namespace Go.Proofs.YtjgfjfjboimgdaaGreat
set_option linter.unusedSimpArgs false
set_option linter.unusedVariables false
set_option linter.unusedSectionVars false
open Go Go.RowKit
set_option maxHeartbeats 8000000
set_option maxRecDepth 20000
section
set_option maxHeartbeats 1000000
theorem zNd : (Tryz.prog.info? 71).bind (·.zero) = some (.agg #[.int .i64 0, .int .i64 0, .int .i64 0, .int .i64 0]) := by kernel_rfl
theorem C_impl_AddNeeds (a b c d x y z t : Int) (w0 : World) : Calls Tryz.prog 86 #[.agg #[.int .i64 a, .int .i64 b, .int .i64 c, .int .i64 d], .agg #[.int .i64 x, .int .i64 y, .int .i64 z, .int .i64 t]] w0 fun e w' => e = .returned (.agg #[.int .i64 (wrap64 (a + x)), .int .i64 (wrap64 (b + y)), .int .i64 (wrap64 (c + z)), .int .i64 (wrap64 (d + t))]) ∧ Below w0.heap.size w0 w' := by
  obtain ⟨L, HL, S⟩ := st_start w0; have F : True := trivial
  go_enter Tryz.func86, Tryz.ntmps86
  go_wp2_with (first | (refine qbx HL S ?_; clear F S HL; intro g w L HL S F) | (refine qal HL S zNd ?_; clear F S HL; intro g w L HL S F) | (refine qst HL S 0 ?_; clear F S HL; intro w L HL S F) | (refine qst HL S 1 ?_; clear F S HL; intro w L HL S F) | (refine qst HL S 2 ?_; clear F S HL; intro w L HL S F) | (refine qst HL S 3 ?_; clear F S HL; intro w L HL S F)  )
  ((try simp only [Exit.inBlock, Exit.then]); refine ret1 rfl (resCell S HL 0 rfl rfl (by kernel_rfl)) rfl ?_); exact ⟨rfl, S.below⟩
end
section
section
variable {P : Program} {w0 w : World} {a : Act} {L : List Ent} {o : Oper} {ops : Array Oper} {rest : List Oper} {K : Act → World → Prop} {Q : Exit → Act → World → Prop}
theorem qTb3X {j : Nat} {ro : List Oper} {T : Tree} {a' : Act} {c0 c1 c2 : Value} {ty : TypeId} {x : Operand} {p g : Nat} {t : TypeId} {cs : List Value} {i : Nat} (k : wpTree P ops Q (fun w' => St w0 w' L) T a' w) (hS : St w0 w L := by (first | exact S | (refine S.sub (subL HL0 HL ?_); (repeat (first | exact List.Sublist.refl _ | exact List.nil_sublist _ | exact List.sublist_append_left _ _ | apply List.Sublist.cons_cons | apply List.Sublist.cons)); done))) (ho : ops.toList.drop j = o :: ro := by exact rfl) (hl : lateOp ops j = false := by decide +kernel) (hw : Region.wanted o (yielded ops a.tmps) = true := by exact rfl) (hop : o.op = .load ty x := by exact rfl) (hx : a.eval x = .pointer (some ⟨g, i, none⟩) := by exact rfl) (hp : At L p (.box g t cs) := by exact qAt0)
    (hk : structAt P ty 3 = true := by decide +kernel) (hvs : (cs.drop i).take 3 = [c0, c1, c2] := by exact rfl) (ha : a.put o.dst (.agg ([c0, c1, c2] : List Value).toArray) = a' := by ((try simp only [Act.put, qP0, qP1, qP2]); exact rfl)) : wpTree P ops Q (fun w' => St w0 w' L) (.calm j T) a w := tree_load_box hS ho hl hw ty x hop p g t cs i 3 hp hx [c0, c1, c2] rfl hk hvs (ha ▸ k)
end
end
section
theorem sum_like {R D : Nat} {xs ys : List Int} (r1 : 1 ≤ R) (r2 : R ≤ 5) (d1 : 1 ≤ D) (d2 : D ≤ 5) (hl : xs.length = R * D) (hl' : ys.length = R * D) (a1 : xs.all rv = true) (a2 : ys.all rv = true) : sumMx ⟨R, D, xs⟩ ⟨R, D, ys⟩ = ⟨R, D, tab (R * D) (sumsV xs ys)⟩ := by
  have h : likeMx ⟨R, D, xs⟩ ⟨R, D, ys⟩ = true := by
    simp only [likeMx, Bool.and_eq_true, decide_eq_true_eq]
    exact ⟨⟨⟨Mx.ok_of r1 r2 d1 d2 hl a1, Mx.ok_of r1 r2 d1 d2 hl' a2⟩, trivial⟩, trivial⟩
  rw [sumMx_ok h]
  dsimp only
  rw [hl]
theorem C_impl_Dense (R C D : Nat) (ws bs xs : List Int) (u v x : Value) (nu nv nx : Nat) (w0 : World) (h : Sees w0 1 u nu (ints ws)) (h' : Sees w0 1 v nv (ints bs)) (hx : Sees w0 1 x nx (ints xs))
    (hu : nu = R * C) (hv : nv = R) (hxn : nx = C * D) (lw : ws.length = R * C) (lb : bs.length = R) (lx : xs.length = C * D)
    (r1 : 1 ≤ R) (r2 : R ≤ 5) (c1 : 1 ≤ C) (c2 : C ≤ 5) (d1 : 1 ≤ D) (d2 : D ≤ 5) (aw : ws.all rv = true) (ab : bs.all rv = true) (ax : xs.all rv = true) :
    Calls Tryz.prog 220 #[.agg #[.int .i64 R, .int .i64 C, u], .agg #[.int .i64 R, .int .i64 1, v], .agg #[.int .i64 C, .int .i64 D, x]] w0 fun e w' => ∃ u', e = .returned (.agg #[.int .i64 R, .int .i64 D, u']) ∧ St w0 w' [.row 3 1 u' (R * D) (ints (denseL ws bs xs R C D))] := by
  have HU := Lib.hid h
  have HV := Lib.hid h'
  have HX := Lib.hid hx
  obtain ⟨_, A1, k1, rfl, hk1, hm1, _⟩ := h
  obtain ⟨_, A2, k2, rfl, hk2, hm2, _⟩ := h'
  obtain ⟨_, A3, k3, rfl, hk3, hm3, _⟩ := hx
  have okw := Mx.ok_of r1 r2 c1 c2 lw aw
  have okb : (Mx.mk R 1 bs).ok = true := Mx.ok_of (C := 1) r1 r2 (by omega) (by omega) (by rw [lb, Nat.mul_one]) ab
  have okx := Mx.ok_of c1 c2 d1 d2 lx ax
  have OX := Lib.hid okx
  have HF : Hid (denseFit ⟨R, C, ws⟩ ⟨R, 1, bs⟩ = true) := Lib.hid (by
    simp only [denseFit, Bool.and_eq_true, decide_eq_true_eq]
    exact ⟨⟨⟨okw, okb⟩, trivial⟩, trivial⟩)
  obtain ⟨cs, hcs⟩ : ∃ l, cutV ws xs R C D = l := ⟨_, rfl⟩
  obtain ⟨ss, hss⟩ : ∃ l, tab (R * D) (spreadV bs D) = l := ⟨_, rfl⟩
  obtain ⟨zs, hzs⟩ : ∃ l, denseL ws bs xs R C D = l := ⟨_, rfl⟩
  have lcs : cs.length = R * D := by rw [← hcs]; exact cutV_len _ _ _ _ _
  have acs : cs.all rv = true := by rw [← hcs]; exact cutV_all _ _ _ _ _
  have lss : ss.length = R * D := by rw [← hss]; exact tab_length _ _
  have ass : ss.all rv = true := by rw [← hss]; exact spread_all ab _ _
  have lzs : zs.length = R * D := by rw [← hzs]; exact denseL_len _ _ _ _ _ _
  have CP : ∀ u v w, Sees w 1 u nu (ints ws) → Sees w 1 v nx (ints xs) → Calls Tryz.prog 222 #[.agg #[.int .i64 R, .int .i64 C, u], .agg #[.int .i64 C, .int .i64 D, v]] w fun e w' => ∃ u', e = .returned (.agg #[.int .i64 R, .int .i64 D, u']) ∧ St w w' [.row 3 1 u' (R * D) (ints cs)] := fun u v w h h' => by
    have := C_cutProduct R C D ws xs cs u v w (by unfold Ints; rw [lw, ← hu]; exact h) (by unfold Ints; rw [lx, ← hxn]; exact h') hcs r1 r2 c1 c2 d1 d2 lw lx aw ax
    unfold MakesMx at this
    rw [lcs] at this
    exact this
  have CQ : ∀ u w, Sees w 1 u nv (ints bs) → Calls Tryz.prog 119 #[.agg #[.int .i64 R, .int .i64 1, u], .int .i64 D] w fun e w' => ∃ u', e = .returned (.agg #[.int .i64 R, .int .i64 D, u']) ∧ St w w' [.row 3 1 u' (R * D) (ints ss)] := fun u w h => by
    have := C_spread R D bs u nv w h hv r1 r2 d1 d2
    rw [hss] at this
    exact this
  have CA : ∀ u v w, Sees w 1 u (R * D) (ints cs) → Sees w 1 v (R * D) (ints ss) → Calls Tryz.prog 68 #[.agg #[.int .i64 R, .int .i64 D, u], .agg #[.int .i64 R, .int .i64 D, v]] w fun e w' => ∃ u', e = .returned (.agg #[.int .i64 R, .int .i64 D, u']) ∧ St w w' [.row 3 1 u' (R * D) (ints zs)] := fun u v w h h' => by
    have := C_impl_AddL R D cs R D ss u v ⟨R, D, zs⟩ w (by unfold Ints; rw [lcs]; exact h) (by unfold Ints; rw [lss]; exact h') (by rw [sum_like r1 r2 d1 d2 lcs lss acs ass, ← hzs, ← hcs, ← hss]; rfl)
    unfold MakesMx at this
    dsimp only at this
    rw [lzs] at this
    exact this
  obtain ⟨N, hN⟩ : ∃ N, R * D = N := ⟨_, rfl⟩
  rw [hN] at CP CQ CA ⊢
  have HUI : Hid (Ints w0 (.slice A1 nu k1) ws) := Lib.hid (by unfold Ints; rw [lw, ← hu]; exact HU.out)
  have HVI : Hid (Ints w0 (.slice A2 nv k2) bs) := Lib.hid (by unfold Ints; rw [lb, ← hv]; exact HV.out)
  have HXI : Hid (Ints w0 (.slice A3 nx k3) xs) := Lib.hid (by unfold Ints; rw [lx, ← hxn]; exact HX.out)
  rw [hzs]
  clear hu hv hxn lw lb lx aw ab ax okw okb okx hcs hss hzs lcs acs lss ass lzs hN
  obtain ⟨L, HL, S⟩ := st_start w0; have F : True := trivial
  go_enter Tryz.func220, Tryz.ntmps220
  go_upto_region 1 with (first | (refine qbd 3 HL S ?_; clear F S HL; intro gw w L HL S F) | (refine qbd 4 HL S ?_; clear F S HL; intro gb w L HL S F) | (refine qbd 5 HL S ?_; clear F S HL; intro gx w L HL S F) | (refine qal HL S zMx ?_; clear F S HL; intro gr w L HL S F))
  go_upto_region 3 with (first | (go_at_call 70; refine qGr S (C_impl_MatrixValid _ _ _ _ _ _ (by exact HXI.out.at_ S) (by exact OX.out)) ?_; clear S; intro w S) | (go_at_call 110; refine qGr S (C_denseFits _ _ _ _ _ _ _ _ true _ (by exact HUI.out.at_ S) (by exact HVI.out.at_ S) (by exact HF.out)) ?_; clear S; intro w S))
  have HL0 := HL; have F0 := F; refine wp_region_tree (S := fun w' => St w0 w' L) (.calm 0 (.calm 1 (qcs 3 3 (.act 2 (.act 6 (.act 7 (.act 8 .fin .stop) .stop) .stop) .stop)))) (by kernel_rfl) (by kernel_rfl) (by kernel_rfl) (by intro c a d v w h; cases d <;> exact h) ?_; dsimp only [qcs, Nat.reduceAdd]; replace S := S.drew
  repeat (first | refine qCa ?_ | refine qAn ?_ | refine qSk ?_ | (refine tree_act rfl rfl ?_ tree_stop; intro K hK; (refine qsw HL S 3 ?_; clear F S HL; intro w L HL S F); (refine qKo hK ?_; clear hK K)) | (refine tree_act rfl rfl ?_ tree_stop; intro K hK; go_wp2_with (first | (go_at_call 222; refine (CP _ _ _ (HU.out.at_ S) (HX.out.at_ S)).mono ?_; rintro e w ⟨u, rfl, T0⟩; have hX := qcl HL S T0; clear F S HL T0; obtain ⟨L, HL, S, F⟩ := hX; obtain ⟨A', cap', rfl, hcap', hmax'⟩ := qSl HL S 0) | (go_at_call 119; refine (CQ _ _ (HV.out.at_ S)).mono ?_; rintro e w ⟨u, rfl, T0⟩; have hX := qcl HL S T0; clear F S HL T0; obtain ⟨L, HL, S, F⟩ := hX; obtain ⟨A', cap', rfl, hcap', hmax'⟩ := qSl HL S 0) | (go_at_call 68; refine (CA _ _ _ (Sees.row S qAt) (Sees.row S qAt)).mono ?_; rintro e w ⟨u, rfl, T0⟩; have hX := qcl HL S T0; clear F S HL T0; obtain ⟨L, HL, S, F⟩ := hX; obtain ⟨A', cap', rfl, hcap', hmax'⟩ := qSl HL S 0)); (refine qKo hK ?_; clear hK K)))
  refine tree_fin ?_
  go_wp2
  ((try simp only [Exit.inBlock, Exit.then]); refine ret1 rfl (resCell S HL 3 rfl rfl (by kernel_rfl)) rfl ?_)
  exact ⟨_, rfl, (by rw [HL.out] at S; exact S.sub (by repeat (first | exact .refl _ | exact List.nil_sublist _ | apply List.Sublist.cons_cons | apply List.Sublist.cons)))⟩
end
section
theorem runPlain_x {ls : List Ly} {x : Mx} (h : x.ok = false) : runPlain ls x = Mx.zero := by
  unfold runPlain
  rw [h]
  rfl
theorem runPlain_s {ls : List Ly} {x : Mx} (h : netSides ls x.r x.c = none) : runPlain ls x = Mx.zero := by
  unfold runPlain
  rw [h, Option.isSome_none, Bool.and_false]
  rfl
end
section
def Need.within (k : Int) (x : Need) : Prop := (0 ≤ x.t ∧ x.t ≤ k) ∧ (0 ≤ x.m ∧ x.m ≤ k) ∧ (0 ≤ x.b ∧ x.b ≤ k) ∧ 0 ≤ x.o ∧ x.o ≤ k
theorem prod_bd {r c : Int} (hr : 1 ≤ r ∧ r ≤ 5) (hc : 1 ≤ c ∧ c ≤ 5) : 1 ≤ r * c ∧ r * c ≤ 25 := side_prod (sideOk_iff.2 hr) (sideOk_iff.2 hc)
theorem Ly.needs_bd {l : Ly} (h : l.ok = true) {r c : Int} (hr : 1 ≤ r ∧ r ≤ 5) (hc : 1 ≤ c ∧ c ≤ 5) : (l.needs r c).within 1000 := by
  have p1 := prod_bd hr hc
  have p2 := prod_bd hr hr
  have p3 := prod_bd hc hc
  have p4 := prod_bd hc hr
  cases Ly.ok_case h with
  | dense w b hd =>
    simp only [denseFit, Bool.and_eq_true] at hd
    have hs := Mx.ok_sides hd.1.1.1
    have p5 := prod_bd hs.1 hc
    have p6 := prod_bd hs.1 hr
    simp only [Ly.needs, prodNeed, Need.within]
    omega
  | ramp =>
    simp only [Ly.needs, Need.within]
    omega
  | mix a b d hd =>
    simp only [Ly.needs, Need.within]
    omega
end
section
def LayersOwn (ls : List Ly) (b : Bool) (wb w0 : World) (e : Ending) (w' : World) : Prop :=
  ∃ (u : Value) (cs : List Value), e = .returned (.tuple #[u, .bool b]) ∧ (b = true → cs.length = ls.length) ∧ (b = false → cs.length = 0) ∧ (∀ (q : Nat) (l : Ly) (x : Value), ls[q]? = some l → cs[q]? = some x → IfLy wb x l) ∧ St w0 w' [.row 97 1 u cs.length cs]
theorem C_layersOfOwn (v : Value) (ls : List Ly) (b : Bool) (wb w0 : World) (hbw : Below wb.heap.size wb w0) (h : SeesLs wb v ls) (hb : (decide (ls.length ≤ 4) && ls.all Ly.ok) = b) :
    Calls Tryz.prog 85 #[v] w0 (LayersOwn ls b wb w0) := by
  obtain ⟨A, cap, rfl, hcap, hmax, hA⟩ := h
  obtain ⟨n, hn⟩ : ∃ n, ls.length = n := ⟨_, rfl⟩
  rw [hn] at hcap hA hb ⊢
  have HN := Lib.hid hn
  have HA := Lib.hid hA
  obtain ⟨p, hp, hall, hbad, hnone⟩ := first_bad Ly.ok ls
  rw [hn] at hp hnone
  have HALL := Lib.hid hall
  have HBAD := Lib.hid hbad
  have HNONE := Lib.hid hnone
  clear hA hn hall hbad hnone
  unfold maxLen at hmax
  by_cases h4 : n ≤ 4
  · rw [decide_eq_true h4, Bool.true_and] at hb
    have HBL := Lib.hid hb
    clear hb
    obtain ⟨L, HL, S⟩ := st_start w0; have F : True := trivial
    go_enter Tryz.func85, Tryz.ntmps85
    go_upto_region 4 with (at_make; refine wpList_make rfl S _ _ _ rfl 97 _ 1 16 Tryz.underlying116 infoIf _ n rfl rfl rfl (by omega) (by simp only [maxLen]; omega) ?_; clear F S; intro g w L hM S; replace HL := qNm HL hM; clear hM; have F := qFc HL S)
    obtain ⟨Z, hZ⟩ : ∃ Z, Z = (madeCells #[Value.nilIface] n).toList := ⟨_, rfl⟩
    rw [← hZ] at HL
    have hZl : Z.length = n := by rw [hZ]; simp [madeCells]
    have HZ := Lib.hid hZl
    clear hZ hZl
    go_wp2
    go_loopw [17] (fun i wr => ∃ (j : Nat) (cs : List Value) (L : List Ent), j ≤ p ∧ i = .int .i64 j ∧ Hid (cs.length = j) ∧ Hid (∀ (q : Nat) (l : Ly) (x : Value), ls[q]? = some l → cs[q]? = some x → IfLy wb x l) ∧ Hid (L = [.row 97 1 (.slice (some ⟨g, 0, none⟩) n n) n (cs ++ Z.drop j)]) ∧ St w0 wr L) (fun i _ => n - (intOf i).toNat)
    case atStart => exact ⟨0, [], L, Nat.zero_le _, rfl, Lib.hid rfl, Lib.hid (fun q l x _ h => by simp at h), HL, S⟩
    case round =>
      clear F HL S
      obtain ⟨j, cs, L, hj, rfl, HCS, HIF, HL, S⟩ := hrel
      have F : True := trivial
      by_cases hlt : j < n
      · obtain ⟨bl, off, rfl, hbl0, hc⟩ := HA.out (by omega)
        have hbl := Nat.lt_of_lt_of_le hbl0 hbw.size
        obtain ⟨l, hm⟩ := some_at HN.out hlt
        obtain ⟨u, c1, c2, hu⟩ := hc j _ hm
        replace c1 := (hbw.cell (p := ⟨bl, off + j * 2, none⟩) hbl0).trans c1
        replace c2 := (hbw.cell (p := ⟨bl, off + j * 2 + 1, none⟩) hbl0).trans c2
        have HU := Lib.hid hu
        obtain ⟨A', cap', rfl, hcap', hmax', _⟩ := hu
        have f1 := fun w' (S' : St w0 w' L) => (S'.below.cell (p := ⟨bl, off + j * 2, none⟩) hbl).trans c1
        have f2 := fun w' (S' : St w0 w' L) => (S'.below.cell (p := ⟨bl, off + j * 2 + 1, none⟩) hbl).trans c2
        have HM := Lib.hid hm
        clear hc c1 c2 hm
        go_upto_region 7 with (first | (refine qal HL S zLy ?_; clear F S HL; intro g w L HL S F) | (refine qst HL S 0 ?_; clear F S HL; intro w L HL S F))
        by_cases hjp : j < p
        · have hok := HALL.out j l hjp HM.out
          go_upto_region 10 with (first | (go_at_call 69; refine (C_layerOf _ l true wb _ (hbw.trans (S.below.mono hbw.size)) HU.out hok).mono ?_; rintro e w ⟨x, rfl, hx0, hb⟩; have hx := hx0 rfl; clear hx0; replace S := S.grow hb; clear hb))
          obtain ⟨ti, y, rfl⟩ := hx.iface
          have HX := Lib.hid hx
          clear hx
          go_wp2_with (first | (refine wpList_store_rowS rfl S _ _ _ rfl 1 _ _ _ _ _ _ _ (atOf HL rfl) rfl ([.iface ti y]) rfl (by kernel_rfl) rfl (show _ + 1 ≤ _ from by omega) ?_; clear F S; intro w L hM S; replace HL := qNr HL hM; clear hM; have F := qFc HL S))
          go_roundw
          case rel =>
            rw [HL.out] at S
            have T := S.sub (.cons _ (.refl _))
            rw [splice_app _ _ _ _ HCS.out, List.drop_drop] at T
            refine ⟨j + 1, cs ++ [.iface ti y], _, by omega, by go_num, Lib.hid (by rw [List.length_append, HCS.out]; rfl), Lib.hid (fun q l' x h1 h2 => ?_), Lib.hid rfl, T⟩
            rcases Nat.lt_or_ge q j with h3 | h3
            · rw [List.getElem?_append_left (by rw [HCS.out]; exact h3)] at h2
              exact HIF.out q l' x h1 h2
            · rw [List.getElem?_append_right (by rw [HCS.out]; exact h3), HCS.out] at h2
              have h4 : q - j < 1 := (List.getElem?_eq_some_iff.1 h2).1
              obtain rfl : q = j := by omega
              simp at h2
              subst h2
              rw [HM.out] at h1
              injection h1 with h1
              subst h1
              exact HX.out
          case measure => simp [intOf]; omega
        · obtain rfl : j = p := by omega
          obtain ⟨hg, hg2⟩ := HBAD.out _ HM.out
          obtain rfl : b = false := HBL.out.symm.trans hg2
          clear hg2
          go_wp2_with (first | (go_at_call 69; refine (C_layerOf _ l false wb _ (hbw.trans (S.below.mono hbw.size)) HU.out hg).mono ?_; rintro e w ⟨x, rfl, hx0, hb⟩; clear hx0; replace S := S.grow hb; clear hb))
          refine ret2 rfl (show _ = _ from rfl) (show _ = _ from rfl) rfl ?_
          exact ⟨_, [], rfl, fun h => absurd h (by simp), fun _ => rfl, fun q l x _ h => by simp at h, (S.nilRow 97 1).sub (.cons_cons _ (List.nil_sublist _))⟩
      · obtain rfl : j = n := by omega
        obtain rfl : p = j := by omega
        obtain rfl : b = true := HBL.out.symm.trans (HNONE.out rfl)
        go_wp2
        refine ret2 rfl (show _ = _ from rfl) (show _ = _ from rfl) rfl ?_
        rw [HL.out, List.drop_of_length_le (Nat.le_of_eq HZ.out), List.append_nil] at S
        have hcs := HCS.out
        refine ⟨_, cs, rfl, fun _ => hcs.trans HN.out.symm, fun h => absurd h (by simp), HIF.out, ?_⟩
        rw [hcs]
        exact S
  · rw [decide_eq_false h4, Bool.false_and] at hb
    subst hb
    clear HALL HBAD HNONE
    obtain ⟨L, HL, S⟩ := st_start w0; have F : True := trivial
    go_enter Tryz.func85, Tryz.ntmps85
    go_wp2_with (first | (refine qbx HL S ?_; clear F S HL; intro g w L HL S F)  | (refine qst HL S 0 ?_; clear F S HL; intro w L HL S F) | (refine qst HL S 1 ?_; clear F S HL; intro w L HL S F) | (refine qst HL S 2 ?_; clear F S HL; intro w L HL S F) | (refine qst HL S 3 ?_; clear F S HL; intro w L HL S F)  )
    refine ret2 rfl (show _ = _ from rfl) (show _ = _ from rfl) rfl ?_
    exact ⟨_, [], rfl, fun h => absurd h (by simp), fun _ => rfl, fun q l x _ h => by simp at h, (S.nilRow 97 1).sub (.cons_cons _ (List.nil_sublist _))⟩
end
section
theorem m_runDense (a c b1 b2 : Int) (A B : Option Addr) (n n' cap cap' : Nat) (w : World) : (method 323 149 (.agg #[.int .i64 a, .int .i64 c, .slice A n cap, .int .i64 b1, .int .i64 b2, .slice B n' cap']) "loop.example/sharedinference/impl.run").run Tryz.prog w = .ok (217, .agg #[.int .i64 a, .int .i64 c, .slice A n cap, .int .i64 b1, .int .i64 b2, .slice B n' cap']) w := by kernel_rfl
theorem C_runDense (R C D N : Nat) (ws bs xs zs : List Int) (A B : Option Addr) (k1 k2 nu nv : Nat) (u v x : Value) (hu' : u = .slice A nu k1) (hv' : v = .slice B nv k2) (nx : Nat) (w0 : World) (h : Sees w0 1 u nu (ints ws)) (h' : Sees w0 1 v nv (ints bs)) (hx : Sees w0 1 x nx (ints xs))
    (hu : nu = R * C) (hv : nv = R) (hxn : nx = C * D) (lw : ws.length = R * C) (lb : bs.length = R) (lx : xs.length = C * D)
    (r1 : 1 ≤ R) (r2 : R ≤ 5) (c1 : 1 ≤ C) (c2 : C ≤ 5) (d1 : 1 ≤ D) (d2 : D ≤ 5) (aw : ws.all rv = true) (ab : bs.all rv = true) (ax : xs.all rv = true) (hN : R * D = N) (hz : denseL ws bs xs R C D = zs) :
    Calls Tryz.prog 217 #[.agg #[.int .i64 R, .int .i64 C, u, .int .i64 R, .int .i64 1, v], .agg #[.int .i64 C, .int .i64 D, x]] w0 fun e w' => ∃ u', e = .returned (.agg #[.int .i64 R, .int .i64 D, u']) ∧ St w0 w' [.row 3 1 u' N (ints zs)] := by
  subst hu' hv'
  have HU := Lib.hid h
  have HV := Lib.hid h'
  have HX := Lib.hid hx
  obtain ⟨_, A3, k3, rfl, hk3, hm3, _⟩ := hx
  have CD := fun w h1 h2 h3 => C_impl_Dense R C D ws bs xs (.slice A nu k1) (.slice B nv k2) (.slice A3 nx k3) nu nv nx w h1 h2 h3 hu hv hxn lw lb lx r1 r2 c1 c2 d1 d2 aw ab ax
  rw [hN, hz] at CD
  clear h h' hu hv hxn lw lb lx aw ab ax hN hz
  obtain ⟨L, HL, S⟩ := st_start w0; have F : True := trivial
  go_enter Tryz.func217, Tryz.ntmps217
  go_upto_region 1 with (first | (refine qbd 2 HL S ?_; clear F S HL; intro gl w L HL S F) | (refine qbd 3 HL S ?_; clear F S HL; intro gx w L HL S F) | (refine qal HL S zMx ?_; clear F S HL; intro gr w L HL S F))
  go_wp2_with (first | (refine qst HL S 1 ?_; clear F S HL; intro w L HL S F) | (go_at_call 220; refine (CD _ (HU.out.at_ S) (HV.out.at_ S) (HX.out.at_ S)).mono ?_; rintro e w ⟨u, rfl, T0⟩; have hX := qcl HL S T0; clear F S HL T0; obtain ⟨L, HL, S, F⟩ := hX; obtain ⟨A', cap', rfl, hcap', hmax'⟩ := qSl HL S 0))
  ((try simp only [Exit.inBlock, Exit.then]); refine ret1 rfl (resCell S HL 1 rfl rfl (by kernel_rfl)) rfl ?_)
  exact ⟨_, rfl, (by rw [HL.out] at S; exact S.sub (by repeat (first | exact .refl _ | exact List.nil_sublist _ | apply List.Sublist.cons_cons | apply List.Sublist.cons)))⟩
theorem m_runRamp (w : World) : (method 323 151 (.agg #[]) "loop.example/sharedinference/impl.run").run Tryz.prog w = .ok (225, .agg #[]) w := by kernel_rfl
theorem C_runRamp (R C N : Nat) (xs zs : List Int) (x : Value) (w0 : World) (hx : Sees w0 1 x N (ints xs)) (hN : R * C = N) (lx : xs.length = R * C) (r1 : 1 ≤ R) (r2 : R ≤ 5) (c1 : 1 ≤ C) (c2 : C ≤ 5) (ax : xs.all rv = true) (hz : mapL 2 xs = zs) :
    Calls Tryz.prog 225 #[.agg #[], .agg #[.int .i64 R, .int .i64 C, x]] w0 fun e w' => ∃ u', e = .returned (.agg #[.int .i64 R, .int .i64 C, u']) ∧ St w0 w' [.row 3 1 u' N (ints zs)] := by
  have HX := Lib.hid hx
  obtain ⟨_, A3, k3, rfl, hk3, hm3, _⟩ := hx
  have CD : ∀ w, Sees w 1 (.slice A3 N k3) N (ints xs) → Calls Tryz.prog 223 #[.int .i64 2, .agg #[.int .i64 R, .int .i64 C, (.slice A3 N k3)]] w fun e w' => ∃ u', e = .returned (.agg #[.int .i64 R, .int .i64 C, u']) ∧ St w w' [.row 3 1 u' N (ints zs)] := fun w h => by
    have := C_impl_Map 2 R C xs (.slice A3 N k3) w (by unfold Ints; rw [lx, hN]; exact h) (by simp) r1 r2 c1 c2 lx ax
    unfold MakesMx at this
    rw [show tab xs.length (mapV 2 xs) = zs from hz, ← hz, mapL_len, lx, hN, hz] at this
    exact this
  clear hN lx ax hz
  obtain ⟨L, HL, S⟩ := st_start w0; have F : True := trivial
  go_enter Tryz.func225, Tryz.ntmps225
  go_upto_region 1 with (first | (refine qbd 2 HL S ?_; clear F S HL; intro gl w L HL S F) | (refine qbd 3 HL S ?_; clear F S HL; intro gx w L HL S F) | (refine qal HL S zMx ?_; clear F S HL; intro gr w L HL S F))
  go_wp2_with (first | (refine qst HL S 1 ?_; clear F S HL; intro w L HL S F) | (go_at_call 223; refine (CD _ (HX.out.at_ S)).mono ?_; rintro e w ⟨u, rfl, T0⟩; have hX := qcl HL S T0; clear F S HL T0; obtain ⟨L, HL, S, F⟩ := hX; obtain ⟨A', cap', rfl, hcap', hmax'⟩ := qSl HL S 0))
  ((try simp only [Exit.inBlock, Exit.then]); refine ret1 rfl (resCell S HL 1 rfl rfl (by kernel_rfl)) rfl ?_)
  exact ⟨_, rfl, (by rw [HL.out] at S; exact S.sub (by repeat (first | exact .refl _ | exact List.nil_sublist _ | apply List.Sublist.cons_cons | apply List.Sublist.cons)))⟩
end
section
theorem C_impl_RunPlain (ls : List Ly) (x t : Mx) (v u : Value) (w0 : World) (h : SeesLs w0 v ls) (hx : Ints w0 u x.xs) (ht : runPlain ls x = t) :
    Calls Tryz.prog 38 #[v, .agg #[.int .i64 (x).r, .int .i64 (x).c, u]] w0 (MakesMx w0 t.r t.c t.xs) := by
  unfold MakesMx
  have H := Lib.hid h
  have HX := Lib.hid hx
  obtain ⟨A, cap, rfl, hcap, hmax, _⟩ := h
  obtain ⟨_, A2, cap2, rfl, hcap2, hmax2, _⟩ := hx
  obtain ⟨r, c, xs⟩ := x
  dsimp only at HX hcap2 ⊢
  cases hv : (Mx.mk r c xs).ok with
  | false =>
    obtain rfl : t = Mx.zero := ht ▸ runPlain_x hv
    have HV := Lib.hid hv
    clear ht hv
    obtain ⟨L, HL, S⟩ := st_start w0; have F : True := trivial
    go_enter Tryz.func38, Tryz.ntmps38
    go_upto_region 1 with (first | (refine qbd 3 HL S ?_; clear F S HL; intro gx w L HL S F) | (refine qal HL S zMx ?_; clear F S HL; intro gr w L HL S F))
    go_wp2_with (first | (refine qst HL S 0 ?_; clear F S HL; intro w L HL S F) | (go_at_call 70; refine qGr S (C_impl_MatrixValid _ _ _ _ _ _ (by exact HX.out.at_ S) (by exact HV.out)) ?_; clear S; intro w S))
    ((try simp only [Exit.inBlock, Exit.then]); refine ret1 rfl (resCell S HL 0 rfl rfl (by kernel_rfl)) rfl ?_)
    exact ⟨_, rfl, S.nilMx _⟩
  | true =>
    have HV := Lib.hid hv
    obtain ⟨z, hz⟩ : ∃ z, netSides ls r c = z := ⟨_, rfl⟩
    have HZ := Lib.hid hz
    have CS := fun v w h => C_impl_NetSides v ls r c z w h HZ.out
    cases z with
    | none =>
      obtain rfl : t = Mx.zero := ht ▸ runPlain_s hz
      clear ht hv hz
      unfold sidesRes at CS
      obtain ⟨L, HL, S⟩ := st_start w0; have F : True := trivial
      go_enter Tryz.func38, Tryz.ntmps38
      go_upto_region 1 with (first | (refine qbd 3 HL S ?_; clear F S HL; intro gx w L HL S F) | (refine qal HL S zMx ?_; clear F S HL; intro gr w L HL S F))
      go_wp2_with (first | (refine qst HL S 0 ?_; clear F S HL; intro w L HL S F) | (go_at_call 70; refine qGr S (C_impl_MatrixValid _ _ _ _ _ _ (by exact HX.out.at_ S) (by exact HV.out)) ?_; clear S; intro w S) | (go_at_call 73; refine qGr S (CS _ _ (by exact H.out.at_ S)) ?_; clear S; intro w S))
      ((try simp only [Exit.inBlock, Exit.then]); refine ret1 rfl (resCell S HL 0 rfl rfl (by kernel_rfl)) rfl ?_)
      exact ⟨_, rfl, S.nilMx _⟩
    | some p =>
      obtain ⟨x1, x2⟩ := p
      unfold sidesRes at CS
      dsimp only at CS
      obtain ⟨h4, q1, q2, hs⟩ := sides_some hz
      have hball : (decide (ls.length ≤ 4) && ls.all Ly.ok) = true := by rw [decide_eq_true h4, from_all _ _ _ _ hs]; rfl
      have HBALL := Lib.hid hball
      have ht' : runFrom ls ⟨r, c, xs⟩ = t := by
        rw [← ht]
        unfold runPlain
        dsimp only
        rw [hv, hz]
        rfl
      obtain ⟨n, hn⟩ : ∃ n, ls.length = n := ⟨_, rfl⟩
      rw [hn] at hcap h4 H ⊢
      obtain ⟨_, _, N0, _, _, _, _, _, e0, e1, e2, _⟩ := Mx.ok_nat hv
      dsimp only at e1
      have p0 : 0 < xs.length := by
        rw [e1, ← e0]
        exact Nat.mul_pos (by omega) (by omega)
      have HLX : Hid (xs.length ≤ 1048576) := Lib.hid (by omega)
      have HP0 := Lib.hid p0
      have HN := Lib.hid hn
      have HS := Lib.hid hs
      have HT := Lib.hid ht'
      clear hz hn hs ht ht' HZ hball hv e0 e1 e2 p0
      unfold maxLen at hmax
      obtain ⟨L, HL, S⟩ := st_start w0; have F : True := trivial
      go_enter Tryz.func38, Tryz.ntmps38
      go_upto_region 1 with (first | (refine qbd 3 HL S ?_; clear F S HL; intro gx w L HL S F) | (refine qal HL S zMx ?_; clear F S HL; intro gr w L HL S F))
      go_upto_region 7 with (first | (go_at_call 70; refine qGr S (C_impl_MatrixValid _ _ _ _ _ _ (by exact HX.out.at_ S) (by exact HV.out)) ?_; clear S; intro w S) | (go_at_call 73; refine qGr S (CS _ _ (by exact H.out.at_ S)) ?_; clear S; intro w S) | (go_at_call 85; refine (C_layersOfOwn _ ls true w0 _ S.below (by exact H.out) HBALL.out).mono ?_; rintro e w ⟨u, cs, rfl, hcs1, _, hif, T0⟩; obtain ⟨L, hM, T⟩ := st_name (S.call T0); clear T0; have HIF := Lib.hid hif; have HCS := Lib.hid ((hcs1 rfl).trans HN.out); clear hif hcs1; rw [HCS.out] at hM; clear F S; replace HL := qNm HL hM; clear hM; have S := T; clear T; have F := qFc HL S; obtain ⟨Ac, cc, rfl, hcc, hmc⟩ := qSl HL S 0))
      go_upto_region 8 with (first | (refine qst HL S 0 ?_; clear F S HL; intro w L HL S F) | (refine qal HL S zMx ?_; clear F S HL; intro g10 w L HL S F) | (go_at_call 74; refine (C_copyMatrix _ _ _ _ _ _ (by exact HX.out.at_ S) HP0.out HLX.out).mono ?_; rintro e w ⟨u, rfl, T0⟩; have hX := qcl HL S T0; clear F S HL T0; obtain ⟨L, HL, S, F⟩ := hX; obtain ⟨A', cap', rfl, hcap', hmax'⟩ := qSl HL S 0))
      go_wp2
      go_loopw [39] (fun i wr => ∃ (j N : Nat) (y : Mx) (A : Option Addr) (cap : Nat) (L : List Ent), j ≤ n ∧ i = .int .i64 j ∧ N ≤ cap ∧ cap ≤ maxLen ∧ Hid (y.ok = true ∧ y.xs.length = N ∧ sidesFrom (ls.drop j) y.r y.c = some (x1, x2) ∧ runFrom (ls.drop j) y = t) ∧ Hid (L = [.row 3 1 (.slice A N cap) N (ints y.xs), .box g10 30 [.int .i64 y.r, .int .i64 y.c, .slice A N cap], .row 97 1 (.slice Ac n cc) n cs, .box gr 30 [.int .i64 0, .int .i64 0, .slice none 0 0], .box gx 30 [.int .i64 r, .int .i64 c, .slice A2 xs.length cap2]]) ∧ St w0 wr L) (fun i _ => n - (intOf i).toNat)
      case atStart => exact ⟨0, xs.length, ⟨r, c, xs⟩, A', cap', _, Nat.zero_le _, rfl, hcap', hmax', Lib.hid ⟨HV.out, rfl, HS.out, HT.out⟩, Lib.hid rfl, by rw [HL.out] at S; exact S.perm (.swap _ _ _)⟩
      case round =>
        clear S HS HT HL F CS HV HP0 HLX hcap' hmax'
        obtain ⟨j, N, y, A', cap', L, hj, rfl, hcap', hmax', HR, HL, S⟩ := hrel
        obtain ⟨yr, yc, ys⟩ := y
        dsimp only at HR HL
        have F := factsAll HL S
        simp only [factsOf, cellsFrom, and_true, true_and, Nat.reduceAdd] at F
        obtain ⟨hok, hyn, hsd, hrun⟩ := HR.out
        by_cases hlt : j < n
        · rcases S.rowShape (atOf HL (p := 2) rfl) with ⟨_, h0⟩ | ⟨gr2, cr, he, _, _⟩
          · omega
          simp only [Value.slice.injEq, true_and] at he
          obtain ⟨rfl, rfl⟩ := he
          obtain ⟨l, hl⟩ := some_at HN.out hlt
          obtain ⟨x, hx⟩ := some_at HCS.out hlt
          have hif := HIF.out j l x hl hx
          have hcell := fun w' (S' : St w0 w' L) => (S'.rowCell (atOf HL (p := 2) rfl) j (by omega)).trans hx
          rw [drop_at hl] at hsd hrun
          have hsi := Mx.ok_sides hok
          obtain ⟨a, d', hlok, hs, _, _, hrest⟩ := from_cons hsi.1 hsi.2 hsd
          obtain ⟨hnok, hnr, hnc⟩ := runLy_next hlok hok hs
          have HNX : Hid ((runLy l ⟨yr, yc, ys⟩).ok = true ∧ sidesFrom (ls.drop (j + 1)) (runLy l ⟨yr, yc, ys⟩).r (runLy l ⟨yr, yc, ys⟩).c = some (x1, x2) ∧ runFrom (ls.drop (j + 1)) (runLy l ⟨yr, yc, ys⟩) = t) := Lib.hid ⟨hnok, by rw [hnr, hnc]; exact hrest, hrun⟩
          have hcase := run_case hlok hok hs
          clear HR hsd hrun hsi hlok hs hrest hnok hnr hnc hok hl hx
          cases hcase with
          | dense R C D ws bs xs' r1 r2 c1 c2 d1 d2 lw lb lx aw ab ax =>
            obtain ⟨u, v, rfl, hu, hv⟩ := hif
            have HU := Lib.hid hu
            have HVV := Lib.hid hv
            obtain ⟨_, Au, cu, rfl, _⟩ := hu
            obtain ⟨_, Av, cv, rfl, _⟩ := hv
            obtain ⟨zs, hz⟩ : ∃ zs, denseL ws bs ys R C D = zs := ⟨_, rfl⟩
            obtain ⟨M, hM⟩ : ∃ M, R * D = M := ⟨_, rfl⟩
            have CR := fun x w h h' hx => C_runDense R C D M ws bs ys zs Au Av cu cv ws.length bs.length _ _ x rfl rfl N w h h' hx lw lb (hyn.symm.trans lx) lw lb lx r1 r2 c1 c2 d1 d2 aw ab ax hM hz
            replace HNX : Hid ((Mx.mk R D zs).ok = true ∧ sidesFrom (ls.drop (j + 1)) R D = some (x1, x2) ∧ runFrom (ls.drop (j + 1)) ⟨R, D, zs⟩ = t) := Lib.hid (by have := HNX.out; simp only [runLy, Int.toNat_natCast, hz] at this; exact this)
            have HZL : Hid (zs.length = M) := Lib.hid (by rw [← hz, ← hM]; exact denseL_len _ _ _ _ _ _)
            clear lw lb lx aw ab ax hM hz r1 r2 c1 c2 d1 d2
            have hm := m_runDense R C R 1 Au Av ws.length bs.length cu cv
            go_wp2_with (first | (refine qst HL S 2 ?_; clear F S HL; intro w L HL S F) | (go_at_call 217; refine (CR _ _ (HU.out.at_ S) (HVV.out.at_ S) (Sees.row S qAt)).mono ?_; rintro e w ⟨u, rfl, T0⟩; have hX := qcl HL S T0; clear F S HL T0; obtain ⟨L, HL, S, F⟩ := hX; obtain ⟨A', cap', rfl, hcap', hmax'⟩ := qSl HL S 0))
            go_roundw
            case rel => exact ⟨j + 1, M, ⟨R, D, zs⟩, A', cap', _, by omega, by go_num, hcap', hmax', Lib.hid ⟨HNX.out.1, HZL.out, HNX.out.2.1, HNX.out.2.2⟩, Lib.hid rfl, (by rw [HL.out] at S; exact S.sub (by repeat (first | exact .refl _ | exact List.nil_sublist _ | apply List.Sublist.cons_cons | apply List.Sublist.cons)))⟩
            case measure => simp [intOf]; omega
          | ramp R C xs' r1 r2 c1 c2 lx ax =>
            obtain rfl : x = _ := hif
            obtain ⟨zs, hz⟩ : ∃ zs, mapL 2 ys = zs := ⟨_, rfl⟩
            have CR := fun x w h => C_runRamp R C N ys zs x w h (lx.symm.trans hyn) lx r1 r2 c1 c2 ax hz
            replace HNX : Hid ((Mx.mk R C zs).ok = true ∧ sidesFrom (ls.drop (j + 1)) R C = some (x1, x2) ∧ runFrom (ls.drop (j + 1)) ⟨R, C, zs⟩ = t) := Lib.hid (by have := HNX.out; simp only [runLy, hz] at this; exact this)
            have HZL : Hid (zs.length = N) := Lib.hid (by rw [← hz, mapL_len]; exact hyn)
            clear lx ax hz r1 r2 c1 c2
            have hm := m_runRamp
            go_wp2_with (first | (refine qst HL S 2 ?_; clear F S HL; intro w L HL S F) | (go_at_call 225; refine (CR _ _ (Sees.row S qAt)).mono ?_; rintro e w ⟨u, rfl, T0⟩; have hX := qcl HL S T0; clear F S HL T0; obtain ⟨L, HL, S, F⟩ := hX; obtain ⟨A', cap', rfl, hcap', hmax'⟩ := qSl HL S 0))
            go_roundw
            case rel => exact ⟨j + 1, N, ⟨R, C, zs⟩, A', cap', _, by omega, by go_num, hcap', hmax', Lib.hid ⟨HNX.out.1, HZL.out, HNX.out.2.1, HNX.out.2.2⟩, Lib.hid rfl, (by rw [HL.out] at S; exact S.sub (by repeat (first | exact .refl _ | exact List.nil_sublist _ | apply List.Sublist.cons_cons | apply List.Sublist.cons)))⟩
            case measure => simp [intOf]; omega
          | mix X Y a b c' xs' y1 y2 y3 y4 la lb lc lx aa ab ac ax =>
            obtain ⟨u, rfl, hu⟩ := hif
            have HU := Lib.hid hu
            obtain ⟨Au, cu, rfl, _⟩ := hu
            obtain ⟨zs, hz⟩ : ∃ zs, mixL a b c' ys X Y = zs := ⟨_, rfl⟩
            have CR := fun v w hbw h hx => C_mixRun X Y a b c' ys zs (.slice Au 3 cu) v w0 w hbw h hx y1 y2 y3 y4 la lb lc lx aa ab ac ax hz
            unfold MakesMx Ints at CR
            rw [hyn] at CR
            replace HNX : Hid ((Mx.mk X Y zs).ok = true ∧ sidesFrom (ls.drop (j + 1)) X Y = some (x1, x2) ∧ runFrom (ls.drop (j + 1)) ⟨X, Y, zs⟩ = t) := Lib.hid (by have := HNX.out; simp only [runLy, Int.toNat_natCast, hz] at this; exact this)
            simp only [List.length_cons, List.length_nil, Nat.zero_add, Nat.reduceAdd] at HU hcell
            clear la lb lc lx aa ab ac ax hz y1 y2 y3 y4
            have hm := m_runMix Au 3 cu
            go_wp2_with (first | (refine qst HL S 2 ?_; clear F S HL; intro w L HL S F) | (go_at_call 228; refine (CR _ _ S.below HU.out (Sees.row S qAt)).mono ?_; rintro e w ⟨u, rfl, T0⟩; have hX := qcl HL S T0; clear F S HL T0; obtain ⟨L, HL, S, F⟩ := hX; obtain ⟨A', cap', rfl, hcap', hmax'⟩ := qSl HL S 0))
            go_roundw
            case rel => exact ⟨j + 1, zs.length, ⟨X, Y, zs⟩, A', cap', _, by omega, by go_num, hcap', hmax', Lib.hid ⟨HNX.out.1, rfl, HNX.out.2.1, HNX.out.2.2⟩, Lib.hid rfl, (by rw [HL.out] at S; exact S.sub (by repeat (first | exact .refl _ | exact List.nil_sublist _ | apply List.Sublist.cons_cons | apply List.Sublist.cons)))⟩
            case measure => simp [intOf]; omega
        · obtain rfl : j = n := by omega
          rw [List.drop_of_length_le (Nat.le_of_eq HN.out)] at hrun
          obtain rfl : t = ⟨yr, yc, ys⟩ := hrun.symm
          subst hyn
          clear hsd
          go_wp2_with (first | (refine qst HL S 3 ?_; clear F S HL; intro w L HL S F))
          ((try simp only [Exit.inBlock, Exit.then]); refine ret1 rfl (resCell S HL 3 rfl rfl (by kernel_rfl)) rfl ?_)
          exact ⟨_, rfl, (by rw [HL.out] at S; exact S.sub (by repeat (first | exact .refl _ | exact List.nil_sublist _ | apply List.Sublist.cons_cons | apply List.Sublist.cons)))⟩
end
end Go.Proofs.YtjgfjfjboimgdaaGreat
