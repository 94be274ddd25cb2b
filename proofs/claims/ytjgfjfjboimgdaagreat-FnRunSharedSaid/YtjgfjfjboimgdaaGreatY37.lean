/- DrZ DrRs Bytes -/
import Derived.Test.YtjgfjfjboimgdaaGreatY34
import Derived.Test.YtjgfjfjboimgdaaGreatY36
namespace Go.Proofs.YtjgfjfjboimgdaaGreat
set_option linter.unusedSimpArgs false
set_option linter.unusedVariables false
set_option linter.unusedSectionVars false
open Go Go.RowKit
set_option maxHeartbeats 8000000
set_option maxRecDepth 20000
section
theorem C_l20Seed0 (R : List Ent) (g : Nat) (v : Value) (k : Int) (w0 w1 : World) (S0 : St w0 w1 (.box g 143 [v, .int .i64 k] :: R)) (hB : Bytes w0 v) (hk : 0 ≤ k ∧ k ≤ 900000000) :
    Calls Tryz.prog 66 #[.pointer (some ⟨g, 0, none⟩), .int .i64 0] w1 (fun e w' => ∃ (y k' : Int), e = .returned (.int .i64 y) ∧ seedOk y = true ∧ k ≤ k' ∧ k' ≤ k + 4 ∧ St w0 w' (.box g 143 [v, .int .i64 k'] :: R)) := by
  have HB := Lib.hid hB
  obtain ⟨k1, k2⟩ := hk
  clear hB
  obtain ⟨L, HL, S⟩ := st_name S0
  clear S0
  replace HL := Lib.hid HL
  have F := factsAll HL S
  simp only [factsOf, cellsFrom, and_true, true_and, Nat.reduceAdd] at F
  go_enter Tryz.func66, Tryz.ntmps66
  go_wp2_with (first | ((go_at_call 63; refine (C_pick _ _ _ _ _ w0 _ (S.front qAt) HB.out ⟨by omega, by omega⟩).mono ?_; rintro e w ⟨y, rfl, hy0, T0⟩; obtain ⟨L, hM, T⟩ := st_name T0; clear T0; clear F S; (try rw [HL.out] at hM); clear HL; (try simp only [List.eraseIdx_cons_zero, List.eraseIdx_cons_succ] at hM); have HL := Lib.hid hM; clear hM; have S := T; clear T; have F := qFc HL S); have hy := hy0 (by omega); clear hy0) | (go_at_call 65; refine (C_odd0 _ _ _ _ w0 _ (S.front qAt)).mono ?_; rintro e w ⟨rfl, T0⟩; obtain ⟨L, hM, T⟩ := st_name T0; clear T0; clear F S; (try rw [HL.out] at hM); clear HL; (try simp only [List.eraseIdx_cons_zero, List.eraseIdx_cons_succ] at hM); have HL := Lib.hid hM; clear hM; have S := T; clear T; have F := qFc HL S) | (refine wpList_lit rfl S _ _ _ rfl 3 Tryz.underlying23 infoInt (by simp [Act.eval]) (by simp [Act.eval, Value.oneCell']) rfl rfl rfl ?_; clear F S; intro g w L hM S; replace HL := qNm HL hM; clear hM; have F := qFc HL S) | (first | (refine wpList_load_lit rfl S _ _ rfl Tryz.underlying3 1 _ _ _ _ (atOf HL rfl) rfl (by simp) (by simp; omega) ?_; intro q hq; have hq := id hq; simp only [List.mem_cons, Value.int.injEq, true_and, List.not_mem_nil, or_false] at hq) | (refine wpList_load_lit rfl S _ _ rfl Tryz.underlying3 2 _ _ _ _ (atOf HL rfl) rfl (by simp) (by simp; omega) ?_; intro q hq; have hq := id hq; simp only [List.mem_cons, Value.int.injEq, true_and, List.not_mem_nil, or_false] at hq) | (refine wpList_load_lit rfl S _ _ rfl Tryz.underlying3 3 _ _ _ _ (atOf HL rfl) rfl (by simp) (by simp; omega) ?_; intro q hq; have hq := id hq; simp only [List.mem_cons, Value.int.injEq, true_and, List.not_mem_nil, or_false] at hq)))
  all_goals
    go_ret
    refine ⟨_, _, rfl, ?_, ?_, ?_, (by rw [HL.out] at S; exact S.sub (by first | exact .refl _ | exact .cons_cons _ (.refl _) | (refine .cons_cons _ ?_; repeat (first | exact .refl _ | refine .cons _ ?_)) | (repeat (first | exact .refl _ | exact .cons_cons _ (.refl _) | refine .cons _ ?_))))⟩
    · simp only [seedOk, Bool.and_eq_true, decide_eq_true_eq]; omega
    all_goals omega
theorem C_SplitMatrixX (R C N : Nat) (xs : List Int) (u : Value) (s : Int) (w0 : World) (h : Ints w0 u xs) (hs : seedOk s = true) (r1 : 1 ≤ R) (r2 : R ≤ 5) (c1 : 1 ≤ C) (c2 : C ≤ 5) (hRC : R * C = N) (hN : xs.length = N) (hN2 : N ≤ 25) (a1 : xs.all rv = true) :
    Calls Tryz.prog 107 #[.agg #[.int .i64 R, .int .i64 C, u], .int .i64 s] w0 fun e w => ∃ u v q zs rs, e = .returned (.tuple #[.agg #[.int .i64 R, .int .i64 C, u, .int .i64 R, .int .i64 C, v], .int .i64 q]) ∧ zs.length = N ∧ rs.length = N ∧ St w0 w [.row 3 1 v N (ints zs), .row 3 1 u N (ints rs)] := by
  refine (C_spec_SplitMatrix R C N xs u s w0 h hs r1 r2 c1 c2 hRC hN hN2 a1).mono ?_
  rintro e w ⟨u, v, rfl, T⟩
  exact ⟨u, v, _, _, _, rfl, tab_length _ _, rndTo_length _ _, T⟩
def DrawsSMx (R : List Ent) (g : Nat) (v : Value) (k : Int) (w0 : World) (e : Ending) (w' : World) : Prop :=
  ∃ (u t : Value) (r c : Int) (xs : List Int) (r' c' : Int) (ys : List Int) (k' : Int), e = .returned (.agg #[.int .i64 r, .int .i64 c, u, .int .i64 r', .int .i64 c', t]) ∧ xs.length ≤ 26 ∧ ys.length ≤ 26 ∧ k ≤ k' ∧ k' ≤ k + 1000 ∧ St w0 w' (.row 3 1 t ys.length (ints ys) :: .row 3 1 u xs.length (ints xs) :: .box g 143 [v, .int .i64 k'] :: R)
theorem C_l20SharedMatrix (R : List Ent) (gr : Nat) (v : Value) (k m : Int) (A B : Nat) (w0 w1 : World) (S0 : St w0 w1 (.box gr 143 [v, .int .i64 k] :: R)) (hB : Bytes w0 v) (hk : 0 ≤ k ∧ k ≤ 500000000)
    (r1 : 1 ≤ A) (r2 : A ≤ 5) (c1 : 1 ≤ B) (c2 : B ≤ 5) (hm : 0 < m) :
    Calls Tryz.prog 64 #[.pointer (some ⟨gr, 0, none⟩), .int .i64 A, .int .i64 B, .int .i64 m] w1 (DrawsSMx R gr v k w0) := by
  have HB := Lib.hid hB
  obtain ⟨k1, k2⟩ := hk
  obtain ⟨N, hN⟩ : ∃ N, A * B = N := ⟨_, rfl⟩
  have hN2 : N ≤ 25 := by
    have : A * B ≤ 5 * 5 := Nat.mul_le_mul r2 c2
    omega
  obtain ⟨A2, hA2⟩ : ∃ A2, 1 + A % 5 = A2 := ⟨_, rfl⟩
  have a1 : 1 ≤ A2 := by omega
  have a2 : A2 ≤ 5 := by omega
  obtain ⟨t5, ht5⟩ : ∃ t, A % 5 = t := ⟨_, rfl⟩
  have et : (A : Int).tmod 5 = (t5 : Int) := by rw [Int.tmod_eq_emod_of_nonneg (by omega), ← ht5]; rfl
  have ea : 1 + (t5 : Int) = (A2 : Int) := by omega
  have ht6 : t5 ≤ 4 := by omega
  have CM0 := fun R gr v k w1 S0 hB hk => C_l20Matrix R gr v k 0 A B N w0 w1 S0 hB hk r1 r2 c1 c2 hN hN2 (by omega)
  have HAB1 : Hid ((1 ≤ A ∧ A ≤ 5) ∧ 1 ≤ B ∧ B ≤ 5) := Lib.hid ⟨⟨r1, r2⟩, c1, c2⟩
  have HAB2 : Hid ((1 ≤ A2 ∧ A2 ≤ 5) ∧ 1 ≤ B ∧ B ≤ 5) := Lib.hid ⟨⟨a1, a2⟩, c1, c2⟩
  have HD := Lib.hid (And.intro r1 (And.intro r2 (And.intro c1 (And.intro c2 (And.intro hN hN2)))))
  clear hB hN ht5 hA2 a1 a2 r1 c1 c2
  obtain ⟨L, HL, S⟩ := st_name S0
  clear S0
  replace HL := Lib.hid HL
  have F := factsAll HL S
  simp only [factsOf, cellsFrom, and_true, true_and, Nat.reduceAdd] at F
  go_enter Tryz.func64, Tryz.ntmps64
  go_upto_region 1 with (first | (refine qal HL S zSMx ?_; clear F S HL; intro g8 w L HL S F))
  go_upto_region 2 with (first | ((go_at_call 108; refine (CM0 _ _ _ _ _ (S.front qAt) HB.out ⟨by omega, by omega⟩).mono ?_; rintro e w ⟨u, mr, mc, xs, k', rfl, hxl, hk1, hk2, hrc, T0⟩; obtain ⟨L, hM, T⟩ := st_name T0; clear T0; clear F S; (try rw [HL.out] at hM); clear HL; (try simp only [List.eraseIdx_cons_zero, List.eraseIdx_cons_succ] at hM); have HL := Lib.hid hM; clear hM; have S := T; clear T; have F := qFc HL S); obtain ⟨A', cap', rfl, hcap', hmax'⟩ := qSl HL S 0; obtain ⟨rfl, rfl, hxn, hall⟩ := hrc rfl; have HXN := Lib.hid (hxn.trans HD.out.2.2.2.2.1); have HALL := Lib.hid hall; clear hrc hxn hall) | ((go_at_call 66; refine (C_l20Seed0 _ _ _ _ w0 _ (S.front qAt) HB.out ⟨by omega, by omega⟩).mono ?_; rintro e w ⟨y, k'', rfl, hsd, hk3, hk4, T0⟩; obtain ⟨L, hM, T⟩ := st_name T0; clear T0; clear F S; (try rw [HL.out] at hM); clear HL; (try simp only [List.eraseIdx_cons_zero, List.eraseIdx_cons_succ] at hM); have HL := Lib.hid hM; clear hM; have S := T; clear T; have F := qFc HL S); have HSD := Lib.hid hsd; clear hsd) | (go_at_call 107; refine (C_SplitMatrixX _ _ N xs _ _ _ (by exact (Sees.row S qAt).ints) HSD.out HD.out.1 HD.out.2.1 HD.out.2.2.1 HD.out.2.2.2.1 HD.out.2.2.2.2.1 HXN.out HD.out.2.2.2.2.2 HALL.out).mono ?_; rintro e w ⟨u2, v2, sq, zs, rs, rfl, hzs, hrs, T0⟩; have hX := qcl HL S T0; clear F S HL T0; obtain ⟨L, HL, S, F⟩ := hX; obtain ⟨A', cap', rfl, hcap', hmax'⟩ := qSl HL S 0; obtain ⟨A', cap', rfl, hcap', hmax'⟩ := qSl HL S 1; have HZS := Lib.hid hzs; have HRS := Lib.hid hrs; clear hzs hrs) | (refine qal HL S zSMx ?_; clear F S HL; intro g9 w L HL S F) | (refine qst HL S 0 ?_; clear F S HL; intro w L HL S F))
  clear CM0
  go_wp2_with (first | (go_at_call 65; refine (C_odd _ _ _ _ _ w0 _ (S.front qAt) HB.out ⟨by omega, by omega⟩).mono ?_; rintro e w ⟨y, k', rfl, hk1, hk2, T0⟩; obtain ⟨L, hM, T⟩ := st_name T0; clear T0; clear F S; (try rw [HL.out] at hM); clear HL; (try simp only [List.eraseIdx_cons_zero, List.eraseIdx_cons_succ] at hM); have HL := Lib.hid hM; clear hM; have S := T; clear T; have F := qFc HL S) | ((go_at_call 63; refine (C_pick _ _ _ _ _ w0 _ (S.front qAt) HB.out ⟨by omega, by omega⟩).mono ?_; rintro e w ⟨y, rfl, hy0, T0⟩; obtain ⟨L, hM, T⟩ := st_name T0; clear T0; clear F S; (try rw [HL.out] at hM); clear HL; (try simp only [List.eraseIdx_cons_zero, List.eraseIdx_cons_succ] at hM); have HL := Lib.hid hM; clear hM; have S := T; clear T; have F := qFc HL S); have hy := hy0 (by omega); clear hy0) | ((go_at_call 108; refine (C_l20MatrixG _ _ _ _ _ _ _ w0 _ (by first | exact HAB1.out | exact HAB2.out) (by omega) (S.front qAt) HB.out ⟨by omega, by omega⟩).mono ?_; rintro e w ⟨u3, mr, mc, xs3, k3, rfl, hxl3, hk5, hk6, hrc3, T0⟩; obtain ⟨L, hM, T⟩ := st_name T0; clear T0; clear F S; (try rw [HL.out] at hM); clear HL; (try simp only [List.eraseIdx_cons_zero, List.eraseIdx_cons_succ] at hM); have HL := Lib.hid hM; clear hM; have S := T; clear T; have F := qFc HL S); clear hrc3; obtain ⟨A', cap', rfl, hcap', hmax'⟩ := qSl HL S 0) | (refine qst HL S 0 ?_; clear F S HL; intro w L HL S F) | (refine qst HL S 1 ?_; clear F S HL; intro w L HL S F) | (refine qst HL S 2 ?_; clear F S HL; intro w L HL S F) | (refine qst HL S 3 ?_; clear F S HL; intro w L HL S F) | (refine qst HL S 4 ?_; clear F S HL; intro w L HL S F) | (refine qst HL S 5 ?_; clear F S HL; intro w L HL S F) | (refine qst HL S 6 ?_; clear F S HL; intro w L HL S F))
  · ((try simp only [Exit.inBlock, Exit.then]); refine ret1 rfl (resCell S HL 6 rfl rfl (by kernel_rfl)) rfl ?_)
    (have T := S.front (atOf HL (p := 3) rfl); rw [HL.out] at T; simp only [List.eraseIdx_cons_succ, List.eraseIdx_cons_zero] at T)
    refine ⟨_, _, _, _, xs3, _, _, zs, k3, rfl, hxl3, by rw [HZS.out]; have := HD.out.2.2.2.2.2; omega, by omega, by omega, ?_⟩
    rw [HZS.out]
    exact T.sub (by repeat (first | exact .refl _ | exact List.nil_sublist _ | apply List.Sublist.cons_cons | apply List.Sublist.cons))
  · ((try simp only [Exit.inBlock, Exit.then]); refine ret1 rfl (resCell S HL 6 rfl rfl (by kernel_rfl)) rfl ?_)
    (have T := S.front (atOf HL (p := 4) rfl); rw [HL.out] at T; simp only [List.eraseIdx_cons_succ, List.eraseIdx_cons_zero] at T)
    have T2 := T.front (p := 1) (show At _ 1 _ from rfl)
    simp only [List.eraseIdx_cons_succ, List.eraseIdx_cons_zero] at T2
    refine ⟨_, _, _, _, rs, _, _, xs3, k3, rfl, by rw [HRS.out]; have := HD.out.2.2.2.2.2; omega, hxl3, by omega, by omega, ?_⟩
    rw [HRS.out]
    exact T2.sub (by repeat (first | exact .refl _ | exact List.nil_sublist _ | apply List.Sublist.cons_cons | apply List.Sublist.cons))
  · ((try simp only [Exit.inBlock, Exit.then]); refine ret1 rfl (resCell S HL 5 rfl rfl (by kernel_rfl)) rfl ?_)
    rw [HL.out] at S
    have T := (S.nilRow 3 1).nilRow 3 1
    exact ⟨_, _, _, _, [], _, _, [], k' + 1, rfl, by simp, by simp, by omega, by omega, T.sub (by repeat (first | exact .refl _ | exact List.nil_sublist _ | apply List.Sublist.cons_cons | apply List.Sublist.cons))⟩
  · ((try simp only [Exit.inBlock, Exit.then]); refine ret1 rfl (resCell S HL 5 rfl rfl (by kernel_rfl)) rfl ?_)
    (have T := S.front (atOf HL (p := 3) rfl); rw [HL.out] at T; simp only [List.eraseIdx_cons_succ, List.eraseIdx_cons_zero] at T)
    have T2 := T.front (p := 3) (show At _ 3 _ from rfl)
    simp only [List.eraseIdx_cons_succ, List.eraseIdx_cons_zero] at T2
    refine ⟨_, _, _, _, rs, _, _, zs, k', rfl, by rw [HRS.out]; have := HD.out.2.2.2.2.2; omega, by rw [HZS.out]; have := HD.out.2.2.2.2.2; omega, by omega, by omega, ?_⟩
    rw [HRS.out, HZS.out]
    exact T2.sub (by repeat (first | exact .refl _ | exact List.nil_sublist _ | apply List.Sublist.cons_cons | apply List.Sublist.cons))
theorem C_l20SharedMatrixG (R : List Ent) (gr : Nat) (v : Value) (k m : Int) (A B : Nat) (w0 w1 : World) (hAB : (1 ≤ A ∧ A ≤ 5) ∧ 1 ≤ B ∧ B ≤ 5) (hm : 0 < m) (S0 : St w0 w1 (.box gr 143 [v, .int .i64 k] :: R)) (hB : Bytes w0 v) (hk : 0 ≤ k ∧ k ≤ 500000000) :
    Calls Tryz.prog 64 #[.pointer (some ⟨gr, 0, none⟩), .int .i64 A, .int .i64 B, .int .i64 m] w1 (DrawsSMx R gr v k w0) :=
  C_l20SharedMatrix R gr v k m A B w0 w1 S0 hB hk hAB.1.1 hAB.1.2 hAB.2.1 hAB.2.2 hm
end
section
theorem SeesSLs.front {w : World} {A : Option Addr} {n cap : Nat} {ls : List SLy} (h : SeesSLs w (.slice A n cap) ls) (k : Nat) (hk : k ≤ n) : SeesSLs w (.slice A k cap) (ls.take k) := by
  obtain ⟨A', cap', e, hc, hm, h2⟩ := h
  injection e with e1 e2 e3
  subst e1; subst e2; subst e3
  have hl : (ls.take k).length = k := by rw [List.length_take]; omega
  refine ⟨A, cap, by rw [hl], by rw [hl]; omega, hm, fun hn => ?_⟩
  rw [hl] at hn
  obtain ⟨b, off, rfl, hlt, h3⟩ := h2 (by omega)
  refine ⟨b, off, rfl, hlt, fun q l hq => h3 q l ?_⟩
  rw [List.getElem?_take] at hq
  split at hq
  · exact hq
  · cases hq
theorem SeesSLs.rest {w : World} {n cap b off : Nat} {ls : List SLy} (h : SeesSLs w (.slice (some ⟨b, off, none⟩) n cap) ls) (k m : Nat) (hk : k + m = n) (off' cap' : Nat) (ho : off' = off + k * 2) (hc' : m ≤ cap' ∧ cap' ≤ cap) : SeesSLs w (.slice (some ⟨b, off', none⟩) m cap') (ls.drop k) := by
  obtain ⟨A', cap0, e, hc, hm, h2⟩ := h
  injection e with e1 e2 e3
  subst e1; subst e3
  have hl : (ls.drop k).length = m := by rw [List.length_drop]; omega
  refine ⟨_, cap', by rw [hl], by rw [hl]; exact hc'.1, by omega, fun hn => ?_⟩
  rw [hl] at hn
  obtain ⟨b', off0, e, hlt, h3⟩ := h2 (by omega)
  injection e with e
  injection e with e1 e2 e3
  subst e1; subst e2; subst ho
  refine ⟨b, off + k * 2, rfl, hlt, fun q l hq => ?_⟩
  rw [List.getElem?_drop] at hq
  obtain ⟨u, c1, c2, hu⟩ := h3 _ l hq
  refine ⟨u, ?_, ?_, hu⟩
  · rwa [Nat.add_mul, ← Nat.add_assoc] at c1
  · rwa [Nat.add_mul, ← Nat.add_assoc] at c2
theorem SeesSMs.rest {w : World} {n cap b off : Nat} {ms : List SMx} (h : SeesSMs w (.slice (some ⟨b, off, none⟩) n cap) ms) (k m : Nat) (hk : k + m = n) (off' cap' : Nat) (ho : off' = off + k * 6) (hc' : m ≤ cap' ∧ cap' ≤ cap) : SeesSMs w (.slice (some ⟨b, off', none⟩) m cap') (ms.drop k) := by
  obtain ⟨A', cap0, e, hc, hm, h2⟩ := h
  injection e with e1 e2 e3
  subst e1; subst e3
  have hl : (ms.drop k).length = m := by rw [List.length_drop]; omega
  refine ⟨_, cap', by rw [hl], by rw [hl]; exact hc'.1, by omega, fun hn => ?_⟩
  rw [hl] at hn
  obtain ⟨b', off0, e, hlt, h3⟩ := h2 (by omega)
  injection e with e
  injection e with e1 e2 e3
  subst e1; subst e2; subst ho
  refine ⟨b, off + k * 6, rfl, hlt, fun q l hq => ?_⟩
  rw [List.getElem?_drop] at hq
  obtain ⟨u, t, c1, c2, c3, c4, c5, c6, hu, ht⟩ := h3 _ l hq
  refine ⟨u, t, ?_, ?_, ?_, ?_, ?_, ?_, hu, ht⟩
  · rwa [Nat.add_mul, ← Nat.add_assoc] at c1
  · rwa [Nat.add_mul, ← Nat.add_assoc] at c2
  · rwa [Nat.add_mul, ← Nat.add_assoc] at c3
  · rwa [Nat.add_mul, ← Nat.add_assoc] at c4
  · rwa [Nat.add_mul, ← Nat.add_assoc] at c5
  · rwa [Nat.add_mul, ← Nat.add_assoc] at c6
end
section
open Go Go.RowKit Go.ChangeShapes Go.WideShapes Go.ChangeAt
def isByteT (P : Program) (t : Nat) : Bool := match P.underlying t with | some (.int .u8) => decide (P.cellsOf t = 1) | _ => false
section
variable {H : Type} {enc : TypeId × Value → H} {P : Program} {w : World} {spare : Nat → Bool} {held : Bool}
theorem open_bytes {r : Reach} {b0 t e : Nat} {v : Value} {d : DataW H} {p : List MemPlace} (hk : (isSliceT P t e && isByteT P e) = true) (hv : Value.okWide P w r b0 t v) (h : DataW.Trod enc P w 0 spare held t v d p) : Bytes w v := by
  simp only [Bool.and_eq_true] at hk
  obtain ⟨hs, hf⟩ := hk
  unfold isByteT at hf
  split at hf
  rotate_left
  · cases hf
  rename_i hu8
  have hc : P.cellsOf e = 1 := by simpa using hf
  unfold isSliceT at hs
  split at hs
  rotate_left
  · cases hs
  rename_i e' hu
  have he : e' = e := by simpa using hs
  subst he
  obtain ⟨A, len, cap, rfl⟩ := okWide_slice hu hv
  obtain ⟨fuel, hf'⟩ := h
  rcases Go.Deep.open_slice hu hf' with ⟨h0, _⟩ | ⟨a, len', cap', m, k, D, Pl, h0, _, hl, hm, hmm, _, hi⟩
  · have h0' : Value.slice A len cap = .slice none 0 0 := by simpa [Value.cells] using h0
    injection h0' with h1 h2 h3
    subst h1; subst h2; subst h3
    exact ⟨none, 0, 0, rfl, Nat.le_refl _, by simp [maxLen], fun h => absurd h (by omega)⟩
  · have h0' : Value.slice A len cap = .slice (some a) len' cap' := by simpa [Value.cells] using h0
    injection h0' with h1 h2 h3
    subst h1; subst h2; subst h3
    have hml : len ≤ m := by rw [hmm]; split <;> omega
    have key : ∀ q, q < len → ∃ z : Int, 0 ≤ z ∧ z < 256 ∧ w.cell? (a.add q) = some (.int .u8 z) := by
      intro q hq
      obtain ⟨cs', hcs, ht⟩ := hi q (by omega)
      obtain ⟨z, rfl, _, hw⟩ := DataW.trod_int hu8 ht
      obtain ⟨_, _, hcell⟩ := World.cells?_some hcs
      have h1 := hcell 0 (by rw [hc]; omega)
      rw [addr_add_add, hc, Nat.mul_one, Nat.add_zero] at h1
      have hz : 0 ≤ z ∧ z ≤ 255 := by simpa [Lit.wf, IntKind.min, IntKind.max, IntKind.signed, IntKind.bits] using hw
      exact ⟨z, hz.1, by omega, h1⟩
    refine ⟨some a, len, cap, rfl, hl, hm, fun hlen => ?_⟩
    obtain ⟨z, _, _, h00⟩ := key 0 hlen
    have e0 : a.add 0 = a := by unfold Addr.add; simp
    rw [e0] at h00
    have hsp := cell_spot h00
    obtain ⟨b, off, spot⟩ := a
    simp only at hsp
    subst hsp
    refine ⟨b, off, rfl, World.block_lt_of_cell? w _ h00, fun j hj => ?_⟩
    obtain ⟨z, z0, z1, hz⟩ := key j hj
    have e : (⟨b, off, none⟩ : Addr).add j = ⟨b, off + j, none⟩ := by unfold Addr.add; split <;> simp_all
    exact ⟨z, z0, z1, by rwa [e] at hz⟩
end
end
end Go.Proofs.YtjgfjfjboimgdaaGreat
