/- TbS MtS -/
import Derived.Test.YtjgfjfjboimgdaaGreatY23
namespace Go.Proofs.YtjgfjfjboimgdaaGreat
set_option linter.unusedSimpArgs false
set_option linter.unusedVariables false
set_option linter.unusedSectionVars false
open Go Go.RowKit
set_option maxHeartbeats 8000000
set_option maxRecDepth 20000
section
attribute [local irreducible] wpList Oper.wp Calls
theorem C_l1InT (n lo hi : Int) (w0 : World) (h : lo ≤ n ∧ n ≤ hi) : Calls Tryz.prog 44 #[.int .i64 n, .int .i64 lo, .int .i64 hi] w0 fun e w' => e = .returned (.bool true) ∧ w0 = w' := by
  have := C_spec_l1In n lo hi w0
  rw [decide_eq_true h.1, decide_eq_true h.2] at this
  exact this
theorem C_l1RingL (n q : Int) (w0 : World) (h : ro n = q) : Calls Tryz.prog 96 #[.int .i64 n] w0 fun e w' => e = .returned (.int .i64 q) ∧ w0 = w' := h ▸ C_spec_l1Ring n w0
theorem rv_bd2 {x : Int} (h : rv x = true) : 0 ≤ x ∧ x < 4096 := by simpa [rv] using h
theorem C_spec_FunctionValues (k : Int) (hk : 1 ≤ k ∧ k ≤ 5) (w0 : World) : Calls Tryz.prog 92 #[.int .i64 k] w0 fun e w => ∃ u, e = .returned u ∧ St w0 w [.row 3 1 u 4096 (ints (valsOf k))] := by
  have HK := Lib.hid (show k = 1 ∨ k = 2 ∨ k = 3 ∨ k = 4 ∨ k = 5 by omega)
  have CI := fun w => C_l1InT k 1 5 w hk
  clear hk
  obtain ⟨L, HL, S⟩ := st_start w0; have F : True := trivial
  go_enter Tryz.func92, Tryz.ntmps92
  go_upto_region 2 with (first | (refine wpList_empty rfl S _ rfl 3 Tryz.underlying23 infoInt ?_; clear F S; intro g w L hM S; replace HL := qNm HL hM; clear hM; have F := qFc HL S))
  go_wp2
  go_loopw [3, 4] (fun u i wr => ∃ (q : Nat) (L : List Ent), q ≤ 4096 ∧ i = .int .i64 q ∧ Hid (L = [.row 3 1 u q (ints (tab q fun j => fnAt k j))]) ∧ St w0 wr L) (fun _ i _ => 4096 - (intOf i).toNat)
  case atStart => exact ⟨0, L, Nat.zero_le _, rfl, HL, S⟩
  case round =>
    clear F HL S
    obtain ⟨q, L, hq, rfl, HL, S⟩ := hrel
    have F : True := trivial
    by_cases hlt : q < 4096
    · obtain ⟨z, hz⟩ : ∃ z, fnAt k q = z := ⟨_, rfl⟩
      have CF := fun w => C_spec_FunctionAt k q z w (nat_rv hlt) HK.out hz
      have ea : ints (tab q fun j => fnAt k j) ++ [.int .i64 z] = ints (tab (q + 1) fun j => fnAt k j) := by
        rw [tab_succ, ints_append, hz]
        rfl
      have EA := Lib.hid ea
      clear ea hz
      generalize ints (tab q fun j => fnAt k j) = X at HL EA
      go_wp2_with (first | (go_at_call 44; refine qPu (CI _) ?_) | (go_at_call 128; refine qPu (CF _) ?_) | (refine wpList_lit rfl S _ _ _ rfl 3 Tryz.underlying23 infoInt (by simp [Act.eval]) (by simp [Act.eval, Value.oneCell']) rfl rfl rfl ?_; clear F S; intro g w L hM S; replace HL := qNm HL hM; clear hM; have F := qFc HL S) | (refine wpList_append_box rfl S _ _ _ rfl 3 _ 1 8 Tryz.underlying23 infoInt rfl (by omega) _ _ _ _ rfl qAt (by omega) _ _ _ _ _ _ rfl qAt rfl rfl rfl rfl ?_; clear F S; intro u w L hM S; replace HL := qNm HL hM; clear hM; have F := qFc HL S))
      go_roundw
      case rel =>
        rw [EA.out] at HL
        exact ⟨q + 1, _, by omega, by go_num, Lib.hid rfl, (by rw [HL.out] at S; exact S.sel (by exact qSel))⟩
      case measure => simp [intOf]; omega
    · obtain rfl : q = 4096 := by omega
      go_wp2
      go_ret
      rw [HL.out] at S
      exact ⟨_, rfl, S⟩
theorem C_l10Good (v : Value) (xs : List Int) (w0 : World) (h : Ints w0 v xs) (hl : xs.length = 4096) (ha : xs.all rv = true) : Calls Tryz.prog 129 #[v] w0 fun e w' => e = .returned (.bool true) ∧ Below w0.heap.size w0 w' := by
  obtain ⟨_, A, cap, rfl, hcap, hmax, hA⟩ := h
  rw [hl] at hcap hA ⊢
  obtain ⟨b, off, rfl, hb, hc⟩ := hA (by omega)
  have HC := Lib.hid hc
  have HA := Lib.hid ha
  have HL0 := Lib.hid hl
  clear hA hc ha hl
  obtain ⟨L, HL, S⟩ := st_start w0; have F : True := trivial
  go_enter Tryz.func129, Tryz.ntmps129
  go_wp2
  go_loopw [3] (fun i wr => ∃ (q : Nat), q ≤ 4096 ∧ i = .int .i64 q ∧ St w0 wr L) (fun i _ => 4096 - (intOf i).toNat)
  case atStart => exact ⟨0, Nat.zero_le _, rfl, S⟩
  case round =>
    clear S
    obtain ⟨q, hq, rfl, S⟩ := hrel
    by_cases hlt : q < 4096
    · have c0 := (S.below.cell (p := ⟨b, off + q, none⟩) hb).trans (HC.out q _ (ints_getD xs q (by rw [HL0.out]; exact hlt)))
      have hr := getD_rv HA.out q
      generalize xs.getD q 0 = x at c0 hr
      have CR := fun w => C_spec_RingValid x w
      rw [hr] at CR
      clear hr
      go_wp2_with (first | (go_at_call 136; refine qPu (CR _) ?_))
      go_roundw
      case rel => exact ⟨q + 1, by omega, by go_num, S⟩
      case measure => simp [intOf]; omega
    · obtain rfl : q = 4096 := by omega
      go_wp2
      go_ret
      exact ⟨rfl, S.below⟩
theorem C_spec_TableValid (p q : Int) (fs ss : List Int) (u v : Value) (w0 : World) (h2 : Sh.ok ⟨p, q⟩ = true) (hu : Ints w0 u fs) (hv : Ints w0 v ss) (lf : fs.length = 4096) (ls : ss.length = 4096) (af : fs.all rv = true) (az : ss.all rv = true) :
    Calls Tryz.prog 133 #[.agg #[.int .i64 p, .int .i64 q, u, v]] w0 fun e w' => e = .returned (.bool true) ∧ Below w0.heap.size w0 w' := by
  have HU := Lib.hid hu
  have HV := Lib.hid hv
  have CS := fun w => C_spec_SharedValid p q w
  rw [h2] at CS
  obtain ⟨_, A, cap, rfl, hcap, hmax, _⟩ := hu
  obtain ⟨_, B, cap', rfl, hcap', hmax', _⟩ := hv
  have CU := fun w h => C_l10Good (.slice A fs.length cap) fs w h lf af
  have CW := fun w h => C_l10Good (.slice B ss.length cap') ss w h ls az
  clear lf ls af az h2
  obtain ⟨L, HL, S⟩ := st_start w0; have F : True := trivial
  go_enter Tryz.func133, Tryz.ntmps133
  go_wp2_with (first | (refine qbx HL S ?_; clear F S HL; intro g w L HL S F) | (go_at_call 132; refine qGr S (CS _) ?_; clear S; intro w S) | (go_at_call 129; refine qGr S (CU _ (HU.out.at_ S)) ?_; clear S; intro w S) | (go_at_call 129; refine qGr S (CW _ (HV.out.at_ S)) ?_; clear S; intro w S))
  go_ret
  exact ⟨rfl, S.below⟩
theorem C_spec_UseTable (a b p q : Int) (fs ss : List Int) (u v : Value) (o : Nat) (x y : Int) (w0 : World) (h1 : Sh.ok ⟨a, b⟩ = true) (h2 : Sh.ok ⟨p, q⟩ = true) (hu : Ints w0 u fs) (hv : Ints w0 v ss) (lf : fs.length = 4096) (ls : ss.length = 4096) (af : fs.all rv = true) (az : ss.all rv = true)
    (ho : addR (joinS ⟨a, b⟩) (joinS ⟨p, q⟩) = (o : Int)) (ho2 : o < 4096) (hx : fs.getD o 0 = x) (hy : ss.getD o 0 = y) :
    Calls Tryz.prog 94 #[.agg #[.int .i64 a, .int .i64 b], .agg #[.int .i64 p, .int .i64 q, u, v]] w0 fun e w' => e = .returned (.tuple #[.agg #[.int .i64 x, .int .i64 y], .int .i64 (o : Int), .bool true]) ∧ Below w0.heap.size w0 w' := by
  have CT := fun w hu hv => C_spec_TableValid p q fs ss u v w h2 hu hv lf ls af az
  have CS := fun w => C_spec_SharedValid a b w
  rw [h1] at CS
  have CAD := fun w => C_spec_AddShares a b p q w
  have ej := join_addS h1 h2
  rw [ho] at ej
  obtain ⟨⟨sa, sb⟩, hsum⟩ : ∃ t, addS ⟨a, b⟩ ⟨p, q⟩ = t := ⟨_, rfl⟩
  rw [hsum] at ej CAD
  dsimp only at CAD
  have CJ := fun w => C_spec_JoinShares sa sb w
  rw [ej] at CJ
  have HU := Lib.hid hu
  have HV := Lib.hid hv
  obtain ⟨_, A, cap, rfl, hcap, hmax, hA⟩ := hu
  obtain ⟨_, B, cap', rfl, hcap', hmax', hB⟩ := hv
  obtain ⟨bu, ou, rfl, hbu, hcu⟩ := hA (by omega)
  obtain ⟨bv, ov, rfl, hbv, hcv⟩ := hB (by omega)
  have x0 := hcu o _ (ints_getD fs o (by omega))
  have y0 := hcv o _ (ints_getD ss o (by omega))
  rw [hx] at x0
  rw [hy] at y0
  have X0 := Lib.hid x0
  have Y0 := Lib.hid y0
  rw [lf] at HU hcap CT
  rw [ls] at HV hcap' CT
  rw [lf, ls]
  have ho3 : (o : Int) < 4096 := by omega
  clear lf ls af az h1 h2 ho hx hy x0 y0 hcu hcv hA hB ej hsum
  obtain ⟨L, HL, S⟩ := st_start w0; have F : True := trivial
  go_enter Tryz.func94, Tryz.ntmps94
  go_upto_region 4 with (first | (refine qbd 2 HL S ?_; clear F S HL; intro g2 w L HL S F) | (refine qbd 3 HL S ?_; clear F S HL; intro g3 w L HL S F) | (refine qal HL S zSh ?_; clear F S HL; intro gr w L HL S F) | (go_at_call 132; refine qGr S (CS _) ?_; clear S; intro w S) | (go_at_call 133; refine qGr S (CT _ (HU.out.at_ S) (HV.out.at_ S)) ?_; clear S; intro w S) | (go_at_call 135; refine qGr S (CAD _) ?_; clear S; intro w S) | (go_at_call 131; refine qGr S (CJ _) ?_; clear S; intro w S))
  have hT := congrArg List.tail HL.out; simp only [List.tail_cons] at hT; obtain ⟨L1, hL1⟩ : ∃ M, M = L.tail := ⟨_, rfl⟩; rw [← hL1] at hT; have HL0 := Lib.hid hT; have S1 := S.sub (List.tail_sublist L); rw [← hL1] at S1; have F0 := qFc HL0 S1; clear S1 hL1 hT; (have f0 := fun w' (S' : St w0 w' L1) => (S'.below.cell (p := ⟨bu, ou + o, none⟩) hbu).trans X0.out); (have f1 := fun w' (S' : St w0 w' L1) => (S'.below.cell (p := ⟨bv, ov + o, none⟩) hbv).trans Y0.out); refine wp_region_tree (S := fun w' => St w0 w' L1) (qcs 0 12 (.act 12 (.calm 13 (.calm 14 .fin)) .stop)) (by kernel_rfl) (by kernel_rfl) (by kernel_rfl) (by intro c a d v w h; cases d <;> exact h) ?_; dsimp only [qcs, Nat.reduceAdd]; replace S := S.drew
  repeat (first | refine qCa ?_ | refine qAn ?_ | refine qSk ?_ | (refine tree_act rfl rfl ?_ tree_stop; intro K hK; (refine qsw HL S 0 ?_; clear F S HL; intro w L HL S F); (refine qKo hK ?_; clear hK K)) | (refine tree_act rfl rfl ?_ tree_stop; intro K hK; go_wp2_with (first | fail); (refine qKo hK ?_; clear hK K)))
  refine tree_fin ?_
  clear HL0 F0 f0 f1
  go_wp2
  refine ret3 rfl (resCell S HL 0 rfl rfl (by kernel_rfl)) (show _ = _ from rfl) (show _ = _ from rfl) rfl ?_
  exact ⟨rfl, S.below⟩
theorem C_spec_MakeTable (vs : List Int) (v : Value) (s : Int) (w0 : World) (h : Ints w0 v vs) (hl : vs.length = 4096) (ha : vs.all rv = true) (hs : seedOk s = true) :
    Calls Tryz.prog 93 #[v, .int .i64 s] w0 (MakesTab w0 (shiftAt s).a (shiftAt s).b (firstAt s) (secondAt vs s) (tabNext s)) := by
  unfold MakesTab
  have HV0 := Lib.hid h
  obtain ⟨_, A, cap, rfl, hcap, hmax, hA⟩ := h
  have CA := fun w h => C_l10Good (.slice A vs.length cap) vs w h hl ha
  have hsb := seedOk_bd hs
  have hsb2 := seedOk_bd (seedOk_at hs 2)
  have CS := fun w => C_l1InT s 1 2147483646 w hsb
  have C1 := fun w => C_spec_l4List s 2 w ⟨by omega, hsb.2⟩ (by omega)
  have C2 := fun w => C_spec_l4List (seedAt s 2) 4096 w ⟨by omega, hsb2.2⟩ (by omega)
  unfold MakesRnd at C1 C2
  have HV : Hid (Ints w0 (.slice A 4096 cap) vs) := Lib.hid (by rw [← hl]; exact HV0.out)
  rw [hl] at hcap hA CA
  rw [hl]
  clear HV0
  obtain ⟨bv, ov, rfl, hbv, hcv⟩ := hA (by omega)
  have HCV := Lib.hid hcv
  obtain ⟨a, b, hab⟩ := two_of (rndTo_length s 2)
  have e1 : (shiftAt s).a = a := by show (rndTo s 2).getD 0 0 = a; rw [hab]; rfl
  have e2 : (shiftAt s).b = b := by show (rndTo s 2).getD 1 0 = b; rw [hab]; rfl
  have HVR := Lib.hid ha
  have HFR := Lib.hid (firstAt_all s)
  have hsec : ∀ q, secondV vs s q = subR (vs.getD (ro (q - joinS ⟨a, b⟩)).toNat 0) ((firstAt s).getD q 0) := fun q => by
    show subR (vs.getD (ro (q - joinS (shiftAt s))).toNat 0) _ = _
    have : shiftAt s = ⟨a, b⟩ := by rw [← e1, ← e2]
    rw [this]
  have HSEC := Lib.hid hsec
  rw [hab] at C1
  rw [e1, e2]
  have hfl := firstAt_len s
  have hr : rndTo (seedAt s 2) 4096 = firstAt s := rfl
  rw [hr] at C2
  have hz : seedAt (seedAt s 2) 4096 = tabNext s := rfl
  rw [hz] at C2
  have hsa : secondAt vs s = tab 4096 (secondV vs s) := rfl
  rw [hsa]
  have HFL := Lib.hid hfl
  have HLV := Lib.hid hl
  clear hab e1 e2 hsec hr hz hsa hfl ha hs hcv hA hl hsb hsb2
  generalize firstAt s = fs at *
  generalize secondV vs s = sv at *
  generalize tabNext s = z at *
  generalize seedAt s 2 = s1 at *
  have hsh : 0 ≤ joinS ⟨a, b⟩ ∨ joinS ⟨a, b⟩ = -1 := by
    unfold joinS addR
    split
    · left; unfold ro; omega
    · right; rfl
  have hsh2 : joinS ⟨a, b⟩ < 4096 := by
    unfold joinS addR
    split
    · unfold ro; omega
    · omega
  have CJ := fun w => C_spec_JoinShares a b w
  obtain ⟨sh, hshd⟩ : ∃ sh, joinS ⟨a, b⟩ = sh := ⟨_, rfl⟩
  rw [hshd] at hsh hsh2 CJ HSEC
  have hsh1 : -1 ≤ sh := by omega
  clear hshd hsh
  obtain ⟨L, HL, S⟩ := st_start w0; have F : True := trivial
  go_enter Tryz.func93, Tryz.ntmps93
  go_upto_region 3 with (first | (refine qal HL S zTable ?_; clear F S HL; intro gr w L HL S F) | (go_at_call 129; refine qGr S (CA _ (HV.out.at_ S)) ?_; clear S; intro w S) | (go_at_call 44; refine qPu (CS _) ?_))
  go_upto_region 4 with (first | (go_at_call 130; refine (C1 _).mono ?_; rintro e w ⟨u, rfl, T0⟩; have hX := qcl HL S T0; clear F S HL T0; obtain ⟨L, HL, S, F⟩ := hX))
  go_upto_region 5 with (first | (go_at_call 130; refine (C2 _).mono ?_; rintro e w ⟨u, rfl, T0⟩; have hX := qcl HL S T0; clear F S HL T0; obtain ⟨L, HL, S, F⟩ := hX))
  obtain ⟨g2, c2, rfl, hc2, hm2⟩ := S.rowAt (p := 0) (atOf HL rfl) (by omega)
  obtain ⟨g1, c1, rfl, hc1, hm1⟩ := S.rowAt (p := 1) (atOf HL rfl) (by omega)
  have D0 := fun w' (S' : St w0 w' L) => (S'.rowCell (p := 1) (atOf HL rfl) 0 (by omega))
  have D1 := fun w' (S' : St w0 w' L) => (S'.rowCell (p := 1) (atOf HL rfl) 1 (by omega))
  simp only [ints, List.map_cons, List.map_nil, List.getElem?_cons_zero, List.getElem?_cons_succ] at D0 D1
  clear C1 C2 CA CS
  have HL0 := HL; have F0 := F; refine wp_region_tree (S := fun w' => St w0 w' L) (qcs 0 9 (.act 9 (.act 10 .fin .stop) .stop)) (by kernel_rfl) (by kernel_rfl) (by kernel_rfl) (by intro c a d v w h; cases d <;> exact h) ?_; dsimp only [qcs, Nat.reduceAdd]; replace S := S.drew
  repeat (first | refine qCa ?_ | refine qAn ?_ | refine qSk ?_ | (refine tree_act rfl rfl ?_ tree_stop; intro K hK; (refine qaw HL S zTable ?_; clear F S HL; intro gt w L HL S F); (refine qKo hK ?_; clear hK K)) | (refine tree_act rfl rfl ?_ tree_stop; intro K hK; (refine qsw HL S 0 ?_; clear F S HL; intro w L HL S F); (refine qKo hK ?_; clear hK K)) | (refine tree_act rfl rfl ?_ tree_stop; intro K hK; go_wp2_with (first | fail); (refine qKo hK ?_; clear hK K)))
  refine tree_fin ?_
  clear D0 D1 HL0 F0
  go_upto_region 7 with (first | (go_at_call 131; refine qGr S (CJ _) ?_; clear S; intro w S))
  clear CJ
  rw [HL.out] at S
  replace S := S.nilRow 3 1
  clear HL F
  obtain ⟨L, hM, T⟩ := st_name S; clear S; have S := T; clear T; have HL := Lib.hid hM; clear hM; have F := qFc HL S
  go_wp2
  go_loopw [12] (fun i wr => ∃ (q : Nat) (E : Option Addr) (m : Nat) (L : List Ent), q ≤ 4096 ∧ i = .int .i64 q ∧ Hid (L = [.row 3 1 (.slice E q m) q (ints (tab q sv)), .box gt 126 [.int .i64 a, .int .i64 b, .slice (some ⟨g2, 0, none⟩) 4096 c2, .slice E q m], .row 3 1 (.slice (some ⟨g2, 0, none⟩) 4096 c2) 4096 (ints fs), .row 3 1 (.slice (some ⟨g1, 0, none⟩) 2 c1) 2 (ints [a, b]), .box gr 126 [.int .i64 0, .int .i64 0, .slice none 0 0, .slice none 0 0]]) ∧ St w0 wr L) (fun i _ => 4096 - (intOf i).toNat)
  case atStart => exact ⟨0, none, 0, L, Nat.zero_le _, rfl, HL, S⟩
  case round =>
    clear F HL S
    obtain ⟨q, E, m, L, hq, rfl, HL, S⟩ := hrel
    have F := factsAll HL S
    simp only [factsOf, cellsFrom, and_true, true_and, Nat.reduceAdd] at F
    by_cases hlt : q < 4096
    · obtain ⟨j, hj, hj2⟩ : ∃ j : Nat, ro ((q : Int) - sh) = (j : Int) ∧ j < 4096 := ⟨(ro ((q : Int) - sh)).toNat, by unfold ro; omega, by unfold ro; omega⟩
      have hz := HSEC.out q
      rw [hj, Int.toNat_natCast] at hz
      have rx := getD_rv HVR.out j
      have ry := getD_rv HFR.out q
      have x0 := HCV.out j _ (ints_getD vs j (by rw [HLV.out]; exact hj2))
      have y0 := ints_getD fs q (by rw [HFL.out]; exact hlt)
      generalize vs.getD j 0 = x at x0 hz rx
      generalize fs.getD q 0 = y at y0 hz ry
      rw [subR_ok rx ry] at hz
      have bx := rv_bd2 rx
      have by' := rv_bd2 ry
      obtain ⟨z2, hz2⟩ : ∃ z2, sv q = z2 := ⟨_, rfl⟩
      rw [hz2] at hz
      have ea : ints (tab q sv) ++ [.int .i64 z2] = ints (tab (q + 1) sv) := by
        rw [tab_succ, ints_append, hz2]
        rfl
      have X0 := Lib.hid x0
      have Y0 := Lib.hid y0
      have EQ := Lib.hid hz.symm
      have EA := Lib.hid ea
      have HJ := Lib.hid hj
      have v2 : IntKind.i64.wrap ((q : Int) - sh) = (q : Int) - sh := wrap_small (by omega)
      have v3 : IntKind.i64.wrap (x - y) = x - y := wrap_small (by omega)
      have hj4 : (j : Int) < 4096 := by omega
      generalize ints (tab q sv) = X at HL EA
      clear x0 y0 hz ea hj hz2 rx ry bx by'
      go_upto_region 10 with fail
      have hT := congrArg List.tail HL.out; simp only [List.tail_cons] at hT; obtain ⟨L1, hL1⟩ : ∃ M, M = L.tail := ⟨_, rfl⟩; rw [← hL1] at hT; have HL0 := Lib.hid hT; have S1 := S.sub (List.tail_sublist L); rw [← hL1] at S1; have F0 := qFc HL0 S1; clear S1 hL1 hT; (have f0 := fun w' (S' : St w0 w' L1) => (S'.below.cell (p := ⟨bv, ov + j, none⟩) hbv).trans X0.out); (have f1 := fun w' (S' : St w0 w' L1) => (S'.rowCell (p := 1) (atOf HL0 rfl) q (by omega)).trans Y0.out); refine wp_region_tree (S := fun w' => St w0 w' L1) (qcs 0 6 (qcs 9 4 (.act 6 (.calm 7 (.calm 8 (.calm 13 (.act 14 (.act 15 (.act 16 (.calm 17 (.act 18 .fin .stop)) .stop) .stop) .stop)))) .stop))) (by kernel_rfl) (by kernel_rfl) (by kernel_rfl) (by intro c a d v w h; cases d <;> exact h) ?_; dsimp only [qcs, Nat.reduceAdd]; replace S := S.drew
      repeat (first | refine qCa ?_ | refine qAn ?_ | refine qSk ?_ | (refine tree_act rfl rfl ?_ tree_stop; intro K hK; (refine qsw HL S 2 ?_; clear F S HL; intro w L HL S F); (refine qKo hK ?_; clear hK K)) | (refine tree_act rfl rfl ?_ tree_stop; intro K hK; (refine wp_litV S _ _ _ rfl 3 Tryz.underlying23 infoInt (by simp [Act.eval]) (by simp [Act.eval, Value.oneCell']) rfl rfl rfl ?_; clear F S; intro gl w L hM S; replace HL := qNm HL hM; clear hM; have F := qFc HL S); (refine qKo hK ?_; clear hK K)) | (refine tree_act rfl rfl ?_ tree_stop; intro K hK; (refine wp_append_boxB S _ _ _ rfl 3 _ 1 8 Tryz.underlying23 infoInt rfl (by omega) 1 _ _ _ rfl (atOf HL rfl) (by omega) 0 _ _ _ _ _ rfl (atOf HL rfl) rfl rfl rfl rfl ?_; clear F S; intro u w L hM S; replace HL := qNm HL hM; clear hM; have F := qFc HL S; obtain ⟨E2, m2, rfl, hc3, hm3⟩ := qSl HL S 1); (refine qKo hK ?_; clear hK K)) | (refine tree_act rfl rfl ?_ tree_stop; intro K hK; go_wp2_with (first | (go_at_call 96; refine qPu (C_l1RingL _ j _ (by exact HJ.out)) ?_) | (go_at_call 96; refine qPu (C_l1RingL _ z2 _ (by exact EQ.out)) ?_)); (refine qKo hK ?_; clear hK K)))
      refine tree_fin ?_
      clear HL0 F0 f0 f1 v2 v3
      go_wp2
      go_roundw
      case rel =>
        rw [EA.out] at HL
        exact ⟨q + 1, E2, m2, _, by omega, by go_num, Lib.hid rfl, (by rw [HL.out] at S; exact S.sel (by exact qSel))⟩
      case measure => simp [intOf]; omega
    · obtain rfl : q = 4096 := by omega
      go_wp2_with (first | (refine qst HL S 4 ?_; clear F S HL; intro w L HL S F))
      refine ret2 rfl (resCell S HL 4 rfl rfl (by kernel_rfl)) (show _ = _ from rfl) rfl ?_
      exact ⟨_, _, rfl, (by rw [HL.out] at S; exact S.sel (by exact qSel))⟩
end
section
attribute [local irreducible] wpList Oper.wp Calls
theorem C_spec_MakeMT (z : Prd) (w0 : World) (hs : seedOk z.s = true) (r1 : 1 ≤ z.R) (r2 : z.R ≤ 5) (k1 : 1 ≤ z.K) (k2 : z.K ≤ 5) (d1 : 1 ≤ z.D) (d2 : z.D ≤ 5) :
    Calls Tryz.prog 126 #[.int .i64 z.R, .int .i64 z.K, .int .i64 z.D, .int .i64 z.s] w0 (MakesMT w0 z.R z.K z.D z.a1 z.a2 z.b1 z.b2 z.c1 z.c2 z.s5) := by
  obtain ⟨h1, h2, h3, h4, h5⟩ := Prd.seeds hs
  have la1 : z.a1.length = z.R * z.K := rndTo_length _ _
  have la2 : z.a2.length = z.R * z.K := rndTo_length _ _
  have lb1 : z.b1.length = z.K * z.D := rndTo_length _ _
  have lb2 : z.b2.length = z.K * z.D := rndTo_length _ _
  have lc1 : z.c1.length = z.R * z.D := rndTo_length _ _
  have lP : z.P.length = z.R * z.D := tab_length _ _
  have lA : z.A.length = z.R * z.K := tab_length _ _
  have lB : z.B.length = z.K * z.D := tab_length _ _
  have aa1 : z.a1.all rv = true := rndTo_all _ _
  have aa2 : z.a2.all rv = true := rndTo_all _ _
  have ab1 : z.b1.all rv = true := rndTo_all _ _
  have ab2 : z.b2.all rv = true := rndTo_all _ _
  have ac1 : z.c1.all rv = true := rndTo_all _ _
  have aP : z.P.all rv = true := mul_all
  have aA : z.A.all rv = true := sums_all aa1 aa2
  have aB : z.B.all rv = true := sums_all ab1 ab2
  have hA := add_like r1 r2 k1 k2 la1 la2 aa1 aa2
  have hB := add_like k1 k2 d1 d2 lb1 lb2 ab1 ab2
  have n1 := side_le r2 k2
  have n2 := side_le k2 d2
  have n3 := side_le r2 d2
  have C1 := fun w => C_spec_RandomMatrix z.R z.K _ z.s w hs r1 r2 k1 k2 rfl n1
  have C2 := fun w => C_spec_RandomMatrix z.R z.K _ z.s1 w h1 r1 r2 k1 k2 rfl n1
  have C3 := fun w => C_spec_RandomMatrix z.K z.D _ z.s2 w h2 k1 k2 d1 d2 rfl n2
  have C4 := fun w => C_spec_RandomMatrix z.K z.D _ z.s3 w h3 k1 k2 d1 d2 rfl n2
  have C5 := fun w => C_spec_RandomMatrix z.R z.D _ z.s4 w h4 r1 r2 d1 d2 rfl n3
  have CJA := fun u v w h h' => C_spec_JoinL z.R z.K z.a1 z.R z.K z.a2 u v _ w h h' (by rw [la1]; omega) (by rw [la2]; omega) hA
  have CJB := fun u v w h h' => C_spec_JoinL z.K z.D z.b1 z.K z.D z.b2 u v _ w h h' (by rw [lb1]; omega) (by rw [lb2]; omega) hB
  have CM := fun u v w h h' => C_spec_Mul z.R z.K z.D z.A z.B u v w h h' r1 r2 k1 k2 d1 d2 lA lB aA aB
  have CS := fun u v w h h' => C_spec_SubMatrices z.R z.D _ z.P z.c1 u v w h h' r1 r2 d1 d2 rfl lP lc1 n3 aP ac1
  have CV := fun w => C_l1InT z.s 1 2147483646 w (seedOk_bd hs)
  have CR := fun w => C_l1InT (z.R : Int) 1 5 w ⟨by omega, by omega⟩
  have CK := fun w => C_l1InT (z.K : Int) 1 5 w ⟨by omega, by omega⟩
  have CD := fun w => C_l1InT (z.D : Int) 1 5 w ⟨by omega, by omega⟩
  have lc2 : z.c2.length = z.R * z.D := tab_length _ _
  unfold MakesMx at CJA CJB CM CS
  dsimp only at CJA CJB
  rw [tab_length] at CJA CJB CM CS
  rw [show tab (z.R * z.K) (sumsV z.a1 z.a2) = z.A from rfl] at CJA
  rw [show tab (z.K * z.D) (sumsV z.b1 z.b2) = z.B from rfl] at CJB
  rw [show tab (z.R * z.D) (mulAt z.A z.B z.K z.D) = z.P from rfl] at CM
  rw [show tab (z.R * z.D) (subV z.P z.c1) = z.c2 from rfl] at CS
  rw [show seedAt z.s (z.R * z.K) = z.s1 from rfl, show rndTo z.s (z.R * z.K) = z.a1 from rfl] at C1
  rw [show seedAt z.s1 (z.R * z.K) = z.s2 from rfl, show rndTo z.s1 (z.R * z.K) = z.a2 from rfl] at C2
  rw [show seedAt z.s2 (z.K * z.D) = z.s3 from rfl, show rndTo z.s2 (z.K * z.D) = z.b1 from rfl] at C3
  rw [show seedAt z.s3 (z.K * z.D) = z.s4 from rfl, show rndTo z.s3 (z.K * z.D) = z.b2 from rfl] at C4
  rw [show seedAt z.s4 (z.R * z.D) = z.s5 from rfl, show rndTo z.s4 (z.R * z.D) = z.c1 from rfl] at C5
  unfold MakesMT
  have LA1 := Lib.hid la1
  have LA2 := Lib.hid la2
  have LB1 := Lib.hid lb1
  have LB2 := Lib.hid lb2
  have LC1 := Lib.hid lc1
  have LP := Lib.hid lP
  have LA := Lib.hid lA
  have LB := Lib.hid lB
  clear hs h1 h2 h3 h4 h5 la1 la2 lb1 lb2 lc1 lP lc2 lA lB aa1 aa2 ab1 ab2 ac1 aP aA aB hA hB r1 r2 k1 k2 d1 d2 n1 n2 n3
  generalize z.R * z.K = NA at *
  generalize z.K * z.D = NB at *
  generalize z.R * z.D = NC at *
  generalize z.c2 = yc2 at *
  generalize z.c1 = yc1 at *
  generalize z.b2 = yb2 at *
  generalize z.b1 = yb1 at *
  generalize z.a2 = ya2 at *
  generalize z.a1 = ya1 at *
  generalize z.A = yA at *
  generalize z.B = yB at *
  generalize z.P = yP at *
  generalize z.s5 = s5 at *
  generalize z.s4 = s4 at *
  generalize z.s3 = s3 at *
  generalize z.s2 = s2 at *
  generalize z.s1 = s1 at *
  generalize z.s = s0 at *
  generalize z.R = R at *
  generalize z.K = K at *
  generalize z.D = D at *
  obtain ⟨L, HL, S⟩ := st_start w0; have F : True := trivial
  go_enter Tryz.func126, Tryz.ntmps126
  go_upto_region 1 with (first | (refine qal HL S zMTri ?_; clear F S HL; intro gr w L HL S F))
  (rw [HL.out] at S; have T := (S.toObj (p := 0) rfl); clear S HL F; have S := T; clear T; (try simp only [List.set_cons_zero, List.set_cons_succ] at S); obtain ⟨L, hM, T⟩ := st_name S; clear S; have S := T; clear T; have HL := Lib.hid hM; clear hM; have F := qFc HL S)
  go_upto_region 3 with (first | (go_at_call 44; refine qPu (CR _) ?_) | (go_at_call 44; refine qPu (CK _) ?_) | (go_at_call 44; refine qPu (CD _) ?_) | (go_at_call 44; refine qPu (CV _) ?_))
  clear CR CK CD CV
  go_upto_region 4 with (first | (go_at_call 154; refine (C1 _).mono ?_; rintro e w ⟨u, rfl, T0⟩; have hX := qcl HL S T0; clear F S HL T0; obtain ⟨L, HL, S, F⟩ := hX; obtain ⟨A', cap', rfl, hcap', hmax'⟩ := qSl HL S 0) | (refine qal HL S zMx ?_; clear F S HL; intro ga w L HL S F) | (refine qst HL S 0 ?_; clear F S HL; intro w L HL S F))
  (rw [HL.out] at S; have T := (S.toObj (p := 0) rfl); clear S HL F; have S := T; clear T; (try simp only [List.set_cons_zero, List.set_cons_succ] at S); obtain ⟨L, hM, T⟩ := st_name S; clear S; have S := T; clear T; have HL := Lib.hid hM; clear hM; have F := qFc HL S)
  go_upto_region 5 with (first | (go_at_call 154; refine (C2 _).mono ?_; rintro e w ⟨u, rfl, T0⟩; have hX := qcl HL S T0; clear F S HL T0; obtain ⟨L, HL, S, F⟩ := hX; obtain ⟨A', cap', rfl, hcap', hmax'⟩ := qSl HL S 0) | (refine qal HL S zMx ?_; clear F S HL; intro gb w L HL S F) | (refine qst HL S 0 ?_; clear F S HL; intro w L HL S F))
  (rw [HL.out] at S; have T := (S.toObj (p := 0) rfl); clear S HL F; have S := T; clear T; (try simp only [List.set_cons_zero, List.set_cons_succ] at S); obtain ⟨L, hM, T⟩ := st_name S; clear S; have S := T; clear T; have HL := Lib.hid hM; clear hM; have F := qFc HL S)
  go_upto_region 6 with (first | (go_at_call 154; refine (C3 _).mono ?_; rintro e w ⟨u, rfl, T0⟩; have hX := qcl HL S T0; clear F S HL T0; obtain ⟨L, HL, S, F⟩ := hX; obtain ⟨A', cap', rfl, hcap', hmax'⟩ := qSl HL S 0) | (refine qal HL S zMx ?_; clear F S HL; intro gc w L HL S F) | (refine qst HL S 0 ?_; clear F S HL; intro w L HL S F))
  (rw [HL.out] at S; have T := (S.toObj (p := 0) rfl); clear S HL F; have S := T; clear T; (try simp only [List.set_cons_zero, List.set_cons_succ] at S); obtain ⟨L, hM, T⟩ := st_name S; clear S; have S := T; clear T; have HL := Lib.hid hM; clear hM; have F := qFc HL S)
  go_upto_region 7 with (first | (go_at_call 154; refine (C4 _).mono ?_; rintro e w ⟨u, rfl, T0⟩; have hX := qcl HL S T0; clear F S HL T0; obtain ⟨L, HL, S, F⟩ := hX; obtain ⟨A', cap', rfl, hcap', hmax'⟩ := qSl HL S 0) | (refine qal HL S zMx ?_; clear F S HL; intro gd w L HL S F) | (refine qst HL S 0 ?_; clear F S HL; intro w L HL S F))
  (rw [HL.out] at S; have T := (S.toObj (p := 0) rfl); clear S HL F; have S := T; clear T; (try simp only [List.set_cons_zero, List.set_cons_succ] at S); obtain ⟨L, hM, T⟩ := st_name S; clear S; have S := T; clear T; have HL := Lib.hid hM; clear hM; have F := qFc HL S)
  go_upto_region 8 with (first | (go_at_call 154; refine (C5 _).mono ?_; rintro e w ⟨u, rfl, T0⟩; have hX := qcl HL S T0; clear F S HL T0; obtain ⟨L, HL, S, F⟩ := hX; obtain ⟨A', cap', rfl, hcap', hmax'⟩ := qSl HL S 0) | (refine qal HL S zMx ?_; clear F S HL; intro ge w L HL S F) | (refine qst HL S 0 ?_; clear F S HL; intro w L HL S F))
  (rw [HL.out] at S; have T := (S.toObj (p := 0) rfl); clear S HL F; have S := T; clear T; (try simp only [List.set_cons_zero, List.set_cons_succ] at S); obtain ⟨L, hM, T⟩ := st_name S; clear S; have S := T; clear T; have HL := Lib.hid hM; clear hM; have F := qFc HL S)
  clear C1 C2 C3 C4 C5
  go_upto_region 9 with (first | refine qLo3 S ?_ | (refine qal HL S zMTri ?_; clear F S HL; intro gt w L HL S F) | (refine qst HL S 0 ?_; clear F S HL; intro w L HL S F))
  have HL0 := HL; have F0 := F; refine wp_region_tree (S := fun w' => St w0 w' L) (qcs 0 3 (.calm 4 (.calm 5 (.calm 8 (.act 3 (.act 6 (.act 7 (.act 9 (.calm 10 (.calm 11 (.act 12 .fin .stop))) .stop) .stop) .stop) .stop))))) (by kernel_rfl) (by kernel_rfl) (by kernel_rfl) (by intro c a d v w h; cases d <;> exact h) ?_; dsimp only [qcs, Nat.reduceAdd]; replace S := S.drew
  repeat (first | refine qTb6 ?_ | refine qTo3 ?_ | refine qCa ?_ | refine qAn ?_ | refine qSk ?_ | (refine tree_act rfl rfl ?_ tree_stop; intro K hK; (refine qsw HL S 4 ?_; clear F S HL; intro w L HL S F); (refine qKo hK ?_; clear hK K)) | (refine tree_act rfl rfl ?_ tree_stop; intro K hK; go_wp2_with (first | (go_at_call 122; refine (CJA _ _ _ (by unfold Ints; rw [LA1.out]; exact (Sees.row S qAt)) (by unfold Ints; rw [LA2.out]; exact (Sees.row S qAt))).mono ?_; rintro e w ⟨u, rfl, T0⟩; have hX := qcl HL S T0; clear F S HL T0; obtain ⟨L, HL, S, F⟩ := hX; obtain ⟨A', cap', rfl, hcap', hmax'⟩ := qSl HL S 0) | (go_at_call 122; refine (CJB _ _ _ (by unfold Ints; rw [LB1.out]; exact (Sees.row S qAt)) (by unfold Ints; rw [LB2.out]; exact (Sees.row S qAt))).mono ?_; rintro e w ⟨u, rfl, T0⟩; have hX := qcl HL S T0; clear F S HL T0; obtain ⟨L, HL, S, F⟩ := hX; obtain ⟨A', cap', rfl, hcap', hmax'⟩ := qSl HL S 0) | (go_at_call 162; refine (CM _ _ _ (by unfold Ints; rw [LA.out]; exact (Sees.row S qAt)) (by unfold Ints; rw [LB.out]; exact (Sees.row S qAt))).mono ?_; rintro e w ⟨u, rfl, T0⟩; have hX := qcl HL S T0; clear F S HL T0; obtain ⟨L, HL, S, F⟩ := hX; obtain ⟨A', cap', rfl, hcap', hmax'⟩ := qSl HL S 0) | (go_at_call 155; refine (CS _ _ _ (by unfold Ints; rw [LP.out]; exact (Sees.row S qAt)) (by unfold Ints; rw [LC1.out]; exact (Sees.row S qAt))).mono ?_; rintro e w ⟨u, rfl, T0⟩; have hX := qcl HL S T0; clear F S HL T0; obtain ⟨L, HL, S, F⟩ := hX; obtain ⟨A', cap', rfl, hcap', hmax'⟩ := qSl HL S 0)); (refine qKo hK ?_; clear hK K)))
  refine tree_fin ?_
  clear HL0 F0
  (rw [HL.out] at S; have T := (S.toBox (p := 15) rfl); clear S HL F; have S := T; clear T; (try simp only [List.set_cons_zero, List.set_cons_succ] at S); obtain ⟨L, hM, T⟩ := st_name S; clear S; have S := T; clear T; have HL := Lib.hid hM; clear hM; have F := qFc HL S)
  go_wp2_with (first | refine qLb18 S ?_ | (refine qst HL S 15 ?_; clear F S HL; intro w L HL S F))
  refine ret2 rfl (resCell S HL 15 rfl rfl (by kernel_rfl)) (show _ = _ from rfl) rfl ?_
  exact ⟨_, _, _, _, _, _, rfl, (by rw [HL.out] at S; exact S.sel (by exact qSel))⟩
end
end Go.Proofs.YtjgfjfjboimgdaaGreat
