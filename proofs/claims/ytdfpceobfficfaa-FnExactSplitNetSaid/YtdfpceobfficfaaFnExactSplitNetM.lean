/-
  Proved here: the program's SplitNet returns what the reference's returns, for all arguments.
-/
import Derived.Test.YtdfpceobfficfaaHead
import Derived.Test.YtdfpceobfficfaaSpS
import Derived.Test.YtdfpceobfficfaaSlH
import Derived.Test.YtdfpceobfficfaaLaw
namespace Go.Proofs.Ytdfpceobfficfaa
set_option linter.unusedSimpArgs false
set_option linter.unusedVariables false
set_option linter.unusedSectionVars false
/-! ### How far the numbers of a shared network go: plain. -/
open Go Go.RowKit
theorem endPs_eq : ∀ (ps : MsO) (k z : Int), 0 ≤ szMsFrom (ps.map Prod.snd) z → endPs ps k + szMsFrom (ps.map Prod.snd) z = k + 2 * ps.length + z
  | [], k, z, h => by
    simp only [List.map_nil, szMsFrom, endPs, List.length_nil]
    omega
  | p :: ps, k, z, h => by
    rw [List.map_cons] at h ⊢
    unfold szMsFrom at h ⊢
    split at h
    · omega
    · rename_i h0
      rw [if_neg h0]
      have := endPs_eq ps (stepM p k) _ h
      unfold endPs
      unfold stepM at *
      rw [List.length_cons]
      omega
theorem endLs_sz : ∀ (qs : LsO) (k z : Int), 0 ≤ z → 0 ≤ szLsFrom (qs.map lyO) z → endLs qs k ≤ k + qs.length + 2 * z
  | [], k, z, h0, h => by
    simp only [endLs, List.length_nil]
    omega
  | q :: qs, k, z, h0, h => by
    rw [List.map_cons] at h
    unfold szLsFrom at h
    split at h
    · omega
    · rename_i h1
      have h2 := endLs_sz qs (stepQ q k) _ (by omega) h
      have h3 : szMs (lyO q).ws z ≤ z - q.2.2.length ∧ endPs q.2.2 (k + 1) + szMs (lyO q).ws z = k + 1 + 2 * q.2.2.length + (z - q.2.2.length) := by
        unfold szMs at h1 ⊢
        have e : ((lyO q).ws.length : Int) = q.2.2.length := by simp [lyO]
        rw [e] at h1 ⊢
        split at h1
        · omega
        · rename_i h4
          rw [if_neg h4]
          have h5 : (lyO q).ws = q.2.2.map Prod.snd := rfl
          rw [h5] at h1 ⊢
          exact ⟨szMsFrom_le _ _ (by omega), endPs_eq _ _ _ (by omega)⟩
      unfold endLs
      have h6 : stepQ q k = endPs q.2.2 (k + 1) := rfl
      rw [h6] at h2 ⊢
      rw [List.length_cons]
      omega
theorem endSPs_bd : ∀ (ps : SMsO) (k : Int), (∀ p ∈ ps, p.2.2.a.xs.length ≤ 25 ∧ p.2.2.b.xs.length ≤ 25) → endSPs ps k ≤ k + 54 * ps.length
  | [], k, _ => by simp [endSPs]
  | p :: ps, k, h => by
    have h1 := endSPs_bd ps (stepSM p k) (fun q hq => h q (List.mem_cons_of_mem _ hq))
    have h2 := h p List.mem_cons_self
    unfold endSPs
    unfold stepSM at *
    rw [List.length_cons]
    omega
theorem endSLs_bd : ∀ (qs : SLsO) (k : Int), (∀ q ∈ qs, q.2.2.length ≤ 3 ∧ ∀ p ∈ q.2.2, p.2.2.a.xs.length ≤ 25 ∧ p.2.2.b.xs.length ≤ 25) → endSLs qs k ≤ k + 200 * qs.length
  | [], k, _ => by simp [endSLs]
  | q :: qs, k, h => by
    have h1 := endSLs_bd qs (stepSQ q k) (fun x hx => h x (List.mem_cons_of_mem _ hx))
    obtain ⟨h2, h3⟩ := h q List.mem_cons_self
    have h4 := endSPs_bd q.2.2 (k + 1) h3
    unfold endSLs
    have h5 : stepSQ q k = endSPs q.2.2 (k + 1) := rfl
    rw [h5] at h1 ⊢
    rw [List.length_cons]
    omega
def SLyFew (l : SLy) : Prop := l.ws.length ≤ 3 ∧ ∀ m ∈ l.ws, m.a.xs.length ≤ 25 ∧ m.b.xs.length ≤ 25
theorem splitMs_few : ∀ (ms : List Mx) (s : Int), (∀ m ∈ ms, m.xs.length ≤ 25) → (splitMs ms s).1.length = ms.length ∧ ∀ x ∈ (splitMs ms s).1, x.a.xs.length ≤ 25 ∧ x.b.xs.length ≤ 25
  | [], _, _ => ⟨rfl, fun x hx => by cases hx⟩
  | m :: ms, s, h => by
    obtain ⟨h1, h2⟩ := splitMs_few ms (seedAt s m.xs.length) (fun x hx => h x (List.mem_cons_of_mem _ hx))
    have h3 := h m List.mem_cons_self
    refine ⟨congrArg (· + 1) h1, fun x hx => ?_⟩
    rcases List.mem_cons.1 (show x ∈ splitMx m s :: (splitMs ms (seedAt s m.xs.length)).1 from hx) with rfl | hx
    · refine ⟨?_, ?_⟩
      · show (rndTo s m.xs.length).length ≤ 25
        rw [rndTo_length]; exact h3
      · show (tab m.xs.length _).length ≤ 25
        rw [tab_length]; exact h3
    · exact h2 x hx
theorem splitLs_few : ∀ (ls : List Ly) (s : Int), (∀ l ∈ ls, l.ok = true) → (splitLs ls s).1.length = ls.length ∧ ∀ x ∈ (splitLs ls s).1, SLyFew x
  | [], _, _ => ⟨rfl, fun x hx => by cases hx⟩
  | l :: ls, s, h => by
    obtain ⟨h1, h2⟩ := splitLs_few ls (splitMs l.ws s).2 (fun x hx => h x (List.mem_cons_of_mem _ hx))
    obtain ⟨h3, h4⟩ := Ly.ok_ms (h l List.mem_cons_self)
    refine ⟨congrArg (· + 1) h1, fun x hx => ?_⟩
    rcases List.mem_cons.1 (show x ∈ splitLy l s :: (splitLs ls (splitMs l.ws s).2).1 from hx) with rfl | hx
    · obtain ⟨h5, h6⟩ := splitMs_few l.ws s (fun m hm => by
        obtain ⟨_, _, _, _, _, _, _, _, h7, _⟩ := mx_nat (h4 m hm)
        exact h7)
      exact ⟨by show (splitMs l.ws s).1.length ≤ 3; omega, h6⟩
    · exact h2 x hx
theorem splitRes_few {ls : List Ly} {s z : Int} {js : List SLy} (h : splitRes ls s = (js, z)) : js.length ≤ 4 ∧ ∀ l ∈ js, SLyFew l := by
  unfold splitRes at h
  split at h
  · rename_i hc
    rw [Bool.and_eq_true, Bool.and_eq_true, decide_eq_true_eq] at hc
    obtain ⟨h1, h2⟩ := splitLs_few ls s (fun l hl => List.all_eq_true.1 hc.1.2 l hl)
    rw [h] at h1 h2
    exact ⟨by have := hc.1.1; dsimp only at h1; omega, h2⟩
  · injection h with h _
    subst h
    exact ⟨by simp, fun l hl => by cases hl⟩
theorem endSLs_few {qs : SLsO} {js : List SLy} (hq : qs.map slyO = js) (h4 : js.length ≤ 4) (h : ∀ l ∈ js, SLyFew l) : endSLs qs 1 ≤ 1000 := by
  have h1 := endSLs_bd qs 1 (fun q hm => by
    obtain ⟨h2, h3⟩ := h (slyO q) (hq ▸ List.mem_map_of_mem hm)
    refine ⟨?_, fun p hp => h3 (smO p) (List.mem_map_of_mem hp)⟩
    have : (slyO q).ws.length = q.2.2.length := by simp [slyO]
    omega)
  have : qs.length = js.length := by rw [← hq, List.length_map]
  omega

/-! ### Proved here: the program's SplitNet returns what the reference's returns, for all arguments. -/
open Go Go.RowKit Go.ChangeShapes Go.WideShapes Go.ChangeAt
set_option maxHeartbeats 8000000 in
set_option maxRecDepth 20000 in
theorem L_FnExactSplitNet (v : Value) (ls : List Ly) (s : Int) (wz : World) (h : SeesLs wz v ls) :
    Calls Try.prog 6 #[v, .int .i64 s] wz fun e w' => e = .returned (.bool true) ∧ Below wz.heap.size wz w' := by
  have H := Lib.hid h
  obtain ⟨A, cap, rfl, hcap, hmax, _⟩ := h
  obtain ⟨k, hk⟩ : ∃ k, szLs ls 1048576 = k := ⟨_, rfl⟩
  have HK := Lib.hid hk
  by_cases hneg : k < 0
  · clear hk
    obtain ⟨L, HL, S⟩ := st_start wz; have F : True := trivial
    go_enter Try.func6, Try.ntmps6
    go_wp2_with (first | (refine wpList_box rfl S _ _ rfl ?_; intro g w L hM T; clear F S; (try rw [HL.out] at hM); clear HL; (try simp [Act.put, Act.eval, Value.cells, splice] at hM); have HL := Lib.hid hM; clear hM; have S := T; clear T; have F := factsAll HL S; (try simp only [factsOf, cellsFrom, and_true, true_and, Nat.reduceAdd] at F))  | (refine wpList_store_box rfl S _ _ _ rfl 0 _ _ _ _ (atOf HL rfl) rfl _ rfl (by kernel_rfl) rfl rfl ?_; intro w L hM T; clear F S; (try rw [HL.out] at hM); clear HL; (try simp [Act.put, Act.eval, Value.cells, splice] at hM); have HL := Lib.hid hM; clear hM; have S := T; clear T; have F := factsAll HL S; (try simp only [factsOf, cellsFrom, and_true, true_and, Nat.reduceAdd] at F)) | (refine wpList_store_box rfl S _ _ _ rfl 1 _ _ _ _ (atOf HL rfl) rfl _ rfl (by kernel_rfl) rfl rfl ?_; intro w L hM T; clear F S; (try rw [HL.out] at hM); clear HL; (try simp [Act.put, Act.eval, Value.cells, splice] at hM); have HL := Lib.hid hM; clear hM; have S := T; clear T; have F := factsAll HL S; (try simp only [factsOf, cellsFrom, and_true, true_and, Nat.reduceAdd] at F)) | (refine wpList_store_box rfl S _ _ _ rfl 2 _ _ _ _ (atOf HL rfl) rfl _ rfl (by kernel_rfl) rfl rfl ?_; intro w L hM T; clear F S; (try rw [HL.out] at hM); clear HL; (try simp [Act.put, Act.eval, Value.cells, splice] at hM); have HL := Lib.hid hM; clear hM; have S := T; clear T; have F := factsAll HL S; (try simp only [factsOf, cellsFrom, and_true, true_and, Nat.reduceAdd] at F)) | (refine wpList_store_box rfl S _ _ _ rfl 3 _ _ _ _ (atOf HL rfl) rfl _ rfl (by kernel_rfl) rfl rfl ?_; intro w L hM T; clear F S; (try rw [HL.out] at hM); clear HL; (try simp [Act.put, Act.eval, Value.cells, splice] at hM); have HL := Lib.hid hM; clear hM; have S := T; clear T; have F := factsAll HL S; (try simp only [factsOf, cellsFrom, and_true, true_and, Nat.reduceAdd] at F))  | (go_at_call 25; refine (C_szLayerS _ ls _ _ _ (H.out.at_ S) ⟨by omega, by omega⟩ HK.out).mono ?_; rintro e w ⟨rfl, hb⟩; replace S := S.grow hb; clear hb))
    go_ret
    exact ⟨rfl, S.below⟩
  obtain ⟨hn1', hx1⟩ := szLs_each (ls := ls) (k := 1048576) (by show 0 ≤ szLs ls 1048576; omega)
  have hn1 : ls.length ≤ 1048576 := by omega
  have HSM := Lib.hid hx1
  have HSZ : Hid (0 ≤ szLsFrom ls (1048576 - ls.length)) := Lib.hid (by
    unfold szLs at hk
    split at hk
    · omega
    · omega)
  obtain ⟨js, z, hj⟩ : ∃ js z, splitRes ls s = (js, z) := ⟨_, _, rfl⟩
  have HJ := Lib.hid hj
  have HJF := Lib.hid (splitRes_few hj)
  clear hk hx1 hn1' hj
  obtain ⟨L, HL, S⟩ := st_start wz; have F : True := trivial
  go_enter Try.func6, Try.ntmps6
  go_upto_region 5 with (first | (go_at_call 25; refine (C_szLayerS _ ls _ _ _ (H.out.at_ S) ⟨by omega, by omega⟩ HK.out).mono ?_; rintro e w ⟨rfl, hb⟩; replace S := S.grow hb; clear hb))
  go_upto_region 6 with (first | (go_at_call 26; refine (C_toLayerS _ ls _ (H.out.at_ S) hn1 HSM.out).mono ?_; rintro e w ⟨u1, q1, rfl, hq, T0⟩; have HS1 := Lib.hid (hq ▸ sees_ls T0 (fun e he => he) : SeesLs w u1 ls); replace S := S.grow T0.below; clear T0 hq) | (go_at_call 16; refine (C_spec_SplitNet _ ls s z js _ HS1.out hn1 HSM.out HJ.out).mono ?_; rintro e w0 ⟨uW, qW, rfl, hq, T0⟩; have HW := Lib.hid (hq ▸ sees_sls T0 (fun e he => he) : SeesSLs w0 uW js); have HBB := Lib.hid (S.below.trans (T0.below.mono S.below.size)); replace H := Lib.hid (H.out.below HBB.out); clear S HL F T0 hq HS1; obtain ⟨L, HL, S⟩ := st_start w0; have F : True := trivial))
  go_upto_region 7 with (first | (go_at_call 26; refine (C_toLayerS _ ls _ (H.out.at_ S) hn1 HSM.out).mono ?_; rintro e w ⟨ux, px, rfl, hq, T0⟩; have HPX := Lib.hid hq; have T := S.call T0; rw [HL.out, List.append_nil] at T; clear S HL T0 hq; have S := T; clear T; obtain ⟨L, hM, T⟩ := st_name S; clear S; have S := T; clear T; have HL := Lib.hid hM; clear hM; have F := factsAll HL S; (try simp only [factsOf, cellsFrom, and_true, true_and, Nat.reduceAdd] at F)))
  go_upto_region 8 with (first | (go_at_call 15; refine (RB.C_impl_SplitNet _ ls s z js _ (HPX.out ▸ sees_ls S (by rw [HL.out]; exact fun e he => he) : SeesLs _ _ ls) HJ.out).mono ?_; rintro e w ⟨ug, qg, rfl, hq, T0⟩; have HQG := Lib.hid hq; have T := S.call T0; rw [HL.out] at T; clear S HL T0 hq; have S := T; clear T; obtain ⟨L, hM, T⟩ := st_name S; clear S; have S := T; clear T; have HL := Lib.hid hM; clear hM; have F := factsAll HL S; (try simp only [factsOf, cellsFrom, and_true, true_and, Nat.reduceAdd] at F)))
  go_upto_region 10 with (first | (go_at_call 21; refine (C_eqSharedLayerS _ _ js _ (HQG.out ▸ sees_sls S (by rw [HL.out]; exact fun e he => List.mem_append_left _ he) : SeesSLs _ _ js) (HW.out.at_ S)).mono ?_; rintro e w ⟨rfl, hb⟩; replace S := S.grow hb; clear hb))
  go_upto_region 13 with (first | (go_at_call 26; refine (C_toLayerS _ ls _ (H.out.at_ S) hn1 HSM.out).mono ?_; rintro e w ⟨u1, q1, rfl, hq, T0⟩; have HS1 := Lib.hid (hq ▸ sees_ls T0 (fun e he => he) : SeesLs w u1 ls); replace S := S.grow T0.below; clear T0 hq) | (go_at_call 20; refine (C_eqLayerS _ _ ls _ (HPX.out ▸ sees_ls S (by rw [HL.out]; exact fun e he => List.mem_append_right _ he) : SeesLs _ _ ls) HS1.out).mono ?_; rintro e w ⟨rfl, hb⟩; replace S := S.grow hb; clear hb))
  clear HS1
  have hez := endLs_sz px 1 (1048576 - ls.length) (by omega) (by rw [HPX.out]; exact HSZ.out)
  have hl0 : px.length = ls.length := by rw [← HPX.out, List.length_map]
  have hez1 := endLs_le px 1
  obtain ⟨kz, hkz⟩ : ∃ kz, endLs px 1 = kz := ⟨_, rfl⟩
  rw [hkz] at hez hez1
  have hkz1 : 1 ≤ kz := hez1
  have hkz2 : kz ≤ 10000000 := by omega
  rw [HL.out] at S
  have T1 := S.perm List.perm_append_comm
  have CM := C_markLayerS _ _ px 1 w0 _ T1 (by omega) (by omega)
  rw [hkz] at CM
  clear hez hez1 hl0 S HL F T1 hkz
  go_upto_region 14 with (go_at_call 23; refine CM.mono ?_; rintro e w ⟨rfl, T0⟩)
  clear CM
  have S := T0.sub (List.sublist_append_right _ _)
  clear T0
  obtain ⟨L, hM, T⟩ := st_name S; clear S; have S := T; clear T; have HL := Lib.hid hM; clear hM; have F := factsAll HL S; (try simp only [factsOf, cellsFrom, and_true, true_and, Nat.reduceAdd] at F)
  go_upto_region 17 with (first | (go_at_call 21; refine (C_eqSharedLayerS _ _ js _ (HQG.out ▸ sees_sls S (by rw [HL.out]; exact fun e he => he) : SeesSLs _ _ js) (HW.out.at_ S)).mono ?_; rintro e w ⟨rfl, hb⟩; replace S := S.grow hb; clear hb))
  have hez := endSLs_few HQG.out HJF.out.1 HJF.out.2
  have hez1 := endSLs_le qg 1
  obtain ⟨kg, hkg⟩ : ∃ kg, endSLs qg 1 = kg := ⟨_, rfl⟩
  rw [hkg] at hez hez1
  rw [HL.out] at S
  have CM := C_markSharedLayerS [] _ qg 1 w0 _ (by rw [List.append_nil]; exact S) (by omega) (by omega)
  have CH := fun w h => C_heldSharedLayerS ug qg 1 w h (by omega) (by omega)
  rw [hkg] at CM CH
  clear S HL F hkg
  go_upto_region 18 with (go_at_call 22; refine CM.mono ?_; rintro e w ⟨rfl, T0⟩)
  clear CM
  rw [List.append_nil] at T0
  have S := T0
  clear T0
  obtain ⟨L, hM, T⟩ := st_name S; clear S; have S := T; clear T; have HL := Lib.hid hM; clear hM; have F := factsAll HL S; (try simp only [factsOf, cellsFrom, and_true, true_and, Nat.reduceAdd] at F)
  go_upto_region 24 with (first | (go_at_call 27; refine (CH _ (sees_sls S (by rw [HL.out]; exact fun e he => he))).mono ?_; rintro e w ⟨rfl, hb⟩; replace S := S.grow hb; clear hb))
  go_upto_region 25 with (first | (go_at_call 26; refine (C_toLayerS _ ls _ (H.out.at_ S) hn1 HSM.out).mono ?_; rintro e w ⟨u1, q1, rfl, hq, T0⟩; have HS1 := Lib.hid (hq ▸ sees_ls T0 (fun e he => he) : SeesLs w u1 ls); replace S := S.grow T0.below; clear T0 hq) | (go_at_call 15; refine (RB.C_impl_SplitNet _ ls s z js _ HS1.out HJ.out).mono ?_; rintro e w ⟨uh, qh, rfl, hq, T0⟩; have HQH := Lib.hid hq; have T := S.call T0; rw [HL.out] at T; clear S HL T0 hq; have S := T; clear T; obtain ⟨L, hM, T⟩ := st_name S; clear S; have S := T; clear T; have HL := Lib.hid hM; clear hM; have F := factsAll HL S; (try simp only [factsOf, cellsFrom, and_true, true_and, Nat.reduceAdd] at F)))
  clear HS1
  go_wp2_with (first | (go_at_call 21; refine (C_eqSharedLayerS _ _ js _ (HQH.out ▸ sees_sls S (by rw [HL.out]; exact fun e he => List.mem_append_left _ he) : SeesSLs _ _ js) (HW.out.at_ S)).mono ?_; rintro e w ⟨rfl, hb⟩; replace S := S.grow hb; clear hb) | (go_at_call 27; refine (CH _ (sees_sls S (by rw [HL.out]; exact fun e he => List.mem_append_right _ he))).mono ?_; rintro e w ⟨rfl, hb⟩; replace S := S.grow hb; clear hb))
  go_ret
  exact ⟨rfl, HBB.out.trans (S.below.mono HBB.out.size)⟩

set_option maxRecDepth 100000 in
theorem FnExactSplitNet_lifted (os : Os) (started : os.Started) (H : Type) (enc : TypeId × Value → H) :
    ReturnsInHanded {} Try.checked os 6 .any (Rows.fnExactSplitNetSpec.pre6 enc Try.prog Try.f6 Rows.fnExactSplitNetRow.domain false) (Rows.fnExactSplitNetSpec.post enc Try.prog Try.f6 false true false false) := by
  refine returnsInHanded_of_change (C := Try.checked) Try.ownKnob_ started (by kernel_rfl) Try.func6
    (ChangeSpec.witness6 (enc := enc) (C := Try.checked) false ⟨#[], #[.slice none 0 0, .int .i64 0], []⟩ 8 (by kernel_rfl) (by kernel_rfl) (by kernel_rfl) (by kernel_rfl)) ?_
  intro W base args ds gs before hval0 hW _ _
  have hval : ∀ (j : Nat) t v, Try.f6.params[j]? = some t → args[j]? = some v → Value.okWide Try.prog W .any base t v := hval0
  have hW' := hW
  obtain ⟨p, q, hA0, hV, rfl, _, _⟩ := hW
  have hA : DataW.TrodAll enc Try.prog W 0 (fun _ => true) true Try.f6.params.toList args.toList ds p := hA0
  rw [Try.params6] at hA hval
  obtain ⟨v0, vs0, d0, ds0, p0, q0, hargs, rfl, rfl, h0, r0⟩ := trodAll_cons hA
  obtain ⟨v1, vs1, d1, ds1, p1, q1, rfl, rfl, rfl, h1, r1⟩ := trodAll_cons r0
  obtain ⟨rfl, rfl, rfl⟩ := trodAll_nil r1
  obtain rfl : args = #[v0, v1] := by cases args; simp_all
  obtain ⟨rfl, rfl⟩ := trodVars_none hV
  clear hA0 hval0
  obtain ⟨ls0, s0⟩ := open_ls (e := 97) (by kernel_rfl) (hval 0 _ v0 rfl rfl) h0
  obtain ⟨x1, rfl, rfl, rfl, w1⟩ := open_int Try.underlying3 (hval 1 _ v1 rfl rfl) h1
  refine (L_FnExactSplitNet _ ls0 x1 W s0).mono fun e W' ⟨he, hb⟩ => ⟨_, he, ?_⟩
  exact law_post 4 Try.underlying4 Try.laidOut_ (by kernel_rfl) rfl rfl hW' ⟨rfl, rfl, rfl⟩ hb

theorem FnExactSplitNet_holds : Rows.FnExactSplitNetSaid :=
  OpenClaim.holds_of_wide 6 Try.f6 rfl rfl rfl rfl rfl rfl rfl ⟨rfl, rfl, rfl, rfl, rfl⟩ rfl rfl rfl rfl rfl (by kernel_rfl) Try.func6 (closed_of (by kernel_rfl))
    (of_decide_eq_true (by kernel_rfl)) (by unfold Func.isWrapper; first | (rw [if_pos (by decide +kernel)]; kernel_rfl) | (rw [if_neg (by decide +kernel)]; exact ⟨rfl, rfl⟩))
    (fun os started H enc _ => FnExactSplitNet_lifted os started H enc)

end Go.Proofs.Ytdfpceobfficfaa
