/-
  Contract: RunPlain, the reference's.
-/
import Derived.Test.YtdfpceobfficfaaRunP
import Derived.Test.YtdfpceobfficfaaDenT
import Derived.Test.YtdfpceobfficfaaLyN
namespace Go.Proofs.Ytdfpceobfficfaa
set_option linter.unusedSimpArgs false
set_option linter.unusedVariables false
set_option linter.unusedSectionVars false
open Go Go.RowKit
set_option maxHeartbeats 8000000
set_option maxRecDepth 20000
section
variable {P : Program} {w0 w : World} {a : Act} {L : List Ent} {o : Oper} {K : Act → World → Prop} {Q : Exit → Act → World → Prop}
theorem wp_emptyR (S : St w0 w L) (t : TypeId) (ho : o.op = .buildSlice t 0 #[])
    (e : TypeId) (ht : P.underlying t = some (.slice e)) {z : Option Value} {size bytes : Nat} (hi : (P.info? e).map (fun i => (i.zero, i.size, i.bytes)) = some (z, size, bytes))
    (h : ∀ g w' M, M = .row e size (.slice (some ⟨g, 0, none⟩) 0 0) 0 [] :: L → St w0 w' M → K (a.put o.dst (.slice (some ⟨g, 0, none⟩) 0 0)) w') : o.wp P a w K Q := by
  unfold Oper.wp
  simp only [execOp, ho, Sem.run_bind, Array.map_empty, run_empty ht hi w, Result.andThen_ok, Sem.run_pure]
  exact h _ _ _ rfl ((S.new e []).asRow (p := 0) rfl (by simp) (by simp [maxLen]))
end
theorem twoOf {ps : MsO} {a b : Mx} (h : ps.map Prod.snd = [a, b]) : ∃ v0 v1, ps = [(v0, a), (v1, b)] := by
  match ps, h with
  | [(v0, _), (v1, _)], h =>
    simp at h
    obtain ⟨rfl, rfl⟩ := h
    exact ⟨v0, v1, rfl⟩
theorem layer_at {w0 w : World} {L : List Ent} (S : St w0 w L) {u : Value} {qs : LsO} {j : Nat} {q : Value × Int × MsO} (h : ∀ e ∈ entsL u qs, e ∈ L) (hq : qs[j]? = some q) :
    ∃ g cap, u = .slice (some ⟨g, 0, none⟩) qs.length cap ∧ (∀ w', St w0 w' L → w'.cell? ⟨g, j * 2, none⟩ = some (.int .i64 q.2.1)) ∧ (∀ w', St w0 w' L → w'.cell? ⟨g, j * 2 + 1, none⟩ = some q.1) ∧ (∀ w', St w0 w' L → SeesMs w' q.1 (q.2.2.map Prod.snd)) := by
  obtain ⟨p, hp⟩ : ∃ p, At L p (.row 33 2 u qs.length (cellsL qs)) := List.getElem?_of_mem (h _ List.mem_cons_self)
  have hj := (List.getElem?_eq_some_iff.1 hq).1
  obtain ⟨g, cap, rfl, hc, hm⟩ := S.rowAt hp (by omega)
  have e : ∀ i, i < 2 → (cellsL qs)[j * 2 + i]? = (cellL q)[i]? := fun i hi => by
    rw [cellsL, chunk_get cellL 2 (fun _ => rfl) qs j i hi, hq]; rfl
  have hr : ∀ e ∈ rowL q, e ∈ L := fun e he => h _ (List.mem_cons_of_mem _ (List.mem_flatMap.2 ⟨q, List.mem_of_getElem? hq, he⟩))
  refine ⟨g, cap, rfl, fun w' S' => ?_, fun w' S' => ?_, fun w' S' => sees_ms S' hr⟩
  · exact (S'.rowCell hp (j * 2) (by omega)).trans ((e 0 (by omega)).trans rfl)
  · exact (S'.rowCell hp (j * 2 + 1) (by omega)).trans ((e 1 (by omega)).trans rfl)
theorem two_at {w0 w : World} {L : List Ent} (S : St w0 w L) {u v0 v1 : Value} {m0 m1 : Mx} (h : ∀ e ∈ entsM u [(v0, m0), (v1, m1)], e ∈ L) :
    ∃ g cap, u = .slice (some ⟨g, 0, none⟩) 2 cap ∧ (2 ≤ cap ∧ cap ≤ maxLen) ∧ (∀ w', St w0 w' L → w'.cell? ⟨g, 0, none⟩ = some (.int .i64 m0.r)) ∧ (∀ w', St w0 w' L → w'.cell? ⟨g, 1, none⟩ = some (.int .i64 m0.c)) ∧ (∀ w', St w0 w' L → w'.cell? ⟨g, 2, none⟩ = some v0) ∧
      (∀ w', St w0 w' L → w'.cell? ⟨g, 3, none⟩ = some (.int .i64 m1.r)) ∧ (∀ w', St w0 w' L → w'.cell? ⟨g, 4, none⟩ = some (.int .i64 m1.c)) ∧ (∀ w', St w0 w' L → w'.cell? ⟨g, 5, none⟩ = some v1) ∧ (∀ w', St w0 w' L → Ints w' v0 m0.xs) ∧ (∀ w', St w0 w' L → Ints w' v1 m1.xs) := by
  obtain ⟨p, hp⟩ : ∃ p, At L p (.row 55 3 u 2 (cellsM [(v0, m0), (v1, m1)])) := List.getElem?_of_mem (h _ List.mem_cons_self)
  obtain ⟨g, cap, rfl, hc, hm⟩ := S.rowAt hp (by omega)
  have h0 : rowM (v0, m0) ∈ L := h _ (by simp [entsM, rowsM])
  have h1 : rowM (v1, m1) ∈ L := h _ (by simp [entsM, rowsM])
  refine ⟨g, cap, rfl, ⟨hc, hm⟩, fun w' S' => ?_, fun w' S' => ?_, fun w' S' => ?_, fun w' S' => ?_, fun w' S' => ?_, fun w' S' => ?_, fun w' S' => Sees.own (S'.own _ h0), fun w' S' => Sees.own (S'.own _ h1)⟩
  · exact (S'.rowCell hp 0 (by omega)).trans rfl
  · exact (S'.rowCell hp 1 (by omega)).trans rfl
  · exact (S'.rowCell hp 2 (by omega)).trans rfl
  · exact (S'.rowCell hp 3 (by omega)).trans rfl
  · exact (S'.rowCell hp 4 (by omega)).trans rfl
  · exact (S'.rowCell hp 5 (by omega)).trans rfl
theorem C_spec_RunPlain (ls : List Ly) (x t : Mx) (v u : Value) (w0 : World) (h : SeesLs w0 v ls) (hx : Ints w0 u x.xs) (hn1 : ls.length ≤ 1048576) (hsm : ∀ l ∈ ls, LySmall 1048576 l) (hn3 : x.xs.length ≤ 1048576) (ht : runPlain ls x = t) :
    Calls Try.prog 31 #[v, .agg #[.int .i64 (x).r, .int .i64 (x).c, u]] w0 (MakesMx w0 t.r t.c t.xs) := by
  unfold MakesMx
  have H := Lib.hid h
  have HX := Lib.hid hx
  have HSM := Lib.hid hsm
  obtain ⟨A, cap, rfl, hcap, hmax, _⟩ := h
  obtain ⟨_, A2, cap2, rfl, hcap2, hmax2, _⟩ := hx
  obtain ⟨r, c, xs⟩ := x
  dsimp only at HX hcap2 hn3 ⊢
  clear hsm
  have CO := fun w h => C_l1OwnMatrix r c xs (.slice A2 xs.length cap2) w h hn3
  unfold MakesMx at CO
  obtain ⟨z, hz⟩ : ∃ z, netSides ls r c = z := ⟨_, rfl⟩
  have HZ := Lib.hid hz
  have CS := fun v w h => C_spec_NetSides v ls r c z w h HZ.out
  cases z with
  | none =>
    obtain rfl : t = Mx.zero := ht ▸ runPlain_s hz
    clear ht hz
    unfold sidesRes at CS
    obtain ⟨L, HL, S⟩ := st_start w0; have F : True := trivial
    go_enter Try.func31, Try.ntmps31
    go_upto_region 1 with (first | (refine wpList_box (o := { dst := some 3, op := _, type := _, pos := _, after := _, guard := _ }) rfl S _ _ rfl ?_; intro gx w L hM T; clear F S; (try rw [HL.out] at hM); clear HL; (try simp [Act.put, Act.eval, Value.cells, splice] at hM); have HL := Lib.hid hM; clear hM; have S := T; clear T; have F := factsAll HL S; (try simp only [factsOf, cellsFrom, and_true, true_and, Nat.reduceAdd] at F)) | (refine wpList_alloc rfl S 55 _ rfl zMx ?_; intro gr w L hM T; clear F S; (try rw [HL.out] at hM); clear HL; (try simp [Act.put, Act.eval, Value.cells, splice] at hM); have HL := Lib.hid hM; clear hM; have S := T; clear T; have F := factsAll HL S; (try simp only [factsOf, cellsFrom, and_true, true_and, Nat.reduceAdd] at F)))
    go_upto_region 2 with (first | (go_at_call 47; refine (C_l1OwnLayerList _ _ _ (H.out.at_ S) hn1 HSM.out).mono ?_; rintro e w ⟨u, ps, rfl, hps, T0⟩; have HPS := Lib.hid hps; clear hps; obtain ⟨Au, cu, rfl, hcu, hmu⟩ := T0.sliceOf (p := 0) (show At _ 0 _ from rfl); obtain ⟨L, hM, T⟩ := st_name ((S.call T0).perm List.perm_append_comm); clear T0; clear F S; (try rw [HL.out] at hM); clear HL; (try simp [Act.put, Act.eval, Value.cells, splice] at hM); have HL := Lib.hid hM; clear hM; have S := T; clear T; have F := factsAll HL S; (try simp only [factsOf, cellsFrom, and_true, true_and, Nat.reduceAdd] at F)))
    go_upto_region 3 with (first | (go_at_call 65; refine (CO _ (HX.out.at_ S)).mono ?_; rintro e w ⟨u, rfl, T0⟩; obtain ⟨L, hM, T⟩ := st_name (S.call T0); clear T0; clear F S; (try rw [HL.out] at hM); clear HL; (try simp [Act.put, Act.eval, Value.cells, splice] at hM); have HL := Lib.hid hM; clear hM; have S := T; clear T; have F := factsAll HL S; (try simp only [factsOf, cellsFrom, and_true, true_and, Nat.reduceAdd] at F); obtain ⟨A', cap', rfl, hcap', hmax'⟩ := S.sliceOf (atOf HL (p := 0) rfl)) | (refine wpList_store_box rfl S _ _ _ rfl 2 _ _ _ _ (atOf HL rfl) rfl _ rfl (by kernel_rfl) rfl rfl ?_; intro w L hM T; clear F S; (try rw [HL.out] at hM); clear HL; (try simp [Act.put, Act.eval, Value.cells, splice] at hM); have HL := Lib.hid hM; clear hM; have S := T; clear T; have F := factsAll HL S; (try simp only [factsOf, cellsFrom, and_true, true_and, Nat.reduceAdd] at F)))
    go_wp2_with (first | (go_at_call 66; refine (CS _ _ (HPS.out ▸ sees_ls S (by rw [HL.out]; intro e he; simp [he]))).mono ?_; rintro e w ⟨rfl, hb⟩; replace S := S.grow hb; clear hb) | (refine wpList_store_box rfl S _ _ _ rfl 1 _ _ _ _ (atOf HL rfl) rfl _ rfl (by kernel_rfl) rfl rfl ?_; intro w L hM T; clear F S; (try rw [HL.out] at hM); clear HL; (try simp [Act.put, Act.eval, Value.cells, splice] at hM); have HL := Lib.hid hM; clear hM; have S := T; clear T; have F := factsAll HL S; (try simp only [factsOf, cellsFrom, and_true, true_and, Nat.reduceAdd] at F)))
    ((try simp only [Exit.inBlock, Exit.then]); refine ret1 rfl (resCell S HL 1 rfl rfl (by kernel_rfl)) rfl ?_)
    exact ⟨_, rfl, S.nilMx _⟩
  | some p =>
    obtain ⟨x1, x2⟩ := p
    unfold sidesRes at CS
    dsimp only at CS
    cases hv : (Mx.mk r c xs).ok with
    | false =>
      obtain rfl : t = Mx.zero := ht ▸ runPlain_x hv
      have HV := Lib.hid hv
      clear ht hv hz
      obtain ⟨L, HL, S⟩ := st_start w0; have F : True := trivial
      go_enter Try.func31, Try.ntmps31
      go_upto_region 1 with (first | (refine wpList_box (o := { dst := some 3, op := _, type := _, pos := _, after := _, guard := _ }) rfl S _ _ rfl ?_; intro gx w L hM T; clear F S; (try rw [HL.out] at hM); clear HL; (try simp [Act.put, Act.eval, Value.cells, splice] at hM); have HL := Lib.hid hM; clear hM; have S := T; clear T; have F := factsAll HL S; (try simp only [factsOf, cellsFrom, and_true, true_and, Nat.reduceAdd] at F)) | (refine wpList_alloc rfl S 55 _ rfl zMx ?_; intro gr w L hM T; clear F S; (try rw [HL.out] at hM); clear HL; (try simp [Act.put, Act.eval, Value.cells, splice] at hM); have HL := Lib.hid hM; clear hM; have S := T; clear T; have F := factsAll HL S; (try simp only [factsOf, cellsFrom, and_true, true_and, Nat.reduceAdd] at F)))
      go_upto_region 2 with (first | (go_at_call 47; refine (C_l1OwnLayerList _ _ _ (H.out.at_ S) hn1 HSM.out).mono ?_; rintro e w ⟨u, ps, rfl, hps, T0⟩; have HPS := Lib.hid hps; clear hps; obtain ⟨Au, cu, rfl, hcu, hmu⟩ := T0.sliceOf (p := 0) (show At _ 0 _ from rfl); obtain ⟨L, hM, T⟩ := st_name ((S.call T0).perm List.perm_append_comm); clear T0; clear F S; (try rw [HL.out] at hM); clear HL; (try simp [Act.put, Act.eval, Value.cells, splice] at hM); have HL := Lib.hid hM; clear hM; have S := T; clear T; have F := factsAll HL S; (try simp only [factsOf, cellsFrom, and_true, true_and, Nat.reduceAdd] at F)))
      go_upto_region 3 with (first | (go_at_call 65; refine (CO _ (HX.out.at_ S)).mono ?_; rintro e w ⟨u, rfl, T0⟩; obtain ⟨L, hM, T⟩ := st_name (S.call T0); clear T0; clear F S; (try rw [HL.out] at hM); clear HL; (try simp [Act.put, Act.eval, Value.cells, splice] at hM); have HL := Lib.hid hM; clear hM; have S := T; clear T; have F := factsAll HL S; (try simp only [factsOf, cellsFrom, and_true, true_and, Nat.reduceAdd] at F); obtain ⟨A', cap', rfl, hcap', hmax'⟩ := S.sliceOf (atOf HL (p := 0) rfl)) | (refine wpList_store_box rfl S _ _ _ rfl 2 _ _ _ _ (atOf HL rfl) rfl _ rfl (by kernel_rfl) rfl rfl ?_; intro w L hM T; clear F S; (try rw [HL.out] at hM); clear HL; (try simp [Act.put, Act.eval, Value.cells, splice] at hM); have HL := Lib.hid hM; clear hM; have S := T; clear T; have F := factsAll HL S; (try simp only [factsOf, cellsFrom, and_true, true_and, Nat.reduceAdd] at F)))
      go_wp2_with (first | (go_at_call 66; refine (CS _ _ (HPS.out ▸ sees_ls S (by rw [HL.out]; intro e he; simp [he]))).mono ?_; rintro e w ⟨rfl, hb⟩; replace S := S.grow hb; clear hb) | (go_at_call 67; refine (C_spec_MatrixValid _ _ _ _ _ _ (by exact (Sees.row S (by first | exact atOf HL (p := 0) rfl | exact atOf HL (p := 1) rfl | exact atOf HL (p := 2) rfl | exact atOf HL (p := 3) rfl | exact atOf HL (p := 4) rfl | exact atOf HL (p := 5) rfl | exact atOf HL (p := 6) rfl | exact atOf HL (p := 7) rfl | exact atOf HL (p := 8) rfl | exact atOf HL (p := 9) rfl | exact atOf HL (p := 10) rfl | exact atOf HL (p := 11) rfl | exact atOf HL (p := 12) rfl | exact atOf HL (p := 13) rfl | exact atOf HL (p := 14) rfl | exact atOf HL (p := 15) rfl | exact atOf HL (p := 16) rfl | exact atOf HL (p := 17) rfl | exact atOf HL (p := 18) rfl | exact atOf HL (p := 19) rfl | exact atOf HL (p := 20) rfl | exact atOf HL (p := 21) rfl | exact atOf HL (p := 22) rfl | exact atOf HL (p := 23) rfl | exact atOf HL (p := 24) rfl | exact atOf HL (p := 25) rfl | exact atOf HL (p := 26) rfl | exact atOf HL (p := 27) rfl | exact atOf HL (p := 28) rfl | exact atOf HL (p := 29) rfl | exact atOf HL (p := 30) rfl | exact atOf HL (p := 31) rfl | exact atOf HL (p := 32) rfl | exact atOf HL (p := 33) rfl | exact atOf HL (p := 34) rfl | exact atOf HL (p := 35) rfl | exact atOf HL (p := 36) rfl | exact atOf HL (p := 37) rfl | exact atOf HL (p := 38) rfl | exact atOf HL (p := 39) rfl))) (by exact HV.out)).mono ?_; rintro e w ⟨rfl, hb⟩; replace S := S.grow hb; clear hb) | (refine wpList_store_box rfl S _ _ _ rfl 1 _ _ _ _ (atOf HL rfl) rfl _ rfl (by kernel_rfl) rfl rfl ?_; intro w L hM T; clear F S; (try rw [HL.out] at hM); clear HL; (try simp [Act.put, Act.eval, Value.cells, splice] at hM); have HL := Lib.hid hM; clear hM; have S := T; clear T; have F := factsAll HL S; (try simp only [factsOf, cellsFrom, and_true, true_and, Nat.reduceAdd] at F)))
      ((try simp only [Exit.inBlock, Exit.then]); refine ret1 rfl (resCell S HL 1 rfl rfl (by kernel_rfl)) rfl ?_)
      exact ⟨_, rfl, S.nilMx _⟩
    | true =>
      have HV := Lib.hid hv
      obtain ⟨h4, q1, q2, hs⟩ := sides_some hz
      have ht' : runFrom ls ⟨r, c, xs⟩ = t := by
        rw [← ht]
        unfold runPlain
        dsimp only
        rw [hv, hz]
        rfl
      have HS := Lib.hid hs
      have HT := Lib.hid ht'
      clear hz hs ht ht' HZ hv
      obtain ⟨L, HL, S⟩ := st_start w0; have F : True := trivial
      go_enter Try.func31, Try.ntmps31
      go_upto_region 1 with (first | (refine wpList_box (o := { dst := some 3, op := _, type := _, pos := _, after := _, guard := _ }) rfl S _ _ rfl ?_; intro gx w L hM T; clear F S; (try rw [HL.out] at hM); clear HL; (try simp [Act.put, Act.eval, Value.cells, splice] at hM); have HL := Lib.hid hM; clear hM; have S := T; clear T; have F := factsAll HL S; (try simp only [factsOf, cellsFrom, and_true, true_and, Nat.reduceAdd] at F)) | (refine wpList_alloc rfl S 55 _ rfl zMx ?_; intro gr w L hM T; clear F S; (try rw [HL.out] at hM); clear HL; (try simp [Act.put, Act.eval, Value.cells, splice] at hM); have HL := Lib.hid hM; clear hM; have S := T; clear T; have F := factsAll HL S; (try simp only [factsOf, cellsFrom, and_true, true_and, Nat.reduceAdd] at F)))
      go_upto_region 2 with (first | (go_at_call 47; refine (C_l1OwnLayerList _ _ _ (H.out.at_ S) hn1 HSM.out).mono ?_; rintro e w ⟨u, ps, rfl, hps, T0⟩; have HPS := Lib.hid hps; clear hps; obtain ⟨Au, cu, rfl, hcu, hmu⟩ := T0.sliceOf (p := 0) (show At _ 0 _ from rfl); obtain ⟨L, hM, T⟩ := st_name ((S.call T0).perm List.perm_append_comm); clear T0; clear F S; (try rw [HL.out] at hM); clear HL; (try simp [Act.put, Act.eval, Value.cells, splice] at hM); have HL := Lib.hid hM; clear hM; have S := T; clear T; have F := factsAll HL S; (try simp only [factsOf, cellsFrom, and_true, true_and, Nat.reduceAdd] at F)))
      go_upto_region 3 with (first | (go_at_call 65; refine (CO _ (HX.out.at_ S)).mono ?_; rintro e w ⟨u, rfl, T0⟩; obtain ⟨L, hM, T⟩ := st_name (S.call T0); clear T0; clear F S; (try rw [HL.out] at hM); clear HL; (try simp [Act.put, Act.eval, Value.cells, splice] at hM); have HL := Lib.hid hM; clear hM; have S := T; clear T; have F := factsAll HL S; (try simp only [factsOf, cellsFrom, and_true, true_and, Nat.reduceAdd] at F); obtain ⟨A', cap', rfl, hcap', hmax'⟩ := S.sliceOf (atOf HL (p := 0) rfl)) | (refine wpList_store_box rfl S _ _ _ rfl 2 _ _ _ _ (atOf HL rfl) rfl _ rfl (by kernel_rfl) rfl rfl ?_; intro w L hM T; clear F S; (try rw [HL.out] at hM); clear HL; (try simp [Act.put, Act.eval, Value.cells, splice] at hM); have HL := Lib.hid hM; clear hM; have S := T; clear T; have F := factsAll HL S; (try simp only [factsOf, cellsFrom, and_true, true_and, Nat.reduceAdd] at F)))
      go_upto_region 6 with (first | (go_at_call 66; refine (CS _ _ (HPS.out ▸ sees_ls S (by rw [HL.out]; intro e he; simp [he]))).mono ?_; rintro e w ⟨rfl, hb⟩; replace S := S.grow hb; clear hb) | (go_at_call 67; refine (C_spec_MatrixValid _ _ _ _ _ _ (by exact (Sees.row S (by first | exact atOf HL (p := 0) rfl | exact atOf HL (p := 1) rfl | exact atOf HL (p := 2) rfl | exact atOf HL (p := 3) rfl | exact atOf HL (p := 4) rfl | exact atOf HL (p := 5) rfl | exact atOf HL (p := 6) rfl | exact atOf HL (p := 7) rfl | exact atOf HL (p := 8) rfl | exact atOf HL (p := 9) rfl | exact atOf HL (p := 10) rfl | exact atOf HL (p := 11) rfl | exact atOf HL (p := 12) rfl | exact atOf HL (p := 13) rfl | exact atOf HL (p := 14) rfl | exact atOf HL (p := 15) rfl | exact atOf HL (p := 16) rfl | exact atOf HL (p := 17) rfl | exact atOf HL (p := 18) rfl | exact atOf HL (p := 19) rfl | exact atOf HL (p := 20) rfl | exact atOf HL (p := 21) rfl | exact atOf HL (p := 22) rfl | exact atOf HL (p := 23) rfl | exact atOf HL (p := 24) rfl | exact atOf HL (p := 25) rfl | exact atOf HL (p := 26) rfl | exact atOf HL (p := 27) rfl | exact atOf HL (p := 28) rfl | exact atOf HL (p := 29) rfl | exact atOf HL (p := 30) rfl | exact atOf HL (p := 31) rfl | exact atOf HL (p := 32) rfl | exact atOf HL (p := 33) rfl | exact atOf HL (p := 34) rfl | exact atOf HL (p := 35) rfl | exact atOf HL (p := 36) rfl | exact atOf HL (p := 37) rfl | exact atOf HL (p := 38) rfl | exact atOf HL (p := 39) rfl))) (by exact HV.out)).mono ?_; rintro e w ⟨rfl, hb⟩; replace S := S.grow hb; clear hb))
      (try simp only [Act.put, List.setIfInBounds_toArray, List.set_cons_zero, List.set_cons_succ])
      go_cut [8] (fun v w => ∃ (g : Nat) (A : Option Addr) (cap : Nat), v = .pointer (some ⟨g, 0, none⟩) ∧ xs.length ≤ cap ∧ cap ≤ maxLen ∧ St w0 w (.box g 55 [.int .i64 r, .int .i64 c, .slice A xs.length cap] :: .row 3 1 (.slice A xs.length cap) xs.length (ints xs) :: L))
      case first =>
        have HL0 := HL; have F0 := F; refine wp_region_tree (S := fun w' => St w0 w' L) (.calm 0 (.calm 1 (.calm 2 (.calm 3 (.calm 5 (.calm 6 (.act 4 (.act 7 (.calm 8 (.act 9 (.act 10 .fin .stop) .stop)) (.act 9 (.act 7 (.calm 8 (.act 10 .fin .stop)) .stop) .stop)) (.act 9 (.act 4 (.act 7 (.calm 8 (.act 10 .fin .stop)) .stop) .stop) .stop)))))))) (by kernel_rfl) (by kernel_rfl) (by kernel_rfl) (by intro c a d v w h; cases d <;> exact h) ?_; replace S := S.drew
        repeat' (first | (first | (refine tree_calm (v := ?_) ?_ rfl (by decide +kernel) rfl ?_ ?_; rotate_left; (focus (first | exact S | (refine S.sub (subL HL0 HL ?_); (repeat (first | exact List.Sublist.refl _ | apply List.Sublist.cons)); done))); (focus (intro w' hS'; (try dsimp only at hS'); go_simp; try rfl)); (try simp only [Act.put, List.setIfInBounds_toArray, List.set_cons_zero, List.set_cons_succ])) | (refine tree_any (v := ?_) ?_ rfl rfl ?_ ?_; rotate_left; (focus (first | exact S | (refine S.sub (subL HL0 HL ?_); (repeat (first | exact List.Sublist.refl _ | apply List.Sublist.cons)); done))); (focus (intro w'; go_simp; try rfl)); (try simp only [Act.put, List.setIfInBounds_toArray, List.set_cons_zero, List.set_cons_succ]))) | (refine tree_skip ?_ rfl rfl ?_; (focus (first | exact S | (refine S.sub (subL HL0 HL ?_); (repeat (first | exact List.Sublist.refl _ | apply List.Sublist.cons)); done))); (try simp only [Act.put, List.setIfInBounds_toArray, List.set_cons_zero, List.set_cons_succ])) | exact tree_stop | (refine tree_act rfl rfl ?_ ?_) | (intro K hK; (refine wp_emptyR S _ rfl 3 Try.underlying53 infoInt ?_; intro g w L hM T; clear F S; (try rw [HL.out] at hM); clear HL; (try simp [Act.put, Act.eval, Value.cells, splice] at hM); have HL := Lib.hid hM; clear hM; have S := T; clear T; have F := factsAll HL S; (try simp only [factsOf, cellsFrom, and_true, true_and, Nat.reduceAdd] at F)); (refine hK.out _ _ ?_ ?_; (focus (first | exact fun _ => S | (intro _; refine S.sub (subL HL0 HL ?_); (repeat (first | exact List.Sublist.refl _ | apply List.Sublist.cons)); done) | (refine sink_no ?_; kernel_rfl))); clear hK K; (try simp only [Act.put, List.setIfInBounds_toArray, List.set_cons_zero, List.set_cons_succ]))) | (intro K hK; (refine wp_append_see S _ _ _ rfl _ 3 _ 1 8 Try.underlying53 infoInt rfl (by omega) _ _ _ rfl (by first | exact atOf HL (p := 0) rfl | exact atOf HL (p := 1) rfl | exact atOf HL (p := 2) rfl | exact atOf HL (p := 3) rfl | exact atOf HL (p := 4) rfl | exact atOf HL (p := 5) rfl | exact atOf HL (p := 6) rfl | exact atOf HL (p := 7) rfl | exact atOf HL (p := 8) rfl | exact atOf HL (p := 9) rfl | exact atOf HL (p := 10) rfl | exact atOf HL (p := 11) rfl | exact atOf HL (p := 12) rfl | exact atOf HL (p := 13) rfl | exact atOf HL (p := 14) rfl | exact atOf HL (p := 15) rfl | exact atOf HL (p := 16) rfl | exact atOf HL (p := 17) rfl | exact atOf HL (p := 18) rfl | exact atOf HL (p := 19) rfl | exact atOf HL (p := 20) rfl | exact atOf HL (p := 21) rfl | exact atOf HL (p := 22) rfl | exact atOf HL (p := 23) rfl | exact atOf HL (p := 24) rfl | exact atOf HL (p := 25) rfl | exact atOf HL (p := 26) rfl | exact atOf HL (p := 27) rfl | exact atOf HL (p := 28) rfl | exact atOf HL (p := 29) rfl | exact atOf HL (p := 30) rfl | exact atOf HL (p := 31) rfl | exact atOf HL (p := 32) rfl | exact atOf HL (p := 33) rfl | exact atOf HL (p := 34) rfl | exact atOf HL (p := 35) rfl | exact atOf HL (p := 36) rfl | exact atOf HL (p := 37) rfl | exact atOf HL (p := 38) rfl | exact atOf HL (p := 39) rfl) _ _ _ rfl (by exact (Sees.row S (by first | exact atOf HL (p := 0) rfl | exact atOf HL (p := 1) rfl | exact atOf HL (p := 2) rfl | exact atOf HL (p := 3) rfl | exact atOf HL (p := 4) rfl | exact atOf HL (p := 5) rfl | exact atOf HL (p := 6) rfl | exact atOf HL (p := 7) rfl | exact atOf HL (p := 8) rfl | exact atOf HL (p := 9) rfl | exact atOf HL (p := 10) rfl | exact atOf HL (p := 11) rfl | exact atOf HL (p := 12) rfl | exact atOf HL (p := 13) rfl | exact atOf HL (p := 14) rfl | exact atOf HL (p := 15) rfl | exact atOf HL (p := 16) rfl | exact atOf HL (p := 17) rfl | exact atOf HL (p := 18) rfl | exact atOf HL (p := 19) rfl | exact atOf HL (p := 20) rfl | exact atOf HL (p := 21) rfl | exact atOf HL (p := 22) rfl | exact atOf HL (p := 23) rfl | exact atOf HL (p := 24) rfl | exact atOf HL (p := 25) rfl | exact atOf HL (p := 26) rfl | exact atOf HL (p := 27) rfl | exact atOf HL (p := 28) rfl | exact atOf HL (p := 29) rfl | exact atOf HL (p := 30) rfl | exact atOf HL (p := 31) rfl | exact atOf HL (p := 32) rfl | exact atOf HL (p := 33) rfl | exact atOf HL (p := 34) rfl | exact atOf HL (p := 35) rfl | exact atOf HL (p := 36) rfl | exact atOf HL (p := 37) rfl | exact atOf HL (p := 38) rfl | exact atOf HL (p := 39) rfl))) (ints_one _) (by simp only [maxLen]; omega) (by omega) ?_; intro u' w L hM T; clear F S; (try rw [HL.out] at hM); clear HL; (try simp [Act.put, Act.eval, Value.cells, splice] at hM); have HL := Lib.hid hM; clear hM; have S := T; clear T; have F := factsAll HL S; (try simp only [factsOf, cellsFrom, and_true, true_and, Nat.reduceAdd] at F); (first | obtain ⟨A', cap', rfl, hcap', hmax'⟩ := S.sliceOf (atOf HL (p := 0) rfl) | obtain ⟨A', cap', rfl, hcap', hmax'⟩ := S.sliceOf (atOf HL (p := 1) rfl))); (refine hK.out _ _ ?_ ?_; (focus (first | exact fun _ => S | (intro _; refine S.sub (subL HL0 HL ?_); (repeat (first | exact List.Sublist.refl _ | apply List.Sublist.cons)); done) | (refine sink_no ?_; kernel_rfl))); clear hK K; (try simp only [Act.put, List.setIfInBounds_toArray, List.set_cons_zero, List.set_cons_succ]))) | (intro K hK; (refine wp_alloc S 55 _ rfl zMx ?_; intro g w L hM T; clear F S; (try rw [HL.out] at hM); clear HL; (try simp [Act.put, Act.eval, Value.cells, splice] at hM); have HL := Lib.hid hM; clear hM; have S := T; clear T; have F := factsAll HL S; (try simp only [factsOf, cellsFrom, and_true, true_and, Nat.reduceAdd] at F)); (refine hK.out _ _ ?_ ?_; (focus (first | exact fun _ => S | (intro _; refine S.sub (subL HL0 HL ?_); (repeat (first | exact List.Sublist.refl _ | apply List.Sublist.cons)); done) | (refine sink_no ?_; kernel_rfl))); clear hK K; (try simp only [Act.put, List.setIfInBounds_toArray, List.set_cons_zero, List.set_cons_succ]))) | (intro K hK; (refine wp_store_box S _ _ _ rfl 0 _ _ _ _ (atOf HL rfl) rfl _ rfl (by kernel_rfl) rfl rfl ?_; intro w L hM T; clear F S; (try rw [HL.out] at hM); clear HL; (try simp [Act.put, Act.eval, Value.cells, splice] at hM); have HL := Lib.hid hM; clear hM; have S := T; clear T; have F := factsAll HL S; (try simp only [factsOf, cellsFrom, and_true, true_and, Nat.reduceAdd] at F)); (refine hK.out _ _ ?_ ?_; (focus (first | exact fun _ => S | (intro _; refine S.sub (subL HL0 HL ?_); (repeat (first | exact List.Sublist.refl _ | apply List.Sublist.cons)); done) | (refine sink_no ?_; kernel_rfl))); clear hK K; (try simp only [Act.put, List.setIfInBounds_toArray, List.set_cons_zero, List.set_cons_succ]))) | (intro K hK; (refine wp_store_box S _ _ _ rfl 1 _ _ _ _ (atOf HL rfl) rfl _ rfl (by kernel_rfl) rfl rfl ?_; intro w L hM T; clear F S; (try rw [HL.out] at hM); clear HL; (try simp [Act.put, Act.eval, Value.cells, splice] at hM); have HL := Lib.hid hM; clear hM; have S := T; clear T; have F := factsAll HL S; (try simp only [factsOf, cellsFrom, and_true, true_and, Nat.reduceAdd] at F)); (refine hK.out _ _ ?_ ?_; (focus (first | exact fun _ => S | (intro _; refine S.sub (subL HL0 HL ?_); (repeat (first | exact List.Sublist.refl _ | apply List.Sublist.cons)); done) | (refine sink_no ?_; kernel_rfl))); clear hK K; (try simp only [Act.put, List.setIfInBounds_toArray, List.set_cons_zero, List.set_cons_succ]))) | (intro K hK; go_wp2_with (first | fail); (refine hK.out _ _ ?_ ?_; (focus (first | exact fun _ => S | (intro _; refine S.sub (subL HL0 HL ?_); (repeat (first | exact List.Sublist.refl _ | apply List.Sublist.cons)); done) | (refine sink_no ?_; kernel_rfl))); clear hK K; (try simp only [Act.put, List.setIfInBounds_toArray, List.set_cons_zero, List.set_cons_succ]))))
        all_goals
          refine tree_fin ?_
          go_wp2_with fail
          go_meet
          refine ⟨_, A', cap', rfl, hcap', hmax', ?_⟩
          rw [HL0.out]
          first
            | (rw [HL.out] at S; exact S)
            | (rw [HL.out] at S; exact S.perm (.swap _ _ _))
      case rest =>
      obtain ⟨g8, A8, cap8, rfl, hcap8, hmax8, T0⟩ := hcut
      obtain ⟨L, hM, T⟩ := st_name T0
      clear T0
      clear F S; (try rw [HL.out] at hM); clear HL; (try simp [Act.put, Act.eval, Value.cells, splice] at hM); have HL := Lib.hid hM; clear hM; have S := T; clear T; have F := factsAll HL S; (try simp only [factsOf, cellsFrom, and_true, true_and, Nat.reduceAdd] at F)
      have HPL : Hid (ps.length = ls.length) := Lib.hid (by rw [← HPS.out, List.length_map])
      have hpb : ps.length ≤ 4 := by rw [HPL.out]; exact h4
      go_wp2
      go_loopw [9] (fun i wr => ∃ (j N : Nat) (y : Mx) (A : Option Addr) (cap : Nat) (L : List Ent), j ≤ ps.length ∧ i = .int .i64 j ∧ N ≤ cap ∧ cap ≤ maxLen ∧ Hid (y.ok = true ∧ y.xs.length = N ∧ sidesFrom (ls.drop j) y.r y.c = some (x1, x2) ∧ runFrom (ls.drop j) y = t) ∧ Hid (L = .row 3 1 (.slice A N cap) N (ints y.xs) :: .box g8 55 [.int .i64 y.r, .int .i64 y.c, .slice A N cap] :: .row 3 1 (.slice A' xs.length cap') xs.length (ints xs) :: .box gr 55 [.int .i64 0, .int .i64 0, .slice none 0 0] :: .box gx 55 [.int .i64 r, .int .i64 c, .slice A' xs.length cap'] :: entsL (.slice Au ps.length cu) ps) ∧ St w0 wr L) (fun i _ => ps.length - (intOf i).toNat)
      case atStart => exact ⟨0, xs.length, ⟨r, c, xs⟩, A8, cap8, _, Nat.zero_le _, rfl, hcap8, hmax8, Lib.hid ⟨HV.out, rfl, HS.out, HT.out⟩, Lib.hid rfl, by rw [HL.out] at S; exact S.perm (.swap _ _ _)⟩
      case round =>
        clear F HL S HS HT CS HV
        obtain ⟨j, N, y, B, capb, L, hj, rfl, hcapb, hmaxb, HR, HL, S⟩ := hrel
        obtain ⟨yr, yc, ys⟩ := y
        dsimp only at HR HL
        have F := factsAll HL S
        simp only [factsOf, cellsFrom, and_true, true_and, Nat.reduceAdd] at F
        obtain ⟨hok, hyn, hsd, hrun⟩ := HR.out
        by_cases hlt : j < ps.length
        · have hent : ∀ e ∈ entsL (.slice Au ps.length cu) ps, e ∈ L := by rw [HL.out]; intro e he; simp [he]
          obtain ⟨⟨qu, qk, qp⟩, hq⟩ := some_at rfl hlt
          obtain ⟨ga, ca, he, f1, f2, f3⟩ := layer_at S hent hq
          simp only [Value.slice.injEq, true_and] at he
          obtain ⟨rfl, rfl⟩ := he
          dsimp only at f1 f2 f3
          obtain ⟨l, hly⟩ : ∃ l, lyO (qu, qk, qp) = l := ⟨_, rfl⟩
          have hl : ls[j]? = some l := by rw [← HPS.out, List.getElem?_map, hq, ← hly]; rfl
          rw [drop_at hl] at hsd hrun
          have hsi := Mx.ok_sides hok
          obtain ⟨a, d', hlok, hs, _, _, hrest⟩ := from_cons hsi.1 hsi.2 hsd
          obtain ⟨hnok, hnr, hnc⟩ := runLy_next hlok hok hs
          have HNX : Hid ((runLy l ⟨yr, yc, ys⟩).ok = true ∧ sidesFrom (ls.drop (j + 1)) (runLy l ⟨yr, yc, ys⟩).r (runLy l ⟨yr, yc, ys⟩).c = some (x1, x2) ∧ runFrom (ls.drop (j + 1)) (runLy l ⟨yr, yc, ys⟩) = t) := Lib.hid ⟨hnok, by rw [hnr, hnc]; exact hrest, hrun⟩
          have hcase := run_case hlok hok hs
          have HLOK := Lib.hid hlok
          have HOK := Lib.hid hok
          have hin : ∀ e ∈ entsM qu qp, e ∈ L := fun e he => hent e (List.mem_cons_of_mem _ (List.mem_flatMap.2 ⟨_, List.mem_of_getElem? hq, he⟩))
          clear HR hsd hrun hsi hlok hs hrest hnok hnr hnc hok hl hent hq
          cases hcase with
          | dense R C D ws bs xs' r1 r2 c1 c2 d1 d2 lw lb lx aw ab ax =>
            obtain ⟨rfl, hmap⟩ : qk = 1 ∧ qp.map Prod.snd = [⟨R, C, ws⟩, ⟨R, 1, bs⟩] := by injection hly with a b; exact ⟨a, b⟩
            obtain ⟨v0, v1, rfl⟩ := twoOf hmap
            obtain ⟨gb, cb, rfl, ⟨hcb, hmb⟩, g0, g1, g2, g3, g4, g5, i0, i1⟩ := two_at S hin
            dsimp only at g0 g1 g2 g3 g4 g5 i0 i1
            have I0 := Lib.hid i0
            have I1 := Lib.hid i1
            obtain ⟨_, B0, k0, rfl, _⟩ := i0 _ S
            obtain ⟨_, B1, k1, rfl, _⟩ := i1 _ S
            clear i0 i1 hmap hly hin f3
            obtain ⟨zs, hz⟩ : ∃ zs, denseL ws bs ys R C D = zs := ⟨_, rfl⟩
            obtain ⟨M, hM⟩ : ∃ M, R * D = M := ⟨_, rfl⟩
            have CR := fun u v x w h h' hx => C_spec_Dense R C D M ws bs ys zs u v x w h h' (by unfold Ints; rw [hyn]; exact hx) lw lb lx r1 r2 c1 c2 d1 d2 aw ab ax hM hz
            replace HNX : Hid ((Mx.mk R D zs).ok = true ∧ sidesFrom (ls.drop (j + 1)) R D = some (x1, x2) ∧ runFrom (ls.drop (j + 1)) ⟨R, D, zs⟩ = t) := Lib.hid (by have := HNX.out; simp only [runLy, Int.toNat_natCast, hz] at this; exact this)
            have HZL : Hid (zs.length = M) := Lib.hid (by rw [← hz, ← hM]; exact denseL_len _ _ _ _ _ _)
            clear lw lb lx aw ab ax hM hz r1 r2 c1 c2 d1 d2
            go_wp2
            have HL0 := HL; have F0 := F; refine wp_region_tree (S := fun w' => St w0 w' L) (.calm 0 (.calm 1 (.calm 2 (.calm 3 (.calm 4 (.calm 5 (.calm 6 (.calm 7 (.calm 8 (.calm 9 (.calm 10 (.calm 11 (.calm 12 (.calm 13 (.calm 14 (.act 15 (.act 16 .fin .stop) .stop)))))))))))))))) (by kernel_rfl) (by kernel_rfl) (by kernel_rfl) (by intro c a d v w h; cases d <;> exact h) ?_; replace S := S.drew
            repeat (first | (first | (refine tree_calm (v := ?_) ?_ rfl (by decide +kernel) rfl ?_ ?_; rotate_left; (focus (first | exact S | (refine S.sub (subL HL0 HL ?_); (repeat (first | exact List.Sublist.refl _ | apply List.Sublist.cons)); done))); (focus (intro w' hS'; (try dsimp only at hS'); go_simp; try rfl)); (try simp only [Act.put, List.setIfInBounds_toArray, List.set_cons_zero, List.set_cons_succ])) | (refine tree_any (v := ?_) ?_ rfl rfl ?_ ?_; rotate_left; (focus (first | exact S | (refine S.sub (subL HL0 HL ?_); (repeat (first | exact List.Sublist.refl _ | apply List.Sublist.cons)); done))); (focus (intro w'; go_simp; try rfl)); (try simp only [Act.put, List.setIfInBounds_toArray, List.set_cons_zero, List.set_cons_succ]))) | (refine tree_skip ?_ rfl rfl ?_; (focus (first | exact S | (refine S.sub (subL HL0 HL ?_); (repeat (first | exact List.Sublist.refl _ | apply List.Sublist.cons)); done))); (try simp only [Act.put, List.setIfInBounds_toArray, List.set_cons_zero, List.set_cons_succ])) | (refine tree_act rfl rfl ?_ tree_stop; intro K hK; (refine wp_store_box S _ _ _ rfl 2 _ _ _ _ (atOf HL rfl) rfl _ rfl (by kernel_rfl) rfl rfl ?_; intro w L hM T; clear F S; (try rw [HL.out] at hM); clear HL; (try simp [Act.put, Act.eval, Value.cells, splice] at hM); have HL := Lib.hid hM; clear hM; have S := T; clear T; have F := factsAll HL S; (try simp only [factsOf, cellsFrom, and_true, true_and, Nat.reduceAdd] at F)); (refine hK.out _ _ ?_ ?_; (focus (first | exact fun _ => S | (intro _; refine S.sub (subL HL0 HL ?_); (repeat (first | exact List.Sublist.refl _ | apply List.Sublist.cons)); done) | (refine sink_no ?_; kernel_rfl))); clear hK K; (try simp only [Act.put, List.setIfInBounds_toArray, List.set_cons_zero, List.set_cons_succ]))) | (refine tree_act rfl rfl ?_ tree_stop; intro K hK; go_wp2_with (first | (go_at_call 68; refine (CR _ _ _ _ (I0.out _ S) (I1.out _ S) (Sees.row S (by first | exact atOf HL (p := 0) rfl | exact atOf HL (p := 1) rfl | exact atOf HL (p := 2) rfl | exact atOf HL (p := 3) rfl | exact atOf HL (p := 4) rfl | exact atOf HL (p := 5) rfl | exact atOf HL (p := 6) rfl | exact atOf HL (p := 7) rfl | exact atOf HL (p := 8) rfl | exact atOf HL (p := 9) rfl | exact atOf HL (p := 10) rfl | exact atOf HL (p := 11) rfl | exact atOf HL (p := 12) rfl | exact atOf HL (p := 13) rfl | exact atOf HL (p := 14) rfl | exact atOf HL (p := 15) rfl | exact atOf HL (p := 16) rfl | exact atOf HL (p := 17) rfl | exact atOf HL (p := 18) rfl | exact atOf HL (p := 19) rfl | exact atOf HL (p := 20) rfl | exact atOf HL (p := 21) rfl | exact atOf HL (p := 22) rfl | exact atOf HL (p := 23) rfl | exact atOf HL (p := 24) rfl | exact atOf HL (p := 25) rfl | exact atOf HL (p := 26) rfl | exact atOf HL (p := 27) rfl | exact atOf HL (p := 28) rfl | exact atOf HL (p := 29) rfl | exact atOf HL (p := 30) rfl | exact atOf HL (p := 31) rfl | exact atOf HL (p := 32) rfl | exact atOf HL (p := 33) rfl | exact atOf HL (p := 34) rfl | exact atOf HL (p := 35) rfl | exact atOf HL (p := 36) rfl | exact atOf HL (p := 37) rfl | exact atOf HL (p := 38) rfl | exact atOf HL (p := 39) rfl))).mono ?_; rintro e w ⟨u, rfl, T0⟩; obtain ⟨L, hM, T⟩ := st_name (S.call T0); clear T0; clear F S; (try rw [HL.out] at hM); clear HL; (try simp [Act.put, Act.eval, Value.cells, splice] at hM); have HL := Lib.hid hM; clear hM; have S := T; clear T; have F := factsAll HL S; (try simp only [factsOf, cellsFrom, and_true, true_and, Nat.reduceAdd] at F); obtain ⟨A', cap', rfl, hcap', hmax'⟩ := S.sliceOf (atOf HL (p := 0) rfl))); (refine hK.out _ _ ?_ ?_; (focus (first | exact fun _ => S | (intro _; refine S.sub (subL HL0 HL ?_); (repeat (first | exact List.Sublist.refl _ | apply List.Sublist.cons)); done) | (refine sink_no ?_; kernel_rfl))); clear hK K; (try simp only [Act.put, List.setIfInBounds_toArray, List.set_cons_zero, List.set_cons_succ]))))
            refine tree_fin ?_
            go_wp2
            go_roundw
            case rel => exact ⟨j + 1, M, ⟨R, D, zs⟩, A', cap', _, by omega, by go_num, hcap', hmax', Lib.hid ⟨HNX.out.1, HZL.out, HNX.out.2.1, HNX.out.2.2⟩, Lib.hid rfl, (by rw [HL.out] at S; exact S.sub (.cons_cons _ (.cons _ (.refl _))))⟩
            case measure => simp [intOf]; omega
          | ramp R C xs' r1 r2 c1 c2 lx ax =>
            obtain ⟨rfl, hmap⟩ : qk = 2 ∧ qp.map Prod.snd = [] := by injection hly with a b; exact ⟨a, b⟩
            clear hly hin f2 f3 hmap
            obtain ⟨zs, hz⟩ : ∃ zs, mapL 2 ys = zs := ⟨_, rfl⟩
            have CR := fun u w h => sMap (n := N) hz (.inr (.inl rfl)) r1 r2 c1 c2 lx (hyn.symm.trans lx) ax 2 R C u w ⟨rfl, rfl, rfl⟩ h
            replace HNX : Hid ((Mx.mk R C zs).ok = true ∧ sidesFrom (ls.drop (j + 1)) R C = some (x1, x2) ∧ runFrom (ls.drop (j + 1)) ⟨R, C, zs⟩ = t) := Lib.hid (by have := HNX.out; simp only [runLy, hz] at this; exact this)
            have HZL : Hid (zs.length = N) := Lib.hid (by rw [← hz, mapL_len]; exact hyn)
            clear lx ax hz r1 r2 c1 c2
            go_wp2_with (first | (refine wpList_store_box rfl S _ _ _ rfl 2 _ _ _ _ (atOf HL rfl) rfl _ rfl (by kernel_rfl) rfl rfl ?_; intro w L hM T; clear F S; (try rw [HL.out] at hM); clear HL; (try simp [Act.put, Act.eval, Value.cells, splice] at hM); have HL := Lib.hid hM; clear hM; have S := T; clear T; have F := factsAll HL S; (try simp only [factsOf, cellsFrom, and_true, true_and, Nat.reduceAdd] at F)) | (go_at_call 69; refine (CR _ _ (Sees.row S (by first | exact atOf HL (p := 0) rfl | exact atOf HL (p := 1) rfl | exact atOf HL (p := 2) rfl | exact atOf HL (p := 3) rfl | exact atOf HL (p := 4) rfl | exact atOf HL (p := 5) rfl | exact atOf HL (p := 6) rfl | exact atOf HL (p := 7) rfl | exact atOf HL (p := 8) rfl | exact atOf HL (p := 9) rfl | exact atOf HL (p := 10) rfl | exact atOf HL (p := 11) rfl | exact atOf HL (p := 12) rfl | exact atOf HL (p := 13) rfl | exact atOf HL (p := 14) rfl | exact atOf HL (p := 15) rfl | exact atOf HL (p := 16) rfl | exact atOf HL (p := 17) rfl | exact atOf HL (p := 18) rfl | exact atOf HL (p := 19) rfl | exact atOf HL (p := 20) rfl | exact atOf HL (p := 21) rfl | exact atOf HL (p := 22) rfl | exact atOf HL (p := 23) rfl | exact atOf HL (p := 24) rfl | exact atOf HL (p := 25) rfl | exact atOf HL (p := 26) rfl | exact atOf HL (p := 27) rfl | exact atOf HL (p := 28) rfl | exact atOf HL (p := 29) rfl | exact atOf HL (p := 30) rfl | exact atOf HL (p := 31) rfl | exact atOf HL (p := 32) rfl | exact atOf HL (p := 33) rfl | exact atOf HL (p := 34) rfl | exact atOf HL (p := 35) rfl | exact atOf HL (p := 36) rfl | exact atOf HL (p := 37) rfl | exact atOf HL (p := 38) rfl | exact atOf HL (p := 39) rfl))).mono ?_; rintro e w ⟨u, rfl, T0⟩; obtain ⟨L, hM, T⟩ := st_name (S.call T0); clear T0; clear F S; (try rw [HL.out] at hM); clear HL; (try simp [Act.put, Act.eval, Value.cells, splice] at hM); have HL := Lib.hid hM; clear hM; have S := T; clear T; have F := factsAll HL S; (try simp only [factsOf, cellsFrom, and_true, true_and, Nat.reduceAdd] at F); obtain ⟨A', cap', rfl, hcap', hmax'⟩ := S.sliceOf (atOf HL (p := 0) rfl)))
            go_roundw
            case rel => exact ⟨j + 1, N, ⟨R, C, zs⟩, A', cap', _, by omega, by go_num, hcap', hmax', Lib.hid ⟨HNX.out.1, HZL.out, HNX.out.2.1, HNX.out.2.2⟩, Lib.hid rfl, (by rw [HL.out] at S; exact S.sub (.cons_cons _ (.cons _ (.refl _))))⟩
            case measure => simp [intOf]; omega
          | mix X Y a b c' xs' y1 y2 y3 y4 la lb lc lx aa ab ac ax =>
            obtain ⟨rfl, hmap⟩ : qk = 3 ∧ qp.map Prod.snd = [⟨Y, Y, a⟩, ⟨Y, Y, b⟩, ⟨Y, Y, c'⟩] := by injection hly with a b; exact ⟨a, b⟩
            rw [hmap] at f3
            have I3 := Lib.hid f3
            obtain ⟨Bm, km, rfl, hkm1, hkm2, _⟩ := f3 _ S
            obtain ⟨zs, hz⟩ : ∃ zs, mixL a b c' ys X Y = zs := ⟨_, rfl⟩
            have hpm : plainMix ⟨3, [⟨Y, Y, a⟩, ⟨Y, Y, b⟩, ⟨Y, Y, c'⟩]⟩ ⟨X, Y, ys⟩ = ⟨X, Y, zs⟩ := by
              unfold plainMix
              dsimp only
              rw [HLOK.out, HOK.out, ← hz, ← mixRun_eq y1 y2 y3 y4 lx ax]
              simp
            have sq : Y * Y ≤ 5 * 5 := Nat.mul_le_mul y4 y4
            have CR := fun u w h hx => C_spec_PlainMix ⟨3, [⟨Y, Y, a⟩, ⟨Y, Y, b⟩, ⟨Y, Y, c'⟩]⟩ ⟨X, Y, ys⟩ ⟨X, Y, zs⟩ (.slice Bm 3 km) u w h (by unfold Ints; rw [hyn]; exact hx) (by simp) (by intro m hm; simp at hm; rcases hm with rfl | rfl | rfl <;> simp only [la, lb, lc] <;> omega) (by have : X * Y ≤ 5 * 5 := Nat.mul_le_mul y2 y4; dsimp only; omega) hpm
            unfold MakesMx at CR
            dsimp only at CR
            replace HNX : Hid ((Mx.mk X Y zs).ok = true ∧ sidesFrom (ls.drop (j + 1)) X Y = some (x1, x2) ∧ runFrom (ls.drop (j + 1)) ⟨X, Y, zs⟩ = t) := Lib.hid (by have := HNX.out; simp only [runLy, Int.toNat_natCast, hz] at this; exact this)
            simp only [List.length_cons, List.length_nil, Nat.zero_add, Nat.reduceAdd] at f2 I3 hkm1
            clear la lb lc lx aa ab ac ax hz hpm sq y1 y2 y3 y4 hly hin hmap f3
            go_wp2
            have HL0 := HL; have F0 := F; refine wp_region_tree (S := fun w' => St w0 w' L) (.calm 0 (.calm 1 (.calm 2 (.calm 3 (.calm 4 (.act 5 (.act 6 .fin .stop) .stop)))))) (by kernel_rfl) (by kernel_rfl) (by kernel_rfl) (by intro c a d v w h; cases d <;> exact h) ?_; replace S := S.drew
            repeat (first | (first | (refine tree_calm (v := ?_) ?_ rfl (by decide +kernel) rfl ?_ ?_; rotate_left; (focus (first | exact S | (refine S.sub (subL HL0 HL ?_); (repeat (first | exact List.Sublist.refl _ | apply List.Sublist.cons)); done))); (focus (intro w' hS'; (try dsimp only at hS'); go_simp; try rfl)); (try simp only [Act.put, List.setIfInBounds_toArray, List.set_cons_zero, List.set_cons_succ])) | (refine tree_any (v := ?_) ?_ rfl rfl ?_ ?_; rotate_left; (focus (first | exact S | (refine S.sub (subL HL0 HL ?_); (repeat (first | exact List.Sublist.refl _ | apply List.Sublist.cons)); done))); (focus (intro w'; go_simp; try rfl)); (try simp only [Act.put, List.setIfInBounds_toArray, List.set_cons_zero, List.set_cons_succ]))) | (refine tree_skip ?_ rfl rfl ?_; (focus (first | exact S | (refine S.sub (subL HL0 HL ?_); (repeat (first | exact List.Sublist.refl _ | apply List.Sublist.cons)); done))); (try simp only [Act.put, List.setIfInBounds_toArray, List.set_cons_zero, List.set_cons_succ])) | (refine tree_act rfl rfl ?_ tree_stop; intro K hK; (refine wp_store_box S _ _ _ rfl 2 _ _ _ _ (atOf HL rfl) rfl _ rfl (by kernel_rfl) rfl rfl ?_; intro w L hM T; clear F S; (try rw [HL.out] at hM); clear HL; (try simp [Act.put, Act.eval, Value.cells, splice] at hM); have HL := Lib.hid hM; clear hM; have S := T; clear T; have F := factsAll HL S; (try simp only [factsOf, cellsFrom, and_true, true_and, Nat.reduceAdd] at F)); (refine hK.out _ _ ?_ ?_; (focus (first | exact fun _ => S | (intro _; refine S.sub (subL HL0 HL ?_); (repeat (first | exact List.Sublist.refl _ | apply List.Sublist.cons)); done) | (refine sink_no ?_; kernel_rfl))); clear hK K; (try simp only [Act.put, List.setIfInBounds_toArray, List.set_cons_zero, List.set_cons_succ]))) | (refine tree_act rfl rfl ?_ tree_stop; intro K hK; go_wp2_with (first | (go_at_call 70; refine (CR _ _ (I3.out _ S) (Sees.row S (by first | exact atOf HL (p := 0) rfl | exact atOf HL (p := 1) rfl | exact atOf HL (p := 2) rfl | exact atOf HL (p := 3) rfl | exact atOf HL (p := 4) rfl | exact atOf HL (p := 5) rfl | exact atOf HL (p := 6) rfl | exact atOf HL (p := 7) rfl | exact atOf HL (p := 8) rfl | exact atOf HL (p := 9) rfl | exact atOf HL (p := 10) rfl | exact atOf HL (p := 11) rfl | exact atOf HL (p := 12) rfl | exact atOf HL (p := 13) rfl | exact atOf HL (p := 14) rfl | exact atOf HL (p := 15) rfl | exact atOf HL (p := 16) rfl | exact atOf HL (p := 17) rfl | exact atOf HL (p := 18) rfl | exact atOf HL (p := 19) rfl | exact atOf HL (p := 20) rfl | exact atOf HL (p := 21) rfl | exact atOf HL (p := 22) rfl | exact atOf HL (p := 23) rfl | exact atOf HL (p := 24) rfl | exact atOf HL (p := 25) rfl | exact atOf HL (p := 26) rfl | exact atOf HL (p := 27) rfl | exact atOf HL (p := 28) rfl | exact atOf HL (p := 29) rfl | exact atOf HL (p := 30) rfl | exact atOf HL (p := 31) rfl | exact atOf HL (p := 32) rfl | exact atOf HL (p := 33) rfl | exact atOf HL (p := 34) rfl | exact atOf HL (p := 35) rfl | exact atOf HL (p := 36) rfl | exact atOf HL (p := 37) rfl | exact atOf HL (p := 38) rfl | exact atOf HL (p := 39) rfl))).mono ?_; rintro e w ⟨u, rfl, T0⟩; obtain ⟨L, hM, T⟩ := st_name (S.call T0); clear T0; clear F S; (try rw [HL.out] at hM); clear HL; (try simp [Act.put, Act.eval, Value.cells, splice] at hM); have HL := Lib.hid hM; clear hM; have S := T; clear T; have F := factsAll HL S; (try simp only [factsOf, cellsFrom, and_true, true_and, Nat.reduceAdd] at F); obtain ⟨A', cap', rfl, hcap', hmax'⟩ := S.sliceOf (atOf HL (p := 0) rfl))); (refine hK.out _ _ ?_ ?_; (focus (first | exact fun _ => S | (intro _; refine S.sub (subL HL0 HL ?_); (repeat (first | exact List.Sublist.refl _ | apply List.Sublist.cons)); done) | (refine sink_no ?_; kernel_rfl))); clear hK K; (try simp only [Act.put, List.setIfInBounds_toArray, List.set_cons_zero, List.set_cons_succ]))))
            refine tree_fin ?_
            go_wp2
            go_roundw
            case rel => exact ⟨j + 1, zs.length, ⟨X, Y, zs⟩, A', cap', _, by omega, by go_num, hcap', hmax', Lib.hid ⟨HNX.out.1, rfl, HNX.out.2.1, HNX.out.2.2⟩, Lib.hid rfl, (by rw [HL.out] at S; exact S.sub (.cons_cons _ (.cons _ (.refl _))))⟩
            case measure => simp [intOf]; omega
        · obtain rfl : j = ps.length := by omega
          rw [List.drop_of_length_le (Nat.le_of_eq HPL.out.symm)] at hrun
          obtain rfl : t = ⟨yr, yc, ys⟩ := hrun.symm
          subst hyn
          clear hsd
          go_wp2_with (first | (refine wpList_store_box rfl S _ _ _ rfl 3 _ _ _ _ (atOf HL rfl) rfl _ rfl (by kernel_rfl) rfl rfl ?_; intro w L hM T; clear F S; (try rw [HL.out] at hM); clear HL; (try simp [Act.put, Act.eval, Value.cells, splice] at hM); have HL := Lib.hid hM; clear hM; have S := T; clear T; have F := factsAll HL S; (try simp only [factsOf, cellsFrom, and_true, true_and, Nat.reduceAdd] at F)))
          ((try simp only [Exit.inBlock, Exit.then]); refine ret1 rfl (resCell S HL 3 rfl rfl (by kernel_rfl)) rfl ?_)
          exact ⟨_, rfl, (by rw [HL.out] at S; exact S.sub (by repeat (first | exact .refl _ | exact List.nil_sublist _ | apply List.Sublist.cons_cons | apply List.Sublist.cons)))⟩
end Go.Proofs.Ytdfpceobfficfaa
