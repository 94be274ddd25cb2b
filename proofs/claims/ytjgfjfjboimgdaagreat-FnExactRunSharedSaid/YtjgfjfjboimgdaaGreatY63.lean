/- Sl SlP SlS LyR SlK -/
import Derived.Test.YtjgfjfjboimgdaaGreatY38
import Derived.Test.YtjgfjfjboimgdaaGreatY53
namespace Go.Proofs.YtjgfjfjboimgdaaGreat
set_option linter.unusedSimpArgs false
set_option linter.unusedVariables false
set_option linter.unusedSectionVars false
open Go Go.RowKit
set_option maxHeartbeats 8000000
set_option maxRecDepth 20000
section
def slyShp : Shp := .cons .int (.cons (.slice 6 smxShp) .nil)
theorem reads_sly {w : World} {cs : List Value} (h : Reads w slyShp cs) : ∃ k v ms, cs = [.int .i64 k, v] ∧ SeesSMs w v ms := by
  obtain ⟨_, _, rfl, ⟨k, rfl, _⟩, _, _, rfl, h, h0⟩ := h
  obtain ⟨v, ms, rfl, hv⟩ := reads_sms h
  cases h0
  exact ⟨k, v, ms, rfl, hv⟩
theorem reads_sls {w : World} {cs : List Value} (h : Reads w (.slice 2 slyShp) cs) : ∃ v ls, cs = [v] ∧ SeesSLs w v ls := by
  obtain ⟨A, len, cap, rfl, h1, h2, h3⟩ := h
  rcases Nat.eq_zero_or_pos len with rfl | hlen
  · exact ⟨_, [], rfl, A, cap, rfl, h1, h2, fun h => absurd h (by simp)⟩
  · obtain ⟨b, off, rfl, hb, hq⟩ := h3 hlen
    obtain ⟨ls, hl, hx⟩ := list_of (Pr := fun q (l : SLy) => ∃ u, w.cell? ⟨b, off + q * 2, none⟩ = some (.int .i64 l.kind) ∧ w.cell? ⟨b, off + q * 2 + 1, none⟩ = some u ∧ SeesSMs w u l.ws) len (fun q hq0 => by
      obtain ⟨cs', _, hc, hr⟩ := hq q hq0
      obtain ⟨k, v, ms, rfl, hv⟩ := reads_sly hr
      exact ⟨⟨k, ms⟩, v, hc 0 _ rfl, hc 1 _ rfl, hv⟩)
    subst hl
    exact ⟨_, ls, rfl, _, cap, rfl, h1, h2, fun _ => ⟨b, off, rfl, hb, hx⟩⟩
section
open Go.ChangeShapes Go.WideShapes Go.ChangeAt
variable {H : Type} {enc : TypeId × Value → H} {P : Program} {w : World} {spare : Nat → Bool} {held : Bool}
theorem open_sls {r : Reach} {b0 t e : Nat} {v : Value} {d : DataW H} {p : List MemPlace} (hk : (isSliceT P t e && (P.cellsOf t == 1) && decide (shapeOf P 12 t = some (.slice 2 slyShp))) = true) (hv : Value.okWide P w r b0 t v) (h : DataW.Trod enc P w 0 spare held t v d p) :
    ∃ ls, SeesSLs w v ls := by
  obtain ⟨v', ls, e, hl⟩ := reads_sls (open_row hk hv h)
  injection e with e
  exact ⟨ls, e ▸ hl⟩
end
end
section
def szSLsFrom : List SLy → Int → Int
  | [], k => k
  | l :: ls, k => if szSMs l.ws k < 0 then -1 else szSLsFrom ls (szSMs l.ws k)
def szSLs (ls : List SLy) (k : Int) : Int := if k - ls.length < 0 then -1 else szSLsFrom ls (k - ls.length)
theorem szSMs_le (ms : List SMx) (k : Int) (hk : 0 ≤ k) : szSMs ms k ≤ k := by
  unfold szSMs
  split
  · omega
  · have := szSMsFrom_le ms (k - ms.length) (by omega)
    omega
theorem szSLsFrom_le : ∀ (ls : List SLy) (k : Int), 0 ≤ k → szSLsFrom ls k ≤ k
  | [], k, _ => Int.le_refl _
  | l :: ls, k, hk => by
    unfold szSLsFrom
    split
    · omega
    · have := szSLsFrom_le ls (szSMs l.ws k) (by omega)
      have := szSMs_le l.ws k hk
      omega
theorem szSLsFrom_each : ∀ (ls : List SLy) (k : Int), 0 ≤ k → 0 ≤ szSLsFrom ls k → ∀ l ∈ ls, SLySmall k.toNat l
  | [], _, _, _, m, hm => by cases hm
  | l :: ls, k, hk, h, l', hl => by
    unfold szSLsFrom at h
    split at h
    · omega
    · rename_i h0
      have hle := szSMs_le l.ws k hk
      rcases List.mem_cons.1 hl with rfl | hl
      · obtain ⟨h1, h2⟩ := szSMs_each (Int.not_lt.1 h0)
        exact ⟨by omega, fun m hm => by have := h2 m hm; exact ⟨by omega, by omega⟩⟩
      · obtain ⟨h1, h2⟩ := szSLsFrom_each ls _ (by omega) h l' hl
        exact ⟨by omega, fun m hm => by obtain ⟨h3, h4⟩ := h2 m hm; exact ⟨by omega, by omega⟩⟩
theorem szSLs_each {ls : List SLy} {k : Nat} (h : 0 ≤ szSLs ls k) : ls.length ≤ k ∧ ∀ l ∈ ls, SLySmall k l := by
  unfold szSLs at h
  split at h
  · omega
  · refine ⟨by omega, fun l hl => ?_⟩
    obtain ⟨h1, h2⟩ := szSLsFrom_each ls _ (by omega) h l hl
    exact ⟨by omega, fun m hm => by obtain ⟨h3, h4⟩ := h2 m hm; exact ⟨by omega, by omega⟩⟩
theorem szSMsFrom_neg : ∀ (ms : List SMx) (k : Int), 0 ≤ k → szSMsFrom ms k < 0 → szSMsFrom ms k = -1
  | [], k, h, h' => by unfold szSMsFrom at h'; omega
  | m :: ms, k, h, h' => by
    unfold szSMsFrom at h' ⊢
    split
    · rfl
    · rename_i h0
      rw [if_neg h0] at h'
      exact szSMsFrom_neg ms _ (by omega) h'
theorem szSMs_neg (ms : List SMx) (k : Int) (h : szSMs ms k < 0) : szSMs ms k = -1 := by
  unfold szSMs at h ⊢
  split
  · rfl
  · rename_i h0
    rw [if_neg h0] at h
    exact szSMsFrom_neg ms _ (by omega) h
end
section
theorem C_szSharedLayer (v : Value) (l : SLy) (k z : Int) (w0 : World) (h : SeesSMs w0 v l.ws) (hk : 0 ≤ k ∧ k ≤ 1000000000) (hz : szSMs l.ws k = z) (hz' : z < 0 → z = -1) :
    Calls Tryz.prog 81 #[.agg #[.int .i64 l.kind, v], .int .i64 k] w0 fun e w' => e = .returned (.int .i64 z) ∧ Below w0.heap.size w0 w' := by
  have H := Lib.hid h
  obtain ⟨A, cap, rfl, hcap, hmax, _⟩ := h
  have HZ := Lib.hid hz
  by_cases hneg : z < 0
  · obtain rfl := hz' hneg
    clear hz hz'
    obtain ⟨L, HL, S⟩ := st_start w0; have F : True := trivial
    go_enter Tryz.func81, Tryz.ntmps81
    go_wp2_with (first | (refine qbx HL S ?_; clear F S HL; intro g w L HL S F)  | (refine qst HL S 0 ?_; clear F S HL; intro w L HL S F) | (refine qst HL S 1 ?_; clear F S HL; intro w L HL S F) | (refine qst HL S 2 ?_; clear F S HL; intro w L HL S F) | (refine qst HL S 3 ?_; clear F S HL; intro w L HL S F)  | (go_at_call 9; refine qGr S (C_szSharedMatrixS _ _ _ _ _ (H.out.at_ S) hk HZ.out) ?_; clear S; intro w S))
    go_ret
    exact ⟨rfl, S.below⟩
  · clear hz hz'
    obtain ⟨L, HL, S⟩ := st_start w0; have F : True := trivial
    go_enter Tryz.func81, Tryz.ntmps81
    go_wp2_with (first | (refine qbx HL S ?_; clear F S HL; intro g w L HL S F)  | (refine qst HL S 0 ?_; clear F S HL; intro w L HL S F) | (refine qst HL S 1 ?_; clear F S HL; intro w L HL S F) | (refine qst HL S 2 ?_; clear F S HL; intro w L HL S F) | (refine qst HL S 3 ?_; clear F S HL; intro w L HL S F)  | (go_at_call 9; refine qGr S (C_szSharedMatrixS _ _ _ _ _ (H.out.at_ S) hk HZ.out) ?_; clear S; intro w S))
    go_ret
    exact ⟨rfl, S.below⟩
theorem C_szSharedLayerS (v : Value) (ls : List SLy) (k z : Int) (w0 : World) (h : SeesSLs w0 v ls) (hk : 0 ≤ k ∧ k ≤ 1000000000) (hz : szSLs ls k = z) :
    Calls Tryz.prog 33 #[v, .int .i64 k] w0 fun e w' => e = .returned (.int .i64 z) ∧ Below w0.heap.size w0 w' := by
  obtain ⟨A, cap, rfl, hcap, hmax, hA⟩ := h
  obtain ⟨n, hn⟩ : ∃ n, ls.length = n := ⟨_, rfl⟩
  obtain ⟨k1, k2⟩ := hk
  unfold szSLs at hz
  rw [hn] at hcap hA hz ⊢
  unfold maxLen at hmax
  by_cases hs : k - n < 0
  · rw [if_pos hs] at hz
    subst hz
    clear hA hn
    obtain ⟨L, HL, S⟩ := st_start w0; have F : True := trivial
    go_enter Tryz.func33, Tryz.ntmps33
    go_wp2_with (first | (refine qbx HL S ?_; clear F S HL; intro g w L HL S F)  | (refine qst HL S 0 ?_; clear F S HL; intro w L HL S F) | (refine qst HL S 1 ?_; clear F S HL; intro w L HL S F) | (refine qst HL S 2 ?_; clear F S HL; intro w L HL S F) | (refine qst HL S 3 ?_; clear F S HL; intro w L HL S F)  )
    go_ret
    exact ⟨rfl, S.below⟩
  rw [if_neg hs] at hz
  have HA := Lib.hid hA
  have HN := Lib.hid hn
  have HZ := Lib.hid hz
  clear hA hn hz
  obtain ⟨L, HL, S⟩ := st_start w0; have F : True := trivial
  go_enter Tryz.func33, Tryz.ntmps33
  go_wp2_with (first | (refine qbx HL S ?_; clear F S HL; intro g w L HL S F)  | (refine qst HL S 0 ?_; clear F S HL; intro w L HL S F) | (refine qst HL S 1 ?_; clear F S HL; intro w L HL S F) | (refine qst HL S 2 ?_; clear F S HL; intro w L HL S F) | (refine qst HL S 3 ?_; clear F S HL; intro w L HL S F)  )
  go_loopw [5, 1] (fun i l wr => ∃ (j : Nat) (q : Int), j ≤ n ∧ i = .int .i64 j ∧ l = .int .i64 q ∧ 0 ≤ q ∧ q ≤ 1000000000 ∧ Hid (szSLsFrom (ls.drop j) q = z) ∧ St w0 wr L) (fun i _ _ => n - (intOf i).toNat)
  case atStart => exact ⟨0, k - n, Nat.zero_le _, rfl, rfl, by omega, by omega, HZ, S⟩
  case round =>
    clear S HZ
    obtain ⟨j, q, hj, rfl, rfl, q1, q2, HZ, S⟩ := hrel
    by_cases hlt : j < n
    · obtain ⟨b, off, rfl, hb, hc⟩ := HA.out (by omega)
      obtain ⟨m, hm⟩ := some_at HN.out hlt
      obtain ⟨u, c1, c2, hu⟩ := hc j m hm
      have HU := Lib.hid hu
      obtain ⟨A', cap', rfl, hcap', hmax', _⟩ := hu
      have hz := HZ.out
      rw [drop_at hm] at hz
      have f1 := fun w' (S' : St w0 w' L) => (S'.below.cell (p := ⟨b, off + j * 2, none⟩) hb).trans c1
      have f2 := fun w' (S' : St w0 w' L) => (S'.below.cell (p := ⟨b, off + j * 2 + 1, none⟩) hb).trans c2
      clear hc c1 c2 HZ hm
      unfold szSLsFrom at hz
      have E0 := szSMs_neg m.ws q
      have E1 := szSMs_le m.ws q q1
      obtain ⟨q', hq'⟩ : ∃ q', szSMs m.ws q = q' := ⟨_, rfl⟩
      rw [hq'] at hz E0 E1
      have HQ := Lib.hid hq'
      have HE := Lib.hid E0
      clear hq' E0
      by_cases hneg : q' < 0
      · rw [if_pos hneg] at hz
        subst hz
        obtain rfl := HE.out hneg
        go_wp2_with (first | (refine qbx HL S ?_; clear F S HL; intro g w L HL S F) | (go_at_call 81; refine qGr S (C_szSharedLayer _ m _ _ _ (HU.out.at_ S) ⟨by omega, by omega⟩ HQ.out HE.out) ?_; clear S; intro w S))
        go_ret
        exact ⟨rfl, S.below⟩
      · rw [if_neg hneg] at hz
        have HZ := Lib.hid hz
        have q3 : 0 ≤ q' := by omega
        have q4 : q' ≤ 1000000000 := by omega
        clear hz
        go_wp2_with (first | (refine qbx HL S ?_; clear F S HL; intro g w L HL S F) | (go_at_call 81; refine qGr S (C_szSharedLayer _ m _ _ _ (HU.out.at_ S) ⟨by omega, by omega⟩ HQ.out HE.out) ?_; clear S; intro w S))
        go_roundw
        case rel => exact ⟨j + 1, q', by omega, by go_num, rfl, q3, q4, HZ, S⟩
        case measure => simp [intOf]; omega
    · obtain rfl : j = n := by omega
      have hz := HZ.out
      rw [List.drop_of_length_le (by rw [HN.out]; omega)] at hz
      unfold szSLsFrom at hz
      subst hz
      go_wp2
      go_ret
      exact ⟨rfl, S.below⟩
theorem C_toSharedLayer (k : Int) (v : Value) (ms : List SMx) (w0 : World) (h : SeesSMs w0 v ms) (hn : ms.length ≤ 1048576) (hx : ∀ m ∈ ms, SMSmall 1048576 m) :
    Calls Tryz.prog 82 #[.agg #[.int .i64 k, v]] w0 fun e w => ∃ u ps, e = .returned (.agg #[.int .i64 k, u]) ∧ ps.map smO = ms ∧ St w0 w (entsSM u ps) := by
  have H := Lib.hid h
  have HX := Lib.hid hx
  obtain ⟨A, cap, rfl, hcap, hmax, _⟩ := h
  clear hx
  obtain ⟨L, HL, S⟩ := st_start w0; have F : True := trivial
  go_enter Tryz.func82, Tryz.ntmps82
  go_wp2_with (first | (refine qbx HL S ?_; clear F S HL; intro g w L HL S F) | (refine qal HL S zSLy ?_; clear F S HL; intro g w L HL S F) | (refine qst HL S 0 ?_; clear F S HL; intro w L HL S F) | (refine qst HL S 1 ?_; clear F S HL; intro w L HL S F) | (refine qst HL S 2 ?_; clear F S HL; intro w L HL S F) | (refine qst HL S 3 ?_; clear F S HL; intro w L HL S F)  | (go_at_call 12; refine (C_toSharedMatrixS _ ms _ (H.out.at_ S) hn HX.out).mono ?_; rintro e w ⟨u, ps, rfl, hps, T0⟩; have HPS := Lib.hid hps; clear hps; obtain ⟨Au, cu, rfl, hcu, hmu⟩ := T0.sliceOf (p := 0) (show At _ 0 _ from rfl); obtain ⟨L, hM, T⟩ := st_name ((S.call T0).perm List.perm_append_comm); clear T0; clear F S; replace HL := qNm HL hM; clear hM; have S := T; clear T; have F := qFc HL S))
  ((try simp only [Exit.inBlock, Exit.then]); refine ret1 rfl (resCell S HL 1 rfl rfl (by kernel_rfl)) rfl ?_)
  exact ⟨_, ps, rfl, HPS.out, (by rw [HL.out] at S; exact S.sub (by repeat (first | exact .refl _ | exact List.nil_sublist _ | apply List.Sublist.cons_cons | apply List.Sublist.cons)))⟩
theorem C_toSharedLayerS (v : Value) (ls : List SLy) (w0 : World) (h : SeesSLs w0 v ls) (hn0 : ls.length ≤ 1048576) (hx : ∀ l ∈ ls, SLySmall 1048576 l) :
    Calls Tryz.prog 34 #[v] w0 fun e w => ∃ u qs, e = .returned u ∧ qs.map slyO = ls ∧ St w0 w (entsSL u qs) := by
  obtain ⟨A, cap, rfl, hcap, hmax, hA⟩ := h
  obtain ⟨n, hn⟩ : ∃ n, ls.length = n := ⟨_, rfl⟩
  rw [hn] at hcap hA hn0 ⊢
  unfold maxLen at hmax
  have HA := Lib.hid hA
  have HN := Lib.hid hn
  have HX := Lib.hid hx
  clear hA hn hx
  obtain ⟨L, HL, S⟩ := st_start w0; have F : True := trivial
  go_enter Tryz.func34, Tryz.ntmps34
  go_wp2_with (at_make; refine wpList_make rfl S _ _ _ rfl 105 _ 2 32 Tryz.underlying56 infoSLy _ n rfl rfl rfl (by omega) (by simp only [maxLen]; omega) ?_; clear F S; intro g w L hM S; replace HL := qNm HL hM; clear hM; have F := qFc HL S)
  obtain ⟨Z, hZ⟩ : ∃ Z, Z = (madeCells #[.int .i64 0, .slice none 0 0] (n * 2)).toList := ⟨_, rfl⟩
  rw [← hZ] at HL
  have hZl : Z.length = n * 2 := by rw [hZ]; simp [madeCells]
  have HZ := Lib.hid hZl
  clear hZ hZl
  go_loopw [4] (fun i wr => ∃ (k : Nat) (qs : SLsO) (L : List Ent), k ≤ n ∧ i = .int .i64 k ∧ Hid (qs.map slyO = ls.take k) ∧ Hid (L = .row 105 2 (.slice (some ⟨g, 0, none⟩) n n) n (cellsSL qs ++ Z.drop (k * 2)) :: rowsSL qs) ∧ St w0 wr L) (fun i _ => n - (intOf i).toNat)
  case atStart => exact ⟨0, [], L, Nat.zero_le _, rfl, Lib.hid rfl, HL, S⟩
  case round =>
    clear F HL S
    obtain ⟨k, qs, L, hk, rfl, HP, HL, S⟩ := hrel
    have F : True := trivial
    have hpl : qs.length = k := by
      have := congrArg List.length HP.out
      rw [List.length_map, List.length_take, HN.out] at this
      omega
    by_cases hlt : k < n
    · obtain ⟨b, off, rfl, hb, hc⟩ := HA.out (by omega)
      obtain ⟨l, hm⟩ := some_at HN.out hlt
      obtain ⟨kind, ms⟩ := l
      obtain ⟨x, c1, c2, hu⟩ := hc k _ hm
      obtain ⟨hm1, hm2⟩ := HX.out _ (List.mem_of_getElem? hm)
      have hp' := take_at hm
      rw [← HP.out] at hp'
      have HP' := Lib.hid hp'
      dsimp only at c1 c2 hu hm1 hm2
      have f1 := fun w' (S' : St w0 w' L) => (S'.below.cell (p := ⟨b, off + k * 2, none⟩) hb).trans c1
      have f2 := fun w' (S' : St w0 w' L) => (S'.below.cell (p := ⟨b, off + k * 2 + 1, none⟩) hb).trans c2
      have HU := Lib.hid hu
      obtain ⟨A', cap', rfl, hcap', hmax', _⟩ := hu
      have hcl := cellsSL_len qs
      rw [hpl] at hcl
      have HC := Lib.hid hcl
      have HM2 := Lib.hid hm2
      have hk3 : k * 2 + 2 ≤ n * 2 := by omega
      clear hc c1 c2 hp' hcl hm hm2
      go_wp2_with (first | (refine qbx HL S ?_; clear F S HL; intro g w L HL S F) | (go_at_call 82; refine (C_toSharedLayer kind _ ms _ (HU.out.at_ S) hm1 HM2.out).mono ?_; rintro e w ⟨u, ps, rfl, hps, T0⟩; have HPS := Lib.hid hps; clear hps; obtain ⟨Au, cu, rfl, hcu, hmu⟩ := T0.sliceOf (p := 0) (show At _ 0 _ from rfl); obtain ⟨L, hM, T⟩ := st_name ((S.call T0).perm List.perm_append_comm); clear T0; clear F S; replace HL := qNm HL hM; clear hM; have S := T; clear T; have F := qFc HL S) | (refine wpList_store_rowS rfl S _ _ _ rfl 0 _ _ _ _ _ _ _ (atOf HL rfl) rfl ([.int .i64 kind, .slice Au ps.length cu]) rfl (by kernel_rfl) rfl (show _ + 2 ≤ _ from by omega) ?_; clear F S; intro w L hM S; replace HL := qNr HL hM; clear hM; have F := qFc HL S))
      go_roundw
      case rel =>
        rw [HL.out] at S
        have e : splice (cellsSL qs ++ Z.drop (k * 2)) (k * 2) [.int .i64 kind, .slice Au ps.length cu] = cellsSL (qs ++ [(.slice Au ps.length cu, kind, ps)]) ++ Z.drop ((k + 1) * 2) := by
          rw [splice_app _ _ _ _ HC.out, List.drop_drop, cellsSL_add, Nat.succ_mul]; rfl
        rw [e] at S
        exact ⟨k + 1, qs ++ [(.slice Au ps.length cu, kind, ps)], _, by omega, by go_num, Lib.hid (by rw [List.map_append, HP'.out]; simp [slyO, HPS.out]), Lib.hid (by rw [rowsSL_add]; simp [rowsSL, rowSL]), S⟩
      case measure => simp [intOf]; omega
    · obtain rfl : k = n := by omega
      go_wp2
      go_ret
      rw [HL.out, List.drop_of_length_le (Nat.le_of_eq HZ.out), List.append_nil] at S
      have hp := HP.out
      rw [List.take_of_length_le (Nat.le_of_eq HN.out)] at hp
      refine ⟨_, qs, rfl, hp, ?_⟩
      unfold entsSL
      rw [hpl]
      exact S
theorem C_eqSharedLayer (k : Int) (ms : List SMx) (u v : Value) (w0 : World) (hu : SeesSMs w0 u ms) (hv : SeesSMs w0 v ms) :
    Calls Tryz.prog 83 #[.agg #[.int .i64 k, u], .agg #[.int .i64 k, v]] w0 fun e w' => e = .returned (.bool true) ∧ Below w0.heap.size w0 w' := by
  have HU := Lib.hid hu
  have HV := Lib.hid hv
  obtain ⟨A, cap, rfl, hcap, hmax, _⟩ := hu
  obtain ⟨B, cap', rfl, hcap', hmax', _⟩ := hv
  obtain ⟨L, HL, S⟩ := st_start w0; have F : True := trivial
  go_enter Tryz.func83, Tryz.ntmps83
  go_wp2_with (first | (refine qbx HL S ?_; clear F S HL; intro g w L HL S F)  | (refine qst HL S 0 ?_; clear F S HL; intro w L HL S F) | (refine qst HL S 1 ?_; clear F S HL; intro w L HL S F) | (refine qst HL S 2 ?_; clear F S HL; intro w L HL S F) | (refine qst HL S 3 ?_; clear F S HL; intro w L HL S F)  | (go_at_call 17; refine qGr S (C_eqSharedMatrixS _ _ ms _ (HU.out.at_ S) (HV.out.at_ S)) ?_; clear S; intro w S))
  go_ret
  exact ⟨rfl, S.below⟩
theorem C_eqSharedLayerS (u v : Value) (ls : List SLy) (w0 : World) (hu : SeesSLs w0 u ls) (hv : SeesSLs w0 v ls) :
    Calls Tryz.prog 35 #[u, v] w0 fun e w' => e = .returned (.bool true) ∧ Below w0.heap.size w0 w' := by
  obtain ⟨A, cap, rfl, hcap, hmax, hA⟩ := hu
  obtain ⟨B, cap', rfl, hcap', hmax', hB⟩ := hv
  obtain ⟨n, hn⟩ : ∃ n, ls.length = n := ⟨_, rfl⟩
  rw [hn] at hcap hcap' hA hB ⊢
  have HN := Lib.hid hn
  have HA := Lib.hid hA
  have HB := Lib.hid hB
  clear hA hB hn
  unfold maxLen at hmax hmax'
  obtain ⟨L, HL, S⟩ := st_start w0; have F : True := trivial
  go_enter Tryz.func35, Tryz.ntmps35
  go_wp2
  go_loopw [5] (fun i wr => ∃ (k : Nat), k ≤ n ∧ i = .int .i64 k ∧ St w0 wr L) (fun i _ => n - (intOf i).toNat)
  case atStart => exact ⟨0, Nat.zero_le _, rfl, S⟩
  case round =>
    clear S
    obtain ⟨k, hk, rfl, S⟩ := hrel
    by_cases hlt : k < n
    · obtain ⟨b, off, rfl, hb, hc⟩ := HA.out (by omega)
      obtain ⟨b', off', rfl, hb', hc'⟩ := HB.out (by omega)
      obtain ⟨l, hm⟩ := some_at HN.out hlt
      obtain ⟨kind, ms⟩ := l
      obtain ⟨x, c1, c2, hx⟩ := hc k _ hm
      obtain ⟨y, d1, d2, hy⟩ := hc' k _ hm
      dsimp only at c1 c2 hx d1 d2 hy
      have f1 := fun w' (S' : St w0 w' L) => (S'.below.cell (p := ⟨b, off + k * 2, none⟩) hb).trans c1
      have f2 := fun w' (S' : St w0 w' L) => (S'.below.cell (p := ⟨b, off + k * 2 + 1, none⟩) hb).trans c2
      have g1 := fun w' (S' : St w0 w' L) => (S'.below.cell (p := ⟨b', off' + k * 2, none⟩) hb').trans d1
      have g2 := fun w' (S' : St w0 w' L) => (S'.below.cell (p := ⟨b', off' + k * 2 + 1, none⟩) hb').trans d2
      have HX := Lib.hid hx
      have HY := Lib.hid hy
      obtain ⟨Ax, capx, rfl, hcx, hmx, _⟩ := hx
      obtain ⟨Ay, capy, rfl, hcy, hmy, _⟩ := hy
      clear hc hc' c1 c2 d1 d2 hm
      go_wp2_with fail
      have HL0 := HL; have F0 := F; refine wp_region_tree (S := fun w' => St w0 w' L) (qcs 0 8 (.act 8 (.calm 9 .fin) .stop)) (by kernel_rfl) (by kernel_rfl) (by kernel_rfl) (by intro c a d v w h; cases d <;> exact h) ?_; dsimp only [qcs, Nat.reduceAdd]; replace S := S.drew
      repeat (first | refine qCa ?_ | refine qAn ?_ | refine qSk ?_ | (refine tree_act rfl rfl ?_ tree_stop; intro K hK; go_wp2_with (first | (go_at_call 83; refine qGr S (C_eqSharedLayer kind ms _ _ _ (HX.out.at_ S) (HY.out.at_ S)) ?_; clear S; intro w S)); (refine qKo hK ?_; clear hK K)))
      refine tree_fin ?_
      go_wp2
      go_roundw
      case rel => exact ⟨k + 1, by omega, by go_num, S⟩
      case measure => simp [intOf]; omega
    · obtain rfl : k = n := by omega
      go_wp2
      go_ret
      exact ⟨rfl, S.below⟩
end
section
theorem mark_permL (ru : Ent) (E A B R : List Ent) : (E ++ ru :: (B ++ (A ++ R))).Perm (ru :: (B ++ ((A ++ E) ++ R))) := by
  refine List.perm_middle.trans (.cons _ ?_)
  rw [List.append_assoc]
  refine (List.perm_append_comm_assoc E B (A ++ R)).trans (List.Perm.append_left _ ?_)
  exact List.perm_append_comm_assoc E A R
end
section
def markSQ (q : Value × Int × SMsO) (k : Int) : Value × Int × SMsO := (q.1, k, markSPs q.2.2 (k + 1))
def stepSQ (q : Value × Int × SMsO) (k : Int) : Int := endSPs q.2.2 (k + 1)
def markSLs : SLsO → Int → SLsO
  | [], _ => []
  | q :: qs, k => markSQ q k :: markSLs qs (stepSQ q k)
def endSLs : SLsO → Int → Int
  | [], k => k
  | q :: qs, k => endSLs qs (stepSQ q k)
theorem stepSQ_le (q : Value × Int × SMsO) (k : Int) : k + 1 ≤ stepSQ q k := endSPs_le _ _
theorem endSLs_le : ∀ (qs : SLsO) (k : Int), k ≤ endSLs qs k
  | [], k => Int.le_refl _
  | q :: qs, k => by
    have h1 := endSLs_le qs (stepSQ q k)
    have h2 := stepSQ_le q k
    show k ≤ endSLs qs (stepSQ q k)
    omega
theorem endSLs_sz : ∀ (qs : SLsO) (k z : Int), 0 ≤ z → 0 ≤ szSLsFrom (qs.map slyO) z → endSLs qs k ≤ k + qs.length + 4 * z
  | [], k, z, h0, h => by
    simp only [endSLs, List.length_nil]
    omega
  | q :: qs, k, z, h0, h => by
    rw [List.map_cons] at h
    unfold szSLsFrom at h
    split at h
    · omega
    · rename_i h1
      have h2 := endSLs_sz qs (stepSQ q k) _ (by omega) h
      have h3 : szSMs (slyO q).ws z ≤ z - q.2.2.length ∧ endSPs q.2.2 (k + 1) + szSMs (slyO q).ws z = k + 1 + 4 * q.2.2.length + (z - q.2.2.length) := by
        unfold szSMs at h1 ⊢
        have e : ((slyO q).ws.length : Int) = q.2.2.length := by simp [slyO]
        rw [e] at h1 ⊢
        split at h1
        · omega
        · rename_i h4
          rw [if_neg h4]
          have h5 : (slyO q).ws = q.2.2.map smO := rfl
          rw [h5] at h1 ⊢
          exact ⟨szSMsFrom_le _ _ (by omega), endSPs_eq _ _ _ (by omega)⟩
      unfold endSLs
      have h6 : stepSQ q k = endSPs q.2.2 (k + 1) := rfl
      rw [h6] at h2 ⊢
      rw [List.length_cons]
      omega
theorem C_markSharedLayerS (R : List Ent) (u : Value) (qs : SLsO) (k : Int) (w0 w1 : World) (S0 : St w0 w1 (entsSL u qs ++ R)) (hk : 0 ≤ k) (he : endSLs qs k ≤ 100000000) :
    Calls Tryz.prog 36 #[u, .int .i64 k] w1 fun e w' => e = .returned (.int .i64 (endSLs qs k)) ∧ St w0 w' (entsSL u (markSLs qs k) ++ R) := by
  obtain ⟨n, hn⟩ : ∃ n, qs.length = n := ⟨_, rfl⟩
  have S1 : St w0 w1 (.row 105 2 u n (cellsSL qs) :: (rowsSL qs ++ R)) := by rw [← hn]; exact S0
  clear S0
  rcases S1.rowShape (p := 0) (show At _ 0 _ from rfl) with ⟨rfl, h0⟩ | ⟨g, cap, rfl, hcap, hmax⟩
  · obtain rfl : qs = [] := List.length_eq_zero_iff.1 (hn.trans h0)
    subst h0
    obtain ⟨L, HL, S⟩ := st_name S1
    replace HL := Lib.hid HL
    clear S1 hn
    have F : True := trivial
    go_enter Tryz.func36, Tryz.ntmps36
    go_wp2
    go_loopw [5, 1] (fun i k' wr => i = .int .i64 0 ∧ k' = .int .i64 k ∧ St w0 wr L) (fun i _ _ => 0)
    case atStart => exact ⟨rfl, rfl, S⟩
    case round =>
      obtain ⟨rfl, rfl, S⟩ := hrel
      go_wp2
      go_ret
      rw [HL.out] at S
      exact ⟨rfl, S⟩
  · unfold maxLen at hmax
    obtain ⟨L, HL, S⟩ := st_name S1
    replace HL := Lib.hid HL
    clear S1
    have F : True := trivial
    go_enter Tryz.func36, Tryz.ntmps36
    go_wp2
    go_loopw [5, 1] (fun i k' wr => ∃ (j : Nat) (q : Int) (A B : SLsO) (L : List Ent), j ≤ n ∧ i = .int .i64 j ∧ k' = .int .i64 q ∧ 0 ≤ q ∧ endSLs B q ≤ 100000000 ∧ A.length = j ∧ j + B.length = n ∧ Hid (endSLs B q = endSLs qs k) ∧ Hid (A ++ markSLs B q = markSLs qs k) ∧ Hid (L = .row 105 2 (.slice (some ⟨g, 0, none⟩) n cap) n (cellsSL A ++ cellsSL B) :: (rowsSL B ++ (rowsSL A ++ R))) ∧ St w0 wr L) (fun i _ _ => n - (intOf i).toNat)
    case atStart => exact ⟨0, k, [], qs, L, Nat.zero_le _, rfl, rfl, hk, he, rfl, by omega, Lib.hid rfl, Lib.hid rfl, HL, S⟩
    case round =>
      clear F HL S
      obtain ⟨j, q, A, B, L, hj, rfl, rfl, hq, heB, hA, hB, HE, HM, HL, S⟩ := hrel
      by_cases hlt : j < n
      · obtain ⟨p, B', rfl⟩ : ∃ p B', B = p :: B' := by
          cases B with
          | nil => simp at hB; omega
          | cons p B' => exact ⟨p, B', rfl⟩
        obtain ⟨x, kd, ps⟩ := p
        rw [List.length_cons] at hB
        have hle := endSLs_le B' (stepSQ (x, kd, ps) q)
        have hcA := cellsSL_len A
        rw [hA] at hcA
        obtain ⟨E, hE⟩ : ∃ E, endSPs ps (q + 1) = E := ⟨_, rfl⟩
        have hE1 : q + 1 ≤ E := hE ▸ endSPs_le ps (q + 1)
        have hE2 : E ≤ 100000000 := by
          have h1 : endSLs B' (endSPs ps (q + 1)) ≤ 100000000 := heB
          have h2 : endSPs ps (q + 1) ≤ endSLs B' (endSPs ps (q + 1)) := hle
          omega
        have HEE := Lib.hid hE
        have HC := Lib.hid hcA
        have HLen := Lib.hid hA
        have HEB : Hid (endSLs B' E ≤ 100000000) := Lib.hid (by rw [← hE]; exact heB)
        rw [HL.out] at S
        have T : St w0 wr (.row 105 2 (.slice (some ⟨g, 0, none⟩) n cap) n (cellsSL A ++ (.int .i64 kd :: x :: cellsSL B')) :: .row 32 6 x ps.length (cellsSM ps) :: (rowsSM ps ++ (rowsSL B' ++ (rowsSL A ++ R)))) := by
          have e : rowsSL ((x, kd, ps) :: B') ++ (rowsSL A ++ R) = entsSM x ps ++ (rowsSL B' ++ (rowsSL A ++ R)) := by
            show (entsSM x ps ++ rowsSL B') ++ (rowsSL A ++ R) = _
            rw [List.append_assoc]
          rw [e] at S
          exact S
        clear S HL hcA hle heB hA hE
        obtain ⟨L, hM, T'⟩ := st_name T
        clear T
        have S := T'
        clear T'
        have HL := Lib.hid hM
        clear hM
        have F : True := trivial
        obtain ⟨A', cap', rfl, hcap', hmax'⟩ := qSl HL S 1
        have hk3 : j * 2 + 2 ≤ n * 2 := by omega
        go_upto_region 5 with (first | (refine wpList_store_rowS rfl S _ _ _ rfl 0 _ _ _ _ _ _ _ (atOf HL rfl) rfl ([.int .i64 q]) rfl (by kernel_rfl) rfl (show _ + 1 ≤ _ from by omega) ?_; clear F S; intro w L hM S; replace HL := qNr HL hM; clear hM; have F := qFc HL S))
        have hcs : splice (cellsSL A ++ (.int .i64 kd :: .slice A' ps.length cap' :: cellsSL B')) (j * 2) [.int .i64 q] = cellsSL A ++ (.int .i64 q :: .slice A' ps.length cap' :: cellsSL B') := by
          rw [splice_app _ _ _ _ HC.out]
          simp
        rw [hcs] at HL
        clear hcs
        have d0 := S.rowCell (p := 0) (atOf HL rfl) (j * 2 + 1) (by omega)
        rw [List.getElem?_append_right (by rw [HC.out]; omega), HC.out, Nat.add_sub_cancel_left] at d0
        have d1 : w.cell? ⟨g, j * 2 + 1, none⟩ = some (.slice A' ps.length cap') := d0
        clear d0
        have T : St w0 w (.row 105 2 (.slice (some ⟨g, 0, none⟩) n cap) n (cellsSL A ++ (.int .i64 q :: .slice A' ps.length cap' :: cellsSL B')) :: (entsSM (.slice A' ps.length cap') ps ++ (rowsSL B' ++ (rowsSL A ++ R)))) := by rw [HL.out] at S; exact S
        have T2 := T.perm List.perm_middle.symm
        have CM := C_markSharedMatrixS _ _ ps (q + 1) w0 w T2 (by omega) (by rw [HEE.out]; exact hE2)
        rw [HEE.out] at CM
        clear T T2 S HL F
        go_wp2_with (go_at_call 18; refine CM.mono ?_; rintro e w ⟨rfl, T0⟩)
        go_roundw
        case rel =>
          refine ⟨j + 1, E, A ++ [markSQ (.slice A' ps.length cap', kd, ps) q], B', _, by omega, by go_num, by go_num, by omega, HEB.out, by rw [List.length_append, HLen.out]; rfl, by omega, Lib.hid ?_, Lib.hid ?_, Lib.hid rfl, ?_⟩
          · rw [← HE.out, ← HEE.out]; rfl
          · rw [← HM.out, List.append_assoc, ← HEE.out]; rfl
          · rw [cellsSL_add, rowsSL_add, List.append_assoc]
            have T := T0.perm (mark_permL _ _ _ _ _)
            show St w0 w (_ :: (rowsSL B' ++ ((rowsSL A ++ rowsSL [markSQ (.slice A' ps.length cap', kd, ps) q]) ++ R)))
            have e3 : rowsSL [markSQ (.slice A' ps.length cap', kd, ps) q] = entsSM (.slice A' ps.length cap') (markSPs ps (q + 1)) := List.append_nil _
            rw [e3]
            exact T
        case measure => simp [intOf]; omega
      · obtain rfl : j = n := by omega
        obtain rfl : B = [] := List.length_eq_zero_iff.1 (by omega)
        have hAM : A = markSLs qs k := by have := HM.out; rwa [markSLs, List.append_nil] at this
        go_wp2
        go_ret
        have he' : q = endSLs qs k := HE.out
        rw [HL.out] at S
        subst hAM
        refine ⟨congrArg (fun z => Ending.returned (Value.int .i64 z)) he', ?_⟩
        have T : St w0 wr (.row 105 2 (.slice (some ⟨g, 0, none⟩) j cap) j (cellsSL (markSLs qs k) ++ []) :: ([] ++ (rowsSL (markSLs qs k) ++ R))) := S
        rw [List.append_nil, List.nil_append] at T
        unfold entsSL
        rw [hA]
        exact T
end
end Go.Proofs.YtjgfjfjboimgdaaGreat
