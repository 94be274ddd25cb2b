/- Ly Sl SlP SlS ScM LyK SlK -/
import Derived.Test.YtjgfjfjboimgdaaGreatY29
import Derived.Test.YtjgfjfjboimgdaaGreatY52
namespace Go.Proofs.YtjgfjfjboimgdaaGreat
set_option linter.unusedSimpArgs false
set_option linter.unusedVariables false
set_option linter.unusedSectionVars false
open Go Go.RowKit
set_option maxHeartbeats 8000000
set_option maxRecDepth 20000
section
theorem list_of {α : Type} {Pr : Nat → α → Prop} : ∀ (n : Nat), (∀ q, q < n → ∃ x, Pr q x) → ∃ xs : List α, xs.length = n ∧ ∀ q x, xs[q]? = some x → Pr q x
  | 0, _ => ⟨[], rfl, fun q x h => by simp at h⟩
  | n + 1, h => by
    obtain ⟨xs, hl, hx⟩ := list_of n (fun q hq => h q (by omega))
    obtain ⟨y, hy⟩ := h n (by omega)
    refine ⟨xs ++ [y], by simp [hl], fun q x hq => ?_⟩
    rcases Nat.lt_or_ge q xs.length with h1 | h1
    · rw [List.getElem?_append_left h1] at hq
      exact hx q x hq
    · rw [List.getElem?_append_right h1] at hq
      have h2 : q - xs.length < 1 := (List.getElem?_eq_some_iff.1 hq).1
      obtain rfl : q = xs.length := by omega
      simp at hq
      subst hq
      rw [hl]
      exact hy
end
section
theorem cellsSM_len (ps : SMsO) : (cellsSM ps).length = ps.length * 6 := chunk_len cellSM 6 (fun _ => rfl) ps
theorem reads_sms {w : World} {cs : List Value} (h : Reads w (.slice 6 smxShp) cs) : ∃ v ms, cs = [v] ∧ SeesSMs w v ms := by
  obtain ⟨A, len, cap, rfl, h1, h2, h3⟩ := h
  rcases Nat.eq_zero_or_pos len with rfl | hlen
  · exact ⟨_, [], rfl, A, cap, rfl, h1, h2, fun h => absurd h (by simp)⟩
  · obtain ⟨b, off, rfl, hb, hq⟩ := h3 hlen
    obtain ⟨ms, hl, hx⟩ := list_of (Pr := fun q (m : SMx) => ∃ u t, w.cell? ⟨b, off + q * 6, none⟩ = some (.int .i64 m.a.r) ∧ w.cell? ⟨b, off + q * 6 + 1, none⟩ = some (.int .i64 m.a.c) ∧ w.cell? ⟨b, off + q * 6 + 2, none⟩ = some u ∧
      w.cell? ⟨b, off + q * 6 + 3, none⟩ = some (.int .i64 m.b.r) ∧ w.cell? ⟨b, off + q * 6 + 4, none⟩ = some (.int .i64 m.b.c) ∧ w.cell? ⟨b, off + q * 6 + 5, none⟩ = some t ∧ Ints w u m.a.xs ∧ Ints w t m.b.xs) len (fun q hq0 => by
      obtain ⟨cs', _, hc, hr⟩ := hq q hq0
      obtain ⟨r, c, u, xs, r', c', v, ys, rfl, hu, hv⟩ := reads_smx hr
      exact ⟨⟨⟨r, c, xs⟩, ⟨r', c', ys⟩⟩, u, v, hc 0 _ rfl, hc 1 _ rfl, hc 2 _ rfl, hc 3 _ rfl, hc 4 _ rfl, hc 5 _ rfl, hu, hv⟩)
    subst hl
    exact ⟨_, ms, rfl, _, cap, rfl, h1, h2, fun _ => ⟨b, off, rfl, hb, hx⟩⟩
section
open Go.ChangeShapes Go.WideShapes Go.ChangeAt
variable {H : Type} {enc : TypeId × Value → H} {P : Program} {w : World} {spare : Nat → Bool} {held : Bool}
theorem open_row {r : Reach} {b0 t e s : Nat} {sh : Shp} {v : Value} {d : DataW H} {p : List MemPlace} (hk : (isSliceT P t e && (P.cellsOf t == 1) && decide (shapeOf P 12 t = some (.slice s sh))) = true) (hv : Value.okWide P w r b0 t v) (h : DataW.Trod enc P w 0 spare held t v d p) :
    Reads w (.slice s sh) [v] := by
  simp only [Bool.and_eq_true, beq_iff_eq, decide_eq_true_eq] at hk
  obtain ⟨⟨hs, hc⟩, hsh⟩ := hk
  unfold isSliceT at hs
  split at hs
  · rename_i e' hu
    obtain ⟨A, len, cap, rfl⟩ := okWide_slice hu hv
    obtain ⟨fuel, hf⟩ := h
    exact (reads_of 12 t _ hsh hf hc).1
  · cases hs
end
end
section
def szSMsFrom : List SMx → Int → Int
  | [], k => k
  | m :: ms, k => if k - m.a.xs.length - m.b.xs.length < 0 then -1 else szSMsFrom ms (k - m.a.xs.length - m.b.xs.length)
def szSMs (ms : List SMx) (k : Int) : Int := if k - ms.length < 0 then -1 else szSMsFrom ms (k - ms.length)
theorem szSMsFrom_le : ∀ (ms : List SMx) (k : Int), 0 ≤ k → szSMsFrom ms k ≤ k
  | [], k, _ => Int.le_refl _
  | m :: ms, k, hk => by
    unfold szSMsFrom
    split
    · omega
    · have := szSMsFrom_le ms (k - m.a.xs.length - m.b.xs.length) (by omega)
      omega
theorem szSMsFrom_each : ∀ (ms : List SMx) (k : Int), 0 ≤ szSMsFrom ms k → ∀ m ∈ ms, (m.a.xs.length : Int) ≤ k ∧ (m.b.xs.length : Int) ≤ k
  | [], _, _, m, hm => by cases hm
  | m :: ms, k, h, m', hm => by
    unfold szSMsFrom at h
    split at h
    · omega
    · rcases List.mem_cons.1 hm with rfl | hm
      · omega
      · have := szSMsFrom_each ms _ h m' hm
        omega
theorem szSMs_each {ms : List SMx} {k : Int} (h : 0 ≤ szSMs ms k) : (ms.length : Int) ≤ k ∧ ∀ m ∈ ms, (m.a.xs.length : Int) ≤ k ∧ (m.b.xs.length : Int) ≤ k := by
  unfold szSMs at h
  split at h
  · omega
  · refine ⟨by omega, fun m hm => ?_⟩
    have := szSMsFrom_each ms _ h m hm
    omega
end
section
theorem C_szSharedMatrix' (r c r' c' : Int) (A B : Option Addr) (n cap m cap' : Nat) (k q : Int) (w0 : World) (hn : n ≤ cap) (hc : cap ≤ maxLen) (hm : m ≤ cap') (hc' : cap' ≤ maxLen) (hk : 0 ≤ k ∧ k ≤ 1000000000) (hq : (if k - n - m < 0 then -1 else k - n - m) = q) :
    Calls Tryz.prog 10 #[.agg #[.int .i64 r, .int .i64 c, .slice A n cap, .int .i64 r', .int .i64 c', .slice B m cap'], .int .i64 k] w0 fun e w' => e = .returned (.int .i64 q) ∧ Below w0.heap.size w0 w' := hq ▸ C_szSharedMatrix r c r' c' A B n cap m cap' k w0 hn hc hm hc' hk
theorem C_szSharedMatrixS (v : Value) (ms : List SMx) (k z : Int) (w0 : World) (h : SeesSMs w0 v ms) (hk : 0 ≤ k ∧ k ≤ 1000000000) (hz : szSMs ms k = z) :
    Calls Tryz.prog 9 #[v, .int .i64 k] w0 fun e w' => e = .returned (.int .i64 z) ∧ Below w0.heap.size w0 w' := by
  obtain ⟨A, cap, rfl, hcap, hmax, hA⟩ := h
  obtain ⟨n, hn⟩ : ∃ n, ms.length = n := ⟨_, rfl⟩
  obtain ⟨k1, k2⟩ := hk
  unfold szSMs at hz
  rw [hn] at hcap hA hz ⊢
  unfold maxLen at hmax
  by_cases hs : k - n < 0
  · rw [if_pos hs] at hz
    subst hz
    clear hA hn
    obtain ⟨L, HL, S⟩ := st_start w0; have F : True := trivial
    go_enter Tryz.func9, Tryz.ntmps9
    go_wp2_with (first | (refine qbx HL S ?_; clear F S HL; intro g w L HL S F)  | (refine qst HL S 0 ?_; clear F S HL; intro w L HL S F) | (refine qst HL S 1 ?_; clear F S HL; intro w L HL S F) | (refine qst HL S 2 ?_; clear F S HL; intro w L HL S F) | (refine qst HL S 3 ?_; clear F S HL; intro w L HL S F)  )
    go_ret
    exact ⟨rfl, S.below⟩
  rw [if_neg hs] at hz
  have HA := Lib.hid hA
  have HN := Lib.hid hn
  have HZ := Lib.hid hz
  clear hA hn hz
  obtain ⟨L, HL, S⟩ := st_start w0; have F : True := trivial
  go_enter Tryz.func9, Tryz.ntmps9
  go_wp2_with (first | (refine qbx HL S ?_; clear F S HL; intro g w L HL S F)  | (refine qst HL S 0 ?_; clear F S HL; intro w L HL S F) | (refine qst HL S 1 ?_; clear F S HL; intro w L HL S F) | (refine qst HL S 2 ?_; clear F S HL; intro w L HL S F) | (refine qst HL S 3 ?_; clear F S HL; intro w L HL S F)  )
  go_loopw [5, 1] (fun i l wr => ∃ (j : Nat) (q : Int), j ≤ n ∧ i = .int .i64 j ∧ l = .int .i64 q ∧ 0 ≤ q ∧ q ≤ 1000000000 ∧ Hid (szSMsFrom (ms.drop j) q = z) ∧ St w0 wr L) (fun i _ _ => n - (intOf i).toNat)
  case atStart => exact ⟨0, k - n, Nat.zero_le _, rfl, rfl, by omega, by omega, HZ, S⟩
  case round =>
    clear S HZ
    obtain ⟨j, q, hj, rfl, rfl, q1, q2, HZ, S⟩ := hrel
    by_cases hlt : j < n
    · obtain ⟨b, off, rfl, hb, hc⟩ := HA.out (by omega)
      obtain ⟨m, hm⟩ := some_at HN.out hlt
      obtain ⟨u, t, c1, c2, c3, c4, c5, c6, hu, ht⟩ := hc j m hm
      obtain ⟨_, A', cap', rfl, hcap', hmax', _⟩ := hu
      obtain ⟨_, B', cbp', rfl, hcbp', hmbx', _⟩ := ht
      have hz := HZ.out
      rw [drop_at hm] at hz
      have f1 := fun w' (S' : St w0 w' L) => (S'.below.cell (p := ⟨b, off + j * 6, none⟩) hb).trans c1
      have f2 := fun w' (S' : St w0 w' L) => (S'.below.cell (p := ⟨b, off + j * 6 + 1, none⟩) hb).trans c2
      have f3 := fun w' (S' : St w0 w' L) => (S'.below.cell (p := ⟨b, off + j * 6 + 2, none⟩) hb).trans c3
      have f4 := fun w' (S' : St w0 w' L) => (S'.below.cell (p := ⟨b, off + j * 6 + 3, none⟩) hb).trans c4
      have f5 := fun w' (S' : St w0 w' L) => (S'.below.cell (p := ⟨b, off + j * 6 + 4, none⟩) hb).trans c5
      have f6 := fun w' (S' : St w0 w' L) => (S'.below.cell (p := ⟨b, off + j * 6 + 5, none⟩) hb).trans c6
      clear hc c1 c2 c3 c4 c5 c6 HZ hm
      unfold szSMsFrom at hz
      by_cases hneg : q - m.a.xs.length - m.b.xs.length < 0
      · have E := Lib.hid (if_pos hneg : (if q - m.a.xs.length - m.b.xs.length < 0 then (-1 : Int) else q - m.a.xs.length - m.b.xs.length) = -1)
        rw [if_pos hneg] at hz
        subst hz
        clear hneg
        go_wp2_with (first | (refine qbx HL S ?_; clear F S HL; intro g w L HL S F) | (go_at_call 10; refine qGr S (C_szSharedMatrix' _ _ _ _ _ _ _ _ _ _ _ _ _ hcap' hmax' hcbp' hmbx' ⟨by omega, by omega⟩ (by exact E.out)) ?_; clear S; intro w S))
        go_ret
        exact ⟨rfl, S.below⟩
      · obtain ⟨q', hq'⟩ : ∃ q', q - m.a.xs.length - m.b.xs.length = q' := ⟨_, rfl⟩
        have E := Lib.hid ((if_neg hneg).trans hq' : (if q - m.a.xs.length - m.b.xs.length < 0 then (-1 : Int) else q - m.a.xs.length - m.b.xs.length) = q')
        rw [if_neg hneg, hq'] at hz
        have HZ := Lib.hid hz
        have q3 : 0 ≤ q' := by omega
        have q4 : q' ≤ 1000000000 := by omega
        clear hneg hq' hz
        go_wp2_with (first | (refine qbx HL S ?_; clear F S HL; intro g w L HL S F) | (go_at_call 10; refine qGr S (C_szSharedMatrix' _ _ _ _ _ _ _ _ _ _ _ _ _ hcap' hmax' hcbp' hmbx' ⟨by omega, by omega⟩ (by exact E.out)) ?_; clear S; intro w S))
        go_roundw
        case rel => exact ⟨j + 1, q', by omega, by go_num, rfl, q3, q4, HZ, S⟩
        case measure => simp [intOf]; omega
    · obtain rfl : j = n := by omega
      have hz := HZ.out
      rw [List.drop_of_length_le (by rw [HN.out]; omega)] at hz
      unfold szSMsFrom at hz
      subst hz
      go_wp2
      go_ret
      exact ⟨rfl, S.below⟩
theorem C_toSharedMatrixS (v : Value) (ms : List SMx) (w0 : World) (h : SeesSMs w0 v ms) (hn0 : ms.length ≤ 1048576) (hx : ∀ m ∈ ms, SMSmall 1048576 m) :
    Calls Tryz.prog 12 #[v] w0 fun e w => ∃ u ps, e = .returned u ∧ ps.map smO = ms ∧ St w0 w (entsSM u ps) := by
  obtain ⟨A, cap, rfl, hcap, hmax, hA⟩ := h
  obtain ⟨n, hn⟩ : ∃ n, ms.length = n := ⟨_, rfl⟩
  rw [hn] at hcap hA hn0 ⊢
  unfold maxLen at hmax
  have HA := Lib.hid hA
  have HN := Lib.hid hn
  have HX := Lib.hid hx
  clear hA hn hx
  have CT := fun r c xs r' c' ys u v w h h' hn hn' => C_toSharedMatrix r c xs r' c' ys u v w h h' hn hn'
  unfold MakesSMx at CT
  obtain ⟨L, HL, S⟩ := st_start w0; have F : True := trivial
  go_enter Tryz.func12, Tryz.ntmps12
  go_wp2_with (at_make; refine wpList_make rfl S _ _ _ rfl 32 _ 6 80 Tryz.underlying35 infoSMx _ n rfl rfl rfl (by omega) (by simp only [maxLen]; omega) ?_; clear F S; intro g w L hM S; replace HL := qNm HL hM; clear hM; have F := qFc HL S)
  obtain ⟨Z, hZ⟩ : ∃ Z, Z = (madeCells #[.int .i64 0, .int .i64 0, .slice none 0 0, .int .i64 0, .int .i64 0, .slice none 0 0] (n * 6)).toList := ⟨_, rfl⟩
  rw [← hZ] at HL
  have hZl : Z.length = n * 6 := by rw [hZ]; simp [madeCells]
  have HZ := Lib.hid hZl
  clear hZ hZl
  go_loopw [4] (fun i wr => ∃ (k : Nat) (ps : SMsO) (L : List Ent), k ≤ n ∧ i = .int .i64 k ∧ Hid (ps.map smO = ms.take k) ∧ Hid (L = .row 32 6 (.slice (some ⟨g, 0, none⟩) n n) n (cellsSM ps ++ Z.drop (k * 6)) :: rowsSM ps) ∧ St w0 wr L) (fun i _ => n - (intOf i).toNat)
  case atStart => exact ⟨0, [], L, Nat.zero_le _, rfl, Lib.hid rfl, HL, S⟩
  case round =>
    clear F HL S
    obtain ⟨k, ps, L, hk, rfl, HP, HL, S⟩ := hrel
    have F : True := trivial
    have hpl : ps.length = k := by
      have := congrArg List.length HP.out
      rw [List.length_map, List.length_take, HN.out] at this
      omega
    by_cases hlt : k < n
    · obtain ⟨b, off, rfl, hb, hc⟩ := HA.out (by omega)
      obtain ⟨m, hm⟩ := some_at HN.out hlt
      obtain ⟨u, t, c1, c2, c3, c4, c5, c6, hu, ht⟩ := hc k m hm
      obtain ⟨hmx, hmy⟩ := HX.out m (List.mem_of_getElem? hm)
      have hp' := take_at hm
      rw [← HP.out] at hp'
      have HP' := Lib.hid hp'
      have f1 := fun w' (S' : St w0 w' L) => (S'.below.cell (p := ⟨b, off + k * 6, none⟩) hb).trans c1
      have f2 := fun w' (S' : St w0 w' L) => (S'.below.cell (p := ⟨b, off + k * 6 + 1, none⟩) hb).trans c2
      have f3 := fun w' (S' : St w0 w' L) => (S'.below.cell (p := ⟨b, off + k * 6 + 2, none⟩) hb).trans c3
      have f4 := fun w' (S' : St w0 w' L) => (S'.below.cell (p := ⟨b, off + k * 6 + 3, none⟩) hb).trans c4
      have f5 := fun w' (S' : St w0 w' L) => (S'.below.cell (p := ⟨b, off + k * 6 + 4, none⟩) hb).trans c5
      have f6 := fun w' (S' : St w0 w' L) => (S'.below.cell (p := ⟨b, off + k * 6 + 5, none⟩) hb).trans c6
      have HU := Lib.hid hu
      have HT := Lib.hid ht
      obtain ⟨_, A', cap', rfl, hcap', hmax', _⟩ := hu
      obtain ⟨_, B', cbp', rfl, hcbp', hmbx', _⟩ := ht
      have hcl := cellsSM_len ps
      rw [hpl] at hcl
      have HC := Lib.hid hcl
      have hk3 : k * 6 + 6 ≤ n * 6 := by omega
      clear hc c1 c2 c3 c4 c5 c6 hp' hcl
      obtain ⟨⟨r, c, xs⟩, ⟨r', c', ys⟩⟩ := m
      dsimp only at *
      go_wp2_with (first | (refine qbx HL S ?_; clear F S HL; intro g w L HL S F) | (go_at_call 13; refine (CT r c xs r' c' ys _ _ _ (HU.out.at_ S) (HT.out.at_ S) hmx hmy).mono ?_; rintro e w ⟨u, v, rfl, T0⟩; have hX := qcl HL S T0; clear F S HL T0; obtain ⟨L, HL, S, F⟩ := hX; obtain ⟨Av, cv, rfl, hcv, hmv⟩ := qSl HL S 0; obtain ⟨Au, cu, rfl, hcu, hmu⟩ := qSl HL S 1) | (refine wpList_store_rowS rfl S _ _ _ rfl 2 _ _ _ _ _ _ _ (atOf HL rfl) rfl ([.int .i64 r, .int .i64 c, .slice Au xs.length cu, .int .i64 r', .int .i64 c', .slice Av ys.length cv]) rfl (by kernel_rfl) rfl (show _ + 6 ≤ _ from by omega) ?_; clear F S; intro w L hM S; replace HL := qNr HL hM; clear hM; have F := qFc HL S))
      go_roundw
      case rel =>
        rw [HL.out] at S
        have e : splice (cellsSM ps ++ Z.drop (k * 6)) (k * 6) [.int .i64 r, .int .i64 c, .slice Au xs.length cu, .int .i64 r', .int .i64 c', .slice Av ys.length cv] = cellsSM (ps ++ [(.slice Au xs.length cu, .slice Av ys.length cv, ⟨⟨r, c, xs⟩, ⟨r', c', ys⟩⟩)]) ++ Z.drop ((k + 1) * 6) := by
          rw [splice_app _ _ _ _ HC.out, List.drop_drop, cellsSM_add, Nat.succ_mul]; rfl
        rw [e] at S
        have T := S.perm (sm_perm _ _ _ _)
        exact ⟨k + 1, ps ++ [(.slice Au xs.length cu, .slice Av ys.length cv, ⟨⟨r, c, xs⟩, ⟨r', c', ys⟩⟩)], _, by omega, by go_num, Lib.hid (by rw [List.map_append, HP'.out]; rfl), Lib.hid (by rw [rowsSM_add]; rfl), T⟩
      case measure => simp [intOf]; omega
    · obtain rfl : k = n := by omega
      go_wp2
      go_ret
      rw [HL.out, List.drop_of_length_le (Nat.le_of_eq HZ.out), List.append_nil] at S
      have hp := HP.out
      rw [List.take_of_length_le (Nat.le_of_eq HN.out)] at hp
      refine ⟨_, ps, rfl, hp, ?_⟩
      unfold entsSM
      rw [hpl]
      exact S
theorem C_eqSharedMatrixS (u v : Value) (ms : List SMx) (w0 : World) (hu : SeesSMs w0 u ms) (hv : SeesSMs w0 v ms) :
    Calls Tryz.prog 17 #[u, v] w0 fun e w' => e = .returned (.bool true) ∧ Below w0.heap.size w0 w' := by
  obtain ⟨A, cap, rfl, hcap, hmax, hA⟩ := hu
  obtain ⟨B, cap', rfl, hcap', hmax', hB⟩ := hv
  obtain ⟨n, hn⟩ : ∃ n, ms.length = n := ⟨_, rfl⟩
  rw [hn] at hcap hcap' hA hB ⊢
  have HN := Lib.hid hn
  have HA := Lib.hid hA
  have HB := Lib.hid hB
  clear hA hB hn
  unfold maxLen at hmax hmax'
  obtain ⟨L, HL, S⟩ := st_start w0; have F : True := trivial
  go_enter Tryz.func17, Tryz.ntmps17
  go_wp2
  go_loopw [5] (fun i wr => ∃ (k : Nat), k ≤ n ∧ i = .int .i64 k ∧ St w0 wr L) (fun i _ => n - (intOf i).toNat)
  case atStart => exact ⟨0, Nat.zero_le _, rfl, S⟩
  case round =>
    clear S
    obtain ⟨k, hk, rfl, S⟩ := hrel
    by_cases hlt : k < n
    · obtain ⟨b, off, rfl, hb, hc⟩ := HA.out (by omega)
      obtain ⟨b', off', rfl, hb', hc'⟩ := HB.out (by omega)
      obtain ⟨m, hm⟩ := some_at HN.out hlt
      obtain ⟨⟨r, c, xs⟩, ⟨r', c', ys⟩⟩ := m
      obtain ⟨x, x', c1, c2, c3, c4, c5, c6, hx, hx'⟩ := hc k _ hm
      obtain ⟨y, y', d1, d2, d3, d4, d5, d6, hy, hy'⟩ := hc' k _ hm
      dsimp only at c1 c2 c3 c4 c5 c6 hx hx' d1 d2 d3 d4 d5 d6 hy hy'
      have f1 := fun w' (S' : St w0 w' L) => (S'.below.cell (p := ⟨b, off + k * 6, none⟩) hb).trans c1
      have f2 := fun w' (S' : St w0 w' L) => (S'.below.cell (p := ⟨b, off + k * 6 + 1, none⟩) hb).trans c2
      have f3 := fun w' (S' : St w0 w' L) => (S'.below.cell (p := ⟨b, off + k * 6 + 2, none⟩) hb).trans c3
      have f4 := fun w' (S' : St w0 w' L) => (S'.below.cell (p := ⟨b, off + k * 6 + 3, none⟩) hb).trans c4
      have f5 := fun w' (S' : St w0 w' L) => (S'.below.cell (p := ⟨b, off + k * 6 + 4, none⟩) hb).trans c5
      have f6 := fun w' (S' : St w0 w' L) => (S'.below.cell (p := ⟨b, off + k * 6 + 5, none⟩) hb).trans c6
      have g1 := fun w' (S' : St w0 w' L) => (S'.below.cell (p := ⟨b', off' + k * 6, none⟩) hb').trans d1
      have g2 := fun w' (S' : St w0 w' L) => (S'.below.cell (p := ⟨b', off' + k * 6 + 1, none⟩) hb').trans d2
      have g3 := fun w' (S' : St w0 w' L) => (S'.below.cell (p := ⟨b', off' + k * 6 + 2, none⟩) hb').trans d3
      have g4 := fun w' (S' : St w0 w' L) => (S'.below.cell (p := ⟨b', off' + k * 6 + 3, none⟩) hb').trans d4
      have g5 := fun w' (S' : St w0 w' L) => (S'.below.cell (p := ⟨b', off' + k * 6 + 4, none⟩) hb').trans d5
      have g6 := fun w' (S' : St w0 w' L) => (S'.below.cell (p := ⟨b', off' + k * 6 + 5, none⟩) hb').trans d6
      have HX := Lib.hid hx
      have HY := Lib.hid hy
      have HX' := Lib.hid hx'
      have HY' := Lib.hid hy'
      obtain ⟨_, Ax, capx, rfl, hcx, hmx, _⟩ := hx
      obtain ⟨_, Ay, capy, rfl, hcy, hmy, _⟩ := hy
      obtain ⟨_, Ax', capx', rfl, hcx', hmx', _⟩ := hx'
      obtain ⟨_, Ay', capy', rfl, hcy', hmy', _⟩ := hy'
      clear hc hc' c1 c2 c3 c4 c5 c6 d1 d2 d3 d4 d5 d6 hm
      go_wp2_with fail
      have HL0 := HL; have F0 := F; refine wp_region_tree (S := fun w' => St w0 w' L) (qcs 0 8 (.act 8 (.calm 9 .fin) .stop)) (by kernel_rfl) (by kernel_rfl) (by kernel_rfl) (by intro c a d v w h; cases d <;> exact h) ?_; dsimp only [qcs, Nat.reduceAdd]; replace S := S.drew
      repeat (first | refine qCa ?_ | refine qAn ?_ | refine qSk ?_ | (refine tree_act rfl rfl ?_ tree_stop; intro K hK; go_wp2_with (first | (go_at_call 15; refine qGr S (C_eqSharedMatrix r c xs r' c' ys _ _ _ _ _ (HX.out.at_ S) (HX'.out.at_ S) (HY.out.at_ S) (HY'.out.at_ S)) ?_; clear S; intro w S)); (refine qKo hK ?_; clear hK K)))
      refine tree_fin ?_
      go_wp2
      go_roundw
      case rel => exact ⟨k + 1, by omega, by go_num, S⟩
      case measure => simp [intOf]; omega
    · obtain rfl : k = n := by omega
      go_wp2
      go_ret
      exact ⟨rfl, S.below⟩
end
section
open Go Go.RowKit Go.ChangeShapes Go.WideShapes Go.ChangeAt
theorem C_szSMx' (r c r' c' : Int) (A B : Option Addr) (n cap m cap' : Nat) (k q : Int) (w0 : World) (hn : n ≤ cap) (hc : cap ≤ maxLen) (hm : m ≤ cap') (hc' : cap' ≤ maxLen) (hk : 0 ≤ k ∧ k ≤ 1000000000) (hq : (if k - n - m < 0 then -1 else k - n - m) = q) :
    Calls Tryz.prog 10 #[.agg #[.int .i64 r, .int .i64 c, .slice A n cap, .int .i64 r', .int .i64 c', .slice B m cap'], .int .i64 k] w0 fun e w' => e = .returned (.int .i64 q) ∧ Below w0.heap.size w0 w' := hq ▸ C_szSharedMatrix r c r' c' A B n cap m cap' k w0 hn hc hm hc' hk
end
section
theorem marks_len' (n : Nat) (k : Int) : (marks n k).length = n := tab_length _ _
end
section
def markSOne (p : Value × Value × SMx) (k : Int) : Value × Value × SMx :=
  (p.1, p.2.1, ⟨⟨k, k + 1, marks p.2.2.a.xs.length (k + 2)⟩, ⟨k + 2 + p.2.2.a.xs.length, k + 3 + p.2.2.a.xs.length, marks p.2.2.b.xs.length (k + 4 + p.2.2.a.xs.length)⟩⟩)
def stepSM (p : Value × Value × SMx) (k : Int) : Int := k + 4 + p.2.2.a.xs.length + p.2.2.b.xs.length
def markSPs : SMsO → Int → SMsO
  | [], _ => []
  | p :: ps, k => markSOne p k :: markSPs ps (stepSM p k)
def endSPs : SMsO → Int → Int
  | [], k => k
  | p :: ps, k => endSPs ps (stepSM p k)
theorem endSPs_le : ∀ (ps : SMsO) (k : Int), k ≤ endSPs ps k
  | [], k => Int.le_refl _
  | p :: ps, k => by
    have := endSPs_le ps (stepSM p k)
    unfold endSPs
    unfold stepSM at *
    omega
theorem endSPs_eq : ∀ (ps : SMsO) (k z : Int), 0 ≤ szSMsFrom (ps.map smO) z → endSPs ps k + szSMsFrom (ps.map smO) z = k + 4 * ps.length + z
  | [], k, z, h => by
    simp only [List.map_nil, szSMsFrom, endSPs, List.length_nil]
    omega
  | p :: ps, k, z, h => by
    rw [List.map_cons] at h ⊢
    unfold szSMsFrom at h ⊢
    split at h
    · omega
    · rename_i h0
      rw [if_neg h0]
      have := endSPs_eq ps (stepSM p k) _ h
      unfold endSPs
      unfold stepSM smO at *
      rw [List.length_cons]
      omega
theorem mark_permS (ru x y : Ent) (A B R : List Ent) : (ru :: x :: y :: (B ++ (A ++ R))).Perm (ru :: (B ++ ((A ++ [x, y]) ++ R))) := by
  refine .cons _ ?_
  rw [List.append_assoc]
  refine (List.perm_append_comm_assoc [x, y] B (A ++ R)).trans (List.Perm.append_left _ ?_)
  exact List.perm_append_comm_assoc [x, y] A R
theorem C_markSharedMatrixS (R : List Ent) (u : Value) (ps : SMsO) (k : Int) (w0 w1 : World) (S0 : St w0 w1 (entsSM u ps ++ R)) (hk : 0 ≤ k) (he : endSPs ps k ≤ 100000000) :
    Calls Tryz.prog 18 #[u, .int .i64 k] w1 fun e w' => e = .returned (.int .i64 (endSPs ps k)) ∧ St w0 w' (entsSM u (markSPs ps k) ++ R) := by
  obtain ⟨n, hn⟩ : ∃ n, ps.length = n := ⟨_, rfl⟩
  have S1 : St w0 w1 (.row 32 6 u n (cellsSM ps) :: (rowsSM ps ++ R)) := by rw [← hn]; exact S0
  clear S0
  rcases S1.rowShape (p := 0) (show At _ 0 _ from rfl) with ⟨rfl, h0⟩ | ⟨g, cap, rfl, hcap, hmax⟩
  · obtain rfl : ps = [] := List.length_eq_zero_iff.1 (hn.trans h0)
    subst h0
    obtain ⟨L, HL, S⟩ := st_name S1
    replace HL := Lib.hid HL
    clear S1 hn
    have F : True := trivial
    go_enter Tryz.func18, Tryz.ntmps18
    go_wp2
    go_loopw [5, 1] (fun i k' wr => i = .int .i64 0 ∧ k' = .int .i64 k ∧ St w0 wr L) (fun i _ _ => 0)
    case atStart => exact ⟨rfl, rfl, S⟩
    case round =>
      obtain ⟨rfl, rfl, S⟩ := hrel
      go_wp2
      go_ret
      rw [HL.out] at S
      exact ⟨rfl, S⟩
  · unfold maxLen at hmax
    obtain ⟨L, HL, S⟩ := st_name S1
    replace HL := Lib.hid HL
    clear S1
    have F : True := trivial
    go_enter Tryz.func18, Tryz.ntmps18
    go_wp2
    go_loopw [5, 1] (fun i k' wr => ∃ (j : Nat) (q : Int) (A B : SMsO) (L : List Ent), j ≤ n ∧ i = .int .i64 j ∧ k' = .int .i64 q ∧ 0 ≤ q ∧ endSPs B q ≤ 100000000 ∧ A.length = j ∧ j + B.length = n ∧ Hid (endSPs B q = endSPs ps k) ∧ Hid (A ++ markSPs B q = markSPs ps k) ∧ Hid (L = .row 32 6 (.slice (some ⟨g, 0, none⟩) n cap) n (cellsSM A ++ cellsSM B) :: (rowsSM B ++ (rowsSM A ++ R))) ∧ St w0 wr L) (fun i _ _ => n - (intOf i).toNat)
    case atStart => exact ⟨0, k, [], ps, L, Nat.zero_le _, rfl, rfl, hk, he, rfl, by omega, Lib.hid rfl, Lib.hid rfl, HL, S⟩
    case round =>
      clear F HL S
      obtain ⟨j, q, A, B, L, hj, rfl, rfl, hq, heB, hA, hB, HE, HM, HL, S⟩ := hrel
      by_cases hlt : j < n
      · obtain ⟨p, B', rfl⟩ : ∃ p B', B = p :: B' := by
          cases B with
          | nil => simp at hB; omega
          | cons p B' => exact ⟨p, B', rfl⟩
        obtain ⟨x, y, ⟨r, c, xs⟩, ⟨r', c', ys⟩⟩ := p
        rw [List.length_cons] at hB
        have hle := endSPs_le B' (stepSM (x, y, ⟨⟨r, c, xs⟩, ⟨r', c', ys⟩⟩) q)
        have hcA := cellsSM_len A
        rw [hA] at hcA
        have hq2 : q + 4 + xs.length + ys.length ≤ 100000000 := by
          have h1 : endSPs B' (q + 4 + xs.length + ys.length) ≤ 100000000 := heB
          have h2 : q + 4 + xs.length + ys.length ≤ endSPs B' (q + 4 + xs.length + ys.length) := hle
          omega
        have HC := Lib.hid hcA
        have HLen := Lib.hid hA
        have HEB := Lib.hid heB
        rw [HL.out] at S
        have T : St w0 wr (.row 32 6 (.slice (some ⟨g, 0, none⟩) n cap) n (cellsSM A ++ (.int .i64 r :: .int .i64 c :: x :: .int .i64 r' :: .int .i64 c' :: y :: cellsSM B')) :: .row 3 1 x xs.length (ints xs) :: .row 3 1 y ys.length (ints ys) :: (rowsSM B' ++ (rowsSM A ++ R))) := S
        clear S HL hcA hle heB hA
        have S := T
        clear T
        obtain ⟨L, hM, T⟩ := st_name S
        clear S
        have S := T
        clear T
        have HL := Lib.hid hM
        clear hM
        have F : True := trivial
        obtain ⟨Ax, capx, rfl, hcapx, hmaxx⟩ := qSl HL S 1
        obtain ⟨Ay, capy, rfl, hcapy, hmaxy⟩ := qSl HL S 2
        have hk6 : j * 6 + 6 ≤ n * 6 := by omega
        go_upto_region 6 with (first | (refine wpList_store_rowS rfl S _ _ _ rfl 0 _ _ _ _ _ _ _ (atOf HL rfl) rfl ([.int .i64 q]) rfl (by kernel_rfl) rfl (show _ + 1 ≤ _ from by omega) ?_; clear F S; intro w L hM S; replace HL := qNr HL hM; clear hM; have F := qFc HL S))
        go_upto_region 8 with (first | (refine wpList_store_rowS rfl S _ _ _ rfl 0 _ _ _ _ _ _ _ (atOf HL rfl) rfl ([.int .i64 (q + 1)]) rfl (by kernel_rfl) rfl (show _ + 1 ≤ _ from by omega) ?_; clear F S; intro w L hM S; replace HL := qNr HL hM; clear hM; have F := qFc HL S))
        have hcs : splice (splice (cellsSM A ++ (.int .i64 r :: .int .i64 c :: .slice Ax xs.length capx :: .int .i64 r' :: .int .i64 c' :: .slice Ay ys.length capy :: cellsSM B')) (j * 6) [.int .i64 q]) (j * 6 + 1) [.int .i64 (q + 1)] = cellsSM A ++ (.int .i64 q :: .int .i64 (q + 1) :: .slice Ax xs.length capx :: .int .i64 r' :: .int .i64 c' :: .slice Ay ys.length capy :: cellsSM B') := by
          rw [splice_app _ _ _ _ HC.out]
          have e1 : (cellsSM A ++ [Value.int .i64 q]).length = j * 6 + 1 := by rw [List.length_append, HC.out]; rfl
          rw [splice_app _ _ _ _ e1]
          simp
        rw [hcs] at HL
        clear hcs
        have d0 := S.rowCell (p := 0) (atOf HL rfl) (j * 6 + 2) (by omega)
        rw [List.getElem?_append_right (by rw [HC.out]; omega), HC.out, Nat.add_sub_cancel_left] at d0
        have d1 : w.cell? ⟨g, j * 6 + 2, none⟩ = some (.slice Ax xs.length capx) := d0
        clear d0
        go_upto_region 9 with (go_at_call 20; refine (C_markIntS L 1 _ _ xs _ w0 _ S (atOf HL rfl) ⟨by omega, by omega⟩ (by omega)).mono ?_; rintro e w ⟨rfl, T0⟩; obtain ⟨L, hM, T⟩ := st_name T0; clear T0; clear F S; replace HL := qNm HL hM; clear hM; have S := T; clear T; have F := qFc HL S)
        clear d1
        obtain ⟨q3, hq3⟩ : ∃ q3, q + 1 + 1 + (xs.length : Int) = q3 := ⟨_, rfl⟩
        have HQ3 := Lib.hid hq3
        (try rw [hq3])
        have q31 : 0 ≤ q3 := by omega
        have q32 : q3 + 2 + ys.length ≤ 100000000 := by omega
        clear hq3
        go_upto_region 11 with (first | (refine wpList_store_rowS rfl S _ _ _ rfl 0 _ _ _ _ _ _ _ (atOf HL rfl) rfl ([.int .i64 q3]) rfl (by kernel_rfl) rfl (show _ + 1 ≤ _ from by omega) ?_; clear F S; intro w L hM S; replace HL := qNr HL hM; clear hM; have F := qFc HL S))
        go_upto_region 13 with (first | (refine wpList_store_rowS rfl S _ _ _ rfl 0 _ _ _ _ _ _ _ (atOf HL rfl) rfl ([.int .i64 (q3 + 1)]) rfl (by kernel_rfl) rfl (show _ + 1 ≤ _ from by omega) ?_; clear F S; intro w L hM S; replace HL := qNr HL hM; clear hM; have F := qFc HL S))
        have hcs : splice (splice (cellsSM A ++ (.int .i64 q :: .int .i64 (q + 1) :: .slice Ax xs.length capx :: .int .i64 r' :: .int .i64 c' :: .slice Ay ys.length capy :: cellsSM B')) (j * 6 + 3) [.int .i64 q3]) (j * 6 + 3 + 1) [.int .i64 (q3 + 1)] = cellsSM A ++ (.int .i64 q :: .int .i64 (q + 1) :: .slice Ax xs.length capx :: .int .i64 q3 :: .int .i64 (q3 + 1) :: .slice Ay ys.length capy :: cellsSM B') := by
          have e0 : cellsSM A ++ (.int .i64 q :: .int .i64 (q + 1) :: .slice Ax xs.length capx :: .int .i64 r' :: .int .i64 c' :: .slice Ay ys.length capy :: cellsSM B') = (cellsSM A ++ [.int .i64 q, .int .i64 (q + 1), .slice Ax xs.length capx]) ++ (.int .i64 r' :: .int .i64 c' :: .slice Ay ys.length capy :: cellsSM B') := by simp
          have e1 : (cellsSM A ++ [Value.int .i64 q, .int .i64 (q + 1), .slice Ax xs.length capx]).length = j * 6 + 3 := by rw [List.length_append, HC.out]; rfl
          rw [e0, splice_app _ _ _ _ e1]
          have e2 : (cellsSM A ++ [Value.int .i64 q, .int .i64 (q + 1), .slice Ax xs.length capx] ++ [Value.int .i64 q3]).length = j * 6 + 3 + 1 := by rw [List.length_append, e1]; rfl
          rw [splice_app _ _ _ _ e2]
          simp
        rw [hcs] at HL
        clear hcs
        have d0 := S.rowCell (p := 0) (atOf HL rfl) (j * 6 + 5) (by omega)
        rw [List.getElem?_append_right (by rw [HC.out]; omega), HC.out, Nat.add_sub_cancel_left] at d0
        have d1 : w.cell? ⟨g, j * 6 + 3 + 2, none⟩ = some (.slice Ay ys.length capy) := d0
        clear d0
        go_wp2_with (go_at_call 20; refine (C_markIntS L 2 _ _ ys _ w0 _ S (atOf HL rfl) ⟨by omega, by omega⟩ (by omega)).mono ?_; rintro e w ⟨rfl, T0⟩; obtain ⟨L, hM, T⟩ := st_name T0; clear T0; clear F S; replace HL := qNm HL hM; clear hM; have S := T; clear T; have F := qFc HL S)
        go_roundw
        case rel =>
          rw [HL.out] at S
          have e5 : q3 = q + 2 + xs.length := by have := HQ3.out; omega
          subst e5
          refine ⟨j + 1, q + 4 + xs.length + ys.length, A ++ [markSOne (.slice Ax xs.length capx, .slice Ay ys.length capy, ⟨⟨r, c, xs⟩, ⟨r', c', ys⟩⟩) q], B', _, by omega, by go_num, by go_num, by omega, HEB.out, by rw [List.length_append, HLen.out]; rfl, by omega, HE, Lib.hid ?_, Lib.hid rfl, ?_⟩
          · rw [← HM.out, List.append_assoc]
            rfl
          · rw [cellsSM_add, rowsSM_add, List.append_assoc]
            have T := S.perm (mark_permS _ _ _ _ _ _)
            have e2 : (marks xs.length (q + 2)).length = xs.length := marks_len' _ _
            have e2' : (marks ys.length (q + 4 + xs.length)).length = ys.length := marks_len' _ _
            have e3 : rowsSM [markSOne (.slice Ax xs.length capx, .slice Ay ys.length capy, ⟨⟨r, c, xs⟩, ⟨r', c', ys⟩⟩) q] = [.row 3 1 (.slice Ax xs.length capx) xs.length (ints (marks xs.length (q + 2))), .row 3 1 (.slice Ay ys.length capy) ys.length (ints (marks ys.length (q + 4 + xs.length)))] := by
              show [Ent.row 3 1 (.slice Ax xs.length capx) (marks xs.length (q + 2)).length (ints (marks xs.length (q + 2))), Ent.row 3 1 (.slice Ay ys.length capy) (marks ys.length (q + 4 + xs.length)).length (ints (marks ys.length (q + 4 + xs.length)))] = _
              rw [e2, e2']
            have e4 : q + 1 + 1 = q + 2 := by omega
            have e6 : q + 2 + (xs.length : Int) + 1 + 1 = q + 4 + xs.length := by omega
            have e7 : q + 2 + (xs.length : Int) + 1 = q + 3 + xs.length := by omega
            rw [e4, e6, e7] at T
            show St w0 w (.row _ _ _ _ (cellsSM A ++ (.int .i64 q :: .int .i64 (q + 1) :: .slice Ax xs.length capx :: .int .i64 (q + 2 + xs.length) :: .int .i64 (q + 3 + xs.length) :: .slice Ay ys.length capy :: cellsSM B')) :: (rowsSM B' ++ ((rowsSM A ++ rowsSM [markSOne (.slice Ax xs.length capx, .slice Ay ys.length capy, ⟨⟨r, c, xs⟩, ⟨r', c', ys⟩⟩) q]) ++ R)))
            rw [e3]
            exact T
        case measure => simp [intOf]; omega
      · obtain rfl : j = n := by omega
        obtain rfl : B = [] := List.length_eq_zero_iff.1 (by omega)
        have hAM : A = markSPs ps k := by have := HM.out; rwa [markSPs, List.append_nil] at this
        go_wp2
        go_ret
        have he' : q = endSPs ps k := HE.out
        rw [HL.out] at S
        subst hAM
        refine ⟨congrArg (fun z => Ending.returned (Value.int .i64 z)) he', ?_⟩
        have T : St w0 wr (.row 32 6 (.slice (some ⟨g, 0, none⟩) j cap) j (cellsSM (markSPs ps k) ++ []) :: ([] ++ (rowsSM (markSPs ps k) ++ R))) := S
        rw [List.append_nil, List.nil_append] at T
        unfold entsSM
        rw [hA]
        exact T
end
end Go.Proofs.YtjgfjfjboimgdaaGreat
