/- LyX LyY LyN SnL -/
import Derived.Test.YtjgfjfjboimgdaaGreatY31
import Derived.Test.YtjgfjfjboimgdaaGreatY39
namespace Go.Proofs.YtjgfjfjboimgdaaGreat
set_option linter.unusedSimpArgs false
set_option linter.unusedVariables false
set_option linter.unusedSectionVars false
open Go Go.RowKit
set_option maxHeartbeats 8000000
set_option maxRecDepth 20000
section
theorem infoIf : (Tryz.prog.info? 97).map (fun i => (i.zero, i.size, i.bytes)) = some (some .nilIface, 1, 16) := by kernel_rfl
def LayersRes (ls : List Ly) (b : Bool) (w0 : World) (e : Ending) (w' : World) : Prop :=
  ∃ (u : Value) (cs : List Value), e = .returned (.tuple #[u, .bool b]) ∧ (b = true → cs.length = ls.length) ∧ (b = false → cs.length = 0) ∧ (∀ (q : Nat) (l : Ly) (x : Value), ls[q]? = some l → cs[q]? = some x → IfLy w0 x l) ∧ Below w0.heap.size w0 w' ∧ Sees w' 1 u cs.length cs
theorem C_layersOf (v : Value) (ls : List Ly) (b : Bool) (w0 : World) (h : SeesLs w0 v ls) (hb : (decide (ls.length ≤ 4) && ls.all Ly.ok) = b) :
    Calls Tryz.prog 85 #[v] w0 (LayersRes ls b w0) := by
  obtain ⟨A, cap, rfl, hcap, hmax, hA⟩ := h
  obtain ⟨n, hn⟩ : ∃ n, ls.length = n := ⟨_, rfl⟩
  rw [hn] at hcap hA hb ⊢
  have HN := Lib.hid hn
  have HA := Lib.hid hA
  obtain ⟨p, hp, hall, hbad, hnone⟩ := first_bad Ly.ok ls
  rw [hn] at hp hnone
  have HALL := Lib.hid hall
  have HBAD := Lib.hid hbad
  have HNONE := Lib.hid hnone
  clear hA hn hall hbad hnone
  unfold maxLen at hmax
  by_cases h4 : n ≤ 4
  · rw [decide_eq_true h4, Bool.true_and] at hb
    have HBL := Lib.hid hb
    clear hb
    obtain ⟨L, HL, S⟩ := st_start w0; have F : True := trivial
    go_enter Tryz.func85, Tryz.ntmps85
    go_upto_region 4 with (at_make; refine wpList_make rfl S _ _ _ rfl 97 _ 1 16 Tryz.underlying116 infoIf _ n rfl rfl rfl (by omega) (by simp only [maxLen]; omega) ?_; clear F S; intro g w L hM S; replace HL := qNm HL hM; clear hM; have F := qFc HL S)
    obtain ⟨Z, hZ⟩ : ∃ Z, Z = (madeCells #[Value.nilIface] n).toList := ⟨_, rfl⟩
    rw [← hZ] at HL
    have hZl : Z.length = n := by rw [hZ]; simp [madeCells]
    have HZ := Lib.hid hZl
    clear hZ hZl
    go_wp2
    go_loopw [17] (fun i wr => ∃ (j : Nat) (cs : List Value) (L : List Ent), j ≤ p ∧ i = .int .i64 j ∧ Hid (cs.length = j) ∧ Hid (∀ (q : Nat) (l : Ly) (x : Value), ls[q]? = some l → cs[q]? = some x → IfLy w0 x l) ∧ Hid (L = [.row 97 1 (.slice (some ⟨g, 0, none⟩) n n) n (cs ++ Z.drop j)]) ∧ St w0 wr L) (fun i _ => n - (intOf i).toNat)
    case atStart => exact ⟨0, [], L, Nat.zero_le _, rfl, Lib.hid rfl, Lib.hid (fun q l x _ h => by simp at h), HL, S⟩
    case round =>
      clear F HL S
      obtain ⟨j, cs, L, hj, rfl, HCS, HIF, HL, S⟩ := hrel
      have F : True := trivial
      by_cases hlt : j < n
      · obtain ⟨bl, off, rfl, hbl, hc⟩ := HA.out (by omega)
        obtain ⟨l, hm⟩ := some_at HN.out hlt
        obtain ⟨u, c1, c2, hu⟩ := hc j _ hm
        have HU := Lib.hid hu
        obtain ⟨A', cap', rfl, hcap', hmax', _⟩ := hu
        have f1 := fun w' (S' : St w0 w' L) => (S'.below.cell (p := ⟨bl, off + j * 2, none⟩) hbl).trans c1
        have f2 := fun w' (S' : St w0 w' L) => (S'.below.cell (p := ⟨bl, off + j * 2 + 1, none⟩) hbl).trans c2
        have HM := Lib.hid hm
        clear hc c1 c2 hm
        go_upto_region 7 with (first | (refine qal HL S zLy ?_; clear F S HL; intro g w L HL S F) | (refine qst HL S 0 ?_; clear F S HL; intro w L HL S F))
        by_cases hjp : j < p
        · have hok := HALL.out j l hjp HM.out
          go_upto_region 10 with (first | (go_at_call 69; refine (C_layerOf _ l true w0 _ S.below HU.out hok).mono ?_; rintro e w ⟨x, rfl, hx0, hb⟩; have hx := hx0 rfl; clear hx0; replace S := S.grow hb; clear hb))
          obtain ⟨ti, y, rfl⟩ := hx.iface
          have HX := Lib.hid hx
          clear hx
          go_wp2_with (first | (refine wpList_store_rowS rfl S _ _ _ rfl 1 _ _ _ _ _ _ _ (atOf HL rfl) rfl ([.iface ti y]) rfl (by kernel_rfl) rfl (show _ + 1 ≤ _ from by omega) ?_; clear F S; intro w L hM S; replace HL := qNr HL hM; clear hM; have F := qFc HL S))
          go_roundw
          case rel =>
            rw [HL.out] at S
            have T := S.sub (.cons _ (.refl _))
            rw [splice_app _ _ _ _ HCS.out, List.drop_drop] at T
            refine ⟨j + 1, cs ++ [.iface ti y], _, by omega, by go_num, Lib.hid (by rw [List.length_append, HCS.out]; rfl), Lib.hid (fun q l' x h1 h2 => ?_), Lib.hid rfl, T⟩
            rcases Nat.lt_or_ge q j with h3 | h3
            · rw [List.getElem?_append_left (by rw [HCS.out]; exact h3)] at h2
              exact HIF.out q l' x h1 h2
            · rw [List.getElem?_append_right (by rw [HCS.out]; exact h3), HCS.out] at h2
              have h4 : q - j < 1 := (List.getElem?_eq_some_iff.1 h2).1
              obtain rfl : q = j := by omega
              simp at h2
              subst h2
              rw [HM.out] at h1
              injection h1 with h1
              subst h1
              exact HX.out
          case measure => simp [intOf]; omega
        · obtain rfl : j = p := by omega
          obtain ⟨hg, hg2⟩ := HBAD.out _ HM.out
          obtain rfl : b = false := HBL.out.symm.trans hg2
          clear hg2
          go_wp2_with (first | (go_at_call 69; refine (C_layerOf _ l false w0 _ S.below HU.out hg).mono ?_; rintro e w ⟨x, rfl, hx0, hb⟩; clear hx0; replace S := S.grow hb; clear hb))
          refine ret2 rfl (show _ = _ from rfl) (show _ = _ from rfl) rfl ?_
          exact ⟨_, [], rfl, fun h => absurd h (by simp), fun _ => rfl, fun q l x _ h => by simp at h, S.below, Sees.nil_ _ _⟩
      · obtain rfl : j = n := by omega
        obtain rfl : p = j := by omega
        obtain rfl : b = true := HBL.out.symm.trans (HNONE.out rfl)
        go_wp2
        refine ret2 rfl (show _ = _ from rfl) (show _ = _ from rfl) rfl ?_
        rw [HL.out, List.drop_of_length_le (Nat.le_of_eq HZ.out), List.append_nil] at S
        have hs := Sees.row (p := 0) S rfl
        have hcs := HCS.out
        refine ⟨_, cs, rfl, fun _ => hcs.trans HN.out.symm, fun h => absurd h (by simp), HIF.out, S.below, ?_⟩
        rw [hcs]
        exact hs
  · rw [decide_eq_false h4, Bool.false_and] at hb
    subst hb
    clear HALL HBAD HNONE
    obtain ⟨L, HL, S⟩ := st_start w0; have F : True := trivial
    go_enter Tryz.func85, Tryz.ntmps85
    go_wp2_with (first | (refine qbx HL S ?_; clear F S HL; intro g w L HL S F)  | (refine qst HL S 0 ?_; clear F S HL; intro w L HL S F) | (refine qst HL S 1 ?_; clear F S HL; intro w L HL S F) | (refine qst HL S 2 ?_; clear F S HL; intro w L HL S F) | (refine qst HL S 3 ?_; clear F S HL; intro w L HL S F)  )
    refine ret2 rfl (show _ = _ from rfl) (show _ = _ from rfl) rfl ?_
    exact ⟨_, [], rfl, fun h => absurd h (by simp), fun _ => rfl, fun q l x _ h => by simp at h, S.below, Sees.nil_ _ _⟩
end
section
theorem C_sidesDense (a c b1 b2 r q : Int) (A B : Option Addr) (n n' cap cap' : Nat) (w0 : World) :
    Calls Tryz.prog 218 #[.agg #[.int .i64 a, .int .i64 c, .slice A n cap, .int .i64 b1, .int .i64 b2, .slice B n' cap'], .int .i64 r, .int .i64 q] w0 fun e w' => e = .returned (.tuple #[.int .i64 a, .int .i64 q, .bool (c == r)]) ∧ Below w0.heap.size w0 w' := by
  obtain ⟨L, HL, S⟩ := st_start w0; have F : True := trivial
  go_enter Tryz.func218, Tryz.ntmps218
  go_upto_region 1 with (first | (refine qbx HL S ?_; clear F S HL; intro g w L HL S F))
  have HL0 := HL; have F0 := F; refine wp_region_tree (S := fun w' => St w0 w' L) (qcs 0 12 .fin) (by kernel_rfl) (by kernel_rfl) (by kernel_rfl) (by intro c a d v w h; cases d <;> exact h) ?_; dsimp only [qcs, Nat.reduceAdd]; replace S := S.drew
  repeat (first | refine qCa ?_ | refine qAn ?_ | refine qSk ?_ | (refine tree_act rfl rfl ?_ tree_stop; intro K hK; go_wp2_with (first | fail); (refine qKo hK ?_; clear hK K)))
  refine tree_fin ?_
  go_wp2
  refine ret3 rfl (show _ = _ from rfl) (show _ = _ from rfl) (show _ = _ from rfl) rfl ?_
  exact ⟨rfl, S.below⟩
theorem C_sidesRamp (r q : Int) (w0 : World) :
    Calls Tryz.prog 226 #[.agg #[], .int .i64 r, .int .i64 q] w0 fun e w' => e = .returned (.tuple #[.int .i64 r, .int .i64 q, .bool true]) ∧ Below w0.heap.size w0 w' := by
  obtain ⟨L, HL, S⟩ := st_start w0; have F : True := trivial
  go_enter Tryz.func226, Tryz.ntmps226
  go_wp2_with (first | (refine qbx HL S ?_; clear F S HL; intro g w L HL S F)  | (refine qst HL S 0 ?_; clear F S HL; intro w L HL S F) | (refine qst HL S 1 ?_; clear F S HL; intro w L HL S F) | (refine qst HL S 2 ?_; clear F S HL; intro w L HL S F) | (refine qst HL S 3 ?_; clear F S HL; intro w L HL S F)  )
  refine ret3 rfl (show _ = _ from rfl) (show _ = _ from rfl) (show _ = _ from rfl) rfl ?_
  exact ⟨rfl, S.below⟩
theorem C_sidesMix (v : Value) (m : Mx) (ms : List Mx) (r q : Int) (w0 : World) (h : SeesMs w0 v (m :: ms)) :
    Calls Tryz.prog 229 #[.agg #[v], .int .i64 r, .int .i64 q] w0 fun e w' => e = .returned (.tuple #[.int .i64 r, .int .i64 q, .bool (m.r == q)]) ∧ Below w0.heap.size w0 w' := by
  obtain ⟨A, cap, rfl, hcap, hmax, hA⟩ := h
  obtain ⟨bl, off, rfl, hbl, hc⟩ := hA (by simp)
  obtain ⟨u, a1, _, _, _⟩ := hc 0 _ rfl
  rw [Nat.zero_mul, Nat.add_zero] at a1
  obtain ⟨n, hn⟩ : ∃ n, (m :: ms).length = n := ⟨_, rfl⟩
  rw [hn] at hcap ⊢
  have hn0 : 0 < n := by rw [← hn]; simp
  unfold maxLen at hmax
  clear hc hA hn
  obtain ⟨L, HL, S⟩ := st_start w0; have F : True := trivial
  go_enter Tryz.func229, Tryz.ntmps229
  go_upto_region 1 with (first | (refine qbx HL S ?_; clear F S HL; intro g w L HL S F))
  have q1 := fun w' (S' : St w0 w' L) => (S'.below.cell (p := ⟨bl, off, none⟩) hbl).trans a1
  have HL0 := HL; have F0 := F; refine wp_region_tree (S := fun w' => St w0 w' L) (qcs 0 12 .fin) (by kernel_rfl) (by kernel_rfl) (by kernel_rfl) (by intro c a d v w h; cases d <;> exact h) ?_; dsimp only [qcs, Nat.reduceAdd]; replace S := S.drew
  repeat (first | refine qCa ?_ | refine qAn ?_ | refine qSk ?_ | (refine tree_act rfl rfl ?_ tree_stop; intro K hK; go_wp2_with (first | fail); (refine qKo hK ?_; clear hK K)))
  refine tree_fin ?_
  go_wp2
  refine ret3 rfl (show _ = _ from rfl) (show _ = _ from rfl) (show _ = _ from rfl) rfl ?_
  exact ⟨rfl, S.below⟩
theorem m_sidesDense (a c b1 b2 : Int) (A B : Option Addr) (n n' cap cap' : Nat) (w : World) : (method 323 149 (.agg #[.int .i64 a, .int .i64 c, .slice A n cap, .int .i64 b1, .int .i64 b2, .slice B n' cap']) "loop.example/sharedinference/impl.sides").run Tryz.prog w = .ok (218, .agg #[.int .i64 a, .int .i64 c, .slice A n cap, .int .i64 b1, .int .i64 b2, .slice B n' cap']) w := by kernel_rfl
theorem m_sidesRamp  (w : World) : (method 323 151 (.agg #[]) "loop.example/sharedinference/impl.sides").run Tryz.prog w = .ok (226, .agg #[]) w := by kernel_rfl
theorem m_sidesMix (A : Option Addr) (n cap : Nat) (w : World) : (method 323 154 (.agg #[.slice A n cap]) "loop.example/sharedinference/impl.sides").run Tryz.prog w = .ok (229, .agg #[.slice A n cap]) w := by kernel_rfl
theorem sidesFrom_bad : ∀ (ls : List Ly) (r c : Int), ls.all Ly.ok = false → sidesFrom ls r c = none
  | [], _, _, h => by simp at h
  | l :: ls, r, c, h => by
    unfold sidesFrom
    split
    · rename_i hl
      rw [List.all_cons, hl, Bool.true_and] at h
      split
      · exact sidesFrom_bad ls _ _ h
      · rfl
    · rfl
theorem C_impl_NetSides (v : Value) (ls : List Ly) (r c : Int) (z : Option (Int × Int)) (w0 : World) (h : SeesLs w0 v ls) (hz : netSides ls r c = z) :
    Calls Tryz.prog 73 #[v, .int .i64 r, .int .i64 c] w0 fun e w' => e = .returned (sidesRes z) ∧ Below w0.heap.size w0 w' := by
  have H := Lib.hid h
  obtain ⟨A, cap, rfl, hcap, hmax, _⟩ := h
  have hz' : (if decide (ls.length ≤ 4) && sideOk r && sideOk c then sidesFrom ls r c else none) = z := hz
  clear hz
  cases h1 : sideOk r with
  | false =>
    obtain rfl : z = none := by rw [← hz', h1]; simp
    clear hz'
    obtain ⟨L, HL, S⟩ := st_start w0; have F : True := trivial
    go_enter Tryz.func73, Tryz.ntmps73
    go_wp2_with (first | (refine qbx HL S ?_; clear F S HL; intro g w L HL S F)  | (refine qst HL S 0 ?_; clear F S HL; intro w L HL S F) | (refine qst HL S 1 ?_; clear F S HL; intro w L HL S F) | (refine qst HL S 2 ?_; clear F S HL; intro w L HL S F) | (refine qst HL S 3 ?_; clear F S HL; intro w L HL S F)  | (go_at_call 112; refine qPu (C_sideValid' _ _ _ (by exact h1)) ?_))
    refine ret3 rfl (show _ = _ from rfl) (show _ = _ from rfl) (show _ = _ from rfl) rfl ?_
    exact ⟨rfl, S.below⟩
  | true =>
    cases h2 : sideOk c with
    | false =>
      obtain rfl : z = none := by rw [← hz', h2]; simp
      clear hz'
      obtain ⟨L, HL, S⟩ := st_start w0; have F : True := trivial
      go_enter Tryz.func73, Tryz.ntmps73
      go_wp2_with (first | (refine qbx HL S ?_; clear F S HL; intro g w L HL S F)  | (refine qst HL S 0 ?_; clear F S HL; intro w L HL S F) | (refine qst HL S 1 ?_; clear F S HL; intro w L HL S F) | (refine qst HL S 2 ?_; clear F S HL; intro w L HL S F) | (refine qst HL S 3 ?_; clear F S HL; intro w L HL S F)  | (go_at_call 112; refine qPu (C_sideValid' _ _ _ (by first | exact h1 | exact h2)) ?_))
      refine ret3 rfl (show _ = _ from rfl) (show _ = _ from rfl) (show _ = _ from rfl) rfl ?_
      exact ⟨rfl, S.below⟩
    | true =>
      rw [h1, h2, Bool.and_true, Bool.and_true] at hz'
      have q1 := sideOk_iff.1 h1
      have q2 := sideOk_iff.1 h2
      have H1 := Lib.hid h1
      have H2 := Lib.hid h2
      obtain ⟨b, hb⟩ : ∃ b, (decide (ls.length ≤ 4) && ls.all Ly.ok) = b := ⟨_, rfl⟩
      have HB := Lib.hid hb
      have HZ := Lib.hid hz'
      clear h1 h2 hz' hb
      obtain ⟨L, HL, S⟩ := st_start w0; have F : True := trivial
      go_enter Tryz.func73, Tryz.ntmps73
      go_upto_region 4 with (first | (go_at_call 112; refine qPu (C_sideValid' _ _ _ (by first | exact H1.out | exact H2.out)) ?_) | (go_at_call 85; refine (C_layersOf _ ls b _ (H.out.at_ S) HB.out).mono ?_; rintro e w1 ⟨u, cs, rfl, hcs1, hcs0, hif, hB, hS⟩; have hb1 := S.below.trans (hB.mono S.below.size); clear S HL F; have HIF := Lib.hid hif; have HS1 := Lib.hid hcs1; have HS0 := Lib.hid hcs0; clear hif hcs1 hcs0; obtain ⟨L, HL, S⟩ := st_start w1; have F : True := trivial))
      obtain ⟨_, A2, cap2, rfl, hcap2, hmax2, hA2⟩ := hS
      obtain ⟨m, hm⟩ : ∃ m, cs.length = m := ⟨_, rfl⟩
      rw [hm] at hcap2 hA2 HS1 HS0 ⊢
      have HM := Lib.hid hm
      have HA2 := Lib.hid hA2
      unfold maxLen at hmax2
      clear hm hA2 hB hcap hmax
      go_wp2
      go_loopw [1, 2, 10, 28] (fun r' c' ok i wr => ∃ (j : Nat) (r1 c1 : Int) (o : Bool), j ≤ m ∧ i = .int .i64 j ∧ r' = .int .i64 r1 ∧ c' = .int .i64 c1 ∧ ok = .bool o ∧ Hid ((o = true → (1 ≤ r1 ∧ r1 ≤ 5) ∧ (1 ≤ c1 ∧ c1 ≤ 5) ∧ b = true ∧ sidesFrom (ls.drop j) r1 c1 = z) ∧ (o = false → z = none)) ∧ St w1 wr []) (fun _ _ _ i _ => m - (intOf i).toNat)
      case atStart =>
        refine ⟨0, r, c, b, Nat.zero_le _, rfl, rfl, rfl, rfl, Lib.hid ⟨fun h => ?_, fun h => ?_⟩, St.refl _⟩
        · subst h
          have hb := HB.out
          have hz := HZ.out
          simp only [Bool.and_eq_true, decide_eq_true_eq] at hb
          rw [if_pos (by simp [hb.1])] at hz
          exact ⟨q1, q2, rfl, hz⟩
        · subst h
          have hb := HB.out
          have hz := HZ.out
          by_cases h4 : ls.length ≤ 4
          · rw [decide_eq_true h4, Bool.true_and] at hb
            rw [← hz, sidesFrom_bad _ _ _ hb]
            simp
          · rw [← hz, if_neg (by simp [h4])]
      case round =>
        clear HL S F HZ H1 H2
        obtain ⟨j, r1, c1, o, hj, rfl, rfl, rfl, rfl, HR, S0⟩ := hrel
        obtain ⟨L, HL, S⟩ := st_name S0
        replace HL := Lib.hid HL
        clear S0
        have F : True := trivial
        by_cases hlt : j < m
        · obtain ⟨b2, off2, rfl, hb2, hc2⟩ := HA2.out (by omega)
          obtain rfl : b = true := by
            cases hbb : b with
            | true => rfl
            | false => have := HS0.out hbb; omega
          have hml := HS1.out rfl
          obtain ⟨l, hl⟩ := some_at hml.symm hlt
          obtain ⟨x, hx⟩ := some_at HM.out hlt
          have hif := HIF.out j l x hl hx
          have hcell := fun w' (S' : St w1 w' L) => (S'.below.cell (p := ⟨b2, off2 + j, none⟩) hb2).trans (hc2 j x hx)
          have hok : l.ok = true := by
            have hb := HB.out
            simp only [Bool.and_eq_true, List.all_eq_true] at hb
            exact hb.2 l (List.mem_of_getElem? hl)
          clear hc2 hml
          cases o with
          | true =>
            obtain ⟨⟨r2, r3⟩, ⟨c2, c3⟩, _, hz⟩ := HR.out.1 rfl
            rw [drop_at hl] at hz
            unfold sidesFrom at hz
            rw [if_pos hok] at hz
            have HZ := Lib.hid hz
            clear hz
            cases Ly.ok_case hok with
            | dense wm d hd =>
              obtain ⟨u, v, rfl, hu, hv⟩ := hif
              obtain ⟨_, Au, cu, rfl, _⟩ := hu
              obtain ⟨_, Av, cv, rfl, _⟩ := hv
              have hm := m_sidesDense wm.r wm.c d.r d.c Au Av wm.xs.length d.xs.length cu cv
              go_wp2_with (first | (go_at_call 218; refine qGr S (C_sidesDense _ _ _ _ _ _ _ _ _ _ _ _ _) ?_; clear S; intro w S))
              go_roundw
              case rel =>
                simp only [denseFit, Bool.and_eq_true] at hd
                have hs := Mx.ok_sides hd.1.1.1
                have hz := HZ.out
                simp only [Ly.sides] at hz
                refine ⟨j + 1, wm.r, c1, (wm.c == r1), by omega, by go_num, rfl, rfl, rfl, Lib.hid ⟨fun h => ?_, fun h => ?_⟩, S.sub (List.nil_sublist _)⟩
                · rw [beq_iff_eq] at h
                  rw [if_pos h] at hz
                  exact ⟨hs.1, ⟨c2, c3⟩, by first | rfl | trivial, hz⟩
                · rw [beq_eq_false_iff_ne] at h
                  rw [if_neg h] at hz
                  exact hz.symm
              case measure => simp [intOf]; omega
            | ramp =>
              obtain rfl : x = _ := hif
              have hm := m_sidesRamp
              go_wp2_with (first | (go_at_call 226; refine qGr S (C_sidesRamp _ _ _) ?_; clear S; intro w S))
              go_roundw
              case rel =>
                exact ⟨j + 1, r1, c1, true, by omega, by go_num, rfl, rfl, rfl, Lib.hid ⟨fun _ => ⟨⟨r2, r3⟩, ⟨c2, c3⟩, by first | rfl | trivial, HZ.out⟩, fun h => absurd h (by simp)⟩, S.sub (List.nil_sublist _)⟩
              case measure => simp [intOf]; omega
            | mix x1 x2 x3 hd =>
              obtain ⟨u, rfl, hu⟩ := hif
              have HU := Lib.hid hu
              obtain ⟨Au, cu, rfl, _⟩ := hu
              simp only [List.length_cons, List.length_nil, Nat.zero_add, Nat.reduceAdd] at HU hcell
              have hm := m_sidesMix Au 3 cu
              go_wp2_with (first | (go_at_call 229; refine (C_sidesMix _ x1 [x2, x3] _ _ _ (HU.out.below (hb1.trans (S.below.mono hb1.size)))).mono ?_; rintro e w ⟨rfl, hb⟩; replace S := S.grow hb; clear hb))
              go_roundw
              case rel =>
                have hz := HZ.out
                simp only [Ly.sides] at hz
                refine ⟨j + 1, r1, c1, (x1.r == c1), by omega, by go_num, rfl, rfl, rfl, Lib.hid ⟨fun h => ?_, fun h => ?_⟩, S.sub (List.nil_sublist _)⟩
                · rw [beq_iff_eq] at h
                  rw [if_pos h] at hz
                  exact ⟨⟨r2, r3⟩, ⟨c2, c3⟩, by first | rfl | trivial, hz⟩
                · rw [beq_eq_false_iff_ne] at h
                  rw [if_neg h] at hz
                  exact hz.symm
              case measure => simp [intOf]; omega
          | false =>
            go_wp2
            go_roundw
            case rel => exact ⟨j + 1, r1, c1, false, by omega, by go_num, rfl, rfl, rfl, Lib.hid ⟨fun h => absurd h (by simp), HR.out.2⟩, S.sub (List.nil_sublist _)⟩
            case measure => simp [intOf]; omega
        · obtain rfl : j = m := by omega
          have hb2 := hb1.trans (S.below.mono hb1.size)
          cases o with
          | true =>
            obtain ⟨_, _, hbt, hz⟩ := HR.out.1 rfl
            rw [List.drop_of_length_le (Nat.le_of_eq (HS1.out hbt).symm)] at hz
            unfold sidesFrom at hz
            subst hz
            go_wp2
            refine ret3 rfl (show _ = _ from rfl) (show _ = _ from rfl) (show _ = _ from rfl) rfl ?_
            exact ⟨rfl, hb2⟩
          | false =>
            obtain rfl := HR.out.2 rfl
            go_wp2
            refine ret3 rfl (show _ = _ from rfl) (show _ = _ from rfl) (show _ = _ from rfl) rfl ?_
            exact ⟨rfl, hb2⟩
end
section
def l16 (l : Ly) (r c : Int) : Int × Int := if l.ok then (l.sides r c).getD (0, 0) else (0, 0)
theorem C_l16Sides (v : Value) (kind : Int) (ms : List Mx) (r c a b : Int) (w0 : World) (h : SeesMs w0 v ms) (hz : l16 ⟨kind, ms⟩ r c = (a, b)) :
    Calls Tryz.prog 124 #[.agg #[.int .i64 kind, v], .int .i64 r, .int .i64 c] w0 fun e w' => e = .returned (.tuple #[.int .i64 a, .int .i64 b]) ∧ Below w0.heap.size w0 w' := by
  have H := Lib.hid h
  obtain ⟨A, cap, rfl, hcap, hmax, hA⟩ := h
  unfold l16 at hz
  cases hok : (Ly.mk kind ms).ok with
  | false =>
    rw [hok] at hz
    injection hz with h1 h2
    subst h1; subst h2
    have HO := Lib.hid hok
    clear hok hA
    obtain ⟨L, HL, S⟩ := st_start w0; have F : True := trivial
    go_enter Tryz.func124, Tryz.ntmps124
    go_wp2_with (first | (refine qbx HL S ?_; clear F S HL; intro g w L HL S F)  | (refine qst HL S 0 ?_; clear F S HL; intro w L HL S F) | (refine qst HL S 1 ?_; clear F S HL; intro w L HL S F) | (refine qst HL S 2 ?_; clear F S HL; intro w L HL S F) | (refine qst HL S 3 ?_; clear F S HL; intro w L HL S F)  | (go_at_call 123; refine qGr S (C_spec_LayerValid _ kind ms _ _ (by exact H.out.at_ S) (by exact HO.out)) ?_; clear S; intro w S))
    refine ret2 rfl (show _ = _ from rfl) (show _ = _ from rfl) rfl ?_
    exact ⟨rfl, S.below⟩
  | true =>
    rw [hok, if_pos rfl] at hz
    have HO := Lib.hid hok
    cases Ly.ok_case hok with
    | dense wm d hd =>
      obtain ⟨bl, off, rfl, hbl, hc⟩ := hA (by simp)
      obtain ⟨u, a1, a2, _, _⟩ := hc 0 _ rfl
      rw [Nat.zero_mul, Nat.add_zero] at a1 a2
      simp only [List.length_cons, List.length_nil, Nat.zero_add, Nat.reduceAdd] at hcap H ⊢
      have q1 := fun w' L (S' : St w0 w' L) => (S'.below.cell (p := ⟨bl, off, none⟩) hbl).trans a1
      have q2 := fun w' L (S' : St w0 w' L) => (S'.below.cell (p := ⟨bl, off + 1, none⟩) hbl).trans a2
      simp only [Ly.sides] at hz
      clear hok hd hc hA a1 a2
      by_cases hf : wm.c = r
      · rw [if_pos hf] at hz
        injection hz with h1 h2
        subst h1; subst h2; subst hf
        obtain ⟨L, HL, S⟩ := st_start w0; have F : True := trivial
        go_enter Tryz.func124, Tryz.ntmps124
        go_upto_region 3 with (first | (refine qbx HL S ?_; clear F S HL; intro g w L HL S F) | (go_at_call 123; refine qGr S (C_spec_LayerValid _ 1 [wm, d] true _ (by exact H.out.at_ S) (by exact HO.out)) ?_; clear S; intro w S))
        have f1 := fun w' (S' : St w0 w' L) => q1 w' L S'
        have f2 := fun w' (S' : St w0 w' L) => q2 w' L S'
        go_wp2
        refine ret2 rfl (show _ = _ from rfl) (show _ = _ from rfl) rfl ?_
        exact ⟨rfl, S.below⟩
      · rw [if_neg hf] at hz
        injection hz with h1 h2
        subst h1; subst h2
        have e1 := bne_of hf
        obtain ⟨L, HL, S⟩ := st_start w0; have F : True := trivial
        go_enter Tryz.func124, Tryz.ntmps124
        go_upto_region 3 with (first | (refine qbx HL S ?_; clear F S HL; intro g w L HL S F) | (go_at_call 123; refine qGr S (C_spec_LayerValid _ 1 [wm, d] true _ (by exact H.out.at_ S) (by exact HO.out)) ?_; clear S; intro w S))
        have f1 := fun w' (S' : St w0 w' L) => q1 w' L S'
        have f2 := fun w' (S' : St w0 w' L) => q2 w' L S'
        go_wp2
        refine ret2 rfl (show _ = _ from rfl) (show _ = _ from rfl) rfl ?_
        exact ⟨rfl, S.below⟩
    | ramp =>
      injection hz with h1 h2
      subst h1; subst h2
      clear hok hA
      obtain ⟨L, HL, S⟩ := st_start w0; have F : True := trivial
      go_enter Tryz.func124, Tryz.ntmps124
      go_wp2_with (first | (refine qbx HL S ?_; clear F S HL; intro g w L HL S F)  | (refine qst HL S 0 ?_; clear F S HL; intro w L HL S F) | (refine qst HL S 1 ?_; clear F S HL; intro w L HL S F) | (refine qst HL S 2 ?_; clear F S HL; intro w L HL S F) | (refine qst HL S 3 ?_; clear F S HL; intro w L HL S F)  | (go_at_call 123; refine qGr S (C_spec_LayerValid _ 2 [] true _ (by exact H.out.at_ S) (by exact HO.out)) ?_; clear S; intro w S))
      refine ret2 rfl (show _ = _ from rfl) (show _ = _ from rfl) rfl ?_
      exact ⟨rfl, S.below⟩
    | mix wm d x3 hd =>
      obtain ⟨bl, off, rfl, hbl, hc⟩ := hA (by simp)
      obtain ⟨u, a1, a2, _, _⟩ := hc 0 _ rfl
      rw [Nat.zero_mul, Nat.add_zero] at a1 a2
      simp only [List.length_cons, List.length_nil, Nat.zero_add, Nat.reduceAdd] at hcap H ⊢
      have q1 := fun w' L (S' : St w0 w' L) => (S'.below.cell (p := ⟨bl, off, none⟩) hbl).trans a1
      have q2 := fun w' L (S' : St w0 w' L) => (S'.below.cell (p := ⟨bl, off + 1, none⟩) hbl).trans a2
      simp only [Ly.sides] at hz
      clear hok hd hc hA a1 a2
      by_cases hf : wm.r = c
      · rw [if_pos hf] at hz
        injection hz with h1 h2
        subst h1; subst h2; subst hf
        obtain ⟨L, HL, S⟩ := st_start w0; have F : True := trivial
        go_enter Tryz.func124, Tryz.ntmps124
        go_upto_region 3 with (first | (refine qbx HL S ?_; clear F S HL; intro g w L HL S F) | (go_at_call 123; refine qGr S (C_spec_LayerValid _ 3 [wm, d, x3] true _ (by exact H.out.at_ S) (by exact HO.out)) ?_; clear S; intro w S))
        have f1 := fun w' (S' : St w0 w' L) => q1 w' L S'
        have f2 := fun w' (S' : St w0 w' L) => q2 w' L S'
        go_wp2
        refine ret2 rfl (show _ = _ from rfl) (show _ = _ from rfl) rfl ?_
        exact ⟨rfl, S.below⟩
      · rw [if_neg hf] at hz
        injection hz with h1 h2
        subst h1; subst h2
        have e1 := bne_of hf
        obtain ⟨L, HL, S⟩ := st_start w0; have F : True := trivial
        go_enter Tryz.func124, Tryz.ntmps124
        go_upto_region 3 with (first | (refine qbx HL S ?_; clear F S HL; intro g w L HL S F) | (go_at_call 123; refine qGr S (C_spec_LayerValid _ 3 [wm, d, x3] true _ (by exact H.out.at_ S) (by exact HO.out)) ?_; clear S; intro w S))
        have f1 := fun w' (S' : St w0 w' L) => q1 w' L S'
        have f2 := fun w' (S' : St w0 w' L) => q2 w' L S'
        go_wp2
        refine ret2 rfl (show _ = _ from rfl) (show _ = _ from rfl) rfl ?_
        exact ⟨rfl, S.below⟩
theorem l16_some {l : Ly} {r c a b : Int} (hr : 1 ≤ r ∧ r ≤ 5) (hc : 1 ≤ c ∧ c ≤ 5) (h : l16 l r c = (a, b)) :
    (a = 0 ∧ (l.ok = false ∨ l.sides r c = none)) ∨ (l.ok = true ∧ l.sides r c = some (a, b) ∧ (1 ≤ a ∧ a ≤ 5) ∧ 1 ≤ b ∧ b ≤ 5) := by
  unfold l16 at h
  cases hok : l.ok with
  | false =>
    rw [hok] at h
    injection h with h1 h2
    exact .inl ⟨h1.symm, .inl rfl⟩
  | true =>
    rw [hok, if_pos rfl] at h
    cases hs : l.sides r c with
    | none =>
      rw [hs] at h
      injection h with h1 h2
      exact .inl ⟨h1.symm, .inr rfl⟩
    | some x =>
      rw [hs] at h
      obtain rfl : x = (a, b) := h
      exact .inr ⟨rfl, rfl, Ly.sides_ok hok hr hc hs⟩
theorem C_spec_NetSides (v : Value) (ls : List Ly) (r c : Int) (z : Option (Int × Int)) (w0 : World) (h : SeesLs w0 v ls) (hz : netSides ls r c = z) :
    Calls Tryz.prog 79 #[v, .int .i64 r, .int .i64 c] w0 fun e w' => e = .returned (sidesRes z) ∧ Below w0.heap.size w0 w' := by
  obtain ⟨A, cap, rfl, hcap, hmax, hA⟩ := h
  obtain ⟨n, hn⟩ : ∃ n, ls.length = n := ⟨_, rfl⟩
  have hz' : (if decide (ls.length ≤ 4) && sideOk r && sideOk c then sidesFrom ls r c else none) = z := hz
  rw [hn] at hcap hA hz' ⊢
  have HN := Lib.hid hn
  have HA := Lib.hid hA
  clear hz hn hA
  unfold maxLen at hmax
  by_cases h4 : n ≤ 4
  · rw [decide_eq_true h4, Bool.true_and] at hz'
    cases h1 : sideOk r with
    | false =>
      obtain rfl : z = none := by rw [← hz', h1]; simp
      clear hz' HA
      obtain ⟨L, HL, S⟩ := st_start w0; have F : True := trivial
      go_enter Tryz.func79, Tryz.ntmps79
      go_wp2_with (first | (refine qbx HL S ?_; clear F S HL; intro g w L HL S F)  | (refine qst HL S 0 ?_; clear F S HL; intro w L HL S F) | (refine qst HL S 1 ?_; clear F S HL; intro w L HL S F) | (refine qst HL S 2 ?_; clear F S HL; intro w L HL S F) | (refine qst HL S 3 ?_; clear F S HL; intro w L HL S F)  | (go_at_call 44; refine qPu (C_in5 _ _ _ (by exact h1)) ?_))
      refine ret3 rfl (show _ = _ from rfl) (show _ = _ from rfl) (show _ = _ from rfl) rfl ?_
      exact ⟨rfl, S.below⟩
    | true =>
      cases h2 : sideOk c with
      | false =>
        obtain rfl : z = none := by rw [← hz', h2]; simp
        clear hz' HA
        obtain ⟨L, HL, S⟩ := st_start w0; have F : True := trivial
        go_enter Tryz.func79, Tryz.ntmps79
        go_wp2_with (first | (refine qbx HL S ?_; clear F S HL; intro g w L HL S F)  | (refine qst HL S 0 ?_; clear F S HL; intro w L HL S F) | (refine qst HL S 1 ?_; clear F S HL; intro w L HL S F) | (refine qst HL S 2 ?_; clear F S HL; intro w L HL S F) | (refine qst HL S 3 ?_; clear F S HL; intro w L HL S F)  | (go_at_call 44; refine qPu (C_in5 _ _ _ (by first | exact h1 | exact h2)) ?_))
        refine ret3 rfl (show _ = _ from rfl) (show _ = _ from rfl) (show _ = _ from rfl) rfl ?_
        exact ⟨rfl, S.below⟩
      | true =>
        rw [h1, h2, Bool.and_true, if_pos rfl] at hz'
        have q1 := sideOk_iff.1 h1
        have q2 := sideOk_iff.1 h2
        have H1 := Lib.hid h1
        have H2 := Lib.hid h2
        have HZ := Lib.hid hz'
        clear h1 h2 hz'
        obtain ⟨L, HL, S⟩ := st_start w0; have F : True := trivial
        go_enter Tryz.func79, Tryz.ntmps79
        go_wp2_with (first | (go_at_call 44; refine qPu (C_in5 _ _ _ (by first | exact H1.out | exact H2.out)) ?_))
        go_loopw [1, 2, 9] (fun r' c' i wr => ∃ (j : Nat) (r1 c1 : Int), j ≤ n ∧ i = .int .i64 j ∧ r' = .int .i64 r1 ∧ c' = .int .i64 c1 ∧ Hid ((1 ≤ r1 ∧ r1 ≤ 5) ∧ (1 ≤ c1 ∧ c1 ≤ 5) ∧ sidesFrom (ls.drop j) r1 c1 = z) ∧ St w0 wr L) (fun _ _ i _ => n - (intOf i).toNat)
        case atStart => exact ⟨0, r, c, Nat.zero_le _, rfl, rfl, rfl, Lib.hid ⟨q1, q2, HZ.out⟩, S⟩
        case round =>
          clear S HZ H1 H2
          obtain ⟨j, r1, c1, hj, rfl, rfl, rfl, HR, S⟩ := hrel
          by_cases hlt : j < n
          · obtain ⟨b2, off2, rfl, hb2, hc2⟩ := HA.out (by omega)
            obtain ⟨l, hl⟩ := some_at HN.out hlt
            obtain ⟨kind, ms⟩ := l
            obtain ⟨u, a1, a2, hu⟩ := hc2 j _ hl
            dsimp only at a1 a2 hu
            have HU := Lib.hid hu
            obtain ⟨Au, cu, rfl, hcu, hmu, _⟩ := hu
            have f1 := fun w' (S' : St w0 w' L) => (S'.below.cell (p := ⟨b2, off2 + j * 2, none⟩) hb2).trans a1
            have f2 := fun w' (S' : St w0 w' L) => (S'.below.cell (p := ⟨b2, off2 + j * 2 + 1, none⟩) hb2).trans a2
            obtain ⟨⟨r2, r3⟩, ⟨c2, c3⟩, hz⟩ := HR.out
            rw [drop_at hl] at hz
            unfold sidesFrom at hz
            obtain ⟨⟨a, b⟩, hab⟩ : ∃ x, l16 ⟨kind, ms⟩ r1 c1 = x := ⟨_, rfl⟩
            have HAB := Lib.hid hab
            have hx := l16_some ⟨r2, r3⟩ ⟨c2, c3⟩ hab
            clear hc2 a1 a2 hl hab HR
            rcases hx with ⟨rfl, hx⟩ | ⟨hok, hs, ha, hb⟩
            · obtain rfl : z = none := by
                rcases hx with hx | hx
                · rw [hx] at hz; exact hz.symm
                · rw [hx] at hz; rw [← hz]; split <;> rfl
              clear hz hx
              go_wp2_with (first | (go_at_call 124; refine qGr S (C_l16Sides _ kind ms _ _ 0 b _ (by exact HU.out.at_ S) HAB.out) ?_; clear S; intro w S))
              refine ret3 rfl (show _ = _ from rfl) (show _ = _ from rfl) (show _ = _ from rfl) rfl ?_
              exact ⟨rfl, S.below⟩
            · rw [if_pos hok, hs] at hz
              have HZ := Lib.hid hz
              have hne := bne_of (a := a) (b := 0) (by omega)
              obtain ⟨ha1, ha2⟩ := ha
              obtain ⟨hb1, hb3⟩ := hb
              clear hz hok hs
              go_wp2_with (first | (go_at_call 124; refine qGr S (C_l16Sides _ kind ms _ _ a b _ (by exact HU.out.at_ S) HAB.out) ?_; clear S; intro w S))
              go_roundw
              case rel => exact ⟨j + 1, a, b, by omega, by go_num, rfl, rfl, Lib.hid ⟨⟨ha1, ha2⟩, ⟨hb1, hb3⟩, HZ.out⟩, S⟩
              case measure => simp [intOf]; omega
          · obtain rfl : j = n := by omega
            obtain ⟨_, _, hz⟩ := HR.out
            rw [List.drop_of_length_le (Nat.le_of_eq HN.out)] at hz
            unfold sidesFrom at hz
            subst hz
            go_wp2
            refine ret3 rfl (show _ = _ from rfl) (show _ = _ from rfl) (show _ = _ from rfl) rfl ?_
            exact ⟨rfl, S.below⟩
  · obtain rfl : z = none := by rw [← hz', decide_eq_false h4]; simp
    clear hz' HA
    obtain ⟨L, HL, S⟩ := st_start w0; have F : True := trivial
    go_enter Tryz.func79, Tryz.ntmps79
    go_wp2_with (first | (refine qbx HL S ?_; clear F S HL; intro g w L HL S F)  | (refine qst HL S 0 ?_; clear F S HL; intro w L HL S F) | (refine qst HL S 1 ?_; clear F S HL; intro w L HL S F) | (refine qst HL S 2 ?_; clear F S HL; intro w L HL S F) | (refine qst HL S 3 ?_; clear F S HL; intro w L HL S F)  )
    refine ret3 rfl (show _ = _ from rfl) (show _ = _ from rfl) (show _ = _ from rfl) rfl ?_
    exact ⟨rfl, S.below⟩
end
section
theorem runOk_parts {ls : List SLy} {x : SMx} {s : Int} (h : runOk ls x s = true) :
    x.ok = true ∧ seedOk s = true ∧ joinRes ls = (true, ls.map joinLy) ∧ ls.length ≤ 4 ∧ ∃ p, netSides (ls.map joinLy) x.a.r x.a.c = some p := by
  simp only [runOk, Bool.and_eq_true] at h
  obtain ⟨⟨⟨h1, h2⟩, h3⟩, h4⟩ := h
  have hj : joinRes ls = (true, ls.map joinLy) ∧ ls.length ≤ 4 := by
    unfold joinRes at h1 ⊢
    split
    · rename_i hc
      rw [Bool.and_eq_true, decide_eq_true_eq] at hc
      exact ⟨rfl, hc.1⟩
    · rename_i hc
      rw [if_neg hc] at h1
      cases h1
  rw [hj.1] at h4
  obtain ⟨p, hp⟩ := Option.isSome_iff_exists.1 h4
  exact ⟨h2, h3, hj.1, hj.2, p, hp⟩
theorem runS_if {ls : List SLy} {x : SMx} {s : Int} (h : runOk ls x s = true) : runS ls x s = runFromS ls x s := by
  unfold runS
  rw [if_pos h]
theorem runS_law {ls : List SLy} {x : SMx} {s : Int} (h : runOk ls x s = true) : Good (runS ls x s) (runPlain (ls.map joinLy) (joinMx x)) (netNeeds (ls.map joinLy) x.a.r x.a.c).o := by
  obtain ⟨hx, hs, _, h4, p, hp⟩ := runOk_parts h
  obtain ⟨_, _, _, hf⟩ := sides_some hp
  obtain ⟨jx0, jx1, jx2, _⟩ := join_smx hx
  have g := runFromS_good ls x s p hx hs hf
  unfold runS
  rw [if_pos h]
  refine ⟨g.ok, ?_, g.seed, ?_⟩
  · rw [g.join]
    unfold runPlain
    rw [jx0, jx1, jx2, hp]
    rfl
  · rw [g.len]
    unfold netNeeds
    rw [hp]
end
end Go.Proofs.YtjgfjfjboimgdaaGreat
