/-
  Contracts: the layers of a network, in a row of the call's own.
-/
import Derived.Test.YtdfpceobfficfaaLyX
namespace Go.Proofs.Ytdfpceobfficfaa
set_option linter.unusedSimpArgs false
set_option linter.unusedVariables false
set_option linter.unusedSectionVars false
open Go Go.RowKit
set_option maxHeartbeats 8000000
set_option maxRecDepth 20000
/-- The layers of a network: a row of values that stand for them; none if b is false. -/
def LayersOwn (ls : List Ly) (b : Bool) (wb w0 : World) (e : Ending) (w' : World) : Prop :=
  ∃ (u : Value) (cs : List Value), e = .returned (.tuple #[u, .bool b]) ∧ (b = true → cs.length = ls.length) ∧ (b = false → cs.length = 0) ∧ (∀ (q : Nat) (l : Ly) (x : Value), ls[q]? = some l → cs[q]? = some x → IfLy wb x l) ∧ St w0 w' [.row 72 1 u cs.length cs]
theorem C_layersOfOwn (v : Value) (ls : List Ly) (b : Bool) (wb w0 : World) (hbw : Below wb.heap.size wb w0) (h : SeesLs wb v ls) (hb : (decide (ls.length ≤ 4) && ls.all Ly.ok) = b) :
    Calls Try.prog 44 #[v] w0 (LayersOwn ls b wb w0) := by
  obtain ⟨A, cap, rfl, hcap, hmax, hA⟩ := h
  obtain ⟨n, hn⟩ : ∃ n, ls.length = n := ⟨_, rfl⟩
  rw [hn] at hcap hA hb ⊢
  have HN := Lib.hid hn
  have HA := Lib.hid hA
  obtain ⟨p, hp, hall, hbad, hnone⟩ := first_bad Ly.ok ls
  rw [hn] at hp hnone
  have HALL := Lib.hid hall
  have HBAD := Lib.hid hbad
  have HNONE := Lib.hid hnone
  clear hA hn hall hbad hnone
  unfold maxLen at hmax
  by_cases h4 : n ≤ 4
  · rw [decide_eq_true h4, Bool.true_and] at hb
    have HBL := Lib.hid hb
    clear hb
    obtain ⟨L, HL, S⟩ := st_start w0; have F : True := trivial
    go_enter Try.func44, Try.ntmps44
    go_upto_region 4 with (at_make; refine wpList_make rfl S _ _ _ rfl 72 _ 1 16 Try.underlying77 infoIf _ n rfl rfl rfl (by omega) (by simp only [maxLen]; omega) ?_; intro g w L hM T; clear F S; (try rw [HL.out] at hM); clear HL; (try simp [Act.put, Act.eval, Value.cells, splice] at hM); have HL := Lib.hid hM; clear hM; have S := T; clear T; have F := factsAll HL S; (try simp only [factsOf, cellsFrom, and_true, true_and, Nat.reduceAdd] at F))
    obtain ⟨Z, hZ⟩ : ∃ Z, Z = (madeCells #[Value.nilIface] n).toList := ⟨_, rfl⟩

    rw [← hZ] at HL
    have hZl : Z.length = n := by rw [hZ]; simp [madeCells]
    have HZ := Lib.hid hZl
    clear hZ hZl
    go_wp2
    go_loopw [17] (fun i wr => ∃ (j : Nat) (cs : List Value) (L : List Ent), j ≤ p ∧ i = .int .i64 j ∧ Hid (cs.length = j) ∧ Hid (∀ (q : Nat) (l : Ly) (x : Value), ls[q]? = some l → cs[q]? = some x → IfLy wb x l) ∧ Hid (L = [.row 72 1 (.slice (some ⟨g, 0, none⟩) n n) n (cs ++ Z.drop j)]) ∧ St w0 wr L) (fun i _ => n - (intOf i).toNat)
    case atStart => exact ⟨0, [], L, Nat.zero_le _, rfl, Lib.hid rfl, Lib.hid (fun q l x _ h => by simp at h), HL, S⟩
    case round =>
      clear F HL S
      obtain ⟨j, cs, L, hj, rfl, HCS, HIF, HL, S⟩ := hrel
      have F : True := trivial
      by_cases hlt : j < n
      · obtain ⟨bl, off, rfl, hbl0, hc⟩ := HA.out (by omega)
        have hbl := Nat.lt_of_lt_of_le hbl0 hbw.size
        obtain ⟨l, hm⟩ := some_at HN.out hlt
        obtain ⟨u, c1, c2, hu⟩ := hc j _ hm
        replace c1 := (hbw.cell (p := ⟨bl, off + j * 2, none⟩) hbl0).trans c1
        replace c2 := (hbw.cell (p := ⟨bl, off + j * 2 + 1, none⟩) hbl0).trans c2
        have HU := Lib.hid hu
        obtain ⟨A', cap', rfl, hcap', hmax', _⟩ := hu
        have f1 := fun w' (S' : St w0 w' L) => (S'.below.cell (p := ⟨bl, off + j * 2, none⟩) hbl).trans c1
        have f2 := fun w' (S' : St w0 w' L) => (S'.below.cell (p := ⟨bl, off + j * 2 + 1, none⟩) hbl).trans c2
        have HM := Lib.hid hm
        clear hc c1 c2 hm
        go_upto_region 7 with (first | (refine wpList_alloc rfl S 33 _ rfl zLy ?_; intro g w L hM T; clear F S; (try rw [HL.out] at hM); clear HL; (try simp [Act.put, Act.eval, Value.cells, splice] at hM); have HL := Lib.hid hM; clear hM; have S := T; clear T; have F := factsAll HL S; (try simp only [factsOf, cellsFrom, and_true, true_and, Nat.reduceAdd] at F)) | (refine wpList_store_box rfl S _ _ _ rfl 0 _ _ _ _ (atOf HL rfl) rfl _ rfl (by kernel_rfl) rfl rfl ?_; intro w L hM T; clear F S; (try rw [HL.out] at hM); clear HL; (try simp [Act.put, Act.eval, Value.cells, splice] at hM); have HL := Lib.hid hM; clear hM; have S := T; clear T; have F := factsAll HL S; (try simp only [factsOf, cellsFrom, and_true, true_and, Nat.reduceAdd] at F)))
        by_cases hjp : j < p
        · have hok := HALL.out j l hjp HM.out
          go_upto_region 10 with (first | (go_at_call 41; refine (C_layerOf _ l true wb _ (hbw.trans (S.below.mono hbw.size)) HU.out hok).mono ?_; rintro e w ⟨x, rfl, hx0, hb⟩; have hx := hx0 rfl; clear hx0; replace S := S.grow hb; clear hb))
          obtain ⟨ti, y, rfl⟩ := hx.iface
          have HX := Lib.hid hx
          clear hx
          go_wp2_with (first | (refine wpList_store_rowS rfl S _ _ _ rfl 1 _ _ _ _ _ _ _ (atOf HL rfl) rfl ([.iface ti y]) rfl (by kernel_rfl) rfl (show _ + 1 ≤ _ from by omega) ?_; intro w L hM T; clear F S; (try rw [HL.out] at hM); clear HL; (try simp [Act.put, Act.eval, Value.cells] at hM); have HL := Lib.hid hM; clear hM; have S := T; clear T; have F := factsAll HL S; (try simp only [factsOf, cellsFrom, and_true, true_and, Nat.reduceAdd] at F)))
          go_roundw
          case rel =>
            rw [HL.out] at S
            have T := S.sub (.cons _ (.refl _))
            rw [splice_app _ _ _ _ HCS.out, List.drop_drop] at T
            refine ⟨j + 1, cs ++ [.iface ti y], _, by omega, by go_num, Lib.hid (by rw [List.length_append, HCS.out]; rfl), Lib.hid (fun q l' x h1 h2 => ?_), Lib.hid rfl, T⟩
            rcases Nat.lt_or_ge q j with h3 | h3
            · rw [List.getElem?_append_left (by rw [HCS.out]; exact h3)] at h2
              exact HIF.out q l' x h1 h2
            · rw [List.getElem?_append_right (by rw [HCS.out]; exact h3), HCS.out] at h2
              have h4 : q - j < 1 := (List.getElem?_eq_some_iff.1 h2).1
              obtain rfl : q = j := by omega
              simp at h2
              subst h2
              rw [HM.out] at h1
              injection h1 with h1
              subst h1
              exact HX.out
          case measure => simp [intOf]; omega
        · obtain rfl : j = p := by omega
          obtain ⟨hg, hg2⟩ := HBAD.out _ HM.out
          obtain rfl : b = false := HBL.out.symm.trans hg2
          clear hg2
          go_wp2_with (first | (go_at_call 41; refine (C_layerOf _ l false wb _ (hbw.trans (S.below.mono hbw.size)) HU.out hg).mono ?_; rintro e w ⟨x, rfl, hx0, hb⟩; clear hx0; replace S := S.grow hb; clear hb))
          refine ret2 rfl (show _ = _ from rfl) (show _ = _ from rfl) rfl ?_
          exact ⟨_, [], rfl, fun h => absurd h (by simp), fun _ => rfl, fun q l x _ h => by simp at h, (S.nilRow 72 1).sub (.cons_cons _ (List.nil_sublist _))⟩
      · obtain rfl : j = n := by omega
        obtain rfl : p = j := by omega
        obtain rfl : b = true := HBL.out.symm.trans (HNONE.out rfl)
        go_wp2
        refine ret2 rfl (show _ = _ from rfl) (show _ = _ from rfl) rfl ?_
        rw [HL.out, List.drop_of_length_le (Nat.le_of_eq HZ.out), List.append_nil] at S
        have hcs := HCS.out
        refine ⟨_, cs, rfl, fun _ => hcs.trans HN.out.symm, fun h => absurd h (by simp), HIF.out, ?_⟩
        rw [hcs]
        exact S
  · rw [decide_eq_false h4, Bool.false_and] at hb
    subst hb
    clear HALL HBAD HNONE
    obtain ⟨L, HL, S⟩ := st_start w0; have F : True := trivial
    go_enter Try.func44, Try.ntmps44
    go_wp2_with (first | (refine wpList_box rfl S _ _ rfl ?_; intro g w L hM T; clear F S; (try rw [HL.out] at hM); clear HL; (try simp [Act.put, Act.eval, Value.cells, splice] at hM); have HL := Lib.hid hM; clear hM; have S := T; clear T; have F := factsAll HL S; (try simp only [factsOf, cellsFrom, and_true, true_and, Nat.reduceAdd] at F))  | (refine wpList_store_box rfl S _ _ _ rfl 0 _ _ _ _ (atOf HL rfl) rfl _ rfl (by kernel_rfl) rfl rfl ?_; intro w L hM T; clear F S; (try rw [HL.out] at hM); clear HL; (try simp [Act.put, Act.eval, Value.cells, splice] at hM); have HL := Lib.hid hM; clear hM; have S := T; clear T; have F := factsAll HL S; (try simp only [factsOf, cellsFrom, and_true, true_and, Nat.reduceAdd] at F)) | (refine wpList_store_box rfl S _ _ _ rfl 1 _ _ _ _ (atOf HL rfl) rfl _ rfl (by kernel_rfl) rfl rfl ?_; intro w L hM T; clear F S; (try rw [HL.out] at hM); clear HL; (try simp [Act.put, Act.eval, Value.cells, splice] at hM); have HL := Lib.hid hM; clear hM; have S := T; clear T; have F := factsAll HL S; (try simp only [factsOf, cellsFrom, and_true, true_and, Nat.reduceAdd] at F)) | (refine wpList_store_box rfl S _ _ _ rfl 2 _ _ _ _ (atOf HL rfl) rfl _ rfl (by kernel_rfl) rfl rfl ?_; intro w L hM T; clear F S; (try rw [HL.out] at hM); clear HL; (try simp [Act.put, Act.eval, Value.cells, splice] at hM); have HL := Lib.hid hM; clear hM; have S := T; clear T; have F := factsAll HL S; (try simp only [factsOf, cellsFrom, and_true, true_and, Nat.reduceAdd] at F)) | (refine wpList_store_box rfl S _ _ _ rfl 3 _ _ _ _ (atOf HL rfl) rfl _ rfl (by kernel_rfl) rfl rfl ?_; intro w L hM T; clear F S; (try rw [HL.out] at hM); clear HL; (try simp [Act.put, Act.eval, Value.cells, splice] at hM); have HL := Lib.hid hM; clear hM; have S := T; clear T; have F := factsAll HL S; (try simp only [factsOf, cellsFrom, and_true, true_and, Nat.reduceAdd] at F))  )
    refine ret2 rfl (show _ = _ from rfl) (show _ = _ from rfl) rfl ?_
    exact ⟨_, [], rfl, fun h => absurd h (by simp), fun _ => rfl, fun q l x _ h => by simp at h, (S.nilRow 72 1).sub (.cons_cons _ (List.nil_sublist _))⟩
end Go.Proofs.Ytdfpceobfficfaa
