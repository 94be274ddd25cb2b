/-
  Contracts on messages.
-/
import Derived.Test.YtdgeiooacghcoaaRow
import Derived.Test.YtdgeiooacghcoaaRing
import Derived.Test.YtdgeiooacghcoaaPureM
namespace Go.Proofs.Ytdgeiooacghcoaa
set_option linter.unusedSimpArgs false
set_option linter.unusedVariables false
set_option linter.unusedSectionVars false
open Go Go.RowKit
set_option maxHeartbeats 8000000

theorem zMsg : (Try.prog.info? 99).bind (·.zero) = some (.agg #[.int .i64 0, .int .i64 0, .int .i64 0]) := by kernel_rfl
theorem infoMsg : (Try.prog.info? 99).map (fun i => (i.zero, i.size, i.bytes)) = some (some (.agg #[.int .i64 0, .int .i64 0, .int .i64 0]), 3, 24) := by kernel_rfl
/-- Messages, flat, in memory. -/
def Msgs (w : World) (v : Value) (n : Nat) (zs : List Int) : Prop := zs.length = n * 3 ∧ Sees w 3 v n (ints zs)
def MakesMsgs (w0 : World) (n : Nat) (zs : List Int) (e : Ending) (w : World) : Prop := ∃ u, e = .returned u ∧ St w0 w [.row 99 3 u n (ints zs)]
theorem C_impl_roundValid (r : Int) (w0 : World) : Calls Try.prog 79 #[.int .i64 r] w0 fun e w' => e = .returned (.bool (rnd r)) ∧ w0 = w' := by
  by_cases h : 0 ≤ r
  · go_enter Try.func79, Try.ntmps79
    go_wp2
    go_ret
    exact ⟨by simp [rnd, h], rfl⟩
  · go_enter Try.func79, Try.ntmps79
    go_wp2
    go_ret
    exact ⟨by simp [rnd]; omega, rfl⟩
theorem C_impl_MessagesValid (v : Value) (n : Nat) (zs : List Int) (w0 : World) (h : Msgs w0 v n zs) :
    Calls Try.prog 23 #[v] w0 fun e w' => e = .returned (.bool (msgsOk n zs)) ∧ Below w0.heap.size w0 w' := by
  obtain ⟨hx, hl, A, cap, rfl, hcap, hmax, hA⟩ := h
  have HX := Lib.hid hx
  have HA := Lib.hid hA
  clear hl hA hx
  unfold maxLen at hmax
  by_cases hbig : n > 2000
  · have e : msgsOk n zs = false := by unfold msgsOk; rw [decide_eq_false (by omega : ¬ n ≤ 2000)]; simp
    rw [e]
    clear e
    obtain ⟨L, HL, S⟩ := st_start w0; have F : True := trivial
    go_enter Try.func23, Try.ntmps23
    go_wp2
    go_ret
    exact ⟨rfl, S.below⟩
  by_cases hodd : n % 2 = 1
  · have e : msgsOk n zs = false := by unfold msgsOk; rw [decide_eq_false (by omega : ¬ n % 2 = 0)]; simp
    rw [e]
    clear e
    have ho : ((n : Int) % 2 != 0) = true := by rw [bne_iff_ne]; omega
    obtain ⟨L, HL, S⟩ := st_start w0; have F : True := trivial
    go_enter Try.func23, Try.ntmps23
    go_wp2
    go_ret
    exact ⟨rfl, S.below⟩
  have ho : ((n : Int) % 2 != 0) = false := by
    have : (n : Int) % 2 = 0 := by omega
    rw [this]; rfl
  have hgood : (∀ k, k < n → mOk zs k = true) → msgsOk n zs = true := fun h => by
    rw [msgsOk_good h, decide_eq_true (by omega : n % 2 = 0), decide_eq_true (by omega : n ≤ 2000)]; rfl
  have HG := Lib.hid hgood
  clear hgood
  obtain ⟨L, HL, S⟩ := st_start w0; have F : True := trivial
  go_enter Try.func23, Try.ntmps23
  go_wp2
  go_loopw [3, 17] (fun l i wr => ∃ (k : Nat), k ≤ n ∧ i = .int .i64 k ∧ l = .int .i64 (lat zs k) ∧ Hid (∀ j, j < k → mOk zs j = true) ∧ St w0 wr []) (fun _ i _ => n - (intOf i).toNat)
  case atStart => exact ⟨0, Nat.zero_le _, rfl, rfl, Lib.hid (fun j hj => absurd hj (by omega)), by rw [HL.out] at S; exact S⟩
  case round =>
    clear F HL S
    obtain ⟨k, hk, rfl, rfl, hall, S⟩ := hrel
    by_cases hlt : k < n
    · obtain ⟨L, HL⟩ : ∃ L : List Ent, Hid (L = []) := ⟨_, Lib.hid rfl⟩
      rw [← HL.out] at S
      have F : True := trivial
      obtain ⟨b, off, rfl, hb, hc⟩ := HA.out (by omega)
      have hcc : ∀ j i u, (ints zs)[j + i]? = some u → w0.cell? ⟨b, off + j + i, none⟩ = some u := fun j i u h => by rw [Nat.add_assoc]; exact hc _ _ h
      have q : k * 3 + 3 ≤ zs.length := by rw [HX.out]; omega
      have c0 := (S.below.cell (p := ⟨b, off + k * 3, none⟩) hb).trans (hc (k * 3) _ (ints_getD zs (k * 3) (by omega)))
      have c1 := (S.below.cell (p := ⟨b, off + k * 3 + 1, none⟩) hb).trans (hcc (k * 3) 1 _ (ints_getD zs (k * 3 + 1) (by omega)))
      have c2 := (S.below.cell (p := ⟨b, off + k * 3 + 2, none⟩) hb).trans (hcc (k * 3) 2 _ (ints_getD zs (k * 3 + 2) (by omega)))
      clear hc hcc q
      have hm : mOk zs k = (rnd (mR zs k) && rv (mV zs k) && decide (mF zs k = 1 + (k : Int) % 2) && !decide (mR zs k < lat zs k) && !(decide (k % 2 = 1) && decide (mR zs k ≠ lat zs k))) := rfl
      have hl1 : lat zs (k + 1) = mR zs k := rfl
      rw [show zs.getD (k * 3) 0 = mR zs k from rfl] at c0
      rw [show zs.getD (k * 3 + 1) 0 = mF zs k from rfl] at c1
      rw [show zs.getD (k * 3 + 2) 0 = mV zs k from rfl] at c2
      generalize mR zs k = r at c0 hm hl1
      generalize mF zs k = f at c1 hm
      generalize mV zs k = x at c2 hm
      generalize lat zs k = l at hm ⊢
      have HM := Lib.hid hm
      have HL1 := Lib.hid hl1
      clear hm hl1
      cases a1 : rnd r with
      | false =>
        have hbad : mOk zs k = false := by rw [HM.out]; simp [a1]
        have e := msgsOk_bad hlt hbad
        have EE := Lib.hid e
        clear e hbad
        go_wp2_with (first | (refine wpList_alloc rfl S 99 _ rfl zMsg ?_; intro g w L hM T; clear F S; (try rw [HL.out] at hM); clear HL; (try simp [Act.put, Act.eval, Value.cells, splice] at hM); have HL := Lib.hid hM; clear hM; have S := T; clear T; have F := factsAll HL S; (try simp only [factsOf, cellsFrom, and_true, true_and, Nat.reduceAdd] at F)) | (refine wpList_store_box rfl S _ _ _ rfl 0 _ _ _ _ (atOf HL rfl) rfl _ rfl (by kernel_rfl) rfl rfl ?_; intro w L hM T; clear F S; (try rw [HL.out] at hM); clear HL; (try simp [Act.put, Act.eval, Value.cells, splice] at hM); have HL := Lib.hid hM; clear hM; have S := T; clear T; have F := factsAll HL S; (try simp only [factsOf, cellsFrom, and_true, true_and, Nat.reduceAdd] at F)) | (go_at_call 77; refine (C_impl_RingValid _ _).mono ?_; rintro e w' ⟨rfl, rfl⟩) | (go_at_call 79; refine (C_impl_roundValid _ _).mono ?_; rintro e w' ⟨rfl, rfl⟩))
        go_ret
        exact ⟨by rw [EE.out]; rfl, S.below⟩
      | true =>
        by_cases a2 : r < l
        · have hbad : mOk zs k = false := by rw [HM.out]; simp [a2]
          have e := msgsOk_bad hlt hbad
          have EE := Lib.hid e
          clear e hbad
          go_wp2_with (first | (refine wpList_alloc rfl S 99 _ rfl zMsg ?_; intro g w L hM T; clear F S; (try rw [HL.out] at hM); clear HL; (try simp [Act.put, Act.eval, Value.cells, splice] at hM); have HL := Lib.hid hM; clear hM; have S := T; clear T; have F := factsAll HL S; (try simp only [factsOf, cellsFrom, and_true, true_and, Nat.reduceAdd] at F)) | (refine wpList_store_box rfl S _ _ _ rfl 0 _ _ _ _ (atOf HL rfl) rfl _ rfl (by kernel_rfl) rfl rfl ?_; intro w L hM T; clear F S; (try rw [HL.out] at hM); clear HL; (try simp [Act.put, Act.eval, Value.cells, splice] at hM); have HL := Lib.hid hM; clear hM; have S := T; clear T; have F := factsAll HL S; (try simp only [factsOf, cellsFrom, and_true, true_and, Nat.reduceAdd] at F)) | (go_at_call 77; refine (C_impl_RingValid _ _).mono ?_; rintro e w' ⟨rfl, rfl⟩) | (go_at_call 79; refine (C_impl_roundValid _ _).mono ?_; rintro e w' ⟨rfl, rfl⟩))
          go_ret
          exact ⟨by rw [EE.out]; rfl, S.below⟩
        by_cases a3 : f = 1 + (k : Int) % 2
        rotate_left
        · have a3' : (f != 1 + (k : Int) % 2) = true := by rw [bne_iff_ne]; exact a3
          have hbad : mOk zs k = false := by rw [HM.out]; simp [a3]
          have e := msgsOk_bad hlt hbad
          have EE := Lib.hid e
          clear e hbad
          go_wp2_with (first | (refine wpList_alloc rfl S 99 _ rfl zMsg ?_; intro g w L hM T; clear F S; (try rw [HL.out] at hM); clear HL; (try simp [Act.put, Act.eval, Value.cells, splice] at hM); have HL := Lib.hid hM; clear hM; have S := T; clear T; have F := factsAll HL S; (try simp only [factsOf, cellsFrom, and_true, true_and, Nat.reduceAdd] at F)) | (refine wpList_store_box rfl S _ _ _ rfl 0 _ _ _ _ (atOf HL rfl) rfl _ rfl (by kernel_rfl) rfl rfl ?_; intro w L hM T; clear F S; (try rw [HL.out] at hM); clear HL; (try simp [Act.put, Act.eval, Value.cells, splice] at hM); have HL := Lib.hid hM; clear hM; have S := T; clear T; have F := factsAll HL S; (try simp only [factsOf, cellsFrom, and_true, true_and, Nat.reduceAdd] at F)) | (go_at_call 77; refine (C_impl_RingValid _ _).mono ?_; rintro e w' ⟨rfl, rfl⟩) | (go_at_call 79; refine (C_impl_roundValid _ _).mono ?_; rintro e w' ⟨rfl, rfl⟩))
          go_ret
          exact ⟨by rw [EE.out]; rfl, S.below⟩
        have a3' : (f != 1 + (k : Int) % 2) = false := by rw [a3]; exact bne_self_eq_false _
        cases a4 : rv x with
        | false =>
          have hbad : mOk zs k = false := by rw [HM.out]; simp [a4]
          have e := msgsOk_bad hlt hbad
          have EE := Lib.hid e
          clear e hbad
          go_wp2_with (first | (refine wpList_alloc rfl S 99 _ rfl zMsg ?_; intro g w L hM T; clear F S; (try rw [HL.out] at hM); clear HL; (try simp [Act.put, Act.eval, Value.cells, splice] at hM); have HL := Lib.hid hM; clear hM; have S := T; clear T; have F := factsAll HL S; (try simp only [factsOf, cellsFrom, and_true, true_and, Nat.reduceAdd] at F)) | (refine wpList_store_box rfl S _ _ _ rfl 0 _ _ _ _ (atOf HL rfl) rfl _ rfl (by kernel_rfl) rfl rfl ?_; intro w L hM T; clear F S; (try rw [HL.out] at hM); clear HL; (try simp [Act.put, Act.eval, Value.cells, splice] at hM); have HL := Lib.hid hM; clear hM; have S := T; clear T; have F := factsAll HL S; (try simp only [factsOf, cellsFrom, and_true, true_and, Nat.reduceAdd] at F)) | (go_at_call 77; refine (C_impl_RingValid _ _).mono ?_; rintro e w' ⟨rfl, rfl⟩) | (go_at_call 79; refine (C_impl_roundValid _ _).mono ?_; rintro e w' ⟨rfl, rfl⟩))
          go_ret
          exact ⟨by rw [EE.out]; rfl, S.below⟩
        | true =>
          by_cases a5 : k % 2 = 1
          · have f2 : (f == 2) = true := by rw [beq_iff_eq]; omega
            by_cases a6 : r = l
            · have a6' : (r != l) = false := by rw [a6]; exact bne_self_eq_false _
              have HA3 := Lib.hid a3
              have HA6 := Lib.hid a6
              have hok : mOk zs k = true := by rw [HM.out]; subst a6; simp [a1, a2, a3, a4]
              have HOK := Lib.hid hok
              clear hok a3 a6
              go_wp2_with (first | (refine wpList_alloc rfl S 99 _ rfl zMsg ?_; intro g w L hM T; clear F S; (try rw [HL.out] at hM); clear HL; (try simp [Act.put, Act.eval, Value.cells, splice] at hM); have HL := Lib.hid hM; clear hM; have S := T; clear T; have F := factsAll HL S; (try simp only [factsOf, cellsFrom, and_true, true_and, Nat.reduceAdd] at F)) | (refine wpList_store_box rfl S _ _ _ rfl 0 _ _ _ _ (atOf HL rfl) rfl _ rfl (by kernel_rfl) rfl rfl ?_; intro w L hM T; clear F S; (try rw [HL.out] at hM); clear HL; (try simp [Act.put, Act.eval, Value.cells, splice] at hM); have HL := Lib.hid hM; clear hM; have S := T; clear T; have F := factsAll HL S; (try simp only [factsOf, cellsFrom, and_true, true_and, Nat.reduceAdd] at F)) | (go_at_call 77; refine (C_impl_RingValid _ _).mono ?_; rintro e w' ⟨rfl, rfl⟩) | (go_at_call 79; refine (C_impl_roundValid _ _).mono ?_; rintro e w' ⟨rfl, rfl⟩))
              go_roundw
              case rel =>
                refine ⟨k + 1, by omega, by go_num, by rw [HL1.out], Lib.hid (fun j hj => ?_), S.sub (List.nil_sublist _)⟩
                rcases Nat.lt_or_ge j k with h | h
                · exact hall.out j h
                · obtain rfl : j = k := by omega
                  exact HOK.out
              case measure => simp [intOf]; omega
            · have a6' : (r != l) = true := by rw [bne_iff_ne]; exact a6
              have hbad : mOk zs k = false := by rw [HM.out]; simp [a5, a6]
              have e := msgsOk_bad hlt hbad
              have EE := Lib.hid e
              clear e hbad
              go_wp2_with (first | (refine wpList_alloc rfl S 99 _ rfl zMsg ?_; intro g w L hM T; clear F S; (try rw [HL.out] at hM); clear HL; (try simp [Act.put, Act.eval, Value.cells, splice] at hM); have HL := Lib.hid hM; clear hM; have S := T; clear T; have F := factsAll HL S; (try simp only [factsOf, cellsFrom, and_true, true_and, Nat.reduceAdd] at F)) | (refine wpList_store_box rfl S _ _ _ rfl 0 _ _ _ _ (atOf HL rfl) rfl _ rfl (by kernel_rfl) rfl rfl ?_; intro w L hM T; clear F S; (try rw [HL.out] at hM); clear HL; (try simp [Act.put, Act.eval, Value.cells, splice] at hM); have HL := Lib.hid hM; clear hM; have S := T; clear T; have F := factsAll HL S; (try simp only [factsOf, cellsFrom, and_true, true_and, Nat.reduceAdd] at F)) | (go_at_call 77; refine (C_impl_RingValid _ _).mono ?_; rintro e w' ⟨rfl, rfl⟩) | (go_at_call 79; refine (C_impl_roundValid _ _).mono ?_; rintro e w' ⟨rfl, rfl⟩))
              go_ret
              exact ⟨by rw [EE.out]; rfl, S.below⟩
          · have f2 : (f == 2) = false := by rw [beq_eq_false_iff_ne]; omega
            have hok : mOk zs k = true := by rw [HM.out]; simp [a1, a2, a3, a4, a5]
            have HOK := Lib.hid hok
            clear hok a3
            go_wp2_with (first | (refine wpList_alloc rfl S 99 _ rfl zMsg ?_; intro g w L hM T; clear F S; (try rw [HL.out] at hM); clear HL; (try simp [Act.put, Act.eval, Value.cells, splice] at hM); have HL := Lib.hid hM; clear hM; have S := T; clear T; have F := factsAll HL S; (try simp only [factsOf, cellsFrom, and_true, true_and, Nat.reduceAdd] at F)) | (refine wpList_store_box rfl S _ _ _ rfl 0 _ _ _ _ (atOf HL rfl) rfl _ rfl (by kernel_rfl) rfl rfl ?_; intro w L hM T; clear F S; (try rw [HL.out] at hM); clear HL; (try simp [Act.put, Act.eval, Value.cells, splice] at hM); have HL := Lib.hid hM; clear hM; have S := T; clear T; have F := factsAll HL S; (try simp only [factsOf, cellsFrom, and_true, true_and, Nat.reduceAdd] at F)) | (go_at_call 77; refine (C_impl_RingValid _ _).mono ?_; rintro e w' ⟨rfl, rfl⟩) | (go_at_call 79; refine (C_impl_roundValid _ _).mono ?_; rintro e w' ⟨rfl, rfl⟩))
            go_roundw
            case rel =>
              refine ⟨k + 1, by omega, by go_num, by rw [HL1.out], Lib.hid (fun j hj => ?_), S.sub (List.nil_sublist _)⟩
              rcases Nat.lt_or_ge j k with h | h
              · exact hall.out j h
              · obtain rfl : j = k := by omega
                exact HOK.out
            case measure => simp [intOf]; omega
    · obtain rfl : k = n := by omega
      go_wp2
      go_ret
      exact ⟨by rw [HG.out hall.out]; rfl, S.below⟩
end Go.Proofs.Ytdgeiooacghcoaa
