/-
  Contracts on messages.
-/
import Derived.Test.YtoekfgmjlnjflaaRow
import Derived.Test.YtoekfgmjlnjflaaRing
import Derived.Test.YtoekfgmjlnjflaaPureM
namespace Go.Proofs.Ytoekfgmjlnjflaa
set_option linter.unusedSimpArgs false
set_option linter.unusedVariables false
set_option linter.unusedSectionVars false
open Go Go.RowKit
set_option maxHeartbeats 8000000

theorem zMsg : (Try.prog.info? 75).bind (·.zero) = some (.agg #[.int .i64 0, .int .i64 0, .int .i64 0]) := by kernel_rfl
theorem infoMsg : (Try.prog.info? 75).map (fun i => (i.zero, i.size, i.bytes)) = some (some (.agg #[.int .i64 0, .int .i64 0, .int .i64 0]), 3, 24) := by kernel_rfl
/-- Messages, flat, in memory. -/
def Msgs (w : World) (v : Value) (n : Nat) (zs : List Int) : Prop := zs.length = n * 3 ∧ Sees w 3 v n (ints zs)
def MakesMsgs (w0 : World) (n : Nat) (zs : List Int) (e : Ending) (w : World) : Prop := ∃ u, e = .returned u ∧ St w0 w [.row 75 3 u n (ints zs)]
theorem C_szMessageS (A : Option Addr) (n cap : Nat) (k : Int) (w0 : World) (hn : n ≤ cap) (hc : cap ≤ maxLen) (hk : 0 ≤ k ∧ k ≤ 1000000000) :
    Calls Try.prog 25 #[.slice A n cap, .int .i64 k] w0 fun e w' => e = .returned (.int .i64 (if k - n < 0 then -1 else k - n)) ∧ w0 = w' := by
  obtain ⟨k1, k2⟩ := hk
  unfold maxLen at hc
  by_cases h : k - n < 0
  · rw [if_pos h]
    go_enter Try.func25, Try.ntmps25
    go_wp2
    go_ret
    exact ⟨rfl, rfl⟩
  · rw [if_neg h]
    go_enter Try.func25, Try.ntmps25
    go_wp2
    go_ret
    exact ⟨rfl, rfl⟩
theorem C_toMessage (a b c : Int) (w0 : World) : Calls Try.prog 55 #[.agg #[.int .i64 a, .int .i64 b, .int .i64 c]] w0 fun e w' => e = .returned (.agg #[.int .i64 a, .int .i64 b, .int .i64 c]) ∧ Below w0.heap.size w0 w' := by
  obtain ⟨L, HL, S⟩ := st_start w0; have F : True := trivial
  go_enter Try.func55, Try.ntmps55
  go_wp2_with (first | (refine wpList_box rfl S _ _ rfl ?_; intro g w L hM T; clear F S; (try rw [HL.out] at hM); clear HL; (try simp [Act.put, Act.eval, Value.cells, splice] at hM); have HL := Lib.hid hM; clear hM; have S := T; clear T; have F := factsAll HL S; (try simp only [factsOf, cellsFrom, and_true, true_and, Nat.reduceAdd] at F)) | (refine wpList_alloc rfl S 75 _ rfl zMsg ?_; intro g w L hM T; clear F S; (try rw [HL.out] at hM); clear HL; (try simp [Act.put, Act.eval, Value.cells, splice] at hM); have HL := Lib.hid hM; clear hM; have S := T; clear T; have F := factsAll HL S; (try simp only [factsOf, cellsFrom, and_true, true_and, Nat.reduceAdd] at F)) | (refine wpList_store_box rfl S _ _ _ rfl 0 _ _ _ _ (atOf HL rfl) rfl _ rfl (by kernel_rfl) rfl rfl ?_; intro w L hM T; clear F S; (try rw [HL.out] at hM); clear HL; (try simp [Act.put, Act.eval, Value.cells, splice] at hM); have HL := Lib.hid hM; clear hM; have S := T; clear T; have F := factsAll HL S; (try simp only [factsOf, cellsFrom, and_true, true_and, Nat.reduceAdd] at F)) | (refine wpList_store_box rfl S _ _ _ rfl 1 _ _ _ _ (atOf HL rfl) rfl _ rfl (by kernel_rfl) rfl rfl ?_; intro w L hM T; clear F S; (try rw [HL.out] at hM); clear HL; (try simp [Act.put, Act.eval, Value.cells, splice] at hM); have HL := Lib.hid hM; clear hM; have S := T; clear T; have F := factsAll HL S; (try simp only [factsOf, cellsFrom, and_true, true_and, Nat.reduceAdd] at F)) | (refine wpList_store_box rfl S _ _ _ rfl 2 _ _ _ _ (atOf HL rfl) rfl _ rfl (by kernel_rfl) rfl rfl ?_; intro w L hM T; clear F S; (try rw [HL.out] at hM); clear HL; (try simp [Act.put, Act.eval, Value.cells, splice] at hM); have HL := Lib.hid hM; clear hM; have S := T; clear T; have F := factsAll HL S; (try simp only [factsOf, cellsFrom, and_true, true_and, Nat.reduceAdd] at F)) | (refine wpList_store_box rfl S _ _ _ rfl 3 _ _ _ _ (atOf HL rfl) rfl _ rfl (by kernel_rfl) rfl rfl ?_; intro w L hM T; clear F S; (try rw [HL.out] at hM); clear HL; (try simp [Act.put, Act.eval, Value.cells, splice] at hM); have HL := Lib.hid hM; clear hM; have S := T; clear T; have F := factsAll HL S; (try simp only [factsOf, cellsFrom, and_true, true_and, Nat.reduceAdd] at F))  )
  ((try simp only [Exit.inBlock, Exit.then]); refine ret1 rfl (resCell S HL 1 rfl rfl (by kernel_rfl)) rfl ?_)
  exact ⟨rfl, S.below⟩
theorem C_toMessageS (v : Value) (n : Nat) (zs : List Int) (w0 : World) (h : Msgs w0 v n zs) (hn : n ≤ 1048576) :
    Calls Try.prog 27 #[v] w0 (MakesMsgs w0 n zs) := by
  obtain ⟨hx, hl, A, cap, rfl, hcap, hmax, hA⟩ := h
  have HX := Lib.hid hx
  have HA := Lib.hid hA
  clear hl hA hx
  unfold maxLen at hmax
  obtain ⟨L, HL, S⟩ := st_start w0; have F : True := trivial
  go_enter Try.func27, Try.ntmps27
  go_wp2_with (at_make; refine wpList_make rfl S _ _ _ rfl 75 _ 3 24 Try.underlying41 infoMsg _ n rfl rfl rfl (by omega) (by simp only [maxLen]; omega) ?_; intro g w L hM T; clear F S; (try rw [HL.out] at hM); clear HL; (try simp [Act.put, Act.eval, Value.cells, splice] at hM); have HL := Lib.hid hM; clear hM; have S := T; clear T; have F := factsAll HL S; (try simp only [factsOf, cellsFrom, and_true, true_and, Nat.reduceAdd] at F))
  obtain ⟨Z, hZ⟩ : ∃ Z, Z = (madeCells #[Value.int .i64 0, .int .i64 0, .int .i64 0] (n * 3)).toList := ⟨_, rfl⟩
  rw [← hZ] at HL
  have hZl : Z.length = (ints zs).length := by rw [hZ, ints_length, HX.out]; simp [madeCells]
  have HZ := Lib.hid hZl
  clear hZ hZl
  go_loopw [4] (fun i wr => ∃ (k : Nat) (L : List Ent), k ≤ n ∧ i = .int .i64 k ∧ Hid (L = [.row 75 3 (.slice (some ⟨g, 0, none⟩) n n) n (mix (ints zs) Z (k * 3))]) ∧ St w0 wr L) (fun i _ => n - (intOf i).toNat)
  case atStart => exact ⟨0, L, Nat.zero_le _, rfl, (by rw [Nat.zero_mul, mix_zero]; exact HL), S⟩
  case round =>
    clear F HL S
    obtain ⟨k, L, hk, rfl, HL, S⟩ := hrel
    have F : True := trivial
    by_cases hlt : k < n
    · obtain ⟨b, off, rfl, hb, hc⟩ := HA.out (by omega)
      have hcc : ∀ j i u, (ints zs)[j + i]? = some u → w0.cell? ⟨b, off + j + i, none⟩ = some u := fun j i u h => by rw [Nat.add_assoc]; exact hc _ _ h
      have q : k * 3 + 3 ≤ zs.length := by rw [HX.out]; omega
      have e3 := mix_step (ints zs) Z (ints [zs.getD (k * 3) 0, zs.getD (k * 3 + 1) 0, zs.getD (k * 3 + 2) 0]) (k * 3) HZ.out (ints_drop_take3 zs (k * 3) q) (by rw [ints_length, ints_length]; exact q)
      have c0 := (S.below.cell (p := ⟨b, off + k * 3, none⟩) hb).trans (hc (k * 3) _ (ints_getD zs (k * 3) (by omega)))
      have c1 := (S.below.cell (p := ⟨b, off + k * 3 + 1, none⟩) hb).trans (hcc (k * 3) 1 _ (ints_getD zs (k * 3 + 1) (by omega)))
      have c2 := (S.below.cell (p := ⟨b, off + k * 3 + 2, none⟩) hb).trans (hcc (k * 3) 2 _ (ints_getD zs (k * 3 + 2) (by omega)))
      generalize zs.getD (k * 3) 0 = x0 at c0 e3
      generalize zs.getD (k * 3 + 1) 0 = x1 at c1 e3
      generalize zs.getD (k * 3 + 2) 0 = x2 at c2 e3
      clear hc hcc q
      have E3 := Lib.hid e3
      clear e3
      have hk3 : k * 3 + 3 ≤ n * 3 := by omega
      go_wp2_with (first | (go_at_call 55; refine (C_toMessage _ _ _ _).mono ?_; rintro e w ⟨rfl, hb⟩; replace S := S.grow hb; clear hb) | (refine wpList_store_rowS rfl S _ _ _ rfl 0 _ _ _ _ _ _ _ (atOf HL rfl) rfl (ints [x0, x1, x2]) rfl (by kernel_rfl) rfl (show _ + 3 ≤ _ from by omega) ?_; intro w L hM T; clear F S; (try rw [HL.out] at hM); clear HL; (try simp [Act.put, Act.eval, Value.cells] at hM); have HL := Lib.hid hM; clear hM; have S := T; clear T; have F := factsAll HL S; (try simp only [factsOf, cellsFrom, and_true, true_and, Nat.reduceAdd] at F)))
      go_roundw
      case rel => exact ⟨k + 1, L, by omega, by go_num, Lib.hid (by rw [HL.out, Nat.succ_mul]; exact congrArg (fun c => [Ent.row _ _ _ _ c]) E3.out), S⟩
      case measure => simp [intOf]; omega
    · obtain rfl : k = n := by omega
      go_wp2
      go_ret
      have e : mix (ints zs) Z (k * 3) = ints zs := by
        have := mix_full (ints zs) Z HZ.out
        rw [ints_length, HX.out] at this
        exact this
      rw [HL.out, e] at S
      exact ⟨_, rfl, S⟩
theorem C_impl_roundValid (r : Int) (w0 : World) : Calls Try.prog 56 #[.int .i64 r] w0 fun e w' => e = .returned (.bool (rnd r)) ∧ w0 = w' := by
  by_cases h : 0 ≤ r
  · go_enter Try.func56, Try.ntmps56
    go_wp2
    go_ret
    exact ⟨by simp [rnd, h], rfl⟩
  · go_enter Try.func56, Try.ntmps56
    go_wp2
    go_ret
    exact ⟨by simp [rnd]; omega, rfl⟩
theorem C_impl_MessagesValid (v : Value) (n : Nat) (zs : List Int) (w0 : World) (h : Msgs w0 v n zs) :
    Calls Try.prog 28 #[v] w0 fun e w' => e = .returned (.bool (msgsOk n zs)) ∧ Below w0.heap.size w0 w' := by
  obtain ⟨hx, hl, A, cap, rfl, hcap, hmax, hA⟩ := h
  have HX := Lib.hid hx
  have HA := Lib.hid hA
  clear hl hA hx
  unfold maxLen at hmax
  by_cases hbig : n > 2000
  · have e : msgsOk n zs = false := by unfold msgsOk; rw [decide_eq_false (by omega : ¬ n ≤ 2000)]; simp
    rw [e]
    clear e
    obtain ⟨L, HL, S⟩ := st_start w0; have F : True := trivial
    go_enter Try.func28, Try.ntmps28
    go_wp2
    go_ret
    exact ⟨rfl, S.below⟩
  by_cases hodd : n % 2 = 1
  · have e : msgsOk n zs = false := by unfold msgsOk; rw [decide_eq_false (by omega : ¬ n % 2 = 0)]; simp
    rw [e]
    clear e
    have ho : ((n : Int) % 2 != 0) = true := by rw [bne_iff_ne]; omega
    obtain ⟨L, HL, S⟩ := st_start w0; have F : True := trivial
    go_enter Try.func28, Try.ntmps28
    go_wp2
    go_ret
    exact ⟨rfl, S.below⟩
  have ho : ((n : Int) % 2 != 0) = false := by
    have : (n : Int) % 2 = 0 := by omega
    rw [this]; rfl
  have hgood : (∀ k, k < n → mOk zs k = true) → msgsOk n zs = true := fun h => by
    rw [msgsOk_good h, decide_eq_true (by omega : n % 2 = 0), decide_eq_true (by omega : n ≤ 2000)]; rfl
  have HG := Lib.hid hgood
  clear hgood
  obtain ⟨L, HL, S⟩ := st_start w0; have F : True := trivial
  go_enter Try.func28, Try.ntmps28
  go_wp2
  go_loopw [3, 17] (fun l i wr => ∃ (k : Nat), k ≤ n ∧ i = .int .i64 k ∧ l = .int .i64 (lat zs k) ∧ Hid (∀ j, j < k → mOk zs j = true) ∧ St w0 wr []) (fun _ i _ => n - (intOf i).toNat)
  case atStart => exact ⟨0, Nat.zero_le _, rfl, rfl, Lib.hid (fun j hj => absurd hj (by omega)), by rw [HL.out] at S; exact S⟩
  case round =>
    clear F HL S
    obtain ⟨k, hk, rfl, rfl, hall, S⟩ := hrel
    by_cases hlt : k < n
    · obtain ⟨L, HL⟩ : ∃ L : List Ent, Hid (L = []) := ⟨_, Lib.hid rfl⟩
      rw [← HL.out] at S
      have F : True := trivial
      obtain ⟨b, off, rfl, hb, hc⟩ := HA.out (by omega)
      have hcc : ∀ j i u, (ints zs)[j + i]? = some u → w0.cell? ⟨b, off + j + i, none⟩ = some u := fun j i u h => by rw [Nat.add_assoc]; exact hc _ _ h
      have q : k * 3 + 3 ≤ zs.length := by rw [HX.out]; omega
      have c0 := (S.below.cell (p := ⟨b, off + k * 3, none⟩) hb).trans (hc (k * 3) _ (ints_getD zs (k * 3) (by omega)))
      have c1 := (S.below.cell (p := ⟨b, off + k * 3 + 1, none⟩) hb).trans (hcc (k * 3) 1 _ (ints_getD zs (k * 3 + 1) (by omega)))
      have c2 := (S.below.cell (p := ⟨b, off + k * 3 + 2, none⟩) hb).trans (hcc (k * 3) 2 _ (ints_getD zs (k * 3 + 2) (by omega)))
      clear hc hcc q
      have hm : mOk zs k = (rnd (mR zs k) && rv (mV zs k) && decide (mF zs k = 1 + (k : Int) % 2) && !decide (mR zs k < lat zs k) && !(decide (k % 2 = 1) && decide (mR zs k ≠ lat zs k))) := rfl
      have hl1 : lat zs (k + 1) = mR zs k := rfl
      rw [show zs.getD (k * 3) 0 = mR zs k from rfl] at c0
      rw [show zs.getD (k * 3 + 1) 0 = mF zs k from rfl] at c1
      rw [show zs.getD (k * 3 + 2) 0 = mV zs k from rfl] at c2
      generalize mR zs k = r at c0 hm hl1
      generalize mF zs k = f at c1 hm
      generalize mV zs k = x at c2 hm
      generalize lat zs k = l at hm ⊢
      have HM := Lib.hid hm
      have HL1 := Lib.hid hl1
      clear hm hl1
      cases a1 : rnd r with
      | false =>
        have hbad : mOk zs k = false := by rw [HM.out]; simp [a1]
        have e := msgsOk_bad hlt hbad
        have EE := Lib.hid e
        clear e hbad
        go_wp2_with (first | (refine wpList_alloc rfl S 75 _ rfl zMsg ?_; intro g w L hM T; clear F S; (try rw [HL.out] at hM); clear HL; (try simp [Act.put, Act.eval, Value.cells, splice] at hM); have HL := Lib.hid hM; clear hM; have S := T; clear T; have F := factsAll HL S; (try simp only [factsOf, cellsFrom, and_true, true_and, Nat.reduceAdd] at F)) | (refine wpList_store_box rfl S _ _ _ rfl 0 _ _ _ _ (atOf HL rfl) rfl _ rfl (by kernel_rfl) rfl rfl ?_; intro w L hM T; clear F S; (try rw [HL.out] at hM); clear HL; (try simp [Act.put, Act.eval, Value.cells, splice] at hM); have HL := Lib.hid hM; clear hM; have S := T; clear T; have F := factsAll HL S; (try simp only [factsOf, cellsFrom, and_true, true_and, Nat.reduceAdd] at F)) | (go_at_call 52; refine (C_impl_RingValid _ _).mono ?_; rintro e w' ⟨rfl, rfl⟩) | (go_at_call 56; refine (C_impl_roundValid _ _).mono ?_; rintro e w' ⟨rfl, rfl⟩))
        go_ret
        exact ⟨by rw [EE.out]; rfl, S.below⟩
      | true =>
        by_cases a2 : r < l
        · have hbad : mOk zs k = false := by rw [HM.out]; simp [a2]
          have e := msgsOk_bad hlt hbad
          have EE := Lib.hid e
          clear e hbad
          go_wp2_with (first | (refine wpList_alloc rfl S 75 _ rfl zMsg ?_; intro g w L hM T; clear F S; (try rw [HL.out] at hM); clear HL; (try simp [Act.put, Act.eval, Value.cells, splice] at hM); have HL := Lib.hid hM; clear hM; have S := T; clear T; have F := factsAll HL S; (try simp only [factsOf, cellsFrom, and_true, true_and, Nat.reduceAdd] at F)) | (refine wpList_store_box rfl S _ _ _ rfl 0 _ _ _ _ (atOf HL rfl) rfl _ rfl (by kernel_rfl) rfl rfl ?_; intro w L hM T; clear F S; (try rw [HL.out] at hM); clear HL; (try simp [Act.put, Act.eval, Value.cells, splice] at hM); have HL := Lib.hid hM; clear hM; have S := T; clear T; have F := factsAll HL S; (try simp only [factsOf, cellsFrom, and_true, true_and, Nat.reduceAdd] at F)) | (go_at_call 52; refine (C_impl_RingValid _ _).mono ?_; rintro e w' ⟨rfl, rfl⟩) | (go_at_call 56; refine (C_impl_roundValid _ _).mono ?_; rintro e w' ⟨rfl, rfl⟩))
          go_ret
          exact ⟨by rw [EE.out]; rfl, S.below⟩
        by_cases a3 : f = 1 + (k : Int) % 2
        rotate_left
        · have a3' : (f != 1 + (k : Int) % 2) = true := by rw [bne_iff_ne]; exact a3
          have hbad : mOk zs k = false := by rw [HM.out]; simp [a3]
          have e := msgsOk_bad hlt hbad
          have EE := Lib.hid e
          clear e hbad
          go_wp2_with (first | (refine wpList_alloc rfl S 75 _ rfl zMsg ?_; intro g w L hM T; clear F S; (try rw [HL.out] at hM); clear HL; (try simp [Act.put, Act.eval, Value.cells, splice] at hM); have HL := Lib.hid hM; clear hM; have S := T; clear T; have F := factsAll HL S; (try simp only [factsOf, cellsFrom, and_true, true_and, Nat.reduceAdd] at F)) | (refine wpList_store_box rfl S _ _ _ rfl 0 _ _ _ _ (atOf HL rfl) rfl _ rfl (by kernel_rfl) rfl rfl ?_; intro w L hM T; clear F S; (try rw [HL.out] at hM); clear HL; (try simp [Act.put, Act.eval, Value.cells, splice] at hM); have HL := Lib.hid hM; clear hM; have S := T; clear T; have F := factsAll HL S; (try simp only [factsOf, cellsFrom, and_true, true_and, Nat.reduceAdd] at F)) | (go_at_call 52; refine (C_impl_RingValid _ _).mono ?_; rintro e w' ⟨rfl, rfl⟩) | (go_at_call 56; refine (C_impl_roundValid _ _).mono ?_; rintro e w' ⟨rfl, rfl⟩))
          go_ret
          exact ⟨by rw [EE.out]; rfl, S.below⟩
        have a3' : (f != 1 + (k : Int) % 2) = false := by rw [a3]; exact bne_self_eq_false _
        cases a4 : rv x with
        | false =>
          have hbad : mOk zs k = false := by rw [HM.out]; simp [a4]
          have e := msgsOk_bad hlt hbad
          have EE := Lib.hid e
          clear e hbad
          go_wp2_with (first | (refine wpList_alloc rfl S 75 _ rfl zMsg ?_; intro g w L hM T; clear F S; (try rw [HL.out] at hM); clear HL; (try simp [Act.put, Act.eval, Value.cells, splice] at hM); have HL := Lib.hid hM; clear hM; have S := T; clear T; have F := factsAll HL S; (try simp only [factsOf, cellsFrom, and_true, true_and, Nat.reduceAdd] at F)) | (refine wpList_store_box rfl S _ _ _ rfl 0 _ _ _ _ (atOf HL rfl) rfl _ rfl (by kernel_rfl) rfl rfl ?_; intro w L hM T; clear F S; (try rw [HL.out] at hM); clear HL; (try simp [Act.put, Act.eval, Value.cells, splice] at hM); have HL := Lib.hid hM; clear hM; have S := T; clear T; have F := factsAll HL S; (try simp only [factsOf, cellsFrom, and_true, true_and, Nat.reduceAdd] at F)) | (go_at_call 52; refine (C_impl_RingValid _ _).mono ?_; rintro e w' ⟨rfl, rfl⟩) | (go_at_call 56; refine (C_impl_roundValid _ _).mono ?_; rintro e w' ⟨rfl, rfl⟩))
          go_ret
          exact ⟨by rw [EE.out]; rfl, S.below⟩
        | true =>
          by_cases a5 : k % 2 = 1
          · have f2 : (f == 2) = true := by rw [beq_iff_eq]; omega
            by_cases a6 : r = l
            · have a6' : (r != l) = false := by rw [a6]; exact bne_self_eq_false _
              have HA3 := Lib.hid a3
              have HA6 := Lib.hid a6
              have hok : mOk zs k = true := by rw [HM.out]; subst a6; simp [a1, a2, a3, a4]
              have HOK := Lib.hid hok
              clear hok a3 a6
              go_wp2_with (first | (refine wpList_alloc rfl S 75 _ rfl zMsg ?_; intro g w L hM T; clear F S; (try rw [HL.out] at hM); clear HL; (try simp [Act.put, Act.eval, Value.cells, splice] at hM); have HL := Lib.hid hM; clear hM; have S := T; clear T; have F := factsAll HL S; (try simp only [factsOf, cellsFrom, and_true, true_and, Nat.reduceAdd] at F)) | (refine wpList_store_box rfl S _ _ _ rfl 0 _ _ _ _ (atOf HL rfl) rfl _ rfl (by kernel_rfl) rfl rfl ?_; intro w L hM T; clear F S; (try rw [HL.out] at hM); clear HL; (try simp [Act.put, Act.eval, Value.cells, splice] at hM); have HL := Lib.hid hM; clear hM; have S := T; clear T; have F := factsAll HL S; (try simp only [factsOf, cellsFrom, and_true, true_and, Nat.reduceAdd] at F)) | (go_at_call 52; refine (C_impl_RingValid _ _).mono ?_; rintro e w' ⟨rfl, rfl⟩) | (go_at_call 56; refine (C_impl_roundValid _ _).mono ?_; rintro e w' ⟨rfl, rfl⟩))
              go_roundw
              case rel =>
                refine ⟨k + 1, by omega, by go_num, by rw [HL1.out], Lib.hid (fun j hj => ?_), S.sub (List.nil_sublist _)⟩
                rcases Nat.lt_or_ge j k with h | h
                · exact hall.out j h
                · obtain rfl : j = k := by omega
                  exact HOK.out
              case measure => simp [intOf]; omega
            · have a6' : (r != l) = true := by rw [bne_iff_ne]; exact a6
              have hbad : mOk zs k = false := by rw [HM.out]; simp [a5, a6]
              have e := msgsOk_bad hlt hbad
              have EE := Lib.hid e
              clear e hbad
              go_wp2_with (first | (refine wpList_alloc rfl S 75 _ rfl zMsg ?_; intro g w L hM T; clear F S; (try rw [HL.out] at hM); clear HL; (try simp [Act.put, Act.eval, Value.cells, splice] at hM); have HL := Lib.hid hM; clear hM; have S := T; clear T; have F := factsAll HL S; (try simp only [factsOf, cellsFrom, and_true, true_and, Nat.reduceAdd] at F)) | (refine wpList_store_box rfl S _ _ _ rfl 0 _ _ _ _ (atOf HL rfl) rfl _ rfl (by kernel_rfl) rfl rfl ?_; intro w L hM T; clear F S; (try rw [HL.out] at hM); clear HL; (try simp [Act.put, Act.eval, Value.cells, splice] at hM); have HL := Lib.hid hM; clear hM; have S := T; clear T; have F := factsAll HL S; (try simp only [factsOf, cellsFrom, and_true, true_and, Nat.reduceAdd] at F)) | (go_at_call 52; refine (C_impl_RingValid _ _).mono ?_; rintro e w' ⟨rfl, rfl⟩) | (go_at_call 56; refine (C_impl_roundValid _ _).mono ?_; rintro e w' ⟨rfl, rfl⟩))
              go_ret
              exact ⟨by rw [EE.out]; rfl, S.below⟩
          · have f2 : (f == 2) = false := by rw [beq_eq_false_iff_ne]; omega
            have hok : mOk zs k = true := by rw [HM.out]; simp [a1, a2, a3, a4, a5]
            have HOK := Lib.hid hok
            clear hok a3
            go_wp2_with (first | (refine wpList_alloc rfl S 75 _ rfl zMsg ?_; intro g w L hM T; clear F S; (try rw [HL.out] at hM); clear HL; (try simp [Act.put, Act.eval, Value.cells, splice] at hM); have HL := Lib.hid hM; clear hM; have S := T; clear T; have F := factsAll HL S; (try simp only [factsOf, cellsFrom, and_true, true_and, Nat.reduceAdd] at F)) | (refine wpList_store_box rfl S _ _ _ rfl 0 _ _ _ _ (atOf HL rfl) rfl _ rfl (by kernel_rfl) rfl rfl ?_; intro w L hM T; clear F S; (try rw [HL.out] at hM); clear HL; (try simp [Act.put, Act.eval, Value.cells, splice] at hM); have HL := Lib.hid hM; clear hM; have S := T; clear T; have F := factsAll HL S; (try simp only [factsOf, cellsFrom, and_true, true_and, Nat.reduceAdd] at F)) | (go_at_call 52; refine (C_impl_RingValid _ _).mono ?_; rintro e w' ⟨rfl, rfl⟩) | (go_at_call 56; refine (C_impl_roundValid _ _).mono ?_; rintro e w' ⟨rfl, rfl⟩))
            go_roundw
            case rel =>
              refine ⟨k + 1, by omega, by go_num, by rw [HL1.out], Lib.hid (fun j hj => ?_), S.sub (List.nil_sublist _)⟩
              rcases Nat.lt_or_ge j k with h | h
              · exact hall.out j h
              · obtain rfl : j = k := by omega
                exact HOK.out
            case measure => simp [intOf]; omega
    · obtain rfl : k = n := by omega
      go_wp2
      go_ret
      exact ⟨by rw [HG.out hall.out]; rfl, S.below⟩
end Go.Proofs.Ytoekfgmjlnjflaa
