/-
  Contracts: messages that open shared numbers.
-/
import Derived.Test.YtdgeiooacghcoaaOwn
import Derived.Test.YtdgeiooacghcoaaShare
import Derived.Test.YtdgeiooacghcoaaMsg
namespace Go.Proofs.Ytdgeiooacghcoaa
set_option linter.unusedSimpArgs false
set_option linter.unusedVariables false
set_option linter.unusedSectionVars false
open Go Go.RowKit
set_option maxHeartbeats 8000000
set_option maxRecDepth 20000
def shAt (zs : List Int) (k : Nat) : Sh := ⟨zs.getD (k * 2) 0, zs.getD (k * 2 + 1) 0⟩
def openTo (r : Int) (zs : List Int) : Nat → List Int
  | 0 => []
  | k + 1 => openTo r zs k ++ [r, 1, zs.getD (k * 2) 0, r, 2, zs.getD (k * 2 + 1) 0]
theorem openTo_length (r : Int) (zs : List Int) : ∀ k, (openTo r zs k).length = (2 * k) * 3
  | 0 => rfl
  | k + 1 => by rw [openTo, List.length_append, openTo_length r zs k]; simp; omega
def openSome (r : Int) (n : Nat) (zs : List Int) : Bool := rnd r && decide (n ≤ 1000) && (List.range n).all (fun k => (shAt zs k).ok)
def openMs (r : Int) (n : Nat) (zs : List Int) : List Int := if openSome r n zs then openTo r zs n else []
theorem openMs_round {r : Int} {n : Nat} {zs : List Int} (h : rnd r = false) : openMs r n zs = [] := by simp [openMs, openSome, h]
theorem openMs_big {r : Int} {n : Nat} {zs : List Int} (h : n > 1000) : openMs r n zs = [] := by
  have : ¬ n ≤ 1000 := by omega
  simp [openMs, openSome, this]
theorem openMs_bad {r : Int} {n k : Nat} {zs : List Int} (hk : k < n) (h : (shAt zs k).ok = false) : openMs r n zs = [] := by
  have : (List.range n).all (fun k => (shAt zs k).ok) = false := by
    rw [List.all_eq_false]
    exact ⟨k, List.mem_range.2 hk, by rw [h]; simp⟩
  simp [openMs, openSome, this]
theorem openMs_good {r : Int} {n : Nat} {zs : List Int} (h0 : rnd r = true) (h1 : n ≤ 1000) (h : ∀ k, k < n → (shAt zs k).ok = true) : openMs r n zs = openTo r zs n := by
  have : (List.range n).all (fun k => (shAt zs k).ok) = true := by
    rw [List.all_eq_true]
    exact fun k hk => h k (List.mem_range.1 hk)
  simp [openMs, openSome, this, h0, h1]
/-- A new row of messages is handed back. -/
def MakesMs (w0 : World) (xs : List Int) (e : Ending) (w : World) : Prop :=
  ∃ u m, e = .returned u ∧ xs.length = m * 3 ∧ m ≤ 2000 ∧ St w0 w [.row 99 3 u m (ints xs)]
theorem openMs_len (r : Int) (n : Nat) (zs : List Int) : ∃ m, m ≤ 2000 ∧ (openMs r n zs).length = m * 3 := by
  unfold openMs
  split
  · rename_i h
    simp only [openSome, Bool.and_eq_true, decide_eq_true_eq] at h
    exact ⟨2 * n, by omega, openTo_length r zs n⟩
  · exact ⟨0, by omega, rfl⟩
theorem MakesMs.at_ {w0 w : World} {xs : List Int} {e : Ending} {N : Nat} (hN : xs.length = N * 3) (h : MakesMs w0 xs e w) : ∃ u, e = .returned u ∧ St w0 w [.row 99 3 u N (ints xs)] := by
  obtain ⟨u, m, he, hm, _, T⟩ := h
  obtain rfl : m = N := by omega
  exact ⟨u, he, T⟩
theorem C_impl_OpenMessages (r : Int) (v : Value) (n : Nat) (zs : List Int) (w0 : World) (hx : zs.length = n * 2) (h : Sees w0 2 v n (ints zs)) :
    Calls Try.prog 28 #[.int .i64 r, v] w0 (MakesMs w0 (openMs r n zs)) := by
  obtain ⟨hl, A, cap, rfl, hcap, hmax, hA⟩ := h
  have HX := Lib.hid hx
  have HA := Lib.hid hA
  clear hl hA hx
  unfold maxLen at hmax
  cases hr : rnd r with
  | false =>
    rw [openMs_round hr]
    obtain ⟨L, HL, S⟩ := st_start w0; have F : True := trivial
    go_enter Try.func28, Try.ntmps28
    go_wp2_with (first | (refine wpList_box rfl S _ _ rfl ?_; intro g w L hM T; clear F S; (try rw [HL.out] at hM); clear HL; (try simp [Act.put, Act.eval, Value.cells, splice] at hM); have HL := Lib.hid hM; clear hM; have S := T; clear T; have F := factsAll HL S; (try simp only [factsOf, cellsFrom, and_true, true_and, Nat.reduceAdd] at F))  | (refine wpList_store_box rfl S _ _ _ rfl 0 _ _ _ _ (atOf HL rfl) rfl _ rfl (by kernel_rfl) rfl rfl ?_; intro w L hM T; clear F S; (try rw [HL.out] at hM); clear HL; (try simp [Act.put, Act.eval, Value.cells, splice] at hM); have HL := Lib.hid hM; clear hM; have S := T; clear T; have F := factsAll HL S; (try simp only [factsOf, cellsFrom, and_true, true_and, Nat.reduceAdd] at F)) | (refine wpList_store_box rfl S _ _ _ rfl 1 _ _ _ _ (atOf HL rfl) rfl _ rfl (by kernel_rfl) rfl rfl ?_; intro w L hM T; clear F S; (try rw [HL.out] at hM); clear HL; (try simp [Act.put, Act.eval, Value.cells, splice] at hM); have HL := Lib.hid hM; clear hM; have S := T; clear T; have F := factsAll HL S; (try simp only [factsOf, cellsFrom, and_true, true_and, Nat.reduceAdd] at F)) | (refine wpList_store_box rfl S _ _ _ rfl 2 _ _ _ _ (atOf HL rfl) rfl _ rfl (by kernel_rfl) rfl rfl ?_; intro w L hM T; clear F S; (try rw [HL.out] at hM); clear HL; (try simp [Act.put, Act.eval, Value.cells, splice] at hM); have HL := Lib.hid hM; clear hM; have S := T; clear T; have F := factsAll HL S; (try simp only [factsOf, cellsFrom, and_true, true_and, Nat.reduceAdd] at F)) | (refine wpList_store_box rfl S _ _ _ rfl 3 _ _ _ _ (atOf HL rfl) rfl _ rfl (by kernel_rfl) rfl rfl ?_; intro w L hM T; clear F S; (try rw [HL.out] at hM); clear HL; (try simp [Act.put, Act.eval, Value.cells, splice] at hM); have HL := Lib.hid hM; clear hM; have S := T; clear T; have F := factsAll HL S; (try simp only [factsOf, cellsFrom, and_true, true_and, Nat.reduceAdd] at F)) | (go_at_call 79; refine (C_impl_roundValid _ _).mono ?_; rintro e w' ⟨rfl, rfl⟩) )
    go_ret
    rw [HL.out] at S
    exact ⟨_, 0, rfl, rfl, by omega, S.nilRow _ _⟩
  | true =>
  by_cases hbig : n > 1000
  · rw [openMs_big hbig]
    obtain ⟨L, HL, S⟩ := st_start w0; have F : True := trivial
    go_enter Try.func28, Try.ntmps28
    go_wp2_with (first | (refine wpList_box rfl S _ _ rfl ?_; intro g w L hM T; clear F S; (try rw [HL.out] at hM); clear HL; (try simp [Act.put, Act.eval, Value.cells, splice] at hM); have HL := Lib.hid hM; clear hM; have S := T; clear T; have F := factsAll HL S; (try simp only [factsOf, cellsFrom, and_true, true_and, Nat.reduceAdd] at F))  | (refine wpList_store_box rfl S _ _ _ rfl 0 _ _ _ _ (atOf HL rfl) rfl _ rfl (by kernel_rfl) rfl rfl ?_; intro w L hM T; clear F S; (try rw [HL.out] at hM); clear HL; (try simp [Act.put, Act.eval, Value.cells, splice] at hM); have HL := Lib.hid hM; clear hM; have S := T; clear T; have F := factsAll HL S; (try simp only [factsOf, cellsFrom, and_true, true_and, Nat.reduceAdd] at F)) | (refine wpList_store_box rfl S _ _ _ rfl 1 _ _ _ _ (atOf HL rfl) rfl _ rfl (by kernel_rfl) rfl rfl ?_; intro w L hM T; clear F S; (try rw [HL.out] at hM); clear HL; (try simp [Act.put, Act.eval, Value.cells, splice] at hM); have HL := Lib.hid hM; clear hM; have S := T; clear T; have F := factsAll HL S; (try simp only [factsOf, cellsFrom, and_true, true_and, Nat.reduceAdd] at F)) | (refine wpList_store_box rfl S _ _ _ rfl 2 _ _ _ _ (atOf HL rfl) rfl _ rfl (by kernel_rfl) rfl rfl ?_; intro w L hM T; clear F S; (try rw [HL.out] at hM); clear HL; (try simp [Act.put, Act.eval, Value.cells, splice] at hM); have HL := Lib.hid hM; clear hM; have S := T; clear T; have F := factsAll HL S; (try simp only [factsOf, cellsFrom, and_true, true_and, Nat.reduceAdd] at F)) | (refine wpList_store_box rfl S _ _ _ rfl 3 _ _ _ _ (atOf HL rfl) rfl _ rfl (by kernel_rfl) rfl rfl ?_; intro w L hM T; clear F S; (try rw [HL.out] at hM); clear HL; (try simp [Act.put, Act.eval, Value.cells, splice] at hM); have HL := Lib.hid hM; clear hM; have S := T; clear T; have F := factsAll HL S; (try simp only [factsOf, cellsFrom, and_true, true_and, Nat.reduceAdd] at F)) | (go_at_call 79; refine (C_impl_roundValid _ _).mono ?_; rintro e w' ⟨rfl, rfl⟩) )
    go_ret
    rw [HL.out] at S
    exact ⟨_, 0, rfl, rfl, by omega, S.nilRow _ _⟩
  have HR := Lib.hid hr
  obtain ⟨L, HL, S⟩ := st_start w0; have F : True := trivial
  go_enter Try.func28, Try.ntmps28
  go_wp2_with (first | (at_make; refine wpList_make0 rfl S _ _ _ rfl 99 _ 3 24 Try.underlying28 infoMsg .i64 .i64 _ (2 * n) rfl rfl rfl (by omega) (by simp only [maxLen]; omega) ?_; intro g w L hM T; clear F S; (try rw [HL.out] at hM); clear HL; (try simp [Act.put, Act.eval, Value.cells, splice] at hM); have HL := Lib.hid hM; clear hM; have S := T; clear T; have F := factsAll HL S; (try simp only [factsOf, cellsFrom, and_true, true_and, Nat.reduceAdd] at F)) | (go_at_call 79; refine (C_impl_roundValid _ _).mono ?_; rintro e w' ⟨rfl, rfl⟩))
  go_loopw [22, 5] (fun i u wr => ∃ (k : Nat) (L : List Ent), k ≤ n ∧ i = .int .i64 k ∧ Hid (∀ j, j < k → (shAt zs j).ok = true) ∧ Hid (L = [.row 99 3 u (2 * k) (ints (openTo r zs k))]) ∧ St w0 wr L) (fun i _ _ => n - (intOf i).toNat)
  case atStart => exact ⟨0, L, Nat.zero_le _, rfl, Lib.hid (fun j hj => absurd hj (by omega)), HL, S⟩
  case round =>
    clear F HL S
    obtain ⟨k, L, hk, rfl, HO, HL, S⟩ := hrel
    have F : True := trivial
    by_cases hlt : k < n
    · obtain ⟨b, off, rfl, hb, hc⟩ := HA.out (by omega)
      have hcc : ∀ j i u, (ints zs)[j + i]? = some u → w0.cell? ⟨b, off + j + i, none⟩ = some u := fun j i u h => by rw [Nat.add_assoc]; exact hc _ _ h
      have q : k * 2 + 2 ≤ zs.length := by rw [HX.out]; omega
      have c0 := (S.below.cell (p := ⟨b, off + k * 2, none⟩) hb).trans (hc (k * 2) _ (ints_getD zs (k * 2) (by omega)))
      have c1 := (S.below.cell (p := ⟨b, off + k * 2 + 1, none⟩) hb).trans (hcc (k * 2) 1 _ (ints_getD zs (k * 2 + 1) (by omega)))
      have hsh : shAt zs k = ⟨zs.getD (k * 2) 0, zs.getD (k * 2 + 1) 0⟩ := rfl
      have hto : openTo r zs (k + 1) = openTo r zs k ++ [r, 1, zs.getD (k * 2) 0, r, 2, zs.getD (k * 2 + 1) 0] := rfl
      generalize zs.getD (k * 2) 0 = x0 at c0 hsh hto
      generalize zs.getD (k * 2 + 1) 0 = x1 at c1 hsh hto
      have HTO := Lib.hid hto
      clear hc hcc q hto
      cases ho : (shAt zs k).ok with
      | false =>
        have EE := Lib.hid (openMs_bad (r := r) hlt ho)
        rw [hsh] at ho
        clear hsh
        go_wp2_with (first | (refine wpList_alloc rfl S 44 _ rfl zSh ?_; intro g w L hM T; clear F S; (try rw [HL.out] at hM); clear HL; (try simp [Act.put, Act.eval, Value.cells, splice] at hM); have HL := Lib.hid hM; clear hM; have S := T; clear T; have F := factsAll HL S; (try simp only [factsOf, cellsFrom, and_true, true_and, Nat.reduceAdd] at F)) | (refine wpList_store_box rfl S _ _ _ rfl 0 _ _ _ _ (atOf HL rfl) rfl _ rfl (by kernel_rfl) rfl rfl ?_; intro w L hM T; clear F S; (try rw [HL.out] at hM); clear HL; (try simp [Act.put, Act.eval, Value.cells, splice] at hM); have HL := Lib.hid hM; clear hM; have S := T; clear T; have F := factsAll HL S; (try simp only [factsOf, cellsFrom, and_true, true_and, Nat.reduceAdd] at F)) | (go_at_call 37; refine (C_impl_SharedValid _ _ _).mono ?_; rintro e w ⟨rfl, hb⟩; replace S := S.grow hb; clear hb))
        go_ret
        rw [EE.out]
        rw [HL.out] at S
        exact ⟨_, 0, rfl, rfl, by omega, (S.sub (List.nil_sublist _)).nilRow _ _⟩
      | true =>
        have HOK := Lib.hid ho
        rw [hsh] at ho
        clear hsh
        go_wp2_with (first | (refine wpList_alloc rfl S 44 _ rfl zSh ?_; intro g w L hM T; clear F S; (try rw [HL.out] at hM); clear HL; (try simp [Act.put, Act.eval, Value.cells, splice] at hM); have HL := Lib.hid hM; clear hM; have S := T; clear T; have F := factsAll HL S; (try simp only [factsOf, cellsFrom, and_true, true_and, Nat.reduceAdd] at F)) | (refine wpList_store_box rfl S _ _ _ rfl 0 _ _ _ _ (atOf HL rfl) rfl _ rfl (by kernel_rfl) rfl rfl ?_; intro w L hM T; clear F S; (try rw [HL.out] at hM); clear HL; (try simp [Act.put, Act.eval, Value.cells, splice] at hM); have HL := Lib.hid hM; clear hM; have S := T; clear T; have F := factsAll HL S; (try simp only [factsOf, cellsFrom, and_true, true_and, Nat.reduceAdd] at F)) | (refine wpList_lit33 rfl S _ _ _ rfl 99 Try.underlying28 infoMsg _ _ _ _ _ _ rfl rfl ?_; intro g w L hM T; clear F S; (try rw [HL.out] at hM); clear HL; (try simp [Act.put, Act.eval, Value.cells, splice] at hM); have HL := Lib.hid hM; clear hM; have S := T; clear T; have F := factsAll HL S; (try simp only [factsOf, cellsFrom, and_true, true_and, Nat.reduceAdd] at F)) | (refine wpList_append_box rfl S _ _ _ rfl 99 _ 3 24 Try.underlying28 infoMsg rfl (by omega) _ _ _ _ rfl (by first | exact atOf HL (p := 0) rfl | exact atOf HL (p := 1) rfl | exact atOf HL (p := 2) rfl | exact atOf HL (p := 3) rfl | exact atOf HL (p := 4) rfl | exact atOf HL (p := 5) rfl | exact atOf HL (p := 6) rfl | exact atOf HL (p := 7) rfl) (by omega) _ _ _ _ _ _ rfl (by first | exact atOf HL (p := 0) rfl | exact atOf HL (p := 1) rfl | exact atOf HL (p := 2) rfl | exact atOf HL (p := 3) rfl | exact atOf HL (p := 4) rfl | exact atOf HL (p := 5) rfl | exact atOf HL (p := 6) rfl | exact atOf HL (p := 7) rfl) rfl rfl rfl rfl ?_; intro u w L hM T; clear F S; (try rw [HL.out] at hM); clear HL; (try simp [Act.put, Act.eval, Value.cells, splice] at hM); have HL := Lib.hid hM; clear hM; have S := T; clear T; have F := factsAll HL S; (try simp only [factsOf, cellsFrom, and_true, true_and, Nat.reduceAdd] at F)) | (go_at_call 37; refine (C_impl_SharedValid _ _ _).mono ?_; rintro e w ⟨rfl, hb⟩; replace S := S.grow hb; clear hb))
        go_roundw
        case rel =>
          have E : ints (openTo r zs k) ++ [.int .i64 r, .int .i64 1, .int .i64 x0, .int .i64 r, .int .i64 2, .int .i64 x1] = ints (openTo r zs (k + 1)) := by rw [HTO.out, ints_append]; rfl
          rw [HL.out, E] at S
          refine ⟨k + 1, _, by omega, by go_num, Lib.hid (fun j hj => ?_), Lib.hid rfl, S.sub (.cons _ (.cons _ (.refl _)))⟩
          rcases Nat.lt_or_ge j k with h | h
          · exact HO.out j h
          · obtain rfl : j = k := by omega
            exact HOK.out
        case measure => simp [intOf]; omega
    · obtain rfl : k = n := by omega
      have EE := Lib.hid (openMs_good HR.out (by omega : k ≤ 1000) HO.out)
      go_wp2
      go_ret
      rw [EE.out]
      rw [HL.out] at S
      refine ⟨_, 2 * k, ?_, openTo_length r zs k, by omega, S⟩
      rfl
theorem C_rnd' (r : Int) (w0 : World) : Calls Try.prog 80 #[.int .i64 r, .int .i64 0, .int .i64 1000] w0 fun e w' => e = .returned (.bool (rnd r)) ∧ w0 = w' := C_spec_l1In r 0 1000 w0
section
variable {P : Program} {w0 w : World} {a : Act} {L : List Ent} {o : Oper} {K : Act → World → Prop} {Q : Exit → Act → World → Prop}
theorem wp_lit33 (S : St w0 w L) (t : TypeId) (x y : Operand) (ho : o.op = .buildSlice t 2 #[(0, x), (1, y)])
    (e : TypeId) (ht : P.underlying t = some (.slice e)) {z : Value} {bytes : Nat} (hi : (P.info? e).map (fun i => (i.zero, i.size, i.bytes)) = some (some z, 3, bytes))
    (c0 c1 c2 d0 d1 d2 : Value) (hx : a.eval x = .agg #[c0, c1, c2]) (hy : a.eval y = .agg #[d0, d1, d2])
    (h : ∀ g w' M, M = .box g e [c0, c1, c2, d0, d1, d2] :: L → St w0 w' M → K (a.put o.dst (.slice (some ⟨g, 0, none⟩) 2 2)) w') : o.wp P a w K Q := by
  obtain ⟨i, hi0, hz0, hz1, hz2⟩ := info_parts hi
  refine Go.wp_buildSlice t e 2 _ ho #[c0, c1, c2, d0, d1, d2] i z ht hi0 hz0 (by rw [hz1]; omega) (by rw [hz1]; omega) ?_ (h _ _ _ rfl (S.new e _))
  rw [hz1, Array.toList_map]
  show Instr.fill _ _ [(0, a.eval x), (1, a.eval y)] = _
  rw [hx, hy]
  exact fill33 _ (by simp) _ _ _ _ _ _
end
theorem C_spec_OpenMessages (r : Int) (v : Value) (n : Nat) (zs : List Int) (w0 : World) (hx : zs.length = n * 2) (h : Sees w0 2 v n (ints zs)) :
    Calls Try.prog 26 #[.int .i64 r, v] w0 (MakesMs w0 (openMs r n zs)) := by
  obtain ⟨hl, A, cap, rfl, hcap, hmax, hA⟩ := h
  have HX := Lib.hid hx
  have HA := Lib.hid hA
  clear hl hA hx
  unfold maxLen at hmax
  obtain ⟨L, HL, S⟩ := st_start w0; have F : True := trivial
  go_enter Try.func26, Try.ntmps26
  go_wp2_with (first | (refine wpList_empty rfl S _ rfl 99 Try.underlying28 infoMsg ?_; intro g w L hM T; clear F S; (try rw [HL.out] at hM); clear HL; (try simp [Act.put, Act.eval, Value.cells, splice] at hM); have HL := Lib.hid hM; clear hM; have S := T; clear T; have F := factsAll HL S; (try simp only [factsOf, cellsFrom, and_true, true_and, Nat.reduceAdd] at F)))
  go_loopw [5, 6] (fun u i wr => ∃ (k : Nat) (L : List Ent), k ≤ n ∧ i = .int .i64 k ∧ Hid (∀ j, j < k → (shAt zs j).ok = true) ∧ Hid (0 < k → rnd r = true ∧ n ≤ 1000) ∧ Hid (L = [.row 99 3 u (2 * k) (ints (openTo r zs k))]) ∧ St w0 wr L) (fun _ i _ => n - (intOf i).toNat)
  case atStart => exact ⟨0, L, Nat.zero_le _, rfl, Lib.hid (fun j hj => absurd hj (by omega)), Lib.hid (fun h => absurd h (by omega)), HL, S⟩
  case round =>
    clear F HL S
    obtain ⟨k, L, hk, rfl, HO, HP, HL, S⟩ := hrel
    have F : True := trivial
    by_cases hlt : k < n
    · obtain ⟨b, off, rfl, hb, hc⟩ := HA.out (by omega)
      have hcc : ∀ j i u, (ints zs)[j + i]? = some u → w0.cell? ⟨b, off + j + i, none⟩ = some u := fun j i u h => by rw [Nat.add_assoc]; exact hc _ _ h
      have q : k * 2 + 2 ≤ zs.length := by rw [HX.out]; omega
      have D0 := Lib.hid (hc (k * 2) _ (ints_getD zs (k * 2) (by omega)))
      have D1 := Lib.hid (hcc (k * 2) 1 _ (ints_getD zs (k * 2 + 1) (by omega)))
      have hsh : shAt zs k = ⟨zs.getD (k * 2) 0, zs.getD (k * 2 + 1) 0⟩ := rfl
      have hto : openTo r zs (k + 1) = openTo r zs k ++ [r, 1, zs.getD (k * 2) 0, r, 2, zs.getD (k * 2 + 1) 0] := rfl
      generalize zs.getD (k * 2) 0 = x0 at D0 hsh hto
      generalize zs.getD (k * 2 + 1) 0 = x1 at D1 hsh hto
      have HTO := Lib.hid hto
      clear hc hcc q hto HA
      have d0 := fun w' (S' : St w0 w' L) => (S'.below.cell (p := ⟨b, off + k * 2, none⟩) hb).trans D0.out
      have d1 := fun w' (S' : St w0 w' L) => (S'.below.cell (p := ⟨b, off + k * 2 + 1, none⟩) hb).trans D1.out
      cases ho : (shAt zs k).ok with
      | false =>
        have EE := Lib.hid (openMs_bad (r := r) hlt ho)
        rw [hsh] at ho
        clear hsh
        go_wp2_with (first | (refine wpList_empty rfl S _ rfl 99 Try.underlying28 infoMsg ?_; intro g w L hM T; clear F S; (try rw [HL.out] at hM); clear HL; (try simp [Act.put, Act.eval, Value.cells, splice] at hM); have HL := Lib.hid hM; clear hM; have S := T; clear T; have F := factsAll HL S; (try simp only [factsOf, cellsFrom, and_true, true_and, Nat.reduceAdd] at F)) | (go_at_call 82; refine (C_spec_SharedValid _ _ _).mono ?_; rintro e w ⟨rfl, hb⟩; replace S := S.grow hb; clear hb))
        go_ret
        rw [EE.out]
        rw [HL.out] at S
        exact ⟨_, 0, rfl, rfl, by omega, S.sub (.cons_cons _ (.cons _ (.refl _)))⟩
      | true =>
      have HOK := Lib.hid ho
      rw [hsh] at ho
      clear hsh
      cases hr : rnd r with
      | false =>
        have EE := Lib.hid (openMs_round (n := n) (zs := zs) hr)
        go_wp2_with (first | (refine wpList_empty rfl S _ rfl 99 Try.underlying28 infoMsg ?_; intro g w L hM T; clear F S; (try rw [HL.out] at hM); clear HL; (try simp [Act.put, Act.eval, Value.cells, splice] at hM); have HL := Lib.hid hM; clear hM; have S := T; clear T; have F := factsAll HL S; (try simp only [factsOf, cellsFrom, and_true, true_and, Nat.reduceAdd] at F)) | (go_at_call 82; refine (C_spec_SharedValid _ _ _).mono ?_; rintro e w ⟨rfl, hb⟩; replace S := S.grow hb; clear hb) | (go_at_call 80; refine (C_rnd' _ _).mono ?_; rintro e w' ⟨rfl, rfl⟩))
        go_ret
        rw [EE.out]
        rw [HL.out] at S
        exact ⟨_, 0, rfl, rfl, by omega, S.sub (.cons_cons _ (.cons _ (.refl _)))⟩
      | true =>
      by_cases hbig : n > 1000
      · have EE := Lib.hid (openMs_big (r := r) (zs := zs) hbig)
        go_wp2_with (first | (refine wpList_empty rfl S _ rfl 99 Try.underlying28 infoMsg ?_; intro g w L hM T; clear F S; (try rw [HL.out] at hM); clear HL; (try simp [Act.put, Act.eval, Value.cells, splice] at hM); have HL := Lib.hid hM; clear hM; have S := T; clear T; have F := factsAll HL S; (try simp only [factsOf, cellsFrom, and_true, true_and, Nat.reduceAdd] at F)) | (go_at_call 82; refine (C_spec_SharedValid _ _ _).mono ?_; rintro e w ⟨rfl, hb⟩; replace S := S.grow hb; clear hb) | (go_at_call 80; refine (C_rnd' _ _).mono ?_; rintro e w' ⟨rfl, rfl⟩))
        go_ret
        rw [EE.out]
        rw [HL.out] at S
        exact ⟨_, 0, rfl, rfl, by omega, S.sub (.cons_cons _ (.cons _ (.refl _)))⟩
      have HRN := Lib.hid (And.intro hr (by omega : n ≤ 1000))
      go_upto_region 7 with (first | (go_at_call 82; refine (C_spec_SharedValid _ _ _).mono ?_; rintro e w ⟨rfl, hb⟩; replace S := S.grow hb; clear hb) | (go_at_call 80; refine (C_rnd' _ _).mono ?_; rintro e w' ⟨rfl, rfl⟩))
      clear ho hr
      clear d0 d1
      have hT := congrArg List.tail HL.out; simp only [List.tail_cons] at hT; obtain ⟨L1, hL1⟩ : ∃ M, M = L.tail := ⟨_, rfl⟩; rw [← hL1] at hT; have HL0 := Lib.hid hT; have S1 := S.sub (List.tail_sublist L); rw [← hL1] at S1; have F0 := factsAll HL0 S1; (try simp only [factsOf, cellsFrom, and_true, true_and, Nat.reduceAdd] at F0); clear S1 hL1 hT; (have d0 := fun w' (S' : St w0 w' L1) => (S'.below.cell (p := ⟨b, off + k * 2, none⟩) hb).trans D0.out); (have d1 := fun w' (S' : St w0 w' L1) => (S'.below.cell (p := ⟨b, off + k * 2 + 1, none⟩) hb).trans D1.out); refine wp_region_tree (S := fun w' => St w0 w' L1) (.calm 0 (.calm 1 (.calm 2 (.calm 3 (.calm 4 (.calm 5 (.calm 6 (.calm 7 (.calm 8 (.calm 9 (.calm 10 (.calm 11 (.calm 12 (.calm 13 (.calm 14 (.act 15 (.act 16 (.calm 17 .fin) .stop) .stop)))))))))))))))) (by kernel_rfl) (by kernel_rfl) (by kernel_rfl) (by intro c a d v w h; cases d <;> exact h) ?_; replace S := S.drew
      repeat (first | (first | (refine tree_calm (v := ?_) ?_ rfl (by decide +kernel) rfl ?_ ?_; rotate_left; (focus (first | exact S | (refine S.sub (subL HL0 HL ?_); (repeat (first | exact List.Sublist.refl _ | apply List.Sublist.cons)); done))); (focus (intro w' hS'; (try dsimp only at hS'); go_simp; try rfl)); (try simp only [Act.put, List.setIfInBounds_toArray, List.set_cons_zero, List.set_cons_succ])) | (refine tree_any (v := ?_) ?_ rfl rfl ?_ ?_; rotate_left; (focus (first | exact S | (refine S.sub (subL HL0 HL ?_); (repeat (first | exact List.Sublist.refl _ | apply List.Sublist.cons)); done))); (focus (intro w'; go_simp; try rfl)); (try simp only [Act.put, List.setIfInBounds_toArray, List.set_cons_zero, List.set_cons_succ]))) | (refine tree_skip ?_ rfl rfl ?_; (focus (first | exact S | (refine S.sub (subL HL0 HL ?_); (repeat (first | exact List.Sublist.refl _ | apply List.Sublist.cons)); done))); (try simp only [Act.put, List.setIfInBounds_toArray, List.set_cons_zero, List.set_cons_succ])) | (refine tree_act rfl rfl ?_ tree_stop; intro K hK; (refine wp_lit33 S _ _ _ rfl 99 Try.underlying28 infoMsg _ _ _ _ _ _ rfl rfl ?_; intro g w L hM T; clear F S; (try rw [HL.out] at hM); clear HL; (try simp [Act.put, Act.eval, Value.cells, splice] at hM); have HL := Lib.hid hM; clear hM; have S := T; clear T; have F := factsAll HL S; (try simp only [factsOf, cellsFrom, and_true, true_and, Nat.reduceAdd] at F)); (refine hK.out _ _ ?_ ?_; (focus (first | exact fun _ => S | (intro _; refine S.sub (subL HL0 HL ?_); (repeat (first | exact List.Sublist.refl _ | apply List.Sublist.cons)); done) | (refine sink_no ?_; kernel_rfl))); clear hK K; (try simp only [Act.put, List.setIfInBounds_toArray, List.set_cons_zero, List.set_cons_succ]))) | (refine tree_act rfl rfl ?_ tree_stop; intro K hK; (refine wp_append_box S _ _ _ rfl 99 _ 3 24 Try.underlying28 infoMsg rfl (by omega) 1 _ _ _ rfl (atOf HL rfl) (by omega) 0 _ _ _ _ _ rfl (atOf HL rfl) rfl rfl rfl rfl ?_; intro u w L hM T; clear F S; (try rw [HL.out] at hM); clear HL; (try simp [Act.put, Act.eval, Value.cells, splice] at hM); have HL := Lib.hid hM; clear hM; have S := T; clear T; have F := factsAll HL S; (try simp only [factsOf, cellsFrom, and_true, true_and, Nat.reduceAdd] at F)); (refine hK.out _ _ ?_ ?_; (focus (first | exact fun _ => S | (intro _; refine S.sub (subL HL0 HL ?_); (repeat (first | exact List.Sublist.refl _ | apply List.Sublist.cons)); done) | (refine sink_no ?_; kernel_rfl))); clear hK K; (try simp only [Act.put, List.setIfInBounds_toArray, List.set_cons_zero, List.set_cons_succ]))) | (refine tree_act rfl rfl ?_ tree_stop; intro K hK; go_wp2_with (first | fail); (refine hK.out _ _ ?_ ?_; (focus (first | exact fun _ => S | (intro _; refine S.sub (subL HL0 HL ?_); (repeat (first | exact List.Sublist.refl _ | apply List.Sublist.cons)); done) | (refine sink_no ?_; kernel_rfl))); clear hK K; (try simp only [Act.put, List.setIfInBounds_toArray, List.set_cons_zero, List.set_cons_succ]))))
      refine tree_fin ?_
      clear HL0 F0 d0 d1
      go_wp2
      go_roundw
      case rel =>
        have E : ints (openTo r zs k) ++ [.int .i64 r, .int .i64 1, .int .i64 x0, .int .i64 r, .int .i64 2, .int .i64 x1] = ints (openTo r zs (k + 1)) := by rw [HTO.out, ints_append]; rfl
        rw [HL.out, E] at S
        refine ⟨k + 1, _, by omega, by go_num, Lib.hid (fun j hj => ?_), Lib.hid (fun _ => ⟨trivial, HRN.out.2⟩), Lib.hid rfl, S.sub (.cons _ (.refl _))⟩
        rcases Nat.lt_or_ge j k with h | h
        · exact HO.out j h
        · obtain rfl : j = k := by omega
          exact HOK.out
      case measure => simp [intOf]; omega
    · obtain rfl : k = n := by omega
      have EE : openMs r k zs = openTo r zs k := by
        rcases Nat.eq_zero_or_pos k with rfl | h
        · unfold openMs; split <;> rfl
        · obtain ⟨h1, h2⟩ := HP.out h
          exact openMs_good h1 h2 HO.out
      have HE := Lib.hid EE
      clear EE
      go_wp2
      go_ret
      rw [HE.out]
      rw [HL.out] at S
      have hk2 : 2 * k ≤ 2000 := by
        rcases Nat.eq_zero_or_pos k with rfl | h
        · omega
        · have := (HP.out h).2; omega
      refine ⟨_, 2 * k, ?_, openTo_length r zs k, hk2, S⟩
      rfl
end Go.Proofs.Ytdgeiooacghcoaa
