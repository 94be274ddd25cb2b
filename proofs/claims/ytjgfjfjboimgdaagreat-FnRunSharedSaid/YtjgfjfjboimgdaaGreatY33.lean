/- Ly LyP LyS LyM Wpl LyV LyW MixI -/
import Derived.Test.YtjgfjfjboimgdaaGreatY19
namespace Go.Proofs.YtjgfjfjboimgdaaGreat
set_option linter.unusedSimpArgs false
set_option linter.unusedVariables false
set_option linter.unusedSectionVars false
open Go Go.RowKit
set_option maxHeartbeats 8000000
set_option maxRecDepth 20000
section
def rowM (p : Value × Mx) : Ent := .row 3 1 p.1 p.2.xs.length (ints p.2.xs)
def rowsM (ps : MsO) : List Ent := ps.map rowM
def entsM (u : Value) (ps : MsO) : List Ent := .row 30 3 u ps.length (cellsM ps) :: rowsM ps
theorem cellsM_add (ps qs : MsO) : cellsM (ps ++ qs) = cellsM ps ++ cellsM qs := by simp [cellsM]
theorem rowsM_add (ps qs : MsO) : rowsM (ps ++ qs) = rowsM ps ++ rowsM qs := by simp [rowsM]
theorem sees_ms {w0 w : World} {L : List Ent} (S : St w0 w L) {u : Value} {ps : MsO} (h : ∀ e ∈ entsM u ps, e ∈ L) : SeesMs w u (ps.map Prod.snd) := by
  obtain ⟨hl, A, cap, rfl, hc, hm, hA⟩ := Sees.own (S.own _ (h _ List.mem_cons_self))
  refine ⟨A, cap, by rw [List.length_map], by rw [List.length_map]; exact hc, hm, fun hn => ?_⟩
  rw [List.length_map] at hn
  obtain ⟨b, off, rfl, hb, h3⟩ := hA hn
  refine ⟨b, off, rfl, hb, fun q m hq => ?_⟩
  rw [List.getElem?_map] at hq
  obtain ⟨p, hp, rfl⟩ := Option.map_eq_some_iff.1 hq
  have e : ∀ j, j < 3 → (cellsM ps)[q * 3 + j]? = (cellM p)[j]? := fun j hj => by
    rw [cellsM, chunk_get cellM 3 (fun _ => rfl) ps q j hj, hp]; rfl
  have hr : rowM p ∈ L := h _ (List.mem_cons_of_mem _ (List.mem_map_of_mem (List.mem_of_getElem? hp)))
  have hI := Sees.own (S.own _ hr)
  refine ⟨p.1, ?_, ?_, ?_, hI⟩
  · have := h3 (q * 3) _ ((e 0 (by omega)).trans rfl)
    exact this
  · have := h3 (q * 3 + 1) _ ((e 1 (by omega)).trans rfl)
    rwa [← Nat.add_assoc] at this
  · have := h3 (q * 3 + 2) _ ((e 2 (by omega)).trans rfl)
    rwa [← Nat.add_assoc] at this
end
section
theorem Ly.ok_case {l : Ly} (h : l.ok = true) : LyCase l := by
  obtain ⟨k, ws⟩ := l
  unfold Ly.ok at h
  dsimp only at h
  split at h
  · obtain rfl : k = 2 := by simpa using h
    exact .ramp
  · simp only [Bool.and_eq_true, decide_eq_true_eq] at h
    obtain ⟨rfl, h⟩ := h
    exact .dense _ _ h
  · simp only [Bool.and_eq_true, decide_eq_true_eq] at h
    obtain ⟨rfl, h⟩ := h
    exact .mix _ _ _ h
  · cases h
end
section
theorem zLy : (Tryz.prog.info? 51).bind (·.zero) = some (.agg #[.int .i64 0, .slice none 0 0]) := by kernel_rfl
end
section
section
variable {P : Program} {w0 w : World} {a : Act} {L : List Ent} {o : Oper} {ops : Array Oper} {rest : List Oper} {Q : Exit → Act → World → Prop}
theorem fil3 (C : Array Value) (hC : C.size = 3) (a b c : Value) : Instr.fill (fun i => some (i * 3, 3)) C [(0, .agg #[a, b, c])] = some #[a, b, c] := by
  obtain ⟨l⟩ := C
  match l, hC with
  | [_, _, _], _ => simp [Instr.fill, Value.cells]
end
end
section
section
variable {P : Program} {w0 w : World} {a : Act} {L : List Ent} {o : Oper} {K : Act → World → Prop} {Q : Exit → Act → World → Prop}
theorem wp_litX (S : St w0 w L) (t : TypeId) (x : Operand) (ho : o.op = .buildSlice t 1 #[(0, x)])
    (e : TypeId) (ht : P.underlying t = some (.slice e)) {z : Value} {bytes : Nat} (hi : (P.info? e).map (fun i => (i.zero, i.size, i.bytes)) = some (some z, 3, bytes))
    (c0 c1 c2 : Value) (hx : a.eval x = .agg #[c0, c1, c2])
    (h : ∀ g w' M, M = .box g e [c0, c1, c2] :: L → St w0 w' M → K (a.put o.dst (.slice (some ⟨g, 0, none⟩) 1 1)) w') : o.wp P a w K Q := by
  obtain ⟨i, hi0, hz0, hz1, hz2⟩ := info_parts hi
  refine Go.wp_buildSlice t e 1 _ ho #[c0, c1, c2] i z ht hi0 hz0 (by rw [hz1]; omega) (by rw [hz1]; omega) ?_ (h _ _ _ rfl (S.new e _))
  rw [hz1, Array.toList_map]
  show Instr.fill _ _ [(0, a.eval x)] = _
  rw [hx]
  exact fil3 _ (by simp) _ _ _
end
end
section
theorem first_bad {α : Type} (p : α → Bool) (xs : List α) : ∃ k, k ≤ xs.length ∧ (∀ j x, j < k → xs[j]? = some x → p x = true) ∧ (∀ x, xs[k]? = some x → p x = false ∧ xs.all p = false) ∧ (k = xs.length → xs.all p = true) := by
  induction xs with
  | nil => exact ⟨0, Nat.le_refl _, fun j x h => absurd h (by omega), fun x h => by simp at h, fun _ => rfl⟩
  | cons x xs ih =>
    cases hx : p x with
    | false => exact ⟨0, by simp, fun j x h => absurd h (by omega), fun y h => by simp at h; subst h; exact ⟨hx, by simp [hx]⟩, fun h => absurd h (by simp)⟩
    | true =>
      obtain ⟨k, h1, h2, h3, h4⟩ := ih
      refine ⟨k + 1, by simpa using h1, fun j y hj hy => ?_, fun y hy => ?_, fun h => ?_⟩
      · cases j with
        | zero => simp at hy; subst hy; exact hx
        | succ j => exact h2 j y (by omega) (by simpa using hy)
      · have := h3 y (by simpa using hy)
        exact ⟨this.1, by simp [hx, this.2]⟩
      · have := h4 (by simpa using h)
        simp [hx, this]
theorem bne_of {a b : Int} (h : ¬ a = b) : (a == b) = false := by rw [beq_eq_false_iff_ne]; exact h
theorem C_denseFits (r c : Int) (xs : List Int) (r' c' : Int) (ys : List Int) (u v : Value) (b : Bool) (w0 : World) (h : Ints w0 u xs) (h' : Ints w0 v ys) (hb : denseFit ⟨r, c, xs⟩ ⟨r', c', ys⟩ = b) :
    Calls Tryz.prog 110 #[.agg #[.int .i64 r, .int .i64 c, u], .agg #[.int .i64 r', .int .i64 c', v]] w0 fun e w' => e = .returned (.bool b) ∧ Below w0.heap.size w0 w' := by
  have hb' : ((Mx.mk r c xs).ok && (Mx.mk r' c' ys).ok && decide (c' = 1) && decide (r' = r)) = b := hb
  have H := Lib.hid h
  have H' := Lib.hid h'
  obtain ⟨_, A, cap, rfl, hcap, hmax, _⟩ := h
  obtain ⟨_, A', cap', rfl, hcap', hmax', _⟩ := h'
  clear hb
  cases h1 : (Mx.mk r c xs).ok with
  | false =>
    obtain rfl : b = false := by rw [← hb', h1]; rfl
    clear hb'
    obtain ⟨L, HL, S⟩ := st_start w0; have F : True := trivial
    go_enter Tryz.func110, Tryz.ntmps110
    go_wp2_with (first | (refine qbx HL S ?_; clear F S HL; intro g w L HL S F)  | (refine qst HL S 0 ?_; clear F S HL; intro w L HL S F) | (refine qst HL S 1 ?_; clear F S HL; intro w L HL S F) | (refine qst HL S 2 ?_; clear F S HL; intro w L HL S F) | (refine qst HL S 3 ?_; clear F S HL; intro w L HL S F)  | (go_at_call 70; refine qGr S (C_impl_MatrixValid _ _ _ _ _ _ (by exact H.out.at_ S) (by exact h1)) ?_; clear S; intro w S))
    go_ret
    exact ⟨rfl, S.below⟩
  | true =>
    cases h2 : (Mx.mk r' c' ys).ok with
    | false =>
      obtain rfl : b = false := by rw [← hb', h1, h2]; rfl
      clear hb'
      obtain ⟨L, HL, S⟩ := st_start w0; have F : True := trivial
      go_enter Tryz.func110, Tryz.ntmps110
      go_wp2_with (first | (refine qbx HL S ?_; clear F S HL; intro g w L HL S F)  | (refine qst HL S 0 ?_; clear F S HL; intro w L HL S F) | (refine qst HL S 1 ?_; clear F S HL; intro w L HL S F) | (refine qst HL S 2 ?_; clear F S HL; intro w L HL S F) | (refine qst HL S 3 ?_; clear F S HL; intro w L HL S F)  | (go_at_call 70; refine qGr S (C_impl_MatrixValid _ _ _ _ _ _ (by first | exact H.out.at_ S | exact H'.out.at_ S) (by first | exact h1 | exact h2)) ?_; clear S; intro w S))
      go_ret
      exact ⟨rfl, S.below⟩
    | true =>
      rw [h1, h2] at hb'
      have H1 := Lib.hid h1
      have H2 := Lib.hid h2
      clear h1 h2
      by_cases hr : c' = 1
      · subst hr
        by_cases hc : r' = r
        · subst hc
          obtain rfl : b = true := by rw [← hb']; simp
          clear hb'
          obtain ⟨L, HL, S⟩ := st_start w0; have F : True := trivial
          go_enter Tryz.func110, Tryz.ntmps110
          go_wp2_with (first | (refine qbx HL S ?_; clear F S HL; intro g w L HL S F)  | (refine qst HL S 0 ?_; clear F S HL; intro w L HL S F) | (refine qst HL S 1 ?_; clear F S HL; intro w L HL S F) | (refine qst HL S 2 ?_; clear F S HL; intro w L HL S F) | (refine qst HL S 3 ?_; clear F S HL; intro w L HL S F)  | (go_at_call 70; refine qGr S (C_impl_MatrixValid _ _ _ _ _ _ (by first | exact H.out.at_ S | exact H'.out.at_ S) (by first | exact H1.out | exact H2.out)) ?_; clear S; intro w S))
          go_ret
          exact ⟨rfl, S.below⟩
        · obtain rfl : b = false := by rw [← hb']; simp [hc]
          clear hb'
          have hne := bne_of hc
          obtain ⟨L, HL, S⟩ := st_start w0; have F : True := trivial
          go_enter Tryz.func110, Tryz.ntmps110
          go_wp2_with (first | (refine qbx HL S ?_; clear F S HL; intro g w L HL S F)  | (refine qst HL S 0 ?_; clear F S HL; intro w L HL S F) | (refine qst HL S 1 ?_; clear F S HL; intro w L HL S F) | (refine qst HL S 2 ?_; clear F S HL; intro w L HL S F) | (refine qst HL S 3 ?_; clear F S HL; intro w L HL S F)  | (go_at_call 70; refine qGr S (C_impl_MatrixValid _ _ _ _ _ _ (by first | exact H.out.at_ S | exact H'.out.at_ S) (by first | exact H1.out | exact H2.out)) ?_; clear S; intro w S))
          go_ret
          exact ⟨rfl, S.below⟩
      · obtain rfl : b = false := by rw [← hb']; simp [hr]
        clear hb'
        have hne := bne_of hr
        obtain ⟨L, HL, S⟩ := st_start w0; have F : True := trivial
        go_enter Tryz.func110, Tryz.ntmps110
        go_wp2_with (first | (refine qbx HL S ?_; clear F S HL; intro g w L HL S F)  | (refine qst HL S 0 ?_; clear F S HL; intro w L HL S F) | (refine qst HL S 1 ?_; clear F S HL; intro w L HL S F) | (refine qst HL S 2 ?_; clear F S HL; intro w L HL S F) | (refine qst HL S 3 ?_; clear F S HL; intro w L HL S F)  | (go_at_call 70; refine qGr S (C_impl_MatrixValid _ _ _ _ _ _ (by first | exact H.out.at_ S | exact H'.out.at_ S) (by first | exact H1.out | exact H2.out)) ?_; clear S; intro w S))
        go_ret
        exact ⟨rfl, S.below⟩
def mixOne (f m : Mx) : Bool := m.ok && decide (m.r = m.c) && (decide (m.r = f.r) && decide (m.c = f.c))
theorem C_mixFits (v : Value) (ms : List Mx) (f : Mx) (b : Bool) (w0 : World) (h : SeesMs w0 v ms) (hf : ms[0]? = some f) (hb : ms.all (mixOne f) = b) :
    Calls Tryz.prog 111 #[v] w0 fun e w' => e = .returned (.bool b) ∧ Below w0.heap.size w0 w' := by
  obtain ⟨A, cap, rfl, hcap, hmax, hA⟩ := h
  obtain ⟨n, hn⟩ : ∃ n, ms.length = n := ⟨_, rfl⟩
  have hn0 : 0 < n := by rw [← hn]; exact (List.getElem?_eq_some_iff.1 hf).1
  rw [hn] at hcap hA ⊢
  obtain ⟨bl, off, rfl, hbl, hc⟩ := hA (by omega)
  have HN := Lib.hid hn
  obtain ⟨p, hp, hall, hbad, hnone⟩ := first_bad (mixOne f) ms
  rw [hn] at hp hnone
  rw [hb] at hbad hnone
  have HALL := Lib.hid hall
  have HBAD := Lib.hid hbad
  have HNONE := Lib.hid hnone
  have HC := Lib.hid hc
  obtain ⟨fr, fc, fs⟩ := f
  obtain ⟨fu, e1, e2, e3, hfu⟩ := hc 0 _ hf
  obtain ⟨_, Af, capf, rfl, hcapf, hmaxf, _⟩ := hfu
  rw [Nat.zero_mul, Nat.add_zero] at e1 e2 e3
  dsimp only at e1 e2 e3
  clear hall hbad hnone hc hA hn hb hf
  unfold maxLen at hmax
  obtain ⟨L, HL, S⟩ := st_start w0; have F : True := trivial
  go_enter Tryz.func111, Tryz.ntmps111
  go_wp2
  clear HL S F
  go_loopw [7] (fun i wr => ∃ (j : Nat), j ≤ p ∧ i = .int .i64 j ∧ St w0 wr []) (fun i _ => n - (intOf i).toNat)
  case atStart => exact ⟨0, Nat.zero_le _, rfl, St.refl _⟩
  case round =>
    obtain ⟨j, hj, rfl, S0⟩ := hrel
    obtain ⟨L, HL, S⟩ := st_name S0
    replace HL := Lib.hid HL
    clear S0
    have F : True := trivial
    by_cases hlt : j < n
    · obtain ⟨m, hm⟩ := some_at HN.out hlt
      obtain ⟨r, c, xs⟩ := m
      obtain ⟨u, c1, c2, c3, hu⟩ := HC.out j _ hm
      dsimp only at c1 c2 c3 hu
      have HU := Lib.hid hu
      obtain ⟨_, A', cap', rfl, hcap', hmax', _⟩ := hu
      have f1 := (S.below.cell (p := ⟨bl, off + j * 3, none⟩) hbl).trans c1
      have f2 := (S.below.cell (p := ⟨bl, off + j * 3 + 1, none⟩) hbl).trans c2
      have f3 := (S.below.cell (p := ⟨bl, off + j * 3 + 2, none⟩) hbl).trans c3
      go_upto_region 4 with (first | (refine qal HL S zMx ?_; clear F S HL; intro g w L HL S F) | (refine qst HL S 0 ?_; clear F S HL; intro w L HL S F))
      clear f1 f2 f3
      have q1 := fun w' (S' : St w0 w' L) => (S'.below.cell (p := ⟨bl, off, none⟩) hbl).trans e1
      have q2 := fun w' (S' : St w0 w' L) => (S'.below.cell (p := ⟨bl, off + 1, none⟩) hbl).trans e2
      have q3 := fun w' (S' : St w0 w' L) => (S'.below.cell (p := ⟨bl, off + 2, none⟩) hbl).trans e3
      by_cases hjp : j < p
      · have hg := HALL.out j _ hjp hm
        simp only [mixOne, Bool.and_eq_true, decide_eq_true_eq] at hg
        obtain ⟨⟨hok, rfl⟩, rfl, rfl⟩ := hg
        have HO := Lib.hid hok
        clear hok hm c1 c2 c3
        have HL0 := HL; have F0 := F; refine wp_region_tree (S := fun w' => St w0 w' L) (.calm 0 (.act 1 (qcs 2 13 (.act 15 (.calm 16 (.calm 17 .fin)) .stop)) .stop)) (by kernel_rfl) (by kernel_rfl) (by kernel_rfl) (by intro c a d v w h; cases d <;> exact h) ?_; dsimp only [qcs, Nat.reduceAdd]; replace S := S.drew
        repeat (first | refine qCa ?_ | refine qAn ?_ | refine qSk ?_ | refine qAs ?_ | (refine tree_act rfl rfl ?_ tree_stop; intro K hK; go_wp2_with (first | (go_at_call 70; refine qGr S (C_impl_MatrixValid _ _ _ _ _ _ (by exact HU.out.at_ S) (by exact HO.out)) ?_; clear S; intro w S) | (go_at_call 116; refine qGr S (C_sameSides _ _ _ _ _ _ true _ (by simp)) ?_; clear S; intro w S)); (refine qKo hK ?_; clear hK K)))
        refine tree_fin ?_
        go_wp2
        go_roundw
        case rel => exact ⟨j + 1, by omega, by go_num, S.sub (List.nil_sublist _)⟩
        case measure => simp [intOf]; omega
      · obtain rfl : j = p := by omega
        obtain ⟨hg, rfl⟩ := HBAD.out _ hm
        have hg' : ((Mx.mk r c xs).ok && decide (r = c) && (decide (r = fr) && decide (c = fc))) = false := hg
        clear hg hm c1 c2 c3
        cases h1 : (Mx.mk r c xs).ok with
        | false =>
          clear hg'
          have HO := Lib.hid h1
          clear h1
          have HL0 := HL; have F0 := F; refine wp_region_tree (S := fun w' => St w0 w' L) (.calm 0 (.act 1 (qcs 2 13 (.act 15 (.calm 16 (.calm 17 .fin)) .stop)) .stop)) (by kernel_rfl) (by kernel_rfl) (by kernel_rfl) (by intro c a d v w h; cases d <;> exact h) ?_; dsimp only [qcs, Nat.reduceAdd]; replace S := S.drew
          repeat (first | refine qCa ?_ | refine qAn ?_ | refine qSk ?_ | refine qAs ?_ | (refine tree_act rfl rfl ?_ tree_stop; intro K hK; go_wp2_with (first | (go_at_call 70; refine qGr S (C_impl_MatrixValid _ _ _ _ _ _ (by exact HU.out.at_ S) (by exact HO.out)) ?_; clear S; intro w S)); (refine qKo hK ?_; clear hK K)))
          refine tree_fin ?_
          go_wp2
          go_ret
          exact ⟨rfl, S.below⟩
        | true =>
          rw [h1, Bool.true_and] at hg'
          have HO := Lib.hid h1
          clear h1
          by_cases h2 : r = c
          · subst h2
            have h3 : (decide (r = fr) && decide (r = fc)) = false := by simpa using hg'
            have H3 := Lib.hid h3
            clear h3 hg'
            have HL0 := HL; have F0 := F; refine wp_region_tree (S := fun w' => St w0 w' L) (.calm 0 (.act 1 (qcs 2 13 (.act 15 (.calm 16 (.calm 17 .fin)) .stop)) .stop)) (by kernel_rfl) (by kernel_rfl) (by kernel_rfl) (by intro c a d v w h; cases d <;> exact h) ?_; dsimp only [qcs, Nat.reduceAdd]; replace S := S.drew
            repeat (first | refine qCa ?_ | refine qAn ?_ | refine qSk ?_ | refine qAs ?_ | (refine tree_act rfl rfl ?_ tree_stop; intro K hK; go_wp2_with (first | (go_at_call 70; refine qGr S (C_impl_MatrixValid _ _ _ _ _ _ (by exact HU.out.at_ S) (by exact HO.out)) ?_; clear S; intro w S) | (go_at_call 116; refine qGr S (C_sameSides _ _ _ _ _ _ false _ (by exact H3.out)) ?_; clear S; intro w S)); (refine qKo hK ?_; clear hK K)))
            refine tree_fin ?_
            go_wp2
            go_ret
            exact ⟨rfl, S.below⟩
          · have hne := bne_of h2
            have hne' : (r != c) = true := by simp [h2]
            clear hg'
            have HL0 := HL; have F0 := F; refine wp_region_tree (S := fun w' => St w0 w' L) (.calm 0 (.act 1 (qcs 2 13 (.act 15 (.calm 16 (.calm 17 .fin)) .stop)) .stop)) (by kernel_rfl) (by kernel_rfl) (by kernel_rfl) (by intro c a d v w h; cases d <;> exact h) ?_; dsimp only [qcs, Nat.reduceAdd]; replace S := S.drew
            repeat (first | refine qCa ?_ | refine qAn ?_ | refine qSk ?_ | refine qAs ?_ | (refine tree_act rfl rfl ?_ tree_stop; intro K hK; go_wp2_with (first | (go_at_call 70; refine qGr S (C_impl_MatrixValid _ _ _ _ _ _ (by exact HU.out.at_ S) (by exact HO.out)) ?_; clear S; intro w S)); (refine qKo hK ?_; clear hK K)))
            refine tree_fin ?_
            go_wp2
            go_ret
            exact ⟨rfl, S.below⟩
    · obtain rfl : j = n := by omega
      obtain rfl : p = j := by omega
      obtain rfl := HNONE.out rfl
      go_wp2
      go_ret
      exact ⟨rfl, S.below⟩
end
section
theorem Ly.ok_shape {k : Int} {ms : List Mx} (h : (Ly.mk k ms).ok = true) : k = 1 ∧ ms.length = 2 ∨ k = 2 ∧ ms.length = 0 ∨ k = 3 ∧ ms.length = 3 := by
  cases Ly.ok_case h with
  | dense w b h => exact .inl ⟨rfl, rfl⟩
  | ramp => exact .inr (.inl ⟨rfl, rfl⟩)
  | mix a b c h => exact .inr (.inr ⟨rfl, rfl⟩)
theorem mixFit_all (a b c : Mx) : mixFit a b c = [a, b, c].all (mixOne a) := by
  rw [Bool.eq_iff_iff]
  by_cases h1 : a.ok = true <;> by_cases h2 : b.ok = true <;> by_cases h3 : c.ok = true <;> simp [mixFit, mixOne, h1, h2, h3] <;> omega
theorem len2 {α : Type} : ∀ {l : List α}, l.length = 2 → ∃ a b, l = [a, b]
  | [a, b], _ => ⟨a, b, rfl⟩
theorem len3 {α : Type} : ∀ {l : List α}, l.length = 3 → ∃ a b c, l = [a, b, c]
  | [a, b, c], _ => ⟨a, b, c, rfl⟩
def IfLy (w : World) (x : Value) (l : Ly) : Prop := match l.ws with
  | [] => x = .iface 151 (.agg #[])
  | [a, b] => ∃ u v, x = .iface 149 (.agg #[.int .i64 a.r, .int .i64 a.c, u, .int .i64 b.r, .int .i64 b.c, v]) ∧ Ints w u a.xs ∧ Ints w v b.xs
  | ms => ∃ u, x = .iface 154 (.agg #[u]) ∧ SeesMs w u ms
theorem C_layerOf (v : Value) (l : Ly) (b : Bool) (wb w0 : World) (hbw : Below wb.heap.size wb w0) (h : SeesMs wb v l.ws) (hb : l.ok = b) :
    Calls Tryz.prog 69 #[.agg #[.int .i64 l.kind, v]] w0 fun e w' => ∃ x, e = .returned (.tuple #[x, .bool b]) ∧ (b = true → IfLy wb x l) ∧ Below w0.heap.size w0 w' := by
  obtain ⟨kind, ms⟩ := l
  dsimp only at h ⊢
  have HW := Lib.hid h
  have H := Lib.hid (h.below hbw)
  obtain ⟨A, cap, rfl, hcap, hmax, hA⟩ := h
  have HA := Lib.hid hA
  clear hA
  unfold maxLen at hmax
  by_cases k1 : kind = 1
  · subst k1
    by_cases hl : ms.length = 2
    · obtain ⟨w, o, rfl⟩ := len2 hl
      obtain ⟨bl, off, rfl, hbl0, hc⟩ := HA.out (by simp)
      have hbl := Nat.lt_of_lt_of_le hbl0 hbw.size
      obtain ⟨r, c, xs⟩ := w
      obtain ⟨r', c', ys⟩ := o
      obtain ⟨u, a1, a2, a3, hu⟩ := hc 0 _ rfl
      obtain ⟨u', d1, d2, d3, hu'⟩ := hc 1 _ rfl
      clear hc HA
      rw [Nat.zero_mul, Nat.add_zero] at a1 a2 a3
      rw [Nat.one_mul] at d1 d2 d3
      dsimp only at a1 a2 a3 hu d1 d2 d3 hu'
      replace a1 := (hbw.cell (p := ⟨bl, off, none⟩) hbl0).trans a1
      replace a2 := (hbw.cell (p := ⟨bl, off + 1, none⟩) hbl0).trans a2
      replace a3 := (hbw.cell (p := ⟨bl, off + 2, none⟩) hbl0).trans a3
      replace d1 := (hbw.cell (p := ⟨bl, off + 3, none⟩) hbl0).trans d1
      replace d2 := (hbw.cell (p := ⟨bl, off + 3 + 1, none⟩) hbl0).trans d2
      replace d3 := (hbw.cell (p := ⟨bl, off + 3 + 2, none⟩) hbl0).trans d3
      have HUW := Lib.hid hu
      have HUW' := Lib.hid hu'
      have HU := Lib.hid (Sees.below hu hbw)
      have HU' := Lib.hid (Sees.below hu' hbw)
      obtain ⟨_, A1, cap1, rfl, hcap1, hmax1, _⟩ := hu
      obtain ⟨_, A2, cap2, rfl, hcap2, hmax2, _⟩ := hu'
      simp only [List.length_cons, List.length_nil, Nat.zero_add, Nat.reduceAdd] at hcap ⊢
      have hfit : denseFit ⟨r, c, xs⟩ ⟨r', c', ys⟩ = b := by simpa [Ly.ok] using hb
      have HF := Lib.hid hfit
      clear hb hfit H HW
      obtain ⟨L, HL, S⟩ := st_start w0; have F : True := trivial
      go_enter Tryz.func69, Tryz.ntmps69
      go_upto_region 1 with (first | (refine qbx HL S ?_; clear F S HL; intro g w L HL S F))
      have q1 := fun w' (S' : St w0 w' L) => (S'.below.cell (p := ⟨bl, off, none⟩) hbl).trans a1
      have q2 := fun w' (S' : St w0 w' L) => (S'.below.cell (p := ⟨bl, off + 1, none⟩) hbl).trans a2
      have q3 := fun w' (S' : St w0 w' L) => (S'.below.cell (p := ⟨bl, off + 2, none⟩) hbl).trans a3
      have q4 := fun w' (S' : St w0 w' L) => (S'.below.cell (p := ⟨bl, off + 3, none⟩) hbl).trans d1
      have q5 := fun w' (S' : St w0 w' L) => (S'.below.cell (p := ⟨bl, off + 3 + 1, none⟩) hbl).trans d2
      have q6 := fun w' (S' : St w0 w' L) => (S'.below.cell (p := ⟨bl, off + 3 + 2, none⟩) hbl).trans d3
      have HL0 := HL; have F0 := F; refine wp_region_tree (S := fun w' => St w0 w' L) (qcs 0 18 (.act 18 (.calm 19 (.calm 20 .fin)) .stop)) (by kernel_rfl) (by kernel_rfl) (by kernel_rfl) (by intro c a d v w h; cases d <;> exact h) ?_; dsimp only [qcs, Nat.reduceAdd]; replace S := S.drew
      repeat (first | refine qCa ?_ | refine qAn ?_ | refine qSk ?_ | refine qAs ?_ | (refine tree_act rfl rfl ?_ tree_stop; intro K hK; go_wp2_with (first | (go_at_call 110; refine qGr S (C_denseFits _ _ _ _ _ _ _ _ b _ (by exact HU.out.at_ S) (by exact HU'.out.at_ S) (by exact HF.out)) ?_; clear S; intro w S)); (refine qKo hK ?_; clear hK K)))
      refine tree_fin ?_
      clear HL0 F0
      cases b with
      | false =>
        go_wp2_with (first | (refine qbx HL S ?_; clear F S HL; intro g w L HL S F)  | (refine qst HL S 0 ?_; clear F S HL; intro w L HL S F) | (refine qst HL S 1 ?_; clear F S HL; intro w L HL S F) | (refine qst HL S 2 ?_; clear F S HL; intro w L HL S F) | (refine qst HL S 3 ?_; clear F S HL; intro w L HL S F)  )
        refine ret2 rfl (show _ = _ from rfl) (show _ = _ from rfl) rfl ?_
        exact ⟨_, rfl, fun h => absurd h (by simp), S.below⟩
      | true =>
        go_wp2
        have HL0 := HL; have F0 := F; refine wp_region_tree (S := fun w' => St w0 w' L) (qcs 0 12 .fin) (by kernel_rfl) (by kernel_rfl) (by kernel_rfl) (by intro c a d v w h; cases d <;> exact h) ?_; dsimp only [qcs, Nat.reduceAdd]; replace S := S.drew
        repeat (first | refine qCa ?_ | refine qAn ?_ | refine qSk ?_ | refine qAs ?_ | (refine tree_act rfl rfl ?_ tree_stop; intro K hK; go_wp2_with (first | fail); (refine qKo hK ?_; clear hK K)))
        refine tree_fin ?_
        go_wp2
        refine ret2 rfl (show _ = _ from rfl) (show _ = _ from rfl) rfl ?_
        exact ⟨_, rfl, by first | exact fun _ => ⟨_, _, rfl, HUW.out, HUW'.out⟩ | exact ⟨_, _, rfl, HUW.out, HUW'.out⟩, S.below⟩
    · obtain rfl : b = false := by
        rw [← hb, ← Bool.not_eq_true]
        intro h
        have := Ly.ok_shape h
        omega
      obtain ⟨n, hn⟩ : ∃ n, ms.length = n := ⟨_, rfl⟩
      rw [hn] at hl hcap ⊢
      have hne : ((n : Int) == 2) = false := bne_of (by omega)
      clear HA H HW hn
      obtain ⟨L, HL, S⟩ := st_start w0; have F : True := trivial
      go_enter Tryz.func69, Tryz.ntmps69
      go_upto_region 1 with (first | (refine qbx HL S ?_; clear F S HL; intro g w L HL S F))
      have HL0 := HL; have F0 := F; refine wp_region_tree (S := fun w' => St w0 w' L) (qcs 0 18 (.act 18 (.calm 19 (.calm 20 .fin)) .stop)) (by kernel_rfl) (by kernel_rfl) (by kernel_rfl) (by intro c a d v w h; cases d <;> exact h) ?_; dsimp only [qcs, Nat.reduceAdd]; replace S := S.drew
      repeat (first | refine qCa ?_ | refine qAn ?_ | refine qSk ?_ | refine qAs ?_ | (refine tree_act rfl rfl ?_ tree_stop; intro K hK; go_wp2_with (first | fail); (refine qKo hK ?_; clear hK K)))
      refine tree_fin ?_
      clear HL0 F0
      go_wp2_with (first | (refine qbx HL S ?_; clear F S HL; intro g w L HL S F)  | (refine qst HL S 0 ?_; clear F S HL; intro w L HL S F) | (refine qst HL S 1 ?_; clear F S HL; intro w L HL S F) | (refine qst HL S 2 ?_; clear F S HL; intro w L HL S F) | (refine qst HL S 3 ?_; clear F S HL; intro w L HL S F)  )
      refine ret2 rfl (show _ = _ from rfl) (show _ = _ from rfl) rfl ?_
      exact ⟨_, rfl, fun h => absurd h (by simp), S.below⟩
  by_cases k2 : kind = 2
  · subst k2
    clear k1
    by_cases hl : ms.length = 0
    · obtain rfl := List.length_eq_zero_iff.1 hl
      obtain rfl : b = true := by rw [← hb]; rfl
      clear HA
      simp only [List.length_nil] at hcap ⊢
      obtain ⟨L, HL, S⟩ := st_start w0; have F : True := trivial
      go_enter Tryz.func69, Tryz.ntmps69
      go_upto_region 1 with (first | (refine qbx HL S ?_; clear F S HL; intro g w L HL S F))
      have HL0 := HL; have F0 := F; refine wp_region_tree (S := fun w' => St w0 w' L) (qcs 0 18 (.act 18 (.calm 19 (.calm 20 .fin)) .stop)) (by kernel_rfl) (by kernel_rfl) (by kernel_rfl) (by intro c a d v w h; cases d <;> exact h) ?_; dsimp only [qcs, Nat.reduceAdd]; replace S := S.drew
      repeat (first | refine qCa ?_ | refine qAn ?_ | refine qSk ?_ | refine qAs ?_ | (refine tree_act rfl rfl ?_ tree_stop; intro K hK; go_wp2_with (first | fail); (refine qKo hK ?_; clear hK K)))
      refine tree_fin ?_
      clear HL0 F0
      go_wp2_with (first | (refine qbx HL S ?_; clear F S HL; intro g w L HL S F)  | (refine qst HL S 0 ?_; clear F S HL; intro w L HL S F) | (refine qst HL S 1 ?_; clear F S HL; intro w L HL S F) | (refine qst HL S 2 ?_; clear F S HL; intro w L HL S F) | (refine qst HL S 3 ?_; clear F S HL; intro w L HL S F)  )
      refine ret2 rfl (show _ = _ from rfl) (show _ = _ from rfl) rfl ?_
      exact ⟨_, rfl, by first | exact fun _ => rfl | rfl, S.below⟩
    · obtain rfl : b = false := by
        rw [← hb, ← Bool.not_eq_true]
        intro h
        have := Ly.ok_shape h
        omega
      obtain ⟨n, hn⟩ : ∃ n, ms.length = n := ⟨_, rfl⟩
      rw [hn] at hl hcap ⊢
      have hne : ((n : Int) == 0) = false := bne_of (by omega)
      clear HA H HW hn
      obtain ⟨L, HL, S⟩ := st_start w0; have F : True := trivial
      go_enter Tryz.func69, Tryz.ntmps69
      go_upto_region 1 with (first | (refine qbx HL S ?_; clear F S HL; intro g w L HL S F))
      have HL0 := HL; have F0 := F; refine wp_region_tree (S := fun w' => St w0 w' L) (qcs 0 18 (.act 18 (.calm 19 (.calm 20 .fin)) .stop)) (by kernel_rfl) (by kernel_rfl) (by kernel_rfl) (by intro c a d v w h; cases d <;> exact h) ?_; dsimp only [qcs, Nat.reduceAdd]; replace S := S.drew
      repeat (first | refine qCa ?_ | refine qAn ?_ | refine qSk ?_ | refine qAs ?_ | (refine tree_act rfl rfl ?_ tree_stop; intro K hK; go_wp2_with (first | fail); (refine qKo hK ?_; clear hK K)))
      refine tree_fin ?_
      clear HL0 F0
      go_wp2_with (first | (refine qbx HL S ?_; clear F S HL; intro g w L HL S F)  | (refine qst HL S 0 ?_; clear F S HL; intro w L HL S F) | (refine qst HL S 1 ?_; clear F S HL; intro w L HL S F) | (refine qst HL S 2 ?_; clear F S HL; intro w L HL S F) | (refine qst HL S 3 ?_; clear F S HL; intro w L HL S F)  )
      refine ret2 rfl (show _ = _ from rfl) (show _ = _ from rfl) rfl ?_
      exact ⟨_, rfl, fun h => absurd h (by simp), S.below⟩
  by_cases k3 : kind = 3
  · subst k3
    clear k1 k2
    by_cases hl : ms.length = 3
    · obtain ⟨x, y, z, rfl⟩ := len3 hl
      have hfit : [x, y, z].all (mixOne x) = b := by rw [← mixFit_all, ← hb]; simp [Ly.ok]
      have HF := Lib.hid hfit
      clear hb hfit HA
      simp only [List.length_cons, List.length_nil, Nat.zero_add, Nat.reduceAdd] at hcap H HW ⊢
      obtain ⟨L, HL, S⟩ := st_start w0; have F : True := trivial
      go_enter Tryz.func69, Tryz.ntmps69
      go_upto_region 1 with (first | (refine qbx HL S ?_; clear F S HL; intro g w L HL S F))
      have HL0 := HL; have F0 := F; refine wp_region_tree (S := fun w' => St w0 w' L) (qcs 0 18 (.act 18 (.calm 19 (.calm 20 .fin)) .stop)) (by kernel_rfl) (by kernel_rfl) (by kernel_rfl) (by intro c a d v w h; cases d <;> exact h) ?_; dsimp only [qcs, Nat.reduceAdd]; replace S := S.drew
      repeat (first | refine qCa ?_ | refine qAn ?_ | refine qSk ?_ | refine qAs ?_ | (refine tree_act rfl rfl ?_ tree_stop; intro K hK; go_wp2_with (first | fail); (refine qKo hK ?_; clear hK K)))
      refine tree_fin ?_
      clear HL0 F0
      cases b with
      | false =>
        go_wp2_with (first | (refine qbx HL S ?_; clear F S HL; intro g w L HL S F)  | (refine qst HL S 0 ?_; clear F S HL; intro w L HL S F) | (refine qst HL S 1 ?_; clear F S HL; intro w L HL S F) | (refine qst HL S 2 ?_; clear F S HL; intro w L HL S F) | (refine qst HL S 3 ?_; clear F S HL; intro w L HL S F)  | (go_at_call 111; refine qGr S (C_mixFits _ [x, y, z] x false _ (by exact H.out.at_ S) rfl (by exact HF.out)) ?_; clear S; intro w S))
        refine ret2 rfl (show _ = _ from rfl) (show _ = _ from rfl) rfl ?_
        exact ⟨_, rfl, fun h => absurd h (by simp), S.below⟩
      | true =>
        go_wp2_with (first | (refine qbx HL S ?_; clear F S HL; intro g w L HL S F)  | (refine qst HL S 0 ?_; clear F S HL; intro w L HL S F) | (refine qst HL S 1 ?_; clear F S HL; intro w L HL S F) | (refine qst HL S 2 ?_; clear F S HL; intro w L HL S F) | (refine qst HL S 3 ?_; clear F S HL; intro w L HL S F)  | (go_at_call 111; refine qGr S (C_mixFits _ [x, y, z] x true _ (by exact H.out.at_ S) rfl (by exact HF.out)) ?_; clear S; intro w S))
        refine ret2 rfl (show _ = _ from rfl) (show _ = _ from rfl) rfl ?_
        exact ⟨_, rfl, by first | exact fun _ => ⟨_, rfl, HW.out⟩ | exact ⟨_, rfl, HW.out⟩, S.below⟩
    · obtain rfl : b = false := by
        rw [← hb, ← Bool.not_eq_true]
        intro h
        have := Ly.ok_shape h
        omega
      obtain ⟨n, hn⟩ : ∃ n, ms.length = n := ⟨_, rfl⟩
      rw [hn] at hl hcap ⊢
      have hne : ((n : Int) == 3) = false := bne_of (by omega)
      clear HA H HW hn
      obtain ⟨L, HL, S⟩ := st_start w0; have F : True := trivial
      go_enter Tryz.func69, Tryz.ntmps69
      go_upto_region 1 with (first | (refine qbx HL S ?_; clear F S HL; intro g w L HL S F))
      have HL0 := HL; have F0 := F; refine wp_region_tree (S := fun w' => St w0 w' L) (qcs 0 18 (.act 18 (.calm 19 (.calm 20 .fin)) .stop)) (by kernel_rfl) (by kernel_rfl) (by kernel_rfl) (by intro c a d v w h; cases d <;> exact h) ?_; dsimp only [qcs, Nat.reduceAdd]; replace S := S.drew
      repeat (first | refine qCa ?_ | refine qAn ?_ | refine qSk ?_ | refine qAs ?_ | (refine tree_act rfl rfl ?_ tree_stop; intro K hK; go_wp2_with (first | fail); (refine qKo hK ?_; clear hK K)))
      refine tree_fin ?_
      clear HL0 F0
      go_wp2_with (first | (refine qbx HL S ?_; clear F S HL; intro g w L HL S F)  | (refine qst HL S 0 ?_; clear F S HL; intro w L HL S F) | (refine qst HL S 1 ?_; clear F S HL; intro w L HL S F) | (refine qst HL S 2 ?_; clear F S HL; intro w L HL S F) | (refine qst HL S 3 ?_; clear F S HL; intro w L HL S F)  )
      refine ret2 rfl (show _ = _ from rfl) (show _ = _ from rfl) rfl ?_
      exact ⟨_, rfl, fun h => absurd h (by simp), S.below⟩
  obtain rfl : b = false := by
    rw [← hb, ← Bool.not_eq_true]
    intro h
    have := Ly.ok_shape h
    omega
  have e1 := bne_of k1
  have e2 := bne_of k2
  have e3 := bne_of k3
  obtain ⟨n, hn⟩ : ∃ n, ms.length = n := ⟨_, rfl⟩
  rw [hn] at hcap ⊢
  clear HA H HW hn
  obtain ⟨L, HL, S⟩ := st_start w0; have F : True := trivial
  go_enter Tryz.func69, Tryz.ntmps69
  go_upto_region 1 with (first | (refine qbx HL S ?_; clear F S HL; intro g w L HL S F))
  have HL0 := HL; have F0 := F; refine wp_region_tree (S := fun w' => St w0 w' L) (qcs 0 18 (.act 18 (.calm 19 (.calm 20 .fin)) .stop)) (by kernel_rfl) (by kernel_rfl) (by kernel_rfl) (by intro c a d v w h; cases d <;> exact h) ?_; dsimp only [qcs, Nat.reduceAdd]; replace S := S.drew
  repeat (first | refine qCa ?_ | refine qAn ?_ | refine qSk ?_ | refine qAs ?_ | (refine tree_act rfl rfl ?_ tree_stop; intro K hK; go_wp2_with (first | fail); (refine qKo hK ?_; clear hK K)))
  refine tree_fin ?_
  clear HL0 F0
  go_wp2_with (first | (refine qbx HL S ?_; clear F S HL; intro g w L HL S F)  | (refine qst HL S 0 ?_; clear F S HL; intro w L HL S F) | (refine qst HL S 1 ?_; clear F S HL; intro w L HL S F) | (refine qst HL S 2 ?_; clear F S HL; intro w L HL S F) | (refine qst HL S 3 ?_; clear F S HL; intro w L HL S F)  )
  refine ret2 rfl (show _ = _ from rfl) (show _ = _ from rfl) rfl ?_
  exact ⟨_, rfl, fun h => absurd h (by simp), S.below⟩
theorem IfLy.iface {w : World} {x : Value} {l : Ly} (h : IfLy w x l) : ∃ t y, x = .iface t y := by
  unfold IfLy at h
  split at h
  · exact ⟨_, _, h⟩
  · obtain ⟨_, _, h, _⟩ := h
    exact ⟨_, _, h⟩
  · obtain ⟨_, h, _⟩ := h
    exact ⟨_, _, h⟩
end
section
def cutV (xs ys : List Int) (R C D : Nat) : List Int := tab (R * D) (mapV 1 (tab (R * D) (mulAt xs ys C D)))
theorem cutV_len (xs ys : List Int) (R C D : Nat) : (cutV xs ys R C D).length = R * D := tab_length _ _
theorem cutV_all (xs ys : List Int) (R C D : Nat) : (cutV xs ys R C D).all rv = true := tab_all fun q _ => fnAt_rv (getD_rv (tab_all fun q _ => rv_ro _) q)
theorem cutMul_eq (xs ys : List Int) (R C D : Nat) : cutMul ⟨R, C, xs⟩ ⟨C, D, ys⟩ = ⟨R, D, cutV xs ys R C D⟩ := by
  show (⟨(R : Int), (D : Int), tab (tab (R * D) _).length _⟩ : Mx) = _
  rw [tab_length]
  rfl
def mixV (gs bs : List Int) (X q : Nat) : Int := cutR (mulR (gs.getD q 0) (bs.getD (q / X) 0))
def mapL (k : Int) (xs : List Int) : List Int := tab xs.length (mapV k xs)
theorem mapL_all {k : Int} {xs : List Int} (h : xs.all rv = true) : (mapL k xs).all rv = true := tab_all fun q _ => fnAt_rv (getD_rv h q)
theorem mapL_len (k : Int) (xs : List Int) : (mapL k xs).length = xs.length := tab_length _ _
def mixL (a b c xs : List Int) (X Y : Nat) : List Int :=
  cutV (tab (X * X) (mixV (mapL 4 (cutV (cutV xs a X Y Y) (tab (Y * X) (turnV X Y (cutV xs b X Y Y))) X Y X)) (mapL 5 (tab X (sumV (mapL 4 (cutV (cutV xs a X Y Y) (tab (Y * X) (turnV X Y (cutV xs b X Y Y))) X Y X)) X))) X)) (cutV xs c X Y Y) X X Y
theorem mixRun_eq {a b c xs : List Int} {X Y : Nat} (x1 : 1 ≤ X) (x2 : X ≤ 5) (y1 : 1 ≤ Y) (y2 : Y ≤ 5) (hl : xs.length = X * Y) (hx : xs.all rv = true) : mixRun ⟨Y, Y, a⟩ ⟨Y, Y, b⟩ ⟨Y, Y, c⟩ ⟨X, Y, xs⟩ = ⟨X, Y, mixL a b c xs X Y⟩ := by
  have ok : (Mx.mk X Y (cutV xs b X Y Y)).ok = true := Mx.ok_of x1 x2 y1 y2 (cutV_len _ _ _ _ _) (cutV_all _ _ _ _ _)
  have eg : mixG ⟨Y, Y, a⟩ ⟨Y, Y, b⟩ ⟨X, Y, xs⟩ = ⟨X, X, mapL 4 (cutV (cutV xs a X Y Y) (tab (Y * X) (turnV X Y (cutV xs b X Y Y))) X Y X)⟩ := by
    unfold mixG
    rw [cutMul_eq, cutMul_eq, turnMx_ok ok, cutMul_eq]
    rfl
  unfold mixRun
  rw [eg, cutMul_eq]
  generalize hg : mapL 4 (cutV (cutV xs a X Y Y) (tab (Y * X) (turnV X Y (cutV xs b X Y Y))) X Y X) = gs
  have hgl : gs.length = X * X := by rw [← hg, mapL_len, cutV_len]
  have eh : mixH ⟨X, X, gs⟩ = ⟨X, X, tab (X * X) (mixV gs (mapL 5 (tab X (sumV gs X))) X)⟩ := by
    show (⟨(X : Int), (X : Int), tab (tab gs.length (scaleV gs (mapL 5 (tab X (sumV gs X))) X)).length (mapV 1 (tab gs.length (scaleV gs (mapL 5 (tab X (sumV gs X))) X)))⟩ : Mx) = _
    rw [tab_length, hgl]
    congr 1
    refine tab_congr _ _ _ fun q hq => ?_
    unfold mapV
    rw [tab_getD _ _ _ hq]
    rfl
  rw [eh, cutMul_eq]
  unfold mixL
  rw [hg]
end
end Go.Proofs.YtjgfjfjboimgdaaGreat
