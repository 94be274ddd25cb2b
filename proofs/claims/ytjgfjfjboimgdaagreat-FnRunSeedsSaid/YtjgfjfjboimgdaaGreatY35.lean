/- Own Draw Lit MatQ Same SmL -/
import Derived.Great.BuildSlice
import Derived.Test.YtjgfjfjboimgdaaGreatY33
namespace Go.Proofs.YtjgfjfjboimgdaaGreat
set_option linter.unusedSimpArgs false
set_option linter.unusedVariables false
set_option linter.unusedSectionVars false
open Go Go.RowKit
set_option maxHeartbeats 8000000
set_option maxRecDepth 20000
section
set_option maxHeartbeats 1000000
section
variable {P : Program} {w0 w : World} {a : Act} {L : List Ent} {o : Oper} {ops : Array Oper} {rest : List Oper} {Q : Exit → Act → World → Prop}
theorem wpList_litS (hgd : o.guard = none) (S : St w0 w L) (t : TypeId) (len : Nat) (parts : Array (Nat × Operand)) (ho : o.op = .buildSlice t len parts)
    (e : TypeId) (ht : P.underlying t = some (.slice e)) {z : Value} {size bytes : Nat} (hi : (P.info? e).map (fun i => (i.zero, i.size, i.bytes)) = some (some z, size, bytes))
    (cells : Array Value) (hf : ∀ C : Array Value, C.size = len * size → Instr.fill (fun i => some (i * size, size)) C (parts.toList.map fun (i, x) => (i, a.eval x)) = some cells)
    (hpos : 0 < len * size) (hsmall : len * size ≤ 1000)
    (h : ∀ g w' M, M = .box g e cells.toList :: L → St w0 w' M → wpList P ops Q rest (a.put o.dst (.slice (some ⟨g, 0, none⟩) len len)) w') : wpList P ops Q (o :: rest) a w := by
  obtain ⟨i, hi0, hz0, hz1, hz2⟩ := info_parts hi
  refine Go.wpList_buildSlice hgd t e len parts ho cells i z ht hi0 hz0 (by rw [hz1]; omega) (by rw [hz1]; omega) (by rw [hz1, Array.toList_map]; exact hf _ (by simp)) (h _ _ _ rfl (S.new e _))
end
end
section
def PickPost (R : List Ent) (g : Nat) (v : Value) (k m : Int) (w0 : World) (e : Ending) (w' : World) : Prop :=
  ∃ y, e = .returned (.int .i64 y) ∧ (1 ≤ m → 0 ≤ y ∧ y < m) ∧ St w0 w' (.box g 143 [v, .int .i64 (k + 1)] :: R)
def DrawsBool (c : Int) (R : List Ent) (g : Nat) (v : Value) (k : Int) (w0 : World) (e : Ending) (w' : World) : Prop :=
  ∃ (y : Bool) (k' : Int), e = .returned (.bool y) ∧ k ≤ k' ∧ k' ≤ k + c ∧ St w0 w' (.box g 143 [v, .int .i64 k'] :: R)
def DrawsInt (c : Int) (R : List Ent) (g : Nat) (v : Value) (k : Int) (w0 : World) (e : Ending) (w' : World) : Prop :=
  ∃ (y k' : Int), e = .returned (.int .i64 y) ∧ k ≤ k' ∧ k' ≤ k + c ∧ St w0 w' (.box g 143 [v, .int .i64 k'] :: R)
theorem xor_pos {x : Int} (h0 : 0 ≤ x) (h1 : x ≤ 4611686018427387904) : 0 ≤ bits .xor .i64 x (x / 64) ∧ bits .xor .i64 x (x / 64) ≤ 9223372036854775807 := by
  have e1 : (BitVec.ofInt 64 x).toNat = x.toNat := by rw [BitVec.toNat_ofInt]; omega
  have e2 : (BitVec.ofInt 64 (x / 64)).toNat = (x / 64).toNat := by rw [BitVec.toNat_ofInt]; omega
  have e3 : (BitVec.ofInt 64 x ^^^ BitVec.ofInt 64 (x / 64)).toNat < 2 ^ 63 := by
    rw [BitVec.toNat_xor, e1, e2]
    exact Nat.xor_lt_two_pow (by omega) (by omega)
  have e4 : bits .xor .i64 x (x / 64) = IntKind.i64.wrap ((BitVec.ofInt 64 x ^^^ BitVec.ofInt 64 (x / 64)).toNat : Int) := rfl
  rw [e4, IntKind.wrap_i64]
  omega
theorem C_pick (R : List Ent) (g : Nat) (v : Value) (k m : Int) (w0 w1 : World) (S0 : St w0 w1 (.box g 143 [v, .int .i64 k] :: R)) (hB : Bytes w0 v) (hk : 0 ≤ k ∧ k ≤ 1000000000) :
    Calls Tryz.prog 63 #[.pointer (some ⟨g, 0, none⟩), .int .i64 m] w1 (PickPost R g v k m w0) := by
  obtain ⟨A, n, cap, rfl, hcap, hmax, hA⟩ := hB
  obtain ⟨k1, k2⟩ := hk
  unfold maxLen at hmax
  have HA := Lib.hid hA
  clear hA
  obtain ⟨L, HL, S⟩ := st_name S0
  clear S0
  replace HL := Lib.hid HL
  have F := factsAll HL S
  simp only [factsOf, cellsFrom, and_true, true_and, Nat.reduceAdd] at F
  by_cases hm : m < 1
  · go_enter Tryz.func63, Tryz.ntmps63
    go_wp2_with (first | (refine qbx HL S ?_; clear F S HL; intro g w L HL S F)  | (refine qst HL S 0 ?_; clear F S HL; intro w L HL S F) | (refine qst HL S 1 ?_; clear F S HL; intro w L HL S F) | (refine qst HL S 2 ?_; clear F S HL; intro w L HL S F) | (refine qst HL S 3 ?_; clear F S HL; intro w L HL S F)  )
    go_ret
    rw [HL.out] at S
    exact ⟨0, rfl, fun h => absurd h (by omega), S⟩
  by_cases hn : n = 0
  · subst hn
    go_enter Tryz.func63, Tryz.ntmps63
    go_wp2_with (first | (refine qbx HL S ?_; clear F S HL; intro g w L HL S F)  | (refine qst HL S 0 ?_; clear F S HL; intro w L HL S F) | (refine qst HL S 1 ?_; clear F S HL; intro w L HL S F) | (refine qst HL S 2 ?_; clear F S HL; intro w L HL S F) | (refine qst HL S 3 ?_; clear F S HL; intro w L HL S F)  )
    go_ret
    rw [HL.out] at S
    refine ⟨0, rfl, ?_, S⟩
    first | (intro _; exact ⟨by omega, by omega⟩) | exact ⟨by omega, by omega⟩
  obtain ⟨b, off, rfl, hb, hc⟩ := HA.out (by omega)
  by_cases hkn : k < n
  · obtain ⟨j, rfl⟩ : ∃ j : Nat, k = j := ⟨k.toNat, by omega⟩
    obtain ⟨z, z0, z1, hz⟩ := hc j (by omega)
    clear hc
    go_enter Tryz.func63, Tryz.ntmps63
    go_upto_region 6 with (first | (refine qst HL S 0 ?_; clear F S HL; intro w L HL S F))
    have c := (S.below.cell (p := ⟨b, off + j, none⟩) hb).trans hz
    go_wp2
    go_ret
    rw [HL.out] at S
    refine ⟨z % m, rfl, ?_, S⟩
    first | (intro _; exact ⟨Int.emod_nonneg _ (by omega), Int.emod_lt_of_pos _ (by omega)⟩) | exact ⟨Int.emod_nonneg _ (by omega), Int.emod_lt_of_pos _ (by omega)⟩
  · obtain ⟨j, rfl⟩ : ∃ j : Nat, k = j := ⟨k.toNat, by omega⟩
    have hn0 : 0 < n := by omega
    obtain ⟨z, z0, z1, hz⟩ := hc (j % n) (Nat.mod_lt _ hn0)
    obtain ⟨y, y0, y1, hy⟩ := hc ((j * 7 + 3) % n) (Nat.mod_lt _ hn0)
    have a1 := Nat.mod_lt j hn0
    have a2 := Nat.mod_lt (j * 7 + 3) hn0
    have a3 : j / n ≤ j := Nat.div_le_self _ _
    have e57 : (j : Int).tmod (n : Int) = ((j % n : Nat) : Int) := by rw [Int.tmod_eq_emod_of_nonneg (by omega)]; rfl
    have e74 : ((j : Int) * 7 + 3).tmod (n : Int) = (((j * 7 + 3) % n : Nat) : Int) := by rw [Int.tmod_eq_emod_of_nonneg (by omega)]; rfl
    have e89 : (j : Int).tdiv (n : Int) = ((j / n : Nat) : Int) := by rw [Int.tdiv_eq_ediv_of_nonneg (by omega)]; rfl
    generalize j % n = i1 at *
    generalize (j * 7 + 3) % n = i2 at *
    generalize j / n = d at *
    clear hc
    go_enter Tryz.func63, Tryz.ntmps63
    go_upto_region 7 with (first | (refine qst HL S 0 ?_; clear F S HL; intro w L HL S F))
    have c1 := fun w' (S' : St w0 w' L) => (S'.below.cell (p := ⟨b, off + i1, none⟩) hb).trans hz
    have c2 := fun w' (S' : St w0 w' L) => (S'.below.cell (p := ⟨b, off + i2, none⟩) hb).trans hy
    have hI1 : (i1 : Int) < n := by omega
    have hI2 : (i2 : Int) < n := by omega
    have hne : ((n : Int) == 0) = false := by rw [beq_eq_false_iff_ne]; omega
    have hne' : ¬ ((n : Int) = 0) := by omega
    have g1 : IntKind.i64.wrap z = z := wrap_small (by omega)
    have g0 : IntKind.i64.wrap (d : Int) = d := wrap_small (by omega)
    have g2 : IntKind.i64.wrap y = y := wrap_small (by omega)
    have g3 : IntKind.i64.wrap (z * 131) = z * 131 := wrap_small (by omega)
    have g4 : IntKind.i64.wrap ((j : Int) * 7) = (j : Int) * 7 := wrap_small (by omega)
    have g5 : IntKind.i64.wrap ((j : Int) * 7 + 3) = (j : Int) * 7 + 3 := wrap_small (by omega)
    have g6 : IntKind.i64.wrap (y * 1117) = y * 1117 := wrap_small (by omega)
    have g7 : IntKind.i64.wrap (z * 131 + y * 1117) = z * 131 + y * 1117 := wrap_small (by omega)
    have g8 : IntKind.i64.wrap ((j : Int) * 29) = (j : Int) * 29 := wrap_small (by omega)
    have g9 : IntKind.i64.wrap (z * 131 + y * 1117 + (j : Int) * 29) = z * 131 + y * 1117 + (j : Int) * 29 := wrap_small (by omega)
    have g10 : IntKind.i64.wrap ((d : Int) * 53) = (d : Int) * 53 := wrap_small (by omega)
    have g11 : IntKind.i64.wrap (z * 131 + y * 1117 + (j : Int) * 29 + (d : Int) * 53) = z * 131 + y * 1117 + (j : Int) * 29 + (d : Int) * 53 := wrap_small (by omega)
    have HL0 := HL; have F0 := F; refine wp_region_tree (S := fun w' => St w0 w' L) (qcs 0 46 .fin) (by kernel_rfl) (by kernel_rfl) (by kernel_rfl) (by intro c a d v w h; cases d <;> exact h) ?_; dsimp only [qcs, Nat.reduceAdd]; replace S := S.drew
    repeat (first | refine qCa ?_ | refine qAn ?_ | refine qSk ?_ | (refine tree_act rfl rfl ?_ tree_stop; intro K hK; go_wp2_with (first | fail); (refine qKo hK ?_; clear hK K)))
    refine tree_fin ?_
    clear g0 g1 g2 g3 g4 g5 g6 g7 g8 g9 g10 g11 e57 e74 e89 c1 c2
    have hq := xor_pos (x := z * 131 + y * 1117 + (j : Int) * 29 + (d : Int) * 53) (by omega) (by omega)
    go_wp2
    go_ret
    rw [HL.out] at S
    refine ⟨_, rfl, ?_, S⟩
    clear hq
    first | (intro _; exact ⟨Int.emod_nonneg _ (by omega), Int.emod_lt_of_pos _ (by omega)⟩) | exact ⟨Int.emod_nonneg _ (by omega), Int.emod_lt_of_pos _ (by omega)⟩
theorem C_odd (R : List Ent) (g : Nat) (v : Value) (k m : Int) (w0 w1 : World) (S0 : St w0 w1 (.box g 143 [v, .int .i64 k] :: R)) (hB : Bytes w0 v) (hk : 0 ≤ k ∧ k ≤ 1000000000) :
    Calls Tryz.prog 65 #[.pointer (some ⟨g, 0, none⟩), .int .i64 m] w1 (DrawsBool 1 R g v k w0) := by
  have HB := Lib.hid hB
  obtain ⟨k1, k2⟩ := hk
  clear hB
  obtain ⟨L, HL, S⟩ := st_name S0
  clear S0
  replace HL := Lib.hid HL
  have F := factsAll HL S
  simp only [factsOf, cellsFrom, and_true, true_and, Nat.reduceAdd] at F
  by_cases hm : 0 < m
  · go_enter Tryz.func65, Tryz.ntmps65
    go_wp2_with (first | (refine qbx HL S ?_; clear F S HL; intro g w L HL S F)  | (refine qst HL S 0 ?_; clear F S HL; intro w L HL S F) | (refine qst HL S 1 ?_; clear F S HL; intro w L HL S F) | (refine qst HL S 2 ?_; clear F S HL; intro w L HL S F) | (refine qst HL S 3 ?_; clear F S HL; intro w L HL S F)  | ((go_at_call 63; refine (C_pick _ _ _ _ _ w0 _ (S.front qAt) HB.out ⟨by omega, by omega⟩).mono ?_; rintro e w ⟨y, rfl, hy0, T0⟩; obtain ⟨L, hM, T⟩ := st_name T0; clear T0; clear F S; (try rw [HL.out] at hM); clear HL; (try simp only [List.eraseIdx_cons_zero, List.eraseIdx_cons_succ] at hM); have HL := Lib.hid hM; clear hM; have S := T; clear T; have F := qFc HL S); have hy := hy0 (by omega); clear hy0))
    go_ret
    exact ⟨_, k + 1, rfl, by omega, by omega, (by rw [HL.out] at S; exact S.sub (by first | exact .refl _ | exact .cons_cons _ (.refl _) | (refine .cons_cons _ ?_; repeat (first | exact .refl _ | refine .cons _ ?_)) | (repeat (first | exact .refl _ | exact .cons_cons _ (.refl _) | refine .cons _ ?_))))⟩
  · go_enter Tryz.func65, Tryz.ntmps65
    go_wp2_with (first | (refine qbx HL S ?_; clear F S HL; intro g w L HL S F)  | (refine qst HL S 0 ?_; clear F S HL; intro w L HL S F) | (refine qst HL S 1 ?_; clear F S HL; intro w L HL S F) | (refine qst HL S 2 ?_; clear F S HL; intro w L HL S F) | (refine qst HL S 3 ?_; clear F S HL; intro w L HL S F)  )
    go_ret
    exact ⟨_, k, rfl, by omega, by omega, (by rw [HL.out] at S; exact S.sub (by first | exact .refl _ | exact .cons_cons _ (.refl _) | (refine .cons_cons _ ?_; repeat (first | exact .refl _ | refine .cons _ ?_)) | (repeat (first | exact .refl _ | exact .cons_cons _ (.refl _) | refine .cons _ ?_))))⟩
def Opens (w0 w1 : World) (e : Ending) (w' : World) : Prop := ∃ g v', e = .returned (.pointer (some ⟨g, 0, none⟩)) ∧ Bytes w0 v' ∧ St w1 w' [.box g 143 [v', .int .i64 0]]
theorem C_l20Open (v : Value) (w0 w1 : World) (h : Bytes w0 v) : Calls Tryz.prog 62 #[v] w1 (Opens w0 w1) := by
  have HB := h
  obtain ⟨A, n, cap, rfl, hcap, hmax, hA⟩ := h
  have HM := Lib.hid hmax
  unfold maxLen at hmax
  by_cases hbig : n > 2000
  · obtain ⟨b, off, rfl, hb, hc⟩ := hA (by omega)
    clear hA
    have HC := Lib.hid hc
    clear hc HB
    obtain ⟨L, HL, S⟩ := st_start w1; have F : True := trivial
    go_enter Tryz.func62, Tryz.ntmps62
    go_wp2_with (first | (refine qbx HL S ?_; clear F S HL; intro g w L HL S F)  | (refine qst HL S 0 ?_; clear F S HL; intro w L HL S F) | (refine qst HL S 1 ?_; clear F S HL; intro w L HL S F) | (refine qst HL S 2 ?_; clear F S HL; intro w L HL S F) | (refine qst HL S 3 ?_; clear F S HL; intro w L HL S F)  )
    go_ret
    rw [HL.out] at S
    exact ⟨_, _, rfl, ⟨_, 2000, cap, rfl, by omega, HM.out, fun _ => ⟨b, off, rfl, hb, fun j hj => HC.out j (by omega)⟩⟩, S⟩
  · have HH := Lib.hid HB
    clear hA HB
    obtain ⟨L, HL, S⟩ := st_start w1; have F : True := trivial
    go_enter Tryz.func62, Tryz.ntmps62
    go_wp2_with (first | (refine qbx HL S ?_; clear F S HL; intro g w L HL S F)  | (refine qst HL S 0 ?_; clear F S HL; intro w L HL S F) | (refine qst HL S 1 ?_; clear F S HL; intro w L HL S F) | (refine qst HL S 2 ?_; clear F S HL; intro w L HL S F) | (refine qst HL S 3 ?_; clear F S HL; intro w L HL S F)  )
    go_ret
    rw [HL.out] at S
    exact ⟨_, _, rfl, HH.out, S⟩
end
section
section
variable {P : Program} {w0 w : World} {a : Act} {L : List Ent} {o : Oper} {ops : Array Oper} {rest : List Oper} {Q : Exit → Act → World → Prop}
theorem wpList_load_lit (hgd : o.guard = none) (S : St w0 w L) (ty : TypeId) (ad : Operand) (ho : o.op = .load ty ad) (hty : P.underlying ty = some (.int .i64)) (p g : Nat) (t : TypeId) (cs : List Value) (i : Nat) (hp : At L p (.box g t cs))
    (had : a.eval ad = .pointer (some ⟨g, i, none⟩)) (hall : ∀ v ∈ cs, ∃ q : Int, v = .int .i64 q) (hi : i < cs.length)
    (h : ∀ q : Int, Value.int .i64 q ∈ cs → wpList P ops Q rest (a.put o.dst (.int .i64 q)) w) : wpList P ops Q (o :: rest) a w := by
  have hc := S.cell hp i
  rw [List.getElem?_eq_getElem hi] at hc
  obtain ⟨q, hq⟩ := hall _ (List.getElem_mem hi)
  have hq' : Value.int .i64 q ∈ cs := by rw [← hq]; exact List.getElem_mem hi
  rw [hq] at hc
  refine wpList_plain hgd fun _ hK => ?_
  unfold Oper.wp
  simp only [execOp, ho, had]
  simp [Instr.loadAt, Instr.sureAddr, loadVar, isAgg, Sem.run_bind, run_underlying hty, hc]
  exact hK _ _ (h q hq')
end
end
section
theorem C_spec_SplitMatrix (R C N : Nat) (xs : List Int) (u : Value) (s : Int) (w0 : World) (h : Ints w0 u xs) (hs : seedOk s = true) (r1 : 1 ≤ R) (r2 : R ≤ 5) (c1 : 1 ≤ C) (c2 : C ≤ 5) (hRC : R * C = N) (hN : xs.length = N) (hN2 : N ≤ 25) (a1 : xs.all rv = true) :
    Calls Tryz.prog 107 #[.agg #[.int .i64 R, .int .i64 C, u], .int .i64 s] w0 fun e w => ∃ u v, e = .returned (.tuple #[.agg #[.int .i64 R, .int .i64 C, u, .int .i64 R, .int .i64 C, v], .int .i64 (seedAt s N)]) ∧ St w0 w [.row 3 1 v N (ints (tab N (subV xs (rndTo s N)))), .row 3 1 u N (ints (rndTo s N))] := by
  have HU := Lib.hid h
  obtain ⟨_, A1, k1, rfl, hk1, hm1, _⟩ := h
  have CO := fun w h => C_l1OwnMatrix R C xs (.slice A1 xs.length k1) w h (by omega)
  have CR := fun w => C_spec_RandomMatrix R C N s w hs r1 r2 c1 c2 hRC hN2
  have CB := fun u v w h h' => C_spec_SubMatrices R C N xs (rndTo s N) u v w h h' r1 r2 c1 c2 hRC hN (rndTo_length s N) hN2 a1 (rndTo_all s N)
  have hok : (Mx.mk R C xs).ok = true := Mx.ok_of r1 r2 c1 c2 (by rw [hN, hRC]) a1
  unfold MakesMx at CO CB
  rw [tab_length] at CB
  have HK := Lib.hid hok
  have HSd := Lib.hid (show (decide (1 ≤ s) && decide (s ≤ 2147483646)) = true from hs)
  clear hok hs hRC a1
  have hl := rndTo_length s N
  generalize tab N (subV xs (rndTo s N)) = zs at CB ⊢
  generalize rndTo s N = rs at CR CB hl ⊢
  have HLr := Lib.hid hl
  have HN := Lib.hid hN
  clear hl hN
  obtain ⟨L, HL, S⟩ := st_start w0; have F : True := trivial
  go_enter Tryz.func107, Tryz.ntmps107
  go_upto_region 2 with (first | (refine qbd 2 HL S ?_; clear F S HL; intro gm w L HL S F) | (refine qal HL S zSMx ?_; clear F S HL; intro gr w L HL S F) | (refine qst HL S 2 ?_; clear F S HL; intro w L HL S F) | (go_at_call 88; refine (CO _ (HU.out.at_ S)).mono ?_; rintro e w ⟨u, rfl, T0⟩; have hX := qcl HL S T0; clear F S HL T0; obtain ⟨L, HL, S, F⟩ := hX; obtain ⟨A', cap', rfl, hcap', hmax'⟩ := qSl HL S 0))
  go_upto_region 4 with (first | (go_at_call 95; refine qGr S (C_spec_MatrixValid _ _ _ _ _ _ (by exact (Sees.row S qAt).ints) (by exact HK.out)) ?_; clear S; intro w S) | (go_at_call 44; refine qPu (C_in' _ _ _ _ _ (by exact HSd.out)) ?_))
  go_upto_region 5 with (first | (refine qal HL S zMx ?_; clear F S HL; intro g6 w L HL S F) | (refine qst HL S 0 ?_; clear F S HL; intro w L HL S F) | (refine qst HL S 1 ?_; clear F S HL; intro w L HL S F) | (go_at_call 154; refine (CR _).mono ?_; rintro e w ⟨u, rfl, T0⟩; have hX := qcl HL S T0; clear F S HL T0; obtain ⟨L, HL, S, F⟩ := hX; obtain ⟨A', cap', rfl, hcap', hmax'⟩ := qSl HL S 0))
  clear CR CO
  have T := S.front (atOf HL (p := 3) rfl)
  rw [HL.out] at T
  simp only [List.eraseIdx_cons_zero, List.eraseIdx_cons_succ] at T
  clear S HL F
  have S := T
  clear T
  obtain ⟨L, hM, T⟩ := st_name S; clear S; have S := T; clear T; have HL := Lib.hid hM; clear hM; have F := qFc HL S
  have hT := congrArg List.tail HL.out; simp only [List.tail_cons] at hT; obtain ⟨L1, hL1⟩ : ∃ M, M = L.tail := ⟨_, rfl⟩; rw [← hL1] at hT; have HL0 := Lib.hid hT; have S1 := S.sub (List.tail_sublist L); rw [← hL1] at S1; have F0 := qFc HL0 S1; clear S1 hL1 hT; refine wp_region_tree (S := fun w' => St w0 w' L1) (qcs 0 3 (.calm 5 (.act 3 (.calm 4 (.act 6 (.calm 7 .fin) .stop)) .stop))) (by kernel_rfl) (by kernel_rfl) (by kernel_rfl) (by intro c a d v w h; cases d <;> exact h) ?_; dsimp only [qcs, Nat.reduceAdd]; replace S := S.drew
  repeat (first | refine qCa ?_ | refine qAn ?_ | refine qSk ?_ | (refine tree_act rfl rfl ?_ tree_stop; intro K hK; (refine qsw HL S 1 ?_; clear F S HL; intro w L HL S F); (refine qKo hK ?_; clear hK K)) | (refine tree_act rfl rfl ?_ tree_stop; intro K hK; go_wp2_with (first | (go_at_call 155; refine (CB _ _ _ (by exact (Sees.row S qAt).ints) (by exact (Sees.row S qAt).ints)).mono ?_; rintro e w ⟨u, rfl, T0⟩; have hX := qcl HL S T0; clear F S HL T0; obtain ⟨L, HL, S, F⟩ := hX; obtain ⟨A', cap', rfl, hcap', hmax'⟩ := qSl HL S 0)); (refine qKo hK ?_; clear hK K)))
  refine tree_fin ?_
  clear HL0 F0
  go_wp2
  refine ret2 rfl (resCell S HL 1 rfl rfl (by kernel_rfl)) (show _ = _ from rfl) rfl ?_
  exact ⟨_, _, rfl, (by rw [HL.out] at S; exact S.sub (by repeat (first | exact .refl _ | exact List.nil_sublist _ | apply List.Sublist.cons_cons | apply List.Sublist.cons)))⟩
end
section
theorem C_sameInts (u v : Value) (xs : List Int) (w0 : World) (hu : Ints w0 u xs) (hv : Ints w0 v xs) :
    Calls Tryz.prog 25 #[u, v] w0 fun e w' => e = .returned (.bool true) ∧ Below w0.heap.size w0 w' := by
  obtain ⟨_, A, cap, rfl, hcap, hmax, hA⟩ := hu
  obtain ⟨_, B, cap', rfl, hcap', hmax', hB⟩ := hv
  obtain ⟨n, hx⟩ : ∃ n, xs.length = n := ⟨_, rfl⟩
  rw [hx] at hcap hcap' hA hB ⊢
  have HX := Lib.hid hx
  have HA := Lib.hid hA
  have HB := Lib.hid hB
  clear hA hB hx
  unfold maxLen at hmax hmax'
  obtain ⟨L, HL, S⟩ := st_start w0; have F : True := trivial
  go_enter Tryz.func25, Tryz.ntmps25
  go_wp2
  go_loopw [5] (fun i wr => ∃ (k : Nat), k ≤ n ∧ i = .int .i64 k ∧ St w0 wr L) (fun i _ => n - (intOf i).toNat)
  case atStart => exact ⟨0, Nat.zero_le _, rfl, S⟩
  case round =>
    clear S
    obtain ⟨k, hk, rfl, S⟩ := hrel
    by_cases hlt : k < n
    · obtain ⟨b, off, rfl, hb, hc⟩ := HA.out (by omega)
      obtain ⟨b', off', rfl, hb', hc'⟩ := HB.out (by omega)
      have c1 := fun w' (S' : St w0 w' L) => (S'.below.cell (p := ⟨b, off + k, none⟩) hb).trans (hc k _ (ints_getD xs k (by rw [HX.out]; exact hlt)))
      have c2 := fun w' (S' : St w0 w' L) => (S'.below.cell (p := ⟨b', off' + k, none⟩) hb').trans (hc' k _ (ints_getD xs k (by rw [HX.out]; exact hlt)))
      clear hc hc'
      go_wp2_with fail
      have HL0 := HL; have F0 := F; refine wp_region_tree (S := fun w' => St w0 w' L) (qcs 0 9 .fin) (by kernel_rfl) (by kernel_rfl) (by kernel_rfl) (by intro c a d v w h; cases d <;> exact h) ?_; dsimp only [qcs, Nat.reduceAdd]; replace S := S.drew
      repeat (first | refine qCa ?_ | refine qAn ?_ | refine qSk ?_ | (refine tree_act rfl rfl ?_ tree_stop; intro K hK; go_wp2_with (first | fail); (refine qKo hK ?_; clear hK K)))
      refine tree_fin ?_
      go_wp2
      go_roundw
      case rel => exact ⟨k + 1, by omega, by go_num, S⟩
      case measure => simp [intOf]; omega
    · obtain rfl : k = n := by omega
      go_wp2
      go_ret
      exact ⟨rfl, S.below⟩
theorem C_alive (w0 : World) : Calls Tryz.prog 26 #[] w0 fun e w' => e = .returned (.bool true) ∧ w0 = w' := by
  go_enter Tryz.func26, Tryz.ntmps26
  go_wp2_with (first | (go_at_call 67; refine qPu (C_impl_RingValid _ _) ?_))
  go_ret
  exact ⟨rfl, rfl⟩
end
section
theorem C_sameMxL (r c : Int) (xs : List Int) (u v : Value) (w0 : World) (hu : Ints w0 u xs) (hv : Ints w0 v xs) :
    Calls Tryz.prog 28 #[.agg #[.int .i64 r, .int .i64 c, u], .agg #[.int .i64 r, .int .i64 c, v]] w0 fun e w' => e = .returned (.bool true) ∧ Below w0.heap.size w0 w' := by
  obtain ⟨L, HL, S⟩ := st_start w0; have F : True := trivial
  go_enter Tryz.func28, Tryz.ntmps28
  go_upto_region 1 with (first | (refine qbx HL S ?_; clear F S HL; intro g w L HL S F))
  go_wp2_with (first | (go_at_call 25; refine qGr S (C_sameInts _ _ xs _ (hu.at_ S) (hv.at_ S)) ?_; clear S; intro w S))
  go_ret
  exact ⟨rfl, S.below⟩
theorem C_sameSsL (r c : Int) (xs : List Int) (r' c' : Int) (ys : List Int) (u v u' v' : Value) (w0 : World) (hu : Ints w0 u xs) (hv : Ints w0 v ys) (hu' : Ints w0 u' xs) (hv' : Ints w0 v' ys) :
    Calls Tryz.prog 24 #[.agg #[.int .i64 r, .int .i64 c, u, .int .i64 r', .int .i64 c', v], .agg #[.int .i64 r, .int .i64 c, u', .int .i64 r', .int .i64 c', v']] w0 fun e w' => e = .returned (.bool true) ∧ Below w0.heap.size w0 w' := by
  obtain ⟨L, HL, S⟩ := st_start w0; have F : True := trivial
  go_enter Tryz.func24, Tryz.ntmps24
  go_wp2_with (first | (refine qbx HL S ?_; clear F S HL; intro g w L HL S F)  | (refine qst HL S 0 ?_; clear F S HL; intro w L HL S F) | (refine qst HL S 1 ?_; clear F S HL; intro w L HL S F) | (refine qst HL S 2 ?_; clear F S HL; intro w L HL S F) | (refine qst HL S 3 ?_; clear F S HL; intro w L HL S F)  | (go_at_call 28; refine qGr S (C_sameMxL _ _ _ _ _ _ (by first | exact hu.at_ S | exact hv.at_ S) (by first | exact hu'.at_ S | exact hv'.at_ S)) ?_; clear S; intro w S))
  go_ret
  exact ⟨rfl, S.below⟩
end
end Go.Proofs.YtjgfjfjboimgdaaGreat
