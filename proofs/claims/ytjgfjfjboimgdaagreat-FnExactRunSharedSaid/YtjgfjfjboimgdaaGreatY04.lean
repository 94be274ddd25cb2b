/- Own Draw Lit Rnd Plain Share -/
import Derived.Great.BuildSlice
import Derived.Test.YtjgfjfjboimgdaaGreatY03
namespace Go.Proofs.YtjgfjfjboimgdaaGreat
set_option linter.unusedSimpArgs false
set_option linter.unusedVariables false
set_option linter.unusedSectionVars false
open Go Go.RowKit
set_option maxHeartbeats 8000000
set_option maxRecDepth 20000
section
set_option maxHeartbeats 1000000
theorem size6 : ∀ {l : List Value}, l.length = 6 → ∃ a b c d e f, l = [a, b, c, d, e, f]
  | [a, b, c, d, e, f], _ => ⟨a, b, c, d, e, f, rfl⟩
theorem fill33 (C : Array Value) (hC : C.size = 6) (a b c d e f : Value) : Instr.fill (fun i => some (i * 3, 3)) C [(0, .agg #[a, b, c]), (1, .agg #[d, e, f])] = some #[a, b, c, d, e, f] := by
  obtain ⟨l⟩ := C
  obtain ⟨x0, x1, x2, x3, x4, x5, rfl⟩ := size6 (by simpa using hC)
  simp [Instr.fill, Value.cells]
section
variable {P : Program} {w0 w : World} {a : Act} {L : List Ent} {o : Oper} {ops : Array Oper} {rest : List Oper} {Q : Exit → Act → World → Prop}
theorem wpList_make0 (hgd : o.guard = none) (S : St w0 w L) (l c : Operand) (t : TypeId) (ho : o.op = .makeSlice t l c)
    (e : TypeId) (z : Value) (size bytes : Nat) (ht : P.underlying t = some (.slice e)) (hi : (P.info? e).map (fun i => (i.zero, i.size, i.bytes)) = some (some z, size, bytes))
    (kl kc : IntKind) (N : Int) (n : Nat) (hl : a.eval l = .int kl 0) (hc : a.eval c = .int kc N) (hN : N = (n : Int)) (hb : bytes * n ≤ 281474976710656) (hm : n ≤ maxLen)
    (h : ∀ g w' M, M = .row e size (.slice (some ⟨g, 0, none⟩) 0 n) 0 [] :: L → St w0 w' M → wpList P ops Q rest (a.put o.dst (.slice (some ⟨g, 0, none⟩) 0 n)) w') : wpList P ops Q (o :: rest) a w := by
  obtain ⟨i, hi0, hz0, hz1, hz2⟩ := info_parts hi
  subst hz2
  refine wpList_make_own w hgd l c t ho w.heap.size e i z size ht hi0 hz0 hz1 kl kc N n hl hc hN hb hm (Nat.le_refl _) fun w' hown hg => h w.heap.size w' _ rfl ?_
  have hbl : Below w.heap.size w w' := ⟨hg.os, hg.tape, hg.output, hg.size, fun k hk => hg.block k hk (by simp)⟩
  have T : St w w' [.row e size (.slice (some ⟨w.heap.size, 0, none⟩) 0 n) 0 []] :=
    ⟨hbl, fun e' he => by rw [List.mem_singleton.1 he]; exact hown, List.pairwise_singleton _ _⟩
  exact S.call T
theorem wpList_append_box (hgd : o.guard = none) (S : St w0 w L) (s x : Operand) (t : TypeId) (ho : o.op = .call { callee := .builtin .append, args := #[s, x], argTypes := #[t, t] })
    (e : TypeId) (z : Value) (size bytes : Nat) (ht : P.underlying t = some (.slice e)) (hi : (P.info? e).map (fun i => (i.zero, i.size, i.bytes)) = some (some z, size, bytes))
    (hzs : z.cells.size = size) (hsz : 0 < size) (p n : Nat) (v : Value) (cs : List Value) (hs : a.eval s = v) (hp : At L p (.row e size v n cs)) (hn2 : n ≤ 1000000)
    (q g' m c : Nat) (e' : TypeId) (news : List Value) (hx : a.eval x = .slice (some ⟨g', 0, none⟩) m c) (hq : At L q (.box g' e' news)) (hl : news.length = m * size) (h1 : news.all (·.oneCell') = true)
    (hm2 : Nat.ble m 1000 = true) (hb2 : Nat.ble bytes 1000 = true)
    (h : ∀ v' w' M, M = L.set p (.row e size v' (n + m) (cs ++ news)) → St w0 w' M → wpList P ops Q rest (a.put o.dst v') w') : wpList P ops Q (o :: rest) a w := by
  have hm3 : m ≤ 1000 := by simpa using hm2
  have hb3 : bytes ≤ 1000 := by simpa using hb2
  refine wpList_append hgd S s x t ho p e z size bytes ht hi hzs hsz v n cs hs hp ⟨g', 0, none⟩ m c news hx hl (news_box S hq) h1 (by simp [maxLen]; omega) ?_ h
  have : (n + m) * bytes ≤ 1001000 * 1000 := Nat.mul_le_mul (by omega) hb3
  omega
theorem wp_append_box {K : Act → World → Prop} (S : St w0 w L) (s x : Operand) (t : TypeId) (ho : o.op = .call { callee := .builtin .append, args := #[s, x], argTypes := #[t, t] })
    (e : TypeId) (z : Value) (size bytes : Nat) (ht : P.underlying t = some (.slice e)) (hi : (P.info? e).map (fun i => (i.zero, i.size, i.bytes)) = some (some z, size, bytes))
    (hzs : z.cells.size = size) (hsz : 0 < size) (p n : Nat) (v : Value) (cs : List Value) (hs : a.eval s = v) (hp : At L p (.row e size v n cs)) (hn2 : n ≤ 1000000)
    (q g' m c : Nat) (e' : TypeId) (news : List Value) (hx : a.eval x = .slice (some ⟨g', 0, none⟩) m c) (hq : At L q (.box g' e' news)) (hl : news.length = m * size) (h1 : news.all (·.oneCell') = true)
    (hm2 : Nat.ble m 1000 = true) (hb2 : Nat.ble bytes 1000 = true)
    (h : ∀ v' w' M, M = L.set p (.row e size v' (n + m) (cs ++ news)) → St w0 w' M → K (a.put o.dst v') w') : o.wp P a w K Q := by
  have hm3 : m ≤ 1000 := by simpa using hm2
  have hb3 : bytes ≤ 1000 := by simpa using hb2
  refine wp_append S s x t ho p e z size bytes ht hi hzs hsz v n cs hs hp ⟨g', 0, none⟩ m c news hx hl (news_box S hq) h1 (by simp [maxLen]; omega) ?_ h
  have : (n + m) * bytes ≤ 1001000 * 1000 := Nat.mul_le_mul (by omega) hb3
  omega
end
section
variable {P : Program} {w0 w : World} {a : Act} {L : List Ent} {o : Oper} {ops : Array Oper} {rest : List Oper} {Q : Exit → Act → World → Prop}
theorem run_empty {t e : TypeId} (hu : P.underlying t = some (.slice e)) {z : Option Value} {size bytes : Nat} (hi : (P.info? e).map (fun i => (i.zero, i.size, i.bytes)) = some (z, size, bytes)) (w : World) :
    (Instr.buildSlice t 0 #[]).run P w = .ok (.slice (some ⟨w.heap.size, 0, none⟩) 0 0) (w.alloc (.cells #[] e)) := by
  cases hie : P.info? e with
  | none => simp [hie] at hi
  | some i => simp [Instr.buildSlice, run_underlying hu, sizeOf, typeInfo, hie, newRow, Instr.fill, show Array.range 0 = #[] from rfl]
theorem wpList_empty (hgd : o.guard = none) (S : St w0 w L) (t : TypeId) (ho : o.op = .buildSlice t 0 #[])
    (e : TypeId) (ht : P.underlying t = some (.slice e)) {z : Option Value} {size bytes : Nat} (hi : (P.info? e).map (fun i => (i.zero, i.size, i.bytes)) = some (z, size, bytes))
    (h : ∀ g w' M, M = .row e size (.slice (some ⟨g, 0, none⟩) 0 0) 0 [] :: L → St w0 w' M → wpList P ops Q rest (a.put o.dst (.slice (some ⟨g, 0, none⟩) 0 0)) w') : wpList P ops Q (o :: rest) a w := by
  refine wpList_plain hgd fun _ hK => ?_
  unfold Oper.wp
  simp only [execOp, ho, Sem.run_bind, Array.map_empty, run_empty ht hi w, Result.andThen_ok, Sem.run_pure]
  exact hK _ _ (h _ _ _ rfl ((S.new e []).asRow (p := 0) rfl (by simp) (by simp [maxLen])))
end
theorem Sees.front {w : World} {size n cap : Nat} {A : Option Addr} {xs : List Value} (h : Sees w size (.slice A n cap) n xs) (k : Nat) (hk : k ≤ n) : Sees w size (.slice A k cap) k (xs.take (k * size)) := by
  obtain ⟨h1, A', cap', e, hc, hm, h2⟩ := h
  injection e with e1 e2 e3
  subst e1; subst e3
  have hle : k * size ≤ n * size := Nat.mul_le_mul_right _ hk
  refine ⟨by rw [List.length_take]; omega, A, cap, rfl, by omega, hm, fun hn => ?_⟩
  obtain ⟨b, off, rfl, hlt, h3⟩ := h2 (by omega)
  refine ⟨b, off, rfl, hlt, fun j u hu => h3 j u ?_⟩
  rw [List.getElem?_take] at hu
  split at hu
  · exact hu
  · cases hu
theorem Sees.rest {w : World} {size n cap b off : Nat} {xs : List Value} (h : Sees w size (.slice (some ⟨b, off, none⟩) n cap) n xs) (k m : Nat) (hk : k + m = n) (off' cap' : Nat) (ho : off' = off + k * size) (hc' : m ≤ cap' ∧ cap' ≤ cap) :
    Sees w size (.slice (some ⟨b, off', none⟩) m cap') m (xs.drop (k * size)) := by
  subst hk
  obtain ⟨h1, A', cap0, e, hc, hm, h2⟩ := h
  injection e with e1 e2 e3
  subst e1; subst e3
  have hmul : (k + m) * size = k * size + m * size := Nat.add_mul _ _ _
  refine ⟨by rw [List.length_drop]; omega, _, cap', rfl, hc'.1, by omega, fun hn => ?_⟩
  obtain ⟨b', off0, e, hlt, h3⟩ := h2 (by omega)
  injection e with e
  injection e with e1 e2 e3
  subst e1; subst e2; subst ho
  refine ⟨b, off + k * size, rfl, hlt, fun j u hu => ?_⟩
  rw [List.getElem?_drop] at hu
  have := h3 _ _ hu
  rwa [← Nat.add_assoc] at this
end
section
def Bytes (w : World) (v : Value) : Prop :=
  ∃ A n cap, v = .slice A n cap ∧ n ≤ cap ∧ cap ≤ maxLen ∧ (0 < n → ∃ b off, A = some ⟨b, off, none⟩ ∧ b < w.heap.size ∧ ∀ j, j < n → ∃ z : Int, 0 ≤ z ∧ z < 256 ∧ w.cell? ⟨b, off + j, none⟩ = some (.int .u8 z))
theorem Bytes.below {w w' : World} {v : Value} (h : Bytes w v) (hb : Below w.heap.size w w') : Bytes w' v := by
  obtain ⟨A, n, cap, rfl, hc, hm, h2⟩ := h
  refine ⟨A, n, cap, rfl, hc, hm, fun hn => ?_⟩
  obtain ⟨b, off, rfl, hlt, h3⟩ := h2 hn
  refine ⟨b, off, rfl, Nat.lt_of_lt_of_le hlt hb.size, fun j hj => ?_⟩
  obtain ⟨z, z0, z1, hz⟩ := h3 j hj
  exact ⟨z, z0, z1, (hb.cell (p := ⟨b, off + j, none⟩) hlt).trans hz⟩
theorem wrap_small {z : Int} (h : -4611686018427387904 ≤ z ∧ z ≤ 4611686018427387904) : IntKind.i64.wrap z = z := by rw [IntKind.wrap_i64]; omega
theorem perm_front : ∀ (L : List Ent) (p : Nat) (hp : p < L.length), (L[p] :: L.eraseIdx p).Perm L
  | _ :: _, 0, _ => List.Perm.refl _
  | a :: L, p + 1, hp => by
    have ih := perm_front L p (by simpa using hp)
    simp only [List.getElem_cons_succ, List.eraseIdx_cons_succ]
    exact (List.Perm.swap _ _ _).trans (ih.cons a)
theorem Ent.apart_symm {e f : Ent} (h : e.apart f) : f.apart e := fun k hk hk' => h k hk' hk
theorem St.front {w0 w : World} {L : List Ent} {p : Nat} {e : Ent} (S : St w0 w L) (h : At L p e) : St w0 w (e :: L.eraseIdx p) := by
  obtain ⟨hp, he⟩ := List.getElem?_eq_some_iff.1 h.get
  have hperm : (e :: L.eraseIdx p).Perm L := by
    rw [← he]
    exact perm_front L p hp
  refine ⟨S.below, fun f hf => S.own f (hperm.subset hf), ?_⟩
  exact (hperm.symm.pairwise_iff (fun {a b} h => Ent.apart_symm h)).1 S.apart
end
section
section
variable {P : Program} {w0 w : World} {a : Act} {L : List Ent} {o : Oper} {ops : Array Oper} {rest : List Oper} {Q : Exit → Act → World → Prop}
theorem wpList_lit (hgd : o.guard = none) (S : St w0 w L) (t : TypeId) (len : Nat) (parts : Array (Nat × Operand)) (ho : o.op = .buildSlice t len parts)
    (e : TypeId) (ht : P.underlying t = some (.slice e)) {z : Value} {bytes : Nat} (hi : (P.info? e).map (fun i => (i.zero, i.size, i.bytes)) = some (some z, 1, bytes))
    (hp : (parts.map fun (i, x) => (i, a.eval x)).toList = (((parts.map fun x => a.eval x.2).toList).zipIdx 0).map fun x => (x.2, x.1)) (h1 : ((parts.map fun x => a.eval x.2).toList).all (·.oneCell') = true) (hlen : len = parts.size) (hpos : Nat.blt 0 len = true) (hsmall : Nat.ble len 1000 = true)
    (h : ∀ g w' M, M = .box g e (parts.map fun x => a.eval x.2).toList :: L → St w0 w' M → wpList P ops Q rest (a.put o.dst (.slice (some ⟨g, 0, none⟩) len len)) w') : wpList P ops Q (o :: rest) a w := by
  obtain ⟨i, hi0, hz0, hz1, hz2⟩ := info_parts hi
  have h0 : 0 < len := by simpa using hpos
  have h2 : len ≤ 1000 := by simpa using hsmall
  refine Go.wpList_buildSlice hgd t e len parts ho (parts.map fun x => a.eval x.2).toList.toArray i z ht hi0 hz0 (by rw [hz1]; omega) (by rw [hz1]; omega) ?_ (h _ _ _ rfl (S.new e _))
  rw [hp, hz1]
  exact Great.fill_flat _ _ (fun v hv => by
    have := List.all_eq_true.1 h1 v hv
    cases v <;> first | rfl | cases this) (by simp [hlen])
end
end
section
def seedOk (s : Int) : Bool := decide (1 ≤ s) && decide (s ≤ 2147483646)
def nextS (s : Int) : Int := (s * 48271) % 2147483647
def seedAt (s : Int) : Nat → Int
  | 0 => s
  | k + 1 => nextS (seedAt s k)
def rndTo (s : Int) : Nat → List Int
  | 0 => []
  | k + 1 => rndTo s k ++ [ro (seedAt s (k + 1) / 8)]
theorem rndTo_length (s : Int) : ∀ k, (rndTo s k).length = k
  | 0 => rfl
  | k + 1 => by rw [rndTo, List.length_append, rndTo_length s k]; rfl
theorem seedAt_bd {s : Int} (h : 0 ≤ s ∧ s ≤ 2147483646) : ∀ k, 0 ≤ seedAt s k ∧ seedAt s k ≤ 2147483646
  | 0 => h
  | k + 1 => by
    show 0 ≤ nextS (seedAt s k) ∧ nextS (seedAt s k) ≤ 2147483646
    unfold nextS
    omega
theorem rndTo_ring (s : Int) : ∀ (n k : Nat), k < n → rv ((rndTo s n).getD k 0) = true
  | 0, k, h => absurd h (by omega)
  | n + 1, k, h => by
    rw [rndTo, List.getD_eq_getElem?_getD]
    by_cases hk : k < n
    · rw [List.getElem?_append_left (by rw [rndTo_length]; exact hk), ← List.getD_eq_getElem?_getD]
      exact rndTo_ring s n k hk
    · obtain rfl : k = n := by omega
      rw [List.getElem?_append_right (by rw [rndTo_length]; exact Nat.le_refl _), rndTo_length, Nat.sub_self]
      exact rv_ro _
theorem C_spec_l4Next (s : Int) (w0 : World) (h : 0 ≤ s ∧ s ≤ 2147483646) : Calls Tryz.prog 168 #[.int .i64 s] w0 fun e w' => e = .returned (.int .i64 (nextS s)) ∧ w0 = w' := by
  obtain ⟨h1, h2⟩ := h
  go_enter Tryz.func168, Tryz.ntmps168
  go_wp2
  go_ret
  exact ⟨rfl, rfl⟩
def MakesRnd (w0 : World) (s : Int) (n : Nat) (e : Ending) (w : World) : Prop :=
  ∃ u, e = .returned (.tuple #[u, .int .i64 (seedAt s n)]) ∧ St w0 w [.row 3 1 u n (ints (rndTo s n))]
theorem C_spec_l4List (s : Int) (n : Nat) (w0 : World) (h : 0 ≤ s ∧ s ≤ 2147483646) (hn : n ≤ 5000) :
    Calls Tryz.prog 130 #[.int .i64 s, .int .i64 n] w0 (MakesRnd w0 s n) := by
  have HB := Lib.hid (seedAt_bd h)
  clear h
  obtain ⟨L, HL, S⟩ := st_start w0; have F : True := trivial
  go_enter Tryz.func130, Tryz.ntmps130
  go_wp2_with (first | (refine wpList_empty rfl S _ rfl 3 Tryz.underlying23 infoInt ?_; clear F S; intro g w L hM S; replace HL := qNm HL hM; clear hM; have F := qFc HL S))
  go_loopw [0, 6, 7] (fun c u i wr => ∃ (k : Nat) (L : List Ent), k ≤ n ∧ i = .int .i64 k ∧ c = .int .i64 (seedAt s k) ∧ Hid (L = [.row 3 1 u k (ints (rndTo s k))]) ∧ St w0 wr L) (fun _ _ i _ => n - (intOf i).toNat)
  case atStart => exact ⟨0, L, Nat.zero_le _, rfl, rfl, HL, S⟩
  case round =>
    clear F HL S
    obtain ⟨k, L, hk, rfl, rfl, HL, S⟩ := hrel
    have F : True := trivial
    by_cases hlt : k < n
    · have b0 := HB.out k
      have b1 := HB.out (k + 1)
      have HR := Lib.hid (show rndTo s (k + 1) = rndTo s k ++ [ro (seedAt s (k + 1) / 8)] from rfl)
      have CN : ∀ w, Calls Tryz.prog 168 #[.int .i64 (seedAt s k)] w fun e w' => e = .returned (.int .i64 (seedAt s (k + 1))) ∧ w = w' := fun w => C_spec_l4Next (seedAt s k) w b0
      obtain ⟨s1, hs1⟩ : ∃ x, seedAt s (k + 1) = x := ⟨_, rfl⟩
      rw [hs1] at HR b1
      simp only [hs1] at CN
      have HS1 := Lib.hid hs1
      obtain ⟨p0, p1⟩ := b1
      clear hs1 b0
      go_wp2_with (first | (go_at_call 168; refine qPu (CN _) ?_) | (refine wpList_lit rfl S _ _ _ rfl 3 Tryz.underlying23 infoInt (by simp [Act.eval]) (by simp [Act.eval, Value.oneCell']) rfl rfl rfl ?_; clear F S; intro g w L hM S; replace HL := qNm HL hM; clear hM; have F := qFc HL S) | (refine wpList_append_box rfl S _ _ _ rfl 3 _ 1 8 Tryz.underlying23 infoInt rfl (by omega) _ _ _ _ rfl qAt (by omega) _ _ _ _ _ _ rfl qAt rfl rfl rfl rfl ?_; clear F S; intro u w L hM S; replace HL := qNm HL hM; clear hM; have F := qFc HL S))
      go_roundw
      case rel =>
        refine ⟨k + 1, _, by omega, by go_num, by rw [HS1.out], Lib.hid rfl, ?_⟩
        rw [HL.out] at S
        have T := S.sub (.cons _ (.refl _))
        rw [show ints (rndTo s (k + 1)) = ints (rndTo s k) ++ [.int .i64 (s1 / 8 % 4096)] from by rw [HR.out]; simp [ints, ro]]
        exact T
      case measure => simp [intOf]; omega
    · obtain rfl : k = n := by omega
      go_wp2
      refine ret2 rfl (show _ = _ from rfl) (show _ = _ from rfl) rfl ?_
      rw [HL.out] at S
      exact ⟨_, rfl, S⟩
end
section
theorem addR_ok {a b : Int} (ha : rv a = true) (hb : rv b = true) : addR a b = ro (a + b) := by simp [addR, ha, hb]
theorem subR_ok {a b : Int} (ha : rv a = true) (hb : rv b = true) : subR a b = ro (a - b) := by simp [subR, ha, hb]
theorem mulR_ok {a b : Int} (ha : rv a = true) (hb : rv b = true) : mulR a b = ro (a * b) := by simp [mulR, ha, hb]
theorem sh_ok {s : Sh} : s.ok = true ↔ rv s.a = true ∧ rv s.b = true := by simp [Sh.ok]
theorem join_ok {s : Sh} (h : s.ok = true) : joinS s = ro (s.a + s.b) := by
  have := sh_ok.1 h
  exact addR_ok this.1 this.2
theorem addS_ok {x y : Sh} (hx : x.ok = true) (hy : y.ok = true) : addS x y = ⟨ro (x.a + y.a), ro (x.b + y.b)⟩ ∧ (addS x y).ok = true := by
  have h1 := sh_ok.1 hx
  have h2 := sh_ok.1 hy
  have e : addS x y = ⟨ro (x.a + y.a), ro (x.b + y.b)⟩ := by simp [addS, hx, hy, addR, h1, h2]
  rw [e]
  exact ⟨rfl, by simp [Sh.ok, rv_ro]⟩
theorem join_addS {x y : Sh} (hx : x.ok = true) (hy : y.ok = true) : joinS (addS x y) = addR (joinS x) (joinS y) := by
  obtain ⟨e, ho⟩ := addS_ok hx hy
  rw [join_ok ho, addR_ok (join_bd hx) (join_bd hy), join_ok hx, join_ok hy, e]
  show ro (ro (x.a + y.a) + ro (x.b + y.b)) = ro (ro (x.a + x.b) + ro (y.a + y.b))
  unfold ro; omega
theorem split_ok {x r : Int} (hx : rv x = true) (hr : rv r = true) : (splitN x r).ok = true ∧ joinS (splitN x r) = x := by
  have hb := rv_bd hx
  have hc := rv_bd hr
  have e : splitN x r = ⟨r, ro (x - r)⟩ := by simp [splitN, hx, hr, subR]
  have ho : (splitN x r).ok = true := by rw [e]; simp [Sh.ok, hr, rv_ro]
  refine ⟨ho, ?_⟩
  rw [join_ok ho, e]
  show ro (r + ro (x - r)) = x
  unfold ro
  omega
theorem mulR_rv {x k : Int} (hx : rv x = true) (hk : rv k = true) : rv (mulR x k) = true := by rw [mulR_ok hx hk]; exact rv_ro _
end
section
set_option maxHeartbeats 1000000
theorem zInt : (Tryz.prog.info? 3).bind (·.zero) = some (.int .i64 0) := by kernel_rfl
theorem zSh : (Tryz.prog.info? 124).bind (·.zero) = some (.agg #[.int .i64 0, .int .i64 0]) := by kernel_rfl
theorem ok_bd {a b : Int} (h : Sh.ok ⟨a, b⟩ = true) : 0 ≤ a ∧ a < 4096 ∧ 0 ≤ b ∧ b < 4096 := by
  simp only [Sh.ok, Bool.and_eq_true] at h
  have := rv_bd h.1
  have := rv_bd h.2
  omega
theorem C_impl_SharedValid (a b : Int) (w0 : World) : Calls Tryz.prog 180 #[.agg #[.int .i64 a, .int .i64 b]] w0 fun e w' => e = .returned (.bool (Sh.ok ⟨a, b⟩)) ∧ Below w0.heap.size w0 w' := by
  obtain ⟨L, HL, S⟩ := st_start w0; have F : True := trivial
  go_enter Tryz.func180, Tryz.ntmps180
  go_wp2_with (first | (refine qbx HL S ?_; clear F S HL; intro g w L HL S F)  | (refine qst HL S 0 ?_; clear F S HL; intro w L HL S F) | (refine qst HL S 1 ?_; clear F S HL; intro w L HL S F) | (refine qst HL S 2 ?_; clear F S HL; intro w L HL S F) | (refine qst HL S 3 ?_; clear F S HL; intro w L HL S F) | (go_at_call 67; refine qPu (C_impl_RingValid _ _) ?_) )
  all_goals (go_ret; refine ⟨?_, S.below⟩; simp_all [Sh.ok])
theorem C_impl_bad (w0 : World) : Calls Tryz.prog 182 #[] w0 fun e w' => e = .returned (.agg #[.int .i64 (Sh.none_).a, .int .i64 (Sh.none_).b]) ∧ Below w0.heap.size w0 w' := by
  obtain ⟨L, HL, S⟩ := st_start w0; have F : True := trivial
  go_enter Tryz.func182, Tryz.ntmps182
  go_wp2_with (first | (refine qbx HL S ?_; clear F S HL; intro g w L HL S F) | (refine qal HL S zSh ?_; clear F S HL; intro g w L HL S F) | (refine qst HL S 0 ?_; clear F S HL; intro w L HL S F) | (refine qst HL S 1 ?_; clear F S HL; intro w L HL S F) | (refine qst HL S 2 ?_; clear F S HL; intro w L HL S F) | (refine qst HL S 3 ?_; clear F S HL; intro w L HL S F)  )
  ((try simp only [Exit.inBlock, Exit.then]); refine ret1 rfl (resCell S HL 0 rfl rfl (by kernel_rfl)) rfl ?_); exact ⟨rfl, S.below⟩
theorem C_impl_JoinShares (a b : Int) (w0 : World) : Calls Tryz.prog 178 #[.agg #[.int .i64 a, .int .i64 b]] w0 fun e w' => e = .returned (.int .i64 (joinS ⟨a, b⟩)) ∧ Below w0.heap.size w0 w' := by
  obtain ⟨L, HL, S⟩ := st_start w0; have F : True := trivial
  go_enter Tryz.func178, Tryz.ntmps178
  go_wp2_with (first | (refine qbx HL S ?_; clear F S HL; intro g w L HL S F)  | (refine qst HL S 0 ?_; clear F S HL; intro w L HL S F) | (refine qst HL S 1 ?_; clear F S HL; intro w L HL S F) | (refine qst HL S 2 ?_; clear F S HL; intro w L HL S F) | (refine qst HL S 3 ?_; clear F S HL; intro w L HL S F) | (go_at_call 105; refine qPu (C_impl_AddRing _ _ _) ?_) )
  go_ret
  exact ⟨rfl, S.below⟩
theorem C_spec_SharedValid (a b : Int) (w0 : World) : Calls Tryz.prog 132 #[.agg #[.int .i64 a, .int .i64 b]] w0 fun e w' => e = .returned (.bool (Sh.ok ⟨a, b⟩)) ∧ Below w0.heap.size w0 w' := by
  obtain ⟨L, HL, S⟩ := st_start w0; have F : True := trivial
  go_enter Tryz.func132, Tryz.ntmps132
  go_wp2_with (first | (refine qbx HL S ?_; clear F S HL; intro g w L HL S F)  | (refine qst HL S 0 ?_; clear F S HL; intro w L HL S F) | (refine qst HL S 1 ?_; clear F S HL; intro w L HL S F) | (refine qst HL S 2 ?_; clear F S HL; intro w L HL S F) | (refine qst HL S 3 ?_; clear F S HL; intro w L HL S F) | (go_at_call 136; refine qPu (C_spec_RingValid _ _) ?_) )
  all_goals (go_ret; refine ⟨?_, S.below⟩; simp_all [Sh.ok])
theorem C_spec_bad (w0 : World) : Calls Tryz.prog 134 #[] w0 fun e w' => e = .returned (.agg #[.int .i64 (Sh.none_).a, .int .i64 (Sh.none_).b]) ∧ Below w0.heap.size w0 w' := by
  obtain ⟨L, HL, S⟩ := st_start w0; have F : True := trivial
  go_enter Tryz.func134, Tryz.ntmps134
  go_wp2_with (first | (refine qbx HL S ?_; clear F S HL; intro g w L HL S F) | (refine qal HL S zSh ?_; clear F S HL; intro g w L HL S F) | (refine qst HL S 0 ?_; clear F S HL; intro w L HL S F) | (refine qst HL S 1 ?_; clear F S HL; intro w L HL S F) | (refine qst HL S 2 ?_; clear F S HL; intro w L HL S F) | (refine qst HL S 3 ?_; clear F S HL; intro w L HL S F)  )
  ((try simp only [Exit.inBlock, Exit.then]); refine ret1 rfl (resCell S HL 0 rfl rfl (by kernel_rfl)) rfl ?_); exact ⟨rfl, S.below⟩
theorem C_spec_JoinShares (a b : Int) (w0 : World) : Calls Tryz.prog 131 #[.agg #[.int .i64 a, .int .i64 b]] w0 fun e w' => e = .returned (.int .i64 (joinS ⟨a, b⟩)) ∧ Below w0.heap.size w0 w' := by
  obtain ⟨L, HL, S⟩ := st_start w0; have F : True := trivial
  go_enter Tryz.func131, Tryz.ntmps131
  go_wp2_with (first | (refine qbx HL S ?_; clear F S HL; intro g w L HL S F)  | (refine qst HL S 0 ?_; clear F S HL; intro w L HL S F) | (refine qst HL S 1 ?_; clear F S HL; intro w L HL S F) | (refine qst HL S 2 ?_; clear F S HL; intro w L HL S F) | (refine qst HL S 3 ?_; clear F S HL; intro w L HL S F) | (go_at_call 169; refine qPu (C_spec_AddRing _ _ _) ?_) )
  go_ret
  exact ⟨rfl, S.below⟩
theorem C_spec_AddShares (a b c d : Int) (w0 : World) : Calls Tryz.prog 135 #[.agg #[.int .i64 a, .int .i64 b], .agg #[.int .i64 c, .int .i64 d]] w0 fun e w' => e = .returned (.agg #[.int .i64 (addS ⟨a, b⟩ ⟨c, d⟩).a, .int .i64 (addS ⟨a, b⟩ ⟨c, d⟩).b]) ∧ Below w0.heap.size w0 w' := by
  by_cases h1 : Sh.ok ⟨a, b⟩ = true
  · by_cases h2 : Sh.ok ⟨c, d⟩ = true
    · obtain ⟨b1, b2, b3, b4⟩ := ok_bd h1
      obtain ⟨b5, b6, b7, b8⟩ := ok_bd h2
      have E : addS ⟨a, b⟩ ⟨c, d⟩ = ⟨addR a c, addR b d⟩ := by simp [addS, h1, h2]
      replace E := Lib.hid E
      obtain ⟨L, HL, S⟩ := st_start w0; have F : True := trivial
      go_enter Tryz.func135, Tryz.ntmps135
      go_wp2_with (first | (refine qbx HL S ?_; clear F S HL; intro g w L HL S F) | (refine qal HL S zSh ?_; clear F S HL; intro g w L HL S F) | (refine qst HL S 0 ?_; clear F S HL; intro w L HL S F) | (refine qst HL S 1 ?_; clear F S HL; intro w L HL S F) | (refine qst HL S 2 ?_; clear F S HL; intro w L HL S F) | (refine qst HL S 3 ?_; clear F S HL; intro w L HL S F) | (go_at_call 132; refine qGr S (C_spec_SharedValid _ _ _) ?_; clear S; intro w S) )
      have HL0 := HL; have F0 := F; refine wp_region_tree (S := fun w' => St w0 w' L) (qcs 0 5 (qcs 6 5 (.act 5 (.act 11 (.calm 12 (.act 13 .fin .stop)) .stop) .stop))) (by kernel_rfl) (by kernel_rfl) (by kernel_rfl) (by intro c a d v w h; cases d <;> exact h) ?_; dsimp only [qcs, Nat.reduceAdd]; replace S := S.drew
      repeat (first | refine qCa ?_ | refine qAn ?_ | refine qSk ?_ | (refine tree_act rfl rfl ?_ tree_stop; intro K hK; (refine qsw HL S 0 ?_; clear F S HL; intro w L HL S F); (refine qKo hK ?_; clear hK K)) | (refine tree_act rfl rfl ?_ tree_stop; intro K hK; go_wp2_with (first | (go_at_call 96; refine qPu (C_spec_l1Ring _ _) ?_)); (refine qKo hK ?_; clear hK K)))
      refine tree_fin ?_
      go_wp2
      ((try simp only [Exit.inBlock, Exit.then]); refine ret1 rfl (resCell S HL 0 rfl rfl (by kernel_rfl)) rfl ?_); exact ⟨by rw [E.out]; simp [addR, (rv_iff.2 ⟨by omega, by omega⟩ : rv a = true), (rv_iff.2 ⟨by omega, by omega⟩ : rv b = true), (rv_iff.2 ⟨by omega, by omega⟩ : rv c = true), (rv_iff.2 ⟨by omega, by omega⟩ : rv d = true)], S.below⟩
    · have h2' : Sh.ok ⟨c, d⟩ = false := by simpa using h2
      have E : addS ⟨a, b⟩ ⟨c, d⟩ = Sh.none_ := by simp [addS, h2']
      replace E := Lib.hid E
      clear h2
      obtain ⟨L, HL, S⟩ := st_start w0; have F : True := trivial
      go_enter Tryz.func135, Tryz.ntmps135
      go_wp2_with (first | (refine qbx HL S ?_; clear F S HL; intro g w L HL S F) | (refine qal HL S zSh ?_; clear F S HL; intro g w L HL S F) | (refine qst HL S 0 ?_; clear F S HL; intro w L HL S F) | (refine qst HL S 1 ?_; clear F S HL; intro w L HL S F) | (refine qst HL S 2 ?_; clear F S HL; intro w L HL S F) | (refine qst HL S 3 ?_; clear F S HL; intro w L HL S F) | (go_at_call 132; refine qGr S (C_spec_SharedValid _ _ _) ?_; clear S; intro w S) | (go_at_call 134; refine qGr S (C_spec_bad _) ?_; clear S; intro w S) )
      ((try simp only [Exit.inBlock, Exit.then]); refine ret1 rfl (resCell S HL 0 rfl rfl (by kernel_rfl)) rfl ?_); exact ⟨by rw [E.out], S.below⟩
  · have h1' : Sh.ok ⟨a, b⟩ = false := by simpa using h1
    have E : addS ⟨a, b⟩ ⟨c, d⟩ = Sh.none_ := by simp [addS, h1']
    replace E := Lib.hid E
    clear h1
    obtain ⟨L, HL, S⟩ := st_start w0; have F : True := trivial
    go_enter Tryz.func135, Tryz.ntmps135
    go_wp2_with (first | (refine qbx HL S ?_; clear F S HL; intro g w L HL S F) | (refine qal HL S zSh ?_; clear F S HL; intro g w L HL S F) | (refine qst HL S 0 ?_; clear F S HL; intro w L HL S F) | (refine qst HL S 1 ?_; clear F S HL; intro w L HL S F) | (refine qst HL S 2 ?_; clear F S HL; intro w L HL S F) | (refine qst HL S 3 ?_; clear F S HL; intro w L HL S F) | (go_at_call 132; refine qGr S (C_spec_SharedValid _ _ _) ?_; clear S; intro w S) | (go_at_call 134; refine qGr S (C_spec_bad _) ?_; clear S; intro w S) )
    ((try simp only [Exit.inBlock, Exit.then]); refine ret1 rfl (resCell S HL 0 rfl rfl (by kernel_rfl)) rfl ?_); exact ⟨by rw [E.out], S.below⟩
theorem C_spec_SubShares (a b c d : Int) (w0 : World) : Calls Tryz.prog 140 #[.agg #[.int .i64 a, .int .i64 b], .agg #[.int .i64 c, .int .i64 d]] w0 fun e w' => e = .returned (.agg #[.int .i64 (subS ⟨a, b⟩ ⟨c, d⟩).a, .int .i64 (subS ⟨a, b⟩ ⟨c, d⟩).b]) ∧ Below w0.heap.size w0 w' := by
  by_cases h1 : Sh.ok ⟨a, b⟩ = true
  · by_cases h2 : Sh.ok ⟨c, d⟩ = true
    · obtain ⟨b1, b2, b3, b4⟩ := ok_bd h1
      obtain ⟨b5, b6, b7, b8⟩ := ok_bd h2
      have E : subS ⟨a, b⟩ ⟨c, d⟩ = ⟨subR a c, subR b d⟩ := by simp [subS, h1, h2]
      replace E := Lib.hid E
      obtain ⟨L, HL, S⟩ := st_start w0; have F : True := trivial
      go_enter Tryz.func140, Tryz.ntmps140
      go_wp2_with (first | (refine qbx HL S ?_; clear F S HL; intro g w L HL S F) | (refine qal HL S zSh ?_; clear F S HL; intro g w L HL S F) | (refine qst HL S 0 ?_; clear F S HL; intro w L HL S F) | (refine qst HL S 1 ?_; clear F S HL; intro w L HL S F) | (refine qst HL S 2 ?_; clear F S HL; intro w L HL S F) | (refine qst HL S 3 ?_; clear F S HL; intro w L HL S F) | (go_at_call 132; refine qGr S (C_spec_SharedValid _ _ _) ?_; clear S; intro w S) )
      have HL0 := HL; have F0 := F; refine wp_region_tree (S := fun w' => St w0 w' L) (qcs 0 5 (qcs 6 5 (.act 5 (.act 11 (.calm 12 (.act 13 .fin .stop)) .stop) .stop))) (by kernel_rfl) (by kernel_rfl) (by kernel_rfl) (by intro c a d v w h; cases d <;> exact h) ?_; dsimp only [qcs, Nat.reduceAdd]; replace S := S.drew
      repeat (first | refine qCa ?_ | refine qAn ?_ | refine qSk ?_ | (refine tree_act rfl rfl ?_ tree_stop; intro K hK; (refine qsw HL S 0 ?_; clear F S HL; intro w L HL S F); (refine qKo hK ?_; clear hK K)) | (refine tree_act rfl rfl ?_ tree_stop; intro K hK; go_wp2_with (first | (go_at_call 96; refine qPu (C_spec_l1Ring _ _) ?_)); (refine qKo hK ?_; clear hK K)))
      refine tree_fin ?_
      go_wp2
      ((try simp only [Exit.inBlock, Exit.then]); refine ret1 rfl (resCell S HL 0 rfl rfl (by kernel_rfl)) rfl ?_); exact ⟨by rw [E.out]; simp [subR, (rv_iff.2 ⟨by omega, by omega⟩ : rv a = true), (rv_iff.2 ⟨by omega, by omega⟩ : rv b = true), (rv_iff.2 ⟨by omega, by omega⟩ : rv c = true), (rv_iff.2 ⟨by omega, by omega⟩ : rv d = true)], S.below⟩
    · have h2' : Sh.ok ⟨c, d⟩ = false := by simpa using h2
      have E : subS ⟨a, b⟩ ⟨c, d⟩ = Sh.none_ := by simp [subS, h2']
      replace E := Lib.hid E
      clear h2
      obtain ⟨L, HL, S⟩ := st_start w0; have F : True := trivial
      go_enter Tryz.func140, Tryz.ntmps140
      go_wp2_with (first | (refine qbx HL S ?_; clear F S HL; intro g w L HL S F) | (refine qal HL S zSh ?_; clear F S HL; intro g w L HL S F) | (refine qst HL S 0 ?_; clear F S HL; intro w L HL S F) | (refine qst HL S 1 ?_; clear F S HL; intro w L HL S F) | (refine qst HL S 2 ?_; clear F S HL; intro w L HL S F) | (refine qst HL S 3 ?_; clear F S HL; intro w L HL S F) | (go_at_call 132; refine qGr S (C_spec_SharedValid _ _ _) ?_; clear S; intro w S) | (go_at_call 134; refine qGr S (C_spec_bad _) ?_; clear S; intro w S) )
      ((try simp only [Exit.inBlock, Exit.then]); refine ret1 rfl (resCell S HL 0 rfl rfl (by kernel_rfl)) rfl ?_); exact ⟨by rw [E.out], S.below⟩
  · have h1' : Sh.ok ⟨a, b⟩ = false := by simpa using h1
    have E : subS ⟨a, b⟩ ⟨c, d⟩ = Sh.none_ := by simp [subS, h1']
    replace E := Lib.hid E
    clear h1
    obtain ⟨L, HL, S⟩ := st_start w0; have F : True := trivial
    go_enter Tryz.func140, Tryz.ntmps140
    go_wp2_with (first | (refine qbx HL S ?_; clear F S HL; intro g w L HL S F) | (refine qal HL S zSh ?_; clear F S HL; intro g w L HL S F) | (refine qst HL S 0 ?_; clear F S HL; intro w L HL S F) | (refine qst HL S 1 ?_; clear F S HL; intro w L HL S F) | (refine qst HL S 2 ?_; clear F S HL; intro w L HL S F) | (refine qst HL S 3 ?_; clear F S HL; intro w L HL S F) | (go_at_call 132; refine qGr S (C_spec_SharedValid _ _ _) ?_; clear S; intro w S) | (go_at_call 134; refine qGr S (C_spec_bad _) ?_; clear S; intro w S) )
    ((try simp only [Exit.inBlock, Exit.then]); refine ret1 rfl (resCell S HL 0 rfl rfl (by kernel_rfl)) rfl ?_); exact ⟨by rw [E.out], S.below⟩
end
end Go.Proofs.YtjgfjfjboimgdaaGreat
