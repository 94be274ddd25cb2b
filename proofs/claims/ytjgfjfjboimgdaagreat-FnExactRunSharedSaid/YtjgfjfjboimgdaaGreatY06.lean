/- Mx Mat MatV MatO -/
import Derived.Test.YtjgfjfjboimgdaaGreatY05
namespace Go.Proofs.YtjgfjfjboimgdaaGreat
set_option linter.unusedSimpArgs false
set_option linter.unusedVariables false
set_option linter.unusedSectionVars false
open Go Go.RowKit
set_option maxHeartbeats 8000000
set_option maxRecDepth 20000
section
structure Mx where
  r : Int
  c : Int
  xs : List Int
def sideOk (n : Int) : Bool := decide (1 ≤ n) && decide (n ≤ 5)
theorem sideOk_iff {n : Int} : sideOk n = true ↔ 1 ≤ n ∧ n ≤ 5 := by simp [sideOk]
def Mx.ok (m : Mx) : Bool := sideOk m.r && sideOk m.c && decide ((m.xs.length : Int) = m.r * m.c) && m.xs.all rv
def Mx.zero : Mx := ⟨0, 0, []⟩
def likeMx (a b : Mx) : Bool := a.ok && b.ok && decide (a.r = b.r) && decide (a.c = b.c)
structure SMx where
  a : Mx
  b : Mx
def SMx.ok (s : SMx) : Bool := likeMx s.a s.b
def SMx.zero : SMx := ⟨Mx.zero, Mx.zero⟩
theorem Mx.ok_nat {m : Mx} (h : m.ok = true) : ∃ R C N : Nat, m = ⟨R, C, m.xs⟩ ∧ 1 ≤ R ∧ R ≤ 5 ∧ 1 ≤ C ∧ C ≤ 5 ∧ R * C = N ∧ m.xs.length = N ∧ N ≤ 25 ∧ m.xs.all rv = true := by
  obtain ⟨r, c, xs⟩ := m
  simp only [Mx.ok, Bool.and_eq_true, sideOk_iff, decide_eq_true_eq] at h
  obtain ⟨⟨⟨⟨h1, h2⟩, h3, h4⟩, h5⟩, h6⟩ := h
  have e1 : ((r.toNat : Nat) : Int) = r := Int.toNat_of_nonneg (by omega)
  have e2 : ((c.toNat : Nat) : Int) = c := Int.toNat_of_nonneg (by omega)
  have e3 : xs.length = r.toNat * c.toNat := by
    have : ((xs.length : Nat) : Int) = ((r.toNat * c.toNat : Nat) : Int) := by rw [Int.natCast_mul, e1, e2]; exact h5
    exact Int.ofNat.inj this
  refine ⟨r.toNat, c.toNat, r.toNat * c.toNat, by rw [e1, e2], by omega, by omega, by omega, by omega, rfl, e3, ?_, h6⟩
  have : r.toNat * c.toNat ≤ 5 * 5 := Nat.mul_le_mul (by omega) (by omega)
  omega
theorem Mx.ok_of {R C : Nat} {xs : List Int} (h1 : 1 ≤ R) (h2 : R ≤ 5) (h3 : 1 ≤ C) (h4 : C ≤ 5) (hl : xs.length = R * C) (hr : xs.all rv = true) : (Mx.mk R C xs).ok = true := by
  simp only [Mx.ok, Bool.and_eq_true, sideOk_iff, decide_eq_true_eq]
  exact ⟨⟨⟨⟨by omega, by omega⟩, by omega, by omega⟩, by rw [hl, Int.natCast_mul]⟩, hr⟩
def turnV (R C : Nat) (xs : List Int) (q : Nat) : Int := xs.getD (q % R * C + q / R) 0
def turnMx (m : Mx) : Mx := if m.ok then ⟨m.c, m.r, tab (m.c.toNat * m.r.toNat) (turnV m.r.toNat m.c.toNat m.xs)⟩ else Mx.zero
def turnSMx (s : SMx) : SMx := if s.ok then ⟨turnMx s.a, turnMx s.b⟩ else SMx.zero
theorem turnMx_ok {R C : Nat} {xs : List Int} (h : (Mx.mk R C xs).ok = true) : turnMx ⟨R, C, xs⟩ = ⟨C, R, tab (C * R) (turnV R C xs)⟩ := by
  simp [turnMx, h]
theorem turnMx_not {m : Mx} (h : m.ok = false) : turnMx m = Mx.zero := by simp [turnMx, h]
theorem turnV_at {R C : Nat} {xs : List Int} {r c : Nat} (hr : r < R) : turnV R C xs (c * R + r) = xs.getD (r * C + c) 0 := by
  unfold turnV
  rw [Nat.mul_comm c R, Nat.mul_add_mod, Nat.mod_eq_of_lt hr, Nat.mul_add_div (by omega), Nat.div_eq_of_lt hr, Nat.add_zero]
theorem tab_succ (n : Nat) (f : Nat → Int) : tab (n + 1) f = tab n f ++ [f n] := by simp [tab, List.range_succ]
def turnTo (R C : Nat) (xs : List Int) (r c : Nat) : List Int := tab (C * R) fun q => if q % R < r ∨ q % R = r ∧ q / R < c then turnV R C xs q else 0
theorem turnTo_zero (R C : Nat) (xs : List Int) : turnTo R C xs 0 0 = tab (C * R) fun _ => 0 := tab_congr _ _ _ fun q _ => by simp
theorem turnTo_row (R C : Nat) (xs : List Int) (r : Nat) : turnTo R C xs r C = turnTo R C xs (r + 1) 0 := tab_congr _ _ _ fun q hq => by
  have : q / R < C := Nat.div_lt_of_lt_mul (by rw [Nat.mul_comm]; exact hq)
  generalize turnV R C xs q = t
  generalize q / R = v at this
  generalize q % R = u
  by_cases h : u < r ∨ u = r ∧ v < C
  · rw [if_pos h, if_pos (by omega)]
  · rw [if_neg h, if_neg (by omega)]
theorem turnTo_set (R C : Nat) (xs : List Int) (r c : Nat) (hr : r < R) (hc : c < C) : (turnTo R C xs r c).set (c * R + r) (xs.getD (r * C + c) 0) = turnTo R C xs r (c + 1) := by
  unfold turnTo
  rw [tab_set]
  refine tab_congr _ _ _ fun q hq => ?_
  by_cases h : q = c * R + r
  · subst h
    rw [if_pos rfl, if_pos, turnV_at hr]
    refine .inr ⟨?_, ?_⟩
    · rw [Nat.mul_comm c R, Nat.mul_add_mod, Nat.mod_eq_of_lt hr]
    · rw [Nat.mul_comm c R, Nat.mul_add_div (by omega), Nat.div_eq_of_lt hr]; omega
  · rw [if_neg h]
    have hne : ¬ (q % R = r ∧ q / R = c) := fun ⟨h1, h2⟩ => h (by have := Nat.div_add_mod q R; rw [h1, h2] at this; rw [Nat.mul_comm c R]; exact this.symm)
    generalize turnV R C xs q = t
    generalize q / R = v at hne
    generalize q % R = u at hne
    by_cases h' : u < r ∨ u = r ∧ v < c
    · rw [if_pos h', if_pos (by omega)]
    · rw [if_neg h', if_neg (by omega)]
theorem turnTo_full (R C : Nat) (xs : List Int) : turnTo R C xs R 0 = tab (C * R) (turnV R C xs) := tab_congr _ _ _ fun q hq => by
  have : 0 < R := by
    rcases Nat.eq_zero_or_pos R with h | h
    · subst h; simp at hq
    · exact h
  exact if_pos (.inl (Nat.mod_lt _ this))
theorem cell_lt {R C r c : Nat} (hr : r < R) (hc : c < C) : r * C + c < R * C := by
  have : (r + 1) * C ≤ R * C := Nat.mul_le_mul_right _ hr
  rw [Nat.succ_mul] at this
  omega
end
section
theorem zMx : (Tryz.prog.info? 30).bind (·.zero) = some (.agg #[.int .i64 0, .int .i64 0, .slice none 0 0]) := by kernel_rfl
theorem zSMx : (Tryz.prog.info? 32).bind (·.zero) = some (.agg #[.int .i64 0, .int .i64 0, .slice none 0 0, .int .i64 0, .int .i64 0, .slice none 0 0]) := by kernel_rfl
def MakesMx (w0 : World) (r c : Int) (xs : List Int) (e : Ending) (w : World) : Prop :=
  ∃ u, e = .returned (.agg #[.int .i64 r, .int .i64 c, u]) ∧ St w0 w [.row 3 1 u xs.length (ints xs)]
def MakesSMx (w0 : World) (r c : Int) (xs : List Int) (r' c' : Int) (ys : List Int) (e : Ending) (w : World) : Prop :=
  ∃ u v, e = .returned (.agg #[.int .i64 r, .int .i64 c, u, .int .i64 r', .int .i64 c', v]) ∧ St w0 w [.row 3 1 v ys.length (ints ys), .row 3 1 u xs.length (ints xs)]
theorem St.sliceOf {w0 w : World} {L : List Ent} {p size n : Nat} {t : TypeId} {v : Value} {xs : List Value} (S : St w0 w L) (h : At L p (.row t size v n xs)) : ∃ A cap, v = .slice A n cap ∧ n ≤ cap ∧ cap ≤ maxLen := by
  obtain ⟨_, A, cap, e, h1, h2, _⟩ := Sees.row S h
  exact ⟨A, cap, e, h1, h2⟩
theorem At.cons {L : List Ent} {p : Nat} {e b : Ent} (h : At L p e) : (b :: L)[p + 1]? = some e := h
section
variable {P : Program} {w0 w : World} {L : List Ent} {o : Oper} {a : Act} {K : Act → World → Prop} {Q : Exit → Act → World → Prop} {ops : Array Oper} {rest : List Oper}
theorem run_append_none (base : Nat) (t ty e : TypeId) (i : TypeInfo) (size c : Nat) (ht : P.underlying t = some (.slice e)) (hi : P.info? e = some i)
    (v : Value) (n : Nat) (xs : List Value) (hown : w.ownsRow base e size v n xs) :
    (Builtin.append_ #[t, t] ty #[v, .slice none 0 c]).run P w = .ok v w := by
  rcases hown.2 with ⟨rfl, rfl⟩ | ⟨g, cap, cur, rfl, _, _, hnc, _⟩
  · simp [Builtin.append_, run_underlying ht, sizeOf, typeInfo, hi, Builtin.lenOf, Builtin.firstCells]
  · simp [Builtin.append_, run_underlying ht, sizeOf, typeInfo, hi, Builtin.lenOf, Builtin.firstCells, hnc, storeCells]
theorem wp_append_see (S : St w0 w L) (s x : Operand) (t : TypeId) (ho : o.op = .call { callee := .builtin .append, args := #[s, x], argTypes := #[t, t] })
    (p : Nat) (e : TypeId) (z : Value) (size bytes : Nat) (ht : P.underlying t = some (.slice e)) (hi : (P.info? e).map (fun i => (i.zero, i.size, i.bytes)) = some (some z, size, bytes))
    (hzs : z.cells.size = size) (hsz : 0 < size) (v : Value) (n : Nat) (xs : List Value) (hs : a.eval s = v) (hp : At L p (.row e size v n xs))
    (u : Value) (m : Nat) (news : List Value) (hx : a.eval x = u) (hu : Sees w size u m news) (h1 : news.all (·.oneCell') = true)
    (h63 : n + m ≤ maxLen) (hbytes : (n + m) * bytes ≤ 140737488355328)
    (h : ∀ v' w' M, M = L.set p (.row e size v' (n + m) (xs ++ news)) → St w0 w' M → K (a.put o.dst v') w') : o.wp P a w K Q := by
  obtain ⟨hl, A, cap, rfl, hc, hmx, hA⟩ := hu
  cases A with
  | some ad =>
    refine wp_append S s x t ho p e z size bytes ht hi hzs hsz v n xs hs hp ad m cap news hx hl ?_ h1 h63 hbytes h
    rcases Nat.eq_zero_or_pos m with rfl | hm
    · intro j u hu
      rw [List.length_eq_zero_iff.1 (hl.trans (Nat.zero_mul _))] at hu
      cases hu
    · obtain ⟨b, off, e1, _, h3⟩ := hA hm
      injection e1 with e1
      subst e1
      intro j u hu
      have hadd : (⟨b, off, none⟩ : Addr).add j = ⟨b, off + j, none⟩ := by unfold Addr.add; split <;> simp_all
      rw [hadd]
      exact h3 j u hu
  | none =>
    have hm : m = 0 := by
      rcases Nat.eq_zero_or_pos m with hm | hm
      · exact hm
      · obtain ⟨b, off, e1, _⟩ := hA hm
        cases e1
    subst hm
    have hnews : news = [] := List.length_eq_zero_iff.1 (hl.trans (Nat.zero_mul _))
    subst hnews
    obtain ⟨i, hi0, _⟩ := info_parts hi
    have hrun := run_append_none (P := P) (w := w) w0.heap.size t o.type e i size cap ht hi0 v n xs (S.own _ hp.mem)
    unfold Oper.wp execOp
    simp only [ho, resolve, invoke, builtin, Sem.run_bind, Sem.run_pure, Result.andThen_ok, List.map_toArray, List.map_cons, List.map_nil, hs, hx, hrun]
    refine h v w _ rfl ?_
    obtain ⟨q1, q2⟩ := List.getElem?_eq_some_iff.1 hp.get
    rw [Nat.add_zero, List.append_nil, ← q2, List.set_getElem_self]
    exact S
theorem wpList_append_see (hgd : o.guard = none) (S : St w0 w L) (s x : Operand) (t : TypeId) (ho : o.op = .call { callee := .builtin .append, args := #[s, x], argTypes := #[t, t] })
    (p : Nat) (e : TypeId) (z : Value) (size bytes : Nat) (ht : P.underlying t = some (.slice e)) (hi : (P.info? e).map (fun i => (i.zero, i.size, i.bytes)) = some (some z, size, bytes))
    (hzs : z.cells.size = size) (hsz : 0 < size) (v : Value) (n : Nat) (xs : List Value) (hs : a.eval s = v) (hp : At L p (.row e size v n xs))
    (u : Value) (m : Nat) (news : List Value) (hx : a.eval x = u) (hu : Sees w size u m news) (h1 : news.all (·.oneCell') = true)
    (h63 : n + m ≤ maxLen) (hbytes : (n + m) * bytes ≤ 140737488355328)
    (h : ∀ v' w' M, M = L.set p (.row e size v' (n + m) (xs ++ news)) → St w0 w' M → wpList P ops Q rest (a.put o.dst v') w') : wpList P ops Q (o :: rest) a w :=
  wpList_plain hgd fun _ hK => wp_append_see S s x t ho p e z size bytes ht hi hzs hsz v n xs hs hp u m news hx hu h1 h63 hbytes fun v' w' M hM S' => hK _ _ (h v' w' M hM S')
end
end
section
theorem side_prod {r c : Int} (h1 : sideOk r = true) (h2 : sideOk c = true) : 1 ≤ r * c ∧ r * c ≤ 25 := by
  rw [sideOk_iff] at h1 h2
  obtain ⟨a, b⟩ := h1
  have h : r = 1 ∨ r = 2 ∨ r = 3 ∨ r = 4 ∨ r = 5 := by omega
  rcases h with rfl | rfl | rfl | rfl | rfl <;> omega
theorem all_cases (xs : List Int) : ∃ p, p ≤ xs.length ∧ (∀ j, j < p → rv (xs.getD j 0) = true) ∧ (p < xs.length → rv (xs.getD p 0) = false ∧ xs.all rv = false) ∧ (p = xs.length → xs.all rv = true) := by
  induction xs with
  | nil => exact ⟨0, Nat.le_refl _, fun j h => absurd h (by omega), fun h => absurd h (by simp), fun _ => rfl⟩
  | cons x xs ih =>
    cases hx : rv x with
    | false => exact ⟨0, by simp, fun j h => absurd h (by omega), fun _ => ⟨hx, by simp [hx]⟩, fun h => absurd h (by simp)⟩
    | true =>
      obtain ⟨p, h1, h2, h3, h4⟩ := ih
      refine ⟨p + 1, by simpa using h1, fun j hj => ?_, fun h => ?_, fun h => ?_⟩
      · cases j with
        | zero => exact hx
        | succ j => exact h2 j (by omega)
      · have := h3 (by simpa using h)
        exact ⟨this.1, by simp [hx, this.2]⟩
      · have := h4 (by simpa using h)
        simp [hx, this]
theorem C_sideValid (n : Int) (w0 : World) : Calls Tryz.prog 112 #[.int .i64 n] w0 fun e w' => e = .returned (.bool (sideOk n)) ∧ w0 = w' := by
  by_cases h1 : 1 ≤ n
  · by_cases h2 : n ≤ 5
    · have e : sideOk n = true := by simp [sideOk, h1, h2]
      rw [e]
      go_enter Tryz.func112, Tryz.ntmps112
      go_wp2
      go_ret
      exact ⟨rfl, rfl⟩
    · have e : sideOk n = false := by simp [sideOk, h1, h2]
      rw [e]
      go_enter Tryz.func112, Tryz.ntmps112
      go_wp2
      go_ret
      exact ⟨rfl, rfl⟩
  · have e : sideOk n = false := by simp [sideOk, h1]
    rw [e]
    go_enter Tryz.func112, Tryz.ntmps112
    go_wp2
    go_ret
    exact ⟨rfl, rfl⟩
theorem C_sideValid' (n : Int) (b : Bool) (w0 : World) (h : sideOk n = b) : Calls Tryz.prog 112 #[.int .i64 n] w0 fun e w' => e = .returned (.bool b) ∧ w0 = w' := h ▸ C_sideValid n w0
theorem C_in5 (n : Int) (b : Bool) (w0 : World) (h : sideOk n = b) : Calls Tryz.prog 44 #[.int .i64 n, .int .i64 1, .int .i64 5] w0 fun e w' => e = .returned (.bool b) ∧ w0 = w' := h ▸ C_spec_l1In n 1 5 w0
theorem C_impl_MatrixValid (r c : Int) (xs : List Int) (v : Value) (b : Bool) (w0 : World) (h : Ints w0 v xs) (hb : (Mx.mk r c xs).ok = b) :
    Calls Tryz.prog 70 #[.agg #[.int .i64 r, .int .i64 c, v]] w0 fun e w' => e = .returned (.bool b) ∧ Below w0.heap.size w0 w' := by
  have HI := Lib.hid h
  obtain ⟨_, A, cap, rfl, hcap, hmax, _⟩ := h
  obtain ⟨n, hn⟩ : ∃ n, xs.length = n := ⟨_, rfl⟩
  have hb' : (sideOk r && sideOk c && decide ((n : Int) = r * c) && xs.all rv) = b := by rw [← hn]; exact hb
  rw [hn] at hcap ⊢
  have HN := Lib.hid hn
  clear hb hn
  unfold maxLen at hmax
  cases h1 : sideOk r with
  | false =>
    obtain rfl : b = false := by rw [← hb', h1]; rfl
    clear hb'
    obtain ⟨L, HL, S⟩ := st_start w0; have F : True := trivial
    go_enter Tryz.func70, Tryz.ntmps70
    go_wp2_with (first | (refine qbx HL S ?_; clear F S HL; intro g w L HL S F)  | (refine qst HL S 0 ?_; clear F S HL; intro w L HL S F) | (refine qst HL S 1 ?_; clear F S HL; intro w L HL S F) | (refine qst HL S 2 ?_; clear F S HL; intro w L HL S F) | (refine qst HL S 3 ?_; clear F S HL; intro w L HL S F)  | (go_at_call 112; refine qPu (C_sideValid' _ _ _ (by exact h1)) ?_))
    go_ret
    exact ⟨rfl, S.below⟩
  | true =>
    cases h2 : sideOk c with
    | false =>
      obtain rfl : b = false := by rw [← hb', h1, h2]; rfl
      clear hb'
      obtain ⟨L, HL, S⟩ := st_start w0; have F : True := trivial
      go_enter Tryz.func70, Tryz.ntmps70
      go_wp2_with (first | (refine qbx HL S ?_; clear F S HL; intro g w L HL S F)  | (refine qst HL S 0 ?_; clear F S HL; intro w L HL S F) | (refine qst HL S 1 ?_; clear F S HL; intro w L HL S F) | (refine qst HL S 2 ?_; clear F S HL; intro w L HL S F) | (refine qst HL S 3 ?_; clear F S HL; intro w L HL S F)  | (go_at_call 112; refine qPu (C_sideValid' _ _ _ (by first | exact h1 | exact h2)) ?_))
      go_ret
      exact ⟨rfl, S.below⟩
    | true =>
      obtain ⟨p1, p2⟩ := side_prod h1 h2
      rw [h1, h2] at hb'
      have H1 := Lib.hid h1
      have H2 := Lib.hid h2
      clear h1 h2
      obtain ⟨N, hN⟩ : ∃ N, r * c = N := ⟨_, rfl⟩
      rw [hN] at p1 p2 hb'
      by_cases hnn : (n : Int) = N
      · have hv := hb'
        simp only [hnn, decide_true, Bool.and_self, Bool.true_and] at hv
        clear hb'
        have CA := fun w v h => C_impl_allRing v xs w h
        simp only [hv] at CA
        clear hv
        obtain ⟨L, HL, S⟩ := st_start w0; have F : True := trivial
        go_enter Tryz.func70, Tryz.ntmps70
        go_wp2_with (first | (refine qbx HL S ?_; clear F S HL; intro g w L HL S F)  | (refine qst HL S 0 ?_; clear F S HL; intro w L HL S F) | (refine qst HL S 1 ?_; clear F S HL; intro w L HL S F) | (refine qst HL S 2 ?_; clear F S HL; intro w L HL S F) | (refine qst HL S 3 ?_; clear F S HL; intro w L HL S F)  | (go_at_call 112; refine qPu (C_sideValid' _ _ _ (by first | exact H1.out | exact H2.out)) ?_) | (go_at_call 113; refine qPu (CA _ _ (by rw [← HN.out]; exact HI.out.at_ S)) ?_))
        go_ret
        exact ⟨rfl, S.below⟩
      · obtain rfl : b = false := by rw [← hb']; simp [hnn]
        clear hb'
        have hne : ((n : Int) == N) = false := by rw [beq_eq_false_iff_ne]; exact hnn
        obtain ⟨L, HL, S⟩ := st_start w0; have F : True := trivial
        go_enter Tryz.func70, Tryz.ntmps70
        go_wp2_with (first | (refine qbx HL S ?_; clear F S HL; intro g w L HL S F)  | (refine qst HL S 0 ?_; clear F S HL; intro w L HL S F) | (refine qst HL S 1 ?_; clear F S HL; intro w L HL S F) | (refine qst HL S 2 ?_; clear F S HL; intro w L HL S F) | (refine qst HL S 3 ?_; clear F S HL; intro w L HL S F)  | (go_at_call 112; refine qPu (C_sideValid' _ _ _ (by first | exact H1.out | exact H2.out)) ?_))
        go_ret
        exact ⟨rfl, S.below⟩
theorem C_spec_MatrixValid (r c : Int) (xs : List Int) (v : Value) (b : Bool) (w0 : World) (h : Ints w0 v xs) (hb : (Mx.mk r c xs).ok = b) :
    Calls Tryz.prog 95 #[.agg #[.int .i64 r, .int .i64 c, v]] w0 fun e w' => e = .returned (.bool b) ∧ Below w0.heap.size w0 w' := by
  obtain ⟨_, A, cap, rfl, hcap, hmax, hA⟩ := h
  obtain ⟨n, hn⟩ : ∃ n, xs.length = n := ⟨_, rfl⟩
  have hb' : (sideOk r && sideOk c && decide ((n : Int) = r * c) && xs.all rv) = b := by rw [← hn]; exact hb
  obtain ⟨p, hp, hall, hbad, hnone⟩ := all_cases xs
  rw [hn] at hcap hA hp hbad hnone ⊢
  have HN := Lib.hid hn
  have HA := Lib.hid hA
  clear hb hn hA
  unfold maxLen at hmax
  have HALL := Lib.hid hall
  have HBAD := Lib.hid hbad
  have HNONE := Lib.hid hnone
  have HB := Lib.hid hb'
  clear hall hbad hnone hb'
  obtain ⟨L, HL, S⟩ := st_start w0; have F : True := trivial
  go_enter Tryz.func95, Tryz.ntmps95
  go_wp2_with (first | (refine qbx HL S ?_; clear F S HL; intro g w L HL S F))
  go_loopw [3] (fun i wr => ∃ (k : Nat), k ≤ p ∧ i = .int .i64 k ∧ St w0 wr L) (fun i _ => n - (intOf i).toNat)
  case atStart => exact ⟨0, Nat.zero_le _, rfl, S⟩
  case round =>
    clear S
    obtain ⟨k, hk, rfl, S⟩ := hrel
    by_cases hlt : k < n
    · obtain ⟨bl, off, rfl, hbl, hc⟩ := HA.out (by omega)
      have ht := (S.below.cell (p := ⟨bl, off + k, none⟩) hbl).trans (hc k _ (ints_getD xs k (by rw [HN.out]; exact hlt)))
      have CR := fun w => C_spec_RingValid (xs.getD k 0) w
      by_cases hkp : k < p
      · rw [HALL.out k hkp] at CR
        generalize xs.getD k 0 = x at ht CR
        clear hc
        go_wp2_with (first | (go_at_call 136; refine qPu (CR _) ?_))
        go_roundw
        case rel => exact ⟨k + 1, by omega, by go_num, S⟩
        case measure => simp [intOf]; omega
      · obtain rfl : k = p := by omega
        obtain ⟨e1, e2⟩ := HBAD.out hlt
        rw [e1] at CR
        clear e1
        generalize xs.getD k 0 = x at ht CR
        have hb' := HB.out
        rw [e2, Bool.and_false] at hb'
        subst hb'
        clear hc e2
        go_wp2_with (first | (go_at_call 136; refine qPu (CR _) ?_))
        go_ret
        exact ⟨rfl, S.below⟩
    · obtain rfl : k = n := by omega
      obtain rfl : k = p := by omega
      have hb' := HB.out
      rw [HNONE.out rfl, Bool.and_true] at hb'
      cases h1 : sideOk r with
      | false =>
        obtain rfl : b = false := by rw [← hb', h1]; rfl
        clear hb'
        go_wp2_with (first | (go_at_call 44; refine qPu (C_in5 _ _ _ (by exact h1)) ?_))
        go_ret
        exact ⟨rfl, S.below⟩
      | true =>
        cases h2 : sideOk c with
        | false =>
          obtain rfl : b = false := by rw [← hb', h1, h2]; rfl
          clear hb'
          go_wp2_with (first | (go_at_call 44; refine qPu (C_in5 _ _ _ (by first | exact h1 | exact h2)) ?_))
          go_ret
          exact ⟨rfl, S.below⟩
        | true =>
          obtain ⟨p1, p2⟩ := side_prod h1 h2
          rw [h1, h2] at hb'
          have H1 := Lib.hid h1
          have H2 := Lib.hid h2
          clear h1 h2
          obtain ⟨N, hN⟩ : ∃ N, r * c = N := ⟨_, rfl⟩
          rw [hN] at p1 p2 hb'
          by_cases hnn : (k : Int) = N
          · obtain rfl : b = true := by rw [← hb']; simp [hnn]
            clear hb'
            go_wp2_with (first | (go_at_call 44; refine qPu (C_in5 _ _ _ (by first | exact H1.out | exact H2.out)) ?_))
            go_ret
            exact ⟨rfl, S.below⟩
          · obtain rfl : b = false := by rw [← hb']; simp [hnn]
            clear hb'
            have hne : ((k : Int) == N) = false := by rw [beq_eq_false_iff_ne]; exact hnn
            go_wp2_with (first | (go_at_call 44; refine qPu (C_in5 _ _ _ (by first | exact H1.out | exact H2.out)) ?_))
            go_ret
            exact ⟨rfl, S.below⟩
theorem C_spec_l3Like (r c : Int) (xs : List Int) (r' c' : Int) (ys : List Int) (u v : Value) (b : Bool) (w0 : World) (h : Ints w0 u xs) (h' : Ints w0 v ys) (hb : likeMx ⟨r, c, xs⟩ ⟨r', c', ys⟩ = b) :
    Calls Tryz.prog 89 #[.agg #[.int .i64 r, .int .i64 c, u], .agg #[.int .i64 r', .int .i64 c', v]] w0 fun e w' => e = .returned (.bool b) ∧ Below w0.heap.size w0 w' := by
  have hb' : ((Mx.mk r c xs).ok && (Mx.mk r' c' ys).ok && decide (r = r') && decide (c = c')) = b := hb
  have H := Lib.hid h
  have H' := Lib.hid h'
  obtain ⟨_, A, cap, rfl, hcap, hmax, _⟩ := h
  obtain ⟨_, A', cap', rfl, hcap', hmax', _⟩ := h'
  clear hb
  cases h1 : (Mx.mk r c xs).ok with
  | false =>
    obtain rfl : b = false := by rw [← hb', h1]; rfl
    clear hb'
    obtain ⟨L, HL, S⟩ := st_start w0; have F : True := trivial
    go_enter Tryz.func89, Tryz.ntmps89
    go_wp2_with (first | (refine qbx HL S ?_; clear F S HL; intro g w L HL S F)  | (refine qst HL S 0 ?_; clear F S HL; intro w L HL S F) | (refine qst HL S 1 ?_; clear F S HL; intro w L HL S F) | (refine qst HL S 2 ?_; clear F S HL; intro w L HL S F) | (refine qst HL S 3 ?_; clear F S HL; intro w L HL S F)  | (go_at_call 95; refine qGr S (C_spec_MatrixValid _ _ _ _ _ _ (by exact H.out.at_ S) (by exact h1)) ?_; clear S; intro w S))
    go_ret
    exact ⟨rfl, S.below⟩
  | true =>
    cases h2 : (Mx.mk r' c' ys).ok with
    | false =>
      obtain rfl : b = false := by rw [← hb', h1, h2]; rfl
      clear hb'
      obtain ⟨L, HL, S⟩ := st_start w0; have F : True := trivial
      go_enter Tryz.func89, Tryz.ntmps89
      go_wp2_with (first | (refine qbx HL S ?_; clear F S HL; intro g w L HL S F)  | (refine qst HL S 0 ?_; clear F S HL; intro w L HL S F) | (refine qst HL S 1 ?_; clear F S HL; intro w L HL S F) | (refine qst HL S 2 ?_; clear F S HL; intro w L HL S F) | (refine qst HL S 3 ?_; clear F S HL; intro w L HL S F)  | (go_at_call 95; refine qGr S (C_spec_MatrixValid _ _ _ _ _ _ (by first | exact H.out.at_ S | exact H'.out.at_ S) (by first | exact h1 | exact h2)) ?_; clear S; intro w S))
      go_ret
      exact ⟨rfl, S.below⟩
    | true =>
      rw [h1, h2] at hb'
      have H1 := Lib.hid h1
      have H2 := Lib.hid h2
      clear h1 h2
      by_cases hr : r = r'
      · subst hr
        by_cases hc : c = c'
        · subst hc
          obtain rfl : b = true := by rw [← hb']; simp
          clear hb'
          obtain ⟨L, HL, S⟩ := st_start w0; have F : True := trivial
          go_enter Tryz.func89, Tryz.ntmps89
          go_wp2_with (first | (refine qbx HL S ?_; clear F S HL; intro g w L HL S F)  | (refine qst HL S 0 ?_; clear F S HL; intro w L HL S F) | (refine qst HL S 1 ?_; clear F S HL; intro w L HL S F) | (refine qst HL S 2 ?_; clear F S HL; intro w L HL S F) | (refine qst HL S 3 ?_; clear F S HL; intro w L HL S F)  | (go_at_call 95; refine qGr S (C_spec_MatrixValid _ _ _ _ _ _ (by first | exact H.out.at_ S | exact H'.out.at_ S) (by first | exact H1.out | exact H2.out)) ?_; clear S; intro w S))
          go_ret
          exact ⟨rfl, S.below⟩
        · obtain rfl : b = false := by rw [← hb']; simp [hc]
          clear hb'
          have hne : (c == c') = false := by rw [beq_eq_false_iff_ne]; exact hc
          obtain ⟨L, HL, S⟩ := st_start w0; have F : True := trivial
          go_enter Tryz.func89, Tryz.ntmps89
          go_wp2_with (first | (refine qbx HL S ?_; clear F S HL; intro g w L HL S F)  | (refine qst HL S 0 ?_; clear F S HL; intro w L HL S F) | (refine qst HL S 1 ?_; clear F S HL; intro w L HL S F) | (refine qst HL S 2 ?_; clear F S HL; intro w L HL S F) | (refine qst HL S 3 ?_; clear F S HL; intro w L HL S F)  | (go_at_call 95; refine qGr S (C_spec_MatrixValid _ _ _ _ _ _ (by first | exact H.out.at_ S | exact H'.out.at_ S) (by first | exact H1.out | exact H2.out)) ?_; clear S; intro w S))
          go_ret
          exact ⟨rfl, S.below⟩
      · obtain rfl : b = false := by rw [← hb']; simp [hr]
        clear hb'
        have hne : (r == r') = false := by rw [beq_eq_false_iff_ne]; exact hr
        obtain ⟨L, HL, S⟩ := st_start w0; have F : True := trivial
        go_enter Tryz.func89, Tryz.ntmps89
        go_wp2_with (first | (refine qbx HL S ?_; clear F S HL; intro g w L HL S F)  | (refine qst HL S 0 ?_; clear F S HL; intro w L HL S F) | (refine qst HL S 1 ?_; clear F S HL; intro w L HL S F) | (refine qst HL S 2 ?_; clear F S HL; intro w L HL S F) | (refine qst HL S 3 ?_; clear F S HL; intro w L HL S F)  | (go_at_call 95; refine qGr S (C_spec_MatrixValid _ _ _ _ _ _ (by first | exact H.out.at_ S | exact H'.out.at_ S) (by first | exact H1.out | exact H2.out)) ?_; clear S; intro w S))
        go_ret
        exact ⟨rfl, S.below⟩
theorem C_spec_SharedMatrixValid (r c : Int) (xs : List Int) (r' c' : Int) (ys : List Int) (u v : Value) (b : Bool) (w0 : World) (h : Ints w0 u xs) (h' : Ints w0 v ys) (hb : likeMx ⟨r, c, xs⟩ ⟨r', c', ys⟩ = b) :
    Calls Tryz.prog 43 #[.agg #[.int .i64 r, .int .i64 c, u, .int .i64 r', .int .i64 c', v]] w0 fun e w' => e = .returned (.bool b) ∧ Below w0.heap.size w0 w' := by
  obtain ⟨L, HL, S⟩ := st_start w0; have F : True := trivial
  go_enter Tryz.func43, Tryz.ntmps43
  go_wp2_with (first | (refine qbx HL S ?_; clear F S HL; intro g w L HL S F)  | (refine qst HL S 0 ?_; clear F S HL; intro w L HL S F) | (refine qst HL S 1 ?_; clear F S HL; intro w L HL S F) | (refine qst HL S 2 ?_; clear F S HL; intro w L HL S F) | (refine qst HL S 3 ?_; clear F S HL; intro w L HL S F)  | (go_at_call 89; refine qGr S (C_spec_l3Like _ _ xs _ _ ys _ _ _ _ (h.at_ S) (h'.at_ S) hb) ?_; clear S; intro w S))
  go_ret
  exact ⟨rfl, S.below⟩
theorem C_sameSides (r c r' c' : Int) (u v : Value) (b : Bool) (w0 : World) (hb : (decide (r = r') && decide (c = c')) = b) :
    Calls Tryz.prog 116 #[.agg #[.int .i64 r, .int .i64 c, u], .agg #[.int .i64 r', .int .i64 c', v]] w0 fun e w' => e = .returned (.bool b) ∧ Below w0.heap.size w0 w' := by
  by_cases hr : r = r'
  · subst hr
    by_cases hc : c = c'
    · subst hc
      obtain rfl : b = true := by rw [← hb]; simp
      clear hb
      obtain ⟨L, HL, S⟩ := st_start w0; have F : True := trivial
      go_enter Tryz.func116, Tryz.ntmps116
      go_wp2_with (first | (refine qbx HL S ?_; clear F S HL; intro g w L HL S F)  | (refine qst HL S 0 ?_; clear F S HL; intro w L HL S F) | (refine qst HL S 1 ?_; clear F S HL; intro w L HL S F) | (refine qst HL S 2 ?_; clear F S HL; intro w L HL S F) | (refine qst HL S 3 ?_; clear F S HL; intro w L HL S F)  )
      go_ret
      exact ⟨rfl, S.below⟩
    · obtain rfl : b = false := by rw [← hb]; simp [hc]
      clear hb
      have hne : (c == c') = false := by rw [beq_eq_false_iff_ne]; exact hc
      obtain ⟨L, HL, S⟩ := st_start w0; have F : True := trivial
      go_enter Tryz.func116, Tryz.ntmps116
      go_wp2_with (first | (refine qbx HL S ?_; clear F S HL; intro g w L HL S F)  | (refine qst HL S 0 ?_; clear F S HL; intro w L HL S F) | (refine qst HL S 1 ?_; clear F S HL; intro w L HL S F) | (refine qst HL S 2 ?_; clear F S HL; intro w L HL S F) | (refine qst HL S 3 ?_; clear F S HL; intro w L HL S F)  )
      go_ret
      exact ⟨rfl, S.below⟩
  · obtain rfl : b = false := by rw [← hb]; simp [hr]
    clear hb
    have hne : (r == r') = false := by rw [beq_eq_false_iff_ne]; exact hr
    obtain ⟨L, HL, S⟩ := st_start w0; have F : True := trivial
    go_enter Tryz.func116, Tryz.ntmps116
    go_wp2_with (first | (refine qbx HL S ?_; clear F S HL; intro g w L HL S F)  | (refine qst HL S 0 ?_; clear F S HL; intro w L HL S F) | (refine qst HL S 1 ?_; clear F S HL; intro w L HL S F) | (refine qst HL S 2 ?_; clear F S HL; intro w L HL S F) | (refine qst HL S 3 ?_; clear F S HL; intro w L HL S F)  )
    go_ret
    exact ⟨rfl, S.below⟩
theorem C_impl_SharedMatrixValid (r c : Int) (xs : List Int) (r' c' : Int) (ys : List Int) (u v : Value) (b : Bool) (w0 : World) (h : Ints w0 u xs) (h' : Ints w0 v ys) (hb : likeMx ⟨r, c, xs⟩ ⟨r', c', ys⟩ = b) :
    Calls Tryz.prog 72 #[.agg #[.int .i64 r, .int .i64 c, u, .int .i64 r', .int .i64 c', v]] w0 fun e w' => e = .returned (.bool b) ∧ Below w0.heap.size w0 w' := by
  have hb' : ((Mx.mk r c xs).ok && (Mx.mk r' c' ys).ok && (decide (r = r') && decide (c = c'))) = b := by rw [← Bool.and_assoc]; exact hb
  have H := Lib.hid h
  have H' := Lib.hid h'
  obtain ⟨_, A, cap, rfl, hcap, hmax, _⟩ := h
  obtain ⟨_, A', cap', rfl, hcap', hmax', _⟩ := h'
  clear hb
  cases h1 : (Mx.mk r c xs).ok with
  | false =>
    obtain rfl : b = false := by rw [← hb', h1]; rfl
    clear hb'
    obtain ⟨L, HL, S⟩ := st_start w0; have F : True := trivial
    go_enter Tryz.func72, Tryz.ntmps72
    go_wp2_with (first | (refine qbx HL S ?_; clear F S HL; intro g w L HL S F)  | (refine qst HL S 0 ?_; clear F S HL; intro w L HL S F) | (refine qst HL S 1 ?_; clear F S HL; intro w L HL S F) | (refine qst HL S 2 ?_; clear F S HL; intro w L HL S F) | (refine qst HL S 3 ?_; clear F S HL; intro w L HL S F)  | (go_at_call 70; refine qGr S (C_impl_MatrixValid _ _ _ _ _ _ (by exact H.out.at_ S) (by exact h1)) ?_; clear S; intro w S))
    go_ret
    exact ⟨rfl, S.below⟩
  | true =>
    cases h2 : (Mx.mk r' c' ys).ok with
    | false =>
      obtain rfl : b = false := by rw [← hb', h1, h2]; rfl
      clear hb'
      obtain ⟨L, HL, S⟩ := st_start w0; have F : True := trivial
      go_enter Tryz.func72, Tryz.ntmps72
      go_wp2_with (first | (refine qbx HL S ?_; clear F S HL; intro g w L HL S F)  | (refine qst HL S 0 ?_; clear F S HL; intro w L HL S F) | (refine qst HL S 1 ?_; clear F S HL; intro w L HL S F) | (refine qst HL S 2 ?_; clear F S HL; intro w L HL S F) | (refine qst HL S 3 ?_; clear F S HL; intro w L HL S F)  | (go_at_call 70; refine qGr S (C_impl_MatrixValid _ _ _ _ _ _ (by first | exact H.out.at_ S | exact H'.out.at_ S) (by first | exact h1 | exact h2)) ?_; clear S; intro w S))
      go_ret
      exact ⟨rfl, S.below⟩
    | true =>
      rw [h1, h2, Bool.true_and, Bool.true_and] at hb'
      have H1 := Lib.hid h1
      have H2 := Lib.hid h2
      have HB := Lib.hid hb'
      clear h1 h2 hb'
      obtain ⟨L, HL, S⟩ := st_start w0; have F : True := trivial
      go_enter Tryz.func72, Tryz.ntmps72
      go_wp2_with (first | (refine qbx HL S ?_; clear F S HL; intro g w L HL S F)  | (refine qst HL S 0 ?_; clear F S HL; intro w L HL S F) | (refine qst HL S 1 ?_; clear F S HL; intro w L HL S F) | (refine qst HL S 2 ?_; clear F S HL; intro w L HL S F) | (refine qst HL S 3 ?_; clear F S HL; intro w L HL S F)  | (go_at_call 70; refine qGr S (C_impl_MatrixValid _ _ _ _ _ _ (by first | exact H.out.at_ S | exact H'.out.at_ S) (by first | exact H1.out | exact H2.out)) ?_; clear S; intro w S) | (go_at_call 116; refine qGr S (C_sameSides _ _ _ _ _ _ _ _ HB.out) ?_; clear S; intro w S))
      go_ret
      exact ⟨rfl, S.below⟩
end
section
theorem C_l1OwnMatrix (r c : Int) (xs : List Int) (v : Value) (w0 : World) (h : Ints w0 v xs) (hn : xs.length ≤ 1048576) :
    Calls Tryz.prog 88 #[.agg #[.int .i64 r, .int .i64 c, v]] w0 (MakesMx w0 r c xs) := by
  unfold MakesMx
  have H := Lib.hid h
  obtain ⟨_, A, cap, rfl, hcap, hmax, _⟩ := h
  obtain ⟨L, HL, S⟩ := st_start w0; have F : True := trivial
  go_enter Tryz.func88, Tryz.ntmps88
  go_wp2_with (first | (refine qbx HL S ?_; clear F S HL; intro g w L HL S F) | (refine qal HL S zMx ?_; clear F S HL; intro g w L HL S F) | (refine qst HL S 0 ?_; clear F S HL; intro w L HL S F) | (refine qst HL S 1 ?_; clear F S HL; intro w L HL S F) | (refine qst HL S 2 ?_; clear F S HL; intro w L HL S F) | (refine qst HL S 3 ?_; clear F S HL; intro w L HL S F)  | (refine wpList_empty rfl S _ rfl 3 Tryz.underlying23 infoInt ?_; clear F S; intro g w L hM S; replace HL := qNm HL hM; clear hM; have F := qFc HL S) | ((refine wpList_append_see rfl S _ _ _ rfl _ 3 _ 1 8 Tryz.underlying23 infoInt rfl (by omega) _ _ _ rfl qAt _ _ _ rfl (H.out.at_ S) (ints_one _) (by simp only [maxLen]; omega) (by omega) ?_; clear F S; intro u' w L hM S; replace HL := qNm HL hM; clear hM; have F := qFc HL S); obtain ⟨A', cap', rfl, hcap', hmax'⟩ := qSl HL S 0))
  ((try simp only [Exit.inBlock, Exit.then]); refine ret1 rfl (resCell S HL 2 rfl rfl (by kernel_rfl)) rfl ?_)
  exact ⟨_, rfl, (by rw [HL.out] at S; exact S.sub (by repeat (first | exact .refl _ | exact List.nil_sublist _ | apply List.Sublist.cons_cons | apply List.Sublist.cons)))⟩
theorem C_l1OwnSharedMatrix (r c : Int) (xs : List Int) (r' c' : Int) (ys : List Int) (u v : Value) (w0 : World) (h : Ints w0 u xs) (h' : Ints w0 v ys) (hn : xs.length ≤ 1048576) (hn' : ys.length ≤ 1048576) :
    Calls Tryz.prog 42 #[.agg #[.int .i64 r, .int .i64 c, u, .int .i64 r', .int .i64 c', v]] w0 (MakesSMx w0 r c xs r' c' ys) := by
  have C1 := fun r c xs v w h hn => C_l1OwnMatrix r c xs v w h hn
  unfold MakesMx at C1
  unfold MakesSMx
  have H := Lib.hid h
  have H' := Lib.hid h'
  obtain ⟨_, A, cap, rfl, hcap, hmax, _⟩ := h
  obtain ⟨_, A2, cap2, rfl, hcap2, hmax2, _⟩ := h'
  obtain ⟨L, HL, S⟩ := st_start w0; have F : True := trivial
  go_enter Tryz.func42, Tryz.ntmps42
  go_wp2_with (first | (refine qbx HL S ?_; clear F S HL; intro g w L HL S F) | (refine qal HL S zSMx ?_; clear F S HL; intro g w L HL S F) | (refine qst HL S 0 ?_; clear F S HL; intro w L HL S F) | (refine qst HL S 1 ?_; clear F S HL; intro w L HL S F) | (refine qst HL S 2 ?_; clear F S HL; intro w L HL S F) | (refine qst HL S 3 ?_; clear F S HL; intro w L HL S F)  | (go_at_call 88; refine (C1 _ _ _ _ _ (by first | exact H.out.at_ S | exact H'.out.at_ S) (by first | exact hn | exact hn')).mono ?_; rintro e w ⟨u, rfl, T0⟩; have hX := qcl HL S T0; clear F S HL T0; obtain ⟨L, HL, S, F⟩ := hX; obtain ⟨A', cap', rfl, hcap', hmax'⟩ := qSl HL S 0))
  ((try simp only [Exit.inBlock, Exit.then]); refine ret1 rfl (resCell S HL 3 rfl rfl (by kernel_rfl)) rfl ?_)
  exact ⟨_, _, rfl, (by rw [HL.out] at S; exact S.sub (by repeat (first | exact .refl _ | exact List.nil_sublist _ | apply List.Sublist.cons_cons | apply List.Sublist.cons)))⟩
end
end Go.Proofs.YtjgfjfjboimgdaaGreat
