/- ScA MatJ ScP NumA MxP -/
import Derived.Test.YtjgfjfjboimgdaaGreatY08
namespace Go.Proofs.YtjgfjfjboimgdaaGreat
set_option linter.unusedSimpArgs false
set_option linter.unusedVariables false
set_option linter.unusedSectionVars false
open Go Go.RowKit
set_option maxHeartbeats 8000000
set_option maxRecDepth 20000
section
structure Scl where
  xs : List Int
  ys : List Int
  us : List Int
  vs : List Int
  C : Nat
  s : Int
def Scl.t (z : Scl) (k : Nat) : Tri := triAt (seedAt z.s (5 * k))
def Scl.x (z : Scl) (k : Nat) : Sh := ⟨z.xs.getD k 0, z.ys.getD k 0⟩
def Scl.y (z : Scl) (k : Nat) : Sh := ⟨z.us.getD (k / z.C) 0, z.vs.getD (k / z.C) 0⟩
def Scl.d (z : Scl) (k : Nat) : Int := dOf (z.x k) (z.t k)
def Scl.e (z : Scl) (k : Nat) : Int := eOf (z.y k) (z.t k)
def Scl.p (z : Scl) (k : Nat) : Sh := mulV (z.t k) (z.d k) (z.e k)
def Scl.opened (z : Scl) : Nat → List Int
  | 0 => []
  | k + 1 => z.opened k ++ [z.d k, z.e k]
theorem Scl.opened_length (z : Scl) : ∀ k, (z.opened k).length = 2 * k
  | 0 => rfl
  | k + 1 => by rw [Scl.opened, List.length_append, z.opened_length k]; rfl
def Scl.fir (z : Scl) (n : Nat) : List Int := tab n fun k => (z.p k).a
def Scl.sec (z : Scl) (n : Nat) : List Int := tab n fun k => (z.p k).b
def Scl.firTo (z : Scl) (n k : Nat) : List Int := tab n fun q => if q < k then (z.p q).a else 0
def Scl.secTo (z : Scl) (n k : Nat) : List Int := tab n fun q => if q < k then (z.p q).b else 0
theorem to_set (f : Nat → Int) (n k : Nat) : (tab n fun q => if q < k then f q else 0).set k (f k) = tab n fun q => if q < k + 1 then f q else 0 := by
  rw [tab_set]
  refine tab_congr _ _ _ fun q _ => ?_
  by_cases h : q = k
  · subst h; simp
  · simp only [h, if_false]
    by_cases h2 : q < k
    · rw [if_pos h2, if_pos (by omega)]
    · rw [if_neg h2, if_neg (by omega)]
theorem to_zero (f : Nat → Int) (n : Nat) : (tab n fun q => if q < 0 then f q else 0) = tab n fun _ => 0 := tab_congr _ _ _ fun q _ => by simp
theorem to_full (f : Nat → Int) (n : Nat) : (tab n fun q => if q < n then f q else 0) = tab n f := tab_congr _ _ _ fun q h => by simp [h]
def scaleOk (m col : SMx) (s : Int) : Bool := m.ok && col.ok && seedOk s && decide (col.a.c = 1) && decide (col.a.r = m.a.r)
structure Scd where
  m : SMx
  os : List Int
  last : Int
def scaleS (m col : SMx) (s : Int) : Scd :=
  if scaleOk m col s then ⟨⟨⟨m.a.r, m.a.c, (Scl.mk m.a.xs m.b.xs col.a.xs col.b.xs m.a.c.toNat s).fir m.a.xs.length⟩, ⟨m.a.r, m.a.c, (Scl.mk m.a.xs m.b.xs col.a.xs col.b.xs m.a.c.toNat s).sec m.a.xs.length⟩⟩,
    (Scl.mk m.a.xs m.b.xs col.a.xs col.b.xs m.a.c.toNat s).opened m.a.xs.length, seedAt s (5 * m.a.xs.length)⟩
  else ⟨SMx.zero, [], 0⟩
theorem scaleS_not {m col : SMx} {s : Int} (h : scaleOk m col s = false) : scaleS m col s = ⟨SMx.zero, [], 0⟩ := by simp [scaleS, h]
def MakesScl (w0 : World) (z : Scd) (e : Ending) (w : World) : Prop :=
  ∃ u v o, e = .returned (.tuple #[.agg #[.int .i64 z.m.a.r, .int .i64 z.m.a.c, u, .int .i64 z.m.b.r, .int .i64 z.m.b.c, v], o, .int .i64 z.last]) ∧
    St w0 w [.row 3 1 o z.os.length (ints z.os), .row 3 1 v z.m.b.xs.length (ints z.m.b.xs), .row 3 1 u z.m.a.xs.length (ints z.m.a.xs)]
theorem St.nilScl {w0 w : World} {L : List Ent} (S : St w0 w L) (t : TypeId) : St w0 w [.row t 1 (.slice none 0 0) 0 [], .row t 1 (.slice none 0 0) 0 [], .row t 1 (.slice none 0 0) 0 []] :=
  (((S.nilRow t 1).nilRow t 1).nilRow t 1).sub (.cons_cons _ (.cons_cons _ (.cons_cons _ (List.nil_sublist _))))
theorem seedAt_add (s : Int) (a : Nat) : ∀ b, seedAt (seedAt s a) b = seedAt s (a + b)
  | 0 => rfl
  | b + 1 => by show nextS (seedAt (seedAt s a) b) = nextS (seedAt s (a + b)); rw [seedAt_add s a b]
theorem like_parts {r c : Int} {xs : List Int} {r' c' : Int} {ys : List Int} (h : likeMx ⟨r, c, xs⟩ ⟨r', c', ys⟩ = true) :
    ∃ R C N : Nat, r = R ∧ c = C ∧ r' = R ∧ c' = C ∧ 1 ≤ R ∧ R ≤ 5 ∧ 1 ≤ C ∧ C ≤ 5 ∧ R * C = N ∧ xs.length = N ∧ ys.length = N ∧ N ≤ 25 ∧ xs.all rv = true ∧ ys.all rv = true := by
  simp only [likeMx, Bool.and_eq_true, decide_eq_true_eq] at h
  obtain ⟨⟨⟨h1, h2⟩, h3⟩, h4⟩ := h
  obtain ⟨R, C, N, e0, r1, r2, c1, c2, hRC, hN, hN2, hall⟩ := Mx.ok_nat h1
  obtain ⟨e1, e2⟩ : r = R ∧ c = C := by injection e0 with e1 e2 _; exact ⟨e1, e2⟩
  obtain ⟨R', C', N', e0', _, _, _, _, hRC', hN', _, hall'⟩ := Mx.ok_nat h2
  obtain ⟨e1', e2'⟩ : r' = R' ∧ c' = C' := by injection e0' with e1 e2 _; exact ⟨e1, e2⟩
  have hr : R' = R := by
    have : (R' : Int) = R := by rw [← e1', ← h3, e1]
    exact Int.ofNat.inj this
  have hc : C' = C := by
    have : (C' : Int) = C := by rw [← e2', ← h4, e2]
    exact Int.ofNat.inj this
  subst hr hc
  exact ⟨R', C', N, e1, e2, e1', e2', r1, r2, c1, c2, hRC, hN, by rw [← hRC, hRC']; exact hN', hN2, hall, hall'⟩
theorem C_sharesAt (r c : Int) (xs : List Int) (r' c' : Int) (ys : List Int) (u v : Value) (k : Nat) (w0 : World) (h : Ints w0 u xs) (h' : Ints w0 v ys) (hk : k < xs.length) (hk' : k < ys.length) :
    Calls Tryz.prog 149 #[.agg #[.int .i64 r, .int .i64 c, u, .int .i64 r', .int .i64 c', v], .int .i64 k] w0 fun e w' => e = .returned (.agg #[.int .i64 (xs.getD k 0), .int .i64 (ys.getD k 0)]) ∧ Below w0.heap.size w0 w' := by
  obtain ⟨_, A, cap, rfl, hcap, hmax, hA⟩ := h
  obtain ⟨_, A2, cap2, rfl, hcap2, hmax2, hA2⟩ := h'
  obtain ⟨b, off, rfl, hb, hc⟩ := hA (by omega)
  obtain ⟨b2, off2, rfl, hb2, hc2⟩ := hA2 (by omega)
  have D := Lib.hid (hc k _ (ints_getD xs k hk))
  have D2 := Lib.hid (hc2 k _ (ints_getD ys k hk'))
  clear hc hc2 hA hA2
  generalize xs.getD k 0 = x at D ⊢
  generalize ys.getD k 0 = y at D2 ⊢
  obtain ⟨L, HL, S⟩ := st_start w0; have F : True := trivial
  go_enter Tryz.func149, Tryz.ntmps149
  go_upto_region 1 with (first | (refine qbx HL S ?_; clear F S HL; intro g w L HL S F) | (refine qal HL S zSh ?_; clear F S HL; intro g w L HL S F))
  have d1 := fun w' (S' : St w0 w' L) => (S'.below.cell (p := ⟨b, off + k, none⟩) hb).trans D.out
  have d2 := fun w' (S' : St w0 w' L) => (S'.below.cell (p := ⟨b2, off2 + k, none⟩) hb2).trans D2.out
  have HL0 := HL; have F0 := F; refine wp_region_tree (S := fun w' => St w0 w' L) (qcs 0 13 (.act 13 .fin .stop)) (by kernel_rfl) (by kernel_rfl) (by kernel_rfl) (by intro c a d v w h; cases d <;> exact h) ?_; dsimp only [qcs, Nat.reduceAdd]; replace S := S.drew
  repeat (first | refine qCa ?_ | refine qAn ?_ | refine qSk ?_ | (refine tree_act rfl rfl ?_ tree_stop; intro K hK; (refine qsw HL S 0 ?_; clear F S HL; intro w L HL S F); (refine qKo hK ?_; clear hK K)) | (refine tree_act rfl rfl ?_ tree_stop; intro K hK; go_wp2_with (first | fail); (refine qKo hK ?_; clear hK K)))
  refine tree_fin ?_
  go_wp2
  ((try simp only [Exit.inBlock, Exit.then]); refine ret1 rfl (resCell S HL 0 rfl rfl (by kernel_rfl)) rfl ?_)
  exact ⟨rfl, S.below⟩
theorem C_put (R0 : List Ent) (p q N : Nat) (r c r' c' : Int) (ga gb ca cb : Nat) (xs ys : List Int) (k : Nat) (x y : Int) (w0 w1 : World) (S : St w0 w1 R0) (h : At R0 p (.row 3 1 (.slice (some ⟨ga, 0, none⟩) N ca) N (ints xs)))
    (h' : At R0 q (.row 3 1 (.slice (some ⟨gb, 0, none⟩) N cb) N (ints ys))) (hpq : p ≠ q) (hk : k < N) :
    Calls Tryz.prog 150 #[.agg #[.int .i64 r, .int .i64 c, .slice (some ⟨ga, 0, none⟩) N ca, .int .i64 r', .int .i64 c', .slice (some ⟨gb, 0, none⟩) N cb], .int .i64 k, .agg #[.int .i64 x, .int .i64 y]] w1 fun e w' => (∃ u, e = .returned u) ∧
      St w0 w' ((R0.set p (.row 3 1 (.slice (some ⟨ga, 0, none⟩) N ca) N (ints (xs.set k x)))).set q (.row 3 1 (.slice (some ⟨gb, 0, none⟩) N cb) N (ints (ys.set k y)))) := by
  obtain ⟨L, HL⟩ : ∃ L, Hid (L = R0) := ⟨_, Lib.hid rfl⟩
  rw [← HL.out] at S
  have F : True := trivial
  obtain ⟨hc1, hc2⟩ : N ≤ ca ∧ ca ≤ maxLen := by
    obtain ⟨_, _, cA, eA, hc1, hc2, _⟩ := Sees.row S (show At L p _ from by rw [HL.out]; exact h)
    injection eA with _ _ e3
    subst e3
    exact ⟨hc1, hc2⟩
  obtain ⟨hc3, hc4⟩ : N ≤ cb ∧ cb ≤ maxLen := by
    obtain ⟨_, _, cA, eA, hc1, hc2, _⟩ := Sees.row S (show At L q _ from by rw [HL.out]; exact h')
    injection eA with _ _ e3
    subst e3
    exact ⟨hc1, hc2⟩
  unfold maxLen at hc2 hc4
  rw [ints_set, ints_set]
  have h2 : At (R0.set p (.row 3 1 (.slice (some ⟨ga, 0, none⟩) N ca) N ((ints xs).set k (.int .i64 x)))) q (.row 3 1 (.slice (some ⟨gb, 0, none⟩) N cb) N (ints ys)) := by
    unfold At; rw [List.getElem?_set_ne hpq]; exact h'
  have H1 := Lib.hid h
  have H2 := Lib.hid h2
  clear h h2 h'
  go_enter Tryz.func150, Tryz.ntmps150
  go_upto_region 2 with (first | (refine qbx HL S ?_; clear F S HL; intro g w L HL S F) | (refine wpList_store_row rfl S _ _ _ rfl (p + 2) _ _ _ _ _ _ _ (atOf HL (At.cons (At.cons H1.out))) rfl _ rfl (by kernel_rfl) rfl (by omega) ?_; clear F S; intro w L hM S; replace HL := qNm HL hM; clear hM; have F := qFc HL S))
  go_wp2_with (first | (refine wpList_store_row rfl S _ _ _ rfl (q + 2) _ _ _ _ _ _ _ (atOf HL (At.cons (At.cons H2.out))) rfl _ rfl (by kernel_rfl) rfl (by omega) ?_; clear F S; intro w L hM S; replace HL := qNm HL hM; clear hM; have F := qFc HL S))
  go_end0
  rw [HL.out] at S
  exact ⟨⟨_, rfl⟩, S.sub (.cons _ (.cons _ (.refl _)))⟩
theorem C_emptyShared (R C N : Nat) (w0 : World) (hN : R * C = N) (hN2 : N ≤ 25) : Calls Tryz.prog 146 #[.int .i64 R, .int .i64 C] w0 (MakesSMx w0 R C (tab N fun _ => 0) R C (tab N fun _ => 0)) := by
  have CE := fun w => C_emptyMatrix R C N w hN hN2
  unfold MakesMx at CE
  unfold MakesSMx
  rw [tab_length] at CE ⊢
  generalize (tab N fun _ => 0) = zs at CE ⊢
  obtain ⟨L, HL, S⟩ := st_start w0; have F : True := trivial
  go_enter Tryz.func146, Tryz.ntmps146
  go_wp2_with (first | (refine qbx HL S ?_; clear F S HL; intro g w L HL S F) | (refine qal HL S zSMx ?_; clear F S HL; intro g w L HL S F) | (refine qst HL S 0 ?_; clear F S HL; intro w L HL S F) | (refine qst HL S 1 ?_; clear F S HL; intro w L HL S F) | (refine qst HL S 2 ?_; clear F S HL; intro w L HL S F) | (refine qst HL S 3 ?_; clear F S HL; intro w L HL S F)  | (go_at_call 103; refine (CE _).mono ?_; rintro e w ⟨u, rfl, T0⟩; have hX := qcl HL S T0; clear F S HL T0; obtain ⟨L, HL, S, F⟩ := hX; obtain ⟨A', cap', rfl, hcap', hmax'⟩ := qSl HL S 0))
  ((try simp only [Exit.inBlock, Exit.then]); refine ret1 rfl (resCell S HL 2 rfl rfl (by kernel_rfl)) rfl ?_)
  exact ⟨_, _, rfl, (by rw [HL.out] at S; exact S.sub (by repeat (first | exact .refl _ | exact List.nil_sublist _ | apply List.Sublist.cons_cons | apply List.Sublist.cons)))⟩
end
section
def addV (xs ys : List Int) (k : Nat) : Int := addR (xs.getD k 0) (ys.getD k 0)
def addMx (a b : Mx) : Mx := if likeMx a b then ⟨a.r, a.c, tab a.xs.length (addV a.xs b.xs)⟩ else Mx.zero
theorem addMx_ok {a b : Mx} (h : likeMx a b = true) : addMx a b = ⟨a.r, a.c, tab a.xs.length (addV a.xs b.xs)⟩ := by simp [addMx, h]
end
section
theorem ro_ex (z : Int) : ∃ k, ro z = z + 4096 * k := ⟨-(z / 4096), by unfold ro; rw [Int.emod_def]; omega⟩
theorem ro_add (z k : Int) : ro (z + 4096 * k) = ro z := by unfold ro; exact Int.add_mul_emod_self_left z 4096 k
theorem ro_shift {u v : Int} (h : ro u = ro v) : ∃ k, u = v + 4096 * k := by
  obtain ⟨a, ha⟩ := ro_ex u
  obtain ⟨b, hb⟩ := ro_ex v
  exact ⟨b - a, by omega⟩
theorem join_ro {s : Sh} (h : s.ok = true) : joinS s = ro (s.a + s.b) ∧ rv (joinS s) = true := by
  have h' := h
  simp only [Sh.ok, Bool.and_eq_true] at h'
  have e : joinS s = ro (s.a + s.b) := by simp [joinS, addR, h'.1, h'.2]
  exact ⟨e, by rw [e]; exact rv_ro _⟩
theorem mulV_join {t : Tri} (ht : triOk t = true) {x y : Sh} (hx : x.ok = true) (hy : y.ok = true) :
    addR (mulV t (dOf x t) (eOf y t)).a (mulV t (dOf x t) (eOf y t)).b = mulR (joinS x) (joinS y) := by
  simp only [triOk, Bool.and_eq_true, decide_eq_true_eq] at ht
  obtain ⟨⟨⟨ha, hb⟩, hc⟩, he⟩ := ht
  obtain ⟨ea, ra⟩ := join_ro ha
  obtain ⟨eb, rb⟩ := join_ro hb
  obtain ⟨ec, rc⟩ := join_ro hc
  obtain ⟨_, rx⟩ := join_ro hx
  obtain ⟨_, ry⟩ := join_ro hy
  have ed : dOf x t = ro (joinS x - joinS t.a) := by simp [dOf, subR, rx, ra]
  have ee : eOf y t = ro (joinS y - joinS t.b) := by simp [eOf, subR, ry, rb]
  have em : mulR (joinS t.a) (joinS t.b) = ro (joinS t.a * joinS t.b) := by simp [mulR, ra, rb]
  have er : mulR (joinS x) (joinS y) = ro (joinS x * joinS y) := by simp [mulR, rx, ry]
  rw [er]
  rw [em, ec] at he
  obtain ⟨k3, h3⟩ := ro_shift he
  obtain ⟨ka, h4⟩ := ro_ex (t.a.a + t.a.b)
  obtain ⟨kb, h5⟩ := ro_ex (t.b.a + t.b.b)
  rw [← ea] at h4
  rw [← eb] at h5
  obtain ⟨k1, h1⟩ := ro_ex (joinS x - joinS t.a)
  obtain ⟨k2, h2⟩ := ro_ex (joinS y - joinS t.b)
  rw [← ed] at h1
  rw [← ee] at h2
  generalize dOf x t = d at *
  generalize eOf y t = e at *
  generalize joinS x = X at *
  generalize joinS y = Y at *
  generalize joinS t.a = A at *
  generalize joinS t.b = B at *
  show addR (ro _) (ro _) = _
  rw [addR_ok (rv_ro _) (rv_ro _)]
  obtain ⟨n1, g1⟩ := ro_ex (t.c.a + d * t.b.a + e * t.a.a + d * e)
  obtain ⟨n2, g2⟩ := ro_ex (t.c.b + d * t.b.b + e * t.a.b)
  rw [g1, g2]
  generalize t.c.a = ca at *
  generalize t.c.b = cb at *
  generalize t.a.a = aa at *
  generalize t.a.b = ab at *
  generalize t.b.a = ba at *
  generalize t.b.b = bb at *
  have : ca + d * ba + e * aa + d * e + 4096 * n1 + (cb + d * bb + e * ab + 4096 * n2) = X * Y + 4096 * (k3 - d * kb - e * ka + k1 * Y + k2 * X + 4096 * k1 * k2 + n1 + n2) := by
    clear g1 g2 ea eb ec ed ee em er he ra rb rc rx ry ha hb hc hx hy
    have e1 : cb = A * B + 4096 * k3 - ca := by omega
    have e2 : bb = B - 4096 * kb - ba := by omega
    have e3 : ab = A - 4096 * ka - aa := by omega
    have e4 : A = X - d + 4096 * k1 := by omega
    have e5 : B = Y - e + 4096 * k2 := by omega
    subst e1 e2 e3
    subst e4 e5
    grind
  rw [this, ro_add]
theorem mulV_rv (t : Tri) (d e : Int) : rv (mulV t d e).a = true ∧ rv (mulV t d e).b = true := ⟨rv_ro _, rv_ro _⟩
theorem all_tab {n : Nat} {f : Nat → Int} (h : ∀ k, k < n → rv (f k) = true) : (tab n f).all rv = true := by
  rw [List.all_eq_true]
  intro x hx
  simp only [tab, List.mem_map, List.mem_range] at hx
  obtain ⟨q, hq, rfl⟩ := hx
  exact h q hq
structure Scaled (a b c : Mx) (os : List Int) : Prop where
  side : ∃ C : Nat, a.c = C ∧ 1 ≤ C ∧ C ≤ 5 ∧ a.xs.length ≤ 25 ∧ c.xs.length = a.xs.length ∧ (∀ k, k < a.xs.length → k / C < b.xs.length ∧ c.xs.getD k 0 = mulR (a.xs.getD k 0) (b.xs.getD (k / C) 0))
  len : os.length = 2 * a.xs.length
theorem scale_law {m col : SMx} {s : Int} (h : scaleOk m col s = true) :
    Scaled (addMx m.a m.b) (addMx col.a col.b) (addMx (scaleS m col s).m.a (scaleS m col s).m.b) (scaleS m col s).os := by
  have h' := h
  simp only [scaleOk, Bool.and_eq_true, decide_eq_true_eq] at h'
  obtain ⟨⟨⟨⟨hm, hcol⟩, _⟩, hc1⟩, hr1⟩ := h'
  obtain ⟨⟨r, c, xs⟩, ⟨r', c', ys⟩⟩ := m
  obtain ⟨⟨p, q, us⟩, ⟨p', q', vs⟩⟩ := col
  obtain ⟨R, C, N, rfl, rfl, rfl, rfl, r1, r2, c1, c2, hRC, hN, hN', hN2, a1, a2⟩ := like_parts hm
  obtain ⟨P, Q, M, rfl, rfl, rfl, rfl, p1, p2, q1, q2, hPQ, hM, hM', _, a3, a4⟩ := like_parts hcol
  dsimp only at hc1 hr1
  obtain rfl : Q = 1 := by omega
  obtain rfl : P = R := by omega
  have hMP : M = P := by omega
  subst hMP
  rw [scaleS, if_pos h]
  dsimp only
  have ezt : ((C : Int).toNat) = C := rfl
  rw [ezt]
  obtain ⟨z, hz⟩ : ∃ z, Scl.mk xs ys us vs C s = z := ⟨_, rfl⟩
  rw [hz]
  have hx : ∀ k, k < N → (z.x k).ok = true := fun k hk => by
    rw [← hz]
    simp only [Scl.x, Sh.ok, Bool.and_eq_true]
    exact ⟨all_getD a1 k (by omega), all_getD a2 k (by omega)⟩
  have hdiv : ∀ k, k < N → k / C < M := fun k hk => Nat.div_lt_of_lt_mul (by rw [Nat.mul_comm, hRC]; exact hk)
  have hy : ∀ k, k < N → (z.y k).ok = true := fun k hk => by
    have := hdiv k hk
    rw [← hz]
    simp only [Scl.y, Sh.ok, Bool.and_eq_true]
    exact ⟨all_getD a3 (k / C) (by omega), all_getD a4 (k / C) (by omega)⟩
  have l1 : (z.fir xs.length).length = xs.length := tab_length _ _
  have l2 : (z.sec xs.length).length = xs.length := tab_length _ _
  have hlike : likeMx ⟨M, C, z.fir xs.length⟩ ⟨M, C, z.sec xs.length⟩ = true := by
    have o1 : (Mx.mk M C (z.fir xs.length)).ok = true := Mx.ok_of r1 r2 c1 c2 (by rw [l1, hN, hRC]) (all_tab (n := xs.length) (f := fun k => (z.p k).a) fun k _ => (mulV_rv _ _ _).1)
    have o2 : (Mx.mk M C (z.sec xs.length)).ok = true := Mx.ok_of r1 r2 c1 c2 (by rw [l2, hN, hRC]) (all_tab (n := xs.length) (f := fun k => (z.p k).b) fun k _ => (mulV_rv _ _ _).2)
    simp [likeMx, o1, o2]
  rw [addMx_ok hm, addMx_ok hcol, addMx_ok hlike]
  refine ⟨⟨C, rfl, c1, c2, by simp only [tab_length]; omega, by simp only [tab_length, l1], fun k hk => ?_⟩, by rw [z.opened_length]; simp only [tab_length]⟩
  simp only [tab_length] at hk ⊢
  have hkN : k < N := by omega
  refine ⟨by rw [hM]; exact hdiv k hkN, ?_⟩
  rw [tab_getD _ _ _ (by rw [l1]; exact hk), tab_getD _ _ _ hk, tab_getD _ _ _ (by rw [hM]; exact hdiv k hkN)]
  show addR ((z.fir xs.length).getD k 0) ((z.sec xs.length).getD k 0) = mulR (addR (xs.getD k 0) (ys.getD k 0)) (addR (us.getD (k / C) 0) (vs.getD (k / C) 0))
  rw [Scl.fir, Scl.sec, tab_getD _ _ _ hk, tab_getD _ _ _ hk]
  have := mulV_join (triAt_ok (seedAt z.s (5 * k))) (hx k hkN) (hy k hkN)
  rw [← hz] at this ⊢
  exact this
end
section
set_option maxHeartbeats 2000000
def cutR (x : Int) : Int := if rv x then ro (signed x / 16) else -1
def growE (x : Int) : Int := max (-4) (min 2 (signed x / 16))
def growR (x : Int) : Int := 2 ^ (growE x + 4).toNat
def backR (x : Int) : Int := if signed x ≤ 0 then 0 else 256 / signed x
def fnAt (k x : Int) : Int := if k = 1 then cutR x else if k = 2 then max (signed x) 0 else if k = 3 then (if signed x < 0 then 1 else 0) else if k = 4 then growR x else backR x
theorem signed_bd {x : Int} (h : rv x = true) : -2048 ≤ signed x ∧ signed x ≤ 2047 := by
  have := rv_bd h
  unfold signed
  rw [if_pos h]
  split <;> omega
theorem cutR_eq {x : Int} (h : rv x = true) : cutR x = ro (signed x / 16) := by unfold cutR; rw [if_pos h]
theorem growE_bd (x : Int) : -4 ≤ growE x ∧ growE x ≤ 2 := by unfold growE; omega
theorem fnAt_rv {k x : Int} (hx : rv x = true) : rv (fnAt k x) = true := by
  have hs := signed_bd hx
  unfold fnAt
  split
  · rw [cutR_eq hx]; exact rv_ro _
  split
  · rw [rv_iff]; omega
  split
  · split <;> rfl
  split
  · have h1 := growE_bd x
    unfold growR
    obtain ⟨e, he⟩ : ∃ e, (growE x + 4).toNat = e := ⟨_, rfl⟩
    rw [he]
    have he6 : e ≤ 6 := by omega
    rcases (by omega : e = 0 ∨ e = 1 ∨ e = 2 ∨ e = 3 ∨ e = 4 ∨ e = 5 ∨ e = 6) with h | h | h | h | h | h | h <;> subst h <;> decide
  · unfold backR
    split
    · rfl
    · rename_i h0
      have h1 : (256 : Int) / signed x ≤ 256 := Int.ediv_le_self _ (by omega)
      have h2 : 0 ≤ (256 : Int) / signed x := Int.ediv_nonneg (by omega) (by omega)
      rw [rv_iff]; omega
theorem xor_sign {x : Int} (h : rv x = true) : bits .xor .i64 x 2048 = signed x + 2048 := by
  obtain ⟨h1, h2⟩ := rv_bd h
  have key : ∀ n : Fin 4096, bits .xor .i64 (n.val : Int) 2048 = signed (n.val : Int) + 2048 := by decide +kernel
  have := key ⟨x.toNat, by omega⟩
  rwa [show ((x.toNat : Nat) : Int) = x from Int.toNat_of_nonneg h1] at this
theorem grow_val {q z : Int} (hz : 2 ^ (max (-4) (min 2 q) + 4).toNat = z) : q < -4 ∧ z = 1 ∨ q = -4 ∧ z = 1 ∨ q = -3 ∧ z = 2 ∨ q = -2 ∧ z = 4 ∨ q = -1 ∧ z = 8 ∨ q = 0 ∧ z = 16 ∨ q = 1 ∧ z = 32 ∨ q = 2 ∧ z = 64 ∨ q > 2 ∧ z = 64 := by
  subst hz
  rcases (by omega : q < -4 ∨ q = -4 ∨ q = -3 ∨ q = -2 ∨ q = -1 ∨ q = 0 ∨ q = 1 ∨ q = 2 ∨ q > 2) with h | h | h | h | h | h | h | h | h
  · have e : max (-4) (min 2 q) = -4 := by omega
    rw [e]
    exact .inl ⟨h, rfl⟩
  · subst h; exact .inr (.inl ⟨rfl, rfl⟩)
  · subst h; exact .inr (.inr (.inl ⟨rfl, rfl⟩))
  · subst h; exact .inr (.inr (.inr (.inl ⟨rfl, rfl⟩)))
  · subst h; exact .inr (.inr (.inr (.inr (.inl ⟨rfl, rfl⟩))))
  · subst h; exact .inr (.inr (.inr (.inr (.inr (.inl ⟨rfl, rfl⟩)))))
  · subst h; exact .inr (.inr (.inr (.inr (.inr (.inr (.inl ⟨rfl, rfl⟩))))))
  · subst h; exact .inr (.inr (.inr (.inr (.inr (.inr (.inr (.inl ⟨rfl, rfl⟩)))))))
  · have e : max (-4) (min 2 q) = 2 := by omega
    rw [e]
    exact .inr (.inr (.inr (.inr (.inr (.inr (.inr (.inr ⟨h, rfl⟩)))))))
theorem C_impl_SignedOf (x s : Int) (w0 : World) (hx : rv x = true) (hs : signed x = s) : Calls Tryz.prog 192 #[.int .i64 x] w0 fun e w' => e = .returned (.int .i64 s) ∧ w0 = w' := by
  have hX := xor_sign hx
  have hb := signed_bd hx
  rw [hs] at hX hb
  clear hs
  go_enter Tryz.func192, Tryz.ntmps192
  go_wp2_with (first | (go_at_call 67; refine qPu (C_impl_RingValid _ _) ?_))
  go_ret
  exact ⟨rfl, rfl⟩
theorem C_impl_CutRing (x z : Int) (w0 : World) (hx : rv x = true) (hz : cutR x = z) : Calls Tryz.prog 193 #[.int .i64 x] w0 fun e w' => e = .returned (.int .i64 z) ∧ w0 = w' := by
  rw [cutR_eq hx] at hz
  have hb := signed_bd hx
  obtain ⟨s, hs⟩ : ∃ s, signed x = s := ⟨_, rfl⟩
  rw [hs] at hz hb
  subst hz
  go_enter Tryz.func193, Tryz.ntmps193
  go_wp2_with (first | (go_at_call 67; refine qPu (C_impl_RingValid _ _) ?_) | (go_at_call 151; refine qPu (C_impl_RingOf _ _) ?_) | (go_at_call 192; refine qPu (C_impl_SignedOf _ _ _ hx hs) ?_))
  go_ret
  exact ⟨rfl, rfl⟩
theorem C_spec_SignedOf (x s : Int) (w0 : World) (hx : rv x = true) (hs : signed x = s) : Calls Tryz.prog 165 #[.int .i64 x] w0 fun e w' => e = .returned (.int .i64 s) ∧ w0 = w' := by
  have hb := rv_bd hx
  unfold signed at hs
  rw [if_pos hx] at hs
  by_cases h : x ≥ 2048
  · rw [if_pos h] at hs
    subst hs
    go_enter Tryz.func165, Tryz.ntmps165
    go_wp2_with (first | (go_at_call 136; refine qPu (C_spec_RingValid _ _) ?_))
    go_ret
    exact ⟨rfl, rfl⟩
  · rw [if_neg h] at hs
    subst hs
    go_enter Tryz.func165, Tryz.ntmps165
    go_wp2_with (first | (go_at_call 136; refine qPu (C_spec_RingValid _ _) ?_))
    go_ret
    exact ⟨rfl, rfl⟩
theorem C_l2Floor (n z : Int) (w0 : World) (hn : -1000000000 ≤ n ∧ n ≤ 1000000000) (hz : n / 16 = z) : Calls Tryz.prog 167 #[.int .i64 n] w0 fun e w' => e = .returned (.int .i64 z) ∧ w0 = w' := by
  by_cases h : n < 0
  · go_enter Tryz.func167, Tryz.ntmps167
    go_wp2
    go_ret
    refine ⟨?_, rfl⟩
    first
      | (simp; done)
      | (simp; omega)
  · have e1 : n.tdiv 16 = z := by rw [Int.tdiv_eq_ediv_of_nonneg (by omega)]; exact hz
    have hz1 : 0 ≤ z ∧ z ≤ 1000000000 := by omega
    clear hz
    go_enter Tryz.func167, Tryz.ntmps167
    go_wp2
    go_ret
    refine ⟨?_, rfl⟩
    first
      | (simp [e1]; done)
      | (simp [e1]; unfold wrap64; omega)
theorem C_spec_CutRing (x z : Int) (w0 : World) (hx : rv x = true) (hz : cutR x = z) : Calls Tryz.prog 166 #[.int .i64 x] w0 fun e w' => e = .returned (.int .i64 z) ∧ w0 = w' := by
  rw [cutR_eq hx] at hz
  have hb := signed_bd hx
  obtain ⟨s, hs⟩ : ∃ s, signed x = s := ⟨_, rfl⟩
  rw [hs] at hz hb
  subst hz
  go_enter Tryz.func166, Tryz.ntmps166
  go_wp2_with (first | (go_at_call 136; refine qPu (C_spec_RingValid _ _) ?_) | (go_at_call 96; refine qPu (C_spec_l1Ring _ _) ?_) | (go_at_call 165; refine qPu (C_spec_SignedOf _ _ _ hx hs) ?_) | (go_at_call 167; refine qPu (C_l2Floor _ _ _ ⟨by omega, by omega⟩ rfl) ?_))
  go_ret
  exact ⟨rfl, rfl⟩
theorem C_functionKnown (k : Int) (b : Bool) (w0 : World) (hb : (decide (1 ≤ k) && decide (k ≤ 5)) = b) : Calls Tryz.prog 144 #[.int .i64 k] w0 fun e w' => e = .returned (.bool b) ∧ w0 = w' := by
  subst hb
  go_enter Tryz.func144, Tryz.ntmps144
  go_wp2
  all_goals (go_ret; refine ⟨?_, rfl⟩; simp; omega)
theorem C_impl_FunctionAt (k x z : Int) (w0 : World) (hx : rv x = true) (hk : k = 1 ∨ k = 2 ∨ k = 3 ∨ k = 4 ∨ k = 5) (hz : fnAt k x = z) : Calls Tryz.prog 176 #[.int .i64 k, .int .i64 x] w0 fun e w' => e = .returned (.int .i64 z) ∧ w0 = w' := by
  have hb := signed_bd hx
  obtain ⟨s, hs⟩ : ∃ s, signed x = s := ⟨_, rfl⟩
  rcases hk with rfl | rfl | rfl | rfl | rfl
  · simp only [fnAt, if_true] at hz
    rw [hs] at hb
    go_enter Tryz.func176, Tryz.ntmps176
    go_wp2_with (first | (go_at_call 67; refine qPu (C_impl_RingValid _ _) ?_) | (go_at_call 144; refine qPu (C_functionKnown _ _ _ rfl) ?_) | (go_at_call 192; refine qPu (C_impl_SignedOf _ _ _ hx hs) ?_) | (go_at_call 193; refine qPu (C_impl_CutRing _ _ _ hx hz) ?_))
    go_ret
    exact ⟨rfl, rfl⟩
  · simp [fnAt] at hz
    rw [hs] at hb hz
    subst hz
    go_enter Tryz.func176, Tryz.ntmps176
    go_wp2_with (first | (go_at_call 67; refine qPu (C_impl_RingValid _ _) ?_) | (go_at_call 144; refine qPu (C_functionKnown _ _ _ rfl) ?_) | (go_at_call 192; refine qPu (C_impl_SignedOf _ _ _ hx hs) ?_))
    all_goals
      go_ret
      refine ⟨?_, rfl⟩
      simp
      omega
  · simp [fnAt] at hz
    rw [hs] at hb hz
    by_cases h : s < 0
    · rw [if_pos h] at hz
      subst hz
      go_enter Tryz.func176, Tryz.ntmps176
      go_wp2_with (first | (go_at_call 67; refine qPu (C_impl_RingValid _ _) ?_) | (go_at_call 144; refine qPu (C_functionKnown _ _ _ rfl) ?_) | (go_at_call 192; refine qPu (C_impl_SignedOf _ _ _ hx hs) ?_))
      go_ret
      exact ⟨rfl, rfl⟩
    · rw [if_neg h] at hz
      subst hz
      go_enter Tryz.func176, Tryz.ntmps176
      go_wp2_with (first | (go_at_call 67; refine qPu (C_impl_RingValid _ _) ?_) | (go_at_call 144; refine qPu (C_functionKnown _ _ _ rfl) ?_) | (go_at_call 192; refine qPu (C_impl_SignedOf _ _ _ hx hs) ?_))
      go_ret
      exact ⟨rfl, rfl⟩
  · have hz' : growR x = z := hz
    clear hz
    obtain ⟨q, hq⟩ : ∃ q, s / 16 = q := ⟨_, rfl⟩
    unfold growR growE at hz'
    rw [hs] at hb hz'
    rw [hq] at hz'
    have key := grow_val hz'
    clear hz'
    rcases key with ⟨h, rfl⟩ | ⟨rfl, rfl⟩ | ⟨rfl, rfl⟩ | ⟨rfl, rfl⟩ | ⟨rfl, rfl⟩ | ⟨rfl, rfl⟩ | ⟨rfl, rfl⟩ | ⟨rfl, rfl⟩ | ⟨h, rfl⟩
    all_goals
      go_enter Tryz.func176, Tryz.ntmps176
      go_wp2_with (first | (go_at_call 67; refine qPu (C_impl_RingValid _ _) ?_) | (go_at_call 144; refine qPu (C_functionKnown _ _ _ rfl) ?_) | (go_at_call 192; refine qPu (C_impl_SignedOf _ _ _ hx hs) ?_))
      go_ret
      exact ⟨rfl, rfl⟩
  · simp [fnAt, backR] at hz
    rw [hs] at hb hz
    by_cases h : s ≤ 0
    · rw [if_pos h] at hz
      subst hz
      go_enter Tryz.func176, Tryz.ntmps176
      go_wp2_with (first | (go_at_call 67; refine qPu (C_impl_RingValid _ _) ?_) | (go_at_call 144; refine qPu (C_functionKnown _ _ _ rfl) ?_) | (go_at_call 192; refine qPu (C_impl_SignedOf _ _ _ hx hs) ?_))
      go_ret
      exact ⟨rfl, rfl⟩
    · rw [if_neg h] at hz
      have e1 : (256 : Int).tdiv s = z := by rw [Int.tdiv_eq_ediv_of_nonneg (by omega)]; exact hz
      have hz1 : 0 ≤ z ∧ z ≤ 256 := by
        rw [← hz]
        exact ⟨Int.ediv_nonneg (by omega) (by omega), Int.ediv_le_self _ (by omega)⟩
      clear hz
      go_enter Tryz.func176, Tryz.ntmps176
      go_wp2_with (first | (go_at_call 67; refine qPu (C_impl_RingValid _ _) ?_) | (go_at_call 144; refine qPu (C_functionKnown _ _ _ rfl) ?_) | (go_at_call 192; refine qPu (C_impl_SignedOf _ _ _ hx hs) ?_))
      go_ret
      exact ⟨by simp [e1], rfl⟩
end
section
def dot (xs ys : List Int) (C D r c : Nat) : Nat → Int
  | 0 => 0
  | k + 1 => dot xs ys C D r c k + xs.getD (r * C + k) 0 * ys.getD (k * D + c) 0
def mulAt (xs ys : List Int) (C D q : Nat) : Int := ro (dot xs ys C D (q / D) (q % D) C)
def mulMx (a b : Mx) : Mx := ⟨a.r, b.c, tab (a.r.toNat * b.c.toNat) (mulAt a.xs b.xs a.c.toNat b.c.toNat)⟩
def mapV (k : Int) (xs : List Int) (q : Nat) : Int := fnAt k (xs.getD q 0)
def mapMx (k : Int) (m : Mx) : Mx := ⟨m.r, m.c, tab m.xs.length (mapV k m.xs)⟩
def rowTo (xs : List Int) (C r : Nat) : Nat → Int
  | 0 => 0
  | k + 1 => rowTo xs C r k + xs.getD (r * C + k) 0
def sumV (xs : List Int) (C r : Nat) : Int := ro (rowTo xs C r C)
def sumsMx (m : Mx) : Mx := ⟨m.r, 1, tab m.r.toNat (sumV m.xs m.c.toNat)⟩
def cutMul (a b : Mx) : Mx := mapMx 1 (mulMx a b)
def scaleV (xs ys : List Int) (C q : Nat) : Int := mulR (xs.getD q 0) (ys.getD (q / C) 0)
def scaleMx (g b : Mx) : Mx := ⟨g.r, g.c, tab g.xs.length (scaleV g.xs b.xs g.c.toNat)⟩
theorem fil_set (f : Nat → Int) (n k : Nat) : (tab n fun q => if q < k then f q else 0).set k (f k) = tab n fun q => if q < k + 1 then f q else 0 := by
  rw [tab_set]
  refine tab_congr _ _ _ fun q _ => ?_
  by_cases h : q = k
  · subst h; simp
  · simp only [h, if_false]
    by_cases h2 : q < k
    · rw [if_pos h2, if_pos (by omega)]
    · rw [if_neg h2, if_neg (by omega)]
theorem fil_zero (f : Nat → Int) (n : Nat) : (tab n fun q => if q < 0 then f q else 0) = tab n fun _ => 0 := tab_congr _ _ _ fun q _ => by simp
theorem fil_full (f : Nat → Int) (n : Nat) : (tab n fun q => if q < n then f q else 0) = tab n f := tab_congr _ _ _ fun q h => by simp [h]
theorem dvd_at {r D c : Nat} (hc : c < D) : (r * D + c) / D = r := by
  rw [Nat.mul_comm, Nat.mul_add_div (by omega), Nat.div_eq_of_lt hc, Nat.add_zero]
theorem mdl_at {r D c : Nat} (hc : c < D) : (r * D + c) % D = c := by
  rw [Nat.mul_comm, Nat.mul_add_mod, Nat.mod_eq_of_lt hc]
theorem mulAt_at (xs ys : List Int) {C D r c : Nat} (hc : c < D) : mulAt xs ys C D (r * D + c) = ro (dot xs ys C D r c C) := by
  unfold mulAt
  rw [dvd_at hc, mdl_at hc]
theorem getD_rv {xs : List Int} (h : xs.all rv = true) (k : Nat) : rv (xs.getD k 0) = true := by
  rcases Nat.lt_or_ge k xs.length with h1 | h1
  · rw [List.getD_eq_getElem?_getD, List.getElem?_eq_getElem h1]
    exact List.all_eq_true.1 h _ (List.getElem_mem h1)
  · rw [List.getD_eq_getElem?_getD, List.getElem?_eq_none h1]; rfl
theorem dot_bd {xs ys : List Int} (hx : xs.all rv = true) (hy : ys.all rv = true) (C D r c : Nat) : ∀ k, 0 ≤ dot xs ys C D r c k ∧ dot xs ys C D r c k ≤ 16769025 * k
  | 0 => by simp [dot]
  | k + 1 => by
    have ih := dot_bd hx hy C D r c k
    have h1 := rv_bd (getD_rv hx (r * C + k))
    have h2 := rv_bd (getD_rv hy (k * D + c))
    unfold dot
    generalize xs.getD (r * C + k) 0 = a at *
    generalize ys.getD (k * D + c) 0 = b at *
    have h3 : 0 ≤ a * b := Int.mul_nonneg h1.1 h2.1
    have h4 : a * b ≤ 4095 * 4095 := Int.mul_le_mul (by omega) (by omega) h2.1 (by omega)
    omega
theorem rowTo_bd {xs : List Int} (hx : xs.all rv = true) (C r : Nat) : ∀ k, 0 ≤ rowTo xs C r k ∧ rowTo xs C r k ≤ 4095 * k
  | 0 => by simp [rowTo]
  | k + 1 => by
    have ih := rowTo_bd hx C r k
    have h1 := rv_bd (getD_rv hx (r * C + k))
    unfold rowTo
    generalize xs.getD (r * C + k) 0 = a at *
    omega
theorem tab_all {n : Nat} {f : Nat → Int} (h : ∀ q, q < n → rv (f q) = true) : (tab n f).all rv = true := by
  rw [List.all_eq_true]
  intro x hx
  obtain ⟨q, hq, rfl⟩ := List.mem_map.1 hx
  exact h q (List.mem_range.1 hq)
theorem sumsMx_ok {m : Mx} (h : m.ok = true) : (sumsMx m).ok = true := by
  obtain ⟨R, C, N, e1, r1, r2, c1, c2, _⟩ := Mx.ok_nat h
  rw [e1]
  exact Mx.ok_of (C := 1) r1 r2 (by omega) (by omega) (by rw [tab_length]; simp) (tab_all fun q _ => rv_ro _)
def mixG (w0 w1 x : Mx) : Mx := mapMx 4 (cutMul (cutMul x w0) (turnMx (cutMul x w1)))
def mixH (g : Mx) : Mx := mapMx 1 (scaleMx g (mapMx 5 (sumsMx g)))
def mixRun (w0 w1 w2 x : Mx) : Mx := cutMul (mixH (mixG w0 w1 x)) (cutMul x w2)
end
end Go.Proofs.YtjgfjfjboimgdaaGreat
