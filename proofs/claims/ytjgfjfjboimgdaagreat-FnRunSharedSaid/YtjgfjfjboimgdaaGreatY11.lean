/- PrP OpenS Ly LyP LyS Sl SlP SlS LyM SlM Wpl -/
import Derived.Test.YtjgfjfjboimgdaaGreatY10
namespace Go.Proofs.YtjgfjfjboimgdaaGreat
set_option linter.unusedSimpArgs false
set_option linter.unusedVariables false
set_option linter.unusedSectionVars false
open Go Go.RowKit
set_option maxHeartbeats 8000000
set_option maxRecDepth 20000
section
theorem getD_out {xs : List Int} {i : Nat} (h : xs.length ≤ i) : xs.getD i 0 = 0 := by
  rw [List.getD_eq_getElem?_getD, List.getElem?_eq_none h]; rfl
theorem sums_rel {a b : List Int} {n : Nat} (ha : a.length = n) (hb : b.length = n) (h1 : a.all rv = true) (h2 : b.all rv = true) (i : Nat) : ∃ k : Int, (tab n (sumsV a b)).getD i 0 = a.getD i 0 + b.getD i 0 + 4096 * k := by
  rcases Nat.lt_or_ge i n with h | h
  · rw [tab_getD _ _ _ h]
    unfold sumsV
    rw [addR_ok (getD_rv h1 i) (getD_rv h2 i)]
    exact ro_ex _
  · rw [getD_out (by rw [tab_length]; exact h), getD_out (xs := a) (by omega), getD_out (xs := b) (by omega)]
    exact ⟨0, rfl⟩
theorem subs_rel {a b : List Int} {n : Nat} (ha : a.length = n) (hb : b.length = n) (h1 : a.all rv = true) (h2 : b.all rv = true) (i : Nat) : ∃ k : Int, (tab n (subV a b)).getD i 0 = a.getD i 0 - b.getD i 0 + 4096 * k := by
  rcases Nat.lt_or_ge i n with h | h
  · rw [tab_getD _ _ _ h]
    unfold subV
    rw [subR_ok (getD_rv h1 i) (getD_rv h2 i)]
    exact ro_ex _
  · rw [getD_out (by rw [tab_length]; exact h), getD_out (xs := a) (by omega), getD_out (xs := b) (by omega)]
    exact ⟨0, rfl⟩
theorem sums_all {a b : List Int} {n : Nat} (h1 : a.all rv = true) (h2 : b.all rv = true) : (tab n (sumsV a b)).all rv = true :=
  tab_all fun q _ => by unfold sumsV; rw [addR_ok (getD_rv h1 q) (getD_rv h2 q)]; exact rv_ro _
theorem subs_all {a b : List Int} {n : Nat} (h1 : a.all rv = true) (h2 : b.all rv = true) : (tab n (subV a b)).all rv = true :=
  tab_all fun q _ => by unfold subV; rw [subR_ok (getD_rv h1 q) (getD_rv h2 q)]; exact rv_ro _
theorem mul_all {a b : List Int} {n K D : Nat} : (tab n (mulAt a b K D)).all rv = true := tab_all fun q _ => rv_ro _
theorem dot_mix {X Y A B a1 a2 b1 b2 d e : List Int} (K D r c : Nat) (hd : ∀ i, ∃ k : Int, d.getD i 0 = X.getD i 0 - A.getD i 0 + 4096 * k) (hA : ∀ i, ∃ k : Int, A.getD i 0 = a1.getD i 0 + a2.getD i 0 + 4096 * k)
    (he : ∀ i, ∃ k : Int, e.getD i 0 = Y.getD i 0 - B.getD i 0 + 4096 * k) (hB : ∀ i, ∃ k : Int, B.getD i 0 = b1.getD i 0 + b2.getD i 0 + 4096 * k) :
    ∀ n, ∃ k : Int, dot d b1 K D r c n + dot d b2 K D r c n + dot a1 e K D r c n + dot a2 e K D r c n + dot d e K D r c n + dot A B K D r c n = dot X Y K D r c n + 4096 * k
  | 0 => ⟨0, rfl⟩
  | n + 1 => by
    obtain ⟨k0, h0⟩ := dot_mix K D r c hd hA he hB n
    obtain ⟨k1, h1⟩ := hd (r * K + n)
    obtain ⟨k2, h2⟩ := hA (r * K + n)
    obtain ⟨k3, h3⟩ := he (n * D + c)
    obtain ⟨k4, h4⟩ := hB (n * D + c)
    simp only [dot]
    generalize d.getD (r * K + n) 0 = dv at *
    generalize X.getD (r * K + n) 0 = Xv at *
    generalize A.getD (r * K + n) 0 = Av at *
    generalize a1.getD (r * K + n) 0 = av at *
    generalize a2.getD (r * K + n) 0 = av' at *
    generalize e.getD (n * D + c) 0 = ev at *
    generalize Y.getD (n * D + c) 0 = Yv at *
    generalize B.getD (n * D + c) 0 = Bv at *
    generalize b1.getD (n * D + c) 0 = bv at *
    generalize b2.getD (n * D + c) 0 = bv' at *
    generalize dot d b1 K D r c n = t1 at *
    generalize dot d b2 K D r c n = t2 at *
    generalize dot a1 e K D r c n = t3 at *
    generalize dot a2 e K D r c n = t4 at *
    generalize dot d e K D r c n = t5 at *
    generalize dot A B K D r c n = t6 at *
    generalize dot X Y K D r c n = t7 at *
    refine ⟨k0 + Xv * k3 + Yv * k1 + 4096 * k1 * k3 - dv * k4 - ev * k2, ?_⟩
    clear hd hA he hB
    have e1 : bv' = Bv - 4096 * k4 - bv := by omega
    have e2 : av' = Av - 4096 * k2 - av := by omega
    have e3 : Av = Xv - dv + 4096 * k1 := by omega
    have e4 : Bv = Yv - ev + 4096 * k3 := by omega
    have e5 : t7 = t1 + t2 + t3 + t4 + t5 + t6 - 4096 * k0 := by omega
    subst e1 e2 e5
    subst e3 e4
    clear h0 h1 h2 h3 h4
    grind
structure Prd where
  xa : List Int
  xb : List Int
  ya : List Int
  yb : List Int
  R : Nat
  K : Nat
  D : Nat
  s : Int
def Prd.a1 (z : Prd) : List Int := rndTo z.s (z.R * z.K)
def Prd.s1 (z : Prd) : Int := seedAt z.s (z.R * z.K)
def Prd.a2 (z : Prd) : List Int := rndTo z.s1 (z.R * z.K)
def Prd.s2 (z : Prd) : Int := seedAt z.s1 (z.R * z.K)
def Prd.b1 (z : Prd) : List Int := rndTo z.s2 (z.K * z.D)
def Prd.s3 (z : Prd) : Int := seedAt z.s2 (z.K * z.D)
def Prd.b2 (z : Prd) : List Int := rndTo z.s3 (z.K * z.D)
def Prd.s4 (z : Prd) : Int := seedAt z.s3 (z.K * z.D)
def Prd.c1 (z : Prd) : List Int := rndTo z.s4 (z.R * z.D)
def Prd.s5 (z : Prd) : Int := seedAt z.s4 (z.R * z.D)
def Prd.A (z : Prd) : List Int := tab (z.R * z.K) (sumsV z.a1 z.a2)
def Prd.B (z : Prd) : List Int := tab (z.K * z.D) (sumsV z.b1 z.b2)
def Prd.P (z : Prd) : List Int := tab (z.R * z.D) (mulAt z.A z.B z.K z.D)
def Prd.c2 (z : Prd) : List Int := tab (z.R * z.D) (subV z.P z.c1)
def Prd.X (z : Prd) : List Int := tab (z.R * z.K) (sumsV z.xa z.xb)
def Prd.Y (z : Prd) : List Int := tab (z.K * z.D) (sumsV z.ya z.yb)
def Prd.d (z : Prd) : List Int := tab (z.R * z.K) (subV z.X z.A)
def Prd.e (z : Prd) : List Int := tab (z.K * z.D) (subV z.Y z.B)
def Prd.mul (z : Prd) (p q : List Int) : List Int := tab (z.R * z.D) (mulAt p q z.K z.D)
def Prd.add (z : Prd) (p q : List Int) : List Int := tab (z.R * z.D) (sumsV p q)
def Prd.fir (z : Prd) : List Int := z.add (z.add (z.add z.c1 (z.mul z.d z.b1)) (z.mul z.a1 z.e)) (z.mul z.d z.e)
def Prd.sec (z : Prd) : List Int := z.add (z.add z.c2 (z.mul z.d z.b2)) (z.mul z.a2 z.e)
theorem Prd.seeds {z : Prd} (h : seedOk z.s = true) : seedOk z.s1 = true ∧ seedOk z.s2 = true ∧ seedOk z.s3 = true ∧ seedOk z.s4 = true ∧ seedOk z.s5 = true := by
  have h1 : seedOk z.s1 = true := seedOk_at h _
  have h2 : seedOk z.s2 = true := seedOk_at h1 _
  have h3 : seedOk z.s3 = true := seedOk_at h2 _
  have h4 : seedOk z.s4 = true := seedOk_at h3 _
  exact ⟨h1, h2, h3, h4, seedOk_at h4 _⟩
theorem mulAt_ex (p q : List Int) (K D i : Nat) : ∃ k : Int, mulAt p q K D i = dot p q K D (i / D) (i % D) K + 4096 * k := ro_ex _
theorem Prd.mul_len (z : Prd) (p q : List Int) : (z.mul p q).length = z.R * z.D := tab_length _ _
theorem Prd.add_len (z : Prd) (p q : List Int) : (z.add p q).length = z.R * z.D := tab_length _ _
theorem Prd.join {z : Prd} (hxa : z.xa.length = z.R * z.K) (hxb : z.xb.length = z.R * z.K) (hya : z.ya.length = z.K * z.D) (hyb : z.yb.length = z.K * z.D)
    (axa : z.xa.all rv = true) (axb : z.xb.all rv = true) (aya : z.ya.all rv = true) (ayb : z.yb.all rv = true) :
    z.fir.all rv = true ∧ z.sec.all rv = true ∧ tab (z.R * z.D) (sumsV z.fir z.sec) = tab (z.R * z.D) (mulAt z.X z.Y z.K z.D) := by
  have la1 : z.a1.length = z.R * z.K := rndTo_length _ _
  have la2 : z.a2.length = z.R * z.K := rndTo_length _ _
  have lb1 : z.b1.length = z.K * z.D := rndTo_length _ _
  have lb2 : z.b2.length = z.K * z.D := rndTo_length _ _
  have lc1 : z.c1.length = z.R * z.D := rndTo_length _ _
  have aa1 : z.a1.all rv = true := rndTo_all _ _
  have aa2 : z.a2.all rv = true := rndTo_all _ _
  have ab1 : z.b1.all rv = true := rndTo_all _ _
  have ab2 : z.b2.all rv = true := rndTo_all _ _
  have ac1 : z.c1.all rv = true := rndTo_all _ _
  have aA : z.A.all rv = true := sums_all aa1 aa2
  have aB : z.B.all rv = true := sums_all ab1 ab2
  have aX : z.X.all rv = true := sums_all axa axb
  have aY : z.Y.all rv = true := sums_all aya ayb
  have lA : z.A.length = z.R * z.K := tab_length _ _
  have lB : z.B.length = z.K * z.D := tab_length _ _
  have lX : z.X.length = z.R * z.K := tab_length _ _
  have lY : z.Y.length = z.K * z.D := tab_length _ _
  have lP : z.P.length = z.R * z.D := tab_length _ _
  have aP : z.P.all rv = true := mul_all
  have lc2 : z.c2.length = z.R * z.D := tab_length _ _
  have ac2 : z.c2.all rv = true := subs_all aP ac1
  have hm : ∀ p q, (z.mul p q).all rv = true := fun p q => mul_all
  have f1 : (z.add z.c1 (z.mul z.d z.b1)).all rv = true := sums_all ac1 (hm _ _)
  have f2 : (z.add (z.add z.c1 (z.mul z.d z.b1)) (z.mul z.a1 z.e)).all rv = true := sums_all f1 (hm _ _)
  have f3 : z.fir.all rv = true := sums_all f2 (hm _ _)
  have g1 : (z.add z.c2 (z.mul z.d z.b2)).all rv = true := sums_all ac2 (hm _ _)
  have g2 : z.sec.all rv = true := sums_all g1 (hm _ _)
  refine ⟨f3, g2, tab_congr _ _ _ fun i hi => ?_⟩
  obtain ⟨m0, h0⟩ := dot_mix (X := z.X) (Y := z.Y) (A := z.A) (B := z.B) (a1 := z.a1) (a2 := z.a2) (b1 := z.b1) (b2 := z.b2) (d := z.d) (e := z.e) z.K z.D (i / z.D) (i % z.D)
    (subs_rel lX lA aX aA) (sums_rel la1 la2 aa1 aa2) (subs_rel lY lB aY aB) (sums_rel lb1 lb2 ab1 ab2) z.K
  unfold sumsV
  rw [addR_ok (getD_rv f3 i) (getD_rv g2 i)]
  obtain ⟨k1, e1⟩ := sums_rel (z.add_len _ _) (z.mul_len z.d z.e) f2 (hm z.d z.e) i
  obtain ⟨k2, e2⟩ := sums_rel (z.add_len _ _) (z.mul_len z.a1 z.e) f1 (hm z.a1 z.e) i
  obtain ⟨k3, e3⟩ := sums_rel lc1 (z.mul_len z.d z.b1) ac1 (hm z.d z.b1) i
  obtain ⟨k4, e4⟩ := sums_rel (z.add_len _ _) (z.mul_len z.a2 z.e) g1 (hm z.a2 z.e) i
  obtain ⟨k5, e5⟩ := sums_rel lc2 (z.mul_len z.d z.b2) ac2 (hm z.d z.b2) i
  obtain ⟨k6, e6⟩ := subs_rel lP lc1 aP ac1 i
  have hg : ∀ p q, ∃ k : Int, (z.mul p q).getD i 0 = dot p q z.K z.D (i / z.D) (i % z.D) z.K + 4096 * k := fun p q => by
    show ∃ k : Int, (tab (z.R * z.D) (mulAt p q z.K z.D)).getD i 0 = _
    rw [tab_getD _ _ _ hi]
    exact mulAt_ex _ _ _ _ _
  obtain ⟨n1, q1⟩ := hg z.d z.e
  obtain ⟨n2, q2⟩ := hg z.a1 z.e
  obtain ⟨n3, q3⟩ := hg z.d z.b1
  obtain ⟨n4, q4⟩ := hg z.a2 z.e
  obtain ⟨n5, q5⟩ := hg z.d z.b2
  obtain ⟨n6, q6⟩ := hg z.A z.B
  have hP : z.P = z.mul z.A z.B := rfl
  rw [hP] at e6
  have E1 : z.fir.getD i 0 = (z.add (z.add z.c1 (z.mul z.d z.b1)) (z.mul z.a1 z.e)).getD i 0 + (z.mul z.d z.e).getD i 0 + 4096 * k1 := e1
  have E2 : (z.add (z.add z.c1 (z.mul z.d z.b1)) (z.mul z.a1 z.e)).getD i 0 = (z.add z.c1 (z.mul z.d z.b1)).getD i 0 + (z.mul z.a1 z.e).getD i 0 + 4096 * k2 := e2
  have E3 : (z.add z.c1 (z.mul z.d z.b1)).getD i 0 = z.c1.getD i 0 + (z.mul z.d z.b1).getD i 0 + 4096 * k3 := e3
  have E4 : z.sec.getD i 0 = (z.add z.c2 (z.mul z.d z.b2)).getD i 0 + (z.mul z.a2 z.e).getD i 0 + 4096 * k4 := e4
  have E5 : (z.add z.c2 (z.mul z.d z.b2)).getD i 0 = z.c2.getD i 0 + (z.mul z.d z.b2).getD i 0 + 4096 * k5 := e5
  have E6 : z.c2.getD i 0 = (z.mul z.A z.B).getD i 0 - z.c1.getD i 0 + 4096 * k6 := by rw [← hP] at e6 ⊢; exact e6
  have hfin : z.fir.getD i 0 + z.sec.getD i 0 = dot z.X z.Y z.K z.D (i / z.D) (i % z.D) z.K + 4096 * (m0 + k1 + k2 + k3 + k4 + k5 + k6 + n1 + n2 + n3 + n4 + n5 + n6) := by
    rw [E1, E2, E3, E4, E5, E6, q1, q2, q3, q4, q5, q6]
    generalize z.c1.getD i 0 = cc
    omega
  rw [hfin, ro_add]
  rfl
def prodOk (x y : SMx) (s : Int) : Bool := x.ok && y.ok && decide (x.a.c = y.a.r) && seedOk s
def prdOf (x y : SMx) (s : Int) : Prd := ⟨x.a.xs, x.b.xs, y.a.xs, y.b.xs, x.a.r.toNat, x.a.c.toNat, y.a.c.toNat, s⟩
def prodS (x y : SMx) (s : Int) : Scd :=
  if prodOk x y s then ⟨⟨⟨x.a.r, y.a.c, (prdOf x y s).fir⟩, ⟨x.a.r, y.a.c, (prdOf x y s).sec⟩⟩, (prdOf x y s).d ++ (prdOf x y s).e, (prdOf x y s).s5⟩
  else ⟨SMx.zero, [], 0⟩
theorem prodS_not {x y : SMx} {s : Int} (h : prodOk x y s = false) : prodS x y s = ⟨SMx.zero, [], 0⟩ := by
  unfold prodS
  rw [h]
  rfl
theorem prodS_join {x y : SMx} {s : Int} (h : prodOk x y s = true) :
    (prodS x y s).m.ok = true ∧ joinMx (prodS x y s).m = mulMx (joinMx x) (joinMx y) ∧ seedOk (prodS x y s).last = true ∧ (prodS x y s).m.a.r = x.a.r ∧ (prodS x y s).m.a.c = y.a.c ∧ (prodS x y s).os.length = x.a.xs.length + y.a.xs.length := by
  have h' := h
  simp only [prodOk, Bool.and_eq_true, decide_eq_true_eq] at h'
  obtain ⟨⟨⟨hx, hy⟩, hc⟩, hs⟩ := h'
  unfold prodS
  rw [if_pos h]
  dsimp only
  obtain ⟨R, K, N, xa, xb, rfl, r1, r2, c1, c2, hRC, hN, hN', hN2, a1, a2⟩ := smx_nat hx
  obtain ⟨K', D, M, ya, yb, rfl, p1, p2, q1, q2, hPQ, hM, hM', hM2, a3, a4⟩ := smx_nat hy
  dsimp only at hc
  obtain rfl : K' = K := by omega
  obtain ⟨z, hz⟩ : ∃ z, prdOf ⟨⟨R, K', xa⟩, ⟨R, K', xb⟩⟩ ⟨⟨K', D, ya⟩, ⟨K', D, yb⟩⟩ s = z := ⟨_, rfl⟩
  rw [hz]
  have ez : z = ⟨xa, xb, ya, yb, R, K', D, s⟩ := hz.symm
  have hj := Prd.join (z := z) (by rw [ez]; exact hN.trans hRC.symm) (by rw [ez]; exact hN'.trans hRC.symm) (by rw [ez]; exact hM.trans hPQ.symm) (by rw [ez]; exact hM'.trans hPQ.symm) (by rw [ez]; exact a1) (by rw [ez]; exact a2) (by rw [ez]; exact a3) (by rw [ez]; exact a4)
  obtain ⟨j1, j2, j3⟩ := hj
  have hRD : z.R * z.D = R * D := by rw [ez]
  have lf : z.fir.length = R * D := by rw [← hRD]; exact z.add_len _ _
  have ls : z.sec.length = R * D := by rw [← hRD]; exact z.add_len _ _
  have hok : SMx.ok ⟨⟨R, D, z.fir⟩, ⟨R, D, z.sec⟩⟩ = true := by
    have o1 : (Mx.mk R D z.fir).ok = true := Mx.ok_of r1 r2 q1 q2 (by rw [lf]) j1
    have o2 : (Mx.mk R D z.sec).ok = true := Mx.ok_of r1 r2 q1 q2 (by rw [ls]) j2
    simp [SMx.ok, likeMx, o1, o2]
  have hseed := (Prd.seeds (z := z) (by rw [ez]; exact hs)).2.2.2.2
  refine ⟨hok, ?_, hseed, rfl, rfl, ?_⟩
  · unfold joinMx
    rw [sumMx_ok hok, sumMx_ok hx, sumMx_ok hy]
    dsimp only
    rw [lf, ← hRD, j3]
    unfold mulMx
    dsimp only
    have e1 : z.X = tab xa.length (sumsV xa xb) := by rw [ez, hN, ← hRC]; rfl
    have e2 : z.Y = tab ya.length (sumsV ya yb) := by rw [ez, hM, ← hPQ]; rfl
    rw [e1, e2, ez]
    rfl
  · rw [List.length_append, ez]
    show (tab (R * K') _).length + (tab (K' * D) _).length = _
    rw [tab_length, tab_length, hN, hM]
    omega
end
section
open Go Go.RowKit Go.ChangeShapes Go.WideShapes Go.ChangeAt
inductive Shp where
  | int
  | slice (n : Nat) (e : Shp)
  | nil
  | cons (s r : Shp)
deriving DecidableEq
def Shp.size : Shp → Nat
  | .int => 1
  | .slice _ _ => 1
  | .nil => 0
  | .cons s r => s.size + r.size
end
section
structure Ly where
  kind : Int
  ws : List Mx
def SeesMs (w : World) (v : Value) (ms : List Mx) : Prop :=
  ∃ A cap, v = .slice A ms.length cap ∧ ms.length ≤ cap ∧ cap ≤ maxLen ∧ (0 < ms.length → ∃ b off, A = some ⟨b, off, none⟩ ∧ b < w.heap.size ∧
    ∀ q m, ms[q]? = some m → ∃ u, w.cell? ⟨b, off + q * 3, none⟩ = some (.int .i64 m.r) ∧ w.cell? ⟨b, off + q * 3 + 1, none⟩ = some (.int .i64 m.c) ∧ w.cell? ⟨b, off + q * 3 + 2, none⟩ = some u ∧ Ints w u m.xs)
def SeesLs (w : World) (v : Value) (ls : List Ly) : Prop :=
  ∃ A cap, v = .slice A ls.length cap ∧ ls.length ≤ cap ∧ cap ≤ maxLen ∧ (0 < ls.length → ∃ b off, A = some ⟨b, off, none⟩ ∧ b < w.heap.size ∧
    ∀ q l, ls[q]? = some l → ∃ u, w.cell? ⟨b, off + q * 2, none⟩ = some (.int .i64 l.kind) ∧ w.cell? ⟨b, off + q * 2 + 1, none⟩ = some u ∧ SeesMs w u l.ws)
theorem SeesMs.below {w w' : World} {v : Value} {ms : List Mx} (h : SeesMs w v ms) (hb : Below w.heap.size w w') : SeesMs w' v ms := by
  obtain ⟨A, cap, rfl, h1, h2, h3⟩ := h
  refine ⟨A, cap, rfl, h1, h2, fun hn => ?_⟩
  obtain ⟨b, off, rfl, hlt, h4⟩ := h3 hn
  refine ⟨b, off, rfl, Nat.lt_of_lt_of_le hlt hb.size, fun q m hq => ?_⟩
  obtain ⟨u, c1, c2, c3, hu⟩ := h4 q m hq
  exact ⟨u, (hb.cell (p := ⟨b, off + q * 3, none⟩) hlt).trans c1, (hb.cell (p := ⟨b, off + q * 3 + 1, none⟩) hlt).trans c2, (hb.cell (p := ⟨b, off + q * 3 + 2, none⟩) hlt).trans c3, Sees.below hu hb⟩
theorem SeesLs.below {w w' : World} {v : Value} {ls : List Ly} (h : SeesLs w v ls) (hb : Below w.heap.size w w') : SeesLs w' v ls := by
  obtain ⟨A, cap, rfl, h1, h2, h3⟩ := h
  refine ⟨A, cap, rfl, h1, h2, fun hn => ?_⟩
  obtain ⟨b, off, rfl, hlt, h4⟩ := h3 hn
  refine ⟨b, off, rfl, Nat.lt_of_lt_of_le hlt hb.size, fun q m hq => ?_⟩
  obtain ⟨u, c1, c2, hu⟩ := h4 q m hq
  exact ⟨u, (hb.cell (p := ⟨b, off + q * 2, none⟩) hlt).trans c1, (hb.cell (p := ⟨b, off + q * 2 + 1, none⟩) hlt).trans c2, hu.below hb⟩
theorem SeesMs.at_ {w0 w : World} {L : List Ent} {v : Value} {ms : List Mx} (h : SeesMs w0 v ms) (S : St w0 w L) : SeesMs w v ms := h.below S.below
theorem SeesLs.at_ {w0 w : World} {L : List Ent} {v : Value} {ls : List Ly} (h : SeesLs w0 v ls) (S : St w0 w L) : SeesLs w v ls := h.below S.below
theorem St.perm {w0 w : World} {L L' : List Ent} (S : St w0 w L) (h : L.Perm L') : St w0 w L' :=
  ⟨S.below, fun e he => S.own e (h.mem_iff.2 he), (h.pairwise_iff (fun {x y} (hab : Ent.apart x y) k hk hk' => hab k hk' hk)).1 S.apart⟩
theorem chunk_get {α : Type} (f : α → List Value) (s : Nat) (hs : ∀ x, (f x).length = s) : ∀ (l : List α) (q j : Nat), j < s → (l.flatMap f)[q * s + j]? = (l[q]?).bind fun x => (f x)[j]?
  | [], q, j, _ => by simp
  | x :: l, 0, j, hj => by
    rw [List.flatMap_cons, Nat.zero_mul, Nat.zero_add, List.getElem?_append_left (by rw [hs]; exact hj)]
    rfl
  | x :: l, q + 1, j, hj => by
    rw [List.flatMap_cons, List.getElem?_append_right (by rw [hs, Nat.succ_mul]; omega), hs, Nat.succ_mul, show q * s + s + j - s = q * s + j by omega, chunk_get f s hs l q j hj]
    simp
abbrev MsO := List (Value × Mx)
def cellM (p : Value × Mx) : List Value := [.int .i64 p.2.r, .int .i64 p.2.c, p.1]
def cellsM (ps : MsO) : List Value := ps.flatMap cellM
abbrev LsO := List (Value × Int × MsO)
end
section
def denseFit (w b : Mx) : Bool := w.ok && b.ok && decide (b.c = 1) && decide (b.r = w.r)
def mixFit (a b c : Mx) : Bool := a.ok && b.ok && c.ok && decide (a.r = a.c) && (decide (a.r = b.r) && decide (a.c = b.c)) && (decide (a.r = c.r) && decide (a.c = c.c))
def Ly.ok (l : Ly) : Bool := match l.ws with
  | [] => decide (l.kind = 2)
  | [w, b] => decide (l.kind = 1) && denseFit w b
  | [a, b, c] => decide (l.kind = 3) && mixFit a b c
  | _ => false
def Ly.sides (l : Ly) (r c : Int) : Option (Int × Int) := match l.ws with
  | [] => some (r, c)
  | [w, _] => if w.c = r then some (w.r, c) else none
  | w :: _ => if w.r = c then some (r, c) else none
inductive LyCase : Ly → Prop where
  | dense (w b : Mx) (h : denseFit w b = true) : LyCase ⟨1, [w, b]⟩
  | ramp : LyCase ⟨2, []⟩
  | mix (a b c : Mx) (h : mixFit a b c = true) : LyCase ⟨3, [a, b, c]⟩
structure Need where
  t : Int
  m : Int
  b : Int
  o : Int
def Need.zero : Need := ⟨0, 0, 0, 0⟩
def Need.add (x y : Need) : Need := ⟨x.t + y.t, x.m + y.m, x.b + y.b, x.o + y.o⟩
end
section
theorem infoMx : (Tryz.prog.info? 30).map (fun i => (i.zero, i.size, i.bytes)) = some (some (.agg #[.int .i64 0, .int .i64 0, .slice none 0 0]), 3, 40) := by kernel_rfl
theorem take_at {α : Type} {l : List α} {k : Nat} {x : α} (h : l[k]? = some x) : l.take (k + 1) = l.take k ++ [x] := by
  rw [List.take_add_one, h]; rfl
theorem some_at {α : Type} {l : List α} {n k : Nat} (hn : l.length = n) (h : k < n) : ∃ x, l[k]? = some x := ⟨_, List.getElem?_eq_getElem (by omega)⟩
end
section
structure SLy where
  kind : Int
  ws : List SMx
def SeesSMs (w : World) (v : Value) (ms : List SMx) : Prop :=
  ∃ A cap, v = .slice A ms.length cap ∧ ms.length ≤ cap ∧ cap ≤ maxLen ∧ (0 < ms.length → ∃ b off, A = some ⟨b, off, none⟩ ∧ b < w.heap.size ∧
    ∀ q m, ms[q]? = some m → ∃ u t, w.cell? ⟨b, off + q * 6, none⟩ = some (.int .i64 m.a.r) ∧ w.cell? ⟨b, off + q * 6 + 1, none⟩ = some (.int .i64 m.a.c) ∧ w.cell? ⟨b, off + q * 6 + 2, none⟩ = some u ∧
      w.cell? ⟨b, off + q * 6 + 3, none⟩ = some (.int .i64 m.b.r) ∧ w.cell? ⟨b, off + q * 6 + 4, none⟩ = some (.int .i64 m.b.c) ∧ w.cell? ⟨b, off + q * 6 + 5, none⟩ = some t ∧ Ints w u m.a.xs ∧ Ints w t m.b.xs)
def SeesSLs (w : World) (v : Value) (ls : List SLy) : Prop :=
  ∃ A cap, v = .slice A ls.length cap ∧ ls.length ≤ cap ∧ cap ≤ maxLen ∧ (0 < ls.length → ∃ b off, A = some ⟨b, off, none⟩ ∧ b < w.heap.size ∧
    ∀ q l, ls[q]? = some l → ∃ u, w.cell? ⟨b, off + q * 2, none⟩ = some (.int .i64 l.kind) ∧ w.cell? ⟨b, off + q * 2 + 1, none⟩ = some u ∧ SeesSMs w u l.ws)
theorem SeesSMs.below {w w' : World} {v : Value} {ms : List SMx} (h : SeesSMs w v ms) (hb : Below w.heap.size w w') : SeesSMs w' v ms := by
  obtain ⟨A, cap, rfl, h1, h2, h3⟩ := h
  refine ⟨A, cap, rfl, h1, h2, fun hn => ?_⟩
  obtain ⟨b, off, rfl, hlt, h4⟩ := h3 hn
  refine ⟨b, off, rfl, Nat.lt_of_lt_of_le hlt hb.size, fun q m hq => ?_⟩
  obtain ⟨u, t, c1, c2, c3, c4, c5, c6, hu, ht⟩ := h4 q m hq
  exact ⟨u, t, (hb.cell (p := ⟨b, off + q * 6, none⟩) hlt).trans c1, (hb.cell (p := ⟨b, off + q * 6 + 1, none⟩) hlt).trans c2, (hb.cell (p := ⟨b, off + q * 6 + 2, none⟩) hlt).trans c3,
    (hb.cell (p := ⟨b, off + q * 6 + 3, none⟩) hlt).trans c4, (hb.cell (p := ⟨b, off + q * 6 + 4, none⟩) hlt).trans c5, (hb.cell (p := ⟨b, off + q * 6 + 5, none⟩) hlt).trans c6, Sees.below hu hb, Sees.below ht hb⟩
theorem SeesSLs.below {w w' : World} {v : Value} {ls : List SLy} (h : SeesSLs w v ls) (hb : Below w.heap.size w w') : SeesSLs w' v ls := by
  obtain ⟨A, cap, rfl, h1, h2, h3⟩ := h
  refine ⟨A, cap, rfl, h1, h2, fun hn => ?_⟩
  obtain ⟨b, off, rfl, hlt, h4⟩ := h3 hn
  refine ⟨b, off, rfl, Nat.lt_of_lt_of_le hlt hb.size, fun q m hq => ?_⟩
  obtain ⟨u, c1, c2, hu⟩ := h4 q m hq
  exact ⟨u, (hb.cell (p := ⟨b, off + q * 2, none⟩) hlt).trans c1, (hb.cell (p := ⟨b, off + q * 2 + 1, none⟩) hlt).trans c2, hu.below hb⟩
theorem SeesSMs.at_ {w0 w : World} {L : List Ent} {v : Value} {ms : List SMx} (h : SeesSMs w0 v ms) (S : St w0 w L) : SeesSMs w v ms := h.below S.below
theorem SeesSLs.at_ {w0 w : World} {L : List Ent} {v : Value} {ls : List SLy} (h : SeesSLs w0 v ls) (S : St w0 w L) : SeesSLs w v ls := h.below S.below
abbrev SMsO := List (Value × Value × SMx)
def cellSM (p : Value × Value × SMx) : List Value := [.int .i64 p.2.2.a.r, .int .i64 p.2.2.a.c, p.1, .int .i64 p.2.2.b.r, .int .i64 p.2.2.b.c, p.2.1]
def rowSM (p : Value × Value × SMx) : List Ent := [.row 3 1 p.1 p.2.2.a.xs.length (ints p.2.2.a.xs), .row 3 1 p.2.1 p.2.2.b.xs.length (ints p.2.2.b.xs)]
def smO (p : Value × Value × SMx) : SMx := p.2.2
def cellsSM (ps : SMsO) : List Value := ps.flatMap cellSM
def rowsSM (ps : SMsO) : List Ent := ps.flatMap rowSM
def entsSM (u : Value) (ps : SMsO) : List Ent := .row 32 6 u ps.length (cellsSM ps) :: rowsSM ps
abbrev SLsO := List (Value × Int × SMsO)
theorem cellsSM_add (ps qs : SMsO) : cellsSM (ps ++ qs) = cellsSM ps ++ cellsSM qs := by simp [cellsSM]
theorem rowsSM_add (ps qs : SMsO) : rowsSM (ps ++ qs) = rowsSM ps ++ rowsSM qs := by simp [rowsSM]
end
section
def SMSmall (b : Nat) (m : SMx) : Prop := m.a.xs.length ≤ b ∧ m.b.xs.length ≤ b
end
section
theorem infoSMx : (Tryz.prog.info? 32).map (fun i => (i.zero, i.size, i.bytes)) = some (some (.agg #[.int .i64 0, .int .i64 0, .slice none 0 0, .int .i64 0, .int .i64 0, .slice none 0 0]), 6, 80) := by kernel_rfl
theorem sm_perm (x y r : Ent) (A : List Ent) : (y :: x :: r :: A).Perm (r :: (A ++ [x, y])) := by
  refine ((List.Perm.swap _ _ _).trans ((List.Perm.swap _ _ _).cons _ |>.trans (List.Perm.swap _ _ _))).trans (List.Perm.cons _ ?_)
  exact List.perm_append_comm (l₁ := [x, y]) (l₂ := A)
end
section
section
variable {P : Program} {w0 w : World} {a : Act} {L : List Ent} {o : Oper} {ops : Array Oper} {rest : List Oper} {Q : Exit → Act → World → Prop}
theorem wpList_append_boxB (hgd : o.guard = none) (S : St w0 w L) (s x : Operand) (t : TypeId) (ho : o.op = .call { callee := .builtin .append, args := #[s, x], argTypes := #[t, t] })
    (e : TypeId) (z : Value) (size bytes : Nat) (ht : P.underlying t = some (.slice e)) (hi : (P.info? e).map (fun i => (i.zero, i.size, i.bytes)) = some (some z, size, bytes))
    (hzs : z.cells.size = size) (hsz : 0 < size) (p n : Nat) (v : Value) (cs : List Value) (hs : a.eval s = v) (hp : At L p (.row e size v n cs)) (hn2 : n ≤ 2000000)
    (q g' m c : Nat) (e' : TypeId) (news : List Value) (hx : a.eval x = .slice (some ⟨g', 0, none⟩) m c) (hq : At L q (.box g' e' news)) (hl : news.length = m * size) (h1 : news.all (·.oneCell') = true)
    (hm2 : Nat.ble m 1000 = true) (hb2 : Nat.ble bytes 1000 = true)
    (h : ∀ v' w' M, M = L.set p (.row e size v' (n + m) (cs ++ news)) → St w0 w' M → wpList P ops Q rest (a.put o.dst v') w') : wpList P ops Q (o :: rest) a w := by
  have hm3 : m ≤ 1000 := by simpa using hm2
  have hb3 : bytes ≤ 1000 := by simpa using hb2
  refine wpList_append hgd S s x t ho p e z size bytes ht hi hzs hsz v n cs hs hp ⟨g', 0, none⟩ m c news hx hl (news_box S hq) h1 (by simp [maxLen]; omega) ?_ h
  have : (n + m) * bytes ≤ 2001000 * 1000 := Nat.mul_le_mul (by omega) hb3
  omega
end
end
section
section
variable {P : Program} {w0 w : World} {a : Act} {L : List Ent} {o : Oper} {ops : Array Oper} {rest : List Oper} {Q : Exit → Act → World → Prop}
theorem fil6 (C : Array Value) (hC : C.size = 6) (a b c d e f : Value) : Instr.fill (fun i => some (i * 6, 6)) C [(0, .agg #[a, b, c, d, e, f])] = some #[a, b, c, d, e, f] := by
  obtain ⟨l⟩ := C
  match l, hC with
  | [_, _, _, _, _, _], _ => simp [Instr.fill, Value.cells]
theorem wpList_litZ (hgd : o.guard = none) (S : St w0 w L) (t : TypeId) (x : Operand) (ho : o.op = .buildSlice t 1 #[(0, x)])
    (e : TypeId) (ht : P.underlying t = some (.slice e)) {z : Value} {bytes : Nat} (hi : (P.info? e).map (fun i => (i.zero, i.size, i.bytes)) = some (some z, 6, bytes))
    (c0 c1 c2 c3 c4 c5 : Value) (hx : a.eval x = .agg #[c0, c1, c2, c3, c4, c5])
    (h : ∀ g w' M, M = .box g e [c0, c1, c2, c3, c4, c5] :: L → St w0 w' M → wpList P ops Q rest (a.put o.dst (.slice (some ⟨g, 0, none⟩) 1 1)) w') : wpList P ops Q (o :: rest) a w := by
  obtain ⟨i, hi0, hz0, hz1, hz2⟩ := info_parts hi
  refine Go.wpList_buildSlice hgd t e 1 _ ho #[c0, c1, c2, c3, c4, c5] i z ht hi0 hz0 (by rw [hz1]; omega) (by rw [hz1]; omega) ?_ (h _ _ _ rfl (S.new e _))
  rw [hz1, Array.toList_map]
  show Instr.fill _ _ [(0, a.eval x)] = _
  rw [hx]
  exact fil6 _ (by simp) _ _ _ _ _ _
end
theorem C_l1OwnSharedMatrixList (v : Value) (ms : List SMx) (w0 : World) (h : SeesSMs w0 v ms) (hn0 : ms.length ≤ 1048576) (hx : ∀ m ∈ ms, SMSmall 1048576 m) :
    Calls Tryz.prog 41 #[v] w0 fun e w => ∃ u ps, e = .returned u ∧ ps.map smO = ms ∧ St w0 w (entsSM u ps) := by
  obtain ⟨A, cap, rfl, hcap, hmax, hA⟩ := h
  obtain ⟨n, hn⟩ : ∃ n, ms.length = n := ⟨_, rfl⟩
  rw [hn] at hcap hA hn0 ⊢
  unfold maxLen at hmax
  have HA := Lib.hid hA
  have HN := Lib.hid hn
  have HX := Lib.hid hx
  clear hA hn hx
  have CT := fun r c xs r' c' ys u v w h h' hn hn' => C_l1OwnSharedMatrix r c xs r' c' ys u v w h h' hn hn'
  unfold MakesSMx at CT
  obtain ⟨L, HL, S⟩ := st_start w0; have F : True := trivial
  go_enter Tryz.func41, Tryz.ntmps41
  go_wp2_with (first | (refine wpList_empty rfl S _ rfl 32 Tryz.underlying35 infoSMx ?_; clear F S; intro g w L hM S; replace HL := qNm HL hM; clear hM; have F := qFc HL S))
  go_loopw [4, 3] (fun i o wr => ∃ (k : Nat) (u : Value) (ps : SMsO) (L : List Ent), k ≤ n ∧ i = .int .i64 k ∧ o = u ∧ Hid (ps.map smO = ms.take k) ∧ Hid (L = .row 32 6 u k (cellsSM ps) :: rowsSM ps) ∧ St w0 wr L) (fun i _ _ => n - (intOf i).toNat)
  case atStart => exact ⟨0, _, [], L, Nat.zero_le _, rfl, rfl, Lib.hid rfl, HL, S⟩
  case round =>
    clear F HL S
    obtain ⟨k, u, ps, L, hk, rfl, rfl, HP, HL, S⟩ := hrel
    have F : True := trivial
    have hpl : ps.length = k := by
      have := congrArg List.length HP.out
      rw [List.length_map, List.length_take, HN.out] at this
      omega
    by_cases hlt : k < n
    · obtain ⟨b, off, rfl, hb, hc⟩ := HA.out (by omega)
      obtain ⟨m, hm⟩ := some_at HN.out hlt
      obtain ⟨u, t, c1, c2, c3, c4, c5, c6, hu, ht⟩ := hc k m hm
      obtain ⟨hmx, hmy⟩ := HX.out m (List.mem_of_getElem? hm)
      have hp' := take_at hm
      rw [← HP.out] at hp'
      have HP' := Lib.hid hp'
      have f1 := fun w' (S' : St w0 w' L) => (S'.below.cell (p := ⟨b, off + k * 6, none⟩) hb).trans c1
      have f2 := fun w' (S' : St w0 w' L) => (S'.below.cell (p := ⟨b, off + k * 6 + 1, none⟩) hb).trans c2
      have f3 := fun w' (S' : St w0 w' L) => (S'.below.cell (p := ⟨b, off + k * 6 + 2, none⟩) hb).trans c3
      have f4 := fun w' (S' : St w0 w' L) => (S'.below.cell (p := ⟨b, off + k * 6 + 3, none⟩) hb).trans c4
      have f5 := fun w' (S' : St w0 w' L) => (S'.below.cell (p := ⟨b, off + k * 6 + 4, none⟩) hb).trans c5
      have f6 := fun w' (S' : St w0 w' L) => (S'.below.cell (p := ⟨b, off + k * 6 + 5, none⟩) hb).trans c6
      have HU := Lib.hid hu
      have HT := Lib.hid ht
      obtain ⟨_, A', cap', rfl, hcap', hmax', _⟩ := hu
      obtain ⟨_, B', cbp', rfl, hcbp', hmbx', _⟩ := ht
      clear hc c1 c2 c3 c4 c5 c6 hp' hpl
      obtain ⟨⟨r, c, xs⟩, ⟨r', c', ys⟩⟩ := m
      dsimp only at *
      go_wp2_with (first | (go_at_call 42; refine (CT r c xs r' c' ys _ _ _ (HU.out.at_ S) (HT.out.at_ S) hmx hmy).mono ?_; rintro e w ⟨u, v, rfl, T0⟩; have hX := qcl HL S T0; clear F S HL T0; obtain ⟨L, HL, S, F⟩ := hX; obtain ⟨Av, cv, rfl, hcv, hmv⟩ := qSl HL S 0; obtain ⟨Au, cu, rfl, hcu, hmu⟩ := qSl HL S 1) | (refine wpList_litZ rfl S _ _ rfl 32 Tryz.underlying35 infoSMx _ _ _ _ _ _ rfl ?_; clear F S; intro g w L hM S; replace HL := qNm HL hM; clear hM; have F := qFc HL S) | (refine wpList_append_boxB rfl S _ _ _ rfl 32 _ 6 80 Tryz.underlying35 infoSMx rfl (by omega) _ _ _ _ rfl qAt (by omega) _ _ _ _ _ _ rfl qAt rfl rfl rfl rfl ?_; clear F S; intro u w L hM S; replace HL := qNm HL hM; clear hM; have F := qFc HL S))
      go_roundw
      case rel =>
        rw [HL.out] at S
        have T := (S.sub (.cons _ (.refl _))).perm (sm_perm _ _ _ _)
        exact ⟨k + 1, _, ps ++ [(.slice Au xs.length cu, .slice Av ys.length cv, ⟨⟨r, c, xs⟩, ⟨r', c', ys⟩⟩)], _, by omega, by go_num, rfl, Lib.hid (by rw [List.map_append, HP'.out]; rfl), Lib.hid (by rw [rowsSM_add, cellsSM_add]; rfl), T⟩
      case measure => simp [intOf]; omega
    · obtain rfl : k = n := by omega
      go_wp2
      go_ret
      rw [HL.out] at S
      have hp := HP.out
      rw [List.take_of_length_le (Nat.le_of_eq HN.out)] at hp
      refine ⟨_, ps, rfl, hp, ?_⟩
      unfold entsSM
      rw [hpl]
      exact S
end
section
section
variable {P : Program} {w0 w : World} {a : Act} {L : List Ent} {o : Oper} {K : Act → World → Prop} {Q : Exit → Act → World → Prop}
theorem wp_append_boxB (S : St w0 w L) (s x : Operand) (t : TypeId) (ho : o.op = .call { callee := .builtin .append, args := #[s, x], argTypes := #[t, t] })
    (e : TypeId) (z : Value) (size bytes : Nat) (ht : P.underlying t = some (.slice e)) (hi : (P.info? e).map (fun i => (i.zero, i.size, i.bytes)) = some (some z, size, bytes))
    (hzs : z.cells.size = size) (hsz : 0 < size) (p n : Nat) (v : Value) (cs : List Value) (hs : a.eval s = v) (hp : At L p (.row e size v n cs)) (hn2 : n ≤ 2000000)
    (q g' m c : Nat) (e' : TypeId) (news : List Value) (hx : a.eval x = .slice (some ⟨g', 0, none⟩) m c) (hq : At L q (.box g' e' news)) (hl : news.length = m * size) (h1 : news.all (·.oneCell') = true)
    (hm2 : Nat.ble m 1000 = true) (hb2 : Nat.ble bytes 1000 = true)
    (h : ∀ v' w' M, M = L.set p (.row e size v' (n + m) (cs ++ news)) → St w0 w' M → K (a.put o.dst v') w') : o.wp P a w K Q := by
  have hm3 : m ≤ 1000 := by simpa using hm2
  have hb3 : bytes ≤ 1000 := by simpa using hb2
  refine wp_append S s x t ho p e z size bytes ht hi hzs hsz v n cs hs hp ⟨g', 0, none⟩ m c news hx hl (news_box S hq) h1 (by simp [maxLen]; omega) ?_ h
  have : (n + m) * bytes ≤ 2001000 * 1000 := Nat.mul_le_mul (by omega) hb3
  omega
end
end
end Go.Proofs.YtjgfjfjboimgdaaGreat
