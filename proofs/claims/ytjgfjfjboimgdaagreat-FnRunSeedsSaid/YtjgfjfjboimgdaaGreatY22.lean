/- SmJ -/
import Derived.Test.YtjgfjfjboimgdaaGreatY21
namespace Go.Proofs.YtjgfjfjboimgdaaGreat
set_option linter.unusedSimpArgs false
set_option linter.unusedVariables false
set_option linter.unusedSectionVars false
open Go Go.RowKit
set_option maxHeartbeats 8000000
set_option maxRecDepth 20000
section
attribute [local irreducible] wpList Oper.wp Calls
theorem cutS_few (x y : SMx) (s : Int) : (cutS x y s).os.length ≤ 75 := by
  have h1 := prodS_few x y s
  have h2 := mapS_few 1 (prodS x y s).m (prodS x y s).last
  show (_ ++ _ : List Int).length ≤ 75
  rw [List.length_append]
  omega
def StepsO (L0 : List Ent) (p q gs : Nat) (O : List Int) (z : Scd) (w0 : World) (e : Ending) (w : World) : Prop :=
  ∃ (o' : Value) (Au At' : Option Addr) (cu ct : Nat), e = .returned (.agg #[.int .i64 z.m.a.r, .int .i64 z.m.a.c, .slice Au z.m.a.xs.length cu, .int .i64 z.m.b.r, .int .i64 z.m.b.c, .slice At' z.m.b.xs.length ct]) ∧
    St w0 w (.row 3 1 (.slice At' z.m.b.xs.length ct) z.m.b.xs.length (ints z.m.b.xs) :: .row 3 1 (.slice Au z.m.a.xs.length cu) z.m.a.xs.length (ints z.m.a.xs) :: ((L0.set q (.row 3 1 o' O.length (ints O))).set p (.box gs 85 [.int .i64 z.last, o'])))
theorem Steps.toO {L0 : List Ent} {p q gs : Nat} {os O : List Int} {z : Scd} {w0 w : World} {e : Ending} (h : Steps L0 p q gs os z w0 e w) (hO : os ++ z.os = O) : StepsO L0 p q gs O z w0 e w := by
  subst hO
  unfold StepsO
  rw [List.length_append]
  exact h
theorem C_cutO (L0 : List Ent) (p q gs : Nat) (s0 : Int) (o : Value) (os O : List Int) (x y : SMx) (u v a b : Value) (z : Scd) (w0 w1 : World) (S0 : St w0 w1 L0)
    (hp : At L0 p (.box gs 85 [.int .i64 s0, o])) (hq : At L0 q (.row 3 1 o os.length (ints os))) (hpq : q ≠ p) (hn : os.length ≤ 800000) (hu : SeenIn w0 L0 q u x.a.xs) (hv : SeenIn w0 L0 q v x.b.xs) (ha : SeenIn w0 L0 q a y.a.xs) (hb : SeenIn w0 L0 q b y.b.xs)
    (hz : cutS x y s0 = z) (hO : os ++ z.os = O) :
    Calls Tryz.prog 53 #[.pointer (some ⟨gs, 0, none⟩), .agg #[.int .i64 (x).a.r, .int .i64 (x).a.c, u, .int .i64 (x).b.r, .int .i64 (x).b.c, v], .agg #[.int .i64 (y).a.r, .int .i64 (y).a.c, a, .int .i64 (y).b.r, .int .i64 (y).b.c, b]] w1 (StepsO L0 p q gs O z w0) := by
  subst hz
  exact (C_cutP L0 p q gs s0 o os x.a.r x.a.c x.a.xs x.b.r x.b.c x.b.xs u v y.a.r y.a.c y.a.xs y.b.r y.b.c y.b.xs a b _ _ w0 w1 S0 hp hq hpq hn hu hv ha hb rfl rfl).mono fun e w h => h.toO hO
theorem C_scaleO (L0 : List Ent) (p q gs : Nat) (s0 : Int) (o : Value) (os O : List Int) (x y : SMx) (u v a b : Value) (z1 z2 z : Scd) (w0 w1 : World) (S0 : St w0 w1 L0)
    (hp : At L0 p (.box gs 85 [.int .i64 s0, o])) (hq : At L0 q (.row 3 1 o os.length (ints os))) (hpq : q ≠ p) (hn : os.length ≤ 800000) (hu : SeenIn w0 L0 q u x.a.xs) (hv : SeenIn w0 L0 q v x.b.xs) (ha : SeenIn w0 L0 q a y.a.xs) (hb : SeenIn w0 L0 q b y.b.xs)
    (h1 : scaleS x y s0 = z1) (h2 : mapS 1 z1.m z1.last = z2) (hz : Scd.mk z2.m (z1.os ++ z2.os) z2.last = z) (hO : os ++ z.os = O) :
    Calls Tryz.prog 58 #[.pointer (some ⟨gs, 0, none⟩), .agg #[.int .i64 (x).a.r, .int .i64 (x).a.c, u, .int .i64 (x).b.r, .int .i64 (x).b.c, v], .agg #[.int .i64 (y).a.r, .int .i64 (y).a.c, a, .int .i64 (y).b.r, .int .i64 (y).b.c, b]] w1 (StepsO L0 p q gs O z w0) := by
  subst hz
  exact (C_cutS L0 p q gs s0 o os x.a.r x.a.c x.a.xs x.b.r x.b.c x.b.xs u v y.a.r y.a.c y.a.xs y.b.r y.b.c y.b.xs a b _ _ w0 w1 S0 hp hq hpq hn hu hv ha hb h1 h2).mono fun e w h => h.toO hO
theorem C_lookO (L0 : List Ent) (p q gs : Nat) (k s0 : Int) (o : Value) (os O : List Int) (x : SMx) (u v : Value) (z : Scd) (w0 w1 : World) (S0 : St w0 w1 L0)
    (hp : At L0 p (.box gs 85 [.int .i64 s0, o])) (hq : At L0 q (.row 3 1 o os.length (ints os))) (hpq : q ≠ p) (hn : os.length ≤ 800000) (hu : SeenIn w0 L0 q u x.a.xs) (hv : SeenIn w0 L0 q v x.b.xs) (hz : mapS k x s0 = z) (hO : os ++ z.os = O) :
    Calls Tryz.prog 55 #[.pointer (some ⟨gs, 0, none⟩), .int .i64 k, .agg #[.int .i64 (x).a.r, .int .i64 (x).a.c, u, .int .i64 (x).b.r, .int .i64 (x).b.c, v]] w1 (StepsO L0 p q gs O z w0) :=
  (C_look L0 p q gs k s0 o os x.a.r x.a.c x.a.xs x.b.r x.b.c x.b.xs u v z w0 w1 S0 hp hq hpq (by omega) hu hv hz).mono fun e w h => h.toO hO
theorem zStp : (Tryz.prog.info? 85).bind (·.zero) = some (.agg #[.int .i64 0, .slice none 0 0]) := by kernel_rfl
theorem C_impl_SMix_good (a b c x : SMx) (s : Int) (A : Option Addr) (cap : Nat) (u v : Value) (w0 : World) (hw : SeesSMs w0 (.slice A 3 cap) [a, b, c]) (hu : Ints w0 u x.a.xs) (hv : Ints w0 v x.b.xs) (hok : mixOk [a, b, c] x s = true) :
    Calls Tryz.prog 14 #[.slice A 3 cap, .agg #[.int .i64 (x).a.r, .int .i64 (x).a.c, u, .int .i64 (x).b.r, .int .i64 (x).b.c, v], .int .i64 s] w0 (MakesScl w0 (mixS a b c x s)) := by
  unfold MakesScl
  obtain ⟨a', b', c', e0, hx, hs, ha, hb, hc, a1, a2, b1, b2, c1, c2, _⟩ := mixOk_parts hok
  simp only [List.cons.injEq, and_true] at e0
  obtain ⟨rfl, rfl, rfl⟩ := e0
  have gq := cut_good hx ha a1.symm hs
  have gk := cut_good hx hb b1.symm gq.seed
  have gv := cut_good hx hc c1.symm gk.seed
  have hz : mixS a b c x s = mixS a b c x s := rfl
  conv at hz => lhs; unfold mixS
  dsimp only at hz
  obtain ⟨zq, hzq⟩ : ∃ z, cutS x a s = z := ⟨_, rfl⟩
  rw [hzq] at hz gq gk gv
  obtain ⟨zk, hzk⟩ : ∃ z, cutS x b zq.last = z := ⟨_, rfl⟩
  rw [hzk] at hz gk gv
  obtain ⟨zv, hzv⟩ : ∃ z, cutS x c zk.last = z := ⟨_, rfl⟩
  rw [hzv] at hz gv
  obtain ⟨_, jx1, jx2, _⟩ := join_smx hx
  obtain ⟨_, ja1, ja2, _⟩ := join_smx ha
  obtain ⟨_, jb1, jb2, _⟩ := join_smx hb
  have q2 : zq.m.a.c = x.a.c := (gq.sides.2.trans ja2).trans a2
  have k2 : zk.m.a.c = x.a.c := (gk.sides.2.trans jb2).trans b2
  obtain ⟨tk, _, t1, _⟩ := turn_good gk.ok
  obtain ⟨zT, hzT⟩ : ∃ z, turnSMx zk.m = z := ⟨_, rfl⟩
  rw [hzT] at hz tk t1
  have gt := cut_good gq.ok tk (by rw [q2, t1, k2]) gv.seed
  obtain ⟨zt, hzt⟩ : ∃ z, cutS zq.m zT zv.last = z := ⟨_, rfl⟩
  rw [hzt] at hz gt
  have gg := map_good (k := 4) ⟨by omega, by omega⟩ gt.ok gt.seed
  obtain ⟨zg, hzg⟩ : ∃ z, mapS 4 zt.m zt.last = z := ⟨_, rfl⟩
  rw [hzg] at hz gg
  have CE := fun u v w h h' => C_each_Sums zg.m u v w h h' gg.ok
  obtain ⟨zS, hzS⟩ : ∃ z, sumsS zg.m = z := ⟨_, rfl⟩
  rw [hzS] at hz CE
  obtain ⟨zn, hzn⟩ : ∃ z, mapS 5 zS zg.last = z := ⟨_, rfl⟩
  rw [hzn] at hz
  obtain ⟨zh, hzh⟩ : ∃ z, scaleS zg.m zn.m zn.last = z := ⟨_, rfl⟩
  rw [hzh] at hz
  obtain ⟨zj, hzj⟩ : ∃ z, mapS 1 zh.m zh.last = z := ⟨_, rfl⟩
  rw [hzj] at hz
  obtain ⟨zo, hzo⟩ : ∃ z, cutS zj.m zv.m zj.last = z := ⟨_, rfl⟩
  rw [hzo] at hz
  obtain ⟨zH, hzH⟩ : ∃ z, Scd.mk zj.m (zh.os ++ zj.os) zj.last = z := ⟨_, rfl⟩
  obtain ⟨O1, h1⟩ : ∃ O, [] ++ zq.os = O := ⟨_, rfl⟩
  obtain ⟨O2, h2⟩ : ∃ O, O1 ++ zk.os = O := ⟨_, rfl⟩
  obtain ⟨O3, h3⟩ : ∃ O, O2 ++ zv.os = O := ⟨_, rfl⟩
  obtain ⟨O4, h4⟩ : ∃ O, O3 ++ zt.os = O := ⟨_, rfl⟩
  obtain ⟨O5, h5⟩ : ∃ O, O4 ++ zg.os = O := ⟨_, rfl⟩
  obtain ⟨O6, h6⟩ : ∃ O, O5 ++ zn.os = O := ⟨_, rfl⟩
  obtain ⟨O7, h7⟩ : ∃ O, O6 ++ zH.os = O := ⟨_, rfl⟩
  obtain ⟨O8, h8⟩ : ∃ O, O7 ++ zo.os = O := ⟨_, rfl⟩
  have n1 : O1.length ≤ 75 := by rw [← h1, List.nil_append, ← hzq]; exact cutS_few _ _ _
  have n2 : O2.length ≤ 150 := by have := cutS_few x b zq.last; rw [hzk] at this; rw [← h2, List.length_append]; omega
  have n3 : O3.length ≤ 225 := by have := cutS_few x c zk.last; rw [hzv] at this; rw [← h3, List.length_append]; omega
  have n4 : O4.length ≤ 300 := by have := cutS_few zq.m zT zv.last; rw [hzt] at this; rw [← h4, List.length_append]; omega
  have n5 : O5.length ≤ 325 := by have := mapS_few 4 zt.m zt.last; rw [hzg] at this; rw [← h5, List.length_append]; omega
  have n6 : O6.length ≤ 350 := by have := mapS_few 5 zS zg.last; rw [hzn] at this; rw [← h6, List.length_append]; omega
  have n7 : O7.length ≤ 425 := by
    have e1 := scaleS_few zg.m zn.m zn.last
    have e2 := mapS_few 1 zh.m zh.last
    rw [hzh] at e1
    rw [hzj] at e2
    rw [← h7, ← hzH, List.length_append, List.length_append]
    omega
  have eO : zq.os ++ zk.os ++ zv.os ++ zt.os ++ zg.os ++ zn.os ++ zh.os ++ zj.os ++ zo.os = O8 := by
    rw [← h8, ← h7, ← hzH, ← h6, ← h5, ← h4, ← h3, ← h2, ← h1]
    simp only [List.append_assoc, List.nil_append]
  rw [eO] at hz
  rw [← hz]
  dsimp only
  have eH : zH.m = zj.m := by rw [← hzH]
  have eL : zH.last = zj.last := by rw [← hzH]
  rw [← eH, ← eL] at hzo
  have C1 := fun L p q gs o w S hp hq hpq u v a' b' hu hv ha hb => C_cutO L p q gs s o [] O1 x a u v a' b' zq w0 w S hp hq hpq (by simp) hu hv ha hb hzq h1
  have C2 := fun L p q gs o w S hp hq hpq u v a' b' hu hv ha hb => C_cutO L p q gs zq.last o O1 O2 x b u v a' b' zk w0 w S hp hq hpq (by omega) hu hv ha hb hzk h2
  have C3 := fun L p q gs o w S hp hq hpq u v a' b' hu hv ha hb => C_cutO L p q gs zk.last o O2 O3 x c u v a' b' zv w0 w S hp hq hpq (by omega) hu hv ha hb hzv h3
  have C4 := fun L p q gs o w S hp hq hpq u v a' b' hu hv ha hb => C_cutO L p q gs zv.last o O3 O4 zq.m zT u v a' b' zt w0 w S hp hq hpq (by omega) hu hv ha hb hzt h4
  have C5 := fun L p q gs o w S hp hq hpq u v hu hv => C_lookO L p q gs 4 zt.last o O4 O5 zt.m u v zg w0 w S hp hq hpq (by omega) hu hv hzg h5
  have C6 := fun L p q gs o w S hp hq hpq u v hu hv => C_lookO L p q gs 5 zg.last o O5 O6 zS u v zn w0 w S hp hq hpq (by omega) hu hv hzn h6
  have C7 := fun L p q gs o w S hp hq hpq u v a' b' hu hv ha hb => C_scaleO L p q gs zn.last o O6 O7 zg.m zn.m u v a' b' zh zj zH w0 w S hp hq hpq (by omega) hu hv ha hb hzh hzj hzH h7
  have C8 := fun L p q gs o w S hp hq hpq u v a' b' hu hv ha hb => C_cutO L p q gs zH.last o O7 O8 zH.m zv.m u v a' b' zo w0 w S hp hq hpq (by omega) hu hv ha hb hzo h8
  have CT := fun u v w h h' => C_impl_TurnShared zk.m.a.r zk.m.a.c zk.m.a.xs zk.m.b.r zk.m.b.c zk.m.b.xs u v zT w h h' hzT
  unfold StepsO at C1 C2 C3 C4 C5 C6 C7 C8
  unfold MakesSMx at CT CE
  have CV := fun w => C_seedValid s w
  rw [hs] at CV
  have CF := fun t w hw hu hv => C_smixFits x.a.r x.a.c x.a.xs x.b.r x.b.c x.b.xs u v t [a, b, c] true w hw hu hv (by simp only [mixOk, Bool.and_eq_true] at hok ⊢; exact ⟨⟨hok.1.1.1, hok.1.1.2⟩, hok.1.2⟩)
  have HW := Lib.hid hw
  obtain ⟨A', cap', e1, hcap, hmax, hA⟩ := hw
  simp only [List.length_cons, List.length_nil, Nat.zero_add, Nat.reduceAdd, Value.slice.injEq, true_and] at e1 hcap hA
  obtain ⟨rfl, rfl⟩ := e1
  obtain ⟨bl, off, rfl, hbl, hcl⟩ := hA (by omega)
  obtain ⟨wa, wb, p0, p1, p2, p3, p4, p5, hwa, hwb⟩ := hcl 0 a rfl
  obtain ⟨xa, xb, q0, q1, q2', q3, q4, q5, hxa, hxb⟩ := hcl 1 b rfl
  obtain ⟨ya, yb, r0, r1, r2, r3, r4, r5, hya, hyb⟩ := hcl 2 c rfl
  simp only [Nat.zero_mul, Nat.add_zero, Nat.one_mul, Nat.reduceMul] at p0 p1 p2 p3 p4 p5 q0 q1 q2' q3 q4 q5 r0 r1 r2 r3 r4 r5
  have P0 := Lib.hid p0
  have P1 := Lib.hid p1
  have P2 := Lib.hid p2
  have P3 := Lib.hid p3
  have P4 := Lib.hid p4
  have P5 := Lib.hid p5
  have Q0 := Lib.hid q0
  have Q1 := Lib.hid q1
  have Q2 := Lib.hid q2'
  have Q3 := Lib.hid q3
  have Q4 := Lib.hid q4
  have Q5 := Lib.hid q5
  have R0 := Lib.hid r0
  have R1 := Lib.hid r1
  have R2 := Lib.hid r2
  have R3 := Lib.hid r3
  have R4 := Lib.hid r4
  have R5 := Lib.hid r5
  have HXU := Lib.hid hu
  have HXV := Lib.hid hv
  have HAU := Lib.hid hwa
  have HAV := Lib.hid hwb
  have HBU := Lib.hid hxa
  have HBV := Lib.hid hxb
  have HCU := Lib.hid hya
  have HCV := Lib.hid hyb
  have HZ := Lib.hid hz
  unfold maxLen at hmax
  clear hu hv hwa hwb hxa hxb hya hyb hok hx hs ha hb hc a1 a2 b1 b2 c1 c2 gq gk gv gt gg jx1 jx2 ja1 ja2 jb1 jb2 q2 k2 tk t1 eO eH eL hz hA hcl hzq hzk hzv hzT hzt hzg hzS hzn hzh hzj hzo hzH h1 h2 h3 h4 h5 h6 h7 h8 n1 n2 n3 n4 n5 n6 n7 p0 p1 p2 p3 p4 p5 q0 q1 q2' q3 q4 q5 r0 r1 r2 r3 r4 r5
  obtain ⟨L, HL, S⟩ := st_start w0; have F : True := trivial
  go_enter Tryz.func14, Tryz.ntmps14
  go_upto_region 1 with (first | (refine qbd 4 HL S ?_; clear F S HL; intro gx w L HL S F) | (refine qal HL S zSMx ?_; clear F S HL; intro g6 w L HL S F))
  (rw [HL.out] at S; have T := ((S.toObj (p := 0) rfl).toObj (p := 1) rfl); clear S HL F; have S := T; clear T; (try simp only [List.set_cons_zero, List.set_cons_succ] at S); obtain ⟨L, hM, T⟩ := st_name S; clear S; have S := T; clear T; have HL := Lib.hid hM; clear hM; have F := qFc HL S)
  go_upto_region 3 with (first | refine qLo6 S ?_ | (go_at_call 52; refine qPu (CV _) ?_) | (go_at_call 51; refine qGr S (CF _ _ (HW.out.at_ S) (HXU.out.at_ S) (HXV.out.at_ S)) ?_; clear S; intro w S))
  clear CV CF
  go_upto_region 4 with (first | (refine qal HL S zStp ?_; clear F S HL; intro gs w L HL S F) | (refine qst HL S 0 ?_; clear F S HL; intro w L HL S F))
  rw [HL.out] at S
  replace S := (S.nilRow 3 1).sel (M := [.box gs _ _, _, _, _]) (Sel.cons 1 rfl (Sel.tail (.refl _)))
  clear HL F
  obtain ⟨L, hM, T⟩ := st_name S; clear S; have S := T; clear T; have HL := Lib.hid hM; clear hM; have F := qFc HL S
  (try simp only [Act.put, qP0, qP1, qP2])
  go_cut [10] (fun t w => ∃ (gq : Nat) (o2 : Value) (Agq Bgq : Option Addr) (cgq dgq : Nat), t = .pointer (some ⟨gq, 0, none⟩) ∧ St w0 w (.box gs 85 [.int .i64 zq.last, o2] :: .row 3 1 o2 O1.length (ints O1) :: .box gq 32 [.int .i64 zq.m.a.r, .int .i64 zq.m.a.c, .slice Agq zq.m.a.xs.length cgq, .int .i64 zq.m.b.r, .int .i64 zq.m.b.c, .slice Bgq zq.m.b.xs.length dgq] :: .row 3 1 (.slice Bgq zq.m.b.xs.length dgq) zq.m.b.xs.length (ints zq.m.b.xs) :: .row 3 1 (.slice Agq zq.m.a.xs.length cgq) zq.m.a.xs.length (ints zq.m.a.xs) :: .obj g6 (.cells [.int .i64 0, .int .i64 0, .slice none 0 0, .int .i64 0, .int .i64 0, .slice none 0 0].toArray 32 (0, 0)) :: .obj gx (.cells [.int .i64 x.a.r, .int .i64 x.a.c, u, .int .i64 x.b.r, .int .i64 x.b.c, v].toArray 32 (0, 0)) :: []))
  case first =>
    have hT := congrArg (List.drop 2) HL.out; simp only [List.drop_succ_cons, List.drop_zero] at hT; obtain ⟨L1, hL1⟩ : ∃ M, M = L.drop 2 := ⟨_, rfl⟩; rw [← hL1] at hT; have HL0 := Lib.hid hT; have S1 := S.sub (List.drop_sublist 2 L); rw [← hL1] at S1; have F0 := qFc HL0 S1; clear S1 hL1 hT; refine wp_region_tree (S := fun w' => St w0 w' L1) (qcs 0 4 (.act 4 (.act 5 (.act 6 .fin .stop) .stop) (.act 5 (.act 4 (.act 6 .fin .stop) .stop) .stop))) (by kernel_rfl) (by kernel_rfl) (by kernel_rfl) (by intro c a d v w h; cases d <;> exact h) ?_; dsimp only [qcs, Nat.reduceAdd]; replace S := S.drew
    have f0 := fun w' (S' : St w0 w' L1) => (S'.below.cell (p := ⟨bl, off, none⟩) hbl).trans P0.out
    have f1 := fun w' (S' : St w0 w' L1) => (S'.below.cell (p := ⟨bl, off + 1, none⟩) hbl).trans P1.out
    have f2 := fun w' (S' : St w0 w' L1) => (S'.below.cell (p := ⟨bl, off + 2, none⟩) hbl).trans P2.out
    have f3 := fun w' (S' : St w0 w' L1) => (S'.below.cell (p := ⟨bl, off + 3, none⟩) hbl).trans P3.out
    have f4 := fun w' (S' : St w0 w' L1) => (S'.below.cell (p := ⟨bl, off + 4, none⟩) hbl).trans P4.out
    have f5 := fun w' (S' : St w0 w' L1) => (S'.below.cell (p := ⟨bl, off + 5, none⟩) hbl).trans P5.out
    repeat' (first | refine qTo6 ?_ | refine qCa ?_ | refine qAn ?_ | refine qSk ?_ | exact tree_stop | (refine tree_act rfl rfl ?_ ?_) | (intro K hK; (refine qaw HL S zSMx ?_; clear F S HL; intro g w L HL S F); (refine qKo hK ?_; clear hK K)) | (intro K hK; (refine qsw HL S 0 ?_; clear F S HL; intro w L HL S F); (refine qKo hK ?_; clear hK K)) | (intro K hK; (refine qsw HL S 2 ?_; clear F S HL; intro w L HL S F); (refine qKo hK ?_; clear hK K)) | (intro K hK; (refine qsw HL S 4 ?_; clear F S HL; intro w L HL S F); (refine qKo hK ?_; clear hK K)) | (intro K hK; go_wp2_with (first | (go_at_call 53; refine (C1 L _ _ _ _ _ S qAt qAt (by decide) _ _ _ _ (by first | exact .inl HXU.out | exact .inl HXV.out | exact .inl HAU.out | exact .inl HAV.out | exact .inl HBU.out | exact .inl HBV.out | exact .inl HCU.out | exact .inl HCV.out | exact .inr qIn) (by first | exact .inl HXU.out | exact .inl HXV.out | exact .inl HAU.out | exact .inl HAV.out | exact .inl HBU.out | exact .inl HBV.out | exact .inl HCU.out | exact .inl HCV.out | exact .inr qIn) (by first | exact .inl HXU.out | exact .inl HXV.out | exact .inl HAU.out | exact .inl HAV.out | exact .inl HBU.out | exact .inl HBV.out | exact .inl HCU.out | exact .inl HCV.out | exact .inr qIn) (by first | exact .inl HXU.out | exact .inl HXV.out | exact .inl HAU.out | exact .inl HAV.out | exact .inl HBU.out | exact .inl HBV.out | exact .inl HCU.out | exact .inl HCV.out | exact .inr qIn)).mono ?_; rintro e w ⟨o2, Au, At', cu, ct, rfl, T0⟩; obtain ⟨L, hM, T⟩ := st_name T0; clear T0; clear F S; replace HL := qNm HL hM; clear hM; have S := T; clear T; have F := qFc HL S)); (refine qKo hK ?_; clear hK K)))
    all_goals
      refine tree_fin ?_
      go_wp2_with fail
      go_meet
      rw [HL.out] at S
      exact ⟨_, o2, _, _, _, _, rfl, S.sel (by exact qQ5)⟩
  case rest =>
  obtain ⟨gq, ogq, Agq, Bgq, cgq, dgq, rfl, T0⟩ := hcut
  obtain ⟨L, hM, T⟩ := st_name T0
  clear T0
  clear F S; replace HL := qNm HL hM; clear hM; have S := T; clear T; have F := qFc HL S
  (rw [HL.out] at S; have T := (S.toObj (p := 2) rfl); clear S HL F; have S := T; clear T; (try simp only [List.set_cons_zero, List.set_cons_succ] at S); obtain ⟨L, hM, T⟩ := st_name S; clear S; have S := T; clear T; have HL := Lib.hid hM; clear hM; have F := qFc HL S)
  clear C1
  go_upto_region 5 with fail
  (try simp only [Act.put, qP0, qP1, qP2])
  go_cut [11] (fun t w => ∃ (gk : Nat) (o2 : Value) (Agk Bgk : Option Addr) (cgk dgk : Nat), t = .pointer (some ⟨gk, 0, none⟩) ∧ St w0 w (.box gs 85 [.int .i64 zk.last, o2] :: .row 3 1 o2 O2.length (ints O2) :: .box gk 32 [.int .i64 zk.m.a.r, .int .i64 zk.m.a.c, .slice Agk zk.m.a.xs.length cgk, .int .i64 zk.m.b.r, .int .i64 zk.m.b.c, .slice Bgk zk.m.b.xs.length dgk] :: .row 3 1 (.slice Bgk zk.m.b.xs.length dgk) zk.m.b.xs.length (ints zk.m.b.xs) :: .row 3 1 (.slice Agk zk.m.a.xs.length cgk) zk.m.a.xs.length (ints zk.m.a.xs) :: .obj gq (.cells [.int .i64 zq.m.a.r, .int .i64 zq.m.a.c, .slice Agq zq.m.a.xs.length cgq, .int .i64 zq.m.b.r, .int .i64 zq.m.b.c, .slice Bgq zq.m.b.xs.length dgq].toArray 32 (0, 0)) :: .row 3 1 (.slice Bgq zq.m.b.xs.length dgq) zq.m.b.xs.length (ints zq.m.b.xs) :: .row 3 1 (.slice Agq zq.m.a.xs.length cgq) zq.m.a.xs.length (ints zq.m.a.xs) :: .obj g6 (.cells [.int .i64 0, .int .i64 0, .slice none 0 0, .int .i64 0, .int .i64 0, .slice none 0 0].toArray 32 (0, 0)) :: .obj gx (.cells [.int .i64 x.a.r, .int .i64 x.a.c, u, .int .i64 x.b.r, .int .i64 x.b.c, v].toArray 32 (0, 0)) :: []))
  case first =>
    have hT := congrArg (List.drop 2) HL.out; simp only [List.drop_succ_cons, List.drop_zero] at hT; obtain ⟨L1, hL1⟩ : ∃ M, M = L.drop 2 := ⟨_, rfl⟩; rw [← hL1] at hT; have HL0 := Lib.hid hT; have S1 := S.sub (List.drop_sublist 2 L); rw [← hL1] at S1; have F0 := qFc HL0 S1; clear S1 hL1 hT; refine wp_region_tree (S := fun w' => St w0 w' L1) (qcs 0 4 (.act 4 (.act 5 (.act 6 .fin .stop) .stop) (.act 5 (.act 4 (.act 6 .fin .stop) .stop) .stop))) (by kernel_rfl) (by kernel_rfl) (by kernel_rfl) (by intro c a d v w h; cases d <;> exact h) ?_; dsimp only [qcs, Nat.reduceAdd]; replace S := S.drew
    have f0 := fun w' (S' : St w0 w' L1) => (S'.below.cell (p := ⟨bl, off + 6, none⟩) hbl).trans Q0.out
    have f1 := fun w' (S' : St w0 w' L1) => (S'.below.cell (p := ⟨bl, off + 6 + 1, none⟩) hbl).trans Q1.out
    have f2 := fun w' (S' : St w0 w' L1) => (S'.below.cell (p := ⟨bl, off + 6 + 2, none⟩) hbl).trans Q2.out
    have f3 := fun w' (S' : St w0 w' L1) => (S'.below.cell (p := ⟨bl, off + 6 + 3, none⟩) hbl).trans Q3.out
    have f4 := fun w' (S' : St w0 w' L1) => (S'.below.cell (p := ⟨bl, off + 6 + 4, none⟩) hbl).trans Q4.out
    have f5 := fun w' (S' : St w0 w' L1) => (S'.below.cell (p := ⟨bl, off + 6 + 5, none⟩) hbl).trans Q5.out
    repeat' (first | refine qTo6 ?_ | refine qCa ?_ | refine qAn ?_ | refine qSk ?_ | exact tree_stop | (refine tree_act rfl rfl ?_ ?_) | (intro K hK; (refine qaw HL S zSMx ?_; clear F S HL; intro g w L HL S F); (refine qKo hK ?_; clear hK K)) | (intro K hK; (refine qsw HL S 0 ?_; clear F S HL; intro w L HL S F); (refine qKo hK ?_; clear hK K)) | (intro K hK; (refine qsw HL S 2 ?_; clear F S HL; intro w L HL S F); (refine qKo hK ?_; clear hK K)) | (intro K hK; (refine qsw HL S 4 ?_; clear F S HL; intro w L HL S F); (refine qKo hK ?_; clear hK K)) | (intro K hK; go_wp2_with (first | (go_at_call 53; refine (C2 L _ _ _ _ _ S qAt qAt (by decide) _ _ _ _ (by first | exact .inl HXU.out | exact .inl HXV.out | exact .inl HAU.out | exact .inl HAV.out | exact .inl HBU.out | exact .inl HBV.out | exact .inl HCU.out | exact .inl HCV.out | exact .inr qIn) (by first | exact .inl HXU.out | exact .inl HXV.out | exact .inl HAU.out | exact .inl HAV.out | exact .inl HBU.out | exact .inl HBV.out | exact .inl HCU.out | exact .inl HCV.out | exact .inr qIn) (by first | exact .inl HXU.out | exact .inl HXV.out | exact .inl HAU.out | exact .inl HAV.out | exact .inl HBU.out | exact .inl HBV.out | exact .inl HCU.out | exact .inl HCV.out | exact .inr qIn) (by first | exact .inl HXU.out | exact .inl HXV.out | exact .inl HAU.out | exact .inl HAV.out | exact .inl HBU.out | exact .inl HBV.out | exact .inl HCU.out | exact .inl HCV.out | exact .inr qIn)).mono ?_; rintro e w ⟨o2, Au, At', cu, ct, rfl, T0⟩; obtain ⟨L, hM, T⟩ := st_name T0; clear T0; clear F S; replace HL := qNm HL hM; clear hM; have S := T; clear T; have F := qFc HL S)); (refine qKo hK ?_; clear hK K)))
    all_goals
      refine tree_fin ?_
      go_wp2_with fail
      go_meet
      rw [HL.out] at S
      exact ⟨_, o2, _, _, _, _, rfl, S.sel (by exact qQ5)⟩
  case rest =>
  obtain ⟨gk, ogk, Agk, Bgk, cgk, dgk, rfl, T0⟩ := hcut
  obtain ⟨L, hM, T⟩ := st_name T0
  clear T0
  clear F S; replace HL := qNm HL hM; clear hM; have S := T; clear T; have F := qFc HL S
  (rw [HL.out] at S; have T := (S.toObj (p := 2) rfl); clear S HL F; have S := T; clear T; (try simp only [List.set_cons_zero, List.set_cons_succ] at S); obtain ⟨L, hM, T⟩ := st_name S; clear S; have S := T; clear T; have HL := Lib.hid hM; clear hM; have F := qFc HL S)
  clear C2
  go_upto_region 6 with fail
  (try simp only [Act.put, qP0, qP1, qP2])
  go_cut [12] (fun t w => ∃ (gv : Nat) (o2 : Value) (Agv Bgv : Option Addr) (cgv dgv : Nat), t = .pointer (some ⟨gv, 0, none⟩) ∧ St w0 w (.box gs 85 [.int .i64 zv.last, o2] :: .row 3 1 o2 O3.length (ints O3) :: .box gv 32 [.int .i64 zv.m.a.r, .int .i64 zv.m.a.c, .slice Agv zv.m.a.xs.length cgv, .int .i64 zv.m.b.r, .int .i64 zv.m.b.c, .slice Bgv zv.m.b.xs.length dgv] :: .row 3 1 (.slice Bgv zv.m.b.xs.length dgv) zv.m.b.xs.length (ints zv.m.b.xs) :: .row 3 1 (.slice Agv zv.m.a.xs.length cgv) zv.m.a.xs.length (ints zv.m.a.xs) :: .obj gk (.cells [.int .i64 zk.m.a.r, .int .i64 zk.m.a.c, .slice Agk zk.m.a.xs.length cgk, .int .i64 zk.m.b.r, .int .i64 zk.m.b.c, .slice Bgk zk.m.b.xs.length dgk].toArray 32 (0, 0)) :: .row 3 1 (.slice Bgk zk.m.b.xs.length dgk) zk.m.b.xs.length (ints zk.m.b.xs) :: .row 3 1 (.slice Agk zk.m.a.xs.length cgk) zk.m.a.xs.length (ints zk.m.a.xs) :: .obj gq (.cells [.int .i64 zq.m.a.r, .int .i64 zq.m.a.c, .slice Agq zq.m.a.xs.length cgq, .int .i64 zq.m.b.r, .int .i64 zq.m.b.c, .slice Bgq zq.m.b.xs.length dgq].toArray 32 (0, 0)) :: .row 3 1 (.slice Bgq zq.m.b.xs.length dgq) zq.m.b.xs.length (ints zq.m.b.xs) :: .row 3 1 (.slice Agq zq.m.a.xs.length cgq) zq.m.a.xs.length (ints zq.m.a.xs) :: .obj g6 (.cells [.int .i64 0, .int .i64 0, .slice none 0 0, .int .i64 0, .int .i64 0, .slice none 0 0].toArray 32 (0, 0)) :: .obj gx (.cells [.int .i64 x.a.r, .int .i64 x.a.c, u, .int .i64 x.b.r, .int .i64 x.b.c, v].toArray 32 (0, 0)) :: []))
  case first =>
    have hT := congrArg (List.drop 2) HL.out; simp only [List.drop_succ_cons, List.drop_zero] at hT; obtain ⟨L1, hL1⟩ : ∃ M, M = L.drop 2 := ⟨_, rfl⟩; rw [← hL1] at hT; have HL0 := Lib.hid hT; have S1 := S.sub (List.drop_sublist 2 L); rw [← hL1] at S1; have F0 := qFc HL0 S1; clear S1 hL1 hT; refine wp_region_tree (S := fun w' => St w0 w' L1) (qcs 0 4 (.act 4 (.act 5 (.act 6 .fin .stop) .stop) (.act 5 (.act 4 (.act 6 .fin .stop) .stop) .stop))) (by kernel_rfl) (by kernel_rfl) (by kernel_rfl) (by intro c a d v w h; cases d <;> exact h) ?_; dsimp only [qcs, Nat.reduceAdd]; replace S := S.drew
    have f0 := fun w' (S' : St w0 w' L1) => (S'.below.cell (p := ⟨bl, off + 12, none⟩) hbl).trans R0.out
    have f1 := fun w' (S' : St w0 w' L1) => (S'.below.cell (p := ⟨bl, off + 12 + 1, none⟩) hbl).trans R1.out
    have f2 := fun w' (S' : St w0 w' L1) => (S'.below.cell (p := ⟨bl, off + 12 + 2, none⟩) hbl).trans R2.out
    have f3 := fun w' (S' : St w0 w' L1) => (S'.below.cell (p := ⟨bl, off + 12 + 3, none⟩) hbl).trans R3.out
    have f4 := fun w' (S' : St w0 w' L1) => (S'.below.cell (p := ⟨bl, off + 12 + 4, none⟩) hbl).trans R4.out
    have f5 := fun w' (S' : St w0 w' L1) => (S'.below.cell (p := ⟨bl, off + 12 + 5, none⟩) hbl).trans R5.out
    repeat' (first | refine qTo6 ?_ | refine qCa ?_ | refine qAn ?_ | refine qSk ?_ | exact tree_stop | (refine tree_act rfl rfl ?_ ?_) | (intro K hK; (refine qaw HL S zSMx ?_; clear F S HL; intro g w L HL S F); (refine qKo hK ?_; clear hK K)) | (intro K hK; (refine qsw HL S 0 ?_; clear F S HL; intro w L HL S F); (refine qKo hK ?_; clear hK K)) | (intro K hK; (refine qsw HL S 2 ?_; clear F S HL; intro w L HL S F); (refine qKo hK ?_; clear hK K)) | (intro K hK; (refine qsw HL S 4 ?_; clear F S HL; intro w L HL S F); (refine qKo hK ?_; clear hK K)) | (intro K hK; go_wp2_with (first | (go_at_call 53; refine (C3 L _ _ _ _ _ S qAt qAt (by decide) _ _ _ _ (by first | exact .inl HXU.out | exact .inl HXV.out | exact .inl HAU.out | exact .inl HAV.out | exact .inl HBU.out | exact .inl HBV.out | exact .inl HCU.out | exact .inl HCV.out | exact .inr qIn) (by first | exact .inl HXU.out | exact .inl HXV.out | exact .inl HAU.out | exact .inl HAV.out | exact .inl HBU.out | exact .inl HBV.out | exact .inl HCU.out | exact .inl HCV.out | exact .inr qIn) (by first | exact .inl HXU.out | exact .inl HXV.out | exact .inl HAU.out | exact .inl HAV.out | exact .inl HBU.out | exact .inl HBV.out | exact .inl HCU.out | exact .inl HCV.out | exact .inr qIn) (by first | exact .inl HXU.out | exact .inl HXV.out | exact .inl HAU.out | exact .inl HAV.out | exact .inl HBU.out | exact .inl HBV.out | exact .inl HCU.out | exact .inl HCV.out | exact .inr qIn)).mono ?_; rintro e w ⟨o2, Au, At', cu, ct, rfl, T0⟩; obtain ⟨L, hM, T⟩ := st_name T0; clear T0; clear F S; replace HL := qNm HL hM; clear hM; have S := T; clear T; have F := qFc HL S)); (refine qKo hK ?_; clear hK K)))
    all_goals
      refine tree_fin ?_
      go_wp2_with fail
      go_meet
      rw [HL.out] at S
      exact ⟨_, o2, _, _, _, _, rfl, S.sel (by exact qQ5)⟩
  case rest =>
  obtain ⟨gv, ogv, Agv, Bgv, cgv, dgv, rfl, T0⟩ := hcut
  obtain ⟨L, hM, T⟩ := st_name T0
  clear T0
  clear F S; replace HL := qNm HL hM; clear hM; have S := T; clear T; have F := qFc HL S
  (rw [HL.out] at S; have T := (S.toObj (p := 2) rfl); clear S HL F; have S := T; clear T; (try simp only [List.set_cons_zero, List.set_cons_succ] at S); obtain ⟨L, hM, T⟩ := st_name S; clear S; have S := T; clear T; have HL := Lib.hid hM; clear hM; have F := qFc HL S)
  clear C3
  go_upto_region 7 with fail
  (try simp only [Act.put, qP0, qP1, qP2])
  go_cut [13] (fun t w => ∃ (gt : Nat) (o2 : Value) (Agt Bgt : Option Addr) (cgt dgt : Nat), t = .pointer (some ⟨gt, 0, none⟩) ∧ St w0 w (.box gs 85 [.int .i64 zt.last, o2] :: .row 3 1 o2 O4.length (ints O4) :: .box gt 32 [.int .i64 zt.m.a.r, .int .i64 zt.m.a.c, .slice Agt zt.m.a.xs.length cgt, .int .i64 zt.m.b.r, .int .i64 zt.m.b.c, .slice Bgt zt.m.b.xs.length dgt] :: .row 3 1 (.slice Bgt zt.m.b.xs.length dgt) zt.m.b.xs.length (ints zt.m.b.xs) :: .row 3 1 (.slice Agt zt.m.a.xs.length cgt) zt.m.a.xs.length (ints zt.m.a.xs) :: .obj gv (.cells [.int .i64 zv.m.a.r, .int .i64 zv.m.a.c, .slice Agv zv.m.a.xs.length cgv, .int .i64 zv.m.b.r, .int .i64 zv.m.b.c, .slice Bgv zv.m.b.xs.length dgv].toArray 32 (0, 0)) :: .row 3 1 (.slice Bgv zv.m.b.xs.length dgv) zv.m.b.xs.length (ints zv.m.b.xs) :: .row 3 1 (.slice Agv zv.m.a.xs.length cgv) zv.m.a.xs.length (ints zv.m.a.xs) :: .obj g6 (.cells [.int .i64 0, .int .i64 0, .slice none 0 0, .int .i64 0, .int .i64 0, .slice none 0 0].toArray 32 (0, 0)) :: []))
  case first =>
    have hT := congrArg (List.drop 2) HL.out; simp only [List.drop_succ_cons, List.drop_zero] at hT; obtain ⟨L1, hL1⟩ : ∃ M, M = L.drop 2 := ⟨_, rfl⟩; rw [← hL1] at hT; have HL0 := Lib.hid hT; have S1 := S.sub (List.drop_sublist 2 L); rw [← hL1] at S1; have F0 := qFc HL0 S1; clear S1 hL1 hT; refine wp_region_tree (S := fun w' => St w0 w' L1) (.calm 0 (.calm 1 (.act 2 (.act 3 (.act 4 (.act 5 .fin .stop) .stop) (.act 4 (.act 3 (.act 5 .fin .stop) .stop) .stop)) (.act 4 (.act 2 (.act 3 (.act 5 .fin .stop) .stop) .stop) .stop)))) (by kernel_rfl) (by kernel_rfl) (by kernel_rfl) (by intro c a d v w h; cases d <;> exact h) ?_; replace S := S.drew
    repeat' (first | refine qTo6 ?_ | refine qCa ?_ | refine qAn ?_ | refine qSk ?_ | exact tree_stop | (refine tree_act rfl rfl ?_ ?_) | (intro K hK; (refine qaw HL S zSMx ?_; clear F S HL; intro g w L HL S F); (refine qKo hK ?_; clear hK K)) | (intro K hK; (refine qsw HL S 0 ?_; clear F S HL; intro w L HL S F); (refine qKo hK ?_; clear hK K)) | (intro K hK; (refine qsw HL S 2 ?_; clear F S HL; intro w L HL S F); (refine qKo hK ?_; clear hK K)) | (intro K hK; (refine qsw HL S 4 ?_; clear F S HL; intro w L HL S F); (refine qKo hK ?_; clear hK K)) | (intro K hK; go_wp2_with (first | (go_at_call 53; refine (C4 L _ _ _ _ _ S qAt qAt (by decide) _ _ _ _ (by first | exact .inl HXU.out | exact .inl HXV.out | exact .inl HAU.out | exact .inl HAV.out | exact .inl HBU.out | exact .inl HBV.out | exact .inl HCU.out | exact .inl HCV.out | exact .inr qIn) (by first | exact .inl HXU.out | exact .inl HXV.out | exact .inl HAU.out | exact .inl HAV.out | exact .inl HBU.out | exact .inl HBV.out | exact .inl HCU.out | exact .inl HCV.out | exact .inr qIn) (by first | exact .inl HXU.out | exact .inl HXV.out | exact .inl HAU.out | exact .inl HAV.out | exact .inl HBU.out | exact .inl HBV.out | exact .inl HCU.out | exact .inl HCV.out | exact .inr qIn) (by first | exact .inl HXU.out | exact .inl HXV.out | exact .inl HAU.out | exact .inl HAV.out | exact .inl HBU.out | exact .inl HBV.out | exact .inl HCU.out | exact .inl HCV.out | exact .inr qIn)).mono ?_; rintro e w ⟨o2, Au, At', cu, ct, rfl, T0⟩; obtain ⟨L, hM, T⟩ := st_name T0; clear T0; clear F S; replace HL := qNm HL hM; clear hM; have S := T; clear T; have F := qFc HL S) | (go_at_call 54; refine (CT _ _ _ (Sees.row S qAt) (Sees.row S qAt)).mono ?_; rintro e w ⟨u, v, rfl, T0⟩; have hX := qcl HL S T0; clear F S HL T0; obtain ⟨L, HL, S, F⟩ := hX; obtain ⟨A', cap', rfl, hcap', hmax'⟩ := qSl HL S 0; obtain ⟨A', cap', rfl, hcap', hmax'⟩ := qSl HL S 1)); (refine qKo hK ?_; clear hK K)))
    all_goals
      refine tree_fin ?_
      go_wp2_with fail
      go_meet
      rw [HL.out] at S
      exact ⟨_, o2, _, _, _, _, rfl, S.sel (by exact qQ5)⟩
  case rest =>
  obtain ⟨gt, ogt, Agt, Bgt, cgt, dgt, rfl, T0⟩ := hcut
  obtain ⟨L, hM, T⟩ := st_name T0
  clear T0
  clear F S; replace HL := qNm HL hM; clear hM; have S := T; clear T; have F := qFc HL S
  (rw [HL.out] at S; have T := (S.toObj (p := 2) rfl); clear S HL F; have S := T; clear T; (try simp only [List.set_cons_zero, List.set_cons_succ] at S); obtain ⟨L, hM, T⟩ := st_name S; clear S; have S := T; clear T; have HL := Lib.hid hM; clear hM; have F := qFc HL S)
  clear C4 CT
  go_upto_region 9 with (first | refine qLo6 S ?_ | (go_at_call 55; refine (C5 L _ _ _ _ _ S qAt qAt (by decide) _ _ (by first | exact .inl HXU.out | exact .inl HXV.out | exact .inl HAU.out | exact .inl HAV.out | exact .inl HBU.out | exact .inl HBV.out | exact .inl HCU.out | exact .inl HCV.out | exact .inr qIn) (by first | exact .inl HXU.out | exact .inl HXV.out | exact .inl HAU.out | exact .inl HAV.out | exact .inl HBU.out | exact .inl HBV.out | exact .inl HCU.out | exact .inl HCV.out | exact .inr qIn)).mono ?_; rintro e w ⟨o2, Au, At', cu, ct, rfl, T0⟩; obtain ⟨L, hM, T⟩ := st_name T0; clear T0; clear F S; replace HL := qNm HL hM; clear hM; have S := T; clear T; have F := qFc HL S) | (refine qal HL S zSMx ?_; clear F S HL; intro gg w L HL S F) | (refine qst HL S 0 ?_; clear F S HL; intro w L HL S F))
  clear C5
  (rw [HL.out] at S; have T := (S.toObj (p := 0) rfl); clear S HL F; have S := T; clear T; (try simp only [List.set_cons_zero, List.set_cons_succ] at S); obtain ⟨L, hM, T⟩ := st_name S; clear S; have S := T; clear T; have HL := Lib.hid hM; clear hM; have F := qFc HL S)
  go_upto_region 10 with (first | refine qLo6 S ?_ | (go_at_call 55; refine (C6 L _ _ _ _ _ S qAt qAt (by decide) _ _ (by first | exact .inl HXU.out | exact .inl HXV.out | exact .inl HAU.out | exact .inl HAV.out | exact .inl HBU.out | exact .inl HBV.out | exact .inl HCU.out | exact .inl HCV.out | exact .inr qIn) (by first | exact .inl HXU.out | exact .inl HXV.out | exact .inl HAU.out | exact .inl HAV.out | exact .inl HBU.out | exact .inl HBV.out | exact .inl HCU.out | exact .inl HCV.out | exact .inr qIn)).mono ?_; rintro e w ⟨o2, Au, At', cu, ct, rfl, T0⟩; obtain ⟨L, hM, T⟩ := st_name T0; clear T0; clear F S; replace HL := qNm HL hM; clear hM; have S := T; clear T; have F := qFc HL S) | (go_at_call 56; refine (CE _ _ _ (Sees.row S qAt) (Sees.row S qAt)).mono ?_; rintro e w ⟨u, v, rfl, T0⟩; have hX := qcl HL S T0; clear F S HL T0; obtain ⟨L, HL, S, F⟩ := hX; obtain ⟨A', cap', rfl, hcap', hmax'⟩ := qSl HL S 0; obtain ⟨A', cap', rfl, hcap', hmax'⟩ := qSl HL S 1) | (refine qal HL S zSMx ?_; clear F S HL; intro gn w L HL S F) | (refine qst HL S 0 ?_; clear F S HL; intro w L HL S F))
  clear C6 CE
  (rw [HL.out] at S; have T := (S.toObj (p := 0) rfl); clear S HL F; have S := T; clear T; (try simp only [List.set_cons_zero, List.set_cons_succ] at S); obtain ⟨L, hM, T⟩ := st_name S; clear S; have S := T; clear T; have HL := Lib.hid hM; clear hM; have F := qFc HL S)
  go_upto_region 11 with (first | refine qLo6 S ?_ | (go_at_call 58; refine (C7 L _ _ _ _ _ S qAt qAt (by decide) _ _ _ _ (by first | exact .inl HXU.out | exact .inl HXV.out | exact .inl HAU.out | exact .inl HAV.out | exact .inl HBU.out | exact .inl HBV.out | exact .inl HCU.out | exact .inl HCV.out | exact .inr qIn) (by first | exact .inl HXU.out | exact .inl HXV.out | exact .inl HAU.out | exact .inl HAV.out | exact .inl HBU.out | exact .inl HBV.out | exact .inl HCU.out | exact .inl HCV.out | exact .inr qIn) (by first | exact .inl HXU.out | exact .inl HXV.out | exact .inl HAU.out | exact .inl HAV.out | exact .inl HBU.out | exact .inl HBV.out | exact .inl HCU.out | exact .inl HCV.out | exact .inr qIn) (by first | exact .inl HXU.out | exact .inl HXV.out | exact .inl HAU.out | exact .inl HAV.out | exact .inl HBU.out | exact .inl HBV.out | exact .inl HCU.out | exact .inl HCV.out | exact .inr qIn)).mono ?_; rintro e w ⟨o2, Au, At', cu, ct, rfl, T0⟩; obtain ⟨L, hM, T⟩ := st_name T0; clear T0; clear F S; replace HL := qNm HL hM; clear hM; have S := T; clear T; have F := qFc HL S) | (refine qal HL S zSMx ?_; clear F S HL; intro gh w L HL S F) | (refine qst HL S 0 ?_; clear F S HL; intro w L HL S F))
  clear C7
  (rw [HL.out] at S; have T := (S.toObj (p := 0) rfl); clear S HL F; have S := T; clear T; (try simp only [List.set_cons_zero, List.set_cons_succ] at S); obtain ⟨L, hM, T⟩ := st_name S; clear S; have S := T; clear T; have HL := Lib.hid hM; clear hM; have F := qFc HL S)
  go_upto_region 12 with (first | refine qLo6 S ?_ | (go_at_call 53; refine (C8 L _ _ _ _ _ S qAt qAt (by decide) _ _ _ _ (by first | exact .inl HXU.out | exact .inl HXV.out | exact .inl HAU.out | exact .inl HAV.out | exact .inl HBU.out | exact .inl HBV.out | exact .inl HCU.out | exact .inl HCV.out | exact .inr qIn) (by first | exact .inl HXU.out | exact .inl HXV.out | exact .inl HAU.out | exact .inl HAV.out | exact .inl HBU.out | exact .inl HBV.out | exact .inl HCU.out | exact .inl HCV.out | exact .inr qIn) (by first | exact .inl HXU.out | exact .inl HXV.out | exact .inl HAU.out | exact .inl HAV.out | exact .inl HBU.out | exact .inl HBV.out | exact .inl HCU.out | exact .inl HCV.out | exact .inr qIn) (by first | exact .inl HXU.out | exact .inl HXV.out | exact .inl HAU.out | exact .inl HAV.out | exact .inl HBU.out | exact .inl HBV.out | exact .inl HCU.out | exact .inl HCV.out | exact .inr qIn)).mono ?_; rintro e w ⟨o2, Au, At', cu, ct, rfl, T0⟩; obtain ⟨L, hM, T⟩ := st_name T0; clear T0; clear F S; replace HL := qNm HL hM; clear hM; have S := T; clear T; have F := qFc HL S) | (refine qal HL S zSMx ?_; clear F S HL; intro go w L HL S F) | (refine qst HL S 0 ?_; clear F S HL; intro w L HL S F))
  clear C8
  rw [HL.out] at S
  have T := (S.toBox (p := 22) rfl).sel (M := [.box g6 _ _, .box go _ _, _, _, .box gs _ _, _]) (Sel.cons 22 rfl (Sel.cons 0 rfl (Sel.cons 0 rfl (Sel.cons 0 rfl (Sel.cons 11 rfl (Sel.cons 11 rfl Sel.nil))))))
  clear S HL F
  have S := T
  clear T
  obtain ⟨L, hM, T⟩ := st_name S; clear S; have S := T; clear T; have HL := Lib.hid hM; clear hM; have F := qFc HL S
  have hT := congrArg (List.drop 1) HL.out; simp only [List.drop_succ_cons, List.drop_zero] at hT; obtain ⟨L1, hL1⟩ : ∃ M, M = L.drop 1 := ⟨_, rfl⟩; rw [← hL1] at hT; have HL0 := Lib.hid hT; have S1 := S.sub (List.drop_sublist 1 L); rw [← hL1] at S1; have F0 := qFc HL0 S1; clear S1 hL1 hT; refine wp_region_tree (S := fun w' => St w0 w' L1) (qcs 0 5 (.act 5 (.calm 6 (.calm 7 .fin)) .stop)) (by kernel_rfl) (by kernel_rfl) (by kernel_rfl) (by intro c a d v w h; cases d <;> exact h) ?_; dsimp only [qcs, Nat.reduceAdd]; replace S := S.drew
  repeat (first | refine qTb6 ?_ | refine qCa ?_ | refine qAn ?_ | refine qSk ?_ | (refine tree_act rfl rfl ?_ tree_stop; intro K hK; (refine qsw HL S 0 ?_; clear F S HL; intro w L HL S F); (refine qKo hK ?_; clear hK K)) | (refine tree_act rfl rfl ?_ tree_stop; intro K hK; go_wp2_with (first | fail); (refine qKo hK ?_; clear hK K)))
  refine tree_fin ?_
  go_wp2
  refine ret3 rfl (resCell S HL 0 rfl rfl (by kernel_rfl)) (show _ = _ from rfl) (show _ = _ from rfl) rfl ?_
  exact ⟨_, _, _, rfl, (by rw [HL.out] at S; exact S.sel (by exact qSel))⟩
end
end Go.Proofs.YtjgfjfjboimgdaaGreat
