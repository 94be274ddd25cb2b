/-
  Contracts: the layers' run methods (the program's).
-/
import Derived.Test.YtdfpceobfficfaaRunP
import Derived.Test.YtdfpceobfficfaaMulJ
namespace Go.Proofs.Ytdfpceobfficfaa
set_option linter.unusedSimpArgs false
set_option linter.unusedVariables false
set_option linter.unusedSectionVars false
open Go Go.RowKit
set_option maxHeartbeats 8000000
set_option maxRecDepth 20000
theorem m_runDense (a c b1 b2 : Int) (A B : Option Addr) (n n' cap cap' : Nat) (w : World) : (method 281 113 (.agg #[.int .i64 a, .int .i64 c, .slice A n cap, .int .i64 b1, .int .i64 b2, .slice B n' cap']) "loop.example/sharedinference/impl.run").run Try.prog w = .ok (152, .agg #[.int .i64 a, .int .i64 c, .slice A n cap, .int .i64 b1, .int .i64 b2, .slice B n' cap']) w := by kernel_rfl
theorem C_runDense (R C D N : Nat) (ws bs xs zs : List Int) (A B : Option Addr) (k1 k2 nu nv : Nat) (u v x : Value) (hu' : u = .slice A nu k1) (hv' : v = .slice B nv k2) (nx : Nat) (w0 : World) (h : Sees w0 1 u nu (ints ws)) (h' : Sees w0 1 v nv (ints bs)) (hx : Sees w0 1 x nx (ints xs))
    (hu : nu = R * C) (hv : nv = R) (hxn : nx = C * D) (lw : ws.length = R * C) (lb : bs.length = R) (lx : xs.length = C * D)
    (r1 : 1 ≤ R) (r2 : R ≤ 5) (c1 : 1 ≤ C) (c2 : C ≤ 5) (d1 : 1 ≤ D) (d2 : D ≤ 5) (aw : ws.all rv = true) (ab : bs.all rv = true) (ax : xs.all rv = true) (hN : R * D = N) (hz : denseL ws bs xs R C D = zs) :
    Calls Try.prog 152 #[.agg #[.int .i64 R, .int .i64 C, u, .int .i64 R, .int .i64 1, v], .agg #[.int .i64 C, .int .i64 D, x]] w0 fun e w' => ∃ u', e = .returned (.agg #[.int .i64 R, .int .i64 D, u']) ∧ St w0 w' [.row 3 1 u' N (ints zs)] := by
  subst hu' hv'
  have HU := Lib.hid h
  have HV := Lib.hid h'
  have HX := Lib.hid hx
  obtain ⟨_, A3, k3, rfl, hk3, hm3, _⟩ := hx
  have CD := fun w h1 h2 h3 => C_impl_Dense R C D ws bs xs (.slice A nu k1) (.slice B nv k2) (.slice A3 nx k3) nu nv nx w h1 h2 h3 hu hv hxn lw lb lx r1 r2 c1 c2 d1 d2 aw ab ax
  rw [hN, hz] at CD
  clear h h' hu hv hxn lw lb lx aw ab ax hN hz
  obtain ⟨L, HL, S⟩ := st_start w0; have F : True := trivial
  go_enter Try.func152, Try.ntmps152
  go_upto_region 1 with (first | (refine wpList_box (o := { dst := some 2, op := _, type := _, pos := _, after := _, guard := _ }) rfl S _ _ rfl ?_; intro gl w L hM T; clear F S; (try rw [HL.out] at hM); clear HL; (try simp [Act.put, Act.eval, Value.cells, splice] at hM); have HL := Lib.hid hM; clear hM; have S := T; clear T; have F := factsAll HL S; (try simp only [factsOf, cellsFrom, and_true, true_and, Nat.reduceAdd] at F)) | (refine wpList_box (o := { dst := some 3, op := _, type := _, pos := _, after := _, guard := _ }) rfl S _ _ rfl ?_; intro gx w L hM T; clear F S; (try rw [HL.out] at hM); clear HL; (try simp [Act.put, Act.eval, Value.cells, splice] at hM); have HL := Lib.hid hM; clear hM; have S := T; clear T; have F := factsAll HL S; (try simp only [factsOf, cellsFrom, and_true, true_and, Nat.reduceAdd] at F)) | (refine wpList_alloc rfl S 55 _ rfl zMx ?_; intro gr w L hM T; clear F S; (try rw [HL.out] at hM); clear HL; (try simp [Act.put, Act.eval, Value.cells, splice] at hM); have HL := Lib.hid hM; clear hM; have S := T; clear T; have F := factsAll HL S; (try simp only [factsOf, cellsFrom, and_true, true_and, Nat.reduceAdd] at F)))
  go_wp2_with (first | (refine wpList_store_box rfl S _ _ _ rfl 1 _ _ _ _ (atOf HL rfl) rfl _ rfl (by kernel_rfl) rfl rfl ?_; intro w L hM T; clear F S; (try rw [HL.out] at hM); clear HL; (try simp [Act.put, Act.eval, Value.cells, splice] at hM); have HL := Lib.hid hM; clear hM; have S := T; clear T; have F := factsAll HL S; (try simp only [factsOf, cellsFrom, and_true, true_and, Nat.reduceAdd] at F)) | (go_at_call 154; refine (CD _ (HU.out.at_ S) (HV.out.at_ S) (HX.out.at_ S)).mono ?_; rintro e w ⟨u, rfl, T0⟩; obtain ⟨L, hM, T⟩ := st_name (S.call T0); clear T0; clear F S; (try rw [HL.out] at hM); clear HL; (try simp [Act.put, Act.eval, Value.cells, splice] at hM); have HL := Lib.hid hM; clear hM; have S := T; clear T; have F := factsAll HL S; (try simp only [factsOf, cellsFrom, and_true, true_and, Nat.reduceAdd] at F); obtain ⟨A', cap', rfl, hcap', hmax'⟩ := S.sliceOf (atOf HL (p := 0) rfl)))
  ((try simp only [Exit.inBlock, Exit.then]); refine ret1 rfl (resCell S HL 1 rfl rfl (by kernel_rfl)) rfl ?_)
  exact ⟨_, rfl, (by rw [HL.out] at S; exact S.sub (by repeat (first | exact .refl _ | exact List.nil_sublist _ | apply List.Sublist.cons_cons | apply List.Sublist.cons)))⟩
theorem m_runRamp (w : World) : (method 281 115 (.agg #[]) "loop.example/sharedinference/impl.run").run Try.prog w = .ok (166, .agg #[]) w := by kernel_rfl
theorem C_runRamp (R C N : Nat) (xs zs : List Int) (x : Value) (w0 : World) (hx : Sees w0 1 x N (ints xs)) (hN : R * C = N) (lx : xs.length = R * C) (r1 : 1 ≤ R) (r2 : R ≤ 5) (c1 : 1 ≤ C) (c2 : C ≤ 5) (ax : xs.all rv = true) (hz : mapL 2 xs = zs) :
    Calls Try.prog 166 #[.agg #[], .agg #[.int .i64 R, .int .i64 C, x]] w0 fun e w' => ∃ u', e = .returned (.agg #[.int .i64 R, .int .i64 C, u']) ∧ St w0 w' [.row 3 1 u' N (ints zs)] := by
  have HX := Lib.hid hx
  obtain ⟨_, A3, k3, rfl, hk3, hm3, _⟩ := hx
  have CD : ∀ w, Sees w 1 (.slice A3 N k3) N (ints xs) → Calls Try.prog 157 #[.int .i64 2, .agg #[.int .i64 R, .int .i64 C, (.slice A3 N k3)]] w fun e w' => ∃ u', e = .returned (.agg #[.int .i64 R, .int .i64 C, u']) ∧ St w w' [.row 3 1 u' N (ints zs)] := fun w h => by
    have := C_impl_Map 2 R C xs (.slice A3 N k3) w (by unfold Ints; rw [lx, hN]; exact h) (by simp) r1 r2 c1 c2 lx ax
    unfold MakesMx at this
    rw [show tab xs.length (mapV 2 xs) = zs from hz, ← hz, mapL_len, lx, hN, hz] at this
    exact this
  clear hN lx ax hz
  obtain ⟨L, HL, S⟩ := st_start w0; have F : True := trivial
  go_enter Try.func166, Try.ntmps166
  go_upto_region 1 with (first | (refine wpList_box (o := { dst := some 2, op := _, type := _, pos := _, after := _, guard := _ }) rfl S _ _ rfl ?_; intro gl w L hM T; clear F S; (try rw [HL.out] at hM); clear HL; (try simp [Act.put, Act.eval, Value.cells, splice] at hM); have HL := Lib.hid hM; clear hM; have S := T; clear T; have F := factsAll HL S; (try simp only [factsOf, cellsFrom, and_true, true_and, Nat.reduceAdd] at F)) | (refine wpList_box (o := { dst := some 3, op := _, type := _, pos := _, after := _, guard := _ }) rfl S _ _ rfl ?_; intro gx w L hM T; clear F S; (try rw [HL.out] at hM); clear HL; (try simp [Act.put, Act.eval, Value.cells, splice] at hM); have HL := Lib.hid hM; clear hM; have S := T; clear T; have F := factsAll HL S; (try simp only [factsOf, cellsFrom, and_true, true_and, Nat.reduceAdd] at F)) | (refine wpList_alloc rfl S 55 _ rfl zMx ?_; intro gr w L hM T; clear F S; (try rw [HL.out] at hM); clear HL; (try simp [Act.put, Act.eval, Value.cells, splice] at hM); have HL := Lib.hid hM; clear hM; have S := T; clear T; have F := factsAll HL S; (try simp only [factsOf, cellsFrom, and_true, true_and, Nat.reduceAdd] at F)))
  go_wp2_with (first | (refine wpList_store_box rfl S _ _ _ rfl 1 _ _ _ _ (atOf HL rfl) rfl _ rfl (by kernel_rfl) rfl rfl ?_; intro w L hM T; clear F S; (try rw [HL.out] at hM); clear HL; (try simp [Act.put, Act.eval, Value.cells, splice] at hM); have HL := Lib.hid hM; clear hM; have S := T; clear T; have F := factsAll HL S; (try simp only [factsOf, cellsFrom, and_true, true_and, Nat.reduceAdd] at F)) | (go_at_call 157; refine (CD _ (HX.out.at_ S)).mono ?_; rintro e w ⟨u, rfl, T0⟩; obtain ⟨L, hM, T⟩ := st_name (S.call T0); clear T0; clear F S; (try rw [HL.out] at hM); clear HL; (try simp [Act.put, Act.eval, Value.cells, splice] at hM); have HL := Lib.hid hM; clear hM; have S := T; clear T; have F := factsAll HL S; (try simp only [factsOf, cellsFrom, and_true, true_and, Nat.reduceAdd] at F); obtain ⟨A', cap', rfl, hcap', hmax'⟩ := S.sliceOf (atOf HL (p := 0) rfl)))
  ((try simp only [Exit.inBlock, Exit.then]); refine ret1 rfl (resCell S HL 1 rfl rfl (by kernel_rfl)) rfl ?_)
  exact ⟨_, rfl, (by rw [HL.out] at S; exact S.sub (by repeat (first | exact .refl _ | exact List.nil_sublist _ | apply List.Sublist.cons_cons | apply List.Sublist.cons)))⟩
end Go.Proofs.Ytdfpceobfficfaa
