/-
  Contracts: ScaleShared, whole; what its law needs.
-/
import Derived.Test.YtjihfeffonadmaaScL
import Derived.Test.YtjihfeffonadmaaOpenS
namespace Go.Proofs.Ytjihfeffonadmaa
set_option linter.unusedSimpArgs false
set_option linter.unusedVariables false
set_option linter.unusedSectionVars false
open Go Go.RowKit Go.ChangeShapes Go.WideShapes Go.ChangeAt
theorem C_spec_ScaleShared (r c : Int) (xs : List Int) (r' c' : Int) (ys : List Int) (u v : Value) (rc cc : Int) (us : List Int) (rc' cc' : Int) (vs : List Int) (p q : Value) (seed : Int) (z : Scd) (w0 : World)
    (hu : Ints w0 u xs) (hv : Ints w0 v ys) (hp : Ints w0 p us) (hq : Ints w0 q vs) (n1 : xs.length ≤ 1048576) (n2 : ys.length ≤ 1048576) (n3 : us.length ≤ 1048576) (n4 : vs.length ≤ 1048576) (hz : scaleS ⟨⟨r, c, xs⟩, ⟨r', c', ys⟩⟩ ⟨⟨rc, cc, us⟩, ⟨rc', cc', vs⟩⟩ seed = z) :
    Calls Try.prog 11 #[.agg #[.int .i64 r, .int .i64 c, u, .int .i64 r', .int .i64 c', v], .agg #[.int .i64 rc, .int .i64 cc, p, .int .i64 rc', .int .i64 cc', q], .int .i64 seed] w0 (MakesScl w0 z) := by
  by_cases hok : scaleOk ⟨⟨r, c, xs⟩, ⟨r', c', ys⟩⟩ ⟨⟨rc, cc, us⟩, ⟨rc', cc', vs⟩⟩ seed = true
  · obtain ⟨N2, C, N, rfl, rfl, rfl, rfl, r1, r2, c1, c2, hRC, hN, hN', hN2, a1, a2, hM, hM', a3, a4, h3, h1, h2, hs⟩ := scale_good hok
    rw [hs] at hz
    subst hz
    have HU := Lib.hid hu
    have HV := Lib.hid hv
    have HP := Lib.hid hp
    have HQ := Lib.hid hq
    obtain ⟨_, A1, k1, rfl, _, _, _⟩ := hu
    obtain ⟨_, A2, k2, rfl, _, _, _⟩ := hv
    obtain ⟨_, A3, k3, rfl, _, _, _⟩ := hp
    obtain ⟨_, A4, k4, rfl, _, _, _⟩ := hq
    exact C_spec_Scale_good N2 C N r' c' rc' cc' xs ys us vs A1 A2 A3 A4 k1 k2 k3 k4 seed _ w0 HU HV HP HQ r1 r2 c1 c2 hRC hN hN' hN2 a1 a2 hM hM' a3 a4 h3 h1 h2 rfl
  · rw [scaleS_not (by simpa using hok)] at hz
    subst hz
    exact C_spec_Scale_bad r c xs r' c' ys u v rc cc us rc' cc' vs p q seed w0 hu hv hp hq n1 n2 n3 n4 hok
theorem C_szSMx' (r c r' c' : Int) (A B : Option Addr) (n cap m cap' : Nat) (k q : Int) (w0 : World) (hn : n ≤ cap) (hc : cap ≤ maxLen) (hm : m ≤ cap') (hc' : cap' ≤ maxLen) (hk : 0 ≤ k ∧ k ≤ 1000000000) (hq : (if k - n - m < 0 then -1 else k - n - m) = q) :
    Calls Try.prog 10 #[.agg #[.int .i64 r, .int .i64 c, .slice A n cap, .int .i64 r', .int .i64 c', .slice B m cap'], .int .i64 k] w0 fun e w' => e = .returned (.int .i64 q) ∧ Below w0.heap.size w0 w' := hq ▸ C_szSharedMatrix r c r' c' A B n cap m cap' k w0 hn hc hm hc' hk
theorem scale_len {m col : SMx} {s : Int} : (scaleS m col s).m.a.xs.length ≤ 25 ∧ (scaleS m col s).m.b.xs.length ≤ 25 ∧ (scaleS m col s).os.length ≤ 50 := by
  obtain ⟨⟨r, c, xs⟩, ⟨r', c', ys⟩⟩ := m
  obtain ⟨⟨rc, cc, us⟩, ⟨rc', cc', vs⟩⟩ := col
  by_cases hok : scaleOk ⟨⟨r, c, xs⟩, ⟨r', c', ys⟩⟩ ⟨⟨rc, cc, us⟩, ⟨rc', cc', vs⟩⟩ s = true
  · obtain ⟨N2, C, N, rfl, rfl, rfl, rfl, r1, r2, c1, c2, hRC, hN, hN', hN2, a1, a2, hM, hM', a3, a4, h3, h1, h2, hs⟩ := scale_good hok
    rw [hs]
    dsimp only
    rw [Scl.opened_length]
    refine ⟨?_, ?_, by omega⟩
    · rw [show (Scl.fir _ N).length = N from tab_length _ _]; exact hN2
    · rw [show (Scl.sec _ N).length = N from tab_length _ _]; exact hN2
  · rw [scaleS_not (by simpa using hok)]
    exact ⟨Nat.zero_le _, Nat.zero_le _, Nat.zero_le _⟩
end Go.Proofs.Ytjihfeffonadmaa
