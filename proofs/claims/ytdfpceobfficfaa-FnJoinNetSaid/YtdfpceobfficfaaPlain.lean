/-
  Plain laws of checked numbers: sums and multiples can be opened, changes cannot. No program in sight.
-/
import Derived.Test.YtdfpceobfficfaaPure
namespace Go.Proofs.Ytdfpceobfficfaa
set_option linter.unusedSimpArgs false
set_option linter.unusedVariables false
set_option linter.unusedSectionVars false
open Go Go.RowKit

theorem ro_eq {x y : Int} : ro x = ro y ↔ (x - y) % 4096 = 0 := by unfold ro; omega
theorem ro_ro_add (a b : Int) : ro (ro a + b) = ro (a + b) := by unfold ro; omega
theorem ro_add_ro (a b : Int) : ro (a + ro b) = ro (a + b) := by unfold ro; omega
theorem ro_ro (a : Int) : ro (ro a) = ro a := by unfold ro; omega
theorem ro_ro_mul (a b : Int) : ro (ro a * b) = ro (a * b) := by
  unfold ro
  rw [Int.mul_emod, Int.emod_emod, ← Int.mul_emod]
theorem ro_sum (p q : Int) : ro (ro p + ro q) = ro (p + q) := by unfold ro; omega
theorem ro_sum_mul (p q k : Int) : ro ((ro p + ro q) * k) = ro ((p + q) * k) := by rw [← ro_ro_mul, ro_sum, ro_ro_mul]
theorem addR_ok {a b : Int} (ha : rv a = true) (hb : rv b = true) : addR a b = ro (a + b) := by simp [addR, ha, hb]
theorem subR_ok {a b : Int} (ha : rv a = true) (hb : rv b = true) : subR a b = ro (a - b) := by simp [subR, ha, hb]
theorem mulR_ok {a b : Int} (ha : rv a = true) (hb : rv b = true) : mulR a b = ro (a * b) := by simp [mulR, ha, hb]
theorem sh_ok {s : Sh} : s.ok = true ↔ rv s.a = true ∧ rv s.b = true := by simp [Sh.ok]
theorem join_ok {s : Sh} (h : s.ok = true) : joinS s = ro (s.a + s.b) := by
  have := sh_ok.1 h
  exact addR_ok this.1 this.2
theorem none_not : Sh.none_.ok = false := rfl
theorem ck_none_not : Ck.none_.ok = false := rfl
theorem key_rv {k : Int} (h : keyOk k = true) : rv k = true := by simp only [keyOk, Bool.and_eq_true] at h; exact h.1
theorem open_iff {c : Ck} {k : Int} : openOk c k = true ↔ c.v.ok = true ∧ c.m.ok = true ∧ keyOk k = true ∧ ro (c.m.a + c.m.b) = ro ((c.v.a + c.v.b) * k) := by
  constructor
  · intro h
    simp only [openOk, Ck.ok, Bool.and_eq_true, decide_eq_true_eq] at h
    obtain ⟨⟨⟨h1, h2⟩, h3⟩, h4⟩ := h
    rw [join_ok h2, mulR_ok (join_bd h1) (key_rv h3), join_ok h1, ro_ro_mul] at h4
    exact ⟨h1, h2, h3, h4⟩
  · rintro ⟨h1, h2, h3, h4⟩
    simp only [openOk, Ck.ok, Bool.and_eq_true, decide_eq_true_eq]
    rw [join_ok h2, mulR_ok (join_bd h1) (key_rv h3), join_ok h1, ro_ro_mul]
    exact ⟨⟨⟨h1, h2⟩, h3⟩, h4⟩
theorem open_val {c : Ck} {k : Int} (h : openOk c k = true) : openC c k = joinS c.v := by simp [openC, h]

theorem addS_ok {x y : Sh} (hx : x.ok = true) (hy : y.ok = true) : addS x y = ⟨ro (x.a + y.a), ro (x.b + y.b)⟩ ∧ (addS x y).ok = true := by
  have h1 := sh_ok.1 hx
  have h2 := sh_ok.1 hy
  have e : addS x y = ⟨ro (x.a + y.a), ro (x.b + y.b)⟩ := by simp [addS, hx, hy, addR, h1, h2]
  rw [e]
  exact ⟨rfl, by simp [Sh.ok, rv_ro]⟩
theorem addS_not {x y : Sh} (hy : y.ok = false) : addS x y = Sh.none_ := by simp [addS, hy]
theorem addS_not' {x y : Sh} (hx : x.ok = false) : addS x y = Sh.none_ := by simp [addS, hx]
theorem timesK_ok {x : Sh} {k : Int} (hx : x.ok = true) (hk : rv k = true) : timesK x k = ⟨ro (x.a * k), ro (x.b * k)⟩ ∧ (timesK x k).ok = true := by
  have h1 := sh_ok.1 hx
  have e : timesK x k = ⟨ro (x.a * k), ro (x.b * k)⟩ := by simp [timesK, hx, hk, mulR, h1]
  rw [e]
  exact ⟨rfl, by simp [Sh.ok, rv_ro]⟩
theorem addK_ok {x : Sh} {k : Int} (hx : x.ok = true) (hk : rv k = true) : addK x k = ⟨ro (x.a + k), x.b⟩ ∧ (addK x k).ok = true := by
  have h1 := sh_ok.1 hx
  have e : addK x k = ⟨ro (x.a + k), x.b⟩ := by simp [addK, hx, hk, addR, h1]
  rw [e]
  exact ⟨rfl, by simp [Sh.ok, rv_ro, h1.2]⟩
theorem join_addS {x y : Sh} (hx : x.ok = true) (hy : y.ok = true) : joinS (addS x y) = addR (joinS x) (joinS y) := by
  obtain ⟨e, ho⟩ := addS_ok hx hy
  rw [join_ok ho, addR_ok (join_bd hx) (join_bd hy), join_ok hx, join_ok hy, e]
  show ro (ro (x.a + y.a) + ro (x.b + y.b)) = ro (ro (x.a + x.b) + ro (y.a + y.b))
  unfold ro; omega
theorem join_timesK {x : Sh} {k : Int} (hx : x.ok = true) (hk : rv k = true) : joinS (timesK x k) = mulR (joinS x) k := by
  obtain ⟨e, ho⟩ := timesK_ok hx hk
  rw [join_ok ho, mulR_ok (join_bd hx) hk, join_ok hx, e, ro_ro_mul, Int.add_mul]
  show ro (ro (x.a * k) + ro (x.b * k)) = ro (x.a * k + x.b * k)
  rw [ro_ro_add, ro_add_ro]

/-- Sums of checked numbers are checked. -/
theorem add_opens {a b : Ck} {k : Int} (ha : openOk a k = true) (hb : openOk b k = true) : openOk (addC a b) k = true ∧ openC (addC a b) k = addR (openC a k) (openC b k) := by
  obtain ⟨a1, a2, hk, ea⟩ := open_iff.1 ha
  obtain ⟨b1, b2, _, eb⟩ := open_iff.1 hb
  obtain ⟨ev, ov⟩ := addS_ok a1 b1
  obtain ⟨em, om⟩ := addS_ok a2 b2
  have h : openOk (addC a b) k = true := by
    refine open_iff.2 ⟨ov, om, hk, ?_⟩
    show ro ((addS a.m b.m).a + (addS a.m b.m).b) = ro (((addS a.v b.v).a + (addS a.v b.v).b) * k)
    rw [em, ev]
    show ro (ro (a.m.a + b.m.a) + ro (a.m.b + b.m.b)) = ro ((ro (a.v.a + b.v.a) + ro (a.v.b + b.v.b)) * k)
    rw [ro_sum, ro_sum_mul]
    rw [show a.v.a + b.v.a + (a.v.b + b.v.b) = (a.v.a + a.v.b) + (b.v.a + b.v.b) by omega, Int.add_mul]
    generalize (a.v.a + a.v.b) * k = p at *
    generalize (b.v.a + b.v.b) * k = q at *
    unfold ro at *
    omega
  exact ⟨h, by rw [open_val h, open_val ha, open_val hb]; exact join_addS a1 b1⟩
/-- If the first can be opened and the second cannot, the sum cannot. -/
theorem add_not {a b : Ck} {k : Int} (ha : openOk a k = true) (hb : openOk b k = false) : openOk (addC a b) k = false := by
  rw [← Bool.not_eq_true]
  intro h
  rw [← Bool.not_eq_true] at hb
  apply hb
  obtain ⟨a1, a2, hk, ea⟩ := open_iff.1 ha
  obtain ⟨c1, c2, _, ec⟩ := open_iff.1 h
  have b1 : b.v.ok = true := by
    rw [← Bool.not_eq_false]
    intro hn
    have e : (addC a b).v = Sh.none_ := addS_not hn
    rw [e, none_not] at c1
    cases c1
  have b2 : b.m.ok = true := by
    rw [← Bool.not_eq_false]
    intro hn
    have e : (addC a b).m = Sh.none_ := addS_not hn
    rw [e, none_not] at c2
    cases c2
  refine open_iff.2 ⟨b1, b2, hk, ?_⟩
  replace ec : ro ((addS a.m b.m).a + (addS a.m b.m).b) = ro (((addS a.v b.v).a + (addS a.v b.v).b) * k) := ec
  rw [(addS_ok a2 b2).1, (addS_ok a1 b1).1] at ec
  replace ec : ro (ro (a.m.a + b.m.a) + ro (a.m.b + b.m.b)) = ro ((ro (a.v.a + b.v.a) + ro (a.v.b + b.v.b)) * k) := ec
  rw [ro_sum, ro_sum_mul] at ec
  rw [show a.v.a + b.v.a + (a.v.b + b.v.b) = (a.v.a + a.v.b) + (b.v.a + b.v.b) by omega, Int.add_mul] at ec
  generalize (a.v.a + a.v.b) * k = p at *
  generalize (b.v.a + b.v.b) * k = q at *
  unfold ro at *
  omega
/-- Multiples of checked numbers are checked. -/
theorem times_opens {a : Ck} {n k : Int} (ha : openOk a k = true) (hn : rv n = true) : openOk (timesC a n) k = true ∧ openC (timesC a n) k = mulR (openC a k) n := by
  obtain ⟨a1, a2, hk, ea⟩ := open_iff.1 ha
  obtain ⟨ev, ov⟩ := timesK_ok a1 hn
  obtain ⟨em, om⟩ := timesK_ok a2 hn
  have h : openOk (timesC a n) k = true := by
    refine open_iff.2 ⟨ov, om, hk, ?_⟩
    show ro ((timesK a.m n).a + (timesK a.m n).b) = ro (((timesK a.v n).a + (timesK a.v n).b) * k)
    rw [em, ev]
    show ro (ro (a.m.a * n) + ro (a.m.b * n)) = ro ((ro (a.v.a * n) + ro (a.v.b * n)) * k)
    rw [ro_sum, ro_sum_mul, ← Int.add_mul, ← Int.add_mul]
    rw [← ro_ro_mul (a.m.a + a.m.b), ea, ro_ro_mul, Int.mul_right_comm]
  exact ⟨h, by rw [open_val h, open_val ha]; exact join_timesK a1 hn⟩

theorem odd_cancel {d k : Int} (hk : keyOk k = true) (h : (d * k) % 4096 = 0) : d % 4096 = 0 := by
  simp only [keyOk, Bool.and_eq_true, decide_eq_true_eq] at hk
  obtain ⟨hr, h2⟩ := hk
  have hb := rv_bd hr
  obtain ⟨m, rfl⟩ : ∃ m : Nat, k = m := ⟨k.toNat, by omega⟩
  have hc : Nat.Coprime (2 ^ 12) m := by
    refine Nat.Coprime.pow_left 12 ?_
    rw [Nat.coprime_iff_gcd_eq_one]
    have hm : m % 2 = 1 := by omega
    rw [Nat.gcd_rec, hm]
    decide
  have h1 : (4096 : Int) ∣ d * m := Int.dvd_of_emod_eq_zero h
  have h3 : 2 ^ 12 ∣ d.natAbs * m := by
    have := Int.natAbs_dvd_natAbs.2 h1
    rw [Int.natAbs_mul] at this
    simpa using this
  have h4 := hc.dvd_of_dvd_mul_right h3
  have h5 : (4096 : Int) ∣ d := by
    have : ((2 ^ 12 : Nat) : Int) ∣ d := Int.ofNat_dvd_left.2 h4
    exact this
  exact Int.emod_eq_zero_of_dvd h5
/-- A value that is changed cannot be opened. -/
theorem changed_not {c : Ck} {k d : Int} (hc : openOk c k = true) (hd : 0 < d ∧ d < 4096) : openOk ⟨addK c.v d, c.m⟩ k = false := by
  rw [← Bool.not_eq_true]
  intro h
  obtain ⟨c1, c2, hk, e⟩ := open_iff.1 hc
  obtain ⟨_, _, _, e2⟩ := open_iff.1 h
  have hdr : rv d = true := rv_iff.2 ⟨by omega, hd.2⟩
  replace e2 : ro (c.m.a + c.m.b) = ro (((addK c.v d).a + (addK c.v d).b) * k) := e2
  rw [(addK_ok c1 hdr).1] at e2
  replace e2 : ro (c.m.a + c.m.b) = ro ((ro (c.v.a + d) + c.v.b) * k) := e2
  rw [← ro_ro_mul (ro (c.v.a + d) + c.v.b), ro_ro_add, ro_ro_mul, e, show c.v.a + d + c.v.b = d + (c.v.a + c.v.b) by omega, Int.add_mul d] at e2
  have h3 := odd_cancel (d := d) hk (by
    generalize (c.v.a + c.v.b) * k = p at e2
    generalize d * k = q at e2 ⊢
    unfold ro at e2
    omega)
  omega
theorem split_ok {x r : Int} (hx : rv x = true) (hr : rv r = true) : (splitN x r).ok = true ∧ joinS (splitN x r) = x := by
  have hb := rv_bd hx
  have hc := rv_bd hr
  have e : splitN x r = ⟨r, ro (x - r)⟩ := by simp [splitN, hx, hr, subR]
  have ho : (splitN x r).ok = true := by rw [e]; simp [Sh.ok, hr, rv_ro]
  refine ⟨ho, ?_⟩
  rw [join_ok ho, e]
  show ro (r + ro (x - r)) = x
  unfold ro
  omega
theorem ckN_cases (x k : Int) (rs : List Int) : (ckN x k rs = Ck.none_) ∨ (rv x = true ∧ keyOk k = true ∧ ∃ r s, rv r = true ∧ rv s = true ∧ ckN x k rs = ⟨splitN x r, splitN (mulR x k) s⟩) := by
  unfold ckN
  split
  · rename_i h
    simp only [Bool.and_eq_true, decide_eq_true_eq] at h
    obtain ⟨⟨⟨h1, h2⟩, h3⟩, h4⟩ := h
    match rs, h3 with
    | [r, s], _ =>
      simp only [List.all_cons, List.all_nil, Bool.and_true, Bool.and_eq_true] at h4
      exact .inr ⟨h1, h2, r, s, h4.1, h4.2, rfl⟩
  · exact .inl rfl
theorem mulR_rv {x k : Int} (hx : rv x = true) (hk : rv k = true) : rv (mulR x k) = true := by rw [mulR_ok hx hk]; exact rv_ro _
/-- Checked numbers can be opened. -/
theorem ckN_opens {x k : Int} {rs : List Int} (h : (ckN x k rs).v.ok = true) : openOk (ckN x k rs) k = true ∧ joinS (ckN x k rs).v = x ∧ rv x = true := by
  rcases ckN_cases x k rs with e | ⟨hx, hk, r, s, hr, hs, e⟩
  · rw [e] at h; cases h
  · rw [e]
    obtain ⟨o1, j1⟩ := split_ok hx hr
    obtain ⟨o2, j2⟩ := split_ok (mulR_rv hx (key_rv hk)) hs
    refine ⟨?_, j1, hx⟩
    simp only [openOk, Ck.ok, o1, o2, hk, j1, j2, Bool.and_self, decide_true]
theorem ckN_not {x k : Int} {rs : List Int} (h : (ckN x k rs).v.ok = false) : ckN x k rs = Ck.none_ := by
  rcases ckN_cases x k rs with e | ⟨hx, hk, r, s, hr, hs, e⟩
  · exact e
  · rw [e] at h
    rw [(split_ok hx hr).1] at h
    cases h
end Go.Proofs.Ytdfpceobfficfaa
