/- PmP RegB JnS -/
import Derived.Test.YtjgfjfjboimgdaaGreatY33
namespace Go.Proofs.YtjgfjfjboimgdaaGreat
set_option linter.unusedSimpArgs false
set_option linter.unusedVariables false
set_option linter.unusedSectionVars false
open Go Go.RowKit
set_option maxHeartbeats 8000000
set_option maxRecDepth 20000
section
theorem mix_parts {a b c : Mx} (h : mixFit a b c = true) : ∃ (Y : Nat) (xa xb xc : List Int), 1 ≤ Y ∧ Y ≤ 5 ∧ a = ⟨Y, Y, xa⟩ ∧ b = ⟨Y, Y, xb⟩ ∧ c = ⟨Y, Y, xc⟩ ∧ xa.length = Y * Y ∧ xb.length = Y * Y ∧ xc.length = Y * Y ∧ xa.all rv = true ∧ xb.all rv = true ∧ xc.all rv = true := by
  simp only [mixFit, Bool.and_eq_true, decide_eq_true_eq] at h
  obtain ⟨⟨⟨⟨⟨ha, hb⟩, hc⟩, h1⟩, h2, h3⟩, h4, h5⟩ := h
  obtain ⟨ra, ca, xa⟩ := a
  obtain ⟨rb, cb, xb⟩ := b
  obtain ⟨rc, cc, xc⟩ := c
  dsimp only at h1 h2 h3 h4 h5
  subst h2 h3 h4 h5 h1
  obtain ⟨R, C, N, e, r1, r2, c1, c2, n1, n2, _, n3⟩ := Mx.ok_nat ha
  obtain ⟨R', C', N', e', _, _, _, _, n1', n2', _, n3'⟩ := Mx.ok_nat hb
  obtain ⟨R2, C2, N2, e2, _, _, _, _, n4, n5, _, n6⟩ := Mx.ok_nat hc
  dsimp only at e e' e2 n2 n3 n2' n3' n5 n6
  simp only [Mx.mk.injEq, and_true] at e e' e2
  obtain rfl : C = R := by omega
  obtain rfl : R' = C := by omega
  obtain rfl : C' = R' := by omega
  obtain rfl : R2 = C' := by omega
  obtain rfl : C2 = R2 := by omega
  refine ⟨C2, xa, xb, xc, r1, r2, ?_, ?_, ?_, by omega, by omega, by omega, n3, n3', n6⟩
  all_goals
    simp only [Mx.mk.injEq, and_true]
    omega
end
section
namespace RB
section
variable {P : Program} {ops : Array Oper} {Q : Exit → Act → World → Prop} {S : World → Prop}
def calmOp : Op → Bool
  | .move _ | .assign _ | .pick .. | .build .. | .load .. | .binOp .. | .unOp .. | .fieldAddr .. | .field .. | .indexAddr .. | .index .. | .extract .. | .slice .. | .convert .. | .makeInterface .. | .makeFunc .. | .nilCheck _ => true
  | .call { callee := .builtin .len, .. } | .call { callee := .builtin .cap, .. } | .call { callee := .builtin .min, .. } | .call { callee := .builtin .max, .. } => true
  | _ => false
def calmAt (ops : Array Oper) (i : Nat) : Bool := match ops[i]? with | some o => calmOp o.op | none => false
def isAddrAt (ops : Array Oper) (i : Nat) : Bool := match ops[i]? with | some o => (match o.op with | .fieldAddr .. => true | .indexAddr .. => true | _ => false) | none => false
def bindsOn (ops : Array Oper) (j i : Nat) : Bool := match ops[j]? with
  | some o => o.after.any fun e => Region.binds .any e && e.on == i
  | none => false
def lateOp (ops : Array Oper) (i : Nat) : Bool := isAddrAt ops i && (List.range ops.size).all fun k => k == i || bindsOn ops i k || !calmAt ops k || isAddrAt ops k
def sinkOp (ops : Array Oper) (j : Nat) : Bool :=
  (List.range ops.size).all fun i => i == j || bindsOn ops j i || !calmAt ops i || lateOp ops i
def lateFits (ops : Array Oper) : Bool := (List.range ops.size).all fun i => !lateOp ops i || sinkOp ops i
theorem lateFits_spec (h : lateFits ops = true) {i : Nat} (hi : i < ops.size) (hl : lateOp ops i = true) : sinkOp ops i = true := by
  have := List.all_eq_true.1 h i (List.mem_range.2 hi)
  simpa [hl] using this
theorem sinkOp_no {i j : Nat} {oj : Oper} (hj : ops[j]? = some oj) (hi : i < ops.size) (hne : j ≠ i) (hc : calmAt ops i = true) (hl : lateOp ops i = false) (hno : ∀ e ∈ oj.after, Region.binds .any e = true → e.on ≠ i) : sinkOp ops j = false := by
  rw [← Bool.not_eq_true]
  intro h
  have h1 := List.all_eq_true.1 h i (List.mem_range.2 hi)
  simp only [hc, hl, bindsOn, hj, Bool.or_eq_true, beq_iff_eq, Bool.not_true, Bool.or_false] at h1
  rcases h1 with h1 | h1
  · exact hne h1.symm
  · obtain ⟨e, he, hb⟩ := Array.any_eq_true'.1 h1
    simp only [Bool.and_eq_true, beq_iff_eq] at hb
    exact hno e he hb.1 hb.2
def wpAnyS (P : Program) (ops : Array Oper) (Q : Exit → Act → World → Prop) (S : World → Prop) : Nat → Array Bool → Act → World → Prop
  | 0, listed, a, w => Region.ready .any ops listed = [] ∧ Q .normal a w
  | fuel + 1, listed, a, w =>
    (Region.ready .any ops listed = [] → Q .normal a w) ∧
    ∀ i ∈ Region.ready .any ops listed, wpOp P ops Q i (fun a' w' => (sinkOp ops i = false → S w') ∧ wpAnyS P ops Q S fuel (listed.setIfInBounds i true) a' w') a w
theorem wpAnyS_any : ∀ (fuel : Nat) (listed : Array Bool) (a : Act) (w : World), wpAnyS P ops Q S fuel listed a w → wpAny P .any ops Q fuel listed a w
  | 0, _, _, _, h => h
  | fuel + 1, _, _, _, h => ⟨h.1, fun i hi => wpOp_mono (fun a' w' h' => wpAnyS_any fuel _ a' w' h'.2) (h.2 i hi)⟩
theorem wpAnyS_first {i : Nat} {oi : Oper} {v : Value} (T : World → Prop) (hi : ops[i]? = some oi) (hsel : ∀ (j : Nat) (o : Oper) cs b, ops[j]? = some o → o.op ≠ .select cs b)
    (hQ : ∀ c a w, Q (.panic c) (a.put oi.dst v) w → Q (.panic c) a w)
    (hT : ∀ (j : Nat) (oj : Oper) (w' : World), ops[j]? = some oj → j ≠ i → (∀ e ∈ oj.after, Region.binds .any e = true → e.on ≠ i) → (sinkOp ops j = false → S w') → T w')
    (hpost : ∀ w', T w' → sinkOp ops i = false → S w') (fuel : Nat) :
    ∀ (listed : Array Bool) (a : Act) (w : World),
      (∀ j oj, ops[j]? = some oj → j ≠ i → listed.getD j true = false → (∀ e ∈ oj.after, Region.binds .any e = true → e.on ≠ i) → oi.apart ops oj = true) →
      i ∈ Region.ready .any ops listed → YieldsIf P ops T oi v a → T w →
      wpAnyS P ops Q S fuel (listed.setIfInBounds i true) (a.put oi.dst v) w → wpAnyS P ops Q S (fuel + 1) listed a w := by
  induction fuel with
  | zero =>
    intro listed a w _ hr hy hS H
    refine ⟨fun h => (by rw [h] at hr; cases hr), fun j hj => ?_⟩
    rcases Decidable.em (j = i) with rfl | hji
    · exact hy.wpOp hi hS ⟨fun h => hpost _ hS h, H⟩
    · have := ready_mono hj hji
      rw [H.1] at this
      cases this
  | succ fuel ih =>
    intro listed a w hfree hr hy hS H
    refine ⟨fun h => (by rw [h] at hr; cases hr), fun j hj => ?_⟩
    rcases Decidable.em (j = i) with rfl | hji
    · exact hy.wpOp hi hS ⟨fun h => hpost _ hS h, H⟩
    obtain ⟨hjun, oj, hoj, hall⟩ := mem_ready.1 hj
    have hiun := (mem_ready.1 hr).1
    have hnot : ∀ e ∈ oj.after, Region.binds .any e = true → e.on ≠ i := by
      intro e he hb heq
      have h1 := hall e he hb
      rw [heq] at h1
      rcases Nat.lt_or_ge i listed.size with h' | h'
      · simp [h'] at hiun h1; rw [hiun] at h1; cases h1
      · simp [Array.getElem?_eq_none h'] at h1
    have h2 := wpOp_putIf hoj (hfree j oj hoj hji hjun hnot) (fun cs b => hsel i oi cs b hi) (fun cs b => hsel j oj cs b hoj) hQ hy (H.2 j (ready_mono hj hji))
    have hr' : i ∈ Region.ready .any ops (listed.setIfInBounds j true) := ready_mono hr (Ne.symm hji)
    refine wpOp_mono (fun a' w' h3 => ?_) h2
    obtain ⟨hy', hS', hrest⟩ := h3
    have hrest' : wpAnyS P ops Q S fuel ((listed.setIfInBounds j true).setIfInBounds i true) (a'.put oi.dst v) w' := by
      rw [Array.setIfInBounds_comm _ _ hji]; exact hrest
    have hTw : T w' := hT j oj w' hoj hji hnot hS'
    refine ⟨hS', ih (listed.setIfInBounds j true) a' w' (fun k ok hk hki hun hno => hfree k ok hk hki ?_ hno) hr' hy' hTw hrest'⟩
    rcases Decidable.em (j = k) with rfl | hjk
    · exact hjun
    · rw [getD_set_ne true hjk] at hun; exact hun
theorem wpAnyS_take {i : Nat} {oi : Oper} {v : Value} {fuel : Nat} {listed : Array Bool} {a : Act} {w : World} (hi : ops[i]? = some oi)
    (hs : Region.noSelect ops = true) (hlf : lateFits ops = true) (hc : calmAt ops i = true) (hf : Region.free .any ops listed i = true) (hr : i ∈ Region.ready .any ops listed)
    (hQ : ∀ c a w, Q (.panic c) (a.put oi.dst v) w → Q (.panic c) a w) (hy : YieldsIf P ops (fun w' => lateOp ops i = false → S w') oi v a) (hS : S w)
    (h : wpAnyS P ops Q S fuel (listed.setIfInBounds i true) (a.put oi.dst v) w) : wpAnyS P ops Q S (fuel + 1) listed a w := by
  have hlt : i < ops.size := (Array.getElem?_eq_some_iff.1 hi).1
  refine wpAnyS_first (fun w' => lateOp ops i = false → S w') hi (Region.noSelect_spec hs) hQ (fun j oj w' hoj hji hno hSj hl => hSj (sinkOp_no hoj hlt hji hc hl hno)) (fun w' hT hsk => ?_) fuel listed a w (Region.free_spec hi hf) hr hy (fun _ => hS) h
  cases hl : lateOp ops i with
  | false => exact hT hl
  | true => rw [lateFits_spec hlf hlt hl] at hsk; cases hsk
inductive Tree where
  | fin
  | calm (i : Nat) (t : Tree)
  | act (i : Nat) (t : Tree) (more : Tree)
  | stop
def Tree.heads : Tree → List Nat
  | .act i _ more => i :: more.heads
  | _ => []
def Tree.isAct : Tree → Bool
  | .act .. => true
  | _ => false
def Tree.isStop : Tree → Bool
  | .stop => true
  | _ => false
def Tree.depth : Tree → Nat
  | .calm _ t => t.depth + 1
  | .act _ t more => max (t.depth + 1) more.depth
  | _ => 0
def Tree.fits (ops : Array Oper) : Tree → Bool → Array Bool → Bool
  | .fin, _, listed => (Region.ready .any ops listed).isEmpty
  | .calm i t, _, listed => (Region.ready .any ops listed).contains i && calmAt ops i && Region.free .any ops listed i && Tree.fits ops t true (listed.setIfInBounds i true)
  | .act i t more, fresh, listed =>
    (Region.ready .any ops listed).contains i && (!fresh || (Region.ready .any ops listed).all (fun j => (i :: more.heads).contains j)) && Tree.fits ops t true (listed.setIfInBounds i true) &&
      (more.isStop || more.isAct && Tree.fits ops more false listed)
  | .stop, _, _ => false
def wpTree (P : Program) (ops : Array Oper) (Q : Exit → Act → World → Prop) (S : World → Prop) : Tree → Act → World → Prop
  | .fin, a, w => Q .normal a w
  | .calm i t, a, w => S w ∧ ∃ o v, ops[i]? = some o ∧ YieldsIf P ops (fun w' => lateOp ops i = false → S w') o v a ∧ wpTree P ops Q S t (a.put o.dst v) w
  | .act i t more, a, w => wpOp P ops Q i (fun a' w' => (sinkOp ops i = false → S w') ∧ wpTree P ops Q S t a' w') a w ∧ wpTree P ops Q S more a w
  | .stop, _, _ => True
def Calm (Q : Exit → Act → World → Prop) : Prop := ∀ c (a : Act) d v w, Q (.panic c) (a.put d v) w → Q (.panic c) a w
theorem wpAnyS_done {listed : Array Bool} {a : Act} {w : World} (hr : Region.ready .any ops listed = []) (h : Q .normal a w) : ∀ f, wpAnyS P ops Q S f listed a w
  | 0 => ⟨hr, h⟩
  | _ + 1 => ⟨fun _ => h, by rw [hr]; simp⟩
theorem wpAnyS_more : ∀ (f : Nat) (listed : Array Bool) (a : Act) (w : World), wpAnyS P ops Q S f listed a w → wpAnyS P ops Q S (f + 1) listed a w
  | 0, listed, a, w, h => ⟨fun _ => h.2, by rw [h.1]; simp⟩
  | f + 1, listed, a, w, h => ⟨h.1, fun i hi => wpOp_mono (fun a' w' h' => ⟨h'.1, wpAnyS_more f _ a' w' h'.2⟩) (h.2 i hi)⟩
theorem wpAnyS_le {f g : Nat} (hle : g ≤ f) {listed : Array Bool} {a : Act} {w : World} (h : wpAnyS P ops Q S g listed a w) : wpAnyS P ops Q S f listed a w := by
  obtain ⟨d, rfl⟩ := Nat.exists_eq_add_of_le hle
  clear hle
  induction d with
  | zero => exact h
  | succ d ih => exact wpAnyS_more _ _ _ _ ih
theorem wpTree_sound (hs : Region.noSelect ops = true) (hlf : lateFits ops = true) (hQ : Calm Q) : ∀ (t : Tree) (f : Nat) (listed : Array Bool) (a : Act) (w : World), wpTree P ops Q S t a w → t.depth ≤ f →
    (Tree.fits ops t true listed = true → wpAnyS P ops Q S f listed a w) ∧
    (∀ b, Tree.fits ops t b listed = true → ∀ i ∈ t.heads, ∃ g, g + 1 ≤ f ∧ wpOp P ops Q i (fun a' w' => (sinkOp ops i = false → S w') ∧ wpAnyS P ops Q S g (listed.setIfInBounds i true) a' w') a w)
  | .fin, f, listed, a, w, h, _ => ⟨fun hf => wpAnyS_done (by simpa [Tree.fits] using hf) h f, fun _ _ i hi => by cases hi⟩
  | .stop, f, listed, a, w, h, _ => ⟨fun hf => by simp [Tree.fits] at hf, fun _ _ i hi => by cases hi⟩
  | .calm i t, f, listed, a, w, h, hd => by
    refine ⟨fun hf => ?_, fun _ _ i hi => by cases hi⟩
    simp only [Tree.fits, Bool.and_eq_true, List.contains_iff_mem] at hf
    obtain ⟨⟨⟨hr, hc⟩, hfree⟩, ht⟩ := hf
    obtain ⟨hS, o, v, ho, hy, hk⟩ := h
    simp only [Tree.depth] at hd
    obtain ⟨f', rfl⟩ : ∃ f', f = f' + 1 := ⟨f - 1, by omega⟩
    exact wpAnyS_take ho hs hlf hc hfree hr (fun c a w hh => hQ c a _ v w hh) hy hS ((wpTree_sound hs hlf hQ t f' _ _ _ hk (by omega)).1 ht)
  | .act i t more, f, listed, a, w, h, hd => by
    simp only [Tree.depth] at hd
    have hd1 : t.depth + 1 ≤ f := by omega
    have hd2 : more.depth ≤ f := by omega
    have heads : ∀ b, Tree.fits ops (.act i t more) b listed = true → ∀ j ∈ (Tree.act i t more).heads, ∃ g, g + 1 ≤ f ∧ wpOp P ops Q j (fun a' w' => (sinkOp ops j = false → S w') ∧ wpAnyS P ops Q S g (listed.setIfInBounds j true) a' w') a w := by
      intro b hf j hj
      simp only [Tree.fits, Bool.and_eq_true, Bool.or_eq_true] at hf
      obtain ⟨⟨⟨_, _⟩, ht⟩, hm⟩ := hf
      simp only [Tree.heads, List.mem_cons] at hj
      rcases hj with rfl | hj
      · obtain ⟨f', rfl⟩ : ∃ f', f = f' + 1 := ⟨f - 1, by omega⟩
        exact ⟨f', Nat.le_refl _, wpOp_mono (fun a' w' h' => ⟨h'.1, (wpTree_sound hs hlf hQ t f' _ _ _ h'.2 (by omega)).1 ht⟩) h.1⟩
      · rcases hm with hm | hm
        · exfalso
          cases more <;> simp_all [Tree.isStop, Tree.heads]
        · exact (wpTree_sound hs hlf hQ more f listed a w h.2 hd2).2 false hm.2 j hj
    refine ⟨fun hf => ?_, heads⟩
    have hf' := hf
    simp only [Tree.fits, Bool.and_eq_true, Bool.not_true, Bool.false_or, List.all_eq_true, List.contains_iff_mem] at hf'
    have hall := hf'.1.1.2
    obtain ⟨f', rfl⟩ : ∃ f', f = f' + 1 := ⟨f - 1, by omega⟩
    refine ⟨fun h0 => ?_, fun j hj => ?_⟩
    · have h1 := hf'.1.1.1
      rw [h0] at h1
      cases h1
    · obtain ⟨g, hg, hw⟩ := heads true hf j (hall j hj)
      exact wpOp_mono (fun a' w' h' => ⟨h'.1, wpAnyS_le (by omega) h'.2⟩) hw
def qcs (i : Nat) : Nat → Tree → Tree
  | 0, t => t
  | n + 1, t => .calm i (qcs (i + 1) n t)
theorem wp_region_tree {id : Nat} {a : Act} {w : World} (t : Tree) (hm : P.follows .mixedOrders = true) (hs : Region.noSelect ops = true) (hf : (Tree.fits ops t true (Array.replicate ops.size false) && Nat.ble t.depth ops.size && lateFits ops) = true) (hQ : Calm Q)
    (h : wpTree P ops Q S t a w.drew) : (Code.region id ops true).wp P Q a w :=
  by
    simp only [Bool.and_eq_true] at hf
    exact wp_region_any hm (wpAnyS_any _ _ _ _ ((wpTree_sound hs hf.2 hQ t _ _ a _ h (Nat.le_of_ble_eq_true hf.1.2)).1 hf.1.1))
theorem tree_fin {a : Act} {w : World} (h : Q .normal a w) : wpTree P ops Q S .fin a w := h
theorem at_of_drop {i : Nat} {o : Oper} {ro : List Oper} (h : ops.toList.drop i = o :: ro) : ops[i]? = some o := by
  have := congrArg (fun l => l[0]?) h
  simpa using this
theorem tree_calm {i : Nat} {o : Oper} {ro : List Oper} {v : Value} {t : Tree} {a : Act} {w : World} (hS : S w) (ho : ops.toList.drop i = o :: ro) (hl : lateOp ops i = false) (hw : Region.wanted o (yielded ops a.tmps) = true)
    (hv : ∀ w', S w' → (execOp a.eval o).run P w' = .ok (.value v) w') (k : wpTree P ops Q S t (a.put o.dst v) w) : wpTree P ops Q S (.calm i t) a w :=
  ⟨hS, o, v, at_of_drop ho, .inl ⟨hw, fun w' h => hv w' (h hl)⟩, k⟩
theorem tree_any {i : Nat} {o : Oper} {ro : List Oper} {v : Value} {t : Tree} {a : Act} {w : World} (hS : S w) (ho : ops.toList.drop i = o :: ro) (hw : Region.wanted o (yielded ops a.tmps) = true)
    (hv : ∀ w', (execOp a.eval o).run P w' = .ok (.value v) w') (k : wpTree P ops Q S t (a.put o.dst v) w) : wpTree P ops Q S (.calm i t) a w :=
  ⟨hS, o, v, at_of_drop ho, .inl ⟨hw, fun w' _ => hv w'⟩, k⟩
theorem tree_skip {i : Nat} {o : Oper} {ro : List Oper} {t : Tree} {a : Act} {w : World} (hS : S w) (ho : ops.toList.drop i = o :: ro) (hw : Region.wanted o (yielded ops a.tmps) = false)
    (k : wpTree P ops Q S t (a.put o.dst undef) w) : wpTree P ops Q S (.calm i t) a w :=
  ⟨hS, o, undef, at_of_drop ho, .inr ⟨hw, rfl⟩, k⟩
theorem tree_stop {a : Act} {w : World} : wpTree P ops Q S .stop a w := trivial
theorem tree_act {i : Nat} {o : Oper} {ro : List Oper} {t more : Tree} {a : Act} {w : World} (ho : ops.toList.drop i = o :: ro) (hw : Region.wanted o (yielded ops a.tmps) = true)
    (h : ∀ K : Act → World → Prop, Shut (∀ a' w', (sinkOp ops i = false → S w') → wpTree P ops Q S t a' w' → K a' w') → o.wp P a w K Q) (hm : wpTree P ops Q S more a w) : wpTree P ops Q S (.act i t more) a w := by
  refine ⟨wpOp_step (at_of_drop ho) fun K hK => ?_, hm⟩
  rw [if_pos hw]
  exact h K (fun a' w' h1 h2 => hK a' w' ⟨h1, h2⟩)
theorem tree_actSkip {i : Nat} {o : Oper} {ro : List Oper} {t more : Tree} {a : Act} {w : World} (ho : ops.toList.drop i = o :: ro) (hw : Region.wanted o (yielded ops a.tmps) = false)
    (hS : S w) (k : wpTree P ops Q S t (a.put o.dst undef) w) (hm : wpTree P ops Q S more a w) : wpTree P ops Q S (.act i t more) a w := by
  refine ⟨wpOp_step (at_of_drop ho) fun K hK => ?_, hm⟩
  rw [if_neg (by simp [hw])]
  exact hK _ _ ⟨fun _ => hS, k⟩
theorem qCa {i : Nat} {o : Oper} {ro : List Oper} {v : Value} {t : Tree} {a a' : Act} {w : World} (k : wpTree P ops Q S t a' w) (hS : S w := by (first | exact S | (refine S.sub (subL HL0 HL ?_); (repeat (first | exact List.Sublist.refl _ | apply List.Sublist.cons)); done))) (ho : ops.toList.drop i = o :: ro := by exact rfl) (hl : lateOp ops i = false := by decide +kernel) (hw : Region.wanted o (yielded ops a.tmps) = true := by exact rfl) (hv : ∀ w', S w' → (execOp a.eval o).run P w' = .ok (.value v) w' := by (intro w' hS'; (try dsimp only at hS'); go_simp; try rfl)) (ha : a.put o.dst v = a' := by ((try simp only [Act.put, qP0, qP1, qP2]); exact rfl)) : wpTree P ops Q S (.calm i t) a w := tree_calm hS ho hl hw hv (ha ▸ k)
theorem qAn {i : Nat} {o : Oper} {ro : List Oper} {v : Value} {t : Tree} {a a' : Act} {w : World} (k : wpTree P ops Q S t a' w) (hS : S w := by (first | exact S | (refine S.sub (subL HL0 HL ?_); (repeat (first | exact List.Sublist.refl _ | apply List.Sublist.cons)); done))) (ho : ops.toList.drop i = o :: ro := by exact rfl) (hw : Region.wanted o (yielded ops a.tmps) = true := by exact rfl) (hv : ∀ w', (execOp a.eval o).run P w' = .ok (.value v) w' := by (intro w'; go_simp; try rfl)) (ha : a.put o.dst v = a' := by ((try simp only [Act.put, qP0, qP1, qP2]); exact rfl)) : wpTree P ops Q S (.calm i t) a w := tree_any hS ho hw hv (ha ▸ k)
theorem qSk {i : Nat} {o : Oper} {ro : List Oper} {t : Tree} {a a' : Act} {w : World} (k : wpTree P ops Q S t a' w) (hS : S w := by (first | exact S | (refine S.sub (subL HL0 HL ?_); (repeat (first | exact List.Sublist.refl _ | apply List.Sublist.cons)); done))) (ho : ops.toList.drop i = o :: ro := by exact rfl) (hw : Region.wanted o (yielded ops a.tmps) = false := by exact rfl) (ha : a.put o.dst undef = a' := by ((try simp only [Act.put, qP0, qP1, qP2]); exact rfl)) : wpTree P ops Q S (.calm i t) a w := tree_skip hS ho hw (ha ▸ k)
theorem qAs {i : Nat} {o : Oper} {ro : List Oper} {t : Tree} {a a' : Act} {w : World} (k : wpTree P ops Q S t a' w) (hS : S w := by (first | exact S | (refine S.sub (subL HL0 HL ?_); (repeat (first | exact List.Sublist.refl _ | apply List.Sublist.cons)); done))) (ho : ops.toList.drop i = o :: ro := by exact rfl) (hw : Region.wanted o (yielded ops a.tmps) = false := by exact rfl) (ha : a.put o.dst undef = a' := by ((try simp only [Act.put, qP0, qP1, qP2]); exact rfl)) : wpTree P ops Q S (.act i t .stop) a w := tree_actSkip ho hw hS (ha ▸ k) tree_stop
theorem qCaX {i : Nat} {o : Oper} {ro : List Oper} {v : Value} {t : Tree} {a a' : Act} {w : World} (k : wpTree P ops Q S t a' w) (hS : S w := by (first | exact S | (refine S.sub (subL HL0 HL ?_); (repeat (first | exact List.Sublist.refl _ | exact List.nil_sublist _ | exact List.sublist_append_left _ _ | apply List.Sublist.cons_cons | apply List.Sublist.cons)); done))) (ho : ops.toList.drop i = o :: ro := by exact rfl) (hl : lateOp ops i = false := by decide +kernel) (hw : Region.wanted o (yielded ops a.tmps) = true := by exact rfl) (hv : ∀ w', S w' → (execOp a.eval o).run P w' = .ok (.value v) w' := by (intro w' hS'; (try dsimp only at hS'); go_simp; try rfl)) (ha : a.put o.dst v = a' := by ((try simp only [Act.put, qP0, qP1, qP2]); exact rfl)) : wpTree P ops Q S (.calm i t) a w := tree_calm hS ho hl hw hv (ha ▸ k)
theorem qAnX {i : Nat} {o : Oper} {ro : List Oper} {v : Value} {t : Tree} {a a' : Act} {w : World} (k : wpTree P ops Q S t a' w) (hS : S w := by (first | exact S | (refine S.sub (subL HL0 HL ?_); (repeat (first | exact List.Sublist.refl _ | exact List.nil_sublist _ | exact List.sublist_append_left _ _ | apply List.Sublist.cons_cons | apply List.Sublist.cons)); done))) (ho : ops.toList.drop i = o :: ro := by exact rfl) (hw : Region.wanted o (yielded ops a.tmps) = true := by exact rfl) (hv : ∀ w', (execOp a.eval o).run P w' = .ok (.value v) w' := by (intro w'; go_simp; try rfl)) (ha : a.put o.dst v = a' := by ((try simp only [Act.put, qP0, qP1, qP2]); exact rfl)) : wpTree P ops Q S (.calm i t) a w := tree_any hS ho hw hv (ha ▸ k)
theorem qSkX {i : Nat} {o : Oper} {ro : List Oper} {t : Tree} {a a' : Act} {w : World} (k : wpTree P ops Q S t a' w) (hS : S w := by (first | exact S | (refine S.sub (subL HL0 HL ?_); (repeat (first | exact List.Sublist.refl _ | exact List.nil_sublist _ | exact List.sublist_append_left _ _ | apply List.Sublist.cons_cons | apply List.Sublist.cons)); done))) (ho : ops.toList.drop i = o :: ro := by exact rfl) (hw : Region.wanted o (yielded ops a.tmps) = false := by exact rfl) (ha : a.put o.dst undef = a' := by ((try simp only [Act.put, qP0, qP1, qP2]); exact rfl)) : wpTree P ops Q S (.calm i t) a w := tree_skip hS ho hw (ha ▸ k)
theorem qKo {t : Tree} {K : Act → World → Prop} {b : Bool} {a a' : Act} {w : World} (hK : Shut (∀ a' w', (b = false → S w') → wpTree P ops Q S t a' w' → K a' w')) (k : wpTree P ops Q S t a' w) (h1 : b = false → S w := by (first | exact fun _ => S | (intro _; refine S.sub (subL HL0 HL ?_); (repeat (first | exact List.Sublist.refl _ | apply List.Sublist.cons)); done) | (refine sink_no ?_; kernel_rfl))) (ha : a = a' := by ((try simp only [Act.put, qP0, qP1, qP2]); exact rfl)) : K a w := by
  subst ha
  exact hK.out _ _ h1 k
theorem qKoX {t : Tree} {K : Act → World → Prop} {b : Bool} {a a' : Act} {w : World} (hK : Shut (∀ a' w', (b = false → S w') → wpTree P ops Q S t a' w' → K a' w')) (k : wpTree P ops Q S t a' w) (h1 : b = false → S w := by (first | exact fun _ => S | (intro _; refine S.sub (subL HL0 HL ?_); (repeat (first | exact List.Sublist.refl _ | exact List.nil_sublist _ | exact List.sublist_append_left _ _ | apply List.Sublist.cons_cons | apply List.Sublist.cons)); done) | (refine sink_no ?_; kernel_rfl))) (ha : a = a' := by ((try simp only [Act.put, qP0, qP1, qP2]); exact rfl)) : K a w := by
  subst ha
  exact hK.out _ _ h1 k
end
theorem sink_no {b : Bool} {p : Prop} (hb : b = true) : b = false → p := fun h => by rw [hb] at h; cases h
theorem subL {L0 L M0 M : List Ent} (h0 : Hid (L0 = M0)) (h : Hid (L = M)) (hs : M0.Sublist M) : L0.Sublist L := by rw [h0.out, h.out]; exact hs
attribute [irreducible] wpTree
end RB
end
section
theorem jn_perm3 (t m l o : Ent) (A B : List Ent) : (t :: m :: l :: o :: (A ++ B)).Perm (m :: l :: o :: ((A ++ [t]) ++ B)) := by
  rw [List.append_assoc]
  exact (List.perm_append_comm_assoc [t] [m, l, o] (A ++ B)).trans (((((List.perm_append_comm_assoc [t] A B)).cons o).cons l).cons m)
end
end Go.Proofs.YtjgfjfjboimgdaaGreat
