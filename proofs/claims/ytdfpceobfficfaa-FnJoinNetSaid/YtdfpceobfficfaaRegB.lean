/-
  As Reg, where places of elements may be reckoned late, too. A region whose order of evaluation is open, walked in one order: operations that yield the same value in every world that meets S are taken as soon as they may come up; the others must come up one by one. No statement about the program is made here.
-/
import Derived.Test.YtdfpceobfficfaaReg
namespace Go.Proofs.Ytdfpceobfficfaa
set_option linter.unusedSimpArgs false
set_option linter.unusedVariables false
set_option linter.unusedSectionVars false
namespace RB
open Go Go.RowKit

section
variable {P : Program} {ops : Array Oper} {Q : Exit → Act → World → Prop} {S : World → Prop}

/-- Operations that leave the world alone, whatever they yield. -/
def calmOp : Op → Bool
  | .move _ | .assign _ | .pick .. | .build .. | .load .. | .binOp .. | .unOp .. | .fieldAddr .. | .field .. | .indexAddr .. | .index .. | .extract .. | .slice .. | .convert .. | .makeInterface .. | .makeFunc .. | .nilCheck _ => true
  | .call { callee := .builtin .len, .. } | .call { callee := .builtin .cap, .. } | .call { callee := .builtin .min, .. } | .call { callee := .builtin .max, .. } => true
  | _ => false

def calmAt (ops : Array Oper) (i : Nat) : Bool := match ops[i]? with | some o => calmOp o.op | none => false

def isAddrAt (ops : Array Oper) (i : Nat) : Bool := match ops[i]? with | some o => (match o.op with | .fieldAddr .. => true | .indexAddr .. => true | _ => false) | none => false
/-- Operation j waits for i. -/
def bindsOn (ops : Array Oper) (j i : Nat) : Bool := match ops[j]? with
  | some o => o.after.any fun e => Region.binds .any e && e.on == i
  | none => false
/-- A place is reckoned when all that reads has been read. -/
def lateOp (ops : Array Oper) (i : Nat) : Bool := isAddrAt ops i && (List.range ops.size).all fun k => k == i || bindsOn ops i k || !calmAt ops k || isAddrAt ops k
/-- Operation j waits for every other one of its region (but for those that may come late, and those that act). -/
def sinkOp (ops : Array Oper) (j : Nat) : Bool :=
  (List.range ops.size).all fun i => i == j || bindsOn ops j i || !calmAt ops i || lateOp ops i
def lateFits (ops : Array Oper) : Bool := (List.range ops.size).all fun i => !lateOp ops i || sinkOp ops i
theorem lateFits_spec (h : lateFits ops = true) {i : Nat} (hi : i < ops.size) (hl : lateOp ops i = true) : sinkOp ops i = true := by
  have := List.all_eq_true.1 h i (List.mem_range.2 hi)
  simpa [hl] using this
theorem sinkOp_no {i j : Nat} {oj : Oper} (hj : ops[j]? = some oj) (hi : i < ops.size) (hne : j ≠ i) (hc : calmAt ops i = true) (hl : lateOp ops i = false) (hno : ∀ e ∈ oj.after, Region.binds .any e = true → e.on ≠ i) : sinkOp ops j = false := by
  rw [← Bool.not_eq_true]
  intro h
  have h1 := List.all_eq_true.1 h i (List.mem_range.2 hi)
  simp only [hc, hl, bindsOn, hj, Bool.or_eq_true, beq_iff_eq, Bool.not_true, Bool.or_false] at h1
  rcases h1 with h1 | h1
  · exact hne h1.symm
  · obtain ⟨e, he, hb⟩ := Array.any_eq_true'.1 h1
    simp only [Bool.and_eq_true, beq_iff_eq] at hb
    exact hno e he hb.1 hb.2

/-- Whatever order is picked from here on; S holds behind every operation but one that waits for all others. -/
def wpAnyS (P : Program) (ops : Array Oper) (Q : Exit → Act → World → Prop) (S : World → Prop) : Nat → Array Bool → Act → World → Prop
  | 0, listed, a, w => Region.ready .any ops listed = [] ∧ Q .normal a w
  | fuel + 1, listed, a, w =>
    (Region.ready .any ops listed = [] → Q .normal a w) ∧
    ∀ i ∈ Region.ready .any ops listed, wpOp P ops Q i (fun a' w' => (sinkOp ops i = false → S w') ∧ wpAnyS P ops Q S fuel (listed.setIfInBounds i true) a' w') a w

theorem wpAnyS_any : ∀ (fuel : Nat) (listed : Array Bool) (a : Act) (w : World), wpAnyS P ops Q S fuel listed a w → wpAny P .any ops Q fuel listed a w
  | 0, _, _, _, h => h
  | fuel + 1, _, _, _, h => ⟨h.1, fun i hi => wpOp_mono (fun a' w' h' => wpAnyS_any fuel _ a' w' h'.2) (h.2 i hi)⟩

theorem wpAnyS_first {i : Nat} {oi : Oper} {v : Value} (T : World → Prop) (hi : ops[i]? = some oi) (hsel : ∀ (j : Nat) (o : Oper) cs b, ops[j]? = some o → o.op ≠ .select cs b)
    (hQ : ∀ c a w, Q (.panic c) (a.put oi.dst v) w → Q (.panic c) a w)
    (hT : ∀ (j : Nat) (oj : Oper) (w' : World), ops[j]? = some oj → j ≠ i → (∀ e ∈ oj.after, Region.binds .any e = true → e.on ≠ i) → (sinkOp ops j = false → S w') → T w')
    (hpost : ∀ w', T w' → sinkOp ops i = false → S w') (fuel : Nat) :
    ∀ (listed : Array Bool) (a : Act) (w : World),
      (∀ j oj, ops[j]? = some oj → j ≠ i → listed.getD j true = false → (∀ e ∈ oj.after, Region.binds .any e = true → e.on ≠ i) → oi.apart ops oj = true) →
      i ∈ Region.ready .any ops listed → YieldsIf P ops T oi v a → T w →
      wpAnyS P ops Q S fuel (listed.setIfInBounds i true) (a.put oi.dst v) w → wpAnyS P ops Q S (fuel + 1) listed a w := by
  induction fuel with
  | zero =>
    intro listed a w _ hr hy hS H
    refine ⟨fun h => (by rw [h] at hr; cases hr), fun j hj => ?_⟩
    rcases Decidable.em (j = i) with rfl | hji
    · exact hy.wpOp hi hS ⟨fun h => hpost _ hS h, H⟩
    · have := ready_mono hj hji
      rw [H.1] at this
      cases this
  | succ fuel ih =>
    intro listed a w hfree hr hy hS H
    refine ⟨fun h => (by rw [h] at hr; cases hr), fun j hj => ?_⟩
    rcases Decidable.em (j = i) with rfl | hji
    · exact hy.wpOp hi hS ⟨fun h => hpost _ hS h, H⟩
    obtain ⟨hjun, oj, hoj, hall⟩ := mem_ready.1 hj
    have hiun := (mem_ready.1 hr).1
    have hnot : ∀ e ∈ oj.after, Region.binds .any e = true → e.on ≠ i := by
      intro e he hb heq
      have h1 := hall e he hb
      rw [heq] at h1
      rcases Nat.lt_or_ge i listed.size with h' | h'
      · simp [h'] at hiun h1; rw [hiun] at h1; cases h1
      · simp [Array.getElem?_eq_none h'] at h1
    have h2 := wpOp_putIf hoj (hfree j oj hoj hji hjun hnot) (fun cs b => hsel i oi cs b hi) (fun cs b => hsel j oj cs b hoj) hQ hy (H.2 j (ready_mono hj hji))
    have hr' : i ∈ Region.ready .any ops (listed.setIfInBounds j true) := ready_mono hr (Ne.symm hji)
    refine wpOp_mono (fun a' w' h3 => ?_) h2
    obtain ⟨hy', hS', hrest⟩ := h3
    have hrest' : wpAnyS P ops Q S fuel ((listed.setIfInBounds j true).setIfInBounds i true) (a'.put oi.dst v) w' := by
      rw [Array.setIfInBounds_comm _ _ hji]; exact hrest
    have hTw : T w' := hT j oj w' hoj hji hnot hS'
    refine ⟨hS', ih (listed.setIfInBounds j true) a' w' (fun k ok hk hki hun hno => hfree k ok hk hki ?_ hno) hr' hy' hTw hrest'⟩
    rcases Decidable.em (j = k) with rfl | hjk
    · exact hjun
    · rw [getD_set_ne true hjk] at hun; exact hun

theorem wpAnyS_take {i : Nat} {oi : Oper} {v : Value} {fuel : Nat} {listed : Array Bool} {a : Act} {w : World} (hi : ops[i]? = some oi)
    (hs : Region.noSelect ops = true) (hlf : lateFits ops = true) (hc : calmAt ops i = true) (hf : Region.free .any ops listed i = true) (hr : i ∈ Region.ready .any ops listed)
    (hQ : ∀ c a w, Q (.panic c) (a.put oi.dst v) w → Q (.panic c) a w) (hy : YieldsIf P ops (fun w' => lateOp ops i = false → S w') oi v a) (hS : S w)
    (h : wpAnyS P ops Q S fuel (listed.setIfInBounds i true) (a.put oi.dst v) w) : wpAnyS P ops Q S (fuel + 1) listed a w := by
  have hlt : i < ops.size := (Array.getElem?_eq_some_iff.1 hi).1
  refine wpAnyS_first (fun w' => lateOp ops i = false → S w') hi (Region.noSelect_spec hs) hQ (fun j oj w' hoj hji hno hSj hl => hSj (sinkOp_no hoj hlt hji hc hl hno)) (fun w' hT hsk => ?_) fuel listed a w (Region.free_spec hi hf) hr hy (fun _ => hS) h
  cases hl : lateOp ops i with
  | false => exact hT hl
  | true => rw [lateFits_spec hlf hlt hl] at hsk; cases hsk

/-- The orders of a region that are walked: a calm operation that is taken first; or whichever of those that may come up. -/
inductive Tree where
  | fin
  | calm (i : Nat) (t : Tree)
  | act (i : Nat) (t : Tree) (more : Tree)
  | stop

/-- The operations that the branches at this point begin with. -/
def Tree.heads : Tree → List Nat
  | .act i _ more => i :: more.heads
  | _ => []
def Tree.isAct : Tree → Bool
  | .act .. => true
  | _ => false
def Tree.isStop : Tree → Bool
  | .stop => true
  | _ => false
def Tree.depth : Tree → Nat
  | .calm _ t => t.depth + 1
  | .act _ t more => max (t.depth + 1) more.depth
  | _ => 0

/-- The tree is one for this region. (fresh: at a point where a choice begins.) -/
def Tree.fits (ops : Array Oper) : Tree → Bool → Array Bool → Bool
  | .fin, _, listed => (Region.ready .any ops listed).isEmpty
  | .calm i t, _, listed => (Region.ready .any ops listed).contains i && calmAt ops i && Region.free .any ops listed i && Tree.fits ops t true (listed.setIfInBounds i true)
  | .act i t more, fresh, listed =>
    (Region.ready .any ops listed).contains i && (!fresh || (Region.ready .any ops listed).all (fun j => (i :: more.heads).contains j)) && Tree.fits ops t true (listed.setIfInBounds i true) &&
      (more.isStop || more.isAct && Tree.fits ops more false listed)
  | .stop, _, _ => false

/-- The walk along the tree. -/
def wpTree (P : Program) (ops : Array Oper) (Q : Exit → Act → World → Prop) (S : World → Prop) : Tree → Act → World → Prop
  | .fin, a, w => Q .normal a w
  | .calm i t, a, w => S w ∧ ∃ o v, ops[i]? = some o ∧ YieldsIf P ops (fun w' => lateOp ops i = false → S w') o v a ∧ wpTree P ops Q S t (a.put o.dst v) w
  | .act i t more, a, w => wpOp P ops Q i (fun a' w' => (sinkOp ops i = false → S w') ∧ wpTree P ops Q S t a' w') a w ∧ wpTree P ops Q S more a w
  | .stop, _, _ => True

/-- A panic's end does not hang on the frame. -/
def Calm (Q : Exit → Act → World → Prop) : Prop := ∀ c (a : Act) d v w, Q (.panic c) (a.put d v) w → Q (.panic c) a w

theorem wpAnyS_done {listed : Array Bool} {a : Act} {w : World} (hr : Region.ready .any ops listed = []) (h : Q .normal a w) : ∀ f, wpAnyS P ops Q S f listed a w
  | 0 => ⟨hr, h⟩
  | _ + 1 => ⟨fun _ => h, by rw [hr]; simp⟩

theorem wpAnyS_more : ∀ (f : Nat) (listed : Array Bool) (a : Act) (w : World), wpAnyS P ops Q S f listed a w → wpAnyS P ops Q S (f + 1) listed a w
  | 0, listed, a, w, h => ⟨fun _ => h.2, by rw [h.1]; simp⟩
  | f + 1, listed, a, w, h => ⟨h.1, fun i hi => wpOp_mono (fun a' w' h' => ⟨h'.1, wpAnyS_more f _ a' w' h'.2⟩) (h.2 i hi)⟩

theorem wpAnyS_le {f g : Nat} (hle : g ≤ f) {listed : Array Bool} {a : Act} {w : World} (h : wpAnyS P ops Q S g listed a w) : wpAnyS P ops Q S f listed a w := by
  obtain ⟨d, rfl⟩ := Nat.exists_eq_add_of_le hle
  clear hle
  induction d with
  | zero => exact h
  | succ d ih => exact wpAnyS_more _ _ _ _ ih

theorem wpTree_sound (hs : Region.noSelect ops = true) (hlf : lateFits ops = true) (hQ : Calm Q) : ∀ (t : Tree) (f : Nat) (listed : Array Bool) (a : Act) (w : World), wpTree P ops Q S t a w → t.depth ≤ f →
    (Tree.fits ops t true listed = true → wpAnyS P ops Q S f listed a w) ∧
    (∀ b, Tree.fits ops t b listed = true → ∀ i ∈ t.heads, ∃ g, g + 1 ≤ f ∧ wpOp P ops Q i (fun a' w' => (sinkOp ops i = false → S w') ∧ wpAnyS P ops Q S g (listed.setIfInBounds i true) a' w') a w)
  | .fin, f, listed, a, w, h, _ => ⟨fun hf => wpAnyS_done (by simpa [Tree.fits] using hf) h f, fun _ _ i hi => by cases hi⟩
  | .stop, f, listed, a, w, h, _ => ⟨fun hf => by simp [Tree.fits] at hf, fun _ _ i hi => by cases hi⟩
  | .calm i t, f, listed, a, w, h, hd => by
    refine ⟨fun hf => ?_, fun _ _ i hi => by cases hi⟩
    simp only [Tree.fits, Bool.and_eq_true, List.contains_iff_mem] at hf
    obtain ⟨⟨⟨hr, hc⟩, hfree⟩, ht⟩ := hf
    obtain ⟨hS, o, v, ho, hy, hk⟩ := h
    simp only [Tree.depth] at hd
    obtain ⟨f', rfl⟩ : ∃ f', f = f' + 1 := ⟨f - 1, by omega⟩
    exact wpAnyS_take ho hs hlf hc hfree hr (fun c a w hh => hQ c a _ v w hh) hy hS ((wpTree_sound hs hlf hQ t f' _ _ _ hk (by omega)).1 ht)
  | .act i t more, f, listed, a, w, h, hd => by
    simp only [Tree.depth] at hd
    have hd1 : t.depth + 1 ≤ f := by omega
    have hd2 : more.depth ≤ f := by omega
    have heads : ∀ b, Tree.fits ops (.act i t more) b listed = true → ∀ j ∈ (Tree.act i t more).heads, ∃ g, g + 1 ≤ f ∧ wpOp P ops Q j (fun a' w' => (sinkOp ops j = false → S w') ∧ wpAnyS P ops Q S g (listed.setIfInBounds j true) a' w') a w := by
      intro b hf j hj
      simp only [Tree.fits, Bool.and_eq_true, Bool.or_eq_true] at hf
      obtain ⟨⟨⟨_, _⟩, ht⟩, hm⟩ := hf
      simp only [Tree.heads, List.mem_cons] at hj
      rcases hj with rfl | hj
      · obtain ⟨f', rfl⟩ : ∃ f', f = f' + 1 := ⟨f - 1, by omega⟩
        exact ⟨f', Nat.le_refl _, wpOp_mono (fun a' w' h' => ⟨h'.1, (wpTree_sound hs hlf hQ t f' _ _ _ h'.2 (by omega)).1 ht⟩) h.1⟩
      · rcases hm with hm | hm
        · exfalso
          cases more <;> simp_all [Tree.isStop, Tree.heads]
        · exact (wpTree_sound hs hlf hQ more f listed a w h.2 hd2).2 false hm.2 j hj
    refine ⟨fun hf => ?_, heads⟩
    have hf' := hf
    simp only [Tree.fits, Bool.and_eq_true, Bool.not_true, Bool.false_or, List.all_eq_true, List.contains_iff_mem] at hf'
    have hall := hf'.1.1.2
    obtain ⟨f', rfl⟩ : ∃ f', f = f' + 1 := ⟨f - 1, by omega⟩
    refine ⟨fun h0 => ?_, fun j hj => ?_⟩
    · have h1 := hf'.1.1.1
      rw [h0] at h1
      cases h1
    · obtain ⟨g, hg, hw⟩ := heads true hf j (hall j hj)
      exact wpOp_mono (fun a' w' h' => ⟨h'.1, wpAnyS_le (by omega) h'.2⟩) hw

/-- A region that draws, walked along a tree of orders. -/
theorem wp_region_tree {id : Nat} {a : Act} {w : World} (t : Tree) (hm : P.follows .mixedOrders = true) (hs : Region.noSelect ops = true) (hf : (Tree.fits ops t true (Array.replicate ops.size false) && Nat.ble t.depth ops.size && lateFits ops) = true) (hQ : Calm Q)
    (h : wpTree P ops Q S t a w.drew) : (Code.region id ops true).wp P Q a w :=
  by
    simp only [Bool.and_eq_true] at hf
    exact wp_region_any hm (wpAnyS_any _ _ _ _ ((wpTree_sound hs hf.2 hQ t _ _ a _ h (Nat.le_of_ble_eq_true hf.1.2)).1 hf.1.1))

theorem tree_fin {a : Act} {w : World} (h : Q .normal a w) : wpTree P ops Q S .fin a w := h
theorem at_of_drop {i : Nat} {o : Oper} {ro : List Oper} (h : ops.toList.drop i = o :: ro) : ops[i]? = some o := by
  have := congrArg (fun l => l[0]?) h
  simpa using this
theorem tree_calm {i : Nat} {o : Oper} {ro : List Oper} {v : Value} {t : Tree} {a : Act} {w : World} (hS : S w) (ho : ops.toList.drop i = o :: ro) (hl : lateOp ops i = false) (hw : Region.wanted o (yielded ops a.tmps) = true)
    (hv : ∀ w', S w' → (execOp a.eval o).run P w' = .ok (.value v) w') (k : wpTree P ops Q S t (a.put o.dst v) w) : wpTree P ops Q S (.calm i t) a w :=
  ⟨hS, o, v, at_of_drop ho, .inl ⟨hw, fun w' h => hv w' (h hl)⟩, k⟩
/-- What yields the same in whatever world. -/
theorem tree_any {i : Nat} {o : Oper} {ro : List Oper} {v : Value} {t : Tree} {a : Act} {w : World} (hS : S w) (ho : ops.toList.drop i = o :: ro) (hw : Region.wanted o (yielded ops a.tmps) = true)
    (hv : ∀ w', (execOp a.eval o).run P w' = .ok (.value v) w') (k : wpTree P ops Q S t (a.put o.dst v) w) : wpTree P ops Q S (.calm i t) a w :=
  ⟨hS, o, v, at_of_drop ho, .inl ⟨hw, fun w' _ => hv w'⟩, k⟩
theorem tree_skip {i : Nat} {o : Oper} {ro : List Oper} {t : Tree} {a : Act} {w : World} (hS : S w) (ho : ops.toList.drop i = o :: ro) (hw : Region.wanted o (yielded ops a.tmps) = false)
    (k : wpTree P ops Q S t (a.put o.dst undef) w) : wpTree P ops Q S (.calm i t) a w :=
  ⟨hS, o, undef, at_of_drop ho, .inr ⟨hw, rfl⟩, k⟩
theorem tree_stop {a : Act} {w : World} : wpTree P ops Q S .stop a w := trivial
/-- An operation that acts; S behind it. -/
theorem tree_act {i : Nat} {o : Oper} {ro : List Oper} {t more : Tree} {a : Act} {w : World} (ho : ops.toList.drop i = o :: ro) (hw : Region.wanted o (yielded ops a.tmps) = true)
    (h : ∀ K : Act → World → Prop, Shut (∀ a' w', (sinkOp ops i = false → S w') → wpTree P ops Q S t a' w' → K a' w') → o.wp P a w K Q) (hm : wpTree P ops Q S more a w) : wpTree P ops Q S (.act i t more) a w := by
  refine ⟨wpOp_step (at_of_drop ho) fun K hK => ?_, hm⟩
  rw [if_pos hw]
  exact h K (fun a' w' h1 h2 => hK a' w' ⟨h1, h2⟩)
theorem tree_actSkip {i : Nat} {o : Oper} {ro : List Oper} {t more : Tree} {a : Act} {w : World} (ho : ops.toList.drop i = o :: ro) (hw : Region.wanted o (yielded ops a.tmps) = false)
    (hS : S w) (k : wpTree P ops Q S t (a.put o.dst undef) w) (hm : wpTree P ops Q S more a w) : wpTree P ops Q S (.act i t more) a w := by
  refine ⟨wpOp_step (at_of_drop ho) fun K hK => ?_, hm⟩
  rw [if_neg (by simp [hw])]
  exact hK _ _ ⟨fun _ => hS, k⟩
end

theorem sink_no {b : Bool} {p : Prop} (hb : b = true) : b = false → p := fun h => by rw [hb] at h; cases h
theorem subL {L0 L M0 M : List Ent} (h0 : Hid (L0 = M0)) (h : Hid (L = M)) (hs : M0.Sublist M) : L0.Sublist L := by rw [h0.out, h.out]; exact hs
attribute [irreducible] wpTree
end RB
end Go.Proofs.Ytdfpceobfficfaa
