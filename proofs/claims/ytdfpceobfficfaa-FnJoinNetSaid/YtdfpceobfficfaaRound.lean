/-
  A round of a range over a function, walked as plain code: a region of a round's body (no defer statement in it) is met by the plain walk; what the loop's record does. No statement about the program is made here.
-/
import Derived.RangeFuncRecord
import Derived.RangeFuncCalls
import Derived.WalkKit
import Derived.TacticsIn
import Derived.LoopNIn
import Derived.Test.YtdfpceobfficfaaMem
namespace Go.Proofs.Ytdfpceobfficfaa
set_option linter.unusedSimpArgs false
set_option linter.unusedVariables false
set_option linter.unusedSectionVars false
open Go Go.RowKit
section
variable {P : Program} {ops : Array Oper} {Q : Exit → Act → World → Prop} {l n : Nat}
theorem wpIn_of_wp {o : Oper} {a : Act} {w : World} {K K' : Act → World → Prop} (hd : ∀ c, o.op ≠ .defer c) (hk : ∀ a w, K a w → K' a w) (h : o.wp P a w K Q) : o.wpIn (Fence.wide.inRound l) n P a w K' Q := by
  refine ⟨fun _ _ => trivial, ?_⟩
  rw [show o.semAt (Fence.wide.inRound l).round a.eval = execOp a.eval o from Oper.semAt_some l _ _ hd]
  unfold Oper.wp at h
  generalize (execOp a.eval o).run P w = r at h ⊢
  cases r with
  | ok nx w' =>
    cases nx with
    | value v => exact hk _ _ h
    | skip => exact hk _ _ h
    | defer d => exact hk _ _ h
    | enter f args =>
      refine ⟨fun h => (by cases h), (callsIn_wide.2 (Calls.mono h ?_)).inRound l⟩
      intro e w' h
      cases e with
      | returned v => exact hk _ _ h
      | panicked c => exact h
      | outgrown => exact h
    | row s args => 
      refine ⟨fun h => (by cases h), ?_⟩
      have h' : Rows P s args w' fun v w'' => K (a.put o.dst v) w'' := h
      intro c cs _
      obtain ⟨v, w2, h1, h2⟩ := h' c cs
      exact ⟨v, w2, hk _ _ h1, stepsIn_wide.2 h2⟩
    | _ => exact h.elim
  | halt hl w' =>
    cases hl with
    | panic v => exact h
    | _ => exact h.elim
theorem wpListIn_of (hnl : ¬ LetsOut Q) : ∀ (os : List Oper) (a : Act) (w : World), (∀ o ∈ os, ∀ c, o.op ≠ .defer c) → wpList P ops Q os a w → wpListIn (Fence.wide.inRound l) n P ops Q os a w
  | [], _, _, _, h => h
  | o :: rest, a, w, hd, h => by
    unfold wpList at h
    unfold wpListIn
    split at h
    · rename_i hw
      rw [if_pos hw]
      rcases h with h | h
      · exact wpIn_of_wp (hd o (List.mem_cons_self ..)) (fun a' w' h' => wpListIn_of hnl rest a' w' (fun o ho => hd o (List.mem_cons_of_mem _ ho)) h') h
      · exact absurd h.2 hnl
    · rename_i hw
      rw [if_neg hw]
      exact ⟨fun _ _ => trivial, wpListIn_of hnl rest _ _ (fun o ho => hd o (List.mem_cons_of_mem _ ho)) h⟩
def noDefers (os : List Oper) : Bool := os.all fun o => match o.op with | .defer _ => false | _ => true
theorem noDefers_spec {os : List Oper} (h : noDefers os = true) : ∀ o ∈ os, ∀ c, o.op ≠ .defer c := by
  intro o ho c e
  have := List.all_eq_true.1 h o ho
  rw [e] at this
  cases this
/-- A region of a round, by the plain walk of its operations. -/
theorem wpIn_region_plain {id : Nat} {os : List Oper} {a : Act} {w : World} (hd : noDefers os = true) (hnl : ¬ LetsOut Q) (h : wpList P os.toArray Q os a w) : (Code.region id os.toArray false).wpIn (Fence.wide.inRound l) n P Q a w :=
  wpIn_region_lit (wpListIn_of hnl os a w (noDefers_spec hd) h)
theorem letsOut_then {f : Act → World → Prop} {Q : Exit → Act → World → Prop} (h : ¬ LetsOut Q) : ¬ LetsOut (Exit.then f Q) := h
theorem letsOut_block {id : Nat} {Q : Exit → Act → World → Prop} (h : ¬ LetsOut Q) : ¬ LetsOut (Exit.inBlock id Q) := h
theorem letsOut_round {l : Nat} {R : Ending → World → Prop} : ¬ LetsOut (roundPost P l R) := fun ⟨_, _, h⟩ => h
theorem letsOut_false : ¬ LetsOut (fun _ _ _ => False) := fun ⟨_, _, h⟩ => h
end
/-- A loop whose rounds are counted beside the world. -/
theorem wpIn_loop_count {F : Fence} {n : Nat} {P : Program} {Q : Exit → Act → World → Prop} {a : Act} {w : World} {c : Code} (I : Nat → Act → World → Prop) (m : Nat) (h0 : I 0 a w)
    (round : ∀ k a w, k ≤ m → I k a w → c.wpIn F n P (Exit.then (fun a' w' => k < m ∧ I (k + 1) a' w') Q) a w) : (Code.loop c).wpIn F n P Q a w := by
  have key : ∀ j k a w, k + j = m → I k a w → Code.roundsIn F n P c Q (j + 1) a w := by
    intro j
    induction j with
    | zero =>
      intro k a w hk hI
      refine wpIn_mono (round k a w (by omega) hI) fun e a' w' q => ?_
      cases e with
      | normal => exact absurd q.1 (by omega)
      | _ => exact q
    | succ j ih =>
      intro k a w hk hI
      refine wpIn_mono (round k a w (by omega) hI) fun e a' w' q => ?_
      cases e with
      | normal => exact ih (k + 1) a' w' (by omega) q.2
      | _ => exact q
  exact wpIn_loop_rounds (m + 1) (key m 0 a w (by omega) h0)
section
variable {w0 w : World} {L : List Ent} {P : Program}
/-- A new block that is no cells (a loop's record, a list of deferred calls). -/
theorem St.newObj (S : St w0 w L) (o : Obj) : St w0 (w.alloc o) (.obj w.heap.size o :: L) := by
  have hb : Below w.heap.size w (w.alloc o) := (Below.refl _ _).alloc (Nat.le_refl _) _
  have h1 := S.grow hb
  refine ⟨h1.below, fun e he => ?_, List.pairwise_cons.2 ⟨fun f hf k hk hk' => ?_, S.apart⟩⟩
  · rcases List.mem_cons.1 he with rfl | he
    · exact ⟨S.below.size, World.alloc_heap_new w o⟩
    · exact h1.own e he
  · simp only [Ent.blk, Option.some.injEq] at hk
    have b := (S.lt hf hk').2
    omega
/-- Such a block is turned. -/
theorem St.putObj {p g : Nat} {o : Obj} (S : St w0 w L) (h : At L p (.obj g o)) (o' : Obj) : St w0 (w.putObj g o') (L.set p (.obj g o')) := by
  have hb := S.own _ h.mem
  have hlt := (S.lt h.mem (k := g) rfl).2
  refine S.turn h ⟨rfl, rfl, rfl, by simp, fun k _ hk => World.putObj_heap_other (fun e => hk (by simp [Ent.blk, e]))⟩ ⟨hb.1, World.putObj_heap_same hlt⟩ (.inl rfl)
/-- The loop's two blocks are laid. -/
theorem loop_start {F : Fence} {n : Nat} {f : FuncId} {args : Array Value} {R : Loop} {post : Ending → World → Prop} (S : St w0 w L)
    (h : ∀ W1, St w0 W1 (.obj (w.heap.size + 1) (.loop R) :: .obj w.heap.size (.deferred (some [])) :: L) → CallsIn F n P f args W1 post) :
    CallsIn F n P f args ((w.alloc (.deferred (some []))).alloc (.loop R)) post := by
  refine h _ ?_
  have S1 := (S.newObj (.deferred (some []))).newObj (.loop R)
  rwa [World.size_alloc] at S1
set_option maxHeartbeats 4000000 in
/-- The statement 'for .. := range g', g a closure, in a function that is no round of another loop. -/
theorem wp_rangeFunc_out {g : Operand} {ps : Array Tmp} {assign body : Code} {Q : Exit → Act → World → Prop} {a : Act} (S : St w0 w L) (gf : FuncId) (caps : Array Value) (hg : a.eval g = .func (.func gf) #[] caps)
    (hi : ∀ (W : World) (l : Nat), (invoke (.fn (.func gf) caps) #[.func (.yield l) #[] #[]]).run P W = .ok (.enter gf (#[.func (.yield l) #[] #[]] ++ caps)) W)
    (h : ∀ fn W1, St w0 W1 (.obj (w.heap.size + 1) (.loop { state := .ready, pending := none, fn := fn, tmps := a.tmps, params := ps, assign := assign, body := body, defers := w.heap.size }) :: .obj w.heap.size (.deferred (some [])) :: L) →
      CallsIn Fence.wide 1 P gf (#[.func (.yield (w.heap.size + 1)) #[] #[]] ++ caps) W1 (rangePost Fence.wide 2 P (w.heap.size + 1) Q { a with defers := [{ target := .collected w.heap.size, args := #[] }] ++ a.defers })) :
    (Code.rangeFunc g ps assign body).wp P Q a w := by
  refine (wpIn_wide (n := 2)).1 ?_
  refine wpIn_rangeFunc ?_
  intro fn _
  have he := run_enterLoop_outer (P := P) (w := w) fn a.tmps ps assign body
  have hc := loop_start (F := Fence.wide) (n := 1) (P := P) (f := gf) S (h fn)
  generalize (w.alloc (.deferred (some []))).alloc (.loop { state := .ready, pending := none, fn := fn, tmps := a.tmps, params := ps, assign := assign, body := body, defers := w.heap.size }) = W1 at he hc
  have hres : (resolve a.eval (rangeCall g (w.heap.size + 1)) 0).run P W1 = .ok { target := .fn (.func gf) caps, args := #[.func (.yield (w.heap.size + 1)) #[] #[]] } W1 := by
    have hc : a.eval (.const (.func (.yield (w.heap.size + 1)) #[] #[])) = .func (.yield (w.heap.size + 1)) #[] #[] := rfl
    generalize a.eval = ρ at hg hc ⊢
    simp [resolve, hg, hc, Deferred.ofValue]
  have hinv := hi W1 (w.heap.size + 1)
  refine ⟨w.heap.size + 1, [{ target := .collected w.heap.size, args := #[] }], W1, { target := .fn (.func gf) caps, args := #[.func (.yield (w.heap.size + 1)) #[] #[]] }, W1, gf,
    #[.func (.yield (w.heap.size + 1)) #[] #[]] ++ caps, W1, ?_, ?_, ?_, ?_, ?_, ?_⟩
  · exact he
  · exact hres
  · exact fun _ _ => trivial
  · exact hinv
  · intro h
    cases h
  · exact hc
theorem St.objAt {p g : Nat} {o : Obj} (S : St w0 w L) (h : At L p (.obj g o)) : w.heap[g]? = some o := (S.own _ h.mem).2
theorem fold_two (tm : Array Value) (p q : Tmp) (a b : Value) : ((#[p, q] : Array Tmp).zip #[a, b]).foldl (fun tmps (t, a) => tmps.setIfInBounds t a) tm = (tm.setIfInBounds p a).setIfInBounds q b := by simp
theorem round_start {l : Nat} {R : Loop} {C : World → Prop} (S : St w0 w (.obj l (.loop R) :: L)) (hr : R.state = .ready)
    (h : ∀ W2 ob, Hid (ob = .loop { R with state := .busy }) → St w0 W2 (.obj l ob :: L) → C W2) : ∃ w2, (Instr.beginRound l).run P w = .ok () w2 ∧ C w2 :=
  ⟨_, run_beginRound (S.objAt (p := 0) rfl) hr, h _ _ rfl (S.putObj (p := 0) rfl _)⟩
theorem round_end {l : Nat} {R : Loop} {ob : Obj} {C : Value → World → Prop} (hob : Hid (ob = .loop R)) (jump : Option Code) (S : St w0 w (.obj l ob :: L))
    (h : ∀ W2, St w0 W2 (.obj l (.loop { R with state := if jump.isNone then .ready else .done, pending := jump }) :: L) → C (.bool jump.isNone) W2) : ∃ v w2, (Instr.endRound l jump).run P w = .ok v w2 ∧ C v w2 := by
  rw [hob.out] at S
  exact ⟨_, _, run_endRound jump (S.objAt (p := 0) rfl), h _ (S.putObj (p := 0) rfl _)⟩
theorem loop_end {l : Nat} {R : Loop} {C : Option Code → World → Prop} (S : St w0 w (.obj l (.loop R) :: L)) (hb : R.state ≠ .busy)
    (h : ∀ W2, St w0 W2 (.obj l (.loop { R with state := .exhausted }) :: L) → C R.pending W2) : ∃ jump w2, (Instr.endLoop l).run P w = .ok jump w2 ∧ C jump w2 :=
  ⟨_, _, run_endLoop (S.objAt (p := 0) rfl) hb, h _ (S.putObj (p := 0) rfl _)⟩
/-- The mark is come to. -/
theorem mark_end {D : Nat} {C : World → Prop} (S : St w0 w (.obj D (.deferred (some [])) :: L))
    (h : ∀ W2, St w0 W2 L → C W2) : ∃ w2, (Instr.takeDeferred D).run P w = .ok [] w2 ∧ C w2 :=
  ⟨_, run_takeDeferred (S.objAt (p := 0) rfl), h _ ((S.putObj (p := 0) rfl _).sub (.cons _ (.refl _)))⟩
end
end Go.Proofs.Ytdfpceobfficfaa
