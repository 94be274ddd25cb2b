/- Check PlainB Batch BatR Round RndL HidP Hid MulS -/
import Derived.RangeFuncRecord
import Derived.RangeFuncCalls
import Derived.WalkKit
import Derived.TacticsIn
import Derived.LoopNIn
import Derived.RangeFuncNested
import Derived.RangeFuncBound
import Derived.RangeFuncLeaves
import Derived.OwnWalkIn
import Derived.TacticsInMore
import Derived.LoopIn
import Derived.Test.YtjgfjfjboimgdaaGreatY04
namespace Go.Proofs.YtjgfjfjboimgdaaGreat
set_option linter.unusedSimpArgs false
set_option linter.unusedVariables false
set_option linter.unusedSectionVars false
open Go Go.RowKit
set_option maxHeartbeats 8000000
set_option maxRecDepth 20000
section
set_option maxHeartbeats 1000000
theorem C_impl_SplitNumber (x r : Int) (w0 : World) : Calls Tryz.prog 183 #[.int .i64 x, .int .i64 r] w0 fun e w' => e = .returned (.agg #[.int .i64 (splitN x r).a, .int .i64 (splitN x r).b]) ∧ Below w0.heap.size w0 w' := by
  by_cases h1 : rv x = true
  · by_cases h2 : rv r = true
    · have E : splitN x r = ⟨r, subR x r⟩ := by simp [splitN, h1, h2]
      replace E := Lib.hid E
      obtain ⟨L, HL, S⟩ := st_start w0; have F : True := trivial
      go_enter Tryz.func183, Tryz.ntmps183
      go_wp2_with (first | (refine qbx HL S ?_; clear F S HL; intro g w L HL S F) | (refine qal HL S zSh ?_; clear F S HL; intro g w L HL S F) | (refine qst HL S 0 ?_; clear F S HL; intro w L HL S F) | (refine qst HL S 1 ?_; clear F S HL; intro w L HL S F) | (refine qst HL S 2 ?_; clear F S HL; intro w L HL S F) | (refine qst HL S 3 ?_; clear F S HL; intro w L HL S F) | (go_at_call 67; refine qPu (C_impl_RingValid _ _) ?_) | (go_at_call 179; refine qPu (C_impl_SubRing _ _ _) ?_) )
      ((try simp only [Exit.inBlock, Exit.then]); refine ret1 rfl (resCell S HL 0 rfl rfl (by kernel_rfl)) rfl ?_); exact ⟨by rw [E.out], S.below⟩
    · have h2' : rv r = false := by simpa using h2
      have E : splitN x r = Sh.none_ := by simp [splitN, h2']
      replace E := Lib.hid E
      clear h2
      obtain ⟨L, HL, S⟩ := st_start w0; have F : True := trivial
      go_enter Tryz.func183, Tryz.ntmps183
      go_wp2_with (first | (refine qbx HL S ?_; clear F S HL; intro g w L HL S F) | (refine qal HL S zSh ?_; clear F S HL; intro g w L HL S F) | (refine qst HL S 0 ?_; clear F S HL; intro w L HL S F) | (refine qst HL S 1 ?_; clear F S HL; intro w L HL S F) | (refine qst HL S 2 ?_; clear F S HL; intro w L HL S F) | (refine qst HL S 3 ?_; clear F S HL; intro w L HL S F) | (go_at_call 67; refine qPu (C_impl_RingValid _ _) ?_) | (go_at_call 182; refine qGr S (C_impl_bad _) ?_; clear S; intro w S) )
      ((try simp only [Exit.inBlock, Exit.then]); refine ret1 rfl (resCell S HL 0 rfl rfl (by kernel_rfl)) rfl ?_); exact ⟨by rw [E.out], S.below⟩
  · have h1' : rv x = false := by simpa using h1
    have E : splitN x r = Sh.none_ := by simp [splitN, h1']
    replace E := Lib.hid E
    clear h1
    obtain ⟨L, HL, S⟩ := st_start w0; have F : True := trivial
    go_enter Tryz.func183, Tryz.ntmps183
    go_wp2_with (first | (refine qbx HL S ?_; clear F S HL; intro g w L HL S F) | (refine qal HL S zSh ?_; clear F S HL; intro g w L HL S F) | (refine qst HL S 0 ?_; clear F S HL; intro w L HL S F) | (refine qst HL S 1 ?_; clear F S HL; intro w L HL S F) | (refine qst HL S 2 ?_; clear F S HL; intro w L HL S F) | (refine qst HL S 3 ?_; clear F S HL; intro w L HL S F) | (go_at_call 67; refine qPu (C_impl_RingValid _ _) ?_) | (go_at_call 182; refine qGr S (C_impl_bad _) ?_; clear S; intro w S) )
    ((try simp only [Exit.inBlock, Exit.then]); refine ret1 rfl (resCell S HL 0 rfl rfl (by kernel_rfl)) rfl ?_); exact ⟨by rw [E.out], S.below⟩
theorem C_spec_SplitNumber (x r : Int) (w0 : World) : Calls Tryz.prog 137 #[.int .i64 x, .int .i64 r] w0 fun e w' => e = .returned (.agg #[.int .i64 (splitN x r).a, .int .i64 (splitN x r).b]) ∧ Below w0.heap.size w0 w' := by
  by_cases h1 : rv x = true
  · by_cases h2 : rv r = true
    · have E : splitN x r = ⟨r, ro (x - r)⟩ := by simp [splitN, h1, h2, subR]
      replace E := Lib.hid E
      obtain ⟨b1, b2⟩ := rv_bd h1
      obtain ⟨b3, b4⟩ := rv_bd h2
      obtain ⟨L, HL, S⟩ := st_start w0; have F : True := trivial
      go_enter Tryz.func137, Tryz.ntmps137
      go_wp2_with (first | (refine qbx HL S ?_; clear F S HL; intro g w L HL S F) | (refine qal HL S zSh ?_; clear F S HL; intro g w L HL S F) | (refine qst HL S 0 ?_; clear F S HL; intro w L HL S F) | (refine qst HL S 1 ?_; clear F S HL; intro w L HL S F) | (refine qst HL S 2 ?_; clear F S HL; intro w L HL S F) | (refine qst HL S 3 ?_; clear F S HL; intro w L HL S F) | (go_at_call 136; refine qPu (C_spec_RingValid _ _) ?_) | (go_at_call 96; refine qPu (C_spec_l1Ring _ _) ?_) )
      ((try simp only [Exit.inBlock, Exit.then]); refine ret1 rfl (resCell S HL 0 rfl rfl (by kernel_rfl)) rfl ?_); exact ⟨by rw [E.out], S.below⟩
    · have h2' : rv r = false := by simpa using h2
      have E : splitN x r = Sh.none_ := by simp [splitN, h2']
      replace E := Lib.hid E
      clear h2
      obtain ⟨L, HL, S⟩ := st_start w0; have F : True := trivial
      go_enter Tryz.func137, Tryz.ntmps137
      go_wp2_with (first | (refine qbx HL S ?_; clear F S HL; intro g w L HL S F) | (refine qal HL S zSh ?_; clear F S HL; intro g w L HL S F) | (refine qst HL S 0 ?_; clear F S HL; intro w L HL S F) | (refine qst HL S 1 ?_; clear F S HL; intro w L HL S F) | (refine qst HL S 2 ?_; clear F S HL; intro w L HL S F) | (refine qst HL S 3 ?_; clear F S HL; intro w L HL S F) | (go_at_call 136; refine qPu (C_spec_RingValid _ _) ?_) )
      ((try simp only [Exit.inBlock, Exit.then]); refine ret1 rfl (resCell S HL 0 rfl rfl (by kernel_rfl)) rfl ?_); exact ⟨by rw [E.out]; rfl, S.below⟩
  · have h1' : rv x = false := by simpa using h1
    have E : splitN x r = Sh.none_ := by simp [splitN, h1']
    replace E := Lib.hid E
    clear h1
    obtain ⟨L, HL, S⟩ := st_start w0; have F : True := trivial
    go_enter Tryz.func137, Tryz.ntmps137
    go_wp2_with (first | (refine qbx HL S ?_; clear F S HL; intro g w L HL S F) | (refine qal HL S zSh ?_; clear F S HL; intro g w L HL S F) | (refine qst HL S 0 ?_; clear F S HL; intro w L HL S F) | (refine qst HL S 1 ?_; clear F S HL; intro w L HL S F) | (refine qst HL S 2 ?_; clear F S HL; intro w L HL S F) | (refine qst HL S 3 ?_; clear F S HL; intro w L HL S F) | (go_at_call 136; refine qPu (C_spec_RingValid _ _) ?_) )
    ((try simp only [Exit.inBlock, Exit.then]); refine ret1 rfl (resCell S HL 0 rfl rfl (by kernel_rfl)) rfl ?_); exact ⟨by rw [E.out]; rfl, S.below⟩
theorem C_impl_allRing (v : Value) (xs : List Int) (w0 : World) (h : Ints w0 v xs) :
    Calls Tryz.prog 113 #[v] w0 fun e w' => e = .returned (.bool (xs.all rv)) ∧ w0 = w' := by
  obtain ⟨hl, A, cap, rfl, hcap, hmax, hA⟩ := h
  obtain ⟨n, hx⟩ : ∃ n, xs.length = n := ⟨_, rfl⟩
  rw [hx] at hcap hA ⊢
  have HX := Lib.hid hx
  have HA := Lib.hid hA
  clear hl hA hx
  unfold maxLen at hmax
  go_enter Tryz.func113, Tryz.ntmps113
  go_wp2
  go_loop [7] (fun i => ∃ (k : Nat), k ≤ n ∧ i = .int .i64 k ∧ Hid (∀ j, j < k → rv (xs.getD j 0) = true)) (fun i => n - (intOf i).toNat)
  case atStart => exact ⟨0, Nat.zero_le _, rfl, fun j hj => absurd hj (by omega)⟩
  case round =>
    obtain ⟨k, hk, rfl, hall⟩ := hrel
    by_cases hlt : k < n
    · obtain ⟨b, off, rfl, hb, hc⟩ := HA.out (by omega)
      have c1 := hc k _ (ints_getD xs k (by rw [HX.out]; exact hlt))
      clear hc
      obtain ⟨y, hy⟩ : ∃ y, xs.getD k 0 = y := ⟨_, rfl⟩
      rw [hy] at c1
      have HY := Lib.hid hy
      clear hy
      by_cases hone : rv y = true
      · have Hone := Lib.hid hone
        go_wp2_with (first | (go_at_call 67; refine qPu (C_impl_RingValid _ _) ?_))
        go_round
        case rel =>
          refine ⟨k + 1, by omega, by go_num, fun j hj => ?_⟩
          rcases Nat.lt_or_ge j k with h | h
          · exact hall.out j h
          · obtain rfl : j = k := by omega
            rw [HY.out]
            exact Hone.out
        case measure => simp [intOf]; omega
      · have hone' : rv y = false := by simpa using hone
        clear hone
        go_wp2_with (first | (go_at_call 67; refine qPu (C_impl_RingValid _ _) ?_))
        go_ret
        refine ⟨?_, rfl⟩
        have : xs.all rv = false := by
          rw [List.all_eq_false]
          have hk' : k < xs.length := by rw [HX.out]; exact hlt
          refine ⟨xs.getD k 0, ?_, by rw [HY.out, hone']; simp⟩
          rw [List.getD_eq_getElem?_getD, List.getElem?_eq_getElem hk']
          exact List.getElem_mem hk'
        rw [this]
        rfl
    · obtain rfl : k = n := by omega
      go_wp2
      go_ret
      refine ⟨?_, rfl⟩
      have : xs.all rv = true := by
        rw [List.all_eq_true]
        intro x hx
        obtain ⟨j, hj, rfl⟩ := List.mem_iff_getElem.1 hx
        have := hall.out j (by rw [← HX.out]; exact hj)
        rw [List.getD_eq_getElem?_getD, List.getElem?_eq_getElem hj] at this
        exact this
      rw [this]
      rfl
theorem two_of : ∀ {zs : List Int}, zs.length = 2 → ∃ a b, zs = [a, b]
  | [a, b], _ => ⟨a, b, rfl⟩
end
section
def Ck.zero : Ck := ⟨⟨0, 0⟩, ⟨0, 0⟩⟩
end
section
theorem all_getD {ts : List Int} (h : ts.all rv = true) : ∀ k, k < ts.length → rv (ts.getD k 0) = true := by
  intro k hk
  rw [List.getD_eq_getElem?_getD, List.getElem?_eq_getElem hk]
  exact List.all_eq_true.1 h _ (List.getElem_mem hk)
end
section
theorem C_seedValid (s : Int) (w0 : World) : Calls Tryz.prog 52 #[.int .i64 s] w0 fun e w' => e = .returned (.bool (seedOk s)) ∧ w0 = w' := by
  by_cases h1 : 1 ≤ s
  · by_cases h2 : s ≤ 2147483646
    · have e : seedOk s = true := by simp [seedOk, h1, h2]
      rw [e]
      go_enter Tryz.func52, Tryz.ntmps52
      go_wp2
      go_ret
      exact ⟨rfl, rfl⟩
    · have e : seedOk s = false := by simp [seedOk, h1, h2]
      rw [e]
      go_enter Tryz.func52, Tryz.ntmps52
      go_wp2
      go_ret
      exact ⟨rfl, rfl⟩
  · have e : seedOk s = false := by simp [seedOk, h1]
    rw [e]
    go_enter Tryz.func52, Tryz.ntmps52
    go_wp2
    go_ret
    exact ⟨rfl, rfl⟩
theorem C_NextRandom (s : Int) (w0 : World) (h : 1 ≤ s ∧ s ≤ 2147483646) : Calls Tryz.prog 199 #[.int .i64 s] w0 fun e w' => e = .returned (.tuple #[.int .i64 (ro (nextS s / 8)), .int .i64 (nextS s)]) ∧ w0 = w' := by
  rw [show nextS s = 48271 * s % 2147483647 from by unfold nextS; rw [Int.mul_comm]]
  have hs : seedOk s = true := by simp [seedOk, h]
  have CV := fun w => C_seedValid s w
  rw [hs] at CV
  obtain ⟨h1, h2⟩ := h
  clear hs
  go_enter Tryz.func199, Tryz.ntmps199
  go_wp2_with (first | (go_at_call 52; refine qPu (CV _) ?_) | (go_at_call 151; refine qPu (C_impl_RingOf _ _) ?_))
  refine ret2 rfl (show _ = _ from rfl) (show _ = _ from rfl) rfl ?_
  exact ⟨rfl, rfl⟩
end
section
section
variable {P : Program} {ops : Array Oper} {Q : Exit → Act → World → Prop} {l n : Nat}
theorem wpIn_of_wp {o : Oper} {a : Act} {w : World} {K K' : Act → World → Prop} (hd : ∀ c, o.op ≠ .defer c) (hk : ∀ a w, K a w → K' a w) (h : o.wp P a w K Q) : o.wpIn (Fence.wide.inRound l) n P a w K' Q := by
  refine ⟨fun _ _ => trivial, ?_⟩
  rw [show o.semAt (Fence.wide.inRound l).round a.eval = execOp a.eval o from Oper.semAt_some l _ _ hd]
  unfold Oper.wp at h
  generalize (execOp a.eval o).run P w = r at h ⊢
  cases r with
  | ok nx w' =>
    cases nx with
    | value v => exact hk _ _ h
    | skip => exact hk _ _ h
    | defer d => exact hk _ _ h
    | enter f args =>
      refine ⟨fun h => (by cases h), (callsIn_wide.2 (Calls.mono h ?_)).inRound l⟩
      intro e w' h
      cases e with
      | returned v => exact hk _ _ h
      | panicked c => exact h
      | outgrown => exact h
    | row s args =>
      refine ⟨fun h => (by cases h), ?_⟩
      have h' : Rows P s args w' fun v w'' => K (a.put o.dst v) w'' := h
      intro c cs _
      obtain ⟨v, w2, h1, h2⟩ := h' c cs
      exact ⟨v, w2, hk _ _ h1, stepsIn_wide.2 h2⟩
    | _ => exact h.elim
  | halt hl w' =>
    cases hl with
    | panic v => exact h
    | _ => exact h.elim
theorem wpListIn_of (hnl : ¬ LetsOut Q) : ∀ (os : List Oper) (a : Act) (w : World), (∀ o ∈ os, ∀ c, o.op ≠ .defer c) → wpList P ops Q os a w → wpListIn (Fence.wide.inRound l) n P ops Q os a w
  | [], _, _, _, h => h
  | o :: rest, a, w, hd, h => by
    unfold wpList at h
    unfold wpListIn
    split at h
    · rename_i hw
      rw [if_pos hw]
      rcases h with h | h
      · exact wpIn_of_wp (hd o (List.mem_cons_self ..)) (fun a' w' h' => wpListIn_of hnl rest a' w' (fun o ho => hd o (List.mem_cons_of_mem _ ho)) h') h
      · exact absurd h.2 hnl
    · rename_i hw
      rw [if_neg hw]
      exact ⟨fun _ _ => trivial, wpListIn_of hnl rest _ _ (fun o ho => hd o (List.mem_cons_of_mem _ ho)) h⟩
def noDefers (os : List Oper) : Bool := os.all fun o => match o.op with | .defer _ => false | _ => true
theorem noDefers_spec {os : List Oper} (h : noDefers os = true) : ∀ o ∈ os, ∀ c, o.op ≠ .defer c := by
  intro o ho c e
  have := List.all_eq_true.1 h o ho
  rw [e] at this
  cases this
theorem wpIn_region_plain {id : Nat} {os : List Oper} {a : Act} {w : World} (hd : noDefers os = true) (hnl : ¬ LetsOut Q) (h : wpList P os.toArray Q os a w) : (Code.region id os.toArray false).wpIn (Fence.wide.inRound l) n P Q a w :=
  wpIn_region_lit (wpListIn_of hnl os a w (noDefers_spec hd) h)
end
theorem wpIn_loop_count {F : Fence} {n : Nat} {P : Program} {Q : Exit → Act → World → Prop} {a : Act} {w : World} {c : Code} (I : Nat → Act → World → Prop) (m : Nat) (h0 : I 0 a w)
    (round : ∀ k a w, k ≤ m → I k a w → c.wpIn F n P (Exit.then (fun a' w' => k < m ∧ I (k + 1) a' w') Q) a w) : (Code.loop c).wpIn F n P Q a w := by
  have key : ∀ j k a w, k + j = m → I k a w → Code.roundsIn F n P c Q (j + 1) a w := by
    intro j
    induction j with
    | zero =>
      intro k a w hk hI
      refine wpIn_mono (round k a w (by omega) hI) fun e a' w' q => ?_
      cases e with
      | normal => exact absurd q.1 (by omega)
      | _ => exact q
    | succ j ih =>
      intro k a w hk hI
      refine wpIn_mono (round k a w (by omega) hI) fun e a' w' q => ?_
      cases e with
      | normal => exact ih (k + 1) a' w' (by omega) q.2
      | _ => exact q
  exact wpIn_loop_rounds (m + 1) (key m 0 a w (by omega) h0)
section
variable {w0 w : World} {L : List Ent} {P : Program}
theorem St.newObj (S : St w0 w L) (o : Obj) : St w0 (w.alloc o) (.obj w.heap.size o :: L) := by
  have hb : Below w.heap.size w (w.alloc o) := (Below.refl _ _).alloc (Nat.le_refl _) _
  have h1 := S.grow hb
  refine ⟨h1.below, fun e he => ?_, List.pairwise_cons.2 ⟨fun f hf k hk hk' => ?_, S.apart⟩⟩
  · rcases List.mem_cons.1 he with rfl | he
    · exact ⟨S.below.size, World.alloc_heap_new w o⟩
    · exact h1.own e he
  · simp only [Ent.blk, Option.some.injEq] at hk
    have b := (S.lt hf hk').2
    omega
theorem St.putObj {p g : Nat} {o : Obj} (S : St w0 w L) (h : At L p (.obj g o)) (o' : Obj) : St w0 (w.putObj g o') (L.set p (.obj g o')) := by
  have hb := S.own _ h.mem
  have hlt := (S.lt h.mem (k := g) rfl).2
  refine S.turn h ⟨rfl, rfl, rfl, by simp, fun k _ hk => World.putObj_heap_other (fun e => hk (by simp [Ent.blk, e]))⟩ ⟨hb.1, World.putObj_heap_same hlt⟩ (.inl rfl)
theorem loop_start {F : Fence} {n : Nat} {f : FuncId} {args : Array Value} {R : Loop} {post : Ending → World → Prop} (S : St w0 w L)
    (h : ∀ W1, St w0 W1 (.obj (w.heap.size + 1) (.loop R) :: .obj w.heap.size (.deferred (some [])) :: L) → CallsIn F n P f args W1 post) :
    CallsIn F n P f args ((w.alloc (.deferred (some []))).alloc (.loop R)) post := by
  refine h _ ?_
  have S1 := (S.newObj (.deferred (some []))).newObj (.loop R)
  rwa [World.size_alloc] at S1
set_option maxHeartbeats 4000000 in
theorem wp_rangeFunc_out {g : Operand} {ps : Array Tmp} {assign body : Code} {Q : Exit → Act → World → Prop} {a : Act} (S : St w0 w L) (gf : FuncId) (caps : Array Value) (hg : a.eval g = .func (.func gf) #[] caps)
    (hi : ∀ (W : World) (l : Nat), (invoke (.fn (.func gf) caps) #[.func (.yield l) #[] #[]]).run P W = .ok (.enter gf (#[.func (.yield l) #[] #[]] ++ caps)) W)
    (h : ∀ fn W1, St w0 W1 (.obj (w.heap.size + 1) (.loop { state := .ready, pending := none, fn := fn, tmps := a.tmps, params := ps, assign := assign, body := body, defers := w.heap.size }) :: .obj w.heap.size (.deferred (some [])) :: L) →
      CallsIn Fence.wide 1 P gf (#[.func (.yield (w.heap.size + 1)) #[] #[]] ++ caps) W1 (rangePost Fence.wide 2 P (w.heap.size + 1) Q { a with defers := [{ target := .collected w.heap.size, args := #[] }] ++ a.defers })) :
    (Code.rangeFunc g ps assign body).wp P Q a w := by
  refine (wpIn_wide (n := 2)).1 ?_
  refine wpIn_rangeFunc ?_
  intro fn _
  have he := run_enterLoop_outer (P := P) (w := w) fn a.tmps ps assign body
  have hc := loop_start (F := Fence.wide) (n := 1) (P := P) (f := gf) S (h fn)
  generalize (w.alloc (.deferred (some []))).alloc (.loop { state := .ready, pending := none, fn := fn, tmps := a.tmps, params := ps, assign := assign, body := body, defers := w.heap.size }) = W1 at he hc
  have hres : (resolve a.eval (rangeCall g (w.heap.size + 1)) 0).run P W1 = .ok { target := .fn (.func gf) caps, args := #[.func (.yield (w.heap.size + 1)) #[] #[]] } W1 := by
    have hc : a.eval (.const (.func (.yield (w.heap.size + 1)) #[] #[])) = .func (.yield (w.heap.size + 1)) #[] #[] := rfl
    generalize a.eval = ρ at hg hc ⊢
    simp [resolve, hg, hc, Deferred.ofValue]
  have hinv := hi W1 (w.heap.size + 1)
  refine ⟨w.heap.size + 1, [{ target := .collected w.heap.size, args := #[] }], W1, { target := .fn (.func gf) caps, args := #[.func (.yield (w.heap.size + 1)) #[] #[]] }, W1, gf,
    #[.func (.yield (w.heap.size + 1)) #[] #[]] ++ caps, W1, ?_, ?_, ?_, ?_, ?_, ?_⟩
  · exact he
  · exact hres
  · exact fun _ _ => trivial
  · exact hinv
  · intro h
    cases h
  · exact hc
theorem St.objAt {p g : Nat} {o : Obj} (S : St w0 w L) (h : At L p (.obj g o)) : w.heap[g]? = some o := (S.own _ h.mem).2
theorem fold_two (tm : Array Value) (p q : Tmp) (a b : Value) : ((#[p, q] : Array Tmp).zip #[a, b]).foldl (fun tmps (t, a) => tmps.setIfInBounds t a) tm = (tm.setIfInBounds p a).setIfInBounds q b := by simp
theorem round_start {l : Nat} {R : Loop} {C : World → Prop} (S : St w0 w (.obj l (.loop R) :: L)) (hr : R.state = .ready)
    (h : ∀ W2 ob, Hid (ob = .loop { R with state := .busy }) → St w0 W2 (.obj l ob :: L) → C W2) : ∃ w2, (Instr.beginRound l).run P w = .ok () w2 ∧ C w2 :=
  ⟨_, run_beginRound (S.objAt (p := 0) rfl) hr, h _ _ rfl (S.putObj (p := 0) rfl _)⟩
theorem round_end {l : Nat} {R : Loop} {ob : Obj} {C : Value → World → Prop} (hob : Hid (ob = .loop R)) (jump : Option Code) (S : St w0 w (.obj l ob :: L))
    (h : ∀ W2, St w0 W2 (.obj l (.loop { R with state := if jump.isNone then .ready else .done, pending := jump }) :: L) → C (.bool jump.isNone) W2) : ∃ v w2, (Instr.endRound l jump).run P w = .ok v w2 ∧ C v w2 := by
  rw [hob.out] at S
  exact ⟨_, _, run_endRound jump (S.objAt (p := 0) rfl), h _ (S.putObj (p := 0) rfl _)⟩
theorem loop_end {l : Nat} {R : Loop} {C : Option Code → World → Prop} (S : St w0 w (.obj l (.loop R) :: L)) (hb : R.state ≠ .busy)
    (h : ∀ W2, St w0 W2 (.obj l (.loop { R with state := .exhausted }) :: L) → C R.pending W2) : ∃ jump w2, (Instr.endLoop l).run P w = .ok jump w2 ∧ C jump w2 :=
  ⟨_, _, run_endLoop (S.objAt (p := 0) rfl) hb, h _ (S.putObj (p := 0) rfl _)⟩
theorem mark_end {D : Nat} {C : World → Prop} (S : St w0 w (.obj D (.deferred (some [])) :: L))
    (h : ∀ W2, St w0 W2 L → C W2) : ∃ w2, (Instr.takeDeferred D).run P w = .ok [] w2 ∧ C w2 :=
  ⟨_, run_takeDeferred (S.objAt (p := 0) rfl), h _ ((S.putObj (p := 0) rfl _).sub (.cons _ (.refl _)))⟩
end
end
section
theorem seedOk_bd {s : Int} (h : seedOk s = true) : 1 ≤ s ∧ s ≤ 2147483646 := by simpa [seedOk] using h
theorem C_randomStream (s : Int) (w0 : World) : Calls Tryz.prog 194 #[.int .i64 s] w0 fun e w' => ∃ g, e = .returned (.func (.func 198) #[] #[.pointer (some ⟨g, 0, none⟩)]) ∧ St w0 w' [.box g 3 [.int .i64 s]] := by
  obtain ⟨L, HL, S⟩ := st_start w0; have F : True := trivial
  go_enter Tryz.func194, Tryz.ntmps194
  go_wp2_with (first | (refine qbx HL S ?_; clear F S HL; intro g w L HL S F))
  go_ret
  rw [HL.out] at S
  exact ⟨_, rfl, S⟩
def rndEnts (l D gs g7 g6 g3 : Nat) (r : Loop) (sd : Int) (v : Value) (k many : Nat) (s : Int) : List Ent :=
  [.obj l (.loop r), .obj D (.deferred (some [])), .box gs 3 [.int .i64 sd], .box g7 3 [.int .i64 (seedAt s k)], .box g6 23 [v], .row 3 1 v k (ints (rndTo s k)), .box g3 3 [.int .i64 many]]
theorem seedAt_pos {s : Int} (h : 1 ≤ s ∧ s ≤ 2147483646) : ∀ k, 1 ≤ seedAt s k ∧ seedAt s k ≤ 2147483646
  | 0 => h
  | k + 1 => by
    have := seedAt_pos h k
    show 1 ≤ nextS (seedAt s k) ∧ nextS (seedAt s k) ≤ 2147483646
    unfold nextS
    omega
theorem C_stream (l D gs g7 g6 g3 many : Nat) (r : Loop) (s : Int) (hs : 1 ≤ s ∧ s ≤ 2147483646) (w0 W0 : World) (v0 : Value) (S0 : St w0 W0 (rndEnts l D gs g7 g6 g3 r s v0 0 many s))
    (hp : r.params.size = 2)
    (HR : ∀ k W v, k ≤ many → St w0 W (rndEnts l D gs g7 g6 g3 r (seedAt s k) v k many s) →
      RoundIn Fence.wide 0 Tryz.prog l r.fn ((r.params.zip #[.int .i64 (ro (seedAt s (k + 1) / 8)), .int .i64 (seedAt s (k + 1))]).foldl (fun tmps (t, a) => tmps.setIfInBounds t a) r.tmps) r.assign r.body W
        fun e W' => (k < many ∧ e = .returned (.bool true) ∧ ∃ v', St w0 W' (rndEnts l D gs g7 g6 g3 r (seedAt s k) v' (k + 1) many s)) ∨
          (k = many ∧ e = .returned (.bool false) ∧ St w0 W' (rndEnts l D gs g7 g6 g3 { r with state := .done, pending := some (.exit 0) } (seedAt s k) v k many s))) :
    CallsIn Fence.wide 1 Tryz.prog 198 #[.func (.yield l) #[] #[], .pointer (some ⟨gs, 0, none⟩)] W0 fun e W' => (∃ u, e = .returned u) ∧ ∃ v, St w0 W' (rndEnts l D gs g7 g6 g3 { r with state := .done, pending := some (.exit 0) } (seedAt s many) v many many s) := by
  refine callsIn_of_wp Tryz.func198 rfl trivial ?_ rfl
  simp only [Tryz.ntmps198, List.size_toArray, List.length_cons, List.length_nil, Nat.reduceAdd, Nat.reduceSub, Array.replicate_succ, Array.replicate_zero, List.push_toArray, List.append_toArray, List.nil_append, List.cons_append]
  refine wpIn_block ?_
  refine wpIn_loop_count (fun k a W => ∃ v t2 t3 t4 t5 t6 t7 t8 t9 t10 t11 t12 t13 t14 t15, a = { tmps := #[.func (.yield l) #[] #[], .pointer (some ⟨gs, 0, none⟩), t2, t3, t4, t5, t6, t7, t8, t9, t10, t11, t12, t13, t14, t15], defers := [] } ∧ St w0 W (rndEnts l D gs g7 g6 g3 r (seedAt s k) v k many s)) many ⟨v0, _, _, _, _, _, _, _, _, _, _, _, _, _, _, rfl, S0⟩ ?_
  rintro k a W hk ⟨v, t2, t3, t4, t5, t6, t7, t8, t9, t10, t11, t12, t13, t14, t15, rfl, S⟩
  have b0 := seedAt_pos hs k
  have CN := fun w => C_NextRandom (seedAt s k) w b0
  have HRK := HR k W v hk S
  have hl := S.objAt (p := 0) (g := l) (o := .loop r) rfl
  have hy1 := run_yield (P := Tryz.prog) (args := #[.int .i64 (ro (seedAt s (k + 1) / 8)), .int .i64 (seedAt s (k + 1))]) hl hp.symm
  obtain ⟨L, HL⟩ : ∃ L, Hid (L = rndEnts l D gs g7 g6 g3 r (seedAt s k) v k many s) := ⟨_, Lib.hid rfl⟩
  rw [← HL.out] at S
  have F := factsAll HL S
  (try simp only [rndEnts, factsOf, cellsFrom, and_true, true_and, Nat.reduceAdd] at F)
  rw [show nextS (seedAt s k) = seedAt s (k + 1) from rfl] at CN
  generalize ro (seedAt s (k + 1) / 8) = x at CN HRK hy1
  generalize (r.params.zip #[Value.int .i64 x, Value.int .i64 (seedAt s (k + 1))]).foldl (fun tmps x => tmps.setIfInBounds x.fst x.snd) r.tmps = tm at HRK hy1
  refine wpIn_block ?_
  refine wpIn_seq (wpIn_wide.2 ?_)
  go_wp2_with (first | (go_at_call 199; refine qPu (CN _) ?_))
  clear F CN hl HR S0 hs b0
  refine wpIn_seq (wpIn_mono (Q := fun e a W' => (e = .normal ∧ k < many ∧ a.defers = [] ∧ (∃ v' t2 t5 t6 t7 t8 t9 t10 t11 t12 t13 t14 t15, a.tmps = #[.func (.yield l) #[] #[], .pointer (some ⟨gs, 0, none⟩), t2, .int .i64 x, .int .i64 (seedAt s (k + 1)), t5, t6, t7, t8, t9, t10, t11, t12, t13, t14, t15] ∧ St w0 W' (rndEnts l D gs g7 g6 g3 r (seedAt s k) v' (k + 1) many s))) ∨ (e = .ret ∧ k = many ∧ a.defers = [] ∧ St w0 W' (rndEnts l D gs g7 g6 g3 { r with state := .done, pending := some (.exit 0) } (seedAt s k) v k many s))) ?_ ?_)
  · refine wpIn_seq ?_
    gi_wp2
    refine HRK.mono ?_
    rintro e W' (⟨hk', rfl, v', S'⟩ | ⟨rfl, rfl, S'⟩)
    · clear HRK hy1 S HL
      gi_wp2
      first | exact ⟨v', S'⟩ | exact .inl ⟨rfl, hk', rfl, v', _, _, _, _, _, _, _, _, _, _, _, _, rfl, S'⟩
    · clear HRK hy1 S HL
      gi_wp2
      all_goals exact .inr ⟨rfl, rfl, rfl, S'⟩
  · clear HRK hy1 S HL
    rintro e ⟨tm2, df⟩ W' (⟨rfl, hk', hd, v', t2, t5, t6, t7, t8, t9, t10, t11, t12, t13, t14, t15, htm, S⟩ | ⟨rfl, rfl, hd, S⟩)
    · dsimp only at hd htm
      subst hd htm
      refine wpIn_wide.2 ?_
      obtain ⟨L, HL⟩ : ∃ L, Hid (L = rndEnts l D gs g7 g6 g3 r (seedAt s k) v' (k + 1) many s) := ⟨_, Lib.hid rfl⟩
      rw [← HL.out] at S
      have F := factsAll HL S
      simp only [rndEnts] at HL
      simp only [rndEnts, factsOf, cellsFrom, and_true, true_and, Nat.reduceAdd] at F
      go_wp2_with (first | (refine qst HL S 2 ?_; clear F S HL; intro w L HL S F))
      rw [HL.out] at S
      exact ⟨hk', v', _, _, _, _, _, _, _, _, _, _, _, _, _, _, rfl, S⟩
    · simp only [Exit.inBlock, Exit.then]
      refine bodyPost_ret (results_none rfl _ _ _) hd ?_
      exact ⟨⟨_, rfl⟩, _, S⟩
theorem zInts : (Tryz.prog.info? 23).bind (·.zero) = some (.slice none 0 0) := by kernel_rfl
theorem C_RandomList (s : Int) (many : Nat) (w0 : World) (hs : seedOk s = true) (hm : many ≤ 4096) : Calls Tryz.prog 177 #[.int .i64 s, .int .i64 many] w0 (MakesRnd w0 s many) := by
  have hs' := seedOk_bd hs
  have CV := fun w => C_seedValid s w
  rw [hs] at CV
  have CR := fun w => C_randomStream s w
  unfold MakesRnd
  clear hs
  obtain ⟨L, HL, S⟩ := st_start w0; have F : True := trivial
  refine (callsIn_wide (n := 2)).1 (callsIn_of_wp_marks Tryz.func177 rfl trivial (wpIn_wide.2 ?_))
  simp only [Tryz.ntmps177, List.size_toArray, List.length_cons, List.length_nil, Nat.reduceAdd, Nat.reduceSub, Array.replicate_succ, Array.replicate_zero, List.push_toArray, List.append_toArray, List.nil_append, List.cons_append]
  go_wp2_with (first | (refine qbx HL S ?_; clear F S HL; intro g3 w L HL S F) | (at_make; refine wpList_make0 rfl S _ _ _ rfl 3 _ 1 8 Tryz.underlying23 infoInt .i64 .i64 _ many rfl rfl rfl (by omega) (by simp only [maxLen]; omega) ?_; clear F S; intro g w L hM S; replace HL := qNm HL hM; clear hM; have F := qFc HL S) | (refine qal HL S zInt ?_; clear F S HL; intro g7 w L HL S F) | (refine qal HL S zInts ?_; clear F S HL; intro g6 w L HL S F) | (refine qst HL S 0 ?_; clear F S HL; intro w L HL S F) | (refine qst HL S 1 ?_; clear F S HL; intro w L HL S F) | (refine qst HL S 2 ?_; clear F S HL; intro w L HL S F) | (go_at_call 52; refine qPu (CV _) ?_) | (go_at_call 194; refine (CR _).mono ?_; rintro e w ⟨gs, rfl, T0⟩; have hX := qcl HL S T0; clear F S HL T0; obtain ⟨L, HL, S, F⟩ := hX))
  rename_i K0 hK0
  rw [HL.out] at S
  refine wp_rangeFunc_out S 198 #[.pointer (some ⟨gs, 0, none⟩)] rfl (by intro W l; simp [invoke, go_sem] <;> rfl) ?_
  intro fn W1 S1
  refine (C_stream _ _ gs g7 g6 g3 many _ s hs' w0 W1 _ S1 rfl ?_).mono ?_
  · clear S1 F HL CV CR S
    intro k W v hk S
    have HSd := Lib.hid (show seedAt s (k + 1) = seedAt s (k + 1) from rfl)
    have HRt := Lib.hid (show rndTo s (k + 1) = rndTo s k ++ [ro (seedAt s (k + 1) / 8)] from rfl)
    generalize hx : ro (seedAt s (k + 1) / 8) = x at HRt
    generalize hy : seedAt s (k + 1) = y
    have HY := Lib.hid hy
    clear hx hy
    refine roundIn_of_wpIn trivial ?_
    dsimp only
    rw [fold_two]
    simp only [List.setIfInBounds_toArray, List.set_cons_zero, List.set_cons_succ]
    refine wpIn_seq (wpIn_region_plain (by rfl) (fun ⟨_, _, h⟩ => h) ?_)
    go_wp2
    refine wpIn_region_plain (by rfl) (fun ⟨_, _, h⟩ => h) ?_
    go_wp2
    refine round_start S rfl ?_
    clear S
    intro W2 ob HOB S
    obtain ⟨_, A, cap, rfl, hcap, hmax, _⟩ := Sees.row S (atOf (p := 5) (show Hid (_ = _) from rfl) rfl)
    obtain ⟨L, hM, T⟩ := st_name S; clear S; have S := T; clear T; have HL := Lib.hid hM; clear hM; have F := qFc HL S
    refine wpIn_block ?_
    refine wpIn_seq (wpIn_seq (wpIn_region_plain (by rfl) (fun ⟨_, _, h⟩ => h) ?_))
    by_cases hlt : k < many
    · have hne : ((k : Int) == (many : Int)) = false := by rw [beq_eq_false_iff_ne]; omega
      go_wp2
      refine wpIn_cond_false rfl (wpIn_skip ?_)
      refine wpIn_seq (wpIn_region_plain (by rfl) (fun ⟨_, _, h⟩ => h) ?_)
      go_wp2_with (first | (refine wpList_lit rfl S _ _ _ rfl 3 Tryz.underlying23 infoInt (by simp [Act.eval]) (by simp [Act.eval, Value.oneCell']) rfl rfl rfl ?_; clear F S; intro g w L hM S; replace HL := qNm HL hM; clear hM; have F := qFc HL S) | ((refine wpList_append_box rfl S _ _ _ rfl 3 _ 1 8 Tryz.underlying23 infoInt rfl (by omega) _ _ _ _ rfl qAt (by omega) _ _ _ _ _ _ rfl qAt rfl rfl rfl rfl ?_; clear F S; intro u w L hM S; replace HL := qNm HL hM; clear hM; have F := qFc HL S); obtain ⟨_, A', cap', rfl, hcap', hmax', _⟩ := Sees.row S (atOf HL (p := 6) rfl)) | (refine qst HL S 5 ?_; clear F S HL; intro w L HL S F))
      refine wpIn_region_plain (by rfl) (fun ⟨_, _, h⟩ => h) ?_
      go_wp2_with (first | (refine qst HL S 4 ?_; clear F S HL; intro w L HL S F))
      rw [HL.out] at S
      have T := S.sub (.cons _ (.refl _))
      refine round_end HOB none T ?_
      intro W3 S3
      have e : ints (rndTo s (k + 1)) = ints (rndTo s k) ++ [.int .i64 x] := by rw [HRt.out]; simp [ints]
      rw [← e, ← HY.out] at S3
      first | exact .inl ⟨rfl, _, S3⟩ | exact .inl ⟨hlt, rfl, _, S3⟩ | exact ⟨rfl, _, S3⟩
    · obtain rfl : k = many := by omega
      go_wp2
      refine wpIn_cond_true rfl (wpIn_exit ?_)
      rw [HL.out] at S
      refine round_end HOB (some (.exit 0)) S ?_
      intro W3 S3
      first | exact .inr ⟨rfl, rfl, S3⟩ | exact ⟨rfl, S3⟩ | exact .inr ⟨rfl, S3⟩ | exact S3
  · rintro e W2 ⟨⟨u, rfl⟩, v, S2⟩
    clear S F HL S1
    refine loop_end S2 (by simp) ?_
    clear S2
    intro W3 S
    dsimp only
    refine wpIn_exit ?_
    simp only [Exit.inBlock, Exit.then, if_true]
    refine hK0 _ _ ?_
    clear hK0
    replace S := S.sub (.cons _ (.refl _))
    obtain ⟨_, A, cap, rfl, hcap, hmax, _⟩ := Sees.row S (atOf (p := 4) (show Hid (_ = _) from rfl) rfl)
    obtain ⟨L, hM, T⟩ := st_name S; clear S; have S := T; clear T; have HL := Lib.hid hM; clear hM; have F := qFc HL S
    have F1 := F _ S
    refine wp_seq ?_
    go_quiet (fail)
    replace S := S.drewN nq
    clear F1
    show Code.wp _ _ _ _ _
    refine wp_ret ?_
    rw [HL.out] at S
    obtain ⟨W4, hm4, S4⟩ := mark_end (P := Tryz.prog) (C := fun W4 => St w0 W4 [.row 3 1 (.slice A many cap) many (ints (rndTo s many))]) S (fun W4 S4 => S4.sub (by repeat (first | exact .refl _ | exact List.nil_sublist _ | apply List.Sublist.cons_cons | apply List.Sublist.cons)))
    refine ⟨by simp, .inl ⟨_, _, rfl, hm4, ?_⟩⟩
    refine ⟨.tuple #[.slice A many cap, .int .i64 (seedAt s many)], ?_, _, rfl, S4⟩
    simp [results, Tryz.f177, go_sem]
end
section
structure Tri where
  a : Sh
  b : Sh
  c : Sh
def Tri.zero : Tri := ⟨⟨0, 0⟩, ⟨0, 0⟩, ⟨0, 0⟩⟩
theorem subR_rv {a b : Int} (ha : rv a = true) (hb : rv b = true) : rv (subR a b) = true := by rw [subR_ok ha hb]; exact rv_ro _
def triOk (t : Tri) : Bool := t.a.ok && t.b.ok && t.c.ok && decide (joinS t.c = mulR (joinS t.a) (joinS t.b))
end
section
theorem zTri : (Tryz.prog.info? 132).bind (·.zero) = some (.agg #[.int .i64 0, .int .i64 0, .int .i64 0, .int .i64 0, .int .i64 0, .int .i64 0]) := by kernel_rfl
theorem C_product (a b c d e f : Int) (w0 : World) : Calls Tryz.prog 184 #[.agg #[.int .i64 a, .int .i64 b, .int .i64 c, .int .i64 d, .int .i64 e, .int .i64 f]] w0 fun r w' => r = .returned (.int .i64 (mulR (joinS ⟨a, b⟩) (joinS ⟨c, d⟩))) ∧ Below w0.heap.size w0 w' := by
  obtain ⟨L, HL, S⟩ := st_start w0; have F : True := trivial
  go_enter Tryz.func184, Tryz.ntmps184
  go_wp2_with (first | (refine qbx HL S ?_; clear F S HL; intro g w L HL S F))
  have HL0 := HL; have F0 := F; refine wp_region_tree (S := fun w' => St w0 w' L) (.calm 0 (.calm 1 (.calm 3 (.calm 4 (.act 2 (.act 5 (.act 6 (.calm 7 .fin) .stop) .stop) .stop))))) (by kernel_rfl) (by kernel_rfl) (by kernel_rfl) (by intro c a d v w h; cases d <;> exact h) ?_; replace S := S.drew
  repeat (first | refine qCa ?_ | refine qAn ?_ | refine qSk ?_ | (refine tree_act rfl rfl ?_ tree_stop; intro K hK; go_wp2_with (first | (go_at_call 178; refine qGr S (C_impl_JoinShares _ _ _) ?_; clear S; intro w S) | (go_at_call 195; refine qPu (C_impl_MulRing _ _ _) ?_)); (refine qKo hK ?_; clear hK K)))
  refine tree_fin ?_
  go_wp2
  go_ret
  exact ⟨rfl, S.below⟩
end
section
theorem C_TripleRight (a b c d e f : Int) (w0 : World) (h1 : Sh.ok ⟨a, b⟩ = true) (h2 : Sh.ok ⟨c, d⟩ = true) (h3 : Sh.ok ⟨e, f⟩ = true) (h4 : joinS ⟨e, f⟩ = mulR (joinS ⟨a, b⟩) (joinS ⟨c, d⟩)) :
    Calls Tryz.prog 185 #[.agg #[.int .i64 a, .int .i64 b, .int .i64 c, .int .i64 d, .int .i64 e, .int .i64 f]] w0 fun r w' => r = .returned (.bool true) ∧ Below w0.heap.size w0 w' := by
  obtain ⟨L, HL, S⟩ := st_start w0; have F : True := trivial
  go_enter Tryz.func185, Tryz.ntmps185
  go_upto_region 3 with (first | (refine qbx HL S ?_; clear F S HL; intro g w L HL S F) | (go_at_call 180; refine qGr S (C_impl_SharedValid _ _ _) ?_; clear S; intro w S))
  clear h1 h2 h3
  have HL0 := HL; have F0 := F; refine wp_region_tree (S := fun w' => St w0 w' L) (.calm 0 (.calm 1 (.calm 3 (.act 2 (.act 4 (.calm 5 (.calm 6 .fin)) .stop) .stop)))) (by kernel_rfl) (by kernel_rfl) (by kernel_rfl) (by intro c a d v w h; cases d <;> exact h) ?_; replace S := S.drew
  repeat' (first | refine qCa ?_ | refine qAn ?_ | refine qSk ?_ | exact tree_stop | (refine tree_act rfl rfl ?_ ?_) | (intro K hK; go_wp2_with (first | (go_at_call 178; refine qGr S (C_impl_JoinShares _ _ _) ?_; clear S; intro w S) | (go_at_call 184; refine qGr S (C_product _ _ _ _ _ _ _) ?_; clear S; intro w S)); (refine qKo hK ?_; clear hK K)))
  all_goals
    refine tree_fin ?_
    go_wp2
    go_ret
    exact ⟨rfl, S.below⟩
end
end Go.Proofs.YtjgfjfjboimgdaaGreat
