/-
  From a law's contract ('it returns true, and nothing that was there has turned') to its row.
-/
import Derived.Test.YtdfpceobfficfaaRows
import Derived.Test.YtdfpceobfficfaaReg
import Derived.ProofKit
import Derived.OpenShut
import Derived.Deep.Slices
namespace Go.Proofs.Ytdfpceobfficfaa
set_option linter.unusedSimpArgs false
set_option linter.unusedVariables false
set_option linter.unusedSectionVars false
open Go Go.RowKit Go.ChangeShapes Go.WideShapes Go.ChangeAt

theorem Try.ownKnob_ : ownKnob Try.prog.godebug = none := by kernel_rfl
theorem Try.laidOut_ : laidOutB Try.prog = true := by kernel_rfl

section
variable {H : Type} {enc : TypeId × Value → H} {P : Program}

theorem trodAll_below (hl : laidOutB P = true) {W W' : World} (hb : Below W.heap.size W W') : ∀ (ts : List TypeId) (vs : List Value) (ds : List (DataW H)) (ps : List MemPlace),
    (ts.all fun t => P.readableRec t && decide (t < P.types.size)) = true → DataW.TrodAll enc P W 0 (fun _ => true) true ts vs ds ps → (∀ x ∈ ps, x.block < W.heap.size) →
    DataW.TrodAll enc P W' 0 (fun b => decide (b < W.heap.size)) true ts vs ds ps
  | [], [], [], ps, _, h, _ => h
  | t :: ts, v :: vs, d :: ds, ps, hr, h, hlt => by
    obtain ⟨p, q, h1, h2, rfl⟩ := h
    simp only [List.all_cons, Bool.and_eq_true, decide_eq_true_eq] at hr
    exact ⟨p, q, Below.trod hl hr.1.1 hr.1.2 h1 hb (fun x hx => hlt x (by simp [hx])),
      trodAll_below hl hb ts vs ds q (by simpa using hr.2) h2 (fun x hx => hlt x (by simp [hx])), rfl⟩
  | [], _ :: _, _, _, _, h, _ => by simp [DataW.TrodAll] at h
  | [], [], _ :: _, _, _, h, _ => by simp [DataW.TrodAll] at h
  | _ :: _, [], _, _, _, h, _ => by simp [DataW.TrodAll] at h
  | _ :: _, _ :: _, [], _, _, h, _ => by simp [DataW.TrodAll] at h

/-- The row's post of a law: it has returned true, its arguments read as they read. -/
theorem law_post {f : Func} {s : ChangeSpec} {W W' : World} {args : Array Value} {ds : List (DataW H)} {before : List MemPlace} (bt : TypeId) (hbt : P.underlying bt = some .bool)
    (hl : laidOutB P = true) (hr : (f.params.toList.all fun t => P.readableRec t && decide (t < P.types.size)) = true) (hrt : f.resultTypes = #[bt])
    (hvars : s.vars = []) (hW : DataW.Whole enc P f.params.toList s.vars false W args.toList ds [] before)
    (hs : (s.fn H (ds ++ [])).results = [.lit (.bool true)] ∧ (s.fn H (ds ++ [])).args = ds ∧ (s.fn H (ds ++ [])).vars = [])
    (hb : Below W.heap.size W W') : s.post enc P f false true false false W args (.bool true) W' := by
  have hW' := hW
  obtain ⟨p, q, hA, hV, rfl, _, _⟩ := hW
  rw [hvars] at hV
  have hq : q = [] := hV
  subst hq
  have hlt : ∀ x ∈ p, x.block < W.heap.size := fun x hx => hW'.lt x (by simpa using hx)
  refine ⟨ds, [], p ++ [], [], p, [], hW', ?_, ?_, ?_, hb.frame _, fun h => by cases h⟩
  · rw [hs.1, hrt]
    exact trodAll_mk1 (shut_bool hbt true)
  · rw [hs.2.1]
    exact trodAll_below hl hb _ _ _ _ hr hA hlt
  · rw [hs.2.2, hvars]
    exact rfl
end
/-! ### Arguments that are structs of ints, whatever their depth -/
def tileFields (P : Program) (g : TypeId → Option Nat) : List Field → Nat → Option Nat
  | [], off => some off
  | f :: r, off => if f.offset = off then match g f.type with
      | some m => if P.cellsOf f.type = m then tileFields P g r (off + m) else none
      | none => none
    else none
def flatInt (P : Program) : Nat → TypeId → Option Nat
  | 0, _ => none
  | k + 1, t => match P.underlying t with
    | some (.int .i64) => some 1
    | some (.struct fs) => tileFields P (flatInt P k) fs.toList 0
    | _ => none

def inI64 (z : Int) : Prop := -9223372036854775808 ≤ z ∧ z ≤ 9223372036854775807

theorem mapM_each {α β : Type} {g : α → Option β} : ∀ {l : List α} {ys : List β}, l.mapM g = some ys → ∀ a ∈ l, ∃ y, g a = some y
  | [], _, _, _, ha => by cases ha
  | a :: l, ys, h, b, hb => by
    rw [List.mapM_cons] at h
    obtain ⟨y, hy, h⟩ := Option.bind_eq_some_iff.1 h
    obtain ⟨zs, hzs, _⟩ := Option.bind_eq_some_iff.1 h
    rcases List.mem_cons.1 hb with rfl | hb
    · exact ⟨y, hy⟩
    · exact mapM_each hzs b hb

section
variable {H : Type} {enc : TypeId × Value → H} {P : Program} {w : World} {base : Nat} {spare : Nat → Bool} {held : Bool}

theorem flat_int_one {t : TypeId} (hu : P.underlying t = some (.int .i64)) {fuel : Nat} {cs : List Value} {x : DataW H × List MemPlace} (h : DataW.trod enc P w base spare held fuel t cs = some x) :
    ∃ z, cs = ints [z] ∧ inI64 z := by
  obtain ⟨z, rfl, _, hw⟩ := DataW.trod_int hu h
  exact ⟨z, rfl, by simpa [Lit.wf, IntKind.min, IntKind.max, IntKind.signed, IntKind.bits, inI64] using hw⟩

theorem flat_ints : ∀ (k : Nat) (t : TypeId) (n : Nat), flatInt P k t = some n → ∀ {fuel : Nat} {cs : List Value} {x : DataW H × List MemPlace}, DataW.trod enc P w base spare held fuel t cs = some x → P.cellsOf t = n →
    ∃ zs : List Int, cs = ints zs ∧ zs.length = n ∧ ∀ z ∈ zs, inI64 z
  | 0, _, _, h0, _, _, _, _, _ => by simp [flatInt] at h0
  | k + 1, t, n, h0, fuel, cs, x, h, hn => by
    unfold flatInt at h0
    split at h0
    · rename_i hu
      injection h0 with h0
      obtain ⟨z, rfl, hz⟩ := flat_int_one hu h
      exact ⟨[z], rfl, by simpa using h0, by simpa using hz⟩
    · rename_i fs hu
      obtain ⟨ys, m, hm, _, hlen, hyl, hf⟩ := DataW.trod_struct hu h
      have key : ∀ (l : List Field) (off n : Nat), tileFields P (flatInt P k) l off = some n → (∀ f ∈ l, ∃ y, DataW.trod enc P w base spare held m f.type ((cs.drop f.offset).take (P.cellsOf f.type)) = some y) →
          off ≤ n ∧ ∃ zs : List Int, (cs.drop off).take (n - off) = ints zs ∧ zs.length = n - off ∧ ∀ z ∈ zs, inI64 z := by
        intro l
        induction l with
        | nil =>
          intro off n h1 _
          simp only [tileFields, Option.some.injEq] at h1
          subst h1
          exact ⟨Nat.le_refl _, [], by simp [ints], by simp, by simp⟩
        | cons f r ih =>
          intro off n h1 h2
          unfold tileFields at h1
          split at h1
          · rename_i hoff
            split at h1
            · rename_i q hq
              split at h1
              · rename_i hc
                obtain ⟨y, hy⟩ := h2 f List.mem_cons_self
                obtain ⟨zs, hz, hzl, hzb⟩ := flat_ints k f.type q hq hy hc
                obtain ⟨h3, zs', hz', hzl', hzb'⟩ := ih (off + q) n h1 (fun g hg => h2 g (List.mem_cons_of_mem _ hg))
                refine ⟨by omega, zs ++ zs', ?_, by simp [hzl, hzl']; omega, ?_⟩
                · rw [ints_append, ← hz, ← hz', hoff, hc]
                  rw [show n - off = q + (n - (off + q)) by omega, List.take_add, List.drop_drop]
                · intro z hz0
                  rcases List.mem_append.1 hz0 with h | h
                  · exact hzb z h
                  · exact hzb' z h
              · cases h1
            · cases h1
          · cases h1
      obtain ⟨_, zs, hz, hzl, hzb⟩ := key fs.toList 0 n h0 (fun f hf0 => by
        obtain ⟨j, hj⟩ := List.mem_iff_getElem?.1 hf0
        have hj' : fs[j]? = some f := by simpa using hj
        have h1 := hf j f hj'
        have hjl : j < ys.length := by
          have := (Array.getElem?_eq_some_iff.1 hj').1
          omega
        exact ⟨ys[j], h1.trans (List.getElem?_eq_getElem hjl)⟩)
      have hcs : cs.length = n := by rw [hlen]; exact hn
      refine ⟨zs, ?_, by simpa using hzl, hzb⟩
      rw [← hz]
      simp [← hcs]
    · cases h0
end

theorem addr_add_add (a : Addr) (i j : Nat) : (a.add i).add j = a.add (i + j) := by
  unfold Addr.add
  by_cases hi : i = 0 <;> by_cases hj : j = 0 <;> simp [hi, hj, Nat.add_assoc]

theorem cell_spot {w : World} {a : Addr} {u : Value} (h : w.cell? a = some u) : a.spot = none := by
  unfold World.cell? at h
  split at h
  · split at h
    · cases h
    · rename_i hs
      cases hsp : a.spot with
      | none => rfl
      | some x => rw [hsp] at hs; simp at hs
  · cases h

def isFlat (P : Program) (t n : Nat) : Bool := flatInt P 8 t == some n && P.cellsOf t == n
def isStructT (P : Program) (t : Nat) : Bool := match P.underlying t with | some (.struct _) => true | _ => false
def isSliceT (P : Program) (t e : Nat) : Bool := match P.underlying t with | some (.slice e') => e' == e | _ => false

section
variable {H : Type} {enc : TypeId × Value → H} {P : Program} {w : World} {spare : Nat → Bool} {held : Bool}

theorem open_flat {r : Reach} {b0 t n : Nat} {v : Value} {d : DataW H} {p : List MemPlace} (hk : (isFlat P t n && isStructT P t) = true) (hv : Value.okWide P w r b0 t v) (h : DataW.Trod enc P w 0 spare held t v d p) :
    ∃ zs : List Int, v = .agg (ints zs).toArray ∧ zs.length = n ∧ ∀ z ∈ zs, inI64 z := by
  simp only [isFlat, Bool.and_eq_true, beq_iff_eq] at hk
  obtain ⟨⟨hf, hc⟩, hs⟩ := hk
  unfold isStructT at hs
  split at hs
  · rename_i fs hu
    obtain ⟨cs, rfl, _⟩ := okWide_struct hu hv
    obtain ⟨fuel, hf'⟩ := h
    obtain ⟨zs, hz, hl, hb⟩ := flat_ints 8 t n hf hf' hc
    refine ⟨zs, ?_, hl, hb⟩
    congr 1
    rw [← hz]
    rfl
  · cases hs

theorem open_flat_slice {r : Reach} {b0 t e n : Nat} {v : Value} {d : DataW H} {p : List MemPlace} (hk : (isSliceT P t e && isFlat P e n && decide (0 < n)) = true) (hv : Value.okWide P w r b0 t v) (h : DataW.Trod enc P w 0 spare held t v d p) :
    ∃ (len : Nat) (zs : List Int), zs.length = len * n ∧ Sees w n v len (ints zs) ∧ ∀ z ∈ zs, inI64 z := by
  simp only [isFlat, Bool.and_eq_true, beq_iff_eq, decide_eq_true_eq] at hk
  obtain ⟨⟨hs, hf, hc⟩, hn⟩ := hk
  unfold isSliceT at hs
  split at hs
  · rename_i e' hu
    have he : e' = e := by simpa using hs
    subst he
    obtain ⟨A, len, cap, rfl⟩ := okWide_slice hu hv
    obtain ⟨fuel, hf'⟩ := h
    rcases Go.Deep.open_slice hu hf' with ⟨h0, _⟩ | ⟨a, len', cap', m, k, D, Pl, h0, _, hl, hm, hmm, _, hi⟩
    · have h0' : Value.slice A len cap = .slice none 0 0 := by simpa [Value.cells] using h0
      injection h0' with h1 h2 h3
      subst h1; subst h2; subst h3
      exact ⟨0, [], by simp, Sees.nil_ _ _, by simp⟩
    · have h0' : Value.slice A len cap = .slice (some a) len' cap' := by simpa [Value.cells] using h0
      injection h0' with h1 h2 h3
      subst h1; subst h2; subst h3
      have hml : len ≤ m := by rw [hmm]; split <;> omega
      have key : ∀ q, q ≤ len → ∃ zs : List Int, zs.length = q * n ∧ (∀ j u, (ints zs)[j]? = some u → w.cell? (a.add j) = some u) ∧ ∀ z ∈ zs, inI64 z := by
        intro q
        induction q with
        | zero => exact fun _ => ⟨[], by simp, by simp [ints], by simp⟩
        | succ q ih =>
          intro hq
          obtain ⟨zs, hzl, hzc, hzb⟩ := ih (by omega)
          obtain ⟨cs', hcs, ht⟩ := hi q (by omega)
          obtain ⟨ys, rfl, hyl, hyb⟩ := flat_ints 8 _ n hf ht hc
          obtain ⟨_, _, hcell⟩ := World.cells?_some hcs
          refine ⟨zs ++ ys, by rw [List.length_append, hzl, hyl, Nat.succ_mul], fun j u hu => ?_, fun z hz => ?_⟩
          · rw [ints_append] at hu
            rcases Nat.lt_or_ge j (ints zs).length with hj | hj
            · rw [List.getElem?_append_left hj] at hu
              exact hzc j u hu
            · rw [List.getElem?_append_right hj, ints_length, hzl] at hu
              rw [ints_length, hzl] at hj
              have hjn : j - q * n < n := by
                have := (List.getElem?_eq_some_iff.1 hu).1
                rw [ints_length, hyl] at this
                exact this
              have := hcell (j - q * n) (by rw [hc]; exact hjn)
              rw [addr_add_add, hc, hu] at this
              rwa [show q * n + (j - q * n) = j by omega] at this
          · rcases List.mem_append.1 hz with h | h
            · exact hzb z h
            · exact hyb z h
      obtain ⟨zs, hzl, hzc, hzb⟩ := key len (Nat.le_refl _)
      refine ⟨len, zs, hzl, ⟨by rw [ints_length, hzl], some a, cap, rfl, hl, hm, fun hlen => ?_⟩, hzb⟩
      have hpos : 0 < zs.length := by rw [hzl]; exact Nat.mul_pos hlen hn
      have h00 := hzc 0 _ (ints_getD zs 0 hpos)
      have e0 : a.add 0 = a := by unfold Addr.add; simp
      rw [e0] at h00
      have hsp := cell_spot h00
      obtain ⟨b, off, spot⟩ := a
      simp only at hsp
      subst hsp
      refine ⟨b, off, rfl, World.block_lt_of_cell? w _ h00, fun j u hu => ?_⟩
      have := hzc j u hu
      have e : (⟨b, off, none⟩ : Addr).add j = ⟨b, off + j, none⟩ := by unfold Addr.add; split <;> simp_all
      rwa [e] at this
  · cases hs
end
theorem list1 : ∀ {zs : List Int}, zs.length = 1 → ∃ a, zs = [a]
  | [a], _ => ⟨a, rfl⟩
theorem list2 : ∀ {zs : List Int}, zs.length = 2 → ∃ a b, zs = [a, b]
  | [a, b], _ => ⟨a, b, rfl⟩
theorem list3 : ∀ {zs : List Int}, zs.length = 3 → ∃ a b c, zs = [a, b, c]
  | [a, b, c], _ => ⟨a, b, c, rfl⟩
theorem list4 : ∀ {zs : List Int}, zs.length = 4 → ∃ a b c d, zs = [a, b, c, d]
  | [a, b, c, d], _ => ⟨a, b, c, d, rfl⟩
end Go.Proofs.Ytdfpceobfficfaa
