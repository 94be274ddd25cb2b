/-
  Arguments that are structs of ints and slices, whatever their depth.
-/
import Derived.Test.YtdfpceobfficfaaLaw
namespace Go.Proofs.Ytdfpceobfficfaa
set_option linter.unusedSimpArgs false
set_option linter.unusedVariables false
set_option linter.unusedSectionVars false
open Go Go.RowKit Go.ChangeShapes Go.WideShapes Go.ChangeAt
inductive Shp where
  | int
  | slice (n : Nat) (e : Shp)
  | nil
  | cons (s r : Shp)
deriving DecidableEq
def Shp.size : Shp → Nat
  | .int => 1
  | .slice _ _ => 1
  | .nil => 0
  | .cons s r => s.size + r.size
def Reads (w : World) : Shp → List Value → Prop
  | .int, cs => ∃ z, cs = ints [z] ∧ inI64 z
  | .slice n e, cs => ∃ A len cap, cs = [.slice A len cap] ∧ len ≤ cap ∧ cap ≤ maxLen ∧ (0 < len → ∃ b off, A = some ⟨b, off, none⟩ ∧ b < w.heap.size ∧
      ∀ q, q < len → ∃ cs', cs'.length = n ∧ (∀ j u, cs'[j]? = some u → w.cell? ⟨b, off + q * n + j, none⟩ = some u) ∧ Reads w e cs')
  | .nil, cs => cs = []
  | .cons s r, cs => ∃ a b, cs = a ++ b ∧ Reads w s a ∧ Reads w r b
def shapeFields (P : Program) (g : TypeId → Option Shp) : List Field → Nat → Option Shp
  | [], _ => some .nil
  | f :: r, off => if f.offset = off then match g f.type with
      | some s => if P.cellsOf f.type = s.size then (shapeFields P g r (off + s.size)).map (Shp.cons s) else none
      | none => none
    else none
def shapeOf (P : Program) : Nat → TypeId → Option Shp
  | 0, _ => none
  | k + 1, t => match P.underlying t with
    | some (.int .i64) => some .int
    | some (.slice e) => match shapeOf P k e with
      | some s => if P.cellsOf e = s.size ∧ 0 < s.size then some (.slice s.size s) else none
      | none => none
    | some (.struct fs) => shapeFields P (shapeOf P k) fs.toList 0
    | _ => none
section
variable {H : Type} {enc : TypeId × Value → H} {P : Program} {w : World} {spare : Nat → Bool} {held : Bool}
theorem reads_of : ∀ (k : Nat) (t : TypeId) (s : Shp), shapeOf P k t = some s → ∀ {fuel : Nat} {cs : List Value} {x : DataW H × List MemPlace}, DataW.trod enc P w 0 spare held fuel t cs = some x → P.cellsOf t = s.size →
    Reads w s cs ∧ cs.length = s.size
  | 0, _, _, h0, _, _, _, _, _ => by simp [shapeOf] at h0
  | k + 1, t, s, h0, fuel, cs, x, h, hn => by
    unfold shapeOf at h0
    split at h0
    · rename_i hu
      injection h0 with h0
      subst h0
      obtain ⟨z, rfl, hz⟩ := flat_int_one hu h
      exact ⟨⟨z, rfl, hz⟩, rfl⟩
    · rename_i e hu
      split at h0
      rotate_left
      · cases h0
      rename_i s' hs'
      split at h0
      rotate_left
      · cases h0
      rename_i hc
      injection h0 with h0
      subst h0
      obtain ⟨hc, hpos⟩ := hc
      rcases Go.Deep.open_slice hu h with ⟨h0, _⟩ | ⟨a, len, cap, m, k', D, Pl, h0, _, hl, hm, hmm, _, hi⟩
      · subst h0
        exact ⟨⟨none, 0, 0, rfl, Nat.le_refl _, by simp [maxLen], fun h => absurd h (by omega)⟩, rfl⟩
      · subst h0
        refine ⟨⟨some a, len, cap, rfl, hl, hm, fun hlen => ?_⟩, rfl⟩
        have hml : len ≤ m := by rw [hmm]; split <;> omega
        have key : ∀ q, q < len → ∃ cs', cs'.length = s'.size ∧ (∀ j u, cs'[j]? = some u → w.cell? (a.add (q * s'.size + j)) = some u) ∧ Reads w s' cs' := by
          intro q hq
          obtain ⟨cs', hcs, ht⟩ := hi q (by omega)
          obtain ⟨hr, hlen'⟩ := reads_of k e s' hs' ht hc
          obtain ⟨_, _, hcell⟩ := World.cells?_some hcs
          refine ⟨cs', hlen', fun j u hu => ?_, hr⟩
          have hj : j < s'.size := by rw [← hlen']; exact (List.getElem?_eq_some_iff.1 hu).1
          have := hcell j (by rw [hc]; exact hj)
          rw [addr_add_add, hc, hu] at this
          exact this
        obtain ⟨cs0, hl0, hc0, _⟩ := key 0 hlen
        have h00 := hc0 0 _ (List.getElem?_eq_getElem (by omega))
        have e0 : a.add (0 * s'.size + 0) = a := by unfold Addr.add; simp
        rw [e0] at h00
        have hsp := cell_spot h00
        obtain ⟨b, off, spot⟩ := a
        simp only at hsp
        subst hsp
        refine ⟨b, off, rfl, World.block_lt_of_cell? w _ h00, fun q hq => ?_⟩
        obtain ⟨cs', h1, h2, h3⟩ := key q hq
        refine ⟨cs', h1, fun j u hu => ?_, h3⟩
        have := h2 j u hu
        have e : (⟨b, off, none⟩ : Addr).add (q * s'.size + j) = ⟨b, off + q * s'.size + j, none⟩ := by unfold Addr.add; split <;> simp_all [Nat.add_assoc]
        rwa [e] at this
    · rename_i fs hu
      obtain ⟨ys, m, hm, _, hlen, hyl, hf⟩ := DataW.trod_struct hu h
      have key : ∀ (l : List Field) (off : Nat) (s : Shp), shapeFields P (shapeOf P k) l off = some s → (∀ f ∈ l, ∃ y, DataW.trod enc P w 0 spare held m f.type ((cs.drop f.offset).take (P.cellsOf f.type)) = some y) →
          Reads w s ((cs.drop off).take s.size) ∧ ((cs.drop off).take s.size).length = s.size := by
        intro l
        induction l with
        | nil =>
          intro off s h1 _
          simp only [shapeFields, Option.some.injEq] at h1
          subst h1
          exact ⟨by simp [Reads, Shp.size], by simp [Shp.size]⟩
        | cons f r ih =>
          intro off s h1 h2
          unfold shapeFields at h1
          split at h1
          · rename_i hoff
            split at h1
            · rename_i q hq
              split at h1
              · rename_i hc
                obtain ⟨s2, hs2, rfl⟩ := Option.map_eq_some_iff.1 h1
                obtain ⟨y, hy⟩ := h2 f List.mem_cons_self
                obtain ⟨hr, hl⟩ := reads_of k f.type q hq hy hc
                obtain ⟨hr2, hl2⟩ := ih (off + q.size) s2 hs2 (fun g hg => h2 g (List.mem_cons_of_mem _ hg))
                have e : (cs.drop off).take (q.size + s2.size) = (cs.drop off).take q.size ++ (cs.drop (off + q.size)).take s2.size := by
                  rw [List.take_add, List.drop_drop]
                rw [hoff, hc] at hr hl
                refine ⟨⟨_, _, e, hr, hr2⟩, ?_⟩
                show ((cs.drop off).take (q.size + s2.size)).length = q.size + s2.size
                rw [e, List.length_append, hl, hl2]
              · cases h1
            · cases h1
          · cases h1
      obtain ⟨h1, h2⟩ := key fs.toList 0 s h0 (fun f hf0 => by
        obtain ⟨j, hj⟩ := List.mem_iff_getElem?.1 hf0
        have hj' : fs[j]? = some f := by simpa using hj
        have h1 := hf j f hj'
        have hjl : j < ys.length := by
          have := (Array.getElem?_eq_some_iff.1 hj').1
          omega
        exact ⟨ys[j], h1.trans (List.getElem?_eq_getElem hjl)⟩)
      have hcs : cs.length = s.size := by rw [hlen]; exact hn
      rw [List.drop_zero, ← hcs, List.take_length] at h1
      exact ⟨h1, hcs⟩
    · cases h0
/-- A slice of ints. -/
theorem reads_ints {cs : List Value} (h : Reads w (.slice 1 .int) cs) : ∃ v xs, cs = [v] ∧ Ints w v xs := by
  obtain ⟨A, len, cap, rfl, h1, h2, h3⟩ := h
  rcases Nat.eq_zero_or_pos len with rfl | hlen
  · exact ⟨_, [], rfl, rfl, A, cap, rfl, h1, h2, fun h => absurd h (by simp)⟩
  · obtain ⟨b, off, rfl, hb, hq⟩ := h3 hlen
    have key : ∀ q, q ≤ len → ∃ xs : List Int, xs.length = q ∧ ∀ j u, (ints xs)[j]? = some u → w.cell? ⟨b, off + j, none⟩ = some u := by
      intro q
      induction q with
      | zero => exact fun _ => ⟨[], rfl, fun j u hu => by simp [ints] at hu⟩
      | succ q ih =>
        intro hle
        obtain ⟨xs, hl, hc⟩ := ih (by omega)
        obtain ⟨cs', _, hc', z, rfl, _⟩ := hq q (by omega)
        refine ⟨xs ++ [z], by simp [hl], fun j u hu => ?_⟩
        rw [ints_append] at hu
        rcases Nat.lt_or_ge j (ints xs).length with hj | hj
        · rw [List.getElem?_append_left hj] at hu
          exact hc j u hu
        · rw [List.getElem?_append_right hj, ints_length, hl] at hu
          rw [ints_length, hl] at hj
          have hj0 : j - q < 1 := (List.getElem?_eq_some_iff.1 hu).1
          obtain rfl : j = q := by omega
          have := hc' 0 u (by simpa using hu)
          simpa using this
    obtain ⟨xs, hl, hc⟩ := key len (Nat.le_refl _)
    exact ⟨_, xs, rfl, by rw [ints_length]; omega, some ⟨b, off, none⟩, cap, by rw [hl], by omega, h2, fun _ => ⟨b, off, rfl, hb, hc⟩⟩
def mxShp : Shp := .cons .int (.cons .int (.cons (.slice 1 .int) .nil))
def smxShp : Shp := .cons mxShp (.cons mxShp .nil)
theorem reads_mx {cs : List Value} (h : Reads w mxShp cs) : ∃ r c v xs, cs = [.int .i64 r, .int .i64 c, v] ∧ Ints w v xs := by
  obtain ⟨_, _, rfl, ⟨r, rfl, _⟩, _, _, rfl, ⟨c, rfl, _⟩, _, _, rfl, h, h0⟩ := h
  obtain ⟨v, xs, rfl, hv⟩ := reads_ints h
  cases h0
  exact ⟨r, c, v, xs, rfl, hv⟩
theorem reads_smx {cs : List Value} (h : Reads w smxShp cs) : ∃ r c u xs r' c' v ys, cs = [.int .i64 r, .int .i64 c, u, .int .i64 r', .int .i64 c', v] ∧ Ints w u xs ∧ Ints w v ys := by
  obtain ⟨_, _, rfl, h1, _, _, rfl, h2, h0⟩ := h
  obtain ⟨r, c, u, xs, rfl, hu⟩ := reads_mx h1
  obtain ⟨r', c', v, ys, rfl, hv⟩ := reads_mx h2
  cases h0
  exact ⟨r, c, u, xs, r', c', v, ys, rfl, hu, hv⟩
def isShape (P : Program) (t : Nat) (s : Shp) : Bool := P.cellsOf t == s.size && decide (shapeOf P 12 t = some s)
theorem shape_of {r : Reach} {b0 t : Nat} {s : Shp} {v : Value} {d : DataW H} {p : List MemPlace} (hk : (isShape P t s && isStructT P t) = true) (hv : Value.okWide P w r b0 t v) (h : DataW.Trod enc P w 0 spare held t v d p) :
    ∃ cs : List Value, v = .agg cs.toArray ∧ Reads w s cs := by
  simp only [isShape, Bool.and_eq_true, beq_iff_eq, decide_eq_true_eq] at hk
  obtain ⟨⟨hc, hf⟩, hs⟩ := hk
  unfold isStructT at hs
  split at hs
  · rename_i fs hu
    obtain ⟨cs, rfl, _⟩ := okWide_struct hu hv
    obtain ⟨fuel, hf'⟩ := h
    exact ⟨_, rfl, (reads_of 12 t s hf hf' hc).1⟩
  · cases hs
theorem open_smx {r : Reach} {b0 t : Nat} {v : Value} {d : DataW H} {p : List MemPlace} (hk : (isShape P t smxShp && isStructT P t) = true) (hv : Value.okWide P w r b0 t v) (h : DataW.Trod enc P w 0 spare held t v d p) :
    ∃ r c u xs r' c' u' ys, v = .agg #[.int .i64 r, .int .i64 c, u, .int .i64 r', .int .i64 c', u'] ∧ Ints w u xs ∧ Ints w u' ys := by
  obtain ⟨cs, rfl, hr⟩ := shape_of hk hv h
  obtain ⟨r, c, u, xs, r', c', v, ys, rfl, h1, h2⟩ := reads_smx hr
  exact ⟨r, c, u, xs, r', c', v, ys, rfl, h1, h2⟩
end
end Go.Proofs.Ytdfpceobfficfaa
