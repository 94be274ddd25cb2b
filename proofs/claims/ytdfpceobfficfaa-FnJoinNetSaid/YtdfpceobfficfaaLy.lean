/-
  Rows of matrices and of layers: what is seen, what is owned. No statement about the program is made here.
-/
import Derived.Test.YtdfpceobfficfaaMx
import Derived.Test.YtdfpceobfficfaaRow
import Derived.Test.YtdfpceobfficfaaOpenS
namespace Go.Proofs.Ytdfpceobfficfaa
set_option linter.unusedSimpArgs false
set_option linter.unusedVariables false
set_option linter.unusedSectionVars false
open Go Go.RowKit
structure Ly where
  kind : Int
  ws : List Mx
/-- A row of matrices that is seen. -/
def SeesMs (w : World) (v : Value) (ms : List Mx) : Prop :=
  ∃ A cap, v = .slice A ms.length cap ∧ ms.length ≤ cap ∧ cap ≤ maxLen ∧ (0 < ms.length → ∃ b off, A = some ⟨b, off, none⟩ ∧ b < w.heap.size ∧
    ∀ q m, ms[q]? = some m → ∃ u, w.cell? ⟨b, off + q * 3, none⟩ = some (.int .i64 m.r) ∧ w.cell? ⟨b, off + q * 3 + 1, none⟩ = some (.int .i64 m.c) ∧ w.cell? ⟨b, off + q * 3 + 2, none⟩ = some u ∧ Ints w u m.xs)
/-- A row of layers that is seen. -/
def SeesLs (w : World) (v : Value) (ls : List Ly) : Prop :=
  ∃ A cap, v = .slice A ls.length cap ∧ ls.length ≤ cap ∧ cap ≤ maxLen ∧ (0 < ls.length → ∃ b off, A = some ⟨b, off, none⟩ ∧ b < w.heap.size ∧
    ∀ q l, ls[q]? = some l → ∃ u, w.cell? ⟨b, off + q * 2, none⟩ = some (.int .i64 l.kind) ∧ w.cell? ⟨b, off + q * 2 + 1, none⟩ = some u ∧ SeesMs w u l.ws)
theorem SeesMs.below {w w' : World} {v : Value} {ms : List Mx} (h : SeesMs w v ms) (hb : Below w.heap.size w w') : SeesMs w' v ms := by
  obtain ⟨A, cap, rfl, h1, h2, h3⟩ := h
  refine ⟨A, cap, rfl, h1, h2, fun hn => ?_⟩
  obtain ⟨b, off, rfl, hlt, h4⟩ := h3 hn
  refine ⟨b, off, rfl, Nat.lt_of_lt_of_le hlt hb.size, fun q m hq => ?_⟩
  obtain ⟨u, c1, c2, c3, hu⟩ := h4 q m hq
  exact ⟨u, (hb.cell (p := ⟨b, off + q * 3, none⟩) hlt).trans c1, (hb.cell (p := ⟨b, off + q * 3 + 1, none⟩) hlt).trans c2, (hb.cell (p := ⟨b, off + q * 3 + 2, none⟩) hlt).trans c3, Sees.below hu hb⟩
theorem SeesLs.below {w w' : World} {v : Value} {ls : List Ly} (h : SeesLs w v ls) (hb : Below w.heap.size w w') : SeesLs w' v ls := by
  obtain ⟨A, cap, rfl, h1, h2, h3⟩ := h
  refine ⟨A, cap, rfl, h1, h2, fun hn => ?_⟩
  obtain ⟨b, off, rfl, hlt, h4⟩ := h3 hn
  refine ⟨b, off, rfl, Nat.lt_of_lt_of_le hlt hb.size, fun q m hq => ?_⟩
  obtain ⟨u, c1, c2, hu⟩ := h4 q m hq
  exact ⟨u, (hb.cell (p := ⟨b, off + q * 2, none⟩) hlt).trans c1, (hb.cell (p := ⟨b, off + q * 2 + 1, none⟩) hlt).trans c2, hu.below hb⟩
theorem SeesMs.at_ {w0 w : World} {L : List Ent} {v : Value} {ms : List Mx} (h : SeesMs w0 v ms) (S : St w0 w L) : SeesMs w v ms := h.below S.below
theorem SeesLs.at_ {w0 w : World} {L : List Ent} {v : Value} {ls : List Ly} (h : SeesLs w0 v ls) (S : St w0 w L) : SeesLs w v ls := h.below S.below
theorem SeesMs.nil_ (w : World) : SeesMs w (.slice none 0 0) [] := ⟨none, 0, rfl, Nat.le_refl _, by simp [maxLen], fun h => absurd h (by simp)⟩

theorem St.perm {w0 w : World} {L L' : List Ent} (S : St w0 w L) (h : L.Perm L') : St w0 w L' :=
  ⟨S.below, fun e he => S.own e (h.mem_iff.2 he), (h.pairwise_iff (fun {x y} (hab : Ent.apart x y) k hk hk' => hab k hk' hk)).1 S.apart⟩

/-- Chunks of one size, one after the other. -/
theorem chunk_get {α : Type} (f : α → List Value) (s : Nat) (hs : ∀ x, (f x).length = s) : ∀ (l : List α) (q j : Nat), j < s → (l.flatMap f)[q * s + j]? = (l[q]?).bind fun x => (f x)[j]?
  | [], q, j, _ => by simp
  | x :: l, 0, j, hj => by
    rw [List.flatMap_cons, Nat.zero_mul, Nat.zero_add, List.getElem?_append_left (by rw [hs]; exact hj)]
    rfl
  | x :: l, q + 1, j, hj => by
    rw [List.flatMap_cons, List.getElem?_append_right (by rw [hs, Nat.succ_mul]; omega), hs, Nat.succ_mul, show q * s + s + j - s = q * s + j by omega, chunk_get f s hs l q j hj]
    simp
theorem chunk_len {α : Type} (f : α → List Value) (s : Nat) (hs : ∀ x, (f x).length = s) : ∀ (l : List α), (l.flatMap f).length = l.length * s
  | [] => by simp
  | x :: l => by rw [List.flatMap_cons, List.length_append, chunk_len f s hs l, hs, List.length_cons, Nat.succ_mul]; omega

/-- A row of matrices that is owned: the slices of the values, and the matrices. -/
abbrev MsO := List (Value × Mx)
def cellM (p : Value × Mx) : List Value := [.int .i64 p.2.r, .int .i64 p.2.c, p.1]
def rowM (p : Value × Mx) : Ent := .row 3 1 p.1 p.2.xs.length (ints p.2.xs)
def cellsM (ps : MsO) : List Value := ps.flatMap cellM
def rowsM (ps : MsO) : List Ent := ps.map rowM
def entsM (u : Value) (ps : MsO) : List Ent := .row 55 3 u ps.length (cellsM ps) :: rowsM ps
/-- A row of layers that is owned: the slices of the weights, the kinds, the matrices. -/
abbrev LsO := List (Value × Int × MsO)
def cellL (q : Value × Int × MsO) : List Value := [.int .i64 q.2.1, q.1]
def rowL (q : Value × Int × MsO) : List Ent := entsM q.1 q.2.2
def lyO (q : Value × Int × MsO) : Ly := ⟨q.2.1, q.2.2.map Prod.snd⟩
def cellsL (qs : LsO) : List Value := qs.flatMap cellL
def rowsL (qs : LsO) : List Ent := qs.flatMap rowL
def entsL (u : Value) (qs : LsO) : List Ent := .row 33 2 u qs.length (cellsL qs) :: rowsL qs
theorem cellsM_len (ps : MsO) : (cellsM ps).length = ps.length * 3 := chunk_len cellM 3 (fun _ => rfl) ps
theorem cellsL_len (qs : LsO) : (cellsL qs).length = qs.length * 2 := chunk_len cellL 2 (fun _ => rfl) qs
theorem cellsM_add (ps qs : MsO) : cellsM (ps ++ qs) = cellsM ps ++ cellsM qs := by simp [cellsM]
theorem cellsL_add (ps qs : LsO) : cellsL (ps ++ qs) = cellsL ps ++ cellsL qs := by simp [cellsL]
theorem rowsM_add (ps qs : MsO) : rowsM (ps ++ qs) = rowsM ps ++ rowsM qs := by simp [rowsM]
theorem rowsL_add (ps qs : LsO) : rowsL (ps ++ qs) = rowsL ps ++ rowsL qs := by simp [rowsL]
theorem splice_app (A B vs : List Value) (i : Nat) (hi : A.length = i) : splice (A ++ B) i vs = A ++ vs ++ B.drop vs.length := by
  subst hi
  unfold splice
  rw [List.take_left, List.drop_append, List.drop_of_length_le (by omega : A.length ≤ A.length + vs.length), List.nil_append, Nat.add_sub_cancel_left]

theorem sees_ms {w0 w : World} {L : List Ent} (S : St w0 w L) {u : Value} {ps : MsO} (h : ∀ e ∈ entsM u ps, e ∈ L) : SeesMs w u (ps.map Prod.snd) := by
  obtain ⟨hl, A, cap, rfl, hc, hm, hA⟩ := Sees.own (S.own _ (h _ List.mem_cons_self))
  refine ⟨A, cap, by rw [List.length_map], by rw [List.length_map]; exact hc, hm, fun hn => ?_⟩
  rw [List.length_map] at hn
  obtain ⟨b, off, rfl, hb, h3⟩ := hA hn
  refine ⟨b, off, rfl, hb, fun q m hq => ?_⟩
  rw [List.getElem?_map] at hq
  obtain ⟨p, hp, rfl⟩ := Option.map_eq_some_iff.1 hq
  have e : ∀ j, j < 3 → (cellsM ps)[q * 3 + j]? = (cellM p)[j]? := fun j hj => by
    rw [cellsM, chunk_get cellM 3 (fun _ => rfl) ps q j hj, hp]; rfl
  have hr : rowM p ∈ L := h _ (List.mem_cons_of_mem _ (List.mem_map_of_mem (List.mem_of_getElem? hp)))
  have hI := Sees.own (S.own _ hr)
  refine ⟨p.1, ?_, ?_, ?_, hI⟩
  · have := h3 (q * 3) _ ((e 0 (by omega)).trans rfl)
    exact this
  · have := h3 (q * 3 + 1) _ ((e 1 (by omega)).trans rfl)
    rwa [← Nat.add_assoc] at this
  · have := h3 (q * 3 + 2) _ ((e 2 (by omega)).trans rfl)
    rwa [← Nat.add_assoc] at this
theorem sees_ls {w0 w : World} {L : List Ent} (S : St w0 w L) {u : Value} {qs : LsO} (h : ∀ e ∈ entsL u qs, e ∈ L) : SeesLs w u (qs.map lyO) := by
  obtain ⟨hl, A, cap, rfl, hc, hm, hA⟩ := Sees.own (S.own _ (h _ List.mem_cons_self))
  refine ⟨A, cap, by rw [List.length_map], by rw [List.length_map]; exact hc, hm, fun hn => ?_⟩
  rw [List.length_map] at hn
  obtain ⟨b, off, rfl, hb, h3⟩ := hA hn
  refine ⟨b, off, rfl, hb, fun q m hq => ?_⟩
  rw [List.getElem?_map] at hq
  obtain ⟨p, hp, rfl⟩ := Option.map_eq_some_iff.1 hq
  have e : ∀ j, j < 2 → (cellsL qs)[q * 2 + j]? = (cellL p)[j]? := fun j hj => by
    rw [cellsL, chunk_get cellL 2 (fun _ => rfl) qs q j hj, hp]; rfl
  have hr : ∀ e ∈ rowL p, e ∈ L := fun e he => h _ (List.mem_cons_of_mem _ (List.mem_flatMap.2 ⟨p, List.mem_of_getElem? hp, he⟩))
  refine ⟨p.1, ?_, ?_, sees_ms S hr⟩
  · have := h3 (q * 2) _ ((e 0 (by omega)).trans rfl)
    exact this
  · have := h3 (q * 2 + 1) _ ((e 1 (by omega)).trans rfl)
    rwa [← Nat.add_assoc] at this

/-! ### Arguments -/
theorem list_of {α : Type} {Pr : Nat → α → Prop} : ∀ (n : Nat), (∀ q, q < n → ∃ x, Pr q x) → ∃ xs : List α, xs.length = n ∧ ∀ q x, xs[q]? = some x → Pr q x
  | 0, _ => ⟨[], rfl, fun q x h => by simp at h⟩
  | n + 1, h => by
    obtain ⟨xs, hl, hx⟩ := list_of n (fun q hq => h q (by omega))
    obtain ⟨y, hy⟩ := h n (by omega)
    refine ⟨xs ++ [y], by simp [hl], fun q x hq => ?_⟩
    rcases Nat.lt_or_ge q xs.length with h1 | h1
    · rw [List.getElem?_append_left h1] at hq
      exact hx q x hq
    · rw [List.getElem?_append_right h1] at hq
      have h2 : q - xs.length < 1 := (List.getElem?_eq_some_iff.1 hq).1
      obtain rfl : q = xs.length := by omega
      simp at hq
      subst hq
      rw [hl]
      exact hy
theorem reads_ms {w : World} {cs : List Value} (h : Reads w (.slice 3 mxShp) cs) : ∃ v ms, cs = [v] ∧ SeesMs w v ms := by
  obtain ⟨A, len, cap, rfl, h1, h2, h3⟩ := h
  rcases Nat.eq_zero_or_pos len with rfl | hlen
  · exact ⟨_, [], rfl, A, cap, rfl, h1, h2, fun h => absurd h (by simp)⟩
  · obtain ⟨b, off, rfl, hb, hq⟩ := h3 hlen
    obtain ⟨ms, hl, hx⟩ := list_of (Pr := fun q (m : Mx) => ∃ u, w.cell? ⟨b, off + q * 3, none⟩ = some (.int .i64 m.r) ∧ w.cell? ⟨b, off + q * 3 + 1, none⟩ = some (.int .i64 m.c) ∧ w.cell? ⟨b, off + q * 3 + 2, none⟩ = some u ∧ Ints w u m.xs) len (fun q hq0 => by
      obtain ⟨cs', _, hc, hr⟩ := hq q hq0
      obtain ⟨r, c, v, xs, rfl, hv⟩ := reads_mx hr
      exact ⟨⟨r, c, xs⟩, v, hc 0 _ rfl, hc 1 _ rfl, hc 2 _ rfl, hv⟩)
    subst hl
    exact ⟨_, ms, rfl, _, cap, rfl, h1, h2, fun _ => ⟨b, off, rfl, hb, hx⟩⟩
def lyShp : Shp := .cons .int (.cons (.slice 3 mxShp) .nil)
theorem reads_ly {w : World} {cs : List Value} (h : Reads w lyShp cs) : ∃ k v ms, cs = [.int .i64 k, v] ∧ SeesMs w v ms := by
  obtain ⟨_, _, rfl, ⟨k, rfl, _⟩, _, _, rfl, h, h0⟩ := h
  obtain ⟨v, ms, rfl, hv⟩ := reads_ms h
  cases h0
  exact ⟨k, v, ms, rfl, hv⟩
theorem reads_ls {w : World} {cs : List Value} (h : Reads w (.slice 2 lyShp) cs) : ∃ v ls, cs = [v] ∧ SeesLs w v ls := by
  obtain ⟨A, len, cap, rfl, h1, h2, h3⟩ := h
  rcases Nat.eq_zero_or_pos len with rfl | hlen
  · exact ⟨_, [], rfl, A, cap, rfl, h1, h2, fun h => absurd h (by simp)⟩
  · obtain ⟨b, off, rfl, hb, hq⟩ := h3 hlen
    obtain ⟨ls, hl, hx⟩ := list_of (Pr := fun q (l : Ly) => ∃ u, w.cell? ⟨b, off + q * 2, none⟩ = some (.int .i64 l.kind) ∧ w.cell? ⟨b, off + q * 2 + 1, none⟩ = some u ∧ SeesMs w u l.ws) len (fun q hq0 => by
      obtain ⟨cs', _, hc, hr⟩ := hq q hq0
      obtain ⟨k, v, ms, rfl, hv⟩ := reads_ly hr
      exact ⟨⟨k, ms⟩, v, hc 0 _ rfl, hc 1 _ rfl, hv⟩)
    subst hl
    exact ⟨_, ls, rfl, _, cap, rfl, h1, h2, fun _ => ⟨b, off, rfl, hb, hx⟩⟩
section
open Go.ChangeShapes Go.WideShapes Go.ChangeAt
variable {H : Type} {enc : TypeId × Value → H} {P : Program} {w : World} {spare : Nat → Bool} {held : Bool}
theorem open_ls {r : Reach} {b0 t e : Nat} {v : Value} {d : DataW H} {p : List MemPlace} (hk : (isSliceT P t e && (P.cellsOf t == 1) && decide (shapeOf P 12 t = some (.slice 2 lyShp))) = true) (hv : Value.okWide P w r b0 t v) (h : DataW.Trod enc P w 0 spare held t v d p) :
    ∃ ls, SeesLs w v ls := by
  simp only [Bool.and_eq_true, beq_iff_eq, decide_eq_true_eq] at hk
  obtain ⟨⟨hs, hc⟩, hsh⟩ := hk
  unfold isSliceT at hs
  split at hs
  · rename_i e' hu
    obtain ⟨A, len, cap, rfl⟩ := okWide_slice hu hv
    obtain ⟨fuel, hf⟩ := h
    obtain ⟨v', ls, e, hl⟩ := reads_ls (reads_of 12 t _ hsh hf hc).1
    have e' : Value.slice A len cap = v' := by simpa [Value.cells] using e
    subst e'
    exact ⟨ls, hl⟩
  · cases hs
end
end Go.Proofs.Ytdfpceobfficfaa
