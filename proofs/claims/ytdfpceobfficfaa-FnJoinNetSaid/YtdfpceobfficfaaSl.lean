/-
  Rows of shared matrices and of shared layers: what is seen, what is owned. No statement about the program is made here.
-/
import Derived.Test.YtdfpceobfficfaaLy
namespace Go.Proofs.Ytdfpceobfficfaa
set_option linter.unusedSimpArgs false
set_option linter.unusedVariables false
set_option linter.unusedSectionVars false
open Go Go.RowKit
structure SLy where
  kind : Int
  ws : List SMx
/-- A row of shared matrices that is seen. -/
def SeesSMs (w : World) (v : Value) (ms : List SMx) : Prop :=
  ∃ A cap, v = .slice A ms.length cap ∧ ms.length ≤ cap ∧ cap ≤ maxLen ∧ (0 < ms.length → ∃ b off, A = some ⟨b, off, none⟩ ∧ b < w.heap.size ∧
    ∀ q m, ms[q]? = some m → ∃ u t, w.cell? ⟨b, off + q * 6, none⟩ = some (.int .i64 m.a.r) ∧ w.cell? ⟨b, off + q * 6 + 1, none⟩ = some (.int .i64 m.a.c) ∧ w.cell? ⟨b, off + q * 6 + 2, none⟩ = some u ∧
      w.cell? ⟨b, off + q * 6 + 3, none⟩ = some (.int .i64 m.b.r) ∧ w.cell? ⟨b, off + q * 6 + 4, none⟩ = some (.int .i64 m.b.c) ∧ w.cell? ⟨b, off + q * 6 + 5, none⟩ = some t ∧ Ints w u m.a.xs ∧ Ints w t m.b.xs)
/-- A row of shared layers that is seen. -/
def SeesSLs (w : World) (v : Value) (ls : List SLy) : Prop :=
  ∃ A cap, v = .slice A ls.length cap ∧ ls.length ≤ cap ∧ cap ≤ maxLen ∧ (0 < ls.length → ∃ b off, A = some ⟨b, off, none⟩ ∧ b < w.heap.size ∧
    ∀ q l, ls[q]? = some l → ∃ u, w.cell? ⟨b, off + q * 2, none⟩ = some (.int .i64 l.kind) ∧ w.cell? ⟨b, off + q * 2 + 1, none⟩ = some u ∧ SeesSMs w u l.ws)
theorem SeesSMs.below {w w' : World} {v : Value} {ms : List SMx} (h : SeesSMs w v ms) (hb : Below w.heap.size w w') : SeesSMs w' v ms := by
  obtain ⟨A, cap, rfl, h1, h2, h3⟩ := h
  refine ⟨A, cap, rfl, h1, h2, fun hn => ?_⟩
  obtain ⟨b, off, rfl, hlt, h4⟩ := h3 hn
  refine ⟨b, off, rfl, Nat.lt_of_lt_of_le hlt hb.size, fun q m hq => ?_⟩
  obtain ⟨u, t, c1, c2, c3, c4, c5, c6, hu, ht⟩ := h4 q m hq
  exact ⟨u, t, (hb.cell (p := ⟨b, off + q * 6, none⟩) hlt).trans c1, (hb.cell (p := ⟨b, off + q * 6 + 1, none⟩) hlt).trans c2, (hb.cell (p := ⟨b, off + q * 6 + 2, none⟩) hlt).trans c3,
    (hb.cell (p := ⟨b, off + q * 6 + 3, none⟩) hlt).trans c4, (hb.cell (p := ⟨b, off + q * 6 + 4, none⟩) hlt).trans c5, (hb.cell (p := ⟨b, off + q * 6 + 5, none⟩) hlt).trans c6, Sees.below hu hb, Sees.below ht hb⟩
theorem SeesSLs.below {w w' : World} {v : Value} {ls : List SLy} (h : SeesSLs w v ls) (hb : Below w.heap.size w w') : SeesSLs w' v ls := by
  obtain ⟨A, cap, rfl, h1, h2, h3⟩ := h
  refine ⟨A, cap, rfl, h1, h2, fun hn => ?_⟩
  obtain ⟨b, off, rfl, hlt, h4⟩ := h3 hn
  refine ⟨b, off, rfl, Nat.lt_of_lt_of_le hlt hb.size, fun q m hq => ?_⟩
  obtain ⟨u, c1, c2, hu⟩ := h4 q m hq
  exact ⟨u, (hb.cell (p := ⟨b, off + q * 2, none⟩) hlt).trans c1, (hb.cell (p := ⟨b, off + q * 2 + 1, none⟩) hlt).trans c2, hu.below hb⟩
theorem SeesSMs.at_ {w0 w : World} {L : List Ent} {v : Value} {ms : List SMx} (h : SeesSMs w0 v ms) (S : St w0 w L) : SeesSMs w v ms := h.below S.below
theorem SeesSLs.at_ {w0 w : World} {L : List Ent} {v : Value} {ls : List SLy} (h : SeesSLs w0 v ls) (S : St w0 w L) : SeesSLs w v ls := h.below S.below

/-- A row of shared matrices that is owned: the slices of the values, and the matrices. -/
abbrev SMsO := List (Value × Value × SMx)
def cellSM (p : Value × Value × SMx) : List Value := [.int .i64 p.2.2.a.r, .int .i64 p.2.2.a.c, p.1, .int .i64 p.2.2.b.r, .int .i64 p.2.2.b.c, p.2.1]
def rowSM (p : Value × Value × SMx) : List Ent := [.row 3 1 p.1 p.2.2.a.xs.length (ints p.2.2.a.xs), .row 3 1 p.2.1 p.2.2.b.xs.length (ints p.2.2.b.xs)]
def smO (p : Value × Value × SMx) : SMx := p.2.2
def cellsSM (ps : SMsO) : List Value := ps.flatMap cellSM
def rowsSM (ps : SMsO) : List Ent := ps.flatMap rowSM
def entsSM (u : Value) (ps : SMsO) : List Ent := .row 67 6 u ps.length (cellsSM ps) :: rowsSM ps
/-- A row of shared layers that is owned: the slices of the weights, the kinds, the matrices. -/
abbrev SLsO := List (Value × Int × SMsO)
def cellSL (q : Value × Int × SMsO) : List Value := [.int .i64 q.2.1, q.1]
def rowSL (q : Value × Int × SMsO) : List Ent := entsSM q.1 q.2.2
def slyO (q : Value × Int × SMsO) : SLy := ⟨q.2.1, q.2.2.map smO⟩
def cellsSL (qs : SLsO) : List Value := qs.flatMap cellSL
def rowsSL (qs : SLsO) : List Ent := qs.flatMap rowSL
def entsSL (u : Value) (qs : SLsO) : List Ent := .row 36 2 u qs.length (cellsSL qs) :: rowsSL qs
theorem cellsSM_len (ps : SMsO) : (cellsSM ps).length = ps.length * 6 := chunk_len cellSM 6 (fun _ => rfl) ps
theorem cellsSL_len (qs : SLsO) : (cellsSL qs).length = qs.length * 2 := chunk_len cellSL 2 (fun _ => rfl) qs
theorem cellsSM_add (ps qs : SMsO) : cellsSM (ps ++ qs) = cellsSM ps ++ cellsSM qs := by simp [cellsSM]
theorem cellsSL_add (ps qs : SLsO) : cellsSL (ps ++ qs) = cellsSL ps ++ cellsSL qs := by simp [cellsSL]
theorem rowsSM_add (ps qs : SMsO) : rowsSM (ps ++ qs) = rowsSM ps ++ rowsSM qs := by simp [rowsSM]
theorem rowsSL_add (ps qs : SLsO) : rowsSL (ps ++ qs) = rowsSL ps ++ rowsSL qs := by simp [rowsSL]

theorem sees_sms {w0 w : World} {L : List Ent} (S : St w0 w L) {u : Value} {ps : SMsO} (h : ∀ e ∈ entsSM u ps, e ∈ L) : SeesSMs w u (ps.map smO) := by
  obtain ⟨hl, A, cap, rfl, hc, hm, hA⟩ := Sees.own (S.own _ (h _ List.mem_cons_self))
  refine ⟨A, cap, by rw [List.length_map], by rw [List.length_map]; exact hc, hm, fun hn => ?_⟩
  rw [List.length_map] at hn
  obtain ⟨b, off, rfl, hb, h3⟩ := hA hn
  refine ⟨b, off, rfl, hb, fun q m hq => ?_⟩
  rw [List.getElem?_map] at hq
  obtain ⟨p, hp, rfl⟩ := Option.map_eq_some_iff.1 hq
  have e : ∀ j, j < 6 → (cellsSM ps)[q * 6 + j]? = (cellSM p)[j]? := fun j hj => by
    rw [cellsSM, chunk_get cellSM 6 (fun _ => rfl) ps q j hj, hp]; rfl
  have hr : ∀ e ∈ rowSM p, e ∈ L := fun e he => h _ (List.mem_cons_of_mem _ (List.mem_flatMap.2 ⟨p, List.mem_of_getElem? hp, he⟩))
  have hI := Sees.own (S.own _ (hr _ List.mem_cons_self))
  have hJ := Sees.own (S.own _ (hr _ (List.mem_cons_of_mem _ List.mem_cons_self)))
  refine ⟨p.1, p.2.1, ?_, ?_, ?_, ?_, ?_, ?_, hI, hJ⟩
  · have := h3 (q * 6) _ ((e 0 (by omega)).trans rfl)
    exact this
  · have := h3 (q * 6 + 1) _ ((e 1 (by omega)).trans rfl)
    rwa [← Nat.add_assoc] at this
  · have := h3 (q * 6 + 2) _ ((e 2 (by omega)).trans rfl)
    rwa [← Nat.add_assoc] at this
  · have := h3 (q * 6 + 3) _ ((e 3 (by omega)).trans rfl)
    rwa [← Nat.add_assoc] at this
  · have := h3 (q * 6 + 4) _ ((e 4 (by omega)).trans rfl)
    rwa [← Nat.add_assoc] at this
  · have := h3 (q * 6 + 5) _ ((e 5 (by omega)).trans rfl)
    rwa [← Nat.add_assoc] at this
theorem sees_sls {w0 w : World} {L : List Ent} (S : St w0 w L) {u : Value} {qs : SLsO} (h : ∀ e ∈ entsSL u qs, e ∈ L) : SeesSLs w u (qs.map slyO) := by
  obtain ⟨hl, A, cap, rfl, hc, hm, hA⟩ := Sees.own (S.own _ (h _ List.mem_cons_self))
  refine ⟨A, cap, by rw [List.length_map], by rw [List.length_map]; exact hc, hm, fun hn => ?_⟩
  rw [List.length_map] at hn
  obtain ⟨b, off, rfl, hb, h3⟩ := hA hn
  refine ⟨b, off, rfl, hb, fun q m hq => ?_⟩
  rw [List.getElem?_map] at hq
  obtain ⟨p, hp, rfl⟩ := Option.map_eq_some_iff.1 hq
  have e : ∀ j, j < 2 → (cellsSL qs)[q * 2 + j]? = (cellSL p)[j]? := fun j hj => by
    rw [cellsSL, chunk_get cellSL 2 (fun _ => rfl) qs q j hj, hp]; rfl
  have hr : ∀ e ∈ rowSL p, e ∈ L := fun e he => h _ (List.mem_cons_of_mem _ (List.mem_flatMap.2 ⟨p, List.mem_of_getElem? hp, he⟩))
  refine ⟨p.1, ?_, ?_, sees_sms S hr⟩
  · have := h3 (q * 2) _ ((e 0 (by omega)).trans rfl)
    exact this
  · have := h3 (q * 2 + 1) _ ((e 1 (by omega)).trans rfl)
    rwa [← Nat.add_assoc] at this

/-! ### Arguments -/
theorem reads_sms {w : World} {cs : List Value} (h : Reads w (.slice 6 smxShp) cs) : ∃ v ms, cs = [v] ∧ SeesSMs w v ms := by
  obtain ⟨A, len, cap, rfl, h1, h2, h3⟩ := h
  rcases Nat.eq_zero_or_pos len with rfl | hlen
  · exact ⟨_, [], rfl, A, cap, rfl, h1, h2, fun h => absurd h (by simp)⟩
  · obtain ⟨b, off, rfl, hb, hq⟩ := h3 hlen
    obtain ⟨ms, hl, hx⟩ := list_of (Pr := fun q (m : SMx) => ∃ u t, w.cell? ⟨b, off + q * 6, none⟩ = some (.int .i64 m.a.r) ∧ w.cell? ⟨b, off + q * 6 + 1, none⟩ = some (.int .i64 m.a.c) ∧ w.cell? ⟨b, off + q * 6 + 2, none⟩ = some u ∧
      w.cell? ⟨b, off + q * 6 + 3, none⟩ = some (.int .i64 m.b.r) ∧ w.cell? ⟨b, off + q * 6 + 4, none⟩ = some (.int .i64 m.b.c) ∧ w.cell? ⟨b, off + q * 6 + 5, none⟩ = some t ∧ Ints w u m.a.xs ∧ Ints w t m.b.xs) len (fun q hq0 => by
      obtain ⟨cs', _, hc, hr⟩ := hq q hq0
      obtain ⟨r, c, u, xs, r', c', v, ys, rfl, hu, hv⟩ := reads_smx hr
      exact ⟨⟨⟨r, c, xs⟩, ⟨r', c', ys⟩⟩, u, v, hc 0 _ rfl, hc 1 _ rfl, hc 2 _ rfl, hc 3 _ rfl, hc 4 _ rfl, hc 5 _ rfl, hu, hv⟩)
    subst hl
    exact ⟨_, ms, rfl, _, cap, rfl, h1, h2, fun _ => ⟨b, off, rfl, hb, hx⟩⟩
def slyShp : Shp := .cons .int (.cons (.slice 6 smxShp) .nil)
theorem reads_sly {w : World} {cs : List Value} (h : Reads w slyShp cs) : ∃ k v ms, cs = [.int .i64 k, v] ∧ SeesSMs w v ms := by
  obtain ⟨_, _, rfl, ⟨k, rfl, _⟩, _, _, rfl, h, h0⟩ := h
  obtain ⟨v, ms, rfl, hv⟩ := reads_sms h
  cases h0
  exact ⟨k, v, ms, rfl, hv⟩
theorem reads_sls {w : World} {cs : List Value} (h : Reads w (.slice 2 slyShp) cs) : ∃ v ls, cs = [v] ∧ SeesSLs w v ls := by
  obtain ⟨A, len, cap, rfl, h1, h2, h3⟩ := h
  rcases Nat.eq_zero_or_pos len with rfl | hlen
  · exact ⟨_, [], rfl, A, cap, rfl, h1, h2, fun h => absurd h (by simp)⟩
  · obtain ⟨b, off, rfl, hb, hq⟩ := h3 hlen
    obtain ⟨ls, hl, hx⟩ := list_of (Pr := fun q (l : SLy) => ∃ u, w.cell? ⟨b, off + q * 2, none⟩ = some (.int .i64 l.kind) ∧ w.cell? ⟨b, off + q * 2 + 1, none⟩ = some u ∧ SeesSMs w u l.ws) len (fun q hq0 => by
      obtain ⟨cs', _, hc, hr⟩ := hq q hq0
      obtain ⟨k, v, ms, rfl, hv⟩ := reads_sly hr
      exact ⟨⟨k, ms⟩, v, hc 0 _ rfl, hc 1 _ rfl, hv⟩)
    subst hl
    exact ⟨_, ls, rfl, _, cap, rfl, h1, h2, fun _ => ⟨b, off, rfl, hb, hx⟩⟩
section
open Go.ChangeShapes Go.WideShapes Go.ChangeAt
variable {H : Type} {enc : TypeId × Value → H} {P : Program} {w : World} {spare : Nat → Bool} {held : Bool}
/-- A row of structs of a shape, as an argument. -/
theorem open_row {r : Reach} {b0 t e s : Nat} {sh : Shp} {v : Value} {d : DataW H} {p : List MemPlace} (hk : (isSliceT P t e && (P.cellsOf t == 1) && decide (shapeOf P 12 t = some (.slice s sh))) = true) (hv : Value.okWide P w r b0 t v) (h : DataW.Trod enc P w 0 spare held t v d p) :
    Reads w (.slice s sh) [v] := by
  simp only [Bool.and_eq_true, beq_iff_eq, decide_eq_true_eq] at hk
  obtain ⟨⟨hs, hc⟩, hsh⟩ := hk
  unfold isSliceT at hs
  split at hs
  · rename_i e' hu
    obtain ⟨A, len, cap, rfl⟩ := okWide_slice hu hv
    obtain ⟨fuel, hf⟩ := h
    exact (reads_of 12 t _ hsh hf hc).1
  · cases hs
theorem open_sls {r : Reach} {b0 t e : Nat} {v : Value} {d : DataW H} {p : List MemPlace} (hk : (isSliceT P t e && (P.cellsOf t == 1) && decide (shapeOf P 12 t = some (.slice 2 slyShp))) = true) (hv : Value.okWide P w r b0 t v) (h : DataW.Trod enc P w 0 spare held t v d p) :
    ∃ ls, SeesSLs w v ls := by
  obtain ⟨v', ls, e, hl⟩ := reads_sls (open_row hk hv h)
  injection e with e
  exact ⟨ls, e ▸ hl⟩
theorem open_sms {r : Reach} {b0 t e : Nat} {v : Value} {d : DataW H} {p : List MemPlace} (hk : (isSliceT P t e && (P.cellsOf t == 1) && decide (shapeOf P 12 t = some (.slice 6 smxShp))) = true) (hv : Value.okWide P w r b0 t v) (h : DataW.Trod enc P w 0 spare held t v d p) :
    ∃ ms, SeesSMs w v ms := by
  obtain ⟨v', ms, e, hl⟩ := reads_sms (open_row hk hv h)
  injection e with e
  exact ⟨ms, e ▸ hl⟩
end
end Go.Proofs.Ytdfpceobfficfaa
