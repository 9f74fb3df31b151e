/- The kinds of the program's types, by their numbers in this translation. -/
import Derived.Test.YtenigopoknajgaaDoorBase
import Derived.Test.YtenigopoknajgaaDoorData
import Derived.Test.YtenigopoknajgaaDoorProg
namespace Go.Proofs.YtenigopoknajgaaDoor
open Go.RowKit
def cellC (x : Cell) : List Value := [.int .i64 x.kind, .int .i64 x.n, .string x.name]
abbrev Cell.agg (x : Cell) : Value := .agg #[.int .i64 x.kind, .int .i64 x.n, .string x.name]
def kInt : Kd Int := Kd.int 3
def kByte : Kd UInt8 := Kd.byte 5
def kCell : Kd Cell := Kd.iso 54 (Kd.pair (Kd.int 3) (Kd.pair (Kd.int 3) (Kd.str 9))) (fun x : Cell => (x.kind, x.n, x.name))
theorem kCell_open {w : World} {ok : Nat → Prop} {x : Cell} {cs : List Value} (h : kCell.K w ok x cs) : cs = cellC x ∧ x.name.size ≤ 1073741824 := by
  obtain ⟨_, _, rfl, ⟨rfl, _⟩, ⟨_, _, rfl, ⟨rfl, _⟩, ⟨rfl, h⟩⟩⟩ := h
  exact ⟨rfl, h⟩
theorem kCell_mk (w : World) (S : Nat → Prop) (x : Cell) (h : x.name.size ≤ 1073741824) : kCell.O w S x (cellC x) :=
  ⟨fun _ => False, fun _ => False, [.int .i64 x.kind], [.int .i64 x.n, .string x.name], rfl, fun _ h => h.elim, fun _ h => h.elim, ⟨rfl, trivial⟩,
    fun _ => False, fun _ => False, [.int .i64 x.n], [.string x.name], rfl, fun _ h => h.elim, fun _ h => h.elim, ⟨rfl, trivial⟩, rfl, h⟩
theorem kCell_none (w : World) (x : Cell) (h : x.name.size ≤ 1073741824) : kCell.O w (fun _ => False) x [.int .i64 x.kind, .int .i64 x.n, .string x.name] := kCell_mk w _ x h
/-- Element i of a row of places, in the walk's spelling. -/
theorem cell_at {w : World} {ok : Nat → Prop} {A : Option Addr} {xs : Term} (h : kCell.C w ok A xs) (i : Nat) (hi : i < xs.length) : ∃ b off, A = some ⟨b, off, none⟩ ∧ ok b ∧
    w.cell? ⟨b, off + i * 3, none⟩ = some (.int .i64 xs[i].kind) ∧ w.cell? ⟨b, off + i * 3 + 1, none⟩ = some (.int .i64 xs[i].n) ∧ w.cell? ⟨b, off + i * 3 + 2, none⟩ = some (.string xs[i].name) ∧ xs[i].name.size ≤ 1073741824 := by
  obtain ⟨b, off, cs, hA, hb, hK, hc⟩ := Kd.C_get h (List.getElem?_eq_getElem hi)
  obtain ⟨rfl, hn⟩ := kCell_open hK
  exact ⟨b, off, hA, hb, hc 0 _ rfl, hc 1 _ rfl, hc 2 _ rfl, hn⟩

theorem kCell_Os {w : World} : ∀ {xs : Term} {S : Nat → Prop} {cs : List Value}, kCell.Os w S xs cs ↔ cs = xs.flatMap cellC ∧ ∀ x ∈ xs, x.name.size ≤ 1073741824
  | [], S, cs => by simp [Kd.Os]
  | x :: xs, S, cs => by
    constructor
    · rintro ⟨S1, S2, c0, c1, rfl, _, _, h1, h2⟩
      obtain ⟨rfl, hn⟩ := kCell_open (kCell.O_K h1)
      obtain ⟨rfl, hm⟩ := kCell_Os.1 h2
      exact ⟨rfl, fun y hy => by rcases List.mem_cons.1 hy with rfl | hy; exact hn; exact hm y hy⟩
    · rintro ⟨rfl, hm⟩
      exact ⟨fun _ => False, fun _ => False, cellC x, xs.flatMap cellC, rfl, fun _ h => h.elim, fun _ h => h.elim, kCell_mk w _ x (hm x List.mem_cons_self), kCell_Os.2 ⟨rfl, fun y hy => hm y (List.mem_cons_of_mem _ hy)⟩⟩
theorem flat_len (xs : Term) : (xs.flatMap cellC).length = xs.length * 3 := by
  induction xs with
  | nil => rfl
  | cons x r ih => rw [List.flatMap_cons, List.length_append, ih]; simp [cellC]; omega
theorem flat_set (xs : Term) (i j : Nat) (x' : Cell) (u : Value) (hi : i < xs.length) (hj : j < 3) (h : cellC x' = (cellC xs[i]).set j u) : (xs.flatMap cellC).set (i * 3 + j) u = (xs.set i x').flatMap cellC := by
  induction xs generalizing i with
  | nil => simp at hi
  | cons x r ih =>
    cases i with
    | zero =>
      simp only [List.getElem_cons_zero] at h
      simp only [List.set_cons_zero, List.flatMap_cons, h]
      rw [List.set_append_left _ _ (by simp [cellC]; omega)]
      simp
    | succ i =>
      simp only [List.getElem_cons_succ] at h
      simp only [List.set_cons_succ, List.flatMap_cons]
      rw [List.set_append_right _ _ (by simp [cellC]; omega)]
      have e : (i + 1) * 3 + j - (cellC x).length = i * 3 + j := by simp [cellC]; omega
      rw [e, ih i (by simpa using hi) h]
theorem kCell_Ks {w : World} {ok : Nat → Prop} : ∀ {xs : Term} {cs : List Value}, kCell.Ks w ok xs cs → cs = xs.flatMap cellC ∧ ∀ x ∈ xs, x.name.size ≤ 1073741824
  | [], cs, h => ⟨h, by simp⟩
  | x :: xs, cs, h => by
    obtain ⟨c0, c1, rfl, h1, h2⟩ := h
    obtain ⟨rfl, hn⟩ := kCell_open h1
    obtain ⟨rfl, hm⟩ := kCell_Ks h2
    exact ⟨rfl, fun y hy => by rcases List.mem_cons.1 hy with rfl | hy; exact hn; exact hm y hy⟩
theorem kCell_W_R {w : World} {S ok : Nat → Prop} {v : Value} {xs : Term} (h : kCell.W w S ok v xs) : kCell.R w S v xs := by
  obtain ⟨h0, ⟨rfl, rfl⟩ | ⟨b, cap, cur, rfl, hb, hS, h1, h2, h3, h4⟩⟩ := h
  · exact ⟨h0, .inl ⟨rfl, rfl⟩⟩
  · exact ⟨h0, .inr ⟨b, cap, cur, rfl, hb, hS, h1, h2, h3, kCell_Os.2 (kCell_Ks h4)⟩⟩
/-- A field of an element of a row of one's own is written. -/
theorem kCell_store {w : World} {S : Nat → Prop} {b n cap : Nat} {t : Term} (h : kCell.R w S (.slice (some ⟨b, 0, none⟩) n cap) t) (i j : Nat) (x' : Cell) (u : Value) (hi : i < t.length) (hj : j < 3) (hx : cellC x' = (cellC t[i]).set j u) (hn : x'.name.size ≤ 1073741824) :
    kCell.R (w.setCell ⟨b, i * 3 + j, none⟩ u) S (.slice (some ⟨b, 0, none⟩) n cap) (t.set i x') := by
  obtain ⟨h0, h⟩ := h
  refine ⟨by rw [List.length_set]; exact h0, .inr ?_⟩
  rcases h with ⟨h, _⟩ | ⟨b', cap', cur, hv, hb, hS, h1, h2, h3, h4⟩
  · cases h
  · simp only [Value.slice.injEq, Option.some.injEq, Addr.mk.injEq, and_true] at hv
    obtain ⟨rfl, rfl, rfl⟩ := hv
    have hsz : kCell.sz = 3 := rfl
    rw [hsz] at h3 h4
    obtain ⟨e, hm⟩ := kCell_Os.1 h4
    refine ⟨b, cap, cur.setIfInBounds (i * 3 + j) u, by rw [List.length_set], ?_, hS, by rw [List.length_set]; exact h1, h2, by rw [hsz]; simp [h3], ?_⟩
    · simp only [World.setCell, Array.getElem?_modify, hb]; simp
    · refine kCell_Os.2 ⟨?_, fun y hy => ?_⟩
      · rw [List.length_set, hsz, ← flat_set t i j x' u hi hj hx, ← e, Array.toList_setIfInBounds, List.take_set]
      · rcases List.mem_or_eq_of_mem_set hy with hy | rfl
        · exact hm y hy
        · exact hn
/-- What is cut off at the end of a row of one's own. -/
theorem kCell_cut {w : World} {S : Nat → Prop} {A : Option Addr} {n cap : Nat} {t : Term} (h : kCell.R w S (.slice A n cap) t) (k : Nat) (hk : k ≤ t.length) : kCell.R w S (.slice A k cap) (t.take k) := by
  obtain ⟨h0, h⟩ := h
  have hl : (t.take k).length = k := by rw [List.length_take]; omega
  refine ⟨by omega, ?_⟩
  rcases h with ⟨h, rfl⟩ | ⟨b', cap', cur, hv, hb, hS, h1, h2, h3, h4⟩
  · left
    cases h
    simp at hk
    subst hk
    exact ⟨rfl, rfl⟩
  · right
    simp only [Value.slice.injEq] at hv
    obtain ⟨rfl, rfl, rfl⟩ := hv
    refine ⟨b', cap, cur, by rw [hl], hb, hS, by omega, h2, h3, ?_⟩
    have hsz : kCell.sz = 3 := rfl
    rw [hsz] at h4 ⊢
    obtain ⟨e, hm⟩ := kCell_Os.1 h4
    refine kCell_Os.2 ⟨?_, fun y hy => hm y (List.mem_of_mem_take hy)⟩
    have hf : (t.take k).flatMap cellC = (t.flatMap cellC).take (k * 3) := by
      conv => rhs; rw [← List.take_append_drop k t, List.flatMap_append]
      rw [List.take_left' (by rw [flat_len, hl])]
    rw [hf, ← e, hl, List.take_take]
    congr 1
    omega
end Go.Proofs.YtenigopoknajgaaDoor
