/- Boxes of a call; names that the printed texts use. No program in sight but for its kinds. -/
import Derived.Test.YtenigopoknajgaaDoorEx3
import Derived.Test.YtenigopoknajgaaDoorFld
namespace Go.Proofs.YtenigopoknajgaaDoor
open Go.RowKit
set_option linter.unusedVariables false
/-- A block's cells. -/
theorem box_cells {w w' : World} {b : Nat} {cs : Array Value} {t : TypeId} (hB : Below w.heap.size w w') (h : w.heap[b]? = some (.cells cs t (0, 0))) : w'.heap[b]? = some (.cells cs t (0, 0)) ∧ (∀ j u, cs[j]? = some u → w'.cell? ⟨b, j, none⟩ = some u) ∧ ∀ j, w'.frozen? ⟨b, j, none⟩ = false := by
  have h' := (hB.block b (Array.getElem?_eq_some_iff.1 h).1).trans h
  refine ⟨h', fun j u hj => ?_, fun j => by simp [World.frozen?, h']⟩
  rw [cell_of_row w' b _ cs t (0, 0) h']; exact hj
theorem box_at {w' : World} {b : Nat} {cs : Array Value} {t : TypeId} (h' : w'.heap[b]? = some (.cells cs t (0, 0))) : w'.heap[b]? = some (.cells cs t (0, 0)) ∧ (∀ j u, cs[j]? = some u → w'.cell? ⟨b, j, none⟩ = some u) ∧ ∀ j, w'.frozen? ⟨b, j, none⟩ = false :=
  ⟨h', fun j u hj => by rw [cell_of_row w' b _ cs t (0, 0) h']; exact hj, fun j => by simp [World.frozen?, h']⟩
theorem box_store {w : World} {b : Nat} {cs : Array Value} {t : TypeId} (j : Nat) (u : Value) (h : w.heap[b]? = some (.cells cs t (0, 0))) : (w.setCell ⟨b, j, none⟩ u).heap[b]? = some (.cells (cs.setIfInBounds j u) t (0, 0)) := by
  simp only [World.setCell, Array.getElem?_modify, h]; simp
/-- The call's own boxes. -/
def Own (w : World) (n : Nat) (k : Nat) : Prop := w.heap.size ≤ k ∧ k < w.heap.size + n
theorem Foot.call {S : Nat → Prop} {w W w1 : World} (h : Foot S w W) (k : Below W.heap.size W w1) : Foot S w w1 := h.trans (Foot.of_below (S := S) k) (fun _ _ h => h)
theorem Foot.own {w w1 : World} {n : Nat} (h : Foot (Own w n) w w1) : Below w.heap.size w w1 := h.below (Below.refl _ _) (fun k hk => hk.1)
theorem Foot.R {α : Type} {d : Kd α} {T S : Nat → Prop} {w w1 : World} {v : Value} {x : List α} (h : Foot T w w1) (hR : d.R w S v x) (hd : ∀ k, S k → ¬ T k) : d.R w1 S v x := Kd.R_move (h.keeps hd) hR
theorem Foot.O {α : Type} {d : Kd α} {T S : Nat → Prop} {w w1 : World} {c : List Value} {x : α} (h : Foot T w w1) (hR : d.O w S x c) (hd : ∀ k, S k → ¬ T k) : d.O w1 S x c := d.O_move (h.keeps hd) hR
theorem box1 (w : World) (a : Obj) : (w.alloc a).heap[w.heap.size]? = some a := heap_alloc_new w a
theorem box2 (w : World) (a b : Obj) : ((w.alloc a).alloc b).heap[w.heap.size]? = some a ∧ ((w.alloc a).alloc b).heap[w.heap.size + 1]? = some b :=
  ⟨(Below.heap_alloc _ _ _ (by simp)).trans (box1 w a), by have := box1 (w.alloc a) b; simpa using this⟩
theorem box3 (w : World) (a b c : Obj) : (((w.alloc a).alloc b).alloc c).heap[w.heap.size]? = some a ∧ (((w.alloc a).alloc b).alloc c).heap[w.heap.size + 1]? = some b ∧ (((w.alloc a).alloc b).alloc c).heap[w.heap.size + 1 + 1]? = some c :=
  ⟨(Below.heap_alloc _ _ _ (by simp; omega)).trans (box2 w a b).1, (Below.heap_alloc _ _ _ (by simp)).trans (box2 w a b).2, by have := box1 ((w.alloc a).alloc b) c; simpa using this⟩
theorem Kd.O_pair0 {α β : Type} {d : Kd α} {e : Kd β} {w : World} {x : α} {y : β} {c0 c1 : List Value} (h0 : d.O w (fun _ => False) x c0) (h1 : e.O w (fun _ => False) y c1) : (Kd.pair d e).O w (fun _ => False) (x, y) (c0 ++ c1) :=
  ⟨_, _, c0, c1, rfl, fun _ h => h.elim, fun _ h => h.elim, h0, h1⟩
theorem rCell_fits : Raw.Fits rCell kCell := Raw.fits_iso (Raw.fits_pair (Raw.fits_int _ _) (Raw.fits_pair (Raw.fits_int _ _) (Raw.fits_str _ _))) _ _ _
theorem rCell_opn : Raw.Opn Tryd.prog rCell := Raw.opn_struct Tryd.underlying71 (by kernel_rfl) (fun b => ⟨⟨b.1, b.2.1, b.2.2⟩, rfl⟩) (Raw.opnF_cons (Raw.opn_int Tryd.underlying3) rfl rfl (by kernel_rfl) (by decide) (Raw.opnF_cons (Raw.opn_int Tryd.underlying3) rfl rfl (by kernel_rfl) (by decide) (Raw.opnF_last (Raw.opn_str Tryd.underlying9) rfl rfl (by kernel_rfl) (by decide))))
theorem Mk.cnts_le6 {α : Type} {m : Mk α} {r : Raw α} (h : ∀ x, m.cnt x ≤ 8 + 8 * r.wt x) (xs : List α) : m.cnts xs ≤ 8 * r.wts xs := by
  unfold Mk.cnts Raw.wts
  induction xs with
  | nil => simp
  | cons x xs ih =>
    have := h x
    simp only [List.map_cons, List.sum_cons, List.length_cons]
    omega
theorem szSCell_c (v : Value) (t : Term) (left : Nat) (hl : left ≤ 1048576) (w : World) (hV : rCell.V w v t) :
    Calls Tryd.prog 14 #[v, .int .i64 left] w fun e w' => e = .returned (.int .i64 (Raw.spent (rCell.wts t) left)) ∧ Below w.heap.size w w' := szCells_c v t left hl w hV
theorem toSCell_c (v : Value) (t : Term) (ok : Nat → Prop) (w : World) (hV : kCell.V w ok v t) :
    Calls Tryd.prog 15 #[v] w fun e w' => ∃ u, e = .returned u ∧ kCell.R w' (fun k => w.heap.size ≤ k) u t ∧ Below w.heap.size w w' := toCells_c v t ok w hV
theorem eqSCell_c (v u : Value) (t s : Term) (ok ok' : Nat → Prop) (w : World) (hV : kCell.V w ok v t) (hU : kCell.V w ok' u s) :
    Calls Tryd.prog 17 #[v, u] w fun e w' => e = .returned (.bool (decide (t = s))) ∧ Below w.heap.size w w' := eqCells_c v u t s ok ok' w hV hU
end Go.Proofs.YtenigopoknajgaaDoor
