/- Draws of places that may be no term. Conditions: the reader has been asked no more than a number of times. -/
import Derived.Test.YtenigopoknajgaaDoorDraw1
import Derived.Deep.RegionHeld3
import Derived.Deep.RegionWith
namespace Go.Proofs.YtenigopoknajgaaDoor
open Go.RowKit
set_option linter.unusedVariables false
set_option maxRecDepth 100000

/-- Places with short names and small numbers. -/
def Places (t : Term) : Prop := ∀ x ∈ t, x.name.size ≤ 11 ∧ -300000 ≤ x.n ∧ x.n ≤ 300000
theorem Drawn.places {t : Term} (h : Drawn t) : Places t := fun x hx => by have := h x hx; exact ⟨by omega, by omega, by omega⟩
def SpoilOut (w0 w : World) (g P : Nat) (e : Ending) (w' : World) : Prop := ∃ u t, e = .returned u ∧ kCell.R w' (fun k => w.heap.size ≤ k) u t ∧ t.length ≤ 41 ∧ Places t ∧ Rd w0 w' g (P + 10) ∧ Only g w w'
/-- What holds while places are spoiled. -/
structure SX (w0 w : World) (g P : Nat) (v : Value) (t : Term) (wr : World) : Prop where
  row : kCell.R wr (fun k => w.heap.size ≤ k) v t
  rd : Rd w0 wr g P
  only : Only g w wr
theorem SX.pick {w0 w w1 w2 : World} {g P P' : Nat} {v : Value} {t : Term} (h : SX w0 w g P v t w1) (hg : g < w.heap.size) (hR : Rd w0 w2 g P') (hO : Only g w1 w2) : SX w0 w g P' v t w2 :=
  ⟨Kd.R_move (hO.keeps (ok := fun k => w.heap.size ≤ k) (by omega)) h.row, hR, h.only.trans hO⟩
theorem SX.alloc {w0 w w1 : World} {g P : Nat} {v : Value} {t : Term} (h : SX w0 w g P v t w1) (o : Obj) : SX w0 w g P v t (w1.alloc o) :=
  ⟨Kd.R_below h.row (belA (Below.refl _ _) _), h.rd.below (belA (Below.refl _ _) _), h.only.alloc _⟩
theorem SX.drew {w0 w w1 : World} {g P : Nat} {v : Value} {t : Term} (h : SX w0 w g P v t w1) : SX w0 w g P v t w1.drew :=
  ⟨Kd.R_below h.row (belD (Below.refl _ _)), h.rd.below (belD (Below.refl _ _)), h.only.drew⟩
theorem SX.rdm {w0 w w1 : World} {g P P' : Nat} {v : Value} {t : Term} (h : SX w0 w g P v t w1) (hP : P ≤ P') : SX w0 w g P' v t w1 := ⟨h.row, h.rd.mono hP, h.only⟩
theorem places_set {t : Term} (h : Places t) {i : Nat} (x : Cell) (hx : x.name.size ≤ 11 ∧ -300000 ≤ x.n ∧ x.n ≤ 300000) : Places (t.set i x) := fun y hy => by
  rcases List.mem_or_eq_of_mem_set hy with hy | rfl
  · exact h y hy
  · exact hx
theorem tab_lit (xs : List Int) {r : Int} (h0 : 0 ≤ r) (h1 : r < xs.length) : ∃ v : Int, v ∈ xs ∧ ∀ w : World, (w.alloc (.cells (xs.map (Value.int .i64)).toArray 3)).cell? ⟨w.heap.size, r.toNat, none⟩ = some (.int .i64 v) := by
  have hr : r.toNat < xs.length := by omega
  refine ⟨xs[r.toNat], List.getElem_mem _, fun w => ?_⟩
  rw [cell_of_row _ _ _ _ _ _ (heap_alloc_new w _)]
  simp [hr]
theorem SX.grown {w0 w w1 w2 : World} {g P : Nat} {v v2 : Value} {t t2 : Term} {row : Option Nat} (h : SX w0 w g P v t w1) (hw0 : w0.heap.size ≤ w.heap.size) (hlt : g < w.heap.size) (hR : kCell.R w2 (fun k => w.heap.size ≤ k) v2 t2) (hg : w1.grownBy w2 row) (hr : ∀ k, row = some k → w.heap.size ≤ k) : SX w0 w g P v2 t2 w2 :=
  ⟨hR, h.rd.grown hg (fun k e => ⟨by have := hr k e; omega, by have := hr k e; omega⟩), h.only.grown hg hr⟩
theorem SX.store {w0 w w1 : World} {g P b n cap : Nat} {t : Term} (h : SX w0 w g P (.slice (some ⟨b, 0, none⟩) n cap) t w1) (hw0 : w0.heap.size ≤ w.heap.size) (hlt : g < w.heap.size) (i j : Nat) (x' : Cell) (u : Value) (hi : i < t.length) (hj : j < 3) (hx : cellC x' = (cellC t[i]).set j u) (hn : x'.name.size ≤ 1073741824) :
    SX w0 w g P (.slice (some ⟨b, 0, none⟩) n cap) (t.set i x') (w1.setCell ⟨b, i * 3 + j, none⟩ u) := by
  have hb : w.heap.size ≤ b := by
    obtain ⟨_, _, _, h3⟩ := Kd.R_own h.row
    exact (h3 b rfl).1
  exact ⟨kCell_store h.row i j x' u hi hj hx hn, h.rd.set (by omega) (by omega) _ _, h.only.setNew hb _ _⟩

def SpA (w0 w : World) (g P b k tb : Nat) (m : Int) (u : Value) (t : Term) (e : Ending) (w4 : World) : Prop := ∃ r v : Int, e = .returned (.int .i64 r) ∧ 0 ≤ r ∧ r < 4 ∧ (-99999 ≤ v ∧ v ≤ 99999) ∧ w4.cell? ⟨tb, r.toNat, none⟩ = some (.int .i64 v) ∧ SX w0 w g (P + 3) u t w4 ∧ w4.cell? ⟨b, k * 3 + 1, none⟩ = some (.int .i64 m) ∧ w4.frozen? ⟨b, k * 3 + 1, none⟩ = false ∧ b < w4.heap.size
def SpB (w0 w : World) (g P b k : Nat) (m : Int) (u : Value) (t : Term) (e : Ending) (w4 : World) : Prop := ∃ r v : Int, e = .returned (.int .i64 r) ∧ 0 ≤ r ∧ r < 4 ∧ (-99999 ≤ v ∧ v ≤ 99999) ∧ (∀ w : World, (w.alloc (.cells #[.int .i64 1, .int .i64 (-1), .int .i64 99999, .int .i64 (-99999)] 3)).cell? ⟨w.heap.size, r.toNat, none⟩ = some (.int .i64 v)) ∧ SX w0 w g (P + 3) u t w4 ∧ w4.cell? ⟨b, k * 3 + 1, none⟩ = some (.int .i64 m) ∧ w4.frozen? ⟨b, k * 3 + 1, none⟩ = false ∧ b < w4.heap.size
end Go.Proofs.YtenigopoknajgaaDoor
