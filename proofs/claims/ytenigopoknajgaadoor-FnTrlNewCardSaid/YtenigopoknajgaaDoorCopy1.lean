/- Contracts: goals that are copied, by the program. -/
import Derived.Test.YtenigopoknajgaaDoorI1
import Derived.Test.YtenigopoknajgaaDoorXGoal
import Derived.Test.YtenigopoknajgaaDoorExB
import Derived.Deep.RegionHeld3
namespace Go.Proofs.YtenigopoknajgaaDoor
open Go.RowKit
set_option linter.unusedVariables false
set_option maxRecDepth 100000
theorem Kd.R_app2 {α : Type} (d : Kd α) {P : Program} {ops : Array Oper} {rest : List Oper} {o : Oper} {a : Act} {Q : Exit → Act → World → Prop} {W : World} (hgd : o.guard = none) (s x : Operand) (t : TypeId) (z : Value) (bytes : Nat)
    (ho : o.op = .call { callee := .builtin .append, args := #[s, x], argTypes := #[t, t] })
    (ht : P.underlying t = some (.slice d.ty)) (hinfo : (P.info? d.ty).map (fun i => (i.zero, i.size, i.bytes)) = some (some z, d.sz, bytes)) (hz : z.cells.size = d.sz) (hs0 : 0 < d.sz) (hb0 : bytes ≤ 256)
    (v : Value) (xs : List α) (p : α) (cs : List Value) (S Sx : Nat → Prop) (hs : a.eval s = v) {N : Nat} (hx : a.eval x = .slice (some ⟨N, 0, none⟩) 1 1) (hN : N = W.heap.size) (HO : d.R W S v xs) (hp : d.O W Sx p cs) (hd : ∀ k, Sx k → k < W.heap.size → ¬ S k)
    (hl : xs.length + 1 ≤ 1073741824)
    (h : ∀ v1 w1, d.R w1 (fun k => S k ∨ Sx k ∨ W.heap.size ≤ k) v1 (xs ++ [p]) → W.grownBy w1 v.ownBlock → (∀ k, v.ownBlock = some k → S k) → wpList P ops Q rest (a.put o.dst v1) w1) :
    wpList P ops Q (o :: rest) a (W.alloc (.cells cs.toArray d.ty)) := by
  subst hN
  obtain ⟨_, _, _, h3⟩ := Kd.R_own HO
  exact Kd.R_append d hgd s x t z bytes ho ht hinfo hz hs0 hb0 v xs p cs S Sx hs hx HO hp hd hl (fun v1 w1 h1 hg => h v1 w1 h1 hg (fun k e => (h3 k e).1))
theorem Foot.grown2 {S : Nat → Prop} {w0 W w1 : World} {row : Option Nat} (h : Foot S w0 W) (hg : W.grownBy w1 row) (hr : ∀ k, row = some k → S k ∨ w0.heap.size ≤ k) : Foot S w0 w1 :=
  ⟨hg.os.trans h.os, hg.tape.trans h.tape, hg.output.trans h.output, Nat.le_trans h.size hg.size, fun k hk hn => (hg.block k (Nat.lt_of_lt_of_le hk h.size) (fun e => (hr k e.symm).elim hn (fun e => by omega))).trans (h.block k hk hn)⟩
theorem carry2 {S : Nat → Prop} {w W : World} {b : Nat} {o : Obj} (h : Foot S w W) (hb : w.heap[b]? = some o) (hS : ¬ S b) : W.heap[b]? = some o := (h.block b (Array.getElem?_eq_some_iff.1 hb).1 hS).trans hb
theorem cell_al {w : World} {a : Addr} {u : Value} {o : Obj} (h : w.cell? a = some u) : (w.alloc o).cell? a = some u := Raw.cell_below (belA (Below.refl _ _) o) h
set_option maxHeartbeats 400000 in
theorem copied_i (x : Goal) (cs : List Value) (ok : Nat → Prop) (w : World) (hK : kGoal.K w ok x cs) :
    Calls Tryd.prog 64 #[.agg cs.toArray] w fun e w' => ∃ c : List Value, e = .returned (.agg c.toArray) ∧ kGoal.O w' (fun k => w.heap.size ≤ k) x c ∧ Below w.heap.size w w' := by
  obtain ⟨v1, v2, v3, rfl, h1, h2, h3⟩ := kGoal_K hK
  have H1 := Sec.mk h1
  have H2 := Sec.mk h2
  have H3 := Sec.mk h3
  clear hK h1 h2 h3
  have hu := Tryd.underlying56
  have T0 : Sec True := ⟨trivial⟩
  go_enter Tryd.func64, Tryd.ntmps64
  go_wp2
  have hat : Sec (∀ W : World, Below ((w.alloc (.cells #[.int .i64 x.kind, v1, v2, v3] 56)).alloc (.cells #[.int .i64 0, .slice none 0 0, .slice none 0 0, .slice none 0 0] 56)).heap.size ((w.alloc (.cells #[.int .i64 x.kind, v1, v2, v3] 56)).alloc (.cells #[.int .i64 0, .slice none 0 0, .slice none 0 0, .slice none 0 0] 56)) W → W.cell? ⟨w.heap.size, 0, none⟩ = some (.int .i64 x.kind) ∧ W.cell? ⟨w.heap.size, 1, none⟩ = some (v1) ∧ W.cell? ⟨w.heap.size, 2, none⟩ = some (v2) ∧ W.cell? ⟨w.heap.size, 3, none⟩ = some (v3) ∧ W.cell? ⟨w.heap.size + 1, 0, none⟩ = some (.int .i64 0) ∧ W.cell? ⟨w.heap.size + 1, 1, none⟩ = some (.slice none 0 0) ∧ W.cell? ⟨w.heap.size + 1, 2, none⟩ = some (.slice none 0 0) ∧ W.cell? ⟨w.heap.size + 1, 3, none⟩ = some (.slice none 0 0) ∧ W.frozen? ⟨w.heap.size + 1, 0, none⟩ = false ∧ W.frozen? ⟨w.heap.size + 1, 1, none⟩ = false ∧ W.frozen? ⟨w.heap.size + 1, 2, none⟩ = false ∧ W.frozen? ⟨w.heap.size + 1, 3, none⟩ = false) := ⟨fun W h => by
    have X := box_cells h (box2 _ _ _).1
    have Y := box_cells h (box2 _ _ _).2
    exact ⟨X.2.1 0 _ rfl, X.2.1 1 _ rfl, X.2.1 2 _ rfl, X.2.1 3 _ rfl, Y.2.1 0 _ rfl, Y.2.1 1 _ rfl, Y.2.1 2 _ rfl, Y.2.1 3 _ rfl, Y.2.2 0, Y.2.2 1, Y.2.2 2, Y.2.2 3⟩⟩
  have V1 : Sec (∀ W : World, Below ((w.alloc (.cells #[.int .i64 x.kind, v1, v2, v3] 56)).alloc (.cells #[.int .i64 0, .slice none 0 0, .slice none 0 0, .slice none 0 0] 56)).heap.size ((w.alloc (.cells #[.int .i64 x.kind, v1, v2, v3] 56)).alloc (.cells #[.int .i64 0, .slice none 0 0, .slice none 0 0, .slice none 0 0] 56)) W → kCell.V W ok v1 x.a) := ⟨fun W h => Kd.V_below H1.out (bel (belA (belA (Below.refl _ _) _) _) h) (by decide)⟩
  have V2 : Sec (∀ W : World, Below ((w.alloc (.cells #[.int .i64 x.kind, v1, v2, v3] 56)).alloc (.cells #[.int .i64 0, .slice none 0 0, .slice none 0 0, .slice none 0 0] 56)).heap.size ((w.alloc (.cells #[.int .i64 x.kind, v1, v2, v3] 56)).alloc (.cells #[.int .i64 0, .slice none 0 0, .slice none 0 0, .slice none 0 0] 56)) W → kCell.V W ok v2 x.b) := ⟨fun W h => Kd.V_below H2.out (bel (belA (belA (Below.refl _ _) _) _) h) (by decide)⟩
  have V3 : Sec (∀ W : World, Below ((w.alloc (.cells #[.int .i64 x.kind, v1, v2, v3] 56)).alloc (.cells #[.int .i64 0, .slice none 0 0, .slice none 0 0, .slice none 0 0] 56)).heap.size ((w.alloc (.cells #[.int .i64 x.kind, v1, v2, v3] 56)).alloc (.cells #[.int .i64 0, .slice none 0 0, .slice none 0 0, .slice none 0 0] 56)) W → kCell.V W ok v3 x.c) := ⟨fun W h => Kd.V_below H3.out (bel (belA (belA (Below.refl _ _) _) _) h) (by decide)⟩
  have F0 : Sec (Foot (Own w 2) w ((w.alloc (.cells #[.int .i64 x.kind, v1, v2, v3] 56)).alloc (.cells #[.int .i64 0, .slice none 0 0, .slice none 0 0, .slice none 0 0] 56))) := ⟨((Foot.refl _ _).alloc _).alloc _⟩
  have Z0 : Sec (((w.alloc (.cells #[.int .i64 x.kind, v1, v2, v3] 56)).alloc (.cells #[.int .i64 0, .slice none 0 0, .slice none 0 0, .slice none 0 0] 56)).heap.size = w.heap.size + 2) := ⟨by simp⟩
  obtain ⟨p0, p1, p2, p3, q0, q1, q2, q3, f0, f1, f2, f3⟩ := hat.out _ (Below.refl _ _)
  generalize (w.alloc (.cells #[.int .i64 x.kind, v1, v2, v3] 56)).alloc (.cells #[.int .i64 0, .slice none 0 0, .slice none 0 0, .slice none 0 0] 56) = w0 at *
  have hfar : (w.heap.size + 1 = w.heap.size) = False := by simp
  go_region_held3 (fun W => W.cell? ⟨w.heap.size, 0, none⟩ = some (.int .i64 x.kind) ∧ W.cell? ⟨w.heap.size, 1, none⟩ = some (v1) ∧ W.cell? ⟨w.heap.size, 2, none⟩ = some (v2) ∧ W.cell? ⟨w.heap.size, 3, none⟩ = some (v3)) (first | (refine ⟨?_, ?_, ?_, ?_⟩ <;> with_reducible assumption) | (simp only [World.cell?_drew]; refine ⟨?_, ?_, ?_, ?_⟩ <;> with_reducible assumption) | (simp only [World.cell?_setCell_far, hfar, ne_eq, not_false_eq_true]; refine ⟨?_, ?_, ?_, ?_⟩ <;> with_reducible assumption)) (first
    | (clear T0; go_at_call 28; have T1 : Sec True := ⟨trivial⟩; refine (cloneCells_c v1 x.a ok _ (V1.out _ (by first | exact Below.refl w0.heap.size w0 | exact belD (Below.refl w0.heap.size w0)))).mono ?_; rintro e w1 ⟨u1, rfl, hR, hb⟩; have hb2 : Below w0.heap.size w0 w1 := (by first | exact hb | exact bel (belD (Below.refl _ _)) hb); have B1 : Sec (Below w0.heap.size w0 w1) := ⟨bel (Below.refl w0.heap.size w0) hb2⟩; obtain ⟨A1, n1, rfl, -, -⟩ := Kd.R_form hR; have R1 : Sec (kCell.R w1 (fun k => w0.heap.size ≤ k ∧ k < w1.heap.size) (.slice A1 x.a.length n1) x.a) := ⟨Kd.R_mono hR (fun k h1 h2 => ⟨h1, h2⟩)⟩; have D1 := Sec.mk hb2; clear p0 p1 p2 p3 q0 q1 q2 q3 f0 f1 f2 f3; obtain ⟨p0, p1, p2, p3, q0, q1, q2, q3, f0, f1, f2, f3⟩ := hat.out _ B1.out; clear hb hb2 hR)
    | (clear T1; go_at_call 28; have T2 : Sec True := ⟨trivial⟩; refine (cloneCells_c v2 x.b ok _ (V2.out _ (by first | exact B1.out | exact belD (B1.out)))).mono ?_; rintro e w2 ⟨u2, rfl, hR, hb⟩; have hb2 : Below w1.heap.size w1 w2 := (by first | exact hb | exact bel (belD (Below.refl _ _)) hb); have B2 : Sec (Below w0.heap.size w0 w2) := ⟨bel (B1.out) hb2⟩; obtain ⟨A2, n2, rfl, -, -⟩ := Kd.R_form hR; have R2 : Sec (kCell.R w2 (fun k => w1.heap.size ≤ k ∧ k < w2.heap.size) (.slice A2 x.b.length n2) x.b) := ⟨Kd.R_mono hR (fun k h1 h2 => ⟨h1, h2⟩)⟩; have D2 := Sec.mk hb2; clear p0 p1 p2 p3 q0 q1 q2 q3 f0 f1 f2 f3; obtain ⟨p0, p1, p2, p3, q0, q1, q2, q3, f0, f1, f2, f3⟩ := hat.out _ B2.out; clear hb hb2 hR)
    | (clear T2; go_at_call 28; have T3 : Sec True := ⟨trivial⟩; refine (cloneCells_c v3 x.c ok _ (V3.out _ (by first | exact B2.out | exact belD (B2.out)))).mono ?_; rintro e w3 ⟨u3, rfl, hR, hb⟩; have hb2 : Below w2.heap.size w2 w3 := (by first | exact hb | exact bel (belD (Below.refl _ _)) hb); have B3 : Sec (Below w0.heap.size w0 w3) := ⟨bel (B2.out) hb2⟩; obtain ⟨A3, n3, rfl, -, -⟩ := Kd.R_form hR; have R3 : Sec (kCell.R w3 (fun k => w2.heap.size ≤ k ∧ k < w3.heap.size) (.slice A3 x.c.length n3) x.c) := ⟨Kd.R_mono hR (fun k h1 h2 => ⟨h1, h2⟩)⟩; have D3 := Sec.mk hb2; clear p0 p1 p2 p3 q0 q1 q2 q3 f0 f1 f2 f3; obtain ⟨p0, p1, p2, p3, q0, q1, q2, q3, f0, f1, f2, f3⟩ := hat.out _ B3.out; clear hb hb2 hR))
  all_goals
    go_wp2
    refine bodyPost_ret (v := .agg #[.int .i64 x.kind, .slice A1 x.a.length n1, .slice A2 x.b.length n2, .slice A3 x.c.length n3]) (by simp [results, Tryd.results64, go_sem, q0, q1, q2, q3]) rfl ⟨[.int .i64 x.kind, .slice A1 x.a.length n1, .slice A2 x.b.length n2, .slice A3 x.c.length n3], rfl, ?_, ?_⟩
    rotate_left
    · refine Foot.own (n := 2) (Foot.trans (S' := Own w 2) (Foot.call F0.out B3.out) ?_ (fun _ _ h => h))
      exact (Foot.set (Foot.set (Foot.set (Foot.set (Foot.refl _ _) (.inl ⟨by omega, by omega⟩) _ _) (.inl ⟨by omega, by omega⟩) _ _) (.inl ⟨by omega, by omega⟩) _ _) (.inl ⟨by omega, by omega⟩) _ _)
    · have FF : ∀ W, Foot (Own w 2) w3 W → kGoal.O W (fun k => w.heap.size ≤ k) x [.int .i64 x.kind, .slice A1 x.a.length n1, .slice A2 x.b.length n2, .slice A3 x.c.length n3] := fun W FF => ?_
      · refine FF _ ?_
        exact (Foot.set (Foot.set (Foot.set (Foot.set (Foot.refl _ _) (.inl ⟨by omega, by omega⟩) _ _) (.inl ⟨by omega, by omega⟩) _ _) (.inl ⟨by omega, by omega⟩) _ _) (.inl ⟨by omega, by omega⟩) _ _)
      · have z0 := Z0.out
        have z1 := D1.out.size
        have z2 := D2.out.size
        have z3 := D3.out.size
        have g2 : Foot (Own w 2) w2 W := Foot.trans (Foot.of_below (S := Own w 2) D3.out) FF (fun _ _ h => h)
        have g1 : Foot (Own w 2) w1 W := Foot.trans (Foot.of_below (S := Own w 2) D2.out) g2 (fun _ _ h => h)
        have r1 := Foot.R g1 R1.out (fun k h1 h2 => by have := h1.1; have := h2.2; omega)
        have r2 := Foot.R g2 R2.out (fun k h1 h2 => by have := h1.1; have := h2.2; omega)
        have r3 := Foot.R FF R3.out (fun k h1 h2 => by have := h1.1; have := h2.2; omega)
        exact (Kd.O_stack (d := (Kd.int 3)) (e := (Kd.pair (Kd.slice 23 kCell (by decide)) (Kd.pair (Kd.slice 23 kCell (by decide)) (Kd.slice 23 kCell (by decide))))) (n0 := w.heap.size) (n1 := w.heap.size) ⟨rfl, trivial⟩
          (Kd.O_stack (d := (Kd.slice 23 kCell (by decide))) (e := (Kd.pair (Kd.slice 23 kCell (by decide)) (Kd.slice 23 kCell (by decide)))) (n0 := w.heap.size) (n1 := w1.heap.size) ⟨_, rfl, Kd.R_mono r1 (fun k h _ => by have := h.1; have := h.2; omega)⟩
            (Kd.O_stack (d := (Kd.slice 23 kCell (by decide))) (e := (Kd.slice 23 kCell (by decide))) (n0 := w1.heap.size) (n1 := w2.heap.size) ⟨_, rfl, Kd.R_mono r2 (fun k h _ => by have := h.1; have := h.2; omega)⟩
              ⟨_, rfl, Kd.R_mono r3 (fun k h _ => by have := h.1; omega)⟩ (by omega)) (by omega)) (by omega))
end Go.Proofs.YtenigopoknajgaaDoor
