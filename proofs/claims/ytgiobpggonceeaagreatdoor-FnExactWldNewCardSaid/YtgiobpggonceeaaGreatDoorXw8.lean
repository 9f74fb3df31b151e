/- Contracts: goals that are copied, by the program; and what goes with it. -/
import Derived.Test.YtgiobpggonceeaaGreatDoorXw2
import Derived.Test.YtgiobpggonceeaaGreatDoorXw3
import Derived.Test.YtgiobpggonceeaaGreatDoorXw5
import Derived.Test.YtgiobpggonceeaaGreatDoorXw7
import Derived.Deep.RegionHeld3
namespace Go.Proofs.YtgiobpggonceeaaGreatDoor
section
open Go.RowKit
set_option linter.unusedVariables false
set_option maxRecDepth 100000
theorem Kd.R_app2 {α : Type} (d : Kd α) {P : Program} {ops : Array Oper} {rest : List Oper} {o : Oper} {a : Act} {Q : Exit → Act → World → Prop} {W : World} (hgd : o.guard = none) (s x : Operand) (t : TypeId) (z : Value) (bytes : Nat)
    (ho : o.op = .call { callee := .builtin .append, args := #[s, x], argTypes := #[t, t] })
    (ht : P.underlying t = some (.slice d.ty)) (hinfo : (P.info? d.ty).map (fun i => (i.zero, i.size, i.bytes)) = some (some z, d.sz, bytes)) (hz : z.cells.size = d.sz) (hs0 : 0 < d.sz) (hb0 : bytes ≤ 256)
    (v : Value) (xs : List α) (p : α) (cs : List Value) (S Sx : Nat → Prop) (hs : a.eval s = v) {N : Nat} (hx : a.eval x = .slice (some ⟨N, 0, none⟩) 1 1) (hN : N = W.heap.size) (HO : d.R W S v xs) (hp : d.O W Sx p cs) (hd : ∀ k, Sx k → k < W.heap.size → ¬ S k)
    (hl : xs.length + 1 ≤ 1073741824)
    (h : ∀ v1 w1, d.R w1 (fun k => S k ∨ Sx k ∨ W.heap.size ≤ k) v1 (xs ++ [p]) → W.grownBy w1 v.ownBlock → (∀ k, v.ownBlock = some k → S k) → wpList P ops Q rest (a.put o.dst v1) w1) :
    wpList P ops Q (o :: rest) a (W.alloc (.cells cs.toArray d.ty)) := by
  subst hN
  obtain ⟨_, _, _, h3⟩ := Kd.R_own HO
  exact Kd.R_append d hgd s x t z bytes ho ht hinfo hz hs0 hb0 v xs p cs S Sx hs hx HO hp hd hl (fun v1 w1 h1 hg => h v1 w1 h1 hg (fun k e => (h3 k e).1))
theorem Foot.grown2 {S : Nat → Prop} {w0 W w1 : World} {row : Option Nat} (h : Foot S w0 W) (hg : W.grownBy w1 row) (hr : ∀ k, row = some k → S k ∨ w0.heap.size ≤ k) : Foot S w0 w1 :=
  ⟨hg.os.trans h.os, hg.tape.trans h.tape, hg.output.trans h.output, Nat.le_trans h.size hg.size, fun k hk hn => (hg.block k (Nat.lt_of_lt_of_le hk h.size) (fun e => (hr k e.symm).elim hn (fun e => by omega))).trans (h.block k hk hn)⟩
set_option maxHeartbeats 400000 in
theorem copied_i (x : Goal) (cs : List Value) (ok : Nat → Prop) (w : World) (hK : kGoal.K w ok x cs) :
    Calls Tryz.prog 157 #[.agg cs.toArray] w fun e w' => ∃ c : List Value, e = .returned (.agg c.toArray) ∧ kGoal.O w' (fun k => w.heap.size ≤ k) x c ∧ Below w.heap.size w w' := by
  obtain ⟨v1, v2, v3, rfl, h1, h2, h3⟩ := kGoal_K hK
  have H1 := Sec.mk h1
  have H2 := Sec.mk h2
  have H3 := Sec.mk h3
  clear hK h1 h2 h3
  have hu := Tryz.underlying100
  have T0 : Sec True := ⟨trivial⟩
  go_enter Tryz.func157, Tryz.ntmps157
  go_wp2
  have hat : Sec (∀ W : World, Below ((w.alloc (.cells #[.int .i64 x.kind, v1, v2, v3] 100)).alloc (.cells #[.int .i64 0, .slice none 0 0, .slice none 0 0, .slice none 0 0] 100)).heap.size ((w.alloc (.cells #[.int .i64 x.kind, v1, v2, v3] 100)).alloc (.cells #[.int .i64 0, .slice none 0 0, .slice none 0 0, .slice none 0 0] 100)) W → W.cell? ⟨w.heap.size, 0, none⟩ = some (.int .i64 x.kind) ∧ W.cell? ⟨w.heap.size, 1, none⟩ = some (v1) ∧ W.cell? ⟨w.heap.size, 2, none⟩ = some (v2) ∧ W.cell? ⟨w.heap.size, 3, none⟩ = some (v3) ∧ W.cell? ⟨w.heap.size + 1, 0, none⟩ = some (.int .i64 0) ∧ W.cell? ⟨w.heap.size + 1, 1, none⟩ = some (.slice none 0 0) ∧ W.cell? ⟨w.heap.size + 1, 2, none⟩ = some (.slice none 0 0) ∧ W.cell? ⟨w.heap.size + 1, 3, none⟩ = some (.slice none 0 0) ∧ W.frozen? ⟨w.heap.size + 1, 0, none⟩ = false ∧ W.frozen? ⟨w.heap.size + 1, 1, none⟩ = false ∧ W.frozen? ⟨w.heap.size + 1, 2, none⟩ = false ∧ W.frozen? ⟨w.heap.size + 1, 3, none⟩ = false) := ⟨fun W h => by
    have X := box_cells h (box2 _ _ _).1
    have Y := box_cells h (box2 _ _ _).2
    exact ⟨X.2.1 0 _ rfl, X.2.1 1 _ rfl, X.2.1 2 _ rfl, X.2.1 3 _ rfl, Y.2.1 0 _ rfl, Y.2.1 1 _ rfl, Y.2.1 2 _ rfl, Y.2.1 3 _ rfl, Y.2.2 0, Y.2.2 1, Y.2.2 2, Y.2.2 3⟩⟩
  have V1 : Sec (∀ W : World, Below ((w.alloc (.cells #[.int .i64 x.kind, v1, v2, v3] 100)).alloc (.cells #[.int .i64 0, .slice none 0 0, .slice none 0 0, .slice none 0 0] 100)).heap.size ((w.alloc (.cells #[.int .i64 x.kind, v1, v2, v3] 100)).alloc (.cells #[.int .i64 0, .slice none 0 0, .slice none 0 0, .slice none 0 0] 100)) W → kCell.V W ok v1 x.a) := ⟨fun W h => Kd.V_below H1.out (bel (belA (belA (Below.refl _ _) _) _) h) (by decide)⟩
  have V2 : Sec (∀ W : World, Below ((w.alloc (.cells #[.int .i64 x.kind, v1, v2, v3] 100)).alloc (.cells #[.int .i64 0, .slice none 0 0, .slice none 0 0, .slice none 0 0] 100)).heap.size ((w.alloc (.cells #[.int .i64 x.kind, v1, v2, v3] 100)).alloc (.cells #[.int .i64 0, .slice none 0 0, .slice none 0 0, .slice none 0 0] 100)) W → kCell.V W ok v2 x.b) := ⟨fun W h => Kd.V_below H2.out (bel (belA (belA (Below.refl _ _) _) _) h) (by decide)⟩
  have V3 : Sec (∀ W : World, Below ((w.alloc (.cells #[.int .i64 x.kind, v1, v2, v3] 100)).alloc (.cells #[.int .i64 0, .slice none 0 0, .slice none 0 0, .slice none 0 0] 100)).heap.size ((w.alloc (.cells #[.int .i64 x.kind, v1, v2, v3] 100)).alloc (.cells #[.int .i64 0, .slice none 0 0, .slice none 0 0, .slice none 0 0] 100)) W → kCell.V W ok v3 x.c) := ⟨fun W h => Kd.V_below H3.out (bel (belA (belA (Below.refl _ _) _) _) h) (by decide)⟩
  have F0 : Sec (Foot (Own w 2) w ((w.alloc (.cells #[.int .i64 x.kind, v1, v2, v3] 100)).alloc (.cells #[.int .i64 0, .slice none 0 0, .slice none 0 0, .slice none 0 0] 100))) := ⟨((Foot.refl _ _).alloc _).alloc _⟩
  have Z0 : Sec (((w.alloc (.cells #[.int .i64 x.kind, v1, v2, v3] 100)).alloc (.cells #[.int .i64 0, .slice none 0 0, .slice none 0 0, .slice none 0 0] 100)).heap.size = w.heap.size + 2) := ⟨by simp⟩
  obtain ⟨p0, p1, p2, p3, q0, q1, q2, q3, f0, f1, f2, f3⟩ := hat.out _ (Below.refl _ _)
  generalize (w.alloc (.cells #[.int .i64 x.kind, v1, v2, v3] 100)).alloc (.cells #[.int .i64 0, .slice none 0 0, .slice none 0 0, .slice none 0 0] 100) = w0 at *
  have hfar : (w.heap.size + 1 = w.heap.size) = False := by simp
  go_region_held3 (fun W => W.cell? ⟨w.heap.size, 0, none⟩ = some (.int .i64 x.kind) ∧ W.cell? ⟨w.heap.size, 1, none⟩ = some (v1) ∧ W.cell? ⟨w.heap.size, 2, none⟩ = some (v2) ∧ W.cell? ⟨w.heap.size, 3, none⟩ = some (v3)) (first | (refine ⟨?_, ?_, ?_, ?_⟩ <;> with_reducible assumption) | (simp only [World.cell?_drew]; refine ⟨?_, ?_, ?_, ?_⟩ <;> with_reducible assumption) | (simp only [World.cell?_setCell_far, hfar, ne_eq, not_false_eq_true]; refine ⟨?_, ?_, ?_, ?_⟩ <;> with_reducible assumption)) (first
    | (clear T0; go_at_call 72; have T1 : Sec True := ⟨trivial⟩; refine (cloneCells_c v1 x.a ok _ (V1.out _ (by first | exact Below.refl w0.heap.size w0 | exact belD (Below.refl w0.heap.size w0)))).mono ?_; rintro e w1 ⟨u1, rfl, hR, hb⟩; have hb2 : Below w0.heap.size w0 w1 := (by first | exact hb | exact bel (belD (Below.refl _ _)) hb); have B1 : Sec (Below w0.heap.size w0 w1) := ⟨bel (Below.refl w0.heap.size w0) hb2⟩; obtain ⟨A1, n1, rfl, -, -⟩ := Kd.R_form hR; have R1 : Sec (kCell.R w1 (fun k => w0.heap.size ≤ k ∧ k < w1.heap.size) (.slice A1 x.a.length n1) x.a) := ⟨Kd.R_mono hR (fun k h1 h2 => ⟨h1, h2⟩)⟩; have D1 := Sec.mk hb2; clear p0 p1 p2 p3 q0 q1 q2 q3 f0 f1 f2 f3; obtain ⟨p0, p1, p2, p3, q0, q1, q2, q3, f0, f1, f2, f3⟩ := hat.out _ B1.out; clear hb hb2 hR)
    | (clear T1; go_at_call 72; have T2 : Sec True := ⟨trivial⟩; refine (cloneCells_c v2 x.b ok _ (V2.out _ (by first | exact B1.out | exact belD (B1.out)))).mono ?_; rintro e w2 ⟨u2, rfl, hR, hb⟩; have hb2 : Below w1.heap.size w1 w2 := (by first | exact hb | exact bel (belD (Below.refl _ _)) hb); have B2 : Sec (Below w0.heap.size w0 w2) := ⟨bel (B1.out) hb2⟩; obtain ⟨A2, n2, rfl, -, -⟩ := Kd.R_form hR; have R2 : Sec (kCell.R w2 (fun k => w1.heap.size ≤ k ∧ k < w2.heap.size) (.slice A2 x.b.length n2) x.b) := ⟨Kd.R_mono hR (fun k h1 h2 => ⟨h1, h2⟩)⟩; have D2 := Sec.mk hb2; clear p0 p1 p2 p3 q0 q1 q2 q3 f0 f1 f2 f3; obtain ⟨p0, p1, p2, p3, q0, q1, q2, q3, f0, f1, f2, f3⟩ := hat.out _ B2.out; clear hb hb2 hR)
    | (clear T2; go_at_call 72; have T3 : Sec True := ⟨trivial⟩; refine (cloneCells_c v3 x.c ok _ (V3.out _ (by first | exact B2.out | exact belD (B2.out)))).mono ?_; rintro e w3 ⟨u3, rfl, hR, hb⟩; have hb2 : Below w2.heap.size w2 w3 := (by first | exact hb | exact bel (belD (Below.refl _ _)) hb); have B3 : Sec (Below w0.heap.size w0 w3) := ⟨bel (B2.out) hb2⟩; obtain ⟨A3, n3, rfl, -, -⟩ := Kd.R_form hR; have R3 : Sec (kCell.R w3 (fun k => w2.heap.size ≤ k ∧ k < w3.heap.size) (.slice A3 x.c.length n3) x.c) := ⟨Kd.R_mono hR (fun k h1 h2 => ⟨h1, h2⟩)⟩; have D3 := Sec.mk hb2; clear p0 p1 p2 p3 q0 q1 q2 q3 f0 f1 f2 f3; obtain ⟨p0, p1, p2, p3, q0, q1, q2, q3, f0, f1, f2, f3⟩ := hat.out _ B3.out; clear hb hb2 hR))
  all_goals
    go_wp2
    refine bodyPost_ret (v := .agg #[.int .i64 x.kind, .slice A1 x.a.length n1, .slice A2 x.b.length n2, .slice A3 x.c.length n3]) (by simp [results, Tryz.results157, go_sem, q0, q1, q2, q3]) rfl ⟨[.int .i64 x.kind, .slice A1 x.a.length n1, .slice A2 x.b.length n2, .slice A3 x.c.length n3], rfl, ?_, ?_⟩
    rotate_left
    · refine Foot.own (n := 2) (Foot.trans (S' := Own w 2) (Foot.call F0.out B3.out) ?_ (fun _ _ h => h))
      exact (Foot.set (Foot.set (Foot.set (Foot.set (Foot.refl _ _) (.inl ⟨by omega, by omega⟩) _ _) (.inl ⟨by omega, by omega⟩) _ _) (.inl ⟨by omega, by omega⟩) _ _) (.inl ⟨by omega, by omega⟩) _ _)
    · have FF : ∀ W, Foot (Own w 2) w3 W → kGoal.O W (fun k => w.heap.size ≤ k) x [.int .i64 x.kind, .slice A1 x.a.length n1, .slice A2 x.b.length n2, .slice A3 x.c.length n3] := fun W FF => ?_
      · refine FF _ ?_
        exact (Foot.set (Foot.set (Foot.set (Foot.set (Foot.refl _ _) (.inl ⟨by omega, by omega⟩) _ _) (.inl ⟨by omega, by omega⟩) _ _) (.inl ⟨by omega, by omega⟩) _ _) (.inl ⟨by omega, by omega⟩) _ _)
      · have z0 := Z0.out
        have z1 := D1.out.size
        have z2 := D2.out.size
        have z3 := D3.out.size
        have g2 : Foot (Own w 2) w2 W := Foot.trans (Foot.of_below (S := Own w 2) D3.out) FF (fun _ _ h => h)
        have g1 : Foot (Own w 2) w1 W := Foot.trans (Foot.of_below (S := Own w 2) D2.out) g2 (fun _ _ h => h)
        have r1 := Foot.R g1 R1.out (fun k h1 h2 => by have := h1.1; have := h2.2; omega)
        have r2 := Foot.R g2 R2.out (fun k h1 h2 => by have := h1.1; have := h2.2; omega)
        have r3 := Foot.R FF R3.out (fun k h1 h2 => by have := h1.1; have := h2.2; omega)
        exact (Kd.O_stack (d := (Kd.int 3)) (e := (Kd.pair (Kd.slice 23 kCell (by decide)) (Kd.pair (Kd.slice 23 kCell (by decide)) (Kd.slice 23 kCell (by decide))))) (n0 := w.heap.size) (n1 := w.heap.size) ⟨rfl, trivial⟩
          (Kd.O_stack (d := (Kd.slice 23 kCell (by decide))) (e := (Kd.pair (Kd.slice 23 kCell (by decide)) (Kd.slice 23 kCell (by decide)))) (n0 := w.heap.size) (n1 := w1.heap.size) ⟨_, rfl, Kd.R_mono r1 (fun k h _ => by have := h.1; have := h.2; omega)⟩
            (Kd.O_stack (d := (Kd.slice 23 kCell (by decide))) (e := (Kd.slice 23 kCell (by decide))) (n0 := w1.heap.size) (n1 := w2.heap.size) ⟨_, rfl, Kd.R_mono r2 (fun k h _ => by have := h.1; have := h.2; omega)⟩
              ⟨_, rfl, Kd.R_mono r3 (fun k h _ => by have := h.1; omega)⟩ (by omega)) (by omega)) (by omega))
end
section
open Go.RowKit
set_option linter.unusedVariables false
namespace Kd
variable {α β γ : Type}
/-- Of the kind d a field of the kind e, j cells in; what is put there may own other blocks. -/
structure GFld (d : Kd α) (e : Kd β) (j : Nat) (get : α → β) (put : α → β → α) : Prop where
  opn : ∀ {w : World} {S : Nat → Prop} {x : α} {c : List Value}, d.O w S x c → ∃ (S1 S2 : Nat → Prop) (c0 c1 c2 : List Value), c = c0 ++ (c1 ++ c2) ∧ c0.length = j ∧ (∀ k, S1 k → S k ∧ ¬ S2 k) ∧ (∀ k, S2 k → S k ∧ k < w.heap.size) ∧ e.O w S1 (get x) c1 ∧
    ∀ (w' : World) (S' : Nat → Prop) (y : β) (c1' : List Value), Keeps w w' S2 S2 → (∀ k, S' k → ¬ S2 k) → e.O w' S' y c1' → d.O w' (fun k => S' k ∨ S2 k) (put x y) (c0 ++ (c1' ++ c2))
theorem GFld.self (d : Kd α) : GFld d d 0 (fun x => x) (fun _ y => y) := ⟨fun {w S x c} h => ⟨S, fun _ => False, [], c, [], by simp, rfl, fun k hk => ⟨hk, id⟩, fun k hk => hk.elim, h, fun w' S' y c1' _ _ hO => by simpa using d.O_mono hO (S1 := fun k => S' k ∨ False) (fun k h _ => .inl h)⟩⟩
theorem GFld.fst {a : Kd α} {b : Kd β} {e : Kd γ} {j : Nat} {get : α → γ} {put : α → γ → α} (F : GFld a e j get put) : GFld (pair a b) e j (fun x => get x.1) (fun x y => (put x.1 y, x.2)) := ⟨fun {w S x c} h => by
  obtain ⟨T1, T2, d0, d1, rfl, g1, g2, h0, h1⟩ := h
  obtain ⟨S1, S2, c0, c1, c2, rfl, hl, k1, k2, hO, hback⟩ := F.opn h0
  refine ⟨S1, fun k => S2 k ∨ (T2 k ∧ k < w.heap.size), c0, c1, c2 ++ d1, by simp, hl, fun k hk => ⟨(g1 k (k1 k hk).1).1, fun e => e.elim (k1 k hk).2 (fun e => (g1 k (k1 k hk).1).2 e.1)⟩, fun k hk => hk.elim (fun e => ⟨(g1 k (k2 k e).1).1, (k2 k e).2⟩) (fun e => ⟨g2 k e.1, e.2⟩), hO, fun w' S' y c1' hk hd hO' => ?_⟩
  refine ⟨fun k => S' k ∨ S2 k, fun k => T2 k ∧ k < w.heap.size, c0 ++ (c1' ++ c2), d1, by simp, fun k hk => ⟨hk.elim (fun e => .inl e) (fun e => .inr (.inl e)), fun e => hk.elim (fun e' => hd k e' (.inr e)) (fun e' => (g1 k (k2 k e').1).2 e.1)⟩, fun k hk => .inr (.inr hk), ?_, ?_⟩
  · exact hback w' S' y c1' (fun k h1 h2 => ⟨h1, (hk k (.inl h1) h2).2⟩) (fun k h1 h2 => hd k h1 (.inl h2)) hO'
  · exact b.O_move (fun k h1 h2 => ⟨⟨h1, h2⟩, (hk k (.inr ⟨h1, h2⟩) h2).2⟩) h1⟩
theorem GFld.snd {a : Kd α} {b : Kd β} {e : Kd γ} {j : Nat} {get : β → γ} {put : β → γ → β} (F : GFld b e j get put) : GFld (pair a b) e (a.sz + j) (fun x => get x.2) (fun x y => (x.1, put x.2 y)) := ⟨fun {w S x c} h => by
  obtain ⟨T1, T2, d0, d1, rfl, g1, g2, h0, h1⟩ := h
  obtain ⟨S1, S2, c0, c1, c2, rfl, hl, k1, k2, hO, hback⟩ := F.opn h1
  refine ⟨S1, fun k => S2 k ∨ (T1 k ∧ k < w.heap.size), d0 ++ c0, c1, c2, by simp, by rw [List.length_append, a.K_len (a.O_K h0), hl], fun k hk => ⟨g2 k (k1 k hk).1, fun e => e.elim (k1 k hk).2 (fun e => (g1 k e.1).2 (k1 k hk).1)⟩, fun k hk => hk.elim (fun e => ⟨g2 k (k2 k e).1, (k2 k e).2⟩) (fun e => ⟨(g1 k e.1).1, e.2⟩), hO, fun w' S' y c1' hk hd hO' => ?_⟩
  refine ⟨fun k => T1 k ∧ k < w.heap.size, fun k => S' k ∨ S2 k, d0, c0 ++ (c1' ++ c2), by simp, fun k hk => ⟨.inr (.inr hk), fun e => e.elim (fun e' => hd k e' (.inr hk)) (fun e' => (g1 k hk.1).2 (k2 k e').1)⟩, fun k hk => hk.imp id .inl, ?_, ?_⟩
  · exact a.O_move (fun k h1 h2 => ⟨⟨h1, h2⟩, (hk k (.inr ⟨h1, h2⟩) h2).2⟩) h0
  · exact hback w' S' y c1' (fun k h1 h2 => ⟨h1, (hk k (.inl h1) h2).2⟩) (fun k h1 h2 => hd k h1 (.inl h2)) hO'⟩
theorem GFld.iso {d : Kd β} {e : Kd γ} {j : Nat} {get : β → γ} {put : β → γ → β} (t : TypeId) {f : α → β} {put' : α → γ → α} (F : GFld d e j get put) (h : ∀ x y, f (put' x y) = put (f x) y) : GFld (Kd.iso t d f) e j (fun x => get (f x)) put' := ⟨fun {w S x c} hx => by
  obtain ⟨S1, S2, c0, c1, c2, rfl, hl, k1, k2, hO, hback⟩ := F.opn (w := w) (S := S) (x := f x) hx
  refine ⟨S1, S2, c0, c1, c2, rfl, hl, k1, k2, hO, fun w' S' y c1' hk hd hO' => ?_⟩
  have := hback w' S' y c1' hk hd hO'
  rw [← h] at this
  exact this⟩
end Kd
/-- A struct but for one of its fields. -/
def Hole {α β : Type} (d : Kd α) (e : Kd β) (x : β → α) (c0 c2 : List Value) (w : World) (S : Nat → Prop) : Prop :=
  ∀ (w' : World) (S' : Nat → Prop) (y : β) (c1 : List Value), Keeps w w' S S → (∀ k, S' k → ¬ S k) → e.O w' S' y c1 → d.O w' (fun k => S' k ∨ S k) (x y) (c0 ++ (c1 ++ c2))
theorem Hole.move {α β : Type} {d : Kd α} {e : Kd β} {x : β → α} {c0 c2 : List Value} {w w1 : World} {S : Nat → Prop} (h : Hole d e x c0 c2 w S) (hk : Keeps w w1 S S) : Hole d e x c0 c2 w1 S := fun w' S' y c1 hk2 hd hO =>
  h w' S' y c1 (fun k h1 h2 => ⟨h1, by
    have h3 := (hk k h1 h2).2
    have h4 : k < w1.heap.size := by
      rw [Array.getElem?_eq_getElem h2] at h3
      exact (Array.getElem?_eq_some_iff.1 h3).1
    exact (hk2 k h1 h4).2.trans h3⟩) hd hO
/-- The struct x lies in block X, its row xs grows: the cells c0, the row's value, the cells c2. -/
structure Growing {α β : Type} (d : Kd α) (e : Kd β) (t : TypeId) (hp : 0 < e.sz) (x : List β → α) (X n0 : Nat) (c0 c2 : List Value) (ty : TypeId) (w : World) (v : Value) (xs : List β) (Sr Sc : Nat → Prop) : Prop where
  box : w.heap[X]? = some (.cells (c0 ++ (v :: c2)).toArray ty (0, 0))
  hole : Hole d (Kd.slice t e hp) x c0 c2 w Sr
  row : e.R w Sc v xs
  apart : ∀ k, Sr k → ¬ Sc k
  mine : ∀ k, Sr k ∨ Sc k → n0 ≤ k ∧ k < w.heap.size ∧ k ≠ X
  at_ : n0 ≤ X
section
variable {α β : Type} {d : Kd α} {e : Kd β} {t : TypeId} {hp : 0 < e.sz} {x : List β → α} {X n0 j : Nat} {c0 c2 cs : List Value} {ty : TypeId} {w w1 : World} {v : Value} {xs : List β} {Sr Sc S : Nat → Prop}
theorem Growing.start {y : α} {get : α → List β} {put : α → List β → α} (F : Kd.GFld d (Kd.slice t e hp) j get put) (hb : w.heap[X]? = some (.cells cs.toArray ty (0, 0))) (hO : d.O w S y cs) (hm : ∀ k, S k → n0 ≤ k ∧ k ≠ X) (h0 : n0 ≤ X) :
    ∃ c0 c2 v Sr Sc, c0.length = j ∧ cs = c0 ++ (v :: c2) ∧ Growing d e t hp (put y) X n0 c0 c2 ty w v (get y) Sr Sc := by
  obtain ⟨S1, S2, c0, c1, c2, rfl, hl, k1, k2, ⟨v, rfl, hR⟩, hback⟩ := F.opn hO
  refine ⟨c0, c2, v, S2, fun k => S1 k ∧ k < w.heap.size, hl, rfl, hb, hback, Kd.R_mono hR (fun k h1 h2 => ⟨h1, h2⟩), fun k h1 h2 => (k1 k h2.1).2 h1, fun k h => ?_, h0⟩
  rcases h with h | h
  · exact ⟨(hm k (k2 k h).1).1, (k2 k h).2, (hm k (k2 k h).1).2⟩
  · exact ⟨(hm k (k1 k h.1).1).1, h.2, (hm k (k1 k h.1).1).2⟩
theorem Growing.below (h : Growing d e t hp x X n0 c0 c2 ty w v xs Sr Sc) (hb : Below w.heap.size w w1) : Growing d e t hp x X n0 c0 c2 ty w1 v xs Sr Sc :=
  ⟨(hb.block X (Array.getElem?_eq_some_iff.1 h.box).1).trans h.box, h.hole.move (Keeps.below hb _), Kd.R_below h.row hb, h.apart, fun k hk => ⟨(h.mine k hk).1, Nat.lt_of_lt_of_le (h.mine k hk).2.1 hb.size, (h.mine k hk).2.2⟩, h.at_⟩
theorem Growing.done (h : Growing d e t hp x X n0 c0 c2 ty w v xs Sr Sc) : d.O w (fun k => n0 ≤ k ∧ k < w.heap.size ∧ k ≠ X) (x xs) (c0 ++ (v :: c2)) :=
  d.O_mono (h.hole w Sc xs [v] (fun k h1 _ => ⟨h1, rfl⟩) (fun k h1 h2 => h.apart k h2 h1) ⟨v, rfl, h.row⟩) (fun k h1 _ => h.mine k (h1.elim .inr .inl))
theorem Growing.cell (h : Growing d e t hp x X n0 c0 c2 ty w v xs Sr Sc) (hl : c0.length = j) : w.cell? ⟨X, j, none⟩ = some v := by
  refine (box_at h.box).2.1 j v ?_
  rw [List.getElem?_toArray, List.getElem?_append_right (by omega)]
  simp [hl]
theorem grow_set (hb : w.heap[X]? = some (.cells (c0 ++ (v :: c2)).toArray ty (0, 0))) (hl : c0.length = j) (u : Value) : (w.setCell ⟨X, j, none⟩ u).heap[X]? = some (.cells (c0 ++ (u :: c2)).toArray ty (0, 0)) := by
  rw [box_store j u hb]
  congr 2
  apply Array.toList_inj.1
  rw [Array.toList_setIfInBounds, List.set_append_right _ _ (by omega), hl, Nat.sub_self, List.set_cons_zero]
/-- The box whose row has grown. -/
def onGrew (e : Kd β) (X : Nat) (c0 c2 : List Value) (ty : TypeId) (xs : List β) : On := fun _ S w => ∃ u, w.heap[X]? = some (.cells (c0 ++ (u :: c2)).toArray ty (0, 0)) ∧ S X ∧ e.R w (fun k => S k ∧ k ≠ X) u xs
theorem stab_grew {n0 : Nat} {T : Nat → Prop} (e : Kd β) (X : Nat) (c0 c2 : List Value) (ty : TypeId) (xs : List β) : (Ass.mk [] (onGrew e X c0 c2 ty xs)).Stab n0 T := fun val val' S w w' h hs hk _ => by
  obtain ⟨u, h1, h2, h3⟩ := h
  exact ⟨u, (hk X (.inl h2) (Array.getElem?_eq_some_iff.1 h1).1).trans h1, h2, Kd.R_move (fun k h1 h2 => ⟨h1, hk k (.inl h1.1) h2⟩) h3⟩
theorem grow_cell (hb : w.heap[X]? = some (.cells (c0 ++ (v :: c2)).toArray ty (0, 0))) (hl : c0.length = j) : w.cell? ⟨X, j, none⟩ = some v := by
  refine (box_at hb).2.1 j v ?_
  rw [List.getElem?_toArray, List.getElem?_append_right (by omega)]
  simp [hl]
theorem Growing.next {ys : List β} {S : Nat → Prop} {val : Nat → Value} (h : Growing d e t hp x X n0 c0 c2 ty w v xs Sr Sc) (hF : Foot (fun k => k = X ∨ Sc k) w.drew w1) (hS : onGrew e X c0 c2 ty ys val S w1) (hm : ∀ k, S k → (w.drew.heap.size ≤ k ∨ (k = X ∨ Sc k)) ∧ k < w1.heap.size) :
    ∃ u, Growing d e t hp x X n0 c0 c2 ty w1 u ys Sr (fun k => S k ∧ k ≠ X) := by
  obtain ⟨u, h1, h2, h3⟩ := hS
  have hsz : w.drew.heap.size = w.heap.size := rfl
  have hX : X < w.heap.size := (Array.getElem?_eq_some_iff.1 h.box).1
  refine ⟨u, h1, h.hole.move (fun k hk hl => ⟨hk, hF.block k hl (fun e => e.elim (h.mine k (.inl hk)).2.2 (h.apart k hk))⟩), h3, fun k hk hs => ?_, fun k hk => ?_, h.at_⟩
  · rcases (hm k hs.1).1 with h4 | h4 | h4
    · have := (h.mine k (.inl hk)).2.1; omega
    · exact hs.2 h4
    · exact h.apart k hk h4
  · have hw := hF.size
    rcases hk with hk | hk
    · have := h.mine k (.inl hk); exact ⟨this.1, by omega, this.2.2⟩
    · have h5 := hm k hk.1
      refine ⟨?_, h5.2, hk.2⟩
      rcases h5.1 with h4 | h4 | h4
      · have := h.at_; omega
      · exact (hk.2 h4).elim
      · exact (h.mine k (.inr h4)).1
end
end
section
open Go.RowKit
set_option linter.unusedVariables false
end
section
open Go.RowKit
set_option linter.unusedVariables false
set_option maxRecDepth 100000
theorem info_Goal : (Tryz.prog.info? 100).map (fun i => (i.zero, i.size, i.bytes)) = some (some (.agg #[.int .i64 0, .slice none 0 0, .slice none 0 0, .slice none 0 0]), 4, 80) := by kernel_rfl
theorem info_Clause : (Tryz.prog.info? 113).map (fun i => (i.zero, i.size, i.bytes)) = some (some (.agg #[.slice none 0 0, .slice none 0 0]), 2, 48) := by kernel_rfl
theorem gf_body : Kd.GFld kClause (Kd.slice 111 kGoal (by decide)) 1 (fun x => x.body) (fun x y => { x with body := y }) := Kd.GFld.iso _ (Kd.GFld.snd (Kd.GFld.self _)) (fun _ _ => rfl)
theorem kClause_of {w : World} {S1 S2 : Nat → Prop} {x : Clause} {v1 v2 : Value} (h1 : kCell.R w S1 v1 x.head) (h2 : kGoal.R w S2 v2 x.body) (d : ∀ k, S1 k → ¬ S2 k) : kClause.O w (fun k => S1 k ∨ S2 k) x [v1, v2] :=
  ⟨S1, S2, [v1], [v2], rfl, fun k h => ⟨.inl h, d k h⟩, fun k h => .inr h, ⟨v1, rfl, h1⟩, ⟨v2, rfl, h2⟩⟩
def onOc {α : Type} (d : Kd α) (x : α) (cs : List Value) : On := fun _ S w => d.O w S x cs
theorem Growing.next' {α β : Type} {d : Kd α} {e : Kd β} {t : TypeId} {hp : 0 < e.sz} {x : List β → α} {X n0 : Nat} {c0 c2 : List Value} {ty : TypeId} {w w1 : World} {v : Value} {xs : List β} {Sr Sc S T : Nat → Prop} {ys : List β} {val : Nat → Value} (h : Growing d e t hp x X n0 c0 c2 ty w v xs Sr Sc) (hF : Foot T w w1) (hT : ∀ k, T k → n0 ≤ k ∧ ¬ Sr k) (hS : onGrew e X c0 c2 ty ys val S w1) (hm : ∀ k, S k → (w.heap.size ≤ k ∨ T k) ∧ k < w1.heap.size) :
    ∃ u, Growing d e t hp x X n0 c0 c2 ty w1 u ys Sr (fun k => S k ∧ k ≠ X) := by
  obtain ⟨u, h1, h2, h3⟩ := hS
  have hX : X < w.heap.size := (Array.getElem?_eq_some_iff.1 h.box).1
  refine ⟨u, h1, h.hole.move (fun k hk hl => ⟨hk, hF.block k hl (fun e => (hT k e).2 hk)⟩), h3, fun k hk hs => ?_, fun k hk => ?_, h.at_⟩
  · rcases (hm k hs.1).1 with h4 | h4
    · have := (h.mine k (.inl hk)).2.1; omega
    · exact (hT k h4).2 hk
  · have hw := hF.size
    rcases hk with hk | hk
    · have := h.mine k (.inl hk); exact ⟨this.1, by omega, this.2.2⟩
    · have h5 := hm k hk.1
      refine ⟨?_, h5.2, hk.2⟩
      rcases h5.1 with h4 | h4
      · have := h.at_; omega
      · exact (hT k h4).1
/-- Of a kind without memory of its own a row that is read is owned too. -/
theorem Kd.Os_plain {α : Type} {d : Kd α} (hp : ∀ {w : World} {ok : Nat → Prop} {x : α} {cs : List Value}, d.K w ok x cs → d.O w (fun _ => False) x cs) {w : World} {ok : Nat → Prop} : ∀ {xs : List α} {S : Nat → Prop} {cs : List Value}, d.Ks w ok xs cs → d.Os w S xs cs
  | [], S, cs, h => h
  | x :: xs, S, cs, h => by
    obtain ⟨c0, c1, rfl, h1, h2⟩ := h
    exact ⟨fun _ => False, fun _ => False, c0, c1, rfl, fun k h => h.elim, fun k h => h.elim, hp h1, Kd.Os_plain hp h2⟩
theorem Kd.W_R_plain {α : Type} {d : Kd α} (hp : ∀ {w : World} {ok : Nat → Prop} {x : α} {cs : List Value}, d.K w ok x cs → d.O w (fun _ => False) x cs) {w : World} {S ok : Nat → Prop} {v : Value} {xs : List α} (h : d.W w S ok v xs) : d.R w S v xs := by
  obtain ⟨h0, ⟨rfl, rfl⟩ | ⟨b, cap, cur, rfl, hb, hS, h1, h2, h3, h4⟩⟩ := h
  · exact ⟨h0, .inl ⟨rfl, rfl⟩⟩
  · exact ⟨h0, .inr ⟨b, cap, cur, rfl, hb, hS, h1, h2, h3, Kd.Os_plain hp h4⟩⟩
theorem kPlace_KO {w : World} {ok : Nat → Prop} {x : Place} {cs : List Value} (h : kPlace.K w ok x cs) : kPlace.O w (fun _ => False) x cs := by
  obtain ⟨rfl, hn⟩ := kPlace_K h
  exact ⟨fun _ => False, fun _ => False, [.string x.name], [.int .i64 x.n, .int .i64 x.node], rfl, fun _ h => h.elim, fun _ h => h.elim, ⟨rfl, hn⟩,
    fun _ => False, fun _ => False, [.int .i64 x.n], [.int .i64 x.node], rfl, fun _ h => h.elim, fun _ h => h.elim, ⟨rfl, trivial⟩, rfl, trivial⟩
theorem info_Place : (Tryz.prog.info? 116).map (fun i => (i.zero, i.size, i.bytes)) = some (some (.agg #[.string ⟨#[]⟩, .int .i64 0, .int .i64 0]), 3, 32) := by kernel_rfl
theorem clonePlaces_c (v : Value) (t : List Place) (ok : Nat → Prop) (w : World) (hV : kPlace.V w ok v t) :
    Calls Tryz.prog 156 #[v] w fun e w' => ∃ u, e = .returned u ∧ kPlace.R w' (fun k => w.heap.size ≤ k) u t ∧ Below w.heap.size w w' := by
  obtain ⟨A, c, rfl, h1, h2, h3, hC, h0⟩ := hV
  have hut := Tryz.underlying26
  cases A with
  | none =>
    have ht : t = [] := by
      rcases hC with h | ⟨b, off, hA, _⟩
      · exact h
      · cases hA
    subst ht
    obtain rfl := h0 rfl
    have hq := Go.Lib.run_eql_slice_nil (P := Tryz.prog) w 26 _ none 0 0 0 0 hut
    go_enter Tryz.func156, Tryz.ntmps156
    go_wp2
    go_ret
    exact ⟨_, rfl, Kd.R_nil _ _ _, Below.refl _ _⟩
  | some a =>
    have HV : Sec (kPlace.V w ok (.slice (some a) t.length c) t) := ⟨⟨_, c, rfl, h1, h2, h3, hC, h0⟩⟩
    clear hC h0
    have hq := Go.Lib.run_eql_slice_nil (P := Tryz.prog) w 26 _ (some a) t.length c 0 0 hut
    go_enter Tryz.func156, Tryz.ntmps156
    go_wp2_with (at_builtin; refine Kd.W_cat kPlace rfl (.tmp 5) (.tmp 6) 26 (.agg #[.string ⟨#[]⟩, .int .i64 0, .int .i64 0]) 32 rfl Tryz.underlying26 info_Place rfl (by decide) (by decide) (.slice (some ⟨w.heap.size, 0, none⟩) 0 0) (.slice (some a) t.length c) [] t (fun k => w.heap.size ≤ k) (fun k => k < w.heap.size) rfl rfl (Kd.W_empty kPlace w _ _ (Nat.le_refl _)) (Kd.V_move (fun k hk hl => ⟨⟨hl, fun e => absurd (show k = w.heap.size by simpa [Value.ownBlock] using e) (by omega)⟩, Below.heap_alloc _ _ _ hl⟩) HV.out (by decide)) (by simpa using h3) ?_; intro v1 w1 hW hg; have HR := Sec.mk (Kd.W_R_plain kPlace_KO hW); have HB := Sec.mk ((belA (Below.refl w.heap.size w) _).grown hg (by simp) (fun k e => Nat.le_of_eq (show w.heap.size = k by simpa [Value.ownBlock] using e))); clear hW hg)
    go_ret
    exact ⟨_, rfl, by have := HR.out; simp only [List.nil_append] at this; exact Kd.R_mono this (fun k h _ => h.elim id (fun h => by simp at h; omega)), HB.out⟩
end
section
open Go.RowKit
set_option linter.unusedVariables false
set_option maxRecDepth 100000
set_option maxHeartbeats 4000000 in
theorem l3Copy_c (v : Value) (t : List Clause) (ok0 : Nat → Prop) (w : World) (hV0 : kClause.V w ok0 v t) :
    Calls Tryz.prog 148 #[v] w fun e w' => ∃ u, e = .returned u ∧ kClause.R w' (fun k => w.heap.size ≤ k) u t ∧ Below w.heap.size w w' := by
  obtain ⟨ok, hok, hV⟩ : ∃ ok : Nat → Prop, (∀ k, ok k → k < w.heap.size) ∧ kClause.V w ok v t := ⟨fun k => ok0 k ∧ k < w.heap.size, fun k h => h.2, Kd.V_move (fun k h1 h2 => ⟨⟨h1, h2⟩, rfl⟩) hV0 (by decide)⟩
  clear hV0
  obtain ⟨A, c, rfl, h1, h2, h3, hC, hz⟩ := hV
  have HC := Sec.mk hC
  have HOK := Sec.mk hok
  clear hC hz hok
  have hu := Tryz.underlying113
  have hu2 := Tryz.underlying100
  have hu3 := Tryz.underlying113
  go_enter Tryz.func148, Tryz.ntmps148
  go_wp2
  go_loopw [3, 4] (fun ov iv wr => ∃ k : Nat, k ≤ t.length ∧ iv = .int .i64 k ∧ Sec (kClause.R wr (fun k => w.heap.size ≤ k) ov (t.take k)) ∧ Sec (Below w.heap.size w wr)) (fun _ iv _ => t.length - (intOf iv).toNat)
  case atStart => exact ⟨0, Nat.zero_le _, rfl, ⟨by rw [List.take_zero]; exact Kd.R_empty kClause (w := w) (W := w) (Nat.le_refl _)⟩, ⟨belA (Below.refl _ _) _⟩⟩
  case round =>
    obtain ⟨k, hk, rfl, hR, hb⟩ := hrel
    by_cases hlt : k < t.length
    · obtain ⟨b, off, cs, rfl, hob, hK, hc⟩ := Kd.C_get (Kd.C_below HC.out hb.out (by decide)) (List.getElem?_eq_getElem hlt)
      have hT : Sec (t.take (k + 1) = t.take k ++ [t[k]]) := ⟨List.take_succ_eq_append_getElem hlt⟩
      have hL : Sec ((t.take k).length + 1 ≤ 1073741824) := ⟨by rw [List.length_take]; omega⟩
      obtain ⟨A9, c9, hv9, -⟩ := Kd.R_form hR.out
      subst hv9
      generalize t[k] = x at *
      generalize t.take k = tk at *
      obtain ⟨va, vb, rfl, hva, hvb⟩ := kClause_K hK
      have LA : x.head.length ≤ 1073741824 := by obtain ⟨_, _, _, _, _, h, _⟩ := hva; exact h
      obtain ⟨Ea, ma, rfl, -⟩ := id hva
      obtain ⟨Eb, mb, rfl, -, -, lb, hCb, -⟩ := id hvb
      have cc0 : wr.cell? ⟨b, off + k * 2, none⟩ = some (.slice Ea x.head.length ma) := hc 0 _ rfl
      have cc1 : wr.cell? ⟨b, off + k * 2 + 1, none⟩ = some (.slice Eb x.body.length mb) := hc 1 _ rfl
      have i0 : (0 : Int) ≤ (k : Int) := by omega
      have i1 : (k : Int) < (t.length : Int) := by omega
      have hzb := hb.out.size
      have hbl := HOK.out b hob
      have HVA := Sec.mk hva
      have HBO := Sec.mk (fun (W : World) (h : Below wr.heap.size wr W) => bel hb.out h)
      have HCO := Sec.mk (fun (W : World) (h : Below wr.heap.size wr W) => Kd.C_below hCb h (by decide))
      have CCO := Sec.mk (fun (W : World) (h : Below wr.heap.size wr W) => Raw.cell_below h cc1)
      have HRO := Sec.mk (fun (W : World) (h : Below wr.heap.size wr W) => Kd.R_below (Kd.R_mono hR.out (S1 := fun k => w.heap.size ≤ k ∧ k < wr.heap.size) (fun k h1 h2 => ⟨h1, h2⟩)) h)
      have cc0' : (wr.alloc (.cells #[] 39)).cell? ⟨b, off + k * 2, none⟩ = some (.slice Ea x.head.length ma) := Raw.cell_below (belA (Below.refl _ _) _) cc0
      clear hK hc hva hvb hCb hR
      go_wp2_with (at_builtin; refine Kd.W_cat kCell rfl (.tmp 14) (.tmp 19) 23 (.agg #[.int .i64 0, .int .i64 0, .string ⟨#[]⟩]) 32 rfl Tryz.underlying23 info_cell rfl (by decide) (by decide) (.slice (some ⟨wr.heap.size, 0, none⟩) 0 0) (.slice Ea x.head.length ma) [] x.head (fun k => wr.heap.size ≤ k) (fun k => k < wr.heap.size) rfl rfl (Kd.W_empty kCell wr _ _ (Nat.le_refl _)) (Kd.V_move (fun k hk hl => ⟨⟨hl, fun e => absurd (show k = wr.heap.size by simpa [Value.ownBlock] using e) (by omega)⟩, Below.heap_alloc _ _ _ hl⟩) HVA.out (by decide)) (by simpa using LA) ?_; intro v1 w1 hW hg; have hW1 := kCell_W_R hW; obtain ⟨A1, n1, rfl, -, -⟩ := Kd.R_form hW1; simp only [List.nil_append] at hW1; have HR1 := Sec.mk hW1; have HB1 := Sec.mk ((belA (Below.refl wr.heap.size wr) _).grown hg (by simp) (fun k e => Nat.le_of_eq (show wr.heap.size = k by simpa [Value.ownBlock] using e))); clear hW hg hW1)
      have HR1' : Sec (kCell.R w1 (fun k => wr.heap.size ≤ k ∧ k < w1.heap.size) (.slice A1 x.head.length n1) x.head) := ⟨Kd.R_mono HR1.out (fun k h h2 => ⟨by rcases h with h | h; exact h; (have h9 : (wr.alloc (.cells #[] 39)).heap.size ≤ k := h; simp at h9; omega), h2⟩)⟩
      have hn1z := HB1.out.size
      obtain ⟨c0, c2, v, Sr, Sc, hl0, -, HG0⟩ := Growing.start (w := w1.alloc (.cells #[.slice A1 x.head.length n1, .slice none 0 0] 113)) (X := w1.heap.size) (n0 := wr.heap.size) gf_body (heap_alloc_new w1 _) (kClause_of (x := ⟨x.head, []⟩) (Kd.R_below HR1'.out (belA (Below.refl _ _) _)) (Kd.R_nil kGoal _ (fun _ => False)) (fun k h => id)) (fun k hk => by rcases hk with hk | hk; exact ⟨hk.1, by omega⟩; exact hk.elim) hn1z
      have GS := Sec.mk HG0
      have HBS := Sec.mk (belA HB1.out (.cells #[.slice A1 x.head.length n1, .slice none 0 0] 113))
      have HGZ : Sec (wr.heap.size ≤ w1.heap.size) := ⟨hn1z⟩
      clear HG0 HR1 HR1' HB1 cc0 cc0' cc1 HVA hn1z
      generalize w1.alloc (.cells #[.slice A1 (List.length x.head) n1, .slice none 0 0] 113) = w2 at *
      generalize w1.heap.size = g at *
      generalize hnn : wr.heap.size = nn at *
      have HNN := Sec.mk hnn
      clear hnn
      go_loopw [6] (fun iv ws => ∃ j : Nat, j ≤ x.body.length ∧ iv = .int .i64 j ∧ Sec (∃ v Sr Sc, Growing kClause kGoal 111 (by decide) (fun y => (⟨x.head, y⟩ : Clause)) g nn c0 c2 113 ws v (x.body.take j) Sr Sc) ∧ Sec (Below nn wr ws)) (fun iv _ => x.body.length - (intOf iv).toNat)
      case atStart => exact ⟨0, Nat.zero_le _, rfl, ⟨_, _, _, by rw [List.take_zero]; exact GS.out⟩, HBS⟩
      case round =>
        clear GS HBS
        obtain ⟨j, hj, rfl, hG, hbi⟩ := hrel
        have HCB := Sec.mk (HCO.out _ hbi.out)
        have CC1 := Sec.mk (CCO.out _ hbi.out)
        have HBW := Sec.mk (HBO.out _ hbi.out)
        have HRW := Sec.mk (HRO.out _ hbi.out)
        have HSN : Sec (nn ≤ wr.heap.size) := ⟨by have := hbi.out.size; rwa [HNN.out] at this⟩
        have HSZ := Sec.mk HBW.out.size
        obtain ⟨v, Sr, Sc, HG0⟩ := hG.out
        clear hG
        by_cases hlt2 : j < x.body.length
        · obtain ⟨Av, nv, rfl, -, -⟩ := Kd.R_form HG0.row
          obtain ⟨b2, off2, ys, rfl, hob2, hKy, hcy⟩ := Kd.C_get HCB.out (List.getElem?_eq_getElem hlt2)
          have hTj : Sec (x.body.take (j + 1) = x.body.take j ++ [x.body[j]]) := ⟨List.take_succ_eq_append_getElem hlt2⟩
          have hLd : Sec ((x.body.take j).length + 1 ≤ 1073741824) := ⟨by rw [List.length_take]; omega⟩
          generalize x.body[j] = y at *
          generalize x.body.take j = done at *
          have HYK0 := hKy
          obtain ⟨ya, yb, yc, rfl, -, -, -⟩ := kGoal_K hKy
          have HYK := Sec.mk HYK0
          have HYC : Sec (∀ i u, ([.int .i64 y.kind, ya, yb, yc] : List Value)[i]? = some u → wr.cell? ⟨b2, off2 + j * 4 + i, none⟩ = some u) := ⟨fun i u h => by have := hcy i u h; rwa [← Nat.add_assoc] at this⟩
          have nOK : ∀ q, ok q → ¬ (q = g ∨ Sc q) := fun q h1 h2 => by
            have h3 := HOK.out q h1
            have h4 := HGZ.out
            rcases h2 with h2 | h2
            · omega
            · have := (HG0.mine q (.inr h2)).1; omega
          have NW : Sec (∀ q, (q = g ∨ Sc q) → nn ≤ q) := ⟨fun q h => by
            rcases h with h | h
            · have := HGZ.out; omega
            · exact (HG0.mine q (.inr h)).1⟩
          have nB := nOK b hob
          have nB2 := nOK b2 hob2
          have HG := Sec.mk HG0
          have j0 : (0 : Int) ≤ (j : Int) := by omega
          have j1 : (j : Int) < (x.body.length : Int) := by omega
          have cc1 := CC1.out
          clear HG0 HYK0 hKy hcy HCB HCO CCO HBO HRO HRW
          go_wp2
          refine wp_region_lists [[32], [33], [34], [35], [36], [37], [38], [39], [40], [41], [42], [43], [44], [45], [], [], []]
            [fun val _ _ => val 32 = .pointer (some ⟨g, 1, none⟩),
              fun val _ _ => val 33 = (.slice Av done.length nv),
              fun val _ _ => val 34 = .slice (some ⟨b, off, none⟩) t.length c,
              fun val _ _ => val 35 = .int .i64 k,
              fun val _ _ => val 36 = .pointer (some ⟨b, off + k * 2, none⟩),
              fun val _ _ => val 37 = .pointer (some ⟨b, off + k * 2 + 1, none⟩),
              fun val _ _ => val 38 = .slice (some ⟨b2, off2, none⟩) x.body.length mb,
              fun val _ _ => val 39 = .int .i64 j,
              fun val _ _ => val 40 = .pointer (some ⟨b2, off2 + j * 4, none⟩),
              fun val _ _ => val 41 = .agg ([.int .i64 y.kind, ya, yb, yc]).toArray,
              onO kGoal 42 y,
              onOne kGoal 43 y,
              onR kGoal 44 (done ++ [y]),
              fun val _ _ => val 45 = .pointer (some ⟨g, 1, none⟩),
              onGrew kGoal g c0 c2 113 (done ++ [y]),
              onCells g (c0 ++ ((.slice Av done.length nv) :: c2)).toArray 113,
              onRc kGoal (.slice Av done.length nv) done]
            [[], [], [], [], [], [], [], [], [], [], [], [10], [16, 11], [], [15, 12], [], []] 2 (fun q => q = g ∨ Sc q) (fun i k => (i = 15 ∧ k = g) ∨ (i = 16 ∧ Sc k)) (by kernel_rfl) ⟨by kernel_rfl, by kernel_rfl, by kernel_rfl, by kernel_rfl, by kernel_rfl⟩
            (.cons (stab_val 32 (fun v => v = .pointer (some ⟨g, 1, none⟩))) (.cons (stab_val 33 (fun v => v = (.slice Av done.length nv))) (.cons (stab_val 34 (fun v => v = .slice (some ⟨b, off, none⟩) t.length c)) (.cons (stab_val 35 (fun v => v = .int .i64 k)) (.cons (stab_val 36 (fun v => v = .pointer (some ⟨b, off + k * 2, none⟩))) (.cons (stab_val 37 (fun v => v = .pointer (some ⟨b, off + k * 2 + 1, none⟩))) (.cons (stab_val 38 (fun v => v = .slice (some ⟨b2, off2, none⟩) x.body.length mb)) (.cons (stab_val 39 (fun v => v = .int .i64 j)) (.cons (stab_val 40 (fun v => v = .pointer (some ⟨b2, off2 + j * 4, none⟩))) (.cons (stab_val 41 (fun v => v = .agg ([.int .i64 y.kind, ya, yb, yc]).toArray)) (.cons (stab_O kGoal 42 y) (.cons (stab_one kGoal 43 y) (.cons (stab_R kGoal 44 (done ++ [y])) (.cons (stab_val 45 (fun v => v = .pointer (some ⟨g, 1, none⟩))) (.cons (stab_grew kGoal g c0 c2 113 (done ++ [y])) (.cons (stab_cells g (c0 ++ ((.slice Av done.length nv) :: c2)).toArray 113) (.cons (stab_Rc kGoal (.slice Av done.length nv) done) .nil)))))))))))))))))
            (fun i j k h1 h2 => by rcases h1 with ⟨a1, b1⟩ | ⟨a1, b1⟩ <;> rcases h2 with ⟨a2, b2⟩ | ⟨a2, b2⟩ <;> first | omega | (exact ((HG.out.mine k (.inr (by assumption))).2.2 (by assumption)).elim)) (fun i k h => by rcases h with ⟨rfl, rfl⟩ | ⟨rfl, h⟩ <;> first | exact ⟨by decide, .inl rfl, (Array.getElem?_eq_some_iff.1 HG.out.box).1⟩ | exact ⟨by decide, .inr h, (HG.out.mine k (.inr h)).2.1⟩) (fun i h1 h2 => by
              rcases (show i = 15 ∨ i = 16 by simp at h1 h2; omega) with rfl | rfl
              · exact ⟨HG.out.box, .inl ⟨rfl, rfl⟩⟩
              · exact Kd.R_mono (Kd.R_below HG.out.row (belD (Below.refl _ _))) (fun q h _ => .inr ⟨rfl, h⟩)) (.cons ?_ (.cons ?_ (.cons ?_ (.cons ?_ (.cons ?_ (.cons ?_ (.cons ?_ (.cons ?_ (.cons ?_ (.cons ?_ (.cons ?_ (.cons ?_ (.cons ?_ (.cons ?_ (.cons ?_ .nil))))))))))))))) ?_
          · intro a W own hfor huse hap hmi hF K hK
            have e5 : a.eval (.tmp 5) = .pointer (some ⟨g, 0, none⟩) := hfor 5 (by kernel_rfl)
            refine op_val (.pointer (some ⟨g, 1, none⟩)) W rfl ?_ (hK _ _ (post_pure ?_))
            · clear hfor huse hap hmi hK hF
              generalize a.eval = ρ at *
              go_simp
            · exact (if_pos rfl)
          · intro a W own hfor huse hap hmi hF K hK
            have e32 : a.eval (.tmp 32) = .pointer (some ⟨g, 1, none⟩) := huse 0 (by kernel_rfl)
            have q0 := grow_cell (huse 15 (by kernel_rfl) : onCells g (c0 ++ ((.slice Av done.length nv) :: c2)).toArray 113 (slotsOf a) (own 15) W).1 hl0
            refine op_val ((.slice Av done.length nv)) W rfl ?_ (hK _ _ (post_pure ?_))
            · clear hfor huse hap hmi hK hF
              generalize a.eval = ρ at *
              go_simp
            · exact (if_pos rfl)
          · intro a W own hfor huse hap hmi hF K hK
            have e0 : a.eval (.tmp 0) = .slice (some ⟨b, off, none⟩) t.length c := hfor 0 (by kernel_rfl)
            refine op_val (.slice (some ⟨b, off, none⟩) t.length c) W rfl ?_ (hK _ _ (post_pure ?_))
            · clear hfor huse hap hmi hK hF
              generalize a.eval = ρ at *
              go_simp
            · exact (if_pos rfl)
          · intro a W own hfor huse hap hmi hF K hK
            have e4 : a.eval (.tmp 4) = .int .i64 k := hfor 4 (by kernel_rfl)
            refine op_val (.int .i64 k) W rfl ?_ (hK _ _ (post_pure ?_))
            · clear hfor huse hap hmi hK hF
              generalize a.eval = ρ at *
              go_simp
            · exact (if_pos rfl)
          · intro a W own hfor huse hap hmi hF K hK
            have e34 : a.eval (.tmp 34) = .slice (some ⟨b, off, none⟩) t.length c := huse 2 (by kernel_rfl)
            have e35 : a.eval (.tmp 35) = .int .i64 k := huse 3 (by kernel_rfl)
            refine op_val (.pointer (some ⟨b, off + k * 2, none⟩)) W rfl ?_ (hK _ _ (post_pure ?_))
            · clear hfor huse hap hmi hK hF
              generalize a.eval = ρ at *
              go_simp
            · exact (if_pos rfl)
          · intro a W own hfor huse hap hmi hF K hK
            have e36 : a.eval (.tmp 36) = .pointer (some ⟨b, off + k * 2, none⟩) := huse 4 (by kernel_rfl)
            refine op_val (.pointer (some ⟨b, off + k * 2 + 1, none⟩)) W rfl ?_ (hK _ _ (post_pure ?_))
            · clear hfor huse hap hmi hK hF
              generalize a.eval = ρ at *
              go_simp
            · exact (if_pos rfl)
          · intro a W own hfor huse hap hmi hF K hK
            have e37 : a.eval (.tmp 37) = .pointer (some ⟨b, off + k * 2 + 1, none⟩) := huse 5 (by kernel_rfl)
            have y1 := foot_cell hF nB CC1.out
            refine op_val (.slice (some ⟨b2, off2, none⟩) x.body.length mb) W rfl ?_ (hK _ _ (post_pure ?_))
            · clear hfor huse hap hmi hK hF
              generalize a.eval = ρ at *
              go_simp
            · exact (if_pos rfl)
          · intro a W own hfor huse hap hmi hF K hK
            have e6 : a.eval (.tmp 6) = .int .i64 j := hfor 6 (by kernel_rfl)
            refine op_val (.int .i64 j) W rfl ?_ (hK _ _ (post_pure ?_))
            · clear hfor huse hap hmi hK hF
              generalize a.eval = ρ at *
              go_simp
            · exact (if_pos rfl)
          · intro a W own hfor huse hap hmi hF K hK
            have e38 : a.eval (.tmp 38) = .slice (some ⟨b2, off2, none⟩) x.body.length mb := huse 6 (by kernel_rfl)
            have e39 : a.eval (.tmp 39) = .int .i64 j := huse 7 (by kernel_rfl)
            refine op_val (.pointer (some ⟨b2, off2 + j * 4, none⟩)) W rfl ?_ (hK _ _ (post_pure ?_))
            · clear hfor huse hap hmi hK hF
              generalize a.eval = ρ at *
              go_simp
            · exact (if_pos rfl)
          · intro a W own hfor huse hap hmi hF K hK
            have e40 : a.eval (.tmp 40) = .pointer (some ⟨b2, off2 + j * 4, none⟩) := huse 8 (by kernel_rfl)
            have hu_41 := hu2
            have hc : ∀ i u, ([.int .i64 y.kind, ya, yb, yc] : List Value)[i]? = some u → W.cell? ⟨b2, off2 + j * 4 + i, none⟩ = some u := fun i u h => foot_cell hF nB2 (HYC.out i u h)
            refine step_load (cs := [.int .i64 y.kind, ya, yb, yc]) rfl 100 (.tmp 40) rfl e40 hc hu_41 rfl (by kernel_rfl) (hK _ _ (post_pure (if_pos rfl)))
          · intro a W own hfor huse hap hmi hF K hK
            have e41 : a.eval (.tmp 41) = .agg ([.int .i64 y.kind, ya, yb, yc]).toArray := huse 9 (by kernel_rfl)
            have hKx := kGoal.K_move (show Keeps wr W ok ok from fun q h1 h2 => ⟨h1, hF.block q h2 (nOK q h1)⟩) HYK.out
            have efn : a.eval (.func 199) = .func (.func 199) #[] #[] := rfl
            refine op_call (f := 199) (args := #[.agg ([.int .i64 y.kind, ya, yb, yc]).toArray]) (fun v w1 => ∃ c : List Value, v = .agg c.toArray ∧ kGoal.O w1 (fun k => W.heap.size ≤ k) y c ∧ Below W.heap.size W w1) rfl ?_ ?_ (fun v w1 h => ?_)
            · clear hfor huse hap hmi hK hF
              generalize a.eval = ρ at *
              go_simp
            · exact (l3Goal_c y _ ok W hKx (fun q h => Nat.lt_of_lt_of_le (HOK.out q h) (Nat.le_trans HSZ.out hF.size))).mono (by rintro e w1 ⟨c, rfl, h1, h2⟩; exact ⟨_, rfl, c, rfl, h1, h2⟩)
            · obtain ⟨c, rfl, h1, h2⟩ := h
              exact hK _ _ (post_new h2 ⟨c, if_pos rfl, kGoal.O_mono h1 (fun k h3 h4 => ⟨h3, h4⟩)⟩)
          · intro a W own hfor huse hap hmi hF K hK
            obtain ⟨cs10, e42, r10⟩ := (huse 10 (by kernel_rfl) : onO kGoal 42 y (slotsOf a) (own 10) W)
            have e42 : a.eval (.tmp 42) = .agg cs10.toArray := e42
            have hlen := kGoal.K_len (kGoal.O_K r10)
            refine step_box rfl 111 100 (.tmp 42) rfl e42 Tryz.underlying111 info_Goal hlen (by decide) (by decide) (hK _ _ ⟨fun k => own 10 k ∨ (W.heap.size ≤ k ∧ k < (W.alloc (.cells cs10.toArray 100)).heap.size), Foot.of_below (belA (Below.refl _ _) _), ?_, fun k h => Or.imp (fun h => ⟨10, by decide, h⟩) id h⟩)
            refine ⟨W.heap.size, cs10, if_pos rfl, heap_alloc_new W _, .inr ⟨Nat.le_refl _, by simp⟩, Kd.O_mono (Kd.O_below r10 (belA (Below.refl _ _) _)) (fun k h _ => ⟨.inl h, fun e => by have h1 := (hmi 10 k h).2; omega⟩)⟩
          · intro a W own hfor huse hap hmi hF K hK
            have e33 : a.eval (.tmp 33) = (.slice Av done.length nv) := huse 1 (by kernel_rfl)
            have r16 := (huse 16 (by kernel_rfl) : onRc kGoal (.slice Av done.length nv) done (slotsOf a) (own 16) W)
            obtain ⟨g, cs, e43, hbx, hSg, rb⟩ := (huse 11 (by kernel_rfl) : onOne kGoal 43 y (slotsOf a) (own 11) W)
            have e43 : a.eval (.tmp 43) = .slice (some ⟨g, 0, none⟩) 1 1 := e43
            refine step_one kGoal rfl (.tmp 33) (.tmp 43) 111 (.agg #[.int .i64 0, .slice none 0 0, .slice none 0 0, .slice none 0 0]) 80 rfl Tryz.underlying111 info_Goal rfl (by decide) (by decide) e33 e43 r16 hbx rb (fun k h1 h2 => by have := hap 11 16 k h1.1 h2; omega) hLd.out (fun v1 w1 hR hF1 => hK _ _ ⟨fun k => own 16 k ∨ own 11 k ∨ (W.heap.size ≤ k ∧ k < w1.heap.size), Foot.mono hF1 (fun k h => ⟨16, by decide, h⟩), ?_, ?_⟩)
            · show kGoal.R _ _ (if _ then _ else _) (done ++ [y])
              rw [if_pos rfl]
              exact Kd.R_mono hR (fun k h _ => h.imp id (fun h => h.imp (fun h => h.1) id))
            · intro k h
              rcases h with h | h | h
              · exact .inl ⟨16, by decide, h⟩
              · exact .inl ⟨11, by decide, h⟩
              · exact .inr h
          · intro a W own hfor huse hap hmi hF K hK
            have e5 : a.eval (.tmp 5) = .pointer (some ⟨g, 0, none⟩) := hfor 5 (by kernel_rfl)
            refine op_val (.pointer (some ⟨g, 1, none⟩)) W rfl ?_ (hK _ _ (post_pure ?_))
            · clear hfor huse hap hmi hK hF
              generalize a.eval = ρ at *
              go_simp
            · exact (if_pos rfl)
          · intro a W own hfor huse hap hmi hF K hK
            have e45 : a.eval (.tmp 45) = .pointer (some ⟨g, 1, none⟩) := huse 13 (by kernel_rfl)
            obtain ⟨hb, hSX⟩ := (huse 15 (by kernel_rfl) : onCells g (c0 ++ ((.slice Av done.length nv) :: c2)).toArray 113 (slotsOf a) (own 15) W)
            have r12 : kGoal.R W (own 12) (a.eval (.tmp 44)) (done ++ [y]) := huse 12 (by kernel_rfl)
            obtain ⟨A12, n12, e44, -, -⟩ := Kd.R_form r12
            rw [e44] at r12
            have q0 := grow_cell hb hl0
            have f0 := (box_at hb).2.2 1
            have F : Foot (fun k => k = g) W (W.setCell ⟨g, 1, none⟩ (.slice A12 (done ++ [y]).length n12)) := Foot.set (Foot.refl (fun k => k = g) W) (.inl rfl) _ _
            refine op_skip (W.setCell ⟨g, 1, none⟩ (.slice A12 (done ++ [y]).length n12)) rfl ?_ (hK _ _ ⟨fun k => own 15 k ∨ own 12 k, Foot.mono F (fun k e => ⟨15, by decide, e ▸ hSX⟩), ?_, ?_⟩)
            · clear hfor huse hap hmi hK hF hb F r12
              generalize a.eval = ρ at *
              go_simp
            · exact ⟨_, grow_set hb hl0 _, .inl hSX, Kd.R_mono (F.R r12 (fun k h1 h2 => by have := hap 15 12 g hSX (h2 ▸ h1); omega)) (fun k h _ => ⟨.inr h, fun e => by have := hap 15 12 g hSX (e ▸ h); omega⟩)⟩
            · intro k h
              left
              rcases h with h | h
              · exact ⟨15, by decide, h⟩
              · exact ⟨12, by decide, h⟩
          intro a' W own hf
          have hsz := hf.st.size
          have hdf := hf.st.rest
          obtain ⟨⟨l⟩, df⟩ := a'
          have hl0 : l.length = 51 := hsz
          clear hsz
          obtain rfl : df = [] := hdf
          obtain ⟨x0, l0, rfl, hl1⟩ := lst_cons hl0
          clear hl0
          obtain ⟨x1, l1, rfl, hl2⟩ := lst_cons hl1
          clear hl1
          obtain ⟨x2, l2, rfl, hl3⟩ := lst_cons hl2
          clear hl2
          obtain ⟨x3, l3, rfl, hl4⟩ := lst_cons hl3
          clear hl3
          obtain ⟨x4, l4, rfl, hl5⟩ := lst_cons hl4
          clear hl4
          obtain ⟨x5, l5, rfl, hl6⟩ := lst_cons hl5
          clear hl5
          obtain ⟨x6, l6, rfl, hl7⟩ := lst_cons hl6
          clear hl6
          obtain ⟨x7, l7, rfl, hl8⟩ := lst_cons hl7
          clear hl7
          obtain ⟨x8, l8, rfl, hl9⟩ := lst_cons hl8
          clear hl8
          obtain ⟨x9, l9, rfl, hl10⟩ := lst_cons hl9
          clear hl9
          obtain ⟨x10, l10, rfl, hl11⟩ := lst_cons hl10
          clear hl10
          obtain ⟨x11, l11, rfl, hl12⟩ := lst_cons hl11
          clear hl11
          obtain ⟨x12, l12, rfl, hl13⟩ := lst_cons hl12
          clear hl12
          obtain ⟨x13, l13, rfl, hl14⟩ := lst_cons hl13
          clear hl13
          obtain ⟨x14, l14, rfl, hl15⟩ := lst_cons hl14
          clear hl14
          obtain ⟨x15, l15, rfl, hl16⟩ := lst_cons hl15
          clear hl15
          obtain ⟨x16, l16, rfl, hl17⟩ := lst_cons hl16
          clear hl16
          obtain ⟨x17, l17, rfl, hl18⟩ := lst_cons hl17
          clear hl17
          obtain ⟨x18, l18, rfl, hl19⟩ := lst_cons hl18
          clear hl18
          obtain ⟨x19, l19, rfl, hl20⟩ := lst_cons hl19
          clear hl19
          obtain ⟨x20, l20, rfl, hl21⟩ := lst_cons hl20
          clear hl20
          obtain ⟨x21, l21, rfl, hl22⟩ := lst_cons hl21
          clear hl21
          obtain ⟨x22, l22, rfl, hl23⟩ := lst_cons hl22
          clear hl22
          obtain ⟨x23, l23, rfl, hl24⟩ := lst_cons hl23
          clear hl23
          obtain ⟨x24, l24, rfl, hl25⟩ := lst_cons hl24
          clear hl24
          obtain ⟨x25, l25, rfl, hl26⟩ := lst_cons hl25
          clear hl25
          obtain ⟨x26, l26, rfl, hl27⟩ := lst_cons hl26
          clear hl26
          obtain ⟨x27, l27, rfl, hl28⟩ := lst_cons hl27
          clear hl27
          obtain ⟨x28, l28, rfl, hl29⟩ := lst_cons hl28
          clear hl28
          obtain ⟨x29, l29, rfl, hl30⟩ := lst_cons hl29
          clear hl29
          obtain ⟨x30, l30, rfl, hl31⟩ := lst_cons hl30
          clear hl30
          obtain ⟨x31, l31, rfl, hl32⟩ := lst_cons hl31
          clear hl31
          obtain ⟨x32, l32, rfl, hl33⟩ := lst_cons hl32
          clear hl32
          obtain ⟨x33, l33, rfl, hl34⟩ := lst_cons hl33
          clear hl33
          obtain ⟨x34, l34, rfl, hl35⟩ := lst_cons hl34
          clear hl34
          obtain ⟨x35, l35, rfl, hl36⟩ := lst_cons hl35
          clear hl35
          obtain ⟨x36, l36, rfl, hl37⟩ := lst_cons hl36
          clear hl36
          obtain ⟨x37, l37, rfl, hl38⟩ := lst_cons hl37
          clear hl37
          obtain ⟨x38, l38, rfl, hl39⟩ := lst_cons hl38
          clear hl38
          obtain ⟨x39, l39, rfl, hl40⟩ := lst_cons hl39
          clear hl39
          obtain ⟨x40, l40, rfl, hl41⟩ := lst_cons hl40
          clear hl40
          obtain ⟨x41, l41, rfl, hl42⟩ := lst_cons hl41
          clear hl41
          obtain ⟨x42, l42, rfl, hl43⟩ := lst_cons hl42
          clear hl42
          obtain ⟨x43, l43, rfl, hl44⟩ := lst_cons hl43
          clear hl43
          obtain ⟨x44, l44, rfl, hl45⟩ := lst_cons hl44
          clear hl44
          obtain ⟨x45, l45, rfl, hl46⟩ := lst_cons hl45
          clear hl45
          obtain ⟨x46, l46, rfl, hl47⟩ := lst_cons hl46
          clear hl46
          obtain ⟨x47, l47, rfl, hl48⟩ := lst_cons hl47
          clear hl47
          obtain ⟨x48, l48, rfl, hl49⟩ := lst_cons hl48
          clear hl48
          obtain ⟨x49, l49, rfl, hl50⟩ := lst_cons hl49
          clear hl49
          obtain ⟨x50, l50, rfl, hl51⟩ := lst_cons hl50
          clear hl50
          obtain rfl := List.eq_nil_of_length_eq_zero hl51
          have e0 := hf.st.kept 0 (by kernel_rfl)
          simp only [slotsOf, Act.eval, Array.getD_eq_getD_getElem?, List.getElem?_toArray, List.getElem?_cons_zero, Option.getD_some] at e0
          subst e0
          have e1 := hf.st.kept 1 (by kernel_rfl)
          simp only [slotsOf, Act.eval, Array.getD_eq_getD_getElem?, List.getElem?_toArray, List.getElem?_cons_succ, List.getElem?_cons_zero, Option.getD_some] at e1
          subst e1
          have e2 := hf.st.kept 2 (by kernel_rfl)
          simp only [slotsOf, Act.eval, Array.getD_eq_getD_getElem?, List.getElem?_toArray, List.getElem?_cons_succ, List.getElem?_cons_zero, Option.getD_some] at e2
          subst e2
          have e3 := hf.st.kept 3 (by kernel_rfl)
          simp only [slotsOf, Act.eval, Array.getD_eq_getD_getElem?, List.getElem?_toArray, List.getElem?_cons_succ, List.getElem?_cons_zero, Option.getD_some] at e3
          subst e3
          have e4 := hf.st.kept 4 (by kernel_rfl)
          simp only [slotsOf, Act.eval, Array.getD_eq_getD_getElem?, List.getElem?_toArray, List.getElem?_cons_succ, List.getElem?_cons_zero, Option.getD_some] at e4
          subst e4
          have e5 := hf.st.kept 5 (by kernel_rfl)
          simp only [slotsOf, Act.eval, Array.getD_eq_getD_getElem?, List.getElem?_toArray, List.getElem?_cons_succ, List.getElem?_cons_zero, Option.getD_some] at e5
          subst e5
          have e6 := hf.st.kept 6 (by kernel_rfl)
          simp only [slotsOf, Act.eval, Array.getD_eq_getD_getElem?, List.getElem?_toArray, List.getElem?_cons_succ, List.getElem?_cons_zero, Option.getD_some] at e6
          subst e6
          have e7 := hf.st.kept 7 (by kernel_rfl)
          simp only [slotsOf, Act.eval, Array.getD_eq_getD_getElem?, List.getElem?_toArray, List.getElem?_cons_succ, List.getElem?_cons_zero, Option.getD_some] at e7
          subst e7
          have e8 := hf.st.kept 8 (by kernel_rfl)
          simp only [slotsOf, Act.eval, Array.getD_eq_getD_getElem?, List.getElem?_toArray, List.getElem?_cons_succ, List.getElem?_cons_zero, Option.getD_some] at e8
          subst e8
          have e9 := hf.st.kept 9 (by kernel_rfl)
          simp only [slotsOf, Act.eval, Array.getD_eq_getD_getElem?, List.getElem?_toArray, List.getElem?_cons_succ, List.getElem?_cons_zero, Option.getD_some] at e9
          subst e9
          have e10 := hf.st.kept 10 (by kernel_rfl)
          simp only [slotsOf, Act.eval, Array.getD_eq_getD_getElem?, List.getElem?_toArray, List.getElem?_cons_succ, List.getElem?_cons_zero, Option.getD_some] at e10
          subst e10
          have e11 := hf.st.kept 11 (by kernel_rfl)
          simp only [slotsOf, Act.eval, Array.getD_eq_getD_getElem?, List.getElem?_toArray, List.getElem?_cons_succ, List.getElem?_cons_zero, Option.getD_some] at e11
          subst e11
          have e12 := hf.st.kept 12 (by kernel_rfl)
          simp only [slotsOf, Act.eval, Array.getD_eq_getD_getElem?, List.getElem?_toArray, List.getElem?_cons_succ, List.getElem?_cons_zero, Option.getD_some] at e12
          subst e12
          have e13 := hf.st.kept 13 (by kernel_rfl)
          simp only [slotsOf, Act.eval, Array.getD_eq_getD_getElem?, List.getElem?_toArray, List.getElem?_cons_succ, List.getElem?_cons_zero, Option.getD_some] at e13
          subst e13
          have e14 := hf.st.kept 14 (by kernel_rfl)
          simp only [slotsOf, Act.eval, Array.getD_eq_getD_getElem?, List.getElem?_toArray, List.getElem?_cons_succ, List.getElem?_cons_zero, Option.getD_some] at e14
          subst e14
          have e15 := hf.st.kept 15 (by kernel_rfl)
          simp only [slotsOf, Act.eval, Array.getD_eq_getD_getElem?, List.getElem?_toArray, List.getElem?_cons_succ, List.getElem?_cons_zero, Option.getD_some] at e15
          subst e15
          have e16 := hf.st.kept 16 (by kernel_rfl)
          simp only [slotsOf, Act.eval, Array.getD_eq_getD_getElem?, List.getElem?_toArray, List.getElem?_cons_succ, List.getElem?_cons_zero, Option.getD_some] at e16
          subst e16
          have e17 := hf.st.kept 17 (by kernel_rfl)
          simp only [slotsOf, Act.eval, Array.getD_eq_getD_getElem?, List.getElem?_toArray, List.getElem?_cons_succ, List.getElem?_cons_zero, Option.getD_some] at e17
          subst e17
          have e18 := hf.st.kept 18 (by kernel_rfl)
          simp only [slotsOf, Act.eval, Array.getD_eq_getD_getElem?, List.getElem?_toArray, List.getElem?_cons_succ, List.getElem?_cons_zero, Option.getD_some] at e18
          subst e18
          have e19 := hf.st.kept 19 (by kernel_rfl)
          simp only [slotsOf, Act.eval, Array.getD_eq_getD_getElem?, List.getElem?_toArray, List.getElem?_cons_succ, List.getElem?_cons_zero, Option.getD_some] at e19
          subst e19
          have e20 := hf.st.kept 20 (by kernel_rfl)
          simp only [slotsOf, Act.eval, Array.getD_eq_getD_getElem?, List.getElem?_toArray, List.getElem?_cons_succ, List.getElem?_cons_zero, Option.getD_some] at e20
          subst e20
          have e21 := hf.st.kept 21 (by kernel_rfl)
          simp only [slotsOf, Act.eval, Array.getD_eq_getD_getElem?, List.getElem?_toArray, List.getElem?_cons_succ, List.getElem?_cons_zero, Option.getD_some] at e21
          subst e21
          have e22 := hf.st.kept 22 (by kernel_rfl)
          simp only [slotsOf, Act.eval, Array.getD_eq_getD_getElem?, List.getElem?_toArray, List.getElem?_cons_succ, List.getElem?_cons_zero, Option.getD_some] at e22
          subst e22
          have e23 := hf.st.kept 23 (by kernel_rfl)
          simp only [slotsOf, Act.eval, Array.getD_eq_getD_getElem?, List.getElem?_toArray, List.getElem?_cons_succ, List.getElem?_cons_zero, Option.getD_some] at e23
          subst e23
          have e24 := hf.st.kept 24 (by kernel_rfl)
          simp only [slotsOf, Act.eval, Array.getD_eq_getD_getElem?, List.getElem?_toArray, List.getElem?_cons_succ, List.getElem?_cons_zero, Option.getD_some] at e24
          subst e24
          have e25 := hf.st.kept 25 (by kernel_rfl)
          simp only [slotsOf, Act.eval, Array.getD_eq_getD_getElem?, List.getElem?_toArray, List.getElem?_cons_succ, List.getElem?_cons_zero, Option.getD_some] at e25
          subst e25
          have e26 := hf.st.kept 26 (by kernel_rfl)
          simp only [slotsOf, Act.eval, Array.getD_eq_getD_getElem?, List.getElem?_toArray, List.getElem?_cons_succ, List.getElem?_cons_zero, Option.getD_some] at e26
          subst e26
          have e27 := hf.st.kept 27 (by kernel_rfl)
          simp only [slotsOf, Act.eval, Array.getD_eq_getD_getElem?, List.getElem?_toArray, List.getElem?_cons_succ, List.getElem?_cons_zero, Option.getD_some] at e27
          subst e27
          have e28 := hf.st.kept 28 (by kernel_rfl)
          simp only [slotsOf, Act.eval, Array.getD_eq_getD_getElem?, List.getElem?_toArray, List.getElem?_cons_succ, List.getElem?_cons_zero, Option.getD_some] at e28
          subst e28
          have e29 := hf.st.kept 29 (by kernel_rfl)
          simp only [slotsOf, Act.eval, Array.getD_eq_getD_getElem?, List.getElem?_toArray, List.getElem?_cons_succ, List.getElem?_cons_zero, Option.getD_some] at e29
          subst e29
          have e30 := hf.st.kept 30 (by kernel_rfl)
          simp only [slotsOf, Act.eval, Array.getD_eq_getD_getElem?, List.getElem?_toArray, List.getElem?_cons_succ, List.getElem?_cons_zero, Option.getD_some] at e30
          subst e30
          have e31 := hf.st.kept 31 (by kernel_rfl)
          simp only [slotsOf, Act.eval, Array.getD_eq_getD_getElem?, List.getElem?_toArray, List.getElem?_cons_succ, List.getElem?_cons_zero, Option.getD_some] at e31
          subst e31
          have e46 := hf.st.kept 46 (by kernel_rfl)
          simp only [slotsOf, Act.eval, Array.getD_eq_getD_getElem?, List.getElem?_toArray, List.getElem?_cons_succ, List.getElem?_cons_zero, Option.getD_some] at e46
          subst e46
          have e47 := hf.st.kept 47 (by kernel_rfl)
          simp only [slotsOf, Act.eval, Array.getD_eq_getD_getElem?, List.getElem?_toArray, List.getElem?_cons_succ, List.getElem?_cons_zero, Option.getD_some] at e47
          subst e47
          have e48 := hf.st.kept 48 (by kernel_rfl)
          simp only [slotsOf, Act.eval, Array.getD_eq_getD_getElem?, List.getElem?_toArray, List.getElem?_cons_succ, List.getElem?_cons_zero, Option.getD_some] at e48
          subst e48
          have e49 := hf.st.kept 49 (by kernel_rfl)
          simp only [slotsOf, Act.eval, Array.getD_eq_getD_getElem?, List.getElem?_toArray, List.getElem?_cons_succ, List.getElem?_cons_zero, Option.getD_some] at e49
          subst e49
          have e50 := hf.st.kept 50 (by kernel_rfl)
          simp only [slotsOf, Act.eval, Array.getD_eq_getD_getElem?, List.getElem?_toArray, List.getElem?_cons_succ, List.getElem?_cons_zero, Option.getD_some] at e50
          subst e50
          obtain ⟨u, HG2⟩ := Growing.next HG.out hf.st.foot (hf.at 14 (onGrew kGoal g c0 c2 113 (done ++ [y])) rfl (by kernel_rfl)) (fun k h => hf.st.mine 14 k h)
          have GS2 := Sec.mk HG2
          have hbi2 := hbi.out
          rw [← HNN.out] at hbi2
          have hb3 := hf.st.foot.below (belD hbi2) (fun q h => by rw [HNN.out]; exact NW.out q h)
          rw [HNN.out] at hb3
          have HB2 := Sec.mk hb3
          clear hbi2 hb3
          clear hf HG2
          go_wp2
          go_roundw
          case rel => exact ⟨j + 1, by omega, by go_num, ⟨_, _, _, by rw [hTj.out]; exact GS2.out⟩, HB2⟩
          case measure => simp [intOf]; omega
        · have hj2 : j = x.body.length := by omega
          subst hj2
          have HD := HG0.done
          have hbx := HG0.box
          rw [List.take_length] at HD
          generalize c0 ++ (v :: c2) = cs9 at HD hbx
          obtain ⟨y1, y2, rfl, ⟨Y1, l1, rfl, -⟩, ⟨Y2, l2, rfl, -⟩⟩ := kClause_K (kClause.O_K HD)
          have GO : Sec (kClause.O wr (fun k => nn ≤ k ∧ k < wr.heap.size ∧ k ≠ g) x [.slice Y1 x.head.length l1, .slice Y2 x.body.length l2]) := ⟨HD⟩
          have GB := Sec.mk hbx
          have X := (box_at GB.out).2.1
          have g0 := X 0 _ rfl
          have g1 := X 1 _ rfl
          have cc1 := CC1.out
          clear HG0 HD hbx HCB HCO CCO HBO HRO X
          go_wp2_with (at_builtin; refine Kd.R_app2 kClause (W := wr) (by rfl) (.tmp 46) (.tmp 48) 25 (.agg #[.slice none 0 0, .slice none 0 0]) 48 (by rfl) Tryz.underlying25 info_Clause rfl (by decide) (by decide) _ _ x [.slice Y1 x.head.length l1, .slice Y2 x.body.length l2] (fun k => w.heap.size ≤ k ∧ k < nn) (fun k => nn ≤ k ∧ k < wr.heap.size ∧ k ≠ g) (by rfl) (by rfl) (by rfl) HRW.out GO.out (fun k h1 _ h2 => by have h3 := h1.1; have h4 := h2.2; omega) hL.out ?_; intro v2 w2 hR2 hg2 hr2; have R2 := Sec.mk hR2; have F2 : Sec (Foot (fun k => w.heap.size ≤ k ∧ k < nn) wr w2) := ⟨Foot.grown2 (Foot.refl _ _) hg2 (fun k e => .inl (hr2 k e))⟩; clear hR2 hg2 hr2)
          go_roundw
          case rel => exact ⟨k + 1, by omega, by go_num, ⟨by rw [hT.out]; exact Kd.R_mono R2.out (fun q h _ => by
            have h2 := HSZ.out
            rcases h with h | h | h
            · exact h.1
            · exact Nat.le_trans hzb h.1
            · exact Nat.le_trans h2 h)⟩, ⟨F2.out.below HBW.out (fun q h => h.1)⟩⟩
          case measure => simp [intOf]; omega
    · have hfin : Sec (t.take k = t) := ⟨List.take_of_length_le (by omega)⟩
      rw [hfin.out] at hR
      go_wp2
      go_ret
      exact ⟨_, rfl, hR.out, hb.out⟩
end
end Go.Proofs.YtgiobpggonceeaaGreatDoor
