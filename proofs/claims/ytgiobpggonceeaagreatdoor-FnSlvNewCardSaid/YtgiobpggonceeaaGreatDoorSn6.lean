/- Contracts: rows of goals and of bindings that are copied, by the program; and what goes with it. -/
import Derived.Test.YtgiobpggonceeaaGreatDoorSn1
import Derived.Test.YtgiobpggonceeaaGreatDoorSn2
import Derived.Test.YtgiobpggonceeaaGreatDoorSn3
import Derived.Test.YtgiobpggonceeaaGreatDoorSn5
namespace Go.Proofs.YtgiobpggonceeaaGreatDoor
section
open Go.RowKit
set_option linter.unusedVariables false
set_option maxRecDepth 100000
theorem kSGoal_goal {w : World} {ok : Nat → Prop} {x : SGoal} {c0 c1 c2 c3 c4 : Value} (h : kSGoal.K w ok x [c0, c1, c2, c3, c4]) : kGoal.K w ok x.goal [c0, c1, c2, c3] := by
  obtain ⟨d0, d1, e, h0, ⟨rfl, _⟩⟩ := h
  have hl := kGoal.K_len h0
  have : [c0, c1, c2, c3] ++ [c4] = d0 ++ [Value.int .i64 x.cut] := e
  obtain ⟨rfl, _⟩ := List.append_inj this (by rw [hl]; rfl)
  exact h0
theorem kBind_term {w : World} {ok : Nat → Prop} {x : Bind} {c0 c1 : Value} (h : kBind.K w ok x [c0, c1]) : kCell.V w ok c1 x.term := by
  obtain ⟨v, e, h1⟩ := kBind_K h
  simp only [List.cons.injEq, and_true] at e
  rw [e.2]; exact h1
theorem kBind_mk {w : World} {S : Nat → Prop} {x : Bind} {v : Value} (h : kCell.R w S v x.term) : kBind.O w S x [.int .i64 x.v, v] :=
  ⟨fun _ => False, S, [.int .i64 x.v], [v], rfl, fun _ h => h.elim, fun _ h => h, ⟨rfl, trivial⟩, ⟨v, rfl, h⟩⟩
theorem kSGoal_mk {w : World} {S : Nat → Prop} {x : SGoal} {c : List Value} (h : kGoal.O w S x.goal c) : kSGoal.O w S x (c ++ [.int .i64 x.cut]) :=
  ⟨fun k => S k ∧ k < w.heap.size, fun _ => False, c, [.int .i64 x.cut], rfl, fun k h => ⟨h.1, id⟩, fun _ h => h.elim, Kd.O_mono h (fun k h1 h2 => ⟨h1, h2⟩), ⟨rfl, trivial⟩⟩
theorem info_SGoal : (Tryz.prog.info? 102).map (fun i => (i.zero, i.size, i.bytes)) = some (some (.agg #[.int .i64 0, .slice none 0 0, .slice none 0 0, .slice none 0 0, .int .i64 0]), 5, 88) := by kernel_rfl
theorem info_Bind : (Tryz.prog.info? 180).map (fun i => (i.zero, i.size, i.bytes)) = some (some (.agg #[.int .i64 0, .slice none 0 0]), 2, 32) := by kernel_rfl
set_option maxHeartbeats 1000000 in
theorem goalsOf_i (v : Value) (t : List SGoal) (ok : Nat → Prop) (w : World) (hV : kSGoal.V w ok v t) :
    Calls Tryz.prog 119 #[v] w fun e w' => ∃ u, e = .returned u ∧ kSGoal.R w' (fun k => w.heap.size ≤ k) u t ∧ Below w.heap.size w w' := by
  obtain ⟨A, c, rfl, h1, h2, h3, hC, hz⟩ := hV
  have HC := Sec.mk hC
  clear hC hz
  have hu := Tryz.underlying102
  have hu2 := Tryz.underlying100
  go_enter Tryz.func119, Tryz.ntmps119
  go_wp2
  go_loopw [3, 8] (fun ov iv wr => ∃ k : Nat, k ≤ t.length ∧ iv = .int .i64 k ∧ Sec (kSGoal.R wr (fun k => w.heap.size ≤ k) ov (t.take k)) ∧ Sec (Below w.heap.size w wr)) (fun _ iv _ => t.length - (intOf iv).toNat)
  case atStart => exact ⟨0, Nat.zero_le _, rfl, ⟨Kd.R_nil _ _ _⟩, ⟨Below.refl _ _⟩⟩
  case round =>
    obtain ⟨k, hk, rfl, hR, hb⟩ := hrel
    by_cases hlt : k < t.length
    · obtain ⟨b, off, cs, rfl, hob, hK, hc⟩ := Kd.C_get (Kd.C_below HC.out hb.out (by decide)) (List.getElem?_eq_getElem hlt)
      have hT : Sec (t.take (k + 1) = t.take k ++ [t[k]]) := ⟨List.take_succ_eq_append_getElem hlt⟩
      have hL : Sec ((t.take k).length + 1 ≤ 1073741824) := ⟨by rw [List.length_take]; omega⟩
      generalize t[k] = x at *
      have HK := Sec.mk hK
      obtain ⟨v1, v2, v3, rfl, g1, g2, g3⟩ := kSGoal_K hK
      obtain ⟨E1, m1, rfl, -⟩ := g1
      obtain ⟨E2, m2, rfl, -⟩ := g2
      obtain ⟨E3, m3, rfl, -⟩ := g3
      have c0 : wr.cell? ⟨b, off + k * 5, none⟩ = some (.int .i64 x.goal.kind) := hc 0 _ rfl
      have c1 : wr.cell? ⟨b, off + k * 5 + 1, none⟩ = some (.slice E1 x.goal.a.length m1) := hc 1 _ rfl
      have c2 : wr.cell? ⟨b, off + k * 5 + 2, none⟩ = some (.slice E2 x.goal.b.length m2) := hc 2 _ rfl
      have c3 : wr.cell? ⟨b, off + k * 5 + 3, none⟩ = some (.slice E3 x.goal.c.length m3) := hc 3 _ rfl
      have c4 : wr.cell? ⟨b, off + k * 5 + 4, none⟩ = some (.int .i64 x.cut) := hc 4 _ rfl
      clear hc hK
      obtain ⟨A9, c9, hv9, -⟩ := Kd.R_form hR.out
      rw [List.length_take, Nat.min_eq_left (by omega)] at hv9
      subst hv9
      have hat : Sec (∀ W : World, W.heap[wr.heap.size]? = some (.cells #[.int .i64 x.goal.kind, .slice E1 x.goal.a.length m1, .slice E2 x.goal.b.length m2, .slice E3 x.goal.c.length m3, .int .i64 x.cut] 102 (0, 0)) → W.cell? ⟨wr.heap.size, 0, none⟩ = some (.int .i64 x.goal.kind) ∧ W.cell? ⟨wr.heap.size, 1, none⟩ = some (.slice E1 x.goal.a.length m1) ∧ W.cell? ⟨wr.heap.size, 2, none⟩ = some (.slice E2 x.goal.b.length m2) ∧ W.cell? ⟨wr.heap.size, 3, none⟩ = some (.slice E3 x.goal.c.length m3) ∧ W.cell? ⟨wr.heap.size, 4, none⟩ = some (.int .i64 x.cut)) := ⟨fun W h => by
        have X := (box_at h).2.1
        exact ⟨X 0 _ rfl, X 1 _ rfl, X 2 _ rfl, X 3 _ rfl, X 4 _ rfl⟩⟩
      have P0 := Sec.mk (box1 wr (.cells #[.int .i64 x.goal.kind, .slice E1 x.goal.a.length m1, .slice E2 x.goal.b.length m2, .slice E3 x.goal.c.length m3, .int .i64 x.cut] 102))
      have Z0 : Sec ((wr.alloc (.cells #[.int .i64 x.goal.kind, .slice E1 x.goal.a.length m1, .slice E2 x.goal.b.length m2, .slice E3 x.goal.c.length m3, .int .i64 x.cut] 102)).heap.size = wr.heap.size + 1 ∧ w.heap.size ≤ wr.heap.size) := ⟨by simp, hb.out.size⟩
      have HKx : Sec (∀ W : World, Below (wr.alloc (.cells #[.int .i64 x.goal.kind, .slice E1 x.goal.a.length m1, .slice E2 x.goal.b.length m2, .slice E3 x.goal.c.length m3, .int .i64 x.cut] 102)).heap.size (wr.alloc (.cells #[.int .i64 x.goal.kind, .slice E1 x.goal.a.length m1, .slice E2 x.goal.b.length m2, .slice E3 x.goal.c.length m3, .int .i64 x.cut] 102)) W → kSGoal.K W ok x [.int .i64 x.goal.kind, .slice E1 x.goal.a.length m1, .slice E2 x.goal.b.length m2, .slice E3 x.goal.c.length m3, .int .i64 x.cut]) := ⟨fun W h => Kd.K_below HK.out (bel (belA (Below.refl _ _) _) h)⟩
      have R0 := Sec.mk (Kd.R_below (Kd.R_mono hR.out (S1 := fun k => w.heap.size ≤ k ∧ k < wr.heap.size) (fun k h1 h2 => ⟨h1, h2⟩)) (belA (Below.refl wr.heap.size wr) (.cells #[.int .i64 x.goal.kind, .slice E1 x.goal.a.length m1, .slice E2 x.goal.b.length m2, .slice E3 x.goal.c.length m3, .int .i64 x.cut] 102)))
      have B0 := Sec.mk (belA hb.out (.cells #[.int .i64 x.goal.kind, .slice E1 x.goal.a.length m1, .slice E2 x.goal.b.length m2, .slice E3 x.goal.c.length m3, .int .i64 x.cut] 102))
      have T0 : Sec True := ⟨trivial⟩
      go_wp2
      clear c0 c1 c2 c3 c4 hob
      obtain ⟨y0, y1, y2, y3, y4⟩ := hat.out _ P0.out
      generalize wr.alloc (.cells #[.int .i64 x.goal.kind, .slice E1 x.goal.a.length m1, .slice E2 x.goal.b.length m2, .slice E3 x.goal.c.length m3, .int .i64 x.cut] 102) = w0 at *
      generalize wr.heap.size = bx at *
      go_region_held3 (fun W => W.cell? ⟨bx, 0, none⟩ = some (.int .i64 x.goal.kind) ∧ W.cell? ⟨bx, 1, none⟩ = some (.slice E1 x.goal.a.length m1) ∧ W.cell? ⟨bx, 2, none⟩ = some (.slice E2 x.goal.b.length m2) ∧ W.cell? ⟨bx, 3, none⟩ = some (.slice E3 x.goal.c.length m3) ∧ W.cell? ⟨bx, 4, none⟩ = some (.int .i64 x.cut)) (first | (refine ⟨?_, ?_, ?_, ?_, ?_⟩ <;> with_reducible assumption) | (simp only [World.cell?_drew]; refine ⟨?_, ?_, ?_, ?_, ?_⟩ <;> with_reducible assumption) | (refine ⟨?_, ?_, ?_, ?_, ?_⟩ <;> (refine cell_al ?_; with_reducible assumption)) | (simp only [World.cell?_drew]; refine ⟨?_, ?_, ?_, ?_, ?_⟩ <;> (refine cell_al ?_; with_reducible assumption))) (first
        | (clear T0; go_at_call 157; have T1 : Sec True := ⟨trivial⟩; refine (copied_i x.goal _ ok _ (kSGoal_goal (HKx.out _ (by first | exact Below.refl _ _ | exact belD (Below.refl _ _))))).mono ?_; rintro e w1 ⟨d0, rfl, hO, hb⟩; have hb2 : Below w0.heap.size w0 w1 := (by first | exact hb | exact bel (belD (Below.refl _ _)) hb); have B1 := Sec.mk hb2; obtain ⟨z1, z2, z3, rfl, k1, k2, k3⟩ := kGoal_K (Kd.O_K _ hO); obtain ⟨A1, n1, rfl, -⟩ := k1; obtain ⟨A2, n2, rfl, -⟩ := k2; obtain ⟨A3, n3, rfl, -⟩ := k3; have O1 : Sec (kGoal.O w1 (fun k => w0.heap.size ≤ k) x.goal _) := ⟨hO⟩; clear y0 y1 y2 y3 y4; have P1 := Sec.mk (carry2 (Foot.of_below (S := fun _ => False) hb2) P0.out id); obtain ⟨y0, y1, y2, y3, y4⟩ := hat.out _ P1.out; clear hb hb2 hO)
        | (clear T1; refine step_of rfl (fun Q9 h9 => ?_); refine Kd.R_app2 kSGoal (W := w1) (by rfl) (.tmp 12) (.tmp 19) 30 (.agg #[.int .i64 0, .slice none 0 0, .slice none 0 0, .slice none 0 0, .int .i64 0]) 88 (by rfl) Tryz.underlying30 info_SGoal rfl (by decide) (by decide) _ _ x [.int .i64 x.goal.kind, .slice A1 x.goal.a.length n1, .slice A2 x.goal.b.length n2, .slice A3 x.goal.c.length n3, .int .i64 x.cut] (fun k => w.heap.size ≤ k ∧ k < bx) (fun k => w0.heap.size ≤ k) (by rfl) (by rfl) (by rfl) (Kd.R_below R0.out B1.out) (kSGoal_mk O1.out) (fun k h1 _ h2 => by have := Z0.out; omega) hL.out ?_; intro v2 w2 hR2 hg2 hr2; have F2 : Sec (Foot (fun k => w.heap.size ≤ k ∧ k < bx) w0 w2) := ⟨Foot.grown2 (Foot.of_below B1.out) hg2 (fun k e => .inl (hr2 k e))⟩; have P2 := Sec.mk (carry2 F2.out P0.out (fun h => Nat.lt_irrefl _ h.2)); have B2 : Sec (Below w.heap.size w w2) := ⟨F2.out.below B0.out (fun k h => h.1)⟩; have R2 : Sec (kSGoal.R w2 (fun k => w.heap.size ≤ k) v2 _) := ⟨Kd.R_mono hR2 (fun k h _ => by have := Z0.out; have := B1.out.size; have h' : (w.heap.size ≤ k ∧ k < bx) ∨ w0.heap.size ≤ k ∨ w1.heap.size ≤ k := h; omega)⟩; have T2 : Sec True := ⟨trivial⟩; clear y0 y1 y2 y3 y4; obtain ⟨y0, y1, y2, y3, y4⟩ := hat.out _ P2.out; clear hR2 hg2 hr2; refine h9 _ _ ?_; clear h9 Q9)
        | (clear T1; refine step_of rfl (fun Q9 h9 => ?_); refine Kd.R_app2 kSGoal (W := w1.drew) (by rfl) (.tmp 12) (.tmp 19) 30 (.agg #[.int .i64 0, .slice none 0 0, .slice none 0 0, .slice none 0 0, .int .i64 0]) 88 (by rfl) Tryz.underlying30 info_SGoal rfl (by decide) (by decide) _ _ x [.int .i64 x.goal.kind, .slice A1 x.goal.a.length n1, .slice A2 x.goal.b.length n2, .slice A3 x.goal.c.length n3, .int .i64 x.cut] (fun k => w.heap.size ≤ k ∧ k < bx) (fun k => w0.heap.size ≤ k) (by rfl) (by rfl) (by rfl) (Kd.R_below R0.out (belD B1.out)) (kSGoal_mk (Kd.O_below O1.out (belD (Below.refl _ _)))) (fun k h1 _ h2 => by have := Z0.out; omega) hL.out ?_; intro v2 w2 hR2 hg2 hr2; have F2 : Sec (Foot (fun k => w.heap.size ≤ k ∧ k < bx) w0 w2) := ⟨Foot.grown2 (Foot.of_below (belD B1.out)) hg2 (fun k e => .inl (hr2 k e))⟩; have P2 := Sec.mk (carry2 F2.out P0.out (fun h => Nat.lt_irrefl _ h.2)); have B2 : Sec (Below w.heap.size w w2) := ⟨F2.out.below B0.out (fun k h => h.1)⟩; have R2 : Sec (kSGoal.R w2 (fun k => w.heap.size ≤ k) v2 _) := ⟨Kd.R_mono hR2 (fun k h _ => by have := Z0.out; have := B1.out.size; have h' : (w.heap.size ≤ k ∧ k < bx) ∨ w0.heap.size ≤ k ∨ w1.heap.size ≤ k := h; omega)⟩; have T2 : Sec True := ⟨trivial⟩; clear y0 y1 y2 y3 y4; obtain ⟨y0, y1, y2, y3, y4⟩ := hat.out _ P2.out; clear hR2 hg2 hr2; refine h9 _ _ ?_; clear h9 Q9))
      all_goals
        go_wp2
        go_roundw
        case rel => exact ⟨k + 1, by omega, by go_num, ⟨by rw [hT.out]; exact R2.out⟩, B2⟩
        case measure => simp [intOf]; omega
    · have hf : Sec (t.take k = t) := ⟨List.take_of_length_le (by omega)⟩
      go_wp2
      go_ret
      exact ⟨_, rfl, by have := hR.out; rwa [hf.out] at this, hb.out⟩
set_option maxHeartbeats 1000000 in
theorem copiedBinds_i (v : Value) (t : List Bind) (ok : Nat → Prop) (w : World) (hV : kBind.V w ok v t) :
    Calls Tryz.prog 120 #[v] w fun e w' => ∃ u, e = .returned u ∧ kBind.R w' (fun k => w.heap.size ≤ k) u t ∧ Below w.heap.size w w' := by
  obtain ⟨A, c, rfl, h1, h2, h3, hC, hz⟩ := hV
  have HC := Sec.mk hC
  clear hC hz
  have hu := Tryz.underlying180
  have hu2 := Tryz.underlying100
  go_enter Tryz.func120, Tryz.ntmps120
  go_wp2
  go_loopw [3, 8] (fun ov iv wr => ∃ k : Nat, k ≤ t.length ∧ iv = .int .i64 k ∧ Sec (kBind.R wr (fun k => w.heap.size ≤ k) ov (t.take k)) ∧ Sec (Below w.heap.size w wr)) (fun _ iv _ => t.length - (intOf iv).toNat)
  case atStart => exact ⟨0, Nat.zero_le _, rfl, ⟨Kd.R_nil _ _ _⟩, ⟨Below.refl _ _⟩⟩
  case round =>
    obtain ⟨k, hk, rfl, hR, hb⟩ := hrel
    by_cases hlt : k < t.length
    · obtain ⟨b, off, cs, rfl, hob, hK, hc⟩ := Kd.C_get (Kd.C_below HC.out hb.out (by decide)) (List.getElem?_eq_getElem hlt)
      have hT : Sec (t.take (k + 1) = t.take k ++ [t[k]]) := ⟨List.take_succ_eq_append_getElem hlt⟩
      have hL : Sec ((t.take k).length + 1 ≤ 1073741824) := ⟨by rw [List.length_take]; omega⟩
      generalize t[k] = x at *
      have HK := Sec.mk hK
      obtain ⟨v1, rfl, g1⟩ := kBind_K hK
      obtain ⟨E1, m1, rfl, -⟩ := g1
      have c0 : wr.cell? ⟨b, off + k * 2, none⟩ = some (.int .i64 x.v) := hc 0 _ rfl
      have c1 : wr.cell? ⟨b, off + k * 2 + 1, none⟩ = some (.slice E1 x.term.length m1) := hc 1 _ rfl
      clear hc hK
      obtain ⟨A9, c9, hv9, -⟩ := Kd.R_form hR.out
      rw [List.length_take, Nat.min_eq_left (by omega)] at hv9
      subst hv9
      have hat : Sec (∀ W : World, W.heap[wr.heap.size]? = some (.cells #[.int .i64 x.v, .slice E1 x.term.length m1] 180 (0, 0)) → W.cell? ⟨wr.heap.size, 0, none⟩ = some (.int .i64 x.v) ∧ W.cell? ⟨wr.heap.size, 1, none⟩ = some (.slice E1 x.term.length m1)) := ⟨fun W h => by
        have X := (box_at h).2.1
        exact ⟨X 0 _ rfl, X 1 _ rfl⟩⟩
      have P0 := Sec.mk (box1 wr (.cells #[.int .i64 x.v, .slice E1 x.term.length m1] 180))
      have Z0 : Sec ((wr.alloc (.cells #[.int .i64 x.v, .slice E1 x.term.length m1] 180)).heap.size = wr.heap.size + 1 ∧ w.heap.size ≤ wr.heap.size) := ⟨by simp, hb.out.size⟩
      have HKx : Sec (∀ W : World, Below (wr.alloc (.cells #[.int .i64 x.v, .slice E1 x.term.length m1] 180)).heap.size (wr.alloc (.cells #[.int .i64 x.v, .slice E1 x.term.length m1] 180)) W → kBind.K W ok x [.int .i64 x.v, .slice E1 x.term.length m1]) := ⟨fun W h => Kd.K_below HK.out (bel (belA (Below.refl _ _) _) h)⟩
      have R0 := Sec.mk (Kd.R_below (Kd.R_mono hR.out (S1 := fun k => w.heap.size ≤ k ∧ k < wr.heap.size) (fun k h1 h2 => ⟨h1, h2⟩)) (belA (Below.refl wr.heap.size wr) (.cells #[.int .i64 x.v, .slice E1 x.term.length m1] 180)))
      have B0 := Sec.mk (belA hb.out (.cells #[.int .i64 x.v, .slice E1 x.term.length m1] 180))
      have T0 : Sec True := ⟨trivial⟩
      go_wp2
      clear c0 c1 hob
      obtain ⟨y0, y1⟩ := hat.out _ P0.out
      generalize wr.alloc (.cells #[.int .i64 x.v, .slice E1 x.term.length m1] 180) = w0 at *
      generalize wr.heap.size = bx at *
      go_region_held3 (fun W => W.cell? ⟨bx, 0, none⟩ = some (.int .i64 x.v) ∧ W.cell? ⟨bx, 1, none⟩ = some (.slice E1 x.term.length m1)) (first | (refine ⟨?_, ?_⟩ <;> with_reducible assumption) | (simp only [World.cell?_drew]; refine ⟨?_, ?_⟩ <;> with_reducible assumption) | (refine ⟨?_, ?_⟩ <;> (refine cell_al ?_; with_reducible assumption)) | (simp only [World.cell?_drew]; refine ⟨?_, ?_⟩ <;> (refine cell_al ?_; with_reducible assumption))) (first
        | (clear T0; go_at_call 72; have T1 : Sec True := ⟨trivial⟩; refine (cloneCells_c _ x.term ok _ (kBind_term (HKx.out _ (by first | exact Below.refl _ _ | exact belD (Below.refl _ _))))).mono ?_; rintro e w1 ⟨u1, rfl, hO, hb⟩; have hb2 : Below w0.heap.size w0 w1 := (by first | exact hb | exact bel (belD (Below.refl _ _)) hb); have B1 := Sec.mk hb2; obtain ⟨A1, n1, rfl, -, -⟩ := Kd.R_form hO; have O1 : Sec (kCell.R w1 (fun k => w0.heap.size ≤ k) _ x.term) := ⟨hO⟩; clear y0 y1; have P1 := Sec.mk (carry2 (Foot.of_below (S := fun _ => False) hb2) P0.out id); obtain ⟨y0, y1⟩ := hat.out _ P1.out; clear hb hb2 hO)
        | (clear T1; refine step_of rfl (fun Q9 h9 => ?_); refine Kd.R_app2 kBind (W := w1) (by rfl) (.tmp 12) (.tmp 19) 31 (.agg #[.int .i64 0, .slice none 0 0]) 32 (by rfl) Tryz.underlying31 info_Bind rfl (by decide) (by decide) _ _ x [.int .i64 x.v, .slice A1 x.term.length n1] (fun k => w.heap.size ≤ k ∧ k < bx) (fun k => w0.heap.size ≤ k) (by rfl) (by rfl) (by rfl) (Kd.R_below R0.out B1.out) (kBind_mk O1.out) (fun k h1 _ h2 => by have := Z0.out; omega) hL.out ?_; intro v2 w2 hR2 hg2 hr2; have F2 : Sec (Foot (fun k => w.heap.size ≤ k ∧ k < bx) w0 w2) := ⟨Foot.grown2 (Foot.of_below B1.out) hg2 (fun k e => .inl (hr2 k e))⟩; have P2 := Sec.mk (carry2 F2.out P0.out (fun h => Nat.lt_irrefl _ h.2)); have B2 : Sec (Below w.heap.size w w2) := ⟨F2.out.below B0.out (fun k h => h.1)⟩; have R2 : Sec (kBind.R w2 (fun k => w.heap.size ≤ k) v2 _) := ⟨Kd.R_mono hR2 (fun k h _ => by have := Z0.out; have := B1.out.size; have h' : (w.heap.size ≤ k ∧ k < bx) ∨ w0.heap.size ≤ k ∨ w1.heap.size ≤ k := h; omega)⟩; have T2 : Sec True := ⟨trivial⟩; clear y0 y1; obtain ⟨y0, y1⟩ := hat.out _ P2.out; clear hR2 hg2 hr2; refine h9 _ _ ?_; clear h9 Q9)
        | (clear T1; refine step_of rfl (fun Q9 h9 => ?_); refine Kd.R_app2 kBind (W := w1.drew) (by rfl) (.tmp 12) (.tmp 19) 31 (.agg #[.int .i64 0, .slice none 0 0]) 32 (by rfl) Tryz.underlying31 info_Bind rfl (by decide) (by decide) _ _ x [.int .i64 x.v, .slice A1 x.term.length n1] (fun k => w.heap.size ≤ k ∧ k < bx) (fun k => w0.heap.size ≤ k) (by rfl) (by rfl) (by rfl) (Kd.R_below R0.out (belD B1.out)) (kBind_mk (Kd.R_below O1.out (belD (Below.refl _ _)))) (fun k h1 _ h2 => by have := Z0.out; omega) hL.out ?_; intro v2 w2 hR2 hg2 hr2; have F2 : Sec (Foot (fun k => w.heap.size ≤ k ∧ k < bx) w0 w2) := ⟨Foot.grown2 (Foot.of_below (belD B1.out)) hg2 (fun k e => .inl (hr2 k e))⟩; have P2 := Sec.mk (carry2 F2.out P0.out (fun h => Nat.lt_irrefl _ h.2)); have B2 : Sec (Below w.heap.size w w2) := ⟨F2.out.below B0.out (fun k h => h.1)⟩; have R2 : Sec (kBind.R w2 (fun k => w.heap.size ≤ k) v2 _) := ⟨Kd.R_mono hR2 (fun k h _ => by have := Z0.out; have := B1.out.size; have h' : (w.heap.size ≤ k ∧ k < bx) ∨ w0.heap.size ≤ k ∨ w1.heap.size ≤ k := h; omega)⟩; have T2 : Sec True := ⟨trivial⟩; clear y0 y1; obtain ⟨y0, y1⟩ := hat.out _ P2.out; clear hR2 hg2 hr2; refine h9 _ _ ?_; clear h9 Q9))
      all_goals
        go_wp2
        go_roundw
        case rel => exact ⟨k + 1, by omega, by go_num, ⟨by rw [hT.out]; exact R2.out⟩, B2⟩
        case measure => simp [intOf]; omega
    · have hf : Sec (t.take k = t) := ⟨List.take_of_length_le (by omega)⟩
      go_wp2
      go_ret
      exact ⟨_, rfl, by have := hR.out; rwa [hf.out] at this, hb.out⟩
end
section
open Go.RowKit
set_option linter.unusedVariables false
set_option maxRecDepth 100000
end
section
open Go.RowKit
set_option linter.unusedVariables false
namespace Kd
variable {α β γ : Type}
/-- Of the kind d a field of the kind e, j cells in; what is put there may own other blocks. -/
structure GFld (d : Kd α) (e : Kd β) (j : Nat) (get : α → β) (put : α → β → α) : Prop where
  opn : ∀ {w : World} {S : Nat → Prop} {x : α} {c : List Value}, d.O w S x c → ∃ (S1 S2 : Nat → Prop) (c0 c1 c2 : List Value), c = c0 ++ (c1 ++ c2) ∧ c0.length = j ∧ (∀ k, S1 k → S k ∧ ¬ S2 k) ∧ (∀ k, S2 k → S k ∧ k < w.heap.size) ∧ e.O w S1 (get x) c1 ∧
    ∀ (w' : World) (S' : Nat → Prop) (y : β) (c1' : List Value), Keeps w w' S2 S2 → (∀ k, S' k → ¬ S2 k) → e.O w' S' y c1' → d.O w' (fun k => S' k ∨ S2 k) (put x y) (c0 ++ (c1' ++ c2))
theorem GFld.self (d : Kd α) : GFld d d 0 (fun x => x) (fun _ y => y) := ⟨fun {w S x c} h => ⟨S, fun _ => False, [], c, [], by simp, rfl, fun k hk => ⟨hk, id⟩, fun k hk => hk.elim, h, fun w' S' y c1' _ _ hO => by simpa using d.O_mono hO (S1 := fun k => S' k ∨ False) (fun k h _ => .inl h)⟩⟩
theorem GFld.fst {a : Kd α} {b : Kd β} {e : Kd γ} {j : Nat} {get : α → γ} {put : α → γ → α} (F : GFld a e j get put) : GFld (pair a b) e j (fun x => get x.1) (fun x y => (put x.1 y, x.2)) := ⟨fun {w S x c} h => by
  obtain ⟨T1, T2, d0, d1, rfl, g1, g2, h0, h1⟩ := h
  obtain ⟨S1, S2, c0, c1, c2, rfl, hl, k1, k2, hO, hback⟩ := F.opn h0
  refine ⟨S1, fun k => S2 k ∨ (T2 k ∧ k < w.heap.size), c0, c1, c2 ++ d1, by simp, hl, fun k hk => ⟨(g1 k (k1 k hk).1).1, fun e => e.elim (k1 k hk).2 (fun e => (g1 k (k1 k hk).1).2 e.1)⟩, fun k hk => hk.elim (fun e => ⟨(g1 k (k2 k e).1).1, (k2 k e).2⟩) (fun e => ⟨g2 k e.1, e.2⟩), hO, fun w' S' y c1' hk hd hO' => ?_⟩
  refine ⟨fun k => S' k ∨ S2 k, fun k => T2 k ∧ k < w.heap.size, c0 ++ (c1' ++ c2), d1, by simp, fun k hk => ⟨hk.elim (fun e => .inl e) (fun e => .inr (.inl e)), fun e => hk.elim (fun e' => hd k e' (.inr e)) (fun e' => (g1 k (k2 k e').1).2 e.1)⟩, fun k hk => .inr (.inr hk), ?_, ?_⟩
  · exact hback w' S' y c1' (fun k h1 h2 => ⟨h1, (hk k (.inl h1) h2).2⟩) (fun k h1 h2 => hd k h1 (.inl h2)) hO'
  · exact b.O_move (fun k h1 h2 => ⟨⟨h1, h2⟩, (hk k (.inr ⟨h1, h2⟩) h2).2⟩) h1⟩
theorem GFld.snd {a : Kd α} {b : Kd β} {e : Kd γ} {j : Nat} {get : β → γ} {put : β → γ → β} (F : GFld b e j get put) : GFld (pair a b) e (a.sz + j) (fun x => get x.2) (fun x y => (x.1, put x.2 y)) := ⟨fun {w S x c} h => by
  obtain ⟨T1, T2, d0, d1, rfl, g1, g2, h0, h1⟩ := h
  obtain ⟨S1, S2, c0, c1, c2, rfl, hl, k1, k2, hO, hback⟩ := F.opn h1
  refine ⟨S1, fun k => S2 k ∨ (T1 k ∧ k < w.heap.size), d0 ++ c0, c1, c2, by simp, by rw [List.length_append, a.K_len (a.O_K h0), hl], fun k hk => ⟨g2 k (k1 k hk).1, fun e => e.elim (k1 k hk).2 (fun e => (g1 k e.1).2 (k1 k hk).1)⟩, fun k hk => hk.elim (fun e => ⟨g2 k (k2 k e).1, (k2 k e).2⟩) (fun e => ⟨(g1 k e.1).1, e.2⟩), hO, fun w' S' y c1' hk hd hO' => ?_⟩
  refine ⟨fun k => T1 k ∧ k < w.heap.size, fun k => S' k ∨ S2 k, d0, c0 ++ (c1' ++ c2), by simp, fun k hk => ⟨.inr (.inr hk), fun e => e.elim (fun e' => hd k e' (.inr hk)) (fun e' => (g1 k hk.1).2 (k2 k e').1)⟩, fun k hk => hk.imp id .inl, ?_, ?_⟩
  · exact a.O_move (fun k h1 h2 => ⟨⟨h1, h2⟩, (hk k (.inr ⟨h1, h2⟩) h2).2⟩) h0
  · exact hback w' S' y c1' (fun k h1 h2 => ⟨h1, (hk k (.inl h1) h2).2⟩) (fun k h1 h2 => hd k h1 (.inl h2)) hO'⟩
theorem GFld.iso {d : Kd β} {e : Kd γ} {j : Nat} {get : β → γ} {put : β → γ → β} (t : TypeId) {f : α → β} {put' : α → γ → α} (F : GFld d e j get put) (h : ∀ x y, f (put' x y) = put (f x) y) : GFld (Kd.iso t d f) e j (fun x => get (f x)) put' := ⟨fun {w S x c} hx => by
  obtain ⟨S1, S2, c0, c1, c2, rfl, hl, k1, k2, hO, hback⟩ := F.opn (w := w) (S := S) (x := f x) hx
  refine ⟨S1, S2, c0, c1, c2, rfl, hl, k1, k2, hO, fun w' S' y c1' hk hd hO' => ?_⟩
  have := hback w' S' y c1' hk hd hO'
  rw [← h] at this
  exact this⟩
end Kd
/-- A struct but for one of its fields. -/
def Hole {α β : Type} (d : Kd α) (e : Kd β) (x : β → α) (c0 c2 : List Value) (w : World) (S : Nat → Prop) : Prop :=
  ∀ (w' : World) (S' : Nat → Prop) (y : β) (c1 : List Value), Keeps w w' S S → (∀ k, S' k → ¬ S k) → e.O w' S' y c1 → d.O w' (fun k => S' k ∨ S k) (x y) (c0 ++ (c1 ++ c2))
theorem Hole.move {α β : Type} {d : Kd α} {e : Kd β} {x : β → α} {c0 c2 : List Value} {w w1 : World} {S : Nat → Prop} (h : Hole d e x c0 c2 w S) (hk : Keeps w w1 S S) : Hole d e x c0 c2 w1 S := fun w' S' y c1 hk2 hd hO =>
  h w' S' y c1 (fun k h1 h2 => ⟨h1, by
    have h3 := (hk k h1 h2).2
    have h4 : k < w1.heap.size := by
      rw [Array.getElem?_eq_getElem h2] at h3
      exact (Array.getElem?_eq_some_iff.1 h3).1
    exact (hk2 k h1 h4).2.trans h3⟩) hd hO
/-- The struct x lies in block X, its row xs grows: the cells c0, the row's value, the cells c2. -/
structure Growing {α β : Type} (d : Kd α) (e : Kd β) (t : TypeId) (hp : 0 < e.sz) (x : List β → α) (X n0 : Nat) (c0 c2 : List Value) (ty : TypeId) (w : World) (v : Value) (xs : List β) (Sr Sc : Nat → Prop) : Prop where
  box : w.heap[X]? = some (.cells (c0 ++ (v :: c2)).toArray ty (0, 0))
  hole : Hole d (Kd.slice t e hp) x c0 c2 w Sr
  row : e.R w Sc v xs
  apart : ∀ k, Sr k → ¬ Sc k
  mine : ∀ k, Sr k ∨ Sc k → n0 ≤ k ∧ k < w.heap.size ∧ k ≠ X
  at_ : n0 ≤ X
section
variable {α β : Type} {d : Kd α} {e : Kd β} {t : TypeId} {hp : 0 < e.sz} {x : List β → α} {X n0 j : Nat} {c0 c2 cs : List Value} {ty : TypeId} {w w1 : World} {v : Value} {xs : List β} {Sr Sc S : Nat → Prop}
theorem Growing.start {y : α} {get : α → List β} {put : α → List β → α} (F : Kd.GFld d (Kd.slice t e hp) j get put) (hb : w.heap[X]? = some (.cells cs.toArray ty (0, 0))) (hO : d.O w S y cs) (hm : ∀ k, S k → n0 ≤ k ∧ k ≠ X) (h0 : n0 ≤ X) :
    ∃ c0 c2 v Sr Sc, c0.length = j ∧ cs = c0 ++ (v :: c2) ∧ Growing d e t hp (put y) X n0 c0 c2 ty w v (get y) Sr Sc := by
  obtain ⟨S1, S2, c0, c1, c2, rfl, hl, k1, k2, ⟨v, rfl, hR⟩, hback⟩ := F.opn hO
  refine ⟨c0, c2, v, S2, fun k => S1 k ∧ k < w.heap.size, hl, rfl, hb, hback, Kd.R_mono hR (fun k h1 h2 => ⟨h1, h2⟩), fun k h1 h2 => (k1 k h2.1).2 h1, fun k h => ?_, h0⟩
  rcases h with h | h
  · exact ⟨(hm k (k2 k h).1).1, (k2 k h).2, (hm k (k2 k h).1).2⟩
  · exact ⟨(hm k (k1 k h.1).1).1, h.2, (hm k (k1 k h.1).1).2⟩
theorem Growing.below (h : Growing d e t hp x X n0 c0 c2 ty w v xs Sr Sc) (hb : Below w.heap.size w w1) : Growing d e t hp x X n0 c0 c2 ty w1 v xs Sr Sc :=
  ⟨(hb.block X (Array.getElem?_eq_some_iff.1 h.box).1).trans h.box, h.hole.move (Keeps.below hb _), Kd.R_below h.row hb, h.apart, fun k hk => ⟨(h.mine k hk).1, Nat.lt_of_lt_of_le (h.mine k hk).2.1 hb.size, (h.mine k hk).2.2⟩, h.at_⟩
theorem Growing.done (h : Growing d e t hp x X n0 c0 c2 ty w v xs Sr Sc) : d.O w (fun k => n0 ≤ k ∧ k < w.heap.size ∧ k ≠ X) (x xs) (c0 ++ (v :: c2)) :=
  d.O_mono (h.hole w Sc xs [v] (fun k h1 _ => ⟨h1, rfl⟩) (fun k h1 h2 => h.apart k h2 h1) ⟨v, rfl, h.row⟩) (fun k h1 _ => h.mine k (h1.elim .inr .inl))
theorem Growing.cell (h : Growing d e t hp x X n0 c0 c2 ty w v xs Sr Sc) (hl : c0.length = j) : w.cell? ⟨X, j, none⟩ = some v := by
  refine (box_at h.box).2.1 j v ?_
  rw [List.getElem?_toArray, List.getElem?_append_right (by omega)]
  simp [hl]
theorem grow_set (hb : w.heap[X]? = some (.cells (c0 ++ (v :: c2)).toArray ty (0, 0))) (hl : c0.length = j) (u : Value) : (w.setCell ⟨X, j, none⟩ u).heap[X]? = some (.cells (c0 ++ (u :: c2)).toArray ty (0, 0)) := by
  rw [box_store j u hb]
  congr 2
  apply Array.toList_inj.1
  rw [Array.toList_setIfInBounds, List.set_append_right _ _ (by omega), hl, Nat.sub_self, List.set_cons_zero]
/-- The box whose row has grown. -/
def onGrew (e : Kd β) (X : Nat) (c0 c2 : List Value) (ty : TypeId) (xs : List β) : On := fun _ S w => ∃ u, w.heap[X]? = some (.cells (c0 ++ (u :: c2)).toArray ty (0, 0)) ∧ S X ∧ e.R w (fun k => S k ∧ k ≠ X) u xs
theorem stab_grew {n0 : Nat} {T : Nat → Prop} (e : Kd β) (X : Nat) (c0 c2 : List Value) (ty : TypeId) (xs : List β) : (Ass.mk [] (onGrew e X c0 c2 ty xs)).Stab n0 T := fun val val' S w w' h hs hk _ => by
  obtain ⟨u, h1, h2, h3⟩ := h
  exact ⟨u, (hk X (.inl h2) (Array.getElem?_eq_some_iff.1 h1).1).trans h1, h2, Kd.R_move (fun k h1 h2 => ⟨h1, hk k (.inl h1.1) h2⟩) h3⟩
theorem grow_cell (hb : w.heap[X]? = some (.cells (c0 ++ (v :: c2)).toArray ty (0, 0))) (hl : c0.length = j) : w.cell? ⟨X, j, none⟩ = some v := by
  refine (box_at hb).2.1 j v ?_
  rw [List.getElem?_toArray, List.getElem?_append_right (by omega)]
  simp [hl]
theorem Growing.next {ys : List β} {S : Nat → Prop} {val : Nat → Value} (h : Growing d e t hp x X n0 c0 c2 ty w v xs Sr Sc) (hF : Foot (fun k => k = X ∨ Sc k) w.drew w1) (hS : onGrew e X c0 c2 ty ys val S w1) (hm : ∀ k, S k → (w.drew.heap.size ≤ k ∨ (k = X ∨ Sc k)) ∧ k < w1.heap.size) :
    ∃ u, Growing d e t hp x X n0 c0 c2 ty w1 u ys Sr (fun k => S k ∧ k ≠ X) := by
  obtain ⟨u, h1, h2, h3⟩ := hS
  have hsz : w.drew.heap.size = w.heap.size := rfl
  have hX : X < w.heap.size := (Array.getElem?_eq_some_iff.1 h.box).1
  refine ⟨u, h1, h.hole.move (fun k hk hl => ⟨hk, hF.block k hl (fun e => e.elim (h.mine k (.inl hk)).2.2 (h.apart k hk))⟩), h3, fun k hk hs => ?_, fun k hk => ?_, h.at_⟩
  · rcases (hm k hs.1).1 with h4 | h4 | h4
    · have := (h.mine k (.inl hk)).2.1; omega
    · exact hs.2 h4
    · exact h.apart k hk h4
  · have hw := hF.size
    rcases hk with hk | hk
    · have := h.mine k (.inl hk); exact ⟨this.1, by omega, this.2.2⟩
    · have h5 := hm k hk.1
      refine ⟨?_, h5.2, hk.2⟩
      rcases h5.1 with h4 | h4 | h4
      · have := h.at_; omega
      · exact (hk.2 h4).elim
      · exact (h.mine k (.inr h4)).1
end
end
section
open Go.RowKit
set_option linter.unusedVariables false
set_option maxRecDepth 100000
def kTChoice : Kd TChoice := Kd.iso 176 (Kd.pair (Kd.slice 30 kSGoal (by decide)) (Kd.pair (Kd.int 3) (Kd.pair (Kd.int 3) (Kd.pair (Kd.slice 23 kCell (by decide)) (Kd.pair (Kd.int 3) (Kd.int 3)))))) (fun x => (x.goals, x.mark, x.vars, x.call, x.next, x.far))
theorem kTChoice_K {w : World} {ok : Nat → Prop} {x : TChoice} {cs : List Value} (h : kTChoice.K w ok x cs) : ∃ v0 v3, cs = [v0, .int .i64 x.mark, .int .i64 x.vars, v3, .int .i64 x.next, .int .i64 x.far] ∧ kSGoal.V w ok v0 x.goals ∧ kCell.V w ok v3 x.call := by
  obtain ⟨_, _, rfl, ⟨v0, rfl, h0⟩, ⟨_, _, rfl, ⟨rfl, _⟩, ⟨_, _, rfl, ⟨rfl, _⟩, ⟨_, _, rfl, ⟨v3, rfl, h3⟩, ⟨_, _, rfl, ⟨rfl, _⟩, ⟨rfl, _⟩⟩⟩⟩⟩⟩ := h
  exact ⟨v0, v3, rfl, h0, h3⟩
theorem TChoice.ext_iff (a b : TChoice) : a = b ↔ a.goals = b.goals ∧ a.mark = b.mark ∧ a.vars = b.vars ∧ a.call = b.call ∧ a.next = b.next ∧ a.far = b.far := by
  cases a; cases b; simp
instance : DecidableEq TChoice := fun a b => decidable_of_iff _ (TChoice.ext_iff a b).symm
def zeroTChoice : TChoice := ⟨[], 0, 0, [], 0, 0⟩
def mTChoice : Mk TChoice := ⟨fun x => mSGoal.cnts x.goals + 1 + 1 + mCell.cnts x.call + 1 + 1, fun x k => ⟨mSGoal.mks x.goals (k), k + ((mSGoal.cnts x.goals : Nat) : Int), k + ((mSGoal.cnts x.goals : Nat) : Int) + 1, mCell.mks x.call (k + ((mSGoal.cnts x.goals : Nat) : Int) + 1 + 1), k + ((mSGoal.cnts x.goals : Nat) : Int) + 1 + 1 + ((mCell.cnts x.call : Nat) : Int), k + ((mSGoal.cnts x.goals : Nat) : Int) + 1 + 1 + ((mCell.cnts x.call : Nat) : Int) + 1⟩⟩
def mTChoicet : Mk TChoice := ⟨fun x => mSGoal.cnts x.goals + mCell.cnts x.call, fun x k => ⟨mSGoal.mks x.goals (k), x.mark, x.vars, mCell.mks x.call (k + ((mSGoal.cnts x.goals : Nat) : Int)), x.next, x.far⟩⟩
end
section
open Go.RowKit
set_option linter.unusedVariables false
set_option maxRecDepth 100000
def kTState : Kd TState := Kd.iso 93 (Kd.pair (Kd.int 3) (Kd.pair (Kd.slice 30 kSGoal (by decide)) (Kd.pair (Kd.slice 31 kBind (by decide)) (Kd.pair (Kd.int 3) (Kd.pair (Kd.slice 91 kTChoice (by decide)) (Kd.pair (Kd.slice 23 kCell (by decide)) (Kd.slice 23 kCell (by decide)))))))) (fun x => (x.status, x.goals, x.binds, x.vars, x.choices, x.top, x.out))
theorem kTState_K {w : World} {ok : Nat → Prop} {x : TState} {cs : List Value} (h : kTState.K w ok x cs) : ∃ v1 v2 v4 v5 v6, cs = [.int .i64 x.status, v1, v2, .int .i64 x.vars, v4, v5, v6] ∧ kSGoal.V w ok v1 x.goals ∧ kBind.V w ok v2 x.binds ∧ kTChoice.V w ok v4 x.choices ∧ kCell.V w ok v5 x.top ∧ kCell.V w ok v6 x.out := by
  obtain ⟨_, _, rfl, ⟨rfl, _⟩, ⟨_, _, rfl, ⟨v1, rfl, h1⟩, ⟨_, _, rfl, ⟨v2, rfl, h2⟩, ⟨_, _, rfl, ⟨rfl, _⟩, ⟨_, _, rfl, ⟨v4, rfl, h4⟩, ⟨_, _, rfl, ⟨v5, rfl, h5⟩, ⟨v6, rfl, h6⟩⟩⟩⟩⟩⟩⟩ := h
  exact ⟨v1, v2, v4, v5, v6, rfl, h1, h2, h4, h5, h6⟩
theorem TState.ext_iff (a b : TState) : a = b ↔ a.status = b.status ∧ a.goals = b.goals ∧ a.binds = b.binds ∧ a.vars = b.vars ∧ a.choices = b.choices ∧ a.top = b.top ∧ a.out = b.out := by
  cases a; cases b; simp
instance : DecidableEq TState := fun a b => decidable_of_iff _ (TState.ext_iff a b).symm
def zeroTState : TState := ⟨0, [], [], 0, [], [], []⟩
theorem kTState_zero (w : World) : kTState.O w (fun _ => False) zeroTState [.int .i64 0, .slice none 0 0, .slice none 0 0, .int .i64 0, .slice none 0 0, .slice none 0 0, .slice none 0 0] := (Kd.O_pair0 (d := (Kd.int 3)) (e := (Kd.pair (Kd.slice 30 kSGoal (by decide)) (Kd.pair (Kd.slice 31 kBind (by decide)) (Kd.pair (Kd.int 3) (Kd.pair (Kd.slice 91 kTChoice (by decide)) (Kd.pair (Kd.slice 23 kCell (by decide)) (Kd.slice 23 kCell (by decide)))))))) ⟨rfl, trivial⟩ (Kd.O_pair0 (d := (Kd.slice 30 kSGoal (by decide))) (e := (Kd.pair (Kd.slice 31 kBind (by decide)) (Kd.pair (Kd.int 3) (Kd.pair (Kd.slice 91 kTChoice (by decide)) (Kd.pair (Kd.slice 23 kCell (by decide)) (Kd.slice 23 kCell (by decide))))))) ⟨_, rfl, Kd.R_nil _ _ _⟩ (Kd.O_pair0 (d := (Kd.slice 31 kBind (by decide))) (e := (Kd.pair (Kd.int 3) (Kd.pair (Kd.slice 91 kTChoice (by decide)) (Kd.pair (Kd.slice 23 kCell (by decide)) (Kd.slice 23 kCell (by decide)))))) ⟨_, rfl, Kd.R_nil _ _ _⟩ (Kd.O_pair0 (d := (Kd.int 3)) (e := (Kd.pair (Kd.slice 91 kTChoice (by decide)) (Kd.pair (Kd.slice 23 kCell (by decide)) (Kd.slice 23 kCell (by decide))))) ⟨rfl, trivial⟩ (Kd.O_pair0 (d := (Kd.slice 91 kTChoice (by decide))) (e := (Kd.pair (Kd.slice 23 kCell (by decide)) (Kd.slice 23 kCell (by decide)))) ⟨_, rfl, Kd.R_nil _ _ _⟩ (Kd.O_pair0 (d := (Kd.slice 23 kCell (by decide))) (e := (Kd.slice 23 kCell (by decide))) ⟨_, rfl, Kd.R_nil _ _ _⟩ ⟨_, rfl, Kd.R_nil _ _ _⟩))))))
def mTState : Mk TState := ⟨fun x => 1 + mSGoal.cnts x.goals + mBind.cnts x.binds + 1 + mTChoice.cnts x.choices + mCell.cnts x.top + mCell.cnts x.out, fun x k => ⟨k, mSGoal.mks x.goals (k + 1), mBind.mks x.binds (k + 1 + ((mSGoal.cnts x.goals : Nat) : Int)), k + 1 + ((mSGoal.cnts x.goals : Nat) : Int) + ((mBind.cnts x.binds : Nat) : Int), mTChoice.mks x.choices (k + 1 + ((mSGoal.cnts x.goals : Nat) : Int) + ((mBind.cnts x.binds : Nat) : Int) + 1), mCell.mks x.top (k + 1 + ((mSGoal.cnts x.goals : Nat) : Int) + ((mBind.cnts x.binds : Nat) : Int) + 1 + ((mTChoice.cnts x.choices : Nat) : Int)), mCell.mks x.out (k + 1 + ((mSGoal.cnts x.goals : Nat) : Int) + ((mBind.cnts x.binds : Nat) : Int) + 1 + ((mTChoice.cnts x.choices : Nat) : Int) + ((mCell.cnts x.top : Nat) : Int))⟩⟩
def mTStatet : Mk TState := ⟨fun x => mSGoal.cnts x.goals + mBind.cnts x.binds + mTChoice.cnts x.choices + mCell.cnts x.top + mCell.cnts x.out, fun x k => ⟨x.status, mSGoal.mks x.goals (k), mBind.mks x.binds (k + ((mSGoal.cnts x.goals : Nat) : Int)), x.vars, mTChoice.mks x.choices (k + ((mSGoal.cnts x.goals : Nat) : Int) + ((mBind.cnts x.binds : Nat) : Int)), mCell.mks x.top (k + ((mSGoal.cnts x.goals : Nat) : Int) + ((mBind.cnts x.binds : Nat) : Int) + ((mTChoice.cnts x.choices : Nat) : Int)), mCell.mks x.out (k + ((mSGoal.cnts x.goals : Nat) : Int) + ((mBind.cnts x.binds : Nat) : Int) + ((mTChoice.cnts x.choices : Nat) : Int) + ((mCell.cnts x.top : Nat) : Int))⟩⟩
end
section
open Go.RowKit
set_option linter.unusedVariables false
set_option maxRecDepth 100000
def kSChoice : Kd SChoice := Kd.iso 98 (Kd.pair (Kd.slice 30 kSGoal (by decide)) (Kd.pair (Kd.slice 31 kBind (by decide)) (Kd.pair (Kd.int 3) (Kd.pair (Kd.slice 23 kCell (by decide)) (Kd.int 3))))) (fun x => (x.goals, x.binds, x.vars, x.call, x.next))
theorem SChoice.ext_iff (a b : SChoice) : a = b ↔ a.goals = b.goals ∧ a.binds = b.binds ∧ a.vars = b.vars ∧ a.call = b.call ∧ a.next = b.next := by
  cases a; cases b; simp
instance : DecidableEq SChoice := fun a b => decidable_of_iff _ (SChoice.ext_iff a b).symm
def zeroSChoice : SChoice := ⟨[], [], 0, [], 0⟩
def mSChoice : Mk SChoice := ⟨fun x => mSGoal.cnts x.goals + mBind.cnts x.binds + 1 + mCell.cnts x.call + 1, fun x k => ⟨mSGoal.mks x.goals (k), mBind.mks x.binds (k + ((mSGoal.cnts x.goals : Nat) : Int)), k + ((mSGoal.cnts x.goals : Nat) : Int) + ((mBind.cnts x.binds : Nat) : Int), mCell.mks x.call (k + ((mSGoal.cnts x.goals : Nat) : Int) + ((mBind.cnts x.binds : Nat) : Int) + 1), k + ((mSGoal.cnts x.goals : Nat) : Int) + ((mBind.cnts x.binds : Nat) : Int) + 1 + ((mCell.cnts x.call : Nat) : Int)⟩⟩
def mSChoicet : Mk SChoice := ⟨fun x => mSGoal.cnts x.goals + mBind.cnts x.binds + mCell.cnts x.call, fun x k => ⟨mSGoal.mks x.goals (k), mBind.mks x.binds (k + ((mSGoal.cnts x.goals : Nat) : Int)), x.vars, mCell.mks x.call (k + ((mSGoal.cnts x.goals : Nat) : Int) + ((mBind.cnts x.binds : Nat) : Int)), x.next⟩⟩
end
section
open Go.RowKit
set_option linter.unusedVariables false
set_option maxRecDepth 100000
def kSState : Kd SState := Kd.iso 34 (Kd.pair (Kd.int 3) (Kd.pair (Kd.slice 30 kSGoal (by decide)) (Kd.pair (Kd.slice 31 kBind (by decide)) (Kd.pair (Kd.int 3) (Kd.pair (Kd.slice 32 kSChoice (by decide)) (Kd.pair (Kd.slice 23 kCell (by decide)) (Kd.slice 23 kCell (by decide)))))))) (fun x => (x.status, x.goals, x.binds, x.vars, x.choices, x.top, x.out))
theorem kSState_K {w : World} {ok : Nat → Prop} {x : SState} {cs : List Value} (h : kSState.K w ok x cs) : ∃ v1 v2 v4 v5 v6, cs = [.int .i64 x.status, v1, v2, .int .i64 x.vars, v4, v5, v6] ∧ kSGoal.V w ok v1 x.goals ∧ kBind.V w ok v2 x.binds ∧ kSChoice.V w ok v4 x.choices ∧ kCell.V w ok v5 x.top ∧ kCell.V w ok v6 x.out := by
  obtain ⟨_, _, rfl, ⟨rfl, _⟩, ⟨_, _, rfl, ⟨v1, rfl, h1⟩, ⟨_, _, rfl, ⟨v2, rfl, h2⟩, ⟨_, _, rfl, ⟨rfl, _⟩, ⟨_, _, rfl, ⟨v4, rfl, h4⟩, ⟨_, _, rfl, ⟨v5, rfl, h5⟩, ⟨v6, rfl, h6⟩⟩⟩⟩⟩⟩⟩ := h
  exact ⟨v1, v2, v4, v5, v6, rfl, h1, h2, h4, h5, h6⟩
theorem SState.ext_iff (a b : SState) : a = b ↔ a.status = b.status ∧ a.goals = b.goals ∧ a.binds = b.binds ∧ a.vars = b.vars ∧ a.choices = b.choices ∧ a.top = b.top ∧ a.out = b.out := by
  cases a; cases b; simp
instance : DecidableEq SState := fun a b => decidable_of_iff _ (SState.ext_iff a b).symm
def zeroSState : SState := ⟨0, [], [], 0, [], [], []⟩
theorem kSState_zero (w : World) : kSState.O w (fun _ => False) zeroSState [.int .i64 0, .slice none 0 0, .slice none 0 0, .int .i64 0, .slice none 0 0, .slice none 0 0, .slice none 0 0] := (Kd.O_pair0 (d := (Kd.int 3)) (e := (Kd.pair (Kd.slice 30 kSGoal (by decide)) (Kd.pair (Kd.slice 31 kBind (by decide)) (Kd.pair (Kd.int 3) (Kd.pair (Kd.slice 32 kSChoice (by decide)) (Kd.pair (Kd.slice 23 kCell (by decide)) (Kd.slice 23 kCell (by decide)))))))) ⟨rfl, trivial⟩ (Kd.O_pair0 (d := (Kd.slice 30 kSGoal (by decide))) (e := (Kd.pair (Kd.slice 31 kBind (by decide)) (Kd.pair (Kd.int 3) (Kd.pair (Kd.slice 32 kSChoice (by decide)) (Kd.pair (Kd.slice 23 kCell (by decide)) (Kd.slice 23 kCell (by decide))))))) ⟨_, rfl, Kd.R_nil _ _ _⟩ (Kd.O_pair0 (d := (Kd.slice 31 kBind (by decide))) (e := (Kd.pair (Kd.int 3) (Kd.pair (Kd.slice 32 kSChoice (by decide)) (Kd.pair (Kd.slice 23 kCell (by decide)) (Kd.slice 23 kCell (by decide)))))) ⟨_, rfl, Kd.R_nil _ _ _⟩ (Kd.O_pair0 (d := (Kd.int 3)) (e := (Kd.pair (Kd.slice 32 kSChoice (by decide)) (Kd.pair (Kd.slice 23 kCell (by decide)) (Kd.slice 23 kCell (by decide))))) ⟨rfl, trivial⟩ (Kd.O_pair0 (d := (Kd.slice 32 kSChoice (by decide))) (e := (Kd.pair (Kd.slice 23 kCell (by decide)) (Kd.slice 23 kCell (by decide)))) ⟨_, rfl, Kd.R_nil _ _ _⟩ (Kd.O_pair0 (d := (Kd.slice 23 kCell (by decide))) (e := (Kd.slice 23 kCell (by decide))) ⟨_, rfl, Kd.R_nil _ _ _⟩ ⟨_, rfl, Kd.R_nil _ _ _⟩))))))
def mSState : Mk SState := ⟨fun x => 1 + mSGoal.cnts x.goals + mBind.cnts x.binds + 1 + mSChoice.cnts x.choices + mCell.cnts x.top + mCell.cnts x.out, fun x k => ⟨k, mSGoal.mks x.goals (k + 1), mBind.mks x.binds (k + 1 + ((mSGoal.cnts x.goals : Nat) : Int)), k + 1 + ((mSGoal.cnts x.goals : Nat) : Int) + ((mBind.cnts x.binds : Nat) : Int), mSChoice.mks x.choices (k + 1 + ((mSGoal.cnts x.goals : Nat) : Int) + ((mBind.cnts x.binds : Nat) : Int) + 1), mCell.mks x.top (k + 1 + ((mSGoal.cnts x.goals : Nat) : Int) + ((mBind.cnts x.binds : Nat) : Int) + 1 + ((mSChoice.cnts x.choices : Nat) : Int)), mCell.mks x.out (k + 1 + ((mSGoal.cnts x.goals : Nat) : Int) + ((mBind.cnts x.binds : Nat) : Int) + 1 + ((mSChoice.cnts x.choices : Nat) : Int) + ((mCell.cnts x.top : Nat) : Int))⟩⟩
def mSStatet : Mk SState := ⟨fun x => mSGoal.cnts x.goals + mBind.cnts x.binds + mSChoice.cnts x.choices + mCell.cnts x.top + mCell.cnts x.out, fun x k => ⟨x.status, mSGoal.mks x.goals (k), mBind.mks x.binds (k + ((mSGoal.cnts x.goals : Nat) : Int)), x.vars, mSChoice.mks x.choices (k + ((mSGoal.cnts x.goals : Nat) : Int) + ((mBind.cnts x.binds : Nat) : Int)), mCell.mks x.top (k + ((mSGoal.cnts x.goals : Nat) : Int) + ((mBind.cnts x.binds : Nat) : Int) + ((mSChoice.cnts x.choices : Nat) : Int)), mCell.mks x.out (k + ((mSGoal.cnts x.goals : Nat) : Int) + ((mBind.cnts x.binds : Nat) : Int) + ((mSChoice.cnts x.choices : Nat) : Int) + ((mCell.cnts x.top : Nat) : Int))⟩⟩
end
end Go.Proofs.YtgiobpggonceeaaGreatDoor
