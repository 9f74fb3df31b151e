/- Contracts: rows of goals and of bindings that are copied, by the program. -/
import Derived.Test.YtenigopoknajgaaDoorCopy1
import Derived.Test.YtenigopoknajgaaDoorXSGoal
import Derived.Test.YtenigopoknajgaaDoorXBind
namespace Go.Proofs.YtenigopoknajgaaDoor
open Go.RowKit
set_option linter.unusedVariables false
set_option maxRecDepth 100000
theorem kSGoal_goal {w : World} {ok : Nat → Prop} {x : SGoal} {c0 c1 c2 c3 c4 : Value} (h : kSGoal.K w ok x [c0, c1, c2, c3, c4]) : kGoal.K w ok x.goal [c0, c1, c2, c3] := by
  obtain ⟨d0, d1, e, h0, ⟨rfl, _⟩⟩ := h
  have hl := kGoal.K_len h0
  have : [c0, c1, c2, c3] ++ [c4] = d0 ++ [Value.int .i64 x.cut] := e
  obtain ⟨rfl, _⟩ := List.append_inj this (by rw [hl]; rfl)
  exact h0
theorem kBind_term {w : World} {ok : Nat → Prop} {x : Bind} {c0 c1 : Value} (h : kBind.K w ok x [c0, c1]) : kCell.V w ok c1 x.term := by
  obtain ⟨v, e, h1⟩ := kBind_K h
  simp only [List.cons.injEq, and_true] at e
  rw [e.2]; exact h1
theorem kBind_mk {w : World} {S : Nat → Prop} {x : Bind} {v : Value} (h : kCell.R w S v x.term) : kBind.O w S x [.int .i64 x.v, v] :=
  ⟨fun _ => False, S, [.int .i64 x.v], [v], rfl, fun _ h => h.elim, fun _ h => h, ⟨rfl, trivial⟩, ⟨v, rfl, h⟩⟩
theorem kSGoal_mk {w : World} {S : Nat → Prop} {x : SGoal} {c : List Value} (h : kGoal.O w S x.goal c) : kSGoal.O w S x (c ++ [.int .i64 x.cut]) :=
  ⟨fun k => S k ∧ k < w.heap.size, fun _ => False, c, [.int .i64 x.cut], rfl, fun k h => ⟨h.1, id⟩, fun _ h => h.elim, Kd.O_mono h (fun k h1 h2 => ⟨h1, h2⟩), ⟨rfl, trivial⟩⟩
theorem info_SGoal : (Tryd.prog.info? 58).map (fun i => (i.zero, i.size, i.bytes)) = some (some (.agg #[.int .i64 0, .slice none 0 0, .slice none 0 0, .slice none 0 0, .int .i64 0]), 5, 88) := by kernel_rfl
theorem info_Bind : (Tryd.prog.info? 90).map (fun i => (i.zero, i.size, i.bytes)) = some (some (.agg #[.int .i64 0, .slice none 0 0]), 2, 32) := by kernel_rfl
set_option maxHeartbeats 1000000 in
theorem goalsOf_i (v : Value) (t : List SGoal) (ok : Nat → Prop) (w : World) (hV : kSGoal.V w ok v t) :
    Calls Tryd.prog 33 #[v] w fun e w' => ∃ u, e = .returned u ∧ kSGoal.R w' (fun k => w.heap.size ≤ k) u t ∧ Below w.heap.size w w' := by
  obtain ⟨A, c, rfl, h1, h2, h3, hC, hz⟩ := hV
  have HC := Sec.mk hC
  clear hC hz
  have hu := Tryd.underlying58
  have hu2 := Tryd.underlying56
  go_enter Tryd.func33, Tryd.ntmps33
  go_wp2
  go_loopw [3, 8] (fun ov iv wr => ∃ k : Nat, k ≤ t.length ∧ iv = .int .i64 k ∧ Sec (kSGoal.R wr (fun k => w.heap.size ≤ k) ov (t.take k)) ∧ Sec (Below w.heap.size w wr)) (fun _ iv _ => t.length - (intOf iv).toNat)
  case atStart => exact ⟨0, Nat.zero_le _, rfl, ⟨Kd.R_nil _ _ _⟩, ⟨Below.refl _ _⟩⟩
  case round =>
    obtain ⟨k, hk, rfl, hR, hb⟩ := hrel
    by_cases hlt : k < t.length
    · obtain ⟨b, off, cs, rfl, hob, hK, hc⟩ := Kd.C_get (Kd.C_below HC.out hb.out (by decide)) (List.getElem?_eq_getElem hlt)
      have hT : Sec (t.take (k + 1) = t.take k ++ [t[k]]) := ⟨List.take_succ_eq_append_getElem hlt⟩
      have hL : Sec ((t.take k).length + 1 ≤ 1073741824) := ⟨by rw [List.length_take]; omega⟩
      generalize t[k] = x at *
      have HK := Sec.mk hK
      obtain ⟨v1, v2, v3, rfl, g1, g2, g3⟩ := kSGoal_K hK
      obtain ⟨E1, m1, rfl, -⟩ := g1
      obtain ⟨E2, m2, rfl, -⟩ := g2
      obtain ⟨E3, m3, rfl, -⟩ := g3
      have c0 : wr.cell? ⟨b, off + k * 5, none⟩ = some (.int .i64 x.goal.kind) := hc 0 _ rfl
      have c1 : wr.cell? ⟨b, off + k * 5 + 1, none⟩ = some (.slice E1 x.goal.a.length m1) := hc 1 _ rfl
      have c2 : wr.cell? ⟨b, off + k * 5 + 2, none⟩ = some (.slice E2 x.goal.b.length m2) := hc 2 _ rfl
      have c3 : wr.cell? ⟨b, off + k * 5 + 3, none⟩ = some (.slice E3 x.goal.c.length m3) := hc 3 _ rfl
      have c4 : wr.cell? ⟨b, off + k * 5 + 4, none⟩ = some (.int .i64 x.cut) := hc 4 _ rfl
      clear hc hK
      obtain ⟨A9, c9, hv9, -⟩ := Kd.R_form hR.out
      rw [List.length_take, Nat.min_eq_left (by omega)] at hv9
      subst hv9
      have hat : Sec (∀ W : World, W.heap[wr.heap.size]? = some (.cells #[.int .i64 x.goal.kind, .slice E1 x.goal.a.length m1, .slice E2 x.goal.b.length m2, .slice E3 x.goal.c.length m3, .int .i64 x.cut] 58 (0, 0)) → W.cell? ⟨wr.heap.size, 0, none⟩ = some (.int .i64 x.goal.kind) ∧ W.cell? ⟨wr.heap.size, 1, none⟩ = some (.slice E1 x.goal.a.length m1) ∧ W.cell? ⟨wr.heap.size, 2, none⟩ = some (.slice E2 x.goal.b.length m2) ∧ W.cell? ⟨wr.heap.size, 3, none⟩ = some (.slice E3 x.goal.c.length m3) ∧ W.cell? ⟨wr.heap.size, 4, none⟩ = some (.int .i64 x.cut)) := ⟨fun W h => by
        have X := (box_at h).2.1
        exact ⟨X 0 _ rfl, X 1 _ rfl, X 2 _ rfl, X 3 _ rfl, X 4 _ rfl⟩⟩
      have P0 := Sec.mk (box1 wr (.cells #[.int .i64 x.goal.kind, .slice E1 x.goal.a.length m1, .slice E2 x.goal.b.length m2, .slice E3 x.goal.c.length m3, .int .i64 x.cut] 58))
      have Z0 : Sec ((wr.alloc (.cells #[.int .i64 x.goal.kind, .slice E1 x.goal.a.length m1, .slice E2 x.goal.b.length m2, .slice E3 x.goal.c.length m3, .int .i64 x.cut] 58)).heap.size = wr.heap.size + 1 ∧ w.heap.size ≤ wr.heap.size) := ⟨by simp, hb.out.size⟩
      have HKx : Sec (∀ W : World, Below (wr.alloc (.cells #[.int .i64 x.goal.kind, .slice E1 x.goal.a.length m1, .slice E2 x.goal.b.length m2, .slice E3 x.goal.c.length m3, .int .i64 x.cut] 58)).heap.size (wr.alloc (.cells #[.int .i64 x.goal.kind, .slice E1 x.goal.a.length m1, .slice E2 x.goal.b.length m2, .slice E3 x.goal.c.length m3, .int .i64 x.cut] 58)) W → kSGoal.K W ok x [.int .i64 x.goal.kind, .slice E1 x.goal.a.length m1, .slice E2 x.goal.b.length m2, .slice E3 x.goal.c.length m3, .int .i64 x.cut]) := ⟨fun W h => Kd.K_below HK.out (bel (belA (Below.refl _ _) _) h)⟩
      have R0 := Sec.mk (Kd.R_below (Kd.R_mono hR.out (S1 := fun k => w.heap.size ≤ k ∧ k < wr.heap.size) (fun k h1 h2 => ⟨h1, h2⟩)) (belA (Below.refl wr.heap.size wr) (.cells #[.int .i64 x.goal.kind, .slice E1 x.goal.a.length m1, .slice E2 x.goal.b.length m2, .slice E3 x.goal.c.length m3, .int .i64 x.cut] 58)))
      have B0 := Sec.mk (belA hb.out (.cells #[.int .i64 x.goal.kind, .slice E1 x.goal.a.length m1, .slice E2 x.goal.b.length m2, .slice E3 x.goal.c.length m3, .int .i64 x.cut] 58))
      have T0 : Sec True := ⟨trivial⟩
      go_wp2
      clear c0 c1 c2 c3 c4 hob
      obtain ⟨y0, y1, y2, y3, y4⟩ := hat.out _ P0.out
      generalize wr.alloc (.cells #[.int .i64 x.goal.kind, .slice E1 x.goal.a.length m1, .slice E2 x.goal.b.length m2, .slice E3 x.goal.c.length m3, .int .i64 x.cut] 58) = w0 at *
      generalize wr.heap.size = bx at *
      go_region_held3 (fun W => W.cell? ⟨bx, 0, none⟩ = some (.int .i64 x.goal.kind) ∧ W.cell? ⟨bx, 1, none⟩ = some (.slice E1 x.goal.a.length m1) ∧ W.cell? ⟨bx, 2, none⟩ = some (.slice E2 x.goal.b.length m2) ∧ W.cell? ⟨bx, 3, none⟩ = some (.slice E3 x.goal.c.length m3) ∧ W.cell? ⟨bx, 4, none⟩ = some (.int .i64 x.cut)) (first | (refine ⟨?_, ?_, ?_, ?_, ?_⟩ <;> with_reducible assumption) | (simp only [World.cell?_drew]; refine ⟨?_, ?_, ?_, ?_, ?_⟩ <;> with_reducible assumption) | (refine ⟨?_, ?_, ?_, ?_, ?_⟩ <;> (refine cell_al ?_; with_reducible assumption)) | (simp only [World.cell?_drew]; refine ⟨?_, ?_, ?_, ?_, ?_⟩ <;> (refine cell_al ?_; with_reducible assumption))) (first
        | (clear T0; go_at_call 64; have T1 : Sec True := ⟨trivial⟩; refine (copied_i x.goal _ ok _ (kSGoal_goal (HKx.out _ (by first | exact Below.refl _ _ | exact belD (Below.refl _ _))))).mono ?_; rintro e w1 ⟨d0, rfl, hO, hb⟩; have hb2 : Below w0.heap.size w0 w1 := (by first | exact hb | exact bel (belD (Below.refl _ _)) hb); have B1 := Sec.mk hb2; obtain ⟨z1, z2, z3, rfl, k1, k2, k3⟩ := kGoal_K (Kd.O_K _ hO); obtain ⟨A1, n1, rfl, -⟩ := k1; obtain ⟨A2, n2, rfl, -⟩ := k2; obtain ⟨A3, n3, rfl, -⟩ := k3; have O1 : Sec (kGoal.O w1 (fun k => w0.heap.size ≤ k) x.goal _) := ⟨hO⟩; clear y0 y1 y2 y3 y4; have P1 := Sec.mk (carry2 (Foot.of_below (S := fun _ => False) hb2) P0.out id); obtain ⟨y0, y1, y2, y3, y4⟩ := hat.out _ P1.out; clear hb hb2 hO)
        | (clear T1; refine step_of rfl (fun Q9 h9 => ?_); refine Kd.R_app2 kSGoal (W := w1) (by rfl) (.tmp 12) (.tmp 19) 25 (.agg #[.int .i64 0, .slice none 0 0, .slice none 0 0, .slice none 0 0, .int .i64 0]) 88 (by rfl) Tryd.underlying25 info_SGoal rfl (by decide) (by decide) _ _ x [.int .i64 x.goal.kind, .slice A1 x.goal.a.length n1, .slice A2 x.goal.b.length n2, .slice A3 x.goal.c.length n3, .int .i64 x.cut] (fun k => w.heap.size ≤ k ∧ k < bx) (fun k => w0.heap.size ≤ k) (by rfl) (by rfl) (by rfl) (Kd.R_below R0.out B1.out) (kSGoal_mk O1.out) (fun k h1 _ h2 => by have := Z0.out; omega) hL.out ?_; intro v2 w2 hR2 hg2 hr2; have F2 : Sec (Foot (fun k => w.heap.size ≤ k ∧ k < bx) w0 w2) := ⟨Foot.grown2 (Foot.of_below B1.out) hg2 (fun k e => .inl (hr2 k e))⟩; have P2 := Sec.mk (carry2 F2.out P0.out (fun h => Nat.lt_irrefl _ h.2)); have B2 : Sec (Below w.heap.size w w2) := ⟨F2.out.below B0.out (fun k h => h.1)⟩; have R2 : Sec (kSGoal.R w2 (fun k => w.heap.size ≤ k) v2 _) := ⟨Kd.R_mono hR2 (fun k h _ => by have := Z0.out; have := B1.out.size; have h' : (w.heap.size ≤ k ∧ k < bx) ∨ w0.heap.size ≤ k ∨ w1.heap.size ≤ k := h; omega)⟩; have T2 : Sec True := ⟨trivial⟩; clear y0 y1 y2 y3 y4; obtain ⟨y0, y1, y2, y3, y4⟩ := hat.out _ P2.out; clear hR2 hg2 hr2; refine h9 _ _ ?_; clear h9 Q9)
        | (clear T1; refine step_of rfl (fun Q9 h9 => ?_); refine Kd.R_app2 kSGoal (W := w1.drew) (by rfl) (.tmp 12) (.tmp 19) 25 (.agg #[.int .i64 0, .slice none 0 0, .slice none 0 0, .slice none 0 0, .int .i64 0]) 88 (by rfl) Tryd.underlying25 info_SGoal rfl (by decide) (by decide) _ _ x [.int .i64 x.goal.kind, .slice A1 x.goal.a.length n1, .slice A2 x.goal.b.length n2, .slice A3 x.goal.c.length n3, .int .i64 x.cut] (fun k => w.heap.size ≤ k ∧ k < bx) (fun k => w0.heap.size ≤ k) (by rfl) (by rfl) (by rfl) (Kd.R_below R0.out (belD B1.out)) (kSGoal_mk (Kd.O_below O1.out (belD (Below.refl _ _)))) (fun k h1 _ h2 => by have := Z0.out; omega) hL.out ?_; intro v2 w2 hR2 hg2 hr2; have F2 : Sec (Foot (fun k => w.heap.size ≤ k ∧ k < bx) w0 w2) := ⟨Foot.grown2 (Foot.of_below (belD B1.out)) hg2 (fun k e => .inl (hr2 k e))⟩; have P2 := Sec.mk (carry2 F2.out P0.out (fun h => Nat.lt_irrefl _ h.2)); have B2 : Sec (Below w.heap.size w w2) := ⟨F2.out.below B0.out (fun k h => h.1)⟩; have R2 : Sec (kSGoal.R w2 (fun k => w.heap.size ≤ k) v2 _) := ⟨Kd.R_mono hR2 (fun k h _ => by have := Z0.out; have := B1.out.size; have h' : (w.heap.size ≤ k ∧ k < bx) ∨ w0.heap.size ≤ k ∨ w1.heap.size ≤ k := h; omega)⟩; have T2 : Sec True := ⟨trivial⟩; clear y0 y1 y2 y3 y4; obtain ⟨y0, y1, y2, y3, y4⟩ := hat.out _ P2.out; clear hR2 hg2 hr2; refine h9 _ _ ?_; clear h9 Q9))
      all_goals
        go_wp2
        go_roundw
        case rel => exact ⟨k + 1, by omega, by go_num, ⟨by rw [hT.out]; exact R2.out⟩, B2⟩
        case measure => simp [intOf]; omega
    · have hf : Sec (t.take k = t) := ⟨List.take_of_length_le (by omega)⟩
      go_wp2
      go_ret
      exact ⟨_, rfl, by have := hR.out; rwa [hf.out] at this, hb.out⟩
set_option maxHeartbeats 1000000 in
theorem copiedBinds_i (v : Value) (t : List Bind) (ok : Nat → Prop) (w : World) (hV : kBind.V w ok v t) :
    Calls Tryd.prog 34 #[v] w fun e w' => ∃ u, e = .returned u ∧ kBind.R w' (fun k => w.heap.size ≤ k) u t ∧ Below w.heap.size w w' := by
  obtain ⟨A, c, rfl, h1, h2, h3, hC, hz⟩ := hV
  have HC := Sec.mk hC
  clear hC hz
  have hu := Tryd.underlying90
  have hu2 := Tryd.underlying56
  go_enter Tryd.func34, Tryd.ntmps34
  go_wp2
  go_loopw [3, 8] (fun ov iv wr => ∃ k : Nat, k ≤ t.length ∧ iv = .int .i64 k ∧ Sec (kBind.R wr (fun k => w.heap.size ≤ k) ov (t.take k)) ∧ Sec (Below w.heap.size w wr)) (fun _ iv _ => t.length - (intOf iv).toNat)
  case atStart => exact ⟨0, Nat.zero_le _, rfl, ⟨Kd.R_nil _ _ _⟩, ⟨Below.refl _ _⟩⟩
  case round =>
    obtain ⟨k, hk, rfl, hR, hb⟩ := hrel
    by_cases hlt : k < t.length
    · obtain ⟨b, off, cs, rfl, hob, hK, hc⟩ := Kd.C_get (Kd.C_below HC.out hb.out (by decide)) (List.getElem?_eq_getElem hlt)
      have hT : Sec (t.take (k + 1) = t.take k ++ [t[k]]) := ⟨List.take_succ_eq_append_getElem hlt⟩
      have hL : Sec ((t.take k).length + 1 ≤ 1073741824) := ⟨by rw [List.length_take]; omega⟩
      generalize t[k] = x at *
      have HK := Sec.mk hK
      obtain ⟨v1, rfl, g1⟩ := kBind_K hK
      obtain ⟨E1, m1, rfl, -⟩ := g1
      have c0 : wr.cell? ⟨b, off + k * 2, none⟩ = some (.int .i64 x.v) := hc 0 _ rfl
      have c1 : wr.cell? ⟨b, off + k * 2 + 1, none⟩ = some (.slice E1 x.term.length m1) := hc 1 _ rfl
      clear hc hK
      obtain ⟨A9, c9, hv9, -⟩ := Kd.R_form hR.out
      rw [List.length_take, Nat.min_eq_left (by omega)] at hv9
      subst hv9
      have hat : Sec (∀ W : World, W.heap[wr.heap.size]? = some (.cells #[.int .i64 x.v, .slice E1 x.term.length m1] 90 (0, 0)) → W.cell? ⟨wr.heap.size, 0, none⟩ = some (.int .i64 x.v) ∧ W.cell? ⟨wr.heap.size, 1, none⟩ = some (.slice E1 x.term.length m1)) := ⟨fun W h => by
        have X := (box_at h).2.1
        exact ⟨X 0 _ rfl, X 1 _ rfl⟩⟩
      have P0 := Sec.mk (box1 wr (.cells #[.int .i64 x.v, .slice E1 x.term.length m1] 90))
      have Z0 : Sec ((wr.alloc (.cells #[.int .i64 x.v, .slice E1 x.term.length m1] 90)).heap.size = wr.heap.size + 1 ∧ w.heap.size ≤ wr.heap.size) := ⟨by simp, hb.out.size⟩
      have HKx : Sec (∀ W : World, Below (wr.alloc (.cells #[.int .i64 x.v, .slice E1 x.term.length m1] 90)).heap.size (wr.alloc (.cells #[.int .i64 x.v, .slice E1 x.term.length m1] 90)) W → kBind.K W ok x [.int .i64 x.v, .slice E1 x.term.length m1]) := ⟨fun W h => Kd.K_below HK.out (bel (belA (Below.refl _ _) _) h)⟩
      have R0 := Sec.mk (Kd.R_below (Kd.R_mono hR.out (S1 := fun k => w.heap.size ≤ k ∧ k < wr.heap.size) (fun k h1 h2 => ⟨h1, h2⟩)) (belA (Below.refl wr.heap.size wr) (.cells #[.int .i64 x.v, .slice E1 x.term.length m1] 90)))
      have B0 := Sec.mk (belA hb.out (.cells #[.int .i64 x.v, .slice E1 x.term.length m1] 90))
      have T0 : Sec True := ⟨trivial⟩
      go_wp2
      clear c0 c1 hob
      obtain ⟨y0, y1⟩ := hat.out _ P0.out
      generalize wr.alloc (.cells #[.int .i64 x.v, .slice E1 x.term.length m1] 90) = w0 at *
      generalize wr.heap.size = bx at *
      go_region_held3 (fun W => W.cell? ⟨bx, 0, none⟩ = some (.int .i64 x.v) ∧ W.cell? ⟨bx, 1, none⟩ = some (.slice E1 x.term.length m1)) (first | (refine ⟨?_, ?_⟩ <;> with_reducible assumption) | (simp only [World.cell?_drew]; refine ⟨?_, ?_⟩ <;> with_reducible assumption) | (refine ⟨?_, ?_⟩ <;> (refine cell_al ?_; with_reducible assumption)) | (simp only [World.cell?_drew]; refine ⟨?_, ?_⟩ <;> (refine cell_al ?_; with_reducible assumption))) (first
        | (clear T0; go_at_call 28; have T1 : Sec True := ⟨trivial⟩; refine (cloneCells_c _ x.term ok _ (kBind_term (HKx.out _ (by first | exact Below.refl _ _ | exact belD (Below.refl _ _))))).mono ?_; rintro e w1 ⟨u1, rfl, hO, hb⟩; have hb2 : Below w0.heap.size w0 w1 := (by first | exact hb | exact bel (belD (Below.refl _ _)) hb); have B1 := Sec.mk hb2; obtain ⟨A1, n1, rfl, -, -⟩ := Kd.R_form hO; have O1 : Sec (kCell.R w1 (fun k => w0.heap.size ≤ k) _ x.term) := ⟨hO⟩; clear y0 y1; have P1 := Sec.mk (carry2 (Foot.of_below (S := fun _ => False) hb2) P0.out id); obtain ⟨y0, y1⟩ := hat.out _ P1.out; clear hb hb2 hO)
        | (clear T1; refine step_of rfl (fun Q9 h9 => ?_); refine Kd.R_app2 kBind (W := w1) (by rfl) (.tmp 12) (.tmp 19) 26 (.agg #[.int .i64 0, .slice none 0 0]) 32 (by rfl) Tryd.underlying26 info_Bind rfl (by decide) (by decide) _ _ x [.int .i64 x.v, .slice A1 x.term.length n1] (fun k => w.heap.size ≤ k ∧ k < bx) (fun k => w0.heap.size ≤ k) (by rfl) (by rfl) (by rfl) (Kd.R_below R0.out B1.out) (kBind_mk O1.out) (fun k h1 _ h2 => by have := Z0.out; omega) hL.out ?_; intro v2 w2 hR2 hg2 hr2; have F2 : Sec (Foot (fun k => w.heap.size ≤ k ∧ k < bx) w0 w2) := ⟨Foot.grown2 (Foot.of_below B1.out) hg2 (fun k e => .inl (hr2 k e))⟩; have P2 := Sec.mk (carry2 F2.out P0.out (fun h => Nat.lt_irrefl _ h.2)); have B2 : Sec (Below w.heap.size w w2) := ⟨F2.out.below B0.out (fun k h => h.1)⟩; have R2 : Sec (kBind.R w2 (fun k => w.heap.size ≤ k) v2 _) := ⟨Kd.R_mono hR2 (fun k h _ => by have := Z0.out; have := B1.out.size; have h' : (w.heap.size ≤ k ∧ k < bx) ∨ w0.heap.size ≤ k ∨ w1.heap.size ≤ k := h; omega)⟩; have T2 : Sec True := ⟨trivial⟩; clear y0 y1; obtain ⟨y0, y1⟩ := hat.out _ P2.out; clear hR2 hg2 hr2; refine h9 _ _ ?_; clear h9 Q9)
        | (clear T1; refine step_of rfl (fun Q9 h9 => ?_); refine Kd.R_app2 kBind (W := w1.drew) (by rfl) (.tmp 12) (.tmp 19) 26 (.agg #[.int .i64 0, .slice none 0 0]) 32 (by rfl) Tryd.underlying26 info_Bind rfl (by decide) (by decide) _ _ x [.int .i64 x.v, .slice A1 x.term.length n1] (fun k => w.heap.size ≤ k ∧ k < bx) (fun k => w0.heap.size ≤ k) (by rfl) (by rfl) (by rfl) (Kd.R_below R0.out (belD B1.out)) (kBind_mk (Kd.R_below O1.out (belD (Below.refl _ _)))) (fun k h1 _ h2 => by have := Z0.out; omega) hL.out ?_; intro v2 w2 hR2 hg2 hr2; have F2 : Sec (Foot (fun k => w.heap.size ≤ k ∧ k < bx) w0 w2) := ⟨Foot.grown2 (Foot.of_below (belD B1.out)) hg2 (fun k e => .inl (hr2 k e))⟩; have P2 := Sec.mk (carry2 F2.out P0.out (fun h => Nat.lt_irrefl _ h.2)); have B2 : Sec (Below w.heap.size w w2) := ⟨F2.out.below B0.out (fun k h => h.1)⟩; have R2 : Sec (kBind.R w2 (fun k => w.heap.size ≤ k) v2 _) := ⟨Kd.R_mono hR2 (fun k h _ => by have := Z0.out; have := B1.out.size; have h' : (w.heap.size ≤ k ∧ k < bx) ∨ w0.heap.size ≤ k ∨ w1.heap.size ≤ k := h; omega)⟩; have T2 : Sec True := ⟨trivial⟩; clear y0 y1; obtain ⟨y0, y1⟩ := hat.out _ P2.out; clear hR2 hg2 hr2; refine h9 _ _ ?_; clear h9 Q9))
      all_goals
        go_wp2
        go_roundw
        case rel => exact ⟨k + 1, by omega, by go_num, ⟨by rw [hT.out]; exact R2.out⟩, B2⟩
        case measure => simp [intOf]; omega
    · have hf : Sec (t.take k = t) := ⟨List.take_of_length_le (by omega)⟩
      go_wp2
      go_ret
      exact ⟨_, rfl, by have := hR.out; rwa [hf.out] at this, hb.out⟩
end Go.Proofs.YtenigopoknajgaaDoor
