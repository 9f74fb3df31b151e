/- Draws of programs: a goal that is drawn, one in so many that may be none. Condition: the reader has been asked no more than a number of times; and what goes with it. -/
import Derived.Test.YtekiikmaaiekkaaGreatDoorNn14
import Derived.Test.YtekiikmaaiekkaaGreatDoorNn15
import Derived.Test.YtekiikmaaiekkaaGreatDoorNn16
import Derived.Deep.DeepCutAuto
import Derived.Deep.CutBlock
namespace Go.Proofs.YtekiikmaaiekkaaGreatDoor
section
open Go.RowKit
set_option linter.unusedVariables false
set_option maxRecDepth 100000
theorem gf_k : Kd.GFld kGoal (Kd.int 3) 0 (fun x => x.kind) (fun x y => { x with kind := y }) := Kd.GFld.iso _ (Kd.GFld.fst (Kd.GFld.self _)) (fun _ _ => rfl)
theorem gf_a : Kd.GFld kGoal (Kd.slice 24 kCell (by decide)) 1 (fun x => x.a) (fun x y => { x with a := y }) := Kd.GFld.iso _ (Kd.GFld.snd (Kd.GFld.fst (Kd.GFld.self _))) (fun _ _ => rfl)
theorem gf_b : Kd.GFld kGoal (Kd.slice 24 kCell (by decide)) 2 (fun x => x.b) (fun x y => { x with b := y }) := Kd.GFld.iso _ (Kd.GFld.snd (Kd.GFld.snd (Kd.GFld.fst (Kd.GFld.self _)))) (fun _ _ => rfl)
theorem gf_c : Kd.GFld kGoal (Kd.slice 24 kCell (by decide)) 3 (fun x => x.c) (fun x y => { x with c := y }) := Kd.GFld.iso _ (Kd.GFld.snd (Kd.GFld.snd (Kd.GFld.snd (Kd.GFld.self _)))) (fun _ _ => rfl)
/-- A goal in its box Y, the result's box ahead of it, the reader. -/
structure GSt (w0 w : World) (g P Y : Nat) (W : World) : Prop where
  box : ∃ (cs : List Value) (x : Goal) (S : Nat → Prop), W.heap[Y]? = some (.cells cs.toArray 141 (0, 0)) ∧ kGoal.O W S x cs ∧ ∀ k, S k → w.heap.size + 1 ≤ k ∧ k ≠ Y
  res : W.heap[w.heap.size]? = some (.cells #[.int .i64 0, .slice none 0 0, .slice none 0 0, .slice none 0 0] 141 (0, 0))
  rd : Rd w0 W g P
  only : Only g w W
  y : w.heap.size + 1 ≤ Y
section
variable {w0 w W W1 : World} {g P P1 Y : Nat}
theorem GSt.mono (h : GSt w0 w g P Y W) (hP : P ≤ P1) : GSt w0 w g P1 Y W := ⟨h.box, h.res, h.rd.mono hP, h.only, h.y⟩
theorem GSt.cells (h : GSt w0 w g P Y W) : ∃ (k : Int) (va vb vc : Value), W.cell? ⟨Y, 0, none⟩ = some (.int .i64 k) ∧ W.cell? ⟨Y, 1, none⟩ = some va ∧ W.cell? ⟨Y, 2, none⟩ = some vb ∧ W.cell? ⟨Y, 3, none⟩ = some vc ∧ ∀ j, W.frozen? ⟨Y, j, none⟩ = false := by
  obtain ⟨cs, x, S, h1, h2, h3⟩ := h.box
  obtain ⟨v1, v2, v3, rfl, -⟩ := kGoal_K (kGoal.O_K h2)
  have X := box_at h1
  exact ⟨_, _, _, _, X.2.1 0 _ rfl, X.2.1 1 _ rfl, X.2.1 2 _ rfl, X.2.1 3 _ rfl, X.2.2⟩
theorem GSt.only' (h : GSt w0 w g P Y W) (hO : Only g W W1) (hR : Rd w0 W1 g P1) (hg : g < w.heap.size) : GSt w0 w g P1 Y W1 := by
  obtain ⟨cs, x, S, h1, h2, h3⟩ := h.box
  have hy := h.y
  exact ⟨⟨cs, x, S, hO.blk h1 (by omega), hO.O h2 (fun k hk => by have := (h3 k hk).1; omega), h3⟩, hO.blk h.res (by omega), hR, h.only.trans hO, hy⟩
theorem GSt.below (h : GSt w0 w g P Y W) (hO : Below W.heap.size W W1) (hg : g < w.heap.size) : GSt w0 w g P Y W1 := h.only' (Only.of_below hO) (h.rd.below hO) hg
theorem GSt.put {j : Nat} {get : Goal → Term} {pt : Goal → Term → Goal} (F : Kd.GFld kGoal (Kd.slice 24 kCell (by decide)) j get pt) {v : Value} {t : Term} (h : GSt w0 w g P Y W) (hO : Only g W W1) (hR : Rd w0 W1 g P1) (hT : kCell.R W1 (fun k => W.heap.size ≤ k) v t) (hg : g < w.heap.size) : GSt w0 w g P1 Y (W1.setCell ⟨Y, j, none⟩ v) := by
  obtain ⟨cs, x, S, h1, h2, h3⟩ := h.box
  have hy := h.y
  have hb := h.rd.bel.size
  have h0 := h.only.size
  have h00 := hR.ge
  obtain ⟨c0, c2, v0, Sr, Sc, hl0, rfl, G⟩ := Growing.start (n0 := w.heap.size + 1) F h1 h2 h3 hy
  have hYl : Y < W.heap.size := (Array.getElem?_eq_some_iff.1 h1).1
  have G1 := G.only hO (by omega)
  have G2 := Growing.put (Sx := fun k => W.heap.size ≤ k) G1 hl0 (Foot.refl Sc W1) hT (fun k hk => .inr (.inl hk)) (fun k hk => ⟨fun e => by have := (G.mine k (.inl e)).2.1; omega, by have := (Array.getElem?_eq_some_iff.1 h.res).1; omega, by omega⟩)
  have F4 : Foot (fun k => k = Y) W1 (W1.setCell ⟨Y, j, none⟩ v) := Foot.set (S := fun k => k = Y) (Foot.refl _ _) (.inl rfl) _ _
  refine ⟨⟨_, _, _, G2.box, G2.done, fun k hk => ⟨hk.1, hk.2.2⟩⟩, ?_, ?_, ?_, hy⟩
  · exact (F4.block _ (by have := hO.size; have := (Array.getElem?_eq_some_iff.1 h.res).1; omega) (fun e => by have e : w.heap.size = Y := e; omega)).trans (hO.blk h.res (by omega))
  · exact hR.set (by omega) (by have := h.rd.bel; have := h.rd.lt; have := h.rd.ge; omega) j v
  · exact (h.only.trans hO).setNew (by omega) j v
theorem GSt.kind (h : GSt w0 w g P Y W) (k' : Int) (hg : g < w.heap.size) : GSt w0 w g P Y (W.setCell ⟨Y, 0, none⟩ (.int .i64 k')) := by
  obtain ⟨cs, x, S, h1, h2, h3⟩ := h.box
  have hy := h.y
  obtain ⟨S1, S2, c0, c1, c2, rfl, hl, k1, k2, hO1, back⟩ := gf_k.opn h2
  obtain rfl : c0 = [] := List.eq_nil_of_length_eq_zero hl
  obtain ⟨y, rfl⟩ : ∃ y, c1 = [y] := by
    have := Kd.K_len _ (Kd.O_K _ hO1)
    match c1, this with | [y], _ => exact ⟨y, rfl⟩
  have F4 : Foot (fun k => k = Y) W (W.setCell ⟨Y, 0, none⟩ (.int .i64 k')) := Foot.set (S := fun k => k = Y) (Foot.refl _ _) (.inl rfl) _ _
  have hz : (w.heap.size) < W.heap.size := (Array.getElem?_eq_some_iff.1 h.res).1
  refine ⟨⟨_, _, _, ?_, back _ (fun _ => False) k' [.int .i64 k'] (fun k hk hl => ⟨hk, F4.block k hl (h3 k (k2 k hk).1).2⟩) (fun _ h => h.elim) ?_, fun k hk => hk.elim (fun e => e.elim) (fun e => h3 k (k2 k e).1)⟩, ?_, ?_, ?_, hy⟩
  · have := box_store 0 (.int .i64 k') h1
    simpa using this
  · exact ⟨rfl, trivial⟩
  · exact (F4.block _ hz (fun e => by have e : w.heap.size = Y := e; omega)).trans h.res
  · exact h.rd.set (by omega) (by have := h.rd.bel; have := h.rd.lt; have := h.rd.ge; have := h.only; omega) 0 _
  · exact h.only.setNew (by omega) 0 _
end
set_option maxHeartbeats 8000000 in
theorem goalOr_c (w0 w : World) (g P : Nat) (n : Int) (hR : Rd w0 w g P) (hP : P ≤ 999900000) (hn : 0 ≤ n) (hn2 : n ≤ 1000000000) :
    Calls Tryz.prog 138 #[.pointer (some ⟨g, 0, none⟩), .int .i64 n] w fun e w' => ∃ (x : Goal) (cs : List Value), e = .returned (.agg cs.toArray) ∧ kGoal.O w' (fun k => w.heap.size ≤ k) x cs ∧ Rd w0 w' g (P + 20000) ∧ Only g w w' := by
  have hg := hR.lt
  have H0 := Sec.mk hR
  have hu3 := Tryz.underlying141
  have hu4 := Tryz.underlying84
  have hb0 := hR.bel.size
  clear hR
  go_enter Tryz.func138, Tryz.ntmps138
  go_wp2_with fail
  have B1 := belA (Below.refl w.heap.size w) (.cells #[.int .i64 0, .slice none 0 0, .slice none 0 0, .slice none 0 0] 141)
  refine (pick_c w0 (w.alloc (.cells #[.int .i64 0, .slice none 0 0, .slice none 0 0, .slice none 0 0] 141)) g P 5 (H0.out.below B1) (by omega)).mono ?_
  rintro e w2 ⟨r, rfl, ⟨p0, p1, -⟩, hR2, hO2⟩
  have p2 := p1 (by omega)
  have RES : w2.heap[w.heap.size]? = some (.cells #[.int .i64 0, .slice none 0 0, .slice none 0 0, .slice none 0 0] 141 (0, 0)) := hO2.blk (heap_alloc_new w _) (by omega)
  have B3 := belA (Below.refl w2.heap.size w2) (.cells #[.int .i64 (1 + r), .slice none 0 0, .slice none 0 0, .slice none 0 0] 141)
  have hz2 := hO2.size
  have hz3 : w.heap.size + 1 ≤ w2.heap.size := by simpa using hz2
  have G3 : Sec (GSt w0 w g (P + 1) w2.heap.size (w2.alloc (.cells #[.int .i64 (1 + r), .slice none 0 0, .slice none 0 0, .slice none 0 0] 141))) :=
    ⟨⟨⟨[.int .i64 (1 + r), .slice none 0 0, .slice none 0 0, .slice none 0 0], ⟨1 + r, [], [], []⟩, fun _ => False, heap_alloc_new w2 _, goal_one _ _, fun _ h => h.elim⟩, (B3.block _ (Array.getElem?_eq_some_iff.1 RES).1).trans RES, hR2.below B3, ((Only.of_below B1).trans hO2).trans (Only.of_below B3), hz3⟩⟩
  clear RES B1 B3 hR2 hO2 p1 hz2
  go_upto_block 0 with (fail)
  generalize w2.alloc (.cells #[.int .i64 (1 + r), .slice none 0 0, .slice none 0 0, .slice none 0 0] 141) = w3 at *
  generalize w2.heap.size = Y at *
  go_cut [] (fun wc => Sec (GSt w0 w g (P + 6000) Y wc))
  case first =>
    have hp9 : P ≤ 999900000 := hP
    rcases (show r = 0 ∨ r = 1 ∨ r = 2 ∨ r = 3 ∨ r = 4 by omega) with rfl | rfl | rfl | rfl | rfl
    · go_wp2_with fail
      refine (head_c w0 _ g _ G3.out.rd (by omega)).mono ?_
      rintro e w30x ⟨uq30x, tq30x, rfl, -, hT, hRd, hO⟩
      obtain ⟨AAq30x, aaq30x, rfl, -, -⟩ := Kd.R_form hT
      have G30x := Sec.mk (G3.out.put gf_a hO hRd hT hg)
      obtain ⟨kk, q1, q2, q3, d0, d1, d2, d3, df⟩ := (G3.out.only' hO hRd hg).cells
      have f1 := df 1
      clear hT hRd hO df
      go_wp2_with fail
      go_meet
      case rel => exact ⟨G30x.out.mono (by omega)⟩
    · go_wp2_with fail
      refine (term_c w0 _ g _ 6 5 G3.out.rd (by omega) (by omega) (by omega)).mono ?_
      rintro e w30x ⟨uq30x, tq30x, rfl, hT, -, -, -, hRd, hO⟩
      obtain ⟨AAq30x, aaq30x, rfl, -, -⟩ := Kd.R_form hT
      have G30x := Sec.mk (G3.out.put gf_a hO hRd hT hg)
      obtain ⟨kk, q1, q2, q3, d0, d1, d2, d3, df⟩ := (G3.out.only' hO hRd hg).cells
      have f1 := df 1
      clear hT hRd hO df
      go_wp2_with fail
      refine (term_c w0 _ g _ 6 5 G30x.out.rd (by omega) (by omega) (by omega)).mono ?_
      rintro e w31x ⟨uq31x, tq31x, rfl, hT, -, -, -, hRd, hO⟩
      obtain ⟨AAq31x, aaq31x, rfl, -, -⟩ := Kd.R_form hT
      have G31x := Sec.mk (G30x.out.put gf_b hO hRd hT hg)
      obtain ⟨kk, q1, q2, q3, d0, d1, d2, d3, df⟩ := (G30x.out.only' hO hRd hg).cells
      have f1 := df 2
      clear hT hRd hO df
      go_wp2_with fail
      go_meet
      case rel => exact ⟨G31x.out.mono (by omega)⟩
    · go_wp2_with fail
      go_meet
      case rel => exact ⟨G3.out.mono (by omega)⟩
    · go_wp2_with fail
      refine (term_c w0 _ g _ 6 5 G3.out.rd (by omega) (by omega) (by omega)).mono ?_
      rintro e w30x ⟨uq30x, tq30x, rfl, hT, -, -, -, hRd, hO⟩
      obtain ⟨AAq30x, aaq30x, rfl, -, -⟩ := Kd.R_form hT
      have G30x := Sec.mk (G3.out.put gf_a hO hRd hT hg)
      obtain ⟨kk, q1, q2, q3, d0, d1, d2, d3, df⟩ := (G3.out.only' hO hRd hg).cells
      have f1 := df 1
      clear hT hRd hO df
      go_wp2_with fail
      refine (term_c w0 _ g _ 6 5 G30x.out.rd (by omega) (by omega) (by omega)).mono ?_
      rintro e w31x ⟨uq31x, tq31x, rfl, hT, -, -, -, hRd, hO⟩
      obtain ⟨AAq31x, aaq31x, rfl, -, -⟩ := Kd.R_form hT
      have G31x := Sec.mk (G30x.out.put gf_b hO hRd hT hg)
      obtain ⟨kk, q1, q2, q3, d0, d1, d2, d3, df⟩ := (G30x.out.only' hO hRd hg).cells
      have f1 := df 2
      clear hT hRd hO df
      go_wp2_with fail
      go_meet
      case rel => exact ⟨G31x.out.mono (by omega)⟩
    · go_wp2_with fail
      refine (term_c w0 _ g _ 3 5 G3.out.rd (by omega) (by omega) (by omega)).mono ?_
      rintro e w30x ⟨uq30x, tq30x, rfl, hT, -, -, -, hRd, hO⟩
      obtain ⟨AAq30x, aaq30x, rfl, -, -⟩ := Kd.R_form hT
      have G30x := Sec.mk (G3.out.put gf_a hO hRd hT hg)
      obtain ⟨kk, q1, q2, q3, d0, d1, d2, d3, df⟩ := (G3.out.only' hO hRd hg).cells
      have f1 := df 1
      clear hT hRd hO df
      go_wp2_with fail
      refine (term_c w0 _ g _ 3 5 G30x.out.rd (by omega) (by omega) (by omega)).mono ?_
      rintro e w31x ⟨uq31x, tq31x, rfl, hT, -, -, -, hRd, hO⟩
      obtain ⟨AAq31x, aaq31x, rfl, -, -⟩ := Kd.R_form hT
      have G31x := Sec.mk (G30x.out.put gf_b hO hRd hT hg)
      obtain ⟨kk, q1, q2, q3, d0, d1, d2, d3, df⟩ := (G30x.out.only' hO hRd hg).cells
      have f1 := df 2
      clear hT hRd hO df
      go_wp2_with fail
      refine (term_c w0 _ g _ 3 5 G31x.out.rd (by omega) (by omega) (by omega)).mono ?_
      rintro e w32x ⟨uq32x, tq32x, rfl, hT, -, -, -, hRd, hO⟩
      obtain ⟨AAq32x, aaq32x, rfl, -, -⟩ := Kd.R_form hT
      have G32x := Sec.mk (G31x.out.put gf_c hO hRd hT hg)
      obtain ⟨kk, q1, q2, q3, d0, d1, d2, d3, df⟩ := (G31x.out.only' hO hRd hg).cells
      have f1 := df 3
      clear hT hRd hO df
      go_wp2_with fail
      go_meet
      case rel => exact ⟨G32x.out.mono (by omega)⟩
  case rest =>
  have G4 := hcut
  generalize wc = w4 at *
  clear G3 hcut
  go_wp2_with fail
  refine (odd_c w0 w4 g _ n G4.out.rd (by omega) hn hn2).mono ?_
  rintro e w5 ⟨b, rfl, hRd, hO⟩
  have G5 := Sec.mk (G4.out.only' hO hRd hg)
  clear hRd hO G4
  go_upto_if 39 with (fail)
  go_cut [] (fun wc => Sec (GSt w0 w g (P + 20000) Y wc))
  case first =>
    cases b with
    | false =>
      go_wp2_with fail
      go_meet
      case rel => exact ⟨G5.out.mono (by omega)⟩
    | true =>
      go_wp2_with fail
      refine (pick_c w0 w5 g _ 5 G5.out.rd (by omega)).mono ?_
      rintro e w6 ⟨r6, rfl, ⟨s0, s1, -⟩, hRd, hO⟩
      have s2 := s1 (by omega)
      have G6 := Sec.mk (G5.out.only' hO hRd hg)
      have z6 : g < w6.heap.size := by have := hO.size; have := G5.out.only.size; omega
      clear hRd hO G5 s1
      rcases (show r6 = 0 ∨ r6 = 1 ∨ r6 = 2 ∨ r6 = 3 ∨ r6 = 4 by omega) with rfl | rfl | rfl | rfl | rfl
      · go_wp2_with fail
        refine (pick_c w0 w6 g _ 5 G6.out.rd (by omega)).mono ?_
        rintro e w8 ⟨r8, rfl, ⟨a0, a1, -⟩, hRd, hO⟩
        have a2 := a1 (by omega)
        have G8 := Sec.mk (G6.out.only' hO hRd hg)
        have z8 : g < w8.heap.size := by have := hO.size; omega
        clear hRd hO G6 a1
        go_wp2_with fail
        have HB := belA (Below.refl w8.heap.size w8) (.cells #[.int .i64 0, .int .i64 6, .int .i64 7, .int .i64 (1 + r8)] 3)
        have G9 := Sec.mk (G8.out.below HB hg)
        refine (pick_c w0 (w8.alloc (.cells #[.int .i64 0, .int .i64 6, .int .i64 7, .int .i64 (1 + r8)] 3)) g _ 4 G9.out.rd (by omega)).mono ?_
        rintro e w9 ⟨r9, rfl, ⟨b0, b1, -⟩, hRd, hO⟩
        have b2 := b1 (by omega)
        have X := (box_at (hO.blk (heap_alloc_new w8 (.cells #[.int .i64 0, .int .i64 6, .int .i64 7, .int .i64 (1 + r8)] 3)) (by omega))).2.1
        have c0 := X 0 _ rfl
        have c1 := X 1 _ rfl
        have c2 := X 2 _ rfl
        have c3 := X 3 _ rfl
        have G10 := Sec.mk (G9.out.only' hO hRd hg)
        obtain ⟨kk, q1, q2, q3, d0, d1, d2, d3, df⟩ := G10.out.cells
        have f1 := df 0
        clear hRd hO HB X b1 df G9 G8
        rcases (show r9 = 0 ∨ r9 = 1 ∨ r9 = 2 ∨ r9 = 3 by omega) with rfl | rfl | rfl | rfl
        · go_wp2_with fail
          go_meet
          case rel => exact ⟨(G10.out.kind _ hg).mono (by omega)⟩
        · go_wp2_with fail
          go_meet
          case rel => exact ⟨(G10.out.kind _ hg).mono (by omega)⟩
        · go_wp2_with fail
          go_meet
          case rel => exact ⟨(G10.out.kind _ hg).mono (by omega)⟩
        · go_wp2_with fail
          go_meet
          case rel => exact ⟨(G10.out.kind _ hg).mono (by omega)⟩
      · go_wp2_with fail
        refine (termOr_c w0 _ g _ 1 G6.out.rd (by omega) (by omega) (by omega)).mono ?_
        rintro e w60x ⟨uq60x, tq60x, rfl, hT, -, -, hRd, hO⟩
        obtain ⟨AAq60x, aaq60x, rfl, -, -⟩ := Kd.R_form hT
        have G60x := Sec.mk (G6.out.put gf_a hO hRd hT hg)
        obtain ⟨kk, q1, q2, q3, d0, d1, d2, d3, df⟩ := (G6.out.only' hO hRd hg).cells
        have f1 := df 1
        clear hT hRd hO df
        go_wp2_with fail
        go_meet
        case rel => exact ⟨G60x.out.mono (by omega)⟩
      · have HB := belA (Below.refl w6.heap.size w6) (.cells #[.int .i64 1, .int .i64 8, .string ⟨#[]⟩] 84)
        have G8 := Sec.mk (G6.out.put gf_b (Only.of_below HB) (G6.out.rd.below HB) (R_lit (t := [⟨1, 8, ⟨#[]⟩⟩]) (heap_alloc_new w6 (.cells #[.int .i64 1, .int .i64 8, .string ⟨#[]⟩] 84)) (Nat.le_refl _) rfl (by decide) (by decide)) hg)
        obtain ⟨kk, q1, q2, q3, d0, d1, d2, d3, df⟩ := (G6.out.below HB hg).cells
        have f1 := df 2
        clear HB df
        go_wp2_with fail
        go_meet
        case rel => exact ⟨G8.out.mono (by omega)⟩
      · have HB := belA (Below.refl w6.heap.size w6) (.cells #[.int .i64 2, .int .i64 0, .string ⟨#[]⟩] 84)
        have G8 := Sec.mk (G6.out.put gf_c (Only.of_below HB) (G6.out.rd.below HB) (R_lit (t := [⟨2, 0, ⟨#[]⟩⟩]) (heap_alloc_new w6 (.cells #[.int .i64 2, .int .i64 0, .string ⟨#[]⟩] 84)) (Nat.le_refl _) rfl (by decide) (by decide)) hg)
        obtain ⟨kk, q1, q2, q3, d0, d1, d2, d3, df⟩ := (G6.out.below HB hg).cells
        have f1 := df 3
        clear HB df
        go_wp2_with fail
        go_meet
        case rel => exact ⟨G8.out.mono (by omega)⟩
      · have HB := belA (Below.refl w6.heap.size w6) (.cells #[.int .i64 2, .int .i64 3, .string ⟨#[]⟩] 84)
        have G8 := Sec.mk (G6.out.put gf_a (Only.of_below HB) (G6.out.rd.below HB) (R_lit (t := [⟨2, 3, ⟨#[]⟩⟩]) (heap_alloc_new w6 (.cells #[.int .i64 2, .int .i64 3, .string ⟨#[]⟩] 84)) (Nat.le_refl _) rfl (by decide) (by decide)) hg)
        obtain ⟨kk, q1, q2, q3, d0, d1, d2, d3, df⟩ := (G6.out.below HB hg).cells
        have f1 := df 1
        clear HB df
        go_wp2_with fail
        go_meet
        case rel => exact ⟨G8.out.mono (by omega)⟩
  case rest =>
  have G7 := hcut
  generalize wc = w7 at *
  obtain ⟨cs, x, S, h1, h2, h3⟩ := G7.out.box
  obtain ⟨v1, v2, v3, rfl, -⟩ := kGoal_K (kGoal.O_K h2)
  have X := (box_at h1).2.1
  have z0 := X 0 _ rfl
  have z1 := X 1 _ rfl
  have z2 := X 2 _ rfl
  have z3 := X 3 _ rfl
  have H2 := Sec.mk h2
  have H3 := Sec.mk h3
  clear X h2 h3 h1
  go_wp2_with (with_reducible show wpList _ _ _ (⟨none, .store 141 (.tmp 4) (.tmp 71), _, _, _, _⟩ :: _) _ _; go_loud (refine wpList_store (cs := [.int .i64 x.kind, v1, v2, v3]) (old := #[.int .i64 0, .slice none 0 0, .slice none 0 0, .slice none 0 0]) rfl 141 (.tmp 4) (.tmp 71) rfl rfl rfl G7.out.res (by kernel_rfl) rfl (kGoal.K_one (kGoal.O_K H2.out)) ?_; intro w8 hb8 hF8; have B8 := Sec.mk hb8; have F8 := Sec.mk hF8; clear hb8 hF8))
  refine bodyPost_ret (results_cell rfl rfl B8.out hu3 rfl (by kernel_rfl)) rfl ?_
  have hy := G7.out.y
  exact ⟨x, _, rfl, Kd.O_mono (F8.out.O H2.out (fun k hk e => by have e : k = w.heap.size := e; have := (H3.out k hk).1; omega)) (fun k hk _ => by have := (H3.out k hk).1; omega), F8.out.rd G7.out.rd (fun k e => by have e : k = w.heap.size := e; omega), F8.out.onlyOf G7.out.only (fun k e => Nat.le_of_eq (show k = w.heap.size from e).symm)⟩
end
section
open Go.RowKit
set_option linter.unusedVariables false
set_option maxRecDepth 100000
set_option maxHeartbeats 4000000 in
theorem prog_c (w0 w : World) (g P : Nat) (hR : Rd w0 w g P) (hP : P ≤ 999300000) :
    Calls Tryz.prog 121 #[.pointer (some ⟨g, 0, none⟩)] w fun e w' => ∃ (p : Prog) (cs : List Value), e = .returned (.agg cs.toArray) ∧ kProg.O w' (fun k => w.heap.size ≤ k) p cs ∧ prgOk p = true ∧ Rd w0 w' g (P + 500000) ∧ Only g w w' := by
  have hg := hR.lt
  have H0 := Sec.mk hR
  have hu2 := Tryz.underlying40
  have hz0 := hR.bel.size
  clear hR
  go_enter Tryz.func121, Tryz.ntmps121
  go_wp2_with fail
  have B1 := belA (Below.refl w.heap.size w) (.cells #[.slice none 0 0, .slice none 0 0] 40)
  have X1 := heap_alloc_new w (.cells #[.slice none 0 0, .slice none 0 0] 40)
  have Z1 : (w.alloc (.cells #[.slice none 0 0, .slice none 0 0] 40)).heap.size = w.heap.size + 1 := by simp
  refine (lines_c w0 (w.alloc (.cells #[.slice none 0 0, .slice none 0 0] 40)) g P (H0.out.below B1) (by omega)).mono ?_
  rintro e w2 ⟨u, ls, rfl, hU, hs, hl, hR2, hO2⟩
  have X2 := hO2.blk X1 (by omega)
  have O2 := (Only.of_below B1).trans hO2
  obtain ⟨A9, c9, rfl, -, -⟩ := Kd.R_form hU
  have U2 := Sec.mk (Kd.R_V hU)
  have S2 : Sec (∀ x ∈ ls, x.size ≤ 100000000) := ⟨fun x hx => by have := hs x hx; omega⟩
  have R2 := Sec.mk hR2
  have P2 := Sec.mk X2
  have Q2 := Sec.mk O2
  clear B1 X1 hU hs hR2 hO2 X2 O2 Z1
  go_wp2_with fail
  refine (PrgParse_c _ ls _ w2 U2.out S2.out).mono ?_
  rintro e w3 ⟨p, cs, k, rfl, hO, hok, hB3⟩
  obtain ⟨v1, v2, rfl, k1, k2⟩ := kProg_K (kProg.O_K hO)
  obtain ⟨A1, n1, rfl, -⟩ := k1
  obtain ⟨A2, n2, rfl, -⟩ := k2
  have B4 := belA (Below.refl w3.heap.size w3) (.cells #[.slice A1 p.clauses.length n1, .slice A2 p.places.length n2] 40)
  have BB := bel hB3 B4
  have zw := Q2.out.size
  have P4 := Sec.mk ((BB.block _ (Array.getElem?_eq_some_iff.1 P2.out).1).trans P2.out)
  have R4 := Sec.mk (R2.out.below BB)
  have O4 := Sec.mk (Q2.out.trans (Only.of_below BB))
  have hlt2 : w.heap.size < w2.heap.size := (Array.getElem?_eq_some_iff.1 P2.out).1
  have HO4 := Sec.mk (Kd.O_below (Kd.O_mono hO (S1 := fun k => w.heap.size + 1 ≤ k) (fun k h _ => by omega)) B4)
  have X := (box_at (heap_alloc_new w3 (.cells #[.slice A1 p.clauses.length n1, .slice A2 p.places.length n2] 40))).2.1
  have y0 := X 0 _ rfl
  have y1 := X 1 _ rfl
  have OK := Sec.mk hok
  clear hO hok hB3 B4 BB X
  go_wp2_with (with_reducible show wpList _ _ _ (⟨none, .store 40 (.tmp 2) (.tmp 11), _, _, _, _⟩ :: _) _ _; go_loud (refine wpList_store (cs := [.slice A1 p.clauses.length n1, .slice A2 p.places.length n2]) (old := #[.slice none 0 0, .slice none 0 0]) rfl 40 (.tmp 2) (.tmp 11) rfl rfl rfl P4.out (by kernel_rfl) rfl (kProg.K_one (kProg.O_K HO4.out)) ?_; intro w8 hb8 hF8; have B8 := Sec.mk hb8; have F8 := Sec.mk hF8; clear hb8 hF8))
  refine bodyPost_ret (results_cell rfl rfl B8.out hu2 rfl (by kernel_rfl)) rfl ?_
  exact ⟨p, _, rfl, Kd.O_mono (F8.out.O HO4.out (fun k h e => by have e : k = w.heap.size := e; omega)) (fun k h _ => by omega), OK.out, F8.out.rd R4.out (fun k e => by have e : k = w.heap.size := e; omega), F8.out.onlyOf O4.out (fun k e => Nat.le_of_eq (show k = w.heap.size from e).symm)⟩
end
section
open Go.RowKit
set_option linter.unusedVariables false
set_option maxRecDepth 100000
theorem gf_clauses : Kd.GFld kProg (Kd.slice 37 kClause (by decide)) 0 (fun x => x.clauses) (fun x y => { x with clauses := y }) := Kd.GFld.iso _ (Kd.GFld.fst (Kd.GFld.self _)) (fun _ _ => rfl)
end
end Go.Proofs.YtekiikmaaiekkaaGreatDoor
