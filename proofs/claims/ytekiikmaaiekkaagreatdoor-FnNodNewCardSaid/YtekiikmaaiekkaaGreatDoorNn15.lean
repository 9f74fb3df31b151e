/- Draws of programs: the text of a clause that is drawn. Condition: the reader has been asked no more than a number of times; and what goes with it. -/
import Derived.Test.YtekiikmaaiekkaaGreatDoorNn10
import Derived.Test.YtekiikmaaiekkaaGreatDoorNn14
namespace Go.Proofs.YtekiikmaaiekkaaGreatDoor
section
open Go.RowKit
set_option linter.unusedVariables false
set_option maxRecDepth 100000
/-- The clause in its box, its body growing. -/
abbrev ClG (t : Term) (u : Value) (X n0 : Nat) (w : World) (v : Value) (gs : List Goal) (Sr Sc : Nat → Prop) : Prop := Growing kClause kGoal 65 (by decide) (fun y => (⟨t, y⟩ : Clause)) X n0 [u] [] 67 w v gs Sr Sc
theorem goal_one (w : World) (k : Int) : kGoal.O w (fun _ => False) ⟨k, [], [], []⟩ [.int .i64 k, .slice none 0 0, .slice none 0 0, .slice none 0 0] :=
  Kd.O_mono (kGoal_of (Kd.R_nil kCell w (fun _ => False)) (Kd.R_nil kCell w (fun _ => False)) (Kd.R_nil kCell w (fun _ => False)) (fun _ h => h.elim) (fun _ h => h.elim) (fun _ h => h.elim)) (fun k h _ => by rcases h with h | h | h <;> exact h.elim)
theorem goal_a {w : World} {S : Nat → Prop} {t : Term} {v : Value} (h : kCell.R w S v t) : kGoal.O w S ⟨1, t, [], []⟩ [.int .i64 1, v, .slice none 0 0, .slice none 0 0] :=
  Kd.O_mono (kGoal_of h (Kd.R_nil kCell w (fun _ => False)) (Kd.R_nil kCell w (fun _ => False)) (fun _ _ => id) (fun _ _ => id) (fun _ _ => id)) (fun k h _ => by rcases h with h | h | h; exact h; exact h.elim; exact h.elim)
set_option maxHeartbeats 8000000 in
theorem l20Clause_c (w0 w : World) (g P : Nat) (hR : Rd w0 w g P) (hP : P ≤ 999900000) :
    Calls Tryz.prog 239 #[.pointer (some ⟨g, 0, none⟩)] w fun e w' => ∃ s : ByteArray, e = .returned (.string s) ∧ s.size ≤ 200000 ∧ Rd w0 w' g (P + 40000) ∧ Only g w w' := by
  have hg := hR.lt
  have H0 := Sec.mk hR
  have WZ0 := Sec.mk hR.bel.size
  have hu2 := Tryz.underlying67
  have hu3 := Tryz.underlying141
  clear hR
  go_enter Tryz.func239, Tryz.ntmps239
  go_wp2_with fail
  refine (head_c w0 w g P H0.out (by omega)).mono ?_
  rintro e w1 ⟨u, t, rfl, hl, hT, hR1, hO1⟩
  obtain ⟨Ah, ch, rfl, -, -⟩ := Kd.R_form hT
  have z1 := hO1.size
  have XG : Sec (w.heap.size ≤ w1.heap.size) := ⟨z1⟩
  obtain ⟨c0, c2, v, Sr, Sc, hl0, hcs, HG0⟩ := Growing.start (w := w1.alloc (.cells #[.slice Ah t.length ch, .slice none 0 0] 67)) (X := w1.heap.size) (n0 := w.heap.size) gf_body (heap_alloc_new w1 _) (kClause_of (x := ⟨t, []⟩) (Kd.R_below (Kd.R_mono hT (S1 := fun k => w.heap.size ≤ k ∧ k < w1.heap.size) (fun k h1 h2 => ⟨h1, h2⟩)) (belA (Below.refl _ _) _)) (Kd.R_nil kGoal _ (fun _ => False)) (fun k h => id)) (fun k hk => by rcases hk with hk | hk; exact ⟨hk.1, by omega⟩; exact hk.elim) (by omega)
  obtain ⟨a0, rfl⟩ : ∃ a, c0 = [a] := by match c0, hl0 with | [a], _ => exact ⟨a, rfl⟩
  simp only [List.cons_append, List.nil_append, List.cons.injEq] at hcs
  obtain ⟨rfl, rfl, rfl⟩ := hcs
  have G2 : Sec (ClG t (.slice Ah t.length ch) w1.heap.size w.heap.size (w1.alloc (.cells #[.slice Ah t.length ch, .slice none 0 0] 67)) (.slice none 0 0) [] Sr Sc) := ⟨HG0⟩
  have R2 := Sec.mk (hR1.below (belA (Below.refl _ _) (.cells #[.slice Ah t.length ch, .slice none 0 0] 67)))
  have O2 := Sec.mk (hO1.alloc (.cells #[.slice Ah t.length ch, .slice none 0 0] 67))
  clear HG0 hT hR1 hO1 z1 hl0
  go_wp2_with fail
  generalize w1.alloc (.cells #[.slice Ah t.length ch, .slice none 0 0] 67) = w2 at *
  generalize w1.heap.size = X at *
  refine (pick_c w0 w2 g (P + 5000) 3 R2.out (by omega)).mono ?_
  rintro e w3 ⟨r, rfl, ⟨p0, p1, -⟩, hR3, hO3⟩
  have p2 := p1 (by omega)
  obtain ⟨k, rfl⟩ : ∃ k : Nat, r = (k : Int) := ⟨r.toNat, by omega⟩
  have G3 := Sec.mk (G2.out.only hO3 hg)
  have R3 := Sec.mk hR3
  have O3 := Sec.mk (O2.out.trans hO3)
  clear p0 p1 hR3 hO3 G2 O2 R2
  go_wp2_with fail
  go_loopw [4] (fun kv wr => ∃ (k : Nat) (gs : List Goal) (v : Value) (Sr Sc : Nat → Prop), kv = .int .i64 k ∧ k + gs.length ≤ 2 ∧ Sec (ClG t (.slice Ah t.length ch) X w.heap.size wr v gs Sr Sc) ∧ Sec (Rd w0 wr g (P + 5001 + gs.length * 6000)) ∧ Sec (Only g w wr)) (fun kv _ => (intOf kv).toNat)
  case atStart => exact ⟨k, [], _, _, _, rfl, by simp; omega, G3, ⟨R3.out.mono (by simp)⟩, O3⟩
  case round =>
    obtain ⟨k, gs, v, Sr, Sc, rfl, hk, HG, HR, HO⟩ := hrel
    obtain ⟨A0, n0, rfl, -, -⟩ := Kd.R_form HG.out.row
    have HGX : Sec (X < wr.heap.size ∧ w.heap.size ≤ X ∧ (∀ q, Sr q ∨ Sc q → w.heap.size ≤ q ∧ q < wr.heap.size ∧ q ≠ X)) := ⟨(Array.getElem?_eq_some_iff.1 HG.out.box).1, HG.out.at_, fun q h => HG.out.mine q h⟩
    have WZ := Sec.mk HO.out.size
    have hL : gs.length + 1 ≤ 1073741824 := by omega
    have LEN : ∀ x : Goal, (gs ++ [x]).length = gs.length + 1 := fun x => by simp
    have LEN : Sec (∀ x : Goal, (gs ++ [x]).length = gs.length + 1) := ⟨LEN⟩
    by_cases hk0 : 0 < k
    · obtain ⟨n, rfl⟩ : ∃ n, k = n + 1 := ⟨k - 1, by omega⟩
      have d1 : decide (((n + 1 : Nat) : Int) > 0) = true := decide_eq_true (by omega)
      go_wp2_with fail
      refine (head_c w0 wr g _ HR.out (by omega)).mono ?_
      rintro e w4 ⟨u4, t4, rfl, hl4, hT4, hR4, hO4⟩
      obtain ⟨A4, c4, rfl, -, -⟩ := Kd.R_form hT4
      have z4 := hO4.size
      have HB4 := belA (Below.refl w4.heap.size w4) (.cells #[.int .i64 1, .slice A4 t4.length c4, .slice none 0 0, .slice none 0 0] 141)
      have HG5 := Sec.mk ((HG.out.only hO4 hg).below HB4)
      have R5 := Sec.mk (hR4.below HB4)
      have O5 := Sec.mk ((HO.out.trans hO4).trans (Only.of_below HB4))
      have B5 := Sec.mk (heap_alloc_new w4 (.cells #[.int .i64 1, .slice A4 t4.length c4, .slice none 0 0, .slice none 0 0] 141))
      have GO5 := Sec.mk (Kd.O_below (goal_a (Kd.R_mono hT4 (S1 := fun k => wr.heap.size ≤ k ∧ k < w4.heap.size) (fun k h1 h2 => ⟨h1, h2⟩))) HB4)
      have YZ : Sec (wr.heap.size ≤ w4.heap.size) := ⟨z4⟩
      clear hT4 hR4 hO4 HB4
      go_wp2_with fail
      have YL : Sec (w4.heap.size < (w4.alloc (.cells #[.int .i64 1, .slice A4 t4.length c4, .slice none 0 0, .slice none 0 0] 141)).heap.size) := ⟨by simp⟩
      generalize w4.alloc (.cells #[.int .i64 1, .slice A4 t4.length c4, .slice none 0 0, .slice none 0 0] 141) = w5 at *
      generalize w4.heap.size = Y at *
      refine (pick_c w0 w5 g _ 5 R5.out (by omega)).mono ?_
      rintro e w6 ⟨r, rfl, ⟨p0, p1, -⟩, hR6, hO6⟩
      have p2 := p1 (by omega)
      have hgY : Y ≠ g := by have := YZ.out; have := WZ.out; omega
      have HG6 := Sec.mk (HG5.out.only hO6 hg)
      have RD6 := Sec.mk hR6
      have ON6 := Sec.mk (O5.out.trans hO6)
      have BX6 := Sec.mk (hO6.blk B5.out hgY)
      have GO6 := Sec.mk (hO6.O GO5.out (fun k h => by have := WZ.out; omega))
      clear p1 hR6 hO6 HG5 R5 O5 B5 GO5
      rcases (show r = 0 ∨ r = 1 ∨ (r ≠ 0 ∧ r ≠ 1) by omega) with rfl | rfl | ⟨r0, r1⟩
      · have SYX : Sec (∀ k, (fun _ => False) k → wr.heap.size ≤ k) := ⟨fun k h => h.elim⟩
        go_wp2_with (first | (with_reducible show wpList _ _ _ (⟨none, .store 141 (.tmp 5) (.tmp 22), _, _, _, _⟩   :: _) _ _; go_loud (refine wpList_store (cs := [.int .i64 3, .slice none 0 0, .slice none 0 0, .slice none 0 0]) (old := #[.int .i64 1, .slice A4 t4.length c4, .slice none 0 0, .slice none 0 0]) rfl 141 (.tmp 5) (.tmp 22) rfl rfl rfl BX6.out (by kernel_rfl) rfl (kGoal.K_one (kGoal.O_K (goal_one w 3))) ?_; intro w8 hb8 hF8; have BXV := Sec.mk hb8; have HGV := Sec.mk (Growing.foot HG6.out hF8 (fun k e => by have e : k = Y := e; exact ⟨by have := HGX.out.1; have := YZ.out; omega, fun h => by have := (HGX.out.2.2 k (.inl h)).2.1; have := YZ.out; omega, fun h => by have := (HGX.out.2.2 k (.inr h)).2.1; have := YZ.out; omega⟩)); have RDV := Sec.mk (hF8.rd RD6.out (fun k e => by have e : k = Y := e; have := YZ.out; have := WZ0.out; have := WZ.out; exact ⟨by omega, by omega⟩)); have ONV := Sec.mk (hF8.onlyOf ON6.out (fun k e => by have e : k = Y := e; have := YZ.out; have := WZ.out; omega)); have GOV := Sec.mk (goal_one w8 3); have y1 := HGV.out.cell (j := 1) rfl; have z0 := (box_at BXV.out).2.1 0 _ rfl; have z1 := (box_at BXV.out).2.1 1 _ rfl; have z2 := (box_at BXV.out).2.1 2 _ rfl; have z3 := (box_at BXV.out).2.1 3 _ rfl; clear hb8 hF8)) | (at_builtin; go_loud (refine Kd.R_app2 kGoal (W := w8) (by rfl) (.tmp 31) (.tmp 33) 65 (.agg #[.int .i64 0, .slice none 0 0, .slice none 0 0, .slice none 0 0]) 80 (by rfl) Tryz.underlying65 info_goal rfl (by decide) (by decide) _ gs (⟨3, [], [], []⟩ : Goal) [.int .i64 3, .slice none 0 0, .slice none 0 0, .slice none 0 0] Sc (fun _ => False) (by rfl) (by rfl) (by first | rfl | simp) HGV.out.row GOV.out (fun k h1 _ h2 => by have := (HGX.out.2.2 k (.inr h2)).2.1; have := SYX.out k h1; omega) hL ?_; intro v9 w9 hR9 hg9 hr9; obtain ⟨A9, m9, rfl, -, -⟩ := Kd.R_form hR9; have L9 := LEN.out (⟨3, [], [], []⟩ : Goal); rw [L9] at hR9; clear L9; have F9 : Foot Sc w8 w9 := Foot.grown2 (Foot.refl _ _) hg9 (fun k e => .inl (hr9 k e)); have N9 := Sec.mk (Growing.put HGV.out rfl F9 hR9 (fun k h => h) (fun k h => ⟨fun e => by have := (HGX.out.2.2 k (.inl e)).2.1; have := SYX.out k h; omega, by have := SYX.out k h; have := WZ.out; omega, by have := SYX.out k h; have := HGX.out.1; omega⟩)); have R9 := Sec.mk ((F9.rd RDV.out (fun k h => ⟨by have := (HGX.out.2.2 k (.inr h)).1; omega, by have := (HGX.out.2.2 k (.inr h)).1; have := WZ0.out; omega⟩)).set (b := X) (by have := HGX.out.2.1; omega) (by have := HGX.out.2.1; have := WZ0.out; omega) 1 (.slice A9 (gs.length + 1) m9)); have O9 := Sec.mk ((F9.onlyOf ONV.out (fun k h => (HGX.out.2.2 k (.inr h)).1)).setNew (b := X) HGX.out.2.1 1 (.slice A9 (gs.length + 1) m9)); have NX : ¬ Sc X := fun e => (HGX.out.2.2 X (.inr e)).2.2 rfl; have q9 := (box_at (carry2 F9 HGV.out.box NX)).2.1 1 _ rfl; have f9 := (box_at (carry2 F9 HGV.out.box NX)).2.2 1; clear hR9 hg9 hr9 F9 NX y1 z0 z1 z2 z3)))
        go_roundw
        case rel => exact ⟨n, gs ++ [(⟨3, [], [], []⟩ : Goal)], _, _, _, by go_num, by simp; omega, N9, ⟨R9.out.mono (by simp; omega)⟩, O9⟩
        case measure => simp [intOf]
      · go_wp2_with fail
        refine (term_c w0 w6 g _ 5 4 RD6.out (by omega) (by omega) (by omega)).mono ?_
        rintro e w7 ⟨u7, t7, rfl, hT7, -, hl7, -, hR7, hO7⟩
        obtain ⟨A7, c7, rfl, -, -⟩ := Kd.R_form hT7
        have z7 := hO7.size
        have HG7 := Sec.mk (HG6.out.only hO7 hg)
        have RD7 := Sec.mk hR7
        have ON7 := Sec.mk (ON6.out.trans hO7)
        have BX7 := Sec.mk (hO7.blk BX6.out hgY)
        have T7 := Sec.mk (Kd.R_mono hT7 (S1 := fun k => w6.heap.size ≤ k ∧ k < w7.heap.size) (fun k h1 h2 => ⟨h1, h2⟩))
        have Z6 : Sec (Y < w6.heap.size) := ⟨(Array.getElem?_eq_some_iff.1 BX6.out).1⟩
        have z6 := Z6.out
        clear hT7 hR7 hO7 HG6 RD6 ON6 BX6 GO6
        go_wp2_with fail
        refine (term_c w0 w7 g _ 5 4 RD7.out (by omega) (by omega) (by omega)).mono ?_
        rintro e wq ⟨uq, tq, rfl, hTq, -, hlq, -, hRq, hOq⟩
        obtain ⟨Aq, cq, rfl, -, -⟩ := Kd.R_form hTq
        have zq := hOq.size
        have HG6 := Sec.mk (HG7.out.only hOq hg)
        have RD6 := Sec.mk hRq
        have ON6 := Sec.mk (ON7.out.trans hOq)
        have BX6 := Sec.mk (hOq.blk BX7.out hgY)
        have GO6 := Sec.mk (kGoal_of (k := 2) (hOq.R T7.out (fun k h => by have := WZ.out; have := YZ.out; omega)) (Kd.R_mono hTq (S1 := fun k => w7.heap.size ≤ k ∧ k < wq.heap.size) (fun k h1 h2 => ⟨h1, h2⟩)) (Kd.R_nil kCell wq (fun _ => False)) (fun k h1 h2 => by omega) (fun k h1 h2 => h2) (fun k h1 h2 => h2))
        clear hTq hRq hOq HG7 RD7 ON7 BX7 T7
        have SYX : Sec (∀ k, (fun k => (w6.heap.size ≤ k ∧ k < w7.heap.size) ∨ (w7.heap.size ≤ k ∧ k < wq.heap.size) ∨ False) k → wr.heap.size ≤ k) := ⟨fun k h => by have := YZ.out; rcases h with h | h | h; omega; omega; exact h.elim⟩
        have GNY : Sec (∀ k, (fun k => (w6.heap.size ≤ k ∧ k < w7.heap.size) ∨ (w7.heap.size ≤ k ∧ k < wq.heap.size) ∨ False) k → ¬ k = Y) := ⟨fun k h => by have := Z6.out; rcases h with h | h | h; omega; omega; exact h.elim⟩
        go_wp2_with (first | (with_reducible show wpList _ _ _ (⟨none, .store 141 (.tmp 5) (.tmp 29), _, _, _, _⟩   :: _) _ _; go_loud (refine wpList_store (cs := [.int .i64 2, .slice A7 t7.length c7, .slice Aq tq.length cq, .slice none 0 0]) (old := #[.int .i64 1, .slice A4 t4.length c4, .slice none 0 0, .slice none 0 0]) rfl 141 (.tmp 5) (.tmp 29) rfl rfl rfl BX6.out (by kernel_rfl) rfl (kGoal.K_one (kGoal.O_K GO6.out)) ?_; intro w8 hb8 hF8; have BXV := Sec.mk hb8; have HGV := Sec.mk (Growing.foot HG6.out hF8 (fun k e => by have e : k = Y := e; exact ⟨by have := HGX.out.1; have := YZ.out; omega, fun h => by have := (HGX.out.2.2 k (.inl h)).2.1; have := YZ.out; omega, fun h => by have := (HGX.out.2.2 k (.inr h)).2.1; have := YZ.out; omega⟩)); have RDV := Sec.mk (hF8.rd RD6.out (fun k e => by have e : k = Y := e; have := YZ.out; have := WZ0.out; have := WZ.out; exact ⟨by omega, by omega⟩)); have ONV := Sec.mk (hF8.onlyOf ON6.out (fun k e => by have e : k = Y := e; have := YZ.out; have := WZ.out; omega)); have GOV := Sec.mk (hF8.O GO6.out (fun k h => GNY.out k h)); have y1 := HGV.out.cell (j := 1) rfl; have z0 := (box_at BXV.out).2.1 0 _ rfl; have z1 := (box_at BXV.out).2.1 1 _ rfl; have z2 := (box_at BXV.out).2.1 2 _ rfl; have z3 := (box_at BXV.out).2.1 3 _ rfl; clear hb8 hF8)) | (at_builtin; go_loud (refine Kd.R_app2 kGoal (W := w8) (by rfl) (.tmp 31) (.tmp 33) 65 (.agg #[.int .i64 0, .slice none 0 0, .slice none 0 0, .slice none 0 0]) 80 (by rfl) Tryz.underlying65 info_goal rfl (by decide) (by decide) _ gs (⟨2, t7, tq, []⟩ : Goal) [.int .i64 2, .slice A7 t7.length c7, .slice Aq tq.length cq, .slice none 0 0] Sc (fun k => (w6.heap.size ≤ k ∧ k < w7.heap.size) ∨ (w7.heap.size ≤ k ∧ k < wq.heap.size) ∨ False) (by rfl) (by rfl) (by first | rfl | simp) HGV.out.row GOV.out (fun k h1 _ h2 => by have := (HGX.out.2.2 k (.inr h2)).2.1; have := SYX.out k h1; omega) hL ?_; intro v9 w9 hR9 hg9 hr9; obtain ⟨A9, m9, rfl, -, -⟩ := Kd.R_form hR9; have L9 := LEN.out (⟨2, t7, tq, []⟩ : Goal); rw [L9] at hR9; clear L9; have F9 : Foot Sc w8 w9 := Foot.grown2 (Foot.refl _ _) hg9 (fun k e => .inl (hr9 k e)); have N9 := Sec.mk (Growing.put HGV.out rfl F9 hR9 (fun k h => h) (fun k h => ⟨fun e => by have := (HGX.out.2.2 k (.inl e)).2.1; have := SYX.out k h; omega, by have := SYX.out k h; have := WZ.out; omega, by have := SYX.out k h; have := HGX.out.1; omega⟩)); have R9 := Sec.mk ((F9.rd RDV.out (fun k h => ⟨by have := (HGX.out.2.2 k (.inr h)).1; omega, by have := (HGX.out.2.2 k (.inr h)).1; have := WZ0.out; omega⟩)).set (b := X) (by have := HGX.out.2.1; omega) (by have := HGX.out.2.1; have := WZ0.out; omega) 1 (.slice A9 (gs.length + 1) m9)); have O9 := Sec.mk ((F9.onlyOf ONV.out (fun k h => (HGX.out.2.2 k (.inr h)).1)).setNew (b := X) HGX.out.2.1 1 (.slice A9 (gs.length + 1) m9)); have NX : ¬ Sc X := fun e => (HGX.out.2.2 X (.inr e)).2.2 rfl; have q9 := (box_at (carry2 F9 HGV.out.box NX)).2.1 1 _ rfl; have f9 := (box_at (carry2 F9 HGV.out.box NX)).2.2 1; clear hR9 hg9 hr9 F9 NX y1 z0 z1 z2 z3)))
        go_roundw
        case rel => exact ⟨n, gs ++ [(⟨2, t7, tq, []⟩ : Goal)], _, _, _, by go_num, by simp; omega, N9, ⟨R9.out.mono (by simp; omega)⟩, O9⟩
        case measure => simp [intOf]
      · have e0 : (r == 0) = false := beq_eq_false_iff_ne.2 r0
        have e1 : (r == 1) = false := beq_eq_false_iff_ne.2 r1
        have SYX : Sec (∀ k, (fun k => wr.heap.size ≤ k ∧ k < Y) k → wr.heap.size ≤ k) := ⟨fun k h => h.1⟩
        clear r0 r1
        have y1 := HG6.out.cell (j := 1) rfl
        have X9 := (box_at BX6.out).2.1
        have z0 := X9 0 _ rfl
        have z1 := X9 1 _ rfl
        have z2 := X9 2 _ rfl
        have z3 := X9 3 _ rfl
        clear X9
        go_wp2_with (at_builtin; go_loud (refine Kd.R_app2 kGoal (W := w6) (by rfl) (.tmp 31) (.tmp 33) 65 (.agg #[.int .i64 0, .slice none 0 0, .slice none 0 0, .slice none 0 0]) 80 (by rfl) Tryz.underlying65 info_goal rfl (by decide) (by decide) _ gs (⟨1, t4, [], []⟩ : Goal) [.int .i64 1, .slice A4 t4.length c4, .slice none 0 0, .slice none 0 0] Sc (fun k => wr.heap.size ≤ k ∧ k < Y) (by rfl) (by rfl) (by first | rfl | simp) HG6.out.row GO6.out (fun k h1 _ h2 => by have := (HGX.out.2.2 k (.inr h2)).2.1; have := SYX.out k h1; omega) hL ?_; intro v9 w9 hR9 hg9 hr9; obtain ⟨A9, m9, rfl, -, -⟩ := Kd.R_form hR9; have L9 := LEN.out (⟨1, t4, [], []⟩ : Goal); rw [L9] at hR9; clear L9; have F9 : Foot Sc w6 w9 := Foot.grown2 (Foot.refl _ _) hg9 (fun k e => .inl (hr9 k e)); have N9 := Sec.mk (Growing.put HG6.out rfl F9 hR9 (fun k h => h) (fun k h => ⟨fun e => by have := (HGX.out.2.2 k (.inl e)).2.1; have := SYX.out k h; omega, by have := SYX.out k h; have := WZ.out; omega, by have := SYX.out k h; have := HGX.out.1; omega⟩)); have R9 := Sec.mk ((F9.rd RD6.out (fun k h => ⟨by have := (HGX.out.2.2 k (.inr h)).1; omega, by have := (HGX.out.2.2 k (.inr h)).1; have := WZ0.out; omega⟩)).set (b := X) (by have := HGX.out.2.1; omega) (by have := HGX.out.2.1; have := WZ0.out; omega) 1 (.slice A9 (gs.length + 1) m9)); have O9 := Sec.mk ((F9.onlyOf ON6.out (fun k h => (HGX.out.2.2 k (.inr h)).1)).setNew (b := X) HGX.out.2.1 1 (.slice A9 (gs.length + 1) m9)); have NX : ¬ Sc X := fun e => (HGX.out.2.2 X (.inr e)).2.2 rfl; have q9 := (box_at (carry2 F9 HG6.out.box NX)).2.1 1 _ rfl; have f9 := (box_at (carry2 F9 HG6.out.box NX)).2.2 1; clear hR9 hg9 hr9 F9 NX y1 z0 z1 z2 z3))
        go_roundw
        case rel => exact ⟨n, gs ++ [(⟨1, t4, [], []⟩ : Goal)], _, _, _, by go_num, by simp; omega, N9, ⟨R9.out.mono (by simp; omega)⟩, O9⟩
        case measure => simp [intOf]
    · have d1 : decide ((k : Int) > 0) = false := decide_eq_false (by omega)
      have HQ := Sec.mk HG.out.done
      have hgl : gs.length ≤ 20 := by omega
      have X9 := (box_at HG.out.box).2.1
      have y0 := X9 0 _ rfl
      have y1 := X9 1 _ rfl
      clear X9
      go_wp2_with fail
      refine (l3Line_c ⟨t, gs⟩ hgl _ _ wr (kClause.O_K HQ.out)).mono ?_
      rintro e w9 ⟨s, rfl, hs, hb9⟩
      have R9 := Sec.mk (HR.out.below hb9)
      have O9 := Sec.mk (HO.out.trans (Only.of_below hb9))
      clear hb9 y0 y1
      go_wp2
      go_ret
      exact ⟨s, rfl, hs, R9.out.mono (by omega), O9.out⟩
end
end Go.Proofs.YtekiikmaaiekkaaGreatDoor
