/- Contracts: a goal that is copied, by the reference. -/
import Derived.Test.YtenigopoknajgaaGreatDoorInvCell
import Derived.Test.YtenigopoknajgaaGreatDoorXGoal
import Derived.Test.YtenigopoknajgaaGreatDoorExB
namespace Go.Proofs.YtenigopoknajgaaGreatDoor
open Go.RowKit
set_option linter.unusedVariables false
set_option maxRecDepth 100000
theorem kGoal_O3 {w : World} {S1 S2 S3 : Nat → Prop} {x : Goal} {v1 v2 v3 : Value} (h1 : kCell.R w S1 v1 x.a) (h2 : kCell.R w S2 v2 x.b) (h3 : kCell.R w S3 v3 x.c) (d1 : ∀ k, S1 k → ¬ S2 k) (d2 : ∀ k, S1 k → ¬ S3 k) (d3 : ∀ k, S2 k → ¬ S3 k) :
    kGoal.O w (fun k => S1 k ∨ S2 k ∨ S3 k) x [.int .i64 x.kind, v1, v2, v3] :=
  ⟨fun _ => False, fun k => S1 k ∨ S2 k ∨ S3 k, [.int .i64 x.kind], [v1, v2, v3], rfl, fun k h => h.elim, fun k h => h, ⟨rfl, trivial⟩,
    S1, fun k => S2 k ∨ S3 k, [v1], [v2, v3], rfl, fun k h => ⟨.inl h, fun e => e.elim (d1 k h) (d2 k h)⟩, fun k h => .inr h, ⟨v1, rfl, h1⟩,
    S2, S3, [v2], [v3], rfl, fun k h => ⟨.inl h, d3 k h⟩, fun k h => .inr h, ⟨v2, rfl, h2⟩, ⟨v3, rfl, h3⟩⟩
set_option maxHeartbeats 1000000 in
theorem l3Goal_c (x : Goal) (cs : List Value) (ok : Nat → Prop) (w : World) (hK : kGoal.K w ok x cs) (hok : ∀ k, ok k → k < w.heap.size) :
    Calls Tryz.prog 29 #[.agg cs.toArray] w fun e w' => ∃ c : List Value, e = .returned (.agg c.toArray) ∧ kGoal.O w' (fun k => w.heap.size ≤ k) x c ∧ Below w.heap.size w w' := by
  obtain ⟨v1, v2, v3, rfl, h1, h2, h3⟩ := kGoal_K hK
  have L1 : Sec (x.a.length ≤ 1073741824) := ⟨by obtain ⟨_, _, _, _, _, h, _⟩ := h1; exact h⟩
  have L2 : Sec (x.b.length ≤ 1073741824) := ⟨by obtain ⟨_, _, _, _, _, h, _⟩ := h2; exact h⟩
  have L3 : Sec (x.c.length ≤ 1073741824) := ⟨by obtain ⟨_, _, _, _, _, h, _⟩ := h3; exact h⟩
  have HB := Sec.mk hok
  have hu := Tryz.underlying63
  have BB := belA (belA (Below.refl w.heap.size w) (.cells #[.int .i64 x.kind, v1, v2, v3] 63)) (.cells #[.int .i64 0, .slice none 0 0, .slice none 0 0, .slice none 0 0] 63)
  have V1 := Sec.mk (Kd.V_below h1 BB (by decide))
  have V2 := Sec.mk (Kd.V_below h2 BB (by decide))
  have V3 := Sec.mk (Kd.V_below h3 BB (by decide))
  have B0 := Sec.mk BB
  have X := (box_at (box2 w (.cells #[.int .i64 x.kind, v1, v2, v3] 63) (.cells #[.int .i64 0, .slice none 0 0, .slice none 0 0, .slice none 0 0] 63)).1).2.1
  have p0 : _ = some (Value.int .i64 x.kind) := X 0 _ rfl
  have p1 : _ = some v1 := X 1 _ rfl
  have p2 : _ = some v2 := X 2 _ rfl
  have p3 : _ = some v3 := X 3 _ rfl
  have P1 := Sec.mk (box2 w (.cells #[.int .i64 x.kind, v1, v2, v3] 63) (.cells #[.int .i64 0, .slice none 0 0, .slice none 0 0, .slice none 0 0] 63)).2
  have Z0 : Sec (w.heap.size + 1 < ((w.alloc (.cells #[.int .i64 x.kind, v1, v2, v3] 63)).alloc (.cells #[.int .i64 0, .slice none 0 0, .slice none 0 0, .slice none 0 0] 63)).heap.size) := ⟨by simp⟩
  clear hK h1 h2 h3 X BB hok
  go_enter Tryz.func29, Tryz.ntmps29
  go_wp2
  generalize (w.alloc (.cells #[.int .i64 x.kind, v1, v2, v3] 63)).alloc (.cells #[.int .i64 0, .slice none 0 0, .slice none 0 0, .slice none 0 0] 63) = w0 at *
  refine wp_region_lists [[3], [4], [5], [6], [7], [8], [9], [10], [11], [12], [13], [14], [15], [16], [17], [], []]
    [fun val _ _ => val 3 = .pointer (some ⟨w.heap.size, 0, none⟩),
      fun val _ _ => val 4 = .int .i64 x.kind,
      onR kCell 5 [],
      fun val _ _ => val 6 = .pointer (some ⟨w.heap.size, 1, none⟩),
      fun val _ _ => val 7 = v1,
      onR kCell 8 x.a,
      onR kCell 9 [],
      fun val _ _ => val 10 = .pointer (some ⟨w.heap.size, 2, none⟩),
      fun val _ _ => val 11 = v2,
      onR kCell 12 x.b,
      onR kCell 13 [],
      fun val _ _ => val 14 = .pointer (some ⟨w.heap.size, 3, none⟩),
      fun val _ _ => val 15 = v3,
      onR kCell 16 x.c,
      onO kGoal 17 x,
      onAt kGoal (w.heap.size + 1) 63 x,
      onCells (w.heap.size + 1) #[.int .i64 0, .slice none 0 0, .slice none 0 0, .slice none 0 0] 63]
    [[], [], [], [], [], [2], [], [], [], [6], [], [], [], [10], [5, 9, 13], [14, 16], []] 1 (fun k => k = w.heap.size + 1) (fun i k => i = 16 ∧ k = w.heap.size + 1) (by kernel_rfl) ⟨by kernel_rfl, by kernel_rfl, by kernel_rfl, by kernel_rfl, by kernel_rfl⟩
    (.cons (stab_val 3 (fun v => v = .pointer (some ⟨w.heap.size, 0, none⟩))) (.cons (stab_val 4 (fun v => v = .int .i64 x.kind)) (.cons (stab_R kCell 5 []) (.cons (stab_val 6 (fun v => v = .pointer (some ⟨w.heap.size, 1, none⟩))) (.cons (stab_val 7 (fun v => v = v1)) (.cons (stab_R kCell 8 x.a) (.cons (stab_R kCell 9 []) (.cons (stab_val 10 (fun v => v = .pointer (some ⟨w.heap.size, 2, none⟩))) (.cons (stab_val 11 (fun v => v = v2)) (.cons (stab_R kCell 12 x.b) (.cons (stab_R kCell 13 []) (.cons (stab_val 14 (fun v => v = .pointer (some ⟨w.heap.size, 3, none⟩))) (.cons (stab_val 15 (fun v => v = v3)) (.cons (stab_R kCell 16 x.c) (.cons (stab_O kGoal 17 x) (.cons (stab_at kGoal (w.heap.size + 1) 63 x) (.cons (stab_cells (w.heap.size + 1) #[.int .i64 0, .slice none 0 0, .slice none 0 0, .slice none 0 0] 63) .nil)))))))))))))))))
    (fun i j k h1 h2 => h1.1.trans h2.1.symm) (fun i k h => ⟨by rw [h.1]; decide, h.2, by rw [h.2]; exact Z0.out⟩) (fun i h1 h2 => by (obtain rfl : i = 16 := (by simp at h1 h2; omega)); exact ⟨P1.out, rfl, rfl⟩) (.cons ?_ (.cons ?_ (.cons ?_ (.cons ?_ (.cons ?_ (.cons ?_ (.cons ?_ (.cons ?_ (.cons ?_ (.cons ?_ (.cons ?_ (.cons ?_ (.cons ?_ (.cons ?_ (.cons ?_ (.cons ?_ .nil)))))))))))))))) ?_
  · intro a W own hfor huse hap hmi hF K hK
    have e1 : a.eval (.tmp 1) = .pointer (some ⟨w.heap.size, 0, none⟩) := hfor 1 (by kernel_rfl)
    refine op_val (.pointer (some ⟨w.heap.size, 0, none⟩)) W rfl ?_ (hK _ _ (post_pure ?_))
    · clear hfor huse hap hmi hK hF
      generalize a.eval = ρ at *
      go_simp
    · exact (if_pos rfl)
  · intro a W own hfor huse hap hmi hF K hK
    have e3 : a.eval (.tmp 3) = .pointer (some ⟨w.heap.size, 0, none⟩) := huse 0 (by kernel_rfl)
    have c0 := foot_cell hF (by omega) p0
    refine op_val (.int .i64 x.kind) W rfl ?_ (hK _ _ (post_pure ?_))
    · clear hfor huse hap hmi hK hF
      generalize a.eval = ρ at *
      go_simp
    · exact (if_pos rfl)
  · intro a W own hfor huse hap hmi hF K hK
    refine op_val (.slice (some ⟨W.heap.size, 0, none⟩) 0 0) (W.alloc (.cells #[] kCell.ty)) rfl ?_ (hK _ _ (post_new (belA (Below.refl _ _) _) ?_))
    · clear hfor huse hap hmi hK hF
      generalize a.eval = ρ at *
      go_simp
      try rfl
    · show kCell.R _ _ (if _ then _ else _) []
      rw [if_pos rfl]
      exact Kd.R_mono (Kd.R_empty (w := W) kCell (Nat.le_refl _)) (fun k h1 h2 => ⟨h1, h2⟩)
  · intro a W own hfor huse hap hmi hF K hK
    have e1 : a.eval (.tmp 1) = .pointer (some ⟨w.heap.size, 0, none⟩) := hfor 1 (by kernel_rfl)
    refine op_val (.pointer (some ⟨w.heap.size, 1, none⟩)) W rfl ?_ (hK _ _ (post_pure ?_))
    · clear hfor huse hap hmi hK hF
      generalize a.eval = ρ at *
      go_simp
    · exact (if_pos rfl)
  · intro a W own hfor huse hap hmi hF K hK
    have e6 : a.eval (.tmp 6) = .pointer (some ⟨w.heap.size, 1, none⟩) := huse 3 (by kernel_rfl)
    have c1 := foot_cell hF (by omega) p1
    refine op_val (v1) W rfl ?_ (hK _ _ (post_pure ?_))
    · clear hfor huse hap hmi hK hF
      generalize a.eval = ρ at *
      go_simp
    · exact (if_pos rfl)
  · intro a W own hfor huse hap hmi hF K hK
    have e7 : a.eval (.tmp 7) = v1 := huse 4 (by kernel_rfl)
    have r0 : kCell.R W (own 2) (a.eval (.tmp 5)) [] := huse 2 (by kernel_rfl)
    have hV := foot_V hF (fun k h => by have := HB.out k h; omega) (V1.out) (by decide)
    refine step_cells rfl (.tmp 5) (.tmp 7) rfl rfl e7 r0 hV ?_ ?_ (fun v1 w1 hR hF1 => hK _ _ ⟨fun k => own 2 k ∨ (W.heap.size ≤ k ∧ k < w1.heap.size), Foot.mono hF1 (fun k h => ⟨2, by decide, h⟩), ?_, fun k h => Or.imp (fun h => ⟨2, by decide, h⟩) id h⟩)
    · exact fun k h1 h2 => by have h3 := (hmi 2 k h2).1; have h4 := HB.out k h1; have z0 := Z0.out; simp at h3; omega
    · have := L1.out; simpa using this
    · show kCell.R _ _ (if _ then _ else _) x.a
      rw [if_pos rfl]
      exact hR
  · intro a W own hfor huse hap hmi hF K hK
    refine op_val (.slice (some ⟨W.heap.size, 0, none⟩) 0 0) (W.alloc (.cells #[] kCell.ty)) rfl ?_ (hK _ _ (post_new (belA (Below.refl _ _) _) ?_))
    · clear hfor huse hap hmi hK hF
      generalize a.eval = ρ at *
      go_simp
      try rfl
    · show kCell.R _ _ (if _ then _ else _) []
      rw [if_pos rfl]
      exact Kd.R_mono (Kd.R_empty (w := W) kCell (Nat.le_refl _)) (fun k h1 h2 => ⟨h1, h2⟩)
  · intro a W own hfor huse hap hmi hF K hK
    have e1 : a.eval (.tmp 1) = .pointer (some ⟨w.heap.size, 0, none⟩) := hfor 1 (by kernel_rfl)
    refine op_val (.pointer (some ⟨w.heap.size, 2, none⟩)) W rfl ?_ (hK _ _ (post_pure ?_))
    · clear hfor huse hap hmi hK hF
      generalize a.eval = ρ at *
      go_simp
    · exact (if_pos rfl)
  · intro a W own hfor huse hap hmi hF K hK
    have e10 : a.eval (.tmp 10) = .pointer (some ⟨w.heap.size, 2, none⟩) := huse 7 (by kernel_rfl)
    have c2 := foot_cell hF (by omega) p2
    refine op_val (v2) W rfl ?_ (hK _ _ (post_pure ?_))
    · clear hfor huse hap hmi hK hF
      generalize a.eval = ρ at *
      go_simp
    · exact (if_pos rfl)
  · intro a W own hfor huse hap hmi hF K hK
    have e11 : a.eval (.tmp 11) = v2 := huse 8 (by kernel_rfl)
    have r0 : kCell.R W (own 6) (a.eval (.tmp 9)) [] := huse 6 (by kernel_rfl)
    have hV := foot_V hF (fun k h => by have := HB.out k h; omega) (V2.out) (by decide)
    refine step_cells rfl (.tmp 9) (.tmp 11) rfl rfl e11 r0 hV ?_ ?_ (fun v1 w1 hR hF1 => hK _ _ ⟨fun k => own 6 k ∨ (W.heap.size ≤ k ∧ k < w1.heap.size), Foot.mono hF1 (fun k h => ⟨6, by decide, h⟩), ?_, fun k h => Or.imp (fun h => ⟨6, by decide, h⟩) id h⟩)
    · exact fun k h1 h2 => by have h3 := (hmi 6 k h2).1; have h4 := HB.out k h1; have z0 := Z0.out; simp at h3; omega
    · have := L2.out; simpa using this
    · show kCell.R _ _ (if _ then _ else _) x.b
      rw [if_pos rfl]
      exact hR
  · intro a W own hfor huse hap hmi hF K hK
    refine op_val (.slice (some ⟨W.heap.size, 0, none⟩) 0 0) (W.alloc (.cells #[] kCell.ty)) rfl ?_ (hK _ _ (post_new (belA (Below.refl _ _) _) ?_))
    · clear hfor huse hap hmi hK hF
      generalize a.eval = ρ at *
      go_simp
      try rfl
    · show kCell.R _ _ (if _ then _ else _) []
      rw [if_pos rfl]
      exact Kd.R_mono (Kd.R_empty (w := W) kCell (Nat.le_refl _)) (fun k h1 h2 => ⟨h1, h2⟩)
  · intro a W own hfor huse hap hmi hF K hK
    have e1 : a.eval (.tmp 1) = .pointer (some ⟨w.heap.size, 0, none⟩) := hfor 1 (by kernel_rfl)
    refine op_val (.pointer (some ⟨w.heap.size, 3, none⟩)) W rfl ?_ (hK _ _ (post_pure ?_))
    · clear hfor huse hap hmi hK hF
      generalize a.eval = ρ at *
      go_simp
    · exact (if_pos rfl)
  · intro a W own hfor huse hap hmi hF K hK
    have e14 : a.eval (.tmp 14) = .pointer (some ⟨w.heap.size, 3, none⟩) := huse 11 (by kernel_rfl)
    have c3 := foot_cell hF (by omega) p3
    refine op_val (v3) W rfl ?_ (hK _ _ (post_pure ?_))
    · clear hfor huse hap hmi hK hF
      generalize a.eval = ρ at *
      go_simp
    · exact (if_pos rfl)
  · intro a W own hfor huse hap hmi hF K hK
    have e15 : a.eval (.tmp 15) = v3 := huse 12 (by kernel_rfl)
    have r0 : kCell.R W (own 10) (a.eval (.tmp 13)) [] := huse 10 (by kernel_rfl)
    have hV := foot_V hF (fun k h => by have := HB.out k h; omega) (V3.out) (by decide)
    refine step_cells rfl (.tmp 13) (.tmp 15) rfl rfl e15 r0 hV ?_ ?_ (fun v1 w1 hR hF1 => hK _ _ ⟨fun k => own 10 k ∨ (W.heap.size ≤ k ∧ k < w1.heap.size), Foot.mono hF1 (fun k h => ⟨10, by decide, h⟩), ?_, fun k h => Or.imp (fun h => ⟨10, by decide, h⟩) id h⟩)
    · exact fun k h1 h2 => by have h3 := (hmi 10 k h2).1; have h4 := HB.out k h1; have z0 := Z0.out; simp at h3; omega
    · have := L3.out; simpa using this
    · show kCell.R _ _ (if _ then _ else _) x.c
      rw [if_pos rfl]
      exact hR
  · intro a W own hfor huse hap hmi hF K hK
    have r0 : kCell.R W (own 5) (a.eval (.tmp 8)) x.a := huse 5 (by kernel_rfl)
    have r1 : kCell.R W (own 9) (a.eval (.tmp 12)) x.b := huse 9 (by kernel_rfl)
    have r2 : kCell.R W (own 13) (a.eval (.tmp 16)) x.c := huse 13 (by kernel_rfl)
    obtain ⟨A0, n0, e8, -, -⟩ := Kd.R_form r0
    obtain ⟨A1, n1, e12, -, -⟩ := Kd.R_form r1
    obtain ⟨A2, n2, e16, -, -⟩ := Kd.R_form r2
    rw [e8] at r0
    rw [e12] at r1
    rw [e16] at r2
    have e4 : a.eval (.tmp 4) = .int .i64 x.kind := huse 1 (by kernel_rfl)
    refine op_val (.agg #[.int .i64 x.kind, .slice A0 x.a.length n0, .slice A1 x.b.length n1, .slice A2 x.c.length n2]) W rfl ?_ (hK _ _ ⟨fun k => own 5 k ∨ own 9 k ∨ own 13 k, Foot.refl _ _, ?_, ?_⟩)
    · clear hfor huse hap hmi hK hF
      generalize a.eval = ρ at *
      go_simp
    · refine ⟨[.int .i64 x.kind, .slice A0 x.a.length n0, .slice A1 x.b.length n1, .slice A2 x.c.length n2], if_pos rfl, ?_⟩
      exact kGoal_O3 r0 r1 r2 (fun k h1 h2 => by have := hap 5 9 k h1 h2; omega) (fun k h1 h2 => by have := hap 5 13 k h1 h2; omega) (fun k h1 h2 => by have := hap 9 13 k h1 h2; omega)
    · intro k h
      left
      rcases h with h | h | h
      · exact ⟨5, by decide, h⟩
      · exact ⟨9, by decide, h⟩
      · exact ⟨13, by decide, h⟩
  · intro a W own hfor huse hap hmi hF K hK
    have e2 : a.eval (.tmp 2) = .pointer (some ⟨w.heap.size + 1, 0, none⟩) := hfor 2 (by kernel_rfl)
    obtain ⟨cs, e17, hO⟩ := (huse 14 (by kernel_rfl) : onO kGoal 17 x (slotsOf a) (own 14) W)
    have e17 : a.eval (.tmp 17) = .agg cs.toArray := e17
    obtain ⟨hb, hS⟩ := (huse 16 (by kernel_rfl) : onCells (w.heap.size + 1) #[.int .i64 0, .slice none 0 0, .slice none 0 0, .slice none 0 0] 63 (slotsOf a) (own 16) W)
    obtain ⟨y1, y2, y3, rfl, ⟨A1, c1, rfl, -⟩, ⟨A2, c2, rfl, -⟩, ⟨A3, c3, rfl, -⟩⟩ := kGoal_K (kGoal.O_K hO)
    have hn : ∀ k, own 14 k → k ≠ w.heap.size + 1 := fun k h e => by have := hap 14 16 k h (e ▸ hS); omega
    have q := box_at hb
    have q0 := q.2.1 0 _ rfl
    have q1 := q.2.1 1 _ rfl
    have q2 := q.2.1 2 _ rfl
    have q3 := q.2.1 3 _ rfl
    have f0 := q.2.2 0
    have f1 := q.2.2 1
    have f2 := q.2.2 2
    have f3 := q.2.2 3
    have F : Foot (fun k => k = w.heap.size + 1) W ((((W.setCell ⟨w.heap.size + 1, 0, none⟩ (.int .i64 x.kind)).setCell ⟨w.heap.size + 1, 1, none⟩ (.slice A1 x.a.length c1)).setCell ⟨w.heap.size + 1, 2, none⟩ (.slice A2 x.b.length c2)).setCell ⟨w.heap.size + 1, 3, none⟩ (.slice A3 x.c.length c3)) := Foot.set (Foot.set (Foot.set (Foot.set (Foot.refl (fun k => k = w.heap.size + 1) W) (.inl rfl) _ _) (.inl rfl) _ _) (.inl rfl) _ _) (.inl rfl) _ _
    have hb4 := box_store 3 (.slice A3 x.c.length c3) (box_store 2 (.slice A2 x.b.length c2) (box_store 1 (.slice A1 x.a.length c1) (box_store 0 (.int .i64 x.kind) hb)))
    refine op_skip ((((W.setCell ⟨w.heap.size + 1, 0, none⟩ (.int .i64 x.kind)).setCell ⟨w.heap.size + 1, 1, none⟩ (.slice A1 x.a.length c1)).setCell ⟨w.heap.size + 1, 2, none⟩ (.slice A2 x.b.length c2)).setCell ⟨w.heap.size + 1, 3, none⟩ (.slice A3 x.c.length c3)) rfl ?_ (hK _ _ ⟨fun k => own 14 k ∨ k = w.heap.size + 1, Foot.mono F (fun k e => ⟨16, by decide, by subst e; exact hS⟩), ?_, ?_⟩)
    · clear hfor huse hap hmi hK hF q
      generalize a.eval = ρ at *
      go_simp
    · refine ⟨_, by simpa using hb4, .inr rfl, ?_⟩
      exact kGoal.O_mono (F.O hO (fun k h1 h2 => hn k h1 h2)) (fun k h _ => ⟨.inl h, hn k h⟩)
    · intro k h
      left
      rcases h with h | rfl
      · exact ⟨14, by decide, h⟩
      · exact ⟨16, by decide, hS⟩

  intro a' W own hf
  have hsz := hf.st.size
  have hdf := hf.st.rest
  obtain ⟨⟨l⟩, df⟩ := a'
  have hl0 : l.length = 18 := hsz
  clear hsz
  obtain rfl : df = [] := hdf
  obtain ⟨x0, l0, rfl, hl1⟩ := lst_cons hl0
  clear hl0
  obtain ⟨x1, l1, rfl, hl2⟩ := lst_cons hl1
  clear hl1
  obtain ⟨x2, l2, rfl, hl3⟩ := lst_cons hl2
  clear hl2
  obtain ⟨x3, l3, rfl, hl4⟩ := lst_cons hl3
  clear hl3
  obtain ⟨x4, l4, rfl, hl5⟩ := lst_cons hl4
  clear hl4
  obtain ⟨x5, l5, rfl, hl6⟩ := lst_cons hl5
  clear hl5
  obtain ⟨x6, l6, rfl, hl7⟩ := lst_cons hl6
  clear hl6
  obtain ⟨x7, l7, rfl, hl8⟩ := lst_cons hl7
  clear hl7
  obtain ⟨x8, l8, rfl, hl9⟩ := lst_cons hl8
  clear hl8
  obtain ⟨x9, l9, rfl, hl10⟩ := lst_cons hl9
  clear hl9
  obtain ⟨x10, l10, rfl, hl11⟩ := lst_cons hl10
  clear hl10
  obtain ⟨x11, l11, rfl, hl12⟩ := lst_cons hl11
  clear hl11
  obtain ⟨x12, l12, rfl, hl13⟩ := lst_cons hl12
  clear hl12
  obtain ⟨x13, l13, rfl, hl14⟩ := lst_cons hl13
  clear hl13
  obtain ⟨x14, l14, rfl, hl15⟩ := lst_cons hl14
  clear hl14
  obtain ⟨x15, l15, rfl, hl16⟩ := lst_cons hl15
  clear hl15
  obtain ⟨x16, l16, rfl, hl17⟩ := lst_cons hl16
  clear hl16
  obtain ⟨x17, l17, rfl, hl18⟩ := lst_cons hl17
  clear hl17
  obtain rfl := List.eq_nil_of_length_eq_zero hl18
  have e2 : x2 = .pointer (some ⟨w.heap.size + 1, 0, none⟩) := hf.st.kept 2 (by kernel_rfl)
  subst e2
  obtain ⟨cs, hb, hS, hO⟩ := (hf.get 15 (by kernel_rfl) : onAt kGoal (w.heap.size + 1) 63 x _ (own 15) W)
  obtain ⟨y1, y2, y3, rfl, ⟨A1, c1, rfl, -⟩, ⟨A2, c2, rfl, -⟩, ⟨A3, c3, rfl, -⟩⟩ := kGoal_K (kGoal.O_K hO)
  have q := box_at hb
  have q0 := q.2.1 0 _ rfl
  have q1 := q.2.1 1 _ rfl
  have q2 := q.2.1 2 _ rfl
  have q3 := q.2.1 3 _ rfl
  have HO := Sec.mk hO
  have HF := Sec.mk (hf.st.foot)
  have HM := Sec.mk (hf.st.mine)
  clear hf q hb hO hS
  go_wp2
  refine bodyPost_ret (v := .agg #[.int .i64 x.kind, .slice A1 x.a.length c1, .slice A2 x.b.length c2, .slice A3 x.c.length c3]) (by simp [results, Tryz.results29, go_sem, q0, q1, q2, q3]) rfl ⟨[.int .i64 x.kind, .slice A1 x.a.length c1, .slice A2 x.b.length c2, .slice A3 x.c.length c3], rfl, ?_, ?_⟩
  · exact kGoal.O_mono HO.out (fun k h _ => by
      have h1 := (HM.out 15 k h.1).1
      have z := B0.out.size
      rcases h1 with h1 | h1
      · exact Nat.le_trans z h1
      · have h2 : k = w.heap.size + 1 := h1
        omega)
  · exact HF.out.below (belD B0.out) (fun k h => by have h1 : k = w.heap.size + 1 := h; omega)
end Go.Proofs.YtenigopoknajgaaGreatDoor
