/- Contracts: goals and bindings that are copied, by the reference. -/
import Derived.Test.YtggchcljkehefaaInvCell
import Derived.Test.YtggchcljkehefaaCopy2
namespace Go.Proofs.Ytggchcljkehefaa
open Go.RowKit
set_option linter.unusedVariables false
set_option maxRecDepth 100000
theorem kGoal_O3 {w : World} {S1 S2 S3 : Nat → Prop} {x : Goal} {v1 v2 v3 : Value} (h1 : kCell.R w S1 v1 x.a) (h2 : kCell.R w S2 v2 x.b) (h3 : kCell.R w S3 v3 x.c) (d1 : ∀ k, S1 k → ¬ S2 k) (d2 : ∀ k, S1 k → ¬ S3 k) (d3 : ∀ k, S2 k → ¬ S3 k) :
    kGoal.O w (fun k => S1 k ∨ S2 k ∨ S3 k) x [.int .i64 x.kind, v1, v2, v3] :=
  ⟨fun _ => False, fun k => S1 k ∨ S2 k ∨ S3 k, [.int .i64 x.kind], [v1, v2, v3], rfl, fun k h => h.elim, fun k h => h, ⟨rfl, trivial⟩,
    S1, fun k => S2 k ∨ S3 k, [v1], [v2, v3], rfl, fun k h => ⟨.inl h, fun e => e.elim (d1 k h) (d2 k h)⟩, fun k h => .inr h, ⟨v1, rfl, h1⟩,
    S2, S3, [v2], [v3], rfl, fun k h => ⟨.inl h, d3 k h⟩, fun k h => .inr h, ⟨v2, rfl, h2⟩, ⟨v3, rfl, h3⟩⟩
set_option maxHeartbeats 1000000 in
theorem l3Goal_c (x : Goal) (cs : List Value) (ok : Nat → Prop) (w : World) (hK : kGoal.K w ok x cs) (hok : ∀ k, ok k → k < w.heap.size) :
    Calls Try.prog 63 #[.agg cs.toArray] w fun e w' => ∃ c : List Value, e = .returned (.agg c.toArray) ∧ kGoal.O w' (fun k => w.heap.size ≤ k) x c ∧ Below w.heap.size w w' := by
  obtain ⟨v1, v2, v3, rfl, h1, h2, h3⟩ := kGoal_K hK
  have L1 : Sec (x.a.length ≤ 1073741824) := ⟨by obtain ⟨_, _, _, _, _, h, _⟩ := h1; exact h⟩
  have L2 : Sec (x.b.length ≤ 1073741824) := ⟨by obtain ⟨_, _, _, _, _, h, _⟩ := h2; exact h⟩
  have L3 : Sec (x.c.length ≤ 1073741824) := ⟨by obtain ⟨_, _, _, _, _, h, _⟩ := h3; exact h⟩
  have HB := Sec.mk hok
  have hu := Try.underlying94
  have BB := belA (belA (Below.refl w.heap.size w) (.cells #[.int .i64 x.kind, v1, v2, v3] 94)) (.cells #[.int .i64 0, .slice none 0 0, .slice none 0 0, .slice none 0 0] 94)
  have V1 := Sec.mk (Kd.V_below h1 BB (by decide))
  have V2 := Sec.mk (Kd.V_below h2 BB (by decide))
  have V3 := Sec.mk (Kd.V_below h3 BB (by decide))
  have B0 := Sec.mk BB
  have X := (box_at (box2 w (.cells #[.int .i64 x.kind, v1, v2, v3] 94) (.cells #[.int .i64 0, .slice none 0 0, .slice none 0 0, .slice none 0 0] 94)).1).2.1
  have p0 : _ = some (Value.int .i64 x.kind) := X 0 _ rfl
  have p1 : _ = some v1 := X 1 _ rfl
  have p2 : _ = some v2 := X 2 _ rfl
  have p3 : _ = some v3 := X 3 _ rfl
  have P1 := Sec.mk (box2 w (.cells #[.int .i64 x.kind, v1, v2, v3] 94) (.cells #[.int .i64 0, .slice none 0 0, .slice none 0 0, .slice none 0 0] 94)).2
  have Z0 : Sec (w.heap.size + 1 < ((w.alloc (.cells #[.int .i64 x.kind, v1, v2, v3] 94)).alloc (.cells #[.int .i64 0, .slice none 0 0, .slice none 0 0, .slice none 0 0] 94)).heap.size) := ⟨by simp⟩
  clear hK h1 h2 h3 X BB hok
  go_enter Try.func63, Try.ntmps63
  go_wp2
  generalize (w.alloc (.cells #[.int .i64 x.kind, v1, v2, v3] 94)).alloc (.cells #[.int .i64 0, .slice none 0 0, .slice none 0 0, .slice none 0 0] 94) = w0 at *
  refine wp_region_lists [[3], [4], [5], [6], [7], [8], [9], [10], [11], [12], [13], [14], [15], [16], [17], [], []]
    [fun val _ _ => val 3 = .pointer (some ⟨w.heap.size, 0, none⟩),
      fun val _ _ => val 4 = .int .i64 x.kind,
      onR kCell 5 [],
      fun val _ _ => val 6 = .pointer (some ⟨w.heap.size, 1, none⟩),
      fun val _ _ => val 7 = v1,
      onR kCell 8 x.a,
      onR kCell 9 [],
      fun val _ _ => val 10 = .pointer (some ⟨w.heap.size, 2, none⟩),
      fun val _ _ => val 11 = v2,
      onR kCell 12 x.b,
      onR kCell 13 [],
      fun val _ _ => val 14 = .pointer (some ⟨w.heap.size, 3, none⟩),
      fun val _ _ => val 15 = v3,
      onR kCell 16 x.c,
      onO kGoal 17 x,
      onAt kGoal (w.heap.size + 1) 94 x,
      onCells (w.heap.size + 1) #[.int .i64 0, .slice none 0 0, .slice none 0 0, .slice none 0 0] 94]
    [[], [], [], [], [], [2], [], [], [], [6], [], [], [], [10], [5, 9, 13], [14, 16], []] 1 (fun k => k = w.heap.size + 1) (fun i k => i = 16 ∧ k = w.heap.size + 1) (by kernel_rfl) ⟨by kernel_rfl, by kernel_rfl, by kernel_rfl, by kernel_rfl, by kernel_rfl⟩
    (.cons (stab_val 3 (fun v => v = .pointer (some ⟨w.heap.size, 0, none⟩))) (.cons (stab_val 4 (fun v => v = .int .i64 x.kind)) (.cons (stab_R kCell 5 []) (.cons (stab_val 6 (fun v => v = .pointer (some ⟨w.heap.size, 1, none⟩))) (.cons (stab_val 7 (fun v => v = v1)) (.cons (stab_R kCell 8 x.a) (.cons (stab_R kCell 9 []) (.cons (stab_val 10 (fun v => v = .pointer (some ⟨w.heap.size, 2, none⟩))) (.cons (stab_val 11 (fun v => v = v2)) (.cons (stab_R kCell 12 x.b) (.cons (stab_R kCell 13 []) (.cons (stab_val 14 (fun v => v = .pointer (some ⟨w.heap.size, 3, none⟩))) (.cons (stab_val 15 (fun v => v = v3)) (.cons (stab_R kCell 16 x.c) (.cons (stab_O kGoal 17 x) (.cons (stab_at kGoal (w.heap.size + 1) 94 x) (.cons (stab_cells (w.heap.size + 1) #[.int .i64 0, .slice none 0 0, .slice none 0 0, .slice none 0 0] 94) .nil)))))))))))))))))
    (fun i j k h1 h2 => h1.1.trans h2.1.symm) (fun i k h => ⟨by rw [h.1]; decide, h.2, by rw [h.2]; exact Z0.out⟩) (fun i h1 h2 => by (obtain rfl : i = 16 := (by simp at h1 h2; omega)); exact ⟨P1.out, rfl, rfl⟩) (.cons ?_ (.cons ?_ (.cons ?_ (.cons ?_ (.cons ?_ (.cons ?_ (.cons ?_ (.cons ?_ (.cons ?_ (.cons ?_ (.cons ?_ (.cons ?_ (.cons ?_ (.cons ?_ (.cons ?_ (.cons ?_ .nil)))))))))))))))) ?_
  · intro a W own hfor huse hap hmi hF K hK
    have e1 : a.eval (.tmp 1) = .pointer (some ⟨w.heap.size, 0, none⟩) := hfor 1 (by kernel_rfl)
    refine op_val (.pointer (some ⟨w.heap.size, 0, none⟩)) W rfl ?_ (hK _ _ (post_pure ?_))
    · clear hfor huse hap hmi hK hF
      generalize a.eval = ρ at *
      go_simp
    · exact (if_pos rfl)
  · intro a W own hfor huse hap hmi hF K hK
    have e3 : a.eval (.tmp 3) = .pointer (some ⟨w.heap.size, 0, none⟩) := huse 0 (by kernel_rfl)
    have c0 := foot_cell hF (by omega) p0
    refine op_val (.int .i64 x.kind) W rfl ?_ (hK _ _ (post_pure ?_))
    · clear hfor huse hap hmi hK hF
      generalize a.eval = ρ at *
      go_simp
    · exact (if_pos rfl)
  · intro a W own hfor huse hap hmi hF K hK
    refine op_val (.slice (some ⟨W.heap.size, 0, none⟩) 0 0) (W.alloc (.cells #[] kCell.ty)) rfl ?_ (hK _ _ (post_new (belA (Below.refl _ _) _) ?_))
    · clear hfor huse hap hmi hK hF
      generalize a.eval = ρ at *
      go_simp
      try rfl
    · show kCell.R _ _ (if _ then _ else _) []
      rw [if_pos rfl]
      exact Kd.R_mono (Kd.R_empty (w := W) kCell (Nat.le_refl _)) (fun k h1 h2 => ⟨h1, h2⟩)
  · intro a W own hfor huse hap hmi hF K hK
    have e1 : a.eval (.tmp 1) = .pointer (some ⟨w.heap.size, 0, none⟩) := hfor 1 (by kernel_rfl)
    refine op_val (.pointer (some ⟨w.heap.size, 1, none⟩)) W rfl ?_ (hK _ _ (post_pure ?_))
    · clear hfor huse hap hmi hK hF
      generalize a.eval = ρ at *
      go_simp
    · exact (if_pos rfl)
  · intro a W own hfor huse hap hmi hF K hK
    have e6 : a.eval (.tmp 6) = .pointer (some ⟨w.heap.size, 1, none⟩) := huse 3 (by kernel_rfl)
    have c1 := foot_cell hF (by omega) p1
    refine op_val (v1) W rfl ?_ (hK _ _ (post_pure ?_))
    · clear hfor huse hap hmi hK hF
      generalize a.eval = ρ at *
      go_simp
    · exact (if_pos rfl)
  · intro a W own hfor huse hap hmi hF K hK
    have e7 : a.eval (.tmp 7) = v1 := huse 4 (by kernel_rfl)
    have r0 : kCell.R W (own 2) (a.eval (.tmp 5)) [] := huse 2 (by kernel_rfl)
    have hV := foot_V hF (fun k h => by have := HB.out k h; omega) (V1.out) (by decide)
    refine step_cells rfl (.tmp 5) (.tmp 7) rfl rfl e7 r0 hV ?_ ?_ (fun v1 w1 hR hF1 => hK _ _ ⟨fun k => own 2 k ∨ (W.heap.size ≤ k ∧ k < w1.heap.size), Foot.mono hF1 (fun k h => ⟨2, by decide, h⟩), ?_, fun k h => Or.imp (fun h => ⟨2, by decide, h⟩) id h⟩)
    · exact fun k h1 h2 => by have h3 := (hmi 2 k h2).1; have h4 := HB.out k h1; have z0 := Z0.out; simp at h3; omega
    · have := L1.out; simpa using this
    · show kCell.R _ _ (if _ then _ else _) x.a
      rw [if_pos rfl]
      exact hR
  · intro a W own hfor huse hap hmi hF K hK
    refine op_val (.slice (some ⟨W.heap.size, 0, none⟩) 0 0) (W.alloc (.cells #[] kCell.ty)) rfl ?_ (hK _ _ (post_new (belA (Below.refl _ _) _) ?_))
    · clear hfor huse hap hmi hK hF
      generalize a.eval = ρ at *
      go_simp
      try rfl
    · show kCell.R _ _ (if _ then _ else _) []
      rw [if_pos rfl]
      exact Kd.R_mono (Kd.R_empty (w := W) kCell (Nat.le_refl _)) (fun k h1 h2 => ⟨h1, h2⟩)
  · intro a W own hfor huse hap hmi hF K hK
    have e1 : a.eval (.tmp 1) = .pointer (some ⟨w.heap.size, 0, none⟩) := hfor 1 (by kernel_rfl)
    refine op_val (.pointer (some ⟨w.heap.size, 2, none⟩)) W rfl ?_ (hK _ _ (post_pure ?_))
    · clear hfor huse hap hmi hK hF
      generalize a.eval = ρ at *
      go_simp
    · exact (if_pos rfl)
  · intro a W own hfor huse hap hmi hF K hK
    have e10 : a.eval (.tmp 10) = .pointer (some ⟨w.heap.size, 2, none⟩) := huse 7 (by kernel_rfl)
    have c2 := foot_cell hF (by omega) p2
    refine op_val (v2) W rfl ?_ (hK _ _ (post_pure ?_))
    · clear hfor huse hap hmi hK hF
      generalize a.eval = ρ at *
      go_simp
    · exact (if_pos rfl)
  · intro a W own hfor huse hap hmi hF K hK
    have e11 : a.eval (.tmp 11) = v2 := huse 8 (by kernel_rfl)
    have r0 : kCell.R W (own 6) (a.eval (.tmp 9)) [] := huse 6 (by kernel_rfl)
    have hV := foot_V hF (fun k h => by have := HB.out k h; omega) (V2.out) (by decide)
    refine step_cells rfl (.tmp 9) (.tmp 11) rfl rfl e11 r0 hV ?_ ?_ (fun v1 w1 hR hF1 => hK _ _ ⟨fun k => own 6 k ∨ (W.heap.size ≤ k ∧ k < w1.heap.size), Foot.mono hF1 (fun k h => ⟨6, by decide, h⟩), ?_, fun k h => Or.imp (fun h => ⟨6, by decide, h⟩) id h⟩)
    · exact fun k h1 h2 => by have h3 := (hmi 6 k h2).1; have h4 := HB.out k h1; have z0 := Z0.out; simp at h3; omega
    · have := L2.out; simpa using this
    · show kCell.R _ _ (if _ then _ else _) x.b
      rw [if_pos rfl]
      exact hR
  · intro a W own hfor huse hap hmi hF K hK
    refine op_val (.slice (some ⟨W.heap.size, 0, none⟩) 0 0) (W.alloc (.cells #[] kCell.ty)) rfl ?_ (hK _ _ (post_new (belA (Below.refl _ _) _) ?_))
    · clear hfor huse hap hmi hK hF
      generalize a.eval = ρ at *
      go_simp
      try rfl
    · show kCell.R _ _ (if _ then _ else _) []
      rw [if_pos rfl]
      exact Kd.R_mono (Kd.R_empty (w := W) kCell (Nat.le_refl _)) (fun k h1 h2 => ⟨h1, h2⟩)
  · intro a W own hfor huse hap hmi hF K hK
    have e1 : a.eval (.tmp 1) = .pointer (some ⟨w.heap.size, 0, none⟩) := hfor 1 (by kernel_rfl)
    refine op_val (.pointer (some ⟨w.heap.size, 3, none⟩)) W rfl ?_ (hK _ _ (post_pure ?_))
    · clear hfor huse hap hmi hK hF
      generalize a.eval = ρ at *
      go_simp
    · exact (if_pos rfl)
  · intro a W own hfor huse hap hmi hF K hK
    have e14 : a.eval (.tmp 14) = .pointer (some ⟨w.heap.size, 3, none⟩) := huse 11 (by kernel_rfl)
    have c3 := foot_cell hF (by omega) p3
    refine op_val (v3) W rfl ?_ (hK _ _ (post_pure ?_))
    · clear hfor huse hap hmi hK hF
      generalize a.eval = ρ at *
      go_simp
    · exact (if_pos rfl)
  · intro a W own hfor huse hap hmi hF K hK
    have e15 : a.eval (.tmp 15) = v3 := huse 12 (by kernel_rfl)
    have r0 : kCell.R W (own 10) (a.eval (.tmp 13)) [] := huse 10 (by kernel_rfl)
    have hV := foot_V hF (fun k h => by have := HB.out k h; omega) (V3.out) (by decide)
    refine step_cells rfl (.tmp 13) (.tmp 15) rfl rfl e15 r0 hV ?_ ?_ (fun v1 w1 hR hF1 => hK _ _ ⟨fun k => own 10 k ∨ (W.heap.size ≤ k ∧ k < w1.heap.size), Foot.mono hF1 (fun k h => ⟨10, by decide, h⟩), ?_, fun k h => Or.imp (fun h => ⟨10, by decide, h⟩) id h⟩)
    · exact fun k h1 h2 => by have h3 := (hmi 10 k h2).1; have h4 := HB.out k h1; have z0 := Z0.out; simp at h3; omega
    · have := L3.out; simpa using this
    · show kCell.R _ _ (if _ then _ else _) x.c
      rw [if_pos rfl]
      exact hR
  · intro a W own hfor huse hap hmi hF K hK
    have r0 : kCell.R W (own 5) (a.eval (.tmp 8)) x.a := huse 5 (by kernel_rfl)
    have r1 : kCell.R W (own 9) (a.eval (.tmp 12)) x.b := huse 9 (by kernel_rfl)
    have r2 : kCell.R W (own 13) (a.eval (.tmp 16)) x.c := huse 13 (by kernel_rfl)
    obtain ⟨A0, n0, e8, -, -⟩ := Kd.R_form r0
    obtain ⟨A1, n1, e12, -, -⟩ := Kd.R_form r1
    obtain ⟨A2, n2, e16, -, -⟩ := Kd.R_form r2
    rw [e8] at r0
    rw [e12] at r1
    rw [e16] at r2
    have e4 : a.eval (.tmp 4) = .int .i64 x.kind := huse 1 (by kernel_rfl)
    refine op_val (.agg #[.int .i64 x.kind, .slice A0 x.a.length n0, .slice A1 x.b.length n1, .slice A2 x.c.length n2]) W rfl ?_ (hK _ _ ⟨fun k => own 5 k ∨ own 9 k ∨ own 13 k, Foot.refl _ _, ?_, ?_⟩)
    · clear hfor huse hap hmi hK hF
      generalize a.eval = ρ at *
      go_simp
    · refine ⟨[.int .i64 x.kind, .slice A0 x.a.length n0, .slice A1 x.b.length n1, .slice A2 x.c.length n2], if_pos rfl, ?_⟩
      exact kGoal_O3 r0 r1 r2 (fun k h1 h2 => by have := hap 5 9 k h1 h2; omega) (fun k h1 h2 => by have := hap 5 13 k h1 h2; omega) (fun k h1 h2 => by have := hap 9 13 k h1 h2; omega)
    · intro k h
      left
      rcases h with h | h | h
      · exact ⟨5, by decide, h⟩
      · exact ⟨9, by decide, h⟩
      · exact ⟨13, by decide, h⟩
  · intro a W own hfor huse hap hmi hF K hK
    have e2 : a.eval (.tmp 2) = .pointer (some ⟨w.heap.size + 1, 0, none⟩) := hfor 2 (by kernel_rfl)
    obtain ⟨cs, e17, hO⟩ := (huse 14 (by kernel_rfl) : onO kGoal 17 x (slotsOf a) (own 14) W)
    have e17 : a.eval (.tmp 17) = .agg cs.toArray := e17
    obtain ⟨hb, hS⟩ := (huse 16 (by kernel_rfl) : onCells (w.heap.size + 1) #[.int .i64 0, .slice none 0 0, .slice none 0 0, .slice none 0 0] 94 (slotsOf a) (own 16) W)
    obtain ⟨y1, y2, y3, rfl, ⟨A1, c1, rfl, -⟩, ⟨A2, c2, rfl, -⟩, ⟨A3, c3, rfl, -⟩⟩ := kGoal_K (kGoal.O_K hO)
    have hn : ∀ k, own 14 k → k ≠ w.heap.size + 1 := fun k h e => by have := hap 14 16 k h (e ▸ hS); omega
    have q := box_at hb
    have q0 := q.2.1 0 _ rfl
    have q1 := q.2.1 1 _ rfl
    have q2 := q.2.1 2 _ rfl
    have q3 := q.2.1 3 _ rfl
    have f0 := q.2.2 0
    have f1 := q.2.2 1
    have f2 := q.2.2 2
    have f3 := q.2.2 3
    have F : Foot (fun k => k = w.heap.size + 1) W ((((W.setCell ⟨w.heap.size + 1, 0, none⟩ (.int .i64 x.kind)).setCell ⟨w.heap.size + 1, 1, none⟩ (.slice A1 x.a.length c1)).setCell ⟨w.heap.size + 1, 2, none⟩ (.slice A2 x.b.length c2)).setCell ⟨w.heap.size + 1, 3, none⟩ (.slice A3 x.c.length c3)) := Foot.set (Foot.set (Foot.set (Foot.set (Foot.refl (fun k => k = w.heap.size + 1) W) (.inl rfl) _ _) (.inl rfl) _ _) (.inl rfl) _ _) (.inl rfl) _ _
    have hb4 := box_store 3 (.slice A3 x.c.length c3) (box_store 2 (.slice A2 x.b.length c2) (box_store 1 (.slice A1 x.a.length c1) (box_store 0 (.int .i64 x.kind) hb)))
    refine op_skip ((((W.setCell ⟨w.heap.size + 1, 0, none⟩ (.int .i64 x.kind)).setCell ⟨w.heap.size + 1, 1, none⟩ (.slice A1 x.a.length c1)).setCell ⟨w.heap.size + 1, 2, none⟩ (.slice A2 x.b.length c2)).setCell ⟨w.heap.size + 1, 3, none⟩ (.slice A3 x.c.length c3)) rfl ?_ (hK _ _ ⟨fun k => own 14 k ∨ k = w.heap.size + 1, Foot.mono F (fun k e => ⟨16, by decide, by subst e; exact hS⟩), ?_, ?_⟩)
    · clear hfor huse hap hmi hK hF q
      generalize a.eval = ρ at *
      go_simp
    · refine ⟨_, by simpa using hb4, .inr rfl, ?_⟩
      exact kGoal.O_mono (F.O hO (fun k h1 h2 => hn k h1 h2)) (fun k h _ => ⟨.inl h, hn k h⟩)
    · intro k h
      left
      rcases h with h | rfl
      · exact ⟨14, by decide, h⟩
      · exact ⟨16, by decide, hS⟩

  intro a' W own hf
  have hsz := hf.st.size
  have hdf := hf.st.rest
  obtain ⟨⟨l⟩, df⟩ := a'
  have hl0 : l.length = 18 := hsz
  clear hsz
  obtain rfl : df = [] := hdf
  obtain ⟨x0, l0, rfl, hl1⟩ := lst_cons hl0
  clear hl0
  obtain ⟨x1, l1, rfl, hl2⟩ := lst_cons hl1
  clear hl1
  obtain ⟨x2, l2, rfl, hl3⟩ := lst_cons hl2
  clear hl2
  obtain ⟨x3, l3, rfl, hl4⟩ := lst_cons hl3
  clear hl3
  obtain ⟨x4, l4, rfl, hl5⟩ := lst_cons hl4
  clear hl4
  obtain ⟨x5, l5, rfl, hl6⟩ := lst_cons hl5
  clear hl5
  obtain ⟨x6, l6, rfl, hl7⟩ := lst_cons hl6
  clear hl6
  obtain ⟨x7, l7, rfl, hl8⟩ := lst_cons hl7
  clear hl7
  obtain ⟨x8, l8, rfl, hl9⟩ := lst_cons hl8
  clear hl8
  obtain ⟨x9, l9, rfl, hl10⟩ := lst_cons hl9
  clear hl9
  obtain ⟨x10, l10, rfl, hl11⟩ := lst_cons hl10
  clear hl10
  obtain ⟨x11, l11, rfl, hl12⟩ := lst_cons hl11
  clear hl11
  obtain ⟨x12, l12, rfl, hl13⟩ := lst_cons hl12
  clear hl12
  obtain ⟨x13, l13, rfl, hl14⟩ := lst_cons hl13
  clear hl13
  obtain ⟨x14, l14, rfl, hl15⟩ := lst_cons hl14
  clear hl14
  obtain ⟨x15, l15, rfl, hl16⟩ := lst_cons hl15
  clear hl15
  obtain ⟨x16, l16, rfl, hl17⟩ := lst_cons hl16
  clear hl16
  obtain ⟨x17, l17, rfl, hl18⟩ := lst_cons hl17
  clear hl17
  obtain rfl := List.eq_nil_of_length_eq_zero hl18
  have e2 : x2 = .pointer (some ⟨w.heap.size + 1, 0, none⟩) := hf.st.kept 2 (by kernel_rfl)
  subst e2
  obtain ⟨cs, hb, hS, hO⟩ := (hf.get 15 (by kernel_rfl) : onAt kGoal (w.heap.size + 1) 94 x _ (own 15) W)
  obtain ⟨y1, y2, y3, rfl, ⟨A1, c1, rfl, -⟩, ⟨A2, c2, rfl, -⟩, ⟨A3, c3, rfl, -⟩⟩ := kGoal_K (kGoal.O_K hO)
  have q := box_at hb
  have q0 := q.2.1 0 _ rfl
  have q1 := q.2.1 1 _ rfl
  have q2 := q.2.1 2 _ rfl
  have q3 := q.2.1 3 _ rfl
  have HO := Sec.mk hO
  have HF := Sec.mk (hf.st.foot)
  have HM := Sec.mk (hf.st.mine)
  clear hf q hb hO hS
  go_wp2
  refine bodyPost_ret (v := .agg #[.int .i64 x.kind, .slice A1 x.a.length c1, .slice A2 x.b.length c2, .slice A3 x.c.length c3]) (by simp [results, Try.results63, go_sem, q0, q1, q2, q3]) rfl ⟨[.int .i64 x.kind, .slice A1 x.a.length c1, .slice A2 x.b.length c2, .slice A3 x.c.length c3], rfl, ?_, ?_⟩
  · exact kGoal.O_mono HO.out (fun k h _ => by
      have h1 := (HM.out 15 k h.1).1
      have z := B0.out.size
      rcases h1 with h1 | h1
      · exact Nat.le_trans z h1
      · have h2 : k = w.heap.size + 1 := h1
        omega)
  · exact HF.out.below (belD B0.out) (fun k h => by have h1 : k = w.heap.size + 1 := h; omega)
theorem get_app {α : Type} {l m : List α} {j : Nat} {u : α} (h : l[j]? = some u) : (l ++ m)[j]? = some u := by
  rw [List.getElem?_append_left (List.getElem?_eq_some_iff.1 h).1]; exact h
theorem kSGoal_of {w : World} {S : Nat → Prop} {x : SGoal} {cs : List Value} (h : kGoal.O w S x.goal cs) : kSGoal.O w S x (cs ++ [.int .i64 x.cut]) :=
  ⟨S, fun _ => False, cs, [.int .i64 x.cut], rfl, fun k h => ⟨h, id⟩, fun k h => h.elim, h, ⟨rfl, trivial⟩⟩
set_option maxHeartbeats 2000000 in
theorem l4Goals_c (v : Value) (t : List SGoal) (ok : Nat → Prop) (w : World) (hV : kSGoal.V w ok v t) (hok : ∀ k, ok k → k < w.heap.size) :
    Calls Try.prog 37 #[v] w fun e w' => ∃ u, e = .returned u ∧ kSGoal.R w' (fun k => w.heap.size ≤ k) u t ∧ Below w.heap.size w w' := by
  obtain ⟨A, c, rfl, h1, h2, h3, hC, hz⟩ := hV
  have HC := Sec.mk hC
  have HB := Sec.mk hok
  clear hC hz hok
  have hu := Try.underlying96
  have hu2 := Try.underlying94
  go_enter Try.func37, Try.ntmps37
  go_wp2
  go_loopw [3, 4] (fun ov iv wr => ∃ k : Nat, k ≤ t.length ∧ iv = .int .i64 k ∧ Sec (kSGoal.R wr (fun k => w.heap.size ≤ k) ov (t.take k)) ∧ Sec (Below w.heap.size w wr)) (fun _ iv _ => t.length - (intOf iv).toNat)
  case atStart => exact ⟨0, Nat.zero_le _, rfl, ⟨by rw [List.take_zero]; exact Kd.R_empty kSGoal (w := w) (W := w) (Nat.le_refl _)⟩, ⟨belA (Below.refl _ _) _⟩⟩
  case round =>
    obtain ⟨k, hk, rfl, hR, hb⟩ := hrel
    by_cases hlt : k < t.length
    · obtain ⟨b, off, cs, rfl, hob, hK, hc⟩ := Kd.C_get (Kd.C_below HC.out hb.out (by decide)) (List.getElem?_eq_getElem hlt)
      have hT : Sec (t.take (k + 1) = t.take k ++ [t[k]]) := ⟨List.take_succ_eq_append_getElem hlt⟩
      have hL : Sec ((t.take k).length + 1 ≤ 1073741824) := ⟨by rw [List.length_take]; omega⟩
      obtain ⟨A9, c9, hv9, -⟩ := Kd.R_form hR.out
      subst hv9
      generalize t[k] = x at *
      generalize t.take k = tk at *
      have HK := Sec.mk hK
      have i0 : (0 : Int) ≤ (k : Int) := by omega
      have i1 : (k : Int) < (t.length : Int) := by omega
      have hzb := hb.out.size
      have hbl := HB.out b hob
      obtain ⟨va, vb, vc, rfl, hva, hvb, hvc⟩ := kSGoal_K hK
      have HKg : Sec (kGoal.K wr ok x.goal [.int .i64 x.goal.kind, va, vb, vc]) := ⟨⟨[.int .i64 x.goal.kind], [va, vb, vc], rfl, ⟨rfl, trivial⟩, [va], [vb, vc], rfl, ⟨va, rfl, hva⟩, [vb], [vc], rfl, ⟨vb, rfl, hvb⟩, ⟨vc, rfl, hvc⟩⟩⟩
      have hcc : Sec (∀ j u, ([.int .i64 x.goal.kind, va, vb, vc, .int .i64 x.cut] : List Value)[j]? = some u → wr.cell? ⟨b, off + k * 5 + j, none⟩ = some u) := ⟨fun j u h => by have := hc j u h; rwa [← Nat.add_assoc] at this⟩
      have cc4 : Sec (wr.cell? ⟨b, off + k * 5 + 4, none⟩ = some (.int .i64 x.cut)) := ⟨hcc.out 4 _ rfl⟩
      clear hK hc hva hvb hvc
      have HR : Sec (kSGoal.R wr (fun k => w.heap.size ≤ k ∧ k < wr.heap.size) (.slice A9 tk.length c9) tk) := ⟨Kd.R_mono hR.out (fun k h1 h2 => ⟨h1, h2⟩)⟩
      go_wp2
      refine wp_region_lists [[12], [13], [14], [15], [16], [17], [18], [19], [20], [21], [22], [23], [24], [25], [26], [3], []]
        [fun val _ _ => val 12 = (.slice A9 tk.length c9),
          fun val _ _ => val 13 = .slice (some ⟨b, off, none⟩) t.length c,
          fun val _ _ => val 14 = .int .i64 k,
          fun val _ _ => val 15 = .pointer (some ⟨b, off + k * 5, none⟩),
          fun val _ _ => val 16 = .pointer (some ⟨b, off + k * 5, none⟩),
          fun val _ _ => val 17 = .agg ([.int .i64 x.goal.kind, va, vb, vc]).toArray,
          onO kGoal 18 x.goal,
          fun val _ _ => val 19 = .slice (some ⟨b, off, none⟩) t.length c,
          fun val _ _ => val 20 = .int .i64 k,
          fun val _ _ => val 21 = .pointer (some ⟨b, off + k * 5, none⟩),
          fun val _ _ => val 22 = .pointer (some ⟨b, off + k * 5 + 4, none⟩),
          fun val _ _ => val 23 = .int .i64 x.cut,
          onO kSGoal 24 x,
          onOne kSGoal 25 x,
          onR kSGoal 26 (tk ++ [x]),
          onR kSGoal 3 (tk ++ [x]),
          onRc kSGoal (.slice A9 tk.length c9) tk]
        [[], [], [], [], [], [], [], [], [], [], [], [], [6], [12], [16, 13], [14], []] 1 (fun q => w.heap.size ≤ q ∧ q < wr.heap.size) (fun i q => i = 16 ∧ w.heap.size ≤ q ∧ q < wr.heap.size) (by kernel_rfl) ⟨by kernel_rfl, by kernel_rfl, by kernel_rfl, by kernel_rfl, by kernel_rfl⟩
        (.cons (stab_val 12 (fun v => v = (.slice A9 tk.length c9))) (.cons (stab_val 13 (fun v => v = .slice (some ⟨b, off, none⟩) t.length c)) (.cons (stab_val 14 (fun v => v = .int .i64 k)) (.cons (stab_val 15 (fun v => v = .pointer (some ⟨b, off + k * 5, none⟩))) (.cons (stab_val 16 (fun v => v = .pointer (some ⟨b, off + k * 5, none⟩))) (.cons (stab_val 17 (fun v => v = .agg ([.int .i64 x.goal.kind, va, vb, vc]).toArray)) (.cons (stab_O kGoal 18 x.goal) (.cons (stab_val 19 (fun v => v = .slice (some ⟨b, off, none⟩) t.length c)) (.cons (stab_val 20 (fun v => v = .int .i64 k)) (.cons (stab_val 21 (fun v => v = .pointer (some ⟨b, off + k * 5, none⟩))) (.cons (stab_val 22 (fun v => v = .pointer (some ⟨b, off + k * 5 + 4, none⟩))) (.cons (stab_val 23 (fun v => v = .int .i64 x.cut)) (.cons (stab_O kSGoal 24 x) (.cons (stab_one kSGoal 25 x) (.cons (stab_R kSGoal 26 (tk ++ [x])) (.cons (stab_R kSGoal 3 (tk ++ [x])) (.cons (stab_Rc kSGoal (.slice A9 tk.length c9) tk) .nil)))))))))))))))))
        (fun i j k h1 h2 => h1.1.trans h2.1.symm) (fun i q h => ⟨by rw [h.1]; decide, h.2, h.2.2⟩) (fun i h1 h2 => by (obtain rfl : i = 16 := (by simp at h1 h2; omega)); exact Kd.R_mono (Kd.R_below HR.out (belD (Below.refl _ _))) (fun q h _ => ⟨rfl, h⟩)) (.cons ?_ (.cons ?_ (.cons ?_ (.cons ?_ (.cons ?_ (.cons ?_ (.cons ?_ (.cons ?_ (.cons ?_ (.cons ?_ (.cons ?_ (.cons ?_ (.cons ?_ (.cons ?_ (.cons ?_ (.cons ?_ .nil)))))))))))))))) ?_
      · intro a W own hfor huse hap hmi hF K hK
        have e3 : a.eval (.tmp 3) = (.slice A9 tk.length c9) := hfor 3 (by kernel_rfl)
        refine op_val ((.slice A9 tk.length c9)) W rfl ?_ (hK _ _ (post_pure ?_))
        · clear hfor huse hap hmi hK hF
          generalize a.eval = ρ at *
          go_simp
        · exact (if_pos rfl)
      · intro a W own hfor huse hap hmi hF K hK
        have e0 : a.eval (.tmp 0) = .slice (some ⟨b, off, none⟩) t.length c := hfor 0 (by kernel_rfl)
        refine op_val (.slice (some ⟨b, off, none⟩) t.length c) W rfl ?_ (hK _ _ (post_pure ?_))
        · clear hfor huse hap hmi hK hF
          generalize a.eval = ρ at *
          go_simp
        · exact (if_pos rfl)
      · intro a W own hfor huse hap hmi hF K hK
        have e4 : a.eval (.tmp 4) = .int .i64 k := hfor 4 (by kernel_rfl)
        refine op_val (.int .i64 k) W rfl ?_ (hK _ _ (post_pure ?_))
        · clear hfor huse hap hmi hK hF
          generalize a.eval = ρ at *
          go_simp
        · exact (if_pos rfl)
      · intro a W own hfor huse hap hmi hF K hK
        have e13 : a.eval (.tmp 13) = .slice (some ⟨b, off, none⟩) t.length c := huse 1 (by kernel_rfl)
        have e14 : a.eval (.tmp 14) = .int .i64 k := huse 2 (by kernel_rfl)
        refine op_val (.pointer (some ⟨b, off + k * 5, none⟩)) W rfl ?_ (hK _ _ (post_pure ?_))
        · clear hfor huse hap hmi hK hF
          generalize a.eval = ρ at *
          go_simp
        · exact (if_pos rfl)
      · intro a W own hfor huse hap hmi hF K hK
        have e15 : a.eval (.tmp 15) = .pointer (some ⟨b, off + k * 5, none⟩) := huse 3 (by kernel_rfl)
        refine op_val (.pointer (some ⟨b, off + k * 5, none⟩)) W rfl ?_ (hK _ _ (post_pure ?_))
        · clear hfor huse hap hmi hK hF
          generalize a.eval = ρ at *
          go_simp
        · exact (if_pos rfl)
      · intro a W own hfor huse hap hmi hF K hK
        have e16 : a.eval (.tmp 16) = .pointer (some ⟨b, off + k * 5, none⟩) := huse 4 (by kernel_rfl)
        have hu_17 := hu2
        have hc : ∀ j u, ([.int .i64 x.goal.kind, va, vb, vc] : List Value)[j]? = some u → W.cell? ⟨b, off + k * 5 + j, none⟩ = some u := fun j u h => foot_cell hF (by omega) (hcc.out j u (show ([.int .i64 x.goal.kind, va, vb, vc] ++ [.int .i64 x.cut] : List Value)[j]? = some u from get_app h))
        refine step_load (cs := [.int .i64 x.goal.kind, va, vb, vc]) rfl 94 (.tmp 16) rfl e16 hc hu_17 rfl (by kernel_rfl) (hK _ _ (post_pure (if_pos rfl)))
      · intro a W own hfor huse hap hmi hF K hK
        have e17 : a.eval (.tmp 17) = .agg ([.int .i64 x.goal.kind, va, vb, vc]).toArray := huse 5 (by kernel_rfl)
        have hKx := kGoal.K_move (show Keeps wr W ok ok from fun q h1 h2 => ⟨h1, hF.block q h2 (fun h => by have := HB.out q h1; omega)⟩) HKg.out
        have efn : a.eval (.func 63) = .func (.func 63) #[] #[] := rfl
        refine op_call (f := 63) (args := #[.agg ([.int .i64 x.goal.kind, va, vb, vc]).toArray]) (fun v w1 => ∃ c : List Value, v = .agg c.toArray ∧ kGoal.O w1 (fun k => W.heap.size ≤ k) x.goal c ∧ Below W.heap.size W w1) rfl ?_ ?_ (fun v w1 h => ?_)
        · clear hfor huse hap hmi hK hF
          generalize a.eval = ρ at *
          go_simp
        · exact (l3Goal_c x.goal _ ok W hKx (fun q h => Nat.lt_of_lt_of_le (HB.out q h) (Nat.le_trans hzb hF.size))).mono (by rintro e w1 ⟨c, rfl, h1, h2⟩; exact ⟨_, rfl, c, rfl, h1, h2⟩)
        · obtain ⟨c, rfl, h1, h2⟩ := h
          exact hK _ _ (post_new h2 ⟨c, if_pos rfl, kGoal.O_mono h1 (fun k h3 h4 => ⟨h3, h4⟩)⟩)
      · intro a W own hfor huse hap hmi hF K hK
        have e0 : a.eval (.tmp 0) = .slice (some ⟨b, off, none⟩) t.length c := hfor 0 (by kernel_rfl)
        refine op_val (.slice (some ⟨b, off, none⟩) t.length c) W rfl ?_ (hK _ _ (post_pure ?_))
        · clear hfor huse hap hmi hK hF
          generalize a.eval = ρ at *
          go_simp
        · exact (if_pos rfl)
      · intro a W own hfor huse hap hmi hF K hK
        have e4 : a.eval (.tmp 4) = .int .i64 k := hfor 4 (by kernel_rfl)
        refine op_val (.int .i64 k) W rfl ?_ (hK _ _ (post_pure ?_))
        · clear hfor huse hap hmi hK hF
          generalize a.eval = ρ at *
          go_simp
        · exact (if_pos rfl)
      · intro a W own hfor huse hap hmi hF K hK
        have e19 : a.eval (.tmp 19) = .slice (some ⟨b, off, none⟩) t.length c := huse 7 (by kernel_rfl)
        have e20 : a.eval (.tmp 20) = .int .i64 k := huse 8 (by kernel_rfl)
        refine op_val (.pointer (some ⟨b, off + k * 5, none⟩)) W rfl ?_ (hK _ _ (post_pure ?_))
        · clear hfor huse hap hmi hK hF
          generalize a.eval = ρ at *
          go_simp
        · exact (if_pos rfl)
      · intro a W own hfor huse hap hmi hF K hK
        have e21 : a.eval (.tmp 21) = .pointer (some ⟨b, off + k * 5, none⟩) := huse 9 (by kernel_rfl)
        refine op_val (.pointer (some ⟨b, off + k * 5 + 4, none⟩)) W rfl ?_ (hK _ _ (post_pure ?_))
        · clear hfor huse hap hmi hK hF
          generalize a.eval = ρ at *
          go_simp
        · exact (if_pos rfl)
      · intro a W own hfor huse hap hmi hF K hK
        have e22 : a.eval (.tmp 22) = .pointer (some ⟨b, off + k * 5 + 4, none⟩) := huse 10 (by kernel_rfl)
        have c4 := foot_cell hF (by omega) cc4.out
        refine op_val (.int .i64 x.cut) W rfl ?_ (hK _ _ (post_pure ?_))
        · clear hfor huse hap hmi hK hF
          generalize a.eval = ρ at *
          go_simp
        · exact (if_pos rfl)
      · intro a W own hfor huse hap hmi hF K hK
        have e23 : a.eval (.tmp 23) = .int .i64 x.cut := huse 11 (by kernel_rfl)
        obtain ⟨cs6, e18, r6⟩ := (huse 6 (by kernel_rfl) : onO kGoal 18 x.goal (slotsOf a) (own 6) W)
        have e18 : a.eval (.tmp 18) = .agg cs6.toArray := e18
        obtain ⟨y1, y2, y3, rfl, ⟨A1, c1, rfl, -⟩, ⟨A2, c2, rfl, -⟩, ⟨A3, c3, rfl, -⟩⟩ := kGoal_K (kGoal.O_K r6)
        refine op_val (.agg #[.int .i64 x.goal.kind, .slice A1 x.goal.a.length c1, .slice A2 x.goal.b.length c2, .slice A3 x.goal.c.length c3, .int .i64 x.cut]) W rfl ?_ (hK _ _ ⟨fun k => own 6 k, Foot.refl _ _, ⟨[.int .i64 x.goal.kind, .slice A1 x.goal.a.length c1, .slice A2 x.goal.b.length c2, .slice A3 x.goal.c.length c3, .int .i64 x.cut], if_pos rfl, kSGoal_of r6⟩, ?_⟩)
        · clear hfor huse hap hmi hK hF
          generalize a.eval = ρ at *
          go_simp
        · exact fun k h => .inl ⟨6, by decide, h⟩
      · intro a W own hfor huse hap hmi hF K hK
        obtain ⟨cs12, e24, r12⟩ := (huse 12 (by kernel_rfl) : onO kSGoal 24 x (slotsOf a) (own 12) W)
        have e24 : a.eval (.tmp 24) = .agg cs12.toArray := e24
        have hlen := kSGoal.K_len (kSGoal.O_K r12)
        refine step_box rfl 32 96 (.tmp 24) rfl e24 Try.underlying32 info_SGoal hlen (by decide) (by decide) (hK _ _ ⟨fun k => own 12 k ∨ (W.heap.size ≤ k ∧ k < (W.alloc (.cells cs12.toArray 96)).heap.size), Foot.of_below (belA (Below.refl _ _) _), ?_, fun k h => Or.imp (fun h => ⟨12, by decide, h⟩) id h⟩)
        refine ⟨W.heap.size, cs12, if_pos rfl, heap_alloc_new W _, .inr ⟨Nat.le_refl _, by simp⟩, Kd.O_mono (Kd.O_below r12 (belA (Below.refl _ _) _)) (fun k h _ => ⟨.inl h, fun e => by have h1 := (hmi 12 k h).2; omega⟩)⟩
      · intro a W own hfor huse hap hmi hF K hK
        have e12 : a.eval (.tmp 12) = (.slice A9 tk.length c9) := huse 0 (by kernel_rfl)
        have r16 := (huse 16 (by kernel_rfl) : onRc kSGoal (.slice A9 tk.length c9) tk (slotsOf a) (own 16) W)
        obtain ⟨g, cs, e25, hbx, hSg, rb⟩ := (huse 13 (by kernel_rfl) : onOne kSGoal 25 x (slotsOf a) (own 13) W)
        have e25 : a.eval (.tmp 25) = .slice (some ⟨g, 0, none⟩) 1 1 := e25
        refine step_one kSGoal rfl (.tmp 12) (.tmp 25) 32 (.agg #[.int .i64 0, .slice none 0 0, .slice none 0 0, .slice none 0 0, .int .i64 0]) 88 rfl Try.underlying32 info_SGoal rfl (by decide) (by decide) e12 e25 r16 hbx rb (fun k h1 h2 => by have := hap 13 16 k h1.1 h2; omega) hL.out (fun v1 w1 hR hF1 => hK _ _ ⟨fun k => own 16 k ∨ own 13 k ∨ (W.heap.size ≤ k ∧ k < w1.heap.size), Foot.mono hF1 (fun k h => ⟨16, by decide, h⟩), ?_, ?_⟩)
        · show kSGoal.R _ _ (if _ then _ else _) (tk ++ [x])
          rw [if_pos rfl]
          exact Kd.R_mono hR (fun k h _ => h.imp id (fun h => h.imp (fun h => h.1) id))
        · intro k h
          rcases h with h | h | h
          · exact .inl ⟨16, by decide, h⟩
          · exact .inl ⟨13, by decide, h⟩
          · exact .inr h
      · intro a W own hfor huse hap hmi hF K hK
        have r := (huse 14 (by kernel_rfl) : onR kSGoal 26 (tk ++ [x]) (slotsOf a) (own 14) W)
        refine op_val (a.eval (.tmp 26)) W rfl ?_ (hK _ _ ⟨own 14, Foot.refl _ _, ?_, fun k h => .inl ⟨14, by decide, h⟩⟩)
        · rfl
        · show kSGoal.R _ _ (if _ then _ else _) (tk ++ [x])
          rw [if_pos rfl]
          exact r
      intro a' W own hf
      have hsz := hf.st.size
      have hdf := hf.st.rest
      obtain ⟨⟨l⟩, df⟩ := a'
      have hl0 : l.length = 28 := hsz
      clear hsz
      obtain rfl : df = [] := hdf
      obtain ⟨x0, l0, rfl, hl1⟩ := lst_cons hl0
      clear hl0
      obtain ⟨x1, l1, rfl, hl2⟩ := lst_cons hl1
      clear hl1
      obtain ⟨x2, l2, rfl, hl3⟩ := lst_cons hl2
      clear hl2
      obtain ⟨x3, l3, rfl, hl4⟩ := lst_cons hl3
      clear hl3
      obtain ⟨x4, l4, rfl, hl5⟩ := lst_cons hl4
      clear hl4
      obtain ⟨x5, l5, rfl, hl6⟩ := lst_cons hl5
      clear hl5
      obtain ⟨x6, l6, rfl, hl7⟩ := lst_cons hl6
      clear hl6
      obtain ⟨x7, l7, rfl, hl8⟩ := lst_cons hl7
      clear hl7
      obtain ⟨x8, l8, rfl, hl9⟩ := lst_cons hl8
      clear hl8
      obtain ⟨x9, l9, rfl, hl10⟩ := lst_cons hl9
      clear hl9
      obtain ⟨x10, l10, rfl, hl11⟩ := lst_cons hl10
      clear hl10
      obtain ⟨x11, l11, rfl, hl12⟩ := lst_cons hl11
      clear hl11
      obtain ⟨x12, l12, rfl, hl13⟩ := lst_cons hl12
      clear hl12
      obtain ⟨x13, l13, rfl, hl14⟩ := lst_cons hl13
      clear hl13
      obtain ⟨x14, l14, rfl, hl15⟩ := lst_cons hl14
      clear hl14
      obtain ⟨x15, l15, rfl, hl16⟩ := lst_cons hl15
      clear hl15
      obtain ⟨x16, l16, rfl, hl17⟩ := lst_cons hl16
      clear hl16
      obtain ⟨x17, l17, rfl, hl18⟩ := lst_cons hl17
      clear hl17
      obtain ⟨x18, l18, rfl, hl19⟩ := lst_cons hl18
      clear hl18
      obtain ⟨x19, l19, rfl, hl20⟩ := lst_cons hl19
      clear hl19
      obtain ⟨x20, l20, rfl, hl21⟩ := lst_cons hl20
      clear hl20
      obtain ⟨x21, l21, rfl, hl22⟩ := lst_cons hl21
      clear hl21
      obtain ⟨x22, l22, rfl, hl23⟩ := lst_cons hl22
      clear hl22
      obtain ⟨x23, l23, rfl, hl24⟩ := lst_cons hl23
      clear hl23
      obtain ⟨x24, l24, rfl, hl25⟩ := lst_cons hl24
      clear hl24
      obtain ⟨x25, l25, rfl, hl26⟩ := lst_cons hl25
      clear hl25
      obtain ⟨x26, l26, rfl, hl27⟩ := lst_cons hl26
      clear hl26
      obtain ⟨x27, l27, rfl, hl28⟩ := lst_cons hl27
      clear hl27
      obtain rfl := List.eq_nil_of_length_eq_zero hl28
      have e0 := hf.st.kept 0 (by kernel_rfl)
      simp only [slotsOf, Act.eval, Array.getD_eq_getD_getElem?, List.getElem?_toArray, List.getElem?_cons_succ, List.getElem?_cons_zero, Option.getD_some] at e0
      subst e0
      have e1 := hf.st.kept 1 (by kernel_rfl)
      simp only [slotsOf, Act.eval, Array.getD_eq_getD_getElem?, List.getElem?_toArray, List.getElem?_cons_succ, List.getElem?_cons_zero, Option.getD_some] at e1
      subst e1
      have e2 := hf.st.kept 2 (by kernel_rfl)
      simp only [slotsOf, Act.eval, Array.getD_eq_getD_getElem?, List.getElem?_toArray, List.getElem?_cons_succ, List.getElem?_cons_zero, Option.getD_some] at e2
      subst e2
      have e4 := hf.st.kept 4 (by kernel_rfl)
      simp only [slotsOf, Act.eval, Array.getD_eq_getD_getElem?, List.getElem?_toArray, List.getElem?_cons_succ, List.getElem?_cons_zero, Option.getD_some] at e4
      subst e4
      have e5 := hf.st.kept 5 (by kernel_rfl)
      simp only [slotsOf, Act.eval, Array.getD_eq_getD_getElem?, List.getElem?_toArray, List.getElem?_cons_succ, List.getElem?_cons_zero, Option.getD_some] at e5
      subst e5
      have e27 := hf.st.kept 27 (by kernel_rfl)
      simp only [slotsOf, Act.eval, Array.getD_eq_getD_getElem?, List.getElem?_toArray, List.getElem?_cons_succ, List.getElem?_cons_zero, Option.getD_some] at e27
      subst e27
      have r1 := Sec.mk (hf.get 15 (by kernel_rfl) : onR kSGoal 3 (tk ++ [x]) _ (own 15) W)
      have hm := Sec.mk (hf.st.mine 15)
      have hft := Sec.mk hf.st.foot
      clear hf
      go_wp2
      go_roundw
      case rel => exact ⟨k + 1, by omega, by go_num, ⟨by rw [hT.out]; exact Kd.R_mono r1.out (fun k h _ => by
        have h1 := (hm.out k h).1
        rcases h1 with h1 | h1
        · exact Nat.le_trans hzb h1
        · exact h1.1)⟩, ⟨hft.out.below (belD hb.out) (fun k h => h.1)⟩⟩
      case measure => simp [intOf]; omega
    · have hfin : Sec (t.take k = t) := ⟨List.take_of_length_le (by omega)⟩
      rw [hfin.out] at hR
      go_wp2
      go_ret
      exact ⟨_, rfl, hR.out, hb.out⟩
theorem kBind_of {w : World} {S : Nat → Prop} {x : Bind} {v : Value} (h : kCell.R w S v x.term) : kBind.O w S x [.int .i64 x.v, v] :=
  ⟨fun _ => False, S, [.int .i64 x.v], [v], rfl, fun k h => h.elim, fun k h => h, ⟨rfl, trivial⟩, ⟨v, rfl, h⟩⟩
set_option maxHeartbeats 2000000 in
theorem l2Copy_c (v : Value) (t : List Bind) (ok : Nat → Prop) (w : World) (hV : kBind.V w ok v t) (hok : ∀ k, ok k → k < w.heap.size) :
    Calls Try.prog 38 #[v] w fun e w' => ∃ u, e = .returned u ∧ kBind.R w' (fun k => w.heap.size ≤ k) u t ∧ Below w.heap.size w w' := by
  obtain ⟨A, c, rfl, h1, h2, h3, hC, hz⟩ := hV
  have HC := Sec.mk hC
  have HB := Sec.mk hok
  clear hC hz hok
  have hu := Try.underlying99
  have hu2 := Try.underlying94
  go_enter Try.func38, Try.ntmps38
  go_wp2
  go_loopw [3, 4] (fun ov iv wr => ∃ k : Nat, k ≤ t.length ∧ iv = .int .i64 k ∧ Sec (kBind.R wr (fun k => w.heap.size ≤ k) ov (t.take k)) ∧ Sec (Below w.heap.size w wr)) (fun _ iv _ => t.length - (intOf iv).toNat)
  case atStart => exact ⟨0, Nat.zero_le _, rfl, ⟨by rw [List.take_zero]; exact Kd.R_empty kBind (w := w) (W := w) (Nat.le_refl _)⟩, ⟨belA (Below.refl _ _) _⟩⟩
  case round =>
    obtain ⟨k, hk, rfl, hR, hb⟩ := hrel
    by_cases hlt : k < t.length
    · obtain ⟨b, off, cs, rfl, hob, hK, hc⟩ := Kd.C_get (Kd.C_below HC.out hb.out (by decide)) (List.getElem?_eq_getElem hlt)
      have hT : Sec (t.take (k + 1) = t.take k ++ [t[k]]) := ⟨List.take_succ_eq_append_getElem hlt⟩
      have hL : Sec ((t.take k).length + 1 ≤ 1073741824) := ⟨by rw [List.length_take]; omega⟩
      obtain ⟨A9, c9, hv9, -⟩ := Kd.R_form hR.out
      subst hv9
      generalize t[k] = x at *
      generalize t.take k = tk at *
      have HK := Sec.mk hK
      have i0 : (0 : Int) ≤ (k : Int) := by omega
      have i1 : (k : Int) < (t.length : Int) := by omega
      have hzb := hb.out.size
      have hbl := HB.out b hob
      obtain ⟨va, rfl, hva⟩ := kBind_K hK
      have HLa : Sec (x.term.length ≤ 1073741824) := ⟨by obtain ⟨_, _, _, _, _, h, _⟩ := hva; exact h⟩
      have HVa := Sec.mk hva
      have cc0 : Sec (wr.cell? ⟨b, off + k * 2, none⟩ = some (.int .i64 x.v)) := ⟨hc 0 _ rfl⟩
      have cc1 : Sec (wr.cell? ⟨b, off + k * 2 + 1, none⟩ = some va) := ⟨hc 1 _ rfl⟩
      clear hK hc hva
      have HR : Sec (kBind.R wr (fun k => w.heap.size ≤ k ∧ k < wr.heap.size) (.slice A9 tk.length c9) tk) := ⟨Kd.R_mono hR.out (fun k h1 h2 => ⟨h1, h2⟩)⟩
      go_wp2
      refine wp_region_lists [[12], [13], [14], [15], [16], [17], [18], [19], [20], [21], [22], [23], [24], [25], [26], [27], [3], []]
        [fun val _ _ => val 12 = (.slice A9 tk.length c9),
          fun val _ _ => val 13 = .slice (some ⟨b, off, none⟩) t.length c,
          fun val _ _ => val 14 = .int .i64 k,
          fun val _ _ => val 15 = .pointer (some ⟨b, off + k * 2, none⟩),
          fun val _ _ => val 16 = .pointer (some ⟨b, off + k * 2, none⟩),
          fun val _ _ => val 17 = .int .i64 x.v,
          onR kCell 18 [],
          fun val _ _ => val 19 = .slice (some ⟨b, off, none⟩) t.length c,
          fun val _ _ => val 20 = .int .i64 k,
          fun val _ _ => val 21 = .pointer (some ⟨b, off + k * 2, none⟩),
          fun val _ _ => val 22 = .pointer (some ⟨b, off + k * 2 + 1, none⟩),
          fun val _ _ => val 23 = va,
          onR kCell 24 x.term,
          onO kBind 25 x,
          onOne kBind 26 x,
          onR kBind 27 (tk ++ [x]),
          onR kBind 3 (tk ++ [x]),
          onRc kBind (.slice A9 tk.length c9) tk]
        [[], [], [], [], [], [], [], [], [], [], [], [], [6], [12], [13], [17, 14], [15], []] 1 (fun q => w.heap.size ≤ q ∧ q < wr.heap.size) (fun i q => i = 17 ∧ w.heap.size ≤ q ∧ q < wr.heap.size) (by kernel_rfl) ⟨by kernel_rfl, by kernel_rfl, by kernel_rfl, by kernel_rfl, by kernel_rfl⟩
        (.cons (stab_val 12 (fun v => v = (.slice A9 tk.length c9))) (.cons (stab_val 13 (fun v => v = .slice (some ⟨b, off, none⟩) t.length c)) (.cons (stab_val 14 (fun v => v = .int .i64 k)) (.cons (stab_val 15 (fun v => v = .pointer (some ⟨b, off + k * 2, none⟩))) (.cons (stab_val 16 (fun v => v = .pointer (some ⟨b, off + k * 2, none⟩))) (.cons (stab_val 17 (fun v => v = .int .i64 x.v)) (.cons (stab_R kCell 18 []) (.cons (stab_val 19 (fun v => v = .slice (some ⟨b, off, none⟩) t.length c)) (.cons (stab_val 20 (fun v => v = .int .i64 k)) (.cons (stab_val 21 (fun v => v = .pointer (some ⟨b, off + k * 2, none⟩))) (.cons (stab_val 22 (fun v => v = .pointer (some ⟨b, off + k * 2 + 1, none⟩))) (.cons (stab_val 23 (fun v => v = va)) (.cons (stab_R kCell 24 x.term) (.cons (stab_O kBind 25 x) (.cons (stab_one kBind 26 x) (.cons (stab_R kBind 27 (tk ++ [x])) (.cons (stab_R kBind 3 (tk ++ [x])) (.cons (stab_Rc kBind (.slice A9 tk.length c9) tk) .nil))))))))))))))))))
        (fun i j k h1 h2 => h1.1.trans h2.1.symm) (fun i q h => ⟨by rw [h.1]; decide, h.2, h.2.2⟩) (fun i h1 h2 => by (obtain rfl : i = 17 := (by simp at h1 h2; omega)); exact Kd.R_mono (Kd.R_below HR.out (belD (Below.refl _ _))) (fun q h _ => ⟨rfl, h⟩)) (.cons ?_ (.cons ?_ (.cons ?_ (.cons ?_ (.cons ?_ (.cons ?_ (.cons ?_ (.cons ?_ (.cons ?_ (.cons ?_ (.cons ?_ (.cons ?_ (.cons ?_ (.cons ?_ (.cons ?_ (.cons ?_ (.cons ?_ .nil))))))))))))))))) ?_
      · intro a W own hfor huse hap hmi hF K hK
        have e3 : a.eval (.tmp 3) = (.slice A9 tk.length c9) := hfor 3 (by kernel_rfl)
        refine op_val ((.slice A9 tk.length c9)) W rfl ?_ (hK _ _ (post_pure ?_))
        · clear hfor huse hap hmi hK hF
          generalize a.eval = ρ at *
          go_simp
        · exact (if_pos rfl)
      · intro a W own hfor huse hap hmi hF K hK
        have e0 : a.eval (.tmp 0) = .slice (some ⟨b, off, none⟩) t.length c := hfor 0 (by kernel_rfl)
        refine op_val (.slice (some ⟨b, off, none⟩) t.length c) W rfl ?_ (hK _ _ (post_pure ?_))
        · clear hfor huse hap hmi hK hF
          generalize a.eval = ρ at *
          go_simp
        · exact (if_pos rfl)
      · intro a W own hfor huse hap hmi hF K hK
        have e4 : a.eval (.tmp 4) = .int .i64 k := hfor 4 (by kernel_rfl)
        refine op_val (.int .i64 k) W rfl ?_ (hK _ _ (post_pure ?_))
        · clear hfor huse hap hmi hK hF
          generalize a.eval = ρ at *
          go_simp
        · exact (if_pos rfl)
      · intro a W own hfor huse hap hmi hF K hK
        have e13 : a.eval (.tmp 13) = .slice (some ⟨b, off, none⟩) t.length c := huse 1 (by kernel_rfl)
        have e14 : a.eval (.tmp 14) = .int .i64 k := huse 2 (by kernel_rfl)
        refine op_val (.pointer (some ⟨b, off + k * 2, none⟩)) W rfl ?_ (hK _ _ (post_pure ?_))
        · clear hfor huse hap hmi hK hF
          generalize a.eval = ρ at *
          go_simp
        · exact (if_pos rfl)
      · intro a W own hfor huse hap hmi hF K hK
        have e15 : a.eval (.tmp 15) = .pointer (some ⟨b, off + k * 2, none⟩) := huse 3 (by kernel_rfl)
        refine op_val (.pointer (some ⟨b, off + k * 2, none⟩)) W rfl ?_ (hK _ _ (post_pure ?_))
        · clear hfor huse hap hmi hK hF
          generalize a.eval = ρ at *
          go_simp
        · exact (if_pos rfl)
      · intro a W own hfor huse hap hmi hF K hK
        have e16 : a.eval (.tmp 16) = .pointer (some ⟨b, off + k * 2, none⟩) := huse 4 (by kernel_rfl)
        have c0 := foot_cell hF (by omega) cc0.out
        refine op_val (.int .i64 x.v) W rfl ?_ (hK _ _ (post_pure ?_))
        · clear hfor huse hap hmi hK hF
          generalize a.eval = ρ at *
          go_simp
        · exact (if_pos rfl)
      · intro a W own hfor huse hap hmi hF K hK
        refine op_val (.slice (some ⟨W.heap.size, 0, none⟩) 0 0) (W.alloc (.cells #[] kCell.ty)) rfl ?_ (hK _ _ (post_new (belA (Below.refl _ _) _) ?_))
        · clear hfor huse hap hmi hK hF
          generalize a.eval = ρ at *
          go_simp
          try rfl
        · show kCell.R _ _ (if _ then _ else _) []
          rw [if_pos rfl]
          exact Kd.R_mono (Kd.R_empty (w := W) kCell (Nat.le_refl _)) (fun k h1 h2 => ⟨h1, h2⟩)
      · intro a W own hfor huse hap hmi hF K hK
        have e0 : a.eval (.tmp 0) = .slice (some ⟨b, off, none⟩) t.length c := hfor 0 (by kernel_rfl)
        refine op_val (.slice (some ⟨b, off, none⟩) t.length c) W rfl ?_ (hK _ _ (post_pure ?_))
        · clear hfor huse hap hmi hK hF
          generalize a.eval = ρ at *
          go_simp
        · exact (if_pos rfl)
      · intro a W own hfor huse hap hmi hF K hK
        have e4 : a.eval (.tmp 4) = .int .i64 k := hfor 4 (by kernel_rfl)
        refine op_val (.int .i64 k) W rfl ?_ (hK _ _ (post_pure ?_))
        · clear hfor huse hap hmi hK hF
          generalize a.eval = ρ at *
          go_simp
        · exact (if_pos rfl)
      · intro a W own hfor huse hap hmi hF K hK
        have e19 : a.eval (.tmp 19) = .slice (some ⟨b, off, none⟩) t.length c := huse 7 (by kernel_rfl)
        have e20 : a.eval (.tmp 20) = .int .i64 k := huse 8 (by kernel_rfl)
        refine op_val (.pointer (some ⟨b, off + k * 2, none⟩)) W rfl ?_ (hK _ _ (post_pure ?_))
        · clear hfor huse hap hmi hK hF
          generalize a.eval = ρ at *
          go_simp
        · exact (if_pos rfl)
      · intro a W own hfor huse hap hmi hF K hK
        have e21 : a.eval (.tmp 21) = .pointer (some ⟨b, off + k * 2, none⟩) := huse 9 (by kernel_rfl)
        refine op_val (.pointer (some ⟨b, off + k * 2 + 1, none⟩)) W rfl ?_ (hK _ _ (post_pure ?_))
        · clear hfor huse hap hmi hK hF
          generalize a.eval = ρ at *
          go_simp
        · exact (if_pos rfl)
      · intro a W own hfor huse hap hmi hF K hK
        have e22 : a.eval (.tmp 22) = .pointer (some ⟨b, off + k * 2 + 1, none⟩) := huse 10 (by kernel_rfl)
        have c1 := foot_cell hF (by omega) cc1.out
        refine op_val (va) W rfl ?_ (hK _ _ (post_pure ?_))
        · clear hfor huse hap hmi hK hF
          generalize a.eval = ρ at *
          go_simp
        · exact (if_pos rfl)
      · intro a W own hfor huse hap hmi hF K hK
        have e23 : a.eval (.tmp 23) = va := huse 11 (by kernel_rfl)
        have r0 : kCell.R W (own 6) (a.eval (.tmp 18)) [] := huse 6 (by kernel_rfl)
        have hV := foot_V hF (fun q h1 h2 => by have := HB.out q h1; omega) HVa.out (by decide)
        refine step_cells rfl (.tmp 18) (.tmp 23) rfl rfl e23 r0 hV ?_ ?_ (fun v1 w1 hR hF1 => hK _ _ ⟨fun k => own 6 k ∨ (W.heap.size ≤ k ∧ k < w1.heap.size), Foot.mono hF1 (fun k h => ⟨6, by decide, h⟩), ?_, fun k h => Or.imp (fun h => ⟨6, by decide, h⟩) id h⟩)
        · exact fun k h1 h2 => by have h3 := (hmi 6 k h2).1; have h4 := HB.out k h1; simp at h3; omega
        · have := HLa.out; simpa using this
        · show kCell.R _ _ (if _ then _ else _) x.term
          rw [if_pos rfl]
          exact hR
      · intro a W own hfor huse hap hmi hF K hK
        have e17 : a.eval (.tmp 17) = .int .i64 x.v := huse 5 (by kernel_rfl)
        have r12 : kCell.R W (own 12) (a.eval (.tmp 24)) x.term := huse 12 (by kernel_rfl)
        obtain ⟨A12, n12, e24, -, -⟩ := Kd.R_form r12
        rw [e24] at r12
        refine op_val (.agg #[.int .i64 x.v, .slice A12 x.term.length n12]) W rfl ?_ (hK _ _ ⟨fun k => own 12 k, Foot.refl _ _, ⟨[.int .i64 x.v, .slice A12 x.term.length n12], if_pos rfl, kBind_of r12⟩, ?_⟩)
        · clear hfor huse hap hmi hK hF
          generalize a.eval = ρ at *
          go_simp
        · exact fun k h => .inl ⟨12, by decide, h⟩
      · intro a W own hfor huse hap hmi hF K hK
        obtain ⟨cs13, e25, r13⟩ := (huse 13 (by kernel_rfl) : onO kBind 25 x (slotsOf a) (own 13) W)
        have e25 : a.eval (.tmp 25) = .agg cs13.toArray := e25
        have hlen := kBind.K_len (kBind.O_K r13)
        refine step_box rfl 33 99 (.tmp 25) rfl e25 Try.underlying33 info_Bind hlen (by decide) (by decide) (hK _ _ ⟨fun k => own 13 k ∨ (W.heap.size ≤ k ∧ k < (W.alloc (.cells cs13.toArray 99)).heap.size), Foot.of_below (belA (Below.refl _ _) _), ?_, fun k h => Or.imp (fun h => ⟨13, by decide, h⟩) id h⟩)
        refine ⟨W.heap.size, cs13, if_pos rfl, heap_alloc_new W _, .inr ⟨Nat.le_refl _, by simp⟩, Kd.O_mono (Kd.O_below r13 (belA (Below.refl _ _) _)) (fun k h _ => ⟨.inl h, fun e => by have h1 := (hmi 13 k h).2; omega⟩)⟩
      · intro a W own hfor huse hap hmi hF K hK
        have e12 : a.eval (.tmp 12) = (.slice A9 tk.length c9) := huse 0 (by kernel_rfl)
        have r17 := (huse 17 (by kernel_rfl) : onRc kBind (.slice A9 tk.length c9) tk (slotsOf a) (own 17) W)
        obtain ⟨g, cs, e26, hbx, hSg, rb⟩ := (huse 14 (by kernel_rfl) : onOne kBind 26 x (slotsOf a) (own 14) W)
        have e26 : a.eval (.tmp 26) = .slice (some ⟨g, 0, none⟩) 1 1 := e26
        refine step_one kBind rfl (.tmp 12) (.tmp 26) 33 (.agg #[.int .i64 0, .slice none 0 0]) 32 rfl Try.underlying33 info_Bind rfl (by decide) (by decide) e12 e26 r17 hbx rb (fun k h1 h2 => by have := hap 14 17 k h1.1 h2; omega) hL.out (fun v1 w1 hR hF1 => hK _ _ ⟨fun k => own 17 k ∨ own 14 k ∨ (W.heap.size ≤ k ∧ k < w1.heap.size), Foot.mono hF1 (fun k h => ⟨17, by decide, h⟩), ?_, ?_⟩)
        · show kBind.R _ _ (if _ then _ else _) (tk ++ [x])
          rw [if_pos rfl]
          exact Kd.R_mono hR (fun k h _ => h.imp id (fun h => h.imp (fun h => h.1) id))
        · intro k h
          rcases h with h | h | h
          · exact .inl ⟨17, by decide, h⟩
          · exact .inl ⟨14, by decide, h⟩
          · exact .inr h
      · intro a W own hfor huse hap hmi hF K hK
        have r := (huse 15 (by kernel_rfl) : onR kBind 27 (tk ++ [x]) (slotsOf a) (own 15) W)
        refine op_val (a.eval (.tmp 27)) W rfl ?_ (hK _ _ ⟨own 15, Foot.refl _ _, ?_, fun k h => .inl ⟨15, by decide, h⟩⟩)
        · rfl
        · show kBind.R _ _ (if _ then _ else _) (tk ++ [x])
          rw [if_pos rfl]
          exact r
      intro a' W own hf
      have hsz := hf.st.size
      have hdf := hf.st.rest
      obtain ⟨⟨l⟩, df⟩ := a'
      have hl0 : l.length = 29 := hsz
      clear hsz
      obtain rfl : df = [] := hdf
      obtain ⟨x0, l0, rfl, hl1⟩ := lst_cons hl0
      clear hl0
      obtain ⟨x1, l1, rfl, hl2⟩ := lst_cons hl1
      clear hl1
      obtain ⟨x2, l2, rfl, hl3⟩ := lst_cons hl2
      clear hl2
      obtain ⟨x3, l3, rfl, hl4⟩ := lst_cons hl3
      clear hl3
      obtain ⟨x4, l4, rfl, hl5⟩ := lst_cons hl4
      clear hl4
      obtain ⟨x5, l5, rfl, hl6⟩ := lst_cons hl5
      clear hl5
      obtain ⟨x6, l6, rfl, hl7⟩ := lst_cons hl6
      clear hl6
      obtain ⟨x7, l7, rfl, hl8⟩ := lst_cons hl7
      clear hl7
      obtain ⟨x8, l8, rfl, hl9⟩ := lst_cons hl8
      clear hl8
      obtain ⟨x9, l9, rfl, hl10⟩ := lst_cons hl9
      clear hl9
      obtain ⟨x10, l10, rfl, hl11⟩ := lst_cons hl10
      clear hl10
      obtain ⟨x11, l11, rfl, hl12⟩ := lst_cons hl11
      clear hl11
      obtain ⟨x12, l12, rfl, hl13⟩ := lst_cons hl12
      clear hl12
      obtain ⟨x13, l13, rfl, hl14⟩ := lst_cons hl13
      clear hl13
      obtain ⟨x14, l14, rfl, hl15⟩ := lst_cons hl14
      clear hl14
      obtain ⟨x15, l15, rfl, hl16⟩ := lst_cons hl15
      clear hl15
      obtain ⟨x16, l16, rfl, hl17⟩ := lst_cons hl16
      clear hl16
      obtain ⟨x17, l17, rfl, hl18⟩ := lst_cons hl17
      clear hl17
      obtain ⟨x18, l18, rfl, hl19⟩ := lst_cons hl18
      clear hl18
      obtain ⟨x19, l19, rfl, hl20⟩ := lst_cons hl19
      clear hl19
      obtain ⟨x20, l20, rfl, hl21⟩ := lst_cons hl20
      clear hl20
      obtain ⟨x21, l21, rfl, hl22⟩ := lst_cons hl21
      clear hl21
      obtain ⟨x22, l22, rfl, hl23⟩ := lst_cons hl22
      clear hl22
      obtain ⟨x23, l23, rfl, hl24⟩ := lst_cons hl23
      clear hl23
      obtain ⟨x24, l24, rfl, hl25⟩ := lst_cons hl24
      clear hl24
      obtain ⟨x25, l25, rfl, hl26⟩ := lst_cons hl25
      clear hl25
      obtain ⟨x26, l26, rfl, hl27⟩ := lst_cons hl26
      clear hl26
      obtain ⟨x27, l27, rfl, hl28⟩ := lst_cons hl27
      clear hl27
      obtain ⟨x28, l28, rfl, hl29⟩ := lst_cons hl28
      clear hl28
      obtain rfl := List.eq_nil_of_length_eq_zero hl29
      have e0 := hf.st.kept 0 (by kernel_rfl)
      simp only [slotsOf, Act.eval, Array.getD_eq_getD_getElem?, List.getElem?_toArray, List.getElem?_cons_succ, List.getElem?_cons_zero, Option.getD_some] at e0
      subst e0
      have e1 := hf.st.kept 1 (by kernel_rfl)
      simp only [slotsOf, Act.eval, Array.getD_eq_getD_getElem?, List.getElem?_toArray, List.getElem?_cons_succ, List.getElem?_cons_zero, Option.getD_some] at e1
      subst e1
      have e2 := hf.st.kept 2 (by kernel_rfl)
      simp only [slotsOf, Act.eval, Array.getD_eq_getD_getElem?, List.getElem?_toArray, List.getElem?_cons_succ, List.getElem?_cons_zero, Option.getD_some] at e2
      subst e2
      have e4 := hf.st.kept 4 (by kernel_rfl)
      simp only [slotsOf, Act.eval, Array.getD_eq_getD_getElem?, List.getElem?_toArray, List.getElem?_cons_succ, List.getElem?_cons_zero, Option.getD_some] at e4
      subst e4
      have e5 := hf.st.kept 5 (by kernel_rfl)
      simp only [slotsOf, Act.eval, Array.getD_eq_getD_getElem?, List.getElem?_toArray, List.getElem?_cons_succ, List.getElem?_cons_zero, Option.getD_some] at e5
      subst e5
      have e28 := hf.st.kept 28 (by kernel_rfl)
      simp only [slotsOf, Act.eval, Array.getD_eq_getD_getElem?, List.getElem?_toArray, List.getElem?_cons_succ, List.getElem?_cons_zero, Option.getD_some] at e28
      subst e28
      have r1 := Sec.mk (hf.get 16 (by kernel_rfl) : onR kBind 3 (tk ++ [x]) _ (own 16) W)
      have hm := Sec.mk (hf.st.mine 16)
      have hft := Sec.mk hf.st.foot
      clear hf
      go_wp2
      go_roundw
      case rel => exact ⟨k + 1, by omega, by go_num, ⟨by rw [hT.out]; exact Kd.R_mono r1.out (fun k h _ => by
        have h1 := (hm.out k h).1
        rcases h1 with h1 | h1
        · exact Nat.le_trans hzb h1
        · exact h1.1)⟩, ⟨hft.out.below (belD hb.out) (fun k h => h.1)⟩⟩
      case measure => simp [intOf]; omega
    · have hfin : Sec (t.take k = t) := ⟨List.take_of_length_le (by omega)⟩
      rw [hfin.out] at hR
      go_wp2
      go_ret
      exact ⟨_, rfl, hR.out, hb.out⟩
end Go.Proofs.Ytggchcljkehefaa
