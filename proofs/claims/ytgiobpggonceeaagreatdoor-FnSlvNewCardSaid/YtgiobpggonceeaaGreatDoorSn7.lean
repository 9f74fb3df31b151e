/- Contracts: TrlView of the program; and what goes with it. -/
import Derived.Test.YtgiobpggonceeaaGreatDoorSn6
namespace Go.Proofs.YtgiobpggonceeaaGreatDoor
section
open Go.RowKit
set_option linter.unusedVariables false
set_option maxRecDepth 100000
def markIn (s : TState) (c : TChoice) : Bool := inB c.mark 0 s.binds.length
def viewC (s : TState) (c : TChoice) : SChoice := ⟨c.goals, s.binds.take c.mark.toNat, c.vars, c.call, c.next⟩
/-- Solving as the first machine would keep it. -/
def tview (s : TState) : SState := if s.choices.all (markIn s) = true then ⟨s.status, s.goals, s.binds, s.vars, s.choices.map (viewC s), s.top, s.out⟩ else zeroSState
theorem info_SChoice : (Tryz.prog.info? 98).map (fun i => (i.zero, i.size, i.bytes)) = some (some (.agg #[.slice none 0 0, .slice none 0 0, .int .i64 0, .slice none 0 0, .int .i64 0]), 5, 88) := by kernel_rfl
theorem gf_choices : Kd.GFld kSState (Kd.slice 32 kSChoice (by decide)) 4 (fun x => x.choices) (fun x y => { x with choices := y }) := Kd.GFld.iso _ (Kd.GFld.snd (Kd.GFld.snd (Kd.GFld.snd (Kd.GFld.snd (Kd.GFld.fst (Kd.GFld.self _)))))) (fun _ _ => rfl)
theorem kSState_of {w : World} {S1 S2 S3 S4 : Nat → Prop} {x : SState} {v1 v2 v5 v6 : Value} (hx : x.choices = []) (h1 : kSGoal.R w S1 v1 x.goals) (h2 : kBind.R w S2 v2 x.binds) (h5 : kCell.R w S3 v5 x.top) (h6 : kCell.R w S4 v6 x.out) (d1 : ∀ k, S1 k → ¬ S2 k) (d2 : ∀ k, S1 k → ¬ S3 k) (d3 : ∀ k, S1 k → ¬ S4 k) (d4 : ∀ k, S2 k → ¬ S3 k) (d5 : ∀ k, S2 k → ¬ S4 k) (d6 : ∀ k, S3 k → ¬ S4 k) :
    kSState.O w (fun k => S1 k ∨ S2 k ∨ S3 k ∨ S4 k) x [.int .i64 x.status, v1, v2, .int .i64 x.vars, .slice none 0 0, v5, v6] :=
  ⟨fun _ => False, _, [.int .i64 x.status], _, rfl, fun k h => h.elim, fun k h => h, ⟨rfl, trivial⟩,
    S1, fun k => S2 k ∨ S3 k ∨ S4 k, [v1], _, rfl, fun k h => ⟨.inl h, fun e => e.elim (d1 k h) (fun e => e.elim (d2 k h) (d3 k h))⟩, fun k h => .inr h, ⟨v1, rfl, h1⟩,
    S2, fun k => S3 k ∨ S4 k, [v2], _, rfl, fun k h => ⟨.inl h, fun e => e.elim (d4 k h) (d5 k h)⟩, fun k h => .inr h, ⟨v2, rfl, h2⟩,
    fun _ => False, _, [.int .i64 x.vars], _, rfl, fun k h => h.elim, fun k h => h, ⟨rfl, trivial⟩,
    fun _ => False, _, [.slice none 0 0], _, rfl, fun k h => h.elim, fun k h => h, ⟨_, rfl, by show kSChoice.R w _ _ x.choices; rw [hx]; exact Kd.R_nil _ _ _⟩,
    S3, S4, [v5], [v6], rfl, fun k h => ⟨.inl h, d6 k h⟩, fun k h => .inr h, ⟨v5, rfl, h5⟩, ⟨v6, rfl, h6⟩⟩
theorem kSChoice_of {w : World} {S1 S2 S3 : Nat → Prop} {x : SChoice} {v1 v2 v3 : Value} (h1 : kSGoal.R w S1 v1 x.goals) (h2 : kBind.R w S2 v2 x.binds) (h3 : kCell.R w S3 v3 x.call) (d1 : ∀ k, S1 k → ¬ S2 k) (d2 : ∀ k, S1 k → ¬ S3 k) (d3 : ∀ k, S2 k → ¬ S3 k) :
    kSChoice.O w (fun k => S1 k ∨ S2 k ∨ S3 k) x [v1, v2, .int .i64 x.vars, v3, .int .i64 x.next] :=
  ⟨S1, fun k => S2 k ∨ S3 k, [v1], _, rfl, fun k h => ⟨.inl h, fun e => e.elim (d1 k h) (d2 k h)⟩, fun k h => .inr h, ⟨v1, rfl, h1⟩,
    S2, S3, [v2], _, rfl, fun k h => ⟨.inl h, d3 k h⟩, fun k h => .inr h, ⟨v2, rfl, h2⟩,
    fun _ => False, S3, [.int .i64 x.vars], _, rfl, fun k h => h.elim, fun k h => h, ⟨rfl, trivial⟩,
    S3, fun _ => False, [v3], [.int .i64 x.next], rfl, fun k h => ⟨h, id⟩, fun k h => h.elim, ⟨v3, rfl, h3⟩, ⟨rfl, trivial⟩⟩
set_option maxHeartbeats 4000000 in
theorem TrlView_i (s : TState) (cs : List Value) (ok0 : Nat → Prop) (w : World) (hK0 : kTState.K w ok0 s cs) :
    Calls Tryz.prog 47 #[.agg cs.toArray] w fun e w' => ∃ c : List Value, e = .returned (.agg c.toArray) ∧ kSState.O w' (fun k => w.heap.size ≤ k) (tview s) c ∧ Below w.heap.size w w' := by
  obtain ⟨ok, hok, hK⟩ : ∃ ok : Nat → Prop, (∀ k, ok k → k < w.heap.size) ∧ kTState.K w ok s cs := ⟨fun k => ok0 k ∧ k < w.heap.size, fun k h => h.2, kTState.K_move (fun k h1 h2 => ⟨⟨h1, h2⟩, rfl⟩) hK0⟩
  clear hK0
  obtain ⟨v1, v2, v4, v5, v6, rfl, h1, h2, h4, h5, h6⟩ := kTState_K hK
  obtain ⟨E1, m1, rfl, -⟩ := id h1
  obtain ⟨E2, m2, rfl, hm2, hm3, hm4, hC2, hz2⟩ := id h2
  obtain ⟨E4, m4, rfl, -, -, hl4, hC4, -⟩ := id h4
  obtain ⟨E5, m5, rfl, -⟩ := id h5
  obtain ⟨E6, m6, rfl, -⟩ := id h6
  have HOK := Sec.mk hok
  have BB := belA (belA (Below.refl w.heap.size w) (.cells #[.int .i64 s.status, .slice E1 s.goals.length m1, .slice E2 s.binds.length m2, .int .i64 s.vars, .slice E4 s.choices.length m4, .slice E5 s.top.length m5, .slice E6 s.out.length m6] 93)) (.cells #[.int .i64 0, .slice none 0 0, .slice none 0 0, .int .i64 0, .slice none 0 0, .slice none 0 0, .slice none 0 0] 34)
  have V1 := Sec.mk (Kd.V_below h1 BB (by decide))
  have V2 := Sec.mk (Kd.V_below h2 BB (by decide))
  have V5 := Sec.mk (Kd.V_below h5 BB (by decide))
  have V6 := Sec.mk (Kd.V_below h6 BB (by decide))
  have C2 := Sec.mk (Kd.C_below hC2 BB (by decide))
  have C4 := Sec.mk (Kd.C_below hC4 BB (by decide))
  have B0 := Sec.mk BB
  have P0 := Sec.mk (box2 w (.cells #[.int .i64 s.status, .slice E1 s.goals.length m1, .slice E2 s.binds.length m2, .int .i64 s.vars, .slice E4 s.choices.length m4, .slice E5 s.top.length m5, .slice E6 s.out.length m6] 93) (.cells #[.int .i64 0, .slice none 0 0, .slice none 0 0, .int .i64 0, .slice none 0 0, .slice none 0 0, .slice none 0 0] 34)).1
  have P1 := Sec.mk (box2 w (.cells #[.int .i64 s.status, .slice E1 s.goals.length m1, .slice E2 s.binds.length m2, .int .i64 s.vars, .slice E4 s.choices.length m4, .slice E5 s.top.length m5, .slice E6 s.out.length m6] 93) (.cells #[.int .i64 0, .slice none 0 0, .slice none 0 0, .int .i64 0, .slice none 0 0, .slice none 0 0, .slice none 0 0] 34)).2
  have X := (box_at P0.out).2.1
  have p0 : Sec ((((w.alloc (.cells #[.int .i64 s.status, .slice E1 s.goals.length m1, .slice E2 s.binds.length m2, .int .i64 s.vars, .slice E4 s.choices.length m4, .slice E5 s.top.length m5, .slice E6 s.out.length m6] 93)).alloc (.cells #[.int .i64 0, .slice none 0 0, .slice none 0 0, .int .i64 0, .slice none 0 0, .slice none 0 0, .slice none 0 0] 34))).cell? ⟨w.heap.size, 0, none⟩ = some (.int .i64 s.status)) := ⟨X 0 _ rfl⟩
  have p1 : Sec ((((w.alloc (.cells #[.int .i64 s.status, .slice E1 s.goals.length m1, .slice E2 s.binds.length m2, .int .i64 s.vars, .slice E4 s.choices.length m4, .slice E5 s.top.length m5, .slice E6 s.out.length m6] 93)).alloc (.cells #[.int .i64 0, .slice none 0 0, .slice none 0 0, .int .i64 0, .slice none 0 0, .slice none 0 0, .slice none 0 0] 34))).cell? ⟨w.heap.size, 1, none⟩ = some (.slice E1 s.goals.length m1)) := ⟨X 1 _ rfl⟩
  have p2 : Sec ((((w.alloc (.cells #[.int .i64 s.status, .slice E1 s.goals.length m1, .slice E2 s.binds.length m2, .int .i64 s.vars, .slice E4 s.choices.length m4, .slice E5 s.top.length m5, .slice E6 s.out.length m6] 93)).alloc (.cells #[.int .i64 0, .slice none 0 0, .slice none 0 0, .int .i64 0, .slice none 0 0, .slice none 0 0, .slice none 0 0] 34))).cell? ⟨w.heap.size, 2, none⟩ = some (.slice E2 s.binds.length m2)) := ⟨X 2 _ rfl⟩
  have p3 : Sec ((((w.alloc (.cells #[.int .i64 s.status, .slice E1 s.goals.length m1, .slice E2 s.binds.length m2, .int .i64 s.vars, .slice E4 s.choices.length m4, .slice E5 s.top.length m5, .slice E6 s.out.length m6] 93)).alloc (.cells #[.int .i64 0, .slice none 0 0, .slice none 0 0, .int .i64 0, .slice none 0 0, .slice none 0 0, .slice none 0 0] 34))).cell? ⟨w.heap.size, 3, none⟩ = some (.int .i64 s.vars)) := ⟨X 3 _ rfl⟩
  have p4 : Sec ((((w.alloc (.cells #[.int .i64 s.status, .slice E1 s.goals.length m1, .slice E2 s.binds.length m2, .int .i64 s.vars, .slice E4 s.choices.length m4, .slice E5 s.top.length m5, .slice E6 s.out.length m6] 93)).alloc (.cells #[.int .i64 0, .slice none 0 0, .slice none 0 0, .int .i64 0, .slice none 0 0, .slice none 0 0, .slice none 0 0] 34))).cell? ⟨w.heap.size, 4, none⟩ = some (.slice E4 s.choices.length m4)) := ⟨X 4 _ rfl⟩
  have p5 : Sec ((((w.alloc (.cells #[.int .i64 s.status, .slice E1 s.goals.length m1, .slice E2 s.binds.length m2, .int .i64 s.vars, .slice E4 s.choices.length m4, .slice E5 s.top.length m5, .slice E6 s.out.length m6] 93)).alloc (.cells #[.int .i64 0, .slice none 0 0, .slice none 0 0, .int .i64 0, .slice none 0 0, .slice none 0 0, .slice none 0 0] 34))).cell? ⟨w.heap.size, 5, none⟩ = some (.slice E5 s.top.length m5)) := ⟨X 5 _ rfl⟩
  have p6 : Sec ((((w.alloc (.cells #[.int .i64 s.status, .slice E1 s.goals.length m1, .slice E2 s.binds.length m2, .int .i64 s.vars, .slice E4 s.choices.length m4, .slice E5 s.top.length m5, .slice E6 s.out.length m6] 93)).alloc (.cells #[.int .i64 0, .slice none 0 0, .slice none 0 0, .int .i64 0, .slice none 0 0, .slice none 0 0, .slice none 0 0] 34))).cell? ⟨w.heap.size, 6, none⟩ = some (.slice E6 s.out.length m6)) := ⟨X 6 _ rfl⟩
  have Z0 : Sec ((((w.alloc (.cells #[.int .i64 s.status, .slice E1 s.goals.length m1, .slice E2 s.binds.length m2, .int .i64 s.vars, .slice E4 s.choices.length m4, .slice E5 s.top.length m5, .slice E6 s.out.length m6] 93)).alloc (.cells #[.int .i64 0, .slice none 0 0, .slice none 0 0, .int .i64 0, .slice none 0 0, .slice none 0 0, .slice none 0 0] 34))).heap.size = w.heap.size + 2) := ⟨by simp⟩
  have Hz2 := Sec.mk hz2
  have L5 : Sec (s.top.length ≤ 1073741824) := ⟨by obtain ⟨_, _, _, _, _, h, _⟩ := h5; exact h⟩
  have L6 : Sec (s.out.length ≤ 1073741824) := ⟨by obtain ⟨_, _, _, _, _, h, _⟩ := h6; exact h⟩
  clear hK h1 h2 h4 h5 h6 hC2 hC4 X BB hok hz2
  have hu := Tryz.underlying93
  have hu2 := Tryz.underlying34
  have hu3 := Tryz.underlying176
  go_enter Tryz.func47, Tryz.ntmps47
  go_wp2
  generalize ((w.alloc (.cells #[.int .i64 s.status, .slice E1 s.goals.length m1, .slice E2 s.binds.length m2, .int .i64 s.vars, .slice E4 s.choices.length m4, .slice E5 s.top.length m5, .slice E6 s.out.length m6] 93)).alloc (.cells #[.int .i64 0, .slice none 0 0, .slice none 0 0, .int .i64 0, .slice none 0 0, .slice none 0 0, .slice none 0 0] 34)) = w0 at *
  refine wp_region_lists [[6], [7], [8], [9], [10], [11], [12], [13], [14], [15], [16], [17], [18], [19], [20], [21], [22], [3], [3]]
    [fun val _ _ => val 6 = .pointer (some ⟨w.heap.size, 0, none⟩),
      fun val _ _ => val 7 = .int .i64 s.status,
      fun val _ _ => val 8 = .pointer (some ⟨w.heap.size, 1, none⟩),
      fun val _ _ => val 9 = .slice E1 s.goals.length m1,
      onR kSGoal 10 s.goals,
      fun val _ _ => val 11 = .pointer (some ⟨w.heap.size, 2, none⟩),
      fun val _ _ => val 12 = .slice E2 s.binds.length m2,
      onR kBind 13 s.binds,
      fun val _ _ => val 14 = .pointer (some ⟨w.heap.size, 3, none⟩),
      fun val _ _ => val 15 = .int .i64 s.vars,
      fun val _ _ => val 16 = .pointer (some ⟨w.heap.size, 5, none⟩),
      fun val _ _ => val 17 = .slice E5 s.top.length m5,
      onR kCell 18 s.top,
      fun val _ _ => val 19 = .pointer (some ⟨w.heap.size, 6, none⟩),
      fun val _ _ => val 20 = .slice E6 s.out.length m6,
      onR kCell 21 s.out,
      onO kSState 22 (⟨s.status, s.goals, s.binds, s.vars, [], s.top, s.out⟩ : SState),
      onBox 3 #[.int .i64 0, .slice none 0 0, .slice none 0 0, .int .i64 0, .slice none 0 0, .slice none 0 0, .slice none 0 0] 34,
      onPtr kSState 3 34 (⟨s.status, s.goals, s.binds, s.vars, [], s.top, s.out⟩ : SState)]
    [[], [], [], [], [], [], [], [], [], [], [], [], [], [], [], [], [4, 7, 12, 15], [], [17, 16]] 0 (fun _ => False) (fun _ _ => False) (by kernel_rfl) ⟨by kernel_rfl, by kernel_rfl, by kernel_rfl, by kernel_rfl, by kernel_rfl⟩
    (.cons (stab_val 6 (fun v => v = .pointer (some ⟨w.heap.size, 0, none⟩))) (.cons (stab_val 7 (fun v => v = .int .i64 s.status)) (.cons (stab_val 8 (fun v => v = .pointer (some ⟨w.heap.size, 1, none⟩))) (.cons (stab_val 9 (fun v => v = .slice E1 s.goals.length m1)) (.cons (stab_R kSGoal 10 s.goals) (.cons (stab_val 11 (fun v => v = .pointer (some ⟨w.heap.size, 2, none⟩))) (.cons (stab_val 12 (fun v => v = .slice E2 s.binds.length m2)) (.cons (stab_R kBind 13 s.binds) (.cons (stab_val 14 (fun v => v = .pointer (some ⟨w.heap.size, 3, none⟩))) (.cons (stab_val 15 (fun v => v = .int .i64 s.vars)) (.cons (stab_val 16 (fun v => v = .pointer (some ⟨w.heap.size, 5, none⟩))) (.cons (stab_val 17 (fun v => v = .slice E5 s.top.length m5)) (.cons (stab_R kCell 18 s.top) (.cons (stab_val 19 (fun v => v = .pointer (some ⟨w.heap.size, 6, none⟩))) (.cons (stab_val 20 (fun v => v = .slice E6 s.out.length m6)) (.cons (stab_R kCell 21 s.out) (.cons (stab_O kSState 22 (⟨s.status, s.goals, s.binds, s.vars, [], s.top, s.out⟩ : SState)) (.cons (stab_box 3 #[.int .i64 0, .slice none 0 0, .slice none 0 0, .int .i64 0, .slice none 0 0, .slice none 0 0, .slice none 0 0] 34) (.cons (stab_ptr kSState 3 34 (⟨s.status, s.goals, s.binds, s.vars, [], s.top, s.out⟩ : SState)) .nil)))))))))))))))))))
    (fun i j k h1 h2 => h1.elim) (fun i k h => h.elim) (fun i h1 h2 => by simp at h1 h2; omega) (.cons ?_ (.cons ?_ (.cons ?_ (.cons ?_ (.cons ?_ (.cons ?_ (.cons ?_ (.cons ?_ (.cons ?_ (.cons ?_ (.cons ?_ (.cons ?_ (.cons ?_ (.cons ?_ (.cons ?_ (.cons ?_ (.cons ?_ (.cons ?_ (.cons ?_ .nil))))))))))))))))))) ?_
  · intro a W own hfor huse hap hmi hF K hK
    have e1 : a.eval (.tmp 1) = .pointer (some ⟨w.heap.size, 0, none⟩) := hfor 1 (by kernel_rfl)
    refine op_val (.pointer (some ⟨w.heap.size, 0, none⟩)) W rfl ?_ (hK _ _ (post_pure ?_))
    · clear hfor huse hap hmi hK hF
      generalize a.eval = ρ at *
      go_simp
    · exact (if_pos rfl)
  · intro a W own hfor huse hap hmi hF K hK
    have e6 : a.eval (.tmp 6) = .pointer (some ⟨w.heap.size, 0, none⟩) := huse 0 (by kernel_rfl)
    have c0 := foot_cell hF (fun h => h) p0.out
    refine op_val (.int .i64 s.status) W rfl ?_ (hK _ _ (post_pure ?_))
    · clear hfor huse hap hmi hK hF
      generalize a.eval = ρ at *
      go_simp
    · exact (if_pos rfl)
  · intro a W own hfor huse hap hmi hF K hK
    have e1 : a.eval (.tmp 1) = .pointer (some ⟨w.heap.size, 0, none⟩) := hfor 1 (by kernel_rfl)
    refine op_val (.pointer (some ⟨w.heap.size, 1, none⟩)) W rfl ?_ (hK _ _ (post_pure ?_))
    · clear hfor huse hap hmi hK hF
      generalize a.eval = ρ at *
      go_simp
    · exact (if_pos rfl)
  · intro a W own hfor huse hap hmi hF K hK
    have e8 : a.eval (.tmp 8) = .pointer (some ⟨w.heap.size, 1, none⟩) := huse 2 (by kernel_rfl)
    have c1 := foot_cell hF (fun h => h) p1.out
    refine op_val (.slice E1 s.goals.length m1) W rfl ?_ (hK _ _ (post_pure ?_))
    · clear hfor huse hap hmi hK hF
      generalize a.eval = ρ at *
      go_simp
    · exact (if_pos rfl)
  · intro a W own hfor huse hap hmi hF K hK
    have e9 : a.eval (.tmp 9) = .slice E1 s.goals.length m1 := huse 3 (by kernel_rfl)
    have efn : a.eval (.func 119) = .func (.func 119) #[] #[] := rfl
    refine op_call (f := 119) (args := #[.slice E1 s.goals.length m1]) (fun v w1 => kSGoal.R w1 (fun k => W.heap.size ≤ k) v s.goals ∧ Below W.heap.size W w1) rfl ?_ ?_ (fun v w1 h => ?_)
    · clear hfor huse hap hmi hK hF
      generalize a.eval = ρ at *
      go_simp
    · exact (goalsOf_i _ s.goals ok W (foot_V hF (fun _ _ h => h) V1.out (by decide))).mono (by rintro e w1 ⟨u, rfl, h1, h2⟩; exact ⟨_, rfl, h1, h2⟩)
    · obtain ⟨h1, h2⟩ := h
      exact hK _ _ (post_new h2 (by show kSGoal.R _ _ (if _ then _ else _) s.goals; rw [if_pos rfl]; exact Kd.R_mono h1 (fun k h3 h4 => ⟨h3, h4⟩)))
  · intro a W own hfor huse hap hmi hF K hK
    have e1 : a.eval (.tmp 1) = .pointer (some ⟨w.heap.size, 0, none⟩) := hfor 1 (by kernel_rfl)
    refine op_val (.pointer (some ⟨w.heap.size, 2, none⟩)) W rfl ?_ (hK _ _ (post_pure ?_))
    · clear hfor huse hap hmi hK hF
      generalize a.eval = ρ at *
      go_simp
    · exact (if_pos rfl)
  · intro a W own hfor huse hap hmi hF K hK
    have e11 : a.eval (.tmp 11) = .pointer (some ⟨w.heap.size, 2, none⟩) := huse 5 (by kernel_rfl)
    have c2 := foot_cell hF (fun h => h) p2.out
    refine op_val (.slice E2 s.binds.length m2) W rfl ?_ (hK _ _ (post_pure ?_))
    · clear hfor huse hap hmi hK hF
      generalize a.eval = ρ at *
      go_simp
    · exact (if_pos rfl)
  · intro a W own hfor huse hap hmi hF K hK
    have e12 : a.eval (.tmp 12) = .slice E2 s.binds.length m2 := huse 6 (by kernel_rfl)
    have efn : a.eval (.func 120) = .func (.func 120) #[] #[] := rfl
    refine op_call (f := 120) (args := #[.slice E2 s.binds.length m2]) (fun v w1 => kBind.R w1 (fun k => W.heap.size ≤ k) v s.binds ∧ Below W.heap.size W w1) rfl ?_ ?_ (fun v w1 h => ?_)
    · clear hfor huse hap hmi hK hF
      generalize a.eval = ρ at *
      go_simp
    · exact (copiedBinds_i _ s.binds ok W (foot_V hF (fun _ _ h => h) V2.out (by decide))).mono (by rintro e w1 ⟨u, rfl, h1, h2⟩; exact ⟨_, rfl, h1, h2⟩)
    · obtain ⟨h1, h2⟩ := h
      exact hK _ _ (post_new h2 (by show kBind.R _ _ (if _ then _ else _) s.binds; rw [if_pos rfl]; exact Kd.R_mono h1 (fun k h3 h4 => ⟨h3, h4⟩)))
  · intro a W own hfor huse hap hmi hF K hK
    have e1 : a.eval (.tmp 1) = .pointer (some ⟨w.heap.size, 0, none⟩) := hfor 1 (by kernel_rfl)
    refine op_val (.pointer (some ⟨w.heap.size, 3, none⟩)) W rfl ?_ (hK _ _ (post_pure ?_))
    · clear hfor huse hap hmi hK hF
      generalize a.eval = ρ at *
      go_simp
    · exact (if_pos rfl)
  · intro a W own hfor huse hap hmi hF K hK
    have e14 : a.eval (.tmp 14) = .pointer (some ⟨w.heap.size, 3, none⟩) := huse 8 (by kernel_rfl)
    have c3 := foot_cell hF (fun h => h) p3.out
    refine op_val (.int .i64 s.vars) W rfl ?_ (hK _ _ (post_pure ?_))
    · clear hfor huse hap hmi hK hF
      generalize a.eval = ρ at *
      go_simp
    · exact (if_pos rfl)
  · intro a W own hfor huse hap hmi hF K hK
    have e1 : a.eval (.tmp 1) = .pointer (some ⟨w.heap.size, 0, none⟩) := hfor 1 (by kernel_rfl)
    refine op_val (.pointer (some ⟨w.heap.size, 5, none⟩)) W rfl ?_ (hK _ _ (post_pure ?_))
    · clear hfor huse hap hmi hK hF
      generalize a.eval = ρ at *
      go_simp
    · exact (if_pos rfl)
  · intro a W own hfor huse hap hmi hF K hK
    have e16 : a.eval (.tmp 16) = .pointer (some ⟨w.heap.size, 5, none⟩) := huse 10 (by kernel_rfl)
    have c5 := foot_cell hF (fun h => h) p5.out
    refine op_val (.slice E5 s.top.length m5) W rfl ?_ (hK _ _ (post_pure ?_))
    · clear hfor huse hap hmi hK hF
      generalize a.eval = ρ at *
      go_simp
    · exact (if_pos rfl)
  · intro a W own hfor huse hap hmi hF K hK
    have e17 : a.eval (.tmp 17) = .slice E5 s.top.length m5 := huse 11 (by kernel_rfl)
    have efn : a.eval (.func 72) = .func (.func 72) #[] #[] := rfl
    refine op_call (f := 72) (args := #[.slice E5 s.top.length m5]) (fun v w1 => kCell.R w1 (fun k => W.heap.size ≤ k) v s.top ∧ Below W.heap.size W w1) rfl ?_ ?_ (fun v w1 h => ?_)
    · clear hfor huse hap hmi hK hF
      generalize a.eval = ρ at *
      go_simp
    · exact (cloneCells_c _ s.top ok W (foot_V hF (fun _ _ h => h) V5.out (by decide))).mono (by rintro e w1 ⟨u, rfl, h1, h2⟩; exact ⟨_, rfl, h1, h2⟩)
    · obtain ⟨h1, h2⟩ := h
      exact hK _ _ (post_new h2 (by show kCell.R _ _ (if _ then _ else _) s.top; rw [if_pos rfl]; exact Kd.R_mono h1 (fun k h3 h4 => ⟨h3, h4⟩)))
  · intro a W own hfor huse hap hmi hF K hK
    have e1 : a.eval (.tmp 1) = .pointer (some ⟨w.heap.size, 0, none⟩) := hfor 1 (by kernel_rfl)
    refine op_val (.pointer (some ⟨w.heap.size, 6, none⟩)) W rfl ?_ (hK _ _ (post_pure ?_))
    · clear hfor huse hap hmi hK hF
      generalize a.eval = ρ at *
      go_simp
    · exact (if_pos rfl)
  · intro a W own hfor huse hap hmi hF K hK
    have e19 : a.eval (.tmp 19) = .pointer (some ⟨w.heap.size, 6, none⟩) := huse 13 (by kernel_rfl)
    have c6 := foot_cell hF (fun h => h) p6.out
    refine op_val (.slice E6 s.out.length m6) W rfl ?_ (hK _ _ (post_pure ?_))
    · clear hfor huse hap hmi hK hF
      generalize a.eval = ρ at *
      go_simp
    · exact (if_pos rfl)
  · intro a W own hfor huse hap hmi hF K hK
    have e20 : a.eval (.tmp 20) = .slice E6 s.out.length m6 := huse 14 (by kernel_rfl)
    have efn : a.eval (.func 72) = .func (.func 72) #[] #[] := rfl
    refine op_call (f := 72) (args := #[.slice E6 s.out.length m6]) (fun v w1 => kCell.R w1 (fun k => W.heap.size ≤ k) v s.out ∧ Below W.heap.size W w1) rfl ?_ ?_ (fun v w1 h => ?_)
    · clear hfor huse hap hmi hK hF
      generalize a.eval = ρ at *
      go_simp
    · exact (cloneCells_c _ s.out ok W (foot_V hF (fun _ _ h => h) V6.out (by decide))).mono (by rintro e w1 ⟨u, rfl, h1, h2⟩; exact ⟨_, rfl, h1, h2⟩)
    · obtain ⟨h1, h2⟩ := h
      exact hK _ _ (post_new h2 (by show kCell.R _ _ (if _ then _ else _) s.out; rw [if_pos rfl]; exact Kd.R_mono h1 (fun k h3 h4 => ⟨h3, h4⟩)))
  · intro a W own hfor huse hap hmi hF K hK
    have e7 : a.eval (.tmp 7) = .int .i64 s.status := huse 1 (by kernel_rfl)
    have e15 : a.eval (.tmp 15) = .int .i64 s.vars := huse 9 (by kernel_rfl)
    have r4 : kSGoal.R W (own 4) (a.eval (.tmp 10)) s.goals := huse 4 (by kernel_rfl)
    obtain ⟨A4, n4, e10, -, -⟩ := Kd.R_form r4
    rw [e10] at r4
    have r7 : kBind.R W (own 7) (a.eval (.tmp 13)) s.binds := huse 7 (by kernel_rfl)
    obtain ⟨A7, n7, e13, -, -⟩ := Kd.R_form r7
    rw [e13] at r7
    have r12 : kCell.R W (own 12) (a.eval (.tmp 18)) s.top := huse 12 (by kernel_rfl)
    obtain ⟨A12, n12, e18, -, -⟩ := Kd.R_form r12
    rw [e18] at r12
    have r15 : kCell.R W (own 15) (a.eval (.tmp 21)) s.out := huse 15 (by kernel_rfl)
    obtain ⟨A15, n15, e21, -, -⟩ := Kd.R_form r15
    rw [e21] at r15
    refine op_val (.agg #[.int .i64 s.status, .slice A4 s.goals.length n4, .slice A7 s.binds.length n7, .int .i64 s.vars, .slice none 0 0, .slice A12 s.top.length n12, .slice A15 s.out.length n15]) W rfl ?_ (hK _ _ ⟨fun k => own 4 k ∨ own 7 k ∨ own 12 k ∨ own 15 k, Foot.refl _ _, ⟨[.int .i64 s.status, .slice A4 s.goals.length n4, .slice A7 s.binds.length n7, .int .i64 s.vars, .slice none 0 0, .slice A12 s.top.length n12, .slice A15 s.out.length n15], if_pos rfl, kSState_of rfl r4 r7 r12 r15 (fun k h1 h2 => by have := hap 4 7 k h1 h2; omega) (fun k h1 h2 => by have := hap 4 12 k h1 h2; omega) (fun k h1 h2 => by have := hap 4 15 k h1 h2; omega) (fun k h1 h2 => by have := hap 7 12 k h1 h2; omega) (fun k h1 h2 => by have := hap 7 15 k h1 h2; omega) (fun k h1 h2 => by have := hap 12 15 k h1 h2; omega)⟩, ?_⟩)
    · clear hfor huse hap hmi hK hF
      generalize a.eval = ρ at *
      go_simp
    · intro k h
      left
      rcases h with h | h | h | h
      · exact ⟨4, by decide, h⟩
      · exact ⟨7, by decide, h⟩
      · exact ⟨12, by decide, h⟩
      · exact ⟨15, by decide, h⟩
  · intro a W own hfor huse hap hmi hF K hK
    refine op_val (.pointer (some ⟨W.heap.size, 0, none⟩)) (W.alloc (.cells #[.int .i64 0, .slice none 0 0, .slice none 0 0, .int .i64 0, .slice none 0 0, .slice none 0 0, .slice none 0 0] 34)) rfl ?_ (hK _ _ (post_new (belA (Below.refl _ _) _) ⟨W.heap.size, if_pos rfl, heap_alloc_new W _, Nat.le_refl _, by simp⟩))
    · clear hfor huse hap hmi hK hF
      generalize a.eval = ρ at *
      go_simp
  · intro a W own hfor huse hap hmi hF K hK
    obtain ⟨g, e3, hb, hSg⟩ := (huse 17 (by kernel_rfl) : onBox 3 #[.int .i64 0, .slice none 0 0, .slice none 0 0, .int .i64 0, .slice none 0 0, .slice none 0 0, .slice none 0 0] 34 (slotsOf a) (own 17) W)
    have e3 : a.eval (.tmp 3) = .pointer (some ⟨g, 0, none⟩) := e3
    obtain ⟨cs16, e22, r16⟩ := (huse 16 (by kernel_rfl) : onO kSState 22 (⟨s.status, s.goals, s.binds, s.vars, [], s.top, s.out⟩ : SState) (slotsOf a) (own 16) W)
    have e22 : a.eval (.tmp 22) = .agg cs16.toArray := e22
    have hlen := kSState.K_len (kSState.O_K r16)
    refine step_store rfl 34 (.tmp 3) (.tmp 22) rfl e3 e22 hb (by rw [hlen]; kernel_rfl) (by rw [hlen]; rfl) (kSState.K_one (kSState.O_K r16)) (fun w1 hb1 hF1 => hK _ _ ⟨fun k => own 17 k ∨ own 16 k, Foot.mono hF1 (fun k e => ⟨17, by decide, e ▸ hSg⟩), ?_, ?_⟩)
    · exact ⟨g, cs16, e3, hb1, .inl hSg, Kd.O_mono (hF1.O r16 (fun k h1 h2 => by have := hap 17 16 g hSg (h2 ▸ h1); omega)) (fun k h _ => ⟨.inr h, fun e => by have := hap 17 16 g hSg (e ▸ h); omega⟩)⟩
    · intro k h
      left
      rcases h with h | h
      · exact ⟨17, by decide, h⟩
      · exact ⟨16, by decide, h⟩
  intro a' W own hf
  have hsz := hf.st.size
  have hdf := hf.st.rest
  obtain ⟨⟨l⟩, df⟩ := a'
  have hl0 : l.length = 62 := hsz
  clear hsz
  obtain rfl : df = [] := hdf
  obtain ⟨x0, l0, rfl, hl1⟩ := lst_cons hl0
  clear hl0
  obtain ⟨x1, l1, rfl, hl2⟩ := lst_cons hl1
  clear hl1
  obtain ⟨x2, l2, rfl, hl3⟩ := lst_cons hl2
  clear hl2
  obtain ⟨x3, l3, rfl, hl4⟩ := lst_cons hl3
  clear hl3
  obtain ⟨x4, l4, rfl, hl5⟩ := lst_cons hl4
  clear hl4
  obtain ⟨x5, l5, rfl, hl6⟩ := lst_cons hl5
  clear hl5
  obtain ⟨x6, l6, rfl, hl7⟩ := lst_cons hl6
  clear hl6
  obtain ⟨x7, l7, rfl, hl8⟩ := lst_cons hl7
  clear hl7
  obtain ⟨x8, l8, rfl, hl9⟩ := lst_cons hl8
  clear hl8
  obtain ⟨x9, l9, rfl, hl10⟩ := lst_cons hl9
  clear hl9
  obtain ⟨x10, l10, rfl, hl11⟩ := lst_cons hl10
  clear hl10
  obtain ⟨x11, l11, rfl, hl12⟩ := lst_cons hl11
  clear hl11
  obtain ⟨x12, l12, rfl, hl13⟩ := lst_cons hl12
  clear hl12
  obtain ⟨x13, l13, rfl, hl14⟩ := lst_cons hl13
  clear hl13
  obtain ⟨x14, l14, rfl, hl15⟩ := lst_cons hl14
  clear hl14
  obtain ⟨x15, l15, rfl, hl16⟩ := lst_cons hl15
  clear hl15
  obtain ⟨x16, l16, rfl, hl17⟩ := lst_cons hl16
  clear hl16
  obtain ⟨x17, l17, rfl, hl18⟩ := lst_cons hl17
  clear hl17
  obtain ⟨x18, l18, rfl, hl19⟩ := lst_cons hl18
  clear hl18
  obtain ⟨x19, l19, rfl, hl20⟩ := lst_cons hl19
  clear hl19
  obtain ⟨x20, l20, rfl, hl21⟩ := lst_cons hl20
  clear hl20
  obtain ⟨x21, l21, rfl, hl22⟩ := lst_cons hl21
  clear hl21
  obtain ⟨x22, l22, rfl, hl23⟩ := lst_cons hl22
  clear hl22
  obtain ⟨x23, l23, rfl, hl24⟩ := lst_cons hl23
  clear hl23
  obtain ⟨x24, l24, rfl, hl25⟩ := lst_cons hl24
  clear hl24
  obtain ⟨x25, l25, rfl, hl26⟩ := lst_cons hl25
  clear hl25
  obtain ⟨x26, l26, rfl, hl27⟩ := lst_cons hl26
  clear hl26
  obtain ⟨x27, l27, rfl, hl28⟩ := lst_cons hl27
  clear hl27
  obtain ⟨x28, l28, rfl, hl29⟩ := lst_cons hl28
  clear hl28
  obtain ⟨x29, l29, rfl, hl30⟩ := lst_cons hl29
  clear hl29
  obtain ⟨x30, l30, rfl, hl31⟩ := lst_cons hl30
  clear hl30
  obtain ⟨x31, l31, rfl, hl32⟩ := lst_cons hl31
  clear hl31
  obtain ⟨x32, l32, rfl, hl33⟩ := lst_cons hl32
  clear hl32
  obtain ⟨x33, l33, rfl, hl34⟩ := lst_cons hl33
  clear hl33
  obtain ⟨x34, l34, rfl, hl35⟩ := lst_cons hl34
  clear hl34
  obtain ⟨x35, l35, rfl, hl36⟩ := lst_cons hl35
  clear hl35
  obtain ⟨x36, l36, rfl, hl37⟩ := lst_cons hl36
  clear hl36
  obtain ⟨x37, l37, rfl, hl38⟩ := lst_cons hl37
  clear hl37
  obtain ⟨x38, l38, rfl, hl39⟩ := lst_cons hl38
  clear hl38
  obtain ⟨x39, l39, rfl, hl40⟩ := lst_cons hl39
  clear hl39
  obtain ⟨x40, l40, rfl, hl41⟩ := lst_cons hl40
  clear hl40
  obtain ⟨x41, l41, rfl, hl42⟩ := lst_cons hl41
  clear hl41
  obtain ⟨x42, l42, rfl, hl43⟩ := lst_cons hl42
  clear hl42
  obtain ⟨x43, l43, rfl, hl44⟩ := lst_cons hl43
  clear hl43
  obtain ⟨x44, l44, rfl, hl45⟩ := lst_cons hl44
  clear hl44
  obtain ⟨x45, l45, rfl, hl46⟩ := lst_cons hl45
  clear hl45
  obtain ⟨x46, l46, rfl, hl47⟩ := lst_cons hl46
  clear hl46
  obtain ⟨x47, l47, rfl, hl48⟩ := lst_cons hl47
  clear hl47
  obtain ⟨x48, l48, rfl, hl49⟩ := lst_cons hl48
  clear hl48
  obtain ⟨x49, l49, rfl, hl50⟩ := lst_cons hl49
  clear hl49
  obtain ⟨x50, l50, rfl, hl51⟩ := lst_cons hl50
  clear hl50
  obtain ⟨x51, l51, rfl, hl52⟩ := lst_cons hl51
  clear hl51
  obtain ⟨x52, l52, rfl, hl53⟩ := lst_cons hl52
  clear hl52
  obtain ⟨x53, l53, rfl, hl54⟩ := lst_cons hl53
  clear hl53
  obtain ⟨x54, l54, rfl, hl55⟩ := lst_cons hl54
  clear hl54
  obtain ⟨x55, l55, rfl, hl56⟩ := lst_cons hl55
  clear hl55
  obtain ⟨x56, l56, rfl, hl57⟩ := lst_cons hl56
  clear hl56
  obtain ⟨x57, l57, rfl, hl58⟩ := lst_cons hl57
  clear hl57
  obtain ⟨x58, l58, rfl, hl59⟩ := lst_cons hl58
  clear hl58
  obtain ⟨x59, l59, rfl, hl60⟩ := lst_cons hl59
  clear hl59
  obtain ⟨x60, l60, rfl, hl61⟩ := lst_cons hl60
  clear hl60
  obtain ⟨x61, l61, rfl, hl62⟩ := lst_cons hl61
  clear hl61
  obtain rfl := List.eq_nil_of_length_eq_zero hl62
  have e0 := hf.st.kept 0 (by kernel_rfl)
  simp only [slotsOf, Act.eval, Array.getD_eq_getD_getElem?, List.getElem?_toArray, List.getElem?_cons_zero, Option.getD_some] at e0
  subst e0
  have e1 := hf.st.kept 1 (by kernel_rfl)
  simp only [slotsOf, Act.eval, Array.getD_eq_getD_getElem?, List.getElem?_toArray, List.getElem?_cons_succ, List.getElem?_cons_zero, Option.getD_some] at e1
  subst e1
  have e2 := hf.st.kept 2 (by kernel_rfl)
  simp only [slotsOf, Act.eval, Array.getD_eq_getD_getElem?, List.getElem?_toArray, List.getElem?_cons_succ, List.getElem?_cons_zero, Option.getD_some] at e2
  subst e2
  obtain ⟨g, cs, e3, hb, hSg, hO⟩ := (hf.at 18 (onPtr kSState 3 34 (⟨s.status, s.goals, s.binds, s.vars, [], s.top, s.out⟩ : SState)) rfl (by kernel_rfl))
  have e3 : x3 = .pointer (some ⟨g, 0, none⟩) := e3
  subst e3
  have hmn := fun k => (hf.st.mine 18 k)
  have BW : Below w0.heap.size w0 W := (hf.st.foot).below (belD (Below.refl _ _)) (fun k h => h.elim)
  have hg2 : w.heap.size + 2 ≤ g := by
    have := (hmn g hSg).1
    rw [← Z0.out]
    exact this.elim id (fun h => h.elim)
  obtain ⟨c0, c2, v, Sr, Sc, hl0, -, HG⟩ := Growing.start (n0 := w.heap.size + 2) gf_choices hb hO (fun k hk => ⟨by
    have := (hmn k hk.1).1
    rw [← Z0.out]
    exact this.elim id (fun h => h.elim), hk.2⟩) hg2
  have GS := Sec.mk HG
  have HBW := Sec.mk (bel B0.out BW)
  have PW := Sec.mk ((BW.block _ (by rw [Z0.out]; omega)).trans P0.out)
  have RW := Sec.mk ((BW.block _ (by rw [Z0.out]; omega)).trans P1.out)
  have C2W := Sec.mk (Kd.C_below C2.out BW (by decide))
  have C4W := Sec.mk (Kd.C_below C4.out BW (by decide))
  clear HG hmn BW hf hO hb hSg
  have X := (box_at PW.out).2.1
  have q0 : W.cell? ⟨w.heap.size, 0, none⟩ = some (.int .i64 s.status) := X 0 _ rfl
  have q1 : W.cell? ⟨w.heap.size, 1, none⟩ = some (.slice E1 s.goals.length m1) := X 1 _ rfl
  have q2 : W.cell? ⟨w.heap.size, 2, none⟩ = some (.slice E2 s.binds.length m2) := X 2 _ rfl
  have q3 : W.cell? ⟨w.heap.size, 3, none⟩ = some (.int .i64 s.vars) := X 3 _ rfl
  have q4 : W.cell? ⟨w.heap.size, 4, none⟩ = some (.slice E4 s.choices.length m4) := X 4 _ rfl
  have q5 : W.cell? ⟨w.heap.size, 5, none⟩ = some (.slice E5 s.top.length m5) := X 5 _ rfl
  have q6 : W.cell? ⟨w.heap.size, 6, none⟩ = some (.slice E6 s.out.length m6) := X 6 _ rfl
  clear X
  go_wp2
  go_loopw [26] (fun iv wr => ∃ k : Nat, k ≤ s.choices.length ∧ iv = .int .i64 k ∧ Sec ((s.choices.take k).all (markIn s) = true) ∧ Sec (∃ v Sr Sc, Growing kSState kSChoice 32 (by decide) (fun y => (⟨s.status, s.goals, s.binds, s.vars, y, s.top, s.out⟩ : SState)) g (w.heap.size + 2) c0 c2 34 wr v ((s.choices.take k).map (viewC s)) Sr Sc) ∧ Sec (Below w.heap.size w wr ∧ wr.heap[w.heap.size]? = some (.cells #[.int .i64 s.status, .slice E1 s.goals.length m1, .slice E2 s.binds.length m2, .int .i64 s.vars, .slice E4 s.choices.length m4, .slice E5 s.top.length m5, .slice E6 s.out.length m6] 93) ∧ wr.heap[w.heap.size + 1]? = some (.cells #[.int .i64 0, .slice none 0 0, .slice none 0 0, .int .i64 0, .slice none 0 0, .slice none 0 0, .slice none 0 0] 34) ∧ kBind.C wr ok E2 s.binds ∧ kTChoice.C wr ok E4 s.choices)) (fun iv _ => s.choices.length - (intOf iv).toNat)
  case atStart => exact ⟨0, Nat.zero_le _, rfl, ⟨rfl⟩, ⟨_, _, _, GS.out⟩, ⟨HBW.out, PW.out, RW.out, C2W.out, C4W.out⟩⟩
  case round =>
    obtain ⟨k, hk, rfl, hA, hG, hW⟩ := hrel
    by_cases hlt : k < s.choices.length
    · obtain ⟨b, off, ccs, hE4, hob, hKc, hcc⟩ := Kd.C_get hW.out.2.2.2.2 (List.getElem?_eq_getElem hlt)
      subst hE4
      have hT : Sec (s.choices.take (k + 1) = s.choices.take k ++ [s.choices[k]]) := ⟨List.take_succ_eq_append_getElem hlt⟩
      have hall : Sec ((s.choices.take (k + 1)).all (markIn s) = ((s.choices.take k).all (markIn s) && markIn s s.choices[k])) := ⟨take_all _ _ _ hlt⟩
      have hmem : Sec (s.choices[k] ∈ s.choices) := ⟨List.getElem_mem hlt⟩
      generalize s.choices[k] = c at *
      obtain ⟨v0, v3, rfl, hv0, hv3⟩ := kTChoice_K hKc
      obtain ⟨D0, d0, rfl, -⟩ := id hv0
      obtain ⟨D3, d3, rfl, -⟩ := id hv3
      have a0 : wr.cell? ⟨b, off + k * 6, none⟩ = some (.slice D0 c.goals.length d0) := hcc 0 _ rfl
      have a1 : wr.cell? ⟨b, off + k * 6 + 1, none⟩ = some (.int .i64 c.mark) := hcc 1 _ rfl
      have a2 : wr.cell? ⟨b, off + k * 6 + 2, none⟩ = some (.int .i64 c.vars) := hcc 2 _ rfl
      have a3 : wr.cell? ⟨b, off + k * 6 + 3, none⟩ = some (.slice D3 c.call.length d3) := hcc 3 _ rfl
      have a4 : wr.cell? ⟨b, off + k * 6 + 4, none⟩ = some (.int .i64 c.next) := hcc 4 _ rfl
      have a5 : wr.cell? ⟨b, off + k * 6 + 5, none⟩ = some (.int .i64 c.far) := hcc 5 _ rfl
      obtain ⟨v, Sr, Sc, HG0⟩ := hG.out
      have hrl := HG0.row.1
      obtain ⟨Av, nv, rfl, -, -⟩ := Kd.R_form HG0.row
      have i0 : (0 : Int) ≤ (k : Int) := by omega
      have w4 : wr.cell? ⟨w.heap.size, 4, none⟩ = some (.slice (some ⟨b, off, none⟩) s.choices.length m4) := (box_at hW.out.2.1).2.1 4 _ rfl
      have i1 : (k : Int) < (s.choices.length : Int) := by omega
      have WB := belA (Below.refl wr.heap.size wr) (.cells #[.slice D0 c.goals.length d0, .int .i64 c.mark, .int .i64 c.vars, .slice D3 c.call.length d3, .int .i64 c.next, .int .i64 c.far] 176)
      have hq0 := Sec.mk ((WB.block _ (Array.getElem?_eq_some_iff.1 hW.out.2.1).1).trans hW.out.2.1)
      have hq1 := Sec.mk ((WB.block _ (Array.getElem?_eq_some_iff.1 hW.out.2.2.1).1).trans hW.out.2.2.1)
      have XP := (box_at hq0.out).2.1
      have p2q : Sec ((wr.alloc (.cells #[.slice D0 c.goals.length d0, .int .i64 c.mark, .int .i64 c.vars, .slice D3 c.call.length d3, .int .i64 c.next, .int .i64 c.far] 176)).cell? ⟨w.heap.size, 2, none⟩ = some (.slice E2 s.binds.length m2)) := ⟨XP 2 _ rfl⟩
      have pp2 := p2q.out
      have p4q : Sec ((wr.alloc (.cells #[.slice D0 c.goals.length d0, .int .i64 c.mark, .int .i64 c.vars, .slice D3 c.call.length d3, .int .i64 c.next, .int .i64 c.far] 176)).cell? ⟨w.heap.size, 4, none⟩ = some (.slice (some ⟨b, off, none⟩) s.choices.length m4)) := ⟨XP 4 _ rfl⟩
      have pp4 := p4q.out
      have XC := (box_at (heap_alloc_new wr (.cells #[.slice D0 c.goals.length d0, .int .i64 c.mark, .int .i64 c.vars, .slice D3 c.call.length d3, .int .i64 c.next, .int .i64 c.far] 176))).2.1
      have cc0 : Sec ((wr.alloc (.cells #[.slice D0 c.goals.length d0, .int .i64 c.mark, .int .i64 c.vars, .slice D3 c.call.length d3, .int .i64 c.next, .int .i64 c.far] 176)).cell? ⟨wr.heap.size, 0, none⟩ = some (.slice D0 c.goals.length d0)) := ⟨XC 0 _ rfl⟩
      have cc1 : Sec ((wr.alloc (.cells #[.slice D0 c.goals.length d0, .int .i64 c.mark, .int .i64 c.vars, .slice D3 c.call.length d3, .int .i64 c.next, .int .i64 c.far] 176)).cell? ⟨wr.heap.size, 1, none⟩ = some (.int .i64 c.mark)) := ⟨XC 1 _ rfl⟩
      have cc2 : Sec ((wr.alloc (.cells #[.slice D0 c.goals.length d0, .int .i64 c.mark, .int .i64 c.vars, .slice D3 c.call.length d3, .int .i64 c.next, .int .i64 c.far] 176)).cell? ⟨wr.heap.size, 2, none⟩ = some (.int .i64 c.vars)) := ⟨XC 2 _ rfl⟩
      have cc3 : Sec ((wr.alloc (.cells #[.slice D0 c.goals.length d0, .int .i64 c.mark, .int .i64 c.vars, .slice D3 c.call.length d3, .int .i64 c.next, .int .i64 c.far] 176)).cell? ⟨wr.heap.size, 3, none⟩ = some (.slice D3 c.call.length d3)) := ⟨XC 3 _ rfl⟩
      have cc4 : Sec ((wr.alloc (.cells #[.slice D0 c.goals.length d0, .int .i64 c.mark, .int .i64 c.vars, .slice D3 c.call.length d3, .int .i64 c.next, .int .i64 c.far] 176)).cell? ⟨wr.heap.size, 4, none⟩ = some (.int .i64 c.next)) := ⟨XC 4 _ rfl⟩
      have cc5 : Sec ((wr.alloc (.cells #[.slice D0 c.goals.length d0, .int .i64 c.mark, .int .i64 c.vars, .slice D3 c.call.length d3, .int .i64 c.next, .int .i64 c.far] 176)).cell? ⟨wr.heap.size, 5, none⟩ = some (.int .i64 c.far)) := ⟨XC 5 _ rfl⟩
      have HB7 := Sec.mk (belA hW.out.1 (.cells #[.slice D0 c.goals.length d0, .int .i64 c.mark, .int .i64 c.vars, .slice D3 c.call.length d3, .int .i64 c.next, .int .i64 c.far] 176))
      have HG := Sec.mk (HG0.below WB)
      have VC0 := Sec.mk (Kd.V_below hv0 WB (by decide))
      have VC3 := Sec.mk (Kd.V_below hv3 WB (by decide))
      have CB7 := Sec.mk (Kd.C_below hW.out.2.2.2.1 WB (by decide))
      have CC7 := Sec.mk (Kd.C_below hW.out.2.2.2.2 WB (by decide))
      have nOK : ∀ q, ok q → ¬ (q = g ∨ Sc q) := fun q h1 h2 => by
        have h3 := HOK.out q h1
        rcases h2 with h2 | h2
        · have := HG0.at_; omega
        · have := (HG0.mine q (.inr h2)).1; omega
      have nC : ¬ (wr.heap.size = g ∨ Sc wr.heap.size) := fun h => by
        rcases h with h | h
        · have := (Array.getElem?_eq_some_iff.1 HG0.box).1; omega
        · have := (HG0.mine _ (.inr h)).2.1; omega
      have nP : ∀ q, q < w.heap.size + 2 → ¬ (q = g ∨ Sc q) := fun q h1 h2 => by
        rcases h2 with h2 | h2
        · have := HG0.at_; omega
        · have := (HG0.mine q (.inr h2)).1; omega
      have nW : ∀ q, (q = g ∨ Sc q) → w.heap.size ≤ q := fun q h => by
        rcases h with h | h
        · have := HG0.at_; omega
        · have := (HG0.mine q (.inr h)).1; omega
      have NOK := Sec.mk nOK
      have NC := Sec.mk nC
      have NP := Sec.mk nP
      have NW := Sec.mk nW
      cases hmi : markIn s c with
      | true =>
        have Hmi := Sec.mk hmi
        obtain ⟨mk, hmk, hmk2⟩ : ∃ mk : Nat, c.mark = (mk : Int) ∧ mk ≤ s.binds.length := by
          unfold markIn inB at hmi
          simp at hmi
          exact ⟨c.mark.toNat, by omega, by omega⟩
        have HMK := Sec.mk hmk
        have hvw : Sec (viewC s c = ⟨c.goals, s.binds.take mk, c.vars, c.call, c.next⟩) := ⟨by unfold viewC; rw [hmk]; rfl⟩
        have VCB : Sec (kBind.V (wr.alloc (.cells #[.slice D0 c.goals.length d0, .int .i64 c.mark, .int .i64 c.vars, .slice D3 c.call.length d3, .int .i64 c.next, .int .i64 c.far] 176)) ok (.slice E2 mk m2) (s.binds.take mk)) := ⟨by
          have hl : (s.binds.take mk).length = mk := by rw [List.length_take]; omega
          exact ⟨E2, m2, by rw [hl], by omega, hm3, by omega, Kd.C_take CB7.out mk, Hz2.out⟩⟩
        have hLd : Sec (((s.choices.take k).map (viewC s)).length + 1 ≤ 1073741824) := ⟨by rw [List.length_map, List.length_take]; omega⟩
        have HDN : Sec (∀ c, s.choices.take (k + 1) = s.choices.take k ++ [c] → (s.choices.take k).map (viewC s) ++ [viewC s c] = (s.choices.take (k + 1)).map (viewC s)) := ⟨fun c h => by rw [h, List.map_append]; rfl⟩
        generalize ((s.choices.take k).map (viewC s)) = done at *
        have Q1 : ¬ c.mark < 0 := by omega
        have Q2 : ¬ (s.binds.length : Int) < c.mark := by omega
        have LC3 : Sec (c.call.length ≤ 1073741824) := ⟨by obtain ⟨_, _, _, _, _, h, _⟩ := hv3; exact h⟩
        have hwq : Sec (w.heap.size ≤ (wr.alloc (.cells #[.slice D0 c.goals.length d0, .int .i64 c.mark, .int .i64 c.vars, .slice D3 c.call.length d3, .int .i64 c.next, .int .i64 c.far] 176)).heap.size) := ⟨HB7.out.size⟩
        clear hmi hmk hKc hcc hv0 hv3 XP XC HG0 WB nOK nC nP nW hG hob hrl
        go_wp2_with (go_at_call 121; refine (in_c _ _ _ _).mono ?_; rw [show inB c.mark 0 (s.binds.length : Int) = true from Hmi.out]; rintro e w9 ⟨rfl, rfl⟩)
        generalize wr.alloc (.cells #[.slice D0 c.goals.length d0, .int .i64 c.mark, .int .i64 c.vars, .slice D3 c.call.length d3, .int .i64 c.next, .int .i64 c.far] 176) = wq at *
        generalize wr.heap.size = cb at *
        have nOK := NOK.out
        have nC := NC.out
        have nP := NP.out w.heap.size (by omega)
        have hmk := HMK.out
        have j0 : (0 : Int) ≤ (mk : Int) := by omega
        have j1 : (mk : Int) ≤ (m2 : Int) := by omega
        refine wp_region_lists [[38], [39], [40], [41], [42], [43], [44], [45], [46], [47], [48], [49], [50], [51], [52], [53], [54], [55], [56], [57], [58], [59], [], [], []]
          [fun val _ _ => val 38 = .pointer (some ⟨g, 4, none⟩),
            fun val _ _ => val 39 = (.slice Av done.length nv),
            fun val _ _ => val 40 = .pointer (some ⟨cb, 0, none⟩),
            fun val _ _ => val 41 = .slice D0 c.goals.length d0,
            onR kSGoal 42 c.goals,
            fun val _ _ => val 43 = .pointer (some ⟨w.heap.size, 2, none⟩),
            fun val _ _ => val 44 = .slice E2 s.binds.length m2,
            fun val _ _ => val 45 = .pointer (some ⟨cb, 1, none⟩),
            fun val _ _ => val 46 = .int .i64 c.mark,
            fun val _ _ => val 47 = .slice E2 mk m2,
            onR kBind 48 (s.binds.take mk),
            fun val _ _ => val 49 = .pointer (some ⟨cb, 2, none⟩),
            fun val _ _ => val 50 = .int .i64 c.vars,
            fun val _ _ => val 51 = .pointer (some ⟨cb, 3, none⟩),
            fun val _ _ => val 52 = .slice D3 c.call.length d3,
            onR kCell 53 c.call,
            fun val _ _ => val 54 = .pointer (some ⟨cb, 4, none⟩),
            fun val _ _ => val 55 = .int .i64 c.next,
            onO kSChoice 56 (⟨c.goals, s.binds.take mk, c.vars, c.call, c.next⟩ : SChoice),
            onOne kSChoice 57 (⟨c.goals, s.binds.take mk, c.vars, c.call, c.next⟩ : SChoice),
            onR kSChoice 58 (done ++ [(⟨c.goals, s.binds.take mk, c.vars, c.call, c.next⟩ : SChoice)]),
            fun val _ _ => val 59 = .pointer (some ⟨g, 4, none⟩),
            onGrew kSChoice g c0 c2 34 (done ++ [(⟨c.goals, s.binds.take mk, c.vars, c.call, c.next⟩ : SChoice)]),
            onCells g (c0 ++ ((.slice Av done.length nv) :: c2)).toArray 34,
            onRc kSChoice (.slice Av done.length nv) done]
          [[], [], [], [], [], [], [], [], [], [], [], [], [], [], [], [], [], [], [4, 10, 15], [18], [24, 19], [], [23, 20], [], []] 2 (fun k => k = g ∨ Sc k) (fun i k => (i = 23 ∧ k = g) ∨ (i = 24 ∧ Sc k)) (by kernel_rfl) ⟨by kernel_rfl, by kernel_rfl, by kernel_rfl, by kernel_rfl, by kernel_rfl⟩
          (.cons (stab_val 38 (fun v => v = .pointer (some ⟨g, 4, none⟩))) (.cons (stab_val 39 (fun v => v = (.slice Av done.length nv))) (.cons (stab_val 40 (fun v => v = .pointer (some ⟨cb, 0, none⟩))) (.cons (stab_val 41 (fun v => v = .slice D0 c.goals.length d0)) (.cons (stab_R kSGoal 42 c.goals) (.cons (stab_val 43 (fun v => v = .pointer (some ⟨w.heap.size, 2, none⟩))) (.cons (stab_val 44 (fun v => v = .slice E2 s.binds.length m2)) (.cons (stab_val 45 (fun v => v = .pointer (some ⟨cb, 1, none⟩))) (.cons (stab_val 46 (fun v => v = .int .i64 c.mark)) (.cons (stab_val 47 (fun v => v = .slice E2 mk m2)) (.cons (stab_R kBind 48 (s.binds.take mk)) (.cons (stab_val 49 (fun v => v = .pointer (some ⟨cb, 2, none⟩))) (.cons (stab_val 50 (fun v => v = .int .i64 c.vars)) (.cons (stab_val 51 (fun v => v = .pointer (some ⟨cb, 3, none⟩))) (.cons (stab_val 52 (fun v => v = .slice D3 c.call.length d3)) (.cons (stab_R kCell 53 c.call) (.cons (stab_val 54 (fun v => v = .pointer (some ⟨cb, 4, none⟩))) (.cons (stab_val 55 (fun v => v = .int .i64 c.next)) (.cons (stab_O kSChoice 56 (⟨c.goals, s.binds.take mk, c.vars, c.call, c.next⟩ : SChoice)) (.cons (stab_one kSChoice 57 (⟨c.goals, s.binds.take mk, c.vars, c.call, c.next⟩ : SChoice)) (.cons (stab_R kSChoice 58 (done ++ [(⟨c.goals, s.binds.take mk, c.vars, c.call, c.next⟩ : SChoice)])) (.cons (stab_val 59 (fun v => v = .pointer (some ⟨g, 4, none⟩))) (.cons (stab_grew kSChoice g c0 c2 34 (done ++ [(⟨c.goals, s.binds.take mk, c.vars, c.call, c.next⟩ : SChoice)])) (.cons (stab_cells g (c0 ++ ((.slice Av done.length nv) :: c2)).toArray 34) (.cons (stab_Rc kSChoice (.slice Av done.length nv) done) .nil)))))))))))))))))))))))))
          (fun i j k h1 h2 => by rcases h1 with ⟨a1, b1⟩ | ⟨a1, b1⟩ <;> rcases h2 with ⟨a2, b2⟩ | ⟨a2, b2⟩ <;> first | omega | (exact ((HG.out.mine k (.inr (by assumption))).2.2 (by assumption)).elim)) (fun i k h => by rcases h with ⟨rfl, rfl⟩ | ⟨rfl, h⟩ <;> first | exact ⟨by decide, .inl rfl, (Array.getElem?_eq_some_iff.1 HG.out.box).1⟩ | exact ⟨by decide, .inr h, (HG.out.mine k (.inr h)).2.1⟩) (fun i h1 h2 => by
            rcases (show i = 23 ∨ i = 24 by simp at h1 h2; omega) with rfl | rfl
            · exact ⟨HG.out.box, .inl ⟨rfl, rfl⟩⟩
            · exact Kd.R_mono (Kd.R_below HG.out.row (belD (Below.refl _ _))) (fun q h _ => .inr ⟨rfl, h⟩)) (.cons ?_ (.cons ?_ (.cons ?_ (.cons ?_ (.cons ?_ (.cons ?_ (.cons ?_ (.cons ?_ (.cons ?_ (.cons ?_ (.cons ?_ (.cons ?_ (.cons ?_ (.cons ?_ (.cons ?_ (.cons ?_ (.cons ?_ (.cons ?_ (.cons ?_ (.cons ?_ (.cons ?_ (.cons ?_ (.cons ?_ .nil))))))))))))))))))))))) ?_
        · intro a W own hfor huse hap hmi hF K hK
          have e3 : a.eval (.tmp 3) = .pointer (some ⟨g, 0, none⟩) := hfor 3 (by kernel_rfl)
          refine op_val (.pointer (some ⟨g, 4, none⟩)) W rfl ?_ (hK _ _ (post_pure ?_))
          · clear hfor huse hap hmi hK hF
            generalize a.eval = ρ at *
            go_simp
          · exact (if_pos rfl)
        · intro a W own hfor huse hap hmi hF K hK
          have e38 : a.eval (.tmp 38) = .pointer (some ⟨g, 4, none⟩) := huse 0 (by kernel_rfl)
          have q0 := grow_cell (huse 23 (by kernel_rfl) : onCells g (c0 ++ ((.slice Av done.length nv) :: c2)).toArray 34 (slotsOf a) (own 23) W).1 hl0
          refine op_val ((.slice Av done.length nv)) W rfl ?_ (hK _ _ (post_pure ?_))
          · clear hfor huse hap hmi hK hF
            generalize a.eval = ρ at *
            go_simp
          · exact (if_pos rfl)
        · intro a W own hfor huse hap hmi hF K hK
          have e5 : a.eval (.tmp 5) = .pointer (some ⟨cb, 0, none⟩) := hfor 5 (by kernel_rfl)
          refine op_val (.pointer (some ⟨cb, 0, none⟩)) W rfl ?_ (hK _ _ (post_pure ?_))
          · clear hfor huse hap hmi hK hF
            generalize a.eval = ρ at *
            go_simp
          · exact (if_pos rfl)
        · intro a W own hfor huse hap hmi hF K hK
          have e40 : a.eval (.tmp 40) = .pointer (some ⟨cb, 0, none⟩) := huse 2 (by kernel_rfl)
          have y0 := foot_cell hF (nC) cc0.out
          refine op_val (.slice D0 c.goals.length d0) W rfl ?_ (hK _ _ (post_pure ?_))
          · clear hfor huse hap hmi hK hF
            generalize a.eval = ρ at *
            go_simp
          · exact (if_pos rfl)
        · intro a W own hfor huse hap hmi hF K hK
          have e41 : a.eval (.tmp 41) = .slice D0 c.goals.length d0 := huse 3 (by kernel_rfl)
          have efn : a.eval (.func 119) = .func (.func 119) #[] #[] := rfl
          refine op_call (f := 119) (args := #[.slice D0 c.goals.length d0]) (fun v w1 => kSGoal.R w1 (fun k => W.heap.size ≤ k) v c.goals ∧ Below W.heap.size W w1) rfl ?_ ?_ (fun v w1 h => ?_)
          · clear hfor huse hap hmi hK hF
            generalize a.eval = ρ at *
            go_simp
          · exact (goalsOf_i _ c.goals ok W (foot_V hF nOK VC0.out (by decide))).mono (by rintro e w1 ⟨u, rfl, h1, h2⟩; exact ⟨_, rfl, h1, h2⟩)
          · obtain ⟨h1, h2⟩ := h
            exact hK _ _ (post_new h2 (by show kSGoal.R _ _ (if _ then _ else _) c.goals; rw [if_pos rfl]; exact Kd.R_mono h1 (fun k h3 h4 => ⟨h3, h4⟩)))
        · intro a W own hfor huse hap hmi hF K hK
          have e1 : a.eval (.tmp 1) = .pointer (some ⟨w.heap.size, 0, none⟩) := hfor 1 (by kernel_rfl)
          refine op_val (.pointer (some ⟨w.heap.size, 2, none⟩)) W rfl ?_ (hK _ _ (post_pure ?_))
          · clear hfor huse hap hmi hK hF
            generalize a.eval = ρ at *
            go_simp
          · exact (if_pos rfl)
        · intro a W own hfor huse hap hmi hF K hK
          have e43 : a.eval (.tmp 43) = .pointer (some ⟨w.heap.size, 2, none⟩) := huse 5 (by kernel_rfl)
          have y9 := foot_cell hF nP p2q.out
          refine op_val (.slice E2 s.binds.length m2) W rfl ?_ (hK _ _ (post_pure ?_))
          · clear hfor huse hap hmi hK hF
            generalize a.eval = ρ at *
            go_simp
          · exact (if_pos rfl)
        · intro a W own hfor huse hap hmi hF K hK
          have e5 : a.eval (.tmp 5) = .pointer (some ⟨cb, 0, none⟩) := hfor 5 (by kernel_rfl)
          refine op_val (.pointer (some ⟨cb, 1, none⟩)) W rfl ?_ (hK _ _ (post_pure ?_))
          · clear hfor huse hap hmi hK hF
            generalize a.eval = ρ at *
            go_simp
          · exact (if_pos rfl)
        · intro a W own hfor huse hap hmi hF K hK
          have e45 : a.eval (.tmp 45) = .pointer (some ⟨cb, 1, none⟩) := huse 7 (by kernel_rfl)
          have y1 := foot_cell hF (nC) cc1.out
          refine op_val (.int .i64 c.mark) W rfl ?_ (hK _ _ (post_pure ?_))
          · clear hfor huse hap hmi hK hF
            generalize a.eval = ρ at *
            go_simp
          · exact (if_pos rfl)
        · intro a W own hfor huse hap hmi hF K hK
          have e44 : a.eval (.tmp 44) = .slice E2 s.binds.length m2 := huse 6 (by kernel_rfl)
          have e46 : a.eval (.tmp 46) = .int .i64 c.mark := huse 8 (by kernel_rfl)
          refine op_val (.slice E2 mk m2) W rfl ?_ (hK _ _ (post_pure ?_))
          · clear hfor huse hap hmi hK hF
            generalize a.eval = ρ at *
            rw [hmk] at e46
            go_simp
          · exact (if_pos rfl)
        · intro a W own hfor huse hap hmi hF K hK
          have e47 : a.eval (.tmp 47) = .slice E2 mk m2 := huse 9 (by kernel_rfl)
          have efn : a.eval (.func 120) = .func (.func 120) #[] #[] := rfl
          refine op_call (f := 120) (args := #[.slice E2 mk m2]) (fun v w1 => kBind.R w1 (fun k => W.heap.size ≤ k) v (s.binds.take mk) ∧ Below W.heap.size W w1) rfl ?_ ?_ (fun v w1 h => ?_)
          · clear hfor huse hap hmi hK hF
            generalize a.eval = ρ at *
            go_simp
          · exact (copiedBinds_i _ (s.binds.take mk) ok W (foot_V hF nOK VCB.out (by decide))).mono (by rintro e w1 ⟨u, rfl, h1, h2⟩; exact ⟨_, rfl, h1, h2⟩)
          · obtain ⟨h1, h2⟩ := h
            exact hK _ _ (post_new h2 (by show kBind.R _ _ (if _ then _ else _) (s.binds.take mk); rw [if_pos rfl]; exact Kd.R_mono h1 (fun k h3 h4 => ⟨h3, h4⟩)))
        · intro a W own hfor huse hap hmi hF K hK
          have e5 : a.eval (.tmp 5) = .pointer (some ⟨cb, 0, none⟩) := hfor 5 (by kernel_rfl)
          refine op_val (.pointer (some ⟨cb, 2, none⟩)) W rfl ?_ (hK _ _ (post_pure ?_))
          · clear hfor huse hap hmi hK hF
            generalize a.eval = ρ at *
            go_simp
          · exact (if_pos rfl)
        · intro a W own hfor huse hap hmi hF K hK
          have e49 : a.eval (.tmp 49) = .pointer (some ⟨cb, 2, none⟩) := huse 11 (by kernel_rfl)
          have y2 := foot_cell hF (nC) cc2.out
          refine op_val (.int .i64 c.vars) W rfl ?_ (hK _ _ (post_pure ?_))
          · clear hfor huse hap hmi hK hF
            generalize a.eval = ρ at *
            go_simp
          · exact (if_pos rfl)
        · intro a W own hfor huse hap hmi hF K hK
          have e5 : a.eval (.tmp 5) = .pointer (some ⟨cb, 0, none⟩) := hfor 5 (by kernel_rfl)
          refine op_val (.pointer (some ⟨cb, 3, none⟩)) W rfl ?_ (hK _ _ (post_pure ?_))
          · clear hfor huse hap hmi hK hF
            generalize a.eval = ρ at *
            go_simp
          · exact (if_pos rfl)
        · intro a W own hfor huse hap hmi hF K hK
          have e51 : a.eval (.tmp 51) = .pointer (some ⟨cb, 3, none⟩) := huse 13 (by kernel_rfl)
          have y3 := foot_cell hF (nC) cc3.out
          refine op_val (.slice D3 c.call.length d3) W rfl ?_ (hK _ _ (post_pure ?_))
          · clear hfor huse hap hmi hK hF
            generalize a.eval = ρ at *
            go_simp
          · exact (if_pos rfl)
        · intro a W own hfor huse hap hmi hF K hK
          have e52 : a.eval (.tmp 52) = .slice D3 c.call.length d3 := huse 14 (by kernel_rfl)
          have efn : a.eval (.func 72) = .func (.func 72) #[] #[] := rfl
          refine op_call (f := 72) (args := #[.slice D3 c.call.length d3]) (fun v w1 => kCell.R w1 (fun k => W.heap.size ≤ k) v c.call ∧ Below W.heap.size W w1) rfl ?_ ?_ (fun v w1 h => ?_)
          · clear hfor huse hap hmi hK hF
            generalize a.eval = ρ at *
            go_simp
          · exact (cloneCells_c _ c.call ok W (foot_V hF nOK VC3.out (by decide))).mono (by rintro e w1 ⟨u, rfl, h1, h2⟩; exact ⟨_, rfl, h1, h2⟩)
          · obtain ⟨h1, h2⟩ := h
            exact hK _ _ (post_new h2 (by show kCell.R _ _ (if _ then _ else _) c.call; rw [if_pos rfl]; exact Kd.R_mono h1 (fun k h3 h4 => ⟨h3, h4⟩)))
        · intro a W own hfor huse hap hmi hF K hK
          have e5 : a.eval (.tmp 5) = .pointer (some ⟨cb, 0, none⟩) := hfor 5 (by kernel_rfl)
          refine op_val (.pointer (some ⟨cb, 4, none⟩)) W rfl ?_ (hK _ _ (post_pure ?_))
          · clear hfor huse hap hmi hK hF
            generalize a.eval = ρ at *
            go_simp
          · exact (if_pos rfl)
        · intro a W own hfor huse hap hmi hF K hK
          have e54 : a.eval (.tmp 54) = .pointer (some ⟨cb, 4, none⟩) := huse 16 (by kernel_rfl)
          have y4 := foot_cell hF (nC) cc4.out
          refine op_val (.int .i64 c.next) W rfl ?_ (hK _ _ (post_pure ?_))
          · clear hfor huse hap hmi hK hF
            generalize a.eval = ρ at *
            go_simp
          · exact (if_pos rfl)
        · intro a W own hfor huse hap hmi hF K hK
          have e50 : a.eval (.tmp 50) = .int .i64 c.vars := huse 12 (by kernel_rfl)
          have e55 : a.eval (.tmp 55) = .int .i64 c.next := huse 17 (by kernel_rfl)
          have r4 : kSGoal.R W (own 4) (a.eval (.tmp 42)) c.goals := huse 4 (by kernel_rfl)
          obtain ⟨A4, n4, e42, -, -⟩ := Kd.R_form r4
          rw [e42] at r4
          have r10 : kBind.R W (own 10) (a.eval (.tmp 48)) (s.binds.take mk) := huse 10 (by kernel_rfl)
          obtain ⟨A10, n10, e48, -, -⟩ := Kd.R_form r10
          rw [e48] at r10
          have r15 : kCell.R W (own 15) (a.eval (.tmp 53)) c.call := huse 15 (by kernel_rfl)
          obtain ⟨A15, n15, e53, -, -⟩ := Kd.R_form r15
          rw [e53] at r15
          refine op_val (.agg #[.slice A4 c.goals.length n4, .slice A10 (s.binds.take mk).length n10, .int .i64 c.vars, .slice A15 c.call.length n15, .int .i64 c.next]) W rfl ?_ (hK _ _ ⟨fun k => own 4 k ∨ own 10 k ∨ own 15 k, Foot.refl _ _, ⟨[.slice A4 c.goals.length n4, .slice A10 (s.binds.take mk).length n10, .int .i64 c.vars, .slice A15 c.call.length n15, .int .i64 c.next], if_pos rfl, kSChoice_of r4 r10 r15 (fun k h1 h2 => by have := hap 4 10 k h1 h2; omega) (fun k h1 h2 => by have := hap 4 15 k h1 h2; omega) (fun k h1 h2 => by have := hap 10 15 k h1 h2; omega)⟩, ?_⟩)
          · clear hfor huse hap hmi hK hF
            generalize a.eval = ρ at *
            go_simp
          · intro k h
            left
            rcases h with h | h | h
            · exact ⟨4, by decide, h⟩
            · exact ⟨10, by decide, h⟩
            · exact ⟨15, by decide, h⟩
        · intro a W own hfor huse hap hmi hF K hK
          obtain ⟨cs18, e56, r18⟩ := (huse 18 (by kernel_rfl) : onO kSChoice 56 (⟨c.goals, s.binds.take mk, c.vars, c.call, c.next⟩ : SChoice) (slotsOf a) (own 18) W)
          have e56 : a.eval (.tmp 56) = .agg cs18.toArray := e56
          have hlen := kSChoice.K_len (kSChoice.O_K r18)
          refine step_box rfl 32 98 (.tmp 56) rfl e56 Tryz.underlying32 info_SChoice hlen (by decide) (by decide) (hK _ _ ⟨fun k => own 18 k ∨ (W.heap.size ≤ k ∧ k < (W.alloc (.cells cs18.toArray 98)).heap.size), Foot.of_below (belA (Below.refl _ _) _), ?_, fun k h => Or.imp (fun h => ⟨18, by decide, h⟩) id h⟩)
          refine ⟨W.heap.size, cs18, if_pos rfl, heap_alloc_new W _, .inr ⟨Nat.le_refl _, by simp⟩, Kd.O_mono (Kd.O_below r18 (belA (Below.refl _ _) _)) (fun k h _ => ⟨.inl h, fun e => by have h1 := (hmi 18 k h).2; omega⟩)⟩
        · intro a W own hfor huse hap hmi hF K hK
          have e39 : a.eval (.tmp 39) = (.slice Av done.length nv) := huse 1 (by kernel_rfl)
          have r24 := (huse 24 (by kernel_rfl) : onRc kSChoice (.slice Av done.length nv) done (slotsOf a) (own 24) W)
          obtain ⟨g, cs, e57, hbx, hSg, rb⟩ := (huse 19 (by kernel_rfl) : onOne kSChoice 57 (⟨c.goals, s.binds.take mk, c.vars, c.call, c.next⟩ : SChoice) (slotsOf a) (own 19) W)
          have e57 : a.eval (.tmp 57) = .slice (some ⟨g, 0, none⟩) 1 1 := e57
          refine step_one kSChoice rfl (.tmp 39) (.tmp 57) 32 (.agg #[.slice none 0 0, .slice none 0 0, .int .i64 0, .slice none 0 0, .int .i64 0]) 88 rfl Tryz.underlying32 info_SChoice rfl (by decide) (by decide) e39 e57 r24 hbx rb (fun k h1 h2 => by have := hap 19 24 k h1.1 h2; omega) hLd.out (fun v1 w1 hR hF1 => hK _ _ ⟨fun k => own 24 k ∨ own 19 k ∨ (W.heap.size ≤ k ∧ k < w1.heap.size), Foot.mono hF1 (fun k h => ⟨24, by decide, h⟩), ?_, ?_⟩)
          · show kSChoice.R _ _ (if _ then _ else _) (done ++ [(⟨c.goals, s.binds.take mk, c.vars, c.call, c.next⟩ : SChoice)])
            rw [if_pos rfl]
            exact Kd.R_mono hR (fun k h _ => h.imp id (fun h => h.imp (fun h => h.1) id))
          · intro k h
            rcases h with h | h | h
            · exact .inl ⟨24, by decide, h⟩
            · exact .inl ⟨19, by decide, h⟩
            · exact .inr h
        · intro a W own hfor huse hap hmi hF K hK
          have e3 : a.eval (.tmp 3) = .pointer (some ⟨g, 0, none⟩) := hfor 3 (by kernel_rfl)
          refine op_val (.pointer (some ⟨g, 4, none⟩)) W rfl ?_ (hK _ _ (post_pure ?_))
          · clear hfor huse hap hmi hK hF
            generalize a.eval = ρ at *
            go_simp
          · exact (if_pos rfl)
        · intro a W own hfor huse hap hmi hF K hK
          have e59 : a.eval (.tmp 59) = .pointer (some ⟨g, 4, none⟩) := huse 21 (by kernel_rfl)
          obtain ⟨hb, hSX⟩ := (huse 23 (by kernel_rfl) : onCells g (c0 ++ ((.slice Av done.length nv) :: c2)).toArray 34 (slotsOf a) (own 23) W)
          have r20 : kSChoice.R W (own 20) (a.eval (.tmp 58)) (done ++ [(⟨c.goals, s.binds.take mk, c.vars, c.call, c.next⟩ : SChoice)]) := huse 20 (by kernel_rfl)
          obtain ⟨A20, n20, e58, -, -⟩ := Kd.R_form r20
          rw [e58] at r20
          have q0 := grow_cell hb hl0
          have f0 := (box_at hb).2.2 4
          have F : Foot (fun k => k = g) W (W.setCell ⟨g, 4, none⟩ (.slice A20 (done ++ [(⟨c.goals, s.binds.take mk, c.vars, c.call, c.next⟩ : SChoice)]).length n20)) := Foot.set (Foot.refl (fun k => k = g) W) (.inl rfl) _ _
          refine op_skip (W.setCell ⟨g, 4, none⟩ (.slice A20 (done ++ [(⟨c.goals, s.binds.take mk, c.vars, c.call, c.next⟩ : SChoice)]).length n20)) rfl ?_ (hK _ _ ⟨fun k => own 23 k ∨ own 20 k, Foot.mono F (fun k e => ⟨23, by decide, e ▸ hSX⟩), ?_, ?_⟩)
          · clear hfor huse hap hmi hK hF hb F r20
            generalize a.eval = ρ at *
            go_simp
          · exact ⟨_, grow_set hb hl0 _, .inl hSX, Kd.R_mono (F.R r20 (fun k h1 h2 => by have := hap 23 20 g hSX (h2 ▸ h1); omega)) (fun k h _ => ⟨.inr h, fun e => by have := hap 23 20 g hSX (e ▸ h); omega⟩)⟩
          · intro k h
            left
            rcases h with h | h
            · exact ⟨23, by decide, h⟩
            · exact ⟨20, by decide, h⟩
        intro a' W own hf
        have hsz := hf.st.size
        have hdf := hf.st.rest
        obtain ⟨⟨l⟩, df⟩ := a'
        have hl0 : l.length = 62 := hsz
        clear hsz
        obtain rfl : df = [] := hdf
        obtain ⟨x0, l0, rfl, hl1⟩ := lst_cons hl0
        clear hl0
        obtain ⟨x1, l1, rfl, hl2⟩ := lst_cons hl1
        clear hl1
        obtain ⟨x2, l2, rfl, hl3⟩ := lst_cons hl2
        clear hl2
        obtain ⟨x3, l3, rfl, hl4⟩ := lst_cons hl3
        clear hl3
        obtain ⟨x4, l4, rfl, hl5⟩ := lst_cons hl4
        clear hl4
        obtain ⟨x5, l5, rfl, hl6⟩ := lst_cons hl5
        clear hl5
        obtain ⟨x6, l6, rfl, hl7⟩ := lst_cons hl6
        clear hl6
        obtain ⟨x7, l7, rfl, hl8⟩ := lst_cons hl7
        clear hl7
        obtain ⟨x8, l8, rfl, hl9⟩ := lst_cons hl8
        clear hl8
        obtain ⟨x9, l9, rfl, hl10⟩ := lst_cons hl9
        clear hl9
        obtain ⟨x10, l10, rfl, hl11⟩ := lst_cons hl10
        clear hl10
        obtain ⟨x11, l11, rfl, hl12⟩ := lst_cons hl11
        clear hl11
        obtain ⟨x12, l12, rfl, hl13⟩ := lst_cons hl12
        clear hl12
        obtain ⟨x13, l13, rfl, hl14⟩ := lst_cons hl13
        clear hl13
        obtain ⟨x14, l14, rfl, hl15⟩ := lst_cons hl14
        clear hl14
        obtain ⟨x15, l15, rfl, hl16⟩ := lst_cons hl15
        clear hl15
        obtain ⟨x16, l16, rfl, hl17⟩ := lst_cons hl16
        clear hl16
        obtain ⟨x17, l17, rfl, hl18⟩ := lst_cons hl17
        clear hl17
        obtain ⟨x18, l18, rfl, hl19⟩ := lst_cons hl18
        clear hl18
        obtain ⟨x19, l19, rfl, hl20⟩ := lst_cons hl19
        clear hl19
        obtain ⟨x20, l20, rfl, hl21⟩ := lst_cons hl20
        clear hl20
        obtain ⟨x21, l21, rfl, hl22⟩ := lst_cons hl21
        clear hl21
        obtain ⟨x22, l22, rfl, hl23⟩ := lst_cons hl22
        clear hl22
        obtain ⟨x23, l23, rfl, hl24⟩ := lst_cons hl23
        clear hl23
        obtain ⟨x24, l24, rfl, hl25⟩ := lst_cons hl24
        clear hl24
        obtain ⟨x25, l25, rfl, hl26⟩ := lst_cons hl25
        clear hl25
        obtain ⟨x26, l26, rfl, hl27⟩ := lst_cons hl26
        clear hl26
        obtain ⟨x27, l27, rfl, hl28⟩ := lst_cons hl27
        clear hl27
        obtain ⟨x28, l28, rfl, hl29⟩ := lst_cons hl28
        clear hl28
        obtain ⟨x29, l29, rfl, hl30⟩ := lst_cons hl29
        clear hl29
        obtain ⟨x30, l30, rfl, hl31⟩ := lst_cons hl30
        clear hl30
        obtain ⟨x31, l31, rfl, hl32⟩ := lst_cons hl31
        clear hl31
        obtain ⟨x32, l32, rfl, hl33⟩ := lst_cons hl32
        clear hl32
        obtain ⟨x33, l33, rfl, hl34⟩ := lst_cons hl33
        clear hl33
        obtain ⟨x34, l34, rfl, hl35⟩ := lst_cons hl34
        clear hl34
        obtain ⟨x35, l35, rfl, hl36⟩ := lst_cons hl35
        clear hl35
        obtain ⟨x36, l36, rfl, hl37⟩ := lst_cons hl36
        clear hl36
        obtain ⟨x37, l37, rfl, hl38⟩ := lst_cons hl37
        clear hl37
        obtain ⟨x38, l38, rfl, hl39⟩ := lst_cons hl38
        clear hl38
        obtain ⟨x39, l39, rfl, hl40⟩ := lst_cons hl39
        clear hl39
        obtain ⟨x40, l40, rfl, hl41⟩ := lst_cons hl40
        clear hl40
        obtain ⟨x41, l41, rfl, hl42⟩ := lst_cons hl41
        clear hl41
        obtain ⟨x42, l42, rfl, hl43⟩ := lst_cons hl42
        clear hl42
        obtain ⟨x43, l43, rfl, hl44⟩ := lst_cons hl43
        clear hl43
        obtain ⟨x44, l44, rfl, hl45⟩ := lst_cons hl44
        clear hl44
        obtain ⟨x45, l45, rfl, hl46⟩ := lst_cons hl45
        clear hl45
        obtain ⟨x46, l46, rfl, hl47⟩ := lst_cons hl46
        clear hl46
        obtain ⟨x47, l47, rfl, hl48⟩ := lst_cons hl47
        clear hl47
        obtain ⟨x48, l48, rfl, hl49⟩ := lst_cons hl48
        clear hl48
        obtain ⟨x49, l49, rfl, hl50⟩ := lst_cons hl49
        clear hl49
        obtain ⟨x50, l50, rfl, hl51⟩ := lst_cons hl50
        clear hl50
        obtain ⟨x51, l51, rfl, hl52⟩ := lst_cons hl51
        clear hl51
        obtain ⟨x52, l52, rfl, hl53⟩ := lst_cons hl52
        clear hl52
        obtain ⟨x53, l53, rfl, hl54⟩ := lst_cons hl53
        clear hl53
        obtain ⟨x54, l54, rfl, hl55⟩ := lst_cons hl54
        clear hl54
        obtain ⟨x55, l55, rfl, hl56⟩ := lst_cons hl55
        clear hl55
        obtain ⟨x56, l56, rfl, hl57⟩ := lst_cons hl56
        clear hl56
        obtain ⟨x57, l57, rfl, hl58⟩ := lst_cons hl57
        clear hl57
        obtain ⟨x58, l58, rfl, hl59⟩ := lst_cons hl58
        clear hl58
        obtain ⟨x59, l59, rfl, hl60⟩ := lst_cons hl59
        clear hl59
        obtain ⟨x60, l60, rfl, hl61⟩ := lst_cons hl60
        clear hl60
        obtain ⟨x61, l61, rfl, hl62⟩ := lst_cons hl61
        clear hl61
        obtain rfl := List.eq_nil_of_length_eq_zero hl62
        have e0 := hf.st.kept 0 (by kernel_rfl)
        simp only [slotsOf, Act.eval, Array.getD_eq_getD_getElem?, List.getElem?_toArray, List.getElem?_cons_zero, Option.getD_some] at e0
        subst e0
        have e1 := hf.st.kept 1 (by kernel_rfl)
        simp only [slotsOf, Act.eval, Array.getD_eq_getD_getElem?, List.getElem?_toArray, List.getElem?_cons_succ, List.getElem?_cons_zero, Option.getD_some] at e1
        subst e1
        have e2 := hf.st.kept 2 (by kernel_rfl)
        simp only [slotsOf, Act.eval, Array.getD_eq_getD_getElem?, List.getElem?_toArray, List.getElem?_cons_succ, List.getElem?_cons_zero, Option.getD_some] at e2
        subst e2
        have e3 := hf.st.kept 3 (by kernel_rfl)
        simp only [slotsOf, Act.eval, Array.getD_eq_getD_getElem?, List.getElem?_toArray, List.getElem?_cons_succ, List.getElem?_cons_zero, Option.getD_some] at e3
        subst e3
        have e4 := hf.st.kept 4 (by kernel_rfl)
        simp only [slotsOf, Act.eval, Array.getD_eq_getD_getElem?, List.getElem?_toArray, List.getElem?_cons_succ, List.getElem?_cons_zero, Option.getD_some] at e4
        subst e4
        have e5 := hf.st.kept 5 (by kernel_rfl)
        simp only [slotsOf, Act.eval, Array.getD_eq_getD_getElem?, List.getElem?_toArray, List.getElem?_cons_succ, List.getElem?_cons_zero, Option.getD_some] at e5
        subst e5
        have e6 := hf.st.kept 6 (by kernel_rfl)
        simp only [slotsOf, Act.eval, Array.getD_eq_getD_getElem?, List.getElem?_toArray, List.getElem?_cons_succ, List.getElem?_cons_zero, Option.getD_some] at e6
        subst e6
        have e7 := hf.st.kept 7 (by kernel_rfl)
        simp only [slotsOf, Act.eval, Array.getD_eq_getD_getElem?, List.getElem?_toArray, List.getElem?_cons_succ, List.getElem?_cons_zero, Option.getD_some] at e7
        subst e7
        have e8 := hf.st.kept 8 (by kernel_rfl)
        simp only [slotsOf, Act.eval, Array.getD_eq_getD_getElem?, List.getElem?_toArray, List.getElem?_cons_succ, List.getElem?_cons_zero, Option.getD_some] at e8
        subst e8
        have e9 := hf.st.kept 9 (by kernel_rfl)
        simp only [slotsOf, Act.eval, Array.getD_eq_getD_getElem?, List.getElem?_toArray, List.getElem?_cons_succ, List.getElem?_cons_zero, Option.getD_some] at e9
        subst e9
        have e10 := hf.st.kept 10 (by kernel_rfl)
        simp only [slotsOf, Act.eval, Array.getD_eq_getD_getElem?, List.getElem?_toArray, List.getElem?_cons_succ, List.getElem?_cons_zero, Option.getD_some] at e10
        subst e10
        have e11 := hf.st.kept 11 (by kernel_rfl)
        simp only [slotsOf, Act.eval, Array.getD_eq_getD_getElem?, List.getElem?_toArray, List.getElem?_cons_succ, List.getElem?_cons_zero, Option.getD_some] at e11
        subst e11
        have e12 := hf.st.kept 12 (by kernel_rfl)
        simp only [slotsOf, Act.eval, Array.getD_eq_getD_getElem?, List.getElem?_toArray, List.getElem?_cons_succ, List.getElem?_cons_zero, Option.getD_some] at e12
        subst e12
        have e13 := hf.st.kept 13 (by kernel_rfl)
        simp only [slotsOf, Act.eval, Array.getD_eq_getD_getElem?, List.getElem?_toArray, List.getElem?_cons_succ, List.getElem?_cons_zero, Option.getD_some] at e13
        subst e13
        have e14 := hf.st.kept 14 (by kernel_rfl)
        simp only [slotsOf, Act.eval, Array.getD_eq_getD_getElem?, List.getElem?_toArray, List.getElem?_cons_succ, List.getElem?_cons_zero, Option.getD_some] at e14
        subst e14
        have e15 := hf.st.kept 15 (by kernel_rfl)
        simp only [slotsOf, Act.eval, Array.getD_eq_getD_getElem?, List.getElem?_toArray, List.getElem?_cons_succ, List.getElem?_cons_zero, Option.getD_some] at e15
        subst e15
        have e16 := hf.st.kept 16 (by kernel_rfl)
        simp only [slotsOf, Act.eval, Array.getD_eq_getD_getElem?, List.getElem?_toArray, List.getElem?_cons_succ, List.getElem?_cons_zero, Option.getD_some] at e16
        subst e16
        have e17 := hf.st.kept 17 (by kernel_rfl)
        simp only [slotsOf, Act.eval, Array.getD_eq_getD_getElem?, List.getElem?_toArray, List.getElem?_cons_succ, List.getElem?_cons_zero, Option.getD_some] at e17
        subst e17
        have e18 := hf.st.kept 18 (by kernel_rfl)
        simp only [slotsOf, Act.eval, Array.getD_eq_getD_getElem?, List.getElem?_toArray, List.getElem?_cons_succ, List.getElem?_cons_zero, Option.getD_some] at e18
        subst e18
        have e19 := hf.st.kept 19 (by kernel_rfl)
        simp only [slotsOf, Act.eval, Array.getD_eq_getD_getElem?, List.getElem?_toArray, List.getElem?_cons_succ, List.getElem?_cons_zero, Option.getD_some] at e19
        subst e19
        have e20 := hf.st.kept 20 (by kernel_rfl)
        simp only [slotsOf, Act.eval, Array.getD_eq_getD_getElem?, List.getElem?_toArray, List.getElem?_cons_succ, List.getElem?_cons_zero, Option.getD_some] at e20
        subst e20
        have e21 := hf.st.kept 21 (by kernel_rfl)
        simp only [slotsOf, Act.eval, Array.getD_eq_getD_getElem?, List.getElem?_toArray, List.getElem?_cons_succ, List.getElem?_cons_zero, Option.getD_some] at e21
        subst e21
        have e22 := hf.st.kept 22 (by kernel_rfl)
        simp only [slotsOf, Act.eval, Array.getD_eq_getD_getElem?, List.getElem?_toArray, List.getElem?_cons_succ, List.getElem?_cons_zero, Option.getD_some] at e22
        subst e22
        have e23 := hf.st.kept 23 (by kernel_rfl)
        simp only [slotsOf, Act.eval, Array.getD_eq_getD_getElem?, List.getElem?_toArray, List.getElem?_cons_succ, List.getElem?_cons_zero, Option.getD_some] at e23
        subst e23
        have e24 := hf.st.kept 24 (by kernel_rfl)
        simp only [slotsOf, Act.eval, Array.getD_eq_getD_getElem?, List.getElem?_toArray, List.getElem?_cons_succ, List.getElem?_cons_zero, Option.getD_some] at e24
        subst e24
        have e25 := hf.st.kept 25 (by kernel_rfl)
        simp only [slotsOf, Act.eval, Array.getD_eq_getD_getElem?, List.getElem?_toArray, List.getElem?_cons_succ, List.getElem?_cons_zero, Option.getD_some] at e25
        subst e25
        have e26 := hf.st.kept 26 (by kernel_rfl)
        simp only [slotsOf, Act.eval, Array.getD_eq_getD_getElem?, List.getElem?_toArray, List.getElem?_cons_succ, List.getElem?_cons_zero, Option.getD_some] at e26
        subst e26
        have e27 := hf.st.kept 27 (by kernel_rfl)
        simp only [slotsOf, Act.eval, Array.getD_eq_getD_getElem?, List.getElem?_toArray, List.getElem?_cons_succ, List.getElem?_cons_zero, Option.getD_some] at e27
        subst e27
        have e28 := hf.st.kept 28 (by kernel_rfl)
        simp only [slotsOf, Act.eval, Array.getD_eq_getD_getElem?, List.getElem?_toArray, List.getElem?_cons_succ, List.getElem?_cons_zero, Option.getD_some] at e28
        subst e28
        have e29 := hf.st.kept 29 (by kernel_rfl)
        simp only [slotsOf, Act.eval, Array.getD_eq_getD_getElem?, List.getElem?_toArray, List.getElem?_cons_succ, List.getElem?_cons_zero, Option.getD_some] at e29
        subst e29
        have e30 := hf.st.kept 30 (by kernel_rfl)
        simp only [slotsOf, Act.eval, Array.getD_eq_getD_getElem?, List.getElem?_toArray, List.getElem?_cons_succ, List.getElem?_cons_zero, Option.getD_some] at e30
        subst e30
        have e31 := hf.st.kept 31 (by kernel_rfl)
        simp only [slotsOf, Act.eval, Array.getD_eq_getD_getElem?, List.getElem?_toArray, List.getElem?_cons_succ, List.getElem?_cons_zero, Option.getD_some] at e31
        subst e31
        have e32 := hf.st.kept 32 (by kernel_rfl)
        simp only [slotsOf, Act.eval, Array.getD_eq_getD_getElem?, List.getElem?_toArray, List.getElem?_cons_succ, List.getElem?_cons_zero, Option.getD_some] at e32
        subst e32
        have e33 := hf.st.kept 33 (by kernel_rfl)
        simp only [slotsOf, Act.eval, Array.getD_eq_getD_getElem?, List.getElem?_toArray, List.getElem?_cons_succ, List.getElem?_cons_zero, Option.getD_some] at e33
        subst e33
        have e34 := hf.st.kept 34 (by kernel_rfl)
        simp only [slotsOf, Act.eval, Array.getD_eq_getD_getElem?, List.getElem?_toArray, List.getElem?_cons_succ, List.getElem?_cons_zero, Option.getD_some] at e34
        subst e34
        have e35 := hf.st.kept 35 (by kernel_rfl)
        simp only [slotsOf, Act.eval, Array.getD_eq_getD_getElem?, List.getElem?_toArray, List.getElem?_cons_succ, List.getElem?_cons_zero, Option.getD_some] at e35
        subst e35
        have e36 := hf.st.kept 36 (by kernel_rfl)
        simp only [slotsOf, Act.eval, Array.getD_eq_getD_getElem?, List.getElem?_toArray, List.getElem?_cons_succ, List.getElem?_cons_zero, Option.getD_some] at e36
        subst e36
        have e37 := hf.st.kept 37 (by kernel_rfl)
        simp only [slotsOf, Act.eval, Array.getD_eq_getD_getElem?, List.getElem?_toArray, List.getElem?_cons_succ, List.getElem?_cons_zero, Option.getD_some] at e37
        subst e37
        have e60 := hf.st.kept 60 (by kernel_rfl)
        simp only [slotsOf, Act.eval, Array.getD_eq_getD_getElem?, List.getElem?_toArray, List.getElem?_cons_succ, List.getElem?_cons_zero, Option.getD_some] at e60
        subst e60
        have e61 := hf.st.kept 61 (by kernel_rfl)
        simp only [slotsOf, Act.eval, Array.getD_eq_getD_getElem?, List.getElem?_toArray, List.getElem?_cons_succ, List.getElem?_cons_zero, Option.getD_some] at e61
        subst e61
        obtain ⟨u, HG2⟩ := Growing.next HG.out hf.st.foot (hf.at 22 (onGrew kSChoice g c0 c2 34 (done ++ [(⟨c.goals, s.binds.take mk, c.vars, c.call, c.next⟩ : SChoice)])) rfl (by kernel_rfl)) (fun k h => hf.st.mine 22 k h)
        have GS2 := Sec.mk HG2
        have BW2 := Sec.mk (hf.st.foot.below (belD HB7.out) (fun q h => NW.out q h))
        have PW2 := Sec.mk ((hf.st.foot.block _ (Array.getElem?_eq_some_iff.1 hq0.out).1 (NP.out _ (by omega))).trans hq0.out)
        have RW2 := Sec.mk ((hf.st.foot.block _ (Array.getElem?_eq_some_iff.1 hq1.out).1 (NP.out _ (by omega))).trans hq1.out)
        have C2W2 := Sec.mk (foot_C hf.st.foot NOK.out CB7.out (by decide))
        have C4W2 := Sec.mk (foot_C hf.st.foot NOK.out CC7.out (by decide))
        clear hf HG2
        go_wp2
        go_roundw
        case rel => exact ⟨k + 1, by omega, by go_num, ⟨by rw [hall.out, hA.out, Hmi.out]; rfl⟩, ⟨_, _, _, by
          have h9 := GS2.out
          rw [← hvw.out, HDN.out c hT.out] at h9
          exact h9⟩, ⟨BW2.out, PW2.out, RW2.out, C2W2.out, C4W2.out⟩⟩
        case measure => simp [intOf]; omega
      | false =>
        have Hmi := Sec.mk hmi
        have htv : Sec (tview s = zeroSState) := ⟨if_neg (fun h => by
          have := List.all_eq_true.1 h c hmem.out
          rw [Hmi.out] at this; cases this)⟩
        have hq1S := Sec.mk hq1.out
        have hbad : c.mark < 0 ∨ (¬ c.mark < 0 ∧ (s.binds.length : Int) < c.mark) := by (unfold markIn inB at hmi; simp at hmi; omega)
        clear hmi hKc hcc hv0 hv3 XP XC HG0 HG WB nOK nC nP nW hG hob hrl
        clear hbad
        all_goals
          go_wp2_with (first | (go_at_call 121; refine (in_c _ _ _ _).mono ?_; rw [show inB c.mark 0 (s.binds.length : Int) = false from Hmi.out]; rintro e w9 ⟨rfl, rfl⟩) | (with_reducible show wpList _ _ _ (⟨none, .store 34 (.tmp 2) (.tmp 37), _, _, _, _⟩ :: _) _ _; refine wpList_store (cs := [.int .i64 0, .slice none 0 0, .slice none 0 0, .int .i64 0, .slice none 0 0, .slice none 0 0, .slice none 0 0]) rfl 34 (.tmp 2) (.tmp 37) rfl rfl rfl hq1S.out (by kernel_rfl) rfl (kSState.K_one (kSState.O_K (kSState_zero w))) ?_; intro w8 hb8 hF8; have B8 := Sec.mk hb8; have F8 := Sec.mk hF8; clear hb8 hF8))
          refine bodyPost_ret (results_cell rfl rfl B8.out hu2 rfl (by kernel_rfl)) rfl ⟨_, rfl, ?_, ?_⟩
          · rw [htv.out]; exact kSState.O_mono (kSState_zero _) (fun _ h _ => h.elim)
          · exact F8.out.below HB7.out (fun q h => by have h1 : q = w.heap.size + 1 := h; omega)
    · have hkl : k = s.choices.length := by omega
      subst hkl
      obtain ⟨v, Sr, Sc, HG0⟩ := hG.out
      have hb := HG0.box
      have hO := HG0.done
      rw [List.take_length] at hO
      have htv : Sec (tview s = ⟨s.status, s.goals, s.binds, s.vars, s.choices.map (viewC s), s.top, s.out⟩) := ⟨if_pos (by have := hA.out; rwa [List.take_length] at this)⟩
      generalize c0 ++ (v :: c2) = cs9 at hb hO
      obtain ⟨y1, y2, y4, y5, y6, rfl, ⟨Y1, l1, rfl, -⟩, ⟨Y2, l2, rfl, -⟩, ⟨Y4, l4, rfl, -⟩, ⟨Y5, l5, rfl, -⟩, ⟨Y6, l6, rfl, -⟩⟩ := kSState_K (kSState.O_K hO)
      simp only [List.length_map] at hO hb
      have HO := Sec.mk hO
      have Xg := (box_at hb).2.1
      have g0 := Xg 0 _ rfl
      have g1 := Xg 1 _ rfl
      have g2 := Xg 2 _ rfl
      have g3 := Xg 3 _ rfl
      have g4 := Xg 4 _ rfl
      have g5 := Xg 5 _ rfl
      have g6 := Xg 6 _ rfl
      have hne : Sec (∀ q, (w.heap.size + 2 ≤ q ∧ q < wr.heap.size ∧ q ≠ g) → ¬ q = w.heap.size + 1) := ⟨fun q h e => by omega⟩
      have hW1 := Sec.mk hW.out.1
      have hW2 := Sec.mk hW.out.2.2.1
      have h1c : Sec (∀ u ∈ ([.int .i64 s.status, .slice Y1 s.goals.length l1, .slice Y2 s.binds.length l2, .int .i64 s.vars, .slice Y4 s.choices.length l4, .slice Y5 s.top.length l5, .slice Y6 s.out.length l6] : List Value), u.oneCell' = true) := ⟨kSState.K_one (kSState.O_K hO)⟩
      have w4 : wr.cell? ⟨w.heap.size, 4, none⟩ = some (.slice E4 s.choices.length m4) := (box_at hW.out.2.1).2.1 4 _ rfl
      clear hG HG0 hb hO Xg hW
      go_wp2_with (with_reducible show wpList _ _ _ (⟨none, .store 34 (.tmp 2) (.tmp 61), _, _, _, _⟩ :: _) _ _; refine wpList_store (cs := [.int .i64 s.status, .slice Y1 s.goals.length l1, .slice Y2 s.binds.length l2, .int .i64 s.vars, .slice Y4 s.choices.length l4, .slice Y5 s.top.length l5, .slice Y6 s.out.length l6]) rfl 34 (.tmp 2) (.tmp 61) rfl rfl rfl hW2.out (by kernel_rfl) rfl h1c.out ?_; intro w8 hb8 hF8; have B8 := Sec.mk hb8; have F8 := Sec.mk hF8; clear hb8 hF8)
      refine bodyPost_ret (results_cell rfl rfl B8.out hu2 rfl (by kernel_rfl)) rfl ⟨_, rfl, ?_, ?_⟩
      · rw [htv.out]; exact kSState.O_mono (F8.out.O HO.out hne.out) (fun q h _ => by omega)
      · exact F8.out.below hW1.out (fun q h => by have h1 : q = w.heap.size + 1 := h; omega)
end
section
open Go.RowKit
set_option linter.unusedVariables false
set_option maxRecDepth 100000
end
end Go.Proofs.YtgiobpggonceeaaGreatDoor
