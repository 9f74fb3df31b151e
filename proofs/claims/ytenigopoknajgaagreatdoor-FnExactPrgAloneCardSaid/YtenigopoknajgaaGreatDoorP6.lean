/- Contracts: GoalOk and clauseOk (the program), and whether one of some goals or clauses is wrong. -/
import Derived.Test.YtenigopoknajgaaGreatDoorP5
import Derived.Test.YtenigopoknajgaaGreatDoorP3
namespace Go.Proofs.YtenigopoknajgaaGreatDoor
open Go.RowKit
set_option linter.unusedVariables false
set_option maxRecDepth 100000
theorem goalOk_shape (g : Goal) : goalOk g = (!decide (g.kind = 6) && shapeOk g) := by
  unfold goalOk shapeOk shapeI
  rw [termIn_may, termIn_may, termIn_may]
  have e1 : ((g.a.length : Int) == 0) = decide (g.a.length = 0) := by exact decide_eq_decide.2 (by omega)
  have e2 : ((g.b.length : Int) == 0) = decide (g.b.length = 0) := by exact decide_eq_decide.2 (by omega)
  have e3 : ((g.c.length : Int) == 0) = decide (g.c.length = 0) := by exact decide_eq_decide.2 (by omega)
  have f1 : decide (g.b.length + g.c.length = 0) = (decide (g.b.length = 0) && decide (g.c.length = 0)) := by rw [← Bool.decide_and]; exact decide_eq_decide.2 (by omega)
  have f2 : decide (g.a.length + g.b.length + g.c.length = 0) = (decide (g.a.length = 0) && decide (g.b.length = 0) && decide (g.c.length = 0)) := by rw [← Bool.decide_and, ← Bool.decide_and]; exact decide_eq_decide.2 (by omega)
  rw [e1, e2, e3, f1, f2]
  generalize decide (g.a.length = 0) = qa
  generalize decide (g.b.length = 0) = qb
  generalize decide (g.c.length = 0) = qc
  generalize trmOk g.a = ta
  generalize trmOk g.b = tb
  generalize trmOk g.c = tc
  generalize mayIn g.a = ma
  generalize mayIn g.b = mb
  generalize mayIn g.c = mc
  generalize headFun g.a = ha
  generalize g.kind = k
  by_cases h1 : k = 1
  · subst h1; cases ta <;> cases ma <;> cases ha <;> cases qb <;> cases qc <;> rfl
  by_cases h6 : k = 6
  · subst h6; rfl
  by_cases h3 : k = 3
  · subst h3; cases qa <;> cases qb <;> cases qc <;> rfl
  by_cases h2 : k = 2
  · subst h2; rfl
  by_cases h4 : k = 4
  · subst h4; rfl
  by_cases h5 : k = 5
  · subst h5; rfl
  simp [h1, h2, h3, h4, h5, h6]
def anyAt {α : Type} (p : α → Bool) (t : List α) (i : Int) : Prop := decide (0 ≤ i) = t.any p
theorem take_any {α : Type} (p : α → Bool) (t : List α) (k : Nat) (h : k < t.length) : (t.take (k + 1)).any p = ((t.take k).any p || p t[k]) := by
  rw [List.take_succ_eq_append_getElem h, List.any_append]; simp
theorem GoalOk_i (g : Goal) (cs : List Value) (ok : Nat → Prop) (w : World) (hK : kGoal.K w ok g cs) :
    Calls Tryz.prog 58 #[.agg cs.toArray] w fun e w' => e = .returned (.bool (goalOk g)) ∧ Below w.heap.size w w' := by
  have HS := Sec.mk (fun (W : World) (hb : Below w.heap.size w W) => goalShape_i g cs ok W (Kd.K_below hK hb))
  obtain ⟨v1, v2, v3, rfl, h1, h2, h3⟩ := kGoal_K hK
  clear hK h1 h2 h3
  have B0 := Sec.mk (belA (Below.refl w.heap.size w) (.cells #[.int .i64 g.kind, v1, v2, v3] 63))
  have X := (box_at (heap_alloc_new w (.cells #[.int .i64 g.kind, v1, v2, v3] 63))).2.1
  have y0 := X 0 _ rfl
  have y1 := X 1 _ rfl
  have y2 := X 2 _ rfl
  have y3 := X 3 _ rfl
  clear X
  have HE := Sec.mk (goalOk_shape g)
  generalize goalOk g = res at *
  generalize shapeOk g = s at *
  have hu := Tryz.underlying63
  by_cases hk : g.kind = 6
  · have HE : Sec (res = false) := ⟨by rw [HE.out, decide_eq_true hk]; rfl⟩
    have k6 : (g.kind != 6) = false := by rw [hk]; rfl
    clear hk HS
    go_enter Tryz.func58, Tryz.ntmps58
    go_wp2
    go_ret
    exact ⟨rb HE.out.symm, B0.out⟩
  · have HE : Sec (res = s) := ⟨by rw [HE.out, decide_eq_false hk]; rfl⟩
    have k6 : (g.kind != 6) = true := bne_iff_ne.2 hk
    clear hk
    go_enter Tryz.func58, Tryz.ntmps58
    go_wp2_with (go_at_call 77; refine (HS.out _ B0.out).mono ?_; rintro e w1 ⟨rfl, hb⟩; have B1 := Sec.mk (bel B0.out hb); clear hb)
    go_ret
    exact ⟨rb HE.out.symm, B1.out⟩
theorem wrongGoal_i1 (x : Goal) (cs : List Value) (ok : Nat → Prop) (w : World) (hK : kGoal.K w ok x cs) : Calls Tryz.prog 57 #[.agg cs.toArray] w fun e w' => e = .returned (.bool (!goalOk x)) ∧ Below w.heap.size w w' := by
  have HS := Sec.mk (fun (W : World) (hb : Below w.heap.size w W) => GoalOk_i x cs ok W (Kd.K_below hK hb))
  obtain ⟨v1, v2, v3, rfl, h1, h2, h3⟩ := kGoal_K hK
  clear hK h1 h2 h3
  have B0 := Sec.mk (belA (Below.refl w.heap.size w) (.cells #[.int .i64 x.kind, v1, v2, v3] 63))
  have X := (box_at (heap_alloc_new w (.cells #[.int .i64 x.kind, v1, v2, v3] 63))).2.1
  have y0 := X 0 _ rfl
  have y1 := X 1 _ rfl
  have y2 := X 2 _ rfl
  have y3 := X 3 _ rfl
  clear X
  have hu := Tryz.underlying63
  generalize goalOk x = s at *
  go_enter Tryz.func57, Tryz.ntmps57
  go_wp2_with (go_at_call 58; refine (HS.out _ B0.out).mono ?_; rintro e w1 ⟨rfl, hb⟩; have B1 := Sec.mk (bel B0.out hb); clear hb)
  go_ret
  exact ⟨rfl, B1.out⟩
theorem wrongGoal_i2 (v : Value) (t : List Goal) (ok : Nat → Prop) (w : World) (hV : kGoal.V w ok v t) :
    Calls Tryz.prog 80 #[v, .func (.func 57) #[] #[]] w fun e w' => ∃ i : Int, e = .returned (.int .i64 i) ∧ anyAt (fun x => !goalOk x) t i ∧ Below w.heap.size w w' := by
  obtain ⟨A, c, rfl, h1, h2, h3, hC, hz⟩ := hV
  have HC := Sec.mk hC
  clear hC hz
  have hu := Tryz.underlying63
  go_enter Tryz.func80, Tryz.ntmps80
  go_wp2
  go_loopw [8] (fun iv wr => ∃ k : Nat, k ≤ t.length ∧ iv = .int .i64 k ∧ Sec ((t.take k).any (fun x => !goalOk x) = false) ∧ Sec (Below w.heap.size w wr)) (fun iv _ => t.length - (intOf iv).toNat)
  case atStart => exact ⟨0, Nat.zero_le _, rfl, ⟨rfl⟩, ⟨Below.refl _ _⟩⟩
  case round =>
    obtain ⟨k, hk, rfl, hT, hb⟩ := hrel
    by_cases hlt : k < t.length
    · obtain ⟨b, off, E1, m1, E2, m2, E3, m3, rfl, hob, c0, c1, c2, c3, hKx⟩ := goal_at (Kd.C_below HC.out hb.out (by decide)) k hlt
      have hA : Sec ((t.take (k + 1)).any (fun x => !goalOk x) = !goalOk t[k]) := ⟨by rw [take_any _ t k hlt, hT.out, Bool.false_or]⟩
      have hmem : Sec (t[k] ∈ t) := ⟨List.getElem_mem hlt⟩
      have HW := Sec.mk (wrongGoal_i1 t[k] _ ok wr hKx)
      clear hKx
      generalize t[k] = x at *
      obtain ⟨bb, hbb⟩ : ∃ b, goalOk x = b := ⟨_, rfl⟩
      have HB := Sec.mk hbb
      rw [hbb] at HW
      clear hbb
      cases bb with
      | true =>
        have hA' : Sec ((t.take (k + 1)).any (fun x => !goalOk x) = false) := ⟨by rw [hA.out, HB.out]; rfl⟩
        go_wp2_with (go_at_call 57; refine HW.out.mono ?_; rintro e w1 ⟨rfl, hb1⟩; have B1 := Sec.mk (bel hb.out hb1); clear hb1)
        go_roundw
        case rel => exact ⟨k + 1, by omega, by go_num, hA', B1⟩
        case measure => simp [intOf]; omega
      | false =>
        have hF : Sec (anyAt (fun x => !goalOk x) t k) := ⟨by
          have : t.any (fun x => !goalOk x) = true := List.any_eq_true.2 ⟨x, hmem.out, by rw [HB.out]; rfl⟩
          unfold anyAt; rw [this]; simp⟩
        go_wp2_with (go_at_call 57; refine HW.out.mono ?_; rintro e w1 ⟨rfl, hb1⟩; have B1 := Sec.mk (bel hb.out hb1); clear hb1)
        go_ret
        exact ⟨_, rfl, hF.out, B1.out⟩
    · have hF : Sec (anyAt (fun x => !goalOk x) t (-1)) := ⟨by
        have : t.any (fun x => !goalOk x) = false := by have := hT.out; rwa [List.take_of_length_le (by omega)] at this
        unfold anyAt; rw [this]; rfl⟩
      go_wp2
      go_ret
      exact ⟨_, rfl, hF.out, hb.out⟩
theorem wrongGoal_i3 (v : Value) (t : List Goal) (ok : Nat → Prop) (w : World) (hV : kGoal.V w ok v t) :
    Calls Tryz.prog 61 #[v, .func (.func 57) #[] #[]] w fun e w' => e = .returned (.bool (!t.all goalOk)) ∧ Below w.heap.size w w' := by
  have HI := Sec.mk (wrongGoal_i2 v t ok w hV)
  obtain ⟨A, c, rfl, h1, h2, h3, hC, hz⟩ := hV
  clear hC hz
  have hq : t.any (fun x => !goalOk x) = !t.all goalOk := by simp [List.any_eq_not_all_not]
  generalize hall : (!t.all goalOk) = al at *
  have HAL := Sec.mk hq
  clear hall hq
  go_enter Tryz.func61, Tryz.ntmps61
  go_wp2_with (go_at_call 80; refine HI.out.mono ?_; rintro e w1 ⟨i, rfl, hw, hb⟩; have B1 := Sec.mk hb; have HW := Sec.mk hw; clear hb hw)
  go_ret
  exact ⟨rb (by have := HW.out; unfold anyAt at this; rw [HAL.out] at this; exact this), B1.out⟩
theorem clauseOk_eq (c : Clause) : clauseOk c = (((trmOk c.head && headFun c.head) && mayIn c.head && decide ((c.body.length : Int) ≤ 4)) && !(!c.body.all goalOk)) := by
  unfold clauseOk
  rw [termIn_may]
  have e : decide ((c.body.length : Int) ≤ 4) = decide (c.body.length ≤ 4) := decide_eq_decide.2 (by omega)
  rw [e]
  generalize trmOk c.head = a
  generalize mayIn c.head = b
  generalize headFun c.head = d
  generalize decide (c.body.length ≤ 4) = q
  generalize c.body.all goalOk = r
  cases a <;> cases b <;> cases d <;> cases q <;> cases r <;> rfl
set_option maxHeartbeats 1000000 in
theorem clauseOk_i (c : Clause) (cs : List Value) (ok : Nat → Prop) (w : World) (hK : kClause.K w ok c cs) :
    Calls Tryz.prog 35 #[.agg cs.toArray] w fun e w' => e = .returned (.bool (clauseOk c)) ∧ Below w.heap.size w w' := by
  obtain ⟨v1, v2, rfl, h1, h2⟩ := kClause_K hK
  have BODY := Sec.mk (fun (W : World) (hb : Below w.heap.size w W) => wrongGoal_i3 v2 c.body ok W (Kd.V_below h2 hb (by decide)))
  have HEAD := Sec.mk (fun (W : World) (hb : Below w.heap.size w W) => called_i v1 c.head ok W (Kd.V_below h1 hb (by decide)))
  have MAY := Sec.mk (fun (W : World) (hb : Below w.heap.size w W) => inClause_i v1 c.head ok W (Kd.V_below h1 hb (by decide)))
  obtain ⟨E2, m2, rfl, -, -, l2, -⟩ := h2
  obtain ⟨E1, m1, rfl, -⟩ := h1
  clear hK
  have B0 := Sec.mk (belA (Below.refl w.heap.size w) (.cells #[.slice E1 c.head.length m1, .slice E2 c.body.length m2] 59))
  have P0 := Sec.mk (heap_alloc_new w (.cells #[.slice E1 c.head.length m1, .slice E2 c.body.length m2] 59))
  have X := (box_at P0.out).2.1
  have y0 := X 0 _ rfl
  have y1 := X 1 _ rfl
  clear X
  have HE := Sec.mk (clauseOk_eq c)
  have hm : (decide (c.head.length ≤ 12) && c.head.all varIn) = mayIn c.head := rfl
  rw [hm] at MAY
  clear hm
  generalize clauseOk c = res at *
  generalize (trmOk c.head && headFun c.head) = p1 at *
  generalize mayIn c.head = p2 at *
  generalize (!c.body.all goalOk) = p4 at *
  have T0 : Sec True := ⟨trivial⟩
  obtain ⟨p3, hp3⟩ : ∃ p, decide ((c.body.length : Int) ≤ 4) = p := ⟨_, rfl⟩
  rw [hp3] at HE
  cases p1 with
  | false =>
    clear hp3
    cases p2 <;> cases p3 <;> (
      go_enter Tryz.func35, Tryz.ntmps35
      go_wp2_with (clear T0; go_at_call 59; have T1 : Sec True := ⟨trivial⟩; refine (HEAD.out _ B0.out).mono ?_; rintro e w1 ⟨rfl, hb⟩; have B1 := Sec.mk (bel B0.out hb); have P1 := Sec.mk ((hb.block _ (Array.getElem?_eq_some_iff.1 P0.out).1).trans P0.out); have X := (box_at P1.out).2.1; have z0 := X 0 _ rfl; clear hb X)
      go_ret
      exact ⟨rb HE.out.symm, B1.out⟩)
  | true =>
    cases p2 with
    | false =>
      clear hp3
      cases p3 <;> (
        go_enter Tryz.func35, Tryz.ntmps35
        go_wp2_with (first | (clear T1; go_at_call 60; have T2 : Sec True := ⟨trivial⟩; refine (MAY.out _ B1.out).mono ?_; rintro e w2 ⟨rfl, hb⟩; have B2 := Sec.mk (bel B1.out hb); have P2 := Sec.mk ((hb.block _ (Array.getElem?_eq_some_iff.1 P1.out).1).trans P1.out); have X := (box_at P2.out).2.1; have u1 := X 1 _ rfl; clear hb X) | (clear T0; go_at_call 59; have T1 : Sec True := ⟨trivial⟩; refine (HEAD.out _ B0.out).mono ?_; rintro e w1 ⟨rfl, hb⟩; have B1 := Sec.mk (bel B0.out hb); have P1 := Sec.mk ((hb.block _ (Array.getElem?_eq_some_iff.1 P0.out).1).trans P0.out); have X := (box_at P1.out).2.1; have z0 := X 0 _ rfl; clear hb X))
        go_ret
        exact ⟨rb HE.out.symm, B2.out⟩)
    | true =>
      cases p3 with
      | false =>
        go_enter Tryz.func35, Tryz.ntmps35
        go_wp2_with (first | (clear T1; go_at_call 60; have T2 : Sec True := ⟨trivial⟩; refine (MAY.out _ B1.out).mono ?_; rintro e w2 ⟨rfl, hb⟩; have B2 := Sec.mk (bel B1.out hb); have P2 := Sec.mk ((hb.block _ (Array.getElem?_eq_some_iff.1 P1.out).1).trans P1.out); have X := (box_at P2.out).2.1; have u1 := X 1 _ rfl; clear hb X) | (clear T0; go_at_call 59; have T1 : Sec True := ⟨trivial⟩; refine (HEAD.out _ B0.out).mono ?_; rintro e w1 ⟨rfl, hb⟩; have B1 := Sec.mk (bel B0.out hb); have P1 := Sec.mk ((hb.block _ (Array.getElem?_eq_some_iff.1 P0.out).1).trans P0.out); have X := (box_at P1.out).2.1; have z0 := X 0 _ rfl; clear hb X))
        go_ret
        exact ⟨rb HE.out.symm, B2.out⟩
      | true =>
        go_enter Tryz.func35, Tryz.ntmps35
        go_wp2_with (first | (clear T2; go_at_call 61; refine (BODY.out _ B2.out).mono ?_; rintro e w3 ⟨rfl, hb⟩; have B3 := Sec.mk (bel B2.out hb); clear hb) | (clear T1; go_at_call 60; have T2 : Sec True := ⟨trivial⟩; refine (MAY.out _ B1.out).mono ?_; rintro e w2 ⟨rfl, hb⟩; have B2 := Sec.mk (bel B1.out hb); have P2 := Sec.mk ((hb.block _ (Array.getElem?_eq_some_iff.1 P1.out).1).trans P1.out); have X := (box_at P2.out).2.1; have u1 := X 1 _ rfl; clear hb X) | (clear T0; go_at_call 59; have T1 : Sec True := ⟨trivial⟩; refine (HEAD.out _ B0.out).mono ?_; rintro e w1 ⟨rfl, hb⟩; have B1 := Sec.mk (bel B0.out hb); have P1 := Sec.mk ((hb.block _ (Array.getElem?_eq_some_iff.1 P0.out).1).trans P0.out); have X := (box_at P1.out).2.1; have z0 := X 0 _ rfl; clear hb X))
        go_ret
        exact ⟨rb HE.out.symm, B3.out⟩
theorem wrongClause_i1 (x : Clause) (cs : List Value) (ok : Nat → Prop) (w : World) (hK : kClause.K w ok x cs) : Calls Tryz.prog 34 #[.agg cs.toArray] w fun e w' => e = .returned (.bool (!clauseOk x)) ∧ Below w.heap.size w w' := by
  have HS := Sec.mk (fun (W : World) (hb : Below w.heap.size w W) => clauseOk_i x cs ok W (Kd.K_below hK hb))
  obtain ⟨v1, v2, rfl, h1, h2⟩ := kClause_K hK
  clear hK h1 h2
  have B0 := Sec.mk (belA (Below.refl w.heap.size w) (.cells #[v1, v2] 59))
  have X := (box_at (heap_alloc_new w (.cells #[v1, v2] 59))).2.1
  have y0 := X 0 _ rfl
  have y1 := X 1 _ rfl
  clear X
  have hu := Tryz.underlying59
  generalize clauseOk x = s at *
  go_enter Tryz.func34, Tryz.ntmps34
  go_wp2_with (go_at_call 35; refine (HS.out _ B0.out).mono ?_; rintro e w1 ⟨rfl, hb⟩; have B1 := Sec.mk (bel B0.out hb); clear hb)
  go_ret
  exact ⟨rfl, B1.out⟩
theorem wrongClause_i2 (v : Value) (t : List Clause) (ok : Nat → Prop) (w : World) (hV : kClause.V w ok v t) :
    Calls Tryz.prog 62 #[v, .func (.func 34) #[] #[]] w fun e w' => ∃ i : Int, e = .returned (.int .i64 i) ∧ anyAt (fun x => !clauseOk x) t i ∧ Below w.heap.size w w' := by
  obtain ⟨A, c, rfl, h1, h2, h3, hC, hz⟩ := hV
  have HC := Sec.mk hC
  clear hC hz
  have hu := Tryz.underlying59
  go_enter Tryz.func62, Tryz.ntmps62
  go_wp2
  go_loopw [8] (fun iv wr => ∃ k : Nat, k ≤ t.length ∧ iv = .int .i64 k ∧ Sec ((t.take k).any (fun x => !clauseOk x) = false) ∧ Sec (Below w.heap.size w wr)) (fun iv _ => t.length - (intOf iv).toNat)
  case atStart => exact ⟨0, Nat.zero_le _, rfl, ⟨rfl⟩, ⟨Below.refl _ _⟩⟩
  case round =>
    obtain ⟨k, hk, rfl, hT, hb⟩ := hrel
    by_cases hlt : k < t.length
    · obtain ⟨b, off, E1, m1, E2, m2, rfl, hob, c0, c1, hKx⟩ := clause_at (Kd.C_below HC.out hb.out (by decide)) k hlt
      have hA : Sec ((t.take (k + 1)).any (fun x => !clauseOk x) = !clauseOk t[k]) := ⟨by rw [take_any _ t k hlt, hT.out, Bool.false_or]⟩
      have hmem : Sec (t[k] ∈ t) := ⟨List.getElem_mem hlt⟩
      have HW := Sec.mk (wrongClause_i1 t[k] _ ok wr hKx)
      clear hKx
      generalize t[k] = x at *
      obtain ⟨bb, hbb⟩ : ∃ b, clauseOk x = b := ⟨_, rfl⟩
      have HB := Sec.mk hbb
      rw [hbb] at HW
      clear hbb
      cases bb with
      | true =>
        have hA' : Sec ((t.take (k + 1)).any (fun x => !clauseOk x) = false) := ⟨by rw [hA.out, HB.out]; rfl⟩
        go_wp2_with (go_at_call 34; refine HW.out.mono ?_; rintro e w1 ⟨rfl, hb1⟩; have B1 := Sec.mk (bel hb.out hb1); clear hb1)
        go_roundw
        case rel => exact ⟨k + 1, by omega, by go_num, hA', B1⟩
        case measure => simp [intOf]; omega
      | false =>
        have hF : Sec (anyAt (fun x => !clauseOk x) t k) := ⟨by
          have : t.any (fun x => !clauseOk x) = true := List.any_eq_true.2 ⟨x, hmem.out, by rw [HB.out]; rfl⟩
          unfold anyAt; rw [this]; simp⟩
        go_wp2_with (go_at_call 34; refine HW.out.mono ?_; rintro e w1 ⟨rfl, hb1⟩; have B1 := Sec.mk (bel hb.out hb1); clear hb1)
        go_ret
        exact ⟨_, rfl, hF.out, B1.out⟩
    · have hF : Sec (anyAt (fun x => !clauseOk x) t (-1)) := ⟨by
        have : t.any (fun x => !clauseOk x) = false := by have := hT.out; rwa [List.take_of_length_le (by omega)] at this
        unfold anyAt; rw [this]; rfl⟩
      go_wp2
      go_ret
      exact ⟨_, rfl, hF.out, hb.out⟩
theorem wrongClause_i3 (v : Value) (t : List Clause) (ok : Nat → Prop) (w : World) (hV : kClause.V w ok v t) :
    Calls Tryz.prog 36 #[v, .func (.func 34) #[] #[]] w fun e w' => e = .returned (.bool (!t.all clauseOk)) ∧ Below w.heap.size w w' := by
  have HI := Sec.mk (wrongClause_i2 v t ok w hV)
  obtain ⟨A, c, rfl, h1, h2, h3, hC, hz⟩ := hV
  clear hC hz
  have hq : t.any (fun x => !clauseOk x) = !t.all clauseOk := by simp [List.any_eq_not_all_not]
  generalize hall : (!t.all clauseOk) = al at *
  have HAL := Sec.mk hq
  clear hall hq
  go_enter Tryz.func36, Tryz.ntmps36
  go_wp2_with (go_at_call 62; refine HI.out.mono ?_; rintro e w1 ⟨i, rfl, hw, hb⟩; have B1 := Sec.mk hb; have HW := Sec.mk hw; clear hb hw)
  go_ret
  exact ⟨rb (by have := HW.out; unfold anyAt at this; rw [HAL.out] at this; exact this), B1.out⟩
end Go.Proofs.YtenigopoknajgaaGreatDoor
