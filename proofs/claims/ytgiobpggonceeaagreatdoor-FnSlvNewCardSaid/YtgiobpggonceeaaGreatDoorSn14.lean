/- Draws of programs: a text read as a clause. Condition: the text is not great; and what goes with it. -/
import Derived.Test.YtgiobpggonceeaaGreatDoorSn3
import Derived.Test.YtgiobpggonceeaaGreatDoorSn5
import Derived.Test.YtgiobpggonceeaaGreatDoorSn6
import Derived.Test.YtgiobpggonceeaaGreatDoorSn11
import Derived.Test.YtgiobpggonceeaaGreatDoorSn12
import Derived.Test.YtgiobpggonceeaaGreatDoorSn13
namespace Go.Proofs.YtgiobpggonceeaaGreatDoor
section
open Go.RowKit
set_option linter.unusedVariables false
set_option maxRecDepth 100000
theorem info_goal : (Tryz.prog.info? 100).map (fun i => (i.zero, i.size, i.bytes)) = some (some (.agg #[.int .i64 0, .slice none 0 0, .slice none 0 0, .slice none 0 0]), 4, 80) := by kernel_rfl
theorem clause_O {w : World} {S1 S2 : Nat → Prop} {t : Term} {gs : List Goal} {v1 v2 : Value} (h1 : kCell.R w S1 v1 t) (h2 : kGoal.R w S2 v2 gs) (d : ∀ k, S1 k → ¬ S2 k) : kClause.O w (fun k => S1 k ∨ S2 k) ⟨t, gs⟩ [v1, v2] :=
  ⟨S1, S2, [v1], [v2], rfl, fun k h => ⟨.inl h, d k h⟩, fun k h => .inr h, ⟨v1, rfl, h1⟩, ⟨v2, rfl, h2⟩⟩
/-- Within the reading of a clause: its box, the result's box, what it owns. -/
structure PRd (w : World) (bx : Nat) (t : Term) (vh : Value) (Sh : Nat → Prop) (gs : List Goal) (vb : Value) (Sb : Nat → Prop) (W : World) : Prop where
  box : W.heap[bx]? = some (.cells #[vh, vb] 113 (0, 0))
  res : W.heap[w.heap.size]? = some (.cells #[.slice none 0 0, .slice none 0 0] 113 (0, 0))
  head : kCell.R W Sh vh t
  body : kGoal.R W Sb vb gs
  ap : ∀ k, Sh k → ¬ Sb k
  mine : ∀ k, Sh k ∨ Sb k → w.heap.size < k ∧ k ≠ bx ∧ k < W.heap.size
  blw : Below w.heap.size w W
  gt : w.heap.size < bx
theorem PRd.below {w : World} {bx : Nat} {t : Term} {vh vb : Value} {Sh Sb : Nat → Prop} {gs : List Goal} {W W' : World} (h : PRd w bx t vh Sh gs vb Sb W) (hb : Below W.heap.size W W') : PRd w bx t vh Sh gs vb Sb W' :=
  ⟨(hb.block _ (Array.getElem?_eq_some_iff.1 h.box).1).trans h.box, (hb.block _ (Array.getElem?_eq_some_iff.1 h.res).1).trans h.res, Kd.R_below h.head hb, Kd.R_below h.body hb, h.ap, fun k hk => ⟨(h.mine k hk).1, (h.mine k hk).2.1, Nat.lt_of_lt_of_le (h.mine k hk).2.2 hb.size⟩, bel h.blw hb, h.gt⟩
theorem PRd.O {w : World} {bx : Nat} {t : Term} {vh vb : Value} {Sh Sb : Nat → Prop} {gs : List Goal} {W : World} (h : PRd w bx t vh Sh gs vb Sb W) : kClause.O W (fun k => w.heap.size < k) ⟨t, gs⟩ [vh, vb] :=
  Kd.O_mono (clause_O h.head h.body h.ap) (fun k hk _ => (h.mine k hk).1)
/-- The body has grown, and is put back. -/
theorem PRd.next {w : World} {bx n2 : Nat} {t : Term} {vh vb v3 : Value} {Sh Sb S3 : Nat → Prop} {gs gs' : List Goal} {W w3 : World} (h : PRd w bx t vh Sh gs vb Sb W) (hF : Foot Sb W w3) (hR : kGoal.R w3 S3 v3 gs') (hS : ∀ k, S3 k → Sb k ∨ n2 ≤ k) (hn : (∀ k, Sh k ∨ Sb k → k < n2) ∧ bx < n2) :
    PRd w bx t vh Sh gs' v3 (fun k => S3 k ∧ k < w3.heap.size) (w3.setCell ⟨bx, 1, none⟩ v3) := by
  have hnb : ¬ Sb bx := fun e => (h.mine bx (.inr e)).2.1 rfl
  have hnr : ¬ Sb w.heap.size := fun e => by have := (h.mine _ (.inr e)).1; omega
  have hb3 : w3.heap[bx]? = some (.cells #[vh, vb] 113 (0, 0)) := (hF.block _ (Array.getElem?_eq_some_iff.1 h.box).1 hnb).trans h.box
  have F4 : Foot (fun k => k = bx) w3 (w3.setCell ⟨bx, 1, none⟩ v3) := Foot.set (S := fun k => k = bx) (Foot.refl _ _) (.inl rfl) _ _
  have hgt := h.gt
  have e3 : ∀ k, S3 k → ¬ k = bx := fun k hk e => by
    rcases hS k hk with h1 | h1
    · exact (h.mine k (.inr h1)).2.1 e
    · have := hn.2; omega
  refine ⟨box_store 1 _ hb3, (F4.block _ (by have := hF.size; have := (Array.getElem?_eq_some_iff.1 h.res).1; omega) (fun e => by have e : w.heap.size = bx := e; omega)).trans ((hF.block _ (Array.getElem?_eq_some_iff.1 h.res).1 hnr).trans h.res), F4.R (hF.R h.head h.ap) (fun k hk e => (h.mine k (.inl hk)).2.1 e), F4.R (Kd.R_mono hR (fun k h1 h2 => ⟨h1, h2⟩)) (fun k hk e => e3 k hk.1 e), fun k hk e => ?_, fun k hk => ?_, F4.below (hF.below h.blw (fun k hk => by have := (h.mine k (.inr hk)).1; omega)) (fun k e => by have e : k = bx := e; omega), hgt⟩
  · rcases hS k e.1 with h1 | h1
    · exact h.ap k hk h1
    · have := hn.1 k (.inl hk); omega
  · show _ ∧ _ ∧ k < (w3.setCell ⟨bx, 1, none⟩ v3).heap.size
    have hz : w3.heap.size ≤ (w3.setCell ⟨bx, 1, none⟩ v3).heap.size := F4.size
    rcases hk with hk | hk
    · have h5 := h.mine k (.inl hk)
      have := hF.size
      exact ⟨h5.1, h5.2.1, by omega⟩
    · refine ⟨?_, e3 k hk.1, by omega⟩
      rcases hS k hk.1 with h1 | h1
      · exact (h.mine k (.inr h1)).1
      · have := hn.2; omega
def lenAt (c : Option Value) : Nat := match c with
  | some (.slice _ n _) => 10 - n
  | _ => 0
set_option maxHeartbeats 4000000 in
theorem PrgRead_c (s : ByteArray) (hs : s.size ≤ 100000000) (w : World) :
    Calls Tryz.prog 224 #[.string s] w fun e w' => ∃ (c : Clause) (cs : List Value) (q : Bool), e = .returned (.tuple #[.agg cs.toArray, .bool q]) ∧ kClause.O w' (fun k => w.heap.size ≤ k) c cs ∧ Below w.heap.size w w' := by
  have hus := Tryz.underlying9
  have hu2 := Tryz.underlying113
  have hu3 := Tryz.underlying100
  have B0 := Sec.mk (belA (Below.refl w.heap.size w) (.cells #[.slice none 0 0, .slice none 0 0] 113))
  have P0 := Sec.mk (heap_alloc_new w (.cells #[.slice none 0 0, .slice none 0 0] 113))
  go_enter Tryz.func224, Tryz.ntmps224
  go_wp2_with fail
  refine (l3Cut_c s ⟨#[105, 102]⟩ hs (by decide) _).mono ?_
  rintro e w1 ⟨sa, sb, q, rfl, ha, hb, hB⟩
  have B1 := Sec.mk (bel B0.out hB)
  have P1 := Sec.mk ((hB.block _ (Array.getElem?_eq_some_iff.1 P0.out).1).trans P0.out)
  clear hB
  go_wp2_with fail
  refine (TrmRead_c sa (by omega) w1).mono ?_
  rintro e w2 ⟨u, t, q2, rfl, htl, hTR, hB⟩
  obtain ⟨Ah, ch, rfl, -, -⟩ := Kd.R_form hTR
  have BXG : Sec (w.heap.size < w2.heap.size) := ⟨by have := (Array.getElem?_eq_some_iff.1 P1.out).1; have := hB.size; omega⟩
  have G0 := Sec.mk (show PRd w w2.heap.size t (.slice Ah t.length ch) (fun k => w1.heap.size ≤ k ∧ k < w2.heap.size) [] (.slice none 0 0) (fun _ => False) (w2.alloc (.cells #[.slice Ah t.length ch, .slice none 0 0] 113)) from
    ⟨heap_alloc_new w2 _, (box_cells (belA (Below.refl w2.heap.size w2) _) ((hB.block _ (Array.getElem?_eq_some_iff.1 P1.out).1).trans P1.out)).1, Kd.R_below (Kd.R_mono hTR (fun k h1 h2 => ⟨h1, h2⟩)) (belA (Below.refl _ _) _), Kd.R_nil kGoal _ _, fun _ _ h => h, fun k hk => by
      rcases hk with hk | hk
      · have := (Array.getElem?_eq_some_iff.1 P1.out).1
        exact ⟨by omega, by omega, by simp; omega⟩
      · exact hk.elim, belA (bel B1.out hB) _, BXG.out⟩)
  clear hTR hB
  cases q2 with
  | false =>
    go_wp2_with (with_reducible show wpList _ _ _ (⟨none, .store 113 (.tmp 2) (.tmp 30), _, _, _, _⟩ :: _) _ _; refine wpList_store (cs := [.slice none 0 0, .slice none 0 0]) (old := #[.slice none 0 0, .slice none 0 0]) rfl 113 (.tmp 2) (.tmp 30) rfl rfl rfl G0.out.res (by kernel_rfl) rfl (kClause.K_one (kClause.O_K (kClause_zero w))) ?_; intro w8 hb8 hF8; have B8 := Sec.mk hb8; have F8 := Sec.mk hF8; clear hb8 hF8)
    exact bodyPost_ret (results_cell2 rfl rfl rfl B8.out hu2 rfl (by kernel_rfl)) rfl ⟨zeroClause, _, false, rfl, Kd.O_mono (kClause_zero _) (fun k h _ => h.elim), F8.out.below G0.out.blw (fun k h => Nat.le_of_eq (show k = w.heap.size from h).symm)⟩
  | true =>
    go_upto_region 6 with (fail)
    have BX0 : Sec (w2.heap.size < (w2.alloc (.cells #[.slice Ah t.length ch, .slice none 0 0] 113)).heap.size) := ⟨by simp⟩
    generalize w2.alloc (.cells #[.slice Ah t.length ch, .slice none 0 0] 113) = wz at *
    generalize w2.heap.size = bx at *
    generalize hSh : (fun k => w1.heap.size ≤ k ∧ k < bx) = Sh at *
    clear hSh P1 B1 P0 B0
    go_loopw [5, 6] (fun sv mv wr => ∃ (sr : ByteArray) (more : Bool) (gs : List Goal) (vb : Value) (Sb : Nat → Prop), sv = .string sr ∧ mv = .bool more ∧ sr.size ≤ 100000000 ∧ gs.length ≤ 5 ∧ Sec (PRd w bx t (.slice Ah t.length ch) Sh gs vb Sb wr)) (fun _ _ wr => lenAt (wr.cell? ⟨bx, 1, none⟩))
    case atStart => exact ⟨sb, q, [], _, _, rfl, rfl, by omega, by simp, G0⟩
    case round =>
      obtain ⟨sr, more, gs, vb, Sb, rfl, rfl, hsr, hgl, PW⟩ := hrel
      obtain ⟨A9, c9, rfl, -, -⟩ := Kd.R_form PW.out.body
      have X := (box_at PW.out.box).2.1
      have y0 := X 0 _ rfl
      have y1 := X 1 _ rfl
      clear X
      by_cases hgo : more = true ∧ gs.length ≤ 4
      · obtain ⟨rfl, hg4⟩ := hgo
        have d4 : decide ((gs.length : Int) ≤ 4) = true := decide_eq_true (by omega)
        go_wp2_with fail
        refine (l3Cut_c sr ⟨#[97, 110, 100]⟩ hsr (by decide) wr).mono ?_
        rintro e w3 ⟨sc, sd, q3, rfl, hc, hd, hB⟩
        have P3 := Sec.mk (PW.out.below hB)
        clear hB y0 y1
        go_wp2_with fail
        refine (GoalRead_c sc (by omega) w3).mono ?_
        rintro e w4 ⟨g, cs, q4, rfl, hO, hB⟩
        obtain ⟨v1, v2, v3, rfl, hk1, hk2, hk3⟩ := kGoal_K (kGoal.O_K hO)
        obtain ⟨A1, m1, rfl, -⟩ := hk1
        obtain ⟨A2, m2, rfl, -⟩ := hk2
        obtain ⟨A3, m3, rfl, -⟩ := hk3
        have ZB := Sec.mk hB.size
        have MB : Sec ((∀ k, Sh k ∨ Sb k → k < w3.heap.size) ∧ bx < w3.heap.size) := ⟨fun k h => (P3.out.mine k h).2.2, (Array.getElem?_eq_some_iff.1 P3.out.box).1⟩
        have OG := Sec.mk (Kd.O_mono hO (S1 := fun k => w3.heap.size ≤ k ∧ k < w4.heap.size) (fun k h1 h2 => ⟨h1, h2⟩))
        have WB := Sec.mk (belA (Below.refl w4.heap.size w4) (.cells #[.int .i64 g.kind, .slice A1 g.a.length m1, .slice A2 g.b.length m2, .slice A3 g.c.length m3] 100))
        have P5 := Sec.mk ((P3.out.below hB).below WB.out)
        have NSB : Sec (¬ Sb bx) := ⟨fun e => (P5.out.mine bx (.inr e)).2.1 rfl⟩
        clear hO hB
        cases q4 with
        | false =>
          go_wp2_with (with_reducible show wpList _ _ _ (⟨none, .store 113 (.tmp 2) (.tmp 51), _, _, _, _⟩ :: _) _ _; refine wpList_store (cs := [.slice none 0 0, .slice none 0 0]) (old := #[.slice none 0 0, .slice none 0 0]) rfl 113 (.tmp 2) (.tmp 51) rfl rfl rfl P5.out.res (by kernel_rfl) rfl (kClause.K_one (kClause.O_K (kClause_zero w))) ?_; intro w8 hb8 hF8; have B8 := Sec.mk hb8; have F8 := Sec.mk hF8; clear hb8 hF8)
          exact bodyPost_ret (results_cell2 rfl rfl rfl B8.out hu2 rfl (by kernel_rfl)) rfl ⟨zeroClause, _, false, rfl, Kd.O_mono (kClause_zero _) (fun k h _ => h.elim), F8.out.below P5.out.blw (fun k h => Nat.le_of_eq (show k = w.heap.size from h).symm)⟩
        | true =>
          have X := (box_at P5.out.box).2.1
          have y0 := X 0 _ rfl
          have y1 := X 1 _ rfl
          clear X
          have X := (box_at (heap_alloc_new w4 (.cells #[.int .i64 g.kind, .slice A1 g.a.length m1, .slice A2 g.b.length m2, .slice A3 g.c.length m3] 100))).2.1
          have z0 := X 0 _ rfl
          have z1 := X 1 _ rfl
          have z2 := X 2 _ rfl
          have z3 := X 3 _ rfl
          clear X
          have hL : gs.length + 1 ≤ 1073741824 := by omega
          have LEN : Sec ((gs ++ [g]).length = gs.length + 1) := ⟨by simp⟩
          go_wp2_with (at_builtin; go_loud (refine Kd.R_app2 kGoal (W := (w4.alloc (.cells #[.int .i64 g.kind, .slice A1 g.a.length m1, .slice A2 g.b.length m2, .slice A3 g.c.length m3] 100))) (by rfl) (.tmp 53) (.tmp 55) 111 (.agg #[.int .i64 0, .slice none 0 0, .slice none 0 0, .slice none 0 0]) 80 (by rfl) Tryz.underlying111 info_goal rfl (by decide) (by decide) _ gs g [.int .i64 g.kind, .slice A1 g.a.length m1, .slice A2 g.b.length m2, .slice A3 g.c.length m3] Sb (fun k => w3.heap.size ≤ k ∧ k < w4.heap.size) (by rfl) (by rfl) (by first | rfl | simp) P5.out.body (Kd.O_below OG.out WB.out) (fun k h _ e => by have := MB.out.1 k (.inr e); omega) hL ?_; intro v5 w5 hR5 hg5 hr5; obtain ⟨A8, m8, rfl, -, -⟩ := Kd.R_form hR5; have L5 := LEN.out; rw [L5] at hR5; clear L5; have F5 : Foot Sb (w4.alloc (.cells #[.int .i64 g.kind, .slice A1 g.a.length m1, .slice A2 g.b.length m2, .slice A3 g.c.length m3] 100)) w5 := Foot.grown2 (Foot.refl _ _) hg5 (fun k e => .inl (hr5 k e)); have P6 := Sec.mk (PRd.next P5.out F5 hR5 (fun k h => by have hz := WB.out.size; have hz2 := ZB.out; rcases h with h | h | h; exact .inl h; exact .inr h.1; exact .inr (by omega)) MB.out); have q9 := (box_at (carry2 F5 P5.out.box (fun e => NSB.out e))).2.1 1 _ rfl; have f9 := (box_at (carry2 F5 P5.out.box (fun e => NSB.out e))).2.2 1; clear hR5 hg5 hr5 F5 y0 y1 z0 z1 z2 z3))
          go_roundw
          case rel => exact ⟨sd, q3, gs ++ [g], _, _, rfl, rfl, by omega, by simp; omega, P6⟩
          case measure =>
            rw [(box_at P6.out.box).2.1 1 _ rfl, (box_at PW.out.box).2.1 1 _ rfl]
            show 10 - (gs.length + 1) < 10 - gs.length
            omega
      · have hst : (more = false) ∨ (more = true ∧ decide ((gs.length : Int) ≤ 4) = false) := by
          cases more with
          | false => exact .inl rfl
          | true => exact .inr ⟨rfl, decide_eq_false (fun h => hgo ⟨rfl, by omega⟩)⟩
        clear hgo
        cases HQ : clauseOk ⟨t, gs⟩ with
        | false =>
          rcases hst with rfl | ⟨rfl, d4⟩
          · skip
            go_wp2_with (first | (go_at_call 59; refine (l3Clause_c ⟨t, gs⟩ _ _ wr (kClause.O_K PW.out.O)).mono ?_; rw [HQ]; rintro e w6 ⟨rfl, hb6⟩; have P6 := Sec.mk (PW.out.below hb6); have X := (box_at P6.out.box).2.1; have z0 := X 0 _ rfl; have z1 := X 1 _ rfl; clear X hb6 y0 y1) | (with_reducible show wpList _ _ _ (⟨none, .store 113 (.tmp 2) (.tmp 63), _, _, _, _⟩ :: _) _ _; refine wpList_store (cs := [.slice none 0 0, .slice none 0 0]) (old := #[.slice none 0 0, .slice none 0 0]) rfl 113 (.tmp 2) (.tmp 63) rfl rfl rfl P6.out.res (by kernel_rfl) rfl (kClause.K_one (kClause.O_K (kClause_zero w))) ?_; intro w8 hb8 hF8; have B8 := Sec.mk hb8; have F8 := Sec.mk hF8; clear hb8 hF8))
            exact bodyPost_ret (results_cell2 rfl rfl rfl B8.out hu2 rfl (by kernel_rfl)) rfl ⟨zeroClause, _, false, rfl, Kd.O_mono (kClause_zero _) (fun k h _ => h.elim), F8.out.below P6.out.blw (fun k h => Nat.le_of_eq (show k = w.heap.size from h).symm)⟩
          · skip
            go_wp2_with (first | (go_at_call 59; refine (l3Clause_c ⟨t, gs⟩ _ _ wr (kClause.O_K PW.out.O)).mono ?_; rw [HQ]; rintro e w6 ⟨rfl, hb6⟩; have P6 := Sec.mk (PW.out.below hb6); have X := (box_at P6.out.box).2.1; have z0 := X 0 _ rfl; have z1 := X 1 _ rfl; clear X hb6 y0 y1) | (with_reducible show wpList _ _ _ (⟨none, .store 113 (.tmp 2) (.tmp 63), _, _, _, _⟩ :: _) _ _; refine wpList_store (cs := [.slice none 0 0, .slice none 0 0]) (old := #[.slice none 0 0, .slice none 0 0]) rfl 113 (.tmp 2) (.tmp 63) rfl rfl rfl P6.out.res (by kernel_rfl) rfl (kClause.K_one (kClause.O_K (kClause_zero w))) ?_; intro w8 hb8 hF8; have B8 := Sec.mk hb8; have F8 := Sec.mk hF8; clear hb8 hF8))
            exact bodyPost_ret (results_cell2 rfl rfl rfl B8.out hu2 rfl (by kernel_rfl)) rfl ⟨zeroClause, _, false, rfl, Kd.O_mono (kClause_zero _) (fun k h _ => h.elim), F8.out.below P6.out.blw (fun k h => Nat.le_of_eq (show k = w.heap.size from h).symm)⟩
        | true =>
          rcases hst with rfl | ⟨rfl, d4⟩
          · skip
            go_wp2_with (first | (go_at_call 59; refine (l3Clause_c ⟨t, gs⟩ _ _ wr (kClause.O_K PW.out.O)).mono ?_; rw [HQ]; rintro e w6 ⟨rfl, hb6⟩; have P6 := Sec.mk (PW.out.below hb6); have X := (box_at P6.out.box).2.1; have z0 := X 0 _ rfl; have z1 := X 1 _ rfl; clear X hb6 y0 y1) | (with_reducible show wpList _ _ _ (⟨none, .store 113 (.tmp 2) (.tmp 64), _, _, _, _⟩ :: _) _ _; refine wpList_store (cs := [.slice Ah t.length ch, .slice A9 gs.length c9]) (old := #[.slice none 0 0, .slice none 0 0]) rfl 113 (.tmp 2) (.tmp 64) rfl rfl rfl P6.out.res (by kernel_rfl) rfl (kClause.K_one (kClause.O_K P6.out.O)) ?_; intro w8 hb8 hF8; have B8 := Sec.mk hb8; have F8 := Sec.mk hF8; clear hb8 hF8))
            exact bodyPost_ret (results_cell2 rfl rfl rfl B8.out hu2 rfl (by kernel_rfl)) rfl ⟨⟨t, gs⟩, _, true, rfl, Kd.O_mono (F8.out.O P6.out.O (fun k h e => by have e : k = w.heap.size := e; omega)) (fun k h _ => by omega), F8.out.below P6.out.blw (fun k h => Nat.le_of_eq (show k = w.heap.size from h).symm)⟩
          · skip
            go_wp2_with (first | (go_at_call 59; refine (l3Clause_c ⟨t, gs⟩ _ _ wr (kClause.O_K PW.out.O)).mono ?_; rw [HQ]; rintro e w6 ⟨rfl, hb6⟩; have P6 := Sec.mk (PW.out.below hb6); have X := (box_at P6.out.box).2.1; have z0 := X 0 _ rfl; have z1 := X 1 _ rfl; clear X hb6 y0 y1) | (with_reducible show wpList _ _ _ (⟨none, .store 113 (.tmp 2) (.tmp 64), _, _, _, _⟩ :: _) _ _; refine wpList_store (cs := [.slice Ah t.length ch, .slice A9 gs.length c9]) (old := #[.slice none 0 0, .slice none 0 0]) rfl 113 (.tmp 2) (.tmp 64) rfl rfl rfl P6.out.res (by kernel_rfl) rfl (kClause.K_one (kClause.O_K P6.out.O)) ?_; intro w8 hb8 hF8; have B8 := Sec.mk hb8; have F8 := Sec.mk hF8; clear hb8 hF8))
            exact bodyPost_ret (results_cell2 rfl rfl rfl B8.out hu2 rfl (by kernel_rfl)) rfl ⟨⟨t, gs⟩, _, true, rfl, Kd.O_mono (F8.out.O P6.out.O (fun k h e => by have e : k = w.heap.size := e; omega)) (fun k h _ => by omega), F8.out.below P6.out.blw (fun k h => Nat.le_of_eq (show k = w.heap.size from h).symm)⟩
end
section
open Go.RowKit
set_option linter.unusedVariables false
set_option maxRecDepth 100000
theorem info_place : (Tryz.prog.info? 116).map (fun i => (i.zero, i.size, i.bytes)) = some (some (.agg #[.string ⟨#[]⟩, .int .i64 0, .int .i64 0]), 3, 32) := by kernel_rfl
theorem info_clause : (Tryz.prog.info? 113).map (fun i => (i.zero, i.size, i.bytes)) = some (some (.agg #[.slice none 0 0, .slice none 0 0]), 2, 48) := by kernel_rfl
theorem prog_O {w : World} {S1 S2 : Nat → Prop} {cls : List Clause} {pls : List Place} {v1 v2 : Value} (h1 : kClause.R w S1 v1 cls) (h2 : kPlace.R w S2 v2 pls) (d : ∀ k, S1 k → ¬ S2 k) : kProg.O w (fun k => S1 k ∨ S2 k) ⟨cls, pls⟩ [v1, v2] :=
  ⟨S1, S2, [v1], [v2], rfl, fun k h => ⟨.inl h, d k h⟩, fun k h => .inr h, ⟨v1, rfl, h1⟩, ⟨v2, rfl, h2⟩⟩
theorem prog_none (w : World) : kProg.O w (fun _ => False) ⟨[], []⟩ [.slice none 0 0, .slice none 0 0] := Kd.O_mono (prog_O (Kd.R_nil kClause w (fun _ => False)) (Kd.R_nil kPlace w (fun _ => False)) (fun _ h => h.elim)) (fun k h _ => h.elim id id)
theorem prgOk_len {p : Prog} (h : prgOk p = true) : p.clauses.length ≤ 12 ∧ p.places.length ≤ 6 := by
  unfold prgOk at h
  simp only [Bool.and_eq_true, decide_eq_true_eq] at h
  exact ⟨h.1.1.1, h.1.1.2⟩
/-- Within the reading of a program: its box, the result's box, what it owns. -/
structure PPd (w : World) (bx : Nat) (cls : List Clause) (vc : Value) (Sc : Nat → Prop) (pls : List Place) (vp : Value) (Sp : Nat → Prop) (W : World) : Prop where
  box : W.heap[bx]? = some (.cells #[vc, vp] 28 (0, 0))
  res : W.heap[w.heap.size]? = some (.cells #[.slice none 0 0, .slice none 0 0] 28 (0, 0))
  cl : kClause.R W Sc vc cls
  pl : kPlace.R W Sp vp pls
  ap : ∀ k, Sc k → ¬ Sp k
  mine : ∀ k, Sc k ∨ Sp k → w.heap.size < k ∧ k ≠ bx ∧ k < W.heap.size
  blw : Below w.heap.size w W
  gt : w.heap.size < bx
section
variable {w : World} {bx n2 : Nat} {cls cls' : List Clause} {pls pls' : List Place} {vc vp v3 : Value} {Sc Sp S3 : Nat → Prop} {W W' w3 : World}
theorem PPd.below (h : PPd w bx cls vc Sc pls vp Sp W) (hb : Below W.heap.size W W') : PPd w bx cls vc Sc pls vp Sp W' :=
  ⟨(hb.block _ (Array.getElem?_eq_some_iff.1 h.box).1).trans h.box, (hb.block _ (Array.getElem?_eq_some_iff.1 h.res).1).trans h.res, Kd.R_below h.cl hb, Kd.R_below h.pl hb, h.ap, fun k hk => ⟨(h.mine k hk).1, (h.mine k hk).2.1, Nat.lt_of_lt_of_le (h.mine k hk).2.2 hb.size⟩, bel h.blw hb, h.gt⟩
theorem PPd.O (h : PPd w bx cls vc Sc pls vp Sp W) : kProg.O W (fun k => w.heap.size < k ∧ k < W.heap.size) ⟨cls, pls⟩ [vc, vp] :=
  Kd.O_mono (prog_O h.cl h.pl h.ap) (fun k hk _ => ⟨(h.mine k hk).1, (h.mine k hk).2.2⟩)
theorem PPd.next0 (h : PPd w bx cls vc Sc pls vp Sp W) (hF : Foot Sc W w3) (hR : kClause.R w3 S3 v3 cls') (hS : ∀ k, S3 k → Sc k ∨ n2 ≤ k) (hn : (∀ k, Sc k ∨ Sp k → k < n2) ∧ bx < n2) :
    PPd w bx cls' v3 (fun k => S3 k ∧ k < w3.heap.size) pls vp Sp (w3.setCell ⟨bx, 0, none⟩ v3) := by
  have hnb : ¬ Sc bx := fun e => (h.mine bx (.inl e)).2.1 rfl
  have hnr : ¬ Sc w.heap.size := fun e => by have := (h.mine _ (.inl e)).1; omega
  have hb3 : w3.heap[bx]? = some (.cells #[vc, vp] 28 (0, 0)) := (hF.block _ (Array.getElem?_eq_some_iff.1 h.box).1 hnb).trans h.box
  have F4 : Foot (fun k => k = bx) w3 (w3.setCell ⟨bx, 0, none⟩ v3) := Foot.set (S := fun k => k = bx) (Foot.refl _ _) (.inl rfl) _ _
  have hgt := h.gt
  have e3 : ∀ k, S3 k → ¬ k = bx := fun k hk e => by
    rcases hS k hk with h1 | h1
    · exact (h.mine k (.inl h1)).2.1 e
    · have := hn.2; omega
  refine ⟨box_store 0 _ hb3, (F4.block _ (by have := hF.size; have := (Array.getElem?_eq_some_iff.1 h.res).1; omega) (fun e => by have e : w.heap.size = bx := e; omega)).trans ((hF.block _ (Array.getElem?_eq_some_iff.1 h.res).1 hnr).trans h.res), F4.R (Kd.R_mono hR (fun k h1 h2 => ⟨h1, h2⟩)) (fun k hk e => e3 k hk.1 e), F4.R (hF.R h.pl (fun k hk e => h.ap k e hk)) (fun k hk e => (h.mine k (.inr hk)).2.1 e), fun k e hk => ?_, fun k hk => ?_, F4.below (hF.below h.blw (fun k hk => by have := (h.mine k (.inl hk)).1; omega)) (fun k e => by have e : k = bx := e; omega), hgt⟩
  · rcases hS k e.1 with h1 | h1
    · exact h.ap k h1 hk
    · have := hn.1 k (.inr hk); omega
  · show _ ∧ _ ∧ k < (w3.setCell ⟨bx, 0, none⟩ v3).heap.size
    have hz : w3.heap.size ≤ (w3.setCell ⟨bx, 0, none⟩ v3).heap.size := F4.size
    rcases hk with hk | hk
    · refine ⟨?_, e3 k hk.1, by omega⟩
      rcases hS k hk.1 with h1 | h1
      · exact (h.mine k (.inl h1)).1
      · have := hn.2; omega
    · have h5 := h.mine k (.inr hk)
      have := hF.size
      exact ⟨h5.1, h5.2.1, by omega⟩
theorem PPd.next1 (h : PPd w bx cls vc Sc pls vp Sp W) (hF : Foot Sp W w3) (hR : kPlace.R w3 S3 v3 pls') (hS : ∀ k, S3 k → Sp k ∨ n2 ≤ k) (hn : (∀ k, Sc k ∨ Sp k → k < n2) ∧ bx < n2) :
    PPd w bx cls vc Sc pls' v3 (fun k => S3 k ∧ k < w3.heap.size) (w3.setCell ⟨bx, 1, none⟩ v3) := by
  have hnb : ¬ Sp bx := fun e => (h.mine bx (.inr e)).2.1 rfl
  have hnr : ¬ Sp w.heap.size := fun e => by have := (h.mine _ (.inr e)).1; omega
  have hb3 : w3.heap[bx]? = some (.cells #[vc, vp] 28 (0, 0)) := (hF.block _ (Array.getElem?_eq_some_iff.1 h.box).1 hnb).trans h.box
  have F4 : Foot (fun k => k = bx) w3 (w3.setCell ⟨bx, 1, none⟩ v3) := Foot.set (S := fun k => k = bx) (Foot.refl _ _) (.inl rfl) _ _
  have hgt := h.gt
  have e3 : ∀ k, S3 k → ¬ k = bx := fun k hk e => by
    rcases hS k hk with h1 | h1
    · exact (h.mine k (.inr h1)).2.1 e
    · have := hn.2; omega
  refine ⟨box_store 1 _ hb3, (F4.block _ (by have := hF.size; have := (Array.getElem?_eq_some_iff.1 h.res).1; omega) (fun e => by have e : w.heap.size = bx := e; omega)).trans ((hF.block _ (Array.getElem?_eq_some_iff.1 h.res).1 hnr).trans h.res), F4.R (hF.R h.cl h.ap) (fun k hk e => (h.mine k (.inl hk)).2.1 e), F4.R (Kd.R_mono hR (fun k h1 h2 => ⟨h1, h2⟩)) (fun k hk e => e3 k hk.1 e), fun k hk e => ?_, fun k hk => ?_, F4.below (hF.below h.blw (fun k hk => by have := (h.mine k (.inr hk)).1; omega)) (fun k e => by have e : k = bx := e; omega), hgt⟩
  · rcases hS k e.1 with h1 | h1
    · exact h.ap k hk h1
    · have := hn.1 k (.inl hk); omega
  · show _ ∧ _ ∧ k < (w3.setCell ⟨bx, 1, none⟩ v3).heap.size
    have hz : w3.heap.size ≤ (w3.setCell ⟨bx, 1, none⟩ v3).heap.size := F4.size
    rcases hk with hk | hk
    · have h5 := h.mine k (.inl hk)
      have := hF.size
      exact ⟨h5.1, h5.2.1, by omega⟩
    · refine ⟨?_, e3 k hk.1, by omega⟩
      rcases hS k hk.1 with h1 | h1
      · exact (h.mine k (.inr h1)).1
      · have := hn.2; omega
end
set_option maxHeartbeats 8000000 in
theorem PrgParse_c (v : Value) (ls : List ByteArray) (ok : Nat → Prop) (w : World) (hV : kStr.V w ok v ls) (hls : ∀ x ∈ ls, x.size ≤ 100000000) :
    Calls Tryz.prog 175 #[v] w fun e w' => ∃ (p : Prog) (cs : List Value) (k : Int), e = .returned (.tuple #[.agg cs.toArray, .int .i64 k]) ∧ kProg.O w' (fun k => w.heap.size ≤ k) p cs ∧ prgOk p = true ∧ Below w.heap.size w w' := by
  obtain ⟨A, c, rfl, h1, h2, h3, hC, hz⟩ := hV
  have HC := Sec.mk hC
  have LS := Sec.mk hls
  clear hC hz hls
  have hus := Tryz.underlying9
  have hu2 := Tryz.underlying28
  have hu3 := Tryz.underlying116
  have hu4 := Tryz.underlying113
  have W0 := belA (Below.refl w.heap.size w) (.cells #[.slice none 0 0, .slice none 0 0] 28)
  have G0 := Sec.mk (show PPd w (w.heap.size + 1) [] (.slice none 0 0) (fun _ => False) [] (.slice none 0 0) (fun _ => False) ((w.alloc (.cells #[.slice none 0 0, .slice none 0 0] 28)).alloc (.cells #[.slice none 0 0, .slice none 0 0] 28)) from
    ⟨(box2 w _ _).2, (box2 w _ _).1, Kd.R_nil kClause _ _, Kd.R_nil kPlace _ _, fun _ h => h.elim, fun k hk => by rcases hk with hk | hk <;> exact hk.elim, belA W0 _, Nat.lt_succ_self _⟩)
  clear W0
  go_enter Tryz.func175, Tryz.ntmps175
  go_wp2_with fail
  go_loopw [5] (fun iv wr => ∃ (i : Nat) (cls : List Clause) (vc : Value) (Sc : Nat → Prop) (pls : List Place) (vp : Value) (Sp : Nat → Prop), i ≤ ls.length ∧ iv = .int .i64 i ∧ prgOk ⟨cls, pls⟩ = true ∧ Sec (PPd w (w.heap.size + 1) cls vc Sc pls vp Sp wr)) (fun iv _ => ls.length - (intOf iv).toNat)
  case atStart => exact ⟨0, _, _, _, _, _, _, Nat.zero_le _, rfl, by decide, G0⟩
  case round =>
    obtain ⟨i, cls, vc, Sc, pls, vp, Sp, hi, rfl, hok, PW⟩ := hrel
    obtain ⟨hl12, hl6⟩ := prgOk_len hok
    have hl12 : cls.length ≤ 12 := hl12
    have hl6 : pls.length ≤ 6 := hl6
    have HOK := Sec.mk hok
    clear hok
    obtain ⟨Ac, nc, rfl, -, -⟩ := Kd.R_form PW.out.cl
    obtain ⟨Ap, np, rfl, -, -⟩ := Kd.R_form PW.out.pl
    generalize hbx : w.heap.size + 1 = bx at *
    clear hbx
    by_cases hlt : i < ls.length
    · obtain ⟨b, off, rfl, hob, hc, -⟩ := str_at (Kd.C_below HC.out PW.out.blw (by decide)) i hlt
      have hsz := LS.out ls[i] (List.getElem_mem hlt)
      generalize ls[i] = s at *
      have i0 : (0 : Int) ≤ (i : Int) := by omega
      have i1 : (i : Int) < (ls.length : Int) := by omega
      go_wp2_with fail
      refine (l3ReadPlace_c s hsz wr).mono ?_
      rintro e w4 ⟨p, q, rfl, hps, hB⟩
      have WB := Sec.mk (belA (Below.refl w4.heap.size w4) (.cells #[.string p.name, .int .i64 p.n, .int .i64 p.node] 116))
      have P5 := Sec.mk ((PW.out.below hB).below WB.out)
      have MB : Sec ((∀ k, Sc k ∨ Sp k → k < w4.heap.size) ∧ bx < w4.heap.size) := ⟨fun k h => Nat.lt_of_lt_of_le (PW.out.mine k h).2.2 hB.size, Nat.lt_of_lt_of_le (Array.getElem?_eq_some_iff.1 PW.out.box).1 hB.size⟩
      have hc5 : (w4.alloc (.cells #[.string p.name, .int .i64 p.n, .int .i64 p.node] 116)).cell? ⟨b, off + i, none⟩ = some (.string s) := (World.cell?_of_block (w := wr) (w' := (w4.alloc (.cells #[.string p.name, .int .i64 p.n, .int .i64 p.node] 116))) ((bel hB WB.out).block b (World.block_lt_of_cell? wr _ hc))).trans hc
      clear hc hB
      have X := (box_at P5.out.box).2.1
      have y0 := X 0 _ rfl
      have y1 := X 1 _ rfl
      clear X
      by_cases hgo : q = true ∧ cls.length = 0
      · obtain ⟨rfl, hc0⟩ := hgo
        have d4 : ((cls.length : Int) == 0) = true := beq_iff_eq.2 (by omega)
        have hc1 := Sec.mk hc0
        clear hc0
        have X := (box_at (heap_alloc_new w4 (.cells #[.string p.name, .int .i64 p.n, .int .i64 p.node] 116))).2.1
        have z0 := X 0 _ rfl
        have z1 := X 1 _ rfl
        have z2 := X 2 _ rfl
        clear X
        have hL : pls.length + 1 ≤ 1073741824 := by omega
        have LEN : Sec ((pls ++ [p]).length = pls.length + 1) := ⟨by simp⟩
        have NSB : Sec (¬ Sp bx) := ⟨fun e => (P5.out.mine bx (.inr e)).2.1 rfl⟩
        have hps2 : p.name.size ≤ 1073741824 := by omega
        go_upto_region 12 with ((at_builtin; go_loud (refine Kd.R_app2 kPlace (W := (w4.alloc (.cells #[.string p.name, .int .i64 p.n, .int .i64 p.node] 116))) (by rfl) (.tmp 33) (.tmp 35) 26 (.agg #[.string ⟨#[]⟩, .int .i64 0, .int .i64 0]) 32 (by rfl) Tryz.underlying26 info_place rfl (by decide) (by decide) _ pls p [.string p.name, .int .i64 p.n, .int .i64 p.node] Sp (fun _ => False) (by rfl) (by rfl) (by first | rfl | simp) P5.out.pl (kPlace_mk _ _ p hps2) (fun k h => h.elim) hL ?_; intro v5 w5 hR5 hg5 hr5; obtain ⟨A8, m8, rfl, -, -⟩ := Kd.R_form hR5; have L5 := LEN.out; rw [L5] at hR5; clear L5; have F5 : Foot Sp (w4.alloc (.cells #[.string p.name, .int .i64 p.n, .int .i64 p.node] 116)) w5 := Foot.grown2 (Foot.refl _ _) hg5 (fun k e => .inl (hr5 k e)); have P7 := Sec.mk (PPd.next1 P5.out F5 hR5 (fun k h => by have hz := WB.out.size; rcases h with h | h | h; exact .inl h; exact h.elim; exact .inr (by omega)) MB.out); have q9 := (box_at (carry2 F5 P5.out.box (fun e => NSB.out e))).2.1 1 _ rfl; have f9 := (box_at (carry2 F5 P5.out.box (fun e => NSB.out e))).2.2 1; clear hR5 hg5 hr5 F5 y0 y1 z0 z1 z2 hc5; skip)))
        generalize (w5.setCell ⟨bx, 1, none⟩ (.slice A8 (pls.length + 1) m8)) = wy at *
        have X := (box_at P7.out.box).2.1
        have y0 := X 0 _ rfl
        have y1 := X 1 _ rfl
        clear X
        cases HQ : prgOk ⟨cls, pls ++ [p]⟩ with
        | false =>
          go_wp2_with (first | (go_at_call 17; go_loud (refine (specPrgOk_c ⟨cls, pls ++ [p]⟩ _ _ _ (kProg.O_K P7.out.O) (fun k h => h.2)).mono ?_; rw [HQ]; rintro e w9 ⟨rfl, hb9⟩; have P9 := Sec.mk (P7.out.below hb9); clear hb9 y0 y1)) | (with_reducible show wpList _ _ _ (⟨none, .store 28 (.tmp 2) (.tmp 60), _, _, _, _⟩ :: _) _ _; refine wpList_store (cs := [.slice none 0 0, .slice none 0 0]) (old := #[.slice none 0 0, .slice none 0 0]) rfl 28 (.tmp 2) (.tmp 60) rfl rfl rfl P9.out.res (by kernel_rfl) rfl (kProg.K_one (kProg.O_K (prog_none w))) ?_; intro w8 hb8 hF8; have B8 := Sec.mk hb8; have F8 := Sec.mk hF8; clear hb8 hF8))
          exact bodyPost_ret (results_cell2 rfl rfl rfl B8.out hu2 rfl (by kernel_rfl)) rfl ⟨⟨[], []⟩, _, _, rfl, Kd.O_mono (prog_none _) (fun k h _ => h.elim), by decide, F8.out.below P9.out.blw (fun k h => Nat.le_of_eq (show k = w.heap.size from h).symm)⟩
        | true =>
          go_wp2_with (go_at_call 17; go_loud (refine (specPrgOk_c ⟨cls, pls ++ [p]⟩ _ _ _ (kProg.O_K P7.out.O) (fun k h => h.2)).mono ?_; rw [HQ]; rintro e w9 ⟨rfl, hb9⟩; have P9 := Sec.mk (P7.out.below hb9); clear hb9 y0 y1))
          go_roundw
          case rel => exact ⟨i + 1, _, _, _, _, _, _, by omega, by go_num, HQ, P9⟩
          case measure => simp [intOf]; omega
      · have hst : (q = false) ∨ (q = true ∧ ((cls.length : Int) == 0) = false) := by
          cases q with
          | false => exact .inl rfl
          | true => exact .inr ⟨rfl, beq_eq_false_iff_ne.2 (fun h => hgo ⟨rfl, by omega⟩)⟩
        clear hgo
        have NSB : Sec (¬ Sc bx) := ⟨fun e => (P5.out.mine bx (.inl e)).2.1 rfl⟩
        generalize hW5 : (w4.alloc (.cells #[.string p.name, .int .i64 p.n, .int .i64 p.node] 116)) = wk at *
        rcases hst with rfl | ⟨rfl, d4⟩
        · skip
          go_wp2_with fail
          refine (PrgRead_c s hsz wk).mono ?_
          rintro e w6 ⟨c, cs, qc, rfl, hO, hB⟩
          obtain ⟨v1, v2, rfl, hk1, hk2⟩ := kClause_K (kClause.O_K hO)
          obtain ⟨A1, m1, rfl, -⟩ := hk1
          obtain ⟨A2, m2, rfl, -⟩ := hk2
          have ZB := Sec.mk hB.size
          have MB2 : Sec ((∀ k, Sc k ∨ Sp k → k < wk.heap.size) ∧ bx < wk.heap.size) := ⟨fun k h => (P5.out.mine k h).2.2, (Array.getElem?_eq_some_iff.1 P5.out.box).1⟩
          have OG := Sec.mk (Kd.O_mono hO (S1 := fun k => wk.heap.size ≤ k ∧ k < w6.heap.size) (fun k h1 h2 => ⟨h1, h2⟩))
          have WB6 := Sec.mk (belA (Below.refl w6.heap.size w6) (.cells #[.slice A1 c.head.length m1, .slice A2 c.body.length m2] 113))
          have P6 := Sec.mk ((P5.out.below hB).below WB6.out)
          clear hO hB hc5 y0 y1
          have X := (box_at P6.out.box).2.1
          have y0 := X 0 _ rfl
          have y1 := X 1 _ rfl
          clear X
          cases qc with
          | false =>
            go_wp2_with (with_reducible show wpList _ _ _ (⟨none, .store 28 (.tmp 2) (.tmp 48), _, _, _, _⟩ :: _) _ _; refine wpList_store (cs := [.slice none 0 0, .slice none 0 0]) (old := #[.slice none 0 0, .slice none 0 0]) rfl 28 (.tmp 2) (.tmp 48) rfl rfl rfl P6.out.res (by kernel_rfl) rfl (kProg.K_one (kProg.O_K (prog_none w))) ?_; intro w8 hb8 hF8; have B8 := Sec.mk hb8; have F8 := Sec.mk hF8; clear hb8 hF8)
            exact bodyPost_ret (results_cell2 rfl rfl rfl B8.out hu2 rfl (by kernel_rfl)) rfl ⟨⟨[], []⟩, _, _, rfl, Kd.O_mono (prog_none _) (fun k h _ => h.elim), by decide, F8.out.below P6.out.blw (fun k h => Nat.le_of_eq (show k = w.heap.size from h).symm)⟩
          | true =>
            have X := (box_at (heap_alloc_new w6 (.cells #[.slice A1 c.head.length m1, .slice A2 c.body.length m2] 113))).2.1
            have z0 := X 0 _ rfl
            have z1 := X 1 _ rfl
            clear X
            have hL : cls.length + 1 ≤ 1073741824 := by omega
            have LEN : Sec ((cls ++ [c]).length = cls.length + 1) := ⟨by simp⟩
            go_upto_region 12 with ((at_builtin; go_loud (refine Kd.R_app2 kClause (W := (w6.alloc (.cells #[.slice A1 c.head.length m1, .slice A2 c.body.length m2] 113))) (by rfl) (.tmp 52) (.tmp 54) 25 (.agg #[.slice none 0 0, .slice none 0 0]) 48 (by rfl) Tryz.underlying25 info_clause rfl (by decide) (by decide) _ cls c [.slice A1 c.head.length m1, .slice A2 c.body.length m2] Sc (fun k => wk.heap.size ≤ k ∧ k < w6.heap.size) (by rfl) (by rfl) (by first | rfl | simp) P6.out.cl (Kd.O_below OG.out WB6.out) (fun k h _ e => by have := MB2.out.1 k (.inl e); omega) hL ?_; intro v5 w5 hR5 hg5 hr5; obtain ⟨A8, m8, rfl, -, -⟩ := Kd.R_form hR5; have L5 := LEN.out; rw [L5] at hR5; clear L5; have F5 : Foot Sc (w6.alloc (.cells #[.slice A1 c.head.length m1, .slice A2 c.body.length m2] 113)) w5 := Foot.grown2 (Foot.refl _ _) hg5 (fun k e => .inl (hr5 k e)); have P7 := Sec.mk (PPd.next0 P6.out F5 hR5 (fun k h => by have hz := WB6.out.size; have hz2 := ZB.out; rcases h with h | h | h; exact .inl h; exact .inr h.1; exact .inr (by omega)) MB2.out); have q9 := (box_at (carry2 F5 P6.out.box (fun e => NSB.out e))).2.1 0 _ rfl; have f9 := (box_at (carry2 F5 P6.out.box (fun e => NSB.out e))).2.2 0; clear hR5 hg5 hr5 F5 y0 y1 z0 z1; skip)))
            generalize (w5.setCell ⟨bx, 0, none⟩ (.slice A8 (cls.length + 1) m8)) = wy at *
            have X := (box_at P7.out.box).2.1
            have y0 := X 0 _ rfl
            have y1 := X 1 _ rfl
            clear X
            cases HQ : prgOk ⟨cls ++ [c], pls⟩ with
            | false =>
              go_wp2_with (first | (go_at_call 17; go_loud (refine (specPrgOk_c ⟨cls ++ [c], pls⟩ _ _ _ (kProg.O_K P7.out.O) (fun k h => h.2)).mono ?_; rw [HQ]; rintro e w9 ⟨rfl, hb9⟩; have P9 := Sec.mk (P7.out.below hb9); clear hb9 y0 y1)) | (with_reducible show wpList _ _ _ (⟨none, .store 28 (.tmp 2) (.tmp 60), _, _, _, _⟩ :: _) _ _; refine wpList_store (cs := [.slice none 0 0, .slice none 0 0]) (old := #[.slice none 0 0, .slice none 0 0]) rfl 28 (.tmp 2) (.tmp 60) rfl rfl rfl P9.out.res (by kernel_rfl) rfl (kProg.K_one (kProg.O_K (prog_none w))) ?_; intro w8 hb8 hF8; have B8 := Sec.mk hb8; have F8 := Sec.mk hF8; clear hb8 hF8))
              exact bodyPost_ret (results_cell2 rfl rfl rfl B8.out hu2 rfl (by kernel_rfl)) rfl ⟨⟨[], []⟩, _, _, rfl, Kd.O_mono (prog_none _) (fun k h _ => h.elim), by decide, F8.out.below P9.out.blw (fun k h => Nat.le_of_eq (show k = w.heap.size from h).symm)⟩
            | true =>
              go_wp2_with (go_at_call 17; go_loud (refine (specPrgOk_c ⟨cls ++ [c], pls⟩ _ _ _ (kProg.O_K P7.out.O) (fun k h => h.2)).mono ?_; rw [HQ]; rintro e w9 ⟨rfl, hb9⟩; have P9 := Sec.mk (P7.out.below hb9); clear hb9 y0 y1))
              go_roundw
              case rel => exact ⟨i + 1, _, _, _, _, _, _, by omega, by go_num, HQ, P9⟩
              case measure => simp [intOf]; omega
        · skip
          go_wp2_with fail
          refine (PrgRead_c s hsz wk).mono ?_
          rintro e w6 ⟨c, cs, qc, rfl, hO, hB⟩
          obtain ⟨v1, v2, rfl, hk1, hk2⟩ := kClause_K (kClause.O_K hO)
          obtain ⟨A1, m1, rfl, -⟩ := hk1
          obtain ⟨A2, m2, rfl, -⟩ := hk2
          have ZB := Sec.mk hB.size
          have MB2 : Sec ((∀ k, Sc k ∨ Sp k → k < wk.heap.size) ∧ bx < wk.heap.size) := ⟨fun k h => (P5.out.mine k h).2.2, (Array.getElem?_eq_some_iff.1 P5.out.box).1⟩
          have OG := Sec.mk (Kd.O_mono hO (S1 := fun k => wk.heap.size ≤ k ∧ k < w6.heap.size) (fun k h1 h2 => ⟨h1, h2⟩))
          have WB6 := Sec.mk (belA (Below.refl w6.heap.size w6) (.cells #[.slice A1 c.head.length m1, .slice A2 c.body.length m2] 113))
          have P6 := Sec.mk ((P5.out.below hB).below WB6.out)
          clear hO hB hc5 y0 y1
          have X := (box_at P6.out.box).2.1
          have y0 := X 0 _ rfl
          have y1 := X 1 _ rfl
          clear X
          cases qc with
          | false =>
            go_wp2_with (with_reducible show wpList _ _ _ (⟨none, .store 28 (.tmp 2) (.tmp 48), _, _, _, _⟩ :: _) _ _; refine wpList_store (cs := [.slice none 0 0, .slice none 0 0]) (old := #[.slice none 0 0, .slice none 0 0]) rfl 28 (.tmp 2) (.tmp 48) rfl rfl rfl P6.out.res (by kernel_rfl) rfl (kProg.K_one (kProg.O_K (prog_none w))) ?_; intro w8 hb8 hF8; have B8 := Sec.mk hb8; have F8 := Sec.mk hF8; clear hb8 hF8)
            exact bodyPost_ret (results_cell2 rfl rfl rfl B8.out hu2 rfl (by kernel_rfl)) rfl ⟨⟨[], []⟩, _, _, rfl, Kd.O_mono (prog_none _) (fun k h _ => h.elim), by decide, F8.out.below P6.out.blw (fun k h => Nat.le_of_eq (show k = w.heap.size from h).symm)⟩
          | true =>
            have X := (box_at (heap_alloc_new w6 (.cells #[.slice A1 c.head.length m1, .slice A2 c.body.length m2] 113))).2.1
            have z0 := X 0 _ rfl
            have z1 := X 1 _ rfl
            clear X
            have hL : cls.length + 1 ≤ 1073741824 := by omega
            have LEN : Sec ((cls ++ [c]).length = cls.length + 1) := ⟨by simp⟩
            go_upto_region 12 with ((at_builtin; go_loud (refine Kd.R_app2 kClause (W := (w6.alloc (.cells #[.slice A1 c.head.length m1, .slice A2 c.body.length m2] 113))) (by rfl) (.tmp 52) (.tmp 54) 25 (.agg #[.slice none 0 0, .slice none 0 0]) 48 (by rfl) Tryz.underlying25 info_clause rfl (by decide) (by decide) _ cls c [.slice A1 c.head.length m1, .slice A2 c.body.length m2] Sc (fun k => wk.heap.size ≤ k ∧ k < w6.heap.size) (by rfl) (by rfl) (by first | rfl | simp) P6.out.cl (Kd.O_below OG.out WB6.out) (fun k h _ e => by have := MB2.out.1 k (.inl e); omega) hL ?_; intro v5 w5 hR5 hg5 hr5; obtain ⟨A8, m8, rfl, -, -⟩ := Kd.R_form hR5; have L5 := LEN.out; rw [L5] at hR5; clear L5; have F5 : Foot Sc (w6.alloc (.cells #[.slice A1 c.head.length m1, .slice A2 c.body.length m2] 113)) w5 := Foot.grown2 (Foot.refl _ _) hg5 (fun k e => .inl (hr5 k e)); have P7 := Sec.mk (PPd.next0 P6.out F5 hR5 (fun k h => by have hz := WB6.out.size; have hz2 := ZB.out; rcases h with h | h | h; exact .inl h; exact .inr h.1; exact .inr (by omega)) MB2.out); have q9 := (box_at (carry2 F5 P6.out.box (fun e => NSB.out e))).2.1 0 _ rfl; have f9 := (box_at (carry2 F5 P6.out.box (fun e => NSB.out e))).2.2 0; clear hR5 hg5 hr5 F5 y0 y1 z0 z1; skip)))
            generalize (w5.setCell ⟨bx, 0, none⟩ (.slice A8 (cls.length + 1) m8)) = wy at *
            have X := (box_at P7.out.box).2.1
            have y0 := X 0 _ rfl
            have y1 := X 1 _ rfl
            clear X
            cases HQ : prgOk ⟨cls ++ [c], pls⟩ with
            | false =>
              go_wp2_with (first | (go_at_call 17; go_loud (refine (specPrgOk_c ⟨cls ++ [c], pls⟩ _ _ _ (kProg.O_K P7.out.O) (fun k h => h.2)).mono ?_; rw [HQ]; rintro e w9 ⟨rfl, hb9⟩; have P9 := Sec.mk (P7.out.below hb9); clear hb9 y0 y1)) | (with_reducible show wpList _ _ _ (⟨none, .store 28 (.tmp 2) (.tmp 60), _, _, _, _⟩ :: _) _ _; refine wpList_store (cs := [.slice none 0 0, .slice none 0 0]) (old := #[.slice none 0 0, .slice none 0 0]) rfl 28 (.tmp 2) (.tmp 60) rfl rfl rfl P9.out.res (by kernel_rfl) rfl (kProg.K_one (kProg.O_K (prog_none w))) ?_; intro w8 hb8 hF8; have B8 := Sec.mk hb8; have F8 := Sec.mk hF8; clear hb8 hF8))
              exact bodyPost_ret (results_cell2 rfl rfl rfl B8.out hu2 rfl (by kernel_rfl)) rfl ⟨⟨[], []⟩, _, _, rfl, Kd.O_mono (prog_none _) (fun k h _ => h.elim), by decide, F8.out.below P9.out.blw (fun k h => Nat.le_of_eq (show k = w.heap.size from h).symm)⟩
            | true =>
              go_wp2_with (go_at_call 17; go_loud (refine (specPrgOk_c ⟨cls ++ [c], pls⟩ _ _ _ (kProg.O_K P7.out.O) (fun k h => h.2)).mono ?_; rw [HQ]; rintro e w9 ⟨rfl, hb9⟩; have P9 := Sec.mk (P7.out.below hb9); clear hb9 y0 y1))
              go_roundw
              case rel => exact ⟨i + 1, _, _, _, _, _, _, by omega, by go_num, HQ, P9⟩
              case measure => simp [intOf]; omega
    · have X := (box_at PW.out.box).2.1
      have y0 := X 0 _ rfl
      have y1 := X 1 _ rfl
      clear X
      go_wp2_with (with_reducible show wpList _ _ _ (⟨none, .store 28 (.tmp 2) (.tmp 63), _, _, _, _⟩ :: _) _ _; refine wpList_store (cs := [.slice Ac cls.length nc, .slice Ap pls.length np]) (old := #[.slice none 0 0, .slice none 0 0]) rfl 28 (.tmp 2) (.tmp 63) rfl rfl rfl PW.out.res (by kernel_rfl) rfl (kProg.K_one (kProg.O_K PW.out.O)) ?_; intro w8 hb8 hF8; have B8 := Sec.mk hb8; have F8 := Sec.mk hF8; clear hb8 hF8)
      exact bodyPost_ret (results_cell2 rfl rfl rfl B8.out hu2 rfl (by kernel_rfl)) rfl ⟨⟨cls, pls⟩, _, ⟨_, rfl⟩, Kd.O_mono (F8.out.O PW.out.O (fun k h e => by have e : k = w.heap.size := e; omega)) (fun k h _ => by omega), HOK.out, F8.out.below PW.out.blw (fun k h => Nat.le_of_eq (show k = w.heap.size from h).symm)⟩
end
section
open Go.RowKit
set_option linter.unusedVariables false
set_option maxRecDepth 100000
theorem gf_body : Kd.GFld kClause (Kd.slice 111 kGoal (by decide)) 1 (fun x => x.body) (fun x y => { x with body := y }) := Kd.GFld.iso _ (Kd.GFld.snd (Kd.GFld.self _)) (fun _ _ => rfl)
theorem kClause_of {w : World} {S1 S2 : Nat → Prop} {x : Clause} {v1 v2 : Value} (h1 : kCell.R w S1 v1 x.head) (h2 : kGoal.R w S2 v2 x.body) (d : ∀ k, S1 k → ¬ S2 k) : kClause.O w (fun k => S1 k ∨ S2 k) x [v1, v2] :=
  ⟨S1, S2, [v1], [v2], rfl, fun k h => ⟨.inl h, d k h⟩, fun k h => .inr h, ⟨v1, rfl, h1⟩, ⟨v2, rfl, h2⟩⟩
def onOc {α : Type} (d : Kd α) (x : α) (cs : List Value) : On := fun _ S w => d.O w S x cs
end
section
open Go.RowKit
set_option linter.unusedVariables false
set_option maxRecDepth 100000
/-- The clause in its box, its body growing. -/
abbrev ClG (t : Term) (u : Value) (X n0 : Nat) (w : World) (v : Value) (gs : List Goal) (Sr Sc : Nat → Prop) : Prop := Growing kClause kGoal 111 (by decide) (fun y => (⟨t, y⟩ : Clause)) X n0 [u] [] 113 w v gs Sr Sc
theorem goal_one (w : World) (k : Int) : kGoal.O w (fun _ => False) ⟨k, [], [], []⟩ [.int .i64 k, .slice none 0 0, .slice none 0 0, .slice none 0 0] :=
  Kd.O_mono (kGoal_of (Kd.R_nil kCell w (fun _ => False)) (Kd.R_nil kCell w (fun _ => False)) (Kd.R_nil kCell w (fun _ => False)) (fun _ h => h.elim) (fun _ h => h.elim) (fun _ h => h.elim)) (fun k h _ => by rcases h with h | h | h <;> exact h.elim)
theorem goal_a {w : World} {S : Nat → Prop} {t : Term} {v : Value} (h : kCell.R w S v t) : kGoal.O w S ⟨1, t, [], []⟩ [.int .i64 1, v, .slice none 0 0, .slice none 0 0] :=
  Kd.O_mono (kGoal_of h (Kd.R_nil kCell w (fun _ => False)) (Kd.R_nil kCell w (fun _ => False)) (fun _ _ => id) (fun _ _ => id) (fun _ _ => id)) (fun k h _ => by rcases h with h | h | h; exact h; exact h.elim; exact h.elim)
set_option maxHeartbeats 8000000 in
theorem l20Clause_c (w0 w : World) (g P : Nat) (hR : Rd w0 w g P) (hP : P ≤ 999900000) :
    Calls Tryz.prog 227 #[.pointer (some ⟨g, 0, none⟩)] w fun e w' => ∃ s : ByteArray, e = .returned (.string s) ∧ s.size ≤ 200000 ∧ Rd w0 w' g (P + 40000) ∧ Only g w w' := by
  have hg := hR.lt
  have H0 := Sec.mk hR
  have WZ0 := Sec.mk hR.bel.size
  have hu2 := Tryz.underlying113
  have hu3 := Tryz.underlying100
  clear hR
  go_enter Tryz.func227, Tryz.ntmps227
  go_wp2_with fail
  refine (head_c w0 w g P H0.out (by omega)).mono ?_
  rintro e w1 ⟨u, t, rfl, hl, hT, hR1, hO1⟩
  obtain ⟨Ah, ch, rfl, -, -⟩ := Kd.R_form hT
  have z1 := hO1.size
  have XG : Sec (w.heap.size ≤ w1.heap.size) := ⟨z1⟩
  obtain ⟨c0, c2, v, Sr, Sc, hl0, hcs, HG0⟩ := Growing.start (w := w1.alloc (.cells #[.slice Ah t.length ch, .slice none 0 0] 113)) (X := w1.heap.size) (n0 := w.heap.size) gf_body (heap_alloc_new w1 _) (kClause_of (x := ⟨t, []⟩) (Kd.R_below (Kd.R_mono hT (S1 := fun k => w.heap.size ≤ k ∧ k < w1.heap.size) (fun k h1 h2 => ⟨h1, h2⟩)) (belA (Below.refl _ _) _)) (Kd.R_nil kGoal _ (fun _ => False)) (fun k h => id)) (fun k hk => by rcases hk with hk | hk; exact ⟨hk.1, by omega⟩; exact hk.elim) (by omega)
  obtain ⟨a0, rfl⟩ : ∃ a, c0 = [a] := by match c0, hl0 with | [a], _ => exact ⟨a, rfl⟩
  simp only [List.cons_append, List.nil_append, List.cons.injEq] at hcs
  obtain ⟨rfl, rfl, rfl⟩ := hcs
  have G2 : Sec (ClG t (.slice Ah t.length ch) w1.heap.size w.heap.size (w1.alloc (.cells #[.slice Ah t.length ch, .slice none 0 0] 113)) (.slice none 0 0) [] Sr Sc) := ⟨HG0⟩
  have R2 := Sec.mk (hR1.below (belA (Below.refl _ _) (.cells #[.slice Ah t.length ch, .slice none 0 0] 113)))
  have O2 := Sec.mk (hO1.alloc (.cells #[.slice Ah t.length ch, .slice none 0 0] 113))
  clear HG0 hT hR1 hO1 z1 hl0
  go_wp2_with fail
  generalize w1.alloc (.cells #[.slice Ah t.length ch, .slice none 0 0] 113) = w2 at *
  generalize w1.heap.size = X at *
  refine (pick_c w0 w2 g (P + 5000) 3 R2.out (by omega)).mono ?_
  rintro e w3 ⟨r, rfl, ⟨p0, p1, -⟩, hR3, hO3⟩
  have p2 := p1 (by omega)
  obtain ⟨k, rfl⟩ : ∃ k : Nat, r = (k : Int) := ⟨r.toNat, by omega⟩
  have G3 := Sec.mk (G2.out.only hO3 hg)
  have R3 := Sec.mk hR3
  have O3 := Sec.mk (O2.out.trans hO3)
  clear p0 p1 hR3 hO3 G2 O2 R2
  go_wp2_with fail
  go_loopw [4] (fun kv wr => ∃ (k : Nat) (gs : List Goal) (v : Value) (Sr Sc : Nat → Prop), kv = .int .i64 k ∧ k + gs.length ≤ 2 ∧ Sec (ClG t (.slice Ah t.length ch) X w.heap.size wr v gs Sr Sc) ∧ Sec (Rd w0 wr g (P + 5001 + gs.length * 6000)) ∧ Sec (Only g w wr)) (fun kv _ => (intOf kv).toNat)
  case atStart => exact ⟨k, [], _, _, _, rfl, by simp; omega, G3, ⟨R3.out.mono (by simp)⟩, O3⟩
  case round =>
    obtain ⟨k, gs, v, Sr, Sc, rfl, hk, HG, HR, HO⟩ := hrel
    obtain ⟨A0, n0, rfl, -, -⟩ := Kd.R_form HG.out.row
    have HGX : Sec (X < wr.heap.size ∧ w.heap.size ≤ X ∧ (∀ q, Sr q ∨ Sc q → w.heap.size ≤ q ∧ q < wr.heap.size ∧ q ≠ X)) := ⟨(Array.getElem?_eq_some_iff.1 HG.out.box).1, HG.out.at_, fun q h => HG.out.mine q h⟩
    have WZ := Sec.mk HO.out.size
    have hL : gs.length + 1 ≤ 1073741824 := by omega
    have LEN : ∀ x : Goal, (gs ++ [x]).length = gs.length + 1 := fun x => by simp
    have LEN : Sec (∀ x : Goal, (gs ++ [x]).length = gs.length + 1) := ⟨LEN⟩
    by_cases hk0 : 0 < k
    · obtain ⟨n, rfl⟩ : ∃ n, k = n + 1 := ⟨k - 1, by omega⟩
      have d1 : decide (((n + 1 : Nat) : Int) > 0) = true := decide_eq_true (by omega)
      go_wp2_with fail
      refine (head_c w0 wr g _ HR.out (by omega)).mono ?_
      rintro e w4 ⟨u4, t4, rfl, hl4, hT4, hR4, hO4⟩
      obtain ⟨A4, c4, rfl, -, -⟩ := Kd.R_form hT4
      have z4 := hO4.size
      have HB4 := belA (Below.refl w4.heap.size w4) (.cells #[.int .i64 1, .slice A4 t4.length c4, .slice none 0 0, .slice none 0 0] 100)
      have HG5 := Sec.mk ((HG.out.only hO4 hg).below HB4)
      have R5 := Sec.mk (hR4.below HB4)
      have O5 := Sec.mk ((HO.out.trans hO4).trans (Only.of_below HB4))
      have B5 := Sec.mk (heap_alloc_new w4 (.cells #[.int .i64 1, .slice A4 t4.length c4, .slice none 0 0, .slice none 0 0] 100))
      have GO5 := Sec.mk (Kd.O_below (goal_a (Kd.R_mono hT4 (S1 := fun k => wr.heap.size ≤ k ∧ k < w4.heap.size) (fun k h1 h2 => ⟨h1, h2⟩))) HB4)
      have YZ : Sec (wr.heap.size ≤ w4.heap.size) := ⟨z4⟩
      clear hT4 hR4 hO4 HB4
      go_wp2_with fail
      have YL : Sec (w4.heap.size < (w4.alloc (.cells #[.int .i64 1, .slice A4 t4.length c4, .slice none 0 0, .slice none 0 0] 100)).heap.size) := ⟨by simp⟩
      generalize w4.alloc (.cells #[.int .i64 1, .slice A4 t4.length c4, .slice none 0 0, .slice none 0 0] 100) = w5 at *
      generalize w4.heap.size = Y at *
      refine (pick_c w0 w5 g _ 5 R5.out (by omega)).mono ?_
      rintro e w6 ⟨r, rfl, ⟨p0, p1, -⟩, hR6, hO6⟩
      have p2 := p1 (by omega)
      have hgY : Y ≠ g := by have := YZ.out; have := WZ.out; omega
      have HG6 := Sec.mk (HG5.out.only hO6 hg)
      have RD6 := Sec.mk hR6
      have ON6 := Sec.mk (O5.out.trans hO6)
      have BX6 := Sec.mk (hO6.blk B5.out hgY)
      have GO6 := Sec.mk (hO6.O GO5.out (fun k h => by have := WZ.out; omega))
      clear p1 hR6 hO6 HG5 R5 O5 B5 GO5
      rcases (show r = 0 ∨ r = 1 ∨ (r ≠ 0 ∧ r ≠ 1) by omega) with rfl | rfl | ⟨r0, r1⟩
      · have SYX : Sec (∀ k, (fun _ => False) k → wr.heap.size ≤ k) := ⟨fun k h => h.elim⟩
        go_wp2_with (first | (with_reducible show wpList _ _ _ (⟨none, .store 100 (.tmp 5) (.tmp 22), _, _, _, _⟩   :: _) _ _; go_loud (refine wpList_store (cs := [.int .i64 3, .slice none 0 0, .slice none 0 0, .slice none 0 0]) (old := #[.int .i64 1, .slice A4 t4.length c4, .slice none 0 0, .slice none 0 0]) rfl 100 (.tmp 5) (.tmp 22) rfl rfl rfl BX6.out (by kernel_rfl) rfl (kGoal.K_one (kGoal.O_K (goal_one w 3))) ?_; intro w8 hb8 hF8; have BXV := Sec.mk hb8; have HGV := Sec.mk (Growing.foot HG6.out hF8 (fun k e => by have e : k = Y := e; exact ⟨by have := HGX.out.1; have := YZ.out; omega, fun h => by have := (HGX.out.2.2 k (.inl h)).2.1; have := YZ.out; omega, fun h => by have := (HGX.out.2.2 k (.inr h)).2.1; have := YZ.out; omega⟩)); have RDV := Sec.mk (hF8.rd RD6.out (fun k e => by have e : k = Y := e; have := YZ.out; have := WZ0.out; have := WZ.out; exact ⟨by omega, by omega⟩)); have ONV := Sec.mk (hF8.onlyOf ON6.out (fun k e => by have e : k = Y := e; have := YZ.out; have := WZ.out; omega)); have GOV := Sec.mk (goal_one w8 3); have y1 := HGV.out.cell (j := 1) rfl; have z0 := (box_at BXV.out).2.1 0 _ rfl; have z1 := (box_at BXV.out).2.1 1 _ rfl; have z2 := (box_at BXV.out).2.1 2 _ rfl; have z3 := (box_at BXV.out).2.1 3 _ rfl; clear hb8 hF8)) | (at_builtin; go_loud (refine Kd.R_app2 kGoal (W := w8) (by rfl) (.tmp 31) (.tmp 33) 111 (.agg #[.int .i64 0, .slice none 0 0, .slice none 0 0, .slice none 0 0]) 80 (by rfl) Tryz.underlying111 info_goal rfl (by decide) (by decide) _ gs (⟨3, [], [], []⟩ : Goal) [.int .i64 3, .slice none 0 0, .slice none 0 0, .slice none 0 0] Sc (fun _ => False) (by rfl) (by rfl) (by first | rfl | simp) HGV.out.row GOV.out (fun k h1 _ h2 => by have := (HGX.out.2.2 k (.inr h2)).2.1; have := SYX.out k h1; omega) hL ?_; intro v9 w9 hR9 hg9 hr9; obtain ⟨A9, m9, rfl, -, -⟩ := Kd.R_form hR9; have L9 := LEN.out (⟨3, [], [], []⟩ : Goal); rw [L9] at hR9; clear L9; have F9 : Foot Sc w8 w9 := Foot.grown2 (Foot.refl _ _) hg9 (fun k e => .inl (hr9 k e)); have N9 := Sec.mk (Growing.put HGV.out rfl F9 hR9 (fun k h => h) (fun k h => ⟨fun e => by have := (HGX.out.2.2 k (.inl e)).2.1; have := SYX.out k h; omega, by have := SYX.out k h; have := WZ.out; omega, by have := SYX.out k h; have := HGX.out.1; omega⟩)); have R9 := Sec.mk ((F9.rd RDV.out (fun k h => ⟨by have := (HGX.out.2.2 k (.inr h)).1; omega, by have := (HGX.out.2.2 k (.inr h)).1; have := WZ0.out; omega⟩)).set (b := X) (by have := HGX.out.2.1; omega) (by have := HGX.out.2.1; have := WZ0.out; omega) 1 (.slice A9 (gs.length + 1) m9)); have O9 := Sec.mk ((F9.onlyOf ONV.out (fun k h => (HGX.out.2.2 k (.inr h)).1)).setNew (b := X) HGX.out.2.1 1 (.slice A9 (gs.length + 1) m9)); have NX : ¬ Sc X := fun e => (HGX.out.2.2 X (.inr e)).2.2 rfl; have q9 := (box_at (carry2 F9 HGV.out.box NX)).2.1 1 _ rfl; have f9 := (box_at (carry2 F9 HGV.out.box NX)).2.2 1; clear hR9 hg9 hr9 F9 NX y1 z0 z1 z2 z3)))
        go_roundw
        case rel => exact ⟨n, gs ++ [(⟨3, [], [], []⟩ : Goal)], _, _, _, by go_num, by simp; omega, N9, ⟨R9.out.mono (by simp; omega)⟩, O9⟩
        case measure => simp [intOf]
      · go_wp2_with fail
        refine (term_c w0 w6 g _ 5 4 RD6.out (by omega) (by omega) (by omega)).mono ?_
        rintro e w7 ⟨u7, t7, rfl, hT7, -, hl7, -, hR7, hO7⟩
        obtain ⟨A7, c7, rfl, -, -⟩ := Kd.R_form hT7
        have z7 := hO7.size
        have HG7 := Sec.mk (HG6.out.only hO7 hg)
        have RD7 := Sec.mk hR7
        have ON7 := Sec.mk (ON6.out.trans hO7)
        have BX7 := Sec.mk (hO7.blk BX6.out hgY)
        have T7 := Sec.mk (Kd.R_mono hT7 (S1 := fun k => w6.heap.size ≤ k ∧ k < w7.heap.size) (fun k h1 h2 => ⟨h1, h2⟩))
        have Z6 : Sec (Y < w6.heap.size) := ⟨(Array.getElem?_eq_some_iff.1 BX6.out).1⟩
        have z6 := Z6.out
        clear hT7 hR7 hO7 HG6 RD6 ON6 BX6 GO6
        go_wp2_with fail
        refine (term_c w0 w7 g _ 5 4 RD7.out (by omega) (by omega) (by omega)).mono ?_
        rintro e wq ⟨uq, tq, rfl, hTq, -, hlq, -, hRq, hOq⟩
        obtain ⟨Aq, cq, rfl, -, -⟩ := Kd.R_form hTq
        have zq := hOq.size
        have HG6 := Sec.mk (HG7.out.only hOq hg)
        have RD6 := Sec.mk hRq
        have ON6 := Sec.mk (ON7.out.trans hOq)
        have BX6 := Sec.mk (hOq.blk BX7.out hgY)
        have GO6 := Sec.mk (kGoal_of (k := 2) (hOq.R T7.out (fun k h => by have := WZ.out; have := YZ.out; omega)) (Kd.R_mono hTq (S1 := fun k => w7.heap.size ≤ k ∧ k < wq.heap.size) (fun k h1 h2 => ⟨h1, h2⟩)) (Kd.R_nil kCell wq (fun _ => False)) (fun k h1 h2 => by omega) (fun k h1 h2 => h2) (fun k h1 h2 => h2))
        clear hTq hRq hOq HG7 RD7 ON7 BX7 T7
        have SYX : Sec (∀ k, (fun k => (w6.heap.size ≤ k ∧ k < w7.heap.size) ∨ (w7.heap.size ≤ k ∧ k < wq.heap.size) ∨ False) k → wr.heap.size ≤ k) := ⟨fun k h => by have := YZ.out; rcases h with h | h | h; omega; omega; exact h.elim⟩
        have GNY : Sec (∀ k, (fun k => (w6.heap.size ≤ k ∧ k < w7.heap.size) ∨ (w7.heap.size ≤ k ∧ k < wq.heap.size) ∨ False) k → ¬ k = Y) := ⟨fun k h => by have := Z6.out; rcases h with h | h | h; omega; omega; exact h.elim⟩
        go_wp2_with (first | (with_reducible show wpList _ _ _ (⟨none, .store 100 (.tmp 5) (.tmp 29), _, _, _, _⟩   :: _) _ _; go_loud (refine wpList_store (cs := [.int .i64 2, .slice A7 t7.length c7, .slice Aq tq.length cq, .slice none 0 0]) (old := #[.int .i64 1, .slice A4 t4.length c4, .slice none 0 0, .slice none 0 0]) rfl 100 (.tmp 5) (.tmp 29) rfl rfl rfl BX6.out (by kernel_rfl) rfl (kGoal.K_one (kGoal.O_K GO6.out)) ?_; intro w8 hb8 hF8; have BXV := Sec.mk hb8; have HGV := Sec.mk (Growing.foot HG6.out hF8 (fun k e => by have e : k = Y := e; exact ⟨by have := HGX.out.1; have := YZ.out; omega, fun h => by have := (HGX.out.2.2 k (.inl h)).2.1; have := YZ.out; omega, fun h => by have := (HGX.out.2.2 k (.inr h)).2.1; have := YZ.out; omega⟩)); have RDV := Sec.mk (hF8.rd RD6.out (fun k e => by have e : k = Y := e; have := YZ.out; have := WZ0.out; have := WZ.out; exact ⟨by omega, by omega⟩)); have ONV := Sec.mk (hF8.onlyOf ON6.out (fun k e => by have e : k = Y := e; have := YZ.out; have := WZ.out; omega)); have GOV := Sec.mk (hF8.O GO6.out (fun k h => GNY.out k h)); have y1 := HGV.out.cell (j := 1) rfl; have z0 := (box_at BXV.out).2.1 0 _ rfl; have z1 := (box_at BXV.out).2.1 1 _ rfl; have z2 := (box_at BXV.out).2.1 2 _ rfl; have z3 := (box_at BXV.out).2.1 3 _ rfl; clear hb8 hF8)) | (at_builtin; go_loud (refine Kd.R_app2 kGoal (W := w8) (by rfl) (.tmp 31) (.tmp 33) 111 (.agg #[.int .i64 0, .slice none 0 0, .slice none 0 0, .slice none 0 0]) 80 (by rfl) Tryz.underlying111 info_goal rfl (by decide) (by decide) _ gs (⟨2, t7, tq, []⟩ : Goal) [.int .i64 2, .slice A7 t7.length c7, .slice Aq tq.length cq, .slice none 0 0] Sc (fun k => (w6.heap.size ≤ k ∧ k < w7.heap.size) ∨ (w7.heap.size ≤ k ∧ k < wq.heap.size) ∨ False) (by rfl) (by rfl) (by first | rfl | simp) HGV.out.row GOV.out (fun k h1 _ h2 => by have := (HGX.out.2.2 k (.inr h2)).2.1; have := SYX.out k h1; omega) hL ?_; intro v9 w9 hR9 hg9 hr9; obtain ⟨A9, m9, rfl, -, -⟩ := Kd.R_form hR9; have L9 := LEN.out (⟨2, t7, tq, []⟩ : Goal); rw [L9] at hR9; clear L9; have F9 : Foot Sc w8 w9 := Foot.grown2 (Foot.refl _ _) hg9 (fun k e => .inl (hr9 k e)); have N9 := Sec.mk (Growing.put HGV.out rfl F9 hR9 (fun k h => h) (fun k h => ⟨fun e => by have := (HGX.out.2.2 k (.inl e)).2.1; have := SYX.out k h; omega, by have := SYX.out k h; have := WZ.out; omega, by have := SYX.out k h; have := HGX.out.1; omega⟩)); have R9 := Sec.mk ((F9.rd RDV.out (fun k h => ⟨by have := (HGX.out.2.2 k (.inr h)).1; omega, by have := (HGX.out.2.2 k (.inr h)).1; have := WZ0.out; omega⟩)).set (b := X) (by have := HGX.out.2.1; omega) (by have := HGX.out.2.1; have := WZ0.out; omega) 1 (.slice A9 (gs.length + 1) m9)); have O9 := Sec.mk ((F9.onlyOf ONV.out (fun k h => (HGX.out.2.2 k (.inr h)).1)).setNew (b := X) HGX.out.2.1 1 (.slice A9 (gs.length + 1) m9)); have NX : ¬ Sc X := fun e => (HGX.out.2.2 X (.inr e)).2.2 rfl; have q9 := (box_at (carry2 F9 HGV.out.box NX)).2.1 1 _ rfl; have f9 := (box_at (carry2 F9 HGV.out.box NX)).2.2 1; clear hR9 hg9 hr9 F9 NX y1 z0 z1 z2 z3)))
        go_roundw
        case rel => exact ⟨n, gs ++ [(⟨2, t7, tq, []⟩ : Goal)], _, _, _, by go_num, by simp; omega, N9, ⟨R9.out.mono (by simp; omega)⟩, O9⟩
        case measure => simp [intOf]
      · have e0 : (r == 0) = false := beq_eq_false_iff_ne.2 r0
        have e1 : (r == 1) = false := beq_eq_false_iff_ne.2 r1
        have SYX : Sec (∀ k, (fun k => wr.heap.size ≤ k ∧ k < Y) k → wr.heap.size ≤ k) := ⟨fun k h => h.1⟩
        clear r0 r1
        have y1 := HG6.out.cell (j := 1) rfl
        have X9 := (box_at BX6.out).2.1
        have z0 := X9 0 _ rfl
        have z1 := X9 1 _ rfl
        have z2 := X9 2 _ rfl
        have z3 := X9 3 _ rfl
        clear X9
        go_wp2_with (at_builtin; go_loud (refine Kd.R_app2 kGoal (W := w6) (by rfl) (.tmp 31) (.tmp 33) 111 (.agg #[.int .i64 0, .slice none 0 0, .slice none 0 0, .slice none 0 0]) 80 (by rfl) Tryz.underlying111 info_goal rfl (by decide) (by decide) _ gs (⟨1, t4, [], []⟩ : Goal) [.int .i64 1, .slice A4 t4.length c4, .slice none 0 0, .slice none 0 0] Sc (fun k => wr.heap.size ≤ k ∧ k < Y) (by rfl) (by rfl) (by first | rfl | simp) HG6.out.row GO6.out (fun k h1 _ h2 => by have := (HGX.out.2.2 k (.inr h2)).2.1; have := SYX.out k h1; omega) hL ?_; intro v9 w9 hR9 hg9 hr9; obtain ⟨A9, m9, rfl, -, -⟩ := Kd.R_form hR9; have L9 := LEN.out (⟨1, t4, [], []⟩ : Goal); rw [L9] at hR9; clear L9; have F9 : Foot Sc w6 w9 := Foot.grown2 (Foot.refl _ _) hg9 (fun k e => .inl (hr9 k e)); have N9 := Sec.mk (Growing.put HG6.out rfl F9 hR9 (fun k h => h) (fun k h => ⟨fun e => by have := (HGX.out.2.2 k (.inl e)).2.1; have := SYX.out k h; omega, by have := SYX.out k h; have := WZ.out; omega, by have := SYX.out k h; have := HGX.out.1; omega⟩)); have R9 := Sec.mk ((F9.rd RD6.out (fun k h => ⟨by have := (HGX.out.2.2 k (.inr h)).1; omega, by have := (HGX.out.2.2 k (.inr h)).1; have := WZ0.out; omega⟩)).set (b := X) (by have := HGX.out.2.1; omega) (by have := HGX.out.2.1; have := WZ0.out; omega) 1 (.slice A9 (gs.length + 1) m9)); have O9 := Sec.mk ((F9.onlyOf ON6.out (fun k h => (HGX.out.2.2 k (.inr h)).1)).setNew (b := X) HGX.out.2.1 1 (.slice A9 (gs.length + 1) m9)); have NX : ¬ Sc X := fun e => (HGX.out.2.2 X (.inr e)).2.2 rfl; have q9 := (box_at (carry2 F9 HG6.out.box NX)).2.1 1 _ rfl; have f9 := (box_at (carry2 F9 HG6.out.box NX)).2.2 1; clear hR9 hg9 hr9 F9 NX y1 z0 z1 z2 z3))
        go_roundw
        case rel => exact ⟨n, gs ++ [(⟨1, t4, [], []⟩ : Goal)], _, _, _, by go_num, by simp; omega, N9, ⟨R9.out.mono (by simp; omega)⟩, O9⟩
        case measure => simp [intOf]
    · have d1 : decide ((k : Int) > 0) = false := decide_eq_false (by omega)
      have HQ := Sec.mk HG.out.done
      have hgl : gs.length ≤ 20 := by omega
      have X9 := (box_at HG.out.box).2.1
      have y0 := X9 0 _ rfl
      have y1 := X9 1 _ rfl
      clear X9
      go_wp2_with fail
      refine (l3Line_c ⟨t, gs⟩ hgl _ _ wr (kClause.O_K HQ.out)).mono ?_
      rintro e w9 ⟨s, rfl, hs, hb9⟩
      have R9 := Sec.mk (HR.out.below hb9)
      have O9 := Sec.mk (HO.out.trans (Only.of_below hb9))
      clear hb9 y0 y1
      go_wp2
      go_ret
      exact ⟨s, rfl, hs, R9.out.mono (by omega), O9.out⟩
end
section
open Go.RowKit
/-- From the last place on: what is kept stands as it was, else there is some x. -/
def LayM {α : Type} (P : List α → Prop) : List Bool → List α → List α → Prop
  | [], _, acc => P acc
  | _ :: _, [], acc => P acc
  | true :: m, v :: l, acc => LayM P m l (v :: acc)
  | false :: m, _ :: l, acc => ∀ x, LayM P m l (x :: acc)
theorem layM_of {α : Type} {P : List α → Prop} : ∀ (m : List Bool) (l0 l acc : List α), m.length = l0.length → l.length = l0.length → (∀ t : Nat, m[t]? = some true → l[t]? = l0[t]?) → LayM P m l0 acc → P (l.reverse ++ acc)
  | [], l0, l, acc, hm, hl, hk, h => by
    have : l0 = [] := List.eq_nil_of_length_eq_zero (by simpa using hm.symm)
    subst this
    have : l = [] := List.eq_nil_of_length_eq_zero (by simpa using hl)
    subst this
    exact h
  | b :: m, [], l, acc, hm, hl, hk, h => by simp at hm
  | b :: m, v0 :: l0, [], acc, hm, hl, hk, h => by simp at hl
  | b :: m, v0 :: l0, v :: l, acc, hm, hl, hk, h => by
    rw [List.reverse_cons, List.append_assoc]
    have hk' : ∀ t : Nat, m[t]? = some true → l[t]? = l0[t]? := fun t ht => by have := hk (t + 1) (by simpa using ht); simpa using this
    cases b with
    | true =>
      have h0 := hk 0 (by simp)
      simp at h0
      subst h0
      exact layM_of m l0 l _ (by simpa using hm) (by simpa using hl) hk' h
    | false => exact layM_of m l0 l _ (by simpa using hm) (by simpa using hl) hk' (h v)
theorem layM_rev {α : Type} {P : List α → Prop} (m : List Bool) {l0 l : List α} (hm : m.length = l0.length) (hl : l.length = l0.length) (hk : ∀ t : Nat, t < l0.length → m[t]? = some true → l[t]? = l0[t]?) (h : LayM P m.reverse l0.reverse []) : P l := by
  have := layM_of m.reverse l0.reverse l.reverse [] (by simpa using hm) (by simpa using hl) (fun t ht => by
    have hlt : t < m.length := by have := (List.getElem?_eq_some_iff.1 ht).1; simpa using this
    rw [List.getElem?_reverse (by omega)] at ht
    rw [List.getElem?_reverse (by omega), List.getElem?_reverse (by omega), hl]
    exact hk _ (by omega) (by rw [← hm]; exact ht)) h
  rwa [List.append_nil, List.reverse_reverse] at this
def maskOk (ops : Array Oper) (m : List Bool) : Bool := (List.range m.length).all (fun t => !(m.getD t false) || foreign ops t)
theorem slots_list {l : List Value} {df} (t : Nat) : slotsOf ⟨l.toArray, df⟩ t = (l[t]?).getD undef := by simp [slotsOf, Act.eval]
theorem lay_intro {ops : Array Oper} {a0 : Act} {df} {R : Act → Prop} (m : List Bool) (hm : (decide (m.length = a0.tmps.toList.length) && maskOk ops m) = true) (hdf : a0.defers = df)
    (h : LayM (fun l => R ⟨l.toArray, df⟩) m.reverse a0.tmps.toList.reverse []) : ∀ a : Act, a.tmps.size = a0.tmps.size → a.defers = a0.defers → (∀ t, foreign ops t = true → slotsOf a t = slotsOf a0 t) → R a := by
  intro a hs hd hk
  rw [Bool.and_eq_true] at hm
  have hm0 := of_decide_eq_true hm.1
  subst hdf
  obtain ⟨⟨l0⟩, d0⟩ := a0
  obtain ⟨⟨l⟩, d⟩ := a
  obtain rfl : d = d0 := hd
  have hl : l.length = l0.length := hs
  have hm1 : m.length = l0.length := hm0
  refine layM_rev (P := fun l => R ⟨l.toArray, d⟩) m hm0 hl (fun t hlt ht => ?_) h
  have hlt : t < l0.length := hlt
  have h1 := List.all_eq_true.1 hm.2 t (by simp; omega)
  rw [List.getD_eq_getElem?_getD, ht] at h1
  have h2 := hk t (by simpa using h1)
  rw [slots_list, slots_list, List.getElem?_eq_getElem (by omega), List.getElem?_eq_getElem (by omega)] at h2
  rw [List.getElem?_eq_getElem (by omega), List.getElem?_eq_getElem (by omega)]
  simpa using h2
end
end Go.Proofs.YtgiobpggonceeaaGreatDoor
