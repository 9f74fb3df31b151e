/- Draws of programs: a text read as a clause. Condition: the text is not great; and what goes with it. -/
import Derived.Test.YtekiikmaaiekkaaGreatDoorNn2
import Derived.Test.YtekiikmaaiekkaaGreatDoorNn3
import Derived.Test.YtekiikmaaiekkaaGreatDoorNn5
import Derived.Test.YtekiikmaaiekkaaGreatDoorNn6
import Derived.Test.YtekiikmaaiekkaaGreatDoorNn13
namespace Go.Proofs.YtekiikmaaiekkaaGreatDoor
section
open Go.RowKit
set_option linter.unusedVariables false
set_option maxRecDepth 100000
theorem info_goal : (Tryz.prog.info? 141).map (fun i => (i.zero, i.size, i.bytes)) = some (some (.agg #[.int .i64 0, .slice none 0 0, .slice none 0 0, .slice none 0 0]), 4, 80) := by kernel_rfl
theorem clause_O {w : World} {S1 S2 : Nat → Prop} {t : Term} {gs : List Goal} {v1 v2 : Value} (h1 : kCell.R w S1 v1 t) (h2 : kGoal.R w S2 v2 gs) (d : ∀ k, S1 k → ¬ S2 k) : kClause.O w (fun k => S1 k ∨ S2 k) ⟨t, gs⟩ [v1, v2] :=
  ⟨S1, S2, [v1], [v2], rfl, fun k h => ⟨.inl h, d k h⟩, fun k h => .inr h, ⟨v1, rfl, h1⟩, ⟨v2, rfl, h2⟩⟩
/-- Within the reading of a clause: its box, the result's box, what it owns. -/
structure PRd (w : World) (bx : Nat) (t : Term) (vh : Value) (Sh : Nat → Prop) (gs : List Goal) (vb : Value) (Sb : Nat → Prop) (W : World) : Prop where
  box : W.heap[bx]? = some (.cells #[vh, vb] 67 (0, 0))
  res : W.heap[w.heap.size]? = some (.cells #[.slice none 0 0, .slice none 0 0] 67 (0, 0))
  head : kCell.R W Sh vh t
  body : kGoal.R W Sb vb gs
  ap : ∀ k, Sh k → ¬ Sb k
  mine : ∀ k, Sh k ∨ Sb k → w.heap.size < k ∧ k ≠ bx ∧ k < W.heap.size
  blw : Below w.heap.size w W
  gt : w.heap.size < bx
theorem PRd.below {w : World} {bx : Nat} {t : Term} {vh vb : Value} {Sh Sb : Nat → Prop} {gs : List Goal} {W W' : World} (h : PRd w bx t vh Sh gs vb Sb W) (hb : Below W.heap.size W W') : PRd w bx t vh Sh gs vb Sb W' :=
  ⟨(hb.block _ (Array.getElem?_eq_some_iff.1 h.box).1).trans h.box, (hb.block _ (Array.getElem?_eq_some_iff.1 h.res).1).trans h.res, Kd.R_below h.head hb, Kd.R_below h.body hb, h.ap, fun k hk => ⟨(h.mine k hk).1, (h.mine k hk).2.1, Nat.lt_of_lt_of_le (h.mine k hk).2.2 hb.size⟩, bel h.blw hb, h.gt⟩
theorem PRd.O {w : World} {bx : Nat} {t : Term} {vh vb : Value} {Sh Sb : Nat → Prop} {gs : List Goal} {W : World} (h : PRd w bx t vh Sh gs vb Sb W) : kClause.O W (fun k => w.heap.size < k) ⟨t, gs⟩ [vh, vb] :=
  Kd.O_mono (clause_O h.head h.body h.ap) (fun k hk _ => (h.mine k hk).1)
/-- The body has grown, and is put back. -/
theorem PRd.next {w : World} {bx n2 : Nat} {t : Term} {vh vb v3 : Value} {Sh Sb S3 : Nat → Prop} {gs gs' : List Goal} {W w3 : World} (h : PRd w bx t vh Sh gs vb Sb W) (hF : Foot Sb W w3) (hR : kGoal.R w3 S3 v3 gs') (hS : ∀ k, S3 k → Sb k ∨ n2 ≤ k) (hn : (∀ k, Sh k ∨ Sb k → k < n2) ∧ bx < n2) :
    PRd w bx t vh Sh gs' v3 (fun k => S3 k ∧ k < w3.heap.size) (w3.setCell ⟨bx, 1, none⟩ v3) := by
  have hnb : ¬ Sb bx := fun e => (h.mine bx (.inr e)).2.1 rfl
  have hnr : ¬ Sb w.heap.size := fun e => by have := (h.mine _ (.inr e)).1; omega
  have hb3 : w3.heap[bx]? = some (.cells #[vh, vb] 67 (0, 0)) := (hF.block _ (Array.getElem?_eq_some_iff.1 h.box).1 hnb).trans h.box
  have F4 : Foot (fun k => k = bx) w3 (w3.setCell ⟨bx, 1, none⟩ v3) := Foot.set (S := fun k => k = bx) (Foot.refl _ _) (.inl rfl) _ _
  have hgt := h.gt
  have e3 : ∀ k, S3 k → ¬ k = bx := fun k hk e => by
    rcases hS k hk with h1 | h1
    · exact (h.mine k (.inr h1)).2.1 e
    · have := hn.2; omega
  refine ⟨box_store 1 _ hb3, (F4.block _ (by have := hF.size; have := (Array.getElem?_eq_some_iff.1 h.res).1; omega) (fun e => by have e : w.heap.size = bx := e; omega)).trans ((hF.block _ (Array.getElem?_eq_some_iff.1 h.res).1 hnr).trans h.res), F4.R (hF.R h.head h.ap) (fun k hk e => (h.mine k (.inl hk)).2.1 e), F4.R (Kd.R_mono hR (fun k h1 h2 => ⟨h1, h2⟩)) (fun k hk e => e3 k hk.1 e), fun k hk e => ?_, fun k hk => ?_, F4.below (hF.below h.blw (fun k hk => by have := (h.mine k (.inr hk)).1; omega)) (fun k e => by have e : k = bx := e; omega), hgt⟩
  · rcases hS k e.1 with h1 | h1
    · exact h.ap k hk h1
    · have := hn.1 k (.inl hk); omega
  · show _ ∧ _ ∧ k < (w3.setCell ⟨bx, 1, none⟩ v3).heap.size
    have hz : w3.heap.size ≤ (w3.setCell ⟨bx, 1, none⟩ v3).heap.size := F4.size
    rcases hk with hk | hk
    · have h5 := h.mine k (.inl hk)
      have := hF.size
      exact ⟨h5.1, h5.2.1, by omega⟩
    · refine ⟨?_, e3 k hk.1, by omega⟩
      rcases hS k hk.1 with h1 | h1
      · exact (h.mine k (.inr h1)).1
      · have := hn.2; omega
def lenAt (c : Option Value) : Nat := match c with
  | some (.slice _ n _) => 10 - n
  | _ => 0
set_option maxHeartbeats 4000000 in
theorem PrgRead_c (s : ByteArray) (hs : s.size ≤ 100000000) (w : World) :
    Calls Tryz.prog 236 #[.string s] w fun e w' => ∃ (c : Clause) (cs : List Value) (q : Bool), e = .returned (.tuple #[.agg cs.toArray, .bool q]) ∧ kClause.O w' (fun k => w.heap.size ≤ k) c cs ∧ Below w.heap.size w w' := by
  have hus := Tryz.underlying9
  have hu2 := Tryz.underlying67
  have hu3 := Tryz.underlying141
  have B0 := Sec.mk (belA (Below.refl w.heap.size w) (.cells #[.slice none 0 0, .slice none 0 0] 67))
  have P0 := Sec.mk (heap_alloc_new w (.cells #[.slice none 0 0, .slice none 0 0] 67))
  go_enter Tryz.func236, Tryz.ntmps236
  go_wp2_with fail
  refine (l3Cut_c s ⟨#[105, 102]⟩ hs (by decide) _).mono ?_
  rintro e w1 ⟨sa, sb, q, rfl, ha, hb, hB⟩
  have B1 := Sec.mk (bel B0.out hB)
  have P1 := Sec.mk ((hB.block _ (Array.getElem?_eq_some_iff.1 P0.out).1).trans P0.out)
  clear hB
  go_wp2_with fail
  refine (TrmRead_c sa (by omega) w1).mono ?_
  rintro e w2 ⟨u, t, q2, rfl, htl, hTR, hB⟩
  obtain ⟨Ah, ch, rfl, -, -⟩ := Kd.R_form hTR
  have BXG : Sec (w.heap.size < w2.heap.size) := ⟨by have := (Array.getElem?_eq_some_iff.1 P1.out).1; have := hB.size; omega⟩
  have G0 := Sec.mk (show PRd w w2.heap.size t (.slice Ah t.length ch) (fun k => w1.heap.size ≤ k ∧ k < w2.heap.size) [] (.slice none 0 0) (fun _ => False) (w2.alloc (.cells #[.slice Ah t.length ch, .slice none 0 0] 67)) from
    ⟨heap_alloc_new w2 _, (box_cells (belA (Below.refl w2.heap.size w2) _) ((hB.block _ (Array.getElem?_eq_some_iff.1 P1.out).1).trans P1.out)).1, Kd.R_below (Kd.R_mono hTR (fun k h1 h2 => ⟨h1, h2⟩)) (belA (Below.refl _ _) _), Kd.R_nil kGoal _ _, fun _ _ h => h, fun k hk => by
      rcases hk with hk | hk
      · have := (Array.getElem?_eq_some_iff.1 P1.out).1
        exact ⟨by omega, by omega, by simp; omega⟩
      · exact hk.elim, belA (bel B1.out hB) _, BXG.out⟩)
  clear hTR hB
  cases q2 with
  | false =>
    go_wp2_with (with_reducible show wpList _ _ _ (⟨none, .store 67 (.tmp 2) (.tmp 30), _, _, _, _⟩ :: _) _ _; refine wpList_store (cs := [.slice none 0 0, .slice none 0 0]) (old := #[.slice none 0 0, .slice none 0 0]) rfl 67 (.tmp 2) (.tmp 30) rfl rfl rfl G0.out.res (by kernel_rfl) rfl (kClause.K_one (kClause.O_K (kClause_zero w))) ?_; intro w8 hb8 hF8; have B8 := Sec.mk hb8; have F8 := Sec.mk hF8; clear hb8 hF8)
    exact bodyPost_ret (results_cell2 rfl rfl rfl B8.out hu2 rfl (by kernel_rfl)) rfl ⟨zeroClause, _, false, rfl, Kd.O_mono (kClause_zero _) (fun k h _ => h.elim), F8.out.below G0.out.blw (fun k h => Nat.le_of_eq (show k = w.heap.size from h).symm)⟩
  | true =>
    go_upto_region 6 with (fail)
    have BX0 : Sec (w2.heap.size < (w2.alloc (.cells #[.slice Ah t.length ch, .slice none 0 0] 67)).heap.size) := ⟨by simp⟩
    generalize w2.alloc (.cells #[.slice Ah t.length ch, .slice none 0 0] 67) = wz at *
    generalize w2.heap.size = bx at *
    generalize hSh : (fun k => w1.heap.size ≤ k ∧ k < bx) = Sh at *
    clear hSh P1 B1 P0 B0
    go_loopw [5, 6] (fun sv mv wr => ∃ (sr : ByteArray) (more : Bool) (gs : List Goal) (vb : Value) (Sb : Nat → Prop), sv = .string sr ∧ mv = .bool more ∧ sr.size ≤ 100000000 ∧ gs.length ≤ 5 ∧ Sec (PRd w bx t (.slice Ah t.length ch) Sh gs vb Sb wr)) (fun _ _ wr => lenAt (wr.cell? ⟨bx, 1, none⟩))
    case atStart => exact ⟨sb, q, [], _, _, rfl, rfl, by omega, by simp, G0⟩
    case round =>
      obtain ⟨sr, more, gs, vb, Sb, rfl, rfl, hsr, hgl, PW⟩ := hrel
      obtain ⟨A9, c9, rfl, -, -⟩ := Kd.R_form PW.out.body
      have X := (box_at PW.out.box).2.1
      have y0 := X 0 _ rfl
      have y1 := X 1 _ rfl
      clear X
      by_cases hgo : more = true ∧ gs.length ≤ 4
      · obtain ⟨rfl, hg4⟩ := hgo
        have d4 : decide ((gs.length : Int) ≤ 4) = true := decide_eq_true (by omega)
        go_wp2_with fail
        refine (l3Cut_c sr ⟨#[97, 110, 100]⟩ hsr (by decide) wr).mono ?_
        rintro e w3 ⟨sc, sd, q3, rfl, hc, hd, hB⟩
        have P3 := Sec.mk (PW.out.below hB)
        clear hB y0 y1
        go_wp2_with fail
        refine (GoalRead_c sc (by omega) w3).mono ?_
        rintro e w4 ⟨g, cs, q4, rfl, hO, hB⟩
        obtain ⟨v1, v2, v3, rfl, hk1, hk2, hk3⟩ := kGoal_K (kGoal.O_K hO)
        obtain ⟨A1, m1, rfl, -⟩ := hk1
        obtain ⟨A2, m2, rfl, -⟩ := hk2
        obtain ⟨A3, m3, rfl, -⟩ := hk3
        have ZB := Sec.mk hB.size
        have MB : Sec ((∀ k, Sh k ∨ Sb k → k < w3.heap.size) ∧ bx < w3.heap.size) := ⟨fun k h => (P3.out.mine k h).2.2, (Array.getElem?_eq_some_iff.1 P3.out.box).1⟩
        have OG := Sec.mk (Kd.O_mono hO (S1 := fun k => w3.heap.size ≤ k ∧ k < w4.heap.size) (fun k h1 h2 => ⟨h1, h2⟩))
        have WB := Sec.mk (belA (Below.refl w4.heap.size w4) (.cells #[.int .i64 g.kind, .slice A1 g.a.length m1, .slice A2 g.b.length m2, .slice A3 g.c.length m3] 141))
        have P5 := Sec.mk ((P3.out.below hB).below WB.out)
        have NSB : Sec (¬ Sb bx) := ⟨fun e => (P5.out.mine bx (.inr e)).2.1 rfl⟩
        clear hO hB
        cases q4 with
        | false =>
          go_wp2_with (with_reducible show wpList _ _ _ (⟨none, .store 67 (.tmp 2) (.tmp 51), _, _, _, _⟩ :: _) _ _; refine wpList_store (cs := [.slice none 0 0, .slice none 0 0]) (old := #[.slice none 0 0, .slice none 0 0]) rfl 67 (.tmp 2) (.tmp 51) rfl rfl rfl P5.out.res (by kernel_rfl) rfl (kClause.K_one (kClause.O_K (kClause_zero w))) ?_; intro w8 hb8 hF8; have B8 := Sec.mk hb8; have F8 := Sec.mk hF8; clear hb8 hF8)
          exact bodyPost_ret (results_cell2 rfl rfl rfl B8.out hu2 rfl (by kernel_rfl)) rfl ⟨zeroClause, _, false, rfl, Kd.O_mono (kClause_zero _) (fun k h _ => h.elim), F8.out.below P5.out.blw (fun k h => Nat.le_of_eq (show k = w.heap.size from h).symm)⟩
        | true =>
          have X := (box_at P5.out.box).2.1
          have y0 := X 0 _ rfl
          have y1 := X 1 _ rfl
          clear X
          have X := (box_at (heap_alloc_new w4 (.cells #[.int .i64 g.kind, .slice A1 g.a.length m1, .slice A2 g.b.length m2, .slice A3 g.c.length m3] 141))).2.1
          have z0 := X 0 _ rfl
          have z1 := X 1 _ rfl
          have z2 := X 2 _ rfl
          have z3 := X 3 _ rfl
          clear X
          have hL : gs.length + 1 ≤ 1073741824 := by omega
          have LEN : Sec ((gs ++ [g]).length = gs.length + 1) := ⟨by simp⟩
          go_wp2_with (at_builtin; go_loud (refine Kd.R_app2 kGoal (W := (w4.alloc (.cells #[.int .i64 g.kind, .slice A1 g.a.length m1, .slice A2 g.b.length m2, .slice A3 g.c.length m3] 141))) (by rfl) (.tmp 53) (.tmp 55) 65 (.agg #[.int .i64 0, .slice none 0 0, .slice none 0 0, .slice none 0 0]) 80 (by rfl) Tryz.underlying65 info_goal rfl (by decide) (by decide) _ gs g [.int .i64 g.kind, .slice A1 g.a.length m1, .slice A2 g.b.length m2, .slice A3 g.c.length m3] Sb (fun k => w3.heap.size ≤ k ∧ k < w4.heap.size) (by rfl) (by rfl) (by first | rfl | simp) P5.out.body (Kd.O_below OG.out WB.out) (fun k h _ e => by have := MB.out.1 k (.inr e); omega) hL ?_; intro v5 w5 hR5 hg5 hr5; obtain ⟨A8, m8, rfl, -, -⟩ := Kd.R_form hR5; have L5 := LEN.out; rw [L5] at hR5; clear L5; have F5 : Foot Sb (w4.alloc (.cells #[.int .i64 g.kind, .slice A1 g.a.length m1, .slice A2 g.b.length m2, .slice A3 g.c.length m3] 141)) w5 := Foot.grown2 (Foot.refl _ _) hg5 (fun k e => .inl (hr5 k e)); have P6 := Sec.mk (PRd.next P5.out F5 hR5 (fun k h => by have hz := WB.out.size; have hz2 := ZB.out; rcases h with h | h | h; exact .inl h; exact .inr h.1; exact .inr (by omega)) MB.out); have q9 := (box_at (carry2 F5 P5.out.box (fun e => NSB.out e))).2.1 1 _ rfl; have f9 := (box_at (carry2 F5 P5.out.box (fun e => NSB.out e))).2.2 1; clear hR5 hg5 hr5 F5 y0 y1 z0 z1 z2 z3))
          go_roundw
          case rel => exact ⟨sd, q3, gs ++ [g], _, _, rfl, rfl, by omega, by simp; omega, P6⟩
          case measure =>
            rw [(box_at P6.out.box).2.1 1 _ rfl, (box_at PW.out.box).2.1 1 _ rfl]
            show 10 - (gs.length + 1) < 10 - gs.length
            omega
      · have hst : (more = false) ∨ (more = true ∧ decide ((gs.length : Int) ≤ 4) = false) := by
          cases more with
          | false => exact .inl rfl
          | true => exact .inr ⟨rfl, decide_eq_false (fun h => hgo ⟨rfl, by omega⟩)⟩
        clear hgo
        cases HQ : clauseOk ⟨t, gs⟩ with
        | false =>
          rcases hst with rfl | ⟨rfl, d4⟩
          · skip
            go_wp2_with (first | (go_at_call 99; refine (l3Clause_c ⟨t, gs⟩ _ _ wr (kClause.O_K PW.out.O)).mono ?_; rw [HQ]; rintro e w6 ⟨rfl, hb6⟩; have P6 := Sec.mk (PW.out.below hb6); have X := (box_at P6.out.box).2.1; have z0 := X 0 _ rfl; have z1 := X 1 _ rfl; clear X hb6 y0 y1) | (with_reducible show wpList _ _ _ (⟨none, .store 67 (.tmp 2) (.tmp 63), _, _, _, _⟩ :: _) _ _; refine wpList_store (cs := [.slice none 0 0, .slice none 0 0]) (old := #[.slice none 0 0, .slice none 0 0]) rfl 67 (.tmp 2) (.tmp 63) rfl rfl rfl P6.out.res (by kernel_rfl) rfl (kClause.K_one (kClause.O_K (kClause_zero w))) ?_; intro w8 hb8 hF8; have B8 := Sec.mk hb8; have F8 := Sec.mk hF8; clear hb8 hF8))
            exact bodyPost_ret (results_cell2 rfl rfl rfl B8.out hu2 rfl (by kernel_rfl)) rfl ⟨zeroClause, _, false, rfl, Kd.O_mono (kClause_zero _) (fun k h _ => h.elim), F8.out.below P6.out.blw (fun k h => Nat.le_of_eq (show k = w.heap.size from h).symm)⟩
          · skip
            go_wp2_with (first | (go_at_call 99; refine (l3Clause_c ⟨t, gs⟩ _ _ wr (kClause.O_K PW.out.O)).mono ?_; rw [HQ]; rintro e w6 ⟨rfl, hb6⟩; have P6 := Sec.mk (PW.out.below hb6); have X := (box_at P6.out.box).2.1; have z0 := X 0 _ rfl; have z1 := X 1 _ rfl; clear X hb6 y0 y1) | (with_reducible show wpList _ _ _ (⟨none, .store 67 (.tmp 2) (.tmp 63), _, _, _, _⟩ :: _) _ _; refine wpList_store (cs := [.slice none 0 0, .slice none 0 0]) (old := #[.slice none 0 0, .slice none 0 0]) rfl 67 (.tmp 2) (.tmp 63) rfl rfl rfl P6.out.res (by kernel_rfl) rfl (kClause.K_one (kClause.O_K (kClause_zero w))) ?_; intro w8 hb8 hF8; have B8 := Sec.mk hb8; have F8 := Sec.mk hF8; clear hb8 hF8))
            exact bodyPost_ret (results_cell2 rfl rfl rfl B8.out hu2 rfl (by kernel_rfl)) rfl ⟨zeroClause, _, false, rfl, Kd.O_mono (kClause_zero _) (fun k h _ => h.elim), F8.out.below P6.out.blw (fun k h => Nat.le_of_eq (show k = w.heap.size from h).symm)⟩
        | true =>
          rcases hst with rfl | ⟨rfl, d4⟩
          · skip
            go_wp2_with (first | (go_at_call 99; refine (l3Clause_c ⟨t, gs⟩ _ _ wr (kClause.O_K PW.out.O)).mono ?_; rw [HQ]; rintro e w6 ⟨rfl, hb6⟩; have P6 := Sec.mk (PW.out.below hb6); have X := (box_at P6.out.box).2.1; have z0 := X 0 _ rfl; have z1 := X 1 _ rfl; clear X hb6 y0 y1) | (with_reducible show wpList _ _ _ (⟨none, .store 67 (.tmp 2) (.tmp 64), _, _, _, _⟩ :: _) _ _; refine wpList_store (cs := [.slice Ah t.length ch, .slice A9 gs.length c9]) (old := #[.slice none 0 0, .slice none 0 0]) rfl 67 (.tmp 2) (.tmp 64) rfl rfl rfl P6.out.res (by kernel_rfl) rfl (kClause.K_one (kClause.O_K P6.out.O)) ?_; intro w8 hb8 hF8; have B8 := Sec.mk hb8; have F8 := Sec.mk hF8; clear hb8 hF8))
            exact bodyPost_ret (results_cell2 rfl rfl rfl B8.out hu2 rfl (by kernel_rfl)) rfl ⟨⟨t, gs⟩, _, true, rfl, Kd.O_mono (F8.out.O P6.out.O (fun k h e => by have e : k = w.heap.size := e; omega)) (fun k h _ => by omega), F8.out.below P6.out.blw (fun k h => Nat.le_of_eq (show k = w.heap.size from h).symm)⟩
          · skip
            go_wp2_with (first | (go_at_call 99; refine (l3Clause_c ⟨t, gs⟩ _ _ wr (kClause.O_K PW.out.O)).mono ?_; rw [HQ]; rintro e w6 ⟨rfl, hb6⟩; have P6 := Sec.mk (PW.out.below hb6); have X := (box_at P6.out.box).2.1; have z0 := X 0 _ rfl; have z1 := X 1 _ rfl; clear X hb6 y0 y1) | (with_reducible show wpList _ _ _ (⟨none, .store 67 (.tmp 2) (.tmp 64), _, _, _, _⟩ :: _) _ _; refine wpList_store (cs := [.slice Ah t.length ch, .slice A9 gs.length c9]) (old := #[.slice none 0 0, .slice none 0 0]) rfl 67 (.tmp 2) (.tmp 64) rfl rfl rfl P6.out.res (by kernel_rfl) rfl (kClause.K_one (kClause.O_K P6.out.O)) ?_; intro w8 hb8 hF8; have B8 := Sec.mk hb8; have F8 := Sec.mk hF8; clear hb8 hF8))
            exact bodyPost_ret (results_cell2 rfl rfl rfl B8.out hu2 rfl (by kernel_rfl)) rfl ⟨⟨t, gs⟩, _, true, rfl, Kd.O_mono (F8.out.O P6.out.O (fun k h e => by have e : k = w.heap.size := e; omega)) (fun k h _ => by omega), F8.out.below P6.out.blw (fun k h => Nat.le_of_eq (show k = w.heap.size from h).symm)⟩
end
section
open Go.RowKit
set_option linter.unusedVariables false
set_option maxRecDepth 100000
theorem info_place : (Tryz.prog.info? 135).map (fun i => (i.zero, i.size, i.bytes)) = some (some (.agg #[.string ⟨#[]⟩, .int .i64 0, .int .i64 0]), 3, 32) := by kernel_rfl
theorem info_clause : (Tryz.prog.info? 67).map (fun i => (i.zero, i.size, i.bytes)) = some (some (.agg #[.slice none 0 0, .slice none 0 0]), 2, 48) := by kernel_rfl
theorem prog_O {w : World} {S1 S2 : Nat → Prop} {cls : List Clause} {pls : List Place} {v1 v2 : Value} (h1 : kClause.R w S1 v1 cls) (h2 : kPlace.R w S2 v2 pls) (d : ∀ k, S1 k → ¬ S2 k) : kProg.O w (fun k => S1 k ∨ S2 k) ⟨cls, pls⟩ [v1, v2] :=
  ⟨S1, S2, [v1], [v2], rfl, fun k h => ⟨.inl h, d k h⟩, fun k h => .inr h, ⟨v1, rfl, h1⟩, ⟨v2, rfl, h2⟩⟩
theorem prog_none (w : World) : kProg.O w (fun _ => False) ⟨[], []⟩ [.slice none 0 0, .slice none 0 0] := Kd.O_mono (prog_O (Kd.R_nil kClause w (fun _ => False)) (Kd.R_nil kPlace w (fun _ => False)) (fun _ h => h.elim)) (fun k h _ => h.elim id id)
theorem prgOk_len {p : Prog} (h : prgOk p = true) : p.clauses.length ≤ 12 ∧ p.places.length ≤ 6 := by
  unfold prgOk at h
  simp only [Bool.and_eq_true, decide_eq_true_eq] at h
  exact ⟨h.1.1.1, h.1.1.2⟩
/-- Within the reading of a program: its box, the result's box, what it owns. -/
structure PPd (w : World) (bx : Nat) (cls : List Clause) (vc : Value) (Sc : Nat → Prop) (pls : List Place) (vp : Value) (Sp : Nat → Prop) (W : World) : Prop where
  box : W.heap[bx]? = some (.cells #[vc, vp] 40 (0, 0))
  res : W.heap[w.heap.size]? = some (.cells #[.slice none 0 0, .slice none 0 0] 40 (0, 0))
  cl : kClause.R W Sc vc cls
  pl : kPlace.R W Sp vp pls
  ap : ∀ k, Sc k → ¬ Sp k
  mine : ∀ k, Sc k ∨ Sp k → w.heap.size < k ∧ k ≠ bx ∧ k < W.heap.size
  blw : Below w.heap.size w W
  gt : w.heap.size < bx
section
variable {w : World} {bx n2 : Nat} {cls cls' : List Clause} {pls pls' : List Place} {vc vp v3 : Value} {Sc Sp S3 : Nat → Prop} {W W' w3 : World}
theorem PPd.below (h : PPd w bx cls vc Sc pls vp Sp W) (hb : Below W.heap.size W W') : PPd w bx cls vc Sc pls vp Sp W' :=
  ⟨(hb.block _ (Array.getElem?_eq_some_iff.1 h.box).1).trans h.box, (hb.block _ (Array.getElem?_eq_some_iff.1 h.res).1).trans h.res, Kd.R_below h.cl hb, Kd.R_below h.pl hb, h.ap, fun k hk => ⟨(h.mine k hk).1, (h.mine k hk).2.1, Nat.lt_of_lt_of_le (h.mine k hk).2.2 hb.size⟩, bel h.blw hb, h.gt⟩
theorem PPd.O (h : PPd w bx cls vc Sc pls vp Sp W) : kProg.O W (fun k => w.heap.size < k ∧ k < W.heap.size) ⟨cls, pls⟩ [vc, vp] :=
  Kd.O_mono (prog_O h.cl h.pl h.ap) (fun k hk _ => ⟨(h.mine k hk).1, (h.mine k hk).2.2⟩)
theorem PPd.next0 (h : PPd w bx cls vc Sc pls vp Sp W) (hF : Foot Sc W w3) (hR : kClause.R w3 S3 v3 cls') (hS : ∀ k, S3 k → Sc k ∨ n2 ≤ k) (hn : (∀ k, Sc k ∨ Sp k → k < n2) ∧ bx < n2) :
    PPd w bx cls' v3 (fun k => S3 k ∧ k < w3.heap.size) pls vp Sp (w3.setCell ⟨bx, 0, none⟩ v3) := by
  have hnb : ¬ Sc bx := fun e => (h.mine bx (.inl e)).2.1 rfl
  have hnr : ¬ Sc w.heap.size := fun e => by have := (h.mine _ (.inl e)).1; omega
  have hb3 : w3.heap[bx]? = some (.cells #[vc, vp] 40 (0, 0)) := (hF.block _ (Array.getElem?_eq_some_iff.1 h.box).1 hnb).trans h.box
  have F4 : Foot (fun k => k = bx) w3 (w3.setCell ⟨bx, 0, none⟩ v3) := Foot.set (S := fun k => k = bx) (Foot.refl _ _) (.inl rfl) _ _
  have hgt := h.gt
  have e3 : ∀ k, S3 k → ¬ k = bx := fun k hk e => by
    rcases hS k hk with h1 | h1
    · exact (h.mine k (.inl h1)).2.1 e
    · have := hn.2; omega
  refine ⟨box_store 0 _ hb3, (F4.block _ (by have := hF.size; have := (Array.getElem?_eq_some_iff.1 h.res).1; omega) (fun e => by have e : w.heap.size = bx := e; omega)).trans ((hF.block _ (Array.getElem?_eq_some_iff.1 h.res).1 hnr).trans h.res), F4.R (Kd.R_mono hR (fun k h1 h2 => ⟨h1, h2⟩)) (fun k hk e => e3 k hk.1 e), F4.R (hF.R h.pl (fun k hk e => h.ap k e hk)) (fun k hk e => (h.mine k (.inr hk)).2.1 e), fun k e hk => ?_, fun k hk => ?_, F4.below (hF.below h.blw (fun k hk => by have := (h.mine k (.inl hk)).1; omega)) (fun k e => by have e : k = bx := e; omega), hgt⟩
  · rcases hS k e.1 with h1 | h1
    · exact h.ap k h1 hk
    · have := hn.1 k (.inr hk); omega
  · show _ ∧ _ ∧ k < (w3.setCell ⟨bx, 0, none⟩ v3).heap.size
    have hz : w3.heap.size ≤ (w3.setCell ⟨bx, 0, none⟩ v3).heap.size := F4.size
    rcases hk with hk | hk
    · refine ⟨?_, e3 k hk.1, by omega⟩
      rcases hS k hk.1 with h1 | h1
      · exact (h.mine k (.inl h1)).1
      · have := hn.2; omega
    · have h5 := h.mine k (.inr hk)
      have := hF.size
      exact ⟨h5.1, h5.2.1, by omega⟩
theorem PPd.next1 (h : PPd w bx cls vc Sc pls vp Sp W) (hF : Foot Sp W w3) (hR : kPlace.R w3 S3 v3 pls') (hS : ∀ k, S3 k → Sp k ∨ n2 ≤ k) (hn : (∀ k, Sc k ∨ Sp k → k < n2) ∧ bx < n2) :
    PPd w bx cls vc Sc pls' v3 (fun k => S3 k ∧ k < w3.heap.size) (w3.setCell ⟨bx, 1, none⟩ v3) := by
  have hnb : ¬ Sp bx := fun e => (h.mine bx (.inr e)).2.1 rfl
  have hnr : ¬ Sp w.heap.size := fun e => by have := (h.mine _ (.inr e)).1; omega
  have hb3 : w3.heap[bx]? = some (.cells #[vc, vp] 40 (0, 0)) := (hF.block _ (Array.getElem?_eq_some_iff.1 h.box).1 hnb).trans h.box
  have F4 : Foot (fun k => k = bx) w3 (w3.setCell ⟨bx, 1, none⟩ v3) := Foot.set (S := fun k => k = bx) (Foot.refl _ _) (.inl rfl) _ _
  have hgt := h.gt
  have e3 : ∀ k, S3 k → ¬ k = bx := fun k hk e => by
    rcases hS k hk with h1 | h1
    · exact (h.mine k (.inr h1)).2.1 e
    · have := hn.2; omega
  refine ⟨box_store 1 _ hb3, (F4.block _ (by have := hF.size; have := (Array.getElem?_eq_some_iff.1 h.res).1; omega) (fun e => by have e : w.heap.size = bx := e; omega)).trans ((hF.block _ (Array.getElem?_eq_some_iff.1 h.res).1 hnr).trans h.res), F4.R (hF.R h.cl h.ap) (fun k hk e => (h.mine k (.inl hk)).2.1 e), F4.R (Kd.R_mono hR (fun k h1 h2 => ⟨h1, h2⟩)) (fun k hk e => e3 k hk.1 e), fun k hk e => ?_, fun k hk => ?_, F4.below (hF.below h.blw (fun k hk => by have := (h.mine k (.inr hk)).1; omega)) (fun k e => by have e : k = bx := e; omega), hgt⟩
  · rcases hS k e.1 with h1 | h1
    · exact h.ap k hk h1
    · have := hn.1 k (.inl hk); omega
  · show _ ∧ _ ∧ k < (w3.setCell ⟨bx, 1, none⟩ v3).heap.size
    have hz : w3.heap.size ≤ (w3.setCell ⟨bx, 1, none⟩ v3).heap.size := F4.size
    rcases hk with hk | hk
    · have h5 := h.mine k (.inl hk)
      have := hF.size
      exact ⟨h5.1, h5.2.1, by omega⟩
    · refine ⟨?_, e3 k hk.1, by omega⟩
      rcases hS k hk.1 with h1 | h1
      · exact (h.mine k (.inr h1)).1
      · have := hn.2; omega
end
set_option maxHeartbeats 8000000 in
theorem PrgParse_c (v : Value) (ls : List ByteArray) (ok : Nat → Prop) (w : World) (hV : kStr.V w ok v ls) (hls : ∀ x ∈ ls, x.size ≤ 100000000) :
    Calls Tryz.prog 190 #[v] w fun e w' => ∃ (p : Prog) (cs : List Value) (k : Int), e = .returned (.tuple #[.agg cs.toArray, .int .i64 k]) ∧ kProg.O w' (fun k => w.heap.size ≤ k) p cs ∧ prgOk p = true ∧ Below w.heap.size w w' := by
  obtain ⟨A, c, rfl, h1, h2, h3, hC, hz⟩ := hV
  have HC := Sec.mk hC
  have LS := Sec.mk hls
  clear hC hz hls
  have hus := Tryz.underlying9
  have hu2 := Tryz.underlying40
  have hu3 := Tryz.underlying135
  have hu4 := Tryz.underlying67
  have W0 := belA (Below.refl w.heap.size w) (.cells #[.slice none 0 0, .slice none 0 0] 40)
  have G0 := Sec.mk (show PPd w (w.heap.size + 1) [] (.slice none 0 0) (fun _ => False) [] (.slice none 0 0) (fun _ => False) ((w.alloc (.cells #[.slice none 0 0, .slice none 0 0] 40)).alloc (.cells #[.slice none 0 0, .slice none 0 0] 40)) from
    ⟨(box2 w _ _).2, (box2 w _ _).1, Kd.R_nil kClause _ _, Kd.R_nil kPlace _ _, fun _ h => h.elim, fun k hk => by rcases hk with hk | hk <;> exact hk.elim, belA W0 _, Nat.lt_succ_self _⟩)
  clear W0
  go_enter Tryz.func190, Tryz.ntmps190
  go_wp2_with fail
  go_loopw [5] (fun iv wr => ∃ (i : Nat) (cls : List Clause) (vc : Value) (Sc : Nat → Prop) (pls : List Place) (vp : Value) (Sp : Nat → Prop), i ≤ ls.length ∧ iv = .int .i64 i ∧ prgOk ⟨cls, pls⟩ = true ∧ Sec (PPd w (w.heap.size + 1) cls vc Sc pls vp Sp wr)) (fun iv _ => ls.length - (intOf iv).toNat)
  case atStart => exact ⟨0, _, _, _, _, _, _, Nat.zero_le _, rfl, by decide, G0⟩
  case round =>
    obtain ⟨i, cls, vc, Sc, pls, vp, Sp, hi, rfl, hok, PW⟩ := hrel
    obtain ⟨hl12, hl6⟩ := prgOk_len hok
    have hl12 : cls.length ≤ 12 := hl12
    have hl6 : pls.length ≤ 6 := hl6
    have HOK := Sec.mk hok
    clear hok
    obtain ⟨Ac, nc, rfl, -, -⟩ := Kd.R_form PW.out.cl
    obtain ⟨Ap, np, rfl, -, -⟩ := Kd.R_form PW.out.pl
    generalize hbx : w.heap.size + 1 = bx at *
    clear hbx
    by_cases hlt : i < ls.length
    · obtain ⟨b, off, rfl, hob, hc, -⟩ := str_at (Kd.C_below HC.out PW.out.blw (by decide)) i hlt
      have hsz := LS.out ls[i] (List.getElem_mem hlt)
      generalize ls[i] = s at *
      have i0 : (0 : Int) ≤ (i : Int) := by omega
      have i1 : (i : Int) < (ls.length : Int) := by omega
      go_wp2_with fail
      refine (l3ReadPlace_c s hsz wr).mono ?_
      rintro e w4 ⟨p, q, rfl, hps, hB⟩
      have WB := Sec.mk (belA (Below.refl w4.heap.size w4) (.cells #[.string p.name, .int .i64 p.n, .int .i64 p.node] 135))
      have P5 := Sec.mk ((PW.out.below hB).below WB.out)
      have MB : Sec ((∀ k, Sc k ∨ Sp k → k < w4.heap.size) ∧ bx < w4.heap.size) := ⟨fun k h => Nat.lt_of_lt_of_le (PW.out.mine k h).2.2 hB.size, Nat.lt_of_lt_of_le (Array.getElem?_eq_some_iff.1 PW.out.box).1 hB.size⟩
      have hc5 : (w4.alloc (.cells #[.string p.name, .int .i64 p.n, .int .i64 p.node] 135)).cell? ⟨b, off + i, none⟩ = some (.string s) := (World.cell?_of_block (w := wr) (w' := (w4.alloc (.cells #[.string p.name, .int .i64 p.n, .int .i64 p.node] 135))) ((bel hB WB.out).block b (World.block_lt_of_cell? wr _ hc))).trans hc
      clear hc hB
      have X := (box_at P5.out.box).2.1
      have y0 := X 0 _ rfl
      have y1 := X 1 _ rfl
      clear X
      by_cases hgo : q = true ∧ cls.length = 0
      · obtain ⟨rfl, hc0⟩ := hgo
        have d4 : ((cls.length : Int) == 0) = true := beq_iff_eq.2 (by omega)
        have hc1 := Sec.mk hc0
        clear hc0
        have X := (box_at (heap_alloc_new w4 (.cells #[.string p.name, .int .i64 p.n, .int .i64 p.node] 135))).2.1
        have z0 := X 0 _ rfl
        have z1 := X 1 _ rfl
        have z2 := X 2 _ rfl
        clear X
        have hL : pls.length + 1 ≤ 1073741824 := by omega
        have LEN : Sec ((pls ++ [p]).length = pls.length + 1) := ⟨by simp⟩
        have NSB : Sec (¬ Sp bx) := ⟨fun e => (P5.out.mine bx (.inr e)).2.1 rfl⟩
        have hps2 : p.name.size ≤ 1073741824 := by omega
        go_upto_region 12 with ((at_builtin; go_loud (refine Kd.R_app2 kPlace (W := (w4.alloc (.cells #[.string p.name, .int .i64 p.n, .int .i64 p.node] 135))) (by rfl) (.tmp 33) (.tmp 35) 38 (.agg #[.string ⟨#[]⟩, .int .i64 0, .int .i64 0]) 32 (by rfl) Tryz.underlying38 info_place rfl (by decide) (by decide) _ pls p [.string p.name, .int .i64 p.n, .int .i64 p.node] Sp (fun _ => False) (by rfl) (by rfl) (by first | rfl | simp) P5.out.pl (kPlace_mk _ _ p hps2) (fun k h => h.elim) hL ?_; intro v5 w5 hR5 hg5 hr5; obtain ⟨A8, m8, rfl, -, -⟩ := Kd.R_form hR5; have L5 := LEN.out; rw [L5] at hR5; clear L5; have F5 : Foot Sp (w4.alloc (.cells #[.string p.name, .int .i64 p.n, .int .i64 p.node] 135)) w5 := Foot.grown2 (Foot.refl _ _) hg5 (fun k e => .inl (hr5 k e)); have P7 := Sec.mk (PPd.next1 P5.out F5 hR5 (fun k h => by have hz := WB.out.size; rcases h with h | h | h; exact .inl h; exact h.elim; exact .inr (by omega)) MB.out); have q9 := (box_at (carry2 F5 P5.out.box (fun e => NSB.out e))).2.1 1 _ rfl; have f9 := (box_at (carry2 F5 P5.out.box (fun e => NSB.out e))).2.2 1; clear hR5 hg5 hr5 F5 y0 y1 z0 z1 z2 hc5; skip)))
        generalize (w5.setCell ⟨bx, 1, none⟩ (.slice A8 (pls.length + 1) m8)) = wy at *
        have X := (box_at P7.out.box).2.1
        have y0 := X 0 _ rfl
        have y1 := X 1 _ rfl
        clear X
        cases HQ : prgOk ⟨cls, pls ++ [p]⟩ with
        | false =>
          go_wp2_with (first | (go_at_call 38; go_loud (refine (specPrgOk_c ⟨cls, pls ++ [p]⟩ _ _ _ (kProg.O_K P7.out.O) (fun k h => h.2)).mono ?_; rw [HQ]; rintro e w9 ⟨rfl, hb9⟩; have P9 := Sec.mk (P7.out.below hb9); clear hb9 y0 y1)) | (with_reducible show wpList _ _ _ (⟨none, .store 40 (.tmp 2) (.tmp 60), _, _, _, _⟩ :: _) _ _; refine wpList_store (cs := [.slice none 0 0, .slice none 0 0]) (old := #[.slice none 0 0, .slice none 0 0]) rfl 40 (.tmp 2) (.tmp 60) rfl rfl rfl P9.out.res (by kernel_rfl) rfl (kProg.K_one (kProg.O_K (prog_none w))) ?_; intro w8 hb8 hF8; have B8 := Sec.mk hb8; have F8 := Sec.mk hF8; clear hb8 hF8))
          exact bodyPost_ret (results_cell2 rfl rfl rfl B8.out hu2 rfl (by kernel_rfl)) rfl ⟨⟨[], []⟩, _, _, rfl, Kd.O_mono (prog_none _) (fun k h _ => h.elim), by decide, F8.out.below P9.out.blw (fun k h => Nat.le_of_eq (show k = w.heap.size from h).symm)⟩
        | true =>
          go_wp2_with (go_at_call 38; go_loud (refine (specPrgOk_c ⟨cls, pls ++ [p]⟩ _ _ _ (kProg.O_K P7.out.O) (fun k h => h.2)).mono ?_; rw [HQ]; rintro e w9 ⟨rfl, hb9⟩; have P9 := Sec.mk (P7.out.below hb9); clear hb9 y0 y1))
          go_roundw
          case rel => exact ⟨i + 1, _, _, _, _, _, _, by omega, by go_num, HQ, P9⟩
          case measure => simp [intOf]; omega
      · have hst : (q = false) ∨ (q = true ∧ ((cls.length : Int) == 0) = false) := by
          cases q with
          | false => exact .inl rfl
          | true => exact .inr ⟨rfl, beq_eq_false_iff_ne.2 (fun h => hgo ⟨rfl, by omega⟩)⟩
        clear hgo
        have NSB : Sec (¬ Sc bx) := ⟨fun e => (P5.out.mine bx (.inl e)).2.1 rfl⟩
        generalize hW5 : (w4.alloc (.cells #[.string p.name, .int .i64 p.n, .int .i64 p.node] 135)) = wk at *
        rcases hst with rfl | ⟨rfl, d4⟩
        · skip
          go_wp2_with fail
          refine (PrgRead_c s hsz wk).mono ?_
          rintro e w6 ⟨c, cs, qc, rfl, hO, hB⟩
          obtain ⟨v1, v2, rfl, hk1, hk2⟩ := kClause_K (kClause.O_K hO)
          obtain ⟨A1, m1, rfl, -⟩ := hk1
          obtain ⟨A2, m2, rfl, -⟩ := hk2
          have ZB := Sec.mk hB.size
          have MB2 : Sec ((∀ k, Sc k ∨ Sp k → k < wk.heap.size) ∧ bx < wk.heap.size) := ⟨fun k h => (P5.out.mine k h).2.2, (Array.getElem?_eq_some_iff.1 P5.out.box).1⟩
          have OG := Sec.mk (Kd.O_mono hO (S1 := fun k => wk.heap.size ≤ k ∧ k < w6.heap.size) (fun k h1 h2 => ⟨h1, h2⟩))
          have WB6 := Sec.mk (belA (Below.refl w6.heap.size w6) (.cells #[.slice A1 c.head.length m1, .slice A2 c.body.length m2] 67))
          have P6 := Sec.mk ((P5.out.below hB).below WB6.out)
          clear hO hB hc5 y0 y1
          have X := (box_at P6.out.box).2.1
          have y0 := X 0 _ rfl
          have y1 := X 1 _ rfl
          clear X
          cases qc with
          | false =>
            go_wp2_with (with_reducible show wpList _ _ _ (⟨none, .store 40 (.tmp 2) (.tmp 48), _, _, _, _⟩ :: _) _ _; refine wpList_store (cs := [.slice none 0 0, .slice none 0 0]) (old := #[.slice none 0 0, .slice none 0 0]) rfl 40 (.tmp 2) (.tmp 48) rfl rfl rfl P6.out.res (by kernel_rfl) rfl (kProg.K_one (kProg.O_K (prog_none w))) ?_; intro w8 hb8 hF8; have B8 := Sec.mk hb8; have F8 := Sec.mk hF8; clear hb8 hF8)
            exact bodyPost_ret (results_cell2 rfl rfl rfl B8.out hu2 rfl (by kernel_rfl)) rfl ⟨⟨[], []⟩, _, _, rfl, Kd.O_mono (prog_none _) (fun k h _ => h.elim), by decide, F8.out.below P6.out.blw (fun k h => Nat.le_of_eq (show k = w.heap.size from h).symm)⟩
          | true =>
            have X := (box_at (heap_alloc_new w6 (.cells #[.slice A1 c.head.length m1, .slice A2 c.body.length m2] 67))).2.1
            have z0 := X 0 _ rfl
            have z1 := X 1 _ rfl
            clear X
            have hL : cls.length + 1 ≤ 1073741824 := by omega
            have LEN : Sec ((cls ++ [c]).length = cls.length + 1) := ⟨by simp⟩
            go_upto_region 12 with ((at_builtin; go_loud (refine Kd.R_app2 kClause (W := (w6.alloc (.cells #[.slice A1 c.head.length m1, .slice A2 c.body.length m2] 67))) (by rfl) (.tmp 52) (.tmp 54) 37 (.agg #[.slice none 0 0, .slice none 0 0]) 48 (by rfl) Tryz.underlying37 info_clause rfl (by decide) (by decide) _ cls c [.slice A1 c.head.length m1, .slice A2 c.body.length m2] Sc (fun k => wk.heap.size ≤ k ∧ k < w6.heap.size) (by rfl) (by rfl) (by first | rfl | simp) P6.out.cl (Kd.O_below OG.out WB6.out) (fun k h _ e => by have := MB2.out.1 k (.inl e); omega) hL ?_; intro v5 w5 hR5 hg5 hr5; obtain ⟨A8, m8, rfl, -, -⟩ := Kd.R_form hR5; have L5 := LEN.out; rw [L5] at hR5; clear L5; have F5 : Foot Sc (w6.alloc (.cells #[.slice A1 c.head.length m1, .slice A2 c.body.length m2] 67)) w5 := Foot.grown2 (Foot.refl _ _) hg5 (fun k e => .inl (hr5 k e)); have P7 := Sec.mk (PPd.next0 P6.out F5 hR5 (fun k h => by have hz := WB6.out.size; have hz2 := ZB.out; rcases h with h | h | h; exact .inl h; exact .inr h.1; exact .inr (by omega)) MB2.out); have q9 := (box_at (carry2 F5 P6.out.box (fun e => NSB.out e))).2.1 0 _ rfl; have f9 := (box_at (carry2 F5 P6.out.box (fun e => NSB.out e))).2.2 0; clear hR5 hg5 hr5 F5 y0 y1 z0 z1; skip)))
            generalize (w5.setCell ⟨bx, 0, none⟩ (.slice A8 (cls.length + 1) m8)) = wy at *
            have X := (box_at P7.out.box).2.1
            have y0 := X 0 _ rfl
            have y1 := X 1 _ rfl
            clear X
            cases HQ : prgOk ⟨cls ++ [c], pls⟩ with
            | false =>
              go_wp2_with (first | (go_at_call 38; go_loud (refine (specPrgOk_c ⟨cls ++ [c], pls⟩ _ _ _ (kProg.O_K P7.out.O) (fun k h => h.2)).mono ?_; rw [HQ]; rintro e w9 ⟨rfl, hb9⟩; have P9 := Sec.mk (P7.out.below hb9); clear hb9 y0 y1)) | (with_reducible show wpList _ _ _ (⟨none, .store 40 (.tmp 2) (.tmp 60), _, _, _, _⟩ :: _) _ _; refine wpList_store (cs := [.slice none 0 0, .slice none 0 0]) (old := #[.slice none 0 0, .slice none 0 0]) rfl 40 (.tmp 2) (.tmp 60) rfl rfl rfl P9.out.res (by kernel_rfl) rfl (kProg.K_one (kProg.O_K (prog_none w))) ?_; intro w8 hb8 hF8; have B8 := Sec.mk hb8; have F8 := Sec.mk hF8; clear hb8 hF8))
              exact bodyPost_ret (results_cell2 rfl rfl rfl B8.out hu2 rfl (by kernel_rfl)) rfl ⟨⟨[], []⟩, _, _, rfl, Kd.O_mono (prog_none _) (fun k h _ => h.elim), by decide, F8.out.below P9.out.blw (fun k h => Nat.le_of_eq (show k = w.heap.size from h).symm)⟩
            | true =>
              go_wp2_with (go_at_call 38; go_loud (refine (specPrgOk_c ⟨cls ++ [c], pls⟩ _ _ _ (kProg.O_K P7.out.O) (fun k h => h.2)).mono ?_; rw [HQ]; rintro e w9 ⟨rfl, hb9⟩; have P9 := Sec.mk (P7.out.below hb9); clear hb9 y0 y1))
              go_roundw
              case rel => exact ⟨i + 1, _, _, _, _, _, _, by omega, by go_num, HQ, P9⟩
              case measure => simp [intOf]; omega
        · skip
          go_wp2_with fail
          refine (PrgRead_c s hsz wk).mono ?_
          rintro e w6 ⟨c, cs, qc, rfl, hO, hB⟩
          obtain ⟨v1, v2, rfl, hk1, hk2⟩ := kClause_K (kClause.O_K hO)
          obtain ⟨A1, m1, rfl, -⟩ := hk1
          obtain ⟨A2, m2, rfl, -⟩ := hk2
          have ZB := Sec.mk hB.size
          have MB2 : Sec ((∀ k, Sc k ∨ Sp k → k < wk.heap.size) ∧ bx < wk.heap.size) := ⟨fun k h => (P5.out.mine k h).2.2, (Array.getElem?_eq_some_iff.1 P5.out.box).1⟩
          have OG := Sec.mk (Kd.O_mono hO (S1 := fun k => wk.heap.size ≤ k ∧ k < w6.heap.size) (fun k h1 h2 => ⟨h1, h2⟩))
          have WB6 := Sec.mk (belA (Below.refl w6.heap.size w6) (.cells #[.slice A1 c.head.length m1, .slice A2 c.body.length m2] 67))
          have P6 := Sec.mk ((P5.out.below hB).below WB6.out)
          clear hO hB hc5 y0 y1
          have X := (box_at P6.out.box).2.1
          have y0 := X 0 _ rfl
          have y1 := X 1 _ rfl
          clear X
          cases qc with
          | false =>
            go_wp2_with (with_reducible show wpList _ _ _ (⟨none, .store 40 (.tmp 2) (.tmp 48), _, _, _, _⟩ :: _) _ _; refine wpList_store (cs := [.slice none 0 0, .slice none 0 0]) (old := #[.slice none 0 0, .slice none 0 0]) rfl 40 (.tmp 2) (.tmp 48) rfl rfl rfl P6.out.res (by kernel_rfl) rfl (kProg.K_one (kProg.O_K (prog_none w))) ?_; intro w8 hb8 hF8; have B8 := Sec.mk hb8; have F8 := Sec.mk hF8; clear hb8 hF8)
            exact bodyPost_ret (results_cell2 rfl rfl rfl B8.out hu2 rfl (by kernel_rfl)) rfl ⟨⟨[], []⟩, _, _, rfl, Kd.O_mono (prog_none _) (fun k h _ => h.elim), by decide, F8.out.below P6.out.blw (fun k h => Nat.le_of_eq (show k = w.heap.size from h).symm)⟩
          | true =>
            have X := (box_at (heap_alloc_new w6 (.cells #[.slice A1 c.head.length m1, .slice A2 c.body.length m2] 67))).2.1
            have z0 := X 0 _ rfl
            have z1 := X 1 _ rfl
            clear X
            have hL : cls.length + 1 ≤ 1073741824 := by omega
            have LEN : Sec ((cls ++ [c]).length = cls.length + 1) := ⟨by simp⟩
            go_upto_region 12 with ((at_builtin; go_loud (refine Kd.R_app2 kClause (W := (w6.alloc (.cells #[.slice A1 c.head.length m1, .slice A2 c.body.length m2] 67))) (by rfl) (.tmp 52) (.tmp 54) 37 (.agg #[.slice none 0 0, .slice none 0 0]) 48 (by rfl) Tryz.underlying37 info_clause rfl (by decide) (by decide) _ cls c [.slice A1 c.head.length m1, .slice A2 c.body.length m2] Sc (fun k => wk.heap.size ≤ k ∧ k < w6.heap.size) (by rfl) (by rfl) (by first | rfl | simp) P6.out.cl (Kd.O_below OG.out WB6.out) (fun k h _ e => by have := MB2.out.1 k (.inl e); omega) hL ?_; intro v5 w5 hR5 hg5 hr5; obtain ⟨A8, m8, rfl, -, -⟩ := Kd.R_form hR5; have L5 := LEN.out; rw [L5] at hR5; clear L5; have F5 : Foot Sc (w6.alloc (.cells #[.slice A1 c.head.length m1, .slice A2 c.body.length m2] 67)) w5 := Foot.grown2 (Foot.refl _ _) hg5 (fun k e => .inl (hr5 k e)); have P7 := Sec.mk (PPd.next0 P6.out F5 hR5 (fun k h => by have hz := WB6.out.size; have hz2 := ZB.out; rcases h with h | h | h; exact .inl h; exact .inr h.1; exact .inr (by omega)) MB2.out); have q9 := (box_at (carry2 F5 P6.out.box (fun e => NSB.out e))).2.1 0 _ rfl; have f9 := (box_at (carry2 F5 P6.out.box (fun e => NSB.out e))).2.2 0; clear hR5 hg5 hr5 F5 y0 y1 z0 z1; skip)))
            generalize (w5.setCell ⟨bx, 0, none⟩ (.slice A8 (cls.length + 1) m8)) = wy at *
            have X := (box_at P7.out.box).2.1
            have y0 := X 0 _ rfl
            have y1 := X 1 _ rfl
            clear X
            cases HQ : prgOk ⟨cls ++ [c], pls⟩ with
            | false =>
              go_wp2_with (first | (go_at_call 38; go_loud (refine (specPrgOk_c ⟨cls ++ [c], pls⟩ _ _ _ (kProg.O_K P7.out.O) (fun k h => h.2)).mono ?_; rw [HQ]; rintro e w9 ⟨rfl, hb9⟩; have P9 := Sec.mk (P7.out.below hb9); clear hb9 y0 y1)) | (with_reducible show wpList _ _ _ (⟨none, .store 40 (.tmp 2) (.tmp 60), _, _, _, _⟩ :: _) _ _; refine wpList_store (cs := [.slice none 0 0, .slice none 0 0]) (old := #[.slice none 0 0, .slice none 0 0]) rfl 40 (.tmp 2) (.tmp 60) rfl rfl rfl P9.out.res (by kernel_rfl) rfl (kProg.K_one (kProg.O_K (prog_none w))) ?_; intro w8 hb8 hF8; have B8 := Sec.mk hb8; have F8 := Sec.mk hF8; clear hb8 hF8))
              exact bodyPost_ret (results_cell2 rfl rfl rfl B8.out hu2 rfl (by kernel_rfl)) rfl ⟨⟨[], []⟩, _, _, rfl, Kd.O_mono (prog_none _) (fun k h _ => h.elim), by decide, F8.out.below P9.out.blw (fun k h => Nat.le_of_eq (show k = w.heap.size from h).symm)⟩
            | true =>
              go_wp2_with (go_at_call 38; go_loud (refine (specPrgOk_c ⟨cls ++ [c], pls⟩ _ _ _ (kProg.O_K P7.out.O) (fun k h => h.2)).mono ?_; rw [HQ]; rintro e w9 ⟨rfl, hb9⟩; have P9 := Sec.mk (P7.out.below hb9); clear hb9 y0 y1))
              go_roundw
              case rel => exact ⟨i + 1, _, _, _, _, _, _, by omega, by go_num, HQ, P9⟩
              case measure => simp [intOf]; omega
    · have X := (box_at PW.out.box).2.1
      have y0 := X 0 _ rfl
      have y1 := X 1 _ rfl
      clear X
      go_wp2_with (with_reducible show wpList _ _ _ (⟨none, .store 40 (.tmp 2) (.tmp 63), _, _, _, _⟩ :: _) _ _; refine wpList_store (cs := [.slice Ac cls.length nc, .slice Ap pls.length np]) (old := #[.slice none 0 0, .slice none 0 0]) rfl 40 (.tmp 2) (.tmp 63) rfl rfl rfl PW.out.res (by kernel_rfl) rfl (kProg.K_one (kProg.O_K PW.out.O)) ?_; intro w8 hb8 hF8; have B8 := Sec.mk hb8; have F8 := Sec.mk hF8; clear hb8 hF8)
      exact bodyPost_ret (results_cell2 rfl rfl rfl B8.out hu2 rfl (by kernel_rfl)) rfl ⟨⟨cls, pls⟩, _, ⟨_, rfl⟩, Kd.O_mono (F8.out.O PW.out.O (fun k h e => by have e : k = w.heap.size := e; omega)) (fun k h _ => by omega), HOK.out, F8.out.below PW.out.blw (fun k h => Nat.le_of_eq (show k = w.heap.size from h).symm)⟩
end
section
open Go.RowKit
set_option linter.unusedVariables false
set_option maxRecDepth 100000
end
section
open Go.RowKit
set_option linter.unusedVariables false
/-- A row that has one struct, in a block of its own. -/
theorem Kd.R_of_one {α : Type} (d : Kd α) {w : World} {S : Nat → Prop} {g : Nat} {cs : List Value} {x : α} (hb : w.heap[g]? = some (.cells cs.toArray d.ty (0, 0))) (hS : S g) (h : d.O w (fun k => S k ∧ k ≠ g) x cs) : d.R w S (.slice (some ⟨g, 0, none⟩) 1 1) [x] := by
  have hl := d.K_len (d.O_K h)
  refine ⟨by simp, .inr ⟨g, 1, cs.toArray, rfl, hb, hS, Nat.le_refl _, by decide, by simp [hl], ?_⟩⟩
  exact ⟨fun k => S k ∧ k ≠ g, fun _ => False, cs, [], by simp [← hl], fun k h => ⟨h, id⟩, fun k h => h.elim, h, rfl⟩
end
section
open Go.RowKit
set_option linter.unusedVariables false
set_option maxRecDepth 100000
theorem gf_body : Kd.GFld kClause (Kd.slice 65 kGoal (by decide)) 1 (fun x => x.body) (fun x y => { x with body := y }) := Kd.GFld.iso _ (Kd.GFld.snd (Kd.GFld.self _)) (fun _ _ => rfl)
theorem kClause_of {w : World} {S1 S2 : Nat → Prop} {x : Clause} {v1 v2 : Value} (h1 : kCell.R w S1 v1 x.head) (h2 : kGoal.R w S2 v2 x.body) (d : ∀ k, S1 k → ¬ S2 k) : kClause.O w (fun k => S1 k ∨ S2 k) x [v1, v2] :=
  ⟨S1, S2, [v1], [v2], rfl, fun k h => ⟨.inl h, d k h⟩, fun k h => .inr h, ⟨v1, rfl, h1⟩, ⟨v2, rfl, h2⟩⟩
def onOc {α : Type} (d : Kd α) (x : α) (cs : List Value) : On := fun _ S w => d.O w S x cs
end
end Go.Proofs.YtekiikmaaiekkaaGreatDoor
