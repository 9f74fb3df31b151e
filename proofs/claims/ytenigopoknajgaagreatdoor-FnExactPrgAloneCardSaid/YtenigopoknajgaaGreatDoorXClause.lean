/- What the exact laws' own functions do with the type PrgClause: turned, sized, compared, marked, held. -/
import Derived.Test.YtenigopoknajgaaGreatDoorXCell
import Derived.Test.YtenigopoknajgaaGreatDoorXGoal
namespace Go.Proofs.YtenigopoknajgaaGreatDoor
open Go.RowKit
set_option linter.unusedVariables false
set_option maxRecDepth 100000
def kClause : Kd Clause := Kd.iso 59 (Kd.pair (Kd.slice 56 kCell (by decide)) (Kd.slice 57 kGoal (by decide))) (fun x => (x.head, x.body))
theorem kClause_K {w : World} {ok : Nat → Prop} {x : Clause} {cs : List Value} (h : kClause.K w ok x cs) : ∃ v0 v1, cs = [v0, v1] ∧ kCell.V w ok v0 x.head ∧ kGoal.V w ok v1 x.body := by
  obtain ⟨_, _, rfl, ⟨v0, rfl, h0⟩, ⟨v1, rfl, h1⟩⟩ := h
  exact ⟨v0, v1, rfl, h0, h1⟩
def rClause : Raw Clause := Raw.iso 51 (Raw.pair (Raw.slice 48 rCell) (Raw.slice 49 rGoal)) (fun x => (x.head, x.body))
theorem rClause_K {w : World} {x : Clause} {cs : List Value} (h : rClause.K w x cs) : ∃ v0 v1, cs = [v0, v1] ∧ rCell.V w v0 x.head ∧ rGoal.V w v1 x.body := by
  obtain ⟨_, _, rfl, ⟨v0, rfl, h0⟩, ⟨v1, rfl, h1⟩⟩ := h
  exact ⟨v0, v1, rfl, h0, h1⟩
theorem rClause_mono : Raw.Mono rClause := Raw.mono_iso (Raw.mono_pair (Raw.mono_slice rCell_mono) (Raw.mono_slice rGoal_mono))
theorem rClause_wt (x : Clause) : rClause.wt x = (HAdd.hAdd (rCell.wts x.head) (rGoal.wts x.body)) := rfl
theorem rClause_fits : Raw.Fits rClause kClause := Raw.fits_iso (Raw.fits_pair (Raw.fits_slice rCell_fits _ _ (by decide)) (Raw.fits_slice rGoal_fits _ _ (by decide))) _ _ _
theorem rClause_opn : Raw.Opn Tryz.prog rClause := Raw.opn_struct Tryz.underlying51 (by kernel_rfl) (fun b => ⟨⟨b.1, b.2⟩, rfl⟩) (Raw.opnF_cons (Raw.opn_slice (r := rCell) Tryz.underlying48 (by kernel_rfl) (by decide) rCell_opn) rfl rfl (by kernel_rfl) (by decide) (Raw.opnF_last (Raw.opn_slice (r := rGoal) Tryz.underlying49 (by kernel_rfl) (by decide) rGoal_opn) rfl rfl (by kernel_rfl) (by decide)))
theorem Clause.ext_iff (a b : Clause) : a = b ↔ a.head = b.head ∧ a.body = b.body := by
  cases a; cases b; simp
instance : DecidableEq Clause := fun a b => decidable_of_iff _ (Clause.ext_iff a b).symm
def zeroClause : Clause := ⟨[], []⟩
theorem kClause_zero (w : World) : kClause.O w (fun _ => False) zeroClause [.slice none 0 0, .slice none 0 0] := (Kd.O_pair0 (d := (Kd.slice 56 kCell (by decide))) (e := (Kd.slice 57 kGoal (by decide))) ⟨_, rfl, Kd.R_nil _ _ _⟩ ⟨_, rfl, Kd.R_nil _ _ _⟩)
theorem kClause_f_head : Kd.Fld kClause (Kd.slice 56 kCell (by decide)) 0 (fun x => x.head) (fun x y => { x with head := y }) := Kd.Fld.iso _ (Kd.Fld.fst (Kd.Fld.self _)) (fun _ _ => rfl)
theorem kClause_f_body : Kd.Fld kClause (Kd.slice 57 kGoal (by decide)) 1 (fun x => x.body) (fun x y => { x with body := y }) := Kd.Fld.iso _ (Kd.Fld.snd (Kd.Fld.self _)) (fun _ _ => rfl)
theorem szPrgClause_c (x : Clause) (cs : List Value) (left : Nat) (hl : left ≤ 1048576) (w : World) (hK : rClause.K w x cs) :
    Calls Tryz.prog 25 #[.agg cs.toArray, .int .i64 left] w fun e w' => e = .returned (.int .i64 (Raw.spent (rClause.wt x) left)) ∧ Below w.heap.size w w' := by
  obtain ⟨_, _, rfl, ⟨v0, rfl, h0⟩, ⟨v1, rfl, h1⟩⟩ := hK
  have H0 := Sec.mk h0
  clear h0
  have H1 := Sec.mk h1
  clear h1
  have hu := Tryz.underlying51
  have hb0 := hl
  have T0 : Sec True := ⟨trivial⟩
  by_cases e0 : rCell.wts x.head ≤ left
  · have s0 := Raw.spent_le e0
    have L0 := Sec.mk (show (left - rCell.wts x.head) + rCell.wts x.head = left by omega)
    have hb1 : left - rCell.wts x.head ≤ 1048576 := by omega
    generalize left - rCell.wts x.head = l0 at *
    have n0 : ¬ ((l0 : Int) < 0) := by omega
    by_cases e1 : rGoal.wts x.body ≤ l0
    · have s1 := Raw.spent_le e1
      have L1 := Sec.mk (show (l0 - rGoal.wts x.body) + rGoal.wts x.body = l0 by omega)
      have hb2 : l0 - rGoal.wts x.body ≤ 1048576 := by omega
      generalize l0 - rGoal.wts x.body = l1 at *
      have n1 : ¬ ((l1 : Int) < 0) := by omega
      have hfin : Sec ((l1 : Int) = Raw.spent (rClause.wt x) left) := ⟨by rw [Raw.spent_le (by rw [rClause_wt]; have := L0.out; have := L1.out; omega), rClause_wt]; have := L0.out; have := L1.out; omega⟩
      go_enter Tryz.func25, Tryz.ntmps25
      go_wp2_with (first | (clear T1; go_at_call 48; have T2 : Sec True := ⟨trivial⟩; refine (szSGoal_c v1 x.body l0 hb1 _ (Raw.mono_V rGoal_mono B0.out H1.out)).mono ?_; rintro e w2 ⟨rfl, hb1⟩; rw [s1]; have B1 := Sec.mk (bel B0.out hb1); have Q := box_cells hb1 (P0.out.1); have P1 := Sec.mk Q; clear Q hb1) | (clear T0; go_at_call 47; have T1 : Sec True := ⟨trivial⟩; refine (szSCell_c v0 x.head left hb0 _ (Raw.mono_V rCell_mono (belA (Below.refl _ _) _) H0.out)).mono ?_; rintro e w1 ⟨rfl, hb1⟩; rw [s0]; have B0 := Sec.mk (bel (belA (Below.refl _ _) _) hb1); have Q := box_cells hb1 (box1 _ _); have c0_0 := Q.2.1 0 _ rfl; have c0_1 := Q.2.1 1 _ rfl; have P0 := Sec.mk Q; clear Q hb1))
      go_ret
      exact ⟨ri hfin.out, B1.out⟩
    · have s1 := Raw.spent_gt e1
      have hfin : Sec (Raw.spent (rClause.wt x) left = -1) := ⟨Raw.spent_gt (by rw [rClause_wt]; have := L0.out; omega)⟩
      go_enter Tryz.func25, Tryz.ntmps25
      go_wp2_with (first | (clear T1; go_at_call 48; have T2 : Sec True := ⟨trivial⟩; refine (szSGoal_c v1 x.body l0 hb1 _ (Raw.mono_V rGoal_mono B0.out H1.out)).mono ?_; rintro e w2 ⟨rfl, hb1⟩; rw [s1]; have B1 := Sec.mk (bel B0.out hb1); have Q := box_cells hb1 (P0.out.1); have P1 := Sec.mk Q; clear Q hb1) | (clear T0; go_at_call 47; have T1 : Sec True := ⟨trivial⟩; refine (szSCell_c v0 x.head left hb0 _ (Raw.mono_V rCell_mono (belA (Below.refl _ _) _) H0.out)).mono ?_; rintro e w1 ⟨rfl, hb1⟩; rw [s0]; have B0 := Sec.mk (bel (belA (Below.refl _ _) _) hb1); have Q := box_cells hb1 (box1 _ _); have c0_0 := Q.2.1 0 _ rfl; have c0_1 := Q.2.1 1 _ rfl; have P0 := Sec.mk Q; clear Q hb1))
      go_ret
      exact ⟨ri hfin.out.symm, B1.out⟩
  · have s0 := Raw.spent_gt e0
    have hfin : Sec (Raw.spent (rClause.wt x) left = -1) := ⟨Raw.spent_gt (by rw [rClause_wt]; omega)⟩
    go_enter Tryz.func25, Tryz.ntmps25
    go_wp2_with (first | (clear T0; go_at_call 47; have T1 : Sec True := ⟨trivial⟩; refine (szSCell_c v0 x.head left hb0 _ (Raw.mono_V rCell_mono (belA (Below.refl _ _) _) H0.out)).mono ?_; rintro e w1 ⟨rfl, hb1⟩; rw [s0]; have B0 := Sec.mk (bel (belA (Below.refl _ _) _) hb1); have Q := box_cells hb1 (box1 _ _); have P0 := Sec.mk Q; clear Q hb1))
    go_ret
    exact ⟨ri hfin.out.symm, B0.out⟩
set_option maxHeartbeats 1000000 in
theorem szSClause_c (v : Value) (t : List Clause) (left : Nat) (hl : left ≤ 1048576) (w : World) (hV : rClause.V w v t) :
    Calls Tryz.prog 11 #[v, .int .i64 left] w fun e w' => e = .returned (.int .i64 (Raw.spent (rClause.wts t) left)) ∧ Below w.heap.size w w' := by
  obtain ⟨A, c, rfl, h1, h2, hC, _⟩ := hV
  have HC := Sec.mk hC
  clear hC
  have h3 : t.length ≤ 9223372036854775807 := by have : c ≤ 9223372036854775807 := by simpa [maxLen] using h2
                                                 omega
  have hu2 := Tryz.underlying51
  by_cases hlen : t.length ≤ left
  · obtain ⟨l1, hl1⟩ : ∃ l1 : Nat, (left : Int) - t.length = l1 := ⟨left - t.length, by omega⟩
    have hl2 : l1 + t.length = left := by omega
    have HL := Sec.mk hl1
    have HS : Sec (∀ (k : Nat) (hk : k < t.length), ((t.take (k + 1)).map rClause.wt).sum = ((t.take k).map rClause.wt).sum + rClause.wt t[k] ∧ ((t.take (k + 1)).map rClause.wt).sum ≤ (t.map rClause.wt).sum) := ⟨fun k hk => ⟨Raw.wts_take _ _ _ hk, Raw.wts_take_le _ _ _⟩⟩
    go_enter Tryz.func11, Tryz.ntmps11
    go_wp2
    go_loopw [1, 5] (fun l i wr => ∃ k m : Nat, k ≤ t.length ∧ i = .int .i64 k ∧ l = .int .i64 m ∧ m ≤ 1048576 ∧ Sec (m + ((t.take k).map rClause.wt).sum = l1) ∧ Sec (Below w.heap.size w wr)) (fun _ i _ => t.length - (intOf i).toNat)
    case atStart => exact ⟨0, l1, Nat.zero_le _, rfl, rfl, by omega, ⟨by simp⟩, ⟨Below.refl _ _⟩⟩
    case round =>
      obtain ⟨k, m, hk, rfl, rfl, hm, hM, hb⟩ := hrel
      by_cases hlt : k < t.length
      · obtain ⟨b, off, cs, rfl, hK, hc⟩ := Raw.C_get HC.out k hlt
        obtain ⟨s1, s2⟩ := HS.out k hlt
        have S1 := Sec.mk s1
        have S2 := Sec.mk s2
        clear s1 s2
        generalize t[k] = x at *
        have HK := Sec.mk hK
        obtain ⟨v0, v1, rfl, -, -⟩ := rClause_K hK
        have c0 : wr.cell? ⟨b, off + k * 2, none⟩ = some (v0) := Raw.cell_below hb.out (hc 0 _ rfl)
        have c1 : wr.cell? ⟨b, off + k * 2 + 1, none⟩ = some (v1) := Raw.cell_below hb.out (hc 1 _ rfl)
        clear hc hK
        by_cases hx : rClause.wt x ≤ m
        · have e1 := Raw.spent_le hx
          have e2 : ¬ (((m - rClause.wt x : Nat) : Int) < 0) := by omega
          generalize hm2 : m - rClause.wt x = m2 at *
          have HM2 : Sec (m2 + ((t.take (k + 1)).map rClause.wt).sum = l1) := ⟨by rw [S1.out]; have := hM.out; omega⟩
          have hm3 : m2 ≤ 1048576 := by omega
          clear hm2
          go_wp2_with (go_at_call 25; refine (szPrgClause_c x _ m hm wr (rClause_mono _ _ _ _ hb.out HK.out)).mono ?_; rintro e w1 ⟨rfl, hb1⟩; have B1 := Sec.mk (bel hb.out hb1); rw [e1]; clear c0 c1)
          go_roundw
          case rel => exact ⟨k + 1, m2, by omega, by go_num, rfl, hm3, HM2, B1⟩
          case measure => simp [intOf]; omega
        · have e1 := Raw.spent_gt hx
          have hfin : Sec (Raw.spent (rClause.wts t) left = -1) := ⟨Raw.spent_gt (by unfold Raw.wts; have := S1.out; have := S2.out; have := hM.out; omega)⟩
          go_wp2_with (go_at_call 25; refine (szPrgClause_c x _ m hm wr (rClause_mono _ _ _ _ hb.out HK.out)).mono ?_; rintro e w1 ⟨rfl, hb1⟩; have B1 := Sec.mk (bel hb.out hb1); rw [e1]; clear c0 c1)
          go_ret
          exact ⟨ri hfin.out.symm, B1.out⟩
      · have hfin : Sec ((m : Int) = Raw.spent (rClause.wts t) left) := ⟨by
          have h1 := hM.out
          rw [List.take_of_length_le (by omega)] at h1
          rw [Raw.spent_le (by unfold Raw.wts; omega)]
          unfold Raw.wts
          omega⟩
        go_wp2
        go_ret
        exact ⟨ri hfin.out, hb.out⟩
  · have hfin : Sec (Raw.spent (rClause.wts t) left = -1) := ⟨Raw.spent_gt (by unfold Raw.wts; omega)⟩
    go_enter Tryz.func11, Tryz.ntmps11
    go_wp2
    go_ret
    exact ⟨ri hfin.out.symm, Below.refl _ _⟩
set_option maxHeartbeats 1000000 in
theorem toPrgClause_c (x : Clause) (cs : List Value) (ok : Nat → Prop) (w : World) (hK : kClause.K w ok x cs) :
    Calls Tryz.prog 30 #[.agg cs.toArray] w fun e w' => ∃ c : List Value, e = .returned (.agg c.toArray) ∧ kClause.O w' (fun k => w.heap.size ≤ k) x c ∧ Below w.heap.size w w' := by
  obtain ⟨_, _, rfl, ⟨v0, rfl, h0⟩, ⟨v1, rfl, h1⟩⟩ := hK
  have H0 := Sec.mk h0
  clear h0
  have H1 := Sec.mk h1
  clear h1
  have hu := Tryz.underlying51
  have hu2 := Tryz.underlying59
  have T0 : Sec True := ⟨trivial⟩
  go_enter Tryz.func30, Tryz.ntmps30
  go_wp2_with (first | (clear T1; go_at_call 55; have T2 : Sec True := ⟨trivial⟩; refine (toSGoal_c v1 x.body ok _ (Kd.V_below H1.out (B1.out.setCell (p := ⟨w.heap.size + 1 + 1, 0, none⟩) (by show w.heap.size ≤ w.heap.size + 1 + 1; omega) _) (by decide))).mono ?_; rintro e w2 ⟨u1, rfl, hR, hb1⟩; obtain ⟨A1, n1, rfl, -, -⟩ := Kd.R_form hR; have Z2 : w1.heap.size ≤ w2.heap.size := (by have := hb1.size; simpa [World.setCell] using this); have R2 := Sec.mk (Kd.R_mono (S1 := fun k => w1.heap.size ≤ k ∧ k < w2.heap.size) hR (fun k h1 h2 => ⟨by simpa [World.setCell] using h1, h2⟩)); have G2 := Sec.mk (Foot.call ((Foot.refl (Own w 3) w1).set (.inl ⟨by omega, by omega⟩) _ _) hb1); have B2 := Sec.mk (bel (B1.out.setCell (p := ⟨w.heap.size + 1 + 1, 0, none⟩) (by show w.heap.size ≤ w.heap.size + 1 + 1; omega) _) hb1); have X := box_cells (b := w.heap.size) (cs := #[v0, v1]) (t := 51) hb1 ((Below.heap_setCell _ _ _ _ (by show w.heap.size ≠ w.heap.size + 1 + 1; omega)).trans P1.out.1); have p2_0 := X.2.1 0 _ rfl; have p2_1 := X.2.1 1 _ rfl; have P2 := Sec.mk X; clear X; have X := box_cells (b := w.heap.size + 1) (cs := #[.slice none 0 0, .slice none 0 0]) (t := 59) hb1 ((Below.heap_setCell _ _ _ _ (by show w.heap.size + 1 ≠ w.heap.size + 1 + 1; omega)).trans Q1.out.1); have q2_0 := X.2.1 0 _ rfl; have qf2_0 := X.2.2 0; have q2_1 := X.2.1 1 _ rfl; have qf2_1 := X.2.2 1; have Q2 := Sec.mk X; clear X; have X := box_cells (b := w.heap.size + 1 + 1) (cs := #[.slice A0 x.head.length n0, .slice none 0 0]) (t := 59) hb1 (box_store _ _ O1.out.1); have o2_0 := X.2.1 0 _ rfl; have of2_0 := X.2.2 0; have o2_1 := X.2.1 1 _ rfl; have of2_1 := X.2.2 1; have O2 := Sec.mk X; clear X; clear hb1 hR; clear p1_0 q1_0 qf1_0 o1_0 of1_0 p1_1 q1_1 qf1_1 o1_1 of1_1) | (clear T0; go_at_call 54; have T1 : Sec True := ⟨trivial⟩; refine (toSCell_c v0 x.head ok _ (Kd.V_below H0.out (belA (belA (belA (Below.refl _ _) _) _) _) (by decide))).mono ?_; rintro e w1 ⟨u0, rfl, hR, hb1⟩; obtain ⟨A0, n0, rfl, -, -⟩ := Kd.R_form hR; have Z1 : w.heap.size + 3 ≤ w1.heap.size := (by have := hb1.size; simp at this; omega); have R1 := Sec.mk (Kd.R_mono (S1 := fun k => w.heap.size + 3 ≤ k ∧ k < w1.heap.size) hR (fun k h1 h2 => ⟨by simp at h1; omega, h2⟩)); have G1 := Sec.mk (Foot.call ((((Foot.refl (Own w 3) w).alloc _).alloc _).alloc _) hb1); have B1 := Sec.mk (bel (belA (belA (belA (Below.refl _ _) _) _) _) hb1); have X := box_cells (b := w.heap.size) (cs := #[v0, v1]) (t := 51) hb1 (box3 _ _ _ _).1; have p1_0 := X.2.1 0 _ rfl; have p1_1 := X.2.1 1 _ rfl; have P1 := Sec.mk X; clear X; have X := box_cells (b := w.heap.size + 1) (cs := #[.slice none 0 0, .slice none 0 0]) (t := 59) hb1 (box3 _ _ _ _).2.1; have q1_0 := X.2.1 0 _ rfl; have qf1_0 := X.2.2 0; have q1_1 := X.2.1 1 _ rfl; have qf1_1 := X.2.2 1; have Q1 := Sec.mk X; clear X; have X := box_cells (b := w.heap.size + 1 + 1) (cs := #[.slice none 0 0, .slice none 0 0]) (t := 59) hb1 (box3 _ _ _ _).2.2; have o1_0 := X.2.1 0 _ rfl; have of1_0 := X.2.2 0; have o1_1 := X.2.1 1 _ rfl; have of1_1 := X.2.2 1; have O1 := Sec.mk X; clear X; clear hb1 hR))
  refine bodyPost_ret (v := .agg #[.slice A0 x.head.length n0, .slice A1 x.body.length n1]) (by simp [results, Tryz.results30, go_sem, q2_0, q2_1]) rfl ⟨[.slice A0 x.head.length n0, .slice A1 x.body.length n1], rfl, ?_, ?_⟩
  rotate_left
  · refine Foot.own (n := 3) (Foot.trans (S' := Own w 3) (G1.out.trans G2.out (fun _ _ h => h)) ?_ (fun _ _ h => h))
    exact (Foot.set (Foot.set (Foot.set (Foot.refl _ _) (.inl ⟨by omega, by omega⟩) _ _) (.inl ⟨by omega, by omega⟩) _ _) (.inl ⟨by omega, by omega⟩) _ _)
  · have FF : ∀ W, Foot (Own w 3) w2 W → kClause.O W (fun k => w.heap.size ≤ k) x [.slice A0 x.head.length n0, .slice A1 x.body.length n1] := fun W FF => ?_
    · refine FF _ ?_
      exact (Foot.set (Foot.set (Foot.set (Foot.refl _ _) (.inl ⟨by omega, by omega⟩) _ _) (.inl ⟨by omega, by omega⟩) _ _) (.inl ⟨by omega, by omega⟩) _ _)
    · exact (Kd.O_stack (d := (Kd.slice 56 kCell (by decide))) (e := (Kd.slice 57 kGoal (by decide))) (n0 := w.heap.size) (n1 := w1.heap.size) ⟨_, rfl, Kd.R_mono (Foot.R (Foot.trans (S' := Own w 3) G2.out FF (fun _ _ h => h)) R1.out (fun k h1 h2 => by have := h1.1; have := h2.2; omega)) (fun k h _ => by have := h.1; have := h.2; omega)⟩ ⟨_, rfl, Kd.R_mono (Foot.R FF R2.out (fun k h1 h2 => by have := h1.1; have := h2.2; omega)) (fun k h _ => by have := h.1; have := h.2; omega)⟩ (by omega))
set_option maxHeartbeats 1000000 in
theorem toSClause_c (v : Value) (t : List Clause) (ok : Nat → Prop) (w : World) (hV : kClause.V w ok v t) :
    Calls Tryz.prog 15 #[v] w fun e w' => ∃ u, e = .returned u ∧ kClause.R w' (fun k => w.heap.size ≤ k) u t ∧ Below w.heap.size w w' := by
  obtain ⟨A, c, rfl, h1, h2, h3, hC, _⟩ := hV
  have HC := Sec.mk hC
  clear hC
  have hu := Tryz.underlying59
  have hu2 := Tryz.underlying51
  have hmk := made (P := Tryz.prog) 27 59 (.agg #[.slice none 0 0, .slice none 0 0]) 2 48 Tryz.underlying27 (by kernel_rfl) (by decide) t.length h3
  have HM := Sec.mk (Kd.R_made (d := kClause) (w := w) (B := w.heap.size) (x0 := zeroClause) (z := #[.slice none 0 0, .slice none 0 0]) (n := t.length) (fun w => kClause_zero w) rfl (Nat.le_refl _) h3)
  go_enter Tryz.func15, Tryz.ntmps15
  go_wp2
  clear hmk
  go_loopw [4] (fun i wr => ∃ k : Nat, k ≤ t.length ∧ i = .int .i64 k ∧ Sec (kClause.R wr (fun k => w.heap.size ≤ k) (.slice (some ⟨w.heap.size, 0, none⟩) t.length t.length) (t.take k ++ List.replicate (t.length - k) zeroClause)) ∧ Sec (Below w.heap.size w wr)) (fun i _ => t.length - (intOf i).toNat)
  case atStart => exact ⟨0, Nat.zero_le _, rfl, ⟨HM.out⟩, ⟨belA (Below.refl _ _) _⟩⟩
  case round =>
    obtain ⟨k, hk, rfl, hR, hb⟩ := hrel
    by_cases hlt : k < t.length
    · obtain ⟨b, off, cs, rfl, hob, hK, hc⟩ := Kd.C_get (Kd.C_below HC.out hb.out (by decide)) (List.getElem?_eq_getElem hlt)
      have hL : Sec ((t.take k ++ List.replicate (t.length - k) zeroClause).length = t.length) := ⟨by simp; omega⟩
      have hset : Sec ((t.take k ++ List.replicate (t.length - k) zeroClause).set k t[k] = t.take (k + 1) ++ List.replicate (t.length - (k + 1)) zeroClause) := ⟨put_next t zeroClause k hlt⟩
      generalize t[k] = x at *
      have HK := Sec.mk hK
      obtain ⟨v0, v1, rfl, -, -⟩ := kClause_K hK
      have c0 : wr.cell? ⟨b, off + k * 2, none⟩ = some (v0) := hc 0 _ rfl
      have c1 : wr.cell? ⟨b, off + k * 2 + 1, none⟩ = some (v1) := hc 1 _ rfl
      clear hc hK
      go_wp2_with (go_at_call 30; refine (toPrgClause_c x _ ok _ HK.out).mono ?_; rintro e w1 ⟨d0, rfl, hO, hb1⟩; have HO := Sec.mk hO; obtain ⟨u0, u1, rfl, k0, k1⟩ := kClause_K (Kd.O_K _ hO); clear hO; obtain ⟨A0, n0, rfl, -⟩ := k0; obtain ⟨A1, n1, rfl, -⟩ := k1; have R1 := Sec.mk (Kd.R_below (Kd.R_mono hR.out (S1 := fun k => w.heap.size ≤ k ∧ k < wr.heap.size) (fun k h1 h2 => ⟨h1, h2⟩)) hb1); have B1 := Sec.mk (bel hb.out hb1); have hsz := Sec.mk hb.out.size; obtain ⟨q0, e0, f0⟩ := Kd.R_cell R1.out k 0 (by rw [hL.out]; exact hlt) (by decide); obtain ⟨q1, e1, f1⟩ := Kd.R_cell R1.out k 1 (by rw [hL.out]; exact hlt) (by decide); rw [show kClause.sz = 2 from rfl] at e0 f0 e1 f1; rw [Nat.add_zero] at e0 f0; have P1 := Sec.mk (Kd.R_put R1.out k (by rw [hL.out]; exact hlt) HO.out (fun k h1 h2 => absurd h2.2 (Nat.not_lt.2 h1))); have F1 := Sec.mk ((Foot.refl (fun k => w.heap.size ≤ k) w1).setCells (g := w.heap.size) (.inl (Nat.le_refl _)) [.slice A0 x.head.length n0, .slice A1 x.body.length n1] (k * 2)); clear hb1 c0 c1)
      go_roundw
      case rel => exact ⟨k + 1, by omega, by go_num, ⟨by rw [← hset.out]; exact Kd.R_mono P1.out (fun k h _ => h.elim (fun h => h.1) (fun h => Nat.le_trans hsz.out h))⟩, ⟨F1.out.below B1.out (fun _ h => h)⟩⟩
      case measure => simp [intOf]; omega
    · have hfin : Sec (t.take k ++ List.replicate (t.length - k) zeroClause = t) := ⟨by rw [List.take_of_length_le (by omega), show t.length - k = 0 by omega]; simp⟩
      have hR2 := hR.out
      rw [hfin.out] at hR2
      have HR2 := Sec.mk hR2
      clear hR2 hfin hR
      go_wp2
      go_ret
      exact ⟨_, rfl, HR2.out, hb.out⟩
set_option maxHeartbeats 2000000 in
theorem eqPrgClause_c (x y : Clause) (cs ds : List Value) (ok ok' : Nat → Prop) (w : World) (hK : kClause.K w ok x cs) (hD : kClause.K w ok' y ds) :
    Calls Tryz.prog 40 #[.agg cs.toArray, .agg ds.toArray] w fun e w' => e = .returned (.bool (decide (x = y))) ∧ Below w.heap.size w w' := by
  obtain ⟨_, _, rfl, ⟨v0, rfl, h0⟩, ⟨v1, rfl, h1⟩⟩ := hK
  have H0 := Sec.mk h0
  clear h0
  have H1 := Sec.mk h1
  clear h1
  obtain ⟨_, _, rfl, ⟨u0, rfl, g0⟩, ⟨u1, rfl, g1⟩⟩ := hD
  have G0 := Sec.mk g0
  clear g0
  have G1 := Sec.mk g1
  clear g1
  have hu := Tryz.underlying59
  have hxy := Sec.mk (Clause.ext_iff x y)
  have T0 : Sec True := ⟨trivial⟩
  by_cases h0 : x.head = y.head
  · have E0 := Sec.mk h0
    have d0 : decide (x.head = y.head) = true := decide_eq_true h0
    clear h0
    by_cases h1 : x.body = y.body
    · have E1 := Sec.mk h1
      have d1 : decide (x.body = y.body) = true := decide_eq_true h1
      clear h1
      have hd : Sec (decide (x = y) = true) := ⟨by rw [decide_eq_true_eq, hxy.out]; exact ⟨E0.out, E1.out⟩⟩
      go_enter Tryz.func40, Tryz.ntmps40
      go_wp2_with (first | (clear T1; go_at_call 64; have T2 : Sec True := ⟨trivial⟩; refine (eqSGoal_c v1 u1 x.body y.body ok ok' _ (Kd.V_below H1.out B1.out (by decide)) (Kd.V_below G1.out B1.out (by decide))).mono ?_; rintro e w2 ⟨rfl, hb1⟩; rw [d1]; have B2 := Sec.mk (bel B1.out hb1); have X := box_cells (b := w.heap.size) (cs := #[v0, v1]) (t := 59) hb1 P1.out.1; have p2_1 := X.2.1 1 _ rfl; have P2 := Sec.mk X; clear X; have X := box_cells (b := w.heap.size + 1) (cs := #[u0, u1]) (t := 59) hb1 Q1.out.1; have q2_1 := X.2.1 1 _ rfl; have Q2 := Sec.mk X; clear X hb1) | (clear T0; go_at_call 63; have T1 : Sec True := ⟨trivial⟩; refine (eqSCell_c v0 u0 x.head y.head ok ok' _ (Kd.V_below H0.out (belA (belA (Below.refl _ _) _) _) (by decide)) (Kd.V_below G0.out (belA (belA (Below.refl _ _) _) _) (by decide))).mono ?_; rintro e w1 ⟨rfl, hb1⟩; rw [d0]; have B1 := Sec.mk (bel (belA (belA (Below.refl _ _) _) _) hb1); have X := box_cells (b := w.heap.size) (cs := #[v0, v1]) (t := 59) hb1 (box2 _ _ _).1; have p1_0 := X.2.1 0 _ rfl; have p1_1 := X.2.1 1 _ rfl; have P1 := Sec.mk X; clear X; have X := box_cells (b := w.heap.size + 1) (cs := #[u0, u1]) (t := 59) hb1 (box2 _ _ _).2; have q1_0 := X.2.1 0 _ rfl; have q1_1 := X.2.1 1 _ rfl; have Q1 := Sec.mk X; clear X hb1))
      go_ret
      exact ⟨rb hd.out.symm, B2.out⟩
    · have hd : Sec (decide (x = y) = false) := ⟨by rw [decide_eq_false_iff_not, hxy.out]; exact fun h => h1 h.2⟩
      have d1 : decide (x.body = y.body) = false := decide_eq_false h1
      clear h1
      go_enter Tryz.func40, Tryz.ntmps40
      go_wp2_with (first | (clear T1; go_at_call 64; have T2 : Sec True := ⟨trivial⟩; refine (eqSGoal_c v1 u1 x.body y.body ok ok' _ (Kd.V_below H1.out B1.out (by decide)) (Kd.V_below G1.out B1.out (by decide))).mono ?_; rintro e w2 ⟨rfl, hb1⟩; rw [d1]; have B2 := Sec.mk (bel B1.out hb1); have X := box_cells (b := w.heap.size) (cs := #[v0, v1]) (t := 59) hb1 P1.out.1; have p2_1 := X.2.1 1 _ rfl; have P2 := Sec.mk X; clear X; have X := box_cells (b := w.heap.size + 1) (cs := #[u0, u1]) (t := 59) hb1 Q1.out.1; have q2_1 := X.2.1 1 _ rfl; have Q2 := Sec.mk X; clear X hb1) | (clear T0; go_at_call 63; have T1 : Sec True := ⟨trivial⟩; refine (eqSCell_c v0 u0 x.head y.head ok ok' _ (Kd.V_below H0.out (belA (belA (Below.refl _ _) _) _) (by decide)) (Kd.V_below G0.out (belA (belA (Below.refl _ _) _) _) (by decide))).mono ?_; rintro e w1 ⟨rfl, hb1⟩; rw [d0]; have B1 := Sec.mk (bel (belA (belA (Below.refl _ _) _) _) hb1); have X := box_cells (b := w.heap.size) (cs := #[v0, v1]) (t := 59) hb1 (box2 _ _ _).1; have p1_0 := X.2.1 0 _ rfl; have p1_1 := X.2.1 1 _ rfl; have P1 := Sec.mk X; clear X; have X := box_cells (b := w.heap.size + 1) (cs := #[u0, u1]) (t := 59) hb1 (box2 _ _ _).2; have q1_0 := X.2.1 0 _ rfl; have q1_1 := X.2.1 1 _ rfl; have Q1 := Sec.mk X; clear X hb1))
      go_ret
      exact ⟨rb hd.out.symm, B2.out⟩
  · have hd : Sec (decide (x = y) = false) := ⟨by rw [decide_eq_false_iff_not, hxy.out]; exact fun h => h0 h.1⟩
    have d0 : decide (x.head = y.head) = false := decide_eq_false h0
    clear h0
    go_enter Tryz.func40, Tryz.ntmps40
    go_wp2_with (first | (clear T0; go_at_call 63; have T1 : Sec True := ⟨trivial⟩; refine (eqSCell_c v0 u0 x.head y.head ok ok' _ (Kd.V_below H0.out (belA (belA (Below.refl _ _) _) _) (by decide)) (Kd.V_below G0.out (belA (belA (Below.refl _ _) _) _) (by decide))).mono ?_; rintro e w1 ⟨rfl, hb1⟩; rw [d0]; have B1 := Sec.mk (bel (belA (belA (Below.refl _ _) _) _) hb1); have X := box_cells (b := w.heap.size) (cs := #[v0, v1]) (t := 59) hb1 (box2 _ _ _).1; have p1_0 := X.2.1 0 _ rfl; have p1_1 := X.2.1 1 _ rfl; have P1 := Sec.mk X; clear X; have X := box_cells (b := w.heap.size + 1) (cs := #[u0, u1]) (t := 59) hb1 (box2 _ _ _).2; have q1_0 := X.2.1 0 _ rfl; have q1_1 := X.2.1 1 _ rfl; have Q1 := Sec.mk X; clear X hb1))
    go_ret
    exact ⟨rb hd.out.symm, B1.out⟩
set_option maxHeartbeats 2000000 in
theorem eqSClause_c (v u : Value) (t s : List Clause) (ok ok' : Nat → Prop) (w : World) (hV : kClause.V w ok v t) (hU : kClause.V w ok' u s) :
    Calls Tryz.prog 19 #[v, u] w fun e w' => e = .returned (.bool (decide (t = s))) ∧ Below w.heap.size w w' := by
  obtain ⟨A, c, rfl, h1, h2, h3, hC, _⟩ := hV
  obtain ⟨B, d, rfl, k1, k2, k3, hD, _⟩ := hU
  have HC := Sec.mk hC
  have HD := Sec.mk hD
  clear hC hD
  have hu := Tryz.underlying59
  by_cases hl : t.length = s.length
  · rw [← hl]
    have HL := Sec.mk hl
    clear hl
    go_enter Tryz.func19, Tryz.ntmps19
    go_wp2
    go_loopw [5] (fun i wr => ∃ k : Nat, k ≤ t.length ∧ i = .int .i64 k ∧ Sec (t.take k = s.take k) ∧ Sec (Below w.heap.size w wr)) (fun i _ => t.length - (intOf i).toNat)
    case atStart => exact ⟨0, Nat.zero_le _, rfl, ⟨by simp⟩, ⟨Below.refl _ _⟩⟩
    case round =>
      obtain ⟨k, hk, rfl, hT, hb⟩ := hrel
      by_cases hlt : k < t.length
      · have hlt2 : k < s.length := by have := HL.out; omega
        obtain ⟨b, off, cs, rfl, hob, hK, hc⟩ := Kd.C_get HC.out (List.getElem?_eq_getElem hlt)
        obtain ⟨b2, off2, cs2, rfl, hob2, hK2, hc2⟩ := Kd.C_get HD.out (List.getElem?_eq_getElem hlt2)
        have hT1 : Sec (t[k] = s[k] → t.take (k + 1) = s.take (k + 1)) := ⟨fun e => by rw [List.take_succ_eq_append_getElem hlt, List.take_succ_eq_append_getElem hlt2, hT.out, e]⟩
        have hT2 : Sec (t = s → t[k] = s[k]) := ⟨fun e => by subst e; rfl⟩
        generalize t[k] = x at *
        generalize s[k] = y at *
        have HK := Sec.mk hK
        have HK2 := Sec.mk hK2
        obtain ⟨v0, v1, rfl, -, -⟩ := kClause_K hK
        obtain ⟨u0, u1, rfl, -, -⟩ := kClause_K hK2
        have hat : Sec (∀ W : World, Below w.heap.size w W → W.cell? ⟨b, off + k * 2, none⟩ = some (v0) ∧ W.cell? ⟨b, off + k * 2 + 1, none⟩ = some (v1) ∧ W.cell? ⟨b2, off2 + k * 2, none⟩ = some (u0) ∧ W.cell? ⟨b2, off2 + k * 2 + 1, none⟩ = some (u1)) := ⟨fun W h => ⟨Raw.cell_below h (hc 0 _ rfl), Raw.cell_below h (hc 1 _ rfl), Raw.cell_below h (hc2 0 _ rfl), Raw.cell_below h (hc2 1 _ rfl)⟩⟩
        clear hc hc2 hK hK2
        obtain ⟨x0, x1, y0, y1⟩ := hat.out _ hb.out
        have i0 : (0 : Int) ≤ (k : Int) := by omega
        have i1 : (k : Int) < (t.length : Int) := by omega
        obtain ⟨bb, hbb⟩ : ∃ bb, decide (x = y) = bb := ⟨_, rfl⟩
        have Hc : Sec (∀ W, Below w.heap.size w W → Calls Tryz.prog 40 #[.agg #[v0, v1], .agg #[u0, u1]] W fun e w' => e = .returned (.bool bb) ∧ Below W.heap.size W w') := ⟨fun W hB => by rw [← hbb]; exact eqPrgClause_c x y _ _ ok ok' W (Kd.K_below HK.out hB) (Kd.K_below HK2.out hB)⟩
        have HBB := Sec.mk hbb
        clear hbb
        go_wp2
        go_region_held3 (fun W => W.cell? ⟨b, off + k * 2, none⟩ = some (v0) ∧ W.cell? ⟨b, off + k * 2 + 1, none⟩ = some (v1) ∧ W.cell? ⟨b2, off2 + k * 2, none⟩ = some (u0) ∧ W.cell? ⟨b2, off2 + k * 2 + 1, none⟩ = some (u1))
          (first | (refine ⟨?_, ?_, ?_, ?_⟩ <;> assumption) | go_keep)
          (first | (go_at_call 40; refine (Hc.out _ (belD hb.out)).mono ?_; rintro e w1 ⟨rfl, hb1⟩; have B1 := Sec.mk (bel (belD hb.out) hb1); clear x0 x1 y0 y1; obtain ⟨x0, x1, y0, y1⟩ := hat.out _ B1.out; clear hb1))
        all_goals
          cases bb with
          | true =>
            have HE : Sec (t.take (k + 1) = s.take (k + 1)) := ⟨hT1.out (of_decide_eq_true HBB.out)⟩
            go_wp2
            go_roundw
            case rel => exact ⟨k + 1, by omega, by go_num, HE, B1⟩
            case measure => simp [intOf]; omega
          | false =>
            have HE : Sec (decide (t = s) = false) := ⟨decide_eq_false (fun e => of_decide_eq_false HBB.out (hT2.out e))⟩
            go_wp2
            go_ret
            exact ⟨rb HE.out.symm, B1.out⟩
      · have HE : Sec (decide (t = s) = true) := ⟨decide_eq_true (by have := hT.out; have h2 := HL.out; rwa [List.take_of_length_le (by omega), List.take_of_length_le (by omega)] at this)⟩
        go_wp2
        go_ret
        exact ⟨rb HE.out.symm, hb.out⟩
  · have hl' : ((t.length : Int) == (s.length : Int)) = false := beq_eq_false_iff_ne.2 (by omega)
    have HE : Sec (decide (t = s) = false) := ⟨decide_eq_false (fun e => hl (by rw [e]))⟩
    go_enter Tryz.func19, Tryz.ntmps19
    go_wp2
    go_ret
    exact ⟨rb HE.out.symm, Below.refl _ _⟩
def mClause : Mk Clause := ⟨fun x => mCell.cnts x.head + mGoal.cnts x.body, fun x k => ⟨mCell.mks x.head (k), mGoal.mks x.body (k + ((mCell.cnts x.head : Nat) : Int))⟩⟩
theorem mClause_cnt (x : Clause) : mClause.cnt x = mCell.cnts x.head + mGoal.cnts x.body := rfl
set_option maxHeartbeats 2000000 in
theorem markSClause_c (v : Value) (t : List Clause) (S : Nat → Prop) (k : Int) (hk : 0 ≤ k) (hk2 : k + mClause.cnts t ≤ 1000000000000000000) (w : World) (hR : kClause.R w S v t) :
    Calls Tryz.prog 21 #[v, .int .i64 k] w fun e w' => e = .returned (.int .i64 (k + mClause.cnts t)) ∧ kClause.R w' S v (mClause.mks t k) ∧ Foot S w w' := by
  obtain ⟨A, cp, hv, g1, g2⟩ := Kd.R_form hR
  subst hv
  have h3 : t.length ≤ 1073741824 := hR.1
  have HR := Sec.mk hR
  have hu := Tryz.underlying59
  clear hR
  have HN := Sec.mk (mClause.cnts_take t)
  have HM := Sec.mk (mClause.cnts_le t)
  have HX := Sec.mk (mClause.next t k)
  go_enter Tryz.func21, Tryz.ntmps21
  go_wp2
  go_loopw [1, 5] (fun kv iv wr => ∃ i : Nat, i ≤ t.length ∧ iv = .int .i64 i ∧ kv = .int .i64 (k + ↑(mClause.cnts (t.take i))) ∧ Sec (kClause.R wr S (.slice A t.length cp) (mClause.mks (t.take i) k ++ t.drop i)) ∧ Sec (Foot S w wr)) (fun _ iv _ => t.length - (intOf iv).toNat)
  case atStart => exact ⟨0, Nat.zero_le _, rfl, by simp [Mk.cnts], ⟨by simpa [Mk.mks] using HR.out⟩, ⟨Foot.refl _ _⟩⟩
  case round =>
    obtain ⟨i, hi, rfl, rfl, hM, hF⟩ := hrel
    by_cases hlt : i < t.length
    · have hL : (mClause.mks (t.take i) k ++ t.drop i).length = t.length := mClause.len_ t k i
      have hil : i < (mClause.mks (t.take i) k ++ t.drop i).length := by omega
      obtain ⟨b, rfl, -, hSb, hbb, -⟩ := Kd.R_block hM.out (by omega)
      obtain ⟨cs, hA, -⟩ := Kd.At.of_R hM.out hil
      rw [mClause.at_ t k i hlt] at hA
      have hnext := Sec.mk (HX.out i hlt)
      have hn1 := HN.out i hlt
      have hn2 := HM.out (i + 1)
      rw [hn1] at hn2
      have HN1 := Sec.mk hn1
      have F0 := hF
      clear hM hn1 hL
      generalize mClause.mks (t.take i) k ++ t.drop i = L at *
      generalize t[i] = x at *
      generalize mClause.cnts (t.take i) = c at *
      have hcx : Sec (mClause.cnt x = _) := ⟨mClause_cnt x⟩
      rw [mClause_cnt x] at hn2
      have hAt := hA
      obtain ⟨v0, v1, rfl, -, -⟩ := kClause_K hA.K
      have A0 := Sec.mk hA
      clear hA hAt
      have c0_0 : wr.cell? ⟨b, i * 2, none⟩ = some (v0) := Kd.At.cell A0.out 0 _ rfl
      have c0_1 : wr.cell? ⟨b, i * 2 + 1, none⟩ = some (v1) := Kd.At.cell A0.out 1 _ rfl
      have f0_0 : wr.frozen? ⟨b, i * 2, none⟩ = false := Kd.At.frozen A0.out (i * 2)
      have f0_1 : wr.frozen? ⟨b, i * 2 + 1, none⟩ = false := Kd.At.frozen A0.out (i * 2 + 1)
      obtain ⟨S0, r0, hs0, bk0⟩ := Kd.At.sub A0.out kClause_f_head (v := v0) rfl
      have SR0 := Sec.mk r0
      have SS0 := Sec.mk hs0
      have BK0 := Sec.mk bk0
      clear r0 hs0 bk0
      have T0 : Sec True := ⟨trivial⟩
      go_wp2_with (first | (clear T1; go_at_call 43; have T2 : Sec True := ⟨trivial⟩; refine (markSGoal_c v1 x.body S1 (k + (c : Int) + ((mCell.cnts x.head : Nat) : Int)) (by omega) (by omega) _ SR1.out).mono ?_; rintro e w2 ⟨rfl, hR', hF'⟩; have A2 : Sec (Kd.At kClause w2 S b t.length cp L i ⟨(mCell.mks x.head (k + (c : Int))), (mGoal.mks x.body (k + (c : Int) + ((mCell.cnts x.head : Nat) : Int)))⟩ [v0, v1]) := ⟨BK1.out w2 _ hR' hF'⟩; have F2 : Sec (Foot S w w2) := ⟨F1.out.trans hF' (fun k _ h => (SS1.out k h).1)⟩; clear hR' hF'; clear c1_0 f1_0 c1_1 f1_1; have c2_0 : w2.cell? ⟨b, i * 2, none⟩ = some (v0) := Kd.At.cell A2.out 0 _ rfl; have c2_1 : w2.cell? ⟨b, i * 2 + 1, none⟩ = some (v1) := Kd.At.cell A2.out 1 _ rfl; have f2_0 : w2.frozen? ⟨b, i * 2, none⟩ = false := Kd.At.frozen A2.out (i * 2); have f2_1 : w2.frozen? ⟨b, i * 2 + 1, none⟩ = false := Kd.At.frozen A2.out (i * 2 + 1)) | (clear T0; go_at_call 42; have T1 : Sec True := ⟨trivial⟩; refine (markSCell_c v0 x.head S0 (k + (c : Int)) (by omega) (by omega) _ SR0.out).mono ?_; rintro e w1 ⟨rfl, hR', hF'⟩; have A1 : Sec (Kd.At kClause w1 S b t.length cp L i ⟨(mCell.mks x.head (k + (c : Int))), x.body⟩ [v0, v1]) := ⟨BK0.out w1 _ hR' hF'⟩; have F1 : Sec (Foot S w w1) := ⟨F0.out.trans hF' (fun k _ h => (SS0.out k h).1)⟩; clear hR' hF'; clear c0_0 f0_0 c0_1 f0_1; have c1_0 : w1.cell? ⟨b, i * 2, none⟩ = some (v0) := Kd.At.cell A1.out 0 _ rfl; have c1_1 : w1.cell? ⟨b, i * 2 + 1, none⟩ = some (v1) := Kd.At.cell A1.out 1 _ rfl; have f1_0 : w1.frozen? ⟨b, i * 2, none⟩ = false := Kd.At.frozen A1.out (i * 2); have f1_1 : w1.frozen? ⟨b, i * 2 + 1, none⟩ = false := Kd.At.frozen A1.out (i * 2 + 1); obtain ⟨S1, r1, hs1, bk1⟩ := Kd.At.sub A1.out kClause_f_body (v := v1) rfl; have SR1 := Sec.mk r1; have SS1 := Sec.mk hs1; have BK1 := Sec.mk bk1; clear r1 hs1 bk1))
      go_roundw
      case rel => exact ⟨i + 1, by omega, by go_num, by rw [HN1.out, hcx.out]; congr 1; omega, ⟨by rw [← hnext.out]; exact A2.out.R⟩, F2⟩
      case measure => simp [intOf]; omega
    · have hfin : Sec (mClause.mks (t.take i) k ++ t.drop i = mClause.mks t k) := ⟨by rw [List.take_of_length_le (by omega), List.drop_of_length_le (by omega), List.append_nil]⟩
      have hM2 := hM.out
      rw [hfin.out] at hM2
      have HM2 := Sec.mk hM2
      have hi2 : Sec (k + ↑(mClause.cnts (t.take i)) = k + ↑(mClause.cnts t)) := ⟨by rw [List.take_of_length_le (by omega)]⟩
      clear hM2 hM hfin
      go_wp2
      go_ret
      exact ⟨ri hi2.out, HM2.out, hF.out⟩
set_option maxHeartbeats 2000000 in
theorem heldSClause_c (v : Value) (t : List Clause) (ok : Nat → Prop) (k : Int) (hk : 0 ≤ k) (hk2 : k + mClause.cnts t ≤ 1000000000000000000) (w : World) (hV : kClause.V w ok v (mClause.mks t k)) :
    Calls Tryz.prog 23 #[v, .int .i64 k] w fun e w' => e = .returned (.int .i64 (k + mClause.cnts t)) ∧ Below w.heap.size w w' := by
  obtain ⟨A, cp, rfl, g1, g2, g3, hC, _⟩ := hV
  rw [Mk.mks_len] at g1 g3
  rw [Mk.mks_len]
  have HC := Sec.mk hC
  have hu := Tryz.underlying59
  clear hC
  have HN := Sec.mk (mClause.cnts_take t)
  have HM := Sec.mk (mClause.cnts_le t)
  have HG := Sec.mk (mClause.get t k)
  have HLn := Sec.mk (mClause.mks_len t k)
  go_enter Tryz.func23, Tryz.ntmps23
  go_wp2
  go_loopw [1, 5] (fun kv iv wr => ∃ i : Nat, i ≤ t.length ∧ iv = .int .i64 i ∧ kv = .int .i64 (k + ↑(mClause.cnts (t.take i))) ∧ Sec (Below w.heap.size w wr)) (fun _ iv _ => t.length - (intOf iv).toNat)
  case atStart => exact ⟨0, Nat.zero_le _, rfl, by simp [Mk.cnts], ⟨Below.refl _ _⟩⟩
  case round =>
    obtain ⟨i, hi, rfl, rfl, hb⟩ := hrel
    by_cases hlt : i < t.length
    · obtain ⟨b, off, cs, rfl, hob, hK, hc⟩ := Kd.C_get HC.out (List.getElem?_eq_getElem (by rw [HLn.out]; exact hlt))
      rw [HG.out i hlt] at hK
      have hn1 := HN.out i hlt
      have hn2 := HM.out (i + 1)
      rw [hn1] at hn2
      have HN1 := Sec.mk hn1
      clear hn1
      generalize t[i] = x at *
      generalize mClause.cnts (t.take i) = c at *
      have hcx : Sec (mClause.cnt x = _) := ⟨mClause_cnt x⟩
      rw [mClause_cnt x] at hn2
      obtain ⟨v0, v1, rfl, h0, h1⟩ := kClause_K hK
      have hat : Sec (∀ W : World, Below w.heap.size w W → W.cell? ⟨b, off + i * 2, none⟩ = some (v0) ∧ W.cell? ⟨b, off + i * 2 + 1, none⟩ = some (v1)) := ⟨fun W h => ⟨Raw.cell_below h (hc 0 _ rfl), Raw.cell_below h (hc 1 _ rfl)⟩⟩
      have i0 : (0 : Int) ≤ (i : Int) := by omega
      have i1 : (i : Int) < (t.length : Int) := by omega
      have H0 : Sec (kCell.V w ok v0 (mCell.mks x.head (k + (c : Int)))) := ⟨h0⟩
      clear h0
      have H1 : Sec (kGoal.V w ok v1 (mGoal.mks x.body (k + (c : Int) + ((mCell.cnts x.head : Nat) : Int)))) := ⟨h1⟩
      clear h1
      clear hc hK
      obtain ⟨c0, c1⟩ := hat.out _ hb.out
      have B0 := hb
      have T0 : Sec True := ⟨trivial⟩
      go_wp2_with (first | (clear T1; go_at_call 46; have T2 : Sec True := ⟨trivial⟩; refine (heldSGoal_c v1 x.body ok (k + (c : Int) + ((mCell.cnts x.head : Nat) : Int)) (by omega) (by omega) _ (Kd.V_below H1.out B1.out (by decide))).mono ?_; rintro e w2 ⟨rfl, hb1⟩; have B2 := Sec.mk (bel B1.out hb1); clear hb1 c0 c1; obtain ⟨c0, c1⟩ := hat.out _ B2.out) | (clear T0; go_at_call 45; have T1 : Sec True := ⟨trivial⟩; refine (heldSCell_c v0 x.head ok (k + (c : Int)) (by omega) (by omega) _ (Kd.V_below H0.out B0.out (by decide))).mono ?_; rintro e w1 ⟨rfl, hb1⟩; have B1 := Sec.mk (bel B0.out hb1); clear hb1 c0 c1; obtain ⟨c0, c1⟩ := hat.out _ B1.out))
      go_roundw
      case rel => exact ⟨i + 1, by omega, by go_num, by rw [HN1.out, hcx.out]; congr 1; omega, B2⟩
      case measure => simp [intOf]; omega
    · have hi2 : Sec (k + ↑(mClause.cnts (t.take i)) = k + ↑(mClause.cnts t)) := ⟨by rw [List.take_of_length_le (by omega)]⟩
      go_wp2
      go_ret
      exact ⟨ri hi2.out, hb.out⟩
def mClauset : Mk Clause := ⟨fun x => mCell.cnts x.head + mGoal.cnts x.body, fun x k => ⟨mCell.mks x.head (k), mGoal.mks x.body (k + ((mCell.cnts x.head : Nat) : Int))⟩⟩
theorem mClauset_cnt (x : Clause) : mClauset.cnt x = mCell.cnts x.head + mGoal.cnts x.body := rfl
theorem rClause_le6 (x : Clause) : mClause.cnt x ≤ 8 + 8 * rClause.wt x := by
  rw [mClause_cnt]; rw [rClause_wt]; have := Mk.cnts_le6 rCell_le6 x.head; have := Mk.cnts_le6 rGoal_le6 x.body; omega
theorem rClause_tle (x : Clause) : mClauset.cnt x ≤ 8 * rClause.wt x := by
  rw [mClauset_cnt, rClause_wt]; have := Mk.cnts_le6 rCell_le6 x.head; have := Mk.cnts_le6 rGoal_le6 x.body; omega
end Go.Proofs.YtenigopoknajgaaGreatDoor
