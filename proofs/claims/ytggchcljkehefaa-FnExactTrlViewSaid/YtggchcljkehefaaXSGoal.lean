/- What the exact laws' own functions do with the type SlvGoal: turned, sized, compared, marked, held. -/
import Derived.Test.YtggchcljkehefaaXCell
import Derived.Test.YtggchcljkehefaaXGoal
namespace Go.Proofs.Ytggchcljkehefaa
open Go.RowKit
set_option linter.unusedVariables false
set_option maxRecDepth 100000
def kSGoal : Kd SGoal := Kd.iso 96 (Kd.pair kGoal (Kd.int 3)) (fun x => (x.goal, x.cut))
theorem kSGoal_K {w : World} {ok : Nat → Prop} {x : SGoal} {cs : List Value} (h : kSGoal.K w ok x cs) : ∃ v1 v2 v3, cs = [.int .i64 x.goal.kind, v1, v2, v3, .int .i64 x.cut] ∧ kCell.V w ok v1 x.goal.a ∧ kCell.V w ok v2 x.goal.b ∧ kCell.V w ok v3 x.goal.c := by
  obtain ⟨_, _, rfl, g0, ⟨rfl, _⟩⟩ := h
  obtain ⟨v1, v2, v3, rfl, h1, h2, h3⟩ := kGoal_K g0
  exact ⟨v1, v2, v3, rfl, h1, h2, h3⟩
def rSGoal : Raw SGoal := Raw.iso 81 (Raw.pair rGoal (Raw.int 3)) (fun x => (x.goal, x.cut))
theorem rSGoal_K {w : World} {x : SGoal} {cs : List Value} (h : rSGoal.K w x cs) : ∃ v1 v2 v3, cs = [.int .i64 x.goal.kind, v1, v2, v3, .int .i64 x.cut] ∧ rCell.V w v1 x.goal.a ∧ rCell.V w v2 x.goal.b ∧ rCell.V w v3 x.goal.c := by
  obtain ⟨_, _, rfl, g0, ⟨rfl, _⟩⟩ := h
  obtain ⟨v1, v2, v3, rfl, h1, h2, h3⟩ := rGoal_K g0
  exact ⟨v1, v2, v3, rfl, h1, h2, h3⟩
theorem rSGoal_mono : Raw.Mono rSGoal := Raw.mono_iso (Raw.mono_pair rGoal_mono Raw.mono_scalar)
theorem rSGoal_wt (x : SGoal) : rSGoal.wt x = (HAdd.hAdd (rGoal.wt x.goal) 0) := rfl
theorem rSGoal_fits : Raw.Fits rSGoal kSGoal := Raw.fits_iso (Raw.fits_pair rGoal_fits (Raw.fits_int _ _)) _ _ _
theorem rSGoal_opn : Raw.Opn Try.prog rSGoal := Raw.opn_struct Try.underlying81 (by kernel_rfl) (fun b => ⟨⟨b.1, b.2⟩, rfl⟩) (Raw.opnF_cons rGoal_opn rfl rfl (by kernel_rfl) (by decide) (Raw.opnF_last (Raw.opn_int Try.underlying3) rfl rfl (by kernel_rfl) (by decide)))
theorem SGoal.ext_iff (a b : SGoal) : a = b ↔ a.goal = b.goal ∧ a.cut = b.cut := by
  cases a; cases b; simp
instance : DecidableEq SGoal := fun a b => decidable_of_iff _ (SGoal.ext_iff a b).symm
def zeroSGoal : SGoal := ⟨⟨0, [], [], []⟩, 0⟩
theorem kSGoal_zero (w : World) : kSGoal.O w (fun _ => False) zeroSGoal [.int .i64 0, .slice none 0 0, .slice none 0 0, .slice none 0 0, .int .i64 0] := (Kd.O_pair0 (d := kGoal) (e := (Kd.int 3)) (kGoal_zero w) ⟨rfl, trivial⟩)
theorem kSGoal_f_goal : Kd.Fld kSGoal kGoal 0 (fun x => x.goal) (fun x y => { x with goal := y }) := Kd.Fld.iso _ (Kd.Fld.fst (Kd.Fld.self _)) (fun _ _ => rfl)
theorem kSGoal_f_goal_kind : Kd.Fld kSGoal (Kd.int 3) 0 (fun x => x.goal.kind) (fun x y => { x with goal := { x.goal with kind := y } }) := Kd.Fld.comp kSGoal_f_goal kGoal_f_kind
theorem kSGoal_f_goal_a : Kd.Fld kSGoal (Kd.slice 29 kCell (by decide)) 1 (fun x => x.goal.a) (fun x y => { x with goal := { x.goal with a := y } }) := Kd.Fld.comp kSGoal_f_goal kGoal_f_a
theorem kSGoal_f_goal_b : Kd.Fld kSGoal (Kd.slice 29 kCell (by decide)) 2 (fun x => x.goal.b) (fun x y => { x with goal := { x.goal with b := y } }) := Kd.Fld.comp kSGoal_f_goal kGoal_f_b
theorem kSGoal_f_goal_c : Kd.Fld kSGoal (Kd.slice 29 kCell (by decide)) 3 (fun x => x.goal.c) (fun x y => { x with goal := { x.goal with c := y } }) := Kd.Fld.comp kSGoal_f_goal kGoal_f_c
theorem kSGoal_f_cut : Kd.Fld kSGoal (Kd.int 3) 4 (fun x => x.cut) (fun x y => { x with cut := y }) := Kd.Fld.iso _ (Kd.Fld.snd (Kd.Fld.self _)) (fun _ _ => rfl)
theorem szSlvGoal_c (x : SGoal) (cs : List Value) (left : Nat) (hl : left ≤ 1048576) (w : World) (hK : rSGoal.K w x cs) :
    Calls Try.prog 48 #[.agg cs.toArray, .int .i64 left] w fun e w' => e = .returned (.int .i64 (Raw.spent (rSGoal.wt x) left)) ∧ Below w.heap.size w w' := by
  obtain ⟨_, _, rfl, g0, ⟨rfl, _⟩⟩ := hK
  have H0 := Sec.mk g0
  obtain ⟨v1, v2, v3, rfl, -, -, -⟩ := rGoal_K g0
  have hu := Try.underlying81
  have hb0 := hl
  have T0 : Sec True := ⟨trivial⟩
  by_cases e0 : rGoal.wt x.goal ≤ left
  · have s0 := Raw.spent_le e0
    have L0 := Sec.mk (show (left - rGoal.wt x.goal) + rGoal.wt x.goal = left by omega)
    have hb1 : left - rGoal.wt x.goal ≤ 1048576 := by omega
    generalize left - rGoal.wt x.goal = l0 at *
    have n0 : ¬ ((l0 : Int) < 0) := by omega
    have hfin : Sec ((l0 : Int) = Raw.spent (rSGoal.wt x) left) := ⟨by rw [Raw.spent_le (by rw [rSGoal_wt]; have := L0.out; omega), rSGoal_wt]; have := L0.out; omega⟩
    go_enter Try.func48, Try.ntmps48
    go_wp2_with (first | (clear T0; go_at_call 66; have T1 : Sec True := ⟨trivial⟩; refine (szPrgGoal_c x.goal _ left hb0 _ (rGoal_mono _ _ _ _ (belA (Below.refl _ _) _) H0.out)).mono ?_; rintro e w1 ⟨rfl, hb1⟩; rw [s0]; have B0 := Sec.mk (bel (belA (Below.refl _ _) _) hb1); have Q := box_cells hb1 (box1 _ _); have P0 := Sec.mk Q; clear Q hb1))
    go_ret
    exact ⟨ri hfin.out, B0.out⟩
  · have s0 := Raw.spent_gt e0
    have hfin : Sec (Raw.spent (rSGoal.wt x) left = -1) := ⟨Raw.spent_gt (by rw [rSGoal_wt]; omega)⟩
    go_enter Try.func48, Try.ntmps48
    go_wp2_with (first | (clear T0; go_at_call 66; have T1 : Sec True := ⟨trivial⟩; refine (szPrgGoal_c x.goal _ left hb0 _ (rGoal_mono _ _ _ _ (belA (Below.refl _ _) _) H0.out)).mono ?_; rintro e w1 ⟨rfl, hb1⟩; rw [s0]; have B0 := Sec.mk (bel (belA (Below.refl _ _) _) hb1); have Q := box_cells hb1 (box1 _ _); have P0 := Sec.mk Q; clear Q hb1))
    go_ret
    exact ⟨ri hfin.out.symm, B0.out⟩
set_option maxHeartbeats 1000000 in
theorem szSSGoal_c (v : Value) (t : List SGoal) (left : Nat) (hl : left ≤ 1048576) (w : World) (hV : rSGoal.V w v t) :
    Calls Try.prog 19 #[v, .int .i64 left] w fun e w' => e = .returned (.int .i64 (Raw.spent (rSGoal.wts t) left)) ∧ Below w.heap.size w w' := by
  obtain ⟨A, c, rfl, h1, h2, hC, _⟩ := hV
  have HC := Sec.mk hC
  clear hC
  have h3 : t.length ≤ 9223372036854775807 := by have : c ≤ 9223372036854775807 := by simpa [maxLen] using h2
                                                 omega
  have hu2 := Try.underlying81
  by_cases hlen : t.length ≤ left
  · obtain ⟨l1, hl1⟩ : ∃ l1 : Nat, (left : Int) - t.length = l1 := ⟨left - t.length, by omega⟩
    have hl2 : l1 + t.length = left := by omega
    have HL := Sec.mk hl1
    have HS : Sec (∀ (k : Nat) (hk : k < t.length), ((t.take (k + 1)).map rSGoal.wt).sum = ((t.take k).map rSGoal.wt).sum + rSGoal.wt t[k] ∧ ((t.take (k + 1)).map rSGoal.wt).sum ≤ (t.map rSGoal.wt).sum) := ⟨fun k hk => ⟨Raw.wts_take _ _ _ hk, Raw.wts_take_le _ _ _⟩⟩
    go_enter Try.func19, Try.ntmps19
    go_wp2
    go_loopw [1, 5] (fun l i wr => ∃ k m : Nat, k ≤ t.length ∧ i = .int .i64 k ∧ l = .int .i64 m ∧ m ≤ 1048576 ∧ Sec (m + ((t.take k).map rSGoal.wt).sum = l1) ∧ Sec (Below w.heap.size w wr)) (fun _ i _ => t.length - (intOf i).toNat)
    case atStart => exact ⟨0, l1, Nat.zero_le _, rfl, rfl, by omega, ⟨by simp⟩, ⟨Below.refl _ _⟩⟩
    case round =>
      obtain ⟨k, m, hk, rfl, rfl, hm, hM, hb⟩ := hrel
      by_cases hlt : k < t.length
      · obtain ⟨b, off, cs, rfl, hK, hc⟩ := Raw.C_get HC.out k hlt
        obtain ⟨s1, s2⟩ := HS.out k hlt
        have S1 := Sec.mk s1
        have S2 := Sec.mk s2
        clear s1 s2
        generalize t[k] = x at *
        have HK := Sec.mk hK
        obtain ⟨v1, v2, v3, rfl, -, -, -⟩ := rSGoal_K hK
        have c0 : wr.cell? ⟨b, off + k * 5, none⟩ = some (.int .i64 x.goal.kind) := Raw.cell_below hb.out (hc 0 _ rfl)
        have c1 : wr.cell? ⟨b, off + k * 5 + 1, none⟩ = some (v1) := Raw.cell_below hb.out (hc 1 _ rfl)
        have c2 : wr.cell? ⟨b, off + k * 5 + 2, none⟩ = some (v2) := Raw.cell_below hb.out (hc 2 _ rfl)
        have c3 : wr.cell? ⟨b, off + k * 5 + 3, none⟩ = some (v3) := Raw.cell_below hb.out (hc 3 _ rfl)
        have c4 : wr.cell? ⟨b, off + k * 5 + 4, none⟩ = some (.int .i64 x.cut) := Raw.cell_below hb.out (hc 4 _ rfl)
        clear hc hK
        by_cases hx : rSGoal.wt x ≤ m
        · have e1 := Raw.spent_le hx
          have e2 : ¬ (((m - rSGoal.wt x : Nat) : Int) < 0) := by omega
          generalize hm2 : m - rSGoal.wt x = m2 at *
          have HM2 : Sec (m2 + ((t.take (k + 1)).map rSGoal.wt).sum = l1) := ⟨by rw [S1.out]; have := hM.out; omega⟩
          have hm3 : m2 ≤ 1048576 := by omega
          clear hm2
          go_wp2_with (go_at_call 48; refine (szSlvGoal_c x _ m hm wr (rSGoal_mono _ _ _ _ hb.out HK.out)).mono ?_; rintro e w1 ⟨rfl, hb1⟩; have B1 := Sec.mk (bel hb.out hb1); rw [e1]; clear c0 c1 c2 c3 c4)
          go_roundw
          case rel => exact ⟨k + 1, m2, by omega, by go_num, rfl, hm3, HM2, B1⟩
          case measure => simp [intOf]; omega
        · have e1 := Raw.spent_gt hx
          have hfin : Sec (Raw.spent (rSGoal.wts t) left = -1) := ⟨Raw.spent_gt (by unfold Raw.wts; have := S1.out; have := S2.out; have := hM.out; omega)⟩
          go_wp2_with (go_at_call 48; refine (szSlvGoal_c x _ m hm wr (rSGoal_mono _ _ _ _ hb.out HK.out)).mono ?_; rintro e w1 ⟨rfl, hb1⟩; have B1 := Sec.mk (bel hb.out hb1); rw [e1]; clear c0 c1 c2 c3 c4)
          go_ret
          exact ⟨ri hfin.out.symm, B1.out⟩
      · have hfin : Sec ((m : Int) = Raw.spent (rSGoal.wts t) left) := ⟨by
          have h1 := hM.out
          rw [List.take_of_length_le (by omega)] at h1
          rw [Raw.spent_le (by unfold Raw.wts; omega)]
          unfold Raw.wts
          omega⟩
        go_wp2
        go_ret
        exact ⟨ri hfin.out, hb.out⟩
  · have hfin : Sec (Raw.spent (rSGoal.wts t) left = -1) := ⟨Raw.spent_gt (by unfold Raw.wts; omega)⟩
    go_enter Try.func19, Try.ntmps19
    go_wp2
    go_ret
    exact ⟨ri hfin.out.symm, Below.refl _ _⟩
set_option maxHeartbeats 1000000 in
theorem toSlvGoal_c (x : SGoal) (cs : List Value) (ok : Nat → Prop) (w : World) (hK : kSGoal.K w ok x cs) :
    Calls Try.prog 54 #[.agg cs.toArray] w fun e w' => ∃ c : List Value, e = .returned (.agg c.toArray) ∧ kSGoal.O w' (fun k => w.heap.size ≤ k) x c ∧ Below w.heap.size w w' := by
  obtain ⟨_, _, rfl, g0, ⟨rfl, _⟩⟩ := hK
  have H0 := Sec.mk g0
  obtain ⟨v1, v2, v3, rfl, -, -, -⟩ := kGoal_K g0
  have hu := Try.underlying81
  have hu2 := Try.underlying96
  have T0 : Sec True := ⟨trivial⟩
  go_enter Try.func54, Try.ntmps54
  go_wp2_with (first | (clear T0; go_at_call 68; have T1 : Sec True := ⟨trivial⟩; refine (toPrgGoal_c x.goal _ ok _ (Kd.K_below H0.out (belA (belA (belA (Below.refl _ _) _) _) _))).mono ?_; rintro e w1 ⟨d0, rfl, hR, hb1⟩; obtain ⟨u1, u2, u3, rfl, k1, k2, k3⟩ := kGoal_K (Kd.O_K _ hR); obtain ⟨A1, n1, rfl, -⟩ := k1; obtain ⟨A2, n2, rfl, -⟩ := k2; obtain ⟨A3, n3, rfl, -⟩ := k3; have Z1 : w.heap.size + 3 ≤ w1.heap.size := (by have := hb1.size; simp at this; omega); have R1 := Sec.mk (Kd.O_mono (S1 := fun k => w.heap.size + 3 ≤ k ∧ k < w1.heap.size) hR (fun k h1 h2 => ⟨by simp at h1; omega, h2⟩)); have G1 := Sec.mk (Foot.call ((((Foot.refl (Own w 3) w).alloc _).alloc _).alloc _) hb1); have B1 := Sec.mk (bel (belA (belA (belA (Below.refl _ _) _) _) _) hb1); have X := box_cells (b := w.heap.size) (cs := #[.int .i64 x.goal.kind, v1, v2, v3, .int .i64 x.cut]) (t := 81) hb1 (box3 _ _ _ _).1; have p1_0 := X.2.1 0 _ rfl; have p1_1 := X.2.1 1 _ rfl; have p1_2 := X.2.1 2 _ rfl; have p1_3 := X.2.1 3 _ rfl; have p1_4 := X.2.1 4 _ rfl; have P1 := Sec.mk X; clear X; have X := box_cells (b := w.heap.size + 1) (cs := #[.int .i64 0, .slice none 0 0, .slice none 0 0, .slice none 0 0, .int .i64 0]) (t := 96) hb1 (box3 _ _ _ _).2.1; have q1_0 := X.2.1 0 _ rfl; have qf1_0 := X.2.2 0; have q1_1 := X.2.1 1 _ rfl; have qf1_1 := X.2.2 1; have q1_2 := X.2.1 2 _ rfl; have qf1_2 := X.2.2 2; have q1_3 := X.2.1 3 _ rfl; have qf1_3 := X.2.2 3; have q1_4 := X.2.1 4 _ rfl; have qf1_4 := X.2.2 4; have Q1 := Sec.mk X; clear X; have X := box_cells (b := w.heap.size + 1 + 1) (cs := #[.int .i64 0, .slice none 0 0, .slice none 0 0, .slice none 0 0, .int .i64 0]) (t := 96) hb1 (box3 _ _ _ _).2.2; have o1_0 := X.2.1 0 _ rfl; have of1_0 := X.2.2 0; have o1_1 := X.2.1 1 _ rfl; have of1_1 := X.2.2 1; have o1_2 := X.2.1 2 _ rfl; have of1_2 := X.2.2 2; have o1_3 := X.2.1 3 _ rfl; have of1_3 := X.2.2 3; have o1_4 := X.2.1 4 _ rfl; have of1_4 := X.2.2 4; have O1 := Sec.mk X; clear X; clear hb1 hR))
  refine bodyPost_ret (v := .agg #[.int .i64 x.goal.kind, .slice A1 x.goal.a.length n1, .slice A2 x.goal.b.length n2, .slice A3 x.goal.c.length n3, .int .i64 x.cut]) (by simp [results, Try.results54, go_sem, q1_0, q1_1, q1_2, q1_3, q1_4]) rfl ⟨[.int .i64 x.goal.kind, .slice A1 x.goal.a.length n1, .slice A2 x.goal.b.length n2, .slice A3 x.goal.c.length n3, .int .i64 x.cut], rfl, ?_, ?_⟩
  rotate_left
  · refine Foot.own (n := 3) (Foot.trans (S' := Own w 3) G1.out ?_ (fun _ _ h => h))
    exact (Foot.set (Foot.set (Foot.set (Foot.set (Foot.set (Foot.set (Foot.set (Foot.set (Foot.set (Foot.set (Foot.refl _ _) (.inl ⟨by omega, by omega⟩) _ _) (.inl ⟨by omega, by omega⟩) _ _) (.inl ⟨by omega, by omega⟩) _ _) (.inl ⟨by omega, by omega⟩) _ _) (.inl ⟨by omega, by omega⟩) _ _) (.inl ⟨by omega, by omega⟩) _ _) (.inl ⟨by omega, by omega⟩) _ _) (.inl ⟨by omega, by omega⟩) _ _) (.inl ⟨by omega, by omega⟩) _ _) (.inl ⟨by omega, by omega⟩) _ _)
  · have FF : ∀ W, Foot (Own w 3) w1 W → kSGoal.O W (fun k => w.heap.size ≤ k) x [.int .i64 x.goal.kind, .slice A1 x.goal.a.length n1, .slice A2 x.goal.b.length n2, .slice A3 x.goal.c.length n3, .int .i64 x.cut] := fun W FF => ?_
    · refine FF _ ?_
      exact (Foot.set (Foot.set (Foot.set (Foot.set (Foot.set (Foot.set (Foot.set (Foot.set (Foot.set (Foot.set (Foot.refl _ _) (.inl ⟨by omega, by omega⟩) _ _) (.inl ⟨by omega, by omega⟩) _ _) (.inl ⟨by omega, by omega⟩) _ _) (.inl ⟨by omega, by omega⟩) _ _) (.inl ⟨by omega, by omega⟩) _ _) (.inl ⟨by omega, by omega⟩) _ _) (.inl ⟨by omega, by omega⟩) _ _) (.inl ⟨by omega, by omega⟩) _ _) (.inl ⟨by omega, by omega⟩) _ _) (.inl ⟨by omega, by omega⟩) _ _)
    · exact (Kd.O_stack (d := kGoal) (e := (Kd.int 3)) (n0 := w.heap.size) (n1 := w1.heap.size) (Kd.O_mono (Foot.O FF R1.out (fun k h1 h2 => by have := h1.1; have := h2.2; omega)) (fun k h _ => by have := h.1; have := h.2; omega)) ⟨rfl, trivial⟩ (by omega))
set_option maxHeartbeats 1000000 in
theorem toSSGoal_c (v : Value) (t : List SGoal) (ok : Nat → Prop) (w : World) (hV : kSGoal.V w ok v t) :
    Calls Try.prog 24 #[v] w fun e w' => ∃ u, e = .returned u ∧ kSGoal.R w' (fun k => w.heap.size ≤ k) u t ∧ Below w.heap.size w w' := by
  obtain ⟨A, c, rfl, h1, h2, h3, hC, _⟩ := hV
  have HC := Sec.mk hC
  clear hC
  have hu := Try.underlying96
  have hu2 := Try.underlying81
  have hmk := made (P := Try.prog) 32 96 (.agg #[.int .i64 0, .slice none 0 0, .slice none 0 0, .slice none 0 0, .int .i64 0]) 5 88 Try.underlying32 (by kernel_rfl) (by decide) t.length h3
  have HM := Sec.mk (Kd.R_made (d := kSGoal) (w := w) (B := w.heap.size) (x0 := zeroSGoal) (z := #[.int .i64 0, .slice none 0 0, .slice none 0 0, .slice none 0 0, .int .i64 0]) (n := t.length) (fun w => kSGoal_zero w) rfl (Nat.le_refl _) h3)
  go_enter Try.func24, Try.ntmps24
  go_wp2
  clear hmk
  go_loopw [4] (fun i wr => ∃ k : Nat, k ≤ t.length ∧ i = .int .i64 k ∧ Sec (kSGoal.R wr (fun k => w.heap.size ≤ k) (.slice (some ⟨w.heap.size, 0, none⟩) t.length t.length) (t.take k ++ List.replicate (t.length - k) zeroSGoal)) ∧ Sec (Below w.heap.size w wr)) (fun i _ => t.length - (intOf i).toNat)
  case atStart => exact ⟨0, Nat.zero_le _, rfl, ⟨HM.out⟩, ⟨belA (Below.refl _ _) _⟩⟩
  case round =>
    obtain ⟨k, hk, rfl, hR, hb⟩ := hrel
    by_cases hlt : k < t.length
    · obtain ⟨b, off, cs, rfl, hob, hK, hc⟩ := Kd.C_get (Kd.C_below HC.out hb.out (by decide)) (List.getElem?_eq_getElem hlt)
      have hL : Sec ((t.take k ++ List.replicate (t.length - k) zeroSGoal).length = t.length) := ⟨by simp; omega⟩
      have hset : Sec ((t.take k ++ List.replicate (t.length - k) zeroSGoal).set k t[k] = t.take (k + 1) ++ List.replicate (t.length - (k + 1)) zeroSGoal) := ⟨put_next t zeroSGoal k hlt⟩
      generalize t[k] = x at *
      have HK := Sec.mk hK
      obtain ⟨v1, v2, v3, rfl, -, -, -⟩ := kSGoal_K hK
      have c0 : wr.cell? ⟨b, off + k * 5, none⟩ = some (.int .i64 x.goal.kind) := hc 0 _ rfl
      have c1 : wr.cell? ⟨b, off + k * 5 + 1, none⟩ = some (v1) := hc 1 _ rfl
      have c2 : wr.cell? ⟨b, off + k * 5 + 2, none⟩ = some (v2) := hc 2 _ rfl
      have c3 : wr.cell? ⟨b, off + k * 5 + 3, none⟩ = some (v3) := hc 3 _ rfl
      have c4 : wr.cell? ⟨b, off + k * 5 + 4, none⟩ = some (.int .i64 x.cut) := hc 4 _ rfl
      clear hc hK
      go_wp2_with (go_at_call 54; refine (toSlvGoal_c x _ ok _ HK.out).mono ?_; rintro e w1 ⟨d0, rfl, hO, hb1⟩; have HO := Sec.mk hO; obtain ⟨u1, u2, u3, rfl, k1, k2, k3⟩ := kSGoal_K (Kd.O_K _ hO); clear hO; obtain ⟨A1, n1, rfl, -⟩ := k1; obtain ⟨A2, n2, rfl, -⟩ := k2; obtain ⟨A3, n3, rfl, -⟩ := k3; have R1 := Sec.mk (Kd.R_below (Kd.R_mono hR.out (S1 := fun k => w.heap.size ≤ k ∧ k < wr.heap.size) (fun k h1 h2 => ⟨h1, h2⟩)) hb1); have B1 := Sec.mk (bel hb.out hb1); have hsz := Sec.mk hb.out.size; obtain ⟨q0, e0, f0⟩ := Kd.R_cell R1.out k 0 (by rw [hL.out]; exact hlt) (by decide); obtain ⟨q1, e1, f1⟩ := Kd.R_cell R1.out k 1 (by rw [hL.out]; exact hlt) (by decide); obtain ⟨q2, e2, f2⟩ := Kd.R_cell R1.out k 2 (by rw [hL.out]; exact hlt) (by decide); obtain ⟨q3, e3, f3⟩ := Kd.R_cell R1.out k 3 (by rw [hL.out]; exact hlt) (by decide); obtain ⟨q4, e4, f4⟩ := Kd.R_cell R1.out k 4 (by rw [hL.out]; exact hlt) (by decide); rw [show kSGoal.sz = 5 from rfl] at e0 f0 e1 f1 e2 f2 e3 f3 e4 f4; rw [Nat.add_zero] at e0 f0; have P1 := Sec.mk (Kd.R_put R1.out k (by rw [hL.out]; exact hlt) HO.out (fun k h1 h2 => absurd h2.2 (Nat.not_lt.2 h1))); have F1 := Sec.mk ((Foot.refl (fun k => w.heap.size ≤ k) w1).setCells (g := w.heap.size) (.inl (Nat.le_refl _)) [.int .i64 x.goal.kind, .slice A1 x.goal.a.length n1, .slice A2 x.goal.b.length n2, .slice A3 x.goal.c.length n3, .int .i64 x.cut] (k * 5)); clear hb1 c0 c1 c2 c3 c4)
      go_roundw
      case rel => exact ⟨k + 1, by omega, by go_num, ⟨by rw [← hset.out]; exact Kd.R_mono P1.out (fun k h _ => h.elim (fun h => h.1) (fun h => Nat.le_trans hsz.out h))⟩, ⟨F1.out.below B1.out (fun _ h => h)⟩⟩
      case measure => simp [intOf]; omega
    · have hfin : Sec (t.take k ++ List.replicate (t.length - k) zeroSGoal = t) := ⟨by rw [List.take_of_length_le (by omega), show t.length - k = 0 by omega]; simp⟩
      have hR2 := hR.out
      rw [hfin.out] at hR2
      have HR2 := Sec.mk hR2
      clear hR2 hfin hR
      go_wp2
      go_ret
      exact ⟨_, rfl, HR2.out, hb.out⟩
set_option maxHeartbeats 2000000 in
theorem eqSlvGoal_c (x y : SGoal) (cs ds : List Value) (ok ok' : Nat → Prop) (w : World) (hK : kSGoal.K w ok x cs) (hD : kSGoal.K w ok' y ds) :
    Calls Try.prog 60 #[.agg cs.toArray, .agg ds.toArray] w fun e w' => e = .returned (.bool (decide (x = y))) ∧ Below w.heap.size w w' := by
  obtain ⟨_, _, rfl, hg0, ⟨rfl, _⟩⟩ := hK
  have H0 := Sec.mk hg0
  obtain ⟨v1, v2, v3, rfl, -, -, -⟩ := kGoal_K hg0
  clear hg0
  obtain ⟨_, _, rfl, gg0, ⟨rfl, _⟩⟩ := hD
  have G0 := Sec.mk gg0
  obtain ⟨u1, u2, u3, rfl, -, -, -⟩ := kGoal_K gg0
  clear gg0
  have hu := Try.underlying96
  have hxy := Sec.mk (SGoal.ext_iff x y)
  have T0 : Sec True := ⟨trivial⟩
  by_cases h0 : x.goal = y.goal
  · have E0 := Sec.mk h0
    have d0 : decide (x.goal = y.goal) = true := decide_eq_true h0
    clear h0
    by_cases h1 : x.cut = y.cut
    · have E1 := Sec.mk h1
      have d1 : (x.cut == y.cut) = true := beq_iff_eq.2 h1
      clear h1
      have hd : Sec (decide (x = y) = true) := ⟨by rw [decide_eq_true_eq, hxy.out]; exact ⟨E0.out, E1.out⟩⟩
      go_enter Try.func60, Try.ntmps60
      go_wp2_with (first | (clear T0; go_at_call 70; have T1 : Sec True := ⟨trivial⟩; refine (eqPrgGoal_c x.goal y.goal _ _ ok ok' _ (Kd.K_below H0.out (belA (belA (Below.refl _ _) _) _)) (Kd.K_below G0.out (belA (belA (Below.refl _ _) _) _))).mono ?_; rintro e w1 ⟨rfl, hb1⟩; rw [d0]; have B1 := Sec.mk (bel (belA (belA (Below.refl _ _) _) _) hb1); have X := box_cells (b := w.heap.size) (cs := #[.int .i64 x.goal.kind, v1, v2, v3, .int .i64 x.cut]) (t := 96) hb1 (box2 _ _ _).1; have p1_0 := X.2.1 0 _ rfl; have p1_1 := X.2.1 1 _ rfl; have p1_2 := X.2.1 2 _ rfl; have p1_3 := X.2.1 3 _ rfl; have p1_4 := X.2.1 4 _ rfl; have P1 := Sec.mk X; clear X; have X := box_cells (b := w.heap.size + 1) (cs := #[.int .i64 y.goal.kind, u1, u2, u3, .int .i64 y.cut]) (t := 96) hb1 (box2 _ _ _).2; have q1_0 := X.2.1 0 _ rfl; have q1_1 := X.2.1 1 _ rfl; have q1_2 := X.2.1 2 _ rfl; have q1_3 := X.2.1 3 _ rfl; have q1_4 := X.2.1 4 _ rfl; have Q1 := Sec.mk X; clear X hb1))
      go_ret
      exact ⟨rb hd.out.symm, B1.out⟩
    · have hd : Sec (decide (x = y) = false) := ⟨by rw [decide_eq_false_iff_not, hxy.out]; exact fun h => h1 h.2⟩
      have d1 : (x.cut == y.cut) = false := beq_eq_false_iff_ne.2 h1
      clear h1
      go_enter Try.func60, Try.ntmps60
      go_wp2_with (first | (clear T0; go_at_call 70; have T1 : Sec True := ⟨trivial⟩; refine (eqPrgGoal_c x.goal y.goal _ _ ok ok' _ (Kd.K_below H0.out (belA (belA (Below.refl _ _) _) _)) (Kd.K_below G0.out (belA (belA (Below.refl _ _) _) _))).mono ?_; rintro e w1 ⟨rfl, hb1⟩; rw [d0]; have B1 := Sec.mk (bel (belA (belA (Below.refl _ _) _) _) hb1); have X := box_cells (b := w.heap.size) (cs := #[.int .i64 x.goal.kind, v1, v2, v3, .int .i64 x.cut]) (t := 96) hb1 (box2 _ _ _).1; have p1_0 := X.2.1 0 _ rfl; have p1_1 := X.2.1 1 _ rfl; have p1_2 := X.2.1 2 _ rfl; have p1_3 := X.2.1 3 _ rfl; have p1_4 := X.2.1 4 _ rfl; have P1 := Sec.mk X; clear X; have X := box_cells (b := w.heap.size + 1) (cs := #[.int .i64 y.goal.kind, u1, u2, u3, .int .i64 y.cut]) (t := 96) hb1 (box2 _ _ _).2; have q1_0 := X.2.1 0 _ rfl; have q1_1 := X.2.1 1 _ rfl; have q1_2 := X.2.1 2 _ rfl; have q1_3 := X.2.1 3 _ rfl; have q1_4 := X.2.1 4 _ rfl; have Q1 := Sec.mk X; clear X hb1))
      go_ret
      exact ⟨rb hd.out.symm, B1.out⟩
  · have hd : Sec (decide (x = y) = false) := ⟨by rw [decide_eq_false_iff_not, hxy.out]; exact fun h => h0 h.1⟩
    have d0 : decide (x.goal = y.goal) = false := decide_eq_false h0
    clear h0
    go_enter Try.func60, Try.ntmps60
    go_wp2_with (first | (clear T0; go_at_call 70; have T1 : Sec True := ⟨trivial⟩; refine (eqPrgGoal_c x.goal y.goal _ _ ok ok' _ (Kd.K_below H0.out (belA (belA (Below.refl _ _) _) _)) (Kd.K_below G0.out (belA (belA (Below.refl _ _) _) _))).mono ?_; rintro e w1 ⟨rfl, hb1⟩; rw [d0]; have B1 := Sec.mk (bel (belA (belA (Below.refl _ _) _) _) hb1); have X := box_cells (b := w.heap.size) (cs := #[.int .i64 x.goal.kind, v1, v2, v3, .int .i64 x.cut]) (t := 96) hb1 (box2 _ _ _).1; have p1_0 := X.2.1 0 _ rfl; have p1_1 := X.2.1 1 _ rfl; have p1_2 := X.2.1 2 _ rfl; have p1_3 := X.2.1 3 _ rfl; have p1_4 := X.2.1 4 _ rfl; have P1 := Sec.mk X; clear X; have X := box_cells (b := w.heap.size + 1) (cs := #[.int .i64 y.goal.kind, u1, u2, u3, .int .i64 y.cut]) (t := 96) hb1 (box2 _ _ _).2; have q1_0 := X.2.1 0 _ rfl; have q1_1 := X.2.1 1 _ rfl; have q1_2 := X.2.1 2 _ rfl; have q1_3 := X.2.1 3 _ rfl; have q1_4 := X.2.1 4 _ rfl; have Q1 := Sec.mk X; clear X hb1))
    go_ret
    exact ⟨rb hd.out.symm, B1.out⟩
set_option maxHeartbeats 2000000 in
theorem eqSSGoal_c (v u : Value) (t s : List SGoal) (ok ok' : Nat → Prop) (w : World) (hV : kSGoal.V w ok v t) (hU : kSGoal.V w ok' u s) :
    Calls Try.prog 30 #[v, u] w fun e w' => e = .returned (.bool (decide (t = s))) ∧ Below w.heap.size w w' := by
  obtain ⟨A, c, rfl, h1, h2, h3, hC, _⟩ := hV
  obtain ⟨B, d, rfl, k1, k2, k3, hD, _⟩ := hU
  have HC := Sec.mk hC
  have HD := Sec.mk hD
  clear hC hD
  have hu := Try.underlying96
  by_cases hl : t.length = s.length
  · rw [← hl]
    have HL := Sec.mk hl
    clear hl
    go_enter Try.func30, Try.ntmps30
    go_wp2
    go_loopw [5] (fun i wr => ∃ k : Nat, k ≤ t.length ∧ i = .int .i64 k ∧ Sec (t.take k = s.take k) ∧ Sec (Below w.heap.size w wr)) (fun i _ => t.length - (intOf i).toNat)
    case atStart => exact ⟨0, Nat.zero_le _, rfl, ⟨by simp⟩, ⟨Below.refl _ _⟩⟩
    case round =>
      obtain ⟨k, hk, rfl, hT, hb⟩ := hrel
      by_cases hlt : k < t.length
      · have hlt2 : k < s.length := by have := HL.out; omega
        obtain ⟨b, off, cs, rfl, hob, hK, hc⟩ := Kd.C_get HC.out (List.getElem?_eq_getElem hlt)
        obtain ⟨b2, off2, cs2, rfl, hob2, hK2, hc2⟩ := Kd.C_get HD.out (List.getElem?_eq_getElem hlt2)
        have hT1 : Sec (t[k] = s[k] → t.take (k + 1) = s.take (k + 1)) := ⟨fun e => by rw [List.take_succ_eq_append_getElem hlt, List.take_succ_eq_append_getElem hlt2, hT.out, e]⟩
        have hT2 : Sec (t = s → t[k] = s[k]) := ⟨fun e => by subst e; rfl⟩
        generalize t[k] = x at *
        generalize s[k] = y at *
        have HK := Sec.mk hK
        have HK2 := Sec.mk hK2
        obtain ⟨v1, v2, v3, rfl, -, -, -⟩ := kSGoal_K hK
        obtain ⟨u1, u2, u3, rfl, -, -, -⟩ := kSGoal_K hK2
        have hat : Sec (∀ W : World, Below w.heap.size w W → W.cell? ⟨b, off + k * 5, none⟩ = some (.int .i64 x.goal.kind) ∧ W.cell? ⟨b, off + k * 5 + 1, none⟩ = some (v1) ∧ W.cell? ⟨b, off + k * 5 + 2, none⟩ = some (v2) ∧ W.cell? ⟨b, off + k * 5 + 3, none⟩ = some (v3) ∧ W.cell? ⟨b, off + k * 5 + 4, none⟩ = some (.int .i64 x.cut) ∧ W.cell? ⟨b2, off2 + k * 5, none⟩ = some (.int .i64 y.goal.kind) ∧ W.cell? ⟨b2, off2 + k * 5 + 1, none⟩ = some (u1) ∧ W.cell? ⟨b2, off2 + k * 5 + 2, none⟩ = some (u2) ∧ W.cell? ⟨b2, off2 + k * 5 + 3, none⟩ = some (u3) ∧ W.cell? ⟨b2, off2 + k * 5 + 4, none⟩ = some (.int .i64 y.cut)) := ⟨fun W h => ⟨Raw.cell_below h (hc 0 _ rfl), Raw.cell_below h (hc 1 _ rfl), Raw.cell_below h (hc 2 _ rfl), Raw.cell_below h (hc 3 _ rfl), Raw.cell_below h (hc 4 _ rfl), Raw.cell_below h (hc2 0 _ rfl), Raw.cell_below h (hc2 1 _ rfl), Raw.cell_below h (hc2 2 _ rfl), Raw.cell_below h (hc2 3 _ rfl), Raw.cell_below h (hc2 4 _ rfl)⟩⟩
        clear hc hc2 hK hK2
        obtain ⟨x0, x1, x2, x3, x4, y0, y1, y2, y3, y4⟩ := hat.out _ hb.out
        have i0 : (0 : Int) ≤ (k : Int) := by omega
        have i1 : (k : Int) < (t.length : Int) := by omega
        obtain ⟨bb, hbb⟩ : ∃ bb, decide (x = y) = bb := ⟨_, rfl⟩
        have Hc : Sec (∀ W, Below w.heap.size w W → Calls Try.prog 60 #[.agg #[.int .i64 x.goal.kind, v1, v2, v3, .int .i64 x.cut], .agg #[.int .i64 y.goal.kind, u1, u2, u3, .int .i64 y.cut]] W fun e w' => e = .returned (.bool bb) ∧ Below W.heap.size W w') := ⟨fun W hB => by rw [← hbb]; exact eqSlvGoal_c x y _ _ ok ok' W (Kd.K_below HK.out hB) (Kd.K_below HK2.out hB)⟩
        have HBB := Sec.mk hbb
        clear hbb
        go_wp2
        go_region_held3 (fun W => W.cell? ⟨b, off + k * 5, none⟩ = some (.int .i64 x.goal.kind) ∧ W.cell? ⟨b, off + k * 5 + 1, none⟩ = some (v1) ∧ W.cell? ⟨b, off + k * 5 + 2, none⟩ = some (v2) ∧ W.cell? ⟨b, off + k * 5 + 3, none⟩ = some (v3) ∧ W.cell? ⟨b, off + k * 5 + 4, none⟩ = some (.int .i64 x.cut) ∧ W.cell? ⟨b2, off2 + k * 5, none⟩ = some (.int .i64 y.goal.kind) ∧ W.cell? ⟨b2, off2 + k * 5 + 1, none⟩ = some (u1) ∧ W.cell? ⟨b2, off2 + k * 5 + 2, none⟩ = some (u2) ∧ W.cell? ⟨b2, off2 + k * 5 + 3, none⟩ = some (u3) ∧ W.cell? ⟨b2, off2 + k * 5 + 4, none⟩ = some (.int .i64 y.cut))
          (first | (refine ⟨?_, ?_, ?_, ?_, ?_, ?_, ?_, ?_, ?_, ?_⟩ <;> assumption) | go_keep)
          (first | (go_at_call 60; refine (Hc.out _ (belD hb.out)).mono ?_; rintro e w1 ⟨rfl, hb1⟩; have B1 := Sec.mk (bel (belD hb.out) hb1); clear x0 x1 x2 x3 x4 y0 y1 y2 y3 y4; obtain ⟨x0, x1, x2, x3, x4, y0, y1, y2, y3, y4⟩ := hat.out _ B1.out; clear hb1))
        all_goals
          cases bb with
          | true =>
            have HE : Sec (t.take (k + 1) = s.take (k + 1)) := ⟨hT1.out (of_decide_eq_true HBB.out)⟩
            go_wp2
            go_roundw
            case rel => exact ⟨k + 1, by omega, by go_num, HE, B1⟩
            case measure => simp [intOf]; omega
          | false =>
            have HE : Sec (decide (t = s) = false) := ⟨decide_eq_false (fun e => of_decide_eq_false HBB.out (hT2.out e))⟩
            go_wp2
            go_ret
            exact ⟨rb HE.out.symm, B1.out⟩
      · have HE : Sec (decide (t = s) = true) := ⟨decide_eq_true (by have := hT.out; have h2 := HL.out; rwa [List.take_of_length_le (by omega), List.take_of_length_le (by omega)] at this)⟩
        go_wp2
        go_ret
        exact ⟨rb HE.out.symm, hb.out⟩
  · have hl' : ((t.length : Int) == (s.length : Int)) = false := beq_eq_false_iff_ne.2 (by omega)
    have HE : Sec (decide (t = s) = false) := ⟨decide_eq_false (fun e => hl (by rw [e]))⟩
    go_enter Try.func30, Try.ntmps30
    go_wp2
    go_ret
    exact ⟨rb HE.out.symm, Below.refl _ _⟩
def mSGoal : Mk SGoal := ⟨fun x => 1 + mCell.cnts x.goal.a + mCell.cnts x.goal.b + mCell.cnts x.goal.c + 1, fun x k => ⟨⟨k, mCell.mks x.goal.a (k + 1), mCell.mks x.goal.b (k + 1 + ((mCell.cnts x.goal.a : Nat) : Int)), mCell.mks x.goal.c (k + 1 + ((mCell.cnts x.goal.a : Nat) : Int) + ((mCell.cnts x.goal.b : Nat) : Int))⟩, k + 1 + ((mCell.cnts x.goal.a : Nat) : Int) + ((mCell.cnts x.goal.b : Nat) : Int) + ((mCell.cnts x.goal.c : Nat) : Int)⟩⟩
theorem mSGoal_cnt (x : SGoal) : mSGoal.cnt x = 1 + mCell.cnts x.goal.a + mCell.cnts x.goal.b + mCell.cnts x.goal.c + 1 := rfl
set_option maxHeartbeats 2000000 in
theorem markSSGoal_c (v : Value) (t : List SGoal) (S : Nat → Prop) (k : Int) (hk : 0 ≤ k) (hk2 : k + mSGoal.cnts t ≤ 1000000000000000000) (w : World) (hR : kSGoal.R w S v t) :
    Calls Try.prog 33 #[v, .int .i64 k] w fun e w' => e = .returned (.int .i64 (k + mSGoal.cnts t)) ∧ kSGoal.R w' S v (mSGoal.mks t k) ∧ Foot S w w' := by
  obtain ⟨A, cp, hv, g1, g2⟩ := Kd.R_form hR
  subst hv
  have h3 : t.length ≤ 1073741824 := hR.1
  have HR := Sec.mk hR
  have hu := Try.underlying96
  have hu_PrgGoal := Try.underlying94
  clear hR
  have HN := Sec.mk (mSGoal.cnts_take t)
  have HM := Sec.mk (mSGoal.cnts_le t)
  have HX := Sec.mk (mSGoal.next t k)
  go_enter Try.func33, Try.ntmps33
  go_wp2
  go_loopw [1, 5] (fun kv iv wr => ∃ i : Nat, i ≤ t.length ∧ iv = .int .i64 i ∧ kv = .int .i64 (k + ↑(mSGoal.cnts (t.take i))) ∧ Sec (kSGoal.R wr S (.slice A t.length cp) (mSGoal.mks (t.take i) k ++ t.drop i)) ∧ Sec (Foot S w wr)) (fun _ iv _ => t.length - (intOf iv).toNat)
  case atStart => exact ⟨0, Nat.zero_le _, rfl, by simp [Mk.cnts], ⟨by simpa [Mk.mks] using HR.out⟩, ⟨Foot.refl _ _⟩⟩
  case round =>
    obtain ⟨i, hi, rfl, rfl, hM, hF⟩ := hrel
    by_cases hlt : i < t.length
    · have hL : (mSGoal.mks (t.take i) k ++ t.drop i).length = t.length := mSGoal.len_ t k i
      have hil : i < (mSGoal.mks (t.take i) k ++ t.drop i).length := by omega
      obtain ⟨b, rfl, -, hSb, hbb, -⟩ := Kd.R_block hM.out (by omega)
      obtain ⟨cs, hA, -⟩ := Kd.At.of_R hM.out hil
      rw [mSGoal.at_ t k i hlt] at hA
      have hnext := Sec.mk (HX.out i hlt)
      have hn1 := HN.out i hlt
      have hn2 := HM.out (i + 1)
      rw [hn1] at hn2
      have HN1 := Sec.mk hn1
      have F0 := hF
      clear hM hn1 hL
      generalize mSGoal.mks (t.take i) k ++ t.drop i = L at *
      generalize t[i] = x at *
      generalize mSGoal.cnts (t.take i) = c at *
      have hcx : Sec (mSGoal.cnt x = _) := ⟨mSGoal_cnt x⟩
      rw [mSGoal_cnt x] at hn2
      have hAt := hA
      obtain ⟨v1, v2, v3, rfl, -, -, -⟩ := kSGoal_K hA.K
      have A0 := Sec.mk hA
      clear hA hAt
      have c0_0 : wr.cell? ⟨b, i * 5, none⟩ = some (.int .i64 x.goal.kind) := Kd.At.cell A0.out 0 _ rfl
      have c0_1 : wr.cell? ⟨b, i * 5 + 1, none⟩ = some (v1) := Kd.At.cell A0.out 1 _ rfl
      have c0_2 : wr.cell? ⟨b, i * 5 + 2, none⟩ = some (v2) := Kd.At.cell A0.out 2 _ rfl
      have c0_3 : wr.cell? ⟨b, i * 5 + 3, none⟩ = some (v3) := Kd.At.cell A0.out 3 _ rfl
      have c0_4 : wr.cell? ⟨b, i * 5 + 4, none⟩ = some (.int .i64 x.cut) := Kd.At.cell A0.out 4 _ rfl
      have f0_0 : wr.frozen? ⟨b, i * 5, none⟩ = false := Kd.At.frozen A0.out (i * 5)
      have f0_1 : wr.frozen? ⟨b, i * 5 + 1, none⟩ = false := Kd.At.frozen A0.out (i * 5 + 1)
      have f0_2 : wr.frozen? ⟨b, i * 5 + 2, none⟩ = false := Kd.At.frozen A0.out (i * 5 + 2)
      have f0_3 : wr.frozen? ⟨b, i * 5 + 3, none⟩ = false := Kd.At.frozen A0.out (i * 5 + 3)
      have f0_4 : wr.frozen? ⟨b, i * 5 + 4, none⟩ = false := Kd.At.frozen A0.out (i * 5 + 4)
      have A1 : Sec (Kd.At kSGoal (wr.setCell ⟨b, i * 5, none⟩ (.int .i64 (k + (c : Int)))) S b t.length cp L i ⟨⟨k + (c : Int), x.goal.a, x.goal.b, x.goal.c⟩, x.cut⟩ [.int .i64 (k + (c : Int)), v1, v2, v3, .int .i64 x.cut]) := ⟨Kd.At.store (e := (Kd.int 3)) A0.out kSGoal_f_goal_kind rfl (k + (c : Int)) (.int .i64 (k + (c : Int))) (fun _ _ => ⟨rfl, trivial⟩)⟩
      have F1 : Sec (Foot S w (wr.setCell ⟨b, i * 5, none⟩ (.int .i64 (k + (c : Int))))) := ⟨F0.out.set (g := b) (.inl hSb) (i * 5) (.int .i64 (k + (c : Int)))⟩
      obtain ⟨S1, r1, hs1, bk1⟩ := Kd.At.sub A1.out kSGoal_f_goal_a (v := v1) rfl
      have SR1 := Sec.mk r1
      have SS1 := Sec.mk hs1
      have BK1 := Sec.mk bk1
      clear r1 hs1 bk1
      have T0 : Sec True := ⟨trivial⟩
      go_wp2_with (first | (clear T2; go_at_call 12; have T3 : Sec True := ⟨trivial⟩; refine (markSCell_c v3 x.goal.c S3 (k + (c : Int) + 1 + ((mCell.cnts x.goal.a : Nat) : Int) + ((mCell.cnts x.goal.b : Nat) : Int)) (by omega) (by omega) _ SR3.out).mono ?_; rintro e w3 ⟨rfl, hR', hF'⟩; have A4 : Sec (Kd.At kSGoal w3 S b t.length cp L i ⟨⟨k + (c : Int), (mCell.mks x.goal.a (k + (c : Int) + 1)), (mCell.mks x.goal.b (k + (c : Int) + 1 + ((mCell.cnts x.goal.a : Nat) : Int))), (mCell.mks x.goal.c (k + (c : Int) + 1 + ((mCell.cnts x.goal.a : Nat) : Int) + ((mCell.cnts x.goal.b : Nat) : Int)))⟩, x.cut⟩ [.int .i64 (k + (c : Int)), v1, v2, v3, .int .i64 x.cut]) := ⟨BK3.out w3 _ hR' hF'⟩; have F4 : Sec (Foot S w w3) := ⟨F3.out.trans hF' (fun k _ h => (SS3.out k h).1)⟩; clear hR' hF'; clear c2_0 f2_0 c2_1 f2_1 c2_2 f2_2 c2_3 f2_3 c2_4 f2_4; have c3_0 : w3.cell? ⟨b, i * 5, none⟩ = some (.int .i64 (k + (c : Int))) := Kd.At.cell A4.out 0 _ rfl; have c3_1 : w3.cell? ⟨b, i * 5 + 1, none⟩ = some (v1) := Kd.At.cell A4.out 1 _ rfl; have c3_2 : w3.cell? ⟨b, i * 5 + 2, none⟩ = some (v2) := Kd.At.cell A4.out 2 _ rfl; have c3_3 : w3.cell? ⟨b, i * 5 + 3, none⟩ = some (v3) := Kd.At.cell A4.out 3 _ rfl; have c3_4 : w3.cell? ⟨b, i * 5 + 4, none⟩ = some (.int .i64 x.cut) := Kd.At.cell A4.out 4 _ rfl; have f3_0 : w3.frozen? ⟨b, i * 5, none⟩ = false := Kd.At.frozen A4.out (i * 5); have f3_1 : w3.frozen? ⟨b, i * 5 + 1, none⟩ = false := Kd.At.frozen A4.out (i * 5 + 1); have f3_2 : w3.frozen? ⟨b, i * 5 + 2, none⟩ = false := Kd.At.frozen A4.out (i * 5 + 2); have f3_3 : w3.frozen? ⟨b, i * 5 + 3, none⟩ = false := Kd.At.frozen A4.out (i * 5 + 3); have f3_4 : w3.frozen? ⟨b, i * 5 + 4, none⟩ = false := Kd.At.frozen A4.out (i * 5 + 4); have A5 : Sec (Kd.At kSGoal (w3.setCell ⟨b, i * 5 + 4, none⟩ (.int .i64 (k + (c : Int) + 1 + ((mCell.cnts x.goal.a : Nat) : Int) + ((mCell.cnts x.goal.b : Nat) : Int) + ((mCell.cnts x.goal.c : Nat) : Int)))) S b t.length cp L i ⟨⟨k + (c : Int), (mCell.mks x.goal.a (k + (c : Int) + 1)), (mCell.mks x.goal.b (k + (c : Int) + 1 + ((mCell.cnts x.goal.a : Nat) : Int))), (mCell.mks x.goal.c (k + (c : Int) + 1 + ((mCell.cnts x.goal.a : Nat) : Int) + ((mCell.cnts x.goal.b : Nat) : Int)))⟩, k + (c : Int) + 1 + ((mCell.cnts x.goal.a : Nat) : Int) + ((mCell.cnts x.goal.b : Nat) : Int) + ((mCell.cnts x.goal.c : Nat) : Int)⟩ [.int .i64 (k + (c : Int)), v1, v2, v3, .int .i64 (k + (c : Int) + 1 + ((mCell.cnts x.goal.a : Nat) : Int) + ((mCell.cnts x.goal.b : Nat) : Int) + ((mCell.cnts x.goal.c : Nat) : Int))]) := ⟨Kd.At.store (e := (Kd.int 3)) A4.out kSGoal_f_cut rfl (k + (c : Int) + 1 + ((mCell.cnts x.goal.a : Nat) : Int) + ((mCell.cnts x.goal.b : Nat) : Int) + ((mCell.cnts x.goal.c : Nat) : Int)) (.int .i64 (k + (c : Int) + 1 + ((mCell.cnts x.goal.a : Nat) : Int) + ((mCell.cnts x.goal.b : Nat) : Int) + ((mCell.cnts x.goal.c : Nat) : Int))) (fun _ _ => ⟨rfl, trivial⟩)⟩; have F5 : Sec (Foot S w (w3.setCell ⟨b, i * 5 + 4, none⟩ (.int .i64 (k + (c : Int) + 1 + ((mCell.cnts x.goal.a : Nat) : Int) + ((mCell.cnts x.goal.b : Nat) : Int) + ((mCell.cnts x.goal.c : Nat) : Int))))) := ⟨F4.out.set (g := b) (.inl hSb) (i * 5 + 4) (.int .i64 (k + (c : Int) + 1 + ((mCell.cnts x.goal.a : Nat) : Int) + ((mCell.cnts x.goal.b : Nat) : Int) + ((mCell.cnts x.goal.c : Nat) : Int)))⟩) | (clear T1; go_at_call 12; have T2 : Sec True := ⟨trivial⟩; refine (markSCell_c v2 x.goal.b S2 (k + (c : Int) + 1 + ((mCell.cnts x.goal.a : Nat) : Int)) (by omega) (by omega) _ SR2.out).mono ?_; rintro e w2 ⟨rfl, hR', hF'⟩; have A3 : Sec (Kd.At kSGoal w2 S b t.length cp L i ⟨⟨k + (c : Int), (mCell.mks x.goal.a (k + (c : Int) + 1)), (mCell.mks x.goal.b (k + (c : Int) + 1 + ((mCell.cnts x.goal.a : Nat) : Int))), x.goal.c⟩, x.cut⟩ [.int .i64 (k + (c : Int)), v1, v2, v3, .int .i64 x.cut]) := ⟨BK2.out w2 _ hR' hF'⟩; have F3 : Sec (Foot S w w2) := ⟨F2.out.trans hF' (fun k _ h => (SS2.out k h).1)⟩; clear hR' hF'; clear c1_0 f1_0 c1_1 f1_1 c1_2 f1_2 c1_3 f1_3 c1_4 f1_4; have c2_0 : w2.cell? ⟨b, i * 5, none⟩ = some (.int .i64 (k + (c : Int))) := Kd.At.cell A3.out 0 _ rfl; have c2_1 : w2.cell? ⟨b, i * 5 + 1, none⟩ = some (v1) := Kd.At.cell A3.out 1 _ rfl; have c2_2 : w2.cell? ⟨b, i * 5 + 2, none⟩ = some (v2) := Kd.At.cell A3.out 2 _ rfl; have c2_3 : w2.cell? ⟨b, i * 5 + 3, none⟩ = some (v3) := Kd.At.cell A3.out 3 _ rfl; have c2_4 : w2.cell? ⟨b, i * 5 + 4, none⟩ = some (.int .i64 x.cut) := Kd.At.cell A3.out 4 _ rfl; have f2_0 : w2.frozen? ⟨b, i * 5, none⟩ = false := Kd.At.frozen A3.out (i * 5); have f2_1 : w2.frozen? ⟨b, i * 5 + 1, none⟩ = false := Kd.At.frozen A3.out (i * 5 + 1); have f2_2 : w2.frozen? ⟨b, i * 5 + 2, none⟩ = false := Kd.At.frozen A3.out (i * 5 + 2); have f2_3 : w2.frozen? ⟨b, i * 5 + 3, none⟩ = false := Kd.At.frozen A3.out (i * 5 + 3); have f2_4 : w2.frozen? ⟨b, i * 5 + 4, none⟩ = false := Kd.At.frozen A3.out (i * 5 + 4); obtain ⟨S3, r3, hs3, bk3⟩ := Kd.At.sub A3.out kSGoal_f_goal_c (v := v3) rfl; have SR3 := Sec.mk r3; have SS3 := Sec.mk hs3; have BK3 := Sec.mk bk3; clear r3 hs3 bk3) | (clear T0; go_at_call 12; have T1 : Sec True := ⟨trivial⟩; refine (markSCell_c v1 x.goal.a S1 (k + (c : Int) + 1) (by omega) (by omega) _ SR1.out).mono ?_; rintro e w1 ⟨rfl, hR', hF'⟩; have A2 : Sec (Kd.At kSGoal w1 S b t.length cp L i ⟨⟨k + (c : Int), (mCell.mks x.goal.a (k + (c : Int) + 1)), x.goal.b, x.goal.c⟩, x.cut⟩ [.int .i64 (k + (c : Int)), v1, v2, v3, .int .i64 x.cut]) := ⟨BK1.out w1 _ hR' hF'⟩; have F2 : Sec (Foot S w w1) := ⟨F1.out.trans hF' (fun k _ h => (SS1.out k h).1)⟩; clear hR' hF'; clear c0_0 f0_0 c0_1 f0_1 c0_2 f0_2 c0_3 f0_3 c0_4 f0_4; have c1_0 : w1.cell? ⟨b, i * 5, none⟩ = some (.int .i64 (k + (c : Int))) := Kd.At.cell A2.out 0 _ rfl; have c1_1 : w1.cell? ⟨b, i * 5 + 1, none⟩ = some (v1) := Kd.At.cell A2.out 1 _ rfl; have c1_2 : w1.cell? ⟨b, i * 5 + 2, none⟩ = some (v2) := Kd.At.cell A2.out 2 _ rfl; have c1_3 : w1.cell? ⟨b, i * 5 + 3, none⟩ = some (v3) := Kd.At.cell A2.out 3 _ rfl; have c1_4 : w1.cell? ⟨b, i * 5 + 4, none⟩ = some (.int .i64 x.cut) := Kd.At.cell A2.out 4 _ rfl; have f1_0 : w1.frozen? ⟨b, i * 5, none⟩ = false := Kd.At.frozen A2.out (i * 5); have f1_1 : w1.frozen? ⟨b, i * 5 + 1, none⟩ = false := Kd.At.frozen A2.out (i * 5 + 1); have f1_2 : w1.frozen? ⟨b, i * 5 + 2, none⟩ = false := Kd.At.frozen A2.out (i * 5 + 2); have f1_3 : w1.frozen? ⟨b, i * 5 + 3, none⟩ = false := Kd.At.frozen A2.out (i * 5 + 3); have f1_4 : w1.frozen? ⟨b, i * 5 + 4, none⟩ = false := Kd.At.frozen A2.out (i * 5 + 4); obtain ⟨S2, r2, hs2, bk2⟩ := Kd.At.sub A2.out kSGoal_f_goal_b (v := v2) rfl; have SR2 := Sec.mk r2; have SS2 := Sec.mk hs2; have BK2 := Sec.mk bk2; clear r2 hs2 bk2))
      go_roundw
      case rel => exact ⟨i + 1, by omega, by go_num, by rw [HN1.out, hcx.out]; congr 1; omega, ⟨by rw [← hnext.out]; exact A5.out.R⟩, F5⟩
      case measure => simp [intOf]; omega
    · have hfin : Sec (mSGoal.mks (t.take i) k ++ t.drop i = mSGoal.mks t k) := ⟨by rw [List.take_of_length_le (by omega), List.drop_of_length_le (by omega), List.append_nil]⟩
      have hM2 := hM.out
      rw [hfin.out] at hM2
      have HM2 := Sec.mk hM2
      have hi2 : Sec (k + ↑(mSGoal.cnts (t.take i)) = k + ↑(mSGoal.cnts t)) := ⟨by rw [List.take_of_length_le (by omega)]⟩
      clear hM2 hM hfin
      go_wp2
      go_ret
      exact ⟨ri hi2.out, HM2.out, hF.out⟩
set_option maxHeartbeats 2000000 in
theorem heldSSGoal_c (v : Value) (t : List SGoal) (ok : Nat → Prop) (k : Int) (hk : 0 ≤ k) (hk2 : k + mSGoal.cnts t ≤ 1000000000000000000) (w : World) (hV : kSGoal.V w ok v (mSGoal.mks t k)) :
    Calls Try.prog 45 #[v, .int .i64 k] w fun e w' => e = .returned (.int .i64 (k + mSGoal.cnts t)) ∧ Below w.heap.size w w' := by
  obtain ⟨A, cp, rfl, g1, g2, g3, hC, _⟩ := hV
  rw [Mk.mks_len] at g1 g3
  rw [Mk.mks_len]
  have HC := Sec.mk hC
  have hu := Try.underlying96
  have hu_PrgGoal := Try.underlying94
  clear hC
  have HN := Sec.mk (mSGoal.cnts_take t)
  have HM := Sec.mk (mSGoal.cnts_le t)
  have HG := Sec.mk (mSGoal.get t k)
  have HLn := Sec.mk (mSGoal.mks_len t k)
  go_enter Try.func45, Try.ntmps45
  go_wp2
  go_loopw [1, 5] (fun kv iv wr => ∃ i : Nat, i ≤ t.length ∧ iv = .int .i64 i ∧ kv = .int .i64 (k + ↑(mSGoal.cnts (t.take i))) ∧ Sec (Below w.heap.size w wr)) (fun _ iv _ => t.length - (intOf iv).toNat)
  case atStart => exact ⟨0, Nat.zero_le _, rfl, by simp [Mk.cnts], ⟨Below.refl _ _⟩⟩
  case round =>
    obtain ⟨i, hi, rfl, rfl, hb⟩ := hrel
    by_cases hlt : i < t.length
    · obtain ⟨b, off, cs, rfl, hob, hK, hc⟩ := Kd.C_get HC.out (List.getElem?_eq_getElem (by rw [HLn.out]; exact hlt))
      rw [HG.out i hlt] at hK
      have hn1 := HN.out i hlt
      have hn2 := HM.out (i + 1)
      rw [hn1] at hn2
      have HN1 := Sec.mk hn1
      clear hn1
      generalize t[i] = x at *
      generalize mSGoal.cnts (t.take i) = c at *
      have hcx : Sec (mSGoal.cnt x = _) := ⟨mSGoal_cnt x⟩
      rw [mSGoal_cnt x] at hn2
      obtain ⟨v1, v2, v3, rfl, h1, h2, h3⟩ := kSGoal_K hK
      have hat : Sec (∀ W : World, Below w.heap.size w W → W.cell? ⟨b, off + i * 5, none⟩ = some (.int .i64 (k + (c : Int))) ∧ W.cell? ⟨b, off + i * 5 + 1, none⟩ = some (v1) ∧ W.cell? ⟨b, off + i * 5 + 2, none⟩ = some (v2) ∧ W.cell? ⟨b, off + i * 5 + 3, none⟩ = some (v3) ∧ W.cell? ⟨b, off + i * 5 + 4, none⟩ = some (.int .i64 (k + (c : Int) + 1 + ((mCell.cnts x.goal.a : Nat) : Int) + ((mCell.cnts x.goal.b : Nat) : Int) + ((mCell.cnts x.goal.c : Nat) : Int)))) := ⟨fun W h => ⟨Raw.cell_below h (hc 0 _ rfl), Raw.cell_below h (hc 1 _ rfl), Raw.cell_below h (hc 2 _ rfl), Raw.cell_below h (hc 3 _ rfl), Raw.cell_below h (hc 4 _ rfl)⟩⟩
      have i0 : (0 : Int) ≤ (i : Int) := by omega
      have i1 : (i : Int) < (t.length : Int) := by omega
      have H1 : Sec (kCell.V w ok v1 (mCell.mks x.goal.a (k + (c : Int) + 1))) := ⟨h1⟩
      clear h1
      have H2 : Sec (kCell.V w ok v2 (mCell.mks x.goal.b (k + (c : Int) + 1 + ((mCell.cnts x.goal.a : Nat) : Int)))) := ⟨h2⟩
      clear h2
      have H3 : Sec (kCell.V w ok v3 (mCell.mks x.goal.c (k + (c : Int) + 1 + ((mCell.cnts x.goal.a : Nat) : Int) + ((mCell.cnts x.goal.b : Nat) : Int)))) := ⟨h3⟩
      clear h3
      clear hc hK
      obtain ⟨c0, c1, c2, c3, c4⟩ := hat.out _ hb.out
      have B0 := hb
      have T0 : Sec True := ⟨trivial⟩
      go_wp2_with (first | (clear T2; go_at_call 13; have T3 : Sec True := ⟨trivial⟩; refine (heldSCell_c v3 x.goal.c ok (k + (c : Int) + 1 + ((mCell.cnts x.goal.a : Nat) : Int) + ((mCell.cnts x.goal.b : Nat) : Int)) (by omega) (by omega) _ (Kd.V_below H3.out B2.out (by decide))).mono ?_; rintro e w3 ⟨rfl, hb1⟩; have B3 := Sec.mk (bel B2.out hb1); clear hb1 c0 c1 c2 c3 c4; obtain ⟨c0, c1, c2, c3, c4⟩ := hat.out _ B3.out) | (clear T1; go_at_call 13; have T2 : Sec True := ⟨trivial⟩; refine (heldSCell_c v2 x.goal.b ok (k + (c : Int) + 1 + ((mCell.cnts x.goal.a : Nat) : Int)) (by omega) (by omega) _ (Kd.V_below H2.out B1.out (by decide))).mono ?_; rintro e w2 ⟨rfl, hb1⟩; have B2 := Sec.mk (bel B1.out hb1); clear hb1 c0 c1 c2 c3 c4; obtain ⟨c0, c1, c2, c3, c4⟩ := hat.out _ B2.out) | (clear T0; go_at_call 13; have T1 : Sec True := ⟨trivial⟩; refine (heldSCell_c v1 x.goal.a ok (k + (c : Int) + 1) (by omega) (by omega) _ (Kd.V_below H1.out B0.out (by decide))).mono ?_; rintro e w1 ⟨rfl, hb1⟩; have B1 := Sec.mk (bel B0.out hb1); clear hb1 c0 c1 c2 c3 c4; obtain ⟨c0, c1, c2, c3, c4⟩ := hat.out _ B1.out))
      go_roundw
      case rel => exact ⟨i + 1, by omega, by go_num, by rw [HN1.out, hcx.out]; congr 1; omega, B3⟩
      case measure => simp [intOf]; omega
    · have hi2 : Sec (k + ↑(mSGoal.cnts (t.take i)) = k + ↑(mSGoal.cnts t)) := ⟨by rw [List.take_of_length_le (by omega)]⟩
      go_wp2
      go_ret
      exact ⟨ri hi2.out, hb.out⟩
def mSGoalt : Mk SGoal := ⟨fun x => mGoalt.cnt x.goal, fun x k => ⟨mGoalt.one x.goal (k), x.cut⟩⟩
theorem mSGoalt_cnt (x : SGoal) : mSGoalt.cnt x = mGoalt.cnt x.goal := rfl
theorem rSGoal_le6 (x : SGoal) : mSGoal.cnt x ≤ 8 + 8 * rSGoal.wt x := by
  rw [mSGoal_cnt]; rw [rSGoal_wt]; have hw_0 := rGoal_wt x.goal; have := Mk.cnts_le6 rCell_le6 x.goal.a; have := Mk.cnts_le6 rCell_le6 x.goal.b; have := Mk.cnts_le6 rCell_le6 x.goal.c; omega
theorem rSGoal_tle (x : SGoal) : mSGoalt.cnt x ≤ 8 * rSGoal.wt x := by
  rw [mSGoalt_cnt, rSGoal_wt]; have := rGoal_tle x.goal; omega
end Go.Proofs.Ytggchcljkehefaa
