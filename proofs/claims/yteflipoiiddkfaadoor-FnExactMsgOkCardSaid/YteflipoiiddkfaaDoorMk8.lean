/- MsgOk of both sides: what it says of a message; and what goes with it. -/
import Derived.Test.YteflipoiiddkfaaDoorMk2
import Derived.Test.YteflipoiiddkfaaDoorMk5
import Derived.Test.YteflipoiiddkfaaDoorMk7
namespace Go.Proofs.YteflipoiiddkfaaDoor
section
open Go.RowKit
set_option linter.unusedVariables false
set_option maxRecDepth 100000
/-- What MsgOk says. -/
noncomputable def msgOk (m : Msg) : Bool := question m.top && (inB m.n 1 12000 && (if m.kind = 1 then inB m.from_ 0 3 && (m.out.status == 0 && ((m.out.term.length : Int) == 0)) else (m.kind == 2) && ((m.from_ == 0) && outOk m.top m.out.status m.out.term)))
set_option maxHeartbeats 4000000 in
theorem MsgOk_i (m : Msg) (cs : List Value) (ok : Nat → Prop) (w : World) (hK : kMsg.K w ok m cs) :
    Calls Tryd.prog 26 #[.agg cs.toArray] w fun e w' => e = .returned (.bool (msgOk m)) ∧ Below w.heap.size w w' := by
  obtain ⟨v2, v5, rfl, hV0, hT0⟩ := kMsg_K hK
  have hV : kCell.V w (fun k => k < w.heap.size) v2 m.top := Kd.V_move (fun k _ hl => ⟨hl, rfl⟩) hV0 (by decide)
  have hT : kCell.V w (fun k => k < w.heap.size) v5 m.out.term := Kd.V_move (fun k _ hl => ⟨hl, rfl⟩) hT0 (by decide)
  obtain ⟨A2, c2, rfl, -⟩ := id hV
  obtain ⟨A5, c5, rfl, -⟩ := id hT
  clear hV0 hT0 hK
  have b0 : Below w.heap.size w (w.alloc (.cells #[.int .i64 m.kind, .int .i64 m.from_, .slice A2 m.top.length c2, .int .i64 m.n, .int .i64 m.out.status, .slice A5 m.out.term.length c5] 50)) := belA (Below.refl _ _) _
  have HP : Sec (∀ W, Below (w.alloc (.cells #[.int .i64 m.kind, .int .i64 m.from_, .slice A2 m.top.length c2, .int .i64 m.n, .int .i64 m.out.status, .slice A5 m.out.term.length c5] 50)).heap.size (w.alloc (.cells #[.int .i64 m.kind, .int .i64 m.from_, .slice A2 m.top.length c2, .int .i64 m.n, .int .i64 m.out.status, .slice A5 m.out.term.length c5] 50)) W → W.cell? ⟨w.heap.size, 0, none⟩ = some (.int .i64 m.kind) ∧ W.cell? ⟨w.heap.size, 1, none⟩ = some (.int .i64 m.from_) ∧ W.cell? ⟨w.heap.size, 2, none⟩ = some (.slice A2 m.top.length c2) ∧ W.cell? ⟨w.heap.size, 3, none⟩ = some (.int .i64 m.n) ∧ W.cell? ⟨w.heap.size, 4, none⟩ = some (.int .i64 m.out.status) ∧ W.cell? ⟨w.heap.size, 5, none⟩ = some (.slice A5 m.out.term.length c5)) := ⟨fun W h => by
    have X := (box_at ((h.block _ (Array.getElem?_eq_some_iff.1 (heap_alloc_new w (.cells #[.int .i64 m.kind, .int .i64 m.from_, .slice A2 m.top.length c2, .int .i64 m.n, .int .i64 m.out.status, .slice A5 m.out.term.length c5] 50))).1).trans (heap_alloc_new w _))).2.1
    exact ⟨X 0 _ rfl, X 1 _ rfl, X 2 _ rfl, X 3 _ rfl, X 4 _ rfl, X 5 _ rfl⟩⟩
  have HV : Sec (∀ W, Below (w.alloc (.cells #[.int .i64 m.kind, .int .i64 m.from_, .slice A2 m.top.length c2, .int .i64 m.n, .int .i64 m.out.status, .slice A5 m.out.term.length c5] 50)).heap.size (w.alloc (.cells #[.int .i64 m.kind, .int .i64 m.from_, .slice A2 m.top.length c2, .int .i64 m.n, .int .i64 m.out.status, .slice A5 m.out.term.length c5] 50)) W → kCell.V W (fun k => k < w.heap.size) (.slice A2 m.top.length c2) m.top) := ⟨fun W h => Kd.V_below hV (bel b0 h) (by decide)⟩
  have HT : Sec (∀ W, Below (w.alloc (.cells #[.int .i64 m.kind, .int .i64 m.from_, .slice A2 m.top.length c2, .int .i64 m.n, .int .i64 m.out.status, .slice A5 m.out.term.length c5] 50)).heap.size (w.alloc (.cells #[.int .i64 m.kind, .int .i64 m.from_, .slice A2 m.top.length c2, .int .i64 m.n, .int .i64 m.out.status, .slice A5 m.out.term.length c5] 50)) W → kCell.V W (fun k => k < w.heap.size) (.slice A5 m.out.term.length c5) m.out.term) := ⟨fun W h => Kd.V_below hT (bel b0 h) (by decide)⟩
  have HK : Sec (∀ W, Below (w.alloc (.cells #[.int .i64 m.kind, .int .i64 m.from_, .slice A2 m.top.length c2, .int .i64 m.n, .int .i64 m.out.status, .slice A5 m.out.term.length c5] 50)).heap.size (w.alloc (.cells #[.int .i64 m.kind, .int .i64 m.from_, .slice A2 m.top.length c2, .int .i64 m.n, .int .i64 m.out.status, .slice A5 m.out.term.length c5] 50)) W → ∀ k, k < w.heap.size → k < W.heap.size) := ⟨fun W h k hk => Nat.lt_of_lt_of_le hk (bel b0 h).size⟩
  have BB : Sec (∀ W, Below (w.alloc (.cells #[.int .i64 m.kind, .int .i64 m.from_, .slice A2 m.top.length c2, .int .i64 m.n, .int .i64 m.out.status, .slice A5 m.out.term.length c5] 50)).heap.size (w.alloc (.cells #[.int .i64 m.kind, .int .i64 m.from_, .slice A2 m.top.length c2, .int .i64 m.n, .int .i64 m.out.status, .slice A5 m.out.term.length c5] 50)) W → Below w.heap.size w W) := ⟨fun W h => bel b0 h⟩
  clear hT hV b0
  cases hq : question m.top with
  | false =>
    have HE : Sec (msgOk m = false) := ⟨by unfold msgOk; rw [hq]; rfl⟩
    have HQ := Sec.mk hq
    clear hq
    obtain ⟨p0, p1, p2, p3, p4, p5⟩ := HP.out _ (Below.refl _ _)
    go_enter Tryd.func26, Tryd.ntmps26
    go_wp2_with (go_at_call 35; refine (isQuestion_i _ m.top _ _ (HV.out _ (Below.refl _ _))).mono ?_; rw [HQ.out]; rintro e w1 ⟨rfl, hb⟩; have B1 := Sec.mk hb; clear p0 p1 p2 p3 p4 p5; obtain ⟨p0, p1, p2, p3, p4, p5⟩ := HP.out _ hb; clear hb)
    go_ret
    exact ⟨rb HE.out.symm, BB.out _ B1.out⟩
  | true =>
    have HQ := Sec.mk hq
    clear hq
    cases hi : inB m.n 1 12000 with
    | false =>
      have HE : Sec (msgOk m = false) := ⟨by unfold msgOk; rw [HQ.out, hi]; rfl⟩
      have HI := Sec.mk hi
      clear hi
      obtain ⟨p0, p1, p2, p3, p4, p5⟩ := HP.out _ (Below.refl _ _)
      go_enter Tryd.func26, Tryd.ntmps26
      go_wp2_with (first | (go_at_call 36; refine (in_c _ _ _ _).mono ?_; rw [HI.out]; rintro e w' ⟨rfl, rfl⟩) | (go_at_call 35; refine (isQuestion_i _ m.top _ _ (HV.out _ (Below.refl _ _))).mono ?_; rw [HQ.out]; rintro e w1 ⟨rfl, hb⟩; have B1 := Sec.mk hb; clear p0 p1 p2 p3 p4 p5; obtain ⟨p0, p1, p2, p3, p4, p5⟩ := HP.out _ hb; clear hb))
      go_ret
      exact ⟨rb HE.out.symm, BB.out _ B1.out⟩
    | true =>
      have HI := Sec.mk hi
      clear hi
      by_cases hk : m.kind = 1
      · have hk1 : (m.kind == 1) = true := by rw [beq_iff_eq]; exact hk
        have HM : Sec (msgOk m = (inB m.from_ 0 3 && (m.out.status == 0 && ((m.out.term.length : Int) == 0)))) := ⟨by unfold msgOk; rw [HQ.out, HI.out, if_pos hk]; rfl⟩
        clear hk
        cases hf : inB m.from_ 0 3 with
        | false =>
          have HE : Sec (msgOk m = false) := ⟨by rw [HM.out, hf]; rfl⟩
          have HF := Sec.mk hf
          clear hf
          have T0 : Sec True := ⟨trivial⟩
          obtain ⟨p0, p1, p2, p3, p4, p5⟩ := HP.out _ (Below.refl _ _)
          go_enter Tryd.func26, Tryd.ntmps26
          go_wp2_with (first | (clear T1; go_at_call 36; refine (in_c _ _ _ _).mono ?_; rw [HF.out]; rintro e w' ⟨rfl, rfl⟩) | (clear T0; go_at_call 36; have T1 : Sec True := ⟨trivial⟩; refine (in_c _ _ _ _).mono ?_; rw [HI.out]; rintro e w' ⟨rfl, rfl⟩) | (go_at_call 35; refine (isQuestion_i _ m.top _ _ (HV.out _ (Below.refl _ _))).mono ?_; rw [HQ.out]; rintro e w1 ⟨rfl, hb⟩; have B1 := Sec.mk hb; clear p0 p1 p2 p3 p4 p5; obtain ⟨p0, p1, p2, p3, p4, p5⟩ := HP.out _ hb; clear hb))
          go_ret
          exact ⟨rb HE.out.symm, BB.out _ B1.out⟩
        | true =>
          have HF := Sec.mk hf
          cases hs : (m.out.status == 0) with
          | false =>
            have HE : Sec (msgOk m = false) := ⟨by rw [HM.out, hf, hs]; rfl⟩
            clear hf
            have T0 : Sec True := ⟨trivial⟩
            obtain ⟨p0, p1, p2, p3, p4, p5⟩ := HP.out _ (Below.refl _ _)
            go_enter Tryd.func26, Tryd.ntmps26
            go_wp2_with (first | (clear T1; go_at_call 36; refine (in_c _ _ _ _).mono ?_; rw [HF.out]; rintro e w' ⟨rfl, rfl⟩) | (clear T0; go_at_call 36; have T1 : Sec True := ⟨trivial⟩; refine (in_c _ _ _ _).mono ?_; rw [HI.out]; rintro e w' ⟨rfl, rfl⟩) | (go_at_call 35; refine (isQuestion_i _ m.top _ _ (HV.out _ (Below.refl _ _))).mono ?_; rw [HQ.out]; rintro e w1 ⟨rfl, hb⟩; have B1 := Sec.mk hb; clear p0 p1 p2 p3 p4 p5; obtain ⟨p0, p1, p2, p3, p4, p5⟩ := HP.out _ hb; clear hb))
            go_ret
            exact ⟨rb HE.out.symm, BB.out _ B1.out⟩
          | true =>
            have HE : Sec (msgOk m = ((m.out.term.length : Int) == 0)) := ⟨by rw [HM.out, hf, hs, Bool.true_and, Bool.true_and]⟩
            clear hf
            have T0 : Sec True := ⟨trivial⟩
            obtain ⟨p0, p1, p2, p3, p4, p5⟩ := HP.out _ (Below.refl _ _)
            go_enter Tryd.func26, Tryd.ntmps26
            go_wp2_with (first | (clear T1; go_at_call 36; refine (in_c _ _ _ _).mono ?_; rw [HF.out]; rintro e w' ⟨rfl, rfl⟩) | (clear T0; go_at_call 36; have T1 : Sec True := ⟨trivial⟩; refine (in_c _ _ _ _).mono ?_; rw [HI.out]; rintro e w' ⟨rfl, rfl⟩) | (go_at_call 35; refine (isQuestion_i _ m.top _ _ (HV.out _ (Below.refl _ _))).mono ?_; rw [HQ.out]; rintro e w1 ⟨rfl, hb⟩; have B1 := Sec.mk hb; clear p0 p1 p2 p3 p4 p5; obtain ⟨p0, p1, p2, p3, p4, p5⟩ := HP.out _ hb; clear hb))
            go_ret
            exact ⟨rb HE.out.symm, BB.out _ B1.out⟩
      · have hk1 : (m.kind == 1) = false := by rw [beq_eq_false_iff_ne]; exact hk
        have HM : Sec (msgOk m = ((m.kind == 2) && ((m.from_ == 0) && outOk m.top m.out.status m.out.term))) := ⟨by unfold msgOk; rw [HQ.out, HI.out, if_neg hk]; rfl⟩
        clear hk
        cases hk2 : (m.kind == 2) with
        | false =>
          have HE : Sec (msgOk m = false) := ⟨by rw [HM.out, hk2]; rfl⟩
          obtain ⟨p0, p1, p2, p3, p4, p5⟩ := HP.out _ (Below.refl _ _)
          go_enter Tryd.func26, Tryd.ntmps26
          go_wp2_with (first | (go_at_call 36; refine (in_c _ _ _ _).mono ?_; rw [HI.out]; rintro e w' ⟨rfl, rfl⟩) | (go_at_call 35; refine (isQuestion_i _ m.top _ _ (HV.out _ (Below.refl _ _))).mono ?_; rw [HQ.out]; rintro e w1 ⟨rfl, hb⟩; have B1 := Sec.mk hb; clear p0 p1 p2 p3 p4 p5; obtain ⟨p0, p1, p2, p3, p4, p5⟩ := HP.out _ hb; clear hb))
          go_ret
          exact ⟨rb HE.out.symm, BB.out _ B1.out⟩
        | true =>
          cases hf : (m.from_ == 0) with
          | false =>
            have HE : Sec (msgOk m = false) := ⟨by rw [HM.out, hk2, hf]; rfl⟩
            obtain ⟨p0, p1, p2, p3, p4, p5⟩ := HP.out _ (Below.refl _ _)
            go_enter Tryd.func26, Tryd.ntmps26
            go_wp2_with (first | (go_at_call 36; refine (in_c _ _ _ _).mono ?_; rw [HI.out]; rintro e w' ⟨rfl, rfl⟩) | (go_at_call 35; refine (isQuestion_i _ m.top _ _ (HV.out _ (Below.refl _ _))).mono ?_; rw [HQ.out]; rintro e w1 ⟨rfl, hb⟩; have B1 := Sec.mk hb; clear p0 p1 p2 p3 p4 p5; obtain ⟨p0, p1, p2, p3, p4, p5⟩ := HP.out _ hb; clear hb))
            go_ret
            exact ⟨rb HE.out.symm, BB.out _ B1.out⟩
          | true =>
            have HE : Sec (msgOk m = outOk m.top m.out.status m.out.term) := ⟨by rw [HM.out, hk2, hf, Bool.true_and, Bool.true_and]⟩
            obtain ⟨p0, p1, p2, p3, p4, p5⟩ := HP.out _ (Below.refl _ _)
            go_enter Tryd.func26, Tryd.ntmps26
            go_wp2_with (first | (go_at_call 11; refine (OutOk_i _ _ m.top m.out.term m.out.status _ _ (HV.out _ B1.out) (HT.out _ B1.out)).mono ?_; rintro e w2 ⟨rfl, hb⟩; have B2 := Sec.mk (bel B1.out hb); clear hb) | (go_at_call 36; refine (in_c _ _ _ _).mono ?_; rw [HI.out]; rintro e w' ⟨rfl, rfl⟩) | (go_at_call 35; refine (isQuestion_i _ m.top _ _ (HV.out _ (Below.refl _ _))).mono ?_; rw [HQ.out]; rintro e w1 ⟨rfl, hb⟩; have B1 := Sec.mk hb; clear p0 p1 p2 p3 p4 p5; obtain ⟨p0, p1, p2, p3, p4, p5⟩ := HP.out _ hb; clear hb))
            go_ret
            exact ⟨rb HE.out.symm, BB.out _ B2.out⟩
set_option maxHeartbeats 4000000 in
theorem MsgOk_c (m : Msg) (cs : List Value) (ok : Nat → Prop) (w : World) (hK : kMsg.K w ok m cs) :
    Calls Tryd.prog 24 #[.agg cs.toArray] w fun e w' => e = .returned (.bool (msgOk m)) ∧ Below w.heap.size w w' := by
  obtain ⟨v2, v5, rfl, hV0, hT0⟩ := kMsg_K hK
  have hV : kCell.V w (fun k => k < w.heap.size) v2 m.top := Kd.V_move (fun k _ hl => ⟨hl, rfl⟩) hV0 (by decide)
  have hT : kCell.V w (fun k => k < w.heap.size) v5 m.out.term := Kd.V_move (fun k _ hl => ⟨hl, rfl⟩) hT0 (by decide)
  obtain ⟨A2, c2, rfl, -⟩ := id hV
  obtain ⟨A5, c5, rfl, -⟩ := id hT
  clear hV0 hT0 hK
  have b0 : Below w.heap.size w (w.alloc (.cells #[.int .i64 m.kind, .int .i64 m.from_, .slice A2 m.top.length c2, .int .i64 m.n, .int .i64 m.out.status, .slice A5 m.out.term.length c5] 50)) := belA (Below.refl _ _) _
  have HP : Sec (∀ W, Below (w.alloc (.cells #[.int .i64 m.kind, .int .i64 m.from_, .slice A2 m.top.length c2, .int .i64 m.n, .int .i64 m.out.status, .slice A5 m.out.term.length c5] 50)).heap.size (w.alloc (.cells #[.int .i64 m.kind, .int .i64 m.from_, .slice A2 m.top.length c2, .int .i64 m.n, .int .i64 m.out.status, .slice A5 m.out.term.length c5] 50)) W → W.cell? ⟨w.heap.size, 0, none⟩ = some (.int .i64 m.kind) ∧ W.cell? ⟨w.heap.size, 1, none⟩ = some (.int .i64 m.from_) ∧ W.cell? ⟨w.heap.size, 2, none⟩ = some (.slice A2 m.top.length c2) ∧ W.cell? ⟨w.heap.size, 3, none⟩ = some (.int .i64 m.n) ∧ W.cell? ⟨w.heap.size, 4, none⟩ = some (.int .i64 m.out.status) ∧ W.cell? ⟨w.heap.size, 5, none⟩ = some (.slice A5 m.out.term.length c5)) := ⟨fun W h => by
    have X := (box_at ((h.block _ (Array.getElem?_eq_some_iff.1 (heap_alloc_new w (.cells #[.int .i64 m.kind, .int .i64 m.from_, .slice A2 m.top.length c2, .int .i64 m.n, .int .i64 m.out.status, .slice A5 m.out.term.length c5] 50))).1).trans (heap_alloc_new w _))).2.1
    exact ⟨X 0 _ rfl, X 1 _ rfl, X 2 _ rfl, X 3 _ rfl, X 4 _ rfl, X 5 _ rfl⟩⟩
  have HV : Sec (∀ W, Below (w.alloc (.cells #[.int .i64 m.kind, .int .i64 m.from_, .slice A2 m.top.length c2, .int .i64 m.n, .int .i64 m.out.status, .slice A5 m.out.term.length c5] 50)).heap.size (w.alloc (.cells #[.int .i64 m.kind, .int .i64 m.from_, .slice A2 m.top.length c2, .int .i64 m.n, .int .i64 m.out.status, .slice A5 m.out.term.length c5] 50)) W → kCell.V W (fun k => k < w.heap.size) (.slice A2 m.top.length c2) m.top) := ⟨fun W h => Kd.V_below hV (bel b0 h) (by decide)⟩
  have HT : Sec (∀ W, Below (w.alloc (.cells #[.int .i64 m.kind, .int .i64 m.from_, .slice A2 m.top.length c2, .int .i64 m.n, .int .i64 m.out.status, .slice A5 m.out.term.length c5] 50)).heap.size (w.alloc (.cells #[.int .i64 m.kind, .int .i64 m.from_, .slice A2 m.top.length c2, .int .i64 m.n, .int .i64 m.out.status, .slice A5 m.out.term.length c5] 50)) W → kCell.V W (fun k => k < w.heap.size) (.slice A5 m.out.term.length c5) m.out.term) := ⟨fun W h => Kd.V_below hT (bel b0 h) (by decide)⟩
  have HK : Sec (∀ W, Below (w.alloc (.cells #[.int .i64 m.kind, .int .i64 m.from_, .slice A2 m.top.length c2, .int .i64 m.n, .int .i64 m.out.status, .slice A5 m.out.term.length c5] 50)).heap.size (w.alloc (.cells #[.int .i64 m.kind, .int .i64 m.from_, .slice A2 m.top.length c2, .int .i64 m.n, .int .i64 m.out.status, .slice A5 m.out.term.length c5] 50)) W → ∀ k, k < w.heap.size → k < W.heap.size) := ⟨fun W h k hk => Nat.lt_of_lt_of_le hk (bel b0 h).size⟩
  have BB : Sec (∀ W, Below (w.alloc (.cells #[.int .i64 m.kind, .int .i64 m.from_, .slice A2 m.top.length c2, .int .i64 m.n, .int .i64 m.out.status, .slice A5 m.out.term.length c5] 50)).heap.size (w.alloc (.cells #[.int .i64 m.kind, .int .i64 m.from_, .slice A2 m.top.length c2, .int .i64 m.n, .int .i64 m.out.status, .slice A5 m.out.term.length c5] 50)) W → Below w.heap.size w W) := ⟨fun W h => bel b0 h⟩
  clear hT hV b0
  cases hq : question m.top with
  | false =>
    have HE : Sec (msgOk m = false) := ⟨by unfold msgOk; rw [hq]; rfl⟩
    have HQ := Sec.mk hq
    clear hq
    obtain ⟨p0, p1, p2, p3, p4, p5⟩ := HP.out _ (Below.refl _ _)
    go_enter Tryd.func24, Tryd.ntmps24
    go_wp2_with (go_at_call 29; refine (l4Top_c _ m.top _ _ (HV.out _ (Below.refl _ _)) (HK.out _ (Below.refl _ _))).mono ?_; rw [HQ.out]; rintro e w1 ⟨rfl, hb⟩; have B1 := Sec.mk hb; clear p0 p1 p2 p3 p4 p5; obtain ⟨p0, p1, p2, p3, p4, p5⟩ := HP.out _ hb; clear hb)
    go_ret
    exact ⟨rb HE.out.symm, BB.out _ B1.out⟩
  | true =>
    have HQ := Sec.mk hq
    clear hq
    cases hi : inB m.n 1 12000 with
    | false =>
      have HE : Sec (msgOk m = false) := ⟨by unfold msgOk; rw [HQ.out, hi]; rfl⟩
      have HI := Sec.mk hi
      clear hi
      obtain ⟨p0, p1, p2, p3, p4, p5⟩ := HP.out _ (Below.refl _ _)
      go_enter Tryd.func24, Tryd.ntmps24
      go_wp2_with (first | (go_at_call 30; refine (l1In_c _ _ _ _).mono ?_; rw [HI.out]; rintro e w' ⟨rfl, rfl⟩) | (go_at_call 29; refine (l4Top_c _ m.top _ _ (HV.out _ (Below.refl _ _)) (HK.out _ (Below.refl _ _))).mono ?_; rw [HQ.out]; rintro e w1 ⟨rfl, hb⟩; have B1 := Sec.mk hb; clear p0 p1 p2 p3 p4 p5; obtain ⟨p0, p1, p2, p3, p4, p5⟩ := HP.out _ hb; clear hb))
      go_ret
      exact ⟨rb HE.out.symm, BB.out _ B1.out⟩
    | true =>
      have HI := Sec.mk hi
      clear hi
      by_cases hk : m.kind = 1
      · have hk1 : (m.kind == 1) = true := by rw [beq_iff_eq]; exact hk
        have HM : Sec (msgOk m = (inB m.from_ 0 3 && (m.out.status == 0 && ((m.out.term.length : Int) == 0)))) := ⟨by unfold msgOk; rw [HQ.out, HI.out, if_pos hk]; rfl⟩
        clear hk
        cases hf : inB m.from_ 0 3 with
        | false =>
          have HE : Sec (msgOk m = false) := ⟨by rw [HM.out, hf]; rfl⟩
          have HF := Sec.mk hf
          clear hf
          have T0 : Sec True := ⟨trivial⟩
          obtain ⟨p0, p1, p2, p3, p4, p5⟩ := HP.out _ (Below.refl _ _)
          go_enter Tryd.func24, Tryd.ntmps24
          go_wp2_with (first | (clear T1; go_at_call 30; refine (l1In_c _ _ _ _).mono ?_; rw [HF.out]; rintro e w' ⟨rfl, rfl⟩) | (clear T0; go_at_call 30; have T1 : Sec True := ⟨trivial⟩; refine (l1In_c _ _ _ _).mono ?_; rw [HI.out]; rintro e w' ⟨rfl, rfl⟩) | (go_at_call 29; refine (l4Top_c _ m.top _ _ (HV.out _ (Below.refl _ _)) (HK.out _ (Below.refl _ _))).mono ?_; rw [HQ.out]; rintro e w1 ⟨rfl, hb⟩; have B1 := Sec.mk hb; clear p0 p1 p2 p3 p4 p5; obtain ⟨p0, p1, p2, p3, p4, p5⟩ := HP.out _ hb; clear hb))
          go_ret
          exact ⟨rb HE.out.symm, BB.out _ B1.out⟩
        | true =>
          have HF := Sec.mk hf
          cases hs : (m.out.status == 0) with
          | false =>
            have HE : Sec (msgOk m = false) := ⟨by rw [HM.out, hf, hs]; rfl⟩
            clear hf
            have T0 : Sec True := ⟨trivial⟩
            obtain ⟨p0, p1, p2, p3, p4, p5⟩ := HP.out _ (Below.refl _ _)
            go_enter Tryd.func24, Tryd.ntmps24
            go_wp2_with (first | (clear T1; go_at_call 30; refine (l1In_c _ _ _ _).mono ?_; rw [HF.out]; rintro e w' ⟨rfl, rfl⟩) | (clear T0; go_at_call 30; have T1 : Sec True := ⟨trivial⟩; refine (l1In_c _ _ _ _).mono ?_; rw [HI.out]; rintro e w' ⟨rfl, rfl⟩) | (go_at_call 29; refine (l4Top_c _ m.top _ _ (HV.out _ (Below.refl _ _)) (HK.out _ (Below.refl _ _))).mono ?_; rw [HQ.out]; rintro e w1 ⟨rfl, hb⟩; have B1 := Sec.mk hb; clear p0 p1 p2 p3 p4 p5; obtain ⟨p0, p1, p2, p3, p4, p5⟩ := HP.out _ hb; clear hb))
            go_ret
            exact ⟨rb HE.out.symm, BB.out _ B1.out⟩
          | true =>
            have HE : Sec (msgOk m = ((m.out.term.length : Int) == 0)) := ⟨by rw [HM.out, hf, hs, Bool.true_and, Bool.true_and]⟩
            clear hf
            have T0 : Sec True := ⟨trivial⟩
            obtain ⟨p0, p1, p2, p3, p4, p5⟩ := HP.out _ (Below.refl _ _)
            go_enter Tryd.func24, Tryd.ntmps24
            go_wp2_with (first | (clear T1; go_at_call 30; refine (l1In_c _ _ _ _).mono ?_; rw [HF.out]; rintro e w' ⟨rfl, rfl⟩) | (clear T0; go_at_call 30; have T1 : Sec True := ⟨trivial⟩; refine (l1In_c _ _ _ _).mono ?_; rw [HI.out]; rintro e w' ⟨rfl, rfl⟩) | (go_at_call 29; refine (l4Top_c _ m.top _ _ (HV.out _ (Below.refl _ _)) (HK.out _ (Below.refl _ _))).mono ?_; rw [HQ.out]; rintro e w1 ⟨rfl, hb⟩; have B1 := Sec.mk hb; clear p0 p1 p2 p3 p4 p5; obtain ⟨p0, p1, p2, p3, p4, p5⟩ := HP.out _ hb; clear hb))
            go_ret
            exact ⟨rb HE.out.symm, BB.out _ B1.out⟩
      · have hk1 : (m.kind == 1) = false := by rw [beq_eq_false_iff_ne]; exact hk
        have HM : Sec (msgOk m = ((m.kind == 2) && ((m.from_ == 0) && outOk m.top m.out.status m.out.term))) := ⟨by unfold msgOk; rw [HQ.out, HI.out, if_neg hk]; rfl⟩
        clear hk
        cases hk2 : (m.kind == 2) with
        | false =>
          have HE : Sec (msgOk m = false) := ⟨by rw [HM.out, hk2]; rfl⟩
          obtain ⟨p0, p1, p2, p3, p4, p5⟩ := HP.out _ (Below.refl _ _)
          go_enter Tryd.func24, Tryd.ntmps24
          go_wp2_with (first | (go_at_call 30; refine (l1In_c _ _ _ _).mono ?_; rw [HI.out]; rintro e w' ⟨rfl, rfl⟩) | (go_at_call 29; refine (l4Top_c _ m.top _ _ (HV.out _ (Below.refl _ _)) (HK.out _ (Below.refl _ _))).mono ?_; rw [HQ.out]; rintro e w1 ⟨rfl, hb⟩; have B1 := Sec.mk hb; clear p0 p1 p2 p3 p4 p5; obtain ⟨p0, p1, p2, p3, p4, p5⟩ := HP.out _ hb; clear hb))
          go_ret
          exact ⟨rb HE.out.symm, BB.out _ B1.out⟩
        | true =>
          cases hf : (m.from_ == 0) with
          | false =>
            have HE : Sec (msgOk m = false) := ⟨by rw [HM.out, hk2, hf]; rfl⟩
            obtain ⟨p0, p1, p2, p3, p4, p5⟩ := HP.out _ (Below.refl _ _)
            go_enter Tryd.func24, Tryd.ntmps24
            go_wp2_with (first | (go_at_call 30; refine (l1In_c _ _ _ _).mono ?_; rw [HI.out]; rintro e w' ⟨rfl, rfl⟩) | (go_at_call 29; refine (l4Top_c _ m.top _ _ (HV.out _ (Below.refl _ _)) (HK.out _ (Below.refl _ _))).mono ?_; rw [HQ.out]; rintro e w1 ⟨rfl, hb⟩; have B1 := Sec.mk hb; clear p0 p1 p2 p3 p4 p5; obtain ⟨p0, p1, p2, p3, p4, p5⟩ := HP.out _ hb; clear hb))
            go_ret
            exact ⟨rb HE.out.symm, BB.out _ B1.out⟩
          | true =>
            have HE : Sec (msgOk m = outOk m.top m.out.status m.out.term) := ⟨by rw [HM.out, hk2, hf, Bool.true_and, Bool.true_and]⟩
            obtain ⟨p0, p1, p2, p3, p4, p5⟩ := HP.out _ (Below.refl _ _)
            go_enter Tryd.func24, Tryd.ntmps24
            go_wp2_with (first | (go_at_call 8; refine (OutOk_c _ _ m.top m.out.term m.out.status _ _ (HV.out _ B1.out) (HT.out _ B1.out) (HK.out _ B1.out)).mono ?_; rintro e w2 ⟨rfl, hb⟩; have B2 := Sec.mk (bel B1.out hb); clear hb) | (go_at_call 30; refine (l1In_c _ _ _ _).mono ?_; rw [HI.out]; rintro e w' ⟨rfl, rfl⟩) | (go_at_call 29; refine (l4Top_c _ m.top _ _ (HV.out _ (Below.refl _ _)) (HK.out _ (Below.refl _ _))).mono ?_; rw [HQ.out]; rintro e w1 ⟨rfl, hb⟩; have B1 := Sec.mk hb; clear p0 p1 p2 p3 p4 p5; obtain ⟨p0, p1, p2, p3, p4, p5⟩ := HP.out _ hb; clear hb))
            go_ret
            exact ⟨rb HE.out.symm, BB.out _ B2.out⟩
end
section
open Go.RowKit
theorem carryB {w W : World} {b : Nat} {o : Obj} (h : Below w.heap.size w W) (hb : w.heap[b]? = some o) : W.heap[b]? = some o := (h.block b (Array.getElem?_eq_some_iff.1 hb).1).trans hb
end
section
open Go.RowKit
set_option linter.unusedVariables false
set_option maxRecDepth 100000
set_option maxHeartbeats 16000000 in
theorem FnExactMsgOk_law_c (s : Msg) (cs : List Value) (w0 : World) (hK : rMsg.K w0 s cs) :
    Calls Tryd.prog 5 #[.agg cs.toArray] w0 fun e w' => e = .returned (.bool true) ∧ Below w0.heap.size w0 w' := by
  have hu := Tryd.underlying46
  have hu2 := Tryd.underlying50
  obtain ⟨u2, u5, rfl, hu2_, hu5_⟩ := rMsg_K hK
  obtain ⟨Aa, ca, rfl, -⟩ := id hu2_
  obtain ⟨Ab, cb, rfl, -⟩ := id hu5_
  have WB := belA (Below.refl w0.heap.size w0) (.cells #[.int .i64 s.kind, .int .i64 s.from_, .slice Aa s.top.length ca, .int .i64 s.n, .int .i64 s.out.status, .slice Ab s.out.term.length cb] 46)
  have HP : Sec (∀ W, Below (w0.alloc (.cells #[.int .i64 s.kind, .int .i64 s.from_, .slice Aa s.top.length ca, .int .i64 s.n, .int .i64 s.out.status, .slice Ab s.out.term.length cb] 46)).heap.size (w0.alloc (.cells #[.int .i64 s.kind, .int .i64 s.from_, .slice Aa s.top.length ca, .int .i64 s.n, .int .i64 s.out.status, .slice Ab s.out.term.length cb] 46)) W → W.cell? ⟨w0.heap.size, 0, none⟩ = some (.int .i64 s.kind) ∧ W.cell? ⟨w0.heap.size, 1, none⟩ = some (.int .i64 s.from_) ∧ W.cell? ⟨w0.heap.size, 2, none⟩ = some (.slice Aa s.top.length ca) ∧ W.cell? ⟨w0.heap.size, 3, none⟩ = some (.int .i64 s.n) ∧ W.cell? ⟨w0.heap.size, 4, none⟩ = some (.int .i64 s.out.status) ∧ W.cell? ⟨w0.heap.size, 5, none⟩ = some (.slice Ab s.out.term.length cb)) := ⟨fun W h => by
    have X := (box_at ((h.block _ (Array.getElem?_eq_some_iff.1 (heap_alloc_new w0 (.cells #[.int .i64 s.kind, .int .i64 s.from_, .slice Aa s.top.length ca, .int .i64 s.n, .int .i64 s.out.status, .slice Ab s.out.term.length cb] 46))).1).trans (heap_alloc_new w0 _))).2.1
    exact ⟨X 0 _ rfl, X 1 _ rfl, X 2 _ rfl, X 3 _ rfl, X 4 _ rfl, X 5 _ rfl⟩⟩
  have HRK : Sec (∀ W, Below (w0.alloc (.cells #[.int .i64 s.kind, .int .i64 s.from_, .slice Aa s.top.length ca, .int .i64 s.n, .int .i64 s.out.status, .slice Ab s.out.term.length cb] 46)).heap.size (w0.alloc (.cells #[.int .i64 s.kind, .int .i64 s.from_, .slice Aa s.top.length ca, .int .i64 s.n, .int .i64 s.out.status, .slice Ab s.out.term.length cb] 46)) W → rMsg.K W s [.int .i64 s.kind, .int .i64 s.from_, .slice Aa s.top.length ca, .int .i64 s.n, .int .i64 s.out.status, .slice Ab s.out.term.length cb]) := ⟨fun W h => rMsg_mono _ _ _ _ (bel WB h) hK⟩
  have BB : Sec (∀ W, Below (w0.alloc (.cells #[.int .i64 s.kind, .int .i64 s.from_, .slice Aa s.top.length ca, .int .i64 s.n, .int .i64 s.out.status, .slice Ab s.out.term.length cb] 46)).heap.size (w0.alloc (.cells #[.int .i64 s.kind, .int .i64 s.from_, .slice Aa s.top.length ca, .int .i64 s.n, .int .i64 s.out.status, .slice Ab s.out.term.length cb] 46)) W → Below w0.heap.size w0 W) := ⟨fun W h => bel WB h⟩
  by_cases hbud : rMsg.wt s ≤ 1048576
  · have hsp := Raw.spent_le hbud
    have HKK : Sec (∀ W, Below (w0.alloc (.cells #[.int .i64 s.kind, .int .i64 s.from_, .slice Aa s.top.length ca, .int .i64 s.n, .int .i64 s.out.status, .slice Ab s.out.term.length cb] 46)).heap.size (w0.alloc (.cells #[.int .i64 s.kind, .int .i64 s.from_, .slice Aa s.top.length ca, .int .i64 s.n, .int .i64 s.out.status, .slice Ab s.out.term.length cb] 46)) W → kMsg.K W (fun _ => True) s [.int .i64 s.kind, .int .i64 s.from_, .slice Aa s.top.length ca, .int .i64 s.n, .int .i64 s.out.status, .slice Ab s.out.term.length cb]) := ⟨fun W h => Kd.K_mono (rMsg_fits.2 W s [.int .i64 s.kind, .int .i64 s.from_, .slice Aa s.top.length ca, .int .i64 s.n, .int .i64 s.out.status, .slice Ab s.out.term.length cb] (HRK.out W h) (by omega)) (fun _ _ => trivial)⟩
    generalize 1048576 - rMsg.wt s = l at hsp
    have hl0 : ¬ ((l : Int) < 0) := by omega
    clear hbud hK hu2_ hu5_ WB
    have hne : (msgOk s != msgOk s) = false := bne_self_eq_false _
    obtain ⟨p0, p1, p2, p3, p4, p5⟩ := HP.out _ (Below.refl _ _)
    generalize hbp : w0.heap.size = bp at *
    go_enter Tryd.func5, Tryd.ntmps5
    go_wp2_with (first | (clear T5; go_at_call 26; have T6 : Sec True := ⟨trivial⟩; refine (MsgOk_i s _ _ _ K6.out).mono ?_; rintro e w7 ⟨rfl, hb⟩; have B7 := Sec.mk (bel B6.out hb); have K7 := Sec.mk (Kd.K_below K6.out hb); have X7 := Sec.mk (carryB hb X6.out); clear y0 y1 y2 y3 y4 y5; have hY := (box_at X7.out).2.1; have y0 : w7.cell? ⟨w5.heap.size, 0, none⟩ = some (.int .i64 s.kind) := hY 0 _ rfl; have y1 : w7.cell? ⟨w5.heap.size, 1, none⟩ = some (.int .i64 s.from_) := hY 1 _ rfl; have y2 : w7.cell? ⟨w5.heap.size, 2, none⟩ = some (.slice AX s.top.length nX) := hY 2 _ rfl; have y3 : w7.cell? ⟨w5.heap.size, 3, none⟩ = some (.int .i64 s.n) := hY 3 _ rfl; have y4 : w7.cell? ⟨w5.heap.size, 4, none⟩ = some (.int .i64 s.out.status) := hY 4 _ rfl; have y5 : w7.cell? ⟨w5.heap.size, 5, none⟩ = some (.slice AY s.out.term.length nY) := hY 5 _ rfl; clear hY; clear hb) | (clear T4; with_reducible show wpList _ _ _ (⟨none, .store 50 (.tmp 5) (.tmp 16), _, _, _, _⟩ :: _) _ _; have T5 : Sec True := ⟨trivial⟩; refine wpList_store (cs := [.int .i64 s.kind, .int .i64 s.from_, .slice AX s.top.length nX, .int .i64 s.n, .int .i64 s.out.status, .slice AY s.out.term.length nY]) (old := #[.int .i64 0, .int .i64 0, .slice none 0 0, .int .i64 0, .int .i64 0, .slice none 0 0]) rfl 50 (.tmp 5) (.tmp 16) rfl rfl rfl (heap_alloc_new _ _) (by kernel_rfl) rfl (kMsg.K_one K5.out) ?_; intro w6 hb6 hF6; have B56 := Foot.below (w0 := w5) hF6 (belA (Below.refl _ _) _) (fun k hk => Nat.le_of_eq hk.symm); have B6 := Sec.mk (bel B5.out B56); have X6 := Sec.mk hb6; have K6 := Sec.mk (Kd.K_below K5.out B56); have Z6 : Sec (w5.heap.size < w6.heap.size) := ⟨(Array.getElem?_eq_some_iff.1 hb6).1⟩; have hY := (box_at X6.out).2.1; have y0 : w6.cell? ⟨w5.heap.size, 0, none⟩ = some (.int .i64 s.kind) := hY 0 _ rfl; have y1 : w6.cell? ⟨w5.heap.size, 1, none⟩ = some (.int .i64 s.from_) := hY 1 _ rfl; have y2 : w6.cell? ⟨w5.heap.size, 2, none⟩ = some (.slice AX s.top.length nX) := hY 2 _ rfl; have y3 : w6.cell? ⟨w5.heap.size, 3, none⟩ = some (.int .i64 s.n) := hY 3 _ rfl; have y4 : w6.cell? ⟨w5.heap.size, 4, none⟩ = some (.int .i64 s.out.status) := hY 4 _ rfl; have y5 : w6.cell? ⟨w5.heap.size, 5, none⟩ = some (.slice AY s.out.term.length nY) := hY 5 _ rfl; clear hY; clear hb6 hF6 B56) | (clear T3; go_at_call 25; have T4 : Sec True := ⟨trivial⟩; refine (toMsgMsg_c s [.int .i64 s.kind, .int .i64 s.from_, .slice Aa s.top.length ca, .int .i64 s.n, .int .i64 s.out.status, .slice Ab s.out.term.length cb] _ _ (HKK.out _ B3.out)).mono ?_; rintro e w5 ⟨c5_, rfl, hO, hb⟩; obtain ⟨vx, vy, rfl, hvx, hvy⟩ := kMsg_K (kMsg.O_K hO); obtain ⟨AX, nX, rfl, -⟩ := id hvx; obtain ⟨AY, nY, rfl, -⟩ := id hvy; have K5 := Sec.mk (kMsg.O_K hO); have B5 := Sec.mk (bel B3.out hb); clear hb hO hvx hvy) | (clear T2; go_at_call 24; have T3 : Sec True := ⟨trivial⟩; refine (MsgOk_c s _ _ _ K2.out).mono ?_; rintro e w3 ⟨rfl, hb⟩; have B3 := Sec.mk (bel B2.out hb); clear p0 p1 p2 p3 p4 p5; obtain ⟨p0, p1, p2, p3, p4, p5⟩ := HP.out _ B3.out; clear hb) | (clear T1; go_at_call 25; have T2 : Sec True := ⟨trivial⟩; refine (toMsgMsg_c s [.int .i64 s.kind, .int .i64 s.from_, .slice Aa s.top.length ca, .int .i64 s.n, .int .i64 s.out.status, .slice Ab s.out.term.length cb] _ _ (HKK.out _ B1.out)).mono ?_; rintro e w2 ⟨c2_, rfl, hO, hb⟩; obtain ⟨v2_, v5_, rfl, h2_, h5_⟩ := kMsg_K (kMsg.O_K hO); have K2 := Sec.mk (kMsg.O_K hO); have B2 := Sec.mk (bel B1.out hb); clear hb hO h2_ h5_) | (go_at_call 23; have T1 : Sec True := ⟨trivial⟩; refine (szMsgMsg_c s [.int .i64 s.kind, .int .i64 s.from_, .slice Aa s.top.length ca, .int .i64 s.n, .int .i64 s.out.status, .slice Ab s.out.term.length cb] 1048576 (Nat.le_refl _) _ (HRK.out _ (Below.refl _ _))).mono ?_; rintro e w1 ⟨rfl, hb⟩; rw [hsp]; have B1 := Sec.mk hb; clear p0 p1 p2 p3 p4 p5; obtain ⟨p0, p1, p2, p3, p4, p5⟩ := HP.out _ hb; clear hb))
    clear p0 p1 p2 p3 p4 p5
    obtain ⟨p0, p1, p2, p3, p4, p5⟩ := HP.out _ B7.out
    have P0 := Sec.mk p0
    have P1 := Sec.mk p1
    have P2 := Sec.mk p2
    have P3 := Sec.mk p3
    have P4 := Sec.mk p4
    have P5 := Sec.mk p5
    have Y0 := Sec.mk y0
    have Y1 := Sec.mk y1
    have Y2 := Sec.mk y2
    have Y3 := Sec.mk y3
    have Y4 := Sec.mk y4
    have Y5 := Sec.mk y5
    clear y0 y1 y2 y3 y4 y5 p0 p1 p2 p3 p4 p5
    refine wp_region_lists [[22], [23], [24], [25], [26]]
      [fun val _ _ => val 22 = .agg #[.int .i64 s.kind, .int .i64 s.from_, .slice AX s.top.length nX, .int .i64 s.n, .int .i64 s.out.status, .slice AY s.out.term.length nY],
        fun val _ _ => val 23 = .agg #[.int .i64 s.kind, .int .i64 s.from_, .slice Aa s.top.length ca, .int .i64 s.n, .int .i64 s.out.status, .slice Ab s.out.term.length cb],
        onO kMsg 24 s,
        fun val _ _ => val 25 = .bool true,
        fun val _ _ => val 26 = .bool false]
      [[], [], [], [2], []] 0 (fun _ => False) (fun _ _ => False) (by kernel_rfl) ⟨by kernel_rfl, by kernel_rfl, by kernel_rfl, by kernel_rfl, by kernel_rfl⟩
      (.cons (stab_val 22 (fun v => v = .agg #[.int .i64 s.kind, .int .i64 s.from_, .slice AX s.top.length nX, .int .i64 s.n, .int .i64 s.out.status, .slice AY s.out.term.length nY])) (.cons (stab_val 23 (fun v => v = .agg #[.int .i64 s.kind, .int .i64 s.from_, .slice Aa s.top.length ca, .int .i64 s.n, .int .i64 s.out.status, .slice Ab s.out.term.length cb])) (.cons (stab_O kMsg 24 s) (.cons (stab_val 25 (fun v => v = .bool true)) (.cons (stab_val 26 (fun v => v = .bool false)) .nil)))))
      (fun i j k h1 h2 => h1.elim) (fun i k h => h.elim) (fun i h1 h2 => by simp at h1 h2; omega) (.cons ?_ (.cons ?_ (.cons ?_ (.cons ?_ (.cons ?_ .nil))))) ?_
    · intro a W own hfor huse hap hmi hF K hK
      have e5 : a.eval (.tmp 5) = .pointer (some ⟨w5.heap.size, 0, none⟩) := hfor 5 (by kernel_rfl)
      have c0 := foot_cell hF (fun h => h) Y0.out
      have c1 := foot_cell hF (fun h => h) Y1.out
      have c2 := foot_cell hF (fun h => h) Y2.out
      have c3 := foot_cell hF (fun h => h) Y3.out
      have c4 := foot_cell hF (fun h => h) Y4.out
      have c5 := foot_cell hF (fun h => h) Y5.out
      refine op_val (.agg #[.int .i64 s.kind, .int .i64 s.from_, .slice AX s.top.length nX, .int .i64 s.n, .int .i64 s.out.status, .slice AY s.out.term.length nY]) W rfl ?_ (hK _ _ (post_pure ?_))
      · clear hfor huse hap hmi hK hF
        generalize a.eval = ρ at *
        go_simp
      · exact (if_pos rfl)
    · intro a W own hfor huse hap hmi hF K hK
      have e1 : a.eval (.tmp 1) = .pointer (some ⟨bp, 0, none⟩) := hfor 1 (by kernel_rfl)
      have c0 := foot_cell hF (fun h => h) P0.out
      have c1 := foot_cell hF (fun h => h) P1.out
      have c2 := foot_cell hF (fun h => h) P2.out
      have c3 := foot_cell hF (fun h => h) P3.out
      have c4 := foot_cell hF (fun h => h) P4.out
      have c5 := foot_cell hF (fun h => h) P5.out
      refine op_val (.agg #[.int .i64 s.kind, .int .i64 s.from_, .slice Aa s.top.length ca, .int .i64 s.n, .int .i64 s.out.status, .slice Ab s.out.term.length cb]) W rfl ?_ (hK _ _ (post_pure ?_))
      · clear hfor huse hap hmi hK hF
        generalize a.eval = ρ at *
        go_simp
      · exact (if_pos rfl)
    · intro a W own hfor huse hap hmi hF K hK
      have e23 : a.eval (.tmp 23) = .agg #[.int .i64 s.kind, .int .i64 s.from_, .slice Aa s.top.length ca, .int .i64 s.n, .int .i64 s.out.status, .slice Ab s.out.term.length cb] := huse 1 (by kernel_rfl)
      have hbw : Below w7.heap.size w7 W := hF.below (belD (Below.refl _ _)) (fun k h => h.elim)
      have efn : a.eval (.func 25) = .func (.func 25) #[] #[] := rfl
      refine op_call (f := 25) (args := #[.agg #[.int .i64 s.kind, .int .i64 s.from_, .slice Aa s.top.length ca, .int .i64 s.n, .int .i64 s.out.status, .slice Ab s.out.term.length cb]]) (fun v w1 => ∃ c : List Value, v = .agg c.toArray ∧ kMsg.O w1 (fun k => W.heap.size ≤ k) s c ∧ Below W.heap.size W w1) rfl ?_ ?_ (fun v w1 h => ?_)
      · clear hfor huse hap hmi hK hF
        generalize a.eval = ρ at *
        go_simp
      · exact (toMsgMsg_c s [.int .i64 s.kind, .int .i64 s.from_, .slice Aa s.top.length ca, .int .i64 s.n, .int .i64 s.out.status, .slice Ab s.out.term.length cb] _ W (HKK.out _ (bel B7.out hbw))).mono (by rintro e w1 ⟨c, rfl, h1, h2⟩; exact ⟨_, rfl, c, rfl, h1, h2⟩)
      · obtain ⟨c, rfl, h1, h2⟩ := h
        exact hK _ _ (post_new h2 ⟨c, if_pos rfl, kMsg.O_mono h1 (fun k h3 h4 => ⟨h3, h4⟩)⟩)
    · intro a W own hfor huse hap hmi hF K hK
      obtain ⟨cs2, e24, r2⟩ := (huse 2 (by kernel_rfl) : onO kMsg 24 s (slotsOf a) (own 2) W)
      have e24 : a.eval (.tmp 24) = .agg cs2.toArray := e24
      have e22 : a.eval (.tmp 22) = .agg #[.int .i64 s.kind, .int .i64 s.from_, .slice AX s.top.length nX, .int .i64 s.n, .int .i64 s.out.status, .slice AY s.out.term.length nY] := huse 0 (by kernel_rfl)
      have hbw : Below w7.heap.size w7 W := hF.below (belD (Below.refl _ _)) (fun k h => h.elim)
      have efn : a.eval (.func 27) = .func (.func 27) #[] #[] := rfl
      refine op_call (f := 27) (args := #[.agg ([.int .i64 s.kind, .int .i64 s.from_, .slice AX s.top.length nX, .int .i64 s.n, .int .i64 s.out.status, .slice AY s.out.term.length nY]).toArray, .agg cs2.toArray]) (fun v w1 => v = .bool true ∧ Below W.heap.size W w1) rfl ?_ ?_ (fun v w1 h => ?_)
      · clear hfor huse hap hmi hK hF
        generalize a.eval = ρ at *
        go_simp
      · exact (eqMsgMsg_c s s [.int .i64 s.kind, .int .i64 s.from_, .slice AX s.top.length nX, .int .i64 s.n, .int .i64 s.out.status, .slice AY s.out.term.length nY] cs2 _ _ W (Kd.K_below K7.out hbw) (kMsg.O_K r2)).mono (by rintro e w1 ⟨rfl, h2⟩; rw [decide_eq_true (rfl : s = s)]; exact ⟨_, rfl, rfl, h2⟩)
      · obtain ⟨rfl, h2⟩ := h
        exact hK _ _ ⟨fun k => own 2 k, Foot.of_below h2, if_pos rfl, fun k h => .inl ⟨2, by decide, h⟩⟩
    · intro a W own hfor huse hap hmi hF K hK
      have e25 : a.eval (.tmp 25) = .bool true := huse 3 (by kernel_rfl)
      refine op_val (.bool false) W rfl ?_ (hK _ _ (post_pure ?_))
      · clear hfor huse hap hmi hK hF
        generalize a.eval = ρ at *
        go_simp
      · exact (if_pos rfl)
    intro a' W own hf
    have s1 := hf.st.size
    have s2 := hf.st.rest
    have s3 := fun t ht => hf.st.kept t ht
    revert hf
    revert a'
    refine lay_intro (df := []) [true, true, true, true, true, true, true, true, true, true, true, true, true, true, true, true, true, true, true, true, true, true, false, false, false, false, false] (by kernel_rfl) rfl ?_
    intro x26 x25 x24 x23 x22 hf
    have e26 : x26 = .bool false := hf.at 4 (fun val _ _ => val 26 = .bool false) rfl (by kernel_rfl)
    subst e26
    have HF2 := Sec.mk hf.st.foot
    have BF2 := Sec.mk (HF2.out.below (belD (Below.refl _ _)) (fun k h => h.elim))
    clear hf HF2
    
    have B12 := Sec.mk (bel B7.out BF2.out)
    go_wp2
    go_ret
    subst hbp
    exact ⟨rfl, BB.out _ B12.out⟩
  · have hsp := Raw.spent_gt hbud
    clear hbud hK hu2_ hu5_ WB
    obtain ⟨p0, p1, p2, p3, p4, p5⟩ := HP.out _ (Below.refl _ _)
    generalize hbp : w0.heap.size = bp at *
    go_enter Tryd.func5, Tryd.ntmps5
    go_wp2_with (go_at_call 23; have T1 : Sec True := ⟨trivial⟩; refine (szMsgMsg_c s [.int .i64 s.kind, .int .i64 s.from_, .slice Aa s.top.length ca, .int .i64 s.n, .int .i64 s.out.status, .slice Ab s.out.term.length cb] 1048576 (Nat.le_refl _) _ (HRK.out _ (Below.refl _ _))).mono ?_; rintro e w1 ⟨rfl, hb⟩; rw [hsp]; have B1 := Sec.mk hb; clear p0 p1 p2 p3 p4 p5; obtain ⟨p0, p1, p2, p3, p4, p5⟩ := HP.out _ hb; clear hb)
    go_ret
    subst hbp
    exact ⟨rfl, BB.out _ B1.out⟩
end
end Go.Proofs.YteflipoiiddkfaaDoor
