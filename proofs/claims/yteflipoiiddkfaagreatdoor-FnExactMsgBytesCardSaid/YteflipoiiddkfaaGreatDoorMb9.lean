/- MsgOk of both sides: what it says of a message; and what goes with it. -/
import Derived.Test.YteflipoiiddkfaaGreatDoorMb2
import Derived.Test.YteflipoiiddkfaaGreatDoorMb3
import Derived.Test.YteflipoiiddkfaaGreatDoorMb5
import Derived.Test.YteflipoiiddkfaaGreatDoorMb6
import Derived.Test.YteflipoiiddkfaaGreatDoorMb8
import Derived.Outline
import Derived.KernelRfl
import Derived.WalkLawsBesides
import Derived.Deep.LoopGhost
import Derived.Deep.QuietTactic
import Derived.BigQuiet
import Derived.Laws.Bits64
import Derived.Deep.RegionHeld3
import Derived.Laws.MakeOwn
namespace Go.Proofs.YteflipoiiddkfaaGreatDoor
section
open Go.RowKit
set_option linter.unusedVariables false
set_option maxRecDepth 100000
/-- What MsgOk says. -/
noncomputable def msgOk (m : Msg) : Bool := question m.top && (inB m.n 1 12000 && (if m.kind = 1 then inB m.from_ 0 3 && (m.out.status == 0 && ((m.out.term.length : Int) == 0)) else (m.kind == 2) && ((m.from_ == 0) && outOk m.top m.out.status m.out.term)))
set_option maxHeartbeats 4000000 in
theorem MsgOk_i (m : Msg) (cs : List Value) (ok : Nat → Prop) (w : World) (hK : kMsg.K w ok m cs) :
    Calls Tryz.prog 26 #[.agg cs.toArray] w fun e w' => e = .returned (.bool (msgOk m)) ∧ Below w.heap.size w w' := by
  obtain ⟨v2, v5, rfl, hV0, hT0⟩ := kMsg_K hK
  have hV : kCell.V w (fun k => k < w.heap.size) v2 m.top := Kd.V_move (fun k _ hl => ⟨hl, rfl⟩) hV0 (by decide)
  have hT : kCell.V w (fun k => k < w.heap.size) v5 m.out.term := Kd.V_move (fun k _ hl => ⟨hl, rfl⟩) hT0 (by decide)
  obtain ⟨A2, c2, rfl, -⟩ := id hV
  obtain ⟨A5, c5, rfl, -⟩ := id hT
  clear hV0 hT0 hK
  have b0 : Below w.heap.size w (w.alloc (.cells #[.int .i64 m.kind, .int .i64 m.from_, .slice A2 m.top.length c2, .int .i64 m.n, .int .i64 m.out.status, .slice A5 m.out.term.length c5] 34)) := belA (Below.refl _ _) _
  have HP : Sec (∀ W, Below (w.alloc (.cells #[.int .i64 m.kind, .int .i64 m.from_, .slice A2 m.top.length c2, .int .i64 m.n, .int .i64 m.out.status, .slice A5 m.out.term.length c5] 34)).heap.size (w.alloc (.cells #[.int .i64 m.kind, .int .i64 m.from_, .slice A2 m.top.length c2, .int .i64 m.n, .int .i64 m.out.status, .slice A5 m.out.term.length c5] 34)) W → W.cell? ⟨w.heap.size, 0, none⟩ = some (.int .i64 m.kind) ∧ W.cell? ⟨w.heap.size, 1, none⟩ = some (.int .i64 m.from_) ∧ W.cell? ⟨w.heap.size, 2, none⟩ = some (.slice A2 m.top.length c2) ∧ W.cell? ⟨w.heap.size, 3, none⟩ = some (.int .i64 m.n) ∧ W.cell? ⟨w.heap.size, 4, none⟩ = some (.int .i64 m.out.status) ∧ W.cell? ⟨w.heap.size, 5, none⟩ = some (.slice A5 m.out.term.length c5)) := ⟨fun W h => by
    have X := (box_at ((h.block _ (Array.getElem?_eq_some_iff.1 (heap_alloc_new w (.cells #[.int .i64 m.kind, .int .i64 m.from_, .slice A2 m.top.length c2, .int .i64 m.n, .int .i64 m.out.status, .slice A5 m.out.term.length c5] 34))).1).trans (heap_alloc_new w _))).2.1
    exact ⟨X 0 _ rfl, X 1 _ rfl, X 2 _ rfl, X 3 _ rfl, X 4 _ rfl, X 5 _ rfl⟩⟩
  have HV : Sec (∀ W, Below (w.alloc (.cells #[.int .i64 m.kind, .int .i64 m.from_, .slice A2 m.top.length c2, .int .i64 m.n, .int .i64 m.out.status, .slice A5 m.out.term.length c5] 34)).heap.size (w.alloc (.cells #[.int .i64 m.kind, .int .i64 m.from_, .slice A2 m.top.length c2, .int .i64 m.n, .int .i64 m.out.status, .slice A5 m.out.term.length c5] 34)) W → kCell.V W (fun k => k < w.heap.size) (.slice A2 m.top.length c2) m.top) := ⟨fun W h => Kd.V_below hV (bel b0 h) (by decide)⟩
  have HT : Sec (∀ W, Below (w.alloc (.cells #[.int .i64 m.kind, .int .i64 m.from_, .slice A2 m.top.length c2, .int .i64 m.n, .int .i64 m.out.status, .slice A5 m.out.term.length c5] 34)).heap.size (w.alloc (.cells #[.int .i64 m.kind, .int .i64 m.from_, .slice A2 m.top.length c2, .int .i64 m.n, .int .i64 m.out.status, .slice A5 m.out.term.length c5] 34)) W → kCell.V W (fun k => k < w.heap.size) (.slice A5 m.out.term.length c5) m.out.term) := ⟨fun W h => Kd.V_below hT (bel b0 h) (by decide)⟩
  have HK : Sec (∀ W, Below (w.alloc (.cells #[.int .i64 m.kind, .int .i64 m.from_, .slice A2 m.top.length c2, .int .i64 m.n, .int .i64 m.out.status, .slice A5 m.out.term.length c5] 34)).heap.size (w.alloc (.cells #[.int .i64 m.kind, .int .i64 m.from_, .slice A2 m.top.length c2, .int .i64 m.n, .int .i64 m.out.status, .slice A5 m.out.term.length c5] 34)) W → ∀ k, k < w.heap.size → k < W.heap.size) := ⟨fun W h k hk => Nat.lt_of_lt_of_le hk (bel b0 h).size⟩
  have BB : Sec (∀ W, Below (w.alloc (.cells #[.int .i64 m.kind, .int .i64 m.from_, .slice A2 m.top.length c2, .int .i64 m.n, .int .i64 m.out.status, .slice A5 m.out.term.length c5] 34)).heap.size (w.alloc (.cells #[.int .i64 m.kind, .int .i64 m.from_, .slice A2 m.top.length c2, .int .i64 m.n, .int .i64 m.out.status, .slice A5 m.out.term.length c5] 34)) W → Below w.heap.size w W) := ⟨fun W h => bel b0 h⟩
  clear hT hV b0
  cases hq : question m.top with
  | false =>
    have HE : Sec (msgOk m = false) := ⟨by unfold msgOk; rw [hq]; rfl⟩
    have HQ := Sec.mk hq
    clear hq
    obtain ⟨p0, p1, p2, p3, p4, p5⟩ := HP.out _ (Below.refl _ _)
    go_enter Tryz.func26, Tryz.ntmps26
    go_wp2_with (go_at_call 51; refine (isQuestion_i _ m.top _ _ (HV.out _ (Below.refl _ _))).mono ?_; rw [HQ.out]; rintro e w1 ⟨rfl, hb⟩; have B1 := Sec.mk hb; clear p0 p1 p2 p3 p4 p5; obtain ⟨p0, p1, p2, p3, p4, p5⟩ := HP.out _ hb; clear hb)
    go_ret
    exact ⟨rb HE.out.symm, BB.out _ B1.out⟩
  | true =>
    have HQ := Sec.mk hq
    clear hq
    cases hi : inB m.n 1 12000 with
    | false =>
      have HE : Sec (msgOk m = false) := ⟨by unfold msgOk; rw [HQ.out, hi]; rfl⟩
      have HI := Sec.mk hi
      clear hi
      obtain ⟨p0, p1, p2, p3, p4, p5⟩ := HP.out _ (Below.refl _ _)
      go_enter Tryz.func26, Tryz.ntmps26
      go_wp2_with (first | (go_at_call 52; refine (in_c _ _ _ _).mono ?_; rw [HI.out]; rintro e w' ⟨rfl, rfl⟩) | (go_at_call 51; refine (isQuestion_i _ m.top _ _ (HV.out _ (Below.refl _ _))).mono ?_; rw [HQ.out]; rintro e w1 ⟨rfl, hb⟩; have B1 := Sec.mk hb; clear p0 p1 p2 p3 p4 p5; obtain ⟨p0, p1, p2, p3, p4, p5⟩ := HP.out _ hb; clear hb))
      go_ret
      exact ⟨rb HE.out.symm, BB.out _ B1.out⟩
    | true =>
      have HI := Sec.mk hi
      clear hi
      by_cases hk : m.kind = 1
      · have hk1 : (m.kind == 1) = true := by rw [beq_iff_eq]; exact hk
        have HM : Sec (msgOk m = (inB m.from_ 0 3 && (m.out.status == 0 && ((m.out.term.length : Int) == 0)))) := ⟨by unfold msgOk; rw [HQ.out, HI.out, if_pos hk]; rfl⟩
        clear hk
        cases hf : inB m.from_ 0 3 with
        | false =>
          have HE : Sec (msgOk m = false) := ⟨by rw [HM.out, hf]; rfl⟩
          have HF := Sec.mk hf
          clear hf
          have T0 : Sec True := ⟨trivial⟩
          obtain ⟨p0, p1, p2, p3, p4, p5⟩ := HP.out _ (Below.refl _ _)
          go_enter Tryz.func26, Tryz.ntmps26
          go_wp2_with (first | (clear T1; go_at_call 52; refine (in_c _ _ _ _).mono ?_; rw [HF.out]; rintro e w' ⟨rfl, rfl⟩) | (clear T0; go_at_call 52; have T1 : Sec True := ⟨trivial⟩; refine (in_c _ _ _ _).mono ?_; rw [HI.out]; rintro e w' ⟨rfl, rfl⟩) | (go_at_call 51; refine (isQuestion_i _ m.top _ _ (HV.out _ (Below.refl _ _))).mono ?_; rw [HQ.out]; rintro e w1 ⟨rfl, hb⟩; have B1 := Sec.mk hb; clear p0 p1 p2 p3 p4 p5; obtain ⟨p0, p1, p2, p3, p4, p5⟩ := HP.out _ hb; clear hb))
          go_ret
          exact ⟨rb HE.out.symm, BB.out _ B1.out⟩
        | true =>
          have HF := Sec.mk hf
          cases hs : (m.out.status == 0) with
          | false =>
            have HE : Sec (msgOk m = false) := ⟨by rw [HM.out, hf, hs]; rfl⟩
            clear hf
            have T0 : Sec True := ⟨trivial⟩
            obtain ⟨p0, p1, p2, p3, p4, p5⟩ := HP.out _ (Below.refl _ _)
            go_enter Tryz.func26, Tryz.ntmps26
            go_wp2_with (first | (clear T1; go_at_call 52; refine (in_c _ _ _ _).mono ?_; rw [HF.out]; rintro e w' ⟨rfl, rfl⟩) | (clear T0; go_at_call 52; have T1 : Sec True := ⟨trivial⟩; refine (in_c _ _ _ _).mono ?_; rw [HI.out]; rintro e w' ⟨rfl, rfl⟩) | (go_at_call 51; refine (isQuestion_i _ m.top _ _ (HV.out _ (Below.refl _ _))).mono ?_; rw [HQ.out]; rintro e w1 ⟨rfl, hb⟩; have B1 := Sec.mk hb; clear p0 p1 p2 p3 p4 p5; obtain ⟨p0, p1, p2, p3, p4, p5⟩ := HP.out _ hb; clear hb))
            go_ret
            exact ⟨rb HE.out.symm, BB.out _ B1.out⟩
          | true =>
            have HE : Sec (msgOk m = ((m.out.term.length : Int) == 0)) := ⟨by rw [HM.out, hf, hs, Bool.true_and, Bool.true_and]⟩
            clear hf
            have T0 : Sec True := ⟨trivial⟩
            obtain ⟨p0, p1, p2, p3, p4, p5⟩ := HP.out _ (Below.refl _ _)
            go_enter Tryz.func26, Tryz.ntmps26
            go_wp2_with (first | (clear T1; go_at_call 52; refine (in_c _ _ _ _).mono ?_; rw [HF.out]; rintro e w' ⟨rfl, rfl⟩) | (clear T0; go_at_call 52; have T1 : Sec True := ⟨trivial⟩; refine (in_c _ _ _ _).mono ?_; rw [HI.out]; rintro e w' ⟨rfl, rfl⟩) | (go_at_call 51; refine (isQuestion_i _ m.top _ _ (HV.out _ (Below.refl _ _))).mono ?_; rw [HQ.out]; rintro e w1 ⟨rfl, hb⟩; have B1 := Sec.mk hb; clear p0 p1 p2 p3 p4 p5; obtain ⟨p0, p1, p2, p3, p4, p5⟩ := HP.out _ hb; clear hb))
            go_ret
            exact ⟨rb HE.out.symm, BB.out _ B1.out⟩
      · have hk1 : (m.kind == 1) = false := by rw [beq_eq_false_iff_ne]; exact hk
        have HM : Sec (msgOk m = ((m.kind == 2) && ((m.from_ == 0) && outOk m.top m.out.status m.out.term))) := ⟨by unfold msgOk; rw [HQ.out, HI.out, if_neg hk]; rfl⟩
        clear hk
        cases hk2 : (m.kind == 2) with
        | false =>
          have HE : Sec (msgOk m = false) := ⟨by rw [HM.out, hk2]; rfl⟩
          obtain ⟨p0, p1, p2, p3, p4, p5⟩ := HP.out _ (Below.refl _ _)
          go_enter Tryz.func26, Tryz.ntmps26
          go_wp2_with (first | (go_at_call 52; refine (in_c _ _ _ _).mono ?_; rw [HI.out]; rintro e w' ⟨rfl, rfl⟩) | (go_at_call 51; refine (isQuestion_i _ m.top _ _ (HV.out _ (Below.refl _ _))).mono ?_; rw [HQ.out]; rintro e w1 ⟨rfl, hb⟩; have B1 := Sec.mk hb; clear p0 p1 p2 p3 p4 p5; obtain ⟨p0, p1, p2, p3, p4, p5⟩ := HP.out _ hb; clear hb))
          go_ret
          exact ⟨rb HE.out.symm, BB.out _ B1.out⟩
        | true =>
          cases hf : (m.from_ == 0) with
          | false =>
            have HE : Sec (msgOk m = false) := ⟨by rw [HM.out, hk2, hf]; rfl⟩
            obtain ⟨p0, p1, p2, p3, p4, p5⟩ := HP.out _ (Below.refl _ _)
            go_enter Tryz.func26, Tryz.ntmps26
            go_wp2_with (first | (go_at_call 52; refine (in_c _ _ _ _).mono ?_; rw [HI.out]; rintro e w' ⟨rfl, rfl⟩) | (go_at_call 51; refine (isQuestion_i _ m.top _ _ (HV.out _ (Below.refl _ _))).mono ?_; rw [HQ.out]; rintro e w1 ⟨rfl, hb⟩; have B1 := Sec.mk hb; clear p0 p1 p2 p3 p4 p5; obtain ⟨p0, p1, p2, p3, p4, p5⟩ := HP.out _ hb; clear hb))
            go_ret
            exact ⟨rb HE.out.symm, BB.out _ B1.out⟩
          | true =>
            have HE : Sec (msgOk m = outOk m.top m.out.status m.out.term) := ⟨by rw [HM.out, hk2, hf, Bool.true_and, Bool.true_and]⟩
            obtain ⟨p0, p1, p2, p3, p4, p5⟩ := HP.out _ (Below.refl _ _)
            go_enter Tryz.func26, Tryz.ntmps26
            go_wp2_with (first | (go_at_call 53; refine (OutOk_i _ _ m.top m.out.term m.out.status _ _ (HV.out _ B1.out) (HT.out _ B1.out)).mono ?_; rintro e w2 ⟨rfl, hb⟩; have B2 := Sec.mk (bel B1.out hb); clear hb) | (go_at_call 52; refine (in_c _ _ _ _).mono ?_; rw [HI.out]; rintro e w' ⟨rfl, rfl⟩) | (go_at_call 51; refine (isQuestion_i _ m.top _ _ (HV.out _ (Below.refl _ _))).mono ?_; rw [HQ.out]; rintro e w1 ⟨rfl, hb⟩; have B1 := Sec.mk hb; clear p0 p1 p2 p3 p4 p5; obtain ⟨p0, p1, p2, p3, p4, p5⟩ := HP.out _ hb; clear hb))
            go_ret
            exact ⟨rb HE.out.symm, BB.out _ B2.out⟩
set_option maxHeartbeats 4000000 in
theorem MsgOk_c (m : Msg) (cs : List Value) (ok : Nat → Prop) (w : World) (hK : kMsg.K w ok m cs) :
    Calls Tryz.prog 20 #[.agg cs.toArray] w fun e w' => e = .returned (.bool (msgOk m)) ∧ Below w.heap.size w w' := by
  obtain ⟨v2, v5, rfl, hV0, hT0⟩ := kMsg_K hK
  have hV : kCell.V w (fun k => k < w.heap.size) v2 m.top := Kd.V_move (fun k _ hl => ⟨hl, rfl⟩) hV0 (by decide)
  have hT : kCell.V w (fun k => k < w.heap.size) v5 m.out.term := Kd.V_move (fun k _ hl => ⟨hl, rfl⟩) hT0 (by decide)
  obtain ⟨A2, c2, rfl, -⟩ := id hV
  obtain ⟨A5, c5, rfl, -⟩ := id hT
  clear hV0 hT0 hK
  have b0 : Below w.heap.size w (w.alloc (.cells #[.int .i64 m.kind, .int .i64 m.from_, .slice A2 m.top.length c2, .int .i64 m.n, .int .i64 m.out.status, .slice A5 m.out.term.length c5] 34)) := belA (Below.refl _ _) _
  have HP : Sec (∀ W, Below (w.alloc (.cells #[.int .i64 m.kind, .int .i64 m.from_, .slice A2 m.top.length c2, .int .i64 m.n, .int .i64 m.out.status, .slice A5 m.out.term.length c5] 34)).heap.size (w.alloc (.cells #[.int .i64 m.kind, .int .i64 m.from_, .slice A2 m.top.length c2, .int .i64 m.n, .int .i64 m.out.status, .slice A5 m.out.term.length c5] 34)) W → W.cell? ⟨w.heap.size, 0, none⟩ = some (.int .i64 m.kind) ∧ W.cell? ⟨w.heap.size, 1, none⟩ = some (.int .i64 m.from_) ∧ W.cell? ⟨w.heap.size, 2, none⟩ = some (.slice A2 m.top.length c2) ∧ W.cell? ⟨w.heap.size, 3, none⟩ = some (.int .i64 m.n) ∧ W.cell? ⟨w.heap.size, 4, none⟩ = some (.int .i64 m.out.status) ∧ W.cell? ⟨w.heap.size, 5, none⟩ = some (.slice A5 m.out.term.length c5)) := ⟨fun W h => by
    have X := (box_at ((h.block _ (Array.getElem?_eq_some_iff.1 (heap_alloc_new w (.cells #[.int .i64 m.kind, .int .i64 m.from_, .slice A2 m.top.length c2, .int .i64 m.n, .int .i64 m.out.status, .slice A5 m.out.term.length c5] 34))).1).trans (heap_alloc_new w _))).2.1
    exact ⟨X 0 _ rfl, X 1 _ rfl, X 2 _ rfl, X 3 _ rfl, X 4 _ rfl, X 5 _ rfl⟩⟩
  have HV : Sec (∀ W, Below (w.alloc (.cells #[.int .i64 m.kind, .int .i64 m.from_, .slice A2 m.top.length c2, .int .i64 m.n, .int .i64 m.out.status, .slice A5 m.out.term.length c5] 34)).heap.size (w.alloc (.cells #[.int .i64 m.kind, .int .i64 m.from_, .slice A2 m.top.length c2, .int .i64 m.n, .int .i64 m.out.status, .slice A5 m.out.term.length c5] 34)) W → kCell.V W (fun k => k < w.heap.size) (.slice A2 m.top.length c2) m.top) := ⟨fun W h => Kd.V_below hV (bel b0 h) (by decide)⟩
  have HT : Sec (∀ W, Below (w.alloc (.cells #[.int .i64 m.kind, .int .i64 m.from_, .slice A2 m.top.length c2, .int .i64 m.n, .int .i64 m.out.status, .slice A5 m.out.term.length c5] 34)).heap.size (w.alloc (.cells #[.int .i64 m.kind, .int .i64 m.from_, .slice A2 m.top.length c2, .int .i64 m.n, .int .i64 m.out.status, .slice A5 m.out.term.length c5] 34)) W → kCell.V W (fun k => k < w.heap.size) (.slice A5 m.out.term.length c5) m.out.term) := ⟨fun W h => Kd.V_below hT (bel b0 h) (by decide)⟩
  have HK : Sec (∀ W, Below (w.alloc (.cells #[.int .i64 m.kind, .int .i64 m.from_, .slice A2 m.top.length c2, .int .i64 m.n, .int .i64 m.out.status, .slice A5 m.out.term.length c5] 34)).heap.size (w.alloc (.cells #[.int .i64 m.kind, .int .i64 m.from_, .slice A2 m.top.length c2, .int .i64 m.n, .int .i64 m.out.status, .slice A5 m.out.term.length c5] 34)) W → ∀ k, k < w.heap.size → k < W.heap.size) := ⟨fun W h k hk => Nat.lt_of_lt_of_le hk (bel b0 h).size⟩
  have BB : Sec (∀ W, Below (w.alloc (.cells #[.int .i64 m.kind, .int .i64 m.from_, .slice A2 m.top.length c2, .int .i64 m.n, .int .i64 m.out.status, .slice A5 m.out.term.length c5] 34)).heap.size (w.alloc (.cells #[.int .i64 m.kind, .int .i64 m.from_, .slice A2 m.top.length c2, .int .i64 m.n, .int .i64 m.out.status, .slice A5 m.out.term.length c5] 34)) W → Below w.heap.size w W) := ⟨fun W h => bel b0 h⟩
  clear hT hV b0
  cases hq : question m.top with
  | false =>
    have HE : Sec (msgOk m = false) := ⟨by unfold msgOk; rw [hq]; rfl⟩
    have HQ := Sec.mk hq
    clear hq
    obtain ⟨p0, p1, p2, p3, p4, p5⟩ := HP.out _ (Below.refl _ _)
    go_enter Tryz.func20, Tryz.ntmps20
    go_wp2_with (go_at_call 45; refine (l4Top_c _ m.top _ _ (HV.out _ (Below.refl _ _)) (HK.out _ (Below.refl _ _))).mono ?_; rw [HQ.out]; rintro e w1 ⟨rfl, hb⟩; have B1 := Sec.mk hb; clear p0 p1 p2 p3 p4 p5; obtain ⟨p0, p1, p2, p3, p4, p5⟩ := HP.out _ hb; clear hb)
    go_ret
    exact ⟨rb HE.out.symm, BB.out _ B1.out⟩
  | true =>
    have HQ := Sec.mk hq
    clear hq
    cases hi : inB m.n 1 12000 with
    | false =>
      have HE : Sec (msgOk m = false) := ⟨by unfold msgOk; rw [HQ.out, hi]; rfl⟩
      have HI := Sec.mk hi
      clear hi
      obtain ⟨p0, p1, p2, p3, p4, p5⟩ := HP.out _ (Below.refl _ _)
      go_enter Tryz.func20, Tryz.ntmps20
      go_wp2_with (first | (go_at_call 46; refine (l1In_c _ _ _ _).mono ?_; rw [HI.out]; rintro e w' ⟨rfl, rfl⟩) | (go_at_call 45; refine (l4Top_c _ m.top _ _ (HV.out _ (Below.refl _ _)) (HK.out _ (Below.refl _ _))).mono ?_; rw [HQ.out]; rintro e w1 ⟨rfl, hb⟩; have B1 := Sec.mk hb; clear p0 p1 p2 p3 p4 p5; obtain ⟨p0, p1, p2, p3, p4, p5⟩ := HP.out _ hb; clear hb))
      go_ret
      exact ⟨rb HE.out.symm, BB.out _ B1.out⟩
    | true =>
      have HI := Sec.mk hi
      clear hi
      by_cases hk : m.kind = 1
      · have hk1 : (m.kind == 1) = true := by rw [beq_iff_eq]; exact hk
        have HM : Sec (msgOk m = (inB m.from_ 0 3 && (m.out.status == 0 && ((m.out.term.length : Int) == 0)))) := ⟨by unfold msgOk; rw [HQ.out, HI.out, if_pos hk]; rfl⟩
        clear hk
        cases hf : inB m.from_ 0 3 with
        | false =>
          have HE : Sec (msgOk m = false) := ⟨by rw [HM.out, hf]; rfl⟩
          have HF := Sec.mk hf
          clear hf
          have T0 : Sec True := ⟨trivial⟩
          obtain ⟨p0, p1, p2, p3, p4, p5⟩ := HP.out _ (Below.refl _ _)
          go_enter Tryz.func20, Tryz.ntmps20
          go_wp2_with (first | (clear T1; go_at_call 46; refine (l1In_c _ _ _ _).mono ?_; rw [HF.out]; rintro e w' ⟨rfl, rfl⟩) | (clear T0; go_at_call 46; have T1 : Sec True := ⟨trivial⟩; refine (l1In_c _ _ _ _).mono ?_; rw [HI.out]; rintro e w' ⟨rfl, rfl⟩) | (go_at_call 45; refine (l4Top_c _ m.top _ _ (HV.out _ (Below.refl _ _)) (HK.out _ (Below.refl _ _))).mono ?_; rw [HQ.out]; rintro e w1 ⟨rfl, hb⟩; have B1 := Sec.mk hb; clear p0 p1 p2 p3 p4 p5; obtain ⟨p0, p1, p2, p3, p4, p5⟩ := HP.out _ hb; clear hb))
          go_ret
          exact ⟨rb HE.out.symm, BB.out _ B1.out⟩
        | true =>
          have HF := Sec.mk hf
          cases hs : (m.out.status == 0) with
          | false =>
            have HE : Sec (msgOk m = false) := ⟨by rw [HM.out, hf, hs]; rfl⟩
            clear hf
            have T0 : Sec True := ⟨trivial⟩
            obtain ⟨p0, p1, p2, p3, p4, p5⟩ := HP.out _ (Below.refl _ _)
            go_enter Tryz.func20, Tryz.ntmps20
            go_wp2_with (first | (clear T1; go_at_call 46; refine (l1In_c _ _ _ _).mono ?_; rw [HF.out]; rintro e w' ⟨rfl, rfl⟩) | (clear T0; go_at_call 46; have T1 : Sec True := ⟨trivial⟩; refine (l1In_c _ _ _ _).mono ?_; rw [HI.out]; rintro e w' ⟨rfl, rfl⟩) | (go_at_call 45; refine (l4Top_c _ m.top _ _ (HV.out _ (Below.refl _ _)) (HK.out _ (Below.refl _ _))).mono ?_; rw [HQ.out]; rintro e w1 ⟨rfl, hb⟩; have B1 := Sec.mk hb; clear p0 p1 p2 p3 p4 p5; obtain ⟨p0, p1, p2, p3, p4, p5⟩ := HP.out _ hb; clear hb))
            go_ret
            exact ⟨rb HE.out.symm, BB.out _ B1.out⟩
          | true =>
            have HE : Sec (msgOk m = ((m.out.term.length : Int) == 0)) := ⟨by rw [HM.out, hf, hs, Bool.true_and, Bool.true_and]⟩
            clear hf
            have T0 : Sec True := ⟨trivial⟩
            obtain ⟨p0, p1, p2, p3, p4, p5⟩ := HP.out _ (Below.refl _ _)
            go_enter Tryz.func20, Tryz.ntmps20
            go_wp2_with (first | (clear T1; go_at_call 46; refine (l1In_c _ _ _ _).mono ?_; rw [HF.out]; rintro e w' ⟨rfl, rfl⟩) | (clear T0; go_at_call 46; have T1 : Sec True := ⟨trivial⟩; refine (l1In_c _ _ _ _).mono ?_; rw [HI.out]; rintro e w' ⟨rfl, rfl⟩) | (go_at_call 45; refine (l4Top_c _ m.top _ _ (HV.out _ (Below.refl _ _)) (HK.out _ (Below.refl _ _))).mono ?_; rw [HQ.out]; rintro e w1 ⟨rfl, hb⟩; have B1 := Sec.mk hb; clear p0 p1 p2 p3 p4 p5; obtain ⟨p0, p1, p2, p3, p4, p5⟩ := HP.out _ hb; clear hb))
            go_ret
            exact ⟨rb HE.out.symm, BB.out _ B1.out⟩
      · have hk1 : (m.kind == 1) = false := by rw [beq_eq_false_iff_ne]; exact hk
        have HM : Sec (msgOk m = ((m.kind == 2) && ((m.from_ == 0) && outOk m.top m.out.status m.out.term))) := ⟨by unfold msgOk; rw [HQ.out, HI.out, if_neg hk]; rfl⟩
        clear hk
        cases hk2 : (m.kind == 2) with
        | false =>
          have HE : Sec (msgOk m = false) := ⟨by rw [HM.out, hk2]; rfl⟩
          obtain ⟨p0, p1, p2, p3, p4, p5⟩ := HP.out _ (Below.refl _ _)
          go_enter Tryz.func20, Tryz.ntmps20
          go_wp2_with (first | (go_at_call 46; refine (l1In_c _ _ _ _).mono ?_; rw [HI.out]; rintro e w' ⟨rfl, rfl⟩) | (go_at_call 45; refine (l4Top_c _ m.top _ _ (HV.out _ (Below.refl _ _)) (HK.out _ (Below.refl _ _))).mono ?_; rw [HQ.out]; rintro e w1 ⟨rfl, hb⟩; have B1 := Sec.mk hb; clear p0 p1 p2 p3 p4 p5; obtain ⟨p0, p1, p2, p3, p4, p5⟩ := HP.out _ hb; clear hb))
          go_ret
          exact ⟨rb HE.out.symm, BB.out _ B1.out⟩
        | true =>
          cases hf : (m.from_ == 0) with
          | false =>
            have HE : Sec (msgOk m = false) := ⟨by rw [HM.out, hk2, hf]; rfl⟩
            obtain ⟨p0, p1, p2, p3, p4, p5⟩ := HP.out _ (Below.refl _ _)
            go_enter Tryz.func20, Tryz.ntmps20
            go_wp2_with (first | (go_at_call 46; refine (l1In_c _ _ _ _).mono ?_; rw [HI.out]; rintro e w' ⟨rfl, rfl⟩) | (go_at_call 45; refine (l4Top_c _ m.top _ _ (HV.out _ (Below.refl _ _)) (HK.out _ (Below.refl _ _))).mono ?_; rw [HQ.out]; rintro e w1 ⟨rfl, hb⟩; have B1 := Sec.mk hb; clear p0 p1 p2 p3 p4 p5; obtain ⟨p0, p1, p2, p3, p4, p5⟩ := HP.out _ hb; clear hb))
            go_ret
            exact ⟨rb HE.out.symm, BB.out _ B1.out⟩
          | true =>
            have HE : Sec (msgOk m = outOk m.top m.out.status m.out.term) := ⟨by rw [HM.out, hk2, hf, Bool.true_and, Bool.true_and]⟩
            obtain ⟨p0, p1, p2, p3, p4, p5⟩ := HP.out _ (Below.refl _ _)
            go_enter Tryz.func20, Tryz.ntmps20
            go_wp2_with (first | (go_at_call 47; refine (OutOk_c _ _ m.top m.out.term m.out.status _ _ (HV.out _ B1.out) (HT.out _ B1.out) (HK.out _ B1.out)).mono ?_; rintro e w2 ⟨rfl, hb⟩; have B2 := Sec.mk (bel B1.out hb); clear hb) | (go_at_call 46; refine (l1In_c _ _ _ _).mono ?_; rw [HI.out]; rintro e w' ⟨rfl, rfl⟩) | (go_at_call 45; refine (l4Top_c _ m.top _ _ (HV.out _ (Below.refl _ _)) (HK.out _ (Below.refl _ _))).mono ?_; rw [HQ.out]; rintro e w1 ⟨rfl, hb⟩; have B1 := Sec.mk hb; clear p0 p1 p2 p3 p4 p5; obtain ⟨p0, p1, p2, p3, p4, p5⟩ := HP.out _ hb; clear hb))
            go_ret
            exact ⟨rb HE.out.symm, BB.out _ B2.out⟩
end
section
open Go.RowKit
set_option linter.unusedVariables false
set_option maxRecDepth 100000

/-- Only block g of what was there has turned. -/
structure Only (g : Nat) (w w' : World) : Prop where
  os : w'.os = w.os
  tape : w'.tape = w.tape
  output : w'.output = w.output
  size : w.heap.size ≤ w'.heap.size
  block : ∀ k, k < w.heap.size → k ≠ g → w'.heap[k]? = w.heap[k]?
theorem Only.refl (g : Nat) (w : World) : Only g w w := ⟨rfl, rfl, rfl, Nat.le_refl _, fun _ _ _ => rfl⟩
theorem Only.of_below {g : Nat} {w w' : World} (h : Below w.heap.size w w') : Only g w w' := ⟨h.os, h.tape, h.output, h.size, fun k hk _ => h.block k hk⟩
theorem Only.trans {g : Nat} {a b c : World} (h : Only g a b) (k : Only g b c) : Only g a c :=
  ⟨k.os.trans h.os, k.tape.trans h.tape, k.output.trans h.output, Nat.le_trans h.size k.size, fun i hi hg => (k.block i (Nat.lt_of_lt_of_le hi h.size) hg).trans (h.block i hi hg)⟩
theorem Only.alloc {g : Nat} {a b : World} (h : Only g a b) (o : Obj) : Only g a (b.alloc o) := h.trans (Only.of_below (belA (Below.refl _ _) o))
theorem Only.drew {g : Nat} {a b : World} (h : Only g a b) : Only g a b.drew := ⟨h.os, h.tape, h.output, h.size, h.block⟩
theorem Only.set {g : Nat} {a b : World} (h : Only g a b) (i : Nat) (u : Value) : Only g a (b.setCell ⟨g, i, none⟩ u) :=
  h.trans ⟨rfl, rfl, rfl, by simp [World.setCell], fun k _ hk => Below.heap_setCell _ _ _ _ hk⟩
theorem Only.keeps {g : Nat} {w w' : World} (h : Only g w w') {ok : Nat → Prop} (hg : ¬ ok g) : Keeps w w' ok ok := fun k hk hl => ⟨hk, h.block k hl (fun e => hg (e ▸ hk))⟩
theorem Only.below {g : Nat} {w0 w w' : World} (h : Only g w w') (hb : Below w0.heap.size w0 w) (hg : w0.heap.size ≤ g) : Below w0.heap.size w0 w' :=
  hb.trans ⟨h.os, h.tape, h.output, h.size, fun k hk => h.block k (Nat.lt_of_lt_of_le hk hb.size) (by omega)⟩

theorem Only.grown {g : Nat} {w w1 w2 : World} {row : Option Nat} (h : Only g w w1) (hg : w1.grownBy w2 row) (hr : ∀ k, row = some k → w.heap.size ≤ k) : Only g w w2 :=
  ⟨hg.os.trans h.os, hg.tape.trans h.tape, hg.output.trans h.output, Nat.le_trans h.size hg.size, fun k hk hne => (hg.block k (Nat.lt_of_lt_of_le hk h.size) (fun e => by have := hr k e.symm; omega)).trans (h.block k hk hne)⟩
end
section
open Go.RowKit
set_option linter.unusedVariables false
set_option maxRecDepth 100000
def num3 (n : Int) : List UInt8 := [u8 ((n + 99999 + 1) / 65536), u8 ((n + 99999 + 1) / 256 % 256), u8 ((n + 99999 + 1) % 256)]
theorem l6Put_c (w : World) (v : Value) (bs : List UInt8) (n : Int) (ok : Nat → Prop) (hV : kByte.V w ok v bs) (hl : bs.length ≤ 1000000) (n0 : -100000 ≤ n) (n1 : n ≤ 16000000) :
    Calls Tryz.prog 21 #[v, .int .i64 n] w fun e w' => ∃ u, e = .returned u ∧ kByte.R w' (fun k => w.heap.size ≤ k) u (bs ++ num3 n) ∧ Below w.heap.size w w' := by
  have HV := Sec.mk (Kd.V_in hV (by decide))
  obtain ⟨A, c, rfl, _⟩ := id hV
  have e1 : Sec (IntKind.u8.wrap ((n + 99999 + 1) / 65536) = (n + 99999 + 1) / 65536) := ⟨by rw [IntKind.wrap_u8']; omega⟩
  have e2 : Sec (IntKind.u8.wrap ((n + 99999 + 1) / 256 % 256) = (n + 99999 + 1) / 256 % 256) := ⟨by rw [IntKind.wrap_u8']; omega⟩
  have e3 : Sec (IntKind.u8.wrap ((n + 99999 + 1) % 256) = (n + 99999 + 1) % 256) := ⟨by rw [IntKind.wrap_u8']; omega⟩
  clear hV
  go_enter Tryz.func21, Tryz.ntmps21
  go_wp2_with (at_builtin; first
    | refine B_cat (B := w.heap.size) rfl (.tmp 9) (.tmp 10) 28 rfl Tryz.underlying28 info_byte _ _ [] bs _ rfl rfl (Kd.R_empty kByte (Nat.le_refl _)) (by simp) (Kd.V_below HV.out (belA (Below.refl _ _) _) (by decide)) (fun k hk => hk.2) (by simp; omega) ?_; intro v1 w1 hR1 hg1 hr1; have S1 := Sec.mk hR1; have B1 := Sec.mk (grew (belA (Below.refl w.heap.size w) (.cells #[] 5)) hg1 hr1); have Z1 := B1.out.size; clear hR1 hg1 hr1
    | refine B_lit (B := w.heap.size) rfl (.tmp 11) (.tmp 22) 28 rfl Tryz.underlying28 info_byte _ ([] ++ bs) [(n + 99999 + 1) / 65536, (n + 99999 + 1) / 256 % 256, (n + 99999 + 1) % 256] _ (by simp only [List.map_cons, List.map_nil]; rw [e1.out, e2.out, e3.out]) rfl rfl rfl S1.out Z1 (by simp; omega) ?_; intro v2 w2 hR2 hg2 hr2; have S2 := Sec.mk hR2; have B2 := Sec.mk (grew B1.out hg2 hr2); clear hR2 hg2 hr2)
  go_ret
  exact ⟨_, rfl, S2.out, B2.out⟩
end
section
open Go.RowKit
set_option linter.unusedVariables false
set_option maxRecDepth 100000
def sumStep (n : Int) (x : UInt8) : Int := (n * 257 + x.toNat) % 65521
def sumB (bs : List UInt8) : Int := bs.foldl sumStep 1
theorem sum_in : ∀ (bs : List UInt8) (n : Int), 0 ≤ n → n ≤ 65520 → 0 ≤ bs.foldl sumStep n ∧ bs.foldl sumStep n ≤ 65520
  | [], n, h1, h2 => ⟨h1, h2⟩
  | x :: bs, n, h1, h2 => sum_in bs _ (by unfold sumStep; omega) (by unfold sumStep; omega)
theorem specMsgSum_c (w : World) (v : Value) (bs : List UInt8) (ok : Nat → Prop) (hV : kByte.V w ok v bs) :
    Calls Tryz.prog 49 #[v] w fun e w' => e = .returned (.int .i64 (sumB bs)) ∧ w = w' := by
  obtain ⟨A, c, rfl, h1, h2, h3, hC, _⟩ := hV
  have HC := Sec.mk hC
  clear hC
  go_enter Tryz.func49, Tryz.ntmps49
  go_wp2
  go_loopw [3, 4] (fun v i wr => ∃ k : Nat, k ≤ bs.length ∧ i = .int .i64 k ∧ v = .int .i64 (sumB (bs.take k)) ∧ wr = w) (fun _ i _ => bs.length - (intOf i).toNat)
  case atStart => exact ⟨0, Nat.zero_le _, rfl, rfl, rfl⟩
  case round =>
    obtain ⟨k, hk, rfl, rfl, rfl⟩ := hrel
    obtain ⟨n0, n1⟩ := sum_in (bs.take k) 1 (by omega) (by omega)
    by_cases hlt : k < bs.length
    · obtain ⟨b, off, rfl, _, cb⟩ := byte_at HC.out k hlt
      have hx : (bs[k].toNat : Int) < 256 := by have := bs[k].toNat_lt; omega
      have hx0 : (0 : Int) ≤ bs[k].toNat := by omega
      have hs : Sec (sumB (bs.take (k + 1)) = (sumB (bs.take k) * 257 + bs[k].toNat) % 65521) := ⟨take_foldl sumStep 1 bs k hlt⟩
      have e : bs.foldl sumStep 1 = sumB bs := rfl
      change 0 ≤ sumB (bs.take k) at n0
      change sumB (bs.take k) ≤ 65520 at n1
      generalize sumB (bs.take k) = n at *
      generalize (bs[k].toNat : Int) = x at *
      have hm : (n * 257 + x).tmod 65521 = (n * 257 + x) % 65521 := Int.tmod_eq_emod_of_nonneg (by omega)
      go_wp2
      go_roundw
      case rel => exact ⟨k + 1, by omega, by go_num, by rw [hs.out], by simp⟩
      case measure => simp [intOf]; omega
    · have hs : Sec (sumB (bs.take k) = sumB bs) := ⟨by rw [List.take_of_length_le (by omega)]⟩
      go_wp2
      go_ret
      exact ⟨congrArg (fun z => Ending.returned (Value.int .i64 z)) hs.out, rfl⟩
theorem MsgSum_c (w : World) (v : Value) (bs : List UInt8) (ok : Nat → Prop) (hV : kByte.V w ok v bs) :
    Calls Tryz.prog 30 #[v] w fun e w' => e = .returned (.int .i64 (sumB bs)) ∧ w = w' := by
  obtain ⟨A, c, rfl, h1, h2, h3, hC, _⟩ := hV
  have HC := Sec.mk hC
  clear hC
  go_enter Tryz.func30, Tryz.ntmps30
  go_wp2
  go_loopw [3, 8] (fun v i wr => ∃ k : Nat, k ≤ bs.length ∧ i = .int .i64 k ∧ v = .int .i64 (sumB (bs.take k)) ∧ wr = w) (fun _ i _ => bs.length - (intOf i).toNat)
  case atStart => exact ⟨0, Nat.zero_le _, rfl, rfl, rfl⟩
  case round =>
    obtain ⟨k, hk, rfl, rfl, rfl⟩ := hrel
    obtain ⟨n0, n1⟩ := sum_in (bs.take k) 1 (by omega) (by omega)
    by_cases hlt : k < bs.length
    · obtain ⟨b, off, rfl, _, cb⟩ := byte_at HC.out k hlt
      have hx : (bs[k].toNat : Int) < 256 := by have := bs[k].toNat_lt; omega
      have hx0 : (0 : Int) ≤ bs[k].toNat := by omega
      have hs : Sec (sumB (bs.take (k + 1)) = (sumB (bs.take k) * 257 + bs[k].toNat) % 65521) := ⟨take_foldl sumStep 1 bs k hlt⟩
      change 0 ≤ sumB (bs.take k) at n0
      change sumB (bs.take k) ≤ 65520 at n1
      generalize sumB (bs.take k) = n at *
      generalize (bs[k].toNat : Int) = x at *
      have hm : (n * 257 + x).tmod 65521 = (n * 257 + x) % 65521 := Int.tmod_eq_emod_of_nonneg (by omega)
      go_wp2
      go_roundw
      case rel => exact ⟨k + 1, by omega, by go_num, by rw [hs.out], by simp⟩
      case measure => simp [intOf]; omega
    · have hs : Sec (sumB (bs.take k) = sumB bs) := ⟨by rw [List.take_of_length_le (by omega)]⟩
      go_wp2
      go_ret
      exact ⟨congrArg (fun z => Ending.returned (Value.int .i64 z)) hs.out, rfl⟩
end
section
open Go.RowKit
set_option linter.unusedVariables false
set_option maxRecDepth 100000
def cellBytes (x : Cell) : List UInt8 := u8 x.kind :: (num3 x.n ++ (if x.kind = 3 then u8 x.name.size :: x.name.data.toList else []))
def trmBytes (t : Term) : List UInt8 := if trmOk t = true then u8 t.length :: t.flatMap cellBytes else []
theorem cellOk_nums {x : Cell} (h : cellOk x = true) : 1 ≤ x.kind ∧ x.kind ≤ 3 ∧ -9999 ≤ x.n ∧ x.n ≤ 99999 := by
  unfold cellOk at h
  split at h
  · simp [inB] at h; omega
  · split at h
    · simp [inB] at h; omega
    · split at h
      · simp [inB] at h; omega
      · cases h
theorem cellOk_name {x : Cell} (h : cellOk x = true) (h3 : x.kind = 3) : x.name.size ≤ 8 := by
  unfold cellOk at h
  rw [if_neg (by omega), if_neg (by omega), if_pos h3] at h
  simp [nameOk] at h
  omega
theorem cellBytes_len {x : Cell} (h : cellOk x = true) : (cellBytes x).length ≤ 13 := by
  unfold cellBytes
  by_cases h3 : x.kind = 3
  · have := cellOk_name h h3
    have e : x.name.data.toList.length = x.name.size := by simp
    rw [if_pos h3]
    simp only [List.length_cons, List.length_append, num3, e, List.length_nil]
    omega
  · rw [if_neg h3]
    simp [num3]
theorem bytes_len : ∀ {t : Term}, t.all cellOk = true → (t.flatMap cellBytes).length ≤ 13 * t.length
  | [], _ => by simp
  | x :: t, h => by
    rw [List.all_cons, Bool.and_eq_true] at h
    have h1 := cellBytes_len h.1
    have h2 := bytes_len h.2
    rw [List.flatMap_cons, List.length_append, List.length_cons]
    omega
theorem trmOk_all {t : Term} (h : trmOk t = true) : t.length ≤ 40 ∧ t.all cellOk = true := by
  unfold trmOk at h
  simp only [Bool.and_eq_true, decide_eq_true_eq] at h
  exact ⟨h.1.1.2, h.1.2⟩
theorem trmBytes_len (t : Term) : (trmBytes t).length ≤ 600 := by
  unfold trmBytes
  split
  · next h =>
    obtain ⟨h1, h2⟩ := trmOk_all h
    have := bytes_len h2
    rw [List.length_cons]; omega
  · simp
theorem take_flat {α β : Type} (f : α → List β) (l : List α) (k : Nat) (h : k < l.length) : (l.take (k + 1)).flatMap f = (l.take k).flatMap f ++ f l[k] := by
  rw [List.take_succ_eq_append_getElem h, List.flatMap_append]; simp
theorem cells_at {w : World} {ok : Nat → Prop} {b off : Nat} {xs : Term} (h : kCell.C w ok (some ⟨b, off, none⟩) xs) (i : Nat) (hi : i < xs.length) :
    w.cell? ⟨b, off + i * 3, none⟩ = some (.int .i64 xs[i].kind) ∧ w.cell? ⟨b, off + i * 3 + 1, none⟩ = some (.int .i64 xs[i].n) ∧ w.cell? ⟨b, off + i * 3 + 2, none⟩ = some (.string xs[i].name) ∧ b < w.heap.size := by
  obtain ⟨b', off', hA, _, c0, c1, c2, _⟩ := cell_at h i hi
  simp only [Option.some.injEq, Addr.mk.injEq, and_true] at hA
  obtain ⟨rfl, rfl⟩ := hA
  refine ⟨c0, c1, c2, ?_⟩
  have h1 := c0
  simp only [World.cell?] at h1
  cases hb : w.heap[b]? with
  | none => simp [hb] at h1
  | some o => exact (Array.getElem?_eq_some_iff.1 hb).1
def TB (w : World) (bs : List UInt8) (e : Ending) (w' : World) : Prop := ∃ u, e = .returned u ∧ kByte.R w' (fun k => w.heap.size ≤ k) u bs ∧ Below w.heap.size w w'
theorem TrmBytes_c (w : World) (v : Value) (t : Term) (ok : Nat → Prop) (hV : kCell.V w ok v t) :
    Calls Tryz.prog 22 #[v] w (TB w (trmBytes t)) := by
  have hu := Tryz.underlying77
  have H0 := Sec.mk (TrmOk_c v t ok w hV)
  obtain ⟨A, c, rfl, h1, h2, h3, hC, _⟩ := hV
  have HC := Sec.mk hC
  clear hC
  by_cases hT : trmOk t = true
  · have ha := Sec.mk (trmOk_all hT)
    have hres : Sec (trmBytes t = u8 t.length :: t.flatMap cellBytes) := ⟨if_pos hT⟩
    rw [hT] at H0
    clear hT
    go_enter Tryz.func22, Tryz.ntmps22
    go_wp2_with fail
    refine H0.out.mono ?_
    rintro e w1 ⟨rfl, hb1⟩
    have B1 := Sec.mk hb1
    clear hb1
    go_wp2
    go_loopw [3, 4] (fun v i wr => ∃ k : Nat, k ≤ t.length ∧ i = .int .i64 k ∧ Sec (kByte.R wr (fun k => w.heap.size ≤ k) v (u8 t.length :: (t.take k).flatMap cellBytes)) ∧ Sec (Below w.heap.size w wr)) (fun _ i _ => t.length - (intOf i).toNat)
    case atStart => exact ⟨0, Nat.zero_le _, rfl, ⟨kByte_new w1 w.heap.size B1.out.size [t.length] (by simp)⟩, ⟨belA B1.out _⟩⟩
    case round =>
      obtain ⟨k, hk, rfl, hR, hb⟩ := hrel
      by_cases hlt : k < t.length
      · obtain ⟨b, off, rfl, hob, -, -, -, hnm⟩ := cell_at HC.out k hlt
        obtain ⟨c0, c1, c2, hbb⟩ := cells_at (Kd.C_below HC.out hb.out (by decide)) k hlt
        have hok : Sec (cellOk t[k] = true) := ⟨List.all_eq_true.1 ha.out.2 _ (List.getElem_mem hlt)⟩
        have hlen : Sec ((u8 t.length :: (t.take k).flatMap cellBytes).length ≤ 521) := ⟨by
          have h1 := ha.out.1
          have h2 := bytes_len (t := t.take k) (List.all_eq_true.2 fun x hx => List.all_eq_true.1 ha.out.2 x (List.mem_of_mem_take hx))
          rw [List.length_take] at h2
          rw [List.length_cons]; omega⟩
        have hT2 : Sec (u8 t.length :: (t.take (k + 1)).flatMap cellBytes = (u8 t.length :: (t.take k).flatMap cellBytes) ++ cellBytes t[k]) := ⟨by rw [take_flat _ _ _ hlt]; rfl⟩
        have hcat : Sec (∀ W : World, Below w.heap.size w W → kCell.C W ok (some ⟨b, off, none⟩) t) := ⟨fun W h => Kd.C_below HC.out h (by decide)⟩
        have hat : Sec (∀ W : World, Below w.heap.size w W → W.cell? ⟨b, off + k * 3, none⟩ = some (.int .i64 t[k].kind) ∧ W.cell? ⟨b, off + k * 3 + 1, none⟩ = some (.int .i64 t[k].n) ∧ W.cell? ⟨b, off + k * 3 + 2, none⟩ = some (.string t[k].name) ∧ b < W.heap.size) := ⟨fun W h => cells_at (hcat.out W h) k hlt⟩
        have hnum := Sec.mk (cellOk_nums hok.out)
        generalize t[k] = x at *
        generalize hbs : u8 t.length :: (t.take k).flatMap cellBytes = bs at *
        clear hbs
        obtain ⟨A9, c9, hv9, _⟩ := Kd.R_form hR.out
        subst hv9
        by_cases hx : x.kind = 3
        · have hx' : (x.kind == 3) = true := beq_iff_eq.2 hx
          have hcb : Sec (cellBytes x = u8 x.kind :: (num3 x.n ++ u8 x.name.size :: x.name.data.toList)) := ⟨by unfold cellBytes; rw [if_pos hx]⟩
          have hn8 := Sec.mk (cellOk_name hok.out hx)
          clear hx
          go_wp2_with (first
            | (at_builtin; refine B_app (B := w.heap.size) rfl (.tmp 19) (.tmp 26) 28 rfl Tryz.underlying28 info_byte _ bs x.kind rfl rfl rfl hR.out hb.out.size (by have := hlen.out; omega) ?_; intro v1 w2 hR1 hg1 hr1; have S1 := Sec.mk hR1; have B2 := Sec.mk (hb.out.grown hg1 hb.out.size hr1); obtain ⟨d0, d1, d2, hbb1⟩ := hat.out _ B2.out; clear hR1 hg1 hr1 c0 c1 c2)
            | (go_at_call 21; refine (l6Put_c w2 v1 _ x.n _ (Kd.R_V S1.out) (by have := hlen.out; simp; omega) (by have := hnum.out; omega) (by have := hnum.out; omega)).mono ?_; rintro e w3 ⟨v3, rfl, hR3, hb3⟩; have B3 := Sec.mk (bel B2.out hb3); have S3 := Sec.mk (Kd.R_mono hR3 (S1 := fun k => w.heap.size ≤ k) (fun k h _ => Nat.le_trans B2.out.size h)); obtain ⟨e0, e1, e2, hbb3⟩ := hat.out _ B3.out; clear hR3 hb3 d0 d1 d2))
          have S3d := Sec.mk (Kd.R_below S3.out (belD (Below.refl _ _)))
          have B3d := Sec.mk (belD B3.out)
          have L3 : Sec ((bs ++ [u8 x.kind] ++ num3 x.n).length ≤ 540) := ⟨by have := hlen.out; simp [num3]; omega⟩
          have hT3 : Sec (∀ ys, bs ++ [u8 x.kind] ++ num3 x.n ++ [u8 x.name.size] ++ ys = bs ++ (u8 x.kind :: (num3 x.n ++ u8 x.name.size :: ys))) := ⟨fun ys => by simp⟩
          generalize bs ++ [u8 x.kind] ++ num3 x.n = b3 at *
          have L4 : Sec ((b3 ++ [u8 x.name.size]).length ≤ 541) := ⟨by have := L3.out; simp; omega⟩
          go_region_held3 (fun W => W.cell? ⟨b, off + k * 3 + 2, none⟩ = some (.string x.name)) (first | assumption | go_keep) (first
            | (refine step_of rfl (fun Q9 h9 => ?_); refine B_app (B := w.heap.size) rfl (.tmp 41) (.tmp 49) 28 rfl Tryz.underlying28 info_byte _ b3 x.name.size (by rfl) (by rfl) (by rfl) S3.out B3.out.size (by have := L3.out; omega) ?_; intro v4 w4 hR4 hg4 hr4; have S4 := Sec.mk hR4; have B4 := Sec.mk (B3.out.grown hg4 B3.out.size hr4); have S4d := Sec.mk (Kd.R_below S4.out (belD (Below.refl _ _))); have B4d := Sec.mk (belD B4.out); obtain ⟨f0, f1, f2, fbb⟩ := hat.out _ B4.out; clear hR4 hg4 hr4; refine h9 _ _ ?_; clear h9 Q9)
            | (refine step_of rfl (fun Q9 h9 => ?_); refine B_app (B := w.heap.size) rfl (.tmp 41) (.tmp 49) 28 rfl Tryz.underlying28 info_byte _ b3 x.name.size (by rfl) (by rfl) (by rfl) S3d.out B3d.out.size (by have := L3.out; omega) ?_; intro v4 w4 hR4 hg4 hr4; have S4 := Sec.mk hR4; have B4 := Sec.mk (B3d.out.grown hg4 B3d.out.size hr4); have S4d := Sec.mk (Kd.R_below S4.out (belD (Below.refl _ _))); have B4d := Sec.mk (belD B4.out); obtain ⟨f0, f1, f2, fbb⟩ := hat.out _ B4.out; clear hR4 hg4 hr4; refine h9 _ _ ?_; clear h9 Q9)
            | (refine step_of rfl (fun Q9 h9 => ?_); refine B_str (B := w.heap.size) rfl (.tmp 50) (.tmp 55) 28 9 rfl Tryz.underlying28 (by kernel_rfl) info_byte _ _ x.name (by rfl) (by rfl) S4.out B4.out.size (by have := L4.out; have := hn8.out; omega) ?_; intro v5 w5 hR5 hg5 hr5; have S5 := Sec.mk hR5; have B5 := Sec.mk (B4.out.grown hg5 B4.out.size hr5); obtain ⟨f0, f1, f2, fbb⟩ := hat.out _ B5.out; clear hR5 hg5 hr5; refine h9 _ _ ?_; clear h9 Q9)
            | (refine step_of rfl (fun Q9 h9 => ?_); refine B_str (B := w.heap.size) rfl (.tmp 50) (.tmp 55) 28 9 rfl Tryz.underlying28 (by kernel_rfl) info_byte _ _ x.name (by rfl) (by rfl) S4d.out B4d.out.size (by have := L4.out; have := hn8.out; omega) ?_; intro v5 w5 hR5 hg5 hr5; have S5 := Sec.mk hR5; have B5 := Sec.mk (B4d.out.grown hg5 B4d.out.size hr5); obtain ⟨f0, f1, f2, fbb⟩ := hat.out _ B5.out; clear hR5 hg5 hr5; refine h9 _ _ ?_; clear h9 Q9))
          go_wp2
          go_roundw
          case rel => exact ⟨k + 1, by omega, by go_num, ⟨by rw [hT2.out, hcb.out, ← hT3.out]; exact S5.out⟩, B5⟩
          case measure => simp [intOf]; omega
        · have hx' : (x.kind == 3) = false := beq_eq_false_iff_ne.2 hx
          have hcb : Sec (cellBytes x = u8 x.kind :: num3 x.n) := ⟨by unfold cellBytes; rw [if_neg hx, List.append_nil]⟩
          clear hx
          go_wp2_with (first
            | (at_builtin; refine B_app (B := w.heap.size) rfl (.tmp 19) (.tmp 26) 28 rfl Tryz.underlying28 info_byte _ bs x.kind rfl rfl rfl hR.out hb.out.size (by have := hlen.out; omega) ?_; intro v1 w2 hR1 hg1 hr1; have S1 := Sec.mk hR1; have B2 := Sec.mk (hb.out.grown hg1 hb.out.size hr1); obtain ⟨d0, d1, d2, hbb1⟩ := hat.out _ B2.out; clear hR1 hg1 hr1 c0 c1 c2)
            | (go_at_call 21; refine (l6Put_c w2 v1 _ x.n _ (Kd.R_V S1.out) (by have := hlen.out; simp; omega) (by have := hnum.out; omega) (by have := hnum.out; omega)).mono ?_; rintro e w3 ⟨v3, rfl, hR3, hb3⟩; have B3 := Sec.mk (bel B2.out hb3); have S3 := Sec.mk (Kd.R_mono hR3 (S1 := fun k => w.heap.size ≤ k) (fun k h _ => Nat.le_trans B2.out.size h)); obtain ⟨e0, e1, e2, hbb3⟩ := hat.out _ B3.out; clear hR3 hb3 d0 d1 d2))
          go_roundw
          case rel => exact ⟨k + 1, by omega, by go_num, ⟨by rw [hT2.out, hcb.out]; have := S3.out; simpa using this⟩, B3⟩
          case measure => simp [intOf]; omega
      · have hk' : Sec (t.flatMap cellBytes = (t.take k).flatMap cellBytes) := ⟨by rw [List.take_of_length_le (by omega)]⟩
        go_wp2
        go_ret
        exact ⟨_, rfl, by rw [hres.out, hk'.out]; exact hR.out, hb.out⟩
  · have hT' : trmOk t = false := by simpa using hT
    have hres : Sec (trmBytes t = []) := ⟨if_neg hT⟩
    rw [hT'] at H0
    clear hT hT'
    go_enter Tryz.func22, Tryz.ntmps22
    go_wp2_with fail
    refine H0.out.mono ?_
    rintro e w1 ⟨rfl, hb1⟩
    have B1 := Sec.mk hb1
    clear hb1
    go_wp2
    go_ret
    exact ⟨_, rfl, by rw [hres.out]; exact Kd.R_empty kByte B1.out.size, belA B1.out _⟩
end
section
open Go.RowKit
set_option linter.unusedVariables false
set_option maxRecDepth 100000
theorem made_ (t e : TypeId) (z : Value) (size bytes : Nat) (ht : Tryz.prog.underlying t = some (.slice e)) (hinfo : (Tryz.prog.info? e).map (fun i => (i.zero, i.size, i.bytes)) = some (some z, size, bytes)) (hb : bytes ≤ 1000) (n : Nat) (hn : n ≤ 1073741824) (w : World) :
    (Instr.makeSlice t (.int .i64 (n : Int)) (.int .i64 (n : Int))).run Tryz.prog w = .ok (.slice (some ⟨w.heap.size, 0, none⟩) n n) (w.alloc (.cells (madeCells z.cells (n * size)) e)) := by
  obtain ⟨i0, hi, hzz⟩ := Option.map_eq_some_iff.1 hinfo
  simp only [Prod.mk.injEq] at hzz
  obtain ⟨hz0, rfl, rfl⟩ := hzz
  have hbb : (i0.bytes : Int) * (n : Int) ≤ 281474976710656 := by
    have h1 : i0.bytes * n ≤ 1000 * 1073741824 := Nat.mul_le_mul hb hn
    have h2 : ((i0.bytes * n : Nat) : Int) ≤ 281474976710656 := by omega
    rwa [Int.natCast_mul] at h2
  have hr := run_make (P := Tryz.prog) w t e i0 z ht hi hz0 .i64 .i64 n n (by omega) (by omega) hbb (by omega)
  simp only [Int.toNat_natCast] at hr
  exact hr
theorem big3_c (n : Int) (h0 : 0 ≤ n) (h1 : n < 16777216) (w : World) :
    Calls Tryz.prog 29 #[.int .i64 n, .int .i64 3] w fun e w' => ∃ u, e = .returned u ∧ kByte.R w' (fun k => w.heap.size ≤ k) u [u8 (n / 65536), u8 (n / 256 % 256), u8 (n % 256)] ∧ Below w.heap.size w w' := by
  have hmk : (Instr.makeSlice 28 (.int .i64 3) (.int .i64 3)).run Tryz.prog w = .ok (.slice (some ⟨w.heap.size, 0, none⟩) 3 3) (w.alloc (.cells #[.int .u8 0, .int .u8 0, .int .u8 0] 5)) := by
    have h := made_ 28 5 (.int .u8 0) 1 1 Tryz.underlying28 (by kernel_rfl) (by decide) 3 (by decide) w
    have e : madeCells (Value.int .u8 0).cells (3 * 1) = #[.int .u8 0, .int .u8 0, .int .u8 0] := Array.toList_inj.1 ((Kd.made_toList #[.int .u8 0] 3).trans rfl)
    rw [e] at h
    exact h
  go_enter Tryz.func29, Tryz.ntmps29
  go_wp2
  clear hmk
  go_loopw [11] (fun iv wr => ∃ (k : Nat) (a b c : Int), k ≤ 3 ∧ iv = .int .i64 k ∧ wr = w.alloc (.cells #[.int .u8 a, .int .u8 b, .int .u8 c] 5) ∧ Sec (k = 0 ∧ a = 0 ∧ b = 0 ∧ c = 0 ∨ k = 1 ∧ a = 0 ∧ b = 0 ∧ c = n % 256 ∨ k = 2 ∧ a = 0 ∧ b = n / 256 % 256 ∧ c = n % 256 ∨ k = 3 ∧ a = n / 65536 ∧ b = n / 256 % 256 ∧ c = n % 256)) (fun iv _ => 3 - (intOf iv).toNat)
  case atStart => exact ⟨0, 0, 0, 0, by omega, rfl, rfl, ⟨.inl ⟨rfl, rfl, rfl, rfl⟩⟩⟩
  case round =>
    obtain ⟨k, a, b, c, hk, rfl, rfl, hS⟩ := hrel
    obtain rfl | rfl | rfl | rfl : k = 0 ∨ k = 1 ∨ k = 2 ∨ k = 3 := by omega
    · go_wp2
      go_roundw
      case rel => exact ⟨1, a, b, n % 256, by omega, rfl, rfl, ⟨.inr (.inl (by have := hS.out; omega))⟩⟩
      case measure => simp [intOf]
    · go_wp2
      go_roundw
      case rel => exact ⟨2, a, n / 256 % 256, c, by omega, rfl, rfl, ⟨.inr (.inr (.inl (by have := hS.out; omega)))⟩⟩
      case measure => simp [intOf]
    · go_wp2
      go_roundw
      case rel => exact ⟨3, n / 65536, b, c, by omega, rfl, rfl, ⟨.inr (.inr (.inr (by have := hS.out; omega)))⟩⟩
      case measure => simp [intOf]
    · obtain ⟨rfl, rfl, rfl⟩ : a = n / 65536 ∧ b = n / 256 % 256 ∧ c = n % 256 := by have := hS.out; omega
      go_wp2
      go_ret
      refine ⟨_, rfl, ?_, belA (Below.refl _ _) _⟩
      have hR := kByte_new w w.heap.size (Nat.le_refl _) [n / 65536, n / 256 % 256, n % 256] (by simp)
      have e1 : IntKind.u8.wrap (n / 65536) = n / 65536 := by rw [IntKind.wrap_u8']; omega
      have e2 : IntKind.u8.wrap (n / 256 % 256) = n / 256 % 256 := by rw [IntKind.wrap_u8']; omega
      have e3 : IntKind.u8.wrap (n % 256) = n % 256 := by rw [IntKind.wrap_u8']; omega
      simp only [List.map_cons, List.map_nil, e1, e2, e3] at hR
      exact hR
theorem number_c (n : Int) (h0 : -9999 ≤ n) (h1 : n ≤ 99999) (w : World) :
    Calls Tryz.prog 27 #[.int .i64 n] w fun e w' => ∃ u, e = .returned u ∧ kByte.R w' (fun k => w.heap.size ≤ k) u (num3 n) ∧ Below w.heap.size w w' := by
  go_enter Tryz.func27, Tryz.ntmps27
  go_wp2_with (go_at_call 29; refine (big3_c (n + 99999 + 1) (by omega) (by omega) _).mono ?_; rintro e w1 ⟨u, rfl, hR, hb⟩; have HR := Sec.mk hR; have HB := Sec.mk hb; clear hR hb)
  go_ret
  exact ⟨_, rfl, HR.out, HB.out⟩
/-- A block's cells. -/
theorem box_at' {w w' : World} {b : Nat} {cs : Array Value} {t : TypeId} (hB : Below w.heap.size w w') (h : w.heap[b]? = some (.cells cs t (0, 0))) : (∀ j u, cs[j]? = some u → w'.cell? ⟨b, j, none⟩ = some u) ∧ ∀ j, w'.frozen? ⟨b, j, none⟩ = false := by
  have h' := (hB.block b (Array.getElem?_eq_some_iff.1 h).1).trans h
  exact ⟨fun j u hj => by rw [cell_of_row w' b _ cs t (0, 0) h']; exact hj, fun j => by simp [World.frozen?, h']⟩
/-- append(v, y...) of bytes, y's memory apart. -/
theorem B_own {P : Program} {ops : Array Oper} {rest : List Oper} {o : Oper} {a : Act} {Q : Exit → Act → World → Prop} {S T : Nat → Prop} {W : World} (hgd : o.guard = none) (s x : Operand) (t : TypeId)
    (ho : o.op = .call { callee := .builtin .append, args := #[s, x], argTypes := #[t, t] })
    (ht : P.underlying t = some (.slice 5)) (hinfo : (P.info? 5).map (fun i => (i.zero, i.size, i.bytes)) = some (some (.int .u8 0), 1, 1))
    (v u : Value) (xs ys : List UInt8) (hs : a.eval s = v) (hx : a.eval x = u) (HO : kByte.R W S v xs) (hy : kByte.V W T u ys) (hd : ∀ k, T k → ¬ S k)
    (hl : xs.length + ys.length ≤ 1073741824)
    (h : ∀ v1 w1, kByte.R w1 (fun k => S k ∨ W.heap.size ≤ k) v1 (xs ++ ys) → W.grownBy w1 v.ownBlock → (∀ k, v.ownBlock = some k → S k) → wpList P ops Q rest (a.put o.dst v1) w1) :
    wpList P ops Q (o :: rest) a W := by
  obtain ⟨_, _, _, h3⟩ := Kd.R_own HO
  refine Kd.W_cat kByte hgd s x t (.int .u8 0) 1 ho ht hinfo rfl (by decide) (by decide) v u xs ys S T hs hx (kByte_R_W _ HO) (Kd.V_mono hy (fun k hk => ⟨hk, fun e => hd k hk (h3 k e.symm).1⟩) (by decide)) hl ?_
  intro v1 w1 h1 hg
  exact h v1 w1 (kByte_W_R h1) hg (fun k e => (h3 k e).1)
/-- append(v, n), a byte. -/
theorem B_put {P : Program} {ops : Array Oper} {rest : List Oper} {o : Oper} {a : Act} {Q : Exit → Act → World → Prop} {S : Nat → Prop} {W : World} (hgd : o.guard = none) (s x : Operand) (t : TypeId)
    (ho : o.op = .call { callee := .builtin .append, args := #[s, x], argTypes := #[t, t] })
    (ht : P.underlying t = some (.slice 5)) (hinfo : (P.info? 5).map (fun i => (i.zero, i.size, i.bytes)) = some (some (.int .u8 0), 1, 1))
    (v : Value) (xs : List UInt8) (n : Int) (hs : a.eval s = v) {N : Nat} (hx : a.eval x = .slice (some ⟨N, 0, none⟩) 1 1) (hN : N = W.heap.size) (HO : kByte.R W S v xs)
    (hl : xs.length + 1 ≤ 1073741824)
    (h : ∀ v1 w1, kByte.R w1 (fun k => S k ∨ W.heap.size ≤ k) v1 (xs ++ [u8 n]) → W.grownBy w1 v.ownBlock → (∀ k, v.ownBlock = some k → S k) → wpList P ops Q rest (a.put o.dst v1) w1) :
    wpList P ops Q (o :: rest) a (W.alloc (.cells #[.int .u8 (IntKind.u8.wrap n)] 5)) := by
  subst hN
  obtain ⟨_, _, _, h3⟩ := Kd.R_own HO
  exact Kd.R_append kByte hgd s x t (.int .u8 0) 1 ho ht hinfo rfl (by decide) (by decide) v xs (u8 n) [.int .u8 (IntKind.u8.wrap n)] S (fun _ => False) hs hx HO (kByte_O _ _ n) (fun k h1 _ _ => h1) hl
    (fun v1 w1 h1 hg => h v1 w1 (Kd.R_mono h1 (fun k hk _ => hk.elim .inl (fun hk => hk.elim False.elim .inr))) hg (fun k e => (h3 k e).1))
theorem Foot.grown {S : Nat → Prop} {w0 W w1 : World} {row : Option Nat} (h : Foot S w0 W) (hg : W.grownBy w1 row) (hr : ∀ k, row = some k → S k ∨ w0.heap.size ≤ k) : Foot S w0 w1 :=
  ⟨hg.os.trans h.os, hg.tape.trans h.tape, hg.output.trans h.output, Nat.le_trans h.size hg.size, fun k hk hn => (hg.block k (Nat.lt_of_lt_of_le hk h.size) (fun e => (hr k e.symm).elim hn (fun e => by omega))).trans (h.block k hk hn)⟩
theorem carry_ {S : Nat → Prop} {w W : World} {b : Nat} {o : Obj} (h : Foot S w W) (hb : w.heap[b]? = some o) (hS : ¬ S b) : W.heap[b]? = some o := (h.block b (Array.getElem?_eq_some_iff.1 hb).1 hS).trans hb
end
section
open Go.RowKit
set_option linter.unusedVariables false
set_option maxRecDepth 100000
/-- A body in a frame. -/
def frameO (bs : List UInt8) : List UInt8 := [u8 ((bs.length : Int) / 256), u8 ((bs.length : Int) % 256)] ++ bs
def frameB (bs : List UInt8) : List UInt8 := frameO bs ++ [u8 (sumB (frameO bs) / 256), u8 (sumB (frameO bs) % 256)]
theorem sumB_in (bs : List UInt8) : 0 ≤ sumB bs ∧ sumB bs ≤ 65520 := sum_in bs 1 (by omega) (by omega)
theorem frameO_len (bs : List UInt8) : (frameO bs).length = bs.length + 2 := by simp [frameO]
def TBq (w : World) (bs : List UInt8) (e : Ending) (w' : World) : Prop := ∃ u, e = .returned u ∧ kByte.R w' (fun k => w.heap.size ≤ k) u bs ∧ Below w.heap.size w w'
theorem l6Frame_c (w : World) (v : Value) (bs : List UInt8) (ok : Nat → Prop) (hV : kByte.V w ok v bs) (hl : bs.length ≤ 1000000) :
    Calls Tryz.prog 23 #[v] w (TBq w (frameB bs)) := by
  have HV := Sec.mk (Kd.V_in hV (by decide))
  obtain ⟨A, c, rfl, _⟩ := id hV
  have hs := sumB_in (frameO bs)
  have h0 : (0 : Int) ≤ bs.length := by omega
  have hlo := frameO_len bs
  have hfo : Sec (([(bs.length : Int) / 256, (bs.length : Int) % 256].map u8) ++ bs = frameO bs) := ⟨rfl⟩
  generalize frameO bs = fo at *
  have KN : Sec (kByte.R (w.alloc (.cells #[.int .u8 ((bs.length : Int) / 256 % 256), .int .u8 ((bs.length : Int) % 256)] 5)) (fun k => w.heap.size ≤ k) (.slice (some ⟨w.heap.size, 0, none⟩) 2 2) ([(bs.length : Int) / 256, (bs.length : Int) % 256].map u8)) := ⟨by
    have hR := kByte_new w w.heap.size (Nat.le_refl _) [(bs.length : Int) / 256, (bs.length : Int) % 256] (by simp)
    have e1 : IntKind.u8.wrap ((bs.length : Int) / 256) = (bs.length : Int) / 256 % 256 := by rw [IntKind.wrap_u8']
    have e2 : IntKind.u8.wrap ((bs.length : Int) % 256) = (bs.length : Int) % 256 := by rw [IntKind.wrap_u8']; omega
    simp only [List.map_cons, List.map_nil, e1, e2] at hR
    exact hR⟩
  have e3 : Sec (IntKind.u8.wrap (sumB fo / 256) = sumB fo / 256) := ⟨by rw [IntKind.wrap_u8']; omega⟩
  have e4 : Sec (IntKind.u8.wrap (sumB fo % 256) = sumB fo % 256) := ⟨by rw [IntKind.wrap_u8']; omega⟩
  clear hV
  go_enter Tryz.func23, Tryz.ntmps23
  go_wp2_with (first
    | (go_at_call 49; refine (specMsgSum_c _ _ fo _ (Kd.R_V S1.out)).mono ?_; rintro e w' ⟨rfl, rfl⟩)
    | (at_builtin; first
      | (refine B_cat (B := w.heap.size) rfl (.tmp 14) (.tmp 15) 28 rfl Tryz.underlying28 info_byte _ _ ([(bs.length : Int) / 256, (bs.length : Int) % 256].map u8) bs _ rfl rfl KN.out (by simp) (Kd.V_below HV.out (belA (Below.refl _ _) _) (by decide)) (fun k hk => hk.2) (by simp; omega) ?_; intro v1 w1 hR1 hg1 hr1; rw [hfo.out] at hR1; have S1 := Sec.mk hR1; have B1 := Sec.mk (grew (belA (Below.refl w.heap.size w) (.cells #[.int .u8 ((bs.length : Int) / 256 % 256), .int .u8 ((bs.length : Int) % 256)] 5)) hg1 hr1); have Z1 := B1.out.size; clear hR1 hg1 hr1)
      | (refine B_lit (B := w.heap.size) rfl (.tmp 19) (.tmp 26) 28 rfl Tryz.underlying28 info_byte _ fo [sumB fo / 256, sumB fo % 256] _ (by simp only [List.map_cons, List.map_nil]; rw [e3.out, e4.out]) rfl rfl rfl S1.out Z1 (by simp; omega) ?_; intro v2 w2 hR2 hg2 hr2; have S2 := Sec.mk hR2; have B2 := Sec.mk (grew B1.out hg2 hr2); clear hR2 hg2 hr2)))
  go_ret
  refine ⟨_, rfl, ?_, B2.out⟩
  unfold frameB
  rw [← hfo.out] at S2
  exact S2.out
theorem big2_c (n : Int) (h0 : 0 ≤ n) (h1 : n < 65536) (w : World) :
    Calls Tryz.prog 29 #[.int .i64 n, .int .i64 2] w (TBq w [u8 (n / 256), u8 (n % 256)]) := by
  have hmk : (Instr.makeSlice 28 (.int .i64 2) (.int .i64 2)).run Tryz.prog w = .ok (.slice (some ⟨w.heap.size, 0, none⟩) 2 2) (w.alloc (.cells #[.int .u8 0, .int .u8 0] 5)) := by
    have h := made_ 28 5 (.int .u8 0) 1 1 Tryz.underlying28 (by kernel_rfl) (by decide) 2 (by decide) w
    have e : madeCells (Value.int .u8 0).cells (2 * 1) = #[.int .u8 0, .int .u8 0] := Array.toList_inj.1 ((Kd.made_toList #[.int .u8 0] 2).trans rfl)
    rw [e] at h
    exact h
  go_enter Tryz.func29, Tryz.ntmps29
  go_wp2
  clear hmk
  go_loopw [11] (fun iv wr => ∃ (k : Nat) (a b : Int), k ≤ 2 ∧ iv = .int .i64 k ∧ wr = w.alloc (.cells #[.int .u8 a, .int .u8 b] 5) ∧ Sec (k = 0 ∧ a = 0 ∧ b = 0 ∨ k = 1 ∧ a = 0 ∧ b = n % 256 ∨ k = 2 ∧ a = n / 256 ∧ b = n % 256)) (fun iv _ => 2 - (intOf iv).toNat)
  case atStart => exact ⟨0, 0, 0, by omega, rfl, rfl, ⟨.inl ⟨rfl, rfl, rfl⟩⟩⟩
  case round =>
    obtain ⟨k, a, b, hk, rfl, rfl, hS⟩ := hrel
    obtain rfl | rfl | rfl : k = 0 ∨ k = 1 ∨ k = 2 := by omega
    · go_wp2
      go_roundw
      case rel => exact ⟨1, a, n % 256, by omega, rfl, rfl, ⟨.inr (.inl (by have := hS.out; omega))⟩⟩
      case measure => simp [intOf]
    · go_wp2
      go_roundw
      case rel => exact ⟨2, n / 256, b, by omega, rfl, rfl, ⟨.inr (.inr (by have := hS.out; omega))⟩⟩
      case measure => simp [intOf]
    · obtain ⟨rfl, rfl⟩ : a = n / 256 ∧ b = n % 256 := by have := hS.out; omega
      go_wp2
      go_ret
      refine ⟨_, rfl, ?_, belA (Below.refl _ _) _⟩
      have hR := kByte_new w w.heap.size (Nat.le_refl _) [n / 256, n % 256] (by simp)
      have e1 : IntKind.u8.wrap (n / 256) = n / 256 := by rw [IntKind.wrap_u8']; omega
      have e2 : IntKind.u8.wrap (n % 256) = n % 256 := by rw [IntKind.wrap_u8']; omega
      simp only [List.map_cons, List.map_nil, e1, e2] at hR
      exact hR
section
variable {o : Oper} {a : Act} {w : World} {K : Act → World → Prop} {Q : Exit → Act → World → Prop} {E : Prop} {ops : Array Oper}
/-- append(v, y...) of bytes, as a step. -/
theorem step_bytes {S ok : Nat → Prop} (hg : o.guard = none) (s x : Operand) (ho : o.op = .call { callee := .builtin .append, args := #[s, x], argTypes := #[28, 28] })
    {v u : Value} {xs ys : List UInt8} (hs : a.eval s = v) (hx : a.eval x = u) (HR : kByte.R w S v xs) (HV : kByte.V w ok u ys) (hd : ∀ k, ok k → ¬ S k) (hl : xs.length + ys.length ≤ 1073741824)
    (hk : ∀ v1 w1, kByte.R w1 (fun k => S k ∨ (w.heap.size ≤ k ∧ k < w1.heap.size)) v1 (xs ++ ys) → Foot S w w1 → K (a.put o.dst v1) w1) : if Region.wanted o (yielded ops a.tmps) = true then Oper.wp Tryz.prog o a w K Q else E := by
  refine step_of hg (fun Q9 h9 => ?_)
  refine B_own hg s x 28 ho Tryz.underlying28 info_byte v u xs ys hs hx HR HV hd hl ?_
  intro v1 w1 h1 hg1 hr1
  exact h9 _ _ (hk v1 w1 (Kd.R_mono h1 (fun k h1 h2 => h1.imp id (fun h => ⟨h, h2⟩))) (Foot.of_grown hg1 hr1))
end
end
section
open Go.RowKit
set_option linter.unusedVariables false
set_option maxRecDepth 100000
set_option maxHeartbeats 2000000 in
theorem TrmBytes_i (w : World) (v : Value) (t : Term) (ok : Nat → Prop) (hV : kCell.V w ok v t) :
    Calls Tryz.prog 28 #[v] w (TB w (trmBytes t)) := by
  have hu := Tryz.underlying77
  have H0 := Sec.mk (TrmOk_i v t ok w hV)
  obtain ⟨A, c, rfl, h1, h2, h3, hC, hz⟩ := hV
  have HC := Sec.mk hC
  clear hC hz
  by_cases hT : trmOk t = true
  · have ha := Sec.mk (trmOk_all hT)
    have hres : Sec (trmBytes t = u8 t.length :: t.flatMap cellBytes) := ⟨if_pos hT⟩
    rw [hT] at H0
    clear hT
    go_enter Tryz.func28, Tryz.ntmps28
    go_wp2_with fail
    refine H0.out.mono ?_
    rintro e w1 ⟨rfl, hb1⟩
    have B1 := Sec.mk hb1
    clear hb1
    go_wp2
    go_loopw [3, 15] (fun v i wr => ∃ k : Nat, k ≤ t.length ∧ i = .int .i64 k ∧ Sec (kByte.R wr (fun k => w.heap.size ≤ k) v (u8 t.length :: (t.take k).flatMap cellBytes)) ∧ Sec (Below w.heap.size w wr)) (fun _ i _ => t.length - (intOf i).toNat)
    case atStart => exact ⟨0, Nat.zero_le _, rfl, ⟨kByte_new w1 w.heap.size B1.out.size [t.length] (by simp)⟩, ⟨belA B1.out _⟩⟩
    case round =>
      obtain ⟨k, hk, rfl, hR, hb⟩ := hrel
      by_cases hlt : k < t.length
      · obtain ⟨b, off, rfl, hob, c0, c1, c2, hnm⟩ := cell_at (Kd.C_below HC.out hb.out (by decide)) k hlt
        have hok : Sec (cellOk t[k] = true) := ⟨List.all_eq_true.1 ha.out.2 _ (List.getElem_mem hlt)⟩
        have hlen : Sec ((u8 t.length :: (t.take k).flatMap cellBytes).length ≤ 521) := ⟨by
          have h1 := ha.out.1
          have h2 := bytes_len (t := t.take k) (List.all_eq_true.2 fun x hx => List.all_eq_true.1 ha.out.2 x (List.mem_of_mem_take hx))
          rw [List.length_take] at h2
          rw [List.length_cons]; omega⟩
        have hT2 : Sec (u8 t.length :: (t.take (k + 1)).flatMap cellBytes = (u8 t.length :: (t.take k).flatMap cellBytes) ++ cellBytes t[k]) := ⟨by rw [take_flat _ _ _ hlt]; rfl⟩
        have hnum := Sec.mk (cellOk_nums hok.out)
        generalize t[k] = x at *
        generalize hbs : u8 t.length :: (t.take k).flatMap cellBytes = bs at *
        clear hbs
        obtain ⟨A9, c9, hv9, _⟩ := Kd.R_form hR.out
        subst hv9
        have hat : Sec (∀ W : World, W.heap[wr.heap.size]? = some (.cells #[.int .i64 x.kind, .int .i64 x.n, .string x.name] 77 (0, 0)) → W.cell? ⟨wr.heap.size, 0, none⟩ = some (.int .i64 x.kind) ∧ W.cell? ⟨wr.heap.size, 1, none⟩ = some (.int .i64 x.n) ∧ W.cell? ⟨wr.heap.size, 2, none⟩ = some (.string x.name)) := ⟨fun W h => by
          have X := (box_at' (Below.refl _ _) h).1
          exact ⟨X 0 _ rfl, X 1 _ rfl, X 2 _ rfl⟩⟩
        have P0 := Sec.mk (heap_alloc_new wr (.cells #[.int .i64 x.kind, .int .i64 x.n, .string x.name] 77))
        have R0 := Sec.mk (Kd.R_below (Kd.R_mono hR.out (S1 := fun k => w.heap.size ≤ k ∧ k < wr.heap.size) (fun k h1 h2 => ⟨h1, h2⟩)) (belA (Below.refl wr.heap.size wr) (.cells #[.int .i64 x.kind, .int .i64 x.n, .string x.name] 77)))
        have B0 := Sec.mk (belA hb.out (.cells #[.int .i64 x.kind, .int .i64 x.n, .string x.name] 77))
        have Z0 : Sec ((wr.alloc (.cells #[.int .i64 x.kind, .int .i64 x.n, .string x.name] 77)).heap.size = wr.heap.size + 1 ∧ w.heap.size ≤ wr.heap.size) := ⟨by simp, hb.out.size⟩
        have T0 : Sec True := ⟨trivial⟩
        go_wp2
        clear c0 c1 c2 hob
        obtain ⟨y0, y1, y2⟩ := hat.out _ P0.out
        generalize wr.alloc (.cells #[.int .i64 x.kind, .int .i64 x.n, .string x.name] 77) = w0 at *
        generalize wr.heap.size = bx at *
        go_region_held3 (fun W => W.cell? ⟨bx, 0, none⟩ = some (.int .i64 x.kind) ∧ W.cell? ⟨bx, 1, none⟩ = some (.int .i64 x.n) ∧ W.cell? ⟨bx, 2, none⟩ = some (.string x.name)) (first | (refine ⟨?_, ?_, ?_⟩ <;> assumption) | go_keep) (first
            | (clear T0; refine step_of rfl (fun Q9 h9 => ?_); refine B_put (W := w0.drew) rfl (.tmp 19) (.tmp 23) 28 rfl Tryz.underlying28 info_byte _ bs x.kind (by rfl) (by rfl) (by rfl) (Kd.R_below R0.out (belD (Below.refl _ _))) (by have := hlen.out; omega) ?_; intro v1 w2 hR1 hg1 hr1; have TA : Sec True := ⟨trivial⟩; have FA : Sec (Foot (fun k => w.heap.size ≤ k ∧ k < bx) w0 w2) := ⟨Foot.grown (Foot.of_below (belD (Below.refl _ _))) hg1 (fun k e => .inl (hr1 k e))⟩; have PA := Sec.mk (carry_ FA.out P0.out (fun h => Nat.lt_irrefl _ h.2)); have RA : Sec (kByte.R w2 (fun k => (w.heap.size ≤ k ∧ k < bx ∨ w0.heap.size ≤ k) ∧ k < w2.heap.size) v1 (bs ++ [u8 x.kind])) := ⟨Kd.R_mono hR1 (fun k h1 h2 => ⟨h1, h2⟩)⟩; clear y0 y1 y2; obtain ⟨y0, y1, y2⟩ := hat.out _ PA.out; clear hR1 hg1 hr1; refine h9 _ _ ?_; clear h9 Q9)
            | (clear TA; go_at_call 27; have TC : Sec True := ⟨trivial⟩; refine (number_c x.n (by have := hnum.out; omega) (by have := hnum.out; omega) _).mono ?_; rintro e w3 ⟨u3, rfl, hR3, hb3⟩; have hb2 : Below w2.heap.size w2 w3 := (by first | exact hb3 | exact bel (belD (Below.refl w2.heap.size w2)) hb3); have FC : Sec (Foot (fun k => w.heap.size ≤ k ∧ k < bx) w0 w3) := ⟨Foot.trans FA.out (Foot.of_below (S := fun _ => False) hb2) (fun _ _ h => h.elim)⟩; have PC := Sec.mk (carry_ FC.out P0.out (fun h => Nat.lt_irrefl _ h.2)); have RC := Sec.mk (Kd.R_below RA.out hb2); have NC : Sec (kByte.R w3 (fun k => w2.heap.size ≤ k) u3 (num3 x.n)) := ⟨hR3⟩; obtain ⟨A3, c3, rfl, -⟩ := Kd.R_form hR3; clear y0 y1 y2; obtain ⟨y0, y1, y2⟩ := hat.out _ PC.out; clear hR3 hb3 hb2)
            | (clear TC; refine step_of rfl (fun Q9 h9 => ?_); refine B_own rfl (.tmp 24) (.tmp 27) 28 rfl Tryz.underlying28 info_byte _ _ (bs ++ [u8 x.kind]) (num3 x.n) (by rfl) (by rfl) (by first | exact RC.out | exact Kd.R_below RC.out (belD (Below.refl _ _))) (by first | exact Kd.R_V NC.out | exact Kd.V_below (Kd.R_V NC.out) (belD (Below.refl _ _)) (by decide)) (fun k h1 h2 => by omega) (by have := hlen.out; simp [num3]; omega) ?_; intro v5 w5 hR5 hg5 hr5; have T5 : Sec True := ⟨trivial⟩; have F5 : Sec (Foot (fun k => w.heap.size ≤ k ∧ k < bx) w0 w5) := ⟨Foot.grown (by first | exact FC.out | exact Foot.trans FC.out (Foot.of_below (S := fun _ => False) (belD (Below.refl w3.heap.size w3))) (fun _ _ h => h.elim)) hg5 (fun k e => (hr5 k e).1)⟩; have P5 := Sec.mk (carry_ F5.out P0.out (fun h => Nat.lt_irrefl _ h.2)); have R5 : Sec (kByte.R w5 (fun k => w.heap.size ≤ k ∧ k ≠ bx) v5 (bs ++ [u8 x.kind] ++ num3 x.n)) := ⟨Kd.R_mono hR5 (fun k h _ => by have z1 := FC.out.size; have z2 := Z0.out; have h' : ((w.heap.size ≤ k ∧ k < bx ∨ w0.heap.size ≤ k) ∧ k < w2.heap.size) ∨ w3.heap.size ≤ k := h; omega)⟩; have B5 : Sec (Below w.heap.size w w5) := ⟨F5.out.below B0.out (fun k h => h.1)⟩; clear y0 y1 y2; obtain ⟨y0, y1, y2⟩ := hat.out _ P5.out; clear hR5 hg5 hr5; refine h9 _ _ ?_; clear h9 Q9))
        all_goals
          have L3 : Sec ((bs ++ [u8 x.kind] ++ num3 x.n).length ≤ 540) := ⟨by have := hlen.out; simp [num3]; omega⟩
          obtain ⟨A5, c5, hv5, -⟩ := Kd.R_form R5.out
          subst hv5
          by_cases hx : x.kind = 3
          · have hx' : (x.kind == 3) = true := beq_iff_eq.2 hx
            have hcb : Sec (cellBytes x = u8 x.kind :: (num3 x.n ++ u8 x.name.size :: x.name.data.toList)) := ⟨by unfold cellBytes; rw [if_pos hx]⟩
            have hn8 := Sec.mk (cellOk_name hok.out hx)
            have hT3 : Sec (∀ ys, bs ++ [u8 x.kind] ++ num3 x.n ++ [u8 x.name.size] ++ ys = bs ++ (u8 x.kind :: (num3 x.n ++ u8 x.name.size :: ys))) := ⟨fun ys => by simp⟩
            generalize bs ++ [u8 x.kind] ++ num3 x.n = b3 at *
            have L4 : Sec ((b3 ++ [u8 x.name.size]).length ≤ 541) := ⟨by have := L3.out; simp; omega⟩
            clear hx
            go_wp2
            go_region_held3 (fun W => W.cell? ⟨bx, 2, none⟩ = some (.string x.name)) (first | assumption | go_keep) (first
              | (clear T5; refine step_of rfl (fun Q9 h9 => ?_); refine B_put (W := w5.drew) rfl (.tmp 32) (.tmp 37) 28 rfl Tryz.underlying28 info_byte _ b3 x.name.size (by rfl) (by rfl) (by rfl) (Kd.R_below R5.out (belD (Below.refl _ _))) (by have := L3.out; omega) ?_; intro v6 w6 hR6 hg6 hr6; have T6 : Sec True := ⟨trivial⟩; have F6 : Sec (Foot (fun k => w.heap.size ≤ k ∧ k ≠ bx) w5 w6) := ⟨Foot.grown (Foot.of_below (belD (Below.refl _ _))) hg6 (fun k e => .inl (hr6 k e))⟩; have P6 := Sec.mk (carry_ F6.out P5.out (fun h => h.2 rfl)); have R6 := Sec.mk (Kd.R_mono hR6 (S1 := fun k => (w.heap.size ≤ k ∧ k ≠ bx) ∨ w5.heap.size ≤ k) (fun k h _ => h)); have B6 : Sec (Below w.heap.size w w6) := ⟨F6.out.below B5.out (fun k h => h.1)⟩; clear y0 y1 y2; obtain ⟨y0, y1, y2⟩ := hat.out _ P6.out; clear hR6 hg6 hr6; refine h9 _ _ ?_; clear h9 Q9)
              | (clear T6; refine step_of rfl (fun Q9 h9 => ?_); refine B_str (B := w.heap.size) rfl (.tmp 38) (.tmp 40) 28 9 rfl Tryz.underlying28 (by kernel_rfl) info_byte _ _ x.name (by rfl) (by rfl) (Kd.R_mono (S := fun k => (w.heap.size ≤ k ∧ k ≠ bx) ∨ w5.heap.size ≤ k) (by first | exact R6.out | exact Kd.R_below R6.out (belD (Below.refl _ _))) (fun k h _ => by have z := B5.out.size; omega)) (by first | exact B6.out.size | exact (belD B6.out).size) (by have := L4.out; have := hn8.out; omega) ?_; intro v7 w7 hR7 hg7 hr7; have T7 : Sec True := ⟨trivial⟩; have P7 : Sec (w7.heap[bx]? = _) := ⟨(hg7.block bx (Array.getElem?_eq_some_iff.1 P6.out).1 (fun e => by obtain ⟨_, _, _, h3⟩ := Kd.R_own R6.out; have h4 := (h3 bx e.symm).1; have z := F5.out.size; have z2 := Z0.out; omega)).trans P6.out⟩; have R7 := Sec.mk hR7; have B7 : Sec (Below w.heap.size w w7) := ⟨by first | exact B6.out.grown hg7 B6.out.size hr7 | exact (belD B6.out).grown hg7 (belD B6.out).size hr7⟩; clear y0 y1 y2; obtain ⟨y0, y1, y2⟩ := hat.out _ P7.out; clear hR7 hg7 hr7; refine h9 _ _ ?_; clear h9 Q9))
            all_goals
              go_wp2
              go_roundw
              case rel => exact ⟨k + 1, by omega, by go_num, ⟨by rw [hT2.out, hcb.out, ← hT3.out]; exact R7.out⟩, B7⟩
              case measure => simp [intOf]; omega
          · have hx' : (x.kind == 3) = false := beq_eq_false_iff_ne.2 hx
            have hcb : Sec (cellBytes x = u8 x.kind :: num3 x.n) := ⟨by unfold cellBytes; rw [if_neg hx, List.append_nil]⟩
            clear hx
            go_wp2
            go_roundw
            case rel => exact ⟨k + 1, by omega, by go_num, ⟨by rw [hT2.out, hcb.out]; have := Kd.R_mono R5.out (S1 := fun k => w.heap.size ≤ k) (fun k h _ => h.1); simpa using this⟩, B5⟩
            case measure => simp [intOf]; omega
      · have hk' : Sec (t.flatMap cellBytes = (t.take k).flatMap cellBytes) := ⟨by rw [List.take_of_length_le (by omega)]⟩
        go_wp2
        go_ret
        exact ⟨_, rfl, by rw [hres.out, hk'.out]; exact hR.out, hb.out⟩
  · have hT' : trmOk t = false := by simpa using hT
    have hres : Sec (trmBytes t = []) := ⟨if_neg hT⟩
    rw [hT'] at H0
    clear hT hT'
    go_enter Tryz.func28, Tryz.ntmps28
    go_wp2_with fail
    refine H0.out.mono ?_
    rintro e w1 ⟨rfl, hb1⟩
    have B1 := Sec.mk hb1
    clear hb1
    go_wp2
    go_ret
    exact ⟨_, rfl, by rw [hres.out]; exact Kd.R_nil _ _ _, B1.out⟩
end
section
open Go.RowKit
theorem carry {S : Nat → Prop} {w W : World} {b : Nat} {o : Obj} (h : Foot S w W) (hb : w.heap[b]? = some o) (hS : ¬ S b) : W.heap[b]? = some o := (h.block b (Array.getElem?_eq_some_iff.1 hb).1 hS).trans hb
theorem carryB {w W : World} {b : Nat} {o : Obj} (h : Below w.heap.size w W) (hb : w.heap[b]? = some o) : W.heap[b]? = some o := (h.block b (Array.getElem?_eq_some_iff.1 hb).1).trans hb
end
end Go.Proofs.YteflipoiiddkfaaGreatDoor
