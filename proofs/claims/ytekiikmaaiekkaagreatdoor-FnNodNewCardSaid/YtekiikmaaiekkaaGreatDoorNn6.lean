/- Contracts: PrgOk (the program); and what goes with it. -/
import Derived.Test.YtekiikmaaiekkaaGreatDoorNn1
import Derived.Test.YtekiikmaaiekkaaGreatDoorNn2
import Derived.Test.YtekiikmaaiekkaaGreatDoorNn3
import Derived.Test.YtekiikmaaiekkaaGreatDoorNn5
import Derived.Deep.RegionHeld3
import Derived.Outline
import Derived.KernelRfl
import Derived.WalkLawsBesides
import Derived.Deep.LoopGhost
import Derived.Deep.QuietTactic
import Derived.BigQuiet
import Derived.Laws.Bits64
namespace Go.Proofs.YtekiikmaaiekkaaGreatDoor
section
open Go.RowKit
set_option linter.unusedVariables false
set_option maxRecDepth 100000
theorem carryBx {w W : World} {b : Nat} {o : Obj} (h : Below w.heap.size w W) (hb : w.heap[b]? = some o) : W.heap[b]? = some o := (h.block b (Array.getElem?_eq_some_iff.1 hb).1).trans hb
theorem samePlace_eq (x y : Place) : samePlace y x = ((x.name.toList == y.name.toList) && x.n == y.n) := by
  unfold samePlace
  have e1 : (y.name.toList == x.name.toList) = (x.name.toList == y.name.toList) := by
    by_cases h : x.name.toList = y.name.toList
    · rw [h]
    · rw [beq_eq_false_iff_ne.2 h, beq_eq_false_iff_ne.2 (Ne.symm h)]
  have e2 : (y.n == x.n) = (x.n == y.n) := by
    by_cases h : x.n = y.n
    · rw [h]
    · rw [beq_eq_false_iff_ne.2 h, beq_eq_false_iff_ne.2 (Ne.symm h)]
  rw [e1, e2]
theorem prgOk_tests (p : Prog) (h : placesOk p.places = true) : prgOk p = (decide ((p.clauses.length : Int) ≤ 12) && decide ((p.places.length : Int) ≤ 6) && !(!p.clauses.all clauseOk)) := by
  have e1 : decide ((p.clauses.length : Int) ≤ 12) = decide (p.clauses.length ≤ 12) := decide_eq_decide.2 (by omega)
  have e2 : decide ((p.places.length : Int) ≤ 6) = decide (p.places.length ≤ 6) := decide_eq_decide.2 (by omega)
  rw [e1, e2]; unfold prgOk; rw [h]; simp
set_option maxHeartbeats 4000000 in
theorem PrgOk_i (p : Prog) (cs : List Value) (ok : Nat → Prop) (w : World) (hK : kProg.K w ok p cs) :
    Calls Tryz.prog 41 #[.agg cs.toArray] w fun e w' => e = .returned (.bool (prgOk p)) ∧ Below w.heap.size w w' := by
  obtain ⟨v0, v1, rfl, h0, h1⟩ := kProg_K hK
  have CL := Sec.mk (fun (W : World) (hb : Below w.heap.size w W) => wrongClause_i3 v0 p.clauses ok W (Kd.V_below h0 hb (by decide)))
  obtain ⟨E0, m0, rfl, -, -, l0, -⟩ := h0
  obtain ⟨E1, m1, rfl, hm1, -, l1, hC1, -⟩ := h1
  have B0 := Sec.mk (belA (Below.refl w.heap.size w) (.cells #[.slice E0 p.clauses.length m0, .slice E1 p.places.length m1] 40))
  have P0 := Sec.mk (heap_alloc_new w (.cells #[.slice E0 p.clauses.length m0, .slice E1 p.places.length m1] 40))
  have HC1 := Sec.mk hC1
  clear hK hC1
  have hu := Tryz.underlying135
  have X := (box_at P0.out).2.1
  have y0 := X 0 _ rfl
  have y1 := X 1 _ rfl
  clear X
  go_enter Tryz.func41, Tryz.ntmps41
  go_wp2
  clear y0 y1
  go_loopw [11] (fun i wr => ∃ k : Nat, k ≤ p.places.length ∧ i = .int .i64 k ∧ Sec ((List.range k).all (newAt p.places) = true) ∧ Sec (Below w.heap.size w wr ∧ wr.heap[w.heap.size]? = some (.cells #[.slice E0 p.clauses.length m0, .slice E1 p.places.length m1] 40 (0, 0)))) (fun i _ => p.places.length - (intOf i).toNat)
  case atStart => exact ⟨0, Nat.zero_le _, rfl, ⟨by simp⟩, ⟨B0.out, P0.out⟩⟩
  case round =>
    obtain ⟨k, hk, rfl, hT, hb⟩ := hrel
    by_cases hlt : k < p.places.length
    · obtain ⟨b, off, rfl, _, x0, x1, x2, hsz⟩ := place_at' (Kd.C_below HC1.out hb.out.1 (by decide)) k hlt
      have HN := Sec.mk (newAt_at hlt)
      have HB := Sec.mk (fun h => places_no hlt h)
      have HR := Sec.mk (range_all (p := newAt p.places) k)
      have i0 : (0 : Int) ≤ (k : Int) := by omega
      have i1 : (k : Int) < (p.places.length : Int) := by omega
      have HX : Sec (p.places[k]? = some p.places[k]) := ⟨List.getElem?_eq_getElem hlt⟩
      generalize p.places[k] = x at *
      have HNM := Sec.mk (fun W => nameOk_i x.name hsz W)
      have HPO : Sec (placeOk x = (nameOk x.name && inB x.n 0 3 && inB x.node 1 2)) := ⟨rfl⟩
      have HI1 := Sec.mk (fun W => in_c x.n 0 3 W)
      have HI2 := Sec.mk (fun W => in_c x.node 1 2 W)
      generalize nameOk x.name = n1 at *
      generalize inB x.n 0 3 = n2 at *
      generalize inB x.node 1 2 = n3 at *
      have T0 : Sec True := ⟨trivial⟩
      have BW := Sec.mk (belA hb.out.1 (.cells #[.string x.name, .int .i64 x.n, .int .i64 x.node] 135))
      have PW := Sec.mk (heap_alloc_new wr (.cells #[.string x.name, .int .i64 x.n, .int .i64 x.node] 135))
      have PP := Sec.mk ((Below.heap_alloc wr (.cells #[.string x.name, .int .i64 x.n, .int .i64 x.node] 135 (0, 0)) _ (Array.getElem?_eq_some_iff.1 hb.out.2).1).trans hb.out.2)
      cases n1 with
      | false =>
        have HE : Sec (prgOk p = false) := ⟨prgOk_4 (HB.out (by rw [HN.out, HPO.out]; rfl))⟩
        cases n2 <;> cases n3 <;> (
          go_wp2_with (go_at_call 104; refine (HNM.out _).mono ?_; rintro e w5 ⟨rfl, hb5⟩; have B5 := Sec.mk (bel BW.out hb5); clear hb5)
          go_ret
          exact ⟨rb HE.out.symm, B5.out⟩)
      | true =>
        cases n2 with
        | false =>
          have HE : Sec (prgOk p = false) := ⟨prgOk_4 (HB.out (by rw [HN.out, HPO.out]; rfl))⟩
          cases n3 <;> (
            go_wp2_with (first | (clear T0; go_at_call 104; have T1 : Sec True := ⟨trivial⟩; refine (HNM.out _).mono ?_; rintro e w5 ⟨rfl, hb5⟩; have B5 := Sec.mk (bel BW.out hb5); have X := (box_at (carryBx hb5 PW.out)).2.1; have z1 := X 1 _ rfl; have z2 := X 2 _ rfl; clear hb5 X) | (clear T1; go_at_call 68; refine (HI1.out _).mono ?_; rintro e w6 ⟨rfl, rfl⟩))
            go_ret
            exact ⟨rb HE.out.symm, B5.out⟩)
        | true =>
          cases n3 with
          | false =>
            have HE : Sec (prgOk p = false) := ⟨prgOk_4 (HB.out (by rw [HN.out, HPO.out]; rfl))⟩
            go_wp2_with (first | (clear T0; go_at_call 104; have T1 : Sec True := ⟨trivial⟩; refine (HNM.out _).mono ?_; rintro e w5 ⟨rfl, hb5⟩; have B5 := Sec.mk (bel BW.out hb5); have X := (box_at (carryBx hb5 PW.out)).2.1; have z1 := X 1 _ rfl; have z2 := X 2 _ rfl; clear hb5 X) | (clear T1; go_at_call 68; have T2 : Sec True := ⟨trivial⟩; refine (HI1.out _).mono ?_; rintro e w6 ⟨rfl, rfl⟩) | (clear T2; go_at_call 68; refine (HI2.out _).mono ?_; rintro e w6 ⟨rfl, rfl⟩))
            go_ret
            exact ⟨rb HE.out.symm, B5.out⟩
          | true =>
            have HN2 : Sec (newAt p.places k = (p.places.take k).all (fun q => !samePlace q x)) := ⟨by rw [HN.out, HPO.out]; simp⟩
            have s0 : (k : Int) ≤ (m1 : Int) := by omega
            go_wp2_with (first | (clear T0; go_at_call 104; have T1 : Sec True := ⟨trivial⟩; refine (HNM.out _).mono ?_; rintro e w5 ⟨rfl, hb5⟩; have B5 := Sec.mk (bel BW.out hb5); have P5 := Sec.mk (carryBx hb5 PW.out); have Q5 := Sec.mk (carryBx hb5 PP.out); have X := (box_at P5.out).2.1; have z1 := X 1 _ rfl; have z2 := X 2 _ rfl; have X := (box_at Q5.out).2.1; have u1 := X 1 _ rfl; clear hb5 X) | (clear T1; go_at_call 68; have T2 : Sec True := ⟨trivial⟩; refine (HI1.out _).mono ?_; rintro e w6 ⟨rfl, rfl⟩) | (clear T2; go_at_call 68; refine (HI2.out _).mono ?_; rintro e w6 ⟨rfl, rfl⟩))
            clear z1 z2 u1 x0 x1 x2
            go_loopw [37] (fun i wt => ∃ j : Nat, j ≤ k ∧ i = .int .i64 j ∧ Sec ((p.places.take j).all (fun q => !samePlace q x) = true) ∧ Sec (Below w.heap.size w wt ∧ wt.heap[w.heap.size]? = some (.cells #[.slice E0 p.clauses.length m0, .slice (some ⟨b, off, none⟩) p.places.length m1] 40 (0, 0)) ∧ wt.heap[wr.heap.size]? = some (.cells #[.string x.name, .int .i64 x.n, .int .i64 x.node] 135 (0, 0)))) (fun i _ => k - (intOf i).toNat)
            case atStart => exact ⟨0, Nat.zero_le _, rfl, ⟨by simp⟩, ⟨B5.out, Q5.out, P5.out⟩⟩
            case round =>
              obtain ⟨j, hj, rfl, hT2, hb2⟩ := hrel
              by_cases hlt3 : j < k
              · obtain ⟨b4, off4, e4, _, z0, z1, z2, -⟩ := place_at' (Kd.C_below HC1.out hb2.out.1 (by decide)) j (by omega)
                cases e4
                have hTj : Sec ((p.places.take (j + 1)).all (fun q => !samePlace q x) = !samePlace p.places[j] x) := ⟨by rw [take_all _ p.places j (by omega), hT2.out, Bool.true_and]⟩
                have hAll : Sec (samePlace p.places[j] x = true → newAt p.places k = false) := ⟨fun h => by rw [HN2.out]; exact List.all_eq_false.2 ⟨p.places[j], by rw [List.mem_take_iff_getElem]; exact ⟨j, by omega, rfl⟩, by rw [h]; decide⟩⟩
                have hs := Sec.mk (samePlace_eq x p.places[j])
                generalize p.places[j] = y at *
                have X := box_cells (belA (Below.refl wr.heap.size wr) (.cells #[.string y.name, .int .i64 y.n, .int .i64 y.node] 135)) hb2.out.2.2
                have g0 := X.2.1 0 _ rfl
                have g1 := X.2.1 1 _ rfl
                clear X
                have X := (box_at (heap_alloc_new wr (.cells #[.string y.name, .int .i64 y.n, .int .i64 y.node] 135))).2.1
                have k0 := X 0 _ rfl
                have k1 := X 1 _ rfl
                clear X
                have BT := Sec.mk (belA hb2.out.1 (.cells #[.string y.name, .int .i64 y.n, .int .i64 y.node] 135))
                have QT := Sec.mk ((Below.heap_alloc wr (.cells #[.string y.name, .int .i64 y.n, .int .i64 y.node] 135 (0, 0)) _ (Array.getElem?_eq_some_iff.1 hb2.out.2.1).1).trans hb2.out.2.1)
                have PT := Sec.mk ((Below.heap_alloc wr (.cells #[.string y.name, .int .i64 y.n, .int .i64 y.node] 135 (0, 0)) _ (Array.getElem?_eq_some_iff.1 hb2.out.2.2).1).trans hb2.out.2.2)
                have j0 : (0 : Int) ≤ (j : Int) := by omega
                have j1 : (j : Int) < (k : Int) := by omega
                cases hn : (x.name.toList == y.name.toList) with
                | false =>
                  have HE : Sec ((p.places.take (j + 1)).all (fun q => !samePlace q x) = true) := ⟨by rw [hTj.out, hs.out, hn]; rfl⟩
                  go_wp2
                  go_roundw
                  case rel => exact ⟨j + 1, by omega, by go_num, HE, ⟨BT.out, QT.out, PT.out⟩⟩
                  case measure => simp [intOf]; omega
                | true =>
                  cases hn2 : (x.n == y.n) with
                  | false =>
                    have HE : Sec ((p.places.take (j + 1)).all (fun q => !samePlace q x) = true) := ⟨by rw [hTj.out, hs.out, hn, hn2]; rfl⟩
                    go_wp2
                    go_roundw
                    case rel => exact ⟨j + 1, by omega, by go_num, HE, ⟨BT.out, QT.out, PT.out⟩⟩
                    case measure => simp [intOf]; omega
                  | true =>
                    have HE : Sec (prgOk p = false) := ⟨prgOk_4 (HB.out (hAll.out (by rw [hs.out, hn, hn2]; rfl)))⟩
                    go_wp2
                    go_ret
                    exact ⟨rb HE.out.symm, BT.out⟩
              · have HE : Sec ((List.range (k + 1)).all (newAt p.places) = true) := ⟨by rw [HR.out, hT.out, HN2.out]; have := hT2.out; rwa [show j = k by omega] at this⟩
                go_wp2
                go_roundw
                case rel => exact ⟨k + 1, by omega, by go_num, HE, ⟨hb2.out.1, hb2.out.2.1⟩⟩
                case measure => simp [intOf]; omega
    · have HT := Sec.mk (prgOk_tests p (by have := hT.out; rwa [show k = p.places.length by omega] at this))
      have X := (box_at hb.out.2).2.1
      have u0 := X 0 _ rfl
      have u1 := X 1 _ rfl
      clear X hT
      generalize (!p.clauses.all clauseOk) = q3 at *
      obtain ⟨q1, hq1⟩ : ∃ q, decide ((p.clauses.length : Int) ≤ 12) = q := ⟨_, rfl⟩
      obtain ⟨q2, hq2⟩ : ∃ q, decide ((p.places.length : Int) ≤ 6) = q := ⟨_, rfl⟩
      rw [hq1, hq2] at HT
      cases q1 with
      | false =>
        clear hq2
        cases q2 <;> (
          go_wp2
          go_ret
          exact ⟨rb HT.out.symm, hb.out.1⟩)
      | true =>
        cases q2 with
        | false =>
          go_wp2
          go_ret
          exact ⟨rb HT.out.symm, hb.out.1⟩
        | true =>
          go_wp2_with (go_at_call 107; refine (CL.out _ hb.out.1).mono ?_; rintro e w5 ⟨rfl, hb5⟩; have B5 := Sec.mk (bel hb.out.1 hb5); clear hb5)
          go_ret
          exact ⟨rb HT.out.symm, B5.out⟩
end
section
open Go.RowKit
set_option linter.unusedVariables false
set_option maxRecDepth 100000
set_option maxHeartbeats 1000000 in
theorem NodOk0_i (p : Prog) (cs : List Value) (ok : Nat → Prop) (node : Int) (up : Bool) (A : Option Addr) (c : Nat) (b : Bool) (w : World) (hK : kProg.K w ok p cs) (hb : (prgOk p && inB node 0 2) = b) :
    Calls Tryz.prog 44 #[.agg cs.toArray, .int .i64 node, .agg #[.bool up, .slice A 0 c]] w fun e w' => e = .returned (.bool b) ∧ Below w.heap.size w w' := by
  have HK := Sec.mk hK
  obtain ⟨v1, v2, rfl, h1, h2⟩ := kProg_K hK
  obtain ⟨E1, m1, rfl, -⟩ := h1
  obtain ⟨E2, m2, rfl, -⟩ := h2
  have hu := Tryz.underlying40
  have B0 := Sec.mk (belA (belA (Below.refl w.heap.size w) (.cells #[.slice E1 p.clauses.length m1, .slice E2 p.places.length m2] 40)) (.cells #[.bool up, .slice A 0 c] 71))
  have P0 := Sec.mk (box2 w (.cells #[.slice E1 p.clauses.length m1, .slice E2 p.places.length m2] 40) (.cells #[.bool up, .slice A 0 c] 71)).1
  have Q0 := Sec.mk (box2 w (.cells #[.slice E1 p.clauses.length m1, .slice E2 p.places.length m2] 40) (.cells #[.bool up, .slice A 0 c] 71)).2
  have X := (box_at P0.out).2.1
  have p0 := X 0 _ rfl
  have p1 := X 1 _ rfl
  clear X hK
  have T0 : Sec True := ⟨trivial⟩
  have HB := Sec.mk hb
  clear hb
  cases HQ : prgOk p with
  | false =>
    have hb : b = false := by rw [← HB.out, HQ]; rfl
    subst hb
    have HQ := Sec.mk HQ
    go_enter Tryz.func44, Tryz.ntmps44
    go_wp2_with (clear T0; go_at_call 41; have T1 : Sec True := ⟨trivial⟩; refine (PrgOk_i p _ _ _ (Kd.K_below HK.out B0.out)).mono ?_; rw [HQ.out]; rintro e w1 ⟨rfl, hb⟩; have B1 := Sec.mk (bel B0.out hb); have Q1 := Sec.mk ((hb.block _ (Array.getElem?_eq_some_iff.1 Q0.out).1).trans Q0.out); have r0 := (box_at Q1.out).2.1 0 _ rfl; have r1 := (box_at Q1.out).2.1 1 _ rfl; clear hb)
    go_ret
    exact ⟨rfl, B1.out⟩
  | true =>
    cases HI : inB node 0 2 with
    | false =>
      have hb : b = false := by rw [← HB.out, HQ, HI]; rfl
      subst hb
      have HQ := Sec.mk HQ
      have HI := Sec.mk HI
      go_enter Tryz.func44, Tryz.ntmps44
      go_wp2_with (first | (clear T1; go_at_call 68; refine (in_c node 0 2 _).mono ?_; rw [HI.out]; rintro e w2 ⟨rfl, rfl⟩) | (clear T0; go_at_call 41; have T1 : Sec True := ⟨trivial⟩; refine (PrgOk_i p _ _ _ (Kd.K_below HK.out B0.out)).mono ?_; rw [HQ.out]; rintro e w1 ⟨rfl, hb⟩; have B1 := Sec.mk (bel B0.out hb); have Q1 := Sec.mk ((hb.block _ (Array.getElem?_eq_some_iff.1 Q0.out).1).trans Q0.out); have r0 := (box_at Q1.out).2.1 0 _ rfl; have r1 := (box_at Q1.out).2.1 1 _ rfl; clear hb))
      go_ret
      exact ⟨rfl, B1.out⟩
    | true =>
      have hb : b = true := by rw [← HB.out, HQ, HI]; rfl
      subst hb
      have HQ := Sec.mk HQ
      have HI := Sec.mk HI
      cases up with
      | false =>
        go_enter Tryz.func44, Tryz.ntmps44
        go_wp2_with (first | (clear T1; go_at_call 68; refine (in_c node 0 2 _).mono ?_; rw [HI.out]; rintro e w2 ⟨rfl, rfl⟩) | (clear T0; go_at_call 41; have T1 : Sec True := ⟨trivial⟩; refine (PrgOk_i p _ _ _ (Kd.K_below HK.out B0.out)).mono ?_; rw [HQ.out]; rintro e w1 ⟨rfl, hb⟩; have B1 := Sec.mk (bel B0.out hb); have Q1 := Sec.mk ((hb.block _ (Array.getElem?_eq_some_iff.1 Q0.out).1).trans Q0.out); have r0 := (box_at Q1.out).2.1 0 _ rfl; have r1 := (box_at Q1.out).2.1 1 _ rfl; clear hb))
        go_loopw [38] (fun iv wr => iv = .int .i64 0 ∧ Sec (Below w.heap.size w wr)) (fun _ _ => 0)
        case atStart => exact ⟨rfl, B1⟩
        case round =>
          obtain ⟨rfl, hb⟩ := hrel
          go_wp2
          go_ret
          exact ⟨rfl, hb.out⟩
      | true =>
        go_enter Tryz.func44, Tryz.ntmps44
        go_wp2_with (first | (clear T1; go_at_call 68; refine (in_c node 0 2 _).mono ?_; rw [HI.out]; rintro e w2 ⟨rfl, rfl⟩) | (clear T0; go_at_call 41; have T1 : Sec True := ⟨trivial⟩; refine (PrgOk_i p _ _ _ (Kd.K_below HK.out B0.out)).mono ?_; rw [HQ.out]; rintro e w1 ⟨rfl, hb⟩; have B1 := Sec.mk (bel B0.out hb); have Q1 := Sec.mk ((hb.block _ (Array.getElem?_eq_some_iff.1 Q0.out).1).trans Q0.out); have r0 := (box_at Q1.out).2.1 0 _ rfl; have r1 := (box_at Q1.out).2.1 1 _ rfl; clear hb))
        go_loopw [38] (fun iv wr => iv = .int .i64 0 ∧ Sec (Below w.heap.size w wr)) (fun _ _ => 0)
        case atStart => exact ⟨rfl, B1⟩
        case round =>
          obtain ⟨rfl, hb⟩ := hrel
          go_wp2
          go_ret
          exact ⟨rfl, hb.out⟩
end
section
open Go.RowKit
set_option linter.unusedVariables false
set_option maxRecDepth 100000
end
section
def Lay {α : Type} (P : List α → Prop) : Nat → List α → Prop
  | 0, acc => P acc
  | n + 1, acc => ∀ x, Lay P n (x :: acc)
theorem lay_of {α : Type} {P : List α → Prop} : ∀ (n : Nat) (acc : List α), Lay P n acc → ∀ l : List α, l.length = n → P (l ++ acc)
  | 0, acc, h, l, hl => by obtain rfl := List.eq_nil_of_length_eq_zero hl; exact h
  | n + 1, acc, h, l, hl => by
    have hd : l = l.take n ++ [l[n]'(by omega)] := by
      rw [List.take_append_getElem, List.take_of_length_le (by omega)]
    rw [hd, List.append_assoc]
    exact lay_of n _ (h _) (l.take n) (by simp; omega)
theorem lay_all {α : Type} {P : List α → Prop} {n : Nat} (l : List α) (hl : l.length = n) (h : Lay P n []) : P l := by
  have := lay_of n [] h l hl
  rwa [List.append_nil] at this
end
section
open Go.RowKit
/-- From the last place on: what is kept stands as it was, else there is some x. -/
def LayM {α : Type} (P : List α → Prop) : List Bool → List α → List α → Prop
  | [], _, acc => P acc
  | _ :: _, [], acc => P acc
  | true :: m, v :: l, acc => LayM P m l (v :: acc)
  | false :: m, _ :: l, acc => ∀ x, LayM P m l (x :: acc)
theorem layM_of {α : Type} {P : List α → Prop} : ∀ (m : List Bool) (l0 l acc : List α), m.length = l0.length → l.length = l0.length → (∀ t : Nat, m[t]? = some true → l[t]? = l0[t]?) → LayM P m l0 acc → P (l.reverse ++ acc)
  | [], l0, l, acc, hm, hl, hk, h => by
    have : l0 = [] := List.eq_nil_of_length_eq_zero (by simpa using hm.symm)
    subst this
    have : l = [] := List.eq_nil_of_length_eq_zero (by simpa using hl)
    subst this
    exact h
  | b :: m, [], l, acc, hm, hl, hk, h => by simp at hm
  | b :: m, v0 :: l0, [], acc, hm, hl, hk, h => by simp at hl
  | b :: m, v0 :: l0, v :: l, acc, hm, hl, hk, h => by
    rw [List.reverse_cons, List.append_assoc]
    have hk' : ∀ t : Nat, m[t]? = some true → l[t]? = l0[t]? := fun t ht => by have := hk (t + 1) (by simpa using ht); simpa using this
    cases b with
    | true =>
      have h0 := hk 0 (by simp)
      simp at h0
      subst h0
      exact layM_of m l0 l _ (by simpa using hm) (by simpa using hl) hk' h
    | false => exact layM_of m l0 l _ (by simpa using hm) (by simpa using hl) hk' (h v)
theorem layM_rev {α : Type} {P : List α → Prop} (m : List Bool) {l0 l : List α} (hm : m.length = l0.length) (hl : l.length = l0.length) (hk : ∀ t : Nat, t < l0.length → m[t]? = some true → l[t]? = l0[t]?) (h : LayM P m.reverse l0.reverse []) : P l := by
  have := layM_of m.reverse l0.reverse l.reverse [] (by simpa using hm) (by simpa using hl) (fun t ht => by
    have hlt : t < m.length := by have := (List.getElem?_eq_some_iff.1 ht).1; simpa using this
    rw [List.getElem?_reverse (by omega)] at ht
    rw [List.getElem?_reverse (by omega), List.getElem?_reverse (by omega), hl]
    exact hk _ (by omega) (by rw [← hm]; exact ht)) h
  rwa [List.append_nil, List.reverse_reverse] at this
def maskOk (ops : Array Oper) (m : List Bool) : Bool := (List.range m.length).all (fun t => !(m.getD t false) || foreign ops t)
theorem slots_list {l : List Value} {df} (t : Nat) : slotsOf ⟨l.toArray, df⟩ t = (l[t]?).getD undef := by simp [slotsOf, Act.eval]
theorem lay_intro {ops : Array Oper} {a0 : Act} {df} {R : Act → Prop} (m : List Bool) (hm : (decide (m.length = a0.tmps.toList.length) && maskOk ops m) = true) (hdf : a0.defers = df)
    (h : LayM (fun l => R ⟨l.toArray, df⟩) m.reverse a0.tmps.toList.reverse []) : ∀ a : Act, a.tmps.size = a0.tmps.size → a.defers = a0.defers → (∀ t, foreign ops t = true → slotsOf a t = slotsOf a0 t) → R a := by
  intro a hs hd hk
  rw [Bool.and_eq_true] at hm
  have hm0 := of_decide_eq_true hm.1
  subst hdf
  obtain ⟨⟨l0⟩, d0⟩ := a0
  obtain ⟨⟨l⟩, d⟩ := a
  obtain rfl : d = d0 := hd
  have hl : l.length = l0.length := hs
  have hm1 : m.length = l0.length := hm0
  refine layM_rev (P := fun l => R ⟨l.toArray, d⟩) m hm0 hl (fun t hlt ht => ?_) h
  have hlt : t < l0.length := hlt
  have h1 := List.all_eq_true.1 hm.2 t (by simp; omega)
  rw [List.getD_eq_getElem?_getD, ht] at h1
  have h2 := hk t (by simpa using h1)
  rw [slots_list, slots_list, List.getElem?_eq_getElem (by omega), List.getElem?_eq_getElem (by omega)] at h2
  rw [List.getElem?_eq_getElem (by omega), List.getElem?_eq_getElem (by omega)]
  simpa using h2
end
section
open Go.RowKit
set_option linter.unusedVariables false
set_option maxRecDepth 100000
end
section
open Go.RowKit
set_option linter.unusedVariables false
namespace Kd
variable {α β γ : Type}
/-- Of the kind d a field of the kind e, j cells in; what is put there may own other blocks. -/
structure GFld (d : Kd α) (e : Kd β) (j : Nat) (get : α → β) (put : α → β → α) : Prop where
  opn : ∀ {w : World} {S : Nat → Prop} {x : α} {c : List Value}, d.O w S x c → ∃ (S1 S2 : Nat → Prop) (c0 c1 c2 : List Value), c = c0 ++ (c1 ++ c2) ∧ c0.length = j ∧ (∀ k, S1 k → S k ∧ ¬ S2 k) ∧ (∀ k, S2 k → S k ∧ k < w.heap.size) ∧ e.O w S1 (get x) c1 ∧
    ∀ (w' : World) (S' : Nat → Prop) (y : β) (c1' : List Value), Keeps w w' S2 S2 → (∀ k, S' k → ¬ S2 k) → e.O w' S' y c1' → d.O w' (fun k => S' k ∨ S2 k) (put x y) (c0 ++ (c1' ++ c2))
theorem GFld.self (d : Kd α) : GFld d d 0 (fun x => x) (fun _ y => y) := ⟨fun {w S x c} h => ⟨S, fun _ => False, [], c, [], by simp, rfl, fun k hk => ⟨hk, id⟩, fun k hk => hk.elim, h, fun w' S' y c1' _ _ hO => by simpa using d.O_mono hO (S1 := fun k => S' k ∨ False) (fun k h _ => .inl h)⟩⟩
theorem GFld.fst {a : Kd α} {b : Kd β} {e : Kd γ} {j : Nat} {get : α → γ} {put : α → γ → α} (F : GFld a e j get put) : GFld (pair a b) e j (fun x => get x.1) (fun x y => (put x.1 y, x.2)) := ⟨fun {w S x c} h => by
  obtain ⟨T1, T2, d0, d1, rfl, g1, g2, h0, h1⟩ := h
  obtain ⟨S1, S2, c0, c1, c2, rfl, hl, k1, k2, hO, hback⟩ := F.opn h0
  refine ⟨S1, fun k => S2 k ∨ (T2 k ∧ k < w.heap.size), c0, c1, c2 ++ d1, by simp, hl, fun k hk => ⟨(g1 k (k1 k hk).1).1, fun e => e.elim (k1 k hk).2 (fun e => (g1 k (k1 k hk).1).2 e.1)⟩, fun k hk => hk.elim (fun e => ⟨(g1 k (k2 k e).1).1, (k2 k e).2⟩) (fun e => ⟨g2 k e.1, e.2⟩), hO, fun w' S' y c1' hk hd hO' => ?_⟩
  refine ⟨fun k => S' k ∨ S2 k, fun k => T2 k ∧ k < w.heap.size, c0 ++ (c1' ++ c2), d1, by simp, fun k hk => ⟨hk.elim (fun e => .inl e) (fun e => .inr (.inl e)), fun e => hk.elim (fun e' => hd k e' (.inr e)) (fun e' => (g1 k (k2 k e').1).2 e.1)⟩, fun k hk => .inr (.inr hk), ?_, ?_⟩
  · exact hback w' S' y c1' (fun k h1 h2 => ⟨h1, (hk k (.inl h1) h2).2⟩) (fun k h1 h2 => hd k h1 (.inl h2)) hO'
  · exact b.O_move (fun k h1 h2 => ⟨⟨h1, h2⟩, (hk k (.inr ⟨h1, h2⟩) h2).2⟩) h1⟩
theorem GFld.snd {a : Kd α} {b : Kd β} {e : Kd γ} {j : Nat} {get : β → γ} {put : β → γ → β} (F : GFld b e j get put) : GFld (pair a b) e (a.sz + j) (fun x => get x.2) (fun x y => (x.1, put x.2 y)) := ⟨fun {w S x c} h => by
  obtain ⟨T1, T2, d0, d1, rfl, g1, g2, h0, h1⟩ := h
  obtain ⟨S1, S2, c0, c1, c2, rfl, hl, k1, k2, hO, hback⟩ := F.opn h1
  refine ⟨S1, fun k => S2 k ∨ (T1 k ∧ k < w.heap.size), d0 ++ c0, c1, c2, by simp, by rw [List.length_append, a.K_len (a.O_K h0), hl], fun k hk => ⟨g2 k (k1 k hk).1, fun e => e.elim (k1 k hk).2 (fun e => (g1 k e.1).2 (k1 k hk).1)⟩, fun k hk => hk.elim (fun e => ⟨g2 k (k2 k e).1, (k2 k e).2⟩) (fun e => ⟨(g1 k e.1).1, e.2⟩), hO, fun w' S' y c1' hk hd hO' => ?_⟩
  refine ⟨fun k => T1 k ∧ k < w.heap.size, fun k => S' k ∨ S2 k, d0, c0 ++ (c1' ++ c2), by simp, fun k hk => ⟨.inr (.inr hk), fun e => e.elim (fun e' => hd k e' (.inr hk)) (fun e' => (g1 k hk.1).2 (k2 k e').1)⟩, fun k hk => hk.imp id .inl, ?_, ?_⟩
  · exact a.O_move (fun k h1 h2 => ⟨⟨h1, h2⟩, (hk k (.inr ⟨h1, h2⟩) h2).2⟩) h0
  · exact hback w' S' y c1' (fun k h1 h2 => ⟨h1, (hk k (.inl h1) h2).2⟩) (fun k h1 h2 => hd k h1 (.inl h2)) hO'⟩
theorem GFld.iso {d : Kd β} {e : Kd γ} {j : Nat} {get : β → γ} {put : β → γ → β} (t : TypeId) {f : α → β} {put' : α → γ → α} (F : GFld d e j get put) (h : ∀ x y, f (put' x y) = put (f x) y) : GFld (Kd.iso t d f) e j (fun x => get (f x)) put' := ⟨fun {w S x c} hx => by
  obtain ⟨S1, S2, c0, c1, c2, rfl, hl, k1, k2, hO, hback⟩ := F.opn (w := w) (S := S) (x := f x) hx
  refine ⟨S1, S2, c0, c1, c2, rfl, hl, k1, k2, hO, fun w' S' y c1' hk hd hO' => ?_⟩
  have := hback w' S' y c1' hk hd hO'
  rw [← h] at this
  exact this⟩
end Kd
/-- A struct but for one of its fields. -/
def Hole {α β : Type} (d : Kd α) (e : Kd β) (x : β → α) (c0 c2 : List Value) (w : World) (S : Nat → Prop) : Prop :=
  ∀ (w' : World) (S' : Nat → Prop) (y : β) (c1 : List Value), Keeps w w' S S → (∀ k, S' k → ¬ S k) → e.O w' S' y c1 → d.O w' (fun k => S' k ∨ S k) (x y) (c0 ++ (c1 ++ c2))
theorem Hole.move {α β : Type} {d : Kd α} {e : Kd β} {x : β → α} {c0 c2 : List Value} {w w1 : World} {S : Nat → Prop} (h : Hole d e x c0 c2 w S) (hk : Keeps w w1 S S) : Hole d e x c0 c2 w1 S := fun w' S' y c1 hk2 hd hO =>
  h w' S' y c1 (fun k h1 h2 => ⟨h1, by
    have h3 := (hk k h1 h2).2
    have h4 : k < w1.heap.size := by
      rw [Array.getElem?_eq_getElem h2] at h3
      exact (Array.getElem?_eq_some_iff.1 h3).1
    exact (hk2 k h1 h4).2.trans h3⟩) hd hO
/-- The struct x lies in block X, its row xs grows: the cells c0, the row's value, the cells c2. -/
structure Growing {α β : Type} (d : Kd α) (e : Kd β) (t : TypeId) (hp : 0 < e.sz) (x : List β → α) (X n0 : Nat) (c0 c2 : List Value) (ty : TypeId) (w : World) (v : Value) (xs : List β) (Sr Sc : Nat → Prop) : Prop where
  box : w.heap[X]? = some (.cells (c0 ++ (v :: c2)).toArray ty (0, 0))
  hole : Hole d (Kd.slice t e hp) x c0 c2 w Sr
  row : e.R w Sc v xs
  apart : ∀ k, Sr k → ¬ Sc k
  mine : ∀ k, Sr k ∨ Sc k → n0 ≤ k ∧ k < w.heap.size ∧ k ≠ X
  at_ : n0 ≤ X
section
variable {α β : Type} {d : Kd α} {e : Kd β} {t : TypeId} {hp : 0 < e.sz} {x : List β → α} {X n0 j : Nat} {c0 c2 cs : List Value} {ty : TypeId} {w w1 : World} {v : Value} {xs : List β} {Sr Sc S : Nat → Prop}
theorem Growing.start {y : α} {get : α → List β} {put : α → List β → α} (F : Kd.GFld d (Kd.slice t e hp) j get put) (hb : w.heap[X]? = some (.cells cs.toArray ty (0, 0))) (hO : d.O w S y cs) (hm : ∀ k, S k → n0 ≤ k ∧ k ≠ X) (h0 : n0 ≤ X) :
    ∃ c0 c2 v Sr Sc, c0.length = j ∧ cs = c0 ++ (v :: c2) ∧ Growing d e t hp (put y) X n0 c0 c2 ty w v (get y) Sr Sc := by
  obtain ⟨S1, S2, c0, c1, c2, rfl, hl, k1, k2, ⟨v, rfl, hR⟩, hback⟩ := F.opn hO
  refine ⟨c0, c2, v, S2, fun k => S1 k ∧ k < w.heap.size, hl, rfl, hb, hback, Kd.R_mono hR (fun k h1 h2 => ⟨h1, h2⟩), fun k h1 h2 => (k1 k h2.1).2 h1, fun k h => ?_, h0⟩
  rcases h with h | h
  · exact ⟨(hm k (k2 k h).1).1, (k2 k h).2, (hm k (k2 k h).1).2⟩
  · exact ⟨(hm k (k1 k h.1).1).1, h.2, (hm k (k1 k h.1).1).2⟩
theorem Growing.below (h : Growing d e t hp x X n0 c0 c2 ty w v xs Sr Sc) (hb : Below w.heap.size w w1) : Growing d e t hp x X n0 c0 c2 ty w1 v xs Sr Sc :=
  ⟨(hb.block X (Array.getElem?_eq_some_iff.1 h.box).1).trans h.box, h.hole.move (Keeps.below hb _), Kd.R_below h.row hb, h.apart, fun k hk => ⟨(h.mine k hk).1, Nat.lt_of_lt_of_le (h.mine k hk).2.1 hb.size, (h.mine k hk).2.2⟩, h.at_⟩
theorem Growing.done (h : Growing d e t hp x X n0 c0 c2 ty w v xs Sr Sc) : d.O w (fun k => n0 ≤ k ∧ k < w.heap.size ∧ k ≠ X) (x xs) (c0 ++ (v :: c2)) :=
  d.O_mono (h.hole w Sc xs [v] (fun k h1 _ => ⟨h1, rfl⟩) (fun k h1 h2 => h.apart k h2 h1) ⟨v, rfl, h.row⟩) (fun k h1 _ => h.mine k (h1.elim .inr .inl))
theorem Growing.cell (h : Growing d e t hp x X n0 c0 c2 ty w v xs Sr Sc) (hl : c0.length = j) : w.cell? ⟨X, j, none⟩ = some v := by
  refine (box_at h.box).2.1 j v ?_
  rw [List.getElem?_toArray, List.getElem?_append_right (by omega)]
  simp [hl]
theorem grow_set (hb : w.heap[X]? = some (.cells (c0 ++ (v :: c2)).toArray ty (0, 0))) (hl : c0.length = j) (u : Value) : (w.setCell ⟨X, j, none⟩ u).heap[X]? = some (.cells (c0 ++ (u :: c2)).toArray ty (0, 0)) := by
  rw [box_store j u hb]
  congr 2
  apply Array.toList_inj.1
  rw [Array.toList_setIfInBounds, List.set_append_right _ _ (by omega), hl, Nat.sub_self, List.set_cons_zero]
/-- The box whose row has grown. -/
def onGrew (e : Kd β) (X : Nat) (c0 c2 : List Value) (ty : TypeId) (xs : List β) : On := fun _ S w => ∃ u, w.heap[X]? = some (.cells (c0 ++ (u :: c2)).toArray ty (0, 0)) ∧ S X ∧ e.R w (fun k => S k ∧ k ≠ X) u xs
theorem stab_grew {n0 : Nat} {T : Nat → Prop} (e : Kd β) (X : Nat) (c0 c2 : List Value) (ty : TypeId) (xs : List β) : (Ass.mk [] (onGrew e X c0 c2 ty xs)).Stab n0 T := fun val val' S w w' h hs hk _ => by
  obtain ⟨u, h1, h2, h3⟩ := h
  exact ⟨u, (hk X (.inl h2) (Array.getElem?_eq_some_iff.1 h1).1).trans h1, h2, Kd.R_move (fun k h1 h2 => ⟨h1, hk k (.inl h1.1) h2⟩) h3⟩
theorem grow_cell (hb : w.heap[X]? = some (.cells (c0 ++ (v :: c2)).toArray ty (0, 0))) (hl : c0.length = j) : w.cell? ⟨X, j, none⟩ = some v := by
  refine (box_at hb).2.1 j v ?_
  rw [List.getElem?_toArray, List.getElem?_append_right (by omega)]
  simp [hl]
theorem Growing.next {ys : List β} {S : Nat → Prop} {val : Nat → Value} (h : Growing d e t hp x X n0 c0 c2 ty w v xs Sr Sc) (hF : Foot (fun k => k = X ∨ Sc k) w.drew w1) (hS : onGrew e X c0 c2 ty ys val S w1) (hm : ∀ k, S k → (w.drew.heap.size ≤ k ∨ (k = X ∨ Sc k)) ∧ k < w1.heap.size) :
    ∃ u, Growing d e t hp x X n0 c0 c2 ty w1 u ys Sr (fun k => S k ∧ k ≠ X) := by
  obtain ⟨u, h1, h2, h3⟩ := hS
  have hsz : w.drew.heap.size = w.heap.size := rfl
  have hX : X < w.heap.size := (Array.getElem?_eq_some_iff.1 h.box).1
  refine ⟨u, h1, h.hole.move (fun k hk hl => ⟨hk, hF.block k hl (fun e => e.elim (h.mine k (.inl hk)).2.2 (h.apart k hk))⟩), h3, fun k hk hs => ?_, fun k hk => ?_, h.at_⟩
  · rcases (hm k hs.1).1 with h4 | h4 | h4
    · have := (h.mine k (.inl hk)).2.1; omega
    · exact hs.2 h4
    · exact h.apart k hk h4
  · have hw := hF.size
    rcases hk with hk | hk
    · have := h.mine k (.inl hk); exact ⟨this.1, by omega, this.2.2⟩
    · have h5 := hm k hk.1
      refine ⟨?_, h5.2, hk.2⟩
      rcases h5.1 with h4 | h4 | h4
      · have := h.at_; omega
      · exact (hk.2 h4).elim
      · exact (h.mine k (.inr h4)).1
end
end
section
open Go.RowKit
set_option linter.unusedVariables false
set_option maxRecDepth 100000
theorem Kd.R_app2 {α : Type} (d : Kd α) {P : Program} {ops : Array Oper} {rest : List Oper} {o : Oper} {a : Act} {Q : Exit → Act → World → Prop} {W : World} (hgd : o.guard = none) (s x : Operand) (t : TypeId) (z : Value) (bytes : Nat)
    (ho : o.op = .call { callee := .builtin .append, args := #[s, x], argTypes := #[t, t] })
    (ht : P.underlying t = some (.slice d.ty)) (hinfo : (P.info? d.ty).map (fun i => (i.zero, i.size, i.bytes)) = some (some z, d.sz, bytes)) (hz : z.cells.size = d.sz) (hs0 : 0 < d.sz) (hb0 : bytes ≤ 256)
    (v : Value) (xs : List α) (p : α) (cs : List Value) (S Sx : Nat → Prop) (hs : a.eval s = v) {N : Nat} (hx : a.eval x = .slice (some ⟨N, 0, none⟩) 1 1) (hN : N = W.heap.size) (HO : d.R W S v xs) (hp : d.O W Sx p cs) (hd : ∀ k, Sx k → k < W.heap.size → ¬ S k)
    (hl : xs.length + 1 ≤ 1073741824)
    (h : ∀ v1 w1, d.R w1 (fun k => S k ∨ Sx k ∨ W.heap.size ≤ k) v1 (xs ++ [p]) → W.grownBy w1 v.ownBlock → (∀ k, v.ownBlock = some k → S k) → wpList P ops Q rest (a.put o.dst v1) w1) :
    wpList P ops Q (o :: rest) a (W.alloc (.cells cs.toArray d.ty)) := by
  subst hN
  obtain ⟨_, _, _, h3⟩ := Kd.R_own HO
  exact Kd.R_append d hgd s x t z bytes ho ht hinfo hz hs0 hb0 v xs p cs S Sx hs hx HO hp hd hl (fun v1 w1 h1 hg => h v1 w1 h1 hg (fun k e => (h3 k e).1))
theorem Foot.grown2 {S : Nat → Prop} {w0 W w1 : World} {row : Option Nat} (h : Foot S w0 W) (hg : W.grownBy w1 row) (hr : ∀ k, row = some k → S k ∨ w0.heap.size ≤ k) : Foot S w0 w1 :=
  ⟨hg.os.trans h.os, hg.tape.trans h.tape, hg.output.trans h.output, Nat.le_trans h.size hg.size, fun k hk hn => (hg.block k (Nat.lt_of_lt_of_le hk h.size) (fun e => (hr k e.symm).elim hn (fun e => by omega))).trans (h.block k hk hn)⟩
theorem carry2 {S : Nat → Prop} {w W : World} {b : Nat} {o : Obj} (h : Foot S w W) (hb : w.heap[b]? = some o) (hS : ¬ S b) : W.heap[b]? = some o := (h.block b (Array.getElem?_eq_some_iff.1 hb).1 hS).trans hb
end
section
open Go.RowKit
set_option linter.unusedVariables false
set_option maxRecDepth 100000

/-- Only block g of what was there has turned. -/
structure Only (g : Nat) (w w' : World) : Prop where
  os : w'.os = w.os
  tape : w'.tape = w.tape
  output : w'.output = w.output
  size : w.heap.size ≤ w'.heap.size
  block : ∀ k, k < w.heap.size → k ≠ g → w'.heap[k]? = w.heap[k]?
theorem Only.refl (g : Nat) (w : World) : Only g w w := ⟨rfl, rfl, rfl, Nat.le_refl _, fun _ _ _ => rfl⟩
theorem Only.of_below {g : Nat} {w w' : World} (h : Below w.heap.size w w') : Only g w w' := ⟨h.os, h.tape, h.output, h.size, fun k hk _ => h.block k hk⟩
theorem Only.trans {g : Nat} {a b c : World} (h : Only g a b) (k : Only g b c) : Only g a c :=
  ⟨k.os.trans h.os, k.tape.trans h.tape, k.output.trans h.output, Nat.le_trans h.size k.size, fun i hi hg => (k.block i (Nat.lt_of_lt_of_le hi h.size) hg).trans (h.block i hi hg)⟩
theorem Only.alloc {g : Nat} {a b : World} (h : Only g a b) (o : Obj) : Only g a (b.alloc o) := h.trans (Only.of_below (belA (Below.refl _ _) o))
theorem Only.drew {g : Nat} {a b : World} (h : Only g a b) : Only g a b.drew := ⟨h.os, h.tape, h.output, h.size, h.block⟩
theorem Only.set {g : Nat} {a b : World} (h : Only g a b) (i : Nat) (u : Value) : Only g a (b.setCell ⟨g, i, none⟩ u) :=
  h.trans ⟨rfl, rfl, rfl, by simp [World.setCell], fun k _ hk => Below.heap_setCell _ _ _ _ hk⟩
theorem Only.keeps {g : Nat} {w w' : World} (h : Only g w w') {ok : Nat → Prop} (hg : ¬ ok g) : Keeps w w' ok ok := fun k hk hl => ⟨hk, h.block k hl (fun e => hg (e ▸ hk))⟩
theorem Only.below {g : Nat} {w0 w w' : World} (h : Only g w w') (hb : Below w0.heap.size w0 w) (hg : w0.heap.size ≤ g) : Below w0.heap.size w0 w' :=
  hb.trans ⟨h.os, h.tape, h.output, h.size, fun k hk => h.block k (Nat.lt_of_lt_of_le hk hb.size) (by omega)⟩

/-- The reader in block g: made behind w0, asked at most P times. -/
structure Rd (w0 w : World) (g P : Nat) : Prop where
  is : ∃ (A : Option Addr) (c p : Nat) (bs : List UInt8), w.heap[g]? = some (.cells #[.slice A bs.length c, .int .i64 p] 163 (0, 0)) ∧ p ≤ P ∧ bs.length ≤ 2000 ∧ kByte.C w0 (fun _ => True) A bs
  bel : Below w0.heap.size w0 w
  ge : w0.heap.size ≤ g
theorem Rd.lt {w0 w : World} {g P : Nat} (h : Rd w0 w g P) : g < w.heap.size := by
  obtain ⟨A, c, p, bs, h1, _⟩ := h.is
  exact (Array.getElem?_eq_some_iff.1 h1).1
theorem Rd.mono {w0 w : World} {g P P' : Nat} (h : Rd w0 w g P) (hP : P ≤ P') : Rd w0 w g P' := by
  obtain ⟨A, c, p, bs, h1, h2, h3⟩ := h.is
  exact ⟨⟨A, c, p, bs, h1, Nat.le_trans h2 hP, h3⟩, h.bel, h.ge⟩
theorem Rd.below {w0 w w' : World} {g P : Nat} (h : Rd w0 w g P) (hb : Below w.heap.size w w') : Rd w0 w' g P := by
  obtain ⟨A, c, p, bs, h1, h2⟩ := h.is
  exact ⟨⟨A, c, p, bs, (hb.block g h.lt).trans h1, h2⟩, Go.Proofs.YtekiikmaaiekkaaGreatDoor.bel h.bel hb, h.ge⟩

theorem Only.setNew {g b : Nat} {w w' : World} (h : Only g w w') (hb : w.heap.size ≤ b) (i : Nat) (u : Value) : Only g w (w'.setCell ⟨b, i, none⟩ u) :=
  ⟨h.os, h.tape, h.output, by have := h.size; simpa [World.setCell] using this, fun k hk hg => (Below.heap_setCell _ _ _ _ (by show k ≠ b; omega)).trans (h.block k hk hg)⟩
theorem Rd.set {w0 w : World} {g P b : Nat} (h : Rd w0 w g P) (hb : b ≠ g) (h0 : w0.heap.size ≤ b) (i : Nat) (u : Value) : Rd w0 (w.setCell ⟨b, i, none⟩ u) g P := by
  obtain ⟨A, c, p, bs, h1, h2⟩ := h.is
  exact ⟨⟨A, c, p, bs, (Below.heap_setCell _ _ _ _ (by show g ≠ b; omega)).trans h1, h2⟩, h.bel.setCell (p := ⟨b, i, none⟩) h0 u, h.ge⟩
/-- A block of one's own, not g, whole. -/
theorem Only.blk {g b : Nat} {w w' : World} {o : Obj} (h : Only g w w') (hb : w.heap[b]? = some o) (hg : b ≠ g) : w'.heap[b]? = some o :=
  (h.block b (Array.getElem?_eq_some_iff.1 hb).1 hg).trans hb
theorem Only.grown {g : Nat} {w w1 w2 : World} {row : Option Nat} (h : Only g w w1) (hg : w1.grownBy w2 row) (hr : ∀ k, row = some k → w.heap.size ≤ k) : Only g w w2 :=
  ⟨hg.os.trans h.os, hg.tape.trans h.tape, hg.output.trans h.output, Nat.le_trans h.size hg.size, fun k hk hne => (hg.block k (Nat.lt_of_lt_of_le hk h.size) (fun e => by have := hr k e.symm; omega)).trans (h.block k hk hne)⟩
theorem Rd.grown {w0 w w1 : World} {g P : Nat} {row : Option Nat} (h : Rd w0 w g P) (hg : w.grownBy w1 row) (hr : ∀ k, row = some k → w0.heap.size ≤ k ∧ k ≠ g) : Rd w0 w1 g P := by
  obtain ⟨A, c, p, bs, h1, h2⟩ := h.is
  exact ⟨⟨A, c, p, bs, (hg.block g h.lt (fun e => (hr g e.symm).2 rfl)).trans h1, h2⟩, h.bel.grown hg h.bel.size (fun k e => (hr k e).1), h.ge⟩
theorem bits_xor_i64 (a b : Int) (h1 : 0 ≤ a) (h2 : a < 4611686018427387904) (h3 : 0 ≤ b) (h4 : b < 4611686018427387904) : 0 ≤ bits .xor .i64 a b ∧ bits .xor .i64 a b < 4611686018427387904 := by
  obtain ⟨a, rfl⟩ := Int.eq_ofNat_of_zero_le h1
  obtain ⟨b, rfl⟩ := Int.eq_ofNat_of_zero_le h3
  have hx : a ^^^ b < 2 ^ 62 := Nat.xor_lt_two_pow (by omega) (by omega)
  have e1 : (BitVec.ofInt 64 (a : Int)).toNat = a := by
    rw [BitVec.ofInt_natCast, BitVec.toNat_ofNat]; exact Nat.mod_eq_of_lt (by omega)
  have e2 : (BitVec.ofInt 64 (b : Int)).toNat = b := by
    rw [BitVec.ofInt_natCast, BitVec.toNat_ofNat]; exact Nat.mod_eq_of_lt (by omega)
  have e : bits .xor .i64 (a : Int) (b : Int) = ((a ^^^ b : Nat) : Int) := by
    show IntKind.i64.wrap ((BitVec.ofInt 64 (a : Int) ^^^ BitVec.ofInt 64 (b : Int)).toNat : Int) = _
    rw [BitVec.toNat_xor, e1, e2, IntKind.wrap_i64]
    omega
  rw [e]; omega

/-- A number that was picked. -/
def Picked (n r : Int) : Prop := 0 ≤ r ∧ (1 ≤ n → r < n) ∧ (n < 1 → r = 0)
theorem picked_zero (n : Int) : Picked n 0 := ⟨by omega, fun h => by omega, fun _ => rfl⟩
theorem picked_mod {n x : Int} (h : ¬ n < 1) (hx : 0 ≤ x) : Picked n (x % n) := ⟨Int.emod_nonneg _ (by omega), fun _ => Int.emod_lt_of_pos _ (by omega), fun h2 => absurd h2 h⟩

theorem w64 {x : Int} (h1 : 0 ≤ x) (h2 : x < 4611686018427387904) : wrap64 x = x := by unfold wrap64; omega
theorem pick_fin (y1 y2 p len : Nat) (n : Int) (hn : ¬ n < 1) (hl : 0 < len) (hp : p ≤ 1000000000) (h1 : y1 < 256) (h2 : y2 < 256) :
    Picked n ((bits BinOp.xor IntKind.i64 (wrap64 (↑y1 * 131 + ↑y2 * 1117 + ↑p * 29 + wrap64 (wrap64 ((p : Int) / (len : Int)) * 53))) (wrap64 ((wrap64 (↑y1 * 131 + ↑y2 * 1117 + ↑p * 29 + wrap64 (wrap64 ((p : Int) / (len : Int)) * 53))).tdiv 64))).tmod n) := by
  have m : 0 ≤ (p : Int) / len ∧ (p : Int) / len ≤ p := ⟨Int.ediv_nonneg (by omega) (by omega), Int.ediv_le_self _ (by omega)⟩
  generalize (p : Int) / (len : Int) = z at *
  rw [w64 (x := z) (by omega) (by omega), w64 (x := z * 53) (by omega) (by omega)]
  have hX : 0 ≤ (y1 : Int) * 131 + y2 * 1117 + p * 29 + z * 53 ∧ (y1 : Int) * 131 + y2 * 1117 + p * 29 + z * 53 < 4000000000000 := by omega
  generalize (y1 : Int) * 131 + y2 * 1117 + p * 29 + z * 53 = X at *
  rw [w64 (x := X) (by omega) (by omega), Int.tdiv_eq_ediv_of_nonneg hX.1, w64 (x := X / 64) (by omega) (by omega)]
  have hX2 := bits_xor_i64 X (X / 64) hX.1 (by omega) (by omega) (by omega)
  rw [Int.tmod_eq_emod_of_nonneg hX2.1]
  exact picked_mod hn hX2.1
theorem pick_c (w0 w : World) (g P : Nat) (n : Int) (hR : Rd w0 w g P) (hP : P ≤ 1000000000) :
    Calls Tryz.prog 54 #[.pointer (some ⟨g, 0, none⟩), .int .i64 n] w fun e w' => ∃ r : Int, e = .returned (.int .i64 r) ∧ Picked n r ∧ Rd w0 w' g (P + 1) ∧ Only g w w' := by
  obtain ⟨A, c, p, bs, hg, hp, hl, hC⟩ := hR.is
  have hB := Sec.mk hR.bel
  have hG := hR.ge
  have hlt := hR.lt
  have hu := Tryz.underlying163
  have c0 : w.cell? ⟨g, 0, none⟩ = some (.slice A bs.length c) := by rw [cell_of_row w g 0 _ _ _ hg]; rfl
  have c1 : w.cell? ⟨g, 1, none⟩ = some (.int .i64 p) := by rw [cell_of_row w g 1 _ _ _ hg]; rfl
  have f1 : w.frozen? ⟨g, 1, none⟩ = false := by simp [World.frozen?, hg]
  have hfin : Sec (Rd w0 (w.setCell ⟨g, 1, none⟩ (.int .i64 ((p : Int) + 1))) g (P + 1)) := ⟨⟨⟨A, c, p + 1, bs, by
      have : (w.setCell ⟨g, 1, none⟩ (.int .i64 ((p : Int) + 1))).heap[g]? = some (.cells (#[.slice A bs.length c, .int .i64 p].setIfInBounds 1 (.int .i64 ((p : Int) + 1))) 163 (0, 0)) := by
        simp only [World.setCell, Array.getElem?_modify, hg]; simp
      rw [this]; rfl, by omega, hl, hC⟩, hB.out.setCell (p := ⟨g, 1, none⟩) hG _, hG⟩⟩
  have HC := Sec.mk (Kd.C_below hC hfin.out.bel (by decide))
  have hon : Sec (Only g w (w.setCell ⟨g, 1, none⟩ (.int .i64 ((p : Int) + 1)))) := ⟨(Only.refl _ _).set _ _⟩
  clear hR hg hC
  by_cases h1 : n < 1
  · go_enter Tryz.func54, Tryz.ntmps54
    go_wp2
    go_ret
    exact ⟨0, rfl, picked_zero _, hfin.out, hon.out⟩
  · by_cases h2 : bs = []
    · subst h2
      go_enter Tryz.func54, Tryz.ntmps54
      go_wp2
      go_ret
      exact ⟨0, rfl, picked_zero _, hfin.out, hon.out⟩
    · have h3 : 0 < bs.length := List.length_pos_iff.2 h2
      have h4 : ((bs.length : Int) == 0) = false := by rw [beq_eq_false_iff_ne]; omega
      have h6 : (n == 0) = false := by rw [beq_eq_false_iff_ne]; omega
      by_cases h5 : p < bs.length
      · obtain ⟨b, off, rfl, hob, cb⟩ := byte_at HC.out p h5
        have hbd : (bs[p].toNat : Int) < 256 := by have := bs[p].toNat_lt; omega
        go_enter Tryz.func54, Tryz.ntmps54
        go_wp2
        go_ret
        exact ⟨_, rfl, picked_mod (by omega) (by omega), hfin.out, hon.out⟩
      · have t1 : (p : Int).tmod bs.length = (p : Int) % bs.length := Int.tmod_eq_emod_of_nonneg (by omega)
        have t2 : ((p : Int) * 7 + 3).tmod bs.length = ((p : Int) * 7 + 3) % bs.length := Int.tmod_eq_emod_of_nonneg (by omega)
        have t3 : (p : Int).tdiv bs.length = (p : Int) / bs.length := Int.tdiv_eq_ediv_of_nonneg (by omega)
        have m1 : 0 ≤ (p : Int).tmod bs.length := by rw [t1]; exact Int.emod_nonneg _ (by omega)
        have m2 : (p : Int).tmod bs.length < bs.length := by rw [t1]; exact Int.emod_lt_of_pos _ (by omega)
        have m3 : 0 ≤ ((p : Int) * 7 + 3).tmod bs.length := by rw [t2]; exact Int.emod_nonneg _ (by omega)
        have m4 : ((p : Int) * 7 + 3).tmod bs.length < bs.length := by rw [t2]; exact Int.emod_lt_of_pos _ (by omega)
        have m5 : 0 ≤ (p : Int).tdiv bs.length ∧ (p : Int).tdiv bs.length ≤ p := by rw [t3]; exact ⟨Int.ediv_nonneg (by omega) (by omega), Int.ediv_le_self _ (by omega)⟩
        clear t1 t2 t3
        obtain ⟨b, off, rfl, hob, cb1⟩ := byte_at HC.out ((p : Int).tmod bs.length).toNat (by omega)
        obtain ⟨b', off', e, _, cb2⟩ := byte_at HC.out (((p : Int) * 7 + 3).tmod bs.length).toNat (by omega)
        simp only [Option.some.injEq, Addr.mk.injEq, and_true] at e
        obtain ⟨rfl, rfl⟩ := e
        have hb1 : (bs[((p : Int).tmod bs.length).toNat]'(by omega)).toNat < 256 := UInt8.toNat_lt _
        have hb2 : (bs[(((p : Int) * 7 + 3).tmod bs.length).toNat]'(by omega)).toNat < 256 := UInt8.toNat_lt _
        generalize (bs[((p : Int).tmod bs.length).toNat]'(by omega)).toNat = y1 at *
        generalize (bs[(((p : Int) * 7 + 3).tmod bs.length).toNat]'(by omega)).toNat = y2 at *
        have q1 : IntKind.i64.wrap ((p : Int) * 7) = (p : Int) * 7 := IntWalk.i64_in _ (by omega)
        have q2 : IntKind.i64.wrap ((p : Int) * 7 + 3) = (p : Int) * 7 + 3 := IntWalk.i64_in _ (by omega)
        have q3 : IntKind.i64.wrap (y1 : Int) = y1 := IntWalk.i64_in _ (by omega)
        have q4 : IntKind.i64.wrap (y2 : Int) = y2 := IntWalk.i64_in _ (by omega)
        obtain ⟨m6, m7⟩ := m5
        generalize hz : (p : Int).tdiv bs.length = z at *
        have Hz := Sec.mk hz
        clear hz
        have q5 : IntKind.i64.wrap ((y1 : Int) * 131) = (y1 : Int) * 131 := IntWalk.i64_in _ (by omega)
        have q6 : IntKind.i64.wrap ((y2 : Int) * 1117) = (y2 : Int) * 1117 := IntWalk.i64_in _ (by omega)
        have q7 : IntKind.i64.wrap ((y1 : Int) * 131 + (y2 : Int) * 1117) = (y1 : Int) * 131 + (y2 : Int) * 1117 := IntWalk.i64_in _ (by omega)
        have q8 : IntKind.i64.wrap ((p : Int) * 29) = (p : Int) * 29 := IntWalk.i64_in _ (by omega)
        have q9 : IntKind.i64.wrap ((y1 : Int) * 131 + (y2 : Int) * 1117 + (p : Int) * 29) = (y1 : Int) * 131 + (y2 : Int) * 1117 + (p : Int) * 29 := IntWalk.i64_in _ (by omega)
        have q10 : IntKind.i64.wrap ((p : Int).tdiv bs.length) = (p : Int).tdiv bs.length := by rw [Hz.out]; exact IntWalk.i64_in _ (by omega)
        have q11 : IntKind.i64.wrap ((p : Int).tdiv bs.length * 53) = (p : Int).tdiv bs.length * 53 := by rw [Hz.out]; exact IntWalk.i64_in _ (by omega)
        have q12 : IntKind.i64.wrap ((y1 : Int) * 131 + (y2 : Int) * 1117 + (p : Int) * 29 + (p : Int).tdiv bs.length * 53) = (y1 : Int) * 131 + (y2 : Int) * 1117 + (p : Int) * 29 + (p : Int).tdiv bs.length * 53 := by rw [Hz.out]; exact IntWalk.i64_in _ (by omega)
        go_enter Tryz.func54, Tryz.ntmps54
        go_wp2
        go_quiet (fail)
        clear q1 q2 q3 q4 q5 q6 q7 q8 q9 q10 q11 q12
        have hq := Sec.mk (pick_fin y1 y2 p bs.length n (by omega) h3 (by omega) hb1 hb2)
        go_wp2
        go_ret
        exact ⟨_, rfl, hq.out, ⟨hfin.out.is, ⟨hfin.out.bel.os, hfin.out.bel.tape, hfin.out.bel.output, hfin.out.bel.size, hfin.out.bel.block⟩, hG⟩, ⟨hon.out.os, hon.out.tape, hon.out.output, hon.out.size, hon.out.block⟩⟩
end
section
open Go.RowKit
set_option linter.unusedVariables false
section
variable {α β : Type} {d : Kd α} {e : Kd β} {t : TypeId} {hp : 0 < e.sz} {x : List β → α} {X n0 j : Nat} {c0 c2 cs : List Value} {ty : TypeId} {w w1 : World} {v v1 : Value} {xs ys : List β} {Sr Sc S S1 Sx : Nat → Prop}
/-- The row has grown by an append, and is put back. -/
theorem Growing.put (h : Growing d e t hp x X n0 c0 c2 ty w v xs Sr Sc) (hl : c0.length = j) (hF : Foot Sc w w1) (hR : e.R w1 S1 v1 ys) (hS : ∀ k, S1 k → Sc k ∨ Sx k ∨ w.heap.size ≤ k) (hx : ∀ k, Sx k → ¬ Sr k ∧ n0 ≤ k ∧ k ≠ X) :
    Growing d e t hp x X n0 c0 c2 ty (w1.setCell ⟨X, j, none⟩ v1) v1 ys Sr (fun k => S1 k ∧ k < w1.heap.size) := by
  have hX : X < w.heap.size := (Array.getElem?_eq_some_iff.1 h.box).1
  have hn : ¬ Sc X := fun e => (h.mine X (.inr e)).2.2 rfl
  have hb : w1.heap[X]? = _ := (hF.block X hX hn).trans h.box
  have F4 : Foot (fun k => k = X) w1 (w1.setCell ⟨X, j, none⟩ v1) := Foot.set (S := fun k => k = X) (Foot.refl _ _) (.inl rfl) _ _
  have hsz : (w1.setCell ⟨X, j, none⟩ v1).heap.size = w1.heap.size := by simp [World.setCell]
  have e1 : ∀ k, S1 k → ¬ Sr k ∧ n0 ≤ k ∧ k ≠ X := fun k hk => by
    rcases hS k hk with h1 | h1 | h1
    · exact ⟨fun e => h.apart k e h1, (h.mine k (.inr h1)).1, (h.mine k (.inr h1)).2.2⟩
    · exact hx k h1
    · have := h.at_
      exact ⟨fun e => by have := (h.mine k (.inl e)).2.1; omega, by omega, by omega⟩
  refine ⟨grow_set hb hl v1, h.hole.move (fun k hk hlt => ⟨hk, ?_⟩), F4.R (Kd.R_mono hR (fun k h1 h2 => ⟨h1, h2⟩)) (fun k hk => (e1 k hk.1).2.2), fun k hk hs => (e1 k hs.1).1 hk, fun k hk => ?_, h.at_⟩
  · have h1 := hF.block k hlt (fun e => h.apart k hk e)
    have h2 : k < w1.heap.size := by have := hF.size; omega
    exact (F4.block k h2 (h.mine k (.inl hk)).2.2).trans h1
  · rw [hsz]
    have := hF.size
    rcases hk with hk | hk
    · have := h.mine k (.inl hk); exact ⟨this.1, by omega, this.2.2⟩
    · exact ⟨(e1 k hk.1).2.1, hk.2, (e1 k hk.1).2.2⟩
theorem Growing.only {g : Nat} (h : Growing d e t hp x X n0 c0 c2 ty w v xs Sr Sc) (hO : Only g w w1) (hg : g < n0) : Growing d e t hp x X n0 c0 c2 ty w1 v xs Sr Sc := by
  have hX : X < w.heap.size := (Array.getElem?_eq_some_iff.1 h.box).1
  have ha := h.at_
  refine ⟨(hO.block X hX (by omega)).trans h.box, h.hole.move (fun k hk hl => ⟨hk, hO.block k hl (by have := (h.mine k (.inl hk)).1; omega)⟩), Kd.R_move (fun k hk hl => ⟨hk, hO.block k hl (by have := (h.mine k (.inr hk)).1; omega)⟩) h.row, h.apart, fun k hk => ?_, ha⟩
  have := h.mine k hk
  have := hO.size
  exact ⟨by omega, by omega, (h.mine k hk).2.2⟩
/-- Another block is turned. -/
theorem Growing.foot {T : Nat → Prop} (h : Growing d e t hp x X n0 c0 c2 ty w v xs Sr Sc) (hF : Foot T w w1) (hT : ∀ k, T k → k ≠ X ∧ ¬ Sr k ∧ ¬ Sc k) : Growing d e t hp x X n0 c0 c2 ty w1 v xs Sr Sc := by
  have hX : X < w.heap.size := (Array.getElem?_eq_some_iff.1 h.box).1
  refine ⟨(hF.block X hX (fun e => (hT X e).1 rfl)).trans h.box, h.hole.move (fun k hk hl => ⟨hk, hF.block k hl (fun e => (hT k e).2.1 hk)⟩), Kd.R_move (fun k hk hl => ⟨hk, hF.block k hl (fun e => (hT k e).2.2 hk)⟩) h.row, h.apart, fun k hk => ?_, h.at_⟩
  have h1 := h.mine k hk
  have := hF.size
  exact ⟨h1.1, by omega, h1.2.2⟩
end
theorem Only.O {α : Type} {d : Kd α} {g : Nat} {w w1 : World} {S : Nat → Prop} {x : α} {cs : List Value} (h : Only g w w1) (hO : d.O w S x cs) (hS : ∀ k, S k → k ≠ g) : d.O w1 S x cs :=
  d.O_move (fun k h1 h2 => ⟨h1, h.block k h2 (hS k h1)⟩) hO
theorem Only.R {α : Type} {d : Kd α} {g : Nat} {w w1 : World} {S : Nat → Prop} {x : List α} {v : Value} (h : Only g w w1) (hO : d.R w S v x) (hS : ∀ k, S k → k ≠ g) : d.R w1 S v x :=
  Kd.R_move (fun k h1 h2 => ⟨h1, h.block k h2 (hS k h1)⟩) hO
theorem Foot.rd {T : Nat → Prop} {w0 w w1 : World} {g P : Nat} (h : Foot T w w1) (hR : Rd w0 w g P) (hT : ∀ k, T k → k ≠ g ∧ w0.heap.size ≤ k) : Rd w0 w1 g P := by
  obtain ⟨A, c, p, bs, h1, h2⟩ := hR.is
  exact ⟨⟨A, c, p, bs, (h.block g hR.lt (fun e => (hT g e).1 rfl)).trans h1, h2⟩, h.below hR.bel (fun k hk => (hT k hk).2), hR.ge⟩
theorem Foot.onlyOf {T : Nat → Prop} {w w1 w2 : World} {g : Nat} (h : Foot T w1 w2) (hO : Only g w w1) (hT : ∀ k, T k → w.heap.size ≤ k) : Only g w w2 :=
  ⟨h.os.trans hO.os, h.tape.trans hO.tape, h.output.trans hO.output, Nat.le_trans hO.size h.size, fun k hk hg => (h.block k (Nat.lt_of_lt_of_le hk hO.size) (fun e => by have := hT k e; omega)).trans (hO.block k hk hg)⟩
/-- Blocks made one behind the other. -/
def many (w : World) : List Obj → World
  | [] => w
  | o :: os => many (w.alloc o) os
theorem many_size : ∀ (os : List Obj) (w : World), (many w os).heap.size = w.heap.size + os.length
  | [], w => rfl
  | o :: os, w => by rw [many, many_size os, List.length_cons]; simp; omega
theorem many_below : ∀ (os : List Obj) (w : World), Below w.heap.size w (many w os)
  | [], w => Below.refl _ _
  | o :: os, w => bel (belA (Below.refl _ _) o) (many_below os _)
theorem many_get : ∀ (os : List Obj) (w : World) (i : Nat) (o : Obj), os[i]? = some o → (many w os).heap[w.heap.size + i]? = some o
  | [], w, i, o, h => by simp at h
  | a :: os, w, 0, o, h => by
    obtain rfl : a = o := by simpa using h
    have h1 := (many_below os (w.alloc a)).block w.heap.size (by simp)
    rw [many, Nat.add_zero, h1]
    exact heap_alloc_new w a
  | a :: os, w, i + 1, o, h => by
    have := many_get os (w.alloc a) i o (by simpa using h)
    rw [many]
    rw [show w.heap.size + (i + 1) = (w.alloc a).heap.size + i by simp; omega]
    exact this
end
end Go.Proofs.YtekiikmaaiekkaaGreatDoor
