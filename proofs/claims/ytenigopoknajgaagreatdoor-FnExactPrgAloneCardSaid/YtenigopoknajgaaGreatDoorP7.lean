/- Contracts: PrgOk (the program). -/
import Derived.Test.YtenigopoknajgaaGreatDoorP6
namespace Go.Proofs.YtenigopoknajgaaGreatDoor
open Go.RowKit
set_option linter.unusedVariables false
set_option maxRecDepth 100000
theorem carryBx {w W : World} {b : Nat} {o : Obj} (h : Below w.heap.size w W) (hb : w.heap[b]? = some o) : W.heap[b]? = some o := (h.block b (Array.getElem?_eq_some_iff.1 hb).1).trans hb
theorem samePlace_eq (x y : Place) : samePlace y x = ((x.name.toList == y.name.toList) && x.n == y.n) := by
  unfold samePlace
  have e1 : (y.name.toList == x.name.toList) = (x.name.toList == y.name.toList) := by
    by_cases h : x.name.toList = y.name.toList
    · rw [h]
    · rw [beq_eq_false_iff_ne.2 h, beq_eq_false_iff_ne.2 (Ne.symm h)]
  have e2 : (y.n == x.n) = (x.n == y.n) := by
    by_cases h : x.n = y.n
    · rw [h]
    · rw [beq_eq_false_iff_ne.2 h, beq_eq_false_iff_ne.2 (Ne.symm h)]
  rw [e1, e2]
theorem prgOk_tests (p : Prog) (h : placesOk p.places = true) : prgOk p = (decide ((p.clauses.length : Int) ≤ 12) && decide ((p.places.length : Int) ≤ 6) && !(!p.clauses.all clauseOk)) := by
  have e1 : decide ((p.clauses.length : Int) ≤ 12) = decide (p.clauses.length ≤ 12) := decide_eq_decide.2 (by omega)
  have e2 : decide ((p.places.length : Int) ≤ 6) = decide (p.places.length ≤ 6) := decide_eq_decide.2 (by omega)
  rw [e1, e2]; unfold prgOk; rw [h]; simp
set_option maxHeartbeats 4000000 in
theorem PrgOk_i (p : Prog) (cs : List Value) (ok : Nat → Prop) (w : World) (hK : kProg.K w ok p cs) :
    Calls Tryz.prog 17 #[.agg cs.toArray] w fun e w' => e = .returned (.bool (prgOk p)) ∧ Below w.heap.size w w' := by
  obtain ⟨v0, v1, rfl, h0, h1⟩ := kProg_K hK
  have CL := Sec.mk (fun (W : World) (hb : Below w.heap.size w W) => wrongClause_i3 v0 p.clauses ok W (Kd.V_below h0 hb (by decide)))
  obtain ⟨E0, m0, rfl, -, -, l0, -⟩ := h0
  obtain ⟨E1, m1, rfl, hm1, -, l1, hC1, -⟩ := h1
  have B0 := Sec.mk (belA (Below.refl w.heap.size w) (.cells #[.slice E0 p.clauses.length m0, .slice E1 p.places.length m1] 30))
  have P0 := Sec.mk (heap_alloc_new w (.cells #[.slice E0 p.clauses.length m0, .slice E1 p.places.length m1] 30))
  have HC1 := Sec.mk hC1
  clear hK hC1
  have hu := Tryz.underlying61
  have X := (box_at P0.out).2.1
  have y0 := X 0 _ rfl
  have y1 := X 1 _ rfl
  clear X
  go_enter Tryz.func17, Tryz.ntmps17
  go_wp2
  clear y0 y1
  go_loopw [11] (fun i wr => ∃ k : Nat, k ≤ p.places.length ∧ i = .int .i64 k ∧ Sec ((List.range k).all (newAt p.places) = true) ∧ Sec (Below w.heap.size w wr ∧ wr.heap[w.heap.size]? = some (.cells #[.slice E0 p.clauses.length m0, .slice E1 p.places.length m1] 30 (0, 0)))) (fun i _ => p.places.length - (intOf i).toNat)
  case atStart => exact ⟨0, Nat.zero_le _, rfl, ⟨by simp⟩, ⟨B0.out, P0.out⟩⟩
  case round =>
    obtain ⟨k, hk, rfl, hT, hb⟩ := hrel
    by_cases hlt : k < p.places.length
    · obtain ⟨b, off, rfl, _, x0, x1, x2, hsz⟩ := place_at' (Kd.C_below HC1.out hb.out.1 (by decide)) k hlt
      have HN := Sec.mk (newAt_at hlt)
      have HB := Sec.mk (fun h => places_no hlt h)
      have HR := Sec.mk (range_all (p := newAt p.places) k)
      have i0 : (0 : Int) ≤ (k : Int) := by omega
      have i1 : (k : Int) < (p.places.length : Int) := by omega
      have HX : Sec (p.places[k]? = some p.places[k]) := ⟨List.getElem?_eq_getElem hlt⟩
      generalize p.places[k] = x at *
      have HNM := Sec.mk (fun W => nameOk_i x.name hsz W)
      have HPO : Sec (placeOk x = (nameOk x.name && inB x.n 0 3 && inB x.node 1 2)) := ⟨rfl⟩
      have HI1 := Sec.mk (fun W => in_c x.n 0 3 W)
      have HI2 := Sec.mk (fun W => in_c x.node 1 2 W)
      generalize nameOk x.name = n1 at *
      generalize inB x.n 0 3 = n2 at *
      generalize inB x.node 1 2 = n3 at *
      have T0 : Sec True := ⟨trivial⟩
      have BW := Sec.mk (belA hb.out.1 (.cells #[.string x.name, .int .i64 x.n, .int .i64 x.node] 61))
      have PW := Sec.mk (heap_alloc_new wr (.cells #[.string x.name, .int .i64 x.n, .int .i64 x.node] 61))
      have PP := Sec.mk ((Below.heap_alloc wr (.cells #[.string x.name, .int .i64 x.n, .int .i64 x.node] 61 (0, 0)) _ (Array.getElem?_eq_some_iff.1 hb.out.2).1).trans hb.out.2)
      cases n1 with
      | false =>
        have HE : Sec (prgOk p = false) := ⟨prgOk_4 (HB.out (by rw [HN.out, HPO.out]; rfl))⟩
        cases n2 <;> cases n3 <;> (
          go_wp2_with (go_at_call 32; refine (HNM.out _).mono ?_; rintro e w5 ⟨rfl, hb5⟩; have B5 := Sec.mk (bel BW.out hb5); clear hb5)
          go_ret
          exact ⟨rb HE.out.symm, B5.out⟩)
      | true =>
        cases n2 with
        | false =>
          have HE : Sec (prgOk p = false) := ⟨prgOk_4 (HB.out (by rw [HN.out, HPO.out]; rfl))⟩
          cases n3 <;> (
            go_wp2_with (first | (clear T0; go_at_call 32; have T1 : Sec True := ⟨trivial⟩; refine (HNM.out _).mono ?_; rintro e w5 ⟨rfl, hb5⟩; have B5 := Sec.mk (bel BW.out hb5); have X := (box_at (carryBx hb5 PW.out)).2.1; have z1 := X 1 _ rfl; have z2 := X 2 _ rfl; clear hb5 X) | (clear T1; go_at_call 33; refine (HI1.out _).mono ?_; rintro e w6 ⟨rfl, rfl⟩))
            go_ret
            exact ⟨rb HE.out.symm, B5.out⟩)
        | true =>
          cases n3 with
          | false =>
            have HE : Sec (prgOk p = false) := ⟨prgOk_4 (HB.out (by rw [HN.out, HPO.out]; rfl))⟩
            go_wp2_with (first | (clear T0; go_at_call 32; have T1 : Sec True := ⟨trivial⟩; refine (HNM.out _).mono ?_; rintro e w5 ⟨rfl, hb5⟩; have B5 := Sec.mk (bel BW.out hb5); have X := (box_at (carryBx hb5 PW.out)).2.1; have z1 := X 1 _ rfl; have z2 := X 2 _ rfl; clear hb5 X) | (clear T1; go_at_call 33; have T2 : Sec True := ⟨trivial⟩; refine (HI1.out _).mono ?_; rintro e w6 ⟨rfl, rfl⟩) | (clear T2; go_at_call 33; refine (HI2.out _).mono ?_; rintro e w6 ⟨rfl, rfl⟩))
            go_ret
            exact ⟨rb HE.out.symm, B5.out⟩
          | true =>
            have HN2 : Sec (newAt p.places k = (p.places.take k).all (fun q => !samePlace q x)) := ⟨by rw [HN.out, HPO.out]; simp⟩
            have s0 : (k : Int) ≤ (m1 : Int) := by omega
            go_wp2_with (first | (clear T0; go_at_call 32; have T1 : Sec True := ⟨trivial⟩; refine (HNM.out _).mono ?_; rintro e w5 ⟨rfl, hb5⟩; have B5 := Sec.mk (bel BW.out hb5); have P5 := Sec.mk (carryBx hb5 PW.out); have Q5 := Sec.mk (carryBx hb5 PP.out); have X := (box_at P5.out).2.1; have z1 := X 1 _ rfl; have z2 := X 2 _ rfl; have X := (box_at Q5.out).2.1; have u1 := X 1 _ rfl; clear hb5 X) | (clear T1; go_at_call 33; have T2 : Sec True := ⟨trivial⟩; refine (HI1.out _).mono ?_; rintro e w6 ⟨rfl, rfl⟩) | (clear T2; go_at_call 33; refine (HI2.out _).mono ?_; rintro e w6 ⟨rfl, rfl⟩))
            clear z1 z2 u1 x0 x1 x2
            go_loopw [37] (fun i wt => ∃ j : Nat, j ≤ k ∧ i = .int .i64 j ∧ Sec ((p.places.take j).all (fun q => !samePlace q x) = true) ∧ Sec (Below w.heap.size w wt ∧ wt.heap[w.heap.size]? = some (.cells #[.slice E0 p.clauses.length m0, .slice (some ⟨b, off, none⟩) p.places.length m1] 30 (0, 0)) ∧ wt.heap[wr.heap.size]? = some (.cells #[.string x.name, .int .i64 x.n, .int .i64 x.node] 61 (0, 0)))) (fun i _ => k - (intOf i).toNat)
            case atStart => exact ⟨0, Nat.zero_le _, rfl, ⟨by simp⟩, ⟨B5.out, Q5.out, P5.out⟩⟩
            case round =>
              obtain ⟨j, hj, rfl, hT2, hb2⟩ := hrel
              by_cases hlt3 : j < k
              · obtain ⟨b4, off4, e4, _, z0, z1, z2, -⟩ := place_at' (Kd.C_below HC1.out hb2.out.1 (by decide)) j (by omega)
                cases e4
                have hTj : Sec ((p.places.take (j + 1)).all (fun q => !samePlace q x) = !samePlace p.places[j] x) := ⟨by rw [take_all _ p.places j (by omega), hT2.out, Bool.true_and]⟩
                have hAll : Sec (samePlace p.places[j] x = true → newAt p.places k = false) := ⟨fun h => by rw [HN2.out]; exact List.all_eq_false.2 ⟨p.places[j], by rw [List.mem_take_iff_getElem]; exact ⟨j, by omega, rfl⟩, by rw [h]; decide⟩⟩
                have hs := Sec.mk (samePlace_eq x p.places[j])
                generalize p.places[j] = y at *
                have X := box_cells (belA (Below.refl wr.heap.size wr) (.cells #[.string y.name, .int .i64 y.n, .int .i64 y.node] 61)) hb2.out.2.2
                have g0 := X.2.1 0 _ rfl
                have g1 := X.2.1 1 _ rfl
                clear X
                have X := (box_at (heap_alloc_new wr (.cells #[.string y.name, .int .i64 y.n, .int .i64 y.node] 61))).2.1
                have k0 := X 0 _ rfl
                have k1 := X 1 _ rfl
                clear X
                have BT := Sec.mk (belA hb2.out.1 (.cells #[.string y.name, .int .i64 y.n, .int .i64 y.node] 61))
                have QT := Sec.mk ((Below.heap_alloc wr (.cells #[.string y.name, .int .i64 y.n, .int .i64 y.node] 61 (0, 0)) _ (Array.getElem?_eq_some_iff.1 hb2.out.2.1).1).trans hb2.out.2.1)
                have PT := Sec.mk ((Below.heap_alloc wr (.cells #[.string y.name, .int .i64 y.n, .int .i64 y.node] 61 (0, 0)) _ (Array.getElem?_eq_some_iff.1 hb2.out.2.2).1).trans hb2.out.2.2)
                have j0 : (0 : Int) ≤ (j : Int) := by omega
                have j1 : (j : Int) < (k : Int) := by omega
                cases hn : (x.name.toList == y.name.toList) with
                | false =>
                  have HE : Sec ((p.places.take (j + 1)).all (fun q => !samePlace q x) = true) := ⟨by rw [hTj.out, hs.out, hn]; rfl⟩
                  go_wp2
                  go_roundw
                  case rel => exact ⟨j + 1, by omega, by go_num, HE, ⟨BT.out, QT.out, PT.out⟩⟩
                  case measure => simp [intOf]; omega
                | true =>
                  cases hn2 : (x.n == y.n) with
                  | false =>
                    have HE : Sec ((p.places.take (j + 1)).all (fun q => !samePlace q x) = true) := ⟨by rw [hTj.out, hs.out, hn, hn2]; rfl⟩
                    go_wp2
                    go_roundw
                    case rel => exact ⟨j + 1, by omega, by go_num, HE, ⟨BT.out, QT.out, PT.out⟩⟩
                    case measure => simp [intOf]; omega
                  | true =>
                    have HE : Sec (prgOk p = false) := ⟨prgOk_4 (HB.out (hAll.out (by rw [hs.out, hn, hn2]; rfl)))⟩
                    go_wp2
                    go_ret
                    exact ⟨rb HE.out.symm, BT.out⟩
              · have HE : Sec ((List.range (k + 1)).all (newAt p.places) = true) := ⟨by rw [HR.out, hT.out, HN2.out]; have := hT2.out; rwa [show j = k by omega] at this⟩
                go_wp2
                go_roundw
                case rel => exact ⟨k + 1, by omega, by go_num, HE, ⟨hb2.out.1, hb2.out.2.1⟩⟩
                case measure => simp [intOf]; omega
    · have HT := Sec.mk (prgOk_tests p (by have := hT.out; rwa [show k = p.places.length by omega] at this))
      have X := (box_at hb.out.2).2.1
      have u0 := X 0 _ rfl
      have u1 := X 1 _ rfl
      clear X hT
      generalize (!p.clauses.all clauseOk) = q3 at *
      obtain ⟨q1, hq1⟩ : ∃ q, decide ((p.clauses.length : Int) ≤ 12) = q := ⟨_, rfl⟩
      obtain ⟨q2, hq2⟩ : ∃ q, decide ((p.places.length : Int) ≤ 6) = q := ⟨_, rfl⟩
      rw [hq1, hq2] at HT
      cases q1 with
      | false =>
        clear hq2
        cases q2 <;> (
          go_wp2
          go_ret
          exact ⟨rb HT.out.symm, hb.out.1⟩)
      | true =>
        cases q2 with
        | false =>
          go_wp2
          go_ret
          exact ⟨rb HT.out.symm, hb.out.1⟩
        | true =>
          go_wp2_with (go_at_call 36; refine (CL.out _ hb.out.1).mono ?_; rintro e w5 ⟨rfl, hb5⟩; have B5 := Sec.mk (bel hb.out.1 hb5); clear hb5)
          go_ret
          exact ⟨rb HT.out.symm, B5.out⟩
end Go.Proofs.YtenigopoknajgaaGreatDoor
