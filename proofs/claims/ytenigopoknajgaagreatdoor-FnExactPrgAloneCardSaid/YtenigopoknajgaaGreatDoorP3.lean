/- Contracts: a program that is ok (the reference). -/
import Derived.Test.YtenigopoknajgaaGreatDoorP2
import Derived.BigQuiet
namespace Go.Proofs.YtenigopoknajgaaGreatDoor
open Go.RowKit
set_option linter.unusedVariables false
set_option maxRecDepth 100000
theorem belDN {n q : Nat} {w W : World} (h : Below n w W) : Below n w (W.drewN q) := ⟨h.os, h.tape, h.output, h.size, h.block⟩
theorem clause_at {w : World} {ok : Nat → Prop} {A : Option Addr} {xs : List Clause} (h : kClause.C w ok A xs) (i : Nat) (hi : i < xs.length) : ∃ b off E1 m1 E2 m2, A = some ⟨b, off, none⟩ ∧ ok b ∧
    w.cell? ⟨b, off + i * 2, none⟩ = some (.slice E1 xs[i].head.length m1) ∧ w.cell? ⟨b, off + i * 2 + 1, none⟩ = some (.slice E2 xs[i].body.length m2) ∧
    kClause.K w ok xs[i] [.slice E1 xs[i].head.length m1, .slice E2 xs[i].body.length m2] := by
  obtain ⟨b, off, cs, hA, hb, hK, hc⟩ := Kd.C_get h (List.getElem?_eq_getElem hi)
  obtain ⟨v1, v2, rfl, ⟨E1, m1, rfl, -⟩, ⟨E2, m2, rfl, -⟩⟩ := kClause_K hK
  exact ⟨b, off, E1, m1, E2, m2, hA, hb, hc 0 _ rfl, hc 1 _ rfl, hK⟩
theorem place_at' {w : World} {ok : Nat → Prop} {A : Option Addr} {xs : List Place} (h : kPlace.C w ok A xs) (i : Nat) (hi : i < xs.length) : ∃ b off, A = some ⟨b, off, none⟩ ∧ ok b ∧
    w.cell? ⟨b, off + i * 3, none⟩ = some (.string xs[i].name) ∧ w.cell? ⟨b, off + i * 3 + 1, none⟩ = some (.int .i64 xs[i].n) ∧ w.cell? ⟨b, off + i * 3 + 2, none⟩ = some (.int .i64 xs[i].node) ∧ xs[i].name.size ≤ 1073741824 := by
  obtain ⟨b, off, cs, hA, hb, hK, hc⟩ := Kd.C_get h (List.getElem?_eq_getElem hi)
  obtain ⟨rfl, hn⟩ := kPlace_K hK
  exact ⟨b, off, hA, hb, hc 0 _ rfl, hc 1 _ rfl, hc 2 _ rfl, hn⟩
set_option maxHeartbeats 4000000 in
theorem specPrgOk_c (p : Prog) (cs : List Value) (ok : Nat → Prop) (w : World) (hK : kProg.K w ok p cs) (hok : ∀ k, ok k → k < w.heap.size) :
    Calls Tryz.prog 13 #[.agg cs.toArray] w fun e w' => e = .returned (.bool (prgOk p)) ∧ Below w.heap.size w w' := by
  obtain ⟨v0, v1, rfl, h0, h1⟩ := kProg_K hK
  obtain ⟨E0, m0, rfl, -, -, l0, hC0, -⟩ := h0
  obtain ⟨E1, m1, rfl, -, -, l1, hC1, -⟩ := h1
  have B0 := Sec.mk (belA (Below.refl w.heap.size w) (.cells #[.slice E0 p.clauses.length m0, .slice E1 p.places.length m1] 30))
  have P0 := Sec.mk (heap_alloc_new w (.cells #[.slice E0 p.clauses.length m0, .slice E1 p.places.length m1] 30))
  have HC0 := Sec.mk hC0
  have HC1 := Sec.mk hC1
  have HOK := Sec.mk hok
  clear hK hC0 hC1 hok
  have X := (box_at P0.out).2.1
  have y0 := X 0 _ rfl
  have y1 := X 1 _ rfl
  clear X
  by_cases hl0 : p.clauses.length ≤ 12
  · have q0 : decide ((p.clauses.length : Int) > 12) = false := decide_eq_false (by omega)
    by_cases hl1 : p.places.length ≤ 6
    · have q1 : decide ((p.places.length : Int) > 6) = false := decide_eq_false (by omega)
      go_enter Tryz.func13, Tryz.ntmps13
      go_wp2
      go_loopw [3] (fun i wr => ∃ k : Nat, k ≤ p.clauses.length ∧ i = .int .i64 k ∧ Sec ((p.clauses.take k).all clauseOk = true) ∧ Sec (Below w.heap.size w wr ∧ wr.heap[w.heap.size]? = some (.cells #[.slice E0 p.clauses.length m0, .slice E1 p.places.length m1] 30 (0, 0)))) (fun i _ => p.clauses.length - (intOf i).toNat)
      case atStart => exact ⟨0, Nat.zero_le _, rfl, ⟨by simp⟩, ⟨B0.out, P0.out⟩⟩
      case round =>
        obtain ⟨k, hk, rfl, hT, hb⟩ := hrel
        have X := (box_at hb.out.2).2.1
        have u0 := X 0 _ rfl
        have u1 := X 1 _ rfl
        clear X
        by_cases hlt : k < p.clauses.length
        · obtain ⟨b, off, F1, n1, F2, n2, rfl, _, x0, x1, hKg⟩ := clause_at (Kd.C_below HC0.out hb.out.1 (by decide)) k hlt
          have hTk : Sec ((p.clauses.take (k + 1)).all clauseOk = clauseOk p.clauses[k]) := ⟨by rw [take_all clauseOk p.clauses k hlt, hT.out, Bool.true_and]⟩
          have hAll : Sec (clauseOk p.clauses[k] = false → p.clauses.all clauseOk = false) := ⟨fun h => List.all_eq_false.2 ⟨p.clauses[k], List.getElem_mem hlt, by rw [h]; decide⟩⟩
          have HG := Sec.mk (l3Clause_c p.clauses[k] _ ok wr hKg)
          generalize p.clauses[k] = g at *
          clear hKg
          have i0 : (0 : Int) ≤ (k : Int) := by omega
          have i1 : (k : Int) < (p.clauses.length : Int) := by omega
          cases hg : clauseOk g with
          | false =>
            have HE : Sec (prgOk p = false) := ⟨prgOk_3 (hAll.out hg)⟩
            rw [hg] at HG
            clear hg
            go_wp2_with (go_at_call 27; refine HG.out.mono ?_; rintro e w5 ⟨rfl, hb5⟩; have B5 := Sec.mk (bel hb.out.1 hb5); clear hb5)
            go_ret
            exact ⟨rb HE.out.symm, B5.out⟩
          | true =>
            have HE : Sec ((p.clauses.take (k + 1)).all clauseOk = true) := ⟨by rw [hTk.out, hg]⟩
            rw [hg] at HG
            clear hg
            go_wp2_with (go_at_call 27; refine HG.out.mono ?_; rintro e w5 ⟨rfl, hb5⟩; have B5 := Sec.mk (bel hb.out.1 hb5); have P5 := Sec.mk ((hb5.block _ (Array.getElem?_eq_some_iff.1 hb.out.2).1).trans hb.out.2); clear hb5)
            go_roundw
            case rel => exact ⟨k + 1, by omega, by go_num, HE, ⟨B5.out, P5.out⟩⟩
            case measure => simp [intOf]; omega
        · have HCL : Sec (p.clauses.all clauseOk = true) := ⟨by have := hT.out; rwa [List.take_of_length_le (by omega)] at this⟩
          clear hT
          go_wp2
          go_loopw [4] (fun i ws => ∃ k : Nat, k ≤ p.places.length ∧ i = .int .i64 k ∧ Sec ((List.range k).all (newAt p.places) = true) ∧ Sec (Below w.heap.size w ws ∧ ws.heap[w.heap.size]? = some (.cells #[.slice E0 p.clauses.length m0, .slice E1 p.places.length m1] 30 (0, 0)))) (fun i _ => p.places.length - (intOf i).toNat)
          case atStart => exact ⟨0, Nat.zero_le _, rfl, ⟨by simp⟩, ⟨hb.out.1, hb.out.2⟩⟩
          case round =>
            clear u0 u1
            obtain ⟨m, hm, rfl, hT, hb'⟩ := hrel
            have X := (box_at hb'.out.2).2.1
            have u0 := X 0 _ rfl
            have u1 := X 1 _ rfl
            clear X
            by_cases hlt2 : m < p.places.length
            · obtain ⟨b, off, rfl, _, x0, x1, x2, hsz⟩ := place_at' (Kd.C_below HC1.out hb'.out.1 (by decide)) m hlt2
              have HN := Sec.mk (newAt_at hlt2)
              have HB := Sec.mk (fun h => places_no hlt2 h)
              have HR := Sec.mk (range_all (p := newAt p.places) m)
              have i0 : (0 : Int) ≤ (m : Int) := by omega
              have i1 : (m : Int) < (p.places.length : Int) := by omega
              have HX : Sec (p.places[m]? = some p.places[m]) := ⟨List.getElem?_eq_getElem hlt2⟩
              generalize p.places[m] = x at *
              have HPL := Sec.mk (l3Place_c x wr)
              cases hpl : placeOk x with
              | false =>
                have HE : Sec (prgOk p = false) := ⟨prgOk_4 (HB.out (by rw [HN.out, hpl]; rfl))⟩
                rw [hpl] at HPL
                clear hpl
                go_wp2_with (go_at_call 28; refine HPL.out.mono ?_; rintro e w5 ⟨rfl, hb5⟩; have B5 := Sec.mk (bel hb'.out.1 hb5); clear hb5)
                go_ret
                exact ⟨rb HE.out.symm, B5.out⟩
              | true =>
                have HN2 : Sec (newAt p.places m = (p.places.take m).all (fun q => !samePlace q x)) := ⟨by rw [HN.out, hpl, Bool.true_and]⟩
                rw [hpl] at HPL
                clear hpl
                go_wp2_with (go_at_call 28; refine HPL.out.mono ?_; rintro e w5 ⟨rfl, hb5⟩; have B5 := Sec.mk (bel hb'.out.1 hb5); have P5 := Sec.mk ((hb5.block _ (Array.getElem?_eq_some_iff.1 hb'.out.2).1).trans hb'.out.2); clear hb5)
                go_loopw [5] (fun i wt => ∃ j : Nat, j ≤ m ∧ i = .int .i64 j ∧ Sec ((p.places.take j).all (fun q => !samePlace q x) = true) ∧ Sec (Below w.heap.size w wt ∧ wt.heap[w.heap.size]? = some (.cells #[.slice E0 p.clauses.length m0, .slice (some ⟨b, off, none⟩) p.places.length m1] 30 (0, 0)))) (fun i _ => m - (intOf i).toNat)
                case atStart => exact ⟨0, Nat.zero_le _, rfl, ⟨by simp⟩, ⟨B5.out, P5.out⟩⟩
                case round =>
                  clear u0 u1 x0 x1 x2
                  obtain ⟨j, hj, rfl, hT2, hb2⟩ := hrel
                  have X := (box_at hb2.out.2).2.1
                  have u0 := X 0 _ rfl
                  have u1 := X 1 _ rfl
                  clear X
                  by_cases hlt3 : j < m
                  · obtain ⟨b3, off3, e3, _, x0, x1, x2, -⟩ := place_at' (Kd.C_below HC1.out hb2.out.1 (by decide)) m hlt2
                    obtain ⟨b4, off4, e4, _, z0, z1, z2, -⟩ := place_at' (Kd.C_below HC1.out hb2.out.1 (by decide)) j (by omega)
                    cases e3
                    cases e4
                    have ex : p.places[m] = x := by have := HX.out; rw [List.getElem?_eq_getElem hlt2] at this; exact Option.some.inj this
                    rw [ex] at x0 x1 x2
                    have hTj : Sec ((p.places.take (j + 1)).all (fun q => !samePlace q x) = !samePlace p.places[j] x) := ⟨by rw [take_all _ p.places j (by omega), hT2.out, Bool.true_and]⟩
                    have hAll : Sec (samePlace p.places[j] x = true → newAt p.places m = false) := ⟨fun h => by rw [HN2.out]; exact List.all_eq_false.2 ⟨p.places[j], by rw [List.mem_take_iff_getElem]; exact ⟨j, by omega, rfl⟩, by rw [h]; decide⟩⟩
                    have hs : Sec (samePlace p.places[j] x = (p.places[j].name.toList == x.name.toList && p.places[j].n == x.n)) := ⟨rfl⟩
                    generalize p.places[j] = y at *
                    have j0 : (0 : Int) ≤ (j : Int) := by omega
                    have j1 : (j : Int) < (p.places.length : Int) := by omega
                    have j2 : (j : Int) < (m : Int) := by omega
                    cases hn : (y.name.toList == x.name.toList) with
                    | false =>
                      have HE : Sec ((p.places.take (j + 1)).all (fun q => !samePlace q x) = true) := ⟨by rw [hTj.out, hs.out, hn]; rfl⟩
                      go_wp2
                      go_quiet (fail)
                      go_wp2
                      go_roundw
                      case rel => exact ⟨j + 1, by omega, by go_num, HE, ⟨belDN hb2.out.1, hb2.out.2⟩⟩
                      case measure => simp [intOf]; omega
                    | true =>
                      cases hn2 : (y.n == x.n) with
                      | false =>
                        have HE : Sec ((p.places.take (j + 1)).all (fun q => !samePlace q x) = true) := ⟨by rw [hTj.out, hs.out, hn, hn2]; rfl⟩
                        go_wp2
                        go_quiet (fail)
                        go_wp2
                        go_roundw
                        case rel => exact ⟨j + 1, by omega, by go_num, HE, ⟨belDN hb2.out.1, hb2.out.2⟩⟩
                        case measure => simp [intOf]; omega
                      | true =>
                        have HE : Sec (prgOk p = false) := ⟨prgOk_4 (HB.out (hAll.out (by rw [hs.out, hn, hn2]; rfl)))⟩
                        go_wp2
                        go_quiet (fail)
                        go_wp2
                        go_ret
                        exact ⟨rb HE.out.symm, belDN hb2.out.1⟩
                  · have HE : Sec ((List.range (m + 1)).all (newAt p.places) = true) := ⟨by rw [HR.out, hT.out, HN2.out]; have := hT2.out; rwa [show j = m by omega] at this⟩
                    go_wp2
                    go_roundw
                    case rel => exact ⟨m + 1, by omega, by go_num, HE, hb2⟩
                    case measure => simp [intOf]; omega
            · have HE : Sec (prgOk p = true) := ⟨prgOk_5 hl0 hl1 HCL.out (by have := hT.out; rwa [show m = p.places.length by omega] at this)⟩
              go_wp2
              go_ret
              exact ⟨rb HE.out.symm, hb'.out.1⟩
    · have HE : Sec (prgOk p = false) := ⟨prgOk_2 hl1⟩
      have q1 : decide ((p.places.length : Int) > 6) = true := decide_eq_true (by omega)
      go_enter Tryz.func13, Tryz.ntmps13
      go_wp2
      go_ret
      exact ⟨rb HE.out.symm, B0.out⟩
  · have HE : Sec (prgOk p = false) := ⟨prgOk_1 hl0⟩
    have q0 : decide ((p.clauses.length : Int) > 12) = true := decide_eq_true (by omega)
    go_enter Tryz.func13, Tryz.ntmps13
    go_wp2
    go_ret
    exact ⟨rb HE.out.symm, B0.out⟩
end Go.Proofs.YtenigopoknajgaaGreatDoor
