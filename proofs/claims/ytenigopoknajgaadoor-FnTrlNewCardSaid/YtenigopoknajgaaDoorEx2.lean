/- The exact laws' own functions on rows of places. -/
import Derived.Test.YtenigopoknajgaaDoorEx1
namespace Go.Proofs.YtenigopoknajgaaDoor
open Go.RowKit
set_option linter.unusedVariables false
set_option maxRecDepth 100000
def rCell : Raw Cell := Raw.iso 71 (Raw.pair (Raw.int 3) (Raw.pair (Raw.int 3) (Raw.str 9))) (fun x => (x.kind, x.n, x.name))
theorem rCell_open {w : World} {x : Cell} {cs : List Value} (h : rCell.K w x cs) : cs = cellC x ∧ x.name.size ≤ maxLen := by
  obtain ⟨_, _, rfl, ⟨rfl, _⟩, ⟨_, _, rfl, ⟨rfl, _⟩, ⟨rfl, h⟩⟩⟩ := h
  exact ⟨rfl, h⟩
theorem rCell_mono : Raw.Mono rCell := Raw.mono_iso (Raw.mono_pair Raw.mono_scalar (Raw.mono_pair Raw.mono_scalar Raw.mono_scalar))
theorem rCell_wt (x : Cell) : rCell.wt x = x.name.size := by show 0 + (0 + x.name.size) = _; omega
theorem rCell_at {w : World} {A : Option Addr} {xs : Term} (h : rCell.C w A xs) (i : Nat) (hi : i < xs.length) : ∃ b off, A = some ⟨b, off, none⟩ ∧
    w.cell? ⟨b, off + i * 3, none⟩ = some (.int .i64 xs[i].kind) ∧ w.cell? ⟨b, off + i * 3 + 1, none⟩ = some (.int .i64 xs[i].n) ∧ w.cell? ⟨b, off + i * 3 + 2, none⟩ = some (.string xs[i].name) ∧ xs[i].name.size ≤ maxLen := by
  obtain ⟨b, off, cs, hA, hK, hc⟩ := Raw.C_get h i hi
  obtain ⟨rfl, hn⟩ := rCell_open hK
  exact ⟨b, off, hA, hc 0 _ rfl, hc 1 _ rfl, hc 2 _ rfl, hn⟩
theorem szCells_c (v : Value) (t : Term) (left : Nat) (hl : left ≤ 1048576) (w : World) (hV : rCell.V w v t) :
    Calls Tryd.prog 14 #[v, .int .i64 left] w fun e w' => e = .returned (.int .i64 (Raw.spent (rCell.wts t) left)) ∧ Below w.heap.size w w' := by
  obtain ⟨A, c, rfl, h1, h2, hC, _⟩ := hV
  have HC := Sec.mk hC
  clear hC
  have h3 : t.length ≤ 9223372036854775807 := by have : c ≤ 9223372036854775807 := by simpa [maxLen] using h2
                                                 omega
  have hu2 := Tryd.underlying71
  by_cases hlen : t.length ≤ left
  · obtain ⟨l1, hl1⟩ : ∃ l1 : Nat, (left : Int) - t.length = l1 := ⟨left - t.length, by omega⟩
    have hl2 : l1 + t.length = left := by omega
    have HL := Sec.mk hl1
    have HS : Sec (∀ (k : Nat) (hk : k < t.length), ((t.take (k + 1)).map rCell.wt).sum = ((t.take k).map rCell.wt).sum + t[k].name.size ∧ ((t.take (k + 1)).map rCell.wt).sum ≤ (t.map rCell.wt).sum) := ⟨fun k hk => ⟨by rw [Raw.wts_take _ _ _ hk, rCell_wt], Raw.wts_take_le _ _ _⟩⟩
    go_enter Tryd.func14, Tryd.ntmps14
    go_wp2
    go_loopw [1, 5] (fun l i wr => ∃ k m : Nat, k ≤ t.length ∧ i = .int .i64 k ∧ l = .int .i64 m ∧ m ≤ 1048576 ∧ Sec (m + ((t.take k).map rCell.wt).sum = l1) ∧ Sec (Below w.heap.size w wr)) (fun _ i _ => t.length - (intOf i).toNat)
    case atStart => exact ⟨0, l1, Nat.zero_le _, rfl, rfl, by omega, ⟨by simp⟩, ⟨Below.refl _ _⟩⟩
    case round =>
      obtain ⟨k, m, hk, rfl, rfl, hm, hM, hb⟩ := hrel
      by_cases hlt : k < t.length
      · obtain ⟨b, off, rfl, c0, c1, c2, hnm⟩ := rCell_at (xs := t) (by
          have := Raw.mono_V (v := .slice A t.length c) rCell_mono hb.out ⟨A, c, rfl, h1, h2, HC.out, ‹_›⟩
          obtain ⟨A', c', e, _, _, h, _⟩ := this
          simp only [Value.slice.injEq] at e
          obtain ⟨rfl, _, _⟩ := e
          exact h) k hlt
        obtain ⟨s1, s2⟩ := HS.out k hlt
        have S1 := Sec.mk s1
        have S2 := Sec.mk s2
        clear s1 s2
        generalize t[k] = x at *
        by_cases hx : x.name.size ≤ m
        · have e1 : Raw.spent x.name.size m = ((m - x.name.size : Nat) : Int) := Raw.spent_le hx
          have e2 : ¬ (((m - x.name.size : Nat) : Int) < 0) := by omega
          generalize hm2 : m - x.name.size = m2 at *
          have HM2 : Sec (m2 + ((t.take (k + 1)).map rCell.wt).sum = l1) := ⟨by rw [S1.out]; have := hM.out; omega⟩
          have hm3 : m2 ≤ 1048576 := by omega
          clear hm2
          go_wp2_with (go_at_call 37; refine (szCell_c x m hnm hm wr).mono ?_; rintro e w1 ⟨rfl, hb1⟩; have B1 := Sec.mk (bel hb.out hb1); rw [show (if x.name.size ≤ m then (m : Int) - x.name.size else -1) = (m2 : Int) from e1]; clear c0 c1 c2)
          go_roundw
          case rel => exact ⟨k + 1, m2, by omega, by go_num, rfl, hm3, HM2, B1⟩
          case measure => simp [intOf]; omega
        · have e1 : Raw.spent x.name.size m = -1 := Raw.spent_gt hx
          have hfin : Sec (Raw.spent (rCell.wts t) left = -1) := ⟨Raw.spent_gt (by unfold Raw.wts; have := S1.out; have := S2.out; have := hM.out; omega)⟩
          go_wp2_with (go_at_call 37; refine (szCell_c x m hnm hm wr).mono ?_; rintro e w1 ⟨rfl, hb1⟩; have B1 := Sec.mk (bel hb.out hb1); rw [show (if x.name.size ≤ m then (m : Int) - x.name.size else -1) = (-1 : Int) from e1]; clear c0 c1 c2)
          go_ret
          exact ⟨ri hfin.out.symm, B1.out⟩
      · have hfin : Sec ((m : Int) = Raw.spent (rCell.wts t) left) := ⟨by
          have h1 := hM.out
          rw [List.take_of_length_le (by omega)] at h1
          rw [Raw.spent_le (by unfold Raw.wts; omega)]
          unfold Raw.wts
          omega⟩
        go_wp2
        go_ret
        exact ⟨ri hfin.out, hb.out⟩
  · have hfin : Sec (Raw.spent (rCell.wts t) left = -1) := ⟨Raw.spent_gt (by unfold Raw.wts; omega)⟩
    go_enter Tryd.func14, Tryd.ntmps14
    go_wp2
    go_ret
    exact ⟨ri hfin.out.symm, Below.refl _ _⟩
end Go.Proofs.YtenigopoknajgaaDoor
