/- Contracts: what may stand in a program (the program): below, inClause. -/
import Derived.Test.YtenigopoknajgaaGreatDoorPrg
import Derived.Test.YtenigopoknajgaaGreatDoorExB
namespace Go.Proofs.YtenigopoknajgaaGreatDoor
open Go.RowKit
set_option linter.unusedVariables false
set_option maxRecDepth 100000
def overC (n : Int) (x : Cell) : Bool := x.kind == 1 && decide (n ≤ x.n)
def overAt (n : Int) (t : Term) (i : Int) : Prop := decide (0 ≤ i) = t.any (overC n)
theorem overC_varIn (x : Cell) : varIn x = !overC 8 x := rfl
theorem over_all (t : Term) : t.all varIn = !t.any (overC 8) := by
  rw [List.not_any_eq_all_not]; rfl
theorem below1_i (x : Cell) (n : Int) (b : Nat) (w : World) (hb : w.cell? ⟨b, 0, none⟩ = some (.int .i64 n)) : Calls Tryz.prog 93 #[x.agg, .pointer (some ⟨b, 0, none⟩)] w fun e w' => e = .returned (.bool (overC n x)) ∧ Below w.heap.size w w' := by
  have B1 := Sec.mk (belA (Below.refl w.heap.size w) (.cells #[.int .i64 x.kind, .int .i64 x.n, .string x.name] 73))
  have c0 : (w.alloc (.cells #[.int .i64 x.kind, .int .i64 x.n, .string x.name] 73)).cell? ⟨b, 0, none⟩ = some (.int .i64 n) := Raw.cell_below (belA (Below.refl _ _) _) hb
  have X := (box_at (heap_alloc_new w (.cells #[.int .i64 x.kind, .int .i64 x.n, .string x.name] 73))).2.1
  have y0 := X 0 _ rfl
  have y1 := X 1 _ rfl
  have y2 := X 2 _ rfl
  clear X
  have hu := Tryz.underlying73
  by_cases hk : x.kind = 1
  · have g1 : (x.kind == 1) = true := beq_iff_eq.2 hk
    obtain ⟨q, hq⟩ : ∃ q, decide (x.n ≥ n) = q := ⟨_, rfl⟩
    have HE : Sec (overC n x = q) := ⟨by rw [← hq]; simp [overC, hk]⟩
    clear hk
    go_enter Tryz.func93, Tryz.ntmps93
    go_wp2
    go_ret
    exact ⟨rb HE.out.symm, B1.out⟩
  · have g1 : (x.kind == 1) = false := beq_eq_false_iff_ne.2 hk
    have HE : Sec (overC n x = false) := ⟨by simp [overC, hk]⟩
    clear hk
    go_enter Tryz.func93, Tryz.ntmps93
    go_wp2
    go_ret
    exact ⟨rb HE.out.symm, B1.out⟩
theorem indexOver_i (v : Value) (t : Term) (n : Int) (b0 : Nat) (ok : Nat → Prop) (w : World) (hV : kCell.V w ok v t) (hb0 : w.cell? ⟨b0, 0, none⟩ = some (.int .i64 n)) :
    Calls Tryz.prog 97 #[v, .func (.func 93) #[] #[.pointer (some ⟨b0, 0, none⟩)]] w fun e w' => ∃ i : Int, e = .returned (.int .i64 i) ∧ overAt n t i ∧ Below w.heap.size w w' := by
  obtain ⟨A, c, rfl, h1, h2, h3, hC, hz⟩ := hV
  have HC := Sec.mk hC
  have HB0 := Sec.mk hb0
  clear hC hz hb0
  have hu := Tryz.underlying73
  go_enter Tryz.func97, Tryz.ntmps97
  go_wp2
  go_loopw [8] (fun iv wr => ∃ k : Nat, k ≤ t.length ∧ iv = .int .i64 k ∧ Sec ((t.take k).any (overC n) = false) ∧ Sec (Below w.heap.size w wr)) (fun iv _ => t.length - (intOf iv).toNat)
  case atStart => exact ⟨0, Nat.zero_le _, rfl, ⟨rfl⟩, ⟨Below.refl _ _⟩⟩
  case round =>
    obtain ⟨k, hk, rfl, hT, hb⟩ := hrel
    by_cases hlt : k < t.length
    · obtain ⟨b, off, rfl, hob, c0, c1, c2, hnm⟩ := cell_at (Kd.C_below HC.out hb.out (by decide)) k hlt
      have hA : Sec ((t.take (k + 1)).any (overC n) = overC n t[k]) := ⟨by rw [List.take_succ_eq_append_getElem hlt, List.any_append, hT.out]; simp⟩
      have hmem : Sec (t[k] ∈ t) := ⟨List.getElem_mem hlt⟩
      have HW := Sec.mk (below1_i t[k] n b0 wr (Raw.cell_below hb.out HB0.out))
      generalize t[k] = x at *
      obtain ⟨bb, hbb⟩ : ∃ b, overC n x = b := ⟨_, rfl⟩
      have HB := Sec.mk hbb
      rw [hbb] at HW
      clear hbb
      cases bb with
      | false =>
        have hA' : Sec ((t.take (k + 1)).any (overC n) = false) := ⟨by rw [hA.out, HB.out]⟩
        go_wp2_with (go_at_call 93; refine HW.out.mono ?_; rintro e w1 ⟨rfl, hb1⟩; have B1 := Sec.mk (bel hb.out hb1); clear hb1)
        go_roundw
        case rel => exact ⟨k + 1, by omega, by go_num, hA', B1⟩
        case measure => simp [intOf]; omega
      | true =>
        have hF : Sec (overAt n t k) := ⟨by
          have : t.any (overC n) = true := List.any_eq_true.2 ⟨x, hmem.out, HB.out⟩
          unfold overAt; rw [this]; simp⟩
        go_wp2_with (go_at_call 93; refine HW.out.mono ?_; rintro e w1 ⟨rfl, hb1⟩; have B1 := Sec.mk (bel hb.out hb1); clear hb1)
        go_ret
        exact ⟨_, rfl, hF.out, B1.out⟩
    · have hF : Sec (overAt n t (-1)) := ⟨by
        have : t.any (overC n) = false := by have := hT.out; rwa [List.take_of_length_le (by omega)] at this
        unfold overAt; rw [this]; rfl⟩
      go_wp2
      go_ret
      exact ⟨_, rfl, hF.out, hb.out⟩
theorem containsOver_i (v : Value) (t : Term) (n : Int) (b0 : Nat) (ok : Nat → Prop) (w : World) (hV : kCell.V w ok v t) (hb0 : w.cell? ⟨b0, 0, none⟩ = some (.int .i64 n)) :
    Calls Tryz.prog 91 #[v, .func (.func 93) #[] #[.pointer (some ⟨b0, 0, none⟩)]] w fun e w' => e = .returned (.bool (t.any (overC n))) ∧ Below w.heap.size w w' := by
  have HI := Sec.mk (indexOver_i v t n b0 ok w hV hb0)
  obtain ⟨A, c, rfl, h1, h2, h3, hC, hz⟩ := hV
  clear hC hz hb0
  generalize hall : t.any (overC n) = al
  have HAL := Sec.mk hall
  clear hall
  go_enter Tryz.func91, Tryz.ntmps91
  go_wp2_with (go_at_call 97; refine HI.out.mono ?_; rintro e w1 ⟨i, rfl, hw, hb⟩; have B1 := Sec.mk hb; have HW := Sec.mk hw; clear hb hw)
  go_ret
  exact ⟨rb (by have := HW.out; unfold overAt at this; rw [HAL.out] at this; exact this), B1.out⟩
theorem below_i (v : Value) (t : Term) (n : Int) (ok : Nat → Prop) (w : World) (hV : kCell.V w ok v t) :
    Calls Tryz.prog 79 #[v, .int .i64 n] w fun e w' => e = .returned (.bool (!t.any (overC n))) ∧ Below w.heap.size w w' := by
  have B0 := Sec.mk (belA (Below.refl w.heap.size w) (.cells #[.int .i64 n] 3))
  have HI := Sec.mk (containsOver_i v t n w.heap.size ok _ (Kd.V_below hV B0.out (by decide)) ((box_at (heap_alloc_new w (.cells #[.int .i64 n] 3))).2.1 0 _ rfl))
  obtain ⟨A, c, rfl, -⟩ := hV
  generalize t.any (overC n) = al at *
  go_enter Tryz.func79, Tryz.ntmps79
  go_wp2_with (go_at_call 91; refine HI.out.mono ?_; rintro e w1 ⟨rfl, hb⟩; have B1 := Sec.mk (bel B0.out hb); clear hb)
  go_ret
  exact ⟨rfl, B1.out⟩
theorem inClause_i (v : Value) (t : Term) (ok : Nat → Prop) (w : World) (hV : kCell.V w ok v t) :
    Calls Tryz.prog 60 #[v] w fun e w' => e = .returned (.bool (decide (t.length ≤ 12) && t.all varIn)) ∧ Below w.heap.size w w' := by
  have HI := Sec.mk (below_i v t 8 ok w hV)
  rw [← over_all] at HI
  obtain ⟨A, c, rfl, -, -, h3, -⟩ := hV
  by_cases hl : t.length ≤ 12
  · have q1 : decide ((t.length : Int) ≤ 12) = true := decide_eq_true (by omega)
    rw [decide_eq_true hl, Bool.true_and]
    generalize t.all varIn = al at *
    go_enter Tryz.func60, Tryz.ntmps60
    go_wp2_with (go_at_call 79; refine HI.out.mono ?_; rintro e w1 ⟨rfl, hb⟩; have B1 := Sec.mk hb; clear hb)
    go_ret
    exact ⟨rfl, B1.out⟩
  · have q1 : decide ((t.length : Int) ≤ 12) = false := decide_eq_false (by omega)
    rw [decide_eq_false hl, Bool.false_and]
    clear HI
    go_enter Tryz.func60, Tryz.ntmps60
    go_wp2
    go_ret
    exact ⟨rfl, Below.refl _ _⟩
end Go.Proofs.YtenigopoknajgaaGreatDoor
