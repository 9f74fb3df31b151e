/- Contracts: drawn bytes; the sum of bytes. -/
import Derived.Test.YtkdfmnaijgkfhaaDoorDraw5
namespace Go.Proofs.YtkdfmnaijgkfhaaDoor
open Go.RowKit
set_option linter.unusedVariables false
set_option maxRecDepth 100000
def DOut (w : World) (e : Ending) (w' : World) : Prop := ∃ u bs, e = .returned u ∧ kByte.R w' (fun k => w.heap.size ≤ k) u bs ∧ bs.length ≤ 700 ∧ Below w.heap.size w w'
theorem DrawTrmTake_c (w : World) (v : Value) (code : List UInt8) (ok : Nat → Prop) (hV : kByte.V w ok v code) :
    Calls Tryd.prog 22 #[v] w (DOut w) := by
  have H0 := Sec.mk (open_c w v code ok hV)
  obtain ⟨A, c, rfl, _⟩ := hV
  go_enter Tryd.func22, Tryd.ntmps22
  go_wp2_with fail
  refine H0.out.mono ?_
  rintro e w1 ⟨g, rfl, hR1, hB1⟩
  have R1 := Sec.mk hR1
  have g1 := hR1.lt
  have g0 := hR1.ge
  clear hR1 hB1
  go_wp2_with fail
  refine (termOr_c w w1 g 0 99999 R1.out (by omega) (by omega) (by omega)).mono ?_
  rintro e w2 ⟨u2, t, rfl, hR2, hl2, hD2, hRd2, hO2⟩
  have T2 := Sec.mk hR2
  have R2 := Sec.mk hRd2
  have z2 := hO2.size
  clear hR2 hD2 hRd2 hO2
  go_wp2_with fail
  refine (TrmBytes_c w2 u2 t _ (Kd.R_V T2.out)).mono ?_
  rintro e w3 ⟨u3, rfl, hR3, hb3⟩
  have S3 := Sec.mk hR3
  have R3 := Sec.mk (R2.out.below hb3)
  have L3 := Sec.mk (trmBytes_len t)
  have z3 := hb3.size
  clear hR3 hb3
  generalize trmBytes t = bs at *
  go_wp2_with fail
  refine (pick_c w w3 g (0 + 400) 2 R3.out (by omega)).mono ?_
  rintro e w4 ⟨r, rfl, -, hR4, hO4⟩
  have R4 := Sec.mk hR4
  have z4 := hO4.size
  have S4 := Sec.mk (Kd.R_move (hO4.keeps (ok := fun k => w2.heap.size ≤ k) (by omega)) S3.out)
  clear hR4 hO4
  obtain ⟨A4, c4, e4, _⟩ := Kd.R_form S4.out
  subst e4
  by_cases hr : r = 0
  · have hr' : (r == 0) = true := beq_iff_eq.2 hr
    clear hr
    go_wp2_with fail
    refine (turn_c w w4 g (0 + 400 + 1) _ bs R4.out (by omega) (Kd.V_mono (Kd.R_V S4.out) (fun k hk => by omega) (by decide)) (by have := L3.out; omega)).mono ?_
    rintro e w5 ⟨u5, b5, rfl, hR5, hl5, hRd5, hO5⟩
    have S5 := Sec.mk (Kd.R_mono hR5 (S1 := fun k => w.heap.size ≤ k) (fun k h _ => by omega))
    have B5 := Sec.mk hRd5.bel
    have L5 : Sec (b5.length ≤ 700) := ⟨by have := L3.out; omega⟩
    clear hR5 hl5 hRd5 hO5
    go_wp2
    go_ret
    exact ⟨_, _, rfl, S5.out, L5.out, B5.out⟩
  · have hr' : (r == 0) = false := beq_eq_false_iff_ne.2 hr
    clear hr
    go_wp2
    go_ret
    exact ⟨_, _, rfl, Kd.R_mono S4.out (fun k h _ => by omega), by have := L3.out; omega, R4.out.bel⟩
def sumStep (n : Int) (x : UInt8) : Int := (n * 257 + x.toNat) % 65521
def sumB (bs : List UInt8) : Int := bs.foldl sumStep 1
theorem sum_in : ∀ (bs : List UInt8) (n : Int), 0 ≤ n → n ≤ 65520 → 0 ≤ bs.foldl sumStep n ∧ bs.foldl sumStep n ≤ 65520
  | [], n, h1, h2 => ⟨h1, h2⟩
  | x :: bs, n, h1, h2 => sum_in bs _ (by unfold sumStep; omega) (by unfold sumStep; omega)
theorem sum_apart : ∀ (bs : List UInt8) (n m : Int), 0 ≤ n → n ≤ 65520 → 0 ≤ m → m ≤ 65520 → n ≠ m → bs.foldl sumStep n ≠ bs.foldl sumStep m
  | [], n, m, _, _, _, _, h => h
  | x :: bs, n, m, h1, h2, h3, h4, h => sum_apart bs _ _ (by unfold sumStep; omega) (by unfold sumStep; omega) (by unfold sumStep; omega) (by unfold sumStep; omega) (by unfold sumStep; omega)
/-- With one byte turned the sum is another one. -/
theorem sum_turned (bs : List UInt8) (k : Nat) (hk : k < bs.length) (y : UInt8) (hy : y ≠ bs[k]) : sumB (bs.set k y) ≠ sumB bs := by
  have e1 : bs = bs.take k ++ bs[k] :: bs.drop (k + 1) := by rw [← List.drop_eq_getElem_cons hk, List.take_append_drop]
  have e2 : bs.set k y = bs.take k ++ y :: bs.drop (k + 1) := by
    rw [List.set_eq_take_append_cons_drop, if_pos hk]
  have hne : (y.toNat : Int) ≠ bs[k].toNat := fun e => hy (UInt8.toNat_inj.1 (by omega))
  have l1 := y.toNat_lt
  have l2 := bs[k].toNat_lt
  unfold sumB
  rw [e2]
  conv => rhs; rw [e1]
  rw [List.foldl_append, List.foldl_append, List.foldl_cons, List.foldl_cons]
  obtain ⟨g1, g2⟩ := sum_in (bs.take k) 1 (by omega) (by omega)
  refine sum_apart _ _ _ (by unfold sumStep; omega) (by unfold sumStep; omega) (by unfold sumStep; omega) (by unfold sumStep; omega) ?_
  unfold sumStep
  omega
end Go.Proofs.YtkdfmnaijgkfhaaDoor
