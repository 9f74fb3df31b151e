/- Draws of questions, one in so many that is none. Condition: the reader has been asked no more than a number of times. -/
import Derived.Test.YtenigopoknajgaaDoorTxA
import Derived.Test.YtenigopoknajgaaDoorTxB
import Derived.Test.YtenigopoknajgaaDoorF3
import Derived.Test.YtenigopoknajgaaDoorDraw3
namespace Go.Proofs.YtenigopoknajgaaDoor
section
open Go.RowKit
set_option linter.unusedVariables false
set_option maxRecDepth 100000
def shortStr (n : Nat) : Value → Bool | .string s => decide (s.size ≤ n) | _ => false
theorem short_at {cs : Array Value} {n i : Nat} (h : cs.all (shortStr n) = true) (hi : i < cs.size) : ∃ s : ByteArray, cs[i]? = some (.string s) ∧ s.size ≤ n := by
  have h1 := Array.all_eq_true.1 h i hi
  rw [Array.getElem?_eq_getElem hi]
  revert h1
  generalize cs[i] = v
  cases v <;> intro h1 <;> simp [shortStr] at h1
  exact ⟨_, rfl, h1⟩
theorem questions_c (w : World) : Calls Tryd.prog 79 #[] w fun e w' => ∃ cs : Array Value, e = .returned (.slice (some ⟨w.heap.size, 0, none⟩) 18 18) ∧ cs.size = 18 ∧ cs.all (shortStr 100) = true ∧ w' = w.alloc (.cells cs 9) := by
  go_enter Tryd.func79, Tryd.ntmps79
  go_wp2
  go_ret
  exact ⟨_, rfl, by rfl, by kernel_rfl, rfl⟩
def TopOut (w0 w : World) (g P : Nat) (e : Ending) (w' : World) : Prop := ∃ (u : Value) (t : Term), e = .returned u ∧ t.length ≤ 20000 ∧ kCell.R w' (fun k => w.heap.size ≤ k) u t ∧ Rd w0 w' g P ∧ Only g w w'
set_option maxHeartbeats 1000000 in
theorem top_c (w0 w : World) (g P : Nat) (hR : Rd w0 w g P) (hP : P ≤ 999980000) :
    Calls Tryd.prog 58 #[.pointer (some ⟨g, 0, none⟩)] w (TopOut w0 w g (P + 6000)) := by
  have hlt := hR.lt
  have H0 := Sec.mk hR
  clear hR
  go_enter Tryd.func58, Tryd.ntmps58
  go_wp2_with fail
  refine (pick_c w0 w g P 5 H0.out (by omega)).mono ?_
  rintro e w1 ⟨r, rfl, -, hR1, hO1⟩
  have R1 := Sec.mk hR1
  have O1 := Sec.mk hO1
  have z1 := hO1.size
  clear hR1 hO1
  by_cases hr : r = 0
  · have hr' : (r == 0) = true := beq_iff_eq.2 hr
    clear hr
    go_wp2_with fail
    refine (head_c w0 w1 g (P + 1) R1.out (by omega)).mono ?_
    rintro e w2 ⟨u, t, rfl, hl, hT, hR2, hO2⟩
    have R2 := Sec.mk hR2
    have O2 := Sec.mk (O1.out.trans hO2)
    have z2 := hO2.size
    have T2 := Sec.mk hT
    clear hR2 hO2 hT
    go_wp2_with fail
    refine (TrmCanon_c u t _ w2 (Kd.R_V T2.out)).mono ?_
    rintro e w3 ⟨u3, rfl, hT3, hb3⟩
    have T3 := Sec.mk hT3
    have R3 := Sec.mk (R2.out.below hb3)
    have O3 := Sec.mk (O2.out.trans (Only.of_below hb3))
    clear hT3 hb3
    go_wp2
    go_ret
    exact ⟨_, canon t, rfl, by simp [canon]; omega, Kd.R_mono T3.out (fun k h _ => by omega), R3.out.mono (by omega), O3.out⟩
  · have hr' : (r == 0) = false := beq_eq_false_iff_ne.2 hr
    clear hr
    go_wp2_with fail
    refine (questions_c w1).mono ?_
    rintro e w2 ⟨cs, rfl, hcz, hcs, hw2⟩
    have Q2 : Sec (w2.heap[w1.heap.size]? = some (.cells cs 9 (0, 0))) := ⟨by rw [hw2]; exact heap_alloc_new w1 _⟩
    have hB2 : Below w1.heap.size w1 w2 := by rw [hw2]; exact belA (Below.refl _ _) _
    have R2 := Sec.mk (R1.out.below hB2)
    have O2 := Sec.mk (O1.out.trans (Only.of_below hB2))
    have z2 := hB2.size
    have HCS := Sec.mk hcs
    have HCZ := Sec.mk hcz
    clear hw2 hB2 hcs hcz
    go_wp2_with fail
    refine (pick_c w0 w2 g (P + 1) 18 R2.out (by omega)).mono ?_
    rintro e w3 ⟨r1, rfl, ⟨p0, p1, _⟩, hR3, hO3⟩
    have p2 := p1 (by omega)
    have R3 := Sec.mk hR3
    have O3 := Sec.mk (O2.out.trans hO3)
    have Q3 := Sec.mk (hO3.blk Q2.out (by omega))
    have z3 := hO3.size
    clear hR3 hO3 p1
    go_wp2_with fail
    have Ht := Sec.mk (heap_alloc_new w3 (.cells #[.int .i64 r1, .int .i64 10, .int .i64 4, .int .i64 2, .int .i64 15, .int .i64 3] 3))
    refine (pick_c w0 _ g (P + 1 + 1) 6 (R3.out.below (belA (Below.refl _ _) _)) (by omega)).mono ?_
    rintro e w4 ⟨r2, rfl, ⟨s0, s1, _⟩, hR4, hO4⟩
    have s2 := s1 (by omega)
    obtain ⟨v, hv, ct⟩ := tab_int _ [r1, 10, 4, 2, 15, 3] rfl Ht.out (by omega) hO4 s0 s2
    have hv2 : 0 ≤ v ∧ v < 18 := by simp at hv; omega
    obtain ⟨m, rfl⟩ : ∃ m : Nat, v = (m : Int) := ⟨v.toNat, by omega⟩
    have hq4 := hO4.blk (show (w3.alloc (.cells #[.int .i64 r1, .int .i64 10, .int .i64 4, .int .i64 2, .int .i64 15, .int .i64 3] 3)).heap[w1.heap.size]? = some (.cells cs 9 (0, 0)) from (Below.heap_alloc _ _ _ (Array.getElem?_eq_some_iff.1 Q3.out).1).trans Q3.out) (by omega)
    obtain ⟨s, hcm, hss⟩ := short_at HCS.out (i := m) (by rw [HCZ.out]; omega)
    have cm : w4.cell? ⟨w1.heap.size, m, none⟩ = some (.string s) := by rw [cell_of_row w4 _ _ _ _ _ hq4]; exact hcm
    have m0 : (0 : Int) ≤ (m : Int) := by omega
    have m1 : (m : Int) < 18 := by omega
    have R4 := Sec.mk hR4
    have O4 := Sec.mk (((O3.out).alloc _).trans hO4)
    have z4 := O4.out.size
    clear hR4 hO4 s1 hv hq4 hcm
    go_wp2_with fail
    refine (TrmRead_c s (by omega) w4).mono ?_
    rintro e w5 ⟨u, t, bq, rfl, hl, hT, hB⟩
    have T5 := Sec.mk hT
    have R5 := Sec.mk (R4.out.below hB)
    have O5 := Sec.mk (O4.out.trans (Only.of_below hB))
    clear hT hB
    go_wp2
    go_ret
    exact ⟨_, t, rfl, by omega, Kd.R_mono T5.out (fun k h _ => by omega), R5.out.mono (by omega), O5.out⟩
end
section
open Go.RowKit
set_option linter.unusedVariables false
set_option maxRecDepth 100000
theorem alloc_get (w : World) (o : Obj) (k : Nat) : (w.alloc o).heap[k]? = if k = w.heap.size then some o else w.heap[k]? := by
  by_cases h : k = w.heap.size
  · rw [if_pos h, h]; exact heap_alloc_new w o
  · rw [if_neg h]
    by_cases h2 : k < w.heap.size
    · exact Below.heap_alloc _ _ _ h2
    · rw [Array.getElem?_eq_none (by simp; omega), Array.getElem?_eq_none (by omega)]
theorem R_lit {w : World} {S : Nat → Prop} {b n : Nat} {t : Term} (hb : w.heap[b]? = some (.cells (t.flatMap cellC).toArray 54 (0, 0))) (hS : S b) (hn : n = t.length) (hl : t.length ≤ 1000) (hsz : ∀ x ∈ t, x.name.size ≤ 1073741824) : kCell.R w S (.slice (some ⟨b, 0, none⟩) n n) t := by
  subst hn
  refine ⟨by omega, .inr ⟨b, t.length, (t.flatMap cellC).toArray, rfl, hb, hS, Nat.le_refl _, by simp [maxLen]; omega, by rw [List.size_toArray, flat_len]; rfl, kCell_Os.2 ⟨?_, hsz⟩⟩⟩
  show (t.flatMap cellC).take (t.length * 3) = _
  rw [List.take_of_length_le (by rw [flat_len]; exact Nat.le_refl _)]
def noneT (i : Nat) : Term := match i with
  | 0 => []
  | 1 => [⟨1, 0, ⟨#[]⟩⟩]
  | 2 => [⟨2, 3, ⟨#[]⟩⟩]
  | 3 => [⟨3, 1, ⟨#[101]⟩⟩, ⟨1, 1, ⟨#[]⟩⟩]
  | _ => [⟨3, 1, ⟨#[101]⟩⟩]
set_option maxHeartbeats 1000000 in
theorem topOr_c (w0 w : World) (g P : Nat) (n : Int) (hR : Rd w0 w g P) (hP : P ≤ 999970000) (hn : 0 ≤ n) (hn2 : n ≤ 1000000000) :
    Calls Tryd.prog 25 #[.pointer (some ⟨g, 0, none⟩), .int .i64 n] w (TopOut w0 w g (P + 7000)) := by
  have hlt := hR.lt
  have H0 := Sec.mk hR
  clear hR
  go_enter Tryd.func25, Tryd.ntmps25
  go_wp2_with fail
  refine (odd_c w0 w g P n H0.out (by omega) hn hn2).mono ?_
  rintro e w1 ⟨bb, rfl, hR1, hO1⟩
  have R1 := Sec.mk hR1
  have O1 := Sec.mk hO1
  have z1 := hO1.size
  clear hR1 hO1
  cases bb with
  | false =>
    go_wp2_with fail
    refine (top_c w0 w1 g (P + 1) R1.out (by omega)).mono ?_
    rintro e w2 ⟨u, t, rfl, hl, hT, hR2, hO2⟩
    have R2 := Sec.mk hR2
    have O2 := Sec.mk (O1.out.trans hO2)
    have T2 := Sec.mk hT
    clear hR2 hO2 hT
    go_wp2
    go_ret
    exact ⟨_, t, rfl, hl, Kd.R_mono T2.out (fun k h _ => by omega), R2.out.mono (by omega), O2.out⟩
  | true =>
    go_wp2_with fail
    obtain ⟨W, hW⟩ : ∃ W, ((((((w1.alloc (.cells #[] 54)).alloc (.cells #[.int .i64 1, .int .i64 0, .string ⟨#[]⟩] 54)).alloc (.cells #[.int .i64 2, .int .i64 3, .string ⟨#[]⟩] 54)).alloc (.cells #[.int .i64 3, .int .i64 1, .string ⟨#[101]⟩, .int .i64 1, .int .i64 1, .string ⟨#[]⟩] 54)).alloc (.cells #[.int .i64 3, .int .i64 1, .string ⟨#[101]⟩] 54)).alloc (.cells #[.slice (some ⟨w1.heap.size, 0, none⟩) 0 0, .slice (some ⟨w1.heap.size + 1, 0, none⟩) 1 1, .slice (some ⟨w1.heap.size + 1 + 1, 0, none⟩) 1 1, .slice (some ⟨w1.heap.size + 1 + 1 + 1, 0, none⟩) 2 2, .slice (some ⟨w1.heap.size + 1 + 1 + 1 + 1, 0, none⟩) 1 1] 23)) = W := ⟨_, rfl⟩
    have hb0 : W.heap[w1.heap.size]? = some (.cells #[] 54 (0, 0)) := by
      have h := (box_cells (w' := ((((((w1.alloc (.cells #[] 54)).alloc (.cells #[.int .i64 1, .int .i64 0, .string ⟨#[]⟩] 54)).alloc (.cells #[.int .i64 2, .int .i64 3, .string ⟨#[]⟩] 54)).alloc (.cells #[.int .i64 3, .int .i64 1, .string ⟨#[101]⟩, .int .i64 1, .int .i64 1, .string ⟨#[]⟩] 54)).alloc (.cells #[.int .i64 3, .int .i64 1, .string ⟨#[101]⟩] 54)).alloc (.cells #[.slice (some ⟨w1.heap.size, 0, none⟩) 0 0, .slice (some ⟨w1.heap.size + 1, 0, none⟩) 1 1, .slice (some ⟨w1.heap.size + 1 + 1, 0, none⟩) 1 1, .slice (some ⟨w1.heap.size + 1 + 1 + 1, 0, none⟩) 2 2, .slice (some ⟨w1.heap.size + 1 + 1 + 1 + 1, 0, none⟩) 1 1] 23))) (belA (belA (belA (belA (belA (Below.refl _ _) _) _) _) _) _) (heap_alloc_new w1 (.cells #[] 54))).1
      rw [← hW]; exact h
    have hb1 : W.heap[w1.heap.size + 1]? = some (.cells #[.int .i64 1, .int .i64 0, .string ⟨#[]⟩] 54 (0, 0)) := by
      have h := (box_cells (w' := ((((((w1.alloc (.cells #[] 54)).alloc (.cells #[.int .i64 1, .int .i64 0, .string ⟨#[]⟩] 54)).alloc (.cells #[.int .i64 2, .int .i64 3, .string ⟨#[]⟩] 54)).alloc (.cells #[.int .i64 3, .int .i64 1, .string ⟨#[101]⟩, .int .i64 1, .int .i64 1, .string ⟨#[]⟩] 54)).alloc (.cells #[.int .i64 3, .int .i64 1, .string ⟨#[101]⟩] 54)).alloc (.cells #[.slice (some ⟨w1.heap.size, 0, none⟩) 0 0, .slice (some ⟨w1.heap.size + 1, 0, none⟩) 1 1, .slice (some ⟨w1.heap.size + 1 + 1, 0, none⟩) 1 1, .slice (some ⟨w1.heap.size + 1 + 1 + 1, 0, none⟩) 2 2, .slice (some ⟨w1.heap.size + 1 + 1 + 1 + 1, 0, none⟩) 1 1] 23))) (belA (belA (belA (belA (Below.refl _ _) _) _) _) _) (heap_alloc_new (w1.alloc (.cells #[] 54)) (.cells #[.int .i64 1, .int .i64 0, .string ⟨#[]⟩] 54))).1
      rw [show (w1.alloc (.cells #[] 54)).heap.size = w1.heap.size + 1 by simp] at h
      rw [← hW]; exact h
    have hb2 : W.heap[w1.heap.size + 1 + 1]? = some (.cells #[.int .i64 2, .int .i64 3, .string ⟨#[]⟩] 54 (0, 0)) := by
      have h := (box_cells (w' := ((((((w1.alloc (.cells #[] 54)).alloc (.cells #[.int .i64 1, .int .i64 0, .string ⟨#[]⟩] 54)).alloc (.cells #[.int .i64 2, .int .i64 3, .string ⟨#[]⟩] 54)).alloc (.cells #[.int .i64 3, .int .i64 1, .string ⟨#[101]⟩, .int .i64 1, .int .i64 1, .string ⟨#[]⟩] 54)).alloc (.cells #[.int .i64 3, .int .i64 1, .string ⟨#[101]⟩] 54)).alloc (.cells #[.slice (some ⟨w1.heap.size, 0, none⟩) 0 0, .slice (some ⟨w1.heap.size + 1, 0, none⟩) 1 1, .slice (some ⟨w1.heap.size + 1 + 1, 0, none⟩) 1 1, .slice (some ⟨w1.heap.size + 1 + 1 + 1, 0, none⟩) 2 2, .slice (some ⟨w1.heap.size + 1 + 1 + 1 + 1, 0, none⟩) 1 1] 23))) (belA (belA (belA (Below.refl _ _) _) _) _) (heap_alloc_new ((w1.alloc (.cells #[] 54)).alloc (.cells #[.int .i64 1, .int .i64 0, .string ⟨#[]⟩] 54)) (.cells #[.int .i64 2, .int .i64 3, .string ⟨#[]⟩] 54))).1
      rw [show ((w1.alloc (.cells #[] 54)).alloc (.cells #[.int .i64 1, .int .i64 0, .string ⟨#[]⟩] 54)).heap.size = w1.heap.size + 1 + 1 by simp] at h
      rw [← hW]; exact h
    have hb3 : W.heap[w1.heap.size + 1 + 1 + 1]? = some (.cells #[.int .i64 3, .int .i64 1, .string ⟨#[101]⟩, .int .i64 1, .int .i64 1, .string ⟨#[]⟩] 54 (0, 0)) := by
      have h := (box_cells (w' := ((((((w1.alloc (.cells #[] 54)).alloc (.cells #[.int .i64 1, .int .i64 0, .string ⟨#[]⟩] 54)).alloc (.cells #[.int .i64 2, .int .i64 3, .string ⟨#[]⟩] 54)).alloc (.cells #[.int .i64 3, .int .i64 1, .string ⟨#[101]⟩, .int .i64 1, .int .i64 1, .string ⟨#[]⟩] 54)).alloc (.cells #[.int .i64 3, .int .i64 1, .string ⟨#[101]⟩] 54)).alloc (.cells #[.slice (some ⟨w1.heap.size, 0, none⟩) 0 0, .slice (some ⟨w1.heap.size + 1, 0, none⟩) 1 1, .slice (some ⟨w1.heap.size + 1 + 1, 0, none⟩) 1 1, .slice (some ⟨w1.heap.size + 1 + 1 + 1, 0, none⟩) 2 2, .slice (some ⟨w1.heap.size + 1 + 1 + 1 + 1, 0, none⟩) 1 1] 23))) (belA (belA (Below.refl _ _) _) _) (heap_alloc_new (((w1.alloc (.cells #[] 54)).alloc (.cells #[.int .i64 1, .int .i64 0, .string ⟨#[]⟩] 54)).alloc (.cells #[.int .i64 2, .int .i64 3, .string ⟨#[]⟩] 54)) (.cells #[.int .i64 3, .int .i64 1, .string ⟨#[101]⟩, .int .i64 1, .int .i64 1, .string ⟨#[]⟩] 54))).1
      rw [show (((w1.alloc (.cells #[] 54)).alloc (.cells #[.int .i64 1, .int .i64 0, .string ⟨#[]⟩] 54)).alloc (.cells #[.int .i64 2, .int .i64 3, .string ⟨#[]⟩] 54)).heap.size = w1.heap.size + 1 + 1 + 1 by simp] at h
      rw [← hW]; exact h
    have hb4 : W.heap[w1.heap.size + 1 + 1 + 1 + 1]? = some (.cells #[.int .i64 3, .int .i64 1, .string ⟨#[101]⟩] 54 (0, 0)) := by
      have h := (box_cells (w' := ((((((w1.alloc (.cells #[] 54)).alloc (.cells #[.int .i64 1, .int .i64 0, .string ⟨#[]⟩] 54)).alloc (.cells #[.int .i64 2, .int .i64 3, .string ⟨#[]⟩] 54)).alloc (.cells #[.int .i64 3, .int .i64 1, .string ⟨#[101]⟩, .int .i64 1, .int .i64 1, .string ⟨#[]⟩] 54)).alloc (.cells #[.int .i64 3, .int .i64 1, .string ⟨#[101]⟩] 54)).alloc (.cells #[.slice (some ⟨w1.heap.size, 0, none⟩) 0 0, .slice (some ⟨w1.heap.size + 1, 0, none⟩) 1 1, .slice (some ⟨w1.heap.size + 1 + 1, 0, none⟩) 1 1, .slice (some ⟨w1.heap.size + 1 + 1 + 1, 0, none⟩) 2 2, .slice (some ⟨w1.heap.size + 1 + 1 + 1 + 1, 0, none⟩) 1 1] 23))) (belA (Below.refl _ _) _) (heap_alloc_new ((((w1.alloc (.cells #[] 54)).alloc (.cells #[.int .i64 1, .int .i64 0, .string ⟨#[]⟩] 54)).alloc (.cells #[.int .i64 2, .int .i64 3, .string ⟨#[]⟩] 54)).alloc (.cells #[.int .i64 3, .int .i64 1, .string ⟨#[101]⟩, .int .i64 1, .int .i64 1, .string ⟨#[]⟩] 54)) (.cells #[.int .i64 3, .int .i64 1, .string ⟨#[101]⟩] 54))).1
      rw [show ((((w1.alloc (.cells #[] 54)).alloc (.cells #[.int .i64 1, .int .i64 0, .string ⟨#[]⟩] 54)).alloc (.cells #[.int .i64 2, .int .i64 3, .string ⟨#[]⟩] 54)).alloc (.cells #[.int .i64 3, .int .i64 1, .string ⟨#[101]⟩, .int .i64 1, .int .i64 1, .string ⟨#[]⟩] 54)).heap.size = w1.heap.size + 1 + 1 + 1 + 1 by simp] at h
      rw [← hW]; exact h
    have hb5 : W.heap[w1.heap.size + 1 + 1 + 1 + 1 + 1]? = some (.cells #[.slice (some ⟨w1.heap.size, 0, none⟩) 0 0, .slice (some ⟨w1.heap.size + 1, 0, none⟩) 1 1, .slice (some ⟨w1.heap.size + 1 + 1, 0, none⟩) 1 1, .slice (some ⟨w1.heap.size + 1 + 1 + 1, 0, none⟩) 2 2, .slice (some ⟨w1.heap.size + 1 + 1 + 1 + 1, 0, none⟩) 1 1] 23 (0, 0)) := by
      have h := (box_cells (w' := ((((((w1.alloc (.cells #[] 54)).alloc (.cells #[.int .i64 1, .int .i64 0, .string ⟨#[]⟩] 54)).alloc (.cells #[.int .i64 2, .int .i64 3, .string ⟨#[]⟩] 54)).alloc (.cells #[.int .i64 3, .int .i64 1, .string ⟨#[101]⟩, .int .i64 1, .int .i64 1, .string ⟨#[]⟩] 54)).alloc (.cells #[.int .i64 3, .int .i64 1, .string ⟨#[101]⟩] 54)).alloc (.cells #[.slice (some ⟨w1.heap.size, 0, none⟩) 0 0, .slice (some ⟨w1.heap.size + 1, 0, none⟩) 1 1, .slice (some ⟨w1.heap.size + 1 + 1, 0, none⟩) 1 1, .slice (some ⟨w1.heap.size + 1 + 1 + 1, 0, none⟩) 2 2, .slice (some ⟨w1.heap.size + 1 + 1 + 1 + 1, 0, none⟩) 1 1] 23))) (Below.refl _ _) (heap_alloc_new (((((w1.alloc (.cells #[] 54)).alloc (.cells #[.int .i64 1, .int .i64 0, .string ⟨#[]⟩] 54)).alloc (.cells #[.int .i64 2, .int .i64 3, .string ⟨#[]⟩] 54)).alloc (.cells #[.int .i64 3, .int .i64 1, .string ⟨#[101]⟩, .int .i64 1, .int .i64 1, .string ⟨#[]⟩] 54)).alloc (.cells #[.int .i64 3, .int .i64 1, .string ⟨#[101]⟩] 54)) (.cells #[.slice (some ⟨w1.heap.size, 0, none⟩) 0 0, .slice (some ⟨w1.heap.size + 1, 0, none⟩) 1 1, .slice (some ⟨w1.heap.size + 1 + 1, 0, none⟩) 1 1, .slice (some ⟨w1.heap.size + 1 + 1 + 1, 0, none⟩) 2 2, .slice (some ⟨w1.heap.size + 1 + 1 + 1 + 1, 0, none⟩) 1 1] 23))).1
      rw [show (((((w1.alloc (.cells #[] 54)).alloc (.cells #[.int .i64 1, .int .i64 0, .string ⟨#[]⟩] 54)).alloc (.cells #[.int .i64 2, .int .i64 3, .string ⟨#[]⟩] 54)).alloc (.cells #[.int .i64 3, .int .i64 1, .string ⟨#[101]⟩, .int .i64 1, .int .i64 1, .string ⟨#[]⟩] 54)).alloc (.cells #[.int .i64 3, .int .i64 1, .string ⟨#[101]⟩] 54)).heap.size = w1.heap.size + 1 + 1 + 1 + 1 + 1 by simp] at h
      rw [← hW]; exact h
    have hWB : Below w1.heap.size w1 W := by rw [← hW]; exact belA (belA (belA (belA (belA (belA (Below.refl _ _) _) _) _) _) _) _
    have hlt2 : g < w1.heap.size := R1.out.lt
    rw [hW]
    refine (pick_c w0 W g (P + 1) 5 (R1.out.below hWB) (by omega)).mono ?_
    rintro e w2 ⟨r, rfl, ⟨p0, p1, _⟩, hR2, hO2⟩
    have p2 := p1 (by omega)
    have R2 := Sec.mk hR2
    have O2 := Sec.mk ((O1.out.trans (Only.of_below hWB)).trans hO2)
    have r0 : Sec (kCell.R w2 (fun k => w.heap.size ≤ k) (.slice (some ⟨w1.heap.size, 0, none⟩) 0 0) (noneT 0)) := ⟨R_lit (hO2.blk hb0 (by omega)) (by omega) rfl (by decide) (by decide)⟩
    have r1 : Sec (kCell.R w2 (fun k => w.heap.size ≤ k) (.slice (some ⟨w1.heap.size + 1, 0, none⟩) 1 1) (noneT 1)) := ⟨R_lit (hO2.blk hb1 (by omega)) (by omega) rfl (by decide) (by decide)⟩
    have r2 : Sec (kCell.R w2 (fun k => w.heap.size ≤ k) (.slice (some ⟨w1.heap.size + 1 + 1, 0, none⟩) 1 1) (noneT 2)) := ⟨R_lit (hO2.blk hb2 (by omega)) (by omega) rfl (by decide) (by decide)⟩
    have r3 : Sec (kCell.R w2 (fun k => w.heap.size ≤ k) (.slice (some ⟨w1.heap.size + 1 + 1 + 1, 0, none⟩) 2 2) (noneT 3)) := ⟨R_lit (hO2.blk hb3 (by omega)) (by omega) rfl (by decide) (by decide)⟩
    have r4 : Sec (kCell.R w2 (fun k => w.heap.size ≤ k) (.slice (some ⟨w1.heap.size + 1 + 1 + 1 + 1, 0, none⟩) 1 1) (noneT 4)) := ⟨R_lit (hO2.blk hb4 (by omega)) (by omega) rfl (by decide) (by decide)⟩
    have X := (box_at (hO2.blk hb5 (by omega))).2.1
    have c0 : w2.cell? ⟨w1.heap.size + 1 + 1 + 1 + 1 + 1, 0, none⟩ = some (.slice (some ⟨w1.heap.size, 0, none⟩) 0 0) := X 0 _ rfl
    have c1 : w2.cell? ⟨w1.heap.size + 1 + 1 + 1 + 1 + 1, 1, none⟩ = some (.slice (some ⟨w1.heap.size + 1, 0, none⟩) 1 1) := X 1 _ rfl
    have c2 : w2.cell? ⟨w1.heap.size + 1 + 1 + 1 + 1 + 1, 2, none⟩ = some (.slice (some ⟨w1.heap.size + 1 + 1, 0, none⟩) 1 1) := X 2 _ rfl
    have c3 : w2.cell? ⟨w1.heap.size + 1 + 1 + 1 + 1 + 1, 3, none⟩ = some (.slice (some ⟨w1.heap.size + 1 + 1 + 1, 0, none⟩) 2 2) := X 3 _ rfl
    have c4 : w2.cell? ⟨w1.heap.size + 1 + 1 + 1 + 1 + 1, 4, none⟩ = some (.slice (some ⟨w1.heap.size + 1 + 1 + 1 + 1, 0, none⟩) 1 1) := X 4 _ rfl
    clear hW hb0 hb1 hb2 hb3 hb4 hb5 hWB hR2 hO2 X p1
    rcases (show r = 0 ∨ r = 1 ∨ r = 2 ∨ r = 3 ∨ r = 4 by omega) with rfl | rfl | rfl | rfl | rfl
    · go_wp2
      go_ret
      exact ⟨_, noneT 0, rfl, by decide, r0.out, R2.out.mono (by omega), O2.out⟩
    · go_wp2
      go_ret
      exact ⟨_, noneT 1, rfl, by decide, r1.out, R2.out.mono (by omega), O2.out⟩
    · go_wp2
      go_ret
      exact ⟨_, noneT 2, rfl, by decide, r2.out, R2.out.mono (by omega), O2.out⟩
    · go_wp2
      go_ret
      exact ⟨_, noneT 3, rfl, by decide, r3.out, R2.out.mono (by omega), O2.out⟩
    · go_wp2
      go_ret
      exact ⟨_, noneT 4, rfl, by decide, r4.out, R2.out.mono (by omega), O2.out⟩
theorem DrawTrlNew_c (w : World) (v : Value) (code : List UInt8) (ok : Nat → Prop) (hV : kByte.V w ok v code) :
    Calls Tryd.prog 6 #[v] w fun e w' => ∃ (u : Value) (t : Term), e = .returned u ∧ kCell.R w' (fun k => w.heap.size ≤ k) u t ∧ Below w.heap.size w w' := by
  have H0 := Sec.mk (open_c w v code ok hV)
  obtain ⟨A, c, rfl, _⟩ := hV
  go_enter Tryd.func6, Tryd.ntmps6
  go_wp2_with fail
  refine H0.out.mono ?_
  rintro e w1 ⟨g, rfl, hR1, hB1⟩
  have R1 := Sec.mk hR1
  have z1 := hB1.size
  clear hR1 hB1
  go_wp2_with fail
  refine (topOr_c w w1 g 0 4 R1.out (by omega) (by omega) (by omega)).mono ?_
  rintro e w2 ⟨u2, t, rfl, hl2, hT2, hRd2, hO2⟩
  have T2 := Sec.mk hT2
  have R2 := Sec.mk hRd2.bel
  clear hT2 hl2 hRd2 hO2
  go_wp2
  go_ret
  exact ⟨_, _, rfl, Kd.R_mono T2.out (fun k h _ => by omega), R2.out⟩
end
end Go.Proofs.YtenigopoknajgaaDoor
