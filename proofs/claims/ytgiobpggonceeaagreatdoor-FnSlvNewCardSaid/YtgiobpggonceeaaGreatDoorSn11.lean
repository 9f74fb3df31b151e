/- Contracts: bytes. The reader opened; a number, a term in bytes; and what goes with it. -/
import Derived.Test.YtgiobpggonceeaaGreatDoorSn1
import Derived.Test.YtgiobpggonceeaaGreatDoorSn2
import Derived.Test.YtgiobpggonceeaaGreatDoorSn5
import Derived.Test.YtgiobpggonceeaaGreatDoorSn6
import Derived.Test.YtgiobpggonceeaaGreatDoorSn9
import Derived.Test.YtgiobpggonceeaaGreatDoorSn10
namespace Go.Proofs.YtgiobpggonceeaaGreatDoor
section
open Go.RowKit
set_option linter.unusedVariables false
set_option maxRecDepth 100000

theorem open_c (w : World) (v : Value) (bs : List UInt8) (ok : Nat → Prop) (hV : kByte.V w ok v bs) :
    Calls Tryz.prog 45 #[v] w fun e w' => ∃ g, e = .returned (.pointer (some ⟨g, 0, none⟩)) ∧ Rd w w' g 0 ∧ Below w.heap.size w w' := by
  obtain ⟨A, c, rfl, h1, h2, h3, hC, _⟩ := hV
  have HC := Sec.mk (Kd.C_move (ok1 := fun _ => True) (Keeps.mono fun _ _ _ => trivial) hC (by decide))
  have hu := Tryz.underlying168
  clear hC
  by_cases hl : bs.length > 2000
  · have h1' : ¬ 2000 > c := by omega
    go_enter Tryz.func45, Tryz.ntmps45
    go_wp2
    go_ret
    refine ⟨_, rfl, ⟨⟨A, c, 0, bs.take 2000, ?_, Nat.le_refl _, by rw [List.length_take]; omega, Kd.C_take HC.out 2000⟩, belA (Below.refl _ _) _, Nat.le_refl _⟩, belA (Below.refl _ _) _⟩
    rw [List.length_take, Nat.min_eq_left (by omega)]
    exact heap_alloc_new w _
  · go_enter Tryz.func45, Tryz.ntmps45
    go_wp2
    go_ret
    exact ⟨_, rfl, ⟨⟨A, c, 0, bs, heap_alloc_new w _, Nat.le_refl _, by omega, HC.out⟩, belA (Below.refl _ _) _, Nat.le_refl _⟩, belA (Below.refl _ _) _⟩

def num3 (n : Int) : List UInt8 := [u8 ((n + 99999 + 1) / 65536), u8 ((n + 99999 + 1) / 256 % 256), u8 ((n + 99999 + 1) % 256)]
end
section
section
open Go.RowKit
set_option linter.unusedVariables false
set_option maxRecDepth 100000
def shortStr (n : Nat) : Value → Bool | .string s => decide (s.size ≤ n) | _ => false
theorem short_at {cs : Array Value} {n i : Nat} (h : cs.all (shortStr n) = true) (hi : i < cs.size) : ∃ s : ByteArray, cs[i]? = some (.string s) ∧ s.size ≤ n := by
  have h1 := Array.all_eq_true.1 h i hi
  rw [Array.getElem?_eq_getElem hi]
  revert h1
  generalize cs[i] = v
  cases v <;> intro h1 <;> simp [shortStr] at h1
  exact ⟨_, rfl, h1⟩
theorem questions_c (w : World) : Calls Tryz.prog 173 #[] w fun e w' => ∃ cs : Array Value, e = .returned (.slice (some ⟨w.heap.size, 0, none⟩) 18 18) ∧ cs.size = 18 ∧ cs.all (shortStr 100) = true ∧ w' = w.alloc (.cells cs 9) := by
  go_enter Tryz.func173, Tryz.ntmps173
  go_wp2
  go_ret
  exact ⟨_, rfl, by rfl, by kernel_rfl, rfl⟩
def TopOut (w0 w : World) (g P : Nat) (e : Ending) (w' : World) : Prop := ∃ (u : Value) (t : Term), e = .returned u ∧ t.length ≤ 20000 ∧ kCell.R w' (fun k => w.heap.size ≤ k) u t ∧ Rd w0 w' g P ∧ Only g w w'
set_option maxHeartbeats 1000000 in
theorem top_c (w0 w : World) (g P : Nat) (hR : Rd w0 w g P) (hP : P ≤ 999980000) :
    Calls Tryz.prog 114 #[.pointer (some ⟨g, 0, none⟩)] w (TopOut w0 w g (P + 6000)) := by
  have hlt := hR.lt
  have H0 := Sec.mk hR
  clear hR
  go_enter Tryz.func114, Tryz.ntmps114
  go_wp2_with fail
  refine (pick_c w0 w g P 5 H0.out (by omega)).mono ?_
  rintro e w1 ⟨r, rfl, -, hR1, hO1⟩
  have R1 := Sec.mk hR1
  have O1 := Sec.mk hO1
  have z1 := hO1.size
  clear hR1 hO1
  by_cases hr : r = 0
  · have hr' : (r == 0) = true := beq_iff_eq.2 hr
    clear hr
    go_wp2_with fail
    refine (head_c w0 w1 g (P + 1) R1.out (by omega)).mono ?_
    rintro e w2 ⟨u, t, rfl, hl, hT, hR2, hO2⟩
    have R2 := Sec.mk hR2
    have O2 := Sec.mk (O1.out.trans hO2)
    have z2 := hO2.size
    have T2 := Sec.mk hT
    clear hR2 hO2 hT
    go_wp2_with fail
    refine (TrmCanon_c u t _ w2 (Kd.R_V T2.out)).mono ?_
    rintro e w3 ⟨u3, rfl, hT3, hb3⟩
    have T3 := Sec.mk hT3
    have R3 := Sec.mk (R2.out.below hb3)
    have O3 := Sec.mk (O2.out.trans (Only.of_below hb3))
    clear hT3 hb3
    go_wp2
    go_ret
    exact ⟨_, canon t, rfl, by simp [canon]; omega, Kd.R_mono T3.out (fun k h _ => by omega), R3.out.mono (by omega), O3.out⟩
  · have hr' : (r == 0) = false := beq_eq_false_iff_ne.2 hr
    clear hr
    go_wp2_with fail
    refine (questions_c w1).mono ?_
    rintro e w2 ⟨cs, rfl, hcz, hcs, hw2⟩
    have Q2 : Sec (w2.heap[w1.heap.size]? = some (.cells cs 9 (0, 0))) := ⟨by rw [hw2]; exact heap_alloc_new w1 _⟩
    have hB2 : Below w1.heap.size w1 w2 := by rw [hw2]; exact belA (Below.refl _ _) _
    have R2 := Sec.mk (R1.out.below hB2)
    have O2 := Sec.mk (O1.out.trans (Only.of_below hB2))
    have z2 := hB2.size
    have HCS := Sec.mk hcs
    have HCZ := Sec.mk hcz
    clear hw2 hB2 hcs hcz
    go_wp2_with fail
    refine (pick_c w0 w2 g (P + 1) 18 R2.out (by omega)).mono ?_
    rintro e w3 ⟨r1, rfl, ⟨p0, p1, _⟩, hR3, hO3⟩
    have p2 := p1 (by omega)
    have R3 := Sec.mk hR3
    have O3 := Sec.mk (O2.out.trans hO3)
    have Q3 := Sec.mk (hO3.blk Q2.out (by omega))
    have z3 := hO3.size
    clear hR3 hO3 p1
    go_wp2_with fail
    have Ht := Sec.mk (heap_alloc_new w3 (.cells #[.int .i64 r1, .int .i64 10, .int .i64 4, .int .i64 2, .int .i64 15, .int .i64 3] 3))
    refine (pick_c w0 _ g (P + 1 + 1) 6 (R3.out.below (belA (Below.refl _ _) _)) (by omega)).mono ?_
    rintro e w4 ⟨r2, rfl, ⟨s0, s1, _⟩, hR4, hO4⟩
    have s2 := s1 (by omega)
    obtain ⟨v, hv, ct⟩ := tab_int _ [r1, 10, 4, 2, 15, 3] rfl Ht.out (by omega) hO4 s0 s2
    have hv2 : 0 ≤ v ∧ v < 18 := by simp at hv; omega
    obtain ⟨m, rfl⟩ : ∃ m : Nat, v = (m : Int) := ⟨v.toNat, by omega⟩
    have hq4 := hO4.blk (show (w3.alloc (.cells #[.int .i64 r1, .int .i64 10, .int .i64 4, .int .i64 2, .int .i64 15, .int .i64 3] 3)).heap[w1.heap.size]? = some (.cells cs 9 (0, 0)) from (Below.heap_alloc _ _ _ (Array.getElem?_eq_some_iff.1 Q3.out).1).trans Q3.out) (by omega)
    obtain ⟨s, hcm, hss⟩ := short_at HCS.out (i := m) (by rw [HCZ.out]; omega)
    have cm : w4.cell? ⟨w1.heap.size, m, none⟩ = some (.string s) := by rw [cell_of_row w4 _ _ _ _ _ hq4]; exact hcm
    have m0 : (0 : Int) ≤ (m : Int) := by omega
    have m1 : (m : Int) < 18 := by omega
    have R4 := Sec.mk hR4
    have O4 := Sec.mk (((O3.out).alloc _).trans hO4)
    have z4 := O4.out.size
    clear hR4 hO4 s1 hv hq4 hcm
    go_wp2_with fail
    refine (TrmRead_c s (by omega) w4).mono ?_
    rintro e w5 ⟨u, t, bq, rfl, hl, hT, hB⟩
    have T5 := Sec.mk hT
    have R5 := Sec.mk (R4.out.below hB)
    have O5 := Sec.mk (O4.out.trans (Only.of_below hB))
    clear hT hB
    go_wp2
    go_ret
    exact ⟨_, t, rfl, by omega, Kd.R_mono T5.out (fun k h _ => by omega), R5.out.mono (by omega), O5.out⟩
end
section
open Go.RowKit
set_option linter.unusedVariables false
set_option maxRecDepth 100000
theorem R_lit {w : World} {S : Nat → Prop} {b n : Nat} {t : Term} (hb : w.heap[b]? = some (.cells (t.flatMap cellC).toArray 39 (0, 0))) (hS : S b) (hn : n = t.length) (hl : t.length ≤ 1000) (hsz : ∀ x ∈ t, x.name.size ≤ 1073741824) : kCell.R w S (.slice (some ⟨b, 0, none⟩) n n) t := by
  subst hn
  refine ⟨by omega, .inr ⟨b, t.length, (t.flatMap cellC).toArray, rfl, hb, hS, Nat.le_refl _, by simp [maxLen]; omega, by rw [List.size_toArray, flat_len]; rfl, kCell_Os.2 ⟨?_, hsz⟩⟩⟩
  show (t.flatMap cellC).take (t.length * 3) = _
  rw [List.take_of_length_le (by rw [flat_len]; exact Nat.le_refl _)]
def noneT (i : Nat) : Term := match i with
  | 0 => []
  | 1 => [⟨1, 0, ⟨#[]⟩⟩]
  | 2 => [⟨2, 3, ⟨#[]⟩⟩]
  | 3 => [⟨3, 1, ⟨#[101]⟩⟩, ⟨1, 1, ⟨#[]⟩⟩]
  | _ => [⟨3, 1, ⟨#[101]⟩⟩]
set_option maxHeartbeats 1000000 in
theorem topOr_c (w0 w : World) (g P : Nat) (n : Int) (hR : Rd w0 w g P) (hP : P ≤ 999970000) (hn : 0 ≤ n) (hn2 : n ≤ 1000000000) :
    Calls Tryz.prog 44 #[.pointer (some ⟨g, 0, none⟩), .int .i64 n] w (TopOut w0 w g (P + 7000)) := by
  have hlt := hR.lt
  have H0 := Sec.mk hR
  clear hR
  go_enter Tryz.func44, Tryz.ntmps44
  go_wp2_with fail
  refine (odd_c w0 w g P n H0.out (by omega) hn hn2).mono ?_
  rintro e w1 ⟨bb, rfl, hR1, hO1⟩
  have R1 := Sec.mk hR1
  have O1 := Sec.mk hO1
  have z1 := hO1.size
  clear hR1 hO1
  cases bb with
  | false =>
    go_wp2_with fail
    refine (top_c w0 w1 g (P + 1) R1.out (by omega)).mono ?_
    rintro e w2 ⟨u, t, rfl, hl, hT, hR2, hO2⟩
    have R2 := Sec.mk hR2
    have O2 := Sec.mk (O1.out.trans hO2)
    have T2 := Sec.mk hT
    clear hR2 hO2 hT
    go_wp2
    go_ret
    exact ⟨_, t, rfl, hl, Kd.R_mono T2.out (fun k h _ => by omega), R2.out.mono (by omega), O2.out⟩
  | true =>
    go_wp2_with fail
    obtain ⟨W, hW⟩ : ∃ W, ((((((w1.alloc (.cells #[] 39)).alloc (.cells #[.int .i64 1, .int .i64 0, .string ⟨#[]⟩] 39)).alloc (.cells #[.int .i64 2, .int .i64 3, .string ⟨#[]⟩] 39)).alloc (.cells #[.int .i64 3, .int .i64 1, .string ⟨#[101]⟩, .int .i64 1, .int .i64 1, .string ⟨#[]⟩] 39)).alloc (.cells #[.int .i64 3, .int .i64 1, .string ⟨#[101]⟩] 39)).alloc (.cells #[.slice (some ⟨w1.heap.size, 0, none⟩) 0 0, .slice (some ⟨w1.heap.size + 1, 0, none⟩) 1 1, .slice (some ⟨w1.heap.size + 1 + 1, 0, none⟩) 1 1, .slice (some ⟨w1.heap.size + 1 + 1 + 1, 0, none⟩) 2 2, .slice (some ⟨w1.heap.size + 1 + 1 + 1 + 1, 0, none⟩) 1 1] 23)) = W := ⟨_, rfl⟩
    have hb0 : W.heap[w1.heap.size]? = some (.cells #[] 39 (0, 0)) := by
      have h := (box_cells (w' := ((((((w1.alloc (.cells #[] 39)).alloc (.cells #[.int .i64 1, .int .i64 0, .string ⟨#[]⟩] 39)).alloc (.cells #[.int .i64 2, .int .i64 3, .string ⟨#[]⟩] 39)).alloc (.cells #[.int .i64 3, .int .i64 1, .string ⟨#[101]⟩, .int .i64 1, .int .i64 1, .string ⟨#[]⟩] 39)).alloc (.cells #[.int .i64 3, .int .i64 1, .string ⟨#[101]⟩] 39)).alloc (.cells #[.slice (some ⟨w1.heap.size, 0, none⟩) 0 0, .slice (some ⟨w1.heap.size + 1, 0, none⟩) 1 1, .slice (some ⟨w1.heap.size + 1 + 1, 0, none⟩) 1 1, .slice (some ⟨w1.heap.size + 1 + 1 + 1, 0, none⟩) 2 2, .slice (some ⟨w1.heap.size + 1 + 1 + 1 + 1, 0, none⟩) 1 1] 23))) (belA (belA (belA (belA (belA (Below.refl _ _) _) _) _) _) _) (heap_alloc_new w1 (.cells #[] 39))).1
      rw [← hW]; exact h
    have hb1 : W.heap[w1.heap.size + 1]? = some (.cells #[.int .i64 1, .int .i64 0, .string ⟨#[]⟩] 39 (0, 0)) := by
      have h := (box_cells (w' := ((((((w1.alloc (.cells #[] 39)).alloc (.cells #[.int .i64 1, .int .i64 0, .string ⟨#[]⟩] 39)).alloc (.cells #[.int .i64 2, .int .i64 3, .string ⟨#[]⟩] 39)).alloc (.cells #[.int .i64 3, .int .i64 1, .string ⟨#[101]⟩, .int .i64 1, .int .i64 1, .string ⟨#[]⟩] 39)).alloc (.cells #[.int .i64 3, .int .i64 1, .string ⟨#[101]⟩] 39)).alloc (.cells #[.slice (some ⟨w1.heap.size, 0, none⟩) 0 0, .slice (some ⟨w1.heap.size + 1, 0, none⟩) 1 1, .slice (some ⟨w1.heap.size + 1 + 1, 0, none⟩) 1 1, .slice (some ⟨w1.heap.size + 1 + 1 + 1, 0, none⟩) 2 2, .slice (some ⟨w1.heap.size + 1 + 1 + 1 + 1, 0, none⟩) 1 1] 23))) (belA (belA (belA (belA (Below.refl _ _) _) _) _) _) (heap_alloc_new (w1.alloc (.cells #[] 39)) (.cells #[.int .i64 1, .int .i64 0, .string ⟨#[]⟩] 39))).1
      rw [show (w1.alloc (.cells #[] 39)).heap.size = w1.heap.size + 1 by simp] at h
      rw [← hW]; exact h
    have hb2 : W.heap[w1.heap.size + 1 + 1]? = some (.cells #[.int .i64 2, .int .i64 3, .string ⟨#[]⟩] 39 (0, 0)) := by
      have h := (box_cells (w' := ((((((w1.alloc (.cells #[] 39)).alloc (.cells #[.int .i64 1, .int .i64 0, .string ⟨#[]⟩] 39)).alloc (.cells #[.int .i64 2, .int .i64 3, .string ⟨#[]⟩] 39)).alloc (.cells #[.int .i64 3, .int .i64 1, .string ⟨#[101]⟩, .int .i64 1, .int .i64 1, .string ⟨#[]⟩] 39)).alloc (.cells #[.int .i64 3, .int .i64 1, .string ⟨#[101]⟩] 39)).alloc (.cells #[.slice (some ⟨w1.heap.size, 0, none⟩) 0 0, .slice (some ⟨w1.heap.size + 1, 0, none⟩) 1 1, .slice (some ⟨w1.heap.size + 1 + 1, 0, none⟩) 1 1, .slice (some ⟨w1.heap.size + 1 + 1 + 1, 0, none⟩) 2 2, .slice (some ⟨w1.heap.size + 1 + 1 + 1 + 1, 0, none⟩) 1 1] 23))) (belA (belA (belA (Below.refl _ _) _) _) _) (heap_alloc_new ((w1.alloc (.cells #[] 39)).alloc (.cells #[.int .i64 1, .int .i64 0, .string ⟨#[]⟩] 39)) (.cells #[.int .i64 2, .int .i64 3, .string ⟨#[]⟩] 39))).1
      rw [show ((w1.alloc (.cells #[] 39)).alloc (.cells #[.int .i64 1, .int .i64 0, .string ⟨#[]⟩] 39)).heap.size = w1.heap.size + 1 + 1 by simp] at h
      rw [← hW]; exact h
    have hb3 : W.heap[w1.heap.size + 1 + 1 + 1]? = some (.cells #[.int .i64 3, .int .i64 1, .string ⟨#[101]⟩, .int .i64 1, .int .i64 1, .string ⟨#[]⟩] 39 (0, 0)) := by
      have h := (box_cells (w' := ((((((w1.alloc (.cells #[] 39)).alloc (.cells #[.int .i64 1, .int .i64 0, .string ⟨#[]⟩] 39)).alloc (.cells #[.int .i64 2, .int .i64 3, .string ⟨#[]⟩] 39)).alloc (.cells #[.int .i64 3, .int .i64 1, .string ⟨#[101]⟩, .int .i64 1, .int .i64 1, .string ⟨#[]⟩] 39)).alloc (.cells #[.int .i64 3, .int .i64 1, .string ⟨#[101]⟩] 39)).alloc (.cells #[.slice (some ⟨w1.heap.size, 0, none⟩) 0 0, .slice (some ⟨w1.heap.size + 1, 0, none⟩) 1 1, .slice (some ⟨w1.heap.size + 1 + 1, 0, none⟩) 1 1, .slice (some ⟨w1.heap.size + 1 + 1 + 1, 0, none⟩) 2 2, .slice (some ⟨w1.heap.size + 1 + 1 + 1 + 1, 0, none⟩) 1 1] 23))) (belA (belA (Below.refl _ _) _) _) (heap_alloc_new (((w1.alloc (.cells #[] 39)).alloc (.cells #[.int .i64 1, .int .i64 0, .string ⟨#[]⟩] 39)).alloc (.cells #[.int .i64 2, .int .i64 3, .string ⟨#[]⟩] 39)) (.cells #[.int .i64 3, .int .i64 1, .string ⟨#[101]⟩, .int .i64 1, .int .i64 1, .string ⟨#[]⟩] 39))).1
      rw [show (((w1.alloc (.cells #[] 39)).alloc (.cells #[.int .i64 1, .int .i64 0, .string ⟨#[]⟩] 39)).alloc (.cells #[.int .i64 2, .int .i64 3, .string ⟨#[]⟩] 39)).heap.size = w1.heap.size + 1 + 1 + 1 by simp] at h
      rw [← hW]; exact h
    have hb4 : W.heap[w1.heap.size + 1 + 1 + 1 + 1]? = some (.cells #[.int .i64 3, .int .i64 1, .string ⟨#[101]⟩] 39 (0, 0)) := by
      have h := (box_cells (w' := ((((((w1.alloc (.cells #[] 39)).alloc (.cells #[.int .i64 1, .int .i64 0, .string ⟨#[]⟩] 39)).alloc (.cells #[.int .i64 2, .int .i64 3, .string ⟨#[]⟩] 39)).alloc (.cells #[.int .i64 3, .int .i64 1, .string ⟨#[101]⟩, .int .i64 1, .int .i64 1, .string ⟨#[]⟩] 39)).alloc (.cells #[.int .i64 3, .int .i64 1, .string ⟨#[101]⟩] 39)).alloc (.cells #[.slice (some ⟨w1.heap.size, 0, none⟩) 0 0, .slice (some ⟨w1.heap.size + 1, 0, none⟩) 1 1, .slice (some ⟨w1.heap.size + 1 + 1, 0, none⟩) 1 1, .slice (some ⟨w1.heap.size + 1 + 1 + 1, 0, none⟩) 2 2, .slice (some ⟨w1.heap.size + 1 + 1 + 1 + 1, 0, none⟩) 1 1] 23))) (belA (Below.refl _ _) _) (heap_alloc_new ((((w1.alloc (.cells #[] 39)).alloc (.cells #[.int .i64 1, .int .i64 0, .string ⟨#[]⟩] 39)).alloc (.cells #[.int .i64 2, .int .i64 3, .string ⟨#[]⟩] 39)).alloc (.cells #[.int .i64 3, .int .i64 1, .string ⟨#[101]⟩, .int .i64 1, .int .i64 1, .string ⟨#[]⟩] 39)) (.cells #[.int .i64 3, .int .i64 1, .string ⟨#[101]⟩] 39))).1
      rw [show ((((w1.alloc (.cells #[] 39)).alloc (.cells #[.int .i64 1, .int .i64 0, .string ⟨#[]⟩] 39)).alloc (.cells #[.int .i64 2, .int .i64 3, .string ⟨#[]⟩] 39)).alloc (.cells #[.int .i64 3, .int .i64 1, .string ⟨#[101]⟩, .int .i64 1, .int .i64 1, .string ⟨#[]⟩] 39)).heap.size = w1.heap.size + 1 + 1 + 1 + 1 by simp] at h
      rw [← hW]; exact h
    have hb5 : W.heap[w1.heap.size + 1 + 1 + 1 + 1 + 1]? = some (.cells #[.slice (some ⟨w1.heap.size, 0, none⟩) 0 0, .slice (some ⟨w1.heap.size + 1, 0, none⟩) 1 1, .slice (some ⟨w1.heap.size + 1 + 1, 0, none⟩) 1 1, .slice (some ⟨w1.heap.size + 1 + 1 + 1, 0, none⟩) 2 2, .slice (some ⟨w1.heap.size + 1 + 1 + 1 + 1, 0, none⟩) 1 1] 23 (0, 0)) := by
      have h := (box_cells (w' := ((((((w1.alloc (.cells #[] 39)).alloc (.cells #[.int .i64 1, .int .i64 0, .string ⟨#[]⟩] 39)).alloc (.cells #[.int .i64 2, .int .i64 3, .string ⟨#[]⟩] 39)).alloc (.cells #[.int .i64 3, .int .i64 1, .string ⟨#[101]⟩, .int .i64 1, .int .i64 1, .string ⟨#[]⟩] 39)).alloc (.cells #[.int .i64 3, .int .i64 1, .string ⟨#[101]⟩] 39)).alloc (.cells #[.slice (some ⟨w1.heap.size, 0, none⟩) 0 0, .slice (some ⟨w1.heap.size + 1, 0, none⟩) 1 1, .slice (some ⟨w1.heap.size + 1 + 1, 0, none⟩) 1 1, .slice (some ⟨w1.heap.size + 1 + 1 + 1, 0, none⟩) 2 2, .slice (some ⟨w1.heap.size + 1 + 1 + 1 + 1, 0, none⟩) 1 1] 23))) (Below.refl _ _) (heap_alloc_new (((((w1.alloc (.cells #[] 39)).alloc (.cells #[.int .i64 1, .int .i64 0, .string ⟨#[]⟩] 39)).alloc (.cells #[.int .i64 2, .int .i64 3, .string ⟨#[]⟩] 39)).alloc (.cells #[.int .i64 3, .int .i64 1, .string ⟨#[101]⟩, .int .i64 1, .int .i64 1, .string ⟨#[]⟩] 39)).alloc (.cells #[.int .i64 3, .int .i64 1, .string ⟨#[101]⟩] 39)) (.cells #[.slice (some ⟨w1.heap.size, 0, none⟩) 0 0, .slice (some ⟨w1.heap.size + 1, 0, none⟩) 1 1, .slice (some ⟨w1.heap.size + 1 + 1, 0, none⟩) 1 1, .slice (some ⟨w1.heap.size + 1 + 1 + 1, 0, none⟩) 2 2, .slice (some ⟨w1.heap.size + 1 + 1 + 1 + 1, 0, none⟩) 1 1] 23))).1
      rw [show (((((w1.alloc (.cells #[] 39)).alloc (.cells #[.int .i64 1, .int .i64 0, .string ⟨#[]⟩] 39)).alloc (.cells #[.int .i64 2, .int .i64 3, .string ⟨#[]⟩] 39)).alloc (.cells #[.int .i64 3, .int .i64 1, .string ⟨#[101]⟩, .int .i64 1, .int .i64 1, .string ⟨#[]⟩] 39)).alloc (.cells #[.int .i64 3, .int .i64 1, .string ⟨#[101]⟩] 39)).heap.size = w1.heap.size + 1 + 1 + 1 + 1 + 1 by simp] at h
      rw [← hW]; exact h
    have hWB : Below w1.heap.size w1 W := by rw [← hW]; exact belA (belA (belA (belA (belA (belA (Below.refl _ _) _) _) _) _) _) _
    have hlt2 : g < w1.heap.size := R1.out.lt
    rw [hW]
    refine (pick_c w0 W g (P + 1) 5 (R1.out.below hWB) (by omega)).mono ?_
    rintro e w2 ⟨r, rfl, ⟨p0, p1, _⟩, hR2, hO2⟩
    have p2 := p1 (by omega)
    have R2 := Sec.mk hR2
    have O2 := Sec.mk ((O1.out.trans (Only.of_below hWB)).trans hO2)
    have r0 : Sec (kCell.R w2 (fun k => w.heap.size ≤ k) (.slice (some ⟨w1.heap.size, 0, none⟩) 0 0) (noneT 0)) := ⟨R_lit (hO2.blk hb0 (by omega)) (by omega) rfl (by decide) (by decide)⟩
    have r1 : Sec (kCell.R w2 (fun k => w.heap.size ≤ k) (.slice (some ⟨w1.heap.size + 1, 0, none⟩) 1 1) (noneT 1)) := ⟨R_lit (hO2.blk hb1 (by omega)) (by omega) rfl (by decide) (by decide)⟩
    have r2 : Sec (kCell.R w2 (fun k => w.heap.size ≤ k) (.slice (some ⟨w1.heap.size + 1 + 1, 0, none⟩) 1 1) (noneT 2)) := ⟨R_lit (hO2.blk hb2 (by omega)) (by omega) rfl (by decide) (by decide)⟩
    have r3 : Sec (kCell.R w2 (fun k => w.heap.size ≤ k) (.slice (some ⟨w1.heap.size + 1 + 1 + 1, 0, none⟩) 2 2) (noneT 3)) := ⟨R_lit (hO2.blk hb3 (by omega)) (by omega) rfl (by decide) (by decide)⟩
    have r4 : Sec (kCell.R w2 (fun k => w.heap.size ≤ k) (.slice (some ⟨w1.heap.size + 1 + 1 + 1 + 1, 0, none⟩) 1 1) (noneT 4)) := ⟨R_lit (hO2.blk hb4 (by omega)) (by omega) rfl (by decide) (by decide)⟩
    have X := (box_at (hO2.blk hb5 (by omega))).2.1
    have c0 : w2.cell? ⟨w1.heap.size + 1 + 1 + 1 + 1 + 1, 0, none⟩ = some (.slice (some ⟨w1.heap.size, 0, none⟩) 0 0) := X 0 _ rfl
    have c1 : w2.cell? ⟨w1.heap.size + 1 + 1 + 1 + 1 + 1, 1, none⟩ = some (.slice (some ⟨w1.heap.size + 1, 0, none⟩) 1 1) := X 1 _ rfl
    have c2 : w2.cell? ⟨w1.heap.size + 1 + 1 + 1 + 1 + 1, 2, none⟩ = some (.slice (some ⟨w1.heap.size + 1 + 1, 0, none⟩) 1 1) := X 2 _ rfl
    have c3 : w2.cell? ⟨w1.heap.size + 1 + 1 + 1 + 1 + 1, 3, none⟩ = some (.slice (some ⟨w1.heap.size + 1 + 1 + 1, 0, none⟩) 2 2) := X 3 _ rfl
    have c4 : w2.cell? ⟨w1.heap.size + 1 + 1 + 1 + 1 + 1, 4, none⟩ = some (.slice (some ⟨w1.heap.size + 1 + 1 + 1 + 1, 0, none⟩) 1 1) := X 4 _ rfl
    clear hW hb0 hb1 hb2 hb3 hb4 hb5 hWB hR2 hO2 X p1
    rcases (show r = 0 ∨ r = 1 ∨ r = 2 ∨ r = 3 ∨ r = 4 by omega) with rfl | rfl | rfl | rfl | rfl
    · go_wp2
      go_ret
      exact ⟨_, noneT 0, rfl, by decide, r0.out, R2.out.mono (by omega), O2.out⟩
    · go_wp2
      go_ret
      exact ⟨_, noneT 1, rfl, by decide, r1.out, R2.out.mono (by omega), O2.out⟩
    · go_wp2
      go_ret
      exact ⟨_, noneT 2, rfl, by decide, r2.out, R2.out.mono (by omega), O2.out⟩
    · go_wp2
      go_ret
      exact ⟨_, noneT 3, rfl, by decide, r3.out, R2.out.mono (by omega), O2.out⟩
    · go_wp2
      go_ret
      exact ⟨_, noneT 4, rfl, by decide, r4.out, R2.out.mono (by omega), O2.out⟩
end
end
section
open Go.RowKit
set_option linter.unusedVariables false
set_option maxRecDepth 100000
theorem DrawSlvNew_c (w : World) (v : Value) (code : List UInt8) (ok : Nat → Prop) (hV : kByte.V w ok v code) :
    Calls Tryz.prog 7 #[v] w fun e w' => ∃ (u : Value) (t : Term), e = .returned u ∧ kCell.R w' (fun k => w.heap.size ≤ k) u t ∧ Below w.heap.size w w' := by
  have H0 := Sec.mk (open_c w v code ok hV)
  obtain ⟨A, c, rfl, _⟩ := hV
  go_enter Tryz.func7, Tryz.ntmps7
  go_wp2_with fail
  refine H0.out.mono ?_
  rintro e w1 ⟨g, rfl, hR1, hB1⟩
  have R1 := Sec.mk hR1
  have z1 := hB1.size
  clear hR1 hB1
  go_wp2_with fail
  refine (topOr_c w w1 g 0 4 R1.out (by omega) (by omega) (by omega)).mono ?_
  rintro e w2 ⟨u2, t, rfl, hl2, hT2, hRd2, hO2⟩
  have T2 := Sec.mk hT2
  have R2 := Sec.mk hRd2.bel
  clear hT2 hl2 hRd2 hO2
  go_wp2
  go_ret
  exact ⟨_, _, rfl, Kd.R_mono T2.out (fun k h _ => by omega), R2.out⟩
end
section
open Go.RowKit
set_option linter.unusedVariables false
section
variable {α β : Type} {d : Kd α} {e : Kd β} {t : TypeId} {hp : 0 < e.sz} {x : List β → α} {X n0 j : Nat} {c0 c2 cs : List Value} {ty : TypeId} {w w1 : World} {v v1 : Value} {xs ys : List β} {Sr Sc S S1 Sx : Nat → Prop}
/-- The row has grown by an append, and is put back. -/
theorem Growing.put (h : Growing d e t hp x X n0 c0 c2 ty w v xs Sr Sc) (hl : c0.length = j) (hF : Foot Sc w w1) (hR : e.R w1 S1 v1 ys) (hS : ∀ k, S1 k → Sc k ∨ Sx k ∨ w.heap.size ≤ k) (hx : ∀ k, Sx k → ¬ Sr k ∧ n0 ≤ k ∧ k ≠ X) :
    Growing d e t hp x X n0 c0 c2 ty (w1.setCell ⟨X, j, none⟩ v1) v1 ys Sr (fun k => S1 k ∧ k < w1.heap.size) := by
  have hX : X < w.heap.size := (Array.getElem?_eq_some_iff.1 h.box).1
  have hn : ¬ Sc X := fun e => (h.mine X (.inr e)).2.2 rfl
  have hb : w1.heap[X]? = _ := (hF.block X hX hn).trans h.box
  have F4 : Foot (fun k => k = X) w1 (w1.setCell ⟨X, j, none⟩ v1) := Foot.set (S := fun k => k = X) (Foot.refl _ _) (.inl rfl) _ _
  have hsz : (w1.setCell ⟨X, j, none⟩ v1).heap.size = w1.heap.size := by simp [World.setCell]
  have e1 : ∀ k, S1 k → ¬ Sr k ∧ n0 ≤ k ∧ k ≠ X := fun k hk => by
    rcases hS k hk with h1 | h1 | h1
    · exact ⟨fun e => h.apart k e h1, (h.mine k (.inr h1)).1, (h.mine k (.inr h1)).2.2⟩
    · exact hx k h1
    · have := h.at_
      exact ⟨fun e => by have := (h.mine k (.inl e)).2.1; omega, by omega, by omega⟩
  refine ⟨grow_set hb hl v1, h.hole.move (fun k hk hlt => ⟨hk, ?_⟩), F4.R (Kd.R_mono hR (fun k h1 h2 => ⟨h1, h2⟩)) (fun k hk => (e1 k hk.1).2.2), fun k hk hs => (e1 k hs.1).1 hk, fun k hk => ?_, h.at_⟩
  · have h1 := hF.block k hlt (fun e => h.apart k hk e)
    have h2 : k < w1.heap.size := by have := hF.size; omega
    exact (F4.block k h2 (h.mine k (.inl hk)).2.2).trans h1
  · rw [hsz]
    have := hF.size
    rcases hk with hk | hk
    · have := h.mine k (.inl hk); exact ⟨this.1, by omega, this.2.2⟩
    · exact ⟨(e1 k hk.1).2.1, hk.2, (e1 k hk.1).2.2⟩
theorem Growing.only {g : Nat} (h : Growing d e t hp x X n0 c0 c2 ty w v xs Sr Sc) (hO : Only g w w1) (hg : g < n0) : Growing d e t hp x X n0 c0 c2 ty w1 v xs Sr Sc := by
  have hX : X < w.heap.size := (Array.getElem?_eq_some_iff.1 h.box).1
  have ha := h.at_
  refine ⟨(hO.block X hX (by omega)).trans h.box, h.hole.move (fun k hk hl => ⟨hk, hO.block k hl (by have := (h.mine k (.inl hk)).1; omega)⟩), Kd.R_move (fun k hk hl => ⟨hk, hO.block k hl (by have := (h.mine k (.inr hk)).1; omega)⟩) h.row, h.apart, fun k hk => ?_, ha⟩
  have := h.mine k hk
  have := hO.size
  exact ⟨by omega, by omega, (h.mine k hk).2.2⟩
/-- Another block is turned. -/
theorem Growing.foot {T : Nat → Prop} (h : Growing d e t hp x X n0 c0 c2 ty w v xs Sr Sc) (hF : Foot T w w1) (hT : ∀ k, T k → k ≠ X ∧ ¬ Sr k ∧ ¬ Sc k) : Growing d e t hp x X n0 c0 c2 ty w1 v xs Sr Sc := by
  have hX : X < w.heap.size := (Array.getElem?_eq_some_iff.1 h.box).1
  refine ⟨(hF.block X hX (fun e => (hT X e).1 rfl)).trans h.box, h.hole.move (fun k hk hl => ⟨hk, hF.block k hl (fun e => (hT k e).2.1 hk)⟩), Kd.R_move (fun k hk hl => ⟨hk, hF.block k hl (fun e => (hT k e).2.2 hk)⟩) h.row, h.apart, fun k hk => ?_, h.at_⟩
  have h1 := h.mine k hk
  have := hF.size
  exact ⟨h1.1, by omega, h1.2.2⟩
end
theorem Only.O {α : Type} {d : Kd α} {g : Nat} {w w1 : World} {S : Nat → Prop} {x : α} {cs : List Value} (h : Only g w w1) (hO : d.O w S x cs) (hS : ∀ k, S k → k ≠ g) : d.O w1 S x cs :=
  d.O_move (fun k h1 h2 => ⟨h1, h.block k h2 (hS k h1)⟩) hO
theorem Only.R {α : Type} {d : Kd α} {g : Nat} {w w1 : World} {S : Nat → Prop} {x : List α} {v : Value} (h : Only g w w1) (hO : d.R w S v x) (hS : ∀ k, S k → k ≠ g) : d.R w1 S v x :=
  Kd.R_move (fun k h1 h2 => ⟨h1, h.block k h2 (hS k h1)⟩) hO
theorem Foot.rd {T : Nat → Prop} {w0 w w1 : World} {g P : Nat} (h : Foot T w w1) (hR : Rd w0 w g P) (hT : ∀ k, T k → k ≠ g ∧ w0.heap.size ≤ k) : Rd w0 w1 g P := by
  obtain ⟨A, c, p, bs, h1, h2⟩ := hR.is
  exact ⟨⟨A, c, p, bs, (h.block g hR.lt (fun e => (hT g e).1 rfl)).trans h1, h2⟩, h.below hR.bel (fun k hk => (hT k hk).2), hR.ge⟩
theorem Foot.onlyOf {T : Nat → Prop} {w w1 w2 : World} {g : Nat} (h : Foot T w1 w2) (hO : Only g w w1) (hT : ∀ k, T k → w.heap.size ≤ k) : Only g w w2 :=
  ⟨h.os.trans hO.os, h.tape.trans hO.tape, h.output.trans hO.output, Nat.le_trans hO.size h.size, fun k hk hg => (h.block k (Nat.lt_of_lt_of_le hk hO.size) (fun e => by have := hT k e; omega)).trans (hO.block k hk hg)⟩
/-- Blocks made one behind the other. -/
def many (w : World) : List Obj → World
  | [] => w
  | o :: os => many (w.alloc o) os
theorem many_size : ∀ (os : List Obj) (w : World), (many w os).heap.size = w.heap.size + os.length
  | [], w => rfl
  | o :: os, w => by rw [many, many_size os, List.length_cons]; simp; omega
theorem many_below : ∀ (os : List Obj) (w : World), Below w.heap.size w (many w os)
  | [], w => Below.refl _ _
  | o :: os, w => bel (belA (Below.refl _ _) o) (many_below os _)
theorem many_get : ∀ (os : List Obj) (w : World) (i : Nat) (o : Obj), os[i]? = some o → (many w os).heap[w.heap.size + i]? = some o
  | [], w, i, o, h => by simp at h
  | a :: os, w, 0, o, h => by
    obtain rfl : a = o := by simpa using h
    have h1 := (many_below os (w.alloc a)).block w.heap.size (by simp)
    rw [many, Nat.add_zero, h1]
    exact heap_alloc_new w a
  | a :: os, w, i + 1, o, h => by
    have := many_get os (w.alloc a) i o (by simpa using h)
    rw [many]
    rw [show w.heap.size + (i + 1) = (w.alloc a).heap.size + i by simp; omega]
    exact this
end
section
open Go.RowKit
set_option linter.unusedVariables false
set_option maxRecDepth 100000
theorem belDN2 {n q : Nat} {w W : World} (h : Below n w W) : Below n w (W.drewN q) := ⟨h.os, h.tape, h.output, h.size, h.block⟩
def kStr : Kd ByteArray := Kd.str 9
theorem info_str : (Tryz.prog.info? 9).map (fun i => (i.zero, i.size, i.bytes)) = some (some (.string ⟨#[]⟩), 1, 16) := by kernel_rfl
theorem str_O (w : World) (S : Nat → Prop) (x : ByteArray) (h : x.size ≤ 1073741824) : kStr.O w S x [.string x] := ⟨rfl, h⟩
theorem str_at {w : World} {ok : Nat → Prop} {A : Option Addr} {xs : List ByteArray} (h : kStr.C w ok A xs) (i : Nat) (hi : i < xs.length) : ∃ b off, A = some ⟨b, off, none⟩ ∧ ok b ∧ w.cell? ⟨b, off + i, none⟩ = some (.string xs[i]) ∧ xs[i].size ≤ 1073741824 := by
  obtain ⟨b, off, cs, hA, hb, ⟨rfl, hs⟩, hc⟩ := Kd.C_get h (List.getElem?_eq_getElem hi)
  have := hc 0 _ rfl
  rw [show i * kStr.sz + 0 = i from by simp [kStr, Kd.str, Kd.scalar]] at this
  exact ⟨b, off, hA, hb, this, hs⟩
set_option maxHeartbeats 1000000 in
theorem l3Words_c (s : ByteArray) (hs : s.size ≤ 100000000) (w : World) :
    Calls Tryz.prog 252 #[.string s] w fun e w' => ∃ (u : Value) (ws : List ByteArray), e = .returned u ∧ kStr.R w' (fun k => w.heap.size ≤ k) u ws ∧ 1 ≤ ws.length ∧ ws.length ≤ s.size + 1 ∧ (∀ x ∈ ws, x.size ≤ s.size) ∧ Below w.heap.size w w' := by
  have hus := Tryz.underlying9
  go_enter Tryz.func252, Tryz.ntmps252
  go_wp2
  go_loopw [3, 4, 5] (fun ov xv iv wr => ∃ (i : Nat) (x : ByteArray) (out : List ByteArray), i ≤ s.size ∧ iv = .int .i64 i ∧ xv = .string x ∧ x.size ≤ i ∧ out.length ≤ i ∧ Sec (∀ y ∈ out, y.size ≤ s.size) ∧ Sec (kStr.R wr (fun k => w.heap.size ≤ k) ov out) ∧ Sec (Below w.heap.size w wr)) (fun _ _ iv _ => s.size - (intOf iv).toNat)
  case atStart => exact ⟨0, ⟨#[]⟩, [], Nat.zero_le _, rfl, rfl, by decide, by simp, ⟨by simp⟩, ⟨Kd.R_empty kStr (w := w) (W := w) (Nat.le_refl _)⟩, ⟨belA (Below.refl _ _) _⟩⟩
  case round =>
    obtain ⟨i, x, out, hi, rfl, rfl, hx, hl, hY, hR, hb⟩ := hrel
    obtain ⟨A9, c9, rfl, -⟩ := Kd.R_form hR.out
    have hL : out.length + 1 ≤ 1073741824 := by omega
    have hxs : x.size ≤ 1073741824 := by omega
    by_cases hlt : i < s.size
    · obtain ⟨q, hq⟩ : ∃ q, ((s[i].toNat : Int) == 32) = q := ⟨_, rfl⟩
      have i0 : (0 : Int) ≤ (i : Int) := by omega
      have i1 : (i : Int) < (s.size : Int) := by omega
      cases q with
      | true =>
        go_wp2_with (at_builtin; refine Kd.R_app kStr (w0 := w) (wb := wr) rfl (.tmp 17) (.tmp 19) 220 (.string ⟨#[]⟩) 16 rfl Tryz.underlying220 info_str rfl (by decide) (by decide) _ _ x [.string x] rfl rfl (by rfl) hR.out hb.out (Below.refl _ _) (str_O _ _ _ hxs) hL ?_; intro v1 w1 hR1 hb1; have R1 := Sec.mk hR1; have B1 := Sec.mk hb1; clear hR1 hb1)
        go_roundw
        case rel => exact ⟨i + 1, ⟨#[]⟩, _, by omega, by go_num, rfl, by show 0 ≤ _; omega, by simp; omega, ⟨fun y hy => by rcases List.mem_append.1 hy with hy | hy; exact hY.out y hy; simp at hy; subst hy; omega⟩, R1, B1⟩
        case measure => simp [intOf]; omega
      | false =>
        have e1 := Sec.mk (ext_le' s i (i + 1))
        have e2 : (s.extract i (i + 1)).size = 1 := by rw [ByteArray.size_extract]; omega
        have e3 := Sec.mk (ByteArray.size_append (a := x) (b := s.extract i (i + 1)))
        have e4 : IntKind.i64.wrap ((i : Int) + 1) = ((i + 1 : Nat) : Int) := by rw [show ((i : Int) + 1) = ((i + 1 : Nat) : Int) by omega]; exact IntWalk.i64_in _ (by omega)
        go_wp2
        go_roundw
        case rel => exact ⟨i + 1, _, out, by omega, by go_num, rfl, by rw [e3.out, e2]; omega, by omega, hY, hR, hb⟩
        case measure => simp [intOf]; omega
    · go_wp2_with (at_builtin; refine Kd.R_app kStr (w0 := w) (wb := wr) rfl (.tmp 28) (.tmp 30) 220 (.string ⟨#[]⟩) 16 rfl Tryz.underlying220 info_str rfl (by decide) (by decide) _ _ x [.string x] rfl rfl (by rfl) hR.out hb.out (Below.refl _ _) (str_O _ _ _ hxs) hL ?_; intro v1 w1 hR1 hb1; have R1 := Sec.mk hR1; have B1 := Sec.mk hb1; clear hR1 hb1)
      go_ret
      exact ⟨_, _, rfl, R1.out, by simp, by simp; omega, fun y hy => by rcases List.mem_append.1 hy with hy | hy; exact hY.out y hy; simp at hy; subst hy; omega, B1.out⟩
set_option maxHeartbeats 1000000 in
theorem l3Cut_c (s word : ByteArray) (hs : s.size ≤ 100000000) (hw : word.size ≤ 100) (w : World) :
    Calls Tryz.prog 253 #[.string s, .string word] w fun e w' => ∃ (a b : ByteArray) (q : Bool), e = .returned (.tuple #[.string a, .string b, .bool q]) ∧ a.size ≤ s.size ∧ b.size ≤ s.size ∧ Below w.heap.size w w' := by
  have hus := Tryz.underlying9
  have hp1 : (⟨#[32]⟩ ++ word : ByteArray).size ≤ 200 := by rw [size1]; omega
  have hp : (⟨#[32]⟩ ++ word ++ ⟨#[32]⟩ : ByteArray).size = word.size + 2 := by rw [ByteArray.size_append, size1]; show 1 + word.size + 1 = _; omega
  have HP := Sec.mk hp
  clear hp
  go_enter Tryz.func253, Tryz.ntmps253
  go_wp2
  generalize (⟨#[32]⟩ ++ word ++ ⟨#[32]⟩ : ByteArray) = pat at *
  obtain ⟨m, hm⟩ : ∃ m, pat.size = m := ⟨_, rfl⟩
  have hm2 : m ≤ 102 := by have := HP.out; omega
  go_loopw [8] (fun iv wr => ∃ i : Nat, i ≤ s.size + 1 ∧ iv = .int .i64 i ∧ Sec (w = wr)) (fun iv _ => s.size + 1 - (intOf iv).toNat)
  case atStart => exact ⟨0, by omega, rfl, ⟨rfl⟩⟩
  case round =>
    obtain ⟨i, hi, rfl, hw'⟩ := hrel
    have e4 : IntKind.i64.wrap ((i : Int) + (m : Int)) = ((i + m : Nat) : Int) := by rw [show ((i : Int) + (m : Int)) = ((i + m : Nat) : Int) by omega]; exact IntWalk.i64_in _ (by omega)
    by_cases hlt : i + m ≤ s.size
    · obtain ⟨q, hq⟩ : ∃ q, ((s.extract i (i + m)).toList == pat.toList) = q := ⟨_, rfl⟩
      have i0 : (0 : Int) ≤ (i : Int) := by omega
      have i1 : (i : Int) ≤ (s.size : Int) := by omega
      have i2 : ((i + m : Nat) : Int) ≤ (s.size : Int) := by omega
      have i3 : (i : Int) + (m : Int) ≤ (s.size : Int) := by omega
      have i4 : (i : Int) ≤ (i : Int) + (m : Int) := by omega
      have i5 : (0 : Int) ≤ (i : Int) + (m : Int) := by omega
      have e5 : ((i : Int) + (m : Int)).toNat = i + m := by omega
      cases q with
      | true =>
        go_wp2
        go_quiet (fail)
        go_wp2
        exact bodyPost_ret (v := .tuple #[.string (s.extract 0 i), .string (s.extract (i + m) s.size), .bool true]) (by simp [results, Tryz.results253, go_sem]) rfl ⟨_, _, true, rfl, ext_le' _ _ _, ext_le' _ _ _, by rw [hw'.out]; exact belDN2 (Below.refl _ _)⟩
      | false =>
        go_wp2
        go_roundw
        case rel => exact ⟨i + 1, by omega, by go_num, hw'⟩
        case measure => simp [intOf]; omega
    · go_wp2
      exact bodyPost_ret (v := .tuple #[.string s, .string ⟨#[]⟩, .bool false]) (by simp [results, Tryz.results253, go_sem]) rfl ⟨s, ⟨#[]⟩, false, rfl, Nat.le_refl _, Nat.zero_le _, by rw [hw'.out]; exact Below.refl _ _⟩
end
section
open Go.RowKit
set_option linter.unusedVariables false
set_option maxRecDepth 100000
theorem short_list {n : Nat} : ∀ (r : List Value), r.all (shortStr n) = true → ∃ l : List ByteArray, r = l.map .string ∧ ∀ x ∈ l, x.size ≤ n
  | [], _ => ⟨[], rfl, by simp⟩
  | v :: r, h => by
    rw [List.all_cons, Bool.and_eq_true] at h
    obtain ⟨l, rfl, hl⟩ := short_list r h.2
    have h1 := h.1
    cases v <;> simp [shortStr] at h1
    rename_i s
    exact ⟨s :: l, rfl, fun x hx => by rcases List.mem_cons.1 hx with rfl | hx; exact h1; exact hl x hx⟩
theorem short_arr {n : Nat} (r : Array Value) (h : r.all (shortStr n) = true) : ∃ l : List ByteArray, r = (l.map .string).toArray ∧ ∀ x ∈ l, x.size ≤ n := by
  obtain ⟨l, h1, h2⟩ := short_list r.toList (by rw [Array.all_toList]; exact h)
  exact ⟨l, by rw [← h1], h2⟩
/-- Thirteen rows of short texts, made one behind the other from b on, and the row of them. -/
structure Blks (b : Nat) (w : World) : Prop where
  at_ : ∀ i, i < 13 → ∃ l : List ByteArray, w.heap[b + i]? = some (.cells (l.map .string).toArray 9 (0, 0)) ∧ (∀ x ∈ l, x.size ≤ 100) ∧ l.length ≤ 3 ∧ w.cell? ⟨b + 13, i, none⟩ = some (.slice (some ⟨b + i, 0, none⟩) l.length l.length)
  lt : b + 13 < w.heap.size
theorem Blks.keep {b : Nat} {w w' : World} (h : Blks b w) (hk : ∀ k, b ≤ k → k ≤ b + 13 → w'.heap[k]? = w.heap[k]?) (hz : w.heap.size ≤ w'.heap.size) : Blks b w' := by
  refine ⟨fun i hi => ?_, by have := h.lt; omega⟩
  have hlt := h.lt
  obtain ⟨r, h1, h2, h3, h4⟩ := h.at_ i hi
  exact ⟨r, (hk _ (by omega) (by omega)).trans h1, h2, h3, (World.cell?_of_block (w := w) (w' := w') (hk _ (by show b ≤ b + 13; omega) (by show b + 13 ≤ _; omega))).trans h4⟩
theorem Blks.only {b g : Nat} {w w' : World} (h : Blks b w) (hO : Only g w w') (hg : g < b) : Blks b w' := h.keep (fun k h1 h2 => hO.block k (by have := h.lt; omega) (by omega)) hO.size
theorem Blks.below {b : Nat} {w w' : World} (h : Blks b w) (hO : Below w.heap.size w w') : Blks b w' := h.keep (fun k h1 h2 => hO.block k (by have := h.lt; omega)) hO.size
theorem Blks.foot {b : Nat} {T : Nat → Prop} {w w' : World} (h : Blks b w) (hF : Foot T w w') (hT : ∀ k, T k → k < b ∨ b + 13 < k) : Blks b w' := h.keep (fun k h1 h2 => hF.block k (by have := h.lt; omega) (fun e => by have := hT k e; omega)) hF.size
/-- A row of theirs, read. -/
theorem Blks.row {b : Nat} {w : World} (h : Blks b w) (i : Nat) (hi : i < 13) : ∃ l : List ByteArray, kStr.V w (fun k => b ≤ k ∧ k ≤ b + 12) (.slice (some ⟨b + i, 0, none⟩) l.length l.length) l ∧ (∀ x ∈ l, x.size ≤ 100) ∧ l.length ≤ 3 ∧ w.cell? ⟨b + 13, i, none⟩ = some (.slice (some ⟨b + i, 0, none⟩) l.length l.length) := by
  obtain ⟨l, h1, h2, h3, h4⟩ := h.at_ i hi
  refine ⟨l, ⟨_, _, rfl, Nat.le_refl _, by simp only [maxLen]; omega, by omega, .inr ⟨b + i, 0, rfl, by omega, fun j x hx => ⟨[.string x], str_O w (fun _ => True) x (by have := h2 x (List.mem_of_getElem? hx); omega), fun q u hq => ?_⟩⟩, fun h => by cases h⟩, h2, h3, h4⟩
  have hq0 : q = 0 := by have := (List.getElem?_eq_some_iff.1 hq).1; simpa using this
  subst hq0
  obtain rfl : Value.string x = u := by simpa using hq
  have := (box_at h1).2.1 j (.string x) (by simp [hx])
  simpa [kStr, Kd.str, Kd.scalar] using this
theorem blks_many {w : World} {os : List Obj} (hl : os.length = 14) (outer : Array Value) (h13 : os[13]? = some (.cells outer 220 (0, 0)))
    (h : ∀ i, i < 13 → ∃ r : Array Value, os[i]? = some (.cells r 9 (0, 0)) ∧ r.all (shortStr 100) = true ∧ r.size ≤ 3 ∧ outer[i]? = some (.slice (some ⟨w.heap.size + i, 0, none⟩) r.size r.size)) : Blks w.heap.size (many w os) := by
  refine ⟨fun i hi => ?_, by rw [many_size]; omega⟩
  obtain ⟨r, h1, h2, h3, h4⟩ := h i hi
  obtain ⟨l, rfl, hs⟩ := short_arr r h2
  have hz : (l.map Value.string).toArray.size = l.length := by simp
  rw [hz] at h3 h4
  exact ⟨l, many_get os w i _ h1, hs, h3, (box_at (many_get os w 13 _ h13)).2.1 i _ h4⟩
set_option maxHeartbeats 1000000 in
theorem blocks_c (w : World) : Calls Tryz.prog 226 #[] w fun e w' => e = .returned (.slice (some ⟨w.heap.size + 13, 0, none⟩) 13 13) ∧ Blks w.heap.size w' ∧ Below w.heap.size w w' := by
  go_enter Tryz.func226, Tryz.ntmps226
  go_wp2
  go_ret
  refine ⟨rfl, ?_⟩
  generalize hW : World.alloc _ _ = W
  obtain ⟨os, hos, hl, outer, h13, h⟩ : ∃ os : List Obj, W = many w os ∧ os.length = 14 ∧ ∃ outer : Array Value, os[13]? = some (.cells outer 220 (0, 0)) ∧ ∀ i, i < 13 → ∃ r : Array Value, os[i]? = some (.cells r 9 (0, 0)) ∧ r.all (shortStr 100) = true ∧ r.size ≤ 3 ∧ outer[i]? = some (.slice (some ⟨w.heap.size + i, 0, none⟩) r.size r.size) := by
    refine ⟨[_, _, _, _, _, _, _, _, _, _, _, _, _, _], hW.symm.trans rfl, rfl, _, rfl, ?_⟩
    intro i hi
    match i, hi with
    | 0, _ => exact ⟨_, rfl, by kernel_rfl, by decide, rfl⟩
    | 1, _ => exact ⟨_, rfl, by kernel_rfl, by decide, rfl⟩
    | 2, _ => exact ⟨_, rfl, by kernel_rfl, by decide, rfl⟩
    | 3, _ => exact ⟨_, rfl, by kernel_rfl, by decide, rfl⟩
    | 4, _ => exact ⟨_, rfl, by kernel_rfl, by decide, rfl⟩
    | 5, _ => exact ⟨_, rfl, by kernel_rfl, by decide, rfl⟩
    | 6, _ => exact ⟨_, rfl, by kernel_rfl, by decide, rfl⟩
    | 7, _ => exact ⟨_, rfl, by kernel_rfl, by decide, rfl⟩
    | 8, _ => exact ⟨_, rfl, by kernel_rfl, by decide, rfl⟩
    | 9, _ => exact ⟨_, rfl, by kernel_rfl, by decide, rfl⟩
    | 10, _ => exact ⟨_, rfl, by kernel_rfl, by decide, rfl⟩
    | 11, _ => exact ⟨_, rfl, by kernel_rfl, by decide, rfl⟩
    | 12, _ => exact ⟨_, rfl, by kernel_rfl, by decide, rfl⟩
  subst hos
  exact ⟨blks_many hl outer h13 h, many_below _ _⟩
end
section
open Go.RowKit
set_option linter.unusedVariables false
set_option maxRecDepth 100000
theorem info_terms : (Tryz.prog.info? 23).map (fun i => (i.zero, i.size, i.bytes)) = some (some (.slice none 0 0), 1, 24) := by kernel_rfl
set_option maxHeartbeats 1000000 in
theorem l3Read_c (v : Value) (ws : List ByteArray) (hl : ws.length ≤ 1000000) (hs : ∀ x ∈ ws, x.size ≤ 1000000000) (ok : Nat → Prop) (w : World) (hV : kStr.V w ok v ws) :
    Calls Tryz.prog 265 #[v] w fun e w' => ∃ (u : Value) (ts : List Term) (q : Bool), e = .returned (.tuple #[u, .bool q]) ∧ kTerms.R w' (fun k => w.heap.size ≤ k) u ts ∧ (q = true → ts.length = ws.length) ∧ (∀ t ∈ ts, t.length ≤ 41) ∧ Below w.heap.size w w' := by
  obtain ⟨A, c, rfl, h1, h2, h3, hC, hz⟩ := hV
  have HC := Sec.mk hC
  have HS := Sec.mk hs
  clear hC hz hs
  have hus := Tryz.underlying9
  go_enter Tryz.func265, Tryz.ntmps265
  go_wp2
  go_loopw [4, 5] (fun ov iv wr => ∃ (k : Nat) (ts : List Term), k ≤ ws.length ∧ iv = .int .i64 k ∧ Sec (ts.length = k) ∧ Sec (∀ t ∈ ts, t.length ≤ 41) ∧ Sec (kTerms.R wr (fun k => w.heap.size ≤ k) ov ts) ∧ Sec (Below w.heap.size w wr)) (fun _ iv _ => ws.length - (intOf iv).toNat)
  case atStart => exact ⟨0, [], Nat.zero_le _, rfl, ⟨rfl⟩, ⟨by simp⟩, ⟨Kd.R_empty kTerms (w := w) (W := w) (Nat.le_refl _)⟩, ⟨belA (Below.refl _ _) _⟩⟩
  case round =>
    obtain ⟨k, ts, hk, rfl, hlt', hT, hR, hb⟩ := hrel
    obtain ⟨A9, c9, rfl, -⟩ := Kd.R_form hR.out
    have T0 : Sec True := ⟨trivial⟩
    by_cases hlt : k < ws.length
    · obtain ⟨b, off, rfl, hob, hc, _⟩ := str_at (Kd.C_below HC.out hb.out (by decide)) k hlt
      have hsz := HS.out ws[k] (List.getElem_mem hlt)
      generalize ws[k] = s at *
      have i0 : (0 : Int) ≤ (k : Int) := by omega
      have i1 : (k : Int) < (ws.length : Int) := by omega
      have hL : ts.length + 1 ≤ 1073741824 := by have := hlt'.out; omega
      go_wp2_with fail
      refine (TrmRead_c s hsz wr).mono ?_
      rintro e w1 ⟨u, t, q, rfl, htl, hTR, hB⟩
      obtain ⟨At, ct, rfl, -, -⟩ := Kd.R_form hTR
      have TR1 := Sec.mk hTR
      have R1 := Sec.mk (Kd.R_below hR.out hB)
      have B1 := Sec.mk (bel hb.out hB)
      have HB := Sec.mk hB
      clear hTR hB hc
      cases q with
      | false =>
        go_wp2
        exact bodyPost_ret (v := .tuple #[.slice A9 ts.length c9, .bool false]) (by simp [results, Tryz.results265, go_sem]) rfl ⟨_, ts, false, rfl, R1.out, fun h => (by cases h), hT.out, B1.out⟩
      | true =>
        go_wp2_with (at_builtin; refine Kd.R_app kTerms (w0 := w) (wb := wr) rfl (.tmp 26) (.tmp 28) 165 (.slice none 0 0) 24 rfl Tryz.underlying165 info_terms rfl (by decide) (by decide) _ _ t [.slice At t.length ct] rfl rfl (by rfl) hR.out hb.out HB.out ⟨_, rfl, TR1.out⟩ hL ?_; intro v2 w2 hR2 hb2; have R2 := Sec.mk hR2; have B2 := Sec.mk hb2; clear hR2 hb2)
        go_roundw
        case rel => exact ⟨k + 1, ts ++ [t], by omega, by go_num, ⟨by rw [List.length_append, hlt'.out]; rfl⟩, ⟨fun y hy => by rcases List.mem_append.1 hy with hy | hy; exact hT.out y hy; simp at hy; subst hy; omega⟩, R2, B2⟩
        case measure => simp [intOf]; omega
    · go_wp2
      exact bodyPost_ret (v := .tuple #[.slice A9 ts.length c9, .bool true]) (by simp [results, Tryz.results265, go_sem]) rfl ⟨_, ts, true, rfl, hR.out, fun _ => by have := hlt'.out; omega, hT.out, hb.out⟩
end
section
open Go.RowKit
set_option linter.unusedVariables false
set_option maxRecDepth 100000
set_option maxHeartbeats 4000000 in
theorem GoalText_c (g : Goal) (cs : List Value) (ok : Nat → Prop) (w : World) (hK : kGoal.K w ok g cs) :
    Calls Tryz.prog 266 #[.agg cs.toArray] w fun e w' => ∃ s : ByteArray, e = .returned (.string s) ∧ s.size ≤ 4000 ∧ Below w.heap.size w w' := by
  have KK := hK
  obtain ⟨v1, v2, v3, rfl, h1, h2, h3⟩ := kGoal_K hK
  obtain ⟨E1, m1, rfl, -⟩ := id h1
  obtain ⟨E2, m2, rfl, -⟩ := id h2
  obtain ⟨E3, m3, rfl, -⟩ := id h3
  have B0 := Sec.mk (belA (Below.refl w.heap.size w) (.cells #[.int .i64 g.kind, .slice E1 g.a.length m1, .slice E2 g.b.length m2, .slice E3 g.c.length m3] 100))
  have P0 := Sec.mk (heap_alloc_new w (.cells #[.int .i64 g.kind, .slice E1 g.a.length m1, .slice E2 g.b.length m2, .slice E3 g.c.length m3] 100))
  have U1 := Sec.mk (Kd.V_below h1 B0.out (by decide))
  have U2 := Sec.mk (Kd.V_below h2 B0.out (by decide))
  have U3 := Sec.mk (Kd.V_below h3 B0.out (by decide))
  have GO := Sec.mk (specGoalOk_c g _ ok _ (Kd.K_below KK B0.out))
  have X := (box_at P0.out).2.1
  have y0 := X 0 _ rfl
  have y1 := X 1 _ rfl
  have y2 := X 2 _ rfl
  have y3 := X 3 _ rfl
  clear X hK KK h1 h2 h3
  have T0 : Sec True := ⟨trivial⟩
  have hu := Tryz.underlying100
  generalize goalOk g = gk at *
  cases gk with
  | false =>
    go_enter Tryz.func266, Tryz.ntmps266
    go_wp2_with (go_at_call 145; refine (GO.out).mono ?_; rintro e w1 ⟨rfl, hb⟩; have B1 := Sec.mk (bel B0.out hb); clear hb)
    go_ret
    exact ⟨_, rfl, by decide, B1.out⟩
  | true =>
  rcases (show g.kind = 2 ∨ g.kind = 3 ∨ g.kind = 4 ∨ g.kind = 5 ∨ (¬ g.kind = 2 ∧ ¬ g.kind = 3 ∧ ¬ g.kind = 4 ∧ ¬ g.kind = 5) by omega) with hk | hk | hk | hk | hk
  ·
    have k2 : (g.kind == 2) = true := by rw [hk]; rfl
    have k3 : (g.kind == 3) = false := by rw [hk]; rfl
    have k4 : (g.kind == 4) = false := by rw [hk]; rfl
    have k5 : (g.kind == 5) = false := by rw [hk]; rfl
    clear hk
    go_enter Tryz.func266, Tryz.ntmps266
    go_wp2_with (clear T0; go_at_call 145; have T1 : Sec True := ⟨trivial⟩; refine (GO.out).mono ?_; rintro e w1 ⟨rfl, hb⟩; have B1 := Sec.mk (bel B0.out hb); have P1 := Sec.mk ((hb.block _ (Array.getElem?_eq_some_iff.1 P0.out).1).trans P0.out); have X := (box_at P1.out).2.1; have z0 := X 0 _ rfl; have z1 := X 1 _ rfl; have Y1 := Sec.mk (X 1 _ rfl); have Y2 := Sec.mk (X 2 _ rfl); have Y3 := Sec.mk (X 3 _ rfl); have V1 := Sec.mk (Kd.V_below U1.out hb (by decide)); have V2 := Sec.mk (Kd.V_below U2.out hb (by decide)); have V3 := Sec.mk (Kd.V_below U3.out hb (by decide)); clear hb X)
    generalize w1 = wr at *
    refine wp_region_lists [[10], [11], [12], [13], [14], [15], [16], [17], [2]]
      [fun val _ _ => val 10 = .pointer (some ⟨w.heap.size, 1, none⟩),
        fun val _ _ => val 11 = .slice E1 g.a.length m1,
        fun val _ _ => ∃ x : ByteArray, val 12 = .string x ∧ x.size ≤ 1000,
        fun val _ _ => ∃ x : ByteArray, val 13 = .string x ∧ x.size ≤ 1010,
        fun val _ _ => val 14 = .pointer (some ⟨w.heap.size, 2, none⟩),
        fun val _ _ => val 15 = .slice E2 g.b.length m2,
        fun val _ _ => ∃ x : ByteArray, val 16 = .string x ∧ x.size ≤ 1000,
        fun val _ _ => ∃ x : ByteArray, val 17 = .string x ∧ x.size ≤ 2010,
        fun val _ _ => ∃ x : ByteArray, val 2 = .string x ∧ x.size ≤ 2010]
      [[], [], [], [], [], [], [], [], []] 0 (fun _ => False) (fun _ _ => False) (by kernel_rfl) ⟨by kernel_rfl, by kernel_rfl, by kernel_rfl, by kernel_rfl, by kernel_rfl⟩
      (.cons (stab_val 10 (fun v => v = .pointer (some ⟨w.heap.size, 1, none⟩))) (.cons (stab_val 11 (fun v => v = .slice E1 g.a.length m1)) (.cons (stab_val 12 (fun v => ∃ x : ByteArray, v = .string x ∧ x.size ≤ 1000)) (.cons (stab_val 13 (fun v => ∃ x : ByteArray, v = .string x ∧ x.size ≤ 1010)) (.cons (stab_val 14 (fun v => v = .pointer (some ⟨w.heap.size, 2, none⟩))) (.cons (stab_val 15 (fun v => v = .slice E2 g.b.length m2)) (.cons (stab_val 16 (fun v => ∃ x : ByteArray, v = .string x ∧ x.size ≤ 1000)) (.cons (stab_val 17 (fun v => ∃ x : ByteArray, v = .string x ∧ x.size ≤ 2010)) (.cons (stab_val 2 (fun v => ∃ x : ByteArray, v = .string x ∧ x.size ≤ 2010)) .nil)))))))))
      (fun i j k h1 h2 => h1.elim) (fun i k h => h.elim) (fun i h1 h2 => by simp at h1 h2; omega) (.cons ?_ (.cons ?_ (.cons ?_ (.cons ?_ (.cons ?_ (.cons ?_ (.cons ?_ (.cons ?_ (.cons ?_ .nil))))))))) ?_
    · intro a W own hfor huse hap hmi hF K hK
      have e1 : a.eval (.tmp 1) = .pointer (some ⟨w.heap.size, 0, none⟩) := hfor 1 (by kernel_rfl)
      refine op_val (.pointer (some ⟨w.heap.size, 1, none⟩)) W rfl ?_ (hK _ _ (post_pure ?_))
      · clear hfor huse hap hmi hK hF
        generalize a.eval = ρ at *
        go_simp
      · exact (if_pos rfl)
    · intro a W own hfor huse hap hmi hF K hK
      have e10 : a.eval (.tmp 10) = .pointer (some ⟨w.heap.size, 1, none⟩) := huse 0 (by kernel_rfl)
      have c1 := foot_cell hF (fun h => h) Y1.out
      refine op_val (.slice E1 g.a.length m1) W rfl ?_ (hK _ _ (post_pure ?_))
      · clear hfor huse hap hmi hK hF
        generalize a.eval = ρ at *
        go_simp
      · exact (if_pos rfl)
    · intro a W own hfor huse hap hmi hF K hK
      have e11 : a.eval (.tmp 11) = .slice E1 g.a.length m1 := huse 1 (by kernel_rfl)
      have efn : a.eval (.func 222) = .func (.func 222) #[] #[] := rfl
      refine op_call (f := 222) (args := #[.slice E1 g.a.length m1]) (fun v w1 => (∃ x : ByteArray, v = .string x ∧ x.size ≤ 1000) ∧ Below W.heap.size W w1) rfl ?_ ?_ (fun v w1 h => ?_)
      · clear hfor huse hap hmi hK hF
        generalize a.eval = ρ at *
        go_simp
      · exact (TrmText_c _ g.a ok W (foot_V hF (fun _ _ h => h) V1.out (by decide))).mono (by rintro e w1 ⟨x, rfl, h1, h2⟩; exact ⟨_, rfl, ⟨x, rfl, h1⟩, h2⟩)
      · obtain ⟨⟨x, rfl, hx⟩, h2⟩ := h
        exact hK _ _ (post_new h2 ⟨x, if_pos rfl, hx⟩)
    · intro a W own hfor huse hap hmi hF K hK
      obtain ⟨ya, ea, ha⟩ : ∃ x : ByteArray, a.eval (.tmp 12) = .string x ∧ x.size ≤ 1000 := huse 2 (by kernel_rfl)
      have ecb : a.eval (.const (.string ⟨#[32, 61, 32]⟩)) = .string ⟨#[32, 61, 32]⟩ := rfl
      have hb : (⟨#[32, 61, 32]⟩ : ByteArray).size ≤ 10 := by decide
      have hsz := Sec.mk (ByteArray.size_append (a := ya) (b := ⟨#[32, 61, 32]⟩))
      refine op_val (.string (ya ++ ⟨#[32, 61, 32]⟩)) W rfl ?_ (hK _ _ (post_pure ⟨_, if_pos rfl, by rw [hsz.out]; omega⟩))
      · clear hfor huse hap hmi hK hF
        generalize a.eval = ρ at *
        go_simp
        try omega
    · intro a W own hfor huse hap hmi hF K hK
      have e1 : a.eval (.tmp 1) = .pointer (some ⟨w.heap.size, 0, none⟩) := hfor 1 (by kernel_rfl)
      refine op_val (.pointer (some ⟨w.heap.size, 2, none⟩)) W rfl ?_ (hK _ _ (post_pure ?_))
      · clear hfor huse hap hmi hK hF
        generalize a.eval = ρ at *
        go_simp
      · exact (if_pos rfl)
    · intro a W own hfor huse hap hmi hF K hK
      have e14 : a.eval (.tmp 14) = .pointer (some ⟨w.heap.size, 2, none⟩) := huse 4 (by kernel_rfl)
      have c2 := foot_cell hF (fun h => h) Y2.out
      refine op_val (.slice E2 g.b.length m2) W rfl ?_ (hK _ _ (post_pure ?_))
      · clear hfor huse hap hmi hK hF
        generalize a.eval = ρ at *
        go_simp
      · exact (if_pos rfl)
    · intro a W own hfor huse hap hmi hF K hK
      have e15 : a.eval (.tmp 15) = .slice E2 g.b.length m2 := huse 5 (by kernel_rfl)
      have efn : a.eval (.func 222) = .func (.func 222) #[] #[] := rfl
      refine op_call (f := 222) (args := #[.slice E2 g.b.length m2]) (fun v w1 => (∃ x : ByteArray, v = .string x ∧ x.size ≤ 1000) ∧ Below W.heap.size W w1) rfl ?_ ?_ (fun v w1 h => ?_)
      · clear hfor huse hap hmi hK hF
        generalize a.eval = ρ at *
        go_simp
      · exact (TrmText_c _ g.b ok W (foot_V hF (fun _ _ h => h) V2.out (by decide))).mono (by rintro e w1 ⟨x, rfl, h1, h2⟩; exact ⟨_, rfl, ⟨x, rfl, h1⟩, h2⟩)
      · obtain ⟨⟨x, rfl, hx⟩, h2⟩ := h
        exact hK _ _ (post_new h2 ⟨x, if_pos rfl, hx⟩)
    · intro a W own hfor huse hap hmi hF K hK
      obtain ⟨ya, ea, ha⟩ : ∃ x : ByteArray, a.eval (.tmp 13) = .string x ∧ x.size ≤ 1010 := huse 3 (by kernel_rfl)
      obtain ⟨yb, eb, hb⟩ : ∃ x : ByteArray, a.eval (.tmp 16) = .string x ∧ x.size ≤ 1000 := huse 6 (by kernel_rfl)
      have hsz := Sec.mk (ByteArray.size_append (a := ya) (b := yb))
      refine op_val (.string (ya ++ yb)) W rfl ?_ (hK _ _ (post_pure ⟨_, if_pos rfl, by rw [hsz.out]; omega⟩))
      · clear hfor huse hap hmi hK hF
        generalize a.eval = ρ at *
        go_simp
        try omega
    · intro a W own hfor huse hap hmi hF K hK
      obtain ⟨y, e, h⟩ : ∃ x : ByteArray, a.eval (.tmp 17) = .string x ∧ x.size ≤ 2010 := huse 7 (by kernel_rfl)
      refine op_val (.string y) W rfl ?_ (hK _ _ (post_pure ⟨_, if_pos rfl, h⟩))
      · clear hfor huse hap hmi hK hF
        generalize a.eval = ρ at *
        go_simp
    intro a' W own hf
    have hsz := hf.st.size
    have hdf := hf.st.rest
    obtain ⟨⟨l⟩, df⟩ := a'
    have hl0 : l.length = 48 := hsz
    clear hsz
    obtain rfl : df = [] := hdf
    obtain ⟨x0, l0, rfl, hl1⟩ := lst_cons hl0
    clear hl0
    obtain ⟨x1, l1, rfl, hl2⟩ := lst_cons hl1
    clear hl1
    obtain ⟨x2, l2, rfl, hl3⟩ := lst_cons hl2
    clear hl2
    obtain ⟨x3, l3, rfl, hl4⟩ := lst_cons hl3
    clear hl3
    obtain ⟨x4, l4, rfl, hl5⟩ := lst_cons hl4
    clear hl4
    obtain ⟨x5, l5, rfl, hl6⟩ := lst_cons hl5
    clear hl5
    obtain ⟨x6, l6, rfl, hl7⟩ := lst_cons hl6
    clear hl6
    obtain ⟨x7, l7, rfl, hl8⟩ := lst_cons hl7
    clear hl7
    obtain ⟨x8, l8, rfl, hl9⟩ := lst_cons hl8
    clear hl8
    obtain ⟨x9, l9, rfl, hl10⟩ := lst_cons hl9
    clear hl9
    obtain ⟨x10, l10, rfl, hl11⟩ := lst_cons hl10
    clear hl10
    obtain ⟨x11, l11, rfl, hl12⟩ := lst_cons hl11
    clear hl11
    obtain ⟨x12, l12, rfl, hl13⟩ := lst_cons hl12
    clear hl12
    obtain ⟨x13, l13, rfl, hl14⟩ := lst_cons hl13
    clear hl13
    obtain ⟨x14, l14, rfl, hl15⟩ := lst_cons hl14
    clear hl14
    obtain ⟨x15, l15, rfl, hl16⟩ := lst_cons hl15
    clear hl15
    obtain ⟨x16, l16, rfl, hl17⟩ := lst_cons hl16
    clear hl16
    obtain ⟨x17, l17, rfl, hl18⟩ := lst_cons hl17
    clear hl17
    obtain ⟨x18, l18, rfl, hl19⟩ := lst_cons hl18
    clear hl18
    obtain ⟨x19, l19, rfl, hl20⟩ := lst_cons hl19
    clear hl19
    obtain ⟨x20, l20, rfl, hl21⟩ := lst_cons hl20
    clear hl20
    obtain ⟨x21, l21, rfl, hl22⟩ := lst_cons hl21
    clear hl21
    obtain ⟨x22, l22, rfl, hl23⟩ := lst_cons hl22
    clear hl22
    obtain ⟨x23, l23, rfl, hl24⟩ := lst_cons hl23
    clear hl23
    obtain ⟨x24, l24, rfl, hl25⟩ := lst_cons hl24
    clear hl24
    obtain ⟨x25, l25, rfl, hl26⟩ := lst_cons hl25
    clear hl25
    obtain ⟨x26, l26, rfl, hl27⟩ := lst_cons hl26
    clear hl26
    obtain ⟨x27, l27, rfl, hl28⟩ := lst_cons hl27
    clear hl27
    obtain ⟨x28, l28, rfl, hl29⟩ := lst_cons hl28
    clear hl28
    obtain ⟨x29, l29, rfl, hl30⟩ := lst_cons hl29
    clear hl29
    obtain ⟨x30, l30, rfl, hl31⟩ := lst_cons hl30
    clear hl30
    obtain ⟨x31, l31, rfl, hl32⟩ := lst_cons hl31
    clear hl31
    obtain ⟨x32, l32, rfl, hl33⟩ := lst_cons hl32
    clear hl32
    obtain ⟨x33, l33, rfl, hl34⟩ := lst_cons hl33
    clear hl33
    obtain ⟨x34, l34, rfl, hl35⟩ := lst_cons hl34
    clear hl34
    obtain ⟨x35, l35, rfl, hl36⟩ := lst_cons hl35
    clear hl35
    obtain ⟨x36, l36, rfl, hl37⟩ := lst_cons hl36
    clear hl36
    obtain ⟨x37, l37, rfl, hl38⟩ := lst_cons hl37
    clear hl37
    obtain ⟨x38, l38, rfl, hl39⟩ := lst_cons hl38
    clear hl38
    obtain ⟨x39, l39, rfl, hl40⟩ := lst_cons hl39
    clear hl39
    obtain ⟨x40, l40, rfl, hl41⟩ := lst_cons hl40
    clear hl40
    obtain ⟨x41, l41, rfl, hl42⟩ := lst_cons hl41
    clear hl41
    obtain ⟨x42, l42, rfl, hl43⟩ := lst_cons hl42
    clear hl42
    obtain ⟨x43, l43, rfl, hl44⟩ := lst_cons hl43
    clear hl43
    obtain ⟨x44, l44, rfl, hl45⟩ := lst_cons hl44
    clear hl44
    obtain ⟨x45, l45, rfl, hl46⟩ := lst_cons hl45
    clear hl45
    obtain ⟨x46, l46, rfl, hl47⟩ := lst_cons hl46
    clear hl46
    obtain ⟨x47, l47, rfl, hl48⟩ := lst_cons hl47
    clear hl47
    obtain rfl := List.eq_nil_of_length_eq_zero hl48
    have e0 := hf.st.kept 0 (by kernel_rfl)
    simp only [slotsOf, Act.eval, Array.getD_eq_getD_getElem?, List.getElem?_toArray, List.getElem?_cons_zero, Option.getD_some] at e0
    subst e0
    have e1 := hf.st.kept 1 (by kernel_rfl)
    simp only [slotsOf, Act.eval, Array.getD_eq_getD_getElem?, List.getElem?_toArray, List.getElem?_cons_succ, List.getElem?_cons_zero, Option.getD_some] at e1
    subst e1
    obtain ⟨y, e2, hy⟩ := hf.at 8 (fun val _ _ => ∃ x : ByteArray, val 2 = .string x ∧ x.size ≤ 2010) rfl (by kernel_rfl)
    have e2 : x2 = .string y := e2
    subst e2
    have B4 := Sec.mk (hf.st.foot.below (belD B1.out) (fun k h => h.elim))
    clear hf
    go_wp2
    go_ret
    exact ⟨y, rfl, by omega, B4.out⟩
  ·
    have k2 : (g.kind == 2) = false := by rw [hk]; rfl
    have k3 : (g.kind == 3) = true := by rw [hk]; rfl
    have k4 : (g.kind == 4) = false := by rw [hk]; rfl
    have k5 : (g.kind == 5) = false := by rw [hk]; rfl
    clear hk
    go_enter Tryz.func266, Tryz.ntmps266
    go_wp2_with (clear T0; go_at_call 145; have T1 : Sec True := ⟨trivial⟩; refine (GO.out).mono ?_; rintro e w1 ⟨rfl, hb⟩; have B1 := Sec.mk (bel B0.out hb); have P1 := Sec.mk ((hb.block _ (Array.getElem?_eq_some_iff.1 P0.out).1).trans P0.out); have X := (box_at P1.out).2.1; have z0 := X 0 _ rfl; have z1 := X 1 _ rfl; have Y1 := Sec.mk (X 1 _ rfl); have Y2 := Sec.mk (X 2 _ rfl); have Y3 := Sec.mk (X 3 _ rfl); have V1 := Sec.mk (Kd.V_below U1.out hb (by decide)); have V2 := Sec.mk (Kd.V_below U2.out hb (by decide)); have V3 := Sec.mk (Kd.V_below U3.out hb (by decide)); clear hb X)
    go_ret
    exact ⟨_, rfl, by decide, B1.out⟩
  ·
    have k2 : (g.kind == 2) = false := by rw [hk]; rfl
    have k3 : (g.kind == 3) = false := by rw [hk]; rfl
    have k4 : (g.kind == 4) = true := by rw [hk]; rfl
    have k5 : (g.kind == 5) = false := by rw [hk]; rfl
    clear hk
    go_enter Tryz.func266, Tryz.ntmps266
    go_wp2_with (clear T0; go_at_call 145; have T1 : Sec True := ⟨trivial⟩; refine (GO.out).mono ?_; rintro e w1 ⟨rfl, hb⟩; have B1 := Sec.mk (bel B0.out hb); have P1 := Sec.mk ((hb.block _ (Array.getElem?_eq_some_iff.1 P0.out).1).trans P0.out); have X := (box_at P1.out).2.1; have z0 := X 0 _ rfl; have z1 := X 1 _ rfl; have Y1 := Sec.mk (X 1 _ rfl); have Y2 := Sec.mk (X 2 _ rfl); have Y3 := Sec.mk (X 3 _ rfl); have V1 := Sec.mk (Kd.V_below U1.out hb (by decide)); have V2 := Sec.mk (Kd.V_below U2.out hb (by decide)); have V3 := Sec.mk (Kd.V_below U3.out hb (by decide)); clear hb X)
    generalize w1 = wr at *
    refine wp_region_lists [[22], [23], [24], [25], [26], [27], [28], [29], [2]]
      [fun val _ _ => val 22 = .pointer (some ⟨w.heap.size, 1, none⟩),
        fun val _ _ => val 23 = .slice E1 g.a.length m1,
        fun val _ _ => ∃ x : ByteArray, val 24 = .string x ∧ x.size ≤ 1000,
        fun val _ _ => ∃ x : ByteArray, val 25 = .string x ∧ x.size ≤ 1010,
        fun val _ _ => val 26 = .pointer (some ⟨w.heap.size, 2, none⟩),
        fun val _ _ => val 27 = .slice E2 g.b.length m2,
        fun val _ _ => ∃ x : ByteArray, val 28 = .string x ∧ x.size ≤ 1000,
        fun val _ _ => ∃ x : ByteArray, val 29 = .string x ∧ x.size ≤ 2010,
        fun val _ _ => ∃ x : ByteArray, val 2 = .string x ∧ x.size ≤ 2010]
      [[], [], [], [], [], [], [], [], []] 0 (fun _ => False) (fun _ _ => False) (by kernel_rfl) ⟨by kernel_rfl, by kernel_rfl, by kernel_rfl, by kernel_rfl, by kernel_rfl⟩
      (.cons (stab_val 22 (fun v => v = .pointer (some ⟨w.heap.size, 1, none⟩))) (.cons (stab_val 23 (fun v => v = .slice E1 g.a.length m1)) (.cons (stab_val 24 (fun v => ∃ x : ByteArray, v = .string x ∧ x.size ≤ 1000)) (.cons (stab_val 25 (fun v => ∃ x : ByteArray, v = .string x ∧ x.size ≤ 1010)) (.cons (stab_val 26 (fun v => v = .pointer (some ⟨w.heap.size, 2, none⟩))) (.cons (stab_val 27 (fun v => v = .slice E2 g.b.length m2)) (.cons (stab_val 28 (fun v => ∃ x : ByteArray, v = .string x ∧ x.size ≤ 1000)) (.cons (stab_val 29 (fun v => ∃ x : ByteArray, v = .string x ∧ x.size ≤ 2010)) (.cons (stab_val 2 (fun v => ∃ x : ByteArray, v = .string x ∧ x.size ≤ 2010)) .nil)))))))))
      (fun i j k h1 h2 => h1.elim) (fun i k h => h.elim) (fun i h1 h2 => by simp at h1 h2; omega) (.cons ?_ (.cons ?_ (.cons ?_ (.cons ?_ (.cons ?_ (.cons ?_ (.cons ?_ (.cons ?_ (.cons ?_ .nil))))))))) ?_
    · intro a W own hfor huse hap hmi hF K hK
      have e1 : a.eval (.tmp 1) = .pointer (some ⟨w.heap.size, 0, none⟩) := hfor 1 (by kernel_rfl)
      refine op_val (.pointer (some ⟨w.heap.size, 1, none⟩)) W rfl ?_ (hK _ _ (post_pure ?_))
      · clear hfor huse hap hmi hK hF
        generalize a.eval = ρ at *
        go_simp
      · exact (if_pos rfl)
    · intro a W own hfor huse hap hmi hF K hK
      have e22 : a.eval (.tmp 22) = .pointer (some ⟨w.heap.size, 1, none⟩) := huse 0 (by kernel_rfl)
      have c1 := foot_cell hF (fun h => h) Y1.out
      refine op_val (.slice E1 g.a.length m1) W rfl ?_ (hK _ _ (post_pure ?_))
      · clear hfor huse hap hmi hK hF
        generalize a.eval = ρ at *
        go_simp
      · exact (if_pos rfl)
    · intro a W own hfor huse hap hmi hF K hK
      have e23 : a.eval (.tmp 23) = .slice E1 g.a.length m1 := huse 1 (by kernel_rfl)
      have efn : a.eval (.func 222) = .func (.func 222) #[] #[] := rfl
      refine op_call (f := 222) (args := #[.slice E1 g.a.length m1]) (fun v w1 => (∃ x : ByteArray, v = .string x ∧ x.size ≤ 1000) ∧ Below W.heap.size W w1) rfl ?_ ?_ (fun v w1 h => ?_)
      · clear hfor huse hap hmi hK hF
        generalize a.eval = ρ at *
        go_simp
      · exact (TrmText_c _ g.a ok W (foot_V hF (fun _ _ h => h) V1.out (by decide))).mono (by rintro e w1 ⟨x, rfl, h1, h2⟩; exact ⟨_, rfl, ⟨x, rfl, h1⟩, h2⟩)
      · obtain ⟨⟨x, rfl, hx⟩, h2⟩ := h
        exact hK _ _ (post_new h2 ⟨x, if_pos rfl, hx⟩)
    · intro a W own hfor huse hap hmi hF K hK
      obtain ⟨ya, ea, ha⟩ : ∃ x : ByteArray, a.eval (.tmp 24) = .string x ∧ x.size ≤ 1000 := huse 2 (by kernel_rfl)
      have ecb : a.eval (.const (.string ⟨#[32, 60, 32]⟩)) = .string ⟨#[32, 60, 32]⟩ := rfl
      have hb : (⟨#[32, 60, 32]⟩ : ByteArray).size ≤ 10 := by decide
      have hsz := Sec.mk (ByteArray.size_append (a := ya) (b := ⟨#[32, 60, 32]⟩))
      refine op_val (.string (ya ++ ⟨#[32, 60, 32]⟩)) W rfl ?_ (hK _ _ (post_pure ⟨_, if_pos rfl, by rw [hsz.out]; omega⟩))
      · clear hfor huse hap hmi hK hF
        generalize a.eval = ρ at *
        go_simp
        try omega
    · intro a W own hfor huse hap hmi hF K hK
      have e1 : a.eval (.tmp 1) = .pointer (some ⟨w.heap.size, 0, none⟩) := hfor 1 (by kernel_rfl)
      refine op_val (.pointer (some ⟨w.heap.size, 2, none⟩)) W rfl ?_ (hK _ _ (post_pure ?_))
      · clear hfor huse hap hmi hK hF
        generalize a.eval = ρ at *
        go_simp
      · exact (if_pos rfl)
    · intro a W own hfor huse hap hmi hF K hK
      have e26 : a.eval (.tmp 26) = .pointer (some ⟨w.heap.size, 2, none⟩) := huse 4 (by kernel_rfl)
      have c2 := foot_cell hF (fun h => h) Y2.out
      refine op_val (.slice E2 g.b.length m2) W rfl ?_ (hK _ _ (post_pure ?_))
      · clear hfor huse hap hmi hK hF
        generalize a.eval = ρ at *
        go_simp
      · exact (if_pos rfl)
    · intro a W own hfor huse hap hmi hF K hK
      have e27 : a.eval (.tmp 27) = .slice E2 g.b.length m2 := huse 5 (by kernel_rfl)
      have efn : a.eval (.func 222) = .func (.func 222) #[] #[] := rfl
      refine op_call (f := 222) (args := #[.slice E2 g.b.length m2]) (fun v w1 => (∃ x : ByteArray, v = .string x ∧ x.size ≤ 1000) ∧ Below W.heap.size W w1) rfl ?_ ?_ (fun v w1 h => ?_)
      · clear hfor huse hap hmi hK hF
        generalize a.eval = ρ at *
        go_simp
      · exact (TrmText_c _ g.b ok W (foot_V hF (fun _ _ h => h) V2.out (by decide))).mono (by rintro e w1 ⟨x, rfl, h1, h2⟩; exact ⟨_, rfl, ⟨x, rfl, h1⟩, h2⟩)
      · obtain ⟨⟨x, rfl, hx⟩, h2⟩ := h
        exact hK _ _ (post_new h2 ⟨x, if_pos rfl, hx⟩)
    · intro a W own hfor huse hap hmi hF K hK
      obtain ⟨ya, ea, ha⟩ : ∃ x : ByteArray, a.eval (.tmp 25) = .string x ∧ x.size ≤ 1010 := huse 3 (by kernel_rfl)
      obtain ⟨yb, eb, hb⟩ : ∃ x : ByteArray, a.eval (.tmp 28) = .string x ∧ x.size ≤ 1000 := huse 6 (by kernel_rfl)
      have hsz := Sec.mk (ByteArray.size_append (a := ya) (b := yb))
      refine op_val (.string (ya ++ yb)) W rfl ?_ (hK _ _ (post_pure ⟨_, if_pos rfl, by rw [hsz.out]; omega⟩))
      · clear hfor huse hap hmi hK hF
        generalize a.eval = ρ at *
        go_simp
        try omega
    · intro a W own hfor huse hap hmi hF K hK
      obtain ⟨y, e, h⟩ : ∃ x : ByteArray, a.eval (.tmp 29) = .string x ∧ x.size ≤ 2010 := huse 7 (by kernel_rfl)
      refine op_val (.string y) W rfl ?_ (hK _ _ (post_pure ⟨_, if_pos rfl, h⟩))
      · clear hfor huse hap hmi hK hF
        generalize a.eval = ρ at *
        go_simp
    intro a' W own hf
    have hsz := hf.st.size
    have hdf := hf.st.rest
    obtain ⟨⟨l⟩, df⟩ := a'
    have hl0 : l.length = 48 := hsz
    clear hsz
    obtain rfl : df = [] := hdf
    obtain ⟨x0, l0, rfl, hl1⟩ := lst_cons hl0
    clear hl0
    obtain ⟨x1, l1, rfl, hl2⟩ := lst_cons hl1
    clear hl1
    obtain ⟨x2, l2, rfl, hl3⟩ := lst_cons hl2
    clear hl2
    obtain ⟨x3, l3, rfl, hl4⟩ := lst_cons hl3
    clear hl3
    obtain ⟨x4, l4, rfl, hl5⟩ := lst_cons hl4
    clear hl4
    obtain ⟨x5, l5, rfl, hl6⟩ := lst_cons hl5
    clear hl5
    obtain ⟨x6, l6, rfl, hl7⟩ := lst_cons hl6
    clear hl6
    obtain ⟨x7, l7, rfl, hl8⟩ := lst_cons hl7
    clear hl7
    obtain ⟨x8, l8, rfl, hl9⟩ := lst_cons hl8
    clear hl8
    obtain ⟨x9, l9, rfl, hl10⟩ := lst_cons hl9
    clear hl9
    obtain ⟨x10, l10, rfl, hl11⟩ := lst_cons hl10
    clear hl10
    obtain ⟨x11, l11, rfl, hl12⟩ := lst_cons hl11
    clear hl11
    obtain ⟨x12, l12, rfl, hl13⟩ := lst_cons hl12
    clear hl12
    obtain ⟨x13, l13, rfl, hl14⟩ := lst_cons hl13
    clear hl13
    obtain ⟨x14, l14, rfl, hl15⟩ := lst_cons hl14
    clear hl14
    obtain ⟨x15, l15, rfl, hl16⟩ := lst_cons hl15
    clear hl15
    obtain ⟨x16, l16, rfl, hl17⟩ := lst_cons hl16
    clear hl16
    obtain ⟨x17, l17, rfl, hl18⟩ := lst_cons hl17
    clear hl17
    obtain ⟨x18, l18, rfl, hl19⟩ := lst_cons hl18
    clear hl18
    obtain ⟨x19, l19, rfl, hl20⟩ := lst_cons hl19
    clear hl19
    obtain ⟨x20, l20, rfl, hl21⟩ := lst_cons hl20
    clear hl20
    obtain ⟨x21, l21, rfl, hl22⟩ := lst_cons hl21
    clear hl21
    obtain ⟨x22, l22, rfl, hl23⟩ := lst_cons hl22
    clear hl22
    obtain ⟨x23, l23, rfl, hl24⟩ := lst_cons hl23
    clear hl23
    obtain ⟨x24, l24, rfl, hl25⟩ := lst_cons hl24
    clear hl24
    obtain ⟨x25, l25, rfl, hl26⟩ := lst_cons hl25
    clear hl25
    obtain ⟨x26, l26, rfl, hl27⟩ := lst_cons hl26
    clear hl26
    obtain ⟨x27, l27, rfl, hl28⟩ := lst_cons hl27
    clear hl27
    obtain ⟨x28, l28, rfl, hl29⟩ := lst_cons hl28
    clear hl28
    obtain ⟨x29, l29, rfl, hl30⟩ := lst_cons hl29
    clear hl29
    obtain ⟨x30, l30, rfl, hl31⟩ := lst_cons hl30
    clear hl30
    obtain ⟨x31, l31, rfl, hl32⟩ := lst_cons hl31
    clear hl31
    obtain ⟨x32, l32, rfl, hl33⟩ := lst_cons hl32
    clear hl32
    obtain ⟨x33, l33, rfl, hl34⟩ := lst_cons hl33
    clear hl33
    obtain ⟨x34, l34, rfl, hl35⟩ := lst_cons hl34
    clear hl34
    obtain ⟨x35, l35, rfl, hl36⟩ := lst_cons hl35
    clear hl35
    obtain ⟨x36, l36, rfl, hl37⟩ := lst_cons hl36
    clear hl36
    obtain ⟨x37, l37, rfl, hl38⟩ := lst_cons hl37
    clear hl37
    obtain ⟨x38, l38, rfl, hl39⟩ := lst_cons hl38
    clear hl38
    obtain ⟨x39, l39, rfl, hl40⟩ := lst_cons hl39
    clear hl39
    obtain ⟨x40, l40, rfl, hl41⟩ := lst_cons hl40
    clear hl40
    obtain ⟨x41, l41, rfl, hl42⟩ := lst_cons hl41
    clear hl41
    obtain ⟨x42, l42, rfl, hl43⟩ := lst_cons hl42
    clear hl42
    obtain ⟨x43, l43, rfl, hl44⟩ := lst_cons hl43
    clear hl43
    obtain ⟨x44, l44, rfl, hl45⟩ := lst_cons hl44
    clear hl44
    obtain ⟨x45, l45, rfl, hl46⟩ := lst_cons hl45
    clear hl45
    obtain ⟨x46, l46, rfl, hl47⟩ := lst_cons hl46
    clear hl46
    obtain ⟨x47, l47, rfl, hl48⟩ := lst_cons hl47
    clear hl47
    obtain rfl := List.eq_nil_of_length_eq_zero hl48
    have e0 := hf.st.kept 0 (by kernel_rfl)
    simp only [slotsOf, Act.eval, Array.getD_eq_getD_getElem?, List.getElem?_toArray, List.getElem?_cons_zero, Option.getD_some] at e0
    subst e0
    have e1 := hf.st.kept 1 (by kernel_rfl)
    simp only [slotsOf, Act.eval, Array.getD_eq_getD_getElem?, List.getElem?_toArray, List.getElem?_cons_succ, List.getElem?_cons_zero, Option.getD_some] at e1
    subst e1
    obtain ⟨y, e2, hy⟩ := hf.at 8 (fun val _ _ => ∃ x : ByteArray, val 2 = .string x ∧ x.size ≤ 2010) rfl (by kernel_rfl)
    have e2 : x2 = .string y := e2
    subst e2
    have B4 := Sec.mk (hf.st.foot.below (belD B1.out) (fun k h => h.elim))
    clear hf
    go_wp2
    go_ret
    exact ⟨y, rfl, by omega, B4.out⟩
  ·
    have k2 : (g.kind == 2) = false := by rw [hk]; rfl
    have k3 : (g.kind == 3) = false := by rw [hk]; rfl
    have k4 : (g.kind == 4) = false := by rw [hk]; rfl
    have k5 : (g.kind == 5) = true := by rw [hk]; rfl
    clear hk
    go_enter Tryz.func266, Tryz.ntmps266
    go_wp2_with (clear T0; go_at_call 145; have T1 : Sec True := ⟨trivial⟩; refine (GO.out).mono ?_; rintro e w1 ⟨rfl, hb⟩; have B1 := Sec.mk (bel B0.out hb); have P1 := Sec.mk ((hb.block _ (Array.getElem?_eq_some_iff.1 P0.out).1).trans P0.out); have X := (box_at P1.out).2.1; have z0 := X 0 _ rfl; have z1 := X 1 _ rfl; have Y1 := Sec.mk (X 1 _ rfl); have Y2 := Sec.mk (X 2 _ rfl); have Y3 := Sec.mk (X 3 _ rfl); have V1 := Sec.mk (Kd.V_below U1.out hb (by decide)); have V2 := Sec.mk (Kd.V_below U2.out hb (by decide)); have V3 := Sec.mk (Kd.V_below U3.out hb (by decide)); clear hb X)
    generalize w1 = wr at *
    refine wp_region_lists [[32], [33], [34], [35], [36], [37], [38], [39], [40], [41], [42], [43], [44], [2]]
      [fun val _ _ => val 32 = .pointer (some ⟨w.heap.size, 1, none⟩),
        fun val _ _ => val 33 = .slice E1 g.a.length m1,
        fun val _ _ => ∃ x : ByteArray, val 34 = .string x ∧ x.size ≤ 1000,
        fun val _ _ => ∃ x : ByteArray, val 35 = .string x ∧ x.size ≤ 1010,
        fun val _ _ => val 36 = .pointer (some ⟨w.heap.size, 2, none⟩),
        fun val _ _ => val 37 = .slice E2 g.b.length m2,
        fun val _ _ => ∃ x : ByteArray, val 38 = .string x ∧ x.size ≤ 1000,
        fun val _ _ => ∃ x : ByteArray, val 39 = .string x ∧ x.size ≤ 2010,
        fun val _ _ => ∃ x : ByteArray, val 40 = .string x ∧ x.size ≤ 2020,
        fun val _ _ => val 41 = .pointer (some ⟨w.heap.size, 3, none⟩),
        fun val _ _ => val 42 = .slice E3 g.c.length m3,
        fun val _ _ => ∃ x : ByteArray, val 43 = .string x ∧ x.size ≤ 1000,
        fun val _ _ => ∃ x : ByteArray, val 44 = .string x ∧ x.size ≤ 3020,
        fun val _ _ => ∃ x : ByteArray, val 2 = .string x ∧ x.size ≤ 3020]
      [[], [], [], [], [], [], [], [], [], [], [], [], [], []] 0 (fun _ => False) (fun _ _ => False) (by kernel_rfl) ⟨by kernel_rfl, by kernel_rfl, by kernel_rfl, by kernel_rfl, by kernel_rfl⟩
      (.cons (stab_val 32 (fun v => v = .pointer (some ⟨w.heap.size, 1, none⟩))) (.cons (stab_val 33 (fun v => v = .slice E1 g.a.length m1)) (.cons (stab_val 34 (fun v => ∃ x : ByteArray, v = .string x ∧ x.size ≤ 1000)) (.cons (stab_val 35 (fun v => ∃ x : ByteArray, v = .string x ∧ x.size ≤ 1010)) (.cons (stab_val 36 (fun v => v = .pointer (some ⟨w.heap.size, 2, none⟩))) (.cons (stab_val 37 (fun v => v = .slice E2 g.b.length m2)) (.cons (stab_val 38 (fun v => ∃ x : ByteArray, v = .string x ∧ x.size ≤ 1000)) (.cons (stab_val 39 (fun v => ∃ x : ByteArray, v = .string x ∧ x.size ≤ 2010)) (.cons (stab_val 40 (fun v => ∃ x : ByteArray, v = .string x ∧ x.size ≤ 2020)) (.cons (stab_val 41 (fun v => v = .pointer (some ⟨w.heap.size, 3, none⟩))) (.cons (stab_val 42 (fun v => v = .slice E3 g.c.length m3)) (.cons (stab_val 43 (fun v => ∃ x : ByteArray, v = .string x ∧ x.size ≤ 1000)) (.cons (stab_val 44 (fun v => ∃ x : ByteArray, v = .string x ∧ x.size ≤ 3020)) (.cons (stab_val 2 (fun v => ∃ x : ByteArray, v = .string x ∧ x.size ≤ 3020)) .nil))))))))))))))
      (fun i j k h1 h2 => h1.elim) (fun i k h => h.elim) (fun i h1 h2 => by simp at h1 h2; omega) (.cons ?_ (.cons ?_ (.cons ?_ (.cons ?_ (.cons ?_ (.cons ?_ (.cons ?_ (.cons ?_ (.cons ?_ (.cons ?_ (.cons ?_ (.cons ?_ (.cons ?_ (.cons ?_ .nil)))))))))))))) ?_
    · intro a W own hfor huse hap hmi hF K hK
      have e1 : a.eval (.tmp 1) = .pointer (some ⟨w.heap.size, 0, none⟩) := hfor 1 (by kernel_rfl)
      refine op_val (.pointer (some ⟨w.heap.size, 1, none⟩)) W rfl ?_ (hK _ _ (post_pure ?_))
      · clear hfor huse hap hmi hK hF
        generalize a.eval = ρ at *
        go_simp
      · exact (if_pos rfl)
    · intro a W own hfor huse hap hmi hF K hK
      have e32 : a.eval (.tmp 32) = .pointer (some ⟨w.heap.size, 1, none⟩) := huse 0 (by kernel_rfl)
      have c1 := foot_cell hF (fun h => h) Y1.out
      refine op_val (.slice E1 g.a.length m1) W rfl ?_ (hK _ _ (post_pure ?_))
      · clear hfor huse hap hmi hK hF
        generalize a.eval = ρ at *
        go_simp
      · exact (if_pos rfl)
    · intro a W own hfor huse hap hmi hF K hK
      have e33 : a.eval (.tmp 33) = .slice E1 g.a.length m1 := huse 1 (by kernel_rfl)
      have efn : a.eval (.func 222) = .func (.func 222) #[] #[] := rfl
      refine op_call (f := 222) (args := #[.slice E1 g.a.length m1]) (fun v w1 => (∃ x : ByteArray, v = .string x ∧ x.size ≤ 1000) ∧ Below W.heap.size W w1) rfl ?_ ?_ (fun v w1 h => ?_)
      · clear hfor huse hap hmi hK hF
        generalize a.eval = ρ at *
        go_simp
      · exact (TrmText_c _ g.a ok W (foot_V hF (fun _ _ h => h) V1.out (by decide))).mono (by rintro e w1 ⟨x, rfl, h1, h2⟩; exact ⟨_, rfl, ⟨x, rfl, h1⟩, h2⟩)
      · obtain ⟨⟨x, rfl, hx⟩, h2⟩ := h
        exact hK _ _ (post_new h2 ⟨x, if_pos rfl, hx⟩)
    · intro a W own hfor huse hap hmi hF K hK
      obtain ⟨ya, ea, ha⟩ : ∃ x : ByteArray, a.eval (.tmp 34) = .string x ∧ x.size ≤ 1000 := huse 2 (by kernel_rfl)
      have ecb : a.eval (.const (.string ⟨#[32, 43, 32]⟩)) = .string ⟨#[32, 43, 32]⟩ := rfl
      have hb : (⟨#[32, 43, 32]⟩ : ByteArray).size ≤ 10 := by decide
      have hsz := Sec.mk (ByteArray.size_append (a := ya) (b := ⟨#[32, 43, 32]⟩))
      refine op_val (.string (ya ++ ⟨#[32, 43, 32]⟩)) W rfl ?_ (hK _ _ (post_pure ⟨_, if_pos rfl, by rw [hsz.out]; omega⟩))
      · clear hfor huse hap hmi hK hF
        generalize a.eval = ρ at *
        go_simp
        try omega
    · intro a W own hfor huse hap hmi hF K hK
      have e1 : a.eval (.tmp 1) = .pointer (some ⟨w.heap.size, 0, none⟩) := hfor 1 (by kernel_rfl)
      refine op_val (.pointer (some ⟨w.heap.size, 2, none⟩)) W rfl ?_ (hK _ _ (post_pure ?_))
      · clear hfor huse hap hmi hK hF
        generalize a.eval = ρ at *
        go_simp
      · exact (if_pos rfl)
    · intro a W own hfor huse hap hmi hF K hK
      have e36 : a.eval (.tmp 36) = .pointer (some ⟨w.heap.size, 2, none⟩) := huse 4 (by kernel_rfl)
      have c2 := foot_cell hF (fun h => h) Y2.out
      refine op_val (.slice E2 g.b.length m2) W rfl ?_ (hK _ _ (post_pure ?_))
      · clear hfor huse hap hmi hK hF
        generalize a.eval = ρ at *
        go_simp
      · exact (if_pos rfl)
    · intro a W own hfor huse hap hmi hF K hK
      have e37 : a.eval (.tmp 37) = .slice E2 g.b.length m2 := huse 5 (by kernel_rfl)
      have efn : a.eval (.func 222) = .func (.func 222) #[] #[] := rfl
      refine op_call (f := 222) (args := #[.slice E2 g.b.length m2]) (fun v w1 => (∃ x : ByteArray, v = .string x ∧ x.size ≤ 1000) ∧ Below W.heap.size W w1) rfl ?_ ?_ (fun v w1 h => ?_)
      · clear hfor huse hap hmi hK hF
        generalize a.eval = ρ at *
        go_simp
      · exact (TrmText_c _ g.b ok W (foot_V hF (fun _ _ h => h) V2.out (by decide))).mono (by rintro e w1 ⟨x, rfl, h1, h2⟩; exact ⟨_, rfl, ⟨x, rfl, h1⟩, h2⟩)
      · obtain ⟨⟨x, rfl, hx⟩, h2⟩ := h
        exact hK _ _ (post_new h2 ⟨x, if_pos rfl, hx⟩)
    · intro a W own hfor huse hap hmi hF K hK
      obtain ⟨ya, ea, ha⟩ : ∃ x : ByteArray, a.eval (.tmp 35) = .string x ∧ x.size ≤ 1010 := huse 3 (by kernel_rfl)
      obtain ⟨yb, eb, hb⟩ : ∃ x : ByteArray, a.eval (.tmp 38) = .string x ∧ x.size ≤ 1000 := huse 6 (by kernel_rfl)
      have hsz := Sec.mk (ByteArray.size_append (a := ya) (b := yb))
      refine op_val (.string (ya ++ yb)) W rfl ?_ (hK _ _ (post_pure ⟨_, if_pos rfl, by rw [hsz.out]; omega⟩))
      · clear hfor huse hap hmi hK hF
        generalize a.eval = ρ at *
        go_simp
        try omega
    · intro a W own hfor huse hap hmi hF K hK
      obtain ⟨ya, ea, ha⟩ : ∃ x : ByteArray, a.eval (.tmp 39) = .string x ∧ x.size ≤ 2010 := huse 7 (by kernel_rfl)
      have ecb : a.eval (.const (.string ⟨#[32, 61, 32]⟩)) = .string ⟨#[32, 61, 32]⟩ := rfl
      have hb : (⟨#[32, 61, 32]⟩ : ByteArray).size ≤ 10 := by decide
      have hsz := Sec.mk (ByteArray.size_append (a := ya) (b := ⟨#[32, 61, 32]⟩))
      refine op_val (.string (ya ++ ⟨#[32, 61, 32]⟩)) W rfl ?_ (hK _ _ (post_pure ⟨_, if_pos rfl, by rw [hsz.out]; omega⟩))
      · clear hfor huse hap hmi hK hF
        generalize a.eval = ρ at *
        go_simp
        try omega
    · intro a W own hfor huse hap hmi hF K hK
      have e1 : a.eval (.tmp 1) = .pointer (some ⟨w.heap.size, 0, none⟩) := hfor 1 (by kernel_rfl)
      refine op_val (.pointer (some ⟨w.heap.size, 3, none⟩)) W rfl ?_ (hK _ _ (post_pure ?_))
      · clear hfor huse hap hmi hK hF
        generalize a.eval = ρ at *
        go_simp
      · exact (if_pos rfl)
    · intro a W own hfor huse hap hmi hF K hK
      have e41 : a.eval (.tmp 41) = .pointer (some ⟨w.heap.size, 3, none⟩) := huse 9 (by kernel_rfl)
      have c3 := foot_cell hF (fun h => h) Y3.out
      refine op_val (.slice E3 g.c.length m3) W rfl ?_ (hK _ _ (post_pure ?_))
      · clear hfor huse hap hmi hK hF
        generalize a.eval = ρ at *
        go_simp
      · exact (if_pos rfl)
    · intro a W own hfor huse hap hmi hF K hK
      have e42 : a.eval (.tmp 42) = .slice E3 g.c.length m3 := huse 10 (by kernel_rfl)
      have efn : a.eval (.func 222) = .func (.func 222) #[] #[] := rfl
      refine op_call (f := 222) (args := #[.slice E3 g.c.length m3]) (fun v w1 => (∃ x : ByteArray, v = .string x ∧ x.size ≤ 1000) ∧ Below W.heap.size W w1) rfl ?_ ?_ (fun v w1 h => ?_)
      · clear hfor huse hap hmi hK hF
        generalize a.eval = ρ at *
        go_simp
      · exact (TrmText_c _ g.c ok W (foot_V hF (fun _ _ h => h) V3.out (by decide))).mono (by rintro e w1 ⟨x, rfl, h1, h2⟩; exact ⟨_, rfl, ⟨x, rfl, h1⟩, h2⟩)
      · obtain ⟨⟨x, rfl, hx⟩, h2⟩ := h
        exact hK _ _ (post_new h2 ⟨x, if_pos rfl, hx⟩)
    · intro a W own hfor huse hap hmi hF K hK
      obtain ⟨ya, ea, ha⟩ : ∃ x : ByteArray, a.eval (.tmp 40) = .string x ∧ x.size ≤ 2020 := huse 8 (by kernel_rfl)
      obtain ⟨yb, eb, hb⟩ : ∃ x : ByteArray, a.eval (.tmp 43) = .string x ∧ x.size ≤ 1000 := huse 11 (by kernel_rfl)
      have hsz := Sec.mk (ByteArray.size_append (a := ya) (b := yb))
      refine op_val (.string (ya ++ yb)) W rfl ?_ (hK _ _ (post_pure ⟨_, if_pos rfl, by rw [hsz.out]; omega⟩))
      · clear hfor huse hap hmi hK hF
        generalize a.eval = ρ at *
        go_simp
        try omega
    · intro a W own hfor huse hap hmi hF K hK
      obtain ⟨y, e, h⟩ : ∃ x : ByteArray, a.eval (.tmp 44) = .string x ∧ x.size ≤ 3020 := huse 12 (by kernel_rfl)
      refine op_val (.string y) W rfl ?_ (hK _ _ (post_pure ⟨_, if_pos rfl, h⟩))
      · clear hfor huse hap hmi hK hF
        generalize a.eval = ρ at *
        go_simp
    intro a' W own hf
    have hsz := hf.st.size
    have hdf := hf.st.rest
    obtain ⟨⟨l⟩, df⟩ := a'
    have hl0 : l.length = 48 := hsz
    clear hsz
    obtain rfl : df = [] := hdf
    obtain ⟨x0, l0, rfl, hl1⟩ := lst_cons hl0
    clear hl0
    obtain ⟨x1, l1, rfl, hl2⟩ := lst_cons hl1
    clear hl1
    obtain ⟨x2, l2, rfl, hl3⟩ := lst_cons hl2
    clear hl2
    obtain ⟨x3, l3, rfl, hl4⟩ := lst_cons hl3
    clear hl3
    obtain ⟨x4, l4, rfl, hl5⟩ := lst_cons hl4
    clear hl4
    obtain ⟨x5, l5, rfl, hl6⟩ := lst_cons hl5
    clear hl5
    obtain ⟨x6, l6, rfl, hl7⟩ := lst_cons hl6
    clear hl6
    obtain ⟨x7, l7, rfl, hl8⟩ := lst_cons hl7
    clear hl7
    obtain ⟨x8, l8, rfl, hl9⟩ := lst_cons hl8
    clear hl8
    obtain ⟨x9, l9, rfl, hl10⟩ := lst_cons hl9
    clear hl9
    obtain ⟨x10, l10, rfl, hl11⟩ := lst_cons hl10
    clear hl10
    obtain ⟨x11, l11, rfl, hl12⟩ := lst_cons hl11
    clear hl11
    obtain ⟨x12, l12, rfl, hl13⟩ := lst_cons hl12
    clear hl12
    obtain ⟨x13, l13, rfl, hl14⟩ := lst_cons hl13
    clear hl13
    obtain ⟨x14, l14, rfl, hl15⟩ := lst_cons hl14
    clear hl14
    obtain ⟨x15, l15, rfl, hl16⟩ := lst_cons hl15
    clear hl15
    obtain ⟨x16, l16, rfl, hl17⟩ := lst_cons hl16
    clear hl16
    obtain ⟨x17, l17, rfl, hl18⟩ := lst_cons hl17
    clear hl17
    obtain ⟨x18, l18, rfl, hl19⟩ := lst_cons hl18
    clear hl18
    obtain ⟨x19, l19, rfl, hl20⟩ := lst_cons hl19
    clear hl19
    obtain ⟨x20, l20, rfl, hl21⟩ := lst_cons hl20
    clear hl20
    obtain ⟨x21, l21, rfl, hl22⟩ := lst_cons hl21
    clear hl21
    obtain ⟨x22, l22, rfl, hl23⟩ := lst_cons hl22
    clear hl22
    obtain ⟨x23, l23, rfl, hl24⟩ := lst_cons hl23
    clear hl23
    obtain ⟨x24, l24, rfl, hl25⟩ := lst_cons hl24
    clear hl24
    obtain ⟨x25, l25, rfl, hl26⟩ := lst_cons hl25
    clear hl25
    obtain ⟨x26, l26, rfl, hl27⟩ := lst_cons hl26
    clear hl26
    obtain ⟨x27, l27, rfl, hl28⟩ := lst_cons hl27
    clear hl27
    obtain ⟨x28, l28, rfl, hl29⟩ := lst_cons hl28
    clear hl28
    obtain ⟨x29, l29, rfl, hl30⟩ := lst_cons hl29
    clear hl29
    obtain ⟨x30, l30, rfl, hl31⟩ := lst_cons hl30
    clear hl30
    obtain ⟨x31, l31, rfl, hl32⟩ := lst_cons hl31
    clear hl31
    obtain ⟨x32, l32, rfl, hl33⟩ := lst_cons hl32
    clear hl32
    obtain ⟨x33, l33, rfl, hl34⟩ := lst_cons hl33
    clear hl33
    obtain ⟨x34, l34, rfl, hl35⟩ := lst_cons hl34
    clear hl34
    obtain ⟨x35, l35, rfl, hl36⟩ := lst_cons hl35
    clear hl35
    obtain ⟨x36, l36, rfl, hl37⟩ := lst_cons hl36
    clear hl36
    obtain ⟨x37, l37, rfl, hl38⟩ := lst_cons hl37
    clear hl37
    obtain ⟨x38, l38, rfl, hl39⟩ := lst_cons hl38
    clear hl38
    obtain ⟨x39, l39, rfl, hl40⟩ := lst_cons hl39
    clear hl39
    obtain ⟨x40, l40, rfl, hl41⟩ := lst_cons hl40
    clear hl40
    obtain ⟨x41, l41, rfl, hl42⟩ := lst_cons hl41
    clear hl41
    obtain ⟨x42, l42, rfl, hl43⟩ := lst_cons hl42
    clear hl42
    obtain ⟨x43, l43, rfl, hl44⟩ := lst_cons hl43
    clear hl43
    obtain ⟨x44, l44, rfl, hl45⟩ := lst_cons hl44
    clear hl44
    obtain ⟨x45, l45, rfl, hl46⟩ := lst_cons hl45
    clear hl45
    obtain ⟨x46, l46, rfl, hl47⟩ := lst_cons hl46
    clear hl46
    obtain ⟨x47, l47, rfl, hl48⟩ := lst_cons hl47
    clear hl47
    obtain rfl := List.eq_nil_of_length_eq_zero hl48
    have e0 := hf.st.kept 0 (by kernel_rfl)
    simp only [slotsOf, Act.eval, Array.getD_eq_getD_getElem?, List.getElem?_toArray, List.getElem?_cons_zero, Option.getD_some] at e0
    subst e0
    have e1 := hf.st.kept 1 (by kernel_rfl)
    simp only [slotsOf, Act.eval, Array.getD_eq_getD_getElem?, List.getElem?_toArray, List.getElem?_cons_succ, List.getElem?_cons_zero, Option.getD_some] at e1
    subst e1
    obtain ⟨y, e2, hy⟩ := hf.at 13 (fun val _ _ => ∃ x : ByteArray, val 2 = .string x ∧ x.size ≤ 3020) rfl (by kernel_rfl)
    have e2 : x2 = .string y := e2
    subst e2
    have B4 := Sec.mk (hf.st.foot.below (belD B1.out) (fun k h => h.elim))
    clear hf
    go_wp2
    go_ret
    exact ⟨y, rfl, by omega, B4.out⟩
  · have k2 : (g.kind == 2) = false := beq_eq_false_iff_ne.2 hk.1
    have k3 : (g.kind == 3) = false := beq_eq_false_iff_ne.2 hk.2.1
    have k4 : (g.kind == 4) = false := beq_eq_false_iff_ne.2 hk.2.2.1
    have k5 : (g.kind == 5) = false := beq_eq_false_iff_ne.2 hk.2.2.2
    clear hk
    go_enter Tryz.func266, Tryz.ntmps266
    go_wp2_with (first | (clear T1; go_at_call 222; refine (TrmText_c _ g.a ok _ V1.out).mono ?_; rintro e w2 ⟨s, rfl, hs, hb⟩; have B2 := Sec.mk (bel B1.out hb); clear hb) | (clear T0; go_at_call 145; have T1 : Sec True := ⟨trivial⟩; refine (GO.out).mono ?_; rintro e w1 ⟨rfl, hb⟩; have B1 := Sec.mk (bel B0.out hb); have P1 := Sec.mk ((hb.block _ (Array.getElem?_eq_some_iff.1 P0.out).1).trans P0.out); have X := (box_at P1.out).2.1; have z0 := X 0 _ rfl; have z1 := X 1 _ rfl; have Y1 := Sec.mk (X 1 _ rfl); have Y2 := Sec.mk (X 2 _ rfl); have Y3 := Sec.mk (X 3 _ rfl); have V1 := Sec.mk (Kd.V_below U1.out hb (by decide)); have V2 := Sec.mk (Kd.V_below U2.out hb (by decide)); have V3 := Sec.mk (Kd.V_below U3.out hb (by decide)); clear hb X))
    go_ret
    exact ⟨_, rfl, by omega, B2.out⟩
end
section
open Go.RowKit
set_option linter.unusedVariables false
set_option maxRecDepth 100000
set_option maxHeartbeats 2000000 in
theorem l3Line_c (c : Clause) (hb0 : c.body.length ≤ 20) (cs : List Value) (ok : Nat → Prop) (w : World) (hK : kClause.K w ok c cs) :
    Calls Tryz.prog 255 #[.agg cs.toArray] w fun e w' => ∃ s : ByteArray, e = .returned (.string s) ∧ s.size ≤ 200000 ∧ Below w.heap.size w w' := by
  obtain ⟨v0, v1, rfl, h0, h1⟩ := kClause_K hK
  have H0 := Sec.mk h0
  obtain ⟨E0, m0, rfl, -⟩ := h0
  obtain ⟨E1, m1, rfl, -, -, l1, hC, -⟩ := h1
  have HC := Sec.mk hC
  have B0 := Sec.mk (belA (Below.refl w.heap.size w) (.cells #[.slice E0 c.head.length m0, .slice E1 c.body.length m1] 113))
  have P0 := Sec.mk (heap_alloc_new w (.cells #[.slice E0 c.head.length m0, .slice E1 c.body.length m1] 113))
  have X := (box_at P0.out).2.1
  have y0 := X 0 _ rfl
  have y1 := X 1 _ rfl
  clear X hK hC
  have hu2 := Tryz.underlying100
  go_enter Tryz.func255, Tryz.ntmps255
  go_wp2_with (go_at_call 222; refine (TrmText_c _ c.head ok _ (Kd.V_below H0.out B0.out (by decide))).mono ?_; rintro e w1 ⟨s0, rfl, hs0, hb⟩; have B1 := Sec.mk (bel B0.out hb); have P1 := Sec.mk ((hb.block _ (Array.getElem?_eq_some_iff.1 P0.out).1).trans P0.out); clear hb)
  clear y0 y1
  go_loopw [3, 4] (fun sv iv wr => ∃ (i : Nat) (s : ByteArray), i ≤ c.body.length ∧ iv = .int .i64 i ∧ sv = .string s ∧ s.size ≤ 1000 + 5000 * i ∧ Sec (Below w.heap.size w wr ∧ wr.heap[w.heap.size]? = some (.cells #[.slice E0 c.head.length m0, .slice E1 c.body.length m1] 113 (0, 0)))) (fun _ iv _ => c.body.length - (intOf iv).toNat)
  case atStart => exact ⟨0, s0, Nat.zero_le _, rfl, rfl, by omega, ⟨B1.out, P1.out⟩⟩
  case round =>
    obtain ⟨i, s, hi, rfl, rfl, hs, hb⟩ := hrel
    have X := (box_at hb.out.2).2.1
    have u1 := X 1 _ rfl
    clear X
    by_cases hlt : i < c.body.length
    · obtain ⟨b, off, F1, n1, F2, n2, F3, n3, rfl, _, x0, x1, x2, x3, hKg⟩ := goal_at (Kd.C_below HC.out hb.out.1 (by decide)) i hlt
      generalize c.body[i] = g at *
      have GT := Sec.mk (GoalText_c g _ ok wr hKg)
      clear hKg
      have i0 : (0 : Int) ≤ (i : Int) := by omega
      have i1 : (i : Int) < (c.body.length : Int) := by omega
      have hsm : s.size ≤ 200000 := by omega
      obtain ⟨q, hq⟩ : ∃ q, ((i : Int) == 0) = q := ⟨_, rfl⟩
      have e1 := Sec.mk (ByteArray.size_append (a := s) (b := ⟨#[32, 105, 102, 32]⟩))
      have e2 := Sec.mk (ByteArray.size_append (a := s) (b := ⟨#[32, 97, 110, 100, 32]⟩))
      have e3 : (s ++ ⟨#[32, 105, 102, 32]⟩ : ByteArray).size ≤ 300000 := by rw [e1.out]; show s.size + 4 ≤ _; omega
      have e4 : (s ++ ⟨#[32, 97, 110, 100, 32]⟩ : ByteArray).size ≤ 300000 := by rw [e2.out]; show s.size + 5 ≤ _; omega
      cases q with
      | true =>
        go_wp2_with (go_at_call 266; refine GT.out.mono ?_; rintro e w2 ⟨s2, rfl, hs2, hb2⟩; have B2 := Sec.mk (bel hb.out.1 hb2); have P2 := Sec.mk ((hb2.block _ (Array.getElem?_eq_some_iff.1 hb.out.2).1).trans hb.out.2); have e5 := Sec.mk (ByteArray.size_append (a := s ++ ⟨#[32, 105, 102, 32]⟩) (b := s2)); clear hb2)
        go_roundw
        case rel => exact ⟨i + 1, _, by omega, by go_num, rfl, by rw [e5.out, e1.out]; show s.size + 4 + s2.size ≤ _; omega, ⟨B2.out, P2.out⟩⟩
        case measure => simp [intOf]; omega
      | false =>
        go_wp2_with (go_at_call 266; refine GT.out.mono ?_; rintro e w2 ⟨s2, rfl, hs2, hb2⟩; have B2 := Sec.mk (bel hb.out.1 hb2); have P2 := Sec.mk ((hb2.block _ (Array.getElem?_eq_some_iff.1 hb.out.2).1).trans hb.out.2); have e5 := Sec.mk (ByteArray.size_append (a := s ++ ⟨#[32, 97, 110, 100, 32]⟩) (b := s2)); clear hb2)
        go_roundw
        case rel => exact ⟨i + 1, _, by omega, by go_num, rfl, by rw [e5.out, e2.out]; show s.size + 5 + s2.size ≤ _; omega, ⟨B2.out, P2.out⟩⟩
        case measure => simp [intOf]; omega
    · go_wp2
      go_ret
      exact ⟨s, rfl, by omega, hb.out.1⟩
end
end Go.Proofs.YtgiobpggonceeaaGreatDoor
