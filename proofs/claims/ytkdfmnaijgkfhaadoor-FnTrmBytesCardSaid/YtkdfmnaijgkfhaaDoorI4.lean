/- Contracts: the program's own TrmBytes. -/
import Derived.Test.YtkdfmnaijgkfhaaDoorI3
import Derived.Deep.RegionHeld3
namespace Go.Proofs.YtkdfmnaijgkfhaaDoor
open Go.RowKit
set_option linter.unusedVariables false
set_option maxRecDepth 100000
set_option maxHeartbeats 2000000 in
theorem TrmBytes_i (w : World) (v : Value) (t : Term) (ok : Nat → Prop) (hV : kCell.V w ok v t) :
    Calls Tryd.prog 11 #[v] w (TB w (trmBytes t)) := by
  have hu := Tryd.underlying55
  have H0 := Sec.mk (TrmOk_i v t ok w hV)
  obtain ⟨A, c, rfl, h1, h2, h3, hC, hz⟩ := hV
  have HC := Sec.mk hC
  clear hC hz
  by_cases hT : trmOk t = true
  · have ha := Sec.mk (trmOk_all hT)
    have hres : Sec (trmBytes t = u8 t.length :: t.flatMap cellBytes) := ⟨if_pos hT⟩
    rw [hT] at H0
    clear hT
    go_enter Tryd.func11, Tryd.ntmps11
    go_wp2_with fail
    refine H0.out.mono ?_
    rintro e w1 ⟨rfl, hb1⟩
    have B1 := Sec.mk hb1
    clear hb1
    go_wp2
    go_loopw [3, 15] (fun v i wr => ∃ k : Nat, k ≤ t.length ∧ i = .int .i64 k ∧ Sec (kByte.R wr (fun k => w.heap.size ≤ k) v (u8 t.length :: (t.take k).flatMap cellBytes)) ∧ Sec (Below w.heap.size w wr)) (fun _ i _ => t.length - (intOf i).toNat)
    case atStart => exact ⟨0, Nat.zero_le _, rfl, ⟨kByte_new w1 w.heap.size B1.out.size [t.length] (by simp)⟩, ⟨belA B1.out _⟩⟩
    case round =>
      obtain ⟨k, hk, rfl, hR, hb⟩ := hrel
      by_cases hlt : k < t.length
      · obtain ⟨b, off, rfl, hob, c0, c1, c2, hnm⟩ := cell_at (Kd.C_below HC.out hb.out (by decide)) k hlt
        have hok : Sec (cellOk t[k] = true) := ⟨List.all_eq_true.1 ha.out.2 _ (List.getElem_mem hlt)⟩
        have hlen : Sec ((u8 t.length :: (t.take k).flatMap cellBytes).length ≤ 521) := ⟨by
          have h1 := ha.out.1
          have h2 := bytes_len (t := t.take k) (List.all_eq_true.2 fun x hx => List.all_eq_true.1 ha.out.2 x (List.mem_of_mem_take hx))
          rw [List.length_take] at h2
          rw [List.length_cons]; omega⟩
        have hT2 : Sec (u8 t.length :: (t.take (k + 1)).flatMap cellBytes = (u8 t.length :: (t.take k).flatMap cellBytes) ++ cellBytes t[k]) := ⟨by rw [take_flat _ _ _ hlt]; rfl⟩
        have hnum := Sec.mk (cellOk_nums hok.out)
        generalize t[k] = x at *
        generalize hbs : u8 t.length :: (t.take k).flatMap cellBytes = bs at *
        clear hbs
        obtain ⟨A9, c9, hv9, _⟩ := Kd.R_form hR.out
        subst hv9
        have hat : Sec (∀ W : World, W.heap[wr.heap.size]? = some (.cells #[.int .i64 x.kind, .int .i64 x.n, .string x.name] 55 (0, 0)) → W.cell? ⟨wr.heap.size, 0, none⟩ = some (.int .i64 x.kind) ∧ W.cell? ⟨wr.heap.size, 1, none⟩ = some (.int .i64 x.n) ∧ W.cell? ⟨wr.heap.size, 2, none⟩ = some (.string x.name)) := ⟨fun W h => by
          have X := (box_at' (Below.refl _ _) h).1
          exact ⟨X 0 _ rfl, X 1 _ rfl, X 2 _ rfl⟩⟩
        have P0 := Sec.mk (heap_alloc_new wr (.cells #[.int .i64 x.kind, .int .i64 x.n, .string x.name] 55))
        have R0 := Sec.mk (Kd.R_below (Kd.R_mono hR.out (S1 := fun k => w.heap.size ≤ k ∧ k < wr.heap.size) (fun k h1 h2 => ⟨h1, h2⟩)) (belA (Below.refl wr.heap.size wr) (.cells #[.int .i64 x.kind, .int .i64 x.n, .string x.name] 55)))
        have B0 := Sec.mk (belA hb.out (.cells #[.int .i64 x.kind, .int .i64 x.n, .string x.name] 55))
        have Z0 : Sec ((wr.alloc (.cells #[.int .i64 x.kind, .int .i64 x.n, .string x.name] 55)).heap.size = wr.heap.size + 1 ∧ w.heap.size ≤ wr.heap.size) := ⟨by simp, hb.out.size⟩
        have T0 : Sec True := ⟨trivial⟩
        go_wp2
        clear c0 c1 c2 hob
        obtain ⟨y0, y1, y2⟩ := hat.out _ P0.out
        generalize wr.alloc (.cells #[.int .i64 x.kind, .int .i64 x.n, .string x.name] 55) = w0 at *
        generalize wr.heap.size = bx at *
        go_region_held3 (fun W => W.cell? ⟨bx, 0, none⟩ = some (.int .i64 x.kind) ∧ W.cell? ⟨bx, 1, none⟩ = some (.int .i64 x.n) ∧ W.cell? ⟨bx, 2, none⟩ = some (.string x.name)) (first | (refine ⟨?_, ?_, ?_⟩ <;> assumption) | go_keep) (first
            | (clear T0; refine step_of rfl (fun Q9 h9 => ?_); refine B_put (W := w0.drew) rfl (.tmp 19) (.tmp 23) 24 rfl Tryd.underlying24 info_byte _ bs x.kind (by rfl) (by rfl) (by rfl) (Kd.R_below R0.out (belD (Below.refl _ _))) (by have := hlen.out; omega) ?_; intro v1 w2 hR1 hg1 hr1; have TA : Sec True := ⟨trivial⟩; have FA : Sec (Foot (fun k => w.heap.size ≤ k ∧ k < bx) w0 w2) := ⟨Foot.grown (Foot.of_below (belD (Below.refl _ _))) hg1 (fun k e => .inl (hr1 k e))⟩; have PA := Sec.mk (carry_ FA.out P0.out (fun h => Nat.lt_irrefl _ h.2)); have RA : Sec (kByte.R w2 (fun k => (w.heap.size ≤ k ∧ k < bx ∨ w0.heap.size ≤ k) ∧ k < w2.heap.size) v1 (bs ++ [u8 x.kind])) := ⟨Kd.R_mono hR1 (fun k h1 h2 => ⟨h1, h2⟩)⟩; clear y0 y1 y2; obtain ⟨y0, y1, y2⟩ := hat.out _ PA.out; clear hR1 hg1 hr1; refine h9 _ _ ?_; clear h9 Q9)
            | (clear TA; go_at_call 40; have TC : Sec True := ⟨trivial⟩; refine (number_c x.n (by have := hnum.out; omega) (by have := hnum.out; omega) _).mono ?_; rintro e w3 ⟨u3, rfl, hR3, hb3⟩; have hb2 : Below w2.heap.size w2 w3 := (by first | exact hb3 | exact bel (belD (Below.refl w2.heap.size w2)) hb3); have FC : Sec (Foot (fun k => w.heap.size ≤ k ∧ k < bx) w0 w3) := ⟨Foot.trans FA.out (Foot.of_below (S := fun _ => False) hb2) (fun _ _ h => h.elim)⟩; have PC := Sec.mk (carry_ FC.out P0.out (fun h => Nat.lt_irrefl _ h.2)); have RC := Sec.mk (Kd.R_below RA.out hb2); have NC : Sec (kByte.R w3 (fun k => w2.heap.size ≤ k) u3 (num3 x.n)) := ⟨hR3⟩; obtain ⟨A3, c3, rfl, -⟩ := Kd.R_form hR3; clear y0 y1 y2; obtain ⟨y0, y1, y2⟩ := hat.out _ PC.out; clear hR3 hb3 hb2)
            | (clear TC; refine step_of rfl (fun Q9 h9 => ?_); refine B_own rfl (.tmp 24) (.tmp 27) 24 rfl Tryd.underlying24 info_byte _ _ (bs ++ [u8 x.kind]) (num3 x.n) (by rfl) (by rfl) (by first | exact RC.out | exact Kd.R_below RC.out (belD (Below.refl _ _))) (by first | exact Kd.R_V NC.out | exact Kd.V_below (Kd.R_V NC.out) (belD (Below.refl _ _)) (by decide)) (fun k h1 h2 => by omega) (by have := hlen.out; simp [num3]; omega) ?_; intro v5 w5 hR5 hg5 hr5; have T5 : Sec True := ⟨trivial⟩; have F5 : Sec (Foot (fun k => w.heap.size ≤ k ∧ k < bx) w0 w5) := ⟨Foot.grown (by first | exact FC.out | exact Foot.trans FC.out (Foot.of_below (S := fun _ => False) (belD (Below.refl w3.heap.size w3))) (fun _ _ h => h.elim)) hg5 (fun k e => (hr5 k e).1)⟩; have P5 := Sec.mk (carry_ F5.out P0.out (fun h => Nat.lt_irrefl _ h.2)); have R5 : Sec (kByte.R w5 (fun k => w.heap.size ≤ k ∧ k ≠ bx) v5 (bs ++ [u8 x.kind] ++ num3 x.n)) := ⟨Kd.R_mono hR5 (fun k h _ => by have z1 := FC.out.size; have z2 := Z0.out; have h' : ((w.heap.size ≤ k ∧ k < bx ∨ w0.heap.size ≤ k) ∧ k < w2.heap.size) ∨ w3.heap.size ≤ k := h; omega)⟩; have B5 : Sec (Below w.heap.size w w5) := ⟨F5.out.below B0.out (fun k h => h.1)⟩; clear y0 y1 y2; obtain ⟨y0, y1, y2⟩ := hat.out _ P5.out; clear hR5 hg5 hr5; refine h9 _ _ ?_; clear h9 Q9))
        all_goals
          have L3 : Sec ((bs ++ [u8 x.kind] ++ num3 x.n).length ≤ 540) := ⟨by have := hlen.out; simp [num3]; omega⟩
          obtain ⟨A5, c5, hv5, -⟩ := Kd.R_form R5.out
          subst hv5
          by_cases hx : x.kind = 3
          · have hx' : (x.kind == 3) = true := beq_iff_eq.2 hx
            have hcb : Sec (cellBytes x = u8 x.kind :: (num3 x.n ++ u8 x.name.size :: x.name.data.toList)) := ⟨by unfold cellBytes; rw [if_pos hx]⟩
            have hn8 := Sec.mk (cellOk_name hok.out hx)
            have hT3 : Sec (∀ ys, bs ++ [u8 x.kind] ++ num3 x.n ++ [u8 x.name.size] ++ ys = bs ++ (u8 x.kind :: (num3 x.n ++ u8 x.name.size :: ys))) := ⟨fun ys => by simp⟩
            generalize bs ++ [u8 x.kind] ++ num3 x.n = b3 at *
            have L4 : Sec ((b3 ++ [u8 x.name.size]).length ≤ 541) := ⟨by have := L3.out; simp; omega⟩
            clear hx
            go_wp2
            go_region_held3 (fun W => W.cell? ⟨bx, 2, none⟩ = some (.string x.name)) (first | assumption | go_keep) (first
              | (clear T5; refine step_of rfl (fun Q9 h9 => ?_); refine B_put (W := w5.drew) rfl (.tmp 32) (.tmp 37) 24 rfl Tryd.underlying24 info_byte _ b3 x.name.size (by rfl) (by rfl) (by rfl) (Kd.R_below R5.out (belD (Below.refl _ _))) (by have := L3.out; omega) ?_; intro v6 w6 hR6 hg6 hr6; have T6 : Sec True := ⟨trivial⟩; have F6 : Sec (Foot (fun k => w.heap.size ≤ k ∧ k ≠ bx) w5 w6) := ⟨Foot.grown (Foot.of_below (belD (Below.refl _ _))) hg6 (fun k e => .inl (hr6 k e))⟩; have P6 := Sec.mk (carry_ F6.out P5.out (fun h => h.2 rfl)); have R6 := Sec.mk (Kd.R_mono hR6 (S1 := fun k => (w.heap.size ≤ k ∧ k ≠ bx) ∨ w5.heap.size ≤ k) (fun k h _ => h)); have B6 : Sec (Below w.heap.size w w6) := ⟨F6.out.below B5.out (fun k h => h.1)⟩; clear y0 y1 y2; obtain ⟨y0, y1, y2⟩ := hat.out _ P6.out; clear hR6 hg6 hr6; refine h9 _ _ ?_; clear h9 Q9)
              | (clear T6; refine step_of rfl (fun Q9 h9 => ?_); refine B_str (B := w.heap.size) rfl (.tmp 38) (.tmp 40) 24 9 rfl Tryd.underlying24 (by kernel_rfl) info_byte _ _ x.name (by rfl) (by rfl) (Kd.R_mono (S := fun k => (w.heap.size ≤ k ∧ k ≠ bx) ∨ w5.heap.size ≤ k) (by first | exact R6.out | exact Kd.R_below R6.out (belD (Below.refl _ _))) (fun k h _ => by have z := B5.out.size; omega)) (by first | exact B6.out.size | exact (belD B6.out).size) (by have := L4.out; have := hn8.out; omega) ?_; intro v7 w7 hR7 hg7 hr7; have T7 : Sec True := ⟨trivial⟩; have P7 : Sec (w7.heap[bx]? = _) := ⟨(hg7.block bx (Array.getElem?_eq_some_iff.1 P6.out).1 (fun e => by obtain ⟨_, _, _, h3⟩ := Kd.R_own R6.out; have h4 := (h3 bx e.symm).1; have z := F5.out.size; have z2 := Z0.out; omega)).trans P6.out⟩; have R7 := Sec.mk hR7; have B7 : Sec (Below w.heap.size w w7) := ⟨by first | exact B6.out.grown hg7 B6.out.size hr7 | exact (belD B6.out).grown hg7 (belD B6.out).size hr7⟩; clear y0 y1 y2; obtain ⟨y0, y1, y2⟩ := hat.out _ P7.out; clear hR7 hg7 hr7; refine h9 _ _ ?_; clear h9 Q9))
            all_goals
              go_wp2
              go_roundw
              case rel => exact ⟨k + 1, by omega, by go_num, ⟨by rw [hT2.out, hcb.out, ← hT3.out]; exact R7.out⟩, B7⟩
              case measure => simp [intOf]; omega
          · have hx' : (x.kind == 3) = false := beq_eq_false_iff_ne.2 hx
            have hcb : Sec (cellBytes x = u8 x.kind :: num3 x.n) := ⟨by unfold cellBytes; rw [if_neg hx, List.append_nil]⟩
            clear hx
            go_wp2
            go_roundw
            case rel => exact ⟨k + 1, by omega, by go_num, ⟨by rw [hT2.out, hcb.out]; have := Kd.R_mono R5.out (S1 := fun k => w.heap.size ≤ k) (fun k h _ => h.1); simpa using this⟩, B5⟩
            case measure => simp [intOf]; omega
      · have hk' : Sec (t.flatMap cellBytes = (t.take k).flatMap cellBytes) := ⟨by rw [List.take_of_length_le (by omega)]⟩
        go_wp2
        go_ret
        exact ⟨_, rfl, by rw [hres.out, hk'.out]; exact hR.out, hb.out⟩
  · have hT' : trmOk t = false := by simpa using hT
    have hres : Sec (trmBytes t = []) := ⟨if_neg hT⟩
    rw [hT'] at H0
    clear hT hT'
    go_enter Tryd.func11, Tryd.ntmps11
    go_wp2_with fail
    refine H0.out.mono ?_
    rintro e w1 ⟨rfl, hb1⟩
    have B1 := Sec.mk hb1
    clear hb1
    go_wp2
    go_ret
    exact ⟨_, rfl, by rw [hres.out]; exact Kd.R_nil _ _ _, B1.out⟩
end Go.Proofs.YtkdfmnaijgkfhaaDoor
