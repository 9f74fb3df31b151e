/- Contracts: terms taken, by the program. -/
import Derived.Test.YtkdfmnaijgkfhaaDoorT5
namespace Go.Proofs.YtkdfmnaijgkfhaaDoor
open Go.RowKit
set_option linter.unusedVariables false
set_option maxRecDepth 100000
/-- A place taken, and what is left. -/
def tkCell (l : List UInt8) : Cell × List UInt8 :=
  if numB (padB 1 l) = 3 then (⟨3, (numB (padB 3 (l.drop 1)) : Int) - 99999 - 1, ⟨(padB (numB (padB 1 ((l.drop 1).drop 3))) (((l.drop 1).drop 3).drop 1)).toArray⟩⟩, (((l.drop 1).drop 3).drop 1).drop (numB (padB 1 ((l.drop 1).drop 3))))
  else (⟨numB (padB 1 l), (numB (padB 3 (l.drop 1)) : Int) - 99999 - 1, ⟨#[]⟩⟩, (l.drop 1).drop 3)
def tkCells : Nat → List UInt8 → Term
  | 0, _ => []
  | m + 1, l => (tkCell l).1 :: tkCells m (tkCell l).2
def tkTerm (l : List UInt8) : Term := tkCells (numB (padB 1 l)) (l.drop 1)
theorem R_app3 {α : Type} (d : Kd α) {P : Program} {ops : Array Oper} {rest : List Oper} {o : Oper} {a : Act} {Q : Exit → Act → World → Prop} {W : World} (hgd : o.guard = none) (s x : Operand) (t : TypeId) (z : Value) (bytes : Nat)
    (ho : o.op = .call { callee := .builtin .append, args := #[s, x], argTypes := #[t, t] })
    (ht : P.underlying t = some (.slice d.ty)) (hinfo : (P.info? d.ty).map (fun i => (i.zero, i.size, i.bytes)) = some (some z, d.sz, bytes)) (hz : z.cells.size = d.sz) (hs0 : 0 < d.sz) (hb0 : bytes ≤ 256)
    (v : Value) (xs : List α) (p : α) (cs : List Value) (S : Nat → Prop) (hs : a.eval s = v) {N : Nat} (hx : a.eval x = .slice (some ⟨N, 0, none⟩) 1 1) (hN : N = W.heap.size) (HO : d.R W S v xs) (hp : d.O W (fun _ => False) p cs)
    (hl : xs.length + 1 ≤ 1073741824)
    (h : ∀ v1 w1, d.R w1 (fun k => S k ∨ False ∨ W.heap.size ≤ k) v1 (xs ++ [p]) → W.grownBy w1 v.ownBlock → (∀ k, v.ownBlock = some k → S k) → wpList P ops Q rest (a.put o.dst v1) w1) :
    wpList P ops Q (o :: rest) a (W.alloc (.cells cs.toArray d.ty)) := by
  subst hN
  obtain ⟨_, _, _, h3⟩ := Kd.R_own HO
  exact Kd.R_append d hgd s x t z bytes ho ht hinfo hz hs0 hb0 v xs p cs S (fun _ => False) hs hx HO hp (fun _ h => h.elim) hl (fun v1 w1 h1 hg => h v1 w1 h1 hg (fun k e => (h3 k e).1))
/-- The state of a taker: what is left lies in its box. -/
structure Tk (w0 : World) (b : Nat) (ok : Nat → Prop) (W : World) (v : Value) (r : List UInt8) : Prop where
  row : kByte.V W ok v r
  box : W.heap[b]? = some (.cells #[v] 65 (0, 0))
  foot : Foot (fun x => x = b) w0 W
theorem Tk.alloc {w0 : World} {b : Nat} {ok : Nat → Prop} {W : World} {v : Value} {r : List UInt8} (h : Tk w0 b ok W v r) (o : Obj) : Tk w0 b ok (W.alloc o) v r :=
  ⟨Kd.V_below h.row (belA (Below.refl _ _) o) (by decide), ((belA (Below.refl W.heap.size W) o).block b (Array.getElem?_eq_some_iff.1 h.box).1).trans h.box, h.foot.alloc o⟩
theorem Tk.step {w0 : World} {b : Nat} {ok : Nat → Prop} {W W' : World} {v v' : Value} {r r' : List UInt8} (h : Tk w0 b ok W v r) (hV : kByte.V W' ok v' r') (hB : W'.heap[b]? = some (.cells #[v'] 65 (0, 0))) (hF : Foot (fun x => x = b) W W') : Tk w0 b ok W' v' r' :=
  ⟨hV, hB, h.foot.trans hF (fun _ _ h => h)⟩
theorem Tk.set {w0 : World} {b : Nat} {ok : Nat → Prop} {W : World} {v : Value} {r : List UInt8} (h : Tk w0 b ok W v r) (hok : ∀ k, ok k → k < w0.heap.size) (hb : b < w0.heap.size) (g i : Nat) (u : Value) (hg : w0.heap.size ≤ g) : Tk w0 b ok (W.setCell ⟨g, i, none⟩ u) v r :=
  ⟨Kd.V_move (fun k hk _ => ⟨hk, Below.heap_setCell _ _ _ _ (by show k ≠ g; have := hok k hk; omega)⟩) h.row (by decide), (Below.heap_setCell _ _ _ _ (by show b ≠ g; omega)).trans h.box, h.foot.set (.inr hg) i u⟩
theorem Tk.grown {w0 : World} {b : Nat} {ok : Nat → Prop} {W W' : World} {v : Value} {r : List UInt8} {row : Option Nat} (h : Tk w0 b ok W v r) (hok : ∀ k, ok k → k < w0.heap.size) (hb : b < w0.heap.size) (hg : W.grownBy W' row) (hr : ∀ k, row = some k → w0.heap.size ≤ k) : Tk w0 b ok W' v r :=
  ⟨Kd.V_move (fun k hk hl => ⟨hk, hg.block k hl (fun e => by have := hr k e.symm; have := hok k hk; omega)⟩) h.row (by decide), (hg.block b (Array.getElem?_eq_some_iff.1 h.box).1 (fun e => by have := hr b e.symm; omega)).trans h.box, h.foot.grown hg (fun k e => .inr (hr k e))⟩
/-- What is the call's own stays, where a taker takes. -/
theorem R_foot {w0 W W' : World} {b : Nat} {v : Value} {t : Term} (hb : b < w0.heap.size) (h : kCell.R W (fun k => w0.heap.size ≤ k) v t) (hF : Foot (fun x => x = b) W W') : kCell.R W' (fun k => w0.heap.size ≤ k) v t := hF.R h (fun k h1 h2 => by omega)
set_option maxHeartbeats 2000000 in
theorem tterm_i (b : Nat) (v : Value) (l : List UInt8) (ok : Nat → Prop) (hl : l.length ≤ 10000000) (hok : ¬ ok b) (w : World) (hlo : ∀ k, ok k → k < w.heap.size) (hB : w.heap[b]? = some (.cells #[v] 65 (0, 0))) (hV : kByte.V w ok v l) :
    Calls Tryd.prog 44 #[.pointer (some ⟨b, 0, none⟩)] w fun e w' => ∃ u, e = .returned u ∧ kCell.R w' (fun k => w.heap.size ≤ k) u (tkTerm l) ∧ Foot (fun x => x = b) w w' := by
  have hu := Tryd.underlying55
  have hbs : b < w.heap.size := (Array.getElem?_eq_some_iff.1 hB).1
  have HOK := Sec.mk hlo
  have NUM : ∀ (n : Nat) (W : World) (v : Value) (r : List UInt8), n ≤ 3 → r.length ≤ 10000000 → Tk w b ok W v r → Calls Tryd.prog 71 #[.pointer (some ⟨b, 0, none⟩), .int .i64 n] W fun e w' => e = .returned (.int .i64 (numB (padB n r))) ∧ ∃ v', Tk w b ok w' v' (r.drop n) ∧ Foot (fun x => x = b) W w' := fun n W v r hn hr hT =>
    (tnumber_i b n v r ok hn hr hok W hT.box hT.row).mono (by rintro e w' ⟨h1, v', h2, h3, h4⟩; exact ⟨h1, v', hT.step h2 h3 h4, h4⟩)
  have SGN : ∀ (W : World) (v : Value) (r : List UInt8), r.length ≤ 10000000 → Tk w b ok W v r → Calls Tryd.prog 72 #[.pointer (some ⟨b, 0, none⟩)] W fun e w' => e = .returned (.int .i64 ((numB (padB 3 r) : Int) - 99999 - 1)) ∧ ∃ v', Tk w b ok w' v' (r.drop 3) ∧ Foot (fun x => x = b) W w' := fun W v r hr hT =>
    (tsigned_i b v r ok hr hok W hT.box hT.row).mono (by rintro e w' ⟨h1, v', h2, h3, h4⟩; exact ⟨h1, v', hT.step h2 h3 h4, h4⟩)
  have BYT : ∀ (n : Nat) (W : World) (v : Value) (r : List UInt8), n ≤ 255 → r.length ≤ 10000000 → Tk w b ok W v r → Calls Tryd.prog 73 #[.pointer (some ⟨b, 0, none⟩), .int .i64 n] W fun e w' => ∃ g, e = .returned (.slice (some ⟨g, 0, none⟩) n n) ∧ kByte.C w' (fun k => W.heap.size ≤ k) (some ⟨g, 0, none⟩) (padB n r) ∧ ∃ v', Tk w b ok w' v' (r.drop n) ∧ Foot (fun x => x = b) W w' := fun n W v r hn hr hT =>
    (tbytes_i b n v r ok hn hr hok W hT.box hT.row).mono (by rintro e w' ⟨u, v', h1, ⟨g, rfl⟩, h0, h2, h3, h4⟩; exact ⟨g, h1, Kd.V_C (Kd.R_V h0), v', hT.step h2 h3 h4, h4⟩)
  have hTk : Tk w b ok w v l := ⟨hV, hB, Foot.refl _ _⟩
  have H0 := Sec.mk (NUM 1 w v l (by omega) hl hTk)
  have hT : Sec (tkTerm l = tkCells (numB (padB 1 l)) (l.drop 1)) := ⟨rfl⟩
  have hl1 : (l.drop 1).length ≤ 10000000 := by rw [List.length_drop]; omega
  have hn0 := numB_lt (padB 1 l)
  rw [padB_len] at hn0
  generalize numB (padB 1 l) = n at *
  generalize l.drop 1 = r0 at *
  have hn255 : n ≤ 255 := by omega
  have NUM' := Sec.mk NUM
  have SGN' := Sec.mk SGN
  have BYT' := Sec.mk BYT
  clear NUM SGN BYT hTk hB hV hn0 hlo
  go_enter Tryd.func44, Tryd.ntmps44
  go_wp2_with (go_at_call 71; refine H0.out.mono ?_; rintro e w1 ⟨rfl, v1, hT1, hF1⟩; have K1 := Sec.mk hT1; clear hT1 hF1)
  go_loopw [3, 7] (fun x i wr => ∃ (out : Term) (k m : Nat) (r : List UInt8) (v' : Value), i = .int .i64 k ∧ k + m = n ∧ out.length ≤ k ∧ r.length ≤ 10000000 ∧ Sec (kCell.R wr (fun k => w.heap.size ≤ k) x out) ∧ Sec (out ++ tkCells m r = tkCells n r0) ∧ Sec (Tk w b ok wr v' r)) (fun _ i _ => n - (intOf i).toNat)
  case atStart => exact ⟨[], 0, n, r0, v1, rfl, by omega, by simp, hl1, ⟨Kd.R_nil _ _ _⟩, ⟨by simp⟩, K1⟩
  case round =>
    obtain ⟨out, k, m, r, v', rfl, hkm, hol, hrl, hR, hE, hK⟩ := hrel
    obtain ⟨A9, c9, rfl, -, -⟩ := Kd.R_form hR.out
    cases m with
    | zero =>
      have hlt : ¬ (k : Int) < (n : Int) := by omega
      have hF : Sec (out = tkTerm l) := ⟨by rw [hT.out, ← hE.out]; simp [tkCells]⟩
      clear hkm
      go_wp2
      go_ret
      exact ⟨_, rfl, by rw [← hF.out]; exact hR.out, hK.out.foot⟩
    | succ m =>
      have hlt : (k : Int) < (n : Int) := by omega
      have hE2 : Sec ((out ++ [(tkCell r).1]) ++ tkCells m (tkCell r).2 = tkCells n r0) := ⟨by rw [← hE.out, tkCells]; simp⟩
      generalize hx : tkCell r = x at hE2
      have HX := Sec.mk hx.symm
      clear hx
      unfold tkCell at HX
      obtain ⟨r1, hr1⟩ : ∃ r1, r1 = r.drop 1 := ⟨_, rfl⟩
      have HA := Sec.mk (fun W v => NUM'.out 1 W v r (by omega) hrl)
      rw [← hr1] at HA HX
      have hl1 : r1.length ≤ 10000000 := by rw [hr1, List.length_drop]; omega
      have HB := Sec.mk (fun W v => SGN'.out W v r1 hl1)
      have hnb := numB_small (p := padB 3 r1) (by rw [padB_len]; omega)
      obtain ⟨r2, hr2⟩ : ∃ r2, r2 = r1.drop 3 := ⟨_, rfl⟩
      rw [← hr2] at HB HX
      have hl2 : r2.length ≤ 10000000 := by rw [hr2, List.length_drop]; omega
      have HC := Sec.mk (fun W v => NUM'.out 1 W v r2 (by omega) hl2)
      obtain ⟨r3, hr3⟩ : ∃ r3, r3 = r2.drop 1 := ⟨_, rfl⟩
      rw [← hr3] at HC HX
      have hl3 : r3.length ≤ 10000000 := by rw [hr3, List.length_drop]; omega
      have hm4 := numB_lt (padB 1 r2)
      rw [padB_len] at hm4
      have hkd := numB_lt (padB 1 r)
      rw [padB_len] at hkd
      generalize numB (padB 1 r2) = m4 at *
      generalize numB (padB 1 r) = kd at *
      generalize numB (padB 3 r1) = nn at *
      have HD := Sec.mk (fun W v => BYT'.out m4 W v r3 (by omega) hl3)
      obtain ⟨r4, hr4⟩ : ∃ r4, r4 = r3.drop m4 := ⟨_, rfl⟩
      rw [← hr4] at HD HX
      have hl4 : r4.length ≤ 10000000 := by rw [hr4, List.length_drop]; omega
      have hm255 : m4 ≤ 255 := by omega
      clear hr1 hr2 hr3 hr4 hm4
      have T0 : Sec True := ⟨trivial⟩
      have HKM := Sec.mk hkm
      by_cases hk3 : kd = 3
      · have hX2 : Sec (x = (⟨3, (nn : Int) - 99999 - 1, ⟨(padB m4 r3).toArray⟩⟩, r4)) := ⟨by rw [HX.out, if_pos hk3]⟩
        have hns : (⟨(padB m4 r3).toArray⟩ : ByteArray).size ≤ 255 := by simp only [ByteArray.size, List.size_toArray, padB_len]; omega
        have HCV : Sec (∀ (W : World) (ok : Nat → Prop) (g : Nat), kByte.C W ok (some ⟨g, 0, none⟩) (padB m4 r3) → (convert 24 9 (.slice (some ⟨g, 0, none⟩) m4 m4)).run Tryd.prog W = .ok (.string ⟨(padB m4 r3).toArray⟩) W) := ⟨fun W ok g h => by
          have h9 := name_conv (c := m4) h 0 m4 m4 (by rw [padB_len]; omega) 0 (.inr rfl)
          rw [List.drop_zero, List.take_of_length_le (by rw [padB_len]; exact Nat.le_refl _)] at h9
          exact h9⟩
        subst hk3
        clear HX hkm
        generalize (⟨(padB m4 r3).toArray⟩ : ByteArray) = nm at *
        have hb3 : (((3 : Nat) : Int) == 3) = true := rfl
        go_wp2_with (first | (at_builtin; clear T4; go_loud (refine R_app3 kCell (W := w5.setCell ⟨w3.heap.size, 2, none⟩ (.string nm)) rfl (.tmp 23) (.tmp 25) 26 (.agg #[.int .i64 0, .int .i64 0, .string ⟨#[]⟩]) 32 rfl Tryd.underlying26 info_cell rfl (by decide) (by decide) _ _ ⟨3, (nn : Int) - 99999 - 1, nm⟩ [.int .i64 3, .int .i64 ((nn : Int) - 99999 - 1), .string nm] (fun k => w.heap.size ≤ k ∧ k < w3.heap.size) rfl rfl (by simp) R6.out (kCell_none _ ⟨3, (nn : Int) - 99999 - 1, nm⟩ (by show nm.size ≤ _; omega)) (by omega) ?_; intro v7 w7 hR7 hg7 hrow; have R7 := Sec.mk (Kd.R_mono hR7 (fun k hk _ => by rcases hk with h | h | h; exact h.1; exact h.elim; exact Nat.le_trans K6.out.foot.size h)); have K7 := Sec.mk (K6.out.grown HOK.out hbs hg7 (fun k e => (hrow k e).1)); clear hR7 hg7 hrow)) | (clear T3; go_at_call 73; have T4 : Sec True := ⟨trivial⟩; refine (HD.out _ _ K4.out).mono ?_; rintro e w5 ⟨g5, rfl, hC5, v5, hT5, hF5⟩; have K5 := Sec.mk hT5; have ycv := HCV.out w5 _ g5 hC5; have X5 := carry_ hF5 X4.out (by have := Z3.out; omega); have q5 := box_at X5; have q0 := q5.2.1 0 _ rfl; have q1 := q5.2.1 1 _ rfl; have q2 := q5.2.1 2 _ rfl; have g2 := q5.2.2 2; have K6 := Sec.mk (hT5.set HOK.out hbs w3.heap.size 2 (.string nm) K3.out.foot.size); have R6 := Sec.mk (Kd.R_move (S1 := fun k => w.heap.size ≤ k ∧ k < w3.heap.size) (w1 := w5.setCell ⟨w3.heap.size, 2, none⟩ (.string nm)) (fun k hk _ => ⟨hk, Below.heap_setCell _ _ _ _ (by show k ≠ w3.heap.size; omega)⟩) (hF5.R R4.out (fun k h1 h2 => by omega))); clear hT5 hF5 hC5 X5 q5) | (clear T2; go_at_call 71; have T3 : Sec True := ⟨trivial⟩; refine (HC.out _ _ (K3.out.alloc _)).mono ?_; rintro e w4 ⟨rfl, v4, hT4, hF4⟩; have K4 := Sec.mk hT4; have X4 := Sec.mk (carry_ hF4 (heap_alloc_new w3 _) (by have := Z3.out; omega)); have R4 := Sec.mk (hF4.R (Kd.R_below R3'.out (belA (Below.refl _ _) _)) (fun k h1 h2 => by omega)); clear hT4 hF4) | (clear T1; go_at_call 72; have T2 : Sec True := ⟨trivial⟩; refine (HB.out _ _ K2.out).mono ?_; rintro e w3 ⟨rfl, v3, hT3, hF3⟩; have K3 := Sec.mk hT3; have R3' : Sec (kCell.R w3 (fun k => w.heap.size ≤ k ∧ k < w3.heap.size) (.slice A9 out.length c9) out) := ⟨Kd.R_mono (R_foot hbs R2.out hF3) (fun k h1 h2 => ⟨h1, h2⟩)⟩; have Z3 : Sec (b < w3.heap.size) := ⟨Nat.lt_of_lt_of_le hbs hT3.foot.size⟩; clear hT3 hF3) | (clear T0; go_at_call 71; have T1 : Sec True := ⟨trivial⟩; refine (HA.out _ _ hK.out).mono ?_; rintro e w2 ⟨rfl, v2, hT2, hF2⟩; have K2 := Sec.mk hT2; have R2 := Sec.mk (R_foot hbs hR.out hF2); clear hT2 hF2))
        go_roundw
        case rel => exact ⟨out ++ [⟨3, (nn : Int) - 99999 - 1, nm⟩], k + 1, m, r4, v5, by go_num, by have := HKM.out; omega, by rw [List.length_append, List.length_singleton]; omega, hl4, R7, ⟨by have := hE2.out; rw [hX2.out] at this; exact this⟩, K7⟩
        case measure => simp [intOf]; omega
      · have hX2 : Sec (x = (⟨kd, (nn : Int) - 99999 - 1, ⟨#[]⟩⟩, r2)) := ⟨by rw [HX.out, if_neg hk3]⟩
        have hb3 : ((kd : Int) == 3) = false := beq_eq_false_iff_ne.2 (by omega)
        clear HX hk3 hkm
        go_wp2_with (first | (at_builtin; clear T2; refine R_app3 kCell (W := w3.alloc _) rfl (.tmp 23) (.tmp 25) 26 (.agg #[.int .i64 0, .int .i64 0, .string ⟨#[]⟩]) 32 rfl Tryd.underlying26 info_cell rfl (by decide) (by decide) _ _ ⟨kd, (nn : Int) - 99999 - 1, ⟨#[]⟩⟩ [.int .i64 kd, .int .i64 ((nn : Int) - 99999 - 1), .string ⟨#[]⟩] (fun k => w.heap.size ≤ k) rfl rfl (by simp) (Kd.R_below R3.out (belA (Below.refl _ _) _)) (kCell_none _ ⟨kd, (nn : Int) - 99999 - 1, ⟨#[]⟩⟩ (Nat.zero_le _)) (by omega) ?_; intro v5 w5 hR5 hg5 hrow; have R5 := Sec.mk (Kd.R_mono hR5 (fun k hk _ => by rcases hk with h | h | h; exact h; exact h.elim; exact Nat.le_trans (Nat.le_trans K3.out.foot.size (belA (Below.refl w3.heap.size w3) _).size) h)); have K5 := Sec.mk ((K3.out.alloc _).grown HOK.out hbs hg5 hrow); clear hR5 hg5 hrow) | (clear T1; go_at_call 72; have T2 : Sec True := ⟨trivial⟩; refine (HB.out _ _ K2.out).mono ?_; rintro e w3 ⟨rfl, v3, hT3, hF3⟩; have K3 := Sec.mk hT3; have R3 := Sec.mk (R_foot hbs R2.out hF3); clear hT3 hF3) | (clear T0; go_at_call 71; have T1 : Sec True := ⟨trivial⟩; refine (HA.out _ _ hK.out).mono ?_; rintro e w2 ⟨rfl, v2, hT2, hF2⟩; have K2 := Sec.mk hT2; have R2 := Sec.mk (R_foot hbs hR.out hF2); clear hT2 hF2))
        go_roundw
        case rel => exact ⟨out ++ [⟨kd, (nn : Int) - 99999 - 1, ⟨#[]⟩⟩], k + 1, m, r2, v3, by go_num, by have := HKM.out; omega, by rw [List.length_append, List.length_singleton]; omega, hl2, R5, ⟨by have := hE2.out; rw [hX2.out] at this; exact this⟩, K5⟩
        case measure => simp [intOf]; omega
end Go.Proofs.YtkdfmnaijgkfhaaDoor
