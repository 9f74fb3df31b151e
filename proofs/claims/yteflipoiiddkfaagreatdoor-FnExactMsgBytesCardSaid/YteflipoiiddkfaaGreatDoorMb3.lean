/- The exact laws' own functions on rows of places: equal, marked, held; and what goes with it. -/
import Derived.Test.YteflipoiiddkfaaGreatDoorMb1
import Derived.Test.YteflipoiiddkfaaGreatDoorMb2
import Derived.Deep.RegionHeld3
import Derived.Outline
import Derived.KernelRfl
import Derived.WalkLawsBesides
import Derived.Deep.LoopGhost
import Derived.Lib.SliceRun
import Derived.Test.YteflipoiiddkfaaGreatDoorShelf
namespace Go.Proofs.YteflipoiiddkfaaGreatDoor
section
open Go.RowKit
set_option linter.unusedVariables false
set_option maxRecDepth 100000
theorem cells_in {w : World} {ok : Nat → Prop} {b off : Nat} {xs : Term} (h : kCell.C w ok (some ⟨b, off, none⟩) xs) (i : Nat) (hi : i < xs.length) :
    w.cell? ⟨b, off + i * 3, none⟩ = some (.int .i64 xs[i].kind) ∧ w.cell? ⟨b, off + i * 3 + 1, none⟩ = some (.int .i64 xs[i].n) ∧ w.cell? ⟨b, off + i * 3 + 2, none⟩ = some (.string xs[i].name) := by
  obtain ⟨b', off', hA, _, c0, c1, c2, _⟩ := cell_at h i hi
  simp only [Option.some.injEq, Addr.mk.injEq, and_true] at hA
  obtain ⟨rfl, rfl⟩ := hA
  exact ⟨c0, c1, c2⟩
theorem eqCells_c (v u : Value) (t s : Term) (ok ok' : Nat → Prop) (w : World) (hV : kCell.V w ok v t) (hU : kCell.V w ok' u s) :
    Calls Tryz.prog 31 #[v, u] w fun e w' => e = .returned (.bool (decide (t = s))) ∧ Below w.heap.size w w' := by
  obtain ⟨A, c, rfl, h1, h2, h3, hC, _⟩ := hV
  obtain ⟨B, d, rfl, k1, k2, k3, hD, _⟩ := hU
  have HC := Sec.mk hC
  have HD := Sec.mk hD
  clear hC hD
  have hu := Tryz.underlying77
  by_cases hl : t.length = s.length
  · rw [← hl]
    have HL := Sec.mk hl
    clear hl
    go_enter Tryz.func31, Tryz.ntmps31
    go_wp2
    go_loopw [5] (fun i wr => ∃ k : Nat, k ≤ t.length ∧ i = .int .i64 k ∧ Sec (t.take k = s.take k) ∧ Sec (Below w.heap.size w wr)) (fun i _ => t.length - (intOf i).toNat)
    case atStart => exact ⟨0, Nat.zero_le _, rfl, ⟨by simp⟩, ⟨Below.refl _ _⟩⟩
    case round =>
      obtain ⟨k, hk, rfl, hT, hb⟩ := hrel
      by_cases hlt : k < t.length
      · have hlt2 : k < s.length := by have := HL.out; omega
        obtain ⟨b, off, rfl, _, _, _, _, _⟩ := cell_at (Kd.C_below HC.out hb.out (by decide)) k hlt
        obtain ⟨b2, off2, rfl, _, _, _, _, _⟩ := cell_at (Kd.C_below HD.out hb.out (by decide)) k hlt2
        have hat : Sec (∀ W : World, Below w.heap.size w W → W.cell? ⟨b, off + k * 3, none⟩ = some (.int .i64 t[k].kind) ∧ W.cell? ⟨b, off + k * 3 + 1, none⟩ = some (.int .i64 t[k].n) ∧ W.cell? ⟨b, off + k * 3 + 2, none⟩ = some (.string t[k].name) ∧
            W.cell? ⟨b2, off2 + k * 3, none⟩ = some (.int .i64 s[k].kind) ∧ W.cell? ⟨b2, off2 + k * 3 + 1, none⟩ = some (.int .i64 s[k].n) ∧ W.cell? ⟨b2, off2 + k * 3 + 2, none⟩ = some (.string s[k].name)) := ⟨fun W h => by
          obtain ⟨x0, x1, x2⟩ := cells_in (Kd.C_below HC.out h (by decide)) k hlt
          obtain ⟨y0, y1, y2⟩ := cells_in (Kd.C_below HD.out h (by decide)) k hlt2
          exact ⟨x0, x1, x2, y0, y1, y2⟩⟩
        have hT1 : Sec (t[k] = s[k] → t.take (k + 1) = s.take (k + 1)) := ⟨fun e => by rw [List.take_succ_eq_append_getElem hlt, List.take_succ_eq_append_getElem hlt2, hT.out, e]⟩
        have hT2 : Sec (t = s → t[k] = s[k]) := ⟨fun e => by subst e; rfl⟩
        generalize t[k] = x at *
        generalize s[k] = y at *
        obtain ⟨x0, x1, x2, y0, y1, y2⟩ := hat.out _ hb.out
        have i0 : (0 : Int) ≤ (k : Int) := by omega
        have i1 : (k : Int) < (t.length : Int) := by omega
        obtain ⟨bb, hbb⟩ : ∃ bb, decide (x = y) = bb := ⟨_, rfl⟩
        have Hc : Sec (∀ W, Calls Tryz.prog 55 #[x.agg, y.agg] W fun e w' => e = .returned (.bool bb) ∧ Below W.heap.size W w') := ⟨fun W => by rw [← hbb]; exact eqCell_c x y W⟩
        have HBB := Sec.mk hbb
        clear hbb
        go_wp2
        go_region_held3 (fun W => W.cell? ⟨b, off + k * 3, none⟩ = some (.int .i64 x.kind) ∧ W.cell? ⟨b, off + k * 3 + 1, none⟩ = some (.int .i64 x.n) ∧ W.cell? ⟨b, off + k * 3 + 2, none⟩ = some (.string x.name) ∧
            W.cell? ⟨b2, off2 + k * 3, none⟩ = some (.int .i64 y.kind) ∧ W.cell? ⟨b2, off2 + k * 3 + 1, none⟩ = some (.int .i64 y.n) ∧ W.cell? ⟨b2, off2 + k * 3 + 2, none⟩ = some (.string y.name))
          (first | (refine ⟨?_, ?_, ?_, ?_, ?_, ?_⟩ <;> assumption) | go_keep)
          (first | (go_at_call 55; refine (Hc.out _).mono ?_; rintro e w1 ⟨rfl, hb1⟩; have B1 := Sec.mk (bel (belD hb.out) hb1); clear x0 x1 x2 y0 y1 y2; obtain ⟨x0, x1, x2, y0, y1, y2⟩ := hat.out _ B1.out; clear hb1))
        all_goals
          cases bb with
          | true =>
            have HE : Sec (t.take (k + 1) = s.take (k + 1)) := ⟨hT1.out (of_decide_eq_true HBB.out)⟩
            go_wp2
            go_roundw
            case rel => exact ⟨k + 1, by omega, by go_num, HE, B1⟩
            case measure => simp [intOf]; omega
          | false =>
            have HE : Sec (decide (t = s) = false) := ⟨decide_eq_false (fun e => of_decide_eq_false HBB.out (hT2.out e))⟩
            go_wp2
            go_ret
            exact ⟨rb HE.out.symm, B1.out⟩
      · have HE : Sec (decide (t = s) = true) := ⟨decide_eq_true (by have := hT.out; have h2 := HL.out; rwa [List.take_of_length_le (by omega), List.take_of_length_le (by omega)] at this)⟩
        go_wp2
        go_ret
        exact ⟨rb HE.out.symm, hb.out⟩
  · have hl' : ((t.length : Int) == (s.length : Int)) = false := beq_eq_false_iff_ne.2 (by omega)
    have HE : Sec (decide (t = s) = false) := ⟨decide_eq_false (fun e => hl (by rw [e]))⟩
    go_enter Tryz.func31, Tryz.ntmps31
    go_wp2
    go_ret
    exact ⟨rb HE.out.symm, Below.refl _ _⟩
def mkCell (k : Int) : Cell := ⟨k, k + 1, mt (k + 2)⟩
/-- A row of places marked, from a number on. -/
def mkCells : Term → Int → Term
  | [], _ => []
  | _ :: t, k => mkCell k :: mkCells t (k + 3)
end
section
open Go.RowKit
set_option linter.unusedVariables false
namespace Kd
variable {α β γ : Type}
/-- Of the kind d a field of the kind e, j cells in. -/
structure Fld (d : Kd α) (e : Kd β) (j : Nat) (get : α → β) (put : α → β → α) : Prop where
  opn : ∀ {w : World} {S : Nat → Prop} {x : α} {c : List Value}, d.O w S x c → ∃ (S1 S2 : Nat → Prop) (c0 c1 c2 : List Value), c = c0 ++ (c1 ++ c2) ∧ c0.length = j ∧ (∀ k, S1 k → S k ∧ ¬ S2 k) ∧ (∀ k, S2 k → S k) ∧ e.O w S1 (get x) c1 ∧
    ∀ (w' : World) (y : β) (c1' : List Value), Keeps w w' S2 S2 → e.O w' S1 y c1' → d.O w' S (put x y) (c0 ++ (c1' ++ c2))
theorem Fld.self (d : Kd α) : Fld d d 0 (fun x => x) (fun _ y => y) := ⟨fun {w S x c} h => ⟨S, fun _ => False, [], c, [], by simp, rfl, fun k hk => ⟨hk, id⟩, fun k hk => hk.elim, h, fun w' y c1' _ hO => by simpa using hO⟩⟩
theorem Fld.fst {a : Kd α} {b : Kd β} {e : Kd γ} {j : Nat} {get : α → γ} {put : α → γ → α} (F : Fld a e j get put) : Fld (pair a b) e j (fun x => get x.1) (fun x y => (put x.1 y, x.2)) := ⟨fun {w S x c} h => by
  obtain ⟨T1, T2, d0, d1, rfl, g1, g2, h0, h1⟩ := h
  obtain ⟨S1, S2, c0, c1, c2, rfl, hl, k1, k2, hO, hback⟩ := F.opn h0
  refine ⟨fun k => S1 k ∧ k < w.heap.size, fun k => (S2 k ∨ T2 k) ∧ k < w.heap.size, c0, c1, c2 ++ d1, by simp, hl, fun k hk => ⟨(g1 k (k1 k hk.1).1).1, fun e => e.1.elim (k1 k hk.1).2 (g1 k (k1 k hk.1).1).2⟩, fun k hk => hk.1.elim (fun e => (g1 k (k2 k e)).1) (g2 k), e.O_mono hO (fun k hk hl => ⟨hk, hl⟩), fun w' y c1' hk hO' => ?_⟩
  refine ⟨T1, fun k => T2 k ∧ k < w.heap.size, c0 ++ (c1' ++ c2), d1, by simp, fun k hk => ⟨(g1 k hk).1, fun e => (g1 k hk).2 e.1⟩, fun k hk => g2 k hk.1, ?_, ?_⟩
  · exact hback w' y c1' (fun k h1 h2 => ⟨h1, (hk k ⟨.inl h1, h2⟩ h2).2⟩) (e.O_mono hO' (fun k hk _ => hk.1))
  · exact b.O_move (fun k h1 h2 => ⟨⟨h1, h2⟩, (hk k ⟨.inr h1, h2⟩ h2).2⟩) h1⟩
theorem Fld.snd {a : Kd α} {b : Kd β} {e : Kd γ} {j : Nat} {get : β → γ} {put : β → γ → β} (F : Fld b e j get put) : Fld (pair a b) e (a.sz + j) (fun x => get x.2) (fun x y => (x.1, put x.2 y)) := ⟨fun {w S x c} h => by
  obtain ⟨T1, T2, d0, d1, rfl, g1, g2, h0, h1⟩ := h
  obtain ⟨S1, S2, c0, c1, c2, rfl, hl, k1, k2, hO, hback⟩ := F.opn h1
  refine ⟨fun k => S1 k ∧ k < w.heap.size, fun k => (S2 k ∨ T1 k) ∧ k < w.heap.size, d0 ++ c0, c1, c2, by simp, by rw [List.length_append, a.K_len (a.O_K h0), hl], fun k hk => ⟨g2 k (k1 k hk.1).1, fun e => e.1.elim (k1 k hk.1).2 (fun e => (g1 k e).2 (k1 k hk.1).1)⟩, fun k hk => hk.1.elim (fun e => g2 k (k2 k e)) (fun e => (g1 k e).1), e.O_mono hO (fun k hk hl => ⟨hk, hl⟩), fun w' y c1' hk hO' => ?_⟩
  refine ⟨fun k => T1 k ∧ k < w.heap.size, T2, d0, c0 ++ (c1' ++ c2), by simp, fun k hk => g1 k hk.1, g2, ?_, ?_⟩
  · exact a.O_move (fun k h1 h2 => ⟨⟨h1, h2⟩, (hk k ⟨.inr h1, h2⟩ h2).2⟩) h0
  · exact hback w' y c1' (fun k h1 h2 => ⟨h1, (hk k ⟨.inl h1, h2⟩ h2).2⟩) (e.O_mono hO' (fun k hk _ => hk.1))⟩
theorem Fld.iso {d : Kd β} {e : Kd γ} {j : Nat} {get : β → γ} {put : β → γ → β} (t : TypeId) {f : α → β} {put' : α → γ → α} (F : Fld d e j get put) (h : ∀ x y, f (put' x y) = put (f x) y) : Fld (Kd.iso t d f) e j (fun x => get (f x)) put' := ⟨fun {w S x c} hx => by
  obtain ⟨S1, S2, c0, c1, c2, rfl, hl, k1, k2, hO, hback⟩ := F.opn (w := w) (S := S) (x := f x) hx
  refine ⟨S1, S2, c0, c1, c2, rfl, hl, k1, k2, hO, fun w' y c1' hk hO' => ?_⟩
  have := hback w' y c1' hk hO'
  rw [← h] at this
  exact this⟩
variable {d : Kd α} {e : Kd β}
/-- An element of a row of one's own, by itself. -/
theorem Os_focus {w : World} : ∀ {xs : List α} {S : Nat → Prop} {cs : List Value} (i : Nat) (hi : i < xs.length), d.Os w S xs cs → ∃ (S1 S2 : Nat → Prop) (c : List Value), d.O w S1 xs[i] c ∧ (∀ k, S1 k → S k ∧ ¬ S2 k) ∧ (∀ k, S2 k → S k) ∧ (∀ m u, c[m]? = some u → cs[i * d.sz + m]? = some u) ∧
    ∀ (w' : World) (x : α) (c' : List Value), Keeps w w' S2 S2 → d.O w' S1 x c' → d.Os w' S (xs.set i x) (cs.take (i * d.sz) ++ (c' ++ cs.drop (i * d.sz + d.sz)))
  | [], S, cs, i, hi, h => by simp at hi
  | y :: xs, S, cs, 0, hi, h => by
    obtain ⟨T1, T2, c0, c1, rfl, g1, g2, h1, h2⟩ := h
    have hl : c0.length = d.sz := d.K_len (d.O_K h1)
    refine ⟨fun k => T1 k ∧ k < w.heap.size, fun k => T2 k ∧ k < w.heap.size, c0, d.O_mono h1 (fun k hk hl => ⟨hk, hl⟩), fun k hk => ⟨(g1 k hk.1).1, fun e => (g1 k hk.1).2 e.1⟩, fun k hk => g2 k hk.1, fun m u hm => ?_, fun w' x c' hk hO => ?_⟩
    · have : m < c0.length := (List.getElem?_eq_some_iff.1 hm).1
      rw [Nat.zero_mul, Nat.zero_add, List.getElem?_append_left this]; exact hm
    · rw [Nat.zero_mul, List.take_zero, List.nil_append, Nat.zero_add, List.drop_left' hl, List.set_cons_zero]
      exact ⟨T1, fun k => T2 k ∧ k < w.heap.size, c', c1, rfl, fun k hk => ⟨(g1 k hk).1, fun e => (g1 k hk).2 e.1⟩, fun k hk => g2 k hk.1, d.O_mono hO (fun k hk _ => hk.1), Os_move (fun k h1 h2 => ⟨⟨h1, h2⟩, (hk k ⟨h1, h2⟩ h2).2⟩) h2⟩
  | y :: xs, S, cs, i + 1, hi, h => by
    obtain ⟨T1, T2, c0, c1, rfl, g1, g2, h1, h2⟩ := h
    have hl : c0.length = d.sz := d.K_len (d.O_K h1)
    obtain ⟨S1, S2, c, hO, k1, k2, hc, hback⟩ := Os_focus i (by simpa using hi) h2
    refine ⟨fun k => S1 k ∧ k < w.heap.size, fun k => (S2 k ∨ T1 k) ∧ k < w.heap.size, c, by simpa using d.O_mono hO (fun k hk hl => ⟨hk, hl⟩), fun k hk => ⟨g2 k (k1 k hk.1).1, fun e => e.1.elim (k1 k hk.1).2 (fun e => (g1 k e).2 (k1 k hk.1).1)⟩, fun k hk => hk.1.elim (fun e => g2 k (k2 k e)) (fun e => (g1 k e).1), fun m u hm => ?_, fun w' x c' hk hO' => ?_⟩
    · rw [List.getElem?_append_right (by rw [hl, Nat.succ_mul]; omega)]
      have : (i + 1) * d.sz + m - c0.length = i * d.sz + m := by rw [hl, Nat.succ_mul]; omega
      rw [this]; exact hc m u hm
    · have ih := hback w' x c' (fun k h1 h2 => ⟨h1, (hk k ⟨.inl h1, h2⟩ h2).2⟩) (d.O_mono hO' (fun k hk _ => hk.1))
      refine ⟨fun k => T1 k ∧ k < w.heap.size, T2, c0, _, ?_, fun k hk => g1 k hk.1, g2, d.O_move (fun k h1 h2 => ⟨⟨h1, h2⟩, (hk k ⟨.inr h1, h2⟩ h2).2⟩) h1, ih⟩
      have e1 : (i + 1) * d.sz = d.sz + i * d.sz := by rw [Nat.succ_mul, Nat.add_comm]
      rw [e1, List.take_append, List.drop_append, hl]
      have e2 : d.sz + i * d.sz - d.sz = i * d.sz := by omega
      have e3 : d.sz + i * d.sz + d.sz - d.sz = i * d.sz + d.sz := by omega
      rw [e2, e3, List.take_of_length_le (by omega), List.drop_of_length_le (l := c0) (by omega)]
      simp [List.append_assoc]
/-- Of a row L of one's own element i is x by now, and lies in the cells cs. -/
def At (d : Kd α) (w : World) (S : Nat → Prop) (b n cap : Nat) (L : List α) (i : Nat) (x : α) (cs : List Value) : Prop :=
  n = L.length ∧ L.length ≤ 1073741824 ∧ i < L.length ∧ L.length ≤ cap ∧ cap ≤ maxLen ∧ S b ∧ ∃ (cur : Array Value) (S1 S2 : Nat → Prop) (ds : List Value), w.heap[b]? = some (.cells cur d.ty (0, 0)) ∧ cur.size = cap * d.sz ∧ (∀ k, S1 k → (S k ∧ k ≠ b) ∧ ¬ S2 k) ∧ (∀ k, S2 k → S k ∧ k ≠ b) ∧
    d.O w S1 x cs ∧ cur.toList.take (L.length * d.sz) = ds.take (i * d.sz) ++ (cs ++ ds.drop (i * d.sz + d.sz)) ∧ ds.length = L.length * d.sz ∧
    ∀ (w' : World) (y : α) (c' : List Value), Keeps w w' S2 S2 → d.O w' S1 y c' → d.Os w' (fun k => S k ∧ k ≠ b) (L.set i y) (ds.take (i * d.sz) ++ (c' ++ ds.drop (i * d.sz + d.sz)))
theorem At.of_R {w : World} {S : Nat → Prop} {b n cap : Nat} {L : List α} (h : d.R w S (.slice (some ⟨b, 0, none⟩) n cap) L) {i : Nat} (hi : i < L.length) : ∃ cs, At d w S b n cap L i L[i] cs ∧ cs.length = d.sz := by
  obtain ⟨h0, h⟩ := h
  rcases h with ⟨h, _⟩ | ⟨b', cap', cur, hv, hb, hS, h1, h2, h3, h4⟩
  · cases h
  · simp only [Value.slice.injEq, Option.some.injEq, Addr.mk.injEq, and_true] at hv
    obtain ⟨rfl, rfl, rfl⟩ := hv
    obtain ⟨S1, S2, c, hO, k1, k2, hc, hback⟩ := Os_focus i hi h4
    have hcl : c.length = d.sz := d.K_len (d.O_K hO)
    have hlen := Os_len h4
    refine ⟨c, ⟨rfl, h0, hi, h1, h2, hS, cur, S1, S2, cur.toList.take (L.length * d.sz), hb, h3, k1, k2, hO, ?_, hlen, hback⟩, hcl⟩
    have := hback w L[i] c (fun k hk _ => ⟨hk, rfl⟩) hO
    apply List.ext_getElem?
    intro m
    have hle : (i + 1) * d.sz ≤ L.length * d.sz := Nat.mul_le_mul_right _ hi
    rw [Nat.succ_mul] at hle
    rw [List.getElem?_append]
    split
    · next hm =>
      conv => rhs; rw [List.getElem?_take_of_lt (by rw [List.length_take] at hm; omega)]
    · next hm =>
      have hl1 : (List.take (i * d.sz) (List.take (L.length * d.sz) cur.toList)).length = i * d.sz := by rw [List.length_take]; omega
      rw [hl1] at hm ⊢
      rw [List.getElem?_append]
      split
      · next hm2 =>
        rw [List.getElem?_eq_getElem hm2]
        have := hc (m - i * d.sz) _ (List.getElem?_eq_getElem hm2)
        rw [show i * d.sz + (m - i * d.sz) = m by omega] at this
        exact this
      · next hm2 =>
        rw [List.getElem?_drop, hcl, show i * d.sz + d.sz + (m - i * d.sz - d.sz) = m by omega]
theorem At.R {w : World} {S : Nat → Prop} {b n cap : Nat} {L : List α} {i : Nat} {x : α} {cs : List Value} (h : At d w S b n cap L i x cs) : d.R w S (.slice (some ⟨b, 0, none⟩) n cap) (L.set i x) := by
  obtain ⟨rfl, h0, hi, h1, h2, hS, cur, S1, S2, ds, hb, h3, k1, k2, hO, he, hd, hback⟩ := h
  have hl : (L.set i x).length = L.length := List.length_set
  refine ⟨by rw [hl]; exact h0, .inr ⟨b, cap, cur, by rw [hl], hb, hS, by rw [hl]; exact h1, h2, h3, ?_⟩⟩
  rw [hl, he]
  exact hback w x cs (fun k hk _ => ⟨hk, rfl⟩) hO
theorem At.cell {w : World} {S : Nat → Prop} {b n cap : Nat} {L : List α} {i : Nat} {x : α} {cs : List Value} (h : At d w S b n cap L i x cs) (m : Nat) (u : Value) (hm : cs[m]? = some u) : w.cell? ⟨b, i * d.sz + m, none⟩ = some u := by
  obtain ⟨rfl, h0, hi, h1, h2, hS, cur, S1, S2, ds, hb, h3, k1, k2, hO, he, hd, hback⟩ := h
  rw [cell_of_row w b _ cur d.ty (0, 0) hb]
  have hcl : cs.length = d.sz := d.K_len (d.O_K hO)
  have hm1 : m < cs.length := (List.getElem?_eq_some_iff.1 hm).1
  have hle : (i + 1) * d.sz ≤ L.length * d.sz := Nat.mul_le_mul_right _ hi
  rw [Nat.succ_mul] at hle
  have e1 : (cur.toList.take (L.length * d.sz))[i * d.sz + m]? = some u := by
    rw [he, List.getElem?_append_right (by rw [List.length_take]; omega), List.length_take, Nat.min_eq_left (by omega), show i * d.sz + m - i * d.sz = m by omega, List.getElem?_append_left hm1]
    exact hm
  rw [List.getElem?_take_of_lt (by omega)] at e1
  simpa using e1
theorem At.frozen {w : World} {S : Nat → Prop} {b n cap : Nat} {L : List α} {i : Nat} {x : α} {cs : List Value} (h : At d w S b n cap L i x cs) (o : Nat) : w.frozen? ⟨b, o, none⟩ = false := by
  obtain ⟨rfl, h0, hi, h1, h2, hS, cur, S1, S2, ds, hb, _⟩ := h
  simp [World.frozen?, hb]
theorem At.K {w : World} {S : Nat → Prop} {b n cap : Nat} {L : List α} {i : Nat} {x : α} {cs : List Value} (h : At d w S b n cap L i x cs) : d.K w (fun k => S k ∧ k ≠ b) x cs := by
  obtain ⟨rfl, h0, hi, h1, h2, hS, cur, S1, S2, ds, hb, h3, k1, k2, hO, _⟩ := h
  exact K_mono (d.O_K hO) (fun k hk => (k1 k hk).1)
theorem At.mine {w : World} {S : Nat → Prop} {b n cap : Nat} {L : List α} {i : Nat} {x : α} {cs : List Value} (h : At d w S b n cap L i x cs) : S b := h.2.2.2.2.2.1
/-- A field of one cell is stored. -/
theorem At.store {w : World} {S : Nat → Prop} {b n cap : Nat} {L : List α} {i : Nat} {x : α} {cs : List Value} (h : At d w S b n cap L i x cs) {j : Nat} {get : α → β} {put : α → β → α} (F : Fld d e j get put) (he1 : e.sz = 1) (y : β) (u : Value) (hy : ∀ (w : World) (S : Nat → Prop), e.O w S y [u]) :
    At d (w.setCell ⟨b, i * d.sz + j, none⟩ u) S b n cap L i (put x y) (cs.set j u) := by
  obtain ⟨rfl, h0, hi, h1, h2, hS, cur, S1, S2, ds, hb, h3, k1, k2, hO, he, hd, hback⟩ := h
  have hcl : cs.length = d.sz := d.K_len (d.O_K hO)
  obtain ⟨T1, T2, c0, c1, c2, rfl, hl, g1, g2, hO1, hb1⟩ := F.opn hO
  have hl1 : c1.length = 1 := by rw [e.K_len (e.O_K hO1), he1]
  have hle : (i + 1) * d.sz ≤ L.length * d.sz := Nat.mul_le_mul_right _ hi
  rw [Nat.succ_mul] at hle
  have hjl : j < d.sz := by simp at hcl; omega
  have hle2 : L.length * d.sz ≤ cap * d.sz := Nat.mul_le_mul_right _ h1
  have kp : ∀ k, k ≠ b → (w.setCell ⟨b, i * d.sz + j, none⟩ u).heap[k]? = w.heap[k]? := fun k hk => Below.heap_setCell _ _ _ _ hk
  have hsz : (w.setCell ⟨b, i * d.sz + j, none⟩ u).heap.size = w.heap.size := by simp [World.setCell]
  obtain ⟨v, rfl⟩ : ∃ v, c1 = [v] := by
    match c1, hl1 with
    | [v], _ => exact ⟨v, rfl⟩
  have eset : (c0 ++ ([v] ++ c2)).set j u = c0 ++ ([u] ++ c2) := by
    rw [List.set_append_right _ _ (by omega), hl, Nat.sub_self]; rfl
  refine ⟨rfl, h0, hi, h1, h2, hS, cur.setIfInBounds (i * d.sz + j) u, S1, S2, ds, ?_, by simpa using h3, k1, k2, ?_, ?_, hd, ?_⟩
  · simp only [World.setCell, Array.getElem?_modify, hb]; simp
  · rw [eset]
    exact hb1 _ y [u] (fun k hk _ => ⟨hk, kp k (k1 k (g2 k hk)).1.2⟩) (hy _ _)
  · rw [eset, Array.toList_setIfInBounds, List.take_set, he, List.set_append_right _ _ (by rw [List.length_take]; omega), List.length_take, Nat.min_eq_left (by omega), show i * d.sz + j - i * d.sz = j by omega, List.set_append_left _ _ (by omega), eset]
  · intro w' y' c' hk hO'
    exact hback w' y' c' (fun k hk1 hl1 => ⟨hk1, ((hk k hk1 (by rw [hsz]; exact hl1)).2).trans (kp k (k2 k hk1).2)⟩) hO'
/-- A field that is a row of its own is turned. -/
theorem At.sub {w : World} {S : Nat → Prop} {b n cap : Nat} {L : List α} {i : Nat} {x : α} {cs : List Value} (h : At d w S b n cap L i x cs) {t : TypeId} {hp : 0 < e.sz} {j : Nat} {get : α → List β} {put : α → List β → α} (F : Fld d (Kd.slice t e hp) j get put) {v : Value} (hv : cs[j]? = some v) :
    ∃ S1 : Nat → Prop, e.R w S1 v (get x) ∧ (∀ k, S1 k → S k ∧ k ≠ b) ∧ ∀ (w' : World) (y : List β), e.R w' S1 v y → Foot S1 w w' → At d w' S b n cap L i (put x y) cs := by
  obtain ⟨rfl, h0, hi, h1, h2, hS, cur, S1, S2, ds, hb, h3, k1, k2, hO, he, hd, hback⟩ := h
  obtain ⟨T1, T2, c0, c1, c2, rfl, hl, g1, g2, hO1, hb1⟩ := F.opn hO
  obtain ⟨v', rfl, hR⟩ := hO1
  have e1 : (c0 ++ ([v'] ++ c2))[j]? = some v' := by rw [List.getElem?_append_right (by omega), hl, Nat.sub_self]; rfl
  obtain rfl : v' = v := by rw [e1] at hv; exact Option.some.inj hv
  refine ⟨T1, hR, fun k hk => (k1 k (g1 k hk).1).1, fun w' y hR' hF => ?_⟩
  have hbl : b < w.heap.size := (Array.getElem?_eq_some_iff.1 hb).1
  refine ⟨rfl, h0, hi, h1, h2, hS, cur, S1, fun k => S2 k ∧ k < w.heap.size, ds, ?_, h3, fun k hk => ⟨(k1 k hk).1, fun e => (k1 k hk).2 e.1⟩, fun k hk => k2 k hk.1, ?_, he, hd, ?_⟩
  · exact (hF.block b hbl (fun e => (k1 b (g1 b e).1).1.2 rfl)).trans hb
  · exact hb1 w' y [v'] (fun k hk hl => ⟨hk, hF.block k hl (fun e => (g1 k e).2 hk)⟩) ⟨v', rfl, hR'⟩
  · intro w2 y' c' hk hO'
    exact hback w2 y' c' (fun k hk1 hl1 => ⟨hk1, ((hk k ⟨hk1, hl1⟩ (Nat.lt_of_lt_of_le hl1 hF.size)).2).trans (hF.block k hl1 (fun e => (k1 k (g1 k e).1).2 hk1))⟩) hO'
theorem At.below {w w' : World} {S : Nat → Prop} {b n cap : Nat} {L : List α} {i : Nat} {x : α} {cs : List Value} (h : At d w S b n cap L i x cs) (hB : Below w.heap.size w w') : At d w' S b n cap L i x cs := by
  obtain ⟨rfl, h0, hi, h1, h2, hS, cur, S1, S2, ds, hb, h3, k1, k2, hO, he, hd, hback⟩ := h
  have hbl : b < w.heap.size := (Array.getElem?_eq_some_iff.1 hb).1
  exact ⟨rfl, h0, hi, h1, h2, hS, cur, S1, fun k => S2 k ∧ k < w.heap.size, ds, (hB.block b hbl).trans hb, h3, fun k hk => ⟨(k1 k hk).1, fun e => (k1 k hk).2 e.1⟩, fun k hk => k2 k hk.1, d.O_move (Keeps.below hB _) hO, he, hd,
    fun w2 y' c' hk hO' => hback w2 y' c' (fun k hk1 hl1 => ⟨hk1, ((hk k ⟨hk1, hl1⟩ (Nat.lt_of_lt_of_le hl1 hB.size)).2).trans (hB.block k hl1)⟩) hO'⟩
/-- A field that is a row of its own is turned: of a value by itself. -/
theorem O_sub {w : World} {S : Nat → Prop} {x : α} {cs : List Value} (h : d.O w S x cs) {t : TypeId} {hp : 0 < e.sz} {j : Nat} {get : α → List β} {put : α → List β → α} (F : Fld d (Kd.slice t e hp) j get put) {v : Value} (hv : cs[j]? = some v) :
    ∃ S1 : Nat → Prop, e.R w S1 v (get x) ∧ (∀ k, S1 k → S k) ∧ ∀ (w' : World) (y : List β), e.R w' S1 v y → Foot S1 w w' → d.O w' S (put x y) cs := by
  obtain ⟨T1, T2, c0, c1, c2, rfl, hl, g1, g2, hO1, hb1⟩ := F.opn h
  obtain ⟨v', rfl, hR⟩ := hO1
  have e1 : (c0 ++ ([v'] ++ c2))[j]? = some v' := by rw [List.getElem?_append_right (by omega), hl, Nat.sub_self]; rfl
  obtain rfl : v' = v := by rw [e1] at hv; exact Option.some.inj hv
  exact ⟨T1, hR, fun k hk => (g1 k hk).1, fun w' y hR' hF => hb1 w' y [v'] (fun k hk hl => ⟨hk, hF.block k hl (fun e => (g1 k e).2 hk)⟩) ⟨v', rfl, hR'⟩⟩
theorem O_part {w : World} {S : Nat → Prop} {x : α} {cs : List Value} (h : d.O w S x cs) {j : Nat} {get : α → β} {put : α → β → α} (F : Fld d e j get put) (a0 a1 a2 : List Value) (hv : cs = a0 ++ (a1 ++ a2)) (h0 : a0.length = j) (h1 : a1.length = e.sz) :
    ∃ S1 : Nat → Prop, e.O w S1 (get x) a1 ∧ (∀ k, S1 k → S k) ∧ ∀ (w' : World) (y : β), e.O w' S1 y a1 → Foot S1 w w' → d.O w' S (put x y) cs := by
  obtain ⟨T1, T2, c0, c1, c2, rfl, hl, g1, g2, hO1, hb1⟩ := F.opn h
  have hl1 := e.K_len (e.O_K hO1)
  obtain ⟨rfl, h2⟩ := List.append_inj hv (by omega)
  obtain ⟨rfl, rfl⟩ := List.append_inj h2 (by omega)
  exact ⟨T1, hO1, fun k hk => (g1 k hk).1, fun w' y hR' hF => hb1 w' y c1 (fun k hk hl => ⟨hk, hF.block k hl (fun e => (g1 k e).2 hk)⟩) hR'⟩
/-! #### made elements, one behind the other -/
theorem O_stack {w : World} {n0 n1 : Nat} {x : α} {y : β} {c0 c1 : List Value} (h0 : d.O w (fun k => n0 ≤ k ∧ k < n1) x c0) (h1 : e.O w (fun k => n1 ≤ k) y c1) (hn : n0 ≤ n1) : (pair d e).O w (fun k => n0 ≤ k) (x, y) (c0 ++ c1) :=
  ⟨_, _, c0, c1, rfl, fun k hk => ⟨hk.1, fun h => by omega⟩, fun k hk => by omega, h0, h1⟩
/-! #### marks -/
end Kd
/-- How a thing is marked from a number on, and how far. -/
structure Mk (α : Type) where make ::
  cnt : α → Nat
  one : α → Int → α
namespace Mk
variable {α : Type} (m : Mk α)
def cnts (xs : List α) : Nat := (xs.map m.cnt).sum
def mks : List α → Int → List α
  | [], _ => []
  | x :: xs, k => m.one x k :: mks xs (k + m.cnt x)
theorem cnts_snoc (xs : List α) (x : α) : m.cnts (xs ++ [x]) = m.cnts xs + m.cnt x := by simp [cnts]
theorem cnts_take (xs : List α) (i : Nat) (h : i < xs.length) : m.cnts (xs.take (i + 1)) = m.cnts (xs.take i) + m.cnt xs[i] := by rw [List.take_succ_eq_append_getElem h, cnts_snoc]
theorem cnts_le (xs : List α) (i : Nat) : m.cnts (xs.take i) ≤ m.cnts xs := by
  conv => rhs; rw [← List.take_append_drop i xs]
  unfold cnts
  rw [List.map_append, List.sum_append]; omega
theorem mks_len : ∀ (xs : List α) (k : Int), (m.mks xs k).length = xs.length
  | [], _ => rfl
  | _ :: t, k => by rw [mks, List.length_cons, List.length_cons, mks_len]
theorem mks_snoc : ∀ (xs : List α) (x : α) (k : Int), m.mks (xs ++ [x]) k = m.mks xs k ++ [m.one x (k + m.cnts xs)]
  | [], x, k => by simp [mks, cnts]
  | y :: t, x, k => by
    rw [List.cons_append, mks, mks_snoc t x, mks, List.cons_append]
    have : k + ↑(m.cnt y) + ↑(m.cnts t) = k + ↑(m.cnts (y :: t)) := by simp [cnts]; omega
    rw [this]
theorem next (t : List α) (k : Int) (i : Nat) (h : i < t.length) : (m.mks (t.take i) k ++ t.drop i).set i (m.one t[i] (k + m.cnts (t.take i))) = m.mks (t.take (i + 1)) k ++ t.drop (i + 1) := by
  rw [List.take_succ_eq_append_getElem h, mks_snoc, List.drop_eq_getElem_cons h]
  rw [List.set_append_right _ _ (by rw [mks_len, List.length_take]; omega), mks_len, List.length_take, Nat.min_eq_left (by omega), Nat.sub_self, List.set_cons_zero, List.append_assoc]
  rfl
theorem at_ (t : List α) (k : Int) (i : Nat) (h : i < t.length) : (m.mks (t.take i) k ++ t.drop i)[i]'(by rw [List.length_append, mks_len, List.length_take, List.length_drop]; omega) = t[i] := by
  rw [List.getElem_append_right (by rw [mks_len, List.length_take]; omega)]
  simp only [mks_len, List.length_take, List.getElem_drop]
  congr 1; omega
theorem len_ (t : List α) (k : Int) (i : Nat) : (m.mks (t.take i) k ++ t.drop i).length = t.length := by rw [List.length_append, mks_len, List.length_take, List.length_drop]; omega
theorem get (t : List α) (k : Int) (i : Nat) (h : i < t.length) : (m.mks t k)[i]'(by rw [mks_len]; exact h) = m.one t[i] (k + m.cnts (t.take i)) := by
  have e : m.mks t k = m.mks (t.take i) k ++ m.mks (t.drop i) (k + m.cnts (t.take i)) := by
    clear h
    induction t generalizing k i with
    | nil => simp [mks, cnts]
    | cons x t ih =>
      cases i with
      | zero => simp [mks, cnts]
      | succ i =>
        rw [mks, ih (k + m.cnt x) i, List.take_succ_cons, List.drop_succ_cons, mks, List.cons_append]
        have : k + ↑(m.cnt x) + ↑(m.cnts (t.take i)) = k + ↑(m.cnts (x :: t.take i)) := by simp [cnts]; omega
        rw [this]
  have hl : (m.mks (t.take i) k).length = i := by rw [mks_len, List.length_take]; omega
  have e2 : (m.mks t k)[i]? = some (m.one t[i] (k + m.cnts (t.take i))) := by
    rw [e, List.getElem?_append_right (by omega), hl, Nat.sub_self, List.drop_eq_getElem_cons h, mks]
    rfl
  exact (List.getElem?_eq_some_iff.1 e2).2
end Mk
end
section
open Go.RowKit
set_option linter.unusedVariables false
/-- A block's cells. -/
theorem box_cells {w w' : World} {b : Nat} {cs : Array Value} {t : TypeId} (hB : Below w.heap.size w w') (h : w.heap[b]? = some (.cells cs t (0, 0))) : w'.heap[b]? = some (.cells cs t (0, 0)) ∧ (∀ j u, cs[j]? = some u → w'.cell? ⟨b, j, none⟩ = some u) ∧ ∀ j, w'.frozen? ⟨b, j, none⟩ = false := by
  have h' := (hB.block b (Array.getElem?_eq_some_iff.1 h).1).trans h
  refine ⟨h', fun j u hj => ?_, fun j => by simp [World.frozen?, h']⟩
  rw [cell_of_row w' b _ cs t (0, 0) h']; exact hj
theorem box_at {w' : World} {b : Nat} {cs : Array Value} {t : TypeId} (h' : w'.heap[b]? = some (.cells cs t (0, 0))) : w'.heap[b]? = some (.cells cs t (0, 0)) ∧ (∀ j u, cs[j]? = some u → w'.cell? ⟨b, j, none⟩ = some u) ∧ ∀ j, w'.frozen? ⟨b, j, none⟩ = false :=
  ⟨h', fun j u hj => by rw [cell_of_row w' b _ cs t (0, 0) h']; exact hj, fun j => by simp [World.frozen?, h']⟩
theorem box_store {w : World} {b : Nat} {cs : Array Value} {t : TypeId} (j : Nat) (u : Value) (h : w.heap[b]? = some (.cells cs t (0, 0))) : (w.setCell ⟨b, j, none⟩ u).heap[b]? = some (.cells (cs.setIfInBounds j u) t (0, 0)) := by
  simp only [World.setCell, Array.getElem?_modify, h]; simp
/-- The call's own boxes. -/
def Own (w : World) (n : Nat) (k : Nat) : Prop := w.heap.size ≤ k ∧ k < w.heap.size + n
theorem Foot.call {S : Nat → Prop} {w W w1 : World} (h : Foot S w W) (k : Below W.heap.size W w1) : Foot S w w1 := h.trans (Foot.of_below (S := S) k) (fun _ _ h => h)
theorem Foot.own {w w1 : World} {n : Nat} (h : Foot (Own w n) w w1) : Below w.heap.size w w1 := h.below (Below.refl _ _) (fun k hk => hk.1)
theorem Foot.R {α : Type} {d : Kd α} {T S : Nat → Prop} {w w1 : World} {v : Value} {x : List α} (h : Foot T w w1) (hR : d.R w S v x) (hd : ∀ k, S k → ¬ T k) : d.R w1 S v x := Kd.R_move (h.keeps hd) hR
theorem Foot.O {α : Type} {d : Kd α} {T S : Nat → Prop} {w w1 : World} {c : List Value} {x : α} (h : Foot T w w1) (hR : d.O w S x c) (hd : ∀ k, S k → ¬ T k) : d.O w1 S x c := d.O_move (h.keeps hd) hR
theorem box1 (w : World) (a : Obj) : (w.alloc a).heap[w.heap.size]? = some a := heap_alloc_new w a
theorem box2 (w : World) (a b : Obj) : ((w.alloc a).alloc b).heap[w.heap.size]? = some a ∧ ((w.alloc a).alloc b).heap[w.heap.size + 1]? = some b :=
  ⟨(Below.heap_alloc _ _ _ (by simp)).trans (box1 w a), by have := box1 (w.alloc a) b; simpa using this⟩
theorem box3 (w : World) (a b c : Obj) : (((w.alloc a).alloc b).alloc c).heap[w.heap.size]? = some a ∧ (((w.alloc a).alloc b).alloc c).heap[w.heap.size + 1]? = some b ∧ (((w.alloc a).alloc b).alloc c).heap[w.heap.size + 1 + 1]? = some c :=
  ⟨(Below.heap_alloc _ _ _ (by simp; omega)).trans (box2 w a b).1, (Below.heap_alloc _ _ _ (by simp)).trans (box2 w a b).2, by have := box1 ((w.alloc a).alloc b) c; simpa using this⟩
theorem rCell_fits : Raw.Fits rCell kCell := Raw.fits_iso (Raw.fits_pair (Raw.fits_int _ _) (Raw.fits_pair (Raw.fits_int _ _) (Raw.fits_str _ _))) _ _ _
theorem rCell_opn : Raw.Opn Tryz.prog rCell := Raw.opn_struct Tryz.underlying73 (by kernel_rfl) (fun b => ⟨⟨b.1, b.2.1, b.2.2⟩, rfl⟩) (Raw.opnF_cons (Raw.opn_int Tryz.underlying3) rfl rfl (by kernel_rfl) (by decide) (Raw.opnF_cons (Raw.opn_int Tryz.underlying3) rfl rfl (by kernel_rfl) (by decide) (Raw.opnF_last (Raw.opn_str Tryz.underlying9) rfl rfl (by kernel_rfl) (by decide))))
theorem Mk.cnts_le6 {α : Type} {m : Mk α} {r : Raw α} (h : ∀ x, m.cnt x ≤ 8 + 8 * r.wt x) (xs : List α) : m.cnts xs ≤ 8 * r.wts xs := by
  unfold Mk.cnts Raw.wts
  induction xs with
  | nil => simp
  | cons x xs ih =>
    have := h x
    simp only [List.map_cons, List.sum_cons, List.length_cons]
    omega
theorem szSCell_c (v : Value) (t : Term) (left : Nat) (hl : left ≤ 1048576) (w : World) (hV : rCell.V w v t) :
    Calls Tryz.prog 18 #[v, .int .i64 left] w fun e w' => e = .returned (.int .i64 (Raw.spent (rCell.wts t) left)) ∧ Below w.heap.size w w' := szCells_c v t left hl w hV
theorem toSCell_c (v : Value) (t : Term) (ok : Nat → Prop) (w : World) (hV : kCell.V w ok v t) :
    Calls Tryz.prog 24 #[v] w fun e w' => ∃ u, e = .returned u ∧ kCell.R w' (fun k => w.heap.size ≤ k) u t ∧ Below w.heap.size w w' := toCells_c v t ok w hV
theorem eqSCell_c (v u : Value) (t s : Term) (ok ok' : Nat → Prop) (w : World) (hV : kCell.V w ok v t) (hU : kCell.V w ok' u s) :
    Calls Tryz.prog 31 #[v, u] w fun e w' => e = .returned (.bool (decide (t = s))) ∧ Below w.heap.size w w' := eqCells_c v u t s ok ok' w hV hU
end
section
open Go.RowKit
set_option linter.unusedVariables false
set_option maxRecDepth 100000
theorem byte_at {w : World} {ok : Nat → Prop} {A : Option Addr} {xs : List UInt8} (h : kByte.C w ok A xs) (i : Nat) (hi : i < xs.length) : ∃ b off, A = some ⟨b, off, none⟩ ∧ ok b ∧ w.cell? ⟨b, off + i, none⟩ = some (.int .u8 (xs[i].toNat : Int)) := by
  obtain ⟨b, off, cs, hA, hb, hK, hc⟩ := Kd.C_get h (List.getElem?_eq_getElem hi)
  obtain ⟨rfl, _⟩ := hK
  refine ⟨b, off, hA, hb, ?_⟩
  have := hc 0 _ rfl
  rw [show i * kByte.sz + 0 = i from by simp [kByte, Kd.byte, Kd.scalar]] at this
  exact this
theorem u8_eq (x y : UInt8) : (((x.toNat : Int) == (y.toNat : Int)) = decide (x = y)) := by
  rw [Bool.beq_eq_decide_eq, decide_eq_decide]
  constructor
  · intro h; exact UInt8.toNat_inj.1 (by omega)
  · rintro rfl; rfl
theorem eqSByte_c (v u : Value) (t s : List UInt8) (ok ok' : Nat → Prop) (w : World) (hV : kByte.V w ok v t) (hU : kByte.V w ok' u s) :
    Calls Tryz.prog 9 #[v, u] w fun e w' => e = .returned (.bool (decide (t = s))) ∧ Below w.heap.size w w' := by
  obtain ⟨A, c, rfl, h1, h2, h3, hC, _⟩ := hV
  obtain ⟨B, d, rfl, k1, k2, k3, hD, _⟩ := hU
  have HC := Sec.mk hC
  have HD := Sec.mk hD
  clear hC hD
  by_cases hl : t.length = s.length
  · rw [← hl]
    have HL := Sec.mk hl
    clear hl
    go_enter Tryz.func9, Tryz.ntmps9
    go_wp2
    go_loopw [5] (fun i wr => ∃ k : Nat, k ≤ t.length ∧ i = .int .i64 k ∧ Sec (t.take k = s.take k) ∧ Sec (Below w.heap.size w wr)) (fun i _ => t.length - (intOf i).toNat)
    case atStart => exact ⟨0, Nat.zero_le _, rfl, ⟨by simp⟩, ⟨Below.refl _ _⟩⟩
    case round =>
      obtain ⟨k, hk, rfl, hT, hb⟩ := hrel
      by_cases hlt : k < t.length
      · have hlt2 : k < s.length := by have := HL.out; omega
        obtain ⟨b, off, rfl, _, x0⟩ := byte_at (Kd.C_below HC.out hb.out (by decide)) k hlt
        obtain ⟨b2, off2, rfl, _, y0⟩ := byte_at (Kd.C_below HD.out hb.out (by decide)) k hlt2
        have hT1 : Sec (t[k] = s[k] → t.take (k + 1) = s.take (k + 1)) := ⟨fun e => by rw [List.take_succ_eq_append_getElem hlt, List.take_succ_eq_append_getElem hlt2, hT.out, e]⟩
        have hT2 : Sec (t = s → t[k] = s[k]) := ⟨fun e => by subst e; rfl⟩
        generalize t[k] = x at *
        generalize s[k] = y at *
        have hue := Sec.mk (u8_eq x y)
        have i0 : (0 : Int) ≤ (k : Int) := by omega
        have i1 : (k : Int) < (t.length : Int) := by omega
        have B1 : Sec (Below w.heap.size w wr.drew) := ⟨belD hb.out⟩
        by_cases hxy : x = y
        · have HE : Sec (t.take (k + 1) = s.take (k + 1)) := ⟨hT1.out hxy⟩
          have hq : ((x.toNat : Int) == (y.toNat : Int)) = true := by rw [hue.out]; exact decide_eq_true hxy
          have hq2 : ((x.toNat : Int) != (y.toNat : Int)) = false := by simp only [bne, hq]; rfl
          clear hxy
          go_wp2
          go_region_held3 (fun W => W.cell? ⟨b, off + k, none⟩ = some (.int .u8 (x.toNat : Int)) ∧ W.cell? ⟨b2, off2 + k, none⟩ = some (.int .u8 (y.toNat : Int))) (first | (refine ⟨?_, ?_⟩ <;> assumption) | go_keep) (fail)
          all_goals
            go_wp2
            go_roundw
            case rel => exact ⟨k + 1, by omega, by go_num, HE, by first | exact hb | exact B1 | exact ⟨belD B1.out⟩⟩
            case measure => simp [intOf]; omega
        · have HE : Sec (decide (t = s) = false) := ⟨decide_eq_false (fun e => hxy (hT2.out e))⟩
          have hq : ((x.toNat : Int) == (y.toNat : Int)) = false := by rw [hue.out]; exact decide_eq_false hxy
          have hq2 : ((x.toNat : Int) != (y.toNat : Int)) = true := by simp only [bne, hq]; rfl
          clear hxy
          go_wp2
          go_region_held3 (fun W => W.cell? ⟨b, off + k, none⟩ = some (.int .u8 (x.toNat : Int)) ∧ W.cell? ⟨b2, off2 + k, none⟩ = some (.int .u8 (y.toNat : Int))) (first | (refine ⟨?_, ?_⟩ <;> assumption) | go_keep) (fail)
          all_goals
            go_wp2
            go_ret
            exact ⟨rb HE.out.symm, by first | exact hb.out | exact B1.out | exact belD B1.out⟩
      · have HE : Sec (decide (t = s) = true) := ⟨decide_eq_true (by have := hT.out; have h2 := HL.out; rwa [List.take_of_length_le (by omega), List.take_of_length_le (by omega)] at this)⟩
        go_wp2
        go_ret
        exact ⟨rb HE.out.symm, hb.out⟩
  · have hl' : ((t.length : Int) == (s.length : Int)) = false := beq_eq_false_iff_ne.2 (by omega)
    have HE : Sec (decide (t = s) = false) := ⟨decide_eq_false (fun e => hl (by rw [e]))⟩
    go_enter Tryz.func9, Tryz.ntmps9
    go_wp2
    go_ret
    exact ⟨rb HE.out.symm, Below.refl _ _⟩
def mByte : Mk UInt8 := ⟨fun _ => 1, fun _ k => u8 k⟩
theorem mByte_cnts (t : List UInt8) : mByte.cnts t = t.length := by
  unfold Mk.cnts
  induction t with
  | nil => rfl
  | cons x t ih => rw [List.map_cons, List.sum_cons, ih, List.length_cons]; show 1 + _ = _; omega
theorem markSByte_c (v : Value) (t : List UInt8) (S : Nat → Prop) (k : Int) (hk : 0 ≤ k) (hk2 : k + mByte.cnts t ≤ 1000000000000000000) (w : World) (hR : kByte.R w S v t) :
    Calls Tryz.prog 12 #[v, .int .i64 k] w fun e w' => e = .returned (.int .i64 (k + mByte.cnts t)) ∧ kByte.R w' S v (mByte.mks t k) ∧ Foot S w w' := by
  obtain ⟨A, cp, hv, g1, g2⟩ := Kd.R_form hR
  subst hv
  have h3 : t.length ≤ 1073741824 := hR.1
  have HR := Sec.mk hR
  clear hR
  rw [mByte_cnts] at hk2 ⊢
  have HX := Sec.mk (mByte.next t k)
  have HCN : Sec (∀ i, i ≤ t.length → mByte.cnts (t.take i) = i) := ⟨fun i hi => by rw [mByte_cnts, List.length_take]; omega⟩
  go_enter Tryz.func12, Tryz.ntmps12
  go_wp2
  go_loopw [1, 5] (fun kv iv wr => ∃ i : Nat, i ≤ t.length ∧ iv = .int .i64 i ∧ kv = .int .i64 (k + (i : Int)) ∧ Sec (kByte.R wr S (.slice A t.length cp) (mByte.mks (t.take i) k ++ t.drop i)) ∧ Sec (Foot S w wr)) (fun _ iv _ => t.length - (intOf iv).toNat)
  case atStart => exact ⟨0, Nat.zero_le _, rfl, by simp, ⟨by simpa [Mk.mks] using HR.out⟩, ⟨Foot.refl _ _⟩⟩
  case round =>
    obtain ⟨i, hi, rfl, rfl, hM, hF⟩ := hrel
    by_cases hlt : i < t.length
    · have hL : (mByte.mks (t.take i) k ++ t.drop i).length = t.length := mByte.len_ t k i
      have hil : i < (mByte.mks (t.take i) k ++ t.drop i).length := by omega
      obtain ⟨b, rfl, -, hSb, hbb, -⟩ := Kd.R_block hM.out (by omega)
      obtain ⟨cs, hA, -⟩ := Kd.At.of_R hM.out hil
      rw [mByte.at_ t k i hlt] at hA
      have hnext := HX.out i hlt
      rw [HCN.out i hi] at hnext
      have HNX := Sec.mk hnext
      clear hM hL hnext
      generalize mByte.mks (t.take i) k ++ t.drop i = L at *
      generalize t[i] = x at *
      obtain ⟨rfl, -⟩ : cs = [byteC x] ∧ True := hA.K
      have A0 := Sec.mk hA
      clear hA
      have c0 : wr.cell? ⟨b, i, none⟩ = some (byteC x) := by
        have := Kd.At.cell A0.out 0 _ rfl
        rwa [show i * kByte.sz + 0 = i from by simp [kByte, Kd.byte, Kd.scalar]] at this
      have f0 : wr.frozen? ⟨b, i, none⟩ = false := Kd.At.frozen A0.out i
      have A1 : Sec (Kd.At kByte (wr.setCell ⟨b, i, none⟩ (.int .u8 (IntKind.u8.wrap (k + (i : Int))))) S b t.length cp L i (mByte.one x (k + (i : Int))) [.int .u8 (IntKind.u8.wrap (k + (i : Int)))]) := ⟨by
        have := Kd.At.store A0.out (Kd.Fld.self kByte) rfl (mByte.one x (k + (i : Int))) (.int .u8 (IntKind.u8.wrap (k + (i : Int)))) (fun w S => kByte_O w S _)
        rwa [show i * kByte.sz + 0 = i from by simp [kByte, Kd.byte, Kd.scalar]] at this⟩
      have F1 : Sec (Foot S w (wr.setCell ⟨b, i, none⟩ (.int .u8 (IntKind.u8.wrap (k + (i : Int)))))) := ⟨hF.out.set (g := b) (.inl hSb) i (.int .u8 (IntKind.u8.wrap (k + (i : Int))))⟩
      go_wp2
      go_roundw
      case rel => exact ⟨i + 1, by omega, by go_num, by congr 1; omega, ⟨by rw [← HNX.out]; exact A1.out.R⟩, F1⟩
      case measure => simp [intOf]; omega
    · have hfin : Sec (mByte.mks (t.take i) k ++ t.drop i = mByte.mks t k) := ⟨by rw [List.take_of_length_le (by omega), List.drop_of_length_le (by omega), List.append_nil]⟩
      have hM2 := hM.out
      rw [hfin.out] at hM2
      have HM2 := Sec.mk hM2
      have hi2 : Sec (k + (i : Int) = k + (t.length : Int)) := ⟨by omega⟩
      clear hM2 hM hfin
      go_wp2
      go_ret
      exact ⟨ri hi2.out, HM2.out, hF.out⟩
theorem heldSByte_c (v : Value) (t : List UInt8) (ok : Nat → Prop) (k : Int) (hk : 0 ≤ k) (hk2 : k + mByte.cnts t ≤ 1000000000000000000) (w : World) (hV : kByte.V w ok v (mByte.mks t k)) :
    Calls Tryz.prog 13 #[v, .int .i64 k] w fun e w' => e = .returned (.int .i64 (k + mByte.cnts t)) ∧ Below w.heap.size w w' := by
  obtain ⟨A, cp, rfl, g1, g2, g3, hC, _⟩ := hV
  rw [Mk.mks_len] at g1 g3
  rw [Mk.mks_len]
  rw [mByte_cnts] at hk2 ⊢
  have HC := Sec.mk hC
  clear hC
  have HCN : Sec (∀ i, i ≤ t.length → mByte.cnts (t.take i) = i) := ⟨fun i hi => by rw [mByte_cnts, List.length_take]; omega⟩
  have HG := Sec.mk (mByte.get t k)
  have HLn := Sec.mk (mByte.mks_len t k)
  go_enter Tryz.func13, Tryz.ntmps13
  go_wp2
  go_loop [1, 5] (fun kv iv => ∃ i : Nat, i ≤ t.length ∧ iv = .int .i64 i ∧ kv = .int .i64 (k + (i : Int))) (fun _ iv => t.length - (intOf iv).toNat)
  case atStart => exact ⟨0, Nat.zero_le _, rfl, by simp⟩
  case round =>
    obtain ⟨i, hi, rfl, rfl⟩ := hrel
    by_cases hlt : i < t.length
    · obtain ⟨b, off, rfl, hob, c0⟩ := byte_at HC.out i (by rw [HLn.out]; exact hlt)
      rw [HG.out i hlt, HCN.out i hi] at c0
      have e1 : ((mByte.one t[i] (k + (i : Int))).toNat : Int) = (k + (i : Int)) % 256 := u8_toNat _
      have c1 : w.cell? ⟨b, off + i, none⟩ = some (.int .u8 ((k + (i : Int)) % 256)) := by rw [← e1]; exact c0
      have e2 : IntKind.u8.wrap (k + (i : Int)) = (k + (i : Int)) % 256 := IntKind.wrap_u8' _
      clear c0 e1
      go_wp2
      go_round
      case rel => exact ⟨i + 1, by omega, by go_num, by congr 1; omega⟩
      case measure => simp [intOf]; omega
    · have hi2 : Sec (k + (i : Int) = k + (t.length : Int)) := ⟨by omega⟩
      go_wp2
      go_ret
      exact ⟨ri hi2.out, Below.refl _ _⟩
end
section
open Go.RowKit
set_option linter.unusedVariables false
set_option maxRecDepth 100000
theorem l1In_c (n lo hi : Int) (w : World) : Calls Tryz.prog 46 #[.int .i64 n, .int .i64 lo, .int .i64 hi] w fun e w' => e = .returned (.bool (inB n lo hi)) ∧ w = w' := by
  go_enter Tryz.func46, Tryz.ntmps46
  go_wp2
  all_goals (go_ret; exact ⟨by unfold inB; simp_all; try omega, rfl⟩)
theorem l1Name_c (s : ByteArray) (w : World) : Calls Tryz.prog 80 #[.string s] w fun e w' => e = .returned (.bool (nameOk s)) ∧ w = w' := by
  by_cases h : (1 ≤ s.size ∧ s.size ≤ 8) ∧ (s.toList == [97, 110, 100]) = false
  · obtain ⟨⟨h1, h2⟩, h3⟩ := h
    have h0 : ¬ s = ByteArray.empty := by rintro rfl; simp at h1
    have h4 : ((s.size : Int) == 0) = false := by rw [beq_eq_false_iff_ne]; omega
    have hfin : Sec (s.data.toList.all small = nameOk s) := ⟨by unfold nameOk; simp [h1, h2, h3]⟩
    go_enter Tryz.func80, Tryz.ntmps80
    go_wp2
    go_loop [3] (fun i => ∃ k : Nat, k ≤ s.size ∧ i = .int .i64 k ∧ (s.data.toList.take k).all small = true) (fun i => s.size - (intOf i).toNat)
    case atStart => exact ⟨0, Nat.zero_le _, rfl, by simp⟩
    case round =>
      obtain ⟨k, hk, rfl, hr⟩ := hrel
      have hR : Sec ((s.data.toList.take k).all small = true) := ⟨hr⟩
      clear hr
      by_cases hlt : k < s.size
      · have hA := take_all small s.data.toList k (by simpa using hlt)
        have hb : s.data.toList[k]'(by simpa using hlt) = s[k] := rfl
        rw [hb, hR.out, Bool.true_and] at hA
        cases hs : small s[k] with
        | true =>
          rw [hs] at hA
          have hA' := Sec.mk hA
          clear hA
          simp only [small, Bool.and_eq_true, decide_eq_true_eq] at hs
          obtain ⟨g1, g2⟩ := hs
          go_wp2
          go_round
          case rel => exact ⟨k + 1, by omega, by go_num, hA'.out⟩
          case measure => simp [intOf]; omega
        | false =>
          have hF : Sec (nameOk s = false) := ⟨by
            rw [← hfin.out, ← Bool.not_eq_true]; intro h
            have := List.all_eq_true.1 h s[k] (by rw [← hb]; exact List.getElem_mem _)
            rw [hs] at this; cases this⟩
          clear hA
          have hs' : ¬ (97 ≤ (s[k].toNat : Int) ∧ (s[k].toNat : Int) ≤ 122) := by simpa [small] using hs
          clear hs
          go_wp2
          all_goals first
            | (exfalso; apply hs'; assumption)
            | (go_ret; exact ⟨rb hF.out.symm, rfl⟩)
      · have hf2 : Sec (nameOk s = true) := ⟨by rw [← hfin.out, ← hR.out, List.take_of_length_le (by simp; omega)]⟩
        go_wp2
        go_ret
        exact ⟨rb hf2.out.symm, rfl⟩
  · have hfin : Sec (nameOk s = false) := ⟨by unfold nameOk; revert h; cases (s.toList == [97, 110, 100]) <;> simp <;> omega⟩
    by_cases h1 : s.size = 0
    · have h0 : s = ByteArray.empty := ByteArray.ext (Array.eq_empty_of_size_eq_zero h1)
      clear h h1
      subst h0
      go_enter Tryz.func80, Tryz.ntmps80
      go_wp2
      go_ret
      exact ⟨rb hfin.out.symm, rfl⟩
    · have h4 : ((s.size : Int) == 0) = false := by rw [beq_eq_false_iff_ne]; omega
      have h0 : ¬ s = ByteArray.empty := by rintro rfl; simp at h1
      by_cases h2 : 8 < (s.size : Int)
      · clear h
        go_enter Tryz.func80, Tryz.ntmps80
        go_wp2
        go_ret
        exact ⟨rb hfin.out.symm, rfl⟩
      · have h3 : (s.toList == [97, 110, 100]) = true := by
          cases h5 : (s.toList == [97, 110, 100])
          · exact absurd ⟨⟨by omega, by omega⟩, h5⟩ h
          · rfl
        clear h
        go_enter Tryz.func80, Tryz.ntmps80
        go_wp2
        go_ret
        exact ⟨rb hfin.out.symm, rfl⟩
theorem l1Cell_c (x : Cell) (w : World) : Calls Tryz.prog 64 #[x.agg] w fun e w' => e = .returned (.bool (cellOk x)) ∧ Below w.heap.size w w' := by
  have hu := Tryz.underlying77
  have hB : Sec (Below w.heap.size w (w.alloc (.cells #[.int .i64 x.kind, .int .i64 x.n, .string x.name] 77))) := ⟨(Below.refl _ _).alloc (Nat.le_refl _) _⟩
  go_enter Tryz.func64, Tryz.ntmps64
  go_wp2_with (first | (go_at_call 46; refine (l1In_c _ _ _ _).mono ?_; rintro e w' ⟨rfl, rfl⟩) | (go_at_call 80; refine (l1Name_c _ _).mono ?_; rintro e w' ⟨rfl, rfl⟩))
  all_goals (go_ret; exact ⟨rb (by simp_all [cellOk]), hB.out⟩)
theorem l1End_c (A : Option Addr) (c : Nat) (t : Term) (ok : Nat → Prop) (at_ : Nat) (w : World) (hC : kCell.C w ok A t) (hl : t.length ≤ 1073741824) (hat : at_ ≤ t.length) (hc : t.all cellOk = true) :
    Calls Tryz.prog 65 #[.slice A t.length c, .int .i64 at_] w fun e w' => e = .returned (.int .i64 (endAt t at_)) ∧ w = w' := by
  have HC := Sec.mk hC
  have Hc := Sec.mk hc
  clear hC hc
  go_enter Tryz.func65, Tryz.ntmps65
  go_wp2
  go_loop [5, 6] (fun o k => ∃ m j : Nat, j ≤ t.length ∧ m ≤ 1 + 3 * j ∧ o = .int .i64 m ∧ k = .int .i64 j ∧ Sec (skip 1 (t.drop at_) = skip m (t.drop j))) (fun _ k => t.length - (intOf k).toNat)
  case atStart => exact ⟨1, at_, hat, by omega, rfl, rfl, ⟨rfl⟩⟩
  case round =>
    obtain ⟨m, j, hj, hm, rfl, rfl, hs⟩ := hrel
    cases m with
    | zero =>
      have hf : Sec (endAt t at_ = j) := ⟨by unfold endAt; rw [hs.out]; simp [skip]; omega⟩
      go_wp2
      go_ret
      exact ⟨ri hf.out.symm, rfl⟩
    | succ m =>
      by_cases hlt : j < t.length
      · obtain ⟨b, off, rfl, hb, h0, h1, h2, _⟩ := cell_at HC.out j hlt
        have hok := cellOk_arity (List.all_eq_true.1 Hc.out _ (List.getElem_mem hlt))
        have hst := Sec.mk (hs.out.trans (skip_step hlt))
        generalize t[j] = x at *
        by_cases hk : x.kind = 3
        · obtain ⟨g1, g2⟩ := hok.2 hk
          have hn : Sec ((m : Int) + 1 - 1 + x.n = ((m + arity x : Nat) : Int)) := ⟨by unfold arity; rw [if_pos hk]; omega⟩
          have hbd := hok.1
          clear hok
          have hk' : (x.kind == 3) = true := beq_iff_eq.2 hk
          clear hk
          go_wp2
          go_round
          case rel => exact ⟨m + arity x, j + 1, by omega, by omega, by rw [← hn.out]; go_num, by go_num, hst⟩
          case measure => simp [intOf]; omega
        · have hn : Sec (arity x = 0) := ⟨by unfold arity; rw [if_neg hk]⟩
          clear hok
          have hk' : (x.kind == 3) = false := beq_eq_false_iff_ne.2 hk
          clear hk
          go_wp2
          go_round
          case rel => exact ⟨m, j + 1, by omega, by omega, by go_num, by go_num, ⟨by rw [hst.out, hn.out]; rfl⟩⟩
          case measure => simp [intOf]; omega
      · have hf : Sec (endAt t at_ = -1) := ⟨by unfold endAt; rw [hs.out, skip_out (by omega)]⟩
        go_wp2
        go_ret
        exact ⟨ri hf.out.symm, rfl⟩
theorem TrmOk_c (v : Value) (t : Term) (ok : Nat → Prop) (w : World) (hV : kCell.V w ok v t) :
    Calls Tryz.prog 48 #[v] w fun e w' => e = .returned (.bool (trmOk t)) ∧ Below w.heap.size w w' := by
  obtain ⟨A, c, rfl, h1, h2, h3, hC, _⟩ := hV
  have HC := Sec.mk hC
  clear hC
  have hu := Tryz.underlying77
  by_cases h : 1 ≤ t.length ∧ t.length ≤ 40
  · obtain ⟨g1, g2⟩ := h
    have n1 : ((t.length : Int) == 0) = false := by rw [beq_eq_false_iff_ne]; omega
    have n2 : ¬ t = [] := by rintro rfl; simp at g1
    go_enter Tryz.func48, Tryz.ntmps48
    go_wp2
    go_loopw [3] (fun i wr => ∃ k : Nat, k ≤ t.length ∧ i = .int .i64 k ∧ Sec ((t.take k).all cellOk = true) ∧ Sec (Below w.heap.size w wr)) (fun i _ => t.length - (intOf i).toNat)
    case atStart => exact ⟨0, Nat.zero_le _, rfl, ⟨rfl⟩, ⟨Below.refl _ _⟩⟩
    case round =>
      obtain ⟨k, hk, rfl, hr, hb⟩ := hrel
      by_cases hlt : k < t.length
      · obtain ⟨b, off, rfl, hob, c0, c1, c2, _⟩ := cell_at (Kd.C_below HC.out hb.out (by decide)) k hlt
        have hA := Sec.mk (take_all cellOk t k hlt)
        generalize hx : t[k] = x at *
        have Hx := Sec.mk hx
        clear hx
        cases hs : cellOk x with
        | true =>
          have hA' : Sec ((t.take (k + 1)).all cellOk = true) := ⟨by rw [hA.out, hr.out, hs]; rfl⟩
          have Hs := Sec.mk hs
          clear hs
          go_wp2_with (go_at_call 64; refine (l1Cell_c x _).mono ?_; rw [Hs.out]; rintro e w1 ⟨rfl, hb1⟩; have hb2 := Sec.mk (bel hb.out hb1); clear hb1)
          go_roundw
          case rel => exact ⟨k + 1, by omega, by go_num, hA', hb2⟩
          case measure => simp [intOf]; omega
        | false =>
          have hF : Sec (trmOk t = false) := ⟨by
            unfold trmOk
            have : t.all cellOk = false := by
              rw [← Bool.not_eq_true]; intro h
              have := List.all_eq_true.1 h x (by rw [← Hx.out]; exact List.getElem_mem _)
              rw [hs] at this; cases this
            rw [this]; simp⟩
          have Hs := Sec.mk hs
          clear hs
          go_wp2_with (go_at_call 64; refine (l1Cell_c x _).mono ?_; rw [Hs.out]; rintro e w1 ⟨rfl, hb1⟩; have hb2 := Sec.mk (bel hb.out hb1); clear hb1)
          go_ret
          exact ⟨rb hF.out.symm, hb2.out⟩
      · have hall : Sec (t.all cellOk = true) := ⟨by have := hr.out; rwa [List.take_of_length_le (by omega)] at this⟩
        have hfin : Sec ((endAt t 0 == (t.length : Int)) = trmOk t) := ⟨by
          have e := endAt_whole t
          unfold trmOk; rw [hall.out, ← e, Bool.beq_eq_decide_eq]; simp [g1, g2]⟩
        go_wp2_with (go_at_call 65; refine (l1End_c A c t ok 0 _ (Kd.C_below HC.out hb.out (by decide)) h3 (Nat.zero_le _) hall.out).mono ?_; rintro e w1 ⟨rfl, rfl⟩)
        go_ret
        exact ⟨rb hfin.out, hb.out⟩
  · have hF : Sec (trmOk t = false) := ⟨by unfold trmOk; simp; omega⟩
    by_cases n2 : t = []
    · subst n2
      go_enter Tryz.func48, Tryz.ntmps48
      go_wp2
      go_ret
      exact ⟨rb hF.out.symm, Below.refl _ _⟩
    · have n1 : ((t.length : Int) == 0) = false := by rw [beq_eq_false_iff_ne]; have := List.length_pos_iff.2 n2; omega
      have n3 : 40 < (t.length : Int) := by have := List.length_pos_iff.2 n2; omega
      clear h
      go_enter Tryz.func48, Tryz.ntmps48
      go_wp2
      go_ret
      exact ⟨rb hF.out.symm, Below.refl _ _⟩
end
section
open Go.RowKit
set_option linter.unusedVariables false
set_option maxRecDepth 100000
theorem info_int : (Tryz.prog.info? 3).map (fun i => (i.zero, i.size, i.bytes)) = some (some (.int .i64 0), 1, 8) := by kernel_rfl
theorem info_cell : (Tryz.prog.info? 77).map (fun i => (i.zero, i.size, i.bytes)) = some (some (.agg #[.int .i64 0, .int .i64 0, .string ⟨#[]⟩]), 3, 32) := by kernel_rfl
theorem int_at {w : World} {ok : Nat → Prop} {A : Option Addr} {xs : List Int} (h : kInt.C w ok A xs) (i : Nat) (hi : i < xs.length) : ∃ b off, A = some ⟨b, off, none⟩ ∧ ok b ∧ w.cell? ⟨b, off + i, none⟩ = some (.int .i64 xs[i]) := by
  obtain ⟨b, off, cs, hA, hb, hK, hc⟩ := Kd.C_get h (List.getElem?_eq_getElem hi)
  obtain ⟨rfl, _⟩ := hK
  refine ⟨b, off, hA, hb, ?_⟩
  have := hc 0 _ rfl
  rw [show i * kInt.sz + 0 = i from by simp [kInt, Kd.int, Kd.scalar]] at this
  exact this
theorem int_O (w : World) (S : Nat → Prop) (n : Int) : kInt.O w S n [.int .i64 n] := ⟨rfl, trivial⟩

theorem l1Has_c (v : Value) (l : List Int) (n : Int) (ok : Nat → Prop) (w : World) (hV : kInt.V w ok v l) :
    Calls Tryz.prog 91 #[v, .int .i64 n] w fun e w' => e = .returned (.bool (decide (n ∈ l))) ∧ w = w' := by
  obtain ⟨A, c, rfl, h1, h2, h3, hC, _⟩ := hV
  have HC := Sec.mk hC
  clear hC
  go_enter Tryz.func91, Tryz.ntmps91
  go_wp2
  go_loop [5] (fun i => ∃ k : Nat, k ≤ l.length ∧ i = .int .i64 k ∧ Sec (¬ n ∈ l.take k)) (fun i => l.length - (intOf i).toNat)
  case atStart => exact ⟨0, Nat.zero_le _, rfl, ⟨by simp⟩⟩
  case round =>
    obtain ⟨k, hk, rfl, hr⟩ := hrel
    by_cases hlt : k < l.length
    · obtain ⟨b, off, rfl, hob, c0⟩ := int_at HC.out k hlt
      have hT := Sec.mk (List.take_succ_eq_append_getElem hlt)
      have hM := Sec.mk (List.getElem_mem hlt)
      generalize l[k] = x at *
      by_cases hx : x = n
      · subst hx
        go_wp2
        go_ret
        exact ⟨rb (by simp [hM.out]), rfl⟩
      · have hx' : (x == n) = false := beq_eq_false_iff_ne.2 hx
        have hn : Sec (¬ n ∈ l.take (k + 1)) := ⟨by rw [hT.out]; simp [hr.out]; omega⟩
        clear hx
        go_wp2
        go_round
        case rel => exact ⟨k + 1, by omega, by go_num, hn⟩
        case measure => simp [intOf]; omega
    · have hn : Sec (¬ n ∈ l) := ⟨by have := hr.out; rwa [List.take_of_length_le (by omega)] at this⟩
      go_wp2
      go_ret
      exact ⟨rb (by simp [hn.out]), rfl⟩

theorem TrmFree_c (v : Value) (t : Term) (ok : Nat → Prop) (w : World) (hV : kCell.V w ok v t) :
    Calls Tryz.prog 75 #[v] w fun e w' => ∃ u, e = .returned u ∧ kInt.R w' (fun k => w.heap.size ≤ k) u (free t) ∧ Below w.heap.size w w' := by
  obtain ⟨A, c, rfl, h1, h2, h3, hC, _⟩ := hV
  have HC := Sec.mk hC
  clear hC
  have H3 := Sec.mk h3
  have hu := Tryz.underlying77
  go_enter Tryz.func75, Tryz.ntmps75
  go_wp2
  go_loopw [3, 4] (fun v i wr => ∃ k : Nat, k ≤ t.length ∧ i = .int .i64 k ∧ Sec (kInt.R wr (fun k => w.heap.size ≤ k) v (free (t.take k))) ∧ Sec (Below w.heap.size w wr)) (fun _ i _ => t.length - (intOf i).toNat)
  case atStart => exact ⟨0, Nat.zero_le _, rfl, ⟨Kd.R_empty kInt (Nat.le_refl _)⟩, ⟨belA (Below.refl _ _) _⟩⟩
  case round =>
    obtain ⟨k, hk, rfl, hR, hb⟩ := hrel
    by_cases hlt : k < t.length
    · obtain ⟨b, off, rfl, hob, c0, c1, c2, _⟩ := cell_at (Kd.C_below HC.out hb.out (by decide)) k hlt
      have hT : Sec (free (t.take (k + 1)) = freeStep (free (t.take k)) t[k]) := ⟨take_foldl _ _ _ _ hlt⟩
      have hL : Sec ((free (t.take k)).length + 1 ≤ 1073741824) := ⟨by have := free_len (t.take k); rw [List.length_take] at this; have := H3.out; omega⟩
      generalize t[k] = x at *
      by_cases hx : x.kind = 1
      · have hx' : (x.kind == 1) = true := beq_iff_eq.2 hx
        have hV := Sec.mk (Kd.R_V hR.out)
        by_cases hm : x.n ∈ free (t.take k)
        · have hT' : Sec (free (t.take (k + 1)) = free (t.take k)) := ⟨by rw [hT.out]; unfold freeStep; rw [if_neg (by simp [hm])]⟩
          have Hm := Sec.mk hm
          clear hx hm
          go_wp2_with (go_at_call 91; refine (l1Has_c _ _ _ _ _ hV.out).mono ?_; rw [decide_eq_true Hm.out]; rintro e w' ⟨rfl, rfl⟩)
          go_roundw
          case rel => exact ⟨k + 1, by omega, by go_num, ⟨by rw [hT'.out]; exact hR.out⟩, hb⟩
          case measure => simp [intOf]; omega
        · have hT' : Sec (free (t.take (k + 1)) = free (t.take k) ++ [x.n]) := ⟨by rw [hT.out]; unfold freeStep; rw [if_pos ⟨hx, hm⟩]⟩
          have Hm := Sec.mk hm
          clear hx hm
          go_wp2_with (first | (go_at_call 91; refine (l1Has_c _ _ _ _ _ hV.out).mono ?_; rw [decide_eq_false Hm.out]; rintro e w' ⟨rfl, rfl⟩) | (at_builtin; refine Kd.R_app kInt (w0 := w) (wb := wr) (W := wr) rfl (.tmp 28) (.tmp 34) 96 (.int .i64 0) 8 rfl Tryz.underlying96 info_int rfl (by decide) (by decide) _ _ x.n [.int .i64 x.n] rfl rfl (by simp) hR.out hb.out (Below.refl _ _) (int_O _ _ _) hL.out ?_; intro v1 w1 hR1 hb1; have HR1 := Sec.mk hR1; have HB1 := Sec.mk hb1; clear hR1 hb1))
          go_roundw
          case rel => exact ⟨k + 1, by omega, by go_num, ⟨by rw [hT'.out]; exact HR1.out⟩, HB1⟩
          case measure => simp [intOf]; omega
      · have hx' : (x.kind == 1) = false := beq_eq_false_iff_ne.2 hx
        have hT' : Sec (free (t.take (k + 1)) = free (t.take k)) := ⟨by rw [hT.out]; unfold freeStep; rw [if_neg (by simp [hx])]⟩
        clear hx
        go_wp2
        go_roundw
        case rel => exact ⟨k + 1, by omega, by go_num, ⟨by rw [hT'.out]; exact hR.out⟩, hb⟩
        case measure => simp [intOf]; omega
    · have hf : Sec (free (t.take k) = free t) := ⟨by rw [List.take_of_length_le (by omega)]⟩
      go_wp2
      go_ret
      exact ⟨_, rfl, by rw [← hf.out]; exact hR.out, hb.out⟩

theorem l1Shift_c (v : Value) (t : Term) (n : Int) (ok : Nat → Prop) (w : World) (hV : kCell.V w ok v t) :
    Calls Tryz.prog 63 #[v, .int .i64 n] w fun e w' => ∃ u, e = .returned u ∧ kCell.R w' (fun k => w.heap.size ≤ k) u (shifted t n) ∧ Below w.heap.size w w' := by
  obtain ⟨A, c, rfl, h1, h2, h3, hC, _⟩ := hV
  have HC := Sec.mk hC
  clear hC
  have H3 := Sec.mk h3
  have hu := Tryz.underlying77
  go_enter Tryz.func63, Tryz.ntmps63
  go_wp2
  go_loopw [5, 6] (fun v i wr => ∃ k : Nat, k ≤ t.length ∧ i = .int .i64 k ∧ Sec (kCell.R wr (fun k => w.heap.size ≤ k) v ((t.take k).map (shiftC n))) ∧ Sec (Below w.heap.size w wr)) (fun _ i _ => t.length - (intOf i).toNat)
  case atStart => exact ⟨0, Nat.zero_le _, rfl, ⟨Kd.R_empty kCell (Nat.le_refl _)⟩, ⟨belA (Below.refl _ _) _⟩⟩
  case round =>
    obtain ⟨k, hk, rfl, hR, hb⟩ := hrel
    by_cases hlt : k < t.length
    · obtain ⟨b, off, rfl, hob, c0, c1, c2, hnm⟩ := cell_at (Kd.C_below HC.out hb.out (by decide)) k hlt
      have hT : Sec ((t.take (k + 1)).map (shiftC n) = (t.take k).map (shiftC n) ++ [shiftC n t[k]]) := ⟨take_map _ _ _ hlt⟩
      have hL : Sec (((t.take k).map (shiftC n)).length + 1 ≤ 1073741824) := ⟨by simp; omega⟩
      generalize t[k] = x at *
      by_cases hx : x.kind = 1
      · have hx' : (x.kind == 1) = true := beq_iff_eq.2 hx
        have hs : Sec (shiftC n x = ⟨x.kind, wrap64 (x.n + n), x.name⟩) := ⟨by unfold shiftC; rw [if_pos hx]⟩
        clear hx
        go_wp2_with (at_builtin; refine Kd.R_app kCell (w0 := w) (wb := wr) rfl (.tmp 27) (.tmp 29) 30 (.agg #[.int .i64 0, .int .i64 0, .string ⟨#[]⟩]) 32 rfl Tryz.underlying30 info_cell rfl (by decide) (by decide) _ _ ⟨x.kind, wrap64 (x.n + n), x.name⟩ [.int .i64 x.kind, .int .i64 (wrap64 (x.n + n)), .string x.name] rfl rfl (by simp) hR.out hb.out (belA (Below.refl _ _) _) (kCell_mk _ _ _ hnm) hL.out ?_; intro v1 w1 hR1 hb1; have HR1 := Sec.mk hR1; have HB1 := Sec.mk hb1; clear hR1 hb1)
        go_roundw
        case rel => exact ⟨k + 1, by omega, by go_num, ⟨by rw [hT.out, hs.out]; exact HR1.out⟩, HB1⟩
        case measure => simp [intOf]; omega
      · have hx' : (x.kind == 1) = false := beq_eq_false_iff_ne.2 hx
        have hs : Sec (shiftC n x = x) := ⟨by unfold shiftC; rw [if_neg hx]⟩
        clear hx
        go_wp2_with (at_builtin; refine Kd.R_app kCell (w0 := w) (wb := wr) rfl (.tmp 27) (.tmp 29) 30 (.agg #[.int .i64 0, .int .i64 0, .string ⟨#[]⟩]) 32 rfl Tryz.underlying30 info_cell rfl (by decide) (by decide) _ _ x (cellC x) rfl rfl (by simp) hR.out hb.out (belA (Below.refl _ _) _) (kCell_mk _ _ _ hnm) hL.out ?_; intro v1 w1 hR1 hb1; have HR1 := Sec.mk hR1; have HB1 := Sec.mk hb1; clear hR1 hb1)
        go_roundw
        case rel => exact ⟨k + 1, by omega, by go_num, ⟨by rw [hT.out, hs.out]; exact HR1.out⟩, HB1⟩
        case measure => simp [intOf]; omega
    · have hf : Sec ((t.take k).map (shiftC n) = shifted t n) := ⟨by rw [List.take_of_length_le (by omega)]; rfl⟩
      go_wp2
      go_ret
      exact ⟨_, rfl, by rw [← hf.out]; exact hR.out, hb.out⟩
end
section
open Go.RowKit
set_option linter.unusedVariables false
set_option maxRecDepth 100000
theorem place_at (l : List Int) (n : Int) (k : Nat) (h : k < l.length) (h0 : ¬ n ∈ l.take k) (h1 : l[k] = n) : place l n = k := by
  unfold place
  have hm : n ∈ l := by rw [← h1]; exact List.getElem_mem h
  rw [if_pos hm]
  have e : l = l.take k ++ n :: l.drop (k + 1) := by rw [← h1, ← List.drop_eq_getElem_cons h, List.take_append_drop]
  rw [e, List.idxOf_append, if_neg h0, List.idxOf_cons_self, List.length_take]
  omega
theorem place_not (l : List Int) (n : Int) (h : ¬ n ∈ l) : place l n = -1 := if_neg h
theorem place_in (l : List Int) (n : Int) : (0 ≤ place l n) ↔ n ∈ l := by
  unfold place
  by_cases h : n ∈ l
  · rw [if_pos h]; simp [h]
  · rw [if_neg h]; simp [h]
theorem l1Place_c (v : Value) (l : List Int) (n : Int) (ok : Nat → Prop) (w : World) (hV : kInt.V w ok v l) :
    Calls Tryz.prog 76 #[v, .int .i64 n] w fun e w' => e = .returned (.int .i64 (place l n)) ∧ w = w' := by
  obtain ⟨A, c, rfl, h1, h2, h3, hC, _⟩ := hV
  have HC := Sec.mk hC
  clear hC
  go_enter Tryz.func76, Tryz.ntmps76
  go_wp2
  go_loop [5] (fun i => ∃ k : Nat, k ≤ l.length ∧ i = .int .i64 k ∧ Sec (¬ n ∈ l.take k)) (fun i => l.length - (intOf i).toNat)
  case atStart => exact ⟨0, Nat.zero_le _, rfl, ⟨by simp⟩⟩
  case round =>
    obtain ⟨k, hk, rfl, hr⟩ := hrel
    by_cases hlt : k < l.length
    · obtain ⟨b, off, rfl, hob, c0⟩ := int_at HC.out k hlt
      have hT := Sec.mk (List.take_succ_eq_append_getElem hlt)
      have hP := Sec.mk (place_at l n k hlt hr.out)
      generalize l[k] = x at *
      by_cases hx : x = n
      · have hp := Sec.mk (hP.out hx)
        subst hx
        go_wp2
        go_ret
        exact ⟨ri hp.out.symm, rfl⟩
      · have hx' : (x == n) = false := beq_eq_false_iff_ne.2 hx
        have hn : Sec (¬ n ∈ l.take (k + 1)) := ⟨by rw [hT.out]; simp [hr.out]; omega⟩
        clear hx
        go_wp2
        go_round
        case rel => exact ⟨k + 1, by omega, by go_num, hn⟩
        case measure => simp [intOf]; omega
    · have hn : Sec (place l n = -1) := ⟨place_not l n (by have := hr.out; rwa [List.take_of_length_le (by omega)] at this)⟩
      go_wp2
      go_ret
      exact ⟨ri hn.out.symm, rfl⟩
theorem TrmCanon_c (v : Value) (t : Term) (ok : Nat → Prop) (w : World) (hV : kCell.V w ok v t) :
    Calls Tryz.prog 61 #[v] w fun e w' => ∃ u, e = .returned u ∧ kCell.R w' (fun k => w.heap.size ≤ k) u (canon t) ∧ Below w.heap.size w w' := by
  have HVV := Sec.mk hV
  obtain ⟨A, c, rfl, h1, h2, h3, hC, _⟩ := hV
  have HC := Sec.mk hC
  clear hC
  have H3 := Sec.mk h3
  have hu := Tryz.underlying77
  generalize hfr : free t = fr
  have HFR := Sec.mk hfr
  go_enter Tryz.func61, Tryz.ntmps61
  go_wp2_with (go_at_call 75; refine (TrmFree_c _ t ok _ HVV.out).mono ?_; rintro e wf ⟨vf, rfl, hRf, hbf⟩; rw [HFR.out] at hRf; have HF := Sec.mk (Kd.R_V hRf); obtain ⟨Af, cf, rfl, -, -⟩ := Kd.R_form hRf; have BF := Sec.mk hbf; clear hRf hbf)
  go_loopw [4, 5] (fun v i wr => ∃ k : Nat, k ≤ t.length ∧ i = .int .i64 k ∧ Sec (kCell.R wr (fun k => wf.heap.size ≤ k) v ((t.take k).map (canonC fr))) ∧ Sec (Below wf.heap.size wf wr)) (fun _ i _ => t.length - (intOf i).toNat)
  case atStart => exact ⟨0, Nat.zero_le _, rfl, ⟨Kd.R_empty kCell (Nat.le_refl _)⟩, ⟨belA (Below.refl _ _) _⟩⟩
  case round =>
    obtain ⟨k, hk, rfl, hR, hb⟩ := hrel
    by_cases hlt : k < t.length
    · obtain ⟨b, off, rfl, hob, c0, c1, c2, hnm⟩ := cell_at (Kd.C_below HC.out (bel BF.out hb.out) (by decide)) k hlt
      have hT : Sec ((t.take (k + 1)).map (canonC fr) = (t.take k).map (canonC fr) ++ [canonC fr t[k]]) := ⟨take_map _ _ _ hlt⟩
      have hL : Sec (((t.take k).map (canonC fr)).length + 1 ≤ 1073741824) := ⟨by simp; omega⟩
      generalize t[k] = x at *
      by_cases hx : x.kind = 1
      · have hx' : (x.kind == 1) = true := beq_iff_eq.2 hx
        have hs : Sec (canonC fr x = ⟨x.kind, place fr x.n, x.name⟩) := ⟨by unfold canonC; rw [if_pos hx]⟩
        clear hx
        go_wp2_with (first | (go_at_call 76; refine (l1Place_c _ fr x.n _ _ (Kd.V_below HF.out (belA hb.out _) (by decide))).mono ?_; rintro e w' ⟨rfl, rfl⟩) | (at_builtin; refine Kd.R_app kCell (w0 := wf) (wb := wr) rfl (.tmp 28) (.tmp 30) 30 (.agg #[.int .i64 0, .int .i64 0, .string ⟨#[]⟩]) 32 rfl Tryz.underlying30 info_cell rfl (by decide) (by decide) _ _ ⟨x.kind, place fr x.n, x.name⟩ [.int .i64 x.kind, .int .i64 (place fr x.n), .string x.name] rfl rfl (by simp) hR.out hb.out (belA (Below.refl _ _) _) (kCell_mk _ _ _ hnm) hL.out ?_; intro v1 w1 hR1 hb1; have HR1 := Sec.mk hR1; have HB1 := Sec.mk hb1; clear hR1 hb1))
        go_roundw
        case rel => exact ⟨k + 1, by omega, by go_num, ⟨by rw [hT.out, hs.out]; exact HR1.out⟩, HB1⟩
        case measure => simp [intOf]; omega
      · have hx' : (x.kind == 1) = false := beq_eq_false_iff_ne.2 hx
        have hs : Sec (canonC fr x = x) := ⟨by unfold canonC; rw [if_neg hx]⟩
        clear hx
        go_wp2_with (at_builtin; refine Kd.R_app kCell (w0 := wf) (wb := wr) rfl (.tmp 28) (.tmp 30) 30 (.agg #[.int .i64 0, .int .i64 0, .string ⟨#[]⟩]) 32 rfl Tryz.underlying30 info_cell rfl (by decide) (by decide) _ _ x (cellC x) rfl rfl (by simp) hR.out hb.out (belA (Below.refl _ _) _) (kCell_mk _ _ _ hnm) hL.out ?_; intro v1 w1 hR1 hb1; have HR1 := Sec.mk hR1; have HB1 := Sec.mk hb1; clear hR1 hb1)
        go_roundw
        case rel => exact ⟨k + 1, by omega, by go_num, ⟨by rw [hT.out, hs.out]; exact HR1.out⟩, HB1⟩
        case measure => simp [intOf]; omega
    · have hf : Sec ((t.take k).map (canonC fr) = canon t) := ⟨by rw [List.take_of_length_le (by omega), ← HFR.out]; rfl⟩
      have hsz := Sec.mk BF.out.size
      go_wp2
      go_ret
      exact ⟨_, rfl, by rw [← hf.out]; exact Kd.R_mono hR.out (fun k h _ => Nat.le_trans hsz.out h), bel BF.out hb.out⟩
end
section
open Go.RowKit
set_option linter.unusedVariables false
set_option maxRecDepth 100000
theorem in_c (n lo hi : Int) (w : World) : Calls Tryz.prog 52 #[.int .i64 n, .int .i64 lo, .int .i64 hi] w fun e w' => e = .returned (.bool (inB n lo hi)) ∧ w = w' := by
  by_cases h1 : lo ≤ n
  · by_cases h2 : n ≤ hi
    · have hf : Sec (inB n lo hi = true) := ⟨by simp [inB, h1, h2]⟩
      go_enter Tryz.func52, Tryz.ntmps52
      go_wp2
      go_ret
      exact ⟨rb hf.out.symm, rfl⟩
    · have hf : Sec (inB n lo hi = false) := ⟨by simp [inB, h1]; omega⟩
      go_enter Tryz.func52, Tryz.ntmps52
      go_wp2
      go_ret
      exact ⟨rb hf.out.symm, rfl⟩
  · have hf : Sec (inB n lo hi = false) := ⟨by simp [inB]; omega⟩
    go_enter Tryz.func52, Tryz.ntmps52
    go_wp2
    go_ret
    exact ⟨rb hf.out.symm, rfl⟩
theorem index_c (v : Value) (l : List Int) (n : Int) (ok : Nat → Prop) (w : World) (hV : kInt.V w ok v l) :
    Calls Tryz.prog 84 #[v, .int .i64 n] w fun e w' => e = .returned (.int .i64 (place l n)) ∧ w = w' := by
  obtain ⟨A, c, rfl, h1, h2, h3, hC, _⟩ := hV
  have HC := Sec.mk hC
  clear hC
  go_enter Tryz.func84, Tryz.ntmps84
  go_wp2
  go_loop [8] (fun i => ∃ k : Nat, k ≤ l.length ∧ i = .int .i64 k ∧ Sec (¬ n ∈ l.take k)) (fun i => l.length - (intOf i).toNat)
  case atStart => exact ⟨0, Nat.zero_le _, rfl, ⟨by simp⟩⟩
  case round =>
    obtain ⟨k, hk, rfl, hr⟩ := hrel
    by_cases hlt : k < l.length
    · obtain ⟨b, off, rfl, hob, c0⟩ := int_at HC.out k hlt
      have hT := Sec.mk (List.take_succ_eq_append_getElem hlt)
      have hP := Sec.mk (place_at l n k hlt hr.out)
      generalize l[k] = x at *
      by_cases hx : x = n
      · have hp := Sec.mk (hP.out hx)
        subst hx
        go_wp2
        go_ret
        exact ⟨ri hp.out.symm, rfl⟩
      · have hx' : (n == x) = false := beq_eq_false_iff_ne.2 (fun e => hx e.symm)
        have hn : Sec (¬ n ∈ l.take (k + 1)) := ⟨by rw [hT.out]; simp [hr.out]; omega⟩
        clear hx
        go_wp2
        go_round
        case rel => exact ⟨k + 1, by omega, by go_num, hn⟩
        case measure => simp [intOf]; omega
    · have hn : Sec (place l n = -1) := ⟨place_not l n (by have := hr.out; rwa [List.take_of_length_le (by omega)] at this)⟩
      go_wp2
      go_ret
      exact ⟨ri hn.out.symm, rfl⟩
theorem contains_c (v : Value) (l : List Int) (n : Int) (ok : Nat → Prop) (w : World) (hV : kInt.V w ok v l) :
    Calls Tryz.prog 94 #[v, .int .i64 n] w fun e w' => e = .returned (.bool (decide (n ∈ l))) ∧ w = w' := by
  have HV := Sec.mk hV
  obtain ⟨A, c, rfl, h1, h2, h3, hC, _⟩ := hV
  clear hC
  have hp : Sec (decide (0 ≤ place l n) = decide (n ∈ l)) := ⟨by rw [decide_eq_decide]; exact place_in l n⟩
  generalize hpl : place l n = p at *
  have HP := Sec.mk hpl
  clear hpl
  go_enter Tryz.func94, Tryz.ntmps94
  go_wp2_with (go_at_call 84; refine (index_c _ l n ok _ HV.out).mono ?_; rw [HP.out]; rintro e w' ⟨rfl, rfl⟩)
  go_ret
  exact ⟨rb hp.out, rfl⟩
theorem cloneCells_c (v : Value) (t : Term) (ok : Nat → Prop) (w : World) (hV : kCell.V w ok v t) :
    Calls Tryz.prog 83 #[v] w fun e w' => ∃ u, e = .returned u ∧ kCell.R w' (fun k => w.heap.size ≤ k) u t ∧ Below w.heap.size w w' := by
  obtain ⟨A, c, rfl, h1, h2, h3, hC, h0⟩ := hV
  have hut := Tryz.underlying30
  cases A with
  | none =>
    have ht : t = [] := by
      rcases hC with h | ⟨b, off, hA, _⟩
      · exact h
      · cases hA
    subst ht
    obtain rfl := h0 rfl
    have hq := Go.Lib.run_eql_slice_nil (P := Tryz.prog) w 30 _ none 0 0 0 0 hut
    go_enter Tryz.func83, Tryz.ntmps83
    go_wp2
    go_ret
    exact ⟨_, rfl, Kd.R_nil _ _ _, Below.refl _ _⟩
  | some a =>
    have HV : Sec (kCell.V w ok (.slice (some a) t.length c) t) := ⟨⟨_, c, rfl, h1, h2, h3, hC, h0⟩⟩
    clear hC h0
    have hq := Go.Lib.run_eql_slice_nil (P := Tryz.prog) w 30 _ (some a) t.length c 0 0 hut
    go_enter Tryz.func83, Tryz.ntmps83
    go_wp2_with (at_builtin; refine Kd.W_cat kCell rfl (.tmp 5) (.tmp 6) 30 (.agg #[.int .i64 0, .int .i64 0, .string ⟨#[]⟩]) 32 rfl Tryz.underlying30 info_cell rfl (by decide) (by decide) (.slice (some ⟨w.heap.size, 0, none⟩) 0 0) (.slice (some a) t.length c) [] t (fun k => w.heap.size ≤ k) (fun k => k < w.heap.size) rfl rfl (Kd.W_empty kCell w _ _ (Nat.le_refl _)) (Kd.V_move (fun k hk hl => ⟨⟨hl, fun e => absurd (show k = w.heap.size by simpa [Value.ownBlock] using e) (by omega)⟩, Below.heap_alloc _ _ _ hl⟩) HV.out (by decide)) (by simpa using h3) ?_; intro v1 w1 hW hg; have HR := Sec.mk (kCell_W_R hW); have HB := Sec.mk ((belA (Below.refl w.heap.size w) _).grown hg (by simp) (fun k e => Nat.le_of_eq (show w.heap.size = k by simpa [Value.ownBlock] using e))); clear hW hg)
    go_ret
    exact ⟨_, rfl, by have := HR.out; simp only [List.nil_append] at this; exact Kd.R_mono this (fun k h _ => h.elim id (fun h => by simp at h; omega)), HB.out⟩
theorem TrmFree_i (v : Value) (t : Term) (ok : Nat → Prop) (w : World) (hV : kCell.V w ok v t) :
    Calls Tryz.prog 82 #[v] w fun e w' => ∃ u, e = .returned u ∧ kInt.R w' (fun k => w.heap.size ≤ k) u (free t) ∧ Below w.heap.size w w' := by
  obtain ⟨A, c, rfl, h1, h2, h3, hC, _⟩ := hV
  have HC := Sec.mk hC
  clear hC
  have H3 := Sec.mk h3
  have hu := Tryz.underlying77
  go_enter Tryz.func82, Tryz.ntmps82
  go_wp2
  go_loopw [3, 8] (fun v i wr => ∃ k : Nat, k ≤ t.length ∧ i = .int .i64 k ∧ Sec (kInt.R wr (fun k => w.heap.size ≤ k) v (free (t.take k))) ∧ Sec (Below w.heap.size w wr)) (fun _ i _ => t.length - (intOf i).toNat)
  case atStart => exact ⟨0, Nat.zero_le _, rfl, ⟨Kd.R_nil _ _ _⟩, ⟨Below.refl _ _⟩⟩
  case round =>
    obtain ⟨k, hk, rfl, hR, hb⟩ := hrel
    by_cases hlt : k < t.length
    · obtain ⟨b, off, rfl, hob, c0, c1, c2, _⟩ := cell_at (Kd.C_below HC.out hb.out (by decide)) k hlt
      have hT : Sec (free (t.take (k + 1)) = freeStep (free (t.take k)) t[k]) := ⟨take_foldl _ _ _ _ hlt⟩
      have hL : Sec ((free (t.take k)).length + 1 ≤ 1073741824) := ⟨by have := free_len (t.take k); rw [List.length_take] at this; have := H3.out; omega⟩
      generalize t[k] = x at *
      by_cases hx : x.kind = 1
      · have hx' : (x.kind == 1) = true := beq_iff_eq.2 hx
        have hV := Sec.mk (Kd.R_V hR.out)
        by_cases hm : x.n ∈ free (t.take k)
        · have hT' : Sec (free (t.take (k + 1)) = free (t.take k)) := ⟨by rw [hT.out]; unfold freeStep; rw [if_neg (by simp [hm])]⟩
          have Hm := Sec.mk hm
          clear hx hm
          go_wp2_with (go_at_call 94; refine (contains_c _ _ _ _ _ (Kd.V_below hV.out (belA (Below.refl _ _) _) (by decide))).mono ?_; rw [decide_eq_true Hm.out]; rintro e w' ⟨rfl, rfl⟩)
          go_roundw
          case rel => exact ⟨k + 1, by omega, by go_num, ⟨by rw [hT'.out]; exact Kd.R_below hR.out (belA (Below.refl _ _) _)⟩, ⟨belA hb.out _⟩⟩
          case measure => simp [intOf]; omega
        · have hT' : Sec (free (t.take (k + 1)) = free (t.take k) ++ [x.n]) := ⟨by rw [hT.out]; unfold freeStep; rw [if_pos ⟨hx, hm⟩]⟩
          have Hm := Sec.mk hm
          clear hx hm
          go_wp2_with (first | (go_at_call 94; refine (contains_c _ _ _ _ _ (Kd.V_below hV.out (belA (Below.refl _ _) _) (by decide))).mono ?_; rw [decide_eq_false Hm.out]; rintro e w' ⟨rfl, rfl⟩) | (at_builtin; refine Kd.R_app kInt (w0 := w) (wb := wr) rfl (.tmp 22) (.tmp 25) 96 (.int .i64 0) 8 rfl Tryz.underlying96 info_int rfl (by decide) (by decide) _ _ x.n [.int .i64 x.n] rfl rfl (by simp) hR.out hb.out (belA (Below.refl _ _) _) (int_O _ _ _) hL.out ?_; intro v1 w1 hR1 hb1; have HR1 := Sec.mk hR1; have HB1 := Sec.mk hb1; clear hR1 hb1))
          go_roundw
          case rel => exact ⟨k + 1, by omega, by go_num, ⟨by rw [hT'.out]; exact HR1.out⟩, HB1⟩
          case measure => simp [intOf]; omega
      · have hx' : (x.kind == 1) = false := beq_eq_false_iff_ne.2 hx
        have hT' : Sec (free (t.take (k + 1)) = free (t.take k)) := ⟨by rw [hT.out]; unfold freeStep; rw [if_neg (by simp [hx])]⟩
        clear hx
        go_wp2
        go_roundw
        case rel => exact ⟨k + 1, by omega, by go_num, ⟨by rw [hT'.out]; exact Kd.R_below hR.out (belA (Below.refl _ _) _)⟩, ⟨belA hb.out _⟩⟩
        case measure => simp [intOf]; omega
    · have hf : Sec (free (t.take k) = free t) := ⟨by rw [List.take_of_length_le (by omega)]⟩
      go_wp2
      go_ret
      exact ⟨_, rfl, by rw [← hf.out]; exact hR.out, hb.out⟩
theorem TrmCanon_i (v : Value) (t : Term) (ok : Nat → Prop) (w : World) (hV : kCell.V w ok v t) :
    Calls Tryz.prog 68 #[v] w fun e w' => ∃ u, e = .returned u ∧ kCell.R w' (fun k => w.heap.size ≤ k) u (canon t) ∧ Below w.heap.size w w' := by
  have HVV := Sec.mk hV
  obtain ⟨A, c, rfl, h1, h2, h3, hC, hz⟩ := hV
  clear hC hz
  have hu := Tryz.underlying77
  generalize hfr : free t = fr
  have HFR := Sec.mk hfr
  clear hfr
  go_enter Tryz.func68, Tryz.ntmps68
  go_wp2_with (first | (go_at_call 82; refine (TrmFree_i _ t ok _ HVV.out).mono ?_; rintro e wf ⟨vf, rfl, hRf, hbf⟩; rw [HFR.out] at hRf; have HF := Sec.mk (Kd.R_V hRf); obtain ⟨Af, cf, rfl, -, -⟩ := Kd.R_form hRf; have BF := Sec.mk hbf; clear hRf hbf) | (go_at_call 83; refine (cloneCells_c _ t ok _ (Kd.V_below HVV.out BF.out (by decide))).mono ?_; rintro e wc ⟨vc, rfl, hRc, hbc⟩; obtain ⟨Ac, cc, rfl, -, -⟩ := Kd.R_form hRc; have HRC := Sec.mk hRc; have BC := Sec.mk hbc; clear hRc hbc))
  go_loopw [12] (fun i wr => ∃ k : Nat, k ≤ t.length ∧ i = .int .i64 k ∧ Sec (kCell.R wr (fun k => wf.heap.size ≤ k) (.slice Ac t.length cc) ((t.take k).map (canonC fr) ++ t.drop k)) ∧ Sec (Below wf.heap.size wf wr)) (fun i _ => t.length - (intOf i).toNat)
  case atStart => exact ⟨0, Nat.zero_le _, rfl, ⟨by simpa using HRC.out⟩, BC⟩
  case round =>
    obtain ⟨k, hk, rfl, hR, hb⟩ := hrel
    by_cases hlt : k < t.length
    · have hlen : ((t.take k).map (canonC fr) ++ t.drop k).length = t.length := by simp; omega
      have hkl : k < ((t.take k).map (canonC fr) ++ t.drop k).length := by omega
      obtain ⟨b, rfl, -, hSb, hbb, hfz⟩ := Kd.R_block hR.out (by omega)
      have f1 := hfz (k * 3 + 1)
      obtain ⟨b', off', hA', _, c0, c1, c2, hnm⟩ := cell_at (Kd.V_C (Kd.R_V hR.out)) k hkl
      simp only [Option.some.injEq, Addr.mk.injEq, and_true] at hA'
      obtain ⟨rfl, rfl⟩ := hA'
      simp only [Nat.zero_add] at c0 c1 c2
      have hel : ((t.take k).map (canonC fr) ++ t.drop k)[k]'hkl = t[k] := by
        rw [List.getElem_append_right (by simp; omega)]
        simp only [List.length_map, List.length_take, List.getElem_drop]
        congr 1; omega
      rw [hel] at c0 c1 c2 hnm
      have hnx : Sec (((t.take k).map (canonC fr) ++ t.drop k).set k (canonC fr t[k]) = (t.take (k + 1)).map (canonC fr) ++ t.drop (k + 1)) := ⟨by
        rw [List.take_succ_eq_append_getElem hlt, List.map_append, List.drop_eq_getElem_cons hlt, List.set_append_right _ _ (by simp; omega), List.length_map, List.length_take, Nat.min_eq_left (by omega), Nat.sub_self, List.set_cons_zero, List.append_assoc]
        rfl⟩
      have hel' := Sec.mk hel
      have HKL := Sec.mk hkl
      clear hel hlen hfz
      generalize t[k] = x at *
      by_cases hx : x.kind = 1
      · have hx' : (x.kind == 1) = true := beq_iff_eq.2 hx
        have hs : Sec (canonC fr x = ⟨x.kind, place fr x.n, x.name⟩) := ⟨by unfold canonC; rw [if_pos hx]⟩
        have M := Sec.mk (kCell_store hR.out k 1 ⟨x.kind, place fr x.n, x.name⟩ (.int .i64 (place fr x.n)) HKL.out (by decide) (by rw [hel'.out]; rfl) hnm)
        have MB := Sec.mk (hb.out.setCell (p := ⟨b, k * 3 + 1, none⟩) hSb (.int .i64 (place fr x.n)))
        clear hx
        go_wp2_with (go_at_call 84; refine (index_c _ fr x.n _ _ (Kd.V_below HF.out hb.out (by decide))).mono ?_; rintro e w' ⟨rfl, rfl⟩)
        go_roundw
        case rel => exact ⟨k + 1, by omega, by go_num, ⟨by rw [← hnx.out, hs.out]; exact M.out⟩, MB⟩
        case measure => simp [intOf]; omega
      · have hx' : (x.kind == 1) = false := beq_eq_false_iff_ne.2 hx
        have hs : Sec (canonC fr x = x) := ⟨by unfold canonC; rw [if_neg hx]⟩
        have hnx2 : Sec ((t.take k).map (canonC fr) ++ t.drop k = (t.take (k + 1)).map (canonC fr) ++ t.drop (k + 1)) := ⟨by
          rw [← hnx.out, hs.out]
          conv => rhs; arg 3; rw [← hel'.out]
          rw [List.set_getElem_self]⟩
        clear hx
        go_wp2
        go_roundw
        case rel => exact ⟨k + 1, by omega, by go_num, ⟨by rw [← hnx2.out]; exact hR.out⟩, hb⟩
        case measure => simp [intOf]; omega
    · have hf : Sec ((t.take k).map (canonC fr) ++ t.drop k = canon t) := ⟨by rw [List.take_of_length_le (by omega), List.drop_of_length_le (by omega), List.append_nil, ← HFR.out]; rfl⟩
      have hsz := Sec.mk BF.out.size
      have HR2 : Sec (kCell.R wr (fun k => wf.heap.size ≤ k) (.slice Ac t.length cc) (canon t)) := ⟨by rw [← hf.out]; exact hR.out⟩
      clear hf hR
      go_wp2
      go_ret
      exact ⟨_, rfl, Kd.R_mono HR2.out (fun k h _ => Nat.le_trans hsz.out h), bel BF.out hb.out⟩
end
section
open Go.RowKit
set_option linter.unusedVariables false
set_option maxRecDepth 100000
def letters : List UInt8 := [97, 98, 99, 100, 101, 102, 103, 104, 105, 106, 107, 108, 109, 110, 111, 112, 113, 114, 115, 116, 117, 118, 119, 120, 121, 122]
theorem letters_small (b : UInt8) : letters.contains b = small b := by
  have h : ∀ n : Fin 256, letters.contains (UInt8.ofNat n.1) = small (UInt8.ofNat n.1) := by decide
  have := h ⟨b.toNat, b.toNat_lt⟩
  rwa [UInt8.ofNat_toNat] at this
theorem drop_none (p : UInt8 → Bool) (l : List UInt8) : l.dropWhile p = [] ↔ l.all p = true := by
  induction l with
  | nil => simp
  | cons x l ih =>
    rw [List.dropWhile_cons, List.all_cons]
    cases p x <;> simp_all
theorem trim_none (l : List UInt8) : Lib.trimS l letters = [] ↔ l.all small = true := by
  have e : (fun b => letters.contains b) = small := funext letters_small
  unfold Lib.trimS Lib.trimLeftS Lib.trimRightS
  rw [e, drop_none]
  constructor
  · intro h
    rw [List.all_reverse] at h
    rw [← List.all_reverse, ← List.takeWhile_append_dropWhile (p := small) (l := l.reverse), List.all_append, h, Bool.and_true]
    exact List.all_takeWhile
  · intro h
    rw [List.all_reverse]
    refine List.all_eq_true.2 fun x hx => List.all_eq_true.1 h x ?_
    exact List.mem_reverse.1 ((List.dropWhile_sublist _).mem hx)
theorem nameOk_i (s : ByteArray) (hs : s.size ≤ 1073741824) (w : World) : Calls Tryz.prog 88 #[.string s] w fun e w' => e = .returned (.bool (nameOk s)) ∧ Below w.heap.size w w' := by
  have hcon := Any.strings_Trim_laid Tryz.lays160 (by kernel_rfl) s ⟨#[97, 98, 99, 100, 101, 102, 103, 104, 105, 106, 107, 108, 109, 110, 111, 112, 113, 114, 115, 116, 117, 118, 119, 120, 121, 122]⟩ w (by omega) (by decide) (ascii_of_all (by decide))
  change Calls Tryz.prog 97 _ _ (fun e w' => e = .returned (.string ⟨(Lib.trimS s.data.toList letters).toArray⟩) ∧ Below w.heap.size w w') at hcon
  have HT := Sec.mk (trim_none s.data.toList)
  have HC := Sec.mk hcon
  clear hcon
  by_cases hin : inB s.size 1 8 = true
  · have Hin := Sec.mk hin
    by_cases hsm : s.data.toList.all small = true
    · have hr : (⟨(Lib.trimS s.data.toList letters).toArray⟩ : ByteArray) = ByteArray.empty := by rw [HT.out.2 hsm]; rfl
      have HR := Sec.mk hr
      by_cases hand : (s.toList == [97, 110, 100]) = true
      · have hf : Sec (nameOk s = false) := ⟨by unfold nameOk; rw [hand]; simp⟩
        clear hr hsm hin
        go_enter Tryz.func88, Tryz.ntmps88
        go_wp2_with (first | (go_at_call 52; refine (in_c _ _ _ _).mono ?_; rw [Hin.out]; rintro e w' ⟨rfl, rfl⟩) | (go_at_call 97; refine HC.out.mono ?_; rw [HR.out]; rintro e w1 ⟨rfl, hB⟩; have B1 := Sec.mk hB; clear hB))
        go_ret
        exact ⟨rb hf.out.symm, B1.out⟩
      · have hand' : (s.toList == [97, 110, 100]) = false := by simpa using hand
        have hf : Sec (nameOk s = true) := ⟨by
          unfold inB at hin
          unfold nameOk
          rw [hand', hsm]
          simp at hin ⊢
          omega⟩
        clear hr hsm hin hand
        go_enter Tryz.func88, Tryz.ntmps88
        go_wp2_with (first | (go_at_call 52; refine (in_c _ _ _ _).mono ?_; rw [Hin.out]; rintro e w' ⟨rfl, rfl⟩) | (go_at_call 97; refine HC.out.mono ?_; rw [HR.out]; rintro e w1 ⟨rfl, hB⟩; have B1 := Sec.mk hB; clear hB))
        go_ret
        exact ⟨rb hf.out.symm, B1.out⟩
    · have hne : Sec (¬ (⟨(Lib.trimS s.data.toList letters).toArray⟩ : ByteArray) = ByteArray.empty) := ⟨fun e => hsm (HT.out.1 (by
        have := congrArg (fun x => x.data.toList) e
        simpa using this))⟩
      have hf : Sec (nameOk s = false) := ⟨by unfold nameOk; simp at hsm; simp [hsm]⟩
      have HC2 : Sec (∃ r : ByteArray, ¬ r = ByteArray.empty ∧ Calls Tryz.prog 97 #[.string s, .string ⟨#[97, 98, 99, 100, 101, 102, 103, 104, 105, 106, 107, 108, 109, 110, 111, 112, 113, 114, 115, 116, 117, 118, 119, 120, 121, 122]⟩] w (fun e w' => e = .returned (.string r) ∧ Below w.heap.size w w')) := ⟨⟨_, hne.out, HC.out⟩⟩
      clear hne HC HT hsm hin
      obtain ⟨r, hr0, hr2⟩ := HC2.out
      have hr1 : ¬ r.toList = [] := fun e => hr0 (by
        rw [Lib.toList_data] at e
        exact ByteArray.ext (by rw [← Array.toList_inj, e]; rfl))
      have HC3 := Sec.mk hr2
      clear hr2 HC2
      go_enter Tryz.func88, Tryz.ntmps88
      go_wp2_with (first | (go_at_call 52; refine (in_c _ _ _ _).mono ?_; rw [Hin.out]; rintro e w' ⟨rfl, rfl⟩) | (go_at_call 97; refine HC3.out.mono ?_; rintro e w1 ⟨rfl, hB⟩; have B1 := Sec.mk hB; clear hB))
      go_ret
      exact ⟨rb hf.out.symm, B1.out⟩
  · have hin' : inB s.size 1 8 = false := by simpa using hin
    have Hin := Sec.mk hin'
    have hf : Sec (nameOk s = false) := ⟨by
      unfold inB at hin'
      unfold nameOk
      cases h1 : decide (1 ≤ s.size)
      · simp
      · cases h2 : decide (s.size ≤ 8)
        · simp
        · simp at h1 h2 hin'; omega⟩
    clear hin hin'
    go_enter Tryz.func88, Tryz.ntmps88
    go_wp2_with (go_at_call 52; refine (in_c _ _ _ _).mono ?_; rw [Hin.out]; rintro e w' ⟨rfl, rfl⟩)
    go_ret
    exact ⟨rb hf.out.symm, Below.refl _ _⟩
theorem cellOk_i (x : Cell) (hx : x.name.size ≤ 1073741824) (w : World) : Calls Tryz.prog 72 #[x.agg] w fun e w' => e = .returned (.bool (cellOk x)) ∧ Below w.heap.size w w' := by
  have hu := Tryz.underlying77
  have hB : Sec (Below w.heap.size w (w.alloc (.cells #[.int .i64 x.kind, .int .i64 x.n, .string x.name] 77))) := ⟨(Below.refl _ _).alloc (Nat.le_refl _) _⟩
  obtain ⟨b1, hb1⟩ : ∃ b, inB x.n 0 99999 = b := ⟨_, rfl⟩
  obtain ⟨b2, hb2⟩ : ∃ b, inB x.n (-9999) 9999 = b := ⟨_, rfl⟩
  obtain ⟨b3, hb3⟩ : ∃ b, inB x.n 0 3 = b := ⟨_, rfl⟩
  obtain ⟨b4, hb4⟩ : ∃ b, nameOk x.name = b := ⟨_, rfl⟩
  have hc : Sec (cellOk x = if x.kind = 1 then b1 && x.name.toList.isEmpty else if x.kind = 2 then b2 && x.name.toList.isEmpty else if x.kind = 3 then b3 && b4 else false) := ⟨by unfold cellOk; rw [hb1, hb2, hb3, hb4]⟩
  have H1 := Sec.mk hb1
  have H2 := Sec.mk hb2
  have H3 := Sec.mk hb3
  have H4 := Sec.mk hb4
  clear hb1 hb2 hb3 hb4
  by_cases k1 : x.kind = 1
  · have hc2 : Sec (cellOk x = (b1 && x.name.toList.isEmpty)) := ⟨by rw [hc.out, if_pos k1]⟩
    cases b1 <;>
    · go_enter Tryz.func72, Tryz.ntmps72
      go_wp2_with (go_at_call 52; refine (in_c _ _ _ _).mono ?_; rw [H1.out]; rintro e w' ⟨rfl, rfl⟩)
      all_goals (go_ret; exact ⟨rb (by rw [hc2.out]; simp_all), belA (Below.refl _ _) _⟩)
  · by_cases k2 : x.kind = 2
    · have hc2 : Sec (cellOk x = (b2 && x.name.toList.isEmpty)) := ⟨by rw [hc.out, if_neg k1, if_pos k2]⟩
      cases b2 <;>
      · go_enter Tryz.func72, Tryz.ntmps72
        go_wp2_with (go_at_call 52; refine (in_c _ _ _ _).mono ?_; rw [H2.out]; rintro e w' ⟨rfl, rfl⟩)
        all_goals (go_ret; exact ⟨rb (by rw [hc2.out]; simp_all), belA (Below.refl _ _) _⟩)
    · by_cases k3 : x.kind = 3
      · have hc2 : Sec (cellOk x = (b3 && b4)) := ⟨by rw [hc.out, if_neg k1, if_neg k2, if_pos k3]⟩
        cases b3 with
        | false =>
          go_enter Tryz.func72, Tryz.ntmps72
          go_wp2_with (go_at_call 52; refine (in_c _ _ _ _).mono ?_; rw [H3.out]; rintro e w' ⟨rfl, rfl⟩)
          all_goals (go_ret; exact ⟨rb (by rw [hc2.out]; simp), belA (Below.refl _ _) _⟩)
        | true =>
          go_enter Tryz.func72, Tryz.ntmps72
          go_wp2_with (first | (go_at_call 52; refine (in_c _ _ _ _).mono ?_; rw [H3.out]; rintro e w' ⟨rfl, rfl⟩) | (go_at_call 88; refine (nameOk_i _ hx _).mono ?_; rw [H4.out]; rintro e w1 ⟨rfl, hb⟩; have B1 := Sec.mk (bel (belA (Below.refl _ _) _) hb); clear hb))
          all_goals (go_ret; exact ⟨rb (by rw [hc2.out]; simp), B1.out⟩)
      · have hc2 : Sec (cellOk x = false) := ⟨by rw [hc.out, if_neg k1, if_neg k2, if_neg k3]⟩
        have g1 : (x.kind == 1) = false := beq_eq_false_iff_ne.2 k1
        have g2 : (x.kind == 2) = false := beq_eq_false_iff_ne.2 k2
        have g3 : (x.kind == 3) = false := beq_eq_false_iff_ne.2 k3
        clear k1 k2 k3
        go_enter Tryz.func72, Tryz.ntmps72
        go_wp2
        go_ret
        exact ⟨rb hc2.out.symm, belA (Below.refl _ _) _⟩
theorem arity_i (x : Cell) (w : World) : Calls Tryz.prog 90 #[x.agg] w fun e w' => e = .returned (.int .i64 (if x.kind = 3 then x.n else 0)) ∧ Below w.heap.size w w' := by
  have hu := Tryz.underlying77
  have hB : Sec (Below w.heap.size w (w.alloc (.cells #[.int .i64 x.kind, .int .i64 x.n, .string x.name] 77))) := ⟨(Below.refl _ _).alloc (Nat.le_refl _) _⟩
  by_cases k3 : x.kind = 3
  · rw [if_pos k3]
    go_enter Tryz.func90, Tryz.ntmps90
    go_wp2
    go_ret
    exact ⟨rfl, belA (Below.refl _ _) _⟩
  · rw [if_neg k3]
    have g3 : (x.kind == 3) = false := beq_eq_false_iff_ne.2 k3
    clear k3
    go_enter Tryz.func90, Tryz.ntmps90
    go_wp2
    go_ret
    exact ⟨rfl, belA (Below.refl _ _) _⟩
/-- How many places a term at the beginning of some has; more than there are, if it does not end. -/
def sizeOf_ (t : Term) : Int := match skip 1 t with
  | some r => (t.length : Int) - r.length
  | none => (t.length : Int) + 1
theorem sizeOf_whole (t : Term) : (sizeOf_ t == (t.length : Int)) = decide (skip 1 t = some []) := by
  unfold sizeOf_
  rw [Bool.beq_eq_decide_eq]
  cases h : skip 1 t with
  | none => simp; omega
  | some r => cases r <;> simp <;> omega
theorem size_i (v : Value) (t : Term) (ok : Nat → Prop) (w : World) (hV : kCell.V w ok v t) (hc : t.all cellOk = true) :
    Calls Tryz.prog 74 #[v] w fun e w' => e = .returned (.int .i64 (sizeOf_ t)) ∧ Below w.heap.size w w' := by
  obtain ⟨A, c, rfl, h1, h2, h3, hC, hz⟩ := hV
  have HC := Sec.mk hC
  have Hc := Sec.mk hc
  clear hC hc hz
  have hu := Tryz.underlying77
  go_enter Tryz.func74, Tryz.ntmps74
  go_wp2
  go_loopw [3, 4] (fun nv iv wr => ∃ m j : Nat, j ≤ t.length ∧ m ≤ 1 + 3 * j ∧ nv = .int .i64 ((j : Int) + (m : Int)) ∧ iv = .int .i64 j ∧ Sec (skip 1 t = skip m (t.drop j)) ∧ Sec (Below w.heap.size w wr)) (fun _ iv _ => t.length + 1 - (intOf iv).toNat)
  case atStart => exact ⟨1, 0, Nat.zero_le _, by omega, rfl, rfl, ⟨by simp⟩, ⟨Below.refl _ _⟩⟩
  case round =>
    obtain ⟨m, j, hj, hm, rfl, rfl, hs, hb⟩ := hrel
    cases m with
    | zero =>
      have hf : Sec ((j : Int) + ((0 : Nat) : Int) = sizeOf_ t) := ⟨by unfold sizeOf_; rw [hs.out]; simp [skip] <;> omega⟩
      go_wp2
      go_ret
      exact ⟨ri (by rw [← hf.out] <;> simp), hb.out⟩
    | succ m =>
      by_cases hlt : j < t.length
      · obtain ⟨b, off, rfl, hob, c0, c1, c2, _⟩ := cell_at (Kd.C_below HC.out hb.out (by decide)) j hlt
        have hok := cellOk_arity (List.all_eq_true.1 Hc.out _ (List.getElem_mem hlt))
        have hst := Sec.mk (hs.out.trans (skip_step hlt))
        have hne : ((j : Int) == (t.length : Int)) = false := beq_eq_false_iff_ne.2 (by omega)
        generalize t[j] = x at *
        have harr : (if x.kind = 3 then x.n else 0) = (arity x : Int) := by
          unfold arity
          split
          · next h => have := hok.2 h; omega
          · rfl
        have ha3 := hok.1
        have HA := Sec.mk harr
        clear hok harr
        generalize hax : arity x = a at *
        clear hax
        go_wp2_with (go_at_call 90; refine (arity_i x _).mono ?_; rw [HA.out]; rintro e w1 ⟨rfl, hb1⟩; have B1 := Sec.mk (bel hb.out hb1); clear hb1 c0 c1 c2)
        go_roundw
        case rel => exact ⟨m + a, j + 1, by omega, by omega, by go_num, by go_num, hst, B1⟩
        case measure => simp [intOf]; omega
      · have hf : Sec ((t.length : Int) + 1 = sizeOf_ t) := ⟨by unfold sizeOf_; rw [hs.out, skip_out (by omega)]⟩
        have he : ((j : Int) == (t.length : Int)) = true := beq_iff_eq.2 (by omega)
        have hjm : ((j : Int) < (j : Int) + ((m + 1 : Nat) : Int)) := by omega
        go_wp2
        go_ret
        exact ⟨ri hf.out, hb.out⟩
theorem wrong_i (x : Cell) (hx : x.name.size ≤ 1073741824) (w : World) : Calls Tryz.prog 71 #[x.agg] w fun e w' => e = .returned (.bool (!cellOk x)) ∧ Below w.heap.size w w' := by
  have hu := Tryz.underlying77
  obtain ⟨bb, hbb⟩ : ∃ b, cellOk x = b := ⟨_, rfl⟩
  have HB := Sec.mk hbb
  rw [hbb]
  clear hbb
  go_enter Tryz.func71, Tryz.ntmps71
  go_wp2_with (go_at_call 72; refine (cellOk_i x hx _).mono ?_; rw [HB.out]; rintro e w1 ⟨rfl, hb1⟩; have B1 := Sec.mk (bel (belA (Below.refl _ _) _) hb1); clear hb1)
  go_ret
  exact ⟨rfl, B1.out⟩
/-- Where the first place stands that is not ok; -1, if there is none. -/
def wrongAt (t : Term) (n : Int) : Prop := decide (0 ≤ n) = !t.all cellOk
theorem indexWrong_i (v : Value) (t : Term) (ok : Nat → Prop) (w : World) (hV : kCell.V w ok v t) :
    Calls Tryz.prog 89 #[v, .func (.func 71) #[] #[]] w fun e w' => ∃ n : Int, e = .returned (.int .i64 n) ∧ wrongAt t n ∧ Below w.heap.size w w' := by
  obtain ⟨A, c, rfl, h1, h2, h3, hC, hz⟩ := hV
  have HC := Sec.mk hC
  clear hC hz
  have hu := Tryz.underlying77
  go_enter Tryz.func89, Tryz.ntmps89
  go_wp2
  go_loopw [8] (fun iv wr => ∃ k : Nat, k ≤ t.length ∧ iv = .int .i64 k ∧ Sec ((t.take k).all cellOk = true) ∧ Sec (Below w.heap.size w wr)) (fun iv _ => t.length - (intOf iv).toNat)
  case atStart => exact ⟨0, Nat.zero_le _, rfl, ⟨rfl⟩, ⟨Below.refl _ _⟩⟩
  case round =>
    obtain ⟨k, hk, rfl, hT, hb⟩ := hrel
    by_cases hlt : k < t.length
    · obtain ⟨b, off, rfl, hob, c0, c1, c2, hnm⟩ := cell_at (Kd.C_below HC.out hb.out (by decide)) k hlt
      have hA := Sec.mk (take_all cellOk t k hlt)
      have hmem : Sec (t[k] ∈ t) := ⟨List.getElem_mem hlt⟩
      generalize t[k] = x at *
      obtain ⟨bb, hbb⟩ : ∃ b, cellOk x = b := ⟨_, rfl⟩
      have HB := Sec.mk hbb
      clear hbb
      cases bb with
      | true =>
        have hA' : Sec ((t.take (k + 1)).all cellOk = true) := ⟨by rw [hA.out, hT.out, HB.out]; rfl⟩
        go_wp2_with (go_at_call 71; refine (wrong_i x hnm _).mono ?_; rw [HB.out]; rintro e w1 ⟨rfl, hb1⟩; have B1 := Sec.mk (bel hb.out hb1); clear hb1)
        go_roundw
        case rel => exact ⟨k + 1, by omega, by go_num, hA', B1⟩
        case measure => simp [intOf]; omega
      | false =>
        have hF : Sec (wrongAt t k) := ⟨by
          have : t.all cellOk = false := by
            rw [← Bool.not_eq_true]; intro h
            have := List.all_eq_true.1 h x hmem.out
            rw [HB.out] at this; cases this
          unfold wrongAt; rw [this]; simp⟩
        go_wp2_with (go_at_call 71; refine (wrong_i x hnm _).mono ?_; rw [HB.out]; rintro e w1 ⟨rfl, hb1⟩; have B1 := Sec.mk (bel hb.out hb1); clear hb1)
        go_ret
        exact ⟨_, rfl, hF.out, B1.out⟩
    · have hF : Sec (wrongAt t (-1)) := ⟨by
        have : t.all cellOk = true := by have := hT.out; rwa [List.take_of_length_le (by omega)] at this
        unfold wrongAt; rw [this]; rfl⟩
      go_wp2
      go_ret
      exact ⟨_, rfl, hF.out, hb.out⟩
theorem containsWrong_i (v : Value) (t : Term) (ok : Nat → Prop) (w : World) (hV : kCell.V w ok v t) :
    Calls Tryz.prog 73 #[v, .func (.func 71) #[] #[]] w fun e w' => e = .returned (.bool (!t.all cellOk)) ∧ Below w.heap.size w w' := by
  have HV := Sec.mk hV
  obtain ⟨A, c, rfl, h1, h2, h3, hC, hz⟩ := hV
  clear hC hz
  generalize hall : t.all cellOk = al
  have HAL := Sec.mk hall
  clear hall
  go_enter Tryz.func73, Tryz.ntmps73
  go_wp2_with (go_at_call 89; refine (indexWrong_i _ t ok _ HV.out).mono ?_; rintro e w1 ⟨n, rfl, hw, hb⟩; have B1 := Sec.mk hb; have HW := Sec.mk hw; clear hb hw)
  go_ret
  exact ⟨rb (by have := HW.out; unfold wrongAt at this; rw [HAL.out] at this; exact this), B1.out⟩
theorem TrmOk_i (v : Value) (t : Term) (ok : Nat → Prop) (w : World) (hV : kCell.V w ok v t) :
    Calls Tryz.prog 54 #[v] w fun e w' => e = .returned (.bool (trmOk t)) ∧ Below w.heap.size w w' := by
  have HV := Sec.mk hV
  obtain ⟨A, c, rfl, h1, h2, h3, hC, hz⟩ := hV
  clear hC hz
  have hk : trmOk t = (inB (t.length : Int) 1 40 && t.all cellOk && decide (skip 1 t = some [])) := by
    unfold trmOk inB
    have e1 : decide ((1 : Int) ≤ (t.length : Int)) = decide (1 ≤ t.length) := decide_eq_decide.2 (by omega)
    have e2 : decide ((t.length : Int) ≤ 40) = decide (t.length ≤ 40) := decide_eq_decide.2 (by omega)
    rw [e1, e2]
  have HW := Sec.mk (sizeOf_whole t)
  obtain ⟨b1, hb1⟩ : ∃ b, inB (t.length : Int) 1 40 = b := ⟨_, rfl⟩
  obtain ⟨b2, hb2⟩ : ∃ b, t.all cellOk = b := ⟨_, rfl⟩
  have H1 := Sec.mk hb1
  have H2 := Sec.mk hb2
  rw [hb1, hb2] at hk
  have HK := Sec.mk hk
  clear hk hb1 hb2
  cases b1 with
  | false =>
    go_enter Tryz.func54, Tryz.ntmps54
    go_wp2_with (go_at_call 52; refine (in_c _ _ _ _).mono ?_; rw [H1.out]; rintro e w' ⟨rfl, rfl⟩)
    go_ret
    exact ⟨rb (by rw [HK.out]; rfl), Below.refl _ _⟩
  | true =>
    cases b2 with
    | false =>
      go_enter Tryz.func54, Tryz.ntmps54
      go_wp2_with (first | (go_at_call 52; refine (in_c _ _ _ _).mono ?_; rw [H1.out]; rintro e w' ⟨rfl, rfl⟩) | (go_at_call 73; refine (containsWrong_i _ t ok _ HV.out).mono ?_; rw [H2.out]; rintro e w1 ⟨rfl, hb⟩; have B1 := Sec.mk hb; clear hb))
      go_ret
      exact ⟨rb (by rw [HK.out]; rfl), B1.out⟩
    | true =>
      generalize hso : sizeOf_ t = so at *
      have HSO := Sec.mk hso
      clear hso
      have hfin : Sec ((so == (t.length : Int)) = trmOk t) := ⟨by rw [HK.out, HW.out]; rfl⟩
      go_enter Tryz.func54, Tryz.ntmps54
      go_wp2_with (first | (go_at_call 52; refine (in_c _ _ _ _).mono ?_; rw [H1.out]; rintro e w' ⟨rfl, rfl⟩) | (go_at_call 73; refine (containsWrong_i _ t ok _ HV.out).mono ?_; rw [H2.out]; rintro e w1 ⟨rfl, hb⟩; have B1 := Sec.mk hb; clear hb) | (go_at_call 74; refine (size_i _ t ok _ (Kd.V_below HV.out B1.out (by decide)) H2.out).mono ?_; rw [HSO.out]; rintro e w2 ⟨rfl, hb⟩; have B2 := Sec.mk (bel B1.out hb); clear hb))
      go_ret
      exact ⟨rb hfin.out, B2.out⟩
end
section
open Go.RowKit
set_option linter.unusedVariables false
set_option maxRecDepth 100000
theorem cell_cases (x y : Cell) : (x = y ∧ (x.kind == y.kind) = true ∧ (x.n == y.n) = true ∧ (x.name.toList == y.name.toList) = true) ∨ (¬ x = y ∧ ((x.kind == y.kind) = false ∨ ((x.kind == y.kind) = true ∧ (x.n == y.n) = false) ∨ ((x.kind == y.kind) = true ∧ (x.n == y.n) = true ∧ (x.name.toList == y.name.toList) = false))) := by
  by_cases h1 : x.kind = y.kind
  · by_cases h2 : x.n = y.n
    · by_cases h3 : x.name = y.name
      · exact .inl ⟨(Cell.ext_iff x y).2 ⟨h1, h2, h3⟩, beq_iff_eq.2 h1, beq_iff_eq.2 h2, beq_iff_eq.2 (by rw [h3])⟩
      · exact .inr ⟨fun e => h3 (by rw [e]), .inr (.inr ⟨beq_iff_eq.2 h1, beq_iff_eq.2 h2, beq_eq_false_iff_ne.2 (fun h => h3 (toList_inj.1 h))⟩)⟩
    · exact .inr ⟨fun e => h2 (by rw [e]), .inr (.inl ⟨beq_iff_eq.2 h1, beq_eq_false_iff_ne.2 h2⟩)⟩
  · exact .inr ⟨fun e => h1 (by rw [e]), .inl (beq_eq_false_iff_ne.2 h1)⟩
end
end Go.Proofs.YteflipoiiddkfaaGreatDoor
