/- Fields of kinds: an element of a row of one's own that is turned field by field; marks of rows; made elements. No program in sight. -/
import Derived.Test.YtenigopoknajgaaDoorRows2
namespace Go.Proofs.YtenigopoknajgaaDoor
open Go.RowKit
set_option linter.unusedVariables false
namespace Kd
variable {α β γ : Type}
/-- Of the kind d a field of the kind e, j cells in. -/
structure Fld (d : Kd α) (e : Kd β) (j : Nat) (get : α → β) (put : α → β → α) : Prop where
  opn : ∀ {w : World} {S : Nat → Prop} {x : α} {c : List Value}, d.O w S x c → ∃ (S1 S2 : Nat → Prop) (c0 c1 c2 : List Value), c = c0 ++ (c1 ++ c2) ∧ c0.length = j ∧ (∀ k, S1 k → S k ∧ ¬ S2 k) ∧ (∀ k, S2 k → S k) ∧ e.O w S1 (get x) c1 ∧
    ∀ (w' : World) (y : β) (c1' : List Value), Keeps w w' S2 S2 → e.O w' S1 y c1' → d.O w' S (put x y) (c0 ++ (c1' ++ c2))
theorem Fld.self (d : Kd α) : Fld d d 0 (fun x => x) (fun _ y => y) := ⟨fun {w S x c} h => ⟨S, fun _ => False, [], c, [], by simp, rfl, fun k hk => ⟨hk, id⟩, fun k hk => hk.elim, h, fun w' y c1' _ hO => by simpa using hO⟩⟩
theorem Fld.fst {a : Kd α} {b : Kd β} {e : Kd γ} {j : Nat} {get : α → γ} {put : α → γ → α} (F : Fld a e j get put) : Fld (pair a b) e j (fun x => get x.1) (fun x y => (put x.1 y, x.2)) := ⟨fun {w S x c} h => by
  obtain ⟨T1, T2, d0, d1, rfl, g1, g2, h0, h1⟩ := h
  obtain ⟨S1, S2, c0, c1, c2, rfl, hl, k1, k2, hO, hback⟩ := F.opn h0
  refine ⟨fun k => S1 k ∧ k < w.heap.size, fun k => (S2 k ∨ T2 k) ∧ k < w.heap.size, c0, c1, c2 ++ d1, by simp, hl, fun k hk => ⟨(g1 k (k1 k hk.1).1).1, fun e => e.1.elim (k1 k hk.1).2 (g1 k (k1 k hk.1).1).2⟩, fun k hk => hk.1.elim (fun e => (g1 k (k2 k e)).1) (g2 k), e.O_mono hO (fun k hk hl => ⟨hk, hl⟩), fun w' y c1' hk hO' => ?_⟩
  refine ⟨T1, fun k => T2 k ∧ k < w.heap.size, c0 ++ (c1' ++ c2), d1, by simp, fun k hk => ⟨(g1 k hk).1, fun e => (g1 k hk).2 e.1⟩, fun k hk => g2 k hk.1, ?_, ?_⟩
  · exact hback w' y c1' (fun k h1 h2 => ⟨h1, (hk k ⟨.inl h1, h2⟩ h2).2⟩) (e.O_mono hO' (fun k hk _ => hk.1))
  · exact b.O_move (fun k h1 h2 => ⟨⟨h1, h2⟩, (hk k ⟨.inr h1, h2⟩ h2).2⟩) h1⟩
theorem Fld.snd {a : Kd α} {b : Kd β} {e : Kd γ} {j : Nat} {get : β → γ} {put : β → γ → β} (F : Fld b e j get put) : Fld (pair a b) e (a.sz + j) (fun x => get x.2) (fun x y => (x.1, put x.2 y)) := ⟨fun {w S x c} h => by
  obtain ⟨T1, T2, d0, d1, rfl, g1, g2, h0, h1⟩ := h
  obtain ⟨S1, S2, c0, c1, c2, rfl, hl, k1, k2, hO, hback⟩ := F.opn h1
  refine ⟨fun k => S1 k ∧ k < w.heap.size, fun k => (S2 k ∨ T1 k) ∧ k < w.heap.size, d0 ++ c0, c1, c2, by simp, by rw [List.length_append, a.K_len (a.O_K h0), hl], fun k hk => ⟨g2 k (k1 k hk.1).1, fun e => e.1.elim (k1 k hk.1).2 (fun e => (g1 k e).2 (k1 k hk.1).1)⟩, fun k hk => hk.1.elim (fun e => g2 k (k2 k e)) (fun e => (g1 k e).1), e.O_mono hO (fun k hk hl => ⟨hk, hl⟩), fun w' y c1' hk hO' => ?_⟩
  refine ⟨fun k => T1 k ∧ k < w.heap.size, T2, d0, c0 ++ (c1' ++ c2), by simp, fun k hk => g1 k hk.1, g2, ?_, ?_⟩
  · exact a.O_move (fun k h1 h2 => ⟨⟨h1, h2⟩, (hk k ⟨.inr h1, h2⟩ h2).2⟩) h0
  · exact hback w' y c1' (fun k h1 h2 => ⟨h1, (hk k ⟨.inl h1, h2⟩ h2).2⟩) (e.O_mono hO' (fun k hk _ => hk.1))⟩
theorem Fld.iso {d : Kd β} {e : Kd γ} {j : Nat} {get : β → γ} {put : β → γ → β} (t : TypeId) {f : α → β} {put' : α → γ → α} (F : Fld d e j get put) (h : ∀ x y, f (put' x y) = put (f x) y) : Fld (Kd.iso t d f) e j (fun x => get (f x)) put' := ⟨fun {w S x c} hx => by
  obtain ⟨S1, S2, c0, c1, c2, rfl, hl, k1, k2, hO, hback⟩ := F.opn (w := w) (S := S) (x := f x) hx
  refine ⟨S1, S2, c0, c1, c2, rfl, hl, k1, k2, hO, fun w' y c1' hk hO' => ?_⟩
  have := hback w' y c1' hk hO'
  rw [← h] at this
  exact this⟩
theorem Fld.comp {d : Kd α} {e : Kd β} {e' : Kd γ} {j j' : Nat} {get : α → β} {put : α → β → α} {get' : β → γ} {put' : β → γ → β} (F : Fld d e j get put) (G : Fld e e' j' get' put') : Fld d e' (j + j') (fun x => get' (get x)) (fun x y => put x (put' (get x) y)) := ⟨fun {w S x c} h => by
  obtain ⟨T1, T2, d0, d1, d2, rfl, hl, g1, g2, hO, hback⟩ := F.opn h
  obtain ⟨S1, S2, c0, c1, c2, rfl, hl2, k1, k2, hO2, hback2⟩ := G.opn hO
  refine ⟨fun k => S1 k ∧ k < w.heap.size, fun k => (S2 k ∨ T2 k) ∧ k < w.heap.size, d0 ++ c0, c1, c2 ++ d2, by simp, by rw [List.length_append, hl, hl2], fun k hk => ⟨(g1 k (k1 k hk.1).1).1, fun e => e.1.elim (k1 k hk.1).2 (g1 k (k1 k hk.1).1).2⟩, fun k hk => hk.1.elim (fun e => (g1 k (k2 k e)).1) (g2 k), e'.O_mono hO2 (fun k hk hl => ⟨hk, hl⟩), fun w' y c1' hk hO' => ?_⟩
  have a1 := hback2 w' y c1' (fun k h1 h2 => ⟨h1, (hk k ⟨.inl h1, h2⟩ h2).2⟩) (e'.O_mono hO' (fun k hk _ => hk.1))
  have a2 := hback w' _ _ (fun k h1 h2 => ⟨h1, (hk k ⟨.inr h1, h2⟩ h2).2⟩) a1
  simpa using a2⟩
variable {d : Kd α} {e : Kd β}
/-- An element of a row of one's own, by itself. -/
theorem Os_focus {w : World} : ∀ {xs : List α} {S : Nat → Prop} {cs : List Value} (i : Nat) (hi : i < xs.length), d.Os w S xs cs → ∃ (S1 S2 : Nat → Prop) (c : List Value), d.O w S1 xs[i] c ∧ (∀ k, S1 k → S k ∧ ¬ S2 k) ∧ (∀ k, S2 k → S k) ∧ (∀ m u, c[m]? = some u → cs[i * d.sz + m]? = some u) ∧
    ∀ (w' : World) (x : α) (c' : List Value), Keeps w w' S2 S2 → d.O w' S1 x c' → d.Os w' S (xs.set i x) (cs.take (i * d.sz) ++ (c' ++ cs.drop (i * d.sz + d.sz)))
  | [], S, cs, i, hi, h => by simp at hi
  | y :: xs, S, cs, 0, hi, h => by
    obtain ⟨T1, T2, c0, c1, rfl, g1, g2, h1, h2⟩ := h
    have hl : c0.length = d.sz := d.K_len (d.O_K h1)
    refine ⟨fun k => T1 k ∧ k < w.heap.size, fun k => T2 k ∧ k < w.heap.size, c0, d.O_mono h1 (fun k hk hl => ⟨hk, hl⟩), fun k hk => ⟨(g1 k hk.1).1, fun e => (g1 k hk.1).2 e.1⟩, fun k hk => g2 k hk.1, fun m u hm => ?_, fun w' x c' hk hO => ?_⟩
    · have : m < c0.length := (List.getElem?_eq_some_iff.1 hm).1
      rw [Nat.zero_mul, Nat.zero_add, List.getElem?_append_left this]; exact hm
    · rw [Nat.zero_mul, List.take_zero, List.nil_append, Nat.zero_add, List.drop_left' hl, List.set_cons_zero]
      exact ⟨T1, fun k => T2 k ∧ k < w.heap.size, c', c1, rfl, fun k hk => ⟨(g1 k hk).1, fun e => (g1 k hk).2 e.1⟩, fun k hk => g2 k hk.1, d.O_mono hO (fun k hk _ => hk.1), Os_move (fun k h1 h2 => ⟨⟨h1, h2⟩, (hk k ⟨h1, h2⟩ h2).2⟩) h2⟩
  | y :: xs, S, cs, i + 1, hi, h => by
    obtain ⟨T1, T2, c0, c1, rfl, g1, g2, h1, h2⟩ := h
    have hl : c0.length = d.sz := d.K_len (d.O_K h1)
    obtain ⟨S1, S2, c, hO, k1, k2, hc, hback⟩ := Os_focus i (by simpa using hi) h2
    refine ⟨fun k => S1 k ∧ k < w.heap.size, fun k => (S2 k ∨ T1 k) ∧ k < w.heap.size, c, by simpa using d.O_mono hO (fun k hk hl => ⟨hk, hl⟩), fun k hk => ⟨g2 k (k1 k hk.1).1, fun e => e.1.elim (k1 k hk.1).2 (fun e => (g1 k e).2 (k1 k hk.1).1)⟩, fun k hk => hk.1.elim (fun e => g2 k (k2 k e)) (fun e => (g1 k e).1), fun m u hm => ?_, fun w' x c' hk hO' => ?_⟩
    · rw [List.getElem?_append_right (by rw [hl, Nat.succ_mul]; omega)]
      have : (i + 1) * d.sz + m - c0.length = i * d.sz + m := by rw [hl, Nat.succ_mul]; omega
      rw [this]; exact hc m u hm
    · have ih := hback w' x c' (fun k h1 h2 => ⟨h1, (hk k ⟨.inl h1, h2⟩ h2).2⟩) (d.O_mono hO' (fun k hk _ => hk.1))
      refine ⟨fun k => T1 k ∧ k < w.heap.size, T2, c0, _, ?_, fun k hk => g1 k hk.1, g2, d.O_move (fun k h1 h2 => ⟨⟨h1, h2⟩, (hk k ⟨.inr h1, h2⟩ h2).2⟩) h1, ih⟩
      have e1 : (i + 1) * d.sz = d.sz + i * d.sz := by rw [Nat.succ_mul, Nat.add_comm]
      rw [e1, List.take_append, List.drop_append, hl]
      have e2 : d.sz + i * d.sz - d.sz = i * d.sz := by omega
      have e3 : d.sz + i * d.sz + d.sz - d.sz = i * d.sz + d.sz := by omega
      rw [e2, e3, List.take_of_length_le (by omega), List.drop_of_length_le (l := c0) (by omega)]
      simp [List.append_assoc]
/-- Of a row L of one's own element i is x by now, and lies in the cells cs. -/
def At (d : Kd α) (w : World) (S : Nat → Prop) (b n cap : Nat) (L : List α) (i : Nat) (x : α) (cs : List Value) : Prop :=
  n = L.length ∧ L.length ≤ 1073741824 ∧ i < L.length ∧ L.length ≤ cap ∧ cap ≤ maxLen ∧ S b ∧ ∃ (cur : Array Value) (S1 S2 : Nat → Prop) (ds : List Value), w.heap[b]? = some (.cells cur d.ty (0, 0)) ∧ cur.size = cap * d.sz ∧ (∀ k, S1 k → (S k ∧ k ≠ b) ∧ ¬ S2 k) ∧ (∀ k, S2 k → S k ∧ k ≠ b) ∧
    d.O w S1 x cs ∧ cur.toList.take (L.length * d.sz) = ds.take (i * d.sz) ++ (cs ++ ds.drop (i * d.sz + d.sz)) ∧ ds.length = L.length * d.sz ∧
    ∀ (w' : World) (y : α) (c' : List Value), Keeps w w' S2 S2 → d.O w' S1 y c' → d.Os w' (fun k => S k ∧ k ≠ b) (L.set i y) (ds.take (i * d.sz) ++ (c' ++ ds.drop (i * d.sz + d.sz)))
theorem At.of_R {w : World} {S : Nat → Prop} {b n cap : Nat} {L : List α} (h : d.R w S (.slice (some ⟨b, 0, none⟩) n cap) L) {i : Nat} (hi : i < L.length) : ∃ cs, At d w S b n cap L i L[i] cs ∧ cs.length = d.sz := by
  obtain ⟨h0, h⟩ := h
  rcases h with ⟨h, _⟩ | ⟨b', cap', cur, hv, hb, hS, h1, h2, h3, h4⟩
  · cases h
  · simp only [Value.slice.injEq, Option.some.injEq, Addr.mk.injEq, and_true] at hv
    obtain ⟨rfl, rfl, rfl⟩ := hv
    obtain ⟨S1, S2, c, hO, k1, k2, hc, hback⟩ := Os_focus i hi h4
    have hcl : c.length = d.sz := d.K_len (d.O_K hO)
    have hlen := Os_len h4
    refine ⟨c, ⟨rfl, h0, hi, h1, h2, hS, cur, S1, S2, cur.toList.take (L.length * d.sz), hb, h3, k1, k2, hO, ?_, hlen, hback⟩, hcl⟩
    have := hback w L[i] c (fun k hk _ => ⟨hk, rfl⟩) hO
    apply List.ext_getElem?
    intro m
    have hle : (i + 1) * d.sz ≤ L.length * d.sz := Nat.mul_le_mul_right _ hi
    rw [Nat.succ_mul] at hle
    rw [List.getElem?_append]
    split
    · next hm =>
      conv => rhs; rw [List.getElem?_take_of_lt (by rw [List.length_take] at hm; omega)]
    · next hm =>
      have hl1 : (List.take (i * d.sz) (List.take (L.length * d.sz) cur.toList)).length = i * d.sz := by rw [List.length_take]; omega
      rw [hl1] at hm ⊢
      rw [List.getElem?_append]
      split
      · next hm2 =>
        rw [List.getElem?_eq_getElem hm2]
        have := hc (m - i * d.sz) _ (List.getElem?_eq_getElem hm2)
        rw [show i * d.sz + (m - i * d.sz) = m by omega] at this
        exact this
      · next hm2 =>
        rw [List.getElem?_drop, hcl, show i * d.sz + d.sz + (m - i * d.sz - d.sz) = m by omega]
theorem At.R {w : World} {S : Nat → Prop} {b n cap : Nat} {L : List α} {i : Nat} {x : α} {cs : List Value} (h : At d w S b n cap L i x cs) : d.R w S (.slice (some ⟨b, 0, none⟩) n cap) (L.set i x) := by
  obtain ⟨rfl, h0, hi, h1, h2, hS, cur, S1, S2, ds, hb, h3, k1, k2, hO, he, hd, hback⟩ := h
  have hl : (L.set i x).length = L.length := List.length_set
  refine ⟨by rw [hl]; exact h0, .inr ⟨b, cap, cur, by rw [hl], hb, hS, by rw [hl]; exact h1, h2, h3, ?_⟩⟩
  rw [hl, he]
  exact hback w x cs (fun k hk _ => ⟨hk, rfl⟩) hO
theorem At.cell {w : World} {S : Nat → Prop} {b n cap : Nat} {L : List α} {i : Nat} {x : α} {cs : List Value} (h : At d w S b n cap L i x cs) (m : Nat) (u : Value) (hm : cs[m]? = some u) : w.cell? ⟨b, i * d.sz + m, none⟩ = some u := by
  obtain ⟨rfl, h0, hi, h1, h2, hS, cur, S1, S2, ds, hb, h3, k1, k2, hO, he, hd, hback⟩ := h
  rw [cell_of_row w b _ cur d.ty (0, 0) hb]
  have hcl : cs.length = d.sz := d.K_len (d.O_K hO)
  have hm1 : m < cs.length := (List.getElem?_eq_some_iff.1 hm).1
  have hle : (i + 1) * d.sz ≤ L.length * d.sz := Nat.mul_le_mul_right _ hi
  rw [Nat.succ_mul] at hle
  have e1 : (cur.toList.take (L.length * d.sz))[i * d.sz + m]? = some u := by
    rw [he, List.getElem?_append_right (by rw [List.length_take]; omega), List.length_take, Nat.min_eq_left (by omega), show i * d.sz + m - i * d.sz = m by omega, List.getElem?_append_left hm1]
    exact hm
  rw [List.getElem?_take_of_lt (by omega)] at e1
  simpa using e1
theorem At.frozen {w : World} {S : Nat → Prop} {b n cap : Nat} {L : List α} {i : Nat} {x : α} {cs : List Value} (h : At d w S b n cap L i x cs) (o : Nat) : w.frozen? ⟨b, o, none⟩ = false := by
  obtain ⟨rfl, h0, hi, h1, h2, hS, cur, S1, S2, ds, hb, _⟩ := h
  simp [World.frozen?, hb]
theorem At.K {w : World} {S : Nat → Prop} {b n cap : Nat} {L : List α} {i : Nat} {x : α} {cs : List Value} (h : At d w S b n cap L i x cs) : d.K w (fun k => S k ∧ k ≠ b) x cs := by
  obtain ⟨rfl, h0, hi, h1, h2, hS, cur, S1, S2, ds, hb, h3, k1, k2, hO, _⟩ := h
  exact K_mono (d.O_K hO) (fun k hk => (k1 k hk).1)
theorem At.mine {w : World} {S : Nat → Prop} {b n cap : Nat} {L : List α} {i : Nat} {x : α} {cs : List Value} (h : At d w S b n cap L i x cs) : S b := h.2.2.2.2.2.1
/-- A field of one cell is stored. -/
theorem At.store {w : World} {S : Nat → Prop} {b n cap : Nat} {L : List α} {i : Nat} {x : α} {cs : List Value} (h : At d w S b n cap L i x cs) {j : Nat} {get : α → β} {put : α → β → α} (F : Fld d e j get put) (he1 : e.sz = 1) (y : β) (u : Value) (hy : ∀ (w : World) (S : Nat → Prop), e.O w S y [u]) :
    At d (w.setCell ⟨b, i * d.sz + j, none⟩ u) S b n cap L i (put x y) (cs.set j u) := by
  obtain ⟨rfl, h0, hi, h1, h2, hS, cur, S1, S2, ds, hb, h3, k1, k2, hO, he, hd, hback⟩ := h
  have hcl : cs.length = d.sz := d.K_len (d.O_K hO)
  obtain ⟨T1, T2, c0, c1, c2, rfl, hl, g1, g2, hO1, hb1⟩ := F.opn hO
  have hl1 : c1.length = 1 := by rw [e.K_len (e.O_K hO1), he1]
  have hle : (i + 1) * d.sz ≤ L.length * d.sz := Nat.mul_le_mul_right _ hi
  rw [Nat.succ_mul] at hle
  have hjl : j < d.sz := by simp at hcl; omega
  have hle2 : L.length * d.sz ≤ cap * d.sz := Nat.mul_le_mul_right _ h1
  have kp : ∀ k, k ≠ b → (w.setCell ⟨b, i * d.sz + j, none⟩ u).heap[k]? = w.heap[k]? := fun k hk => Below.heap_setCell _ _ _ _ hk
  have hsz : (w.setCell ⟨b, i * d.sz + j, none⟩ u).heap.size = w.heap.size := by simp [World.setCell]
  obtain ⟨v, rfl⟩ : ∃ v, c1 = [v] := by
    match c1, hl1 with
    | [v], _ => exact ⟨v, rfl⟩
  have eset : (c0 ++ ([v] ++ c2)).set j u = c0 ++ ([u] ++ c2) := by
    rw [List.set_append_right _ _ (by omega), hl, Nat.sub_self]; rfl
  refine ⟨rfl, h0, hi, h1, h2, hS, cur.setIfInBounds (i * d.sz + j) u, S1, S2, ds, ?_, by simpa using h3, k1, k2, ?_, ?_, hd, ?_⟩
  · simp only [World.setCell, Array.getElem?_modify, hb]; simp
  · rw [eset]
    exact hb1 _ y [u] (fun k hk _ => ⟨hk, kp k (k1 k (g2 k hk)).1.2⟩) (hy _ _)
  · rw [eset, Array.toList_setIfInBounds, List.take_set, he, List.set_append_right _ _ (by rw [List.length_take]; omega), List.length_take, Nat.min_eq_left (by omega), show i * d.sz + j - i * d.sz = j by omega, List.set_append_left _ _ (by omega), eset]
  · intro w' y' c' hk hO'
    exact hback w' y' c' (fun k hk1 hl1 => ⟨hk1, ((hk k hk1 (by rw [hsz]; exact hl1)).2).trans (kp k (k2 k hk1).2)⟩) hO'
/-- A field that is a row of its own is turned. -/
theorem At.sub {w : World} {S : Nat → Prop} {b n cap : Nat} {L : List α} {i : Nat} {x : α} {cs : List Value} (h : At d w S b n cap L i x cs) {t : TypeId} {hp : 0 < e.sz} {j : Nat} {get : α → List β} {put : α → List β → α} (F : Fld d (Kd.slice t e hp) j get put) {v : Value} (hv : cs[j]? = some v) :
    ∃ S1 : Nat → Prop, e.R w S1 v (get x) ∧ (∀ k, S1 k → S k ∧ k ≠ b) ∧ ∀ (w' : World) (y : List β), e.R w' S1 v y → Foot S1 w w' → At d w' S b n cap L i (put x y) cs := by
  obtain ⟨rfl, h0, hi, h1, h2, hS, cur, S1, S2, ds, hb, h3, k1, k2, hO, he, hd, hback⟩ := h
  obtain ⟨T1, T2, c0, c1, c2, rfl, hl, g1, g2, hO1, hb1⟩ := F.opn hO
  obtain ⟨v', rfl, hR⟩ := hO1
  have e1 : (c0 ++ ([v'] ++ c2))[j]? = some v' := by rw [List.getElem?_append_right (by omega), hl, Nat.sub_self]; rfl
  obtain rfl : v' = v := by rw [e1] at hv; exact Option.some.inj hv
  refine ⟨T1, hR, fun k hk => (k1 k (g1 k hk).1).1, fun w' y hR' hF => ?_⟩
  have hbl : b < w.heap.size := (Array.getElem?_eq_some_iff.1 hb).1
  refine ⟨rfl, h0, hi, h1, h2, hS, cur, S1, fun k => S2 k ∧ k < w.heap.size, ds, ?_, h3, fun k hk => ⟨(k1 k hk).1, fun e => (k1 k hk).2 e.1⟩, fun k hk => k2 k hk.1, ?_, he, hd, ?_⟩
  · exact (hF.block b hbl (fun e => (k1 b (g1 b e).1).1.2 rfl)).trans hb
  · exact hb1 w' y [v'] (fun k hk hl => ⟨hk, hF.block k hl (fun e => (g1 k e).2 hk)⟩) ⟨v', rfl, hR'⟩
  · intro w2 y' c' hk hO'
    exact hback w2 y' c' (fun k hk1 hl1 => ⟨hk1, ((hk k ⟨hk1, hl1⟩ (Nat.lt_of_lt_of_le hl1 hF.size)).2).trans (hF.block k hl1 (fun e => (k1 k (g1 k e).1).2 hk1))⟩) hO'
theorem At.below {w w' : World} {S : Nat → Prop} {b n cap : Nat} {L : List α} {i : Nat} {x : α} {cs : List Value} (h : At d w S b n cap L i x cs) (hB : Below w.heap.size w w') : At d w' S b n cap L i x cs := by
  obtain ⟨rfl, h0, hi, h1, h2, hS, cur, S1, S2, ds, hb, h3, k1, k2, hO, he, hd, hback⟩ := h
  have hbl : b < w.heap.size := (Array.getElem?_eq_some_iff.1 hb).1
  exact ⟨rfl, h0, hi, h1, h2, hS, cur, S1, fun k => S2 k ∧ k < w.heap.size, ds, (hB.block b hbl).trans hb, h3, fun k hk => ⟨(k1 k hk).1, fun e => (k1 k hk).2 e.1⟩, fun k hk => k2 k hk.1, d.O_move (Keeps.below hB _) hO, he, hd,
    fun w2 y' c' hk hO' => hback w2 y' c' (fun k hk1 hl1 => ⟨hk1, ((hk k ⟨hk1, hl1⟩ (Nat.lt_of_lt_of_le hl1 hB.size)).2).trans (hB.block k hl1)⟩) hO'⟩
/-- A field that is a row of its own is turned: of a value by itself. -/
theorem O_sub {w : World} {S : Nat → Prop} {x : α} {cs : List Value} (h : d.O w S x cs) {t : TypeId} {hp : 0 < e.sz} {j : Nat} {get : α → List β} {put : α → List β → α} (F : Fld d (Kd.slice t e hp) j get put) {v : Value} (hv : cs[j]? = some v) :
    ∃ S1 : Nat → Prop, e.R w S1 v (get x) ∧ (∀ k, S1 k → S k) ∧ ∀ (w' : World) (y : List β), e.R w' S1 v y → Foot S1 w w' → d.O w' S (put x y) cs := by
  obtain ⟨T1, T2, c0, c1, c2, rfl, hl, g1, g2, hO1, hb1⟩ := F.opn h
  obtain ⟨v', rfl, hR⟩ := hO1
  have e1 : (c0 ++ ([v'] ++ c2))[j]? = some v' := by rw [List.getElem?_append_right (by omega), hl, Nat.sub_self]; rfl
  obtain rfl : v' = v := by rw [e1] at hv; exact Option.some.inj hv
  exact ⟨T1, hR, fun k hk => (g1 k hk).1, fun w' y hR' hF => hb1 w' y [v'] (fun k hk hl => ⟨hk, hF.block k hl (fun e => (g1 k e).2 hk)⟩) ⟨v', rfl, hR'⟩⟩
theorem O_part {w : World} {S : Nat → Prop} {x : α} {cs : List Value} (h : d.O w S x cs) {j : Nat} {get : α → β} {put : α → β → α} (F : Fld d e j get put) (a0 a1 a2 : List Value) (hv : cs = a0 ++ (a1 ++ a2)) (h0 : a0.length = j) (h1 : a1.length = e.sz) :
    ∃ S1 : Nat → Prop, e.O w S1 (get x) a1 ∧ (∀ k, S1 k → S k) ∧ ∀ (w' : World) (y : β), e.O w' S1 y a1 → Foot S1 w w' → d.O w' S (put x y) cs := by
  obtain ⟨T1, T2, c0, c1, c2, rfl, hl, g1, g2, hO1, hb1⟩ := F.opn h
  have hl1 := e.K_len (e.O_K hO1)
  obtain ⟨rfl, h2⟩ := List.append_inj hv (by omega)
  obtain ⟨rfl, rfl⟩ := List.append_inj h2 (by omega)
  exact ⟨T1, hO1, fun k hk => (g1 k hk).1, fun w' y hR' hF => hb1 w' y c1 (fun k hk hl => ⟨hk, hF.block k hl (fun e => (g1 k e).2 hk)⟩) hR'⟩
/-! #### made elements, one behind the other -/
theorem O_from {w : World} {n0 : Nat} {x : α} {c : List Value} (h : d.O w (fun k => n0 ≤ k) x c) : d.O w (fun k => n0 ≤ k ∧ k < w.heap.size) x c := d.O_mono h (fun k h1 h2 => ⟨h1, h2⟩)
theorem R_from {w : World} {n0 : Nat} {x : List α} {v : Value} (h : d.R w (fun k => n0 ≤ k) v x) : d.R w (fun k => n0 ≤ k ∧ k < w.heap.size) v x := d.R_mono h (fun k h1 h2 => ⟨h1, h2⟩)
theorem O_stack {w : World} {n0 n1 : Nat} {x : α} {y : β} {c0 c1 : List Value} (h0 : d.O w (fun k => n0 ≤ k ∧ k < n1) x c0) (h1 : e.O w (fun k => n1 ≤ k) y c1) (hn : n0 ≤ n1) : (pair d e).O w (fun k => n0 ≤ k) (x, y) (c0 ++ c1) :=
  ⟨_, _, c0, c1, rfl, fun k hk => ⟨hk.1, fun h => by omega⟩, fun k hk => by omega, h0, h1⟩
/-! #### marks -/
end Kd
/-- How a thing is marked from a number on, and how far. -/
structure Mk (α : Type) where make ::
  cnt : α → Nat
  one : α → Int → α
namespace Mk
variable {α : Type} (m : Mk α)
def cnts (xs : List α) : Nat := (xs.map m.cnt).sum
def mks : List α → Int → List α
  | [], _ => []
  | x :: xs, k => m.one x k :: mks xs (k + m.cnt x)
theorem cnts_nil : m.cnts [] = 0 := rfl
theorem cnts_snoc (xs : List α) (x : α) : m.cnts (xs ++ [x]) = m.cnts xs + m.cnt x := by simp [cnts]
theorem cnts_take (xs : List α) (i : Nat) (h : i < xs.length) : m.cnts (xs.take (i + 1)) = m.cnts (xs.take i) + m.cnt xs[i] := by rw [List.take_succ_eq_append_getElem h, cnts_snoc]
theorem cnts_le (xs : List α) (i : Nat) : m.cnts (xs.take i) ≤ m.cnts xs := by
  conv => rhs; rw [← List.take_append_drop i xs]
  unfold cnts
  rw [List.map_append, List.sum_append]; omega
theorem mks_len : ∀ (xs : List α) (k : Int), (m.mks xs k).length = xs.length
  | [], _ => rfl
  | _ :: t, k => by rw [mks, List.length_cons, List.length_cons, mks_len]
theorem mks_snoc : ∀ (xs : List α) (x : α) (k : Int), m.mks (xs ++ [x]) k = m.mks xs k ++ [m.one x (k + m.cnts xs)]
  | [], x, k => by simp [mks, cnts]
  | y :: t, x, k => by
    rw [List.cons_append, mks, mks_snoc t x, mks, List.cons_append]
    have : k + ↑(m.cnt y) + ↑(m.cnts t) = k + ↑(m.cnts (y :: t)) := by simp [cnts]; omega
    rw [this]
theorem next (t : List α) (k : Int) (i : Nat) (h : i < t.length) : (m.mks (t.take i) k ++ t.drop i).set i (m.one t[i] (k + m.cnts (t.take i))) = m.mks (t.take (i + 1)) k ++ t.drop (i + 1) := by
  rw [List.take_succ_eq_append_getElem h, mks_snoc, List.drop_eq_getElem_cons h]
  rw [List.set_append_right _ _ (by rw [mks_len, List.length_take]; omega), mks_len, List.length_take, Nat.min_eq_left (by omega), Nat.sub_self, List.set_cons_zero, List.append_assoc]
  rfl
theorem at_ (t : List α) (k : Int) (i : Nat) (h : i < t.length) : (m.mks (t.take i) k ++ t.drop i)[i]'(by rw [List.length_append, mks_len, List.length_take, List.length_drop]; omega) = t[i] := by
  rw [List.getElem_append_right (by rw [mks_len, List.length_take]; omega)]
  simp only [mks_len, List.length_take, List.getElem_drop]
  congr 1; omega
theorem len_ (t : List α) (k : Int) (i : Nat) : (m.mks (t.take i) k ++ t.drop i).length = t.length := by rw [List.length_append, mks_len, List.length_take, List.length_drop]; omega
theorem get (t : List α) (k : Int) (i : Nat) (h : i < t.length) : (m.mks t k)[i]'(by rw [mks_len]; exact h) = m.one t[i] (k + m.cnts (t.take i)) := by
  have e : m.mks t k = m.mks (t.take i) k ++ m.mks (t.drop i) (k + m.cnts (t.take i)) := by
    clear h
    induction t generalizing k i with
    | nil => simp [mks, cnts]
    | cons x t ih =>
      cases i with
      | zero => simp [mks, cnts]
      | succ i =>
        rw [mks, ih (k + m.cnt x) i, List.take_succ_cons, List.drop_succ_cons, mks, List.cons_append]
        have : k + ↑(m.cnt x) + ↑(m.cnts (t.take i)) = k + ↑(m.cnts (x :: t.take i)) := by simp [cnts]; omega
        rw [this]
  have hl : (m.mks (t.take i) k).length = i := by rw [mks_len, List.length_take]; omega
  have e2 : (m.mks t k)[i]? = some (m.one t[i] (k + m.cnts (t.take i))) := by
    rw [e, List.getElem?_append_right (by omega), hl, Nat.sub_self, List.drop_eq_getElem_cons h, mks]
    rfl
  exact (List.getElem?_eq_some_iff.1 e2).2
end Mk
end Go.Proofs.YtenigopoknajgaaDoor
