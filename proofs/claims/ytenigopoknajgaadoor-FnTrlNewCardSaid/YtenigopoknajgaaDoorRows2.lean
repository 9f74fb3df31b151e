/- Rows that are made whole, and what is put into them; what turns no more than some blocks. -/
import Derived.Test.YtenigopoknajgaaDoorKinds
import Derived.Laws.MakeOwn
namespace Go.Proofs.YtenigopoknajgaaDoor
open Go.RowKit
set_option linter.unusedVariables false
/-- Of what was there no more than the blocks in S has turned. -/
structure Foot (S : Nat → Prop) (w w' : World) : Prop where
  os : w'.os = w.os
  tape : w'.tape = w.tape
  output : w'.output = w.output
  size : w.heap.size ≤ w'.heap.size
  block : ∀ k, k < w.heap.size → ¬ S k → w'.heap[k]? = w.heap[k]?
theorem Foot.refl (S : Nat → Prop) (w : World) : Foot S w w := ⟨rfl, rfl, rfl, Nat.le_refl _, fun _ _ _ => rfl⟩
theorem Foot.of_below {S : Nat → Prop} {w w' : World} (h : Below w.heap.size w w') : Foot S w w' := ⟨h.os, h.tape, h.output, h.size, fun k hk _ => h.block k hk⟩
theorem Foot.trans {S S' : Nat → Prop} {a b c : World} (h : Foot S a b) (k : Foot S' b c) (hS : ∀ x, x < a.heap.size → S' x → S x) : Foot S a c :=
  ⟨k.os.trans h.os, k.tape.trans h.tape, k.output.trans h.output, Nat.le_trans h.size k.size, fun i hi hg => (k.block i (Nat.lt_of_lt_of_le hi h.size) (fun e => hg (hS i hi e))).trans (h.block i hi hg)⟩
theorem Foot.mono {S S' : Nat → Prop} {a b : World} (h : Foot S a b) (hS : ∀ x, S x → S' x) : Foot S' a b := ⟨h.os, h.tape, h.output, h.size, fun i hi hg => h.block i hi (fun e => hg (hS i e))⟩
theorem Foot.alloc {S : Nat → Prop} {a b : World} (h : Foot S a b) (o : Obj) : Foot S a (b.alloc o) := h.trans (Foot.of_below (S := S) (belA (Below.refl _ _) o)) (fun _ _ h => h)
theorem Foot.set {S : Nat → Prop} {a b : World} (h : Foot S a b) {g : Nat} (hg : S g ∨ a.heap.size ≤ g) (i : Nat) (u : Value) : Foot S a (b.setCell ⟨g, i, none⟩ u) :=
  ⟨h.os, h.tape, h.output, by have := h.size; simpa [World.setCell] using this, fun k hk hn => (Below.heap_setCell _ _ _ _ (by show k ≠ g; rintro rfl; rcases hg with hg | hg; exact hn hg; omega)).trans (h.block k hk hn)⟩
theorem Foot.keeps {S ok : Nat → Prop} {w w' : World} (h : Foot S w w') (hk : ∀ k, ok k → ¬ S k) : Keeps w w' ok ok := fun k h1 hl => ⟨h1, h.block k hl (hk k h1)⟩
theorem Foot.below {S : Nat → Prop} {w0 w w' : World} (h : Foot S w w') (hb : Below w0.heap.size w0 w) (hS : ∀ k, S k → w0.heap.size ≤ k) : Below w0.heap.size w0 w' :=
  hb.trans ⟨h.os, h.tape, h.output, h.size, fun k hk => h.block k (Nat.lt_of_lt_of_le hk hb.size) (fun e => by have := hS k e; omega)⟩
namespace Kd
variable {α : Type} {d : Kd α}
theorem Os_made {w : World} {x0 : α} {z : List Value} (h : d.O w (fun _ => False) x0 z) : ∀ n, d.Os w (fun _ => False) (List.replicate n x0) (List.replicate n z).flatten
  | 0 => by simp [Os]
  | n + 1 => by
    rw [List.replicate_succ, List.replicate_succ, List.flatten_cons]
    exact ⟨fun _ => False, fun _ => False, z, _, rfl, fun _ h => h.elim, fun _ h => h.elim, h, Os_made h n⟩
theorem made_toList (z : Array Value) (n : Nat) : (madeCells z (n * z.size)).toList = (List.replicate n z.toList).flatten := by
  induction n with
  | zero => simp [madeCells]
  | succ n ih =>
    rw [List.replicate_succ', List.flatten_append, ← ih]
    apply List.ext_getElem?
    intro i
    simp only [madeCells, Array.toList_map, Array.toList_range, List.getElem?_map, List.flatten_cons, List.flatten_nil, List.append_nil, List.getElem?_append, List.length_map, List.length_range]
    by_cases h1 : i < n * z.size
    · rw [if_pos h1, List.getElem?_range h1, List.getElem?_range (by rw [Nat.succ_mul]; omega)]
    · rw [if_neg h1]
      by_cases h2 : i < (n + 1) * z.size
      · have h3 : i - n * z.size < z.size := by rw [Nat.succ_mul] at h2; omega
        have h4 : i % z.size = i - n * z.size := by
          have : i = i - n * z.size + n * z.size := by omega
          rw [this, Nat.add_mul_mod_self_right, Nat.mod_eq_of_lt h3]
          omega
        rw [List.getElem?_range h2]
        simp only [Option.map_some, h4]
        rw [Array.getElem?_toList, Array.getElem?_eq_getElem h3]
        simp [h3]
      · rw [List.getElem?_eq_none (by simp; omega), List.getElem?_eq_none (by simp; rw [Nat.succ_mul] at h2; omega)]
        rfl
theorem R_made {w : World} {B : Nat} {x0 : α} {z : Array Value} {n : Nat} (h : ∀ w : World, d.O w (fun _ => False) x0 z.toList) (hz : z.size = d.sz) (hB : B ≤ w.heap.size) (hn : n ≤ 1073741824) :
    d.R (w.alloc (.cells (madeCells z (n * d.sz)) d.ty)) (fun k => B ≤ k) (.slice (some ⟨w.heap.size, 0, none⟩) n n) (List.replicate n x0) := by
  have hl : (List.replicate n x0).length = n := List.length_replicate
  refine ⟨by rw [hl]; exact hn, .inr ⟨w.heap.size, n, _, by rw [hl], heap_alloc_new w _, hB, by rw [hl]; exact Nat.le_refl _, by simp only [maxLen]; omega, size_madeCells _ _, ?_⟩⟩
  rw [hl, ← hz, made_toList, List.take_of_length_le (by rw [← made_toList, Array.length_toList, size_madeCells]; exact Nat.le_refl _)]
  exact Os_move (w := w) (fun k hk _ => hk.elim) (Os_made (h w) n)
/-- A new element is put in a row's place. -/
theorem Os_put {w : World} : ∀ {xs : List α} {S S' : Nat → Prop} {cs : List Value} (i : Nat) {x : α} {c : List Value}, d.Os w S xs cs → i < xs.length → d.O w S' x c → (∀ k, S' k → ¬ S k) → d.Os w (fun k => S k ∨ S' k) (xs.set i x) (cs.take (i * d.sz) ++ c ++ cs.drop (i * d.sz + d.sz))
  | [], S, S', cs, i, x, c, h, hi, hO, hd => by simp at hi
  | y :: xs, S, S', cs, 0, x, c, h, hi, hO, hd => by
    obtain ⟨S1, S2, c0, c1, rfl, g1, g2, h1, h2⟩ := h
    have hl : c0.length = d.sz := d.K_len (d.O_K h1)
    rw [Nat.zero_mul, List.take_zero, List.nil_append, Nat.zero_add, List.drop_left' hl, List.set_cons_zero]
    exact ⟨S', S2, c, c1, rfl, fun k hk => ⟨.inr hk, fun e => hd k hk (g2 k e)⟩, fun k hk => .inl (g2 k hk), hO, h2⟩
  | y :: xs, S, S', cs, i + 1, x, c, h, hi, hO, hd => by
    obtain ⟨S1, S2, c0, c1, rfl, g1, g2, h1, h2⟩ := h
    have hl : c0.length = d.sz := d.K_len (d.O_K h1)
    have ih := Os_put i h2 (by simpa using hi) hO (fun k hk e => hd k hk (g2 k e))
    refine ⟨S1, fun k => S2 k ∨ S' k, c0, _, ?_, fun k hk => ⟨.inl (g1 k hk).1, fun e => e.elim (g1 k hk).2 (fun e => hd k e (g1 k hk).1)⟩, fun k hk => hk.imp (g2 k) id, h1, ih⟩
    have e1 : (i + 1) * d.sz = d.sz + i * d.sz := by rw [Nat.succ_mul, Nat.add_comm]
    rw [e1]
    rw [List.take_append, List.drop_append, hl]
    have e2 : d.sz + i * d.sz - d.sz = i * d.sz := by omega
    have e3 : d.sz + i * d.sz + d.sz - d.sz = i * d.sz + d.sz := by omega
    rw [e2, e3, List.take_of_length_le (by omega), List.drop_of_length_le (l := c0) (by omega)]
    simp [List.append_assoc]
/-- The cells of an element of a row of one's own. -/
theorem R_cell {w : World} {S : Nat → Prop} {b n cap : Nat} {xs : List α} (h : d.R w S (.slice (some ⟨b, 0, none⟩) n cap) xs) (i j : Nat) (hi : i < xs.length) (hj : j < d.sz) :
    ∃ u, w.cell? ⟨b, i * d.sz + j, none⟩ = some u ∧ w.frozen? ⟨b, i * d.sz + j, none⟩ = false := by
  obtain ⟨h0, h⟩ := h
  rcases h with ⟨h, _⟩ | ⟨b', cap', cur, hv, hb, hS, h1, h2, h3, h4⟩
  · cases h
  · simp only [Value.slice.injEq, Option.some.injEq, Addr.mk.injEq, and_true] at hv
    obtain ⟨rfl, rfl, rfl⟩ := hv
    have hlt : i * d.sz + j < cur.size := by
      have : (i + 1) * d.sz ≤ cap * d.sz := Nat.mul_le_mul_right _ (by omega)
      rw [Nat.succ_mul] at this
      omega
    refine ⟨cur[i * d.sz + j], ?_, by simp [World.frozen?, hb]⟩
    rw [cell_of_row w b _ cur d.ty (0, 0) hb, Array.getElem?_eq_getElem hlt]
theorem setCells_block (b : Nat) (T : TypeId) : ∀ (c : List Value) (o : Nat) (w : World) (cur : Array Value), w.heap[b]? = some (.cells cur T (0, 0)) → o + c.length ≤ cur.size →
    ∃ cur', (w.setCells b o c).heap[b]? = some (.cells cur' T (0, 0)) ∧ cur'.toList = cur.toList.take o ++ c ++ cur.toList.drop (o + c.length)
  | [], o, w, cur, h, hl => ⟨cur, h, by simp⟩
  | v :: c, o, w, cur, h, hl => by
    have hb : (w.setCell ⟨b, o, none⟩ v).heap[b]? = some (.cells (cur.setIfInBounds o v) T (0, 0)) := by
      simp only [World.setCell, Array.getElem?_modify, h]; simp
    rw [List.length_cons] at hl
    obtain ⟨cur', h1, h2⟩ := setCells_block b T c (o + 1) (w.setCell ⟨b, o, none⟩ v) _ hb (by simp; omega)
    refine ⟨cur', h1, ?_⟩
    have ho : o < cur.toList.length := by simp; omega
    rw [h2, Array.toList_setIfInBounds, List.take_succ_eq_append_getElem (by simp; omega), List.take_set_of_le (Nat.le_refl _), List.drop_set_of_lt (by omega), List.getElem_set_self]
    simp [Nat.add_comm]
    omega
theorem setCells_other (b : Nat) : ∀ (c : List Value) (o : Nat) (w : World) (k : Nat), k ≠ b → (w.setCells b o c).heap[k]? = w.heap[k]?
  | [], _, _, _, _ => rfl
  | v :: c, o, w, k, h => (setCells_other b c (o + 1) _ k h).trans (Below.heap_setCell _ _ _ _ h)
theorem setCells_size (b : Nat) : ∀ (c : List Value) (o : Nat) (w : World), (w.setCells b o c).heap.size = w.heap.size
  | [], _, _ => rfl
  | v :: c, o, w => (setCells_size b c (o + 1) _).trans (by simp [World.setCell])
/-- An element is put in its place in a row of one's own. -/
theorem R_put {w : World} {S S' : Nat → Prop} {b n cap : Nat} {xs : List α} {x : α} {c : List Value} (h : d.R w S (.slice (some ⟨b, 0, none⟩) n cap) xs) (i : Nat) (hi : i < xs.length) (hO : d.O w S' x c) (hd : ∀ k, S' k → ¬ S k) :
    d.R (w.setCells b (i * d.sz) c) (fun k => S k ∨ S' k) (.slice (some ⟨b, 0, none⟩) n cap) (xs.set i x) := by
  obtain ⟨h0, h⟩ := h
  refine ⟨by rw [List.length_set]; exact h0, .inr ?_⟩
  rcases h with ⟨h, _⟩ | ⟨b', cap', cur, hv, hb, hS, h1, h2, h3, h4⟩
  · cases h
  · simp only [Value.slice.injEq, Option.some.injEq, Addr.mk.injEq, and_true] at hv
    obtain ⟨rfl, rfl, rfl⟩ := hv
    have hc : c.length = d.sz := d.K_len (d.O_K hO)
    have hle : (i + 1) * d.sz ≤ xs.length * d.sz := Nat.mul_le_mul_right _ hi
    have hle2 : xs.length * d.sz ≤ cap * d.sz := Nat.mul_le_mul_right _ h1
    rw [Nat.succ_mul] at hle
    obtain ⟨cur', g1, g2⟩ := setCells_block b d.ty c (i * d.sz) w cur hb (by omega)
    refine ⟨b, cap, cur', by rw [List.length_set], g1, .inl hS, by rw [List.length_set]; exact h1, h2, ?_, ?_⟩
    · have : cur'.toList.length = cur.toList.length := by rw [g2]; simp; omega
      simpa [h3] using this
    · have h5 := Os_put i h4 hi hO (fun k hk e => hd k hk e.1)
      rw [List.length_set, g2]
      have e : (cur.toList.take (i * d.sz) ++ c ++ cur.toList.drop (i * d.sz + c.length)).take (xs.length * d.sz) = (cur.toList.take (xs.length * d.sz)).take (i * d.sz) ++ c ++ (cur.toList.take (xs.length * d.sz)).drop (i * d.sz + d.sz) := by
        have l1 : (cur.toList.take (i * d.sz)).length = i * d.sz := by rw [List.length_take, Array.length_toList]; omega
        rw [List.append_assoc, List.take_append, l1, List.take_append, hc, List.take_take, List.take_take, Nat.min_eq_right (by omega), Nat.min_eq_left (by omega), List.take_of_length_le (l := c) (by omega), List.drop_take, List.append_assoc]
        congr 3
        omega
      rw [e]
      refine Os_move (w := w) (fun k hk hl => ⟨⟨?_, ?_⟩, setCells_other b _ _ _ _ ?_⟩) h5
      · exact hk.imp (fun h => h.1) id
      · rcases hk with hk | hk
        · exact hk.2
        · rintro rfl; exact hd _ hk hS
      · rcases hk with hk | hk
        · exact hk.2
        · rintro rfl; exact hd _ hk hS
end Kd
theorem Foot.setCells {S : Nat → Prop} {a b : World} (h : Foot S a b) {g : Nat} (hg : S g ∨ a.heap.size ≤ g) : ∀ (c : List Value) (o : Nat), Foot S a (b.setCells g o c)
  | [], _ => h
  | v :: c, o => Foot.setCells (h.set hg o v) hg c (o + 1)
end Go.Proofs.YtenigopoknajgaaDoor
