/- A struct in a block of one's own, one of whose rows grows. No program in sight. -/
import Derived.Test.YtenigopoknajgaaDoorFld
import Derived.Test.YtenigopoknajgaaDoorInvCell
namespace Go.Proofs.YtenigopoknajgaaDoor
open Go.RowKit
set_option linter.unusedVariables false
namespace Kd
variable {α β γ : Type}
/-- Of the kind d a field of the kind e, j cells in; what is put there may own other blocks. -/
structure GFld (d : Kd α) (e : Kd β) (j : Nat) (get : α → β) (put : α → β → α) : Prop where
  opn : ∀ {w : World} {S : Nat → Prop} {x : α} {c : List Value}, d.O w S x c → ∃ (S1 S2 : Nat → Prop) (c0 c1 c2 : List Value), c = c0 ++ (c1 ++ c2) ∧ c0.length = j ∧ (∀ k, S1 k → S k ∧ ¬ S2 k) ∧ (∀ k, S2 k → S k ∧ k < w.heap.size) ∧ e.O w S1 (get x) c1 ∧
    ∀ (w' : World) (S' : Nat → Prop) (y : β) (c1' : List Value), Keeps w w' S2 S2 → (∀ k, S' k → ¬ S2 k) → e.O w' S' y c1' → d.O w' (fun k => S' k ∨ S2 k) (put x y) (c0 ++ (c1' ++ c2))
theorem GFld.self (d : Kd α) : GFld d d 0 (fun x => x) (fun _ y => y) := ⟨fun {w S x c} h => ⟨S, fun _ => False, [], c, [], by simp, rfl, fun k hk => ⟨hk, id⟩, fun k hk => hk.elim, h, fun w' S' y c1' _ _ hO => by simpa using d.O_mono hO (S1 := fun k => S' k ∨ False) (fun k h _ => .inl h)⟩⟩
theorem GFld.fst {a : Kd α} {b : Kd β} {e : Kd γ} {j : Nat} {get : α → γ} {put : α → γ → α} (F : GFld a e j get put) : GFld (pair a b) e j (fun x => get x.1) (fun x y => (put x.1 y, x.2)) := ⟨fun {w S x c} h => by
  obtain ⟨T1, T2, d0, d1, rfl, g1, g2, h0, h1⟩ := h
  obtain ⟨S1, S2, c0, c1, c2, rfl, hl, k1, k2, hO, hback⟩ := F.opn h0
  refine ⟨S1, fun k => S2 k ∨ (T2 k ∧ k < w.heap.size), c0, c1, c2 ++ d1, by simp, hl, fun k hk => ⟨(g1 k (k1 k hk).1).1, fun e => e.elim (k1 k hk).2 (fun e => (g1 k (k1 k hk).1).2 e.1)⟩, fun k hk => hk.elim (fun e => ⟨(g1 k (k2 k e).1).1, (k2 k e).2⟩) (fun e => ⟨g2 k e.1, e.2⟩), hO, fun w' S' y c1' hk hd hO' => ?_⟩
  refine ⟨fun k => S' k ∨ S2 k, fun k => T2 k ∧ k < w.heap.size, c0 ++ (c1' ++ c2), d1, by simp, fun k hk => ⟨hk.elim (fun e => .inl e) (fun e => .inr (.inl e)), fun e => hk.elim (fun e' => hd k e' (.inr e)) (fun e' => (g1 k (k2 k e').1).2 e.1)⟩, fun k hk => .inr (.inr hk), ?_, ?_⟩
  · exact hback w' S' y c1' (fun k h1 h2 => ⟨h1, (hk k (.inl h1) h2).2⟩) (fun k h1 h2 => hd k h1 (.inl h2)) hO'
  · exact b.O_move (fun k h1 h2 => ⟨⟨h1, h2⟩, (hk k (.inr ⟨h1, h2⟩) h2).2⟩) h1⟩
theorem GFld.snd {a : Kd α} {b : Kd β} {e : Kd γ} {j : Nat} {get : β → γ} {put : β → γ → β} (F : GFld b e j get put) : GFld (pair a b) e (a.sz + j) (fun x => get x.2) (fun x y => (x.1, put x.2 y)) := ⟨fun {w S x c} h => by
  obtain ⟨T1, T2, d0, d1, rfl, g1, g2, h0, h1⟩ := h
  obtain ⟨S1, S2, c0, c1, c2, rfl, hl, k1, k2, hO, hback⟩ := F.opn h1
  refine ⟨S1, fun k => S2 k ∨ (T1 k ∧ k < w.heap.size), d0 ++ c0, c1, c2, by simp, by rw [List.length_append, a.K_len (a.O_K h0), hl], fun k hk => ⟨g2 k (k1 k hk).1, fun e => e.elim (k1 k hk).2 (fun e => (g1 k e.1).2 (k1 k hk).1)⟩, fun k hk => hk.elim (fun e => ⟨g2 k (k2 k e).1, (k2 k e).2⟩) (fun e => ⟨(g1 k e.1).1, e.2⟩), hO, fun w' S' y c1' hk hd hO' => ?_⟩
  refine ⟨fun k => T1 k ∧ k < w.heap.size, fun k => S' k ∨ S2 k, d0, c0 ++ (c1' ++ c2), by simp, fun k hk => ⟨.inr (.inr hk), fun e => e.elim (fun e' => hd k e' (.inr hk)) (fun e' => (g1 k hk.1).2 (k2 k e').1)⟩, fun k hk => hk.imp id .inl, ?_, ?_⟩
  · exact a.O_move (fun k h1 h2 => ⟨⟨h1, h2⟩, (hk k (.inr ⟨h1, h2⟩) h2).2⟩) h0
  · exact hback w' S' y c1' (fun k h1 h2 => ⟨h1, (hk k (.inl h1) h2).2⟩) (fun k h1 h2 => hd k h1 (.inl h2)) hO'⟩
theorem GFld.iso {d : Kd β} {e : Kd γ} {j : Nat} {get : β → γ} {put : β → γ → β} (t : TypeId) {f : α → β} {put' : α → γ → α} (F : GFld d e j get put) (h : ∀ x y, f (put' x y) = put (f x) y) : GFld (Kd.iso t d f) e j (fun x => get (f x)) put' := ⟨fun {w S x c} hx => by
  obtain ⟨S1, S2, c0, c1, c2, rfl, hl, k1, k2, hO, hback⟩ := F.opn (w := w) (S := S) (x := f x) hx
  refine ⟨S1, S2, c0, c1, c2, rfl, hl, k1, k2, hO, fun w' S' y c1' hk hd hO' => ?_⟩
  have := hback w' S' y c1' hk hd hO'
  rw [← h] at this
  exact this⟩
end Kd
/-- A struct but for one of its fields. -/
def Hole {α β : Type} (d : Kd α) (e : Kd β) (x : β → α) (c0 c2 : List Value) (w : World) (S : Nat → Prop) : Prop :=
  ∀ (w' : World) (S' : Nat → Prop) (y : β) (c1 : List Value), Keeps w w' S S → (∀ k, S' k → ¬ S k) → e.O w' S' y c1 → d.O w' (fun k => S' k ∨ S k) (x y) (c0 ++ (c1 ++ c2))
theorem Hole.move {α β : Type} {d : Kd α} {e : Kd β} {x : β → α} {c0 c2 : List Value} {w w1 : World} {S : Nat → Prop} (h : Hole d e x c0 c2 w S) (hk : Keeps w w1 S S) : Hole d e x c0 c2 w1 S := fun w' S' y c1 hk2 hd hO =>
  h w' S' y c1 (fun k h1 h2 => ⟨h1, by
    have h3 := (hk k h1 h2).2
    have h4 : k < w1.heap.size := by
      rw [Array.getElem?_eq_getElem h2] at h3
      exact (Array.getElem?_eq_some_iff.1 h3).1
    exact (hk2 k h1 h4).2.trans h3⟩) hd hO
/-- The struct x lies in block X, its row xs grows: the cells c0, the row's value, the cells c2. -/
structure Growing {α β : Type} (d : Kd α) (e : Kd β) (t : TypeId) (hp : 0 < e.sz) (x : List β → α) (X n0 : Nat) (c0 c2 : List Value) (ty : TypeId) (w : World) (v : Value) (xs : List β) (Sr Sc : Nat → Prop) : Prop where
  box : w.heap[X]? = some (.cells (c0 ++ (v :: c2)).toArray ty (0, 0))
  hole : Hole d (Kd.slice t e hp) x c0 c2 w Sr
  row : e.R w Sc v xs
  apart : ∀ k, Sr k → ¬ Sc k
  mine : ∀ k, Sr k ∨ Sc k → n0 ≤ k ∧ k < w.heap.size ∧ k ≠ X
  at_ : n0 ≤ X
section
variable {α β : Type} {d : Kd α} {e : Kd β} {t : TypeId} {hp : 0 < e.sz} {x : List β → α} {X n0 j : Nat} {c0 c2 cs : List Value} {ty : TypeId} {w w1 : World} {v : Value} {xs : List β} {Sr Sc S : Nat → Prop}
theorem Growing.start {y : α} {get : α → List β} {put : α → List β → α} (F : Kd.GFld d (Kd.slice t e hp) j get put) (hb : w.heap[X]? = some (.cells cs.toArray ty (0, 0))) (hO : d.O w S y cs) (hm : ∀ k, S k → n0 ≤ k ∧ k ≠ X) (h0 : n0 ≤ X) :
    ∃ c0 c2 v Sr Sc, c0.length = j ∧ cs = c0 ++ (v :: c2) ∧ Growing d e t hp (put y) X n0 c0 c2 ty w v (get y) Sr Sc := by
  obtain ⟨S1, S2, c0, c1, c2, rfl, hl, k1, k2, ⟨v, rfl, hR⟩, hback⟩ := F.opn hO
  refine ⟨c0, c2, v, S2, fun k => S1 k ∧ k < w.heap.size, hl, rfl, hb, hback, Kd.R_mono hR (fun k h1 h2 => ⟨h1, h2⟩), fun k h1 h2 => (k1 k h2.1).2 h1, fun k h => ?_, h0⟩
  rcases h with h | h
  · exact ⟨(hm k (k2 k h).1).1, (k2 k h).2, (hm k (k2 k h).1).2⟩
  · exact ⟨(hm k (k1 k h.1).1).1, h.2, (hm k (k1 k h.1).1).2⟩
theorem Growing.below (h : Growing d e t hp x X n0 c0 c2 ty w v xs Sr Sc) (hb : Below w.heap.size w w1) : Growing d e t hp x X n0 c0 c2 ty w1 v xs Sr Sc :=
  ⟨(hb.block X (Array.getElem?_eq_some_iff.1 h.box).1).trans h.box, h.hole.move (Keeps.below hb _), Kd.R_below h.row hb, h.apart, fun k hk => ⟨(h.mine k hk).1, Nat.lt_of_lt_of_le (h.mine k hk).2.1 hb.size, (h.mine k hk).2.2⟩, h.at_⟩
theorem Growing.done (h : Growing d e t hp x X n0 c0 c2 ty w v xs Sr Sc) : d.O w (fun k => n0 ≤ k ∧ k < w.heap.size ∧ k ≠ X) (x xs) (c0 ++ (v :: c2)) :=
  d.O_mono (h.hole w Sc xs [v] (fun k h1 _ => ⟨h1, rfl⟩) (fun k h1 h2 => h.apart k h2 h1) ⟨v, rfl, h.row⟩) (fun k h1 _ => h.mine k (h1.elim .inr .inl))
theorem Growing.cell (h : Growing d e t hp x X n0 c0 c2 ty w v xs Sr Sc) (hl : c0.length = j) : w.cell? ⟨X, j, none⟩ = some v := by
  refine (box_at h.box).2.1 j v ?_
  rw [List.getElem?_toArray, List.getElem?_append_right (by omega)]
  simp [hl]
theorem grow_set (hb : w.heap[X]? = some (.cells (c0 ++ (v :: c2)).toArray ty (0, 0))) (hl : c0.length = j) (u : Value) : (w.setCell ⟨X, j, none⟩ u).heap[X]? = some (.cells (c0 ++ (u :: c2)).toArray ty (0, 0)) := by
  rw [box_store j u hb]
  congr 2
  apply Array.toList_inj.1
  rw [Array.toList_setIfInBounds, List.set_append_right _ _ (by omega), hl, Nat.sub_self, List.set_cons_zero]
/-- The box whose row has grown. -/
def onGrew (e : Kd β) (X : Nat) (c0 c2 : List Value) (ty : TypeId) (xs : List β) : On := fun _ S w => ∃ u, w.heap[X]? = some (.cells (c0 ++ (u :: c2)).toArray ty (0, 0)) ∧ S X ∧ e.R w (fun k => S k ∧ k ≠ X) u xs
theorem stab_grew {n0 : Nat} {T : Nat → Prop} (e : Kd β) (X : Nat) (c0 c2 : List Value) (ty : TypeId) (xs : List β) : (Ass.mk [] (onGrew e X c0 c2 ty xs)).Stab n0 T := fun val val' S w w' h hs hk _ => by
  obtain ⟨u, h1, h2, h3⟩ := h
  exact ⟨u, (hk X (.inl h2) (Array.getElem?_eq_some_iff.1 h1).1).trans h1, h2, Kd.R_move (fun k h1 h2 => ⟨h1, hk k (.inl h1.1) h2⟩) h3⟩
theorem grow_cell (hb : w.heap[X]? = some (.cells (c0 ++ (v :: c2)).toArray ty (0, 0))) (hl : c0.length = j) : w.cell? ⟨X, j, none⟩ = some v := by
  refine (box_at hb).2.1 j v ?_
  rw [List.getElem?_toArray, List.getElem?_append_right (by omega)]
  simp [hl]
theorem Growing.next {ys : List β} {S : Nat → Prop} {val : Nat → Value} (h : Growing d e t hp x X n0 c0 c2 ty w v xs Sr Sc) (hF : Foot (fun k => k = X ∨ Sc k) w.drew w1) (hS : onGrew e X c0 c2 ty ys val S w1) (hm : ∀ k, S k → (w.drew.heap.size ≤ k ∨ (k = X ∨ Sc k)) ∧ k < w1.heap.size) :
    ∃ u, Growing d e t hp x X n0 c0 c2 ty w1 u ys Sr (fun k => S k ∧ k ≠ X) := by
  obtain ⟨u, h1, h2, h3⟩ := hS
  have hsz : w.drew.heap.size = w.heap.size := rfl
  have hX : X < w.heap.size := (Array.getElem?_eq_some_iff.1 h.box).1
  refine ⟨u, h1, h.hole.move (fun k hk hl => ⟨hk, hF.block k hl (fun e => e.elim (h.mine k (.inl hk)).2.2 (h.apart k hk))⟩), h3, fun k hk hs => ?_, fun k hk => ?_, h.at_⟩
  · rcases (hm k hs.1).1 with h4 | h4 | h4
    · have := (h.mine k (.inl hk)).2.1; omega
    · exact hs.2 h4
    · exact h.apart k hk h4
  · have hw := hF.size
    rcases hk with hk | hk
    · have := h.mine k (.inl hk); exact ⟨this.1, by omega, this.2.2⟩
    · have h5 := hm k hk.1
      refine ⟨?_, h5.2, hk.2⟩
      rcases h5.1 with h4 | h4 | h4
      · have := h.at_; omega
      · exact (hk.2 h4).elim
      · exact (h.mine k (.inr h4)).1
end
end Go.Proofs.YtenigopoknajgaaDoor
