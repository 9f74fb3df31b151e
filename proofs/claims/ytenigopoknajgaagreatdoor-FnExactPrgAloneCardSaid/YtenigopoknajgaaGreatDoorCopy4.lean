/- What copies of clauses need: kinds, a struct's row that grows, places that are copied. -/
import Derived.Test.YtenigopoknajgaaGreatDoorCopy3g
import Derived.Test.YtenigopoknajgaaGreatDoorCopy1
import Derived.Test.YtenigopoknajgaaGreatDoorGrow
import Derived.Test.YtenigopoknajgaaGreatDoorSeq
import Derived.Test.YtenigopoknajgaaGreatDoorP3
namespace Go.Proofs.YtenigopoknajgaaGreatDoor
open Go.RowKit
set_option linter.unusedVariables false
set_option maxRecDepth 100000
theorem info_Goal : (Tryz.prog.info? 63).map (fun i => (i.zero, i.size, i.bytes)) = some (some (.agg #[.int .i64 0, .slice none 0 0, .slice none 0 0, .slice none 0 0]), 4, 80) := by kernel_rfl
theorem info_Clause : (Tryz.prog.info? 59).map (fun i => (i.zero, i.size, i.bytes)) = some (some (.agg #[.slice none 0 0, .slice none 0 0]), 2, 48) := by kernel_rfl
theorem gf_body : Kd.GFld kClause (Kd.slice 57 kGoal (by decide)) 1 (fun x => x.body) (fun x y => { x with body := y }) := Kd.GFld.iso _ (Kd.GFld.snd (Kd.GFld.self _)) (fun _ _ => rfl)
theorem kClause_of {w : World} {S1 S2 : Nat → Prop} {x : Clause} {v1 v2 : Value} (h1 : kCell.R w S1 v1 x.head) (h2 : kGoal.R w S2 v2 x.body) (d : ∀ k, S1 k → ¬ S2 k) : kClause.O w (fun k => S1 k ∨ S2 k) x [v1, v2] :=
  ⟨S1, S2, [v1], [v2], rfl, fun k h => ⟨.inl h, d k h⟩, fun k h => .inr h, ⟨v1, rfl, h1⟩, ⟨v2, rfl, h2⟩⟩
theorem foot_cell0 {T : Nat → Prop} {w W : World} {b o : Nat} {u : Value} (h : Foot T w W) (hT : ¬ T b) (hc : w.cell? ⟨b, o, none⟩ = some u) : W.cell? ⟨b, o, none⟩ = some u := by
  have hl := World.block_lt_of_cell? w _ hc
  exact (World.cell?_of_block (w := w) (w' := W) (h.block b hl hT)).trans hc
def onOc {α : Type} (d : Kd α) (x : α) (cs : List Value) : On := fun _ S w => d.O w S x cs
theorem stab_Oc {α : Type} {n0 : Nat} {T : Nat → Prop} (d : Kd α) (x : α) (cs : List Value) : (Ass.mk [] (onOc d x cs)).Stab n0 T := fun val val' S w w' h hs hk _ => d.O_move (fun k h1 h2 => ⟨h1, hk k (.inl h1) h2⟩) h
theorem Growing.next' {α β : Type} {d : Kd α} {e : Kd β} {t : TypeId} {hp : 0 < e.sz} {x : List β → α} {X n0 : Nat} {c0 c2 : List Value} {ty : TypeId} {w w1 : World} {v : Value} {xs : List β} {Sr Sc S T : Nat → Prop} {ys : List β} {val : Nat → Value} (h : Growing d e t hp x X n0 c0 c2 ty w v xs Sr Sc) (hF : Foot T w w1) (hT : ∀ k, T k → n0 ≤ k ∧ ¬ Sr k) (hS : onGrew e X c0 c2 ty ys val S w1) (hm : ∀ k, S k → (w.heap.size ≤ k ∨ T k) ∧ k < w1.heap.size) :
    ∃ u, Growing d e t hp x X n0 c0 c2 ty w1 u ys Sr (fun k => S k ∧ k ≠ X) := by
  obtain ⟨u, h1, h2, h3⟩ := hS
  have hX : X < w.heap.size := (Array.getElem?_eq_some_iff.1 h.box).1
  refine ⟨u, h1, h.hole.move (fun k hk hl => ⟨hk, hF.block k hl (fun e => (hT k e).2 hk)⟩), h3, fun k hk hs => ?_, fun k hk => ?_, h.at_⟩
  · rcases (hm k hs.1).1 with h4 | h4
    · have := (h.mine k (.inl hk)).2.1; omega
    · exact (hT k h4).2 hk
  · have hw := hF.size
    rcases hk with hk | hk
    · have := h.mine k (.inl hk); exact ⟨this.1, by omega, this.2.2⟩
    · have h5 := hm k hk.1
      refine ⟨?_, h5.2, hk.2⟩
      rcases h5.1 with h4 | h4
      · have := h.at_; omega
      · exact (hT k h4).1
/-- Of a kind without memory of its own a row that is read is owned too. -/
theorem Kd.Os_plain {α : Type} {d : Kd α} (hp : ∀ {w : World} {ok : Nat → Prop} {x : α} {cs : List Value}, d.K w ok x cs → d.O w (fun _ => False) x cs) {w : World} {ok : Nat → Prop} : ∀ {xs : List α} {S : Nat → Prop} {cs : List Value}, d.Ks w ok xs cs → d.Os w S xs cs
  | [], S, cs, h => h
  | x :: xs, S, cs, h => by
    obtain ⟨c0, c1, rfl, h1, h2⟩ := h
    exact ⟨fun _ => False, fun _ => False, c0, c1, rfl, fun k h => h.elim, fun k h => h.elim, hp h1, Kd.Os_plain hp h2⟩
theorem Kd.W_R_plain {α : Type} {d : Kd α} (hp : ∀ {w : World} {ok : Nat → Prop} {x : α} {cs : List Value}, d.K w ok x cs → d.O w (fun _ => False) x cs) {w : World} {S ok : Nat → Prop} {v : Value} {xs : List α} (h : d.W w S ok v xs) : d.R w S v xs := by
  obtain ⟨h0, ⟨rfl, rfl⟩ | ⟨b, cap, cur, rfl, hb, hS, h1, h2, h3, h4⟩⟩ := h
  · exact ⟨h0, .inl ⟨rfl, rfl⟩⟩
  · exact ⟨h0, .inr ⟨b, cap, cur, rfl, hb, hS, h1, h2, h3, Kd.Os_plain hp h4⟩⟩
theorem kPlace_KO {w : World} {ok : Nat → Prop} {x : Place} {cs : List Value} (h : kPlace.K w ok x cs) : kPlace.O w (fun _ => False) x cs := by
  obtain ⟨rfl, hn⟩ := kPlace_K h
  exact ⟨fun _ => False, fun _ => False, [.string x.name], [.int .i64 x.n, .int .i64 x.node], rfl, fun _ h => h.elim, fun _ h => h.elim, ⟨rfl, hn⟩,
    fun _ => False, fun _ => False, [.int .i64 x.n], [.int .i64 x.node], rfl, fun _ h => h.elim, fun _ h => h.elim, ⟨rfl, trivial⟩, rfl, trivial⟩
theorem info_Place : (Tryz.prog.info? 61).map (fun i => (i.zero, i.size, i.bytes)) = some (some (.agg #[.string ⟨#[]⟩, .int .i64 0, .int .i64 0]), 3, 32) := by kernel_rfl
theorem clonePlaces_c (v : Value) (t : List Place) (ok : Nat → Prop) (w : World) (hV : kPlace.V w ok v t) :
    Calls Tryz.prog 37 #[v] w fun e w' => ∃ u, e = .returned u ∧ kPlace.R w' (fun k => w.heap.size ≤ k) u t ∧ Below w.heap.size w w' := by
  obtain ⟨A, c, rfl, h1, h2, h3, hC, h0⟩ := hV
  have hut := Tryz.underlying28
  cases A with
  | none =>
    have ht : t = [] := by
      rcases hC with h | ⟨b, off, hA, _⟩
      · exact h
      · cases hA
    subst ht
    obtain rfl := h0 rfl
    have hq := Go.Lib.run_eql_slice_nil (P := Tryz.prog) w 28 _ none 0 0 0 0 hut
    go_enter Tryz.func37, Tryz.ntmps37
    go_wp2
    go_ret
    exact ⟨_, rfl, Kd.R_nil _ _ _, Below.refl _ _⟩
  | some a =>
    have HV : Sec (kPlace.V w ok (.slice (some a) t.length c) t) := ⟨⟨_, c, rfl, h1, h2, h3, hC, h0⟩⟩
    clear hC h0
    have hq := Go.Lib.run_eql_slice_nil (P := Tryz.prog) w 28 _ (some a) t.length c 0 0 hut
    go_enter Tryz.func37, Tryz.ntmps37
    go_wp2_with (at_builtin; refine Kd.W_cat kPlace rfl (.tmp 5) (.tmp 6) 28 (.agg #[.string ⟨#[]⟩, .int .i64 0, .int .i64 0]) 32 rfl Tryz.underlying28 info_Place rfl (by decide) (by decide) (.slice (some ⟨w.heap.size, 0, none⟩) 0 0) (.slice (some a) t.length c) [] t (fun k => w.heap.size ≤ k) (fun k => k < w.heap.size) rfl rfl (Kd.W_empty kPlace w _ _ (Nat.le_refl _)) (Kd.V_move (fun k hk hl => ⟨⟨hl, fun e => absurd (show k = w.heap.size by simpa [Value.ownBlock] using e) (by omega)⟩, Below.heap_alloc _ _ _ hl⟩) HV.out (by decide)) (by simpa using h3) ?_; intro v1 w1 hW hg; have HR := Sec.mk (Kd.W_R_plain kPlace_KO hW); have HB := Sec.mk ((belA (Below.refl w.heap.size w) _).grown hg (by simp) (fun k e => Nat.le_of_eq (show w.heap.size = k by simpa [Value.ownBlock] using e))); clear hW hg)
    go_ret
    exact ⟨_, rfl, by have := HR.out; simp only [List.nil_append] at this; exact Kd.R_mono this (fun k h _ => h.elim id (fun h => by simp at h; omega)), HB.out⟩
end Go.Proofs.YtenigopoknajgaaGreatDoor
