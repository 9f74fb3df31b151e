/- Steps of regions that draw: rows of places. -/
import Derived.Test.YtenigopoknajgaaDoorInv
import Derived.Test.YtenigopoknajgaaDoorI1
import Derived.Test.YtenigopoknajgaaDoorExB
namespace Go.Proofs.YtenigopoknajgaaDoor
open Go.RowKit
set_option linter.unusedVariables false
theorem kCell_Ks_of {w : World} {ok : Nat → Prop} : ∀ {xs : Term}, (∀ x ∈ xs, x.name.size ≤ 1073741824) → kCell.Ks w ok xs (xs.flatMap cellC)
  | [], _ => rfl
  | x :: xs, h => ⟨cellC x, xs.flatMap cellC, rfl, Kd.O_K kCell (kCell_mk w ok x (h x List.mem_cons_self)), kCell_Ks_of (fun y hy => h y (List.mem_cons_of_mem _ hy))⟩
theorem kCell_R_W {w : World} {S : Nat → Prop} (ok : Nat → Prop) {v : Value} {xs : Term} (h : kCell.R w S v xs) : kCell.W w S ok v xs := by
  obtain ⟨h0, ⟨rfl, rfl⟩ | ⟨b, cap, cur, rfl, hb, hS, h1, h2, h3, h4⟩⟩ := h
  · exact ⟨h0, .inl ⟨rfl, rfl⟩⟩
  · obtain ⟨e, hm⟩ := kCell_Os.1 h4
    refine ⟨h0, .inr ⟨b, cap, cur, rfl, hb, hS, h1, h2, h3, ?_⟩⟩
    rw [e]; exact kCell_Ks_of hm
theorem Foot.of_grown {w w1 : World} {S : Nat → Prop} {row : Option Nat} (hg : w.grownBy w1 row) (hr : ∀ k, row = some k → S k) : Foot S w w1 :=
  ⟨hg.os, hg.tape, hg.output, hg.size, fun k hk hn => hg.block k hk (fun e => hn (hr k e.symm))⟩
theorem lst_cons {α : Type} {l : List α} {n : Nat} (h : l.length = n + 1) : ∃ x l', l = x :: l' ∧ l'.length = n := by
  cases l with
  | nil => simp at h
  | cons x l => exact ⟨x, l, rfl, by simpa using h⟩
theorem foot_cell {T : Nat → Prop} {w W : World} {b o : Nat} {u : Value} (h : Foot T w.drew W) (hT : ¬ T b) (hc : w.cell? ⟨b, o, none⟩ = some u) : W.cell? ⟨b, o, none⟩ = some u := by
  have hl := World.block_lt_of_cell? w _ hc
  exact (World.cell?_of_block (w := w) (w' := W) (h.block b hl hT)).trans hc
theorem foot_V {α : Type} {d : Kd α} {T ok : Nat → Prop} {w W : World} {v : Value} {xs : List α} (h : Foot T w.drew W) (hT : ∀ k, ok k → ¬ T k) (hV : d.V w ok v xs) (hp : 0 < d.sz) : d.V W ok v xs :=
  Kd.V_move (w := w) (fun k h1 h2 => ⟨h1, h.block k h2 (hT k h1)⟩) hV hp
theorem foot_C {α : Type} {d : Kd α} {T ok : Nat → Prop} {w W : World} {A : Option Addr} {xs : List α} (h : Foot T w.drew W) (hT : ∀ k, ok k → ¬ T k) (hV : d.C w ok A xs) (hp : 0 < d.sz) : d.C W ok A xs :=
  Kd.C_move (w := w) (fun k h1 h2 => ⟨h1, h.block k h2 (hT k h1)⟩) hV hp
section
variable {o : Oper} {a : Act} {w : World} {K : Act → World → Prop} {Q : Exit → Act → World → Prop} {E : Prop} {ops : Array Oper}
/-- append(v, y...) of places, as a step. -/
theorem step_cells {S ok : Nat → Prop} (hg : o.guard = none) (s x : Operand) (ho : o.op = .call { callee := .builtin .append, args := #[s, x], argTypes := #[23, 23] })
    {v u : Value} {xs ys : Term} (hs : a.eval s = v) (hx : a.eval x = u) (HR : kCell.R w S v xs) (HV : kCell.V w ok u ys) (hd : ∀ k, ok k → ¬ S k) (hl : xs.length + ys.length ≤ 1073741824)
    (hk : ∀ v1 w1, kCell.R w1 (fun k => S k ∨ (w.heap.size ≤ k ∧ k < w1.heap.size)) v1 (xs ++ ys) → Foot S w w1 → K (a.put o.dst v1) w1) : if Region.wanted o (yielded ops a.tmps) = true then Oper.wp Tryd.prog o a w K Q else E := by
  refine step_of hg (fun Q9 h9 => ?_)
  obtain ⟨_, _, _, h3⟩ := Kd.R_own HR
  refine Kd.W_cat kCell hg s x 23 (.agg #[.int .i64 0, .int .i64 0, .string ⟨#[]⟩]) 32 ho Tryd.underlying23 info_cell rfl (by decide) (by decide) v u xs ys S ok hs hx (kCell_R_W ok HR) (Kd.V_mono HV (fun k hk => ⟨hk, fun e => hd k hk (h3 k e.symm).1⟩) (by decide)) hl ?_
  intro v1 w1 hW hg1
  exact h9 _ _ (hk v1 w1 (Kd.R_mono (kCell_W_R hW) (fun k h1 h2 => h1.imp id (fun h => ⟨h, h2⟩))) (Foot.of_grown hg1 (fun k e => (h3 k e).1)))
end
end Go.Proofs.YtenigopoknajgaaDoor
