/- Contracts: TrlNew of the reference, SlvNew of the program. -/
import Derived.Test.YtenigopoknajgaaDoorNew
namespace Go.Proofs.YtenigopoknajgaaDoor
open Go.RowKit
set_option linter.unusedVariables false
set_option maxRecDepth 100000
theorem kSState_O {w : World} {S : Nat → Prop} {x : SState} {cs : List Value} (h : kSState.O w S x cs) : ∃ v1 v2 v4 v5 v6, ∃ S1 S5 : Nat → Prop, cs = [.int .i64 x.status, v1, v2, .int .i64 x.vars, v4, v5, v6] ∧ kSGoal.R w S1 v1 x.goals ∧ kCell.R w S5 v5 x.top ∧ (∃ A c, v2 = .slice A x.binds.length c) ∧ (∃ A c, v4 = .slice A x.choices.length c) ∧ (∃ A c, v6 = .slice A x.out.length c) ∧ (∀ k, S1 k → S k ∧ ¬ S5 k) ∧ (∀ k, S5 k → S k) := by
  obtain ⟨_, Sa, _, _, rfl, -, da, ⟨rfl, -⟩, S1, Sb, _, _, rfl, d1, db, ⟨v1, rfl, h1⟩, S2, Sc, _, _, rfl, -, dc, ⟨v2, rfl, h2⟩, _, Sd, _, _, rfl, -, dd, ⟨rfl, -⟩, S4, Se, _, _, rfl, -, de, ⟨v4, rfl, h4⟩, S5, S6, _, _, rfl, d5, -, ⟨v5, rfl, h5⟩, ⟨v6, rfl, h6⟩⟩ := h
  have g2 : ∃ A c, v2 = .slice A x.binds.length c := by obtain ⟨A, c, e, -⟩ := Kd.R_form h2; exact ⟨A, c, e⟩
  have g4 : ∃ A c, v4 = .slice A x.choices.length c := by obtain ⟨A, c, e, -⟩ := Kd.R_form h4; exact ⟨A, c, e⟩
  have g6 : ∃ A c, v6 = .slice A x.out.length c := by obtain ⟨A, c, e, -⟩ := Kd.R_form h6; exact ⟨A, c, e⟩
  exact ⟨v1, v2, v4, v5, v6, S1, S5, rfl, h1, h5, g2, g4, g6, fun k h => ⟨da k (d1 k h).1, fun e => (d1 k h).2 (dc k (dd k (de k (d5 k e).1)))⟩, fun k e => da k (db k (dc k (dd k (de k (d5 k e).1))))⟩
theorem kTState_part {w : World} {S1 S2 : Nat → Prop} {g : List SGoal} {s n : Int} {t : Term} {v1 v5 : Value} (h1 : kSGoal.R w S1 v1 g) (h5 : kCell.R w S2 v5 t) (d : ∀ k, S1 k → ¬ S2 k) :
    kTState.O w (fun k => S1 k ∨ S2 k) ⟨s, g, [], n, [], t, []⟩ [.int .i64 s, v1, .slice none 0 0, .int .i64 n, .slice none 0 0, v5, .slice none 0 0] :=
  ⟨fun _ => False, _, [.int .i64 s], _, rfl, fun k h => h.elim, fun k h => h, ⟨rfl, trivial⟩,
    S1, S2, [v1], _, rfl, fun k h => ⟨.inl h, d k h⟩, fun k h => .inr h, ⟨v1, rfl, h1⟩,
    fun _ => False, S2, [.slice none 0 0], _, rfl, fun k h => h.elim, fun k h => h, ⟨_, rfl, Kd.R_nil _ _ _⟩,
    fun _ => False, S2, [.int .i64 n], _, rfl, fun k h => h.elim, fun k h => h, ⟨rfl, trivial⟩,
    fun _ => False, S2, [.slice none 0 0], _, rfl, fun k h => h.elim, fun k h => h, ⟨_, rfl, Kd.R_nil _ _ _⟩,
    S2, fun _ => False, [v5], [.slice none 0 0], rfl, fun k h => ⟨h, id⟩, fun k h => h.elim, ⟨v5, rfl, h5⟩, ⟨_, rfl, Kd.R_nil _ _ _⟩⟩
theorem newT_of (t : Term) : newT t = ⟨(newS t).status, (newS t).goals, [], (newS t).vars, [], (newS t).top, []⟩ := by
  unfold newT newS
  split <;> rfl
set_option maxHeartbeats 4000000 in
theorem TrlNew_c (v : Value) (t : Term) (ok : Nat → Prop) (w : World) (hV : kCell.V w ok v t) :
    Calls Tryd.prog 9 #[v] w fun e w' => ∃ c : List Value, e = .returned (.agg c.toArray) ∧ kTState.O w' (fun k => w.heap.size ≤ k) (newT t) c ∧ Below w.heap.size w w' := by
  have B0 := Sec.mk (belA (Below.refl w.heap.size w) (.cells #[.int .i64 0, .slice none 0 0, .slice none 0 0, .int .i64 0, .slice none 0 0, .slice none 0 0, .slice none 0 0] 29))
  have RB0 := Sec.mk (heap_alloc_new w (.cells #[.int .i64 0, .slice none 0 0, .slice none 0 0, .int .i64 0, .slice none 0 0, .slice none 0 0, .slice none 0 0] 29))
  have V0 := Sec.mk (Kd.V_below hV B0.out (by decide))
  have Z0 : Sec ((w.alloc (.cells #[.int .i64 0, .slice none 0 0, .slice none 0 0, .int .i64 0, .slice none 0 0, .slice none 0 0, .slice none 0 0] 29)).heap.size = w.heap.size + 1) := ⟨by simp⟩
  have T0 : Sec True := ⟨trivial⟩
  obtain ⟨A9, c9, rfl, -⟩ := hV
  have hu := Tryd.underlying29
  have hu2 := Tryd.underlying35
  have HT := Sec.mk (newT_of t)
  have HS := Sec.mk (fun W (h : kCell.V W ok (.slice A9 t.length c9) t) => SlvNew_c _ t ok W h)
  generalize newT t = y at *
  generalize newS t = x at *
  go_enter Tryd.func9, Tryd.ntmps9
  go_wp2_with (first | (clear T0; go_at_call 21; have T1 : Sec True := ⟨trivial⟩; refine (HS.out _ V0.out).mono ?_; rintro e w1 ⟨c, rfl, hO, hb⟩; have Ho := Sec.mk (kSState.K_one (kSState.O_K hO)); obtain ⟨v1, v2, v4, v5, v6, S1, S5, rfl, h1, h5, ⟨Y2, l2, rfl⟩, ⟨Y4, l4, rfl⟩, ⟨Y6, l6, rfl⟩, d1, d5⟩ := kSState_O hO; obtain ⟨Y1, l1, rfl, -, -⟩ := Kd.R_form h1; obtain ⟨Y5, l5, rfl, -, -⟩ := Kd.R_form h5; have H1 := Sec.mk h1; have H5 := Sec.mk h5; have D1 := Sec.mk d1; have D5 := Sec.mk d5; have RB1 := Sec.mk ((hb.block _ (Array.getElem?_eq_some_iff.1 RB0.out).1).trans RB0.out); have B1 := Sec.mk (bel B0.out hb); have Z1 : Sec (w.heap.size < w1.heap.size) := ⟨Nat.lt_of_lt_of_le (by rw [Z0.out]; exact Nat.lt_succ_self _) hb.size⟩; clear hb h1 h5 d1 d5 hO) | (with_reducible show wpList _ _ _ (⟨none, .store 35 (.tmp 3) (.tmp 5), _, _, _, _⟩ :: _) _ _; refine wpList_store (cs := [.int .i64 x.status, .slice Y1 x.goals.length l1, .slice Y2 x.binds.length l2, .int .i64 x.vars, .slice Y4 x.choices.length l4, .slice Y5 x.top.length l5, .slice Y6 x.out.length l6]) (old := #[.int .i64 0, .slice none 0 0, .slice none 0 0, .int .i64 0, .slice none 0 0, .slice none 0 0, .slice none 0 0]) rfl 35 (.tmp 3) (.tmp 5) rfl rfl rfl (heap_alloc_new _ _) (by kernel_rfl) rfl Ho.out ?_; intro w7 hb7 hF7; have X := (box_at hb7).2.1; have x0 := X 0 _ rfl; have x1 := X 1 _ rfl; have x3 := X 3 _ rfl; have x5 := X 5 _ rfl; have HB7 : Sec (Below w1.heap.size w1 w7) := ⟨hF7.below (belA (Below.refl _ _) _) (fun k h => Nat.le_of_eq (show k = w1.heap.size from h).symm)⟩; have RB7 := Sec.mk ((HB7.out.block _ (Array.getElem?_eq_some_iff.1 RB1.out).1).trans RB1.out); have R1 := Sec.mk (Kd.R_below H1.out HB7.out); have R5 := Sec.mk (Kd.R_below H5.out HB7.out); have B7 := Sec.mk (bel B1.out HB7.out); have HO := Sec.mk (kTState_part (s := x.status) (n := x.vars) R1.out R5.out (fun k h => (D1.out k h).2)); clear hb7 hF7 X HB7) | (with_reducible show wpList _ _ _ (⟨none, .store 29 (.tmp 2) (.tmp 14), _, _, _, _⟩ :: _) _ _; refine wpList_store (cs := [.int .i64 x.status, .slice Y1 x.goals.length l1, .slice none 0 0, .int .i64 x.vars, .slice none 0 0, .slice Y5 x.top.length l5, .slice none 0 0]) rfl 29 (.tmp 2) (.tmp 14) rfl rfl rfl RB7.out (by kernel_rfl) rfl (kTState.K_one (kTState.O_K HO.out)) ?_; intro w8 hb8 hF8; have B8 := Sec.mk hb8; have F8 := Sec.mk hF8; clear hb8 hF8))
  refine bodyPost_ret (results_cell rfl rfl B8.out hu rfl (by kernel_rfl)) rfl ⟨_, rfl, ?_, ?_⟩
  · have hlow : ∀ k, (S1 k ∨ S5 k) → w.heap.size < k := fun k h => by
      have h2 : _ ≤ k := h.elim (fun h => (D1.out k h).1) (fun h => D5.out k h)
      rw [Z0.out] at h2
      omega
    rw [HT.out]
    exact kTState.O_mono (F8.out.O HO.out (fun k h e => by have := hlow k h; have h1 : k = w.heap.size := e; omega)) (fun k h _ => by have := hlow k h; omega)
  · exact F8.out.below B7.out (fun q h => by have h1 : q = w.heap.size := h; omega)
set_option maxHeartbeats 4000000 in
theorem SlvNew_i (v : Value) (t : Term) (ok : Nat → Prop) (w : World) (hV : kCell.V w ok v t) :
    Calls Tryd.prog 12 #[v] w fun e w' => ∃ c : List Value, e = .returned (.agg c.toArray) ∧ kSState.O w' (fun k => w.heap.size ≤ k) (newS t) c ∧ Below w.heap.size w w' := by
  have B0 := Sec.mk (belA (Below.refl w.heap.size w) (.cells #[.int .i64 0, .slice none 0 0, .slice none 0 0, .int .i64 0, .slice none 0 0, .slice none 0 0, .slice none 0 0] 35))
  have RB0 := Sec.mk (heap_alloc_new w (.cells #[.int .i64 0, .slice none 0 0, .slice none 0 0, .int .i64 0, .slice none 0 0, .slice none 0 0, .slice none 0 0] 35))
  have V0 := Sec.mk (Kd.V_below hV B0.out (by decide))
  have Z0 : Sec ((w.alloc (.cells #[.int .i64 0, .slice none 0 0, .slice none 0 0, .int .i64 0, .slice none 0 0, .slice none 0 0, .slice none 0 0] 35)).heap.size = w.heap.size + 1) := ⟨by simp⟩
  have T0 : Sec True := ⟨trivial⟩
  obtain ⟨A9, c9, rfl, -⟩ := hV
  have hu := Tryd.underlying35
  go_enter Tryd.func12, Tryd.ntmps12
  go_wp2_with (first | (clear T0; go_at_call 7; have T1 : Sec True := ⟨trivial⟩; refine (TrlNew_i _ t ok _ V0.out).mono ?_; rintro e w1 ⟨c, rfl, hO, hb⟩; have H1 := Sec.mk (kTState.O_K hO); have RB1 := Sec.mk ((hb.block _ (Array.getElem?_eq_some_iff.1 RB0.out).1).trans RB0.out); have B1 := Sec.mk (bel B0.out hb); have Z1 : Sec (w.heap.size < w1.heap.size) := ⟨Nat.lt_of_lt_of_le (by rw [Z0.out]; exact Nat.lt_succ_self _) hb.size⟩; clear hb hO) | (clear T1; go_at_call 11; have T2 : Sec True := ⟨trivial⟩; refine (TrlView_i (newT t) c _ _ H1.out).mono ?_; rw [tview_newT]; rintro e w2 ⟨c2, rfl, hO, hb⟩; have HO := Sec.mk hO; have hlen := Sec.mk (kSState.K_len (kSState.O_K hO)); have RB2 := Sec.mk ((hb.block _ (Array.getElem?_eq_some_iff.1 RB1.out).1).trans RB1.out); have B2 := Sec.mk (bel B1.out hb); clear hb hO) | (with_reducible show wpList _ _ _ (⟨none, .store 35 (.tmp 2) (.tmp 5), _, _, _, _⟩ :: _) _ _; refine wpList_store (cs := c2) rfl 35 (.tmp 2) (.tmp 5) rfl rfl rfl RB2.out (by rw [hlen.out]; kernel_rfl) (by rw [hlen.out]; kernel_rfl) (kSState.K_one (kSState.O_K HO.out)) ?_; intro w8 hb8 hF8; have B8 := Sec.mk hb8; have F8 := Sec.mk hF8; clear hb8 hF8))
  refine bodyPost_ret (results_cell rfl rfl B8.out hu rfl (by rw [hlen.out]; kernel_rfl)) rfl ⟨_, rfl, ?_, ?_⟩
  · exact kSState.O_mono (F8.out.O HO.out (fun k h e => by have h1 : k = w.heap.size := e; have := Z1.out; omega)) (fun k h _ => by have := Z1.out; omega)
  · exact F8.out.below B2.out (fun q h => by have h1 : q = w.heap.size := h; omega)
end Go.Proofs.YtenigopoknajgaaDoor
