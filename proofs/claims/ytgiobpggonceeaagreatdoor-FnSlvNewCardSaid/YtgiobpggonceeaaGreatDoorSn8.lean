/- Contracts: solving and its trail at their beginning; and what goes with it. -/
import Derived.Test.YtgiobpggonceeaaGreatDoorSn2
import Derived.Test.YtgiobpggonceeaaGreatDoorSn5
import Derived.Test.YtgiobpggonceeaaGreatDoorSn7
namespace Go.Proofs.YtgiobpggonceeaaGreatDoor
section
open Go.RowKit
set_option linter.unusedVariables false
set_option maxRecDepth 100000
def firstG (t : Term) : SGoal := ⟨⟨1, t, [], []⟩, 0⟩
def newS (t : Term) : SState := if question t = true then ⟨1, [firstG t], [], (free t).length, [], t, []⟩ else zeroSState
def newT (t : Term) : TState := if question t = true then ⟨1, [firstG t], [], (free t).length, [], t, []⟩ else zeroTState
theorem tview_newT (t : Term) : tview (newT t) = newS t := by
  unfold newT newS
  split <;> rfl
theorem kGoal_new {w : World} {S : Nat → Prop} {t : Term} {v : Value} (h : kCell.R w S v t) : kGoal.O w S ⟨1, t, [], []⟩ [.int .i64 1, v, .slice none 0 0, .slice none 0 0] :=
  ⟨fun _ => False, S, [.int .i64 1], _, rfl, fun k h => h.elim, fun k h => h, ⟨rfl, trivial⟩,
    S, fun _ => False, [v], _, rfl, fun k h => ⟨h, id⟩, fun k h => h.elim, ⟨v, rfl, h⟩,
    fun _ => False, fun _ => False, [.slice none 0 0], [.slice none 0 0], rfl, fun k h => h.elim, fun k h => h, ⟨_, rfl, Kd.R_nil _ _ _⟩, ⟨_, rfl, Kd.R_nil _ _ _⟩⟩
theorem kSGoal_new {w : World} {S : Nat → Prop} {t : Term} {v : Value} (h : kCell.R w S v t) : kSGoal.O w S (firstG t) [.int .i64 1, v, .slice none 0 0, .slice none 0 0, .int .i64 0] :=
  ⟨S, fun _ => False, [.int .i64 1, v, .slice none 0 0, .slice none 0 0], [.int .i64 0], rfl, fun k h => ⟨h, id⟩, fun k h => h.elim, kGoal_new h, ⟨rfl, trivial⟩⟩
theorem kSState_new {w : World} {S1 S2 : Nat → Prop} {g : List SGoal} {n : Int} {t : Term} {v1 v5 : Value} (h1 : kSGoal.R w S1 v1 g) (h5 : kCell.R w S2 v5 t) (d : ∀ k, S1 k → ¬ S2 k) :
    kSState.O w (fun k => S1 k ∨ S2 k) ⟨1, g, [], n, [], t, []⟩ [.int .i64 1, v1, .slice none 0 0, .int .i64 n, .slice none 0 0, v5, .slice none 0 0] :=
  ⟨fun _ => False, _, [.int .i64 1], _, rfl, fun k h => h.elim, fun k h => h, ⟨rfl, trivial⟩,
    S1, S2, [v1], _, rfl, fun k h => ⟨.inl h, d k h⟩, fun k h => .inr h, ⟨v1, rfl, h1⟩,
    fun _ => False, S2, [.slice none 0 0], _, rfl, fun k h => h.elim, fun k h => h, ⟨_, rfl, Kd.R_nil _ _ _⟩,
    fun _ => False, S2, [.int .i64 n], _, rfl, fun k h => h.elim, fun k h => h, ⟨rfl, trivial⟩,
    fun _ => False, S2, [.slice none 0 0], _, rfl, fun k h => h.elim, fun k h => h, ⟨_, rfl, Kd.R_nil _ _ _⟩,
    S2, fun _ => False, [v5], [.slice none 0 0], rfl, fun k h => ⟨h, id⟩, fun k h => h.elim, ⟨v5, rfl, h5⟩, ⟨_, rfl, Kd.R_nil _ _ _⟩⟩
theorem kTState_new {w : World} {S1 S2 : Nat → Prop} {g : List SGoal} {n : Int} {t : Term} {v1 v5 : Value} (h1 : kSGoal.R w S1 v1 g) (h5 : kCell.R w S2 v5 t) (d : ∀ k, S1 k → ¬ S2 k) :
    kTState.O w (fun k => S1 k ∨ S2 k) ⟨1, g, [], n, [], t, []⟩ [.int .i64 1, v1, .slice none 0 0, .int .i64 n, .slice none 0 0, v5, .slice none 0 0] :=
  ⟨fun _ => False, _, [.int .i64 1], _, rfl, fun k h => h.elim, fun k h => h, ⟨rfl, trivial⟩,
    S1, S2, [v1], _, rfl, fun k h => ⟨.inl h, d k h⟩, fun k h => .inr h, ⟨v1, rfl, h1⟩,
    fun _ => False, S2, [.slice none 0 0], _, rfl, fun k h => h.elim, fun k h => h, ⟨_, rfl, Kd.R_nil _ _ _⟩,
    fun _ => False, S2, [.int .i64 n], _, rfl, fun k h => h.elim, fun k h => h, ⟨rfl, trivial⟩,
    fun _ => False, S2, [.slice none 0 0], _, rfl, fun k h => h.elim, fun k h => h, ⟨_, rfl, Kd.R_nil _ _ _⟩,
    S2, fun _ => False, [v5], [.slice none 0 0], rfl, fun k h => ⟨h, id⟩, fun k h => h.elim, ⟨v5, rfl, h5⟩, ⟨_, rfl, Kd.R_nil _ _ _⟩⟩
theorem foot_V0 {α : Type} {d : Kd α} {T ok : Nat → Prop} {w W : World} {v : Value} {xs : List α} (h : Foot T w W) (hT : ∀ k, ok k → ¬ T k) (hV : d.V w ok v xs) (hp : 0 < d.sz) : d.V W ok v xs :=
  Kd.V_move (w := w) (fun k h1 h2 => ⟨h1, h.block k h2 (hT k h1)⟩) hV hp
/-- A struct of one's own, at hand. -/
def onOd {α : Type} (d : Kd α) (x : α) (cs : List Value) : On := fun _ S w => d.O w S x cs
theorem stab_Od {α : Type} {n0 : Nat} {T : Nat → Prop} (d : Kd α) (x : α) (cs : List Value) : (Ass.mk [] (onOd d x cs)).Stab n0 T := fun val val' S w w' h hs hk _ => d.O_move (fun k h1 h2 => ⟨h1, hk k (.inl h1) h2⟩) h

set_option maxHeartbeats 4000000 in
theorem SlvNew_c (v : Value) (t : Term) (ok0 : Nat → Prop) (w : World) (hV0 : kCell.V w ok0 v t) :
    Calls Tryz.prog 11 #[v] w fun e w' => ∃ c : List Value, e = .returned (.agg c.toArray) ∧ kSState.O w' (fun k => w.heap.size ≤ k) (newS t) c ∧ Below w.heap.size w w' := by
  obtain ⟨ok, hok, hV⟩ : ∃ ok : Nat → Prop, (∀ k, ok k → k < w.heap.size) ∧ kCell.V w ok v t := ⟨fun k => ok0 k ∧ k < w.heap.size, fun k h => h.2, Kd.V_move (fun k h1 h2 => ⟨⟨h1, h2⟩, rfl⟩) hV0 (by decide)⟩
  clear hV0
  have HOK := Sec.mk hok
  have B0 := Sec.mk (belA (Below.refl w.heap.size w) (.cells #[.int .i64 0, .slice none 0 0, .slice none 0 0, .int .i64 0, .slice none 0 0, .slice none 0 0, .slice none 0 0] 34))
  have RB0 := Sec.mk (heap_alloc_new w (.cells #[.int .i64 0, .slice none 0 0, .slice none 0 0, .int .i64 0, .slice none 0 0, .slice none 0 0, .slice none 0 0] 34))
  have V0 := Sec.mk (Kd.V_below hV B0.out (by decide))
  have Z0 : Sec ((w.alloc (.cells #[.int .i64 0, .slice none 0 0, .slice none 0 0, .int .i64 0, .slice none 0 0, .slice none 0 0, .slice none 0 0] 34)).heap.size = w.heap.size + 1) := ⟨by simp⟩
  have LT : Sec (t.length ≤ 1073741824) := ⟨by obtain ⟨_, _, _, _, _, h, _⟩ := hV; exact h⟩
  have T0 : Sec True := ⟨trivial⟩
  obtain ⟨A9, c9, rfl, -⟩ := hV
  have hu := Tryz.underlying34
  have hu2 := Tryz.underlying102
  have hnT : ∀ k, ok k → ¬ k = w.heap.size := fun k h e => by have := hok k h; omega
  have HNT := Sec.mk hnT
  clear hok hnT
  cases hq : question t with
  | false =>
    have HQ := Sec.mk hq
    have hn : Sec (newS t = zeroSState) := ⟨if_neg (by rw [hq]; decide)⟩
    clear hq
    go_enter Tryz.func11, Tryz.ntmps11
    go_wp2_with (first | (clear T0; go_at_call 51; have T1 : Sec True := ⟨trivial⟩; refine (l4Top_c _ t ok _ V0.out (fun q h => by have := HOK.out q h; have := Z0.out; omega)).mono ?_; rw [HQ.out]; rintro e w1 ⟨rfl, hb⟩; have RB1 := Sec.mk ((hb.block _ (Array.getElem?_eq_some_iff.1 RB0.out).1).trans RB0.out); have V1 := Sec.mk (Kd.V_below V0.out hb (by decide)); have B1 := Sec.mk (bel B0.out hb); have Z1 : Sec (w.heap.size < w1.heap.size) := ⟨Nat.lt_of_lt_of_le (by rw [Z0.out]; exact Nat.lt_succ_self _) hb.size⟩; clear hb V0; have V0 := V1; clear V1) | (with_reducible show wpList _ _ _ (⟨none, .store 34 (.tmp 2) (.tmp 6), _, _, _, _⟩ :: _) _ _; refine wpList_store (cs := [.int .i64 0, .slice none 0 0, .slice none 0 0, .int .i64 0, .slice none 0 0, .slice none 0 0, .slice none 0 0]) rfl 34 (.tmp 2) (.tmp 6) rfl rfl rfl RB1.out (by kernel_rfl) rfl (kSState.K_one (kSState.O_K (kSState_zero w))) ?_; intro w8 hb8 hF8; have B8 := Sec.mk hb8; have F8 := Sec.mk hF8; clear hb8 hF8))
    refine bodyPost_ret (results_cell rfl rfl B8.out hu rfl (by kernel_rfl)) rfl ⟨_, rfl, ?_, ?_⟩
    · rw [hn.out]; exact kSState.O_mono (kSState_zero _) (fun _ h _ => h.elim)
    · exact F8.out.below B1.out (fun q h => by have h1 : q = w.heap.size := h; omega)
  | true =>
    have HQ := Sec.mk hq
    have hn : Sec (newS t = (⟨1, [firstG t], [], (free t).length, [], t, []⟩ : SState)) := ⟨if_pos hq⟩
    clear hq
    go_enter Tryz.func11, Tryz.ntmps11
    go_wp2_with (first | (clear T0; go_at_call 51; have T1 : Sec True := ⟨trivial⟩; refine (l4Top_c _ t ok _ V0.out (fun q h => by have := HOK.out q h; have := Z0.out; omega)).mono ?_; rw [HQ.out]; rintro e w1 ⟨rfl, hb⟩; have RB1 := Sec.mk ((hb.block _ (Array.getElem?_eq_some_iff.1 RB0.out).1).trans RB0.out); have V1 := Sec.mk (Kd.V_below V0.out hb (by decide)); have B1 := Sec.mk (bel B0.out hb); have Z1 : Sec (w.heap.size < w1.heap.size) := ⟨Nat.lt_of_lt_of_le (by rw [Z0.out]; exact Nat.lt_succ_self _) hb.size⟩; clear hb V0; have V0 := V1; clear V1) | (with_reducible show wpList _ _ _ (⟨some 7, _, _, _, _, _⟩ :: _) _ _; refine Sec.out ?_))
    refine ⟨?_⟩
    have hnT := HNT.out
    refine wpList_lists [[7], [8], [9], [10], [11], [12], [13], [14], [15], [16], [17], [18], [19], [2], [2]]
      [onR kCell 7 [],
        fun val _ _ => val 8 = .slice A9 t.length c9,
        onR kCell 9 t,
        onO kGoal 10 ⟨1, t, [], []⟩,
        onO kSGoal 11 (firstG t),
        onR kSGoal 12 [firstG t],
        fun val _ _ => val 13 = .slice A9 t.length c9,
        onR kInt 14 (free t),
        fun val _ _ => val 15 = .int .i64 (free t).length,
        onR kCell 16 [],
        fun val _ _ => val 17 = .slice A9 t.length c9,
        onR kCell 18 t,
        onO kSState 19 (⟨1, [firstG t], [], (free t).length, [], t, []⟩ : SState),
        onPtr kSState 2 34 (⟨1, [firstG t], [], (free t).length, [], t, []⟩ : SState),
        onBox 2 #[.int .i64 0, .slice none 0 0, .slice none 0 0, .int .i64 0, .slice none 0 0, .slice none 0 0, .slice none 0 0] 34]
      [[], [], [0], [2], [3], [4], [], [], [], [], [], [9], [5, 11], [14, 12], []] 1 (fun k => k = w.heap.size) (fun i k => i = 14 ∧ k = w.heap.size) ⟨by kernel_rfl, by kernel_rfl, by kernel_rfl, by kernel_rfl, by kernel_rfl⟩
      (.cons (stab_R kCell 7 []) (.cons (stab_val 8 (fun v => v = .slice A9 t.length c9)) (.cons (stab_R kCell 9 t) (.cons (stab_O kGoal 10 ⟨1, t, [], []⟩) (.cons (stab_O kSGoal 11 (firstG t)) (.cons (stab_R kSGoal 12 [firstG t]) (.cons (stab_val 13 (fun v => v = .slice A9 t.length c9)) (.cons (stab_R kInt 14 (free t)) (.cons (stab_val 15 (fun v => v = .int .i64 (free t).length)) (.cons (stab_R kCell 16 []) (.cons (stab_val 17 (fun v => v = .slice A9 t.length c9)) (.cons (stab_R kCell 18 t) (.cons (stab_O kSState 19 (⟨1, [firstG t], [], (free t).length, [], t, []⟩ : SState)) (.cons (stab_ptr kSState 2 34 (⟨1, [firstG t], [], (free t).length, [], t, []⟩ : SState)) (.cons (stab_box 2 #[.int .i64 0, .slice none 0 0, .slice none 0 0, .int .i64 0, .slice none 0 0, .slice none 0 0, .slice none 0 0] 34) .nil)))))))))))))))
      (fun i j k h1 h2 => h1.1.trans h2.1.symm) (fun i k h => ⟨by simp only [List.length]; omega, h.2, by have := Z1.out; omega⟩) (fun i h1 h2 => by obtain rfl : i = 14 := (by simp only [List.length] at h1 h2; omega); exact ⟨w.heap.size, rfl, RB1.out, rfl, rfl⟩) (.cons ?_ (.cons ?_ (.cons ?_ (.cons ?_ (.cons ?_ (.cons ?_ (.cons ?_ (.cons ?_ (.cons ?_ (.cons ?_ (.cons ?_ (.cons ?_ (.cons ?_ (.cons ?_ .nil)))))))))))))) ?_
    · intro a W own hfor huse hap hmi hF K hK
      refine op_val (.slice (some ⟨W.heap.size, 0, none⟩) 0 0) (W.alloc (.cells #[] kCell.ty)) rfl ?_ (hK _ _ (post_new (belA (Below.refl _ _) _) ?_))
      · clear hfor huse hap hmi hK hF
        generalize a.eval = ρ at *
        go_simp
        try rfl
      · show kCell.R _ _ (if _ then _ else _) []
        rw [if_pos rfl]
        exact Kd.R_mono (Kd.R_empty (w := W) kCell (Nat.le_refl _)) (fun k h1 h2 => ⟨h1, h2⟩)
    · intro a W own hfor huse hap hmi hF K hK
      have e0 : a.eval (.tmp 0) = .slice A9 t.length c9 := hfor 0 (by kernel_rfl)
      refine op_val (.slice A9 t.length c9) W rfl ?_ (hK _ _ (post_pure ?_))
      · clear hfor huse hap hmi hK hF
        generalize a.eval = ρ at *
        go_simp
      · exact (if_pos rfl)
    · intro a W own hfor huse hap hmi hF K hK
      have e8 : a.eval (.tmp 8) = .slice A9 t.length c9 := huse 1 (by kernel_rfl)
      have r0 : kCell.R W (own 0) (a.eval (.tmp 7)) [] := huse 0 (by kernel_rfl)
      have hV := foot_V0 hF hnT V0.out (by decide)
      refine step_cells rfl (.tmp 7) (.tmp 8) rfl rfl e8 r0 hV ?_ ?_ (fun v1 w1 hR hF1 => hK _ _ ⟨fun k => own 0 k ∨ (W.heap.size ≤ k ∧ k < w1.heap.size), Foot.mono hF1 (fun k h => ⟨0, by decide, h⟩), ?_, fun k h => Or.imp (fun h => ⟨0, by decide, h⟩) id h⟩)
      · exact fun k h1 h2 => by have h3 := (hmi 0 k h2).1; have h4 := HOK.out k h1; have z0 := Z1.out; (try simp only [] at h3); omega
      · have := LT.out; simpa using this
      · show kCell.R _ _ (if _ then _ else _) t
        rw [if_pos rfl]
        exact hR
    · intro a W own hfor huse hap hmi hF K hK
      have r2 : kCell.R W (own 2) (a.eval (.tmp 9)) t := huse 2 (by kernel_rfl)
      obtain ⟨A2, n2, e9, -, -⟩ := Kd.R_form r2
      rw [e9] at r2
      have ec : a.eval (.const (.int .i64 1)) = .int .i64 1 := rfl
      refine op_val (.agg #[.int .i64 1, .slice A2 t.length n2, .slice none 0 0, .slice none 0 0]) W rfl ?_ (hK _ _ ⟨fun k => own 2 k, Foot.refl _ _, ⟨[.int .i64 1, .slice A2 t.length n2, .slice none 0 0, .slice none 0 0], if_pos rfl, kGoal_new r2⟩, ?_⟩)
      · clear hfor huse hap hmi hK hF
        generalize a.eval = ρ at *
        go_simp
      · exact fun k h => .inl ⟨2, by decide, h⟩
    · intro a W own hfor huse hap hmi hF K hK
      obtain ⟨cs3, e10, r3⟩ := (huse 3 (by kernel_rfl) : onO kGoal 10 ⟨1, t, [], []⟩ (slotsOf a) (own 3) W)
      have e10 : a.eval (.tmp 10) = .agg cs3.toArray := e10
      obtain ⟨va, vb, vc, rfl, ⟨Da, da, rfl, -⟩, ⟨Db, db, rfl, -⟩, ⟨Dc, dc, rfl, -⟩⟩ := kGoal_K (kGoal.O_K r3)
      simp only [List.length_nil] at e10 r3
      refine op_val (.agg #[.int .i64 1, .slice Da t.length da, .slice Db 0 db, .slice Dc 0 dc, .int .i64 0]) W rfl ?_ (hK _ _ ⟨fun k => own 3 k, Foot.refl _ _, ⟨[.int .i64 1, .slice Da t.length da, .slice Db 0 db, .slice Dc 0 dc, .int .i64 0], if_pos rfl, ⟨own 3, fun _ => False, [.int .i64 1, .slice Da t.length da, .slice Db 0 db, .slice Dc 0 dc], [.int .i64 0], rfl, fun k h => ⟨h, id⟩, fun k h => h.elim, r3, ⟨rfl, trivial⟩⟩⟩, ?_⟩)
      · clear hfor huse hap hmi hK hF
        generalize a.eval = ρ at *
        go_simp
      · exact fun k h => .inl ⟨3, by decide, h⟩
    · intro a W own hfor huse hap hmi hF K hK
      obtain ⟨cs4, e11, r4⟩ := (huse 4 (by kernel_rfl) : onO kSGoal 11 (firstG t) (slotsOf a) (own 4) W)
      have e11 : a.eval (.tmp 11) = .agg cs4.toArray := e11
      have hlen := kSGoal.K_len (kSGoal.O_K r4)
      refine step_box rfl 30 102 (.tmp 11) rfl e11 Tryz.underlying30 info_SGoal hlen (by decide) (by decide) (hK _ _ ⟨fun k => own 4 k ∨ (W.heap.size ≤ k ∧ k < (W.alloc (.cells cs4.toArray 102)).heap.size), Foot.of_below (belA (Below.refl _ _) _), ?_, fun k h => Or.imp (fun h => ⟨4, by decide, h⟩) id h⟩)
      show kSGoal.R _ _ (if _ then _ else _) [firstG t]
      rw [if_pos rfl]
      exact Kd.R_of_one kSGoal (heap_alloc_new W _) (.inr ⟨Nat.le_refl _, by simp⟩) (Kd.O_mono (Kd.O_below r4 (belA (Below.refl _ _) _)) (fun k h _ => ⟨.inl h, fun e => by have h1 := (hmi 4 k h).2; omega⟩))
    · intro a W own hfor huse hap hmi hF K hK
      have e0 : a.eval (.tmp 0) = .slice A9 t.length c9 := hfor 0 (by kernel_rfl)
      refine op_val (.slice A9 t.length c9) W rfl ?_ (hK _ _ (post_pure ?_))
      · clear hfor huse hap hmi hK hF
        generalize a.eval = ρ at *
        go_simp
      · exact (if_pos rfl)
    · intro a W own hfor huse hap hmi hF K hK
      have e13 : a.eval (.tmp 13) = .slice A9 t.length c9 := huse 6 (by kernel_rfl)
      have efn : a.eval (.func 52) = .func (.func 52) #[] #[] := rfl
      refine op_call (f := 52) (args := #[.slice A9 t.length c9]) (fun v w1 => kInt.R w1 (fun k => W.heap.size ≤ k) v (free t) ∧ Below W.heap.size W w1) rfl ?_ ?_ (fun v w1 h => ?_)
      · clear hfor huse hap hmi hK hF
        generalize a.eval = ρ at *
        go_simp
      · exact (TrmFree_c _ t ok W (foot_V0 hF hnT V0.out (by decide))).mono (by rintro e w1 ⟨u, rfl, h1, h2⟩; exact ⟨_, rfl, h1, h2⟩)
      · obtain ⟨h1, h2⟩ := h
        exact hK _ _ (post_new h2 (by show kInt.R _ _ (if _ then _ else _) (free t); rw [if_pos rfl]; exact Kd.R_mono h1 (fun k h3 h4 => ⟨h3, h4⟩)))
    · intro a W own hfor huse hap hmi hF K hK
      have r7 : kInt.R W (own 7) (a.eval (.tmp 14)) (free t) := huse 7 (by kernel_rfl)
      obtain ⟨A7, n7, e14, -, -⟩ := Kd.R_form r7
      rw [e14] at r7
      refine op_val (.int .i64 (free t).length) W rfl ?_ (hK _ _ (post_pure ?_))
      · clear hfor huse hap hmi hK hF
        generalize a.eval = ρ at *
        go_simp
      · exact (if_pos rfl)
    · intro a W own hfor huse hap hmi hF K hK
      refine op_val (.slice (some ⟨W.heap.size, 0, none⟩) 0 0) (W.alloc (.cells #[] kCell.ty)) rfl ?_ (hK _ _ (post_new (belA (Below.refl _ _) _) ?_))
      · clear hfor huse hap hmi hK hF
        generalize a.eval = ρ at *
        go_simp
        try rfl
      · show kCell.R _ _ (if _ then _ else _) []
        rw [if_pos rfl]
        exact Kd.R_mono (Kd.R_empty (w := W) kCell (Nat.le_refl _)) (fun k h1 h2 => ⟨h1, h2⟩)
    · intro a W own hfor huse hap hmi hF K hK
      have e0 : a.eval (.tmp 0) = .slice A9 t.length c9 := hfor 0 (by kernel_rfl)
      refine op_val (.slice A9 t.length c9) W rfl ?_ (hK _ _ (post_pure ?_))
      · clear hfor huse hap hmi hK hF
        generalize a.eval = ρ at *
        go_simp
      · exact (if_pos rfl)
    · intro a W own hfor huse hap hmi hF K hK
      have e17 : a.eval (.tmp 17) = .slice A9 t.length c9 := huse 10 (by kernel_rfl)
      have r0 : kCell.R W (own 9) (a.eval (.tmp 16)) [] := huse 9 (by kernel_rfl)
      have hV := foot_V0 hF hnT V0.out (by decide)
      refine step_cells rfl (.tmp 16) (.tmp 17) rfl rfl e17 r0 hV ?_ ?_ (fun v1 w1 hR hF1 => hK _ _ ⟨fun k => own 9 k ∨ (W.heap.size ≤ k ∧ k < w1.heap.size), Foot.mono hF1 (fun k h => ⟨9, by decide, h⟩), ?_, fun k h => Or.imp (fun h => ⟨9, by decide, h⟩) id h⟩)
      · exact fun k h1 h2 => by have h3 := (hmi 9 k h2).1; have h4 := HOK.out k h1; have z0 := Z1.out; (try simp only [] at h3); omega
      · have := LT.out; simpa using this
      · show kCell.R _ _ (if _ then _ else _) t
        rw [if_pos rfl]
        exact hR
    · intro a W own hfor huse hap hmi hF K hK
      have e15 : a.eval (.tmp 15) = .int .i64 (free t).length := huse 8 (by kernel_rfl)
      have r5 : kSGoal.R W (own 5) (a.eval (.tmp 12)) [firstG t] := huse 5 (by kernel_rfl)
      obtain ⟨A5, n5, e12, -, -⟩ := Kd.R_form r5
      rw [e12] at r5
      have r11 : kCell.R W (own 11) (a.eval (.tmp 18)) t := huse 11 (by kernel_rfl)
      obtain ⟨A11, n11, e18, -, -⟩ := Kd.R_form r11
      rw [e18] at r11
      have e12 : a.eval (.tmp 12) = .slice A5 1 n5 := e12
      have ec : a.eval (.const (.int .i64 1)) = .int .i64 1 := rfl
      refine op_val (.agg #[.int .i64 1, .slice A5 1 n5, .slice none 0 0, .int .i64 (free t).length, .slice none 0 0, .slice A11 t.length n11, .slice none 0 0]) W rfl ?_ (hK _ _ ⟨fun k => own 5 k ∨ own 11 k, Foot.refl _ _, ⟨[.int .i64 1, .slice A5 1 n5, .slice none 0 0, .int .i64 (free t).length, .slice none 0 0, .slice A11 t.length n11, .slice none 0 0], if_pos rfl, kSState_new r5 r11 (fun k h1 h2 => by have := hap 5 11 k h1 h2; omega)⟩, ?_⟩)
      · clear hfor huse hap hmi hK hF
        generalize a.eval = ρ at *
        go_simp
      · intro k h
        left
        rcases h with h | h
        · exact ⟨5, by decide, h⟩
        · exact ⟨11, by decide, h⟩
    · intro a W own hfor huse hap hmi hF K hK
      obtain ⟨g, e2, hb, hSg⟩ := (huse 14 (by kernel_rfl) : onBox 2 #[.int .i64 0, .slice none 0 0, .slice none 0 0, .int .i64 0, .slice none 0 0, .slice none 0 0, .slice none 0 0] 34 (slotsOf a) (own 14) W)
      have e2 : a.eval (.tmp 2) = .pointer (some ⟨g, 0, none⟩) := e2
      obtain ⟨cs12, e19, r12⟩ := (huse 12 (by kernel_rfl) : onO kSState 19 (⟨1, [firstG t], [], (free t).length, [], t, []⟩ : SState) (slotsOf a) (own 12) W)
      have e19 : a.eval (.tmp 19) = .agg cs12.toArray := e19
      have hlen := kSState.K_len (kSState.O_K r12)
      refine step_store rfl 34 (.tmp 2) (.tmp 19) rfl e2 e19 hb (by rw [hlen]; kernel_rfl) (by rw [hlen]; rfl) (kSState.K_one (kSState.O_K r12)) (fun w1 hb1 hF1 => hK _ _ ⟨fun k => own 14 k ∨ own 12 k, Foot.mono hF1 (fun k e => ⟨14, by decide, e ▸ hSg⟩), ?_, ?_⟩)
      · exact ⟨g, cs12, e2, hb1, .inl hSg, Kd.O_mono (hF1.O r12 (fun k h1 h2 => by have := hap 14 12 g hSg (h2 ▸ h1); omega)) (fun k h _ => ⟨.inr h, fun e => by have := hap 14 12 g hSg (e ▸ h); omega⟩)⟩
      · intro k h
        left
        rcases h with h | h
        · exact ⟨14, by decide, h⟩
        · exact ⟨12, by decide, h⟩
    intro a' W own hf
    have hsz := hf.st.size
    have hdf := hf.st.rest
    obtain ⟨⟨l⟩, df⟩ := a'
    have hl0 : l.length = 20 := hsz
    clear hsz
    obtain rfl : df = [] := hdf
    obtain ⟨x0, l0, rfl, hl1⟩ := lst_cons hl0
    clear hl0
    obtain ⟨x1, l1, rfl, hl2⟩ := lst_cons hl1
    clear hl1
    obtain ⟨x2, l2, rfl, hl3⟩ := lst_cons hl2
    clear hl2
    obtain ⟨x3, l3, rfl, hl4⟩ := lst_cons hl3
    clear hl3
    obtain ⟨x4, l4, rfl, hl5⟩ := lst_cons hl4
    clear hl4
    obtain ⟨x5, l5, rfl, hl6⟩ := lst_cons hl5
    clear hl5
    obtain ⟨x6, l6, rfl, hl7⟩ := lst_cons hl6
    clear hl6
    obtain ⟨x7, l7, rfl, hl8⟩ := lst_cons hl7
    clear hl7
    obtain ⟨x8, l8, rfl, hl9⟩ := lst_cons hl8
    clear hl8
    obtain ⟨x9, l9, rfl, hl10⟩ := lst_cons hl9
    clear hl9
    obtain ⟨x10, l10, rfl, hl11⟩ := lst_cons hl10
    clear hl10
    obtain ⟨x11, l11, rfl, hl12⟩ := lst_cons hl11
    clear hl11
    obtain ⟨x12, l12, rfl, hl13⟩ := lst_cons hl12
    clear hl12
    obtain ⟨x13, l13, rfl, hl14⟩ := lst_cons hl13
    clear hl13
    obtain ⟨x14, l14, rfl, hl15⟩ := lst_cons hl14
    clear hl14
    obtain ⟨x15, l15, rfl, hl16⟩ := lst_cons hl15
    clear hl15
    obtain ⟨x16, l16, rfl, hl17⟩ := lst_cons hl16
    clear hl16
    obtain ⟨x17, l17, rfl, hl18⟩ := lst_cons hl17
    clear hl17
    obtain ⟨x18, l18, rfl, hl19⟩ := lst_cons hl18
    clear hl18
    obtain ⟨x19, l19, rfl, hl20⟩ := lst_cons hl19
    clear hl19
    obtain rfl := List.eq_nil_of_length_eq_zero hl20
    have e0 := hf.st.kept 0 (by kernel_rfl)
    simp only [slotsOf, Act.eval, Array.getD_eq_getD_getElem?, List.getElem?_toArray, List.getElem?_cons_zero, Option.getD_some] at e0
    subst e0
    have e2 := hf.st.kept 2 (by kernel_rfl)
    simp only [slotsOf, Act.eval, Array.getD_eq_getD_getElem?, List.getElem?_toArray, List.getElem?_cons_succ, List.getElem?_cons_zero, Option.getD_some] at e2
    subst e2
    obtain ⟨g, cs, h0, hb, hSg, hO⟩ := hf.at 13 (onPtr kSState 2 34 (⟨1, [firstG t], [], (free t).length, [], t, []⟩ : SState)) rfl (by kernel_rfl)
    have h0 : (Value.pointer (some ⟨w.heap.size, 0, none⟩)) = .pointer (some ⟨g, 0, none⟩) := h0
    obtain rfl : w.heap.size = g := by injection h0 with h0; injection h0 with h0; injection h0
    have HB := Sec.mk hb
    have hlen := kSState.K_len (kSState.O_K hO)
    have hlow : ∀ k, (own 13 k ∧ k ≠ w.heap.size) → w.heap.size ≤ k := fun k h => by have := hf.st.mine 13 k h.1; rcases this.1 with h1 | h1; (have := Z1.out; omega); (have h2 : k = w.heap.size := h1; omega)
    have HO := Sec.mk (kSState.O_mono hO (fun k h _ => hlow k h))
    have HF := Sec.mk (hf.st.foot.below B1.out (fun k h => Nat.le_of_eq (show k = w.heap.size from h).symm))
    clear hf hb hO hlow h0 hSg
    go_wp2
    refine bodyPost_ret (results_cell rfl rfl HB.out hu rfl (by rw [hlen]; kernel_rfl)) rfl ⟨_, rfl, ?_, ?_⟩
    · rw [hn.out]; exact HO.out
    · exact HF.out
set_option maxHeartbeats 4000000 in
theorem TrlNew_i (v : Value) (t : Term) (ok0 : Nat → Prop) (w : World) (hV0 : kCell.V w ok0 v t) :
    Calls Tryz.prog 48 #[v] w fun e w' => ∃ c : List Value, e = .returned (.agg c.toArray) ∧ kTState.O w' (fun k => w.heap.size ≤ k) (newT t) c ∧ Below w.heap.size w w' := by
  obtain ⟨ok, hok, hV⟩ : ∃ ok : Nat → Prop, (∀ k, ok k → k < w.heap.size) ∧ kCell.V w ok v t := ⟨fun k => ok0 k ∧ k < w.heap.size, fun k h => h.2, Kd.V_move (fun k h1 h2 => ⟨⟨h1, h2⟩, rfl⟩) hV0 (by decide)⟩
  clear hV0
  have HOK := Sec.mk hok
  have B0 := Sec.mk (belA (Below.refl w.heap.size w) (.cells #[.int .i64 0, .slice none 0 0, .slice none 0 0, .int .i64 0, .slice none 0 0, .slice none 0 0, .slice none 0 0] 93))
  have RB0 := Sec.mk (heap_alloc_new w (.cells #[.int .i64 0, .slice none 0 0, .slice none 0 0, .int .i64 0, .slice none 0 0, .slice none 0 0, .slice none 0 0] 93))
  have V0 := Sec.mk (Kd.V_below hV B0.out (by decide))
  have Z0 : Sec ((w.alloc (.cells #[.int .i64 0, .slice none 0 0, .slice none 0 0, .int .i64 0, .slice none 0 0, .slice none 0 0, .slice none 0 0] 93)).heap.size = w.heap.size + 1) := ⟨by simp⟩
  have LT : Sec (t.length ≤ 1073741824) := ⟨by obtain ⟨_, _, _, _, _, h, _⟩ := hV; exact h⟩
  have T0 : Sec True := ⟨trivial⟩
  obtain ⟨A9, c9, rfl, -⟩ := hV
  have hu := Tryz.underlying93
  have hu2 := Tryz.underlying102
  have hnT : ∀ k, ok k → ¬ k = w.heap.size := fun k h e => by have := hok k h; omega
  have HNT := Sec.mk hnT
  clear hok hnT
  cases hq : question t with
  | false =>
    have HQ := Sec.mk hq
    have hn : Sec (newT t = zeroTState) := ⟨if_neg (by rw [hq]; decide)⟩
    clear hq
    go_enter Tryz.func48, Tryz.ntmps48
    go_wp2_with (first | (clear T0; go_at_call 70; have T1 : Sec True := ⟨trivial⟩; refine (isQuestion_i _ t ok _ V0.out).mono ?_; rw [HQ.out]; rintro e w1 ⟨rfl, hb⟩; have RB1 := Sec.mk ((hb.block _ (Array.getElem?_eq_some_iff.1 RB0.out).1).trans RB0.out); have V1 := Sec.mk (Kd.V_below V0.out hb (by decide)); have B1 := Sec.mk (bel B0.out hb); have Z1 : Sec (w.heap.size < w1.heap.size) := ⟨Nat.lt_of_lt_of_le (by rw [Z0.out]; exact Nat.lt_succ_self _) hb.size⟩; clear hb V0; have V0 := V1; clear V1) | (with_reducible show wpList _ _ _ (⟨none, .store 93 (.tmp 2) (.tmp 7), _, _, _, _⟩ :: _) _ _; refine wpList_store (cs := [.int .i64 0, .slice none 0 0, .slice none 0 0, .int .i64 0, .slice none 0 0, .slice none 0 0, .slice none 0 0]) rfl 93 (.tmp 2) (.tmp 7) rfl rfl rfl RB1.out (by kernel_rfl) rfl (kTState.K_one (kTState.O_K (kTState_zero w))) ?_; intro w8 hb8 hF8; have B8 := Sec.mk hb8; have F8 := Sec.mk hF8; clear hb8 hF8))
    refine bodyPost_ret (results_cell rfl rfl B8.out hu rfl (by kernel_rfl)) rfl ⟨_, rfl, ?_, ?_⟩
    · rw [hn.out]; exact kTState.O_mono (kTState_zero _) (fun _ h _ => h.elim)
    · exact F8.out.below B1.out (fun q h => by have h1 : q = w.heap.size := h; omega)
  | true =>
    have HQ := Sec.mk hq
    have hn : Sec (newT t = (⟨1, [firstG t], [], (free t).length, [], t, []⟩ : TState)) := ⟨if_pos hq⟩
    clear hq
    go_enter Tryz.func48, Tryz.ntmps48
    go_wp2_with (first | (clear T0; go_at_call 70; have T1 : Sec True := ⟨trivial⟩; refine (isQuestion_i _ t ok _ V0.out).mono ?_; rw [HQ.out]; rintro e w1 ⟨rfl, hb⟩; have RB1 := Sec.mk ((hb.block _ (Array.getElem?_eq_some_iff.1 RB0.out).1).trans RB0.out); have V1 := Sec.mk (Kd.V_below V0.out hb (by decide)); have B1 := Sec.mk (bel B0.out hb); have Z1 : Sec (w.heap.size < w1.heap.size) := ⟨Nat.lt_of_lt_of_le (by rw [Z0.out]; exact Nat.lt_succ_self _) hb.size⟩; clear hb V0; have V0 := V1; clear V1) | (clear T1; go_at_call 72; have T2 : Sec True := ⟨trivial⟩; refine (cloneCells_c _ t ok _ V0.out).mono ?_; rintro e w2 ⟨u, rfl, hR, hb⟩; obtain ⟨A1, n1, rfl, -, -⟩ := Kd.R_form hR; have R2 : Sec (kCell.R w2 (fun k => w1.heap.size ≤ k ∧ k < w2.heap.size) (.slice A1 t.length n1) t) := ⟨Kd.R_mono hR (fun k h1 h2 => ⟨h1, h2⟩)⟩; have RB2 := Sec.mk ((hb.block _ (Array.getElem?_eq_some_iff.1 RB1.out).1).trans RB1.out); have V2 := Sec.mk (Kd.V_below V0.out hb (by decide)); have B2 := Sec.mk (bel B1.out hb); have Z2 := Sec.mk hb.size; clear hb hR V0 RB1) | (with_reducible show wpList _ _ _ (⟨none, .store 102 (.tmp 3) (.tmp 11), _, _, _, _⟩ :: _) _ _; refine wpList_store (cs := [.int .i64 1, .slice A1 t.length n1, .slice none 0 0, .slice none 0 0, .int .i64 0]) (old := #[.int .i64 0, .slice none 0 0, .slice none 0 0, .slice none 0 0, .int .i64 0]) rfl 102 (.tmp 3) (.tmp 11) rfl rfl rfl (heap_alloc_new _ _) (by kernel_rfl) rfl (kSGoal.K_one (kSGoal.O_K (kSGoal_new R2.out))) ?_; intro w8 hb8 hF8; have B3X := Sec.mk hb8; have F3 := Sec.mk hF8; clear hb8 hF8))
    have HB8 : Sec (Below w2.heap.size w2 w8) := ⟨F3.out.below (belA (Below.refl _ _) _) (fun k h => Nat.le_of_eq (show k = w2.heap.size from h).symm)⟩
    have V0 := Sec.mk (Kd.V_below V2.out HB8.out (by decide))
    have RB1 := Sec.mk ((HB8.out.block _ (Array.getElem?_eq_some_iff.1 RB2.out).1).trans RB2.out)
    have RO := Sec.mk (kSGoal_new (Kd.R_below R2.out HB8.out))
    have B3 := Sec.mk (bel B2.out HB8.out)
    obtain ⟨Sg, hSg⟩ : ∃ Sg : Nat → Prop, Sg = fun k => w1.heap.size ≤ k ∧ k < w2.heap.size := ⟨_, rfl⟩
    have HSg : Sec (∀ k, Sg k → ¬ k = w.heap.size) := ⟨fun k h e => by rw [hSg] at h; have := Z1.out; have h1 : w1.heap.size ≤ k := h.1; omega⟩
    have HSz : Sec (∀ k, Sg k → k < w8.heap.size) := ⟨fun k h => by rw [hSg] at h; exact Nat.lt_of_lt_of_le h.2 HB8.out.size⟩
    have HSB : Sec (∀ k, k = w.heap.size ∨ Sg k → w.heap.size ≤ k) := ⟨fun k h => by rcases h with h | h; exact Nat.le_of_eq h.symm; rw [hSg] at h; have := Z1.out; have h1 : w1.heap.size ≤ k := h.1; omega⟩
    have HN3 : Sec (¬ (w2.heap.size = w.heap.size ∨ Sg w2.heap.size)) := ⟨fun h => by rcases h with h | h; (have := Z1.out; have := Z2.out; omega); (rw [hSg] at h; have h1 : w2.heap.size < w2.heap.size := h.2; omega)⟩
    have hnT : ∀ k, ok k → ¬ (k = w.heap.size ∨ Sg k) := fun k h e => by have h2 := HNT.out k h; have h3 := HOK.out k h; rcases e with e | e; exact h2 e; have := HSB.out k (.inr e); omega
    rw [← hSg] at RO
    clear hSg HB8 V2 RB2 R2 B2 F3
    refine wp_region_lists [[12], [13], [14], [15], [16], [17], [18], [19], [2], [2], []]
      [fun val _ _ => val 12 = .agg ([.int .i64 1, .slice A1 t.length n1, .slice none 0 0, .slice none 0 0, .int .i64 0]).toArray,
        onR kSGoal 13 [firstG t],
        fun val _ _ => val 14 = .slice A9 t.length c9,
        onR kInt 15 (free t),
        fun val _ _ => val 16 = .int .i64 (free t).length,
        fun val _ _ => val 17 = .slice A9 t.length c9,
        onR kCell 18 t,
        onO kTState 19 (⟨1, [firstG t], [], (free t).length, [], t, []⟩ : TState),
        onPtr kTState 2 93 (⟨1, [firstG t], [], (free t).length, [], t, []⟩ : TState),
        onBox 2 #[.int .i64 0, .slice none 0 0, .slice none 0 0, .int .i64 0, .slice none 0 0, .slice none 0 0, .slice none 0 0] 93,
        onOd kSGoal (firstG t) [.int .i64 1, .slice A1 t.length n1, .slice none 0 0, .slice none 0 0, .int .i64 0]]
      [[], [10], [], [], [], [], [], [1, 6], [9, 7], [], []] 2 (fun k => k = w.heap.size ∨ Sg k) (fun i k => (i = 9 ∧ k = w.heap.size) ∨ (i = 10 ∧ Sg k)) (by kernel_rfl) ⟨by kernel_rfl, by kernel_rfl, by kernel_rfl, by kernel_rfl, by kernel_rfl⟩
      (.cons (stab_val 12 (fun v => v = .agg ([.int .i64 1, .slice A1 t.length n1, .slice none 0 0, .slice none 0 0, .int .i64 0]).toArray)) (.cons (stab_R kSGoal 13 [firstG t]) (.cons (stab_val 14 (fun v => v = .slice A9 t.length c9)) (.cons (stab_R kInt 15 (free t)) (.cons (stab_val 16 (fun v => v = .int .i64 (free t).length)) (.cons (stab_val 17 (fun v => v = .slice A9 t.length c9)) (.cons (stab_R kCell 18 t) (.cons (stab_O kTState 19 (⟨1, [firstG t], [], (free t).length, [], t, []⟩ : TState)) (.cons (stab_ptr kTState 2 93 (⟨1, [firstG t], [], (free t).length, [], t, []⟩ : TState)) (.cons (stab_box 2 #[.int .i64 0, .slice none 0 0, .slice none 0 0, .int .i64 0, .slice none 0 0, .slice none 0 0, .slice none 0 0] 93) (.cons (stab_Od kSGoal (firstG t) [.int .i64 1, .slice A1 t.length n1, .slice none 0 0, .slice none 0 0, .int .i64 0]) .nil)))))))))))
      (fun i j k h1 h2 => by rcases h1 with ⟨a1, b1⟩ | ⟨a1, b1⟩ <;> rcases h2 with ⟨a2, b2⟩ | ⟨a2, b2⟩ <;> first | omega | (exact absurd (by assumption) (fun h => HSg.out k (by assumption) (by assumption)))) (fun i k h => by rcases h with ⟨rfl, rfl⟩ | ⟨rfl, h⟩ <;> first | exact ⟨by decide, .inl rfl, (Array.getElem?_eq_some_iff.1 RB1.out).1⟩ | exact ⟨by decide, .inr h, HSz.out k h⟩) (fun i h1 h2 => by simp only [List.length] at h1 h2; rcases (show i = 9 ∨ i = 10 by omega) with rfl | rfl; exact ⟨w.heap.size, rfl, RB1.out, .inl ⟨rfl, rfl⟩⟩; exact (show kSGoal.O w8.drew (fun k => (10 = 9 ∧ k = w.heap.size) ∨ (10 = 10 ∧ Sg k)) (firstG t) [.int .i64 1, .slice A1 t.length n1, .slice none 0 0, .slice none 0 0, .int .i64 0] from Kd.O_mono (Kd.O_below RO.out (belD (Below.refl _ _))) (fun k h _ => .inr ⟨rfl, h⟩))) (.cons ?_ (.cons ?_ (.cons ?_ (.cons ?_ (.cons ?_ (.cons ?_ (.cons ?_ (.cons ?_ (.cons ?_ .nil))))))))) ?_
    · intro a W own hfor huse hap hmi hF K hK
      have e3 : a.eval (.tmp 3) = .pointer (some ⟨w2.heap.size, 0, none⟩) := hfor 3 (by kernel_rfl)
      have hu_12 := hu2
      have hc : ∀ j u, ([.int .i64 1, .slice A1 t.length n1, .slice none 0 0, .slice none 0 0, .int .i64 0] : List Value)[j]? = some u → W.cell? ⟨w2.heap.size, 0 + j, none⟩ = some u := fun j u h => by rw [Nat.zero_add]; exact foot_cell hF HN3.out ((box_at B3X.out).2.1 j u (by simpa using h))
      refine step_load (cs := [.int .i64 1, .slice A1 t.length n1, .slice none 0 0, .slice none 0 0, .int .i64 0]) rfl 102 (.tmp 3) rfl e3 hc hu_12 rfl (by kernel_rfl) (hK _ _ (post_pure (if_pos rfl)))
    · intro a W own hfor huse hap hmi hF K hK
      have e12 : a.eval (.tmp 12) = .agg ([.int .i64 1, .slice A1 t.length n1, .slice none 0 0, .slice none 0 0, .int .i64 0]).toArray := huse 0 (by kernel_rfl)
      have r10 := (huse 10 (by kernel_rfl) : onOd kSGoal (firstG t) [.int .i64 1, .slice A1 t.length n1, .slice none 0 0, .slice none 0 0, .int .i64 0] (slotsOf a) (own 10) W)
      have r10 : kSGoal.O W (own 10) (firstG t) [.int .i64 1, .slice A1 t.length n1, .slice none 0 0, .slice none 0 0, .int .i64 0] := r10
      have hlen := kSGoal.K_len (kSGoal.O_K r10)
      refine step_box rfl 30 102 (.tmp 12) rfl e12 Tryz.underlying30 info_SGoal hlen (by decide) (by decide) (hK _ _ ⟨fun k => own 10 k ∨ (W.heap.size ≤ k ∧ k < (W.alloc (.cells [.int .i64 1, .slice A1 t.length n1, .slice none 0 0, .slice none 0 0, .int .i64 0].toArray 102)).heap.size), Foot.of_below (belA (Below.refl _ _) _), ?_, fun k h => Or.imp (fun h => ⟨10, by decide, h⟩) id h⟩)
      show kSGoal.R _ _ (if _ then _ else _) [firstG t]
      rw [if_pos rfl]
      exact Kd.R_of_one kSGoal (heap_alloc_new W _) (.inr ⟨Nat.le_refl _, by simp⟩) (Kd.O_mono (Kd.O_below r10 (belA (Below.refl _ _) _)) (fun k h _ => ⟨.inl h, fun e => by have h1 := (hmi 10 k h).2; omega⟩))
    · intro a W own hfor huse hap hmi hF K hK
      have e0 : a.eval (.tmp 0) = .slice A9 t.length c9 := hfor 0 (by kernel_rfl)
      refine op_val (.slice A9 t.length c9) W rfl ?_ (hK _ _ (post_pure ?_))
      · clear hfor huse hap hmi hK hF
        generalize a.eval = ρ at *
        go_simp
      · exact (if_pos rfl)
    · intro a W own hfor huse hap hmi hF K hK
      have e14 : a.eval (.tmp 14) = .slice A9 t.length c9 := huse 2 (by kernel_rfl)
      have efn : a.eval (.func 122) = .func (.func 122) #[] #[] := rfl
      refine op_call (f := 122) (args := #[.slice A9 t.length c9]) (fun v w1 => kInt.R w1 (fun k => W.heap.size ≤ k) v (free t) ∧ Below W.heap.size W w1) rfl ?_ ?_ (fun v w1 h => ?_)
      · clear hfor huse hap hmi hK hF
        generalize a.eval = ρ at *
        go_simp
      · exact (TrmFree_i _ t ok W (foot_V hF hnT V0.out (by decide))).mono (by rintro e w1 ⟨u, rfl, h1, h2⟩; exact ⟨_, rfl, h1, h2⟩)
      · obtain ⟨h1, h2⟩ := h
        exact hK _ _ (post_new h2 (by show kInt.R _ _ (if _ then _ else _) (free t); rw [if_pos rfl]; exact Kd.R_mono h1 (fun k h3 h4 => ⟨h3, h4⟩)))
    · intro a W own hfor huse hap hmi hF K hK
      have r3 : kInt.R W (own 3) (a.eval (.tmp 15)) (free t) := huse 3 (by kernel_rfl)
      obtain ⟨A3, n3, e15, -, -⟩ := Kd.R_form r3
      rw [e15] at r3
      refine op_val (.int .i64 (free t).length) W rfl ?_ (hK _ _ (post_pure ?_))
      · clear hfor huse hap hmi hK hF
        generalize a.eval = ρ at *
        go_simp
      · exact (if_pos rfl)
    · intro a W own hfor huse hap hmi hF K hK
      have e0 : a.eval (.tmp 0) = .slice A9 t.length c9 := hfor 0 (by kernel_rfl)
      refine op_val (.slice A9 t.length c9) W rfl ?_ (hK _ _ (post_pure ?_))
      · clear hfor huse hap hmi hK hF
        generalize a.eval = ρ at *
        go_simp
      · exact (if_pos rfl)
    · intro a W own hfor huse hap hmi hF K hK
      have e17 : a.eval (.tmp 17) = .slice A9 t.length c9 := huse 5 (by kernel_rfl)
      have efn : a.eval (.func 72) = .func (.func 72) #[] #[] := rfl
      refine op_call (f := 72) (args := #[.slice A9 t.length c9]) (fun v w1 => kCell.R w1 (fun k => W.heap.size ≤ k) v t ∧ Below W.heap.size W w1) rfl ?_ ?_ (fun v w1 h => ?_)
      · clear hfor huse hap hmi hK hF
        generalize a.eval = ρ at *
        go_simp
      · exact (cloneCells_c _ t ok W (foot_V hF hnT V0.out (by decide))).mono (by rintro e w1 ⟨u, rfl, h1, h2⟩; exact ⟨_, rfl, h1, h2⟩)
      · obtain ⟨h1, h2⟩ := h
        exact hK _ _ (post_new h2 (by show kCell.R _ _ (if _ then _ else _) t; rw [if_pos rfl]; exact Kd.R_mono h1 (fun k h3 h4 => ⟨h3, h4⟩)))
    · intro a W own hfor huse hap hmi hF K hK
      have e16 : a.eval (.tmp 16) = .int .i64 (free t).length := huse 4 (by kernel_rfl)
      have r1 : kSGoal.R W (own 1) (a.eval (.tmp 13)) [firstG t] := huse 1 (by kernel_rfl)
      obtain ⟨A1, n1, e13, -, -⟩ := Kd.R_form r1
      rw [e13] at r1
      have r6 : kCell.R W (own 6) (a.eval (.tmp 18)) t := huse 6 (by kernel_rfl)
      obtain ⟨A6, n6, e18, -, -⟩ := Kd.R_form r6
      rw [e18] at r6
      have e13 : a.eval (.tmp 13) = .slice A1 1 n1 := e13
      have ec : a.eval (.const (.int .i64 1)) = .int .i64 1 := rfl
      refine op_val (.agg #[.int .i64 1, .slice A1 1 n1, .slice none 0 0, .int .i64 (free t).length, .slice none 0 0, .slice A6 t.length n6, .slice none 0 0]) W rfl ?_ (hK _ _ ⟨fun k => own 1 k ∨ own 6 k, Foot.refl _ _, ⟨[.int .i64 1, .slice A1 1 n1, .slice none 0 0, .int .i64 (free t).length, .slice none 0 0, .slice A6 t.length n6, .slice none 0 0], if_pos rfl, kTState_new r1 r6 (fun k h1 h2 => by have := hap 1 6 k h1 h2; omega)⟩, ?_⟩)
      · clear hfor huse hap hmi hK hF
        generalize a.eval = ρ at *
        go_simp
      · intro k h
        left
        rcases h with h | h
        · exact ⟨1, by decide, h⟩
        · exact ⟨6, by decide, h⟩
    · intro a W own hfor huse hap hmi hF K hK
      obtain ⟨g, e2, hb, hSg⟩ := (huse 9 (by kernel_rfl) : onBox 2 #[.int .i64 0, .slice none 0 0, .slice none 0 0, .int .i64 0, .slice none 0 0, .slice none 0 0, .slice none 0 0] 93 (slotsOf a) (own 9) W)
      have e2 : a.eval (.tmp 2) = .pointer (some ⟨g, 0, none⟩) := e2
      obtain ⟨cs7, e19, r7⟩ := (huse 7 (by kernel_rfl) : onO kTState 19 (⟨1, [firstG t], [], (free t).length, [], t, []⟩ : TState) (slotsOf a) (own 7) W)
      have e19 : a.eval (.tmp 19) = .agg cs7.toArray := e19
      have hlen := kTState.K_len (kTState.O_K r7)
      refine step_store rfl 93 (.tmp 2) (.tmp 19) rfl e2 e19 hb (by rw [hlen]; kernel_rfl) (by rw [hlen]; rfl) (kTState.K_one (kTState.O_K r7)) (fun w1 hb1 hF1 => hK _ _ ⟨fun k => own 9 k ∨ own 7 k, Foot.mono hF1 (fun k e => ⟨9, by decide, e ▸ hSg⟩), ?_, ?_⟩)
      · exact ⟨g, cs7, e2, hb1, .inl hSg, Kd.O_mono (hF1.O r7 (fun k h1 h2 => by have := hap 9 7 g hSg (h2 ▸ h1); omega)) (fun k h _ => ⟨.inr h, fun e => by have := hap 9 7 g hSg (e ▸ h); omega⟩)⟩
      · intro k h
        left
        rcases h with h | h
        · exact ⟨9, by decide, h⟩
        · exact ⟨7, by decide, h⟩
    intro a' W own hf
    have hsz := hf.st.size
    have hdf := hf.st.rest
    obtain ⟨⟨l⟩, df⟩ := a'
    have hl0 : l.length = 20 := hsz
    clear hsz
    obtain rfl : df = [] := hdf
    obtain ⟨x0, l0, rfl, hl1⟩ := lst_cons hl0
    clear hl0
    obtain ⟨x1, l1, rfl, hl2⟩ := lst_cons hl1
    clear hl1
    obtain ⟨x2, l2, rfl, hl3⟩ := lst_cons hl2
    clear hl2
    obtain ⟨x3, l3, rfl, hl4⟩ := lst_cons hl3
    clear hl3
    obtain ⟨x4, l4, rfl, hl5⟩ := lst_cons hl4
    clear hl4
    obtain ⟨x5, l5, rfl, hl6⟩ := lst_cons hl5
    clear hl5
    obtain ⟨x6, l6, rfl, hl7⟩ := lst_cons hl6
    clear hl6
    obtain ⟨x7, l7, rfl, hl8⟩ := lst_cons hl7
    clear hl7
    obtain ⟨x8, l8, rfl, hl9⟩ := lst_cons hl8
    clear hl8
    obtain ⟨x9, l9, rfl, hl10⟩ := lst_cons hl9
    clear hl9
    obtain ⟨x10, l10, rfl, hl11⟩ := lst_cons hl10
    clear hl10
    obtain ⟨x11, l11, rfl, hl12⟩ := lst_cons hl11
    clear hl11
    obtain ⟨x12, l12, rfl, hl13⟩ := lst_cons hl12
    clear hl12
    obtain ⟨x13, l13, rfl, hl14⟩ := lst_cons hl13
    clear hl13
    obtain ⟨x14, l14, rfl, hl15⟩ := lst_cons hl14
    clear hl14
    obtain ⟨x15, l15, rfl, hl16⟩ := lst_cons hl15
    clear hl15
    obtain ⟨x16, l16, rfl, hl17⟩ := lst_cons hl16
    clear hl16
    obtain ⟨x17, l17, rfl, hl18⟩ := lst_cons hl17
    clear hl17
    obtain ⟨x18, l18, rfl, hl19⟩ := lst_cons hl18
    clear hl18
    obtain ⟨x19, l19, rfl, hl20⟩ := lst_cons hl19
    clear hl19
    obtain rfl := List.eq_nil_of_length_eq_zero hl20
    have e0 := hf.st.kept 0 (by kernel_rfl)
    simp only [slotsOf, Act.eval, Array.getD_eq_getD_getElem?, List.getElem?_toArray, List.getElem?_cons_zero, Option.getD_some] at e0
    subst e0
    have e2 := hf.st.kept 2 (by kernel_rfl)
    simp only [slotsOf, Act.eval, Array.getD_eq_getD_getElem?, List.getElem?_toArray, List.getElem?_cons_succ, List.getElem?_cons_zero, Option.getD_some] at e2
    subst e2
    have e3 := hf.st.kept 3 (by kernel_rfl)
    simp only [slotsOf, Act.eval, Array.getD_eq_getD_getElem?, List.getElem?_toArray, List.getElem?_cons_succ, List.getElem?_cons_zero, Option.getD_some] at e3
    subst e3
    obtain ⟨g, cs, h0, hb, hSg, hO⟩ := hf.at 8 (onPtr kTState 2 93 (⟨1, [firstG t], [], (free t).length, [], t, []⟩ : TState)) rfl (by kernel_rfl)
    have h0 : (Value.pointer (some ⟨w.heap.size, 0, none⟩)) = .pointer (some ⟨g, 0, none⟩) := h0
    obtain rfl : w.heap.size = g := by injection h0 with h0; injection h0 with h0; injection h0
    have HB := Sec.mk hb
    have hlen := kTState.K_len (kTState.O_K hO)
    have hlow : ∀ k, (own 8 k ∧ k ≠ w.heap.size) → w.heap.size ≤ k := fun k h => by have := hf.st.mine 8 k h.1; rcases this.1 with h1 | h1; (have h3 : w8.heap.size ≤ k := h1; have := B3.out.size; omega); (exact HSB.out k h1)
    have HO := Sec.mk (kTState.O_mono hO (fun k h _ => hlow k h))
    have HF := Sec.mk (hf.st.foot.below (belD B3.out) (fun k h => HSB.out k h))
    clear hf hb hO hlow h0 hSg
    go_wp2
    refine bodyPost_ret (results_cell rfl rfl HB.out hu rfl (by rw [hlen]; kernel_rfl)) rfl ⟨_, rfl, ?_, ?_⟩
    · rw [hn.out]; exact HO.out
    · exact HF.out
end
section
open Go.RowKit
set_option linter.unusedVariables false
set_option maxRecDepth 100000
set_option maxHeartbeats 4000000 in
theorem SlvNew_i (v : Value) (t : Term) (ok : Nat → Prop) (w : World) (hV : kCell.V w ok v t) :
    Calls Tryz.prog 9 #[v] w fun e w' => ∃ c : List Value, e = .returned (.agg c.toArray) ∧ kSState.O w' (fun k => w.heap.size ≤ k) (newS t) c ∧ Below w.heap.size w w' := by
  have B0 := Sec.mk (belA (Below.refl w.heap.size w) (.cells #[.int .i64 0, .slice none 0 0, .slice none 0 0, .int .i64 0, .slice none 0 0, .slice none 0 0, .slice none 0 0] 34))
  have RB0 := Sec.mk (heap_alloc_new w (.cells #[.int .i64 0, .slice none 0 0, .slice none 0 0, .int .i64 0, .slice none 0 0, .slice none 0 0, .slice none 0 0] 34))
  have V0 := Sec.mk (Kd.V_below hV B0.out (by decide))
  have Z0 : Sec ((w.alloc (.cells #[.int .i64 0, .slice none 0 0, .slice none 0 0, .int .i64 0, .slice none 0 0, .slice none 0 0, .slice none 0 0] 34)).heap.size = w.heap.size + 1) := ⟨by simp⟩
  have T0 : Sec True := ⟨trivial⟩
  obtain ⟨A9, c9, rfl, -⟩ := hV
  have hu := Tryz.underlying34
  go_enter Tryz.func9, Tryz.ntmps9
  go_wp2_with (first | (clear T0; go_at_call 48; have T1 : Sec True := ⟨trivial⟩; refine (TrlNew_i _ t ok _ V0.out).mono ?_; rintro e w1 ⟨c, rfl, hO, hb⟩; have H1 := Sec.mk (kTState.O_K hO); have RB1 := Sec.mk ((hb.block _ (Array.getElem?_eq_some_iff.1 RB0.out).1).trans RB0.out); have B1 := Sec.mk (bel B0.out hb); have Z1 : Sec (w.heap.size < w1.heap.size) := ⟨Nat.lt_of_lt_of_le (by rw [Z0.out]; exact Nat.lt_succ_self _) hb.size⟩; clear hb hO) | (clear T1; go_at_call 47; have T2 : Sec True := ⟨trivial⟩; refine (TrlView_i (newT t) c _ _ H1.out).mono ?_; rw [tview_newT]; rintro e w2 ⟨c2, rfl, hO, hb⟩; have HO := Sec.mk hO; have hlen := Sec.mk (kSState.K_len (kSState.O_K hO)); have RB2 := Sec.mk ((hb.block _ (Array.getElem?_eq_some_iff.1 RB1.out).1).trans RB1.out); have B2 := Sec.mk (bel B1.out hb); clear hb hO) | (with_reducible show wpList _ _ _ (⟨none, .store 34 (.tmp 2) (.tmp 5), _, _, _, _⟩ :: _) _ _; refine wpList_store (cs := c2) rfl 34 (.tmp 2) (.tmp 5) rfl rfl rfl RB2.out (by rw [hlen.out]; kernel_rfl) (by rw [hlen.out]; kernel_rfl) (kSState.K_one (kSState.O_K HO.out)) ?_; intro w8 hb8 hF8; have B8 := Sec.mk hb8; have F8 := Sec.mk hF8; clear hb8 hF8))
  refine bodyPost_ret (results_cell rfl rfl B8.out hu rfl (by rw [hlen.out]; kernel_rfl)) rfl ⟨_, rfl, ?_, ?_⟩
  · exact kSState.O_mono (F8.out.O HO.out (fun k h e => by have h1 : k = w.heap.size := e; have := Z1.out; omega)) (fun k h _ => by have := Z1.out; omega)
  · exact F8.out.below B2.out (fun q h => by have h1 : q = w.heap.size := h; omega)
end
section
open Go.RowKit
set_option linter.unusedVariables false
set_option maxRecDepth 100000
theorem indexG_i (t : Term) (G1 : Option Addr) (k1 b bf bc : Nat) (n : Int) (ok : Nat → Prop) (w : World) (hG : kSGoal.V w ok (.slice G1 1 k1) [firstG t]) (hb : w.cell? ⟨b, 0, none⟩ = some (.int .i64 n)) (hf : w.cell? ⟨bf, 0, none⟩ = some (.func (.func 188) #[] #[.pointer (some ⟨b, 0, none⟩)])) (hz : w.cell? ⟨bc, 0, none⟩ = some (.int .i64 0)) (hc : (trmOk t && headFun t) = true) (ho : t.any (overC n) = false) :
    Calls Tryz.prog 229 #[.slice G1 1 k1, .func (.func 189) #[] #[.pointer (some ⟨bf, 0, none⟩), .pointer (some ⟨bc, 0, none⟩)]] w fun e w' => e = .returned (.int .i64 (-1)) ∧ Below w.heap.size w w' := by
  have HV := Sec.mk (Kd.V_C hG)
  have HB := Sec.mk hb
  have HF := Sec.mk hf
  have HZ := Sec.mk hz
  have HC := Sec.mk hc
  have HO := Sec.mk ho
  have hu := Tryz.underlying102
  clear hG hb hf hz hc ho
  go_enter Tryz.func229, Tryz.ntmps229
  go_wp2
  go_loopw [8] (fun iv wr => ∃ k : Nat, k ≤ 1 ∧ iv = .int .i64 k ∧ Sec (Below w.heap.size w wr)) (fun iv _ => 1 - (intOf iv).toNat)
  case atStart => exact ⟨0, by omega, rfl, ⟨Below.refl _ _⟩⟩
  case round =>
    obtain ⟨k, hk, rfl, hbr⟩ := hrel
    by_cases hlt : k < 1
    · obtain ⟨b2, off, cs, rfl, hob, hK, hcc⟩ := Kd.C_get (Kd.C_below HV.out hbr.out (by decide)) (List.getElem?_eq_getElem (l := [firstG t]) (i := k) (by simpa using hlt))
      rw [List.getElem_singleton] at hK
      obtain ⟨v1, v2, v3, rfl, h1, h2, h3⟩ := kSGoal_K hK
      obtain ⟨E1, m1, rfl, r1⟩ := id h1
      obtain ⟨E2, m2, rfl, -⟩ := h2
      obtain ⟨E3, m3, rfl, -⟩ := h3
      have W1 := Sec.mk h1
      have c0 : wr.cell? ⟨b2, off + k * 5, none⟩ = some (.int .i64 1) := hcc 0 _ rfl
      have c1 : wr.cell? ⟨b2, off + k * 5 + 1, none⟩ = some (.slice E1 t.length m1) := hcc 1 _ rfl
      have c2 : wr.cell? ⟨b2, off + k * 5 + 2, none⟩ = some (.slice E2 0 m2) := hcc 2 _ rfl
      have c3 : wr.cell? ⟨b2, off + k * 5 + 3, none⟩ = some (.slice E3 0 m3) := hcc 3 _ rfl
      have c4 : wr.cell? ⟨b2, off + k * 5 + 4, none⟩ = some (.int .i64 0) := hcc 4 _ rfl
      have d1 : decide ((k : Int) < 1) = true := decide_eq_true (by omega)
      have i0 : (0 : Int) ≤ (k : Int) := by omega
      have i1 : (k : Int) < 1 := by omega
      have HW := Sec.mk (wrong1_i t E1 E2 E3 m1 m2 m3 b bf bc n ok wr W1.out (Raw.cell_below hbr.out HB.out) (Raw.cell_below hbr.out HF.out) (Raw.cell_below hbr.out HZ.out) HC.out HO.out)
      clear hcc hK h1 r1
      go_wp2_with (go_at_call 189; refine HW.out.mono ?_; rintro e w1 ⟨rfl, hb1⟩; have B1 := Sec.mk (bel hbr.out hb1); clear hb1)
      go_roundw
      case rel => exact ⟨k + 1, by omega, by go_num, B1⟩
      case measure => simp [intOf]; omega
    · have d1 : decide ((k : Int) < 1) = false := decide_eq_false (by omega)
      go_wp2
      go_ret
      exact ⟨rfl, hbr.out⟩
theorem containsG_i (t : Term) (G1 : Option Addr) (k1 b bf bc : Nat) (n : Int) (ok : Nat → Prop) (w : World) (hG : kSGoal.V w ok (.slice G1 1 k1) [firstG t]) (hb : w.cell? ⟨b, 0, none⟩ = some (.int .i64 n)) (hf : w.cell? ⟨bf, 0, none⟩ = some (.func (.func 188) #[] #[.pointer (some ⟨b, 0, none⟩)])) (hz : w.cell? ⟨bc, 0, none⟩ = some (.int .i64 0)) (hc : (trmOk t && headFun t) = true) (ho : t.any (overC n) = false) :
    Calls Tryz.prog 191 #[.slice G1 1 k1, .func (.func 189) #[] #[.pointer (some ⟨bf, 0, none⟩), .pointer (some ⟨bc, 0, none⟩)]] w fun e w' => e = .returned (.bool false) ∧ Below w.heap.size w w' := by
  have HI := Sec.mk (indexG_i t G1 k1 b bf bc n ok w hG hb hf hz hc ho)
  clear hG hb hf hz hc ho
  go_enter Tryz.func191, Tryz.ntmps191
  go_wp2_with (go_at_call 229; refine HI.out.mono ?_; rintro e w1 ⟨rfl, hb⟩; have B1 := Sec.mk hb; clear hb)
  go_ret
  exact ⟨rfl, B1.out⟩
theorem goalsOk1_i (t : Term) (G1 : Option Addr) (k1 : Nat) (n : Int) (ok : Nat → Prop) (w : World) (hG : kSGoal.V w ok (.slice G1 1 k1) [firstG t]) (hc : (trmOk t && headFun t) = true) (ho : t.any (overC n) = false) :
    Calls Tryz.prog 137 #[.slice G1 1 k1, .int .i64 n, .int .i64 0] w fun e w' => e = .returned (.bool true) ∧ Below w.heap.size w w' := by
  have HG := Sec.mk hG
  have HC := Sec.mk hc
  have HO := Sec.mk ho
  have hb0 := heap_alloc_new ((w.alloc (.cells #[.int .i64 n] 3)).alloc (.cells #[.int .i64 0] 3)) (.cells #[.nilFunc] 37)
  have e9 : ((w.alloc (.cells #[.int .i64 n] 3)).alloc (.cells #[.int .i64 0] 3)).heap.size = w.heap.size + 1 + 1 := by simp
  rw [e9] at hb0
  have q0 := (box_at hb0).2.1 0 _ rfl
  have f0 := (box_at hb0).2.2 0
  have BS := Sec.mk (belA (belA (belA (Below.refl w.heap.size w) (.cells #[.int .i64 n] 3)) (.cells #[.int .i64 0] 3)) (.cells #[.func (.func 188) #[] #[.pointer (some ⟨w.heap.size, 0, none⟩)]] 37))
  have C0 : Sec ((((w.alloc (.cells #[.int .i64 n] 3)).alloc (.cells #[.int .i64 0] 3)).alloc (.cells #[.func (.func 188) #[] #[.pointer (some ⟨w.heap.size, 0, none⟩)]] 37)).cell? ⟨w.heap.size, 0, none⟩ = some (.int .i64 n)) := ⟨Raw.cell_below (belA (belA (Below.refl _ _) _) _) ((box_at (heap_alloc_new w (.cells #[.int .i64 n] 3))).2.1 0 _ rfl)⟩
  have C1 : Sec ((((w.alloc (.cells #[.int .i64 n] 3)).alloc (.cells #[.int .i64 0] 3)).alloc (.cells #[.func (.func 188) #[] #[.pointer (some ⟨w.heap.size, 0, none⟩)]] 37)).cell? ⟨w.heap.size + 1, 0, none⟩ = some (.int .i64 0)) := ⟨by
    have h9 := heap_alloc_new (w.alloc (.cells #[.int .i64 n] 3)) (.cells #[.int .i64 0] 3)
    rw [show (w.alloc (.cells #[.int .i64 n] 3)).heap.size = w.heap.size + 1 by simp] at h9
    exact Raw.cell_below (belA (Below.refl _ _) _) ((box_at h9).2.1 0 _ rfl)⟩
  have C2 : Sec ((((w.alloc (.cells #[.int .i64 n] 3)).alloc (.cells #[.int .i64 0] 3)).alloc (.cells #[.func (.func 188) #[] #[.pointer (some ⟨w.heap.size, 0, none⟩)]] 37)).cell? ⟨w.heap.size + 1 + 1, 0, none⟩ = some (.func (.func 188) #[] #[.pointer (some ⟨w.heap.size, 0, none⟩)])) := ⟨by
    have h9 := heap_alloc_new ((w.alloc (.cells #[.int .i64 n] 3)).alloc (.cells #[.int .i64 0] 3)) (.cells #[.func (.func 188) #[] #[.pointer (some ⟨w.heap.size, 0, none⟩)]] 37)
    rw [e9] at h9
    exact (box_at h9).2.1 0 _ rfl⟩
  have HCT := Sec.mk (containsG_i t G1 k1 w.heap.size (w.heap.size + 1 + 1) (w.heap.size + 1) n ok _ (Kd.V_below hG BS.out (by decide)) C0.out C2.out C1.out hc ho)
  clear hG hc ho hb0 e9
  have hst := fun (W : World) m => run_store Tryz.prog W ⟨w.heap.size + 1 + 1, 0, none⟩ (.func (.func 188) #[] #[.pointer (some ⟨w.heap.size, 0, none⟩)]) m rfl
  go_enter Tryz.func137, Tryz.ntmps137
  go_wp2_with (go_at_call 191; refine HCT.out.mono ?_; rintro e w1 ⟨rfl, hb⟩; have B1 := Sec.mk (bel BS.out hb); clear hb)
  go_ret
  exact ⟨rfl, B1.out⟩
set_option maxHeartbeats 2000000 in
theorem marked0_i (t : Term) (n : Int) (G1 G2 G4 G5 G6 : Option Addr) (k1 k2 k4 k5 k6 : Nat) (w : World) :
    Calls Tryz.prog 57 #[.agg #[.int .i64 1, .slice G1 1 k1, .slice G2 0 k2, .int .i64 n, .slice G4 0 k4, .slice G5 t.length k5, .slice G6 0 k6]] w fun e w' => e = .returned (.tuple #[.agg #[.int .i64 1, .slice G1 1 k1, .slice G2 0 k2, .int .i64 n, .slice none 0 0, .slice G5 t.length k5, .slice G6 0 k6], .bool true]) ∧ Below w.heap.size w w' := by
  have hu := Tryz.underlying34
  have hu2 := Tryz.underlying93
  have B0 := Sec.mk (belA (belA (Below.refl w.heap.size w) (.cells #[.int .i64 1, .slice G1 1 k1, .slice G2 0 k2, .int .i64 n, .slice G4 0 k4, .slice G5 t.length k5, .slice G6 0 k6] 34)) (.cells #[.int .i64 0, .slice none 0 0, .slice none 0 0, .int .i64 0, .slice none 0 0, .slice none 0 0, .slice none 0 0] 93))
  have P0 := Sec.mk (box2 w (.cells #[.int .i64 1, .slice G1 1 k1, .slice G2 0 k2, .int .i64 n, .slice G4 0 k4, .slice G5 t.length k5, .slice G6 0 k6] 34) (.cells #[.int .i64 0, .slice none 0 0, .slice none 0 0, .int .i64 0, .slice none 0 0, .slice none 0 0, .slice none 0 0] 93)).1
  have Q0 := Sec.mk (box2 w (.cells #[.int .i64 1, .slice G1 1 k1, .slice G2 0 k2, .int .i64 n, .slice G4 0 k4, .slice G5 t.length k5, .slice G6 0 k6] 34) (.cells #[.int .i64 0, .slice none 0 0, .slice none 0 0, .int .i64 0, .slice none 0 0, .slice none 0 0, .slice none 0 0] 93)).2
  have X9 := (box_at P0.out).2.1
  have p0 := X9 0 _ rfl
  have p1 := X9 1 _ rfl
  have p2 := X9 2 _ rfl
  have p3 := X9 3 _ rfl
  have p4 := X9 4 _ rfl
  have p5 := X9 5 _ rfl
  have p6 := X9 6 _ rfl
  clear X9
  go_enter Tryz.func57, Tryz.ntmps57
  go_wp2
  have WB := belA (Below.refl ((w.alloc (.cells #[.int .i64 1, .slice G1 1 k1, .slice G2 0 k2, .int .i64 n, .slice G4 0 k4, .slice G5 t.length k5, .slice G6 0 k6] 34)).alloc (.cells #[.int .i64 0, .slice none 0 0, .slice none 0 0, .int .i64 0, .slice none 0 0, .slice none 0 0, .slice none 0 0] 93)).heap.size ((w.alloc (.cells #[.int .i64 1, .slice G1 1 k1, .slice G2 0 k2, .int .i64 n, .slice G4 0 k4, .slice G5 t.length k5, .slice G6 0 k6] 34)).alloc (.cells #[.int .i64 0, .slice none 0 0, .slice none 0 0, .int .i64 0, .slice none 0 0, .slice none 0 0, .slice none 0 0] 93))) (.cells #[.int .i64 1, .slice G1 1 k1, .slice G2 0 k2, .int .i64 n, .slice none 0 0, .slice G5 t.length k5, .slice G6 0 k6] 93)
  have B3 := Sec.mk (bel B0.out WB)
  have P3 := Sec.mk ((WB.block _ (Array.getElem?_eq_some_iff.1 P0.out).1).trans P0.out)
  have Q3 := Sec.mk ((WB.block _ (Array.getElem?_eq_some_iff.1 Q0.out).1).trans Q0.out)
  have R3 := Sec.mk (heap_alloc_new ((w.alloc (.cells #[.int .i64 1, .slice G1 1 k1, .slice G2 0 k2, .int .i64 n, .slice G4 0 k4, .slice G5 t.length k5, .slice G6 0 k6] 34)).alloc (.cells #[.int .i64 0, .slice none 0 0, .slice none 0 0, .int .i64 0, .slice none 0 0, .slice none 0 0, .slice none 0 0] 93)) (.cells #[.int .i64 1, .slice G1 1 k1, .slice G2 0 k2, .int .i64 n, .slice none 0 0, .slice G5 t.length k5, .slice G6 0 k6] 93))
  have e9 : ((w.alloc (.cells #[.int .i64 1, .slice G1 1 k1, .slice G2 0 k2, .int .i64 n, .slice G4 0 k4, .slice G5 t.length k5, .slice G6 0 k6] 34)).alloc (.cells #[.int .i64 0, .slice none 0 0, .slice none 0 0, .int .i64 0, .slice none 0 0, .slice none 0 0, .slice none 0 0] 93)).heap.size = w.heap.size + 2 := by simp
  rw [e9] at R3
  clear WB e9 p0 p1 p2 p3 p4 p5 p6
  have X9 := (box_at R3.out).2.1
  have r0 := X9 0 _ rfl
  have r1 := X9 1 _ rfl
  have r2 := X9 2 _ rfl
  have r3 := X9 3 _ rfl
  have r4 := X9 4 _ rfl
  have r5 := X9 5 _ rfl
  have r6 := X9 6 _ rfl
  clear X9
  have X9 := (box_at P3.out).2.1
  have p0 := X9 0 _ rfl
  have p1 := X9 1 _ rfl
  have p2 := X9 2 _ rfl
  have p3 := X9 3 _ rfl
  have p4 := X9 4 _ rfl
  have p5 := X9 5 _ rfl
  have p6 := X9 6 _ rfl
  clear X9
  have h1c : Sec (∀ u ∈ ([.int .i64 1, .slice G1 1 k1, .slice G2 0 k2, .int .i64 n, .slice none 0 0, .slice G5 t.length k5, .slice G6 0 k6] : List Value), u.oneCell' = true) := ⟨(by intro u hu; simp only [List.mem_cons, List.not_mem_nil, or_false] at hu; rcases hu with rfl | rfl | rfl | rfl | rfl | rfl | rfl <;> rfl)⟩
  go_loop [24] (fun i => i = .int .i64 0) (fun _ => 0)
  case atStart => rfl
  case round =>
    subst hrel
    generalize ((w.alloc (.cells #[.int .i64 1, .slice G1 1 k1, .slice G2 0 k2, .int .i64 n, .slice G4 0 k4, .slice G5 t.length k5, .slice G6 0 k6] 34)).alloc (.cells #[.int .i64 0, .slice none 0 0, .slice none 0 0, .int .i64 0, .slice none 0 0, .slice none 0 0, .slice none 0 0] 93)).alloc (.cells #[.int .i64 1, .slice G1 1 k1, .slice G2 0 k2, .int .i64 n, .slice none 0 0, .slice G5 t.length k5, .slice G6 0 k6] 93) = w3 at *
    go_wp2_with (with_reducible show wpList _ _ _ (⟨none, .store 93 (.tmp 2) (.tmp 63), _, _, _, _⟩ :: _) _ _; refine wpList_store (cs := [.int .i64 1, .slice G1 1 k1, .slice G2 0 k2, .int .i64 n, .slice none 0 0, .slice G5 t.length k5, .slice G6 0 k6]) (old := #[.int .i64 0, .slice none 0 0, .slice none 0 0, .int .i64 0, .slice none 0 0, .slice none 0 0, .slice none 0 0]) rfl 93 (.tmp 2) (.tmp 63) rfl rfl rfl Q3.out (by kernel_rfl) rfl h1c.out ?_; intro w8 hb8 hF8; have B8 := Sec.mk hb8; have F8 := Sec.mk hF8; clear hb8 hF8)
    have X9 := (box_at B8.out).2.1
    have f0 := X9 0 _ rfl
    have f1 := X9 1 _ rfl
    have f2 := X9 2 _ rfl
    have f3 := X9 3 _ rfl
    have f4 := X9 4 _ rfl
    have f5 := X9 5 _ rfl
    have f6 := X9 6 _ rfl
    clear X9
    exact bodyPost_ret (v := .tuple #[.agg #[.int .i64 1, .slice G1 1 k1, .slice G2 0 k2, .int .i64 n, .slice none 0 0, .slice G5 t.length k5, .slice G6 0 k6], .bool true]) (by simp [results, Tryz.results57, go_sem, f0, f1, f2, f3, f4, f5, f6]) rfl ⟨rfl, F8.out.below B3.out (fun k h => by have h : k = w.heap.size + 1 := h; omega)⟩
set_option maxHeartbeats 4000000 in
theorem TrlOk0_i (p : Prog) (t : Term) (n : Int) (G1 G2 G5 G6 A1 A2 : Option Addr) (k1 k2 k5 k6 a1 a2 : Nat) (okp ok : Nat → Prop) (w : World) (hK : kProg.K w okp p [.slice A1 p.clauses.length a1, .slice A2 p.places.length a2]) (hG : kSGoal.V w ok (.slice G1 1 k1) [firstG t]) (hT : kCell.V w ok (.slice G5 t.length k5) t) (hq : question t = true) (hn : n = ((free t).length : Int)) :
    Calls Tryz.prog 58 #[.agg #[.slice A1 p.clauses.length a1, .slice A2 p.places.length a2], .int .i64 (-1), .agg #[.int .i64 1, .slice G1 1 k1, .slice G2 0 k2, .int .i64 n, .slice none 0 0, .slice G5 t.length k5, .slice G6 0 k6]] w fun e w' => e = .returned (.bool (prgOk p)) ∧ Below w.heap.size w w' := by
  have hu := Tryz.underlying93
  have hu2 := Tryz.underlying28
  have hu3 := Tryz.underlying187
  obtain ⟨g1, g2, g3⟩ := question_parts hq
  have HC := Sec.mk g1
  have HO : Sec (t.any (overC n) = false) := ⟨by rw [hn]; exact over_free g2⟩
  have HN : Sec (inB n 0 99999 = true) := ⟨by have := free_le t; unfold inB; simp; omega⟩
  have HTQ := Sec.mk hq
  have KP := Sec.mk hK
  have HG := Sec.mk hG
  have HT := Sec.mk hT
  have B0 := Sec.mk (belA (belA (Below.refl w.heap.size w) (.cells #[.slice A1 p.clauses.length a1, .slice A2 p.places.length a2] 28)) (.cells #[.int .i64 1, .slice G1 1 k1, .slice G2 0 k2, .int .i64 n, .slice none 0 0, .slice G5 t.length k5, .slice G6 0 k6] 93))
  have P0 := Sec.mk (box2 w (.cells #[.slice A1 p.clauses.length a1, .slice A2 p.places.length a2] 28) (.cells #[.int .i64 1, .slice G1 1 k1, .slice G2 0 k2, .int .i64 n, .slice none 0 0, .slice G5 t.length k5, .slice G6 0 k6] 93)).1
  have Q0 := Sec.mk (box2 w (.cells #[.slice A1 p.clauses.length a1, .slice A2 p.places.length a2] 28) (.cells #[.int .i64 1, .slice G1 1 k1, .slice G2 0 k2, .int .i64 n, .slice none 0 0, .slice G5 t.length k5, .slice G6 0 k6] 93)).2
  have X9 := (box_at P0.out).2.1
  have z0 := X9 0 _ rfl
  have z1 := X9 1 _ rfl
  clear X9
  have X9 := (box_at Q0.out).2.1
  have s0 := X9 0 _ rfl
  have s1 := X9 1 _ rfl
  have s2 := X9 2 _ rfl
  have s3 := X9 3 _ rfl
  have s4 := X9 4 _ rfl
  have s5 := X9 5 _ rfl
  have s6 := X9 6 _ rfl
  clear X9
  have T0 : Sec True := ⟨trivial⟩
  clear g1 g2 g3 hK hG hT hq hn
  cases hp : prgOk p with
  | false =>
    have HQ := Sec.mk hp
    clear hp
    go_enter Tryz.func58, Tryz.ntmps58
    go_wp2_with (clear T0; go_at_call 69; have T1 : Sec True := ⟨trivial⟩; refine (PrgOk_i p [.slice A1 p.clauses.length a1, .slice A2 p.places.length a2] okp _ (Kd.K_below KP.out B0.out)).mono ?_; rw [HQ.out]; rintro e w1 ⟨rfl, hb⟩; have B1 := Sec.mk (bel B0.out hb); have P1 := Sec.mk ((hb.block _ (Array.getElem?_eq_some_iff.1 P0.out).1).trans P0.out); have Q1 := Sec.mk ((hb.block _ (Array.getElem?_eq_some_iff.1 Q0.out).1).trans Q0.out); have X9 := (box_at P1.out).2.1; have z0 := X9 0 _ rfl; have z1 := X9 1 _ rfl; clear X9; have X9 := (box_at Q1.out).2.1; have s0 := X9 0 _ rfl; have s1 := X9 1 _ rfl; have s2 := X9 2 _ rfl; have s3 := X9 3 _ rfl; have s4 := X9 4 _ rfl; have s5 := X9 5 _ rfl; have s6 := X9 6 _ rfl; clear X9; clear hb)
    go_ret
    exact ⟨rfl, B1.out⟩
  | true =>
    have HQ := Sec.mk hp
    clear hp
    go_enter Tryz.func58, Tryz.ntmps58
    go_wp2_with (first | (clear T9; go_at_call 139; have T10 : Sec True := ⟨trivial⟩; refine (below_i _ t n ok _ (Kd.V_below HT.out B8.out (by decide))).mono ?_; rw [HO.out]; rintro e w10 ⟨rfl, hb⟩; have B10 := Sec.mk (bel B8.out hb); have P10 := Sec.mk ((hb.block _ (Array.getElem?_eq_some_iff.1 P8.out).1).trans P8.out); have Q10 := Sec.mk ((hb.block _ (Array.getElem?_eq_some_iff.1 Q8.out).1).trans Q8.out); have X9 := (box_at P10.out).2.1; have z0 := X9 0 _ rfl; have z1 := X9 1 _ rfl; clear X9; have X9 := (box_at Q10.out).2.1; have s0 := X9 0 _ rfl; have s1 := X9 1 _ rfl; have s2 := X9 2 _ rfl; have s3 := X9 3 _ rfl; have s4 := X9 4 _ rfl; have s5 := X9 5 _ rfl; have s6 := X9 6 _ rfl; clear X9; clear hb) | (clear T8; go_at_call 138; have T9 : Sec True := ⟨trivial⟩; refine (choicesOk0_i w3.heap.size none 0 _ ((box_at R8.out).2.1 4 _ rfl)).mono ?_; rintro e w9 ⟨rfl, rfl⟩) | (clear T7; go_at_call 137; have T8 : Sec True := ⟨trivial⟩; refine (goalsOk1_i t G1 k1 n ok _ (Kd.V_below HG.out B7.out (by decide)) HC.out HO.out).mono ?_; rintro e w8 ⟨rfl, hb⟩; have B8 := Sec.mk (bel B7.out hb); have P8 := Sec.mk ((hb.block _ (Array.getElem?_eq_some_iff.1 P7.out).1).trans P7.out); have Q8 := Sec.mk ((hb.block _ (Array.getElem?_eq_some_iff.1 Q7.out).1).trans Q7.out); have X9 := (box_at P8.out).2.1; have z0 := X9 0 _ rfl; have z1 := X9 1 _ rfl; clear X9; have X9 := (box_at Q8.out).2.1; have s0 := X9 0 _ rfl; have s1 := X9 1 _ rfl; have s2 := X9 2 _ rfl; have s3 := X9 3 _ rfl; have s4 := X9 4 _ rfl; have s5 := X9 5 _ rfl; have s6 := X9 6 _ rfl; clear X9; have R8 := Sec.mk ((hb.block _ (Array.getElem?_eq_some_iff.1 R7.out).1).trans R7.out); clear hb) | (clear T6; go_at_call 136; have T7 : Sec True := ⟨trivial⟩; refine (bindsBelow0_i _ _ _ _).mono ?_; rintro e w7 ⟨rfl, hb⟩; have B7 := Sec.mk (bel B6.out hb); have P7 := Sec.mk ((hb.block _ (Array.getElem?_eq_some_iff.1 P6.out).1).trans P6.out); have Q7 := Sec.mk ((hb.block _ (Array.getElem?_eq_some_iff.1 Q6.out).1).trans Q6.out); have X9 := (box_at P7.out).2.1; have z0 := X9 0 _ rfl; have z1 := X9 1 _ rfl; clear X9; have X9 := (box_at Q7.out).2.1; have s0 := X9 0 _ rfl; have s1 := X9 1 _ rfl; have s2 := X9 2 _ rfl; have s3 := X9 3 _ rfl; have s4 := X9 4 _ rfl; have s5 := X9 5 _ rfl; have s6 := X9 6 _ rfl; clear X9; have R7 := Sec.mk ((hb.block _ (Array.getElem?_eq_some_iff.1 R6.out).1).trans R6.out); clear hb) | (clear T5; go_at_call 135; have T6 : Sec True := ⟨trivial⟩; refine (SubOk0_i _ _ _).mono ?_; rintro e w6 ⟨rfl, hb0⟩; have R6 : Sec (w6.heap[w3.heap.size]? = some (.cells #[.int .i64 1, .slice G1 1 k1, .slice G2 0 k2, .int .i64 n, .slice none 0 0, .slice G5 t.length k5, .slice G6 0 k6, .slice A1 p.clauses.length a1, .slice A2 p.places.length a2, .int .i64 (-1)] 187 (0, 0))) := ⟨(hb0.block _ (Array.getElem?_eq_some_iff.1 (heap_alloc_new w3 _)).1).trans (heap_alloc_new w3 _)⟩; have hb := bel (belA (Below.refl w3.heap.size w3) _) hb0; clear hb0; have B6 := Sec.mk (bel B3.out hb); have P6 := Sec.mk ((hb.block _ (Array.getElem?_eq_some_iff.1 P3.out).1).trans P3.out); have Q6 := Sec.mk ((hb.block _ (Array.getElem?_eq_some_iff.1 Q3.out).1).trans Q3.out); have X9 := (box_at P6.out).2.1; have z0 := X9 0 _ rfl; have z1 := X9 1 _ rfl; clear X9; have X9 := (box_at Q6.out).2.1; have s0 := X9 0 _ rfl; have s1 := X9 1 _ rfl; have s2 := X9 2 _ rfl; have s3 := X9 3 _ rfl; have s4 := X9 4 _ rfl; have s5 := X9 5 _ rfl; have s6 := X9 6 _ rfl; clear X9; clear hb) | (clear T4; go_at_call 121; have T5 : Sec True := ⟨trivial⟩; refine (in_c n 0 99999 _).mono ?_; rw [show inB n 0 99999 = true from HN.out]; rintro e w24 ⟨rfl, rfl⟩) | (clear T3; go_at_call 121; have T4 : Sec True := ⟨trivial⟩; refine (in_c 1 3 5 _).mono ?_; rw [show inB 1 3 5 = false from rfl]; rintro e w23 ⟨rfl, rfl⟩) | (clear T2; go_at_call 70; have T3 : Sec True := ⟨trivial⟩; refine (isQuestion_i _ t ok _ (Kd.V_below HT.out B1.out (by decide))).mono ?_; rw [HTQ.out]; rintro e w3 ⟨rfl, hb⟩; have B3 := Sec.mk (bel B1.out hb); have P3 := Sec.mk ((hb.block _ (Array.getElem?_eq_some_iff.1 P1.out).1).trans P1.out); have Q3 := Sec.mk ((hb.block _ (Array.getElem?_eq_some_iff.1 Q1.out).1).trans Q1.out); have X9 := (box_at P3.out).2.1; have z0 := X9 0 _ rfl; have z1 := X9 1 _ rfl; clear X9; have X9 := (box_at Q3.out).2.1; have s0 := X9 0 _ rfl; have s1 := X9 1 _ rfl; have s2 := X9 2 _ rfl; have s3 := X9 3 _ rfl; have s4 := X9 4 _ rfl; have s5 := X9 5 _ rfl; have s6 := X9 6 _ rfl; clear X9; clear hb; have Q4 := Sec.mk (box_cells (belA (Below.refl w3.heap.size w3) (.cells #[.int .i64 1, .slice G1 1 k1, .slice G2 0 k2, .int .i64 n, .slice none 0 0, .slice G5 t.length k5, .slice G6 0 k6, .slice A1 p.clauses.length a1, .slice A2 p.places.length a2, .int .i64 (-1)] 187)) Q3.out).1; have X9 := (box_at Q4.out).2.1; have y0 := X9 0 _ rfl; have y1 := X9 1 _ rfl; have y2 := X9 2 _ rfl; have y3 := X9 3 _ rfl; have y4 := X9 4 _ rfl; have y5 := X9 5 _ rfl; have y6 := X9 6 _ rfl; clear X9) | (clear T1; go_at_call 121; have T2 : Sec True := ⟨trivial⟩; refine (in_c (-1) (-1) 2 _).mono ?_; rw [show inB (-1) (-1) 2 = true from rfl]; rintro e w21 ⟨rfl, rfl⟩) | (clear T0; go_at_call 69; have T1 : Sec True := ⟨trivial⟩; refine (PrgOk_i p [.slice A1 p.clauses.length a1, .slice A2 p.places.length a2] okp _ (Kd.K_below KP.out B0.out)).mono ?_; rw [HQ.out]; rintro e w1 ⟨rfl, hb⟩; have B1 := Sec.mk (bel B0.out hb); have P1 := Sec.mk ((hb.block _ (Array.getElem?_eq_some_iff.1 P0.out).1).trans P0.out); have Q1 := Sec.mk ((hb.block _ (Array.getElem?_eq_some_iff.1 Q0.out).1).trans Q0.out); have X9 := (box_at P1.out).2.1; have z0 := X9 0 _ rfl; have z1 := X9 1 _ rfl; clear X9; have X9 := (box_at Q1.out).2.1; have s0 := X9 0 _ rfl; have s1 := X9 1 _ rfl; have s2 := X9 2 _ rfl; have s3 := X9 3 _ rfl; have s4 := X9 4 _ rfl; have s5 := X9 5 _ rfl; have s6 := X9 6 _ rfl; clear X9; clear hb))
    go_ret
    exact ⟨rfl, B10.out⟩
set_option maxHeartbeats 4000000 in
theorem SlvOk0_i (p : Prog) (t : Term) (n : Int) (G1 G2 G4 G5 G6 A1 A2 : Option Addr) (k1 k2 k4 k5 k6 a1 a2 : Nat) (okp ok : Nat → Prop) (w : World) (hK : kProg.K w okp p [.slice A1 p.clauses.length a1, .slice A2 p.places.length a2]) (hG : kSGoal.V w ok (.slice G1 1 k1) [firstG t]) (hT : kCell.V w ok (.slice G5 t.length k5) t) (hq : question t = true) (hn : n = ((free t).length : Int)) :
    Calls Tryz.prog 16 #[.agg #[.slice A1 p.clauses.length a1, .slice A2 p.places.length a2], .agg #[.int .i64 1, .slice G1 1 k1, .slice G2 0 k2, .int .i64 n, .slice G4 0 k4, .slice G5 t.length k5, .slice G6 0 k6]] w fun e w' => e = .returned (.bool (prgOk p)) ∧ Below w.heap.size w w' := by
  have hu := Tryz.underlying34
  have hu2 := Tryz.underlying28
  have hu3 := Tryz.underlying93
  have HQ := Sec.mk hq
  have HN := Sec.mk hn
  have KP := Sec.mk hK
  have HG := Sec.mk hG
  have HT := Sec.mk hT
  have B0 := Sec.mk (belA (belA (Below.refl w.heap.size w) (.cells #[.slice A1 p.clauses.length a1, .slice A2 p.places.length a2] 28)) (.cells #[.int .i64 1, .slice G1 1 k1, .slice G2 0 k2, .int .i64 n, .slice G4 0 k4, .slice G5 t.length k5, .slice G6 0 k6] 34))
  have P0 := Sec.mk (box2 w (.cells #[.slice A1 p.clauses.length a1, .slice A2 p.places.length a2] 28) (.cells #[.int .i64 1, .slice G1 1 k1, .slice G2 0 k2, .int .i64 n, .slice G4 0 k4, .slice G5 t.length k5, .slice G6 0 k6] 34)).1
  have Q0 := Sec.mk (box2 w (.cells #[.slice A1 p.clauses.length a1, .slice A2 p.places.length a2] 28) (.cells #[.int .i64 1, .slice G1 1 k1, .slice G2 0 k2, .int .i64 n, .slice G4 0 k4, .slice G5 t.length k5, .slice G6 0 k6] 34)).2
  have X9 := (box_at P0.out).2.1
  have z0 := X9 0 _ rfl
  have z1 := X9 1 _ rfl
  clear X9
  have X9 := (box_at Q0.out).2.1
  have s0 := X9 0 _ rfl
  have s1 := X9 1 _ rfl
  have s2 := X9 2 _ rfl
  have s3 := X9 3 _ rfl
  have s4 := X9 4 _ rfl
  have s5 := X9 5 _ rfl
  have s6 := X9 6 _ rfl
  clear X9
  have T0 : Sec True := ⟨trivial⟩
  obtain ⟨res, hres⟩ : ∃ b, prgOk p = b := ⟨_, rfl⟩
  have HR := Sec.mk hres
  rw [hres]
  clear hK hG hT hq hn hres
  go_enter Tryz.func16, Tryz.ntmps16
  go_wp2_with (first | (clear T1; go_at_call 58; have T2 : Sec True := ⟨trivial⟩; refine (TrlOk0_i p t n G1 G2 G5 G6 A1 A2 k1 k2 k5 k6 a1 a2 okp ok _ (Kd.K_below KP.out (belA B1.out _)) (Kd.V_below HG.out (belA B1.out _) (by decide)) (Kd.V_below HT.out (belA B1.out _) (by decide)) HQ.out HN.out).mono ?_; rw [HR.out]; rintro e w2 ⟨rfl, hb⟩; have B2 := Sec.mk (bel (belA B1.out _) hb); clear hb) | (clear T0; go_at_call 57; have T1 : Sec True := ⟨trivial⟩; refine (marked0_i t n G1 G2 G4 G5 G6 k1 k2 k4 k5 k6 _).mono ?_; rintro e w1 ⟨rfl, hb⟩; have B1 := Sec.mk (bel B0.out hb); have P1 := Sec.mk ((hb.block _ (Array.getElem?_eq_some_iff.1 P0.out).1).trans P0.out); have Q1 := Sec.mk (box_cells (belA (Below.refl w1.heap.size w1) (.cells #[.int .i64 1, .slice G1 1 k1, .slice G2 0 k2, .int .i64 n, .slice none 0 0, .slice G5 t.length k5, .slice G6 0 k6] 93)) P1.out).1; have X9 := (box_at Q1.out).2.1; have z0 := X9 0 _ rfl; have z1 := X9 1 _ rfl; clear X9; have Y9 := (box_at (heap_alloc_new w1 (.cells #[.int .i64 1, .slice G1 1 k1, .slice G2 0 k2, .int .i64 n, .slice none 0 0, .slice G5 t.length k5, .slice G6 0 k6] 93))).2.1; have y0 := Y9 0 _ rfl; have y1 := Y9 1 _ rfl; have y2 := Y9 2 _ rfl; have y3 := Y9 3 _ rfl; have y4 := Y9 4 _ rfl; have y5 := Y9 5 _ rfl; have y6 := Y9 6 _ rfl; clear Y9 hb))
  go_ret
  exact ⟨rfl, B2.out⟩
end
end Go.Proofs.YtgiobpggonceeaaGreatDoor
