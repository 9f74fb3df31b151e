/- Draws of places that may be no term. Conditions: the reader has been asked no more than a number of times. -/
import Derived.Test.YtkdfmnaijgkfhaaDoorDraw1
import Derived.Deep.RegionHeld3
import Derived.Deep.RegionWith
namespace Go.Proofs.YtkdfmnaijgkfhaaDoor
open Go.RowKit
set_option linter.unusedVariables false
set_option maxRecDepth 100000

/-- Places with short names and small numbers. -/
def Places (t : Term) : Prop := ∀ x ∈ t, x.name.size ≤ 11 ∧ -300000 ≤ x.n ∧ x.n ≤ 300000
theorem Drawn.places {t : Term} (h : Drawn t) : Places t := fun x hx => by have := h x hx; exact ⟨by omega, by omega, by omega⟩
def SpoilOut (w0 w : World) (g P : Nat) (e : Ending) (w' : World) : Prop := ∃ u t, e = .returned u ∧ kCell.R w' (fun k => w.heap.size ≤ k) u t ∧ t.length ≤ 41 ∧ Places t ∧ Rd w0 w' g (P + 10) ∧ Only g w w'
/-- What holds while places are spoiled. -/
structure SX (w0 w : World) (g P : Nat) (v : Value) (t : Term) (wr : World) : Prop where
  row : kCell.R wr (fun k => w.heap.size ≤ k) v t
  rd : Rd w0 wr g P
  only : Only g w wr
theorem SX.pick {w0 w w1 w2 : World} {g P P' : Nat} {v : Value} {t : Term} (h : SX w0 w g P v t w1) (hg : g < w.heap.size) (hR : Rd w0 w2 g P') (hO : Only g w1 w2) : SX w0 w g P' v t w2 :=
  ⟨Kd.R_move (hO.keeps (ok := fun k => w.heap.size ≤ k) (by omega)) h.row, hR, h.only.trans hO⟩
theorem SX.alloc {w0 w w1 : World} {g P : Nat} {v : Value} {t : Term} (h : SX w0 w g P v t w1) (o : Obj) : SX w0 w g P v t (w1.alloc o) :=
  ⟨Kd.R_below h.row (belA (Below.refl _ _) _), h.rd.below (belA (Below.refl _ _) _), h.only.alloc _⟩
theorem SX.drew {w0 w w1 : World} {g P : Nat} {v : Value} {t : Term} (h : SX w0 w g P v t w1) : SX w0 w g P v t w1.drew :=
  ⟨Kd.R_below h.row (belD (Below.refl _ _)), h.rd.below (belD (Below.refl _ _)), h.only.drew⟩
theorem SX.rdm {w0 w w1 : World} {g P P' : Nat} {v : Value} {t : Term} (h : SX w0 w g P v t w1) (hP : P ≤ P') : SX w0 w g P' v t w1 := ⟨h.row, h.rd.mono hP, h.only⟩
theorem places_set {t : Term} (h : Places t) {i : Nat} (x : Cell) (hx : x.name.size ≤ 11 ∧ -300000 ≤ x.n ∧ x.n ≤ 300000) : Places (t.set i x) := fun y hy => by
  rcases List.mem_or_eq_of_mem_set hy with hy | rfl
  · exact h y hy
  · exact hx
theorem tab_lit (xs : List Int) {r : Int} (h0 : 0 ≤ r) (h1 : r < xs.length) : ∃ v : Int, v ∈ xs ∧ ∀ w : World, (w.alloc (.cells (xs.map (Value.int .i64)).toArray 3)).cell? ⟨w.heap.size, r.toNat, none⟩ = some (.int .i64 v) := by
  have hr : r.toNat < xs.length := by omega
  refine ⟨xs[r.toNat], List.getElem_mem _, fun w => ?_⟩
  rw [cell_of_row _ _ _ _ _ _ (heap_alloc_new w _)]
  simp [hr]
theorem SX.grown {w0 w w1 w2 : World} {g P : Nat} {v v2 : Value} {t t2 : Term} {row : Option Nat} (h : SX w0 w g P v t w1) (hw0 : w0.heap.size ≤ w.heap.size) (hlt : g < w.heap.size) (hR : kCell.R w2 (fun k => w.heap.size ≤ k) v2 t2) (hg : w1.grownBy w2 row) (hr : ∀ k, row = some k → w.heap.size ≤ k) : SX w0 w g P v2 t2 w2 :=
  ⟨hR, h.rd.grown hg (fun k e => ⟨by have := hr k e; omega, by have := hr k e; omega⟩), h.only.grown hg hr⟩
theorem SX.store {w0 w w1 : World} {g P b n cap : Nat} {t : Term} (h : SX w0 w g P (.slice (some ⟨b, 0, none⟩) n cap) t w1) (hw0 : w0.heap.size ≤ w.heap.size) (hlt : g < w.heap.size) (i j : Nat) (x' : Cell) (u : Value) (hi : i < t.length) (hj : j < 3) (hx : cellC x' = (cellC t[i]).set j u) (hn : x'.name.size ≤ 1073741824) :
    SX w0 w g P (.slice (some ⟨b, 0, none⟩) n cap) (t.set i x') (w1.setCell ⟨b, i * 3 + j, none⟩ u) := by
  have hb : w.heap.size ≤ b := by
    obtain ⟨_, _, _, h3⟩ := Kd.R_own h.row
    exact (h3 b rfl).1
  exact ⟨kCell_store h.row i j x' u hi hj hx hn, h.rd.set (by omega) (by omega) _ _, h.only.setNew hb _ _⟩

def SpA (w0 w : World) (g P b k tb : Nat) (m : Int) (u : Value) (t : Term) (e : Ending) (w4 : World) : Prop := ∃ r v : Int, e = .returned (.int .i64 r) ∧ 0 ≤ r ∧ r < 4 ∧ (-99999 ≤ v ∧ v ≤ 99999) ∧ w4.cell? ⟨tb, r.toNat, none⟩ = some (.int .i64 v) ∧ SX w0 w g (P + 3) u t w4 ∧ w4.cell? ⟨b, k * 3 + 1, none⟩ = some (.int .i64 m) ∧ w4.frozen? ⟨b, k * 3 + 1, none⟩ = false ∧ b < w4.heap.size
def SpB (w0 w : World) (g P b k : Nat) (m : Int) (u : Value) (t : Term) (e : Ending) (w4 : World) : Prop := ∃ r v : Int, e = .returned (.int .i64 r) ∧ 0 ≤ r ∧ r < 4 ∧ (-99999 ≤ v ∧ v ≤ 99999) ∧ (∀ w : World, (w.alloc (.cells #[.int .i64 1, .int .i64 (-1), .int .i64 99999, .int .i64 (-99999)] 3)).cell? ⟨w.heap.size, r.toNat, none⟩ = some (.int .i64 v)) ∧ SX w0 w g (P + 3) u t w4 ∧ w4.cell? ⟨b, k * 3 + 1, none⟩ = some (.int .i64 m) ∧ w4.frozen? ⟨b, k * 3 + 1, none⟩ = false ∧ b < w4.heap.size
set_option maxHeartbeats 1000000 in
theorem spoil_c (w0 w : World) (g P : Nat) (v : Value) (t : Term) (hR : Rd w0 w g P) (hP : P ≤ 999999000) (hV : kCell.V w (fun k => k ≠ g) v t) (ht : t ≠ []) (hl : t.length ≤ 40) (hD : Drawn t) :
    Calls Tryd.prog 76 #[.pointer (some ⟨g, 0, none⟩), v] w (SpoilOut w0 w g P) := by
  have hu := Tryd.underlying55
  have H0 := Sec.mk hR
  have hlt := hR.lt
  have hB0 : w0.heap.size ≤ w.heap.size := hR.bel.size
  have hge := hR.ge
  obtain ⟨A, c, hv, _⟩ := id hV
  subst hv
  have HV := Sec.mk hV
  have HD := Sec.mk hD
  have h0 : 0 < t.length := List.length_pos_iff.2 ht
  clear hR hV hD ht
  go_enter Tryd.func76, Tryd.ntmps76
  go_wp2_with (at_builtin; refine Kd.W_cat kCell rfl (.tmp 7) (.tmp 8) 26 (.agg #[.int .i64 0, .int .i64 0, .string ⟨#[]⟩]) 32 rfl Tryd.underlying26 info_cell rfl (by decide) (by decide) (.slice (some ⟨w.heap.size, 0, none⟩) 0 0) _ [] t (fun k => w.heap.size ≤ k) (fun k => k ≠ g) rfl rfl (Kd.W_empty kCell w _ _ (Nat.le_refl _)) (Kd.V_move (fun k hk hl => ⟨⟨hk, by simp [Value.ownBlock]; omega⟩, Below.heap_alloc _ _ _ hl⟩) HV.out (by decide)) (by simp; omega) ?_; intro v1 w1 hR1 hg1; have S1 := Sec.mk (show SX w0 w g P v1 t w1 from ⟨Kd.R_mono (kCell_W_R hR1) (fun k hk _ => hk.elim id (fun h => by simp at h; omega)), (H0.out.below (belA (Below.refl _ _) _)).grown hg1 (fun k e => by simp [Value.ownBlock] at e; omega), ((Only.refl g w).alloc _).grown hg1 (fun k e => by simp [Value.ownBlock] at e; omega)⟩); obtain ⟨A1, c1, e1, _⟩ := Kd.R_form S1.out.row; subst e1; clear hR1 hg1)
  refine (pick_c w0 _ g P _ S1.out.rd (by omega)).mono ?_
  rintro e w2 ⟨k, rfl, ⟨k0, k1, _⟩, hR2, hO2⟩
  have k2 := k1 (by omega)
  have S2 := Sec.mk (S1.out.pick hlt hR2 hO2)
  clear hR2 hO2 k1
  obtain ⟨k, rfl⟩ := Int.eq_ofNat_of_zero_le k0
  have k3 : k < t.length := by omega
  clear k0 k2
  go_wp2_with fail
  refine (pick_c w0 _ g (P + 1) 7 S2.out.rd (by omega)).mono ?_
  rintro e w3 ⟨r, rfl, ⟨r0, r1, _⟩, hR3, hO3⟩
  have r2 := r1 (by omega)
  have S3 := Sec.mk (S2.out.pick hlt hR3 hO3)
  clear hR3 hO3 r1
  obtain ⟨b, rfl, _, hb0, hb1, kf⟩ := Kd.R_block S3.out.row h0
  have hC := Kd.V_C (Kd.R_V S3.out.row)
  obtain ⟨b', off, hA, _, c0, c1', c2, hnm⟩ := cell_at hC k k3
  simp only [Option.some.injEq, Addr.mk.injEq, and_true] at hA
  obtain ⟨rfl, rfl⟩ := hA
  rw [Nat.zero_add] at c0 c1' c2
  have hxm := HD.out _ (List.getElem_mem k3)
  have hpl : Sec (Places t) := ⟨HD.out.places⟩
  clear hC
  have hb3 : w.heap.size ≤ w3.heap.size := S3.out.only.size
  rcases (by omega : r = 0 ∨ r = 1 ∨ r = 2 ∨ r = 3 ∨ r = 4 ∨ r = 5 ∨ r = 6) with rfl | rfl | rfl | rfl | rfl | rfl | rfl
  · go_wp2_with fail
    go_ret
    exact ⟨_, _, rfl, kCell_cut S3.out.row k (by omega), by rw [List.length_take]; omega, fun x hx => hpl.out x (List.mem_of_mem_take hx), S3.out.rd.mono (by omega), S3.out.only⟩
  · go_wp2_with (at_builtin; refine Kd.R_appG kCell (B := w.heap.size) rfl (.tmp 32) (.tmp 37) 26 (.agg #[.int .i64 0, .int .i64 0, .string ⟨#[]⟩]) 32 rfl Tryd.underlying26 info_cell rfl (by decide) (by decide) _ _ t[k] [.int .i64 t[k].kind, .int .i64 t[k].n, .string t[k].name] rfl rfl (by simp) S3.out.row (by omega) (kCell_none _ _ hnm) (by omega) ?_; intro v9 w9 hR9 hg9 hr9; have S9 := Sec.mk (S3.out.grown hB0 hlt hR9 hg9 hr9); clear hR9 hg9 hr9)
    go_ret
    exact ⟨_, _, rfl, S9.out.row, by rw [List.length_append, List.length_singleton]; omega, fun x hx => by
      rcases List.mem_append.1 hx with h | h
      · exact hpl.out x h
      · rw [List.mem_singleton.1 h]; exact hpl.out _ (List.getElem_mem k3), S9.out.rd.mono (by omega), S9.out.only⟩
  · go_wp2
    have hk0 : ((k : Int) < (t.length : Int)) := by omega
    have CA := Sec.mk ((pick_c w0 (w3.alloc (.cells #[.int .i64 1, .int .i64 (-1), .int .i64 99999, .int .i64 (-99999)] 3)).drew g (P + 2) 4 ((S3.out.rd.mono (by omega)).below (belD (belA (Below.refl _ _) _))) (by omega)).mono (R' := SpA w0 w g P b k w3.heap.size t[k].n (.slice (some ⟨b, 0, none⟩) t.length c1) t) (by
      rintro e w4 ⟨r, rfl, ⟨q0, q1, _⟩, hR4, hO4⟩
      have q2 := q1 (by omega)
      obtain ⟨v, hv, ct⟩ := tab_int _ [1, -1, 99999, -99999] rfl (show (w3.alloc (.cells #[.int .i64 1, .int .i64 (-1), .int .i64 99999, .int .i64 (-99999)] 3)).drew.heap[w3.heap.size]? = _ from heap_alloc_new w3 _) (by omega) hO4 q0 q2
      have hbz : b < (w3.alloc (.cells #[.int .i64 1, .int .i64 (-1), .int .i64 99999, .int .i64 (-99999)] 3)).heap.size := by simp; omega
      refine ⟨r, v, rfl, q0, q2, by simp at hv; omega, ct, ((S3.out.alloc _).drew).pick hlt hR4 hO4, ?_, ?_, Nat.lt_of_lt_of_le hbz hO4.size⟩
      · exact (World.cell?_of_block (a := ⟨b, k * 3 + 1, none⟩) (hO4.block b hbz (by omega))).trans ((World.cell?_of_block (a := ⟨b, k * 3 + 1, none⟩) (Below.heap_alloc _ _ _ hb1)).trans c1')
      · exact (World.frozen?_of_block (a := ⟨b, k * 3 + 1, none⟩) (hO4.block b hbz (by omega))).trans ((World.frozen?_of_block (a := ⟨b, k * 3 + 1, none⟩) (Below.heap_alloc _ _ _ hb1)).trans (kf _))))
    have CB := Sec.mk ((pick_c w0 w3.drew g (P + 2) 4 ((S3.out.rd.mono (by omega)).below (belD (Below.refl _ _))) (by omega)).mono (R' := SpB w0 w g P b k t[k].n (.slice (some ⟨b, 0, none⟩) t.length c1) t) (by
      rintro e w4 ⟨r, rfl, ⟨q0, q1, _⟩, hR4, hO4⟩
      have q2 := q1 (by omega)
      obtain ⟨v, hv, ct⟩ := tab_lit [1, -1, 99999, -99999] q0 q2
      refine ⟨r, v, rfl, q0, q2, by simp at hv; omega, ct, ((S3.out.drew).pick hlt hR4 hO4), ?_, ?_, Nat.lt_of_lt_of_le hb1 hO4.size⟩
      · exact (World.cell?_of_block (a := ⟨b, k * 3 + 1, none⟩) (hO4.block b hb1 (by omega))).trans c1'
      · exact (World.frozen?_of_block (a := ⟨b, k * 3 + 1, none⟩) (hO4.block b hb1 (by omega))).trans (kf _)))
    go_region_with (first | (go_at_call 48; refine CA.out.mono ?_; rintro e w4 ⟨r, v, rfl, q0, q2, hv9, ct, S4, kc9, kf9, hb9⟩; have S4 := Sec.mk S4; have hv9 := Sec.mk hv9) | (go_at_call 48; refine CB.out.mono ?_; rintro e w4 ⟨r, v, rfl, q0, q2, hv9, ct, S4, kc9, kf9, hb9⟩; have S4 := Sec.mk S4; have hv9 := Sec.mk hv9))
    all_goals
      obtain ⟨hv1, hv2⟩ := hv9.out
      have wq : Sec (IntKind.i64.wrap (t[k].n + v) = t[k].n + v) := ⟨IntWalk.i64_in _ (by omega)⟩
      have S5 := Sec.mk (S4.out.store hB0 hlt k 1 ⟨t[k].kind, IntKind.i64.wrap (t[k].n + v), t[k].name⟩ (.int .i64 (IntKind.i64.wrap (t[k].n + v))) k3 (by omega) rfl (by show t[k].name.size ≤ _; omega))
      have S6 := Sec.mk (S5.out.alloc (.cells #[.int .i64 1, .int .i64 (-1), .int .i64 99999, .int .i64 (-99999)] 3))
      have S7 := Sec.mk ((S4.out.alloc (.cells #[.int .i64 1, .int .i64 (-1), .int .i64 99999, .int .i64 (-99999)] 3)).store hB0 hlt k 1 ⟨t[k].kind, IntKind.i64.wrap (t[k].n + v), t[k].name⟩ (.int .i64 (IntKind.i64.wrap (t[k].n + v))) k3 (by omega) rfl (by show t[k].name.size ≤ _; omega))
      have hp9 := Sec.mk (places_set hpl.out (i := k) ⟨t[k].kind, IntKind.i64.wrap (t[k].n + v), t[k].name⟩ ⟨by show t[k].name.size ≤ 11; omega, by show -300000 ≤ IntKind.i64.wrap (t[k].n + v); rw [wq.out]; omega, by show IntKind.i64.wrap (t[k].n + v) ≤ 300000; rw [wq.out]; omega⟩)
      go_wp2
      go_ret
      first
        | exact ⟨_, _, rfl, S5.out.row, by rw [List.length_set]; omega, hp9.out, S5.out.rd.mono (by omega), S5.out.only⟩
        | exact ⟨_, _, rfl, S6.out.row, by rw [List.length_set]; omega, hp9.out, S6.out.rd.mono (by omega), S6.out.only⟩
        | exact ⟨_, _, rfl, S7.out.row, by rw [List.length_set]; omega, hp9.out, S7.out.rd.mono (by omega), S7.out.only⟩
  · go_wp2_with fail
    have Ht := Sec.mk (heap_alloc_new w3 (.cells #[.string ⟨#[]⟩, .string ⟨#[116, 111, 111, 108, 111, 110, 103, 110, 97, 109, 101]⟩, .string ⟨#[65]⟩, .string ⟨#[97]⟩] 9))
    refine (pick_c w0 _ g (P + 2) 4 ((S3.out.rd.mono (by omega)).below (belA (Below.refl _ _) _)) (by omega)).mono ?_
    rintro e w4 ⟨r, rfl, ⟨q0, q1, _⟩, hR4, hO4⟩
    have q2 := q1 (by omega)
    obtain ⟨v, hv, ct⟩ := tab_str _ [⟨#[]⟩, ⟨#[116, 111, 111, 108, 111, 110, 103, 110, 97, 109, 101]⟩, ⟨#[65]⟩, ⟨#[97]⟩] rfl Ht.out (by omega) hO4 q0 q2
    have hvn : v.size ≤ 11 := by simp at hv; rcases hv with rfl | rfl | rfl | rfl <;> decide
    have S4 := Sec.mk ((S3.out.alloc _).pick hlt hR4 hO4)
    have S5 := Sec.mk (S4.out.store hB0 hlt k 2 ⟨t[k].kind, t[k].n, v⟩ (.string v) k3 (by omega) rfl (by show v.size ≤ _; omega))
    have hb4 : b < w4.heap.size := by have := hO4.size; simp at this; omega
    have kf4 : ∀ j, w4.frozen? ⟨b, j, none⟩ = false := fun j => (World.frozen?_of_block (a := ⟨b, j, none⟩) (hO4.block b (by simp; omega) (by omega))).trans ((World.frozen?_of_block (a := ⟨b, j, none⟩) (Below.heap_alloc _ _ _ hb1)).trans (kf j))
    have kc4 : w4.cell? ⟨b, k * 3 + 2, none⟩ = some (.string t[k].name) := ((World.cell?_of_block (a := ⟨b, k * 3 + 2, none⟩) (hO4.block b (by simp; omega) (by omega))).trans ((World.cell?_of_block (a := ⟨b, k * 3 + 2, none⟩) (Below.heap_alloc _ _ _ hb1)).trans c2))
    clear hO4 hR4 q1 hv kf
    go_wp2
    go_ret
    exact ⟨_, _, rfl, S5.out.row, by rw [List.length_set]; omega, places_set hpl.out _ ⟨hvn, by show -300000 ≤ t[k].n; omega, by show t[k].n ≤ 300000; omega⟩, S5.out.rd.mono (by omega), S5.out.only⟩
  · go_wp2_with fail
    refine (pick_c w0 _ g (P + 2) 5 (S3.out.rd.mono (by omega)) (by omega)).mono ?_
    rintro e w4 ⟨r, rfl, ⟨q0, q1, _⟩, hR4, hO4⟩
    have q2 := q1 (by omega)
    have S4 := Sec.mk (S3.out.pick hlt hR4 hO4)
    have S5 := Sec.mk (S4.out.store hB0 hlt k 0 ⟨r, t[k].n, t[k].name⟩ (.int .i64 r) k3 (by omega) rfl (by show t[k].name.size ≤ _; omega))
    have hb4 : b < w4.heap.size := by have := hO4.size; omega
    have kf4 : ∀ j, w4.frozen? ⟨b, j, none⟩ = false := fun j => (World.frozen?_of_block (a := ⟨b, j, none⟩) (hO4.block b (by omega) (by omega))).trans (kf j)
    have kc4 : w4.cell? ⟨b, k * 3, none⟩ = some (.int .i64 t[k].kind) := (World.cell?_of_block (a := ⟨b, k * 3, none⟩) (hO4.block b (by omega) (by omega))).trans c0
    clear hO4 hR4 q1 kf
    go_wp2
    go_ret
    exact ⟨_, _, rfl, S5.out.row, by rw [List.length_set]; omega, places_set hpl.out _ ⟨by show t[k].name.size ≤ 11; omega, by show -300000 ≤ t[k].n; omega, by show t[k].n ≤ 300000; omega⟩, S5.out.rd.mono (by omega), S5.out.only⟩
  · go_wp2
    go_loopw [5] (fun v wr => ∃ t' : Term, t'.length ≤ 41 ∧ Sec (Places t' ∧ SX w0 w g (P + 2) v t' wr)) (fun v _ => 50 - lenOf v)
    case atStart => exact ⟨t, by omega, ⟨hpl.out, S3.out.rdm (by omega)⟩⟩
    case round =>
      obtain ⟨t', hl', hS⟩ := hrel
      obtain ⟨A', c', e, _⟩ := Kd.R_form hS.out.2.row
      subst e
      clear c0 c1' c2 kf hnm
      by_cases h40 : (t'.length : Int) ≤ 40
      · go_wp2_with (at_builtin; refine Kd.R_appG kCell (B := w.heap.size) rfl (.tmp 80) (.tmp 82) 26 (.agg #[.int .i64 0, .int .i64 0, .string ⟨#[]⟩]) 32 rfl Tryd.underlying26 info_cell rfl (by decide) (by decide) _ _ ⟨3, 1, ⟨#[102]⟩⟩ [.int .i64 3, .int .i64 1, .string ⟨#[102]⟩] rfl rfl (by simp) hS.out.2.row (by have := hS.out.2.only.size; omega) (kCell_none _ ⟨3, 1, ⟨#[102]⟩⟩ (by decide)) (by omega) ?_; intro v9 w9 hR9 hg9 hr9; have S9 := Sec.mk (hS.out.2.grown hB0 hlt hR9 hg9 hr9); have L9 := Sec.mk (lenOf_R hR9); clear hR9 hg9 hr9)
        go_roundw
        case rel => exact ⟨t' ++ [⟨3, 1, ⟨#[102]⟩⟩], by simp; omega, ⟨fun x hx => by
          rcases List.mem_append.1 hx with h | h
          · exact hS.out.1 x h
          · rw [List.mem_singleton.1 h]; exact ⟨by decide, by decide, by decide⟩, S9.out⟩⟩
        case measure => have h9 := L9.out; rw [List.length_append] at h9; show 50 - lenOf _ < 50 - lenOf _; rw [h9]; simp only [lenOf, List.length_singleton]; omega
      · go_wp2
        go_ret
        exact ⟨_, t', rfl, hS.out.2.row, hl', hS.out.1, hS.out.2.rd.mono (by omega), hS.out.2.only⟩
  · go_wp2_with fail
    have Ht := Sec.mk (heap_alloc_new w3 (.cells #[.int .i64 99999, .int .i64 100000, .int .i64 (-1)] 3))
    refine (pick_c w0 _ g (P + 2) 3 ((S3.out.rd.mono (by omega)).below (belA (Below.refl _ _) _)) (by omega)).mono ?_
    rintro e w4 ⟨r, rfl, ⟨q0, q1, _⟩, hR4, hO4⟩
    have q2 := q1 (by omega)
    obtain ⟨v, hv, ct⟩ := tab_int _ [99999, 100000, -1] rfl Ht.out (by omega) hO4 q0 q2
    have hvn : -300000 ≤ v ∧ v ≤ 300000 := by simp at hv; omega
    have S4 := Sec.mk ((S3.out.alloc _).pick hlt hR4 hO4)
    have e1 : (t.set k ⟨1, t[k].n, t[k].name⟩).length = t.length := by simp
    have e2 : ((t.set k ⟨1, t[k].n, t[k].name⟩).set k ⟨1, v, t[k].name⟩).length = t.length := by simp
    have S5 := Sec.mk (((S4.out.store hB0 hlt k 0 ⟨1, t[k].n, t[k].name⟩ (.int .i64 1) k3 (by omega) rfl (by show t[k].name.size ≤ _; omega)).store hB0 hlt k 1 ⟨1, v, t[k].name⟩ (.int .i64 v) (by omega) (by omega) (by simp [cellC]) (by show t[k].name.size ≤ _; omega)).store hB0 hlt k 2 ⟨1, v, ⟨#[]⟩⟩ (.string ⟨#[]⟩) (by omega) (by omega) (by simp [cellC]) (by show (⟨#[]⟩ : ByteArray).size ≤ _; decide))
    have hb4 : b < w4.heap.size := by have := hO4.size; simp at this; omega
    have kf4 : ∀ j, w4.frozen? ⟨b, j, none⟩ = false := fun j => (World.frozen?_of_block (a := ⟨b, j, none⟩) (hO4.block b (by simp; omega) (by omega))).trans ((World.frozen?_of_block (a := ⟨b, j, none⟩) (Below.heap_alloc _ _ _ hb1)).trans (kf j))
    have kc0 : w4.cell? ⟨b, k * 3, none⟩ = some (.int .i64 t[k].kind) := ((World.cell?_of_block (a := ⟨b, k * 3, none⟩) (hO4.block b (by simp; omega) (by omega))).trans ((World.cell?_of_block (a := ⟨b, k * 3, none⟩) (Below.heap_alloc _ _ _ hb1)).trans c0))
    have kc1 : w4.cell? ⟨b, k * 3 + 1, none⟩ = some (.int .i64 t[k].n) := ((World.cell?_of_block (a := ⟨b, k * 3 + 1, none⟩) (hO4.block b (by simp; omega) (by omega))).trans ((World.cell?_of_block (a := ⟨b, k * 3 + 1, none⟩) (Below.heap_alloc _ _ _ hb1)).trans c1'))
    have kc2 : w4.cell? ⟨b, k * 3 + 2, none⟩ = some (.string t[k].name) := ((World.cell?_of_block (a := ⟨b, k * 3 + 2, none⟩) (hO4.block b (by simp; omega) (by omega))).trans ((World.cell?_of_block (a := ⟨b, k * 3 + 2, none⟩) (Below.heap_alloc _ _ _ hb1)).trans c2))
    have hp1 : Sec (Places (((t.set k ⟨1, t[k].n, t[k].name⟩).set k ⟨1, v, t[k].name⟩).set k ⟨1, v, ⟨#[]⟩⟩)) := ⟨places_set (places_set (places_set hpl.out _ ⟨by show t[k].name.size ≤ 11; omega, by show -300000 ≤ t[k].n; omega, by show t[k].n ≤ 300000; omega⟩) _ ⟨by show t[k].name.size ≤ 11; omega, hvn.1, hvn.2⟩) _ ⟨by show (⟨#[]⟩ : ByteArray).size ≤ 11; decide, hvn.1, hvn.2⟩⟩
    clear hO4 hR4 q1 kf hv e1 e2
    go_wp2
    go_ret
    exact ⟨_, _, rfl, S5.out.row, by simp; omega, hp1.out, S5.out.rd.mono (by omega), S5.out.only⟩

def OrOut (w0 w : World) (g P : Nat) (e : Ending) (w' : World) : Prop := ∃ u t, e = .returned u ∧ kCell.R w' (fun k => w.heap.size ≤ k) u t ∧ t.length ≤ 41 ∧ Places t ∧ Rd w0 w' g (P + 400) ∧ Only g w w'
theorem termOr_c (w0 w : World) (g P : Nat) (n : Int) (hR : Rd w0 w g P) (hP : P ≤ 999998000) (hn : 0 ≤ n) (hn2 : n ≤ 1000000000) :
    Calls Tryd.prog 46 #[.pointer (some ⟨g, 0, none⟩), .int .i64 n] w (OrOut w0 w g P) := by
  have hu := Tryd.underlying55
  have H0 := Sec.mk hR
  have hlt := hR.lt
  have hB0 : w0.heap.size ≤ w.heap.size := hR.bel.size
  have hge := hR.ge
  clear hR
  go_enter Tryd.func46, Tryd.ntmps46
  go_wp2_with fail
  have Ht := Sec.mk (heap_alloc_new w (.cells #[.int .i64 3, .int .i64 8, .int .i64 20, .int .i64 40] 3))
  refine (pick_c w0 _ g P 4 (H0.out.below (belA (Below.refl _ _) _)) (by omega)).mono ?_
  rintro e w1 ⟨r, rfl, ⟨q0, q1, _⟩, hR1, hO1⟩
  have q2 := q1 (by omega)
  obtain ⟨v, hv, ct⟩ := tab_int _ [3, 8, 20, 40] rfl Ht.out (by omega) hO1 q0 q2
  have hR1' := Sec.mk hR1
  have hO1' := Sec.mk (((Only.refl g w).alloc _).trans hO1)
  obtain ⟨v, rfl⟩ : ∃ v' : Nat, v = (v' : Int) := ⟨v.toNat, by simp at hv; omega⟩
  have hv1 : v ≤ 40 := by simp at hv; omega
  have hz1 : w.heap.size ≤ w1.heap.size := hO1'.out.size
  clear hO1 hR1 q1 hv
  go_wp2_with fail
  refine (term_c w0 _ g (P + 1) v 4 hR1'.out (by omega) (by omega) hv1).mono ?_
  rintro e w2 ⟨u, t, rfl, hR2, hne, hl, hD, hRd, hO2⟩
  have hO2' := Sec.mk (hO1'.out.trans hO2)
  have hR2' := Sec.mk (Kd.R_mono hR2 (S1 := fun k => w.heap.size ≤ k) (fun k h _ => by omega))
  have hD' := Sec.mk hD
  have hRd' := Sec.mk hRd
  have hz2 : w.heap.size ≤ w2.heap.size := hO2'.out.size
  obtain ⟨A, c, e, _⟩ := Kd.R_form hR2
  subst e
  clear hO2 hR2 hD hRd
  go_wp2_with fail
  refine (odd_c w0 _ g (P + 1 + 300) n hRd'.out (by omega) hn hn2).mono ?_
  rintro e w3 ⟨bb, rfl, hR3, hO3⟩
  have hO3' := Sec.mk (hO2'.out.trans hO3)
  have hR3' := Sec.mk hR3
  have hT3 := Sec.mk (Kd.R_move (hO3.keeps (ok := fun k => w.heap.size ≤ k) (by omega)) hR2'.out)
  have hz3 : w.heap.size ≤ w3.heap.size := hO3'.out.size
  clear hO3 hR3
  cases bb with
  | true =>
    go_wp2_with (go_at_call 76; refine (spoil_c w0 _ g _ _ t hR3'.out (by omega) (Kd.V_mono (Kd.R_V hT3.out) (fun k h => by omega) (by decide)) hne hl hD'.out).mono ?_; rintro e w4 ⟨u4, t4, rfl, hR4, hl4, hD4, hRd4, hO4⟩; have hR4' := Sec.mk hR4; have hx4 := Sec.mk (hO3'.out.trans hO4); have hD4' := Sec.mk hD4; have hRd4' := Sec.mk hRd4; clear hR4 hO4 hD4 hRd4)
    go_ret
    exact ⟨_, t4, rfl, Kd.R_mono hR4'.out (fun k h _ => by omega), hl4, hD4'.out, hRd4'.out.mono (by omega), hx4.out⟩
  | false =>
    go_wp2
    go_ret
    exact ⟨_, t, rfl, hT3.out, by omega, hD'.out.places, hR3'.out.mono (by omega), hO3'.out⟩
end Go.Proofs.YtkdfmnaijgkfhaaDoor
