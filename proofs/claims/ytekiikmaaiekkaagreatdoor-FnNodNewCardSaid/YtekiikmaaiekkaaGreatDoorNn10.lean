/- Draws of places that may be no term. Conditions: the reader has been asked no more than a number of times; and what goes with it. -/
import Derived.Test.YtekiikmaaiekkaaGreatDoorNn1
import Derived.Test.YtekiikmaaiekkaaGreatDoorNn2
import Derived.Test.YtekiikmaaiekkaaGreatDoorNn6
import Derived.Test.YtekiikmaaiekkaaGreatDoorNn7
import Derived.Test.YtekiikmaaiekkaaGreatDoorNn8
import Derived.Test.YtekiikmaaiekkaaGreatDoorNn9
import Derived.Deep.RegionHeld3
import Derived.Deep.RegionWith
namespace Go.Proofs.YtekiikmaaiekkaaGreatDoor
section
open Go.RowKit
set_option linter.unusedVariables false
set_option maxRecDepth 100000

/-- Places with short names and small numbers. -/
def Places (t : Term) : Prop := ∀ x ∈ t, x.name.size ≤ 11 ∧ -300000 ≤ x.n ∧ x.n ≤ 300000
theorem Drawn.places {t : Term} (h : Drawn t) : Places t := fun x hx => by have := h x hx; exact ⟨by omega, by omega, by omega⟩
def SpoilOut (w0 w : World) (g P : Nat) (e : Ending) (w' : World) : Prop := ∃ u t, e = .returned u ∧ kCell.R w' (fun k => w.heap.size ≤ k) u t ∧ t.length ≤ 41 ∧ Places t ∧ Rd w0 w' g (P + 10) ∧ Only g w w'
/-- What holds while places are spoiled. -/
structure SX (w0 w : World) (g P : Nat) (v : Value) (t : Term) (wr : World) : Prop where
  row : kCell.R wr (fun k => w.heap.size ≤ k) v t
  rd : Rd w0 wr g P
  only : Only g w wr
theorem SX.pick {w0 w w1 w2 : World} {g P P' : Nat} {v : Value} {t : Term} (h : SX w0 w g P v t w1) (hg : g < w.heap.size) (hR : Rd w0 w2 g P') (hO : Only g w1 w2) : SX w0 w g P' v t w2 :=
  ⟨Kd.R_move (hO.keeps (ok := fun k => w.heap.size ≤ k) (by omega)) h.row, hR, h.only.trans hO⟩
theorem SX.alloc {w0 w w1 : World} {g P : Nat} {v : Value} {t : Term} (h : SX w0 w g P v t w1) (o : Obj) : SX w0 w g P v t (w1.alloc o) :=
  ⟨Kd.R_below h.row (belA (Below.refl _ _) _), h.rd.below (belA (Below.refl _ _) _), h.only.alloc _⟩
theorem SX.drew {w0 w w1 : World} {g P : Nat} {v : Value} {t : Term} (h : SX w0 w g P v t w1) : SX w0 w g P v t w1.drew :=
  ⟨Kd.R_below h.row (belD (Below.refl _ _)), h.rd.below (belD (Below.refl _ _)), h.only.drew⟩
theorem SX.rdm {w0 w w1 : World} {g P P' : Nat} {v : Value} {t : Term} (h : SX w0 w g P v t w1) (hP : P ≤ P') : SX w0 w g P' v t w1 := ⟨h.row, h.rd.mono hP, h.only⟩
theorem places_set {t : Term} (h : Places t) {i : Nat} (x : Cell) (hx : x.name.size ≤ 11 ∧ -300000 ≤ x.n ∧ x.n ≤ 300000) : Places (t.set i x) := fun y hy => by
  rcases List.mem_or_eq_of_mem_set hy with hy | rfl
  · exact h y hy
  · exact hx
theorem tab_lit (xs : List Int) {r : Int} (h0 : 0 ≤ r) (h1 : r < xs.length) : ∃ v : Int, v ∈ xs ∧ ∀ w : World, (w.alloc (.cells (xs.map (Value.int .i64)).toArray 3)).cell? ⟨w.heap.size, r.toNat, none⟩ = some (.int .i64 v) := by
  have hr : r.toNat < xs.length := by omega
  refine ⟨xs[r.toNat], List.getElem_mem _, fun w => ?_⟩
  rw [cell_of_row _ _ _ _ _ _ (heap_alloc_new w _)]
  simp [hr]
theorem SX.grown {w0 w w1 w2 : World} {g P : Nat} {v v2 : Value} {t t2 : Term} {row : Option Nat} (h : SX w0 w g P v t w1) (hw0 : w0.heap.size ≤ w.heap.size) (hlt : g < w.heap.size) (hR : kCell.R w2 (fun k => w.heap.size ≤ k) v2 t2) (hg : w1.grownBy w2 row) (hr : ∀ k, row = some k → w.heap.size ≤ k) : SX w0 w g P v2 t2 w2 :=
  ⟨hR, h.rd.grown hg (fun k e => ⟨by have := hr k e; omega, by have := hr k e; omega⟩), h.only.grown hg hr⟩
theorem SX.store {w0 w w1 : World} {g P b n cap : Nat} {t : Term} (h : SX w0 w g P (.slice (some ⟨b, 0, none⟩) n cap) t w1) (hw0 : w0.heap.size ≤ w.heap.size) (hlt : g < w.heap.size) (i j : Nat) (x' : Cell) (u : Value) (hi : i < t.length) (hj : j < 3) (hx : cellC x' = (cellC t[i]).set j u) (hn : x'.name.size ≤ 1073741824) :
    SX w0 w g P (.slice (some ⟨b, 0, none⟩) n cap) (t.set i x') (w1.setCell ⟨b, i * 3 + j, none⟩ u) := by
  have hb : w.heap.size ≤ b := by
    obtain ⟨_, _, _, h3⟩ := Kd.R_own h.row
    exact (h3 b rfl).1
  exact ⟨kCell_store h.row i j x' u hi hj hx hn, h.rd.set (by omega) (by omega) _ _, h.only.setNew hb _ _⟩

def SpA (w0 w : World) (g P b k tb : Nat) (m : Int) (u : Value) (t : Term) (e : Ending) (w4 : World) : Prop := ∃ r v : Int, e = .returned (.int .i64 r) ∧ 0 ≤ r ∧ r < 4 ∧ (-99999 ≤ v ∧ v ≤ 99999) ∧ w4.cell? ⟨tb, r.toNat, none⟩ = some (.int .i64 v) ∧ SX w0 w g (P + 3) u t w4 ∧ w4.cell? ⟨b, k * 3 + 1, none⟩ = some (.int .i64 m) ∧ w4.frozen? ⟨b, k * 3 + 1, none⟩ = false ∧ b < w4.heap.size
def SpB (w0 w : World) (g P b k : Nat) (m : Int) (u : Value) (t : Term) (e : Ending) (w4 : World) : Prop := ∃ r v : Int, e = .returned (.int .i64 r) ∧ 0 ≤ r ∧ r < 4 ∧ (-99999 ≤ v ∧ v ≤ 99999) ∧ (∀ w : World, (w.alloc (.cells #[.int .i64 1, .int .i64 (-1), .int .i64 99999, .int .i64 (-99999)] 3)).cell? ⟨w.heap.size, r.toNat, none⟩ = some (.int .i64 v)) ∧ SX w0 w g (P + 3) u t w4 ∧ w4.cell? ⟨b, k * 3 + 1, none⟩ = some (.int .i64 m) ∧ w4.frozen? ⟨b, k * 3 + 1, none⟩ = false ∧ b < w4.heap.size
set_option maxHeartbeats 1000000 in
theorem spoil_c (w0 w : World) (g P : Nat) (v : Value) (t : Term) (hR : Rd w0 w g P) (hP : P ≤ 999999000) (hV : kCell.V w (fun k => k ≠ g) v t) (ht : t ≠ []) (hl : t.length ≤ 40) (hD : Drawn t) :
    Calls Tryz.prog 136 #[.pointer (some ⟨g, 0, none⟩), v] w (SpoilOut w0 w g P) := by
  have hu := Tryz.underlying84
  have H0 := Sec.mk hR
  have hlt := hR.lt
  have hB0 : w0.heap.size ≤ w.heap.size := hR.bel.size
  have hge := hR.ge
  obtain ⟨A, c, hv, _⟩ := id hV
  subst hv
  have HV := Sec.mk hV
  have HD := Sec.mk hD
  have h0 : 0 < t.length := List.length_pos_iff.2 ht
  clear hR hV hD ht
  go_enter Tryz.func136, Tryz.ntmps136
  go_wp2_with (at_builtin; refine Kd.W_cat kCell rfl (.tmp 7) (.tmp 8) 24 (.agg #[.int .i64 0, .int .i64 0, .string ⟨#[]⟩]) 32 rfl Tryz.underlying24 info_cell rfl (by decide) (by decide) (.slice (some ⟨w.heap.size, 0, none⟩) 0 0) _ [] t (fun k => w.heap.size ≤ k) (fun k => k ≠ g) rfl rfl (Kd.W_empty kCell w _ _ (Nat.le_refl _)) (Kd.V_move (fun k hk hl => ⟨⟨hk, by simp [Value.ownBlock]; omega⟩, Below.heap_alloc _ _ _ hl⟩) HV.out (by decide)) (by simp; omega) ?_; intro v1 w1 hR1 hg1; have S1 := Sec.mk (show SX w0 w g P v1 t w1 from ⟨Kd.R_mono (kCell_W_R hR1) (fun k hk _ => hk.elim id (fun h => by simp at h; omega)), (H0.out.below (belA (Below.refl _ _) _)).grown hg1 (fun k e => by simp [Value.ownBlock] at e; omega), ((Only.refl g w).alloc _).grown hg1 (fun k e => by simp [Value.ownBlock] at e; omega)⟩); obtain ⟨A1, c1, e1, _⟩ := Kd.R_form S1.out.row; subst e1; clear hR1 hg1)
  refine (pick_c w0 _ g P _ S1.out.rd (by omega)).mono ?_
  rintro e w2 ⟨k, rfl, ⟨k0, k1, _⟩, hR2, hO2⟩
  have k2 := k1 (by omega)
  have S2 := Sec.mk (S1.out.pick hlt hR2 hO2)
  clear hR2 hO2 k1
  obtain ⟨k, rfl⟩ := Int.eq_ofNat_of_zero_le k0
  have k3 : k < t.length := by omega
  clear k0 k2
  go_wp2_with fail
  refine (pick_c w0 _ g (P + 1) 7 S2.out.rd (by omega)).mono ?_
  rintro e w3 ⟨r, rfl, ⟨r0, r1, _⟩, hR3, hO3⟩
  have r2 := r1 (by omega)
  have S3 := Sec.mk (S2.out.pick hlt hR3 hO3)
  clear hR3 hO3 r1
  obtain ⟨b, rfl, _, hb0, hb1, kf⟩ := Kd.R_block S3.out.row h0
  have hC := Kd.V_C (Kd.R_V S3.out.row)
  obtain ⟨b', off, hA, _, c0, c1', c2, hnm⟩ := cell_at hC k k3
  simp only [Option.some.injEq, Addr.mk.injEq, and_true] at hA
  obtain ⟨rfl, rfl⟩ := hA
  rw [Nat.zero_add] at c0 c1' c2
  have hxm := HD.out _ (List.getElem_mem k3)
  have hpl : Sec (Places t) := ⟨HD.out.places⟩
  clear hC
  have hb3 : w.heap.size ≤ w3.heap.size := S3.out.only.size
  rcases (by omega : r = 0 ∨ r = 1 ∨ r = 2 ∨ r = 3 ∨ r = 4 ∨ r = 5 ∨ r = 6) with rfl | rfl | rfl | rfl | rfl | rfl | rfl
  · go_wp2_with fail
    go_ret
    exact ⟨_, _, rfl, kCell_cut S3.out.row k (by omega), by rw [List.length_take]; omega, fun x hx => hpl.out x (List.mem_of_mem_take hx), S3.out.rd.mono (by omega), S3.out.only⟩
  · go_wp2_with (at_builtin; refine Kd.R_appG kCell (B := w.heap.size) rfl (.tmp 32) (.tmp 37) 24 (.agg #[.int .i64 0, .int .i64 0, .string ⟨#[]⟩]) 32 rfl Tryz.underlying24 info_cell rfl (by decide) (by decide) _ _ t[k] [.int .i64 t[k].kind, .int .i64 t[k].n, .string t[k].name] rfl rfl (by simp) S3.out.row (by omega) (kCell_none _ _ hnm) (by omega) ?_; intro v9 w9 hR9 hg9 hr9; have S9 := Sec.mk (S3.out.grown hB0 hlt hR9 hg9 hr9); clear hR9 hg9 hr9)
    go_ret
    exact ⟨_, _, rfl, S9.out.row, by rw [List.length_append, List.length_singleton]; omega, fun x hx => by
      rcases List.mem_append.1 hx with h | h
      · exact hpl.out x h
      · rw [List.mem_singleton.1 h]; exact hpl.out _ (List.getElem_mem k3), S9.out.rd.mono (by omega), S9.out.only⟩
  · go_wp2
    have hk0 : ((k : Int) < (t.length : Int)) := by omega
    have CA := Sec.mk ((pick_c w0 (w3.alloc (.cells #[.int .i64 1, .int .i64 (-1), .int .i64 99999, .int .i64 (-99999)] 3)).drew g (P + 2) 4 ((S3.out.rd.mono (by omega)).below (belD (belA (Below.refl _ _) _))) (by omega)).mono (R' := SpA w0 w g P b k w3.heap.size t[k].n (.slice (some ⟨b, 0, none⟩) t.length c1) t) (by
      rintro e w4 ⟨r, rfl, ⟨q0, q1, _⟩, hR4, hO4⟩
      have q2 := q1 (by omega)
      obtain ⟨v, hv, ct⟩ := tab_int _ [1, -1, 99999, -99999] rfl (show (w3.alloc (.cells #[.int .i64 1, .int .i64 (-1), .int .i64 99999, .int .i64 (-99999)] 3)).drew.heap[w3.heap.size]? = _ from heap_alloc_new w3 _) (by omega) hO4 q0 q2
      have hbz : b < (w3.alloc (.cells #[.int .i64 1, .int .i64 (-1), .int .i64 99999, .int .i64 (-99999)] 3)).heap.size := by simp; omega
      refine ⟨r, v, rfl, q0, q2, by simp at hv; omega, ct, ((S3.out.alloc _).drew).pick hlt hR4 hO4, ?_, ?_, Nat.lt_of_lt_of_le hbz hO4.size⟩
      · exact (World.cell?_of_block (a := ⟨b, k * 3 + 1, none⟩) (hO4.block b hbz (by omega))).trans ((World.cell?_of_block (a := ⟨b, k * 3 + 1, none⟩) (Below.heap_alloc _ _ _ hb1)).trans c1')
      · exact (World.frozen?_of_block (a := ⟨b, k * 3 + 1, none⟩) (hO4.block b hbz (by omega))).trans ((World.frozen?_of_block (a := ⟨b, k * 3 + 1, none⟩) (Below.heap_alloc _ _ _ hb1)).trans (kf _))))
    have CB := Sec.mk ((pick_c w0 w3.drew g (P + 2) 4 ((S3.out.rd.mono (by omega)).below (belD (Below.refl _ _))) (by omega)).mono (R' := SpB w0 w g P b k t[k].n (.slice (some ⟨b, 0, none⟩) t.length c1) t) (by
      rintro e w4 ⟨r, rfl, ⟨q0, q1, _⟩, hR4, hO4⟩
      have q2 := q1 (by omega)
      obtain ⟨v, hv, ct⟩ := tab_lit [1, -1, 99999, -99999] q0 q2
      refine ⟨r, v, rfl, q0, q2, by simp at hv; omega, ct, ((S3.out.drew).pick hlt hR4 hO4), ?_, ?_, Nat.lt_of_lt_of_le hb1 hO4.size⟩
      · exact (World.cell?_of_block (a := ⟨b, k * 3 + 1, none⟩) (hO4.block b hb1 (by omega))).trans c1'
      · exact (World.frozen?_of_block (a := ⟨b, k * 3 + 1, none⟩) (hO4.block b hb1 (by omega))).trans (kf _)))
    go_region_with (first | (go_at_call 54; refine CA.out.mono ?_; rintro e w4 ⟨r, v, rfl, q0, q2, hv9, ct, S4, kc9, kf9, hb9⟩; have S4 := Sec.mk S4; have hv9 := Sec.mk hv9) | (go_at_call 54; refine CB.out.mono ?_; rintro e w4 ⟨r, v, rfl, q0, q2, hv9, ct, S4, kc9, kf9, hb9⟩; have S4 := Sec.mk S4; have hv9 := Sec.mk hv9))
    all_goals
      obtain ⟨hv1, hv2⟩ := hv9.out
      have wq : Sec (IntKind.i64.wrap (t[k].n + v) = t[k].n + v) := ⟨IntWalk.i64_in _ (by omega)⟩
      have S5 := Sec.mk (S4.out.store hB0 hlt k 1 ⟨t[k].kind, IntKind.i64.wrap (t[k].n + v), t[k].name⟩ (.int .i64 (IntKind.i64.wrap (t[k].n + v))) k3 (by omega) rfl (by show t[k].name.size ≤ _; omega))
      have S6 := Sec.mk (S5.out.alloc (.cells #[.int .i64 1, .int .i64 (-1), .int .i64 99999, .int .i64 (-99999)] 3))
      have S7 := Sec.mk ((S4.out.alloc (.cells #[.int .i64 1, .int .i64 (-1), .int .i64 99999, .int .i64 (-99999)] 3)).store hB0 hlt k 1 ⟨t[k].kind, IntKind.i64.wrap (t[k].n + v), t[k].name⟩ (.int .i64 (IntKind.i64.wrap (t[k].n + v))) k3 (by omega) rfl (by show t[k].name.size ≤ _; omega))
      have hp9 := Sec.mk (places_set hpl.out (i := k) ⟨t[k].kind, IntKind.i64.wrap (t[k].n + v), t[k].name⟩ ⟨by show t[k].name.size ≤ 11; omega, by show -300000 ≤ IntKind.i64.wrap (t[k].n + v); rw [wq.out]; omega, by show IntKind.i64.wrap (t[k].n + v) ≤ 300000; rw [wq.out]; omega⟩)
      go_wp2
      go_ret
      first
        | exact ⟨_, _, rfl, S5.out.row, by rw [List.length_set]; omega, hp9.out, S5.out.rd.mono (by omega), S5.out.only⟩
        | exact ⟨_, _, rfl, S6.out.row, by rw [List.length_set]; omega, hp9.out, S6.out.rd.mono (by omega), S6.out.only⟩
        | exact ⟨_, _, rfl, S7.out.row, by rw [List.length_set]; omega, hp9.out, S7.out.rd.mono (by omega), S7.out.only⟩
  · go_wp2_with fail
    have Ht := Sec.mk (heap_alloc_new w3 (.cells #[.string ⟨#[]⟩, .string ⟨#[116, 111, 111, 108, 111, 110, 103, 110, 97, 109, 101]⟩, .string ⟨#[65]⟩, .string ⟨#[97]⟩] 9))
    refine (pick_c w0 _ g (P + 2) 4 ((S3.out.rd.mono (by omega)).below (belA (Below.refl _ _) _)) (by omega)).mono ?_
    rintro e w4 ⟨r, rfl, ⟨q0, q1, _⟩, hR4, hO4⟩
    have q2 := q1 (by omega)
    obtain ⟨v, hv, ct⟩ := tab_str _ [⟨#[]⟩, ⟨#[116, 111, 111, 108, 111, 110, 103, 110, 97, 109, 101]⟩, ⟨#[65]⟩, ⟨#[97]⟩] rfl Ht.out (by omega) hO4 q0 q2
    have hvn : v.size ≤ 11 := by simp at hv; rcases hv with rfl | rfl | rfl | rfl <;> decide
    have S4 := Sec.mk ((S3.out.alloc _).pick hlt hR4 hO4)
    have S5 := Sec.mk (S4.out.store hB0 hlt k 2 ⟨t[k].kind, t[k].n, v⟩ (.string v) k3 (by omega) rfl (by show v.size ≤ _; omega))
    have hb4 : b < w4.heap.size := by have := hO4.size; simp at this; omega
    have kf4 : ∀ j, w4.frozen? ⟨b, j, none⟩ = false := fun j => (World.frozen?_of_block (a := ⟨b, j, none⟩) (hO4.block b (by simp; omega) (by omega))).trans ((World.frozen?_of_block (a := ⟨b, j, none⟩) (Below.heap_alloc _ _ _ hb1)).trans (kf j))
    have kc4 : w4.cell? ⟨b, k * 3 + 2, none⟩ = some (.string t[k].name) := ((World.cell?_of_block (a := ⟨b, k * 3 + 2, none⟩) (hO4.block b (by simp; omega) (by omega))).trans ((World.cell?_of_block (a := ⟨b, k * 3 + 2, none⟩) (Below.heap_alloc _ _ _ hb1)).trans c2))
    clear hO4 hR4 q1 hv kf
    go_wp2
    go_ret
    exact ⟨_, _, rfl, S5.out.row, by rw [List.length_set]; omega, places_set hpl.out _ ⟨hvn, by show -300000 ≤ t[k].n; omega, by show t[k].n ≤ 300000; omega⟩, S5.out.rd.mono (by omega), S5.out.only⟩
  · go_wp2_with fail
    refine (pick_c w0 _ g (P + 2) 5 (S3.out.rd.mono (by omega)) (by omega)).mono ?_
    rintro e w4 ⟨r, rfl, ⟨q0, q1, _⟩, hR4, hO4⟩
    have q2 := q1 (by omega)
    have S4 := Sec.mk (S3.out.pick hlt hR4 hO4)
    have S5 := Sec.mk (S4.out.store hB0 hlt k 0 ⟨r, t[k].n, t[k].name⟩ (.int .i64 r) k3 (by omega) rfl (by show t[k].name.size ≤ _; omega))
    have hb4 : b < w4.heap.size := by have := hO4.size; omega
    have kf4 : ∀ j, w4.frozen? ⟨b, j, none⟩ = false := fun j => (World.frozen?_of_block (a := ⟨b, j, none⟩) (hO4.block b (by omega) (by omega))).trans (kf j)
    have kc4 : w4.cell? ⟨b, k * 3, none⟩ = some (.int .i64 t[k].kind) := (World.cell?_of_block (a := ⟨b, k * 3, none⟩) (hO4.block b (by omega) (by omega))).trans c0
    clear hO4 hR4 q1 kf
    go_wp2
    go_ret
    exact ⟨_, _, rfl, S5.out.row, by rw [List.length_set]; omega, places_set hpl.out _ ⟨by show t[k].name.size ≤ 11; omega, by show -300000 ≤ t[k].n; omega, by show t[k].n ≤ 300000; omega⟩, S5.out.rd.mono (by omega), S5.out.only⟩
  · go_wp2
    go_loopw [5] (fun v wr => ∃ t' : Term, t'.length ≤ 41 ∧ Sec (Places t' ∧ SX w0 w g (P + 2) v t' wr)) (fun v _ => 50 - lenOf v)
    case atStart => exact ⟨t, by omega, ⟨hpl.out, S3.out.rdm (by omega)⟩⟩
    case round =>
      obtain ⟨t', hl', hS⟩ := hrel
      obtain ⟨A', c', e, _⟩ := Kd.R_form hS.out.2.row
      subst e
      clear c0 c1' c2 kf hnm
      by_cases h40 : (t'.length : Int) ≤ 40
      · go_wp2_with (at_builtin; refine Kd.R_appG kCell (B := w.heap.size) rfl (.tmp 80) (.tmp 82) 24 (.agg #[.int .i64 0, .int .i64 0, .string ⟨#[]⟩]) 32 rfl Tryz.underlying24 info_cell rfl (by decide) (by decide) _ _ ⟨3, 1, ⟨#[102]⟩⟩ [.int .i64 3, .int .i64 1, .string ⟨#[102]⟩] rfl rfl (by simp) hS.out.2.row (by have := hS.out.2.only.size; omega) (kCell_none _ ⟨3, 1, ⟨#[102]⟩⟩ (by decide)) (by omega) ?_; intro v9 w9 hR9 hg9 hr9; have S9 := Sec.mk (hS.out.2.grown hB0 hlt hR9 hg9 hr9); have L9 := Sec.mk (lenOf_R hR9); clear hR9 hg9 hr9)
        go_roundw
        case rel => exact ⟨t' ++ [⟨3, 1, ⟨#[102]⟩⟩], by simp; omega, ⟨fun x hx => by
          rcases List.mem_append.1 hx with h | h
          · exact hS.out.1 x h
          · rw [List.mem_singleton.1 h]; exact ⟨by decide, by decide, by decide⟩, S9.out⟩⟩
        case measure => have h9 := L9.out; rw [List.length_append] at h9; show 50 - lenOf _ < 50 - lenOf _; rw [h9]; simp only [lenOf, List.length_singleton]; omega
      · go_wp2
        go_ret
        exact ⟨_, t', rfl, hS.out.2.row, hl', hS.out.1, hS.out.2.rd.mono (by omega), hS.out.2.only⟩
  · go_wp2_with fail
    have Ht := Sec.mk (heap_alloc_new w3 (.cells #[.int .i64 99999, .int .i64 100000, .int .i64 (-1)] 3))
    refine (pick_c w0 _ g (P + 2) 3 ((S3.out.rd.mono (by omega)).below (belA (Below.refl _ _) _)) (by omega)).mono ?_
    rintro e w4 ⟨r, rfl, ⟨q0, q1, _⟩, hR4, hO4⟩
    have q2 := q1 (by omega)
    obtain ⟨v, hv, ct⟩ := tab_int _ [99999, 100000, -1] rfl Ht.out (by omega) hO4 q0 q2
    have hvn : -300000 ≤ v ∧ v ≤ 300000 := by simp at hv; omega
    have S4 := Sec.mk ((S3.out.alloc _).pick hlt hR4 hO4)
    have e1 : (t.set k ⟨1, t[k].n, t[k].name⟩).length = t.length := by simp
    have e2 : ((t.set k ⟨1, t[k].n, t[k].name⟩).set k ⟨1, v, t[k].name⟩).length = t.length := by simp
    have S5 := Sec.mk (((S4.out.store hB0 hlt k 0 ⟨1, t[k].n, t[k].name⟩ (.int .i64 1) k3 (by omega) rfl (by show t[k].name.size ≤ _; omega)).store hB0 hlt k 1 ⟨1, v, t[k].name⟩ (.int .i64 v) (by omega) (by omega) (by simp [cellC]) (by show t[k].name.size ≤ _; omega)).store hB0 hlt k 2 ⟨1, v, ⟨#[]⟩⟩ (.string ⟨#[]⟩) (by omega) (by omega) (by simp [cellC]) (by show (⟨#[]⟩ : ByteArray).size ≤ _; decide))
    have hb4 : b < w4.heap.size := by have := hO4.size; simp at this; omega
    have kf4 : ∀ j, w4.frozen? ⟨b, j, none⟩ = false := fun j => (World.frozen?_of_block (a := ⟨b, j, none⟩) (hO4.block b (by simp; omega) (by omega))).trans ((World.frozen?_of_block (a := ⟨b, j, none⟩) (Below.heap_alloc _ _ _ hb1)).trans (kf j))
    have kc0 : w4.cell? ⟨b, k * 3, none⟩ = some (.int .i64 t[k].kind) := ((World.cell?_of_block (a := ⟨b, k * 3, none⟩) (hO4.block b (by simp; omega) (by omega))).trans ((World.cell?_of_block (a := ⟨b, k * 3, none⟩) (Below.heap_alloc _ _ _ hb1)).trans c0))
    have kc1 : w4.cell? ⟨b, k * 3 + 1, none⟩ = some (.int .i64 t[k].n) := ((World.cell?_of_block (a := ⟨b, k * 3 + 1, none⟩) (hO4.block b (by simp; omega) (by omega))).trans ((World.cell?_of_block (a := ⟨b, k * 3 + 1, none⟩) (Below.heap_alloc _ _ _ hb1)).trans c1'))
    have kc2 : w4.cell? ⟨b, k * 3 + 2, none⟩ = some (.string t[k].name) := ((World.cell?_of_block (a := ⟨b, k * 3 + 2, none⟩) (hO4.block b (by simp; omega) (by omega))).trans ((World.cell?_of_block (a := ⟨b, k * 3 + 2, none⟩) (Below.heap_alloc _ _ _ hb1)).trans c2))
    have hp1 : Sec (Places (((t.set k ⟨1, t[k].n, t[k].name⟩).set k ⟨1, v, t[k].name⟩).set k ⟨1, v, ⟨#[]⟩⟩)) := ⟨places_set (places_set (places_set hpl.out _ ⟨by show t[k].name.size ≤ 11; omega, by show -300000 ≤ t[k].n; omega, by show t[k].n ≤ 300000; omega⟩) _ ⟨by show t[k].name.size ≤ 11; omega, hvn.1, hvn.2⟩) _ ⟨by show (⟨#[]⟩ : ByteArray).size ≤ 11; decide, hvn.1, hvn.2⟩⟩
    clear hO4 hR4 q1 kf hv e1 e2
    go_wp2
    go_ret
    exact ⟨_, _, rfl, S5.out.row, by simp; omega, hp1.out, S5.out.rd.mono (by omega), S5.out.only⟩

def OrOut (w0 w : World) (g P : Nat) (e : Ending) (w' : World) : Prop := ∃ u t, e = .returned u ∧ kCell.R w' (fun k => w.heap.size ≤ k) u t ∧ t.length ≤ 41 ∧ Places t ∧ Rd w0 w' g (P + 400) ∧ Only g w w'
theorem termOr_c (w0 w : World) (g P : Nat) (n : Int) (hR : Rd w0 w g P) (hP : P ≤ 999998000) (hn : 0 ≤ n) (hn2 : n ≤ 1000000000) :
    Calls Tryz.prog 123 #[.pointer (some ⟨g, 0, none⟩), .int .i64 n] w (OrOut w0 w g P) := by
  have hu := Tryz.underlying84
  have H0 := Sec.mk hR
  have hlt := hR.lt
  have hB0 : w0.heap.size ≤ w.heap.size := hR.bel.size
  have hge := hR.ge
  clear hR
  go_enter Tryz.func123, Tryz.ntmps123
  go_wp2_with fail
  have Ht := Sec.mk (heap_alloc_new w (.cells #[.int .i64 3, .int .i64 8, .int .i64 20, .int .i64 40] 3))
  refine (pick_c w0 _ g P 4 (H0.out.below (belA (Below.refl _ _) _)) (by omega)).mono ?_
  rintro e w1 ⟨r, rfl, ⟨q0, q1, _⟩, hR1, hO1⟩
  have q2 := q1 (by omega)
  obtain ⟨v, hv, ct⟩ := tab_int _ [3, 8, 20, 40] rfl Ht.out (by omega) hO1 q0 q2
  have hR1' := Sec.mk hR1
  have hO1' := Sec.mk (((Only.refl g w).alloc _).trans hO1)
  obtain ⟨v, rfl⟩ : ∃ v' : Nat, v = (v' : Int) := ⟨v.toNat, by simp at hv; omega⟩
  have hv1 : v ≤ 40 := by simp at hv; omega
  have hz1 : w.heap.size ≤ w1.heap.size := hO1'.out.size
  clear hO1 hR1 q1 hv
  go_wp2_with fail
  refine (term_c w0 _ g (P + 1) v 4 hR1'.out (by omega) (by omega) hv1).mono ?_
  rintro e w2 ⟨u, t, rfl, hR2, hne, hl, hD, hRd, hO2⟩
  have hO2' := Sec.mk (hO1'.out.trans hO2)
  have hR2' := Sec.mk (Kd.R_mono hR2 (S1 := fun k => w.heap.size ≤ k) (fun k h _ => by omega))
  have hD' := Sec.mk hD
  have hRd' := Sec.mk hRd
  have hz2 : w.heap.size ≤ w2.heap.size := hO2'.out.size
  obtain ⟨A, c, e, _⟩ := Kd.R_form hR2
  subst e
  clear hO2 hR2 hD hRd
  go_wp2_with fail
  refine (odd_c w0 _ g (P + 1 + 300) n hRd'.out (by omega) hn hn2).mono ?_
  rintro e w3 ⟨bb, rfl, hR3, hO3⟩
  have hO3' := Sec.mk (hO2'.out.trans hO3)
  have hR3' := Sec.mk hR3
  have hT3 := Sec.mk (Kd.R_move (hO3.keeps (ok := fun k => w.heap.size ≤ k) (by omega)) hR2'.out)
  have hz3 : w.heap.size ≤ w3.heap.size := hO3'.out.size
  clear hO3 hR3
  cases bb with
  | true =>
    go_wp2_with (go_at_call 136; refine (spoil_c w0 _ g _ _ t hR3'.out (by omega) (Kd.V_mono (Kd.R_V hT3.out) (fun k h => by omega) (by decide)) hne hl hD'.out).mono ?_; rintro e w4 ⟨u4, t4, rfl, hR4, hl4, hD4, hRd4, hO4⟩; have hR4' := Sec.mk hR4; have hx4 := Sec.mk (hO3'.out.trans hO4); have hD4' := Sec.mk hD4; have hRd4' := Sec.mk hRd4; clear hR4 hO4 hD4 hRd4)
    go_ret
    exact ⟨_, t4, rfl, Kd.R_mono hR4'.out (fun k h _ => by omega), hl4, hD4'.out, hRd4'.out.mono (by omega), hx4.out⟩
  | false =>
    go_wp2
    go_ret
    exact ⟨_, t, rfl, hT3.out, by omega, hD'.out.places, hR3'.out.mono (by omega), hO3'.out⟩
end
section
open Go.RowKit
set_option linter.unusedVariables false
set_option maxRecDepth 100000

theorem open_c (w : World) (v : Value) (bs : List UInt8) (ok : Nat → Prop) (hV : kByte.V w ok v bs) :
    Calls Tryz.prog 52 #[v] w fun e w' => ∃ g, e = .returned (.pointer (some ⟨g, 0, none⟩)) ∧ Rd w w' g 0 ∧ Below w.heap.size w w' := by
  obtain ⟨A, c, rfl, h1, h2, h3, hC, _⟩ := hV
  have HC := Sec.mk (Kd.C_move (ok1 := fun _ => True) (Keeps.mono fun _ _ _ => trivial) hC (by decide))
  have hu := Tryz.underlying163
  clear hC
  by_cases hl : bs.length > 2000
  · have h1' : ¬ 2000 > c := by omega
    go_enter Tryz.func52, Tryz.ntmps52
    go_wp2
    go_ret
    refine ⟨_, rfl, ⟨⟨A, c, 0, bs.take 2000, ?_, Nat.le_refl _, by rw [List.length_take]; omega, Kd.C_take HC.out 2000⟩, belA (Below.refl _ _) _, Nat.le_refl _⟩, belA (Below.refl _ _) _⟩
    rw [List.length_take, Nat.min_eq_left (by omega)]
    exact heap_alloc_new w _
  · go_enter Tryz.func52, Tryz.ntmps52
    go_wp2
    go_ret
    exact ⟨_, rfl, ⟨⟨A, c, 0, bs, heap_alloc_new w _, Nat.le_refl _, by omega, HC.out⟩, belA (Below.refl _ _) _, Nat.le_refl _⟩, belA (Below.refl _ _) _⟩

def num3 (n : Int) : List UInt8 := [u8 ((n + 99999 + 1) / 65536), u8 ((n + 99999 + 1) / 256 % 256), u8 ((n + 99999 + 1) % 256)]
end
section
section
open Go.RowKit
set_option linter.unusedVariables false
set_option maxRecDepth 100000
def shortStr (n : Nat) : Value → Bool | .string s => decide (s.size ≤ n) | _ => false
theorem short_at {cs : Array Value} {n i : Nat} (h : cs.all (shortStr n) = true) (hi : i < cs.size) : ∃ s : ByteArray, cs[i]? = some (.string s) ∧ s.size ≤ n := by
  have h1 := Array.all_eq_true.1 h i hi
  rw [Array.getElem?_eq_getElem hi]
  revert h1
  generalize cs[i] = v
  cases v <;> intro h1 <;> simp [shortStr] at h1
  exact ⟨_, rfl, h1⟩
def TopOut (w0 w : World) (g P : Nat) (e : Ending) (w' : World) : Prop := ∃ (u : Value) (t : Term), e = .returned u ∧ t.length ≤ 20000 ∧ kCell.R w' (fun k => w.heap.size ≤ k) u t ∧ Rd w0 w' g P ∧ Only g w w'
end
section
open Go.RowKit
set_option linter.unusedVariables false
set_option maxRecDepth 100000
theorem R_lit {w : World} {S : Nat → Prop} {b n : Nat} {t : Term} (hb : w.heap[b]? = some (.cells (t.flatMap cellC).toArray 84 (0, 0))) (hS : S b) (hn : n = t.length) (hl : t.length ≤ 1000) (hsz : ∀ x ∈ t, x.name.size ≤ 1073741824) : kCell.R w S (.slice (some ⟨b, 0, none⟩) n n) t := by
  subst hn
  refine ⟨by omega, .inr ⟨b, t.length, (t.flatMap cellC).toArray, rfl, hb, hS, Nat.le_refl _, by simp [maxLen]; omega, by rw [List.size_toArray, flat_len]; rfl, kCell_Os.2 ⟨?_, hsz⟩⟩⟩
  show (t.flatMap cellC).take (t.length * 3) = _
  rw [List.take_of_length_le (by rw [flat_len]; exact Nat.le_refl _)]
def noneT (i : Nat) : Term := match i with
  | 0 => []
  | 1 => [⟨1, 0, ⟨#[]⟩⟩]
  | 2 => [⟨2, 3, ⟨#[]⟩⟩]
  | 3 => [⟨3, 1, ⟨#[101]⟩⟩, ⟨1, 1, ⟨#[]⟩⟩]
  | _ => [⟨3, 1, ⟨#[101]⟩⟩]
end
end
section
open Go.RowKit
set_option linter.unusedVariables false
set_option maxRecDepth 100000
theorem belDN2 {n q : Nat} {w W : World} (h : Below n w W) : Below n w (W.drewN q) := ⟨h.os, h.tape, h.output, h.size, h.block⟩
def kStr : Kd ByteArray := Kd.str 9
theorem info_str : (Tryz.prog.info? 9).map (fun i => (i.zero, i.size, i.bytes)) = some (some (.string ⟨#[]⟩), 1, 16) := by kernel_rfl
theorem str_O (w : World) (S : Nat → Prop) (x : ByteArray) (h : x.size ≤ 1073741824) : kStr.O w S x [.string x] := ⟨rfl, h⟩
theorem str_at {w : World} {ok : Nat → Prop} {A : Option Addr} {xs : List ByteArray} (h : kStr.C w ok A xs) (i : Nat) (hi : i < xs.length) : ∃ b off, A = some ⟨b, off, none⟩ ∧ ok b ∧ w.cell? ⟨b, off + i, none⟩ = some (.string xs[i]) ∧ xs[i].size ≤ 1073741824 := by
  obtain ⟨b, off, cs, hA, hb, ⟨rfl, hs⟩, hc⟩ := Kd.C_get h (List.getElem?_eq_getElem hi)
  have := hc 0 _ rfl
  rw [show i * kStr.sz + 0 = i from by simp [kStr, Kd.str, Kd.scalar]] at this
  exact ⟨b, off, hA, hb, this, hs⟩
set_option maxHeartbeats 1000000 in
theorem l3Words_c (s : ByteArray) (hs : s.size ≤ 100000000) (w : World) :
    Calls Tryz.prog 260 #[.string s] w fun e w' => ∃ (u : Value) (ws : List ByteArray), e = .returned u ∧ kStr.R w' (fun k => w.heap.size ≤ k) u ws ∧ 1 ≤ ws.length ∧ ws.length ≤ s.size + 1 ∧ (∀ x ∈ ws, x.size ≤ s.size) ∧ Below w.heap.size w w' := by
  have hus := Tryz.underlying9
  go_enter Tryz.func260, Tryz.ntmps260
  go_wp2
  go_loopw [3, 4, 5] (fun ov xv iv wr => ∃ (i : Nat) (x : ByteArray) (out : List ByteArray), i ≤ s.size ∧ iv = .int .i64 i ∧ xv = .string x ∧ x.size ≤ i ∧ out.length ≤ i ∧ Sec (∀ y ∈ out, y.size ≤ s.size) ∧ Sec (kStr.R wr (fun k => w.heap.size ≤ k) ov out) ∧ Sec (Below w.heap.size w wr)) (fun _ _ iv _ => s.size - (intOf iv).toNat)
  case atStart => exact ⟨0, ⟨#[]⟩, [], Nat.zero_le _, rfl, rfl, by decide, by simp, ⟨by simp⟩, ⟨Kd.R_empty kStr (w := w) (W := w) (Nat.le_refl _)⟩, ⟨belA (Below.refl _ _) _⟩⟩
  case round =>
    obtain ⟨i, x, out, hi, rfl, rfl, hx, hl, hY, hR, hb⟩ := hrel
    obtain ⟨A9, c9, rfl, -⟩ := Kd.R_form hR.out
    have hL : out.length + 1 ≤ 1073741824 := by omega
    have hxs : x.size ≤ 1073741824 := by omega
    by_cases hlt : i < s.size
    · obtain ⟨q, hq⟩ : ∃ q, ((s[i].toNat : Int) == 32) = q := ⟨_, rfl⟩
      have i0 : (0 : Int) ≤ (i : Int) := by omega
      have i1 : (i : Int) < (s.size : Int) := by omega
      cases q with
      | true =>
        go_wp2_with (at_builtin; refine Kd.R_app kStr (w0 := w) (wb := wr) rfl (.tmp 17) (.tmp 19) 220 (.string ⟨#[]⟩) 16 rfl Tryz.underlying220 info_str rfl (by decide) (by decide) _ _ x [.string x] rfl rfl (by rfl) hR.out hb.out (Below.refl _ _) (str_O _ _ _ hxs) hL ?_; intro v1 w1 hR1 hb1; have R1 := Sec.mk hR1; have B1 := Sec.mk hb1; clear hR1 hb1)
        go_roundw
        case rel => exact ⟨i + 1, ⟨#[]⟩, _, by omega, by go_num, rfl, by show 0 ≤ _; omega, by simp; omega, ⟨fun y hy => by rcases List.mem_append.1 hy with hy | hy; exact hY.out y hy; simp at hy; subst hy; omega⟩, R1, B1⟩
        case measure => simp [intOf]; omega
      | false =>
        have e1 := Sec.mk (ext_le' s i (i + 1))
        have e2 : (s.extract i (i + 1)).size = 1 := by rw [ByteArray.size_extract]; omega
        have e3 := Sec.mk (ByteArray.size_append (a := x) (b := s.extract i (i + 1)))
        have e4 : IntKind.i64.wrap ((i : Int) + 1) = ((i + 1 : Nat) : Int) := by rw [show ((i : Int) + 1) = ((i + 1 : Nat) : Int) by omega]; exact IntWalk.i64_in _ (by omega)
        go_wp2
        go_roundw
        case rel => exact ⟨i + 1, _, out, by omega, by go_num, rfl, by rw [e3.out, e2]; omega, by omega, hY, hR, hb⟩
        case measure => simp [intOf]; omega
    · go_wp2_with (at_builtin; refine Kd.R_app kStr (w0 := w) (wb := wr) rfl (.tmp 28) (.tmp 30) 220 (.string ⟨#[]⟩) 16 rfl Tryz.underlying220 info_str rfl (by decide) (by decide) _ _ x [.string x] rfl rfl (by rfl) hR.out hb.out (Below.refl _ _) (str_O _ _ _ hxs) hL ?_; intro v1 w1 hR1 hb1; have R1 := Sec.mk hR1; have B1 := Sec.mk hb1; clear hR1 hb1)
      go_ret
      exact ⟨_, _, rfl, R1.out, by simp, by simp; omega, fun y hy => by rcases List.mem_append.1 hy with hy | hy; exact hY.out y hy; simp at hy; subst hy; omega, B1.out⟩
set_option maxHeartbeats 1000000 in
theorem l3Cut_c (s word : ByteArray) (hs : s.size ≤ 100000000) (hw : word.size ≤ 100) (w : World) :
    Calls Tryz.prog 261 #[.string s, .string word] w fun e w' => ∃ (a b : ByteArray) (q : Bool), e = .returned (.tuple #[.string a, .string b, .bool q]) ∧ a.size ≤ s.size ∧ b.size ≤ s.size ∧ Below w.heap.size w w' := by
  have hus := Tryz.underlying9
  have hp1 : (⟨#[32]⟩ ++ word : ByteArray).size ≤ 200 := by rw [size1]; omega
  have hp : (⟨#[32]⟩ ++ word ++ ⟨#[32]⟩ : ByteArray).size = word.size + 2 := by rw [ByteArray.size_append, size1]; show 1 + word.size + 1 = _; omega
  have HP := Sec.mk hp
  clear hp
  go_enter Tryz.func261, Tryz.ntmps261
  go_wp2
  generalize (⟨#[32]⟩ ++ word ++ ⟨#[32]⟩ : ByteArray) = pat at *
  obtain ⟨m, hm⟩ : ∃ m, pat.size = m := ⟨_, rfl⟩
  have hm2 : m ≤ 102 := by have := HP.out; omega
  go_loopw [8] (fun iv wr => ∃ i : Nat, i ≤ s.size + 1 ∧ iv = .int .i64 i ∧ Sec (w = wr)) (fun iv _ => s.size + 1 - (intOf iv).toNat)
  case atStart => exact ⟨0, by omega, rfl, ⟨rfl⟩⟩
  case round =>
    obtain ⟨i, hi, rfl, hw'⟩ := hrel
    have e4 : IntKind.i64.wrap ((i : Int) + (m : Int)) = ((i + m : Nat) : Int) := by rw [show ((i : Int) + (m : Int)) = ((i + m : Nat) : Int) by omega]; exact IntWalk.i64_in _ (by omega)
    by_cases hlt : i + m ≤ s.size
    · obtain ⟨q, hq⟩ : ∃ q, ((s.extract i (i + m)).toList == pat.toList) = q := ⟨_, rfl⟩
      have i0 : (0 : Int) ≤ (i : Int) := by omega
      have i1 : (i : Int) ≤ (s.size : Int) := by omega
      have i2 : ((i + m : Nat) : Int) ≤ (s.size : Int) := by omega
      have i3 : (i : Int) + (m : Int) ≤ (s.size : Int) := by omega
      have i4 : (i : Int) ≤ (i : Int) + (m : Int) := by omega
      have i5 : (0 : Int) ≤ (i : Int) + (m : Int) := by omega
      have e5 : ((i : Int) + (m : Int)).toNat = i + m := by omega
      cases q with
      | true =>
        go_wp2
        go_quiet (fail)
        go_wp2
        exact bodyPost_ret (v := .tuple #[.string (s.extract 0 i), .string (s.extract (i + m) s.size), .bool true]) (by simp [results, Tryz.results261, go_sem]) rfl ⟨_, _, true, rfl, ext_le' _ _ _, ext_le' _ _ _, by rw [hw'.out]; exact belDN2 (Below.refl _ _)⟩
      | false =>
        go_wp2
        go_roundw
        case rel => exact ⟨i + 1, by omega, by go_num, hw'⟩
        case measure => simp [intOf]; omega
    · go_wp2
      exact bodyPost_ret (v := .tuple #[.string s, .string ⟨#[]⟩, .bool false]) (by simp [results, Tryz.results261, go_sem]) rfl ⟨s, ⟨#[]⟩, false, rfl, Nat.le_refl _, Nat.zero_le _, by rw [hw'.out]; exact Below.refl _ _⟩
end
section
open Go.RowKit
set_option linter.unusedVariables false
set_option maxRecDepth 100000
theorem short_list {n : Nat} : ∀ (r : List Value), r.all (shortStr n) = true → ∃ l : List ByteArray, r = l.map .string ∧ ∀ x ∈ l, x.size ≤ n
  | [], _ => ⟨[], rfl, by simp⟩
  | v :: r, h => by
    rw [List.all_cons, Bool.and_eq_true] at h
    obtain ⟨l, rfl, hl⟩ := short_list r h.2
    have h1 := h.1
    cases v <;> simp [shortStr] at h1
    rename_i s
    exact ⟨s :: l, rfl, fun x hx => by rcases List.mem_cons.1 hx with rfl | hx; exact h1; exact hl x hx⟩
theorem short_arr {n : Nat} (r : Array Value) (h : r.all (shortStr n) = true) : ∃ l : List ByteArray, r = (l.map .string).toArray ∧ ∀ x ∈ l, x.size ≤ n := by
  obtain ⟨l, h1, h2⟩ := short_list r.toList (by rw [Array.all_toList]; exact h)
  exact ⟨l, by rw [← h1], h2⟩
/-- Thirteen rows of short texts, made one behind the other from b on, and the row of them. -/
structure Blks (b : Nat) (w : World) : Prop where
  at_ : ∀ i, i < 13 → ∃ l : List ByteArray, w.heap[b + i]? = some (.cells (l.map .string).toArray 9 (0, 0)) ∧ (∀ x ∈ l, x.size ≤ 100) ∧ l.length ≤ 3 ∧ w.cell? ⟨b + 13, i, none⟩ = some (.slice (some ⟨b + i, 0, none⟩) l.length l.length)
  lt : b + 13 < w.heap.size
theorem Blks.keep {b : Nat} {w w' : World} (h : Blks b w) (hk : ∀ k, b ≤ k → k ≤ b + 13 → w'.heap[k]? = w.heap[k]?) (hz : w.heap.size ≤ w'.heap.size) : Blks b w' := by
  refine ⟨fun i hi => ?_, by have := h.lt; omega⟩
  have hlt := h.lt
  obtain ⟨r, h1, h2, h3, h4⟩ := h.at_ i hi
  exact ⟨r, (hk _ (by omega) (by omega)).trans h1, h2, h3, (World.cell?_of_block (w := w) (w' := w') (hk _ (by show b ≤ b + 13; omega) (by show b + 13 ≤ _; omega))).trans h4⟩
theorem Blks.only {b g : Nat} {w w' : World} (h : Blks b w) (hO : Only g w w') (hg : g < b) : Blks b w' := h.keep (fun k h1 h2 => hO.block k (by have := h.lt; omega) (by omega)) hO.size
theorem Blks.below {b : Nat} {w w' : World} (h : Blks b w) (hO : Below w.heap.size w w') : Blks b w' := h.keep (fun k h1 h2 => hO.block k (by have := h.lt; omega)) hO.size
theorem Blks.foot {b : Nat} {T : Nat → Prop} {w w' : World} (h : Blks b w) (hF : Foot T w w') (hT : ∀ k, T k → k < b ∨ b + 13 < k) : Blks b w' := h.keep (fun k h1 h2 => hF.block k (by have := h.lt; omega) (fun e => by have := hT k e; omega)) hF.size
/-- A row of theirs, read. -/
theorem Blks.row {b : Nat} {w : World} (h : Blks b w) (i : Nat) (hi : i < 13) : ∃ l : List ByteArray, kStr.V w (fun k => b ≤ k ∧ k ≤ b + 12) (.slice (some ⟨b + i, 0, none⟩) l.length l.length) l ∧ (∀ x ∈ l, x.size ≤ 100) ∧ l.length ≤ 3 ∧ w.cell? ⟨b + 13, i, none⟩ = some (.slice (some ⟨b + i, 0, none⟩) l.length l.length) := by
  obtain ⟨l, h1, h2, h3, h4⟩ := h.at_ i hi
  refine ⟨l, ⟨_, _, rfl, Nat.le_refl _, by simp only [maxLen]; omega, by omega, .inr ⟨b + i, 0, rfl, by omega, fun j x hx => ⟨[.string x], str_O w (fun _ => True) x (by have := h2 x (List.mem_of_getElem? hx); omega), fun q u hq => ?_⟩⟩, fun h => by cases h⟩, h2, h3, h4⟩
  have hq0 : q = 0 := by have := (List.getElem?_eq_some_iff.1 hq).1; simpa using this
  subst hq0
  obtain rfl : Value.string x = u := by simpa using hq
  have := (box_at h1).2.1 j (.string x) (by simp [hx])
  simpa [kStr, Kd.str, Kd.scalar] using this
theorem blks_many {w : World} {os : List Obj} (hl : os.length = 14) (outer : Array Value) (h13 : os[13]? = some (.cells outer 220 (0, 0)))
    (h : ∀ i, i < 13 → ∃ r : Array Value, os[i]? = some (.cells r 9 (0, 0)) ∧ r.all (shortStr 100) = true ∧ r.size ≤ 3 ∧ outer[i]? = some (.slice (some ⟨w.heap.size + i, 0, none⟩) r.size r.size)) : Blks w.heap.size (many w os) := by
  refine ⟨fun i hi => ?_, by rw [many_size]; omega⟩
  obtain ⟨r, h1, h2, h3, h4⟩ := h i hi
  obtain ⟨l, rfl, hs⟩ := short_arr r h2
  have hz : (l.map Value.string).toArray.size = l.length := by simp
  rw [hz] at h3 h4
  exact ⟨l, many_get os w i _ h1, hs, h3, (box_at (many_get os w 13 _ h13)).2.1 i _ h4⟩
set_option maxHeartbeats 1000000 in
theorem blocks_c (w : World) : Calls Tryz.prog 238 #[] w fun e w' => e = .returned (.slice (some ⟨w.heap.size + 13, 0, none⟩) 13 13) ∧ Blks w.heap.size w' ∧ Below w.heap.size w w' := by
  go_enter Tryz.func238, Tryz.ntmps238
  go_wp2
  go_ret
  refine ⟨rfl, ?_⟩
  generalize hW : World.alloc _ _ = W
  obtain ⟨os, hos, hl, outer, h13, h⟩ : ∃ os : List Obj, W = many w os ∧ os.length = 14 ∧ ∃ outer : Array Value, os[13]? = some (.cells outer 220 (0, 0)) ∧ ∀ i, i < 13 → ∃ r : Array Value, os[i]? = some (.cells r 9 (0, 0)) ∧ r.all (shortStr 100) = true ∧ r.size ≤ 3 ∧ outer[i]? = some (.slice (some ⟨w.heap.size + i, 0, none⟩) r.size r.size) := by
    refine ⟨[_, _, _, _, _, _, _, _, _, _, _, _, _, _], hW.symm.trans rfl, rfl, _, rfl, ?_⟩
    intro i hi
    match i, hi with
    | 0, _ => exact ⟨_, rfl, by kernel_rfl, by decide, rfl⟩
    | 1, _ => exact ⟨_, rfl, by kernel_rfl, by decide, rfl⟩
    | 2, _ => exact ⟨_, rfl, by kernel_rfl, by decide, rfl⟩
    | 3, _ => exact ⟨_, rfl, by kernel_rfl, by decide, rfl⟩
    | 4, _ => exact ⟨_, rfl, by kernel_rfl, by decide, rfl⟩
    | 5, _ => exact ⟨_, rfl, by kernel_rfl, by decide, rfl⟩
    | 6, _ => exact ⟨_, rfl, by kernel_rfl, by decide, rfl⟩
    | 7, _ => exact ⟨_, rfl, by kernel_rfl, by decide, rfl⟩
    | 8, _ => exact ⟨_, rfl, by kernel_rfl, by decide, rfl⟩
    | 9, _ => exact ⟨_, rfl, by kernel_rfl, by decide, rfl⟩
    | 10, _ => exact ⟨_, rfl, by kernel_rfl, by decide, rfl⟩
    | 11, _ => exact ⟨_, rfl, by kernel_rfl, by decide, rfl⟩
    | 12, _ => exact ⟨_, rfl, by kernel_rfl, by decide, rfl⟩
  subst hos
  exact ⟨blks_many hl outer h13 h, many_below _ _⟩
end
section
open Go.RowKit
set_option linter.unusedVariables false
set_option maxRecDepth 100000
theorem info_terms : (Tryz.prog.info? 24).map (fun i => (i.zero, i.size, i.bytes)) = some (some (.slice none 0 0), 1, 24) := by kernel_rfl
set_option maxHeartbeats 1000000 in
theorem l3Read_c (v : Value) (ws : List ByteArray) (hl : ws.length ≤ 1000000) (hs : ∀ x ∈ ws, x.size ≤ 1000000000) (ok : Nat → Prop) (w : World) (hV : kStr.V w ok v ws) :
    Calls Tryz.prog 273 #[v] w fun e w' => ∃ (u : Value) (ts : List Term) (q : Bool), e = .returned (.tuple #[u, .bool q]) ∧ kTerms.R w' (fun k => w.heap.size ≤ k) u ts ∧ (q = true → ts.length = ws.length) ∧ (∀ t ∈ ts, t.length ≤ 41) ∧ Below w.heap.size w w' := by
  obtain ⟨A, c, rfl, h1, h2, h3, hC, hz⟩ := hV
  have HC := Sec.mk hC
  have HS := Sec.mk hs
  clear hC hz hs
  have hus := Tryz.underlying9
  go_enter Tryz.func273, Tryz.ntmps273
  go_wp2
  go_loopw [4, 5] (fun ov iv wr => ∃ (k : Nat) (ts : List Term), k ≤ ws.length ∧ iv = .int .i64 k ∧ Sec (ts.length = k) ∧ Sec (∀ t ∈ ts, t.length ≤ 41) ∧ Sec (kTerms.R wr (fun k => w.heap.size ≤ k) ov ts) ∧ Sec (Below w.heap.size w wr)) (fun _ iv _ => ws.length - (intOf iv).toNat)
  case atStart => exact ⟨0, [], Nat.zero_le _, rfl, ⟨rfl⟩, ⟨by simp⟩, ⟨Kd.R_empty kTerms (w := w) (W := w) (Nat.le_refl _)⟩, ⟨belA (Below.refl _ _) _⟩⟩
  case round =>
    obtain ⟨k, ts, hk, rfl, hlt', hT, hR, hb⟩ := hrel
    obtain ⟨A9, c9, rfl, -⟩ := Kd.R_form hR.out
    have T0 : Sec True := ⟨trivial⟩
    by_cases hlt : k < ws.length
    · obtain ⟨b, off, rfl, hob, hc, _⟩ := str_at (Kd.C_below HC.out hb.out (by decide)) k hlt
      have hsz := HS.out ws[k] (List.getElem_mem hlt)
      generalize ws[k] = s at *
      have i0 : (0 : Int) ≤ (k : Int) := by omega
      have i1 : (k : Int) < (ws.length : Int) := by omega
      have hL : ts.length + 1 ≤ 1073741824 := by have := hlt'.out; omega
      go_wp2_with fail
      refine (TrmRead_c s hsz wr).mono ?_
      rintro e w1 ⟨u, t, q, rfl, htl, hTR, hB⟩
      obtain ⟨At, ct, rfl, -, -⟩ := Kd.R_form hTR
      have TR1 := Sec.mk hTR
      have R1 := Sec.mk (Kd.R_below hR.out hB)
      have B1 := Sec.mk (bel hb.out hB)
      have HB := Sec.mk hB
      clear hTR hB hc
      cases q with
      | false =>
        go_wp2
        exact bodyPost_ret (v := .tuple #[.slice A9 ts.length c9, .bool false]) (by simp [results, Tryz.results273, go_sem]) rfl ⟨_, ts, false, rfl, R1.out, fun h => (by cases h), hT.out, B1.out⟩
      | true =>
        go_wp2_with (at_builtin; refine Kd.R_app kTerms (w0 := w) (wb := wr) rfl (.tmp 26) (.tmp 28) 178 (.slice none 0 0) 24 rfl Tryz.underlying178 info_terms rfl (by decide) (by decide) _ _ t [.slice At t.length ct] rfl rfl (by rfl) hR.out hb.out HB.out ⟨_, rfl, TR1.out⟩ hL ?_; intro v2 w2 hR2 hb2; have R2 := Sec.mk hR2; have B2 := Sec.mk hb2; clear hR2 hb2)
        go_roundw
        case rel => exact ⟨k + 1, ts ++ [t], by omega, by go_num, ⟨by rw [List.length_append, hlt'.out]; rfl⟩, ⟨fun y hy => by rcases List.mem_append.1 hy with hy | hy; exact hT.out y hy; simp at hy; subst hy; omega⟩, R2, B2⟩
        case measure => simp [intOf]; omega
    · go_wp2
      exact bodyPost_ret (v := .tuple #[.slice A9 ts.length c9, .bool true]) (by simp [results, Tryz.results273, go_sem]) rfl ⟨_, ts, true, rfl, hR.out, fun _ => by have := hlt'.out; omega, hT.out, hb.out⟩
end
end Go.Proofs.YtekiikmaaiekkaaGreatDoor
