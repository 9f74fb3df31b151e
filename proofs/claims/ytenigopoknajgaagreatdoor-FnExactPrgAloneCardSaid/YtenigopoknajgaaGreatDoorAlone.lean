/- Contracts: PrgAlone of both sides. -/
import Derived.Test.YtenigopoknajgaaGreatDoorP7
import Derived.Test.YtenigopoknajgaaGreatDoorCopy4s
import Derived.Test.YtenigopoknajgaaGreatDoorCopy5
namespace Go.Proofs.YtenigopoknajgaaGreatDoor
open Go.RowKit
set_option linter.unusedVariables false
set_option maxRecDepth 100000
def aloneP (p : Prog) : Prog := if prgOk p = true then ⟨p.clauses, []⟩ else ⟨[], []⟩
theorem kProg_O {w : World} {S : Nat → Prop} {x : Prog} {cs : List Value} (h : kProg.O w S x cs) : ∃ v0 v1, cs = [v0, v1] ∧ kClause.R w S v0 x.clauses := by
  obtain ⟨S1, S2, c0, c1, rfl, g1, g2, ⟨v0, rfl, h0⟩, ⟨v1, rfl, h1⟩⟩ := h
  exact ⟨v0, v1, rfl, Kd.R_mono h0 (fun k h _ => (g1 k h).1)⟩
theorem kProg_one {w : World} {S : Nat → Prop} {l : List Clause} {v0 : Value} (h : kClause.R w S v0 l) : kProg.O w S ⟨l, []⟩ [v0, .slice none 0 0] :=
  kProg.O_mono (kProg_of (x := ⟨l, []⟩) h (Kd.R_nil kPlace _ (fun _ => False)) (fun _ _ => id)) (fun k h _ => h.elim id (fun h => h.elim))
theorem kProg_none (w : World) : kProg.O w (fun _ => False) ⟨[], []⟩ [.slice none 0 0, .slice none 0 0] := kProg_one (Kd.R_nil kClause _ _)
set_option maxHeartbeats 1000000 in
theorem PrgAlone_c (p : Prog) (cs : List Value) (ok0 : Nat → Prop) (w : World) (hK0 : kProg.K w ok0 p cs) :
    Calls Tryz.prog 5 #[.agg cs.toArray] w fun e w' => ∃ c : List Value, e = .returned (.agg c.toArray) ∧ kProg.O w' (fun k => w.heap.size ≤ k) (aloneP p) c ∧ Below w.heap.size w w' := by
  obtain ⟨ok, hok, hK⟩ : ∃ ok : Nat → Prop, (∀ k, ok k → k < w.heap.size) ∧ kProg.K w ok p cs := ⟨fun k => ok0 k ∧ k < w.heap.size, fun k h => h.2, kProg.K_move (fun k h1 h2 => ⟨⟨h1, h2⟩, rfl⟩) hK0⟩
  clear hK0
  have HOK := Sec.mk hok
  have K0 := Sec.mk hK
  obtain ⟨v0, v1, rfl, h0, h1⟩ := kProg_K hK
  have V0 := Sec.mk h0
  obtain ⟨E0, m0, rfl, -⟩ := h0
  obtain ⟨E1, m1, rfl, -⟩ := h1
  have B0 := Sec.mk (belA (belA (Below.refl w.heap.size w) (.cells #[.slice E0 p.clauses.length m0, .slice E1 p.places.length m1] 30)) (.cells #[.slice none 0 0, .slice none 0 0] 30))
  have K00 := K0
  have V00 := V0
  clear K0 V0
  have K0 := Sec.mk (Kd.K_below K00.out B0.out)
  have V0 := Sec.mk (Kd.V_below V00.out B0.out (by decide))
  have P0 := Sec.mk (box2 w (.cells #[.slice E0 p.clauses.length m0, .slice E1 p.places.length m1] 30) (.cells #[.slice none 0 0, .slice none 0 0] 30)).1
  have P1 := Sec.mk (box2 w (.cells #[.slice E0 p.clauses.length m0, .slice E1 p.places.length m1] 30) (.cells #[.slice none 0 0, .slice none 0 0] 30)).2
  have X := (box_at P0.out).2.1
  have y0 := X 0 _ rfl
  have y1 := X 1 _ rfl
  have Z0 : Sec (((w.alloc (.cells #[.slice E0 p.clauses.length m0, .slice E1 p.places.length m1] 30)).alloc (.cells #[.slice none 0 0, .slice none 0 0] 30)).heap.size = w.heap.size + 2) := ⟨by simp⟩
  have T0 : Sec True := ⟨trivial⟩
  clear hK hok X K00 V00
  have hu := Tryz.underlying30
  cases hq : prgOk p with
  | false =>
    have HQ := Sec.mk hq
    have hn : Sec (aloneP p = ⟨[], []⟩) := ⟨if_neg (by rw [hq]; decide)⟩
    clear hq
    go_enter Tryz.func5, Tryz.ntmps5
    go_wp2_with (first | (clear T0; go_at_call 13; have T1 : Sec True := ⟨trivial⟩; refine (specPrgOk_c p _ ok _ K0.out (fun q h => by have := HOK.out q h; have := Z0.out; omega)).mono ?_; rw [HQ.out]; rintro e w1 ⟨rfl, hb⟩; have RB1 := Sec.mk ((hb.block _ (Array.getElem?_eq_some_iff.1 P1.out).1).trans P1.out); have PB1 := Sec.mk ((hb.block _ (Array.getElem?_eq_some_iff.1 P0.out).1).trans P0.out); have X := (box_at PB1.out).2.1; have z0 := X 0 _ rfl; have z1 := X 1 _ rfl; have B1 := Sec.mk (bel B0.out hb); have V1 := Sec.mk (Kd.V_below V0.out hb (by decide)); have K1 := Sec.mk (Kd.K_below K0.out hb); have Z1 : Sec (w.heap.size + 2 ≤ w1.heap.size) := ⟨by have := hb.size; have := Z0.out; omega⟩; clear hb X) | (with_reducible show wpList _ _ _ (⟨none, .store 30 (.tmp 2) (.tmp 6), _, _, _, _⟩ :: _) _ _; refine wpList_store (cs := [.slice none 0 0, .slice none 0 0]) rfl 30 (.tmp 2) (.tmp 6) rfl rfl rfl RB1.out (by kernel_rfl) rfl (kProg.K_one (kProg.O_K (kProg_none w))) ?_; intro w8 hb8 hF8; have B8 := Sec.mk hb8; have F8 := Sec.mk hF8; clear hb8 hF8))
    refine bodyPost_ret (results_cell rfl rfl B8.out hu rfl (by kernel_rfl)) rfl ⟨_, rfl, ?_, ?_⟩
    · rw [hn.out]; exact kProg.O_mono (kProg_none _) (fun _ h _ => h.elim)
    · exact F8.out.below B1.out (fun q h => by have h1 : q = w.heap.size + 1 := h; omega)
  | true =>
    have HQ := Sec.mk hq
    have hn : Sec (aloneP p = ⟨p.clauses, []⟩) := ⟨if_pos hq⟩
    clear hq
    go_enter Tryz.func5, Tryz.ntmps5
    go_wp2_with (first | (clear T0; go_at_call 13; have T1 : Sec True := ⟨trivial⟩; refine (specPrgOk_c p _ ok _ K0.out (fun q h => by have := HOK.out q h; have := Z0.out; omega)).mono ?_; rw [HQ.out]; rintro e w1 ⟨rfl, hb⟩; have RB1 := Sec.mk ((hb.block _ (Array.getElem?_eq_some_iff.1 P1.out).1).trans P1.out); have PB1 := Sec.mk ((hb.block _ (Array.getElem?_eq_some_iff.1 P0.out).1).trans P0.out); have X := (box_at PB1.out).2.1; have z0 := X 0 _ rfl; have z1 := X 1 _ rfl; have B1 := Sec.mk (bel B0.out hb); have V1 := Sec.mk (Kd.V_below V0.out hb (by decide)); have K1 := Sec.mk (Kd.K_below K0.out hb); have Z1 : Sec (w.heap.size + 2 ≤ w1.heap.size) := ⟨by have := hb.size; have := Z0.out; omega⟩; clear hb X) | (clear T1; go_at_call 14; have T2 : Sec True := ⟨trivial⟩; refine (l3Copy_c _ p.clauses ok _ V1.out).mono ?_; rintro e w2 ⟨u, rfl, hR, hb⟩; obtain ⟨A1, n1, rfl, -, -⟩ := Kd.R_form hR; have R2 := Sec.mk (Kd.R_mono hR (S1 := fun k => w.heap.size + 2 ≤ k) (fun k h _ => Nat.le_trans Z1.out h)); have RB2 := Sec.mk ((hb.block _ (Array.getElem?_eq_some_iff.1 RB1.out).1).trans RB1.out); have B2 := Sec.mk (bel B1.out hb); clear hb hR) | (with_reducible show wpList _ _ _ (⟨none, .store 30 (.tmp 2) (.tmp 10), _, _, _, _⟩ :: _) _ _; refine wpList_store (cs := [.slice A1 p.clauses.length n1, .slice none 0 0]) rfl 30 (.tmp 2) (.tmp 10) rfl rfl rfl RB2.out (by kernel_rfl) rfl (kProg.K_one (kProg.O_K (kProg_one R2.out))) ?_; intro w8 hb8 hF8; have B8 := Sec.mk hb8; have F8 := Sec.mk hF8; clear hb8 hF8))
    refine bodyPost_ret (results_cell rfl rfl B8.out hu rfl (by kernel_rfl)) rfl ⟨_, rfl, ?_, ?_⟩
    · rw [hn.out]; exact kProg.O_mono (F8.out.O (kProg_one R2.out) (fun q h e => by have h1 : q = w.heap.size + 1 := e; omega)) (fun q h _ => by omega)
    · exact F8.out.below B2.out (fun q h => by have h1 : q = w.heap.size + 1 := h; omega)
set_option maxHeartbeats 1000000 in
theorem PrgAlone_i (p : Prog) (cs : List Value) (ok0 : Nat → Prop) (w : World) (hK0 : kProg.K w ok0 p cs) :
    Calls Tryz.prog 7 #[.agg cs.toArray] w fun e w' => ∃ c : List Value, e = .returned (.agg c.toArray) ∧ kProg.O w' (fun k => w.heap.size ≤ k) (aloneP p) c ∧ Below w.heap.size w w' := by
  obtain ⟨ok, hok, hK⟩ : ∃ ok : Nat → Prop, (∀ k, ok k → k < w.heap.size) ∧ kProg.K w ok p cs := ⟨fun k => ok0 k ∧ k < w.heap.size, fun k h => h.2, kProg.K_move (fun k h1 h2 => ⟨⟨h1, h2⟩, rfl⟩) hK0⟩
  clear hK0
  have HOK := Sec.mk hok
  have K0 := Sec.mk hK
  obtain ⟨v0, v1, rfl, h0, h1⟩ := kProg_K hK
  have V0 := Sec.mk h0
  obtain ⟨E0, m0, rfl, -⟩ := h0
  obtain ⟨E1, m1, rfl, -⟩ := h1
  have B0 := Sec.mk (belA (belA (Below.refl w.heap.size w) (.cells #[.slice E0 p.clauses.length m0, .slice E1 p.places.length m1] 30)) (.cells #[.slice none 0 0, .slice none 0 0] 30))
  have K00 := K0
  have V00 := V0
  clear K0 V0
  have K0 := Sec.mk (Kd.K_below K00.out B0.out)
  have V0 := Sec.mk (Kd.V_below V00.out B0.out (by decide))
  have P0 := Sec.mk (box2 w (.cells #[.slice E0 p.clauses.length m0, .slice E1 p.places.length m1] 30) (.cells #[.slice none 0 0, .slice none 0 0] 30)).1
  have P1 := Sec.mk (box2 w (.cells #[.slice E0 p.clauses.length m0, .slice E1 p.places.length m1] 30) (.cells #[.slice none 0 0, .slice none 0 0] 30)).2
  have X := (box_at P0.out).2.1
  have y0 := X 0 _ rfl
  have y1 := X 1 _ rfl
  have Z0 : Sec (((w.alloc (.cells #[.slice E0 p.clauses.length m0, .slice E1 p.places.length m1] 30)).alloc (.cells #[.slice none 0 0, .slice none 0 0] 30)).heap.size = w.heap.size + 2) := ⟨by simp⟩
  have T0 : Sec True := ⟨trivial⟩
  clear hK hok X K00 V00
  have hu := Tryz.underlying30
  cases hq : prgOk p with
  | false =>
    have HQ := Sec.mk hq
    have hn : Sec (aloneP p = ⟨[], []⟩) := ⟨if_neg (by rw [hq]; decide)⟩
    clear hq
    go_enter Tryz.func7, Tryz.ntmps7
    go_wp2_with (first | (clear T0; go_at_call 17; have T1 : Sec True := ⟨trivial⟩; refine (PrgOk_i p _ ok _ K0.out).mono ?_; rw [HQ.out]; rintro e w1 ⟨rfl, hb⟩; have RB1 := Sec.mk ((hb.block _ (Array.getElem?_eq_some_iff.1 P1.out).1).trans P1.out); have PB1 := Sec.mk ((hb.block _ (Array.getElem?_eq_some_iff.1 P0.out).1).trans P0.out); have X := (box_at PB1.out).2.1; have z0 := X 0 _ rfl; have z1 := X 1 _ rfl; have B1 := Sec.mk (bel B0.out hb); have V1 := Sec.mk (Kd.V_below V0.out hb (by decide)); have K1 := Sec.mk (Kd.K_below K0.out hb); have Z1 : Sec (w.heap.size + 2 ≤ w1.heap.size) := ⟨by have := hb.size; have := Z0.out; omega⟩; clear hb X) | (with_reducible show wpList _ _ _ (⟨none, .store 30 (.tmp 2) (.tmp 7), _, _, _, _⟩ :: _) _ _; refine wpList_store (cs := [.slice none 0 0, .slice none 0 0]) rfl 30 (.tmp 2) (.tmp 7) rfl rfl rfl RB1.out (by kernel_rfl) rfl (kProg.K_one (kProg.O_K (kProg_none w))) ?_; intro w8 hb8 hF8; have B8 := Sec.mk hb8; have F8 := Sec.mk hF8; clear hb8 hF8))
    refine bodyPost_ret (results_cell rfl rfl B8.out hu rfl (by kernel_rfl)) rfl ⟨_, rfl, ?_, ?_⟩
    · rw [hn.out]; exact kProg.O_mono (kProg_none _) (fun _ h _ => h.elim)
    · exact F8.out.below B1.out (fun q h => by have h1 : q = w.heap.size + 1 := h; omega)
  | true =>
    have HQ := Sec.mk hq
    have hn : Sec (aloneP p = ⟨p.clauses, []⟩) := ⟨if_pos hq⟩
    clear hq
    go_enter Tryz.func7, Tryz.ntmps7
    go_wp2_with (first | (clear T0; go_at_call 17; have T1 : Sec True := ⟨trivial⟩; refine (PrgOk_i p _ ok _ K0.out).mono ?_; rw [HQ.out]; rintro e w1 ⟨rfl, hb⟩; have RB1 := Sec.mk ((hb.block _ (Array.getElem?_eq_some_iff.1 P1.out).1).trans P1.out); have PB1 := Sec.mk ((hb.block _ (Array.getElem?_eq_some_iff.1 P0.out).1).trans P0.out); have X := (box_at PB1.out).2.1; have z0 := X 0 _ rfl; have z1 := X 1 _ rfl; have B1 := Sec.mk (bel B0.out hb); have V1 := Sec.mk (Kd.V_below V0.out hb (by decide)); have K1 := Sec.mk (Kd.K_below K0.out hb); have Z1 : Sec (w.heap.size + 2 ≤ w1.heap.size) := ⟨by have := hb.size; have := Z0.out; omega⟩; clear hb X) | (clear T1; go_at_call 18; have T2 : Sec True := ⟨trivial⟩; refine (copiedProg_i p _ ok _ K1.out).mono ?_; rintro e w2 ⟨c9, rfl, hO, hb⟩; obtain ⟨u0, u1, rfl, hR⟩ := kProg_O hO; obtain ⟨A1, n1, rfl, -, -⟩ := Kd.R_form hR; obtain ⟨x0, x1, hx, -, ⟨A2, n2, hx2, -⟩⟩ := kProg_K (kProg.O_K hO); simp only [List.cons.injEq, and_true] at hx; obtain ⟨hx0, hx1⟩ := hx; subst hx1; subst hx2; have R2 := Sec.mk (Kd.R_mono hR (S1 := fun k => w.heap.size + 2 ≤ k ∧ k < w2.heap.size) (fun k h h2 => ⟨Nat.le_trans Z1.out h, h2⟩)); have RB2 := Sec.mk ((hb.block _ (Array.getElem?_eq_some_iff.1 RB1.out).1).trans RB1.out); have B2 := Sec.mk (bel B1.out hb); have Z2 := Sec.mk (Nat.le_trans Z1.out hb.size); have W3 := belA (Below.refl w2.heap.size w2) (.cells #[.slice A1 p.clauses.length n1, .slice none 0 0] 30); have RB3 := Sec.mk (box_cells W3 RB2.out).1; have R3 := Sec.mk (Kd.R_below R2.out W3); have B3 := Sec.mk (bel B2.out W3); clear hb hR hO hx0 W3) | (with_reducible show wpList _ _ _ (⟨none, .store 30 (.tmp 2) (.tmp 11), _, _, _, _⟩ :: _) _ _; refine wpList_store (cs := [.slice A1 p.clauses.length n1, .slice none 0 0]) rfl 30 (.tmp 2) (.tmp 11) rfl rfl rfl RB3.out (by kernel_rfl) rfl (kProg.K_one (kProg.O_K (kProg_one R2.out))) ?_; intro w8 hb8 hF8; have B8 := Sec.mk hb8; have F8 := Sec.mk hF8; clear hb8 hF8))
    refine bodyPost_ret (results_cell rfl rfl B8.out hu rfl (by kernel_rfl)) rfl ⟨_, rfl, ?_, ?_⟩
    · rw [hn.out]; exact kProg.O_mono (F8.out.O (kProg_one R3.out) (fun q h e => by have h1 : q = w.heap.size + 1 := e; omega)) (fun q h _ => by omega)
    · exact F8.out.below B3.out (fun q h => by have h1 : q = w.heap.size + 1 := h; omega)
end Go.Proofs.YtenigopoknajgaaGreatDoor
