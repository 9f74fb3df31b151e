/- Draws of programs: a program, one in so many with something wrong. Condition: the reader has been asked no more than a number of times; and what goes with it. -/
import Derived.Test.YtgiobpggonceeaaGreatDoorSn2
import Derived.Test.YtgiobpggonceeaaGreatDoorSn3
import Derived.Test.YtgiobpggonceeaaGreatDoorSn15
namespace Go.Proofs.YtgiobpggonceeaaGreatDoor
section
open Go.RowKit
set_option linter.unusedVariables false
set_option maxRecDepth 100000
section
variable {α : Type} {n0 : Nat} {T : Nat → Prop}
def onOE (d : Kd α) (t : Nat) : On := fun val S w => ∃ x : α, onO d t x val S w
theorem stab_OE (d : Kd α) (t : Nat) : (Ass.mk [t] (onOE d t)).Stab n0 T := fun val val' S w w' h hs hk hz => by
  obtain ⟨x, h1⟩ := h
  exact ⟨x, stab_O d t x val val' S w w' h1 hs hk hz⟩
def onOneE (d : Kd α) (t : Nat) : On := fun val S w => ∃ x : α, onOne d t x val S w
theorem stab_oneE (d : Kd α) (t : Nat) : (Ass.mk [t] (onOneE d t)).Stab n0 T := fun val val' S w w' h hs hk hz => by
  obtain ⟨x, h1⟩ := h
  exact ⟨x, stab_one d t x val val' S w w' h1 hs hk hz⟩
def onRE (d : Kd α) (t : Nat) (xs : List α) : On := fun val S w => ∃ x : α, onR d t (xs ++ [x]) val S w
theorem stab_RE (d : Kd α) (t : Nat) (xs : List α) : (Ass.mk [t] (onRE d t xs)).Stab n0 T := fun val val' S w w' h hs hk hz => by
  obtain ⟨x, h1⟩ := h
  exact ⟨x, stab_R d t _ val val' S w w' h1 hs hk hz⟩
def onGrewE (e : Kd α) (X : Nat) (c0 c2 : List Value) (ty : TypeId) (xs : List α) : On := fun val S w => ∃ x : α, onGrew e X c0 c2 ty (xs ++ [x]) val S w
theorem stab_grewE (e : Kd α) (X : Nat) (c0 c2 : List Value) (ty : TypeId) (xs : List α) : (Ass.mk [] (onGrewE e X c0 c2 ty xs)).Stab n0 T := fun val val' S w w' h hs hk hz => by
  obtain ⟨x, h1⟩ := h
  exact ⟨x, stab_grew e X c0 c2 ty _ val val' S w w' h1 hs hk hz⟩
/-- Some places that were drawn. -/
def onTd (t : Nat) : On := fun val S w => ∃ x : Term, x ≠ [] ∧ x.length ≤ 40 ∧ Drawn x ∧ kCell.R w S (val t) x
theorem stab_Td (t : Nat) : (Ass.mk [t] (onTd t)).Stab n0 T := fun val val' S w w' h hs hk _ => by
  obtain ⟨x, h1, h2, h3, h4⟩ := h
  rw [← hs t (by simp)] at h4
  exact ⟨x, h1, h2, h3, Kd.R_move (fun k h1 h2 => ⟨h1, hk k (.inl h1) h2⟩) h4⟩
end
/-- The reader in block g, f turns ahead of the last, each of no more than K. -/
def RIk (K : Nat) (w0 : World) (g PB : Nat) (f : Nat) (w : World) : Prop := ∃ P, Rd w0 w g P ∧ P + K * f ≤ PB
theorem RIk.down {K : Nat} {w0 : World} {g PB f : Nat} {w : World} (h : RIk K w0 g PB (f + 1) w) : RIk K w0 g PB f w := by
  obtain ⟨P, h1, h2⟩ := h
  exact ⟨P, h1, by rw [Nat.mul_succ] at h2; omega⟩
theorem RIk.below {K : Nat} {w0 : World} {g PB f : Nat} {w w' : World} (h : RIk K w0 g PB f w) (hb : Below w.heap.size w w') : RIk K w0 g PB f w' := by
  obtain ⟨P, h1, h2⟩ := h
  exact ⟨P, h1.below hb, h2⟩
theorem RIk.foot {K : Nat} {w0 w w' : World} {g PB f : Nat} {S : Nat → Prop} (h : RIk K w0 g PB f w) (hF : Foot S w w') (hS : ∀ k, S k → k ≠ g ∧ w0.heap.size ≤ k) : RIk K w0 g PB f w' := by
  obtain ⟨P, h1, h2⟩ := h
  exact ⟨P, hF.rd h1 hS, h2⟩
namespace Sh
variable {A : Nat → Ass} {eat : Nat → List Nat} {own : Nat → Nat → Prop} {i f : Nat} {o : Oper} {a : Act} {w w' w0 : World} {v : Value} {g PB P P' : Nat}
theorem kpost_pure (hI : RIk 20000 w0 g PB (f + 1) w) (h : (A i).on (fun t => if o.dst = some t then v else slotsOf a t) (fun _ => False) w) : Post (fun k => k = g) (RIk 20000 w0 g PB) f A eat own i o a w v w :=
  ⟨fun _ => False, Foot.refl _ _, hI.down, h, fun _ h => h.elim⟩
theorem kpost_new (hI : RIk 20000 w0 g PB (f + 1) w) (hB : Below w.heap.size w w') (h : (A i).on (fun t => if o.dst = some t then v else slotsOf a t) (fun k => w.heap.size ≤ k ∧ k < w'.heap.size) w') : Post (fun k => k = g) (RIk 20000 w0 g PB) f A eat own i o a w v w' :=
  ⟨fun k => w.heap.size ≤ k ∧ k < w'.heap.size, Foot.of_below hB, hI.down.below hB, h, fun k h => .inr h⟩
theorem kpost_rd (hPB : P + 20000 * (f + 1) ≤ PB) (hR : Rd w0 w' g P') (hle : P' ≤ P + 20000) (hO : Only g w w') (h : (A i).on (fun t => if o.dst = some t then v else slotsOf a t) (fun k => w.heap.size ≤ k ∧ k < w'.heap.size) w') : Post (fun k => k = g) (RIk 20000 w0 g PB) f A eat own i o a w v w' :=
  ⟨fun k => w.heap.size ≤ k ∧ k < w'.heap.size, ⟨hO.os, hO.tape, hO.output, hO.size, fun k hk hn => hO.block k hk (fun e => hn (.inr e))⟩, ⟨P', hR, by omega⟩, h, fun k h => .inr h⟩
end Sh
theorem gf_places : Kd.GFld kProg (Kd.slice 26 kPlace (by decide)) 1 (fun x => x.places) (fun x y => { x with places := y }) := Kd.GFld.iso _ (Kd.GFld.snd (Kd.GFld.self _)) (fun _ _ => rfl)
section
variable {α β : Type} {d : Kd α} {e : Kd β} {t : TypeId} {hp : 0 < e.sz} {x : List β → α} {X n0 : Nat} {c0 c2 : List Value} {ty : TypeId} {w w1 : World} {v : Value} {xs ys : List β} {Sr Sc S : Nat → Prop} {g : Nat} {val : Nat → Value}
/-- Behind a region that grew the row and asked the reader. -/
theorem Growing.nextG (h : Growing d e t hp x X n0 c0 c2 ty w v xs Sr Sc) (hF : Foot (fun k => k = g ∨ (k = X ∨ Sc k)) w.drew w1) (hS : onGrew e X c0 c2 ty ys val S w1) (hm : ∀ k, S k → (w.drew.heap.size ≤ k ∨ (k = g ∨ (k = X ∨ Sc k))) ∧ k < w1.heap.size) (hg : g < n0) (hgS : ∀ k, S k → k ≠ g) :
    ∃ u, Growing d e t hp x X n0 c0 c2 ty w1 u ys Sr (fun k => S k ∧ k ≠ X) := by
  obtain ⟨u, h1, h2, h3⟩ := hS
  have hsz : w.drew.heap.size = w.heap.size := rfl
  have hX : X < w.heap.size := (Array.getElem?_eq_some_iff.1 h.box).1
  refine ⟨u, h1, h.hole.move (fun k hk hl => ⟨hk, hF.block k hl (fun e => ?_)⟩), h3, fun k hk hs => ?_, fun k hk => ?_, h.at_⟩
  · have h4 := h.mine k (.inl hk)
    rcases e with e | e | e
    · omega
    · exact h4.2.2 e
    · exact h.apart k hk e
  · have h5 := h.mine k (.inl hk)
    rcases (hm k hs.1).1 with h4 | h4 | h4 | h4
    · omega
    · omega
    · exact hs.2 h4
    · exact h.apart k hk h4
  · have hw := hF.size
    rcases hk with hk | hk
    · have := h.mine k (.inl hk); exact ⟨this.1, by omega, this.2.2⟩
    · have h5 := hm k hk.1
      refine ⟨?_, h5.2, hk.2⟩
      rcases h5.1 with h4 | h4 | h4 | h4
      · have := h.at_; omega
      · exact (hgS k hk.1 h4).elim
      · exact (hk.2 h4).elim
      · exact (h.mine k (.inr h4)).1
end
/-- A program in its box Y, the result's box ahead of it, the reader. -/
structure PSt (w0 w : World) (g P Y N : Nat) (W : World) : Prop where
  box : ∃ (cs : List Value) (p : Prog) (S : Nat → Prop), W.heap[Y]? = some (.cells cs.toArray 28 (0, 0)) ∧ kProg.O W S p cs ∧ (∀ k, S k → w.heap.size + 1 ≤ k ∧ k ≠ Y) ∧ p.clauses.length ≤ N ∧ p.places.length ≤ N
  res : W.heap[w.heap.size]? = some (.cells #[.slice none 0 0, .slice none 0 0] 28 (0, 0))
  rd : Rd w0 W g P
  only : Only g w W
  y : w.heap.size + 1 ≤ Y
theorem PSt.mono {w0 w W : World} {g P P1 Y N N1 : Nat} (h : PSt w0 w g P Y N W) (hP : P ≤ P1) (hN : N ≤ N1) : PSt w0 w g P1 Y N1 W := by
  obtain ⟨cs, p, S, h1, h2, h3, h4, h5⟩ := h.box
  exact ⟨⟨cs, p, S, h1, h2, h3, by omega, by omega⟩, h.res, h.rd.mono hP, h.only, h.y⟩
theorem PSt.only' {w0 w W W1 : World} {g P P1 Y N : Nat} (h : PSt w0 w g P Y N W) (hO : Only g W W1) (hR : Rd w0 W1 g P1) (hg : g < w.heap.size) : PSt w0 w g P1 Y N W1 := by
  obtain ⟨cs, p, S, h1, h2, h3, h4, h5⟩ := h.box
  have hy := h.y
  exact ⟨⟨cs, p, S, hO.blk h1 (by omega), hO.O h2 (fun k hk => by have := (h3 k hk).1; omega), h3, h4, h5⟩, hO.blk h.res (by omega), hR, h.only.trans hO, hy⟩
theorem PSt.fin {β : Type} {e : Kd β} {t : TypeId} {hp : 0 < e.sz} {x : List β → Prog} {c0 c2 : List Value} {u : Value} {ys : List β} {Sr Sc T : Nat → Prop} {w0 w wz W : World} {g P P1 Y N N1 : Nat} (h : PSt w0 w g P Y N wz) (G2 : Growing kProg e t hp x Y (w.heap.size + 1) c0 c2 28 W u ys Sr Sc) (hF : Foot T wz W) (hT : ∀ k, T k → k = g ∨ w.heap.size + 1 ≤ k) (hR : Rd w0 W g P1) (hg : g < w.heap.size) (hc : (x ys).clauses.length ≤ N1) (hc2 : (x ys).places.length ≤ N1) : PSt w0 w g P1 Y N1 W := by
  refine ⟨⟨_, _, _, G2.box, G2.done, fun k hk => ⟨hk.1, hk.2.2⟩, hc, hc2⟩, ?_, hR, ?_, h.y⟩
  · exact (hF.block _ (Array.getElem?_eq_some_iff.1 h.res).1 (fun e => by have := hT _ e; omega)).trans h.res
  · have hO := h.only
    exact ⟨hF.os.trans hO.os, hF.tape.trans hO.tape, hF.output.trans hO.output, Nat.le_trans hO.size hF.size, fun k hk hk2 => (hF.block k (Nat.lt_of_lt_of_le hk hO.size) (fun e => by have := hT k e; omega)).trans (hO.block k hk hk2)⟩
theorem Foot.undrew {T : Nat → Prop} {w w' : World} (h : Foot T w.drew w') : Foot T w w' := ⟨h.os, h.tape, h.output, h.size, h.block⟩
def lenTo (c : Option Value) : Nat := match c with
  | some (.slice _ n _) => 100 - n
  | _ => 0
set_option maxHeartbeats 8000000 in
theorem progOr_c (w0 w : World) (g P : Nat) (n : Int) (hR : Rd w0 w g P) (hP : P ≤ 998000000) (hn : 0 ≤ n) (hn2 : n ≤ 1000000000) :
    Calls Tryz.prog 46 #[.pointer (some ⟨g, 0, none⟩), .int .i64 n] w fun e w' => ∃ (p : Prog) (cs : List Value), e = .returned (.agg cs.toArray) ∧ kProg.O w' (fun k => w.heap.size ≤ k) p cs ∧ p.clauses.length ≤ 13 ∧ p.places.length ≤ 13 ∧ Rd w0 w' g (P + 1000000) ∧ Only g w w' := by
  have hg := hR.lt
  have H0 := Sec.mk hR
  have hu2 := Tryz.underlying28
  have hu3 := Tryz.underlying113
  have hu4 := Tryz.underlying39
  have WZ0 := Sec.mk hR.bel.size
  clear hR
  go_enter Tryz.func46, Tryz.ntmps46
  go_wp2_with fail
  have B1 := belA (Below.refl w.heap.size w) (.cells #[.slice none 0 0, .slice none 0 0] 28)
  have X1 := heap_alloc_new w (.cells #[.slice none 0 0, .slice none 0 0] 28)
  have Z1 : (w.alloc (.cells #[.slice none 0 0, .slice none 0 0] 28)).heap.size = w.heap.size + 1 := by simp
  refine (prog_c w0 (w.alloc (.cells #[.slice none 0 0, .slice none 0 0] 28)) g P (H0.out.below B1) (by omega)).mono ?_
  rintro e w2 ⟨pq, cs, rfl, hO, hok, hR2, hO2⟩
  obtain ⟨v1, v2, rfl, k1, k2⟩ := kProg_K (kProg.O_K hO)
  obtain ⟨A1, n1, rfl, -⟩ := k1
  obtain ⟨A2, n2, rfl, -⟩ := k2
  have hz2 := hO2.size
  have B3 := belA (Below.refl w2.heap.size w2) (.cells #[.slice A1 pq.clauses.length n1, .slice A2 pq.places.length n2] 28)
  have X2 := hO2.blk X1 (by omega)
  obtain ⟨l1, l2⟩ := prgOk_len hok
  have G3 : Sec (PSt w0 w g (P + 500000) w2.heap.size 12 (w2.alloc (.cells #[.slice A1 pq.clauses.length n1, .slice A2 pq.places.length n2] 28))) :=
    ⟨⟨⟨_, pq, fun k => w.heap.size + 1 ≤ k ∧ k < w2.heap.size, heap_alloc_new w2 _, Kd.O_below (Kd.O_mono hO (fun k h h2 => ⟨by omega, h2⟩)) B3, fun k h => ⟨h.1, by omega⟩, l1, by omega⟩, (B3.block _ (Array.getElem?_eq_some_iff.1 X2).1).trans X2, hR2.below B3, ((Only.of_below B1).trans hO2).trans (Only.of_below B3), by omega⟩⟩
  clear B1 X1 Z1 hO hok hR2 hO2 B3 X2 hz2 l1 l2
  go_wp2_with fail
  generalize w2.alloc (.cells #[.slice A1 pq.clauses.length n1, .slice A2 pq.places.length n2] 28) = w3 at *
  generalize w2.heap.size = Y at *
  refine (odd_c w0 w3 g _ n G3.out.rd (by omega) hn hn2).mono ?_
  rintro e w5 ⟨b, rfl, hRd, hOn⟩
  have G5 := Sec.mk (G3.out.only' hOn hRd hg)
  clear hRd hOn G3
  go_upto_if 10 with (fail)
  go_cut [] (fun wc => Sec (PSt w0 w g (P + 900000) Y 13 wc))
  case first =>
    cases b with
    | false =>
      go_wp2_with fail
      go_meet
      case rel => exact ⟨G5.out.mono (by omega) (by omega)⟩
    | true =>
      go_wp2_with fail
      refine (pick_c w0 w5 g _ 6 G5.out.rd (by omega)).mono ?_
      rintro e wz ⟨r6, rfl, ⟨s0, s1, -⟩, hRd, hOn⟩
      have s2 := s1 (by omega)
      have G6 := Sec.mk (G5.out.only' hOn hRd hg)
      clear hRd hOn G5 s1
      obtain ⟨PP, hPP⟩ : ∃ PP, PP = P + 500000 + 1 + 1 := ⟨_, rfl⟩
      rw [← hPP] at G6
      have RZ := Sec.mk G6.out.rd
      have NRW : Sec (w0.heap.size ≤ wz.heap.size) := ⟨by have := G6.out.only.size; have := WZ0.out; omega⟩
      obtain ⟨cs6, p, S6, b1, b2, b3, b4, b5⟩ := G6.out.box
      have NY : Sec (g < Y ∧ w0.heap.size ≤ Y ∧ Y ≠ g ∧ Y < wz.heap.size) := ⟨by have := G6.out.y; have := WZ0.out; exact ⟨by omega, by omega, by omega, (Array.getElem?_eq_some_iff.1 b1).1⟩⟩
      have LN : Sec (p.clauses.length ≤ 12 ∧ p.places.length ≤ 12) := ⟨b4, b5⟩
      rcases (show r6 = 0 ∨ r6 = 1 ∨ r6 = 2 ∨ r6 = 3 ∨ r6 = 4 ∨ r6 = 5 by omega) with rfl | rfl | rfl | rfl | rfl | rfl
      · obtain ⟨c0, c2, v, Sr, Sc, hl0, hcs, HG0⟩ := Growing.start (n0 := w.heap.size + 1) gf_clauses b1 b2 b3 G6.out.y
        obtain rfl : c0 = [] := List.eq_nil_of_length_eq_zero hl0
        have HG0 : Growing kProg kClause 25 (by decide) (fun y => ({ p with clauses := y } : Prog)) Y (w.heap.size + 1) [] c2 28 wz v p.clauses Sr Sc := HG0
        obtain ⟨A0, n0, rfl, -, -⟩ := Kd.R_form HG0.row
        have HG := Sec.mk HG0
        clear HG0 hl0 b1 b2 b3 hcs
        go_wp2
        refine Sh.wp_region_lists (G := fun k => k = g) (I := RIk 20000 w0 g (PP + 220000)) [[24], [25], [26], [27], [28], [29], [30], [31], [32], [33], [], [], []]
          [fun val _ _ => val 24 = .pointer (some ⟨Y, 0, none⟩),
            fun val _ _ => val 25 = .slice A0 p.clauses.length n0,
            fun val _ _ => val 26 = .pointer (some ⟨g, 0, none⟩),
            fun val _ _ => val 27 = .pointer (some ⟨g, 0, none⟩),
            onTd 28,
            onT 29 41,
            onOE kClause 30,
            onOneE kClause 31,
            onRE kClause 32 p.clauses,
            fun val _ _ => val 33 = .pointer (some ⟨Y, 0, none⟩),
            onGrewE kClause Y [] c2 28 p.clauses,
            onRc kClause (.slice A0 p.clauses.length n0) p.clauses,
            onCells Y (([] : List Value) ++ ((Value.slice A0 p.clauses.length n0) :: c2)).toArray 28]
          [[], [], [], [], [], [], [5], [6], [11, 7], [], [12, 8], [], []] 2 (fun q => q = g ∨ (q = Y ∨ Sc q)) (fun i q => (i = 11 ∧ Sc q) ∨ (i = 12 ∧ q = Y)) (by kernel_rfl) ⟨by kernel_rfl, by kernel_rfl, by kernel_rfl, by kernel_rfl, by kernel_rfl⟩
          (.cons (stab_val 24 (fun v => v = .pointer (some ⟨Y, 0, none⟩))) (.cons (stab_val 25 (fun v => v = .slice A0 p.clauses.length n0)) (.cons (stab_val 26 (fun v => v = .pointer (some ⟨g, 0, none⟩))) (.cons (stab_val 27 (fun v => v = .pointer (some ⟨g, 0, none⟩))) (.cons (stab_Td 28) (.cons (stab_T 29 41) (.cons (stab_OE kClause 30) (.cons (stab_oneE kClause 31) (.cons (stab_RE kClause 32 p.clauses) (.cons (stab_val 33 (fun v => v = .pointer (some ⟨Y, 0, none⟩))) (.cons (stab_grewE kClause Y [] c2 28 p.clauses) (.cons (stab_Rc kClause (.slice A0 p.clauses.length n0) p.clauses) (.cons (stab_cells Y (([] : List Value) ++ ((Value.slice A0 p.clauses.length n0) :: c2)).toArray 28) .nil)))))))))))))
          (fun i j k h1 h2 => by rcases h1 with ⟨a1, b1⟩ | ⟨a1, b1⟩ <;> rcases h2 with ⟨a2, b2⟩ | ⟨a2, b2⟩ <;> first | omega | (exact ((HG.out.mine k (.inr (by assumption))).2.2 (by assumption)).elim)) (fun i q h => by rcases h with ⟨a1, b1⟩ | ⟨a1, b1⟩; exact ⟨by rw [a1]; decide, .inr (.inr b1), (HG.out.mine q (.inr b1)).2.1⟩; exact ⟨by rw [a1]; decide, .inr (.inl b1), by rw [b1]; exact NY.out.2.2.2⟩) (fun i h1 h2 => by rcases (show i = 11 ∨ i = 12 by simp at h1 h2; omega) with rfl | rfl; exact Kd.R_mono (Kd.R_below HG.out.row (belD (Below.refl _ _))) (fun q h _ => .inl ⟨rfl, h⟩); exact ⟨HG.out.box, .inr ⟨rfl, rfl⟩⟩) (fun k h => ⟨.inl h, by rw [h]; have := NY.out; omega⟩) (fun f w h => RIk.down h) ⟨PP, RZ.out.below (belD (Below.refl _ _)), by simp⟩ (fun i k h h2 => by have h2 : k = g := h2; rcases h with ⟨a1, b1⟩ | ⟨a1, b1⟩; have := (HG.out.mine k (.inr b1)).1; have := NY.out; omega; have := NY.out; omega) (.cons ?_ (.cons ?_ (.cons ?_ (.cons ?_ (.cons ?_ (.cons ?_ (.cons ?_ (.cons ?_ (.cons ?_ (.cons ?_ (.cons ?_ .nil))))))))))) ?_
        · intro a W own hfor huse hap hmi hF hfree f hI K hK
          have e5 : a.eval (.tmp 5) = .pointer (some ⟨Y, 0, none⟩) := hfor 5 (by kernel_rfl)
          refine op_val (.pointer (some ⟨Y, 0, none⟩)) W rfl ?_ (hK _ _ (Sh.kpost_pure hI (if_pos rfl)))
          · clear hfor huse hap hmi hK hF
            generalize a.eval = ρ at *
            go_simp
        · intro a W own hfor huse hap hmi hF hfree f hI K hK
          have e24 : a.eval (.tmp 24) = .pointer (some ⟨Y, 0, none⟩) := huse 0 (by kernel_rfl)
          obtain ⟨hb, hSX⟩ := (huse 12 (by kernel_rfl) : onCells Y (([] : List Value) ++ ((Value.slice A0 p.clauses.length n0) :: c2)).toArray 28 (slotsOf a) (own 12) W)
          have c0 := (box_at hb).2.1 0 _ rfl
          refine op_val (.slice A0 p.clauses.length n0) W rfl ?_ (hK _ _ (Sh.kpost_pure hI (if_pos rfl)))
          · clear hb
            clear hfor huse hap hmi hK hF
            generalize a.eval = ρ at *
            go_simp
        · intro a W own hfor huse hap hmi hF hfree f hI K hK
          have e0 : a.eval (.tmp 0) = .pointer (some ⟨g, 0, none⟩) := hfor 0 (by kernel_rfl)
          refine op_val (.pointer (some ⟨g, 0, none⟩)) W rfl ?_ (hK _ _ (Sh.kpost_pure hI (if_pos rfl)))
          · clear hfor huse hap hmi hK hF
            generalize a.eval = ρ at *
            go_simp
        · intro a W own hfor huse hap hmi hF hfree f hI K hK
          have e0 : a.eval (.tmp 0) = .pointer (some ⟨g, 0, none⟩) := hfor 0 (by kernel_rfl)
          refine op_val (.pointer (some ⟨g, 0, none⟩)) W rfl ?_ (hK _ _ (Sh.kpost_pure hI (if_pos rfl)))
          · clear hfor huse hap hmi hK hF
            generalize a.eval = ρ at *
            go_simp
        · intro a W own hfor huse hap hmi hF hfree f hI K hK
          have e27 : a.eval (.tmp 27) = .pointer (some ⟨g, 0, none⟩) := huse 3 (by kernel_rfl)
          have ec : a.eval (.const (.int .i64 5)) = .int .i64 5 := rfl
          have ec2 : a.eval (.const (.int .i64 3)) = .int .i64 3 := rfl
          have efn : a.eval (.func 117) = .func (.func 117) #[] #[] := rfl
          obtain ⟨P9, hRd, hPB⟩ := hI
          refine op_call (f := 117) (args := #[.pointer (some ⟨g, 0, none⟩), .int .i64 5, .int .i64 3]) (fun v w1 => ∃ t : Term, t ≠ [] ∧ t.length ≤ 40 ∧ Drawn t ∧ kCell.R w1 (fun k => W.heap.size ≤ k) v t ∧ Rd w0 w1 g (P9 + 300) ∧ Only g W w1) rfl ?_ ?_ (fun v w1 h => ?_)
          · clear hfor huse hap hmi hK hF
            generalize a.eval = ρ at *
            go_simp
          · exact (term_c w0 W g P9 5 3 hRd (by omega) (by omega) (by omega)).mono (by rintro e w1 ⟨u, t, rfl, h1, h2, h3, h4, h5, h6⟩; exact ⟨_, rfl, t, h2, h3, h4, h1, h5, h6⟩)
          · obtain ⟨t, hn, hl, hd, h0, h1, h2⟩ := h
            exact hK _ _ (Sh.kpost_rd hPB h1 (by omega) h2 ⟨t, hn, hl, hd, by show kCell.R _ _ (if _ then _ else _) t; rw [if_pos rfl]; exact Kd.R_mono h0 (fun k h3 h4 => ⟨h3, h4⟩)⟩)
        · intro a W own hfor huse hap hmi hF hfree f hI K hK
          have e26 : a.eval (.tmp 26) = .pointer (some ⟨g, 0, none⟩) := huse 2 (by kernel_rfl)
          obtain ⟨t28, hn, hl, hd, r28⟩ := (huse 4 (by kernel_rfl) : onTd 28 (slotsOf a) (own 4) W)
          have r28 : kCell.R W (own 4) (a.eval (.tmp 28)) t28 := r28
          obtain ⟨v28, e28⟩ : ∃ v, a.eval (.tmp 28) = v := ⟨_, rfl⟩
          rw [e28] at r28
          have efn : a.eval (.func 116) = .func (.func 116) #[] #[] := rfl
          obtain ⟨P9, hRd, hPB⟩ := hI
          refine op_call (f := 116) (args := #[.pointer (some ⟨g, 0, none⟩), v28]) (fun v w1 => ∃ t : Term, t.length ≤ 41 ∧ kCell.R w1 (fun k => W.heap.size ≤ k) v t ∧ Rd w0 w1 g (P9 + 10) ∧ Only g W w1) rfl ?_ ?_ (fun v w1 h => ?_)
          · clear hfor huse hap hmi hK hF r28
            generalize a.eval = ρ at *
            go_simp
          · exact (spoil_c w0 W g P9 v28 t28 hRd (by omega) (Kd.V_mono (Kd.R_V r28) (fun k h e => hfree 4 k h e) (by decide)) hn hl hd).mono (by rintro e w1 ⟨u, t, rfl, h1, h2, h3, h4, h5⟩; exact ⟨_, rfl, t, h2, h1, h4, h5⟩)
          · obtain ⟨t, hl9, h0, h1, h2⟩ := h
            exact hK _ _ (Sh.kpost_rd hPB h1 (by omega) h2 ⟨t, hl9, by show kCell.R _ _ (if _ then _ else _) t; rw [if_pos rfl]; exact Kd.R_mono h0 (fun k h3 h4 => ⟨h3, h4⟩)⟩)
        · intro a W own hfor huse hap hmi hF hfree f hI K hK
          obtain ⟨t, hl, r29⟩ := (huse 5 (by kernel_rfl) : onT 29 41 (slotsOf a) (own 5) W)
          have r29 : kCell.R W (own 5) (a.eval (.tmp 29)) t := r29
          obtain ⟨A7, n7, e29, -, -⟩ := Kd.R_form r29
          rw [e29] at r29
          refine op_val (.agg #[.slice A7 t.length n7, .slice none 0 0]) W rfl ?_ (hK _ _ ⟨own 5, Foot.refl _ _, RIk.down hI, ⟨⟨t, []⟩, [.slice A7 t.length n7, .slice none 0 0], if_pos rfl, Kd.O_mono (kClause_of r29 (Kd.R_nil kGoal W (fun _ => False)) (fun k _ => id)) (fun k h _ => h.elim id (fun h => h.elim))⟩, fun k h => .inl ⟨5, by decide, h⟩⟩)
          · clear r29
            clear hfor huse hap hmi hK hF
            generalize a.eval = ρ at *
            go_simp
        · intro a W own hfor huse hap hmi hF hfree f hI K hK
          obtain ⟨x, cs9, e30, r9⟩ := (huse 6 (by kernel_rfl) : onOE kClause 30 (slotsOf a) (own 6) W)
          have e30 : a.eval (.tmp 30) = .agg cs9.toArray := e30
          have hlen := kClause.K_len (kClause.O_K r9)
          refine step_box rfl 25 113 (.tmp 30) rfl e30 Tryz.underlying25 info_clause hlen (by decide) (by decide) (hK _ _ ⟨fun k => own 6 k ∨ (W.heap.size ≤ k ∧ k < (W.alloc (.cells cs9.toArray 113)).heap.size), Foot.of_below (belA (Below.refl _ _) _), (RIk.down hI).below (belA (Below.refl _ _) _), ?_, fun k h => Or.imp (fun h => ⟨6, by decide, h⟩) id h⟩)
          exact ⟨x, W.heap.size, cs9, if_pos rfl, heap_alloc_new W _, .inr ⟨Nat.le_refl _, by simp⟩, Kd.O_mono (Kd.O_below r9 (belA (Below.refl _ _) _)) (fun k h _ => ⟨.inl h, fun e => by have h1 := (hmi 6 k h).2; omega⟩)⟩
        · intro a W own hfor huse hap hmi hF hfree f hI K hK
          have e25 : a.eval (.tmp 25) = .slice A0 p.clauses.length n0 := huse 1 (by kernel_rfl)
          have r8 : kClause.R W (own 11) (.slice A0 p.clauses.length n0) p.clauses := huse 11 (by kernel_rfl)
          obtain ⟨x, b9, cs9, e31, hbx, hSg, r9⟩ := (huse 7 (by kernel_rfl) : onOneE kClause 31 (slotsOf a) (own 7) W)
          have e31 : a.eval (.tmp 31) = .slice (some ⟨b9, 0, none⟩) 1 1 := e31
          refine step_one kClause rfl (.tmp 25) (.tmp 31) 25 (.agg #[.slice none 0 0, .slice none 0 0]) 48 rfl Tryz.underlying25 info_clause rfl (by decide) (by decide) e25 e31 r8 hbx r9 (fun k h1 h2 => by have := hap 7 11 k h1.1 h2; omega) (by have := LN.out.1; omega) (fun v1 w1 hR hF1 => hK _ _ ⟨fun k => own 11 k ∨ own 7 k ∨ (W.heap.size ≤ k ∧ k < w1.heap.size), Foot.mono hF1 (fun k h => .inl ⟨11, by decide, h⟩), (RIk.down hI).foot hF1 (fun k h => ⟨fun e => hfree 11 k h e, by have h1 := (hmi 11 k h).1; have hg9 := hfree 11 k h; rcases h1 with h1 | h1 | h1 | h1; have h1 : wz.heap.size ≤ k := h1; have := NRW.out; omega; exact (hg9 h1).elim; have h1 : k = Y := h1; have := NY.out; omega; have := (HG.out.mine k (.inr h1)).1; have := WZ0.out; omega⟩), ?_, ?_⟩)
          · refine ⟨x, ?_⟩
            show kClause.R _ _ (if _ then _ else _) (p.clauses ++ [x])
            rw [if_pos rfl]
            exact Kd.R_mono hR (fun k h _ => h.imp id (fun h => h.imp (fun h => h.1) id))
          · intro k h
            rcases h with h | h | h
            · exact .inl ⟨11, by decide, h⟩
            · exact .inl ⟨7, by decide, h⟩
            · exact .inr h
        · intro a W own hfor huse hap hmi hF hfree f hI K hK
          have e5 : a.eval (.tmp 5) = .pointer (some ⟨Y, 0, none⟩) := hfor 5 (by kernel_rfl)
          refine op_val (.pointer (some ⟨Y, 0, none⟩)) W rfl ?_ (hK _ _ (Sh.kpost_pure hI (if_pos rfl)))
          · clear hfor huse hap hmi hK hF
            generalize a.eval = ρ at *
            go_simp
        · intro a W own hfor huse hap hmi hF hfree f hI K hK
          have e33 : a.eval (.tmp 33) = .pointer (some ⟨Y, 0, none⟩) := huse 9 (by kernel_rfl)
          obtain ⟨hb, hSX⟩ := (huse 12 (by kernel_rfl) : onCells Y (([] : List Value) ++ ((Value.slice A0 p.clauses.length n0) :: c2)).toArray 28 (slotsOf a) (own 12) W)
          obtain ⟨x, r8⟩ := (huse 8 (by kernel_rfl) : onRE kClause 32 p.clauses (slotsOf a) (own 8) W)
          have r8 : kClause.R W (own 8) (a.eval (.tmp 32)) (p.clauses ++ [x]) := r8
          obtain ⟨A8, n8, e32, -, -⟩ := Kd.R_form r8
          rw [e32] at r8
          have q0 : W.cell? ⟨Y, 0, none⟩ = _ := grow_cell hb rfl
          have f0 := (box_at hb).2.2 0
          have F : Foot (fun k => k = Y) W (W.setCell ⟨Y, 0, none⟩ (.slice A8 (p.clauses ++ [x]).length n8)) := Foot.set (Foot.refl (fun k => k = Y) W) (.inl rfl) _ _
          refine op_skip (W.setCell ⟨Y, 0, none⟩ (.slice A8 (p.clauses ++ [x]).length n8)) rfl ?_ (hK _ _ ⟨fun k => own 12 k ∨ own 8 k, Foot.mono F (fun k e => .inl ⟨12, by decide, e ▸ hSX⟩), (RIk.down hI).foot F (fun k e => by have e : k = Y := e; have := NY.out; exact ⟨by omega, by omega⟩), ?_, ?_⟩)
          · clear hfor huse hap hmi hK hF hb F r8
            generalize a.eval = ρ at *
            go_simp
          · exact ⟨x, _, grow_set hb rfl _, .inl hSX, Kd.R_mono (F.R r8 (fun k h1 h2 => by have := hap 12 8 Y hSX (h2 ▸ h1); omega)) (fun k h _ => ⟨.inr h, fun e => by have := hap 12 8 Y hSX (e ▸ h); omega⟩)⟩
          · intro k h
            left
            rcases h with h | h
            · exact ⟨12, by decide, h⟩
            · exact ⟨8, by decide, h⟩
        intro a' W own f' hf hI'
        have s1 := hf.st.size
        have s2 := hf.st.rest
        have s3 := fun t ht => hf.st.kept t ht
        revert hf
        revert a'
        refine lay_intro (df := []) [true, true, true, true, true, true, true, true, true, true, true, true, true, true, true, true, true, true, true, true, true, true, true, true, false, false, false, false, false, false, false, false, false, false, true, true, true, true, true, true, true, true, true, true, true, true, true, true, true, true, true, true, true, true, true, true, true, true, true, true, true, true, true, true, true, true, true, true, true, true, true, true, true, true, true, true, true, true, true, true, true, true, true, true, true, true, true, true, true, true] (by kernel_rfl) rfl ?_
        intro x33 x32 x31 x30 x29 x28 x27 x26 x25 x24 hf
        obtain ⟨x, hx⟩ := hf.at 10 (onGrewE kClause Y [] c2 28 p.clauses) rfl (by kernel_rfl)
        obtain ⟨u, HG2⟩ := Growing.nextG HG.out hf.st.foot hx (fun k h => hf.st.mine 10 k h) (by omega) (fun k h => hf.st.free 10 k h)
        obtain ⟨P', hR', hP'⟩ := hI'
        have G8 := Sec.mk (PSt.fin (N1 := 13) G6.out HG2 (Foot.undrew hf.st.foot) (fun k h => by rcases h with h | h | h; exact .inl h; have h : k = Y := h; have := G6.out.y; exact .inr (by omega); exact .inr (HG.out.mine k (.inr h)).1) hR' hg (by have := LN.out; simp; try omega) (by have := LN.out; simp; try omega))
        clear hf hx HG2 hR'
        go_wp2_with fail
        go_meet
        case rel => exact ⟨G8.out.mono (by omega) (by omega)⟩
      · obtain ⟨c0, c2, v, Sr, Sc, hl0, hcs, HG0⟩ := Growing.start (n0 := w.heap.size + 1) gf_clauses b1 b2 b3 G6.out.y
        obtain rfl : c0 = [] := List.eq_nil_of_length_eq_zero hl0
        have HG0 : Growing kProg kClause 25 (by decide) (fun y => ({ p with clauses := y } : Prog)) Y (w.heap.size + 1) [] c2 28 wz v p.clauses Sr Sc := HG0
        obtain ⟨A0, n0, rfl, -, -⟩ := Kd.R_form HG0.row
        have HG := Sec.mk HG0
        clear HG0 hl0 b1 b2 b3 hcs
        have HB := belA (Below.refl wz.heap.size wz) (.cells #[.int .i64 1, .int .i64 0, .string ⟨#[]⟩] 39)
        have HG8 := Sec.mk (HG.out.below HB)
        have RZ8 := Sec.mk (RZ.out.below HB)
        have FB := Sec.mk (Foot.of_below (S := fun k => k = Y ∨ Sc k) HB)
        have CL := Sec.mk (show kClause.O (wz.alloc (.cells #[.int .i64 1, .int .i64 0, .string ⟨#[]⟩] 39)) (fun k => k = wz.heap.size ∨ False) (⟨[⟨1, 0, ⟨#[]⟩⟩], []⟩ : Clause) [.slice (some ⟨wz.heap.size, 0, none⟩) 1 1, .slice none 0 0] from kClause_of (R_lit (t := [⟨1, 0, ⟨#[]⟩⟩]) (heap_alloc_new wz (.cells #[.int .i64 1, .int .i64 0, .string ⟨#[]⟩] 39)) rfl rfl (by decide) (by decide)) (Kd.R_nil kGoal _ (fun _ => False)) (fun k _ => id))
        have SXZ : Sec (∀ k, (fun k => k = wz.heap.size ∨ False) k → wz.heap.size ≤ k ∧ k < (wz.alloc (.cells #[.int .i64 1, .int .i64 0, .string ⟨#[]⟩] 39)).heap.size) := ⟨fun k h => by rcases h with h | h; have h : k = wz.heap.size := h; subst h; exact ⟨Nat.le_refl _, by simp⟩; exact h.elim⟩
        have NY2 : Sec (w.heap.size + 1 ≤ wz.heap.size ∧ Y < wz.heap.size) := ⟨by have := (Array.getElem?_eq_some_iff.1 HG.out.box).1; have := HG.out.at_; exact ⟨by omega, by omega⟩⟩
        have HG := HG
        have y0 := HG.out.cell (j := 0) rfl
        have HLT : Sec (∀ k, Sr k ∨ Sc k → k < wz.heap.size) := ⟨fun k h => (HG.out.mine k h).2.1⟩
        clear HB
        go_wp2_with (at_builtin; go_loud (refine Kd.R_app2 kClause (W := (wz.alloc (.cells #[.int .i64 1, .int .i64 0, .string ⟨#[]⟩] 39))) (by rfl) (.tmp 37) (.tmp 41) 25 (.agg #[.slice none 0 0, .slice none 0 0]) 48 (by rfl) Tryz.underlying25 info_clause rfl (by decide) (by decide) _ p.clauses (⟨[⟨1, 0, ⟨#[]⟩⟩], []⟩ : Clause) [.slice (some ⟨wz.heap.size, 0, none⟩) 1 1, .slice none 0 0] Sc (fun k => k = wz.heap.size ∨ False) (by rfl) (by rfl) (by first | rfl | simp) HG8.out.row CL.out (fun k h1 _ h2 => by have := HLT.out k (.inr h2); have := SXZ.out k h1; omega) (by have := LN.out.1; omega) ?_; intro v9 w9 hR9 hg9 hr9; obtain ⟨A9, m9, rfl, -, -⟩ := Kd.R_form hR9; rw [List.length_append] at hR9; have F9 : Foot Sc (wz.alloc (.cells #[.int .i64 1, .int .i64 0, .string ⟨#[]⟩] 39)) w9 := Foot.grown2 (Foot.refl _ _) hg9 (fun k e => .inl (hr9 k e)); have N9 := Sec.mk (Growing.put HG8.out rfl F9 hR9 (fun k h => h) (fun k h => ⟨fun e => by have := HLT.out k (.inl e); have := SXZ.out k h; omega, by have := SXZ.out k h; have := NY2.out; omega, by have := SXZ.out k h; have := NY2.out; omega⟩)); have FF := Sec.mk ((F9.mono (S' := fun k => k = Y ∨ Sc k) (fun k h => .inr h)).set (g := Y) (.inl (.inl rfl)) 0 (.slice A9 (p.clauses.length + [(⟨[⟨1, 0, ⟨#[]⟩⟩], []⟩ : Clause)].length) m9)); have NX : ¬ Sc Y := fun e => (HG8.out.mine Y (.inr e)).2.2 rfl; have q9 := (box_at (carry2 F9 HG8.out.box NX)).2.1 0 _ rfl; have f9 := (box_at (carry2 F9 HG8.out.box NX)).2.2 0; clear hR9 hg9 hr9 F9 NX y0))
        have F10 := Sec.mk (FB.out.trans FF.out (fun k _ h => h))
        have R10 := Sec.mk (F10.out.rd RZ.out (fun k h => by rcases h with h | h; have h : k = Y := h; have := NY.out; exact ⟨by omega, by omega⟩; have := (HG.out.mine k (.inr h)).1; have := WZ0.out; exact ⟨by omega, by omega⟩))
        have G8 := Sec.mk (PSt.fin (N1 := 13) G6.out N9.out F10.out (fun k h => by rcases h with h | h; have h : k = Y := h; have := HG.out.at_; exact .inr (by omega); exact .inr (HG.out.mine k (.inr h)).1) R10.out hg (by have := LN.out; simp; try omega) (by have := LN.out; simp; try omega))
        go_meet
        case rel => exact ⟨G8.out.mono (by omega) (by omega)⟩
      · obtain ⟨c0, c2, v, Sr, Sc, hl0, hcs, HG0⟩ := Growing.start (n0 := w.heap.size + 1) gf_places b1 b2 b3 G6.out.y
        obtain ⟨vc, rfl⟩ : ∃ a, c0 = [a] := by match c0, hl0 with | [a], _ => exact ⟨a, rfl⟩
        have HG0 : Growing kProg kPlace 26 (by decide) (fun y => ({ p with places := y } : Prog)) Y (w.heap.size + 1) [vc] c2 28 wz v p.places Sr Sc := HG0
        obtain ⟨A0, n0, rfl, -, -⟩ := Kd.R_form HG0.row
        have HG := Sec.mk HG0
        clear HG0 hl0 b1 b2 b3 hcs
        go_wp2
        refine Sh.wp_region_lists (G := fun k => k = g) (I := RIk 20000 w0 g (PP + 340000)) [[46], [47], [48], [49], [50], [51], [52], [53], [54], [55], [56], [57], [58], [59], [60], [61], [], [], []]
          [fun val _ _ => val 46 = .pointer (some ⟨Y, 1, none⟩),
            fun val _ _ => val 47 = .slice A0 p.places.length n0,
            onTab 48 #[.int .i64 4, .int .i64 2] 3 2,
            fun val _ _ => val 49 = .pointer (some ⟨g, 0, none⟩),
            fun val _ _ => ∃ r : Int, val 50 = .int .i64 r ∧ (0 ≤ r ∧ r < 2),
            onPt 51 #[.int .i64 4, .int .i64 2] 3 2,
            fun val _ _ => ∃ r : Int, val 52 = .int .i64 r,
            onTab 53 #[.int .i64 0, .int .i64 3, .int .i64 1] 3 3,
            fun val _ _ => val 54 = .pointer (some ⟨g, 0, none⟩),
            fun val _ _ => ∃ r : Int, val 55 = .int .i64 r ∧ (0 ≤ r ∧ r < 3),
            onPt 56 #[.int .i64 0, .int .i64 3, .int .i64 1] 3 3,
            fun val _ _ => ∃ r : Int, val 57 = .int .i64 r,
            fun val _ _ => ∃ r1 r2 : Int, val 58 = .agg #[.string ⟨#[101]⟩, .int .i64 r1, .int .i64 r2],
            onOneE kPlace 59,
            onRE kPlace 60 p.places,
            fun val _ _ => val 61 = .pointer (some ⟨Y, 1, none⟩),
            onGrewE kPlace Y [vc] c2 28 p.places,
            onRc kPlace (.slice A0 p.places.length n0) p.places,
            onCells Y ([vc] ++ ((Value.slice A0 p.places.length n0) :: c2)).toArray 28]
          [[], [], [], [], [], [2], [], [], [], [], [7], [], [], [], [17, 13], [], [18, 14], [], []] 2 (fun q => q = g ∨ (q = Y ∨ Sc q)) (fun i q => (i = 17 ∧ Sc q) ∨ (i = 18 ∧ q = Y)) (by kernel_rfl) ⟨by kernel_rfl, by kernel_rfl, by kernel_rfl, by kernel_rfl, by kernel_rfl⟩
          (.cons (stab_val 46 (fun v => v = .pointer (some ⟨Y, 1, none⟩))) (.cons (stab_val 47 (fun v => v = .slice A0 p.places.length n0)) (.cons (stab_tab 48 #[.int .i64 4, .int .i64 2] 3 2) (.cons (stab_val 49 (fun v => v = .pointer (some ⟨g, 0, none⟩))) (.cons (stab_val 50 (fun v => ∃ r : Int, v = .int .i64 r ∧ (0 ≤ r ∧ r < 2))) (.cons (stab_pt 51 #[.int .i64 4, .int .i64 2] 3 2) (.cons (stab_val 52 (fun v => ∃ r : Int, v = .int .i64 r)) (.cons (stab_tab 53 #[.int .i64 0, .int .i64 3, .int .i64 1] 3 3) (.cons (stab_val 54 (fun v => v = .pointer (some ⟨g, 0, none⟩))) (.cons (stab_val 55 (fun v => ∃ r : Int, v = .int .i64 r ∧ (0 ≤ r ∧ r < 3))) (.cons (stab_pt 56 #[.int .i64 0, .int .i64 3, .int .i64 1] 3 3) (.cons (stab_val 57 (fun v => ∃ r : Int, v = .int .i64 r)) (.cons (stab_val 58 (fun v => ∃ r1 r2 : Int, v = .agg #[.string ⟨#[101]⟩, .int .i64 r1, .int .i64 r2])) (.cons (stab_oneE kPlace 59) (.cons (stab_RE kPlace 60 p.places) (.cons (stab_val 61 (fun v => v = .pointer (some ⟨Y, 1, none⟩))) (.cons (stab_grewE kPlace Y [vc] c2 28 p.places) (.cons (stab_Rc kPlace (.slice A0 p.places.length n0) p.places) (.cons (stab_cells Y ([vc] ++ ((Value.slice A0 p.places.length n0) :: c2)).toArray 28) .nil)))))))))))))))))))
          (fun i j k h1 h2 => by rcases h1 with ⟨a1, b1⟩ | ⟨a1, b1⟩ <;> rcases h2 with ⟨a2, b2⟩ | ⟨a2, b2⟩ <;> first | omega | (exact ((HG.out.mine k (.inr (by assumption))).2.2 (by assumption)).elim)) (fun i q h => by rcases h with ⟨a1, b1⟩ | ⟨a1, b1⟩; exact ⟨by rw [a1]; decide, .inr (.inr b1), (HG.out.mine q (.inr b1)).2.1⟩; exact ⟨by rw [a1]; decide, .inr (.inl b1), by rw [b1]; exact NY.out.2.2.2⟩) (fun i h1 h2 => by rcases (show i = 17 ∨ i = 18 by simp at h1 h2; omega) with rfl | rfl; exact Kd.R_mono (Kd.R_below HG.out.row (belD (Below.refl _ _))) (fun q h _ => .inl ⟨rfl, h⟩); exact ⟨HG.out.box, .inr ⟨rfl, rfl⟩⟩) (fun k h => ⟨.inl h, by rw [h]; have := NY.out; omega⟩) (fun f w h => RIk.down h) ⟨PP, RZ.out.below (belD (Below.refl _ _)), by simp⟩ (fun i k h h2 => by have h2 : k = g := h2; rcases h with ⟨a1, b1⟩ | ⟨a1, b1⟩; have := (HG.out.mine k (.inr b1)).1; have := NY.out; omega; have := NY.out; omega) (.cons ?_ (.cons ?_ (.cons ?_ (.cons ?_ (.cons ?_ (.cons ?_ (.cons ?_ (.cons ?_ (.cons ?_ (.cons ?_ (.cons ?_ (.cons ?_ (.cons ?_ (.cons ?_ (.cons ?_ (.cons ?_ (.cons ?_ .nil))))))))))))))))) ?_
        · intro a W own hfor huse hap hmi hF hfree f hI K hK
          have e5 : a.eval (.tmp 5) = .pointer (some ⟨Y, 0, none⟩) := hfor 5 (by kernel_rfl)
          refine op_val (.pointer (some ⟨Y, 1, none⟩)) W rfl ?_ (hK _ _ (Sh.kpost_pure hI (if_pos rfl)))
          · clear hfor huse hap hmi hK hF
            generalize a.eval = ρ at *
            go_simp
        · intro a W own hfor huse hap hmi hF hfree f hI K hK
          have e46 : a.eval (.tmp 46) = .pointer (some ⟨Y, 1, none⟩) := huse 0 (by kernel_rfl)
          obtain ⟨hb, hSX⟩ := (huse 18 (by kernel_rfl) : onCells Y ([vc] ++ ((Value.slice A0 p.places.length n0) :: c2)).toArray 28 (slotsOf a) (own 18) W)
          have c0 := (box_at hb).2.1 1 _ rfl
          refine op_val (.slice A0 p.places.length n0) W rfl ?_ (hK _ _ (Sh.kpost_pure hI (if_pos rfl)))
          · clear hb
            clear hfor huse hap hmi hK hF
            generalize a.eval = ρ at *
            go_simp
        · intro a W own hfor huse hap hmi hF hfree f hI K hK
          have ec0 : a.eval (.const (.int .i64 4)) = .int .i64 4 := rfl
          have ec1 : a.eval (.const (.int .i64 2)) = .int .i64 2 := rfl
          refine op_val (.slice (some ⟨W.heap.size, 0, none⟩) 2 2) (W.alloc (.cells #[.int .i64 4, .int .i64 2] 3)) rfl ?_ (hK _ _ (Sh.kpost_new hI (belA (Below.refl _ _) _) ⟨W.heap.size, if_pos rfl, heap_alloc_new W _, Nat.le_refl _, by simp⟩))
          · clear hfor huse hap hmi hK hF
            generalize a.eval = ρ at *
            go_simp
        · intro a W own hfor huse hap hmi hF hfree f hI K hK
          have e0 : a.eval (.tmp 0) = .pointer (some ⟨g, 0, none⟩) := hfor 0 (by kernel_rfl)
          refine op_val (.pointer (some ⟨g, 0, none⟩)) W rfl ?_ (hK _ _ (Sh.kpost_pure hI (if_pos rfl)))
          · clear hfor huse hap hmi hK hF
            generalize a.eval = ρ at *
            go_simp
        · intro a W own hfor huse hap hmi hF hfree f hI K hK
          have e49 : a.eval (.tmp 49) = .pointer (some ⟨g, 0, none⟩) := huse 3 (by kernel_rfl)
          have ec : a.eval (.const (.int .i64 2)) = .int .i64 2 := rfl
          have efn : a.eval (.func 113) = .func (.func 113) #[] #[] := rfl
          obtain ⟨P9, hRd, hPB⟩ := hI
          refine op_call (f := 113) (args := #[.pointer (some ⟨g, 0, none⟩), .int .i64 2]) (fun v w1 => ∃ r : Int, v = .int .i64 r ∧ (0 ≤ r ∧ r < 2) ∧ Rd w0 w1 g (P9 + 1) ∧ Only g W w1) rfl ?_ ?_ (fun v w1 h => ?_)
          · clear hfor huse hap hmi hK hF
            generalize a.eval = ρ at *
            go_simp
          · exact (pick_c w0 W g P9 2 hRd (by omega)).mono (by rintro e w1 ⟨r, rfl, ⟨q0, q1, _⟩, h1, h2⟩; exact ⟨_, rfl, r, rfl, ⟨q0, q1 (by omega)⟩, h1, h2⟩)
          · obtain ⟨r, rfl, hr, h1, h2⟩ := h
            exact hK _ _ (Sh.kpost_rd hPB h1 (by omega) h2 ⟨r, if_pos rfl, hr⟩)
        · intro a W own hfor huse hap hmi hF hfree f hI K hK
          obtain ⟨b, e3, hb, hSb⟩ := (huse 2 (by kernel_rfl) : onTab 48 #[.int .i64 4, .int .i64 2] 3 2 (slotsOf a) (own 2) W)
          have e3 : a.eval (.tmp 48) = .slice (some ⟨b, 0, none⟩) 2 2 := e3
          obtain ⟨r, e5, hr0, hr1⟩ : ∃ r : Int, a.eval (.tmp 50) = .int .i64 r ∧ (0 ≤ r ∧ r < 2) := huse 4 (by kernel_rfl)
          obtain ⟨k, rfl⟩ : ∃ k : Nat, r = (k : Int) := ⟨r.toNat, by omega⟩
          have hk : k < 2 := by omega
          refine op_val (.pointer (some ⟨b, k, none⟩)) W rfl ?_ (hK _ _ ⟨own 2, Foot.refl _ _, RIk.down hI, ⟨b, k, if_pos rfl, hb, hSb, hk⟩, fun q h => .inl ⟨2, by decide, h⟩⟩)
          · clear hfor huse hap hmi hK hF
            generalize a.eval = ρ at *
            go_simp
        · intro a W own hfor huse hap hmi hF hfree f hI K hK
          obtain ⟨b, k, e6, hb, hSb, hk⟩ := (huse 5 (by kernel_rfl) : onPt 51 #[.int .i64 4, .int .i64 2] 3 2 (slotsOf a) (own 5) W)
          have e6 : a.eval (.tmp 51) = .pointer (some ⟨b, k, none⟩) := e6
          have X := (box_at hb).2.1
          rcases (show k = 0 ∨ k = 1 by omega) with rfl | rfl
          · have c0 := X 0 _ rfl
            refine op_val (.int .i64 4) W rfl ?_ (hK _ _ (Sh.kpost_pure hI ⟨_, if_pos rfl⟩))
            clear hfor huse hap hmi hK hF X
            generalize a.eval = ρ at *
            go_simp
          · have c0 := X 1 _ rfl
            refine op_val (.int .i64 2) W rfl ?_ (hK _ _ (Sh.kpost_pure hI ⟨_, if_pos rfl⟩))
            clear hfor huse hap hmi hK hF X
            generalize a.eval = ρ at *
            go_simp
        · intro a W own hfor huse hap hmi hF hfree f hI K hK
          have ec0 : a.eval (.const (.int .i64 0)) = .int .i64 0 := rfl
          have ec1 : a.eval (.const (.int .i64 3)) = .int .i64 3 := rfl
          have ec2 : a.eval (.const (.int .i64 1)) = .int .i64 1 := rfl
          refine op_val (.slice (some ⟨W.heap.size, 0, none⟩) 3 3) (W.alloc (.cells #[.int .i64 0, .int .i64 3, .int .i64 1] 3)) rfl ?_ (hK _ _ (Sh.kpost_new hI (belA (Below.refl _ _) _) ⟨W.heap.size, if_pos rfl, heap_alloc_new W _, Nat.le_refl _, by simp⟩))
          · clear hfor huse hap hmi hK hF
            generalize a.eval = ρ at *
            go_simp
        · intro a W own hfor huse hap hmi hF hfree f hI K hK
          have e0 : a.eval (.tmp 0) = .pointer (some ⟨g, 0, none⟩) := hfor 0 (by kernel_rfl)
          refine op_val (.pointer (some ⟨g, 0, none⟩)) W rfl ?_ (hK _ _ (Sh.kpost_pure hI (if_pos rfl)))
          · clear hfor huse hap hmi hK hF
            generalize a.eval = ρ at *
            go_simp
        · intro a W own hfor huse hap hmi hF hfree f hI K hK
          have e54 : a.eval (.tmp 54) = .pointer (some ⟨g, 0, none⟩) := huse 8 (by kernel_rfl)
          have ec : a.eval (.const (.int .i64 3)) = .int .i64 3 := rfl
          have efn : a.eval (.func 113) = .func (.func 113) #[] #[] := rfl
          obtain ⟨P9, hRd, hPB⟩ := hI
          refine op_call (f := 113) (args := #[.pointer (some ⟨g, 0, none⟩), .int .i64 3]) (fun v w1 => ∃ r : Int, v = .int .i64 r ∧ (0 ≤ r ∧ r < 3) ∧ Rd w0 w1 g (P9 + 1) ∧ Only g W w1) rfl ?_ ?_ (fun v w1 h => ?_)
          · clear hfor huse hap hmi hK hF
            generalize a.eval = ρ at *
            go_simp
          · exact (pick_c w0 W g P9 3 hRd (by omega)).mono (by rintro e w1 ⟨r, rfl, ⟨q0, q1, _⟩, h1, h2⟩; exact ⟨_, rfl, r, rfl, ⟨q0, q1 (by omega)⟩, h1, h2⟩)
          · obtain ⟨r, rfl, hr, h1, h2⟩ := h
            exact hK _ _ (Sh.kpost_rd hPB h1 (by omega) h2 ⟨r, if_pos rfl, hr⟩)
        · intro a W own hfor huse hap hmi hF hfree f hI K hK
          obtain ⟨b, e3, hb, hSb⟩ := (huse 7 (by kernel_rfl) : onTab 53 #[.int .i64 0, .int .i64 3, .int .i64 1] 3 3 (slotsOf a) (own 7) W)
          have e3 : a.eval (.tmp 53) = .slice (some ⟨b, 0, none⟩) 3 3 := e3
          obtain ⟨r, e5, hr0, hr1⟩ : ∃ r : Int, a.eval (.tmp 55) = .int .i64 r ∧ (0 ≤ r ∧ r < 3) := huse 9 (by kernel_rfl)
          obtain ⟨k, rfl⟩ : ∃ k : Nat, r = (k : Int) := ⟨r.toNat, by omega⟩
          have hk : k < 3 := by omega
          refine op_val (.pointer (some ⟨b, k, none⟩)) W rfl ?_ (hK _ _ ⟨own 7, Foot.refl _ _, RIk.down hI, ⟨b, k, if_pos rfl, hb, hSb, hk⟩, fun q h => .inl ⟨7, by decide, h⟩⟩)
          · clear hfor huse hap hmi hK hF
            generalize a.eval = ρ at *
            go_simp
        · intro a W own hfor huse hap hmi hF hfree f hI K hK
          obtain ⟨b, k, e6, hb, hSb, hk⟩ := (huse 10 (by kernel_rfl) : onPt 56 #[.int .i64 0, .int .i64 3, .int .i64 1] 3 3 (slotsOf a) (own 10) W)
          have e6 : a.eval (.tmp 56) = .pointer (some ⟨b, k, none⟩) := e6
          have X := (box_at hb).2.1
          rcases (show k = 0 ∨ k = 1 ∨ k = 2 by omega) with rfl | rfl | rfl
          · have c0 := X 0 _ rfl
            refine op_val (.int .i64 0) W rfl ?_ (hK _ _ (Sh.kpost_pure hI ⟨_, if_pos rfl⟩))
            clear hfor huse hap hmi hK hF X
            generalize a.eval = ρ at *
            go_simp
          · have c0 := X 1 _ rfl
            refine op_val (.int .i64 3) W rfl ?_ (hK _ _ (Sh.kpost_pure hI ⟨_, if_pos rfl⟩))
            clear hfor huse hap hmi hK hF X
            generalize a.eval = ρ at *
            go_simp
          · have c0 := X 2 _ rfl
            refine op_val (.int .i64 1) W rfl ?_ (hK _ _ (Sh.kpost_pure hI ⟨_, if_pos rfl⟩))
            clear hfor huse hap hmi hK hF X
            generalize a.eval = ρ at *
            go_simp
        · intro a W own hfor huse hap hmi hF hfree f hI K hK
          obtain ⟨r1, e52⟩ : ∃ r : Int, a.eval (.tmp 52) = .int .i64 r := huse 6 (by kernel_rfl)
          obtain ⟨r2, e57⟩ : ∃ r : Int, a.eval (.tmp 57) = .int .i64 r := huse 11 (by kernel_rfl)
          have ec : a.eval (.const (.string ⟨#[101]⟩)) = .string ⟨#[101]⟩ := rfl
          refine op_val (.agg #[.string ⟨#[101]⟩, .int .i64 r1, .int .i64 r2]) W rfl ?_ (hK _ _ (Sh.kpost_pure hI ⟨r1, r2, if_pos rfl⟩))
          · clear hfor huse hap hmi hK hF
            generalize a.eval = ρ at *
            go_simp
        · intro a W own hfor huse hap hmi hF hfree f hI K hK
          obtain ⟨r1, r2, e58⟩ : ∃ r1 r2 : Int, a.eval (.tmp 58) = .agg #[.string ⟨#[101]⟩, .int .i64 r1, .int .i64 r2] := huse 12 (by kernel_rfl)
          refine step_box (cs := [.string ⟨#[101]⟩, .int .i64 r1, .int .i64 r2]) rfl 26 116 (.tmp 58) rfl e58 Tryz.underlying26 info_place rfl (by decide) (by decide) (hK _ _ (Sh.kpost_new hI (belA (Below.refl _ _) _) ?_))
          exact ⟨⟨⟨#[101]⟩, r1, r2⟩, W.heap.size, _, if_pos rfl, heap_alloc_new W _, ⟨Nat.le_refl _, by simp⟩, kPlace_mk _ _ ⟨⟨#[101]⟩, r1, r2⟩ (show (1 : Nat) ≤ 1073741824 by decide)⟩
        · intro a W own hfor huse hap hmi hF hfree f hI K hK
          have e47 : a.eval (.tmp 47) = .slice A0 p.places.length n0 := huse 1 (by kernel_rfl)
          have r8 : kPlace.R W (own 17) (.slice A0 p.places.length n0) p.places := huse 17 (by kernel_rfl)
          obtain ⟨x, b9, cs9, e59, hbx, hSg, r9⟩ := (huse 13 (by kernel_rfl) : onOneE kPlace 59 (slotsOf a) (own 13) W)
          have e59 : a.eval (.tmp 59) = .slice (some ⟨b9, 0, none⟩) 1 1 := e59
          refine step_one kPlace rfl (.tmp 47) (.tmp 59) 26 (.agg #[.string ⟨#[]⟩, .int .i64 0, .int .i64 0]) 32 rfl Tryz.underlying26 info_place rfl (by decide) (by decide) e47 e59 r8 hbx r9 (fun k h1 h2 => by have := hap 13 17 k h1.1 h2; omega) (by have := LN.out.2; omega) (fun v1 w1 hR hF1 => hK _ _ ⟨fun k => own 17 k ∨ own 13 k ∨ (W.heap.size ≤ k ∧ k < w1.heap.size), Foot.mono hF1 (fun k h => .inl ⟨17, by decide, h⟩), (RIk.down hI).foot hF1 (fun k h => ⟨fun e => hfree 17 k h e, by have h1 := (hmi 17 k h).1; have hg9 := hfree 17 k h; rcases h1 with h1 | h1 | h1 | h1; have h1 : wz.heap.size ≤ k := h1; have := NRW.out; omega; exact (hg9 h1).elim; have h1 : k = Y := h1; have := NY.out; omega; have := (HG.out.mine k (.inr h1)).1; have := WZ0.out; omega⟩), ?_, ?_⟩)
          · refine ⟨x, ?_⟩
            show kPlace.R _ _ (if _ then _ else _) (p.places ++ [x])
            rw [if_pos rfl]
            exact Kd.R_mono hR (fun k h _ => h.imp id (fun h => h.imp (fun h => h.1) id))
          · intro k h
            rcases h with h | h | h
            · exact .inl ⟨17, by decide, h⟩
            · exact .inl ⟨13, by decide, h⟩
            · exact .inr h
        · intro a W own hfor huse hap hmi hF hfree f hI K hK
          have e5 : a.eval (.tmp 5) = .pointer (some ⟨Y, 0, none⟩) := hfor 5 (by kernel_rfl)
          refine op_val (.pointer (some ⟨Y, 1, none⟩)) W rfl ?_ (hK _ _ (Sh.kpost_pure hI (if_pos rfl)))
          · clear hfor huse hap hmi hK hF
            generalize a.eval = ρ at *
            go_simp
        · intro a W own hfor huse hap hmi hF hfree f hI K hK
          have e61 : a.eval (.tmp 61) = .pointer (some ⟨Y, 1, none⟩) := huse 15 (by kernel_rfl)
          obtain ⟨hb, hSX⟩ := (huse 18 (by kernel_rfl) : onCells Y ([vc] ++ ((Value.slice A0 p.places.length n0) :: c2)).toArray 28 (slotsOf a) (own 18) W)
          obtain ⟨x, r8⟩ := (huse 14 (by kernel_rfl) : onRE kPlace 60 p.places (slotsOf a) (own 14) W)
          have r8 : kPlace.R W (own 14) (a.eval (.tmp 60)) (p.places ++ [x]) := r8
          obtain ⟨A8, n8, e60, -, -⟩ := Kd.R_form r8
          rw [e60] at r8
          have q0 : W.cell? ⟨Y, 1, none⟩ = _ := grow_cell hb rfl
          have f0 := (box_at hb).2.2 1
          have F : Foot (fun k => k = Y) W (W.setCell ⟨Y, 1, none⟩ (.slice A8 (p.places ++ [x]).length n8)) := Foot.set (Foot.refl (fun k => k = Y) W) (.inl rfl) _ _
          refine op_skip (W.setCell ⟨Y, 1, none⟩ (.slice A8 (p.places ++ [x]).length n8)) rfl ?_ (hK _ _ ⟨fun k => own 18 k ∨ own 14 k, Foot.mono F (fun k e => .inl ⟨18, by decide, e ▸ hSX⟩), (RIk.down hI).foot F (fun k e => by have e : k = Y := e; have := NY.out; exact ⟨by omega, by omega⟩), ?_, ?_⟩)
          · clear hfor huse hap hmi hK hF hb F r8
            generalize a.eval = ρ at *
            go_simp
          · exact ⟨x, _, grow_set hb rfl _, .inl hSX, Kd.R_mono (F.R r8 (fun k h1 h2 => by have := hap 18 14 Y hSX (h2 ▸ h1); omega)) (fun k h _ => ⟨.inr h, fun e => by have := hap 18 14 Y hSX (e ▸ h); omega⟩)⟩
          · intro k h
            left
            rcases h with h | h
            · exact ⟨18, by decide, h⟩
            · exact ⟨14, by decide, h⟩
        intro a' W own f' hf hI'
        have s1 := hf.st.size
        have s2 := hf.st.rest
        have s3 := fun t ht => hf.st.kept t ht
        revert hf
        revert a'
        refine lay_intro (df := []) [true, true, true, true, true, true, true, true, true, true, true, true, true, true, true, true, true, true, true, true, true, true, true, true, true, true, true, true, true, true, true, true, true, true, true, true, true, true, true, true, true, true, true, true, true, true, false, false, false, false, false, false, false, false, false, false, false, false, false, false, false, false, true, true, true, true, true, true, true, true, true, true, true, true, true, true, true, true, true, true, true, true, true, true, true, true, true, true, true, true] (by kernel_rfl) rfl ?_
        intro x61 x60 x59 x58 x57 x56 x55 x54 x53 x52 x51 x50 x49 x48 x47 x46 hf
        obtain ⟨x, hx⟩ := hf.at 16 (onGrewE kPlace Y [vc] c2 28 p.places) rfl (by kernel_rfl)
        obtain ⟨u, HG2⟩ := Growing.nextG HG.out hf.st.foot hx (fun k h => hf.st.mine 16 k h) (by omega) (fun k h => hf.st.free 16 k h)
        obtain ⟨P', hR', hP'⟩ := hI'
        have G8 := Sec.mk (PSt.fin (N1 := 13) G6.out HG2 (Foot.undrew hf.st.foot) (fun k h => by rcases h with h | h | h; exact .inl h; have h : k = Y := h; have := G6.out.y; exact .inr (by omega); exact .inr (HG.out.mine k (.inr h)).1) hR' hg (by have := LN.out; simp; try omega) (by have := LN.out; simp; try omega))
        clear hf hx HG2 hR'
        go_wp2_with fail
        go_meet
        case rel => exact ⟨G8.out.mono (by omega) (by omega)⟩
      · have d3 := trivial
        have GL := Sec.mk (G6.out.mono (Nat.le_refl PP) (show 12 ≤ 13 by omega))
        clear b1 b2 b3 RZ NRW NY LN
        go_wp2_with fail
        go_loopw [] (fun wr => Sec (PSt w0 w g PP Y 13 wr)) (fun wr => lenTo (wr.cell? ⟨Y, 0, none⟩))
        case atStart => exact GL
        case round =>
          clear GL G6
          have G6 := hrel
          have RZ := Sec.mk G6.out.rd
          have NRW : Sec (w0.heap.size ≤ wr.heap.size) := ⟨by have := G6.out.only.size; have := WZ0.out; omega⟩
          obtain ⟨cs7, p, S7, b1, b2, b3, b4, b5⟩ := G6.out.box
          have NY : Sec (g < Y ∧ w0.heap.size ≤ Y ∧ Y ≠ g ∧ Y < wr.heap.size) := ⟨by have := G6.out.y; have := WZ0.out; exact ⟨by omega, by omega, by omega, (Array.getElem?_eq_some_iff.1 b1).1⟩⟩
          obtain ⟨c0, c2, v, Sr, Sc, hl0, hcs, HG0⟩ := Growing.start (n0 := w.heap.size + 1) gf_clauses b1 b2 b3 G6.out.y
          obtain rfl : c0 = [] := List.eq_nil_of_length_eq_zero hl0
          have HG0 : Growing kProg kClause 25 (by decide) (fun y => ({ p with clauses := y } : Prog)) Y (w.heap.size + 1) [] c2 28 wr v p.clauses Sr Sc := HG0
          obtain ⟨A0, n0, rfl, -, -⟩ := Kd.R_form HG0.row
          have HG := Sec.mk HG0
          clear HG0 hl0 b1 b2 b3 hcs
          by_cases hle : p.clauses.length ≤ 12
          · have d1 : decide ((p.clauses.length : Int) ≤ 12) = true := decide_eq_true (by omega)
            have LN : Sec (p.clauses.length ≤ 12 ∧ p.places.length ≤ 13) := ⟨hle, b5⟩
            have hm1 : wr.cell? ⟨Y, 0, none⟩ = some (.slice A0 p.clauses.length n0) := HG.out.cell rfl
            have HM1 := Sec.mk hm1
            clear hm1 d3
            have HB := belA (Below.refl wr.heap.size wr) (.cells #[.int .i64 3, .int .i64 0, .string ⟨#[97]⟩] 39)
            have HG8 := Sec.mk (HG.out.below HB)
            have RZ8 := Sec.mk (RZ.out.below HB)
            have FB := Sec.mk (Foot.of_below (S := fun k => k = Y ∨ Sc k) HB)
            have CL := Sec.mk (show kClause.O (wr.alloc (.cells #[.int .i64 3, .int .i64 0, .string ⟨#[97]⟩] 39)) (fun k => k = wr.heap.size ∨ False) (⟨[⟨3, 0, ⟨#[97]⟩⟩], []⟩ : Clause) [.slice (some ⟨wr.heap.size, 0, none⟩) 1 1, .slice none 0 0] from kClause_of (R_lit (t := [⟨3, 0, ⟨#[97]⟩⟩]) (heap_alloc_new wr (.cells #[.int .i64 3, .int .i64 0, .string ⟨#[97]⟩] 39)) rfl rfl (by decide) (by decide)) (Kd.R_nil kGoal _ (fun _ => False)) (fun k _ => id))
            have SXZ : Sec (∀ k, (fun k => k = wr.heap.size ∨ False) k → wr.heap.size ≤ k ∧ k < (wr.alloc (.cells #[.int .i64 3, .int .i64 0, .string ⟨#[97]⟩] 39)).heap.size) := ⟨fun k h => by rcases h with h | h; have h : k = wr.heap.size := h; subst h; exact ⟨Nat.le_refl _, by simp⟩; exact h.elim⟩
            have NY2 : Sec (w.heap.size + 1 ≤ wr.heap.size ∧ Y < wr.heap.size) := ⟨by have := (Array.getElem?_eq_some_iff.1 HG.out.box).1; have := HG.out.at_; exact ⟨by omega, by omega⟩⟩
            have HG := HG
            have y0 := HG.out.cell (j := 0) rfl
            have HLT : Sec (∀ k, Sr k ∨ Sc k → k < wr.heap.size) := ⟨fun k h => (HG.out.mine k h).2.1⟩
            clear HB
            go_wp2_with (at_builtin; go_loud (refine Kd.R_app2 kClause (W := (wr.alloc (.cells #[.int .i64 3, .int .i64 0, .string ⟨#[97]⟩] 39))) (by rfl) (.tmp 69) (.tmp 73) 25 (.agg #[.slice none 0 0, .slice none 0 0]) 48 (by rfl) Tryz.underlying25 info_clause rfl (by decide) (by decide) _ p.clauses (⟨[⟨3, 0, ⟨#[97]⟩⟩], []⟩ : Clause) [.slice (some ⟨wr.heap.size, 0, none⟩) 1 1, .slice none 0 0] Sc (fun k => k = wr.heap.size ∨ False) (by rfl) (by rfl) (by first | rfl | simp) HG8.out.row CL.out (fun k h1 _ h2 => by have := HLT.out k (.inr h2); have := SXZ.out k h1; omega) (by have := LN.out.1; omega) ?_; intro v9 w9 hR9 hg9 hr9; obtain ⟨A9, m9, rfl, -, -⟩ := Kd.R_form hR9; rw [List.length_append] at hR9; have F9 : Foot Sc (wr.alloc (.cells #[.int .i64 3, .int .i64 0, .string ⟨#[97]⟩] 39)) w9 := Foot.grown2 (Foot.refl _ _) hg9 (fun k e => .inl (hr9 k e)); have N9 := Sec.mk (Growing.put HG8.out rfl F9 hR9 (fun k h => h) (fun k h => ⟨fun e => by have := HLT.out k (.inl e); have := SXZ.out k h; omega, by have := SXZ.out k h; have := NY2.out; omega, by have := SXZ.out k h; have := NY2.out; omega⟩)); have FF := Sec.mk ((F9.mono (S' := fun k => k = Y ∨ Sc k) (fun k h => .inr h)).set (g := Y) (.inl (.inl rfl)) 0 (.slice A9 (p.clauses.length + [(⟨[⟨3, 0, ⟨#[97]⟩⟩], []⟩ : Clause)].length) m9)); have NX : ¬ Sc Y := fun e => (HG8.out.mine Y (.inr e)).2.2 rfl; have q9 := (box_at (carry2 F9 HG8.out.box NX)).2.1 0 _ rfl; have f9 := (box_at (carry2 F9 HG8.out.box NX)).2.2 0; clear hR9 hg9 hr9 F9 NX y0))
            have F10 := Sec.mk (FB.out.trans FF.out (fun k _ h => h))
            have R10 := Sec.mk (F10.out.rd RZ.out (fun k h => by rcases h with h | h; have h : k = Y := h; have := NY.out; exact ⟨by omega, by omega⟩; have := (HG.out.mine k (.inr h)).1; have := WZ0.out; exact ⟨by omega, by omega⟩))
            have G8 := Sec.mk (PSt.fin (N1 := 13) G6.out N9.out F10.out (fun k h => by rcases h with h | h; have h : k = Y := h; have := HG.out.at_; exact .inr (by omega); exact .inr (HG.out.mine k (.inr h)).1) R10.out hg (by have := LN.out; simp; try omega) (by have := LN.out; simp; try omega))
            go_roundw
            case rel => exact G8
            case measure =>
              have hN : (w9.setCell ⟨Y, 0, none⟩ (.slice A9 (p.clauses.length + 1) m9)).cell? ⟨Y, 0, none⟩ = some (.slice A9 (p.clauses.length + 1) m9) := N9.out.cell (j := 0) rfl
              rw [hN, HM1.out]
              show 100 - (p.clauses.length + 1) < 100 - p.clauses.length
              omega
          · have d1 : decide ((p.clauses.length : Int) ≤ 12) = false := decide_eq_false (by omega)
            have y0 := HG.out.cell (j := 0) rfl
            go_wp2_with fail
            go_meet
            case rel => exact ⟨G6.out.mono (by omega) (by omega)⟩
      · obtain ⟨c0, c2, v, Sr, Sc, hl0, hcs, HG0⟩ := Growing.start (n0 := w.heap.size + 1) gf_clauses b1 b2 b3 G6.out.y
        obtain rfl : c0 = [] := List.eq_nil_of_length_eq_zero hl0
        have HG0 : Growing kProg kClause 25 (by decide) (fun y => ({ p with clauses := y } : Prog)) Y (w.heap.size + 1) [] c2 28 wz v p.clauses Sr Sc := HG0
        obtain ⟨A0, n0, rfl, -, -⟩ := Kd.R_form HG0.row
        have HG := Sec.mk HG0
        clear HG0 hl0 b1 b2 b3 hcs
        go_wp2
        refine Sh.wp_region_lists (G := fun k => k = g) (I := RIk 20000 w0 g (PP + 240000)) [[78], [79], [80], [81], [82], [83], [84], [85], [86], [87], [88], [], [], []]
          [fun val _ _ => val 78 = .pointer (some ⟨Y, 0, none⟩),
            fun val _ _ => val 79 = .slice A0 p.clauses.length n0,
            fun val _ _ => val 80 = .agg #[.int .i64 3, .int .i64 0, .string ⟨#[97]⟩],
            onT 81 1,
            fun val _ _ => val 82 = .pointer (some ⟨g, 0, none⟩),
            onOE kGoal 83,
            onOneE kGoal 84,
            onOE kClause 85,
            onOneE kClause 86,
            onRE kClause 87 p.clauses,
            fun val _ _ => val 88 = .pointer (some ⟨Y, 0, none⟩),
            onGrewE kClause Y [] c2 28 p.clauses,
            onRc kClause (.slice A0 p.clauses.length n0) p.clauses,
            onCells Y (([] : List Value) ++ ((Value.slice A0 p.clauses.length n0) :: c2)).toArray 28]
          [[], [], [], [], [], [], [5], [3, 6], [7], [12, 8], [], [13, 9], [], []] 2 (fun q => q = g ∨ (q = Y ∨ Sc q)) (fun i q => (i = 12 ∧ Sc q) ∨ (i = 13 ∧ q = Y)) (by kernel_rfl) ⟨by kernel_rfl, by kernel_rfl, by kernel_rfl, by kernel_rfl, by kernel_rfl⟩
          (.cons (stab_val 78 (fun v => v = .pointer (some ⟨Y, 0, none⟩))) (.cons (stab_val 79 (fun v => v = .slice A0 p.clauses.length n0)) (.cons (stab_val 80 (fun v => v = .agg #[.int .i64 3, .int .i64 0, .string ⟨#[97]⟩])) (.cons (stab_T 81 1) (.cons (stab_val 82 (fun v => v = .pointer (some ⟨g, 0, none⟩))) (.cons (stab_OE kGoal 83) (.cons (stab_oneE kGoal 84) (.cons (stab_OE kClause 85) (.cons (stab_oneE kClause 86) (.cons (stab_RE kClause 87 p.clauses) (.cons (stab_val 88 (fun v => v = .pointer (some ⟨Y, 0, none⟩))) (.cons (stab_grewE kClause Y [] c2 28 p.clauses) (.cons (stab_Rc kClause (.slice A0 p.clauses.length n0) p.clauses) (.cons (stab_cells Y (([] : List Value) ++ ((Value.slice A0 p.clauses.length n0) :: c2)).toArray 28) .nil))))))))))))))
          (fun i j k h1 h2 => by rcases h1 with ⟨a1, b1⟩ | ⟨a1, b1⟩ <;> rcases h2 with ⟨a2, b2⟩ | ⟨a2, b2⟩ <;> first | omega | (exact ((HG.out.mine k (.inr (by assumption))).2.2 (by assumption)).elim)) (fun i q h => by rcases h with ⟨a1, b1⟩ | ⟨a1, b1⟩; exact ⟨by rw [a1]; decide, .inr (.inr b1), (HG.out.mine q (.inr b1)).2.1⟩; exact ⟨by rw [a1]; decide, .inr (.inl b1), by rw [b1]; exact NY.out.2.2.2⟩) (fun i h1 h2 => by rcases (show i = 12 ∨ i = 13 by simp at h1 h2; omega) with rfl | rfl; exact Kd.R_mono (Kd.R_below HG.out.row (belD (Below.refl _ _))) (fun q h _ => .inl ⟨rfl, h⟩); exact ⟨HG.out.box, .inr ⟨rfl, rfl⟩⟩) (fun k h => ⟨.inl h, by rw [h]; have := NY.out; omega⟩) (fun f w h => RIk.down h) ⟨PP, RZ.out.below (belD (Below.refl _ _)), by simp⟩ (fun i k h h2 => by have h2 : k = g := h2; rcases h with ⟨a1, b1⟩ | ⟨a1, b1⟩; have := (HG.out.mine k (.inr b1)).1; have := NY.out; omega; have := NY.out; omega) (.cons ?_ (.cons ?_ (.cons ?_ (.cons ?_ (.cons ?_ (.cons ?_ (.cons ?_ (.cons ?_ (.cons ?_ (.cons ?_ (.cons ?_ (.cons ?_ .nil)))))))))))) ?_
        · intro a W own hfor huse hap hmi hF hfree f hI K hK
          have e5 : a.eval (.tmp 5) = .pointer (some ⟨Y, 0, none⟩) := hfor 5 (by kernel_rfl)
          refine op_val (.pointer (some ⟨Y, 0, none⟩)) W rfl ?_ (hK _ _ (Sh.kpost_pure hI (if_pos rfl)))
          · clear hfor huse hap hmi hK hF
            generalize a.eval = ρ at *
            go_simp
        · intro a W own hfor huse hap hmi hF hfree f hI K hK
          have e78 : a.eval (.tmp 78) = .pointer (some ⟨Y, 0, none⟩) := huse 0 (by kernel_rfl)
          obtain ⟨hb, hSX⟩ := (huse 13 (by kernel_rfl) : onCells Y (([] : List Value) ++ ((Value.slice A0 p.clauses.length n0) :: c2)).toArray 28 (slotsOf a) (own 13) W)
          have c0 := (box_at hb).2.1 0 _ rfl
          refine op_val (.slice A0 p.clauses.length n0) W rfl ?_ (hK _ _ (Sh.kpost_pure hI (if_pos rfl)))
          · clear hb
            clear hfor huse hap hmi hK hF
            generalize a.eval = ρ at *
            go_simp
        · intro a W own hfor huse hap hmi hF hfree f hI K hK
          have ec : a.eval (.const (.int .i64 3)) = .int .i64 3 := rfl
          have ec2 : a.eval (.const (.string ⟨#[97]⟩)) = .string ⟨#[97]⟩ := rfl
          refine op_val (.agg #[.int .i64 3, .int .i64 0, .string ⟨#[97]⟩]) W rfl ?_ (hK _ _ (Sh.kpost_pure hI (if_pos rfl)))
          · clear hfor huse hap hmi hK hF
            generalize a.eval = ρ at *
            go_simp
        · intro a W own hfor huse hap hmi hF hfree f hI K hK
          have e80 : a.eval (.tmp 80) = .agg #[.int .i64 3, .int .i64 0, .string ⟨#[97]⟩] := huse 2 (by kernel_rfl)
          refine step_box (cs := [.int .i64 3, .int .i64 0, .string ⟨#[97]⟩]) rfl 23 39 (.tmp 80) rfl e80 Tryz.underlying23 info_cell rfl (by decide) (by decide) (hK _ _ (Sh.kpost_new hI (belA (Below.refl _ _) _) ?_))
          refine ⟨[⟨3, 0, ⟨#[97]⟩⟩], by simp, ?_⟩
          show kCell.R _ _ (if _ then _ else _) _
          rw [if_pos rfl]
          exact R_lit (t := [⟨3, 0, ⟨#[97]⟩⟩]) (heap_alloc_new W _) ⟨Nat.le_refl _, by simp⟩ rfl (by decide) (by decide)
        · intro a W own hfor huse hap hmi hF hfree f hI K hK
          have e0 : a.eval (.tmp 0) = .pointer (some ⟨g, 0, none⟩) := hfor 0 (by kernel_rfl)
          refine op_val (.pointer (some ⟨g, 0, none⟩)) W rfl ?_ (hK _ _ (Sh.kpost_pure hI (if_pos rfl)))
          · clear hfor huse hap hmi hK hF
            generalize a.eval = ρ at *
            go_simp
        · intro a W own hfor huse hap hmi hF hfree f hI K hK
          have e82 : a.eval (.tmp 82) = .pointer (some ⟨g, 0, none⟩) := huse 4 (by kernel_rfl)
          have ec : a.eval (.const (.int .i64 1)) = .int .i64 1 := rfl
          have efn : a.eval (.func 118) = .func (.func 118) #[] #[] := rfl
          obtain ⟨P9, hRd, hPB⟩ := hI
          refine op_call (f := 118) (args := #[.pointer (some ⟨g, 0, none⟩), .int .i64 1]) (fun v w1 => ∃ (x : Goal) (c : List Value), v = .agg c.toArray ∧ kGoal.O w1 (fun k => W.heap.size ≤ k) x c ∧ Rd w0 w1 g (P9 + 20000) ∧ Only g W w1) rfl ?_ ?_ (fun v w1 h => ?_)
          · clear hfor huse hap hmi hK hF
            generalize a.eval = ρ at *
            go_simp
          · exact (goalOr_c w0 W g P9 1 hRd (by omega) (by omega) (by omega)).mono (by rintro e w1 ⟨x, c, rfl, h0, h1, h2⟩; exact ⟨_, rfl, x, c, rfl, h0, h1, h2⟩)
          · obtain ⟨x, c, rfl, h0, h1, h2⟩ := h
            exact hK _ _ (Sh.kpost_rd hPB h1 (by omega) h2 ⟨x, c, if_pos rfl, kGoal.O_mono h0 (fun k h3 h4 => ⟨h3, h4⟩)⟩)
        · intro a W own hfor huse hap hmi hF hfree f hI K hK
          obtain ⟨x, cs9, e83, r9⟩ := (huse 5 (by kernel_rfl) : onOE kGoal 83 (slotsOf a) (own 5) W)
          have e83 : a.eval (.tmp 83) = .agg cs9.toArray := e83
          have hlen := kGoal.K_len (kGoal.O_K r9)
          refine step_box rfl 111 100 (.tmp 83) rfl e83 Tryz.underlying111 info_goal hlen (by decide) (by decide) (hK _ _ ⟨fun k => own 5 k ∨ (W.heap.size ≤ k ∧ k < (W.alloc (.cells cs9.toArray 100)).heap.size), Foot.of_below (belA (Below.refl _ _) _), (RIk.down hI).below (belA (Below.refl _ _) _), ?_, fun k h => Or.imp (fun h => ⟨5, by decide, h⟩) id h⟩)
          exact ⟨x, W.heap.size, cs9, if_pos rfl, heap_alloc_new W _, .inr ⟨Nat.le_refl _, by simp⟩, Kd.O_mono (Kd.O_below r9 (belA (Below.refl _ _) _)) (fun k h _ => ⟨.inl h, fun e => by have h1 := (hmi 5 k h).2; omega⟩)⟩
        · intro a W own hfor huse hap hmi hF hfree f hI K hK
          obtain ⟨t, hl, r81⟩ := (huse 3 (by kernel_rfl) : onT 81 1 (slotsOf a) (own 3) W)
          have r81 : kCell.R W (own 3) (a.eval (.tmp 81)) t := r81
          obtain ⟨A7, n7, e81, -, -⟩ := Kd.R_form r81
          rw [e81] at r81
          obtain ⟨x, b9, cs9, e84, hbx, hSg, r9⟩ := (huse 6 (by kernel_rfl) : onOneE kGoal 84 (slotsOf a) (own 6) W)
          have e84 : a.eval (.tmp 84) = .slice (some ⟨b9, 0, none⟩) 1 1 := e84
          have r84 : kGoal.R W (own 6) (.slice (some ⟨b9, 0, none⟩) 1 1) [x] := Kd.R_of_one kGoal hbx hSg r9
          refine op_val (.agg #[.slice A7 t.length n7, .slice (some ⟨b9, 0, none⟩) 1 1]) W rfl ?_ (hK _ _ ⟨fun k => own 3 k ∨ own 6 k, Foot.refl _ _, RIk.down hI, ⟨⟨t, [x]⟩, [.slice A7 t.length n7, .slice (some ⟨b9, 0, none⟩) 1 1], if_pos rfl, kClause_of r81 r84 (fun k h1 h2 => by have := hap 3 6 k h1 h2; omega)⟩, ?_⟩)
          · clear r81 r84 r9 hbx
            clear hfor huse hap hmi hK hF
            generalize a.eval = ρ at *
            go_simp
          · intro k h
            left
            rcases h with h | h
            · exact ⟨3, by decide, h⟩
            · exact ⟨6, by decide, h⟩
        · intro a W own hfor huse hap hmi hF hfree f hI K hK
          obtain ⟨x, cs9, e85, r9⟩ := (huse 7 (by kernel_rfl) : onOE kClause 85 (slotsOf a) (own 7) W)
          have e85 : a.eval (.tmp 85) = .agg cs9.toArray := e85
          have hlen := kClause.K_len (kClause.O_K r9)
          refine step_box rfl 25 113 (.tmp 85) rfl e85 Tryz.underlying25 info_clause hlen (by decide) (by decide) (hK _ _ ⟨fun k => own 7 k ∨ (W.heap.size ≤ k ∧ k < (W.alloc (.cells cs9.toArray 113)).heap.size), Foot.of_below (belA (Below.refl _ _) _), (RIk.down hI).below (belA (Below.refl _ _) _), ?_, fun k h => Or.imp (fun h => ⟨7, by decide, h⟩) id h⟩)
          exact ⟨x, W.heap.size, cs9, if_pos rfl, heap_alloc_new W _, .inr ⟨Nat.le_refl _, by simp⟩, Kd.O_mono (Kd.O_below r9 (belA (Below.refl _ _) _)) (fun k h _ => ⟨.inl h, fun e => by have h1 := (hmi 7 k h).2; omega⟩)⟩
        · intro a W own hfor huse hap hmi hF hfree f hI K hK
          have e79 : a.eval (.tmp 79) = .slice A0 p.clauses.length n0 := huse 1 (by kernel_rfl)
          have r8 : kClause.R W (own 12) (.slice A0 p.clauses.length n0) p.clauses := huse 12 (by kernel_rfl)
          obtain ⟨x, b9, cs9, e86, hbx, hSg, r9⟩ := (huse 8 (by kernel_rfl) : onOneE kClause 86 (slotsOf a) (own 8) W)
          have e86 : a.eval (.tmp 86) = .slice (some ⟨b9, 0, none⟩) 1 1 := e86
          refine step_one kClause rfl (.tmp 79) (.tmp 86) 25 (.agg #[.slice none 0 0, .slice none 0 0]) 48 rfl Tryz.underlying25 info_clause rfl (by decide) (by decide) e79 e86 r8 hbx r9 (fun k h1 h2 => by have := hap 8 12 k h1.1 h2; omega) (by have := LN.out.1; omega) (fun v1 w1 hR hF1 => hK _ _ ⟨fun k => own 12 k ∨ own 8 k ∨ (W.heap.size ≤ k ∧ k < w1.heap.size), Foot.mono hF1 (fun k h => .inl ⟨12, by decide, h⟩), (RIk.down hI).foot hF1 (fun k h => ⟨fun e => hfree 12 k h e, by have h1 := (hmi 12 k h).1; have hg9 := hfree 12 k h; rcases h1 with h1 | h1 | h1 | h1; have h1 : wz.heap.size ≤ k := h1; have := NRW.out; omega; exact (hg9 h1).elim; have h1 : k = Y := h1; have := NY.out; omega; have := (HG.out.mine k (.inr h1)).1; have := WZ0.out; omega⟩), ?_, ?_⟩)
          · refine ⟨x, ?_⟩
            show kClause.R _ _ (if _ then _ else _) (p.clauses ++ [x])
            rw [if_pos rfl]
            exact Kd.R_mono hR (fun k h _ => h.imp id (fun h => h.imp (fun h => h.1) id))
          · intro k h
            rcases h with h | h | h
            · exact .inl ⟨12, by decide, h⟩
            · exact .inl ⟨8, by decide, h⟩
            · exact .inr h
        · intro a W own hfor huse hap hmi hF hfree f hI K hK
          have e5 : a.eval (.tmp 5) = .pointer (some ⟨Y, 0, none⟩) := hfor 5 (by kernel_rfl)
          refine op_val (.pointer (some ⟨Y, 0, none⟩)) W rfl ?_ (hK _ _ (Sh.kpost_pure hI (if_pos rfl)))
          · clear hfor huse hap hmi hK hF
            generalize a.eval = ρ at *
            go_simp
        · intro a W own hfor huse hap hmi hF hfree f hI K hK
          have e88 : a.eval (.tmp 88) = .pointer (some ⟨Y, 0, none⟩) := huse 10 (by kernel_rfl)
          obtain ⟨hb, hSX⟩ := (huse 13 (by kernel_rfl) : onCells Y (([] : List Value) ++ ((Value.slice A0 p.clauses.length n0) :: c2)).toArray 28 (slotsOf a) (own 13) W)
          obtain ⟨x, r8⟩ := (huse 9 (by kernel_rfl) : onRE kClause 87 p.clauses (slotsOf a) (own 9) W)
          have r8 : kClause.R W (own 9) (a.eval (.tmp 87)) (p.clauses ++ [x]) := r8
          obtain ⟨A8, n8, e87, -, -⟩ := Kd.R_form r8
          rw [e87] at r8
          have q0 : W.cell? ⟨Y, 0, none⟩ = _ := grow_cell hb rfl
          have f0 := (box_at hb).2.2 0
          have F : Foot (fun k => k = Y) W (W.setCell ⟨Y, 0, none⟩ (.slice A8 (p.clauses ++ [x]).length n8)) := Foot.set (Foot.refl (fun k => k = Y) W) (.inl rfl) _ _
          refine op_skip (W.setCell ⟨Y, 0, none⟩ (.slice A8 (p.clauses ++ [x]).length n8)) rfl ?_ (hK _ _ ⟨fun k => own 13 k ∨ own 9 k, Foot.mono F (fun k e => .inl ⟨13, by decide, e ▸ hSX⟩), (RIk.down hI).foot F (fun k e => by have e : k = Y := e; have := NY.out; exact ⟨by omega, by omega⟩), ?_, ?_⟩)
          · clear hfor huse hap hmi hK hF hb F r8
            generalize a.eval = ρ at *
            go_simp
          · exact ⟨x, _, grow_set hb rfl _, .inl hSX, Kd.R_mono (F.R r8 (fun k h1 h2 => by have := hap 13 9 Y hSX (h2 ▸ h1); omega)) (fun k h _ => ⟨.inr h, fun e => by have := hap 13 9 Y hSX (e ▸ h); omega⟩)⟩
          · intro k h
            left
            rcases h with h | h
            · exact ⟨13, by decide, h⟩
            · exact ⟨9, by decide, h⟩
        intro a' W own f' hf hI'
        have s1 := hf.st.size
        have s2 := hf.st.rest
        have s3 := fun t ht => hf.st.kept t ht
        revert hf
        revert a'
        refine lay_intro (df := []) [true, true, true, true, true, true, true, true, true, true, true, true, true, true, true, true, true, true, true, true, true, true, true, true, true, true, true, true, true, true, true, true, true, true, true, true, true, true, true, true, true, true, true, true, true, true, true, true, true, true, true, true, true, true, true, true, true, true, true, true, true, true, true, true, true, true, true, true, true, true, true, true, true, true, true, true, true, true, false, false, false, false, false, false, false, false, false, false, false, true] (by kernel_rfl) rfl ?_
        intro x88 x87 x86 x85 x84 x83 x82 x81 x80 x79 x78 hf
        obtain ⟨x, hx⟩ := hf.at 11 (onGrewE kClause Y [] c2 28 p.clauses) rfl (by kernel_rfl)
        obtain ⟨u, HG2⟩ := Growing.nextG HG.out hf.st.foot hx (fun k h => hf.st.mine 11 k h) (by omega) (fun k h => hf.st.free 11 k h)
        obtain ⟨P', hR', hP'⟩ := hI'
        have G8 := Sec.mk (PSt.fin (N1 := 13) G6.out HG2 (Foot.undrew hf.st.foot) (fun k h => by rcases h with h | h | h; exact .inl h; have h : k = Y := h; have := G6.out.y; exact .inr (by omega); exact .inr (HG.out.mine k (.inr h)).1) hR' hg (by have := LN.out; simp; try omega) (by have := LN.out; simp; try omega))
        clear hf hx HG2 hR'
        go_wp2_with fail
        go_meet
        case rel => exact ⟨G8.out.mono (by omega) (by omega)⟩
      · obtain ⟨c0, c2, v, Sr, Sc, hl0, hcs, HG0⟩ := Growing.start (n0 := w.heap.size + 1) gf_clauses b1 b2 b3 G6.out.y
        obtain rfl : c0 = [] := List.eq_nil_of_length_eq_zero hl0
        have HG0 : Growing kProg kClause 25 (by decide) (fun y => ({ p with clauses := y } : Prog)) Y (w.heap.size + 1) [] c2 28 wz v p.clauses Sr Sc := HG0
        obtain ⟨A0, n0, rfl, -, -⟩ := Kd.R_form HG0.row
        have HG := Sec.mk HG0
        clear HG0 hl0 b1 b2 b3 hcs
        have HB := belA (Below.refl wz.heap.size wz) (.cells #[.int .i64 3, .int .i64 1, .string ⟨#[97]⟩, .int .i64 1, .int .i64 8, .string ⟨#[]⟩] 39)
        have HG8 := Sec.mk (HG.out.below HB)
        have RZ8 := Sec.mk (RZ.out.below HB)
        have FB := Sec.mk (Foot.of_below (S := fun k => k = Y ∨ Sc k) HB)
        have CL := Sec.mk (show kClause.O (wz.alloc (.cells #[.int .i64 3, .int .i64 1, .string ⟨#[97]⟩, .int .i64 1, .int .i64 8, .string ⟨#[]⟩] 39)) (fun k => k = wz.heap.size ∨ False) (⟨[⟨3, 1, ⟨#[97]⟩⟩, ⟨1, 8, ⟨#[]⟩⟩], []⟩ : Clause) [.slice (some ⟨wz.heap.size, 0, none⟩) 2 2, .slice none 0 0] from kClause_of (R_lit (t := [⟨3, 1, ⟨#[97]⟩⟩, ⟨1, 8, ⟨#[]⟩⟩]) (heap_alloc_new wz (.cells #[.int .i64 3, .int .i64 1, .string ⟨#[97]⟩, .int .i64 1, .int .i64 8, .string ⟨#[]⟩] 39)) rfl rfl (by decide) (by decide)) (Kd.R_nil kGoal _ (fun _ => False)) (fun k _ => id))
        have SXZ : Sec (∀ k, (fun k => k = wz.heap.size ∨ False) k → wz.heap.size ≤ k ∧ k < (wz.alloc (.cells #[.int .i64 3, .int .i64 1, .string ⟨#[97]⟩, .int .i64 1, .int .i64 8, .string ⟨#[]⟩] 39)).heap.size) := ⟨fun k h => by rcases h with h | h; have h : k = wz.heap.size := h; subst h; exact ⟨Nat.le_refl _, by simp⟩; exact h.elim⟩
        have NY2 : Sec (w.heap.size + 1 ≤ wz.heap.size ∧ Y < wz.heap.size) := ⟨by have := (Array.getElem?_eq_some_iff.1 HG.out.box).1; have := HG.out.at_; exact ⟨by omega, by omega⟩⟩
        have HG := HG
        have y0 := HG.out.cell (j := 0) rfl
        have HLT : Sec (∀ k, Sr k ∨ Sc k → k < wz.heap.size) := ⟨fun k h => (HG.out.mine k h).2.1⟩
        clear HB
        go_wp2_with (at_builtin; go_loud (refine Kd.R_app2 kClause (W := (wz.alloc (.cells #[.int .i64 3, .int .i64 1, .string ⟨#[97]⟩, .int .i64 1, .int .i64 8, .string ⟨#[]⟩] 39))) (by rfl) (.tmp 14) (.tmp 19) 25 (.agg #[.slice none 0 0, .slice none 0 0]) 48 (by rfl) Tryz.underlying25 info_clause rfl (by decide) (by decide) _ p.clauses (⟨[⟨3, 1, ⟨#[97]⟩⟩, ⟨1, 8, ⟨#[]⟩⟩], []⟩ : Clause) [.slice (some ⟨wz.heap.size, 0, none⟩) 2 2, .slice none 0 0] Sc (fun k => k = wz.heap.size ∨ False) (by rfl) (by rfl) (by first | rfl | simp) HG8.out.row CL.out (fun k h1 _ h2 => by have := HLT.out k (.inr h2); have := SXZ.out k h1; omega) (by have := LN.out.1; omega) ?_; intro v9 w9 hR9 hg9 hr9; obtain ⟨A9, m9, rfl, -, -⟩ := Kd.R_form hR9; rw [List.length_append] at hR9; have F9 : Foot Sc (wz.alloc (.cells #[.int .i64 3, .int .i64 1, .string ⟨#[97]⟩, .int .i64 1, .int .i64 8, .string ⟨#[]⟩] 39)) w9 := Foot.grown2 (Foot.refl _ _) hg9 (fun k e => .inl (hr9 k e)); have N9 := Sec.mk (Growing.put HG8.out rfl F9 hR9 (fun k h => h) (fun k h => ⟨fun e => by have := HLT.out k (.inl e); have := SXZ.out k h; omega, by have := SXZ.out k h; have := NY2.out; omega, by have := SXZ.out k h; have := NY2.out; omega⟩)); have FF := Sec.mk ((F9.mono (S' := fun k => k = Y ∨ Sc k) (fun k h => .inr h)).set (g := Y) (.inl (.inl rfl)) 0 (.slice A9 (p.clauses.length + [(⟨[⟨3, 1, ⟨#[97]⟩⟩, ⟨1, 8, ⟨#[]⟩⟩], []⟩ : Clause)].length) m9)); have NX : ¬ Sc Y := fun e => (HG8.out.mine Y (.inr e)).2.2 rfl; have q9 := (box_at (carry2 F9 HG8.out.box NX)).2.1 0 _ rfl; have f9 := (box_at (carry2 F9 HG8.out.box NX)).2.2 0; clear hR9 hg9 hr9 F9 NX y0))
        have F10 := Sec.mk (FB.out.trans FF.out (fun k _ h => h))
        have R10 := Sec.mk (F10.out.rd RZ.out (fun k h => by rcases h with h | h; have h : k = Y := h; have := NY.out; exact ⟨by omega, by omega⟩; have := (HG.out.mine k (.inr h)).1; have := WZ0.out; exact ⟨by omega, by omega⟩))
        have G8 := Sec.mk (PSt.fin (N1 := 13) G6.out N9.out F10.out (fun k h => by rcases h with h | h; have h : k = Y := h; have := HG.out.at_; exact .inr (by omega); exact .inr (HG.out.mine k (.inr h)).1) R10.out hg (by have := LN.out; simp; try omega) (by have := LN.out; simp; try omega))
        go_meet
        case rel => exact ⟨G8.out.mono (by omega) (by omega)⟩
  case rest =>
  have G7 := hcut
  generalize wc = w7 at *
  obtain ⟨cs, x, S, h1, h2, h3, h4, h5⟩ := G7.out.box
  obtain ⟨v1, v2, rfl, -⟩ := kProg_K (kProg.O_K h2)
  have X := (box_at h1).2.1
  have z0 := X 0 _ rfl
  have z1 := X 1 _ rfl
  have H2 := Sec.mk h2
  have H3 := Sec.mk h3
  clear X h2 h3 h1
  go_wp2_with (with_reducible show wpList _ _ _ (⟨none, .store 28 (.tmp 4) (.tmp 89), _, _, _, _⟩ :: _) _ _; go_loud (refine wpList_store (cs := [v1, v2]) (old := #[.slice none 0 0, .slice none 0 0]) rfl 28 (.tmp 4) (.tmp 89) rfl rfl rfl G7.out.res (by kernel_rfl) rfl (kProg.K_one (kProg.O_K H2.out)) ?_; intro w8 hb8 hF8; have B8 := Sec.mk hb8; have F8 := Sec.mk hF8; clear hb8 hF8))
  refine bodyPost_ret (results_cell rfl rfl B8.out hu2 rfl (by kernel_rfl)) rfl ?_
  have hy := G7.out.y
  exact ⟨x, _, rfl, Kd.O_mono (F8.out.O H2.out (fun k hk e => by have e : k = w.heap.size := e; have := (H3.out k hk).1; omega)) (fun k hk _ => by have := (H3.out k hk).1; omega), h4, h5, (F8.out.rd G7.out.rd (fun k e => by have e : k = w.heap.size := e; have := WZ0.out; exact ⟨by omega, by omega⟩)).mono (by omega), F8.out.onlyOf G7.out.only (fun k e => Nat.le_of_eq (show k = w.heap.size from e).symm)⟩
end
section
open Go.RowKit
set_option linter.unusedVariables false
set_option maxRecDepth 100000
set_option maxHeartbeats 1000000 in
theorem DrawPrgOk_c (w : World) (v : Value) (code : List UInt8) (ok : Nat → Prop) (hV : kByte.V w ok v code) :
    Calls Tryz.prog 8 #[v] w fun e w' => ∃ (p : Prog) (cs : List Value), e = .returned (.agg cs.toArray) ∧ kProg.O w' (fun k => w.heap.size ≤ k) p cs ∧ p.clauses.length ≤ 13 ∧ p.places.length ≤ 13 ∧ Below w.heap.size w w' := by
  have hu2 := Tryz.underlying28
  have B0 := belA (Below.refl w.heap.size w) (.cells #[.slice none 0 0, .slice none 0 0] 28)
  have H0 := Sec.mk (open_c (w.alloc (.cells #[.slice none 0 0, .slice none 0 0] 28)) v code ok (Kd.V_below hV B0 (by decide)))
  have X0 := heap_alloc_new w (.cells #[.slice none 0 0, .slice none 0 0] 28)
  have Z0 : (w.alloc (.cells #[.slice none 0 0, .slice none 0 0] 28)).heap.size = w.heap.size + 1 := by simp
  obtain ⟨A, c, rfl, _⟩ := hV
  go_enter Tryz.func8, Tryz.ntmps8
  go_wp2_with fail
  refine H0.out.mono ?_
  rintro e w1 ⟨g, rfl, hR1, hB1⟩
  have hge := hR1.ge
  have z1 := hB1.size
  go_wp2_with fail
  refine (progOr_c _ w1 g 0 2 hR1 (by omega) (by omega) (by omega)).mono ?_
  rintro e w2 ⟨p, cs, rfl, hO, l1, l2, hR2, hO2⟩
  obtain ⟨v1, v2, rfl, -⟩ := kProg_K (kProg.O_K hO)
  have BB := hR2.bel
  have X2 := Sec.mk ((BB.block w.heap.size (by omega)).trans X0)
  have B2 := Sec.mk (bel B0 BB)
  have HO := Sec.mk (Kd.O_mono hO (S1 := fun k => w.heap.size + 1 ≤ k) (fun k h _ => by omega))
  clear hO hR2 hO2 BB X0 B0 H0 hR1 hB1
  go_wp2_with (with_reducible show wpList _ _ _ (⟨none, .store 28 (.tmp 2) (.tmp 5), _, _, _, _⟩ :: _) _ _; go_loud (refine wpList_store (cs := [v1, v2]) (old := #[.slice none 0 0, .slice none 0 0]) rfl 28 (.tmp 2) (.tmp 5) rfl rfl rfl X2.out (by kernel_rfl) rfl (kProg.K_one (kProg.O_K HO.out)) ?_; intro w8 hb8 hF8; have B8 := Sec.mk hb8; have F8 := Sec.mk hF8; clear hb8 hF8))
  exact bodyPost_ret (results_cell rfl rfl B8.out hu2 rfl (by kernel_rfl)) rfl ⟨p, _, rfl, Kd.O_mono (F8.out.O HO.out (fun k h e => by have e : k = w.heap.size := e; omega)) (fun k h _ => by omega), l1, l2, F8.out.below B2.out (fun k h => Nat.le_of_eq (show k = w.heap.size from h).symm)⟩
end
section
open Go.RowKit
set_option linter.unusedVariables false
set_option maxRecDepth 100000
theorem same_ {α : Type} [DecidableEq α] (t : α) : decide (t = t) = true := decide_eq_true rfl
set_option maxHeartbeats 1000000 in
theorem caGoal_c (x : Goal) (cs ds : List Value) (ok ok' : Nat → Prop) (w : World) (hK : kGoal.K w ok x cs) (hD : kGoal.K w ok' x ds) :
    Calls Tryz.prog 123 #[.agg cs.toArray, .agg ds.toArray] w fun e w' => e = .returned (.bool true) ∧ Below w.heap.size w w' := by
  obtain ⟨v1, v2, v3, rfl, h1, h2, h3⟩ := kGoal_K hK
  obtain ⟨u1, u2, u3, rfl, g1, g2, g3⟩ := kGoal_K hD
  have H1 := Sec.mk h1
  have H2 := Sec.mk h2
  have H3 := Sec.mk h3
  have G1 := Sec.mk g1
  have G2 := Sec.mk g2
  have G3 := Sec.mk g3
  obtain ⟨E1, m1, rfl, -⟩ := h1
  obtain ⟨E2, m2, rfl, -⟩ := h2
  obtain ⟨E3, m3, rfl, -⟩ := h3
  obtain ⟨D1, n1, rfl, -⟩ := g1
  obtain ⟨D2, n2, rfl, -⟩ := g2
  obtain ⟨D3, n3, rfl, -⟩ := g3
  clear hK hD
  have B0 := Sec.mk (belA (belA (Below.refl w.heap.size w) (.cells #[.int .i64 x.kind, .slice E1 x.a.length m1, .slice E2 x.b.length m2, .slice E3 x.c.length m3] 100)) (.cells #[.int .i64 x.kind, .slice D1 x.a.length n1, .slice D2 x.b.length n2, .slice D3 x.c.length n3] 100))
  have P0 := Sec.mk (box2 w (.cells #[.int .i64 x.kind, .slice E1 x.a.length m1, .slice E2 x.b.length m2, .slice E3 x.c.length m3] 100) (.cells #[.int .i64 x.kind, .slice D1 x.a.length n1, .slice D2 x.b.length n2, .slice D3 x.c.length n3] 100)).1
  have Q0 := Sec.mk (box2 w (.cells #[.int .i64 x.kind, .slice E1 x.a.length m1, .slice E2 x.b.length m2, .slice E3 x.c.length m3] 100) (.cells #[.int .i64 x.kind, .slice D1 x.a.length n1, .slice D2 x.b.length n2, .slice D3 x.c.length n3] 100)).2
  have X := (box_at P0.out).2.1
  have p0_0 := X 0 _ rfl
  have p0_1 := X 1 _ rfl
  have p0_2 := X 2 _ rfl
  have p0_3 := X 3 _ rfl
  clear X
  have X := (box_at Q0.out).2.1
  have q0_0 := X 0 _ rfl
  have q0_1 := X 1 _ rfl
  have q0_2 := X 2 _ rfl
  have q0_3 := X 3 _ rfl
  clear X
  have T0 : Sec True := ⟨trivial⟩
  go_enter Tryz.func123, Tryz.ntmps123
  go_wp2_with (first | (clear T2; go_at_call 13; have T3 : Sec True := ⟨trivial⟩; refine (caTerm_c _ _ x.c x.c ok ok' _ (Kd.V_below H3.out B2.out (by decide)) (Kd.V_below G3.out B2.out (by decide))).mono ?_; rw [same_]; rintro e w3 ⟨rfl, hb⟩; have B3 := Sec.mk (bel B2.out hb); clear hb) | (clear T1; go_at_call 13; have T2 : Sec True := ⟨trivial⟩; refine (caTerm_c _ _ x.b x.b ok ok' _ (Kd.V_below H2.out B1.out (by decide)) (Kd.V_below G2.out B1.out (by decide))).mono ?_; rw [same_]; rintro e w2 ⟨rfl, hb⟩; have B2 := Sec.mk (bel B1.out hb); have P2 := Sec.mk ((hb.block _ (Array.getElem?_eq_some_iff.1 P1.out).1).trans P1.out); have X := (box_at P2.out).2.1; have p2_0 := X 0 _ rfl; have p2_1 := X 1 _ rfl; have p2_2 := X 2 _ rfl; have p2_3 := X 3 _ rfl; clear X; have Q2 := Sec.mk ((hb.block _ (Array.getElem?_eq_some_iff.1 Q1.out).1).trans Q1.out); have X := (box_at Q2.out).2.1; have q2_0 := X 0 _ rfl; have q2_1 := X 1 _ rfl; have q2_2 := X 2 _ rfl; have q2_3 := X 3 _ rfl; clear X; clear hb) | (clear T0; go_at_call 13; have T1 : Sec True := ⟨trivial⟩; refine (caTerm_c _ _ x.a x.a ok ok' _ (Kd.V_below H1.out B0.out (by decide)) (Kd.V_below G1.out B0.out (by decide))).mono ?_; rw [same_]; rintro e w1 ⟨rfl, hb⟩; have B1 := Sec.mk (bel B0.out hb); have P1 := Sec.mk ((hb.block _ (Array.getElem?_eq_some_iff.1 P0.out).1).trans P0.out); have X := (box_at P1.out).2.1; have p1_0 := X 0 _ rfl; have p1_1 := X 1 _ rfl; have p1_2 := X 2 _ rfl; have p1_3 := X 3 _ rfl; clear X; have Q1 := Sec.mk ((hb.block _ (Array.getElem?_eq_some_iff.1 Q0.out).1).trans Q0.out); have X := (box_at Q1.out).2.1; have q1_0 := X 0 _ rfl; have q1_1 := X 1 _ rfl; have q1_2 := X 2 _ rfl; have q1_3 := X 3 _ rfl; clear X; clear hb))
  go_ret
  exact ⟨rb (by simp), B3.out⟩
end
end Go.Proofs.YtgiobpggonceeaaGreatDoor
