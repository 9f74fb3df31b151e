/- Draws of terms: what comes is places, and never a panic. Conditions: the reader has been asked no more than a number of times; and what goes with it. -/
import Derived.Test.YtekiikmaaiekkaaGreatDoorNn2
import Derived.Test.YtekiikmaaiekkaaGreatDoorNn6
import Derived.Deep.DeepCutAuto
import Derived.Deep.CutBlock
namespace Go.Proofs.YtekiikmaaiekkaaGreatDoor
section
open Go.RowKit
set_option linter.unusedVariables false
set_option maxRecDepth 100000

theorem odd_c (w0 w : World) (g P : Nat) (n : Int) (hR : Rd w0 w g P) (hP : P ≤ 1000000000) (hn : 0 ≤ n) (hn2 : n ≤ 1000000000) :
    Calls Tryz.prog 122 #[.pointer (some ⟨g, 0, none⟩), .int .i64 n] w fun e w' => ∃ b : Bool, e = .returned (.bool b) ∧ Rd w0 w' g (P + 1) ∧ Only g w w' := by
  go_enter Tryz.func122, Tryz.ntmps122
  go_wp2_with (go_at_call 54; refine (pick_c w0 w g P n hR hP).mono ?_; rintro e w' ⟨r, rfl, hp, h1, h2⟩)
  go_ret
  exact ⟨_, rfl, h1, h2⟩

/-- A table of numbers that was just laid, read at a place that was picked. -/
theorem tab_int {w w' : World} {g b : Nat} {r : Int} (cs : Array Value) (xs : List Int) (hcs : cs = (xs.map (Value.int .i64)).toArray) (hb : w.heap[b]? = some (.cells cs 3 (0, 0))) (hg : b ≠ g) (ho : Only g w w') (h0 : 0 ≤ r) (h1 : r < xs.length) :
    ∃ v : Int, v ∈ xs ∧ w'.cell? ⟨b, r.toNat, none⟩ = some (.int .i64 v) := by
  subst hcs
  have hlt := (Array.getElem?_eq_some_iff.1 hb).1
  have hb' := (ho.block b hlt hg).trans hb
  have hr : r.toNat < xs.length := by omega
  refine ⟨xs[r.toNat], List.getElem_mem _, ?_⟩
  rw [cell_of_row w' b _ _ _ _ hb']
  simp [hr]
theorem tab_str {w w' : World} {g b : Nat} {r : Int} (cs : Array Value) (xs : List ByteArray) (hcs : cs = (xs.map Value.string).toArray) (hb : w.heap[b]? = some (.cells cs 9 (0, 0))) (hg : b ≠ g) (ho : Only g w w') (h0 : 0 ≤ r) (h1 : r < xs.length) :
    ∃ v : ByteArray, v ∈ xs ∧ w'.cell? ⟨b, r.toNat, none⟩ = some (.string v) := by
  subst hcs
  have hlt := (Array.getElem?_eq_some_iff.1 hb).1
  have hb' := (ho.block b hlt hg).trans hb
  have hr : r.toNat < xs.length := by omega
  refine ⟨xs[r.toNat], List.getElem_mem _, ?_⟩
  rw [cell_of_row w' b _ _ _ _ hb']
  simp [hr]

/-- A leaf: a place without arguments. -/
def Leaf (x : Cell) : Prop := x.name.size ≤ 8 ∧ (x.kind = 3 → x.n = 0) ∧ -9999 ≤ x.n ∧ x.n ≤ 9999
theorem leaf_mk {k n : Int} {s : ByteArray} (h1 : s.size ≤ 8) (h2 : k = 3 → n = 0) (h3 : -9999 ≤ n) (h4 : n ≤ 9999) : Leaf ⟨k, n, s⟩ := ⟨h1, h2, h3, h4⟩
/-- Three stores into a block of three cells. -/
theorem set3 {w : World} {b : Nat} {T : TypeId} {a0 a1 a2 : Value} (hb : w.heap[b]? = some (.cells #[a0, a1, a2] T (0, 0))) (x y z : Value) :
    (((w.setCell ⟨b, 0, none⟩ x).setCell ⟨b, 1, none⟩ y).setCell ⟨b, 2, none⟩ z).heap[b]? = some (.cells #[x, y, z] T (0, 0)) := by
  have h1 : (w.setCell ⟨b, 0, none⟩ x).heap[b]? = some (.cells #[x, a1, a2] T (0, 0)) := by simp only [World.setCell, Array.getElem?_modify, hb]; simp
  have h2 : ((w.setCell ⟨b, 0, none⟩ x).setCell ⟨b, 1, none⟩ y).heap[b]? = some (.cells #[x, y, a2] T (0, 0)) := by
    generalize w.setCell ⟨b, 0, none⟩ x = v at *
    simp only [World.setCell, Array.getElem?_modify, h1]; simp
  generalize (w.setCell ⟨b, 0, none⟩ x).setCell ⟨b, 1, none⟩ y = v at *
  simp only [World.setCell, Array.getElem?_modify, h2]; simp
/-- The cells of a block of three. -/
theorem cells3 {w : World} {b : Nat} {T : TypeId} {a0 a1 a2 : Value} (hb : w.heap[b]? = some (.cells #[a0, a1, a2] T (0, 0))) :
    w.cell? ⟨b, 0, none⟩ = some a0 ∧ w.cell? ⟨b, 1, none⟩ = some a1 ∧ w.cell? ⟨b, 2, none⟩ = some a2 ∧ (∀ j, w.frozen? ⟨b, j, none⟩ = false) :=
  ⟨cell_of_row w b 0 _ _ _ hb, cell_of_row w b 1 _ _ _ hb, cell_of_row w b 2 _ _ _ hb, fun j => by simp [World.frozen?, hb]⟩

theorem leaf_c (w0 w : World) (g P : Nat) (vars : Int) (hR : Rd w0 w g P) (hP : P ≤ 999999990) (hv : vars ≤ 9999) :
    Calls Tryz.prog 200 #[.pointer (some ⟨g, 0, none⟩), .int .i64 vars] w fun e w' => ∃ x : Cell, e = .returned (.agg #[.int .i64 x.kind, .int .i64 x.n, .string x.name]) ∧ Leaf x ∧ Rd w0 w' g (P + 2) ∧ Only g w w' := by
  have hu := Tryz.underlying84
  have H0 := Sec.mk hR
  have hlt := hR.lt
  have hge := hR.ge
  have hB0 : w0.heap.size ≤ w.heap.size := hR.bel.size
  clear hR
  go_enter Tryz.func200, Tryz.ntmps200
  go_wp2_with fail
  refine (pick_c w0 _ g P 4 (H0.out.below (belA (Below.refl _ _) _)) (by omega)).mono ?_
  rintro e w1 ⟨r, rfl, ⟨p0, p1, _⟩, hR1, hO1⟩
  have hb0 := Sec.mk (hO1.blk (heap_alloc_new w _) (by omega))
  have hO1 := Sec.mk (((Only.refl g w).alloc _).trans hO1)
  have hR1 := Sec.mk hR1
  have p2 := p1 (by omega)
  clear p1
  have hsz : w.heap.size < w1.heap.size := (Array.getElem?_eq_some_iff.1 hb0.out).1
  have fin : ∀ (w2 : World) (k n : Int) (s : ByteArray), Rd w0 w2 g (P + 2) → Only g w w2 → w2.heap[w.heap.size]? = some (.cells #[.int .i64 0, .int .i64 0, .string ⟨#[]⟩] 84 (0, 0)) → Leaf ⟨k, n, s⟩ →
      (∃ x : Cell, Ending.returned (.agg #[.int .i64 k, .int .i64 n, .string s]) = .returned (.agg #[.int .i64 x.kind, .int .i64 x.n, .string x.name]) ∧ Leaf x ∧ Rd w0 (((w2.setCell ⟨w.heap.size, 0, none⟩ (.int .i64 k)).setCell ⟨w.heap.size, 1, none⟩ (.int .i64 n)).setCell ⟨w.heap.size, 2, none⟩ (.string s)) g (P + 2) ∧
        Only g w (((w2.setCell ⟨w.heap.size, 0, none⟩ (.int .i64 k)).setCell ⟨w.heap.size, 1, none⟩ (.int .i64 n)).setCell ⟨w.heap.size, 2, none⟩ (.string s))) := fun w2 k n s h1 h2 h3 h4 =>
    ⟨⟨k, n, s⟩, rfl, h4, ((h1.set (by omega) hB0 _ _).set (by omega) hB0 _ _).set (by omega) hB0 _ _, ((h2.setNew (Nat.le_refl _) _ _).setNew (Nat.le_refl _) _ _).setNew (Nat.le_refl _) _ _⟩
  have FIN := Sec.mk fin
  clear fin
  rcases (by omega : r = 0 ∨ r = 1 ∨ r = 2 ∨ r = 3) with rfl | rfl | rfl | rfl
  iterate 2
    · go_wp2_with fail
      refine (pick_c w0 _ g (P + 1) vars hR1.out (by omega)).mono ?_
      rintro e w2 ⟨r, rfl, ⟨q0, q1, q2⟩, hR2, hO2⟩
      have hlf : Leaf ⟨1, r, ⟨#[]⟩⟩ := leaf_mk (by decide) (fun h => by cases h) (by omega) (by
        by_cases h : 1 ≤ vars
        · have := q1 h; omega
        · rw [q2 (by omega)]; decide)
      have hb := hO2.blk hb0.out (by omega)
      have F := Sec.mk (FIN.out w2 1 r ⟨#[]⟩ hR2 (hO1.out.trans hO2) hb hlf)
      obtain ⟨k0, k1, k2, kf⟩ := cells3 hb
      obtain ⟨j0, j1, j2, _⟩ := cells3 (set3 hb (.int .i64 1) (.int .i64 r) (.string ⟨#[]⟩))
      have J0 := Sec.mk j0
      have J1 := Sec.mk j1
      have J2 := Sec.mk j2
      clear hO2 hb hb0 hlf hR2 q1 q2 j0 j1 j2
      go_wp2_with fail
      exact bodyPost_ret (v := .agg #[.int .i64 1, .int .i64 r, .string ⟨#[]⟩]) (by simp [results, Tryz.results200, go_sem, J0.out, J1.out, J2.out]) rfl F.out
  · go_wp2_with fail
    have ht := heap_alloc_new w1 (.cells #[.int .i64 0, .int .i64 1, .int .i64 2, .int .i64 (-1), .int .i64 7, .int .i64 9999] 3)
    have Ht := Sec.mk ht
    clear ht
    refine (pick_c w0 _ g (P + 1) 6 (hR1.out.below (belA (Below.refl _ _) _)) (by omega)).mono ?_
    rintro e w2 ⟨r, rfl, ⟨q0, q1, _⟩, hR2, hO2⟩
    have q2 := q1 (by omega)
    obtain ⟨v, hv, ct⟩ := tab_int _ [0, 1, 2, -1, 7, 9999] rfl Ht.out (by omega) hO2 q0 q2
    have hlf : Leaf ⟨2, v, ⟨#[]⟩⟩ := leaf_mk (by decide) (fun h => by cases h) (by simp at hv; omega) (by simp at hv; omega)
    have hb := hO2.blk ((belA (Below.refl _ _) _ : Below w1.heap.size w1 _).block _ hsz |>.trans hb0.out) (by omega)
    have F := Sec.mk (FIN.out w2 2 v ⟨#[]⟩ hR2 (((hO1.out).alloc _).trans hO2) hb hlf)
    obtain ⟨k0, k1, k2, kf⟩ := cells3 hb
    obtain ⟨j0, j1, j2, _⟩ := cells3 (set3 hb (.int .i64 2) (.int .i64 v) (.string ⟨#[]⟩))
    have J0 := Sec.mk j0
    have J1 := Sec.mk j1
    have J2 := Sec.mk j2
    clear hO2 hb hb0 hlf hR2 q1 j0 j1 j2 hv
    go_wp2_with fail
    exact bodyPost_ret (v := .agg #[.int .i64 2, .int .i64 v, .string ⟨#[]⟩]) (by simp [results, Tryz.results200, go_sem, J0.out, J1.out, J2.out]) rfl F.out
  · go_wp2_with fail
    have Ht := Sec.mk (heap_alloc_new w1 (.cells #[.string ⟨#[97]⟩, .string ⟨#[98]⟩, .string ⟨#[99]⟩, .string ⟨#[110, 105, 108]⟩] 9))
    refine (pick_c w0 _ g (P + 1) 4 (hR1.out.below (belA (Below.refl _ _) _)) (by omega)).mono ?_
    rintro e w2 ⟨r, rfl, ⟨q0, q1, _⟩, hR2, hO2⟩
    have q2 := q1 (by omega)
    obtain ⟨v, hv, ct⟩ := tab_str _ [⟨#[97]⟩, ⟨#[98]⟩, ⟨#[99]⟩, ⟨#[110, 105, 108]⟩] rfl Ht.out (by omega) hO2 q0 q2
    have hlf : Leaf ⟨3, 0, v⟩ := leaf_mk (by simp at hv; rcases hv with rfl | rfl | rfl | rfl <;> decide) (fun _ => rfl) (by decide) (by decide)
    have hb := hO2.blk ((belA (Below.refl _ _) _ : Below w1.heap.size w1 _).block _ hsz |>.trans hb0.out) (by omega)
    have F := Sec.mk (FIN.out w2 3 0 v hR2 (((hO1.out).alloc _).trans hO2) hb hlf)
    obtain ⟨k0, k1, k2, kf⟩ := cells3 hb
    obtain ⟨j0, j1, j2, _⟩ := cells3 (set3 hb (.int .i64 3) (.int .i64 0) (.string v))
    have J0 := Sec.mk j0
    have J1 := Sec.mk j1
    have J2 := Sec.mk j2
    clear hO2 hb hb0 hlf hR2 q1 j0 j1 j2 hv
    go_wp2_with fail
    exact bodyPost_ret (v := .agg #[.int .i64 3, .int .i64 0, .string v]) (by simp [results, Tryz.results200, go_sem, J0.out, J1.out, J2.out]) rfl F.out

/-- A slice's length. -/
def lenOf : Value → Nat | .slice _ n _ => n | _ => 0
theorem lenOf_R {α : Type} {d : Kd α} {w : World} {S : Nat → Prop} {v : Value} {xs : List α} (h : d.R w S v xs) : lenOf v = xs.length := by
  obtain ⟨A, c, rfl, _⟩ := Kd.R_form h
  rfl
/-- Places that were drawn: there is one, and each has no long name. -/
def Drawn (t : Term) : Prop := ∀ x ∈ t, x.name.size ≤ 8 ∧ -99999 ≤ x.n ∧ x.n ≤ 99999

def TermOut (w0 w : World) (g P : Nat) (e : Ending) (w' : World) : Prop := ∃ u t, e = .returned u ∧ kCell.R w' (fun k => w.heap.size ≤ k) u t ∧ t ≠ [] ∧ t.length ≤ 40 ∧ Drawn t ∧ Rd w0 w' g (P + 300) ∧ Only g w w'

/-- What holds in the middle of a round: the places so far, and the place that was drawn, in a box. -/
structure FX (w0 w : World) (g P M : Nat) (A : Option Addr) (cp b : Nat) (t : Term) (m : Nat) (x : Cell) (wr : World) : Prop where
  row : kCell.R wr (fun k => w.heap.size ≤ k ∧ k ≠ b) (.slice A t.length cp) t
  rd : Rd w0 wr g P
  only : Only g w wr
  box : wr.heap[b]? = some (.cells #[.int .i64 x.kind, .int .i64 x.n, .string x.name] 84 (0, 0))
  ge : w.heap.size ≤ b
  nm : x.name.size ≤ 8
  lo : -9999 ≤ x.n
  hi : x.n ≤ 9999
  arg : x.kind = 3 → 0 ≤ x.n ∧ t.length + 1 + m + x.n ≤ M

theorem term_c (w0 w : World) (g P most_ : Nat) (vars : Int) (hR : Rd w0 w g P) (hP : P ≤ 999999000) (hv : vars ≤ 9999) (hm : most_ ≤ 40) :
    Calls Tryz.prog 137 #[.pointer (some ⟨g, 0, none⟩), .int .i64 most_, .int .i64 vars] w (TermOut w0 w g P) := by
  have hu := Tryz.underlying84
  have H0 := Sec.mk hR
  have hlt := hR.lt
  have hge := hR.ge
  have hB0 : w0.heap.size ≤ w.heap.size := hR.bel.size
  clear hR
  go_enter Tryz.func137, Tryz.ntmps137
  go_wp2
  go_loopw [7, 8] (fun v o wr => ∃ (m : Nat) (t : Term), o = .int .i64 m ∧ t.length + m ≤ max 1 most_ ∧ (m = 0 → 0 < t.length) ∧ Sec (kCell.R wr (fun k => w.heap.size ≤ k) v t ∧ Drawn t ∧ Rd w0 wr g (P + 6 * t.length) ∧ Only g w wr)) (fun v _ _ => 41 - (lenOf v))
  case atStart => exact ⟨1, [], rfl, by simp; omega, by omega, ⟨Kd.R_empty kCell (Nat.le_refl _), by simp [Drawn], H0.out.below (belA (Below.refl _ _) _), (Only.refl _ _).alloc _⟩⟩
  case round =>
    obtain ⟨m, t, rfl, hl, hne, ⟨hR, hD, hd, hO⟩⟩ := hrel
    have HR := Sec.mk hR
    have HD := Sec.mk hD
    have Hd := Sec.mk hd
    have HO := Sec.mk hO
    clear hR hD hd hO
    have hsz := HO.out.size
    have hl1 : max 1 most_ ≤ 40 := by omega
    cases m with
    | zero =>
      go_wp2
      go_ret
      exact ⟨_, t, rfl, HR.out, fun e => by subst e; simp at hne, by omega, HD.out, Hd.out.mono (by omega), HO.out⟩
    | succ m =>
      go_wp2_with fail
      refine (leaf_c w0 _ g _ vars Hd.out (by omega) hv).mono ?_
      rintro e w1 ⟨x, rfl, hx, hR1, hO1⟩
      obtain ⟨A, cp, hv1, _, _⟩ := Kd.R_form HR.out
      subst hv1
      have F0 := Sec.mk (show FX w0 w g (P + 6 * t.length + 2) (max 1 most_) A cp w1.heap.size t m x (w1.alloc (.cells #[.int .i64 x.kind, .int .i64 x.n, .string x.name] 84)) from
        ⟨Kd.R_below (Kd.R_mono (Kd.R_move (hO1.keeps (ok := fun k => w.heap.size ≤ k) (by omega)) HR.out) (fun k h1 h2 => ⟨h1, by omega⟩)) (belA (Below.refl _ _) _), hR1.below (belA (Below.refl _ _) _), (HO.out.trans hO1).alloc _, heap_alloc_new w1 _, by have := hO1.size; omega, hx.1, hx.2.2.1, hx.2.2.2, fun h => by have := hx.2.1 h; omega⟩)
      clear hR1 hO1 hx
      go_upto_region 5 with (fail)
      generalize w1.alloc (.cells #[.int .i64 x.kind, .int .i64 x.n, .string x.name] 84) = w2 at *
      generalize w1.heap.size = b at *
      go_cut [27] (fun v wc => ∃ q : Bool, v = .bool q ∧ (q = true → (t.length : Int) + (m + 1) + 3 < most_) ∧ Sec (FX w0 w g (P + 6 * t.length + 3) (max 1 most_) A cp b t m x wc))
      case first =>
        obtain ⟨k0, k1, k2, kf⟩ := cells3 F0.out.box
        have hgb := F0.out.ge
        by_cases ht : (t.length : Int) + (m + 1) + 3 < most_
        · have ht1 : decide ((t.length : Int) + (m + 1) + 3 < most_) = true := decide_eq_true ht
          go_wp2_with fail
          refine (pick_c w0 _ g _ 3 F0.out.rd (by omega)).mono ?_
          rintro e w3 ⟨r, rfl, ⟨q0, q1, _⟩, hR3, hO3⟩
          have F1 := Sec.mk (show FX w0 w g (P + 6 * t.length + 3) (max 1 most_) A cp b t m x w3 from
            ⟨Kd.R_move (hO3.keeps (ok := fun k => w.heap.size ≤ k ∧ k ≠ b) (by omega)) F0.out.row, hR3, F0.out.only.trans hO3, hO3.blk F0.out.box (by omega), hgb, F0.out.nm, F0.out.lo, F0.out.hi, F0.out.arg⟩)
          clear hO3 hR3 q1 k0 k1 k2 kf
          go_wp2_with fail
          go_meet
          case rel => exact ⟨_, rfl, fun _ => ht, F1⟩
        · have ht1 : decide ((t.length : Int) + (m + 1) + 3 < most_) = false := decide_eq_false ht
          go_wp2_with fail
          go_meet
          case rel => exact ⟨false, rfl, fun h => (by cases h), ⟨F0.out.row, F0.out.rd.mono (by omega), F0.out.only, F0.out.box, F0.out.ge, F0.out.nm, F0.out.lo, F0.out.hi, F0.out.arg⟩⟩
      case rest =>
      obtain ⟨q, rfl, hq, F1⟩ := hcut
      clear F0
      generalize wc = w3 at *
      go_upto_if 27 with (fail)
      go_cut [] (fun wc => ∃ x' : Cell, Sec (FX w0 w g (P + 6 * t.length + 5) (max 1 most_) A cp b t m x' wc))
      case first =>
        cases q with
        | false =>
          go_wp2_with fail
          go_meet
          case rel => exact ⟨x, ⟨F1.out.row, F1.out.rd.mono (by omega), F1.out.only, F1.out.box, F1.out.ge, F1.out.nm, F1.out.lo, F1.out.hi, F1.out.arg⟩⟩
        | true =>
          have ht := hq rfl
          have hgb := F1.out.ge
          go_wp2_with fail
          refine (pick_c w0 _ g _ 3 F1.out.rd (by omega)).mono ?_
          rintro e w4 ⟨r1, rfl, ⟨q0, q1, _⟩, hR4, hO4⟩
          have q3 := q1 (by omega)
          have hbx4 := Sec.mk (hO4.blk F1.out.box (by omega))
          have hR4' := Sec.mk hR4
          have hrow4 := Sec.mk (Kd.R_move (hO4.keeps (ok := fun k => w.heap.size ≤ k ∧ k ≠ b) (by omega)) F1.out.row)
          have hO4' := Sec.mk (F1.out.only.trans hO4)
          have hz4 : b < w4.heap.size := (Array.getElem?_eq_some_iff.1 hbx4.out).1
          clear hO4 hR4 q1
          go_wp2_with fail
          have Ht := Sec.mk (heap_alloc_new w4 (.cells #[.string ⟨#[102]⟩, .string ⟨#[103]⟩, .string ⟨#[99]⟩, .string ⟨#[115]⟩] 9))
          refine (pick_c w0 _ g (P + 6 * t.length + 3 + 1) 4 (hR4'.out.below (belA (Below.refl _ _) _)) (by omega)).mono ?_
          rintro e w5 ⟨r2, rfl, ⟨s0, s1, _⟩, hR5, hO5⟩
          have s2 := s1 (by omega)
          obtain ⟨v, hv, ct⟩ := tab_str _ [⟨#[102]⟩, ⟨#[103]⟩, ⟨#[99]⟩, ⟨#[115]⟩] rfl Ht.out (by omega) hO5 s0 s2
          have hvn : Sec (v.size ≤ 8) := ⟨by simp at hv; rcases hv with rfl | rfl | rfl | rfl <;> decide⟩
          have hb5 := hO5.blk ((belA (Below.refl _ _) _ : Below w4.heap.size w4 _).block _ hz4 |>.trans hbx4.out) (by omega)
          obtain ⟨k0, k1, k2, kf⟩ := cells3 hb5
          have F2 := Sec.mk (show FX w0 w g (P + 6 * t.length + 5) (max 1 most_) A cp b t m ⟨3, 1 + r1, v⟩ (((w5.setCell ⟨b, 0, none⟩ (.int .i64 3)).setCell ⟨b, 1, none⟩ (.int .i64 (1 + r1))).setCell ⟨b, 2, none⟩ (.string v)) from by
            have hrow5 := Kd.R_move (hO5.keeps (ok := fun k => w.heap.size ≤ k ∧ k ≠ b) (by omega)) (Kd.R_below hrow4.out (belA (Below.refl _ _) _))
            have far : ∀ (W : World) (i : Nat) (u : Value), Keeps W (W.setCell ⟨b, i, none⟩ u) (fun k => w.heap.size ≤ k ∧ k ≠ b) (fun k => w.heap.size ≤ k ∧ k ≠ b) := fun W i u k hk _ => ⟨hk, Below.heap_setCell _ _ _ _ hk.2⟩
            refine ⟨Kd.R_move (far _ _ _) (Kd.R_move (far _ _ _) (Kd.R_move (far _ _ _) hrow5)), ((hR5.set (by omega) (by omega) _ _).set (by omega) (by omega) _ _).set (by omega) (by omega) _ _, ((((hO4'.out.alloc _).trans hO5).setNew hgb _ _).setNew hgb _ _).setNew hgb _ _, set3 hb5 _ _ _, hgb, hvn.out, by show -9999 ≤ 1 + r1; omega, by show 1 + r1 ≤ 9999; omega, fun _ => ⟨by show 0 ≤ 1 + r1; omega, by show (t.length : Int) + 1 + m + (1 + r1) ≤ _; omega⟩⟩)
          have hz5 : b < w5.heap.size := (Array.getElem?_eq_some_iff.1 hb5).1
          clear hO5 hR5 s1 hb5 hv
          go_wp2_with fail
          go_meet
          case rel => exact ⟨_, F2⟩
      case rest =>
        obtain ⟨y, hy⟩ := hcut
        obtain ⟨k0, k1, k2, kf⟩ := cells3 hy.out.box
        have hnm : y.name.size ≤ 1073741824 := by have := hy.out.nm; omega
        have hgb := hy.out.ge
        have hbl : b < wc.heap.size := (Array.getElem?_eq_some_iff.1 hy.out.box).1
        have hge' : w.heap.size ≤ wc.heap.size := hy.out.only.size
        have hDr : Sec (Drawn (t ++ [y])) := ⟨fun z hz => by
          rcases List.mem_append.1 hz with h | h
          · exact HD.out z h
          · rw [List.mem_singleton.1 h]; exact ⟨hy.out.nm, by have := hy.out.lo; omega, by have := hy.out.hi; omega⟩⟩
        clear HR HO Hd
        by_cases hk : y.kind = 3
        · have hk' : (y.kind == 3) = true := beq_iff_eq.2 hk
          obtain ⟨a1, a2⟩ := hy.out.arg hk
          have hmn : Sec ((m : Int) + 1 - 1 + y.n = ((m + y.n.toNat : Nat) : Int)) := ⟨by omega⟩
          clear hk
          go_wp2_with (at_builtin; refine Kd.R_appG kCell (B := w.heap.size) rfl (.tmp 46) (.tmp 48) 24 (.agg #[.int .i64 0, .int .i64 0, .string ⟨#[]⟩]) 32 rfl Tryz.underlying24 info_cell rfl (by decide) (by decide) _ _ y [.int .i64 y.kind, .int .i64 y.n, .string y.name] rfl rfl (by simp) (Kd.R_mono hy.out.row (fun k h1 _ => h1.1)) hge' (kCell_none _ _ hnm) (by omega) ?_; intro v1 w9 hR9 hg9 hr9; have HR9 := Sec.mk hR9; have HL9 := Sec.mk (lenOf_R hR9); have HO9 := Sec.mk (hy.out.only.grown hg9 hr9); have HD9 := Sec.mk (hy.out.rd.grown hg9 (fun k e => ⟨by have := hr9 k e; omega, by have := hr9 k e; omega⟩)); clear hR9 hg9 hr9)
          go_roundw
          case rel => exact ⟨m + y.n.toNat, t ++ [y], by rw [← hmn.out]; go_num, by simp; omega, fun _ => by simp, HR9.out, hDr.out, HD9.out.mono (by simp; omega), HO9.out⟩
          case measure => have h9 := HL9.out; rw [List.length_append] at h9; show 41 - lenOf _ < 41 - lenOf _; rw [h9]; simp only [lenOf, List.length_singleton]; omega
        · have hk' : (y.kind == 3) = false := beq_eq_false_iff_ne.2 hk
          clear hk
          go_wp2_with (at_builtin; refine Kd.R_appG kCell (B := w.heap.size) rfl (.tmp 46) (.tmp 48) 24 (.agg #[.int .i64 0, .int .i64 0, .string ⟨#[]⟩]) 32 rfl Tryz.underlying24 info_cell rfl (by decide) (by decide) _ _ y [.int .i64 y.kind, .int .i64 y.n, .string y.name] rfl rfl (by simp) (Kd.R_mono hy.out.row (fun k h1 _ => h1.1)) hge' (kCell_none _ _ hnm) (by omega) ?_; intro v1 w9 hR9 hg9 hr9; have HR9 := Sec.mk hR9; have HL9 := Sec.mk (lenOf_R hR9); have HO9 := Sec.mk (hy.out.only.grown hg9 hr9); have HD9 := Sec.mk (hy.out.rd.grown hg9 (fun k e => ⟨by have := hr9 k e; omega, by have := hr9 k e; omega⟩)); clear hR9 hg9 hr9)
          go_roundw
          case rel => exact ⟨m, t ++ [y], by go_num, by simp; omega, fun _ => by simp, HR9.out, hDr.out, HD9.out.mono (by simp; omega), HO9.out⟩
          case measure => have h9 := HL9.out; rw [List.length_append] at h9; show 41 - lenOf _ < 41 - lenOf _; rw [h9]; simp only [lenOf, List.length_singleton]; omega
end
end Go.Proofs.YtekiikmaaiekkaaGreatDoor
