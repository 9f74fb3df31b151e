/- The reader of draws: what holds of it, and its pick. Condition: it has been asked no more than a number of times; and what goes with it. -/
import Derived.Test.YtgiobpggonceeaaGreatDoorSn1
import Derived.Test.YtgiobpggonceeaaGreatDoorSn3
import Derived.Test.YtgiobpggonceeaaGreatDoorSn5
import Derived.Outline
import Derived.KernelRfl
import Derived.WalkLawsBesides
import Derived.Deep.LoopGhost
import Derived.Deep.QuietTactic
import Derived.BigQuiet
import Derived.Laws.Bits64
import Derived.Deep.DeepCutAuto
import Derived.Deep.CutBlock
import Derived.Deep.RegionHeld3
import Derived.Deep.RegionWith
namespace Go.Proofs.YtgiobpggonceeaaGreatDoor
section
open Go.RowKit
set_option linter.unusedVariables false
set_option maxRecDepth 100000

/-- Only block g of what was there has turned. -/
structure Only (g : Nat) (w w' : World) : Prop where
  os : w'.os = w.os
  tape : w'.tape = w.tape
  output : w'.output = w.output
  size : w.heap.size ≤ w'.heap.size
  block : ∀ k, k < w.heap.size → k ≠ g → w'.heap[k]? = w.heap[k]?
theorem Only.refl (g : Nat) (w : World) : Only g w w := ⟨rfl, rfl, rfl, Nat.le_refl _, fun _ _ _ => rfl⟩
theorem Only.of_below {g : Nat} {w w' : World} (h : Below w.heap.size w w') : Only g w w' := ⟨h.os, h.tape, h.output, h.size, fun k hk _ => h.block k hk⟩
theorem Only.trans {g : Nat} {a b c : World} (h : Only g a b) (k : Only g b c) : Only g a c :=
  ⟨k.os.trans h.os, k.tape.trans h.tape, k.output.trans h.output, Nat.le_trans h.size k.size, fun i hi hg => (k.block i (Nat.lt_of_lt_of_le hi h.size) hg).trans (h.block i hi hg)⟩
theorem Only.alloc {g : Nat} {a b : World} (h : Only g a b) (o : Obj) : Only g a (b.alloc o) := h.trans (Only.of_below (belA (Below.refl _ _) o))
theorem Only.drew {g : Nat} {a b : World} (h : Only g a b) : Only g a b.drew := ⟨h.os, h.tape, h.output, h.size, h.block⟩
theorem Only.set {g : Nat} {a b : World} (h : Only g a b) (i : Nat) (u : Value) : Only g a (b.setCell ⟨g, i, none⟩ u) :=
  h.trans ⟨rfl, rfl, rfl, by simp [World.setCell], fun k _ hk => Below.heap_setCell _ _ _ _ hk⟩
theorem Only.keeps {g : Nat} {w w' : World} (h : Only g w w') {ok : Nat → Prop} (hg : ¬ ok g) : Keeps w w' ok ok := fun k hk hl => ⟨hk, h.block k hl (fun e => hg (e ▸ hk))⟩
theorem Only.below {g : Nat} {w0 w w' : World} (h : Only g w w') (hb : Below w0.heap.size w0 w) (hg : w0.heap.size ≤ g) : Below w0.heap.size w0 w' :=
  hb.trans ⟨h.os, h.tape, h.output, h.size, fun k hk => h.block k (Nat.lt_of_lt_of_le hk hb.size) (by omega)⟩

/-- The reader in block g: made behind w0, asked at most P times. -/
structure Rd (w0 w : World) (g P : Nat) : Prop where
  is : ∃ (A : Option Addr) (c p : Nat) (bs : List UInt8), w.heap[g]? = some (.cells #[.slice A bs.length c, .int .i64 p] 168 (0, 0)) ∧ p ≤ P ∧ bs.length ≤ 2000 ∧ kByte.C w0 (fun _ => True) A bs
  bel : Below w0.heap.size w0 w
  ge : w0.heap.size ≤ g
theorem Rd.lt {w0 w : World} {g P : Nat} (h : Rd w0 w g P) : g < w.heap.size := by
  obtain ⟨A, c, p, bs, h1, _⟩ := h.is
  exact (Array.getElem?_eq_some_iff.1 h1).1
theorem Rd.mono {w0 w : World} {g P P' : Nat} (h : Rd w0 w g P) (hP : P ≤ P') : Rd w0 w g P' := by
  obtain ⟨A, c, p, bs, h1, h2, h3⟩ := h.is
  exact ⟨⟨A, c, p, bs, h1, Nat.le_trans h2 hP, h3⟩, h.bel, h.ge⟩
theorem Rd.below {w0 w w' : World} {g P : Nat} (h : Rd w0 w g P) (hb : Below w.heap.size w w') : Rd w0 w' g P := by
  obtain ⟨A, c, p, bs, h1, h2⟩ := h.is
  exact ⟨⟨A, c, p, bs, (hb.block g h.lt).trans h1, h2⟩, Go.Proofs.YtgiobpggonceeaaGreatDoor.bel h.bel hb, h.ge⟩

theorem Only.setNew {g b : Nat} {w w' : World} (h : Only g w w') (hb : w.heap.size ≤ b) (i : Nat) (u : Value) : Only g w (w'.setCell ⟨b, i, none⟩ u) :=
  ⟨h.os, h.tape, h.output, by have := h.size; simpa [World.setCell] using this, fun k hk hg => (Below.heap_setCell _ _ _ _ (by show k ≠ b; omega)).trans (h.block k hk hg)⟩
theorem Rd.set {w0 w : World} {g P b : Nat} (h : Rd w0 w g P) (hb : b ≠ g) (h0 : w0.heap.size ≤ b) (i : Nat) (u : Value) : Rd w0 (w.setCell ⟨b, i, none⟩ u) g P := by
  obtain ⟨A, c, p, bs, h1, h2⟩ := h.is
  exact ⟨⟨A, c, p, bs, (Below.heap_setCell _ _ _ _ (by show g ≠ b; omega)).trans h1, h2⟩, h.bel.setCell (p := ⟨b, i, none⟩) h0 u, h.ge⟩
/-- A block of one's own, not g, whole. -/
theorem Only.blk {g b : Nat} {w w' : World} {o : Obj} (h : Only g w w') (hb : w.heap[b]? = some o) (hg : b ≠ g) : w'.heap[b]? = some o :=
  (h.block b (Array.getElem?_eq_some_iff.1 hb).1 hg).trans hb
theorem Only.grown {g : Nat} {w w1 w2 : World} {row : Option Nat} (h : Only g w w1) (hg : w1.grownBy w2 row) (hr : ∀ k, row = some k → w.heap.size ≤ k) : Only g w w2 :=
  ⟨hg.os.trans h.os, hg.tape.trans h.tape, hg.output.trans h.output, Nat.le_trans h.size hg.size, fun k hk hne => (hg.block k (Nat.lt_of_lt_of_le hk h.size) (fun e => by have := hr k e.symm; omega)).trans (h.block k hk hne)⟩
theorem Rd.grown {w0 w w1 : World} {g P : Nat} {row : Option Nat} (h : Rd w0 w g P) (hg : w.grownBy w1 row) (hr : ∀ k, row = some k → w0.heap.size ≤ k ∧ k ≠ g) : Rd w0 w1 g P := by
  obtain ⟨A, c, p, bs, h1, h2⟩ := h.is
  exact ⟨⟨A, c, p, bs, (hg.block g h.lt (fun e => (hr g e.symm).2 rfl)).trans h1, h2⟩, h.bel.grown hg h.bel.size (fun k e => (hr k e).1), h.ge⟩
theorem bits_xor_i64 (a b : Int) (h1 : 0 ≤ a) (h2 : a < 4611686018427387904) (h3 : 0 ≤ b) (h4 : b < 4611686018427387904) : 0 ≤ bits .xor .i64 a b ∧ bits .xor .i64 a b < 4611686018427387904 := by
  obtain ⟨a, rfl⟩ := Int.eq_ofNat_of_zero_le h1
  obtain ⟨b, rfl⟩ := Int.eq_ofNat_of_zero_le h3
  have hx : a ^^^ b < 2 ^ 62 := Nat.xor_lt_two_pow (by omega) (by omega)
  have e1 : (BitVec.ofInt 64 (a : Int)).toNat = a := by
    rw [BitVec.ofInt_natCast, BitVec.toNat_ofNat]; exact Nat.mod_eq_of_lt (by omega)
  have e2 : (BitVec.ofInt 64 (b : Int)).toNat = b := by
    rw [BitVec.ofInt_natCast, BitVec.toNat_ofNat]; exact Nat.mod_eq_of_lt (by omega)
  have e : bits .xor .i64 (a : Int) (b : Int) = ((a ^^^ b : Nat) : Int) := by
    show IntKind.i64.wrap ((BitVec.ofInt 64 (a : Int) ^^^ BitVec.ofInt 64 (b : Int)).toNat : Int) = _
    rw [BitVec.toNat_xor, e1, e2, IntKind.wrap_i64]
    omega
  rw [e]; omega

/-- A number that was picked. -/
def Picked (n r : Int) : Prop := 0 ≤ r ∧ (1 ≤ n → r < n) ∧ (n < 1 → r = 0)
theorem picked_zero (n : Int) : Picked n 0 := ⟨by omega, fun h => by omega, fun _ => rfl⟩
theorem picked_mod {n x : Int} (h : ¬ n < 1) (hx : 0 ≤ x) : Picked n (x % n) := ⟨Int.emod_nonneg _ (by omega), fun _ => Int.emod_lt_of_pos _ (by omega), fun h2 => absurd h2 h⟩

theorem w64 {x : Int} (h1 : 0 ≤ x) (h2 : x < 4611686018427387904) : wrap64 x = x := by unfold wrap64; omega
theorem pick_fin (y1 y2 p len : Nat) (n : Int) (hn : ¬ n < 1) (hl : 0 < len) (hp : p ≤ 1000000000) (h1 : y1 < 256) (h2 : y2 < 256) :
    Picked n ((bits BinOp.xor IntKind.i64 (wrap64 (↑y1 * 131 + ↑y2 * 1117 + ↑p * 29 + wrap64 (wrap64 ((p : Int) / (len : Int)) * 53))) (wrap64 ((wrap64 (↑y1 * 131 + ↑y2 * 1117 + ↑p * 29 + wrap64 (wrap64 ((p : Int) / (len : Int)) * 53))).tdiv 64))).tmod n) := by
  have m : 0 ≤ (p : Int) / len ∧ (p : Int) / len ≤ p := ⟨Int.ediv_nonneg (by omega) (by omega), Int.ediv_le_self _ (by omega)⟩
  generalize (p : Int) / (len : Int) = z at *
  rw [w64 (x := z) (by omega) (by omega), w64 (x := z * 53) (by omega) (by omega)]
  have hX : 0 ≤ (y1 : Int) * 131 + y2 * 1117 + p * 29 + z * 53 ∧ (y1 : Int) * 131 + y2 * 1117 + p * 29 + z * 53 < 4000000000000 := by omega
  generalize (y1 : Int) * 131 + y2 * 1117 + p * 29 + z * 53 = X at *
  rw [w64 (x := X) (by omega) (by omega), Int.tdiv_eq_ediv_of_nonneg hX.1, w64 (x := X / 64) (by omega) (by omega)]
  have hX2 := bits_xor_i64 X (X / 64) hX.1 (by omega) (by omega) (by omega)
  rw [Int.tmod_eq_emod_of_nonneg hX2.1]
  exact picked_mod hn hX2.1
theorem pick_c (w0 w : World) (g P : Nat) (n : Int) (hR : Rd w0 w g P) (hP : P ≤ 1000000000) :
    Calls Tryz.prog 113 #[.pointer (some ⟨g, 0, none⟩), .int .i64 n] w fun e w' => ∃ r : Int, e = .returned (.int .i64 r) ∧ Picked n r ∧ Rd w0 w' g (P + 1) ∧ Only g w w' := by
  obtain ⟨A, c, p, bs, hg, hp, hl, hC⟩ := hR.is
  have hB := Sec.mk hR.bel
  have hG := hR.ge
  have hlt := hR.lt
  have hu := Tryz.underlying168
  have c0 : w.cell? ⟨g, 0, none⟩ = some (.slice A bs.length c) := by rw [cell_of_row w g 0 _ _ _ hg]; rfl
  have c1 : w.cell? ⟨g, 1, none⟩ = some (.int .i64 p) := by rw [cell_of_row w g 1 _ _ _ hg]; rfl
  have f1 : w.frozen? ⟨g, 1, none⟩ = false := by simp [World.frozen?, hg]
  have hfin : Sec (Rd w0 (w.setCell ⟨g, 1, none⟩ (.int .i64 ((p : Int) + 1))) g (P + 1)) := ⟨⟨⟨A, c, p + 1, bs, by
      have : (w.setCell ⟨g, 1, none⟩ (.int .i64 ((p : Int) + 1))).heap[g]? = some (.cells (#[.slice A bs.length c, .int .i64 p].setIfInBounds 1 (.int .i64 ((p : Int) + 1))) 168 (0, 0)) := by
        simp only [World.setCell, Array.getElem?_modify, hg]; simp
      rw [this]; rfl, by omega, hl, hC⟩, hB.out.setCell (p := ⟨g, 1, none⟩) hG _, hG⟩⟩
  have HC := Sec.mk (Kd.C_below hC hfin.out.bel (by decide))
  have hon : Sec (Only g w (w.setCell ⟨g, 1, none⟩ (.int .i64 ((p : Int) + 1)))) := ⟨(Only.refl _ _).set _ _⟩
  clear hR hg hC
  by_cases h1 : n < 1
  · go_enter Tryz.func113, Tryz.ntmps113
    go_wp2
    go_ret
    exact ⟨0, rfl, picked_zero _, hfin.out, hon.out⟩
  · by_cases h2 : bs = []
    · subst h2
      go_enter Tryz.func113, Tryz.ntmps113
      go_wp2
      go_ret
      exact ⟨0, rfl, picked_zero _, hfin.out, hon.out⟩
    · have h3 : 0 < bs.length := List.length_pos_iff.2 h2
      have h4 : ((bs.length : Int) == 0) = false := by rw [beq_eq_false_iff_ne]; omega
      have h6 : (n == 0) = false := by rw [beq_eq_false_iff_ne]; omega
      by_cases h5 : p < bs.length
      · obtain ⟨b, off, rfl, hob, cb⟩ := byte_at HC.out p h5
        have hbd : (bs[p].toNat : Int) < 256 := by have := bs[p].toNat_lt; omega
        go_enter Tryz.func113, Tryz.ntmps113
        go_wp2
        go_ret
        exact ⟨_, rfl, picked_mod (by omega) (by omega), hfin.out, hon.out⟩
      · have t1 : (p : Int).tmod bs.length = (p : Int) % bs.length := Int.tmod_eq_emod_of_nonneg (by omega)
        have t2 : ((p : Int) * 7 + 3).tmod bs.length = ((p : Int) * 7 + 3) % bs.length := Int.tmod_eq_emod_of_nonneg (by omega)
        have t3 : (p : Int).tdiv bs.length = (p : Int) / bs.length := Int.tdiv_eq_ediv_of_nonneg (by omega)
        have m1 : 0 ≤ (p : Int).tmod bs.length := by rw [t1]; exact Int.emod_nonneg _ (by omega)
        have m2 : (p : Int).tmod bs.length < bs.length := by rw [t1]; exact Int.emod_lt_of_pos _ (by omega)
        have m3 : 0 ≤ ((p : Int) * 7 + 3).tmod bs.length := by rw [t2]; exact Int.emod_nonneg _ (by omega)
        have m4 : ((p : Int) * 7 + 3).tmod bs.length < bs.length := by rw [t2]; exact Int.emod_lt_of_pos _ (by omega)
        have m5 : 0 ≤ (p : Int).tdiv bs.length ∧ (p : Int).tdiv bs.length ≤ p := by rw [t3]; exact ⟨Int.ediv_nonneg (by omega) (by omega), Int.ediv_le_self _ (by omega)⟩
        clear t1 t2 t3
        obtain ⟨b, off, rfl, hob, cb1⟩ := byte_at HC.out ((p : Int).tmod bs.length).toNat (by omega)
        obtain ⟨b', off', e, _, cb2⟩ := byte_at HC.out (((p : Int) * 7 + 3).tmod bs.length).toNat (by omega)
        simp only [Option.some.injEq, Addr.mk.injEq, and_true] at e
        obtain ⟨rfl, rfl⟩ := e
        have hb1 : (bs[((p : Int).tmod bs.length).toNat]'(by omega)).toNat < 256 := UInt8.toNat_lt _
        have hb2 : (bs[(((p : Int) * 7 + 3).tmod bs.length).toNat]'(by omega)).toNat < 256 := UInt8.toNat_lt _
        generalize (bs[((p : Int).tmod bs.length).toNat]'(by omega)).toNat = y1 at *
        generalize (bs[(((p : Int) * 7 + 3).tmod bs.length).toNat]'(by omega)).toNat = y2 at *
        have q1 : IntKind.i64.wrap ((p : Int) * 7) = (p : Int) * 7 := IntWalk.i64_in _ (by omega)
        have q2 : IntKind.i64.wrap ((p : Int) * 7 + 3) = (p : Int) * 7 + 3 := IntWalk.i64_in _ (by omega)
        have q3 : IntKind.i64.wrap (y1 : Int) = y1 := IntWalk.i64_in _ (by omega)
        have q4 : IntKind.i64.wrap (y2 : Int) = y2 := IntWalk.i64_in _ (by omega)
        obtain ⟨m6, m7⟩ := m5
        generalize hz : (p : Int).tdiv bs.length = z at *
        have Hz := Sec.mk hz
        clear hz
        have q5 : IntKind.i64.wrap ((y1 : Int) * 131) = (y1 : Int) * 131 := IntWalk.i64_in _ (by omega)
        have q6 : IntKind.i64.wrap ((y2 : Int) * 1117) = (y2 : Int) * 1117 := IntWalk.i64_in _ (by omega)
        have q7 : IntKind.i64.wrap ((y1 : Int) * 131 + (y2 : Int) * 1117) = (y1 : Int) * 131 + (y2 : Int) * 1117 := IntWalk.i64_in _ (by omega)
        have q8 : IntKind.i64.wrap ((p : Int) * 29) = (p : Int) * 29 := IntWalk.i64_in _ (by omega)
        have q9 : IntKind.i64.wrap ((y1 : Int) * 131 + (y2 : Int) * 1117 + (p : Int) * 29) = (y1 : Int) * 131 + (y2 : Int) * 1117 + (p : Int) * 29 := IntWalk.i64_in _ (by omega)
        have q10 : IntKind.i64.wrap ((p : Int).tdiv bs.length) = (p : Int).tdiv bs.length := by rw [Hz.out]; exact IntWalk.i64_in _ (by omega)
        have q11 : IntKind.i64.wrap ((p : Int).tdiv bs.length * 53) = (p : Int).tdiv bs.length * 53 := by rw [Hz.out]; exact IntWalk.i64_in _ (by omega)
        have q12 : IntKind.i64.wrap ((y1 : Int) * 131 + (y2 : Int) * 1117 + (p : Int) * 29 + (p : Int).tdiv bs.length * 53) = (y1 : Int) * 131 + (y2 : Int) * 1117 + (p : Int) * 29 + (p : Int).tdiv bs.length * 53 := by rw [Hz.out]; exact IntWalk.i64_in _ (by omega)
        go_enter Tryz.func113, Tryz.ntmps113
        go_wp2
        go_quiet (fail)
        clear q1 q2 q3 q4 q5 q6 q7 q8 q9 q10 q11 q12
        have hq := Sec.mk (pick_fin y1 y2 p bs.length n (by omega) h3 (by omega) hb1 hb2)
        go_wp2
        go_ret
        exact ⟨_, rfl, hq.out, ⟨hfin.out.is, ⟨hfin.out.bel.os, hfin.out.bel.tape, hfin.out.bel.output, hfin.out.bel.size, hfin.out.bel.block⟩, hG⟩, ⟨hon.out.os, hon.out.tape, hon.out.output, hon.out.size, hon.out.block⟩⟩
end
section
open Go.RowKit
set_option linter.unusedVariables false
set_option maxRecDepth 100000

theorem odd_c (w0 w : World) (g P : Nat) (n : Int) (hR : Rd w0 w g P) (hP : P ≤ 1000000000) (hn : 0 ≤ n) (hn2 : n ≤ 1000000000) :
    Calls Tryz.prog 112 #[.pointer (some ⟨g, 0, none⟩), .int .i64 n] w fun e w' => ∃ b : Bool, e = .returned (.bool b) ∧ Rd w0 w' g (P + 1) ∧ Only g w w' := by
  go_enter Tryz.func112, Tryz.ntmps112
  go_wp2_with (go_at_call 113; refine (pick_c w0 w g P n hR hP).mono ?_; rintro e w' ⟨r, rfl, hp, h1, h2⟩)
  go_ret
  exact ⟨_, rfl, h1, h2⟩

/-- A table of numbers that was just laid, read at a place that was picked. -/
theorem tab_int {w w' : World} {g b : Nat} {r : Int} (cs : Array Value) (xs : List Int) (hcs : cs = (xs.map (Value.int .i64)).toArray) (hb : w.heap[b]? = some (.cells cs 3 (0, 0))) (hg : b ≠ g) (ho : Only g w w') (h0 : 0 ≤ r) (h1 : r < xs.length) :
    ∃ v : Int, v ∈ xs ∧ w'.cell? ⟨b, r.toNat, none⟩ = some (.int .i64 v) := by
  subst hcs
  have hlt := (Array.getElem?_eq_some_iff.1 hb).1
  have hb' := (ho.block b hlt hg).trans hb
  have hr : r.toNat < xs.length := by omega
  refine ⟨xs[r.toNat], List.getElem_mem _, ?_⟩
  rw [cell_of_row w' b _ _ _ _ hb']
  simp [hr]
theorem tab_str {w w' : World} {g b : Nat} {r : Int} (cs : Array Value) (xs : List ByteArray) (hcs : cs = (xs.map Value.string).toArray) (hb : w.heap[b]? = some (.cells cs 9 (0, 0))) (hg : b ≠ g) (ho : Only g w w') (h0 : 0 ≤ r) (h1 : r < xs.length) :
    ∃ v : ByteArray, v ∈ xs ∧ w'.cell? ⟨b, r.toNat, none⟩ = some (.string v) := by
  subst hcs
  have hlt := (Array.getElem?_eq_some_iff.1 hb).1
  have hb' := (ho.block b hlt hg).trans hb
  have hr : r.toNat < xs.length := by omega
  refine ⟨xs[r.toNat], List.getElem_mem _, ?_⟩
  rw [cell_of_row w' b _ _ _ _ hb']
  simp [hr]

/-- A leaf: a place without arguments. -/
def Leaf (x : Cell) : Prop := x.name.size ≤ 8 ∧ (x.kind = 3 → x.n = 0) ∧ -9999 ≤ x.n ∧ x.n ≤ 9999
theorem leaf_mk {k n : Int} {s : ByteArray} (h1 : s.size ≤ 8) (h2 : k = 3 → n = 0) (h3 : -9999 ≤ n) (h4 : n ≤ 9999) : Leaf ⟨k, n, s⟩ := ⟨h1, h2, h3, h4⟩
/-- Three stores into a block of three cells. -/
theorem set3 {w : World} {b : Nat} {T : TypeId} {a0 a1 a2 : Value} (hb : w.heap[b]? = some (.cells #[a0, a1, a2] T (0, 0))) (x y z : Value) :
    (((w.setCell ⟨b, 0, none⟩ x).setCell ⟨b, 1, none⟩ y).setCell ⟨b, 2, none⟩ z).heap[b]? = some (.cells #[x, y, z] T (0, 0)) := by
  have h1 : (w.setCell ⟨b, 0, none⟩ x).heap[b]? = some (.cells #[x, a1, a2] T (0, 0)) := by simp only [World.setCell, Array.getElem?_modify, hb]; simp
  have h2 : ((w.setCell ⟨b, 0, none⟩ x).setCell ⟨b, 1, none⟩ y).heap[b]? = some (.cells #[x, y, a2] T (0, 0)) := by
    generalize w.setCell ⟨b, 0, none⟩ x = v at *
    simp only [World.setCell, Array.getElem?_modify, h1]; simp
  generalize (w.setCell ⟨b, 0, none⟩ x).setCell ⟨b, 1, none⟩ y = v at *
  simp only [World.setCell, Array.getElem?_modify, h2]; simp
/-- The cells of a block of three. -/
theorem cells3 {w : World} {b : Nat} {T : TypeId} {a0 a1 a2 : Value} (hb : w.heap[b]? = some (.cells #[a0, a1, a2] T (0, 0))) :
    w.cell? ⟨b, 0, none⟩ = some a0 ∧ w.cell? ⟨b, 1, none⟩ = some a1 ∧ w.cell? ⟨b, 2, none⟩ = some a2 ∧ (∀ j, w.frozen? ⟨b, j, none⟩ = false) :=
  ⟨cell_of_row w b 0 _ _ _ hb, cell_of_row w b 1 _ _ _ hb, cell_of_row w b 2 _ _ _ hb, fun j => by simp [World.frozen?, hb]⟩

theorem leaf_c (w0 w : World) (g P : Nat) (vars : Int) (hR : Rd w0 w g P) (hP : P ≤ 999999990) (hv : vars ≤ 9999) :
    Calls Tryz.prog 177 #[.pointer (some ⟨g, 0, none⟩), .int .i64 vars] w fun e w' => ∃ x : Cell, e = .returned (.agg #[.int .i64 x.kind, .int .i64 x.n, .string x.name]) ∧ Leaf x ∧ Rd w0 w' g (P + 2) ∧ Only g w w' := by
  have hu := Tryz.underlying39
  have H0 := Sec.mk hR
  have hlt := hR.lt
  have hge := hR.ge
  have hB0 : w0.heap.size ≤ w.heap.size := hR.bel.size
  clear hR
  go_enter Tryz.func177, Tryz.ntmps177
  go_wp2_with fail
  refine (pick_c w0 _ g P 4 (H0.out.below (belA (Below.refl _ _) _)) (by omega)).mono ?_
  rintro e w1 ⟨r, rfl, ⟨p0, p1, _⟩, hR1, hO1⟩
  have hb0 := Sec.mk (hO1.blk (heap_alloc_new w _) (by omega))
  have hO1 := Sec.mk (((Only.refl g w).alloc _).trans hO1)
  have hR1 := Sec.mk hR1
  have p2 := p1 (by omega)
  clear p1
  have hsz : w.heap.size < w1.heap.size := (Array.getElem?_eq_some_iff.1 hb0.out).1
  have fin : ∀ (w2 : World) (k n : Int) (s : ByteArray), Rd w0 w2 g (P + 2) → Only g w w2 → w2.heap[w.heap.size]? = some (.cells #[.int .i64 0, .int .i64 0, .string ⟨#[]⟩] 39 (0, 0)) → Leaf ⟨k, n, s⟩ →
      (∃ x : Cell, Ending.returned (.agg #[.int .i64 k, .int .i64 n, .string s]) = .returned (.agg #[.int .i64 x.kind, .int .i64 x.n, .string x.name]) ∧ Leaf x ∧ Rd w0 (((w2.setCell ⟨w.heap.size, 0, none⟩ (.int .i64 k)).setCell ⟨w.heap.size, 1, none⟩ (.int .i64 n)).setCell ⟨w.heap.size, 2, none⟩ (.string s)) g (P + 2) ∧
        Only g w (((w2.setCell ⟨w.heap.size, 0, none⟩ (.int .i64 k)).setCell ⟨w.heap.size, 1, none⟩ (.int .i64 n)).setCell ⟨w.heap.size, 2, none⟩ (.string s))) := fun w2 k n s h1 h2 h3 h4 =>
    ⟨⟨k, n, s⟩, rfl, h4, ((h1.set (by omega) hB0 _ _).set (by omega) hB0 _ _).set (by omega) hB0 _ _, ((h2.setNew (Nat.le_refl _) _ _).setNew (Nat.le_refl _) _ _).setNew (Nat.le_refl _) _ _⟩
  have FIN := Sec.mk fin
  clear fin
  rcases (by omega : r = 0 ∨ r = 1 ∨ r = 2 ∨ r = 3) with rfl | rfl | rfl | rfl
  iterate 2
    · go_wp2_with fail
      refine (pick_c w0 _ g (P + 1) vars hR1.out (by omega)).mono ?_
      rintro e w2 ⟨r, rfl, ⟨q0, q1, q2⟩, hR2, hO2⟩
      have hlf : Leaf ⟨1, r, ⟨#[]⟩⟩ := leaf_mk (by decide) (fun h => by cases h) (by omega) (by
        by_cases h : 1 ≤ vars
        · have := q1 h; omega
        · rw [q2 (by omega)]; decide)
      have hb := hO2.blk hb0.out (by omega)
      have F := Sec.mk (FIN.out w2 1 r ⟨#[]⟩ hR2 (hO1.out.trans hO2) hb hlf)
      obtain ⟨k0, k1, k2, kf⟩ := cells3 hb
      obtain ⟨j0, j1, j2, _⟩ := cells3 (set3 hb (.int .i64 1) (.int .i64 r) (.string ⟨#[]⟩))
      have J0 := Sec.mk j0
      have J1 := Sec.mk j1
      have J2 := Sec.mk j2
      clear hO2 hb hb0 hlf hR2 q1 q2 j0 j1 j2
      go_wp2_with fail
      exact bodyPost_ret (v := .agg #[.int .i64 1, .int .i64 r, .string ⟨#[]⟩]) (by simp [results, Tryz.results177, go_sem, J0.out, J1.out, J2.out]) rfl F.out
  · go_wp2_with fail
    have ht := heap_alloc_new w1 (.cells #[.int .i64 0, .int .i64 1, .int .i64 2, .int .i64 (-1), .int .i64 7, .int .i64 9999] 3)
    have Ht := Sec.mk ht
    clear ht
    refine (pick_c w0 _ g (P + 1) 6 (hR1.out.below (belA (Below.refl _ _) _)) (by omega)).mono ?_
    rintro e w2 ⟨r, rfl, ⟨q0, q1, _⟩, hR2, hO2⟩
    have q2 := q1 (by omega)
    obtain ⟨v, hv, ct⟩ := tab_int _ [0, 1, 2, -1, 7, 9999] rfl Ht.out (by omega) hO2 q0 q2
    have hlf : Leaf ⟨2, v, ⟨#[]⟩⟩ := leaf_mk (by decide) (fun h => by cases h) (by simp at hv; omega) (by simp at hv; omega)
    have hb := hO2.blk ((belA (Below.refl _ _) _ : Below w1.heap.size w1 _).block _ hsz |>.trans hb0.out) (by omega)
    have F := Sec.mk (FIN.out w2 2 v ⟨#[]⟩ hR2 (((hO1.out).alloc _).trans hO2) hb hlf)
    obtain ⟨k0, k1, k2, kf⟩ := cells3 hb
    obtain ⟨j0, j1, j2, _⟩ := cells3 (set3 hb (.int .i64 2) (.int .i64 v) (.string ⟨#[]⟩))
    have J0 := Sec.mk j0
    have J1 := Sec.mk j1
    have J2 := Sec.mk j2
    clear hO2 hb hb0 hlf hR2 q1 j0 j1 j2 hv
    go_wp2_with fail
    exact bodyPost_ret (v := .agg #[.int .i64 2, .int .i64 v, .string ⟨#[]⟩]) (by simp [results, Tryz.results177, go_sem, J0.out, J1.out, J2.out]) rfl F.out
  · go_wp2_with fail
    have Ht := Sec.mk (heap_alloc_new w1 (.cells #[.string ⟨#[97]⟩, .string ⟨#[98]⟩, .string ⟨#[99]⟩, .string ⟨#[110, 105, 108]⟩] 9))
    refine (pick_c w0 _ g (P + 1) 4 (hR1.out.below (belA (Below.refl _ _) _)) (by omega)).mono ?_
    rintro e w2 ⟨r, rfl, ⟨q0, q1, _⟩, hR2, hO2⟩
    have q2 := q1 (by omega)
    obtain ⟨v, hv, ct⟩ := tab_str _ [⟨#[97]⟩, ⟨#[98]⟩, ⟨#[99]⟩, ⟨#[110, 105, 108]⟩] rfl Ht.out (by omega) hO2 q0 q2
    have hlf : Leaf ⟨3, 0, v⟩ := leaf_mk (by simp at hv; rcases hv with rfl | rfl | rfl | rfl <;> decide) (fun _ => rfl) (by decide) (by decide)
    have hb := hO2.blk ((belA (Below.refl _ _) _ : Below w1.heap.size w1 _).block _ hsz |>.trans hb0.out) (by omega)
    have F := Sec.mk (FIN.out w2 3 0 v hR2 (((hO1.out).alloc _).trans hO2) hb hlf)
    obtain ⟨k0, k1, k2, kf⟩ := cells3 hb
    obtain ⟨j0, j1, j2, _⟩ := cells3 (set3 hb (.int .i64 3) (.int .i64 0) (.string v))
    have J0 := Sec.mk j0
    have J1 := Sec.mk j1
    have J2 := Sec.mk j2
    clear hO2 hb hb0 hlf hR2 q1 j0 j1 j2 hv
    go_wp2_with fail
    exact bodyPost_ret (v := .agg #[.int .i64 3, .int .i64 0, .string v]) (by simp [results, Tryz.results177, go_sem, J0.out, J1.out, J2.out]) rfl F.out

/-- A slice's length. -/
def lenOf : Value → Nat | .slice _ n _ => n | _ => 0
theorem lenOf_R {α : Type} {d : Kd α} {w : World} {S : Nat → Prop} {v : Value} {xs : List α} (h : d.R w S v xs) : lenOf v = xs.length := by
  obtain ⟨A, c, rfl, _⟩ := Kd.R_form h
  rfl
/-- Places that were drawn: there is one, and each has no long name. -/
def Drawn (t : Term) : Prop := ∀ x ∈ t, x.name.size ≤ 8 ∧ -99999 ≤ x.n ∧ x.n ≤ 99999

def TermOut (w0 w : World) (g P : Nat) (e : Ending) (w' : World) : Prop := ∃ u t, e = .returned u ∧ kCell.R w' (fun k => w.heap.size ≤ k) u t ∧ t ≠ [] ∧ t.length ≤ 40 ∧ Drawn t ∧ Rd w0 w' g (P + 300) ∧ Only g w w'

/-- What holds in the middle of a round: the places so far, and the place that was drawn, in a box. -/
structure FX (w0 w : World) (g P M : Nat) (A : Option Addr) (cp b : Nat) (t : Term) (m : Nat) (x : Cell) (wr : World) : Prop where
  row : kCell.R wr (fun k => w.heap.size ≤ k ∧ k ≠ b) (.slice A t.length cp) t
  rd : Rd w0 wr g P
  only : Only g w wr
  box : wr.heap[b]? = some (.cells #[.int .i64 x.kind, .int .i64 x.n, .string x.name] 39 (0, 0))
  ge : w.heap.size ≤ b
  nm : x.name.size ≤ 8
  lo : -9999 ≤ x.n
  hi : x.n ≤ 9999
  arg : x.kind = 3 → 0 ≤ x.n ∧ t.length + 1 + m + x.n ≤ M

theorem term_c (w0 w : World) (g P most_ : Nat) (vars : Int) (hR : Rd w0 w g P) (hP : P ≤ 999999000) (hv : vars ≤ 9999) (hm : most_ ≤ 40) :
    Calls Tryz.prog 117 #[.pointer (some ⟨g, 0, none⟩), .int .i64 most_, .int .i64 vars] w (TermOut w0 w g P) := by
  have hu := Tryz.underlying39
  have H0 := Sec.mk hR
  have hlt := hR.lt
  have hge := hR.ge
  have hB0 : w0.heap.size ≤ w.heap.size := hR.bel.size
  clear hR
  go_enter Tryz.func117, Tryz.ntmps117
  go_wp2
  go_loopw [7, 8] (fun v o wr => ∃ (m : Nat) (t : Term), o = .int .i64 m ∧ t.length + m ≤ max 1 most_ ∧ (m = 0 → 0 < t.length) ∧ Sec (kCell.R wr (fun k => w.heap.size ≤ k) v t ∧ Drawn t ∧ Rd w0 wr g (P + 6 * t.length) ∧ Only g w wr)) (fun v _ _ => 41 - (lenOf v))
  case atStart => exact ⟨1, [], rfl, by simp; omega, by omega, ⟨Kd.R_empty kCell (Nat.le_refl _), by simp [Drawn], H0.out.below (belA (Below.refl _ _) _), (Only.refl _ _).alloc _⟩⟩
  case round =>
    obtain ⟨m, t, rfl, hl, hne, ⟨hR, hD, hd, hO⟩⟩ := hrel
    have HR := Sec.mk hR
    have HD := Sec.mk hD
    have Hd := Sec.mk hd
    have HO := Sec.mk hO
    clear hR hD hd hO
    have hsz := HO.out.size
    have hl1 : max 1 most_ ≤ 40 := by omega
    cases m with
    | zero =>
      go_wp2
      go_ret
      exact ⟨_, t, rfl, HR.out, fun e => by subst e; simp at hne, by omega, HD.out, Hd.out.mono (by omega), HO.out⟩
    | succ m =>
      go_wp2_with fail
      refine (leaf_c w0 _ g _ vars Hd.out (by omega) hv).mono ?_
      rintro e w1 ⟨x, rfl, hx, hR1, hO1⟩
      obtain ⟨A, cp, hv1, _, _⟩ := Kd.R_form HR.out
      subst hv1
      have F0 := Sec.mk (show FX w0 w g (P + 6 * t.length + 2) (max 1 most_) A cp w1.heap.size t m x (w1.alloc (.cells #[.int .i64 x.kind, .int .i64 x.n, .string x.name] 39)) from
        ⟨Kd.R_below (Kd.R_mono (Kd.R_move (hO1.keeps (ok := fun k => w.heap.size ≤ k) (by omega)) HR.out) (fun k h1 h2 => ⟨h1, by omega⟩)) (belA (Below.refl _ _) _), hR1.below (belA (Below.refl _ _) _), (HO.out.trans hO1).alloc _, heap_alloc_new w1 _, by have := hO1.size; omega, hx.1, hx.2.2.1, hx.2.2.2, fun h => by have := hx.2.1 h; omega⟩)
      clear hR1 hO1 hx
      go_upto_region 5 with (fail)
      generalize w1.alloc (.cells #[.int .i64 x.kind, .int .i64 x.n, .string x.name] 39) = w2 at *
      generalize w1.heap.size = b at *
      go_cut [27] (fun v wc => ∃ q : Bool, v = .bool q ∧ (q = true → (t.length : Int) + (m + 1) + 3 < most_) ∧ Sec (FX w0 w g (P + 6 * t.length + 3) (max 1 most_) A cp b t m x wc))
      case first =>
        obtain ⟨k0, k1, k2, kf⟩ := cells3 F0.out.box
        have hgb := F0.out.ge
        by_cases ht : (t.length : Int) + (m + 1) + 3 < most_
        · have ht1 : decide ((t.length : Int) + (m + 1) + 3 < most_) = true := decide_eq_true ht
          go_wp2_with fail
          refine (pick_c w0 _ g _ 3 F0.out.rd (by omega)).mono ?_
          rintro e w3 ⟨r, rfl, ⟨q0, q1, _⟩, hR3, hO3⟩
          have F1 := Sec.mk (show FX w0 w g (P + 6 * t.length + 3) (max 1 most_) A cp b t m x w3 from
            ⟨Kd.R_move (hO3.keeps (ok := fun k => w.heap.size ≤ k ∧ k ≠ b) (by omega)) F0.out.row, hR3, F0.out.only.trans hO3, hO3.blk F0.out.box (by omega), hgb, F0.out.nm, F0.out.lo, F0.out.hi, F0.out.arg⟩)
          clear hO3 hR3 q1 k0 k1 k2 kf
          go_wp2_with fail
          go_meet
          case rel => exact ⟨_, rfl, fun _ => ht, F1⟩
        · have ht1 : decide ((t.length : Int) + (m + 1) + 3 < most_) = false := decide_eq_false ht
          go_wp2_with fail
          go_meet
          case rel => exact ⟨false, rfl, fun h => (by cases h), ⟨F0.out.row, F0.out.rd.mono (by omega), F0.out.only, F0.out.box, F0.out.ge, F0.out.nm, F0.out.lo, F0.out.hi, F0.out.arg⟩⟩
      case rest =>
      obtain ⟨q, rfl, hq, F1⟩ := hcut
      clear F0
      generalize wc = w3 at *
      go_upto_if 27 with (fail)
      go_cut [] (fun wc => ∃ x' : Cell, Sec (FX w0 w g (P + 6 * t.length + 5) (max 1 most_) A cp b t m x' wc))
      case first =>
        cases q with
        | false =>
          go_wp2_with fail
          go_meet
          case rel => exact ⟨x, ⟨F1.out.row, F1.out.rd.mono (by omega), F1.out.only, F1.out.box, F1.out.ge, F1.out.nm, F1.out.lo, F1.out.hi, F1.out.arg⟩⟩
        | true =>
          have ht := hq rfl
          have hgb := F1.out.ge
          go_wp2_with fail
          refine (pick_c w0 _ g _ 3 F1.out.rd (by omega)).mono ?_
          rintro e w4 ⟨r1, rfl, ⟨q0, q1, _⟩, hR4, hO4⟩
          have q3 := q1 (by omega)
          have hbx4 := Sec.mk (hO4.blk F1.out.box (by omega))
          have hR4' := Sec.mk hR4
          have hrow4 := Sec.mk (Kd.R_move (hO4.keeps (ok := fun k => w.heap.size ≤ k ∧ k ≠ b) (by omega)) F1.out.row)
          have hO4' := Sec.mk (F1.out.only.trans hO4)
          have hz4 : b < w4.heap.size := (Array.getElem?_eq_some_iff.1 hbx4.out).1
          clear hO4 hR4 q1
          go_wp2_with fail
          have Ht := Sec.mk (heap_alloc_new w4 (.cells #[.string ⟨#[102]⟩, .string ⟨#[103]⟩, .string ⟨#[99]⟩, .string ⟨#[115]⟩] 9))
          refine (pick_c w0 _ g (P + 6 * t.length + 3 + 1) 4 (hR4'.out.below (belA (Below.refl _ _) _)) (by omega)).mono ?_
          rintro e w5 ⟨r2, rfl, ⟨s0, s1, _⟩, hR5, hO5⟩
          have s2 := s1 (by omega)
          obtain ⟨v, hv, ct⟩ := tab_str _ [⟨#[102]⟩, ⟨#[103]⟩, ⟨#[99]⟩, ⟨#[115]⟩] rfl Ht.out (by omega) hO5 s0 s2
          have hvn : Sec (v.size ≤ 8) := ⟨by simp at hv; rcases hv with rfl | rfl | rfl | rfl <;> decide⟩
          have hb5 := hO5.blk ((belA (Below.refl _ _) _ : Below w4.heap.size w4 _).block _ hz4 |>.trans hbx4.out) (by omega)
          obtain ⟨k0, k1, k2, kf⟩ := cells3 hb5
          have F2 := Sec.mk (show FX w0 w g (P + 6 * t.length + 5) (max 1 most_) A cp b t m ⟨3, 1 + r1, v⟩ (((w5.setCell ⟨b, 0, none⟩ (.int .i64 3)).setCell ⟨b, 1, none⟩ (.int .i64 (1 + r1))).setCell ⟨b, 2, none⟩ (.string v)) from by
            have hrow5 := Kd.R_move (hO5.keeps (ok := fun k => w.heap.size ≤ k ∧ k ≠ b) (by omega)) (Kd.R_below hrow4.out (belA (Below.refl _ _) _))
            have far : ∀ (W : World) (i : Nat) (u : Value), Keeps W (W.setCell ⟨b, i, none⟩ u) (fun k => w.heap.size ≤ k ∧ k ≠ b) (fun k => w.heap.size ≤ k ∧ k ≠ b) := fun W i u k hk _ => ⟨hk, Below.heap_setCell _ _ _ _ hk.2⟩
            refine ⟨Kd.R_move (far _ _ _) (Kd.R_move (far _ _ _) (Kd.R_move (far _ _ _) hrow5)), ((hR5.set (by omega) (by omega) _ _).set (by omega) (by omega) _ _).set (by omega) (by omega) _ _, ((((hO4'.out.alloc _).trans hO5).setNew hgb _ _).setNew hgb _ _).setNew hgb _ _, set3 hb5 _ _ _, hgb, hvn.out, by show -9999 ≤ 1 + r1; omega, by show 1 + r1 ≤ 9999; omega, fun _ => ⟨by show 0 ≤ 1 + r1; omega, by show (t.length : Int) + 1 + m + (1 + r1) ≤ _; omega⟩⟩)
          have hz5 : b < w5.heap.size := (Array.getElem?_eq_some_iff.1 hb5).1
          clear hO5 hR5 s1 hb5 hv
          go_wp2_with fail
          go_meet
          case rel => exact ⟨_, F2⟩
      case rest =>
        obtain ⟨y, hy⟩ := hcut
        obtain ⟨k0, k1, k2, kf⟩ := cells3 hy.out.box
        have hnm : y.name.size ≤ 1073741824 := by have := hy.out.nm; omega
        have hgb := hy.out.ge
        have hbl : b < wc.heap.size := (Array.getElem?_eq_some_iff.1 hy.out.box).1
        have hge' : w.heap.size ≤ wc.heap.size := hy.out.only.size
        have hDr : Sec (Drawn (t ++ [y])) := ⟨fun z hz => by
          rcases List.mem_append.1 hz with h | h
          · exact HD.out z h
          · rw [List.mem_singleton.1 h]; exact ⟨hy.out.nm, by have := hy.out.lo; omega, by have := hy.out.hi; omega⟩⟩
        clear HR HO Hd
        by_cases hk : y.kind = 3
        · have hk' : (y.kind == 3) = true := beq_iff_eq.2 hk
          obtain ⟨a1, a2⟩ := hy.out.arg hk
          have hmn : Sec ((m : Int) + 1 - 1 + y.n = ((m + y.n.toNat : Nat) : Int)) := ⟨by omega⟩
          clear hk
          go_wp2_with (at_builtin; refine Kd.R_appG kCell (B := w.heap.size) rfl (.tmp 46) (.tmp 48) 23 (.agg #[.int .i64 0, .int .i64 0, .string ⟨#[]⟩]) 32 rfl Tryz.underlying23 info_cell rfl (by decide) (by decide) _ _ y [.int .i64 y.kind, .int .i64 y.n, .string y.name] rfl rfl (by simp) (Kd.R_mono hy.out.row (fun k h1 _ => h1.1)) hge' (kCell_none _ _ hnm) (by omega) ?_; intro v1 w9 hR9 hg9 hr9; have HR9 := Sec.mk hR9; have HL9 := Sec.mk (lenOf_R hR9); have HO9 := Sec.mk (hy.out.only.grown hg9 hr9); have HD9 := Sec.mk (hy.out.rd.grown hg9 (fun k e => ⟨by have := hr9 k e; omega, by have := hr9 k e; omega⟩)); clear hR9 hg9 hr9)
          go_roundw
          case rel => exact ⟨m + y.n.toNat, t ++ [y], by rw [← hmn.out]; go_num, by simp; omega, fun _ => by simp, HR9.out, hDr.out, HD9.out.mono (by simp; omega), HO9.out⟩
          case measure => have h9 := HL9.out; rw [List.length_append] at h9; show 41 - lenOf _ < 41 - lenOf _; rw [h9]; simp only [lenOf, List.length_singleton]; omega
        · have hk' : (y.kind == 3) = false := beq_eq_false_iff_ne.2 hk
          clear hk
          go_wp2_with (at_builtin; refine Kd.R_appG kCell (B := w.heap.size) rfl (.tmp 46) (.tmp 48) 23 (.agg #[.int .i64 0, .int .i64 0, .string ⟨#[]⟩]) 32 rfl Tryz.underlying23 info_cell rfl (by decide) (by decide) _ _ y [.int .i64 y.kind, .int .i64 y.n, .string y.name] rfl rfl (by simp) (Kd.R_mono hy.out.row (fun k h1 _ => h1.1)) hge' (kCell_none _ _ hnm) (by omega) ?_; intro v1 w9 hR9 hg9 hr9; have HR9 := Sec.mk hR9; have HL9 := Sec.mk (lenOf_R hR9); have HO9 := Sec.mk (hy.out.only.grown hg9 hr9); have HD9 := Sec.mk (hy.out.rd.grown hg9 (fun k e => ⟨by have := hr9 k e; omega, by have := hr9 k e; omega⟩)); clear hR9 hg9 hr9)
          go_roundw
          case rel => exact ⟨m, t ++ [y], by go_num, by simp; omega, fun _ => by simp, HR9.out, hDr.out, HD9.out.mono (by simp; omega), HO9.out⟩
          case measure => have h9 := HL9.out; rw [List.length_append] at h9; show 41 - lenOf _ < 41 - lenOf _; rw [h9]; simp only [lenOf, List.length_singleton]; omega
end
section
section
namespace Sh
open Go.RowKit
set_option linter.unusedVariables false
structure St (ops : Array Oper) (A : Nat → Ass) (eat : Nat → List Nat) (N : Nat) (T G : Nat → Prop) (w0 : World) (a0 : Act) (L : Nat → Bool) (a : Act) (w : World) (own : Nat → Nat → Prop) : Prop where
  size : a.tmps.size = a0.tmps.size
  keep : ∀ t, (∀ j o, ops[j]? = some o → o.dst = some t → L j = false) → slotsOf a t = slotsOf a0 t
  rest : a.defers = a0.defers
  foot : Foot T w0 w
  apart : ∀ i j k, own i k → own j k → i = j
  mine : ∀ i k, own i k → (w0.heap.size ≤ k ∨ T k) ∧ k < w.heap.size
  holds : ∀ i, i < ops.size + N → L i = true → (∀ j, j < ops.size → i ∈ eat j → L j = false) → (A i).on (slotsOf a) (own i) w
  closed : ∀ i o, ops[i]? = some o → L i = true → ∀ j ∈ depsOf o, L j = true
  free : ∀ i k, own i k → ¬ G k
section
variable {P : Program} {ops : Array Oper} {Q : Exit → Act → World → Prop} {A : Nat → Ass} {eat : Nat → List Nat} {N : Nat} {T G : Nat → Prop} {I : Nat → World → Prop} {w0 : World} {a0 : Act}
/-- What op i, come up in this state, must leave. -/
def Post (G : Nat → Prop) (I : Nat → World → Prop) (f : Nat) (A : Nat → Ass) (eat : Nat → List Nat) (own : Nat → Nat → Prop) (i : Nat) (o : Oper) (a : Act) (w : World) (v : Value) (w' : World) : Prop :=
  ∃ S : Nat → Prop, Foot (fun k => (∃ j ∈ eat i, own j k) ∨ G k) w w' ∧ I f w' ∧ (A i).on (fun t => if o.dst = some t then v else slotsOf a t) S w' ∧ (∀ k, S k → (∃ j ∈ eat i, own j k) ∨ (w.heap.size ≤ k ∧ k < w'.heap.size))
def StepOk (G : Nat → Prop) (I : Nat → World → Prop) (P : Program) (ops : Array Oper) (Q : Exit → Act → World → Prop) (A : Nat → Ass) (eat : Nat → List Nat) (N : Nat) (T : Nat → Prop) (w0 : World) (a0 : Act) (i : Nat) (o : Oper) : Prop :=
  ∀ (a : Act) (w : World) (own : Nat → Nat → Prop), (∀ t, keptAt ops i t = true → slotsOf a t = slotsOf a0 t) → (∀ j, usable ops eat N i j = true → (A j).on (slotsOf a) (own j) w) →
    (∀ i j k, own i k → own j k → i = j) → (∀ i k, own i k → (w0.heap.size ≤ k ∨ T k) ∧ k < w.heap.size) → Foot T w0 w → (∀ i k, own i k → ¬ G k) → ∀ f, I (f + 1) w →
    ∀ K : Act → World → Prop, (∀ v w', Post G I f A eat own i o a w v w' → K (a.put o.dst v) w') → if Region.wanted o (yielded ops a.tmps) = true then Oper.wp P o a w K Q else K (a.put o.dst undef) w
theorem inv_any (hc : FitB ops (fun i => (A i).sl) eat N a0.tmps.size) (hst : ∀ i, i < ops.size + N → (A i).Stab w0.heap.size T) (hG : ∀ k, G k → T k ∧ k < w0.heap.size) (ID : ∀ f w, I (f + 1) w → I f w) (hstep : ∀ i o, ops[i]? = some o → StepOk G I P ops Q A eat N T w0 a0 i o)
    (hend : ∀ a w own f, St ops A eat N T G w0 a0 (fun _ => true) a w own → I f w → Q .normal a w) :
    ∀ (fuel : Nat) (listed : Array Bool) (a : Act) (w : World) (own : Nat → Nat → Prop), listed.size = ops.size → (List.range ops.size).countP (fun i => !listed.getD i true) ≤ fuel →
      St ops A eat N T G w0 a0 (fun i => listed.getD i true) a w own → I fuel w → wpAny P .any ops Q fuel listed a w := by
  intro fuel
  induction fuel with
  | zero =>
    intro listed a w own hs hn hI hIf
    have hall : ∀ i, listed.getD i true = true := fun i => by
      rcases Nat.lt_or_ge i ops.size with hi | hi
      · have h0 : (List.range ops.size).countP (fun i => !listed.getD i true) = 0 := by omega
        have := List.countP_eq_zero.1 h0 i (List.mem_range.2 hi)
        simpa using this
      · simp [Array.getElem?_eq_none (show listed.size ≤ i by omega)]
    refine ⟨?_, hend a w own 0 (by have e : (fun i => listed.getD i true) = fun _ => true := funext hall; rw [← e]; exact hI) hIf⟩
    cases hr : Region.ready .any ops listed with
    | nil => rfl
    | cons x l =>
      have : x ∈ Region.ready .any ops listed := by rw [hr]; exact List.mem_cons_self
      have := (mem_ready.1 this).1
      rw [hall x] at this; cases this
  | succ fuel ih =>
    intro listed a w own hs hn hI hIf
    refine ⟨fun h0 => hend a w own (fuel + 1) ?_ hIf, fun i hi => ?_⟩
    · have e : (fun i => listed.getD i true) = fun _ => true := funext (all_listed hs hc.back h0)
      rw [← e]; exact hI
    · obtain ⟨hun, o, ho, hdep⟩ := mem_ready.1 hi
      have hil : i < ops.size := (Array.getElem?_eq_some_iff.1 ho).1
      have hdep' : ∀ j ∈ depsOf o, listed.getD j true = true := fun j hj => by
        obtain ⟨e, he, rfl⟩ := List.mem_map.1 hj
        obtain ⟨he1, he2⟩ := List.mem_filter.1 he
        have h1 := hdep e (by simpa using he1) he2
        rcases Nat.lt_or_ge e.on listed.size with h' | h'
        · simpa [h'] using h1
        · simp [Array.getElem?_eq_none h'] at h1
      have hdst : ∀ x, o.dst = some x → x < a.tmps.size := fun x hx => by
        have := all_range hc.dst hil
        simp [ho, hx] at this
        rw [hI.size]; exact this
      have heat : ∀ j ∈ eat i, ∀ i', i' < ops.size → j ∈ eat i' → i' = i := fun j hj i' hi' hj' => by
        have := all_range (List.all_eq_true.1 (all_range hc.eat hil) j hj) hi'
        simpa [hj'] using this
      have hrun := hstep i o ho a w own (fun t ht => hI.keep t (fun j p hp hd => by
        cases hL : listed.getD j true with
        | false => rfl
        | true =>
          have h1 := all_range ht (Array.getElem?_eq_some_iff.1 hp).1
          simp [hp, hd] at h1
          have := hI.closed j p hp hL i h1
          rw [hun] at this; cases this)) (fun j hj => by
        unfold usable at hj
        rw [Bool.and_eq_true, Bool.or_eq_true] at hj
        obtain ⟨h1, h2⟩ := hj
        have hLj : listed.getD j true = true ∧ j < ops.size + N := by
          rcases h1 with h1 | h1
          · simp [ho] at h1
            refine ⟨hdep' j h1, ?_⟩
            have hb' := all_range hc.back hil
            simp only [ho, Option.map_some, Option.getD_some] at hb'
            have := List.all_eq_true.1 hb' j h1
            simp at this
            omega
          · rw [Bool.and_eq_true] at h1
            obtain ⟨h1, h3⟩ := h1
            simp at h1 h3
            exact ⟨by simp [Array.getElem?_eq_none (show listed.size ≤ j by omega)], h3⟩
        refine hI.holds j hLj.2 hLj.1 (fun i' hi' hj' => ?_)
        have h5 := all_range h2 hi'
        by_cases e : i' = i
        · subst e; exact hun
        · cases hL : listed.getD i' true with
          | false => rfl
          | true =>
            simp [hj', e] at h5
            cases hp : ops[i']? with
            | none => simp [hp] at h5
            | some p =>
              simp [hp] at h5
              have := hI.closed i' p hp hL i h5
              rw [hun] at this; cases this) hI.apart hI.mine hI.foot hI.free fuel hIf
      unfold wpOp
      rw [ho]
      simp only
      have hrun2 := hrun (wpAny P .any ops Q fuel (listed.setIfInBounds i true)) (fun v w' hP => by
        obtain ⟨S, hF, hI2, hA, hS⟩ := hP
        have hU : ∀ k, (∃ j ∈ eat i, own j k) → (w0.heap.size ≤ k ∨ T k) := fun k ⟨j, _, hj⟩ => (hI.mine j k hj).1
        have hput : ∀ t, slotsOf (a.put o.dst v) t = if o.dst = some t then v else slotsOf a t := slots_put hdst
        refine ih (listed.setIfInBounds i true) (a.put o.dst v) w' (fun j k => if j = i then S k else own j k ∧ ¬ j ∈ eat i) (by simpa using hs) ?_ ?_ hI2
        · have := countP_lt (p := fun i => !listed.getD i true) (q := fun j => !(listed.setIfInBounds i true).getD j true) (List.range ops.size) (fun x hx hq => ?_) i (List.mem_range.2 hil) (by rw [hun]; rfl) (by simp [show i < listed.size by omega])
          · omega
          · by_cases hx' : i = x
            · subst hx'; simp [show i < listed.size by omega] at hq
            · rwa [getD_set_ne true hx'] at hq
        · refine ⟨?_, ?_, ?_, ?_, ?_, ?_, ?_, ?_, ?_⟩
          · rw [← hI.size]; cases o.dst <;> simp [Act.put]
          · intro t ht
            have hn : ¬ o.dst = some t := fun hd => by
              have := ht i o ho hd
              simp [show i < listed.size by omega] at this
            rw [hput, if_neg hn]
            refine hI.keep t (fun j p hp hd => ?_)
            have := ht j p hp hd
            by_cases e : i = j
            · subst e; rw [ho] at hp; obtain rfl := Option.some.inj hp; exact (hn hd).elim
            · rwa [getD_set_ne true e] at this
          · rw [← hI.rest]; cases o.dst <;> rfl
          · refine hI.foot.trans hF (fun k hk he => ?_)
            rcases he with he | he
            · rcases hU k he with h | h
              · omega
              · exact h
            · exact (hG k he).1
          · intro j1 j2 k h1 h2
            have key : ∀ j, j ≠ i → own j k → ¬ j ∈ eat i → S k → False := fun j hj ho1 he hS1 => by
              rcases hS k hS1 with ⟨j', hj', ho2⟩ | ⟨h3, _⟩
              · exact he (hI.apart j j' k ho1 ho2 ▸ hj')
              · have := (hI.mine j k ho1).2; omega
            by_cases e1 : j1 = i
            · by_cases e2 : j2 = i
              · rw [e1, e2]
              · simp only [if_pos e1] at h1
                simp only [if_neg e2] at h2
                exact (key j2 e2 h2.1 h2.2 h1).elim
            · by_cases e2 : j2 = i
              · simp only [if_pos e2] at h2
                simp only [if_neg e1] at h1
                exact (key j1 e1 h1.1 h1.2 h2).elim
              · simp only [if_neg e1] at h1
                simp only [if_neg e2] at h2
                exact hI.apart j1 j2 k h1.1 h2.1
          · intro j k h
            by_cases e : j = i
            · simp only [if_pos e] at h
              rcases hS k h with he | ⟨h1, h2⟩
              · obtain ⟨j', _, hj'⟩ := he
                have := hI.mine j' k hj'
                have := hF.size
                exact ⟨(hI.mine j' k hj').1, by omega⟩
              · have := hI.foot.size
                exact ⟨.inl (by omega), h2⟩
            · simp only [if_neg e] at h
              have h1 := hI.mine j k h.1
              have := hF.size
              exact ⟨h1.1, by omega⟩
          · intro j hjN hj he
            by_cases e : j = i
            · subst e
              have e2 : (fun k => if j = j then S k else own j k ∧ ¬ j ∈ eat j) = S := funext fun k => if_pos rfl
              rw [e2, show slotsOf (a.put o.dst v) = fun t => if o.dst = some t then v else slotsOf a t from funext hput]
              exact hA
            · have hj0 : listed.getD j true = true := by rwa [getD_set_ne true (Ne.symm e)] at hj
              have hne : ¬ j ∈ eat i := fun h => by
                have := he i hil h
                simp [show i < listed.size by omega] at this
              have h0 := hI.holds j hjN hj0 (fun j' hj' hm => by
                by_cases e' : j' = i
                · subst e'; exact (hne hm).elim
                · have := he j' hj' hm
                  rwa [getD_set_ne true (Ne.symm e')] at this)
              have e2 : (fun k => if j = i then S k else own j k ∧ ¬ j ∈ eat i) = own j := funext fun k => by rw [if_neg e]; exact propext ⟨fun h => h.1, fun h => ⟨h, hne⟩⟩
              rw [e2]
              refine hst j hjN _ _ _ _ _ h0 (fun t ht => ?_) (fun k hk hlt => ?_) hF.size
              · rw [hput, if_neg]
                intro hd
                have := all_range (List.all_eq_true.1 (all_range hc.slot hjN) t ht) hil
                simp [ho, hd] at this
                rcases this with h | h
                · exact e h.symm
                · cases hoj : ops[j]? with
                  | none => simp [hoj] at h
                  | some p =>
                    simp [hoj] at h
                    have := hI.closed j p hoj hj0 i h
                    rw [hun] at this; cases this
              · refine hF.block k hlt (fun hx => ?_)
                rcases hx with ⟨j', hj', ho'⟩ | hx
                · rcases hk with hk | ⟨hk1, hk2⟩
                  · exact hne (hI.apart j j' k hk ho' ▸ hj')
                  · rcases (hI.mine j' k ho').1 with h | h
                    · omega
                    · exact hk2 h
                · rcases hk with hk | ⟨hk1, hk2⟩
                  · exact hI.free j k hk hx
                  · exact hk2 (hG k hx).1
          · intro j p hp hj j' hj'
            by_cases e : j = i
            · subst e
              rw [ho] at hp
              obtain rfl := Option.some.inj hp
              by_cases e' : j = j'
              · subst e'; simp [show j < listed.size by omega]
              · rw [getD_set_ne true e']; exact hdep' j' hj'
            · have hj0 : listed.getD j true = true := by rwa [getD_set_ne true (Ne.symm e)] at hj
              have := hI.closed j p hp hj0 j' hj'
              by_cases e' : i = j'
              · subst e'; simp [show i < listed.size by omega]
              · rw [getD_set_ne true e']; exact this
          · intro j k h
            by_cases e : j = i
            · simp only [if_pos e] at h
              rcases hS k h with ⟨j', _, hj'⟩ | ⟨h1, _⟩
              · exact hI.free j' k hj'
              · intro hg
                have h2 := (hG k hg).2
                have := hI.foot.size
                omega
            · simp only [if_neg e] at h
              exact hI.free j k h.1)
      split
      · rename_i hw; rw [if_pos hw] at hrun2; exact .inl hrun2
      · rename_i hw; rw [if_neg hw] at hrun2; exact hrun2
/-- THE RULE: a region that draws its order: what is said of each operation holds behind it. -/
theorem wp_region_inv {id : Nat} {a : Act} {w : World} (A : Nat → Ass) (eat : Nat → List Nat) (N : Nat) (T : Nat → Prop) (own : Nat → Nat → Prop) (hm : P.follows .mixedOrders = true)
    (hc : FitB ops (fun i => (A i).sl) eat N a.tmps.size) (hst : ∀ i, i < ops.size + N → (A i).Stab w.heap.size T)
    (hap : ∀ i j k, own i k → own j k → i = j) (hmi : ∀ i k, own i k → ops.size ≤ i ∧ T k ∧ k < w.heap.size) (hh : ∀ i, ops.size ≤ i → i < ops.size + N → (A i).on (slotsOf a) (own i) w.drew)
    (hG : ∀ k, G k → T k ∧ k < w.heap.size) (ID : ∀ f w, I (f + 1) w → I f w) (hI0 : I ops.size w.drew) (hfr : ∀ i k, own i k → ¬ G k) (hstep : ∀ i o, ops[i]? = some o → StepOk G I P ops Q A eat N T w.drew a i o)
    (hend : ∀ a' w' own f, St ops A eat N T G w.drew a (fun _ => true) a' w' own → I f w' → Q .normal a' w') : (Code.region id ops true).wp P Q a w := by
  refine wp_region_any hm ?_
  have hsz : w.drew.heap.size = w.heap.size := rfl
  refine inv_any (w0 := w.drew) (a0 := a) hc (by rw [hsz]; exact hst) (by rw [hsz]; exact hG) ID hstep hend ops.size (Array.replicate ops.size false) a w.drew own (by simp) ?_ ?_ hI0
  · exact Nat.le_trans List.countP_le_length (by simp)
  · have hL : ∀ i, i < ops.size → (Array.replicate ops.size false).getD i true = false := fun i hi => by simp [hi]
    refine ⟨rfl, fun _ _ => rfl, rfl, Foot.refl _ _, hap, fun i k h => ⟨.inr (hmi i k h).2.1, by rw [hsz]; exact (hmi i k h).2.2⟩, fun i hiN hi _ => ?_, fun i o ho hi => ?_, hfr⟩
    · rcases Nat.lt_or_ge i ops.size with h | h
      · rw [hL i h] at hi; cases hi
      · exact hh i h hiN
    · rw [hL i (Array.getElem?_eq_some_iff.1 ho).1] at hi; cases hi
theorem St.kept {ops : Array Oper} {A : Nat → Ass} {eat : Nat → List Nat} {N : Nat} {T G : Nat → Prop} {w0 : World} {a0 : Act} {L : Nat → Bool} {a : Act} {w : World} {own : Nat → Nat → Prop} (h : St ops A eat N T G w0 a0 L a w own) (t : Nat) (ht : foreign ops t = true) : slotsOf a t = slotsOf a0 t :=
  h.keep t (fun j o ho hd => by
    have := all_range ht (Array.getElem?_eq_some_iff.1 ho).1
    simp [ho, hd] at this)
/-- What there is behind the region. -/
structure Fin_ (ops : Array Oper) (sls : List (List Nat)) (ons : List On) (eats : List (List Nat)) (N : Nat) (T G : Nat → Prop) (w0 : World) (a0 : Act) (a : Act) (w : World) (own : Nat → Nat → Prop) : Prop where
  st : St ops (assOf sls ons) (eatOf eats) N T G w0 a0 (fun _ => true) a w own
theorem Fin_.get {ops : Array Oper} {sls : List (List Nat)} {ons : List On} {eats : List (List Nat)} {N : Nat} {T G : Nat → Prop} {w0 : World} {a0 a : Act} {w : World} {own : Nat → Nat → Prop} (h : Fin_ ops sls ons eats N T G w0 a0 a w own) (i : Nat)
    (hi : (decide (i < ops.size + N) && (List.range ops.size).all (fun j => !(eatOf eats j).contains i)) = true) : (assOf sls ons i).on (slotsOf a) (own i) w := by
  rw [Bool.and_eq_true] at hi
  exact h.st.holds i (of_decide_eq_true hi.1) rfl (fun j hj he => by
    have := all_range hi.2 hj
    simp [he] at this)
theorem Fin_.at {ops : Array Oper} {sls : List (List Nat)} {ons : List On} {eats : List (List Nat)} {N : Nat} {T G : Nat → Prop} {w0 : World} {a0 a : Act} {w : World} {own : Nat → Nat → Prop} (h : Fin_ ops sls ons eats N T G w0 a0 a w own) (i : Nat) (on : On) (hon : ons[i]? = some on)
    (hi : (decide (i < ops.size + N) && (List.range ops.size).all (fun j => !(eatOf eats j).contains i)) = true) : on (slotsOf a) (own i) w := by
  have := h.get i hi
  simp only [assOf, hon, Option.getD_some] at this
  exact this
theorem wp_region_lists {l : List Oper} {id : Nat} {a : Act} {w : World} (sls : List (List Nat)) (ons : List On) (eats : List (List Nat)) (N : Nat) (T : Nat → Prop) (own : Nat → Nat → Prop) (hm : P.follows .mixedOrders = true)
    (hc : FitB l.toArray (fun i => (sls[i]?).getD []) (eatOf eats) N a.tmps.size) (hst : AllStab w.heap.size T sls ons)
    (hap : ∀ i j k, own i k → own j k → i = j) (hmi : ∀ i k, own i k → l.length ≤ i ∧ T k ∧ k < w.heap.size) (hh : ∀ i, l.length ≤ i → i < l.length + N → (assOf sls ons i).on (slotsOf a) (own i) w.drew)
    (hG : ∀ k, G k → T k ∧ k < w.heap.size) (ID : ∀ f w, I (f + 1) w → I f w) (hI0 : I l.length w.drew) (hfr : ∀ i k, own i k → ¬ G k)
    (hstep : AllStep (StepOk G I P l.toArray Q (assOf sls ons) (eatOf eats) N T w.drew a) 0 l)
    (hend : ∀ a' w' own f, Fin_ l.toArray sls ons eats N T G w.drew a a' w' own → I f w' → Q .normal a' w') : (Code.region id l.toArray true).wp P Q a w :=
  wp_region_inv (assOf sls ons) (eatOf eats) N T own hm hc (fun i _ => hst.at i) hap (fun i k h => by simpa using hmi i k h) (fun i h1 h2 => hh i (by simpa using h1) (by simpa using h2)) hG ID (by simpa using hI0) hfr
    (fun i o ho => by have := hstep.at i o (by simpa using ho); rwa [Nat.zero_add] at this) (fun a' w' own f h h2 => hend a' w' own f ⟨h⟩ h2)
end
end Sh
end
section
open Go.RowKit
set_option linter.unusedVariables false
set_option maxRecDepth 100000
def kTerms : Kd Term := Kd.slice 23 kCell (by decide)
/-- A row of rows of places, read: element i. -/
theorem terms_at {w : World} {ok : Nat → Prop} {A : Option Addr} {xs : List Term} (h : kTerms.C w ok A xs) (i : Nat) (hi : i < xs.length) : ∃ b off v, A = some ⟨b, off, none⟩ ∧ ok b ∧ w.cell? ⟨b, off + i, none⟩ = some v ∧ kCell.V w ok v xs[i] := by
  obtain ⟨b, off, cs, hA, hb, ⟨v, rfl, hV⟩, hc⟩ := Kd.C_get h (List.getElem?_eq_getElem hi)
  have := hc 0 _ rfl
  rw [show i * kTerms.sz + 0 = i from by simp [kTerms, Kd.slice]] at this
  exact ⟨b, off, v, hA, hb, this, hV⟩
set_option maxHeartbeats 2000000 in
theorem TrmMake_c (nm : ByteArray) (hnm : nm.size ≤ 1073741824) (v : Value) (ts : List Term) (hts : ts.length ≤ 100) (hle : ∀ t ∈ ts, t.length ≤ 100) (ok : Nat → Prop) (w : World) (hV : kTerms.V w ok v ts) (hok : ∀ k, ok k → k < w.heap.size) :
    Calls Tryz.prog 220 #[.string nm, v] w fun e w' => ∃ (u : Value) (t : Term), e = .returned u ∧ t.length ≤ 20000 ∧ kCell.R w' (fun k => w.heap.size ≤ k) u t ∧ Below w.heap.size w w' := by
  obtain ⟨A, c, rfl, h1, h2, h3, hC, hz⟩ := hV
  have HC := Sec.mk hC
  have HOK := Sec.mk hok
  clear hC hz hok
  have hu := Tryz.underlying39
  go_enter Tryz.func220, Tryz.ntmps220
  go_wp2
  go_loopw [5, 6] (fun ov iv wr => ∃ (k : Nat) (out : Term), k ≤ ts.length ∧ iv = .int .i64 k ∧ out.length ≤ 1 + 100 * k ∧ Sec (kCell.R wr (fun k => w.heap.size ≤ k) ov out) ∧ Sec (Below w.heap.size w wr)) (fun _ iv _ => ts.length - (intOf iv).toNat)
  case atStart => exact ⟨0, [⟨3, (ts.length : Int), nm⟩], Nat.zero_le _, rfl, by simp, ⟨⟨by simp, .inr ⟨w.heap.size, 1, #[.int .i64 3, .int .i64 ts.length, .string nm], rfl, heap_alloc_new w _, Nat.le_refl _, Nat.le_refl _, by decide, by rfl, kCell_Os.2 ⟨rfl, fun x hx => by simp at hx; subst hx; exact hnm⟩⟩⟩⟩, ⟨belA (Below.refl _ _) _⟩⟩
  case round =>
    obtain ⟨k, out, hk, rfl, hlo, hR, hb⟩ := hrel
    obtain ⟨A9, c9, rfl, hc9, -⟩ := Kd.R_form hR.out
    have T0 : Sec True := ⟨trivial⟩
    by_cases hlt : k < ts.length
    · obtain ⟨b, off, vt, rfl, hob, hcell, hVt⟩ := terms_at (Kd.C_below HC.out hb.out (by decide)) k hlt
      have hl1 := hle ts[k] (List.getElem_mem hlt)
      generalize ts[k] = t at *
      have VT := Sec.mk hVt
      have hat : Sec (∀ W, Below wr.heap.size wr W → W.cell? ⟨b, off + k, none⟩ = some vt) := ⟨fun W h => Raw.cell_below h hcell⟩
      have i0 : (0 : Int) ≤ (k : Int) := by omega
      have i1 : (k : Int) < (ts.length : Int) := by omega
      have HT := Sec.mk (TrmOk_c vt t ok wr hVt)
      obtain ⟨At, ct, rfl, -, -, ht3, -⟩ := hVt
      cases ht : trmOk t with
      | false =>
        rw [ht] at HT
        clear ht
        go_wp2_with (go_at_call 12; refine HT.out.mono ?_; rintro e w1 ⟨rfl, hb1⟩; have B1 := Sec.mk (bel hb.out hb1); clear hb1)
        go_ret
        exact ⟨_, [], rfl, by simp, Kd.R_mono (Kd.R_empty kCell (w := w1) (W := w1) (Nat.le_refl _)) (fun q h _ => Nat.le_trans B1.out.size h), belA B1.out _⟩
      | true =>
        rw [ht] at HT
        clear ht
        go_wp2_with (first | (clear T0; go_at_call 12; have T1 : Sec True := ⟨trivial⟩; refine HT.out.mono ?_; rintro e w1 ⟨rfl, hb1⟩; have B1 := Sec.mk (bel hb.out hb1); have R1 := Sec.mk (Kd.R_below hR.out hb1); have V1 := Sec.mk (Kd.V_below VT.out hb1 (by decide)); have k0 := hat.out _ hb1; clear hb1 hcell) | (clear T1; at_builtin; refine Kd.W_cat kCell rfl (.tmp 25) (.tmp 29) 23 (.agg #[.int .i64 0, .int .i64 0, .string ⟨#[]⟩]) 32 rfl Tryz.underlying23 info_cell rfl (by decide) (by decide) _ _ out t (fun k => w.heap.size ≤ k) ok rfl rfl (kCell_R_W ok R1.out) (Kd.V_mono V1.out (fun q hq => ⟨hq, fun e => by obtain ⟨_, _, _, h3⟩ := Kd.R_own R1.out; have h4 := (h3 q e.symm).1; have h5 := HOK.out q hq; omega⟩) (by decide)) (by omega) ?_; intro v2 w2 hW2 hg2; have R2 := Sec.mk (kCell_W_R hW2); have B2 := Sec.mk (B1.out.grown hg2 B1.out.size (fun q e => by obtain ⟨_, _, _, h3⟩ := Kd.R_own R1.out; exact (h3 q e).1)); clear hW2 hg2))
        go_roundw
        case rel => exact ⟨k + 1, out ++ t, by omega, by go_num, by rw [List.length_append]; omega, ⟨Kd.R_mono R2.out (fun q h _ => h.elim id (fun h => Nat.le_trans B1.out.size h))⟩, B2⟩
        case measure => simp [intOf]; omega
    · have HT := Sec.mk (TrmOk_c _ out _ wr (Kd.R_V hR.out))
      cases ht : trmOk out with
      | false =>
        rw [ht] at HT
        clear ht
        go_wp2_with (go_at_call 12; refine HT.out.mono ?_; rintro e w1 ⟨rfl, hb1⟩; have B1 := Sec.mk (bel hb.out hb1); clear hb1)
        go_ret
        exact ⟨_, [], rfl, by simp, Kd.R_mono (Kd.R_empty kCell (w := w1) (W := w1) (Nat.le_refl _)) (fun q h _ => Nat.le_trans B1.out.size h), belA B1.out _⟩
      | true =>
        rw [ht] at HT
        clear ht
        go_wp2_with (go_at_call 12; refine HT.out.mono ?_; rintro e w1 ⟨rfl, hb1⟩; have B1 := Sec.mk (bel hb.out hb1); have R1 := Sec.mk (Kd.R_below hR.out hb1); clear hb1)
        go_ret
        exact ⟨_, out, rfl, by omega, R1.out, B1.out⟩
end
section
open Go.RowKit
set_option linter.unusedVariables false
set_option maxRecDepth 100000
/-- The reader in block g, f turns ahead of the last. -/
def RI (w0 : World) (g PB : Nat) (f : Nat) (w : World) : Prop := ∃ P, Rd w0 w g P ∧ P + 400 * f ≤ PB
theorem RI.down {w0 : World} {g PB f : Nat} {w : World} (h : RI w0 g PB (f + 1) w) : RI w0 g PB f w := by
  obtain ⟨P, h1, h2⟩ := h
  exact ⟨P, h1, by omega⟩
theorem RI.below {w0 : World} {g PB f : Nat} {w w' : World} (h : RI w0 g PB f w) (hb : Below w.heap.size w w') : RI w0 g PB f w' := by
  obtain ⟨P, h1, h2⟩ := h
  exact ⟨P, h1.below hb, h2⟩
namespace Sh
variable {A : Nat → Ass} {eat : Nat → List Nat} {own : Nat → Nat → Prop} {i f : Nat} {o : Oper} {a : Act} {w w' w0 : World} {v : Value} {g PB P P' : Nat}
theorem rpost_pure (hI : RI w0 g PB (f + 1) w) (h : (A i).on (fun t => if o.dst = some t then v else slotsOf a t) (fun _ => False) w) : Post (fun k => k = g) (RI w0 g PB) f A eat own i o a w v w :=
  ⟨fun _ => False, Foot.refl _ _, hI.down, h, fun _ h => h.elim⟩
theorem rpost_new (hI : RI w0 g PB (f + 1) w) (hB : Below w.heap.size w w') (h : (A i).on (fun t => if o.dst = some t then v else slotsOf a t) (fun k => w.heap.size ≤ k ∧ k < w'.heap.size) w') : Post (fun k => k = g) (RI w0 g PB) f A eat own i o a w v w' :=
  ⟨fun k => w.heap.size ≤ k ∧ k < w'.heap.size, Foot.of_below hB, hI.down.below hB, h, fun k h => .inr h⟩
theorem rpost_rd (hPB : P + 400 * (f + 1) ≤ PB) (hR : Rd w0 w' g P') (hle : P' ≤ P + 400) (hO : Only g w w') (h : (A i).on (fun t => if o.dst = some t then v else slotsOf a t) (fun k => w.heap.size ≤ k ∧ k < w'.heap.size) w') : Post (fun k => k = g) (RI w0 g PB) f A eat own i o a w v w' :=
  ⟨fun k => w.heap.size ≤ k ∧ k < w'.heap.size, ⟨hO.os, hO.tape, hO.output, hO.size, fun k hk hn => hO.block k hk (fun e => hn (.inr e))⟩, ⟨P', hR, by omega⟩, h, fun k h => .inr h⟩
end Sh
section
variable {n0 : Nat} {T : Nat → Prop}
def onTab (t : Nat) (cs : Array Value) (ty : TypeId) (n : Nat) : On := fun val S w => ∃ b, val t = .slice (some ⟨b, 0, none⟩) n n ∧ w.heap[b]? = some (.cells cs ty (0, 0)) ∧ S b
theorem stab_tab (t : Nat) (cs : Array Value) (ty : TypeId) (n : Nat) : (Ass.mk [t] (onTab t cs ty n)).Stab n0 T := fun val val' S w w' h hs hk _ => by
  obtain ⟨b, h1, h2, h3⟩ := h
  exact ⟨b, (hs t (by simp)).trans h1, (hk b (.inl h3) (Array.getElem?_eq_some_iff.1 h2).1).trans h2, h3⟩
def onPt (t : Nat) (cs : Array Value) (ty : TypeId) (n : Nat) : On := fun val S w => ∃ b k, val t = .pointer (some ⟨b, k, none⟩) ∧ w.heap[b]? = some (.cells cs ty (0, 0)) ∧ S b ∧ k < n
theorem stab_pt (t : Nat) (cs : Array Value) (ty : TypeId) (n : Nat) : (Ass.mk [t] (onPt t cs ty n)).Stab n0 T := fun val val' S w w' h hs hk _ => by
  obtain ⟨b, k, h1, h2, h3, h4⟩ := h
  exact ⟨b, k, (hs t (by simp)).trans h1, (hk b (.inl h3) (Array.getElem?_eq_some_iff.1 h2).1).trans h2, h3, h4⟩
/-- Some places, no more than n. -/
def onT (t n : Nat) : On := fun val S w => ∃ x : Term, x.length ≤ n ∧ kCell.R w S (val t) x
theorem stab_T (t n : Nat) : (Ass.mk [t] (onT t n)).Stab n0 T := fun val val' S w w' h hs hk _ => by
  obtain ⟨x, h1, h2⟩ := h
  rw [← hs t (by simp)] at h2
  exact ⟨x, h1, Kd.R_move (fun k h1 h2 => ⟨h1, hk k (.inl h1) h2⟩) h2⟩
def onTs (t n : Nat) : On := fun val S w => ∃ x : List Term, x.length ≤ n ∧ (∀ y ∈ x, y.length ≤ 100) ∧ kTerms.R w S (val t) x
theorem stab_Ts (t n : Nat) : (Ass.mk [t] (onTs t n)).Stab n0 T := fun val val' S w w' h hs hk _ => by
  obtain ⟨x, h1, h0, h2⟩ := h
  rw [← hs t (by simp)] at h2
  exact ⟨x, h1, h0, Kd.R_move (fun k h1 h2 => ⟨h1, hk k (.inl h1) h2⟩) h2⟩
end
theorem Foot.only {g : Nat} {w w' : World} (h : Foot (fun k => k = g) w.drew w') : Only g w w' := ⟨h.os, h.tape, h.output, h.size, fun k hk hn => h.block k hk hn⟩
/-- Two rows as a row. -/
theorem terms_two {W : World} {S1 S2 : Nat → Prop} {v1 v2 : Value} {t1 t2 : Term} (h1 : kCell.R W S1 v1 t1) (h2 : kCell.R W S2 v2 t2) (hd : ∀ k, S1 k → ¬ S2 k) (hs1 : ∀ k, S1 k → k < W.heap.size) (hs2 : ∀ k, S2 k → k < W.heap.size) :
    kTerms.R (W.alloc (.cells #[v1, v2] 23)) (fun k => S1 k ∨ S2 k ∨ (W.heap.size ≤ k ∧ k < (W.alloc (.cells #[v1, v2] 23)).heap.size)) (.slice (some ⟨W.heap.size, 0, none⟩) 2 2) [t1, t2] := by
  refine ⟨by simp, .inr ⟨W.heap.size, 2, #[v1, v2], rfl, heap_alloc_new W _, .inr (.inr ⟨Nat.le_refl _, by simp⟩), Nat.le_refl _, by decide, rfl, ?_⟩⟩
  refine ⟨S1, S2, [v1], [v2], rfl, fun k h => ⟨⟨.inl h, fun e => by have := hs1 k h; omega⟩, hd k h⟩, fun k h => ⟨.inr (.inl h), fun e => by have := hs2 k h; omega⟩, ⟨v1, rfl, Kd.R_below h1 (belA (Below.refl _ _) _)⟩, ?_⟩
  exact ⟨S2, fun _ => False, [v2], [], rfl, fun k h => ⟨h, id⟩, fun k h => h.elim, ⟨v2, rfl, Kd.R_below h2 (belA (Below.refl _ _) _)⟩, rfl⟩
set_option maxHeartbeats 1000000 in
theorem head_c (w0 w : World) (g P : Nat) (hR : Rd w0 w g P) (hP : P ≤ 999990000) :
    Calls Tryz.prog 172 #[.pointer (some ⟨g, 0, none⟩)] w fun e w' => ∃ (u : Value) (t : Term), e = .returned u ∧ t.length ≤ 20000 ∧ kCell.R w' (fun k => w.heap.size ≤ k) u t ∧ Rd w0 w' g (P + 5000) ∧ Only g w w' := by
  obtain ⟨PB, hPB⟩ : ∃ n, n = P + 5000 := ⟨_, rfl⟩
  go_enter Tryz.func172, Tryz.ntmps172
  go_wp2
  refine Sh.wp_region_lists (G := fun k => k = g) (I := RI w0 g PB) [[3], [4], [5], [6], [7], [8], [9], [10], [11], [12], [13], [2]]
    [onTab 3 #[.string ⟨#[101]⟩, .string ⟨#[112]⟩, .string ⟨#[104]⟩] 9 3,
      fun val _ _ => val 4 = .pointer (some ⟨g, 0, none⟩),
      fun val _ _ => ∃ r : Int, val 5 = .int .i64 r ∧ (0 ≤ r ∧ r < 3),
      onPt 6 #[.string ⟨#[101]⟩, .string ⟨#[112]⟩, .string ⟨#[104]⟩] 9 3,
      fun val _ _ => ∃ x : ByteArray, val 7 = .string x ∧ x.size ≤ 8,
      fun val _ _ => val 8 = .pointer (some ⟨g, 0, none⟩),
      onT 9 40,
      fun val _ _ => val 10 = .pointer (some ⟨g, 0, none⟩),
      onT 11 40,
      onTs 12 100,
      onT 13 20000,
      onT 2 20000]
    [[], [], [], [0], [], [], [], [], [], [6, 8], [], [10]] 0 (fun k => k = g) (fun _ _ => False) (by kernel_rfl) ⟨by kernel_rfl, by kernel_rfl, by kernel_rfl, by kernel_rfl, by kernel_rfl⟩
    (.cons (stab_tab 3 #[.string ⟨#[101]⟩, .string ⟨#[112]⟩, .string ⟨#[104]⟩] 9 3) (.cons (stab_val 4 (fun v => v = .pointer (some ⟨g, 0, none⟩))) (.cons (stab_val 5 (fun v => ∃ r : Int, v = .int .i64 r ∧ (0 ≤ r ∧ r < 3))) (.cons (stab_pt 6 #[.string ⟨#[101]⟩, .string ⟨#[112]⟩, .string ⟨#[104]⟩] 9 3) (.cons (stab_val 7 (fun v => ∃ x : ByteArray, v = .string x ∧ x.size ≤ 8)) (.cons (stab_val 8 (fun v => v = .pointer (some ⟨g, 0, none⟩))) (.cons (stab_T 9 40) (.cons (stab_val 10 (fun v => v = .pointer (some ⟨g, 0, none⟩))) (.cons (stab_T 11 40) (.cons (stab_Ts 12 100) (.cons (stab_T 13 20000) (.cons (stab_T 2 20000) .nil))))))))))))
    (fun i j k h1 h2 => h1.elim) (fun i k h => h.elim) (fun i h1 h2 => by simp at h1 h2; omega) (fun k h => ⟨h, by rw [h]; exact hR.lt⟩) (fun f w h => RI.down h) ⟨P, hR.below (belD (Below.refl _ _)), by simp; omega⟩ (fun i k h => h.elim) (.cons ?_ (.cons ?_ (.cons ?_ (.cons ?_ (.cons ?_ (.cons ?_ (.cons ?_ (.cons ?_ (.cons ?_ (.cons ?_ (.cons ?_ (.cons ?_ .nil)))))))))))) ?_
  · intro a W own hfor huse hap hmi hF hfree f hI K hK
    have ec0 : a.eval (.const (.string ⟨#[101]⟩)) = .string ⟨#[101]⟩ := rfl
    have ec1 : a.eval (.const (.string ⟨#[112]⟩)) = .string ⟨#[112]⟩ := rfl
    have ec2 : a.eval (.const (.string ⟨#[104]⟩)) = .string ⟨#[104]⟩ := rfl
    refine op_val (.slice (some ⟨W.heap.size, 0, none⟩) 3 3) (W.alloc (.cells #[.string ⟨#[101]⟩, .string ⟨#[112]⟩, .string ⟨#[104]⟩] 9)) rfl ?_ (hK _ _ (Sh.rpost_new hI (belA (Below.refl _ _) _) ⟨W.heap.size, if_pos rfl, heap_alloc_new W _, Nat.le_refl _, by simp⟩))
    · clear hfor huse hap hmi hK hF
      generalize a.eval = ρ at *
      go_simp
  · intro a W own hfor huse hap hmi hF hfree f hI K hK
    have e0 : a.eval (.tmp 0) = .pointer (some ⟨g, 0, none⟩) := hfor 0 (by kernel_rfl)
    refine op_val (.pointer (some ⟨g, 0, none⟩)) W rfl ?_ (hK _ _ (Sh.rpost_pure hI ?_))
    · clear hfor huse hap hmi hK hF
      generalize a.eval = ρ at *
      go_simp
    · exact (if_pos rfl)
  · intro a W own hfor huse hap hmi hF hfree f hI K hK
    have e4 : a.eval (.tmp 4) = .pointer (some ⟨g, 0, none⟩) := huse 1 (by kernel_rfl)
    have efn : a.eval (.func 113) = .func (.func 113) #[] #[] := rfl
    have ec : a.eval (.const (.int .i64 3)) = .int .i64 3 := rfl
    obtain ⟨P, hRd, hPB⟩ := hI
    refine op_call (f := 113) (args := #[.pointer (some ⟨g, 0, none⟩), .int .i64 3]) (fun v w1 => ∃ r : Int, v = .int .i64 r ∧ (0 ≤ r ∧ r < 3) ∧ Rd w0 w1 g (P + 1) ∧ Only g W w1) rfl ?_ ?_ (fun v w1 h => ?_)
    · clear hfor huse hap hmi hK hF
      generalize a.eval = ρ at *
      go_simp
    · exact (pick_c w0 W g P 3 hRd (by omega)).mono (by rintro e w1 ⟨r, rfl, ⟨q0, q1, _⟩, h1, h2⟩; exact ⟨_, rfl, r, rfl, ⟨q0, q1 (by omega)⟩, h1, h2⟩)
    · obtain ⟨r, rfl, hr, h1, h2⟩ := h
      exact hK _ _ (Sh.rpost_rd hPB h1 (by omega) h2 ⟨r, if_pos rfl, hr⟩)
  · intro a W own hfor huse hap hmi hF hfree f hI K hK
    obtain ⟨b, e3, hb, hSb⟩ := (huse 0 (by kernel_rfl) : onTab 3 #[.string ⟨#[101]⟩, .string ⟨#[112]⟩, .string ⟨#[104]⟩] 9 3 (slotsOf a) (own 0) W)
    have e3 : a.eval (.tmp 3) = .slice (some ⟨b, 0, none⟩) 3 3 := e3
    obtain ⟨r, e5, hr0, hr1⟩ : ∃ r : Int, a.eval (.tmp 5) = .int .i64 r ∧ (0 ≤ r ∧ r < 3) := huse 2 (by kernel_rfl)
    obtain ⟨k, rfl⟩ : ∃ k : Nat, r = (k : Int) := ⟨r.toNat, by omega⟩
    have hk : k < 3 := by omega
    refine op_val (.pointer (some ⟨b, k, none⟩)) W rfl ?_ (hK _ _ ⟨own 0, Foot.refl _ _, RI.down hI, ⟨b, k, if_pos rfl, hb, hSb, hk⟩, fun q h => .inl ⟨0, by decide, h⟩⟩)
    · clear hfor huse hap hmi hK hF
      generalize a.eval = ρ at *
      go_simp
  · intro a W own hfor huse hap hmi hF hfree f hI K hK
    obtain ⟨b, k, e6, hb, hSb, hk⟩ := (huse 3 (by kernel_rfl) : onPt 6 #[.string ⟨#[101]⟩, .string ⟨#[112]⟩, .string ⟨#[104]⟩] 9 3 (slotsOf a) (own 3) W)
    have e6 : a.eval (.tmp 6) = .pointer (some ⟨b, k, none⟩) := e6
    have X := (box_at hb).2.1
    rcases (show k = 0 ∨ k = 1 ∨ k = 2 by omega) with rfl | rfl | rfl
    · have c0 := X 0 _ rfl
      refine op_val (.string ⟨#[101]⟩) W rfl ?_ (hK _ _ (Sh.rpost_pure hI ⟨_, if_pos rfl, by decide⟩))
      clear hfor huse hap hmi hK hF X
      generalize a.eval = ρ at *
      go_simp
    · have c0 := X 1 _ rfl
      refine op_val (.string ⟨#[112]⟩) W rfl ?_ (hK _ _ (Sh.rpost_pure hI ⟨_, if_pos rfl, by decide⟩))
      clear hfor huse hap hmi hK hF X
      generalize a.eval = ρ at *
      go_simp
    · have c0 := X 2 _ rfl
      refine op_val (.string ⟨#[104]⟩) W rfl ?_ (hK _ _ (Sh.rpost_pure hI ⟨_, if_pos rfl, by decide⟩))
      clear hfor huse hap hmi hK hF X
      generalize a.eval = ρ at *
      go_simp
  · intro a W own hfor huse hap hmi hF hfree f hI K hK
    have e0 : a.eval (.tmp 0) = .pointer (some ⟨g, 0, none⟩) := hfor 0 (by kernel_rfl)
    refine op_val (.pointer (some ⟨g, 0, none⟩)) W rfl ?_ (hK _ _ (Sh.rpost_pure hI ?_))
    · clear hfor huse hap hmi hK hF
      generalize a.eval = ρ at *
      go_simp
    · exact (if_pos rfl)
  · intro a W own hfor huse hap hmi hF hfree f hI K hK
    have e8 : a.eval (.tmp 8) = .pointer (some ⟨g, 0, none⟩) := huse 5 (by kernel_rfl)
    have efn : a.eval (.func 117) = .func (.func 117) #[] #[] := rfl
    have ec : a.eval (.const (.int .i64 4)) = .int .i64 4 := rfl
    have ec2 : a.eval (.const (.int .i64 3)) = .int .i64 3 := rfl
    obtain ⟨P, hRd, hPB⟩ := hI
    refine op_call (f := 117) (args := #[.pointer (some ⟨g, 0, none⟩), .int .i64 4, .int .i64 3]) (fun v w1 => ∃ t : Term, t.length ≤ 40 ∧ kCell.R w1 (fun k => W.heap.size ≤ k) v t ∧ Rd w0 w1 g (P + 300) ∧ Only g W w1) rfl ?_ ?_ (fun v w1 h => ?_)
    · clear hfor huse hap hmi hK hF
      generalize a.eval = ρ at *
      go_simp
    · exact (term_c w0 W g P 4 3 hRd (by omega) (by omega) (by omega)).mono (by rintro e w1 ⟨u, t, rfl, h1, h2, h3, h4, h5, h6⟩; exact ⟨_, rfl, t, h3, h1, h5, h6⟩)
    · obtain ⟨t, hl, h0, h1, h2⟩ := h
      exact hK _ _ (Sh.rpost_rd hPB h1 (by omega) h2 ⟨t, hl, by show kCell.R _ _ (if _ then _ else _) t; rw [if_pos rfl]; exact Kd.R_mono h0 (fun k h3 h4 => ⟨h3, h4⟩)⟩)
  · intro a W own hfor huse hap hmi hF hfree f hI K hK
    have e0 : a.eval (.tmp 0) = .pointer (some ⟨g, 0, none⟩) := hfor 0 (by kernel_rfl)
    refine op_val (.pointer (some ⟨g, 0, none⟩)) W rfl ?_ (hK _ _ (Sh.rpost_pure hI ?_))
    · clear hfor huse hap hmi hK hF
      generalize a.eval = ρ at *
      go_simp
    · exact (if_pos rfl)
  · intro a W own hfor huse hap hmi hF hfree f hI K hK
    have e10 : a.eval (.tmp 10) = .pointer (some ⟨g, 0, none⟩) := huse 7 (by kernel_rfl)
    have efn : a.eval (.func 117) = .func (.func 117) #[] #[] := rfl
    have ec : a.eval (.const (.int .i64 4)) = .int .i64 4 := rfl
    have ec2 : a.eval (.const (.int .i64 3)) = .int .i64 3 := rfl
    obtain ⟨P, hRd, hPB⟩ := hI
    refine op_call (f := 117) (args := #[.pointer (some ⟨g, 0, none⟩), .int .i64 4, .int .i64 3]) (fun v w1 => ∃ t : Term, t.length ≤ 40 ∧ kCell.R w1 (fun k => W.heap.size ≤ k) v t ∧ Rd w0 w1 g (P + 300) ∧ Only g W w1) rfl ?_ ?_ (fun v w1 h => ?_)
    · clear hfor huse hap hmi hK hF
      generalize a.eval = ρ at *
      go_simp
    · exact (term_c w0 W g P 4 3 hRd (by omega) (by omega) (by omega)).mono (by rintro e w1 ⟨u, t, rfl, h1, h2, h3, h4, h5, h6⟩; exact ⟨_, rfl, t, h3, h1, h5, h6⟩)
    · obtain ⟨t, hl, h0, h1, h2⟩ := h
      exact hK _ _ (Sh.rpost_rd hPB h1 (by omega) h2 ⟨t, hl, by show kCell.R _ _ (if _ then _ else _) t; rw [if_pos rfl]; exact Kd.R_mono h0 (fun k h3 h4 => ⟨h3, h4⟩)⟩)
  · intro a W own hfor huse hap hmi hF hfree f hI K hK
    obtain ⟨t1, hl1, r1⟩ := (huse 6 (by kernel_rfl) : onT 9 40 (slotsOf a) (own 6) W)
    obtain ⟨t2, hl2, r2⟩ := (huse 8 (by kernel_rfl) : onT 11 40 (slotsOf a) (own 8) W)
    have r1 : kCell.R W (own 6) (a.eval (.tmp 9)) t1 := r1
    have r2 : kCell.R W (own 8) (a.eval (.tmp 11)) t2 := r2
    obtain ⟨B1, m1, e9, -, -⟩ := Kd.R_form r1
    obtain ⟨B2, m2, e11, -, -⟩ := Kd.R_form r2
    rw [e9] at r1
    rw [e11] at r2
    refine op_val (.slice (some ⟨W.heap.size, 0, none⟩) 2 2) (W.alloc (.cells #[.slice B1 t1.length m1, .slice B2 t2.length m2] 23)) rfl ?_ (hK _ _ ⟨fun k => own 6 k ∨ own 8 k ∨ (W.heap.size ≤ k ∧ k < (W.alloc (.cells #[.slice B1 t1.length m1, .slice B2 t2.length m2] 23)).heap.size), Foot.of_below (belA (Below.refl _ _) _), (RI.down hI).below (belA (Below.refl _ _) _), ?_, ?_⟩)
    · clear hfor huse hap hmi hK hF r1 r2
      generalize a.eval = ρ at *
      go_simp
    · refine ⟨[t1, t2], by simp, fun y hy => by simp at hy; rcases hy with rfl | rfl <;> omega, ?_⟩
      show kTerms.R _ _ (if _ then _ else _) _
      rw [if_pos rfl]
      exact terms_two r1 r2 (fun k h1 h2 => by have := hap 6 8 k h1 h2; omega) (fun k h => (hmi 6 k h).2) (fun k h => (hmi 8 k h).2)
    · intro k h
      rcases h with h | h | h
      · exact .inl ⟨6, by decide, h⟩
      · exact .inl ⟨8, by decide, h⟩
      · exact .inr h
  · intro a W own hfor huse hap hmi hF hfree f hI K hK
    obtain ⟨x, e7, hx⟩ : ∃ x : ByteArray, a.eval (.tmp 7) = .string x ∧ x.size ≤ 8 := huse 4 (by kernel_rfl)
    obtain ⟨ts, h1, h2, r3⟩ := (huse 9 (by kernel_rfl) : onTs 12 100 (slotsOf a) (own 9) W)
    have r3 : kTerms.R W (own 9) (a.eval (.tmp 12)) ts := r3
    have efn : a.eval (.func 220) = .func (.func 220) #[] #[] := rfl
    obtain ⟨v12, e12⟩ : ∃ v, a.eval (.tmp 12) = v := ⟨_, rfl⟩
    rw [e12] at r3
    refine op_call (f := 220) (args := #[.string x, v12]) (fun v w1 => ∃ t : Term, t.length ≤ 20000 ∧ kCell.R w1 (fun k => W.heap.size ≤ k) v t ∧ Below W.heap.size W w1) rfl ?_ ?_ (fun v w1 h => ?_)
    · clear hfor huse hap hmi hK hF r3
      generalize a.eval = ρ at *
      go_simp
    · exact (TrmMake_c x (by omega) v12 ts h1 h2 (own 9) W (Kd.R_V r3) (fun k h => (hmi 9 k h).2)).mono (by rintro e w1 ⟨u, t, rfl, h1, h2, h3⟩; exact ⟨_, rfl, t, h1, h2, h3⟩)
    · obtain ⟨t, hl, h0, h1⟩ := h
      exact hK _ _ (Sh.rpost_new hI h1 ⟨t, hl, by show kCell.R _ _ (if _ then _ else _) t; rw [if_pos rfl]; exact Kd.R_mono h0 (fun k h3 h4 => ⟨h3, h4⟩)⟩)
  · intro a W own hfor huse hap hmi hF hfree f hI K hK
    obtain ⟨t, hl, r⟩ := (huse 10 (by kernel_rfl) : onT 13 20000 (slotsOf a) (own 10) W)
    refine op_val (a.eval (.tmp 13)) W rfl ?_ (hK _ _ ⟨own 10, Foot.refl _ _, RI.down hI, ?_, fun k h => .inl ⟨10, by decide, h⟩⟩)
    · rfl
    · refine ⟨t, hl, ?_⟩
      show kCell.R _ _ (if _ then _ else _) t
      rw [if_pos rfl]
      exact r
  intro a' W own f' hf hI'
  have hsz := hf.st.size
  have hdf := hf.st.rest
  obtain ⟨⟨l⟩, df⟩ := a'
  have hl0 : l.length = 14 := hsz
  clear hsz
  obtain rfl : df = [] := hdf
  obtain ⟨x0, l0, rfl, hl1⟩ := lst_cons hl0
  clear hl0
  obtain ⟨x1, l1, rfl, hl2⟩ := lst_cons hl1
  clear hl1
  obtain ⟨x2, l2, rfl, hl3⟩ := lst_cons hl2
  clear hl2
  obtain ⟨x3, l3, rfl, hl4⟩ := lst_cons hl3
  clear hl3
  obtain ⟨x4, l4, rfl, hl5⟩ := lst_cons hl4
  clear hl4
  obtain ⟨x5, l5, rfl, hl6⟩ := lst_cons hl5
  clear hl5
  obtain ⟨x6, l6, rfl, hl7⟩ := lst_cons hl6
  clear hl6
  obtain ⟨x7, l7, rfl, hl8⟩ := lst_cons hl7
  clear hl7
  obtain ⟨x8, l8, rfl, hl9⟩ := lst_cons hl8
  clear hl8
  obtain ⟨x9, l9, rfl, hl10⟩ := lst_cons hl9
  clear hl9
  obtain ⟨x10, l10, rfl, hl11⟩ := lst_cons hl10
  clear hl10
  obtain ⟨x11, l11, rfl, hl12⟩ := lst_cons hl11
  clear hl11
  obtain ⟨x12, l12, rfl, hl13⟩ := lst_cons hl12
  clear hl12
  obtain ⟨x13, l13, rfl, hl14⟩ := lst_cons hl13
  clear hl13
  obtain rfl := List.eq_nil_of_length_eq_zero hl14
  have e0 := hf.st.kept 0 (by kernel_rfl)
  simp only [slotsOf, Act.eval, Array.getD_eq_getD_getElem?, List.getElem?_toArray, List.getElem?_cons_zero, Option.getD_some] at e0
  subst e0
  have e1 := hf.st.kept 1 (by kernel_rfl)
  simp only [slotsOf, Act.eval, Array.getD_eq_getD_getElem?, List.getElem?_toArray, List.getElem?_cons_succ, List.getElem?_cons_zero, Option.getD_some] at e1
  subst e1
  obtain ⟨t, hl, r⟩ := hf.at 11 (onT 2 20000) rfl (by kernel_rfl)
  have r : kCell.R W (own 11) x2 t := r
  obtain ⟨P', hR', hP'⟩ := hI'
  have HO := Sec.mk (Foot.only hf.st.foot)
  have HR := Sec.mk (hR'.mono (P' := P + 5000) (by omega))
  have HT : Sec (kCell.R W (fun k => w.heap.size ≤ k) x2 t) := ⟨Kd.R_mono r (fun k h _ => by
    rcases (hf.st.mine 11 k h).1 with h1 | h1
    · exact h1
    · exact (hf.st.free 11 k h h1).elim)⟩
  clear hf r hR' hP'
  go_wp2
  go_ret
  exact ⟨_, t, rfl, hl, HT.out, HR.out, HO.out⟩
end
end
section
open Go.RowKit
set_option linter.unusedVariables false
set_option maxRecDepth 100000

/-- Places with short names and small numbers. -/
def Places (t : Term) : Prop := ∀ x ∈ t, x.name.size ≤ 11 ∧ -300000 ≤ x.n ∧ x.n ≤ 300000
theorem Drawn.places {t : Term} (h : Drawn t) : Places t := fun x hx => by have := h x hx; exact ⟨by omega, by omega, by omega⟩
def SpoilOut (w0 w : World) (g P : Nat) (e : Ending) (w' : World) : Prop := ∃ u t, e = .returned u ∧ kCell.R w' (fun k => w.heap.size ≤ k) u t ∧ t.length ≤ 41 ∧ Places t ∧ Rd w0 w' g (P + 10) ∧ Only g w w'
/-- What holds while places are spoiled. -/
structure SX (w0 w : World) (g P : Nat) (v : Value) (t : Term) (wr : World) : Prop where
  row : kCell.R wr (fun k => w.heap.size ≤ k) v t
  rd : Rd w0 wr g P
  only : Only g w wr
theorem SX.pick {w0 w w1 w2 : World} {g P P' : Nat} {v : Value} {t : Term} (h : SX w0 w g P v t w1) (hg : g < w.heap.size) (hR : Rd w0 w2 g P') (hO : Only g w1 w2) : SX w0 w g P' v t w2 :=
  ⟨Kd.R_move (hO.keeps (ok := fun k => w.heap.size ≤ k) (by omega)) h.row, hR, h.only.trans hO⟩
theorem SX.alloc {w0 w w1 : World} {g P : Nat} {v : Value} {t : Term} (h : SX w0 w g P v t w1) (o : Obj) : SX w0 w g P v t (w1.alloc o) :=
  ⟨Kd.R_below h.row (belA (Below.refl _ _) _), h.rd.below (belA (Below.refl _ _) _), h.only.alloc _⟩
theorem SX.drew {w0 w w1 : World} {g P : Nat} {v : Value} {t : Term} (h : SX w0 w g P v t w1) : SX w0 w g P v t w1.drew :=
  ⟨Kd.R_below h.row (belD (Below.refl _ _)), h.rd.below (belD (Below.refl _ _)), h.only.drew⟩
theorem SX.rdm {w0 w w1 : World} {g P P' : Nat} {v : Value} {t : Term} (h : SX w0 w g P v t w1) (hP : P ≤ P') : SX w0 w g P' v t w1 := ⟨h.row, h.rd.mono hP, h.only⟩
theorem places_set {t : Term} (h : Places t) {i : Nat} (x : Cell) (hx : x.name.size ≤ 11 ∧ -300000 ≤ x.n ∧ x.n ≤ 300000) : Places (t.set i x) := fun y hy => by
  rcases List.mem_or_eq_of_mem_set hy with hy | rfl
  · exact h y hy
  · exact hx
theorem tab_lit (xs : List Int) {r : Int} (h0 : 0 ≤ r) (h1 : r < xs.length) : ∃ v : Int, v ∈ xs ∧ ∀ w : World, (w.alloc (.cells (xs.map (Value.int .i64)).toArray 3)).cell? ⟨w.heap.size, r.toNat, none⟩ = some (.int .i64 v) := by
  have hr : r.toNat < xs.length := by omega
  refine ⟨xs[r.toNat], List.getElem_mem _, fun w => ?_⟩
  rw [cell_of_row _ _ _ _ _ _ (heap_alloc_new w _)]
  simp [hr]
theorem SX.grown {w0 w w1 w2 : World} {g P : Nat} {v v2 : Value} {t t2 : Term} {row : Option Nat} (h : SX w0 w g P v t w1) (hw0 : w0.heap.size ≤ w.heap.size) (hlt : g < w.heap.size) (hR : kCell.R w2 (fun k => w.heap.size ≤ k) v2 t2) (hg : w1.grownBy w2 row) (hr : ∀ k, row = some k → w.heap.size ≤ k) : SX w0 w g P v2 t2 w2 :=
  ⟨hR, h.rd.grown hg (fun k e => ⟨by have := hr k e; omega, by have := hr k e; omega⟩), h.only.grown hg hr⟩
theorem SX.store {w0 w w1 : World} {g P b n cap : Nat} {t : Term} (h : SX w0 w g P (.slice (some ⟨b, 0, none⟩) n cap) t w1) (hw0 : w0.heap.size ≤ w.heap.size) (hlt : g < w.heap.size) (i j : Nat) (x' : Cell) (u : Value) (hi : i < t.length) (hj : j < 3) (hx : cellC x' = (cellC t[i]).set j u) (hn : x'.name.size ≤ 1073741824) :
    SX w0 w g P (.slice (some ⟨b, 0, none⟩) n cap) (t.set i x') (w1.setCell ⟨b, i * 3 + j, none⟩ u) := by
  have hb : w.heap.size ≤ b := by
    obtain ⟨_, _, _, h3⟩ := Kd.R_own h.row
    exact (h3 b rfl).1
  exact ⟨kCell_store h.row i j x' u hi hj hx hn, h.rd.set (by omega) (by omega) _ _, h.only.setNew hb _ _⟩

def SpA (w0 w : World) (g P b k tb : Nat) (m : Int) (u : Value) (t : Term) (e : Ending) (w4 : World) : Prop := ∃ r v : Int, e = .returned (.int .i64 r) ∧ 0 ≤ r ∧ r < 4 ∧ (-99999 ≤ v ∧ v ≤ 99999) ∧ w4.cell? ⟨tb, r.toNat, none⟩ = some (.int .i64 v) ∧ SX w0 w g (P + 3) u t w4 ∧ w4.cell? ⟨b, k * 3 + 1, none⟩ = some (.int .i64 m) ∧ w4.frozen? ⟨b, k * 3 + 1, none⟩ = false ∧ b < w4.heap.size
def SpB (w0 w : World) (g P b k : Nat) (m : Int) (u : Value) (t : Term) (e : Ending) (w4 : World) : Prop := ∃ r v : Int, e = .returned (.int .i64 r) ∧ 0 ≤ r ∧ r < 4 ∧ (-99999 ≤ v ∧ v ≤ 99999) ∧ (∀ w : World, (w.alloc (.cells #[.int .i64 1, .int .i64 (-1), .int .i64 99999, .int .i64 (-99999)] 3)).cell? ⟨w.heap.size, r.toNat, none⟩ = some (.int .i64 v)) ∧ SX w0 w g (P + 3) u t w4 ∧ w4.cell? ⟨b, k * 3 + 1, none⟩ = some (.int .i64 m) ∧ w4.frozen? ⟨b, k * 3 + 1, none⟩ = false ∧ b < w4.heap.size
set_option maxHeartbeats 1000000 in
theorem spoil_c (w0 w : World) (g P : Nat) (v : Value) (t : Term) (hR : Rd w0 w g P) (hP : P ≤ 999999000) (hV : kCell.V w (fun k => k ≠ g) v t) (ht : t ≠ []) (hl : t.length ≤ 40) (hD : Drawn t) :
    Calls Tryz.prog 116 #[.pointer (some ⟨g, 0, none⟩), v] w (SpoilOut w0 w g P) := by
  have hu := Tryz.underlying39
  have H0 := Sec.mk hR
  have hlt := hR.lt
  have hB0 : w0.heap.size ≤ w.heap.size := hR.bel.size
  have hge := hR.ge
  obtain ⟨A, c, hv, _⟩ := id hV
  subst hv
  have HV := Sec.mk hV
  have HD := Sec.mk hD
  have h0 : 0 < t.length := List.length_pos_iff.2 ht
  clear hR hV hD ht
  go_enter Tryz.func116, Tryz.ntmps116
  go_wp2_with (at_builtin; refine Kd.W_cat kCell rfl (.tmp 7) (.tmp 8) 23 (.agg #[.int .i64 0, .int .i64 0, .string ⟨#[]⟩]) 32 rfl Tryz.underlying23 info_cell rfl (by decide) (by decide) (.slice (some ⟨w.heap.size, 0, none⟩) 0 0) _ [] t (fun k => w.heap.size ≤ k) (fun k => k ≠ g) rfl rfl (Kd.W_empty kCell w _ _ (Nat.le_refl _)) (Kd.V_move (fun k hk hl => ⟨⟨hk, by simp [Value.ownBlock]; omega⟩, Below.heap_alloc _ _ _ hl⟩) HV.out (by decide)) (by simp; omega) ?_; intro v1 w1 hR1 hg1; have S1 := Sec.mk (show SX w0 w g P v1 t w1 from ⟨Kd.R_mono (kCell_W_R hR1) (fun k hk _ => hk.elim id (fun h => by simp at h; omega)), (H0.out.below (belA (Below.refl _ _) _)).grown hg1 (fun k e => by simp [Value.ownBlock] at e; omega), ((Only.refl g w).alloc _).grown hg1 (fun k e => by simp [Value.ownBlock] at e; omega)⟩); obtain ⟨A1, c1, e1, _⟩ := Kd.R_form S1.out.row; subst e1; clear hR1 hg1)
  refine (pick_c w0 _ g P _ S1.out.rd (by omega)).mono ?_
  rintro e w2 ⟨k, rfl, ⟨k0, k1, _⟩, hR2, hO2⟩
  have k2 := k1 (by omega)
  have S2 := Sec.mk (S1.out.pick hlt hR2 hO2)
  clear hR2 hO2 k1
  obtain ⟨k, rfl⟩ := Int.eq_ofNat_of_zero_le k0
  have k3 : k < t.length := by omega
  clear k0 k2
  go_wp2_with fail
  refine (pick_c w0 _ g (P + 1) 7 S2.out.rd (by omega)).mono ?_
  rintro e w3 ⟨r, rfl, ⟨r0, r1, _⟩, hR3, hO3⟩
  have r2 := r1 (by omega)
  have S3 := Sec.mk (S2.out.pick hlt hR3 hO3)
  clear hR3 hO3 r1
  obtain ⟨b, rfl, _, hb0, hb1, kf⟩ := Kd.R_block S3.out.row h0
  have hC := Kd.V_C (Kd.R_V S3.out.row)
  obtain ⟨b', off, hA, _, c0, c1', c2, hnm⟩ := cell_at hC k k3
  simp only [Option.some.injEq, Addr.mk.injEq, and_true] at hA
  obtain ⟨rfl, rfl⟩ := hA
  rw [Nat.zero_add] at c0 c1' c2
  have hxm := HD.out _ (List.getElem_mem k3)
  have hpl : Sec (Places t) := ⟨HD.out.places⟩
  clear hC
  have hb3 : w.heap.size ≤ w3.heap.size := S3.out.only.size
  rcases (by omega : r = 0 ∨ r = 1 ∨ r = 2 ∨ r = 3 ∨ r = 4 ∨ r = 5 ∨ r = 6) with rfl | rfl | rfl | rfl | rfl | rfl | rfl
  · go_wp2_with fail
    go_ret
    exact ⟨_, _, rfl, kCell_cut S3.out.row k (by omega), by rw [List.length_take]; omega, fun x hx => hpl.out x (List.mem_of_mem_take hx), S3.out.rd.mono (by omega), S3.out.only⟩
  · go_wp2_with (at_builtin; refine Kd.R_appG kCell (B := w.heap.size) rfl (.tmp 32) (.tmp 37) 23 (.agg #[.int .i64 0, .int .i64 0, .string ⟨#[]⟩]) 32 rfl Tryz.underlying23 info_cell rfl (by decide) (by decide) _ _ t[k] [.int .i64 t[k].kind, .int .i64 t[k].n, .string t[k].name] rfl rfl (by simp) S3.out.row (by omega) (kCell_none _ _ hnm) (by omega) ?_; intro v9 w9 hR9 hg9 hr9; have S9 := Sec.mk (S3.out.grown hB0 hlt hR9 hg9 hr9); clear hR9 hg9 hr9)
    go_ret
    exact ⟨_, _, rfl, S9.out.row, by rw [List.length_append, List.length_singleton]; omega, fun x hx => by
      rcases List.mem_append.1 hx with h | h
      · exact hpl.out x h
      · rw [List.mem_singleton.1 h]; exact hpl.out _ (List.getElem_mem k3), S9.out.rd.mono (by omega), S9.out.only⟩
  · go_wp2
    have hk0 : ((k : Int) < (t.length : Int)) := by omega
    have CA := Sec.mk ((pick_c w0 (w3.alloc (.cells #[.int .i64 1, .int .i64 (-1), .int .i64 99999, .int .i64 (-99999)] 3)).drew g (P + 2) 4 ((S3.out.rd.mono (by omega)).below (belD (belA (Below.refl _ _) _))) (by omega)).mono (R' := SpA w0 w g P b k w3.heap.size t[k].n (.slice (some ⟨b, 0, none⟩) t.length c1) t) (by
      rintro e w4 ⟨r, rfl, ⟨q0, q1, _⟩, hR4, hO4⟩
      have q2 := q1 (by omega)
      obtain ⟨v, hv, ct⟩ := tab_int _ [1, -1, 99999, -99999] rfl (show (w3.alloc (.cells #[.int .i64 1, .int .i64 (-1), .int .i64 99999, .int .i64 (-99999)] 3)).drew.heap[w3.heap.size]? = _ from heap_alloc_new w3 _) (by omega) hO4 q0 q2
      have hbz : b < (w3.alloc (.cells #[.int .i64 1, .int .i64 (-1), .int .i64 99999, .int .i64 (-99999)] 3)).heap.size := by simp; omega
      refine ⟨r, v, rfl, q0, q2, by simp at hv; omega, ct, ((S3.out.alloc _).drew).pick hlt hR4 hO4, ?_, ?_, Nat.lt_of_lt_of_le hbz hO4.size⟩
      · exact (World.cell?_of_block (a := ⟨b, k * 3 + 1, none⟩) (hO4.block b hbz (by omega))).trans ((World.cell?_of_block (a := ⟨b, k * 3 + 1, none⟩) (Below.heap_alloc _ _ _ hb1)).trans c1')
      · exact (World.frozen?_of_block (a := ⟨b, k * 3 + 1, none⟩) (hO4.block b hbz (by omega))).trans ((World.frozen?_of_block (a := ⟨b, k * 3 + 1, none⟩) (Below.heap_alloc _ _ _ hb1)).trans (kf _))))
    have CB := Sec.mk ((pick_c w0 w3.drew g (P + 2) 4 ((S3.out.rd.mono (by omega)).below (belD (Below.refl _ _))) (by omega)).mono (R' := SpB w0 w g P b k t[k].n (.slice (some ⟨b, 0, none⟩) t.length c1) t) (by
      rintro e w4 ⟨r, rfl, ⟨q0, q1, _⟩, hR4, hO4⟩
      have q2 := q1 (by omega)
      obtain ⟨v, hv, ct⟩ := tab_lit [1, -1, 99999, -99999] q0 q2
      refine ⟨r, v, rfl, q0, q2, by simp at hv; omega, ct, ((S3.out.drew).pick hlt hR4 hO4), ?_, ?_, Nat.lt_of_lt_of_le hb1 hO4.size⟩
      · exact (World.cell?_of_block (a := ⟨b, k * 3 + 1, none⟩) (hO4.block b hb1 (by omega))).trans c1'
      · exact (World.frozen?_of_block (a := ⟨b, k * 3 + 1, none⟩) (hO4.block b hb1 (by omega))).trans (kf _)))
    go_region_with (first | (go_at_call 113; refine CA.out.mono ?_; rintro e w4 ⟨r, v, rfl, q0, q2, hv9, ct, S4, kc9, kf9, hb9⟩; have S4 := Sec.mk S4; have hv9 := Sec.mk hv9) | (go_at_call 113; refine CB.out.mono ?_; rintro e w4 ⟨r, v, rfl, q0, q2, hv9, ct, S4, kc9, kf9, hb9⟩; have S4 := Sec.mk S4; have hv9 := Sec.mk hv9))
    all_goals
      obtain ⟨hv1, hv2⟩ := hv9.out
      have wq : Sec (IntKind.i64.wrap (t[k].n + v) = t[k].n + v) := ⟨IntWalk.i64_in _ (by omega)⟩
      have S5 := Sec.mk (S4.out.store hB0 hlt k 1 ⟨t[k].kind, IntKind.i64.wrap (t[k].n + v), t[k].name⟩ (.int .i64 (IntKind.i64.wrap (t[k].n + v))) k3 (by omega) rfl (by show t[k].name.size ≤ _; omega))
      have S6 := Sec.mk (S5.out.alloc (.cells #[.int .i64 1, .int .i64 (-1), .int .i64 99999, .int .i64 (-99999)] 3))
      have S7 := Sec.mk ((S4.out.alloc (.cells #[.int .i64 1, .int .i64 (-1), .int .i64 99999, .int .i64 (-99999)] 3)).store hB0 hlt k 1 ⟨t[k].kind, IntKind.i64.wrap (t[k].n + v), t[k].name⟩ (.int .i64 (IntKind.i64.wrap (t[k].n + v))) k3 (by omega) rfl (by show t[k].name.size ≤ _; omega))
      have hp9 := Sec.mk (places_set hpl.out (i := k) ⟨t[k].kind, IntKind.i64.wrap (t[k].n + v), t[k].name⟩ ⟨by show t[k].name.size ≤ 11; omega, by show -300000 ≤ IntKind.i64.wrap (t[k].n + v); rw [wq.out]; omega, by show IntKind.i64.wrap (t[k].n + v) ≤ 300000; rw [wq.out]; omega⟩)
      go_wp2
      go_ret
      first
        | exact ⟨_, _, rfl, S5.out.row, by rw [List.length_set]; omega, hp9.out, S5.out.rd.mono (by omega), S5.out.only⟩
        | exact ⟨_, _, rfl, S6.out.row, by rw [List.length_set]; omega, hp9.out, S6.out.rd.mono (by omega), S6.out.only⟩
        | exact ⟨_, _, rfl, S7.out.row, by rw [List.length_set]; omega, hp9.out, S7.out.rd.mono (by omega), S7.out.only⟩
  · go_wp2_with fail
    have Ht := Sec.mk (heap_alloc_new w3 (.cells #[.string ⟨#[]⟩, .string ⟨#[116, 111, 111, 108, 111, 110, 103, 110, 97, 109, 101]⟩, .string ⟨#[65]⟩, .string ⟨#[97]⟩] 9))
    refine (pick_c w0 _ g (P + 2) 4 ((S3.out.rd.mono (by omega)).below (belA (Below.refl _ _) _)) (by omega)).mono ?_
    rintro e w4 ⟨r, rfl, ⟨q0, q1, _⟩, hR4, hO4⟩
    have q2 := q1 (by omega)
    obtain ⟨v, hv, ct⟩ := tab_str _ [⟨#[]⟩, ⟨#[116, 111, 111, 108, 111, 110, 103, 110, 97, 109, 101]⟩, ⟨#[65]⟩, ⟨#[97]⟩] rfl Ht.out (by omega) hO4 q0 q2
    have hvn : v.size ≤ 11 := by simp at hv; rcases hv with rfl | rfl | rfl | rfl <;> decide
    have S4 := Sec.mk ((S3.out.alloc _).pick hlt hR4 hO4)
    have S5 := Sec.mk (S4.out.store hB0 hlt k 2 ⟨t[k].kind, t[k].n, v⟩ (.string v) k3 (by omega) rfl (by show v.size ≤ _; omega))
    have hb4 : b < w4.heap.size := by have := hO4.size; simp at this; omega
    have kf4 : ∀ j, w4.frozen? ⟨b, j, none⟩ = false := fun j => (World.frozen?_of_block (a := ⟨b, j, none⟩) (hO4.block b (by simp; omega) (by omega))).trans ((World.frozen?_of_block (a := ⟨b, j, none⟩) (Below.heap_alloc _ _ _ hb1)).trans (kf j))
    have kc4 : w4.cell? ⟨b, k * 3 + 2, none⟩ = some (.string t[k].name) := ((World.cell?_of_block (a := ⟨b, k * 3 + 2, none⟩) (hO4.block b (by simp; omega) (by omega))).trans ((World.cell?_of_block (a := ⟨b, k * 3 + 2, none⟩) (Below.heap_alloc _ _ _ hb1)).trans c2))
    clear hO4 hR4 q1 hv kf
    go_wp2
    go_ret
    exact ⟨_, _, rfl, S5.out.row, by rw [List.length_set]; omega, places_set hpl.out _ ⟨hvn, by show -300000 ≤ t[k].n; omega, by show t[k].n ≤ 300000; omega⟩, S5.out.rd.mono (by omega), S5.out.only⟩
  · go_wp2_with fail
    refine (pick_c w0 _ g (P + 2) 5 (S3.out.rd.mono (by omega)) (by omega)).mono ?_
    rintro e w4 ⟨r, rfl, ⟨q0, q1, _⟩, hR4, hO4⟩
    have q2 := q1 (by omega)
    have S4 := Sec.mk (S3.out.pick hlt hR4 hO4)
    have S5 := Sec.mk (S4.out.store hB0 hlt k 0 ⟨r, t[k].n, t[k].name⟩ (.int .i64 r) k3 (by omega) rfl (by show t[k].name.size ≤ _; omega))
    have hb4 : b < w4.heap.size := by have := hO4.size; omega
    have kf4 : ∀ j, w4.frozen? ⟨b, j, none⟩ = false := fun j => (World.frozen?_of_block (a := ⟨b, j, none⟩) (hO4.block b (by omega) (by omega))).trans (kf j)
    have kc4 : w4.cell? ⟨b, k * 3, none⟩ = some (.int .i64 t[k].kind) := (World.cell?_of_block (a := ⟨b, k * 3, none⟩) (hO4.block b (by omega) (by omega))).trans c0
    clear hO4 hR4 q1 kf
    go_wp2
    go_ret
    exact ⟨_, _, rfl, S5.out.row, by rw [List.length_set]; omega, places_set hpl.out _ ⟨by show t[k].name.size ≤ 11; omega, by show -300000 ≤ t[k].n; omega, by show t[k].n ≤ 300000; omega⟩, S5.out.rd.mono (by omega), S5.out.only⟩
  · go_wp2
    go_loopw [5] (fun v wr => ∃ t' : Term, t'.length ≤ 41 ∧ Sec (Places t' ∧ SX w0 w g (P + 2) v t' wr)) (fun v _ => 50 - lenOf v)
    case atStart => exact ⟨t, by omega, ⟨hpl.out, S3.out.rdm (by omega)⟩⟩
    case round =>
      obtain ⟨t', hl', hS⟩ := hrel
      obtain ⟨A', c', e, _⟩ := Kd.R_form hS.out.2.row
      subst e
      clear c0 c1' c2 kf hnm
      by_cases h40 : (t'.length : Int) ≤ 40
      · go_wp2_with (at_builtin; refine Kd.R_appG kCell (B := w.heap.size) rfl (.tmp 80) (.tmp 82) 23 (.agg #[.int .i64 0, .int .i64 0, .string ⟨#[]⟩]) 32 rfl Tryz.underlying23 info_cell rfl (by decide) (by decide) _ _ ⟨3, 1, ⟨#[102]⟩⟩ [.int .i64 3, .int .i64 1, .string ⟨#[102]⟩] rfl rfl (by simp) hS.out.2.row (by have := hS.out.2.only.size; omega) (kCell_none _ ⟨3, 1, ⟨#[102]⟩⟩ (by decide)) (by omega) ?_; intro v9 w9 hR9 hg9 hr9; have S9 := Sec.mk (hS.out.2.grown hB0 hlt hR9 hg9 hr9); have L9 := Sec.mk (lenOf_R hR9); clear hR9 hg9 hr9)
        go_roundw
        case rel => exact ⟨t' ++ [⟨3, 1, ⟨#[102]⟩⟩], by simp; omega, ⟨fun x hx => by
          rcases List.mem_append.1 hx with h | h
          · exact hS.out.1 x h
          · rw [List.mem_singleton.1 h]; exact ⟨by decide, by decide, by decide⟩, S9.out⟩⟩
        case measure => have h9 := L9.out; rw [List.length_append] at h9; show 50 - lenOf _ < 50 - lenOf _; rw [h9]; simp only [lenOf, List.length_singleton]; omega
      · go_wp2
        go_ret
        exact ⟨_, t', rfl, hS.out.2.row, hl', hS.out.1, hS.out.2.rd.mono (by omega), hS.out.2.only⟩
  · go_wp2_with fail
    have Ht := Sec.mk (heap_alloc_new w3 (.cells #[.int .i64 99999, .int .i64 100000, .int .i64 (-1)] 3))
    refine (pick_c w0 _ g (P + 2) 3 ((S3.out.rd.mono (by omega)).below (belA (Below.refl _ _) _)) (by omega)).mono ?_
    rintro e w4 ⟨r, rfl, ⟨q0, q1, _⟩, hR4, hO4⟩
    have q2 := q1 (by omega)
    obtain ⟨v, hv, ct⟩ := tab_int _ [99999, 100000, -1] rfl Ht.out (by omega) hO4 q0 q2
    have hvn : -300000 ≤ v ∧ v ≤ 300000 := by simp at hv; omega
    have S4 := Sec.mk ((S3.out.alloc _).pick hlt hR4 hO4)
    have e1 : (t.set k ⟨1, t[k].n, t[k].name⟩).length = t.length := by simp
    have e2 : ((t.set k ⟨1, t[k].n, t[k].name⟩).set k ⟨1, v, t[k].name⟩).length = t.length := by simp
    have S5 := Sec.mk (((S4.out.store hB0 hlt k 0 ⟨1, t[k].n, t[k].name⟩ (.int .i64 1) k3 (by omega) rfl (by show t[k].name.size ≤ _; omega)).store hB0 hlt k 1 ⟨1, v, t[k].name⟩ (.int .i64 v) (by omega) (by omega) (by simp [cellC]) (by show t[k].name.size ≤ _; omega)).store hB0 hlt k 2 ⟨1, v, ⟨#[]⟩⟩ (.string ⟨#[]⟩) (by omega) (by omega) (by simp [cellC]) (by show (⟨#[]⟩ : ByteArray).size ≤ _; decide))
    have hb4 : b < w4.heap.size := by have := hO4.size; simp at this; omega
    have kf4 : ∀ j, w4.frozen? ⟨b, j, none⟩ = false := fun j => (World.frozen?_of_block (a := ⟨b, j, none⟩) (hO4.block b (by simp; omega) (by omega))).trans ((World.frozen?_of_block (a := ⟨b, j, none⟩) (Below.heap_alloc _ _ _ hb1)).trans (kf j))
    have kc0 : w4.cell? ⟨b, k * 3, none⟩ = some (.int .i64 t[k].kind) := ((World.cell?_of_block (a := ⟨b, k * 3, none⟩) (hO4.block b (by simp; omega) (by omega))).trans ((World.cell?_of_block (a := ⟨b, k * 3, none⟩) (Below.heap_alloc _ _ _ hb1)).trans c0))
    have kc1 : w4.cell? ⟨b, k * 3 + 1, none⟩ = some (.int .i64 t[k].n) := ((World.cell?_of_block (a := ⟨b, k * 3 + 1, none⟩) (hO4.block b (by simp; omega) (by omega))).trans ((World.cell?_of_block (a := ⟨b, k * 3 + 1, none⟩) (Below.heap_alloc _ _ _ hb1)).trans c1'))
    have kc2 : w4.cell? ⟨b, k * 3 + 2, none⟩ = some (.string t[k].name) := ((World.cell?_of_block (a := ⟨b, k * 3 + 2, none⟩) (hO4.block b (by simp; omega) (by omega))).trans ((World.cell?_of_block (a := ⟨b, k * 3 + 2, none⟩) (Below.heap_alloc _ _ _ hb1)).trans c2))
    have hp1 : Sec (Places (((t.set k ⟨1, t[k].n, t[k].name⟩).set k ⟨1, v, t[k].name⟩).set k ⟨1, v, ⟨#[]⟩⟩)) := ⟨places_set (places_set (places_set hpl.out _ ⟨by show t[k].name.size ≤ 11; omega, by show -300000 ≤ t[k].n; omega, by show t[k].n ≤ 300000; omega⟩) _ ⟨by show t[k].name.size ≤ 11; omega, hvn.1, hvn.2⟩) _ ⟨by show (⟨#[]⟩ : ByteArray).size ≤ 11; decide, hvn.1, hvn.2⟩⟩
    clear hO4 hR4 q1 kf hv e1 e2
    go_wp2
    go_ret
    exact ⟨_, _, rfl, S5.out.row, by simp; omega, hp1.out, S5.out.rd.mono (by omega), S5.out.only⟩

def OrOut (w0 w : World) (g P : Nat) (e : Ending) (w' : World) : Prop := ∃ u t, e = .returned u ∧ kCell.R w' (fun k => w.heap.size ≤ k) u t ∧ t.length ≤ 41 ∧ Places t ∧ Rd w0 w' g (P + 400) ∧ Only g w w'
theorem termOr_c (w0 w : World) (g P : Nat) (n : Int) (hR : Rd w0 w g P) (hP : P ≤ 999998000) (hn : 0 ≤ n) (hn2 : n ≤ 1000000000) :
    Calls Tryz.prog 178 #[.pointer (some ⟨g, 0, none⟩), .int .i64 n] w (OrOut w0 w g P) := by
  have hu := Tryz.underlying39
  have H0 := Sec.mk hR
  have hlt := hR.lt
  have hB0 : w0.heap.size ≤ w.heap.size := hR.bel.size
  have hge := hR.ge
  clear hR
  go_enter Tryz.func178, Tryz.ntmps178
  go_wp2_with fail
  have Ht := Sec.mk (heap_alloc_new w (.cells #[.int .i64 3, .int .i64 8, .int .i64 20, .int .i64 40] 3))
  refine (pick_c w0 _ g P 4 (H0.out.below (belA (Below.refl _ _) _)) (by omega)).mono ?_
  rintro e w1 ⟨r, rfl, ⟨q0, q1, _⟩, hR1, hO1⟩
  have q2 := q1 (by omega)
  obtain ⟨v, hv, ct⟩ := tab_int _ [3, 8, 20, 40] rfl Ht.out (by omega) hO1 q0 q2
  have hR1' := Sec.mk hR1
  have hO1' := Sec.mk (((Only.refl g w).alloc _).trans hO1)
  obtain ⟨v, rfl⟩ : ∃ v' : Nat, v = (v' : Int) := ⟨v.toNat, by simp at hv; omega⟩
  have hv1 : v ≤ 40 := by simp at hv; omega
  have hz1 : w.heap.size ≤ w1.heap.size := hO1'.out.size
  clear hO1 hR1 q1 hv
  go_wp2_with fail
  refine (term_c w0 _ g (P + 1) v 4 hR1'.out (by omega) (by omega) hv1).mono ?_
  rintro e w2 ⟨u, t, rfl, hR2, hne, hl, hD, hRd, hO2⟩
  have hO2' := Sec.mk (hO1'.out.trans hO2)
  have hR2' := Sec.mk (Kd.R_mono hR2 (S1 := fun k => w.heap.size ≤ k) (fun k h _ => by omega))
  have hD' := Sec.mk hD
  have hRd' := Sec.mk hRd
  have hz2 : w.heap.size ≤ w2.heap.size := hO2'.out.size
  obtain ⟨A, c, e, _⟩ := Kd.R_form hR2
  subst e
  clear hO2 hR2 hD hRd
  go_wp2_with fail
  refine (odd_c w0 _ g (P + 1 + 300) n hRd'.out (by omega) hn hn2).mono ?_
  rintro e w3 ⟨bb, rfl, hR3, hO3⟩
  have hO3' := Sec.mk (hO2'.out.trans hO3)
  have hR3' := Sec.mk hR3
  have hT3 := Sec.mk (Kd.R_move (hO3.keeps (ok := fun k => w.heap.size ≤ k) (by omega)) hR2'.out)
  have hz3 : w.heap.size ≤ w3.heap.size := hO3'.out.size
  clear hO3 hR3
  cases bb with
  | true =>
    go_wp2_with (go_at_call 116; refine (spoil_c w0 _ g _ _ t hR3'.out (by omega) (Kd.V_mono (Kd.R_V hT3.out) (fun k h => by omega) (by decide)) hne hl hD'.out).mono ?_; rintro e w4 ⟨u4, t4, rfl, hR4, hl4, hD4, hRd4, hO4⟩; have hR4' := Sec.mk hR4; have hx4 := Sec.mk (hO3'.out.trans hO4); have hD4' := Sec.mk hD4; have hRd4' := Sec.mk hRd4; clear hR4 hO4 hD4 hRd4)
    go_ret
    exact ⟨_, t4, rfl, Kd.R_mono hR4'.out (fun k h _ => by omega), hl4, hD4'.out, hRd4'.out.mono (by omega), hx4.out⟩
  | false =>
    go_wp2
    go_ret
    exact ⟨_, t, rfl, hT3.out, by omega, hD'.out.places, hR3'.out.mono (by omega), hO3'.out⟩
end
end Go.Proofs.YtgiobpggonceeaaGreatDoor
