/- The reader of draws: what holds of it, and its pick. Condition: it has been asked no more than a number of times. -/
import Derived.Test.YtenigopoknajgaaDoorKinds
import Derived.Outline
import Derived.KernelRfl
import Derived.WalkLawsBesides
import Derived.Deep.LoopGhost
import Derived.Deep.QuietTactic
import Derived.BigQuiet
import Derived.Laws.Bits64
namespace Go.Proofs.YtenigopoknajgaaDoor
open Go.RowKit
set_option linter.unusedVariables false
set_option maxRecDepth 100000

/-- Only block g of what was there has turned. -/
structure Only (g : Nat) (w w' : World) : Prop where
  os : w'.os = w.os
  tape : w'.tape = w.tape
  output : w'.output = w.output
  size : w.heap.size ≤ w'.heap.size
  block : ∀ k, k < w.heap.size → k ≠ g → w'.heap[k]? = w.heap[k]?
theorem Only.refl (g : Nat) (w : World) : Only g w w := ⟨rfl, rfl, rfl, Nat.le_refl _, fun _ _ _ => rfl⟩
theorem Only.of_below {g : Nat} {w w' : World} (h : Below w.heap.size w w') : Only g w w' := ⟨h.os, h.tape, h.output, h.size, fun k hk _ => h.block k hk⟩
theorem Only.trans {g : Nat} {a b c : World} (h : Only g a b) (k : Only g b c) : Only g a c :=
  ⟨k.os.trans h.os, k.tape.trans h.tape, k.output.trans h.output, Nat.le_trans h.size k.size, fun i hi hg => (k.block i (Nat.lt_of_lt_of_le hi h.size) hg).trans (h.block i hi hg)⟩
theorem Only.alloc {g : Nat} {a b : World} (h : Only g a b) (o : Obj) : Only g a (b.alloc o) := h.trans (Only.of_below (belA (Below.refl _ _) o))
theorem Only.drew {g : Nat} {a b : World} (h : Only g a b) : Only g a b.drew := ⟨h.os, h.tape, h.output, h.size, h.block⟩
theorem Only.set {g : Nat} {a b : World} (h : Only g a b) (i : Nat) (u : Value) : Only g a (b.setCell ⟨g, i, none⟩ u) :=
  h.trans ⟨rfl, rfl, rfl, by simp [World.setCell], fun k _ hk => Below.heap_setCell _ _ _ _ hk⟩
theorem Only.keeps {g : Nat} {w w' : World} (h : Only g w w') {ok : Nat → Prop} (hg : ¬ ok g) : Keeps w w' ok ok := fun k hk hl => ⟨hk, h.block k hl (fun e => hg (e ▸ hk))⟩
theorem Only.below {g : Nat} {w0 w w' : World} (h : Only g w w') (hb : Below w0.heap.size w0 w) (hg : w0.heap.size ≤ g) : Below w0.heap.size w0 w' :=
  hb.trans ⟨h.os, h.tape, h.output, h.size, fun k hk => h.block k (Nat.lt_of_lt_of_le hk hb.size) (by omega)⟩

/-- The reader in block g: made behind w0, asked at most P times. -/
structure Rd (w0 w : World) (g P : Nat) : Prop where
  is : ∃ (A : Option Addr) (c p : Nat) (bs : List UInt8), w.heap[g]? = some (.cells #[.slice A bs.length c, .int .i64 p] 86 (0, 0)) ∧ p ≤ P ∧ bs.length ≤ 2000 ∧ kByte.C w0 (fun _ => True) A bs
  bel : Below w0.heap.size w0 w
  ge : w0.heap.size ≤ g
theorem Rd.lt {w0 w : World} {g P : Nat} (h : Rd w0 w g P) : g < w.heap.size := by
  obtain ⟨A, c, p, bs, h1, _⟩ := h.is
  exact (Array.getElem?_eq_some_iff.1 h1).1
theorem Rd.mono {w0 w : World} {g P P' : Nat} (h : Rd w0 w g P) (hP : P ≤ P') : Rd w0 w g P' := by
  obtain ⟨A, c, p, bs, h1, h2, h3⟩ := h.is
  exact ⟨⟨A, c, p, bs, h1, Nat.le_trans h2 hP, h3⟩, h.bel, h.ge⟩
theorem Rd.below {w0 w w' : World} {g P : Nat} (h : Rd w0 w g P) (hb : Below w.heap.size w w') : Rd w0 w' g P := by
  obtain ⟨A, c, p, bs, h1, h2⟩ := h.is
  exact ⟨⟨A, c, p, bs, (hb.block g h.lt).trans h1, h2⟩, Go.Proofs.YtenigopoknajgaaDoor.bel h.bel hb, h.ge⟩

theorem Only.setNew {g b : Nat} {w w' : World} (h : Only g w w') (hb : w.heap.size ≤ b) (i : Nat) (u : Value) : Only g w (w'.setCell ⟨b, i, none⟩ u) :=
  ⟨h.os, h.tape, h.output, by have := h.size; simpa [World.setCell] using this, fun k hk hg => (Below.heap_setCell _ _ _ _ (by show k ≠ b; omega)).trans (h.block k hk hg)⟩
theorem Rd.set {w0 w : World} {g P b : Nat} (h : Rd w0 w g P) (hb : b ≠ g) (h0 : w0.heap.size ≤ b) (i : Nat) (u : Value) : Rd w0 (w.setCell ⟨b, i, none⟩ u) g P := by
  obtain ⟨A, c, p, bs, h1, h2⟩ := h.is
  exact ⟨⟨A, c, p, bs, (Below.heap_setCell _ _ _ _ (by show g ≠ b; omega)).trans h1, h2⟩, h.bel.setCell (p := ⟨b, i, none⟩) h0 u, h.ge⟩
/-- A block of one's own, not g, whole. -/
theorem Only.blk {g b : Nat} {w w' : World} {o : Obj} (h : Only g w w') (hb : w.heap[b]? = some o) (hg : b ≠ g) : w'.heap[b]? = some o :=
  (h.block b (Array.getElem?_eq_some_iff.1 hb).1 hg).trans hb
theorem Only.grown {g : Nat} {w w1 w2 : World} {row : Option Nat} (h : Only g w w1) (hg : w1.grownBy w2 row) (hr : ∀ k, row = some k → w.heap.size ≤ k) : Only g w w2 :=
  ⟨hg.os.trans h.os, hg.tape.trans h.tape, hg.output.trans h.output, Nat.le_trans h.size hg.size, fun k hk hne => (hg.block k (Nat.lt_of_lt_of_le hk h.size) (fun e => by have := hr k e.symm; omega)).trans (h.block k hk hne)⟩
theorem Rd.grown {w0 w w1 : World} {g P : Nat} {row : Option Nat} (h : Rd w0 w g P) (hg : w.grownBy w1 row) (hr : ∀ k, row = some k → w0.heap.size ≤ k ∧ k ≠ g) : Rd w0 w1 g P := by
  obtain ⟨A, c, p, bs, h1, h2⟩ := h.is
  exact ⟨⟨A, c, p, bs, (hg.block g h.lt (fun e => (hr g e.symm).2 rfl)).trans h1, h2⟩, h.bel.grown hg h.bel.size (fun k e => (hr k e).1), h.ge⟩
theorem bits_xor_i64 (a b : Int) (h1 : 0 ≤ a) (h2 : a < 4611686018427387904) (h3 : 0 ≤ b) (h4 : b < 4611686018427387904) : 0 ≤ bits .xor .i64 a b ∧ bits .xor .i64 a b < 4611686018427387904 := by
  obtain ⟨a, rfl⟩ := Int.eq_ofNat_of_zero_le h1
  obtain ⟨b, rfl⟩ := Int.eq_ofNat_of_zero_le h3
  have hx : a ^^^ b < 2 ^ 62 := Nat.xor_lt_two_pow (by omega) (by omega)
  have e1 : (BitVec.ofInt 64 (a : Int)).toNat = a := by
    rw [BitVec.ofInt_natCast, BitVec.toNat_ofNat]; exact Nat.mod_eq_of_lt (by omega)
  have e2 : (BitVec.ofInt 64 (b : Int)).toNat = b := by
    rw [BitVec.ofInt_natCast, BitVec.toNat_ofNat]; exact Nat.mod_eq_of_lt (by omega)
  have e : bits .xor .i64 (a : Int) (b : Int) = ((a ^^^ b : Nat) : Int) := by
    show IntKind.i64.wrap ((BitVec.ofInt 64 (a : Int) ^^^ BitVec.ofInt 64 (b : Int)).toNat : Int) = _
    rw [BitVec.toNat_xor, e1, e2, IntKind.wrap_i64]
    omega
  rw [e]; omega

theorem byte_at {w : World} {ok : Nat → Prop} {A : Option Addr} {xs : List UInt8} (h : kByte.C w ok A xs) (i : Nat) (hi : i < xs.length) : ∃ b off, A = some ⟨b, off, none⟩ ∧ ok b ∧ w.cell? ⟨b, off + i, none⟩ = some (.int .u8 xs[i].toNat) := by
  obtain ⟨b, off, cs, hA, hb, hK, hc⟩ := Kd.C_get h (List.getElem?_eq_getElem hi)
  obtain ⟨rfl, _⟩ := hK
  refine ⟨b, off, hA, hb, ?_⟩
  have := hc 0 _ rfl
  rw [show i * kByte.sz + 0 = i from by simp [kByte, Kd.byte, Kd.scalar]] at this
  exact this

/-- A number that was picked. -/
def Picked (n r : Int) : Prop := 0 ≤ r ∧ (1 ≤ n → r < n) ∧ (n < 1 → r = 0)
theorem picked_zero (n : Int) : Picked n 0 := ⟨by omega, fun h => by omega, fun _ => rfl⟩
theorem picked_mod {n x : Int} (h : ¬ n < 1) (hx : 0 ≤ x) : Picked n (x % n) := ⟨Int.emod_nonneg _ (by omega), fun _ => Int.emod_lt_of_pos _ (by omega), fun h2 => absurd h2 h⟩

theorem w64 {x : Int} (h1 : 0 ≤ x) (h2 : x < 4611686018427387904) : wrap64 x = x := by unfold wrap64; omega
theorem pick_fin (y1 y2 p len : Nat) (n : Int) (hn : ¬ n < 1) (hl : 0 < len) (hp : p ≤ 1000000000) (h1 : y1 < 256) (h2 : y2 < 256) :
    Picked n ((bits BinOp.xor IntKind.i64 (wrap64 (↑y1 * 131 + ↑y2 * 1117 + ↑p * 29 + wrap64 (wrap64 ((p : Int) / (len : Int)) * 53))) (wrap64 ((wrap64 (↑y1 * 131 + ↑y2 * 1117 + ↑p * 29 + wrap64 (wrap64 ((p : Int) / (len : Int)) * 53))).tdiv 64))).tmod n) := by
  have m : 0 ≤ (p : Int) / len ∧ (p : Int) / len ≤ p := ⟨Int.ediv_nonneg (by omega) (by omega), Int.ediv_le_self _ (by omega)⟩
  generalize (p : Int) / (len : Int) = z at *
  rw [w64 (x := z) (by omega) (by omega), w64 (x := z * 53) (by omega) (by omega)]
  have hX : 0 ≤ (y1 : Int) * 131 + y2 * 1117 + p * 29 + z * 53 ∧ (y1 : Int) * 131 + y2 * 1117 + p * 29 + z * 53 < 4000000000000 := by omega
  generalize (y1 : Int) * 131 + y2 * 1117 + p * 29 + z * 53 = X at *
  rw [w64 (x := X) (by omega) (by omega), Int.tdiv_eq_ediv_of_nonneg hX.1, w64 (x := X / 64) (by omega) (by omega)]
  have hX2 := bits_xor_i64 X (X / 64) hX.1 (by omega) (by omega) (by omega)
  rw [Int.tmod_eq_emod_of_nonneg hX2.1]
  exact picked_mod hn hX2.1
theorem pick_c (w0 w : World) (g P : Nat) (n : Int) (hR : Rd w0 w g P) (hP : P ≤ 1000000000) :
    Calls Tryd.prog 57 #[.pointer (some ⟨g, 0, none⟩), .int .i64 n] w fun e w' => ∃ r : Int, e = .returned (.int .i64 r) ∧ Picked n r ∧ Rd w0 w' g (P + 1) ∧ Only g w w' := by
  obtain ⟨A, c, p, bs, hg, hp, hl, hC⟩ := hR.is
  have hB := Sec.mk hR.bel
  have hG := hR.ge
  have hlt := hR.lt
  have hu := Tryd.underlying86
  have c0 : w.cell? ⟨g, 0, none⟩ = some (.slice A bs.length c) := by rw [cell_of_row w g 0 _ _ _ hg]; rfl
  have c1 : w.cell? ⟨g, 1, none⟩ = some (.int .i64 p) := by rw [cell_of_row w g 1 _ _ _ hg]; rfl
  have f1 : w.frozen? ⟨g, 1, none⟩ = false := by simp [World.frozen?, hg]
  have hfin : Sec (Rd w0 (w.setCell ⟨g, 1, none⟩ (.int .i64 ((p : Int) + 1))) g (P + 1)) := ⟨⟨⟨A, c, p + 1, bs, by
      have : (w.setCell ⟨g, 1, none⟩ (.int .i64 ((p : Int) + 1))).heap[g]? = some (.cells (#[.slice A bs.length c, .int .i64 p].setIfInBounds 1 (.int .i64 ((p : Int) + 1))) 86 (0, 0)) := by
        simp only [World.setCell, Array.getElem?_modify, hg]; simp
      rw [this]; rfl, by omega, hl, hC⟩, hB.out.setCell (p := ⟨g, 1, none⟩) hG _, hG⟩⟩
  have HC := Sec.mk (Kd.C_below hC hfin.out.bel (by decide))
  have hon : Sec (Only g w (w.setCell ⟨g, 1, none⟩ (.int .i64 ((p : Int) + 1)))) := ⟨(Only.refl _ _).set _ _⟩
  clear hR hg hC
  by_cases h1 : n < 1
  · go_enter Tryd.func57, Tryd.ntmps57
    go_wp2
    go_ret
    exact ⟨0, rfl, picked_zero _, hfin.out, hon.out⟩
  · by_cases h2 : bs = []
    · subst h2
      go_enter Tryd.func57, Tryd.ntmps57
      go_wp2
      go_ret
      exact ⟨0, rfl, picked_zero _, hfin.out, hon.out⟩
    · have h3 : 0 < bs.length := List.length_pos_iff.2 h2
      have h4 : ((bs.length : Int) == 0) = false := by rw [beq_eq_false_iff_ne]; omega
      have h6 : (n == 0) = false := by rw [beq_eq_false_iff_ne]; omega
      by_cases h5 : p < bs.length
      · obtain ⟨b, off, rfl, hob, cb⟩ := byte_at HC.out p h5
        have hbd : (bs[p].toNat : Int) < 256 := by have := bs[p].toNat_lt; omega
        go_enter Tryd.func57, Tryd.ntmps57
        go_wp2
        go_ret
        exact ⟨_, rfl, picked_mod (by omega) (by omega), hfin.out, hon.out⟩
      · have t1 : (p : Int).tmod bs.length = (p : Int) % bs.length := Int.tmod_eq_emod_of_nonneg (by omega)
        have t2 : ((p : Int) * 7 + 3).tmod bs.length = ((p : Int) * 7 + 3) % bs.length := Int.tmod_eq_emod_of_nonneg (by omega)
        have t3 : (p : Int).tdiv bs.length = (p : Int) / bs.length := Int.tdiv_eq_ediv_of_nonneg (by omega)
        have m1 : 0 ≤ (p : Int).tmod bs.length := by rw [t1]; exact Int.emod_nonneg _ (by omega)
        have m2 : (p : Int).tmod bs.length < bs.length := by rw [t1]; exact Int.emod_lt_of_pos _ (by omega)
        have m3 : 0 ≤ ((p : Int) * 7 + 3).tmod bs.length := by rw [t2]; exact Int.emod_nonneg _ (by omega)
        have m4 : ((p : Int) * 7 + 3).tmod bs.length < bs.length := by rw [t2]; exact Int.emod_lt_of_pos _ (by omega)
        have m5 : 0 ≤ (p : Int).tdiv bs.length ∧ (p : Int).tdiv bs.length ≤ p := by rw [t3]; exact ⟨Int.ediv_nonneg (by omega) (by omega), Int.ediv_le_self _ (by omega)⟩
        clear t1 t2 t3
        obtain ⟨b, off, rfl, hob, cb1⟩ := byte_at HC.out ((p : Int).tmod bs.length).toNat (by omega)
        obtain ⟨b', off', e, _, cb2⟩ := byte_at HC.out (((p : Int) * 7 + 3).tmod bs.length).toNat (by omega)
        simp only [Option.some.injEq, Addr.mk.injEq, and_true] at e
        obtain ⟨rfl, rfl⟩ := e
        have hb1 : (bs[((p : Int).tmod bs.length).toNat]'(by omega)).toNat < 256 := UInt8.toNat_lt _
        have hb2 : (bs[(((p : Int) * 7 + 3).tmod bs.length).toNat]'(by omega)).toNat < 256 := UInt8.toNat_lt _
        generalize (bs[((p : Int).tmod bs.length).toNat]'(by omega)).toNat = y1 at *
        generalize (bs[(((p : Int) * 7 + 3).tmod bs.length).toNat]'(by omega)).toNat = y2 at *
        have q1 : IntKind.i64.wrap ((p : Int) * 7) = (p : Int) * 7 := IntWalk.i64_in _ (by omega)
        have q2 : IntKind.i64.wrap ((p : Int) * 7 + 3) = (p : Int) * 7 + 3 := IntWalk.i64_in _ (by omega)
        have q3 : IntKind.i64.wrap (y1 : Int) = y1 := IntWalk.i64_in _ (by omega)
        have q4 : IntKind.i64.wrap (y2 : Int) = y2 := IntWalk.i64_in _ (by omega)
        obtain ⟨m6, m7⟩ := m5
        generalize hz : (p : Int).tdiv bs.length = z at *
        have Hz := Sec.mk hz
        clear hz
        have q5 : IntKind.i64.wrap ((y1 : Int) * 131) = (y1 : Int) * 131 := IntWalk.i64_in _ (by omega)
        have q6 : IntKind.i64.wrap ((y2 : Int) * 1117) = (y2 : Int) * 1117 := IntWalk.i64_in _ (by omega)
        have q7 : IntKind.i64.wrap ((y1 : Int) * 131 + (y2 : Int) * 1117) = (y1 : Int) * 131 + (y2 : Int) * 1117 := IntWalk.i64_in _ (by omega)
        have q8 : IntKind.i64.wrap ((p : Int) * 29) = (p : Int) * 29 := IntWalk.i64_in _ (by omega)
        have q9 : IntKind.i64.wrap ((y1 : Int) * 131 + (y2 : Int) * 1117 + (p : Int) * 29) = (y1 : Int) * 131 + (y2 : Int) * 1117 + (p : Int) * 29 := IntWalk.i64_in _ (by omega)
        have q10 : IntKind.i64.wrap ((p : Int).tdiv bs.length) = (p : Int).tdiv bs.length := by rw [Hz.out]; exact IntWalk.i64_in _ (by omega)
        have q11 : IntKind.i64.wrap ((p : Int).tdiv bs.length * 53) = (p : Int).tdiv bs.length * 53 := by rw [Hz.out]; exact IntWalk.i64_in _ (by omega)
        have q12 : IntKind.i64.wrap ((y1 : Int) * 131 + (y2 : Int) * 1117 + (p : Int) * 29 + (p : Int).tdiv bs.length * 53) = (y1 : Int) * 131 + (y2 : Int) * 1117 + (p : Int) * 29 + (p : Int).tdiv bs.length * 53 := by rw [Hz.out]; exact IntWalk.i64_in _ (by omega)
        go_enter Tryd.func57, Tryd.ntmps57
        go_wp2
        go_quiet (fail)
        clear q1 q2 q3 q4 q5 q6 q7 q8 q9 q10 q11 q12
        have hq := Sec.mk (pick_fin y1 y2 p bs.length n (by omega) h3 (by omega) hb1 hb2)
        go_wp2
        go_ret
        exact ⟨_, rfl, hq.out, ⟨hfin.out.is, ⟨hfin.out.bel.os, hfin.out.bel.tape, hfin.out.bel.output, hfin.out.bel.size, hfin.out.bel.block⟩, hG⟩, ⟨hon.out.os, hon.out.tape, hon.out.output, hon.out.size, hon.out.block⟩⟩
end Go.Proofs.YtenigopoknajgaaDoor
