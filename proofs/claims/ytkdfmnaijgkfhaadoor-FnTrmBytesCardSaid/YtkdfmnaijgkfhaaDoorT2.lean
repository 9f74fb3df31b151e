/- Contracts: a place read from bytes, by the reference. -/
import Derived.Test.YtkdfmnaijgkfhaaDoorT1
import Derived.Test.YtkdfmnaijgkfhaaDoorI3
import Derived.Laws.IdiomStrings
namespace Go.Proofs.YtkdfmnaijgkfhaaDoor
open Go.RowKit
set_option linter.unusedVariables false
set_option maxRecDepth 100000
/-- A place read at a place, and where that ends. -/
def cellD (bs : List UInt8) (k : Nat) : Option (Cell × Nat) :=
  if h : k + 4 ≤ bs.length then
    if bs[k].toNat ≠ 3 then some (⟨bs[k].toNat, numD bs (k + 1), ⟨#[]⟩⟩, k + 4)
    else if h2 : k + 5 ≤ bs.length then
      if k + 5 + bs[k + 4].toNat ≤ bs.length then some (⟨3, numD bs (k + 1), ⟨((bs.drop (k + 5)).take bs[k + 4].toNat).toArray⟩⟩, k + 5 + bs[k + 4].toNat) else none
    else none
  else none
theorem cellD_short {bs : List UInt8} {k : Nat} (h : ¬ k + 4 ≤ bs.length) : cellD bs k = none := dif_neg h
theorem cellD_plain {bs : List UInt8} {k : Nat} (h : k + 4 ≤ bs.length) (h3 : bs[k].toNat ≠ 3) : cellD bs k = some (⟨bs[k].toNat, numD bs (k + 1), ⟨#[]⟩⟩, k + 4) := by unfold cellD; rw [dif_pos h, if_pos h3]
theorem cellD_a {bs : List UInt8} {k : Nat} (h : k + 4 ≤ bs.length) (h3 : bs[k].toNat = 3) (h5 : ¬ k + 5 ≤ bs.length) : cellD bs k = none := by unfold cellD; rw [dif_pos h, if_neg (by simp [h3]), dif_neg h5]
theorem cellD_b {bs : List UInt8} {k : Nat} (h : k + 4 ≤ bs.length) (h3 : bs[k].toNat = 3) (h5 : k + 5 ≤ bs.length) (h6 : ¬ k + 5 + bs[k + 4].toNat ≤ bs.length) : cellD bs k = none := by unfold cellD; rw [dif_pos h, if_neg (by simp [h3]), dif_pos h5, if_neg h6]
theorem cellD_c {bs : List UInt8} {k : Nat} (h : k + 4 ≤ bs.length) (h3 : bs[k].toNat = 3) (h5 : k + 5 ≤ bs.length) (h6 : k + 5 + bs[k + 4].toNat ≤ bs.length) : cellD bs k = some (⟨3, numD bs (k + 1), ⟨((bs.drop (k + 5)).take bs[k + 4].toNat).toArray⟩⟩, k + 5 + bs[k + 4].toNat) := by unfold cellD; rw [dif_pos h, if_neg (by simp [h3]), dif_pos h5, if_pos h6]
/-- What l6Cell answers. -/
def cellAns (o : Option (Cell × Nat)) : Value := match o with
  | some (c, n) => .tuple #[c.agg, .int .i64 n]
  | none => .tuple #[(⟨0, 0, ⟨#[]⟩⟩ : Cell).agg, .int .i64 (-1)]
theorem name_conv {W : World} {ok : Nat → Prop} {b off c : Nat} {bs : List UInt8} (hC : kByte.C W ok (some ⟨b, off, none⟩) bs) (k n cap : Nat) (h : k + n ≤ bs.length) (o : Nat) (ho : n = 0 ∨ o = off + k) :
    (convert 24 9 (.slice (some ⟨b, o, none⟩) n cap)).run Tryd.prog W = .ok (.string ⟨((bs.drop k).take n).toArray⟩) W := by
  have hl : ((bs.drop k).take n).length = n := by rw [List.length_take, List.length_drop]; omega
  have := run_convert_bytes_back (P := Tryd.prog) W 24 9 5 ⟨b, o, none⟩ cap ((bs.drop k).take n) Tryd.underlying24 (by kernel_rfl) (by kernel_rfl) (fun j hj => by
    rw [hl] at hj
    obtain ⟨b', off', hA', _, x1⟩ := byteAt hC (k + j) (by omega)
    simp only [Option.some.injEq, Addr.mk.injEq, and_true] at hA'
    obtain ⟨rfl, rfl⟩ := hA'
    have e1 : (⟨b, o, none⟩ : Addr).add j = ⟨b, off + (k + j), none⟩ := by
      rcases ho with rfl | rfl
      · omega
      · unfold Addr.add; split <;> simp_all <;> omega
    rw [e1, x1]
    simp)
  rw [hl] at this
  exact this
set_option maxHeartbeats 1000000 in
theorem l6Cell_c (v : Value) (bs : List UInt8) (ok : Nat → Prop) (k : Nat) (hk : k ≤ 100000000) (w : World) (hV : kByte.V w ok v bs) :
    Calls Tryd.prog 70 #[v, .int .i64 k] w fun e w' => e = .returned (cellAns (cellD bs k)) ∧ Below w.heap.size w w' := by
  have HV := Sec.mk hV
  have hu := Tryd.underlying55
  obtain ⟨A, c, rfl, h1, h2, h3, hC, hz⟩ := hV
  have HC := Sec.mk hC
  clear hC hz
  by_cases hlen : k + 4 ≤ bs.length
  · obtain ⟨b, off, rfl, hob, x0⟩ := byteAt HC.out k (by omega)
    have HN : Sec (∀ W, Below w.heap.size w W → Calls Tryd.prog 96 #[.slice (some ⟨b, off, none⟩) bs.length c, .int .i64 ((k : Int) + 1)] W fun e w' => e = .returned (.tuple #[.int .i64 (numD bs (k + 1)), .bool true]) ∧ Below W.heap.size W w') := ⟨fun W h => by
      have := l6Num_c _ bs ok (k + 1) (by omega) W (Kd.V_below HV.out h (by decide))
      rw [decide_eq_true (show k + 1 + 3 ≤ bs.length by omega), show ((k + 1 : Nat) : Int) = (k : Int) + 1 by omega] at this
      exact this⟩
    have hcat : Sec (∀ W : World, Below w.heap.size w W → W.cell? ⟨b, off + k, none⟩ = some (.int .u8 (bs[k].toNat : Int))) := ⟨fun W h => by
      obtain ⟨b', off', hA', _, x1⟩ := byteAt (Kd.C_below HC.out h (by decide)) k (by omega)
      simp only [Option.some.injEq, Addr.mk.injEq, and_true] at hA'
      obtain ⟨rfl, rfl⟩ := hA'
      exact x1⟩
    clear x0
    by_cases hkd : bs[k].toNat = 3
    · have h3' : Sec (∀ W : World, Below w.heap.size w W → W.cell? ⟨b, off + k, none⟩ = some (.int .u8 3)) := ⟨fun W h => by have := hcat.out W h; rw [hkd] at this; exact this⟩
      have i0 : (0 : Int) ≤ (k : Int) := by omega
      have i1 : (k : Int) < (bs.length : Int) := by omega
      by_cases h5 : k + 5 ≤ bs.length
      · obtain ⟨b', off', hA', _, x4⟩ := byteAt HC.out (k + 4) (by omega)
        simp only [Option.some.injEq, Addr.mk.injEq, and_true] at hA'
        obtain ⟨rfl, rfl⟩ := hA'
        clear x4
        have hat4 : Sec (∀ W : World, Below w.heap.size w W → W.cell? ⟨b, off + (k + 4), none⟩ = some (.int .u8 (bs[k + 4].toNat : Int))) := ⟨fun W h => by
          obtain ⟨b', off', hA', _, x1⟩ := byteAt (Kd.C_below HC.out h (by decide)) (k + 4) (by omega)
          simp only [Option.some.injEq, Addr.mk.injEq, and_true] at hA'
          obtain ⟨rfl, rfl⟩ := hA'
          exact x1⟩
        have hlt := bs[k + 4].toNat_lt
        by_cases h6 : k + 5 + bs[k + 4].toNat ≤ bs.length
        · have hans := Sec.mk (cellD_c hlen hkd h5 h6)
          generalize bs[k + 4]'(by omega) = y4 at *
          have l4 : y4.toNat < 256 := hlt
          clear hlt
          generalize y4.toNat = a4 at *
          generalize numD bs (k + 1) = nn at *
          obtain ⟨k4, hk4⟩ : ∃ k4 : Nat, k4 = k + 4 := ⟨_, rfl⟩
          rw [← hk4] at hat4
          have e4 : (k : Int) + 4 = (k4 : Int) := by omega
          have e5 : IntKind.i64.wrap (k4 : Int) = (k4 : Int) := wrapIn _ (by omega) (by omega)
          have v4 : IntKind.i64.wrap (a4 : Int) = (a4 : Int) := wrapIn _ (by omega) (by omega)
          have j0 : (0 : Int) ≤ (k4 : Int) := by omega
          have j1 : (k4 : Int) < (bs.length : Int) := by omega
          have t1 : ¬ ((bs.length : Int) < (k : Int) + 5) := by omega
          have t2 : ¬ ((bs.length : Int) < (k : Int) + 5 + (a4 : Int)) := by omega
          obtain ⟨k5, hk5⟩ : ∃ k5 : Nat, k5 = k + 5 := ⟨_, rfl⟩
          obtain ⟨kt, hkt⟩ : ∃ kt : Nat, kt = k + 5 + a4 := ⟨_, rfl⟩
          have e6 : (k : Int) + 5 = (k5 : Int) := by omega
          have e7 : IntKind.i64.wrap (k5 : Int) = (k5 : Int) := wrapIn _ (by omega) (by omega)
          have e8 : (k5 : Int) + (a4 : Int) = (kt : Int) := by omega
          have e9 : IntKind.i64.wrap (kt : Int) = (kt : Int) := wrapIn _ (by omega) (by omega)
          have t3 : ¬ ((bs.length : Int) < (k5 : Int)) := by omega
          have t4 : ¬ ((bs.length : Int) < (kt : Int)) := by omega
          have n0 : (0 : Int) ≤ (k5 : Int) := by omega
          have n1 : (k5 : Int) ≤ (kt : Int) := by omega
          have n2 : (kt : Int) ≤ (c : Int) := by omega
          have n3 : kt - k5 = a4 := by omega
          have HCV : Sec (∀ (W : World) (o : Nat), Below w.heap.size w W → (a4 = 0 ∨ o = off + k5) → (convert 24 9 (.slice (some ⟨b, o, none⟩) a4 (c - k5))).run Tryd.prog W = .ok (.string ⟨((bs.drop k5).take a4).toArray⟩) W) := ⟨fun W o h ho => name_conv (c := c) (Kd.C_below HC.out h (by decide)) k5 a4 _ (by omega) o ho⟩
          have N9 : Sec (k5 = k + 5 ∧ kt = k + 5 + a4) := ⟨hk5, hkt⟩
          clear hcat hk4 hkd hlen h5 h6 hk5 hkt t1 t2
          have hans2 : Sec (cellAns (cellD bs k) = .tuple #[.agg #[.int .i64 3, .int .i64 nn, .string ⟨((bs.drop k5).take a4).toArray⟩], .int .i64 kt]) := ⟨by rw [hans.out, N9.out.1, N9.out.2]; rfl⟩
          clear hans
          generalize (⟨((bs.drop k5).take a4).toArray⟩ : ByteArray) = nm at *
          by_cases hc5 : c = k5
          · have ha0 : a4 = 0 := by omega
            subst hc5
            go_enter Tryd.func70, Tryd.ntmps70
            go_wp2_with (go_at_call 96; refine (HN.out _ (belA (Below.refl _ _) _)).mono ?_; rintro e w1 ⟨rfl, hb⟩; have B1 := Sec.mk (bel (belA (Below.refl _ _) _) hb); have Q1 := Sec.mk (box_at' hb (heap_alloc_new w _)); have r0 := Q1.out.1 0 _ rfl; have r1 := Q1.out.1 1 _ rfl; have r2 := Q1.out.1 2 _ rfl; have g0 := Q1.out.2 0; have g1 := Q1.out.2 1; have g2 := Q1.out.2 2; have QA := Sec.mk (fun o : Obj => box_at' (bel hb (belA (Below.refl _ _) o)) (heap_alloc_new w _)); have q0 := fun o => (QA.out o).1 0 _ rfl; have q1 := fun o => (QA.out o).1 1 _ rfl; have q2 := fun o => (QA.out o).1 2 _ rfl; have f0 := fun o => (QA.out o).2 0; have f1 := fun o => (QA.out o).2 1; have f2 := fun o => (QA.out o).2 2; have y := h3'.out _ B1.out; have y4 := hat4.out _ B1.out; have ycv : ∀ o : Obj, (convert 24 9 (.slice (some ⟨b, off, none⟩) 0 0)).run Tryd.prog (w1.alloc o) = .ok (.string nm) (w1.alloc o) := (fun o => by have h9 := HCV.out _ off (belA B1.out o) (.inl ha0); rw [ha0, Nat.sub_self] at h9; exact h9); have ya := fun o => h3'.out _ (belA B1.out o); have yb := fun o => hat4.out _ (belA B1.out o); clear hb)
            refine bodyPost_ret (v := .tuple #[.agg #[.int .i64 3, .int .i64 nn, .string nm], .int .i64 kt]) (by first | (simp [results, Tryd.results70, go_sem, q0, q1, q2]; done) | (simp [results, Tryd.results70, go_sem, q0, q1, q2]; omega)) rfl ?_
            exact ⟨by rw [hans2.out], (((belA B1.out _).setCell (p := ⟨w.heap.size, 0, none⟩) (Nat.le_refl _) _).setCell (p := ⟨w.heap.size, 1, none⟩) (Nat.le_refl _) _).setCell (p := ⟨w.heap.size, 2, none⟩) (Nat.le_refl _) _⟩
          · go_enter Tryd.func70, Tryd.ntmps70
            go_wp2_with (go_at_call 96; refine (HN.out _ (belA (Below.refl _ _) _)).mono ?_; rintro e w1 ⟨rfl, hb⟩; have B1 := Sec.mk (bel (belA (Below.refl _ _) _) hb); have Q1 := Sec.mk (box_at' hb (heap_alloc_new w _)); have r0 := Q1.out.1 0 _ rfl; have r1 := Q1.out.1 1 _ rfl; have r2 := Q1.out.1 2 _ rfl; have g0 := Q1.out.2 0; have g1 := Q1.out.2 1; have g2 := Q1.out.2 2; have QA := Sec.mk (fun o : Obj => box_at' (bel hb (belA (Below.refl _ _) o)) (heap_alloc_new w _)); have q0 := fun o => (QA.out o).1 0 _ rfl; have q1 := fun o => (QA.out o).1 1 _ rfl; have q2 := fun o => (QA.out o).1 2 _ rfl; have f0 := fun o => (QA.out o).2 0; have f1 := fun o => (QA.out o).2 1; have f2 := fun o => (QA.out o).2 2; have y := h3'.out _ B1.out; have y4 := hat4.out _ B1.out; have ycv := fun o : Obj => HCV.out _ (off + k5) (belA B1.out o) (.inr rfl); have ya := fun o => h3'.out _ (belA B1.out o); have yb := fun o => hat4.out _ (belA B1.out o); clear hb)
            refine bodyPost_ret (v := .tuple #[.agg #[.int .i64 3, .int .i64 nn, .string nm], .int .i64 kt]) (by first | (simp [results, Tryd.results70, go_sem, q0, q1, q2]; done) | (simp [results, Tryd.results70, go_sem, q0, q1, q2]; omega)) rfl ?_
            exact ⟨by rw [hans2.out], (((belA B1.out _).setCell (p := ⟨w.heap.size, 0, none⟩) (Nat.le_refl _) _).setCell (p := ⟨w.heap.size, 1, none⟩) (Nat.le_refl _) _).setCell (p := ⟨w.heap.size, 2, none⟩) (Nat.le_refl _) _⟩
        · have hans := Sec.mk (cellD_b hlen hkd h5 h6)
          generalize bs[k + 4]'(by omega) = y4 at *
          have l4 : y4.toNat < 256 := hlt
          clear hlt
          generalize y4.toNat = a4 at *
          generalize numD bs (k + 1) = nn at *
          obtain ⟨k4, hk4⟩ : ∃ k4 : Nat, k4 = k + 4 := ⟨_, rfl⟩
          rw [← hk4] at hat4
          have e4 : (k : Int) + 4 = (k4 : Int) := by omega
          have e5 : IntKind.i64.wrap (k4 : Int) = (k4 : Int) := wrapIn _ (by omega) (by omega)
          have v4 : IntKind.i64.wrap (a4 : Int) = (a4 : Int) := wrapIn _ (by omega) (by omega)
          have j0 : (0 : Int) ≤ (k4 : Int) := by omega
          have j1 : (k4 : Int) < (bs.length : Int) := by omega
          have t1 : ¬ ((bs.length : Int) < (k : Int) + 5) := by omega
          have t2 : (bs.length : Int) < (k : Int) + 5 + (a4 : Int) := by omega
          clear hcat hk4 hkd hlen h5 h6
          go_enter Tryd.func70, Tryd.ntmps70
          go_wp2_with (go_at_call 96; refine (HN.out _ (belA (Below.refl _ _) _)).mono ?_; rintro e w1 ⟨rfl, hb⟩; have B1 := Sec.mk (bel (belA (Below.refl _ _) _) hb); have Q1 := Sec.mk (box_at' hb (heap_alloc_new w _)); have r0 := Q1.out.1 0 _ rfl; have r1 := Q1.out.1 1 _ rfl; have r2 := Q1.out.1 2 _ rfl; have g0 := Q1.out.2 0; have g1 := Q1.out.2 1; have g2 := Q1.out.2 2; have QA := Sec.mk (fun o : Obj => box_at' (bel hb (belA (Below.refl _ _) o)) (heap_alloc_new w _)); have q0 := fun o => (QA.out o).1 0 _ rfl; have q1 := fun o => (QA.out o).1 1 _ rfl; have q2 := fun o => (QA.out o).1 2 _ rfl; have f0 := fun o => (QA.out o).2 0; have f1 := fun o => (QA.out o).2 1; have f2 := fun o => (QA.out o).2 2; have y := h3'.out _ B1.out; have y4 := hat4.out _ B1.out; have ya := fun o => h3'.out _ (belA B1.out o); have yb := fun o => hat4.out _ (belA B1.out o); clear hb)
          refine bodyPost_ret (v := .tuple #[.agg #[.int .i64 0, .int .i64 0, .string ⟨#[]⟩], .int .i64 (-1)]) (by simp [results, Tryd.results70, go_sem, q0, q1, q2]) rfl ?_
          exact ⟨by rw [hans.out]; rfl, (((belA B1.out _).setCell (p := ⟨w.heap.size, 0, none⟩) (Nat.le_refl _) _).setCell (p := ⟨w.heap.size, 1, none⟩) (Nat.le_refl _) _).setCell (p := ⟨w.heap.size, 2, none⟩) (Nat.le_refl _) _⟩
      · have hans := Sec.mk (cellD_a hlen hkd h5)
        generalize numD bs (k + 1) = nn at *
        have t1 : (bs.length : Int) < (k : Int) + 5 := by omega
        clear hcat hkd hlen h5
        go_enter Tryd.func70, Tryd.ntmps70
        go_wp2_with (go_at_call 96; refine (HN.out _ (belA (Below.refl _ _) _)).mono ?_; rintro e w1 ⟨rfl, hb⟩; have B1 := Sec.mk (bel (belA (Below.refl _ _) _) hb); have Q1 := Sec.mk (box_at' hb (heap_alloc_new w _)); have r0 := Q1.out.1 0 _ rfl; have r1 := Q1.out.1 1 _ rfl; have r2 := Q1.out.1 2 _ rfl; have g0 := Q1.out.2 0; have g1 := Q1.out.2 1; have g2 := Q1.out.2 2; have QA := Sec.mk (fun o : Obj => box_at' (bel hb (belA (Below.refl _ _) o)) (heap_alloc_new w _)); have q0 := fun o => (QA.out o).1 0 _ rfl; have q1 := fun o => (QA.out o).1 1 _ rfl; have q2 := fun o => (QA.out o).1 2 _ rfl; have f0 := fun o => (QA.out o).2 0; have f1 := fun o => (QA.out o).2 1; have f2 := fun o => (QA.out o).2 2; have y := h3'.out _ B1.out; clear hb)
        refine bodyPost_ret (v := .tuple #[.agg #[.int .i64 0, .int .i64 0, .string ⟨#[]⟩], .int .i64 (-1)]) (by simp [results, Tryd.results70, go_sem, q0, q1, q2]) rfl ?_
        exact ⟨by rw [hans.out]; rfl, (((belA B1.out _).setCell (p := ⟨w.heap.size, 0, none⟩) (Nat.le_refl _) _).setCell (p := ⟨w.heap.size, 1, none⟩) (Nat.le_refl _) _).setCell (p := ⟨w.heap.size, 2, none⟩) (Nat.le_refl _) _⟩
    · have hans := Sec.mk (cellD_plain hlen hkd)
      have hlt := bs[k].toNat_lt
      generalize bs[k]'(by omega) = y0 at *
      have l0 : y0.toNat < 256 := hlt
      clear hlt
      generalize y0.toNat = a0 at *
      generalize numD bs (k + 1) = nn at *
      have i0 : (0 : Int) ≤ (k : Int) := by omega
      have i1 : (k : Int) < (bs.length : Int) := by omega
      have v0 : IntKind.i64.wrap (a0 : Int) = (a0 : Int) := wrapIn _ (by omega) (by omega)
      have g9 : ((a0 : Int) != 3) = true := by simp; omega
      have hto : Sec (((k + 4 : Nat) : Int) = (k : Int) + 4) := ⟨by omega⟩
      clear hkd hlen
      go_enter Tryd.func70, Tryd.ntmps70
      go_wp2_with (go_at_call 96; refine (HN.out _ (belA (Below.refl _ _) _)).mono ?_; rintro e w1 ⟨rfl, hb⟩; have B1 := Sec.mk (bel (belA (Below.refl _ _) _) hb); have Q1 := Sec.mk (box_at' hb (heap_alloc_new w _)); have r0 := Q1.out.1 0 _ rfl; have r1 := Q1.out.1 1 _ rfl; have r2 := Q1.out.1 2 _ rfl; have g0 := Q1.out.2 0; have g1 := Q1.out.2 1; have g2 := Q1.out.2 2; have QA := Sec.mk (fun o : Obj => box_at' (bel hb (belA (Below.refl _ _) o)) (heap_alloc_new w _)); have q0 := fun o => (QA.out o).1 0 _ rfl; have q1 := fun o => (QA.out o).1 1 _ rfl; have q2 := fun o => (QA.out o).1 2 _ rfl; have f0 := fun o => (QA.out o).2 0; have f1 := fun o => (QA.out o).2 1; have f2 := fun o => (QA.out o).2 2; have y := hcat.out _ B1.out; clear hb)
      refine bodyPost_ret (v := .tuple #[.agg #[.int .i64 a0, .int .i64 nn, .string ⟨#[]⟩], .int .i64 ((k : Int) + 4)]) (by simp [results, Tryd.results70, go_sem, q0, q1, q2, r0, r1, r2]) rfl ?_
      exact ⟨by rw [hans.out, cellAns, hto.out], ((((belA B1.out _).setCell (p := ⟨w.heap.size, 0, none⟩) (Nat.le_refl _) _).setCell (p := ⟨w.heap.size, 1, none⟩) (Nat.le_refl _) _).setCell (p := ⟨w.heap.size, 2, none⟩) (Nat.le_refl _) _)⟩
  · have hans := Sec.mk (cellD_short hlen)
    have HN : Sec (∀ W, Below w.heap.size w W → Calls Tryd.prog 96 #[.slice A bs.length c, .int .i64 ((k : Int) + 1)] W fun e w' => e = .returned (.tuple #[.int .i64 0, .bool false]) ∧ Below W.heap.size W w') := ⟨fun W h => by
      have := l6Num_c _ bs ok (k + 1) (by omega) W (Kd.V_below HV.out h (by decide))
      rw [decide_eq_false (show ¬ k + 1 + 3 ≤ bs.length by omega), show ((k + 1 : Nat) : Int) = (k : Int) + 1 by omega, show numD bs (k + 1) = 0 from dif_neg (by omega)] at this
      exact this⟩
    go_enter Tryd.func70, Tryd.ntmps70
    go_wp2_with (go_at_call 96; refine (HN.out _ (belA (Below.refl _ _) _)).mono ?_; rintro e w1 ⟨rfl, hb⟩; have B1 := Sec.mk (bel (belA (Below.refl _ _) _) hb); have Q1 := Sec.mk (box_at' hb (heap_alloc_new w _)); have r0 := Q1.out.1 0 _ rfl; have r1 := Q1.out.1 1 _ rfl; have r2 := Q1.out.1 2 _ rfl; have g0 := Q1.out.2 0; have g1 := Q1.out.2 1; have g2 := Q1.out.2 2; have QA := Sec.mk (fun o : Obj => box_at' (bel hb (belA (Below.refl _ _) o)) (heap_alloc_new w _)); have q0 := fun o => (QA.out o).1 0 _ rfl; have q1 := fun o => (QA.out o).1 1 _ rfl; have q2 := fun o => (QA.out o).1 2 _ rfl; have f0 := fun o => (QA.out o).2 0; have f1 := fun o => (QA.out o).2 1; have f2 := fun o => (QA.out o).2 2; clear hb)
    refine bodyPost_ret (v := .tuple #[.agg #[.int .i64 0, .int .i64 0, .string ⟨#[]⟩], .int .i64 (-1)]) (by simp [results, Tryd.results70, go_sem, q0, q1, q2, r0, r1, r2]) rfl ?_
    exact ⟨by rw [hans.out]; rfl, (((B1.out.setCell (p := ⟨w.heap.size, 0, none⟩) (Nat.le_refl _) _).setCell (p := ⟨w.heap.size, 1, none⟩) (Nat.le_refl _) _).setCell (p := ⟨w.heap.size, 2, none⟩) (Nat.le_refl _) _)⟩
end Go.Proofs.YtkdfmnaijgkfhaaDoor
