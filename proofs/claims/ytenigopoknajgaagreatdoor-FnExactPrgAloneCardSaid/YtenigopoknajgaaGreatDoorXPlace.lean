/- What the exact laws' own functions do with the type PrgPlace: turned, sized, compared, marked, held. -/
import Derived.Test.YtenigopoknajgaaGreatDoorXCell
namespace Go.Proofs.YtenigopoknajgaaGreatDoor
open Go.RowKit
set_option linter.unusedVariables false
set_option maxRecDepth 100000
def kPlace : Kd Place := Kd.iso 61 (Kd.pair (Kd.str 9) (Kd.pair (Kd.int 3) (Kd.int 3))) (fun x => (x.name, x.n, x.node))
theorem kPlace_K {w : World} {ok : Nat → Prop} {x : Place} {cs : List Value} (h : kPlace.K w ok x cs) : cs = [.string x.name, .int .i64 x.n, .int .i64 x.node] ∧ x.name.size ≤ 1073741824 := by
  obtain ⟨_, _, rfl, ⟨rfl, h0⟩, ⟨_, _, rfl, ⟨rfl, _⟩, ⟨rfl, _⟩⟩⟩ := h
  exact ⟨rfl, h0⟩
def rPlace : Raw Place := Raw.iso 54 (Raw.pair (Raw.str 9) (Raw.pair (Raw.int 3) (Raw.int 3))) (fun x => (x.name, x.n, x.node))
theorem rPlace_K {w : World} {x : Place} {cs : List Value} (h : rPlace.K w x cs) : cs = [.string x.name, .int .i64 x.n, .int .i64 x.node] ∧ x.name.size ≤ maxLen := by
  obtain ⟨_, _, rfl, ⟨rfl, h0⟩, ⟨_, _, rfl, ⟨rfl, _⟩, ⟨rfl, _⟩⟩⟩ := h
  exact ⟨rfl, h0⟩
theorem rPlace_mono : Raw.Mono rPlace := Raw.mono_iso (Raw.mono_pair Raw.mono_scalar (Raw.mono_pair Raw.mono_scalar Raw.mono_scalar))
theorem rPlace_wt (x : Place) : rPlace.wt x = (HAdd.hAdd x.name.size (HAdd.hAdd 0 0)) := rfl
theorem rPlace_fits : Raw.Fits rPlace kPlace := Raw.fits_iso (Raw.fits_pair (Raw.fits_str _ _) (Raw.fits_pair (Raw.fits_int _ _) (Raw.fits_int _ _))) _ _ _
theorem rPlace_opn : Raw.Opn Tryz.prog rPlace := Raw.opn_struct Tryz.underlying54 (by kernel_rfl) (fun b => ⟨⟨b.1, b.2.1, b.2.2⟩, rfl⟩) (Raw.opnF_cons (Raw.opn_str Tryz.underlying9) rfl rfl (by kernel_rfl) (by decide) (Raw.opnF_cons (Raw.opn_int Tryz.underlying3) rfl rfl (by kernel_rfl) (by decide) (Raw.opnF_last (Raw.opn_int Tryz.underlying3) rfl rfl (by kernel_rfl) (by decide))))
theorem Place.ext_iff (a b : Place) : a = b ↔ a.name = b.name ∧ a.n = b.n ∧ a.node = b.node := by
  cases a; cases b; simp
instance : DecidableEq Place := fun a b => decidable_of_iff _ (Place.ext_iff a b).symm
def zeroPlace : Place := ⟨⟨#[]⟩, 0, 0⟩
theorem kPlace_zero (w : World) : kPlace.O w (fun _ => False) zeroPlace [.string ⟨#[]⟩, .int .i64 0, .int .i64 0] := (Kd.O_pair0 (d := (Kd.str 9)) (e := (Kd.pair (Kd.int 3) (Kd.int 3))) ⟨rfl, by decide⟩ (Kd.O_pair0 (d := (Kd.int 3)) (e := (Kd.int 3)) ⟨rfl, trivial⟩ ⟨rfl, trivial⟩))
theorem kPlace_f_name : Kd.Fld kPlace (Kd.str 9) 0 (fun x => x.name) (fun x y => { x with name := y }) := Kd.Fld.iso _ (Kd.Fld.fst (Kd.Fld.self _)) (fun _ _ => rfl)
theorem kPlace_f_n : Kd.Fld kPlace (Kd.int 3) 1 (fun x => x.n) (fun x y => { x with n := y }) := Kd.Fld.iso _ (Kd.Fld.snd (Kd.Fld.fst (Kd.Fld.self _))) (fun _ _ => rfl)
theorem kPlace_f_node : Kd.Fld kPlace (Kd.int 3) 2 (fun x => x.node) (fun x y => { x with node := y }) := Kd.Fld.iso _ (Kd.Fld.snd (Kd.Fld.snd (Kd.Fld.self _))) (fun _ _ => rfl)
theorem kPlace_mk (w : World) (S : Nat → Prop) (x : Place) (h : x.name.size ≤ 1073741824) : kPlace.O w S x [.string x.name, .int .i64 x.n, .int .i64 x.node] :=
  ⟨fun _ => False, fun _ => False, [.string x.name], [.int .i64 x.n, .int .i64 x.node], rfl, fun _ h => h.elim, fun _ h => h.elim, ⟨rfl, h⟩,
    fun _ => False, fun _ => False, [.int .i64 x.n], [.int .i64 x.node], rfl, fun _ h => h.elim, fun _ h => h.elim, ⟨rfl, trivial⟩, rfl, trivial⟩
theorem szPrgPlace_c (x : Place) (cs : List Value) (left : Nat) (hl : left ≤ 1048576) (w : World) (hK : rPlace.K w x cs) :
    Calls Tryz.prog 26 #[.agg cs.toArray, .int .i64 left] w fun e w' => e = .returned (.int .i64 (Raw.spent (rPlace.wt x) left)) ∧ Below w.heap.size w w' := by
  obtain ⟨rfl, hx⟩ := rPlace_K hK
  have hx2 : x.name.size ≤ 9223372036854775807 := by simpa [maxLen] using hx
  have hu2 := Tryz.underlying54
  have hw : rPlace.wt x = x.name.size := by rw [rPlace_wt]; rfl
  by_cases h : x.name.size ≤ left
  · have HE : Sec ((left : Int) - x.name.size = Raw.spent (rPlace.wt x) left) := ⟨by rw [hw, Raw.spent_le h]; omega⟩
    clear hw hK
    go_enter Tryz.func26, Tryz.ntmps26
    go_wp2
    go_ret
    exact ⟨ri HE.out, belA (Below.refl _ _) _⟩
  · have HE : Sec (-1 = Raw.spent (rPlace.wt x) left) := ⟨by rw [hw, Raw.spent_gt h]⟩
    clear hw hK
    go_enter Tryz.func26, Tryz.ntmps26
    go_wp2
    go_ret
    exact ⟨ri HE.out, belA (Below.refl _ _) _⟩
theorem toPrgPlace_c (x : Place) (cs : List Value) (ok : Nat → Prop) (w : World) (hK : kPlace.K w ok x cs) :
    Calls Tryz.prog 31 #[.agg cs.toArray] w fun e w' => ∃ c : List Value, e = .returned (.agg c.toArray) ∧ kPlace.O w' (fun k => w.heap.size ≤ k) x c ∧ Below w.heap.size w w' := by
  obtain ⟨rfl, hx⟩ := kPlace_K hK
  have hu := Tryz.underlying61
  have hu2 := Tryz.underlying54
  go_enter Tryz.func31, Tryz.ntmps31
  go_wp2
  exact bodyPost_ret (v := .agg #[.string x.name, .int .i64 x.n, .int .i64 x.node]) (by simp [results, Tryz.results31, go_sem]) rfl ⟨[.string x.name, .int .i64 x.n, .int .i64 x.node], rfl, kPlace_mk _ _ x hx, belA (belA (belA (Below.refl _ _) _) _) _⟩
theorem eqPrgPlace_c (x y : Place) (cs ds : List Value) (ok ok' : Nat → Prop) (w : World) (hK : kPlace.K w ok x cs) (hD : kPlace.K w ok' y ds) :
    Calls Tryz.prog 41 #[.agg cs.toArray, .agg ds.toArray] w fun e w' => e = .returned (.bool (decide (x = y))) ∧ Below w.heap.size w w' := by
  obtain ⟨rfl, -⟩ := kPlace_K hK
  obtain ⟨rfl, -⟩ := kPlace_K hD
  have hu := Tryz.underlying61
  have hxy := Place.ext_iff x y
  by_cases h3 : x.name = y.name
  · have g3 : (x.name.toList == y.name.toList) = true := beq_iff_eq.2 (toList_inj.2 h3)
    by_cases h1 : x.n = y.n
    · have g1 : (x.n == y.n) = true := beq_iff_eq.2 h1
      by_cases h2 : x.node = y.node
      · have g2 : (x.node == y.node) = true := beq_iff_eq.2 h2
        have hd : Sec (decide (x = y) = true) := ⟨by rw [decide_eq_true_eq, hxy]; exact ⟨h3, h1, h2⟩⟩
        clear hK hD hxy h1 h2 h3
        go_enter Tryz.func41, Tryz.ntmps41
        go_wp2
        go_ret
        exact ⟨rb hd.out.symm, belA (belA (Below.refl _ _) _) _⟩
      · have g2 : (x.node == y.node) = false := beq_eq_false_iff_ne.2 h2
        have hd : Sec (decide (x = y) = false) := ⟨by rw [decide_eq_false_iff_not, hxy]; exact fun h => h2 h.2.2⟩
        clear hK hD hxy h1 h2 h3
        go_enter Tryz.func41, Tryz.ntmps41
        go_wp2
        go_ret
        exact ⟨rb hd.out.symm, belA (belA (Below.refl _ _) _) _⟩
    · have g1 : (x.n == y.n) = false := beq_eq_false_iff_ne.2 h1
      have hd : Sec (decide (x = y) = false) := ⟨by rw [decide_eq_false_iff_not, hxy]; exact fun h => h1 h.2.1⟩
      clear hK hD hxy h1 h3
      go_enter Tryz.func41, Tryz.ntmps41
      go_wp2
      go_ret
      exact ⟨rb hd.out.symm, belA (belA (Below.refl _ _) _) _⟩
  · have g3 : (x.name.toList == y.name.toList) = false := beq_eq_false_iff_ne.2 (fun h => h3 (toList_inj.1 h))
    have hd : Sec (decide (x = y) = false) := ⟨by rw [decide_eq_false_iff_not, hxy]; exact fun h => h3 h.1⟩
    clear hK hD hxy h3
    go_enter Tryz.func41, Tryz.ntmps41
    go_wp2
    go_ret
    exact ⟨rb hd.out.symm, belA (belA (Below.refl _ _) _) _⟩
set_option maxHeartbeats 1000000 in
theorem szSPlace_c (v : Value) (t : List Place) (left : Nat) (hl : left ≤ 1048576) (w : World) (hV : rPlace.V w v t) :
    Calls Tryz.prog 12 #[v, .int .i64 left] w fun e w' => e = .returned (.int .i64 (Raw.spent (rPlace.wts t) left)) ∧ Below w.heap.size w w' := by
  obtain ⟨A, c, rfl, h1, h2, hC, _⟩ := hV
  have HC := Sec.mk hC
  clear hC
  have h3 : t.length ≤ 9223372036854775807 := by have : c ≤ 9223372036854775807 := by simpa [maxLen] using h2
                                                 omega
  have hu2 := Tryz.underlying54
  by_cases hlen : t.length ≤ left
  · obtain ⟨l1, hl1⟩ : ∃ l1 : Nat, (left : Int) - t.length = l1 := ⟨left - t.length, by omega⟩
    have hl2 : l1 + t.length = left := by omega
    have HL := Sec.mk hl1
    have HS : Sec (∀ (k : Nat) (hk : k < t.length), ((t.take (k + 1)).map rPlace.wt).sum = ((t.take k).map rPlace.wt).sum + rPlace.wt t[k] ∧ ((t.take (k + 1)).map rPlace.wt).sum ≤ (t.map rPlace.wt).sum) := ⟨fun k hk => ⟨Raw.wts_take _ _ _ hk, Raw.wts_take_le _ _ _⟩⟩
    go_enter Tryz.func12, Tryz.ntmps12
    go_wp2
    go_loopw [1, 5] (fun l i wr => ∃ k m : Nat, k ≤ t.length ∧ i = .int .i64 k ∧ l = .int .i64 m ∧ m ≤ 1048576 ∧ Sec (m + ((t.take k).map rPlace.wt).sum = l1) ∧ Sec (Below w.heap.size w wr)) (fun _ i _ => t.length - (intOf i).toNat)
    case atStart => exact ⟨0, l1, Nat.zero_le _, rfl, rfl, by omega, ⟨by simp⟩, ⟨Below.refl _ _⟩⟩
    case round =>
      obtain ⟨k, m, hk, rfl, rfl, hm, hM, hb⟩ := hrel
      by_cases hlt : k < t.length
      · obtain ⟨b, off, cs, rfl, hK, hc⟩ := Raw.C_get HC.out k hlt
        obtain ⟨s1, s2⟩ := HS.out k hlt
        have S1 := Sec.mk s1
        have S2 := Sec.mk s2
        clear s1 s2
        generalize t[k] = x at *
        have HK := Sec.mk hK
        obtain ⟨rfl, -⟩ := rPlace_K hK
        have c0 : wr.cell? ⟨b, off + k * 3, none⟩ = some (.string x.name) := Raw.cell_below hb.out (hc 0 _ rfl)
        have c1 : wr.cell? ⟨b, off + k * 3 + 1, none⟩ = some (.int .i64 x.n) := Raw.cell_below hb.out (hc 1 _ rfl)
        have c2 : wr.cell? ⟨b, off + k * 3 + 2, none⟩ = some (.int .i64 x.node) := Raw.cell_below hb.out (hc 2 _ rfl)
        clear hc hK
        by_cases hx : rPlace.wt x ≤ m
        · have e1 := Raw.spent_le hx
          have e2 : ¬ (((m - rPlace.wt x : Nat) : Int) < 0) := by omega
          generalize hm2 : m - rPlace.wt x = m2 at *
          have HM2 : Sec (m2 + ((t.take (k + 1)).map rPlace.wt).sum = l1) := ⟨by rw [S1.out]; have := hM.out; omega⟩
          have hm3 : m2 ≤ 1048576 := by omega
          clear hm2
          go_wp2_with (go_at_call 26; refine (szPrgPlace_c x _ m hm wr (rPlace_mono _ _ _ _ hb.out HK.out)).mono ?_; rintro e w1 ⟨rfl, hb1⟩; have B1 := Sec.mk (bel hb.out hb1); rw [e1]; clear c0 c1 c2)
          go_roundw
          case rel => exact ⟨k + 1, m2, by omega, by go_num, rfl, hm3, HM2, B1⟩
          case measure => simp [intOf]; omega
        · have e1 := Raw.spent_gt hx
          have hfin : Sec (Raw.spent (rPlace.wts t) left = -1) := ⟨Raw.spent_gt (by unfold Raw.wts; have := S1.out; have := S2.out; have := hM.out; omega)⟩
          go_wp2_with (go_at_call 26; refine (szPrgPlace_c x _ m hm wr (rPlace_mono _ _ _ _ hb.out HK.out)).mono ?_; rintro e w1 ⟨rfl, hb1⟩; have B1 := Sec.mk (bel hb.out hb1); rw [e1]; clear c0 c1 c2)
          go_ret
          exact ⟨ri hfin.out.symm, B1.out⟩
      · have hfin : Sec ((m : Int) = Raw.spent (rPlace.wts t) left) := ⟨by
          have h1 := hM.out
          rw [List.take_of_length_le (by omega)] at h1
          rw [Raw.spent_le (by unfold Raw.wts; omega)]
          unfold Raw.wts
          omega⟩
        go_wp2
        go_ret
        exact ⟨ri hfin.out, hb.out⟩
  · have hfin : Sec (Raw.spent (rPlace.wts t) left = -1) := ⟨Raw.spent_gt (by unfold Raw.wts; omega)⟩
    go_enter Tryz.func12, Tryz.ntmps12
    go_wp2
    go_ret
    exact ⟨ri hfin.out.symm, Below.refl _ _⟩
set_option maxHeartbeats 1000000 in
theorem toSPlace_c (v : Value) (t : List Place) (ok : Nat → Prop) (w : World) (hV : kPlace.V w ok v t) :
    Calls Tryz.prog 16 #[v] w fun e w' => ∃ u, e = .returned u ∧ kPlace.R w' (fun k => w.heap.size ≤ k) u t ∧ Below w.heap.size w w' := by
  obtain ⟨A, c, rfl, h1, h2, h3, hC, _⟩ := hV
  have HC := Sec.mk hC
  clear hC
  have hu := Tryz.underlying61
  have hu2 := Tryz.underlying54
  have hmk := made (P := Tryz.prog) 28 61 (.agg #[.string ⟨#[]⟩, .int .i64 0, .int .i64 0]) 3 32 Tryz.underlying28 (by kernel_rfl) (by decide) t.length h3
  have HM := Sec.mk (Kd.R_made (d := kPlace) (w := w) (B := w.heap.size) (x0 := zeroPlace) (z := #[.string ⟨#[]⟩, .int .i64 0, .int .i64 0]) (n := t.length) (fun w => kPlace_zero w) rfl (Nat.le_refl _) h3)
  go_enter Tryz.func16, Tryz.ntmps16
  go_wp2
  clear hmk
  go_loopw [4] (fun i wr => ∃ k : Nat, k ≤ t.length ∧ i = .int .i64 k ∧ Sec (kPlace.R wr (fun k => w.heap.size ≤ k) (.slice (some ⟨w.heap.size, 0, none⟩) t.length t.length) (t.take k ++ List.replicate (t.length - k) zeroPlace)) ∧ Sec (Below w.heap.size w wr)) (fun i _ => t.length - (intOf i).toNat)
  case atStart => exact ⟨0, Nat.zero_le _, rfl, ⟨HM.out⟩, ⟨belA (Below.refl _ _) _⟩⟩
  case round =>
    obtain ⟨k, hk, rfl, hR, hb⟩ := hrel
    by_cases hlt : k < t.length
    · obtain ⟨b, off, cs, rfl, hob, hK, hc⟩ := Kd.C_get (Kd.C_below HC.out hb.out (by decide)) (List.getElem?_eq_getElem hlt)
      have hL : Sec ((t.take k ++ List.replicate (t.length - k) zeroPlace).length = t.length) := ⟨by simp; omega⟩
      have hset : Sec ((t.take k ++ List.replicate (t.length - k) zeroPlace).set k t[k] = t.take (k + 1) ++ List.replicate (t.length - (k + 1)) zeroPlace) := ⟨put_next t zeroPlace k hlt⟩
      generalize t[k] = x at *
      have HK := Sec.mk hK
      obtain ⟨rfl, -⟩ := kPlace_K hK
      have c0 : wr.cell? ⟨b, off + k * 3, none⟩ = some (.string x.name) := hc 0 _ rfl
      have c1 : wr.cell? ⟨b, off + k * 3 + 1, none⟩ = some (.int .i64 x.n) := hc 1 _ rfl
      have c2 : wr.cell? ⟨b, off + k * 3 + 2, none⟩ = some (.int .i64 x.node) := hc 2 _ rfl
      clear hc hK
      go_wp2_with (go_at_call 31; refine (toPrgPlace_c x _ ok _ HK.out).mono ?_; rintro e w1 ⟨d0, rfl, hO, hb1⟩; have HO := Sec.mk hO; obtain ⟨rfl, -⟩ := kPlace_K (Kd.O_K _ hO); clear hO; have R1 := Sec.mk (Kd.R_below (Kd.R_mono hR.out (S1 := fun k => w.heap.size ≤ k ∧ k < wr.heap.size) (fun k h1 h2 => ⟨h1, h2⟩)) hb1); have B1 := Sec.mk (bel hb.out hb1); have hsz := Sec.mk hb.out.size; obtain ⟨q0, e0, f0⟩ := Kd.R_cell R1.out k 0 (by rw [hL.out]; exact hlt) (by decide); obtain ⟨q1, e1, f1⟩ := Kd.R_cell R1.out k 1 (by rw [hL.out]; exact hlt) (by decide); obtain ⟨q2, e2, f2⟩ := Kd.R_cell R1.out k 2 (by rw [hL.out]; exact hlt) (by decide); rw [show kPlace.sz = 3 from rfl] at e0 f0 e1 f1 e2 f2; rw [Nat.add_zero] at e0 f0; have P1 := Sec.mk (Kd.R_put R1.out k (by rw [hL.out]; exact hlt) HO.out (fun k h1 h2 => absurd h2.2 (Nat.not_lt.2 h1))); have F1 := Sec.mk ((Foot.refl (fun k => w.heap.size ≤ k) w1).setCells (g := w.heap.size) (.inl (Nat.le_refl _)) [.string x.name, .int .i64 x.n, .int .i64 x.node] (k * 3)); clear hb1 c0 c1 c2)
      go_roundw
      case rel => exact ⟨k + 1, by omega, by go_num, ⟨by rw [← hset.out]; exact Kd.R_mono P1.out (fun k h _ => h.elim (fun h => h.1) (fun h => Nat.le_trans hsz.out h))⟩, ⟨F1.out.below B1.out (fun _ h => h)⟩⟩
      case measure => simp [intOf]; omega
    · have hfin : Sec (t.take k ++ List.replicate (t.length - k) zeroPlace = t) := ⟨by rw [List.take_of_length_le (by omega), show t.length - k = 0 by omega]; simp⟩
      have hR2 := hR.out
      rw [hfin.out] at hR2
      have HR2 := Sec.mk hR2
      clear hR2 hfin hR
      go_wp2
      go_ret
      exact ⟨_, rfl, HR2.out, hb.out⟩
set_option maxHeartbeats 2000000 in
theorem eqSPlace_c (v u : Value) (t s : List Place) (ok ok' : Nat → Prop) (w : World) (hV : kPlace.V w ok v t) (hU : kPlace.V w ok' u s) :
    Calls Tryz.prog 20 #[v, u] w fun e w' => e = .returned (.bool (decide (t = s))) ∧ Below w.heap.size w w' := by
  obtain ⟨A, c, rfl, h1, h2, h3, hC, _⟩ := hV
  obtain ⟨B, d, rfl, k1, k2, k3, hD, _⟩ := hU
  have HC := Sec.mk hC
  have HD := Sec.mk hD
  clear hC hD
  have hu := Tryz.underlying61
  by_cases hl : t.length = s.length
  · rw [← hl]
    have HL := Sec.mk hl
    clear hl
    go_enter Tryz.func20, Tryz.ntmps20
    go_wp2
    go_loopw [5] (fun i wr => ∃ k : Nat, k ≤ t.length ∧ i = .int .i64 k ∧ Sec (t.take k = s.take k) ∧ Sec (Below w.heap.size w wr)) (fun i _ => t.length - (intOf i).toNat)
    case atStart => exact ⟨0, Nat.zero_le _, rfl, ⟨by simp⟩, ⟨Below.refl _ _⟩⟩
    case round =>
      obtain ⟨k, hk, rfl, hT, hb⟩ := hrel
      by_cases hlt : k < t.length
      · have hlt2 : k < s.length := by have := HL.out; omega
        obtain ⟨b, off, cs, rfl, hob, hK, hc⟩ := Kd.C_get HC.out (List.getElem?_eq_getElem hlt)
        obtain ⟨b2, off2, cs2, rfl, hob2, hK2, hc2⟩ := Kd.C_get HD.out (List.getElem?_eq_getElem hlt2)
        have hT1 : Sec (t[k] = s[k] → t.take (k + 1) = s.take (k + 1)) := ⟨fun e => by rw [List.take_succ_eq_append_getElem hlt, List.take_succ_eq_append_getElem hlt2, hT.out, e]⟩
        have hT2 : Sec (t = s → t[k] = s[k]) := ⟨fun e => by subst e; rfl⟩
        generalize t[k] = x at *
        generalize s[k] = y at *
        have HK := Sec.mk hK
        have HK2 := Sec.mk hK2
        obtain ⟨rfl, -⟩ := kPlace_K hK
        obtain ⟨rfl, -⟩ := kPlace_K hK2
        have hat : Sec (∀ W : World, Below w.heap.size w W → W.cell? ⟨b, off + k * 3, none⟩ = some (.string x.name) ∧ W.cell? ⟨b, off + k * 3 + 1, none⟩ = some (.int .i64 x.n) ∧ W.cell? ⟨b, off + k * 3 + 2, none⟩ = some (.int .i64 x.node) ∧ W.cell? ⟨b2, off2 + k * 3, none⟩ = some (.string y.name) ∧ W.cell? ⟨b2, off2 + k * 3 + 1, none⟩ = some (.int .i64 y.n) ∧ W.cell? ⟨b2, off2 + k * 3 + 2, none⟩ = some (.int .i64 y.node)) := ⟨fun W h => ⟨Raw.cell_below h (hc 0 _ rfl), Raw.cell_below h (hc 1 _ rfl), Raw.cell_below h (hc 2 _ rfl), Raw.cell_below h (hc2 0 _ rfl), Raw.cell_below h (hc2 1 _ rfl), Raw.cell_below h (hc2 2 _ rfl)⟩⟩
        clear hc hc2 hK hK2
        obtain ⟨x0, x1, x2, y0, y1, y2⟩ := hat.out _ hb.out
        have i0 : (0 : Int) ≤ (k : Int) := by omega
        have i1 : (k : Int) < (t.length : Int) := by omega
        obtain ⟨bb, hbb⟩ : ∃ bb, decide (x = y) = bb := ⟨_, rfl⟩
        have Hc : Sec (∀ W, Below w.heap.size w W → Calls Tryz.prog 41 #[.agg #[.string x.name, .int .i64 x.n, .int .i64 x.node], .agg #[.string y.name, .int .i64 y.n, .int .i64 y.node]] W fun e w' => e = .returned (.bool bb) ∧ Below W.heap.size W w') := ⟨fun W hB => by rw [← hbb]; exact eqPrgPlace_c x y _ _ ok ok' W (Kd.K_below HK.out hB) (Kd.K_below HK2.out hB)⟩
        have HBB := Sec.mk hbb
        clear hbb
        go_wp2
        go_region_held3 (fun W => W.cell? ⟨b, off + k * 3, none⟩ = some (.string x.name) ∧ W.cell? ⟨b, off + k * 3 + 1, none⟩ = some (.int .i64 x.n) ∧ W.cell? ⟨b, off + k * 3 + 2, none⟩ = some (.int .i64 x.node) ∧ W.cell? ⟨b2, off2 + k * 3, none⟩ = some (.string y.name) ∧ W.cell? ⟨b2, off2 + k * 3 + 1, none⟩ = some (.int .i64 y.n) ∧ W.cell? ⟨b2, off2 + k * 3 + 2, none⟩ = some (.int .i64 y.node))
          (first | (refine ⟨?_, ?_, ?_, ?_, ?_, ?_⟩ <;> assumption) | go_keep)
          (first | (go_at_call 41; refine (Hc.out _ (belD hb.out)).mono ?_; rintro e w1 ⟨rfl, hb1⟩; have B1 := Sec.mk (bel (belD hb.out) hb1); clear x0 x1 x2 y0 y1 y2; obtain ⟨x0, x1, x2, y0, y1, y2⟩ := hat.out _ B1.out; clear hb1))
        all_goals
          cases bb with
          | true =>
            have HE : Sec (t.take (k + 1) = s.take (k + 1)) := ⟨hT1.out (of_decide_eq_true HBB.out)⟩
            go_wp2
            go_roundw
            case rel => exact ⟨k + 1, by omega, by go_num, HE, B1⟩
            case measure => simp [intOf]; omega
          | false =>
            have HE : Sec (decide (t = s) = false) := ⟨decide_eq_false (fun e => of_decide_eq_false HBB.out (hT2.out e))⟩
            go_wp2
            go_ret
            exact ⟨rb HE.out.symm, B1.out⟩
      · have HE : Sec (decide (t = s) = true) := ⟨decide_eq_true (by have := hT.out; have h2 := HL.out; rwa [List.take_of_length_le (by omega), List.take_of_length_le (by omega)] at this)⟩
        go_wp2
        go_ret
        exact ⟨rb HE.out.symm, hb.out⟩
  · have hl' : ((t.length : Int) == (s.length : Int)) = false := beq_eq_false_iff_ne.2 (by omega)
    have HE : Sec (decide (t = s) = false) := ⟨decide_eq_false (fun e => hl (by rw [e]))⟩
    go_enter Tryz.func20, Tryz.ntmps20
    go_wp2
    go_ret
    exact ⟨rb HE.out.symm, Below.refl _ _⟩
def mPlace : Mk Place := ⟨fun x => 1 + 1 + 1, fun x k => ⟨mt (k), k + 1, k + 1 + 1⟩⟩
theorem mPlace_cnt (x : Place) : mPlace.cnt x = 1 + 1 + 1 := rfl
set_option maxHeartbeats 2000000 in
theorem markSPlace_c (v : Value) (t : List Place) (S : Nat → Prop) (k : Int) (hk : 0 ≤ k) (hk2 : k + mPlace.cnts t ≤ 1000000000000000000) (w : World) (hR : kPlace.R w S v t) :
    Calls Tryz.prog 22 #[v, .int .i64 k] w fun e w' => e = .returned (.int .i64 (k + mPlace.cnts t)) ∧ kPlace.R w' S v (mPlace.mks t k) ∧ Foot S w w' := by
  obtain ⟨A, cp, hv, g1, g2⟩ := Kd.R_form hR
  subst hv
  have h3 : t.length ≤ 1073741824 := hR.1
  have HR := Sec.mk hR
  have hu := Tryz.underlying61
  clear hR
  have HN := Sec.mk (mPlace.cnts_take t)
  have HM := Sec.mk (mPlace.cnts_le t)
  have HX := Sec.mk (mPlace.next t k)
  go_enter Tryz.func22, Tryz.ntmps22
  go_wp2
  go_loopw [1, 5] (fun kv iv wr => ∃ i : Nat, i ≤ t.length ∧ iv = .int .i64 i ∧ kv = .int .i64 (k + ↑(mPlace.cnts (t.take i))) ∧ Sec (kPlace.R wr S (.slice A t.length cp) (mPlace.mks (t.take i) k ++ t.drop i)) ∧ Sec (Foot S w wr)) (fun _ iv _ => t.length - (intOf iv).toNat)
  case atStart => exact ⟨0, Nat.zero_le _, rfl, by simp [Mk.cnts], ⟨by simpa [Mk.mks] using HR.out⟩, ⟨Foot.refl _ _⟩⟩
  case round =>
    obtain ⟨i, hi, rfl, rfl, hM, hF⟩ := hrel
    by_cases hlt : i < t.length
    · have hL : (mPlace.mks (t.take i) k ++ t.drop i).length = t.length := mPlace.len_ t k i
      have hil : i < (mPlace.mks (t.take i) k ++ t.drop i).length := by omega
      obtain ⟨b, rfl, -, hSb, hbb, -⟩ := Kd.R_block hM.out (by omega)
      obtain ⟨cs, hA, -⟩ := Kd.At.of_R hM.out hil
      rw [mPlace.at_ t k i hlt] at hA
      have hnext := Sec.mk (HX.out i hlt)
      have hn1 := HN.out i hlt
      have hn2 := HM.out (i + 1)
      rw [hn1] at hn2
      have HN1 := Sec.mk hn1
      have F0 := hF
      clear hM hn1 hL
      generalize mPlace.mks (t.take i) k ++ t.drop i = L at *
      generalize t[i] = x at *
      generalize mPlace.cnts (t.take i) = c at *
      have hcx : Sec (mPlace.cnt x = _) := ⟨mPlace_cnt x⟩
      rw [mPlace_cnt x] at hn2
      have hAt := hA
      obtain ⟨rfl, -⟩ := kPlace_K hA.K
      have A0 := Sec.mk hA
      clear hA hAt
      have c0_0 : wr.cell? ⟨b, i * 3, none⟩ = some (.string x.name) := Kd.At.cell A0.out 0 _ rfl
      have c0_1 : wr.cell? ⟨b, i * 3 + 1, none⟩ = some (.int .i64 x.n) := Kd.At.cell A0.out 1 _ rfl
      have c0_2 : wr.cell? ⟨b, i * 3 + 2, none⟩ = some (.int .i64 x.node) := Kd.At.cell A0.out 2 _ rfl
      have f0_0 : wr.frozen? ⟨b, i * 3, none⟩ = false := Kd.At.frozen A0.out (i * 3)
      have f0_1 : wr.frozen? ⟨b, i * 3 + 1, none⟩ = false := Kd.At.frozen A0.out (i * 3 + 1)
      have f0_2 : wr.frozen? ⟨b, i * 3 + 2, none⟩ = false := Kd.At.frozen A0.out (i * 3 + 2)
      have T0 : Sec True := ⟨trivial⟩
      go_wp2_with (first | (clear T0; go_at_call 44; have T1 : Sec True := ⟨trivial⟩; refine (markText_c (k + (c : Int)) (by omega) _).mono ?_; rintro e w1 ⟨rfl, hz, hb'⟩; have A1 : Sec (Kd.At kPlace w1 S b t.length cp L i ⟨x.name, x.n, x.node⟩ [.string x.name, .int .i64 x.n, .int .i64 x.node]) := ⟨Kd.At.below A0.out hb'⟩; have F1 : Sec (Foot S w w1) := ⟨F0.out.trans (Foot.of_below (S := S) hb') (fun _ _ h => h)⟩; clear hb'; clear c0_0 f0_0 c0_1 f0_1 c0_2 f0_2; have c1_0 : w1.cell? ⟨b, i * 3, none⟩ = some (.string x.name) := Kd.At.cell A1.out 0 _ rfl; have c1_1 : w1.cell? ⟨b, i * 3 + 1, none⟩ = some (.int .i64 x.n) := Kd.At.cell A1.out 1 _ rfl; have c1_2 : w1.cell? ⟨b, i * 3 + 2, none⟩ = some (.int .i64 x.node) := Kd.At.cell A1.out 2 _ rfl; have f1_0 : w1.frozen? ⟨b, i * 3, none⟩ = false := Kd.At.frozen A1.out (i * 3); have f1_1 : w1.frozen? ⟨b, i * 3 + 1, none⟩ = false := Kd.At.frozen A1.out (i * 3 + 1); have f1_2 : w1.frozen? ⟨b, i * 3 + 2, none⟩ = false := Kd.At.frozen A1.out (i * 3 + 2); have A2 : Sec (Kd.At kPlace (w1.setCell ⟨b, i * 3, none⟩ (.string (mt (k + (c : Int))))) S b t.length cp L i ⟨(mt (k + (c : Int))), x.n, x.node⟩ [.string (mt (k + (c : Int))), .int .i64 x.n, .int .i64 x.node]) := ⟨Kd.At.store (e := (Kd.str 9)) A1.out kPlace_f_name rfl (mt (k + (c : Int))) (.string (mt (k + (c : Int)))) (fun _ _ => ⟨rfl, hz⟩)⟩; have F2 : Sec (Foot S w (w1.setCell ⟨b, i * 3, none⟩ (.string (mt (k + (c : Int)))))) := ⟨F1.out.set (g := b) (.inl hSb) (i * 3) (.string (mt (k + (c : Int))))⟩; clear hz; have A3 : Sec (Kd.At kPlace ((w1.setCell ⟨b, i * 3, none⟩ (.string (mt (k + (c : Int))))).setCell ⟨b, i * 3 + 1, none⟩ (.int .i64 (k + (c : Int) + 1))) S b t.length cp L i ⟨(mt (k + (c : Int))), k + (c : Int) + 1, x.node⟩ [.string (mt (k + (c : Int))), .int .i64 (k + (c : Int) + 1), .int .i64 x.node]) := ⟨Kd.At.store (e := (Kd.int 3)) A2.out kPlace_f_n rfl (k + (c : Int) + 1) (.int .i64 (k + (c : Int) + 1)) (fun _ _ => ⟨rfl, trivial⟩)⟩; have F3 : Sec (Foot S w ((w1.setCell ⟨b, i * 3, none⟩ (.string (mt (k + (c : Int))))).setCell ⟨b, i * 3 + 1, none⟩ (.int .i64 (k + (c : Int) + 1)))) := ⟨F2.out.set (g := b) (.inl hSb) (i * 3 + 1) (.int .i64 (k + (c : Int) + 1))⟩; have A4 : Sec (Kd.At kPlace (((w1.setCell ⟨b, i * 3, none⟩ (.string (mt (k + (c : Int))))).setCell ⟨b, i * 3 + 1, none⟩ (.int .i64 (k + (c : Int) + 1))).setCell ⟨b, i * 3 + 2, none⟩ (.int .i64 (k + (c : Int) + 1 + 1))) S b t.length cp L i ⟨(mt (k + (c : Int))), k + (c : Int) + 1, k + (c : Int) + 1 + 1⟩ [.string (mt (k + (c : Int))), .int .i64 (k + (c : Int) + 1), .int .i64 (k + (c : Int) + 1 + 1)]) := ⟨Kd.At.store (e := (Kd.int 3)) A3.out kPlace_f_node rfl (k + (c : Int) + 1 + 1) (.int .i64 (k + (c : Int) + 1 + 1)) (fun _ _ => ⟨rfl, trivial⟩)⟩; have F4 : Sec (Foot S w (((w1.setCell ⟨b, i * 3, none⟩ (.string (mt (k + (c : Int))))).setCell ⟨b, i * 3 + 1, none⟩ (.int .i64 (k + (c : Int) + 1))).setCell ⟨b, i * 3 + 2, none⟩ (.int .i64 (k + (c : Int) + 1 + 1)))) := ⟨F3.out.set (g := b) (.inl hSb) (i * 3 + 2) (.int .i64 (k + (c : Int) + 1 + 1))⟩))
      go_roundw
      case rel => exact ⟨i + 1, by omega, by go_num, by rw [HN1.out, hcx.out]; congr 1; omega, ⟨by rw [← hnext.out]; exact A4.out.R⟩, F4⟩
      case measure => simp [intOf]; omega
    · have hfin : Sec (mPlace.mks (t.take i) k ++ t.drop i = mPlace.mks t k) := ⟨by rw [List.take_of_length_le (by omega), List.drop_of_length_le (by omega), List.append_nil]⟩
      have hM2 := hM.out
      rw [hfin.out] at hM2
      have HM2 := Sec.mk hM2
      have hi2 : Sec (k + ↑(mPlace.cnts (t.take i)) = k + ↑(mPlace.cnts t)) := ⟨by rw [List.take_of_length_le (by omega)]⟩
      clear hM2 hM hfin
      go_wp2
      go_ret
      exact ⟨ri hi2.out, HM2.out, hF.out⟩
set_option maxHeartbeats 1000000 in
theorem heldSPlace_c (v : Value) (t : List Place) (ok : Nat → Prop) (k : Int) (hk : 0 ≤ k) (hk2 : k + mPlace.cnts t ≤ 1000000000000000000) (w : World) (hV : kPlace.V w ok v (mPlace.mks t k)) :
    Calls Tryz.prog 24 #[v, .int .i64 k] w fun e w' => e = .returned (.int .i64 (k + mPlace.cnts t)) ∧ Below w.heap.size w w' := by
  obtain ⟨A, cp, rfl, g1, g2, g3, hC, _⟩ := hV
  rw [Mk.mks_len] at g1 g3
  rw [Mk.mks_len]
  have HC := Sec.mk hC
  have hu := Tryz.underlying61
  clear hC
  have HN := Sec.mk (mPlace.cnts_take t)
  have HM := Sec.mk (mPlace.cnts_le t)
  have HG := Sec.mk (mPlace.get t k)
  have HLn := Sec.mk (mPlace.mks_len t k)
  go_enter Tryz.func24, Tryz.ntmps24
  go_wp2
  go_loopw [1, 5] (fun kv iv wr => ∃ i : Nat, i ≤ t.length ∧ iv = .int .i64 i ∧ kv = .int .i64 (k + ↑(mPlace.cnts (t.take i))) ∧ Sec (Below w.heap.size w wr)) (fun _ iv _ => t.length - (intOf iv).toNat)
  case atStart => exact ⟨0, Nat.zero_le _, rfl, by simp [Mk.cnts], ⟨Below.refl _ _⟩⟩
  case round =>
    obtain ⟨i, hi, rfl, rfl, hb⟩ := hrel
    by_cases hlt : i < t.length
    · obtain ⟨b, off, cs, rfl, hob, hK, hc⟩ := Kd.C_get HC.out (List.getElem?_eq_getElem (by rw [HLn.out]; exact hlt))
      rw [HG.out i hlt] at hK
      have hn1 := HN.out i hlt
      have hn2 := HM.out (i + 1)
      rw [hn1] at hn2
      have HN1 := Sec.mk hn1
      clear hn1
      generalize t[i] = x at *
      generalize mPlace.cnts (t.take i) = c at *
      have hcx : Sec (mPlace.cnt x = _) := ⟨mPlace_cnt x⟩
      rw [mPlace_cnt x] at hn2
      obtain ⟨rfl, -⟩ := kPlace_K hK
      have hat : Sec (∀ W : World, Below w.heap.size w W → W.cell? ⟨b, off + i * 3, none⟩ = some (.string (mt (k + (c : Int)))) ∧ W.cell? ⟨b, off + i * 3 + 1, none⟩ = some (.int .i64 (k + (c : Int) + 1)) ∧ W.cell? ⟨b, off + i * 3 + 2, none⟩ = some (.int .i64 (k + (c : Int) + 1 + 1))) := ⟨fun W h => ⟨Raw.cell_below h (hc 0 _ rfl), Raw.cell_below h (hc 1 _ rfl), Raw.cell_below h (hc 2 _ rfl)⟩⟩
      have i0 : (0 : Int) ≤ (i : Int) := by omega
      have i1 : (i : Int) < (t.length : Int) := by omega
      clear hc hK
      obtain ⟨c0, c1, c2⟩ := hat.out _ hb.out
      have B0 := hb
      go_wp2
      go_region_held3 (fun W => W.cell? ⟨b, off + i * 3, none⟩ = some (.string (mt (k + (c : Int)))) ∧ W.cell? ⟨b, off + i * 3 + 1, none⟩ = some (.int .i64 (k + (c : Int) + 1)) ∧ W.cell? ⟨b, off + i * 3 + 2, none⟩ = some (.int .i64 (k + (c : Int) + 1 + 1)))
          (first | (refine ⟨?_, ?_, ?_⟩ <;> assumption) | go_keep)
          (first | (go_at_call 44; refine (markText_c (k + (c : Int)) (by omega) _).mono ?_; rintro e w1 ⟨rfl, hz, hb1⟩; have B1 := Sec.mk (bel (belD hb.out) hb1); clear c0 c1 c2; obtain ⟨c0, c1, c2⟩ := hat.out _ B1.out; clear hb1))
      all_goals
        go_wp2
        go_roundw
        case rel => exact ⟨i + 1, by omega, by go_num, by rw [HN1.out, hcx.out]; congr 1; omega, B1⟩
        case measure => simp [intOf]; omega
    · have hi2 : Sec (k + ↑(mPlace.cnts (t.take i)) = k + ↑(mPlace.cnts t)) := ⟨by rw [List.take_of_length_le (by omega)]⟩
      go_wp2
      go_ret
      exact ⟨ri hi2.out, hb.out⟩
theorem rPlace_le6 (x : Place) : mPlace.cnt x ≤ 8 + 8 * rPlace.wt x := by
  rw [mPlace_cnt]; rw [rPlace_wt]; omega
end Go.Proofs.YtenigopoknajgaaGreatDoor
