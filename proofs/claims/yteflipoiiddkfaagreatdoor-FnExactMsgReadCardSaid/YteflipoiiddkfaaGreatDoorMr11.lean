/- MsgRead of the reference: what it reads; and what goes with it. -/
import Derived.Test.YteflipoiiddkfaaGreatDoorMr5
import Derived.Test.YteflipoiiddkfaaGreatDoorMr10
namespace Go.Proofs.YteflipoiiddkfaaGreatDoor
section
open Go.RowKit
set_option linter.unusedVariables false
set_option maxRecDepth 100000
theorem cellsD_to {bs : List UInt8} : ∀ {m k : Nat} {t : Term} {e : Nat}, k ≤ bs.length → cellsD bs m k = some (t, e) → e ≤ bs.length
  | 0, k, t, e, hk, h => by
    simp only [cellsD, Option.some.injEq, Prod.mk.injEq] at h
    omega
  | m + 1, k, t, e, hk, h => by
    unfold cellsD at h
    split at h
    · cases h
    · next c nx hc =>
      split at h
      · cases h
      · next t' e' h' =>
        simp only [Option.some.injEq, Prod.mk.injEq] at h
        have := cellsD_to (cellD_to hc).1 h'
        omega
theorem termD_to {bs : List UInt8} {k : Nat} {t : Term} {e : Nat} (h : termD bs k = some (t, e)) : e ≤ bs.length := by
  unfold termD at h
  split at h
  · next hk =>
    split at h
    · cases h
    · next t' e' h' =>
      split at h
      · simp only [Option.some.injEq, Prod.mk.injEq] at h
        have := cellsD_to (by omega) h'
        omega
      · cases h
  · cases h
set_option maxHeartbeats 8000000 in
theorem MsgRead_c (v : Value) (bs : List UInt8) (ok : Nat → Prop) (w : World) (hl : bs.length ≤ 10000000) (hV0 : kByte.V w ok v bs) :
    Calls Tryz.prog 14 #[v] w (ReadOut w (readD bs)) := by
  have hu2 := Tryz.underlying34
  have hu3 := Tryz.underlying32
  have hV : kByte.V w (fun k => k < w.heap.size) v bs := Kd.V_move (fun k _ hl => ⟨hl, rfl⟩) hV0 (by decide)
  have b0 : Below w.heap.size w (w.alloc (.cells #[.int .i64 0, .int .i64 0, .slice none 0 0, .int .i64 0, .int .i64 0, .slice none 0 0] 34)) := belA (Below.refl _ _) _
  have HV := Sec.mk (Kd.V_below hV b0 (by decide))
  have HZ : Sec ((w.alloc (.cells #[.int .i64 0, .int .i64 0, .slice none 0 0, .int .i64 0, .int .i64 0, .slice none 0 0] 34)).heap.size = w.heap.size + 1) := ⟨by simp⟩
  have HR0 : Sec (∀ W, Below (w.alloc (.cells #[.int .i64 0, .int .i64 0, .slice none 0 0, .int .i64 0, .int .i64 0, .slice none 0 0] 34)).heap.size (w.alloc (.cells #[.int .i64 0, .int .i64 0, .slice none 0 0, .int .i64 0, .int .i64 0, .slice none 0 0] 34)) W → W.heap[w.heap.size]? = some (.cells #[.int .i64 0, .int .i64 0, .slice none 0 0, .int .i64 0, .int .i64 0, .slice none 0 0] 34 (0, 0))) := ⟨fun W h => carryB h (heap_alloc_new w _)⟩
  have BB : Sec (∀ W, Below (w.alloc (.cells #[.int .i64 0, .int .i64 0, .slice none 0 0, .int .i64 0, .int .i64 0, .slice none 0 0] 34)).heap.size (w.alloc (.cells #[.int .i64 0, .int .i64 0, .slice none 0 0, .int .i64 0, .int .i64 0, .slice none 0 0] 34)) W → Below w.heap.size w W) := ⟨fun W h => bel b0 h⟩
  clear hV hV0 b0
  obtain ⟨A, c, rfl, -⟩ := id HV.out
  unfold ReadOut
  have T0 : Sec True := ⟨trivial⟩
  cases hbd : bodyD bs with
  | none =>
    have HE : Sec (readD bs = none) := ⟨by unfold readD; rw [hbd]⟩
    have HBD := Sec.mk hbd
    clear hbd
    go_enter Tryz.func14, Tryz.ntmps14
    go_wp2_with (first | (with_reducible show wpList _ _ _ (⟨none, .store 34 (.tmp 2) (.tmp 25), _, _, _, _⟩ :: _) _ _; refine wpList_store (cs := [.int .i64 0, .int .i64 0, .slice none 0 0, .int .i64 0, .int .i64 0, .slice none 0 0]) (old := #[.int .i64 0, .int .i64 0, .slice none 0 0, .int .i64 0, .int .i64 0, .slice none 0 0]) rfl 34 (.tmp 2) (.tmp 25) rfl rfl rfl (HR0.out _ B1.out) (by kernel_rfl) rfl (by simp [Value.oneCell']) ?_; intro w12 hb12 hF12; have X12 := Sec.mk hb12; have F12 := Sec.mk hF12; clear hb12 hF12) | (clear T0; go_at_call 35; have T1 : Sec True := ⟨trivial⟩; refine (l6Body_c _ bs _ _ hl HV.out).mono ?_; rw [HBD.out]; rintro e w1 ⟨u1, he, hq, hb⟩; have he' : e = .returned (.tuple #[u1, .bool false]) := he; subst he'; have B1 := Sec.mk hb; clear hb hq he))
    exact bodyPost_ret (res_cell2 rfl rfl rfl X12.out hu2 rfl (by kernel_rfl)) rfl ⟨_, by rw [HE.out]; rfl, by rw [HE.out]; exact kMsg.O_mono (kMsg_zero _) (fun k h _ => h.elim), F12.out.below (BB.out _ B1.out) (fun k h => Nat.le_of_eq (show k = w.heap.size from h).symm)⟩
  | some b =>
    have HBD := Sec.mk hbd
    have HRD : Sec (readD bs = bodyM b) := ⟨by unfold readD; rw [hbd]⟩
    have hlb := (bodyD_of hbd).2
    clear hbd
    by_cases h7 : b.length < 7
    · have HE : Sec (readD bs = none) := ⟨by rw [HRD.out]; unfold bodyM; rw [dif_neg (by omega)]⟩
      have g1 : (b.length : Int) < 7 := by omega
      go_enter Tryz.func14, Tryz.ntmps14
      go_wp2_with (first | (with_reducible show wpList _ _ _ (⟨none, .store 34 (.tmp 2) (.tmp 25), _, _, _, _⟩ :: _) _ _; refine wpList_store (cs := [.int .i64 0, .int .i64 0, .slice none 0 0, .int .i64 0, .int .i64 0, .slice none 0 0]) (old := #[.int .i64 0, .int .i64 0, .slice none 0 0, .int .i64 0, .int .i64 0, .slice none 0 0]) rfl 34 (.tmp 2) (.tmp 25) rfl rfl rfl (HR0.out _ B1.out) (by kernel_rfl) rfl (by simp [Value.oneCell']) ?_; intro w12 hb12 hF12; have X12 := Sec.mk hb12; have F12 := Sec.mk hF12; clear hb12 hF12) | (clear T0; go_at_call 35; have T1 : Sec True := ⟨trivial⟩; refine (l6Body_c _ bs _ _ hl HV.out).mono ?_; rw [HBD.out]; rintro e w1 ⟨u1, he, hq, hb⟩; have he' : e = .returned (.tuple #[u1, .bool true]) := he; subst he'; have V1 := Sec.mk (hq b rfl); obtain ⟨Ab, cb, rfl, -⟩ := id V1.out; have B1 := Sec.mk hb; clear hb hq he))
      exact bodyPost_ret (res_cell2 rfl rfl rfl X12.out hu2 rfl (by kernel_rfl)) rfl ⟨_, by rw [HE.out]; rfl, by rw [HE.out]; exact kMsg.O_mono (kMsg_zero _) (fun k h _ => h.elim), F12.out.below (BB.out _ B1.out) (fun k h => Nat.le_of_eq (show k = w.heap.size from h).symm)⟩
    · have g1 : ¬ ((b.length : Int) < 7) := by omega
      have HBM : Sec (bodyM b = _) := ⟨dif_pos (by omega : 7 ≤ b.length)⟩
      have c0 : 0 < b.length := by omega
      have c1 : 1 < b.length := by omega
      have c2 : 2 < b.length := by omega
      have HY : Sec (∀ (W : World) (ok : Nat → Prop) (Ab : Option Addr) (cb : Nat), kByte.V W ok (.slice Ab b.length cb) b → ∃ bb off, Ab = some ⟨bb, off, none⟩ ∧ W.cell? ⟨bb, off, none⟩ = some (.int .u8 (b[0].toNat : Int)) ∧ W.cell? ⟨bb, off + 1, none⟩ = some (.int .u8 (b[1].toNat : Int)) ∧ W.cell? ⟨bb, off + 2, none⟩ = some (.int .u8 (b[2].toNat : Int))) := ⟨fun W ok Ab cb h => by
        obtain ⟨bb, off, rfl, -, x0⟩ := byteAt (Kd.V_C h) 0 (by omega)
        obtain ⟨b', off', hA', _, x1⟩ := byteAt (Kd.V_C h) 1 (by omega)
        simp only [Option.some.injEq, Addr.mk.injEq, and_true] at hA'
        obtain ⟨rfl, rfl⟩ := hA'
        obtain ⟨b', off', hA', _, x2⟩ := byteAt (Kd.V_C h) 2 (by omega)
        simp only [Option.some.injEq, Addr.mk.injEq, and_true] at hA'
        obtain ⟨rfl, rfl⟩ := hA'
        exact ⟨_, _, rfl, by simpa using x0, x1, x2⟩⟩
      have m0 := b[0].toNat_lt
      have m1 := b[1].toNat_lt
      have m2 := b[2].toNat_lt
      generalize b[0].toNat = y0 at *
      generalize b[1].toNat = y1 at *
      generalize b[2].toNat = y2 at *
      have HN6 : Sec ((6 : Nat) ≤ 10000000) := ⟨by omega⟩
      cases ht6 : termD b 6 with
      | none =>
        have HT6 := Sec.mk ht6
        have HE : Sec (readD bs = none) := ⟨by rw [HRD.out, HBM.out, ht6]⟩
        clear ht6
        go_enter Tryz.func14, Tryz.ntmps14
        go_wp2_with (first | (clear T2; go_at_call 37; have T3 : Sec True := ⟨trivial⟩; refine (l6Term_c _ b _ 6 (by omega) HN6.out _ V2.out).mono ?_; rw [HT6.out]; rintro e w3 ⟨u3, he, hR, hb⟩; have he' : e = .returned (.tuple #[u3, .int .i64 (-1)]) := he; subst he'; replace hR : kCell.R w3 (fun k => w2.heap.size ≤ k) u3 [] := hR; have R3 : Sec (kCell.R w3 (fun k => w2.heap.size ≤ k ∧ k < w3.heap.size) u3 []) := ⟨Kd.R_mono hR (fun k h1 h2 => ⟨h1, h2⟩)⟩; obtain ⟨A3, n3, rfl, -, -⟩ := Kd.R_form hR; have V3 := Sec.mk (Kd.V_below V2.out hb (by decide)); have B3 := Sec.mk (bel B2.out hb); have Z3 := Sec.mk hb.size; clear hb hR he) | (clear T1; go_at_call 36; have T2 : Sec True := ⟨trivial⟩; refine (l6Num_c _ b _ 3 (by omega) _ V1.out).mono ?_; rintro e w2 ⟨rfl, hb⟩; have V2 := Sec.mk (Kd.V_below V1.out hb (by decide)); have B2 := Sec.mk (bel B1.out hb); clear hb) | (clear T0; go_at_call 35; have T1 : Sec True := ⟨trivial⟩; refine (l6Body_c _ bs _ _ hl HV.out).mono ?_; rw [HBD.out]; rintro e w1 ⟨u1, he, hq, hb⟩; have he' : e = .returned (.tuple #[u1, .bool true]) := he; subst he'; have V1 := Sec.mk (hq b rfl); obtain ⟨Ab, cb, rfl, -⟩ := id V1.out; have B1 := Sec.mk hb; clear hb hq he))
        obtain ⟨bb, off, rfl, p0, p1, p2⟩ := HY.out _ _ _ _ V3.out
        have P0 := Sec.mk p0
        have P1 := Sec.mk p1
        have P2 := Sec.mk p2
        clear p0 p1 p2
        refine wp_region_lists [[36], [37], [38], [39], [40], [41], [42], [43], [44], [45], [46], [47], [48], [49], [50], [51], [10], [10]]
          [fun val _ _ => val 36 = .slice (some ⟨bb, off, none⟩) b.length cb,
            fun val _ _ => val 37 = .pointer (some ⟨bb, off, none⟩),
            fun val _ _ => val 38 = .int .u8 y0,
            fun val _ _ => val 39 = .int .i64 y0,
            fun val _ _ => val 40 = .slice (some ⟨bb, off, none⟩) b.length cb,
            fun val _ _ => val 41 = .pointer (some ⟨bb, off + 1, none⟩),
            fun val _ _ => val 42 = .int .u8 y1,
            fun val _ _ => val 43 = .int .i64 y1,
            fun val _ _ => val 44 = .slice A3 ([] : Term).length n3,
            fun val _ _ => val 45 = .int .i64 (numD b 3),
            fun val _ _ => val 46 = .slice (some ⟨bb, off, none⟩) b.length cb,
            fun val _ _ => val 47 = .pointer (some ⟨bb, off + 2, none⟩),
            fun val _ _ => val 48 = .int .u8 y2,
            fun val _ _ => val 49 = .int .i64 y2,
            fun val _ _ => val 50 = .agg #[.int .i64 y2, .slice none 0 0],
            fun val _ _ => val 51 = .agg #[.int .i64 y0, .int .i64 y1, .slice A3 ([] : Term).length n3, .int .i64 (numD b 3), .int .i64 y2, .slice none 0 0],
            onBox 10 #[.int .i64 0, .int .i64 0, .slice none 0 0, .int .i64 0, .int .i64 0, .slice none 0 0] 34,
            onBox 10 #[.int .i64 y0, .int .i64 y1, .slice A3 ([] : Term).length n3, .int .i64 (numD b 3), .int .i64 y2, .slice none 0 0] 34]
          [[], [], [], [], [], [], [], [], [], [], [], [], [], [], [], [], [], [16]] 0 (fun _ => False) (fun _ _ => False) (by kernel_rfl) ⟨by kernel_rfl, by kernel_rfl, by kernel_rfl, by kernel_rfl, by kernel_rfl⟩
          (.cons (stab_val 36 (fun v => v = .slice (some ⟨bb, off, none⟩) b.length cb)) (.cons (stab_val 37 (fun v => v = .pointer (some ⟨bb, off, none⟩))) (.cons (stab_val 38 (fun v => v = .int .u8 y0)) (.cons (stab_val 39 (fun v => v = .int .i64 y0)) (.cons (stab_val 40 (fun v => v = .slice (some ⟨bb, off, none⟩) b.length cb)) (.cons (stab_val 41 (fun v => v = .pointer (some ⟨bb, off + 1, none⟩))) (.cons (stab_val 42 (fun v => v = .int .u8 y1)) (.cons (stab_val 43 (fun v => v = .int .i64 y1)) (.cons (stab_val 44 (fun v => v = .slice A3 ([] : Term).length n3)) (.cons (stab_val 45 (fun v => v = .int .i64 (numD b 3))) (.cons (stab_val 46 (fun v => v = .slice (some ⟨bb, off, none⟩) b.length cb)) (.cons (stab_val 47 (fun v => v = .pointer (some ⟨bb, off + 2, none⟩))) (.cons (stab_val 48 (fun v => v = .int .u8 y2)) (.cons (stab_val 49 (fun v => v = .int .i64 y2)) (.cons (stab_val 50 (fun v => v = .agg #[.int .i64 y2, .slice none 0 0])) (.cons (stab_val 51 (fun v => v = .agg #[.int .i64 y0, .int .i64 y1, .slice A3 ([] : Term).length n3, .int .i64 (numD b 3), .int .i64 y2, .slice none 0 0])) (.cons (stab_box 10 #[.int .i64 0, .int .i64 0, .slice none 0 0, .int .i64 0, .int .i64 0, .slice none 0 0] 34) (.cons (stab_box 10 #[.int .i64 y0, .int .i64 y1, .slice A3 ([] : Term).length n3, .int .i64 (numD b 3), .int .i64 y2, .slice none 0 0] 34) .nil))))))))))))))))))
          (fun i j k h1 h2 => h1.elim) (fun i k h => h.elim) (fun i h1 h2 => by simp at h1 h2; omega) (.cons ?_ (.cons ?_ (.cons ?_ (.cons ?_ (.cons ?_ (.cons ?_ (.cons ?_ (.cons ?_ (.cons ?_ (.cons ?_ (.cons ?_ (.cons ?_ (.cons ?_ (.cons ?_ (.cons ?_ (.cons ?_ (.cons ?_ (.cons ?_ .nil)))))))))))))))))) ?_
        · intro a W own hfor huse hap hmi hF K hK
          have e4 : a.eval (.tmp 4) = .slice (some ⟨bb, off, none⟩) b.length cb := hfor 4 (by kernel_rfl)
          refine op_val (.slice (some ⟨bb, off, none⟩) b.length cb) W rfl ?_ (hK _ _ (post_pure ?_))
          · clear hfor huse hap hmi hK hF
            generalize a.eval = ρ at *
            go_simp
          · exact (if_pos rfl)
        · intro a W own hfor huse hap hmi hF K hK
          have e36 : a.eval (.tmp 36) = .slice (some ⟨bb, off, none⟩) b.length cb := huse 0 (by kernel_rfl)
          have ec0 : a.eval (.const (.int .i64 0)) = .int .i64 0 := rfl
          refine op_val (.pointer (some ⟨bb, off, none⟩)) W rfl ?_ (hK _ _ (post_pure ?_))
          · clear hfor huse hap hmi hK hF
            generalize a.eval = ρ at *
            go_simp
          · exact (if_pos rfl)
        · intro a W own hfor huse hap hmi hF K hK
          have e37 : a.eval (.tmp 37) = .pointer (some ⟨bb, off, none⟩) := huse 1 (by kernel_rfl)
          have x0 := foot_cell hF (fun h => h) P0.out
          refine op_val (.int .u8 y0) W rfl ?_ (hK _ _ (post_pure ?_))
          · clear hfor huse hap hmi hK hF
            generalize a.eval = ρ at *
            go_simp
          · exact (if_pos rfl)
        · intro a W own hfor huse hap hmi hF K hK
          have e38 : a.eval (.tmp 38) = .int .u8 y0 := huse 2 (by kernel_rfl)
          have wy : IntKind.i64.wrap (y0 : Int) = (y0 : Int) := wrapIn _ (by omega) (by omega)
          refine op_val (.int .i64 y0) W rfl ?_ (hK _ _ (post_pure ?_))
          · clear hfor huse hap hmi hK hF
            generalize a.eval = ρ at *
            go_simp
          · exact (if_pos rfl)
        · intro a W own hfor huse hap hmi hF K hK
          have e4 : a.eval (.tmp 4) = .slice (some ⟨bb, off, none⟩) b.length cb := hfor 4 (by kernel_rfl)
          refine op_val (.slice (some ⟨bb, off, none⟩) b.length cb) W rfl ?_ (hK _ _ (post_pure ?_))
          · clear hfor huse hap hmi hK hF
            generalize a.eval = ρ at *
            go_simp
          · exact (if_pos rfl)
        · intro a W own hfor huse hap hmi hF K hK
          have e40 : a.eval (.tmp 40) = .slice (some ⟨bb, off, none⟩) b.length cb := huse 4 (by kernel_rfl)
          have ec0 : a.eval (.const (.int .i64 1)) = .int .i64 1 := rfl
          have ib : ¬ ((b.length : Int) ≤ 1) := by omega
          refine op_val (.pointer (some ⟨bb, off + 1, none⟩)) W rfl ?_ (hK _ _ (post_pure ?_))
          · clear hfor huse hap hmi hK hF
            generalize a.eval = ρ at *
            go_simp
          · exact (if_pos rfl)
        · intro a W own hfor huse hap hmi hF K hK
          have e41 : a.eval (.tmp 41) = .pointer (some ⟨bb, off + 1, none⟩) := huse 5 (by kernel_rfl)
          have x1 := foot_cell hF (fun h => h) P1.out
          refine op_val (.int .u8 y1) W rfl ?_ (hK _ _ (post_pure ?_))
          · clear hfor huse hap hmi hK hF
            generalize a.eval = ρ at *
            go_simp
          · exact (if_pos rfl)
        · intro a W own hfor huse hap hmi hF K hK
          have e42 : a.eval (.tmp 42) = .int .u8 y1 := huse 6 (by kernel_rfl)
          have wy : IntKind.i64.wrap (y1 : Int) = (y1 : Int) := wrapIn _ (by omega) (by omega)
          refine op_val (.int .i64 y1) W rfl ?_ (hK _ _ (post_pure ?_))
          · clear hfor huse hap hmi hK hF
            generalize a.eval = ρ at *
            go_simp
          · exact (if_pos rfl)
        · intro a W own hfor huse hap hmi hF K hK
          have e8 : a.eval (.tmp 8) = .slice A3 ([] : Term).length n3 := hfor 8 (by kernel_rfl)
          refine op_val (.slice A3 ([] : Term).length n3) W rfl ?_ (hK _ _ (post_pure ?_))
          · clear hfor huse hap hmi hK hF
            generalize a.eval = ρ at *
            go_simp
          · exact (if_pos rfl)
        · intro a W own hfor huse hap hmi hF K hK
          have e6 : a.eval (.tmp 6) = .int .i64 (numD b 3) := hfor 6 (by kernel_rfl)
          refine op_val (.int .i64 (numD b 3)) W rfl ?_ (hK _ _ (post_pure ?_))
          · clear hfor huse hap hmi hK hF
            generalize a.eval = ρ at *
            go_simp
          · exact (if_pos rfl)
        · intro a W own hfor huse hap hmi hF K hK
          have e4 : a.eval (.tmp 4) = .slice (some ⟨bb, off, none⟩) b.length cb := hfor 4 (by kernel_rfl)
          refine op_val (.slice (some ⟨bb, off, none⟩) b.length cb) W rfl ?_ (hK _ _ (post_pure ?_))
          · clear hfor huse hap hmi hK hF
            generalize a.eval = ρ at *
            go_simp
          · exact (if_pos rfl)
        · intro a W own hfor huse hap hmi hF K hK
          have e46 : a.eval (.tmp 46) = .slice (some ⟨bb, off, none⟩) b.length cb := huse 10 (by kernel_rfl)
          have ec0 : a.eval (.const (.int .i64 2)) = .int .i64 2 := rfl
          have ib : ¬ ((b.length : Int) ≤ 2) := by omega
          refine op_val (.pointer (some ⟨bb, off + 2, none⟩)) W rfl ?_ (hK _ _ (post_pure ?_))
          · clear hfor huse hap hmi hK hF
            generalize a.eval = ρ at *
            go_simp
          · exact (if_pos rfl)
        · intro a W own hfor huse hap hmi hF K hK
          have e47 : a.eval (.tmp 47) = .pointer (some ⟨bb, off + 2, none⟩) := huse 11 (by kernel_rfl)
          have x2 := foot_cell hF (fun h => h) P2.out
          refine op_val (.int .u8 y2) W rfl ?_ (hK _ _ (post_pure ?_))
          · clear hfor huse hap hmi hK hF
            generalize a.eval = ρ at *
            go_simp
          · exact (if_pos rfl)
        · intro a W own hfor huse hap hmi hF K hK
          have e48 : a.eval (.tmp 48) = .int .u8 y2 := huse 12 (by kernel_rfl)
          have wy : IntKind.i64.wrap (y2 : Int) = (y2 : Int) := wrapIn _ (by omega) (by omega)
          refine op_val (.int .i64 y2) W rfl ?_ (hK _ _ (post_pure ?_))
          · clear hfor huse hap hmi hK hF
            generalize a.eval = ρ at *
            go_simp
          · exact (if_pos rfl)
        · intro a W own hfor huse hap hmi hF K hK
          have e49 : a.eval (.tmp 49) = .int .i64 y2 := huse 13 (by kernel_rfl)
          refine op_val (.agg #[.int .i64 y2, .slice none 0 0]) W rfl ?_ (hK _ _ (post_pure ?_))
          · clear hfor huse hap hmi hK hF
            generalize a.eval = ρ at *
            go_simp
          · exact (if_pos rfl)
        · intro a W own hfor huse hap hmi hF K hK
          have e39 : a.eval (.tmp 39) = .int .i64 y0 := huse 3 (by kernel_rfl)
          have e43 : a.eval (.tmp 43) = .int .i64 y1 := huse 7 (by kernel_rfl)
          have e44 : a.eval (.tmp 44) = .slice A3 ([] : Term).length n3 := huse 8 (by kernel_rfl)
          have e45 : a.eval (.tmp 45) = .int .i64 (numD b 3) := huse 9 (by kernel_rfl)
          have e50 : a.eval (.tmp 50) = .agg #[.int .i64 y2, .slice none 0 0] := huse 14 (by kernel_rfl)
          refine op_val (.agg #[.int .i64 y0, .int .i64 y1, .slice A3 ([] : Term).length n3, .int .i64 (numD b 3), .int .i64 y2, .slice none 0 0]) W rfl ?_ (hK _ _ (post_pure ?_))
          · clear hfor huse hap hmi hK hF
            generalize a.eval = ρ at *
            go_simp
          · exact (if_pos rfl)
        · intro a W own hfor huse hap hmi hF K hK
          refine op_val (.pointer (some ⟨W.heap.size, 0, none⟩)) (W.alloc (.cells #[.int .i64 0, .int .i64 0, .slice none 0 0, .int .i64 0, .int .i64 0, .slice none 0 0] 34)) rfl ?_ (hK _ _ (post_new (belA (Below.refl _ _) _) ⟨W.heap.size, if_pos rfl, heap_alloc_new W _, Nat.le_refl _, by simp⟩))
          · clear hfor huse hap hmi hK hF
            generalize a.eval = ρ at *
            go_simp
        · intro a W own hfor huse hap hmi hF K hK
          obtain ⟨g, e10, hb, hSg⟩ := (huse 16 (by kernel_rfl) : onBox 10 #[.int .i64 0, .int .i64 0, .slice none 0 0, .int .i64 0, .int .i64 0, .slice none 0 0] 34 (slotsOf a) (own 16) W)
          have e10 : a.eval (.tmp 10) = .pointer (some ⟨g, 0, none⟩) := e10
          have e51 : a.eval (.tmp 51) = .agg #[.int .i64 y0, .int .i64 y1, .slice A3 ([] : Term).length n3, .int .i64 (numD b 3), .int .i64 y2, .slice none 0 0] := huse 15 (by kernel_rfl)
          refine step_store (cs := [.int .i64 y0, .int .i64 y1, .slice A3 ([] : Term).length n3, .int .i64 (numD b 3), .int .i64 y2, .slice none 0 0]) rfl 34 (.tmp 10) (.tmp 51) rfl e10 e51 hb (by kernel_rfl) rfl (by simp [Value.oneCell']) (fun w1 hb1 hF1 => hK _ _ ⟨fun k => own 16 k, Foot.mono hF1 (fun k e => ⟨16, by decide, e ▸ hSg⟩), ⟨g, e10, hb1, hSg⟩, fun k h => .inl ⟨16, by decide, h⟩⟩)
        intro a' W own hf
        have s1 := hf.st.size
        have s2 := hf.st.rest
        have s3 := fun t ht => hf.st.kept t ht
        revert hf
        revert a'
        refine lay_intro (df := []) [true, true, true, true, true, true, true, true, true, true, false, true, true, true, true, true, true, true, true, true, true, true, true, true, true, true, true, true, true, true, true, true, true, true, true, true, false, false, false, false, false, false, false, false, false, false, false, false, false, false, false, false, true, true, true, true, true, true, true, true, true, true, true, true, true, true, true, true, true, true, true, true, true, true, true, true, true, true, true, true] (by kernel_rfl) rfl ?_
        intro x51 x50 x49 x48 x47 x46 x45 x44 x43 x42 x41 x40 x39 x38 x37 x36 x10 hf
        obtain ⟨g, hx10, hbg, hgo⟩ := hf.at 17 (onBox 10 #[.int .i64 y0, .int .i64 y1, .slice A3 ([] : Term).length n3, .int .i64 (numD b 3), .int .i64 y2, .slice none 0 0] 34) rfl (by kernel_rfl)
        have hx10 : x10 = .pointer (some ⟨g, 0, none⟩) := hx10
        subst hx10
        have HG : Sec (w3.heap.size ≤ g ∧ g < W.heap.size) := ⟨by have := hf.st.mine 17 g hgo; exact ⟨this.1.elim (fun h => by simpa using h) (fun h => h.elim), this.2⟩⟩
        have B4' : Below w3.heap.size w3 W := hf.st.foot.below (belD (Below.refl _ _)) (fun k h => h.elim)
        have B4 := Sec.mk (bel B3.out B4')
        have R4 := Sec.mk (Kd.R_below R3.out B4')
        have V4 := Sec.mk (Kd.V_below V3.out B4' (by decide))
        have X4 := Sec.mk hbg
        have T4 : Sec True := ⟨trivial⟩
        clear hf hbg hgo B4' P0 P1 P2 T3
        generalize W = w4 at *
        go_wp2_with (with_reducible show wpList _ _ _ (⟨none, .store 34 (.tmp 2) (.tmp 54), _, _, _, _⟩ :: _) _ _; refine wpList_store (cs := [.int .i64 0, .int .i64 0, .slice none 0 0, .int .i64 0, .int .i64 0, .slice none 0 0]) (old := #[.int .i64 0, .int .i64 0, .slice none 0 0, .int .i64 0, .int .i64 0, .slice none 0 0]) rfl 34 (.tmp 2) (.tmp 54) rfl rfl rfl (HR0.out _ B4.out) (by kernel_rfl) rfl (by simp [Value.oneCell']) ?_; intro w12 hb12 hF12; have X12 := Sec.mk hb12; have F12 := Sec.mk hF12; clear hb12 hF12)
        exact bodyPost_ret (res_cell2 rfl rfl rfl X12.out hu2 rfl (by kernel_rfl)) rfl ⟨_, by rw [HE.out]; rfl, by rw [HE.out]; exact kMsg.O_mono (kMsg_zero _) (fun k h _ => h.elim), F12.out.below (BB.out _ B4.out) (fun k h => Nat.le_of_eq (show k = w.heap.size from h).symm)⟩
      | some p =>
        obtain ⟨top, e1⟩ := p
        have HT6 := Sec.mk ht6
        have he1 := termD_to ht6
        have g2 : ¬ ((e1 : Int) < 0) := by omega
        by_cases hst : y2 = 2
        · have HB2 : Sec (bodyM b = match termD b e1 with
            | none => none
            | some (t, e2) => finD b ⟨y0, y1, top, numD b 3, ⟨2, t⟩⟩ e2) := ⟨by rw [HBM.out, ht6]; simp only [hst, if_true]; cases termD b e1 <;> rfl⟩
          have hs2 : ((y2 : Int) == 2) = true := by rw [beq_iff_eq]; omega
          clear ht6
          cases ht8 : termD b e1 with
          | none =>
            have HT8 := Sec.mk ht8
            have HE : Sec (readD bs = none) := ⟨by rw [HRD.out, HB2.out, ht8]⟩
            have hne : (((-1 : Int)) != (b.length : Int)) = true := by rw [bne_iff_ne]; omega
            clear ht8 hst
            go_enter Tryz.func14, Tryz.ntmps14
            go_wp2_with (first | (clear T2; go_at_call 37; have T3 : Sec True := ⟨trivial⟩; refine (l6Term_c _ b _ 6 (by omega) HN6.out _ V2.out).mono ?_; rw [HT6.out]; rintro e w3 ⟨u3, he, hR, hb⟩; have he' : e = .returned (.tuple #[u3, .int .i64 (e1 : Int)]) := he; subst he'; replace hR : kCell.R w3 (fun k => w2.heap.size ≤ k) u3 top := hR; have R3 : Sec (kCell.R w3 (fun k => w2.heap.size ≤ k ∧ k < w3.heap.size) u3 top) := ⟨Kd.R_mono hR (fun k h1 h2 => ⟨h1, h2⟩)⟩; obtain ⟨A3, n3, rfl, -, -⟩ := Kd.R_form hR; have V3 := Sec.mk (Kd.V_below V2.out hb (by decide)); have B3 := Sec.mk (bel B2.out hb); have Z3 := Sec.mk hb.size; clear hb hR he) | (clear T1; go_at_call 36; have T2 : Sec True := ⟨trivial⟩; refine (l6Num_c _ b _ 3 (by omega) _ V1.out).mono ?_; rintro e w2 ⟨rfl, hb⟩; have V2 := Sec.mk (Kd.V_below V1.out hb (by decide)); have B2 := Sec.mk (bel B1.out hb); clear hb) | (clear T0; go_at_call 35; have T1 : Sec True := ⟨trivial⟩; refine (l6Body_c _ bs _ _ hl HV.out).mono ?_; rw [HBD.out]; rintro e w1 ⟨u1, he, hq, hb⟩; have he' : e = .returned (.tuple #[u1, .bool true]) := he; subst he'; have V1 := Sec.mk (hq b rfl); obtain ⟨Ab, cb, rfl, -⟩ := id V1.out; have B1 := Sec.mk hb; clear hb hq he))
            obtain ⟨bb, off, rfl, p0, p1, p2⟩ := HY.out _ _ _ _ V3.out
            have P0 := Sec.mk p0
            have P1 := Sec.mk p1
            have P2 := Sec.mk p2
            clear p0 p1 p2
            refine wp_region_lists [[36], [37], [38], [39], [40], [41], [42], [43], [44], [45], [46], [47], [48], [49], [50], [51], [10], [10]]
              [fun val _ _ => val 36 = .slice (some ⟨bb, off, none⟩) b.length cb,
                fun val _ _ => val 37 = .pointer (some ⟨bb, off, none⟩),
                fun val _ _ => val 38 = .int .u8 y0,
                fun val _ _ => val 39 = .int .i64 y0,
                fun val _ _ => val 40 = .slice (some ⟨bb, off, none⟩) b.length cb,
                fun val _ _ => val 41 = .pointer (some ⟨bb, off + 1, none⟩),
                fun val _ _ => val 42 = .int .u8 y1,
                fun val _ _ => val 43 = .int .i64 y1,
                fun val _ _ => val 44 = .slice A3 top.length n3,
                fun val _ _ => val 45 = .int .i64 (numD b 3),
                fun val _ _ => val 46 = .slice (some ⟨bb, off, none⟩) b.length cb,
                fun val _ _ => val 47 = .pointer (some ⟨bb, off + 2, none⟩),
                fun val _ _ => val 48 = .int .u8 y2,
                fun val _ _ => val 49 = .int .i64 y2,
                fun val _ _ => val 50 = .agg #[.int .i64 y2, .slice none 0 0],
                fun val _ _ => val 51 = .agg #[.int .i64 y0, .int .i64 y1, .slice A3 top.length n3, .int .i64 (numD b 3), .int .i64 y2, .slice none 0 0],
                onBox 10 #[.int .i64 0, .int .i64 0, .slice none 0 0, .int .i64 0, .int .i64 0, .slice none 0 0] 34,
                onBox 10 #[.int .i64 y0, .int .i64 y1, .slice A3 top.length n3, .int .i64 (numD b 3), .int .i64 y2, .slice none 0 0] 34]
              [[], [], [], [], [], [], [], [], [], [], [], [], [], [], [], [], [], [16]] 0 (fun _ => False) (fun _ _ => False) (by kernel_rfl) ⟨by kernel_rfl, by kernel_rfl, by kernel_rfl, by kernel_rfl, by kernel_rfl⟩
              (.cons (stab_val 36 (fun v => v = .slice (some ⟨bb, off, none⟩) b.length cb)) (.cons (stab_val 37 (fun v => v = .pointer (some ⟨bb, off, none⟩))) (.cons (stab_val 38 (fun v => v = .int .u8 y0)) (.cons (stab_val 39 (fun v => v = .int .i64 y0)) (.cons (stab_val 40 (fun v => v = .slice (some ⟨bb, off, none⟩) b.length cb)) (.cons (stab_val 41 (fun v => v = .pointer (some ⟨bb, off + 1, none⟩))) (.cons (stab_val 42 (fun v => v = .int .u8 y1)) (.cons (stab_val 43 (fun v => v = .int .i64 y1)) (.cons (stab_val 44 (fun v => v = .slice A3 top.length n3)) (.cons (stab_val 45 (fun v => v = .int .i64 (numD b 3))) (.cons (stab_val 46 (fun v => v = .slice (some ⟨bb, off, none⟩) b.length cb)) (.cons (stab_val 47 (fun v => v = .pointer (some ⟨bb, off + 2, none⟩))) (.cons (stab_val 48 (fun v => v = .int .u8 y2)) (.cons (stab_val 49 (fun v => v = .int .i64 y2)) (.cons (stab_val 50 (fun v => v = .agg #[.int .i64 y2, .slice none 0 0])) (.cons (stab_val 51 (fun v => v = .agg #[.int .i64 y0, .int .i64 y1, .slice A3 top.length n3, .int .i64 (numD b 3), .int .i64 y2, .slice none 0 0])) (.cons (stab_box 10 #[.int .i64 0, .int .i64 0, .slice none 0 0, .int .i64 0, .int .i64 0, .slice none 0 0] 34) (.cons (stab_box 10 #[.int .i64 y0, .int .i64 y1, .slice A3 top.length n3, .int .i64 (numD b 3), .int .i64 y2, .slice none 0 0] 34) .nil))))))))))))))))))
              (fun i j k h1 h2 => h1.elim) (fun i k h => h.elim) (fun i h1 h2 => by simp at h1 h2; omega) (.cons ?_ (.cons ?_ (.cons ?_ (.cons ?_ (.cons ?_ (.cons ?_ (.cons ?_ (.cons ?_ (.cons ?_ (.cons ?_ (.cons ?_ (.cons ?_ (.cons ?_ (.cons ?_ (.cons ?_ (.cons ?_ (.cons ?_ (.cons ?_ .nil)))))))))))))))))) ?_
            · intro a W own hfor huse hap hmi hF K hK
              have e4 : a.eval (.tmp 4) = .slice (some ⟨bb, off, none⟩) b.length cb := hfor 4 (by kernel_rfl)
              refine op_val (.slice (some ⟨bb, off, none⟩) b.length cb) W rfl ?_ (hK _ _ (post_pure ?_))
              · clear hfor huse hap hmi hK hF
                generalize a.eval = ρ at *
                go_simp
              · exact (if_pos rfl)
            · intro a W own hfor huse hap hmi hF K hK
              have e36 : a.eval (.tmp 36) = .slice (some ⟨bb, off, none⟩) b.length cb := huse 0 (by kernel_rfl)
              have ec0 : a.eval (.const (.int .i64 0)) = .int .i64 0 := rfl
              refine op_val (.pointer (some ⟨bb, off, none⟩)) W rfl ?_ (hK _ _ (post_pure ?_))
              · clear hfor huse hap hmi hK hF
                generalize a.eval = ρ at *
                go_simp
              · exact (if_pos rfl)
            · intro a W own hfor huse hap hmi hF K hK
              have e37 : a.eval (.tmp 37) = .pointer (some ⟨bb, off, none⟩) := huse 1 (by kernel_rfl)
              have x0 := foot_cell hF (fun h => h) P0.out
              refine op_val (.int .u8 y0) W rfl ?_ (hK _ _ (post_pure ?_))
              · clear hfor huse hap hmi hK hF
                generalize a.eval = ρ at *
                go_simp
              · exact (if_pos rfl)
            · intro a W own hfor huse hap hmi hF K hK
              have e38 : a.eval (.tmp 38) = .int .u8 y0 := huse 2 (by kernel_rfl)
              have wy : IntKind.i64.wrap (y0 : Int) = (y0 : Int) := wrapIn _ (by omega) (by omega)
              refine op_val (.int .i64 y0) W rfl ?_ (hK _ _ (post_pure ?_))
              · clear hfor huse hap hmi hK hF
                generalize a.eval = ρ at *
                go_simp
              · exact (if_pos rfl)
            · intro a W own hfor huse hap hmi hF K hK
              have e4 : a.eval (.tmp 4) = .slice (some ⟨bb, off, none⟩) b.length cb := hfor 4 (by kernel_rfl)
              refine op_val (.slice (some ⟨bb, off, none⟩) b.length cb) W rfl ?_ (hK _ _ (post_pure ?_))
              · clear hfor huse hap hmi hK hF
                generalize a.eval = ρ at *
                go_simp
              · exact (if_pos rfl)
            · intro a W own hfor huse hap hmi hF K hK
              have e40 : a.eval (.tmp 40) = .slice (some ⟨bb, off, none⟩) b.length cb := huse 4 (by kernel_rfl)
              have ec0 : a.eval (.const (.int .i64 1)) = .int .i64 1 := rfl
              have ib : ¬ ((b.length : Int) ≤ 1) := by omega
              refine op_val (.pointer (some ⟨bb, off + 1, none⟩)) W rfl ?_ (hK _ _ (post_pure ?_))
              · clear hfor huse hap hmi hK hF
                generalize a.eval = ρ at *
                go_simp
              · exact (if_pos rfl)
            · intro a W own hfor huse hap hmi hF K hK
              have e41 : a.eval (.tmp 41) = .pointer (some ⟨bb, off + 1, none⟩) := huse 5 (by kernel_rfl)
              have x1 := foot_cell hF (fun h => h) P1.out
              refine op_val (.int .u8 y1) W rfl ?_ (hK _ _ (post_pure ?_))
              · clear hfor huse hap hmi hK hF
                generalize a.eval = ρ at *
                go_simp
              · exact (if_pos rfl)
            · intro a W own hfor huse hap hmi hF K hK
              have e42 : a.eval (.tmp 42) = .int .u8 y1 := huse 6 (by kernel_rfl)
              have wy : IntKind.i64.wrap (y1 : Int) = (y1 : Int) := wrapIn _ (by omega) (by omega)
              refine op_val (.int .i64 y1) W rfl ?_ (hK _ _ (post_pure ?_))
              · clear hfor huse hap hmi hK hF
                generalize a.eval = ρ at *
                go_simp
              · exact (if_pos rfl)
            · intro a W own hfor huse hap hmi hF K hK
              have e8 : a.eval (.tmp 8) = .slice A3 top.length n3 := hfor 8 (by kernel_rfl)
              refine op_val (.slice A3 top.length n3) W rfl ?_ (hK _ _ (post_pure ?_))
              · clear hfor huse hap hmi hK hF
                generalize a.eval = ρ at *
                go_simp
              · exact (if_pos rfl)
            · intro a W own hfor huse hap hmi hF K hK
              have e6 : a.eval (.tmp 6) = .int .i64 (numD b 3) := hfor 6 (by kernel_rfl)
              refine op_val (.int .i64 (numD b 3)) W rfl ?_ (hK _ _ (post_pure ?_))
              · clear hfor huse hap hmi hK hF
                generalize a.eval = ρ at *
                go_simp
              · exact (if_pos rfl)
            · intro a W own hfor huse hap hmi hF K hK
              have e4 : a.eval (.tmp 4) = .slice (some ⟨bb, off, none⟩) b.length cb := hfor 4 (by kernel_rfl)
              refine op_val (.slice (some ⟨bb, off, none⟩) b.length cb) W rfl ?_ (hK _ _ (post_pure ?_))
              · clear hfor huse hap hmi hK hF
                generalize a.eval = ρ at *
                go_simp
              · exact (if_pos rfl)
            · intro a W own hfor huse hap hmi hF K hK
              have e46 : a.eval (.tmp 46) = .slice (some ⟨bb, off, none⟩) b.length cb := huse 10 (by kernel_rfl)
              have ec0 : a.eval (.const (.int .i64 2)) = .int .i64 2 := rfl
              have ib : ¬ ((b.length : Int) ≤ 2) := by omega
              refine op_val (.pointer (some ⟨bb, off + 2, none⟩)) W rfl ?_ (hK _ _ (post_pure ?_))
              · clear hfor huse hap hmi hK hF
                generalize a.eval = ρ at *
                go_simp
              · exact (if_pos rfl)
            · intro a W own hfor huse hap hmi hF K hK
              have e47 : a.eval (.tmp 47) = .pointer (some ⟨bb, off + 2, none⟩) := huse 11 (by kernel_rfl)
              have x2 := foot_cell hF (fun h => h) P2.out
              refine op_val (.int .u8 y2) W rfl ?_ (hK _ _ (post_pure ?_))
              · clear hfor huse hap hmi hK hF
                generalize a.eval = ρ at *
                go_simp
              · exact (if_pos rfl)
            · intro a W own hfor huse hap hmi hF K hK
              have e48 : a.eval (.tmp 48) = .int .u8 y2 := huse 12 (by kernel_rfl)
              have wy : IntKind.i64.wrap (y2 : Int) = (y2 : Int) := wrapIn _ (by omega) (by omega)
              refine op_val (.int .i64 y2) W rfl ?_ (hK _ _ (post_pure ?_))
              · clear hfor huse hap hmi hK hF
                generalize a.eval = ρ at *
                go_simp
              · exact (if_pos rfl)
            · intro a W own hfor huse hap hmi hF K hK
              have e49 : a.eval (.tmp 49) = .int .i64 y2 := huse 13 (by kernel_rfl)
              refine op_val (.agg #[.int .i64 y2, .slice none 0 0]) W rfl ?_ (hK _ _ (post_pure ?_))
              · clear hfor huse hap hmi hK hF
                generalize a.eval = ρ at *
                go_simp
              · exact (if_pos rfl)
            · intro a W own hfor huse hap hmi hF K hK
              have e39 : a.eval (.tmp 39) = .int .i64 y0 := huse 3 (by kernel_rfl)
              have e43 : a.eval (.tmp 43) = .int .i64 y1 := huse 7 (by kernel_rfl)
              have e44 : a.eval (.tmp 44) = .slice A3 top.length n3 := huse 8 (by kernel_rfl)
              have e45 : a.eval (.tmp 45) = .int .i64 (numD b 3) := huse 9 (by kernel_rfl)
              have e50 : a.eval (.tmp 50) = .agg #[.int .i64 y2, .slice none 0 0] := huse 14 (by kernel_rfl)
              refine op_val (.agg #[.int .i64 y0, .int .i64 y1, .slice A3 top.length n3, .int .i64 (numD b 3), .int .i64 y2, .slice none 0 0]) W rfl ?_ (hK _ _ (post_pure ?_))
              · clear hfor huse hap hmi hK hF
                generalize a.eval = ρ at *
                go_simp
              · exact (if_pos rfl)
            · intro a W own hfor huse hap hmi hF K hK
              refine op_val (.pointer (some ⟨W.heap.size, 0, none⟩)) (W.alloc (.cells #[.int .i64 0, .int .i64 0, .slice none 0 0, .int .i64 0, .int .i64 0, .slice none 0 0] 34)) rfl ?_ (hK _ _ (post_new (belA (Below.refl _ _) _) ⟨W.heap.size, if_pos rfl, heap_alloc_new W _, Nat.le_refl _, by simp⟩))
              · clear hfor huse hap hmi hK hF
                generalize a.eval = ρ at *
                go_simp
            · intro a W own hfor huse hap hmi hF K hK
              obtain ⟨g, e10, hb, hSg⟩ := (huse 16 (by kernel_rfl) : onBox 10 #[.int .i64 0, .int .i64 0, .slice none 0 0, .int .i64 0, .int .i64 0, .slice none 0 0] 34 (slotsOf a) (own 16) W)
              have e10 : a.eval (.tmp 10) = .pointer (some ⟨g, 0, none⟩) := e10
              have e51 : a.eval (.tmp 51) = .agg #[.int .i64 y0, .int .i64 y1, .slice A3 top.length n3, .int .i64 (numD b 3), .int .i64 y2, .slice none 0 0] := huse 15 (by kernel_rfl)
              refine step_store (cs := [.int .i64 y0, .int .i64 y1, .slice A3 top.length n3, .int .i64 (numD b 3), .int .i64 y2, .slice none 0 0]) rfl 34 (.tmp 10) (.tmp 51) rfl e10 e51 hb (by kernel_rfl) rfl (by simp [Value.oneCell']) (fun w1 hb1 hF1 => hK _ _ ⟨fun k => own 16 k, Foot.mono hF1 (fun k e => ⟨16, by decide, e ▸ hSg⟩), ⟨g, e10, hb1, hSg⟩, fun k h => .inl ⟨16, by decide, h⟩⟩)
            intro a' W own hf
            have s1 := hf.st.size
            have s2 := hf.st.rest
            have s3 := fun t ht => hf.st.kept t ht
            revert hf
            revert a'
            refine lay_intro (df := []) [true, true, true, true, true, true, true, true, true, true, false, true, true, true, true, true, true, true, true, true, true, true, true, true, true, true, true, true, true, true, true, true, true, true, true, true, false, false, false, false, false, false, false, false, false, false, false, false, false, false, false, false, true, true, true, true, true, true, true, true, true, true, true, true, true, true, true, true, true, true, true, true, true, true, true, true, true, true, true, true] (by kernel_rfl) rfl ?_
            intro x51 x50 x49 x48 x47 x46 x45 x44 x43 x42 x41 x40 x39 x38 x37 x36 x10 hf
            obtain ⟨g, hx10, hbg, hgo⟩ := hf.at 17 (onBox 10 #[.int .i64 y0, .int .i64 y1, .slice A3 top.length n3, .int .i64 (numD b 3), .int .i64 y2, .slice none 0 0] 34) rfl (by kernel_rfl)
            have hx10 : x10 = .pointer (some ⟨g, 0, none⟩) := hx10
            subst hx10
            have HG : Sec (w3.heap.size ≤ g ∧ g < W.heap.size) := ⟨by have := hf.st.mine 17 g hgo; exact ⟨this.1.elim (fun h => by simpa using h) (fun h => h.elim), this.2⟩⟩
            have B4' : Below w3.heap.size w3 W := hf.st.foot.below (belD (Below.refl _ _)) (fun k h => h.elim)
            have B4 := Sec.mk (bel B3.out B4')
            have R4 := Sec.mk (Kd.R_below R3.out B4')
            have V4 := Sec.mk (Kd.V_below V3.out B4' (by decide))
            have X4 := Sec.mk hbg
            have T4 : Sec True := ⟨trivial⟩
            clear hf hbg hgo B4' P0 P1 P2 T3
            generalize W = w4 at *
            have hq := box_at X4.out
            have q0 : w4.cell? ⟨g, 0, none⟩ = some (.int .i64 y0) := hq.2.1 0 _ rfl
            have f0 := hq.2.2 0
            have q1 : w4.cell? ⟨g, 1, none⟩ = some (.int .i64 y1) := hq.2.1 1 _ rfl
            have f1 := hq.2.2 1
            have q2 : w4.cell? ⟨g, 2, none⟩ = some (.slice A3 top.length n3) := hq.2.1 2 _ rfl
            have f2 := hq.2.2 2
            have q3 : w4.cell? ⟨g, 3, none⟩ = some (.int .i64 (numD b 3)) := hq.2.1 3 _ rfl
            have f3 := hq.2.2 3
            have q4 : w4.cell? ⟨g, 4, none⟩ = some (.int .i64 y2) := hq.2.1 4 _ rfl
            have f4 := hq.2.2 4
            have q5 : w4.cell? ⟨g, 5, none⟩ = some (.slice none 0 0) := hq.2.1 5 _ rfl
            have f5 := hq.2.2 5
            clear hq
            go_wp2_with (first | (with_reducible show wpList _ _ _ (⟨none, .store 34 (.tmp 2) (.tmp 78), _, _, _, _⟩ :: _) _ _; refine wpList_store (cs := [.int .i64 0, .int .i64 0, .slice none 0 0, .int .i64 0, .int .i64 0, .slice none 0 0]) (old := #[.int .i64 0, .int .i64 0, .slice none 0 0, .int .i64 0, .int .i64 0, .slice none 0 0]) rfl 34 (.tmp 2) (.tmp 78) rfl rfl rfl (HR0.out _ (B5.out.setCell (p := ⟨g, 5, none⟩) (Nat.le_trans B3.out.size HG.out.1) _)) (by kernel_rfl) rfl (by simp [Value.oneCell']) ?_; intro w12 hb12 hF12; have X12 := Sec.mk hb12; have F12 := Sec.mk hF12; clear hb12 hF12) | (clear T4; go_at_call 37; have T5 : Sec True := ⟨trivial⟩; refine (l6Term_c _ b _ e1 (by omega) (by omega) _ V4.out).mono ?_; rw [HT8.out]; rintro e w5 ⟨u5, he, hR, hb⟩; have he' : e = .returned (.tuple #[u5, .int .i64 (-1)]) := he; subst he'; obtain ⟨A5, n5, rfl, -, -⟩ := Kd.R_form hR; have B5 := Sec.mk (bel B4.out hb); have Z5 := Sec.mk hb.size; have X5 := Sec.mk (carryB hb X4.out); clear q0 f0 q1 f1 q2 f2 q3 f3 q4 f4 q5 f5; have hq := box_at X5.out; have q0 : w5.cell? ⟨g, 0, none⟩ = some (.int .i64 y0) := hq.2.1 0 _ rfl; have f0 := hq.2.2 0; have q1 : w5.cell? ⟨g, 1, none⟩ = some (.int .i64 y1) := hq.2.1 1 _ rfl; have f1 := hq.2.2 1; have q2 : w5.cell? ⟨g, 2, none⟩ = some (.slice A3 top.length n3) := hq.2.1 2 _ rfl; have f2 := hq.2.2 2; have q3 : w5.cell? ⟨g, 3, none⟩ = some (.int .i64 (numD b 3)) := hq.2.1 3 _ rfl; have f3 := hq.2.2 3; have q4 : w5.cell? ⟨g, 4, none⟩ = some (.int .i64 y2) := hq.2.1 4 _ rfl; have f4 := hq.2.2 4; have q5 : w5.cell? ⟨g, 5, none⟩ = some (.slice none 0 0) := hq.2.1 5 _ rfl; have f5 := hq.2.2 5; clear hq; clear hb hR he))
            exact bodyPost_ret (res_cell2 rfl rfl rfl X12.out hu2 rfl (by kernel_rfl)) rfl ⟨_, by rw [HE.out]; rfl, by rw [HE.out]; exact kMsg.O_mono (kMsg_zero _) (fun k h _ => h.elim), F12.out.below (BB.out _ (B5.out.setCell (p := ⟨g, 5, none⟩) (Nat.le_trans B3.out.size HG.out.1) _)) (fun k h => Nat.le_of_eq (show k = w.heap.size from h).symm)⟩
          | some q =>
            obtain ⟨t, e2⟩ := q
            have HT8 := Sec.mk ht8
            have he2 := termD_to ht8
            obtain ⟨m, hm⟩ : ∃ m, m = (⟨y0, y1, top, numD b 3, ⟨y2, t⟩⟩ : Msg) := ⟨_, rfl⟩
            have HRF : Sec (readD bs = finD b m e2) := ⟨by rw [HRD.out, HB2.out, ht8, hm, hst]; rfl⟩
            have HM := Sec.mk hm
            clear ht8 hm hst
            cases hne : ((e2 : Int) != (b.length : Int)) with
            | true =>
              have HE : Sec (readD bs = none) := ⟨by rw [HRF.out]; unfold finD; rw [if_neg (fun h => by rw [h.1] at hne; simp at hne)]⟩
              go_enter Tryz.func14, Tryz.ntmps14
              go_wp2_with (first | (clear T2; go_at_call 37; have T3 : Sec True := ⟨trivial⟩; refine (l6Term_c _ b _ 6 (by omega) HN6.out _ V2.out).mono ?_; rw [HT6.out]; rintro e w3 ⟨u3, he, hR, hb⟩; have he' : e = .returned (.tuple #[u3, .int .i64 (e1 : Int)]) := he; subst he'; replace hR : kCell.R w3 (fun k => w2.heap.size ≤ k) u3 top := hR; have R3 : Sec (kCell.R w3 (fun k => w2.heap.size ≤ k ∧ k < w3.heap.size) u3 top) := ⟨Kd.R_mono hR (fun k h1 h2 => ⟨h1, h2⟩)⟩; obtain ⟨A3, n3, rfl, -, -⟩ := Kd.R_form hR; have V3 := Sec.mk (Kd.V_below V2.out hb (by decide)); have B3 := Sec.mk (bel B2.out hb); have Z3 := Sec.mk hb.size; clear hb hR he) | (clear T1; go_at_call 36; have T2 : Sec True := ⟨trivial⟩; refine (l6Num_c _ b _ 3 (by omega) _ V1.out).mono ?_; rintro e w2 ⟨rfl, hb⟩; have V2 := Sec.mk (Kd.V_below V1.out hb (by decide)); have B2 := Sec.mk (bel B1.out hb); clear hb) | (clear T0; go_at_call 35; have T1 : Sec True := ⟨trivial⟩; refine (l6Body_c _ bs _ _ hl HV.out).mono ?_; rw [HBD.out]; rintro e w1 ⟨u1, he, hq, hb⟩; have he' : e = .returned (.tuple #[u1, .bool true]) := he; subst he'; have V1 := Sec.mk (hq b rfl); obtain ⟨Ab, cb, rfl, -⟩ := id V1.out; have B1 := Sec.mk hb; clear hb hq he))
              obtain ⟨bb, off, rfl, p0, p1, p2⟩ := HY.out _ _ _ _ V3.out
              have P0 := Sec.mk p0
              have P1 := Sec.mk p1
              have P2 := Sec.mk p2
              clear p0 p1 p2
              refine wp_region_lists [[36], [37], [38], [39], [40], [41], [42], [43], [44], [45], [46], [47], [48], [49], [50], [51], [10], [10]]
                [fun val _ _ => val 36 = .slice (some ⟨bb, off, none⟩) b.length cb,
                  fun val _ _ => val 37 = .pointer (some ⟨bb, off, none⟩),
                  fun val _ _ => val 38 = .int .u8 y0,
                  fun val _ _ => val 39 = .int .i64 y0,
                  fun val _ _ => val 40 = .slice (some ⟨bb, off, none⟩) b.length cb,
                  fun val _ _ => val 41 = .pointer (some ⟨bb, off + 1, none⟩),
                  fun val _ _ => val 42 = .int .u8 y1,
                  fun val _ _ => val 43 = .int .i64 y1,
                  fun val _ _ => val 44 = .slice A3 top.length n3,
                  fun val _ _ => val 45 = .int .i64 (numD b 3),
                  fun val _ _ => val 46 = .slice (some ⟨bb, off, none⟩) b.length cb,
                  fun val _ _ => val 47 = .pointer (some ⟨bb, off + 2, none⟩),
                  fun val _ _ => val 48 = .int .u8 y2,
                  fun val _ _ => val 49 = .int .i64 y2,
                  fun val _ _ => val 50 = .agg #[.int .i64 y2, .slice none 0 0],
                  fun val _ _ => val 51 = .agg #[.int .i64 y0, .int .i64 y1, .slice A3 top.length n3, .int .i64 (numD b 3), .int .i64 y2, .slice none 0 0],
                  onBox 10 #[.int .i64 0, .int .i64 0, .slice none 0 0, .int .i64 0, .int .i64 0, .slice none 0 0] 34,
                  onBox 10 #[.int .i64 y0, .int .i64 y1, .slice A3 top.length n3, .int .i64 (numD b 3), .int .i64 y2, .slice none 0 0] 34]
                [[], [], [], [], [], [], [], [], [], [], [], [], [], [], [], [], [], [16]] 0 (fun _ => False) (fun _ _ => False) (by kernel_rfl) ⟨by kernel_rfl, by kernel_rfl, by kernel_rfl, by kernel_rfl, by kernel_rfl⟩
                (.cons (stab_val 36 (fun v => v = .slice (some ⟨bb, off, none⟩) b.length cb)) (.cons (stab_val 37 (fun v => v = .pointer (some ⟨bb, off, none⟩))) (.cons (stab_val 38 (fun v => v = .int .u8 y0)) (.cons (stab_val 39 (fun v => v = .int .i64 y0)) (.cons (stab_val 40 (fun v => v = .slice (some ⟨bb, off, none⟩) b.length cb)) (.cons (stab_val 41 (fun v => v = .pointer (some ⟨bb, off + 1, none⟩))) (.cons (stab_val 42 (fun v => v = .int .u8 y1)) (.cons (stab_val 43 (fun v => v = .int .i64 y1)) (.cons (stab_val 44 (fun v => v = .slice A3 top.length n3)) (.cons (stab_val 45 (fun v => v = .int .i64 (numD b 3))) (.cons (stab_val 46 (fun v => v = .slice (some ⟨bb, off, none⟩) b.length cb)) (.cons (stab_val 47 (fun v => v = .pointer (some ⟨bb, off + 2, none⟩))) (.cons (stab_val 48 (fun v => v = .int .u8 y2)) (.cons (stab_val 49 (fun v => v = .int .i64 y2)) (.cons (stab_val 50 (fun v => v = .agg #[.int .i64 y2, .slice none 0 0])) (.cons (stab_val 51 (fun v => v = .agg #[.int .i64 y0, .int .i64 y1, .slice A3 top.length n3, .int .i64 (numD b 3), .int .i64 y2, .slice none 0 0])) (.cons (stab_box 10 #[.int .i64 0, .int .i64 0, .slice none 0 0, .int .i64 0, .int .i64 0, .slice none 0 0] 34) (.cons (stab_box 10 #[.int .i64 y0, .int .i64 y1, .slice A3 top.length n3, .int .i64 (numD b 3), .int .i64 y2, .slice none 0 0] 34) .nil))))))))))))))))))
                (fun i j k h1 h2 => h1.elim) (fun i k h => h.elim) (fun i h1 h2 => by simp at h1 h2; omega) (.cons ?_ (.cons ?_ (.cons ?_ (.cons ?_ (.cons ?_ (.cons ?_ (.cons ?_ (.cons ?_ (.cons ?_ (.cons ?_ (.cons ?_ (.cons ?_ (.cons ?_ (.cons ?_ (.cons ?_ (.cons ?_ (.cons ?_ (.cons ?_ .nil)))))))))))))))))) ?_
              · intro a W own hfor huse hap hmi hF K hK
                have e4 : a.eval (.tmp 4) = .slice (some ⟨bb, off, none⟩) b.length cb := hfor 4 (by kernel_rfl)
                refine op_val (.slice (some ⟨bb, off, none⟩) b.length cb) W rfl ?_ (hK _ _ (post_pure ?_))
                · clear hfor huse hap hmi hK hF
                  generalize a.eval = ρ at *
                  go_simp
                · exact (if_pos rfl)
              · intro a W own hfor huse hap hmi hF K hK
                have e36 : a.eval (.tmp 36) = .slice (some ⟨bb, off, none⟩) b.length cb := huse 0 (by kernel_rfl)
                have ec0 : a.eval (.const (.int .i64 0)) = .int .i64 0 := rfl
                refine op_val (.pointer (some ⟨bb, off, none⟩)) W rfl ?_ (hK _ _ (post_pure ?_))
                · clear hfor huse hap hmi hK hF
                  generalize a.eval = ρ at *
                  go_simp
                · exact (if_pos rfl)
              · intro a W own hfor huse hap hmi hF K hK
                have e37 : a.eval (.tmp 37) = .pointer (some ⟨bb, off, none⟩) := huse 1 (by kernel_rfl)
                have x0 := foot_cell hF (fun h => h) P0.out
                refine op_val (.int .u8 y0) W rfl ?_ (hK _ _ (post_pure ?_))
                · clear hfor huse hap hmi hK hF
                  generalize a.eval = ρ at *
                  go_simp
                · exact (if_pos rfl)
              · intro a W own hfor huse hap hmi hF K hK
                have e38 : a.eval (.tmp 38) = .int .u8 y0 := huse 2 (by kernel_rfl)
                have wy : IntKind.i64.wrap (y0 : Int) = (y0 : Int) := wrapIn _ (by omega) (by omega)
                refine op_val (.int .i64 y0) W rfl ?_ (hK _ _ (post_pure ?_))
                · clear hfor huse hap hmi hK hF
                  generalize a.eval = ρ at *
                  go_simp
                · exact (if_pos rfl)
              · intro a W own hfor huse hap hmi hF K hK
                have e4 : a.eval (.tmp 4) = .slice (some ⟨bb, off, none⟩) b.length cb := hfor 4 (by kernel_rfl)
                refine op_val (.slice (some ⟨bb, off, none⟩) b.length cb) W rfl ?_ (hK _ _ (post_pure ?_))
                · clear hfor huse hap hmi hK hF
                  generalize a.eval = ρ at *
                  go_simp
                · exact (if_pos rfl)
              · intro a W own hfor huse hap hmi hF K hK
                have e40 : a.eval (.tmp 40) = .slice (some ⟨bb, off, none⟩) b.length cb := huse 4 (by kernel_rfl)
                have ec0 : a.eval (.const (.int .i64 1)) = .int .i64 1 := rfl
                have ib : ¬ ((b.length : Int) ≤ 1) := by omega
                refine op_val (.pointer (some ⟨bb, off + 1, none⟩)) W rfl ?_ (hK _ _ (post_pure ?_))
                · clear hfor huse hap hmi hK hF
                  generalize a.eval = ρ at *
                  go_simp
                · exact (if_pos rfl)
              · intro a W own hfor huse hap hmi hF K hK
                have e41 : a.eval (.tmp 41) = .pointer (some ⟨bb, off + 1, none⟩) := huse 5 (by kernel_rfl)
                have x1 := foot_cell hF (fun h => h) P1.out
                refine op_val (.int .u8 y1) W rfl ?_ (hK _ _ (post_pure ?_))
                · clear hfor huse hap hmi hK hF
                  generalize a.eval = ρ at *
                  go_simp
                · exact (if_pos rfl)
              · intro a W own hfor huse hap hmi hF K hK
                have e42 : a.eval (.tmp 42) = .int .u8 y1 := huse 6 (by kernel_rfl)
                have wy : IntKind.i64.wrap (y1 : Int) = (y1 : Int) := wrapIn _ (by omega) (by omega)
                refine op_val (.int .i64 y1) W rfl ?_ (hK _ _ (post_pure ?_))
                · clear hfor huse hap hmi hK hF
                  generalize a.eval = ρ at *
                  go_simp
                · exact (if_pos rfl)
              · intro a W own hfor huse hap hmi hF K hK
                have e8 : a.eval (.tmp 8) = .slice A3 top.length n3 := hfor 8 (by kernel_rfl)
                refine op_val (.slice A3 top.length n3) W rfl ?_ (hK _ _ (post_pure ?_))
                · clear hfor huse hap hmi hK hF
                  generalize a.eval = ρ at *
                  go_simp
                · exact (if_pos rfl)
              · intro a W own hfor huse hap hmi hF K hK
                have e6 : a.eval (.tmp 6) = .int .i64 (numD b 3) := hfor 6 (by kernel_rfl)
                refine op_val (.int .i64 (numD b 3)) W rfl ?_ (hK _ _ (post_pure ?_))
                · clear hfor huse hap hmi hK hF
                  generalize a.eval = ρ at *
                  go_simp
                · exact (if_pos rfl)
              · intro a W own hfor huse hap hmi hF K hK
                have e4 : a.eval (.tmp 4) = .slice (some ⟨bb, off, none⟩) b.length cb := hfor 4 (by kernel_rfl)
                refine op_val (.slice (some ⟨bb, off, none⟩) b.length cb) W rfl ?_ (hK _ _ (post_pure ?_))
                · clear hfor huse hap hmi hK hF
                  generalize a.eval = ρ at *
                  go_simp
                · exact (if_pos rfl)
              · intro a W own hfor huse hap hmi hF K hK
                have e46 : a.eval (.tmp 46) = .slice (some ⟨bb, off, none⟩) b.length cb := huse 10 (by kernel_rfl)
                have ec0 : a.eval (.const (.int .i64 2)) = .int .i64 2 := rfl
                have ib : ¬ ((b.length : Int) ≤ 2) := by omega
                refine op_val (.pointer (some ⟨bb, off + 2, none⟩)) W rfl ?_ (hK _ _ (post_pure ?_))
                · clear hfor huse hap hmi hK hF
                  generalize a.eval = ρ at *
                  go_simp
                · exact (if_pos rfl)
              · intro a W own hfor huse hap hmi hF K hK
                have e47 : a.eval (.tmp 47) = .pointer (some ⟨bb, off + 2, none⟩) := huse 11 (by kernel_rfl)
                have x2 := foot_cell hF (fun h => h) P2.out
                refine op_val (.int .u8 y2) W rfl ?_ (hK _ _ (post_pure ?_))
                · clear hfor huse hap hmi hK hF
                  generalize a.eval = ρ at *
                  go_simp
                · exact (if_pos rfl)
              · intro a W own hfor huse hap hmi hF K hK
                have e48 : a.eval (.tmp 48) = .int .u8 y2 := huse 12 (by kernel_rfl)
                have wy : IntKind.i64.wrap (y2 : Int) = (y2 : Int) := wrapIn _ (by omega) (by omega)
                refine op_val (.int .i64 y2) W rfl ?_ (hK _ _ (post_pure ?_))
                · clear hfor huse hap hmi hK hF
                  generalize a.eval = ρ at *
                  go_simp
                · exact (if_pos rfl)
              · intro a W own hfor huse hap hmi hF K hK
                have e49 : a.eval (.tmp 49) = .int .i64 y2 := huse 13 (by kernel_rfl)
                refine op_val (.agg #[.int .i64 y2, .slice none 0 0]) W rfl ?_ (hK _ _ (post_pure ?_))
                · clear hfor huse hap hmi hK hF
                  generalize a.eval = ρ at *
                  go_simp
                · exact (if_pos rfl)
              · intro a W own hfor huse hap hmi hF K hK
                have e39 : a.eval (.tmp 39) = .int .i64 y0 := huse 3 (by kernel_rfl)
                have e43 : a.eval (.tmp 43) = .int .i64 y1 := huse 7 (by kernel_rfl)
                have e44 : a.eval (.tmp 44) = .slice A3 top.length n3 := huse 8 (by kernel_rfl)
                have e45 : a.eval (.tmp 45) = .int .i64 (numD b 3) := huse 9 (by kernel_rfl)
                have e50 : a.eval (.tmp 50) = .agg #[.int .i64 y2, .slice none 0 0] := huse 14 (by kernel_rfl)
                refine op_val (.agg #[.int .i64 y0, .int .i64 y1, .slice A3 top.length n3, .int .i64 (numD b 3), .int .i64 y2, .slice none 0 0]) W rfl ?_ (hK _ _ (post_pure ?_))
                · clear hfor huse hap hmi hK hF
                  generalize a.eval = ρ at *
                  go_simp
                · exact (if_pos rfl)
              · intro a W own hfor huse hap hmi hF K hK
                refine op_val (.pointer (some ⟨W.heap.size, 0, none⟩)) (W.alloc (.cells #[.int .i64 0, .int .i64 0, .slice none 0 0, .int .i64 0, .int .i64 0, .slice none 0 0] 34)) rfl ?_ (hK _ _ (post_new (belA (Below.refl _ _) _) ⟨W.heap.size, if_pos rfl, heap_alloc_new W _, Nat.le_refl _, by simp⟩))
                · clear hfor huse hap hmi hK hF
                  generalize a.eval = ρ at *
                  go_simp
              · intro a W own hfor huse hap hmi hF K hK
                obtain ⟨g, e10, hb, hSg⟩ := (huse 16 (by kernel_rfl) : onBox 10 #[.int .i64 0, .int .i64 0, .slice none 0 0, .int .i64 0, .int .i64 0, .slice none 0 0] 34 (slotsOf a) (own 16) W)
                have e10 : a.eval (.tmp 10) = .pointer (some ⟨g, 0, none⟩) := e10
                have e51 : a.eval (.tmp 51) = .agg #[.int .i64 y0, .int .i64 y1, .slice A3 top.length n3, .int .i64 (numD b 3), .int .i64 y2, .slice none 0 0] := huse 15 (by kernel_rfl)
                refine step_store (cs := [.int .i64 y0, .int .i64 y1, .slice A3 top.length n3, .int .i64 (numD b 3), .int .i64 y2, .slice none 0 0]) rfl 34 (.tmp 10) (.tmp 51) rfl e10 e51 hb (by kernel_rfl) rfl (by simp [Value.oneCell']) (fun w1 hb1 hF1 => hK _ _ ⟨fun k => own 16 k, Foot.mono hF1 (fun k e => ⟨16, by decide, e ▸ hSg⟩), ⟨g, e10, hb1, hSg⟩, fun k h => .inl ⟨16, by decide, h⟩⟩)
              intro a' W own hf
              have s1 := hf.st.size
              have s2 := hf.st.rest
              have s3 := fun t ht => hf.st.kept t ht
              revert hf
              revert a'
              refine lay_intro (df := []) [true, true, true, true, true, true, true, true, true, true, false, true, true, true, true, true, true, true, true, true, true, true, true, true, true, true, true, true, true, true, true, true, true, true, true, true, false, false, false, false, false, false, false, false, false, false, false, false, false, false, false, false, true, true, true, true, true, true, true, true, true, true, true, true, true, true, true, true, true, true, true, true, true, true, true, true, true, true, true, true] (by kernel_rfl) rfl ?_
              intro x51 x50 x49 x48 x47 x46 x45 x44 x43 x42 x41 x40 x39 x38 x37 x36 x10 hf
              obtain ⟨g, hx10, hbg, hgo⟩ := hf.at 17 (onBox 10 #[.int .i64 y0, .int .i64 y1, .slice A3 top.length n3, .int .i64 (numD b 3), .int .i64 y2, .slice none 0 0] 34) rfl (by kernel_rfl)
              have hx10 : x10 = .pointer (some ⟨g, 0, none⟩) := hx10
              subst hx10
              have HG : Sec (w3.heap.size ≤ g ∧ g < W.heap.size) := ⟨by have := hf.st.mine 17 g hgo; exact ⟨this.1.elim (fun h => by simpa using h) (fun h => h.elim), this.2⟩⟩
              have B4' : Below w3.heap.size w3 W := hf.st.foot.below (belD (Below.refl _ _)) (fun k h => h.elim)
              have B4 := Sec.mk (bel B3.out B4')
              have R4 := Sec.mk (Kd.R_below R3.out B4')
              have V4 := Sec.mk (Kd.V_below V3.out B4' (by decide))
              have X4 := Sec.mk hbg
              have T4 : Sec True := ⟨trivial⟩
              clear hf hbg hgo B4' P0 P1 P2 T3
              generalize W = w4 at *
              have hq := box_at X4.out
              have q0 : w4.cell? ⟨g, 0, none⟩ = some (.int .i64 y0) := hq.2.1 0 _ rfl
              have f0 := hq.2.2 0
              have q1 : w4.cell? ⟨g, 1, none⟩ = some (.int .i64 y1) := hq.2.1 1 _ rfl
              have f1 := hq.2.2 1
              have q2 : w4.cell? ⟨g, 2, none⟩ = some (.slice A3 top.length n3) := hq.2.1 2 _ rfl
              have f2 := hq.2.2 2
              have q3 : w4.cell? ⟨g, 3, none⟩ = some (.int .i64 (numD b 3)) := hq.2.1 3 _ rfl
              have f3 := hq.2.2 3
              have q4 : w4.cell? ⟨g, 4, none⟩ = some (.int .i64 y2) := hq.2.1 4 _ rfl
              have f4 := hq.2.2 4
              have q5 : w4.cell? ⟨g, 5, none⟩ = some (.slice none 0 0) := hq.2.1 5 _ rfl
              have f5 := hq.2.2 5
              clear hq
              go_wp2_with (first | (with_reducible show wpList _ _ _ (⟨none, .store 34 (.tmp 2) (.tmp 78), _, _, _, _⟩ :: _) _ _; refine wpList_store (cs := [.int .i64 0, .int .i64 0, .slice none 0 0, .int .i64 0, .int .i64 0, .slice none 0 0]) (old := #[.int .i64 0, .int .i64 0, .slice none 0 0, .int .i64 0, .int .i64 0, .slice none 0 0]) rfl 34 (.tmp 2) (.tmp 78) rfl rfl rfl (HR0.out _ (B5.out.setCell (p := ⟨g, 5, none⟩) (Nat.le_trans B3.out.size HG.out.1) _)) (by kernel_rfl) rfl (by simp [Value.oneCell']) ?_; intro w12 hb12 hF12; have X12 := Sec.mk hb12; have F12 := Sec.mk hF12; clear hb12 hF12) | (clear T4; go_at_call 37; have T5 : Sec True := ⟨trivial⟩; refine (l6Term_c _ b _ e1 (by omega) (by omega) _ V4.out).mono ?_; rw [HT8.out]; rintro e w5 ⟨u5, he, hR, hb⟩; have he' : e = .returned (.tuple #[u5, .int .i64 (e2 : Int)]) := he; subst he'; replace hR : kCell.R w5 (fun k => w4.heap.size ≤ k) u5 t := hR; have R5 : Sec (kCell.R w5 (fun k => w4.heap.size ≤ k ∧ k < w5.heap.size) u5 t) := ⟨Kd.R_mono hR (fun k h1 h2 => ⟨h1, h2⟩)⟩; obtain ⟨A5, n5, rfl, -, -⟩ := Kd.R_form hR; have Q4 := Sec.mk (Kd.R_below R4.out hb); have B5 := Sec.mk (bel B4.out hb); have Z5 := Sec.mk hb.size; have X5 := Sec.mk (carryB hb X4.out); clear q0 f0 q1 f1 q2 f2 q3 f3 q4 f4 q5 f5; have hq := box_at X5.out; have q0 : w5.cell? ⟨g, 0, none⟩ = some (.int .i64 y0) := hq.2.1 0 _ rfl; have f0 := hq.2.2 0; have q1 : w5.cell? ⟨g, 1, none⟩ = some (.int .i64 y1) := hq.2.1 1 _ rfl; have f1 := hq.2.2 1; have q2 : w5.cell? ⟨g, 2, none⟩ = some (.slice A3 top.length n3) := hq.2.1 2 _ rfl; have f2 := hq.2.2 2; have q3 : w5.cell? ⟨g, 3, none⟩ = some (.int .i64 (numD b 3)) := hq.2.1 3 _ rfl; have f3 := hq.2.2 3; have q4 : w5.cell? ⟨g, 4, none⟩ = some (.int .i64 y2) := hq.2.1 4 _ rfl; have f4 := hq.2.2 4; have q5 : w5.cell? ⟨g, 5, none⟩ = some (.slice none 0 0) := hq.2.1 5 _ rfl; have f5 := hq.2.2 5; clear hq; clear hb hR he; have Y5 := Sec.mk (box_store 5 (.slice A5 t.length n5) X5.out); have g5 := q5; have h5 := f5; clear q0 f0 q1 f1 q2 f2 q3 f3 q4 f4 q5 f5; have hq := box_at Y5.out; have q0 : (w5.setCell ⟨g, 5, none⟩ (.slice A5 t.length n5)).cell? ⟨g, 0, none⟩ = some (.int .i64 y0) := hq.2.1 0 _ rfl; have f0 := hq.2.2 0; have q1 : (w5.setCell ⟨g, 5, none⟩ (.slice A5 t.length n5)).cell? ⟨g, 1, none⟩ = some (.int .i64 y1) := hq.2.1 1 _ rfl; have f1 := hq.2.2 1; have q2 : (w5.setCell ⟨g, 5, none⟩ (.slice A5 t.length n5)).cell? ⟨g, 2, none⟩ = some (.slice A3 top.length n3) := hq.2.1 2 _ rfl; have f2 := hq.2.2 2; have q3 : (w5.setCell ⟨g, 5, none⟩ (.slice A5 t.length n5)).cell? ⟨g, 3, none⟩ = some (.int .i64 (numD b 3)) := hq.2.1 3 _ rfl; have f3 := hq.2.2 3; have q4 : (w5.setCell ⟨g, 5, none⟩ (.slice A5 t.length n5)).cell? ⟨g, 4, none⟩ = some (.int .i64 y2) := hq.2.1 4 _ rfl; have f4 := hq.2.2 4; have q5 : (w5.setCell ⟨g, 5, none⟩ (.slice A5 t.length n5)).cell? ⟨g, 5, none⟩ = some (.slice A5 t.length n5) := hq.2.1 5 _ rfl; have f5 := hq.2.2 5; clear hq; have hO := msg_O (kd := y0) (fr := y1) (n := numD b 3) (st := y2) (Foot.setR (w := w5) (g := g) (i := 5) (u := .slice A5 t.length n5) Q4.out (fun h => by have := HG.out; omega)) (Foot.setR (w := w5) (g := g) (i := 5) (u := .slice A5 t.length n5) R5.out (fun h => by have := HG.out; omega)) (fun k h1 h2 => by have := HG.out; omega); rw [← HM.out] at hO; have O6 : Sec (kMsg.O (w5.setCell ⟨g, 5, none⟩ (.slice A5 t.length n5)) (fun k => w2.heap.size ≤ k ∧ k < w5.heap.size) m [.int .i64 y0, .int .i64 y1, .slice A3 top.length n3, .int .i64 (numD b 3), .int .i64 y2, .slice A5 t.length n5]) := ⟨kMsg.O_mono hO (fun k h _ => by have := Z5.out; have := HG.out; have := Z3.out; rcases h with h | h <;> omega)⟩; clear hO))
              exact bodyPost_ret (res_cell2 rfl rfl rfl X12.out hu2 rfl (by kernel_rfl)) rfl ⟨_, by rw [HE.out]; rfl, by rw [HE.out]; exact kMsg.O_mono (kMsg_zero _) (fun k h _ => h.elim), F12.out.below (BB.out _ (B5.out.setCell (p := ⟨g, 5, none⟩) (Nat.le_trans B3.out.size HG.out.1) _)) (fun k h => Nat.le_of_eq (show k = w.heap.size from h).symm)⟩
            | false =>
              have hee : e2 = b.length := by
                have h9 : (e2 : Int) = b.length := by simpa using hne
                omega
              have HEE := Sec.mk hee
              clear hee
              cases hom : msgOk m with
              | false =>
                have HE : Sec (readD bs = none) := ⟨by rw [HRF.out]; unfold finD; rw [if_neg (fun h => by rw [hom] at h; exact absurd h.2 (by simp))]⟩
                have HOM := Sec.mk hom
                clear hom
                go_enter Tryz.func14, Tryz.ntmps14
                go_wp2_with (first | (clear T2; go_at_call 37; have T3 : Sec True := ⟨trivial⟩; refine (l6Term_c _ b _ 6 (by omega) HN6.out _ V2.out).mono ?_; rw [HT6.out]; rintro e w3 ⟨u3, he, hR, hb⟩; have he' : e = .returned (.tuple #[u3, .int .i64 (e1 : Int)]) := he; subst he'; replace hR : kCell.R w3 (fun k => w2.heap.size ≤ k) u3 top := hR; have R3 : Sec (kCell.R w3 (fun k => w2.heap.size ≤ k ∧ k < w3.heap.size) u3 top) := ⟨Kd.R_mono hR (fun k h1 h2 => ⟨h1, h2⟩)⟩; obtain ⟨A3, n3, rfl, -, -⟩ := Kd.R_form hR; have V3 := Sec.mk (Kd.V_below V2.out hb (by decide)); have B3 := Sec.mk (bel B2.out hb); have Z3 := Sec.mk hb.size; clear hb hR he) | (clear T1; go_at_call 36; have T2 : Sec True := ⟨trivial⟩; refine (l6Num_c _ b _ 3 (by omega) _ V1.out).mono ?_; rintro e w2 ⟨rfl, hb⟩; have V2 := Sec.mk (Kd.V_below V1.out hb (by decide)); have B2 := Sec.mk (bel B1.out hb); clear hb) | (clear T0; go_at_call 35; have T1 : Sec True := ⟨trivial⟩; refine (l6Body_c _ bs _ _ hl HV.out).mono ?_; rw [HBD.out]; rintro e w1 ⟨u1, he, hq, hb⟩; have he' : e = .returned (.tuple #[u1, .bool true]) := he; subst he'; have V1 := Sec.mk (hq b rfl); obtain ⟨Ab, cb, rfl, -⟩ := id V1.out; have B1 := Sec.mk hb; clear hb hq he))
                obtain ⟨bb, off, rfl, p0, p1, p2⟩ := HY.out _ _ _ _ V3.out
                have P0 := Sec.mk p0
                have P1 := Sec.mk p1
                have P2 := Sec.mk p2
                clear p0 p1 p2
                refine wp_region_lists [[36], [37], [38], [39], [40], [41], [42], [43], [44], [45], [46], [47], [48], [49], [50], [51], [10], [10]]
                  [fun val _ _ => val 36 = .slice (some ⟨bb, off, none⟩) b.length cb,
                    fun val _ _ => val 37 = .pointer (some ⟨bb, off, none⟩),
                    fun val _ _ => val 38 = .int .u8 y0,
                    fun val _ _ => val 39 = .int .i64 y0,
                    fun val _ _ => val 40 = .slice (some ⟨bb, off, none⟩) b.length cb,
                    fun val _ _ => val 41 = .pointer (some ⟨bb, off + 1, none⟩),
                    fun val _ _ => val 42 = .int .u8 y1,
                    fun val _ _ => val 43 = .int .i64 y1,
                    fun val _ _ => val 44 = .slice A3 top.length n3,
                    fun val _ _ => val 45 = .int .i64 (numD b 3),
                    fun val _ _ => val 46 = .slice (some ⟨bb, off, none⟩) b.length cb,
                    fun val _ _ => val 47 = .pointer (some ⟨bb, off + 2, none⟩),
                    fun val _ _ => val 48 = .int .u8 y2,
                    fun val _ _ => val 49 = .int .i64 y2,
                    fun val _ _ => val 50 = .agg #[.int .i64 y2, .slice none 0 0],
                    fun val _ _ => val 51 = .agg #[.int .i64 y0, .int .i64 y1, .slice A3 top.length n3, .int .i64 (numD b 3), .int .i64 y2, .slice none 0 0],
                    onBox 10 #[.int .i64 0, .int .i64 0, .slice none 0 0, .int .i64 0, .int .i64 0, .slice none 0 0] 34,
                    onBox 10 #[.int .i64 y0, .int .i64 y1, .slice A3 top.length n3, .int .i64 (numD b 3), .int .i64 y2, .slice none 0 0] 34]
                  [[], [], [], [], [], [], [], [], [], [], [], [], [], [], [], [], [], [16]] 0 (fun _ => False) (fun _ _ => False) (by kernel_rfl) ⟨by kernel_rfl, by kernel_rfl, by kernel_rfl, by kernel_rfl, by kernel_rfl⟩
                  (.cons (stab_val 36 (fun v => v = .slice (some ⟨bb, off, none⟩) b.length cb)) (.cons (stab_val 37 (fun v => v = .pointer (some ⟨bb, off, none⟩))) (.cons (stab_val 38 (fun v => v = .int .u8 y0)) (.cons (stab_val 39 (fun v => v = .int .i64 y0)) (.cons (stab_val 40 (fun v => v = .slice (some ⟨bb, off, none⟩) b.length cb)) (.cons (stab_val 41 (fun v => v = .pointer (some ⟨bb, off + 1, none⟩))) (.cons (stab_val 42 (fun v => v = .int .u8 y1)) (.cons (stab_val 43 (fun v => v = .int .i64 y1)) (.cons (stab_val 44 (fun v => v = .slice A3 top.length n3)) (.cons (stab_val 45 (fun v => v = .int .i64 (numD b 3))) (.cons (stab_val 46 (fun v => v = .slice (some ⟨bb, off, none⟩) b.length cb)) (.cons (stab_val 47 (fun v => v = .pointer (some ⟨bb, off + 2, none⟩))) (.cons (stab_val 48 (fun v => v = .int .u8 y2)) (.cons (stab_val 49 (fun v => v = .int .i64 y2)) (.cons (stab_val 50 (fun v => v = .agg #[.int .i64 y2, .slice none 0 0])) (.cons (stab_val 51 (fun v => v = .agg #[.int .i64 y0, .int .i64 y1, .slice A3 top.length n3, .int .i64 (numD b 3), .int .i64 y2, .slice none 0 0])) (.cons (stab_box 10 #[.int .i64 0, .int .i64 0, .slice none 0 0, .int .i64 0, .int .i64 0, .slice none 0 0] 34) (.cons (stab_box 10 #[.int .i64 y0, .int .i64 y1, .slice A3 top.length n3, .int .i64 (numD b 3), .int .i64 y2, .slice none 0 0] 34) .nil))))))))))))))))))
                  (fun i j k h1 h2 => h1.elim) (fun i k h => h.elim) (fun i h1 h2 => by simp at h1 h2; omega) (.cons ?_ (.cons ?_ (.cons ?_ (.cons ?_ (.cons ?_ (.cons ?_ (.cons ?_ (.cons ?_ (.cons ?_ (.cons ?_ (.cons ?_ (.cons ?_ (.cons ?_ (.cons ?_ (.cons ?_ (.cons ?_ (.cons ?_ (.cons ?_ .nil)))))))))))))))))) ?_
                · intro a W own hfor huse hap hmi hF K hK
                  have e4 : a.eval (.tmp 4) = .slice (some ⟨bb, off, none⟩) b.length cb := hfor 4 (by kernel_rfl)
                  refine op_val (.slice (some ⟨bb, off, none⟩) b.length cb) W rfl ?_ (hK _ _ (post_pure ?_))
                  · clear hfor huse hap hmi hK hF
                    generalize a.eval = ρ at *
                    go_simp
                  · exact (if_pos rfl)
                · intro a W own hfor huse hap hmi hF K hK
                  have e36 : a.eval (.tmp 36) = .slice (some ⟨bb, off, none⟩) b.length cb := huse 0 (by kernel_rfl)
                  have ec0 : a.eval (.const (.int .i64 0)) = .int .i64 0 := rfl
                  refine op_val (.pointer (some ⟨bb, off, none⟩)) W rfl ?_ (hK _ _ (post_pure ?_))
                  · clear hfor huse hap hmi hK hF
                    generalize a.eval = ρ at *
                    go_simp
                  · exact (if_pos rfl)
                · intro a W own hfor huse hap hmi hF K hK
                  have e37 : a.eval (.tmp 37) = .pointer (some ⟨bb, off, none⟩) := huse 1 (by kernel_rfl)
                  have x0 := foot_cell hF (fun h => h) P0.out
                  refine op_val (.int .u8 y0) W rfl ?_ (hK _ _ (post_pure ?_))
                  · clear hfor huse hap hmi hK hF
                    generalize a.eval = ρ at *
                    go_simp
                  · exact (if_pos rfl)
                · intro a W own hfor huse hap hmi hF K hK
                  have e38 : a.eval (.tmp 38) = .int .u8 y0 := huse 2 (by kernel_rfl)
                  have wy : IntKind.i64.wrap (y0 : Int) = (y0 : Int) := wrapIn _ (by omega) (by omega)
                  refine op_val (.int .i64 y0) W rfl ?_ (hK _ _ (post_pure ?_))
                  · clear hfor huse hap hmi hK hF
                    generalize a.eval = ρ at *
                    go_simp
                  · exact (if_pos rfl)
                · intro a W own hfor huse hap hmi hF K hK
                  have e4 : a.eval (.tmp 4) = .slice (some ⟨bb, off, none⟩) b.length cb := hfor 4 (by kernel_rfl)
                  refine op_val (.slice (some ⟨bb, off, none⟩) b.length cb) W rfl ?_ (hK _ _ (post_pure ?_))
                  · clear hfor huse hap hmi hK hF
                    generalize a.eval = ρ at *
                    go_simp
                  · exact (if_pos rfl)
                · intro a W own hfor huse hap hmi hF K hK
                  have e40 : a.eval (.tmp 40) = .slice (some ⟨bb, off, none⟩) b.length cb := huse 4 (by kernel_rfl)
                  have ec0 : a.eval (.const (.int .i64 1)) = .int .i64 1 := rfl
                  have ib : ¬ ((b.length : Int) ≤ 1) := by omega
                  refine op_val (.pointer (some ⟨bb, off + 1, none⟩)) W rfl ?_ (hK _ _ (post_pure ?_))
                  · clear hfor huse hap hmi hK hF
                    generalize a.eval = ρ at *
                    go_simp
                  · exact (if_pos rfl)
                · intro a W own hfor huse hap hmi hF K hK
                  have e41 : a.eval (.tmp 41) = .pointer (some ⟨bb, off + 1, none⟩) := huse 5 (by kernel_rfl)
                  have x1 := foot_cell hF (fun h => h) P1.out
                  refine op_val (.int .u8 y1) W rfl ?_ (hK _ _ (post_pure ?_))
                  · clear hfor huse hap hmi hK hF
                    generalize a.eval = ρ at *
                    go_simp
                  · exact (if_pos rfl)
                · intro a W own hfor huse hap hmi hF K hK
                  have e42 : a.eval (.tmp 42) = .int .u8 y1 := huse 6 (by kernel_rfl)
                  have wy : IntKind.i64.wrap (y1 : Int) = (y1 : Int) := wrapIn _ (by omega) (by omega)
                  refine op_val (.int .i64 y1) W rfl ?_ (hK _ _ (post_pure ?_))
                  · clear hfor huse hap hmi hK hF
                    generalize a.eval = ρ at *
                    go_simp
                  · exact (if_pos rfl)
                · intro a W own hfor huse hap hmi hF K hK
                  have e8 : a.eval (.tmp 8) = .slice A3 top.length n3 := hfor 8 (by kernel_rfl)
                  refine op_val (.slice A3 top.length n3) W rfl ?_ (hK _ _ (post_pure ?_))
                  · clear hfor huse hap hmi hK hF
                    generalize a.eval = ρ at *
                    go_simp
                  · exact (if_pos rfl)
                · intro a W own hfor huse hap hmi hF K hK
                  have e6 : a.eval (.tmp 6) = .int .i64 (numD b 3) := hfor 6 (by kernel_rfl)
                  refine op_val (.int .i64 (numD b 3)) W rfl ?_ (hK _ _ (post_pure ?_))
                  · clear hfor huse hap hmi hK hF
                    generalize a.eval = ρ at *
                    go_simp
                  · exact (if_pos rfl)
                · intro a W own hfor huse hap hmi hF K hK
                  have e4 : a.eval (.tmp 4) = .slice (some ⟨bb, off, none⟩) b.length cb := hfor 4 (by kernel_rfl)
                  refine op_val (.slice (some ⟨bb, off, none⟩) b.length cb) W rfl ?_ (hK _ _ (post_pure ?_))
                  · clear hfor huse hap hmi hK hF
                    generalize a.eval = ρ at *
                    go_simp
                  · exact (if_pos rfl)
                · intro a W own hfor huse hap hmi hF K hK
                  have e46 : a.eval (.tmp 46) = .slice (some ⟨bb, off, none⟩) b.length cb := huse 10 (by kernel_rfl)
                  have ec0 : a.eval (.const (.int .i64 2)) = .int .i64 2 := rfl
                  have ib : ¬ ((b.length : Int) ≤ 2) := by omega
                  refine op_val (.pointer (some ⟨bb, off + 2, none⟩)) W rfl ?_ (hK _ _ (post_pure ?_))
                  · clear hfor huse hap hmi hK hF
                    generalize a.eval = ρ at *
                    go_simp
                  · exact (if_pos rfl)
                · intro a W own hfor huse hap hmi hF K hK
                  have e47 : a.eval (.tmp 47) = .pointer (some ⟨bb, off + 2, none⟩) := huse 11 (by kernel_rfl)
                  have x2 := foot_cell hF (fun h => h) P2.out
                  refine op_val (.int .u8 y2) W rfl ?_ (hK _ _ (post_pure ?_))
                  · clear hfor huse hap hmi hK hF
                    generalize a.eval = ρ at *
                    go_simp
                  · exact (if_pos rfl)
                · intro a W own hfor huse hap hmi hF K hK
                  have e48 : a.eval (.tmp 48) = .int .u8 y2 := huse 12 (by kernel_rfl)
                  have wy : IntKind.i64.wrap (y2 : Int) = (y2 : Int) := wrapIn _ (by omega) (by omega)
                  refine op_val (.int .i64 y2) W rfl ?_ (hK _ _ (post_pure ?_))
                  · clear hfor huse hap hmi hK hF
                    generalize a.eval = ρ at *
                    go_simp
                  · exact (if_pos rfl)
                · intro a W own hfor huse hap hmi hF K hK
                  have e49 : a.eval (.tmp 49) = .int .i64 y2 := huse 13 (by kernel_rfl)
                  refine op_val (.agg #[.int .i64 y2, .slice none 0 0]) W rfl ?_ (hK _ _ (post_pure ?_))
                  · clear hfor huse hap hmi hK hF
                    generalize a.eval = ρ at *
                    go_simp
                  · exact (if_pos rfl)
                · intro a W own hfor huse hap hmi hF K hK
                  have e39 : a.eval (.tmp 39) = .int .i64 y0 := huse 3 (by kernel_rfl)
                  have e43 : a.eval (.tmp 43) = .int .i64 y1 := huse 7 (by kernel_rfl)
                  have e44 : a.eval (.tmp 44) = .slice A3 top.length n3 := huse 8 (by kernel_rfl)
                  have e45 : a.eval (.tmp 45) = .int .i64 (numD b 3) := huse 9 (by kernel_rfl)
                  have e50 : a.eval (.tmp 50) = .agg #[.int .i64 y2, .slice none 0 0] := huse 14 (by kernel_rfl)
                  refine op_val (.agg #[.int .i64 y0, .int .i64 y1, .slice A3 top.length n3, .int .i64 (numD b 3), .int .i64 y2, .slice none 0 0]) W rfl ?_ (hK _ _ (post_pure ?_))
                  · clear hfor huse hap hmi hK hF
                    generalize a.eval = ρ at *
                    go_simp
                  · exact (if_pos rfl)
                · intro a W own hfor huse hap hmi hF K hK
                  refine op_val (.pointer (some ⟨W.heap.size, 0, none⟩)) (W.alloc (.cells #[.int .i64 0, .int .i64 0, .slice none 0 0, .int .i64 0, .int .i64 0, .slice none 0 0] 34)) rfl ?_ (hK _ _ (post_new (belA (Below.refl _ _) _) ⟨W.heap.size, if_pos rfl, heap_alloc_new W _, Nat.le_refl _, by simp⟩))
                  · clear hfor huse hap hmi hK hF
                    generalize a.eval = ρ at *
                    go_simp
                · intro a W own hfor huse hap hmi hF K hK
                  obtain ⟨g, e10, hb, hSg⟩ := (huse 16 (by kernel_rfl) : onBox 10 #[.int .i64 0, .int .i64 0, .slice none 0 0, .int .i64 0, .int .i64 0, .slice none 0 0] 34 (slotsOf a) (own 16) W)
                  have e10 : a.eval (.tmp 10) = .pointer (some ⟨g, 0, none⟩) := e10
                  have e51 : a.eval (.tmp 51) = .agg #[.int .i64 y0, .int .i64 y1, .slice A3 top.length n3, .int .i64 (numD b 3), .int .i64 y2, .slice none 0 0] := huse 15 (by kernel_rfl)
                  refine step_store (cs := [.int .i64 y0, .int .i64 y1, .slice A3 top.length n3, .int .i64 (numD b 3), .int .i64 y2, .slice none 0 0]) rfl 34 (.tmp 10) (.tmp 51) rfl e10 e51 hb (by kernel_rfl) rfl (by simp [Value.oneCell']) (fun w1 hb1 hF1 => hK _ _ ⟨fun k => own 16 k, Foot.mono hF1 (fun k e => ⟨16, by decide, e ▸ hSg⟩), ⟨g, e10, hb1, hSg⟩, fun k h => .inl ⟨16, by decide, h⟩⟩)
                intro a' W own hf
                have s1 := hf.st.size
                have s2 := hf.st.rest
                have s3 := fun t ht => hf.st.kept t ht
                revert hf
                revert a'
                refine lay_intro (df := []) [true, true, true, true, true, true, true, true, true, true, false, true, true, true, true, true, true, true, true, true, true, true, true, true, true, true, true, true, true, true, true, true, true, true, true, true, false, false, false, false, false, false, false, false, false, false, false, false, false, false, false, false, true, true, true, true, true, true, true, true, true, true, true, true, true, true, true, true, true, true, true, true, true, true, true, true, true, true, true, true] (by kernel_rfl) rfl ?_
                intro x51 x50 x49 x48 x47 x46 x45 x44 x43 x42 x41 x40 x39 x38 x37 x36 x10 hf
                obtain ⟨g, hx10, hbg, hgo⟩ := hf.at 17 (onBox 10 #[.int .i64 y0, .int .i64 y1, .slice A3 top.length n3, .int .i64 (numD b 3), .int .i64 y2, .slice none 0 0] 34) rfl (by kernel_rfl)
                have hx10 : x10 = .pointer (some ⟨g, 0, none⟩) := hx10
                subst hx10
                have HG : Sec (w3.heap.size ≤ g ∧ g < W.heap.size) := ⟨by have := hf.st.mine 17 g hgo; exact ⟨this.1.elim (fun h => by simpa using h) (fun h => h.elim), this.2⟩⟩
                have B4' : Below w3.heap.size w3 W := hf.st.foot.below (belD (Below.refl _ _)) (fun k h => h.elim)
                have B4 := Sec.mk (bel B3.out B4')
                have R4 := Sec.mk (Kd.R_below R3.out B4')
                have V4 := Sec.mk (Kd.V_below V3.out B4' (by decide))
                have X4 := Sec.mk hbg
                have T4 : Sec True := ⟨trivial⟩
                clear hf hbg hgo B4' P0 P1 P2 T3
                generalize W = w4 at *
                have hq := box_at X4.out
                have q0 : w4.cell? ⟨g, 0, none⟩ = some (.int .i64 y0) := hq.2.1 0 _ rfl
                have f0 := hq.2.2 0
                have q1 : w4.cell? ⟨g, 1, none⟩ = some (.int .i64 y1) := hq.2.1 1 _ rfl
                have f1 := hq.2.2 1
                have q2 : w4.cell? ⟨g, 2, none⟩ = some (.slice A3 top.length n3) := hq.2.1 2 _ rfl
                have f2 := hq.2.2 2
                have q3 : w4.cell? ⟨g, 3, none⟩ = some (.int .i64 (numD b 3)) := hq.2.1 3 _ rfl
                have f3 := hq.2.2 3
                have q4 : w4.cell? ⟨g, 4, none⟩ = some (.int .i64 y2) := hq.2.1 4 _ rfl
                have f4 := hq.2.2 4
                have q5 : w4.cell? ⟨g, 5, none⟩ = some (.slice none 0 0) := hq.2.1 5 _ rfl
                have f5 := hq.2.2 5
                clear hq
                go_wp2_with (first | (with_reducible show wpList _ _ _ (⟨none, .store 34 (.tmp 2) (.tmp 78), _, _, _, _⟩ :: _) _ _; refine wpList_store (cs := [.int .i64 0, .int .i64 0, .slice none 0 0, .int .i64 0, .int .i64 0, .slice none 0 0]) (old := #[.int .i64 0, .int .i64 0, .slice none 0 0, .int .i64 0, .int .i64 0, .slice none 0 0]) rfl 34 (.tmp 2) (.tmp 78) rfl rfl rfl (HR0.out _ B9.out) (by kernel_rfl) rfl (by simp [Value.oneCell']) ?_; intro w12 hb12 hF12; have X12 := Sec.mk hb12; have F12 := Sec.mk hF12; clear hb12 hF12) | (clear T5; go_at_call 20; have U1 : Sec True := ⟨trivial⟩; refine (MsgOk_c m [.int .i64 y0, .int .i64 y1, .slice A3 top.length n3, .int .i64 (numD b 3), .int .i64 y2, .slice A5 t.length n5] _ _ (kMsg.O_K O6.out)).mono ?_; rw [HOM.out]; rintro e w9 ⟨rfl, hb⟩; have O9 := Sec.mk (kMsg.O_below O6.out hb); have X9 := Sec.mk (carryB hb Y5.out); have B9 := Sec.mk (bel (B5.out.setCell (p := ⟨g, 5, none⟩) (Nat.le_trans B3.out.size HG.out.1) _) hb); clear q0 f0 q1 f1 q2 f2 q3 f3 q4 f4 q5 f5; have hq := box_at X9.out; have q0 : w9.cell? ⟨g, 0, none⟩ = some (.int .i64 y0) := hq.2.1 0 _ rfl; have f0 := hq.2.2 0; have q1 : w9.cell? ⟨g, 1, none⟩ = some (.int .i64 y1) := hq.2.1 1 _ rfl; have f1 := hq.2.2 1; have q2 : w9.cell? ⟨g, 2, none⟩ = some (.slice A3 top.length n3) := hq.2.1 2 _ rfl; have f2 := hq.2.2 2; have q3 : w9.cell? ⟨g, 3, none⟩ = some (.int .i64 (numD b 3)) := hq.2.1 3 _ rfl; have f3 := hq.2.2 3; have q4 : w9.cell? ⟨g, 4, none⟩ = some (.int .i64 y2) := hq.2.1 4 _ rfl; have f4 := hq.2.2 4; have q5 : w9.cell? ⟨g, 5, none⟩ = some (.slice A5 t.length n5) := hq.2.1 5 _ rfl; have f5 := hq.2.2 5; clear hq; clear hb) | (clear T4; go_at_call 37; have T5 : Sec True := ⟨trivial⟩; refine (l6Term_c _ b _ e1 (by omega) (by omega) _ V4.out).mono ?_; rw [HT8.out]; rintro e w5 ⟨u5, he, hR, hb⟩; have he' : e = .returned (.tuple #[u5, .int .i64 (e2 : Int)]) := he; subst he'; replace hR : kCell.R w5 (fun k => w4.heap.size ≤ k) u5 t := hR; have R5 : Sec (kCell.R w5 (fun k => w4.heap.size ≤ k ∧ k < w5.heap.size) u5 t) := ⟨Kd.R_mono hR (fun k h1 h2 => ⟨h1, h2⟩)⟩; obtain ⟨A5, n5, rfl, -, -⟩ := Kd.R_form hR; have Q4 := Sec.mk (Kd.R_below R4.out hb); have B5 := Sec.mk (bel B4.out hb); have Z5 := Sec.mk hb.size; have X5 := Sec.mk (carryB hb X4.out); clear q0 f0 q1 f1 q2 f2 q3 f3 q4 f4 q5 f5; have hq := box_at X5.out; have q0 : w5.cell? ⟨g, 0, none⟩ = some (.int .i64 y0) := hq.2.1 0 _ rfl; have f0 := hq.2.2 0; have q1 : w5.cell? ⟨g, 1, none⟩ = some (.int .i64 y1) := hq.2.1 1 _ rfl; have f1 := hq.2.2 1; have q2 : w5.cell? ⟨g, 2, none⟩ = some (.slice A3 top.length n3) := hq.2.1 2 _ rfl; have f2 := hq.2.2 2; have q3 : w5.cell? ⟨g, 3, none⟩ = some (.int .i64 (numD b 3)) := hq.2.1 3 _ rfl; have f3 := hq.2.2 3; have q4 : w5.cell? ⟨g, 4, none⟩ = some (.int .i64 y2) := hq.2.1 4 _ rfl; have f4 := hq.2.2 4; have q5 : w5.cell? ⟨g, 5, none⟩ = some (.slice none 0 0) := hq.2.1 5 _ rfl; have f5 := hq.2.2 5; clear hq; clear hb hR he; have Y5 := Sec.mk (box_store 5 (.slice A5 t.length n5) X5.out); have g5 := q5; have h5 := f5; clear q0 f0 q1 f1 q2 f2 q3 f3 q4 f4 q5 f5; have hq := box_at Y5.out; have q0 : (w5.setCell ⟨g, 5, none⟩ (.slice A5 t.length n5)).cell? ⟨g, 0, none⟩ = some (.int .i64 y0) := hq.2.1 0 _ rfl; have f0 := hq.2.2 0; have q1 : (w5.setCell ⟨g, 5, none⟩ (.slice A5 t.length n5)).cell? ⟨g, 1, none⟩ = some (.int .i64 y1) := hq.2.1 1 _ rfl; have f1 := hq.2.2 1; have q2 : (w5.setCell ⟨g, 5, none⟩ (.slice A5 t.length n5)).cell? ⟨g, 2, none⟩ = some (.slice A3 top.length n3) := hq.2.1 2 _ rfl; have f2 := hq.2.2 2; have q3 : (w5.setCell ⟨g, 5, none⟩ (.slice A5 t.length n5)).cell? ⟨g, 3, none⟩ = some (.int .i64 (numD b 3)) := hq.2.1 3 _ rfl; have f3 := hq.2.2 3; have q4 : (w5.setCell ⟨g, 5, none⟩ (.slice A5 t.length n5)).cell? ⟨g, 4, none⟩ = some (.int .i64 y2) := hq.2.1 4 _ rfl; have f4 := hq.2.2 4; have q5 : (w5.setCell ⟨g, 5, none⟩ (.slice A5 t.length n5)).cell? ⟨g, 5, none⟩ = some (.slice A5 t.length n5) := hq.2.1 5 _ rfl; have f5 := hq.2.2 5; clear hq; have hO := msg_O (kd := y0) (fr := y1) (n := numD b 3) (st := y2) (Foot.setR (w := w5) (g := g) (i := 5) (u := .slice A5 t.length n5) Q4.out (fun h => by have := HG.out; omega)) (Foot.setR (w := w5) (g := g) (i := 5) (u := .slice A5 t.length n5) R5.out (fun h => by have := HG.out; omega)) (fun k h1 h2 => by have := HG.out; omega); rw [← HM.out] at hO; have O6 : Sec (kMsg.O (w5.setCell ⟨g, 5, none⟩ (.slice A5 t.length n5)) (fun k => w2.heap.size ≤ k ∧ k < w5.heap.size) m [.int .i64 y0, .int .i64 y1, .slice A3 top.length n3, .int .i64 (numD b 3), .int .i64 y2, .slice A5 t.length n5]) := ⟨kMsg.O_mono hO (fun k h _ => by have := Z5.out; have := HG.out; have := Z3.out; rcases h with h | h <;> omega)⟩; clear hO))
                exact bodyPost_ret (res_cell2 rfl rfl rfl X12.out hu2 rfl (by kernel_rfl)) rfl ⟨_, by rw [HE.out]; rfl, by rw [HE.out]; exact kMsg.O_mono (kMsg_zero _) (fun k h _ => h.elim), F12.out.below (BB.out _ B9.out) (fun k h => Nat.le_of_eq (show k = w.heap.size from h).symm)⟩
              | true =>
                have HE : Sec (readD bs = some m) := ⟨by rw [HRF.out]; unfold finD; rw [if_pos ⟨HEE.out, hom⟩]⟩
                have HOM := Sec.mk hom
                clear hom
                go_enter Tryz.func14, Tryz.ntmps14
                go_wp2_with (first | (clear T2; go_at_call 37; have T3 : Sec True := ⟨trivial⟩; refine (l6Term_c _ b _ 6 (by omega) HN6.out _ V2.out).mono ?_; rw [HT6.out]; rintro e w3 ⟨u3, he, hR, hb⟩; have he' : e = .returned (.tuple #[u3, .int .i64 (e1 : Int)]) := he; subst he'; replace hR : kCell.R w3 (fun k => w2.heap.size ≤ k) u3 top := hR; have R3 : Sec (kCell.R w3 (fun k => w2.heap.size ≤ k ∧ k < w3.heap.size) u3 top) := ⟨Kd.R_mono hR (fun k h1 h2 => ⟨h1, h2⟩)⟩; obtain ⟨A3, n3, rfl, -, -⟩ := Kd.R_form hR; have V3 := Sec.mk (Kd.V_below V2.out hb (by decide)); have B3 := Sec.mk (bel B2.out hb); have Z3 := Sec.mk hb.size; clear hb hR he) | (clear T1; go_at_call 36; have T2 : Sec True := ⟨trivial⟩; refine (l6Num_c _ b _ 3 (by omega) _ V1.out).mono ?_; rintro e w2 ⟨rfl, hb⟩; have V2 := Sec.mk (Kd.V_below V1.out hb (by decide)); have B2 := Sec.mk (bel B1.out hb); clear hb) | (clear T0; go_at_call 35; have T1 : Sec True := ⟨trivial⟩; refine (l6Body_c _ bs _ _ hl HV.out).mono ?_; rw [HBD.out]; rintro e w1 ⟨u1, he, hq, hb⟩; have he' : e = .returned (.tuple #[u1, .bool true]) := he; subst he'; have V1 := Sec.mk (hq b rfl); obtain ⟨Ab, cb, rfl, -⟩ := id V1.out; have B1 := Sec.mk hb; clear hb hq he))
                obtain ⟨bb, off, rfl, p0, p1, p2⟩ := HY.out _ _ _ _ V3.out
                have P0 := Sec.mk p0
                have P1 := Sec.mk p1
                have P2 := Sec.mk p2
                clear p0 p1 p2
                refine wp_region_lists [[36], [37], [38], [39], [40], [41], [42], [43], [44], [45], [46], [47], [48], [49], [50], [51], [10], [10]]
                  [fun val _ _ => val 36 = .slice (some ⟨bb, off, none⟩) b.length cb,
                    fun val _ _ => val 37 = .pointer (some ⟨bb, off, none⟩),
                    fun val _ _ => val 38 = .int .u8 y0,
                    fun val _ _ => val 39 = .int .i64 y0,
                    fun val _ _ => val 40 = .slice (some ⟨bb, off, none⟩) b.length cb,
                    fun val _ _ => val 41 = .pointer (some ⟨bb, off + 1, none⟩),
                    fun val _ _ => val 42 = .int .u8 y1,
                    fun val _ _ => val 43 = .int .i64 y1,
                    fun val _ _ => val 44 = .slice A3 top.length n3,
                    fun val _ _ => val 45 = .int .i64 (numD b 3),
                    fun val _ _ => val 46 = .slice (some ⟨bb, off, none⟩) b.length cb,
                    fun val _ _ => val 47 = .pointer (some ⟨bb, off + 2, none⟩),
                    fun val _ _ => val 48 = .int .u8 y2,
                    fun val _ _ => val 49 = .int .i64 y2,
                    fun val _ _ => val 50 = .agg #[.int .i64 y2, .slice none 0 0],
                    fun val _ _ => val 51 = .agg #[.int .i64 y0, .int .i64 y1, .slice A3 top.length n3, .int .i64 (numD b 3), .int .i64 y2, .slice none 0 0],
                    onBox 10 #[.int .i64 0, .int .i64 0, .slice none 0 0, .int .i64 0, .int .i64 0, .slice none 0 0] 34,
                    onBox 10 #[.int .i64 y0, .int .i64 y1, .slice A3 top.length n3, .int .i64 (numD b 3), .int .i64 y2, .slice none 0 0] 34]
                  [[], [], [], [], [], [], [], [], [], [], [], [], [], [], [], [], [], [16]] 0 (fun _ => False) (fun _ _ => False) (by kernel_rfl) ⟨by kernel_rfl, by kernel_rfl, by kernel_rfl, by kernel_rfl, by kernel_rfl⟩
                  (.cons (stab_val 36 (fun v => v = .slice (some ⟨bb, off, none⟩) b.length cb)) (.cons (stab_val 37 (fun v => v = .pointer (some ⟨bb, off, none⟩))) (.cons (stab_val 38 (fun v => v = .int .u8 y0)) (.cons (stab_val 39 (fun v => v = .int .i64 y0)) (.cons (stab_val 40 (fun v => v = .slice (some ⟨bb, off, none⟩) b.length cb)) (.cons (stab_val 41 (fun v => v = .pointer (some ⟨bb, off + 1, none⟩))) (.cons (stab_val 42 (fun v => v = .int .u8 y1)) (.cons (stab_val 43 (fun v => v = .int .i64 y1)) (.cons (stab_val 44 (fun v => v = .slice A3 top.length n3)) (.cons (stab_val 45 (fun v => v = .int .i64 (numD b 3))) (.cons (stab_val 46 (fun v => v = .slice (some ⟨bb, off, none⟩) b.length cb)) (.cons (stab_val 47 (fun v => v = .pointer (some ⟨bb, off + 2, none⟩))) (.cons (stab_val 48 (fun v => v = .int .u8 y2)) (.cons (stab_val 49 (fun v => v = .int .i64 y2)) (.cons (stab_val 50 (fun v => v = .agg #[.int .i64 y2, .slice none 0 0])) (.cons (stab_val 51 (fun v => v = .agg #[.int .i64 y0, .int .i64 y1, .slice A3 top.length n3, .int .i64 (numD b 3), .int .i64 y2, .slice none 0 0])) (.cons (stab_box 10 #[.int .i64 0, .int .i64 0, .slice none 0 0, .int .i64 0, .int .i64 0, .slice none 0 0] 34) (.cons (stab_box 10 #[.int .i64 y0, .int .i64 y1, .slice A3 top.length n3, .int .i64 (numD b 3), .int .i64 y2, .slice none 0 0] 34) .nil))))))))))))))))))
                  (fun i j k h1 h2 => h1.elim) (fun i k h => h.elim) (fun i h1 h2 => by simp at h1 h2; omega) (.cons ?_ (.cons ?_ (.cons ?_ (.cons ?_ (.cons ?_ (.cons ?_ (.cons ?_ (.cons ?_ (.cons ?_ (.cons ?_ (.cons ?_ (.cons ?_ (.cons ?_ (.cons ?_ (.cons ?_ (.cons ?_ (.cons ?_ (.cons ?_ .nil)))))))))))))))))) ?_
                · intro a W own hfor huse hap hmi hF K hK
                  have e4 : a.eval (.tmp 4) = .slice (some ⟨bb, off, none⟩) b.length cb := hfor 4 (by kernel_rfl)
                  refine op_val (.slice (some ⟨bb, off, none⟩) b.length cb) W rfl ?_ (hK _ _ (post_pure ?_))
                  · clear hfor huse hap hmi hK hF
                    generalize a.eval = ρ at *
                    go_simp
                  · exact (if_pos rfl)
                · intro a W own hfor huse hap hmi hF K hK
                  have e36 : a.eval (.tmp 36) = .slice (some ⟨bb, off, none⟩) b.length cb := huse 0 (by kernel_rfl)
                  have ec0 : a.eval (.const (.int .i64 0)) = .int .i64 0 := rfl
                  refine op_val (.pointer (some ⟨bb, off, none⟩)) W rfl ?_ (hK _ _ (post_pure ?_))
                  · clear hfor huse hap hmi hK hF
                    generalize a.eval = ρ at *
                    go_simp
                  · exact (if_pos rfl)
                · intro a W own hfor huse hap hmi hF K hK
                  have e37 : a.eval (.tmp 37) = .pointer (some ⟨bb, off, none⟩) := huse 1 (by kernel_rfl)
                  have x0 := foot_cell hF (fun h => h) P0.out
                  refine op_val (.int .u8 y0) W rfl ?_ (hK _ _ (post_pure ?_))
                  · clear hfor huse hap hmi hK hF
                    generalize a.eval = ρ at *
                    go_simp
                  · exact (if_pos rfl)
                · intro a W own hfor huse hap hmi hF K hK
                  have e38 : a.eval (.tmp 38) = .int .u8 y0 := huse 2 (by kernel_rfl)
                  have wy : IntKind.i64.wrap (y0 : Int) = (y0 : Int) := wrapIn _ (by omega) (by omega)
                  refine op_val (.int .i64 y0) W rfl ?_ (hK _ _ (post_pure ?_))
                  · clear hfor huse hap hmi hK hF
                    generalize a.eval = ρ at *
                    go_simp
                  · exact (if_pos rfl)
                · intro a W own hfor huse hap hmi hF K hK
                  have e4 : a.eval (.tmp 4) = .slice (some ⟨bb, off, none⟩) b.length cb := hfor 4 (by kernel_rfl)
                  refine op_val (.slice (some ⟨bb, off, none⟩) b.length cb) W rfl ?_ (hK _ _ (post_pure ?_))
                  · clear hfor huse hap hmi hK hF
                    generalize a.eval = ρ at *
                    go_simp
                  · exact (if_pos rfl)
                · intro a W own hfor huse hap hmi hF K hK
                  have e40 : a.eval (.tmp 40) = .slice (some ⟨bb, off, none⟩) b.length cb := huse 4 (by kernel_rfl)
                  have ec0 : a.eval (.const (.int .i64 1)) = .int .i64 1 := rfl
                  have ib : ¬ ((b.length : Int) ≤ 1) := by omega
                  refine op_val (.pointer (some ⟨bb, off + 1, none⟩)) W rfl ?_ (hK _ _ (post_pure ?_))
                  · clear hfor huse hap hmi hK hF
                    generalize a.eval = ρ at *
                    go_simp
                  · exact (if_pos rfl)
                · intro a W own hfor huse hap hmi hF K hK
                  have e41 : a.eval (.tmp 41) = .pointer (some ⟨bb, off + 1, none⟩) := huse 5 (by kernel_rfl)
                  have x1 := foot_cell hF (fun h => h) P1.out
                  refine op_val (.int .u8 y1) W rfl ?_ (hK _ _ (post_pure ?_))
                  · clear hfor huse hap hmi hK hF
                    generalize a.eval = ρ at *
                    go_simp
                  · exact (if_pos rfl)
                · intro a W own hfor huse hap hmi hF K hK
                  have e42 : a.eval (.tmp 42) = .int .u8 y1 := huse 6 (by kernel_rfl)
                  have wy : IntKind.i64.wrap (y1 : Int) = (y1 : Int) := wrapIn _ (by omega) (by omega)
                  refine op_val (.int .i64 y1) W rfl ?_ (hK _ _ (post_pure ?_))
                  · clear hfor huse hap hmi hK hF
                    generalize a.eval = ρ at *
                    go_simp
                  · exact (if_pos rfl)
                · intro a W own hfor huse hap hmi hF K hK
                  have e8 : a.eval (.tmp 8) = .slice A3 top.length n3 := hfor 8 (by kernel_rfl)
                  refine op_val (.slice A3 top.length n3) W rfl ?_ (hK _ _ (post_pure ?_))
                  · clear hfor huse hap hmi hK hF
                    generalize a.eval = ρ at *
                    go_simp
                  · exact (if_pos rfl)
                · intro a W own hfor huse hap hmi hF K hK
                  have e6 : a.eval (.tmp 6) = .int .i64 (numD b 3) := hfor 6 (by kernel_rfl)
                  refine op_val (.int .i64 (numD b 3)) W rfl ?_ (hK _ _ (post_pure ?_))
                  · clear hfor huse hap hmi hK hF
                    generalize a.eval = ρ at *
                    go_simp
                  · exact (if_pos rfl)
                · intro a W own hfor huse hap hmi hF K hK
                  have e4 : a.eval (.tmp 4) = .slice (some ⟨bb, off, none⟩) b.length cb := hfor 4 (by kernel_rfl)
                  refine op_val (.slice (some ⟨bb, off, none⟩) b.length cb) W rfl ?_ (hK _ _ (post_pure ?_))
                  · clear hfor huse hap hmi hK hF
                    generalize a.eval = ρ at *
                    go_simp
                  · exact (if_pos rfl)
                · intro a W own hfor huse hap hmi hF K hK
                  have e46 : a.eval (.tmp 46) = .slice (some ⟨bb, off, none⟩) b.length cb := huse 10 (by kernel_rfl)
                  have ec0 : a.eval (.const (.int .i64 2)) = .int .i64 2 := rfl
                  have ib : ¬ ((b.length : Int) ≤ 2) := by omega
                  refine op_val (.pointer (some ⟨bb, off + 2, none⟩)) W rfl ?_ (hK _ _ (post_pure ?_))
                  · clear hfor huse hap hmi hK hF
                    generalize a.eval = ρ at *
                    go_simp
                  · exact (if_pos rfl)
                · intro a W own hfor huse hap hmi hF K hK
                  have e47 : a.eval (.tmp 47) = .pointer (some ⟨bb, off + 2, none⟩) := huse 11 (by kernel_rfl)
                  have x2 := foot_cell hF (fun h => h) P2.out
                  refine op_val (.int .u8 y2) W rfl ?_ (hK _ _ (post_pure ?_))
                  · clear hfor huse hap hmi hK hF
                    generalize a.eval = ρ at *
                    go_simp
                  · exact (if_pos rfl)
                · intro a W own hfor huse hap hmi hF K hK
                  have e48 : a.eval (.tmp 48) = .int .u8 y2 := huse 12 (by kernel_rfl)
                  have wy : IntKind.i64.wrap (y2 : Int) = (y2 : Int) := wrapIn _ (by omega) (by omega)
                  refine op_val (.int .i64 y2) W rfl ?_ (hK _ _ (post_pure ?_))
                  · clear hfor huse hap hmi hK hF
                    generalize a.eval = ρ at *
                    go_simp
                  · exact (if_pos rfl)
                · intro a W own hfor huse hap hmi hF K hK
                  have e49 : a.eval (.tmp 49) = .int .i64 y2 := huse 13 (by kernel_rfl)
                  refine op_val (.agg #[.int .i64 y2, .slice none 0 0]) W rfl ?_ (hK _ _ (post_pure ?_))
                  · clear hfor huse hap hmi hK hF
                    generalize a.eval = ρ at *
                    go_simp
                  · exact (if_pos rfl)
                · intro a W own hfor huse hap hmi hF K hK
                  have e39 : a.eval (.tmp 39) = .int .i64 y0 := huse 3 (by kernel_rfl)
                  have e43 : a.eval (.tmp 43) = .int .i64 y1 := huse 7 (by kernel_rfl)
                  have e44 : a.eval (.tmp 44) = .slice A3 top.length n3 := huse 8 (by kernel_rfl)
                  have e45 : a.eval (.tmp 45) = .int .i64 (numD b 3) := huse 9 (by kernel_rfl)
                  have e50 : a.eval (.tmp 50) = .agg #[.int .i64 y2, .slice none 0 0] := huse 14 (by kernel_rfl)
                  refine op_val (.agg #[.int .i64 y0, .int .i64 y1, .slice A3 top.length n3, .int .i64 (numD b 3), .int .i64 y2, .slice none 0 0]) W rfl ?_ (hK _ _ (post_pure ?_))
                  · clear hfor huse hap hmi hK hF
                    generalize a.eval = ρ at *
                    go_simp
                  · exact (if_pos rfl)
                · intro a W own hfor huse hap hmi hF K hK
                  refine op_val (.pointer (some ⟨W.heap.size, 0, none⟩)) (W.alloc (.cells #[.int .i64 0, .int .i64 0, .slice none 0 0, .int .i64 0, .int .i64 0, .slice none 0 0] 34)) rfl ?_ (hK _ _ (post_new (belA (Below.refl _ _) _) ⟨W.heap.size, if_pos rfl, heap_alloc_new W _, Nat.le_refl _, by simp⟩))
                  · clear hfor huse hap hmi hK hF
                    generalize a.eval = ρ at *
                    go_simp
                · intro a W own hfor huse hap hmi hF K hK
                  obtain ⟨g, e10, hb, hSg⟩ := (huse 16 (by kernel_rfl) : onBox 10 #[.int .i64 0, .int .i64 0, .slice none 0 0, .int .i64 0, .int .i64 0, .slice none 0 0] 34 (slotsOf a) (own 16) W)
                  have e10 : a.eval (.tmp 10) = .pointer (some ⟨g, 0, none⟩) := e10
                  have e51 : a.eval (.tmp 51) = .agg #[.int .i64 y0, .int .i64 y1, .slice A3 top.length n3, .int .i64 (numD b 3), .int .i64 y2, .slice none 0 0] := huse 15 (by kernel_rfl)
                  refine step_store (cs := [.int .i64 y0, .int .i64 y1, .slice A3 top.length n3, .int .i64 (numD b 3), .int .i64 y2, .slice none 0 0]) rfl 34 (.tmp 10) (.tmp 51) rfl e10 e51 hb (by kernel_rfl) rfl (by simp [Value.oneCell']) (fun w1 hb1 hF1 => hK _ _ ⟨fun k => own 16 k, Foot.mono hF1 (fun k e => ⟨16, by decide, e ▸ hSg⟩), ⟨g, e10, hb1, hSg⟩, fun k h => .inl ⟨16, by decide, h⟩⟩)
                intro a' W own hf
                have s1 := hf.st.size
                have s2 := hf.st.rest
                have s3 := fun t ht => hf.st.kept t ht
                revert hf
                revert a'
                refine lay_intro (df := []) [true, true, true, true, true, true, true, true, true, true, false, true, true, true, true, true, true, true, true, true, true, true, true, true, true, true, true, true, true, true, true, true, true, true, true, true, false, false, false, false, false, false, false, false, false, false, false, false, false, false, false, false, true, true, true, true, true, true, true, true, true, true, true, true, true, true, true, true, true, true, true, true, true, true, true, true, true, true, true, true] (by kernel_rfl) rfl ?_
                intro x51 x50 x49 x48 x47 x46 x45 x44 x43 x42 x41 x40 x39 x38 x37 x36 x10 hf
                obtain ⟨g, hx10, hbg, hgo⟩ := hf.at 17 (onBox 10 #[.int .i64 y0, .int .i64 y1, .slice A3 top.length n3, .int .i64 (numD b 3), .int .i64 y2, .slice none 0 0] 34) rfl (by kernel_rfl)
                have hx10 : x10 = .pointer (some ⟨g, 0, none⟩) := hx10
                subst hx10
                have HG : Sec (w3.heap.size ≤ g ∧ g < W.heap.size) := ⟨by have := hf.st.mine 17 g hgo; exact ⟨this.1.elim (fun h => by simpa using h) (fun h => h.elim), this.2⟩⟩
                have B4' : Below w3.heap.size w3 W := hf.st.foot.below (belD (Below.refl _ _)) (fun k h => h.elim)
                have B4 := Sec.mk (bel B3.out B4')
                have R4 := Sec.mk (Kd.R_below R3.out B4')
                have V4 := Sec.mk (Kd.V_below V3.out B4' (by decide))
                have X4 := Sec.mk hbg
                have T4 : Sec True := ⟨trivial⟩
                clear hf hbg hgo B4' P0 P1 P2 T3
                generalize W = w4 at *
                have hq := box_at X4.out
                have q0 : w4.cell? ⟨g, 0, none⟩ = some (.int .i64 y0) := hq.2.1 0 _ rfl
                have f0 := hq.2.2 0
                have q1 : w4.cell? ⟨g, 1, none⟩ = some (.int .i64 y1) := hq.2.1 1 _ rfl
                have f1 := hq.2.2 1
                have q2 : w4.cell? ⟨g, 2, none⟩ = some (.slice A3 top.length n3) := hq.2.1 2 _ rfl
                have f2 := hq.2.2 2
                have q3 : w4.cell? ⟨g, 3, none⟩ = some (.int .i64 (numD b 3)) := hq.2.1 3 _ rfl
                have f3 := hq.2.2 3
                have q4 : w4.cell? ⟨g, 4, none⟩ = some (.int .i64 y2) := hq.2.1 4 _ rfl
                have f4 := hq.2.2 4
                have q5 : w4.cell? ⟨g, 5, none⟩ = some (.slice none 0 0) := hq.2.1 5 _ rfl
                have f5 := hq.2.2 5
                clear hq
                go_wp2_with (first | (with_reducible show wpList _ _ _ (⟨none, .store 34 (.tmp 2) (.tmp 79), _, _, _, _⟩ :: _) _ _; refine wpList_store (cs := [.int .i64 y0, .int .i64 y1, .slice A3 top.length n3, .int .i64 (numD b 3), .int .i64 y2, .slice A5 t.length n5]) (old := #[.int .i64 0, .int .i64 0, .slice none 0 0, .int .i64 0, .int .i64 0, .slice none 0 0]) rfl 34 (.tmp 2) (.tmp 79) rfl rfl rfl (HR0.out _ B9.out) (by kernel_rfl) rfl (kMsg.K_one (kMsg.O_K O9.out)) ?_; intro w12 hb12 hF12; have X12 := Sec.mk hb12; have F12 := Sec.mk hF12; clear hb12 hF12) | (clear T5; go_at_call 20; have U1 : Sec True := ⟨trivial⟩; refine (MsgOk_c m [.int .i64 y0, .int .i64 y1, .slice A3 top.length n3, .int .i64 (numD b 3), .int .i64 y2, .slice A5 t.length n5] _ _ (kMsg.O_K O6.out)).mono ?_; rw [HOM.out]; rintro e w9 ⟨rfl, hb⟩; have O9 := Sec.mk (kMsg.O_below O6.out hb); have X9 := Sec.mk (carryB hb Y5.out); have B9 := Sec.mk (bel (B5.out.setCell (p := ⟨g, 5, none⟩) (Nat.le_trans B3.out.size HG.out.1) _) hb); clear q0 f0 q1 f1 q2 f2 q3 f3 q4 f4 q5 f5; have hq := box_at X9.out; have q0 : w9.cell? ⟨g, 0, none⟩ = some (.int .i64 y0) := hq.2.1 0 _ rfl; have f0 := hq.2.2 0; have q1 : w9.cell? ⟨g, 1, none⟩ = some (.int .i64 y1) := hq.2.1 1 _ rfl; have f1 := hq.2.2 1; have q2 : w9.cell? ⟨g, 2, none⟩ = some (.slice A3 top.length n3) := hq.2.1 2 _ rfl; have f2 := hq.2.2 2; have q3 : w9.cell? ⟨g, 3, none⟩ = some (.int .i64 (numD b 3)) := hq.2.1 3 _ rfl; have f3 := hq.2.2 3; have q4 : w9.cell? ⟨g, 4, none⟩ = some (.int .i64 y2) := hq.2.1 4 _ rfl; have f4 := hq.2.2 4; have q5 : w9.cell? ⟨g, 5, none⟩ = some (.slice A5 t.length n5) := hq.2.1 5 _ rfl; have f5 := hq.2.2 5; clear hq; clear hb) | (clear T4; go_at_call 37; have T5 : Sec True := ⟨trivial⟩; refine (l6Term_c _ b _ e1 (by omega) (by omega) _ V4.out).mono ?_; rw [HT8.out]; rintro e w5 ⟨u5, he, hR, hb⟩; have he' : e = .returned (.tuple #[u5, .int .i64 (e2 : Int)]) := he; subst he'; replace hR : kCell.R w5 (fun k => w4.heap.size ≤ k) u5 t := hR; have R5 : Sec (kCell.R w5 (fun k => w4.heap.size ≤ k ∧ k < w5.heap.size) u5 t) := ⟨Kd.R_mono hR (fun k h1 h2 => ⟨h1, h2⟩)⟩; obtain ⟨A5, n5, rfl, -, -⟩ := Kd.R_form hR; have Q4 := Sec.mk (Kd.R_below R4.out hb); have B5 := Sec.mk (bel B4.out hb); have Z5 := Sec.mk hb.size; have X5 := Sec.mk (carryB hb X4.out); clear q0 f0 q1 f1 q2 f2 q3 f3 q4 f4 q5 f5; have hq := box_at X5.out; have q0 : w5.cell? ⟨g, 0, none⟩ = some (.int .i64 y0) := hq.2.1 0 _ rfl; have f0 := hq.2.2 0; have q1 : w5.cell? ⟨g, 1, none⟩ = some (.int .i64 y1) := hq.2.1 1 _ rfl; have f1 := hq.2.2 1; have q2 : w5.cell? ⟨g, 2, none⟩ = some (.slice A3 top.length n3) := hq.2.1 2 _ rfl; have f2 := hq.2.2 2; have q3 : w5.cell? ⟨g, 3, none⟩ = some (.int .i64 (numD b 3)) := hq.2.1 3 _ rfl; have f3 := hq.2.2 3; have q4 : w5.cell? ⟨g, 4, none⟩ = some (.int .i64 y2) := hq.2.1 4 _ rfl; have f4 := hq.2.2 4; have q5 : w5.cell? ⟨g, 5, none⟩ = some (.slice none 0 0) := hq.2.1 5 _ rfl; have f5 := hq.2.2 5; clear hq; clear hb hR he; have Y5 := Sec.mk (box_store 5 (.slice A5 t.length n5) X5.out); have g5 := q5; have h5 := f5; clear q0 f0 q1 f1 q2 f2 q3 f3 q4 f4 q5 f5; have hq := box_at Y5.out; have q0 : (w5.setCell ⟨g, 5, none⟩ (.slice A5 t.length n5)).cell? ⟨g, 0, none⟩ = some (.int .i64 y0) := hq.2.1 0 _ rfl; have f0 := hq.2.2 0; have q1 : (w5.setCell ⟨g, 5, none⟩ (.slice A5 t.length n5)).cell? ⟨g, 1, none⟩ = some (.int .i64 y1) := hq.2.1 1 _ rfl; have f1 := hq.2.2 1; have q2 : (w5.setCell ⟨g, 5, none⟩ (.slice A5 t.length n5)).cell? ⟨g, 2, none⟩ = some (.slice A3 top.length n3) := hq.2.1 2 _ rfl; have f2 := hq.2.2 2; have q3 : (w5.setCell ⟨g, 5, none⟩ (.slice A5 t.length n5)).cell? ⟨g, 3, none⟩ = some (.int .i64 (numD b 3)) := hq.2.1 3 _ rfl; have f3 := hq.2.2 3; have q4 : (w5.setCell ⟨g, 5, none⟩ (.slice A5 t.length n5)).cell? ⟨g, 4, none⟩ = some (.int .i64 y2) := hq.2.1 4 _ rfl; have f4 := hq.2.2 4; have q5 : (w5.setCell ⟨g, 5, none⟩ (.slice A5 t.length n5)).cell? ⟨g, 5, none⟩ = some (.slice A5 t.length n5) := hq.2.1 5 _ rfl; have f5 := hq.2.2 5; clear hq; have hO := msg_O (kd := y0) (fr := y1) (n := numD b 3) (st := y2) (Foot.setR (w := w5) (g := g) (i := 5) (u := .slice A5 t.length n5) Q4.out (fun h => by have := HG.out; omega)) (Foot.setR (w := w5) (g := g) (i := 5) (u := .slice A5 t.length n5) R5.out (fun h => by have := HG.out; omega)) (fun k h1 h2 => by have := HG.out; omega); rw [← HM.out] at hO; have O6 : Sec (kMsg.O (w5.setCell ⟨g, 5, none⟩ (.slice A5 t.length n5)) (fun k => w2.heap.size ≤ k ∧ k < w5.heap.size) m [.int .i64 y0, .int .i64 y1, .slice A3 top.length n3, .int .i64 (numD b 3), .int .i64 y2, .slice A5 t.length n5]) := ⟨kMsg.O_mono hO (fun k h _ => by have := Z5.out; have := HG.out; have := Z3.out; rcases h with h | h <;> omega)⟩; clear hO))
                exact bodyPost_ret (res_cell2 rfl rfl rfl X12.out hu2 rfl (by kernel_rfl)) rfl ⟨_, by rw [HE.out]; rfl, by rw [HE.out]; exact kMsg.O_mono (F12.out.O O9.out (fun k h1 h2 => by have := HZ.out; have := B2.out.size; omega)) (fun k h _ => by have := HZ.out; have := B2.out.size; omega), F12.out.below (BB.out _ B9.out) (fun k h => Nat.le_of_eq (show k = w.heap.size from h).symm)⟩
        · obtain ⟨m, hm⟩ : ∃ m, m = (⟨y0, y1, top, numD b 3, ⟨y2, []⟩⟩ : Msg) := ⟨_, rfl⟩
          have HRF : Sec (readD bs = finD b m e1) := ⟨by rw [HRD.out, HBM.out, ht6, hm]; simp only [hst, if_false]⟩
          have HM := Sec.mk hm
          have hs2 : ((y2 : Int) == 2) = false := by rw [beq_eq_false_iff_ne]; omega
          clear ht6 hm hst
          cases hne : ((e1 : Int) != (b.length : Int)) with
          | true =>
            have HE : Sec (readD bs = none) := ⟨by rw [HRF.out]; unfold finD; rw [if_neg (fun h => by rw [h.1] at hne; simp at hne)]⟩
            go_enter Tryz.func14, Tryz.ntmps14
            go_wp2_with (first | (clear T2; go_at_call 37; have T3 : Sec True := ⟨trivial⟩; refine (l6Term_c _ b _ 6 (by omega) HN6.out _ V2.out).mono ?_; rw [HT6.out]; rintro e w3 ⟨u3, he, hR, hb⟩; have he' : e = .returned (.tuple #[u3, .int .i64 (e1 : Int)]) := he; subst he'; replace hR : kCell.R w3 (fun k => w2.heap.size ≤ k) u3 top := hR; have R3 : Sec (kCell.R w3 (fun k => w2.heap.size ≤ k ∧ k < w3.heap.size) u3 top) := ⟨Kd.R_mono hR (fun k h1 h2 => ⟨h1, h2⟩)⟩; obtain ⟨A3, n3, rfl, -, -⟩ := Kd.R_form hR; have V3 := Sec.mk (Kd.V_below V2.out hb (by decide)); have B3 := Sec.mk (bel B2.out hb); have Z3 := Sec.mk hb.size; clear hb hR he) | (clear T1; go_at_call 36; have T2 : Sec True := ⟨trivial⟩; refine (l6Num_c _ b _ 3 (by omega) _ V1.out).mono ?_; rintro e w2 ⟨rfl, hb⟩; have V2 := Sec.mk (Kd.V_below V1.out hb (by decide)); have B2 := Sec.mk (bel B1.out hb); clear hb) | (clear T0; go_at_call 35; have T1 : Sec True := ⟨trivial⟩; refine (l6Body_c _ bs _ _ hl HV.out).mono ?_; rw [HBD.out]; rintro e w1 ⟨u1, he, hq, hb⟩; have he' : e = .returned (.tuple #[u1, .bool true]) := he; subst he'; have V1 := Sec.mk (hq b rfl); obtain ⟨Ab, cb, rfl, -⟩ := id V1.out; have B1 := Sec.mk hb; clear hb hq he))
            obtain ⟨bb, off, rfl, p0, p1, p2⟩ := HY.out _ _ _ _ V3.out
            have P0 := Sec.mk p0
            have P1 := Sec.mk p1
            have P2 := Sec.mk p2
            clear p0 p1 p2
            refine wp_region_lists [[36], [37], [38], [39], [40], [41], [42], [43], [44], [45], [46], [47], [48], [49], [50], [51], [10], [10]]
              [fun val _ _ => val 36 = .slice (some ⟨bb, off, none⟩) b.length cb,
                fun val _ _ => val 37 = .pointer (some ⟨bb, off, none⟩),
                fun val _ _ => val 38 = .int .u8 y0,
                fun val _ _ => val 39 = .int .i64 y0,
                fun val _ _ => val 40 = .slice (some ⟨bb, off, none⟩) b.length cb,
                fun val _ _ => val 41 = .pointer (some ⟨bb, off + 1, none⟩),
                fun val _ _ => val 42 = .int .u8 y1,
                fun val _ _ => val 43 = .int .i64 y1,
                fun val _ _ => val 44 = .slice A3 top.length n3,
                fun val _ _ => val 45 = .int .i64 (numD b 3),
                fun val _ _ => val 46 = .slice (some ⟨bb, off, none⟩) b.length cb,
                fun val _ _ => val 47 = .pointer (some ⟨bb, off + 2, none⟩),
                fun val _ _ => val 48 = .int .u8 y2,
                fun val _ _ => val 49 = .int .i64 y2,
                fun val _ _ => val 50 = .agg #[.int .i64 y2, .slice none 0 0],
                fun val _ _ => val 51 = .agg #[.int .i64 y0, .int .i64 y1, .slice A3 top.length n3, .int .i64 (numD b 3), .int .i64 y2, .slice none 0 0],
                onBox 10 #[.int .i64 0, .int .i64 0, .slice none 0 0, .int .i64 0, .int .i64 0, .slice none 0 0] 34,
                onBox 10 #[.int .i64 y0, .int .i64 y1, .slice A3 top.length n3, .int .i64 (numD b 3), .int .i64 y2, .slice none 0 0] 34]
              [[], [], [], [], [], [], [], [], [], [], [], [], [], [], [], [], [], [16]] 0 (fun _ => False) (fun _ _ => False) (by kernel_rfl) ⟨by kernel_rfl, by kernel_rfl, by kernel_rfl, by kernel_rfl, by kernel_rfl⟩
              (.cons (stab_val 36 (fun v => v = .slice (some ⟨bb, off, none⟩) b.length cb)) (.cons (stab_val 37 (fun v => v = .pointer (some ⟨bb, off, none⟩))) (.cons (stab_val 38 (fun v => v = .int .u8 y0)) (.cons (stab_val 39 (fun v => v = .int .i64 y0)) (.cons (stab_val 40 (fun v => v = .slice (some ⟨bb, off, none⟩) b.length cb)) (.cons (stab_val 41 (fun v => v = .pointer (some ⟨bb, off + 1, none⟩))) (.cons (stab_val 42 (fun v => v = .int .u8 y1)) (.cons (stab_val 43 (fun v => v = .int .i64 y1)) (.cons (stab_val 44 (fun v => v = .slice A3 top.length n3)) (.cons (stab_val 45 (fun v => v = .int .i64 (numD b 3))) (.cons (stab_val 46 (fun v => v = .slice (some ⟨bb, off, none⟩) b.length cb)) (.cons (stab_val 47 (fun v => v = .pointer (some ⟨bb, off + 2, none⟩))) (.cons (stab_val 48 (fun v => v = .int .u8 y2)) (.cons (stab_val 49 (fun v => v = .int .i64 y2)) (.cons (stab_val 50 (fun v => v = .agg #[.int .i64 y2, .slice none 0 0])) (.cons (stab_val 51 (fun v => v = .agg #[.int .i64 y0, .int .i64 y1, .slice A3 top.length n3, .int .i64 (numD b 3), .int .i64 y2, .slice none 0 0])) (.cons (stab_box 10 #[.int .i64 0, .int .i64 0, .slice none 0 0, .int .i64 0, .int .i64 0, .slice none 0 0] 34) (.cons (stab_box 10 #[.int .i64 y0, .int .i64 y1, .slice A3 top.length n3, .int .i64 (numD b 3), .int .i64 y2, .slice none 0 0] 34) .nil))))))))))))))))))
              (fun i j k h1 h2 => h1.elim) (fun i k h => h.elim) (fun i h1 h2 => by simp at h1 h2; omega) (.cons ?_ (.cons ?_ (.cons ?_ (.cons ?_ (.cons ?_ (.cons ?_ (.cons ?_ (.cons ?_ (.cons ?_ (.cons ?_ (.cons ?_ (.cons ?_ (.cons ?_ (.cons ?_ (.cons ?_ (.cons ?_ (.cons ?_ (.cons ?_ .nil)))))))))))))))))) ?_
            · intro a W own hfor huse hap hmi hF K hK
              have e4 : a.eval (.tmp 4) = .slice (some ⟨bb, off, none⟩) b.length cb := hfor 4 (by kernel_rfl)
              refine op_val (.slice (some ⟨bb, off, none⟩) b.length cb) W rfl ?_ (hK _ _ (post_pure ?_))
              · clear hfor huse hap hmi hK hF
                generalize a.eval = ρ at *
                go_simp
              · exact (if_pos rfl)
            · intro a W own hfor huse hap hmi hF K hK
              have e36 : a.eval (.tmp 36) = .slice (some ⟨bb, off, none⟩) b.length cb := huse 0 (by kernel_rfl)
              have ec0 : a.eval (.const (.int .i64 0)) = .int .i64 0 := rfl
              refine op_val (.pointer (some ⟨bb, off, none⟩)) W rfl ?_ (hK _ _ (post_pure ?_))
              · clear hfor huse hap hmi hK hF
                generalize a.eval = ρ at *
                go_simp
              · exact (if_pos rfl)
            · intro a W own hfor huse hap hmi hF K hK
              have e37 : a.eval (.tmp 37) = .pointer (some ⟨bb, off, none⟩) := huse 1 (by kernel_rfl)
              have x0 := foot_cell hF (fun h => h) P0.out
              refine op_val (.int .u8 y0) W rfl ?_ (hK _ _ (post_pure ?_))
              · clear hfor huse hap hmi hK hF
                generalize a.eval = ρ at *
                go_simp
              · exact (if_pos rfl)
            · intro a W own hfor huse hap hmi hF K hK
              have e38 : a.eval (.tmp 38) = .int .u8 y0 := huse 2 (by kernel_rfl)
              have wy : IntKind.i64.wrap (y0 : Int) = (y0 : Int) := wrapIn _ (by omega) (by omega)
              refine op_val (.int .i64 y0) W rfl ?_ (hK _ _ (post_pure ?_))
              · clear hfor huse hap hmi hK hF
                generalize a.eval = ρ at *
                go_simp
              · exact (if_pos rfl)
            · intro a W own hfor huse hap hmi hF K hK
              have e4 : a.eval (.tmp 4) = .slice (some ⟨bb, off, none⟩) b.length cb := hfor 4 (by kernel_rfl)
              refine op_val (.slice (some ⟨bb, off, none⟩) b.length cb) W rfl ?_ (hK _ _ (post_pure ?_))
              · clear hfor huse hap hmi hK hF
                generalize a.eval = ρ at *
                go_simp
              · exact (if_pos rfl)
            · intro a W own hfor huse hap hmi hF K hK
              have e40 : a.eval (.tmp 40) = .slice (some ⟨bb, off, none⟩) b.length cb := huse 4 (by kernel_rfl)
              have ec0 : a.eval (.const (.int .i64 1)) = .int .i64 1 := rfl
              have ib : ¬ ((b.length : Int) ≤ 1) := by omega
              refine op_val (.pointer (some ⟨bb, off + 1, none⟩)) W rfl ?_ (hK _ _ (post_pure ?_))
              · clear hfor huse hap hmi hK hF
                generalize a.eval = ρ at *
                go_simp
              · exact (if_pos rfl)
            · intro a W own hfor huse hap hmi hF K hK
              have e41 : a.eval (.tmp 41) = .pointer (some ⟨bb, off + 1, none⟩) := huse 5 (by kernel_rfl)
              have x1 := foot_cell hF (fun h => h) P1.out
              refine op_val (.int .u8 y1) W rfl ?_ (hK _ _ (post_pure ?_))
              · clear hfor huse hap hmi hK hF
                generalize a.eval = ρ at *
                go_simp
              · exact (if_pos rfl)
            · intro a W own hfor huse hap hmi hF K hK
              have e42 : a.eval (.tmp 42) = .int .u8 y1 := huse 6 (by kernel_rfl)
              have wy : IntKind.i64.wrap (y1 : Int) = (y1 : Int) := wrapIn _ (by omega) (by omega)
              refine op_val (.int .i64 y1) W rfl ?_ (hK _ _ (post_pure ?_))
              · clear hfor huse hap hmi hK hF
                generalize a.eval = ρ at *
                go_simp
              · exact (if_pos rfl)
            · intro a W own hfor huse hap hmi hF K hK
              have e8 : a.eval (.tmp 8) = .slice A3 top.length n3 := hfor 8 (by kernel_rfl)
              refine op_val (.slice A3 top.length n3) W rfl ?_ (hK _ _ (post_pure ?_))
              · clear hfor huse hap hmi hK hF
                generalize a.eval = ρ at *
                go_simp
              · exact (if_pos rfl)
            · intro a W own hfor huse hap hmi hF K hK
              have e6 : a.eval (.tmp 6) = .int .i64 (numD b 3) := hfor 6 (by kernel_rfl)
              refine op_val (.int .i64 (numD b 3)) W rfl ?_ (hK _ _ (post_pure ?_))
              · clear hfor huse hap hmi hK hF
                generalize a.eval = ρ at *
                go_simp
              · exact (if_pos rfl)
            · intro a W own hfor huse hap hmi hF K hK
              have e4 : a.eval (.tmp 4) = .slice (some ⟨bb, off, none⟩) b.length cb := hfor 4 (by kernel_rfl)
              refine op_val (.slice (some ⟨bb, off, none⟩) b.length cb) W rfl ?_ (hK _ _ (post_pure ?_))
              · clear hfor huse hap hmi hK hF
                generalize a.eval = ρ at *
                go_simp
              · exact (if_pos rfl)
            · intro a W own hfor huse hap hmi hF K hK
              have e46 : a.eval (.tmp 46) = .slice (some ⟨bb, off, none⟩) b.length cb := huse 10 (by kernel_rfl)
              have ec0 : a.eval (.const (.int .i64 2)) = .int .i64 2 := rfl
              have ib : ¬ ((b.length : Int) ≤ 2) := by omega
              refine op_val (.pointer (some ⟨bb, off + 2, none⟩)) W rfl ?_ (hK _ _ (post_pure ?_))
              · clear hfor huse hap hmi hK hF
                generalize a.eval = ρ at *
                go_simp
              · exact (if_pos rfl)
            · intro a W own hfor huse hap hmi hF K hK
              have e47 : a.eval (.tmp 47) = .pointer (some ⟨bb, off + 2, none⟩) := huse 11 (by kernel_rfl)
              have x2 := foot_cell hF (fun h => h) P2.out
              refine op_val (.int .u8 y2) W rfl ?_ (hK _ _ (post_pure ?_))
              · clear hfor huse hap hmi hK hF
                generalize a.eval = ρ at *
                go_simp
              · exact (if_pos rfl)
            · intro a W own hfor huse hap hmi hF K hK
              have e48 : a.eval (.tmp 48) = .int .u8 y2 := huse 12 (by kernel_rfl)
              have wy : IntKind.i64.wrap (y2 : Int) = (y2 : Int) := wrapIn _ (by omega) (by omega)
              refine op_val (.int .i64 y2) W rfl ?_ (hK _ _ (post_pure ?_))
              · clear hfor huse hap hmi hK hF
                generalize a.eval = ρ at *
                go_simp
              · exact (if_pos rfl)
            · intro a W own hfor huse hap hmi hF K hK
              have e49 : a.eval (.tmp 49) = .int .i64 y2 := huse 13 (by kernel_rfl)
              refine op_val (.agg #[.int .i64 y2, .slice none 0 0]) W rfl ?_ (hK _ _ (post_pure ?_))
              · clear hfor huse hap hmi hK hF
                generalize a.eval = ρ at *
                go_simp
              · exact (if_pos rfl)
            · intro a W own hfor huse hap hmi hF K hK
              have e39 : a.eval (.tmp 39) = .int .i64 y0 := huse 3 (by kernel_rfl)
              have e43 : a.eval (.tmp 43) = .int .i64 y1 := huse 7 (by kernel_rfl)
              have e44 : a.eval (.tmp 44) = .slice A3 top.length n3 := huse 8 (by kernel_rfl)
              have e45 : a.eval (.tmp 45) = .int .i64 (numD b 3) := huse 9 (by kernel_rfl)
              have e50 : a.eval (.tmp 50) = .agg #[.int .i64 y2, .slice none 0 0] := huse 14 (by kernel_rfl)
              refine op_val (.agg #[.int .i64 y0, .int .i64 y1, .slice A3 top.length n3, .int .i64 (numD b 3), .int .i64 y2, .slice none 0 0]) W rfl ?_ (hK _ _ (post_pure ?_))
              · clear hfor huse hap hmi hK hF
                generalize a.eval = ρ at *
                go_simp
              · exact (if_pos rfl)
            · intro a W own hfor huse hap hmi hF K hK
              refine op_val (.pointer (some ⟨W.heap.size, 0, none⟩)) (W.alloc (.cells #[.int .i64 0, .int .i64 0, .slice none 0 0, .int .i64 0, .int .i64 0, .slice none 0 0] 34)) rfl ?_ (hK _ _ (post_new (belA (Below.refl _ _) _) ⟨W.heap.size, if_pos rfl, heap_alloc_new W _, Nat.le_refl _, by simp⟩))
              · clear hfor huse hap hmi hK hF
                generalize a.eval = ρ at *
                go_simp
            · intro a W own hfor huse hap hmi hF K hK
              obtain ⟨g, e10, hb, hSg⟩ := (huse 16 (by kernel_rfl) : onBox 10 #[.int .i64 0, .int .i64 0, .slice none 0 0, .int .i64 0, .int .i64 0, .slice none 0 0] 34 (slotsOf a) (own 16) W)
              have e10 : a.eval (.tmp 10) = .pointer (some ⟨g, 0, none⟩) := e10
              have e51 : a.eval (.tmp 51) = .agg #[.int .i64 y0, .int .i64 y1, .slice A3 top.length n3, .int .i64 (numD b 3), .int .i64 y2, .slice none 0 0] := huse 15 (by kernel_rfl)
              refine step_store (cs := [.int .i64 y0, .int .i64 y1, .slice A3 top.length n3, .int .i64 (numD b 3), .int .i64 y2, .slice none 0 0]) rfl 34 (.tmp 10) (.tmp 51) rfl e10 e51 hb (by kernel_rfl) rfl (by simp [Value.oneCell']) (fun w1 hb1 hF1 => hK _ _ ⟨fun k => own 16 k, Foot.mono hF1 (fun k e => ⟨16, by decide, e ▸ hSg⟩), ⟨g, e10, hb1, hSg⟩, fun k h => .inl ⟨16, by decide, h⟩⟩)
            intro a' W own hf
            have s1 := hf.st.size
            have s2 := hf.st.rest
            have s3 := fun t ht => hf.st.kept t ht
            revert hf
            revert a'
            refine lay_intro (df := []) [true, true, true, true, true, true, true, true, true, true, false, true, true, true, true, true, true, true, true, true, true, true, true, true, true, true, true, true, true, true, true, true, true, true, true, true, false, false, false, false, false, false, false, false, false, false, false, false, false, false, false, false, true, true, true, true, true, true, true, true, true, true, true, true, true, true, true, true, true, true, true, true, true, true, true, true, true, true, true, true] (by kernel_rfl) rfl ?_
            intro x51 x50 x49 x48 x47 x46 x45 x44 x43 x42 x41 x40 x39 x38 x37 x36 x10 hf
            obtain ⟨g, hx10, hbg, hgo⟩ := hf.at 17 (onBox 10 #[.int .i64 y0, .int .i64 y1, .slice A3 top.length n3, .int .i64 (numD b 3), .int .i64 y2, .slice none 0 0] 34) rfl (by kernel_rfl)
            have hx10 : x10 = .pointer (some ⟨g, 0, none⟩) := hx10
            subst hx10
            have HG : Sec (w3.heap.size ≤ g ∧ g < W.heap.size) := ⟨by have := hf.st.mine 17 g hgo; exact ⟨this.1.elim (fun h => by simpa using h) (fun h => h.elim), this.2⟩⟩
            have B4' : Below w3.heap.size w3 W := hf.st.foot.below (belD (Below.refl _ _)) (fun k h => h.elim)
            have B4 := Sec.mk (bel B3.out B4')
            have R4 := Sec.mk (Kd.R_below R3.out B4')
            have V4 := Sec.mk (Kd.V_below V3.out B4' (by decide))
            have X4 := Sec.mk hbg
            have T4 : Sec True := ⟨trivial⟩
            clear hf hbg hgo B4' P0 P1 P2 T3
            generalize W = w4 at *
            have hq := box_at X4.out
            have q0 : w4.cell? ⟨g, 0, none⟩ = some (.int .i64 y0) := hq.2.1 0 _ rfl
            have f0 := hq.2.2 0
            have q1 : w4.cell? ⟨g, 1, none⟩ = some (.int .i64 y1) := hq.2.1 1 _ rfl
            have f1 := hq.2.2 1
            have q2 : w4.cell? ⟨g, 2, none⟩ = some (.slice A3 top.length n3) := hq.2.1 2 _ rfl
            have f2 := hq.2.2 2
            have q3 : w4.cell? ⟨g, 3, none⟩ = some (.int .i64 (numD b 3)) := hq.2.1 3 _ rfl
            have f3 := hq.2.2 3
            have q4 : w4.cell? ⟨g, 4, none⟩ = some (.int .i64 y2) := hq.2.1 4 _ rfl
            have f4 := hq.2.2 4
            have q5 : w4.cell? ⟨g, 5, none⟩ = some (.slice none 0 0) := hq.2.1 5 _ rfl
            have f5 := hq.2.2 5
            clear hq
            have hO := msg_O (kd := y0) (fr := y1) (n := numD b 3) (st := y2) (t := []) R4.out (Kd.R_nil kCell w4 (fun _ => False)) (fun k h1 h2 => h2)
            rw [← HM.out] at hO
            have O6 : Sec (kMsg.O w4 (fun k => w2.heap.size ≤ k ∧ k < w4.heap.size) m [.int .i64 y0, .int .i64 y1, .slice A3 top.length n3, .int .i64 (numD b 3), .int .i64 y2, .slice none 0 0]) := ⟨kMsg.O_mono hO (fun k h h2 => h.elim (fun h => ⟨h.1, h2⟩) False.elim)⟩
            clear hO
            go_wp2_with (with_reducible show wpList _ _ _ (⟨none, .store 34 (.tmp 2) (.tmp 78), _, _, _, _⟩ :: _) _ _; refine wpList_store (cs := [.int .i64 0, .int .i64 0, .slice none 0 0, .int .i64 0, .int .i64 0, .slice none 0 0]) (old := #[.int .i64 0, .int .i64 0, .slice none 0 0, .int .i64 0, .int .i64 0, .slice none 0 0]) rfl 34 (.tmp 2) (.tmp 78) rfl rfl rfl (HR0.out _ B4.out) (by kernel_rfl) rfl (by simp [Value.oneCell']) ?_; intro w12 hb12 hF12; have X12 := Sec.mk hb12; have F12 := Sec.mk hF12; clear hb12 hF12)
            exact bodyPost_ret (res_cell2 rfl rfl rfl X12.out hu2 rfl (by kernel_rfl)) rfl ⟨_, by rw [HE.out]; rfl, by rw [HE.out]; exact kMsg.O_mono (kMsg_zero _) (fun k h _ => h.elim), F12.out.below (BB.out _ B4.out) (fun k h => Nat.le_of_eq (show k = w.heap.size from h).symm)⟩
          | false =>
            have hee : e1 = b.length := by
              have h9 : (e1 : Int) = b.length := by simpa using hne
              omega
            have HEE := Sec.mk hee
            clear hee
            cases hom : msgOk m with
            | false =>
              have HE : Sec (readD bs = none) := ⟨by rw [HRF.out]; unfold finD; rw [if_neg (fun h => by rw [hom] at h; exact absurd h.2 (by simp))]⟩
              have HOM := Sec.mk hom
              clear hom
              go_enter Tryz.func14, Tryz.ntmps14
              go_wp2_with (first | (clear T2; go_at_call 37; have T3 : Sec True := ⟨trivial⟩; refine (l6Term_c _ b _ 6 (by omega) HN6.out _ V2.out).mono ?_; rw [HT6.out]; rintro e w3 ⟨u3, he, hR, hb⟩; have he' : e = .returned (.tuple #[u3, .int .i64 (e1 : Int)]) := he; subst he'; replace hR : kCell.R w3 (fun k => w2.heap.size ≤ k) u3 top := hR; have R3 : Sec (kCell.R w3 (fun k => w2.heap.size ≤ k ∧ k < w3.heap.size) u3 top) := ⟨Kd.R_mono hR (fun k h1 h2 => ⟨h1, h2⟩)⟩; obtain ⟨A3, n3, rfl, -, -⟩ := Kd.R_form hR; have V3 := Sec.mk (Kd.V_below V2.out hb (by decide)); have B3 := Sec.mk (bel B2.out hb); have Z3 := Sec.mk hb.size; clear hb hR he) | (clear T1; go_at_call 36; have T2 : Sec True := ⟨trivial⟩; refine (l6Num_c _ b _ 3 (by omega) _ V1.out).mono ?_; rintro e w2 ⟨rfl, hb⟩; have V2 := Sec.mk (Kd.V_below V1.out hb (by decide)); have B2 := Sec.mk (bel B1.out hb); clear hb) | (clear T0; go_at_call 35; have T1 : Sec True := ⟨trivial⟩; refine (l6Body_c _ bs _ _ hl HV.out).mono ?_; rw [HBD.out]; rintro e w1 ⟨u1, he, hq, hb⟩; have he' : e = .returned (.tuple #[u1, .bool true]) := he; subst he'; have V1 := Sec.mk (hq b rfl); obtain ⟨Ab, cb, rfl, -⟩ := id V1.out; have B1 := Sec.mk hb; clear hb hq he))
              obtain ⟨bb, off, rfl, p0, p1, p2⟩ := HY.out _ _ _ _ V3.out
              have P0 := Sec.mk p0
              have P1 := Sec.mk p1
              have P2 := Sec.mk p2
              clear p0 p1 p2
              refine wp_region_lists [[36], [37], [38], [39], [40], [41], [42], [43], [44], [45], [46], [47], [48], [49], [50], [51], [10], [10]]
                [fun val _ _ => val 36 = .slice (some ⟨bb, off, none⟩) b.length cb,
                  fun val _ _ => val 37 = .pointer (some ⟨bb, off, none⟩),
                  fun val _ _ => val 38 = .int .u8 y0,
                  fun val _ _ => val 39 = .int .i64 y0,
                  fun val _ _ => val 40 = .slice (some ⟨bb, off, none⟩) b.length cb,
                  fun val _ _ => val 41 = .pointer (some ⟨bb, off + 1, none⟩),
                  fun val _ _ => val 42 = .int .u8 y1,
                  fun val _ _ => val 43 = .int .i64 y1,
                  fun val _ _ => val 44 = .slice A3 top.length n3,
                  fun val _ _ => val 45 = .int .i64 (numD b 3),
                  fun val _ _ => val 46 = .slice (some ⟨bb, off, none⟩) b.length cb,
                  fun val _ _ => val 47 = .pointer (some ⟨bb, off + 2, none⟩),
                  fun val _ _ => val 48 = .int .u8 y2,
                  fun val _ _ => val 49 = .int .i64 y2,
                  fun val _ _ => val 50 = .agg #[.int .i64 y2, .slice none 0 0],
                  fun val _ _ => val 51 = .agg #[.int .i64 y0, .int .i64 y1, .slice A3 top.length n3, .int .i64 (numD b 3), .int .i64 y2, .slice none 0 0],
                  onBox 10 #[.int .i64 0, .int .i64 0, .slice none 0 0, .int .i64 0, .int .i64 0, .slice none 0 0] 34,
                  onBox 10 #[.int .i64 y0, .int .i64 y1, .slice A3 top.length n3, .int .i64 (numD b 3), .int .i64 y2, .slice none 0 0] 34]
                [[], [], [], [], [], [], [], [], [], [], [], [], [], [], [], [], [], [16]] 0 (fun _ => False) (fun _ _ => False) (by kernel_rfl) ⟨by kernel_rfl, by kernel_rfl, by kernel_rfl, by kernel_rfl, by kernel_rfl⟩
                (.cons (stab_val 36 (fun v => v = .slice (some ⟨bb, off, none⟩) b.length cb)) (.cons (stab_val 37 (fun v => v = .pointer (some ⟨bb, off, none⟩))) (.cons (stab_val 38 (fun v => v = .int .u8 y0)) (.cons (stab_val 39 (fun v => v = .int .i64 y0)) (.cons (stab_val 40 (fun v => v = .slice (some ⟨bb, off, none⟩) b.length cb)) (.cons (stab_val 41 (fun v => v = .pointer (some ⟨bb, off + 1, none⟩))) (.cons (stab_val 42 (fun v => v = .int .u8 y1)) (.cons (stab_val 43 (fun v => v = .int .i64 y1)) (.cons (stab_val 44 (fun v => v = .slice A3 top.length n3)) (.cons (stab_val 45 (fun v => v = .int .i64 (numD b 3))) (.cons (stab_val 46 (fun v => v = .slice (some ⟨bb, off, none⟩) b.length cb)) (.cons (stab_val 47 (fun v => v = .pointer (some ⟨bb, off + 2, none⟩))) (.cons (stab_val 48 (fun v => v = .int .u8 y2)) (.cons (stab_val 49 (fun v => v = .int .i64 y2)) (.cons (stab_val 50 (fun v => v = .agg #[.int .i64 y2, .slice none 0 0])) (.cons (stab_val 51 (fun v => v = .agg #[.int .i64 y0, .int .i64 y1, .slice A3 top.length n3, .int .i64 (numD b 3), .int .i64 y2, .slice none 0 0])) (.cons (stab_box 10 #[.int .i64 0, .int .i64 0, .slice none 0 0, .int .i64 0, .int .i64 0, .slice none 0 0] 34) (.cons (stab_box 10 #[.int .i64 y0, .int .i64 y1, .slice A3 top.length n3, .int .i64 (numD b 3), .int .i64 y2, .slice none 0 0] 34) .nil))))))))))))))))))
                (fun i j k h1 h2 => h1.elim) (fun i k h => h.elim) (fun i h1 h2 => by simp at h1 h2; omega) (.cons ?_ (.cons ?_ (.cons ?_ (.cons ?_ (.cons ?_ (.cons ?_ (.cons ?_ (.cons ?_ (.cons ?_ (.cons ?_ (.cons ?_ (.cons ?_ (.cons ?_ (.cons ?_ (.cons ?_ (.cons ?_ (.cons ?_ (.cons ?_ .nil)))))))))))))))))) ?_
              · intro a W own hfor huse hap hmi hF K hK
                have e4 : a.eval (.tmp 4) = .slice (some ⟨bb, off, none⟩) b.length cb := hfor 4 (by kernel_rfl)
                refine op_val (.slice (some ⟨bb, off, none⟩) b.length cb) W rfl ?_ (hK _ _ (post_pure ?_))
                · clear hfor huse hap hmi hK hF
                  generalize a.eval = ρ at *
                  go_simp
                · exact (if_pos rfl)
              · intro a W own hfor huse hap hmi hF K hK
                have e36 : a.eval (.tmp 36) = .slice (some ⟨bb, off, none⟩) b.length cb := huse 0 (by kernel_rfl)
                have ec0 : a.eval (.const (.int .i64 0)) = .int .i64 0 := rfl
                refine op_val (.pointer (some ⟨bb, off, none⟩)) W rfl ?_ (hK _ _ (post_pure ?_))
                · clear hfor huse hap hmi hK hF
                  generalize a.eval = ρ at *
                  go_simp
                · exact (if_pos rfl)
              · intro a W own hfor huse hap hmi hF K hK
                have e37 : a.eval (.tmp 37) = .pointer (some ⟨bb, off, none⟩) := huse 1 (by kernel_rfl)
                have x0 := foot_cell hF (fun h => h) P0.out
                refine op_val (.int .u8 y0) W rfl ?_ (hK _ _ (post_pure ?_))
                · clear hfor huse hap hmi hK hF
                  generalize a.eval = ρ at *
                  go_simp
                · exact (if_pos rfl)
              · intro a W own hfor huse hap hmi hF K hK
                have e38 : a.eval (.tmp 38) = .int .u8 y0 := huse 2 (by kernel_rfl)
                have wy : IntKind.i64.wrap (y0 : Int) = (y0 : Int) := wrapIn _ (by omega) (by omega)
                refine op_val (.int .i64 y0) W rfl ?_ (hK _ _ (post_pure ?_))
                · clear hfor huse hap hmi hK hF
                  generalize a.eval = ρ at *
                  go_simp
                · exact (if_pos rfl)
              · intro a W own hfor huse hap hmi hF K hK
                have e4 : a.eval (.tmp 4) = .slice (some ⟨bb, off, none⟩) b.length cb := hfor 4 (by kernel_rfl)
                refine op_val (.slice (some ⟨bb, off, none⟩) b.length cb) W rfl ?_ (hK _ _ (post_pure ?_))
                · clear hfor huse hap hmi hK hF
                  generalize a.eval = ρ at *
                  go_simp
                · exact (if_pos rfl)
              · intro a W own hfor huse hap hmi hF K hK
                have e40 : a.eval (.tmp 40) = .slice (some ⟨bb, off, none⟩) b.length cb := huse 4 (by kernel_rfl)
                have ec0 : a.eval (.const (.int .i64 1)) = .int .i64 1 := rfl
                have ib : ¬ ((b.length : Int) ≤ 1) := by omega
                refine op_val (.pointer (some ⟨bb, off + 1, none⟩)) W rfl ?_ (hK _ _ (post_pure ?_))
                · clear hfor huse hap hmi hK hF
                  generalize a.eval = ρ at *
                  go_simp
                · exact (if_pos rfl)
              · intro a W own hfor huse hap hmi hF K hK
                have e41 : a.eval (.tmp 41) = .pointer (some ⟨bb, off + 1, none⟩) := huse 5 (by kernel_rfl)
                have x1 := foot_cell hF (fun h => h) P1.out
                refine op_val (.int .u8 y1) W rfl ?_ (hK _ _ (post_pure ?_))
                · clear hfor huse hap hmi hK hF
                  generalize a.eval = ρ at *
                  go_simp
                · exact (if_pos rfl)
              · intro a W own hfor huse hap hmi hF K hK
                have e42 : a.eval (.tmp 42) = .int .u8 y1 := huse 6 (by kernel_rfl)
                have wy : IntKind.i64.wrap (y1 : Int) = (y1 : Int) := wrapIn _ (by omega) (by omega)
                refine op_val (.int .i64 y1) W rfl ?_ (hK _ _ (post_pure ?_))
                · clear hfor huse hap hmi hK hF
                  generalize a.eval = ρ at *
                  go_simp
                · exact (if_pos rfl)
              · intro a W own hfor huse hap hmi hF K hK
                have e8 : a.eval (.tmp 8) = .slice A3 top.length n3 := hfor 8 (by kernel_rfl)
                refine op_val (.slice A3 top.length n3) W rfl ?_ (hK _ _ (post_pure ?_))
                · clear hfor huse hap hmi hK hF
                  generalize a.eval = ρ at *
                  go_simp
                · exact (if_pos rfl)
              · intro a W own hfor huse hap hmi hF K hK
                have e6 : a.eval (.tmp 6) = .int .i64 (numD b 3) := hfor 6 (by kernel_rfl)
                refine op_val (.int .i64 (numD b 3)) W rfl ?_ (hK _ _ (post_pure ?_))
                · clear hfor huse hap hmi hK hF
                  generalize a.eval = ρ at *
                  go_simp
                · exact (if_pos rfl)
              · intro a W own hfor huse hap hmi hF K hK
                have e4 : a.eval (.tmp 4) = .slice (some ⟨bb, off, none⟩) b.length cb := hfor 4 (by kernel_rfl)
                refine op_val (.slice (some ⟨bb, off, none⟩) b.length cb) W rfl ?_ (hK _ _ (post_pure ?_))
                · clear hfor huse hap hmi hK hF
                  generalize a.eval = ρ at *
                  go_simp
                · exact (if_pos rfl)
              · intro a W own hfor huse hap hmi hF K hK
                have e46 : a.eval (.tmp 46) = .slice (some ⟨bb, off, none⟩) b.length cb := huse 10 (by kernel_rfl)
                have ec0 : a.eval (.const (.int .i64 2)) = .int .i64 2 := rfl
                have ib : ¬ ((b.length : Int) ≤ 2) := by omega
                refine op_val (.pointer (some ⟨bb, off + 2, none⟩)) W rfl ?_ (hK _ _ (post_pure ?_))
                · clear hfor huse hap hmi hK hF
                  generalize a.eval = ρ at *
                  go_simp
                · exact (if_pos rfl)
              · intro a W own hfor huse hap hmi hF K hK
                have e47 : a.eval (.tmp 47) = .pointer (some ⟨bb, off + 2, none⟩) := huse 11 (by kernel_rfl)
                have x2 := foot_cell hF (fun h => h) P2.out
                refine op_val (.int .u8 y2) W rfl ?_ (hK _ _ (post_pure ?_))
                · clear hfor huse hap hmi hK hF
                  generalize a.eval = ρ at *
                  go_simp
                · exact (if_pos rfl)
              · intro a W own hfor huse hap hmi hF K hK
                have e48 : a.eval (.tmp 48) = .int .u8 y2 := huse 12 (by kernel_rfl)
                have wy : IntKind.i64.wrap (y2 : Int) = (y2 : Int) := wrapIn _ (by omega) (by omega)
                refine op_val (.int .i64 y2) W rfl ?_ (hK _ _ (post_pure ?_))
                · clear hfor huse hap hmi hK hF
                  generalize a.eval = ρ at *
                  go_simp
                · exact (if_pos rfl)
              · intro a W own hfor huse hap hmi hF K hK
                have e49 : a.eval (.tmp 49) = .int .i64 y2 := huse 13 (by kernel_rfl)
                refine op_val (.agg #[.int .i64 y2, .slice none 0 0]) W rfl ?_ (hK _ _ (post_pure ?_))
                · clear hfor huse hap hmi hK hF
                  generalize a.eval = ρ at *
                  go_simp
                · exact (if_pos rfl)
              · intro a W own hfor huse hap hmi hF K hK
                have e39 : a.eval (.tmp 39) = .int .i64 y0 := huse 3 (by kernel_rfl)
                have e43 : a.eval (.tmp 43) = .int .i64 y1 := huse 7 (by kernel_rfl)
                have e44 : a.eval (.tmp 44) = .slice A3 top.length n3 := huse 8 (by kernel_rfl)
                have e45 : a.eval (.tmp 45) = .int .i64 (numD b 3) := huse 9 (by kernel_rfl)
                have e50 : a.eval (.tmp 50) = .agg #[.int .i64 y2, .slice none 0 0] := huse 14 (by kernel_rfl)
                refine op_val (.agg #[.int .i64 y0, .int .i64 y1, .slice A3 top.length n3, .int .i64 (numD b 3), .int .i64 y2, .slice none 0 0]) W rfl ?_ (hK _ _ (post_pure ?_))
                · clear hfor huse hap hmi hK hF
                  generalize a.eval = ρ at *
                  go_simp
                · exact (if_pos rfl)
              · intro a W own hfor huse hap hmi hF K hK
                refine op_val (.pointer (some ⟨W.heap.size, 0, none⟩)) (W.alloc (.cells #[.int .i64 0, .int .i64 0, .slice none 0 0, .int .i64 0, .int .i64 0, .slice none 0 0] 34)) rfl ?_ (hK _ _ (post_new (belA (Below.refl _ _) _) ⟨W.heap.size, if_pos rfl, heap_alloc_new W _, Nat.le_refl _, by simp⟩))
                · clear hfor huse hap hmi hK hF
                  generalize a.eval = ρ at *
                  go_simp
              · intro a W own hfor huse hap hmi hF K hK
                obtain ⟨g, e10, hb, hSg⟩ := (huse 16 (by kernel_rfl) : onBox 10 #[.int .i64 0, .int .i64 0, .slice none 0 0, .int .i64 0, .int .i64 0, .slice none 0 0] 34 (slotsOf a) (own 16) W)
                have e10 : a.eval (.tmp 10) = .pointer (some ⟨g, 0, none⟩) := e10
                have e51 : a.eval (.tmp 51) = .agg #[.int .i64 y0, .int .i64 y1, .slice A3 top.length n3, .int .i64 (numD b 3), .int .i64 y2, .slice none 0 0] := huse 15 (by kernel_rfl)
                refine step_store (cs := [.int .i64 y0, .int .i64 y1, .slice A3 top.length n3, .int .i64 (numD b 3), .int .i64 y2, .slice none 0 0]) rfl 34 (.tmp 10) (.tmp 51) rfl e10 e51 hb (by kernel_rfl) rfl (by simp [Value.oneCell']) (fun w1 hb1 hF1 => hK _ _ ⟨fun k => own 16 k, Foot.mono hF1 (fun k e => ⟨16, by decide, e ▸ hSg⟩), ⟨g, e10, hb1, hSg⟩, fun k h => .inl ⟨16, by decide, h⟩⟩)
              intro a' W own hf
              have s1 := hf.st.size
              have s2 := hf.st.rest
              have s3 := fun t ht => hf.st.kept t ht
              revert hf
              revert a'
              refine lay_intro (df := []) [true, true, true, true, true, true, true, true, true, true, false, true, true, true, true, true, true, true, true, true, true, true, true, true, true, true, true, true, true, true, true, true, true, true, true, true, false, false, false, false, false, false, false, false, false, false, false, false, false, false, false, false, true, true, true, true, true, true, true, true, true, true, true, true, true, true, true, true, true, true, true, true, true, true, true, true, true, true, true, true] (by kernel_rfl) rfl ?_
              intro x51 x50 x49 x48 x47 x46 x45 x44 x43 x42 x41 x40 x39 x38 x37 x36 x10 hf
              obtain ⟨g, hx10, hbg, hgo⟩ := hf.at 17 (onBox 10 #[.int .i64 y0, .int .i64 y1, .slice A3 top.length n3, .int .i64 (numD b 3), .int .i64 y2, .slice none 0 0] 34) rfl (by kernel_rfl)
              have hx10 : x10 = .pointer (some ⟨g, 0, none⟩) := hx10
              subst hx10
              have HG : Sec (w3.heap.size ≤ g ∧ g < W.heap.size) := ⟨by have := hf.st.mine 17 g hgo; exact ⟨this.1.elim (fun h => by simpa using h) (fun h => h.elim), this.2⟩⟩
              have B4' : Below w3.heap.size w3 W := hf.st.foot.below (belD (Below.refl _ _)) (fun k h => h.elim)
              have B4 := Sec.mk (bel B3.out B4')
              have R4 := Sec.mk (Kd.R_below R3.out B4')
              have V4 := Sec.mk (Kd.V_below V3.out B4' (by decide))
              have X4 := Sec.mk hbg
              have T4 : Sec True := ⟨trivial⟩
              clear hf hbg hgo B4' P0 P1 P2 T3
              generalize W = w4 at *
              have hq := box_at X4.out
              have q0 : w4.cell? ⟨g, 0, none⟩ = some (.int .i64 y0) := hq.2.1 0 _ rfl
              have f0 := hq.2.2 0
              have q1 : w4.cell? ⟨g, 1, none⟩ = some (.int .i64 y1) := hq.2.1 1 _ rfl
              have f1 := hq.2.2 1
              have q2 : w4.cell? ⟨g, 2, none⟩ = some (.slice A3 top.length n3) := hq.2.1 2 _ rfl
              have f2 := hq.2.2 2
              have q3 : w4.cell? ⟨g, 3, none⟩ = some (.int .i64 (numD b 3)) := hq.2.1 3 _ rfl
              have f3 := hq.2.2 3
              have q4 : w4.cell? ⟨g, 4, none⟩ = some (.int .i64 y2) := hq.2.1 4 _ rfl
              have f4 := hq.2.2 4
              have q5 : w4.cell? ⟨g, 5, none⟩ = some (.slice none 0 0) := hq.2.1 5 _ rfl
              have f5 := hq.2.2 5
              clear hq
              have hO := msg_O (kd := y0) (fr := y1) (n := numD b 3) (st := y2) (t := []) R4.out (Kd.R_nil kCell w4 (fun _ => False)) (fun k h1 h2 => h2)
              rw [← HM.out] at hO
              have O6 : Sec (kMsg.O w4 (fun k => w2.heap.size ≤ k ∧ k < w4.heap.size) m [.int .i64 y0, .int .i64 y1, .slice A3 top.length n3, .int .i64 (numD b 3), .int .i64 y2, .slice none 0 0]) := ⟨kMsg.O_mono hO (fun k h h2 => h.elim (fun h => ⟨h.1, h2⟩) False.elim)⟩
              clear hO
              go_wp2_with (first | (with_reducible show wpList _ _ _ (⟨none, .store 34 (.tmp 2) (.tmp 78), _, _, _, _⟩ :: _) _ _; refine wpList_store (cs := [.int .i64 0, .int .i64 0, .slice none 0 0, .int .i64 0, .int .i64 0, .slice none 0 0]) (old := #[.int .i64 0, .int .i64 0, .slice none 0 0, .int .i64 0, .int .i64 0, .slice none 0 0]) rfl 34 (.tmp 2) (.tmp 78) rfl rfl rfl (HR0.out _ B9.out) (by kernel_rfl) rfl (by simp [Value.oneCell']) ?_; intro w12 hb12 hF12; have X12 := Sec.mk hb12; have F12 := Sec.mk hF12; clear hb12 hF12) | (clear T4; go_at_call 20; have U1 : Sec True := ⟨trivial⟩; refine (MsgOk_c m [.int .i64 y0, .int .i64 y1, .slice A3 top.length n3, .int .i64 (numD b 3), .int .i64 y2, .slice none 0 0] _ _ (kMsg.O_K O6.out)).mono ?_; rw [HOM.out]; rintro e w9 ⟨rfl, hb⟩; have O9 := Sec.mk (kMsg.O_below O6.out hb); have X9 := Sec.mk (carryB hb X4.out); have B9 := Sec.mk (bel B4.out hb); clear q0 f0 q1 f1 q2 f2 q3 f3 q4 f4 q5 f5; have hq := box_at X9.out; have q0 : w9.cell? ⟨g, 0, none⟩ = some (.int .i64 y0) := hq.2.1 0 _ rfl; have f0 := hq.2.2 0; have q1 : w9.cell? ⟨g, 1, none⟩ = some (.int .i64 y1) := hq.2.1 1 _ rfl; have f1 := hq.2.2 1; have q2 : w9.cell? ⟨g, 2, none⟩ = some (.slice A3 top.length n3) := hq.2.1 2 _ rfl; have f2 := hq.2.2 2; have q3 : w9.cell? ⟨g, 3, none⟩ = some (.int .i64 (numD b 3)) := hq.2.1 3 _ rfl; have f3 := hq.2.2 3; have q4 : w9.cell? ⟨g, 4, none⟩ = some (.int .i64 y2) := hq.2.1 4 _ rfl; have f4 := hq.2.2 4; have q5 : w9.cell? ⟨g, 5, none⟩ = some (.slice none 0 0) := hq.2.1 5 _ rfl; have f5 := hq.2.2 5; clear hq; clear hb))
              exact bodyPost_ret (res_cell2 rfl rfl rfl X12.out hu2 rfl (by kernel_rfl)) rfl ⟨_, by rw [HE.out]; rfl, by rw [HE.out]; exact kMsg.O_mono (kMsg_zero _) (fun k h _ => h.elim), F12.out.below (BB.out _ B9.out) (fun k h => Nat.le_of_eq (show k = w.heap.size from h).symm)⟩
            | true =>
              have HE : Sec (readD bs = some m) := ⟨by rw [HRF.out]; unfold finD; rw [if_pos ⟨HEE.out, hom⟩]⟩
              have HOM := Sec.mk hom
              clear hom
              go_enter Tryz.func14, Tryz.ntmps14
              go_wp2_with (first | (clear T2; go_at_call 37; have T3 : Sec True := ⟨trivial⟩; refine (l6Term_c _ b _ 6 (by omega) HN6.out _ V2.out).mono ?_; rw [HT6.out]; rintro e w3 ⟨u3, he, hR, hb⟩; have he' : e = .returned (.tuple #[u3, .int .i64 (e1 : Int)]) := he; subst he'; replace hR : kCell.R w3 (fun k => w2.heap.size ≤ k) u3 top := hR; have R3 : Sec (kCell.R w3 (fun k => w2.heap.size ≤ k ∧ k < w3.heap.size) u3 top) := ⟨Kd.R_mono hR (fun k h1 h2 => ⟨h1, h2⟩)⟩; obtain ⟨A3, n3, rfl, -, -⟩ := Kd.R_form hR; have V3 := Sec.mk (Kd.V_below V2.out hb (by decide)); have B3 := Sec.mk (bel B2.out hb); have Z3 := Sec.mk hb.size; clear hb hR he) | (clear T1; go_at_call 36; have T2 : Sec True := ⟨trivial⟩; refine (l6Num_c _ b _ 3 (by omega) _ V1.out).mono ?_; rintro e w2 ⟨rfl, hb⟩; have V2 := Sec.mk (Kd.V_below V1.out hb (by decide)); have B2 := Sec.mk (bel B1.out hb); clear hb) | (clear T0; go_at_call 35; have T1 : Sec True := ⟨trivial⟩; refine (l6Body_c _ bs _ _ hl HV.out).mono ?_; rw [HBD.out]; rintro e w1 ⟨u1, he, hq, hb⟩; have he' : e = .returned (.tuple #[u1, .bool true]) := he; subst he'; have V1 := Sec.mk (hq b rfl); obtain ⟨Ab, cb, rfl, -⟩ := id V1.out; have B1 := Sec.mk hb; clear hb hq he))
              obtain ⟨bb, off, rfl, p0, p1, p2⟩ := HY.out _ _ _ _ V3.out
              have P0 := Sec.mk p0
              have P1 := Sec.mk p1
              have P2 := Sec.mk p2
              clear p0 p1 p2
              refine wp_region_lists [[36], [37], [38], [39], [40], [41], [42], [43], [44], [45], [46], [47], [48], [49], [50], [51], [10], [10]]
                [fun val _ _ => val 36 = .slice (some ⟨bb, off, none⟩) b.length cb,
                  fun val _ _ => val 37 = .pointer (some ⟨bb, off, none⟩),
                  fun val _ _ => val 38 = .int .u8 y0,
                  fun val _ _ => val 39 = .int .i64 y0,
                  fun val _ _ => val 40 = .slice (some ⟨bb, off, none⟩) b.length cb,
                  fun val _ _ => val 41 = .pointer (some ⟨bb, off + 1, none⟩),
                  fun val _ _ => val 42 = .int .u8 y1,
                  fun val _ _ => val 43 = .int .i64 y1,
                  fun val _ _ => val 44 = .slice A3 top.length n3,
                  fun val _ _ => val 45 = .int .i64 (numD b 3),
                  fun val _ _ => val 46 = .slice (some ⟨bb, off, none⟩) b.length cb,
                  fun val _ _ => val 47 = .pointer (some ⟨bb, off + 2, none⟩),
                  fun val _ _ => val 48 = .int .u8 y2,
                  fun val _ _ => val 49 = .int .i64 y2,
                  fun val _ _ => val 50 = .agg #[.int .i64 y2, .slice none 0 0],
                  fun val _ _ => val 51 = .agg #[.int .i64 y0, .int .i64 y1, .slice A3 top.length n3, .int .i64 (numD b 3), .int .i64 y2, .slice none 0 0],
                  onBox 10 #[.int .i64 0, .int .i64 0, .slice none 0 0, .int .i64 0, .int .i64 0, .slice none 0 0] 34,
                  onBox 10 #[.int .i64 y0, .int .i64 y1, .slice A3 top.length n3, .int .i64 (numD b 3), .int .i64 y2, .slice none 0 0] 34]
                [[], [], [], [], [], [], [], [], [], [], [], [], [], [], [], [], [], [16]] 0 (fun _ => False) (fun _ _ => False) (by kernel_rfl) ⟨by kernel_rfl, by kernel_rfl, by kernel_rfl, by kernel_rfl, by kernel_rfl⟩
                (.cons (stab_val 36 (fun v => v = .slice (some ⟨bb, off, none⟩) b.length cb)) (.cons (stab_val 37 (fun v => v = .pointer (some ⟨bb, off, none⟩))) (.cons (stab_val 38 (fun v => v = .int .u8 y0)) (.cons (stab_val 39 (fun v => v = .int .i64 y0)) (.cons (stab_val 40 (fun v => v = .slice (some ⟨bb, off, none⟩) b.length cb)) (.cons (stab_val 41 (fun v => v = .pointer (some ⟨bb, off + 1, none⟩))) (.cons (stab_val 42 (fun v => v = .int .u8 y1)) (.cons (stab_val 43 (fun v => v = .int .i64 y1)) (.cons (stab_val 44 (fun v => v = .slice A3 top.length n3)) (.cons (stab_val 45 (fun v => v = .int .i64 (numD b 3))) (.cons (stab_val 46 (fun v => v = .slice (some ⟨bb, off, none⟩) b.length cb)) (.cons (stab_val 47 (fun v => v = .pointer (some ⟨bb, off + 2, none⟩))) (.cons (stab_val 48 (fun v => v = .int .u8 y2)) (.cons (stab_val 49 (fun v => v = .int .i64 y2)) (.cons (stab_val 50 (fun v => v = .agg #[.int .i64 y2, .slice none 0 0])) (.cons (stab_val 51 (fun v => v = .agg #[.int .i64 y0, .int .i64 y1, .slice A3 top.length n3, .int .i64 (numD b 3), .int .i64 y2, .slice none 0 0])) (.cons (stab_box 10 #[.int .i64 0, .int .i64 0, .slice none 0 0, .int .i64 0, .int .i64 0, .slice none 0 0] 34) (.cons (stab_box 10 #[.int .i64 y0, .int .i64 y1, .slice A3 top.length n3, .int .i64 (numD b 3), .int .i64 y2, .slice none 0 0] 34) .nil))))))))))))))))))
                (fun i j k h1 h2 => h1.elim) (fun i k h => h.elim) (fun i h1 h2 => by simp at h1 h2; omega) (.cons ?_ (.cons ?_ (.cons ?_ (.cons ?_ (.cons ?_ (.cons ?_ (.cons ?_ (.cons ?_ (.cons ?_ (.cons ?_ (.cons ?_ (.cons ?_ (.cons ?_ (.cons ?_ (.cons ?_ (.cons ?_ (.cons ?_ (.cons ?_ .nil)))))))))))))))))) ?_
              · intro a W own hfor huse hap hmi hF K hK
                have e4 : a.eval (.tmp 4) = .slice (some ⟨bb, off, none⟩) b.length cb := hfor 4 (by kernel_rfl)
                refine op_val (.slice (some ⟨bb, off, none⟩) b.length cb) W rfl ?_ (hK _ _ (post_pure ?_))
                · clear hfor huse hap hmi hK hF
                  generalize a.eval = ρ at *
                  go_simp
                · exact (if_pos rfl)
              · intro a W own hfor huse hap hmi hF K hK
                have e36 : a.eval (.tmp 36) = .slice (some ⟨bb, off, none⟩) b.length cb := huse 0 (by kernel_rfl)
                have ec0 : a.eval (.const (.int .i64 0)) = .int .i64 0 := rfl
                refine op_val (.pointer (some ⟨bb, off, none⟩)) W rfl ?_ (hK _ _ (post_pure ?_))
                · clear hfor huse hap hmi hK hF
                  generalize a.eval = ρ at *
                  go_simp
                · exact (if_pos rfl)
              · intro a W own hfor huse hap hmi hF K hK
                have e37 : a.eval (.tmp 37) = .pointer (some ⟨bb, off, none⟩) := huse 1 (by kernel_rfl)
                have x0 := foot_cell hF (fun h => h) P0.out
                refine op_val (.int .u8 y0) W rfl ?_ (hK _ _ (post_pure ?_))
                · clear hfor huse hap hmi hK hF
                  generalize a.eval = ρ at *
                  go_simp
                · exact (if_pos rfl)
              · intro a W own hfor huse hap hmi hF K hK
                have e38 : a.eval (.tmp 38) = .int .u8 y0 := huse 2 (by kernel_rfl)
                have wy : IntKind.i64.wrap (y0 : Int) = (y0 : Int) := wrapIn _ (by omega) (by omega)
                refine op_val (.int .i64 y0) W rfl ?_ (hK _ _ (post_pure ?_))
                · clear hfor huse hap hmi hK hF
                  generalize a.eval = ρ at *
                  go_simp
                · exact (if_pos rfl)
              · intro a W own hfor huse hap hmi hF K hK
                have e4 : a.eval (.tmp 4) = .slice (some ⟨bb, off, none⟩) b.length cb := hfor 4 (by kernel_rfl)
                refine op_val (.slice (some ⟨bb, off, none⟩) b.length cb) W rfl ?_ (hK _ _ (post_pure ?_))
                · clear hfor huse hap hmi hK hF
                  generalize a.eval = ρ at *
                  go_simp
                · exact (if_pos rfl)
              · intro a W own hfor huse hap hmi hF K hK
                have e40 : a.eval (.tmp 40) = .slice (some ⟨bb, off, none⟩) b.length cb := huse 4 (by kernel_rfl)
                have ec0 : a.eval (.const (.int .i64 1)) = .int .i64 1 := rfl
                have ib : ¬ ((b.length : Int) ≤ 1) := by omega
                refine op_val (.pointer (some ⟨bb, off + 1, none⟩)) W rfl ?_ (hK _ _ (post_pure ?_))
                · clear hfor huse hap hmi hK hF
                  generalize a.eval = ρ at *
                  go_simp
                · exact (if_pos rfl)
              · intro a W own hfor huse hap hmi hF K hK
                have e41 : a.eval (.tmp 41) = .pointer (some ⟨bb, off + 1, none⟩) := huse 5 (by kernel_rfl)
                have x1 := foot_cell hF (fun h => h) P1.out
                refine op_val (.int .u8 y1) W rfl ?_ (hK _ _ (post_pure ?_))
                · clear hfor huse hap hmi hK hF
                  generalize a.eval = ρ at *
                  go_simp
                · exact (if_pos rfl)
              · intro a W own hfor huse hap hmi hF K hK
                have e42 : a.eval (.tmp 42) = .int .u8 y1 := huse 6 (by kernel_rfl)
                have wy : IntKind.i64.wrap (y1 : Int) = (y1 : Int) := wrapIn _ (by omega) (by omega)
                refine op_val (.int .i64 y1) W rfl ?_ (hK _ _ (post_pure ?_))
                · clear hfor huse hap hmi hK hF
                  generalize a.eval = ρ at *
                  go_simp
                · exact (if_pos rfl)
              · intro a W own hfor huse hap hmi hF K hK
                have e8 : a.eval (.tmp 8) = .slice A3 top.length n3 := hfor 8 (by kernel_rfl)
                refine op_val (.slice A3 top.length n3) W rfl ?_ (hK _ _ (post_pure ?_))
                · clear hfor huse hap hmi hK hF
                  generalize a.eval = ρ at *
                  go_simp
                · exact (if_pos rfl)
              · intro a W own hfor huse hap hmi hF K hK
                have e6 : a.eval (.tmp 6) = .int .i64 (numD b 3) := hfor 6 (by kernel_rfl)
                refine op_val (.int .i64 (numD b 3)) W rfl ?_ (hK _ _ (post_pure ?_))
                · clear hfor huse hap hmi hK hF
                  generalize a.eval = ρ at *
                  go_simp
                · exact (if_pos rfl)
              · intro a W own hfor huse hap hmi hF K hK
                have e4 : a.eval (.tmp 4) = .slice (some ⟨bb, off, none⟩) b.length cb := hfor 4 (by kernel_rfl)
                refine op_val (.slice (some ⟨bb, off, none⟩) b.length cb) W rfl ?_ (hK _ _ (post_pure ?_))
                · clear hfor huse hap hmi hK hF
                  generalize a.eval = ρ at *
                  go_simp
                · exact (if_pos rfl)
              · intro a W own hfor huse hap hmi hF K hK
                have e46 : a.eval (.tmp 46) = .slice (some ⟨bb, off, none⟩) b.length cb := huse 10 (by kernel_rfl)
                have ec0 : a.eval (.const (.int .i64 2)) = .int .i64 2 := rfl
                have ib : ¬ ((b.length : Int) ≤ 2) := by omega
                refine op_val (.pointer (some ⟨bb, off + 2, none⟩)) W rfl ?_ (hK _ _ (post_pure ?_))
                · clear hfor huse hap hmi hK hF
                  generalize a.eval = ρ at *
                  go_simp
                · exact (if_pos rfl)
              · intro a W own hfor huse hap hmi hF K hK
                have e47 : a.eval (.tmp 47) = .pointer (some ⟨bb, off + 2, none⟩) := huse 11 (by kernel_rfl)
                have x2 := foot_cell hF (fun h => h) P2.out
                refine op_val (.int .u8 y2) W rfl ?_ (hK _ _ (post_pure ?_))
                · clear hfor huse hap hmi hK hF
                  generalize a.eval = ρ at *
                  go_simp
                · exact (if_pos rfl)
              · intro a W own hfor huse hap hmi hF K hK
                have e48 : a.eval (.tmp 48) = .int .u8 y2 := huse 12 (by kernel_rfl)
                have wy : IntKind.i64.wrap (y2 : Int) = (y2 : Int) := wrapIn _ (by omega) (by omega)
                refine op_val (.int .i64 y2) W rfl ?_ (hK _ _ (post_pure ?_))
                · clear hfor huse hap hmi hK hF
                  generalize a.eval = ρ at *
                  go_simp
                · exact (if_pos rfl)
              · intro a W own hfor huse hap hmi hF K hK
                have e49 : a.eval (.tmp 49) = .int .i64 y2 := huse 13 (by kernel_rfl)
                refine op_val (.agg #[.int .i64 y2, .slice none 0 0]) W rfl ?_ (hK _ _ (post_pure ?_))
                · clear hfor huse hap hmi hK hF
                  generalize a.eval = ρ at *
                  go_simp
                · exact (if_pos rfl)
              · intro a W own hfor huse hap hmi hF K hK
                have e39 : a.eval (.tmp 39) = .int .i64 y0 := huse 3 (by kernel_rfl)
                have e43 : a.eval (.tmp 43) = .int .i64 y1 := huse 7 (by kernel_rfl)
                have e44 : a.eval (.tmp 44) = .slice A3 top.length n3 := huse 8 (by kernel_rfl)
                have e45 : a.eval (.tmp 45) = .int .i64 (numD b 3) := huse 9 (by kernel_rfl)
                have e50 : a.eval (.tmp 50) = .agg #[.int .i64 y2, .slice none 0 0] := huse 14 (by kernel_rfl)
                refine op_val (.agg #[.int .i64 y0, .int .i64 y1, .slice A3 top.length n3, .int .i64 (numD b 3), .int .i64 y2, .slice none 0 0]) W rfl ?_ (hK _ _ (post_pure ?_))
                · clear hfor huse hap hmi hK hF
                  generalize a.eval = ρ at *
                  go_simp
                · exact (if_pos rfl)
              · intro a W own hfor huse hap hmi hF K hK
                refine op_val (.pointer (some ⟨W.heap.size, 0, none⟩)) (W.alloc (.cells #[.int .i64 0, .int .i64 0, .slice none 0 0, .int .i64 0, .int .i64 0, .slice none 0 0] 34)) rfl ?_ (hK _ _ (post_new (belA (Below.refl _ _) _) ⟨W.heap.size, if_pos rfl, heap_alloc_new W _, Nat.le_refl _, by simp⟩))
                · clear hfor huse hap hmi hK hF
                  generalize a.eval = ρ at *
                  go_simp
              · intro a W own hfor huse hap hmi hF K hK
                obtain ⟨g, e10, hb, hSg⟩ := (huse 16 (by kernel_rfl) : onBox 10 #[.int .i64 0, .int .i64 0, .slice none 0 0, .int .i64 0, .int .i64 0, .slice none 0 0] 34 (slotsOf a) (own 16) W)
                have e10 : a.eval (.tmp 10) = .pointer (some ⟨g, 0, none⟩) := e10
                have e51 : a.eval (.tmp 51) = .agg #[.int .i64 y0, .int .i64 y1, .slice A3 top.length n3, .int .i64 (numD b 3), .int .i64 y2, .slice none 0 0] := huse 15 (by kernel_rfl)
                refine step_store (cs := [.int .i64 y0, .int .i64 y1, .slice A3 top.length n3, .int .i64 (numD b 3), .int .i64 y2, .slice none 0 0]) rfl 34 (.tmp 10) (.tmp 51) rfl e10 e51 hb (by kernel_rfl) rfl (by simp [Value.oneCell']) (fun w1 hb1 hF1 => hK _ _ ⟨fun k => own 16 k, Foot.mono hF1 (fun k e => ⟨16, by decide, e ▸ hSg⟩), ⟨g, e10, hb1, hSg⟩, fun k h => .inl ⟨16, by decide, h⟩⟩)
              intro a' W own hf
              have s1 := hf.st.size
              have s2 := hf.st.rest
              have s3 := fun t ht => hf.st.kept t ht
              revert hf
              revert a'
              refine lay_intro (df := []) [true, true, true, true, true, true, true, true, true, true, false, true, true, true, true, true, true, true, true, true, true, true, true, true, true, true, true, true, true, true, true, true, true, true, true, true, false, false, false, false, false, false, false, false, false, false, false, false, false, false, false, false, true, true, true, true, true, true, true, true, true, true, true, true, true, true, true, true, true, true, true, true, true, true, true, true, true, true, true, true] (by kernel_rfl) rfl ?_
              intro x51 x50 x49 x48 x47 x46 x45 x44 x43 x42 x41 x40 x39 x38 x37 x36 x10 hf
              obtain ⟨g, hx10, hbg, hgo⟩ := hf.at 17 (onBox 10 #[.int .i64 y0, .int .i64 y1, .slice A3 top.length n3, .int .i64 (numD b 3), .int .i64 y2, .slice none 0 0] 34) rfl (by kernel_rfl)
              have hx10 : x10 = .pointer (some ⟨g, 0, none⟩) := hx10
              subst hx10
              have HG : Sec (w3.heap.size ≤ g ∧ g < W.heap.size) := ⟨by have := hf.st.mine 17 g hgo; exact ⟨this.1.elim (fun h => by simpa using h) (fun h => h.elim), this.2⟩⟩
              have B4' : Below w3.heap.size w3 W := hf.st.foot.below (belD (Below.refl _ _)) (fun k h => h.elim)
              have B4 := Sec.mk (bel B3.out B4')
              have R4 := Sec.mk (Kd.R_below R3.out B4')
              have V4 := Sec.mk (Kd.V_below V3.out B4' (by decide))
              have X4 := Sec.mk hbg
              have T4 : Sec True := ⟨trivial⟩
              clear hf hbg hgo B4' P0 P1 P2 T3
              generalize W = w4 at *
              have hq := box_at X4.out
              have q0 : w4.cell? ⟨g, 0, none⟩ = some (.int .i64 y0) := hq.2.1 0 _ rfl
              have f0 := hq.2.2 0
              have q1 : w4.cell? ⟨g, 1, none⟩ = some (.int .i64 y1) := hq.2.1 1 _ rfl
              have f1 := hq.2.2 1
              have q2 : w4.cell? ⟨g, 2, none⟩ = some (.slice A3 top.length n3) := hq.2.1 2 _ rfl
              have f2 := hq.2.2 2
              have q3 : w4.cell? ⟨g, 3, none⟩ = some (.int .i64 (numD b 3)) := hq.2.1 3 _ rfl
              have f3 := hq.2.2 3
              have q4 : w4.cell? ⟨g, 4, none⟩ = some (.int .i64 y2) := hq.2.1 4 _ rfl
              have f4 := hq.2.2 4
              have q5 : w4.cell? ⟨g, 5, none⟩ = some (.slice none 0 0) := hq.2.1 5 _ rfl
              have f5 := hq.2.2 5
              clear hq
              have hO := msg_O (kd := y0) (fr := y1) (n := numD b 3) (st := y2) (t := []) R4.out (Kd.R_nil kCell w4 (fun _ => False)) (fun k h1 h2 => h2)
              rw [← HM.out] at hO
              have O6 : Sec (kMsg.O w4 (fun k => w2.heap.size ≤ k ∧ k < w4.heap.size) m [.int .i64 y0, .int .i64 y1, .slice A3 top.length n3, .int .i64 (numD b 3), .int .i64 y2, .slice none 0 0]) := ⟨kMsg.O_mono hO (fun k h h2 => h.elim (fun h => ⟨h.1, h2⟩) False.elim)⟩
              clear hO
              go_wp2_with (first | (with_reducible show wpList _ _ _ (⟨none, .store 34 (.tmp 2) (.tmp 79), _, _, _, _⟩ :: _) _ _; refine wpList_store (cs := [.int .i64 y0, .int .i64 y1, .slice A3 top.length n3, .int .i64 (numD b 3), .int .i64 y2, .slice none 0 0]) (old := #[.int .i64 0, .int .i64 0, .slice none 0 0, .int .i64 0, .int .i64 0, .slice none 0 0]) rfl 34 (.tmp 2) (.tmp 79) rfl rfl rfl (HR0.out _ B9.out) (by kernel_rfl) rfl (kMsg.K_one (kMsg.O_K O9.out)) ?_; intro w12 hb12 hF12; have X12 := Sec.mk hb12; have F12 := Sec.mk hF12; clear hb12 hF12) | (clear T4; go_at_call 20; have U1 : Sec True := ⟨trivial⟩; refine (MsgOk_c m [.int .i64 y0, .int .i64 y1, .slice A3 top.length n3, .int .i64 (numD b 3), .int .i64 y2, .slice none 0 0] _ _ (kMsg.O_K O6.out)).mono ?_; rw [HOM.out]; rintro e w9 ⟨rfl, hb⟩; have O9 := Sec.mk (kMsg.O_below O6.out hb); have X9 := Sec.mk (carryB hb X4.out); have B9 := Sec.mk (bel B4.out hb); clear q0 f0 q1 f1 q2 f2 q3 f3 q4 f4 q5 f5; have hq := box_at X9.out; have q0 : w9.cell? ⟨g, 0, none⟩ = some (.int .i64 y0) := hq.2.1 0 _ rfl; have f0 := hq.2.2 0; have q1 : w9.cell? ⟨g, 1, none⟩ = some (.int .i64 y1) := hq.2.1 1 _ rfl; have f1 := hq.2.2 1; have q2 : w9.cell? ⟨g, 2, none⟩ = some (.slice A3 top.length n3) := hq.2.1 2 _ rfl; have f2 := hq.2.2 2; have q3 : w9.cell? ⟨g, 3, none⟩ = some (.int .i64 (numD b 3)) := hq.2.1 3 _ rfl; have f3 := hq.2.2 3; have q4 : w9.cell? ⟨g, 4, none⟩ = some (.int .i64 y2) := hq.2.1 4 _ rfl; have f4 := hq.2.2 4; have q5 : w9.cell? ⟨g, 5, none⟩ = some (.slice none 0 0) := hq.2.1 5 _ rfl; have f5 := hq.2.2 5; clear hq; clear hb))
              exact bodyPost_ret (res_cell2 rfl rfl rfl X12.out hu2 rfl (by kernel_rfl)) rfl ⟨_, by rw [HE.out]; rfl, by rw [HE.out]; exact kMsg.O_mono (F12.out.O O9.out (fun k h1 h2 => by have := HZ.out; have := B2.out.size; omega)) (fun k h _ => by have := HZ.out; have := B2.out.size; omega), F12.out.below (BB.out _ B9.out) (fun k h => Nat.le_of_eq (show k = w.heap.size from h).symm)⟩
end
end Go.Proofs.YteflipoiiddkfaaGreatDoor
