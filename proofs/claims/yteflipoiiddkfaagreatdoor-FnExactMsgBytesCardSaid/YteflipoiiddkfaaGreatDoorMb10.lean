/- MsgBytes of both sides: a message's bytes; and what goes with it. -/
import Derived.Test.YteflipoiiddkfaaGreatDoorMb3
import Derived.Test.YteflipoiiddkfaaGreatDoorMb9
namespace Go.Proofs.YteflipoiiddkfaaGreatDoor
section
open Go.RowKit
set_option linter.unusedVariables false
set_option maxRecDepth 100000
/-- A message's bytes. -/
def msgBody (m : Msg) : List UInt8 := [u8 m.kind, u8 m.from_, u8 m.out.status] ++ num3 m.n ++ trmBytes m.top ++ (if m.out.status = 2 then trmBytes m.out.term else [])
noncomputable def msgBytes (m : Msg) : List UInt8 := if msgOk m = true then frameB (msgBody m) else []
theorem msgOk_n {m : Msg} (h : msgOk m = true) : 1 ≤ m.n ∧ m.n ≤ 12000 := by
  unfold msgOk at h
  rw [Bool.and_eq_true, Bool.and_eq_true] at h
  have := h.2.1
  simpa [inB] using this
theorem msgBody_len (m : Msg) : (msgBody m).length ≤ 1206 := by
  unfold msgBody
  have h1 := trmBytes_len m.top
  have h2 := trmBytes_len m.out.term
  have h3 : (num3 m.n).length = 3 := rfl
  split <;> simp only [List.length_append, h3, List.length_cons, List.length_nil] <;> omega
set_option maxHeartbeats 4000000 in
theorem MsgBytes_i (m : Msg) (cs : List Value) (ok : Nat → Prop) (w : World) (hK : kMsg.K w ok m cs) :
    Calls Tryz.prog 8 #[.agg cs.toArray] w (TBq w (msgBytes m)) := by
  obtain ⟨v2, v5, rfl, hV0, hT0⟩ := kMsg_K hK
  have hV : kCell.V w (fun k => k < w.heap.size) v2 m.top := Kd.V_move (fun k _ hl => ⟨hl, rfl⟩) hV0 (by decide)
  have hT : kCell.V w (fun k => k < w.heap.size) v5 m.out.term := Kd.V_move (fun k _ hl => ⟨hl, rfl⟩) hT0 (by decide)
  obtain ⟨A2, c2, rfl, -⟩ := id hV
  obtain ⟨A5, c5, rfl, -⟩ := id hT
  clear hV0 hT0
  have b0 : Below w.heap.size w (w.alloc (.cells #[.int .i64 m.kind, .int .i64 m.from_, .slice A2 m.top.length c2, .int .i64 m.n, .int .i64 m.out.status, .slice A5 m.out.term.length c5] 34)) := belA (Below.refl _ _) _
  have HP : Sec (∀ W, Below (w.alloc (.cells #[.int .i64 m.kind, .int .i64 m.from_, .slice A2 m.top.length c2, .int .i64 m.n, .int .i64 m.out.status, .slice A5 m.out.term.length c5] 34)).heap.size (w.alloc (.cells #[.int .i64 m.kind, .int .i64 m.from_, .slice A2 m.top.length c2, .int .i64 m.n, .int .i64 m.out.status, .slice A5 m.out.term.length c5] 34)) W → W.cell? ⟨w.heap.size, 0, none⟩ = some (.int .i64 m.kind) ∧ W.cell? ⟨w.heap.size, 1, none⟩ = some (.int .i64 m.from_) ∧ W.cell? ⟨w.heap.size, 2, none⟩ = some (.slice A2 m.top.length c2) ∧ W.cell? ⟨w.heap.size, 3, none⟩ = some (.int .i64 m.n) ∧ W.cell? ⟨w.heap.size, 4, none⟩ = some (.int .i64 m.out.status) ∧ W.cell? ⟨w.heap.size, 5, none⟩ = some (.slice A5 m.out.term.length c5)) := ⟨fun W h => by
    have X := (box_at ((h.block _ (Array.getElem?_eq_some_iff.1 (heap_alloc_new w (.cells #[.int .i64 m.kind, .int .i64 m.from_, .slice A2 m.top.length c2, .int .i64 m.n, .int .i64 m.out.status, .slice A5 m.out.term.length c5] 34))).1).trans (heap_alloc_new w _))).2.1
    exact ⟨X 0 _ rfl, X 1 _ rfl, X 2 _ rfl, X 3 _ rfl, X 4 _ rfl, X 5 _ rfl⟩⟩
  have HV : Sec (∀ W, Below (w.alloc (.cells #[.int .i64 m.kind, .int .i64 m.from_, .slice A2 m.top.length c2, .int .i64 m.n, .int .i64 m.out.status, .slice A5 m.out.term.length c5] 34)).heap.size (w.alloc (.cells #[.int .i64 m.kind, .int .i64 m.from_, .slice A2 m.top.length c2, .int .i64 m.n, .int .i64 m.out.status, .slice A5 m.out.term.length c5] 34)) W → kCell.V W (fun k => k < w.heap.size) (.slice A2 m.top.length c2) m.top) := ⟨fun W h => Kd.V_below hV (bel b0 h) (by decide)⟩
  have HT : Sec (∀ W, Below (w.alloc (.cells #[.int .i64 m.kind, .int .i64 m.from_, .slice A2 m.top.length c2, .int .i64 m.n, .int .i64 m.out.status, .slice A5 m.out.term.length c5] 34)).heap.size (w.alloc (.cells #[.int .i64 m.kind, .int .i64 m.from_, .slice A2 m.top.length c2, .int .i64 m.n, .int .i64 m.out.status, .slice A5 m.out.term.length c5] 34)) W → kCell.V W (fun k => k < w.heap.size) (.slice A5 m.out.term.length c5) m.out.term) := ⟨fun W h => Kd.V_below hT (bel b0 h) (by decide)⟩
  have HKM : Sec (∀ W, Below (w.alloc (.cells #[.int .i64 m.kind, .int .i64 m.from_, .slice A2 m.top.length c2, .int .i64 m.n, .int .i64 m.out.status, .slice A5 m.out.term.length c5] 34)).heap.size (w.alloc (.cells #[.int .i64 m.kind, .int .i64 m.from_, .slice A2 m.top.length c2, .int .i64 m.n, .int .i64 m.out.status, .slice A5 m.out.term.length c5] 34)) W → kMsg.K W ok m [.int .i64 m.kind, .int .i64 m.from_, .slice A2 m.top.length c2, .int .i64 m.n, .int .i64 m.out.status, .slice A5 m.out.term.length c5]) := ⟨fun W h => Kd.K_below hK (bel b0 h)⟩
  have BB : Sec (∀ W, Below (w.alloc (.cells #[.int .i64 m.kind, .int .i64 m.from_, .slice A2 m.top.length c2, .int .i64 m.n, .int .i64 m.out.status, .slice A5 m.out.term.length c5] 34)).heap.size (w.alloc (.cells #[.int .i64 m.kind, .int .i64 m.from_, .slice A2 m.top.length c2, .int .i64 m.n, .int .i64 m.out.status, .slice A5 m.out.term.length c5] 34)) W → Below w.heap.size w W) := ⟨fun W h => bel b0 h⟩
  have Zb : Sec ((w.alloc (.cells #[.int .i64 m.kind, .int .i64 m.from_, .slice A2 m.top.length c2, .int .i64 m.n, .int .i64 m.out.status, .slice A5 m.out.term.length c5] 34)).heap.size = w.heap.size + 1) := ⟨by simp⟩
  have KN : Sec (∀ W : World, kByte.R (W.alloc (.cells #[.int .u8 (IntKind.u8.wrap m.kind), .int .u8 (IntKind.u8.wrap m.from_), .int .u8 (IntKind.u8.wrap m.out.status)] 5)) (fun k => W.heap.size ≤ k) (.slice (some ⟨W.heap.size, 0, none⟩) 3 3) [u8 m.kind, u8 m.from_, u8 m.out.status]) := ⟨fun W => by
    have hR := kByte_new W W.heap.size (Nat.le_refl _) [m.kind, m.from_, m.out.status] (by simp)
    simp only [List.map_cons, List.map_nil] at hR
    exact hR⟩
  have KS : Sec (∀ W : World, kByte.R (W.alloc (.cells #[.int .u8 (m.kind % 256), .int .u8 (m.from_ % 256), .int .u8 (m.out.status % 256)] 5)) (fun k => W.heap.size ≤ k) (.slice (some ⟨W.heap.size, 0, none⟩) 3 3) [u8 m.kind, u8 m.from_, u8 m.out.status]) := ⟨fun W => by
    have hR := KN.out W
    rw [IntKind.wrap_u8', IntKind.wrap_u8', IntKind.wrap_u8'] at hR
    exact hR⟩
  clear hT hV b0 hK
  cases ho : msgOk m with
  | false =>
    have HE : Sec (msgBytes m = []) := ⟨by unfold msgBytes; rw [ho]; rfl⟩
    have HO := Sec.mk ho
    clear ho
    obtain ⟨p0, p1, p2, p3, p4, p5⟩ := HP.out _ (Below.refl _ _)
    go_enter Tryz.func8, Tryz.ntmps8
    go_wp2_with (go_at_call 26; refine (MsgOk_i m [.int .i64 m.kind, .int .i64 m.from_, .slice A2 m.top.length c2, .int .i64 m.n, .int .i64 m.out.status, .slice A5 m.out.term.length c5] _ _ (HKM.out _ (Below.refl _ _))).mono ?_; rw [HO.out]; rintro e w1 ⟨rfl, hb⟩; have B1 := Sec.mk hb; clear hb)
    go_ret
    refine ⟨_, rfl, ?_, BB.out _ B1.out⟩
    rw [HE.out]
    exact Kd.R_nil _ _ _
  | true =>
    have HO := Sec.mk ho
    have hn := msgOk_n ho
    have hn1 := hn.1
    have hn2 := hn.2
    clear hn
    obtain ⟨b1, hb1⟩ : ∃ b1, Sec ([u8 m.kind, u8 m.from_, u8 m.out.status] ++ num3 m.n = b1) := ⟨_, ⟨rfl⟩⟩
    obtain ⟨b2, hb2⟩ : ∃ b2, Sec (b1 ++ trmBytes m.top = b2) := ⟨_, ⟨rfl⟩⟩
    obtain ⟨b3, hb3⟩ : ∃ b3, Sec (b2 ++ trmBytes m.out.term = b3) := ⟨_, ⟨rfl⟩⟩
    have hl1 : Sec (b1.length = 6) := ⟨by rw [← hb1.out]; rfl⟩
    have hl2 : Sec (b2.length ≤ 606) := ⟨by rw [← hb2.out, List.length_append, hl1.out]; have := trmBytes_len m.top; omega⟩
    have hl3 : Sec (b3.length ≤ 1206) := ⟨by rw [← hb3.out, List.length_append]; have := trmBytes_len m.out.term; have := hl2.out; omega⟩
    cases hs : (m.out.status == 2) with
    | false =>
      have HE : Sec (msgBytes m = frameB b2) := ⟨by unfold msgBytes msgBody; rw [ho, if_pos rfl, if_neg (fun e => by rw [e] at hs; simp at hs), List.append_nil, hb1.out, hb2.out]⟩
      have HB : Sec (b2.length ≤ 1206) := ⟨by have := hl2.out; omega⟩
      obtain ⟨fo, hfo⟩ : ∃ fo, Sec (frameO b2 = fo) := ⟨_, ⟨rfl⟩⟩
      have hlf : Sec (fo.length = b2.length + 2) := ⟨by rw [← hfo.out]; exact frameO_len _⟩
      clear ho
      obtain ⟨p0, p1, p2, p3, p4, p5⟩ := HP.out _ (Below.refl _ _)
      go_enter Tryz.func8, Tryz.ntmps8
      go_wp2_with (go_at_call 26; refine (MsgOk_i m [.int .i64 m.kind, .int .i64 m.from_, .slice A2 m.top.length c2, .int .i64 m.n, .int .i64 m.out.status, .slice A5 m.out.term.length c5] _ _ (HKM.out _ (Below.refl _ _))).mono ?_; rw [HO.out]; rintro e w1 ⟨rfl, hb⟩; have B1 := Sec.mk hb; have T0 : Sec True := ⟨trivial⟩; clear p0 p1 p2 p3 p4 p5; obtain ⟨p0, p1, p2, p3, p4, p5⟩ := HP.out _ hb; clear hb)
      have P0 := Sec.mk p0
      have P1 := Sec.mk p1
      have P3 := Sec.mk p3
      have P4 := Sec.mk p4
      refine wp_region_lists [[8], [9], [10], [11], [12], [13], [14], [15], [16], [17], [18], [19], [20], [21], [22], [3]]
        [fun val _ _ => val 8 = .pointer (some ⟨w.heap.size, 0, none⟩),
          fun val _ _ => val 9 = .int .i64 m.kind,
          fun val _ _ => val 10 = .int .u8 (IntKind.u8.wrap m.kind),
          fun val _ _ => val 11 = .pointer (some ⟨w.heap.size, 1, none⟩),
          fun val _ _ => val 12 = .int .i64 m.from_,
          fun val _ _ => val 13 = .int .u8 (IntKind.u8.wrap m.from_),
          fun val _ _ => val 14 = .pointer (some ⟨w.heap.size, 4, none⟩),
          fun val _ _ => val 15 = .pointer (some ⟨w.heap.size, 4, none⟩),
          fun val _ _ => val 16 = .int .i64 m.out.status,
          fun val _ _ => val 17 = .int .u8 (IntKind.u8.wrap m.out.status),
          onR kByte 18 [u8 m.kind, u8 m.from_, u8 m.out.status],
          fun val _ _ => val 19 = .pointer (some ⟨w.heap.size, 3, none⟩),
          fun val _ _ => val 20 = .int .i64 m.n,
          onR kByte 21 (num3 m.n),
          onR kByte 22 b1,
          onR kByte 3 b1]
        [[], [], [], [], [], [], [], [], [], [], [], [], [], [], [10], [14]] 0 (fun _ => False) (fun _ _ => False) (by kernel_rfl) ⟨by kernel_rfl, by kernel_rfl, by kernel_rfl, by kernel_rfl, by kernel_rfl⟩
        (.cons (stab_val 8 (fun v => v = .pointer (some ⟨w.heap.size, 0, none⟩))) (.cons (stab_val 9 (fun v => v = .int .i64 m.kind)) (.cons (stab_val 10 (fun v => v = .int .u8 (IntKind.u8.wrap m.kind))) (.cons (stab_val 11 (fun v => v = .pointer (some ⟨w.heap.size, 1, none⟩))) (.cons (stab_val 12 (fun v => v = .int .i64 m.from_)) (.cons (stab_val 13 (fun v => v = .int .u8 (IntKind.u8.wrap m.from_))) (.cons (stab_val 14 (fun v => v = .pointer (some ⟨w.heap.size, 4, none⟩))) (.cons (stab_val 15 (fun v => v = .pointer (some ⟨w.heap.size, 4, none⟩))) (.cons (stab_val 16 (fun v => v = .int .i64 m.out.status)) (.cons (stab_val 17 (fun v => v = .int .u8 (IntKind.u8.wrap m.out.status))) (.cons (stab_R kByte 18 [u8 m.kind, u8 m.from_, u8 m.out.status]) (.cons (stab_val 19 (fun v => v = .pointer (some ⟨w.heap.size, 3, none⟩))) (.cons (stab_val 20 (fun v => v = .int .i64 m.n)) (.cons (stab_R kByte 21 (num3 m.n)) (.cons (stab_R kByte 22 b1) (.cons (stab_R kByte 3 b1) .nil))))))))))))))))
        (fun i j k h1 h2 => h1.elim) (fun i k h => h.elim) (fun i h1 h2 => by simp at h1 h2; omega) (.cons ?_ (.cons ?_ (.cons ?_ (.cons ?_ (.cons ?_ (.cons ?_ (.cons ?_ (.cons ?_ (.cons ?_ (.cons ?_ (.cons ?_ (.cons ?_ (.cons ?_ (.cons ?_ (.cons ?_ (.cons ?_ .nil)))))))))))))))) ?_
      · intro a W own hfor huse hap hmi hF K hK
        have e1 : a.eval (.tmp 1) = .pointer (some ⟨w.heap.size, 0, none⟩) := hfor 1 (by kernel_rfl)
        refine op_val (.pointer (some ⟨w.heap.size, 0, none⟩)) W rfl ?_ (hK _ _ (post_pure ?_))
        · clear hfor huse hap hmi hK hF
          generalize a.eval = ρ at *
          go_simp
        · exact (if_pos rfl)
      · intro a W own hfor huse hap hmi hF K hK
        have e8 : a.eval (.tmp 8) = .pointer (some ⟨w.heap.size, 0, none⟩) := huse 0 (by kernel_rfl)
        have c0 := foot_cell hF (fun h => h) P0.out
        refine op_val (.int .i64 m.kind) W rfl ?_ (hK _ _ (post_pure ?_))
        · clear hfor huse hap hmi hK hF
          generalize a.eval = ρ at *
          go_simp
        · exact (if_pos rfl)
      · intro a W own hfor huse hap hmi hF K hK
        have e9 : a.eval (.tmp 9) = .int .i64 m.kind := huse 1 (by kernel_rfl)
        refine op_val (.int .u8 (IntKind.u8.wrap m.kind)) W rfl ?_ (hK _ _ (post_pure ?_))
        · clear hfor huse hap hmi hK hF
          generalize a.eval = ρ at *
          go_simp
        · exact (if_pos rfl)
      · intro a W own hfor huse hap hmi hF K hK
        have e1 : a.eval (.tmp 1) = .pointer (some ⟨w.heap.size, 0, none⟩) := hfor 1 (by kernel_rfl)
        refine op_val (.pointer (some ⟨w.heap.size, 1, none⟩)) W rfl ?_ (hK _ _ (post_pure ?_))
        · clear hfor huse hap hmi hK hF
          generalize a.eval = ρ at *
          go_simp
        · exact (if_pos rfl)
      · intro a W own hfor huse hap hmi hF K hK
        have e11 : a.eval (.tmp 11) = .pointer (some ⟨w.heap.size, 1, none⟩) := huse 3 (by kernel_rfl)
        have c1 := foot_cell hF (fun h => h) P1.out
        refine op_val (.int .i64 m.from_) W rfl ?_ (hK _ _ (post_pure ?_))
        · clear hfor huse hap hmi hK hF
          generalize a.eval = ρ at *
          go_simp
        · exact (if_pos rfl)
      · intro a W own hfor huse hap hmi hF K hK
        have e12 : a.eval (.tmp 12) = .int .i64 m.from_ := huse 4 (by kernel_rfl)
        refine op_val (.int .u8 (IntKind.u8.wrap m.from_)) W rfl ?_ (hK _ _ (post_pure ?_))
        · clear hfor huse hap hmi hK hF
          generalize a.eval = ρ at *
          go_simp
        · exact (if_pos rfl)
      · intro a W own hfor huse hap hmi hF K hK
        have e1 : a.eval (.tmp 1) = .pointer (some ⟨w.heap.size, 0, none⟩) := hfor 1 (by kernel_rfl)
        refine op_val (.pointer (some ⟨w.heap.size, 4, none⟩)) W rfl ?_ (hK _ _ (post_pure ?_))
        · clear hfor huse hap hmi hK hF
          generalize a.eval = ρ at *
          go_simp
        · exact (if_pos rfl)
      · intro a W own hfor huse hap hmi hF K hK
        have e14 : a.eval (.tmp 14) = .pointer (some ⟨w.heap.size, 4, none⟩) := huse 6 (by kernel_rfl)
        refine op_val (.pointer (some ⟨w.heap.size, 4, none⟩)) W rfl ?_ (hK _ _ (post_pure ?_))
        · clear hfor huse hap hmi hK hF
          generalize a.eval = ρ at *
          go_simp
        · exact (if_pos rfl)
      · intro a W own hfor huse hap hmi hF K hK
        have e15 : a.eval (.tmp 15) = .pointer (some ⟨w.heap.size, 4, none⟩) := huse 7 (by kernel_rfl)
        have c4 := foot_cell hF (fun h => h) P4.out
        refine op_val (.int .i64 m.out.status) W rfl ?_ (hK _ _ (post_pure ?_))
        · clear hfor huse hap hmi hK hF
          generalize a.eval = ρ at *
          go_simp
        · exact (if_pos rfl)
      · intro a W own hfor huse hap hmi hF K hK
        have e16 : a.eval (.tmp 16) = .int .i64 m.out.status := huse 8 (by kernel_rfl)
        refine op_val (.int .u8 (IntKind.u8.wrap m.out.status)) W rfl ?_ (hK _ _ (post_pure ?_))
        · clear hfor huse hap hmi hK hF
          generalize a.eval = ρ at *
          go_simp
        · exact (if_pos rfl)
      · intro a W own hfor huse hap hmi hF K hK
        have e10 : a.eval (.tmp 10) = .int .u8 (IntKind.u8.wrap m.kind) := huse 2 (by kernel_rfl)
        have e13 : a.eval (.tmp 13) = .int .u8 (IntKind.u8.wrap m.from_) := huse 5 (by kernel_rfl)
        have e17 : a.eval (.tmp 17) = .int .u8 (IntKind.u8.wrap m.out.status) := huse 9 (by kernel_rfl)
        refine op_val (.slice (some ⟨W.heap.size, 0, none⟩) 3 3) (W.alloc (.cells #[.int .u8 (IntKind.u8.wrap m.kind), .int .u8 (IntKind.u8.wrap m.from_), .int .u8 (IntKind.u8.wrap m.out.status)] 5)) rfl ?_ (hK _ _ (post_new (belA (Below.refl _ _) _) ?_))
        · clear hfor huse hap hmi hK hF
          generalize a.eval = ρ at *
          go_simp
        · show kByte.R _ _ (if _ then _ else _) [u8 m.kind, u8 m.from_, u8 m.out.status]
          rw [if_pos rfl]
          exact Kd.R_mono (KN.out W) (fun k h1 h2 => ⟨h1, h2⟩)
      · intro a W own hfor huse hap hmi hF K hK
        have e1 : a.eval (.tmp 1) = .pointer (some ⟨w.heap.size, 0, none⟩) := hfor 1 (by kernel_rfl)
        refine op_val (.pointer (some ⟨w.heap.size, 3, none⟩)) W rfl ?_ (hK _ _ (post_pure ?_))
        · clear hfor huse hap hmi hK hF
          generalize a.eval = ρ at *
          go_simp
        · exact (if_pos rfl)
      · intro a W own hfor huse hap hmi hF K hK
        have e19 : a.eval (.tmp 19) = .pointer (some ⟨w.heap.size, 3, none⟩) := huse 11 (by kernel_rfl)
        have c3 := foot_cell hF (fun h => h) P3.out
        refine op_val (.int .i64 m.n) W rfl ?_ (hK _ _ (post_pure ?_))
        · clear hfor huse hap hmi hK hF
          generalize a.eval = ρ at *
          go_simp
        · exact (if_pos rfl)
      · intro a W own hfor huse hap hmi hF K hK
        have e20 : a.eval (.tmp 20) = .int .i64 m.n := huse 12 (by kernel_rfl)
        have efn : a.eval (.func 27) = .func (.func 27) #[] #[] := rfl
        refine op_call (f := 27) (args := #[.int .i64 m.n]) (fun v w1 => kByte.R w1 (fun k => W.heap.size ≤ k) v (num3 m.n) ∧ Below W.heap.size W w1) rfl ?_ ?_ (fun v w1 h => ?_)
        · clear hfor huse hap hmi hK hF
          generalize a.eval = ρ at *
          go_simp
        · exact (number_c m.n (by omega) (by omega) W).mono (by rintro e w1 ⟨u, rfl, h1, h2⟩; exact ⟨_, rfl, h1, h2⟩)
        · obtain ⟨h1, h2⟩ := h
          exact hK _ _ (post_new h2 (by show kByte.R _ _ (if _ then _ else _) (num3 m.n); rw [if_pos rfl]; exact Kd.R_mono h1 (fun k h3 h4 => ⟨h3, h4⟩)))
      · intro a W own hfor huse hap hmi hF K hK
        have r10 : kByte.R W (own 10) (a.eval (.tmp 18)) [u8 m.kind, u8 m.from_, u8 m.out.status] := huse 10 (by kernel_rfl)
        have r13 : kByte.R W (own 13) (a.eval (.tmp 21)) (num3 m.n) := huse 13 (by kernel_rfl)
        refine step_bytes rfl (.tmp 18) (.tmp 21) rfl rfl rfl r10 (Kd.R_V r13) (fun k h1 h2 => by have := hap 13 10 k h1 h2; omega) (by have h3 : (num3 m.n).length = 3 := rfl; simp only [h3, List.length_cons, List.length_nil]; omega) (fun v1 w1 hR hF1 => hK _ _ ⟨fun k => own 10 k ∨ (W.heap.size ≤ k ∧ k < w1.heap.size), Foot.mono hF1 (fun k h => ⟨10, by decide, h⟩), ?_, fun k h => Or.imp (fun h => ⟨10, by decide, h⟩) id h⟩)
        · show kByte.R _ _ (if _ then _ else _) b1
          rw [if_pos rfl]
          rw [hb1.out] at hR
          exact hR
      · intro a W own hfor huse hap hmi hF K hK
        have r := (huse 14 (by kernel_rfl) : onR kByte 22 b1 (slotsOf a) (own 14) W)
        refine op_val (a.eval (.tmp 22)) W rfl ?_ (hK _ _ ⟨own 14, Foot.refl _ _, ?_, fun k h => .inl ⟨14, by decide, h⟩⟩)
        · rfl
        · show kByte.R _ _ (if _ then _ else _) b1
          rw [if_pos rfl]
          exact r
      intro a' W own hf
      have s1 := hf.st.size
      have s2 := hf.st.rest
      have s3 := fun t ht => hf.st.kept t ht
      revert hf
      revert a'
      refine lay_intro (df := []) [true, true, true, false, true, true, true, true, false, false, false, false, false, false, false, false, false, false, false, false, false, false, false, true, true, true, true, true, true, true, true, true, true, true, true, true, true, true, true, true, true, true, true, true, true, true, true, true] (by kernel_rfl) rfl ?_
      intro x22 x21 x20 x19 x18 x17 x16 x15 x14 x13 x12 x11 x10 x9 x8 x3 hf
      have hr3 : kByte.R W (own 15) x3 b1 := hf.at 15 (onR kByte 3 b1) rfl (by kernel_rfl)
      have HM := Sec.mk (hf.st.mine 15)
      have HF := Sec.mk hf.st.foot
      clear hf P0 P1 P3 P4
      have B2 := Sec.mk (HF.out.below (belD B1.out) (fun k h => h.elim))
      have R2 : Sec (kByte.R W (fun k => (w.alloc (.cells #[.int .i64 m.kind, .int .i64 m.from_, .slice A2 m.top.length c2, .int .i64 m.n, .int .i64 m.out.status, .slice A5 m.out.term.length c5] 34)).heap.size ≤ k ∧ k < W.heap.size) x3 b1) := ⟨Kd.R_mono hr3 (fun k h1 h2 => ⟨(HM.out k h1).1.elim (fun h => Nat.le_trans B1.out.size (by simpa using h)) (fun h => h.elim), h2⟩)⟩
      clear hr3 HM HF
      generalize W = w2 at *
      obtain ⟨a2, n2, rfl, -, -⟩ := Kd.R_form R2.out
      clear p0 p1 p2 p3 p4 p5
      obtain ⟨p0, p1, p2, p3, p4, p5⟩ := HP.out _ B2.out
      have T1 : Sec True := ⟨trivial⟩
      go_wp2_with (first | (at_builtin; clear T2; have T3 : Sec True := ⟨trivial⟩; refine B_own (S := fun k => (w.alloc (.cells #[.int .i64 m.kind, .int .i64 m.from_, .slice A2 m.top.length c2, .int .i64 m.n, .int .i64 m.out.status, .slice A5 m.out.term.length c5] 34)).heap.size ≤ k ∧ k < w2.heap.size) rfl (.tmp 23) (.tmp 26) 28 rfl Tryz.underlying28 info_byte _ _ b1 (trmBytes m.top) rfl rfl R3.out (Kd.R_V Y3.out) (fun k h1 h2 => by have := h2.2; omega) (by have := trmBytes_len m.top; have := trmBytes_len m.out.term; have := hl1.out; have := hl2.out; omega) ?_; intro v4 w4 hR hg hr; rw [hb2.out] at hR; have B4 := Sec.mk (grew B3.out hg (fun k e => (hr k e).1)); have R4 : Sec (kByte.R w4 (fun k => (w.alloc (.cells #[.int .i64 m.kind, .int .i64 m.from_, .slice A2 m.top.length c2, .int .i64 m.n, .int .i64 m.out.status, .slice A5 m.out.term.length c5] 34)).heap.size ≤ k ∧ k < w4.heap.size) v4 b2) := ⟨Kd.R_mono hR (fun k h1 h2 => ⟨h1.elim (fun h => h.1) (fun h => Nat.le_trans B3.out.size h), h2⟩)⟩; obtain ⟨a4, n4, rfl, -, -⟩ := Kd.R_form hR; clear p0 p1 p2 p3 p4 p5; obtain ⟨p0, p1, p2, p3, p4, p5⟩ := HP.out _ B4.out; clear hR hg hr) | (clear T1; go_at_call 28; have T2 : Sec True := ⟨trivial⟩; refine (TrmBytes_i _ _ m.top _ (HV.out _ B2.out)).mono ?_; rintro e w3 ⟨u3, rfl, hR, hb⟩; have B3 := Sec.mk (bel B2.out hb); have R3 := Sec.mk (Kd.R_below R2.out hb); have Y3 := Sec.mk hR; obtain ⟨a3, n3, rfl, -, -⟩ := Kd.R_form hR; clear p0 p1 p2 p3 p4 p5; obtain ⟨p0, p1, p2, p3, p4, p5⟩ := HP.out _ B3.out; clear hb hR) | (clear T3; go_at_call 29; have U1 : Sec True := ⟨trivial⟩; refine (big2_c (b2.length : Int) (by omega) (by have := HB.out; omega) _).mono ?_; rintro e w5 ⟨u5, rfl, hR, hb⟩; have B5 := Sec.mk (bel B4.out hb); have R5 := Sec.mk (Kd.R_below R4.out hb); have Y5 := Sec.mk hR; obtain ⟨a5, n5, rfl, -, -⟩ := Kd.R_form hR; clear hb hR) | (at_builtin; clear U1; have U2 : Sec True := ⟨trivial⟩; refine B_own rfl (.tmp 40) (.tmp 41) 28 rfl Tryz.underlying28 info_byte _ _ [u8 ((b2.length : Int) / 256), u8 ((b2.length : Int) % 256)] b2 rfl rfl Y5.out (Kd.R_V R5.out) (fun k h1 h2 => by have := h1.2; omega) (by have := HB.out; simp only [List.length_cons, List.length_nil]; omega) ?_; intro v6 w6 hR hg hr; rw [show [u8 ((b2.length : Int) / 256), u8 ((b2.length : Int) % 256)] ++ b2 = fo from hfo.out] at hR; have B6 := Sec.mk (grew B5.out hg (fun k e => Nat.le_trans B4.out.size (hr k e))); have R6 : Sec (kByte.R w6 (fun k => (w.alloc (.cells #[.int .i64 m.kind, .int .i64 m.from_, .slice A2 m.top.length c2, .int .i64 m.n, .int .i64 m.out.status, .slice A5 m.out.term.length c5] 34)).heap.size ≤ k ∧ k < w6.heap.size) v6 fo) := ⟨Kd.R_mono hR (fun k h1 h2 => ⟨h1.elim (fun h => Nat.le_trans B4.out.size h) (fun h => Nat.le_trans B5.out.size h), h2⟩)⟩; obtain ⟨a6, n6, rfl, -, -⟩ := Kd.R_form R6.out; clear hR hg hr) | (clear U2; go_at_call 30; have U3 : Sec True := ⟨trivial⟩; refine (MsgSum_c _ _ fo _ (Kd.R_V R6.out)).mono ?_; rintro e w' ⟨rfl, rfl⟩) | (clear U3; go_at_call 29; have U4 : Sec True := ⟨trivial⟩; refine (big2_c (sumB fo) (sumB_in _).1 (by have := (sumB_in fo).2; omega) _).mono ?_; rintro e w7 ⟨u7, rfl, hR, hb⟩; have B7 := Sec.mk (bel B6.out hb); have R7 := Sec.mk (Kd.R_below R6.out hb); have Y7 := Sec.mk hR; obtain ⟨a7, n7, rfl, -, -⟩ := Kd.R_form hR; clear hb hR) | (at_builtin; clear U4; refine B_own rfl (.tmp 43) (.tmp 46) 28 rfl Tryz.underlying28 info_byte _ _ fo [u8 (sumB fo / 256), u8 (sumB fo % 256)] rfl rfl R7.out (Kd.R_V Y7.out) (fun k h1 h2 => by have := h2.2; omega) (by have := HB.out; have := hlf.out; simp only [List.length_cons, List.length_nil]; omega) ?_; intro v8 w8 hR hg hr; have B8 := Sec.mk (grew B7.out hg (fun k e => (hr k e).1)); have RF : Sec (kByte.R w8 (fun k => (w.alloc (.cells #[.int .i64 m.kind, .int .i64 m.from_, .slice A2 m.top.length c2, .int .i64 m.n, .int .i64 m.out.status, .slice A5 m.out.term.length c5] 34)).heap.size ≤ k) v8 (frameB b2)) := ⟨by unfold frameB; rw [hfo.out]; exact Kd.R_mono hR (fun k h1 h2 => h1.elim (fun h => h.1) (fun h => Nat.le_trans B7.out.size h))⟩; clear hR hg hr))
      go_ret
      refine ⟨_, rfl, ?_, BB.out _ B8.out⟩
      rw [HE.out]
      exact Kd.R_mono RF.out (fun k h1 h2 => by have := Zb.out; omega)
    | true =>
      have HE : Sec (msgBytes m = frameB b3) := ⟨by unfold msgBytes msgBody; rw [ho, if_pos rfl, if_pos (by simpa using hs), hb1.out, hb2.out, hb3.out]⟩
      have HB : Sec (b3.length ≤ 1206) := hl3
      obtain ⟨fo, hfo⟩ : ∃ fo, Sec (frameO b3 = fo) := ⟨_, ⟨rfl⟩⟩
      have hlf : Sec (fo.length = b3.length + 2) := ⟨by rw [← hfo.out]; exact frameO_len _⟩
      clear ho
      obtain ⟨p0, p1, p2, p3, p4, p5⟩ := HP.out _ (Below.refl _ _)
      go_enter Tryz.func8, Tryz.ntmps8
      go_wp2_with (go_at_call 26; refine (MsgOk_i m [.int .i64 m.kind, .int .i64 m.from_, .slice A2 m.top.length c2, .int .i64 m.n, .int .i64 m.out.status, .slice A5 m.out.term.length c5] _ _ (HKM.out _ (Below.refl _ _))).mono ?_; rw [HO.out]; rintro e w1 ⟨rfl, hb⟩; have B1 := Sec.mk hb; have T0 : Sec True := ⟨trivial⟩; clear p0 p1 p2 p3 p4 p5; obtain ⟨p0, p1, p2, p3, p4, p5⟩ := HP.out _ hb; clear hb)
      have P0 := Sec.mk p0
      have P1 := Sec.mk p1
      have P3 := Sec.mk p3
      have P4 := Sec.mk p4
      refine wp_region_lists [[8], [9], [10], [11], [12], [13], [14], [15], [16], [17], [18], [19], [20], [21], [22], [3]]
        [fun val _ _ => val 8 = .pointer (some ⟨w.heap.size, 0, none⟩),
          fun val _ _ => val 9 = .int .i64 m.kind,
          fun val _ _ => val 10 = .int .u8 (IntKind.u8.wrap m.kind),
          fun val _ _ => val 11 = .pointer (some ⟨w.heap.size, 1, none⟩),
          fun val _ _ => val 12 = .int .i64 m.from_,
          fun val _ _ => val 13 = .int .u8 (IntKind.u8.wrap m.from_),
          fun val _ _ => val 14 = .pointer (some ⟨w.heap.size, 4, none⟩),
          fun val _ _ => val 15 = .pointer (some ⟨w.heap.size, 4, none⟩),
          fun val _ _ => val 16 = .int .i64 m.out.status,
          fun val _ _ => val 17 = .int .u8 (IntKind.u8.wrap m.out.status),
          onR kByte 18 [u8 m.kind, u8 m.from_, u8 m.out.status],
          fun val _ _ => val 19 = .pointer (some ⟨w.heap.size, 3, none⟩),
          fun val _ _ => val 20 = .int .i64 m.n,
          onR kByte 21 (num3 m.n),
          onR kByte 22 b1,
          onR kByte 3 b1]
        [[], [], [], [], [], [], [], [], [], [], [], [], [], [], [10], [14]] 0 (fun _ => False) (fun _ _ => False) (by kernel_rfl) ⟨by kernel_rfl, by kernel_rfl, by kernel_rfl, by kernel_rfl, by kernel_rfl⟩
        (.cons (stab_val 8 (fun v => v = .pointer (some ⟨w.heap.size, 0, none⟩))) (.cons (stab_val 9 (fun v => v = .int .i64 m.kind)) (.cons (stab_val 10 (fun v => v = .int .u8 (IntKind.u8.wrap m.kind))) (.cons (stab_val 11 (fun v => v = .pointer (some ⟨w.heap.size, 1, none⟩))) (.cons (stab_val 12 (fun v => v = .int .i64 m.from_)) (.cons (stab_val 13 (fun v => v = .int .u8 (IntKind.u8.wrap m.from_))) (.cons (stab_val 14 (fun v => v = .pointer (some ⟨w.heap.size, 4, none⟩))) (.cons (stab_val 15 (fun v => v = .pointer (some ⟨w.heap.size, 4, none⟩))) (.cons (stab_val 16 (fun v => v = .int .i64 m.out.status)) (.cons (stab_val 17 (fun v => v = .int .u8 (IntKind.u8.wrap m.out.status))) (.cons (stab_R kByte 18 [u8 m.kind, u8 m.from_, u8 m.out.status]) (.cons (stab_val 19 (fun v => v = .pointer (some ⟨w.heap.size, 3, none⟩))) (.cons (stab_val 20 (fun v => v = .int .i64 m.n)) (.cons (stab_R kByte 21 (num3 m.n)) (.cons (stab_R kByte 22 b1) (.cons (stab_R kByte 3 b1) .nil))))))))))))))))
        (fun i j k h1 h2 => h1.elim) (fun i k h => h.elim) (fun i h1 h2 => by simp at h1 h2; omega) (.cons ?_ (.cons ?_ (.cons ?_ (.cons ?_ (.cons ?_ (.cons ?_ (.cons ?_ (.cons ?_ (.cons ?_ (.cons ?_ (.cons ?_ (.cons ?_ (.cons ?_ (.cons ?_ (.cons ?_ (.cons ?_ .nil)))))))))))))))) ?_
      · intro a W own hfor huse hap hmi hF K hK
        have e1 : a.eval (.tmp 1) = .pointer (some ⟨w.heap.size, 0, none⟩) := hfor 1 (by kernel_rfl)
        refine op_val (.pointer (some ⟨w.heap.size, 0, none⟩)) W rfl ?_ (hK _ _ (post_pure ?_))
        · clear hfor huse hap hmi hK hF
          generalize a.eval = ρ at *
          go_simp
        · exact (if_pos rfl)
      · intro a W own hfor huse hap hmi hF K hK
        have e8 : a.eval (.tmp 8) = .pointer (some ⟨w.heap.size, 0, none⟩) := huse 0 (by kernel_rfl)
        have c0 := foot_cell hF (fun h => h) P0.out
        refine op_val (.int .i64 m.kind) W rfl ?_ (hK _ _ (post_pure ?_))
        · clear hfor huse hap hmi hK hF
          generalize a.eval = ρ at *
          go_simp
        · exact (if_pos rfl)
      · intro a W own hfor huse hap hmi hF K hK
        have e9 : a.eval (.tmp 9) = .int .i64 m.kind := huse 1 (by kernel_rfl)
        refine op_val (.int .u8 (IntKind.u8.wrap m.kind)) W rfl ?_ (hK _ _ (post_pure ?_))
        · clear hfor huse hap hmi hK hF
          generalize a.eval = ρ at *
          go_simp
        · exact (if_pos rfl)
      · intro a W own hfor huse hap hmi hF K hK
        have e1 : a.eval (.tmp 1) = .pointer (some ⟨w.heap.size, 0, none⟩) := hfor 1 (by kernel_rfl)
        refine op_val (.pointer (some ⟨w.heap.size, 1, none⟩)) W rfl ?_ (hK _ _ (post_pure ?_))
        · clear hfor huse hap hmi hK hF
          generalize a.eval = ρ at *
          go_simp
        · exact (if_pos rfl)
      · intro a W own hfor huse hap hmi hF K hK
        have e11 : a.eval (.tmp 11) = .pointer (some ⟨w.heap.size, 1, none⟩) := huse 3 (by kernel_rfl)
        have c1 := foot_cell hF (fun h => h) P1.out
        refine op_val (.int .i64 m.from_) W rfl ?_ (hK _ _ (post_pure ?_))
        · clear hfor huse hap hmi hK hF
          generalize a.eval = ρ at *
          go_simp
        · exact (if_pos rfl)
      · intro a W own hfor huse hap hmi hF K hK
        have e12 : a.eval (.tmp 12) = .int .i64 m.from_ := huse 4 (by kernel_rfl)
        refine op_val (.int .u8 (IntKind.u8.wrap m.from_)) W rfl ?_ (hK _ _ (post_pure ?_))
        · clear hfor huse hap hmi hK hF
          generalize a.eval = ρ at *
          go_simp
        · exact (if_pos rfl)
      · intro a W own hfor huse hap hmi hF K hK
        have e1 : a.eval (.tmp 1) = .pointer (some ⟨w.heap.size, 0, none⟩) := hfor 1 (by kernel_rfl)
        refine op_val (.pointer (some ⟨w.heap.size, 4, none⟩)) W rfl ?_ (hK _ _ (post_pure ?_))
        · clear hfor huse hap hmi hK hF
          generalize a.eval = ρ at *
          go_simp
        · exact (if_pos rfl)
      · intro a W own hfor huse hap hmi hF K hK
        have e14 : a.eval (.tmp 14) = .pointer (some ⟨w.heap.size, 4, none⟩) := huse 6 (by kernel_rfl)
        refine op_val (.pointer (some ⟨w.heap.size, 4, none⟩)) W rfl ?_ (hK _ _ (post_pure ?_))
        · clear hfor huse hap hmi hK hF
          generalize a.eval = ρ at *
          go_simp
        · exact (if_pos rfl)
      · intro a W own hfor huse hap hmi hF K hK
        have e15 : a.eval (.tmp 15) = .pointer (some ⟨w.heap.size, 4, none⟩) := huse 7 (by kernel_rfl)
        have c4 := foot_cell hF (fun h => h) P4.out
        refine op_val (.int .i64 m.out.status) W rfl ?_ (hK _ _ (post_pure ?_))
        · clear hfor huse hap hmi hK hF
          generalize a.eval = ρ at *
          go_simp
        · exact (if_pos rfl)
      · intro a W own hfor huse hap hmi hF K hK
        have e16 : a.eval (.tmp 16) = .int .i64 m.out.status := huse 8 (by kernel_rfl)
        refine op_val (.int .u8 (IntKind.u8.wrap m.out.status)) W rfl ?_ (hK _ _ (post_pure ?_))
        · clear hfor huse hap hmi hK hF
          generalize a.eval = ρ at *
          go_simp
        · exact (if_pos rfl)
      · intro a W own hfor huse hap hmi hF K hK
        have e10 : a.eval (.tmp 10) = .int .u8 (IntKind.u8.wrap m.kind) := huse 2 (by kernel_rfl)
        have e13 : a.eval (.tmp 13) = .int .u8 (IntKind.u8.wrap m.from_) := huse 5 (by kernel_rfl)
        have e17 : a.eval (.tmp 17) = .int .u8 (IntKind.u8.wrap m.out.status) := huse 9 (by kernel_rfl)
        refine op_val (.slice (some ⟨W.heap.size, 0, none⟩) 3 3) (W.alloc (.cells #[.int .u8 (IntKind.u8.wrap m.kind), .int .u8 (IntKind.u8.wrap m.from_), .int .u8 (IntKind.u8.wrap m.out.status)] 5)) rfl ?_ (hK _ _ (post_new (belA (Below.refl _ _) _) ?_))
        · clear hfor huse hap hmi hK hF
          generalize a.eval = ρ at *
          go_simp
        · show kByte.R _ _ (if _ then _ else _) [u8 m.kind, u8 m.from_, u8 m.out.status]
          rw [if_pos rfl]
          exact Kd.R_mono (KN.out W) (fun k h1 h2 => ⟨h1, h2⟩)
      · intro a W own hfor huse hap hmi hF K hK
        have e1 : a.eval (.tmp 1) = .pointer (some ⟨w.heap.size, 0, none⟩) := hfor 1 (by kernel_rfl)
        refine op_val (.pointer (some ⟨w.heap.size, 3, none⟩)) W rfl ?_ (hK _ _ (post_pure ?_))
        · clear hfor huse hap hmi hK hF
          generalize a.eval = ρ at *
          go_simp
        · exact (if_pos rfl)
      · intro a W own hfor huse hap hmi hF K hK
        have e19 : a.eval (.tmp 19) = .pointer (some ⟨w.heap.size, 3, none⟩) := huse 11 (by kernel_rfl)
        have c3 := foot_cell hF (fun h => h) P3.out
        refine op_val (.int .i64 m.n) W rfl ?_ (hK _ _ (post_pure ?_))
        · clear hfor huse hap hmi hK hF
          generalize a.eval = ρ at *
          go_simp
        · exact (if_pos rfl)
      · intro a W own hfor huse hap hmi hF K hK
        have e20 : a.eval (.tmp 20) = .int .i64 m.n := huse 12 (by kernel_rfl)
        have efn : a.eval (.func 27) = .func (.func 27) #[] #[] := rfl
        refine op_call (f := 27) (args := #[.int .i64 m.n]) (fun v w1 => kByte.R w1 (fun k => W.heap.size ≤ k) v (num3 m.n) ∧ Below W.heap.size W w1) rfl ?_ ?_ (fun v w1 h => ?_)
        · clear hfor huse hap hmi hK hF
          generalize a.eval = ρ at *
          go_simp
        · exact (number_c m.n (by omega) (by omega) W).mono (by rintro e w1 ⟨u, rfl, h1, h2⟩; exact ⟨_, rfl, h1, h2⟩)
        · obtain ⟨h1, h2⟩ := h
          exact hK _ _ (post_new h2 (by show kByte.R _ _ (if _ then _ else _) (num3 m.n); rw [if_pos rfl]; exact Kd.R_mono h1 (fun k h3 h4 => ⟨h3, h4⟩)))
      · intro a W own hfor huse hap hmi hF K hK
        have r10 : kByte.R W (own 10) (a.eval (.tmp 18)) [u8 m.kind, u8 m.from_, u8 m.out.status] := huse 10 (by kernel_rfl)
        have r13 : kByte.R W (own 13) (a.eval (.tmp 21)) (num3 m.n) := huse 13 (by kernel_rfl)
        refine step_bytes rfl (.tmp 18) (.tmp 21) rfl rfl rfl r10 (Kd.R_V r13) (fun k h1 h2 => by have := hap 13 10 k h1 h2; omega) (by have h3 : (num3 m.n).length = 3 := rfl; simp only [h3, List.length_cons, List.length_nil]; omega) (fun v1 w1 hR hF1 => hK _ _ ⟨fun k => own 10 k ∨ (W.heap.size ≤ k ∧ k < w1.heap.size), Foot.mono hF1 (fun k h => ⟨10, by decide, h⟩), ?_, fun k h => Or.imp (fun h => ⟨10, by decide, h⟩) id h⟩)
        · show kByte.R _ _ (if _ then _ else _) b1
          rw [if_pos rfl]
          rw [hb1.out] at hR
          exact hR
      · intro a W own hfor huse hap hmi hF K hK
        have r := (huse 14 (by kernel_rfl) : onR kByte 22 b1 (slotsOf a) (own 14) W)
        refine op_val (a.eval (.tmp 22)) W rfl ?_ (hK _ _ ⟨own 14, Foot.refl _ _, ?_, fun k h => .inl ⟨14, by decide, h⟩⟩)
        · rfl
        · show kByte.R _ _ (if _ then _ else _) b1
          rw [if_pos rfl]
          exact r
      intro a' W own hf
      have s1 := hf.st.size
      have s2 := hf.st.rest
      have s3 := fun t ht => hf.st.kept t ht
      revert hf
      revert a'
      refine lay_intro (df := []) [true, true, true, false, true, true, true, true, false, false, false, false, false, false, false, false, false, false, false, false, false, false, false, true, true, true, true, true, true, true, true, true, true, true, true, true, true, true, true, true, true, true, true, true, true, true, true, true] (by kernel_rfl) rfl ?_
      intro x22 x21 x20 x19 x18 x17 x16 x15 x14 x13 x12 x11 x10 x9 x8 x3 hf
      have hr3 : kByte.R W (own 15) x3 b1 := hf.at 15 (onR kByte 3 b1) rfl (by kernel_rfl)
      have HM := Sec.mk (hf.st.mine 15)
      have HF := Sec.mk hf.st.foot
      clear hf P0 P1 P3 P4
      have B2 := Sec.mk (HF.out.below (belD B1.out) (fun k h => h.elim))
      have R2 : Sec (kByte.R W (fun k => (w.alloc (.cells #[.int .i64 m.kind, .int .i64 m.from_, .slice A2 m.top.length c2, .int .i64 m.n, .int .i64 m.out.status, .slice A5 m.out.term.length c5] 34)).heap.size ≤ k ∧ k < W.heap.size) x3 b1) := ⟨Kd.R_mono hr3 (fun k h1 h2 => ⟨(HM.out k h1).1.elim (fun h => Nat.le_trans B1.out.size (by simpa using h)) (fun h => h.elim), h2⟩)⟩
      clear hr3 HM HF
      generalize W = w2 at *
      obtain ⟨a2, n2, rfl, -, -⟩ := Kd.R_form R2.out
      clear p0 p1 p2 p3 p4 p5
      obtain ⟨p0, p1, p2, p3, p4, p5⟩ := HP.out _ B2.out
      have T1 : Sec True := ⟨trivial⟩
      go_wp2_with (first | (at_builtin; clear T4; have T5 : Sec True := ⟨trivial⟩; refine B_own (S := fun k => (w.alloc (.cells #[.int .i64 m.kind, .int .i64 m.from_, .slice A2 m.top.length c2, .int .i64 m.n, .int .i64 m.out.status, .slice A5 m.out.term.length c5] 34)).heap.size ≤ k ∧ k < w4.heap.size) rfl (.tmp 32) (.tmp 36) 28 rfl Tryz.underlying28 info_byte _ _ b2 (trmBytes m.out.term) rfl rfl R5.out (Kd.R_V Y5.out) (fun k h1 h2 => by have := h2.2; omega) (by have := trmBytes_len m.top; have := trmBytes_len m.out.term; have := hl1.out; have := hl2.out; omega) ?_; intro v6 w6 hR hg hr; rw [hb3.out] at hR; have B6 := Sec.mk (grew B5.out hg (fun k e => (hr k e).1)); have R6 : Sec (kByte.R w6 (fun k => (w.alloc (.cells #[.int .i64 m.kind, .int .i64 m.from_, .slice A2 m.top.length c2, .int .i64 m.n, .int .i64 m.out.status, .slice A5 m.out.term.length c5] 34)).heap.size ≤ k ∧ k < w6.heap.size) v6 b3) := ⟨Kd.R_mono hR (fun k h1 h2 => ⟨h1.elim (fun h => h.1) (fun h => Nat.le_trans B5.out.size h), h2⟩)⟩; obtain ⟨a6, n6, rfl, -, -⟩ := Kd.R_form hR; clear p0 p1 p2 p3 p4 p5; obtain ⟨p0, p1, p2, p3, p4, p5⟩ := HP.out _ B6.out; clear hR hg hr) | (clear T3; go_at_call 28; have T4 : Sec True := ⟨trivial⟩; refine (TrmBytes_i _ _ m.out.term _ (HT.out _ B4.out)).mono ?_; rintro e w5 ⟨u5, rfl, hR, hb⟩; have B5 := Sec.mk (bel B4.out hb); have R5 := Sec.mk (Kd.R_below R4.out hb); have Y5 := Sec.mk hR; obtain ⟨a5, n5, rfl, -, -⟩ := Kd.R_form hR; clear p0 p1 p2 p3 p4 p5; obtain ⟨p0, p1, p2, p3, p4, p5⟩ := HP.out _ B5.out; clear hb hR) | (at_builtin; clear T2; have T3 : Sec True := ⟨trivial⟩; refine B_own (S := fun k => (w.alloc (.cells #[.int .i64 m.kind, .int .i64 m.from_, .slice A2 m.top.length c2, .int .i64 m.n, .int .i64 m.out.status, .slice A5 m.out.term.length c5] 34)).heap.size ≤ k ∧ k < w2.heap.size) rfl (.tmp 23) (.tmp 26) 28 rfl Tryz.underlying28 info_byte _ _ b1 (trmBytes m.top) rfl rfl R3.out (Kd.R_V Y3.out) (fun k h1 h2 => by have := h2.2; omega) (by have := trmBytes_len m.top; have := trmBytes_len m.out.term; have := hl1.out; have := hl2.out; omega) ?_; intro v4 w4 hR hg hr; rw [hb2.out] at hR; have B4 := Sec.mk (grew B3.out hg (fun k e => (hr k e).1)); have R4 : Sec (kByte.R w4 (fun k => (w.alloc (.cells #[.int .i64 m.kind, .int .i64 m.from_, .slice A2 m.top.length c2, .int .i64 m.n, .int .i64 m.out.status, .slice A5 m.out.term.length c5] 34)).heap.size ≤ k ∧ k < w4.heap.size) v4 b2) := ⟨Kd.R_mono hR (fun k h1 h2 => ⟨h1.elim (fun h => h.1) (fun h => Nat.le_trans B3.out.size h), h2⟩)⟩; obtain ⟨a4, n4, rfl, -, -⟩ := Kd.R_form hR; clear p0 p1 p2 p3 p4 p5; obtain ⟨p0, p1, p2, p3, p4, p5⟩ := HP.out _ B4.out; clear hR hg hr) | (clear T1; go_at_call 28; have T2 : Sec True := ⟨trivial⟩; refine (TrmBytes_i _ _ m.top _ (HV.out _ B2.out)).mono ?_; rintro e w3 ⟨u3, rfl, hR, hb⟩; have B3 := Sec.mk (bel B2.out hb); have R3 := Sec.mk (Kd.R_below R2.out hb); have Y3 := Sec.mk hR; obtain ⟨a3, n3, rfl, -, -⟩ := Kd.R_form hR; clear p0 p1 p2 p3 p4 p5; obtain ⟨p0, p1, p2, p3, p4, p5⟩ := HP.out _ B3.out; clear hb hR) | (clear T5; go_at_call 29; have U1 : Sec True := ⟨trivial⟩; refine (big2_c (b3.length : Int) (by omega) (by have := HB.out; omega) _).mono ?_; rintro e w7 ⟨u7, rfl, hR, hb⟩; have B7 := Sec.mk (bel B6.out hb); have R7 := Sec.mk (Kd.R_below R6.out hb); have Y7 := Sec.mk hR; obtain ⟨a7, n7, rfl, -, -⟩ := Kd.R_form hR; clear hb hR) | (at_builtin; clear U1; have U2 : Sec True := ⟨trivial⟩; refine B_own rfl (.tmp 40) (.tmp 41) 28 rfl Tryz.underlying28 info_byte _ _ [u8 ((b3.length : Int) / 256), u8 ((b3.length : Int) % 256)] b3 rfl rfl Y7.out (Kd.R_V R7.out) (fun k h1 h2 => by have := h1.2; omega) (by have := HB.out; simp only [List.length_cons, List.length_nil]; omega) ?_; intro v8 w8 hR hg hr; rw [show [u8 ((b3.length : Int) / 256), u8 ((b3.length : Int) % 256)] ++ b3 = fo from hfo.out] at hR; have B8 := Sec.mk (grew B7.out hg (fun k e => Nat.le_trans B6.out.size (hr k e))); have R8 : Sec (kByte.R w8 (fun k => (w.alloc (.cells #[.int .i64 m.kind, .int .i64 m.from_, .slice A2 m.top.length c2, .int .i64 m.n, .int .i64 m.out.status, .slice A5 m.out.term.length c5] 34)).heap.size ≤ k ∧ k < w8.heap.size) v8 fo) := ⟨Kd.R_mono hR (fun k h1 h2 => ⟨h1.elim (fun h => Nat.le_trans B6.out.size h) (fun h => Nat.le_trans B7.out.size h), h2⟩)⟩; obtain ⟨a8, n8, rfl, -, -⟩ := Kd.R_form R8.out; clear hR hg hr) | (clear U2; go_at_call 30; have U3 : Sec True := ⟨trivial⟩; refine (MsgSum_c _ _ fo _ (Kd.R_V R8.out)).mono ?_; rintro e w' ⟨rfl, rfl⟩) | (clear U3; go_at_call 29; have U4 : Sec True := ⟨trivial⟩; refine (big2_c (sumB fo) (sumB_in _).1 (by have := (sumB_in fo).2; omega) _).mono ?_; rintro e w9 ⟨u9, rfl, hR, hb⟩; have B9 := Sec.mk (bel B8.out hb); have R9 := Sec.mk (Kd.R_below R8.out hb); have Y9 := Sec.mk hR; obtain ⟨a9, n9, rfl, -, -⟩ := Kd.R_form hR; clear hb hR) | (at_builtin; clear U4; refine B_own rfl (.tmp 43) (.tmp 46) 28 rfl Tryz.underlying28 info_byte _ _ fo [u8 (sumB fo / 256), u8 (sumB fo % 256)] rfl rfl R9.out (Kd.R_V Y9.out) (fun k h1 h2 => by have := h2.2; omega) (by have := HB.out; have := hlf.out; simp only [List.length_cons, List.length_nil]; omega) ?_; intro v10 w10 hR hg hr; have B10 := Sec.mk (grew B9.out hg (fun k e => (hr k e).1)); have RF : Sec (kByte.R w10 (fun k => (w.alloc (.cells #[.int .i64 m.kind, .int .i64 m.from_, .slice A2 m.top.length c2, .int .i64 m.n, .int .i64 m.out.status, .slice A5 m.out.term.length c5] 34)).heap.size ≤ k) v10 (frameB b3)) := ⟨by unfold frameB; rw [hfo.out]; exact Kd.R_mono hR (fun k h1 h2 => h1.elim (fun h => h.1) (fun h => Nat.le_trans B9.out.size h))⟩; clear hR hg hr))
      go_ret
      refine ⟨_, rfl, ?_, BB.out _ B10.out⟩
      rw [HE.out]
      exact Kd.R_mono RF.out (fun k h1 h2 => by have := Zb.out; omega)
set_option maxHeartbeats 4000000 in
theorem MsgBytes_c (m : Msg) (cs : List Value) (ok : Nat → Prop) (w : World) (hK : kMsg.K w ok m cs) :
    Calls Tryz.prog 6 #[.agg cs.toArray] w (TBq w (msgBytes m)) := by
  obtain ⟨v2, v5, rfl, hV0, hT0⟩ := kMsg_K hK
  have hV : kCell.V w (fun k => k < w.heap.size) v2 m.top := Kd.V_move (fun k _ hl => ⟨hl, rfl⟩) hV0 (by decide)
  have hT : kCell.V w (fun k => k < w.heap.size) v5 m.out.term := Kd.V_move (fun k _ hl => ⟨hl, rfl⟩) hT0 (by decide)
  obtain ⟨A2, c2, rfl, -⟩ := id hV
  obtain ⟨A5, c5, rfl, -⟩ := id hT
  clear hV0 hT0
  have b0 : Below w.heap.size w (w.alloc (.cells #[.int .i64 m.kind, .int .i64 m.from_, .slice A2 m.top.length c2, .int .i64 m.n, .int .i64 m.out.status, .slice A5 m.out.term.length c5] 34)) := belA (Below.refl _ _) _
  have HP : Sec (∀ W, Below (w.alloc (.cells #[.int .i64 m.kind, .int .i64 m.from_, .slice A2 m.top.length c2, .int .i64 m.n, .int .i64 m.out.status, .slice A5 m.out.term.length c5] 34)).heap.size (w.alloc (.cells #[.int .i64 m.kind, .int .i64 m.from_, .slice A2 m.top.length c2, .int .i64 m.n, .int .i64 m.out.status, .slice A5 m.out.term.length c5] 34)) W → W.cell? ⟨w.heap.size, 0, none⟩ = some (.int .i64 m.kind) ∧ W.cell? ⟨w.heap.size, 1, none⟩ = some (.int .i64 m.from_) ∧ W.cell? ⟨w.heap.size, 2, none⟩ = some (.slice A2 m.top.length c2) ∧ W.cell? ⟨w.heap.size, 3, none⟩ = some (.int .i64 m.n) ∧ W.cell? ⟨w.heap.size, 4, none⟩ = some (.int .i64 m.out.status) ∧ W.cell? ⟨w.heap.size, 5, none⟩ = some (.slice A5 m.out.term.length c5)) := ⟨fun W h => by
    have X := (box_at ((h.block _ (Array.getElem?_eq_some_iff.1 (heap_alloc_new w (.cells #[.int .i64 m.kind, .int .i64 m.from_, .slice A2 m.top.length c2, .int .i64 m.n, .int .i64 m.out.status, .slice A5 m.out.term.length c5] 34))).1).trans (heap_alloc_new w _))).2.1
    exact ⟨X 0 _ rfl, X 1 _ rfl, X 2 _ rfl, X 3 _ rfl, X 4 _ rfl, X 5 _ rfl⟩⟩
  have HV : Sec (∀ W, Below (w.alloc (.cells #[.int .i64 m.kind, .int .i64 m.from_, .slice A2 m.top.length c2, .int .i64 m.n, .int .i64 m.out.status, .slice A5 m.out.term.length c5] 34)).heap.size (w.alloc (.cells #[.int .i64 m.kind, .int .i64 m.from_, .slice A2 m.top.length c2, .int .i64 m.n, .int .i64 m.out.status, .slice A5 m.out.term.length c5] 34)) W → kCell.V W (fun k => k < w.heap.size) (.slice A2 m.top.length c2) m.top) := ⟨fun W h => Kd.V_below hV (bel b0 h) (by decide)⟩
  have HT : Sec (∀ W, Below (w.alloc (.cells #[.int .i64 m.kind, .int .i64 m.from_, .slice A2 m.top.length c2, .int .i64 m.n, .int .i64 m.out.status, .slice A5 m.out.term.length c5] 34)).heap.size (w.alloc (.cells #[.int .i64 m.kind, .int .i64 m.from_, .slice A2 m.top.length c2, .int .i64 m.n, .int .i64 m.out.status, .slice A5 m.out.term.length c5] 34)) W → kCell.V W (fun k => k < w.heap.size) (.slice A5 m.out.term.length c5) m.out.term) := ⟨fun W h => Kd.V_below hT (bel b0 h) (by decide)⟩
  have HKM : Sec (∀ W, Below (w.alloc (.cells #[.int .i64 m.kind, .int .i64 m.from_, .slice A2 m.top.length c2, .int .i64 m.n, .int .i64 m.out.status, .slice A5 m.out.term.length c5] 34)).heap.size (w.alloc (.cells #[.int .i64 m.kind, .int .i64 m.from_, .slice A2 m.top.length c2, .int .i64 m.n, .int .i64 m.out.status, .slice A5 m.out.term.length c5] 34)) W → kMsg.K W ok m [.int .i64 m.kind, .int .i64 m.from_, .slice A2 m.top.length c2, .int .i64 m.n, .int .i64 m.out.status, .slice A5 m.out.term.length c5]) := ⟨fun W h => Kd.K_below hK (bel b0 h)⟩
  have BB : Sec (∀ W, Below (w.alloc (.cells #[.int .i64 m.kind, .int .i64 m.from_, .slice A2 m.top.length c2, .int .i64 m.n, .int .i64 m.out.status, .slice A5 m.out.term.length c5] 34)).heap.size (w.alloc (.cells #[.int .i64 m.kind, .int .i64 m.from_, .slice A2 m.top.length c2, .int .i64 m.n, .int .i64 m.out.status, .slice A5 m.out.term.length c5] 34)) W → Below w.heap.size w W) := ⟨fun W h => bel b0 h⟩
  have Zb : Sec ((w.alloc (.cells #[.int .i64 m.kind, .int .i64 m.from_, .slice A2 m.top.length c2, .int .i64 m.n, .int .i64 m.out.status, .slice A5 m.out.term.length c5] 34)).heap.size = w.heap.size + 1) := ⟨by simp⟩
  have KN : Sec (∀ W : World, kByte.R (W.alloc (.cells #[.int .u8 (IntKind.u8.wrap m.kind), .int .u8 (IntKind.u8.wrap m.from_), .int .u8 (IntKind.u8.wrap m.out.status)] 5)) (fun k => W.heap.size ≤ k) (.slice (some ⟨W.heap.size, 0, none⟩) 3 3) [u8 m.kind, u8 m.from_, u8 m.out.status]) := ⟨fun W => by
    have hR := kByte_new W W.heap.size (Nat.le_refl _) [m.kind, m.from_, m.out.status] (by simp)
    simp only [List.map_cons, List.map_nil] at hR
    exact hR⟩
  have KS : Sec (∀ W : World, kByte.R (W.alloc (.cells #[.int .u8 (m.kind % 256), .int .u8 (m.from_ % 256), .int .u8 (m.out.status % 256)] 5)) (fun k => W.heap.size ≤ k) (.slice (some ⟨W.heap.size, 0, none⟩) 3 3) [u8 m.kind, u8 m.from_, u8 m.out.status]) := ⟨fun W => by
    have hR := KN.out W
    rw [IntKind.wrap_u8', IntKind.wrap_u8', IntKind.wrap_u8'] at hR
    exact hR⟩
  clear hT hV b0 hK
  cases ho : msgOk m with
  | false =>
    have HE : Sec (msgBytes m = []) := ⟨by unfold msgBytes; rw [ho]; rfl⟩
    have HO := Sec.mk ho
    clear ho
    obtain ⟨p0, p1, p2, p3, p4, p5⟩ := HP.out _ (Below.refl _ _)
    go_enter Tryz.func6, Tryz.ntmps6
    go_wp2_with (go_at_call 20; refine (MsgOk_c m [.int .i64 m.kind, .int .i64 m.from_, .slice A2 m.top.length c2, .int .i64 m.n, .int .i64 m.out.status, .slice A5 m.out.term.length c5] _ _ (HKM.out _ (Below.refl _ _))).mono ?_; rw [HO.out]; rintro e w1 ⟨rfl, hb⟩; have B1 := Sec.mk hb; clear hb)
    go_ret
    refine ⟨_, rfl, ?_, BB.out _ (belA B1.out _)⟩
    rw [HE.out]
    exact Kd.R_empty kByte (BB.out _ B1.out).size
  | true =>
    have HO := Sec.mk ho
    have hn := msgOk_n ho
    have hn1 := hn.1
    have hn2 := hn.2
    clear hn
    obtain ⟨b1, hb1⟩ : ∃ b1, Sec ([u8 m.kind, u8 m.from_, u8 m.out.status] ++ num3 m.n = b1) := ⟨_, ⟨rfl⟩⟩
    obtain ⟨b2, hb2⟩ : ∃ b2, Sec (b1 ++ trmBytes m.top = b2) := ⟨_, ⟨rfl⟩⟩
    obtain ⟨b3, hb3⟩ : ∃ b3, Sec (b2 ++ trmBytes m.out.term = b3) := ⟨_, ⟨rfl⟩⟩
    have hl1 : Sec (b1.length = 6) := ⟨by rw [← hb1.out]; rfl⟩
    have hl2 : Sec (b2.length ≤ 606) := ⟨by rw [← hb2.out, List.length_append, hl1.out]; have := trmBytes_len m.top; omega⟩
    have hl3 : Sec (b3.length ≤ 1206) := ⟨by rw [← hb3.out, List.length_append]; have := trmBytes_len m.out.term; have := hl2.out; omega⟩
    cases hs : (m.out.status == 2) with
    | false =>
      have HE : Sec (msgBytes m = frameB b2) := ⟨by unfold msgBytes msgBody; rw [ho, if_pos rfl, if_neg (fun e => by rw [e] at hs; simp at hs), List.append_nil, hb1.out, hb2.out]⟩
      have HB : Sec (b2.length ≤ 1206) := ⟨by have := hl2.out; omega⟩
      obtain ⟨fo, hfo⟩ : ∃ fo, Sec (frameO b2 = fo) := ⟨_, ⟨rfl⟩⟩
      have hlf : Sec (fo.length = b2.length + 2) := ⟨by rw [← hfo.out]; exact frameO_len _⟩
      clear ho
      obtain ⟨p0, p1, p2, p3, p4, p5⟩ := HP.out _ (Below.refl _ _)
      go_enter Tryz.func6, Tryz.ntmps6
      go_wp2_with (first | (at_builtin; clear T2; have T3 : Sec True := ⟨trivial⟩; refine B_own (S := fun k => (w.alloc (.cells #[.int .i64 m.kind, .int .i64 m.from_, .slice A2 m.top.length c2, .int .i64 m.n, .int .i64 m.out.status, .slice A5 m.out.term.length c5] 34)).heap.size ≤ k ∧ k < w2.heap.size) rfl (.tmp 22) (.tmp 25) 28 rfl Tryz.underlying28 info_byte _ _ b1 (trmBytes m.top) rfl rfl R3.out (Kd.R_V Y3.out) (fun k h1 h2 => by have := h2.2; omega) (by have := trmBytes_len m.top; have := trmBytes_len m.out.term; have := hl1.out; have := hl2.out; omega) ?_; intro v4 w4 hR hg hr; rw [hb2.out] at hR; have B4 := Sec.mk (grew B3.out hg (fun k e => (hr k e).1)); have R4 : Sec (kByte.R w4 (fun k => (w.alloc (.cells #[.int .i64 m.kind, .int .i64 m.from_, .slice A2 m.top.length c2, .int .i64 m.n, .int .i64 m.out.status, .slice A5 m.out.term.length c5] 34)).heap.size ≤ k ∧ k < w4.heap.size) v4 b2) := ⟨Kd.R_mono hR (fun k h1 h2 => ⟨h1.elim (fun h => h.1) (fun h => Nat.le_trans B3.out.size h), h2⟩)⟩; obtain ⟨a4, n4, rfl, -, -⟩ := Kd.R_form hR; clear p0 p1 p2 p3 p4 p5; obtain ⟨p0, p1, p2, p3, p4, p5⟩ := HP.out _ B4.out; clear hR hg hr) | (clear T1; go_at_call 22; have T2 : Sec True := ⟨trivial⟩; refine (TrmBytes_c _ _ m.top _ (HV.out _ B2.out)).mono ?_; rintro e w3 ⟨u3, rfl, hR, hb⟩; have B3 := Sec.mk (bel B2.out hb); have R3 := Sec.mk (Kd.R_below R2.out hb); have Y3 := Sec.mk hR; obtain ⟨a3, n3, rfl, -, -⟩ := Kd.R_form hR; clear p0 p1 p2 p3 p4 p5; obtain ⟨p0, p1, p2, p3, p4, p5⟩ := HP.out _ B3.out; clear hb hR) | (clear T3; go_at_call 23; refine (l6Frame_c _ _ b2 _ (Kd.R_V R4.out) (by have := HB.out; omega)).mono ?_; rintro e w5 ⟨u5, rfl, hR, hb⟩; have B5 := Sec.mk (bel B4.out hb); have RF := Sec.mk hR; clear hb hR) | (clear T0; go_at_call 21; have T1 : Sec True := ⟨trivial⟩; refine (l6Put_c _ _ [u8 m.kind, u8 m.from_, u8 m.out.status] m.n _ (Kd.R_V (KS.out w1)) (by simp) (by omega) (by omega)).mono ?_; rintro e w2 ⟨u2, rfl, hR, hb⟩; rw [hb1.out] at hR; clear q3; have B2 := Sec.mk (bel (belA B1.out _) hb); have R2 : Sec (kByte.R w2 (fun k => (w.alloc (.cells #[.int .i64 m.kind, .int .i64 m.from_, .slice A2 m.top.length c2, .int .i64 m.n, .int .i64 m.out.status, .slice A5 m.out.term.length c5] 34)).heap.size ≤ k ∧ k < w2.heap.size) u2 b1) := ⟨Kd.R_mono hR (fun k h1 h2 => ⟨Nat.le_trans (belA B1.out (.cells #[.int .u8 (m.kind % 256), .int .u8 (m.from_ % 256), .int .u8 (m.out.status % 256)] 5)).size h1, h2⟩)⟩; obtain ⟨a2, n2, rfl, -, -⟩ := Kd.R_form hR; clear p0 p1 p2 p3 p4 p5; obtain ⟨p0, p1, p2, p3, p4, p5⟩ := HP.out _ B2.out; clear hb hR) | (go_at_call 20; refine (MsgOk_c m [.int .i64 m.kind, .int .i64 m.from_, .slice A2 m.top.length c2, .int .i64 m.n, .int .i64 m.out.status, .slice A5 m.out.term.length c5] _ _ (HKM.out _ (Below.refl _ _))).mono ?_; rw [HO.out]; rintro e w1 ⟨rfl, hb⟩; have B1 := Sec.mk hb; have T0 : Sec True := ⟨trivial⟩; clear p0 p1 p2 p3 p4 p5; obtain ⟨p0, p1, p2, p3, p4, p5⟩ := HP.out _ hb; have q3 := (HP.out _ (belA hb (.cells #[.int .u8 (m.kind % 256), .int .u8 (m.from_ % 256), .int .u8 (m.out.status % 256)] 5))).2.2.2.1; clear hb))
      go_ret
      refine ⟨_, rfl, ?_, BB.out _ B5.out⟩
      rw [HE.out]
      exact Kd.R_mono RF.out (fun k h1 h2 => Nat.le_trans (BB.out _ B4.out).size h1)
    | true =>
      have HE : Sec (msgBytes m = frameB b3) := ⟨by unfold msgBytes msgBody; rw [ho, if_pos rfl, if_pos (by simpa using hs), hb1.out, hb2.out, hb3.out]⟩
      have HB : Sec (b3.length ≤ 1206) := hl3
      obtain ⟨fo, hfo⟩ : ∃ fo, Sec (frameO b3 = fo) := ⟨_, ⟨rfl⟩⟩
      have hlf : Sec (fo.length = b3.length + 2) := ⟨by rw [← hfo.out]; exact frameO_len _⟩
      clear ho
      obtain ⟨p0, p1, p2, p3, p4, p5⟩ := HP.out _ (Below.refl _ _)
      go_enter Tryz.func6, Tryz.ntmps6
      go_wp2_with (first | (at_builtin; clear T4; have T5 : Sec True := ⟨trivial⟩; refine B_own (S := fun k => (w.alloc (.cells #[.int .i64 m.kind, .int .i64 m.from_, .slice A2 m.top.length c2, .int .i64 m.n, .int .i64 m.out.status, .slice A5 m.out.term.length c5] 34)).heap.size ≤ k ∧ k < w4.heap.size) rfl (.tmp 31) (.tmp 35) 28 rfl Tryz.underlying28 info_byte _ _ b2 (trmBytes m.out.term) rfl rfl R5.out (Kd.R_V Y5.out) (fun k h1 h2 => by have := h2.2; omega) (by have := trmBytes_len m.top; have := trmBytes_len m.out.term; have := hl1.out; have := hl2.out; omega) ?_; intro v6 w6 hR hg hr; rw [hb3.out] at hR; have B6 := Sec.mk (grew B5.out hg (fun k e => (hr k e).1)); have R6 : Sec (kByte.R w6 (fun k => (w.alloc (.cells #[.int .i64 m.kind, .int .i64 m.from_, .slice A2 m.top.length c2, .int .i64 m.n, .int .i64 m.out.status, .slice A5 m.out.term.length c5] 34)).heap.size ≤ k ∧ k < w6.heap.size) v6 b3) := ⟨Kd.R_mono hR (fun k h1 h2 => ⟨h1.elim (fun h => h.1) (fun h => Nat.le_trans B5.out.size h), h2⟩)⟩; obtain ⟨a6, n6, rfl, -, -⟩ := Kd.R_form hR; clear p0 p1 p2 p3 p4 p5; obtain ⟨p0, p1, p2, p3, p4, p5⟩ := HP.out _ B6.out; clear hR hg hr) | (clear T3; go_at_call 22; have T4 : Sec True := ⟨trivial⟩; refine (TrmBytes_c _ _ m.out.term _ (HT.out _ B4.out)).mono ?_; rintro e w5 ⟨u5, rfl, hR, hb⟩; have B5 := Sec.mk (bel B4.out hb); have R5 := Sec.mk (Kd.R_below R4.out hb); have Y5 := Sec.mk hR; obtain ⟨a5, n5, rfl, -, -⟩ := Kd.R_form hR; clear p0 p1 p2 p3 p4 p5; obtain ⟨p0, p1, p2, p3, p4, p5⟩ := HP.out _ B5.out; clear hb hR) | (at_builtin; clear T2; have T3 : Sec True := ⟨trivial⟩; refine B_own (S := fun k => (w.alloc (.cells #[.int .i64 m.kind, .int .i64 m.from_, .slice A2 m.top.length c2, .int .i64 m.n, .int .i64 m.out.status, .slice A5 m.out.term.length c5] 34)).heap.size ≤ k ∧ k < w2.heap.size) rfl (.tmp 22) (.tmp 25) 28 rfl Tryz.underlying28 info_byte _ _ b1 (trmBytes m.top) rfl rfl R3.out (Kd.R_V Y3.out) (fun k h1 h2 => by have := h2.2; omega) (by have := trmBytes_len m.top; have := trmBytes_len m.out.term; have := hl1.out; have := hl2.out; omega) ?_; intro v4 w4 hR hg hr; rw [hb2.out] at hR; have B4 := Sec.mk (grew B3.out hg (fun k e => (hr k e).1)); have R4 : Sec (kByte.R w4 (fun k => (w.alloc (.cells #[.int .i64 m.kind, .int .i64 m.from_, .slice A2 m.top.length c2, .int .i64 m.n, .int .i64 m.out.status, .slice A5 m.out.term.length c5] 34)).heap.size ≤ k ∧ k < w4.heap.size) v4 b2) := ⟨Kd.R_mono hR (fun k h1 h2 => ⟨h1.elim (fun h => h.1) (fun h => Nat.le_trans B3.out.size h), h2⟩)⟩; obtain ⟨a4, n4, rfl, -, -⟩ := Kd.R_form hR; clear p0 p1 p2 p3 p4 p5; obtain ⟨p0, p1, p2, p3, p4, p5⟩ := HP.out _ B4.out; clear hR hg hr) | (clear T1; go_at_call 22; have T2 : Sec True := ⟨trivial⟩; refine (TrmBytes_c _ _ m.top _ (HV.out _ B2.out)).mono ?_; rintro e w3 ⟨u3, rfl, hR, hb⟩; have B3 := Sec.mk (bel B2.out hb); have R3 := Sec.mk (Kd.R_below R2.out hb); have Y3 := Sec.mk hR; obtain ⟨a3, n3, rfl, -, -⟩ := Kd.R_form hR; clear p0 p1 p2 p3 p4 p5; obtain ⟨p0, p1, p2, p3, p4, p5⟩ := HP.out _ B3.out; clear hb hR) | (clear T5; go_at_call 23; refine (l6Frame_c _ _ b3 _ (Kd.R_V R6.out) (by have := HB.out; omega)).mono ?_; rintro e w7 ⟨u7, rfl, hR, hb⟩; have B7 := Sec.mk (bel B6.out hb); have RF := Sec.mk hR; clear hb hR) | (clear T0; go_at_call 21; have T1 : Sec True := ⟨trivial⟩; refine (l6Put_c _ _ [u8 m.kind, u8 m.from_, u8 m.out.status] m.n _ (Kd.R_V (KS.out w1)) (by simp) (by omega) (by omega)).mono ?_; rintro e w2 ⟨u2, rfl, hR, hb⟩; rw [hb1.out] at hR; clear q3; have B2 := Sec.mk (bel (belA B1.out _) hb); have R2 : Sec (kByte.R w2 (fun k => (w.alloc (.cells #[.int .i64 m.kind, .int .i64 m.from_, .slice A2 m.top.length c2, .int .i64 m.n, .int .i64 m.out.status, .slice A5 m.out.term.length c5] 34)).heap.size ≤ k ∧ k < w2.heap.size) u2 b1) := ⟨Kd.R_mono hR (fun k h1 h2 => ⟨Nat.le_trans (belA B1.out (.cells #[.int .u8 (m.kind % 256), .int .u8 (m.from_ % 256), .int .u8 (m.out.status % 256)] 5)).size h1, h2⟩)⟩; obtain ⟨a2, n2, rfl, -, -⟩ := Kd.R_form hR; clear p0 p1 p2 p3 p4 p5; obtain ⟨p0, p1, p2, p3, p4, p5⟩ := HP.out _ B2.out; clear hb hR) | (go_at_call 20; refine (MsgOk_c m [.int .i64 m.kind, .int .i64 m.from_, .slice A2 m.top.length c2, .int .i64 m.n, .int .i64 m.out.status, .slice A5 m.out.term.length c5] _ _ (HKM.out _ (Below.refl _ _))).mono ?_; rw [HO.out]; rintro e w1 ⟨rfl, hb⟩; have B1 := Sec.mk hb; have T0 : Sec True := ⟨trivial⟩; clear p0 p1 p2 p3 p4 p5; obtain ⟨p0, p1, p2, p3, p4, p5⟩ := HP.out _ hb; have q3 := (HP.out _ (belA hb (.cells #[.int .u8 (m.kind % 256), .int .u8 (m.from_ % 256), .int .u8 (m.out.status % 256)] 5))).2.2.2.1; clear hb))
      go_ret
      refine ⟨_, rfl, ?_, BB.out _ B7.out⟩
      rw [HE.out]
      exact Kd.R_mono RF.out (fun k h1 h2 => Nat.le_trans (BB.out _ B6.out).size h1)
end
section
open Go.RowKit
set_option linter.unusedVariables false
set_option maxRecDepth 100000
/-- Between two numbers. -/
def Rg (a b : Nat) (k : Nat) : Prop := a ≤ k ∧ k < b
theorem tru_ {α : Type} [DecidableEq α] (t : α) : decide (t = t) = true := decide_eq_true rfl
theorem msgBytes_len (m : Msg) : (msgBytes m).length ≤ 1210 := by
  unfold msgBytes
  split
  · have h := msgBody_len m
    unfold frameB
    rw [List.length_append, frameO_len]
    simp only [List.length_cons, List.length_nil]; omega
  · simp
theorem rMsg_len {w : World} {s : Msg} {cs : List Value} (h : rMsg.K w s cs) : cs.length = 6 := by
  obtain ⟨v1, v2, rfl, -, -⟩ := rMsg_K h
  rfl
set_option maxHeartbeats 8000000 in
theorem FnExactMsgBytes_law_c (s : Msg) (cs : List Value) (w0 : World) (hK : rMsg.K w0 s cs) :
    Calls Tryz.prog 3 #[.agg cs.toArray] w0 fun e w' => e = .returned (.bool true) ∧ Below w0.heap.size w0 w' := by
  have hA := rMsg_fits.2 w0 s cs hK
  have P_len : Sec (cs.length = 6) := ⟨by by_cases h : 0 ≤ 1; exact rMsg_len hK; omega⟩
  have hu := Tryz.underlying26
  have hu2 := Tryz.underlying34
  obtain ⟨w, hw⟩ : ∃ w, w = w0.alloc (.cells cs.toArray 26) := ⟨_, rfl⟩
  have WW := Sec.mk hw
  have WB := belA (Below.refl w0.heap.size w0) (.cells cs.toArray 26)
  have P_0 : Sec (w.heap[w0.heap.size]? = some (.cells cs.toArray 26 (0, 0))) := ⟨by rw [hw]; exact heap_alloc_new w0 _⟩
  have RV : Sec (rMsg.K w s cs) := ⟨by rw [hw]; exact rMsg_mono _ _ _ _ WB hK⟩
  rw [← hw] at WB
  have WBS := Sec.mk WB
  have Zp : Sec (w0.heap.size < w.heap.size) := ⟨by rw [hw]; simp⟩
  clear hw
  by_cases hbud : rMsg.wt s ≤ 1048576
  · have AV := Sec.mk (Kd.K_below (hA (by omega)) WB)
    have HL : Sec (1 + mByte.cnts (msgBytes s) ≤ 100000000000000000) := ⟨by rw [mByte_cnts]; have := msgBytes_len s; omega⟩
    have HC : Sec (1 + mMsgt.cnt s ≤ 100000000000) := ⟨by have := rMsg_tle s; omega⟩
    have hsp := Raw.spent_le hbud
    generalize 1048576 - rMsg.wt s = l at hsp
    have hl0 : ¬ ((l : Int) < 0) := by omega
    clear hbud hA hK WB
    generalize hbp : w0.heap.size = bp at *
    have T0 : Sec True := ⟨trivial⟩
    go_enter Tryz.func3, Tryz.ntmps3
    go_wp2_with (first | (clear T6; go_at_call 9; have T7 : Sec True := ⟨trivial⟩; refine (eqSByte_c _ _ (msgBytes s) (msgBytes s) _ _ _ (Kd.R_V G_6.out) (Kd.R_V U_6.out)).mono ?_; rintro e w7 ⟨rfl, hb⟩; rw [tru_]; have Z7 := Sec.mk hb.size; have B_7 := Sec.mk (bel B_6.out hb); have P_7 := Sec.mk (carryB hb P_6.out); have U_7 := Sec.mk (Kd.R_below U_6.out hb); have X_7 := Sec.mk (Kd.O_below X_6.out hb); have BX_7 := Sec.mk (carryB hb BX_6.out); have G_7 := Sec.mk (Kd.R_below G_6.out hb); clear hb) | (clear T5; go_at_call 8; have T6 : Sec True := ⟨trivial⟩; refine (MsgBytes_i s _ _ _ (kMsg.O_K X_5.out)).mono ?_; rintro e w6 ⟨cg, rfl, hR, hb⟩; obtain ⟨Acg, ncg, rfl, -, -⟩ := Kd.R_form hR; have Z6 := Sec.mk hb.size; have G_6 : Sec (kByte.R w6 (Rg w5.heap.size w6.heap.size) (.slice Acg (msgBytes s).length ncg) (msgBytes s)) := ⟨Kd.R_mono hR (fun k h1 h2 => ⟨h1, h2⟩)⟩; have B_6 := Sec.mk (bel B_5.out hb); have P_6 := Sec.mk (carryB hb P_5.out); have U_6 := Sec.mk (Kd.R_below U_5.out hb); have X_6 := Sec.mk (Kd.O_below X_5.out hb); have BX_6 := Sec.mk (carryB hb BX_5.out); clear hb hR) | (with_reducible show wpList _ _ _ (⟨some 21, .load 34 (.tmp 5), _, _, _, _⟩ :: _) _ _; refine wpList_load (cs := cx) (by first | rfl | (simp [Region.wanted]; done) | (simp [Region.wanted, yielded, Act.put]; omega)) 34 (.tmp 5) rfl rfl BX_5.out hu2 rfl (by rw [cx_len.out]; kernel_rfl) ?_) | (clear T4; with_reducible show wpList _ _ _ (⟨none, .store 34 (.tmp 5) (.tmp 20), _, _, _, _⟩ :: _) _ _; have T5 : Sec True := ⟨trivial⟩; refine wpList_store (cs := cx) (old := #[.int .i64 0, .int .i64 0, .slice none 0 0, .int .i64 0, .int .i64 0, .slice none 0 0]) rfl 34 (.tmp 5) (.tmp 20) rfl rfl rfl (heap_alloc_new w4 _) (by rw [cx_len.out]; kernel_rfl) (by rw [cx_len.out]; kernel_rfl) (kMsg.K_one (kMsg.O_K X_4.out)) ?_; intro w5 hb' hF'; have ZS5 : Sec (w4.heap.size < w5.heap.size) := ⟨(Array.getElem?_eq_some_iff.1 hb').1⟩; have hb : Below w4.heap.size w4 w5 := hF'.below (belA (Below.refl _ _) _) (fun k h => Nat.le_of_eq (show k = w4.heap.size from h).symm); have Z5 := Sec.mk hb.size; have BX_5 : Sec (w5.heap[w4.heap.size]? = some (.cells (cx).toArray 34 (0, 0))) := ⟨hb'⟩; have B_5 := Sec.mk (bel B_4.out hb); have P_5 := Sec.mk (carryB hb P_4.out); have U_5 := Sec.mk (Kd.R_below U_4.out hb); have X_5 := Sec.mk (Kd.O_below X_4.out hb); clear hb hb' hF') | (clear T3; go_at_call 7; have T4 : Sec True := ⟨trivial⟩; refine (toMsgMsg_c s cs _ _ (Kd.K_below AV.out B_3.out)).mono ?_; rintro e w4 ⟨cx, rfl, hO, hb⟩; have cx_len := Sec.mk (kMsg.K_len (kMsg.O_K hO)); have Z4 := Sec.mk hb.size; have X_4 : Sec (kMsg.O w4 (Rg w3.heap.size w4.heap.size) s cx) := ⟨Kd.O_mono hO (fun k h1 h2 => ⟨h1, h2⟩)⟩; have B_4 := Sec.mk (bel B_3.out hb); have P_4 := Sec.mk (carryB hb P_3.out); have U_4 := Sec.mk (Kd.R_below U_3.out hb); clear hb hO) | (with_reducible show wpList _ _ _ (⟨some 19, .load 26 (.tmp 1), _, _, _, _⟩ :: _) _ _; refine wpList_load (cs := cs) (by first | rfl | (simp [Region.wanted]; done) | (simp [Region.wanted, yielded, Act.put]; omega)) 26 (.tmp 1) rfl rfl P_3.out hu rfl (by rw [P_len.out]; kernel_rfl) ?_) | (clear T2; go_at_call 6; have T3 : Sec True := ⟨trivial⟩; refine (MsgBytes_c s _ _ _ (kMsg.O_K Y_2.out)).mono ?_; rintro e w3 ⟨cu, rfl, hR, hb⟩; obtain ⟨Acu, ncu, rfl, -, -⟩ := Kd.R_form hR; have Z3 := Sec.mk hb.size; have U_3 : Sec (kByte.R w3 (Rg w2.heap.size w3.heap.size) (.slice Acu (msgBytes s).length ncu) (msgBytes s)) := ⟨Kd.R_mono hR (fun k h1 h2 => ⟨h1, h2⟩)⟩; have B_3 := Sec.mk (bel B_2.out hb); have P_3 := Sec.mk (carryB hb P_2.out); clear hb hR) | (clear T1; go_at_call 7; have T2 : Sec True := ⟨trivial⟩; refine (toMsgMsg_c s cs _ _ (Kd.K_below AV.out B_1.out)).mono ?_; rintro e w2 ⟨cy, rfl, hO, hb⟩; have cy_len := Sec.mk (kMsg.K_len (kMsg.O_K hO)); have Z2 := Sec.mk hb.size; have Y_2 : Sec (kMsg.O w2 (Rg w1.heap.size w2.heap.size) s cy) := ⟨Kd.O_mono hO (fun k h1 h2 => ⟨h1, h2⟩)⟩; have B_2 := Sec.mk (bel B_1.out hb); have P_2 := Sec.mk (carryB hb P_1.out); clear hb hO) | (with_reducible show wpList _ _ _ (⟨some 16, .load 26 (.tmp 1), _, _, _, _⟩ :: _) _ _; refine wpList_load (cs := cs) (by first | rfl | (simp [Region.wanted]; done) | (simp [Region.wanted, yielded, Act.put]; omega)) 26 (.tmp 1) rfl rfl P_1.out hu rfl (by rw [P_len.out]; kernel_rfl) ?_) | (clear T0; go_at_call 5; have T1 : Sec True := ⟨trivial⟩; refine (szMsgMsg_c s cs 1048576 (Nat.le_refl _) _ RV.out).mono ?_; rintro e w1 ⟨rfl, hb⟩; rw [hsp]; have Z1 := Sec.mk hb.size; have B_1 := Sec.mk (bel (Below.refl w.heap.size w) hb); have P_1 := Sec.mk (carryB hb P_0.out); clear hb) | (with_reducible show wpList _ _ _ (⟨some 11, .load 26 (.tmp 1), _, _, _, _⟩ :: _) _ _; rw [← WW.out]; refine wpList_load (cs := cs) (by first | rfl | (simp [Region.wanted]; done) | (simp [Region.wanted, yielded, Act.put]; omega)) 26 (.tmp 1) rfl rfl P_0.out hu rfl (by rw [P_len.out]; kernel_rfl) ?_))
    have RP := P_7
    have RBX := BX_7
    have RB := B_7
    have RX := X_7
    refine wp_region_lists [[27], [28], [29], [30], [31]]
      [fun val _ _ => val 27 = .agg (cx).toArray,
        fun val _ _ => val 28 = .agg (cs).toArray,
        onO kMsg 29 s,
        fun val _ _ => val 30 = .bool true,
        fun val _ _ => val 31 = .bool false]
      [[], [], [], [2], []] 0 (fun _ => False) (fun _ _ => False) (by kernel_rfl) ⟨by kernel_rfl, by kernel_rfl, by kernel_rfl, by kernel_rfl, by kernel_rfl⟩
      (.cons (stab_val 27 (fun v => v = .agg (cx).toArray)) (.cons (stab_val 28 (fun v => v = .agg (cs).toArray)) (.cons (stab_O kMsg 29 s) (.cons (stab_val 30 (fun v => v = .bool true)) (.cons (stab_val 31 (fun v => v = .bool false)) .nil)))))
      (fun i j k h1 h2 => h1.elim) (fun i k h => h.elim) (fun i h1 h2 => by simp at h1 h2; omega) (.cons ?_ (.cons ?_ (.cons ?_ (.cons ?_ (.cons ?_ .nil))))) ?_
    · intro a W own hfor huse hap hmi hF K hK
      have e5 : a.eval (.tmp 5) = .pointer (some ⟨w4.heap.size, 0, none⟩) := hfor 5 (by kernel_rfl)
      have hu_27 := hu2
      have hc : ∀ j u, (cx : List Value)[j]? = some u → W.cell? ⟨w4.heap.size, 0 + j, none⟩ = some u := fun j u h => by rw [Nat.zero_add]; exact foot_cell hF (fun h => h) ((box_at RBX.out).2.1 j u (by simpa using h))
      refine step_load (cs := cx) rfl 34 (.tmp 5) rfl e5 hc hu_27 rfl (by rw [cx_len.out]; kernel_rfl) (hK _ _ (post_pure (if_pos rfl)))
    · intro a W own hfor huse hap hmi hF K hK
      have e1 : a.eval (.tmp 1) = .pointer (some ⟨bp, 0, none⟩) := hfor 1 (by kernel_rfl)
      have hu_28 := hu
      have hc : ∀ j u, (cs : List Value)[j]? = some u → W.cell? ⟨bp, 0 + j, none⟩ = some u := fun j u h => by rw [Nat.zero_add]; exact foot_cell hF (fun h => h) ((box_at RP.out).2.1 j u (by simpa using h))
      refine step_load (cs := cs) rfl 26 (.tmp 1) rfl e1 hc hu_28 rfl (by rw [P_len.out]; kernel_rfl) (hK _ _ (post_pure (if_pos rfl)))
    · intro a W own hfor huse hap hmi hF K hK
      have e28 : a.eval (.tmp 28) = .agg (cs).toArray := huse 1 (by kernel_rfl)
      have hbw : Below w.heap.size w W := hF.below (belD RB.out) (fun k h => h.elim)
      have efn : a.eval (.func 7) = .func (.func 7) #[] #[] := rfl
      refine op_call (f := 7) (args := #[.agg (cs).toArray]) (fun v w1 => ∃ c : List Value, v = .agg c.toArray ∧ kMsg.O w1 (fun k => W.heap.size ≤ k) s c ∧ Below W.heap.size W w1) rfl ?_ ?_ (fun v w1 h => ?_)
      · clear hfor huse hap hmi hK hF
        generalize a.eval = ρ at *
        go_simp
      · exact (toMsgMsg_c s cs _ W (Kd.K_below AV.out hbw)).mono (by rintro e w1 ⟨c, rfl, h1, h2⟩; exact ⟨_, rfl, c, rfl, h1, h2⟩)
      · obtain ⟨c, rfl, h1, h2⟩ := h
        exact hK _ _ (post_new h2 ⟨c, if_pos rfl, kMsg.O_mono h1 (fun k h3 h4 => ⟨h3, h4⟩)⟩)
    · intro a W own hfor huse hap hmi hF K hK
      obtain ⟨cs2, e29, r2⟩ := (huse 2 (by kernel_rfl) : onO kMsg 29 s (slotsOf a) (own 2) W)
      have e29 : a.eval (.tmp 29) = .agg cs2.toArray := e29
      have e27 : a.eval (.tmp 27) = .agg (cx).toArray := huse 0 (by kernel_rfl)
      have efn : a.eval (.func 10) = .func (.func 10) #[] #[] := rfl
      have hbw : Below w7.heap.size w7 W := hF.below (belD (Below.refl _ _)) (fun k h => h.elim)
      refine op_call (f := 10) (args := #[.agg (cx).toArray, .agg cs2.toArray]) (fun v w1 => v = .bool true ∧ Below W.heap.size W w1) rfl ?_ ?_ (fun v w1 h => ?_)
      · clear hfor huse hap hmi hK hF
        generalize a.eval = ρ at *
        go_simp
      · exact (eqMsgMsg_c s s cx cs2 _ _ W (kMsg.O_K (Kd.O_below RX.out hbw)) (kMsg.O_K r2)).mono (by rintro e w1 ⟨rfl, h2⟩; rw [tru_]; exact ⟨_, rfl, rfl, h2⟩)
      · obtain ⟨rfl, h2⟩ := h
        exact hK _ _ ⟨fun k => own 2 k, Foot.of_below h2, if_pos rfl, fun k h => .inl ⟨2, by decide, h⟩⟩
    · intro a W own hfor huse hap hmi hF K hK
      have e30 : a.eval (.tmp 30) = .bool true := huse 3 (by kernel_rfl)
      refine op_val (.bool false) W rfl ?_ (hK _ _ (post_pure ?_))
      · clear hfor huse hap hmi hK hF
        generalize a.eval = ρ at *
        go_simp
      · exact (if_pos rfl)
    intro a' w8 own hf
    have hsz := hf.st.size
    have hdf := hf.st.rest
    obtain ⟨⟨l⟩, df⟩ := a'
    have hl0 : l.length = 69 := hsz
    clear hsz
    obtain rfl : df = [] := hdf
    obtain ⟨x0, l0, rfl, hl1⟩ := lst_cons hl0
    clear hl0
    obtain ⟨x1, l1, rfl, hl2⟩ := lst_cons hl1
    clear hl1
    obtain ⟨x2, l2, rfl, hl3⟩ := lst_cons hl2
    clear hl2
    obtain ⟨x3, l3, rfl, hl4⟩ := lst_cons hl3
    clear hl3
    obtain ⟨x4, l4, rfl, hl5⟩ := lst_cons hl4
    clear hl4
    obtain ⟨x5, l5, rfl, hl6⟩ := lst_cons hl5
    clear hl5
    obtain ⟨x6, l6, rfl, hl7⟩ := lst_cons hl6
    clear hl6
    obtain ⟨x7, l7, rfl, hl8⟩ := lst_cons hl7
    clear hl7
    obtain ⟨x8, l8, rfl, hl9⟩ := lst_cons hl8
    clear hl8
    obtain ⟨x9, l9, rfl, hl10⟩ := lst_cons hl9
    clear hl9
    obtain ⟨x10, l10, rfl, hl11⟩ := lst_cons hl10
    clear hl10
    obtain ⟨x11, l11, rfl, hl12⟩ := lst_cons hl11
    clear hl11
    obtain ⟨x12, l12, rfl, hl13⟩ := lst_cons hl12
    clear hl12
    obtain ⟨x13, l13, rfl, hl14⟩ := lst_cons hl13
    clear hl13
    obtain ⟨x14, l14, rfl, hl15⟩ := lst_cons hl14
    clear hl14
    obtain ⟨x15, l15, rfl, hl16⟩ := lst_cons hl15
    clear hl15
    obtain ⟨x16, l16, rfl, hl17⟩ := lst_cons hl16
    clear hl16
    obtain ⟨x17, l17, rfl, hl18⟩ := lst_cons hl17
    clear hl17
    obtain ⟨x18, l18, rfl, hl19⟩ := lst_cons hl18
    clear hl18
    obtain ⟨x19, l19, rfl, hl20⟩ := lst_cons hl19
    clear hl19
    obtain ⟨x20, l20, rfl, hl21⟩ := lst_cons hl20
    clear hl20
    obtain ⟨x21, l21, rfl, hl22⟩ := lst_cons hl21
    clear hl21
    obtain ⟨x22, l22, rfl, hl23⟩ := lst_cons hl22
    clear hl22
    obtain ⟨x23, l23, rfl, hl24⟩ := lst_cons hl23
    clear hl23
    obtain ⟨x24, l24, rfl, hl25⟩ := lst_cons hl24
    clear hl24
    obtain ⟨x25, l25, rfl, hl26⟩ := lst_cons hl25
    clear hl25
    obtain ⟨x26, l26, rfl, hl27⟩ := lst_cons hl26
    clear hl26
    obtain ⟨x27, l27, rfl, hl28⟩ := lst_cons hl27
    clear hl27
    obtain ⟨x28, l28, rfl, hl29⟩ := lst_cons hl28
    clear hl28
    obtain ⟨x29, l29, rfl, hl30⟩ := lst_cons hl29
    clear hl29
    obtain ⟨x30, l30, rfl, hl31⟩ := lst_cons hl30
    clear hl30
    obtain ⟨x31, l31, rfl, hl32⟩ := lst_cons hl31
    clear hl31
    obtain ⟨x32, l32, rfl, hl33⟩ := lst_cons hl32
    clear hl32
    obtain ⟨x33, l33, rfl, hl34⟩ := lst_cons hl33
    clear hl33
    obtain ⟨x34, l34, rfl, hl35⟩ := lst_cons hl34
    clear hl34
    obtain ⟨x35, l35, rfl, hl36⟩ := lst_cons hl35
    clear hl35
    obtain ⟨x36, l36, rfl, hl37⟩ := lst_cons hl36
    clear hl36
    obtain ⟨x37, l37, rfl, hl38⟩ := lst_cons hl37
    clear hl37
    obtain ⟨x38, l38, rfl, hl39⟩ := lst_cons hl38
    clear hl38
    obtain ⟨x39, l39, rfl, hl40⟩ := lst_cons hl39
    clear hl39
    obtain ⟨x40, l40, rfl, hl41⟩ := lst_cons hl40
    clear hl40
    obtain ⟨x41, l41, rfl, hl42⟩ := lst_cons hl41
    clear hl41
    obtain ⟨x42, l42, rfl, hl43⟩ := lst_cons hl42
    clear hl42
    obtain ⟨x43, l43, rfl, hl44⟩ := lst_cons hl43
    clear hl43
    obtain ⟨x44, l44, rfl, hl45⟩ := lst_cons hl44
    clear hl44
    obtain ⟨x45, l45, rfl, hl46⟩ := lst_cons hl45
    clear hl45
    obtain ⟨x46, l46, rfl, hl47⟩ := lst_cons hl46
    clear hl46
    obtain ⟨x47, l47, rfl, hl48⟩ := lst_cons hl47
    clear hl47
    obtain ⟨x48, l48, rfl, hl49⟩ := lst_cons hl48
    clear hl48
    obtain ⟨x49, l49, rfl, hl50⟩ := lst_cons hl49
    clear hl49
    obtain ⟨x50, l50, rfl, hl51⟩ := lst_cons hl50
    clear hl50
    obtain ⟨x51, l51, rfl, hl52⟩ := lst_cons hl51
    clear hl51
    obtain ⟨x52, l52, rfl, hl53⟩ := lst_cons hl52
    clear hl52
    obtain ⟨x53, l53, rfl, hl54⟩ := lst_cons hl53
    clear hl53
    obtain ⟨x54, l54, rfl, hl55⟩ := lst_cons hl54
    clear hl54
    obtain ⟨x55, l55, rfl, hl56⟩ := lst_cons hl55
    clear hl55
    obtain ⟨x56, l56, rfl, hl57⟩ := lst_cons hl56
    clear hl56
    obtain ⟨x57, l57, rfl, hl58⟩ := lst_cons hl57
    clear hl57
    obtain ⟨x58, l58, rfl, hl59⟩ := lst_cons hl58
    clear hl58
    obtain ⟨x59, l59, rfl, hl60⟩ := lst_cons hl59
    clear hl59
    obtain ⟨x60, l60, rfl, hl61⟩ := lst_cons hl60
    clear hl60
    obtain ⟨x61, l61, rfl, hl62⟩ := lst_cons hl61
    clear hl61
    obtain ⟨x62, l62, rfl, hl63⟩ := lst_cons hl62
    clear hl62
    obtain ⟨x63, l63, rfl, hl64⟩ := lst_cons hl63
    clear hl63
    obtain ⟨x64, l64, rfl, hl65⟩ := lst_cons hl64
    clear hl64
    obtain ⟨x65, l65, rfl, hl66⟩ := lst_cons hl65
    clear hl65
    obtain ⟨x66, l66, rfl, hl67⟩ := lst_cons hl66
    clear hl66
    obtain ⟨x67, l67, rfl, hl68⟩ := lst_cons hl67
    clear hl67
    obtain ⟨x68, l68, rfl, hl69⟩ := lst_cons hl68
    clear hl68
    obtain rfl := List.eq_nil_of_length_eq_zero hl69
    have e0 := hf.st.kept 0 (by kernel_rfl)
    simp only [slotsOf, Act.eval, Array.getD_eq_getD_getElem?, List.getElem?_toArray, List.getElem?_cons_zero, Option.getD_some] at e0
    subst e0
    have e1 := hf.st.kept 1 (by kernel_rfl)
    simp only [slotsOf, Act.eval, Array.getD_eq_getD_getElem?, List.getElem?_toArray, List.getElem?_cons_succ, List.getElem?_cons_zero, Option.getD_some] at e1
    subst e1
    have e2 := hf.st.kept 2 (by kernel_rfl)
    simp only [slotsOf, Act.eval, Array.getD_eq_getD_getElem?, List.getElem?_toArray, List.getElem?_cons_succ, List.getElem?_cons_zero, Option.getD_some] at e2
    subst e2
    have e3 := hf.st.kept 3 (by kernel_rfl)
    simp only [slotsOf, Act.eval, Array.getD_eq_getD_getElem?, List.getElem?_toArray, List.getElem?_cons_succ, List.getElem?_cons_zero, Option.getD_some] at e3
    subst e3
    have e4 := hf.st.kept 4 (by kernel_rfl)
    simp only [slotsOf, Act.eval, Array.getD_eq_getD_getElem?, List.getElem?_toArray, List.getElem?_cons_succ, List.getElem?_cons_zero, Option.getD_some] at e4
    subst e4
    have e5 := hf.st.kept 5 (by kernel_rfl)
    simp only [slotsOf, Act.eval, Array.getD_eq_getD_getElem?, List.getElem?_toArray, List.getElem?_cons_succ, List.getElem?_cons_zero, Option.getD_some] at e5
    subst e5
    have e6 := hf.st.kept 6 (by kernel_rfl)
    simp only [slotsOf, Act.eval, Array.getD_eq_getD_getElem?, List.getElem?_toArray, List.getElem?_cons_succ, List.getElem?_cons_zero, Option.getD_some] at e6
    subst e6
    have e31 : x31 = .bool false := hf.at 4 (fun val _ _ => val 31 = .bool false) rfl (by kernel_rfl)
    subst e31
    have hb : Below w7.heap.size w7 w8 := hf.st.foot.below (belD (Below.refl _ _)) (fun k h => h.elim)
    clear hf RP RBX RB RX T7
    have T8 : Sec True := ⟨trivial⟩
    have Z8 := Sec.mk hb.size
    have B_8 := Sec.mk (bel B_7.out hb)
    have P_8 := Sec.mk (carryB hb P_7.out)
    have U_8 := Sec.mk (Kd.R_below U_7.out hb)
    have X_8 := Sec.mk (Kd.O_below X_7.out hb)
    have BX_8 := Sec.mk (carryB hb BX_7.out)
    have G_8 := Sec.mk (Kd.R_below G_7.out hb)
    clear hb
    go_wp2_with (first | (clear T15; go_at_call 13; have T16 : Sec True := ⟨trivial⟩; refine (heldSByte_c _ (msgBytes s) _ 1 (by omega) (by have := HL.out; omega) _ (Kd.R_V M_15.out)).mono ?_; rintro e w16 ⟨rfl, hb⟩; have c2 : ¬ (1 + ((mByte.cnts (msgBytes s) : Nat) : Int) < 0) := (by omega); have Z16 := Sec.mk hb.size; have B_16 := Sec.mk (bel B_15.out hb); clear hb) | (clear T14; go_at_call 9; have T15 : Sec True := ⟨trivial⟩; refine (eqSByte_c _ _ (msgBytes s) (msgBytes s) _ _ _ (Kd.R_V H_14.out) (Kd.R_V U_14.out)).mono ?_; rintro e w15 ⟨rfl, hb⟩; rw [tru_]; have Z15 := Sec.mk hb.size; have B_15 := Sec.mk (bel B_14.out hb); have M_15 := Sec.mk (Kd.R_below M_14.out hb); clear hb) | (clear T13; go_at_call 8; have T14 : Sec True := ⟨trivial⟩; refine (MsgBytes_i s _ _ _ (kMsg.O_K Z_13.out)).mono ?_; rintro e w14 ⟨ch, rfl, hR, hb⟩; obtain ⟨Ach, nch, rfl, -, -⟩ := Kd.R_form hR; have Z14 := Sec.mk hb.size; have H_14 : Sec (kByte.R w14 (Rg w13.heap.size w14.heap.size) (.slice Ach (msgBytes s).length nch) (msgBytes s)) := ⟨Kd.R_mono hR (fun k h1 h2 => ⟨h1, h2⟩)⟩; have B_14 := Sec.mk (bel B_13.out hb); have U_14 := Sec.mk (Kd.R_below U_13.out hb); have M_14 := Sec.mk (Kd.R_below M_13.out hb); clear hb hR) | (clear T12; go_at_call 7; have T13 : Sec True := ⟨trivial⟩; refine (toMsgMsg_c s cs _ _ (Kd.K_below AV.out B_12.out)).mono ?_; rintro e w13 ⟨cz, rfl, hO, hb⟩; have cz_len := Sec.mk (kMsg.K_len (kMsg.O_K hO)); have Z13 := Sec.mk hb.size; have Z_13 : Sec (kMsg.O w13 (Rg w12.heap.size w13.heap.size) s cz) := ⟨Kd.O_mono hO (fun k h1 h2 => ⟨h1, h2⟩)⟩; have B_13 := Sec.mk (bel B_12.out hb); have U_13 := Sec.mk (Kd.R_below U_12.out hb); have M_13 := Sec.mk (Kd.R_below M_12.out hb); clear hb hO) | (with_reducible show wpList _ _ _ (⟨some 54, .load 26 (.tmp 1), _, _, _, _⟩ :: _) _ _; refine wpList_load (cs := cs) (by first | rfl | (simp [Region.wanted]; done) | (simp [Region.wanted, yielded, Act.put]; omega)) 26 (.tmp 1) rfl rfl P_12.out hu rfl (by rw [P_len.out]; kernel_rfl) ?_) | (clear T11; go_at_call 13; have T12 : Sec True := ⟨trivial⟩; refine (heldSByte_c _ (msgBytes s) _ 1 (by omega) (by have := HL.out; omega) _ (Kd.R_V M_11.out)).mono ?_; rintro e w12 ⟨rfl, hb⟩; have c2 : ¬ (1 + ((mByte.cnts (msgBytes s) : Nat) : Int) < 0) := (by omega); have Z12 := Sec.mk hb.size; have B_12 := Sec.mk (bel B_11.out hb); have P_12 := Sec.mk (carryB hb P_11.out); have U_12 := Sec.mk (Kd.R_below U_11.out hb); have M_12 := Sec.mk (Kd.R_below M_11.out hb); clear hb) | (clear T10; go_at_call 12; have T11 : Sec True := ⟨trivial⟩; refine (markSByte_c _ (msgBytes s) _ 1 (by omega) (by have := HL.out; omega) _ G_10.out).mono ?_; rintro e w11 ⟨rfl, hO', hF⟩; have Z11 := Sec.mk hF.size; have M_11 := Sec.mk (hO'); have B_11 := Sec.mk (hF.below B_10.out (fun k h => by unfold Rg at h; have zp := Zp.out; have z1 := Z1.out; have z2 := Z2.out; have z3 := Z3.out; have z4 := Z4.out; have z5 := Z5.out; have z6 := Z6.out; have z7 := Z7.out; have z8 := Z8.out; have z9 := Z9.out; have z10 := Z10.out; have zs5 := ZS5.out; omega)); have P_11 := Sec.mk (carry hF P_10.out (fun h => by unfold Rg at h; have zp := Zp.out; have z1 := Z1.out; have z2 := Z2.out; have z3 := Z3.out; have z4 := Z4.out; have z5 := Z5.out; have z6 := Z6.out; have z7 := Z7.out; have z8 := Z8.out; have z9 := Z9.out; have z10 := Z10.out; have zs5 := ZS5.out; omega)); have U_11 := Sec.mk (Foot.R hF U_10.out (fun k h1 h2 => by unfold Rg at h1 h2; have zp := Zp.out; have z1 := Z1.out; have z2 := Z2.out; have z3 := Z3.out; have z4 := Z4.out; have z5 := Z5.out; have z6 := Z6.out; have z7 := Z7.out; have z8 := Z8.out; have z9 := Z9.out; have z10 := Z10.out; have zs5 := ZS5.out; omega)); clear hF hO') | (clear T9; go_at_call 9; have T10 : Sec True := ⟨trivial⟩; refine (eqSByte_c _ _ (msgBytes s) (msgBytes s) _ _ _ (Kd.R_V G_9.out) (Kd.R_V U_9.out)).mono ?_; rintro e w10 ⟨rfl, hb⟩; rw [tru_]; have Z10 := Sec.mk hb.size; have B_10 := Sec.mk (bel B_9.out hb); have P_10 := Sec.mk (carryB hb P_9.out); have U_10 := Sec.mk (Kd.R_below U_9.out hb); have G_10 := Sec.mk (Kd.R_below G_9.out hb); clear hb) | (clear T8; go_at_call 11; have T9 : Sec True := ⟨trivial⟩; refine (markMsgMsg_c s cx _ 1 (by omega) (by have := HC.out; omega) _ X_8.out).mono ?_; rintro e w9 ⟨rfl, -, hF⟩; have c1 : ¬ (1 + ((mMsgt.cnt s : Nat) : Int) < 0) := (by omega); have Z9 := Sec.mk hF.size; have B_9 := Sec.mk (hF.below B_8.out (fun k h => by unfold Rg at h; have zp := Zp.out; have z1 := Z1.out; have z2 := Z2.out; have z3 := Z3.out; have z4 := Z4.out; have z5 := Z5.out; have z6 := Z6.out; have z7 := Z7.out; have z8 := Z8.out; have zs5 := ZS5.out; omega)); have P_9 := Sec.mk (carry hF P_8.out (fun h => by unfold Rg at h; have zp := Zp.out; have z1 := Z1.out; have z2 := Z2.out; have z3 := Z3.out; have z4 := Z4.out; have z5 := Z5.out; have z6 := Z6.out; have z7 := Z7.out; have z8 := Z8.out; have zs5 := ZS5.out; omega)); have U_9 := Sec.mk (Foot.R hF U_8.out (fun k h1 h2 => by unfold Rg at h1 h2; have zp := Zp.out; have z1 := Z1.out; have z2 := Z2.out; have z3 := Z3.out; have z4 := Z4.out; have z5 := Z5.out; have z6 := Z6.out; have z7 := Z7.out; have z8 := Z8.out; have zs5 := ZS5.out; omega)); have G_9 := Sec.mk (Foot.R hF G_8.out (fun k h1 h2 => by unfold Rg at h1 h2; have zp := Zp.out; have z1 := Z1.out; have z2 := Z2.out; have z3 := Z3.out; have z4 := Z4.out; have z5 := Z5.out; have z6 := Z6.out; have z7 := Z7.out; have z8 := Z8.out; have zs5 := ZS5.out; omega)); clear hF) | (with_reducible show wpList _ _ _ (⟨some 32, .load 34 (.tmp 5), _, _, _, _⟩ :: _) _ _; refine wpList_load (cs := cx) (by first | rfl | (simp [Region.wanted]; done) | (simp [Region.wanted, yielded, Act.put]; omega)) 34 (.tmp 5) rfl rfl BX_8.out hu2 rfl (by rw [cx_len.out]; kernel_rfl) ?_))
    go_ret
    subst hbp
    exact ⟨rfl, bel WBS.out B_16.out⟩
  · have hsp := Raw.spent_gt hbud
    clear hbud hA hK WB
    generalize hbp : w0.heap.size = bp at *
    have T0 : Sec True := ⟨trivial⟩
    go_enter Tryz.func3, Tryz.ntmps3
    go_wp2_with (first | (clear T0; go_at_call 5; refine (szMsgMsg_c s cs 1048576 (Nat.le_refl _) _ RV.out).mono ?_; rintro e w1 ⟨rfl, hb⟩; rw [hsp]; have B1 := Sec.mk hb; clear hb) | (with_reducible show wpList _ _ _ (⟨some 11, .load 26 (.tmp 1), _, _, _, _⟩ :: _) _ _; rw [← WW.out]; refine wpList_load (cs := cs) (by first | rfl | (simp [Region.wanted]; done) | (simp [Region.wanted, yielded, Act.put]; omega)) 26 (.tmp 1) rfl rfl P_0.out hu rfl (by rw [P_len.out]; kernel_rfl) ?_))
    go_ret
    subst hbp
    exact ⟨rfl, bel WBS.out B1.out⟩
end
end Go.Proofs.YteflipoiiddkfaaGreatDoor
