/- Drawn programs. Conditions: none; and what goes with it. -/
import Derived.Test.YtekiikmaaiekkaaGreatDoorNn1
import Derived.Test.YtekiikmaaiekkaaGreatDoorNn6
import Derived.Test.YtekiikmaaiekkaaGreatDoorNn18
namespace Go.Proofs.YtekiikmaaiekkaaGreatDoor
section
open Go.RowKit
set_option linter.unusedVariables false
set_option maxRecDepth 100000
set_option maxHeartbeats 1000000 in
theorem DrawPrgOk_c (w : World) (v : Value) (code : List UInt8) (ok : Nat → Prop) (hV : kByte.V w ok v code) :
    Calls Tryz.prog 42 #[v] w fun e w' => ∃ (p : Prog) (cs : List Value), e = .returned (.agg cs.toArray) ∧ kProg.O w' (fun k => w.heap.size ≤ k) p cs ∧ p.clauses.length ≤ 13 ∧ p.places.length ≤ 13 ∧ Below w.heap.size w w' := by
  have hu2 := Tryz.underlying40
  have B0 := belA (Below.refl w.heap.size w) (.cells #[.slice none 0 0, .slice none 0 0] 40)
  have H0 := Sec.mk (open_c (w.alloc (.cells #[.slice none 0 0, .slice none 0 0] 40)) v code ok (Kd.V_below hV B0 (by decide)))
  have X0 := heap_alloc_new w (.cells #[.slice none 0 0, .slice none 0 0] 40)
  have Z0 : (w.alloc (.cells #[.slice none 0 0, .slice none 0 0] 40)).heap.size = w.heap.size + 1 := by simp
  obtain ⟨A, c, rfl, _⟩ := hV
  go_enter Tryz.func42, Tryz.ntmps42
  go_wp2_with fail
  refine H0.out.mono ?_
  rintro e w1 ⟨g, rfl, hR1, hB1⟩
  have hge := hR1.ge
  have z1 := hB1.size
  go_wp2_with fail
  refine (progOr_c _ w1 g 0 2 hR1 (by omega) (by omega) (by omega)).mono ?_
  rintro e w2 ⟨p, cs, rfl, hO, l1, l2, hR2, hO2⟩
  obtain ⟨v1, v2, rfl, -⟩ := kProg_K (kProg.O_K hO)
  have BB := hR2.bel
  have X2 := Sec.mk ((BB.block w.heap.size (by omega)).trans X0)
  have B2 := Sec.mk (bel B0 BB)
  have HO := Sec.mk (Kd.O_mono hO (S1 := fun k => w.heap.size + 1 ≤ k) (fun k h _ => by omega))
  clear hO hR2 hO2 BB X0 B0 H0 hR1 hB1
  go_wp2_with (with_reducible show wpList _ _ _ (⟨none, .store 40 (.tmp 2) (.tmp 5), _, _, _, _⟩ :: _) _ _; go_loud (refine wpList_store (cs := [v1, v2]) (old := #[.slice none 0 0, .slice none 0 0]) rfl 40 (.tmp 2) (.tmp 5) rfl rfl rfl X2.out (by kernel_rfl) rfl (kProg.K_one (kProg.O_K HO.out)) ?_; intro w8 hb8 hF8; have B8 := Sec.mk hb8; have F8 := Sec.mk hF8; clear hb8 hF8))
  exact bodyPost_ret (results_cell rfl rfl B8.out hu2 rfl (by kernel_rfl)) rfl ⟨p, _, rfl, Kd.O_mono (F8.out.O HO.out (fun k h e => by have e : k = w.heap.size := e; omega)) (fun k h _ => by omega), l1, l2, F8.out.below B2.out (fun k h => Nat.le_of_eq (show k = w.heap.size from h).symm)⟩
end
section
open Go.RowKit
set_option linter.unusedVariables false
/-- What a law's row says of its bytes. -/
def CodeRow (w : World) (a : Option Addr) (len cap : Nat) (zs : List Int) : Prop :=
  (a = none ∧ len = 0 ∧ cap = 0 ∧ zs = []) ∨
  ∃ x, a = some x ∧ len ≤ cap ∧ cap ≤ maxLen ∧ zs.length = cap ∧ (∀ i, i < zs.length → w.cell? (x.add i) = some (.int .u8 (zs.getD i 0))) ∧ ∀ n ∈ zs, (Lit.int .u8 n).wf = true
theorem CodeRow.view {w : World} {a : Option Addr} {len cap : Nat} {zs : List Int} (h : CodeRow w a len cap zs) (hl : len ≤ 1073741824) : ∃ bs : List UInt8, bs.length = len ∧ kByte.V w (fun _ => True) (.slice a len cap) bs := by
  rcases h with ⟨rfl, rfl, rfl, rfl⟩ | ⟨x, rfl, h1, h2, h3, h4, h5⟩
  · exact ⟨[], rfl, Kd.V_nil _ _ _⟩
  · have hlen : ((zs.take len).map u8).length = len := by rw [List.length_map, List.length_take]; omega
    refine ⟨(zs.take len).map u8, hlen, some x, cap, by rw [hlen], by omega, h2, by omega, ?_, fun e => by cases e⟩
    by_cases h0 : len = 0
    · exact .inl (by subst h0; simp)
    · have hs : x.spot = none := by
        have := World.cell?_spot (h4 0 (by omega))
        simpa [Addr.add] using this
      obtain ⟨b, off, spot⟩ := x
      simp only at hs
      subst hs
      refine .inr ⟨b, off, rfl, trivial, fun i y hy => ?_⟩
      have hi : i < len := by have := (List.getElem?_eq_some_iff.1 hy).1; omega
      have hz : i < zs.length := by omega
      refine ⟨[byteC y], ⟨rfl, trivial⟩, fun j u hu => ?_⟩
      have hj : j = 0 := by
        have := (List.getElem?_eq_some_iff.1 hu).1
        simp at this; omega
      subst hj
      obtain rfl : byteC y = u := by simpa using hu
      have hc := h4 i hz
      have hwf := h5 _ (List.getElem_mem hz)
      rw [List.getElem?_map, List.getElem?_take, if_pos hi, List.getElem?_eq_getElem hz] at hy
      obtain rfl : u8 zs[i] = y := by simpa using hy
      have e1 : (⟨b, off, none⟩ : Addr).add i = ⟨b, off + (i * kByte.sz + 0), none⟩ := by
        have : kByte.sz = 1 := rfl
        rw [this]
        unfold Addr.add
        split
        · next h => subst h; simp
        · simp
      rw [e1] at hc
      show w.cell? ⟨b, off + (i * kByte.sz + 0), none⟩ = _
      rw [hc, List.getD_eq_getElem?_getD, List.getElem?_eq_getElem hz]
      have hr : 0 ≤ zs[i] ∧ zs[i] < 256 := by
        simp [Lit.wf, IntKind.min, IntKind.max, IntKind.bits, IntKind.signed] at hwf
        omega
      simp only [Option.getD_some, byteC, u8_toNat]
      rw [Int.emod_eq_of_lt hr.1 hr.2]
end
section
open Go.RowKit
set_option linter.unusedVariables false
set_option maxRecDepth 100000
theorem NodNew0_i (w : World) : Calls Tryz.prog 43 #[] w fun e w' => e = .returned (.agg #[.bool true, .slice none 0 0]) ∧ Below w.heap.size w w' := by
  have hu := Tryz.underlying71
  have X := (box_at (heap_alloc_new w (.cells #[.bool true, .slice none 0 0] 71))).2.1
  have p0 := X 0 _ rfl
  have p1 := X 1 _ rfl
  have B0 := Sec.mk (belA (Below.refl w.heap.size w) (.cells #[.bool true, .slice none 0 0] 71))
  clear X
  go_enter Tryz.func43, Tryz.ntmps43
  go_wp2
  exact bodyPost_ret (v := .agg #[.bool true, .slice none 0 0]) (by simp [results, Tryz.results43, go_sem, p0, p1]) rfl ⟨rfl, B0.out⟩
theorem specPrgOk_b (p : Prog) (cs : List Value) (ok : Nat → Prop) (b : Bool) (w : World) (hK : kProg.K w ok p cs) (hb : prgOk p = b) :
    Calls Tryz.prog 38 #[.agg cs.toArray] w fun e w' => e = .returned (.bool b) ∧ Below w.heap.size w w' := by
  have h9 := specPrgOk_c p cs _ w (kProg.K_move (show Keeps w w ok (fun k => ok k ∧ k < w.heap.size) from fun k h1 h2 => ⟨⟨h1, h2⟩, rfl⟩) hK) (fun k h => h.2)
  rw [hb] at h9
  exact h9
set_option maxHeartbeats 8000000 in
theorem FnNodNew_law_c (a : Option Addr) (len cap : Nat) (zs : List Int) (w0 : World) (hr : CodeRow w0 a len cap zs) :
    Calls Tryz.prog 8 #[.slice a len cap] w0 fun e w' => e = .returned (.bool true) ∧ Below w0.heap.size w0 w' := by
  have hu := Tryz.underlying40
  have hu2 := Tryz.underlying71
  by_cases hl : len ≤ 1048576
  · obtain ⟨code, rfl, hV⟩ := hr.view (by omega)
    have H0 := Sec.mk (DrawPrgOk_c w0 _ code _ hV)
    have ql : decide ((code.length : Int) > 1048576) = false := decide_eq_false (by omega)
    clear hV hr
    go_enter Tryz.func8, Tryz.ntmps8
    go_wp2_with fail
    refine H0.out.mono ?_
    rintro e w1 ⟨p, cs, rfl, hO, l1, l2, hb⟩
    obtain ⟨v1, v2, rfl, k1, k2⟩ := kProg_K (kProg.O_K hO)
    obtain ⟨A1, m1, rfl, -⟩ := k1
    obtain ⟨A2, m2, rfl, -⟩ := k2
    have HB1 := belA (Below.refl w1.heap.size w1) (.cells #[.slice A1 p.clauses.length m1, .slice A2 p.places.length m2] 40)
    have BX := Sec.mk (bel hb HB1)
    have XB := Sec.mk (heap_alloc_new w1 (.cells #[.slice A1 p.clauses.length m1, .slice A2 p.places.length m2] 40))
    obtain ⟨ok, hok⟩ : ∃ ok : Nat → Prop, ok = fun k => w0.heap.size ≤ k := ⟨_, rfl⟩
    have KX0 := Sec.mk (Kd.K_below (kProg.O_K hO) HB1)
    rw [← hok] at KX0
    clear hO hb HB1 H0 hok
    go_wp2_with (fail)
    generalize w1.alloc (.cells #[.slice A1 p.clauses.length m1, .slice A2 p.places.length m2] 40) = wx at *
    generalize w1.heap.size = X at *
    refine (NodNew0_i wx).mono ?_
    rintro e w3 ⟨rfl, hb3⟩
    have HB4 := belA (Below.refl w3.heap.size w3) (.cells #[.bool true, .slice none 0 0] 71)
    have B4 := Sec.mk (bel BX.out (bel hb3 HB4))
    have X4 := Sec.mk (((bel hb3 HB4).block _ (Array.getElem?_eq_some_iff.1 XB.out).1).trans XB.out)
    have Y4 := Sec.mk (heap_alloc_new w3 (.cells #[.bool true, .slice none 0 0] 71))
    have KX4 := Sec.mk (Kd.K_below KX0.out (bel hb3 HB4))
    clear hb3 HB4 KX0 XB BX
    go_wp2_with fail
    generalize w3.alloc (.cells #[.bool true, .slice none 0 0] 71) = wq at *
    generalize w3.heap.size = Y at *
    go_loopw [5] (fun iv wr => ∃ k : Nat, k ≤ 3 ∧ iv = .int .i64 k ∧ Sec (Below wq.heap.size wq wr)) (fun iv _ => 3 - (intOf iv).toNat)
    case atStart => exact ⟨0, by omega, rfl, ⟨Below.refl _ _⟩⟩
    case round =>
      obtain ⟨k, hk, rfl, hbq⟩ := hrel
      have KX := Sec.mk (Kd.K_below KX4.out hbq.out)
      have P0 := Sec.mk ((hbq.out.block _ (Array.getElem?_eq_some_iff.1 X4.out).1).trans X4.out)
      have Q0 := Sec.mk ((hbq.out.block _ (Array.getElem?_eq_some_iff.1 Y4.out).1).trans Y4.out)
      have z0 := (box_at P0.out).2.1 0 _ rfl
      have z1 := (box_at P0.out).2.1 1 _ rfl
      have s0 := (box_at Q0.out).2.1 0 _ rfl
      have s1 := (box_at Q0.out).2.1 1 _ rfl
      by_cases hlt : k < 3
      · have d1 : decide ((k : Int) < 3) = true := decide_eq_true (by omega)
        have hin : inB (k : Int) 0 2 = true := by unfold inB; simp; omega
        have X0 := Sec.mk z0
        have X1 := Sec.mk z1
        have Y0 := Sec.mk s0
        have Y1 := Sec.mk s1
        cases HQ : prgOk p with
        | false =>
          have HBK : Sec ((prgOk p && inB (k : Int) 0 2) = false) := ⟨by rw [HQ]; rfl⟩
          clear hin
          go_wp2
          refine wp_region_lists [[16], [17], [18], [19], [20], [21], [22], [23], [24], [25], [26], [27], [28], [29], [30], [31]]
            [fun val _ _ => val 16 = .agg #[.slice A1 p.clauses.length m1, .slice A2 p.places.length m2],
              fun val _ _ => val 17 = .int .i64 k,
              fun val _ _ => val 18 = .agg #[.bool true, .slice none 0 0],
              fun val _ _ => val 19 = .bool false,
              fun val _ _ => val 20 = .agg #[.slice A1 p.clauses.length m1, .slice A2 p.places.length m2],
              fun val _ _ => val 21 = .bool false,
              fun val _ _ => val 22 = .bool false,
              fun val _ _ => val 23 = .bool false,
              fun val _ _ => val 24 = .agg #[.slice A1 p.clauses.length m1, .slice A2 p.places.length m2],
              fun val _ _ => val 25 = .int .i64 k,
              fun val _ _ => val 26 = .agg #[.bool false, .slice none 0 0],
              fun val _ _ => val 27 = .bool false,
              fun val _ _ => val 28 = .agg #[.slice A1 p.clauses.length m1, .slice A2 p.places.length m2],
              fun val _ _ => val 29 = .bool false,
              fun val _ _ => val 30 = .bool false,
              fun val _ _ => val 31 = .bool false]
            [[], [], [], [], [], [], [], [], [], [], [], [], [], [], [], []] 0 (fun _ => False) (fun _ _ => False) (by kernel_rfl) ⟨by kernel_rfl, by kernel_rfl, by kernel_rfl, by kernel_rfl, by kernel_rfl⟩
            (.cons (stab_val 16 (fun v => v = .agg #[.slice A1 p.clauses.length m1, .slice A2 p.places.length m2])) (.cons (stab_val 17 (fun v => v = .int .i64 k)) (.cons (stab_val 18 (fun v => v = .agg #[.bool true, .slice none 0 0])) (.cons (stab_val 19 (fun v => v = .bool false)) (.cons (stab_val 20 (fun v => v = .agg #[.slice A1 p.clauses.length m1, .slice A2 p.places.length m2])) (.cons (stab_val 21 (fun v => v = .bool false)) (.cons (stab_val 22 (fun v => v = .bool false)) (.cons (stab_val 23 (fun v => v = .bool false)) (.cons (stab_val 24 (fun v => v = .agg #[.slice A1 p.clauses.length m1, .slice A2 p.places.length m2])) (.cons (stab_val 25 (fun v => v = .int .i64 k)) (.cons (stab_val 26 (fun v => v = .agg #[.bool false, .slice none 0 0])) (.cons (stab_val 27 (fun v => v = .bool false)) (.cons (stab_val 28 (fun v => v = .agg #[.slice A1 p.clauses.length m1, .slice A2 p.places.length m2])) (.cons (stab_val 29 (fun v => v = .bool false)) (.cons (stab_val 30 (fun v => v = .bool false)) (.cons (stab_val 31 (fun v => v = .bool false)) .nil))))))))))))))))
            (fun i j k h1 h2 => h1.elim) (fun i k h => h.elim) (fun i h1 h2 => by simp at h1 h2; omega) (.cons ?_ (.cons ?_ (.cons ?_ (.cons ?_ (.cons ?_ (.cons ?_ (.cons ?_ (.cons ?_ (.cons ?_ (.cons ?_ (.cons ?_ (.cons ?_ (.cons ?_ (.cons ?_ (.cons ?_ (.cons ?_ .nil)))))))))))))))) ?_
          · intro a W own hfor huse hap hmi hF K hK
            have e3 : a.eval (.tmp 3) = .pointer (some ⟨X, 0, none⟩) := hfor 3 (by kernel_rfl)
            have c0 := foot_cell hF (fun h => h) X0.out
            have c1 := foot_cell hF (fun h => h) X1.out
            refine op_val (.agg #[.slice A1 p.clauses.length m1, .slice A2 p.places.length m2]) W rfl ?_ (hK _ _ (post_pure ?_))
            · clear hfor huse hap hmi hK hF
              generalize a.eval = ρ at *
              go_simp
            · exact (if_pos rfl)
          · intro a W own hfor huse hap hmi hF K hK
            have e5 : a.eval (.tmp 5) = .int .i64 k := hfor 5 (by kernel_rfl)
            refine op_val (.int .i64 k) W rfl ?_ (hK _ _ (post_pure ?_))
            · clear hfor huse hap hmi hK hF
              generalize a.eval = ρ at *
              go_simp
            · exact (if_pos rfl)
          · intro a W own hfor huse hap hmi hF K hK
            have e4 : a.eval (.tmp 4) = .pointer (some ⟨Y, 0, none⟩) := hfor 4 (by kernel_rfl)
            have c0 := foot_cell hF (fun h => h) Y0.out
            have c1 := foot_cell hF (fun h => h) Y1.out
            refine op_val (.agg #[.bool true, .slice none 0 0]) W rfl ?_ (hK _ _ (post_pure ?_))
            · clear hfor huse hap hmi hK hF
              generalize a.eval = ρ at *
              go_simp
            · exact (if_pos rfl)
          · intro a W own hfor huse hap hmi hF K hK
            have e16 : a.eval (.tmp 16) = .agg #[.slice A1 p.clauses.length m1, .slice A2 p.places.length m2] := huse 0 (by kernel_rfl)
            have e17 : a.eval (.tmp 17) = .int .i64 k := huse 1 (by kernel_rfl)
            have e18 : a.eval (.tmp 18) = .agg #[.bool true, .slice none 0 0] := huse 2 (by kernel_rfl)
            have hkx := kProg.K_move (show Keeps wr W ok ok from fun q h1 h2 => ⟨h1, hF.block q h2 (fun h => h)⟩) KX.out
            have efn : a.eval (.func 44) = .func (.func 44) #[] #[] := rfl
            refine op_call (f := 44) (args := #[.agg #[.slice A1 p.clauses.length m1, .slice A2 p.places.length m2], .int .i64 k, .agg #[.bool true, .slice none 0 0]]) (fun v w1 => v = .bool false ∧ Below W.heap.size W w1) rfl ?_ ?_ (fun v w1 h => ?_)
            · clear hfor huse hap hmi hK hF
              generalize a.eval = ρ at *
              go_simp
            · exact (NodOk0_i p _ _ k true _ _ false W hkx HBK.out).mono (by rintro e w1 ⟨rfl, h2⟩; exact ⟨_, rfl, rfl, h2⟩)
            · obtain ⟨rfl, h2⟩ := h
              exact hK _ _ (post_new h2 (if_pos rfl))
          · intro a W own hfor huse hap hmi hF K hK
            have e3 : a.eval (.tmp 3) = .pointer (some ⟨X, 0, none⟩) := hfor 3 (by kernel_rfl)
            have c0 := foot_cell hF (fun h => h) X0.out
            have c1 := foot_cell hF (fun h => h) X1.out
            refine op_val (.agg #[.slice A1 p.clauses.length m1, .slice A2 p.places.length m2]) W rfl ?_ (hK _ _ (post_pure ?_))
            · clear hfor huse hap hmi hK hF
              generalize a.eval = ρ at *
              go_simp
            · exact (if_pos rfl)
          · intro a W own hfor huse hap hmi hF K hK
            have e20 : a.eval (.tmp 20) = .agg #[.slice A1 p.clauses.length m1, .slice A2 p.places.length m2] := huse 4 (by kernel_rfl)
            have hkx := kProg.K_move (show Keeps wr W ok ok from fun q h1 h2 => ⟨h1, hF.block q h2 (fun h => h)⟩) KX.out
            have efn : a.eval (.func 38) = .func (.func 38) #[] #[] := rfl
            refine op_call (f := 38) (args := #[.agg #[.slice A1 p.clauses.length m1, .slice A2 p.places.length m2]]) (fun v w1 => v = .bool false ∧ Below W.heap.size W w1) rfl ?_ ?_ (fun v w1 h => ?_)
            · clear hfor huse hap hmi hK hF
              generalize a.eval = ρ at *
              go_simp
            · exact (specPrgOk_b p _ ok false W hkx HQ).mono (by rintro e w1 ⟨rfl, h2⟩; exact ⟨_, rfl, rfl, h2⟩)
            · obtain ⟨rfl, h2⟩ := h
              exact hK _ _ (post_new h2 (if_pos rfl))
          · intro a W own hfor huse hap hmi hF K hK
            have e19 : a.eval (.tmp 19) = .bool false := huse 3 (by kernel_rfl)
            have e21 : a.eval (.tmp 21) = .bool false := huse 5 (by kernel_rfl)
            refine op_val (.bool false) W rfl ?_ (hK _ _ (post_pure ?_))
            · clear hfor huse hap hmi hK hF
              generalize a.eval = ρ at *
              go_simp
            · exact (if_pos rfl)
          · intro a W own hfor huse hap hmi hF K hK
            have e22 : a.eval (.tmp 22) = .bool false := huse 6 (by kernel_rfl)
            refine op_val (.bool false) W rfl ?_ (hK _ _ (post_pure ?_))
            · clear hfor huse hap hmi hK hF
              generalize a.eval = ρ at *
              go_simp
            · exact (if_pos rfl)
          · intro a W own hfor huse hap hmi hF K hK
            have e3 : a.eval (.tmp 3) = .pointer (some ⟨X, 0, none⟩) := hfor 3 (by kernel_rfl)
            have e23 : a.eval (.tmp 23) = .bool false := huse 7 (by kernel_rfl)
            have c0 := foot_cell hF (fun h => h) X0.out
            have c1 := foot_cell hF (fun h => h) X1.out
            refine gop_val (.agg #[.slice A1 p.clauses.length m1, .slice A2 p.places.length m2]) W (want_yes (j := 7) (b := false) rfl (yield_of (t := 23) rfl rfl e23)) ?_ (hK _ _ (post_pure ?_))
            · clear hfor huse hap hmi hK hF
              generalize a.eval = ρ at *
              go_simp
            · exact (if_pos rfl)
          · intro a W own hfor huse hap hmi hF K hK
            have e5 : a.eval (.tmp 5) = .int .i64 k := hfor 5 (by kernel_rfl)
            have e23 : a.eval (.tmp 23) = .bool false := huse 7 (by kernel_rfl)
            refine gop_val (.int .i64 k) W (want_yes (j := 7) (b := false) rfl (yield_of (t := 23) rfl rfl e23)) ?_ (hK _ _ (post_pure ?_))
            · clear hfor huse hap hmi hK hF
              generalize a.eval = ρ at *
              go_simp
            · exact (if_pos rfl)
          · intro a W own hfor huse hap hmi hF K hK
            have e23 : a.eval (.tmp 23) = .bool false := huse 7 (by kernel_rfl)
            refine gop_val (.agg #[.bool false, .slice none 0 0]) W (want_yes (j := 7) (b := false) rfl (yield_of (t := 23) rfl rfl e23)) ?_ (hK _ _ (post_pure ?_))
            · clear hfor huse hap hmi hK hF
              generalize a.eval = ρ at *
              go_simp
            · exact (if_pos rfl)
          · intro a W own hfor huse hap hmi hF K hK
            have e24 : a.eval (.tmp 24) = .agg #[.slice A1 p.clauses.length m1, .slice A2 p.places.length m2] := huse 8 (by kernel_rfl)
            have e25 : a.eval (.tmp 25) = .int .i64 k := huse 9 (by kernel_rfl)
            have e26 : a.eval (.tmp 26) = .agg #[.bool false, .slice none 0 0] := huse 10 (by kernel_rfl)
            have e23 : a.eval (.tmp 23) = .bool false := huse 7 (by kernel_rfl)
            have hkx := kProg.K_move (show Keeps wr W ok ok from fun q h1 h2 => ⟨h1, hF.block q h2 (fun h => h)⟩) KX.out
            have efn : a.eval (.func 44) = .func (.func 44) #[] #[] := rfl
            refine gop_call (f := 44) (args := #[.agg #[.slice A1 p.clauses.length m1, .slice A2 p.places.length m2], .int .i64 k, .agg #[.bool false, .slice none 0 0]]) (fun v w1 => v = .bool false ∧ Below W.heap.size W w1) (want_yes (j := 7) (b := false) rfl (yield_of (t := 23) rfl rfl e23)) ?_ ?_ (fun v w1 h => ?_)
            · clear hfor huse hap hmi hK hF
              generalize a.eval = ρ at *
              go_simp
            · exact (NodOk0_i p _ _ k false _ _ false W hkx HBK.out).mono (by rintro e w1 ⟨rfl, h2⟩; exact ⟨_, rfl, rfl, h2⟩)
            · obtain ⟨rfl, h2⟩ := h
              exact hK _ _ (post_new h2 (if_pos rfl))
          · intro a W own hfor huse hap hmi hF K hK
            have e3 : a.eval (.tmp 3) = .pointer (some ⟨X, 0, none⟩) := hfor 3 (by kernel_rfl)
            have e23 : a.eval (.tmp 23) = .bool false := huse 7 (by kernel_rfl)
            have c0 := foot_cell hF (fun h => h) X0.out
            have c1 := foot_cell hF (fun h => h) X1.out
            refine gop_val (.agg #[.slice A1 p.clauses.length m1, .slice A2 p.places.length m2]) W (want_yes (j := 7) (b := false) rfl (yield_of (t := 23) rfl rfl e23)) ?_ (hK _ _ (post_pure ?_))
            · clear hfor huse hap hmi hK hF
              generalize a.eval = ρ at *
              go_simp
            · exact (if_pos rfl)
          · intro a W own hfor huse hap hmi hF K hK
            have e28 : a.eval (.tmp 28) = .agg #[.slice A1 p.clauses.length m1, .slice A2 p.places.length m2] := huse 12 (by kernel_rfl)
            have e23 : a.eval (.tmp 23) = .bool false := huse 7 (by kernel_rfl)
            have hkx := kProg.K_move (show Keeps wr W ok ok from fun q h1 h2 => ⟨h1, hF.block q h2 (fun h => h)⟩) KX.out
            have efn : a.eval (.func 38) = .func (.func 38) #[] #[] := rfl
            refine gop_call (f := 38) (args := #[.agg #[.slice A1 p.clauses.length m1, .slice A2 p.places.length m2]]) (fun v w1 => v = .bool false ∧ Below W.heap.size W w1) (want_yes (j := 7) (b := false) rfl (yield_of (t := 23) rfl rfl e23)) ?_ ?_ (fun v w1 h => ?_)
            · clear hfor huse hap hmi hK hF
              generalize a.eval = ρ at *
              go_simp
            · exact (specPrgOk_b p _ ok false W hkx HQ).mono (by rintro e w1 ⟨rfl, h2⟩; exact ⟨_, rfl, rfl, h2⟩)
            · obtain ⟨rfl, h2⟩ := h
              exact hK _ _ (post_new h2 (if_pos rfl))
          · intro a W own hfor huse hap hmi hF K hK
            have e27 : a.eval (.tmp 27) = .bool false := huse 11 (by kernel_rfl)
            have e29 : a.eval (.tmp 29) = .bool false := huse 13 (by kernel_rfl)
            have e23 : a.eval (.tmp 23) = .bool false := huse 7 (by kernel_rfl)
            refine gop_val (.bool false) W (want_yes (j := 7) (b := false) rfl (yield_of (t := 23) rfl rfl e23)) ?_ (hK _ _ (post_pure ?_))
            · clear hfor huse hap hmi hK hF
              generalize a.eval = ρ at *
              go_simp
            · exact (if_pos rfl)
          · intro a W own hfor huse hap hmi hF K hK
            have e23 : a.eval (.tmp 23) = .bool false := huse 7 (by kernel_rfl)
            have e30 : a.eval (.tmp 30) = .bool false := huse 14 (by kernel_rfl)
            have ec : a.eval (.const (.bool true)) = .bool true := rfl
            refine op_val (.bool false) W rfl ?_ (hK _ _ (post_pure ?_))
            · clear hfor huse hap hmi hK hF
              generalize a.eval = ρ at *
              go_simp
            · exact (if_pos rfl)
          intro a' W own hf
          have s1 := hf.st.size
          have s2 := hf.st.rest
          have s3 := fun t ht => hf.st.kept t ht
          revert hf
          revert a'
          refine lay_intro (df := []) [true, true, true, true, true, true, true, true, true, true, true, true, true, true, true, true, false, false, false, false, false, false, false, false, false, false, false, false, false, false, false, false, true, true, true, true, true, true, true, true, true, true, true, true, true, true, true, true, true, true, true, true] (by kernel_rfl) rfl ?_
          intro x31 x30 x29 x28 x27 x26 x25 x24 x23 x22 x21 x20 x19 x18 x17 x16 hf
          have e31 : x31 = .bool false := hf.at 15 (fun val _ _ => val 31 = .bool false) rfl (by kernel_rfl)
          subst e31
          have HF := Sec.mk hf.st.foot
          clear hf
          have B9 := Sec.mk (HF.out.below (belD hbq.out) (fun k h => h.elim))
          clear HF
          go_wp2
          go_roundw
          case rel => exact ⟨k + 1, by omega, by go_num, B9⟩
          case measure => simp [intOf]; omega
        | true =>
          have HBK : Sec ((prgOk p && inB (k : Int) 0 2) = true) := ⟨by rw [HQ, hin]; rfl⟩
          clear hin
          go_wp2
          refine wp_region_lists [[16], [17], [18], [19], [20], [21], [22], [23], [24], [25], [26], [27], [28], [29], [30], [31]]
            [fun val _ _ => val 16 = .agg #[.slice A1 p.clauses.length m1, .slice A2 p.places.length m2],
              fun val _ _ => val 17 = .int .i64 k,
              fun val _ _ => val 18 = .agg #[.bool true, .slice none 0 0],
              fun val _ _ => val 19 = .bool true,
              fun val _ _ => val 20 = .agg #[.slice A1 p.clauses.length m1, .slice A2 p.places.length m2],
              fun val _ _ => val 21 = .bool true,
              fun val _ _ => val 22 = .bool false,
              fun val _ _ => val 23 = .bool false,
              fun val _ _ => val 24 = .agg #[.slice A1 p.clauses.length m1, .slice A2 p.places.length m2],
              fun val _ _ => val 25 = .int .i64 k,
              fun val _ _ => val 26 = .agg #[.bool false, .slice none 0 0],
              fun val _ _ => val 27 = .bool true,
              fun val _ _ => val 28 = .agg #[.slice A1 p.clauses.length m1, .slice A2 p.places.length m2],
              fun val _ _ => val 29 = .bool true,
              fun val _ _ => val 30 = .bool false,
              fun val _ _ => val 31 = .bool false]
            [[], [], [], [], [], [], [], [], [], [], [], [], [], [], [], []] 0 (fun _ => False) (fun _ _ => False) (by kernel_rfl) ⟨by kernel_rfl, by kernel_rfl, by kernel_rfl, by kernel_rfl, by kernel_rfl⟩
            (.cons (stab_val 16 (fun v => v = .agg #[.slice A1 p.clauses.length m1, .slice A2 p.places.length m2])) (.cons (stab_val 17 (fun v => v = .int .i64 k)) (.cons (stab_val 18 (fun v => v = .agg #[.bool true, .slice none 0 0])) (.cons (stab_val 19 (fun v => v = .bool true)) (.cons (stab_val 20 (fun v => v = .agg #[.slice A1 p.clauses.length m1, .slice A2 p.places.length m2])) (.cons (stab_val 21 (fun v => v = .bool true)) (.cons (stab_val 22 (fun v => v = .bool false)) (.cons (stab_val 23 (fun v => v = .bool false)) (.cons (stab_val 24 (fun v => v = .agg #[.slice A1 p.clauses.length m1, .slice A2 p.places.length m2])) (.cons (stab_val 25 (fun v => v = .int .i64 k)) (.cons (stab_val 26 (fun v => v = .agg #[.bool false, .slice none 0 0])) (.cons (stab_val 27 (fun v => v = .bool true)) (.cons (stab_val 28 (fun v => v = .agg #[.slice A1 p.clauses.length m1, .slice A2 p.places.length m2])) (.cons (stab_val 29 (fun v => v = .bool true)) (.cons (stab_val 30 (fun v => v = .bool false)) (.cons (stab_val 31 (fun v => v = .bool false)) .nil))))))))))))))))
            (fun i j k h1 h2 => h1.elim) (fun i k h => h.elim) (fun i h1 h2 => by simp at h1 h2; omega) (.cons ?_ (.cons ?_ (.cons ?_ (.cons ?_ (.cons ?_ (.cons ?_ (.cons ?_ (.cons ?_ (.cons ?_ (.cons ?_ (.cons ?_ (.cons ?_ (.cons ?_ (.cons ?_ (.cons ?_ (.cons ?_ .nil)))))))))))))))) ?_
          · intro a W own hfor huse hap hmi hF K hK
            have e3 : a.eval (.tmp 3) = .pointer (some ⟨X, 0, none⟩) := hfor 3 (by kernel_rfl)
            have c0 := foot_cell hF (fun h => h) X0.out
            have c1 := foot_cell hF (fun h => h) X1.out
            refine op_val (.agg #[.slice A1 p.clauses.length m1, .slice A2 p.places.length m2]) W rfl ?_ (hK _ _ (post_pure ?_))
            · clear hfor huse hap hmi hK hF
              generalize a.eval = ρ at *
              go_simp
            · exact (if_pos rfl)
          · intro a W own hfor huse hap hmi hF K hK
            have e5 : a.eval (.tmp 5) = .int .i64 k := hfor 5 (by kernel_rfl)
            refine op_val (.int .i64 k) W rfl ?_ (hK _ _ (post_pure ?_))
            · clear hfor huse hap hmi hK hF
              generalize a.eval = ρ at *
              go_simp
            · exact (if_pos rfl)
          · intro a W own hfor huse hap hmi hF K hK
            have e4 : a.eval (.tmp 4) = .pointer (some ⟨Y, 0, none⟩) := hfor 4 (by kernel_rfl)
            have c0 := foot_cell hF (fun h => h) Y0.out
            have c1 := foot_cell hF (fun h => h) Y1.out
            refine op_val (.agg #[.bool true, .slice none 0 0]) W rfl ?_ (hK _ _ (post_pure ?_))
            · clear hfor huse hap hmi hK hF
              generalize a.eval = ρ at *
              go_simp
            · exact (if_pos rfl)
          · intro a W own hfor huse hap hmi hF K hK
            have e16 : a.eval (.tmp 16) = .agg #[.slice A1 p.clauses.length m1, .slice A2 p.places.length m2] := huse 0 (by kernel_rfl)
            have e17 : a.eval (.tmp 17) = .int .i64 k := huse 1 (by kernel_rfl)
            have e18 : a.eval (.tmp 18) = .agg #[.bool true, .slice none 0 0] := huse 2 (by kernel_rfl)
            have hkx := kProg.K_move (show Keeps wr W ok ok from fun q h1 h2 => ⟨h1, hF.block q h2 (fun h => h)⟩) KX.out
            have efn : a.eval (.func 44) = .func (.func 44) #[] #[] := rfl
            refine op_call (f := 44) (args := #[.agg #[.slice A1 p.clauses.length m1, .slice A2 p.places.length m2], .int .i64 k, .agg #[.bool true, .slice none 0 0]]) (fun v w1 => v = .bool true ∧ Below W.heap.size W w1) rfl ?_ ?_ (fun v w1 h => ?_)
            · clear hfor huse hap hmi hK hF
              generalize a.eval = ρ at *
              go_simp
            · exact (NodOk0_i p _ _ k true _ _ true W hkx HBK.out).mono (by rintro e w1 ⟨rfl, h2⟩; exact ⟨_, rfl, rfl, h2⟩)
            · obtain ⟨rfl, h2⟩ := h
              exact hK _ _ (post_new h2 (if_pos rfl))
          · intro a W own hfor huse hap hmi hF K hK
            have e3 : a.eval (.tmp 3) = .pointer (some ⟨X, 0, none⟩) := hfor 3 (by kernel_rfl)
            have c0 := foot_cell hF (fun h => h) X0.out
            have c1 := foot_cell hF (fun h => h) X1.out
            refine op_val (.agg #[.slice A1 p.clauses.length m1, .slice A2 p.places.length m2]) W rfl ?_ (hK _ _ (post_pure ?_))
            · clear hfor huse hap hmi hK hF
              generalize a.eval = ρ at *
              go_simp
            · exact (if_pos rfl)
          · intro a W own hfor huse hap hmi hF K hK
            have e20 : a.eval (.tmp 20) = .agg #[.slice A1 p.clauses.length m1, .slice A2 p.places.length m2] := huse 4 (by kernel_rfl)
            have hkx := kProg.K_move (show Keeps wr W ok ok from fun q h1 h2 => ⟨h1, hF.block q h2 (fun h => h)⟩) KX.out
            have efn : a.eval (.func 38) = .func (.func 38) #[] #[] := rfl
            refine op_call (f := 38) (args := #[.agg #[.slice A1 p.clauses.length m1, .slice A2 p.places.length m2]]) (fun v w1 => v = .bool true ∧ Below W.heap.size W w1) rfl ?_ ?_ (fun v w1 h => ?_)
            · clear hfor huse hap hmi hK hF
              generalize a.eval = ρ at *
              go_simp
            · exact (specPrgOk_b p _ ok true W hkx HQ).mono (by rintro e w1 ⟨rfl, h2⟩; exact ⟨_, rfl, rfl, h2⟩)
            · obtain ⟨rfl, h2⟩ := h
              exact hK _ _ (post_new h2 (if_pos rfl))
          · intro a W own hfor huse hap hmi hF K hK
            have e19 : a.eval (.tmp 19) = .bool true := huse 3 (by kernel_rfl)
            have e21 : a.eval (.tmp 21) = .bool true := huse 5 (by kernel_rfl)
            refine op_val (.bool false) W rfl ?_ (hK _ _ (post_pure ?_))
            · clear hfor huse hap hmi hK hF
              generalize a.eval = ρ at *
              go_simp
            · exact (if_pos rfl)
          · intro a W own hfor huse hap hmi hF K hK
            have e22 : a.eval (.tmp 22) = .bool false := huse 6 (by kernel_rfl)
            refine op_val (.bool false) W rfl ?_ (hK _ _ (post_pure ?_))
            · clear hfor huse hap hmi hK hF
              generalize a.eval = ρ at *
              go_simp
            · exact (if_pos rfl)
          · intro a W own hfor huse hap hmi hF K hK
            have e3 : a.eval (.tmp 3) = .pointer (some ⟨X, 0, none⟩) := hfor 3 (by kernel_rfl)
            have e23 : a.eval (.tmp 23) = .bool false := huse 7 (by kernel_rfl)
            have c0 := foot_cell hF (fun h => h) X0.out
            have c1 := foot_cell hF (fun h => h) X1.out
            refine gop_val (.agg #[.slice A1 p.clauses.length m1, .slice A2 p.places.length m2]) W (want_yes (j := 7) (b := false) rfl (yield_of (t := 23) rfl rfl e23)) ?_ (hK _ _ (post_pure ?_))
            · clear hfor huse hap hmi hK hF
              generalize a.eval = ρ at *
              go_simp
            · exact (if_pos rfl)
          · intro a W own hfor huse hap hmi hF K hK
            have e5 : a.eval (.tmp 5) = .int .i64 k := hfor 5 (by kernel_rfl)
            have e23 : a.eval (.tmp 23) = .bool false := huse 7 (by kernel_rfl)
            refine gop_val (.int .i64 k) W (want_yes (j := 7) (b := false) rfl (yield_of (t := 23) rfl rfl e23)) ?_ (hK _ _ (post_pure ?_))
            · clear hfor huse hap hmi hK hF
              generalize a.eval = ρ at *
              go_simp
            · exact (if_pos rfl)
          · intro a W own hfor huse hap hmi hF K hK
            have e23 : a.eval (.tmp 23) = .bool false := huse 7 (by kernel_rfl)
            refine gop_val (.agg #[.bool false, .slice none 0 0]) W (want_yes (j := 7) (b := false) rfl (yield_of (t := 23) rfl rfl e23)) ?_ (hK _ _ (post_pure ?_))
            · clear hfor huse hap hmi hK hF
              generalize a.eval = ρ at *
              go_simp
            · exact (if_pos rfl)
          · intro a W own hfor huse hap hmi hF K hK
            have e24 : a.eval (.tmp 24) = .agg #[.slice A1 p.clauses.length m1, .slice A2 p.places.length m2] := huse 8 (by kernel_rfl)
            have e25 : a.eval (.tmp 25) = .int .i64 k := huse 9 (by kernel_rfl)
            have e26 : a.eval (.tmp 26) = .agg #[.bool false, .slice none 0 0] := huse 10 (by kernel_rfl)
            have e23 : a.eval (.tmp 23) = .bool false := huse 7 (by kernel_rfl)
            have hkx := kProg.K_move (show Keeps wr W ok ok from fun q h1 h2 => ⟨h1, hF.block q h2 (fun h => h)⟩) KX.out
            have efn : a.eval (.func 44) = .func (.func 44) #[] #[] := rfl
            refine gop_call (f := 44) (args := #[.agg #[.slice A1 p.clauses.length m1, .slice A2 p.places.length m2], .int .i64 k, .agg #[.bool false, .slice none 0 0]]) (fun v w1 => v = .bool true ∧ Below W.heap.size W w1) (want_yes (j := 7) (b := false) rfl (yield_of (t := 23) rfl rfl e23)) ?_ ?_ (fun v w1 h => ?_)
            · clear hfor huse hap hmi hK hF
              generalize a.eval = ρ at *
              go_simp
            · exact (NodOk0_i p _ _ k false _ _ true W hkx HBK.out).mono (by rintro e w1 ⟨rfl, h2⟩; exact ⟨_, rfl, rfl, h2⟩)
            · obtain ⟨rfl, h2⟩ := h
              exact hK _ _ (post_new h2 (if_pos rfl))
          · intro a W own hfor huse hap hmi hF K hK
            have e3 : a.eval (.tmp 3) = .pointer (some ⟨X, 0, none⟩) := hfor 3 (by kernel_rfl)
            have e23 : a.eval (.tmp 23) = .bool false := huse 7 (by kernel_rfl)
            have c0 := foot_cell hF (fun h => h) X0.out
            have c1 := foot_cell hF (fun h => h) X1.out
            refine gop_val (.agg #[.slice A1 p.clauses.length m1, .slice A2 p.places.length m2]) W (want_yes (j := 7) (b := false) rfl (yield_of (t := 23) rfl rfl e23)) ?_ (hK _ _ (post_pure ?_))
            · clear hfor huse hap hmi hK hF
              generalize a.eval = ρ at *
              go_simp
            · exact (if_pos rfl)
          · intro a W own hfor huse hap hmi hF K hK
            have e28 : a.eval (.tmp 28) = .agg #[.slice A1 p.clauses.length m1, .slice A2 p.places.length m2] := huse 12 (by kernel_rfl)
            have e23 : a.eval (.tmp 23) = .bool false := huse 7 (by kernel_rfl)
            have hkx := kProg.K_move (show Keeps wr W ok ok from fun q h1 h2 => ⟨h1, hF.block q h2 (fun h => h)⟩) KX.out
            have efn : a.eval (.func 38) = .func (.func 38) #[] #[] := rfl
            refine gop_call (f := 38) (args := #[.agg #[.slice A1 p.clauses.length m1, .slice A2 p.places.length m2]]) (fun v w1 => v = .bool true ∧ Below W.heap.size W w1) (want_yes (j := 7) (b := false) rfl (yield_of (t := 23) rfl rfl e23)) ?_ ?_ (fun v w1 h => ?_)
            · clear hfor huse hap hmi hK hF
              generalize a.eval = ρ at *
              go_simp
            · exact (specPrgOk_b p _ ok true W hkx HQ).mono (by rintro e w1 ⟨rfl, h2⟩; exact ⟨_, rfl, rfl, h2⟩)
            · obtain ⟨rfl, h2⟩ := h
              exact hK _ _ (post_new h2 (if_pos rfl))
          · intro a W own hfor huse hap hmi hF K hK
            have e27 : a.eval (.tmp 27) = .bool true := huse 11 (by kernel_rfl)
            have e29 : a.eval (.tmp 29) = .bool true := huse 13 (by kernel_rfl)
            have e23 : a.eval (.tmp 23) = .bool false := huse 7 (by kernel_rfl)
            refine gop_val (.bool false) W (want_yes (j := 7) (b := false) rfl (yield_of (t := 23) rfl rfl e23)) ?_ (hK _ _ (post_pure ?_))
            · clear hfor huse hap hmi hK hF
              generalize a.eval = ρ at *
              go_simp
            · exact (if_pos rfl)
          · intro a W own hfor huse hap hmi hF K hK
            have e23 : a.eval (.tmp 23) = .bool false := huse 7 (by kernel_rfl)
            have e30 : a.eval (.tmp 30) = .bool false := huse 14 (by kernel_rfl)
            have ec : a.eval (.const (.bool true)) = .bool true := rfl
            refine op_val (.bool false) W rfl ?_ (hK _ _ (post_pure ?_))
            · clear hfor huse hap hmi hK hF
              generalize a.eval = ρ at *
              go_simp
            · exact (if_pos rfl)
          intro a' W own hf
          have s1 := hf.st.size
          have s2 := hf.st.rest
          have s3 := fun t ht => hf.st.kept t ht
          revert hf
          revert a'
          refine lay_intro (df := []) [true, true, true, true, true, true, true, true, true, true, true, true, true, true, true, true, false, false, false, false, false, false, false, false, false, false, false, false, false, false, false, false, true, true, true, true, true, true, true, true, true, true, true, true, true, true, true, true, true, true, true, true] (by kernel_rfl) rfl ?_
          intro x31 x30 x29 x28 x27 x26 x25 x24 x23 x22 x21 x20 x19 x18 x17 x16 hf
          have e31 : x31 = .bool false := hf.at 15 (fun val _ _ => val 31 = .bool false) rfl (by kernel_rfl)
          subst e31
          have HF := Sec.mk hf.st.foot
          clear hf
          have B9 := Sec.mk (HF.out.below (belD hbq.out) (fun k h => h.elim))
          clear HF
          go_wp2
          go_roundw
          case rel => exact ⟨k + 1, by omega, by go_num, B9⟩
          case measure => simp [intOf]; omega
      · have d1 : decide ((k : Int) < 3) = false := decide_eq_false (by omega)
        have B0 : Sec (Below wr.heap.size wr wr) := ⟨Below.refl _ _⟩
        have T0 : Sec True := ⟨trivial⟩
        go_wp2_with (first | (clear T1; go_at_call 44; have T2 : Sec True := ⟨trivial⟩; refine (NodOk0_i p _ _ (3) true _ _ false _ (Kd.K_below KX.out B1.out) (by cases prgOk p <;> decide)).mono ?_; rintro e w2 ⟨rfl, hb⟩; have B2 := Sec.mk (bel B1.out hb); have P2 := Sec.mk ((hb.block _ (Array.getElem?_eq_some_iff.1 P1.out).1).trans P1.out); have Q2 := Sec.mk ((hb.block _ (Array.getElem?_eq_some_iff.1 Q1.out).1).trans Q1.out); have a20 := (box_at P2.out).2.1 0 _ rfl; have a21 := (box_at P2.out).2.1 1 _ rfl; have b20 := (box_at Q2.out).2.1 0 _ rfl; have b21 := (box_at Q2.out).2.1 1 _ rfl; clear hb) | (clear T0; go_at_call 44; have T1 : Sec True := ⟨trivial⟩; refine (NodOk0_i p _ _ (-1) true _ _ false _ (Kd.K_below KX.out B0.out) (by cases prgOk p <;> decide)).mono ?_; rintro e w1 ⟨rfl, hb⟩; have B1 := Sec.mk (bel B0.out hb); have P1 := Sec.mk ((hb.block _ (Array.getElem?_eq_some_iff.1 P0.out).1).trans P0.out); have Q1 := Sec.mk ((hb.block _ (Array.getElem?_eq_some_iff.1 Q0.out).1).trans Q0.out); have a10 := (box_at P1.out).2.1 0 _ rfl; have a11 := (box_at P1.out).2.1 1 _ rfl; have b10 := (box_at Q1.out).2.1 0 _ rfl; have b11 := (box_at Q1.out).2.1 1 _ rfl; clear hb))
        go_ret
        exact ⟨rfl, bel (bel B4.out hbq.out) B2.out⟩
  · have ql : decide ((len : Int) > 1048576) = true := decide_eq_true (by omega)
    go_enter Tryz.func8, Tryz.ntmps8
    go_wp2
    go_ret
    exact ⟨rfl, Below.refl _ _⟩
end
end Go.Proofs.YtekiikmaaiekkaaGreatDoor
