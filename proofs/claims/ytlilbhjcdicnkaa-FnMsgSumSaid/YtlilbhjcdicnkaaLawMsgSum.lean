/- FnMsgSum: the law's walk. -/
import Derived.Test.YtlilbhjcdicnkaaDraw6
import Derived.Test.YtlilbhjcdicnkaaCode
namespace Go.Proofs.Ytlilbhjcdicnkaa
open Go.RowKit
set_option linter.unusedVariables false
set_option maxRecDepth 100000
theorem xor_ne (a b : Nat) (hb : b ≠ 0) : a ^^^ b ≠ a := fun h => hb (by
  have : a ^^^ (a ^^^ b) = b := by rw [← Nat.xor_assoc, Nat.xor_self, Nat.zero_xor]
  rw [← this, h, Nat.xor_self])
set_option maxHeartbeats 2000000 in
theorem law_c (w : World) (a : Option Addr) (len cap : Nat) (zs : List Int) (hr : CodeRow w a len cap zs) :
    Calls Try.prog 4 #[.slice a len cap] w fun e w' => e = .returned (.bool true) ∧ Below w.heap.size w w' := by
  by_cases hl : len ≤ 1048576
  · obtain ⟨code, rfl, hV⟩ := hr.view (by omega)
    have H0 := Sec.mk (DrawMsgSum_c w _ code _ hV)
    clear hV hr
    go_enter Try.func4, Try.ntmps4
    go_wp2_with fail
    refine H0.out.mono ?_
    rintro e w1 ⟨u, bs, rfl, hR1, hl1, hb1⟩
    have S1 := Sec.mk hR1
    have B1 := Sec.mk hb1
    have z1 := hb1.size
    obtain ⟨A1, c1, e1, _⟩ := Kd.R_form hR1
    subst e1
    clear hR1 hb1
    go_wp2_with fail
    refine (MsgSum_c w1 _ bs _ (Kd.R_V S1.out)).mono ?_
    rintro e w2 ⟨rfl, rfl⟩
    go_wp2_with fail
    refine (specMsgSum_c w1 _ bs _ (Kd.R_V S1.out)).mono ?_
    rintro e w2 ⟨rfl, rfl⟩
    obtain ⟨s0, s1⟩ := sum_in bs 1 (by omega) (by omega)
    have hturn : Sec (∀ (k : Nat) (hk : k < bs.length) (y : UInt8), y ≠ bs[k] → sumB (bs.set k y) ≠ sumB bs) := ⟨sum_turned bs⟩
    have hnil : Sec (bs = [] → sumB bs = 1) := ⟨fun h => by subst h; rfl⟩
    change 0 ≤ sumB bs at s0
    change sumB bs ≤ 65520 at s1
    generalize sumB bs = s at *
    by_cases h0 : bs = []
    · have := hnil.out h0
      subst h0
      subst this
      go_wp2
      go_ret
      exact ⟨rfl, B1.out⟩
    · have h1 : 0 < bs.length := List.length_pos_iff.2 h0
      have h4 : ((bs.length : Int) == 0) = false := by rw [beq_eq_false_iff_ne]; omega
      have E1 := Sec.mk (Kd.R_empty kByte (w := w1) (W := w1) (Nat.le_refl _))
      have V1 := Sec.mk (Kd.V_below (Kd.V_in (Kd.R_V S1.out) (by decide)) (belA (Below.refl _ _) (.cells #[] 5)) (by decide))
      clear hnil
      have h5 : ¬ bs.length = 0 := by omega
      have h6 : ¬ ((bs.length : Int) = 0) := by omega
      go_wp2_with (at_builtin; refine B_cat (B := w1.heap.size) rfl (.tmp 30) (.tmp 31) 22 rfl Try.underlying22 info_byte _ _ [] bs _ rfl rfl E1.out (by simp) V1.out (fun k hk => hk.2) (by simp; omega) ?_; intro v4 w4 hR4 hg4 hr4; have S4 := Sec.mk hR4; have B4 := Sec.mk (grew (belA (Below.refl w1.heap.size w1) (.cells #[] 5)) hg4 hr4); clear hR4 hg4 hr4)
      obtain ⟨A4, c4, e4, _⟩ := Kd.R_form S4.out
      rw [List.nil_append] at e4
      subst e4
      obtain ⟨d, rfl, -, hd0, hd1, df⟩ := Kd.R_block S4.out (by simpa using h1)
      have hk : code.length % bs.length < bs.length := Nat.mod_lt _ h1
      have hq : code.length % 255 < 255 := Nat.mod_lt _ (by decide)
      have q1 : ((code.length : Int)).tmod (bs.length : Int) = ((code.length % bs.length : Nat) : Int) := by
        rw [Int.tmod_eq_emod_of_nonneg (by omega)]; exact (Int.natCast_emod _ _).symm
      have q2 : ((code.length : Int)).tmod 255 = ((code.length % 255 : Nat) : Int) := by
        rw [Int.tmod_eq_emod_of_nonneg (by omega)]; exact (Int.natCast_emod _ _).symm
      generalize code.length % bs.length = k at *
      generalize code.length % 255 = q at *
      obtain ⟨b', off', hA, _, cd⟩ := byte_at (Kd.V_C (Kd.R_V S4.out)) k (by simpa using hk)
      simp only [Option.some.injEq, Addr.mk.injEq, and_true] at hA
      obtain ⟨rfl, rfl⟩ := hA
      rw [Nat.zero_add] at cd
      simp only [List.nil_append] at cd S4
      have fd := df k
      have hby : Sec (0 ≤ (bs[k].toNat : Int) ∧ (bs[k].toNat : Int) < 256) := ⟨by have := bs[k].toNat_lt; omega⟩
      have q3 : IntKind.i64.wrap (1 + (q : Int)) = 1 + (q : Int) := IntWalk.i64_in _ (by omega)
      have q4 : IntKind.u8.wrap (1 + (q : Int)) = 1 + (q : Int) := by rw [IntKind.wrap_u8']; omega
      have hfin := Sec.mk (kByte_store S4.out k (u8 (bits .xor .u8 bs[k].toNat (1 + (q : Int)))) _ hk (xor8 hby.out.1 hby.out.2 (by omega) (by omega)))
      have hne : Sec (u8 (bits .xor .u8 bs[k].toNat (1 + (q : Int))) ≠ bs[k]) := ⟨by
        intro e
        have h1 := xor8 (a := bs[k].toNat) (b := 1 + (q : Int)) hby.out.1 hby.out.2 (by omega) (by omega)
        rw [e, u8_xor _ _ hby.out.1 hby.out.2 (by omega) (by omega)] at h1
        have h2 := xor_ne bs[k].toNat (1 + q) (by omega)
        have e3 : ((bs[k].toNat : Int)).toNat = bs[k].toNat := by omega
        have e4 : (1 + (q : Int)).toNat = 1 + q := by omega
        rw [e3, e4] at h1
        omega⟩
      have hturn2 := Sec.mk (hturn.out k hk _ hne.out)
      have B5 := Sec.mk (B4.out.setCell (p := ⟨d, k, none⟩) hd0 (.int .u8 (bits .xor .u8 bs[k].toNat (1 + (q : Int)))))
      clear hturn hne df
      generalize (bs[k].toNat : Int) = x at *
      clear hby V1 E1 H0
      have hk1 : (0 : Int) ≤ (k : Int) := by omega
      have hk2 : (k : Int) < (bs.length : Int) := by omega
      go_region_with (fail)
      have hV6 := Sec.mk (Kd.R_V (Kd.R_below hfin.out (belD (Below.refl _ _))))
      generalize bs.set k (u8 (bits .xor .u8 x (1 + (q : Int)))) = b2 at *
      have B6 := Sec.mk (bel B1.out (belD B5.out))
      clear hfin B5 q1 q2 q3 q4 cd fd
      go_wp2_with fail
      refine (MsgSum_c _ _ b2 _ hV6.out).mono ?_
      rintro e w6 ⟨rfl, rfl⟩
      have hs2 : ¬ sumB b2 = s := hturn2.out
      clear hturn2
      generalize sumB b2 = s2 at *
      have hs3 : (s2 == s) = false := beq_eq_false_iff_ne.2 hs2
      go_wp2
      go_ret
      exact ⟨congrArg (fun b => Ending.returned (Value.bool b)) (show (s2 != s) = true by rw [bne, hs3]; rfl), B6.out⟩
  · go_enter Try.func4, Try.ntmps4
    go_wp2
    go_ret
    exact ⟨rfl, Below.refl _ _⟩
end Go.Proofs.Ytlilbhjcdicnkaa
