/- Contracts: what may stand in a program (the program): goalShape, GoalOk; and what goes with it. -/
import Derived.Test.YtgiobpggonceeaaGreatDoorXw4
import Derived.Test.YtgiobpggonceeaaGreatDoorXw5
namespace Go.Proofs.YtgiobpggonceeaaGreatDoor
section
open Go.RowKit
set_option linter.unusedVariables false
set_option maxRecDepth 100000
section
variable {P : Program} {o : Oper} {a : Act} {w : World} {K : Act → World → Prop} {Q : Exit → Act → World → Prop} {ops : Array Oper}
theorem gif_val {j : Nat} (t : Bool) (v : Value) (hg : o.guard = some (j, true)) (hy : yielded ops a.tmps j = some t) (h : t = true → (execOp a.eval o).run P w = .ok (.value v) w) (hk : ∀ u, u = (bif t then v else undef) → K (a.put o.dst u) w) : if Region.wanted o (yielded ops a.tmps) = true then Oper.wp P o a w K Q else K (a.put o.dst undef) w := by
  cases t with
  | false => rw [if_neg (by rw [want_no hg hy]; decide)]; exact hk undef rfl
  | true => exact gop_val v w (want_yes hg hy) (h rfl) (hk v rfl)
theorem gif_call {j : Nat} {f : FuncId} {args : Array Value} (t : Bool) (v : Value) (hg : o.guard = some (j, true)) (hy : yielded ops a.tmps j = some t) (h : t = true → (execOp a.eval o).run P w = .ok (.enter f args) w) (hc : t = true → Calls P f args w fun e w' => e = .returned v ∧ Below w.heap.size w w')
    (hk : ∀ u w', u = (bif t then v else undef) → Below w.heap.size w w' → K (a.put o.dst u) w') : if Region.wanted o (yielded ops a.tmps) = true then Oper.wp P o a w K Q else K (a.put o.dst undef) w := by
  cases t with
  | false => rw [if_neg (by rw [want_no hg hy]; decide)]; exact hk undef w rfl (Below.refl _ _)
  | true => exact gop_call (fun u w' => u = v ∧ Below w.heap.size w w') (want_yes hg hy) (h rfl) ((hc rfl).mono (by rintro e w' ⟨rfl, h2⟩; exact ⟨_, rfl, rfl, h2⟩)) (fun u w' hu => hk u w' hu.1 hu.2)
end
def mayIn (t : Term) : Bool := decide (t.length ≤ 12) && t.all varIn
theorem termIn_may (t : Term) : termIn t = (trmOk t && mayIn t) := by unfold termIn mayIn; rw [Bool.and_assoc]
def shapeI (k : Int) (ca pa pb pc qa qb qc : Bool) : Bool :=
  if k = 1 ∨ k = 6 then ca && qb && qc else if k = 2 ∨ k = 4 then pa && pb && qc else if k = 5 then pa && pb && pc else if k = 3 then qa && qb && qc else false
def shapeOk (g : Goal) : Bool := shapeI g.kind ((trmOk g.a && headFun g.a) && mayIn g.a) (trmOk g.a && mayIn g.a) (trmOk g.b && mayIn g.b) (trmOk g.c && mayIn g.c) ((g.a.length : Int) == 0) ((g.b.length : Int) == 0) ((g.c.length : Int) == 0)
theorem shapeOk_eq (g : Goal) : shapeOk g = shapeI g.kind ((trmOk g.a && headFun g.a) && mayIn g.a) (trmOk g.a && mayIn g.a) (trmOk g.b && mayIn g.b) (trmOk g.c && mayIn g.c) ((g.a.length : Int) == 0) ((g.b.length : Int) == 0) ((g.c.length : Int) == 0) := rfl
theorem shapeI_0 {k : Int} {ca pa pb pc qa qb qc : Bool} (h1 : ¬ k = 1) (h6 : ¬ k = 6) (h2 : ¬ k = 2) (h4 : ¬ k = 4) (h5 : ¬ k = 5) (h3 : ¬ k = 3) : shapeI k ca pa pb pc qa qb qc = false := by
  unfold shapeI; rw [if_neg (by rintro (h | h); exact h1 h; exact h6 h), if_neg (by rintro (h | h); exact h2 h; exact h4 h), if_neg h5, if_neg h3]
set_option maxHeartbeats 8000000 in
theorem goalShape_i (g : Goal) (cs : List Value) (ok : Nat → Prop) (w : World) (hK : kGoal.K w ok g cs) :
    Calls Tryz.prog 190 #[.agg cs.toArray, .func (.func 204) #[] #[]] w fun e w' => e = .returned (.bool (shapeOk g)) ∧ Below w.heap.size w w' := by
  obtain ⟨v1, v2, v3, rfl, h1, h2, h3⟩ := kGoal_K hK
  obtain ⟨E1, m1, rfl, -⟩ := id h1
  obtain ⟨E2, m2, rfl, -⟩ := id h2
  obtain ⟨E3, m3, rfl, -⟩ := id h3
  have B0 := Sec.mk (belA (Below.refl w.heap.size w) (.cells #[.int .i64 g.kind, .slice E1 g.a.length m1, .slice E2 g.b.length m2, .slice E3 g.c.length m3] 100))
  have P0 := Sec.mk (heap_alloc_new w (.cells #[.int .i64 g.kind, .slice E1 g.a.length m1, .slice E2 g.b.length m2, .slice E3 g.c.length m3] 100))
  have V1 := Sec.mk (Kd.V_below h1 B0.out (by decide))
  have V2 := Sec.mk (Kd.V_below h2 B0.out (by decide))
  have V3 := Sec.mk (Kd.V_below h3 B0.out (by decide))
  clear hK h1 h2 h3
  have X := (box_at P0.out).2.1
  have Y0 := Sec.mk (X 0 _ rfl)
  have Y1 := Sec.mk (X 1 _ rfl)
  have Y2 := Sec.mk (X 2 _ rfl)
  have Y3 := Sec.mk (X 3 _ rfl)
  clear X
  have hsh := shapeOk_eq g
  obtain ⟨qa, hqa⟩ : ∃ q, ((g.a.length : Int) == 0) = q := ⟨_, rfl⟩
  obtain ⟨qb, hqb⟩ : ∃ q, ((g.b.length : Int) == 0) = q := ⟨_, rfl⟩
  obtain ⟨qc, hqc⟩ : ∃ q, ((g.c.length : Int) == 0) = q := ⟨_, rfl⟩
  obtain ⟨ma, hma⟩ : ∃ q, mayIn g.a = q := ⟨_, rfl⟩
  obtain ⟨mb, hmb⟩ : ∃ q, mayIn g.b = q := ⟨_, rfl⟩
  obtain ⟨mc, hmc⟩ : ∃ q, mayIn g.c = q := ⟨_, rfl⟩
  obtain ⟨ta, hta⟩ : ∃ q, trmOk g.a = q := ⟨_, rfl⟩
  obtain ⟨tb, htb⟩ : ∃ q, trmOk g.b = q := ⟨_, rfl⟩
  obtain ⟨tc, htc⟩ : ∃ q, trmOk g.c = q := ⟨_, rfl⟩
  obtain ⟨ha, hha⟩ : ∃ q, headFun g.a = q := ⟨_, rfl⟩
  rw [hqa, hqb, hqc, hma, hmb, hmc, hta, htb, htc, hha] at hsh
  have HE := Sec.mk hsh
  have Hqa := Sec.mk hqa
  have Hqb := Sec.mk hqb
  have Hqc := Sec.mk hqc
  have Ma := Sec.mk hma
  have Mb := Sec.mk hmb
  have Mc := Sec.mk hmc
  have Ta := Sec.mk hta
  have Tb := Sec.mk htb
  have Tc := Sec.mk htc
  have HA := Sec.mk hha
  clear hsh hqa hqb hqc hma hmb hmc hta htb htc hha
  have T0 : Sec True := ⟨trivial⟩
  generalize shapeOk g = res at *
  have y0 := Y0.out
  go_enter Tryz.func190, Tryz.ntmps190
  go_wp2
  generalize w.alloc (.cells #[.int .i64 g.kind, .slice E1 g.a.length m1, .slice E2 g.b.length m2, .slice E3 g.c.length m3] 100) = w0 at *
  refine wp_region_lists [[8], [9], [10], [11], [12], [13], [14], [15], [16], [17], [18], [19], [5], [6], [7]]
    [fun val _ _ => val 8 = .pointer (some ⟨w.heap.size, 1, none⟩),
      fun val _ _ => val 9 = .slice E1 g.a.length m1,
      fun val _ _ => val 10 = .int .i64 g.a.length,
      fun val _ _ => val 11 = .bool qa,
      fun val _ _ => val 12 = .pointer (some ⟨w.heap.size, 2, none⟩),
      fun val _ _ => val 13 = .slice E2 g.b.length m2,
      fun val _ _ => val 14 = .int .i64 g.b.length,
      fun val _ _ => val 15 = .bool qb,
      fun val _ _ => val 16 = .pointer (some ⟨w.heap.size, 3, none⟩),
      fun val _ _ => val 17 = .slice E3 g.c.length m3,
      fun val _ _ => val 18 = .int .i64 g.c.length,
      fun val _ _ => val 19 = .bool qc,
      fun val _ _ => val 5 = .bool qa,
      fun val _ _ => val 6 = .bool qb,
      fun val _ _ => val 7 = .bool qc]
    [[], [], [], [], [], [], [], [], [], [], [], [], [], [], []] 0 (fun _ => False) (fun _ _ => False) (by kernel_rfl) ⟨by kernel_rfl, by kernel_rfl, by kernel_rfl, by kernel_rfl, by kernel_rfl⟩
    (.cons (stab_val 8 (fun v => v = .pointer (some ⟨w.heap.size, 1, none⟩))) (.cons (stab_val 9 (fun v => v = .slice E1 g.a.length m1)) (.cons (stab_val 10 (fun v => v = .int .i64 g.a.length)) (.cons (stab_val 11 (fun v => v = .bool qa)) (.cons (stab_val 12 (fun v => v = .pointer (some ⟨w.heap.size, 2, none⟩))) (.cons (stab_val 13 (fun v => v = .slice E2 g.b.length m2)) (.cons (stab_val 14 (fun v => v = .int .i64 g.b.length)) (.cons (stab_val 15 (fun v => v = .bool qb)) (.cons (stab_val 16 (fun v => v = .pointer (some ⟨w.heap.size, 3, none⟩))) (.cons (stab_val 17 (fun v => v = .slice E3 g.c.length m3)) (.cons (stab_val 18 (fun v => v = .int .i64 g.c.length)) (.cons (stab_val 19 (fun v => v = .bool qc)) (.cons (stab_val 5 (fun v => v = .bool qa)) (.cons (stab_val 6 (fun v => v = .bool qb)) (.cons (stab_val 7 (fun v => v = .bool qc)) .nil)))))))))))))))
    (fun i j k h1 h2 => h1.elim) (fun i k h => h.elim) (fun i h1 h2 => by simp at h1 h2; omega) (.cons ?_ (.cons ?_ (.cons ?_ (.cons ?_ (.cons ?_ (.cons ?_ (.cons ?_ (.cons ?_ (.cons ?_ (.cons ?_ (.cons ?_ (.cons ?_ (.cons ?_ (.cons ?_ (.cons ?_ .nil))))))))))))))) ?_
  · intro a W own hfor huse hap hmi hF K hK
    have e2 : a.eval (.tmp 2) = .pointer (some ⟨w.heap.size, 0, none⟩) := hfor 2 (by kernel_rfl)
    refine op_val (.pointer (some ⟨w.heap.size, 1, none⟩)) W rfl ?_ (hK _ _ (post_pure ?_))
    · clear hfor huse hap hmi hK hF
      generalize a.eval = ρ at *
      go_simp
    · exact (if_pos rfl)
  · intro a W own hfor huse hap hmi hF K hK
    have e8 : a.eval (.tmp 8) = .pointer (some ⟨w.heap.size, 1, none⟩) := huse 0 (by kernel_rfl)
    have c1 := foot_cell hF (fun h => h) Y1.out
    refine op_val (.slice E1 g.a.length m1) W rfl ?_ (hK _ _ (post_pure ?_))
    · clear hfor huse hap hmi hK hF
      generalize a.eval = ρ at *
      go_simp
    · exact (if_pos rfl)
  · intro a W own hfor huse hap hmi hF K hK
    have e9 : a.eval (.tmp 9) = .slice E1 g.a.length m1 := huse 1 (by kernel_rfl)
    refine op_val (.int .i64 g.a.length) W rfl ?_ (hK _ _ (post_pure ?_))
    · clear hfor huse hap hmi hK hF
      generalize a.eval = ρ at *
      go_simp
    · exact (if_pos rfl)
  · intro a W own hfor huse hap hmi hF K hK
    have e10 : a.eval (.tmp 10) = .int .i64 g.a.length := huse 2 (by kernel_rfl)
    have ec : a.eval (.const (.int .i64 0)) = .int .i64 0 := rfl
    have eq_ : ((g.a.length : Int) == 0) = qa := Hqa.out
    refine op_val (.bool qa) W rfl ?_ (hK _ _ (post_pure ?_))
    · clear hfor huse hap hmi hK hF
      generalize a.eval = ρ at *
      go_simp
    · exact (if_pos rfl)
  · intro a W own hfor huse hap hmi hF K hK
    have e2 : a.eval (.tmp 2) = .pointer (some ⟨w.heap.size, 0, none⟩) := hfor 2 (by kernel_rfl)
    refine op_val (.pointer (some ⟨w.heap.size, 2, none⟩)) W rfl ?_ (hK _ _ (post_pure ?_))
    · clear hfor huse hap hmi hK hF
      generalize a.eval = ρ at *
      go_simp
    · exact (if_pos rfl)
  · intro a W own hfor huse hap hmi hF K hK
    have e12 : a.eval (.tmp 12) = .pointer (some ⟨w.heap.size, 2, none⟩) := huse 4 (by kernel_rfl)
    have c2 := foot_cell hF (fun h => h) Y2.out
    refine op_val (.slice E2 g.b.length m2) W rfl ?_ (hK _ _ (post_pure ?_))
    · clear hfor huse hap hmi hK hF
      generalize a.eval = ρ at *
      go_simp
    · exact (if_pos rfl)
  · intro a W own hfor huse hap hmi hF K hK
    have e13 : a.eval (.tmp 13) = .slice E2 g.b.length m2 := huse 5 (by kernel_rfl)
    refine op_val (.int .i64 g.b.length) W rfl ?_ (hK _ _ (post_pure ?_))
    · clear hfor huse hap hmi hK hF
      generalize a.eval = ρ at *
      go_simp
    · exact (if_pos rfl)
  · intro a W own hfor huse hap hmi hF K hK
    have e14 : a.eval (.tmp 14) = .int .i64 g.b.length := huse 6 (by kernel_rfl)
    have ec : a.eval (.const (.int .i64 0)) = .int .i64 0 := rfl
    have eq_ : ((g.b.length : Int) == 0) = qb := Hqb.out
    refine op_val (.bool qb) W rfl ?_ (hK _ _ (post_pure ?_))
    · clear hfor huse hap hmi hK hF
      generalize a.eval = ρ at *
      go_simp
    · exact (if_pos rfl)
  · intro a W own hfor huse hap hmi hF K hK
    have e2 : a.eval (.tmp 2) = .pointer (some ⟨w.heap.size, 0, none⟩) := hfor 2 (by kernel_rfl)
    refine op_val (.pointer (some ⟨w.heap.size, 3, none⟩)) W rfl ?_ (hK _ _ (post_pure ?_))
    · clear hfor huse hap hmi hK hF
      generalize a.eval = ρ at *
      go_simp
    · exact (if_pos rfl)
  · intro a W own hfor huse hap hmi hF K hK
    have e16 : a.eval (.tmp 16) = .pointer (some ⟨w.heap.size, 3, none⟩) := huse 8 (by kernel_rfl)
    have c3 := foot_cell hF (fun h => h) Y3.out
    refine op_val (.slice E3 g.c.length m3) W rfl ?_ (hK _ _ (post_pure ?_))
    · clear hfor huse hap hmi hK hF
      generalize a.eval = ρ at *
      go_simp
    · exact (if_pos rfl)
  · intro a W own hfor huse hap hmi hF K hK
    have e17 : a.eval (.tmp 17) = .slice E3 g.c.length m3 := huse 9 (by kernel_rfl)
    refine op_val (.int .i64 g.c.length) W rfl ?_ (hK _ _ (post_pure ?_))
    · clear hfor huse hap hmi hK hF
      generalize a.eval = ρ at *
      go_simp
    · exact (if_pos rfl)
  · intro a W own hfor huse hap hmi hF K hK
    have e18 : a.eval (.tmp 18) = .int .i64 g.c.length := huse 10 (by kernel_rfl)
    have ec : a.eval (.const (.int .i64 0)) = .int .i64 0 := rfl
    have eq_ : ((g.c.length : Int) == 0) = qc := Hqc.out
    refine op_val (.bool qc) W rfl ?_ (hK _ _ (post_pure ?_))
    · clear hfor huse hap hmi hK hF
      generalize a.eval = ρ at *
      go_simp
    · exact (if_pos rfl)
  · intro a W own hfor huse hap hmi hF K hK
    have e11 : a.eval (.tmp 11) = .bool qa := huse 3 (by kernel_rfl)
    refine op_val (.bool qa) W rfl ?_ (hK _ _ (post_pure ?_))
    · clear hfor huse hap hmi hK hF
      generalize a.eval = ρ at *
      go_simp
    · exact (if_pos rfl)
  · intro a W own hfor huse hap hmi hF K hK
    have e15 : a.eval (.tmp 15) = .bool qb := huse 7 (by kernel_rfl)
    refine op_val (.bool qb) W rfl ?_ (hK _ _ (post_pure ?_))
    · clear hfor huse hap hmi hK hF
      generalize a.eval = ρ at *
      go_simp
    · exact (if_pos rfl)
  · intro a W own hfor huse hap hmi hF K hK
    have e19 : a.eval (.tmp 19) = .bool qc := huse 11 (by kernel_rfl)
    refine op_val (.bool qc) W rfl ?_ (hK _ _ (post_pure ?_))
    · clear hfor huse hap hmi hK hF
      generalize a.eval = ρ at *
      go_simp
    · exact (if_pos rfl)
  intro a' W own hf
  have hsz := hf.st.size
  have hdf := hf.st.rest
  obtain ⟨⟨l⟩, df⟩ := a'
  have hl0 : l.length = 93 := hsz
  clear hsz
  obtain rfl : df = [] := hdf
  obtain ⟨x0, l0, rfl, hl1⟩ := lst_cons hl0
  clear hl0
  obtain ⟨x1, l1, rfl, hl2⟩ := lst_cons hl1
  clear hl1
  obtain ⟨x2, l2, rfl, hl3⟩ := lst_cons hl2
  clear hl2
  obtain ⟨x3, l3, rfl, hl4⟩ := lst_cons hl3
  clear hl3
  obtain ⟨x4, l4, rfl, hl5⟩ := lst_cons hl4
  clear hl4
  obtain ⟨x5, l5, rfl, hl6⟩ := lst_cons hl5
  clear hl5
  obtain ⟨x6, l6, rfl, hl7⟩ := lst_cons hl6
  clear hl6
  obtain ⟨x7, l7, rfl, hl8⟩ := lst_cons hl7
  clear hl7
  obtain ⟨x8, l8, rfl, hl9⟩ := lst_cons hl8
  clear hl8
  obtain ⟨x9, l9, rfl, hl10⟩ := lst_cons hl9
  clear hl9
  obtain ⟨x10, l10, rfl, hl11⟩ := lst_cons hl10
  clear hl10
  obtain ⟨x11, l11, rfl, hl12⟩ := lst_cons hl11
  clear hl11
  obtain ⟨x12, l12, rfl, hl13⟩ := lst_cons hl12
  clear hl12
  obtain ⟨x13, l13, rfl, hl14⟩ := lst_cons hl13
  clear hl13
  obtain ⟨x14, l14, rfl, hl15⟩ := lst_cons hl14
  clear hl14
  obtain ⟨x15, l15, rfl, hl16⟩ := lst_cons hl15
  clear hl15
  obtain ⟨x16, l16, rfl, hl17⟩ := lst_cons hl16
  clear hl16
  obtain ⟨x17, l17, rfl, hl18⟩ := lst_cons hl17
  clear hl17
  obtain ⟨x18, l18, rfl, hl19⟩ := lst_cons hl18
  clear hl18
  obtain ⟨x19, l19, rfl, hl20⟩ := lst_cons hl19
  clear hl19
  obtain ⟨x20, l20, rfl, hl21⟩ := lst_cons hl20
  clear hl20
  obtain ⟨x21, l21, rfl, hl22⟩ := lst_cons hl21
  clear hl21
  obtain ⟨x22, l22, rfl, hl23⟩ := lst_cons hl22
  clear hl22
  obtain ⟨x23, l23, rfl, hl24⟩ := lst_cons hl23
  clear hl23
  obtain ⟨x24, l24, rfl, hl25⟩ := lst_cons hl24
  clear hl24
  obtain ⟨x25, l25, rfl, hl26⟩ := lst_cons hl25
  clear hl25
  obtain ⟨x26, l26, rfl, hl27⟩ := lst_cons hl26
  clear hl26
  obtain ⟨x27, l27, rfl, hl28⟩ := lst_cons hl27
  clear hl27
  obtain ⟨x28, l28, rfl, hl29⟩ := lst_cons hl28
  clear hl28
  obtain ⟨x29, l29, rfl, hl30⟩ := lst_cons hl29
  clear hl29
  obtain ⟨x30, l30, rfl, hl31⟩ := lst_cons hl30
  clear hl30
  obtain ⟨x31, l31, rfl, hl32⟩ := lst_cons hl31
  clear hl31
  obtain ⟨x32, l32, rfl, hl33⟩ := lst_cons hl32
  clear hl32
  obtain ⟨x33, l33, rfl, hl34⟩ := lst_cons hl33
  clear hl33
  obtain ⟨x34, l34, rfl, hl35⟩ := lst_cons hl34
  clear hl34
  obtain ⟨x35, l35, rfl, hl36⟩ := lst_cons hl35
  clear hl35
  obtain ⟨x36, l36, rfl, hl37⟩ := lst_cons hl36
  clear hl36
  obtain ⟨x37, l37, rfl, hl38⟩ := lst_cons hl37
  clear hl37
  obtain ⟨x38, l38, rfl, hl39⟩ := lst_cons hl38
  clear hl38
  obtain ⟨x39, l39, rfl, hl40⟩ := lst_cons hl39
  clear hl39
  obtain ⟨x40, l40, rfl, hl41⟩ := lst_cons hl40
  clear hl40
  obtain ⟨x41, l41, rfl, hl42⟩ := lst_cons hl41
  clear hl41
  obtain ⟨x42, l42, rfl, hl43⟩ := lst_cons hl42
  clear hl42
  obtain ⟨x43, l43, rfl, hl44⟩ := lst_cons hl43
  clear hl43
  obtain ⟨x44, l44, rfl, hl45⟩ := lst_cons hl44
  clear hl44
  obtain ⟨x45, l45, rfl, hl46⟩ := lst_cons hl45
  clear hl45
  obtain ⟨x46, l46, rfl, hl47⟩ := lst_cons hl46
  clear hl46
  obtain ⟨x47, l47, rfl, hl48⟩ := lst_cons hl47
  clear hl47
  obtain ⟨x48, l48, rfl, hl49⟩ := lst_cons hl48
  clear hl48
  obtain ⟨x49, l49, rfl, hl50⟩ := lst_cons hl49
  clear hl49
  obtain ⟨x50, l50, rfl, hl51⟩ := lst_cons hl50
  clear hl50
  obtain ⟨x51, l51, rfl, hl52⟩ := lst_cons hl51
  clear hl51
  obtain ⟨x52, l52, rfl, hl53⟩ := lst_cons hl52
  clear hl52
  obtain ⟨x53, l53, rfl, hl54⟩ := lst_cons hl53
  clear hl53
  obtain ⟨x54, l54, rfl, hl55⟩ := lst_cons hl54
  clear hl54
  obtain ⟨x55, l55, rfl, hl56⟩ := lst_cons hl55
  clear hl55
  obtain ⟨x56, l56, rfl, hl57⟩ := lst_cons hl56
  clear hl56
  obtain ⟨x57, l57, rfl, hl58⟩ := lst_cons hl57
  clear hl57
  obtain ⟨x58, l58, rfl, hl59⟩ := lst_cons hl58
  clear hl58
  obtain ⟨x59, l59, rfl, hl60⟩ := lst_cons hl59
  clear hl59
  obtain ⟨x60, l60, rfl, hl61⟩ := lst_cons hl60
  clear hl60
  obtain ⟨x61, l61, rfl, hl62⟩ := lst_cons hl61
  clear hl61
  obtain ⟨x62, l62, rfl, hl63⟩ := lst_cons hl62
  clear hl62
  obtain ⟨x63, l63, rfl, hl64⟩ := lst_cons hl63
  clear hl63
  obtain ⟨x64, l64, rfl, hl65⟩ := lst_cons hl64
  clear hl64
  obtain ⟨x65, l65, rfl, hl66⟩ := lst_cons hl65
  clear hl65
  obtain ⟨x66, l66, rfl, hl67⟩ := lst_cons hl66
  clear hl66
  obtain ⟨x67, l67, rfl, hl68⟩ := lst_cons hl67
  clear hl67
  obtain ⟨x68, l68, rfl, hl69⟩ := lst_cons hl68
  clear hl68
  obtain ⟨x69, l69, rfl, hl70⟩ := lst_cons hl69
  clear hl69
  obtain ⟨x70, l70, rfl, hl71⟩ := lst_cons hl70
  clear hl70
  obtain ⟨x71, l71, rfl, hl72⟩ := lst_cons hl71
  clear hl71
  obtain ⟨x72, l72, rfl, hl73⟩ := lst_cons hl72
  clear hl72
  obtain ⟨x73, l73, rfl, hl74⟩ := lst_cons hl73
  clear hl73
  obtain ⟨x74, l74, rfl, hl75⟩ := lst_cons hl74
  clear hl74
  obtain ⟨x75, l75, rfl, hl76⟩ := lst_cons hl75
  clear hl75
  obtain ⟨x76, l76, rfl, hl77⟩ := lst_cons hl76
  clear hl76
  obtain ⟨x77, l77, rfl, hl78⟩ := lst_cons hl77
  clear hl77
  obtain ⟨x78, l78, rfl, hl79⟩ := lst_cons hl78
  clear hl78
  obtain ⟨x79, l79, rfl, hl80⟩ := lst_cons hl79
  clear hl79
  obtain ⟨x80, l80, rfl, hl81⟩ := lst_cons hl80
  clear hl80
  obtain ⟨x81, l81, rfl, hl82⟩ := lst_cons hl81
  clear hl81
  obtain ⟨x82, l82, rfl, hl83⟩ := lst_cons hl82
  clear hl82
  obtain ⟨x83, l83, rfl, hl84⟩ := lst_cons hl83
  clear hl83
  obtain ⟨x84, l84, rfl, hl85⟩ := lst_cons hl84
  clear hl84
  obtain ⟨x85, l85, rfl, hl86⟩ := lst_cons hl85
  clear hl85
  obtain ⟨x86, l86, rfl, hl87⟩ := lst_cons hl86
  clear hl86
  obtain ⟨x87, l87, rfl, hl88⟩ := lst_cons hl87
  clear hl87
  obtain ⟨x88, l88, rfl, hl89⟩ := lst_cons hl88
  clear hl88
  obtain ⟨x89, l89, rfl, hl90⟩ := lst_cons hl89
  clear hl89
  obtain ⟨x90, l90, rfl, hl91⟩ := lst_cons hl90
  clear hl90
  obtain ⟨x91, l91, rfl, hl92⟩ := lst_cons hl91
  clear hl91
  obtain ⟨x92, l92, rfl, hl93⟩ := lst_cons hl92
  clear hl92
  obtain rfl := List.eq_nil_of_length_eq_zero hl93
  have e0 := hf.st.kept 0 (by kernel_rfl)
  simp only [slotsOf, Act.eval, Array.getD_eq_getD_getElem?, List.getElem?_toArray, List.getElem?_cons_zero, Option.getD_some] at e0
  subst e0
  have e1 := hf.st.kept 1 (by kernel_rfl)
  simp only [slotsOf, Act.eval, Array.getD_eq_getD_getElem?, List.getElem?_toArray, List.getElem?_cons_succ, List.getElem?_cons_zero, Option.getD_some] at e1
  subst e1
  have e2 := hf.st.kept 2 (by kernel_rfl)
  simp only [slotsOf, Act.eval, Array.getD_eq_getD_getElem?, List.getElem?_toArray, List.getElem?_cons_succ, List.getElem?_cons_zero, Option.getD_some] at e2
  subst e2
  have e4 := hf.st.kept 4 (by kernel_rfl)
  simp only [slotsOf, Act.eval, Array.getD_eq_getD_getElem?, List.getElem?_toArray, List.getElem?_cons_succ, List.getElem?_cons_zero, Option.getD_some] at e4
  subst e4
  have e5 : x5 = .bool qa := hf.at 12 (fun val _ _ => val 5 = .bool qa) rfl (by kernel_rfl)
  subst e5
  have e6 : x6 = .bool qb := hf.at 13 (fun val _ _ => val 6 = .bool qb) rfl (by kernel_rfl)
  subst e6
  have e7 : x7 = .bool qc := hf.at 14 (fun val _ _ => val 7 = .bool qc) rfl (by kernel_rfl)
  subst e7
  have B1 := Sec.mk (hf.st.foot.below (belD B0.out) (fun k h => h.elim))
  have Z0 := Sec.mk (foot_cell hf.st.foot (fun h => h) Y0.out)
  have Z1 := Sec.mk (foot_cell hf.st.foot (fun h => h) Y1.out)
  have Z2 := Sec.mk (foot_cell hf.st.foot (fun h => h) Y2.out)
  have Z3 := Sec.mk (foot_cell hf.st.foot (fun h => h) Y3.out)
  have U1 := Sec.mk (foot_V hf.st.foot (fun _ _ h => h) V1.out (by decide))
  have U2 := Sec.mk (foot_V hf.st.foot (fun _ _ h => h) V2.out (by decide))
  have U3 := Sec.mk (foot_V hf.st.foot (fun _ _ h => h) V3.out (by decide))
  clear hf y0 Y0 Y1 Y2 Y3 V1 V2 V3
  have Y0 := Z0
  have Y1 := Z1
  have Y2 := Z2
  have Y3 := Z3
  have V1 := U1
  have V2 := U2
  have V3 := U3
  clear Z0 Z1 Z2 Z3 U1 U2 U3
  have y0 := Y0.out
  rcases Decidable.em (g.kind = 1) with hk | hk
  · have HE := Sec.mk (HE.out.trans (by rw [hk]; rfl : _ = (((ta && ha) && ma) && qb && qc)))
    have k1 : (g.kind == 1) = true := by rw [hk]; rfl
    have k6 : (g.kind == 6) = false := by rw [hk]; rfl
    have k2 : (g.kind == 2) = false := by rw [hk]; rfl
    have k4 : (g.kind == 4) = false := by rw [hk]; rfl
    have k5 : (g.kind == 5) = false := by rw [hk]; rfl
    have k3 : (g.kind == 3) = false := by rw [hk]; rfl
    clear hk
    have y1 := Y1.out
    have CA := Sec.mk (fun W (h : kCell.V W ok (.slice E1 g.a.length m1) g.a) => called_i _ g.a ok W h)
    have IA := Sec.mk (fun W (h : kCell.V W ok (.slice E1 g.a.length m1) g.a) => inClause_i _ g.a ok W h)
    rw [Ta.out, HA.out] at CA
    have hm : (decide (g.a.length ≤ 12) && g.a.all varIn) = ma := Ma.out
    rw [hm] at IA
    clear hm
    cases hth : (ta && ha) with
    | false =>
      rw [hth] at CA HE
      clear hth
      go_wp2_with (go_at_call 155; refine (CA.out _ V1.out).mono ?_; rintro e w5 ⟨rfl, hb⟩; have B5 := Sec.mk (bel B1.out hb); clear hb)
      go_ret
      exact ⟨rb HE.out.symm, B5.out⟩
    | true =>
      rw [hth] at CA HE
      clear hth
      cases ma <;> cases qb <;> (
        go_wp2_with (first | (go_at_call 155; refine (CA.out _ V1.out).mono ?_; rintro e w5 ⟨rfl, hb⟩; have B5 := Sec.mk (bel B1.out hb); have y5 := Raw.cell_below hb Y1.out; have V5 := Sec.mk (Kd.V_below V1.out hb (by decide)); clear hb) | (go_at_call 204; refine (IA.out _ V5.out).mono ?_; rintro e w6 ⟨rfl, hb⟩; have B6 := Sec.mk (bel B5.out hb); clear hb))
        go_ret
        exact ⟨rb HE.out.symm, B6.out⟩)
  rcases Decidable.em (g.kind = 6) with hk | hk
  · have HE := Sec.mk (HE.out.trans (by rw [hk]; rfl : _ = (((ta && ha) && ma) && qb && qc)))
    have k1 : (g.kind == 1) = false := by rw [hk]; rfl
    have k6 : (g.kind == 6) = true := by rw [hk]; rfl
    have k2 : (g.kind == 2) = false := by rw [hk]; rfl
    have k4 : (g.kind == 4) = false := by rw [hk]; rfl
    have k5 : (g.kind == 5) = false := by rw [hk]; rfl
    have k3 : (g.kind == 3) = false := by rw [hk]; rfl
    clear hk
    have y1 := Y1.out
    have CA := Sec.mk (fun W (h : kCell.V W ok (.slice E1 g.a.length m1) g.a) => called_i _ g.a ok W h)
    have IA := Sec.mk (fun W (h : kCell.V W ok (.slice E1 g.a.length m1) g.a) => inClause_i _ g.a ok W h)
    rw [Ta.out, HA.out] at CA
    have hm : (decide (g.a.length ≤ 12) && g.a.all varIn) = ma := Ma.out
    rw [hm] at IA
    clear hm
    cases hth : (ta && ha) with
    | false =>
      rw [hth] at CA HE
      clear hth
      go_wp2_with (go_at_call 155; refine (CA.out _ V1.out).mono ?_; rintro e w5 ⟨rfl, hb⟩; have B5 := Sec.mk (bel B1.out hb); clear hb)
      go_ret
      exact ⟨rb HE.out.symm, B5.out⟩
    | true =>
      rw [hth] at CA HE
      clear hth
      cases ma <;> cases qb <;> (
        go_wp2_with (first | (go_at_call 155; refine (CA.out _ V1.out).mono ?_; rintro e w5 ⟨rfl, hb⟩; have B5 := Sec.mk (bel B1.out hb); have y5 := Raw.cell_below hb Y1.out; have V5 := Sec.mk (Kd.V_below V1.out hb (by decide)); clear hb) | (go_at_call 204; refine (IA.out _ V5.out).mono ?_; rintro e w6 ⟨rfl, hb⟩; have B6 := Sec.mk (bel B5.out hb); clear hb))
        go_ret
        exact ⟨rb HE.out.symm, B6.out⟩)
  rcases Decidable.em (g.kind = 2) with hk | hk
  · have HE := Sec.mk (HE.out.trans (by rw [hk]; rfl : _ = ((ta && ma) && (tb && mb) && qc)))
    have k1 : (g.kind == 1) = false := by rw [hk]; rfl
    have k6 : (g.kind == 6) = false := by rw [hk]; rfl
    have k2 : (g.kind == 2) = true := by rw [hk]; rfl
    have k4 : (g.kind == 4) = false := by rw [hk]; rfl
    have k5 : (g.kind == 5) = false := by rw [hk]; rfl
    have k3 : (g.kind == 3) = false := by rw [hk]; rfl
    clear hk
    go_wp2
    refine wp_region_lists [[37], [38], [39], [40], [41], [42], [43], [44], [45], [46], [47], [48], [49], [50], [51], [52], [53], [54], [5], [6]]
      [fun val _ _ => val 37 = .pointer (some ⟨w.heap.size, 1, none⟩),
        fun val _ _ => val 38 = .slice E1 g.a.length m1,
        fun val _ _ => val 39 = .bool ta,
        fun val _ _ => val 40 = .bool ta,
        fun val _ _ => val 41 = bif ta then .func (.func 204) #[] #[] else undef,
        fun val _ _ => val 42 = bif ta then .pointer (some ⟨w.heap.size, 1, none⟩) else undef,
        fun val _ _ => val 43 = bif ta then .slice E1 g.a.length m1 else undef,
        fun val _ _ => val 44 = bif ta then .bool ma else undef,
        fun val _ _ => val 45 = .bool (ta && ma),
        fun val _ _ => val 46 = .pointer (some ⟨w.heap.size, 2, none⟩),
        fun val _ _ => val 47 = .slice E2 g.b.length m2,
        fun val _ _ => val 48 = .bool tb,
        fun val _ _ => val 49 = .bool tb,
        fun val _ _ => val 50 = bif tb then .func (.func 204) #[] #[] else undef,
        fun val _ _ => val 51 = bif tb then .pointer (some ⟨w.heap.size, 2, none⟩) else undef,
        fun val _ _ => val 52 = bif tb then .slice E2 g.b.length m2 else undef,
        fun val _ _ => val 53 = bif tb then .bool mb else undef,
        fun val _ _ => val 54 = .bool (tb && mb),
        fun val _ _ => val 5 = .bool (ta && ma),
        fun val _ _ => val 6 = .bool (tb && mb)]
      [[], [], [], [], [], [], [], [], [], [], [], [], [], [], [], [], [], [], [], []] 0 (fun _ => False) (fun _ _ => False) (by kernel_rfl) ⟨by kernel_rfl, by kernel_rfl, by kernel_rfl, by kernel_rfl, by kernel_rfl⟩
      (.cons (stab_val 37 (fun v => v = .pointer (some ⟨w.heap.size, 1, none⟩))) (.cons (stab_val 38 (fun v => v = .slice E1 g.a.length m1)) (.cons (stab_val 39 (fun v => v = .bool ta)) (.cons (stab_val 40 (fun v => v = .bool ta)) (.cons (stab_val 41 (fun v => v = bif ta then .func (.func 204) #[] #[] else undef)) (.cons (stab_val 42 (fun v => v = bif ta then .pointer (some ⟨w.heap.size, 1, none⟩) else undef)) (.cons (stab_val 43 (fun v => v = bif ta then .slice E1 g.a.length m1 else undef)) (.cons (stab_val 44 (fun v => v = bif ta then .bool ma else undef)) (.cons (stab_val 45 (fun v => v = .bool (ta && ma))) (.cons (stab_val 46 (fun v => v = .pointer (some ⟨w.heap.size, 2, none⟩))) (.cons (stab_val 47 (fun v => v = .slice E2 g.b.length m2)) (.cons (stab_val 48 (fun v => v = .bool tb)) (.cons (stab_val 49 (fun v => v = .bool tb)) (.cons (stab_val 50 (fun v => v = bif tb then .func (.func 204) #[] #[] else undef)) (.cons (stab_val 51 (fun v => v = bif tb then .pointer (some ⟨w.heap.size, 2, none⟩) else undef)) (.cons (stab_val 52 (fun v => v = bif tb then .slice E2 g.b.length m2 else undef)) (.cons (stab_val 53 (fun v => v = bif tb then .bool mb else undef)) (.cons (stab_val 54 (fun v => v = .bool (tb && mb))) (.cons (stab_val 5 (fun v => v = .bool (ta && ma))) (.cons (stab_val 6 (fun v => v = .bool (tb && mb))) .nil))))))))))))))))))))
      (fun i j k h1 h2 => h1.elim) (fun i k h => h.elim) (fun i h1 h2 => by simp at h1 h2; omega) (.cons ?_ (.cons ?_ (.cons ?_ (.cons ?_ (.cons ?_ (.cons ?_ (.cons ?_ (.cons ?_ (.cons ?_ (.cons ?_ (.cons ?_ (.cons ?_ (.cons ?_ (.cons ?_ (.cons ?_ (.cons ?_ (.cons ?_ (.cons ?_ (.cons ?_ (.cons ?_ .nil)))))))))))))))))))) ?_
    · intro a W own hfor huse hap hmi hF K hK
      have e2 : a.eval (.tmp 2) = .pointer (some ⟨w.heap.size, 0, none⟩) := hfor 2 (by kernel_rfl)
      refine op_val (.pointer (some ⟨w.heap.size, 1, none⟩)) W rfl ?_ (hK _ _ (post_pure ?_))
      · clear hfor huse hap hmi hK hF
        generalize a.eval = ρ at *
        go_simp
      · exact (if_pos rfl)
    · intro a W own hfor huse hap hmi hF K hK
      have e37 : a.eval (.tmp 37) = .pointer (some ⟨w.heap.size, 1, none⟩) := huse 0 (by kernel_rfl)
      have c1 := foot_cell hF (fun h => h) Y1.out
      refine op_val (.slice E1 g.a.length m1) W rfl ?_ (hK _ _ (post_pure ?_))
      · clear hfor huse hap hmi hK hF
        generalize a.eval = ρ at *
        go_simp
      · exact (if_pos rfl)
    · intro a W own hfor huse hap hmi hF K hK
      have e38 : a.eval (.tmp 38) = .slice E1 g.a.length m1 := huse 1 (by kernel_rfl)
      have efn : a.eval (.func 56) = .func (.func 56) #[] #[] := rfl
      refine op_call (f := 56) (args := #[.slice E1 g.a.length m1]) (fun v w1 => v = .bool ta ∧ Below W.heap.size W w1) rfl ?_ ?_ (fun v w1 h => ?_)
      · clear hfor huse hap hmi hK hF
        generalize a.eval = ρ at *
        go_simp
      · exact ((show Calls _ _ _ _ (fun e w1 => e = .returned (.bool ta) ∧ Below W.heap.size W w1) from by rw [← Ta.out]; exact TrmOk_i _ g.a ok W (foot_V hF (fun _ _ h => h) V1.out (by decide)))).mono (by rintro e w1 ⟨rfl, h2⟩; exact ⟨_, rfl, rfl, h2⟩)
      · obtain ⟨rfl, h2⟩ := h
        exact hK _ _ (post_new h2 (if_pos rfl))
    · intro a W own hfor huse hap hmi hF K hK
      have e39 : a.eval (.tmp 39) = .bool ta := huse 2 (by kernel_rfl)
      refine op_val (.bool ta) W rfl ?_ (hK _ _ (post_pure ?_))
      · clear hfor huse hap hmi hK hF
        generalize a.eval = ρ at *
        go_simp
      · exact (if_pos rfl)
    · intro a W own hfor huse hap hmi hF K hK
      have e1 : a.eval (.tmp 1) = .func (.func 204) #[] #[] := hfor 1 (by kernel_rfl)
      have e40 : a.eval (.tmp 40) = .bool ta := huse 3 (by kernel_rfl)
      refine gif_val ta (.func (.func 204) #[] #[]) rfl (yield_of (t := 40) rfl rfl e40) (fun ht => ?_) (fun u hu => hK _ _ (post_pure (by show (if _ then u else _) = _; rw [if_pos rfl]; exact hu)))
      try rw [ht, cond_true] at e1
      clear hfor huse hap hmi hK hF
      generalize a.eval = ρ at *
      go_simp
    · intro a W own hfor huse hap hmi hF K hK
      have e2 : a.eval (.tmp 2) = .pointer (some ⟨w.heap.size, 0, none⟩) := hfor 2 (by kernel_rfl)
      have e40 : a.eval (.tmp 40) = .bool ta := huse 3 (by kernel_rfl)
      refine gif_val ta (.pointer (some ⟨w.heap.size, 1, none⟩)) rfl (yield_of (t := 40) rfl rfl e40) (fun ht => ?_) (fun u hu => hK _ _ (post_pure (by show (if _ then u else _) = _; rw [if_pos rfl]; exact hu)))
      try rw [ht, cond_true] at e2
      clear hfor huse hap hmi hK hF
      generalize a.eval = ρ at *
      go_simp
    · intro a W own hfor huse hap hmi hF K hK
      have e42 : a.eval (.tmp 42) = bif ta then .pointer (some ⟨w.heap.size, 1, none⟩) else undef := huse 5 (by kernel_rfl)
      have e40 : a.eval (.tmp 40) = .bool ta := huse 3 (by kernel_rfl)
      have c1 := foot_cell hF (fun h => h) Y1.out
      refine gif_val ta (.slice E1 g.a.length m1) rfl (yield_of (t := 40) rfl rfl e40) (fun ht => ?_) (fun u hu => hK _ _ (post_pure (by show (if _ then u else _) = _; rw [if_pos rfl]; exact hu)))
      try rw [ht, cond_true] at e42
      clear hfor huse hap hmi hK hF
      generalize a.eval = ρ at *
      go_simp
    · intro a W own hfor huse hap hmi hF K hK
      have e40 : a.eval (.tmp 40) = .bool ta := huse 3 (by kernel_rfl)
      have e41 : a.eval (.tmp 41) = bif ta then .func (.func 204) #[] #[] else undef := huse 4 (by kernel_rfl)
      have e43 : a.eval (.tmp 43) = bif ta then .slice E1 g.a.length m1 else undef := huse 6 (by kernel_rfl)
      refine gif_call (f := 204) (args := #[.slice E1 g.a.length m1]) ta (.bool ma) rfl (yield_of (t := 40) rfl rfl e40) (fun ht => ?_) (fun ht => (show Calls _ _ _ _ (fun e w1 => e = .returned (.bool ma) ∧ Below W.heap.size W w1) from by rw [← Ma.out]; exact inClause_i _ g.a ok W (foot_V hF (fun _ _ h => h) V1.out (by decide)))) (fun u w1 hu h2 => hK _ _ (post_new h2 (by show (if _ then u else _) = _; rw [if_pos rfl]; exact hu)))
      rw [ht, cond_true] at e41 e43
      clear hfor huse hap hmi hK hF
      generalize a.eval = ρ at *
      go_simp
    · intro a W own hfor huse hap hmi hF K hK
      have e40 : a.eval (.tmp 40) = .bool ta := huse 3 (by kernel_rfl)
      have e44 : a.eval (.tmp 44) = bif ta then .bool ma else undef := huse 7 (by kernel_rfl)
      have ec : a.eval (.const (.bool false)) = .bool false := rfl
      refine op_val (.bool (ta && ma)) W rfl ?_ (hK _ _ (post_pure ?_))
      · clear hfor huse hap hmi hK hF
        generalize a.eval = ρ at *
        cases ta <;> simp only [cond_true, cond_false, Bool.true_and, Bool.false_and] at * <;> go_simp
      · exact (if_pos rfl)
    · intro a W own hfor huse hap hmi hF K hK
      have e2 : a.eval (.tmp 2) = .pointer (some ⟨w.heap.size, 0, none⟩) := hfor 2 (by kernel_rfl)
      refine op_val (.pointer (some ⟨w.heap.size, 2, none⟩)) W rfl ?_ (hK _ _ (post_pure ?_))
      · clear hfor huse hap hmi hK hF
        generalize a.eval = ρ at *
        go_simp
      · exact (if_pos rfl)
    · intro a W own hfor huse hap hmi hF K hK
      have e46 : a.eval (.tmp 46) = .pointer (some ⟨w.heap.size, 2, none⟩) := huse 9 (by kernel_rfl)
      have c2 := foot_cell hF (fun h => h) Y2.out
      refine op_val (.slice E2 g.b.length m2) W rfl ?_ (hK _ _ (post_pure ?_))
      · clear hfor huse hap hmi hK hF
        generalize a.eval = ρ at *
        go_simp
      · exact (if_pos rfl)
    · intro a W own hfor huse hap hmi hF K hK
      have e47 : a.eval (.tmp 47) = .slice E2 g.b.length m2 := huse 10 (by kernel_rfl)
      have efn : a.eval (.func 56) = .func (.func 56) #[] #[] := rfl
      refine op_call (f := 56) (args := #[.slice E2 g.b.length m2]) (fun v w1 => v = .bool tb ∧ Below W.heap.size W w1) rfl ?_ ?_ (fun v w1 h => ?_)
      · clear hfor huse hap hmi hK hF
        generalize a.eval = ρ at *
        go_simp
      · exact ((show Calls _ _ _ _ (fun e w1 => e = .returned (.bool tb) ∧ Below W.heap.size W w1) from by rw [← Tb.out]; exact TrmOk_i _ g.b ok W (foot_V hF (fun _ _ h => h) V2.out (by decide)))).mono (by rintro e w1 ⟨rfl, h2⟩; exact ⟨_, rfl, rfl, h2⟩)
      · obtain ⟨rfl, h2⟩ := h
        exact hK _ _ (post_new h2 (if_pos rfl))
    · intro a W own hfor huse hap hmi hF K hK
      have e48 : a.eval (.tmp 48) = .bool tb := huse 11 (by kernel_rfl)
      refine op_val (.bool tb) W rfl ?_ (hK _ _ (post_pure ?_))
      · clear hfor huse hap hmi hK hF
        generalize a.eval = ρ at *
        go_simp
      · exact (if_pos rfl)
    · intro a W own hfor huse hap hmi hF K hK
      have e1 : a.eval (.tmp 1) = .func (.func 204) #[] #[] := hfor 1 (by kernel_rfl)
      have e49 : a.eval (.tmp 49) = .bool tb := huse 12 (by kernel_rfl)
      refine gif_val tb (.func (.func 204) #[] #[]) rfl (yield_of (t := 49) rfl rfl e49) (fun ht => ?_) (fun u hu => hK _ _ (post_pure (by show (if _ then u else _) = _; rw [if_pos rfl]; exact hu)))
      try rw [ht, cond_true] at e1
      clear hfor huse hap hmi hK hF
      generalize a.eval = ρ at *
      go_simp
    · intro a W own hfor huse hap hmi hF K hK
      have e2 : a.eval (.tmp 2) = .pointer (some ⟨w.heap.size, 0, none⟩) := hfor 2 (by kernel_rfl)
      have e49 : a.eval (.tmp 49) = .bool tb := huse 12 (by kernel_rfl)
      refine gif_val tb (.pointer (some ⟨w.heap.size, 2, none⟩)) rfl (yield_of (t := 49) rfl rfl e49) (fun ht => ?_) (fun u hu => hK _ _ (post_pure (by show (if _ then u else _) = _; rw [if_pos rfl]; exact hu)))
      try rw [ht, cond_true] at e2
      clear hfor huse hap hmi hK hF
      generalize a.eval = ρ at *
      go_simp
    · intro a W own hfor huse hap hmi hF K hK
      have e51 : a.eval (.tmp 51) = bif tb then .pointer (some ⟨w.heap.size, 2, none⟩) else undef := huse 14 (by kernel_rfl)
      have e49 : a.eval (.tmp 49) = .bool tb := huse 12 (by kernel_rfl)
      have c2 := foot_cell hF (fun h => h) Y2.out
      refine gif_val tb (.slice E2 g.b.length m2) rfl (yield_of (t := 49) rfl rfl e49) (fun ht => ?_) (fun u hu => hK _ _ (post_pure (by show (if _ then u else _) = _; rw [if_pos rfl]; exact hu)))
      try rw [ht, cond_true] at e51
      clear hfor huse hap hmi hK hF
      generalize a.eval = ρ at *
      go_simp
    · intro a W own hfor huse hap hmi hF K hK
      have e49 : a.eval (.tmp 49) = .bool tb := huse 12 (by kernel_rfl)
      have e50 : a.eval (.tmp 50) = bif tb then .func (.func 204) #[] #[] else undef := huse 13 (by kernel_rfl)
      have e52 : a.eval (.tmp 52) = bif tb then .slice E2 g.b.length m2 else undef := huse 15 (by kernel_rfl)
      refine gif_call (f := 204) (args := #[.slice E2 g.b.length m2]) tb (.bool mb) rfl (yield_of (t := 49) rfl rfl e49) (fun ht => ?_) (fun ht => (show Calls _ _ _ _ (fun e w1 => e = .returned (.bool mb) ∧ Below W.heap.size W w1) from by rw [← Mb.out]; exact inClause_i _ g.b ok W (foot_V hF (fun _ _ h => h) V2.out (by decide)))) (fun u w1 hu h2 => hK _ _ (post_new h2 (by show (if _ then u else _) = _; rw [if_pos rfl]; exact hu)))
      rw [ht, cond_true] at e50 e52
      clear hfor huse hap hmi hK hF
      generalize a.eval = ρ at *
      go_simp
    · intro a W own hfor huse hap hmi hF K hK
      have e49 : a.eval (.tmp 49) = .bool tb := huse 12 (by kernel_rfl)
      have e53 : a.eval (.tmp 53) = bif tb then .bool mb else undef := huse 16 (by kernel_rfl)
      have ec : a.eval (.const (.bool false)) = .bool false := rfl
      refine op_val (.bool (tb && mb)) W rfl ?_ (hK _ _ (post_pure ?_))
      · clear hfor huse hap hmi hK hF
        generalize a.eval = ρ at *
        cases tb <;> simp only [cond_true, cond_false, Bool.true_and, Bool.false_and] at * <;> go_simp
      · exact (if_pos rfl)
    · intro a W own hfor huse hap hmi hF K hK
      have e45 : a.eval (.tmp 45) = .bool (ta && ma) := huse 8 (by kernel_rfl)
      refine op_val (.bool (ta && ma)) W rfl ?_ (hK _ _ (post_pure ?_))
      · clear hfor huse hap hmi hK hF
        generalize a.eval = ρ at *
        go_simp
      · exact (if_pos rfl)
    · intro a W own hfor huse hap hmi hF K hK
      have e54 : a.eval (.tmp 54) = .bool (tb && mb) := huse 17 (by kernel_rfl)
      refine op_val (.bool (tb && mb)) W rfl ?_ (hK _ _ (post_pure ?_))
      · clear hfor huse hap hmi hK hF
        generalize a.eval = ρ at *
        go_simp
      · exact (if_pos rfl)
    intro a9 W9 own9 hf9
    have hsz := hf9.st.size
    have hdf := hf9.st.rest
    obtain ⟨⟨l⟩, df⟩ := a9
    have hl0 : l.length = 93 := hsz
    clear hsz
    obtain rfl : df = [] := hdf
    obtain ⟨x0, l0, rfl, hl1⟩ := lst_cons hl0
    clear hl0
    obtain ⟨x1, l1, rfl, hl2⟩ := lst_cons hl1
    clear hl1
    obtain ⟨x2, l2, rfl, hl3⟩ := lst_cons hl2
    clear hl2
    obtain ⟨x3, l3, rfl, hl4⟩ := lst_cons hl3
    clear hl3
    obtain ⟨x4, l4, rfl, hl5⟩ := lst_cons hl4
    clear hl4
    obtain ⟨x5, l5, rfl, hl6⟩ := lst_cons hl5
    clear hl5
    obtain ⟨x6, l6, rfl, hl7⟩ := lst_cons hl6
    clear hl6
    obtain ⟨x7, l7, rfl, hl8⟩ := lst_cons hl7
    clear hl7
    obtain ⟨x8, l8, rfl, hl9⟩ := lst_cons hl8
    clear hl8
    obtain ⟨x9, l9, rfl, hl10⟩ := lst_cons hl9
    clear hl9
    obtain ⟨x10, l10, rfl, hl11⟩ := lst_cons hl10
    clear hl10
    obtain ⟨x11, l11, rfl, hl12⟩ := lst_cons hl11
    clear hl11
    obtain ⟨x12, l12, rfl, hl13⟩ := lst_cons hl12
    clear hl12
    obtain ⟨x13, l13, rfl, hl14⟩ := lst_cons hl13
    clear hl13
    obtain ⟨x14, l14, rfl, hl15⟩ := lst_cons hl14
    clear hl14
    obtain ⟨x15, l15, rfl, hl16⟩ := lst_cons hl15
    clear hl15
    obtain ⟨x16, l16, rfl, hl17⟩ := lst_cons hl16
    clear hl16
    obtain ⟨x17, l17, rfl, hl18⟩ := lst_cons hl17
    clear hl17
    obtain ⟨x18, l18, rfl, hl19⟩ := lst_cons hl18
    clear hl18
    obtain ⟨x19, l19, rfl, hl20⟩ := lst_cons hl19
    clear hl19
    obtain ⟨x20, l20, rfl, hl21⟩ := lst_cons hl20
    clear hl20
    obtain ⟨x21, l21, rfl, hl22⟩ := lst_cons hl21
    clear hl21
    obtain ⟨x22, l22, rfl, hl23⟩ := lst_cons hl22
    clear hl22
    obtain ⟨x23, l23, rfl, hl24⟩ := lst_cons hl23
    clear hl23
    obtain ⟨x24, l24, rfl, hl25⟩ := lst_cons hl24
    clear hl24
    obtain ⟨x25, l25, rfl, hl26⟩ := lst_cons hl25
    clear hl25
    obtain ⟨x26, l26, rfl, hl27⟩ := lst_cons hl26
    clear hl26
    obtain ⟨x27, l27, rfl, hl28⟩ := lst_cons hl27
    clear hl27
    obtain ⟨x28, l28, rfl, hl29⟩ := lst_cons hl28
    clear hl28
    obtain ⟨x29, l29, rfl, hl30⟩ := lst_cons hl29
    clear hl29
    obtain ⟨x30, l30, rfl, hl31⟩ := lst_cons hl30
    clear hl30
    obtain ⟨x31, l31, rfl, hl32⟩ := lst_cons hl31
    clear hl31
    obtain ⟨x32, l32, rfl, hl33⟩ := lst_cons hl32
    clear hl32
    obtain ⟨x33, l33, rfl, hl34⟩ := lst_cons hl33
    clear hl33
    obtain ⟨x34, l34, rfl, hl35⟩ := lst_cons hl34
    clear hl34
    obtain ⟨x35, l35, rfl, hl36⟩ := lst_cons hl35
    clear hl35
    obtain ⟨x36, l36, rfl, hl37⟩ := lst_cons hl36
    clear hl36
    obtain ⟨x37, l37, rfl, hl38⟩ := lst_cons hl37
    clear hl37
    obtain ⟨x38, l38, rfl, hl39⟩ := lst_cons hl38
    clear hl38
    obtain ⟨x39, l39, rfl, hl40⟩ := lst_cons hl39
    clear hl39
    obtain ⟨x40, l40, rfl, hl41⟩ := lst_cons hl40
    clear hl40
    obtain ⟨x41, l41, rfl, hl42⟩ := lst_cons hl41
    clear hl41
    obtain ⟨x42, l42, rfl, hl43⟩ := lst_cons hl42
    clear hl42
    obtain ⟨x43, l43, rfl, hl44⟩ := lst_cons hl43
    clear hl43
    obtain ⟨x44, l44, rfl, hl45⟩ := lst_cons hl44
    clear hl44
    obtain ⟨x45, l45, rfl, hl46⟩ := lst_cons hl45
    clear hl45
    obtain ⟨x46, l46, rfl, hl47⟩ := lst_cons hl46
    clear hl46
    obtain ⟨x47, l47, rfl, hl48⟩ := lst_cons hl47
    clear hl47
    obtain ⟨x48, l48, rfl, hl49⟩ := lst_cons hl48
    clear hl48
    obtain ⟨x49, l49, rfl, hl50⟩ := lst_cons hl49
    clear hl49
    obtain ⟨x50, l50, rfl, hl51⟩ := lst_cons hl50
    clear hl50
    obtain ⟨x51, l51, rfl, hl52⟩ := lst_cons hl51
    clear hl51
    obtain ⟨x52, l52, rfl, hl53⟩ := lst_cons hl52
    clear hl52
    obtain ⟨x53, l53, rfl, hl54⟩ := lst_cons hl53
    clear hl53
    obtain ⟨x54, l54, rfl, hl55⟩ := lst_cons hl54
    clear hl54
    obtain ⟨x55, l55, rfl, hl56⟩ := lst_cons hl55
    clear hl55
    obtain ⟨x56, l56, rfl, hl57⟩ := lst_cons hl56
    clear hl56
    obtain ⟨x57, l57, rfl, hl58⟩ := lst_cons hl57
    clear hl57
    obtain ⟨x58, l58, rfl, hl59⟩ := lst_cons hl58
    clear hl58
    obtain ⟨x59, l59, rfl, hl60⟩ := lst_cons hl59
    clear hl59
    obtain ⟨x60, l60, rfl, hl61⟩ := lst_cons hl60
    clear hl60
    obtain ⟨x61, l61, rfl, hl62⟩ := lst_cons hl61
    clear hl61
    obtain ⟨x62, l62, rfl, hl63⟩ := lst_cons hl62
    clear hl62
    obtain ⟨x63, l63, rfl, hl64⟩ := lst_cons hl63
    clear hl63
    obtain ⟨x64, l64, rfl, hl65⟩ := lst_cons hl64
    clear hl64
    obtain ⟨x65, l65, rfl, hl66⟩ := lst_cons hl65
    clear hl65
    obtain ⟨x66, l66, rfl, hl67⟩ := lst_cons hl66
    clear hl66
    obtain ⟨x67, l67, rfl, hl68⟩ := lst_cons hl67
    clear hl67
    obtain ⟨x68, l68, rfl, hl69⟩ := lst_cons hl68
    clear hl68
    obtain ⟨x69, l69, rfl, hl70⟩ := lst_cons hl69
    clear hl69
    obtain ⟨x70, l70, rfl, hl71⟩ := lst_cons hl70
    clear hl70
    obtain ⟨x71, l71, rfl, hl72⟩ := lst_cons hl71
    clear hl71
    obtain ⟨x72, l72, rfl, hl73⟩ := lst_cons hl72
    clear hl72
    obtain ⟨x73, l73, rfl, hl74⟩ := lst_cons hl73
    clear hl73
    obtain ⟨x74, l74, rfl, hl75⟩ := lst_cons hl74
    clear hl74
    obtain ⟨x75, l75, rfl, hl76⟩ := lst_cons hl75
    clear hl75
    obtain ⟨x76, l76, rfl, hl77⟩ := lst_cons hl76
    clear hl76
    obtain ⟨x77, l77, rfl, hl78⟩ := lst_cons hl77
    clear hl77
    obtain ⟨x78, l78, rfl, hl79⟩ := lst_cons hl78
    clear hl78
    obtain ⟨x79, l79, rfl, hl80⟩ := lst_cons hl79
    clear hl79
    obtain ⟨x80, l80, rfl, hl81⟩ := lst_cons hl80
    clear hl80
    obtain ⟨x81, l81, rfl, hl82⟩ := lst_cons hl81
    clear hl81
    obtain ⟨x82, l82, rfl, hl83⟩ := lst_cons hl82
    clear hl82
    obtain ⟨x83, l83, rfl, hl84⟩ := lst_cons hl83
    clear hl83
    obtain ⟨x84, l84, rfl, hl85⟩ := lst_cons hl84
    clear hl84
    obtain ⟨x85, l85, rfl, hl86⟩ := lst_cons hl85
    clear hl85
    obtain ⟨x86, l86, rfl, hl87⟩ := lst_cons hl86
    clear hl86
    obtain ⟨x87, l87, rfl, hl88⟩ := lst_cons hl87
    clear hl87
    obtain ⟨x88, l88, rfl, hl89⟩ := lst_cons hl88
    clear hl88
    obtain ⟨x89, l89, rfl, hl90⟩ := lst_cons hl89
    clear hl89
    obtain ⟨x90, l90, rfl, hl91⟩ := lst_cons hl90
    clear hl90
    obtain ⟨x91, l91, rfl, hl92⟩ := lst_cons hl91
    clear hl91
    obtain ⟨x92, l92, rfl, hl93⟩ := lst_cons hl92
    clear hl92
    obtain rfl := List.eq_nil_of_length_eq_zero hl93
    have e0 := hf9.st.kept 0 (by kernel_rfl)
    simp only [slotsOf, Act.eval, Array.getD_eq_getD_getElem?, List.getElem?_toArray, List.getElem?_cons_zero, Option.getD_some] at e0
    subst e0
    have e1 := hf9.st.kept 1 (by kernel_rfl)
    simp only [slotsOf, Act.eval, Array.getD_eq_getD_getElem?, List.getElem?_toArray, List.getElem?_cons_succ, List.getElem?_cons_zero, Option.getD_some] at e1
    subst e1
    have e2 := hf9.st.kept 2 (by kernel_rfl)
    simp only [slotsOf, Act.eval, Array.getD_eq_getD_getElem?, List.getElem?_toArray, List.getElem?_cons_succ, List.getElem?_cons_zero, Option.getD_some] at e2
    subst e2
    have e4 := hf9.st.kept 4 (by kernel_rfl)
    simp only [slotsOf, Act.eval, Array.getD_eq_getD_getElem?, List.getElem?_toArray, List.getElem?_cons_succ, List.getElem?_cons_zero, Option.getD_some] at e4
    subst e4
    have e7 := hf9.st.kept 7 (by kernel_rfl)
    simp only [slotsOf, Act.eval, Array.getD_eq_getD_getElem?, List.getElem?_toArray, List.getElem?_cons_succ, List.getElem?_cons_zero, Option.getD_some] at e7
    subst e7
    have e5 : x5 = .bool (ta && ma) := hf9.at 18 (fun val _ _ => val 5 = .bool (ta && ma)) rfl (by kernel_rfl)
    subst e5
    have e6 : x6 = .bool (tb && mb) := hf9.at 19 (fun val _ _ => val 6 = .bool (tb && mb)) rfl (by kernel_rfl)
    subst e6
    have B9 := Sec.mk (hf9.st.foot.below (belD B1.out) (fun k h => h.elim))
    clear hf9
    generalize (ta && ma) = pa at *
    generalize (tb && mb) = pb at *
    cases pa <;> cases pb <;> go_wp2 <;> (go_ret; exact ⟨rb HE.out.symm, B9.out⟩)
  rcases Decidable.em (g.kind = 4) with hk | hk
  · have HE := Sec.mk (HE.out.trans (by rw [hk]; rfl : _ = ((ta && ma) && (tb && mb) && qc)))
    have k1 : (g.kind == 1) = false := by rw [hk]; rfl
    have k6 : (g.kind == 6) = false := by rw [hk]; rfl
    have k2 : (g.kind == 2) = false := by rw [hk]; rfl
    have k4 : (g.kind == 4) = true := by rw [hk]; rfl
    have k5 : (g.kind == 5) = false := by rw [hk]; rfl
    have k3 : (g.kind == 3) = false := by rw [hk]; rfl
    clear hk
    go_wp2
    refine wp_region_lists [[37], [38], [39], [40], [41], [42], [43], [44], [45], [46], [47], [48], [49], [50], [51], [52], [53], [54], [5], [6]]
      [fun val _ _ => val 37 = .pointer (some ⟨w.heap.size, 1, none⟩),
        fun val _ _ => val 38 = .slice E1 g.a.length m1,
        fun val _ _ => val 39 = .bool ta,
        fun val _ _ => val 40 = .bool ta,
        fun val _ _ => val 41 = bif ta then .func (.func 204) #[] #[] else undef,
        fun val _ _ => val 42 = bif ta then .pointer (some ⟨w.heap.size, 1, none⟩) else undef,
        fun val _ _ => val 43 = bif ta then .slice E1 g.a.length m1 else undef,
        fun val _ _ => val 44 = bif ta then .bool ma else undef,
        fun val _ _ => val 45 = .bool (ta && ma),
        fun val _ _ => val 46 = .pointer (some ⟨w.heap.size, 2, none⟩),
        fun val _ _ => val 47 = .slice E2 g.b.length m2,
        fun val _ _ => val 48 = .bool tb,
        fun val _ _ => val 49 = .bool tb,
        fun val _ _ => val 50 = bif tb then .func (.func 204) #[] #[] else undef,
        fun val _ _ => val 51 = bif tb then .pointer (some ⟨w.heap.size, 2, none⟩) else undef,
        fun val _ _ => val 52 = bif tb then .slice E2 g.b.length m2 else undef,
        fun val _ _ => val 53 = bif tb then .bool mb else undef,
        fun val _ _ => val 54 = .bool (tb && mb),
        fun val _ _ => val 5 = .bool (ta && ma),
        fun val _ _ => val 6 = .bool (tb && mb)]
      [[], [], [], [], [], [], [], [], [], [], [], [], [], [], [], [], [], [], [], []] 0 (fun _ => False) (fun _ _ => False) (by kernel_rfl) ⟨by kernel_rfl, by kernel_rfl, by kernel_rfl, by kernel_rfl, by kernel_rfl⟩
      (.cons (stab_val 37 (fun v => v = .pointer (some ⟨w.heap.size, 1, none⟩))) (.cons (stab_val 38 (fun v => v = .slice E1 g.a.length m1)) (.cons (stab_val 39 (fun v => v = .bool ta)) (.cons (stab_val 40 (fun v => v = .bool ta)) (.cons (stab_val 41 (fun v => v = bif ta then .func (.func 204) #[] #[] else undef)) (.cons (stab_val 42 (fun v => v = bif ta then .pointer (some ⟨w.heap.size, 1, none⟩) else undef)) (.cons (stab_val 43 (fun v => v = bif ta then .slice E1 g.a.length m1 else undef)) (.cons (stab_val 44 (fun v => v = bif ta then .bool ma else undef)) (.cons (stab_val 45 (fun v => v = .bool (ta && ma))) (.cons (stab_val 46 (fun v => v = .pointer (some ⟨w.heap.size, 2, none⟩))) (.cons (stab_val 47 (fun v => v = .slice E2 g.b.length m2)) (.cons (stab_val 48 (fun v => v = .bool tb)) (.cons (stab_val 49 (fun v => v = .bool tb)) (.cons (stab_val 50 (fun v => v = bif tb then .func (.func 204) #[] #[] else undef)) (.cons (stab_val 51 (fun v => v = bif tb then .pointer (some ⟨w.heap.size, 2, none⟩) else undef)) (.cons (stab_val 52 (fun v => v = bif tb then .slice E2 g.b.length m2 else undef)) (.cons (stab_val 53 (fun v => v = bif tb then .bool mb else undef)) (.cons (stab_val 54 (fun v => v = .bool (tb && mb))) (.cons (stab_val 5 (fun v => v = .bool (ta && ma))) (.cons (stab_val 6 (fun v => v = .bool (tb && mb))) .nil))))))))))))))))))))
      (fun i j k h1 h2 => h1.elim) (fun i k h => h.elim) (fun i h1 h2 => by simp at h1 h2; omega) (.cons ?_ (.cons ?_ (.cons ?_ (.cons ?_ (.cons ?_ (.cons ?_ (.cons ?_ (.cons ?_ (.cons ?_ (.cons ?_ (.cons ?_ (.cons ?_ (.cons ?_ (.cons ?_ (.cons ?_ (.cons ?_ (.cons ?_ (.cons ?_ (.cons ?_ (.cons ?_ .nil)))))))))))))))))))) ?_
    · intro a W own hfor huse hap hmi hF K hK
      have e2 : a.eval (.tmp 2) = .pointer (some ⟨w.heap.size, 0, none⟩) := hfor 2 (by kernel_rfl)
      refine op_val (.pointer (some ⟨w.heap.size, 1, none⟩)) W rfl ?_ (hK _ _ (post_pure ?_))
      · clear hfor huse hap hmi hK hF
        generalize a.eval = ρ at *
        go_simp
      · exact (if_pos rfl)
    · intro a W own hfor huse hap hmi hF K hK
      have e37 : a.eval (.tmp 37) = .pointer (some ⟨w.heap.size, 1, none⟩) := huse 0 (by kernel_rfl)
      have c1 := foot_cell hF (fun h => h) Y1.out
      refine op_val (.slice E1 g.a.length m1) W rfl ?_ (hK _ _ (post_pure ?_))
      · clear hfor huse hap hmi hK hF
        generalize a.eval = ρ at *
        go_simp
      · exact (if_pos rfl)
    · intro a W own hfor huse hap hmi hF K hK
      have e38 : a.eval (.tmp 38) = .slice E1 g.a.length m1 := huse 1 (by kernel_rfl)
      have efn : a.eval (.func 56) = .func (.func 56) #[] #[] := rfl
      refine op_call (f := 56) (args := #[.slice E1 g.a.length m1]) (fun v w1 => v = .bool ta ∧ Below W.heap.size W w1) rfl ?_ ?_ (fun v w1 h => ?_)
      · clear hfor huse hap hmi hK hF
        generalize a.eval = ρ at *
        go_simp
      · exact ((show Calls _ _ _ _ (fun e w1 => e = .returned (.bool ta) ∧ Below W.heap.size W w1) from by rw [← Ta.out]; exact TrmOk_i _ g.a ok W (foot_V hF (fun _ _ h => h) V1.out (by decide)))).mono (by rintro e w1 ⟨rfl, h2⟩; exact ⟨_, rfl, rfl, h2⟩)
      · obtain ⟨rfl, h2⟩ := h
        exact hK _ _ (post_new h2 (if_pos rfl))
    · intro a W own hfor huse hap hmi hF K hK
      have e39 : a.eval (.tmp 39) = .bool ta := huse 2 (by kernel_rfl)
      refine op_val (.bool ta) W rfl ?_ (hK _ _ (post_pure ?_))
      · clear hfor huse hap hmi hK hF
        generalize a.eval = ρ at *
        go_simp
      · exact (if_pos rfl)
    · intro a W own hfor huse hap hmi hF K hK
      have e1 : a.eval (.tmp 1) = .func (.func 204) #[] #[] := hfor 1 (by kernel_rfl)
      have e40 : a.eval (.tmp 40) = .bool ta := huse 3 (by kernel_rfl)
      refine gif_val ta (.func (.func 204) #[] #[]) rfl (yield_of (t := 40) rfl rfl e40) (fun ht => ?_) (fun u hu => hK _ _ (post_pure (by show (if _ then u else _) = _; rw [if_pos rfl]; exact hu)))
      try rw [ht, cond_true] at e1
      clear hfor huse hap hmi hK hF
      generalize a.eval = ρ at *
      go_simp
    · intro a W own hfor huse hap hmi hF K hK
      have e2 : a.eval (.tmp 2) = .pointer (some ⟨w.heap.size, 0, none⟩) := hfor 2 (by kernel_rfl)
      have e40 : a.eval (.tmp 40) = .bool ta := huse 3 (by kernel_rfl)
      refine gif_val ta (.pointer (some ⟨w.heap.size, 1, none⟩)) rfl (yield_of (t := 40) rfl rfl e40) (fun ht => ?_) (fun u hu => hK _ _ (post_pure (by show (if _ then u else _) = _; rw [if_pos rfl]; exact hu)))
      try rw [ht, cond_true] at e2
      clear hfor huse hap hmi hK hF
      generalize a.eval = ρ at *
      go_simp
    · intro a W own hfor huse hap hmi hF K hK
      have e42 : a.eval (.tmp 42) = bif ta then .pointer (some ⟨w.heap.size, 1, none⟩) else undef := huse 5 (by kernel_rfl)
      have e40 : a.eval (.tmp 40) = .bool ta := huse 3 (by kernel_rfl)
      have c1 := foot_cell hF (fun h => h) Y1.out
      refine gif_val ta (.slice E1 g.a.length m1) rfl (yield_of (t := 40) rfl rfl e40) (fun ht => ?_) (fun u hu => hK _ _ (post_pure (by show (if _ then u else _) = _; rw [if_pos rfl]; exact hu)))
      try rw [ht, cond_true] at e42
      clear hfor huse hap hmi hK hF
      generalize a.eval = ρ at *
      go_simp
    · intro a W own hfor huse hap hmi hF K hK
      have e40 : a.eval (.tmp 40) = .bool ta := huse 3 (by kernel_rfl)
      have e41 : a.eval (.tmp 41) = bif ta then .func (.func 204) #[] #[] else undef := huse 4 (by kernel_rfl)
      have e43 : a.eval (.tmp 43) = bif ta then .slice E1 g.a.length m1 else undef := huse 6 (by kernel_rfl)
      refine gif_call (f := 204) (args := #[.slice E1 g.a.length m1]) ta (.bool ma) rfl (yield_of (t := 40) rfl rfl e40) (fun ht => ?_) (fun ht => (show Calls _ _ _ _ (fun e w1 => e = .returned (.bool ma) ∧ Below W.heap.size W w1) from by rw [← Ma.out]; exact inClause_i _ g.a ok W (foot_V hF (fun _ _ h => h) V1.out (by decide)))) (fun u w1 hu h2 => hK _ _ (post_new h2 (by show (if _ then u else _) = _; rw [if_pos rfl]; exact hu)))
      rw [ht, cond_true] at e41 e43
      clear hfor huse hap hmi hK hF
      generalize a.eval = ρ at *
      go_simp
    · intro a W own hfor huse hap hmi hF K hK
      have e40 : a.eval (.tmp 40) = .bool ta := huse 3 (by kernel_rfl)
      have e44 : a.eval (.tmp 44) = bif ta then .bool ma else undef := huse 7 (by kernel_rfl)
      have ec : a.eval (.const (.bool false)) = .bool false := rfl
      refine op_val (.bool (ta && ma)) W rfl ?_ (hK _ _ (post_pure ?_))
      · clear hfor huse hap hmi hK hF
        generalize a.eval = ρ at *
        cases ta <;> simp only [cond_true, cond_false, Bool.true_and, Bool.false_and] at * <;> go_simp
      · exact (if_pos rfl)
    · intro a W own hfor huse hap hmi hF K hK
      have e2 : a.eval (.tmp 2) = .pointer (some ⟨w.heap.size, 0, none⟩) := hfor 2 (by kernel_rfl)
      refine op_val (.pointer (some ⟨w.heap.size, 2, none⟩)) W rfl ?_ (hK _ _ (post_pure ?_))
      · clear hfor huse hap hmi hK hF
        generalize a.eval = ρ at *
        go_simp
      · exact (if_pos rfl)
    · intro a W own hfor huse hap hmi hF K hK
      have e46 : a.eval (.tmp 46) = .pointer (some ⟨w.heap.size, 2, none⟩) := huse 9 (by kernel_rfl)
      have c2 := foot_cell hF (fun h => h) Y2.out
      refine op_val (.slice E2 g.b.length m2) W rfl ?_ (hK _ _ (post_pure ?_))
      · clear hfor huse hap hmi hK hF
        generalize a.eval = ρ at *
        go_simp
      · exact (if_pos rfl)
    · intro a W own hfor huse hap hmi hF K hK
      have e47 : a.eval (.tmp 47) = .slice E2 g.b.length m2 := huse 10 (by kernel_rfl)
      have efn : a.eval (.func 56) = .func (.func 56) #[] #[] := rfl
      refine op_call (f := 56) (args := #[.slice E2 g.b.length m2]) (fun v w1 => v = .bool tb ∧ Below W.heap.size W w1) rfl ?_ ?_ (fun v w1 h => ?_)
      · clear hfor huse hap hmi hK hF
        generalize a.eval = ρ at *
        go_simp
      · exact ((show Calls _ _ _ _ (fun e w1 => e = .returned (.bool tb) ∧ Below W.heap.size W w1) from by rw [← Tb.out]; exact TrmOk_i _ g.b ok W (foot_V hF (fun _ _ h => h) V2.out (by decide)))).mono (by rintro e w1 ⟨rfl, h2⟩; exact ⟨_, rfl, rfl, h2⟩)
      · obtain ⟨rfl, h2⟩ := h
        exact hK _ _ (post_new h2 (if_pos rfl))
    · intro a W own hfor huse hap hmi hF K hK
      have e48 : a.eval (.tmp 48) = .bool tb := huse 11 (by kernel_rfl)
      refine op_val (.bool tb) W rfl ?_ (hK _ _ (post_pure ?_))
      · clear hfor huse hap hmi hK hF
        generalize a.eval = ρ at *
        go_simp
      · exact (if_pos rfl)
    · intro a W own hfor huse hap hmi hF K hK
      have e1 : a.eval (.tmp 1) = .func (.func 204) #[] #[] := hfor 1 (by kernel_rfl)
      have e49 : a.eval (.tmp 49) = .bool tb := huse 12 (by kernel_rfl)
      refine gif_val tb (.func (.func 204) #[] #[]) rfl (yield_of (t := 49) rfl rfl e49) (fun ht => ?_) (fun u hu => hK _ _ (post_pure (by show (if _ then u else _) = _; rw [if_pos rfl]; exact hu)))
      try rw [ht, cond_true] at e1
      clear hfor huse hap hmi hK hF
      generalize a.eval = ρ at *
      go_simp
    · intro a W own hfor huse hap hmi hF K hK
      have e2 : a.eval (.tmp 2) = .pointer (some ⟨w.heap.size, 0, none⟩) := hfor 2 (by kernel_rfl)
      have e49 : a.eval (.tmp 49) = .bool tb := huse 12 (by kernel_rfl)
      refine gif_val tb (.pointer (some ⟨w.heap.size, 2, none⟩)) rfl (yield_of (t := 49) rfl rfl e49) (fun ht => ?_) (fun u hu => hK _ _ (post_pure (by show (if _ then u else _) = _; rw [if_pos rfl]; exact hu)))
      try rw [ht, cond_true] at e2
      clear hfor huse hap hmi hK hF
      generalize a.eval = ρ at *
      go_simp
    · intro a W own hfor huse hap hmi hF K hK
      have e51 : a.eval (.tmp 51) = bif tb then .pointer (some ⟨w.heap.size, 2, none⟩) else undef := huse 14 (by kernel_rfl)
      have e49 : a.eval (.tmp 49) = .bool tb := huse 12 (by kernel_rfl)
      have c2 := foot_cell hF (fun h => h) Y2.out
      refine gif_val tb (.slice E2 g.b.length m2) rfl (yield_of (t := 49) rfl rfl e49) (fun ht => ?_) (fun u hu => hK _ _ (post_pure (by show (if _ then u else _) = _; rw [if_pos rfl]; exact hu)))
      try rw [ht, cond_true] at e51
      clear hfor huse hap hmi hK hF
      generalize a.eval = ρ at *
      go_simp
    · intro a W own hfor huse hap hmi hF K hK
      have e49 : a.eval (.tmp 49) = .bool tb := huse 12 (by kernel_rfl)
      have e50 : a.eval (.tmp 50) = bif tb then .func (.func 204) #[] #[] else undef := huse 13 (by kernel_rfl)
      have e52 : a.eval (.tmp 52) = bif tb then .slice E2 g.b.length m2 else undef := huse 15 (by kernel_rfl)
      refine gif_call (f := 204) (args := #[.slice E2 g.b.length m2]) tb (.bool mb) rfl (yield_of (t := 49) rfl rfl e49) (fun ht => ?_) (fun ht => (show Calls _ _ _ _ (fun e w1 => e = .returned (.bool mb) ∧ Below W.heap.size W w1) from by rw [← Mb.out]; exact inClause_i _ g.b ok W (foot_V hF (fun _ _ h => h) V2.out (by decide)))) (fun u w1 hu h2 => hK _ _ (post_new h2 (by show (if _ then u else _) = _; rw [if_pos rfl]; exact hu)))
      rw [ht, cond_true] at e50 e52
      clear hfor huse hap hmi hK hF
      generalize a.eval = ρ at *
      go_simp
    · intro a W own hfor huse hap hmi hF K hK
      have e49 : a.eval (.tmp 49) = .bool tb := huse 12 (by kernel_rfl)
      have e53 : a.eval (.tmp 53) = bif tb then .bool mb else undef := huse 16 (by kernel_rfl)
      have ec : a.eval (.const (.bool false)) = .bool false := rfl
      refine op_val (.bool (tb && mb)) W rfl ?_ (hK _ _ (post_pure ?_))
      · clear hfor huse hap hmi hK hF
        generalize a.eval = ρ at *
        cases tb <;> simp only [cond_true, cond_false, Bool.true_and, Bool.false_and] at * <;> go_simp
      · exact (if_pos rfl)
    · intro a W own hfor huse hap hmi hF K hK
      have e45 : a.eval (.tmp 45) = .bool (ta && ma) := huse 8 (by kernel_rfl)
      refine op_val (.bool (ta && ma)) W rfl ?_ (hK _ _ (post_pure ?_))
      · clear hfor huse hap hmi hK hF
        generalize a.eval = ρ at *
        go_simp
      · exact (if_pos rfl)
    · intro a W own hfor huse hap hmi hF K hK
      have e54 : a.eval (.tmp 54) = .bool (tb && mb) := huse 17 (by kernel_rfl)
      refine op_val (.bool (tb && mb)) W rfl ?_ (hK _ _ (post_pure ?_))
      · clear hfor huse hap hmi hK hF
        generalize a.eval = ρ at *
        go_simp
      · exact (if_pos rfl)
    intro a9 W9 own9 hf9
    have hsz := hf9.st.size
    have hdf := hf9.st.rest
    obtain ⟨⟨l⟩, df⟩ := a9
    have hl0 : l.length = 93 := hsz
    clear hsz
    obtain rfl : df = [] := hdf
    obtain ⟨x0, l0, rfl, hl1⟩ := lst_cons hl0
    clear hl0
    obtain ⟨x1, l1, rfl, hl2⟩ := lst_cons hl1
    clear hl1
    obtain ⟨x2, l2, rfl, hl3⟩ := lst_cons hl2
    clear hl2
    obtain ⟨x3, l3, rfl, hl4⟩ := lst_cons hl3
    clear hl3
    obtain ⟨x4, l4, rfl, hl5⟩ := lst_cons hl4
    clear hl4
    obtain ⟨x5, l5, rfl, hl6⟩ := lst_cons hl5
    clear hl5
    obtain ⟨x6, l6, rfl, hl7⟩ := lst_cons hl6
    clear hl6
    obtain ⟨x7, l7, rfl, hl8⟩ := lst_cons hl7
    clear hl7
    obtain ⟨x8, l8, rfl, hl9⟩ := lst_cons hl8
    clear hl8
    obtain ⟨x9, l9, rfl, hl10⟩ := lst_cons hl9
    clear hl9
    obtain ⟨x10, l10, rfl, hl11⟩ := lst_cons hl10
    clear hl10
    obtain ⟨x11, l11, rfl, hl12⟩ := lst_cons hl11
    clear hl11
    obtain ⟨x12, l12, rfl, hl13⟩ := lst_cons hl12
    clear hl12
    obtain ⟨x13, l13, rfl, hl14⟩ := lst_cons hl13
    clear hl13
    obtain ⟨x14, l14, rfl, hl15⟩ := lst_cons hl14
    clear hl14
    obtain ⟨x15, l15, rfl, hl16⟩ := lst_cons hl15
    clear hl15
    obtain ⟨x16, l16, rfl, hl17⟩ := lst_cons hl16
    clear hl16
    obtain ⟨x17, l17, rfl, hl18⟩ := lst_cons hl17
    clear hl17
    obtain ⟨x18, l18, rfl, hl19⟩ := lst_cons hl18
    clear hl18
    obtain ⟨x19, l19, rfl, hl20⟩ := lst_cons hl19
    clear hl19
    obtain ⟨x20, l20, rfl, hl21⟩ := lst_cons hl20
    clear hl20
    obtain ⟨x21, l21, rfl, hl22⟩ := lst_cons hl21
    clear hl21
    obtain ⟨x22, l22, rfl, hl23⟩ := lst_cons hl22
    clear hl22
    obtain ⟨x23, l23, rfl, hl24⟩ := lst_cons hl23
    clear hl23
    obtain ⟨x24, l24, rfl, hl25⟩ := lst_cons hl24
    clear hl24
    obtain ⟨x25, l25, rfl, hl26⟩ := lst_cons hl25
    clear hl25
    obtain ⟨x26, l26, rfl, hl27⟩ := lst_cons hl26
    clear hl26
    obtain ⟨x27, l27, rfl, hl28⟩ := lst_cons hl27
    clear hl27
    obtain ⟨x28, l28, rfl, hl29⟩ := lst_cons hl28
    clear hl28
    obtain ⟨x29, l29, rfl, hl30⟩ := lst_cons hl29
    clear hl29
    obtain ⟨x30, l30, rfl, hl31⟩ := lst_cons hl30
    clear hl30
    obtain ⟨x31, l31, rfl, hl32⟩ := lst_cons hl31
    clear hl31
    obtain ⟨x32, l32, rfl, hl33⟩ := lst_cons hl32
    clear hl32
    obtain ⟨x33, l33, rfl, hl34⟩ := lst_cons hl33
    clear hl33
    obtain ⟨x34, l34, rfl, hl35⟩ := lst_cons hl34
    clear hl34
    obtain ⟨x35, l35, rfl, hl36⟩ := lst_cons hl35
    clear hl35
    obtain ⟨x36, l36, rfl, hl37⟩ := lst_cons hl36
    clear hl36
    obtain ⟨x37, l37, rfl, hl38⟩ := lst_cons hl37
    clear hl37
    obtain ⟨x38, l38, rfl, hl39⟩ := lst_cons hl38
    clear hl38
    obtain ⟨x39, l39, rfl, hl40⟩ := lst_cons hl39
    clear hl39
    obtain ⟨x40, l40, rfl, hl41⟩ := lst_cons hl40
    clear hl40
    obtain ⟨x41, l41, rfl, hl42⟩ := lst_cons hl41
    clear hl41
    obtain ⟨x42, l42, rfl, hl43⟩ := lst_cons hl42
    clear hl42
    obtain ⟨x43, l43, rfl, hl44⟩ := lst_cons hl43
    clear hl43
    obtain ⟨x44, l44, rfl, hl45⟩ := lst_cons hl44
    clear hl44
    obtain ⟨x45, l45, rfl, hl46⟩ := lst_cons hl45
    clear hl45
    obtain ⟨x46, l46, rfl, hl47⟩ := lst_cons hl46
    clear hl46
    obtain ⟨x47, l47, rfl, hl48⟩ := lst_cons hl47
    clear hl47
    obtain ⟨x48, l48, rfl, hl49⟩ := lst_cons hl48
    clear hl48
    obtain ⟨x49, l49, rfl, hl50⟩ := lst_cons hl49
    clear hl49
    obtain ⟨x50, l50, rfl, hl51⟩ := lst_cons hl50
    clear hl50
    obtain ⟨x51, l51, rfl, hl52⟩ := lst_cons hl51
    clear hl51
    obtain ⟨x52, l52, rfl, hl53⟩ := lst_cons hl52
    clear hl52
    obtain ⟨x53, l53, rfl, hl54⟩ := lst_cons hl53
    clear hl53
    obtain ⟨x54, l54, rfl, hl55⟩ := lst_cons hl54
    clear hl54
    obtain ⟨x55, l55, rfl, hl56⟩ := lst_cons hl55
    clear hl55
    obtain ⟨x56, l56, rfl, hl57⟩ := lst_cons hl56
    clear hl56
    obtain ⟨x57, l57, rfl, hl58⟩ := lst_cons hl57
    clear hl57
    obtain ⟨x58, l58, rfl, hl59⟩ := lst_cons hl58
    clear hl58
    obtain ⟨x59, l59, rfl, hl60⟩ := lst_cons hl59
    clear hl59
    obtain ⟨x60, l60, rfl, hl61⟩ := lst_cons hl60
    clear hl60
    obtain ⟨x61, l61, rfl, hl62⟩ := lst_cons hl61
    clear hl61
    obtain ⟨x62, l62, rfl, hl63⟩ := lst_cons hl62
    clear hl62
    obtain ⟨x63, l63, rfl, hl64⟩ := lst_cons hl63
    clear hl63
    obtain ⟨x64, l64, rfl, hl65⟩ := lst_cons hl64
    clear hl64
    obtain ⟨x65, l65, rfl, hl66⟩ := lst_cons hl65
    clear hl65
    obtain ⟨x66, l66, rfl, hl67⟩ := lst_cons hl66
    clear hl66
    obtain ⟨x67, l67, rfl, hl68⟩ := lst_cons hl67
    clear hl67
    obtain ⟨x68, l68, rfl, hl69⟩ := lst_cons hl68
    clear hl68
    obtain ⟨x69, l69, rfl, hl70⟩ := lst_cons hl69
    clear hl69
    obtain ⟨x70, l70, rfl, hl71⟩ := lst_cons hl70
    clear hl70
    obtain ⟨x71, l71, rfl, hl72⟩ := lst_cons hl71
    clear hl71
    obtain ⟨x72, l72, rfl, hl73⟩ := lst_cons hl72
    clear hl72
    obtain ⟨x73, l73, rfl, hl74⟩ := lst_cons hl73
    clear hl73
    obtain ⟨x74, l74, rfl, hl75⟩ := lst_cons hl74
    clear hl74
    obtain ⟨x75, l75, rfl, hl76⟩ := lst_cons hl75
    clear hl75
    obtain ⟨x76, l76, rfl, hl77⟩ := lst_cons hl76
    clear hl76
    obtain ⟨x77, l77, rfl, hl78⟩ := lst_cons hl77
    clear hl77
    obtain ⟨x78, l78, rfl, hl79⟩ := lst_cons hl78
    clear hl78
    obtain ⟨x79, l79, rfl, hl80⟩ := lst_cons hl79
    clear hl79
    obtain ⟨x80, l80, rfl, hl81⟩ := lst_cons hl80
    clear hl80
    obtain ⟨x81, l81, rfl, hl82⟩ := lst_cons hl81
    clear hl81
    obtain ⟨x82, l82, rfl, hl83⟩ := lst_cons hl82
    clear hl82
    obtain ⟨x83, l83, rfl, hl84⟩ := lst_cons hl83
    clear hl83
    obtain ⟨x84, l84, rfl, hl85⟩ := lst_cons hl84
    clear hl84
    obtain ⟨x85, l85, rfl, hl86⟩ := lst_cons hl85
    clear hl85
    obtain ⟨x86, l86, rfl, hl87⟩ := lst_cons hl86
    clear hl86
    obtain ⟨x87, l87, rfl, hl88⟩ := lst_cons hl87
    clear hl87
    obtain ⟨x88, l88, rfl, hl89⟩ := lst_cons hl88
    clear hl88
    obtain ⟨x89, l89, rfl, hl90⟩ := lst_cons hl89
    clear hl89
    obtain ⟨x90, l90, rfl, hl91⟩ := lst_cons hl90
    clear hl90
    obtain ⟨x91, l91, rfl, hl92⟩ := lst_cons hl91
    clear hl91
    obtain ⟨x92, l92, rfl, hl93⟩ := lst_cons hl92
    clear hl92
    obtain rfl := List.eq_nil_of_length_eq_zero hl93
    have e0 := hf9.st.kept 0 (by kernel_rfl)
    simp only [slotsOf, Act.eval, Array.getD_eq_getD_getElem?, List.getElem?_toArray, List.getElem?_cons_zero, Option.getD_some] at e0
    subst e0
    have e1 := hf9.st.kept 1 (by kernel_rfl)
    simp only [slotsOf, Act.eval, Array.getD_eq_getD_getElem?, List.getElem?_toArray, List.getElem?_cons_succ, List.getElem?_cons_zero, Option.getD_some] at e1
    subst e1
    have e2 := hf9.st.kept 2 (by kernel_rfl)
    simp only [slotsOf, Act.eval, Array.getD_eq_getD_getElem?, List.getElem?_toArray, List.getElem?_cons_succ, List.getElem?_cons_zero, Option.getD_some] at e2
    subst e2
    have e4 := hf9.st.kept 4 (by kernel_rfl)
    simp only [slotsOf, Act.eval, Array.getD_eq_getD_getElem?, List.getElem?_toArray, List.getElem?_cons_succ, List.getElem?_cons_zero, Option.getD_some] at e4
    subst e4
    have e7 := hf9.st.kept 7 (by kernel_rfl)
    simp only [slotsOf, Act.eval, Array.getD_eq_getD_getElem?, List.getElem?_toArray, List.getElem?_cons_succ, List.getElem?_cons_zero, Option.getD_some] at e7
    subst e7
    have e5 : x5 = .bool (ta && ma) := hf9.at 18 (fun val _ _ => val 5 = .bool (ta && ma)) rfl (by kernel_rfl)
    subst e5
    have e6 : x6 = .bool (tb && mb) := hf9.at 19 (fun val _ _ => val 6 = .bool (tb && mb)) rfl (by kernel_rfl)
    subst e6
    have B9 := Sec.mk (hf9.st.foot.below (belD B1.out) (fun k h => h.elim))
    clear hf9
    generalize (ta && ma) = pa at *
    generalize (tb && mb) = pb at *
    cases pa <;> cases pb <;> go_wp2 <;> (go_ret; exact ⟨rb HE.out.symm, B9.out⟩)
  rcases Decidable.em (g.kind = 5) with hk | hk
  · have HE := Sec.mk (HE.out.trans (by rw [hk]; rfl : _ = ((ta && ma) && (tb && mb) && (tc && mc))))
    have k1 : (g.kind == 1) = false := by rw [hk]; rfl
    have k6 : (g.kind == 6) = false := by rw [hk]; rfl
    have k2 : (g.kind == 2) = false := by rw [hk]; rfl
    have k4 : (g.kind == 4) = false := by rw [hk]; rfl
    have k5 : (g.kind == 5) = true := by rw [hk]; rfl
    have k3 : (g.kind == 3) = false := by rw [hk]; rfl
    clear hk
    go_wp2
    refine wp_region_lists [[57], [58], [59], [60], [61], [62], [63], [64], [65], [66], [67], [68], [69], [70], [71], [72], [73], [74], [75], [76], [77], [78], [79], [80], [81], [82], [83], [5], [6], [7]]
      [fun val _ _ => val 57 = .pointer (some ⟨w.heap.size, 1, none⟩),
        fun val _ _ => val 58 = .slice E1 g.a.length m1,
        fun val _ _ => val 59 = .bool ta,
        fun val _ _ => val 60 = .bool ta,
        fun val _ _ => val 61 = bif ta then .func (.func 204) #[] #[] else undef,
        fun val _ _ => val 62 = bif ta then .pointer (some ⟨w.heap.size, 1, none⟩) else undef,
        fun val _ _ => val 63 = bif ta then .slice E1 g.a.length m1 else undef,
        fun val _ _ => val 64 = bif ta then .bool ma else undef,
        fun val _ _ => val 65 = .bool (ta && ma),
        fun val _ _ => val 66 = .pointer (some ⟨w.heap.size, 2, none⟩),
        fun val _ _ => val 67 = .slice E2 g.b.length m2,
        fun val _ _ => val 68 = .bool tb,
        fun val _ _ => val 69 = .bool tb,
        fun val _ _ => val 70 = bif tb then .func (.func 204) #[] #[] else undef,
        fun val _ _ => val 71 = bif tb then .pointer (some ⟨w.heap.size, 2, none⟩) else undef,
        fun val _ _ => val 72 = bif tb then .slice E2 g.b.length m2 else undef,
        fun val _ _ => val 73 = bif tb then .bool mb else undef,
        fun val _ _ => val 74 = .bool (tb && mb),
        fun val _ _ => val 75 = .pointer (some ⟨w.heap.size, 3, none⟩),
        fun val _ _ => val 76 = .slice E3 g.c.length m3,
        fun val _ _ => val 77 = .bool tc,
        fun val _ _ => val 78 = .bool tc,
        fun val _ _ => val 79 = bif tc then .func (.func 204) #[] #[] else undef,
        fun val _ _ => val 80 = bif tc then .pointer (some ⟨w.heap.size, 3, none⟩) else undef,
        fun val _ _ => val 81 = bif tc then .slice E3 g.c.length m3 else undef,
        fun val _ _ => val 82 = bif tc then .bool mc else undef,
        fun val _ _ => val 83 = .bool (tc && mc),
        fun val _ _ => val 5 = .bool (ta && ma),
        fun val _ _ => val 6 = .bool (tb && mb),
        fun val _ _ => val 7 = .bool (tc && mc)]
      [[], [], [], [], [], [], [], [], [], [], [], [], [], [], [], [], [], [], [], [], [], [], [], [], [], [], [], [], [], []] 0 (fun _ => False) (fun _ _ => False) (by kernel_rfl) ⟨by kernel_rfl, by kernel_rfl, by kernel_rfl, by kernel_rfl, by kernel_rfl⟩
      (.cons (stab_val 57 (fun v => v = .pointer (some ⟨w.heap.size, 1, none⟩))) (.cons (stab_val 58 (fun v => v = .slice E1 g.a.length m1)) (.cons (stab_val 59 (fun v => v = .bool ta)) (.cons (stab_val 60 (fun v => v = .bool ta)) (.cons (stab_val 61 (fun v => v = bif ta then .func (.func 204) #[] #[] else undef)) (.cons (stab_val 62 (fun v => v = bif ta then .pointer (some ⟨w.heap.size, 1, none⟩) else undef)) (.cons (stab_val 63 (fun v => v = bif ta then .slice E1 g.a.length m1 else undef)) (.cons (stab_val 64 (fun v => v = bif ta then .bool ma else undef)) (.cons (stab_val 65 (fun v => v = .bool (ta && ma))) (.cons (stab_val 66 (fun v => v = .pointer (some ⟨w.heap.size, 2, none⟩))) (.cons (stab_val 67 (fun v => v = .slice E2 g.b.length m2)) (.cons (stab_val 68 (fun v => v = .bool tb)) (.cons (stab_val 69 (fun v => v = .bool tb)) (.cons (stab_val 70 (fun v => v = bif tb then .func (.func 204) #[] #[] else undef)) (.cons (stab_val 71 (fun v => v = bif tb then .pointer (some ⟨w.heap.size, 2, none⟩) else undef)) (.cons (stab_val 72 (fun v => v = bif tb then .slice E2 g.b.length m2 else undef)) (.cons (stab_val 73 (fun v => v = bif tb then .bool mb else undef)) (.cons (stab_val 74 (fun v => v = .bool (tb && mb))) (.cons (stab_val 75 (fun v => v = .pointer (some ⟨w.heap.size, 3, none⟩))) (.cons (stab_val 76 (fun v => v = .slice E3 g.c.length m3)) (.cons (stab_val 77 (fun v => v = .bool tc)) (.cons (stab_val 78 (fun v => v = .bool tc)) (.cons (stab_val 79 (fun v => v = bif tc then .func (.func 204) #[] #[] else undef)) (.cons (stab_val 80 (fun v => v = bif tc then .pointer (some ⟨w.heap.size, 3, none⟩) else undef)) (.cons (stab_val 81 (fun v => v = bif tc then .slice E3 g.c.length m3 else undef)) (.cons (stab_val 82 (fun v => v = bif tc then .bool mc else undef)) (.cons (stab_val 83 (fun v => v = .bool (tc && mc))) (.cons (stab_val 5 (fun v => v = .bool (ta && ma))) (.cons (stab_val 6 (fun v => v = .bool (tb && mb))) (.cons (stab_val 7 (fun v => v = .bool (tc && mc))) .nil))))))))))))))))))))))))))))))
      (fun i j k h1 h2 => h1.elim) (fun i k h => h.elim) (fun i h1 h2 => by simp at h1 h2; omega) (.cons ?_ (.cons ?_ (.cons ?_ (.cons ?_ (.cons ?_ (.cons ?_ (.cons ?_ (.cons ?_ (.cons ?_ (.cons ?_ (.cons ?_ (.cons ?_ (.cons ?_ (.cons ?_ (.cons ?_ (.cons ?_ (.cons ?_ (.cons ?_ (.cons ?_ (.cons ?_ (.cons ?_ (.cons ?_ (.cons ?_ (.cons ?_ (.cons ?_ (.cons ?_ (.cons ?_ (.cons ?_ (.cons ?_ (.cons ?_ .nil)))))))))))))))))))))))))))))) ?_
    · intro a W own hfor huse hap hmi hF K hK
      have e2 : a.eval (.tmp 2) = .pointer (some ⟨w.heap.size, 0, none⟩) := hfor 2 (by kernel_rfl)
      refine op_val (.pointer (some ⟨w.heap.size, 1, none⟩)) W rfl ?_ (hK _ _ (post_pure ?_))
      · clear hfor huse hap hmi hK hF
        generalize a.eval = ρ at *
        go_simp
      · exact (if_pos rfl)
    · intro a W own hfor huse hap hmi hF K hK
      have e57 : a.eval (.tmp 57) = .pointer (some ⟨w.heap.size, 1, none⟩) := huse 0 (by kernel_rfl)
      have c1 := foot_cell hF (fun h => h) Y1.out
      refine op_val (.slice E1 g.a.length m1) W rfl ?_ (hK _ _ (post_pure ?_))
      · clear hfor huse hap hmi hK hF
        generalize a.eval = ρ at *
        go_simp
      · exact (if_pos rfl)
    · intro a W own hfor huse hap hmi hF K hK
      have e58 : a.eval (.tmp 58) = .slice E1 g.a.length m1 := huse 1 (by kernel_rfl)
      have efn : a.eval (.func 56) = .func (.func 56) #[] #[] := rfl
      refine op_call (f := 56) (args := #[.slice E1 g.a.length m1]) (fun v w1 => v = .bool ta ∧ Below W.heap.size W w1) rfl ?_ ?_ (fun v w1 h => ?_)
      · clear hfor huse hap hmi hK hF
        generalize a.eval = ρ at *
        go_simp
      · exact ((show Calls _ _ _ _ (fun e w1 => e = .returned (.bool ta) ∧ Below W.heap.size W w1) from by rw [← Ta.out]; exact TrmOk_i _ g.a ok W (foot_V hF (fun _ _ h => h) V1.out (by decide)))).mono (by rintro e w1 ⟨rfl, h2⟩; exact ⟨_, rfl, rfl, h2⟩)
      · obtain ⟨rfl, h2⟩ := h
        exact hK _ _ (post_new h2 (if_pos rfl))
    · intro a W own hfor huse hap hmi hF K hK
      have e59 : a.eval (.tmp 59) = .bool ta := huse 2 (by kernel_rfl)
      refine op_val (.bool ta) W rfl ?_ (hK _ _ (post_pure ?_))
      · clear hfor huse hap hmi hK hF
        generalize a.eval = ρ at *
        go_simp
      · exact (if_pos rfl)
    · intro a W own hfor huse hap hmi hF K hK
      have e1 : a.eval (.tmp 1) = .func (.func 204) #[] #[] := hfor 1 (by kernel_rfl)
      have e60 : a.eval (.tmp 60) = .bool ta := huse 3 (by kernel_rfl)
      refine gif_val ta (.func (.func 204) #[] #[]) rfl (yield_of (t := 60) rfl rfl e60) (fun ht => ?_) (fun u hu => hK _ _ (post_pure (by show (if _ then u else _) = _; rw [if_pos rfl]; exact hu)))
      try rw [ht, cond_true] at e1
      clear hfor huse hap hmi hK hF
      generalize a.eval = ρ at *
      go_simp
    · intro a W own hfor huse hap hmi hF K hK
      have e2 : a.eval (.tmp 2) = .pointer (some ⟨w.heap.size, 0, none⟩) := hfor 2 (by kernel_rfl)
      have e60 : a.eval (.tmp 60) = .bool ta := huse 3 (by kernel_rfl)
      refine gif_val ta (.pointer (some ⟨w.heap.size, 1, none⟩)) rfl (yield_of (t := 60) rfl rfl e60) (fun ht => ?_) (fun u hu => hK _ _ (post_pure (by show (if _ then u else _) = _; rw [if_pos rfl]; exact hu)))
      try rw [ht, cond_true] at e2
      clear hfor huse hap hmi hK hF
      generalize a.eval = ρ at *
      go_simp
    · intro a W own hfor huse hap hmi hF K hK
      have e62 : a.eval (.tmp 62) = bif ta then .pointer (some ⟨w.heap.size, 1, none⟩) else undef := huse 5 (by kernel_rfl)
      have e60 : a.eval (.tmp 60) = .bool ta := huse 3 (by kernel_rfl)
      have c1 := foot_cell hF (fun h => h) Y1.out
      refine gif_val ta (.slice E1 g.a.length m1) rfl (yield_of (t := 60) rfl rfl e60) (fun ht => ?_) (fun u hu => hK _ _ (post_pure (by show (if _ then u else _) = _; rw [if_pos rfl]; exact hu)))
      try rw [ht, cond_true] at e62
      clear hfor huse hap hmi hK hF
      generalize a.eval = ρ at *
      go_simp
    · intro a W own hfor huse hap hmi hF K hK
      have e60 : a.eval (.tmp 60) = .bool ta := huse 3 (by kernel_rfl)
      have e61 : a.eval (.tmp 61) = bif ta then .func (.func 204) #[] #[] else undef := huse 4 (by kernel_rfl)
      have e63 : a.eval (.tmp 63) = bif ta then .slice E1 g.a.length m1 else undef := huse 6 (by kernel_rfl)
      refine gif_call (f := 204) (args := #[.slice E1 g.a.length m1]) ta (.bool ma) rfl (yield_of (t := 60) rfl rfl e60) (fun ht => ?_) (fun ht => (show Calls _ _ _ _ (fun e w1 => e = .returned (.bool ma) ∧ Below W.heap.size W w1) from by rw [← Ma.out]; exact inClause_i _ g.a ok W (foot_V hF (fun _ _ h => h) V1.out (by decide)))) (fun u w1 hu h2 => hK _ _ (post_new h2 (by show (if _ then u else _) = _; rw [if_pos rfl]; exact hu)))
      rw [ht, cond_true] at e61 e63
      clear hfor huse hap hmi hK hF
      generalize a.eval = ρ at *
      go_simp
    · intro a W own hfor huse hap hmi hF K hK
      have e60 : a.eval (.tmp 60) = .bool ta := huse 3 (by kernel_rfl)
      have e64 : a.eval (.tmp 64) = bif ta then .bool ma else undef := huse 7 (by kernel_rfl)
      have ec : a.eval (.const (.bool false)) = .bool false := rfl
      refine op_val (.bool (ta && ma)) W rfl ?_ (hK _ _ (post_pure ?_))
      · clear hfor huse hap hmi hK hF
        generalize a.eval = ρ at *
        cases ta <;> simp only [cond_true, cond_false, Bool.true_and, Bool.false_and] at * <;> go_simp
      · exact (if_pos rfl)
    · intro a W own hfor huse hap hmi hF K hK
      have e2 : a.eval (.tmp 2) = .pointer (some ⟨w.heap.size, 0, none⟩) := hfor 2 (by kernel_rfl)
      refine op_val (.pointer (some ⟨w.heap.size, 2, none⟩)) W rfl ?_ (hK _ _ (post_pure ?_))
      · clear hfor huse hap hmi hK hF
        generalize a.eval = ρ at *
        go_simp
      · exact (if_pos rfl)
    · intro a W own hfor huse hap hmi hF K hK
      have e66 : a.eval (.tmp 66) = .pointer (some ⟨w.heap.size, 2, none⟩) := huse 9 (by kernel_rfl)
      have c2 := foot_cell hF (fun h => h) Y2.out
      refine op_val (.slice E2 g.b.length m2) W rfl ?_ (hK _ _ (post_pure ?_))
      · clear hfor huse hap hmi hK hF
        generalize a.eval = ρ at *
        go_simp
      · exact (if_pos rfl)
    · intro a W own hfor huse hap hmi hF K hK
      have e67 : a.eval (.tmp 67) = .slice E2 g.b.length m2 := huse 10 (by kernel_rfl)
      have efn : a.eval (.func 56) = .func (.func 56) #[] #[] := rfl
      refine op_call (f := 56) (args := #[.slice E2 g.b.length m2]) (fun v w1 => v = .bool tb ∧ Below W.heap.size W w1) rfl ?_ ?_ (fun v w1 h => ?_)
      · clear hfor huse hap hmi hK hF
        generalize a.eval = ρ at *
        go_simp
      · exact ((show Calls _ _ _ _ (fun e w1 => e = .returned (.bool tb) ∧ Below W.heap.size W w1) from by rw [← Tb.out]; exact TrmOk_i _ g.b ok W (foot_V hF (fun _ _ h => h) V2.out (by decide)))).mono (by rintro e w1 ⟨rfl, h2⟩; exact ⟨_, rfl, rfl, h2⟩)
      · obtain ⟨rfl, h2⟩ := h
        exact hK _ _ (post_new h2 (if_pos rfl))
    · intro a W own hfor huse hap hmi hF K hK
      have e68 : a.eval (.tmp 68) = .bool tb := huse 11 (by kernel_rfl)
      refine op_val (.bool tb) W rfl ?_ (hK _ _ (post_pure ?_))
      · clear hfor huse hap hmi hK hF
        generalize a.eval = ρ at *
        go_simp
      · exact (if_pos rfl)
    · intro a W own hfor huse hap hmi hF K hK
      have e1 : a.eval (.tmp 1) = .func (.func 204) #[] #[] := hfor 1 (by kernel_rfl)
      have e69 : a.eval (.tmp 69) = .bool tb := huse 12 (by kernel_rfl)
      refine gif_val tb (.func (.func 204) #[] #[]) rfl (yield_of (t := 69) rfl rfl e69) (fun ht => ?_) (fun u hu => hK _ _ (post_pure (by show (if _ then u else _) = _; rw [if_pos rfl]; exact hu)))
      try rw [ht, cond_true] at e1
      clear hfor huse hap hmi hK hF
      generalize a.eval = ρ at *
      go_simp
    · intro a W own hfor huse hap hmi hF K hK
      have e2 : a.eval (.tmp 2) = .pointer (some ⟨w.heap.size, 0, none⟩) := hfor 2 (by kernel_rfl)
      have e69 : a.eval (.tmp 69) = .bool tb := huse 12 (by kernel_rfl)
      refine gif_val tb (.pointer (some ⟨w.heap.size, 2, none⟩)) rfl (yield_of (t := 69) rfl rfl e69) (fun ht => ?_) (fun u hu => hK _ _ (post_pure (by show (if _ then u else _) = _; rw [if_pos rfl]; exact hu)))
      try rw [ht, cond_true] at e2
      clear hfor huse hap hmi hK hF
      generalize a.eval = ρ at *
      go_simp
    · intro a W own hfor huse hap hmi hF K hK
      have e71 : a.eval (.tmp 71) = bif tb then .pointer (some ⟨w.heap.size, 2, none⟩) else undef := huse 14 (by kernel_rfl)
      have e69 : a.eval (.tmp 69) = .bool tb := huse 12 (by kernel_rfl)
      have c2 := foot_cell hF (fun h => h) Y2.out
      refine gif_val tb (.slice E2 g.b.length m2) rfl (yield_of (t := 69) rfl rfl e69) (fun ht => ?_) (fun u hu => hK _ _ (post_pure (by show (if _ then u else _) = _; rw [if_pos rfl]; exact hu)))
      try rw [ht, cond_true] at e71
      clear hfor huse hap hmi hK hF
      generalize a.eval = ρ at *
      go_simp
    · intro a W own hfor huse hap hmi hF K hK
      have e69 : a.eval (.tmp 69) = .bool tb := huse 12 (by kernel_rfl)
      have e70 : a.eval (.tmp 70) = bif tb then .func (.func 204) #[] #[] else undef := huse 13 (by kernel_rfl)
      have e72 : a.eval (.tmp 72) = bif tb then .slice E2 g.b.length m2 else undef := huse 15 (by kernel_rfl)
      refine gif_call (f := 204) (args := #[.slice E2 g.b.length m2]) tb (.bool mb) rfl (yield_of (t := 69) rfl rfl e69) (fun ht => ?_) (fun ht => (show Calls _ _ _ _ (fun e w1 => e = .returned (.bool mb) ∧ Below W.heap.size W w1) from by rw [← Mb.out]; exact inClause_i _ g.b ok W (foot_V hF (fun _ _ h => h) V2.out (by decide)))) (fun u w1 hu h2 => hK _ _ (post_new h2 (by show (if _ then u else _) = _; rw [if_pos rfl]; exact hu)))
      rw [ht, cond_true] at e70 e72
      clear hfor huse hap hmi hK hF
      generalize a.eval = ρ at *
      go_simp
    · intro a W own hfor huse hap hmi hF K hK
      have e69 : a.eval (.tmp 69) = .bool tb := huse 12 (by kernel_rfl)
      have e73 : a.eval (.tmp 73) = bif tb then .bool mb else undef := huse 16 (by kernel_rfl)
      have ec : a.eval (.const (.bool false)) = .bool false := rfl
      refine op_val (.bool (tb && mb)) W rfl ?_ (hK _ _ (post_pure ?_))
      · clear hfor huse hap hmi hK hF
        generalize a.eval = ρ at *
        cases tb <;> simp only [cond_true, cond_false, Bool.true_and, Bool.false_and] at * <;> go_simp
      · exact (if_pos rfl)
    · intro a W own hfor huse hap hmi hF K hK
      have e2 : a.eval (.tmp 2) = .pointer (some ⟨w.heap.size, 0, none⟩) := hfor 2 (by kernel_rfl)
      refine op_val (.pointer (some ⟨w.heap.size, 3, none⟩)) W rfl ?_ (hK _ _ (post_pure ?_))
      · clear hfor huse hap hmi hK hF
        generalize a.eval = ρ at *
        go_simp
      · exact (if_pos rfl)
    · intro a W own hfor huse hap hmi hF K hK
      have e75 : a.eval (.tmp 75) = .pointer (some ⟨w.heap.size, 3, none⟩) := huse 18 (by kernel_rfl)
      have c3 := foot_cell hF (fun h => h) Y3.out
      refine op_val (.slice E3 g.c.length m3) W rfl ?_ (hK _ _ (post_pure ?_))
      · clear hfor huse hap hmi hK hF
        generalize a.eval = ρ at *
        go_simp
      · exact (if_pos rfl)
    · intro a W own hfor huse hap hmi hF K hK
      have e76 : a.eval (.tmp 76) = .slice E3 g.c.length m3 := huse 19 (by kernel_rfl)
      have efn : a.eval (.func 56) = .func (.func 56) #[] #[] := rfl
      refine op_call (f := 56) (args := #[.slice E3 g.c.length m3]) (fun v w1 => v = .bool tc ∧ Below W.heap.size W w1) rfl ?_ ?_ (fun v w1 h => ?_)
      · clear hfor huse hap hmi hK hF
        generalize a.eval = ρ at *
        go_simp
      · exact ((show Calls _ _ _ _ (fun e w1 => e = .returned (.bool tc) ∧ Below W.heap.size W w1) from by rw [← Tc.out]; exact TrmOk_i _ g.c ok W (foot_V hF (fun _ _ h => h) V3.out (by decide)))).mono (by rintro e w1 ⟨rfl, h2⟩; exact ⟨_, rfl, rfl, h2⟩)
      · obtain ⟨rfl, h2⟩ := h
        exact hK _ _ (post_new h2 (if_pos rfl))
    · intro a W own hfor huse hap hmi hF K hK
      have e77 : a.eval (.tmp 77) = .bool tc := huse 20 (by kernel_rfl)
      refine op_val (.bool tc) W rfl ?_ (hK _ _ (post_pure ?_))
      · clear hfor huse hap hmi hK hF
        generalize a.eval = ρ at *
        go_simp
      · exact (if_pos rfl)
    · intro a W own hfor huse hap hmi hF K hK
      have e1 : a.eval (.tmp 1) = .func (.func 204) #[] #[] := hfor 1 (by kernel_rfl)
      have e78 : a.eval (.tmp 78) = .bool tc := huse 21 (by kernel_rfl)
      refine gif_val tc (.func (.func 204) #[] #[]) rfl (yield_of (t := 78) rfl rfl e78) (fun ht => ?_) (fun u hu => hK _ _ (post_pure (by show (if _ then u else _) = _; rw [if_pos rfl]; exact hu)))
      try rw [ht, cond_true] at e1
      clear hfor huse hap hmi hK hF
      generalize a.eval = ρ at *
      go_simp
    · intro a W own hfor huse hap hmi hF K hK
      have e2 : a.eval (.tmp 2) = .pointer (some ⟨w.heap.size, 0, none⟩) := hfor 2 (by kernel_rfl)
      have e78 : a.eval (.tmp 78) = .bool tc := huse 21 (by kernel_rfl)
      refine gif_val tc (.pointer (some ⟨w.heap.size, 3, none⟩)) rfl (yield_of (t := 78) rfl rfl e78) (fun ht => ?_) (fun u hu => hK _ _ (post_pure (by show (if _ then u else _) = _; rw [if_pos rfl]; exact hu)))
      try rw [ht, cond_true] at e2
      clear hfor huse hap hmi hK hF
      generalize a.eval = ρ at *
      go_simp
    · intro a W own hfor huse hap hmi hF K hK
      have e80 : a.eval (.tmp 80) = bif tc then .pointer (some ⟨w.heap.size, 3, none⟩) else undef := huse 23 (by kernel_rfl)
      have e78 : a.eval (.tmp 78) = .bool tc := huse 21 (by kernel_rfl)
      have c3 := foot_cell hF (fun h => h) Y3.out
      refine gif_val tc (.slice E3 g.c.length m3) rfl (yield_of (t := 78) rfl rfl e78) (fun ht => ?_) (fun u hu => hK _ _ (post_pure (by show (if _ then u else _) = _; rw [if_pos rfl]; exact hu)))
      try rw [ht, cond_true] at e80
      clear hfor huse hap hmi hK hF
      generalize a.eval = ρ at *
      go_simp
    · intro a W own hfor huse hap hmi hF K hK
      have e78 : a.eval (.tmp 78) = .bool tc := huse 21 (by kernel_rfl)
      have e79 : a.eval (.tmp 79) = bif tc then .func (.func 204) #[] #[] else undef := huse 22 (by kernel_rfl)
      have e81 : a.eval (.tmp 81) = bif tc then .slice E3 g.c.length m3 else undef := huse 24 (by kernel_rfl)
      refine gif_call (f := 204) (args := #[.slice E3 g.c.length m3]) tc (.bool mc) rfl (yield_of (t := 78) rfl rfl e78) (fun ht => ?_) (fun ht => (show Calls _ _ _ _ (fun e w1 => e = .returned (.bool mc) ∧ Below W.heap.size W w1) from by rw [← Mc.out]; exact inClause_i _ g.c ok W (foot_V hF (fun _ _ h => h) V3.out (by decide)))) (fun u w1 hu h2 => hK _ _ (post_new h2 (by show (if _ then u else _) = _; rw [if_pos rfl]; exact hu)))
      rw [ht, cond_true] at e79 e81
      clear hfor huse hap hmi hK hF
      generalize a.eval = ρ at *
      go_simp
    · intro a W own hfor huse hap hmi hF K hK
      have e78 : a.eval (.tmp 78) = .bool tc := huse 21 (by kernel_rfl)
      have e82 : a.eval (.tmp 82) = bif tc then .bool mc else undef := huse 25 (by kernel_rfl)
      have ec : a.eval (.const (.bool false)) = .bool false := rfl
      refine op_val (.bool (tc && mc)) W rfl ?_ (hK _ _ (post_pure ?_))
      · clear hfor huse hap hmi hK hF
        generalize a.eval = ρ at *
        cases tc <;> simp only [cond_true, cond_false, Bool.true_and, Bool.false_and] at * <;> go_simp
      · exact (if_pos rfl)
    · intro a W own hfor huse hap hmi hF K hK
      have e65 : a.eval (.tmp 65) = .bool (ta && ma) := huse 8 (by kernel_rfl)
      refine op_val (.bool (ta && ma)) W rfl ?_ (hK _ _ (post_pure ?_))
      · clear hfor huse hap hmi hK hF
        generalize a.eval = ρ at *
        go_simp
      · exact (if_pos rfl)
    · intro a W own hfor huse hap hmi hF K hK
      have e74 : a.eval (.tmp 74) = .bool (tb && mb) := huse 17 (by kernel_rfl)
      refine op_val (.bool (tb && mb)) W rfl ?_ (hK _ _ (post_pure ?_))
      · clear hfor huse hap hmi hK hF
        generalize a.eval = ρ at *
        go_simp
      · exact (if_pos rfl)
    · intro a W own hfor huse hap hmi hF K hK
      have e83 : a.eval (.tmp 83) = .bool (tc && mc) := huse 26 (by kernel_rfl)
      refine op_val (.bool (tc && mc)) W rfl ?_ (hK _ _ (post_pure ?_))
      · clear hfor huse hap hmi hK hF
        generalize a.eval = ρ at *
        go_simp
      · exact (if_pos rfl)
    intro a9 W9 own9 hf9
    have hsz := hf9.st.size
    have hdf := hf9.st.rest
    obtain ⟨⟨l⟩, df⟩ := a9
    have hl0 : l.length = 93 := hsz
    clear hsz
    obtain rfl : df = [] := hdf
    obtain ⟨x0, l0, rfl, hl1⟩ := lst_cons hl0
    clear hl0
    obtain ⟨x1, l1, rfl, hl2⟩ := lst_cons hl1
    clear hl1
    obtain ⟨x2, l2, rfl, hl3⟩ := lst_cons hl2
    clear hl2
    obtain ⟨x3, l3, rfl, hl4⟩ := lst_cons hl3
    clear hl3
    obtain ⟨x4, l4, rfl, hl5⟩ := lst_cons hl4
    clear hl4
    obtain ⟨x5, l5, rfl, hl6⟩ := lst_cons hl5
    clear hl5
    obtain ⟨x6, l6, rfl, hl7⟩ := lst_cons hl6
    clear hl6
    obtain ⟨x7, l7, rfl, hl8⟩ := lst_cons hl7
    clear hl7
    obtain ⟨x8, l8, rfl, hl9⟩ := lst_cons hl8
    clear hl8
    obtain ⟨x9, l9, rfl, hl10⟩ := lst_cons hl9
    clear hl9
    obtain ⟨x10, l10, rfl, hl11⟩ := lst_cons hl10
    clear hl10
    obtain ⟨x11, l11, rfl, hl12⟩ := lst_cons hl11
    clear hl11
    obtain ⟨x12, l12, rfl, hl13⟩ := lst_cons hl12
    clear hl12
    obtain ⟨x13, l13, rfl, hl14⟩ := lst_cons hl13
    clear hl13
    obtain ⟨x14, l14, rfl, hl15⟩ := lst_cons hl14
    clear hl14
    obtain ⟨x15, l15, rfl, hl16⟩ := lst_cons hl15
    clear hl15
    obtain ⟨x16, l16, rfl, hl17⟩ := lst_cons hl16
    clear hl16
    obtain ⟨x17, l17, rfl, hl18⟩ := lst_cons hl17
    clear hl17
    obtain ⟨x18, l18, rfl, hl19⟩ := lst_cons hl18
    clear hl18
    obtain ⟨x19, l19, rfl, hl20⟩ := lst_cons hl19
    clear hl19
    obtain ⟨x20, l20, rfl, hl21⟩ := lst_cons hl20
    clear hl20
    obtain ⟨x21, l21, rfl, hl22⟩ := lst_cons hl21
    clear hl21
    obtain ⟨x22, l22, rfl, hl23⟩ := lst_cons hl22
    clear hl22
    obtain ⟨x23, l23, rfl, hl24⟩ := lst_cons hl23
    clear hl23
    obtain ⟨x24, l24, rfl, hl25⟩ := lst_cons hl24
    clear hl24
    obtain ⟨x25, l25, rfl, hl26⟩ := lst_cons hl25
    clear hl25
    obtain ⟨x26, l26, rfl, hl27⟩ := lst_cons hl26
    clear hl26
    obtain ⟨x27, l27, rfl, hl28⟩ := lst_cons hl27
    clear hl27
    obtain ⟨x28, l28, rfl, hl29⟩ := lst_cons hl28
    clear hl28
    obtain ⟨x29, l29, rfl, hl30⟩ := lst_cons hl29
    clear hl29
    obtain ⟨x30, l30, rfl, hl31⟩ := lst_cons hl30
    clear hl30
    obtain ⟨x31, l31, rfl, hl32⟩ := lst_cons hl31
    clear hl31
    obtain ⟨x32, l32, rfl, hl33⟩ := lst_cons hl32
    clear hl32
    obtain ⟨x33, l33, rfl, hl34⟩ := lst_cons hl33
    clear hl33
    obtain ⟨x34, l34, rfl, hl35⟩ := lst_cons hl34
    clear hl34
    obtain ⟨x35, l35, rfl, hl36⟩ := lst_cons hl35
    clear hl35
    obtain ⟨x36, l36, rfl, hl37⟩ := lst_cons hl36
    clear hl36
    obtain ⟨x37, l37, rfl, hl38⟩ := lst_cons hl37
    clear hl37
    obtain ⟨x38, l38, rfl, hl39⟩ := lst_cons hl38
    clear hl38
    obtain ⟨x39, l39, rfl, hl40⟩ := lst_cons hl39
    clear hl39
    obtain ⟨x40, l40, rfl, hl41⟩ := lst_cons hl40
    clear hl40
    obtain ⟨x41, l41, rfl, hl42⟩ := lst_cons hl41
    clear hl41
    obtain ⟨x42, l42, rfl, hl43⟩ := lst_cons hl42
    clear hl42
    obtain ⟨x43, l43, rfl, hl44⟩ := lst_cons hl43
    clear hl43
    obtain ⟨x44, l44, rfl, hl45⟩ := lst_cons hl44
    clear hl44
    obtain ⟨x45, l45, rfl, hl46⟩ := lst_cons hl45
    clear hl45
    obtain ⟨x46, l46, rfl, hl47⟩ := lst_cons hl46
    clear hl46
    obtain ⟨x47, l47, rfl, hl48⟩ := lst_cons hl47
    clear hl47
    obtain ⟨x48, l48, rfl, hl49⟩ := lst_cons hl48
    clear hl48
    obtain ⟨x49, l49, rfl, hl50⟩ := lst_cons hl49
    clear hl49
    obtain ⟨x50, l50, rfl, hl51⟩ := lst_cons hl50
    clear hl50
    obtain ⟨x51, l51, rfl, hl52⟩ := lst_cons hl51
    clear hl51
    obtain ⟨x52, l52, rfl, hl53⟩ := lst_cons hl52
    clear hl52
    obtain ⟨x53, l53, rfl, hl54⟩ := lst_cons hl53
    clear hl53
    obtain ⟨x54, l54, rfl, hl55⟩ := lst_cons hl54
    clear hl54
    obtain ⟨x55, l55, rfl, hl56⟩ := lst_cons hl55
    clear hl55
    obtain ⟨x56, l56, rfl, hl57⟩ := lst_cons hl56
    clear hl56
    obtain ⟨x57, l57, rfl, hl58⟩ := lst_cons hl57
    clear hl57
    obtain ⟨x58, l58, rfl, hl59⟩ := lst_cons hl58
    clear hl58
    obtain ⟨x59, l59, rfl, hl60⟩ := lst_cons hl59
    clear hl59
    obtain ⟨x60, l60, rfl, hl61⟩ := lst_cons hl60
    clear hl60
    obtain ⟨x61, l61, rfl, hl62⟩ := lst_cons hl61
    clear hl61
    obtain ⟨x62, l62, rfl, hl63⟩ := lst_cons hl62
    clear hl62
    obtain ⟨x63, l63, rfl, hl64⟩ := lst_cons hl63
    clear hl63
    obtain ⟨x64, l64, rfl, hl65⟩ := lst_cons hl64
    clear hl64
    obtain ⟨x65, l65, rfl, hl66⟩ := lst_cons hl65
    clear hl65
    obtain ⟨x66, l66, rfl, hl67⟩ := lst_cons hl66
    clear hl66
    obtain ⟨x67, l67, rfl, hl68⟩ := lst_cons hl67
    clear hl67
    obtain ⟨x68, l68, rfl, hl69⟩ := lst_cons hl68
    clear hl68
    obtain ⟨x69, l69, rfl, hl70⟩ := lst_cons hl69
    clear hl69
    obtain ⟨x70, l70, rfl, hl71⟩ := lst_cons hl70
    clear hl70
    obtain ⟨x71, l71, rfl, hl72⟩ := lst_cons hl71
    clear hl71
    obtain ⟨x72, l72, rfl, hl73⟩ := lst_cons hl72
    clear hl72
    obtain ⟨x73, l73, rfl, hl74⟩ := lst_cons hl73
    clear hl73
    obtain ⟨x74, l74, rfl, hl75⟩ := lst_cons hl74
    clear hl74
    obtain ⟨x75, l75, rfl, hl76⟩ := lst_cons hl75
    clear hl75
    obtain ⟨x76, l76, rfl, hl77⟩ := lst_cons hl76
    clear hl76
    obtain ⟨x77, l77, rfl, hl78⟩ := lst_cons hl77
    clear hl77
    obtain ⟨x78, l78, rfl, hl79⟩ := lst_cons hl78
    clear hl78
    obtain ⟨x79, l79, rfl, hl80⟩ := lst_cons hl79
    clear hl79
    obtain ⟨x80, l80, rfl, hl81⟩ := lst_cons hl80
    clear hl80
    obtain ⟨x81, l81, rfl, hl82⟩ := lst_cons hl81
    clear hl81
    obtain ⟨x82, l82, rfl, hl83⟩ := lst_cons hl82
    clear hl82
    obtain ⟨x83, l83, rfl, hl84⟩ := lst_cons hl83
    clear hl83
    obtain ⟨x84, l84, rfl, hl85⟩ := lst_cons hl84
    clear hl84
    obtain ⟨x85, l85, rfl, hl86⟩ := lst_cons hl85
    clear hl85
    obtain ⟨x86, l86, rfl, hl87⟩ := lst_cons hl86
    clear hl86
    obtain ⟨x87, l87, rfl, hl88⟩ := lst_cons hl87
    clear hl87
    obtain ⟨x88, l88, rfl, hl89⟩ := lst_cons hl88
    clear hl88
    obtain ⟨x89, l89, rfl, hl90⟩ := lst_cons hl89
    clear hl89
    obtain ⟨x90, l90, rfl, hl91⟩ := lst_cons hl90
    clear hl90
    obtain ⟨x91, l91, rfl, hl92⟩ := lst_cons hl91
    clear hl91
    obtain ⟨x92, l92, rfl, hl93⟩ := lst_cons hl92
    clear hl92
    obtain rfl := List.eq_nil_of_length_eq_zero hl93
    have e0 := hf9.st.kept 0 (by kernel_rfl)
    simp only [slotsOf, Act.eval, Array.getD_eq_getD_getElem?, List.getElem?_toArray, List.getElem?_cons_zero, Option.getD_some] at e0
    subst e0
    have e1 := hf9.st.kept 1 (by kernel_rfl)
    simp only [slotsOf, Act.eval, Array.getD_eq_getD_getElem?, List.getElem?_toArray, List.getElem?_cons_succ, List.getElem?_cons_zero, Option.getD_some] at e1
    subst e1
    have e2 := hf9.st.kept 2 (by kernel_rfl)
    simp only [slotsOf, Act.eval, Array.getD_eq_getD_getElem?, List.getElem?_toArray, List.getElem?_cons_succ, List.getElem?_cons_zero, Option.getD_some] at e2
    subst e2
    have e4 := hf9.st.kept 4 (by kernel_rfl)
    simp only [slotsOf, Act.eval, Array.getD_eq_getD_getElem?, List.getElem?_toArray, List.getElem?_cons_succ, List.getElem?_cons_zero, Option.getD_some] at e4
    subst e4
    have e5 : x5 = .bool (ta && ma) := hf9.at 27 (fun val _ _ => val 5 = .bool (ta && ma)) rfl (by kernel_rfl)
    subst e5
    have e6 : x6 = .bool (tb && mb) := hf9.at 28 (fun val _ _ => val 6 = .bool (tb && mb)) rfl (by kernel_rfl)
    subst e6
    have e7 : x7 = .bool (tc && mc) := hf9.at 29 (fun val _ _ => val 7 = .bool (tc && mc)) rfl (by kernel_rfl)
    subst e7
    have B9 := Sec.mk (hf9.st.foot.below (belD B1.out) (fun k h => h.elim))
    clear hf9
    generalize (ta && ma) = pa at *
    generalize (tb && mb) = pb at *
    generalize (tc && mc) = pc at *
    cases pa <;> cases pb <;> cases pc <;> go_wp2 <;> (go_ret; exact ⟨rb HE.out.symm, B9.out⟩)
  rcases Decidable.em (g.kind = 3) with hk | hk
  · have HE := Sec.mk (HE.out.trans (by rw [hk]; rfl : _ = (qa && qb && qc)))
    have k1 : (g.kind == 1) = false := by rw [hk]; rfl
    have k6 : (g.kind == 6) = false := by rw [hk]; rfl
    have k2 : (g.kind == 2) = false := by rw [hk]; rfl
    have k4 : (g.kind == 4) = false := by rw [hk]; rfl
    have k5 : (g.kind == 5) = false := by rw [hk]; rfl
    have k3 : (g.kind == 3) = true := by rw [hk]; rfl
    clear hk
    cases qa <;> cases qb <;> go_wp2 <;> (go_ret; exact ⟨rb HE.out.symm, B1.out⟩)
  have HE : Sec (res = false) := ⟨HE.out.trans (shapeI_0 (by assumption) (by assumption) (by assumption) (by assumption) (by assumption) (by assumption))⟩
  have k1 : (g.kind == 1) = false := beq_eq_false_iff_ne.2 (by assumption)
  have k6 : (g.kind == 6) = false := beq_eq_false_iff_ne.2 (by assumption)
  have k2 : (g.kind == 2) = false := beq_eq_false_iff_ne.2 (by assumption)
  have k4 : (g.kind == 4) = false := beq_eq_false_iff_ne.2 (by assumption)
  have k5 : (g.kind == 5) = false := beq_eq_false_iff_ne.2 (by assumption)
  have k3 : (g.kind == 3) = false := beq_eq_false_iff_ne.2 (by assumption)
  go_wp2
  go_ret
  exact ⟨rb HE.out.symm, B1.out⟩
end
end Go.Proofs.YtgiobpggonceeaaGreatDoor
