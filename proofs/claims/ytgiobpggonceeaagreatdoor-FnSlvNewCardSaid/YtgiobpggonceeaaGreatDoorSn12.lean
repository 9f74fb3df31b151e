/- Draws of programs: a text read as a place. Condition: the text is not great; and what goes with it. -/
import Derived.Test.YtgiobpggonceeaaGreatDoorSn3
import Derived.Test.YtgiobpggonceeaaGreatDoorSn5
import Derived.Test.YtgiobpggonceeaaGreatDoorSn11
namespace Go.Proofs.YtgiobpggonceeaaGreatDoor
section
open Go.RowKit
set_option linter.unusedVariables false
set_option maxRecDepth 100000
theorem results_cell2 {P : Program} {fn : Func} {t r : Tmp} {ty e : TypeId} {tmps : Array Value} {b : Nat} {cs : List Value} {d : TypeDesc} {v : Value} {w : World} (h : fn.results = #[.cell t ty, .tmp r]) (ht : tmps.getD t undef = .pointer (some ⟨b, 0, none⟩)) (hv : tmps.getD r undef = v) (hb : w.heap[b]? = some (.cells cs.toArray e (0, 0)))
    (hu : P.underlying ty = some d) (hd : d.isRow = true) (hi : (P.info? ty).map (·.size) = some cs.length) : (results fn tmps).run P w = .ok (.tuple #[.agg cs.toArray, v]) w := by
  have hl := run_loadVar_mid w b 0 ty cs d (fun j v hv => by rw [Nat.zero_add]; rw [cell_of_row w b _ cs.toArray e (0, 0) hb]; simpa using hv) hu hd hi
  have ht' : tmps[t]?.getD undef = .pointer (some ⟨b, 0, none⟩) := by simpa using ht
  have hv' : tmps[r]?.getD undef = v := by simpa using hv
  simp [results, h, ht', hv', asAddr, hl]
theorem size_one {x : ByteArray} (h : x.size = 1) : ∃ d : UInt8, x = ⟨#[d]⟩ := by
  obtain ⟨⟨l⟩⟩ := x
  have h : l.length = 1 := h
  obtain ⟨d, l', rfl, h'⟩ := lst_cons h
  obtain rfl := List.eq_nil_of_length_eq_zero h'
  exact ⟨d, rfl⟩
theorem strs_at {w : World} {ok : Nat → Prop} {A : Option Addr} {xs : List ByteArray} (h : kStr.C w ok A xs) (h0 : 0 < xs.length) : ∃ b off, A = some ⟨b, off, none⟩ ∧ ok b ∧ ∀ i (hi : i < xs.length), w.cell? ⟨b, off + i, none⟩ = some (.string xs[i]) ∧ xs[i].size ≤ 1073741824 := by
  obtain ⟨b, off, hA, hb, -⟩ := str_at h 0 h0
  refine ⟨b, off, hA, hb, fun i hi => ?_⟩
  obtain ⟨b', off', hA', -, hc, hs⟩ := str_at h i hi
  rw [hA] at hA'
  obtain ⟨rfl, rfl⟩ : b = b' ∧ off = off' := by simpa using hA'
  exact ⟨hc, hs⟩
set_option maxHeartbeats 4000000 in
theorem l3ReadPlace_c (s : ByteArray) (hs : s.size ≤ 100000000) (w : World) :
    Calls Tryz.prog 223 #[.string s] w fun e w' => ∃ (p : Place) (q : Bool), e = .returned (.tuple #[.agg #[.string p.name, .int .i64 p.n, .int .i64 p.node], .bool q]) ∧ p.name.size ≤ 100000000 ∧ Below w.heap.size w w' := by
  have hus := Tryz.underlying9
  have hu2 := Tryz.underlying116
  have B0 := Sec.mk (belA (Below.refl w.heap.size w) (.cells #[.string ⟨#[]⟩, .int .i64 0, .int .i64 0] 116))
  have P0 := Sec.mk (heap_alloc_new w (.cells #[.string ⟨#[]⟩, .int .i64 0, .int .i64 0] 116))
  go_enter Tryz.func223, Tryz.ntmps223
  go_wp2_with fail
  refine (l3Words_c s hs _).mono ?_
  rintro e w1 ⟨u, ws, rfl, hR, hl1, hl2, hS, hb⟩
  obtain ⟨A, c, rfl, -, -⟩ := Kd.R_form hR
  have hV := Kd.R_V hR
  have S1 := Sec.mk hS
  have B1 := Sec.mk (bel B0.out hb)
  have P1 := Sec.mk ((hb.block _ (Array.getElem?_eq_some_iff.1 P0.out).1).trans P0.out)
  obtain ⟨A', c', hh, -, -, -, hC, -⟩ := hV
  obtain ⟨rfl, -, rfl⟩ : A = A' ∧ (ws.length : Int) = ws.length ∧ c = c' := by simpa using hh
  clear hb hR hh
  by_cases h4 : ws.length = 4
  · have t0 : ((4 : Int) != 4) = false := rfl
    obtain ⟨x0, x1, x2, x3, rfl⟩ : ∃ x0 x1 x2 x3, ws = [x0, x1, x2, x3] := by
      match ws, h4 with
      | [a, b, c, d], _ => exact ⟨a, b, c, d, rfl⟩
    obtain ⟨b, off, rfl, hok, hcs⟩ := strs_at hC (by show 0 < 4; omega)
    have c0 := (hcs 0 (by simp)).1
    have c1 := (hcs 1 (by simp)).1
    have c2 := (hcs 2 (by simp)).1
    have c3 := (hcs 3 (by simp)).1
    clear hcs hC h4 hl1 hl2
    simp only [List.getElem_cons_zero, List.getElem_cons_succ, Nat.add_zero] at c0 c1 c2 c3
    have hs2 : x2.size ≤ 100000000 := Nat.le_trans (hS x2 (by simp)) hs
    clear hS
    by_cases e0 : x0.toList = [97, 116]
    · by_cases e1 : x1.size = 1
      · by_cases e3 : x3.size = 1
        · have q1 : ((x1.size : Int) != 1) = false := by rw [e1]; rfl
          have q3 : ((x3.size : Int) != 1) = false := by rw [e3]; rfl
          obtain ⟨d1, rfl⟩ := size_one e1
          obtain ⟨d3, rfl⟩ := size_one e3
          have N1 : Sec (IntKind.i64.wrap (d1.toNat : Int) = d1.toNat) := ⟨IntWalk.i64_in _ (by have := d1.toNat_lt; omega)⟩
          have N3 : Sec (IntKind.i64.wrap (d3.toNat : Int) = d3.toNat) := ⟨IntWalk.i64_in _ (by have := d3.toNat_lt; omega)⟩
          have M1 : Sec (IntKind.i64.wrap ((d1.toNat : Int) - 48) = (d1.toNat : Int) - 48) := ⟨IntWalk.i64_in _ (by have := d1.toNat_lt; omega)⟩
          have M3 : Sec (IntKind.i64.wrap ((d3.toNat : Int) - 48) = (d3.toNat : Int) - 48) := ⟨IntWalk.i64_in _ (by have := d3.toNat_lt; omega)⟩
          have C1 := Sec.mk c1
          have C2 := Sec.mk c2
          have C3 := Sec.mk c3
          have hsz2 := Sec.mk hs2
          go_wp2_with fail
          refine wp_region_lists [[32], [33], [34], [35], [36], [37], [38], [39], [40], [41], [42], [43], [44], [45], [46], [47], [5], [5]]
            [fun val _ _ => val 32 = .slice (some ⟨b, off, none⟩) 4 c,
              fun val _ _ => val 33 = .pointer (some ⟨b, off + 2, none⟩),
              fun val _ _ => val 34 = .string x2,
              fun val _ _ => val 35 = .slice (some ⟨b, off, none⟩) 4 c,
              fun val _ _ => val 36 = .pointer (some ⟨b, off + 3, none⟩),
              fun val _ _ => val 37 = .string ⟨#[d3]⟩,
              fun val _ _ => val 38 = .int .u8 (d3.toNat : Int),
              fun val _ _ => val 39 = .int .i64 (d3.toNat : Int),
              fun val _ _ => val 40 = .int .i64 ((d3.toNat : Int) - 48),
              fun val _ _ => val 41 = .slice (some ⟨b, off, none⟩) 4 c,
              fun val _ _ => val 42 = .pointer (some ⟨b, off + 1, none⟩),
              fun val _ _ => val 43 = .string ⟨#[d1]⟩,
              fun val _ _ => val 44 = .int .u8 (d1.toNat : Int),
              fun val _ _ => val 45 = .int .i64 (d1.toNat : Int),
              fun val _ _ => val 46 = .int .i64 ((d1.toNat : Int) - 48),
              onO kPlace 47 ⟨x2, (d3.toNat : Int) - 48, (d1.toNat : Int) - 48⟩,
              onBox 5 #[.string ⟨#[]⟩, .int .i64 0, .int .i64 0] 116,
              onPtr kPlace 5 116 ⟨x2, (d3.toNat : Int) - 48, (d1.toNat : Int) - 48⟩]
            [[], [], [], [], [], [], [], [], [], [], [], [], [], [], [], [], [], [16, 15]] 0 (fun _ => False) (fun _ _ => False) (by kernel_rfl) ⟨by kernel_rfl, by kernel_rfl, by kernel_rfl, by kernel_rfl, by kernel_rfl⟩
            (.cons (stab_val 32 (fun v => v = .slice (some ⟨b, off, none⟩) 4 c)) (.cons (stab_val 33 (fun v => v = .pointer (some ⟨b, off + 2, none⟩))) (.cons (stab_val 34 (fun v => v = .string x2)) (.cons (stab_val 35 (fun v => v = .slice (some ⟨b, off, none⟩) 4 c)) (.cons (stab_val 36 (fun v => v = .pointer (some ⟨b, off + 3, none⟩))) (.cons (stab_val 37 (fun v => v = .string ⟨#[d3]⟩)) (.cons (stab_val 38 (fun v => v = .int .u8 (d3.toNat : Int))) (.cons (stab_val 39 (fun v => v = .int .i64 (d3.toNat : Int))) (.cons (stab_val 40 (fun v => v = .int .i64 ((d3.toNat : Int) - 48))) (.cons (stab_val 41 (fun v => v = .slice (some ⟨b, off, none⟩) 4 c)) (.cons (stab_val 42 (fun v => v = .pointer (some ⟨b, off + 1, none⟩))) (.cons (stab_val 43 (fun v => v = .string ⟨#[d1]⟩)) (.cons (stab_val 44 (fun v => v = .int .u8 (d1.toNat : Int))) (.cons (stab_val 45 (fun v => v = .int .i64 (d1.toNat : Int))) (.cons (stab_val 46 (fun v => v = .int .i64 ((d1.toNat : Int) - 48))) (.cons (stab_O kPlace 47 ⟨x2, (d3.toNat : Int) - 48, (d1.toNat : Int) - 48⟩) (.cons (stab_box 5 #[.string ⟨#[]⟩, .int .i64 0, .int .i64 0] 116) (.cons (stab_ptr kPlace 5 116 ⟨x2, (d3.toNat : Int) - 48, (d1.toNat : Int) - 48⟩) .nil))))))))))))))))))
            (fun i j k h1 h2 => h1.elim) (fun i k h => h.elim) (fun i h1 h2 => by simp at h1 h2; omega) (.cons ?_ (.cons ?_ (.cons ?_ (.cons ?_ (.cons ?_ (.cons ?_ (.cons ?_ (.cons ?_ (.cons ?_ (.cons ?_ (.cons ?_ (.cons ?_ (.cons ?_ (.cons ?_ (.cons ?_ (.cons ?_ (.cons ?_ (.cons ?_ .nil)))))))))))))))))) ?_
          · intro a W own hfor huse hap hmi hF K hK
            have e4 : a.eval (.tmp 4) = .slice (some ⟨b, off, none⟩) 4 c := hfor 4 (by kernel_rfl)
            refine op_val (.slice (some ⟨b, off, none⟩) 4 c) W rfl ?_ (hK _ _ (post_pure ?_))
            · clear hfor huse hap hmi hK hF
              generalize a.eval = ρ at *
              go_simp
            · exact (if_pos rfl)
          · intro a W own hfor huse hap hmi hF K hK
            have e32 : a.eval (.tmp 32) = .slice (some ⟨b, off, none⟩) 4 c := huse 0 (by kernel_rfl)
            have ec0 : a.eval (.const (.int .i64 2)) = .int .i64 2 := rfl
            refine op_val (.pointer (some ⟨b, off + 2, none⟩)) W rfl ?_ (hK _ _ (post_pure ?_))
            · clear hfor huse hap hmi hK hF
              generalize a.eval = ρ at *
              go_simp
            · exact (if_pos rfl)
          · intro a W own hfor huse hap hmi hF K hK
            have e33 : a.eval (.tmp 33) = .pointer (some ⟨b, off + 2, none⟩) := huse 1 (by kernel_rfl)
            have c2 := foot_cell hF (fun h => h) C2.out
            refine op_val (.string x2) W rfl ?_ (hK _ _ (post_pure ?_))
            · clear hfor huse hap hmi hK hF
              generalize a.eval = ρ at *
              go_simp
            · exact (if_pos rfl)
          · intro a W own hfor huse hap hmi hF K hK
            have e4 : a.eval (.tmp 4) = .slice (some ⟨b, off, none⟩) 4 c := hfor 4 (by kernel_rfl)
            refine op_val (.slice (some ⟨b, off, none⟩) 4 c) W rfl ?_ (hK _ _ (post_pure ?_))
            · clear hfor huse hap hmi hK hF
              generalize a.eval = ρ at *
              go_simp
            · exact (if_pos rfl)
          · intro a W own hfor huse hap hmi hF K hK
            have e35 : a.eval (.tmp 35) = .slice (some ⟨b, off, none⟩) 4 c := huse 3 (by kernel_rfl)
            have ec0 : a.eval (.const (.int .i64 3)) = .int .i64 3 := rfl
            refine op_val (.pointer (some ⟨b, off + 3, none⟩)) W rfl ?_ (hK _ _ (post_pure ?_))
            · clear hfor huse hap hmi hK hF
              generalize a.eval = ρ at *
              go_simp
            · exact (if_pos rfl)
          · intro a W own hfor huse hap hmi hF K hK
            have e36 : a.eval (.tmp 36) = .pointer (some ⟨b, off + 3, none⟩) := huse 4 (by kernel_rfl)
            have c3 := foot_cell hF (fun h => h) C3.out
            refine op_val (.string ⟨#[d3]⟩) W rfl ?_ (hK _ _ (post_pure ?_))
            · clear hfor huse hap hmi hK hF
              generalize a.eval = ρ at *
              go_simp
            · exact (if_pos rfl)
          · intro a W own hfor huse hap hmi hF K hK
            have e37 : a.eval (.tmp 37) = .string ⟨#[d3]⟩ := huse 5 (by kernel_rfl)
            have ec0 : a.eval (.const (.int .i64 0)) = .int .i64 0 := rfl
            refine op_val (.int .u8 (d3.toNat : Int)) W rfl ?_ (hK _ _ (post_pure ?_))
            · clear hfor huse hap hmi hK hF
              generalize a.eval = ρ at *
              go_simp
              rfl
            · exact (if_pos rfl)
          · intro a W own hfor huse hap hmi hF K hK
            have e38 : a.eval (.tmp 38) = .int .u8 (d3.toNat : Int) := huse 6 (by kernel_rfl)
            have h3 := N3.out
            refine op_val (.int .i64 (d3.toNat : Int)) W rfl ?_ (hK _ _ (post_pure ?_))
            · clear hfor huse hap hmi hK hF
              generalize a.eval = ρ at *
              go_simp
            · exact (if_pos rfl)
          · intro a W own hfor huse hap hmi hF K hK
            have e39 : a.eval (.tmp 39) = .int .i64 (d3.toNat : Int) := huse 7 (by kernel_rfl)
            have h3 := M3.out
            have ec0 : a.eval (.const (.int .i64 48)) = .int .i64 48 := rfl
            refine op_val (.int .i64 ((d3.toNat : Int) - 48)) W rfl ?_ (hK _ _ (post_pure ?_))
            · clear hfor huse hap hmi hK hF
              generalize a.eval = ρ at *
              go_simp
            · exact (if_pos rfl)
          · intro a W own hfor huse hap hmi hF K hK
            have e4 : a.eval (.tmp 4) = .slice (some ⟨b, off, none⟩) 4 c := hfor 4 (by kernel_rfl)
            refine op_val (.slice (some ⟨b, off, none⟩) 4 c) W rfl ?_ (hK _ _ (post_pure ?_))
            · clear hfor huse hap hmi hK hF
              generalize a.eval = ρ at *
              go_simp
            · exact (if_pos rfl)
          · intro a W own hfor huse hap hmi hF K hK
            have e41 : a.eval (.tmp 41) = .slice (some ⟨b, off, none⟩) 4 c := huse 9 (by kernel_rfl)
            have ec0 : a.eval (.const (.int .i64 1)) = .int .i64 1 := rfl
            refine op_val (.pointer (some ⟨b, off + 1, none⟩)) W rfl ?_ (hK _ _ (post_pure ?_))
            · clear hfor huse hap hmi hK hF
              generalize a.eval = ρ at *
              go_simp
            · exact (if_pos rfl)
          · intro a W own hfor huse hap hmi hF K hK
            have e42 : a.eval (.tmp 42) = .pointer (some ⟨b, off + 1, none⟩) := huse 10 (by kernel_rfl)
            have c1 := foot_cell hF (fun h => h) C1.out
            refine op_val (.string ⟨#[d1]⟩) W rfl ?_ (hK _ _ (post_pure ?_))
            · clear hfor huse hap hmi hK hF
              generalize a.eval = ρ at *
              go_simp
            · exact (if_pos rfl)
          · intro a W own hfor huse hap hmi hF K hK
            have e43 : a.eval (.tmp 43) = .string ⟨#[d1]⟩ := huse 11 (by kernel_rfl)
            have ec0 : a.eval (.const (.int .i64 0)) = .int .i64 0 := rfl
            refine op_val (.int .u8 (d1.toNat : Int)) W rfl ?_ (hK _ _ (post_pure ?_))
            · clear hfor huse hap hmi hK hF
              generalize a.eval = ρ at *
              go_simp
              rfl
            · exact (if_pos rfl)
          · intro a W own hfor huse hap hmi hF K hK
            have e44 : a.eval (.tmp 44) = .int .u8 (d1.toNat : Int) := huse 12 (by kernel_rfl)
            have h1 := N1.out
            refine op_val (.int .i64 (d1.toNat : Int)) W rfl ?_ (hK _ _ (post_pure ?_))
            · clear hfor huse hap hmi hK hF
              generalize a.eval = ρ at *
              go_simp
            · exact (if_pos rfl)
          · intro a W own hfor huse hap hmi hF K hK
            have e45 : a.eval (.tmp 45) = .int .i64 (d1.toNat : Int) := huse 13 (by kernel_rfl)
            have h1 := M1.out
            have ec0 : a.eval (.const (.int .i64 48)) = .int .i64 48 := rfl
            refine op_val (.int .i64 ((d1.toNat : Int) - 48)) W rfl ?_ (hK _ _ (post_pure ?_))
            · clear hfor huse hap hmi hK hF
              generalize a.eval = ρ at *
              go_simp
            · exact (if_pos rfl)
          · intro a W own hfor huse hap hmi hF K hK
            have e34 : a.eval (.tmp 34) = .string x2 := huse 2 (by kernel_rfl)
            have e40 : a.eval (.tmp 40) = .int .i64 ((d3.toNat : Int) - 48) := huse 8 (by kernel_rfl)
            have e46 : a.eval (.tmp 46) = .int .i64 ((d1.toNat : Int) - 48) := huse 14 (by kernel_rfl)
            have hx2 : x2.size ≤ 1073741824 := by have := hsz2.out; omega
            refine op_val (.agg #[.string x2, .int .i64 ((d3.toNat : Int) - 48), .int .i64 ((d1.toNat : Int) - 48)]) W rfl ?_ (hK _ _ ⟨fun k => False, Foot.refl _ _, ⟨[.string x2, .int .i64 ((d3.toNat : Int) - 48), .int .i64 ((d1.toNat : Int) - 48)], if_pos rfl, kPlace_mk _ _ ⟨x2, (d3.toNat : Int) - 48, (d1.toNat : Int) - 48⟩ hx2⟩, ?_⟩)
            · clear hfor huse hap hmi hK hF
              generalize a.eval = ρ at *
              go_simp
            · exact fun k h => h.elim
          · intro a W own hfor huse hap hmi hF K hK
            refine op_val (.pointer (some ⟨W.heap.size, 0, none⟩)) (W.alloc (.cells #[.string ⟨#[]⟩, .int .i64 0, .int .i64 0] 116)) rfl ?_ (hK _ _ (post_new (belA (Below.refl _ _) _) ⟨W.heap.size, if_pos rfl, heap_alloc_new W _, Nat.le_refl _, by simp⟩))
            · clear hfor huse hap hmi hK hF
              generalize a.eval = ρ at *
              go_simp
          · intro a W own hfor huse hap hmi hF K hK
            obtain ⟨g, e5, hb, hSg⟩ := (huse 16 (by kernel_rfl) : onBox 5 #[.string ⟨#[]⟩, .int .i64 0, .int .i64 0] 116 (slotsOf a) (own 16) W)
            have e5 : a.eval (.tmp 5) = .pointer (some ⟨g, 0, none⟩) := e5
            obtain ⟨cs15, e47, r15⟩ := (huse 15 (by kernel_rfl) : onO kPlace 47 ⟨x2, (d3.toNat : Int) - 48, (d1.toNat : Int) - 48⟩ (slotsOf a) (own 15) W)
            have e47 : a.eval (.tmp 47) = .agg cs15.toArray := e47
            have hlen := kPlace.K_len (kPlace.O_K r15)
            refine step_store rfl 116 (.tmp 5) (.tmp 47) rfl e5 e47 hb (by rw [hlen]; kernel_rfl) (by rw [hlen]; rfl) (kPlace.K_one (kPlace.O_K r15)) (fun w1 hb1 hF1 => hK _ _ ⟨fun k => own 16 k ∨ own 15 k, Foot.mono hF1 (fun k e => ⟨16, by decide, e ▸ hSg⟩), ?_, ?_⟩)
            · exact ⟨g, cs15, e5, hb1, .inl hSg, Kd.O_mono (hF1.O r15 (fun k h1 h2 => by have := hap 16 15 g hSg (h2 ▸ h1); omega)) (fun k h _ => ⟨.inr h, fun e => by have := hap 16 15 g hSg (e ▸ h); omega⟩)⟩
            · intro k h
              left
              rcases h with h | h
              · exact ⟨16, by decide, h⟩
              · exact ⟨15, by decide, h⟩
          intro a' W own hf
          have hsz := hf.st.size
          have hdf := hf.st.rest
          obtain ⟨⟨l⟩, df⟩ := a'
          have hl0 : l.length = 51 := hsz
          clear hsz
          obtain rfl : df = [] := hdf
          obtain ⟨x0, l0, rfl, hl1⟩ := lst_cons hl0
          clear hl0
          obtain ⟨x1, l1, rfl, hl2⟩ := lst_cons hl1
          clear hl1
          obtain ⟨x2, l2, rfl, hl3⟩ := lst_cons hl2
          clear hl2
          obtain ⟨x3, l3, rfl, hl4⟩ := lst_cons hl3
          clear hl3
          obtain ⟨x4, l4, rfl, hl5⟩ := lst_cons hl4
          clear hl4
          obtain ⟨x5, l5, rfl, hl6⟩ := lst_cons hl5
          clear hl5
          obtain ⟨x6, l6, rfl, hl7⟩ := lst_cons hl6
          clear hl6
          obtain ⟨x7, l7, rfl, hl8⟩ := lst_cons hl7
          clear hl7
          obtain ⟨x8, l8, rfl, hl9⟩ := lst_cons hl8
          clear hl8
          obtain ⟨x9, l9, rfl, hl10⟩ := lst_cons hl9
          clear hl9
          obtain ⟨x10, l10, rfl, hl11⟩ := lst_cons hl10
          clear hl10
          obtain ⟨x11, l11, rfl, hl12⟩ := lst_cons hl11
          clear hl11
          obtain ⟨x12, l12, rfl, hl13⟩ := lst_cons hl12
          clear hl12
          obtain ⟨x13, l13, rfl, hl14⟩ := lst_cons hl13
          clear hl13
          obtain ⟨x14, l14, rfl, hl15⟩ := lst_cons hl14
          clear hl14
          obtain ⟨x15, l15, rfl, hl16⟩ := lst_cons hl15
          clear hl15
          obtain ⟨x16, l16, rfl, hl17⟩ := lst_cons hl16
          clear hl16
          obtain ⟨x17, l17, rfl, hl18⟩ := lst_cons hl17
          clear hl17
          obtain ⟨x18, l18, rfl, hl19⟩ := lst_cons hl18
          clear hl18
          obtain ⟨x19, l19, rfl, hl20⟩ := lst_cons hl19
          clear hl19
          obtain ⟨x20, l20, rfl, hl21⟩ := lst_cons hl20
          clear hl20
          obtain ⟨x21, l21, rfl, hl22⟩ := lst_cons hl21
          clear hl21
          obtain ⟨x22, l22, rfl, hl23⟩ := lst_cons hl22
          clear hl22
          obtain ⟨x23, l23, rfl, hl24⟩ := lst_cons hl23
          clear hl23
          obtain ⟨x24, l24, rfl, hl25⟩ := lst_cons hl24
          clear hl24
          obtain ⟨x25, l25, rfl, hl26⟩ := lst_cons hl25
          clear hl25
          obtain ⟨x26, l26, rfl, hl27⟩ := lst_cons hl26
          clear hl26
          obtain ⟨x27, l27, rfl, hl28⟩ := lst_cons hl27
          clear hl27
          obtain ⟨x28, l28, rfl, hl29⟩ := lst_cons hl28
          clear hl28
          obtain ⟨x29, l29, rfl, hl30⟩ := lst_cons hl29
          clear hl29
          obtain ⟨x30, l30, rfl, hl31⟩ := lst_cons hl30
          clear hl30
          obtain ⟨x31, l31, rfl, hl32⟩ := lst_cons hl31
          clear hl31
          obtain ⟨x32, l32, rfl, hl33⟩ := lst_cons hl32
          clear hl32
          obtain ⟨x33, l33, rfl, hl34⟩ := lst_cons hl33
          clear hl33
          obtain ⟨x34, l34, rfl, hl35⟩ := lst_cons hl34
          clear hl34
          obtain ⟨x35, l35, rfl, hl36⟩ := lst_cons hl35
          clear hl35
          obtain ⟨x36, l36, rfl, hl37⟩ := lst_cons hl36
          clear hl36
          obtain ⟨x37, l37, rfl, hl38⟩ := lst_cons hl37
          clear hl37
          obtain ⟨x38, l38, rfl, hl39⟩ := lst_cons hl38
          clear hl38
          obtain ⟨x39, l39, rfl, hl40⟩ := lst_cons hl39
          clear hl39
          obtain ⟨x40, l40, rfl, hl41⟩ := lst_cons hl40
          clear hl40
          obtain ⟨x41, l41, rfl, hl42⟩ := lst_cons hl41
          clear hl41
          obtain ⟨x42, l42, rfl, hl43⟩ := lst_cons hl42
          clear hl42
          obtain ⟨x43, l43, rfl, hl44⟩ := lst_cons hl43
          clear hl43
          obtain ⟨x44, l44, rfl, hl45⟩ := lst_cons hl44
          clear hl44
          obtain ⟨x45, l45, rfl, hl46⟩ := lst_cons hl45
          clear hl45
          obtain ⟨x46, l46, rfl, hl47⟩ := lst_cons hl46
          clear hl46
          obtain ⟨x47, l47, rfl, hl48⟩ := lst_cons hl47
          clear hl47
          obtain ⟨x48, l48, rfl, hl49⟩ := lst_cons hl48
          clear hl48
          obtain ⟨x49, l49, rfl, hl50⟩ := lst_cons hl49
          clear hl49
          obtain ⟨x50, l50, rfl, hl51⟩ := lst_cons hl50
          clear hl50
          obtain rfl := List.eq_nil_of_length_eq_zero hl51
          have e0 := hf.st.kept 0 (by kernel_rfl)
          simp only [slotsOf, Act.eval, Array.getD_eq_getD_getElem?, List.getElem?_toArray, List.getElem?_cons_zero, Option.getD_some] at e0
          subst e0
          have e1 := hf.st.kept 1 (by kernel_rfl)
          simp only [slotsOf, Act.eval, Array.getD_eq_getD_getElem?, List.getElem?_toArray, List.getElem?_cons_succ, List.getElem?_cons_zero, Option.getD_some] at e1
          subst e1
          have e2 := hf.st.kept 2 (by kernel_rfl)
          simp only [slotsOf, Act.eval, Array.getD_eq_getD_getElem?, List.getElem?_toArray, List.getElem?_cons_succ, List.getElem?_cons_zero, Option.getD_some] at e2
          subst e2
          have e3 := hf.st.kept 3 (by kernel_rfl)
          simp only [slotsOf, Act.eval, Array.getD_eq_getD_getElem?, List.getElem?_toArray, List.getElem?_cons_succ, List.getElem?_cons_zero, Option.getD_some] at e3
          subst e3
          have e4 := hf.st.kept 4 (by kernel_rfl)
          simp only [slotsOf, Act.eval, Array.getD_eq_getD_getElem?, List.getElem?_toArray, List.getElem?_cons_succ, List.getElem?_cons_zero, Option.getD_some] at e4
          subst e4
          obtain ⟨g, cs, e5, hbG, hSg, hO⟩ := hf.at 17 (onPtr kPlace 5 116 ⟨x2, (d3.toNat : Int) - 48, (d1.toNat : Int) - 48⟩) rfl (by kernel_rfl)
          have e5 : x5 = .pointer (some ⟨g, 0, none⟩) := e5
          subst e5
          obtain ⟨rfl, -⟩ := kPlace_K (kPlace.O_K hO)
          have GB := Sec.mk hbG
          have F4 := hf.st.foot
          have P4 := Sec.mk ((F4.block _ (Array.getElem?_eq_some_iff.1 P1.out).1 (fun h => h)).trans P1.out)
          have B4 := Sec.mk (F4.below (belD B1.out) (fun k h => h.elim))
          have hgm := hf.st.mine 17 g hSg
          have GNE : Sec (¬ g = w.heap.size) := ⟨fun e => by
            rcases hgm.1 with h | h
            · have := (Array.getElem?_eq_some_iff.1 P1.out).1
              simp at h
              omega
            · exact h⟩
          have GLT := Sec.mk (Array.getElem?_eq_some_iff.1 GB.out).1
          have XLT := Sec.mk (Array.getElem?_eq_some_iff.1 P4.out).1
          have hx2 : x2.size ≤ 1073741824 := by omega
          clear hf hbG hO F4 hgm hSg c0 c1 c2 c3 e1 e3 q1 q3 e0
          generalize W = wr at *
          go_wp2_with fail
          refine wp_region_lists [[48], [49], [50], [], [3], []]
            [fun val _ _ => val 48 = .agg ([.string x2, .int .i64 ((d3.toNat : Int) - 48), .int .i64 ((d1.toNat : Int) - 48)]).toArray,
              fun val _ _ => val 49 = .agg ([.string x2, .int .i64 ((d3.toNat : Int) - 48), .int .i64 ((d1.toNat : Int) - 48)]).toArray,
              fun val _ _ => val 50 = .bool (placeOk ⟨x2, (d3.toNat : Int) - 48, (d1.toNat : Int) - 48⟩),
              onCells w.heap.size ([.string x2, .int .i64 ((d3.toNat : Int) - 48), .int .i64 ((d1.toNat : Int) - 48)]).toArray 116,
              fun val _ _ => val 3 = .bool (placeOk ⟨x2, (d3.toNat : Int) - 48, (d1.toNat : Int) - 48⟩),
              onCells w.heap.size #[.string ⟨#[]⟩, .int .i64 0, .int .i64 0] 116]
            [[], [], [], [5], [], []] 1 (fun k => k = w.heap.size) (fun i k => i = 5 ∧ k = w.heap.size) (by kernel_rfl) ⟨by kernel_rfl, by kernel_rfl, by kernel_rfl, by kernel_rfl, by kernel_rfl⟩
            (.cons (stab_val 48 (fun v => v = .agg ([.string x2, .int .i64 ((d3.toNat : Int) - 48), .int .i64 ((d1.toNat : Int) - 48)]).toArray)) (.cons (stab_val 49 (fun v => v = .agg ([.string x2, .int .i64 ((d3.toNat : Int) - 48), .int .i64 ((d1.toNat : Int) - 48)]).toArray)) (.cons (stab_val 50 (fun v => v = .bool (placeOk ⟨x2, (d3.toNat : Int) - 48, (d1.toNat : Int) - 48⟩))) (.cons (stab_cells w.heap.size ([.string x2, .int .i64 ((d3.toNat : Int) - 48), .int .i64 ((d1.toNat : Int) - 48)]).toArray 116) (.cons (stab_val 3 (fun v => v = .bool (placeOk ⟨x2, (d3.toNat : Int) - 48, (d1.toNat : Int) - 48⟩))) (.cons (stab_cells w.heap.size #[.string ⟨#[]⟩, .int .i64 0, .int .i64 0] 116) .nil))))))
            (fun i j k h1 h2 => h1.1.trans h2.1.symm) (fun i k h => ⟨by rw [h.1]; exact Nat.le_refl _, h.2, by rw [h.2]; exact XLT.out⟩) (fun i h1 h2 => by have h5 : i = 5 := (by simp at h1 h2; omega); subst h5; exact ⟨P4.out, rfl, rfl⟩) (.cons ?_ (.cons ?_ (.cons ?_ (.cons ?_ (.cons ?_ .nil))))) ?_
          · intro a W own hfor huse hap hmi hF K hK
            have e5 : a.eval (.tmp 5) = .pointer (some ⟨g, 0, none⟩) := hfor 5 (by kernel_rfl)
            have hu_48 := Tryz.underlying116
            have hc : ∀ j u, [.string x2, .int .i64 ((d3.toNat : Int) - 48), .int .i64 ((d1.toNat : Int) - 48)][j]? = some u → W.cell? ⟨g, 0 + j, none⟩ = some u := fun j u h => by rw [Nat.zero_add]; exact (box_at ((hF.block g GLT.out GNE.out).trans GB.out)).2.1 j u (by simpa using h)
            refine step_load (cs := [.string x2, .int .i64 ((d3.toNat : Int) - 48), .int .i64 ((d1.toNat : Int) - 48)]) rfl 116 (.tmp 5) rfl e5 hc hu_48 rfl (by kernel_rfl) (hK _ _ (post_pure (if_pos rfl)))
          · intro a W own hfor huse hap hmi hF K hK
            have e5 : a.eval (.tmp 5) = .pointer (some ⟨g, 0, none⟩) := hfor 5 (by kernel_rfl)
            have hu_49 := Tryz.underlying116
            have hc : ∀ j u, [.string x2, .int .i64 ((d3.toNat : Int) - 48), .int .i64 ((d1.toNat : Int) - 48)][j]? = some u → W.cell? ⟨g, 0 + j, none⟩ = some u := fun j u h => by rw [Nat.zero_add]; exact (box_at ((hF.block g GLT.out GNE.out).trans GB.out)).2.1 j u (by simpa using h)
            refine step_load (cs := [.string x2, .int .i64 ((d3.toNat : Int) - 48), .int .i64 ((d1.toNat : Int) - 48)]) rfl 116 (.tmp 5) rfl e5 hc hu_49 rfl (by kernel_rfl) (hK _ _ (post_pure (if_pos rfl)))
          · intro a W own hfor huse hap hmi hF K hK
            have e49 : a.eval (.tmp 49) = .agg ([.string x2, .int .i64 ((d3.toNat : Int) - 48), .int .i64 ((d1.toNat : Int) - 48)]).toArray := huse 1 (by kernel_rfl)
            have efn : a.eval (.func 60) = .func (.func 60) #[] #[] := rfl
            refine op_call (f := 60) (args := #[.agg ([.string x2, .int .i64 ((d3.toNat : Int) - 48), .int .i64 ((d1.toNat : Int) - 48)]).toArray]) (fun v w1 => v = .bool (placeOk ⟨x2, (d3.toNat : Int) - 48, (d1.toNat : Int) - 48⟩) ∧ Below W.heap.size W w1) rfl ?_ ?_ (fun v w1 h => ?_)
            · clear hfor huse hap hmi hK hF
              generalize a.eval = ρ at *
              go_simp
            · exact (l3Place_c ⟨x2, (d3.toNat : Int) - 48, (d1.toNat : Int) - 48⟩ W).mono (by rintro e w1 ⟨rfl, h2⟩; exact ⟨_, rfl, rfl, h2⟩)
            · obtain ⟨rfl, h2⟩ := h
              exact hK _ _ (post_new h2 (if_pos rfl))
          · intro a W own hfor huse hap hmi hF K hK
            have e2 : a.eval (.tmp 2) = .pointer (some ⟨w.heap.size, 0, none⟩) := hfor 2 (by kernel_rfl)
            have e48 : a.eval (.tmp 48) = .agg ([.string x2, .int .i64 ((d3.toNat : Int) - 48), .int .i64 ((d1.toNat : Int) - 48)]).toArray := huse 0 (by kernel_rfl)
            obtain ⟨hb, hSX⟩ := (huse 5 (by kernel_rfl) : onCells w.heap.size #[.string ⟨#[]⟩, .int .i64 0, .int .i64 0] 116 (slotsOf a) (own 5) W)
            refine step_store (cs := [.string x2, .int .i64 ((d3.toNat : Int) - 48), .int .i64 ((d1.toNat : Int) - 48)]) rfl 116 (.tmp 2) (.tmp 48) rfl e2 e48 hb (by kernel_rfl) rfl (kPlace.K_one (kPlace.O_K (kPlace_mk W (fun _ => False) ⟨x2, (d3.toNat : Int) - 48, (d1.toNat : Int) - 48⟩ hx2))) (fun w1 hb1 hF1 => hK _ _ ⟨own 5, Foot.mono hF1 (fun k e => ⟨5, by decide, e ▸ hSX⟩), ⟨hb1, hSX⟩, fun k h => .inl ⟨5, by decide, h⟩⟩)
          · intro a W own hfor huse hap hmi hF K hK
            have e50 : a.eval (.tmp 50) = .bool (placeOk ⟨x2, (d3.toNat : Int) - 48, (d1.toNat : Int) - 48⟩) := huse 2 (by kernel_rfl)
            refine op_val (.bool (placeOk ⟨x2, (d3.toNat : Int) - 48, (d1.toNat : Int) - 48⟩)) W rfl ?_ (hK _ _ (post_pure ?_))
            · clear hfor huse hap hmi hK hF
              generalize a.eval = ρ at *
              go_simp
            · exact (if_pos rfl)
          intro a' W own hf
          have hsz := hf.st.size
          have hdf := hf.st.rest
          obtain ⟨⟨l⟩, df⟩ := a'
          have hl0 : l.length = 51 := hsz
          clear hsz
          obtain rfl : df = [] := hdf
          obtain ⟨x0, l0, rfl, hl1⟩ := lst_cons hl0
          clear hl0
          obtain ⟨x1, l1, rfl, hl2⟩ := lst_cons hl1
          clear hl1
          obtain ⟨x2, l2, rfl, hl3⟩ := lst_cons hl2
          clear hl2
          obtain ⟨x3, l3, rfl, hl4⟩ := lst_cons hl3
          clear hl3
          obtain ⟨x4, l4, rfl, hl5⟩ := lst_cons hl4
          clear hl4
          obtain ⟨x5, l5, rfl, hl6⟩ := lst_cons hl5
          clear hl5
          obtain ⟨x6, l6, rfl, hl7⟩ := lst_cons hl6
          clear hl6
          obtain ⟨x7, l7, rfl, hl8⟩ := lst_cons hl7
          clear hl7
          obtain ⟨x8, l8, rfl, hl9⟩ := lst_cons hl8
          clear hl8
          obtain ⟨x9, l9, rfl, hl10⟩ := lst_cons hl9
          clear hl9
          obtain ⟨x10, l10, rfl, hl11⟩ := lst_cons hl10
          clear hl10
          obtain ⟨x11, l11, rfl, hl12⟩ := lst_cons hl11
          clear hl11
          obtain ⟨x12, l12, rfl, hl13⟩ := lst_cons hl12
          clear hl12
          obtain ⟨x13, l13, rfl, hl14⟩ := lst_cons hl13
          clear hl13
          obtain ⟨x14, l14, rfl, hl15⟩ := lst_cons hl14
          clear hl14
          obtain ⟨x15, l15, rfl, hl16⟩ := lst_cons hl15
          clear hl15
          obtain ⟨x16, l16, rfl, hl17⟩ := lst_cons hl16
          clear hl16
          obtain ⟨x17, l17, rfl, hl18⟩ := lst_cons hl17
          clear hl17
          obtain ⟨x18, l18, rfl, hl19⟩ := lst_cons hl18
          clear hl18
          obtain ⟨x19, l19, rfl, hl20⟩ := lst_cons hl19
          clear hl19
          obtain ⟨x20, l20, rfl, hl21⟩ := lst_cons hl20
          clear hl20
          obtain ⟨x21, l21, rfl, hl22⟩ := lst_cons hl21
          clear hl21
          obtain ⟨x22, l22, rfl, hl23⟩ := lst_cons hl22
          clear hl22
          obtain ⟨x23, l23, rfl, hl24⟩ := lst_cons hl23
          clear hl23
          obtain ⟨x24, l24, rfl, hl25⟩ := lst_cons hl24
          clear hl24
          obtain ⟨x25, l25, rfl, hl26⟩ := lst_cons hl25
          clear hl25
          obtain ⟨x26, l26, rfl, hl27⟩ := lst_cons hl26
          clear hl26
          obtain ⟨x27, l27, rfl, hl28⟩ := lst_cons hl27
          clear hl27
          obtain ⟨x28, l28, rfl, hl29⟩ := lst_cons hl28
          clear hl28
          obtain ⟨x29, l29, rfl, hl30⟩ := lst_cons hl29
          clear hl29
          obtain ⟨x30, l30, rfl, hl31⟩ := lst_cons hl30
          clear hl30
          obtain ⟨x31, l31, rfl, hl32⟩ := lst_cons hl31
          clear hl31
          obtain ⟨x32, l32, rfl, hl33⟩ := lst_cons hl32
          clear hl32
          obtain ⟨x33, l33, rfl, hl34⟩ := lst_cons hl33
          clear hl33
          obtain ⟨x34, l34, rfl, hl35⟩ := lst_cons hl34
          clear hl34
          obtain ⟨x35, l35, rfl, hl36⟩ := lst_cons hl35
          clear hl35
          obtain ⟨x36, l36, rfl, hl37⟩ := lst_cons hl36
          clear hl36
          obtain ⟨x37, l37, rfl, hl38⟩ := lst_cons hl37
          clear hl37
          obtain ⟨x38, l38, rfl, hl39⟩ := lst_cons hl38
          clear hl38
          obtain ⟨x39, l39, rfl, hl40⟩ := lst_cons hl39
          clear hl39
          obtain ⟨x40, l40, rfl, hl41⟩ := lst_cons hl40
          clear hl40
          obtain ⟨x41, l41, rfl, hl42⟩ := lst_cons hl41
          clear hl41
          obtain ⟨x42, l42, rfl, hl43⟩ := lst_cons hl42
          clear hl42
          obtain ⟨x43, l43, rfl, hl44⟩ := lst_cons hl43
          clear hl43
          obtain ⟨x44, l44, rfl, hl45⟩ := lst_cons hl44
          clear hl44
          obtain ⟨x45, l45, rfl, hl46⟩ := lst_cons hl45
          clear hl45
          obtain ⟨x46, l46, rfl, hl47⟩ := lst_cons hl46
          clear hl46
          obtain ⟨x47, l47, rfl, hl48⟩ := lst_cons hl47
          clear hl47
          obtain ⟨x48, l48, rfl, hl49⟩ := lst_cons hl48
          clear hl48
          obtain ⟨x49, l49, rfl, hl50⟩ := lst_cons hl49
          clear hl49
          obtain ⟨x50, l50, rfl, hl51⟩ := lst_cons hl50
          clear hl50
          obtain rfl := List.eq_nil_of_length_eq_zero hl51
          have e0 := hf.st.kept 0 (by kernel_rfl)
          simp only [slotsOf, Act.eval, Array.getD_eq_getD_getElem?, List.getElem?_toArray, List.getElem?_cons_zero, Option.getD_some] at e0
          subst e0
          have e1 := hf.st.kept 1 (by kernel_rfl)
          simp only [slotsOf, Act.eval, Array.getD_eq_getD_getElem?, List.getElem?_toArray, List.getElem?_cons_succ, List.getElem?_cons_zero, Option.getD_some] at e1
          subst e1
          have e2 := hf.st.kept 2 (by kernel_rfl)
          simp only [slotsOf, Act.eval, Array.getD_eq_getD_getElem?, List.getElem?_toArray, List.getElem?_cons_succ, List.getElem?_cons_zero, Option.getD_some] at e2
          subst e2
          obtain ⟨hb2, -⟩ := hf.at 3 (onCells w.heap.size (#[.string x2, .int .i64 ((d3.toNat : Int) - 48), .int .i64 ((d1.toNat : Int) - 48)]) 116) rfl (by kernel_rfl)
          have e3 : x3 = .bool (placeOk ⟨x2, (d3.toNat : Int) - 48, (d1.toNat : Int) - 48⟩) := hf.at 4 (fun val _ _ => val 3 = .bool (placeOk ⟨x2, (d3.toNat : Int) - 48, (d1.toNat : Int) - 48⟩)) rfl (by kernel_rfl)
          subst e3
          have B8 := Sec.mk hb2
          have B9 := Sec.mk (hf.st.foot.below (belD B4.out) (fun k h => Nat.le_of_eq (show k = w.heap.size from h).symm))
          clear hf hb2
          go_wp2
          exact bodyPost_ret (results_cell2 (cs := [.string x2, .int .i64 ((d3.toNat : Int) - 48), .int .i64 ((d1.toNat : Int) - 48)]) rfl rfl rfl B8.out hu2 rfl (by kernel_rfl)) rfl ⟨⟨x2, (d3.toNat : Int) - 48, (d1.toNat : Int) - 48⟩, _, rfl, hs2, B9.out⟩


        · have q1 : ((x1.size : Int) != 1) = false := by rw [e1]; rfl
          have q3 : ((x3.size : Int) != 1) = true := bne_iff_ne.2 (by omega)
          clear e1 e3
          go_wp2_with (with_reducible show wpList _ _ _ (⟨none, .store 116 (.tmp 2) (.tmp 31), _, _, _, _⟩ :: _) _ _; refine wpList_store (cs := [.string ⟨#[]⟩, .int .i64 0, .int .i64 0]) (old := #[.string ⟨#[]⟩, .int .i64 0, .int .i64 0]) rfl 116 (.tmp 2) (.tmp 31) rfl rfl rfl P1.out (by kernel_rfl) rfl (kPlace.K_one (kPlace.O_K (kPlace_zero w))) ?_; intro w8 hb8 hF8; have B8 := Sec.mk hb8; have F8 := Sec.mk (hF8.below B1.out (fun k h => Nat.le_of_eq (show k = w.heap.size from h).symm)); clear hb8 hF8)
          exact bodyPost_ret (results_cell2 rfl rfl rfl B8.out hu2 rfl (by kernel_rfl)) rfl ⟨zeroPlace, false, rfl, by decide, F8.out⟩
      · have q1 : ((x1.size : Int) != 1) = true := bne_iff_ne.2 (by omega)
        clear e1
        go_wp2_with (with_reducible show wpList _ _ _ (⟨none, .store 116 (.tmp 2) (.tmp 31), _, _, _, _⟩ :: _) _ _; refine wpList_store (cs := [.string ⟨#[]⟩, .int .i64 0, .int .i64 0]) (old := #[.string ⟨#[]⟩, .int .i64 0, .int .i64 0]) rfl 116 (.tmp 2) (.tmp 31) rfl rfl rfl P1.out (by kernel_rfl) rfl (kPlace.K_one (kPlace.O_K (kPlace_zero w))) ?_; intro w8 hb8 hF8; have B8 := Sec.mk hb8; have F8 := Sec.mk (hF8.below B1.out (fun k h => Nat.le_of_eq (show k = w.heap.size from h).symm)); clear hb8 hF8)
        exact bodyPost_ret (results_cell2 rfl rfl rfl B8.out hu2 rfl (by kernel_rfl)) rfl ⟨zeroPlace, false, rfl, by decide, F8.out⟩
    · have e0' := e0
      clear c1 c2 c3
      go_wp2_with (with_reducible show wpList _ _ _ (⟨none, .store 116 (.tmp 2) (.tmp 31), _, _, _, _⟩ :: _) _ _; refine wpList_store (cs := [.string ⟨#[]⟩, .int .i64 0, .int .i64 0]) (old := #[.string ⟨#[]⟩, .int .i64 0, .int .i64 0]) rfl 116 (.tmp 2) (.tmp 31) rfl rfl rfl P1.out (by kernel_rfl) rfl (kPlace.K_one (kPlace.O_K (kPlace_zero w))) ?_; intro w8 hb8 hF8; have B8 := Sec.mk hb8; have F8 := Sec.mk (hF8.below B1.out (fun k h => Nat.le_of_eq (show k = w.heap.size from h).symm)); clear hb8 hF8)
      exact bodyPost_ret (results_cell2 rfl rfl rfl B8.out hu2 rfl (by kernel_rfl)) rfl ⟨zeroPlace, false, rfl, by decide, F8.out⟩
  · have t0 : ((ws.length : Int) != 4) = true := bne_iff_ne.2 (by omega)
    clear hC
    go_wp2_with (with_reducible show wpList _ _ _ (⟨none, .store 116 (.tmp 2) (.tmp 31), _, _, _, _⟩ :: _) _ _; refine wpList_store (cs := [.string ⟨#[]⟩, .int .i64 0, .int .i64 0]) (old := #[.string ⟨#[]⟩, .int .i64 0, .int .i64 0]) rfl 116 (.tmp 2) (.tmp 31) rfl rfl rfl P1.out (by kernel_rfl) rfl (kPlace.K_one (kPlace.O_K (kPlace_zero w))) ?_; intro w8 hb8 hF8; have B8 := Sec.mk hb8; have F8 := Sec.mk (hF8.below B1.out (fun k h => Nat.le_of_eq (show k = w.heap.size from h).symm)); clear hb8 hF8)
    exact bodyPost_ret (results_cell2 rfl rfl rfl B8.out hu2 rfl (by kernel_rfl)) rfl ⟨zeroPlace, false, rfl, by decide, F8.out⟩
end
section
def Lay {α : Type} (P : List α → Prop) : Nat → List α → Prop
  | 0, acc => P acc
  | n + 1, acc => ∀ x, Lay P n (x :: acc)
theorem lay_of {α : Type} {P : List α → Prop} : ∀ (n : Nat) (acc : List α), Lay P n acc → ∀ l : List α, l.length = n → P (l ++ acc)
  | 0, acc, h, l, hl => by obtain rfl := List.eq_nil_of_length_eq_zero hl; exact h
  | n + 1, acc, h, l, hl => by
    have hd : l = l.take n ++ [l[n]'(by omega)] := by
      rw [List.take_append_getElem, List.take_of_length_le (by omega)]
    rw [hd, List.append_assoc]
    exact lay_of n _ (h _) (l.take n) (by simp; omega)
theorem lay_all {α : Type} {P : List α → Prop} {n : Nat} (l : List α) (hl : l.length = n) (h : Lay P n []) : P l := by
  have := lay_of n [] h l hl
  rwa [List.append_nil] at this
end
end Go.Proofs.YtgiobpggonceeaaGreatDoor
