/- Draws of programs: the lines of a program that is drawn. Condition: the reader has been asked no more than a number of times; and what goes with it. -/
import Derived.Test.YtgiobpggonceeaaGreatDoorSn14
import Derived.Deep.DeepCutAuto
import Derived.Deep.CutBlock
namespace Go.Proofs.YtgiobpggonceeaaGreatDoor
section
open Go.RowKit
set_option linter.unusedVariables false
set_option maxRecDepth 100000
section
variable {n0 : Nat} {T : Nat → Prop}
/-- A text of its own in a row of one, not greater than n. -/
def onStr (t n : Nat) : On := fun val S w => ∃ x : ByteArray, x.size ≤ n ∧ onOne kStr t x val S w
theorem stab_str (t n : Nat) : (Ass.mk [t] (onStr t n)).Stab n0 T := fun val val' S w w' h hs hk hz => by
  obtain ⟨x, hx, h1⟩ := h
  exact ⟨x, hx, stab_one kStr t x val val' S w w' h1 hs hk hz⟩
/-- No more than n texts that are not great. -/
def onStrs (t n : Nat) : On := fun val S w => ∃ l : List ByteArray, l.length ≤ n ∧ (∀ y ∈ l, y.size ≤ 1000000) ∧ kStr.R w S (val t) l
theorem stab_strs (t n : Nat) : (Ass.mk [t] (onStrs t n)).Stab n0 T := fun val val' S w w' h hs hk _ => by
  obtain ⟨x, h1, h0, h2⟩ := h
  rw [← hs t (by simp)] at h2
  exact ⟨x, h1, h0, Kd.R_move (fun k h1 h2 => ⟨h1, hk k (.inl h1) h2⟩) h2⟩
end
theorem RI.foot {w0 w w' : World} {g PB f : Nat} {S : Nat → Prop} (h : RI w0 g PB f w) (hF : Foot S w w') (hS : ∀ k, S k → k ≠ g ∧ w0.heap.size ≤ k) : RI w0 g PB f w' := by
  obtain ⟨P, h1, h2⟩ := h
  exact ⟨P, hF.rd h1 hS, h2⟩
theorem kStr_Ks_Os {w w' : World} {ok : Nat → Prop} : ∀ {xs : List ByteArray} {S : Nat → Prop} {cs : List Value}, kStr.Ks w ok xs cs → kStr.Os w' S xs cs
  | [], _, _, h => h
  | x :: xs, S, cs, h => by
    obtain ⟨c0, c1, rfl, h1, h2⟩ := h
    exact ⟨fun _ => False, fun _ => False, c0, c1, rfl, fun _ h => h.elim, fun _ h => h.elim, h1, kStr_Ks_Os h2⟩
theorem kStr_Os_Ks {w w' : World} {ok : Nat → Prop} : ∀ {xs : List ByteArray} {S : Nat → Prop} {cs : List Value}, kStr.Os w S xs cs → kStr.Ks w' ok xs cs
  | [], _, _, h => h
  | x :: xs, S, cs, h => by
    obtain ⟨S1, S2, c0, c1, rfl, _, _, h1, h2⟩ := h
    exact ⟨c0, c1, rfl, h1, kStr_Os_Ks h2⟩
theorem kStr_R_W {w : World} {S : Nat → Prop} (ok : Nat → Prop) {v : Value} {xs : List ByteArray} (h : kStr.R w S v xs) : kStr.W w S ok v xs := by
  obtain ⟨h0, ⟨rfl, rfl⟩ | ⟨b, cap, cur, rfl, hb, hS, h1, h2, h3, h4⟩⟩ := h
  · exact ⟨h0, .inl ⟨rfl, rfl⟩⟩
  · exact ⟨h0, .inr ⟨b, cap, cur, rfl, hb, hS, h1, h2, h3, kStr_Os_Ks h4⟩⟩
theorem kStr_W_R {w : World} {S ok : Nat → Prop} {v : Value} {xs : List ByteArray} (h : kStr.W w S ok v xs) : kStr.R w S v xs := by
  obtain ⟨h0, ⟨rfl, rfl⟩ | ⟨b, cap, cur, rfl, hb, hS, h1, h2, h3, h4⟩⟩ := h
  · exact ⟨h0, .inl ⟨rfl, rfl⟩⟩
  · exact ⟨h0, .inr ⟨b, cap, cur, rfl, hb, hS, h1, h2, h3, kStr_Ks_Os h4⟩⟩
section
variable {ops : Array Oper} {rest : List Oper} {o : Oper} {a : Act} {Q : Exit → Act → World → Prop} {K : Act → World → Prop} {E : Prop} {S ok : Nat → Prop} {v u : Value} {xs ys : List ByteArray} {W w : World}
/-- append(v, y...) of texts. -/
theorem R_strs (hg : o.guard = none) (s x : Operand) (ho : o.op = .call { callee := .builtin .append, args := #[s, x], argTypes := #[220, 220] })
    (hs : a.eval s = v) (hx : a.eval x = u) (HR : kStr.R W S v xs) (HV : kStr.V W ok u ys) (hd : ∀ k, ok k → ¬ S k) (hl : xs.length + ys.length ≤ 1073741824)
    (h : ∀ v1 w1, kStr.R w1 (fun k => S k ∨ W.heap.size ≤ k) v1 (xs ++ ys) → W.grownBy w1 v.ownBlock → (∀ k, v.ownBlock = some k → S k) → wpList Tryz.prog ops Q rest (a.put o.dst v1) w1) :
    wpList Tryz.prog ops Q (o :: rest) a W := by
  obtain ⟨_, _, _, h3⟩ := Kd.R_own HR
  exact Kd.W_cat kStr hg s x 220 (.string ⟨#[]⟩) 16 ho Tryz.underlying220 info_str rfl (by decide) (by decide) v u xs ys S ok hs hx (kStr_R_W ok HR) (Kd.V_mono HV (fun k hk => ⟨hk, fun e => hd k hk (h3 k e.symm).1⟩) (by decide)) hl
    (fun v1 w1 hW hg1 => h v1 w1 (kStr_W_R hW) hg1 (fun k e => (h3 k e).1))
theorem step_strs (hg : o.guard = none) (s x : Operand) (ho : o.op = .call { callee := .builtin .append, args := #[s, x], argTypes := #[220, 220] })
    (hs : a.eval s = v) (hx : a.eval x = u) (HR : kStr.R w S v xs) (HV : kStr.V w ok u ys) (hd : ∀ k, ok k → ¬ S k) (hl : xs.length + ys.length ≤ 1073741824)
    (hk : ∀ v1 w1, kStr.R w1 (fun k => S k ∨ (w.heap.size ≤ k ∧ k < w1.heap.size)) v1 (xs ++ ys) → Foot S w w1 → K (a.put o.dst v1) w1) : if Region.wanted o (yielded ops a.tmps) = true then Oper.wp Tryz.prog o a w K Q else E := by
  refine step_of hg (fun Q9 h9 => ?_)
  exact R_strs hg s x ho hs hx HR HV hd hl (fun v1 w1 hR hg1 hr1 => h9 _ _ (hk v1 w1 (Kd.R_mono hR (fun k h1 h2 => h1.imp id (fun h => ⟨h, h2⟩))) (Foot.of_grown hg1 hr1)))
end
theorem strs_of {w : World} {ok : Nat → Prop} {b : Nat} {l : List ByteArray} (hb : w.heap[b]? = some (.cells (l.map .string).toArray 9 (0, 0))) (hok : ok b) (hl : l.length ≤ 100) (hs : ∀ x ∈ l, x.size ≤ 1000000) : kStr.V w ok (.slice (some ⟨b, 0, none⟩) l.length l.length) l := by
  refine ⟨_, _, rfl, Nat.le_refl _, by simp only [maxLen]; omega, by omega, .inr ⟨b, 0, rfl, hok, fun j x hx => ⟨[.string x], str_O w (fun _ => True) x (by have := hs x (List.mem_of_getElem? hx); omega), fun q u hq => ?_⟩⟩, fun h => by cases h⟩
  have hq0 : q = 0 := by have := (List.getElem?_eq_some_iff.1 hq).1; simpa using this
  subst hq0
  obtain rfl : Value.string x = u := by simpa using hq
  have := (box_at hb).2.1 j (.string x) (by simp [hx])
  simpa [kStr, Kd.str, Kd.scalar] using this
/-- The lines so far. -/
structure LSt (w : World) (S : Nat → Prop) (n : Nat) (v : Value) (ls : List ByteArray) (W : World) : Prop where
  row : kStr.R W S v ls
  small : ∀ y ∈ ls, y.size ≤ 1000000
  len : ls.length ≤ n
def LinesOut (w0 w : World) (g P : Nat) (e : Ending) (w' : World) : Prop := ∃ (u : Value) (ls : List ByteArray), e = .returned u ∧ kStr.R w' (fun k => w.heap.size ≤ k) u ls ∧ (∀ x ∈ ls, x.size ≤ 1000000) ∧ ls.length ≤ 100 ∧ Rd w0 w' g P ∧ Only g w w'
set_option maxHeartbeats 8000000 in
theorem lines_c (w0 w : World) (g P : Nat) (hR : Rd w0 w g P) (hP : P ≤ 999400000) :
    Calls Tryz.prog 176 #[.pointer (some ⟨g, 0, none⟩)] w (LinesOut w0 w g (P + 500000)) := by
  have hg := hR.lt
  have BG : Sec (g < w.heap.size) := ⟨hg⟩
  have H0 := Sec.mk hR
  have WZ0 := Sec.mk hR.bel.size
  have hus := Tryz.underlying9
  clear hR
  go_enter Tryz.func176, Tryz.ntmps176
  go_wp2_with fail
  generalize hW : World.alloc (World.alloc w _) _ = W1
  obtain ⟨cs, hc1, hc2, hc3, hc0, hB⟩ : ∃ cs : Array Value, W1.heap[w.heap.size + 1]? = some (.cells cs 9 (0, 0)) ∧ cs.size = 11 ∧ cs.all (shortStr 20) = true ∧ W1.heap[w.heap.size]? = some (.cells #[] 9 (0, 0)) ∧ Below w.heap.size w W1 :=
    ⟨_, by rw [← hW]; exact many_get [_, _] w 1 _ rfl, rfl, by kernel_rfl, by rw [← hW]; exact many_get [_, _] w 0 _ rfl, by rw [← hW]; exact many_below [_, _] w⟩
  clear hW
  refine (pick_c w0 W1 g P 11 (H0.out.below hB) (by omega)).mono ?_
  rintro e w2 ⟨r, rfl, ⟨p0, p1, -⟩, hR2, hO2⟩
  have p2 := p1 (by omega)
  obtain ⟨at_, rfl⟩ : ∃ k : Nat, r = (k : Int) := ⟨r.toNat, by omega⟩
  have hat : at_ < 11 := by omega
  go_wp2_with fail
  refine (pick_c w0 w2 g (P + 1) 6 hR2 (by omega)).mono ?_
  rintro e w3 ⟨r, rfl, ⟨q0, q1, -⟩, hR3, hO3⟩
  have q2 := q1 (by omega)
  obtain ⟨k0, rfl⟩ : ∃ k : Nat, r = (k : Int) := ⟨r.toNat, by omega⟩
  have hk0 : k0 ≤ 5 := by omega
  have N3 := Sec.mk (hO3.blk (hO2.blk hc1 (by omega)) (by omega))
  have E3 := hO3.blk (hO2.blk hc0 (by omega)) (by omega)
  have O3 := Sec.mk (((Only.of_below hB).trans hO2).trans hO3)
  have R3 := Sec.mk hR3
  have L3 : Sec (LSt w (fun q => w.heap.size ≤ q ∧ q ≠ w.heap.size + 1) 0 (.slice (some ⟨w.heap.size, 0, none⟩) 0 0) [] w3) := ⟨⟨⟨by simp, .inr ⟨w.heap.size, 0, #[], rfl, E3, ⟨Nat.le_refl _, by omega⟩, Nat.le_refl _, by simp [maxLen], by simp, rfl⟩⟩, by simp, Nat.le_refl _⟩⟩
  have NA := Sec.mk hc3
  have NZ0 := Sec.mk hc2
  clear hB hc0 hc1 hc2 hc3 hO2 hO3 hR2 hR3 E3 p0 p1 p2 q0 q1 q2
  go_wp2_with fail
  have BT : Sec (w.heap.size < w.heap.size + 1) := ⟨by omega⟩
  generalize w.heap.size + 1 = bt at *
  go_loopw [3, 6] (fun ov kv wr => ∃ (k : Nat) (ls : List ByteArray), kv = .int .i64 k ∧ k ≤ 5 ∧ Sec (LSt w (fun q => w.heap.size ≤ q ∧ q ≠ bt) (5 - k) ov ls wr) ∧ Sec (wr.heap[bt]? = some (.cells cs 9 (0, 0))) ∧ Sec (Rd w0 wr g (P + 2 + 8500 * (5 - k))) ∧ Sec (Only g w wr)) (fun _ kv _ => (intOf kv).toNat)
  case atStart => exact ⟨k0, [], rfl, hk0, ⟨⟨L3.out.row, by simp, by simp⟩⟩, N3, ⟨R3.out.mono (by omega)⟩, O3⟩
  case round =>
    obtain ⟨kk, ls, rfl, hk5, HL, HN, HD, HO⟩ := hrel
    obtain ⟨A9, c9, rfl, -, -⟩ := Kd.R_form HL.out.row
    have WZ := Sec.mk HO.out.size
    have LL := Sec.mk HL.out.len
    have SM := Sec.mk HL.out.small
    have HR := Sec.mk HL.out.row
    by_cases hk1 : 1 ≤ kk
    · have d1 : decide ((kk : Int) > 0) = true := decide_eq_true (by omega)
      obtain ⟨rr, hrr⟩ : ∃ rr, rr = (at_ + kk * 3) % 11 := ⟨_, rfl⟩
      have RL : Sec (rr < 11) := ⟨by omega⟩
      have RM : Sec (((at_ : Int) + (kk : Int) * 3) % 11 = (rr : Int) ∧ Int.tmod ((at_ : Int) + (kk : Int) * 3) 11 = (rr : Int)) := ⟨by omega, by rw [Int.tmod_eq_emod_of_nonneg (by omega)]; omega⟩
      have BK : Sec (at_ < 11 ∧ kk ≤ 5) := ⟨hat, hk5⟩
      have BK := BK
      obtain ⟨nm, hnm, hns⟩ := short_at NA.out (i := rr) (by rw [NZ0.out]; exact RL.out)
      have NC := Sec.mk ((box_at HN.out).2.1 rr _ hnm)
      have NS := Sec.mk hns
      clear hnm hns hrr
      obtain ⟨PP, hPP⟩ : ∃ PP, PP = P + 2 + 8500 * (5 - kk) := ⟨_, rfl⟩
      rw [← hPP] at HD
      go_wp2
      refine Sh.wp_region_lists (G := fun k => k = g) (I := RI w0 g (PP + 8400)) [[24], [25], [26], [27], [28], [29], [30], [31], [32], [33], [34], [35], [36], [37], [38], [39], [40], [41], [42], [43], [3], []]
        [fun val _ _ => val 24 = .slice A9 ls.length c9,
          fun val _ _ => val 25 = .pointer (some ⟨g, 0, none⟩),
          fun val _ _ => ∃ r : Int, val 26 = .int .i64 r ∧ (0 ≤ r ∧ r < 2),
          fun val _ _ => ∃ r : Int, val 27 = .int .i64 r ∧ (0 ≤ r ∧ r < 3),
          fun val _ _ => ∃ x : ByteArray, val 28 = .string x ∧ x.size ≤ 10,
          fun val _ _ => ∃ x : ByteArray, val 29 = .string x ∧ x.size ≤ 13,
          fun val _ _ => ∃ x : ByteArray, val 30 = .string x ∧ x.size ≤ 14,
          fun val _ _ => val 31 = .slice (some ⟨bt, 0, none⟩) 11 11,
          fun val _ _ => val 32 = .int .i64 (at_ : Int),
          fun val _ _ => val 33 = .int .i64 (kk : Int),
          fun val _ _ => val 34 = .int .i64 ((kk : Int) * 3),
          fun val _ _ => val 35 = .int .i64 ((at_ : Int) + (kk : Int) * 3),
          fun val _ _ => val 36 = .slice (some ⟨bt, 0, none⟩) 11 11,
          fun val _ _ => val 37 = .int .i64 11,
          fun val _ _ => val 38 = .int .i64 (rr : Int),
          fun val _ _ => val 39 = .pointer (some ⟨bt, rr, none⟩),
          fun val _ _ => val 40 = .string nm,
          fun val _ _ => ∃ x : ByteArray, val 41 = .string x ∧ x.size ≤ 40,
          onStr 42 40,
          onStrs 43 (ls.length + 1),
          onStrs 3 (ls.length + 1),
          onRc kStr (.slice A9 ls.length c9) ls]
        [[], [], [], [], [], [], [], [], [], [], [], [], [], [], [], [], [], [], [], [21, 18], [19], []] 1 (fun q => q = g ∨ (w.heap.size ≤ q ∧ q ≠ bt ∧ q < wr.heap.size)) (fun i q => i = 21 ∧ w.heap.size ≤ q ∧ q ≠ bt ∧ q < wr.heap.size) (by kernel_rfl) ⟨by kernel_rfl, by kernel_rfl, by kernel_rfl, by kernel_rfl, by kernel_rfl⟩
        (.cons (stab_val 24 (fun v => v = .slice A9 ls.length c9)) (.cons (stab_val 25 (fun v => v = .pointer (some ⟨g, 0, none⟩))) (.cons (stab_val 26 (fun v => ∃ r : Int, v = .int .i64 r ∧ (0 ≤ r ∧ r < 2))) (.cons (stab_val 27 (fun v => ∃ r : Int, v = .int .i64 r ∧ (0 ≤ r ∧ r < 3))) (.cons (stab_val 28 (fun v => ∃ x : ByteArray, v = .string x ∧ x.size ≤ 10)) (.cons (stab_val 29 (fun v => ∃ x : ByteArray, v = .string x ∧ x.size ≤ 13)) (.cons (stab_val 30 (fun v => ∃ x : ByteArray, v = .string x ∧ x.size ≤ 14)) (.cons (stab_val 31 (fun v => v = .slice (some ⟨bt, 0, none⟩) 11 11)) (.cons (stab_val 32 (fun v => v = .int .i64 (at_ : Int))) (.cons (stab_val 33 (fun v => v = .int .i64 (kk : Int))) (.cons (stab_val 34 (fun v => v = .int .i64 ((kk : Int) * 3))) (.cons (stab_val 35 (fun v => v = .int .i64 ((at_ : Int) + (kk : Int) * 3))) (.cons (stab_val 36 (fun v => v = .slice (some ⟨bt, 0, none⟩) 11 11)) (.cons (stab_val 37 (fun v => v = .int .i64 11)) (.cons (stab_val 38 (fun v => v = .int .i64 (rr : Int))) (.cons (stab_val 39 (fun v => v = .pointer (some ⟨bt, rr, none⟩))) (.cons (stab_val 40 (fun v => v = .string nm)) (.cons (stab_val 41 (fun v => ∃ x : ByteArray, v = .string x ∧ x.size ≤ 40)) (.cons (stab_str 42 40) (.cons (stab_strs 43 (ls.length + 1)) (.cons (stab_strs 3 (ls.length + 1)) (.cons (stab_Rc kStr (.slice A9 ls.length c9) ls) .nil))))))))))))))))))))))
        (fun i j k h1 h2 => h1.1.trans h2.1.symm) (fun i q h => ⟨by rw [h.1]; decide, .inr h.2, h.2.2.2⟩) (fun i h1 h2 => by (obtain rfl : i = 21 := (by simp at h1 h2; omega)); exact Kd.R_mono (Kd.R_below HR.out (belD (Below.refl _ _))) (fun q h h3 => ⟨rfl, h.1, h.2, h3⟩)) (fun k h => ⟨.inl h, by rw [h]; have := BG.out; have := WZ.out; omega⟩) (fun f w h => RI.down h) ⟨PP, HD.out.below (belD (Below.refl _ _)), by simp⟩ (fun i k h h2 => by have h2 : k = g := h2; have := BG.out; omega) (.cons ?_ (.cons ?_ (.cons ?_ (.cons ?_ (.cons ?_ (.cons ?_ (.cons ?_ (.cons ?_ (.cons ?_ (.cons ?_ (.cons ?_ (.cons ?_ (.cons ?_ (.cons ?_ (.cons ?_ (.cons ?_ (.cons ?_ (.cons ?_ (.cons ?_ (.cons ?_ (.cons ?_ .nil))))))))))))))))))))) ?_
      · intro a W own hfor huse hap hmi hF hfree f hI K hK
        have e3 : a.eval (.tmp 3) = .slice A9 ls.length c9 := hfor 3 (by kernel_rfl)
        refine op_val (.slice A9 ls.length c9) W rfl ?_ (hK _ _ (Sh.rpost_pure hI (if_pos rfl)))
        · clear hfor huse hap hmi hK hF
          generalize a.eval = ρ at *
          go_simp
      · intro a W own hfor huse hap hmi hF hfree f hI K hK
        have e0 : a.eval (.tmp 0) = .pointer (some ⟨g, 0, none⟩) := hfor 0 (by kernel_rfl)
        refine op_val (.pointer (some ⟨g, 0, none⟩)) W rfl ?_ (hK _ _ (Sh.rpost_pure hI (if_pos rfl)))
        · clear hfor huse hap hmi hK hF
          generalize a.eval = ρ at *
          go_simp
      · intro a W own hfor huse hap hmi hF hfree f hI K hK
        have e25 : a.eval (.tmp 25) = .pointer (some ⟨g, 0, none⟩) := huse 1 (by kernel_rfl)
        have efn : a.eval (.func 113) = .func (.func 113) #[] #[] := rfl
        have ec : a.eval (.const (.int .i64 2)) = .int .i64 2 := rfl
        obtain ⟨P, hRd, hPB⟩ := hI
        refine op_call (f := 113) (args := #[.pointer (some ⟨g, 0, none⟩), .int .i64 2]) (fun v w1 => ∃ r : Int, v = .int .i64 r ∧ (0 ≤ r ∧ r < 2) ∧ Rd w0 w1 g (P + 1) ∧ Only g W w1) rfl ?_ ?_ (fun v w1 h => ?_)
        · clear hfor huse hap hmi hK hF
          generalize a.eval = ρ at *
          go_simp
        · exact (pick_c w0 W g P 2 hRd (by omega)).mono (by rintro e w1 ⟨r, rfl, ⟨q0, q1, _⟩, h1, h2⟩; exact ⟨_, rfl, r, rfl, ⟨q0, q1 (by omega)⟩, h1, h2⟩)
        · obtain ⟨r, rfl, hr, h1, h2⟩ := h
          exact hK _ _ (Sh.rpost_rd hPB h1 (by omega) h2 ⟨r, if_pos rfl, hr⟩)
      · intro a W own hfor huse hap hmi hF hfree f hI K hK
        obtain ⟨r, e26, hr0, hr1⟩ : ∃ r : Int, a.eval (.tmp 26) = .int .i64 r ∧ (0 ≤ r ∧ r < 2) := huse 2 (by kernel_rfl)
        have ec : a.eval (.const (.int .i64 1)) = .int .i64 1 := rfl
        have wq : IntKind.i64.wrap (1 + r) = 1 + r := IntWalk.i64_in _ (by omega)
        refine op_val (.int .i64 (1 + r)) W rfl ?_ (hK _ _ (Sh.rpost_pure hI ⟨1 + r, if_pos rfl, by omega⟩))
        · clear hfor huse hap hmi hK hF
          generalize a.eval = ρ at *
          go_simp
      · intro a W own hfor huse hap hmi hF hfree f hI K hK
        obtain ⟨r, e27, hr0, hr1⟩ : ∃ r : Int, a.eval (.tmp 27) = .int .i64 r ∧ (0 ≤ r ∧ r < 3) := huse 3 (by kernel_rfl)
        obtain ⟨m, rfl⟩ : ∃ m : Nat, r = (m : Int) := ⟨r.toNat, by omega⟩
        have efn : a.eval (.func 225) = .func (.func 225) #[] #[] := rfl
        refine op_call (f := 225) (args := #[.int .i64 (m : Int)]) (fun v w1 => ∃ s : ByteArray, v = .string s ∧ s.size ≤ 10 ∧ Below W.heap.size W w1) rfl ?_ ?_ (fun v w1 h => ?_)
        · clear hfor huse hap hmi hK hF
          generalize a.eval = ρ at *
          go_simp
        · exact (l1Plain_c m (by omega) W).mono (by rintro e w1 ⟨s, rfl, h1, h2⟩; exact ⟨_, rfl, s, rfl, h1, h2⟩)
        · obtain ⟨s, rfl, h1, h2⟩ := h
          exact hK _ _ (Sh.rpost_new hI h2 ⟨s, if_pos rfl, h1⟩)
      · intro a W own hfor huse hap hmi hF hfree f hI K hK
        obtain ⟨x, e28, hx⟩ : ∃ x : ByteArray, a.eval (.tmp 28) = .string x ∧ x.size ≤ 10 := huse 4 (by kernel_rfl)
        have ec : a.eval (.const (.string ⟨#[97, 116, 32]⟩)) = .string ⟨#[97, 116, 32]⟩ := rfl
        have hlz : (⟨#[97, 116, 32]⟩ : ByteArray).size = 3 := rfl
        have hsz : ((⟨#[97, 116, 32]⟩ : ByteArray) ++ x).size = x.size + 3 := by rw [ByteArray.size_append]; omega
        refine op_val (.string ((⟨#[97, 116, 32]⟩ : ByteArray) ++ x)) W rfl ?_ (hK _ _ (Sh.rpost_pure hI ⟨_, if_pos rfl, by omega⟩))
        · clear hfor huse hap hmi hK hF
          generalize a.eval = ρ at *
          go_simp
          omega
      · intro a W own hfor huse hap hmi hF hfree f hI K hK
        obtain ⟨x, e29, hx⟩ : ∃ x : ByteArray, a.eval (.tmp 29) = .string x ∧ x.size ≤ 13 := huse 5 (by kernel_rfl)
        have ec : a.eval (.const (.string ⟨#[32]⟩)) = .string ⟨#[32]⟩ := rfl
        have hlz : (⟨#[32]⟩ : ByteArray).size = 1 := rfl
        have hsz : (x ++ (⟨#[32]⟩ : ByteArray)).size = x.size + 1 := by rw [ByteArray.size_append]; omega
        refine op_val (.string (x ++ (⟨#[32]⟩ : ByteArray))) W rfl ?_ (hK _ _ (Sh.rpost_pure hI ⟨_, if_pos rfl, by omega⟩))
        · clear hfor huse hap hmi hK hF
          generalize a.eval = ρ at *
          go_simp
          omega
      · intro a W own hfor huse hap hmi hF hfree f hI K hK
        have e4 : a.eval (.tmp 4) = .slice (some ⟨bt, 0, none⟩) 11 11 := hfor 4 (by kernel_rfl)
        refine op_val (.slice (some ⟨bt, 0, none⟩) 11 11) W rfl ?_ (hK _ _ (Sh.rpost_pure hI (if_pos rfl)))
        · clear hfor huse hap hmi hK hF
          generalize a.eval = ρ at *
          go_simp
      · intro a W own hfor huse hap hmi hF hfree f hI K hK
        have e5 : a.eval (.tmp 5) = .int .i64 (at_ : Int) := hfor 5 (by kernel_rfl)
        refine op_val (.int .i64 (at_ : Int)) W rfl ?_ (hK _ _ (Sh.rpost_pure hI (if_pos rfl)))
        · clear hfor huse hap hmi hK hF
          generalize a.eval = ρ at *
          go_simp
      · intro a W own hfor huse hap hmi hF hfree f hI K hK
        have e6 : a.eval (.tmp 6) = .int .i64 (kk : Int) := hfor 6 (by kernel_rfl)
        refine op_val (.int .i64 (kk : Int)) W rfl ?_ (hK _ _ (Sh.rpost_pure hI (if_pos rfl)))
        · clear hfor huse hap hmi hK hF
          generalize a.eval = ρ at *
          go_simp
      · intro a W own hfor huse hap hmi hF hfree f hI K hK
        have e33 : a.eval (.tmp 33) = .int .i64 (kk : Int) := huse 9 (by kernel_rfl)
        have ec : a.eval (.const (.int .i64 3)) = .int .i64 3 := rfl
        have wq : IntKind.i64.wrap ((kk : Int) * 3) = (kk : Int) * 3 := IntWalk.i64_in _ (by have := BK.out; omega)
        refine op_val (.int .i64 ((kk : Int) * 3)) W rfl ?_ (hK _ _ (Sh.rpost_pure hI (if_pos rfl)))
        · clear hfor huse hap hmi hK hF
          generalize a.eval = ρ at *
          go_simp
      · intro a W own hfor huse hap hmi hF hfree f hI K hK
        have e32 : a.eval (.tmp 32) = .int .i64 (at_ : Int) := huse 8 (by kernel_rfl)
        have e34 : a.eval (.tmp 34) = .int .i64 ((kk : Int) * 3) := huse 10 (by kernel_rfl)
        have wq : IntKind.i64.wrap ((at_ : Int) + (kk : Int) * 3) = (at_ : Int) + (kk : Int) * 3 := IntWalk.i64_in _ (by have := BK.out; omega)
        refine op_val (.int .i64 ((at_ : Int) + (kk : Int) * 3)) W rfl ?_ (hK _ _ (Sh.rpost_pure hI (if_pos rfl)))
        · clear hfor huse hap hmi hK hF
          generalize a.eval = ρ at *
          go_simp
      · intro a W own hfor huse hap hmi hF hfree f hI K hK
        have e4 : a.eval (.tmp 4) = .slice (some ⟨bt, 0, none⟩) 11 11 := hfor 4 (by kernel_rfl)
        refine op_val (.slice (some ⟨bt, 0, none⟩) 11 11) W rfl ?_ (hK _ _ (Sh.rpost_pure hI (if_pos rfl)))
        · clear hfor huse hap hmi hK hF
          generalize a.eval = ρ at *
          go_simp
      · intro a W own hfor huse hap hmi hF hfree f hI K hK
        have e36 : a.eval (.tmp 36) = .slice (some ⟨bt, 0, none⟩) 11 11 := huse 12 (by kernel_rfl)
        refine op_val (.int .i64 11) W rfl ?_ (hK _ _ (Sh.rpost_pure hI (if_pos rfl)))
        · clear hfor huse hap hmi hK hF
          generalize a.eval = ρ at *
          go_simp
      · intro a W own hfor huse hap hmi hF hfree f hI K hK
        have e35 : a.eval (.tmp 35) = .int .i64 ((at_ : Int) + (kk : Int) * 3) := huse 11 (by kernel_rfl)
        have e37 : a.eval (.tmp 37) = .int .i64 11 := huse 13 (by kernel_rfl)
        have b1 := BK.out
        have m1 := RM.out.1
        have m2 := RM.out.2
        refine op_val (.int .i64 (rr : Int)) W rfl ?_ (hK _ _ (Sh.rpost_pure hI (if_pos rfl)))
        · clear hfor huse hap hmi hK hF
          generalize a.eval = ρ at *
          go_simp
      · intro a W own hfor huse hap hmi hF hfree f hI K hK
        have e31 : a.eval (.tmp 31) = .slice (some ⟨bt, 0, none⟩) 11 11 := huse 7 (by kernel_rfl)
        have e38 : a.eval (.tmp 38) = .int .i64 (rr : Int) := huse 14 (by kernel_rfl)
        have b1 : (0 : Int) ≤ (rr : Int) := by omega
        have b2 : (rr : Int) < 11 := by have := RL.out; omega
        refine op_val (.pointer (some ⟨bt, rr, none⟩)) W rfl ?_ (hK _ _ (Sh.rpost_pure hI (if_pos rfl)))
        · clear hfor huse hap hmi hK hF
          generalize a.eval = ρ at *
          go_simp
      · intro a W own hfor huse hap hmi hF hfree f hI K hK
        have e39 : a.eval (.tmp 39) = .pointer (some ⟨bt, rr, none⟩) := huse 15 (by kernel_rfl)
        have c0 := foot_cell hF (fun h => by rcases h with h | h; have h : bt = g := h; have := BG.out; have := BT.out; omega; exact h.2.1 rfl) NC.out
        refine op_val (.string nm) W rfl ?_ (hK _ _ (Sh.rpost_pure hI (if_pos rfl)))
        · clear hfor huse hap hmi hK hF
          generalize a.eval = ρ at *
          go_simp
      · intro a W own hfor huse hap hmi hF hfree f hI K hK
        obtain ⟨x, e30, hx⟩ : ∃ x : ByteArray, a.eval (.tmp 30) = .string x ∧ x.size ≤ 14 := huse 6 (by kernel_rfl)
        have e40 : a.eval (.tmp 40) = .string nm := huse 16 (by kernel_rfl)
        have hn := NS.out
        have hsz : (x ++ nm).size = x.size + nm.size := ByteArray.size_append
        refine op_val (.string (x ++ nm)) W rfl ?_ (hK _ _ (Sh.rpost_pure hI ⟨_, if_pos rfl, by omega⟩))
        · clear hfor huse hap hmi hK hF
          generalize a.eval = ρ at *
          go_simp
          omega
      · intro a W own hfor huse hap hmi hF hfree f hI K hK
        obtain ⟨x, e41, hx⟩ : ∃ x : ByteArray, a.eval (.tmp 41) = .string x ∧ x.size ≤ 40 := huse 17 (by kernel_rfl)
        refine op_val (.slice (some ⟨W.heap.size, 0, none⟩) 1 1) (W.alloc (.cells #[.string x] 9)) rfl ?_ (hK _ _ (Sh.rpost_new hI (belA (Below.refl _ _) _) ⟨x, hx, W.heap.size, [.string x], if_pos rfl, heap_alloc_new W _, ⟨Nat.le_refl _, by simp⟩, str_O _ _ _ (by omega)⟩))
        · clear hfor huse hap hmi hK hF
          generalize a.eval = ρ at *
          go_simp
      · intro a W own hfor huse hap hmi hF hfree f hI K hK
        have e24 : a.eval (.tmp 24) = .slice A9 ls.length c9 := huse 0 (by kernel_rfl)
        obtain ⟨x, hx, b, cs, e42, hbx, hSb, hO⟩ := (huse 18 (by kernel_rfl) : onStr 42 40 (slotsOf a) (own 18) W)
        have e42 : a.eval (.tmp 42) = .slice (some ⟨b, 0, none⟩) 1 1 := e42
        have r0 : kStr.R W (own 21) (.slice A9 ls.length c9) ls := huse 21 (by kernel_rfl)
        refine step_one kStr rfl (.tmp 24) (.tmp 42) 220 (.string ⟨#[]⟩) 16 rfl Tryz.underlying220 info_str rfl (by decide) (by decide) e24 e42 r0 hbx hO (fun k h1 h2 => by have := hap 18 21 k h1.1 h2; omega) (by have := LL.out; omega) (fun v1 w1 hR hF1 => hK _ _ ⟨fun k => own 21 k ∨ own 18 k ∨ (W.heap.size ≤ k ∧ k < w1.heap.size), Foot.mono hF1 (fun k h => .inl ⟨21, by decide, h⟩), (RI.down hI).foot hF1 (fun k h => ⟨fun e => hfree 21 k h e, by have h1 := (hmi 21 k h).1; have hz := WZ0.out; have hz2 := WZ.out; rcases h1 with h1 | h1 | h1; have h1 : wr.heap.size ≤ k := h1; omega; exact (hfree 21 k h h1).elim; omega⟩), ?_, ?_⟩)
        · refine ⟨ls ++ [x], by simp, fun y hy => by rcases List.mem_append.1 hy with hy | hy; exact SM.out y hy; simp at hy; subst hy; omega, ?_⟩
          show kStr.R _ _ (if _ then _ else _) _
          rw [if_pos rfl]
          exact Kd.R_mono hR (fun k h _ => h.imp id (fun h => h.imp (fun h => h.1) id))
        · intro k h
          rcases h with h | h | h
          · exact .inl ⟨21, by decide, h⟩
          · exact .inl ⟨18, by decide, h⟩
          · exact .inr h
      · intro a W own hfor huse hap hmi hF hfree f hI K hK
        obtain ⟨l, h1, h2, h3⟩ := (huse 19 (by kernel_rfl) : onStrs 43 (ls.length + 1) (slotsOf a) (own 19) W)
        refine op_val (a.eval (.tmp 43)) W rfl ?_ (hK _ _ ⟨own 19, Foot.refl _ _, RI.down hI, ⟨l, h1, h2, by show kStr.R _ _ (if _ then _ else _) _; rw [if_pos rfl]; exact h3⟩, fun k h => .inl ⟨19, by decide, h⟩⟩)
        · rfl
      intro a' W own f' hf hI'
      have s1 := hf.st.size
      have s2 := hf.st.rest
      have s3 := fun t ht => hf.st.kept t ht
      revert hf
      revert a'
      refine lay_intro (df := []) [true, true, true, false, true, true, true, true, true, true, true, true, true, true, true, true, true, true, true, true, true, true, true, true, false, false, false, false, false, false, false, false, false, false, false, false, false, false, false, false, false, false, false, false, true, true, true, true, true, true, true, true, true, true, true, true, true, true, true, true, true, true, true, true, true, true, true, true, true, true, true, true, true, true, true, true, true, true, true, true, true, true, true, true, true, true, true, true, true, true, true, true, true, true, true, true, true, true, true, true, true, true, true, true, true, true, true, true, true, true, true, true] (by kernel_rfl) rfl ?_
      intro x43 x42 x41 x40 x39 x38 x37 x36 x35 x34 x33 x32 x31 x30 x29 x28 x27 x26 x25 x24 x3 hf
      obtain ⟨l, hl, hs, hr⟩ := hf.at 20 (onStrs 3 (ls.length + 1)) rfl (by kernel_rfl)
      have hr : kStr.R W (own 20) x3 l := hr
      obtain ⟨P', hR', hP'⟩ := hI'
      have hbt : bt < wr.heap.size := (Array.getElem?_eq_some_iff.1 HN.out).1
      have r1 : Sec (LSt w (fun q => w.heap.size ≤ q ∧ q ≠ bt) (5 - (kk - 1)) x3 l W) := ⟨⟨Kd.R_mono hr (fun q h _ => by
        have h1 := hf.st.free 20 q h
        have hz := WZ.out
        rcases (hf.st.mine 20 q h).1 with h2 | h2 | h2
        · have h2 : wr.heap.size ≤ q := h2
          exact ⟨by omega, by omega⟩
        · exact (h1 h2).elim
        · exact ⟨h2.1, h2.2.1⟩), hs, by have := LL.out; omega⟩⟩
      have hft := hf.st.foot
      have N9 := Sec.mk ((hft.block bt hbt (fun h => by rcases h with h | h; have := BT.out; omega; exact h.2.1 rfl)).trans HN.out)
      have O9 : Sec (Only g w W) := ⟨⟨hft.os.trans HO.out.os, hft.tape.trans HO.out.tape, hft.output.trans HO.out.output, Nat.le_trans HO.out.size hft.size, fun q hq hg => (hft.block q (Nat.lt_of_lt_of_le hq HO.out.size) (fun h => by rcases h with h | h; exact hg h; omega)).trans (HO.out.block q hq hg)⟩⟩
      have R9 := Sec.mk (hR'.mono (P' := PP + 8400) (by omega))
      have kz : ((kk : Int) - 1) = ((kk - 1 : Nat) : Int) := by omega
      clear hf hr hR' hft hl hs
      go_wp2
      go_roundw
      case rel => exact ⟨kk - 1, l, by first | go_num | (rw [kz]) | simp [kz], by omega, r1, N9, ⟨R9.out.mono (by omega)⟩, O9⟩
      case measure => simp [intOf]; omega
    · obtain rfl : kk = 0 := by omega
      have pl5 : ls.length ≤ 5 := by have := LL.out; omega
      go_wp2_with fail
      have NB : Sec (bt < wr.heap.size) := ⟨(Array.getElem?_eq_some_iff.1 HN.out).1⟩
      refine (blocks_c wr).mono ?_
      rintro e w4 ⟨rfl, hBk, hb4⟩
      obtain ⟨nb, hnb⟩ : ∃ nb, wr.heap.size = nb := ⟨_, rfl⟩
      obtain ⟨SS, hSS⟩ : ∃ SS : Nat → Prop, SS = fun q => w.heap.size ≤ q ∧ (q < nb ∨ nb + 13 < q) := ⟨_, rfl⟩
      have SD : Sec (∀ q, SS q ↔ (w.heap.size ≤ q ∧ (q < nb ∨ nb + 13 < q))) := ⟨fun q => by rw [hSS]⟩
      have L4 : Sec (LSt w SS 5 (.slice A9 ls.length c9) ls w4) := ⟨⟨Kd.R_below (Kd.R_mono HR.out (fun q h h2 => (SD.out q).2 ⟨h.1, .inl (by omega)⟩)) hb4, SM.out, pl5⟩⟩
      rw [hnb] at hBk
      have K4 := Sec.mk hBk
      have R4 := Sec.mk (HD.out.below hb4)
      have O4 := Sec.mk (HO.out.trans (Only.of_below hb4))
      have NBW : Sec (w.heap.size ≤ nb) := ⟨by have := WZ.out; omega⟩
      rw [hnb]
      clear hBk hb4 HL HN HD HO LL SM HR WZ hnb hSS L3 N3 R3 O3
      go_wp2_with fail
      refine (pick_c w0 w4 g _ 4 R4.out (by omega)).mono ?_
      rintro e w5 ⟨r, rfl, ⟨p0, p1, -⟩, hRd, hOn⟩
      have p2 := p1 (by omega)
      obtain ⟨ft, rfl⟩ : ∃ k : Nat, r = (k : Int) := ⟨r.toNat, by omega⟩
      have hgb : g < nb := by have := NBW.out; omega
      have L5 : Sec (LSt w SS 5 (.slice A9 ls.length c9) ls w5) := ⟨⟨hOn.R L4.out.row (fun k h => by have := ((SD.out k).1 h).1; omega), L4.out.small, L4.out.len⟩⟩
      have K5 := Sec.mk (K4.out.only hOn hgb)
      have R5 := Sec.mk (hRd.mono (P' := P + 43000) (by omega))
      have O5 := Sec.mk (O4.out.trans hOn)
      clear p0 p1 hRd hOn L4 K4 R4 O4
      go_upto_if 50 with (fail)
      go_cut [3] (fun ov wc => ∃ l : List ByteArray, Sec (LSt w SS 17 ov l wc) ∧ Sec (Blks nb wc) ∧ Sec (Rd w0 wc g (P + 43001)) ∧ Sec (Only g w wc))
      case first =>
        by_cases hf2 : ft < 2
        · have d1 : decide ((ft : Int) < 2) = true := decide_eq_true (by omega)
          obtain ⟨wz, hwz⟩ : ∃ wz, w5 = wz := ⟨_, rfl⟩
          rw [hwz] at L5 K5 R5 O5
          have NZ := Sec.mk K5.out.lt
          have NF : Sec (∀ k, SS k → nb ≤ k → k ≤ nb + 13 → False) := ⟨fun k h h1 h2 => by have := ((SD.out k).1 h).2; omega⟩
          have LL := Sec.mk L5.out.len
          have SM := Sec.mk L5.out.small
          have HR := Sec.mk L5.out.row
          obtain ⟨la, va, za, ya, ca⟩ := K5.out.row 3 (by omega)
          obtain ⟨lb, vb, zb, yb, cb⟩ := K5.out.row 4 (by omega)
          obtain ⟨lc, vc, zc, yc, cc⟩ := K5.out.row 2 (by omega)
          have Vla := Sec.mk va; have Vlb := Sec.mk vb; have Vlc := Sec.mk vc
          have Zla : Sec (la.length ≤ 3 ∧ ∀ x ∈ la, x.size ≤ 100) := ⟨ya, za⟩
          have Zlb : Sec (lb.length ≤ 3 ∧ ∀ x ∈ lb, x.size ≤ 100) := ⟨yb, zb⟩
          have Zlc : Sec (lc.length ≤ 3 ∧ ∀ x ∈ lc, x.size ≤ 100) := ⟨yc, zc⟩
          have Cla := Sec.mk ca; have Clb := Sec.mk cb; have Clc := Sec.mk cc
          clear va vb vc za zb zc ya yb yc ca cb cc
          go_wp2
          rw [hwz]
          refine wp_region_lists [[51], [52], [53], [54], [55], [56], [57], [58], [59], [60], [61], [62], [63], [3], []]
            [fun val _ _ => val 51 = .slice A9 ls.length c9,
              fun val _ _ => val 52 = .slice (some ⟨nb + 13, 0, none⟩) 13 13,
              fun val _ _ => val 53 = .pointer (some ⟨nb + 13, 3, none⟩),
              fun val _ _ => val 54 = .slice (some ⟨nb + 3, 0, none⟩) la.length la.length,
              onStrs 55 (ls.length + 3),
              fun val _ _ => val 56 = .slice (some ⟨nb + 13, 0, none⟩) 13 13,
              fun val _ _ => val 57 = .pointer (some ⟨nb + 13, 4, none⟩),
              fun val _ _ => val 58 = .slice (some ⟨nb + 4, 0, none⟩) lb.length lb.length,
              onStrs 59 (ls.length + 6),
              fun val _ _ => val 60 = .slice (some ⟨nb + 13, 0, none⟩) 13 13,
              fun val _ _ => val 61 = .pointer (some ⟨nb + 13, 2, none⟩),
              fun val _ _ => val 62 = .slice (some ⟨nb + 2, 0, none⟩) lc.length lc.length,
              onStrs 63 (ls.length + 9),
              onStrs 3 (ls.length + 9),
              onRc kStr (.slice A9 ls.length c9) ls]
            [[], [], [], [], [14], [], [], [], [4], [], [], [], [8], [12], []] 1 (fun q => SS q ∧ q < wz.heap.size) (fun i q => i = 14 ∧ SS q ∧ q < wz.heap.size) (by kernel_rfl) ⟨by kernel_rfl, by kernel_rfl, by kernel_rfl, by kernel_rfl, by kernel_rfl⟩
            (.cons (stab_val 51 (fun v => v = .slice A9 ls.length c9)) (.cons (stab_val 52 (fun v => v = .slice (some ⟨nb + 13, 0, none⟩) 13 13)) (.cons (stab_val 53 (fun v => v = .pointer (some ⟨nb + 13, 3, none⟩))) (.cons (stab_val 54 (fun v => v = .slice (some ⟨nb + 3, 0, none⟩) la.length la.length)) (.cons (stab_strs 55 (ls.length + 3)) (.cons (stab_val 56 (fun v => v = .slice (some ⟨nb + 13, 0, none⟩) 13 13)) (.cons (stab_val 57 (fun v => v = .pointer (some ⟨nb + 13, 4, none⟩))) (.cons (stab_val 58 (fun v => v = .slice (some ⟨nb + 4, 0, none⟩) lb.length lb.length)) (.cons (stab_strs 59 (ls.length + 6)) (.cons (stab_val 60 (fun v => v = .slice (some ⟨nb + 13, 0, none⟩) 13 13)) (.cons (stab_val 61 (fun v => v = .pointer (some ⟨nb + 13, 2, none⟩))) (.cons (stab_val 62 (fun v => v = .slice (some ⟨nb + 2, 0, none⟩) lc.length lc.length)) (.cons (stab_strs 63 (ls.length + 9)) (.cons (stab_strs 3 (ls.length + 9)) (.cons (stab_Rc kStr (.slice A9 ls.length c9) ls) .nil)))))))))))))))
            (fun i j k h1 h2 => h1.1.trans h2.1.symm) (fun i q h => ⟨by rw [h.1]; decide, h.2, h.2.2⟩) (fun i h1 h2 => by (obtain rfl : i = 14 := (by simp at h1 h2; omega)); exact Kd.R_mono (Kd.R_below HR.out (belD (Below.refl _ _))) (fun q h h3 => ⟨rfl, h, h3⟩)) (.cons ?_ (.cons ?_ (.cons ?_ (.cons ?_ (.cons ?_ (.cons ?_ (.cons ?_ (.cons ?_ (.cons ?_ (.cons ?_ (.cons ?_ (.cons ?_ (.cons ?_ (.cons ?_ .nil)))))))))))))) ?_
          · intro a W own hfor huse hap hmi hF K hK
            have e3 : a.eval (.tmp 3) = .slice A9 ls.length c9 := hfor 3 (by kernel_rfl)
            refine op_val (.slice A9 ls.length c9) W rfl ?_ (hK _ _ (post_pure ?_))
            · clear hfor huse hap hmi hK hF
              generalize a.eval = ρ at *
              go_simp
            · exact (if_pos rfl)
          · intro a W own hfor huse hap hmi hF K hK
            have e8 : a.eval (.tmp 8) = .slice (some ⟨nb + 13, 0, none⟩) 13 13 := hfor 8 (by kernel_rfl)
            refine op_val (.slice (some ⟨nb + 13, 0, none⟩) 13 13) W rfl ?_ (hK _ _ (post_pure ?_))
            · clear hfor huse hap hmi hK hF
              generalize a.eval = ρ at *
              go_simp
            · exact (if_pos rfl)
          · intro a W own hfor huse hap hmi hF K hK
            have e52 : a.eval (.tmp 52) = .slice (some ⟨nb + 13, 0, none⟩) 13 13 := huse 1 (by kernel_rfl)
            have ec : a.eval (.const (.int .i64 3)) = .int .i64 3 := rfl
            refine op_val (.pointer (some ⟨nb + 13, 3, none⟩)) W rfl ?_ (hK _ _ (post_pure ?_))
            · clear hfor huse hap hmi hK hF
              generalize a.eval = ρ at *
              go_simp
            · exact (if_pos rfl)
          · intro a W own hfor huse hap hmi hF K hK
            have e53 : a.eval (.tmp 53) = .pointer (some ⟨nb + 13, 3, none⟩) := huse 2 (by kernel_rfl)
            have c0 := foot_cell hF (fun h => NF.out _ h.1 (by omega) (by omega)) Cla.out
            refine op_val (.slice (some ⟨nb + 3, 0, none⟩) la.length la.length) W rfl ?_ (hK _ _ (post_pure ?_))
            · clear hfor huse hap hmi hK hF
              generalize a.eval = ρ at *
              go_simp
            · exact (if_pos rfl)
          · intro a W own hfor huse hap hmi hF K hK
            have e51 : a.eval (.tmp 51) = .slice A9 ls.length c9 := huse 0 (by kernel_rfl)
            have r0 : kStr.R W (own 14) (.slice A9 ls.length c9) ls := huse 14 (by kernel_rfl)
            have h1 : ls.length ≤ ls.length + 0 := by omega
            have h2 := SM.out
            obtain ⟨l, hl⟩ : ∃ l, ls = l := ⟨_, rfl⟩
            have e54 : a.eval (.tmp 54) = .slice (some ⟨nb + 3, 0, none⟩) la.length la.length := huse 3 (by kernel_rfl)
            have hV := foot_V hF (fun k h1 h2 => NF.out k h2.1 h1.1 (by omega)) Vla.out (by decide)
            refine step_strs rfl (.tmp 51) (.tmp 54) rfl e51 e54 r0 hV (fun k h3 h4 => by have h5 := (hmi 14 k h4).1; rcases h5 with h5 | h5; have h5 : wz.heap.size ≤ k := h5; have := NZ.out; omega; exact NF.out k h5.1 h3.1 (by omega)) (by have := LL.out; have := Zla.out.1; omega) (fun v1 w1 hR hF1 => hK _ _ ⟨fun k => own 14 k ∨ (W.heap.size ≤ k ∧ k < w1.heap.size), Foot.mono hF1 (fun k h => ⟨14, by decide, h⟩), ?_, fun k h => Or.imp (fun h => ⟨14, by decide, h⟩) id h⟩)
            · refine ⟨ls ++ la, by have := Zla.out.1; simp; omega, fun y hy => by rcases List.mem_append.1 hy with hy | hy; exact h2 y hy; have := Zla.out.2 y hy; omega, ?_⟩
              show kStr.R _ _ (if _ then _ else _) _
              rw [if_pos rfl]
              exact hR
          · intro a W own hfor huse hap hmi hF K hK
            have e8 : a.eval (.tmp 8) = .slice (some ⟨nb + 13, 0, none⟩) 13 13 := hfor 8 (by kernel_rfl)
            refine op_val (.slice (some ⟨nb + 13, 0, none⟩) 13 13) W rfl ?_ (hK _ _ (post_pure ?_))
            · clear hfor huse hap hmi hK hF
              generalize a.eval = ρ at *
              go_simp
            · exact (if_pos rfl)
          · intro a W own hfor huse hap hmi hF K hK
            have e56 : a.eval (.tmp 56) = .slice (some ⟨nb + 13, 0, none⟩) 13 13 := huse 5 (by kernel_rfl)
            have ec : a.eval (.const (.int .i64 4)) = .int .i64 4 := rfl
            refine op_val (.pointer (some ⟨nb + 13, 4, none⟩)) W rfl ?_ (hK _ _ (post_pure ?_))
            · clear hfor huse hap hmi hK hF
              generalize a.eval = ρ at *
              go_simp
            · exact (if_pos rfl)
          · intro a W own hfor huse hap hmi hF K hK
            have e57 : a.eval (.tmp 57) = .pointer (some ⟨nb + 13, 4, none⟩) := huse 6 (by kernel_rfl)
            have c0 := foot_cell hF (fun h => NF.out _ h.1 (by omega) (by omega)) Clb.out
            refine op_val (.slice (some ⟨nb + 4, 0, none⟩) lb.length lb.length) W rfl ?_ (hK _ _ (post_pure ?_))
            · clear hfor huse hap hmi hK hF
              generalize a.eval = ρ at *
              go_simp
            · exact (if_pos rfl)
          · intro a W own hfor huse hap hmi hF K hK
            obtain ⟨l, h1, h2, r0⟩ := (huse 4 (by kernel_rfl) : onStrs 55 (ls.length + 3) (slotsOf a) (own 4) W)
            have r0 : kStr.R W (own 4) (a.eval (.tmp 55)) l := r0
            obtain ⟨v0, e55⟩ : ∃ v, a.eval (.tmp 55) = v := ⟨_, rfl⟩
            rw [e55] at r0
            have e58 : a.eval (.tmp 58) = .slice (some ⟨nb + 4, 0, none⟩) lb.length lb.length := huse 7 (by kernel_rfl)
            have hV := foot_V hF (fun k h1 h2 => NF.out k h2.1 h1.1 (by omega)) Vlb.out (by decide)
            refine step_strs rfl (.tmp 55) (.tmp 58) rfl e55 e58 r0 hV (fun k h3 h4 => by have h5 := (hmi 4 k h4).1; rcases h5 with h5 | h5; have h5 : wz.heap.size ≤ k := h5; have := NZ.out; omega; exact NF.out k h5.1 h3.1 (by omega)) (by have := LL.out; have := Zlb.out.1; omega) (fun v1 w1 hR hF1 => hK _ _ ⟨fun k => own 4 k ∨ (W.heap.size ≤ k ∧ k < w1.heap.size), Foot.mono hF1 (fun k h => ⟨4, by decide, h⟩), ?_, fun k h => Or.imp (fun h => ⟨4, by decide, h⟩) id h⟩)
            · refine ⟨l ++ lb, by have := Zlb.out.1; simp; omega, fun y hy => by rcases List.mem_append.1 hy with hy | hy; exact h2 y hy; have := Zlb.out.2 y hy; omega, ?_⟩
              show kStr.R _ _ (if _ then _ else _) _
              rw [if_pos rfl]
              exact hR
          · intro a W own hfor huse hap hmi hF K hK
            have e8 : a.eval (.tmp 8) = .slice (some ⟨nb + 13, 0, none⟩) 13 13 := hfor 8 (by kernel_rfl)
            refine op_val (.slice (some ⟨nb + 13, 0, none⟩) 13 13) W rfl ?_ (hK _ _ (post_pure ?_))
            · clear hfor huse hap hmi hK hF
              generalize a.eval = ρ at *
              go_simp
            · exact (if_pos rfl)
          · intro a W own hfor huse hap hmi hF K hK
            have e60 : a.eval (.tmp 60) = .slice (some ⟨nb + 13, 0, none⟩) 13 13 := huse 9 (by kernel_rfl)
            have ec : a.eval (.const (.int .i64 2)) = .int .i64 2 := rfl
            refine op_val (.pointer (some ⟨nb + 13, 2, none⟩)) W rfl ?_ (hK _ _ (post_pure ?_))
            · clear hfor huse hap hmi hK hF
              generalize a.eval = ρ at *
              go_simp
            · exact (if_pos rfl)
          · intro a W own hfor huse hap hmi hF K hK
            have e61 : a.eval (.tmp 61) = .pointer (some ⟨nb + 13, 2, none⟩) := huse 10 (by kernel_rfl)
            have c0 := foot_cell hF (fun h => NF.out _ h.1 (by omega) (by omega)) Clc.out
            refine op_val (.slice (some ⟨nb + 2, 0, none⟩) lc.length lc.length) W rfl ?_ (hK _ _ (post_pure ?_))
            · clear hfor huse hap hmi hK hF
              generalize a.eval = ρ at *
              go_simp
            · exact (if_pos rfl)
          · intro a W own hfor huse hap hmi hF K hK
            obtain ⟨l, h1, h2, r0⟩ := (huse 8 (by kernel_rfl) : onStrs 59 (ls.length + 6) (slotsOf a) (own 8) W)
            have r0 : kStr.R W (own 8) (a.eval (.tmp 59)) l := r0
            obtain ⟨v0, e59⟩ : ∃ v, a.eval (.tmp 59) = v := ⟨_, rfl⟩
            rw [e59] at r0
            have e62 : a.eval (.tmp 62) = .slice (some ⟨nb + 2, 0, none⟩) lc.length lc.length := huse 11 (by kernel_rfl)
            have hV := foot_V hF (fun k h1 h2 => NF.out k h2.1 h1.1 (by omega)) Vlc.out (by decide)
            refine step_strs rfl (.tmp 59) (.tmp 62) rfl e59 e62 r0 hV (fun k h3 h4 => by have h5 := (hmi 8 k h4).1; rcases h5 with h5 | h5; have h5 : wz.heap.size ≤ k := h5; have := NZ.out; omega; exact NF.out k h5.1 h3.1 (by omega)) (by have := LL.out; have := Zlc.out.1; omega) (fun v1 w1 hR hF1 => hK _ _ ⟨fun k => own 8 k ∨ (W.heap.size ≤ k ∧ k < w1.heap.size), Foot.mono hF1 (fun k h => ⟨8, by decide, h⟩), ?_, fun k h => Or.imp (fun h => ⟨8, by decide, h⟩) id h⟩)
            · refine ⟨l ++ lc, by have := Zlc.out.1; simp; omega, fun y hy => by rcases List.mem_append.1 hy with hy | hy; exact h2 y hy; have := Zlc.out.2 y hy; omega, ?_⟩
              show kStr.R _ _ (if _ then _ else _) _
              rw [if_pos rfl]
              exact hR
          · intro a W own hfor huse hap hmi hF K hK
            obtain ⟨l, h1, h2, h3⟩ := (huse 12 (by kernel_rfl) : onStrs 63 (ls.length + 9) (slotsOf a) (own 12) W)
            refine op_val (a.eval (.tmp 63)) W rfl ?_ (hK _ _ ⟨own 12, Foot.refl _ _, ⟨l, h1, h2, by show kStr.R _ _ (if _ then _ else _) _; rw [if_pos rfl]; exact h3⟩, fun k h => .inl ⟨12, by decide, h⟩⟩)
            · rfl
          intro a' W own hf
          have s1 := hf.st.size
          have s2 := hf.st.rest
          have s3 := fun t ht => hf.st.kept t ht
          revert hf
          revert a'
          refine lay_intro (df := []) [true, true, true, false, true, true, true, true, true, true, true, true, true, true, true, true, true, true, true, true, true, true, true, true, true, true, true, true, true, true, true, true, true, true, true, true, true, true, true, true, true, true, true, true, true, true, true, true, true, true, true, false, false, false, false, false, false, false, false, false, false, false, false, false, true, true, true, true, true, true, true, true, true, true, true, true, true, true, true, true, true, true, true, true, true, true, true, true, true, true, true, true, true, true, true, true, true, true, true, true, true, true, true, true, true, true, true, true, true, true, true, true] (by kernel_rfl) rfl ?_
          intro x63 x62 x61 x60 x59 x58 x57 x56 x55 x54 x53 x52 x51 x3 hf
          obtain ⟨l, hl, hs, hr⟩ := hf.at 13 (onStrs 3 (ls.length + 9)) rfl (by kernel_rfl)
          have hr : kStr.R W (own 13) x3 l := hr
          obtain ⟨A7, c7, rfl, -, -⟩ := Kd.R_form hr
          have hft := hf.st.foot
          have L6 : Sec (LSt w SS 14 (.slice A7 l.length c7) l W) := ⟨⟨Kd.R_mono hr (fun q h _ => by
            rcases (hf.st.mine 13 q h).1 with h2 | h2
            · have h2 : wz.heap.size ≤ q := h2
              exact (SD.out q).2 ⟨by have := NZ.out; have := NBW.out; omega, .inr (by have := NZ.out; omega)⟩
            · exact h2.1), hs, by have := LL.out; omega⟩⟩
          have TS : ∀ k, SS k ∧ k < wz.heap.size → k < nb ∨ nb + 13 < k := fun k h => ((SD.out k).1 h.1).2
          have K6 : Sec (Blks nb W) := ⟨(K5.out.below (belD (Below.refl _ _))).foot hft TS⟩
          have R6 : Sec (Rd w0 W g (P + 43000)) := ⟨hft.rd (R5.out.below (belD (Below.refl _ _))) (fun k h => by have := ((SD.out k).1 h.1).1; have := WZ0.out; exact ⟨by omega, by omega⟩)⟩
          have O6 : Sec (Only g w W) := ⟨hft.onlyOf (O5.out.drew) (fun k h => ((SD.out k).1 h.1).1)⟩
          clear hf hr hft hl hs TS L5 K5 R5 O5 Vla Vlb Vlc Cla Clb Clc HR
          go_wp2_with fail
          have HB := belA (Below.refl W.heap.size W) (.cells #[.int .i64 10, .int .i64 7, .int .i64 11] 3)
          have hgW : g < W.heap.size := R6.out.lt
          refine (pick_c w0 (W.alloc (.cells #[.int .i64 10, .int .i64 7, .int .i64 11] 3)) g _ 3 (R6.out.below HB) (by omega)).mono ?_
          rintro e w7 ⟨r, rfl, ⟨s0, s1, -⟩, hRd, hOn⟩
          have s2 := s1 (by omega)
          have X := (box_at (hOn.blk (heap_alloc_new W (.cells #[.int .i64 10, .int .i64 7, .int .i64 11] 3)) (by omega))).2.1
          have t0 := X 0 _ rfl
          have t1 := X 1 _ rfl
          have t2 := X 2 _ rfl
          have K7 := Sec.mk ((K6.out.below HB).only hOn hgb)
          have R7 := Sec.mk hRd
          have O7 := Sec.mk ((O6.out.trans (Only.of_below HB)).trans hOn)
          have L7 : Sec (LSt w SS 14 (.slice A7 l.length c7) l w7) := ⟨⟨hOn.R (Kd.R_below L6.out.row HB) (fun k h => by have := ((SD.out k).1 h).1; omega), L6.out.small, L6.out.len⟩⟩
          have hln : l.length ≤ 14 := L6.out.len
          clear HB X hRd hOn s1 L6 K6 R6 O6
          rcases (show r = 0 ∨ r = 1 ∨ r = 2 by omega) with rfl | rfl | rfl
          · obtain ⟨lr, vr, zr, yr, cr⟩ := K7.out.row 10 (by omega)
            have VR := Sec.mk vr
            clear vr
            go_wp2_with (at_builtin; go_loud (refine R_strs (W := w7) (by rfl) (.tmp 64) (.tmp 72) (by rfl) (by rfl) (by rfl) L7.out.row VR.out (fun q h h2 => by have := ((SD.out q).1 h2).2; omega) (by omega) ?_; intro v9 w9 hR9 hg9 hr9; obtain ⟨A8, c8, rfl, -, -⟩ := Kd.R_form hR9; rw [List.length_append] at hR9; have R9 := Sec.mk hR9; have F9 := Sec.mk (Foot.of_grown hg9 hr9); clear hR9 hg9 hr9))
            go_meet
            case rel => exact ⟨l ++ lr, ⟨⟨Kd.R_mono R9.out (fun q h _ => by
              rcases h with h | h
              · exact h
              · have := K7.out.lt; have := NBW.out; exact (SD.out q).2 ⟨by omega, .inr (by omega)⟩), fun y hy => by rcases List.mem_append.1 hy with hy | hy; exact L7.out.small y hy; have := zr y hy; omega, by simp; omega⟩⟩, ⟨K7.out.foot F9.out (fun q h => ((SD.out q).1 h).2)⟩, ⟨(F9.out.rd R7.out (fun q h => by have := ((SD.out q).1 h).1; have := WZ0.out; exact ⟨by omega, by omega⟩)).mono (by omega)⟩, ⟨F9.out.onlyOf O7.out (fun q h => ((SD.out q).1 h).1)⟩⟩
          · obtain ⟨lr, vr, zr, yr, cr⟩ := K7.out.row 7 (by omega)
            have VR := Sec.mk vr
            clear vr
            go_wp2_with (at_builtin; go_loud (refine R_strs (W := w7) (by rfl) (.tmp 64) (.tmp 72) (by rfl) (by rfl) (by rfl) L7.out.row VR.out (fun q h h2 => by have := ((SD.out q).1 h2).2; omega) (by omega) ?_; intro v9 w9 hR9 hg9 hr9; obtain ⟨A8, c8, rfl, -, -⟩ := Kd.R_form hR9; rw [List.length_append] at hR9; have R9 := Sec.mk hR9; have F9 := Sec.mk (Foot.of_grown hg9 hr9); clear hR9 hg9 hr9))
            go_meet
            case rel => exact ⟨l ++ lr, ⟨⟨Kd.R_mono R9.out (fun q h _ => by
              rcases h with h | h
              · exact h
              · have := K7.out.lt; have := NBW.out; exact (SD.out q).2 ⟨by omega, .inr (by omega)⟩), fun y hy => by rcases List.mem_append.1 hy with hy | hy; exact L7.out.small y hy; have := zr y hy; omega, by simp; omega⟩⟩, ⟨K7.out.foot F9.out (fun q h => ((SD.out q).1 h).2)⟩, ⟨(F9.out.rd R7.out (fun q h => by have := ((SD.out q).1 h).1; have := WZ0.out; exact ⟨by omega, by omega⟩)).mono (by omega)⟩, ⟨F9.out.onlyOf O7.out (fun q h => ((SD.out q).1 h).1)⟩⟩
          · obtain ⟨lr, vr, zr, yr, cr⟩ := K7.out.row 11 (by omega)
            have VR := Sec.mk vr
            clear vr
            go_wp2_with (at_builtin; go_loud (refine R_strs (W := w7) (by rfl) (.tmp 64) (.tmp 72) (by rfl) (by rfl) (by rfl) L7.out.row VR.out (fun q h h2 => by have := ((SD.out q).1 h2).2; omega) (by omega) ?_; intro v9 w9 hR9 hg9 hr9; obtain ⟨A8, c8, rfl, -, -⟩ := Kd.R_form hR9; rw [List.length_append] at hR9; have R9 := Sec.mk hR9; have F9 := Sec.mk (Foot.of_grown hg9 hr9); clear hR9 hg9 hr9))
            go_meet
            case rel => exact ⟨l ++ lr, ⟨⟨Kd.R_mono R9.out (fun q h _ => by
              rcases h with h | h
              · exact h
              · have := K7.out.lt; have := NBW.out; exact (SD.out q).2 ⟨by omega, .inr (by omega)⟩), fun y hy => by rcases List.mem_append.1 hy with hy | hy; exact L7.out.small y hy; have := zr y hy; omega, by simp; omega⟩⟩, ⟨K7.out.foot F9.out (fun q h => ((SD.out q).1 h).2)⟩, ⟨(F9.out.rd R7.out (fun q h => by have := ((SD.out q).1 h).1; have := WZ0.out; exact ⟨by omega, by omega⟩)).mono (by omega)⟩, ⟨F9.out.onlyOf O7.out (fun q h => ((SD.out q).1 h).1)⟩⟩
        · have d1 : decide ((ft : Int) < 2) = false := decide_eq_false (by omega)
          go_wp2_with fail
          go_meet
          case rel => exact ⟨ls, ⟨⟨L5.out.row, L5.out.small, by have := L5.out.len; omega⟩⟩, K5, ⟨R5.out.mono (by omega)⟩, O5⟩
      case rest =>
      obtain ⟨l5, L6, K6, R6, O6⟩ := hcut
      obtain ⟨A6, c6, hv6, -, -⟩ := Kd.R_form L6.out.row
      subst hv6
      generalize wc = w6 at *
      clear L5 K5 R5 O5
      go_wp2_with fail
      refine (pick_c w0 w6 g _ 4 R6.out (by omega)).mono ?_
      rintro e w7 ⟨r, rfl, ⟨p0, p1, -⟩, hRd, hOn⟩
      have p3 := p1 (by omega)
      obtain ⟨k0, rfl⟩ : ∃ k : Nat, r = (k : Int) := ⟨r.toNat, by omega⟩
      have L7 : Sec (LSt w SS 17 (.slice A6 l5.length c6) l5 w7) := ⟨⟨hOn.R L6.out.row (fun k h => by have := ((SD.out k).1 h).1; omega), L6.out.small, L6.out.len⟩⟩
      have K7 := Sec.mk (K6.out.only hOn hgb)
      have R7 := Sec.mk (hRd.mono (P' := P + 43002) (by omega))
      have O7 := Sec.mk (O6.out.trans hOn)
      clear p1 hRd hOn L6 K6 R6 O6
      go_wp2_with fail
      go_loopw [3, 10] (fun ov kv wr => ∃ (k : Nat) (ls : List ByteArray), kv = .int .i64 k ∧ k ≤ 4 ∧ Sec (LSt w SS (17 + 3 * (4 - k)) ov ls wr) ∧ Sec (Blks nb wr) ∧ Sec (Rd w0 wr g (P + 43002 + 90000 * (4 - k))) ∧ Sec (Only g w wr)) (fun _ kv _ => (intOf kv).toNat)
      case atStart => exact ⟨1 + k0, l5, by first | rfl | exact congrArg (Value.int .i64) (by omega), by omega, ⟨⟨L7.out.row, L7.out.small, by have := L7.out.len; omega⟩⟩, K7, ⟨R7.out.mono (by omega)⟩, O7⟩
      case round =>
        clear L7 K7 R7 O7
        obtain ⟨k, l7, rfl, hk4, L8, K8, R8, O8⟩ := hrel
        obtain ⟨A8, c8, rfl, -, -⟩ := Kd.R_form L8.out.row
        have hl7 : l7.length ≤ 29 := by have := L8.out.len; omega
        by_cases hgo : 1 ≤ k ∧ 2 ≤ ft
        · obtain ⟨hk1, hf1⟩ := hgo
          have d1 : decide ((k : Int) > 0) = true := decide_eq_true (by omega)
          have d2 : decide ((ft : Int) ≥ 2) = true := decide_eq_true (by omega)
          obtain ⟨PP, hPP⟩ : ∃ PP, PP = P + 43002 + 90000 * (4 - k) := ⟨_, rfl⟩
          rw [← hPP] at R8
          go_wp2_with fail
          refine (pick_c w0 wr g _ 13 R8.out (by omega)).mono ?_
          rintro e w8 ⟨r, rfl, ⟨p0, p1, -⟩, hRd, hOn⟩
          have p3 := p1 (by omega)
          obtain ⟨i, rfl⟩ : ∃ k : Nat, r = (k : Int) := ⟨r.toNat, by omega⟩
          have hi : i < 13 := by omega
          have i0 : (0 : Int) ≤ (i : Int) := by omega
          have i1 : (i : Int) < 13 := by omega
          have L9 : Sec (LSt w SS (17 + 3 * (4 - k)) (.slice A8 l7.length c8) l7 w8) := ⟨⟨hOn.R L8.out.row (fun k h => by have := ((SD.out k).1 h).1; omega), L8.out.small, L8.out.len⟩⟩
          have K9 := Sec.mk (K8.out.only hOn hgb)
          have R9 := Sec.mk hRd
          have O9 := Sec.mk (O8.out.trans hOn)
          obtain ⟨lr, vr, zr, yr, cr⟩ := K9.out.row i hi
          have VR := Sec.mk vr
          clear p1 hRd hOn L8 K8 R8 O8 vr
          go_wp2_with fail
          refine (pick_c w0 w8 g _ 4 R9.out (by omega)).mono ?_
          rintro e wx ⟨r, rfl, ⟨q0, q1, -⟩, hRd, hOn⟩
          have q3 := q1 (by omega)
          have L10 : Sec (LSt w SS (17 + 3 * (4 - k)) (.slice A8 l7.length c8) l7 wx) := ⟨⟨hOn.R L9.out.row (fun k h => by have := ((SD.out k).1 h).1; omega), L9.out.small, L9.out.len⟩⟩
          have K10 := Sec.mk (K9.out.only hOn hgb)
          have R10 := Sec.mk hRd
          have O10 := Sec.mk (O9.out.trans hOn)
          have VR := Sec.mk (Kd.V_move (fun k h1 h2 => ⟨h1, hOn.block k h2 (by omega)⟩) VR.out (by decide))
          clear q1 hRd hOn L9 K9 R9 O9 cr
          go_upto_if 94 with (fail)
          go_cut [11] (fun lv wc => ∃ (l : List ByteArray) (ok : Nat → Prop), Sec (kStr.V wc ok lv l) ∧ Sec ((∀ x ∈ l, x.size ≤ 1000000) ∧ ∀ q, ok q → ¬ (SS q ∧ q < wx.heap.size)) ∧ l.length ≤ 3 ∧ Sec (LSt w (fun q => SS q ∧ q < wx.heap.size) (17 + 3 * (4 - k)) (.slice A8 l7.length c8) l7 wc) ∧ Sec (Blks nb wc) ∧ Sec (Rd w0 wc g (PP + 80002)) ∧ Sec (Only g w wc))
          case first =>
            by_cases hr0 : r = 0
            · have e0 : (r == 0) = true := beq_iff_eq.2 hr0
              clear hr0
              go_wp2_with fail
              refine (l20Clause_c w0 wx g _ R10.out (by omega)).mono ?_
              rintro e wy ⟨s1, rfl, hs1, hRd, hOn⟩
              go_wp2_with fail
              refine (l20Clause_c w0 wy g _ hRd (by omega)).mono ?_
              rintro e wq ⟨s2, rfl, hs2, hRd2, hOn2⟩
              have hz1 := hOn.size
              have hz2 := hOn2.size
              have OO := hOn.trans hOn2
              have HB := belA (Below.refl wq.heap.size wq) (.cells #[.string s1, .string s2] 9)
              have VV : Sec (kStr.V (wq.alloc (.cells #[.string s1, .string s2] 9)) (fun q => q = wq.heap.size) (.slice (some ⟨wq.heap.size, 0, none⟩) [s1, s2].length [s1, s2].length) [s1, s2]) := ⟨strs_of (heap_alloc_new wq _) rfl (by simp) (fun x hx => by simp at hx; rcases hx with rfl | rfl <;> omega)⟩
              have L11 : Sec (LSt w (fun q => SS q ∧ q < wx.heap.size) (17 + 3 * (4 - k)) (.slice A8 l7.length c8) l7 (wq.alloc (.cells #[.string s1, .string s2] 9))) := ⟨⟨Kd.R_below (OO.R (Kd.R_mono L10.out.row (fun q h h2 => ⟨h, h2⟩)) (fun q h => by have := ((SD.out q).1 h.1).1; omega)) HB, L10.out.small, L10.out.len⟩⟩
              have K11 := Sec.mk ((K10.out.only OO hgb).below HB)
              have R11 := Sec.mk (hRd2.below HB)
              have O11 := Sec.mk ((O10.out.trans OO).trans (Only.of_below HB))
              have hzz : Sec (wx.heap.size ≤ wq.heap.size) := ⟨by omega⟩
              clear hRd hRd2 hOn hOn2 OO HB
              go_wp2_with fail
              go_meet
              case rel => exact ⟨[s1, s2], _, VV, ⟨fun x hx => by simp at hx; rcases hx with rfl | rfl <;> omega, fun q h h2 => by have h : q = wq.heap.size := h; have := h2.2; have := hzz.out; omega⟩, by simp, L11, K11, ⟨R11.out.mono (by omega)⟩, O11⟩
            · have e0 : (r == 0) = false := beq_eq_false_iff_ne.2 hr0
              clear hr0
              go_wp2_with fail
              go_meet
              case rel => exact ⟨lr, _, VR, ⟨fun x hx => by have := zr x hx; omega, fun q h h2 => by have := ((SD.out q).1 h2.1).2; omega⟩, yr, ⟨⟨Kd.R_mono L10.out.row (fun q h h2 => ⟨h, h2⟩), L10.out.small, L10.out.len⟩⟩, K10, ⟨R10.out.mono (by omega)⟩, O10⟩
          case rest =>
          obtain ⟨l, ok, HV, HZ, hl3, L11, K11, R11, O11⟩ := hcut
          have HVV := HV
          obtain ⟨A3, c3, hv3, -⟩ := HV.out
          subst hv3
          generalize wc = wq at *
          clear VR L10 K10 R10 O10 zr yr
          by_cases hle : (l7.length : Int) - (ls.length : Int) + (l.length : Int) ≤ 12
          · have d3 : decide ((l7.length : Int) - (ls.length : Int) + (l.length : Int) ≤ 12) = true := decide_eq_true hle
            clear hle
            go_wp2_with (at_builtin; go_loud (refine R_strs (W := wq) (by rfl) (.tmp 108) (.tmp 109) (by rfl) (by rfl) (by rfl) L11.out.row HVV.out HZ.out.2 (by omega) ?_; intro v9 w9 hR9 hg9 hr9; obtain ⟨A8, c8, rfl, -, -⟩ := Kd.R_form hR9; rw [List.length_append] at hR9; have R9 := Sec.mk hR9; have F9 := Sec.mk (Foot.of_grown hg9 hr9); clear hR9 hg9 hr9))
            go_roundw
            case rel => exact ⟨k - 1, l7 ++ l, by first | exact congrArg (Value.int .i64) (by omega) | go_num, by omega, ⟨⟨Kd.R_mono R9.out (fun q h _ => by
              rcases h with h | h
              · exact h.1
              · have := K11.out.lt; have := NBW.out; exact (SD.out q).2 ⟨by omega, .inr (by omega)⟩), fun y hy => by rcases List.mem_append.1 hy with hy | hy; exact L11.out.small y hy; exact HZ.out.1 y hy, by have := L11.out.len; simp; omega⟩⟩, ⟨K11.out.foot F9.out (fun q h => ((SD.out q).1 h.1).2)⟩, ⟨(F9.out.rd R11.out (fun q h => by have := ((SD.out q).1 h.1).1; have := WZ0.out; exact ⟨by omega, by omega⟩)).mono (by omega)⟩, ⟨F9.out.onlyOf O11.out (fun q h => ((SD.out q).1 h.1).1)⟩⟩
            case measure => simp [intOf]; omega
          · have d3 : decide ((l7.length : Int) - (ls.length : Int) + (l.length : Int) ≤ 12) = false := decide_eq_false hle
            clear hle
            go_wp2_with fail
            go_roundw
            case rel => exact ⟨k - 1, l7, by first | exact congrArg (Value.int .i64) (by omega) | go_num, by omega, ⟨⟨Kd.R_mono L11.out.row (fun q h _ => h.1), L11.out.small, by have := L11.out.len; omega⟩⟩, K11, ⟨R11.out.mono (by omega)⟩, O11⟩
            case measure => simp [intOf]; omega
        · have hst : (k = 0) ∨ (1 ≤ k ∧ ft < 2) := by omega
          clear hgo
          rcases hst with rfl | ⟨hk1, hf1⟩
          · go_wp2_with fail
            go_ret
            exact ⟨_, l7, rfl, Kd.R_mono L8.out.row (fun q h _ => ((SD.out q).1 h).1), L8.out.small, by omega, R8.out.mono (by omega), O8.out⟩
          · have d1 : decide ((k : Int) > 0) = true := decide_eq_true (by omega)
            have d2 : decide ((ft : Int) ≥ 2) = false := decide_eq_false (by omega)
            go_wp2_with fail
            go_ret
            exact ⟨_, l7, rfl, Kd.R_mono L8.out.row (fun q h _ => ((SD.out q).1 h).1), L8.out.small, by omega, R8.out.mono (by omega), O8.out⟩
end
section
open Go.RowKit
set_option linter.unusedVariables false
set_option maxRecDepth 100000
theorem gf_k : Kd.GFld kGoal (Kd.int 3) 0 (fun x => x.kind) (fun x y => { x with kind := y }) := Kd.GFld.iso _ (Kd.GFld.fst (Kd.GFld.self _)) (fun _ _ => rfl)
theorem gf_a : Kd.GFld kGoal (Kd.slice 23 kCell (by decide)) 1 (fun x => x.a) (fun x y => { x with a := y }) := Kd.GFld.iso _ (Kd.GFld.snd (Kd.GFld.fst (Kd.GFld.self _))) (fun _ _ => rfl)
theorem gf_b : Kd.GFld kGoal (Kd.slice 23 kCell (by decide)) 2 (fun x => x.b) (fun x y => { x with b := y }) := Kd.GFld.iso _ (Kd.GFld.snd (Kd.GFld.snd (Kd.GFld.fst (Kd.GFld.self _)))) (fun _ _ => rfl)
theorem gf_c : Kd.GFld kGoal (Kd.slice 23 kCell (by decide)) 3 (fun x => x.c) (fun x y => { x with c := y }) := Kd.GFld.iso _ (Kd.GFld.snd (Kd.GFld.snd (Kd.GFld.snd (Kd.GFld.self _)))) (fun _ _ => rfl)
/-- A goal in its box Y, the result's box ahead of it, the reader. -/
structure GSt (w0 w : World) (g P Y : Nat) (W : World) : Prop where
  box : ∃ (cs : List Value) (x : Goal) (S : Nat → Prop), W.heap[Y]? = some (.cells cs.toArray 100 (0, 0)) ∧ kGoal.O W S x cs ∧ ∀ k, S k → w.heap.size + 1 ≤ k ∧ k ≠ Y
  res : W.heap[w.heap.size]? = some (.cells #[.int .i64 0, .slice none 0 0, .slice none 0 0, .slice none 0 0] 100 (0, 0))
  rd : Rd w0 W g P
  only : Only g w W
  y : w.heap.size + 1 ≤ Y
section
variable {w0 w W W1 : World} {g P P1 Y : Nat}
theorem GSt.mono (h : GSt w0 w g P Y W) (hP : P ≤ P1) : GSt w0 w g P1 Y W := ⟨h.box, h.res, h.rd.mono hP, h.only, h.y⟩
theorem GSt.cells (h : GSt w0 w g P Y W) : ∃ (k : Int) (va vb vc : Value), W.cell? ⟨Y, 0, none⟩ = some (.int .i64 k) ∧ W.cell? ⟨Y, 1, none⟩ = some va ∧ W.cell? ⟨Y, 2, none⟩ = some vb ∧ W.cell? ⟨Y, 3, none⟩ = some vc ∧ ∀ j, W.frozen? ⟨Y, j, none⟩ = false := by
  obtain ⟨cs, x, S, h1, h2, h3⟩ := h.box
  obtain ⟨v1, v2, v3, rfl, -⟩ := kGoal_K (kGoal.O_K h2)
  have X := box_at h1
  exact ⟨_, _, _, _, X.2.1 0 _ rfl, X.2.1 1 _ rfl, X.2.1 2 _ rfl, X.2.1 3 _ rfl, X.2.2⟩
theorem GSt.only' (h : GSt w0 w g P Y W) (hO : Only g W W1) (hR : Rd w0 W1 g P1) (hg : g < w.heap.size) : GSt w0 w g P1 Y W1 := by
  obtain ⟨cs, x, S, h1, h2, h3⟩ := h.box
  have hy := h.y
  exact ⟨⟨cs, x, S, hO.blk h1 (by omega), hO.O h2 (fun k hk => by have := (h3 k hk).1; omega), h3⟩, hO.blk h.res (by omega), hR, h.only.trans hO, hy⟩
theorem GSt.below (h : GSt w0 w g P Y W) (hO : Below W.heap.size W W1) (hg : g < w.heap.size) : GSt w0 w g P Y W1 := h.only' (Only.of_below hO) (h.rd.below hO) hg
theorem GSt.put {j : Nat} {get : Goal → Term} {pt : Goal → Term → Goal} (F : Kd.GFld kGoal (Kd.slice 23 kCell (by decide)) j get pt) {v : Value} {t : Term} (h : GSt w0 w g P Y W) (hO : Only g W W1) (hR : Rd w0 W1 g P1) (hT : kCell.R W1 (fun k => W.heap.size ≤ k) v t) (hg : g < w.heap.size) : GSt w0 w g P1 Y (W1.setCell ⟨Y, j, none⟩ v) := by
  obtain ⟨cs, x, S, h1, h2, h3⟩ := h.box
  have hy := h.y
  have hb := h.rd.bel.size
  have h0 := h.only.size
  have h00 := hR.ge
  obtain ⟨c0, c2, v0, Sr, Sc, hl0, rfl, G⟩ := Growing.start (n0 := w.heap.size + 1) F h1 h2 h3 hy
  have hYl : Y < W.heap.size := (Array.getElem?_eq_some_iff.1 h1).1
  have G1 := G.only hO (by omega)
  have G2 := Growing.put (Sx := fun k => W.heap.size ≤ k) G1 hl0 (Foot.refl Sc W1) hT (fun k hk => .inr (.inl hk)) (fun k hk => ⟨fun e => by have := (G.mine k (.inl e)).2.1; omega, by have := (Array.getElem?_eq_some_iff.1 h.res).1; omega, by omega⟩)
  have F4 : Foot (fun k => k = Y) W1 (W1.setCell ⟨Y, j, none⟩ v) := Foot.set (S := fun k => k = Y) (Foot.refl _ _) (.inl rfl) _ _
  refine ⟨⟨_, _, _, G2.box, G2.done, fun k hk => ⟨hk.1, hk.2.2⟩⟩, ?_, ?_, ?_, hy⟩
  · exact (F4.block _ (by have := hO.size; have := (Array.getElem?_eq_some_iff.1 h.res).1; omega) (fun e => by have e : w.heap.size = Y := e; omega)).trans (hO.blk h.res (by omega))
  · exact hR.set (by omega) (by have := h.rd.bel; have := h.rd.lt; have := h.rd.ge; omega) j v
  · exact (h.only.trans hO).setNew (by omega) j v
theorem GSt.kind (h : GSt w0 w g P Y W) (k' : Int) (hg : g < w.heap.size) : GSt w0 w g P Y (W.setCell ⟨Y, 0, none⟩ (.int .i64 k')) := by
  obtain ⟨cs, x, S, h1, h2, h3⟩ := h.box
  have hy := h.y
  obtain ⟨S1, S2, c0, c1, c2, rfl, hl, k1, k2, hO1, back⟩ := gf_k.opn h2
  obtain rfl : c0 = [] := List.eq_nil_of_length_eq_zero hl
  obtain ⟨y, rfl⟩ : ∃ y, c1 = [y] := by
    have := Kd.K_len _ (Kd.O_K _ hO1)
    match c1, this with | [y], _ => exact ⟨y, rfl⟩
  have F4 : Foot (fun k => k = Y) W (W.setCell ⟨Y, 0, none⟩ (.int .i64 k')) := Foot.set (S := fun k => k = Y) (Foot.refl _ _) (.inl rfl) _ _
  have hz : (w.heap.size) < W.heap.size := (Array.getElem?_eq_some_iff.1 h.res).1
  refine ⟨⟨_, _, _, ?_, back _ (fun _ => False) k' [.int .i64 k'] (fun k hk hl => ⟨hk, F4.block k hl (h3 k (k2 k hk).1).2⟩) (fun _ h => h.elim) ?_, fun k hk => hk.elim (fun e => e.elim) (fun e => h3 k (k2 k e).1)⟩, ?_, ?_, ?_, hy⟩
  · have := box_store 0 (.int .i64 k') h1
    simpa using this
  · exact ⟨rfl, trivial⟩
  · exact (F4.block _ hz (fun e => by have e : w.heap.size = Y := e; omega)).trans h.res
  · exact h.rd.set (by omega) (by have := h.rd.bel; have := h.rd.lt; have := h.rd.ge; have := h.only; omega) 0 _
  · exact h.only.setNew (by omega) 0 _
end
set_option maxHeartbeats 8000000 in
theorem goalOr_c (w0 w : World) (g P : Nat) (n : Int) (hR : Rd w0 w g P) (hP : P ≤ 999900000) (hn : 0 ≤ n) (hn2 : n ≤ 1000000000) :
    Calls Tryz.prog 118 #[.pointer (some ⟨g, 0, none⟩), .int .i64 n] w fun e w' => ∃ (x : Goal) (cs : List Value), e = .returned (.agg cs.toArray) ∧ kGoal.O w' (fun k => w.heap.size ≤ k) x cs ∧ Rd w0 w' g (P + 20000) ∧ Only g w w' := by
  have hg := hR.lt
  have H0 := Sec.mk hR
  have hu3 := Tryz.underlying100
  have hu4 := Tryz.underlying39
  have hb0 := hR.bel.size
  clear hR
  go_enter Tryz.func118, Tryz.ntmps118
  go_wp2_with fail
  have B1 := belA (Below.refl w.heap.size w) (.cells #[.int .i64 0, .slice none 0 0, .slice none 0 0, .slice none 0 0] 100)
  refine (pick_c w0 (w.alloc (.cells #[.int .i64 0, .slice none 0 0, .slice none 0 0, .slice none 0 0] 100)) g P 5 (H0.out.below B1) (by omega)).mono ?_
  rintro e w2 ⟨r, rfl, ⟨p0, p1, -⟩, hR2, hO2⟩
  have p2 := p1 (by omega)
  have RES : w2.heap[w.heap.size]? = some (.cells #[.int .i64 0, .slice none 0 0, .slice none 0 0, .slice none 0 0] 100 (0, 0)) := hO2.blk (heap_alloc_new w _) (by omega)
  have B3 := belA (Below.refl w2.heap.size w2) (.cells #[.int .i64 (1 + r), .slice none 0 0, .slice none 0 0, .slice none 0 0] 100)
  have hz2 := hO2.size
  have hz3 : w.heap.size + 1 ≤ w2.heap.size := by simpa using hz2
  have G3 : Sec (GSt w0 w g (P + 1) w2.heap.size (w2.alloc (.cells #[.int .i64 (1 + r), .slice none 0 0, .slice none 0 0, .slice none 0 0] 100))) :=
    ⟨⟨⟨[.int .i64 (1 + r), .slice none 0 0, .slice none 0 0, .slice none 0 0], ⟨1 + r, [], [], []⟩, fun _ => False, heap_alloc_new w2 _, goal_one _ _, fun _ h => h.elim⟩, (B3.block _ (Array.getElem?_eq_some_iff.1 RES).1).trans RES, hR2.below B3, ((Only.of_below B1).trans hO2).trans (Only.of_below B3), hz3⟩⟩
  clear RES B1 B3 hR2 hO2 p1 hz2
  go_upto_block 0 with (fail)
  generalize w2.alloc (.cells #[.int .i64 (1 + r), .slice none 0 0, .slice none 0 0, .slice none 0 0] 100) = w3 at *
  generalize w2.heap.size = Y at *
  go_cut [] (fun wc => Sec (GSt w0 w g (P + 6000) Y wc))
  case first =>
    have hp9 : P ≤ 999900000 := hP
    rcases (show r = 0 ∨ r = 1 ∨ r = 2 ∨ r = 3 ∨ r = 4 by omega) with rfl | rfl | rfl | rfl | rfl
    · go_wp2_with fail
      refine (head_c w0 _ g _ G3.out.rd (by omega)).mono ?_
      rintro e w30x ⟨uq30x, tq30x, rfl, -, hT, hRd, hO⟩
      obtain ⟨AAq30x, aaq30x, rfl, -, -⟩ := Kd.R_form hT
      have G30x := Sec.mk (G3.out.put gf_a hO hRd hT hg)
      obtain ⟨kk, q1, q2, q3, d0, d1, d2, d3, df⟩ := (G3.out.only' hO hRd hg).cells
      have f1 := df 1
      clear hT hRd hO df
      go_wp2_with fail
      go_meet
      case rel => exact ⟨G30x.out.mono (by omega)⟩
    · go_wp2_with fail
      refine (term_c w0 _ g _ 6 5 G3.out.rd (by omega) (by omega) (by omega)).mono ?_
      rintro e w30x ⟨uq30x, tq30x, rfl, hT, -, -, -, hRd, hO⟩
      obtain ⟨AAq30x, aaq30x, rfl, -, -⟩ := Kd.R_form hT
      have G30x := Sec.mk (G3.out.put gf_a hO hRd hT hg)
      obtain ⟨kk, q1, q2, q3, d0, d1, d2, d3, df⟩ := (G3.out.only' hO hRd hg).cells
      have f1 := df 1
      clear hT hRd hO df
      go_wp2_with fail
      refine (term_c w0 _ g _ 6 5 G30x.out.rd (by omega) (by omega) (by omega)).mono ?_
      rintro e w31x ⟨uq31x, tq31x, rfl, hT, -, -, -, hRd, hO⟩
      obtain ⟨AAq31x, aaq31x, rfl, -, -⟩ := Kd.R_form hT
      have G31x := Sec.mk (G30x.out.put gf_b hO hRd hT hg)
      obtain ⟨kk, q1, q2, q3, d0, d1, d2, d3, df⟩ := (G30x.out.only' hO hRd hg).cells
      have f1 := df 2
      clear hT hRd hO df
      go_wp2_with fail
      go_meet
      case rel => exact ⟨G31x.out.mono (by omega)⟩
    · go_wp2_with fail
      go_meet
      case rel => exact ⟨G3.out.mono (by omega)⟩
    · go_wp2_with fail
      refine (term_c w0 _ g _ 6 5 G3.out.rd (by omega) (by omega) (by omega)).mono ?_
      rintro e w30x ⟨uq30x, tq30x, rfl, hT, -, -, -, hRd, hO⟩
      obtain ⟨AAq30x, aaq30x, rfl, -, -⟩ := Kd.R_form hT
      have G30x := Sec.mk (G3.out.put gf_a hO hRd hT hg)
      obtain ⟨kk, q1, q2, q3, d0, d1, d2, d3, df⟩ := (G3.out.only' hO hRd hg).cells
      have f1 := df 1
      clear hT hRd hO df
      go_wp2_with fail
      refine (term_c w0 _ g _ 6 5 G30x.out.rd (by omega) (by omega) (by omega)).mono ?_
      rintro e w31x ⟨uq31x, tq31x, rfl, hT, -, -, -, hRd, hO⟩
      obtain ⟨AAq31x, aaq31x, rfl, -, -⟩ := Kd.R_form hT
      have G31x := Sec.mk (G30x.out.put gf_b hO hRd hT hg)
      obtain ⟨kk, q1, q2, q3, d0, d1, d2, d3, df⟩ := (G30x.out.only' hO hRd hg).cells
      have f1 := df 2
      clear hT hRd hO df
      go_wp2_with fail
      go_meet
      case rel => exact ⟨G31x.out.mono (by omega)⟩
    · go_wp2_with fail
      refine (term_c w0 _ g _ 3 5 G3.out.rd (by omega) (by omega) (by omega)).mono ?_
      rintro e w30x ⟨uq30x, tq30x, rfl, hT, -, -, -, hRd, hO⟩
      obtain ⟨AAq30x, aaq30x, rfl, -, -⟩ := Kd.R_form hT
      have G30x := Sec.mk (G3.out.put gf_a hO hRd hT hg)
      obtain ⟨kk, q1, q2, q3, d0, d1, d2, d3, df⟩ := (G3.out.only' hO hRd hg).cells
      have f1 := df 1
      clear hT hRd hO df
      go_wp2_with fail
      refine (term_c w0 _ g _ 3 5 G30x.out.rd (by omega) (by omega) (by omega)).mono ?_
      rintro e w31x ⟨uq31x, tq31x, rfl, hT, -, -, -, hRd, hO⟩
      obtain ⟨AAq31x, aaq31x, rfl, -, -⟩ := Kd.R_form hT
      have G31x := Sec.mk (G30x.out.put gf_b hO hRd hT hg)
      obtain ⟨kk, q1, q2, q3, d0, d1, d2, d3, df⟩ := (G30x.out.only' hO hRd hg).cells
      have f1 := df 2
      clear hT hRd hO df
      go_wp2_with fail
      refine (term_c w0 _ g _ 3 5 G31x.out.rd (by omega) (by omega) (by omega)).mono ?_
      rintro e w32x ⟨uq32x, tq32x, rfl, hT, -, -, -, hRd, hO⟩
      obtain ⟨AAq32x, aaq32x, rfl, -, -⟩ := Kd.R_form hT
      have G32x := Sec.mk (G31x.out.put gf_c hO hRd hT hg)
      obtain ⟨kk, q1, q2, q3, d0, d1, d2, d3, df⟩ := (G31x.out.only' hO hRd hg).cells
      have f1 := df 3
      clear hT hRd hO df
      go_wp2_with fail
      go_meet
      case rel => exact ⟨G32x.out.mono (by omega)⟩
  case rest =>
  have G4 := hcut
  generalize wc = w4 at *
  clear G3 hcut
  go_wp2_with fail
  refine (odd_c w0 w4 g _ n G4.out.rd (by omega) hn hn2).mono ?_
  rintro e w5 ⟨b, rfl, hRd, hO⟩
  have G5 := Sec.mk (G4.out.only' hO hRd hg)
  clear hRd hO G4
  go_upto_if 39 with (fail)
  go_cut [] (fun wc => Sec (GSt w0 w g (P + 20000) Y wc))
  case first =>
    cases b with
    | false =>
      go_wp2_with fail
      go_meet
      case rel => exact ⟨G5.out.mono (by omega)⟩
    | true =>
      go_wp2_with fail
      refine (pick_c w0 w5 g _ 5 G5.out.rd (by omega)).mono ?_
      rintro e w6 ⟨r6, rfl, ⟨s0, s1, -⟩, hRd, hO⟩
      have s2 := s1 (by omega)
      have G6 := Sec.mk (G5.out.only' hO hRd hg)
      have z6 : g < w6.heap.size := by have := hO.size; have := G5.out.only.size; omega
      clear hRd hO G5 s1
      rcases (show r6 = 0 ∨ r6 = 1 ∨ r6 = 2 ∨ r6 = 3 ∨ r6 = 4 by omega) with rfl | rfl | rfl | rfl | rfl
      · go_wp2_with fail
        refine (pick_c w0 w6 g _ 5 G6.out.rd (by omega)).mono ?_
        rintro e w8 ⟨r8, rfl, ⟨a0, a1, -⟩, hRd, hO⟩
        have a2 := a1 (by omega)
        have G8 := Sec.mk (G6.out.only' hO hRd hg)
        have z8 : g < w8.heap.size := by have := hO.size; omega
        clear hRd hO G6 a1
        go_wp2_with fail
        have HB := belA (Below.refl w8.heap.size w8) (.cells #[.int .i64 0, .int .i64 6, .int .i64 7, .int .i64 (1 + r8)] 3)
        have G9 := Sec.mk (G8.out.below HB hg)
        refine (pick_c w0 (w8.alloc (.cells #[.int .i64 0, .int .i64 6, .int .i64 7, .int .i64 (1 + r8)] 3)) g _ 4 G9.out.rd (by omega)).mono ?_
        rintro e w9 ⟨r9, rfl, ⟨b0, b1, -⟩, hRd, hO⟩
        have b2 := b1 (by omega)
        have X := (box_at (hO.blk (heap_alloc_new w8 (.cells #[.int .i64 0, .int .i64 6, .int .i64 7, .int .i64 (1 + r8)] 3)) (by omega))).2.1
        have c0 := X 0 _ rfl
        have c1 := X 1 _ rfl
        have c2 := X 2 _ rfl
        have c3 := X 3 _ rfl
        have G10 := Sec.mk (G9.out.only' hO hRd hg)
        obtain ⟨kk, q1, q2, q3, d0, d1, d2, d3, df⟩ := G10.out.cells
        have f1 := df 0
        clear hRd hO HB X b1 df G9 G8
        rcases (show r9 = 0 ∨ r9 = 1 ∨ r9 = 2 ∨ r9 = 3 by omega) with rfl | rfl | rfl | rfl
        · go_wp2_with fail
          go_meet
          case rel => exact ⟨(G10.out.kind _ hg).mono (by omega)⟩
        · go_wp2_with fail
          go_meet
          case rel => exact ⟨(G10.out.kind _ hg).mono (by omega)⟩
        · go_wp2_with fail
          go_meet
          case rel => exact ⟨(G10.out.kind _ hg).mono (by omega)⟩
        · go_wp2_with fail
          go_meet
          case rel => exact ⟨(G10.out.kind _ hg).mono (by omega)⟩
      · go_wp2_with fail
        refine (termOr_c w0 _ g _ 1 G6.out.rd (by omega) (by omega) (by omega)).mono ?_
        rintro e w60x ⟨uq60x, tq60x, rfl, hT, -, -, hRd, hO⟩
        obtain ⟨AAq60x, aaq60x, rfl, -, -⟩ := Kd.R_form hT
        have G60x := Sec.mk (G6.out.put gf_a hO hRd hT hg)
        obtain ⟨kk, q1, q2, q3, d0, d1, d2, d3, df⟩ := (G6.out.only' hO hRd hg).cells
        have f1 := df 1
        clear hT hRd hO df
        go_wp2_with fail
        go_meet
        case rel => exact ⟨G60x.out.mono (by omega)⟩
      · have HB := belA (Below.refl w6.heap.size w6) (.cells #[.int .i64 1, .int .i64 8, .string ⟨#[]⟩] 39)
        have G8 := Sec.mk (G6.out.put gf_b (Only.of_below HB) (G6.out.rd.below HB) (R_lit (t := [⟨1, 8, ⟨#[]⟩⟩]) (heap_alloc_new w6 (.cells #[.int .i64 1, .int .i64 8, .string ⟨#[]⟩] 39)) (Nat.le_refl _) rfl (by decide) (by decide)) hg)
        obtain ⟨kk, q1, q2, q3, d0, d1, d2, d3, df⟩ := (G6.out.below HB hg).cells
        have f1 := df 2
        clear HB df
        go_wp2_with fail
        go_meet
        case rel => exact ⟨G8.out.mono (by omega)⟩
      · have HB := belA (Below.refl w6.heap.size w6) (.cells #[.int .i64 2, .int .i64 0, .string ⟨#[]⟩] 39)
        have G8 := Sec.mk (G6.out.put gf_c (Only.of_below HB) (G6.out.rd.below HB) (R_lit (t := [⟨2, 0, ⟨#[]⟩⟩]) (heap_alloc_new w6 (.cells #[.int .i64 2, .int .i64 0, .string ⟨#[]⟩] 39)) (Nat.le_refl _) rfl (by decide) (by decide)) hg)
        obtain ⟨kk, q1, q2, q3, d0, d1, d2, d3, df⟩ := (G6.out.below HB hg).cells
        have f1 := df 3
        clear HB df
        go_wp2_with fail
        go_meet
        case rel => exact ⟨G8.out.mono (by omega)⟩
      · have HB := belA (Below.refl w6.heap.size w6) (.cells #[.int .i64 2, .int .i64 3, .string ⟨#[]⟩] 39)
        have G8 := Sec.mk (G6.out.put gf_a (Only.of_below HB) (G6.out.rd.below HB) (R_lit (t := [⟨2, 3, ⟨#[]⟩⟩]) (heap_alloc_new w6 (.cells #[.int .i64 2, .int .i64 3, .string ⟨#[]⟩] 39)) (Nat.le_refl _) rfl (by decide) (by decide)) hg)
        obtain ⟨kk, q1, q2, q3, d0, d1, d2, d3, df⟩ := (G6.out.below HB hg).cells
        have f1 := df 1
        clear HB df
        go_wp2_with fail
        go_meet
        case rel => exact ⟨G8.out.mono (by omega)⟩
  case rest =>
  have G7 := hcut
  generalize wc = w7 at *
  obtain ⟨cs, x, S, h1, h2, h3⟩ := G7.out.box
  obtain ⟨v1, v2, v3, rfl, -⟩ := kGoal_K (kGoal.O_K h2)
  have X := (box_at h1).2.1
  have z0 := X 0 _ rfl
  have z1 := X 1 _ rfl
  have z2 := X 2 _ rfl
  have z3 := X 3 _ rfl
  have H2 := Sec.mk h2
  have H3 := Sec.mk h3
  clear X h2 h3 h1
  go_wp2_with (with_reducible show wpList _ _ _ (⟨none, .store 100 (.tmp 4) (.tmp 71), _, _, _, _⟩ :: _) _ _; go_loud (refine wpList_store (cs := [.int .i64 x.kind, v1, v2, v3]) (old := #[.int .i64 0, .slice none 0 0, .slice none 0 0, .slice none 0 0]) rfl 100 (.tmp 4) (.tmp 71) rfl rfl rfl G7.out.res (by kernel_rfl) rfl (kGoal.K_one (kGoal.O_K H2.out)) ?_; intro w8 hb8 hF8; have B8 := Sec.mk hb8; have F8 := Sec.mk hF8; clear hb8 hF8))
  refine bodyPost_ret (results_cell rfl rfl B8.out hu3 rfl (by kernel_rfl)) rfl ?_
  have hy := G7.out.y
  exact ⟨x, _, rfl, Kd.O_mono (F8.out.O H2.out (fun k hk e => by have e : k = w.heap.size := e; have := (H3.out k hk).1; omega)) (fun k hk _ => by have := (H3.out k hk).1; omega), F8.out.rd G7.out.rd (fun k e => by have e : k = w.heap.size := e; omega), F8.out.onlyOf G7.out.only (fun k e => Nat.le_of_eq (show k = w.heap.size from e).symm)⟩
end
section
open Go.RowKit
set_option linter.unusedVariables false
set_option maxRecDepth 100000
set_option maxHeartbeats 4000000 in
theorem prog_c (w0 w : World) (g P : Nat) (hR : Rd w0 w g P) (hP : P ≤ 999300000) :
    Calls Tryz.prog 115 #[.pointer (some ⟨g, 0, none⟩)] w fun e w' => ∃ (p : Prog) (cs : List Value), e = .returned (.agg cs.toArray) ∧ kProg.O w' (fun k => w.heap.size ≤ k) p cs ∧ prgOk p = true ∧ Rd w0 w' g (P + 500000) ∧ Only g w w' := by
  have hg := hR.lt
  have H0 := Sec.mk hR
  have hu2 := Tryz.underlying28
  have hz0 := hR.bel.size
  clear hR
  go_enter Tryz.func115, Tryz.ntmps115
  go_wp2_with fail
  have B1 := belA (Below.refl w.heap.size w) (.cells #[.slice none 0 0, .slice none 0 0] 28)
  have X1 := heap_alloc_new w (.cells #[.slice none 0 0, .slice none 0 0] 28)
  have Z1 : (w.alloc (.cells #[.slice none 0 0, .slice none 0 0] 28)).heap.size = w.heap.size + 1 := by simp
  refine (lines_c w0 (w.alloc (.cells #[.slice none 0 0, .slice none 0 0] 28)) g P (H0.out.below B1) (by omega)).mono ?_
  rintro e w2 ⟨u, ls, rfl, hU, hs, hl, hR2, hO2⟩
  have X2 := hO2.blk X1 (by omega)
  have O2 := (Only.of_below B1).trans hO2
  obtain ⟨A9, c9, rfl, -, -⟩ := Kd.R_form hU
  have U2 := Sec.mk (Kd.R_V hU)
  have S2 : Sec (∀ x ∈ ls, x.size ≤ 100000000) := ⟨fun x hx => by have := hs x hx; omega⟩
  have R2 := Sec.mk hR2
  have P2 := Sec.mk X2
  have Q2 := Sec.mk O2
  clear B1 X1 hU hs hR2 hO2 X2 O2 Z1
  go_wp2_with fail
  refine (PrgParse_c _ ls _ w2 U2.out S2.out).mono ?_
  rintro e w3 ⟨p, cs, k, rfl, hO, hok, hB3⟩
  obtain ⟨v1, v2, rfl, k1, k2⟩ := kProg_K (kProg.O_K hO)
  obtain ⟨A1, n1, rfl, -⟩ := k1
  obtain ⟨A2, n2, rfl, -⟩ := k2
  have B4 := belA (Below.refl w3.heap.size w3) (.cells #[.slice A1 p.clauses.length n1, .slice A2 p.places.length n2] 28)
  have BB := bel hB3 B4
  have zw := Q2.out.size
  have P4 := Sec.mk ((BB.block _ (Array.getElem?_eq_some_iff.1 P2.out).1).trans P2.out)
  have R4 := Sec.mk (R2.out.below BB)
  have O4 := Sec.mk (Q2.out.trans (Only.of_below BB))
  have hlt2 : w.heap.size < w2.heap.size := (Array.getElem?_eq_some_iff.1 P2.out).1
  have HO4 := Sec.mk (Kd.O_below (Kd.O_mono hO (S1 := fun k => w.heap.size + 1 ≤ k) (fun k h _ => by omega)) B4)
  have X := (box_at (heap_alloc_new w3 (.cells #[.slice A1 p.clauses.length n1, .slice A2 p.places.length n2] 28))).2.1
  have y0 := X 0 _ rfl
  have y1 := X 1 _ rfl
  have OK := Sec.mk hok
  clear hO hok hB3 B4 BB X
  go_wp2_with (with_reducible show wpList _ _ _ (⟨none, .store 28 (.tmp 2) (.tmp 11), _, _, _, _⟩ :: _) _ _; go_loud (refine wpList_store (cs := [.slice A1 p.clauses.length n1, .slice A2 p.places.length n2]) (old := #[.slice none 0 0, .slice none 0 0]) rfl 28 (.tmp 2) (.tmp 11) rfl rfl rfl P4.out (by kernel_rfl) rfl (kProg.K_one (kProg.O_K HO4.out)) ?_; intro w8 hb8 hF8; have B8 := Sec.mk hb8; have F8 := Sec.mk hF8; clear hb8 hF8))
  refine bodyPost_ret (results_cell rfl rfl B8.out hu2 rfl (by kernel_rfl)) rfl ?_
  exact ⟨p, _, rfl, Kd.O_mono (F8.out.O HO4.out (fun k h e => by have e : k = w.heap.size := e; omega)) (fun k h _ => by omega), OK.out, F8.out.rd R4.out (fun k e => by have e : k = w.heap.size := e; omega), F8.out.onlyOf O4.out (fun k e => Nat.le_of_eq (show k = w.heap.size from e).symm)⟩
end
section
open Go.RowKit
set_option linter.unusedVariables false
set_option maxRecDepth 100000
theorem gf_clauses : Kd.GFld kProg (Kd.slice 25 kClause (by decide)) 0 (fun x => x.clauses) (fun x y => { x with clauses := y }) := Kd.GFld.iso _ (Kd.GFld.fst (Kd.GFld.self _)) (fun _ _ => rfl)
end
end Go.Proofs.YtgiobpggonceeaaGreatDoor
