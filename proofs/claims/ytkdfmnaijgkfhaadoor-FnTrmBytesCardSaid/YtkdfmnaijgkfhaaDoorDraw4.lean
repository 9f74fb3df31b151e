/- Contracts: a term in bytes. -/
import Derived.Test.YtkdfmnaijgkfhaaDoorDraw3
import Derived.Deep.RegionHeld3
namespace Go.Proofs.YtkdfmnaijgkfhaaDoor
open Go.RowKit
set_option linter.unusedVariables false
set_option maxRecDepth 100000
def cellBytes (x : Cell) : List UInt8 := u8 x.kind :: (num3 x.n ++ (if x.kind = 3 then u8 x.name.size :: x.name.data.toList else []))
def trmBytes (t : Term) : List UInt8 := if trmOk t = true then u8 t.length :: t.flatMap cellBytes else []
theorem cellOk_nums {x : Cell} (h : cellOk x = true) : 1 ≤ x.kind ∧ x.kind ≤ 3 ∧ -9999 ≤ x.n ∧ x.n ≤ 99999 := by
  unfold cellOk at h
  split at h
  · simp [inB] at h; omega
  · split at h
    · simp [inB] at h; omega
    · split at h
      · simp [inB] at h; omega
      · cases h
theorem cellOk_name {x : Cell} (h : cellOk x = true) (h3 : x.kind = 3) : x.name.size ≤ 8 := by
  unfold cellOk at h
  rw [if_neg (by omega), if_neg (by omega), if_pos h3] at h
  simp [nameOk] at h
  omega
theorem cellBytes_len {x : Cell} (h : cellOk x = true) : (cellBytes x).length ≤ 13 := by
  unfold cellBytes
  by_cases h3 : x.kind = 3
  · have := cellOk_name h h3
    have e : x.name.data.toList.length = x.name.size := by simp
    rw [if_pos h3]
    simp only [List.length_cons, List.length_append, num3, e, List.length_nil]
    omega
  · rw [if_neg h3]
    simp [num3]
theorem bytes_len : ∀ {t : Term}, t.all cellOk = true → (t.flatMap cellBytes).length ≤ 13 * t.length
  | [], _ => by simp
  | x :: t, h => by
    rw [List.all_cons, Bool.and_eq_true] at h
    have h1 := cellBytes_len h.1
    have h2 := bytes_len h.2
    rw [List.flatMap_cons, List.length_append, List.length_cons]
    omega
theorem trmOk_all {t : Term} (h : trmOk t = true) : t.length ≤ 40 ∧ t.all cellOk = true := by
  unfold trmOk at h
  simp only [Bool.and_eq_true, decide_eq_true_eq] at h
  exact ⟨h.1.1.2, h.1.2⟩
theorem trmBytes_len (t : Term) : (trmBytes t).length ≤ 600 := by
  unfold trmBytes
  split
  · next h =>
    obtain ⟨h1, h2⟩ := trmOk_all h
    have := bytes_len h2
    rw [List.length_cons]; omega
  · simp
theorem take_flat {α β : Type} (f : α → List β) (l : List α) (k : Nat) (h : k < l.length) : (l.take (k + 1)).flatMap f = (l.take k).flatMap f ++ f l[k] := by
  rw [List.take_succ_eq_append_getElem h, List.flatMap_append]; simp
theorem cells_at {w : World} {ok : Nat → Prop} {b off : Nat} {xs : Term} (h : kCell.C w ok (some ⟨b, off, none⟩) xs) (i : Nat) (hi : i < xs.length) :
    w.cell? ⟨b, off + i * 3, none⟩ = some (.int .i64 xs[i].kind) ∧ w.cell? ⟨b, off + i * 3 + 1, none⟩ = some (.int .i64 xs[i].n) ∧ w.cell? ⟨b, off + i * 3 + 2, none⟩ = some (.string xs[i].name) ∧ b < w.heap.size := by
  obtain ⟨b', off', hA, _, c0, c1, c2, _⟩ := cell_at h i hi
  simp only [Option.some.injEq, Addr.mk.injEq, and_true] at hA
  obtain ⟨rfl, rfl⟩ := hA
  refine ⟨c0, c1, c2, ?_⟩
  have h1 := c0
  simp only [World.cell?] at h1
  cases hb : w.heap[b]? with
  | none => simp [hb] at h1
  | some o => exact (Array.getElem?_eq_some_iff.1 hb).1
def TB (w : World) (bs : List UInt8) (e : Ending) (w' : World) : Prop := ∃ u, e = .returned u ∧ kByte.R w' (fun k => w.heap.size ≤ k) u bs ∧ Below w.heap.size w w'
theorem TrmBytes_c (w : World) (v : Value) (t : Term) (ok : Nat → Prop) (hV : kCell.V w ok v t) :
    Calls Tryd.prog 9 #[v] w (TB w (trmBytes t)) := by
  have hu := Tryd.underlying55
  have H0 := Sec.mk (TrmOk_c v t ok w hV)
  obtain ⟨A, c, rfl, h1, h2, h3, hC, _⟩ := hV
  have HC := Sec.mk hC
  clear hC
  by_cases hT : trmOk t = true
  · have ha := Sec.mk (trmOk_all hT)
    have hres : Sec (trmBytes t = u8 t.length :: t.flatMap cellBytes) := ⟨if_pos hT⟩
    rw [hT] at H0
    clear hT
    go_enter Tryd.func9, Tryd.ntmps9
    go_wp2_with fail
    refine H0.out.mono ?_
    rintro e w1 ⟨rfl, hb1⟩
    have B1 := Sec.mk hb1
    clear hb1
    go_wp2
    go_loopw [3, 4] (fun v i wr => ∃ k : Nat, k ≤ t.length ∧ i = .int .i64 k ∧ Sec (kByte.R wr (fun k => w.heap.size ≤ k) v (u8 t.length :: (t.take k).flatMap cellBytes)) ∧ Sec (Below w.heap.size w wr)) (fun _ i _ => t.length - (intOf i).toNat)
    case atStart => exact ⟨0, Nat.zero_le _, rfl, ⟨kByte_new w1 w.heap.size B1.out.size [t.length] (by simp)⟩, ⟨belA B1.out _⟩⟩
    case round =>
      obtain ⟨k, hk, rfl, hR, hb⟩ := hrel
      by_cases hlt : k < t.length
      · obtain ⟨b, off, rfl, hob, -, -, -, hnm⟩ := cell_at HC.out k hlt
        obtain ⟨c0, c1, c2, hbb⟩ := cells_at (Kd.C_below HC.out hb.out (by decide)) k hlt
        have hok : Sec (cellOk t[k] = true) := ⟨List.all_eq_true.1 ha.out.2 _ (List.getElem_mem hlt)⟩
        have hlen : Sec ((u8 t.length :: (t.take k).flatMap cellBytes).length ≤ 521) := ⟨by
          have h1 := ha.out.1
          have h2 := bytes_len (t := t.take k) (List.all_eq_true.2 fun x hx => List.all_eq_true.1 ha.out.2 x (List.mem_of_mem_take hx))
          rw [List.length_take] at h2
          rw [List.length_cons]; omega⟩
        have hT2 : Sec (u8 t.length :: (t.take (k + 1)).flatMap cellBytes = (u8 t.length :: (t.take k).flatMap cellBytes) ++ cellBytes t[k]) := ⟨by rw [take_flat _ _ _ hlt]; rfl⟩
        have hcat : Sec (∀ W : World, Below w.heap.size w W → kCell.C W ok (some ⟨b, off, none⟩) t) := ⟨fun W h => Kd.C_below HC.out h (by decide)⟩
        have hat : Sec (∀ W : World, Below w.heap.size w W → W.cell? ⟨b, off + k * 3, none⟩ = some (.int .i64 t[k].kind) ∧ W.cell? ⟨b, off + k * 3 + 1, none⟩ = some (.int .i64 t[k].n) ∧ W.cell? ⟨b, off + k * 3 + 2, none⟩ = some (.string t[k].name) ∧ b < W.heap.size) := ⟨fun W h => cells_at (hcat.out W h) k hlt⟩
        have hnum := Sec.mk (cellOk_nums hok.out)
        generalize t[k] = x at *
        generalize hbs : u8 t.length :: (t.take k).flatMap cellBytes = bs at *
        clear hbs
        obtain ⟨A9, c9, hv9, _⟩ := Kd.R_form hR.out
        subst hv9
        by_cases hx : x.kind = 3
        · have hx' : (x.kind == 3) = true := beq_iff_eq.2 hx
          have hcb : Sec (cellBytes x = u8 x.kind :: (num3 x.n ++ u8 x.name.size :: x.name.data.toList)) := ⟨by unfold cellBytes; rw [if_pos hx]⟩
          have hn8 := Sec.mk (cellOk_name hok.out hx)
          clear hx
          go_wp2_with (first
            | (at_builtin; refine B_app (B := w.heap.size) rfl (.tmp 19) (.tmp 26) 24 rfl Tryd.underlying24 info_byte _ bs x.kind rfl rfl rfl hR.out hb.out.size (by have := hlen.out; omega) ?_; intro v1 w2 hR1 hg1 hr1; have S1 := Sec.mk hR1; have B2 := Sec.mk (hb.out.grown hg1 hb.out.size hr1); obtain ⟨d0, d1, d2, hbb1⟩ := hat.out _ B2.out; clear hR1 hg1 hr1 c0 c1 c2)
            | (go_at_call 38; refine (l6Put_c w2 v1 _ x.n _ (Kd.R_V S1.out) (by have := hlen.out; simp; omega) (by have := hnum.out; omega) (by have := hnum.out; omega)).mono ?_; rintro e w3 ⟨v3, rfl, hR3, hb3⟩; have B3 := Sec.mk (bel B2.out hb3); have S3 := Sec.mk (Kd.R_mono hR3 (S1 := fun k => w.heap.size ≤ k) (fun k h _ => Nat.le_trans B2.out.size h)); obtain ⟨e0, e1, e2, hbb3⟩ := hat.out _ B3.out; clear hR3 hb3 d0 d1 d2))
          have S3d := Sec.mk (Kd.R_below S3.out (belD (Below.refl _ _)))
          have B3d := Sec.mk (belD B3.out)
          have L3 : Sec ((bs ++ [u8 x.kind] ++ num3 x.n).length ≤ 540) := ⟨by have := hlen.out; simp [num3]; omega⟩
          have hT3 : Sec (∀ ys, bs ++ [u8 x.kind] ++ num3 x.n ++ [u8 x.name.size] ++ ys = bs ++ (u8 x.kind :: (num3 x.n ++ u8 x.name.size :: ys))) := ⟨fun ys => by simp⟩
          generalize bs ++ [u8 x.kind] ++ num3 x.n = b3 at *
          have L4 : Sec ((b3 ++ [u8 x.name.size]).length ≤ 541) := ⟨by have := L3.out; simp; omega⟩
          go_region_held3 (fun W => W.cell? ⟨b, off + k * 3 + 2, none⟩ = some (.string x.name)) (first | assumption | go_keep) (first
            | (refine step_of rfl (fun Q9 h9 => ?_); refine B_app (B := w.heap.size) rfl (.tmp 41) (.tmp 49) 24 rfl Tryd.underlying24 info_byte _ b3 x.name.size (by rfl) (by rfl) (by rfl) S3.out B3.out.size (by have := L3.out; omega) ?_; intro v4 w4 hR4 hg4 hr4; have S4 := Sec.mk hR4; have B4 := Sec.mk (B3.out.grown hg4 B3.out.size hr4); have S4d := Sec.mk (Kd.R_below S4.out (belD (Below.refl _ _))); have B4d := Sec.mk (belD B4.out); obtain ⟨f0, f1, f2, fbb⟩ := hat.out _ B4.out; clear hR4 hg4 hr4; refine h9 _ _ ?_; clear h9 Q9)
            | (refine step_of rfl (fun Q9 h9 => ?_); refine B_app (B := w.heap.size) rfl (.tmp 41) (.tmp 49) 24 rfl Tryd.underlying24 info_byte _ b3 x.name.size (by rfl) (by rfl) (by rfl) S3d.out B3d.out.size (by have := L3.out; omega) ?_; intro v4 w4 hR4 hg4 hr4; have S4 := Sec.mk hR4; have B4 := Sec.mk (B3d.out.grown hg4 B3d.out.size hr4); have S4d := Sec.mk (Kd.R_below S4.out (belD (Below.refl _ _))); have B4d := Sec.mk (belD B4.out); obtain ⟨f0, f1, f2, fbb⟩ := hat.out _ B4.out; clear hR4 hg4 hr4; refine h9 _ _ ?_; clear h9 Q9)
            | (refine step_of rfl (fun Q9 h9 => ?_); refine B_str (B := w.heap.size) rfl (.tmp 50) (.tmp 55) 24 9 rfl Tryd.underlying24 (by kernel_rfl) info_byte _ _ x.name (by rfl) (by rfl) S4.out B4.out.size (by have := L4.out; have := hn8.out; omega) ?_; intro v5 w5 hR5 hg5 hr5; have S5 := Sec.mk hR5; have B5 := Sec.mk (B4.out.grown hg5 B4.out.size hr5); obtain ⟨f0, f1, f2, fbb⟩ := hat.out _ B5.out; clear hR5 hg5 hr5; refine h9 _ _ ?_; clear h9 Q9)
            | (refine step_of rfl (fun Q9 h9 => ?_); refine B_str (B := w.heap.size) rfl (.tmp 50) (.tmp 55) 24 9 rfl Tryd.underlying24 (by kernel_rfl) info_byte _ _ x.name (by rfl) (by rfl) S4d.out B4d.out.size (by have := L4.out; have := hn8.out; omega) ?_; intro v5 w5 hR5 hg5 hr5; have S5 := Sec.mk hR5; have B5 := Sec.mk (B4d.out.grown hg5 B4d.out.size hr5); obtain ⟨f0, f1, f2, fbb⟩ := hat.out _ B5.out; clear hR5 hg5 hr5; refine h9 _ _ ?_; clear h9 Q9))
          go_wp2
          go_roundw
          case rel => exact ⟨k + 1, by omega, by go_num, ⟨by rw [hT2.out, hcb.out, ← hT3.out]; exact S5.out⟩, B5⟩
          case measure => simp [intOf]; omega
        · have hx' : (x.kind == 3) = false := beq_eq_false_iff_ne.2 hx
          have hcb : Sec (cellBytes x = u8 x.kind :: num3 x.n) := ⟨by unfold cellBytes; rw [if_neg hx, List.append_nil]⟩
          clear hx
          go_wp2_with (first
            | (at_builtin; refine B_app (B := w.heap.size) rfl (.tmp 19) (.tmp 26) 24 rfl Tryd.underlying24 info_byte _ bs x.kind rfl rfl rfl hR.out hb.out.size (by have := hlen.out; omega) ?_; intro v1 w2 hR1 hg1 hr1; have S1 := Sec.mk hR1; have B2 := Sec.mk (hb.out.grown hg1 hb.out.size hr1); obtain ⟨d0, d1, d2, hbb1⟩ := hat.out _ B2.out; clear hR1 hg1 hr1 c0 c1 c2)
            | (go_at_call 38; refine (l6Put_c w2 v1 _ x.n _ (Kd.R_V S1.out) (by have := hlen.out; simp; omega) (by have := hnum.out; omega) (by have := hnum.out; omega)).mono ?_; rintro e w3 ⟨v3, rfl, hR3, hb3⟩; have B3 := Sec.mk (bel B2.out hb3); have S3 := Sec.mk (Kd.R_mono hR3 (S1 := fun k => w.heap.size ≤ k) (fun k h _ => Nat.le_trans B2.out.size h)); obtain ⟨e0, e1, e2, hbb3⟩ := hat.out _ B3.out; clear hR3 hb3 d0 d1 d2))
          go_roundw
          case rel => exact ⟨k + 1, by omega, by go_num, ⟨by rw [hT2.out, hcb.out]; have := S3.out; simpa using this⟩, B3⟩
          case measure => simp [intOf]; omega
      · have hk' : Sec (t.flatMap cellBytes = (t.take k).flatMap cellBytes) := ⟨by rw [List.take_of_length_le (by omega)]⟩
        go_wp2
        go_ret
        exact ⟨_, rfl, by rw [hres.out, hk'.out]; exact hR.out, hb.out⟩
  · have hT' : trmOk t = false := by simpa using hT
    have hres : Sec (trmBytes t = []) := ⟨if_neg hT⟩
    rw [hT'] at H0
    clear hT hT'
    go_enter Tryd.func9, Tryd.ntmps9
    go_wp2_with fail
    refine H0.out.mono ?_
    rintro e w1 ⟨rfl, hb1⟩
    have B1 := Sec.mk hb1
    clear hb1
    go_wp2
    go_ret
    exact ⟨_, rfl, by rw [hres.out]; exact Kd.R_empty kByte B1.out.size, belA B1.out _⟩
end Go.Proofs.YtkdfmnaijgkfhaaDoor
