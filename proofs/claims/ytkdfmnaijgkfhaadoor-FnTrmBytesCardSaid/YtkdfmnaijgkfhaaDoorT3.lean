/- Contracts: a term read from bytes, by the reference. -/
import Derived.Test.YtkdfmnaijgkfhaaDoorT2
import Derived.Test.YtkdfmnaijgkfhaaDoorRaw
namespace Go.Proofs.YtkdfmnaijgkfhaaDoor
open Go.RowKit
set_option linter.unusedVariables false
set_option maxRecDepth 100000
/-- So many places, read one behind the other. -/
def cellsD (bs : List UInt8) : Nat → Nat → Option (Term × Nat)
  | 0, at_ => some ([], at_)
  | m + 1, at_ => match cellD bs at_ with
    | none => none
    | some (c, nx) => match cellsD bs m nx with
      | none => none
      | some (t, e) => some (c :: t, e)
/-- A term read at a place, and where that ends. -/
def termD (bs : List UInt8) (at_ : Nat) : Option (Term × Nat) :=
  if h : at_ < bs.length then match cellsD bs bs[at_].toNat (at_ + 1) with
    | none => none
    | some (t, e) => if trmOk t = true then some (t, e) else none
  else none
theorem cellD_to {bs : List UInt8} {k : Nat} {c : Cell} {nx : Nat} (h : cellD bs k = some (c, nx)) : nx ≤ bs.length ∧ k + 4 ≤ nx ∧ c.name.size ≤ 255 := by
  unfold cellD at h
  split at h
  · next h4 =>
    split at h
    · simp only [Option.some.injEq, Prod.mk.injEq] at h
      obtain ⟨rfl, rfl⟩ := h
      exact ⟨h4, Nat.le_refl _, Nat.zero_le _⟩
    · split at h
      · next h5 =>
        split at h
        · next h6 =>
          simp only [Option.some.injEq, Prod.mk.injEq] at h
          obtain ⟨rfl, rfl⟩ := h
          refine ⟨h6, by omega, ?_⟩
          have := bs[k + 4].toNat_lt
          simp only [ByteArray.size, List.size_toArray, List.length_take, List.length_drop]
          omega
        · cases h
      · cases h
  · cases h
def joinD (out : Term) : Option (Term × Nat) → Option (Term × Nat)
  | none => none
  | some (t, e) => some (out ++ t, e)
theorem joinD_step {bs : List UInt8} {m nx nx' : Nat} {c : Cell} (out : Term) (h : cellD bs nx = some (c, nx')) : joinD out (cellsD bs (m + 1) nx) = joinD (out ++ [c]) (cellsD bs m nx') := by
  simp only [cellsD, h]
  cases cellsD bs m nx' with
  | none => rfl
  | some p => obtain ⟨t, e⟩ := p; simp [joinD]
theorem joinD_none {bs : List UInt8} {m nx : Nat} (out : Term) (h : cellD bs nx = none) : joinD out (cellsD bs (m + 1) nx) = none := by
  simp only [cellsD, h]; rfl
def termAns (o : Option (Term × Nat)) : Term × Int := match o with
  | some (t, e) => (t, e)
  | none => ([], -1)
set_option maxHeartbeats 2000000 in
theorem l6Term_c (v : Value) (bs : List UInt8) (ok : Nat → Prop) (k : Nat) (hl : bs.length ≤ 10000000) (hk : k ≤ 10000000) (w : World) (hV : kByte.V w ok v bs) :
    Calls Tryd.prog 43 #[v, .int .i64 k] w fun e w' => ∃ u, e = .returned (.tuple #[u, .int .i64 (termAns (termD bs k)).2]) ∧ kCell.R w' (fun k => w.heap.size ≤ k) u (termAns (termD bs k)).1 ∧ Below w.heap.size w w' := by
  have HV := Sec.mk hV
  have hu := Tryd.underlying55
  obtain ⟨A, c, rfl, h1, h2, h3, hC, hz⟩ := hV
  have HC := Sec.mk hC
  clear hC hz
  by_cases hlt : k < bs.length
  · obtain ⟨b, off, rfl, hob, x0⟩ := byteAt HC.out k hlt
    have hT : Sec (termD bs k = match cellsD bs bs[k].toNat (k + 1) with
      | none => none
      | some (t, e) => if trmOk t = true then some (t, e) else none) := ⟨dif_pos hlt⟩
    have hn := bs[k].toNat_lt
    generalize bs[k].toNat = n at *
    have hn2 : n < 256 := hn
    clear hn
    have i0 : (0 : Int) ≤ (k : Int) := by omega
    have i1 : (k : Int) < (bs.length : Int) := by omega
    have v0 : IntKind.i64.wrap (n : Int) = (n : Int) := wrapIn _ (by omega) (by omega)
    go_enter Tryd.func43, Tryd.ntmps43
    have xo := fun o : Obj => Raw.cell_below (belA (Below.refl w.heap.size w) o) x0
    go_wp2
    clear x0 xo
    generalize decide (bs.length ≤ k) = d14
    go_loopw [6, 7, 8] (fun ov tv kv wr => ∃ (out : Term) (nx m : Nat), tv = .int .i64 nx ∧ kv = .int .i64 m ∧ m ≤ n ∧ nx ≤ 10000001 ∧ out.length + m ≤ 255 ∧ Sec (kCell.R wr (fun k => w.heap.size ≤ k) ov out) ∧ Sec (joinD out (cellsD bs m nx) = cellsD bs n (k + 1)) ∧ Sec (Below w.heap.size w wr)) (fun _ _ kv _ => (intOf kv).toNat)
    case atStart => exact ⟨[], k + 1, n, by go_num, rfl, Nat.le_refl _, by omega, by simp; omega, ⟨Kd.R_empty kCell (Nat.le_refl _)⟩, ⟨by cases cellsD bs n (k + 1) with
      | none => rfl
      | some p => cases p; rfl⟩, ⟨belA (Below.refl _ _) _⟩⟩
    case round =>
      obtain ⟨out, nx, m, rfl, rfl, hm, hto, hol, hR, hJ, hb⟩ := hrel
      obtain ⟨A9, c9, hv9, -⟩ := Kd.R_form hR.out
      subst hv9
      cases m with
      | zero =>
        have hE : Sec (cellsD bs n (k + 1) = some (out, nx)) := ⟨by rw [← hJ.out]; simp [cellsD, joinD]⟩
        have HO := Sec.mk (TrmOk_c _ out (fun k => w.heap.size ≤ k) wr (Kd.R_V hR.out))
        clear hJ
        cases ht : trmOk out with
        | true =>
          have hT2 : Sec (termD bs k = some (out, nx)) := ⟨by rw [hT.out, hE.out]; exact if_pos ht⟩
          rw [ht] at HO
          clear hT hE ht
          go_wp2_with (go_at_call 26; refine HO.out.mono ?_; rintro e w1 ⟨rfl, hb1⟩; have B1 := Sec.mk (bel hb.out hb1); have R1 := Sec.mk (Kd.R_below hR.out hb1); clear hb1)
          refine bodyPost_ret (v := .tuple #[.slice A9 out.length c9, .int .i64 nx]) (by simp [results, Tryd.results43, go_sem]) rfl ?_
          exact ⟨_, by rw [hT2.out]; rfl, by rw [hT2.out]; exact R1.out, B1.out⟩
        | false =>
          have hT2 : Sec (termD bs k = none) := ⟨by rw [hT.out, hE.out]; exact if_neg (by simp [ht])⟩
          rw [ht] at HO
          clear hT hE ht
          go_wp2_with (go_at_call 26; refine HO.out.mono ?_; rintro e w1 ⟨rfl, hb1⟩; have B1 := Sec.mk (bel hb.out hb1); clear hb1)
          have hsz := Sec.mk B1.out.size
          refine bodyPost_ret (v := .tuple #[.slice (some ⟨w1.heap.size, 0, none⟩) 0 0, .int .i64 (-1)]) (by simp [results, Tryd.results43, go_sem]) rfl ?_
          exact ⟨_, by rw [hT2.out]; rfl, by rw [hT2.out]; exact Kd.R_empty kCell hsz.out, belA B1.out _⟩
      | succ m =>
        have HCC := Sec.mk (fun W (h : Below w.heap.size w W) => l6Cell_c _ bs ok nx (by omega) W (Kd.V_below HV.out h (by decide)))
        cases hcd : cellD bs nx with
        | none =>
          have hT2 : Sec (termD bs k = none) := ⟨by rw [hT.out, ← hJ.out, joinD_none out hcd]⟩
          have HCD := Sec.mk hcd
          clear hcd hJ hT
          go_wp2_with (go_at_call 70; refine (HCC.out _ hb.out).mono ?_; rw [HCD.out]; rintro e w1 ⟨rfl, hb1⟩; simp only [cellAns]; have B1 := Sec.mk (bel hb.out hb1); clear hb1)
          have hsz := Sec.mk B1.out.size
          refine bodyPost_ret (v := .tuple #[.slice (some ⟨w1.heap.size + 1, 0, none⟩) 0 0, .int .i64 (-1)]) (by simp [results, Tryd.results43, go_sem]) rfl ?_
          exact ⟨_, by rw [hT2.out]; rfl, by rw [hT2.out]; have e := Kd.R_empty (W := w1.alloc (.cells #[.int .i64 0, .int .i64 0, .string ⟨#[]⟩] 55)) kCell (Nat.le_trans hsz.out (belA (Below.refl _ _) _).size); rw [show (w1.alloc (.cells #[.int .i64 0, .int .i64 0, .string ⟨#[]⟩] 55)).heap.size = w1.heap.size + 1 from Array.size_push _] at e; exact e, belA (belA B1.out _) _⟩
        | some p =>
          obtain ⟨x, nx'⟩ := p
          have hto2 := cellD_to hcd
          have hJ2 : Sec (joinD (out ++ [x]) (cellsD bs m nx') = cellsD bs n (k + 1)) := ⟨by rw [← joinD_step out hcd]; exact hJ.out⟩
          have HCD := Sec.mk hcd
          have hL : Sec (out.length + 1 ≤ 1073741824) := ⟨by omega⟩
          clear hcd hJ
          go_wp2_with (first | (at_builtin; clear T0; refine Kd.R_app kCell (w0 := w) (wb := w1) rfl (.tmp 37) (.tmp 39) 26 (.agg #[.int .i64 0, .int .i64 0, .string ⟨#[]⟩]) 32 rfl Tryd.underlying26 info_cell rfl (by decide) (by decide) _ _ x (cellC x) rfl rfl (by simp) R1.out B1.out (belA (Below.refl _ _) _) (kCell_mk _ _ _ (by omega)) hL.out ?_; intro v1 w1 hR1 hb1; have HR1 := Sec.mk hR1; have HB1 := Sec.mk hb1; clear hR1 hb1) | (go_at_call 70; refine (HCC.out _ hb.out).mono ?_; rw [HCD.out]; rintro e w1 ⟨rfl, hb1⟩; simp only [cellAns]; have B1 := Sec.mk (bel hb.out hb1); have R1 := Sec.mk (Kd.R_below hR.out hb1); clear hb1; have T0 : Sec True := ⟨trivial⟩))
          go_roundw
          case rel =>
            exact ⟨out ++ [x], nx', m, by go_num, by go_num, by omega, by omega, by rw [List.length_append, List.length_singleton]; omega, HR1, hJ2, HB1⟩
          case measure => simp [intOf]
  · have hT : Sec (termD bs k = none) := ⟨dif_neg hlt⟩
    go_enter Tryd.func43, Tryd.ntmps43
    go_wp2
    refine bodyPost_ret (v := .tuple #[.slice (some ⟨w.heap.size, 0, none⟩) 0 0, .int .i64 (-1)]) (by simp [results, Tryd.results43, go_sem]) rfl ?_
    exact ⟨_, by rw [hT.out]; rfl, by rw [hT.out]; exact Kd.R_empty kCell (Nat.le_refl _), belA (Below.refl _ _) _⟩
end Go.Proofs.YtkdfmnaijgkfhaaDoor
