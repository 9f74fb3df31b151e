/- Contracts: a term read from bytes, by the reference; and what goes with it. -/
import Derived.Test.YteflipoiiddkfaaGreatDoorMr2
import Derived.Test.YteflipoiiddkfaaGreatDoorMr3
import Derived.Test.YteflipoiiddkfaaGreatDoorMr8
import Derived.Laws.CopyOwn
namespace Go.Proofs.YteflipoiiddkfaaGreatDoor
section
open Go.RowKit
set_option linter.unusedVariables false
set_option maxRecDepth 100000
/-- So many places, read one behind the other. -/
def cellsD (bs : List UInt8) : Nat → Nat → Option (Term × Nat)
  | 0, at_ => some ([], at_)
  | m + 1, at_ => match cellD bs at_ with
    | none => none
    | some (c, nx) => match cellsD bs m nx with
      | none => none
      | some (t, e) => some (c :: t, e)
/-- A term read at a place, and where that ends. -/
def termD (bs : List UInt8) (at_ : Nat) : Option (Term × Nat) :=
  if h : at_ < bs.length then match cellsD bs bs[at_].toNat (at_ + 1) with
    | none => none
    | some (t, e) => if trmOk t = true then some (t, e) else none
  else none
theorem cellD_to {bs : List UInt8} {k : Nat} {c : Cell} {nx : Nat} (h : cellD bs k = some (c, nx)) : nx ≤ bs.length ∧ k + 4 ≤ nx ∧ c.name.size ≤ 255 := by
  unfold cellD at h
  split at h
  · next h4 =>
    split at h
    · simp only [Option.some.injEq, Prod.mk.injEq] at h
      obtain ⟨rfl, rfl⟩ := h
      exact ⟨h4, Nat.le_refl _, Nat.zero_le _⟩
    · split at h
      · next h5 =>
        split at h
        · next h6 =>
          simp only [Option.some.injEq, Prod.mk.injEq] at h
          obtain ⟨rfl, rfl⟩ := h
          refine ⟨h6, by omega, ?_⟩
          have := bs[k + 4].toNat_lt
          simp only [ByteArray.size, List.size_toArray, List.length_take, List.length_drop]
          omega
        · cases h
      · cases h
  · cases h
def joinD (out : Term) : Option (Term × Nat) → Option (Term × Nat)
  | none => none
  | some (t, e) => some (out ++ t, e)
theorem joinD_step {bs : List UInt8} {m nx nx' : Nat} {c : Cell} (out : Term) (h : cellD bs nx = some (c, nx')) : joinD out (cellsD bs (m + 1) nx) = joinD (out ++ [c]) (cellsD bs m nx') := by
  simp only [cellsD, h]
  cases cellsD bs m nx' with
  | none => rfl
  | some p => obtain ⟨t, e⟩ := p; simp [joinD]
theorem joinD_none {bs : List UInt8} {m nx : Nat} (out : Term) (h : cellD bs nx = none) : joinD out (cellsD bs (m + 1) nx) = none := by
  simp only [cellsD, h]; rfl
def termAns (o : Option (Term × Nat)) : Term × Int := match o with
  | some (t, e) => (t, e)
  | none => ([], -1)
set_option maxHeartbeats 2000000 in
theorem l6Term_c (v : Value) (bs : List UInt8) (ok : Nat → Prop) (k : Nat) (hl : bs.length ≤ 10000000) (hk : k ≤ 10000000) (w : World) (hV : kByte.V w ok v bs) :
    Calls Tryz.prog 37 #[v, .int .i64 k] w fun e w' => ∃ u, e = .returned (.tuple #[u, .int .i64 (termAns (termD bs k)).2]) ∧ kCell.R w' (fun k => w.heap.size ≤ k) u (termAns (termD bs k)).1 ∧ Below w.heap.size w w' := by
  have HV := Sec.mk hV
  have hu := Tryz.underlying77
  obtain ⟨A, c, rfl, h1, h2, h3, hC, hz⟩ := hV
  have HC := Sec.mk hC
  clear hC hz
  by_cases hlt : k < bs.length
  · obtain ⟨b, off, rfl, hob, x0⟩ := byteAt HC.out k hlt
    have hT : Sec (termD bs k = match cellsD bs bs[k].toNat (k + 1) with
      | none => none
      | some (t, e) => if trmOk t = true then some (t, e) else none) := ⟨dif_pos hlt⟩
    have hn := bs[k].toNat_lt
    generalize bs[k].toNat = n at *
    have hn2 : n < 256 := hn
    clear hn
    have i0 : (0 : Int) ≤ (k : Int) := by omega
    have i1 : (k : Int) < (bs.length : Int) := by omega
    have v0 : IntKind.i64.wrap (n : Int) = (n : Int) := wrapIn _ (by omega) (by omega)
    go_enter Tryz.func37, Tryz.ntmps37
    have xo := fun o : Obj => Raw.cell_below (belA (Below.refl w.heap.size w) o) x0
    go_wp2
    clear x0 xo
    generalize decide (bs.length ≤ k) = d14
    go_loopw [6, 7, 8] (fun ov tv kv wr => ∃ (out : Term) (nx m : Nat), tv = .int .i64 nx ∧ kv = .int .i64 m ∧ m ≤ n ∧ nx ≤ 10000001 ∧ out.length + m ≤ 255 ∧ Sec (kCell.R wr (fun k => w.heap.size ≤ k) ov out) ∧ Sec (joinD out (cellsD bs m nx) = cellsD bs n (k + 1)) ∧ Sec (Below w.heap.size w wr)) (fun _ _ kv _ => (intOf kv).toNat)
    case atStart => exact ⟨[], k + 1, n, by go_num, rfl, Nat.le_refl _, by omega, by simp; omega, ⟨Kd.R_empty kCell (Nat.le_refl _)⟩, ⟨by cases cellsD bs n (k + 1) with
      | none => rfl
      | some p => cases p; rfl⟩, ⟨belA (Below.refl _ _) _⟩⟩
    case round =>
      obtain ⟨out, nx, m, rfl, rfl, hm, hto, hol, hR, hJ, hb⟩ := hrel
      obtain ⟨A9, c9, hv9, -⟩ := Kd.R_form hR.out
      subst hv9
      cases m with
      | zero =>
        have hE : Sec (cellsD bs n (k + 1) = some (out, nx)) := ⟨by rw [← hJ.out]; simp [cellsD, joinD]⟩
        have HO := Sec.mk (TrmOk_c _ out (fun k => w.heap.size ≤ k) wr (Kd.R_V hR.out))
        clear hJ
        cases ht : trmOk out with
        | true =>
          have hT2 : Sec (termD bs k = some (out, nx)) := ⟨by rw [hT.out, hE.out]; exact if_pos ht⟩
          rw [ht] at HO
          clear hT hE ht
          go_wp2_with (go_at_call 48; refine HO.out.mono ?_; rintro e w1 ⟨rfl, hb1⟩; have B1 := Sec.mk (bel hb.out hb1); have R1 := Sec.mk (Kd.R_below hR.out hb1); clear hb1)
          refine bodyPost_ret (v := .tuple #[.slice A9 out.length c9, .int .i64 nx]) (by simp [results, Tryz.results37, go_sem]) rfl ?_
          exact ⟨_, by rw [hT2.out]; rfl, by rw [hT2.out]; exact R1.out, B1.out⟩
        | false =>
          have hT2 : Sec (termD bs k = none) := ⟨by rw [hT.out, hE.out]; exact if_neg (by simp [ht])⟩
          rw [ht] at HO
          clear hT hE ht
          go_wp2_with (go_at_call 48; refine HO.out.mono ?_; rintro e w1 ⟨rfl, hb1⟩; have B1 := Sec.mk (bel hb.out hb1); clear hb1)
          have hsz := Sec.mk B1.out.size
          refine bodyPost_ret (v := .tuple #[.slice (some ⟨w1.heap.size, 0, none⟩) 0 0, .int .i64 (-1)]) (by simp [results, Tryz.results37, go_sem]) rfl ?_
          exact ⟨_, by rw [hT2.out]; rfl, by rw [hT2.out]; exact Kd.R_empty kCell hsz.out, belA B1.out _⟩
      | succ m =>
        have HCC := Sec.mk (fun W (h : Below w.heap.size w W) => l6Cell_c _ bs ok nx (by omega) W (Kd.V_below HV.out h (by decide)))
        cases hcd : cellD bs nx with
        | none =>
          have hT2 : Sec (termD bs k = none) := ⟨by rw [hT.out, ← hJ.out, joinD_none out hcd]⟩
          have HCD := Sec.mk hcd
          clear hcd hJ hT
          go_wp2_with (go_at_call 57; refine (HCC.out _ hb.out).mono ?_; rw [HCD.out]; rintro e w1 ⟨rfl, hb1⟩; simp only [cellAns]; have B1 := Sec.mk (bel hb.out hb1); clear hb1)
          have hsz := Sec.mk B1.out.size
          refine bodyPost_ret (v := .tuple #[.slice (some ⟨w1.heap.size + 1, 0, none⟩) 0 0, .int .i64 (-1)]) (by simp [results, Tryz.results37, go_sem]) rfl ?_
          exact ⟨_, by rw [hT2.out]; rfl, by rw [hT2.out]; have e := Kd.R_empty (W := w1.alloc (.cells #[.int .i64 0, .int .i64 0, .string ⟨#[]⟩] 77)) kCell (Nat.le_trans hsz.out (belA (Below.refl _ _) _).size); rw [show (w1.alloc (.cells #[.int .i64 0, .int .i64 0, .string ⟨#[]⟩] 77)).heap.size = w1.heap.size + 1 from Array.size_push _] at e; exact e, belA (belA B1.out _) _⟩
        | some p =>
          obtain ⟨x, nx'⟩ := p
          have hto2 := cellD_to hcd
          have hJ2 : Sec (joinD (out ++ [x]) (cellsD bs m nx') = cellsD bs n (k + 1)) := ⟨by rw [← joinD_step out hcd]; exact hJ.out⟩
          have HCD := Sec.mk hcd
          have hL : Sec (out.length + 1 ≤ 1073741824) := ⟨by omega⟩
          clear hcd hJ
          go_wp2_with (first | (at_builtin; clear T0; refine Kd.R_app kCell (w0 := w) (wb := w1) rfl (.tmp 37) (.tmp 39) 30 (.agg #[.int .i64 0, .int .i64 0, .string ⟨#[]⟩]) 32 rfl Tryz.underlying30 info_cell rfl (by decide) (by decide) _ _ x (cellC x) rfl rfl (by simp) R1.out B1.out (belA (Below.refl _ _) _) (kCell_mk _ _ _ (by omega)) hL.out ?_; intro v1 w1 hR1 hb1; have HR1 := Sec.mk hR1; have HB1 := Sec.mk hb1; clear hR1 hb1) | (go_at_call 57; refine (HCC.out _ hb.out).mono ?_; rw [HCD.out]; rintro e w1 ⟨rfl, hb1⟩; simp only [cellAns]; have B1 := Sec.mk (bel hb.out hb1); have R1 := Sec.mk (Kd.R_below hR.out hb1); clear hb1; have T0 : Sec True := ⟨trivial⟩))
          go_roundw
          case rel =>
            exact ⟨out ++ [x], nx', m, by go_num, by go_num, by omega, by omega, by rw [List.length_append, List.length_singleton]; omega, HR1, hJ2, HB1⟩
          case measure => simp [intOf]
  · have hT : Sec (termD bs k = none) := ⟨dif_neg hlt⟩
    go_enter Tryz.func37, Tryz.ntmps37
    go_wp2
    refine bodyPost_ret (v := .tuple #[.slice (some ⟨w.heap.size, 0, none⟩) 0 0, .int .i64 (-1)]) (by simp [results, Tryz.results37, go_sem]) rfl ?_
    exact ⟨_, by rw [hT.out]; rfl, by rw [hT.out]; exact Kd.R_empty kCell (Nat.le_refl _), belA (Below.refl _ _) _⟩
end
section
open Go.RowKit
set_option linter.unusedVariables false
set_option maxRecDepth 100000
/-- So many bytes, naughts behind their end. -/
def padB (n : Nat) (l : List UInt8) : List UInt8 := l.take n ++ List.replicate (n - l.length) 0
theorem padB_len (n : Nat) (l : List UInt8) : (padB n l).length = n := by simp [padB]; omega
theorem splice_pad (n : Nat) (l : List UInt8) : splice (List.replicate n (Value.int .u8 0)) 0 ((l.take n).map byteC) = (padB n l).map byteC := by
  simp only [splice, padB, List.take_zero, List.nil_append, List.map_append, List.map_replicate, List.length_map, List.length_take, Nat.zero_add, List.drop_replicate]
  congr 2
  omega
theorem pad_R {W : World} {g n B : Nat} (l : List UInt8) (hn : n ≤ 1073741824) (hB : B ≤ g) (h : W.heap[g]? = some (.cells (splice (List.replicate n (Value.int .u8 0)) 0 ((l.take n).map byteC)).toArray 5 (0, 0))) :
    kByte.R W (fun k => B ≤ k) (.slice (some ⟨g, 0, none⟩) n n) (padB n l) := by
  rw [splice_pad] at h
  have hl := padB_len n l
  refine ⟨by omega, .inr ⟨g, n, _, by rw [hl], h, hB, by omega, by simp only [maxLen]; omega, by simp [kByte, Kd.byte, Kd.scalar, hl], kByte_Os.2 ?_⟩⟩
  rw [hl, show n * kByte.sz = n by simp [kByte, Kd.byte, Kd.scalar], List.take_of_length_le (by simp [hl])]
theorem V_from {w : World} {ok : Nat → Prop} {A : Option Addr} {c : Nat} {l : List UInt8} (h : kByte.V w ok (.slice A l.length c) l) (m : Nat) (hm : m ≤ l.length) : kByte.V w ok (.slice (A.map (fun x => x.add m)) (l.length - m) (c - m)) (l.drop m) := by
  obtain ⟨A', c', hv, h1, h2, h3, hC, hz⟩ := h
  simp only [Value.slice.injEq] at hv
  obtain ⟨rfl, _, rfl⟩ := hv
  refine ⟨_, _, by rw [List.length_drop], by rw [List.length_drop]; omega, by omega, by rw [List.length_drop]; omega, ?_, fun e => ?_⟩
  · rcases hC with rfl | ⟨b, off, rfl, hb, hE⟩
    · exact .inl (by simp)
    · have h9 := Kd.C_drop (d := kByte) (w := w) (ok := ok) (b := b) (off := off) (xs := l) (.inr ⟨b, off, rfl, hb, hE⟩) m
      rw [show m * kByte.sz = m from Nat.mul_one m] at h9
      have e1 : (⟨b, off, none⟩ : Addr).add m = ⟨b, off + m, none⟩ := by unfold Addr.add; split <;> simp_all
      rw [Option.map_some, e1]
      exact h9
  · have : A = none := by cases A <;> simp_all
    have := hz this
    omega
theorem V_gone {w : World} {ok : Nat → Prop} {A : Option Addr} {l : List UInt8} (m : Nat) (h : l.drop m = []) (n : Nat) (hn : n = 0) : kByte.V w ok (.slice A n 0) (l.drop m) := by
  rw [h]; subst hn
  exact ⟨A, 0, rfl, Nat.le_refl _, by simp [maxLen], by simp, .inl rfl, fun _ => rfl⟩
theorem take_end {w w2 : World} {b n g : Nat} {l : List UInt8} {ok : Nat → Prop} {v v' : Value} (hg : g = w.heap.size) (hn : n ≤ 1073741824) (hbs : b < w.heap.size) (hB : w.heap[b]? = some (.cells #[v] 67 (0, 0))) (hb : Below w.heap.size w w2)
    (hG : w2.heap[w.heap.size]? = some (.cells (splice (List.replicate n (Value.int .u8 0)) 0 ((l.take n).map byteC)).toArray 5 (0, 0))) (hV : kByte.V (w2.setCell ⟨b, 0, none⟩ v') ok v' (l.drop n)) :
    (∃ g, (Value.slice (some ⟨w.heap.size, 0, none⟩) n n) = .slice (some ⟨g, 0, none⟩) n n) ∧ kByte.R (w2.setCell ⟨b, 0, none⟩ v') (fun k => w.heap.size ≤ k) (.slice (some ⟨w.heap.size, 0, none⟩) n n) (padB n l) ∧ ∃ x, kByte.V (w2.setCell ⟨b, 0, none⟩ v') ok x (l.drop n) ∧ (w2.setCell ⟨b, 0, none⟩ v').heap[b]? = some (.cells #[x] 67 (0, 0)) ∧ Foot (fun x => x = b) w (w2.setCell ⟨b, 0, none⟩ v') := by
  refine ⟨⟨_, rfl⟩, pad_R l hn (Nat.le_refl _) ((Below.heap_setCell _ _ _ _ (by show w.heap.size ≠ b; omega)).trans hG), v', hV, ?_, Foot.set (S := fun x => x = b) (Foot.of_below hb) (g := b) (.inl rfl) 0 v'⟩
  have := box_store 0 v' ((hb.block b hbs).trans hB)
  simpa using this
set_option maxHeartbeats 2000000 in
theorem tbytes_i (b n : Nat) (v : Value) (l : List UInt8) (ok : Nat → Prop) (hn : n ≤ 255) (hl : l.length ≤ 10000000) (hok : ¬ ok b) (w : World) (hB : w.heap[b]? = some (.cells #[v] 67 (0, 0))) (hV : kByte.V w ok v l) :
    Calls Tryz.prog 58 #[.pointer (some ⟨b, 0, none⟩), .int .i64 n] w fun e w' => ∃ u v', e = .returned u ∧ (∃ g, u = .slice (some ⟨g, 0, none⟩) n n) ∧ kByte.R w' (fun k => w.heap.size ≤ k) u (padB n l) ∧ kByte.V w' ok v' (l.drop n) ∧ w'.heap[b]? = some (.cells #[v'] 67 (0, 0)) ∧ Foot (· = b) w w' := by
  have HB := Sec.mk hB
  have HV := Sec.mk hV
  have hbs : b < w.heap.size := (Array.getElem?_eq_some_iff.1 hB).1
  have hmk : (Instr.makeSlice 28 (.int .i64 (n : Int)) (.int .i64 (n : Int))).run Tryz.prog w = .ok (.slice (some ⟨w.heap.size, 0, none⟩) n n) (w.alloc (.cells (List.replicate n (Value.int .u8 0)).toArray 5)) := by
    have h := made_ 28 5 (.int .u8 0) 1 1 Tryz.underlying28 (by kernel_rfl) (by decide) n (by omega) w
    have e : madeCells (Value.int .u8 0).cells (n * 1) = (List.replicate n (Value.int .u8 0)).toArray := Array.toList_inj.1 ((Kd.made_toList #[.int .u8 0] n).trans (by simp))
    rw [e] at h
    exact h
  obtain ⟨A, c, rfl, h1, h2, h3, hC, hz⟩ := hV
  have HC := Sec.mk hC
  have Hz := Sec.mk hz
  clear hC hz hB
  have QA := fun o : Obj => box_at' (belA (Below.refl w.heap.size w) o) HB.out
  have q0 := fun o => (QA o).1 0 _ rfl
  clear QA
  obtain ⟨cs, hcs⟩ : ∃ cs, cs = (l.take n).map byteC := ⟨_, rfl⟩
  have Hcs := Sec.mk hcs
  have HG : Sec ((w.alloc (.cells (Array.replicate n (Value.int .u8 0)) 5)).heap[w.heap.size]? = some (.cells (List.replicate n (Value.int .u8 0)).toArray 5 (0, 0))) := ⟨by rw [List.toArray_replicate]; exact heap_alloc_new w _⟩
  have H1 : Sec (∀ u ∈ cs, u.oneCell' = true) := ⟨fun u hu => by rw [Hcs.out] at hu; obtain ⟨x, _, rfl⟩ := List.mem_map.1 hu; rfl⟩
  have HP : Sec (0 < cs.length → (some (⟨w.heap.size, 0, none⟩ : Addr)) = some ⟨w.heap.size, 0, none⟩ ∧ ∃ ad, A = some ad ∧ ∀ j u, cs[j]? = some u → (w.alloc (.cells (Array.replicate n (Value.int .u8 0)) 5)).cell? (ad.add j) = some u) := ⟨fun h => by
    refine ⟨rfl, ?_⟩
    have hlp : 0 < l.length := by rw [hcs, List.length_map, List.length_take] at h; omega
    obtain ⟨g, off, rfl⟩ := Kd.C_addr HC.out hlp
    refine ⟨_, rfl, fun j u hj => ?_⟩
    rw [hcs, List.getElem?_map] at hj
    obtain ⟨x, hx, rfl⟩ := Option.map_eq_some_iff.1 hj
    have hjl : j < l.length := by have := List.getElem?_eq_some_iff.1 hx; obtain ⟨h, _⟩ := this; rw [List.length_take] at h; omega
    obtain ⟨b', off', hA', _, x1⟩ := byteAt (Kd.C_below HC.out (belA (Below.refl w.heap.size w) (.cells (Array.replicate n (Value.int .u8 0)) 5)) (by decide)) j hjl
    simp only [Option.some.injEq, Addr.mk.injEq, and_true] at hA'
    obtain ⟨rfl, rfl⟩ := hA'
    have e1 : (⟨g, off, none⟩ : Addr).add j = ⟨g, off + j, none⟩ := by unfold Addr.add; split <;> simp_all
    rw [e1, x1]
    have hxx : l[j] = x := by
      have h9 := List.getElem?_eq_some_iff.1 hx
      obtain ⟨h, h9⟩ := h9
      rw [← h9, List.getElem_take]
    rw [hxx]; rfl⟩
  have hcl : cs.length = Nat.min l.length n := by rw [hcs, List.length_map, List.length_take]; exact Nat.min_comm _ _
  obtain ⟨m, hm, hm1, hm2, hm3⟩ : ∃ m, cs.length = m ∧ m ≤ l.length ∧ m ≤ n ∧ l.drop m = l.drop n := ⟨_, hcl, Nat.min_le_left _ _, Nat.min_le_right _ _, by
    rcases Nat.le_total l.length n with h | h
    · rw [show Nat.min l.length n = l.length from Nat.min_eq_left h, List.drop_length, List.drop_of_length_le h]
    · rw [show Nat.min l.length n = n from Nat.min_eq_right h]⟩
  have HN := Sec.mk hcl
  have HD := Sec.mk hm3
  have HF : Sec (0 + cs.length ≤ (List.replicate n (Value.int .u8 0)).length) := ⟨by rw [List.length_replicate]; omega⟩
  clear hcs hcl hm3
  go_enter Tryz.func58, Tryz.ntmps58
  go_wp2_with (with_reducible show wpList _ _ _ (⟨some 14, _, _, _, _, _⟩ :: _) _ _; refine wpList_copy_splice (o := ⟨some 14, _, _, _, _, _⟩) (w := w.alloc _) rfl (.tmp 9) (.tmp 13) 28 28 rfl 5 Tryz.underlying28 (by kernel_rfl) (some ⟨w.heap.size, 0, none⟩) A n n l.length c rfl rfl w.heap.size 0 (List.replicate n (Value.int .u8 0)) 5 (HG.out) cs (HN.out) (HP.out) (HF.out) (H1.out) w.heap.size w (belA (Below.refl _ _) _) (Nat.le_refl _) ?_; intro w2 hG2 hb2; have G2 := Sec.mk hG2; have B2 := Sec.mk hb2; have q2 := box_at' hb2 HB.out; have r0 := q2.1 0 _ rfl; have g0 := q2.2 0; clear q2 hG2 hb2)
  all_goals
    go_ret
    refine ⟨_, rfl, take_end (v := _) rfl (by omega) hbs HB.out B2.out (by rw [← Hcs.out]; exact G2.out) ?_⟩
    rw [← HD.out]
    first
    | exact V_from (Kd.V_move (Foot.keeps (Foot.set (S := fun x => x = b) (Foot.of_below B2.out) (g := b) (.inl rfl) 0 _) (fun k h e => hok (e ▸ h))) HV.out (by decide)) m hm1
    | (refine V_gone m ?_ _ ?_; exact List.drop_of_length_le (by omega); omega)
end
section
open Go.RowKit
set_option linter.unusedVariables false
set_option maxRecDepth 100000
/-- The number that bytes are. -/
def numB (l : List UInt8) : Nat := l.foldl (fun n b => n * 256 + b.toNat) 0
theorem numB_take (l : List UInt8) (k : Nat) (h : k < l.length) : numB (l.take (k + 1)) = numB (l.take k) * 256 + l[k].toNat := by
  rw [numB, List.take_succ_eq_append_getElem h, List.foldl_append]; rfl
theorem numB_lt (l : List UInt8) : numB l < 256 ^ l.length := by
  rw [← List.take_length (l := l)]
  generalize hk : l.length = k
  have : ∀ k, k ≤ l.length → numB (l.take k) < 256 ^ (l.take k).length := by
    intro k
    induction k with
    | zero => intro _; simp [numB]
    | succ k ih =>
      intro h
      have h1 := ih (by omega)
      rw [numB_take l k (by omega)]
      rw [List.length_take, Nat.min_eq_left (by omega)] at h1 ⊢
      have := l[k].toNat_lt
      rw [Nat.pow_succ]
      omega
  rw [← hk]
  exact this _ (Nat.le_refl _)
theorem shl_or (a y : Nat) (ha : a < 16777216) (hy : y < 256) : bits BinOp.or IntKind.i64 (wrap64 ((a : Int) * 256)) (wrap64 (y : Int)) = (a * 256 + y : Nat) := by
  have e1 : wrap64 ((a : Int) * 256) = (a : Int) * 256 := by unfold wrap64; omega
  have e2 : wrap64 (y : Int) = (y : Int) := by unfold wrap64; omega
  have p40 : (2 : Int) ^ 40 = 1099511627776 := by decide
  rw [e1, e2, bits_join .i64 40 (by decide) (fun n h0 h1 => wrapIn n (by omega) (by omega)) 8 _ _ (by omega) (by omega) (by omega) (by omega) (by omega) (by omega)]
  omega
theorem numB_small {p : List UInt8} (h : p.length ≤ 3) : numB p < 16777216 := by
  have h1 := numB_lt p
  have h2 : 256 ^ p.length ≤ 256 ^ 3 := Nat.pow_le_pow_right (by decide) h
  omega
set_option maxHeartbeats 2000000 in
theorem tnumber_i (b n : Nat) (v : Value) (l : List UInt8) (ok : Nat → Prop) (hn : n ≤ 3) (hl : l.length ≤ 10000000) (hok : ¬ ok b) (w : World) (hB : w.heap[b]? = some (.cells #[v] 67 (0, 0))) (hV : kByte.V w ok v l) :
    Calls Tryz.prog 38 #[.pointer (some ⟨b, 0, none⟩), .int .i64 n] w fun e w' => e = .returned (.int .i64 (numB (padB n l))) ∧ ∃ v', kByte.V w' ok v' (l.drop n) ∧ w'.heap[b]? = some (.cells #[v'] 67 (0, 0)) ∧ Foot (fun x => x = b) w w' := by
  have HT := Sec.mk (tbytes_i b n v l ok (by omega) hl hok w hB hV)
  have HN := Sec.mk (numB_lt (padB n l))
  have hlen : (padB n l).length ≤ 3 := by rw [padB_len]; exact hn
  clear hB hV
  generalize padB n l = p at *
  go_enter Tryz.func38, Tryz.ntmps38
  go_wp2_with (go_at_call 58; refine HT.out.mono ?_; rintro e w1 ⟨u, v', rfl, -, hR, hv, hB, hF⟩; have R1 := Sec.mk (Kd.R_V hR); have V1 := Sec.mk hv; have B1 := Sec.mk hB; have F1 := Sec.mk hF; obtain ⟨A, c, rfl, -, -⟩ := Kd.R_form hR; clear hR hv hB hF)
  go_loop [5, 12] (fun x i => ∃ k : Nat, k ≤ p.length ∧ x = .int .i64 (numB (p.take k)) ∧ i = .int .i64 k) (fun _ i => p.length - (intOf i).toNat)
  case atStart => exact ⟨0, Nat.zero_le _, rfl, rfl⟩
  case round =>
    obtain ⟨k, hk, rfl, rfl⟩ := hrel
    by_cases hlt : k < p.length
    · obtain ⟨b2, off, rfl, hob, x0⟩ := byteAt (Kd.V_C R1.out) k hlt
      have hN := Sec.mk (numB_take p k hlt)
      have hE : Sec (bits BinOp.or IntKind.i64 (wrap64 ((numB (p.take k) : Int) * 256)) (wrap64 (p[k].toNat : Int)) = numB (p.take (k + 1))) := ⟨by rw [hN.out]; exact shl_or _ _ (numB_small (by rw [List.length_take]; omega)) p[k].toNat_lt⟩
      go_wp2
      go_round
      case rel => exact ⟨k + 1, by omega, by rw [hE.out], rfl⟩
      case measure => simp [intOf]; omega
    · go_wp2
      go_ret
      exact ⟨by rw [List.take_of_length_le (by omega)]; rfl, _, V1.out, B1.out, F1.out⟩
theorem tsigned_i (b : Nat) (v : Value) (l : List UInt8) (ok : Nat → Prop) (hl : l.length ≤ 10000000) (hok : ¬ ok b) (w : World) (hB : w.heap[b]? = some (.cells #[v] 67 (0, 0))) (hV : kByte.V w ok v l) :
    Calls Tryz.prog 39 #[.pointer (some ⟨b, 0, none⟩)] w fun e w' => e = .returned (.int .i64 ((numB (padB 3 l) : Int) - 99999 - 1)) ∧ ∃ v', kByte.V w' ok v' (l.drop 3) ∧ w'.heap[b]? = some (.cells #[v'] 67 (0, 0)) ∧ Foot (fun x => x = b) w w' := by
  have HT := Sec.mk (tnumber_i b 3 v l ok (by omega) hl hok w hB hV)
  have hs := numB_small (p := padB 3 l) (by rw [padB_len]; omega)
  clear hB hV
  generalize numB (padB 3 l) = p at *
  go_enter Tryz.func39, Tryz.ntmps39
  go_wp2_with (go_at_call 38; refine HT.out.mono ?_; rintro e w1 ⟨rfl, v', hv, hB, hF⟩; have V1 := Sec.mk hv; have B1 := Sec.mk hB; have F1 := Sec.mk hF; clear hv hB hF)
  go_ret
  exact ⟨rfl, _, V1.out, B1.out, F1.out⟩
end
section
open Go.RowKit
set_option linter.unusedVariables false
set_option maxRecDepth 100000
/-- A place taken, and what is left. -/
def tkCell (l : List UInt8) : Cell × List UInt8 :=
  if numB (padB 1 l) = 3 then (⟨3, (numB (padB 3 (l.drop 1)) : Int) - 99999 - 1, ⟨(padB (numB (padB 1 ((l.drop 1).drop 3))) (((l.drop 1).drop 3).drop 1)).toArray⟩⟩, (((l.drop 1).drop 3).drop 1).drop (numB (padB 1 ((l.drop 1).drop 3))))
  else (⟨numB (padB 1 l), (numB (padB 3 (l.drop 1)) : Int) - 99999 - 1, ⟨#[]⟩⟩, (l.drop 1).drop 3)
def tkCells : Nat → List UInt8 → Term
  | 0, _ => []
  | m + 1, l => (tkCell l).1 :: tkCells m (tkCell l).2
def tkLefts : Nat → List UInt8 → List UInt8
  | 0, l => l
  | m + 1, l => tkLefts m (tkCell l).2
def tkLeft (l : List UInt8) : List UInt8 := tkLefts (numB (padB 1 l)) (l.drop 1)
def tkTerm (l : List UInt8) : Term := tkCells (numB (padB 1 l)) (l.drop 1)
theorem R_app3 {α : Type} (d : Kd α) {P : Program} {ops : Array Oper} {rest : List Oper} {o : Oper} {a : Act} {Q : Exit → Act → World → Prop} {W : World} (hgd : o.guard = none) (s x : Operand) (t : TypeId) (z : Value) (bytes : Nat)
    (ho : o.op = .call { callee := .builtin .append, args := #[s, x], argTypes := #[t, t] })
    (ht : P.underlying t = some (.slice d.ty)) (hinfo : (P.info? d.ty).map (fun i => (i.zero, i.size, i.bytes)) = some (some z, d.sz, bytes)) (hz : z.cells.size = d.sz) (hs0 : 0 < d.sz) (hb0 : bytes ≤ 256)
    (v : Value) (xs : List α) (p : α) (cs : List Value) (S : Nat → Prop) (hs : a.eval s = v) {N : Nat} (hx : a.eval x = .slice (some ⟨N, 0, none⟩) 1 1) (hN : N = W.heap.size) (HO : d.R W S v xs) (hp : d.O W (fun _ => False) p cs)
    (hl : xs.length + 1 ≤ 1073741824)
    (h : ∀ v1 w1, d.R w1 (fun k => S k ∨ False ∨ W.heap.size ≤ k) v1 (xs ++ [p]) → W.grownBy w1 v.ownBlock → (∀ k, v.ownBlock = some k → S k) → wpList P ops Q rest (a.put o.dst v1) w1) :
    wpList P ops Q (o :: rest) a (W.alloc (.cells cs.toArray d.ty)) := by
  subst hN
  obtain ⟨_, _, _, h3⟩ := Kd.R_own HO
  exact Kd.R_append d hgd s x t z bytes ho ht hinfo hz hs0 hb0 v xs p cs S (fun _ => False) hs hx HO hp (fun _ h => h.elim) hl (fun v1 w1 h1 hg => h v1 w1 h1 hg (fun k e => (h3 k e).1))
/-- The state of a taker: what is left lies in its box. -/
structure Tk (w0 : World) (b : Nat) (ok : Nat → Prop) (W : World) (v : Value) (r : List UInt8) : Prop where
  row : kByte.V W ok v r
  box : W.heap[b]? = some (.cells #[v] 67 (0, 0))
  foot : Foot (fun x => x = b) w0 W
theorem Tk.alloc {w0 : World} {b : Nat} {ok : Nat → Prop} {W : World} {v : Value} {r : List UInt8} (h : Tk w0 b ok W v r) (o : Obj) : Tk w0 b ok (W.alloc o) v r :=
  ⟨Kd.V_below h.row (belA (Below.refl _ _) o) (by decide), ((belA (Below.refl W.heap.size W) o).block b (Array.getElem?_eq_some_iff.1 h.box).1).trans h.box, h.foot.alloc o⟩
theorem Tk.step {w0 : World} {b : Nat} {ok : Nat → Prop} {W W' : World} {v v' : Value} {r r' : List UInt8} (h : Tk w0 b ok W v r) (hV : kByte.V W' ok v' r') (hB : W'.heap[b]? = some (.cells #[v'] 67 (0, 0))) (hF : Foot (fun x => x = b) W W') : Tk w0 b ok W' v' r' :=
  ⟨hV, hB, h.foot.trans hF (fun _ _ h => h)⟩
theorem Tk.set {w0 : World} {b : Nat} {ok : Nat → Prop} {W : World} {v : Value} {r : List UInt8} (h : Tk w0 b ok W v r) (hok : ∀ k, ok k → k < w0.heap.size) (hb : b < w0.heap.size) (g i : Nat) (u : Value) (hg : w0.heap.size ≤ g) : Tk w0 b ok (W.setCell ⟨g, i, none⟩ u) v r :=
  ⟨Kd.V_move (fun k hk _ => ⟨hk, Below.heap_setCell _ _ _ _ (by show k ≠ g; have := hok k hk; omega)⟩) h.row (by decide), (Below.heap_setCell _ _ _ _ (by show b ≠ g; omega)).trans h.box, h.foot.set (.inr hg) i u⟩
theorem Tk.grown {w0 : World} {b : Nat} {ok : Nat → Prop} {W W' : World} {v : Value} {r : List UInt8} {row : Option Nat} (h : Tk w0 b ok W v r) (hok : ∀ k, ok k → k < w0.heap.size) (hb : b < w0.heap.size) (hg : W.grownBy W' row) (hr : ∀ k, row = some k → w0.heap.size ≤ k) : Tk w0 b ok W' v r :=
  ⟨Kd.V_move (fun k hk hl => ⟨hk, hg.block k hl (fun e => by have := hr k e.symm; have := hok k hk; omega)⟩) h.row (by decide), (hg.block b (Array.getElem?_eq_some_iff.1 h.box).1 (fun e => by have := hr b e.symm; omega)).trans h.box, h.foot.grown hg (fun k e => .inr (hr k e))⟩
/-- What is the call's own stays, where a taker takes. -/
theorem R_foot {w0 W W' : World} {b : Nat} {v : Value} {t : Term} (hb : b < w0.heap.size) (h : kCell.R W (fun k => w0.heap.size ≤ k) v t) (hF : Foot (fun x => x = b) W W') : kCell.R W' (fun k => w0.heap.size ≤ k) v t := hF.R h (fun k h1 h2 => by omega)
set_option maxHeartbeats 2000000 in
theorem tterm_i (b : Nat) (v : Value) (l : List UInt8) (ok : Nat → Prop) (hl : l.length ≤ 10000000) (hok : ¬ ok b) (w : World) (hlo : ∀ k, ok k → k < w.heap.size) (hB : w.heap[b]? = some (.cells #[v] 67 (0, 0))) (hV : kByte.V w ok v l) :
    Calls Tryz.prog 40 #[.pointer (some ⟨b, 0, none⟩)] w fun e w' => ∃ u, e = .returned u ∧ kCell.R w' (fun k => w.heap.size ≤ k) u (tkTerm l) ∧ Foot (fun x => x = b) w w' ∧ (tkLeft l).length ≤ 10000000 ∧ ∃ v', Tk w b ok w' v' (tkLeft l) := by
  have hu := Tryz.underlying77
  have hbs : b < w.heap.size := (Array.getElem?_eq_some_iff.1 hB).1
  have HOK := Sec.mk hlo
  have NUM : ∀ (n : Nat) (W : World) (v : Value) (r : List UInt8), n ≤ 3 → r.length ≤ 10000000 → Tk w b ok W v r → Calls Tryz.prog 38 #[.pointer (some ⟨b, 0, none⟩), .int .i64 n] W fun e w' => e = .returned (.int .i64 (numB (padB n r))) ∧ ∃ v', Tk w b ok w' v' (r.drop n) ∧ Foot (fun x => x = b) W w' := fun n W v r hn hr hT =>
    (tnumber_i b n v r ok hn hr hok W hT.box hT.row).mono (by rintro e w' ⟨h1, v', h2, h3, h4⟩; exact ⟨h1, v', hT.step h2 h3 h4, h4⟩)
  have SGN : ∀ (W : World) (v : Value) (r : List UInt8), r.length ≤ 10000000 → Tk w b ok W v r → Calls Tryz.prog 39 #[.pointer (some ⟨b, 0, none⟩)] W fun e w' => e = .returned (.int .i64 ((numB (padB 3 r) : Int) - 99999 - 1)) ∧ ∃ v', Tk w b ok w' v' (r.drop 3) ∧ Foot (fun x => x = b) W w' := fun W v r hr hT =>
    (tsigned_i b v r ok hr hok W hT.box hT.row).mono (by rintro e w' ⟨h1, v', h2, h3, h4⟩; exact ⟨h1, v', hT.step h2 h3 h4, h4⟩)
  have BYT : ∀ (n : Nat) (W : World) (v : Value) (r : List UInt8), n ≤ 255 → r.length ≤ 10000000 → Tk w b ok W v r → Calls Tryz.prog 58 #[.pointer (some ⟨b, 0, none⟩), .int .i64 n] W fun e w' => ∃ g, e = .returned (.slice (some ⟨g, 0, none⟩) n n) ∧ kByte.C w' (fun k => W.heap.size ≤ k) (some ⟨g, 0, none⟩) (padB n r) ∧ ∃ v', Tk w b ok w' v' (r.drop n) ∧ Foot (fun x => x = b) W w' := fun n W v r hn hr hT =>
    (tbytes_i b n v r ok hn hr hok W hT.box hT.row).mono (by rintro e w' ⟨u, v', h1, ⟨g, rfl⟩, h0, h2, h3, h4⟩; exact ⟨g, h1, Kd.V_C (Kd.R_V h0), v', hT.step h2 h3 h4, h4⟩)
  have hTk : Tk w b ok w v l := ⟨hV, hB, Foot.refl _ _⟩
  have H0 := Sec.mk (NUM 1 w v l (by omega) hl hTk)
  have hT : Sec (tkTerm l = tkCells (numB (padB 1 l)) (l.drop 1)) := ⟨rfl⟩
  have hTL : Sec (tkLeft l = tkLefts (numB (padB 1 l)) (l.drop 1)) := ⟨rfl⟩
  have hl1 : (l.drop 1).length ≤ 10000000 := by rw [List.length_drop]; omega
  have hn0 := numB_lt (padB 1 l)
  rw [padB_len] at hn0
  generalize numB (padB 1 l) = n at *
  generalize l.drop 1 = r0 at *
  have hn255 : n ≤ 255 := by omega
  have NUM' := Sec.mk NUM
  have SGN' := Sec.mk SGN
  have BYT' := Sec.mk BYT
  clear NUM SGN BYT hTk hB hV hn0 hlo
  go_enter Tryz.func40, Tryz.ntmps40
  go_wp2_with (go_at_call 38; refine H0.out.mono ?_; rintro e w1 ⟨rfl, v1, hT1, hF1⟩; have K1 := Sec.mk hT1; clear hT1 hF1)
  go_loopw [3, 7] (fun x i wr => ∃ (out : Term) (k m : Nat) (r : List UInt8) (v' : Value), i = .int .i64 k ∧ k + m = n ∧ out.length ≤ k ∧ r.length ≤ 10000000 ∧ Sec (kCell.R wr (fun k => w.heap.size ≤ k) x out) ∧ Sec (out ++ tkCells m r = tkCells n r0 ∧ tkLefts m r = tkLefts n r0) ∧ Sec (Tk w b ok wr v' r)) (fun _ i _ => n - (intOf i).toNat)
  case atStart => exact ⟨[], 0, n, r0, v1, rfl, by omega, by simp, hl1, ⟨Kd.R_nil _ _ _⟩, ⟨by simp, rfl⟩, K1⟩
  case round =>
    obtain ⟨out, k, m, r, v', rfl, hkm, hol, hrl, hR, hE, hK⟩ := hrel
    obtain ⟨A9, c9, rfl, -, -⟩ := Kd.R_form hR.out
    cases m with
    | zero =>
      have hlt : ¬ (k : Int) < (n : Int) := by omega
      have hF : Sec (out = tkTerm l) := ⟨by rw [hT.out, ← hE.out.1]; simp [tkCells]⟩
      have hF2 : Sec (r = tkLeft l) := ⟨by rw [hTL.out, ← hE.out.2]; rfl⟩
      clear hkm
      go_wp2
      go_ret
      exact ⟨_, rfl, by rw [← hF.out]; exact hR.out, hK.out.foot, by rw [← hF2.out]; exact hrl, v', by rw [← hF2.out]; exact hK.out⟩
    | succ m =>
      have hlt : (k : Int) < (n : Int) := by omega
      have hE2 : Sec ((out ++ [(tkCell r).1]) ++ tkCells m (tkCell r).2 = tkCells n r0 ∧ tkLefts m (tkCell r).2 = tkLefts n r0) := ⟨⟨by rw [← hE.out.1, tkCells]; simp, by rw [← hE.out.2, tkLefts]⟩⟩
      generalize hx : tkCell r = x at hE2
      have HX := Sec.mk hx.symm
      clear hx
      unfold tkCell at HX
      obtain ⟨r1, hr1⟩ : ∃ r1, r1 = r.drop 1 := ⟨_, rfl⟩
      have HA := Sec.mk (fun W v => NUM'.out 1 W v r (by omega) hrl)
      rw [← hr1] at HA HX
      have hl1 : r1.length ≤ 10000000 := by rw [hr1, List.length_drop]; omega
      have HB := Sec.mk (fun W v => SGN'.out W v r1 hl1)
      have hnb := numB_small (p := padB 3 r1) (by rw [padB_len]; omega)
      obtain ⟨r2, hr2⟩ : ∃ r2, r2 = r1.drop 3 := ⟨_, rfl⟩
      rw [← hr2] at HB HX
      have hl2 : r2.length ≤ 10000000 := by rw [hr2, List.length_drop]; omega
      have HC := Sec.mk (fun W v => NUM'.out 1 W v r2 (by omega) hl2)
      obtain ⟨r3, hr3⟩ : ∃ r3, r3 = r2.drop 1 := ⟨_, rfl⟩
      rw [← hr3] at HC HX
      have hl3 : r3.length ≤ 10000000 := by rw [hr3, List.length_drop]; omega
      have hm4 := numB_lt (padB 1 r2)
      rw [padB_len] at hm4
      have hkd := numB_lt (padB 1 r)
      rw [padB_len] at hkd
      generalize numB (padB 1 r2) = m4 at *
      generalize numB (padB 1 r) = kd at *
      generalize numB (padB 3 r1) = nn at *
      have HD := Sec.mk (fun W v => BYT'.out m4 W v r3 (by omega) hl3)
      obtain ⟨r4, hr4⟩ : ∃ r4, r4 = r3.drop m4 := ⟨_, rfl⟩
      rw [← hr4] at HD HX
      have hl4 : r4.length ≤ 10000000 := by rw [hr4, List.length_drop]; omega
      have hm255 : m4 ≤ 255 := by omega
      clear hr1 hr2 hr3 hr4 hm4
      have T0 : Sec True := ⟨trivial⟩
      have HKM := Sec.mk hkm
      by_cases hk3 : kd = 3
      · have hX2 : Sec (x = (⟨3, (nn : Int) - 99999 - 1, ⟨(padB m4 r3).toArray⟩⟩, r4)) := ⟨by rw [HX.out, if_pos hk3]⟩
        have hns : (⟨(padB m4 r3).toArray⟩ : ByteArray).size ≤ 255 := by simp only [ByteArray.size, List.size_toArray, padB_len]; omega
        have HCV : Sec (∀ (W : World) (ok : Nat → Prop) (g : Nat), kByte.C W ok (some ⟨g, 0, none⟩) (padB m4 r3) → (convert 28 9 (.slice (some ⟨g, 0, none⟩) m4 m4)).run Tryz.prog W = .ok (.string ⟨(padB m4 r3).toArray⟩) W) := ⟨fun W ok g h => by
          have h9 := name_conv (c := m4) h 0 m4 m4 (by rw [padB_len]; omega) 0 (.inr rfl)
          rw [List.drop_zero, List.take_of_length_le (by rw [padB_len]; exact Nat.le_refl _)] at h9
          exact h9⟩
        subst hk3
        clear HX hkm
        generalize (⟨(padB m4 r3).toArray⟩ : ByteArray) = nm at *
        have hb3 : (((3 : Nat) : Int) == 3) = true := rfl
        go_wp2_with (first | (at_builtin; clear T4; go_loud (refine R_app3 kCell (W := w5.setCell ⟨w3.heap.size, 2, none⟩ (.string nm)) rfl (.tmp 23) (.tmp 25) 30 (.agg #[.int .i64 0, .int .i64 0, .string ⟨#[]⟩]) 32 rfl Tryz.underlying30 info_cell rfl (by decide) (by decide) _ _ ⟨3, (nn : Int) - 99999 - 1, nm⟩ [.int .i64 3, .int .i64 ((nn : Int) - 99999 - 1), .string nm] (fun k => w.heap.size ≤ k ∧ k < w3.heap.size) rfl rfl (by simp) R6.out (kCell_none _ ⟨3, (nn : Int) - 99999 - 1, nm⟩ (by show nm.size ≤ _; omega)) (by omega) ?_; intro v7 w7 hR7 hg7 hrow; have R7 := Sec.mk (Kd.R_mono hR7 (fun k hk _ => by rcases hk with h | h | h; exact h.1; exact h.elim; exact Nat.le_trans K6.out.foot.size h)); have K7 := Sec.mk (K6.out.grown HOK.out hbs hg7 (fun k e => (hrow k e).1)); clear hR7 hg7 hrow)) | (clear T3; go_at_call 58; have T4 : Sec True := ⟨trivial⟩; refine (HD.out _ _ K4.out).mono ?_; rintro e w5 ⟨g5, rfl, hC5, v5, hT5, hF5⟩; have K5 := Sec.mk hT5; have ycv := HCV.out w5 _ g5 hC5; have X5 := carry_ hF5 X4.out (by have := Z3.out; omega); have q5 := box_at X5; have q0 := q5.2.1 0 _ rfl; have q1 := q5.2.1 1 _ rfl; have q2 := q5.2.1 2 _ rfl; have g2 := q5.2.2 2; have K6 := Sec.mk (hT5.set HOK.out hbs w3.heap.size 2 (.string nm) K3.out.foot.size); have R6 := Sec.mk (Kd.R_move (S1 := fun k => w.heap.size ≤ k ∧ k < w3.heap.size) (w1 := w5.setCell ⟨w3.heap.size, 2, none⟩ (.string nm)) (fun k hk _ => ⟨hk, Below.heap_setCell _ _ _ _ (by show k ≠ w3.heap.size; omega)⟩) (hF5.R R4.out (fun k h1 h2 => by omega))); clear hT5 hF5 hC5 X5 q5) | (clear T2; go_at_call 38; have T3 : Sec True := ⟨trivial⟩; refine (HC.out _ _ (K3.out.alloc _)).mono ?_; rintro e w4 ⟨rfl, v4, hT4, hF4⟩; have K4 := Sec.mk hT4; have X4 := Sec.mk (carry_ hF4 (heap_alloc_new w3 _) (by have := Z3.out; omega)); have R4 := Sec.mk (hF4.R (Kd.R_below R3'.out (belA (Below.refl _ _) _)) (fun k h1 h2 => by omega)); clear hT4 hF4) | (clear T1; go_at_call 39; have T2 : Sec True := ⟨trivial⟩; refine (HB.out _ _ K2.out).mono ?_; rintro e w3 ⟨rfl, v3, hT3, hF3⟩; have K3 := Sec.mk hT3; have R3' : Sec (kCell.R w3 (fun k => w.heap.size ≤ k ∧ k < w3.heap.size) (.slice A9 out.length c9) out) := ⟨Kd.R_mono (R_foot hbs R2.out hF3) (fun k h1 h2 => ⟨h1, h2⟩)⟩; have Z3 : Sec (b < w3.heap.size) := ⟨Nat.lt_of_lt_of_le hbs hT3.foot.size⟩; clear hT3 hF3) | (clear T0; go_at_call 38; have T1 : Sec True := ⟨trivial⟩; refine (HA.out _ _ hK.out).mono ?_; rintro e w2 ⟨rfl, v2, hT2, hF2⟩; have K2 := Sec.mk hT2; have R2 := Sec.mk (R_foot hbs hR.out hF2); clear hT2 hF2))
        go_roundw
        case rel => exact ⟨out ++ [⟨3, (nn : Int) - 99999 - 1, nm⟩], k + 1, m, r4, v5, by go_num, by have := HKM.out; omega, by rw [List.length_append, List.length_singleton]; omega, hl4, R7, ⟨by have := hE2.out; rw [hX2.out] at this; exact this⟩, K7⟩
        case measure => simp [intOf]; omega
      · have hX2 : Sec (x = (⟨kd, (nn : Int) - 99999 - 1, ⟨#[]⟩⟩, r2)) := ⟨by rw [HX.out, if_neg hk3]⟩
        have hb3 : ((kd : Int) == 3) = false := beq_eq_false_iff_ne.2 (by omega)
        clear HX hk3 hkm
        go_wp2_with (first | (at_builtin; clear T2; refine R_app3 kCell (W := w3.alloc _) rfl (.tmp 23) (.tmp 25) 30 (.agg #[.int .i64 0, .int .i64 0, .string ⟨#[]⟩]) 32 rfl Tryz.underlying30 info_cell rfl (by decide) (by decide) _ _ ⟨kd, (nn : Int) - 99999 - 1, ⟨#[]⟩⟩ [.int .i64 kd, .int .i64 ((nn : Int) - 99999 - 1), .string ⟨#[]⟩] (fun k => w.heap.size ≤ k) rfl rfl (by simp) (Kd.R_below R3.out (belA (Below.refl _ _) _)) (kCell_none _ ⟨kd, (nn : Int) - 99999 - 1, ⟨#[]⟩⟩ (Nat.zero_le _)) (by omega) ?_; intro v5 w5 hR5 hg5 hrow; have R5 := Sec.mk (Kd.R_mono hR5 (fun k hk _ => by rcases hk with h | h | h; exact h; exact h.elim; exact Nat.le_trans (Nat.le_trans K3.out.foot.size (belA (Below.refl w3.heap.size w3) _).size) h)); have K5 := Sec.mk ((K3.out.alloc _).grown HOK.out hbs hg5 hrow); clear hR5 hg5 hrow) | (clear T1; go_at_call 39; have T2 : Sec True := ⟨trivial⟩; refine (HB.out _ _ K2.out).mono ?_; rintro e w3 ⟨rfl, v3, hT3, hF3⟩; have K3 := Sec.mk hT3; have R3 := Sec.mk (R_foot hbs R2.out hF3); clear hT3 hF3) | (clear T0; go_at_call 38; have T1 : Sec True := ⟨trivial⟩; refine (HA.out _ _ hK.out).mono ?_; rintro e w2 ⟨rfl, v2, hT2, hF2⟩; have K2 := Sec.mk hT2; have R2 := Sec.mk (R_foot hbs hR.out hF2); clear hT2 hF2))
        go_roundw
        case rel => exact ⟨out ++ [⟨kd, (nn : Int) - 99999 - 1, ⟨#[]⟩⟩], k + 1, m, r2, v3, by go_num, by have := HKM.out; omega, by rw [List.length_append, List.length_singleton]; omega, hl2, R5, ⟨by have := hE2.out; rw [hX2.out] at this; exact this⟩, K5⟩
        case measure => simp [intOf]; omega
end
section
open Go.RowKit
set_option linter.unusedVariables false
set_option maxRecDepth 100000
theorem num3_of (a b c : UInt8) : num3 ((a.toNat : Int) * 65536 + (b.toNat : Int) * 256 + (c.toNat : Int) - 99999 - 1) = [a, b, c] := by
  have ha := a.toNat_lt
  have hb := b.toNat_lt
  have hc := c.toNat_lt
  unfold num3
  have e1 : ((a.toNat : Int) * 65536 + (b.toNat : Int) * 256 + (c.toNat : Int) - 99999 - 1 + 99999 + 1) / 65536 = a.toNat := by omega
  have e2 : ((a.toNat : Int) * 65536 + (b.toNat : Int) * 256 + (c.toNat : Int) - 99999 - 1 + 99999 + 1) / 256 % 256 = b.toNat := by omega
  have e3 : ((a.toNat : Int) * 65536 + (b.toNat : Int) * 256 + (c.toNat : Int) - 99999 - 1 + 99999 + 1) % 256 = c.toNat := by omega
  rw [e1, e2, e3, u8_of, u8_of, u8_of]
theorem drop_cons {bs : List UInt8} {k : Nat} (h : k < bs.length) : bs.drop k = bs[k] :: bs.drop (k + 1) := List.drop_eq_getElem_cons h
theorem num3_at {bs : List UInt8} {k : Nat} (h : k + 3 ≤ bs.length) : bs.drop k = num3 (numD bs k) ++ bs.drop (k + 3) := by
  unfold numD
  rw [dif_pos h, num3_of, drop_cons (show k < bs.length by omega), drop_cons (show k + 1 < bs.length by omega), drop_cons (show k + 1 + 1 < bs.length by omega)]
  rfl
/-- What a place that is read is written as. -/
theorem cellD_bytes {bs : List UInt8} {k : Nat} {c : Cell} {nx : Nat} (h : cellD bs k = some (c, nx)) : bs.drop k = cellBytes c ++ bs.drop nx := by
  by_cases h4 : k + 4 ≤ bs.length
  · by_cases h3 : bs[k].toNat = 3
    · by_cases h5 : k + 5 ≤ bs.length
      · by_cases h6 : k + 5 + bs[k + 4].toNat ≤ bs.length
        · rw [cellD_c h4 h3 h5 h6] at h
          simp only [Option.some.injEq, Prod.mk.injEq] at h
          obtain ⟨rfl, rfl⟩ := h
          have hl : ((bs.drop (k + 5)).take bs[k + 4].toNat).length = bs[k + 4].toNat := by rw [List.length_take, List.length_drop]; omega
          have e0 : u8 3 = bs[k] := by rw [← u8_of bs[k], h3]; rfl
          simp only [cellBytes, ByteArray.size, List.size_toArray, hl, u8_of, e0]
          rw [drop_cons (show k < bs.length by omega), num3_at (show k + 1 + 3 ≤ bs.length by omega), drop_cons (show k + 1 + 3 < bs.length by omega)]
          simp only [if_true, List.cons_append, List.append_assoc, List.cons.injEq, true_and]
          rw [show bs.drop (k + 5 + bs[k + 4].toNat) = (bs.drop (k + 5)).drop bs[k + 4].toNat from List.drop_drop.symm, List.take_append_drop]
        · rw [cellD_b h4 h3 h5 h6] at h; cases h
      · rw [cellD_a h4 h3 h5] at h; cases h
    · rw [cellD_plain h4 h3] at h
      simp only [Option.some.injEq, Prod.mk.injEq] at h
      obtain ⟨rfl, rfl⟩ := h
      have h3' : ¬ ((bs[k].toNat : Int) = 3) := by omega
      simp only [cellBytes, u8_of, if_neg h3', List.append_nil]
      rw [drop_cons (show k < bs.length by omega), num3_at (show k + 1 + 3 ≤ bs.length by omega)]
      rfl
  · rw [cellD_short h4] at h; cases h
theorem cellsD_bytes {bs : List UInt8} : ∀ {m k : Nat} {t : Term} {e : Nat}, cellsD bs m k = some (t, e) → bs.drop k = t.flatMap cellBytes ++ bs.drop e ∧ t.length = m
  | 0, k, t, e, h => by
    simp only [cellsD, Option.some.injEq, Prod.mk.injEq] at h
    obtain ⟨rfl, rfl⟩ := h
    simp
  | m + 1, k, t, e, h => by
    rw [cellsD] at h
    cases h1 : cellD bs k with
    | none => rw [h1] at h; cases h
    | some p =>
      obtain ⟨c, nx⟩ := p
      rw [h1] at h
      simp only at h
      cases h2 : cellsD bs m nx with
      | none => rw [h2] at h; cases h
      | some q =>
        obtain ⟨t', e'⟩ := q
        rw [h2] at h
        simp only [Option.some.injEq, Prod.mk.injEq] at h
        obtain ⟨rfl, rfl⟩ := h
        have h3 := cellsD_bytes h2
        refine ⟨?_, by simp [h3.2]⟩
        rw [cellD_bytes h1, h3.1, List.flatMap_cons, List.append_assoc]
theorem termD_bytes {bs : List UInt8} {k : Nat} {t : Term} {e : Nat} (h : termD bs k = some (t, e)) : trmOk t = true ∧ bs.drop k = trmBytes t ++ bs.drop e := by
  unfold termD at h
  split at h
  · next hk =>
    split at h
    · cases h
    · next t' e' h1 =>
      split at h
      · next hok =>
        simp only [Option.some.injEq, Prod.mk.injEq] at h
        obtain ⟨rfl, rfl⟩ := h
        obtain ⟨h2, h3⟩ := cellsD_bytes h1
        refine ⟨hok, ?_⟩
        unfold trmBytes
        rw [if_pos hok, h3, u8_of, drop_cons hk, h2]
        rfl
      · cases h
  · cases h
end
section
open Go.RowKit
set_option linter.unusedVariables false
set_option maxRecDepth 100000
theorem numD_in (bs : List UInt8) (k : Nat) : -100000 ≤ numD bs k ∧ numD bs k ≤ 16677215 := by
  unfold numD
  split
  · next h =>
    have h0 := bs[k].toNat_lt
    have h1 := bs[k + 1].toNat_lt
    have h2 := bs[k + 2].toNat_lt
    omega
  · omega
theorem u8_inj {a b : Int} (h : u8 a = u8 b) : a % 256 = b % 256 := by rw [← u8_toNat, ← u8_toNat, h]
theorem num3_inj {a b : Int} (h : num3 a = num3 b) (ha : -100000 ≤ a ∧ a ≤ 16677215) (hb : -100000 ≤ b ∧ b ≤ 16677215) : a = b := by
  unfold num3 at h
  simp only [List.cons.injEq, and_true] at h
  obtain ⟨h1, h2, h3⟩ := h
  have g1 := u8_inj h1
  have g2 := u8_inj h2
  have g3 := u8_inj h3
  omega
theorem numD_num3 {bs : List UInt8} {k : Nat} {n : Int} {r : List UInt8} (h : bs.drop k = num3 n ++ r) (h0 : -9999 ≤ n) (h1 : n ≤ 99999) : numD bs k = n ∧ k + 3 ≤ bs.length ∧ bs.drop (k + 3) = r := by
  have hl : k + 3 ≤ bs.length := by
    have := congrArg List.length h
    simp only [List.length_drop, List.length_append, num3, List.length_cons, List.length_nil] at this
    omega
  have h2 := num3_at hl
  rw [h] at h2
  obtain ⟨h3, h4⟩ := List.append_inj h2 (by simp [num3])
  exact ⟨(num3_inj h3 (by omega) (numD_in bs k)).symm, hl, h4.symm⟩
theorem name_nil {s : ByteArray} (h : s.toList.isEmpty = true) : s = ⟨#[]⟩ := by
  rw [List.isEmpty_iff, Lib.toList_data] at h
  exact ByteArray.ext (by rw [← Array.toList_inj, h])
theorem cellOk_noname {x : Cell} (h : cellOk x = true) (h3 : ¬ x.kind = 3) : x.name = ⟨#[]⟩ := by
  unfold cellOk at h
  split at h
  · rw [Bool.and_eq_true] at h; exact name_nil h.2
  · split at h
    · rw [Bool.and_eq_true] at h; exact name_nil h.2
    · simp at h
theorem drop_head {bs : List UInt8} {k : Nat} {x : UInt8} {r : List UInt8} (h : bs.drop k = x :: r) : ∃ hk : k < bs.length, bs[k] = x ∧ bs.drop (k + 1) = r := by
  have hk : k < bs.length := by
    have := congrArg List.length h
    simp only [List.length_drop, List.length_cons] at this
    omega
  rw [drop_cons hk] at h
  simp only [List.cons.injEq] at h
  exact ⟨hk, h.1, h.2⟩
theorem u8_small {n : Int} (h0 : 0 ≤ n) (h1 : n < 256) : (u8 n).toNat = n.toNat := by
  have := u8_toNat n
  omega
theorem cellD_of {bs : List UInt8} {k : Nat} {c : Cell} {r : List UInt8} (hc : cellOk c = true) (h : bs.drop k = cellBytes c ++ r) : cellD bs k = some (c, k + (cellBytes c).length) ∧ bs.drop (k + (cellBytes c).length) = r := by
  obtain ⟨k1, k3, n0, n1⟩ := cellOk_nums hc
  have hh := h
  unfold cellBytes at h
  rw [List.cons_append] at h
  obtain ⟨hk, hb, h⟩ := drop_head h
  rw [List.append_assoc] at h
  obtain ⟨hn, hl, h⟩ := numD_num3 h n0 n1
  have h4 : k + 4 ≤ bs.length := by omega
  have hkd : bs[k].toNat = c.kind.toNat := by rw [hb, u8_small (by omega) (by omega)]
  by_cases h3 : c.kind = 3
  · have hs := cellOk_name hc h3
    rw [if_pos h3, List.cons_append] at h
    obtain ⟨hk5, hb5, h⟩ := drop_head h
    have hk5' : k + 4 < bs.length := by omega
    have hb5' : bs[k + 4].toNat = c.name.size := by
      have : bs[k + 4] = bs[k + 1 + 3] := by congr 1
      rw [this, hb5, u8_small (by omega) (by omega)]; omega
    have hsz : c.name.data.toList.length = c.name.size := by simp
    have h6 : bs.drop (k + 5) = c.name.data.toList ++ r := by
      rw [show k + 5 = k + 1 + 3 + 1 by omega]; exact h
    have h7 : k + 5 + bs[k + 4].toNat ≤ bs.length := by
      have := congrArg List.length h6
      simp only [List.length_drop, List.length_append, hsz] at this
      omega
    have hlen : (cellBytes c).length = 5 + c.name.size := by
      unfold cellBytes
      rw [if_pos h3]
      simp only [List.length_cons, List.length_append, num3, hsz, List.length_nil]
      omega
    refine ⟨?_, ?_⟩
    · rw [cellD_c h4 (by rw [hkd, h3]; rfl) (by omega) h7, hn, h6, hb5', List.take_left' hsz, hlen, Nat.add_assoc]
      obtain ⟨kd, n, nm⟩ := c
      simp only at h3
      subst h3
      rfl
    · rw [hlen, show k + (5 + c.name.size) = (k + 5) + c.name.size by omega, ← List.drop_drop, h6, List.drop_left' hsz]
  · have hnm := cellOk_noname hc h3
    have hlen : (cellBytes c).length = 4 := by
      unfold cellBytes
      rw [if_neg h3]
      simp [num3]
    rw [if_neg h3, List.nil_append] at h
    refine ⟨?_, ?_⟩
    · rw [cellD_plain h4 (by rw [hkd]; omega), hn, hlen, hkd]
      obtain ⟨kd, n, nm⟩ := c
      simp only at hnm k1 k3
      subst hnm
      have : ((kd.toNat : Nat) : Int) = kd := by omega
      simp only [this]
    · rw [hlen, ← h]
theorem cellsD_of {bs : List UInt8} : ∀ {t : Term} {k : Nat} {r : List UInt8}, t.all cellOk = true → bs.drop k = t.flatMap cellBytes ++ r → cellsD bs t.length k = some (t, k + (t.flatMap cellBytes).length)
  | [], k, r, _, _ => by simp [cellsD]
  | c :: t, k, r, hc, h => by
    rw [List.all_cons, Bool.and_eq_true] at hc
    rw [List.flatMap_cons, List.append_assoc] at h
    obtain ⟨h1, h2⟩ := cellD_of hc.1 h
    have h3 := cellsD_of hc.2 h2
    simp only [List.length_cons, cellsD, h1, h3, List.flatMap_cons, List.length_append, Option.some.injEq, Prod.mk.injEq, true_and]
    omega
/-- What a term is written as is read as it. -/
theorem termD_of {bs : List UInt8} {k : Nat} {t : Term} {r : List UInt8} (ht : trmOk t = true) (h : bs.drop k = trmBytes t ++ r) : termD bs k = some (t, k + (trmBytes t).length) := by
  obtain ⟨h40, hall⟩ := trmOk_all ht
  have hB : trmBytes t = u8 t.length :: t.flatMap cellBytes := if_pos ht
  rw [hB, List.cons_append] at h
  obtain ⟨hk, hb, h⟩ := drop_head h
  have h1 := cellsD_of hall h
  have e : bs[k].toNat = t.length := by rw [hb, u8_small (by omega) (by omega)]; omega
  unfold termD
  rw [dif_pos hk, e, h1]
  simp only [ht, if_true, hB, List.length_cons, Option.some.injEq, Prod.mk.injEq, true_and]
  omega
theorem padB_app {n : Nat} {p r : List UInt8} (h : p.length = n) : padB n (p ++ r) = p := by
  have e : n - (p ++ r).length = 0 := by rw [List.length_append]; omega
  unfold padB
  rw [List.take_left' h, e, List.replicate_zero, List.append_nil]
theorem numB_num3 {n : Int} (h0 : -9999 ≤ n) (h1 : n ≤ 99999) : (numB (num3 n) : Int) - 99999 - 1 = n := by
  have e : numB (num3 n) = ((u8 ((n + 99999 + 1) / 65536)).toNat * 256 + (u8 ((n + 99999 + 1) / 256 % 256)).toNat) * 256 + (u8 ((n + 99999 + 1) % 256)).toNat := by simp [numB, num3]
  have g1 := u8_toNat ((n + 99999 + 1) / 65536)
  have g2 := u8_toNat ((n + 99999 + 1) / 256 % 256)
  have g3 := u8_toNat ((n + 99999 + 1) % 256)
  omega
theorem numB_one {n : Int} (h0 : 0 ≤ n) (h1 : n < 256) : numB [u8 n] = n.toNat := by
  have : numB [u8 n] = (u8 n).toNat := by simp [numB]
  rw [this, u8_small h0 h1]
theorem tkCell_of {c : Cell} {r : List UInt8} (hc : cellOk c = true) : tkCell (cellBytes c ++ r) = (c, r) := by
  obtain ⟨k1, k3, n0, n1⟩ := cellOk_nums hc
  have hl3 : (num3 c.n).length = 3 := rfl
  by_cases h3 : c.kind = 3
  · have hs := cellOk_name hc h3
    have hsz : c.name.data.toList.length = c.name.size := by simp
    have e : cellBytes c ++ r = [u8 c.kind] ++ (num3 c.n ++ ([u8 c.name.size] ++ (c.name.data.toList ++ r))) := by unfold cellBytes; rw [if_pos h3]; simp
    have d1 : (cellBytes c ++ r).drop 1 = num3 c.n ++ ([u8 c.name.size] ++ (c.name.data.toList ++ r)) := by rw [e]; rfl
    have p1 : numB (padB 1 (cellBytes c ++ r)) = 3 := by rw [e, padB_app (p := [u8 c.kind]) (n := 1) rfl, numB_one (by omega) (by omega), h3]; rfl
    have d2 : ((cellBytes c ++ r).drop 1).drop 3 = [u8 c.name.size] ++ (c.name.data.toList ++ r) := by rw [d1]; exact List.drop_left' hl3
    have d3 : (((cellBytes c ++ r).drop 1).drop 3).drop 1 = c.name.data.toList ++ r := by rw [d2]; rfl
    have p2 : numB (padB 1 (((cellBytes c ++ r).drop 1).drop 3)) = c.name.size := by rw [d2, padB_app (p := [u8 c.name.size]) (n := 1) rfl, numB_one (by omega) (by omega)]; omega
    have p3 : (numB (padB 3 ((cellBytes c ++ r).drop 1)) : Int) - 99999 - 1 = c.n := by rw [d1, padB_app hl3]; exact numB_num3 n0 n1
    unfold tkCell
    rw [if_pos p1, p2, p3, d3, padB_app hsz, List.drop_left' hsz]
    obtain ⟨kd, n, nm⟩ := c
    simp only at h3
    subst h3
    rfl
  · have hnm := cellOk_noname hc h3
    have e : cellBytes c ++ r = [u8 c.kind] ++ (num3 c.n ++ r) := by unfold cellBytes; rw [if_neg h3]; simp
    have d1 : (cellBytes c ++ r).drop 1 = num3 c.n ++ r := by rw [e]; rfl
    have p1 : numB (padB 1 (cellBytes c ++ r)) = c.kind.toNat := by rw [e, padB_app (p := [u8 c.kind]) (n := 1) rfl, numB_one (by omega) (by omega)]
    have d2 : ((cellBytes c ++ r).drop 1).drop 3 = r := by rw [d1]; exact List.drop_left' hl3
    have p3 : (numB (padB 3 ((cellBytes c ++ r).drop 1)) : Int) - 99999 - 1 = c.n := by rw [d1, padB_app hl3]; exact numB_num3 n0 n1
    unfold tkCell
    rw [p1, if_neg (by omega), p3, d2]
    obtain ⟨kd, n, nm⟩ := c
    simp only at hnm k1 k3
    subst hnm
    have : ((kd.toNat : Nat) : Int) = kd := by omega
    simp only [this]
theorem tkCells_of : ∀ {t : Term} {r : List UInt8}, t.all cellOk = true → tkCells t.length (t.flatMap cellBytes ++ r) = t
  | [], r, _ => rfl
  | c :: t, r, hc => by
    rw [List.all_cons, Bool.and_eq_true] at hc
    rw [List.flatMap_cons, List.append_assoc, List.length_cons, tkCells, tkCell_of hc.1]
    simp only
    rw [tkCells_of hc.2]
theorem tkTerm_of {t : Term} {r : List UInt8} (ht : trmOk t = true) : tkTerm (trmBytes t ++ r) = t := by
  obtain ⟨h40, hall⟩ := trmOk_all ht
  have hB : trmBytes t ++ r = [u8 t.length] ++ (t.flatMap cellBytes ++ r) := by
    have : trmBytes t = u8 t.length :: t.flatMap cellBytes := if_pos ht
    rw [this]; rfl
  unfold tkTerm
  rw [hB, padB_app (p := [u8 t.length]) (n := 1) rfl, numB_one (by omega) (by omega)]
  have : ((t.length : Int)).toNat = t.length := by omega
  rw [this]
  exact tkCells_of hall
/-- The term that all bytes are, and whether they are one. -/
def takeD (bs : List UInt8) : Term × Bool := if (termAns (termD bs 0)).2 = bs.length then ((termAns (termD bs 0)).1, true) else ([], false)
end
section
open Go.RowKit
set_option linter.unusedVariables false
/-- What stands in a frame. -/
def midB (bs : List UInt8) : List UInt8 := (bs.take (bs.length - 2)).drop 2
theorem frame_parts {bs : List UInt8} (h : 4 ≤ bs.length) : ∃ a b m c d, bs = a :: b :: (m ++ [c, d]) := by
  obtain ⟨a, b, r, rfl⟩ : ∃ a b r, bs = a :: b :: r := by
    match bs, h with
    | a :: b :: r, _ => exact ⟨a, b, r, rfl⟩
  simp only [List.length_cons] at h
  have h2 : (r.drop (r.length - 2)).length = 2 := by rw [List.length_drop]; omega
  obtain ⟨c, d, e⟩ : ∃ c d, r.drop (r.length - 2) = [c, d] := by
    match hq : r.drop (r.length - 2), h2 with
    | [c, d], _ => exact ⟨c, d, rfl⟩
  exact ⟨a, b, r.take (r.length - 2), c, d, by rw [← e, List.take_append_drop]⟩
theorem mid_of (a b c d : UInt8) (m : List UInt8) : midB (a :: b :: (m ++ [c, d])) = m := by
  unfold midB
  have e : (a :: b :: (m ++ [c, d])).length - 2 = m.length + 2 := by simp
  rw [e, List.take_succ_cons, List.take_succ_cons, List.take_left' rfl]
  rfl
theorem frame_of (a b c d : UInt8) (m : List UInt8) (h : m.length ≤ 60000) : (frameB m = a :: b :: (m ++ [c, d])) ↔ ((a.toNat : Int) * 256 + b.toNat = m.length ∧ (c.toNat : Int) = sumB (a :: b :: m) / 256 ∧ (d.toNat : Int) = sumB (a :: b :: m) % 256) := by
  have ha := a.toNat_lt
  have hb := b.toNat_lt
  have e1 : frameB m = u8 ((m.length : Int) / 256) :: u8 ((m.length : Int) % 256) :: (m ++ [u8 (sumB (frameO m) / 256), u8 (sumB (frameO m) % 256)]) := rfl
  have e2 : frameO m = u8 ((m.length : Int) / 256) :: u8 ((m.length : Int) % 256) :: m := rfl
  constructor
  · intro e
    rw [e1] at e
    simp only [List.cons.injEq, List.append_cancel_left_eq, and_true] at e
    obtain ⟨rfl, rfl, rfl, rfl⟩ := e
    rw [e2]
    have hs := sumB_in (u8 ((m.length : Int) / 256) :: u8 ((m.length : Int) % 256) :: m)
    refine ⟨?_, ?_, ?_⟩
    · rw [u8_toNat, u8_toNat]; omega
    · rw [u8_toNat]; omega
    · rw [u8_toNat]; omega
  · rintro ⟨h1, h2, h3⟩
    have ea : u8 ((m.length : Int) / 256) = a := by rw [← h1]; rw [show ((a.toNat : Int) * 256 + b.toNat) / 256 = a.toNat from by omega]; exact u8_of a
    have eb : u8 ((m.length : Int) % 256) = b := by rw [← h1]; rw [show ((a.toNat : Int) * 256 + b.toNat) % 256 = b.toNat from by omega]; exact u8_of b
    rw [e1, e2, ea, eb, ← h2, ← h3, u8_of, u8_of]
theorem frame_len (m : List UInt8) : (frameB m).length = m.length + 4 := by
  unfold frameB
  rw [List.length_append, frameO_len]
  simp
/-- What l6Body answers. -/
def bodyD (bs : List UInt8) : Option (List UInt8) := if 4 ≤ bs.length ∧ bs.length ≤ 1104 ∧ frameB (midB bs) = bs then some (midB bs) else none
theorem mid_frame (m : List UInt8) : midB (frameB m) = m := mid_of _ _ _ _ m
theorem bodyD_frame {m : List UInt8} (h : m.length ≤ 1100) : bodyD (frameB m) = some m := by
  unfold bodyD
  rw [frame_len, mid_frame, if_pos ⟨by omega, by omega, rfl⟩]
theorem bodyD_of {bs b : List UInt8} (h : bodyD bs = some b) : bs = frameB b ∧ b.length ≤ 1100 := by
  unfold bodyD at h
  split at h
  · next hc =>
    simp only [Option.some.injEq] at h
    have hl := congrArg List.length hc.2.2
    rw [frame_len] at hl
    subst h
    exact ⟨hc.2.2.symm, by omega⟩
  · cases h
/-- The message of a body, so far as its places end at e. -/
noncomputable def finD (b : List UInt8) (m : Msg) (e : Nat) : Option Msg := if e = b.length ∧ msgOk m = true then some m else none
noncomputable def bodyM (b : List UInt8) : Option Msg :=
  if h : 7 ≤ b.length then match termD b 6 with
    | none => none
    | some (top, e1) => if b[2].toNat = 2 then match termD b e1 with
        | none => none
        | some (t, e2) => finD b ⟨b[0].toNat, b[1].toNat, top, numD b 3, ⟨2, t⟩⟩ e2
      else finD b ⟨b[0].toNat, b[1].toNat, top, numD b 3, ⟨b[2].toNat, []⟩⟩ e1
  else none
/-- What the reference reads. -/
noncomputable def readD (bs : List UInt8) : Option Msg := match bodyD bs with
  | none => none
  | some b => bodyM b
/-- What the program takes. -/
def tkMsg (bs : List UInt8) : Msg :=
  ⟨numB (padB 1 (bs.drop 2)), numB (padB 1 ((bs.drop 2).drop 1)), tkTerm (((((bs.drop 2).drop 1).drop 1).drop 1).drop 3), (numB (padB 3 ((((bs.drop 2).drop 1).drop 1).drop 1)) : Int) - 99999 - 1,
    ⟨numB (padB 1 (((bs.drop 2).drop 1).drop 1)), if numB (padB 1 (((bs.drop 2).drop 1).drop 1)) = 2 then tkTerm (tkLeft (((((bs.drop 2).drop 1).drop 1).drop 1).drop 3)) else []⟩⟩
theorem tkLefts_of : ∀ {t : Term} {r : List UInt8}, t.all cellOk = true → tkLefts t.length (t.flatMap cellBytes ++ r) = r
  | [], r, _ => rfl
  | c :: t, r, hc => by
    rw [List.all_cons, Bool.and_eq_true] at hc
    rw [List.flatMap_cons, List.append_assoc, List.length_cons, tkLefts, tkCell_of hc.1]
    exact tkLefts_of hc.2
theorem tkLeft_of {t : Term} {r : List UInt8} (ht : trmOk t = true) : tkLeft (trmBytes t ++ r) = r := by
  obtain ⟨h40, hall⟩ := trmOk_all ht
  have hB : trmBytes t ++ r = [u8 t.length] ++ (t.flatMap cellBytes ++ r) := by
    have : trmBytes t = u8 t.length :: t.flatMap cellBytes := if_pos ht
    rw [this]; rfl
  unfold tkLeft
  rw [hB, padB_app (p := [u8 t.length]) (n := 1) rfl, numB_one (by omega) (by omega)]
  have : ((t.length : Int)).toNat = t.length := by omega
  rw [this]
  exact tkLefts_of hall
theorem question_ok {t : Term} (h : question t = true) : trmOk t = true := by
  unfold question at h
  simp only [Bool.and_eq_true] at h
  first | exact h.1.1 | exact h.1
/-- What holds of a message that is ok. -/
theorem msgOk_parts {m : Msg} (h : msgOk m = true) : trmOk m.top = true ∧ (1 ≤ m.n ∧ m.n ≤ 12000) ∧ (0 ≤ m.kind ∧ m.kind ≤ 2) ∧ (0 ≤ m.from_ ∧ m.from_ ≤ 3) ∧ (0 ≤ m.out.status ∧ m.out.status ≤ 5) ∧ (m.out.status = 2 → trmOk m.out.term = true) ∧ (m.out.status ≠ 2 → m.out.term = []) := by
  have hn := msgOk_n h
  unfold msgOk at h
  rw [Bool.and_eq_true, Bool.and_eq_true] at h
  obtain ⟨h1, -, h3⟩ := h
  refine ⟨question_ok h1, hn, ?_⟩
  split at h3
  · next hk =>
    simp only [Bool.and_eq_true, beq_iff_eq, inB, decide_eq_true_eq] at h3
    obtain ⟨h4, h5, h6⟩ := h3
    have h7 : m.out.term = [] := List.eq_nil_of_length_eq_zero (by omega)
    exact ⟨by omega, by omega, by omega, fun e => by omega, fun _ => h7⟩
  · simp only [Bool.and_eq_true, beq_iff_eq] at h3
    obtain ⟨h4, h5, h6⟩ := h3
    unfold outOk at h6
    rw [Bool.and_eq_true] at h6
    obtain ⟨-, h6⟩ := h6
    split at h6
    · next h7 =>
      simp only [Bool.and_eq_true] at h6
      exact ⟨by omega, by omega, by omega, fun _ => h6.1.1, fun e => absurd h7 e⟩
    · next h7 =>
      simp only [Bool.and_eq_true, inB, decide_eq_true_eq] at h6
      exact ⟨by omega, by omega, by omega, fun e => absurd e h7, fun _ => h6.2⟩
theorem trmBytes_len' (t : Term) : (trmBytes t).length ≤ 521 := by
  unfold trmBytes
  split
  · next h =>
    obtain ⟨h1, h2⟩ := trmOk_all h
    have := bytes_len h2
    rw [List.length_cons]; omega
  · simp
theorem msgBody_len' (m : Msg) : (msgBody m).length ≤ 1048 := by
  unfold msgBody
  have h1 := trmBytes_len' m.top
  have h2 := trmBytes_len' m.out.term
  have h3 : (num3 m.n).length = 3 := rfl
  split <;> simp only [List.length_append, h3, List.length_cons, List.length_nil] <;> omega
theorem msgBytes_of {m : Msg} (h : msgOk m = true) : msgBytes m = frameB (msgBody m) := if_pos h
/-- A message's bytes are taken as it. -/
theorem tkMsg_of {m : Msg} (h : msgOk m = true) : tkMsg (msgBytes m) = m := by
  obtain ⟨ht, hn, hk, hf, hs, hs2, hs0⟩ := msgOk_parts h
  rw [msgBytes_of h]
  obtain ⟨c, d, e0⟩ : ∃ c d, (frameB (msgBody m)).drop 2 = msgBody m ++ [c, d] := ⟨_, _, rfl⟩
  have e1 : msgBody m ++ [c, d] = [u8 m.kind] ++ ([u8 m.from_] ++ ([u8 m.out.status] ++ (num3 m.n ++ (trmBytes m.top ++ ((if m.out.status = 2 then trmBytes m.out.term else []) ++ [c, d]))))) := by
    unfold msgBody; simp only [List.append_assoc, List.cons_append, List.nil_append]
  have d1 : (([u8 m.kind] ++ ([u8 m.from_] ++ ([u8 m.out.status] ++ (num3 m.n ++ (trmBytes m.top ++ ((if m.out.status = 2 then trmBytes m.out.term else []) ++ [c, d])))))) : List UInt8).drop 1 = [u8 m.from_] ++ ([u8 m.out.status] ++ (num3 m.n ++ (trmBytes m.top ++ ((if m.out.status = 2 then trmBytes m.out.term else []) ++ [c, d])))) := rfl
  have d2 : ([u8 m.from_] ++ ([u8 m.out.status] ++ (num3 m.n ++ (trmBytes m.top ++ ((if m.out.status = 2 then trmBytes m.out.term else []) ++ [c, d])))) : List UInt8).drop 1 = [u8 m.out.status] ++ (num3 m.n ++ (trmBytes m.top ++ ((if m.out.status = 2 then trmBytes m.out.term else []) ++ [c, d]))) := rfl
  have d3 : ([u8 m.out.status] ++ (num3 m.n ++ (trmBytes m.top ++ ((if m.out.status = 2 then trmBytes m.out.term else []) ++ [c, d]))) : List UInt8).drop 1 = num3 m.n ++ (trmBytes m.top ++ ((if m.out.status = 2 then trmBytes m.out.term else []) ++ [c, d])) := rfl
  have d4 : (num3 m.n ++ (trmBytes m.top ++ ((if m.out.status = 2 then trmBytes m.out.term else []) ++ [c, d])) : List UInt8).drop 3 = trmBytes m.top ++ ((if m.out.status = 2 then trmBytes m.out.term else []) ++ [c, d]) := rfl
  unfold tkMsg
  rw [e0, e1, d1, d2, d3, d4]
  rw [padB_app (p := [u8 m.kind]) (n := 1) rfl, padB_app (p := [u8 m.from_]) (n := 1) rfl, padB_app (p := [u8 m.out.status]) (n := 1) rfl, padB_app (p := num3 m.n) (n := 3) rfl, numB_one hk.1 (by omega), numB_one hf.1 (by omega), numB_one hs.1 (by omega), numB_num3 (by omega) (by omega), tkTerm_of ht, tkLeft_of ht]
  obtain ⟨kd, fr, tp, n, st, tm⟩ := m
  simp only at hk hf hs hs2 hs0 ⊢
  have a1 : ((kd.toNat : Nat) : Int) = kd := by omega
  have a2 : ((fr.toNat : Nat) : Int) = fr := by omega
  have a3 : ((st.toNat : Nat) : Int) = st := by omega
  rw [a1, a2, a3]
  by_cases h2 : st = 2
  · have h2' : st.toNat = 2 := by omega
    rw [if_pos h2, if_pos h2', tkTerm_of (hs2 h2)]
  · have h2' : ¬ st.toNat = 2 := by omega
    rw [if_neg h2', hs0 h2]
/-- A message's bytes are read as it. -/
theorem readD_of {m : Msg} (h : msgOk m = true) : readD (msgBytes m) = some m := by
  obtain ⟨ht, hn, hk, hf, hs, hs2, hs0⟩ := msgOk_parts h
  have hl := msgBody_len' m
  rw [msgBytes_of h]
  unfold readD
  rw [bodyD_frame (by omega)]
  simp only
  obtain ⟨r, hr⟩ : ∃ r, r = trmBytes m.top ++ (if m.out.status = 2 then trmBytes m.out.term else []) := ⟨_, rfl⟩
  have e : msgBody m = u8 m.kind :: u8 m.from_ :: u8 m.out.status :: (num3 m.n ++ r) := by
    rw [hr]; unfold msgBody; simp only [List.append_assoc, List.cons_append, List.nil_append]
  have hd3 : (msgBody m).drop 3 = num3 m.n ++ r := by rw [e]; rfl
  obtain ⟨q1, q2, q3⟩ := numD_num3 hd3 (by omega) (by omega)
  have hd6 : (msgBody m).drop 6 = trmBytes m.top ++ (if m.out.status = 2 then trmBytes m.out.term else []) := by rw [← hr]; exact q3
  have t6 := termD_of ht hd6
  have hlen : (msgBody m).length = 6 + (trmBytes m.top).length + (if m.out.status = 2 then trmBytes m.out.term else []).length := by
    have := congrArg List.length hd6
    rw [List.length_drop, List.length_append] at this
    omega
  have h7 : 7 ≤ (msgBody m).length := by
    have : 1 ≤ (trmBytes m.top).length := by rw [show trmBytes m.top = u8 m.top.length :: m.top.flatMap cellBytes from if_pos ht]; simp
    omega
  unfold bodyM
  rw [dif_pos h7, t6]
  simp only [q1]
  have g0 : (msgBody m)[0] = u8 m.kind := by simp only [e]; rfl
  have g1 : (msgBody m)[1] = u8 m.from_ := by simp only [e]; rfl
  have g2 : (msgBody m)[2] = u8 m.out.status := by simp only [e]; rfl
  rw [g0, g1, g2, u8_small hk.1 (by omega), u8_small hf.1 (by omega), u8_small hs.1 (by omega)]
  have hdr : (msgBody m).drop (6 + (trmBytes m.top).length) = (if m.out.status = 2 then trmBytes m.out.term else []) := by
    rw [← List.drop_drop, hd6]; exact List.drop_left
  have ek : ((m.kind.toNat : Nat) : Int) = m.kind := by omega
  have ef : ((m.from_.toNat : Nat) : Int) = m.from_ := by omega
  have es : ((m.out.status.toNat : Nat) : Int) = m.out.status := by omega
  by_cases h2 : m.out.status = 2
  · rw [if_pos (by omega)]
    rw [if_pos h2] at hdr hlen
    have := termD_of (r := []) (hs2 h2) (by rw [List.append_nil]; exact hdr)
    rw [this]
    simp only [ek, ef]
    have em : (⟨m.kind, m.from_, m.top, m.n, ⟨2, m.out.term⟩⟩ : Msg) = m := by rw [← h2]
    rw [em]
    unfold finD
    rw [if_pos ⟨by omega, h⟩]
  · rw [if_neg (by omega)]
    rw [if_neg h2] at hlen
    simp only [ek, ef, es]
    have em : (⟨m.kind, m.from_, m.top, m.n, ⟨m.out.status, []⟩⟩ : Msg) = m := by rw [← hs0 h2]
    rw [em]
    unfold finD
    rw [if_pos ⟨by simp only [List.length_nil] at hlen; omega, h⟩]
/-- What is read has these bytes. -/
theorem readD_bytes {bs : List UInt8} {m : Msg} (h : readD bs = some m) : msgOk m = true ∧ msgBytes m = bs := by
  unfold readD at h
  split at h
  · cases h
  · next b hb =>
    obtain ⟨rfl, hlb⟩ := bodyD_of hb
    have fin : ∀ (x : Msg) (e : Nat), finD b x e = some m → e = b.length ∧ x = m ∧ msgOk m = true := fun x e he => by
      unfold finD at he
      split at he
      · next hc => simp only [Option.some.injEq] at he; subst he; exact ⟨hc.1, rfl, hc.2⟩
      · cases he
    suffices hs : msgOk m = true ∧ msgBody m = b from ⟨hs.1, by rw [msgBytes_of hs.1, hs.2]⟩
    unfold bodyM at h
    split at h
    · next h7 =>
      have e3 : b = b[0] :: b[1] :: b[2] :: b.drop 3 := by
        rw [← drop_cons (by omega : 2 < b.length), ← drop_cons (by omega : 1 < b.length), ← drop_cons (by omega : 0 < b.length), List.drop_zero]
      have e4 : b.drop 3 = num3 (numD b 3) ++ b.drop 6 := num3_at (by omega)
      split at h
      · cases h
      · next top e1 h1 =>
        obtain ⟨ht, e5⟩ := termD_bytes h1
        have body : ∀ (t : List UInt8), b.drop e1 = t → b = [u8 (b[0].toNat : Int), u8 (b[1].toNat : Int), u8 (b[2].toNat : Int)] ++ num3 (numD b 3) ++ trmBytes top ++ t := fun t hq => by
          rw [u8_of, u8_of, u8_of]
          conv => lhs; rw [e3, e4, e5, hq]
          simp only [List.append_assoc, List.cons_append, List.nil_append]
        split at h
        · next h2 =>
          split at h
          · cases h
          · next t e2 h3 =>
            obtain ⟨ht2, e6⟩ := termD_bytes h3
            obtain ⟨rfl, rfl, hok⟩ := fin _ _ h
            rw [List.drop_length, List.append_nil] at e6
            refine ⟨hok, ?_⟩
            have := body _ e6
            unfold msgBody
            simp only [if_true]
            rw [show ((2 : Int)) = ((b[2].toNat : Nat) : Int) from by rw [h2]; rfl]
            exact this.symm
        · next h2 =>
          obtain ⟨rfl, rfl, hok⟩ := fin _ _ h
          refine ⟨hok, ?_⟩
          have := body _ (List.drop_length (l := b))
          unfold msgBody
          simp only
          rw [if_neg (by omega)]
          exact this.symm
    · cases h
/-- Both read the same. -/
theorem read_same (bs : List UInt8) : readD bs = if msgOk (tkMsg bs) = true ∧ msgBytes (tkMsg bs) = bs then some (tkMsg bs) else none := by
  split
  · next h => conv => lhs; rw [← h.2]
              exact readD_of h.1
  · next h =>
    cases hr : readD bs with
    | none => rfl
    | some m =>
      obtain ⟨h1, h2⟩ := readD_bytes hr
      have h3 := tkMsg_of h1
      rw [h2] at h3
      rw [h3] at h
      exact absurd ⟨h1, h2⟩ h
end
section
open Go.RowKit
set_option linter.unusedVariables false
set_option maxRecDepth 100000
theorem V_take {α : Type} {d : Kd α} {w : World} {ok : Nat → Prop} {A : Option Addr} {n c k : Nat} {xs : List α} (h : d.V w ok (.slice A n c) xs) (hk : k ≤ xs.length) : d.V w ok (.slice A k c) (xs.take k) := by
  obtain ⟨A', c', e, h1, h2, h3, h4, h5⟩ := h
  simp only [Value.slice.injEq] at e
  obtain ⟨rfl, rfl, rfl⟩ := e
  have hl : (xs.take k).length = k := by rw [List.length_take]; omega
  exact ⟨A, c, by rw [hl], by omega, h2, by omega, Kd.C_take h4 k, h5⟩
theorem kByte_drop {w : World} {ok : Nat → Prop} {b off n c k : Nat} {xs : List UInt8} (h : kByte.V w ok (.slice (some ⟨b, off, none⟩) n c) xs) (hk : k ≤ xs.length) : kByte.V w ok (.slice (some ⟨b, off + k, none⟩) (xs.length - k) (c - k)) (xs.drop k) := by
  obtain ⟨A', c', e, h1, h2, h3, h4, h5⟩ := h
  simp only [Value.slice.injEq] at e
  obtain ⟨rfl, rfl, rfl⟩ := e
  have := Kd.C_drop h4 k
  rw [show kByte.sz = 1 from rfl, Nat.mul_one] at this
  exact ⟨_, c - k, by rw [List.length_drop], by rw [List.length_drop]; omega, by omega, by rw [List.length_drop]; omega, this, fun e => by cases e⟩
end
section
open Go.RowKit
set_option linter.unusedVariables false
set_option maxRecDepth 100000
theorem belQ2 {n q : Nat} {w W : World} (h : Below n w W) : Below n w (W.drewN q) := ⟨h.os, h.tape, h.output, h.size, h.block⟩
def BodyOut (w : World) (ok : Nat → Prop) (r : Option (List UInt8)) (e : Ending) (w' : World) : Prop := ∃ u, e = .returned (.tuple #[u, .bool r.isSome]) ∧ (∀ b, r = some b → kByte.V w' ok u b) ∧ Below w.heap.size w w'
theorem bodyD_no {bs : List UInt8} (h : ¬ (4 ≤ bs.length ∧ bs.length ≤ 1104 ∧ frameB (midB bs) = bs)) : bodyD bs = none := if_neg h
set_option maxHeartbeats 4000000 in
theorem l6Body_c (v : Value) (bs : List UInt8) (ok : Nat → Prop) (w : World) (hl : bs.length ≤ 10000000) (hV : kByte.V w ok v bs) :
    Calls Tryz.prog 35 #[v] w (BodyOut w ok (bodyD bs)) := by
  have HV := Sec.mk hV
  obtain ⟨A, c, rfl, h1, h2, h3, hC, _⟩ := hV
  have HC := Sec.mk hC
  clear hC
  by_cases hlo : bs.length < 4
  · have HE : Sec (bodyD bs = none) := ⟨bodyD_no (fun h => by omega)⟩
    have g1 : decide ((bs.length : Int) - 4 < 0) = true := decide_eq_true (by omega)
    clear h1 h2 h3
    unfold BodyOut
    go_enter Tryz.func35, Tryz.ntmps35
    go_wp2
    go_quiet (fail)
    go_wp2
    go_ret2
    exact ⟨_, by rw [HE.out]; rfl, (fun b hb => by rw [HE.out] at hb; cases hb), belA (belQ2 (Below.refl _ _)) _⟩
  · by_cases hhi : 1104 < bs.length
    · have HE : Sec (bodyD bs = none) := ⟨bodyD_no (fun h => by omega)⟩
      obtain ⟨q, hq⟩ : ∃ q : Nat, bs.length = q + 4 := ⟨bs.length - 4, by omega⟩
      obtain ⟨z, hz⟩ : ∃ z : Int, z = q := ⟨_, rfl⟩
      have e0 : (bs.length : Int) - 4 = z := by omega
      have g1 : decide (z < 0) = false := decide_eq_false (by omega)
      have g2 : decide (1100 < z) = true := decide_eq_true (by omega)
      clear h1 h2 h3 hq hz
      unfold BodyOut
      go_enter Tryz.func35, Tryz.ntmps35
      go_wp2
      go_quiet (fail)
      go_wp2
      go_ret2
      exact ⟨_, by rw [HE.out]; rfl, (fun b hb => by rw [HE.out] at hb; cases hb), belA (belQ2 (Below.refl _ _)) _⟩
    · obtain ⟨y0, y1, m, y2, y3, hbs⟩ := frame_parts (by omega : 4 ≤ bs.length)
      have hq : bs.length = m.length + 4 := by rw [hbs]; simp
      obtain ⟨b, off, rfl, hob, x0⟩ := byteAt HC.out 0 (by omega)
      obtain ⟨b', off', hA', _, x1⟩ := byteAt HC.out 1 (by omega)
      simp only [Option.some.injEq, Addr.mk.injEq, and_true] at hA'
      obtain ⟨rfl, rfl⟩ := hA'
      obtain ⟨b', off', hA', _, x2⟩ := byteAt HC.out (m.length + 2) (by omega)
      simp only [Option.some.injEq, Addr.mk.injEq, and_true] at hA'
      obtain ⟨rfl, rfl⟩ := hA'
      obtain ⟨b', off', hA', _, x3⟩ := byteAt HC.out (m.length + 3) (by omega)
      simp only [Option.some.injEq, Addr.mk.injEq, and_true] at hA'
      obtain ⟨rfl, rfl⟩ := hA'
      rw [show bs[0] = y0 from by simp only [hbs]; rfl, Nat.add_zero] at x0
      rw [show bs[1] = y1 from by simp only [hbs]; rfl] at x1
      rw [show bs[m.length + 2] = y2 from by simp [hbs]] at x2
      rw [show bs[m.length + 3] = y3 from by simp [hbs, List.getElem_append_right]] at x3
      have htk : bs.take (m.length + 2) = y0 :: y1 :: m := by rw [hbs, List.take_succ_cons, List.take_succ_cons, List.take_left' rfl]
      have hmid : midB bs = m := by rw [hbs]; exact mid_of _ _ _ _ m
      have hfr : frameB (midB bs) = bs ↔ ((y0.toNat : Int) * 256 + y1.toNat = m.length ∧ (y2.toNat : Int) = sumB (y0 :: y1 :: m) / 256 ∧ (y3.toNat : Int) = sumB (y0 :: y1 :: m) % 256) := by
        rw [hmid]
        have := frame_of y0 y1 y2 y3 m (by omega)
        rwa [← hbs] at this
      have HT := Sec.mk (V_take (k := m.length + 2) HV.out (by omega))
      rw [htk] at HT
      have HM : Sec (kByte.V w ok (.slice (some ⟨b, off + 2, none⟩) m.length (c - 2)) m) := ⟨by
        have := kByte_drop (k := 2) HT.out (by simp)
        simpa using this⟩
      have l0 : y0.toNat < 256 := y0.toNat_lt
      have l1 : y1.toNat < 256 := y1.toNat_lt
      have l2 : y2.toNat < 256 := y2.toNat_lt
      have l3 : y3.toNat < 256 := y3.toNat_lt
      have hs := sumB_in (y0 :: y1 :: m)
      have hcap : bs.length ≤ c := h1
      unfold maxLen at h2
      generalize hfo : y0 :: y1 :: m = fo at *
      generalize y0.toNat = a0 at *
      generalize y1.toNat = a1 at *
      generalize y2.toNat = a2 at *
      generalize y3.toNat = a3 at *
      generalize hqm : m.length = q at *
      have hq' : q ≤ 1100 := by omega
      have HNO : Sec (¬ ((a0 : Int) * 256 + a1 = q ∧ (a2 : Int) = sumB fo / 256 ∧ (a3 : Int) = sumB fo % 256) → bodyD bs = none) := ⟨fun h => bodyD_no (fun hh => h (hfr.1 hh.2.2))⟩
      have HYES : Sec (((a0 : Int) * 256 + a1 = q ∧ (a2 : Int) = sumB fo / 256 ∧ (a3 : Int) = sumB fo % 256) → bodyD bs = some m) := ⟨fun h => by unfold bodyD; rw [if_pos ⟨by omega, by omega, hfr.2 h⟩, hmid]⟩
      have hN : bs.length = q + 4 := hq
      generalize hnn : bs.length = N at *
      obtain ⟨z, hz⟩ : ∃ z : Int, z = q := ⟨_, rfl⟩
      have e0 : (N : Int) - 4 = z := by omega
      have g1 : decide (z < 0) = false := decide_eq_false (by omega)
      have g2 : decide (1100 < z) = false := decide_eq_false (by omega)
      obtain ⟨q2, hq2⟩ : ∃ q2 : Nat, q2 = q + 2 := ⟨_, rfl⟩
      obtain ⟨q3, hq3⟩ : ∃ q3 : Nat, q3 = q + 3 := ⟨_, rfl⟩
      have n2 : z + 2 = (q2 : Int) := by omega
      have n3 : z + 3 = (q3 : Int) := by omega
      rw [← hq2] at x2 HT
      rw [← hq3] at x3
      have HN := Sec.mk hN
      have HB : Sec (Sec (q2 ≤ N ∧ q3 < N ∧ 2 ≤ q2 ∧ N ≤ c ∧ 3 ≤ c ∧ q2 - 2 = q)) := ⟨⟨by omega⟩⟩
      clear hN hq hnn hfr hmid htk hfo hqm hbs hlo hhi h1 hq2 hq3 h3
      have b2 : (q2 : Int) ≤ (N : Int) := by have := HB.out.out; omega
      have b3 : (q2 : Int) < (N : Int) := by have := HB.out.out; omega
      have b4 : (q3 : Int) < (N : Int) := by have := HB.out.out; omega
      have b5 : (q2 : Int) ≤ (c : Int) := by have := HB.out.out; omega
      have b6 : (0 : Int) < (N : Int) := by have := HB.out.out; omega
      have b7 : (1 : Int) < (N : Int) := by have := HB.out.out; omega
      have c6 : 0 < N := by have := HB.out.out; omega
      have c7 : 1 < N := by have := HB.out.out; omega
      have b8 : (2 : Int) ≤ (q2 : Int) := by have := HB.out.out; omega
      have b9 : ¬ (c = 2) := by have := HB.out.out; omega
      rw [← hz] at HNO HYES
      clear hcap hz
      cases hd : (((a0 : Int) * 256 + a1) != z) with
      | true =>
        have HE : Sec (bodyD bs = none) := ⟨HNO.out (fun h => by rw [h.1] at hd; simp at hd)⟩
        unfold BodyOut
        go_enter Tryz.func35, Tryz.ntmps35
        go_wp2
        go_quiet (fail)
        go_wp2
        go_ret2
        exact ⟨_, by rw [HE.out]; rfl, (fun b hb => by rw [HE.out] at hb; cases hb), belA (belQ2 (Below.refl _ _)) _⟩
      | false =>
        have hde : (a0 : Int) * 256 + a1 = z := by simpa using hd
        have HD := Sec.mk hde
        clear hde
        cases he : ((a2 : Int) != sumB fo / 256) with
        | true =>
          have HE : Sec (bodyD bs = none) := ⟨HNO.out (fun h => by rw [h.2.1] at he; simp at he)⟩
          unfold BodyOut
          go_enter Tryz.func35, Tryz.ntmps35
          go_wp2
          go_quiet (fail)
          go_wp2_with (go_at_call 49; refine (specMsgSum_c _ _ fo _ (Kd.V_below HT.out (belQ2 (Below.refl _ _)) (by decide))).mono ?_; rintro e w' ⟨rfl, rfl⟩)
          go_wp2
          go_ret2
          exact ⟨_, by rw [HE.out]; rfl, (fun b hb => by rw [HE.out] at hb; cases hb), belA (belQ2 (Below.refl _ _)) _⟩
        | false =>
          have HF := Sec.mk (by simpa using he : (a2 : Int) = sumB fo / 256)
          cases hg : ((a3 : Int) != sumB fo % 256) with
          | true =>
            have HE : Sec (bodyD bs = none) := ⟨HNO.out (fun h => by rw [h.2.2] at hg; simp at hg)⟩
            unfold BodyOut
            go_enter Tryz.func35, Tryz.ntmps35
            go_wp2
            go_quiet (fail)
            go_wp2_with (go_at_call 49; refine (specMsgSum_c _ _ fo _ (Kd.V_below HT.out (belQ2 (Below.refl _ _)) (by decide))).mono ?_; rintro e w' ⟨rfl, rfl⟩)
            go_wp2
            go_ret2
            exact ⟨_, by rw [HE.out]; rfl, (fun b hb => by rw [HE.out] at hb; cases hb), belA (belQ2 (Below.refl _ _)) _⟩
          | false =>
            have HE : Sec (bodyD bs = some m) := ⟨HYES.out ⟨HD.out, HF.out, by simpa using hg⟩⟩
            unfold BodyOut
            go_enter Tryz.func35, Tryz.ntmps35
            go_wp2
            go_quiet (fail)
            go_wp2_with (go_at_call 49; refine (specMsgSum_c _ _ fo _ (Kd.V_below HT.out (belQ2 (Below.refl _ _)) (by decide))).mono ?_; rintro e w' ⟨rfl, rfl⟩)
            go_ret2
            exact ⟨_, by rw [HE.out]; rfl, (fun b hb => by rw [HE.out] at hb; obtain rfl := Option.some.inj hb; have := HB.out.out.2.2.2.2.2; rw [this]; exact Kd.V_below HM.out (belQ2 (Below.refl _ _)) (by decide)), belQ2 (Below.refl _ _)⟩
end
section
open Go.RowKit
set_option linter.unusedVariables false
set_option maxRecDepth 100000
theorem equalB_c (v u : Value) (t s : List UInt8) (ok ok' : Nat → Prop) (w : World) (hV : kByte.V w ok v t) (hU : kByte.V w ok' u s) :
    Calls Tryz.prog 41 #[v, u] w fun e w' => e = .returned (.bool (decide (t = s))) ∧ Below w.heap.size w w' := by
  obtain ⟨A, c, rfl, h1, h2, h3, hC, _⟩ := hV
  obtain ⟨B, d, rfl, k1, k2, k3, hD, _⟩ := hU
  have HC := Sec.mk hC
  have HD := Sec.mk hD
  clear hC hD
  by_cases hl : t.length = s.length
  · rw [← hl]
    have HL := Sec.mk hl
    clear hl
    go_enter Tryz.func41, Tryz.ntmps41
    go_wp2
    go_loopw [13] (fun i wr => ∃ k : Nat, k ≤ t.length ∧ i = .int .i64 k ∧ Sec (t.take k = s.take k) ∧ Sec (Below w.heap.size w wr)) (fun i _ => t.length - (intOf i).toNat)
    case atStart => exact ⟨0, Nat.zero_le _, rfl, ⟨by simp⟩, ⟨Below.refl _ _⟩⟩
    case round =>
      obtain ⟨k, hk, rfl, hT, hb⟩ := hrel
      by_cases hlt : k < t.length
      · have hlt2 : k < s.length := by have := HL.out; omega
        obtain ⟨b, off, rfl, _, x0⟩ := byte_at (Kd.C_below HC.out hb.out (by decide)) k hlt
        obtain ⟨b2, off2, rfl, _, y0⟩ := byte_at (Kd.C_below HD.out hb.out (by decide)) k hlt2
        have hT1 : Sec (t[k] = s[k] → t.take (k + 1) = s.take (k + 1)) := ⟨fun e => by rw [List.take_succ_eq_append_getElem hlt, List.take_succ_eq_append_getElem hlt2, hT.out, e]⟩
        have hT2 : Sec (t = s → t[k] = s[k]) := ⟨fun e => by subst e; rfl⟩
        generalize t[k] = x at *
        generalize s[k] = y at *
        have hue := Sec.mk (u8_eq x y)
        have i0 : (0 : Int) ≤ (k : Int) := by omega
        have i1 : (k : Int) < (t.length : Int) := by omega
        have B1 : Sec (Below w.heap.size w wr.drew) := ⟨belD hb.out⟩
        by_cases hxy : x = y
        · have HE : Sec (t.take (k + 1) = s.take (k + 1)) := ⟨hT1.out hxy⟩
          have hq : ((x.toNat : Int) == (y.toNat : Int)) = true := by rw [hue.out]; exact decide_eq_true hxy
          have hq2 : ((x.toNat : Int) != (y.toNat : Int)) = false := by simp only [bne, hq]; rfl
          clear hxy
          go_wp2
          go_region_held3 (fun W => W.cell? ⟨b, off + k, none⟩ = some (.int .u8 (x.toNat : Int)) ∧ W.cell? ⟨b2, off2 + k, none⟩ = some (.int .u8 (y.toNat : Int))) (first | (refine ⟨?_, ?_⟩ <;> assumption) | go_keep) (fail)
          all_goals
            go_wp2
            go_roundw
            case rel => exact ⟨k + 1, by omega, by go_num, HE, by first | exact hb | exact B1 | exact ⟨belD B1.out⟩⟩
            case measure => simp [intOf]; omega
        · have HE : Sec (decide (t = s) = false) := ⟨decide_eq_false (fun e => hxy (hT2.out e))⟩
          have hq : ((x.toNat : Int) == (y.toNat : Int)) = false := by rw [hue.out]; exact decide_eq_false hxy
          have hq2 : ((x.toNat : Int) != (y.toNat : Int)) = true := by simp only [bne, hq]; rfl
          clear hxy
          go_wp2
          go_region_held3 (fun W => W.cell? ⟨b, off + k, none⟩ = some (.int .u8 (x.toNat : Int)) ∧ W.cell? ⟨b2, off2 + k, none⟩ = some (.int .u8 (y.toNat : Int))) (first | (refine ⟨?_, ?_⟩ <;> assumption) | go_keep) (fail)
          all_goals
            go_wp2
            go_ret
            exact ⟨rb HE.out.symm, by first | exact hb.out | exact B1.out | exact belD B1.out⟩
      · have HE : Sec (decide (t = s) = true) := ⟨decide_eq_true (by have := hT.out; have h2 := HL.out; rwa [List.take_of_length_le (by omega), List.take_of_length_le (by omega)] at this)⟩
        go_wp2
        go_ret
        exact ⟨rb HE.out.symm, hb.out⟩
  · have hl' : ((t.length : Int) == (s.length : Int)) = false := beq_eq_false_iff_ne.2 (by omega)
    have HE : Sec (decide (t = s) = false) := ⟨decide_eq_false (fun e => hl (by rw [e]))⟩
    go_enter Tryz.func41, Tryz.ntmps41
    go_wp2
    go_ret
    exact ⟨rb HE.out.symm, Below.refl _ _⟩
theorem toSByte_c (v : Value) (t : List UInt8) (ok : Nat → Prop) (w : World) (hV : kByte.V w ok v t) :
    Calls Tryz.prog 15 #[v] w fun e w' => ∃ u, e = .returned u ∧ kByte.R w' (fun k => w.heap.size ≤ k) u t ∧ Below w.heap.size w w' := by
  obtain ⟨A, c, rfl, h1, h2, h3, hC, _⟩ := hV
  have HC := Sec.mk hC
  clear hC
  have hmk := made (P := Tryz.prog) 28 5 (.int .u8 0) 1 1 Tryz.underlying28 (by kernel_rfl) (by decide) t.length h3
  have HM := Sec.mk (Kd.R_made (d := kByte) (w := w) (B := w.heap.size) (x0 := (0 : UInt8)) (z := #[.int .u8 0]) (n := t.length) (fun w => ⟨rfl, trivial⟩) rfl (Nat.le_refl _) h3)
  rw [show t.length * kByte.sz = t.length from Nat.mul_one _] at HM
  go_enter Tryz.func15, Tryz.ntmps15
  go_wp2
  clear hmk
  go_loopw [4] (fun i wr => ∃ k : Nat, k ≤ t.length ∧ i = .int .i64 k ∧ Sec (kByte.R wr (fun k => w.heap.size ≤ k) (.slice (some ⟨w.heap.size, 0, none⟩) t.length t.length) (t.take k ++ List.replicate (t.length - k) 0)) ∧ Sec (Below w.heap.size w wr)) (fun i _ => t.length - (intOf i).toNat)
  case atStart => exact ⟨0, Nat.zero_le _, rfl, ⟨HM.out⟩, ⟨belA (Below.refl _ _) _⟩⟩
  case round =>
    obtain ⟨k, hk, rfl, hR, hb⟩ := hrel
    by_cases hlt : k < t.length
    · obtain ⟨b, off, rfl, hob, c0⟩ := byte_at (Kd.C_below HC.out hb.out (by decide)) k hlt
      have hL : Sec ((t.take k ++ List.replicate (t.length - k) 0).length = t.length) := ⟨by simp; omega⟩
      have hset : Sec ((t.take k ++ List.replicate (t.length - k) 0).set k t[k] = t.take (k + 1) ++ List.replicate (t.length - (k + 1)) 0) := ⟨put_next t 0 k hlt⟩
      generalize t[k] = x at *
      obtain ⟨cs, hA, -⟩ := Kd.At.of_R hR.out (i := k) (by rw [hL.out]; exact hlt)
      obtain ⟨rfl, -⟩ : cs = [byteC _] ∧ True := hA.K
      have A0 := Sec.mk hA
      clear hA
      have d0 := Kd.At.cell A0.out 0 _ rfl
      rw [show k * kByte.sz + 0 = k from by simp [kByte, Kd.byte, Kd.scalar]] at d0
      have f0 : wr.frozen? ⟨w.heap.size, k, none⟩ = false := Kd.At.frozen A0.out k
      have A1 : Sec (kByte.R (wr.setCell ⟨w.heap.size, k, none⟩ (.int .u8 (x.toNat : Int))) (fun k => w.heap.size ≤ k) (.slice (some ⟨w.heap.size, 0, none⟩) t.length t.length) ((t.take k ++ List.replicate (t.length - k) 0).set k x)) := ⟨by
        have := Kd.At.R (Kd.At.store A0.out (Kd.Fld.self kByte) rfl x (.int .u8 (x.toNat : Int)) (fun w S => ⟨rfl, trivial⟩))
        rwa [show k * kByte.sz + 0 = k from by simp [kByte, Kd.byte, Kd.scalar]] at this⟩
      have F1 := Sec.mk (hb.out.setCell (p := ⟨w.heap.size, k, none⟩) (Nat.le_refl _) (.int .u8 (x.toNat : Int)))
      rw [hset.out] at A1
      clear A0 hset hR
      go_wp2
      go_roundw
      case rel => exact ⟨k + 1, by omega, by go_num, A1, F1⟩
      case measure => simp [intOf]; omega
    · have hfin : Sec (t.take k ++ List.replicate (t.length - k) 0 = t) := ⟨by rw [List.take_of_length_le (by omega), show t.length - k = 0 by omega]; simp⟩
      have hR2 := hR.out
      rw [hfin.out] at hR2
      have HR2 := Sec.mk hR2
      clear hR2 hfin hR
      go_wp2
      go_ret
      exact ⟨_, rfl, HR2.out, hb.out⟩
/-- What TrmTake leaves. -/
def TT (w : World) (p : Term × Bool) (e : Ending) (w' : World) : Prop := ∃ u, e = .returned (.tuple #[u, .bool p.2]) ∧ kCell.R w' (fun k => w.heap.size ≤ k) u p.1 ∧ Below w.heap.size w w'
end
end Go.Proofs.YteflipoiiddkfaaGreatDoor
