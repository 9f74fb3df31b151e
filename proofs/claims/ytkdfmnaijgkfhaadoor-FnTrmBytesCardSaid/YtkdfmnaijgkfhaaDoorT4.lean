/- Contracts: bytes taken, by the program. -/
import Derived.Test.YtkdfmnaijgkfhaaDoorT3
import Derived.Test.YtkdfmnaijgkfhaaDoorExB
import Derived.Laws.CopyOwn
namespace Go.Proofs.YtkdfmnaijgkfhaaDoor
open Go.RowKit
set_option linter.unusedVariables false
set_option maxRecDepth 100000
/-- So many bytes, naughts behind their end. -/
def padB (n : Nat) (l : List UInt8) : List UInt8 := l.take n ++ List.replicate (n - l.length) 0
theorem padB_len (n : Nat) (l : List UInt8) : (padB n l).length = n := by simp [padB]; omega
theorem splice_pad (n : Nat) (l : List UInt8) : splice (List.replicate n (Value.int .u8 0)) 0 ((l.take n).map byteC) = (padB n l).map byteC := by
  simp only [splice, padB, List.take_zero, List.nil_append, List.map_append, List.map_replicate, List.length_map, List.length_take, Nat.zero_add, List.drop_replicate]
  congr 2
  omega
theorem pad_R {W : World} {g n B : Nat} (l : List UInt8) (hn : n ≤ 1073741824) (hB : B ≤ g) (h : W.heap[g]? = some (.cells (splice (List.replicate n (Value.int .u8 0)) 0 ((l.take n).map byteC)).toArray 5 (0, 0))) :
    kByte.R W (fun k => B ≤ k) (.slice (some ⟨g, 0, none⟩) n n) (padB n l) := by
  rw [splice_pad] at h
  have hl := padB_len n l
  refine ⟨by omega, .inr ⟨g, n, _, by rw [hl], h, hB, by omega, by simp only [maxLen]; omega, by simp [kByte, Kd.byte, Kd.scalar, hl], kByte_Os.2 ?_⟩⟩
  rw [hl, show n * kByte.sz = n by simp [kByte, Kd.byte, Kd.scalar], List.take_of_length_le (by simp [hl])]
theorem V_from {w : World} {ok : Nat → Prop} {A : Option Addr} {c : Nat} {l : List UInt8} (h : kByte.V w ok (.slice A l.length c) l) (m : Nat) (hm : m ≤ l.length) : kByte.V w ok (.slice (A.map (fun x => x.add m)) (l.length - m) (c - m)) (l.drop m) := by
  obtain ⟨A', c', hv, h1, h2, h3, hC, hz⟩ := h
  simp only [Value.slice.injEq] at hv
  obtain ⟨rfl, _, rfl⟩ := hv
  refine ⟨_, _, by rw [List.length_drop], by rw [List.length_drop]; omega, by omega, by rw [List.length_drop]; omega, ?_, fun e => ?_⟩
  · rcases hC with rfl | ⟨b, off, rfl, hb, hE⟩
    · exact .inl (by simp)
    · have h9 := Kd.C_drop (d := kByte) (w := w) (ok := ok) (b := b) (off := off) (xs := l) (.inr ⟨b, off, rfl, hb, hE⟩) m
      rw [show m * kByte.sz = m from Nat.mul_one m] at h9
      have e1 : (⟨b, off, none⟩ : Addr).add m = ⟨b, off + m, none⟩ := by unfold Addr.add; split <;> simp_all
      rw [Option.map_some, e1]
      exact h9
  · have : A = none := by cases A <;> simp_all
    have := hz this
    omega
theorem V_gone {w : World} {ok : Nat → Prop} {A : Option Addr} {l : List UInt8} (m : Nat) (h : l.drop m = []) (n : Nat) (hn : n = 0) : kByte.V w ok (.slice A n 0) (l.drop m) := by
  rw [h]; subst hn
  exact ⟨A, 0, rfl, Nat.le_refl _, by simp [maxLen], by simp, .inl rfl, fun _ => rfl⟩
theorem take_end {w w2 : World} {b n g : Nat} {l : List UInt8} {ok : Nat → Prop} {v v' : Value} (hg : g = w.heap.size) (hn : n ≤ 1073741824) (hbs : b < w.heap.size) (hB : w.heap[b]? = some (.cells #[v] 65 (0, 0))) (hb : Below w.heap.size w w2)
    (hG : w2.heap[w.heap.size]? = some (.cells (splice (List.replicate n (Value.int .u8 0)) 0 ((l.take n).map byteC)).toArray 5 (0, 0))) (hV : kByte.V (w2.setCell ⟨b, 0, none⟩ v') ok v' (l.drop n)) :
    (∃ g, (Value.slice (some ⟨w.heap.size, 0, none⟩) n n) = .slice (some ⟨g, 0, none⟩) n n) ∧ kByte.R (w2.setCell ⟨b, 0, none⟩ v') (fun k => w.heap.size ≤ k) (.slice (some ⟨w.heap.size, 0, none⟩) n n) (padB n l) ∧ ∃ x, kByte.V (w2.setCell ⟨b, 0, none⟩ v') ok x (l.drop n) ∧ (w2.setCell ⟨b, 0, none⟩ v').heap[b]? = some (.cells #[x] 65 (0, 0)) ∧ Foot (fun x => x = b) w (w2.setCell ⟨b, 0, none⟩ v') := by
  refine ⟨⟨_, rfl⟩, pad_R l hn (Nat.le_refl _) ((Below.heap_setCell _ _ _ _ (by show w.heap.size ≠ b; omega)).trans hG), v', hV, ?_, Foot.set (S := fun x => x = b) (Foot.of_below hb) (g := b) (.inl rfl) 0 v'⟩
  have := box_store 0 v' ((hb.block b hbs).trans hB)
  simpa using this
set_option maxHeartbeats 2000000 in
theorem tbytes_i (b n : Nat) (v : Value) (l : List UInt8) (ok : Nat → Prop) (hn : n ≤ 255) (hl : l.length ≤ 10000000) (hok : ¬ ok b) (w : World) (hB : w.heap[b]? = some (.cells #[v] 65 (0, 0))) (hV : kByte.V w ok v l) :
    Calls Tryd.prog 73 #[.pointer (some ⟨b, 0, none⟩), .int .i64 n] w fun e w' => ∃ u v', e = .returned u ∧ (∃ g, u = .slice (some ⟨g, 0, none⟩) n n) ∧ kByte.R w' (fun k => w.heap.size ≤ k) u (padB n l) ∧ kByte.V w' ok v' (l.drop n) ∧ w'.heap[b]? = some (.cells #[v'] 65 (0, 0)) ∧ Foot (· = b) w w' := by
  have HB := Sec.mk hB
  have HV := Sec.mk hV
  have hbs : b < w.heap.size := (Array.getElem?_eq_some_iff.1 hB).1
  have hmk : (Instr.makeSlice 24 (.int .i64 (n : Int)) (.int .i64 (n : Int))).run Tryd.prog w = .ok (.slice (some ⟨w.heap.size, 0, none⟩) n n) (w.alloc (.cells (List.replicate n (Value.int .u8 0)).toArray 5)) := by
    have h := made_ 24 5 (.int .u8 0) 1 1 Tryd.underlying24 (by kernel_rfl) (by decide) n (by omega) w
    have e : madeCells (Value.int .u8 0).cells (n * 1) = (List.replicate n (Value.int .u8 0)).toArray := Array.toList_inj.1 ((Kd.made_toList #[.int .u8 0] n).trans (by simp))
    rw [e] at h
    exact h
  obtain ⟨A, c, rfl, h1, h2, h3, hC, hz⟩ := hV
  have HC := Sec.mk hC
  have Hz := Sec.mk hz
  clear hC hz hB
  have QA := fun o : Obj => box_at' (belA (Below.refl w.heap.size w) o) HB.out
  have q0 := fun o => (QA o).1 0 _ rfl
  clear QA
  obtain ⟨cs, hcs⟩ : ∃ cs, cs = (l.take n).map byteC := ⟨_, rfl⟩
  have Hcs := Sec.mk hcs
  have HG : Sec ((w.alloc (.cells (Array.replicate n (Value.int .u8 0)) 5)).heap[w.heap.size]? = some (.cells (List.replicate n (Value.int .u8 0)).toArray 5 (0, 0))) := ⟨by rw [List.toArray_replicate]; exact heap_alloc_new w _⟩
  have H1 : Sec (∀ u ∈ cs, u.oneCell' = true) := ⟨fun u hu => by rw [Hcs.out] at hu; obtain ⟨x, _, rfl⟩ := List.mem_map.1 hu; rfl⟩
  have HP : Sec (0 < cs.length → (some (⟨w.heap.size, 0, none⟩ : Addr)) = some ⟨w.heap.size, 0, none⟩ ∧ ∃ ad, A = some ad ∧ ∀ j u, cs[j]? = some u → (w.alloc (.cells (Array.replicate n (Value.int .u8 0)) 5)).cell? (ad.add j) = some u) := ⟨fun h => by
    refine ⟨rfl, ?_⟩
    have hlp : 0 < l.length := by rw [hcs, List.length_map, List.length_take] at h; omega
    obtain ⟨g, off, rfl⟩ := Kd.C_addr HC.out hlp
    refine ⟨_, rfl, fun j u hj => ?_⟩
    rw [hcs, List.getElem?_map] at hj
    obtain ⟨x, hx, rfl⟩ := Option.map_eq_some_iff.1 hj
    have hjl : j < l.length := by have := List.getElem?_eq_some_iff.1 hx; obtain ⟨h, _⟩ := this; rw [List.length_take] at h; omega
    obtain ⟨b', off', hA', _, x1⟩ := byteAt (Kd.C_below HC.out (belA (Below.refl w.heap.size w) (.cells (Array.replicate n (Value.int .u8 0)) 5)) (by decide)) j hjl
    simp only [Option.some.injEq, Addr.mk.injEq, and_true] at hA'
    obtain ⟨rfl, rfl⟩ := hA'
    have e1 : (⟨g, off, none⟩ : Addr).add j = ⟨g, off + j, none⟩ := by unfold Addr.add; split <;> simp_all
    rw [e1, x1]
    have hxx : l[j] = x := by
      have h9 := List.getElem?_eq_some_iff.1 hx
      obtain ⟨h, h9⟩ := h9
      rw [← h9, List.getElem_take]
    rw [hxx]; rfl⟩
  have hcl : cs.length = Nat.min l.length n := by rw [hcs, List.length_map, List.length_take]; exact Nat.min_comm _ _
  obtain ⟨m, hm, hm1, hm2, hm3⟩ : ∃ m, cs.length = m ∧ m ≤ l.length ∧ m ≤ n ∧ l.drop m = l.drop n := ⟨_, hcl, Nat.min_le_left _ _, Nat.min_le_right _ _, by
    rcases Nat.le_total l.length n with h | h
    · rw [show Nat.min l.length n = l.length from Nat.min_eq_left h, List.drop_length, List.drop_of_length_le h]
    · rw [show Nat.min l.length n = n from Nat.min_eq_right h]⟩
  have HN := Sec.mk hcl
  have HD := Sec.mk hm3
  have HF : Sec (0 + cs.length ≤ (List.replicate n (Value.int .u8 0)).length) := ⟨by rw [List.length_replicate]; omega⟩
  clear hcs hcl hm3
  go_enter Tryd.func73, Tryd.ntmps73
  go_wp2_with (with_reducible show wpList _ _ _ (⟨some 14, _, _, _, _, _⟩ :: _) _ _; refine wpList_copy_splice (o := ⟨some 14, _, _, _, _, _⟩) (w := w.alloc _) rfl (.tmp 9) (.tmp 13) 24 24 rfl 5 Tryd.underlying24 (by kernel_rfl) (some ⟨w.heap.size, 0, none⟩) A n n l.length c rfl rfl w.heap.size 0 (List.replicate n (Value.int .u8 0)) 5 (HG.out) cs (HN.out) (HP.out) (HF.out) (H1.out) w.heap.size w (belA (Below.refl _ _) _) (Nat.le_refl _) ?_; intro w2 hG2 hb2; have G2 := Sec.mk hG2; have B2 := Sec.mk hb2; have q2 := box_at' hb2 HB.out; have r0 := q2.1 0 _ rfl; have g0 := q2.2 0; clear q2 hG2 hb2)
  all_goals
    go_ret
    refine ⟨_, rfl, take_end (v := _) rfl (by omega) hbs HB.out B2.out (by rw [← Hcs.out]; exact G2.out) ?_⟩
    rw [← HD.out]
    first
    | exact V_from (Kd.V_move (Foot.keeps (Foot.set (S := fun x => x = b) (Foot.of_below B2.out) (g := b) (.inl rfl) 0 _) (fun k h e => hok (e ▸ h))) HV.out (by decide)) m hm1
    | (refine V_gone m ?_ _ ?_; exact List.drop_of_length_le (by omega); omega)
end Go.Proofs.YtkdfmnaijgkfhaaDoor
