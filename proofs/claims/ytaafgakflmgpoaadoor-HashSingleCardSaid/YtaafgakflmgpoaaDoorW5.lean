/- The walk of Canon: a state as 73 cells. -/
import Derived.Test.YtaafgakflmgpoaaDoorParts
namespace Go.Proofs.YtaafgakflmgpoaaDoor
open Go.RowKit

def stc (s : St) : List Value := u32s s.v.list ++ .int .u64 s.n :: u8s s.t
theorem stc_len {s : St} (h : s.t.length = 64) : (stc s).length = 73 := by simp [stc, u32s_len, u8s_len, h, V8.list]
theorem stc_v (s : St) {i : Nat} (hi : i < 8) : (stc s)[i]? = some (.int .u32 (s.v.list.getD i 0)) := by
  unfold stc
  rw [List.getElem?_append_left (by rw [u32s_len]; exact hi)]
  have : i < s.v.list.length := hi
  simp [u32s, this]
theorem stc_n (s : St) : (stc s)[8]? = some (.int .u64 s.n) := by
  unfold stc
  rw [List.getElem?_append_right (by rw [u32s_len]; exact Nat.le_refl 8)]
  simp [u32s_len, V8.list]
theorem stc_t {s : St} (h : s.t.length = 64) {i : Nat} (hi : i < 64) : (stc s)[9 + i]? = some (.int .u8 (s.t.getD i 0)) := by
  unfold stc
  rw [List.getElem?_append_right (by rw [u32s_len]; show 8 ≤ 9 + i; omega)]
  have e : 9 + i - (u32s s.v.list).length = i + 1 := by rw [u32s_len]; show 9 + i - 8 = _; omega
  rw [e, List.getElem?_cons_succ]
  simp [u8s, h, hi]
theorem size32 {s : St} (h : s.t.length = 64) : (Tryd.prog.info? 32).map (·.size) = some (stc s).toArray.size := by
  rw [show (Tryd.prog.info? 32).map (·.size) = some 73 by kernel_rfl]
  rw [List.size_toArray, stc_len h]
theorem one_stc (s : St) : ∀ v ∈ (stc s).toArray.toList, v.oneCell' = true := by
  intro v hv
  simp only [stc, List.mem_append, List.mem_cons] at hv
  rcases hv with hv | rfl | hv
  · exact one_u32 s.v.list v hv
  · rfl
  · exact one_u8 s.t v hv
/-- One byte of those that wait is written. -/
theorem stc_set {s : St} {i : Nat} (x : Int) : (stc s).set (9 + i) (.int .u8 x) = stc { s with t := s.t.set i x } := by
  unfold stc
  rw [List.set_append_right _ _ (by rw [u32s_len]; show 8 ≤ 9 + i; omega)]
  have e : 9 + i - (u32s s.v.list).length = i + 1 := by rw [u32s_len]; show 9 + i - 8 = _; omega
  rw [e, List.set_cons_succ]
  simp [u8s]
theorem stc_set_n {s : St} (x : Int) : (stc s).set 8 (.int .u64 x) = stc { s with n := x } := by
  unfold stc
  rw [List.set_append_right _ _ (by rw [u32s_len]; exact Nat.le_refl 8)]
  simp [u32s_len, V8.list]

/-- In block g lies the state s. -/
def SAt (w : World) (g : Nat) (s : St) : Prop := w.heap[g]? = some (.cells (stc s).toArray 32 (0, 0))
theorem SAt.lt {w : World} {g : Nat} {s : St} (h : SAt w g s) : g < w.heap.size := (Array.getElem?_eq_some_iff.1 h).1
theorem SAt.cell {w : World} {g : Nat} {s : St} (h : SAt w g s) (i : Nat) : w.cell? ⟨g, i, none⟩ = (stc s)[i]? := by rw [cells_of_block h i]; simp
theorem SAt.n {w : World} {g : Nat} {s : St} (h : SAt w g s) : w.cell? ⟨g, 8, none⟩ = some (.int .u64 s.n) := (h.cell 8).trans (stc_n s)
theorem SAt.t {w : World} {g : Nat} {s : St} (h : SAt w g s) (hl : s.t.length = 64) {i : Nat} (hi : i < 64) : w.cell? ⟨g, 9 + i, none⟩ = some (.int .u8 (s.t.getD i 0)) := (h.cell _).trans (stc_t hl hi)
theorem SAt.frozen {w : World} {g : Nat} {s : St} (h : SAt w g s) (i : Nat) : w.frozen? ⟨g, i, none⟩ = false := frozen_of_row _ _ _ _ _ h
theorem SAt.set {w : World} {g : Nat} {s : St} (h : SAt w g s) (i : Nat) (x : Int) : SAt (w.setCell ⟨g, 9 + i, none⟩ (.int .u8 x)) g { s with t := s.t.set i x } := by
  unfold SAt
  rw [heap_setCell_same w g _ _ _ _ h, ← stc_set]
  simp
theorem SAt.set_n {w : World} {g : Nat} {s : St} (h : SAt w g s) (x : Int) : SAt (w.setCell ⟨g, 8, none⟩ (.int .u64 x)) g { s with n := x } := by
  unfold SAt
  rw [heap_setCell_same w g _ _ _ _ h, show stc { s with n := x } = _ from (stc_set_n x).symm]
  simp
theorem SAt.below {w w' : World} {B g : Nat} {s : St} (h : SAt w g s) (hb : Below B w w') (hg : g < B) : SAt w' g s := block_below h hb hg

def zeroSt : St := ⟨⟨0, 0, 0, 0, 0, 0, 0, 0⟩, 0, zeros 64⟩
theorem zero32 (w : World) : (zeroValue 32).run Tryd.prog w = .ok (.agg (stc zeroSt).toArray) w := by kernel_rfl

theorem two_gen {w w3 : World} {a b : Obj} (h : (w.alloc a).alloc b = w3) : w3.heap[w.heap.size]? = some a ∧ w3.heap[w.heap.size + 1]? = some b ∧ w3.heap.size = w.heap.size + 1 + 1 ∧ Below w.heap.size w w3 := by
  subst h
  refine ⟨?_, ?_, by simp, ((Below.refl _ _).alloc (Nat.le_refl _) _).alloc (by simp) _⟩
  · rw [heap_alloc_old, heap_alloc_new]; simp
  · have := heap_alloc_new (w.alloc a) b
    simpa using this

/-- The bytes from at_ on set to 0, up to place k. -/
def canTo (s : St) (k : Nat) : St := { s with t := s.t.take s.at_ ++ zeros (k - s.at_) ++ s.t.drop k }
theorem canTo_start (s : St) : canTo s s.at_ = s := by
  unfold canTo
  simp [zeros]
theorem canTo_len {s : St} (h : s.t.length = 64) {k : Nat} (h1 : s.at_ ≤ k) (h2 : k ≤ 64) : (canTo s k).t.length = 64 := by
  simp only [canTo, List.length_append, List.length_take, List.length_drop, zeros_len, h]
  omega
theorem canTo_set {s : St} (h : s.t.length = 64) {k : Nat} (h1 : s.at_ ≤ k) (h2 : k < 64) : { canTo s k with t := (canTo s k).t.set k 0 } = canTo s (k + 1) := by
  unfold canTo
  simp only [St.mk.injEq, true_and]
  have hl : (s.t.take s.at_ ++ zeros (k - s.at_)).length = k := by simp [h, zeros_len]; omega
  rw [List.set_append_right _ _ (by omega), hl, Nat.sub_self]
  have h3 : s.t.drop k = s.t[k]'(by omega) :: s.t.drop (k + 1) := List.drop_eq_getElem_cons (by omega)
  rw [h3, List.set_cons_zero, show k + 1 - s.at_ = (k - s.at_) + 1 by omega]
  unfold zeros
  rw [List.replicate_succ']
  simp
theorem canTo_end {s : St} (h : s.t.length = 64) : canTo s 64 = canonS s := by
  unfold canTo canonS
  rw [List.drop_of_length_le (by omega)]
  simp

set_option maxRecDepth 100000 in
set_option maxHeartbeats 4000000 in
theorem canon_any (s : St) (hs : Wf s) (w : World) : Calls Tryd.prog 22 #[.agg (stc s).toArray] w fun e w' => e = .returned (.agg (stc (canonS s)).toArray) ∧ Below w.heap.size w w' := by
  have HS : Hid (Wf s) := hs
  have n0 := hs.lo
  have n1 := hs.hi
  clear hs
  have z32 := zero32
  go_enter Tryd.func22, Tryd.ntmps22
  go_upto_region 1 with fail
  generalize hW : World.alloc (World.alloc w _) _ = w3
  obtain ⟨hs0, hr0, hz, hbl⟩ := two_gen hW
  have HS0 : Hid (SAt w3 w.heap.size s) := hs0
  have HR0 : Hid (SAt w3 (w.heap.size + 1) zeroSt) := hr0
  have HL : Hid (Below w.heap.size w w3) := hbl
  have cn := HS0.out.n
  have q0 : w.heap.size < w3.heap.size := by omega
  clear hs0 hr0 hbl hW hz
  have HA : Hid (s.n % 64 = (s.at_ : Int)) := by show _ = _; unfold St.at_; have := HS.out.lo; omega
  go_wp2
  rw [HA.out]
  go_loopw [3] (fun i wr => ∃ k : Nat, s.at_ ≤ k ∧ k ≤ 64 ∧ i = .int .i64 k ∧ Below w.heap.size w wr ∧ SAt wr w.heap.size (canTo s k) ∧ SAt wr (w.heap.size + 1) zeroSt) (fun i _ => 64 - (intOf i).toNat)
  case atStart => exact ⟨s.at_, Nat.le_refl _, by have := s.at_lt; omega, rfl, HL.out, by rw [canTo_start]; exact HS0.out, HR0.out⟩
  case round =>
    obtain ⟨k, hk0, hk, rfl, hbr, hsr, hrr⟩ := hrel
    have HBR : Hid (Below w.heap.size w wr) := hbr
    have HSR : Hid (SAt wr w.heap.size (canTo s k)) := hsr
    have HRR : Hid (SAt wr (w.heap.size + 1) zeroSt) := hrr
    have HK0 : Hid (s.at_ ≤ k) := hk0
    by_cases hlt : k < 64
    · have hki : (k : Int) < 64 := by omega
      have ct := hsr.t (canTo_len HS.out.len hk0 hk) hlt
      have ft := hsr.frozen (9 + k)
      have q1 := hsr.lt
      clear hbr hsr hrr cn
      go_wp2
      go_roundw
      case rel =>
        refine ⟨k + 1, by have := HK0.out; omega, by omega, by go_num, HBR.out.setCell (Nat.le_refl _) _, ?_, set_other HRR.out (by simp) _ _⟩
        rw [← canTo_set HS.out.len HK0.out hlt]
        exact HSR.out.set k 0
      case measure => simp [intOf]; omega
    · have hk64 : k = 64 := by omega
      subst hk64
      have HE : Hid (canTo s 64 = canonS s) := canTo_end HS.out.len
      rw [HE.out] at hsr
      have HSF : Hid (SAt wr w.heap.size (canonS s)) := hsr
      have HLen : Hid ((canonS s).t.length = 64) := HS.out.canon.len
      clear hbr hsr hrr cn
      rw [show ((64 : Nat) : Int) = (64 : Int) from rfl]
      go_wp2_with (first
        | (refine wpList_load_row rfl 32 (.tmp 1) rfl w.heap.size rfl 32 (stc (canonS s)).toArray (0, 0) _ HSF.out Tryd.underlying32 rfl (size32 HLen.out) ?_)
        | (refine wpList_store_row rfl 32 (.tmp 2) (.tmp 15) rfl (w.heap.size + 1) rfl (stc (canonS s)).toArray rfl 32 _ HRR.out (by rw [List.size_toArray, List.size_toArray, stc_len HLen.out, stc_len (zeros_len 64)]) (size32 HLen.out) (one_stc _) ?_))
      exact bodyPost_ret (results_cell_row rfl _ _ (w.heap.size + 1) 32 (stc (canonS s)).toArray (0, 0) _ rfl (setRow_heap _ _ _ _ _ _ HRR.out) Tryd.underlying32 rfl (size32 HLen.out)) rfl ⟨rfl, below_setRow HBR.out (by omega) _⟩

end Go.Proofs.YtaafgakflmgpoaaDoor
