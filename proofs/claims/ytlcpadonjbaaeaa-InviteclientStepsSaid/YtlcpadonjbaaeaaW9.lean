/- The walk of inputs: every input on one machine. -/
import Derived.Test.YtlcpadonjbaaeaaW8
namespace Go.Proofs.Ytlcpadonjbaaeaa
open Go.RowKit

/-- The cells of a list of integers. -/
def ncells (l : List Int) : List Value := l.map (Value.int .i64)
theorem ncells_at {w : World} {B : Nat} {A : Option Addr} {l : List Int} (h : Rd w B A (ncells l)) {k : Nat} (hk : k < l.length) :
    ∃ b off n, A = some ⟨b, off, none⟩ ∧ b < B ∧ l[k]? = some n ∧ w.cell? ⟨b, off + k, none⟩ = some (.int .i64 n) := by
  have he : l[k]? = some l[k] := List.getElem?_eq_getElem hk
  have hn : (ncells l)[k]? = some (.int .i64 l[k]) := by simp [ncells, he]
  rcases h with h | ⟨b, off, hA, hb, hc⟩
  · rw [h] at hn; simp at hn
  · exact ⟨b, off, l[k], hA, hb, he, hc k _ hn⟩

set_option maxRecDepth 100000 in
set_option maxHeartbeats 2000000 in
theorem inputs_any {B : Nat} (m : Mc) (hok : OkM m) (A : Option Addr) (c : Nat) (l : List Int) (w : World) (hB : B ≤ w.heap.size) (h : Rd w B A (ncells l)) (hl : l.length ≤ maxLen) :
    Calls Try.prog 19 #[mval m, .slice A l.length c] w fun e w' => e = .returned (.bool true) ∧ Below w.heap.size w w' := by
  unfold maxLen at hl
  have HOK : Hid (OkM m) := hok
  clear hok
  go_enter Try.func19, Try.ntmps19
  go_wp2_with fail
  have hm := heap_alloc_new w (.cells (mcells m) 31)
  have hb0 : Below w.heap.size w (w.alloc (.cells (mcells m) 31)) := (Below.refl _ _).alloc (Nat.le_refl _) _
  have z0 : w.heap.size < (w.alloc (.cells (mcells m) 31)).heap.size := by simp
  have h1 : Rd (w.alloc (.cells (mcells m) 31)) B A (ncells l) := h.below (hb0.mono hB)
  unfold mcells at hm hb0 z0 h1
  generalize w.alloc _ = w1 at *
  have HM : Hid (w1.heap[w.heap.size]? = some (.cells (mcells m) 31 (0, 0))) := hm
  have HW : Hid (Below w.heap.size w w1) := hb0
  have HR : Hid (Rd w1 B A (ncells l)) := h1
  clear hm hb0 h1 h
  go_loopw [5] (fun i wr => ∃ k : Nat, k ≤ 8 ∧ i = .int .i64 k ∧ Below w1.heap.size w1 wr) (fun i _ => 8 - (intOf i).toNat)
  case atStart => exact ⟨0, by omega, rfl, Below.refl _ _⟩
  case round =>
    obtain ⟨k, hk, rfl, hb⟩ := hrel
    by_cases hlt : k < 8
    · have hki : (k : Int) < 8 := by omega
      have HB : Hid (Below w1.heap.size w1 wr) := hb
      clear hb
      go_wp2_with fail
      go_loopw [6] (fun i ws => ∃ j : Nat, j ≤ l.length ∧ i = .int .i64 j ∧ Below w1.heap.size w1 ws) (fun i _ => l.length - (intOf i).toNat)
      case atStart => exact ⟨0, by omega, rfl, HB.out⟩
      case round =>
        obtain ⟨j, hj, rfl, hb⟩ := hrel
        have hz := hb.size
        have q0 : w.heap.size < wr.heap.size := by omega
        have q1 : B ≤ wr.heap.size := by omega
        by_cases hjt : j < l.length
        · have hji : (j : Int) < (l.length : Int) := by omega
          obtain ⟨b, off, n, rfl, hbB, hln, hcell⟩ := ncells_at (HR.out.below (hb.mono (by omega))) hjt
          obtain ⟨a0, a1, a2⟩ := mc_cells (block_below HM.out hb z0)
          have HBs : Hid (Below w1.heap.size w1 wr) := hb
          have HLn : Hid (l[j]? = some n) := hln
          have HK : Hid (∀ w', Below wr.heap.size wr w' → w'.cell? ⟨w.heap.size, 0, none⟩ = some (.int .u8 m.1) ∧ w'.cell? ⟨w.heap.size, 1, none⟩ = some (.int .i64 m.2.1) ∧ w'.cell? ⟨w.heap.size, 2, none⟩ = some (.int .i64 m.2.2) ∧ w'.cell? ⟨b, off + j, none⟩ = some (.int .i64 n)) := fun w' hc => by
            obtain ⟨x0, x1, x2⟩ := mc_cells (block_below HM.out (hb.trans (hc.mono hz)) z0)
            exact ⟨x0, x1, x2, (hc.cell (p := ⟨b, off + j, none⟩) (show b < wr.heap.size by omega)).trans hcell⟩
          clear hb hln
          go_upto_region 7 with fail
          go_region_held3 (fun w' => w'.cell? ⟨w.heap.size, 0, none⟩ = some (.int .u8 m.1) ∧ w'.cell? ⟨w.heap.size, 1, none⟩ = some (.int .i64 m.2.1) ∧ w'.cell? ⟨w.heap.size, 2, none⟩ = some (.int .i64 m.2.2) ∧ w'.cell? ⟨b, off + j, none⟩ = some (.int .i64 n))
            (first | go_keep | exact hkeep3)
            ((go_at_call 24
              refine (lstep_any m (IntKind.u8.wrap k, n, 0) HOK.out _).mono ?_
              rintro e w3 ⟨rfl, hb3⟩
              have hA3 : Below wr.heap.size wr w3 := (below_drewN (Below.refl _ _) 1).trans (hb3.mono (by simp))
              have hz3 := hA3.size
              have hkeep3 := HK.out w3 hA3))
          go_wp2_with fail
          go_roundw
          case rel => exact ⟨j + 1, by omega, by go_num, HBs.out.trans (hA3.mono hz)⟩
          case measure => simp [intOf]; omega
        · have HBs : Hid (Below w1.heap.size w1 wr) := hb
          clear hb
          go_wp2_with fail
          go_roundw
          case rel => exact ⟨k + 1, by omega, by go_num, HBs.out⟩
          case measure => simp [intOf]; omega
    · have hki : ¬ (k : Int) < 8 := by omega
      have HB : Hid (Below w1.heap.size w1 wr) := hb
      clear hb
      go_wp2_with fail
      go_loopw [7] (fun i ws => ∃ j : Nat, j ≤ 15 ∧ i = .int .i64 j ∧ Below w1.heap.size w1 ws) (fun i _ => 15 - (intOf i).toNat)
      case atStart => exact ⟨0, by omega, rfl, HB.out⟩
      case round =>
        obtain ⟨j, hj, rfl, hb⟩ := hrel
        have hz := hb.size
        have q0 : w.heap.size < wr.heap.size := by omega
        by_cases hjt : j < 15
        · have hji : (j : Int) < 15 := by omega
          obtain ⟨a0, a1, a2⟩ := mc_cells (block_below HM.out hb z0)
          have HBs : Hid (Below w1.heap.size w1 wr) := hb
          clear hb
          go_wp2_with fail
          refine (lstep_any m (5, 0, (j : Int)) HOK.out _).mono ?_
          rintro e w3 ⟨rfl, hb3⟩
          go_wp2_with fail
          go_roundw
          case rel => exact ⟨j + 1, by omega, by go_num, HBs.out.trans (hb3.mono hz)⟩
          case measure => simp [intOf]; omega
        · have hji : ¬ (j : Int) < 15 := by omega
          have HBs : Hid (Below w1.heap.size w1 wr) := hb
          clear hb
          go_wp2_with fail
          go_ret
          exact ⟨rfl, HW.out.trans (HBs.out.mono HW.out.size)⟩

end Go.Proofs.Ytlcpadonjbaaeaa
