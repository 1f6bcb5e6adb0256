/- The walk of the law Table. -/
import Derived.Test.YtlcpadonjbaaeaaW9
namespace Go.Proofs.Ytlcpadonjbaaeaa
open Go.RowKit

def codesL : List Int := [-1, 0, 1, 99, 100, 101, 180, 199, 200, 201, 299, 300, 302, 486, 699, 700]
def waitsL : List Int := [0, 1, 500, 1000, 2000, 4000, 8000, 16000, 32000, 64000]

theorem waits_ok : ∀ n ∈ waitsL, 0 ≤ n := by decide

set_option maxRecDepth 100000 in
set_option maxHeartbeats 2000000 in
theorem tablelaw_any (w : World) : Calls Try.prog 5 #[] w fun e w' => e = .returned (.bool true) ∧ Below w.heap.size w w' := by
  go_enter Try.func5, Try.ntmps5
  go_upto_region 3 with fail
  have hb0 : Below w.heap.size w ((w.alloc (.cells (ncells codesL).toArray 3)).alloc (.cells (ncells waitsL).toArray 3)) := ((Below.refl _ _).alloc (Nat.le_refl _) _).alloc (by simp) _
  have z0 : w.heap.size + 1 < ((w.alloc (.cells (ncells codesL).toArray 3)).alloc (.cells (ncells waitsL).toArray 3)).heap.size := by simp
  have h2 : Rd ((w.alloc (.cells (ncells codesL).toArray 3)).alloc (.cells (ncells waitsL).toArray 3)) (w.heap.size + 1 + 1) (some ⟨w.heap.size + 1, 0, none⟩) (ncells waitsL) := by
    have := Rd.lit (w.alloc (.cells (ncells codesL).toArray 3)) (ncells waitsL) 3
    simpa using this
  have h1 : Rd ((w.alloc (.cells (ncells codesL).toArray 3)).alloc (.cells (ncells waitsL).toArray 3)) (w.heap.size + 1) (some ⟨w.heap.size, 0, none⟩) (ncells codesL) :=
    (Rd.lit w (ncells codesL) 3).below (by simpa using (Below.refl (w.alloc (.cells (ncells codesL).toArray 3)).heap.size _).alloc (Nat.le_refl _) _)
  simp only [ncells, codesL, waitsL, List.map] at hb0 z0 h1 h2
  generalize World.alloc (World.alloc w _) _ = w2 at hb0 z0 h1 h2 ⊢
  have HW : Hid (Below w.heap.size w w2) := hb0
  have HC : Hid (Rd w2 (w.heap.size + 1) (some ⟨w.heap.size, 0, none⟩) (ncells codesL)) := h1
  have HV : Hid (Rd w2 (w.heap.size + 1 + 1) (some ⟨w.heap.size + 1, 0, none⟩) (ncells waitsL)) := h2
  clear hb0 h1 h2
  go_wp2_with fail
  go_loopw [3] (fun i wr => ∃ k : Nat, k ≤ 9 ∧ i = .int .i64 k ∧ Below w2.heap.size w2 wr) (fun i _ => 9 - (intOf i).toNat)
  case atStart => exact ⟨0, by omega, rfl, Below.refl _ _⟩
  case round =>
    obtain ⟨k, hk, rfl, hb⟩ := hrel
    have HB : Hid (Below w2.heap.size w2 wr) := hb
    by_cases hlt : k < 9
    · have hki : (k : Int) < 9 := by omega
      clear hb
      go_wp2_with fail
      go_loopw [4] (fun i wr => ∃ k : Nat, k ≤ 10 ∧ i = .int .i64 k ∧ Below w2.heap.size w2 wr) (fun i _ => 10 - (intOf i).toNat)
      case atStart => exact ⟨0, by omega, rfl, HB.out⟩
      case round =>
        obtain ⟨k', hk', rfl, hb⟩ := hrel
        have HB' : Hid (Below w2.heap.size w2 wr) := hb
        by_cases hlt' : k' < 10
        · have hki' : (k' : Int) < 10 := by omega
          clear hb
          go_wp2_with fail
          go_loopw [5] (fun i wr => ∃ k : Nat, k ≤ 16 ∧ i = .int .i64 k ∧ Below w2.heap.size w2 wr) (fun i _ => 16 - (intOf i).toNat)
          case atStart => exact ⟨0, by omega, rfl, HB'.out⟩
          case round =>
            obtain ⟨k2, hk2, rfl, hb⟩ := hrel
            have HB2 : Hid (Below w2.heap.size w2 wr) := hb
            by_cases hlt2 : k2 < 16
            · have hki2 : (k2 : Int) < 16 := by omega
              have hz := hb.size
              have q0 : w.heap.size < wr.heap.size := by omega
              have q1 : w.heap.size + 1 < wr.heap.size := by omega
              obtain ⟨b, off, n, he, hbB, hln, hcell⟩ := ncells_at (HC.out.below (hb.mono (by omega))) (show k2 < codesL.length from hlt2)
              cases he
              obtain ⟨b, off, n', he, hbB', hln', hcell'⟩ := ncells_at (HV.out.below (hb.mono (by omega))) (show k' < waitsL.length from hlt')
              cases he
              rw [Nat.zero_add] at hcell hcell'
              have HK : Hid (∀ w', Below wr.heap.size wr w' → w'.cell? ⟨w.heap.size, k2, none⟩ = some (.int .i64 n) ∧ w'.cell? ⟨w.heap.size + 1, k', none⟩ = some (.int .i64 n')) := fun w' hc =>
                ⟨(hc.cell (p := ⟨w.heap.size, k2, none⟩) q0).trans hcell, (hc.cell (p := ⟨w.heap.size + 1, k', none⟩) q1).trans hcell'⟩
              have HOK : Hid (OkM (IntKind.u8.wrap k, n', n)) := by
                have := waits_ok n' (List.mem_of_getElem? hln')
                show -9223372036854775808 ≤ n'
                omega
              clear hb hln hln'
              go_upto_region 12 with fail
              go_region_held3 (fun w' => w'.cell? ⟨w.heap.size, k2, none⟩ = some (.int .i64 n) ∧ w'.cell? ⟨w.heap.size + 1, k', none⟩ = some (.int .i64 n'))
                (first | go_keep | exact hkeep3)
                ((go_at_call 19
                  refine (inputs_any (B := w.heap.size + 1) (IntKind.u8.wrap k, n', n) HOK.out _ 16 codesL _ (by simp; omega) (Rd.drew (HC.out.below (HB2.out.mono (by omega)))) (by simp [codesL, maxLen])).mono ?_
                  rintro e w3 ⟨rfl, hb3⟩
                  have hA3 : Below wr.heap.size wr w3 := (below_drewN (Below.refl _ _) 1).trans (hb3.mono (by simp))
                  have hz3 := hA3.size
                  have hkeep3 := HK.out w3 hA3))
              go_wp2_with fail
              go_roundw
              case rel => exact ⟨k2 + 1, by omega, by go_num, HB2.out.trans (hA3.mono hz)⟩
              case measure => simp [intOf]; omega
            · clear hb
              go_wp2_with fail
              go_roundw
              case rel => exact ⟨k' + 1, by omega, by go_num, HB2.out⟩
              case measure => simp [intOf]; omega
        · clear hb
          go_wp2_with fail
          go_roundw
          case rel => exact ⟨k + 1, by omega, by go_num, HB'.out⟩
          case measure => simp [intOf]; omega
    · clear hb
      go_wp2_with fail
      refine (works_any _).mono ?_
      rintro e w3 ⟨rfl, hb3⟩
      go_wp2_with fail
      go_ret
      exact ⟨rfl, HW.out.trans ((HB.out.trans (hb3.mono HB.out.size)).mono HW.out.size)⟩

end Go.Proofs.Ytlcpadonjbaaeaa
