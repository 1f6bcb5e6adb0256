/- The walk of start: a machine with its timers is made. (XStepAny: mstart_any; XStepOk: startM, startL, start_ok.) -/
import Derived.Test.YtlcpadonjbaaeaaUntil
namespace Go.Proofs.Ytlcpadonjbaaeaa
open Go.RowKit

/-- The first k timers set still. -/
def zeroS (k : Nat) : Sim := { m := (0, 0, 0), due := List.replicate k (-1) ++ List.replicate (14 - k) 0, now := 0, log := [] }
theorem zeroS_step {k : Nat} (hk : k < 14) : (zeroS k).due.set k (-1) = (zeroS (k + 1)).due := by
  match k, hk with
  | 0, _ | 1, _ | 2, _ | 3, _ | 4, _ | 5, _ | 6, _ | 7, _ | 8, _ | 9, _ | 10, _ | 11, _ | 12, _ | 13, _ => rfl
theorem zeroS_len {k : Nat} (hk : k ≤ 14) : (zeroS k).due.length = 14 := by simp [zeroS]; omega
theorem zeroS_ok : OkS 1 (zeroS 14) := by
  refine ⟨rfl, ?_, by simp [zeroS], by simp [zeroS], by simp [zeroS], by simp [zeroS, OkM]⟩
  intro d hd
  have : d = -1 := by simpa [zeroS] using hd
  omega
theorem startS_eq0 : startS = takeS (zeroS 14) startM startL := rfl
def zeroC : List Value := [.int .u8 0, .int .i64 0, .int .i64 0, .int .i64 0, .int .i64 0, .int .i64 0, .int .i64 0, .int .i64 0, .int .i64 0, .int .i64 0, .int .i64 0, .int .i64 0, .int .i64 0, .int .i64 0, .int .i64 0, .int .i64 0, .int .i64 0, .int .i64 0, .slice none 0 0]
theorem simv_zero (w : World) {B : Nat} (hB : B ≤ w.heap.size) : SimV (w.alloc (.cells zeroC.toArray 35)) B w.heap.size (zeroS 0) (.slice none 0 0) :=
  ⟨hB, heap_alloc_new _ _, World.ownsRow_nil _ _ _ _, by simp [Value.ownBlock]⟩

set_option maxRecDepth 100000 in
set_option maxHeartbeats 2000000 in
theorem start_sim {B : Nat} (w : World) (hB : B ≤ w.heap.size) :
    Calls Try.prog 9 #[] w fun e w' => ∃ g, e = .returned (.pointer (some ⟨g, 0, none⟩)) ∧ SimAt w' B g startS ∧ Below B w w' := by
  have HB : Hid (B ≤ w.heap.size) := hB
  clear hB
  go_enter Try.func9, Try.ntmps9
  go_wp2_with fail
  have hv0 := simv_zero w HB.out
  have hb0 : Below B w (w.alloc (.cells zeroC.toArray 35)) := (Below.refl _ _).alloc HB.out _
  have q0 : w.heap.size < (w.alloc (.cells zeroC.toArray 35)).heap.size := by simp
  simp only [zeroC] at hv0 hb0 q0
  generalize w.alloc _ = w1 at hv0 hb0 q0 ⊢
  have HV0 : Hid (SimV w1 B w.heap.size (zeroS 0) (.slice none 0 0)) := hv0
  have HB0 : Hid (Below B w w1) := hb0
  clear hv0 hb0
  go_loopw [2] (fun i wr => ∃ k : Nat, k ≤ 14 ∧ i = .int .i64 k ∧ SimV wr B w.heap.size (zeroS k) (.slice none 0 0) ∧ Below B w wr) (fun i _ => 14 - (intOf i).toNat)
  case atStart => exact ⟨0, by omega, rfl, HV0.out, HB0.out⟩
  case round =>
    obtain ⟨k, hk, rfl, hv, hb⟩ := hrel
    have q1 : w.heap.size < wr.heap.size := hv.lt
    obtain ⟨-, -, -, f0, mdue⟩ := hv.cells (zeroS_len hk)
    have HV : Hid (SimV wr B w.heap.size (zeroS k) (.slice none 0 0)) := hv
    have HBr : Hid (Below B w wr) := hb
    clear hv hb
    by_cases hlt : k < 14
    · have hki : (k : Int) < 14 := by omega
      have md := mdue k hlt
      obtain ⟨d, hd⟩ : ∃ d, d = (zeroS k).due.getD k (-1) := ⟨_, rfl⟩
      rw [← hd] at md
      clear hd mdue
      go_wp2_with fail
      go_roundw
      case rel =>
        refine ⟨k + 1, by omega, by go_num, ?_, HBr.out.setCell HB.out _⟩
        have := HV.out.set_due (zeroS_len hk) hlt (-1)
        rw [zeroS_step hlt] at this
        exact this
      case measure => simp [intOf]; omega
    · have hki : ¬ (k : Int) < 14 := by omega
      have h14 : k = 14 := by omega
      subst h14
      clear f0 mdue
      go_wp2_with fail
      refine (mstart_any _).mono ?_
      rintro e w2 ⟨v2, rfl, hown2, hb2⟩
      obtain ⟨A2, c2, rfl, hc2⟩ := own_slice hown2
      have hn := heap_alloc_new w2 (.cells #[.int .u8 startM.1, .int .i64 startM.2.1, .int .i64 startM.2.2] 31)
      have hal : Below w2.heap.size w2 (w2.alloc (.cells #[.int .u8 startM.1, .int .i64 startM.2.1, .int .i64 startM.2.2] 31)) := (Below.refl _ _).alloc (Nat.le_refl _) _
      have hv2 := (HV.out.below hb2).below hal
      have hr2 : ORd (w2.alloc (.cells #[.int .u8 startM.1, .int .i64 startM.2.1, .int .i64 startM.2.2] 31)) (w2.alloc (.cells #[.int .u8 startM.1, .int .i64 startM.2.1, .int .i64 startM.2.2] 31)).heap.size A2 startL := ((Rd.of_own hown2).below hal).more hal.size
      have ha2 : Away A2 w.heap.size (.slice none 0 0) := by
        intro b off e
        subst e
        have := (hown2.lt b rfl).1
        exact ⟨by omega, by simp [Value.ownBlock]⟩
      have hbb := HBr.out.trans ((hb2.mono (by have := HV.out.1; omega)).trans (hal.mono (by have := hb2.size; have := HV.out.1; omega)))
      have HV2 : Hid (SimV (w2.alloc (.cells #[.int .u8 startM.1, .int .i64 startM.2.1, .int .i64 startM.2.2] 31)) B w.heap.size (zeroS 14) (.slice none 0 0)) := hv2
      have HR2 : Hid (ORd (w2.alloc (.cells #[.int .u8 startM.1, .int .i64 startM.2.1, .int .i64 startM.2.2] 31)) (w2.alloc (.cells #[.int .u8 startM.1, .int .i64 startM.2.1, .int .i64 startM.2.2] 31)).heap.size A2 startL) := hr2
      have HA2 : Hid (Away A2 w.heap.size (.slice none 0 0)) := ha2
      have HB2 : Hid (Below B w (w2.alloc (.cells #[.int .u8 startM.1, .int .i64 startM.2.1, .int .i64 startM.2.2] 31))) := hbb
      clear hn hal hv2 hr2 ha2 hbb hc2 hb2 hown2
      go_wp2_with fail
      refine (take_any (N := 1) (B := B) (s := zeroS 14) (v := .slice none 0 0) startM A2 c2 startL _ HV2.out zeroS_ok (by have := start_ok.1; omega) start_ok.2.2 start_ok.2.1 HR2.out HA2.out).mono ?_
      rintro e w3 ⟨rfl, hs3, hb3⟩
      have HS3 : Hid (SimAt w3 B w.heap.size startS) := hs3
      have HB3 : Hid (Below B w w3) := HB2.out.trans hb3
      clear hs3 hb3
      go_wp2_with fail
      go_ret
      exact ⟨w.heap.size, rfl, HS3.out, HB3.out⟩

end Go.Proofs.Ytlcpadonjbaaeaa
