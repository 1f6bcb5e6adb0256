/- The walk of give: a machine with its timers gets an input. (W6: the text with step_any.) -/
import Derived.Test.YtlcpadonjbaaeaaTake
import Derived.Test.YtlcpadonjbaaeaaStepOk
import Derived.Test.YtlcpadonjbaaeaaStepAny
import Derived.Deep.RegionHeld3
namespace Go.Proofs.Ytlcpadonjbaaeaa
open Go.RowKit

theorem mc_cells3 {w : World} {g : Nat} {t : TypeId} {x y z : Value} (h : w.heap[g]? = some (.cells #[x, y, z] t (0, 0))) :
    w.cell? ⟨g, 0, none⟩ = some x ∧ w.cell? ⟨g, 1, none⟩ = some y ∧ w.cell? ⟨g, 2, none⟩ = some z :=
  ⟨cells_of_block h 0, cells_of_block h 1, cells_of_block h 2⟩

set_option maxRecDepth 100000 in
set_option maxHeartbeats 2000000 in
theorem give_any {N B g : Nat} {s : Sim} (i : In) (w : World) (hs : SimAt w B g s) (ok : OkS N s) (hN : N + 8 ≤ 1000000000) :
    Calls Try.prog 15 #[.pointer (some ⟨g, 0, none⟩), ival i] w fun e w' => e = .returned (.tuple #[]) ∧ SimAt w' B g (giveS s i) ∧ Below B w w' := by
  obtain ⟨v, hs⟩ := hs
  have HS : Hid (SimV w B g s v) := hs
  have HOK : Hid (OkS N s) := ok
  have HM : Hid (OkM s.m) := ok.2.2.2.2.2
  have hBg := hs.1
  have q0 : g < w.heap.size := hs.lt
  clear hs ok
  go_enter Try.func15, Try.ntmps15
  go_upto_region 1 with fail
  have hn := heap_alloc_new w (.cells #[.int .u8 i.1, .int .i64 i.2.1, .int .u8 i.2.2] 42)
  have hv1 : SimV (w.alloc (.cells #[.int .u8 i.1, .int .i64 i.2.1, .int .u8 i.2.2] 42)) B g s v := HS.out.below ((Below.refl _ _).alloc (Nat.le_refl _) _)
  have hb1 : Below B w (w.alloc (.cells #[.int .u8 i.1, .int .i64 i.2.1, .int .u8 i.2.2] 42)) := (Below.refl _ _).alloc (by omega) _
  have z1 : w.heap.size < (w.alloc (.cells #[.int .u8 i.1, .int .i64 i.2.1, .int .u8 i.2.2] 42)).heap.size := by simp
  generalize w.alloc _ = w1 at hn hv1 hb1 z1 ⊢
  have q1 : g < w1.heap.size := by omega
  obtain ⟨⟨a0, a1, a2⟩, -, -, -, -⟩ := hv1.cells HOK.out.1
  have b0 : w1.cell? ⟨w.heap.size, 0, none⟩ = some (.int .u8 i.1) := cells_of_block hn 0
  have b1 : w1.cell? ⟨w.heap.size, 1, none⟩ = some (.int .i64 i.2.1) := cells_of_block hn 1
  have b2 : w1.cell? ⟨w.heap.size, 2, none⟩ = some (.int .u8 i.2.2) := cells_of_block hn 2
  have HK : Hid (∀ w', Below w1.heap.size w1 w' → (w'.cell? ⟨g, 0, none⟩ = some (.int .u8 s.m.1) ∧ w'.cell? ⟨g, 1, none⟩ = some (.int .i64 s.m.2.1) ∧ w'.cell? ⟨g, 2, none⟩ = some (.int .i64 s.m.2.2)) ∧ (w'.cell? ⟨w.heap.size, 0, none⟩ = some (.int .u8 i.1) ∧ w'.cell? ⟨w.heap.size, 1, none⟩ = some (.int .i64 i.2.1) ∧ w'.cell? ⟨w.heap.size, 2, none⟩ = some (.int .u8 i.2.2))) := fun w' hb =>
    ⟨⟨(hb.cell (p := ⟨g, 0, none⟩) q1).trans a0, (hb.cell (p := ⟨g, 1, none⟩) q1).trans a1, (hb.cell (p := ⟨g, 2, none⟩) q1).trans a2⟩,
     ⟨(hb.cell (p := ⟨w.heap.size, 0, none⟩) z1).trans b0, (hb.cell (p := ⟨w.heap.size, 1, none⟩) z1).trans b1, (hb.cell (p := ⟨w.heap.size, 2, none⟩) z1).trans b2⟩⟩
  have HV1 : Hid (SimV w1 B g s v) := hv1
  have HB1 : Hid (Below B w w1) := hb1
  clear hn hv1 hb1
  go_cut [4, 5] (fun p q wx => ∃ gm A c, p = .pointer (some ⟨gm, 0, none⟩) ∧ q = .slice A (stepS s.m i).2.length c ∧ wx.heap[gm]? = some (.cells #[.int .u8 (stepS s.m i).1.1, .int .i64 (stepS s.m i).1.2.1, .int .i64 (stepS s.m i).1.2.2] 31 (0, 0)) ∧
      SimV wx B g s v ∧ ORd wx wx.heap.size A (stepS s.m i).2 ∧ Away A g v ∧ Below B w wx)
  case first =>
    go_region_held3 (fun w' => (w'.cell? ⟨g, 0, none⟩ = some (.int .u8 s.m.1) ∧ w'.cell? ⟨g, 1, none⟩ = some (.int .i64 s.m.2.1) ∧ w'.cell? ⟨g, 2, none⟩ = some (.int .i64 s.m.2.2)) ∧ (w'.cell? ⟨w.heap.size, 0, none⟩ = some (.int .u8 i.1) ∧ w'.cell? ⟨w.heap.size, 1, none⟩ = some (.int .i64 i.2.1) ∧ w'.cell? ⟨w.heap.size, 2, none⟩ = some (.int .u8 i.2.2)))
      (first | go_keep | exact hkeep2 | exact HK3.out _ _ _)
      (first
        | (go_at_call 16
           refine (step_any s.m i HM.out _).mono ?_
           rintro e w2 ⟨v2, rfl, hown2, hb2⟩
           obtain ⟨A2, c2, rfl, hc2⟩ := own_slice hown2
           have hA2 : Below w1.heap.size w1 w2 := (below_drewN (Below.refl _ _) 1).trans (hb2.mono (by simp))
           have hkeep2 := HK.out w2 hA2
           have z2 := hA2.size
           have q2 : g < w2.heap.size := by omega
           have q3 : w.heap.size < w2.heap.size := by omega)
        | (go_at_call 16
           refine (step_any s.m i HM.out _).mono ?_
           rintro e w2 ⟨v2, rfl, hown2, hb2⟩
           obtain ⟨A2, c2, rfl, hc2⟩ := own_slice hown2
           have hA2 : Below w1.heap.size w1 w2 := (below_drewN ((Below.refl _ _).alloc (Nat.le_refl _) _) 1).trans (hb2.mono (by simp))
           have hkeep2 := HK.out w2 hA2
           have z2 := hA2.size
           have q2 : g < w2.heap.size := by omega
           have q3 : w.heap.size < w2.heap.size := by omega
           have hgm : w2.heap[w1.heap.size]? = some (.cells #[.int .u8 0, .int .i64 0, .int .i64 0] 31 (0, 0)) := block_below (show (w1.alloc (.cells #[.int .u8 0, .int .i64 0, .int .i64 0] 31)).drew.heap[w1.heap.size]? = _ from heap_alloc_new w1 (.cells #[.int .u8 0, .int .i64 0, .int .i64 0] 31)) hb2 (by simp)
           have y0 : w2.cell? ⟨w1.heap.size, 0, none⟩ = some (.int .u8 0) := cells_of_block hgm 0
           have y1 : w2.cell? ⟨w1.heap.size, 1, none⟩ = some (.int .i64 0) := cells_of_block hgm 1
           have y2 : w2.cell? ⟨w1.heap.size, 2, none⟩ = some (.int .i64 0) := cells_of_block hgm 2
           have yf : ∀ o, w2.frozen? ⟨w1.heap.size, o, none⟩ = false := fun _ => frozen_of_row _ _ _ _ _ hgm
           have qn : g ≠ w1.heap.size := by omega
           have qm : w.heap.size ≠ w1.heap.size := by omega
           have HK3 : Hid _ := (fun (x y z : Value) => HK.out (((w2.setCell ⟨w1.heap.size, 0, none⟩ x).setCell ⟨w1.heap.size, 1, none⟩ y).setCell ⟨w1.heap.size, 2, none⟩ z) (((hA2.setCell (Nat.le_refl _) _).setCell (Nat.le_refl _) _).setCell (Nat.le_refl _) _))))
    · go_wp2_with fail
      go_meet
      have hal : Below w2.heap.size w2 (w2.alloc (.cells #[.int .u8 (stepS s.m i).1.1, .int .i64 (stepS s.m i).1.2.1, .int .i64 (stepS s.m i).1.2.2] 31)) := (Below.refl _ _).alloc (Nat.le_refl _) _
      refine ⟨w2.heap.size, A2, c2, rfl, rfl, heap_alloc_new _ _, (HV1.out.below hA2).below hal, ((Rd.of_own hown2).below hal).more hal.size, ?_, (HB1.out.trans (hA2.mono (by omega))).trans (hal.mono (by omega))⟩
      intro b off e
      subst e
      have := (hown2.lt b rfl).1
      simp at this
      refine ⟨by omega, fun e => ?_⟩
      have := (HV1.out.2.2.1.lt b e).2
      omega
    · go_wp2_with fail
      go_meet
      have hset : ∀ x y z, Below w1.heap.size w1 (((w2.setCell ⟨w1.heap.size, 0, none⟩ x).setCell ⟨w1.heap.size, 1, none⟩ y).setCell ⟨w1.heap.size, 2, none⟩ z) := fun x y z => ((hA2.setCell (Nat.le_refl _) _).setCell (Nat.le_refl _) _).setCell (Nat.le_refl _) _
      have hlb : ∀ b off, A2 = some ⟨b, off, none⟩ → w1.heap.size < b := by
        intro b off e
        subst e
        have := (hown2.lt b rfl).1
        simp at this
        omega
      refine ⟨w1.heap.size, A2, c2, rfl, rfl, block_store3 _ _ _ hgm, HV1.out.below (hset _ _ _), ?_, ?_, HB1.out.trans ((hset _ _ _).mono (by omega))⟩
      · refine (Rd.same (Rd.of_own hown2) fun b off e _ => ?_).more (by simp)
        have := hlb b off e
        rw [Below.heap_setCell _ _ _ _ (by simp; omega), Below.heap_setCell _ _ _ _ (by simp; omega), Below.heap_setCell _ _ _ _ (by simp; omega)]
      · intro b off e
        have h1 := hlb b off e
        refine ⟨by omega, fun e => ?_⟩
        have := (HV1.out.2.2.1.lt b e).2
        omega
  case rest =>
    obtain ⟨gm, A, c, rfl, rfl, hgm, hv2, hr2, ha2, hb2⟩ := hcut
    obtain ⟨c0, c1, c2⟩ := mc_cells3 hgm
    have HV2 : Hid (SimV wc B g s v) := hv2
    have HR2 : Hid (ORd wc wc.heap.size A (stepS s.m i).2) := hr2
    have HA2 : Hid (Away A g v) := ha2
    have HB2 : Hid (Below B w wc) := hb2
    clear hgm hv2 hr2 ha2 hb2 a0 a1 a2 b0 b1 b2
    go_wp2_with fail
    refine (take_any (N := N) (B := B) (s := s) (v := v) (stepS s.m i).1 A c (stepS s.m i).2 _ HV2.out HOK.out (by have := (stepS_ok HM.out i).1; omega) (stepS_ok HM.out i).2.2 (stepS_ok HM.out i).2.1 HR2.out HA2.out).mono ?_
    rintro e w3 ⟨rfl, hs3, hb3⟩
    go_wp2_with fail
    refine bodyPost_end (results_none rfl _ _ _) rfl ?_
    exact ⟨rfl, hs3, HB2.out.trans hb3⟩

end Go.Proofs.Ytlcpadonjbaaeaa
