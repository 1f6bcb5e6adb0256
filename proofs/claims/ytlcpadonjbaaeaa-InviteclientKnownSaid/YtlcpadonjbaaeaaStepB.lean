/- The walk of Step. -/
import Derived.Test.YtlcpadonjbaaeaaStepW
namespace Go.Proofs.Ytlcpadonjbaaeaa
open Go.RowKit

set_option maxRecDepth 100000 in
set_option maxHeartbeats 4000000 in
theorem step_any (m : Mc) (i : In) (hok : OkM m) (w : World) : Calls Try.prog 16 #[mval m, ival i] w (GivesS w (stepS m i)) := by
  have HOK : Hid (OkM m) := hok
  clear hok
  go_enter Try.func16, Try.ntmps16
  go_upto_region 1 with fail
  have hm1 := three_alloc w (.cells #[.int .u8 m.1, .int .i64 m.2.1, .int .i64 m.2.2] 31) (.cells #[.int .u8 i.1, .int .i64 i.2.1, .int .u8 i.2.2] 42) (.cells #[.int .u8 0, .int .i64 0, .int .i64 0] 31)
  have z1 : (((w.alloc (.cells #[.int .u8 m.1, .int .i64 m.2.1, .int .i64 m.2.2] 31)).alloc (.cells #[.int .u8 i.1, .int .i64 i.2.1, .int .u8 i.2.2] 42)).alloc (.cells #[.int .u8 0, .int .i64 0, .int .i64 0] 31)).heap.size = w.heap.size + 1 + 1 + 1 := by simp
  generalize World.alloc (World.alloc (World.alloc w _) _) _ = w1 at hm1 z1 ⊢
  obtain ⟨hm, hi, hr, hb⟩ := hm1
  have HM : Hid (w1.heap[w.heap.size]? = some (.cells #[.int .u8 m.1, .int .i64 m.2.1, .int .i64 m.2.2] 31 (0, 0))) := hm
  have HI : Hid (w1.heap[w.heap.size + 1]? = some (.cells #[.int .u8 i.1, .int .i64 i.2.1, .int .u8 i.2.2] 42 (0, 0))) := hi
  have HR : Hid (w1.heap[w.heap.size + 1 + 1]? = some (.cells #[.int .u8 0, .int .i64 0, .int .i64 0] 31 (0, 0))) := hr
  have HB : Hid (Below w.heap.size w w1) := hb
  have HZ : Hid (w1.heap.size = w.heap.size + 1 + 1 + 1) := z1
  have a0 := mc3 hm
  clear hm hi hr hb z1
  go_wp2_with fail
  refine (may_any m HOK.out w1).mono ?_
  rintro e w2 ⟨rfl, hb2⟩
  have HL2 : Hid (w.heap.size < w2.heap.size ∧ w.heap.size + 1 < w2.heap.size ∧ w.heap.size + 1 + 1 < w2.heap.size) := by have := HZ.out; have := hb2.size; show _ ∧ _ ∧ _; omega
  have HM2 : Hid (w2.heap[w.heap.size]? = some (.cells #[.int .u8 m.1, .int .i64 m.2.1, .int .i64 m.2.2] 31 (0, 0))) := block_below HM.out hb2 (by have := HZ.out; omega)
  have HI2 : Hid (w2.heap[w.heap.size + 1]? = some (.cells #[.int .u8 i.1, .int .i64 i.2.1, .int .u8 i.2.2] 42 (0, 0))) := block_below HI.out hb2 (by have := HZ.out; omega)
  have HR2 : Hid (w2.heap[w.heap.size + 1 + 1]? = some (.cells #[.int .u8 0, .int .i64 0, .int .i64 0] 31 (0, 0))) := block_below HR.out hb2 (by have := HZ.out; omega)
  have HB2 : Hid (Below w.heap.size w w2) := HB.out.trans (hb2.mono (by have := HZ.out; omega))
  clear hb2 a0
  cases hmay : mayS m with
  | false =>
    have HS : Hid (stepS m i = ((0, 0, 0), [])) := by show _ = _; unfold stepS; rw [if_pos hmay]
    obtain ⟨⟨r0, r1, r2⟩, rf⟩ := cells3 HR2.out
    obtain ⟨l0, l1, l2⟩ := HL2.out
    go_wp2_with fail
    refine bodyPost_ret (results_row_tmp rfl _ _ (w.heap.size + 1 + 1) 31 (mcells (0, 0, 0)) (0, 0) _ rfl (block_store3 _ _ _ HR2.out) Try.underlying31 rfl size31) rfl ?_
    rw [HS.out]
    refine ⟨_, rfl, World.ownsRow_nil _ _ _ _, ?_⟩
    exact ((HB2.out.setCell (by simp; omega) _).setCell (by simp; omega) _).setCell (by simp; omega) _
  | true =>
    have HW : Hid (m.1 = 1 → 0 ≤ m.2.1 ∧ m.2.1 ≤ 100000) := fun h => by have := (may_wait hmay h).2; omega
    obtain ⟨x0, x1, x2⟩ := mc3 HM2.out
    obtain ⟨y0, y1, y2⟩ := mc3 HI2.out
    obtain ⟨l0, l1, l2⟩ := HL2.out
    have HK : Hid (∀ {W}, Below w2.heap.size w2 W → W.cell? ⟨w.heap.size, 0, none⟩ = some (.int .u8 m.1) ∧ W.cell? ⟨w.heap.size + 1, 0, none⟩ = some (.int .u8 i.1) ∧ W.cell? ⟨w.heap.size + 1, 1, none⟩ = some (.int .i64 i.2.1) ∧ W.cell? ⟨w.heap.size + 1, 2, none⟩ = some (.int .u8 i.2.2)) := fun hb =>
      ⟨(mc3 (block_below HM2.out hb HL2.out.1)).1, mc3 (block_below HI2.out hb HL2.out.2.1)⟩
    obtain ⟨cl, hcl⟩ : ∃ cl, cl = (if i.1 = 2 then classS i.2.1 else 0) := ⟨_, rfl⟩
    obtain ⟨tm, htm⟩ : ∃ tm, tm = (if i.1 = 5 then i.2.2 else 0) := ⟨_, rfl⟩
    have HWh : Hid (whatV i = .agg #[.int .u8 i.1, .int .i64 cl, .int .u8 tm]) := by show _ = _; rw [hcl, htm]; rfl
    have HKy : Hid (keyV (keyS m i) = .agg #[.int .u8 m.1, .int .u8 i.1, .int .i64 cl, .int .u8 tm]) := by show _ = _; rw [hcl, htm]; rfl
    clear hcl htm
    by_cases hkey : keyS m i ∈ keysS
    · go_upto_region 3 with fail
      have hkeep0 := HK.out (Below.refl w2.heap.size w2).drew
      have hkeep00 := HK.out (Below.refl w2.heap.size w2)
      go_region_held3 (fun W => W.cell? ⟨w.heap.size, 0, none⟩ = some (.int .u8 m.1) ∧ W.cell? ⟨w.heap.size + 1, 0, none⟩ = some (.int .u8 i.1) ∧ W.cell? ⟨w.heap.size + 1, 1, none⟩ = some (.int .i64 i.2.1) ∧ W.cell? ⟨w.heap.size + 1, 2, none⟩ = some (.int .u8 i.2.2)) (first | exact hkeep2 | exact hkeep1 | exact hkeep0 | exact hkeep00 | go_keep)
        (first
          | (go_at_call 27
             refine (table_any _).mono ?_
             rintro e w3 ⟨mp, rfl, hmap, hb3⟩
             have B3 : Below w2.heap.size w2 w3 := (below_drewN (Below.refl _ _) 1).trans (hb3.mono (Nat.le_refl _))
             have hkeep1 := HK.out B3)
          | (go_at_call 28
             refine (of_any i _).mono ?_
             rw [HWh.out]
             rintro e w4 ⟨rfl, hb4⟩
             have B4 : Below w2.heap.size w2 w4 := B3.trans (hb4.mono B3.size)
             have hkeep2 := HK.out B4
             have hmp : mp < w3.heap.size := by obtain ⟨_, _, h, _⟩ := hmap; exact (Array.getElem?_eq_some_iff.1 h).1
             have hmap4 := hmap.keep (KeepC.of_below hb4) (hb4.block mp hmp)
             obtain ⟨_, v, x, hrun, ht, hE⟩ := (map_lookup hmap4 (keyS m i)).resolve_right (fun h => h.1 hkey)
             rw [HKy.out] at hrun))
      have HS : Hid (stepS m i = effS x m i.2.1) := by show _ = _; unfold stepS; rw [if_neg (by simp [hmay]), ht]
      have HM4 : Hid (w4.heap[w.heap.size]? = some (.cells #[.int .u8 m.1, .int .i64 m.2.1, .int .i64 m.2.2] 31 (0, 0))) := block_below HM2.out B4 HL2.out.1
      have HR4 : Hid (w4.heap[w.heap.size + 1 + 1]? = some (.cells #[.int .u8 0, .int .i64 0, .int .i64 0] 31 (0, 0))) := block_below HR2.out B4 HL2.out.2.2
      have HB4 : Hid (Below w.heap.size w w4) := HB2.out.trans (B4.mono (by have := HL2.out.1; omega))
      have HZ4 : Hid (w2.heap.size ≤ w4.heap.size) := B4.size
      have hC := eff_any (B := w2.heap.size) m i.2.1 hE B4.size (fun hx => HW.out (table_again (k := keyS m i) (by rw [ht, hx]))) (fun s fin f hx => table_become (k := keyS m i) (by rw [ht, hx]))
      obtain ⟨z0, z1, z2⟩ := mc3 HM4.out
      obtain ⟨-, -, z3, -⟩ := hkeep2
      have p0 : w.heap.size < w4.heap.size := by have := HL2.out.1; have := HZ4.out; omega
      have p1 : w.heap.size + 1 < w4.heap.size := by have := HL2.out.2.1; have := HZ4.out; omega
      clear ht hE hrun hmap4 hmap hmp hb4 hb3 B4 B3 hkeep1 hkeep0 hkeep00 x0 x1 x2 y0 y1 y2 l0 l1 l2
      generalize effS x m i.2.1 = r at HS hC
      rcases hC with ⟨rfl, hc⟩ | ⟨h1, rfl, hc⟩ | ⟨h1, rfl, hc⟩ | ⟨h1, h2, h3, rfl, hc⟩
      all_goals
        go_wp2_with fail
        refine hc.mono ?_
        rintro e w6 ⟨v6, rfl, hown, hb6⟩
        have HO6 : Hid (w6.ownsRow w2.heap.size 48 4 v6 r.2.length (oscells r.2)) := hown
        have HR6 : Hid (w6.heap[w.heap.size + 1 + 1]? = some (.cells #[.int .u8 0, .int .i64 0, .int .i64 0] 31 (0, 0))) := block_below HR4.out hb6 HL2.out.2.2
        have HB6 : Hid (Below w.heap.size w w6) := HB4.out.trans (hb6.mono (by have := HL2.out.1; omega))
        obtain ⟨⟨r0, r1, r2⟩, rf⟩ := cells3 HR6.out
        have p6 : w.heap.size + 1 + 1 < w6.heap.size := by have := HL2.out.2.2; have := hb6.size; have := HZ4.out; omega
        clear hown hb6 z0 z1 z2 z3 p0 p1 hc
        go_wp2_with fail
        refine bodyPost_ret (results_row_tmp rfl _ _ (w.heap.size + 1 + 1) 31 (mcells r.1) (0, 0) _ rfl (block_store3 _ _ _ HR6.out) Try.underlying31 rfl size31) rfl ?_
        rw [HS.out]
        refine ⟨_, rfl, own_base (own_heap (w' := ((w6.setCell ⟨w.heap.size + 1 + 1, 0, none⟩ (.int .u8 r.1.1)).setCell ⟨w.heap.size + 1 + 1, 1, none⟩ (.int .i64 r.1.2.1)).setCell ⟨w.heap.size + 1 + 1, 2, none⟩ (.int .i64 r.1.2.2)) HO6.out (fun b hb => by
          have hlt := (HO6.out.lt b hb).1
          have hx : b ≠ w.heap.size + 1 + 1 := by have := HL2.out.2.2; omega
          rw [Below.heap_setCell _ _ _ _ hx, Below.heap_setCell _ _ _ _ hx, Below.heap_setCell _ _ _ _ hx])) (by have := HL2.out.1; omega), ?_⟩
        exact ((HB6.out.setCell (by simp; omega) _).setCell (by simp; omega) _).setCell (by simp; omega) _
    · have HS : Hid (stepS m i = (m, [])) := by show _ = _; unfold stepS; rw [if_neg (by simp [hmay]), table_none hkey]
      go_upto_region 3 with fail
      have hkeep0 := HK.out (Below.refl w2.heap.size w2).drew
      have hkeep00 := HK.out (Below.refl w2.heap.size w2)
      go_region_held3 (fun W => W.cell? ⟨w.heap.size, 0, none⟩ = some (.int .u8 m.1) ∧ W.cell? ⟨w.heap.size + 1, 0, none⟩ = some (.int .u8 i.1) ∧ W.cell? ⟨w.heap.size + 1, 1, none⟩ = some (.int .i64 i.2.1) ∧ W.cell? ⟨w.heap.size + 1, 2, none⟩ = some (.int .u8 i.2.2)) (first | exact hkeep2 | exact hkeep1 | exact hkeep0 | exact hkeep00 | go_keep)
        (first
          | (go_at_call 27
             refine (table_any _).mono ?_
             rintro e w3 ⟨mp, rfl, hmap, hb3⟩
             have B3 : Below w2.heap.size w2 w3 := (below_drewN (Below.refl _ _) 1).trans (hb3.mono (Nat.le_refl _))
             have hkeep1 := HK.out B3)
          | (go_at_call 28
             refine (of_any i _).mono ?_
             rw [HWh.out]
             rintro e w4 ⟨rfl, hb4⟩
             have B4 : Below w2.heap.size w2 w4 := B3.trans (hb4.mono B3.size)
             have hkeep2 := HK.out B4
             have hmp : mp < w3.heap.size := by obtain ⟨_, _, h, _⟩ := hmap; exact (Array.getElem?_eq_some_iff.1 h).1
             have hmap4 := hmap.keep (KeepC.of_below hb4) (hb4.block mp hmp)
             have hrun := ((map_lookup hmap4 (keyS m i)).resolve_left (fun h => hkey h.1)).2
             rw [HKy.out] at hrun))
      have HM4 : Hid (w4.heap[w.heap.size]? = some (.cells #[.int .u8 m.1, .int .i64 m.2.1, .int .i64 m.2.2] 31 (0, 0))) := block_below HM2.out B4 HL2.out.1
      have HR4 : Hid (w4.heap[w.heap.size + 1 + 1]? = some (.cells #[.int .u8 0, .int .i64 0, .int .i64 0] 31 (0, 0))) := block_below HR2.out B4 HL2.out.2.2
      have HB4 : Hid (Below w.heap.size w w4) := HB2.out.trans (B4.mono (by have := HL2.out.1; omega))
      obtain ⟨z0, z1, z2⟩ := mc3 HM4.out
      obtain ⟨⟨r0, r1, r2⟩, rf⟩ := cells3 HR4.out
      have p0 : w.heap.size < w4.heap.size := by have := HL2.out.1; have := B4.size; omega
      have p1 : w.heap.size + 1 + 1 < w4.heap.size := by have := HL2.out.2.2; have := B4.size; omega
      clear hrun hmap4 hmap hmp hb4 hb3 B4 B3 hkeep2 hkeep1 hkeep0 hkeep00 x0 x1 x2 y0 y1 y2 l0 l1 l2
      go_wp2_with fail
      refine bodyPost_ret (results_row_tmp rfl _ _ (w.heap.size + 1 + 1) 31 (mcells m) (0, 0) _ rfl (block_store3 _ _ _ HR4.out) Try.underlying31 rfl size31) rfl ?_
      rw [HS.out]
      refine ⟨_, rfl, World.ownsRow_nil _ _ _ _, ?_⟩
      exact ((HB4.out.setCell (by simp; omega) _).setCell (by simp; omega) _).setCell (by simp; omega) _

end Go.Proofs.Ytlcpadonjbaaeaa
