/- The walks: the effect over. -/
import Derived.Test.YtlcpadonjbaaeaaW6
namespace Go.Proofs.Ytlcpadonjbaaeaa
open Go.RowKit

set_option maxRecDepth 100000 in
set_option maxHeartbeats 2000000 in
theorem over_nil {base : Nat} (m : Mc) (c : Int) (h : Nat) (t : TypeId) (w : World) (hh : w.heap[h]? = some (.cells #[.slice none 0 0] t (0, 0))) (hown : w.ownsRow base 48 4 (.slice none 0 0) 0 (oscells ([] : List Out))) (hb : base ≤ w.heap.size) :
    Calls Try.prog 36 #[mval m, .int .i64 c, .pointer (some ⟨h, 0, none⟩)] w (GivesB base w ((7, 0, m.2.2), ([] : List Out) ++ [(7, 0, 0, 0)])) := by
  obtain ⟨k0, -⟩ := cell1 hh
  have p0 : h < w.heap.size := (Array.getElem?_eq_some_iff.1 hh).1
  have HO : Hid (w.ownsRow base 48 4 (.slice none 0 0) 0 (oscells ([] : List Out))) := hown
  have HB : Hid (base ≤ w.heap.size) := hb
  have HH : Hid (w.heap[h]? = some (.cells #[.slice none 0 0] t (0, 0))) := hh
  clear hown hb hh k0
  obtain ⟨i0, hi0, hz0, hz1, hz2⟩ := info_parts info48
  go_enter Try.func36, Try.ntmps36
  go_upto_region 1 with fail
  obtain ⟨hm1, hr1, z1, hb1⟩ := two_new w (.cells (mcells m) 31) (.cells (mcells (0, 0, 0)) 31)
  unfold mcells at hm1 hr1 hb1 z1
  generalize World.alloc (World.alloc w _) _ = w1 at hm1 hr1 hb1 z1 ⊢
  obtain ⟨⟨-, -, a2⟩, -⟩ := cells3 hm1
  obtain ⟨k0, -⟩ := cell1 (block_below HH.out hb1 p0)
  have HM1 : Hid (w1.heap[w.heap.size]? = some (.cells (mcells m) 31 (0, 0))) := hm1
  have HH1 : Hid (w1.heap[h]? = some (.cells #[.slice none 0 0] t (0, 0))) := block_below HH.out hb1 p0
  have HK : Hid (∀ w' : World, w'.heap[w.heap.size + 1]? = w1.heap[w.heap.size + 1]? → (w'.cell? ⟨w.heap.size + 1, 0, none⟩ = some (.int .u8 0) ∧ w'.cell? ⟨w.heap.size + 1, 1, none⟩ = some (.int .i64 0) ∧ w'.cell? ⟨w.heap.size + 1, 2, none⟩ = some (.int .i64 0)) ∧ ∀ o, w'.frozen? ⟨w.heap.size + 1, o, none⟩ = false) := fun w' hw => cells3 (hw.trans hr1)
  have HR : Hid (w1.heap[w.heap.size + 1]? = some (.cells (mcells (0, 0, 0)) 31 (0, 0))) := hr1
  have HB1 : Hid (Below w.heap.size w w1) := hb1
  have HO1 : Hid (w1.ownsRow base 48 4 (.slice none 0 0) 0 (oscells ([] : List Out))) := own_below HO.out hb1
  have HZ : Hid (w1.heap.size = w.heap.size + 1 + 1) := z1
  have HNB : Hid (∀ g, (Value.slice none 0 0).ownBlock = some g → g < w.heap.size ∧ g ≠ h) := fun g hg => ⟨(HO.out.lt g hg).2, fun e => by simp [Value.ownBlock] at hg⟩
  have q0 : w.heap.size < w1.heap.size := by omega
  have q1 : w.heap.size + 1 < w1.heap.size := by omega
  have q2 : h < w1.heap.size := by omega
  have r1 : h ≠ w.heap.size + 1 := by omega
  have r2 : w.heap.size + 1 ≠ h := by omega
  have hkeep0 : w1.drew.cell? ⟨h, 0, none⟩ = some (.slice none 0 0) ∧ w1.drew.cell? ⟨w.heap.size, 2, none⟩ = some (.int .i64 m.2.2) := ⟨k0, a2⟩
  clear hm1 hr1 hb1 z1
  go_region_held3 (fun w' => w'.cell? ⟨h, 0, none⟩ = some (.slice none 0 0) ∧ w'.cell? ⟨w.heap.size, 2, none⟩ = some (.int .i64 m.2.2)) (first | exact hkeep1 | exact hkeep0 | go_keep)
    ((refine step_append_lies _ (by rfl) _ _ _ (by rfl) base 48 i0 _ 4 32 Try.underlying43 hi0 hz0 hz1 hz2 rfl (by omega) (.slice none 0 0) 0 (oscells ([] : List Out)) (by rfl) (own_below HO1.out (below_drewN ((Below.refl _ _).alloc (Nat.le_refl _) _) 1)) _ 1 1 (ocells (7, 0, 0, 0)) (by rfl) rfl (World.news_of_block (heap_alloc_new w1 _)) (by simp [ocells, Value.oneCell']) (by omega) (by simp only [maxLen]; omega) (by omega) (by have := HB.out; simp; omega) _ rfl ?_
      intro g2 cap w2 hown2 hgrow hat hlt2
      have e1 : w2.heap[w.heap.size + 1]? = w1.heap[w.heap.size + 1]? := by
        rw [hgrow.block (w.heap.size + 1) (by simp; omega) (fun e => by have := HNB.out _ e.symm; omega)]
        show (World.alloc w1 _).heap[_]? = _
        rw [heap_alloc_old]
        exact q1
      have e0 : w2.heap[w.heap.size]? = w1.heap[w.heap.size]? := by
        rw [hgrow.block w.heap.size (by simp; omega) (fun e => by have := HNB.out _ e.symm; omega)]
        show (World.alloc w1 _).heap[_]? = _
        rw [heap_alloc_old]
        exact q0
      have e2 : w2.heap[h]? = w1.heap[h]? := by
        rw [hgrow.block h (by simp; omega) (fun e => (HNB.out _ e.symm).2 rfl)]
        show (World.alloc w1 _).heap[_]? = _
        rw [heap_alloc_old]
        exact q2
      have hkeep1 : w2.cell? ⟨h, 0, none⟩ = some (.slice none 0 0) ∧ w2.cell? ⟨w.heap.size, 2, none⟩ = some (.int .i64 m.2.2) := ⟨cells_of_block (e2.trans HH1.out) 0, cells_of_block (e0.trans HM1.out) 2⟩
      obtain ⟨⟨c0, c1, c2⟩, f0⟩ := HK.out w2 e1
      have hx : g2 ≠ w.heap.size + 1 := by
        rcases hat with h | h
        · have := HNB.out g2 h; omega
        · have := HZ.out; simp at h; omega))
  all_goals
    go_wp2_with fail
    refine bodyPost_ret (results_row_tmp rfl _ _ (w.heap.size + 1) 31 (mcells (7, 0, m.2.2)) (0, 0) _ rfl (block_store3 _ _ _ (e1.trans HR.out)) Try.underlying31 rfl size31) rfl ?_
    refine ⟨_, rfl, ?_, ?_⟩
    · have := own_heap (w' := ((w2.setCell ⟨w.heap.size + 1, 0, none⟩ (.int .u8 7)).setCell ⟨w.heap.size + 1, 1, none⟩ (.int .i64 0)).setCell ⟨w.heap.size + 1, 2, none⟩ (.int .i64 m.2.2)) hown2 (fun b hb => by
        have hb : b = g2 := by simpa [Value.ownBlock] using hb.symm
        subst hb
        rw [Below.heap_setCell _ _ _ _ hx, Below.heap_setCell _ _ _ _ hx, Below.heap_setCell _ _ _ _ hx])
      exact this
    · have hbb : Below base w1 (World.drew (w1.alloc (.cells #[.int .u8 7, .int .i64 0, .int .u8 0, .int .i64 0] 48))) := below_drewN ((Below.refl _ _).alloc (by have := HB.out; omega) _) 1
      exact (((((HB1.out.mono HB.out).trans hbb).grown hgrow (by have := HB.out; simp; omega) (fun k hk => (HO.out.lt k hk).1)).setCell (by have := HB.out; simp; omega) _).setCell (by have := HB.out; simp; omega) _).setCell (by have := HB.out; simp; omega) _

set_option maxRecDepth 100000 in
set_option maxHeartbeats 2000000 in
theorem over_one {base : Nat} (m : Mc) (c : Int) (h : Nat) (t : TypeId) (g0 : Nat) (o : Out) (hgh : g0 ≠ h) (w : World) (hh : w.heap[h]? = some (.cells #[.slice (some ⟨g0, 0, none⟩) 1 1] t (0, 0))) (hown : w.ownsRow base 48 4 (.slice (some ⟨g0, 0, none⟩) 1 1) 1 (oscells [o])) (hb : base ≤ w.heap.size) :
    Calls Try.prog 36 #[mval m, .int .i64 c, .pointer (some ⟨h, 0, none⟩)] w (GivesB base w ((7, 0, m.2.2), [o] ++ [(7, 0, 0, 0)])) := by
  obtain ⟨k0, -⟩ := cell1 hh
  have p0 : h < w.heap.size := (Array.getElem?_eq_some_iff.1 hh).1
  have HO : Hid (w.ownsRow base 48 4 (.slice (some ⟨g0, 0, none⟩) 1 1) 1 (oscells [o])) := hown
  have HB : Hid (base ≤ w.heap.size) := hb
  have HH : Hid (w.heap[h]? = some (.cells #[.slice (some ⟨g0, 0, none⟩) 1 1] t (0, 0))) := hh
  clear hown hb hh k0
  obtain ⟨i0, hi0, hz0, hz1, hz2⟩ := info_parts info48
  go_enter Try.func36, Try.ntmps36
  go_upto_region 1 with fail
  obtain ⟨hm1, hr1, z1, hb1⟩ := two_new w (.cells (mcells m) 31) (.cells (mcells (0, 0, 0)) 31)
  unfold mcells at hm1 hr1 hb1 z1
  generalize World.alloc (World.alloc w _) _ = w1 at hm1 hr1 hb1 z1 ⊢
  obtain ⟨⟨-, -, a2⟩, -⟩ := cells3 hm1
  obtain ⟨k0, -⟩ := cell1 (block_below HH.out hb1 p0)
  have HM1 : Hid (w1.heap[w.heap.size]? = some (.cells (mcells m) 31 (0, 0))) := hm1
  have HH1 : Hid (w1.heap[h]? = some (.cells #[.slice (some ⟨g0, 0, none⟩) 1 1] t (0, 0))) := block_below HH.out hb1 p0
  have HK : Hid (∀ w' : World, w'.heap[w.heap.size + 1]? = w1.heap[w.heap.size + 1]? → (w'.cell? ⟨w.heap.size + 1, 0, none⟩ = some (.int .u8 0) ∧ w'.cell? ⟨w.heap.size + 1, 1, none⟩ = some (.int .i64 0) ∧ w'.cell? ⟨w.heap.size + 1, 2, none⟩ = some (.int .i64 0)) ∧ ∀ o, w'.frozen? ⟨w.heap.size + 1, o, none⟩ = false) := fun w' hw => cells3 (hw.trans hr1)
  have HR : Hid (w1.heap[w.heap.size + 1]? = some (.cells (mcells (0, 0, 0)) 31 (0, 0))) := hr1
  have HB1 : Hid (Below w.heap.size w w1) := hb1
  have HO1 : Hid (w1.ownsRow base 48 4 (.slice (some ⟨g0, 0, none⟩) 1 1) 1 (oscells [o])) := own_below HO.out hb1
  have HZ : Hid (w1.heap.size = w.heap.size + 1 + 1) := z1
  have HNB : Hid (∀ g, (Value.slice (some ⟨g0, 0, none⟩) 1 1).ownBlock = some g → g < w.heap.size ∧ g ≠ h) := fun g hg => ⟨(HO.out.lt g hg).2, fun e => hgh (by simp [Value.ownBlock] at hg; omega)⟩
  have q0 : w.heap.size < w1.heap.size := by omega
  have q1 : w.heap.size + 1 < w1.heap.size := by omega
  have q2 : h < w1.heap.size := by omega
  have r1 : h ≠ w.heap.size + 1 := by omega
  have r2 : w.heap.size + 1 ≠ h := by omega
  have hkeep0 : w1.drew.cell? ⟨h, 0, none⟩ = some (.slice (some ⟨g0, 0, none⟩) 1 1) ∧ w1.drew.cell? ⟨w.heap.size, 2, none⟩ = some (.int .i64 m.2.2) := ⟨k0, a2⟩
  clear hm1 hr1 hb1 z1
  go_region_held3 (fun w' => w'.cell? ⟨h, 0, none⟩ = some (.slice (some ⟨g0, 0, none⟩) 1 1) ∧ w'.cell? ⟨w.heap.size, 2, none⟩ = some (.int .i64 m.2.2)) (first | exact hkeep1 | exact hkeep0 | go_keep)
    ((refine step_append_lies _ (by rfl) _ _ _ (by rfl) base 48 i0 _ 4 32 Try.underlying43 hi0 hz0 hz1 hz2 rfl (by omega) (.slice (some ⟨g0, 0, none⟩) 1 1) 1 (oscells [o]) (by rfl) (own_below HO1.out (below_drewN ((Below.refl _ _).alloc (Nat.le_refl _) _) 1)) _ 1 1 (ocells (7, 0, 0, 0)) (by rfl) rfl (World.news_of_block (heap_alloc_new w1 _)) (by simp [ocells, Value.oneCell']) (by omega) (by simp only [maxLen]; omega) (by omega) (by have := HB.out; simp; omega) _ rfl ?_
      intro g2 cap w2 hown2 hgrow hat hlt2
      have e1 : w2.heap[w.heap.size + 1]? = w1.heap[w.heap.size + 1]? := by
        rw [hgrow.block (w.heap.size + 1) (by simp; omega) (fun e => by have := HNB.out _ e.symm; omega)]
        show (World.alloc w1 _).heap[_]? = _
        rw [heap_alloc_old]
        exact q1
      have e0 : w2.heap[w.heap.size]? = w1.heap[w.heap.size]? := by
        rw [hgrow.block w.heap.size (by simp; omega) (fun e => by have := HNB.out _ e.symm; omega)]
        show (World.alloc w1 _).heap[_]? = _
        rw [heap_alloc_old]
        exact q0
      have e2 : w2.heap[h]? = w1.heap[h]? := by
        rw [hgrow.block h (by simp; omega) (fun e => (HNB.out _ e.symm).2 rfl)]
        show (World.alloc w1 _).heap[_]? = _
        rw [heap_alloc_old]
        exact q2
      have hkeep1 : w2.cell? ⟨h, 0, none⟩ = some (.slice (some ⟨g0, 0, none⟩) 1 1) ∧ w2.cell? ⟨w.heap.size, 2, none⟩ = some (.int .i64 m.2.2) := ⟨cells_of_block (e2.trans HH1.out) 0, cells_of_block (e0.trans HM1.out) 2⟩
      obtain ⟨⟨c0, c1, c2⟩, f0⟩ := HK.out w2 e1
      have hx : g2 ≠ w.heap.size + 1 := by
        rcases hat with h | h
        · have := HNB.out g2 h; omega
        · have := HZ.out; simp at h; omega))
  all_goals
    go_wp2_with fail
    refine bodyPost_ret (results_row_tmp rfl _ _ (w.heap.size + 1) 31 (mcells (7, 0, m.2.2)) (0, 0) _ rfl (block_store3 _ _ _ (e1.trans HR.out)) Try.underlying31 rfl size31) rfl ?_
    refine ⟨_, rfl, ?_, ?_⟩
    · have := own_heap (w' := ((w2.setCell ⟨w.heap.size + 1, 0, none⟩ (.int .u8 7)).setCell ⟨w.heap.size + 1, 1, none⟩ (.int .i64 0)).setCell ⟨w.heap.size + 1, 2, none⟩ (.int .i64 m.2.2)) hown2 (fun b hb => by
        have hb : b = g2 := by simpa [Value.ownBlock] using hb.symm
        subst hb
        rw [Below.heap_setCell _ _ _ _ hx, Below.heap_setCell _ _ _ _ hx, Below.heap_setCell _ _ _ _ hx])
      exact this
    · have hbb : Below base w1 (World.drew (w1.alloc (.cells #[.int .u8 7, .int .i64 0, .int .u8 0, .int .i64 0] 48))) := below_drewN ((Below.refl _ _).alloc (by have := HB.out; omega) _) 1
      exact (((((HB1.out.mono HB.out).trans hbb).grown hgrow (by have := HB.out; simp; omega) (fun k hk => (HO.out.lt k hk).1)).setCell (by have := HB.out; simp; omega) _).setCell (by have := HB.out; simp; omega) _).setCell (by have := HB.out; simp; omega) _

end Go.Proofs.Ytlcpadonjbaaeaa
