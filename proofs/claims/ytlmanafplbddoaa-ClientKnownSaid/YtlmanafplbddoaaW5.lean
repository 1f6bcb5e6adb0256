/- The walks: response, fired. -/
import Derived.Test.YtlmanafplbddoaaW4
namespace Go.Proofs.Ytlmanafplbddoaa
open Go.RowKit

theorem cells4 {w : World} {g : Nat} {t : TypeId} {a b c d : Value} (h : w.heap[g]? = some (.cells #[a, b, c, d] t (0, 0))) :
    w.cell? ⟨g, 0, none⟩ = some a ∧ w.cell? ⟨g, 1, none⟩ = some b ∧ w.cell? ⟨g, 2, none⟩ = some c ∧ w.cell? ⟨g, 3, none⟩ = some d :=
  ⟨cells_of_block h 0, cells_of_block h 1, cells_of_block h 2, cells_of_block h 3⟩


/-- Three new blocks. -/
theorem three_new (w : World) (a b c : Obj) :
    (((w.alloc a).alloc b).alloc c).heap[w.heap.size]? = some a ∧ (((w.alloc a).alloc b).alloc c).heap[w.heap.size + 1]? = some b ∧ (((w.alloc a).alloc b).alloc c).heap[w.heap.size + 1 + 1]? = some c ∧ (((w.alloc a).alloc b).alloc c).heap.size = w.heap.size + 1 + 1 + 1 ∧ Below w.heap.size w (((w.alloc a).alloc b).alloc c) := by
  refine ⟨?_, ?_, ?_, by simp, (((Below.refl _ _).alloc (Nat.le_refl _) _).alloc (by simp) _).alloc (by simp; omega) _⟩
  · rw [heap_alloc_old, heap_alloc_old, heap_alloc_new] <;> simp <;> omega
  · have := heap_alloc_new (w.alloc a) b
    rw [heap_alloc_old]
    · simpa using this
    · simp
  · have := heap_alloc_new ((w.alloc a).alloc b) c
    simpa using this

set_option maxRecDepth 100000 in
set_option maxHeartbeats 2000000 in
theorem response_any (m : Mc) (c : Int) (w : World) :
    Calls Try.prog 39 #[mval m, .int .i64 c] w (GivesS w (responseS m c)) := by
  unfold responseS
  by_cases h1 : c < 100 ∨ 699 < c
  · rw [if_pos h1]
    rcases h1 with h1 | h1
    all_goals
      go_enter Try.func39, Try.ntmps39
      go_wp2
      go_returns
      exact ⟨_, rfl, World.ownsRow_nil _ _ _ _, (((Below.refl _ _).alloc (Nat.le_refl _) _).alloc (by simp) _).alloc (by simp; omega) _⟩
  · rw [if_neg h1]
    have h2 : 100 ≤ c := by omega
    have h3 : c ≤ 699 := by omega
    clear h1
    by_cases h4 : c < 200
    · rw [if_pos h4]
      go_enter Try.func39, Try.ntmps39
      go_wp2_with fail
      obtain ⟨hm, hr, hu, hz, hb⟩ := three_new w (.cells #[.int .u8 3, .int .i64 m.2.1, .int .i64 m.2.2] 26) (.cells #[.int .u8 0, .int .i64 0, .int .i64 0] 26) (.cells #[.int .u8 3, .int .i64 c, .int .u8 0, .int .i64 0] 40)
      generalize World.alloc (World.alloc (World.alloc w _) _) _ = w1 at hm hr hu hz hb ⊢
      obtain ⟨⟨a0, a1, a2⟩, -⟩ := cells3 hm
      obtain ⟨⟨b0, b1, b2⟩, f0⟩ := cells3 hr
      obtain ⟨u0, u1, u2, u3⟩ := cells4 hu
      have HR : Hid (w1.heap[w.heap.size + 1]? = some (.cells #[.int .u8 0, .int .i64 0, .int .i64 0] 26 (0, 0))) := hr
      have HB : Hid (Below w.heap.size w w1) := hb
      have q0 : w.heap.size < w1.heap.size := by omega
      have q1 : w.heap.size + 1 < w1.heap.size := by omega
      have q2 : w.heap.size + 1 + 1 < w1.heap.size := by omega
      clear hm hr hu hz hb
      go_region
      go_wp2_with fail
      refine bodyPost_ret (results_row_tmp rfl _ _ (w.heap.size + 1) 26 (mcells (3, m.2.1, m.2.2)) (0, 0) _ rfl ?_ Try.underlying26 rfl size26) rfl ?_
      · show (World.alloc _ _).heap[_]? = _
        rw [heap_alloc_old]
        · exact block_store3 _ _ _ HR.out
        · simp; omega
      · refine ⟨_, rfl, own_new (w := World.setCell _ _ _) [(3, c, 0, 0)] 1 rfl (by simp) rfl (by simp [maxLen]) (by simp; omega), ?_⟩
        exact ((((HB.out.setCell (by simp) _).setCell (by simp) _).setCell (by simp) _).alloc (by simp; omega) _).drew
    · rw [if_neg h4]
      go_enter Try.func39, Try.ntmps39
      go_wp2_with fail
      obtain ⟨hm, hr, hu, hz, hb⟩ := three_new w (.cells #[.int .u8 m.1, .int .i64 m.2.1, .int .i64 m.2.2] 26) (.cells #[.int .u8 0, .int .i64 0, .int .i64 0] 26) (.cells #[.int .u8 3, .int .i64 c, .int .u8 0, .int .i64 0] 40)
      generalize World.alloc (World.alloc (World.alloc w _) _) _ = w1 at hm hr hu hz hb ⊢
      obtain ⟨⟨a0, a1, a2⟩, -⟩ := cells3 hm
      obtain ⟨⟨b0, b1, b2⟩, f0⟩ := cells3 hr
      obtain ⟨u0, u1, u2, u3⟩ := cells4 hu
      have HR : Hid (w1.heap[w.heap.size + 1]? = some (.cells #[.int .u8 0, .int .i64 0, .int .i64 0] 26 (0, 0))) := hr
      have HB : Hid (Below w.heap.size w w1) := hb
      have q0 : w.heap.size < w1.heap.size := by omega
      have q1 : w.heap.size + 1 < w1.heap.size := by omega
      have q2 : w.heap.size + 1 + 1 < w1.heap.size := by omega
      have HK : Hid (∀ w', Below w1.heap.size w1 w' → w'.cell? ⟨w.heap.size + 1 + 1, 0, none⟩ = some (.int .u8 3) ∧ w'.cell? ⟨w.heap.size + 1 + 1, 1, none⟩ = some (.int .i64 c) ∧ w'.cell? ⟨w.heap.size + 1 + 1, 2, none⟩ = some (.int .u8 0) ∧ w'.cell? ⟨w.heap.size + 1 + 1, 3, none⟩ = some (.int .i64 0)) := fun w' hb => cells4 (block_below hu hb q2)
      have hkeep0 := HK.out w1.drew (below_drewN (Below.refl _ _) 1)
      clear hm hr hu hz hb a0 a1 a2 b0 b1 b2 f0
      go_region_held3 (fun w' => w'.cell? ⟨w.heap.size + 1 + 1, 0, none⟩ = some (.int .u8 3) ∧ w'.cell? ⟨w.heap.size + 1 + 1, 1, none⟩ = some (.int .i64 c) ∧ w'.cell? ⟨w.heap.size + 1 + 1, 2, none⟩ = some (.int .u8 0) ∧ w'.cell? ⟨w.heap.size + 1 + 1, 3, none⟩ = some (.int .i64 0))
        (first | exact hkeep1 | exact hkeep0 | go_keep)
        ((go_at_call 26
          refine (timer_any _ _ _).mono ?_
          rintro e w2 ⟨rfl, hb2⟩
          have HX : Hid (Below w1.heap.size w1 w2) := (below_drewN (Below.refl _ _) 1).trans (hb2.mono (Nat.le_refl _))
          have hkeep1 := HK.out w2 HX.out
          obtain ⟨⟨b0, b1, b2⟩, f0⟩ := cells3 (block_below HR.out HX.out q1)
          have q3 : w.heap.size + 1 < w2.heap.size := Nat.lt_of_lt_of_le q1 HX.out.size
          have q4 : w.heap.size + 1 + 1 < w2.heap.size := Nat.lt_of_lt_of_le q2 HX.out.size))
      all_goals
        go_wp2_with fail
        refine bodyPost_ret (results_row_tmp rfl _ _ (w.heap.size + 1) 26 (mcells (5, 0, c)) (0, 0) _ rfl ?_ Try.underlying26 rfl size26) rfl ?_
        · show (World.alloc _ _).heap[_]? = _
          rw [heap_alloc_old]
          · exact block_store3 _ _ _ (block_below HR.out HX.out q1)
          · simp; omega
        · refine ⟨_, rfl, own_new (w := World.setCell _ _ _) [(3, c, 0, 0), (4, 0, 11, 5000)] 2 rfl (by simp) rfl (by simp [maxLen]) (by simp; omega), ?_⟩
          have hbx : Below w.heap.size w w2 := HB.out.trans (HX.out.mono (by omega))
          exact (((hbx.setCell (by simp) _).setCell (by simp) _).setCell (by simp) _).alloc (by simp; omega) _

end Go.Proofs.Ytlmanafplbddoaa
