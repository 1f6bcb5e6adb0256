/- The walks: completed, open. -/
import Derived.Test.YtlmanafplbddoaaW6
namespace Go.Proofs.Ytlmanafplbddoaa
open Go.RowKit

theorem run_eql_in (a b : In) (W : World) : (binOp .eql 47 (ival a) (ival b)).run Try.prog W = .ok (.bool (decide (a = b))) W := by
  obtain ⟨a1, a2, a3⟩ := a
  obtain ⟨b1, b2, b3⟩ := b
  simp [go_sem]
  by_cases h1 : a1 = b1 <;> by_cases h2 : a2 = b2 <;> by_cases h3 : a3 = b3 <;> simp [h1, h2, h3]

/-- Where a function hands on what over made: its machine stored into its own result. -/
theorem over_end2 {w w4 : World} {fn : Func} {tmps : Array Value} {c : Int} {l : List Out} {n : Nat} {v4 : Value} (hb : Below w.heap.size w w4) (hr : w4.heap[w.heap.size + 1 + 1]? = some (.cells #[.int .u8 0, .int .i64 0, .int .i64 0] 26 (0, 0)))
    (ho : w4.ownsRow (w.heap.size + 1 + 1 + 1) 40 4 v4 n (oscells l)) (hf : fn.results = #[.cell 4 26, .tmp 5]) (hl : l.length = n) (h4 : tmps.getD 4 undef = .pointer (some ⟨w.heap.size + 1 + 1, 0, none⟩)) (h5 : tmps.getD 5 undef = v4) :
    bodyPost Try.prog fn (GivesS w ((7, 0, c), l)) .ret { tmps := tmps, defers := [] } (((w4.setCell ⟨w.heap.size + 1 + 1, 0, none⟩ (.int .u8 7)).setCell ⟨w.heap.size + 1 + 1, 1, none⟩ (.int .i64 0)).setCell ⟨w.heap.size + 1 + 1, 2, none⟩ (.int .i64 c)) := by
  subst h5
  refine bodyPost_ret (results_row_tmp hf _ _ (w.heap.size + 1 + 1) 26 (mcells (7, 0, c)) (0, 0) _ h4 (block_store3 _ _ _ hr) Try.underlying26 rfl size26) rfl ?_
  refine ⟨_, rfl, ?_, ((hb.setCell (by simp; omega) _).setCell (by simp; omega) _).setCell (by simp; omega) _⟩
  rw [hl]
  refine own_base (own_heap ho fun b hbb => ?_) (by omega)
  have := (ho.lt b hbb).1
  rw [Below.heap_setCell _ _ _ _ (by simp; omega), Below.heap_setCell _ _ _ _ (by simp; omega), Below.heap_setCell _ _ _ _ (by simp; omega)]

set_option maxRecDepth 100000 in
set_option maxHeartbeats 4000000 in
theorem completed_any (m : Mc) (i : In) (w : World) : Calls Try.prog 36 #[mval m, ival i] w (GivesS w (completedS m i)) := by
  unfold completedS
  have he := fun W => run_eql_in i (5, i.2.1, 11) W
  by_cases h : i.1 = 5 ∧ i.2.2 = 11
  · rw [if_pos h]
    have hd : decide (i = (5, i.2.1, 11)) = true := by
      obtain ⟨k, d, t⟩ := i
      simp only at h
      obtain ⟨rfl, rfl⟩ := h
      simp
    rw [hd] at he
    clear h hd
    go_enter Try.func36, Try.ntmps36
    go_wp2_with fail
    obtain ⟨-, -, hr, hz, hb⟩ := three_new w (.cells #[.int .u8 m.1, .int .i64 m.2.1, .int .i64 m.2.2] 26) (.cells #[.int .u8 i.1, .int .i64 i.2.1, .int .u8 i.2.2] 47) (.cells #[.int .u8 0, .int .i64 0, .int .i64 0] 26)
    generalize World.alloc (World.alloc (World.alloc w _) _) _ = w3 at hr hz hb ⊢
    refine (over_any (base := w.heap.size + 1 + 1 + 1) m _ [] _ (World.ownsRow_nil _ _ _ _) (by simp) (by omega)).mono ?_
    rintro e w4 ⟨v4, rfl, hown4, hb4⟩
    have hr4 : w4.heap[w.heap.size + 1 + 1]? = some (.cells #[.int .u8 0, .int .i64 0, .int .i64 0] 26 (0, 0)) := block_below hr hb4 (by omega)
    have q4 : w.heap.size + 1 + 1 < w4.heap.size := by have := hb4.size; omega
    obtain ⟨⟨b0, b1, b2⟩, f0⟩ := cells3 hr4
    have HB4 : Hid (Below w.heap.size w w4) := hb.trans (hb4.mono (by omega))
    have HR4 : Hid (w4.heap[w.heap.size + 1 + 1]? = some (.cells #[.int .u8 0, .int .i64 0, .int .i64 0] 26 (0, 0))) := hr4
    have HO4 : Hid (w4.ownsRow (w.heap.size + 1 + 1 + 1) 40 4 v4 1 (oscells [(7, 0, 0, 0)])) := hown4
    clear hr hz hb hown4 hb4 hr4 he
    go_wp2_with fail
    exact over_end2 HB4.out HR4.out HO4.out rfl rfl rfl rfl
  · rw [if_neg h]
    have hd : decide (i = (5, i.2.1, 11)) = false := by
      rw [decide_eq_false_iff_not]
      intro e
      exact h ⟨by rw [e], by rw [e]⟩
    rw [hd] at he
    clear h hd
    go_enter Try.func36, Try.ntmps36
    go_wp2
    go_returns
    exact ⟨_, rfl, World.ownsRow_nil _ _ _ _, (((Below.refl _ _).alloc (Nat.le_refl _) _).alloc (by simp) _).alloc (by simp; omega) _⟩

end Go.Proofs.Ytlmanafplbddoaa
