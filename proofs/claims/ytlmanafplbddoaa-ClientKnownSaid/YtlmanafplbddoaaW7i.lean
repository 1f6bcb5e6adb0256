/- The walk: open of the reference: responses. -/
import Derived.Test.YtlmanafplbddoaaW7h
namespace Go.Proofs.Ytlmanafplbddoaa
open Go.RowKit

set_option maxRecDepth 100000 in
set_option maxHeartbeats 4000000 in
theorem ropen_out (m : Mc) (i : In) (w : World) (h2 : i.1 = 2) (h1 : from_ i.2.1 100 199 = false) (h3 : from_ i.2.1 200 699 = false) : Calls Try.prog 32 #[mval m, ival i] w (GivesS w (m, [])) := by
  have d5 : (i.1 == 5) = false := by simp [h2]
  have d6 : (i.1 == 6) = false := by simp [h2]
  have d2 : (i.1 == 2) = true := by simpa using h2
  have H1 : Hid (from_ i.2.1 100 199 = false) := h1
  have H3 : Hid (from_ i.2.1 200 699 = false) := h3
  clear h2 h1 h3
  go_enter Try.func32, Try.ntmps32
  go_wp2_with fail
  refine (from_any _ _ _ _).mono ?_
  rw [H1.out]
  rintro e w1 ⟨rfl, rfl⟩
  go_wp2_with fail
  refine (from_any _ _ _ _).mono ?_
  rw [H3.out]
  rintro e w1 ⟨rfl, rfl⟩
  go_wp2
  go_returns
  exact ⟨_, rfl, World.ownsRow_nil _ _ _ _, below4 _ _ _ _ _⟩

set_option maxRecDepth 100000 in
set_option maxHeartbeats 4000000 in
theorem ropen_prov (m : Mc) (i : In) (w : World) (h2 : i.1 = 2) (h1 : from_ i.2.1 100 199 = true) : Calls Try.prog 32 #[mval m, ival i] w (GivesS w ((3, m.2.1, 0), [(3, i.2.1, 0, 0)])) := by
  have d5 : (i.1 == 5) = false := by simp [h2]
  have d6 : (i.1 == 6) = false := by simp [h2]
  have d2 : (i.1 == 2) = true := by simpa using h2
  have H1 : Hid (from_ i.2.1 100 199 = true) := h1
  clear h2 h1
  go_enter Try.func32, Try.ntmps32
  go_wp2_with fail
  refine (from_any _ _ _ _).mono ?_
  rw [H1.out]
  rintro e w1 ⟨rfl, rfl⟩
  go_wp2_with fail
  go_region
  go_wp2_with fail
  go_returns
  exact ⟨_, rfl, own_new (w := World.alloc _ _) [(3, i.2.1, 0, 0)] 1 rfl (by simp) rfl (by simp [maxLen]) (by simp; omega), ((below4 _ _ _ _ _).alloc (by simp; omega) _).drew⟩

set_option maxRecDepth 100000 in
set_option maxHeartbeats 4000000 in
theorem ropen_final (m : Mc) (i : In) (w : World) (h2 : i.1 = 2) (h1 : from_ i.2.1 100 199 = false) (h3 : from_ i.2.1 200 699 = true) : Calls Try.prog 32 #[mval m, ival i] w (GivesS w ((5, 0, i.2.1), [(3, i.2.1, 0, 0), (4, 0, 11, 5000)])) := by
  have d5 : (i.1 == 5) = false := by simp [h2]
  have d6 : (i.1 == 6) = false := by simp [h2]
  have d2 : (i.1 == 2) = true := by simpa using h2
  have H1 : Hid (from_ i.2.1 100 199 = false) := h1
  have H3 : Hid (from_ i.2.1 200 699 = true) := h3
  clear h2 h1 h3
  go_enter Try.func32, Try.ntmps32
  go_wp2_with fail
  refine (from_any _ _ _ _).mono ?_
  rw [H1.out]
  rintro e w1 ⟨rfl, rfl⟩
  go_wp2_with fail
  refine (from_any _ _ _ _).mono ?_
  rw [H3.out]
  rintro e w1 ⟨rfl, rfl⟩
  go_wp2_with fail
  go_region
  go_wp2_with fail
  go_returns
  exact ⟨_, rfl, own_new (w := World.alloc _ _) [(3, i.2.1, 0, 0), (4, 0, 11, 5000)] 2 rfl (by simp) rfl (by simp [maxLen]) (by simp; omega), ((below4 _ _ _ _ _).alloc (by simp; omega) _).drew⟩

set_option maxRecDepth 100000 in
set_option maxHeartbeats 4000000 in
theorem ropen_e (m : Mc) (i : In) (w : World) (hw : 0 ≤ m.2.1 ∧ m.2.1 ≤ 100000) (h5 : i.1 = 5) (ht : i.2.2 = 5) (x : Int) (hx : x = if m.1 = 2 then longerS m.2.1 else 4000) : Calls Try.prog 32 #[mval m, ival i] w (GivesS w ((m.1, x, m.2.2), [(1, 0, 0, 0), (4, 0, 5, x)])) := by
  have d5 : (i.1 == 5) = true := by simpa using h5
  have e5 : (i.2.2 == 5) = true := by simpa using ht
  obtain ⟨hw0, hw1⟩ := hw
  clear h5 ht
  by_cases h2 : m.1 = 2
  · rw [if_pos h2] at hx
    have d2 : (m.1 == 2) = true := by simpa using h2
    clear h2
    unfold longerS at hx
    by_cases h4 : 2 * m.2.1 ≤ 4000
    · rw [if_pos h4] at hx
      subst hx
      go_enter Try.func32, Try.ntmps32
      go_wp2_with fail
      all_goals
        go_region
        go_wp2_with fail
        go_returns
        exact ⟨_, rfl, own_new (w := World.alloc _ _) [(1, 0, 0, 0), (4, 0, 5, 2 * m.2.1)] 2 rfl (by simp) rfl (by simp [maxLen]) (by simp; omega), ((below4 _ _ _ _ _).alloc (by simp; omega) _).drew⟩
    · rw [if_neg h4] at hx
      subst hx
      go_enter Try.func32, Try.ntmps32
      go_wp2_with fail
      all_goals
        go_region
        go_wp2_with fail
        go_returns
        exact ⟨_, rfl, own_new (w := World.alloc _ _) [(1, 0, 0, 0), (4, 0, 5, 4000)] 2 rfl (by simp) rfl (by simp [maxLen]) (by simp; omega), ((below4 _ _ _ _ _).alloc (by simp; omega) _).drew⟩
  · rw [if_neg h2] at hx
    have d2 : (m.1 == 2) = false := by simpa using h2
    clear h2
    subst hx
    go_enter Try.func32, Try.ntmps32
    go_wp2_with fail
    go_region
    go_wp2_with fail
    go_returns
    exact ⟨_, rfl, own_new (w := World.alloc _ _) [(1, 0, 0, 0), (4, 0, 5, 4000)] 2 rfl (by simp) rfl (by simp [maxLen]) (by simp; omega), ((below4 _ _ _ _ _).alloc (by simp; omega) _).drew⟩

theorem ropen_any (m : Mc) (i : In) (w : World) (hm : mayS m = true) (h1 : m.1 = 2 ∨ m.1 = 3) : Calls Try.prog 32 #[mval m, ival i] w (GivesS w (openR m i)) := by
  obtain ⟨hc, hw⟩ := may_open hm h1
  unfold openR
  by_cases k5 : i.1 = 5
  · by_cases t5 : i.2.2 = 5
    · rw [if_pos ⟨k5, t5⟩]
      exact ropen_e m i w (by omega) k5 t5 _ rfl
    · rw [if_neg (fun x => t5 x.2)]
      by_cases t6 : i.2.2 = 6
      · rw [if_pos ⟨k5, t6⟩]
        exact ropen_f m i w k5 t6
      · rw [if_neg (fun x => t6 x.2), if_neg (by omega), if_neg (by omega), if_neg (by omega)]
        exact ropen_other m i w k5 t5 t6
  · rw [if_neg (fun x => k5 x.1), if_neg (fun x => k5 x.1)]
    by_cases k6 : i.1 = 6
    · rw [if_pos k6]
      exact ropen_fail m i w k6
    · rw [if_neg k6]
      by_cases k2 : i.1 = 2
      · by_cases c1 : from_ i.2.1 100 199 = true
        · rw [if_pos ⟨k2, c1⟩]
          exact ropen_prov m i w k2 c1
        · rw [if_neg (fun x => c1 x.2)]
          have c1 : from_ i.2.1 100 199 = false := by simpa using c1
          by_cases c2 : from_ i.2.1 200 699 = true
          · rw [if_pos ⟨k2, c2⟩]
            exact ropen_final m i w k2 c1 c2
          · rw [if_neg (fun x => c2 x.2)]
            exact ropen_out m i w k2 c1 (by simpa using c2)
      · rw [if_neg (fun x => k2 x.1), if_neg (fun x => k2 x.1)]
        exact ropen_rest m i w k5 k6 k2

end Go.Proofs.Ytlmanafplbddoaa
