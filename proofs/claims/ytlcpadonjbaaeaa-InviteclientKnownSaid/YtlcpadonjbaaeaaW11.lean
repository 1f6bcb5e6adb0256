/- The walks: Copies of both sides. -/
import Derived.Test.YtlcpadonjbaaeaaW2
namespace Go.Proofs.Ytlcpadonjbaaeaa
open Go.RowKit

theorem copies_of {u : Int} (k : Nat) (hk : k ≤ 7) (h1 : ∀ t ∈ timesS.take k, t ≤ u) (h2 : ∀ t ∈ timesS.drop k, ¬ t ≤ u) : copiesS u = k := by
  unfold copiesS
  rw [← List.take_append_drop k timesS, List.filter_append, List.filter_eq_self.2 (by simpa using h1), List.filter_eq_nil_iff.2 (by simpa using h2)]
  simp [timesS]
  omega

/-- When the k-th copy is sent, and the interval behind it. -/
def atL : List Int := [0, 500, 1500, 3500, 7500, 15500, 31500, 63500]
def wtL : List Int := [500, 1000, 2000, 4000, 8000, 16000, 32000, 64000]
/-- Behind k rounds. -/
def CopR (u : Int) (n a wt : Value) : Prop := ∃ k : Nat, k ≤ 7 ∧ n = .int .i64 k ∧ a = .int .i64 (atL.getD k 0) ∧ wt = .int .i64 (wtL.getD k 0) ∧ (1 ≤ k → atL.getD (k - 1) 0 ≤ u)

theorem copies_at {u : Int} {k : Nat} (hk : k ≤ 7) (h1 : 1 ≤ k → atL.getD (k - 1) 0 ≤ u) (h2 : u < atL.getD k 0 ∨ k = 7) : copiesS u = k := by
  refine copies_of k hk ?_ ?_
  all_goals
    rcases (show k = 0 ∨ k = 1 ∨ k = 2 ∨ k = 3 ∨ k = 4 ∨ k = 5 ∨ k = 6 ∨ k = 7 by omega) with rfl | rfl | rfl | rfl | rfl | rfl | rfl | rfl
    all_goals
      simp [atL] at h1 h2
      simp [timesS]
      try omega

theorem copR_step {u : Int} {k : Nat} (hk : k < 7) (h : atL.getD k 0 ≤ u) :
    CopR u (.int .i64 ((k : Int) + 1)) (.int .i64 (atL.getD k 0 + wtL.getD k 0)) (.int .i64 (2 * wtL.getD k 0)) := by
  refine ⟨k + 1, by omega, by go_num, ?_, ?_, fun _ => by simpa using h⟩
  all_goals
    congr 1
    rcases (show k = 0 ∨ k = 1 ∨ k = 2 ∨ k = 3 ∨ k = 4 ∨ k = 5 ∨ k = 6 by omega) with rfl | rfl | rfl | rfl | rfl | rfl | rfl
    all_goals decide

theorem at_bd (k : Nat) : 0 ≤ atL.getD k 0 ∧ atL.getD k 0 ≤ 63500 ∧ 0 ≤ wtL.getD k 0 ∧ wtL.getD k 0 ≤ 64000 := by
  by_cases h : 8 ≤ k
  · rw [List.getD_eq_getElem?_getD, List.getD_eq_getElem?_getD, List.getElem?_eq_none (by simpa [atL] using h), List.getElem?_eq_none (by simpa [wtL] using h)]
    simp
  · rcases (show k = 0 ∨ k = 1 ∨ k = 2 ∨ k = 3 ∨ k = 4 ∨ k = 5 ∨ k = 6 ∨ k = 7 by omega) with rfl | rfl | rfl | rfl | rfl | rfl | rfl | rfl
    all_goals decide
theorem at_lt (k : Nat) (hk : k ≤ 7) : atL.getD k 0 < 32000 ↔ k < 7 := by
  rcases (show k = 0 ∨ k = 1 ∨ k = 2 ∨ k = 3 ∨ k = 4 ∨ k = 5 ∨ k = 6 ∨ k = 7 by omega) with rfl | rfl | rfl | rfl | rfl | rfl | rfl | rfl
  all_goals decide

set_option maxHeartbeats 1000000 in
theorem copies_any (u : Int) (w : World) : Calls Try.prog 12 #[.int .i64 u] w fun e w' => e = .returned (.int .i64 (copiesS u)) ∧ w = w' := by
  go_enter Try.func12, Try.ntmps12
  go_wp2_with fail
  go_loop [3, 4, 5] (CopR u) (fun n _ _ => 7 - (intOf n).toNat)
  case atStart => exact ⟨0, by omega, rfl, rfl, rfl, by omega⟩
  case round =>
    obtain ⟨k, hk, rfl, rfl, rfl, h1⟩ := hrel
    have H1 : Hid (1 ≤ k → atL.getD (k - 1) 0 ≤ u) := h1
    clear h1
    obtain ⟨b0, b1, b2, b3⟩ := at_bd k
    have hlt := at_lt k hk
    have HCE : Hid (u < atL.getD k 0 ∨ k = 7 → copiesS u = k) := fun h => copies_at hk H1.out h
    have HST : Hid (k < 7 → atL.getD k 0 ≤ u → CopR u (.int .i64 ((k : Int) + 1)) (.int .i64 (atL.getD k 0 + wtL.getD k 0)) (.int .i64 (2 * wtL.getD k 0))) := fun h1 h2 => copR_step h1 h2
    generalize atL.getD k 0 = a at b0 b1 hlt HCE HST ⊢
    generalize wtL.getD k 0 = t at b2 b3 HST ⊢
    by_cases hu : u < a
    · clear hlt
      go_wp2_with fail
      go_ret
      exact ⟨ret_int (HCE.out (.inl hu)).symm, rfl⟩
    · by_cases h7 : k < 7
      · have h32 : a < 32000 := hlt.2 h7
        clear hlt
        go_wp2_with fail
        go_round
        case rel => exact HST.out h7 (by omega)
        case measure => simp [intOf]; omega
      · have h32 : 32000 ≤ a := by omega
        clear hlt
        go_wp2_with fail
        go_ret
        exact ⟨ret_int (HCE.out (.inr (by omega))).symm, rfl⟩

theorem count_snoc (u : Int) (k : Nat) (t : Int) (h : timesS[k]? = some t) : ((timesS.take (k + 1)).filter fun x => decide (x ≤ u)).length = ((timesS.take k).filter fun x => decide (x ≤ u)).length + if t ≤ u then 1 else 0 := by
  rw [List.take_add_one, h, List.filter_append, List.length_append]
  congr 1
  by_cases hu : t ≤ u <;> simp [hu]

set_option maxRecDepth 100000 in
set_option maxHeartbeats 1000000 in
theorem rcopies_any (u : Int) (w : World) : Calls Try.prog 25 #[.int .i64 u] w fun e w' => e = .returned (.int .i64 (copiesS u)) ∧ Below w.heap.size w w' := by
  go_enter Try.func25, Try.ntmps25
  go_wp2_with fail
  have h1 : Rd (w.alloc (.cells (timesS.map (Value.int .i64)).toArray 3)) (w.heap.size + 1) (some ⟨w.heap.size, 0, none⟩) (timesS.map (Value.int .i64)) := Rd.lit w _ 3
  have hb : Below w.heap.size w (w.alloc (.cells (timesS.map (Value.int .i64)).toArray 3)) := (Below.refl _ _).alloc (Nat.le_refl _) _
  simp only [timesS, List.map] at h1 hb
  generalize w.alloc _ = w1 at *
  have HB : Hid (Below w.heap.size w w1) := hb
  have HR : Hid (Rd w1 (w.heap.size + 1) (some ⟨w.heap.size, 0, none⟩) (timesS.map (Value.int .i64))) := h1
  clear h1 hb
  go_loop [3, 5] (fun n i => ∃ k : Nat, k ≤ 7 ∧ i = .int .i64 k ∧ n = .int .i64 (((timesS.take k).filter fun x => decide (x ≤ u)).length : Nat)) (fun _ i => 7 - (intOf i).toNat)
  case atStart => exact ⟨0, by omega, rfl, rfl⟩
  case round =>
    obtain ⟨k, hk, rfl, rfl⟩ := hrel
    by_cases hlt : k < 7
    · have hki : (k : Int) < 7 := by omega
      have ht : timesS[k]? = some (timesS[k]'(by simpa [timesS] using hlt)) := List.getElem?_eq_getElem _
      have hs := count_snoc u k _ ht
      have hle : ((timesS.take k).filter fun x => decide (x ≤ u)).length ≤ 7 := by
        have h1 := List.length_filter_le (fun x => decide (x ≤ u)) (timesS.take k)
        have h2 := List.length_take_le k timesS
        omega
      obtain ⟨b, off, he, hbB, hcell⟩ := HR.out.cell (j := k) (by simpa [timesS] using hlt)
      cases he
      rw [List.getElem_map, Nat.zero_add] at hcell
      have HS : Hid _ := hs
      clear hs ht
      generalize timesS[k]'(by simpa [timesS] using hlt) = t at *
      generalize ((timesS.take k).filter fun x => decide (x ≤ u)).length = n at *
      by_cases htu : t ≤ u
      · go_wp2_with fail
        go_round
        case rel => exact ⟨k + 1, by omega, by go_num, by rw [HS.out, if_pos htu]; go_num⟩
        case measure => simp [intOf]; omega
      · go_wp2_with fail
        go_round
        case rel => exact ⟨k + 1, by omega, by go_num, by rw [HS.out, if_neg htu]; rfl⟩
        case measure => simp [intOf]; omega
    · have hk7 : k = 7 := by omega
      subst hk7
      go_wp2_with fail
      go_ret
      exact ⟨rfl, HB.out⟩

end Go.Proofs.Ytlcpadonjbaaeaa
