/- The walk of the reference's Restart. -/
import Derived.Test.YtfocenfgeolpfaaR4
namespace Go.Proofs.Ytfocenfgeolpfaa
open Go.RowKit

set_option maxHeartbeats 400000 in
theorem rrestart_ok {B : Nat} (A : Option Addr) (c : Nat) (l : List Tm) (t : Tm) (w : World) (hB : B ≤ w.heap.size) (h : TRd w B A l) (hl : l.length ≤ maxLen) (h1 : validT l = true) (h2 : firesT t = true) :
    Calls Try.prog 25 #[.slice A l.length c, .agg #[.int .i64 t.1, .int .i64 t.2.1, .int .i64 t.2.2]] w (Gives2 w (addT (cancelT t.2.1 t.2.2 l) t)) := by
  have HL : Hid (l.length ≤ maxLen) := hl
  have HH : Hid (TRd w B A l) := h
  have hlen := valid_len h1
  have hfi := fires_yes h2
  have d1 : decide (t.1 < 0) = false := by simp; omega
  have d2 : decide (1099511627776 < t.1) = false := by simp; omega
  have hcl : (cancelT t.2.1 t.2.2 l).length ≤ l.length := without_len _ l
  clear hl h h2 hfi
  go_enter Try.func25, Try.ntmps25
  go_wp2_with fail
  refine (rvalid_any (B := B) A c l _ (by simp; omega) (HH.out.below ((Below.refl _ _).alloc hB _)) HL.out).mono ?_
  rintro e w1 ⟨rfl, hb⟩
  obtain ⟨hc, hf⟩ := bcell hb
  have hz := hb.size
  simp only [World.size_alloc] at hz
  have hlt1 : w.heap.size < w1.heap.size := by omega
  obtain ⟨w2, rfl⟩ : ∃ w2, w2 = w1 := ⟨w1, rfl⟩
  have hlt2 : w.heap.size < w2.heap.size := hlt1
  have hB2 : Below (w.heap.size + 1) (w.alloc (.cells #[.int .i64 t.1, .int .i64 t.2.1, .int .i64 t.2.2] 28)) w2 := hb.mono (by simp)
  have k0 : w2.cell? ⟨w.heap.size, 0, none⟩ = some (.int .i64 t.1) := (hB2.cell (by simp)).trans (by simp [go_sem])
  have k1 : w2.cell? ⟨w.heap.size, 1, none⟩ = some (.int .i64 t.2.1) := (hB2.cell (by simp)).trans (by simp [go_sem])
  have k2 : w2.cell? ⟨w.heap.size, 2, none⟩ = some (.int .i64 t.2.2) := (hB2.cell (by simp)).trans (by simp [go_sem])
  have HBW : Hid (Below w.heap.size w w2) := ((Below.refl _ _).alloc (Nat.le_refl _) _).trans (hB2.mono (by omega))
  clear hc hf hb hz hlt1 hB2
  go_wp2_with fail
  go_region_held3 (fun w' => w'.cell? ⟨w.heap.size, 0, none⟩ = some (.int .i64 t.1) ∧ w'.cell? ⟨w.heap.size, 1, none⟩ = some (.int .i64 t.2.1) ∧ w'.cell? ⟨w.heap.size, 2, none⟩ = some (.int .i64 t.2.2))
    (first | go_keep | exact hkeep3 | exact hkeep4)
    (first
      | (go_at_call 28
         refine (rcancel_any (B := B) A c l t.2.1 t.2.2 _ (by simp; omega) (HH.out.below ((below_drewN HBW.out 1).mono hB)) (by omega)).mono ?_
         rintro e w3 ⟨v3, rfl, hown3, hb3⟩
         have hkeep3 : w3.cell? ⟨w.heap.size, 0, none⟩ = some (.int .i64 t.1) ∧ w3.cell? ⟨w.heap.size, 1, none⟩ = some (.int .i64 t.2.1) ∧ w3.cell? ⟨w.heap.size, 2, none⟩ = some (.int .i64 t.2.2) :=
           ⟨(hb3.cell (by simpa using hlt2)).trans k0, (hb3.cell (by simpa using hlt2)).trans k1, (hb3.cell (by simpa using hlt2)).trans k2⟩
         obtain ⟨A3, c3, rfl, hc3⟩ := own_slice hown3
         have hz3 := hb3.size)
      | (go_at_call 23
         refine (radd_any (B := w3.heap.size) A3 c3 (cancelT t.2.1 t.2.2 l) t _ (Nat.le_refl _) (Rd.of_own hown3) (by simp only [maxLen]; omega)).mono ?_
         rintro e w4 ⟨v4, rfl, hown4, hb4⟩
         have hlt3 : w.heap.size < w3.heap.size := by have : w2.heap.size ≤ w3.heap.size := by simpa using hz3
                                                      omega
         have hkeep4 : w4.cell? ⟨w.heap.size, 0, none⟩ = some (.int .i64 t.1) ∧ w4.cell? ⟨w.heap.size, 1, none⟩ = some (.int .i64 t.2.1) ∧ w4.cell? ⟨w.heap.size, 2, none⟩ = some (.int .i64 t.2.2) :=
           ⟨(hb4.cell hlt3).trans hkeep3.1, (hb4.cell hlt3).trans hkeep3.2.1, (hb4.cell hlt3).trans hkeep3.2.2⟩))
  go_wp2_with fail
  go_ret2
  have hz34 : w2.heap.size ≤ w3.heap.size := by simpa using hz3
  exact ⟨v4, rfl, own_base hown4 (by omega), (below_drewN HBW.out 1).trans ((hb3.mono (by simp; omega)).trans (hb4.mono (by omega)))⟩

theorem rrestart_any {B : Nat} (A : Option Addr) (c : Nat) (l : List Tm) (t : Tm) (w : World) (hB : B ≤ w.heap.size) (h : TRd w B A l) (hl : l.length ≤ maxLen) :
    Calls Try.prog 25 #[.slice A l.length c, .agg #[.int .i64 t.1, .int .i64 t.2.1, .int .i64 t.2.2]] w (Gives2 w (restartT l t)) := by
  by_cases hv : validT l = false ∨ firesT t = false
  · have e : restartT l t = ([], 2) := if_pos hv
    rw [e]
    exact (rrestart_bad A c l t w hB h hl hv).mono fun _ _ ⟨he, hb⟩ => ⟨_, he, World.ownsRow_nil _ _ _ _, hb⟩
  · have h1 : validT l = true := by simpa using (not_or.1 hv).1
    have h2 : firesT t = true := by simpa using (not_or.1 hv).2
    have e : restartT l t = addT (cancelT t.2.1 t.2.2 l) t := if_neg hv
    rw [e]
    exact rrestart_ok A c l t w hB h hl h1 h2

end Go.Proofs.Ytfocenfgeolpfaa
