/- The walks: example, works. -/
import Derived.Test.YtfocenfgeolpfaaW5
namespace Go.Proofs.Ytfocenfgeolpfaa
open Go.RowKit

def exT : List Tm := [(3, 1, 1), (5, 1, 2), (8, 2, 1)]

/-- The nine cells of the example. -/
def ExCells (w : World) (g : Nat) : Prop :=
  w.cell? ⟨g, 0, none⟩ = some (.int .i64 3) ∧ w.cell? ⟨g, 1, none⟩ = some (.int .i64 1) ∧ w.cell? ⟨g, 2, none⟩ = some (.int .i64 1) ∧
  w.cell? ⟨g, 3, none⟩ = some (.int .i64 5) ∧ w.cell? ⟨g, 4, none⟩ = some (.int .i64 1) ∧ w.cell? ⟨g, 5, none⟩ = some (.int .i64 2) ∧
  w.cell? ⟨g, 6, none⟩ = some (.int .i64 8) ∧ w.cell? ⟨g, 7, none⟩ = some (.int .i64 2) ∧ w.cell? ⟨g, 8, none⟩ = some (.int .i64 1)

theorem ExCells.keep {w w' : World} {g : Nat} (h : ExCells w g) (hk : ∀ o, w'.cell? ⟨g, o, none⟩ = w.cell? ⟨g, o, none⟩) : ExCells w' g := by
  unfold ExCells
  simp only [hk]
  exact h

set_option maxHeartbeats 400000 in
theorem example_any (w : World) :
    Calls Try.prog 33 #[] w fun e w' => e = .returned (.slice (some ⟨w.heap.size, 0, none⟩) 3 3) ∧ ExCells w' w.heap.size ∧ w.heap.size < w'.heap.size ∧ TRd w' w'.heap.size (some ⟨w.heap.size, 0, none⟩) exT ∧ Below w.heap.size w w' := by
  go_enter Try.func33, Try.ntmps33
  go_wp2
  go_ret
  refine ⟨rfl, ?_, by simp, ?_, (Below.refl _ _).alloc (Nat.le_refl _) _⟩
  · unfold ExCells
    simp [go_sem]
  · simp only [World.size_alloc]
    exact Rd.lit _ _ _

theorem same18_yes {B C : Nat} (A D : Option Addr) (c d : Nat) (l : List Tm) (w : World) (hB : B ≤ w.heap.size) (hC : C ≤ w.heap.size) (h : TRd w B A l) (g : TRd w C D l) (hl : l.length ≤ maxLen) :
    Calls Try.prog 18 #[.slice A l.length c, .slice D l.length d] w fun e w' => e = .returned (.bool true) ∧ Below w.heap.size w w' :=
  (same18_any A D c d l l w hB hC h g hl hl).mono fun _ _ ⟨he, hb⟩ => ⟨by rw [he]; simp, hb⟩

theorem add_ex : addT exT (5, 9, 9) = ([(3, 1, 1), (5, 1, 2), (5, 9, 9), (8, 2, 1)], 0) := by decide
theorem restart_ex : restartT exT (6, 1, 1) = ([(5, 1, 2), (6, 1, 1), (8, 2, 1)], 0) := by decide
theorem add_neg : addT [] (-1, 0, 0) = ([], 2) := by decide

set_option maxHeartbeats 1000000 in
theorem works_any (w : World) :
    Calls Try.prog 12 #[] w fun e w' => e = .returned (.bool true) ∧ Below w.heap.size w w' := by
  go_enter Try.func12, Try.ntmps12
  go_wp2_with fail
  refine (example_any _).mono ?_
  rintro e w1 ⟨rfl, -, hlt, hr1, hb1⟩
  go_wp2_with fail
  refine (add_any (B := w1.heap.size) (some ⟨w.heap.size, 0, none⟩) 3 exT (5, 9, 9) _ (Nat.le_refl _) hr1 (by decide) (by decide)).mono ?_
  rw [add_ex]
  rintro e w2 ⟨va, rfl, howna, hb2⟩
  obtain ⟨Aa, ca, rfl, -⟩ := own_slice howna
  have hra := Rd.of_own howna
  clear howna hr1
  go_wp2_with fail
  refine (example_any _).mono ?_
  rintro e w3 ⟨rfl, -, hlt3, hr3, hb3⟩
  go_wp2_with fail
  refine (restart_any (B := w3.heap.size) (some ⟨w2.heap.size, 0, none⟩) 3 exT (6, 1, 1) _ (Nat.le_refl _) hr3 (by decide)).mono ?_
  rw [restart_ex]
  rintro e w4 ⟨vb, rfl, hownb, hb4⟩
  obtain ⟨Ab, cb, rfl, -⟩ := own_slice hownb
  have hrb := Rd.of_own hownb
  clear hownb hr3
  go_wp2_with fail
  refine (add_any (B := 0) none 0 [] (-1, 0, 0) _ (Nat.zero_le _) Rd.nil_ (by decide) (by decide)).mono ?_
  rw [add_neg]
  rintro e w5 ⟨vc, rfl, hownc, hb5⟩
  obtain ⟨Ac, cc, rfl, -⟩ := own_slice hownc
  go_wp2_with fail
  refine (example_any _).mono ?_
  rintro e w6 ⟨rfl, hex, hlt6, -, hb6⟩
  have s1 := hb1.size
  have s2 := hb2.size
  have s3 := hb3.size
  have s4 := hb4.size
  have s5 := hb5.size
  have b26 : Below w2.heap.size w2 w6 := hb3.trans ((hb4.mono s3).trans ((hb5.mono (by omega)).trans (hb6.mono (by omega))))
  have b46 : Below w4.heap.size w4 w6 := hb5.trans (hb6.mono s5)
  have HA : Hid (Rd w6 w6.heap.size Aa (tscells [(3, 1, 1), (5, 1, 2), (5, 9, 9), (8, 2, 1)])) := (Rd.below hra b26).more (by omega)
  have HB : Hid (Rd w6 w6.heap.size Ab (tscells [(5, 1, 2), (6, 1, 1), (8, 2, 1)])) := (Rd.below hrb b46).more (by omega)
  have HW : Hid (Below w.heap.size w w6) := hb1.trans ((hb2.mono s1).trans (b26.mono (by omega)))
  have HX : Hid (ExCells w6 w5.heap.size) := hex
  obtain ⟨x0, x1, x2, x3, x4, x5, x6, x7, x8⟩ := hex
  clear hra hrb hb1 hb2 hb3 hb4 hb5 hb6 b26 b46 hownc s1 s2 s3 s4 s5 hlt hlt3
  go_wp2_with fail
  go_region_held3 (fun w' => w'.cell? ⟨w5.heap.size, 0, none⟩ = some (.int .i64 3) ∧ w'.cell? ⟨w5.heap.size, 1, none⟩ = some (.int .i64 1) ∧ w'.cell? ⟨w5.heap.size, 2, none⟩ = some (.int .i64 1) ∧
      w'.cell? ⟨w5.heap.size, 3, none⟩ = some (.int .i64 5) ∧ w'.cell? ⟨w5.heap.size, 4, none⟩ = some (.int .i64 1) ∧ w'.cell? ⟨w5.heap.size, 5, none⟩ = some (.int .i64 2) ∧
      w'.cell? ⟨w5.heap.size, 6, none⟩ = some (.int .i64 8) ∧ w'.cell? ⟨w5.heap.size, 7, none⟩ = some (.int .i64 2) ∧ w'.cell? ⟨w5.heap.size, 8, none⟩ = some (.int .i64 1))
    (first | go_keep | exact hkeep7 | exact hkeep8)
    (first
      | (go_at_call_of 18 (Aa)
         refine (same18_yes (B := w6.heap.size) (C := w6.heap.size + 1) Aa _ ca 4 [(3, 1, 1), (5, 1, 2), (5, 9, 9), (8, 2, 1)] _ (by simp) (by simp) (HA.out.below ((below_drewN (Below.refl _ _) 1).alloc (by simp) _)) (Rd.lit _ _ _) (by decide)).mono ?_
         rintro e w7 ⟨rfl, hb7⟩
         have hbA : Below w6.heap.size w6 w7 := ((below_drewN (Below.refl _ _) 1).alloc (by simp) _).trans (hb7.mono (by simp))
         have hz7 := hbA.size
         have hkeep7 := HX.out.keep fun o => hbA.cell (p := ⟨w5.heap.size, o, none⟩) hlt6
         unfold ExCells at hkeep7)
      | (go_at_call_of 18 (Ab)
         refine (same18_yes (B := w6.heap.size) (C := w7.heap.size + 1) Ab _ cb 3 [(5, 1, 2), (6, 1, 1), (8, 2, 1)] _ (by simp; omega) (by simp) (HB.out.below (hbA.alloc hz7 _)) (Rd.lit _ _ _) (by decide)).mono ?_
         rintro e w8 ⟨rfl, hb8⟩
         have hbB : Below w6.heap.size w6 w8 := (hbA.alloc hz7 _).trans (hb8.mono (by simp; omega))
         have hkeep8 := HX.out.keep fun o => hbB.cell (p := ⟨w5.heap.size, o, none⟩) hlt6
         unfold ExCells at hkeep8))
  go_wp2_with fail
  go_ret
  exact ⟨rfl, HW.out.trans (hbB.mono HW.out.size)⟩

end Go.Proofs.Ytfocenfgeolpfaa
