/- The walks: Add. -/
import Derived.Test.YtfocenfgeolpfaaW1
namespace Go.Proofs.Ytfocenfgeolpfaa
open Go.RowKit

theorem info28 : (Try.prog.info? 28).map (fun i => (i.zero, i.size, i.bytes)) = some (some (.agg #[.int .i64 0, .int .i64 0, .int .i64 0]), 3, 24) := by kernel_rfl

set_option maxHeartbeats 400000 in
theorem add_bad {B : Nat} (A : Option Addr) (c : Nat) (l : List Tm) (t : Tm) (w : World) (hB : B ≤ w.heap.size) (h : TRd w B A l) (hl : l.length ≤ maxLen) (hv : validT l = false ∨ firesT t = false) :
    Calls Try.prog 22 #[.slice A l.length c, .agg #[.int .i64 t.1, .int .i64 t.2.1, .int .i64 t.2.2]] w fun e w' => e = .returned (.tuple #[.slice none 0 0, .int .u8 2]) ∧ Below w.heap.size w w' := by
  have HL : Hid (l.length ≤ maxLen) := hl
  have HH : Hid (TRd w B A l) := h
  clear hl h
  by_cases h1 : validT l = true
  · have h2 : firesT t = false := by simpa [h1] using hv
    clear hv
    go_enter Try.func22, Try.ntmps22
    go_wp2_with fail
    refine (valid_any (B := B) A c l _ (by simp; omega) (HH.out.below ((Below.refl _ _).alloc hB _)) HL.out).mono ?_
    rintro e w1 ⟨rfl, hb⟩
    obtain ⟨hc, hf⟩ := bcell hb
    go_wp2_with fail
    refine (fires_any t _).mono ?_
    rintro e w2 ⟨rfl, hb2⟩
    go_wp2_with fail
    go_ret2
    exact ⟨rfl, ((Below.refl _ _).alloc (Nat.le_refl _) _).trans ((hb.mono (by simp)).trans (hb2.mono (by have := hb.size; simp at this; omega)))⟩
  · have h1 : validT l = false := by simpa using h1
    clear hv
    go_enter Try.func22, Try.ntmps22
    go_wp2_with fail
    refine (valid_any (B := B) A c l _ (by simp; omega) (HH.out.below ((Below.refl _ _).alloc hB _)) HL.out).mono ?_
    rintro e w1 ⟨rfl, hb⟩
    obtain ⟨hc, hf⟩ := bcell hb
    go_wp2_with fail
    go_ret2
    exact ⟨rfl, ((Below.refl _ _).alloc (Nat.le_refl _) _).trans (hb.mono (by simp))⟩

set_option maxHeartbeats 400000 in
theorem add_full {B : Nat} (A : Option Addr) (c : Nat) (l : List Tm) (t : Tm) (w : World) (hB : B ≤ w.heap.size) (h : TRd w B A l) (hl : l.length ≤ maxLen) (h1 : validT l = true) (h2 : firesT t = true) (h3 : l.length = 1000) :
    Calls Try.prog 22 #[.slice A l.length c, .agg #[.int .i64 t.1, .int .i64 t.2.1, .int .i64 t.2.2]] w fun e w' => e = .returned (.tuple #[.slice none 0 0, .int .u8 10]) ∧ Below w.heap.size w w' := by
  have HL : Hid (l.length ≤ maxLen) := hl
  have HH : Hid (TRd w B A l) := h
  have h3' : ((l.length : Int) == 1000) = true := by rw [h3]; rfl
  clear hl h h3
  go_enter Try.func22, Try.ntmps22
  go_wp2_with fail
  refine (valid_any (B := B) A c l _ (by simp; omega) (HH.out.below ((Below.refl _ _).alloc hB _)) HL.out).mono ?_
  rintro e w1 ⟨rfl, hb⟩
  obtain ⟨hc, hf⟩ := bcell hb
  go_wp2_with fail
  refine (fires_any t _).mono ?_
  rintro e w2 ⟨rfl, hb2⟩
  go_wp2_with fail
  go_ret2
  exact ⟨rfl, ((Below.refl _ _).alloc (Nat.le_refl _) _).trans ((hb.mono (by simp)).trans (hb2.mono (by have := hb.size; simp at this; omega)))⟩

set_option maxHeartbeats 400000 in
theorem add_ok {B : Nat} (A : Option Addr) (c : Nat) (l : List Tm) (t : Tm) (w : World) (hB : B ≤ w.heap.size) (h : TRd w B A l) (hl : l.length ≤ maxLen) (hcap : l.length ≤ c) (h1 : validT l = true) (h2 : firesT t = true) (h3 : l.length < 1000) :
    Calls Try.prog 22 #[.slice A l.length c, .agg #[.int .i64 t.1, .int .i64 t.2.1, .int .i64 t.2.2]] w fun e w' =>
      ∃ v, e = .returned (.tuple #[v, .int .u8 0]) ∧ w'.ownsRow w.heap.size 28 3 v (l.length + 1) (tscells (l.take (placeT t.1 l) ++ [t] ++ l.drop (placeT t.1 l))) ∧ Below w.heap.size w w' := by
  obtain ⟨i0, hi0, hz0, hz1, hz2⟩ := info_parts info28
  have HL : Hid (l.length ≤ maxLen) := hl
  have HH : Hid (TRd w B A l) := h
  have h3' : ((l.length : Int) == 1000) = false := by simp; omega
  have hp := placeT_le t.1 l
  have hs1 := fun W => slice_to A l.length c (placeT t.1 l) W (by omega)
  obtain ⟨A2, hs2, hr2⟩ := slice_from (B := B) (A := A) (l := l) (c := c) hp hcap
  have HR2 : Hid (∀ w : World, TRd w B A l → TRd w B A2 (l.drop (placeT t.1 l))) := hr2
  clear hl h hr2
  go_enter Try.func22, Try.ntmps22
  go_wp2_with fail
  refine (valid_any (B := B) A c l _ (by simp; omega) (HH.out.below ((Below.refl _ _).alloc hB _)) HL.out).mono ?_
  rintro e w1 ⟨rfl, hb⟩
  obtain ⟨hc, hf⟩ := bcell hb
  go_wp2_with fail
  refine (fires_any t _).mono ?_
  rintro e w2 ⟨rfl, hb2⟩
  obtain ⟨hc2, hf2⟩ := bcell hb2
  have hz := hb.size
  have hz2' := hb2.size
  simp only [World.size_alloc] at hz hz2'
  have hlt1 : w.heap.size < w1.heap.size := by omega
  have hlt2 : w.heap.size < w2.heap.size := by omega
  have hbw : Below w.heap.size w w2 := ((Below.refl _ _).alloc (Nat.le_refl _) _).trans ((hb.mono (by simp)).trans (hb2.mono (by omega)))
  go_wp2_with fail
  refine (place_any (B := B) A c l t.1 _ (HH.out.below (hbw.mono hB)) HL.out).mono ?_
  rintro e w3 ⟨rfl, rfl⟩
  go_wp2_with (at_make; refine wpList_make_own _ rfl _ _ 23 rfl w.heap.size 28 i0 _ 3 Try.underlying23 hi0 hz0 hz1 _ _ _ (l.length + 1) rfl rfl (by omega) (by rw [hz2]; omega) (by simp only [maxLen]; omega) (by omega) ?_)
  intro w3 hown3 hg3
  have hbw3 : Below w.heap.size w w3 := hbw.grown hg3 (by omega) (by simp)
  have hB3 : Below (w.heap.size + 1) (w.alloc (.cells #[.int .i64 t.1, .int .i64 t.2.1, .int .i64 t.2.2] 28)) w3 := (hb.mono (by simp)).trans ((hb2.mono (by omega)).trans ((Below.refl _ _).grown hg3 (by omega) (by simp)))
  go_wp2_with (at_builtin; refine wpList_append_rd _ rfl (.tmp 29) (.tmp 32) _ rfl w.heap.size 28 i0 _ 3 24 Try.underlying23 hi0 hz0 hz1 hz2 rfl (by omega) _ 0 [] rfl hown3 B A (placeT t.1 l) c (tscells (l.take (placeT t.1 l))) rfl ((HH.out.below (hbw3.mono hB)).take _) (by rw [tscells_len, List.length_take, Nat.min_eq_left hp]) (tscells_ones _) (by simp only [maxLen]; omega) (by omega) hbw3.size ?_)
  intro v4 w4 hown4 hg4 _
  have hbw4 : Below w.heap.size w w4 := below_own hbw3 hown3 hg4 (Nat.le_refl _) hbw3.size
  have hgt3 : ∀ g, (Value.slice (some { block := w2.heap.size, off := 0 }) 0 (l.length + 1)).ownBlock = some g → w.heap.size + 1 ≤ g := by
    intro g hg
    simp [Value.ownBlock] at hg
    omega
  have hB4 := hB3.grown hg4 (by have := hbw3.size; have := hg3.size; omega) hgt3
  have hc4 : w4.cell? ⟨w.heap.size, 0, none⟩ = some (.int .i64 t.1) ∧ w4.cell? ⟨w.heap.size, 1, none⟩ = some (.int .i64 t.2.1) ∧ w4.cell? ⟨w.heap.size, 2, none⟩ = some (.int .i64 t.2.2) :=
    ⟨(hB4.cell (by simp)).trans (by simp [go_sem]), (hB4.cell (by simp)).trans (by simp [go_sem]), (hB4.cell (by simp)).trans (by simp [go_sem])⟩
  clear hc hf hc2 hf2 hb hb2 hz hz2' hown3 hg3 hg4 hB3 hB4 hgt3
  obtain ⟨hc40, hc41, hc42⟩ := hc4
  go_wp2_with (at_builtin; refine wpList_append_rd _ rfl (.tmp 34) (.tmp 36) _ rfl w.heap.size 28 i0 _ 3 24 Try.underlying23 hi0 hz0 hz1 hz2 rfl (by omega) _ (placeT t.1 l) (tscells (l.take (placeT t.1 l))) rfl (hown4.alloc _) _ _ 1 1 (tcells t) rfl (Rd.lit _ _ _) rfl (by rw [← tscells_one]; exact tscells_ones _) (by simp only [maxLen]; omega) (by omega) (by have := hbw4.size; simp; omega) ?_)
  intro v5 w5 hown5 hg5 _
  have hbw4' : Below w.heap.size w (w4.alloc (.cells (tcells t).toArray 28)) := hbw4.alloc hbw4.size _
  have hbw5 : Below w.heap.size w w5 := below_own hbw4' (hown4.alloc _) hg5 (Nat.le_refl _) hbw4'.size
  clear hg5 hbw4' hc40 hc41 hc42
  go_wp2_with (at_builtin; refine wpList_append_rd _ rfl (.tmp 38) (.tmp 41) _ rfl w.heap.size 28 i0 _ 3 24 Try.underlying23 hi0 hz0 hz1 hz2 rfl (by omega) _ (placeT t.1 l + 1) (tscells (l.take (placeT t.1 l)) ++ tcells t) rfl hown5 B _ (l.length - placeT t.1 l) _ (tscells (l.drop (placeT t.1 l))) rfl (HR2.out _ (HH.out.below (hbw5.mono hB))) (by rw [tscells_len, List.length_drop]) (tscells_ones _) (by simp only [maxLen]; omega) (by omega) hbw5.size ?_)
  intro v6 w6 hown6 hg6 _
  have hbw6 : Below w.heap.size w w6 := below_own hbw5 hown5 hg6 (Nat.le_refl _) hbw5.size
  go_wp2_with fail
  go_ret2
  refine ⟨v6, rfl, ?_, hbw6⟩
  have e1 : placeT t.1 l + 1 + (l.length - placeT t.1 l) = l.length + 1 := by omega
  rw [e1] at hown6
  rw [tscells_append, tscells_append, tscells_one]
  simpa using hown6

end Go.Proofs.Ytfocenfgeolpfaa
