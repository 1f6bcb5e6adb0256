/- The walks of the reference: Add, Restart. -/
import Derived.Test.YtfocenfgeolpfaaR3
import Derived.Test.YtfocenfgeolpfaaPlain3
namespace Go.Proofs.Ytfocenfgeolpfaa
open Go.RowKit

theorem keep_gD (a : Int) (l : List Tm) : keepT (gD a) l = upTo a l := by
  unfold keepT upTo gD
  congr 1
  funext t
  by_cases hq : a < t.1 <;> simp [hq] <;> omega
theorem keep_gL (a : Int) (l : List Tm) : keepT (gL a) l = past a l := by
  unfold keepT past gL
  congr 1
  funext t
  by_cases hq : a < t.1
  · simp [hq]
  · simp [hq]; omega

theorem fires_parts {t : Tm} (h : firesT t = false) : t.1 < 0 ∨ (0 ≤ t.1 ∧ 1099511627776 < t.1) := by
  simp [firesT] at h
  omega
theorem fires_yes {t : Tm} (h : firesT t = true) : 0 ≤ t.1 ∧ t.1 ≤ 1099511627776 := by
  simpa [firesT] using h


set_option maxHeartbeats 400000 in
theorem radd_bad {B : Nat} (A : Option Addr) (c : Nat) (l : List Tm) (t : Tm) (w : World) (hB : B ≤ w.heap.size) (h : TRd w B A l) (hl : l.length ≤ maxLen) (hv : validT l = false ∨ firesT t = false) :
    Calls Try.prog 23 #[.slice A l.length c, .agg #[.int .i64 t.1, .int .i64 t.2.1, .int .i64 t.2.2]] w fun e w' => e = .returned (.tuple #[.slice none 0 0, .int .u8 2]) ∧ Below w.heap.size w w' := by
  have HL : Hid (l.length ≤ maxLen) := hl
  have HH : Hid (TRd w B A l) := h
  clear hl h
  by_cases h1 : validT l = true
  · have h2 : firesT t = false := by simpa [h1] using hv
    clear hv
    rcases fires_parts h2 with h3 | ⟨h3, h4⟩
    · clear h2
      have d1 : decide (t.1 < 0) = true := by simpa using h3
      clear h3
      go_enter Try.func23, Try.ntmps23
      go_wp2_with fail
      refine (rvalid_any (B := B) A c l _ (by simp; omega) (HH.out.below ((Below.refl _ _).alloc hB _)) HL.out).mono ?_
      rintro e w1 ⟨rfl, hb⟩
      obtain ⟨hc, hf⟩ := bcell hb
      go_wp2_with fail
      go_ret2
      exact ⟨rfl, ((Below.refl _ _).alloc (Nat.le_refl _) _).trans (hb.mono (by simp))⟩
    · clear h2
      have d1 : decide (t.1 < 0) = false := by simp; omega
      have d2 : decide (1099511627776 < t.1) = true := by simpa using h4
      clear h3 h4
      go_enter Try.func23, Try.ntmps23
      go_wp2_with fail
      refine (rvalid_any (B := B) A c l _ (by simp; omega) (HH.out.below ((Below.refl _ _).alloc hB _)) HL.out).mono ?_
      rintro e w1 ⟨rfl, hb⟩
      obtain ⟨hc, hf⟩ := bcell hb
      go_wp2_with fail
      go_ret2
      exact ⟨rfl, ((Below.refl _ _).alloc (Nat.le_refl _) _).trans (hb.mono (by simp))⟩
  · have h1 : validT l = false := by simpa using h1
    clear hv
    go_enter Try.func23, Try.ntmps23
    go_wp2_with fail
    refine (rvalid_any (B := B) A c l _ (by simp; omega) (HH.out.below ((Below.refl _ _).alloc hB _)) HL.out).mono ?_
    rintro e w1 ⟨rfl, hb⟩
    obtain ⟨hc, hf⟩ := bcell hb
    go_wp2_with fail
    go_ret2
    exact ⟨rfl, ((Below.refl _ _).alloc (Nat.le_refl _) _).trans (hb.mono (by simp))⟩

set_option maxHeartbeats 400000 in
theorem rrestart_bad {B : Nat} (A : Option Addr) (c : Nat) (l : List Tm) (t : Tm) (w : World) (hB : B ≤ w.heap.size) (h : TRd w B A l) (hl : l.length ≤ maxLen) (hv : validT l = false ∨ firesT t = false) :
    Calls Try.prog 25 #[.slice A l.length c, .agg #[.int .i64 t.1, .int .i64 t.2.1, .int .i64 t.2.2]] w fun e w' => e = .returned (.tuple #[.slice none 0 0, .int .u8 2]) ∧ Below w.heap.size w w' := by
  have HL : Hid (l.length ≤ maxLen) := hl
  have HH : Hid (TRd w B A l) := h
  clear hl h
  by_cases h1 : validT l = true
  · have h2 : firesT t = false := by simpa [h1] using hv
    clear hv
    rcases fires_parts h2 with h3 | ⟨h3, h4⟩
    · clear h2
      have d1 : decide (t.1 < 0) = true := by simpa using h3
      clear h3
      go_enter Try.func25, Try.ntmps25
      go_wp2_with fail
      refine (rvalid_any (B := B) A c l _ (by simp; omega) (HH.out.below ((Below.refl _ _).alloc hB _)) HL.out).mono ?_
      rintro e w1 ⟨rfl, hb⟩
      obtain ⟨hc, hf⟩ := bcell hb
      go_wp2_with fail
      go_ret2
      exact ⟨rfl, ((Below.refl _ _).alloc (Nat.le_refl _) _).trans (hb.mono (by simp))⟩
    · clear h2
      have d1 : decide (t.1 < 0) = false := by simp; omega
      have d2 : decide (1099511627776 < t.1) = true := by simpa using h4
      clear h3 h4
      go_enter Try.func25, Try.ntmps25
      go_wp2_with fail
      refine (rvalid_any (B := B) A c l _ (by simp; omega) (HH.out.below ((Below.refl _ _).alloc hB _)) HL.out).mono ?_
      rintro e w1 ⟨rfl, hb⟩
      obtain ⟨hc, hf⟩ := bcell hb
      go_wp2_with fail
      go_ret2
      exact ⟨rfl, ((Below.refl _ _).alloc (Nat.le_refl _) _).trans (hb.mono (by simp))⟩
  · have h1 : validT l = false := by simpa using h1
    clear hv
    go_enter Try.func25, Try.ntmps25
    go_wp2_with fail
    refine (rvalid_any (B := B) A c l _ (by simp; omega) (HH.out.below ((Below.refl _ _).alloc hB _)) HL.out).mono ?_
    rintro e w1 ⟨rfl, hb⟩
    obtain ⟨hc, hf⟩ := bcell hb
    go_wp2_with fail
    go_ret2
    exact ⟨rfl, ((Below.refl _ _).alloc (Nat.le_refl _) _).trans (hb.mono (by simp))⟩

set_option maxHeartbeats 400000 in
theorem radd_full {B : Nat} (A : Option Addr) (c : Nat) (l : List Tm) (t : Tm) (w : World) (hB : B ≤ w.heap.size) (h : TRd w B A l) (hl : l.length ≤ maxLen) (h1 : validT l = true) (h2 : firesT t = true) (h3 : l.length = 1000) :
    Calls Try.prog 23 #[.slice A l.length c, .agg #[.int .i64 t.1, .int .i64 t.2.1, .int .i64 t.2.2]] w fun e w' => e = .returned (.tuple #[.slice none 0 0, .int .u8 10]) ∧ Below w.heap.size w w' := by
  have HL : Hid (l.length ≤ maxLen) := hl
  have HH : Hid (TRd w B A l) := h
  have h3' : ((l.length : Int) == 1000) = true := by rw [h3]; rfl
  have hfi := fires_yes h2
  have d1 : decide (t.1 < 0) = false := by simp; omega
  have d2 : decide (1099511627776 < t.1) = false := by simp; omega
  clear hl h h3 h2 hfi
  go_enter Try.func23, Try.ntmps23
  go_wp2_with fail
  refine (rvalid_any (B := B) A c l _ (by simp; omega) (HH.out.below ((Below.refl _ _).alloc hB _)) HL.out).mono ?_
  rintro e w1 ⟨rfl, hb⟩
  obtain ⟨hc, hf⟩ := bcell hb
  go_wp2_with fail
  go_ret2
  exact ⟨rfl, ((Below.refl _ _).alloc (Nat.le_refl _) _).trans (hb.mono (by simp))⟩

/-- The three cells of a timer in a block of the call's own. -/
def Box (w : World) (g : Nat) (t : Tm) : Prop := w.cell? ⟨g, 0, none⟩ = some (.int .i64 t.1) ∧ w.cell? ⟨g, 1, none⟩ = some (.int .i64 t.2.1) ∧ w.cell? ⟨g, 2, none⟩ = some (.int .i64 t.2.2)
theorem box_new (w : World) (t : Tm) : Box (w.alloc (.cells #[.int .i64 t.1, .int .i64 t.2.1, .int .i64 t.2.2] 28)) w.heap.size t := by
  unfold Box
  simp [go_sem]
theorem Box.below {w w' : World} {g B : Nat} {t : Tm} (h : Box w g t) (hb : Below B w w') (hg : g < B) : Box w' g t :=
  ⟨(hb.cell hg).trans h.1, (hb.cell hg).trans h.2.1, (hb.cell hg).trans h.2.2⟩

set_option maxRecDepth 100000 in
set_option maxHeartbeats 1000000 in
theorem radd_ok {B : Nat} (A : Option Addr) (c : Nat) (l : List Tm) (t : Tm) (w : World) (hB : B ≤ w.heap.size) (h : TRd w B A l) (h1 : validT l = true) (h2 : firesT t = true) (h3 : l.length < 1000) :
    Calls Try.prog 23 #[.slice A l.length c, .agg #[.int .i64 t.1, .int .i64 t.2.1, .int .i64 t.2.2]] w fun e w' =>
      ∃ v, e = .returned (.tuple #[v, .int .u8 0]) ∧ w'.ownsRow w.heap.size 28 3 v (l.length + 1) (tscells (insT l t)) ∧ Below w.heap.size w w' := by
  obtain ⟨i0, hi0, hz0, hz1, hz2⟩ := info_parts info28
  have HL : Hid (l.length ≤ maxLen) := by show l.length ≤ maxLen; simp only [maxLen]; omega
  have HH : Hid (TRd w B A l) := h
  have HI : Hid (keepT (gD t.1) l ++ [t] ++ keepT (gL t.1) l = insT l t) := by
    show keepT (gD t.1) l ++ [t] ++ keepT (gL t.1) l = insT l t
    rw [insT_split h1, keep_gD, keep_gL]
  have HIL : Hid ((insT l t).length = l.length + 1) := insT_len l t
  have h3' : ((l.length : Int) == 1000) = false := by rw [beq_eq_false_iff_ne]; omega
  have hfi := fires_yes h2
  have d1 : decide (t.1 < 0) = false := by simp; omega
  have d2 : decide (1099511627776 < t.1) = false := by simp; omega
  clear h h2 hfi
  go_enter Try.func23, Try.ntmps23
  go_wp2_with fail
  refine (rvalid_any (B := B) A c l _ (by simp; omega) (HH.out.below ((Below.refl _ _).alloc hB _)) HL.out).mono ?_
  rintro e w1 ⟨rfl, hb⟩
  have HX : Hid (Below (w.heap.size + 1) (w.alloc (.cells #[.int .i64 t.1, .int .i64 t.2.1, .int .i64 t.2.2] 28)) w1) := hb.mono (by simp)
  obtain ⟨hc, hf⟩ := bcell hb
  clear hb
  go_wp2_with fail
  clear hc hf d1 d2 h1
  obtain ⟨g, hg⟩ : ∃ g, g = w.heap.size := ⟨_, rfl⟩
  go_loopw [6, 7] (fun v i wr => ∃ (k : Nat), k ≤ l.length ∧ i = .int .i64 k ∧ wr.ownsRow (w.heap.size + 1) 28 3 v (keepT (gD t.1) (l.take k)).length (tscells (keepT (gD t.1) (l.take k))) ∧ Below (w.heap.size + 1) (w.alloc (.cells #[.int .i64 t.1, .int .i64 t.2.1, .int .i64 t.2.2] 28)) wr) (fun _ i _ => l.length - (intOf i).toNat)
  case atStart => exact ⟨0, Nat.zero_le _, rfl, World.ownsRow_nil _ _ _ _, HX.out⟩
  case round =>
    obtain ⟨k, hk, rfl, hown, hb⟩ := hrel
    have hz := hb.size
    simp only [World.size_alloc] at hz
    have HBB : Hid (Below (w.heap.size + 1) (w.alloc (.cells #[.int .i64 t.1, .int .i64 t.2.1, .int .i64 t.2.2] 28)) wr) := hb
    have HBW : Hid (Below w.heap.size w wr) := ((Below.refl _ _).alloc (Nat.le_refl _) _).trans (hb.mono (by omega))
    obtain ⟨k0, k1, k2⟩ := (box_new w t).below hb (by omega)
    have hgl : w.heap.size < wr.heap.size := by omega
    clear hb
    by_cases hlt : k < l.length
    · obtain ⟨b, off, x, rfl, hbb, ht, g1, g2, g3⟩ := (HH.out.below (HBW.out.mono hB)).at_ hlt
      have HT : Hid (l[k]? = some x) := ht
      have HO : Hid (wr.ownsRow (w.heap.size + 1) 28 3 u6 (keepT (gD t.1) (l.take k)).length (tscells (keepT (gD t.1) (l.take k)))) := hown
      have hkl := keep_take_len (gD t.1) l k
      have q1 : (k : Int) < (l.length : Int) := by omega
      clear ht hown
      by_cases hq : x.1 ≤ t.1
      · have d1 : decide (x.1 ≤ t.1) = true := by simpa using hq
        have HK : Hid (keepT (gD t.1) (l.take (k + 1)) = keepT (gD t.1) (l.take k) ++ [x]) := keep_miss HT.out (gD_yes hq)
        clear hq
        go_wp2_with fail
        go_quiet (fail)
        go_wp2_with (at_builtin; refine wpList_append_rd _ rfl (.tmp 39) (.tmp 44) _ rfl (w.heap.size + 1) 28 i0 _ 3 24 Try.underlying23 hi0 hz0 hz1 hz2 rfl (by omega) _ (keepT (gD t.1) (l.take k)).length (tscells (keepT (gD t.1) (l.take k))) rfl (World.ownsRow.alloc (w := wr.drewN _) HO.out _) _ _ 1 1 (tcells x) rfl (Rd.lit _ _ _) rfl (by rw [← tscells_one]; exact tscells_ones _) (by simp only [maxLen]; omega) (by omega) (by simp; omega) ?_)
        intro v5 w5 hown5 hg5 _
        have HB5 : Hid (Below (w.heap.size + 1) (w.alloc (.cells #[.int .i64 t.1, .int .i64 t.2.1, .int .i64 t.2.2] 28)) w5) :=
          below_own (w := (wr.drewN nq).alloc (.cells (tcells x).toArray 28)) ((below_drewN HBB.out nq).alloc (by simp; omega) _) (World.ownsRow.alloc (w := wr.drewN nq) HO.out _) hg5 (Nat.le_refl _) (by simp; omega)
        have HO5 : Hid (w5.ownsRow (w.heap.size + 1) 28 3 v5 (keepT (gD t.1) (l.take (k + 1))).length (tscells (keepT (gD t.1) (l.take (k + 1))))) := by
          rw [HK.out, tscells_append, tscells_one, List.length_append]
          exact hown5
        clear hown5 hg5
        go_wp2_with fail
        go_roundw
        case rel => exact ⟨k + 1, by omega, by go_num, HO5.out, HB5.out⟩
        case measure => simp [intOf]; omega
      · have d1 : decide (x.1 ≤ t.1) = false := by simpa using hq
        have HK : Hid (keepT (gD t.1) (l.take (k + 1)) = keepT (gD t.1) (l.take k)) := keep_hit HT.out (gD_no hq)
        clear hq
        go_wp2_with fail
        go_quiet (fail)
        go_wp2_with fail
        go_roundw
        case rel => exact ⟨k + 1, by omega, by go_num, by rw [HK.out]; exact HO.out, below_drewN HBB.out _⟩
        case measure => simp [intOf]; omega
    · have HE : Hid (l.take k = l) := List.take_of_length_le (by omega)
      have HO : Hid (wr.ownsRow (w.heap.size + 1) 28 3 u6 (keepT (gD t.1) l).length (tscells (keepT (gD t.1) l))) := by
        rw [HE.out] at hown
        exact hown
      have hkl := keep_len (gD t.1) l
      clear hown HE
      go_wp2_with (at_builtin; refine wpList_append_rd _ rfl (.tmp 46) (.tmp 48) _ rfl (w.heap.size + 1) 28 i0 _ 3 24 Try.underlying23 hi0 hz0 hz1 hz2 rfl (by omega) _ (keepT (gD t.1) l).length (tscells (keepT (gD t.1) l)) rfl (World.ownsRow.alloc HO.out _) _ _ 1 1 (tcells t) rfl (Rd.lit _ _ _) rfl (by rw [← tscells_one]; exact tscells_ones _) (by simp only [maxLen]; omega) (by omega) (by simp; omega) ?_)
      intro v5 w5 hown5 hg5 _
      have HB5 : Hid (Below (w.heap.size + 1) (w.alloc (.cells #[.int .i64 t.1, .int .i64 t.2.1, .int .i64 t.2.2] 28)) w5) :=
        below_own (w := wr.alloc (.cells (tcells t).toArray 28)) (HBB.out.alloc (by omega) _) (World.ownsRow.alloc HO.out _) hg5 (Nat.le_refl _) (by simp; omega)
      have HO5 : Hid (w5.ownsRow (w.heap.size + 1) 28 3 v5 (keepT (gD t.1) l ++ [t]).length (tscells (keepT (gD t.1) l ++ [t]))) := by
        rw [tscells_append, tscells_one, List.length_append]
        exact hown5
      have hkl5 : (keepT (gD t.1) l ++ [t]).length ≤ l.length + 1 := by rw [List.length_append]; simp; omega
      clear hown5 hg5 k0 k1 k2 hlt hk hgl hz HBB HBW HO hkl
      go_wp2_with fail
      go_loopw [6, 8] (fun v i wr => ∃ (k : Nat), k ≤ l.length ∧ i = .int .i64 k ∧ wr.ownsRow (w.heap.size + 1) 28 3 v ((keepT (gD t.1) l ++ [t]).length + (keepT (gL t.1) (l.take k)).length) (tscells (keepT (gD t.1) l ++ [t]) ++ tscells (keepT (gL t.1) (l.take k))) ∧ Below (w.heap.size + 1) (w.alloc (.cells #[.int .i64 t.1, .int .i64 t.2.1, .int .i64 t.2.2] 28)) wr) (fun _ i _ => l.length - (intOf i).toNat)
      case atStart => exact ⟨0, Nat.zero_le _, rfl, by have := HO5.out; simpa [tscells, keepT] using this, HB5.out⟩
      case round =>
        obtain ⟨k, hk, rfl, hown, hb⟩ := hrel
        have hz := hb.size
        simp only [World.size_alloc] at hz
        have HBB : Hid (Below (w.heap.size + 1) (w.alloc (.cells #[.int .i64 t.1, .int .i64 t.2.1, .int .i64 t.2.2] 28)) wr) := hb
        have HBW : Hid (Below w.heap.size w wr) := ((Below.refl _ _).alloc (Nat.le_refl _) _).trans (hb.mono (by omega))
        obtain ⟨k0, k1, k2⟩ := (box_new w t).below hb (by omega)
        have hgl : w.heap.size < wr.heap.size := by omega
        clear hb
        by_cases hlt : k < l.length
        · obtain ⟨b, off, x, rfl, hbb, ht, g1, g2, g3⟩ := (HH.out.below (HBW.out.mono hB)).at_ hlt
          have HT : Hid (l[k]? = some x) := ht
          have HO : Hid (wr.ownsRow (w.heap.size + 1) 28 3 u6 ((keepT (gD t.1) l ++ [t]).length + (keepT (gL t.1) (l.take k)).length) (tscells (keepT (gD t.1) l ++ [t]) ++ tscells (keepT (gL t.1) (l.take k)))) := hown
          have hkl := keep_take_len (gL t.1) l k
          have q1 : (k : Int) < (l.length : Int) := by omega
          clear ht hown
          by_cases hq : x.1 ≤ t.1
          · have d1 : decide (t.1 < x.1) = false := by simp; omega
            have HK : Hid (keepT (gL t.1) (l.take (k + 1)) = keepT (gL t.1) (l.take k)) := keep_hit HT.out (gL_yes hq)
            clear hq
            go_wp2_with fail
            go_quiet (fail)
            go_wp2_with fail
            go_roundw
            case rel => exact ⟨k + 1, by omega, by go_num, by rw [HK.out]; exact HO.out, below_drewN HBB.out _⟩
            case measure => simp [intOf]; omega
          · have d1 : decide (t.1 < x.1) = true := by simp; omega
            have HK : Hid (keepT (gL t.1) (l.take (k + 1)) = keepT (gL t.1) (l.take k) ++ [x]) := keep_miss HT.out (gL_no hq)
            clear hq
            go_wp2_with fail
            go_quiet (fail)
            go_wp2_with (at_builtin; refine wpList_append_rd _ rfl (.tmp 64) (.tmp 69) _ rfl (w.heap.size + 1) 28 i0 _ 3 24 Try.underlying23 hi0 hz0 hz1 hz2 rfl (by omega) _ _ _ rfl (World.ownsRow.alloc (w := wr.drewN _) HO.out _) _ _ 1 1 (tcells x) rfl (Rd.lit _ _ _) rfl (by rw [← tscells_one]; exact tscells_ones _) (by simp only [maxLen]; omega) (by omega) (by simp; omega) ?_)
            intro v6 w6 hown6 hg6 _
            have HB6 : Hid (Below (w.heap.size + 1) (w.alloc (.cells #[.int .i64 t.1, .int .i64 t.2.1, .int .i64 t.2.2] 28)) w6) :=
              below_own (w := (wr.drewN nq).alloc (.cells (tcells x).toArray 28)) ((below_drewN HBB.out nq).alloc (by simp; omega) _) (World.ownsRow.alloc (w := wr.drewN nq) HO.out _) hg6 (Nat.le_refl _) (by simp; omega)
            have HO6 : Hid (w6.ownsRow (w.heap.size + 1) 28 3 v6 ((keepT (gD t.1) l ++ [t]).length + (keepT (gL t.1) (l.take (k + 1))).length) (tscells (keepT (gD t.1) l ++ [t]) ++ tscells (keepT (gL t.1) (l.take (k + 1))))) := by
              have e1 : (keepT (gL t.1) (l.take (k + 1))).length = (keepT (gL t.1) (l.take k)).length + 1 := by rw [HK.out, List.length_append]; rfl
              have e2 : tscells (keepT (gL t.1) (l.take (k + 1))) = tscells (keepT (gL t.1) (l.take k)) ++ tcells x := by rw [HK.out, tscells_append, tscells_one]
              show w6.ownsRow _ _ _ _ _ _
              rw [e1, e2, ← Nat.add_assoc, ← List.append_assoc]
              simpa using hown6
            clear hown6 hg6
            go_wp2_with fail
            go_roundw
            case rel => exact ⟨k + 1, by omega, by go_num, HO6.out, HB6.out⟩
            case measure => simp [intOf]; omega
        · have HE : Hid (l.take k = l) := List.take_of_length_le (by omega)
          go_wp2_with fail
          go_ret2
          refine ⟨u6, rfl, ?_, HBW.out⟩
          rw [HE.out, ← List.length_append, ← tscells_append, HI.out, HIL.out] at hown
          exact own_base hown (by omega)

theorem radd_any {B : Nat} (A : Option Addr) (c : Nat) (l : List Tm) (t : Tm) (w : World) (hB : B ≤ w.heap.size) (h : TRd w B A l) (hl : l.length ≤ maxLen) :
    Calls Try.prog 23 #[.slice A l.length c, .agg #[.int .i64 t.1, .int .i64 t.2.1, .int .i64 t.2.2]] w (Gives2 w (addT l t)) := by
  by_cases hv : validT l = false ∨ firesT t = false
  · have e : addT l t = ([], 2) := if_pos hv
    rw [e]
    exact (radd_bad A c l t w hB h hl hv).mono fun _ _ ⟨he, hb⟩ => ⟨_, he, World.ownsRow_nil _ _ _ _, hb⟩
  · have h1 : validT l = true := by simpa using (not_or.1 hv).1
    have h2 : firesT t = true := by simpa using (not_or.1 hv).2
    have hlen := valid_len h1
    by_cases h3 : l.length = 1000
    · have e : addT l t = ([], 10) := by unfold addT; rw [if_neg hv, if_pos h3]
      rw [e]
      exact (radd_full A c l t w hB h hl h1 h2 h3).mono fun _ _ ⟨he, hb⟩ => ⟨_, he, World.ownsRow_nil _ _ _ _, hb⟩
    · rw [addT_ok h1 h2 (by omega)]
      exact (radd_ok A c l t w hB h h1 h2 (by omega)).mono fun _ _ ⟨v, he, ho, hb⟩ => ⟨v, he, by rw [insT_len]; exact ho, hb⟩

end Go.Proofs.Ytfocenfgeolpfaa
