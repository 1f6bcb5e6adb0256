/- The walks of the reference: Next, Cancel, CancelAll. -/
import Derived.Test.YtfocenfgeolpfaaR1
namespace Go.Proofs.Ytfocenfgeolpfaa
open Go.RowKit

set_option maxHeartbeats 400000 in
theorem rnext_any {B : Nat} (A : Option Addr) (c : Nat) (l : List Tm) (w : World) (hB : B ≤ w.heap.size) (h : TRd w B A l) (hl : l.length ≤ maxLen) :
    Calls Try.prog 20 #[.slice A l.length c] w fun e w' => e = .returned (.tuple #[.int .i64 (nextT l).1, .bool (nextT l).2]) ∧ Below w.heap.size w w' := by
  have HH : Hid (TRd w B A l) := h
  have HM : Hid (l.length ≤ maxLen) := hl
  clear h hl
  by_cases h1 : validT l = true
  · by_cases h0 : 0 < l.length
    · obtain ⟨b, off, t, rfl, hbb, ht, -, -, -⟩ := HH.out.at_ h0
      have HN : Hid (nextT l = (t.1, true)) := by
        cases l with
        | nil => simp at h0
        | cons x r =>
          simp at ht
          subst ht
          exact if_pos h1
      have HT : Hid (l[0]? = some t) := ht
      have hl0 : ((l.length : Int) == 0) = false := by rw [beq_eq_false_iff_ne]; omega
      clear ht
      go_enter Try.func20, Try.ntmps20
      go_wp2_with fail
      refine (rvalid_any (B := B) _ c l _ hB HH.out HM.out).mono ?_
      rintro e w1 ⟨rfl, hb1⟩
      obtain ⟨b', off', t', heq, -, ht', h11, -, -⟩ := (HH.out.below (hb1.mono hB)).at_ h0
      have ee : t' = t := by have := HT.out; rw [ht'] at this; exact Option.some.inj this
      subst ee
      simp only [Option.some.injEq, Addr.mk.injEq, and_true] at heq
      obtain ⟨rfl, rfl⟩ := heq
      simp only [Nat.zero_mul, Nat.add_zero] at h11
      clear ht'
      go_wp2_with fail
      go_ret2
      exact ⟨by rw [HN.out]; rfl, hb1⟩
    · have hl0 : ((l.length : Int) == 0) = true := by simp; simpa using h0
      have HN : Hid (nextT l = (0, false)) := by
        cases l with
        | nil => rfl
        | cons x r => simp at h0
      go_enter Try.func20, Try.ntmps20
      go_wp2_with fail
      refine (rvalid_any (B := B) A c l _ hB HH.out HM.out).mono ?_
      rintro e w1 ⟨rfl, hb1⟩
      go_wp2_with fail
      go_ret2
      exact ⟨by rw [HN.out]; rfl, hb1⟩
  · have HN : Hid (nextT l = (0, false)) := by
      cases l with
      | nil => rfl
      | cons x r => exact if_neg h1
    have h1 : validT l = false := by simpa using h1
    go_enter Try.func20, Try.ntmps20
    go_wp2_with fail
    refine (rvalid_any (B := B) A c l _ hB HH.out HM.out).mono ?_
    rintro e w1 ⟨rfl, hb1⟩
    go_wp2_with fail
    go_ret2
    exact ⟨by rw [HN.out]; rfl, hb1⟩


set_option maxRecDepth 100000 in
set_option maxHeartbeats 1000000 in
theorem rcancelall_any {B : Nat} (A : Option Addr) (c : Nat) (l : List Tm) (o : Int) (w : World) (hB : B ≤ w.heap.size) (h : TRd w B A l) (hl : l.length ≤ 100000) :
    Calls Try.prog 29 #[.slice A l.length c, .int .i64 o] w (Gives1 w (cancelAllT o l)) := by
  obtain ⟨i0, hi0, hz0, hz1, hz2⟩ := info_parts info28
  have HH : Hid (TRd w B A l) := h
  have HM : Hid (l.length ≤ maxLen) := by show l.length ≤ maxLen; simp only [maxLen]; omega
  clear h
  by_cases h1 : validT l = true
  · have HW : Hid (cancelAllT o l = keepT (fun t => t.2.1 == o) l) := if_pos h1
    go_enter Try.func29, Try.ntmps29
    go_wp2_with fail
    refine (rvalid_any (B := B) A c l _ hB HH.out HM.out).mono ?_
    rintro e w1 ⟨rfl, hb1⟩
    go_wp2_with fail
    clear h1
    go_loopw [5, 6] (fun v i wr => ∃ (k : Nat), k ≤ l.length ∧ i = .int .i64 k ∧ wr.ownsRow w.heap.size 28 3 v (keepT (fun t => t.2.1 == o) (l.take k)).length (tscells (keepT (fun t => t.2.1 == o) (l.take k))) ∧ Below w.heap.size w wr) (fun _ i _ => l.length - (intOf i).toNat)
    case atStart => exact ⟨0, Nat.zero_le _, rfl, World.ownsRow_nil _ _ _ _, hb1⟩
    case round =>
      obtain ⟨k, hk, rfl, hown, hb⟩ := hrel
      have hz := hb.size
      by_cases hlt : k < l.length
      · obtain ⟨b, off, t, rfl, hbb, ht, g1, g2, g3⟩ := (HH.out.below (hb.mono hB)).at_ hlt
        have HT : Hid (l[k]? = some t) := ht
        have HO : Hid (wr.ownsRow w.heap.size 28 3 u5 (keepT (fun t => t.2.1 == o) (l.take k)).length (tscells (keepT (fun t => t.2.1 == o) (l.take k)))) := hown
        have hkl := keep_take_len (fun t => t.2.1 == o) l k
        clear ht hown
        by_cases hq : t.2.1 = o
        · have d1 : (t.2.1 != o) = false := by simp [hq]
          have HD : Hid (t.2.1 = o) := hq
          clear hq
          have HK : Hid (keepT (fun t => t.2.1 == o) (l.take (k + 1)) = keepT (fun t => t.2.1 == o) (l.take k)) := keep_hit HT.out (by simp [HD.out])
          go_wp2_with fail
          go_roundw
          case rel => exact ⟨k + 1, by omega, by go_num, by rw [HK.out]; exact HO.out, hb⟩
          case measure => simp [intOf]; omega
        · have d1 : (t.2.1 != o) = true := by simp [hq]
          have HD : Hid (¬ t.2.1 = o) := hq
          clear hq
          have HK : Hid (keepT (fun t => t.2.1 == o) (l.take (k + 1)) = keepT (fun t => t.2.1 == o) (l.take k) ++ [t]) := keep_miss HT.out (by simp [HD.out])
          go_wp2_with (at_builtin; refine wpList_append_rd _ rfl (.tmp 23) (.tmp 28) _ rfl w.heap.size 28 i0 _ 3 24 Try.underlying23 hi0 hz0 hz1 hz2 rfl (by omega) _ (keepT (fun t => t.2.1 == o) (l.take k)).length (tscells (keepT (fun t => t.2.1 == o) (l.take k))) rfl (HO.out.alloc _) _ _ 1 1 (tcells t) rfl (Rd.lit _ _ _) rfl (by rw [← tscells_one]; exact tscells_ones _) (by simp only [maxLen]; omega) (by omega) (by simp; omega) ?_)
          intro v5 w5 hown5 hg5 _
          have hbw4 : Below w.heap.size w (wr.alloc (.cells (tcells t).toArray 28)) := hb.alloc hb.size _
          have hbw5 : Below w.heap.size w w5 := below_own hbw4 (HO.out.alloc _) hg5 (Nat.le_refl _) hbw4.size
          have HO5 : Hid (w5.ownsRow w.heap.size 28 3 v5 (keepT (fun t => t.2.1 == o) (l.take (k + 1))).length (tscells (keepT (fun t => t.2.1 == o) (l.take (k + 1))))) := by
            rw [HK.out, tscells_append, tscells_one, List.length_append]
            exact hown5
          clear hown5 hg5
          go_wp2_with fail
          go_roundw
          case rel => exact ⟨k + 1, by omega, by go_num, HO5.out, hbw5⟩
          case measure => simp [intOf]; omega
      · have HE : Hid (l.take k = l) := List.take_of_length_le (by omega)
        go_wp2_with fail
        go_ret
        refine ⟨u5, rfl, ?_, hb⟩
        rw [HE.out] at hown
        rw [HW.out]
        exact hown
  · have h1 : validT l = false := by simpa using h1
    have HW : Hid (cancelAllT o l = []) := if_neg (by simp [h1])
    go_enter Try.func29, Try.ntmps29
    go_wp2_with fail
    refine (rvalid_any (B := B) A c l _ hB HH.out HM.out).mono ?_
    rintro e w1 ⟨rfl, hb1⟩
    go_wp2_with fail
    go_ret
    refine ⟨.slice none 0 0, rfl, ?_, hb1⟩
    rw [HW.out]
    exact World.ownsRow_nil _ _ _ _

set_option maxRecDepth 100000 in
set_option maxHeartbeats 1000000 in
theorem rcancel_any {B : Nat} (A : Option Addr) (c : Nat) (l : List Tm) (o q : Int) (w : World) (hB : B ≤ w.heap.size) (h : TRd w B A l) (hl : l.length ≤ 100000) :
    Calls Try.prog 28 #[.slice A l.length c, .int .i64 o, .int .i64 q] w (Gives1 w (cancelT o q l)) := by
  obtain ⟨i0, hi0, hz0, hz1, hz2⟩ := info_parts info28
  have HH : Hid (TRd w B A l) := h
  have HM : Hid (l.length ≤ maxLen) := by show l.length ≤ maxLen; simp only [maxLen]; omega
  clear h
  by_cases h1 : validT l = true
  · have HW : Hid (cancelT o q l = keepT (fun t => t.2.1 == o && t.2.2 == q) l) := if_pos h1
    go_enter Try.func28, Try.ntmps28
    go_wp2_with fail
    refine (rvalid_any (B := B) A c l _ hB HH.out HM.out).mono ?_
    rintro e w1 ⟨rfl, hb1⟩
    go_wp2_with fail
    clear h1
    go_loopw [7, 8] (fun v i wr => ∃ (k : Nat), k ≤ l.length ∧ i = .int .i64 k ∧ wr.ownsRow w.heap.size 28 3 v (keepT (fun t => t.2.1 == o && t.2.2 == q) (l.take k)).length (tscells (keepT (fun t => t.2.1 == o && t.2.2 == q) (l.take k))) ∧ Below w.heap.size w wr) (fun _ i _ => l.length - (intOf i).toNat)
    case atStart => exact ⟨0, Nat.zero_le _, rfl, World.ownsRow_nil _ _ _ _, hb1⟩
    case round =>
      obtain ⟨k, hk, rfl, hown, hb⟩ := hrel
      have hz := hb.size
      by_cases hlt : k < l.length
      · obtain ⟨b, off, t, rfl, hbb, ht, g1, g2, g3⟩ := (HH.out.below (hb.mono hB)).at_ hlt
        have HT : Hid (l[k]? = some t) := ht
        have HO : Hid (wr.ownsRow w.heap.size 28 3 u7 (keepT (fun t => t.2.1 == o && t.2.2 == q) (l.take k)).length (tscells (keepT (fun t => t.2.1 == o && t.2.2 == q) (l.take k)))) := hown
        have hkl := keep_take_len (fun t => t.2.1 == o && t.2.2 == q) l k
        clear ht hown
        by_cases hq : t.2.1 = o
        · have d1 : (t.2.1 != o) = false := by simp [hq]
          by_cases hq2 : t.2.2 = q
          · have d2 : (t.2.2 != q) = false := by simp [hq2]
            have HD : Hid (t.2.1 = o ∧ t.2.2 = q) := ⟨hq, hq2⟩
            clear hq hq2
            have HK : Hid (keepT (fun t => t.2.1 == o && t.2.2 == q) (l.take (k + 1)) = keepT (fun t => t.2.1 == o && t.2.2 == q) (l.take k)) := keep_hit HT.out (by simp [HD.out])
            go_wp2_with fail
            go_roundw
            case rel => exact ⟨k + 1, by omega, by go_num, by rw [HK.out]; exact HO.out, hb⟩
            case measure => simp [intOf]; omega
          · have d2 : (t.2.2 != q) = true := by simp [hq2]
            have HD : Hid (t.2.1 = o ∧ ¬ t.2.2 = q) := ⟨hq, hq2⟩
            clear hq hq2
            have HK : Hid (keepT (fun t => t.2.1 == o && t.2.2 == q) (l.take (k + 1)) = keepT (fun t => t.2.1 == o && t.2.2 == q) (l.take k) ++ [t]) := keep_miss HT.out (by simp [HD.out])
            go_wp2_with (at_builtin; refine wpList_append_rd _ rfl (.tmp 34) (.tmp 39) _ rfl w.heap.size 28 i0 _ 3 24 Try.underlying23 hi0 hz0 hz1 hz2 rfl (by omega) _ (keepT (fun t => t.2.1 == o && t.2.2 == q) (l.take k)).length (tscells (keepT (fun t => t.2.1 == o && t.2.2 == q) (l.take k))) rfl (HO.out.alloc _) _ _ 1 1 (tcells t) rfl (Rd.lit _ _ _) rfl (by rw [← tscells_one]; exact tscells_ones _) (by simp only [maxLen]; omega) (by omega) (by simp; omega) ?_)
            intro v5 w5 hown5 hg5 _
            have hbw4 : Below w.heap.size w (wr.alloc (.cells (tcells t).toArray 28)) := hb.alloc hb.size _
            have hbw5 : Below w.heap.size w w5 := below_own hbw4 (HO.out.alloc _) hg5 (Nat.le_refl _) hbw4.size
            have HO5 : Hid (w5.ownsRow w.heap.size 28 3 v5 (keepT (fun t => t.2.1 == o && t.2.2 == q) (l.take (k + 1))).length (tscells (keepT (fun t => t.2.1 == o && t.2.2 == q) (l.take (k + 1))))) := by
              rw [HK.out, tscells_append, tscells_one, List.length_append]
              exact hown5
            clear hown5 hg5
            go_wp2_with fail
            go_roundw
            case rel => exact ⟨k + 1, by omega, by go_num, HO5.out, hbw5⟩
            case measure => simp [intOf]; omega
        · have d1 : (t.2.1 != o) = true := by simp [hq]
          have HD : Hid (¬ t.2.1 = o) := hq
          clear hq
          have HK : Hid (keepT (fun t => t.2.1 == o && t.2.2 == q) (l.take (k + 1)) = keepT (fun t => t.2.1 == o && t.2.2 == q) (l.take k) ++ [t]) := keep_miss HT.out (by simp [HD.out])
          go_wp2_with (at_builtin; refine wpList_append_rd _ rfl (.tmp 34) (.tmp 39) _ rfl w.heap.size 28 i0 _ 3 24 Try.underlying23 hi0 hz0 hz1 hz2 rfl (by omega) _ (keepT (fun t => t.2.1 == o && t.2.2 == q) (l.take k)).length (tscells (keepT (fun t => t.2.1 == o && t.2.2 == q) (l.take k))) rfl (HO.out.alloc _) _ _ 1 1 (tcells t) rfl (Rd.lit _ _ _) rfl (by rw [← tscells_one]; exact tscells_ones _) (by simp only [maxLen]; omega) (by omega) (by simp; omega) ?_)
          intro v5 w5 hown5 hg5 _
          have hbw4 : Below w.heap.size w (wr.alloc (.cells (tcells t).toArray 28)) := hb.alloc hb.size _
          have hbw5 : Below w.heap.size w w5 := below_own hbw4 (HO.out.alloc _) hg5 (Nat.le_refl _) hbw4.size
          have HO5 : Hid (w5.ownsRow w.heap.size 28 3 v5 (keepT (fun t => t.2.1 == o && t.2.2 == q) (l.take (k + 1))).length (tscells (keepT (fun t => t.2.1 == o && t.2.2 == q) (l.take (k + 1))))) := by
            rw [HK.out, tscells_append, tscells_one, List.length_append]
            exact hown5
          clear hown5 hg5
          go_wp2_with fail
          go_roundw
          case rel => exact ⟨k + 1, by omega, by go_num, HO5.out, hbw5⟩
          case measure => simp [intOf]; omega
      · have HE : Hid (l.take k = l) := List.take_of_length_le (by omega)
        go_wp2_with fail
        go_ret
        refine ⟨u7, rfl, ?_, hb⟩
        rw [HE.out] at hown
        rw [HW.out]
        exact hown
  · have h1 : validT l = false := by simpa using h1
    have HW : Hid (cancelT o q l = []) := if_neg (by simp [h1])
    go_enter Try.func28, Try.ntmps28
    go_wp2_with fail
    refine (rvalid_any (B := B) A c l _ hB HH.out HM.out).mono ?_
    rintro e w1 ⟨rfl, hb1⟩
    go_wp2_with fail
    go_ret
    refine ⟨.slice none 0 0, rfl, ?_, hb1⟩
    rw [HW.out]
    exact World.ownsRow_nil _ _ _ _

end Go.Proofs.Ytfocenfgeolpfaa
