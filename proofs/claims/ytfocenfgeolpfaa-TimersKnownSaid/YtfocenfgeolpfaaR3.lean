/- The walks of the reference: Due, Count. -/
import Derived.Test.YtfocenfgeolpfaaR2
namespace Go.Proofs.Ytfocenfgeolpfaa
open Go.RowKit

/-- Two slices that do not lie in one block. -/
def Apart (v u : Value) : Prop := ∀ g, v.ownBlock = some g → u.ownBlock = some g → False
theorem Apart.symm {v u : Value} (h : Apart v u) : Apart u v := fun g h1 h2 => h g h2 h1
theorem apart_append {w : World} {v u v' : Value} {base e size n : Nat} {xs : List Value} (ha : Apart v u) (hu : w.ownsRow base e size u n xs) (h : v'.ownBlock = v.ownBlock ∨ v'.ownBlock = some w.heap.size) : Apart v' u := by
  intro g h1 h2
  rcases h with h | h
  · exact ha g (h ▸ h1) h2
  · have := (hu.lt g h2).2
    rw [h] at h1
    injection h1 with h1
    omega
theorem own_apart {w w' : World} {v u : Value} {base e size n : Nat} {xs : List Value} (hu : w.ownsRow base e size u n xs) (hg : w.grownBy w' v.ownBlock) (ha : Apart v u) : w'.ownsRow base e size u n xs := by
  refine hu.kept hg ?_
  cases hu' : u.ownBlock with
  | none => exact .inl rfl
  | some g =>
    refine .inr fun h => ?_
    exact ha g h.symm hu'

/-- What the reference's Due leaves: two lists. -/
def GivesBoth (w : World) (r s : List Tm) (e : Ending) (w' : World) : Prop :=
  ∃ v u, e = .returned (.tuple #[v, u]) ∧ w'.ownsRow w.heap.size 28 3 v r.length (tscells r) ∧ w'.ownsRow w.heap.size 28 3 u s.length (tscells s) ∧ Below w.heap.size w w'

def gD (now : Int) : Tm → Bool := fun t => decide (now < t.1)
def gL (now : Int) : Tm → Bool := fun t => decide (t.1 ≤ now)
theorem gD_yes {now : Int} {t : Tm} (h : t.1 ≤ now) : gD now t = false := by simp [gD]; omega
theorem gL_yes {now : Int} {t : Tm} (h : t.1 ≤ now) : gL now t = true := by simp [gL]; omega
theorem gD_no {now : Int} {t : Tm} (h : ¬ t.1 ≤ now) : gD now t = true := by simp [gD]; omega
theorem gL_no {now : Int} {t : Tm} (h : ¬ t.1 ≤ now) : gL now t = false := by simp [gL]; omega

set_option maxRecDepth 100000 in
set_option maxHeartbeats 1000000 in
theorem rdue_any {B : Nat} (A : Option Addr) (c : Nat) (l : List Tm) (now : Int) (w : World) (hB : B ≤ w.heap.size) (h : TRd w B A l) (hl : l.length ≤ 100000) :
    Calls Try.prog 15 #[.slice A l.length c, .int .i64 now] w (GivesBoth w (dueT now l) (laterT now l)) := by
  obtain ⟨i0, hi0, hz0, hz1, hz2⟩ := info_parts info28
  have HH : Hid (TRd w B A l) := h
  have HM : Hid (l.length ≤ maxLen) := by show l.length ≤ maxLen; simp only [maxLen]; omega
  clear h
  by_cases h1 : validT l = true
  · have HW : Hid (dueT now l = keepT (gD now) l) := if_pos h1
    have HW2 : Hid (laterT now l = keepT (gL now) l) := if_pos h1
    go_enter Try.func15, Try.ntmps15
    go_wp2_with fail
    refine (rvalid_any (B := B) A c l _ hB HH.out HM.out).mono ?_
    rintro e w1 ⟨rfl, hb1⟩
    go_wp2_with fail
    clear h1
    go_loopw [6, 7, 8] (fun v u i wr => ∃ (k : Nat), k ≤ l.length ∧ i = .int .i64 k ∧ wr.ownsRow w.heap.size 28 3 v (keepT (gD now) (l.take k)).length (tscells (keepT (gD now) (l.take k))) ∧
        wr.ownsRow w.heap.size 28 3 u (keepT (gL now) (l.take k)).length (tscells (keepT (gL now) (l.take k))) ∧ Apart v u ∧ Below w.heap.size w wr) (fun _ _ i _ => l.length - (intOf i).toNat)
    case atStart => exact ⟨0, Nat.zero_le _, rfl, World.ownsRow_nil _ _ _ _, World.ownsRow_nil _ _ _ _, fun g h => by simp [Value.ownBlock] at h, hb1⟩
    case round =>
      obtain ⟨k, hk, rfl, hown, hown2, hap, hb⟩ := hrel
      have hz := hb.size
      by_cases hlt : k < l.length
      · obtain ⟨b, off, t, rfl, hbb, ht, g1, g2, g3⟩ := (HH.out.below (hb.mono hB)).at_ hlt
        have HT : Hid (l[k]? = some t) := ht
        have HO : Hid (wr.ownsRow w.heap.size 28 3 u6 (keepT (gD now) (l.take k)).length (tscells (keepT (gD now) (l.take k)))) := hown
        have HO2 : Hid (wr.ownsRow w.heap.size 28 3 u7 (keepT (gL now) (l.take k)).length (tscells (keepT (gL now) (l.take k)))) := hown2
        have HA : Hid (Apart u6 u7) := hap
        have hkl := keep_take_len (gD now) l k
        have hkl2 := keep_take_len (gL now) l k
        clear ht hown hown2 hap
        have hbw4 : Below w.heap.size w (wr.alloc (.cells (tcells t).toArray 28)) := hb.alloc hb.size _
        by_cases hq : t.1 ≤ now
        · have d1 : decide (t.1 ≤ now) = true := by simpa using hq
          have HK : Hid (keepT (gD now) (l.take (k + 1)) = keepT (gD now) (l.take k) ++ [t]) := keep_miss HT.out (gD_yes hq)
          have HK2 : Hid (keepT (gL now) (l.take (k + 1)) = keepT (gL now) (l.take k)) := keep_hit HT.out (gL_yes hq)
          clear hq
          go_wp2_with (at_builtin; refine wpList_append_rd _ rfl (.tmp 25) (.tmp 30) _ rfl w.heap.size 28 i0 _ 3 24 Try.underlying23 hi0 hz0 hz1 hz2 rfl (by omega) _ (keepT (gD now) (l.take k)).length (tscells (keepT (gD now) (l.take k))) rfl (HO.out.alloc _) _ _ 1 1 (tcells t) rfl (Rd.lit _ _ _) rfl (by rw [← tscells_one]; exact tscells_ones _) (by simp only [maxLen]; omega) (by omega) (by simp; omega) ?_)
          intro v5 w5 hown5 hg5 hat5
          have hbw5 : Below w.heap.size w w5 := below_own hbw4 (HO.out.alloc _) hg5 (Nat.le_refl _) hbw4.size
          have HO5 : Hid (w5.ownsRow w.heap.size 28 3 v5 (keepT (gD now) (l.take (k + 1))).length (tscells (keepT (gD now) (l.take (k + 1))))) := by
            rw [HK.out, tscells_append, tscells_one, List.length_append]
            exact hown5
          have HO6 : Hid (w5.ownsRow w.heap.size 28 3 u7 (keepT (gL now) (l.take (k + 1))).length (tscells (keepT (gL now) (l.take (k + 1))))) := by
            rw [HK2.out]
            exact own_apart (HO2.out.alloc _) hg5 HA.out
          have HA5 : Hid (Apart v5 u7) := apart_append HA.out (HO2.out.alloc (.cells (tcells t).toArray 28)) (by simpa using hat5)
          clear hown5 hg5 hat5
          go_wp2_with fail
          go_roundw
          case rel => exact ⟨k + 1, by omega, by go_num, HO5.out, HO6.out, HA5.out, hbw5⟩
          case measure => simp [intOf]; omega
        · have d1 : decide (t.1 ≤ now) = false := by simpa using hq
          have HK : Hid (keepT (gD now) (l.take (k + 1)) = keepT (gD now) (l.take k)) := keep_hit HT.out (gD_no hq)
          have HK2 : Hid (keepT (gL now) (l.take (k + 1)) = keepT (gL now) (l.take k) ++ [t]) := keep_miss HT.out (gL_no hq)
          clear hq
          go_wp2_with (at_builtin; refine wpList_append_rd _ rfl (.tmp 32) (.tmp 37) _ rfl w.heap.size 28 i0 _ 3 24 Try.underlying23 hi0 hz0 hz1 hz2 rfl (by omega) _ (keepT (gL now) (l.take k)).length (tscells (keepT (gL now) (l.take k))) rfl (HO2.out.alloc _) _ _ 1 1 (tcells t) rfl (Rd.lit _ _ _) rfl (by rw [← tscells_one]; exact tscells_ones _) (by simp only [maxLen]; omega) (by omega) (by simp; omega) ?_)
          intro v5 w5 hown5 hg5 hat5
          have hbw5 : Below w.heap.size w w5 := below_own hbw4 (HO2.out.alloc _) hg5 (Nat.le_refl _) hbw4.size
          have HO5 : Hid (w5.ownsRow w.heap.size 28 3 v5 (keepT (gL now) (l.take (k + 1))).length (tscells (keepT (gL now) (l.take (k + 1))))) := by
            rw [HK2.out, tscells_append, tscells_one, List.length_append]
            exact hown5
          have HO6 : Hid (w5.ownsRow w.heap.size 28 3 u6 (keepT (gD now) (l.take (k + 1))).length (tscells (keepT (gD now) (l.take (k + 1))))) := by
            rw [HK.out]
            exact own_apart (HO.out.alloc _) hg5 HA.out.symm
          have HA5 : Hid (Apart u6 v5) := (apart_append HA.out.symm (HO.out.alloc (.cells (tcells t).toArray 28)) (by simpa using hat5)).symm
          clear hown5 hg5 hat5
          go_wp2_with fail
          go_roundw
          case rel => exact ⟨k + 1, by omega, by go_num, HO6.out, HO5.out, HA5.out, hbw5⟩
          case measure => simp [intOf]; omega
      · have HE : Hid (l.take k = l) := List.take_of_length_le (by omega)
        go_wp2_with fail
        go_ret2
        refine ⟨u6, u7, rfl, ?_, ?_, hb⟩
        · rw [HE.out] at hown
          rw [HW.out]
          exact hown
        · rw [HE.out] at hown2
          rw [HW2.out]
          exact hown2
  · have h1 : validT l = false := by simpa using h1
    have HW : Hid (dueT now l = []) := if_neg (by simp [h1])
    have HW2 : Hid (laterT now l = []) := if_neg (by simp [h1])
    go_enter Try.func15, Try.ntmps15
    go_wp2_with fail
    refine (rvalid_any (B := B) A c l _ hB HH.out HM.out).mono ?_
    rintro e w1 ⟨rfl, hb1⟩
    go_wp2_with fail
    go_ret2
    refine ⟨.slice none 0 0, .slice none 0 0, rfl, ?_, ?_, hb1⟩
    · rw [HW.out]
      exact World.ownsRow_nil _ _ _ _
    · rw [HW2.out]
      exact World.ownsRow_nil _ _ _ _

/-- How many timers of an owner. -/
def cntT (o : Int) (l : List Tm) : Nat := (l.filter fun t => t.2.1 == o).length
theorem cnt_hit {o : Int} {l : List Tm} {k : Nat} {t : Tm} (ht : l[k]? = some t) (hq : t.2.1 = o) : cntT o (l.take (k + 1)) = cntT o (l.take k) + 1 := by
  rw [List.take_add_one, ht]
  simp [cntT, List.filter_append, hq]
theorem cnt_miss {o : Int} {l : List Tm} {k : Nat} {t : Tm} (ht : l[k]? = some t) (hq : ¬ t.2.1 = o) : cntT o (l.take (k + 1)) = cntT o (l.take k) := by
  rw [List.take_add_one, ht]
  simp [cntT, List.filter_append, hq]
theorem cnt_le (o : Int) (l : List Tm) : cntT o l ≤ l.length := List.length_filter_le _ _
theorem cnt_keep (o : Int) (l : List Tm) : cntT o l + (keepT (fun t => t.2.1 == o) l).length = l.length := by
  induction l with
  | nil => rfl
  | cons t r ih =>
    simp only [cntT, keepT, List.filter_cons] at ih ⊢
    by_cases h : t.2.1 = o
    · simp [h] at ih ⊢; omega
    · simp [h] at ih ⊢; omega
theorem count_valid {o : Int} {l : List Tm} (h : validT l = true) : countT o l = (cntT o l : Int) := by
  have e : cancelAllT o l = keepT (fun t => t.2.1 == o) l := if_pos h
  have := cnt_keep o l
  unfold countT
  rw [if_pos h, e]
  omega

set_option maxRecDepth 100000 in
set_option maxHeartbeats 1000000 in
theorem rcount_any {B : Nat} (A : Option Addr) (c : Nat) (l : List Tm) (o : Int) (w : World) (hB : B ≤ w.heap.size) (h : TRd w B A l) (hl : l.length ≤ 100000) :
    Calls Try.prog 31 #[.slice A l.length c, .int .i64 o] w fun e w' => e = .returned (.int .i64 (countT o l)) ∧ Below w.heap.size w w' := by
  have HH : Hid (TRd w B A l) := h
  have HM : Hid (l.length ≤ maxLen) := by show l.length ≤ maxLen; simp only [maxLen]; omega
  clear h
  by_cases h1 : validT l = true
  · have HC : Hid (countT o l = (cntT o l : Int)) := count_valid h1
    go_enter Try.func31, Try.ntmps31
    go_wp2_with fail
    go_loopw [5, 6] (fun n i wr => ∃ (k : Nat), k ≤ l.length ∧ i = .int .i64 k ∧ n = .int .i64 (cntT o (l.take k)) ∧ Below w.heap.size w wr) (fun _ i _ => l.length - (intOf i).toNat)
    case atStart => exact ⟨0, Nat.zero_le _, rfl, rfl, Below.refl _ _⟩
    case round =>
      obtain ⟨k, hk, rfl, rfl, hb⟩ := hrel
      have hz := hb.size
      have hcl : cntT o (l.take k) ≤ 100000 := Nat.le_trans (cnt_le o _) (by simp; omega)
      by_cases hlt : k < l.length
      · go_wp2_with fail
        refine (rvalid_any (B := B) A c l _ (by omega) (HH.out.below (hb.mono hB)) HM.out).mono ?_
        rintro e w1 ⟨rfl, hb1⟩
        have hbw : Below w.heap.size w w1 := hb.trans (hb1.mono hz)
        obtain ⟨b, off, t, rfl, hbb, ht, g1, g2, g3⟩ := (HH.out.below (hbw.mono hB)).at_ hlt
        have HT : Hid (l[k]? = some t) := ht
        clear ht hb hb1
        by_cases hq : t.2.1 = o
        · have d1 : (t.2.1 == o) = true := by simp [hq]
          have HK : Hid (cntT o (l.take (k + 1)) = cntT o (l.take k) + 1) := cnt_hit HT.out hq
          clear hq
          go_wp2_with fail
          go_roundw
          case rel => exact ⟨k + 1, by omega, by go_num, by rw [HK.out]; go_num, hbw⟩
          case measure => simp [intOf]; omega
        · have d1 : (t.2.1 == o) = false := by simp [hq]
          have HK : Hid (cntT o (l.take (k + 1)) = cntT o (l.take k)) := cnt_miss HT.out hq
          clear hq
          go_wp2_with fail
          go_roundw
          case rel => exact ⟨k + 1, by omega, by go_num, by rw [HK.out], hbw⟩
          case measure => simp [intOf]; omega
      · have HE : Hid (l.take k = l) := List.take_of_length_le (by omega)
        go_wp2_with fail
        go_ret
        exact ⟨ret_int (by rw [HE.out, HC.out]), hb⟩
  · have h1 : validT l = false := by simpa using h1
    have HC : Hid (countT o l = 0) := if_neg (by simp [h1])
    have h0 : 0 < l.length := by
      cases l with
      | nil => simp [validT, validFrom] at h1
      | cons x r => simp
    go_enter Try.func31, Try.ntmps31
    go_wp2_with fail
    go_loopw [5, 6] (fun n i wr => i = .int .i64 0 ∧ n = .int .i64 0 ∧ Below w.heap.size w wr) (fun _ i _ => 0)
    case atStart => exact ⟨rfl, rfl, Below.refl _ _⟩
    case round =>
      obtain ⟨rfl, rfl, hb⟩ := hrel
      have hz := hb.size
      have h0' : (0 : Int) < (l.length : Int) := by omega
      go_wp2_with fail
      refine (rvalid_any (B := B) A c l _ (by omega) (HH.out.below (hb.mono hB)) HM.out).mono ?_
      rintro e w1 ⟨rfl, hb1⟩
      go_wp2_with fail
      go_ret
      exact ⟨ret_int HC.out.symm, hb.trans (hb1.mono hz)⟩

end Go.Proofs.Ytfocenfgeolpfaa
