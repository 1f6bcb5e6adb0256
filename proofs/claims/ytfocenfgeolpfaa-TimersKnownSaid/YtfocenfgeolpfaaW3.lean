/- The walks: Copy, Same, same, spoil. -/
import Derived.Test.YtfocenfgeolpfaaW2
import Derived.Deep.QuietTactic
import Derived.BigQuiet
namespace Go.Proofs.Ytfocenfgeolpfaa
open Go.RowKit

set_option maxHeartbeats 400000 in
theorem same16_any {B C : Nat} (A D : Option Addr) (c d : Nat) (l r : List Tm) (w : World) (hB : B ≤ w.heap.size) (hC : C ≤ w.heap.size) (h : TRd w B A l) (g : TRd w C D r) (_hl : l.length ≤ maxLen) (hr : r.length ≤ maxLen) :
    Calls Try.prog 16 #[.slice A l.length c, .slice D r.length d] w fun e w' => e = .returned (.bool (decide (l = r))) ∧ Below w.heap.size w w' := by
  unfold maxLen at _hl hr
  by_cases hn : l.length = r.length
  · have hn1 : l.length ≤ r.length := by omega
    have hn2 : r.length ≤ l.length := by omega
    have hn3 : ((l.length : Int) != (r.length : Int)) = false := by simp [hn]
    clear hn
    go_enter Try.func16, Try.ntmps16
    go_wp2
    go_loopw [5] (fun i wr => ∃ (k : Nat), k ≤ l.length ∧ i = .int .i64 k ∧ l.take k = r.take k ∧ Below w.heap.size w wr) (fun i _ => l.length - (intOf i).toNat)
    case atStart => exact ⟨0, Nat.zero_le _, rfl, rfl, Below.refl _ _⟩
    case round =>
      obtain ⟨k, hk, rfl, hv, hb⟩ := hrel
      have HV : Hid (l.take k = r.take k) := hv
      clear hv
      by_cases hlt : k < l.length
      · obtain ⟨b, off, t, rfl, hbb, ht, h1, h2, h3⟩ := (h.below (hb.mono hB)).at_ hlt
        obtain ⟨b', off', t', rfl, hbb', ht', h1', h2', h3'⟩ := (g.below (hb.mono hC)).at_ (k := k) (by omega)
        have HT : Hid (l[k]? = some t) := ht
        have HT' : Hid (r[k]? = some t') := ht'
        clear ht ht'
        have hne := fun W => run_neq_tm t t' W
        have hkr : (k : Int) < (r.length : Int) := by omega
        have hkl : (k : Int) < (l.length : Int) := by omega
        go_wp2
        go_quiet (fail)
        go_wp2
        · rename_i hh
          go_ret
          exact ⟨ret_bool (same_no HT.out HT'.out (by simpa using hh)).symm, below_drewN hb _⟩
        · rename_i hh
          go_roundw
          case rel => exact ⟨k + 1, by omega, by go_num, same_on HV.out HT.out HT'.out (by simpa using hh), below_drewN hb _⟩
          case measure => simp [intOf]; omega
      · go_wp2
        go_ret
        exact ⟨ret_bool (same_end HV.out (by omega) (by omega)).symm, hb⟩
  · have hn3 : ((l.length : Int) != (r.length : Int)) = true := by simp; omega
    have HN : Hid (¬ l.length = r.length) := hn
    clear hn
    go_enter Try.func16, Try.ntmps16
    go_wp2
    go_ret
    exact ⟨ret_bool (same_len HN.out).symm, Below.refl _ _⟩

set_option maxHeartbeats 400000 in
theorem same18_any {B C : Nat} (A D : Option Addr) (c d : Nat) (l r : List Tm) (w : World) (hB : B ≤ w.heap.size) (hC : C ≤ w.heap.size) (h : TRd w B A l) (g : TRd w C D r) (_hl : l.length ≤ maxLen) (hr : r.length ≤ maxLen) :
    Calls Try.prog 18 #[.slice A l.length c, .slice D r.length d] w fun e w' => e = .returned (.bool (decide (l = r))) ∧ Below w.heap.size w w' := by
  unfold maxLen at _hl hr
  by_cases hn : l.length = r.length
  · have hn1 : l.length ≤ r.length := by omega
    have hn2 : r.length ≤ l.length := by omega
    have hn3 : ((l.length : Int) != (r.length : Int)) = false := by simp [hn]
    clear hn
    go_enter Try.func18, Try.ntmps18
    go_wp2
    go_loopw [5] (fun i wr => ∃ (k : Nat), k ≤ l.length ∧ i = .int .i64 k ∧ l.take k = r.take k ∧ Below w.heap.size w wr) (fun i _ => l.length - (intOf i).toNat)
    case atStart => exact ⟨0, Nat.zero_le _, rfl, rfl, Below.refl _ _⟩
    case round =>
      obtain ⟨k, hk, rfl, hv, hb⟩ := hrel
      have HV : Hid (l.take k = r.take k) := hv
      clear hv
      by_cases hlt : k < l.length
      · obtain ⟨b, off, t, rfl, hbb, ht, h1, h2, h3⟩ := (h.below (hb.mono hB)).at_ hlt
        obtain ⟨b', off', t', rfl, hbb', ht', h1', h2', h3'⟩ := (g.below (hb.mono hC)).at_ (k := k) (by omega)
        have HT : Hid (l[k]? = some t) := ht
        have HT' : Hid (r[k]? = some t') := ht'
        clear ht ht'
        have hne := fun W => run_neq_tm t t' W
        have hkr : (k : Int) < (r.length : Int) := by omega
        have hkl : (k : Int) < (l.length : Int) := by omega
        go_wp2
        go_quiet (fail)
        go_wp2
        · rename_i hh
          go_ret
          exact ⟨ret_bool (same_no HT.out HT'.out (by simpa using hh)).symm, below_drewN hb _⟩
        · rename_i hh
          go_roundw
          case rel => exact ⟨k + 1, by omega, by go_num, same_on HV.out HT.out HT'.out (by simpa using hh), below_drewN hb _⟩
          case measure => simp [intOf]; omega
      · go_wp2
        go_ret
        exact ⟨ret_bool (same_end HV.out (by omega) (by omega)).symm, hb⟩
  · have hn3 : ((l.length : Int) != (r.length : Int)) = true := by simp; omega
    have HN : Hid (¬ l.length = r.length) := hn
    clear hn
    go_enter Try.func18, Try.ntmps18
    go_wp2
    go_ret
    exact ⟨ret_bool (same_len HN.out).symm, Below.refl _ _⟩

set_option maxHeartbeats 400000 in
theorem copy_any {B : Nat} (A : Option Addr) (c : Nat) (l : List Tm) (w : World) (_hB : B ≤ w.heap.size) (h : TRd w B A l) (hl : l.length ≤ 100000) :
    Calls Try.prog 13 #[.slice A l.length c] w fun e w' => ∃ v, e = .returned v ∧ w'.ownsRow w.heap.size 28 3 v l.length (tscells l) ∧ Below w.heap.size w w' := by
  obtain ⟨i0, hi0, hz0, hz1, hz2⟩ := info_parts info28
  have HH : Hid (TRd w B A l) := h
  clear h
  go_enter Try.func13, Try.ntmps13
  go_wp2_with (at_builtin; refine wpList_append_rd _ rfl (.tmp 4) (.tmp 5) _ rfl w.heap.size 28 i0 _ 3 24 Try.underlying23 hi0 hz0 hz1 hz2 rfl (by omega) _ 0 [] rfl (World.ownsRow_nil _ _ _ _) B A l.length c (tscells l) rfl HH.out (tscells_len l) (tscells_ones _) (by simp only [maxLen]; omega) (by omega) (Nat.le_refl _) ?_)
  intro v1 w1 hown hg _
  go_wp2
  go_ret
  exact ⟨v1, rfl, hown, (Below.refl _ _).grown hg (Nat.le_refl _) (by simp [Value.ownBlock])⟩

theorem three_in {cur : Array Value} {k c : Nat} (hs : cur.size = c * 3) (hk : k < c) : ∃ v0 v1 v2, cur[k * 3]? = some v0 ∧ cur[k * 3 + 1]? = some v1 ∧ cur[k * 3 + 2]? = some v2 :=
  ⟨_, _, _, Array.getElem?_eq_getElem (by omega), Array.getElem?_eq_getElem (by omega), Array.getElem?_eq_getElem (by omega)⟩

set_option maxHeartbeats 400000 in
theorem spoil_any {base : Nat} (v : Value) (n : Nat) (xs : List Value) (w : World) (h : w.ownsRow base 28 3 v n xs) :
    Calls Try.prog 17 #[v] w fun e w' => e = .returned (.tuple #[]) ∧ w.grownBy w' v.ownBlock := by
  rcases h.2 with ⟨rfl, rfl⟩ | ⟨g, cap, cur, rfl, hbg, hg, hnc, hcm, hcs, _⟩
  · clear h
    go_enter Try.func17, Try.ntmps17
    go_wp2
    go_loop [2] (fun i => i = .int .i64 0) (fun _ => 0)
    case atStart => rfl
    case round =>
      subst hrel
      go_wp2
      go_end0
      exact ⟨rfl, grown_refl _ _⟩
  · have HG : Hid (w.heap[g]? = some (.cells cur 28 (0, 0))) := hg
    have HS : Hid (cur.size = cap * 3) := hcs
    clear h hg hcs
    unfold maxLen at hcm
    go_enter Try.func17, Try.ntmps17
    go_wp2
    go_loopw [2] (fun i wr => ∃ (k : Nat) (cs : Array Value), k ≤ cap ∧ i = .int .i64 k ∧ wr.heap[g]? = some (.cells cs 28 (0, 0)) ∧ cs.size = cap * 3 ∧ w.grownBy wr (some g)) (fun i _ => cap - (intOf i).toNat)
    case atStart => exact ⟨0, cur, Nat.zero_le _, rfl, HG.out, HS.out, grown_refl _ _⟩
    case round =>
      obtain ⟨k, cs, hk, rfl, hh, hs, hb⟩ := hrel
      by_cases hlt : k < cap
      · obtain ⟨v0, v1, v2, e0, e1, e2⟩ := three_in hs hlt
        have c0 : wr.cell? ⟨g, k * 3, none⟩ = some v0 := (cell_of_row _ _ _ _ _ _ hh).trans e0
        have c1 : wr.cell? ⟨g, k * 3 + 1, none⟩ = some v1 := (cell_of_row _ _ _ _ _ _ hh).trans e1
        have c2 : wr.cell? ⟨g, k * 3 + 2, none⟩ = some v2 := (cell_of_row _ _ _ _ _ _ hh).trans e2
        have f0 : ∀ i, wr.frozen? ⟨g, i, none⟩ = false := fun i => frozen_of_row _ _ _ _ _ hh
        have HH : Hid (wr.heap[g]? = some (.cells cs 28 (0, 0))) := hh
        have HS' : Hid (cs.size = cap * 3) := hs
        clear hh hs e0 e1 e2
        go_wp2
        go_roundw
        case rel =>
          have hA := heap_setCell_same wr g (k * 3) cs 28 (.int .i64 (-7)) HH.out
          have hA2 := heap_setCell_same _ g (k * 3 + 1) _ 28 (.int .i64 (-7)) hA
          have hA3 := heap_setCell_same _ g (k * 3 + 2) _ 28 (.int .i64 (-7)) hA2
          exact ⟨k + 1, _, by omega, by go_num, hA3, by simpa using HS'.out, grown_set (grown_set (grown_set hb _ _) _ _) _ _⟩
        case measure => simp [intOf]; omega
      · go_wp2
        go_end0
        exact ⟨rfl, hb⟩

end Go.Proofs.Ytfocenfgeolpfaa
