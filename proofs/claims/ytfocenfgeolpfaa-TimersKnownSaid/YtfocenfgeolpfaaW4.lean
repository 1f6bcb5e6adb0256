/- The walks: the closures, without. -/
import Derived.Test.YtfocenfgeolpfaaW3
namespace Go.Proofs.Ytfocenfgeolpfaa
open Go.RowKit

/-- What 'without' asks of the function that it is handed: called with a timer, in any world in which what it captured stands, it answers 'gone', and makes memory at most. -/
def Asks (f : FuncId) (caps : Array Value) (N : Nat) (W0 : World) (gone : Tm → Bool) : Prop :=
  ∀ (t : Tm) (w : World), Below N W0 w → N ≤ w.heap.size →
    Calls Try.prog f (#[.agg #[.int .i64 t.1, .int .i64 t.2.1, .int .i64 t.2.2]] ++ caps) w fun e w' => e = .returned (.bool (gone t)) ∧ Below w.heap.size w w'

set_option maxHeartbeats 400000 in
theorem due1_any (W0 : World) (N g : Nat) (now : Int) (hg : g < N) (hc : W0.cell? ⟨g, 0, none⟩ = some (.int .i64 now)) : Asks 35 #[.pointer (some ⟨g, 0, none⟩)] N W0 (fun t => decide (now < t.1)) := by
  intro t w hb hN
  have hc' : w.cell? ⟨g, 0, none⟩ = some (.int .i64 now) := (hb.cell hg).trans hc
  have hgl : g < w.heap.size := by omega
  clear hc hb
  go_enter Try.func35, Try.ntmps35
  go_wp2
  go_ret
  exact ⟨rfl, (Below.refl _ _).alloc (Nat.le_refl _) _⟩

set_option maxHeartbeats 400000 in
theorem due2_any (W0 : World) (N g : Nat) (now : Int) (hg : g < N) (hc : W0.cell? ⟨g, 0, none⟩ = some (.int .i64 now)) : Asks 36 #[.pointer (some ⟨g, 0, none⟩)] N W0 (fun t => decide (t.1 ≤ now)) := by
  intro t w hb hN
  have hc' : w.cell? ⟨g, 0, none⟩ = some (.int .i64 now) := (hb.cell hg).trans hc
  have hgl : g < w.heap.size := by omega
  clear hc hb
  go_enter Try.func36, Try.ntmps36
  go_wp2
  go_ret
  exact ⟨rfl, (Below.refl _ _).alloc (Nat.le_refl _) _⟩

set_option maxHeartbeats 400000 in
theorem cancelall1_any (W0 : World) (N g : Nat) (o : Int) (hg : g < N) (hc : W0.cell? ⟨g, 0, none⟩ = some (.int .i64 o)) : Asks 40 #[.pointer (some ⟨g, 0, none⟩)] N W0 (fun t => t.2.1 == o) := by
  intro t w hb hN
  have hc' : w.cell? ⟨g, 0, none⟩ = some (.int .i64 o) := (hb.cell hg).trans hc
  have hgl : g < w.heap.size := by omega
  clear hc hb
  go_enter Try.func40, Try.ntmps40
  go_wp2
  go_ret
  exact ⟨rfl, (Below.refl _ _).alloc (Nat.le_refl _) _⟩

set_option maxHeartbeats 400000 in
theorem cancel1_any (W0 : World) (N g g' : Nat) (o k : Int) (hg : g < N) (hg' : g' < N) (hc : W0.cell? ⟨g, 0, none⟩ = some (.int .i64 o)) (hc2 : W0.cell? ⟨g', 0, none⟩ = some (.int .i64 k)) :
    Asks 39 #[.pointer (some ⟨g, 0, none⟩), .pointer (some ⟨g', 0, none⟩)] N W0 (fun t => t.2.1 == o && t.2.2 == k) := by
  intro t w hb hN
  have hc' : w.cell? ⟨g, 0, none⟩ = some (.int .i64 o) := (hb.cell hg).trans hc
  have hc2' : w.cell? ⟨g', 0, none⟩ = some (.int .i64 k) := (hb.cell hg').trans hc2
  have hgl : g < w.heap.size := by omega
  have hgl' : g' < w.heap.size := by omega
  clear hc hb hc2
  by_cases hq : t.2.1 = o
  · have hq' : (t.2.1 == o) = true := by simp [hq]
    have HQ : Hid (t.2.1 = o) := hq
    clear hq
    go_enter Try.func39, Try.ntmps39
    go_wp2
    go_ret
    exact ⟨ret_bool (by simp [HQ.out]), (Below.refl _ _).alloc (Nat.le_refl _) _⟩
  · have hq' : (t.2.1 == o) = false := by simp [hq]
    clear hq
    go_enter Try.func39, Try.ntmps39
    go_wp2
    go_ret
    exact ⟨ret_bool (by simp [hq']), (Below.refl _ _).alloc (Nat.le_refl _) _⟩

set_option maxHeartbeats 400000 in
theorem without_any {B : Nat} (A : Option Addr) (c : Nat) (l : List Tm) (F : FuncId) (caps : Array Value) (gone : Tm → Bool) (w : World) (hB : B ≤ w.heap.size) (h : TRd w B A l) (hl : l.length ≤ 100000)
    (hF : Asks F caps w.heap.size w gone) (hcf : ∀ a W, (callFunc F a).run Try.prog W = .ok (.enter F a) W) :
    Calls Try.prog 34 #[.slice A l.length c, .func (.func F) #[] caps] w fun e w' => ∃ v, e = .returned v ∧ w'.ownsRow w.heap.size 28 3 v (withoutT gone l).length (tscells (withoutT gone l)) ∧ Below w.heap.size w w' := by
  obtain ⟨i0, hi0, hz0, hz1, hz2⟩ := info_parts info28
  have HH : Hid (TRd w B A l) := h
  have HF : Hid (Asks F caps w.heap.size w gone) := hF
  have hm : l.length ≤ maxLen := by simp only [maxLen]; omega
  have HM : Hid (l.length ≤ maxLen) := hm
  clear h hF hm
  by_cases h1 : validT l = true
  · have HW : Hid (withoutT gone l = keepT gone l) := if_pos h1
    go_enter Try.func34, Try.ntmps34
    go_wp2_with fail
    refine (valid_any (B := B) A c l _ hB HH.out HM.out).mono ?_
    rintro e w1 ⟨rfl, hb1⟩
    have hz1' := hb1.size
    go_wp2_with fail
    clear h1
    go_loopw [5, 13] (fun v i wr => ∃ (k : Nat), k ≤ l.length ∧ i = .int .i64 k ∧ wr.ownsRow w.heap.size 28 3 v (keepT gone (l.take k)).length (tscells (keepT gone (l.take k))) ∧ Below w.heap.size w wr) (fun _ i _ => l.length - (intOf i).toNat)
    case atStart => exact ⟨0, Nat.zero_le _, rfl, World.ownsRow_nil _ _ _ _, hb1⟩
    case round =>
      obtain ⟨k, hk, rfl, hown, hb⟩ := hrel
      have hz := hb.size
      by_cases hlt : k < l.length
      · obtain ⟨b, off, t, rfl, hbb, ht, h1, h2, h3⟩ := (HH.out.below (hb.mono hB)).at_ hlt
        have HT : Hid (l[k]? = some t) := ht
        have HO : Hid (wr.ownsRow w.heap.size 28 3 u5 (keepT gone (l.take k)).length (tscells (keepT gone (l.take k)))) := hown
        clear ht hown
        go_wp2_with fail
        refine (HF.out t _ (hb.alloc hz _) (by simp; omega)).mono ?_
        rintro e w2 ⟨rfl, hb2⟩
        obtain ⟨hc2, -⟩ := bcell hb2
        have hz2' := hb2.size
        simp only [World.size_alloc] at hz2'
        have hlt2 : wr.heap.size < w2.heap.size := by omega
        have hbw2 : Below w.heap.size w w2 := (hb.alloc hz _).trans (hb2.mono (by simp; omega))
        have HO2 : Hid (w2.ownsRow w.heap.size 28 3 u5 (keepT gone (l.take k)).length (tscells (keepT gone (l.take k)))) := own_below (HO.out.alloc _) hb2
        have hkl := keep_take_len gone l k
        by_cases hg : gone t = true
        · have HK : Hid (keepT gone (l.take (k + 1)) = keepT gone (l.take k)) := keep_hit HT.out hg
          go_wp2_with fail
          go_roundw
          case rel => exact ⟨k + 1, by omega, by go_num, by rw [HK.out]; exact HO2.out, hbw2⟩
          case measure => simp [intOf]; omega
        · have hg : gone t = false := by simpa using hg
          have HK : Hid (keepT gone (l.take (k + 1)) = keepT gone (l.take k) ++ [t]) := keep_miss HT.out hg
          go_wp2_with (at_builtin; refine wpList_append_rd _ rfl (.tmp 21) (.tmp 23) _ rfl w.heap.size 28 i0 _ 3 24 Try.underlying23 hi0 hz0 hz1 hz2 rfl (by omega) _ (keepT gone (l.take k)).length (tscells (keepT gone (l.take k))) rfl (HO2.out.alloc _) _ _ 1 1 (tcells t) rfl (Rd.lit _ _ _) rfl (by rw [← tscells_one]; exact tscells_ones _) (by simp only [maxLen]; omega) (by omega) (by simp; omega) ?_)
          intro v5 w5 hown5 hg5 _
          have hbw4 : Below w.heap.size w (w2.alloc (.cells (tcells t).toArray 28)) := hbw2.alloc hbw2.size _
          have hbw5 : Below w.heap.size w w5 := below_own hbw4 (HO2.out.alloc _) hg5 (Nat.le_refl _) hbw4.size
          have HO5 : Hid (w5.ownsRow w.heap.size 28 3 v5 (keepT gone (l.take (k + 1))).length (tscells (keepT gone (l.take (k + 1))))) := by
            rw [HK.out, tscells_append, tscells_one, List.length_append]
            exact hown5
          clear hown5 hg5
          go_wp2_with fail
          go_roundw
          case rel => exact ⟨k + 1, by omega, by go_num, HO5.out, hbw5⟩
          case measure => simp [intOf]; omega
      · have HE : Hid (l.take k = l) := List.take_of_length_le (by omega)
        go_wp2_with fail
        go_ret
        refine ⟨u5, rfl, ?_, hb⟩
        rw [HE.out] at hown
        rw [HW.out]
        exact hown
  · have h1 : validT l = false := by simpa using h1
    have HW : Hid (withoutT gone l = []) := if_neg (by simp [h1])
    go_enter Try.func34, Try.ntmps34
    go_wp2_with fail
    refine (valid_any (B := B) A c l _ hB HH.out HM.out).mono ?_
    rintro e w1 ⟨rfl, hb1⟩
    go_wp2_with fail
    go_ret
    refine ⟨.slice none 0 0, rfl, ?_, hb1⟩
    rw [HW.out]
    exact World.ownsRow_nil _ _ _ _

end Go.Proofs.Ytfocenfgeolpfaa
