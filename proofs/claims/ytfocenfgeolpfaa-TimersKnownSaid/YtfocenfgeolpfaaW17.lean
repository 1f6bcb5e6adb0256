/- The walk of the law TimersKnown. -/
import Derived.Test.YtfocenfgeolpfaaW12
import Derived.Test.YtfocenfgeolpfaaW9
import Derived.Test.YtfocenfgeolpfaaKnownP
import Derived.Deep.RegionHeld3
import Derived.Deep.DeepCutAuto
import Derived.RegionTactic
import Derived.BigRegion
namespace Go.Proofs.Ytfocenfgeolpfaa
open Go.RowKit

def fullC (n : Nat) : Array Value := madeCells #[.int .i64 0, .int .i64 0, .int .i64 0] (n * 3)
theorem fullC_cells (n : Nat) : (fullC n).toList = tscells (fullT n) := by
  have e1 : tscells (fullT n) = List.replicate (n * 3) (.int .i64 0) := by
    unfold tscells fullT
    induction n with
    | zero => rfl
    | succ n ih =>
      rw [List.replicate_succ, List.flatMap_cons, ih, show (n + 1) * 3 = 3 + n * 3 by omega, ← List.replicate_append_replicate]
      rfl
  rw [e1]
  apply List.ext_getElem?
  intro i
  unfold fullC madeCells
  rw [Array.getElem?_toList, Array.getElem?_map, List.getElem?_replicate]
  by_cases h : i < n * 3
  · rw [Array.getElem?_range, if_pos h, if_pos h]
    have : i % 3 = 0 ∨ i % 3 = 1 ∨ i % 3 = 2 := by omega
    rcases this with h | h | h <;> simp [h]
  · rw [Array.getElem?_range, if_neg h, if_neg h]
    rfl
theorem make_full (n : Nat) (h : n ≤ 100000) (W : World) : (Instr.makeSlice 23 (.int .i64 (n : Int)) (.int .i64 (n : Int))).run Try.prog W = .ok (.slice (some ⟨W.heap.size, 0, none⟩) n n) (W.alloc (.cells (fullC n) 28)) := by
  obtain ⟨i, hi, hz, hs, hb⟩ := info_parts info28
  have := run_make (P := Try.prog) W 23 28 i _ Try.underlying23 hi hz .i64 .i64 n n (by omega) (Int.le_refl _) (by rw [hb]; omega) (by omega)
  rw [this, hs]
  rfl
theorem full_rd (w : World) (n : Nat) : TRd (w.alloc (.cells (fullC n) 28)) (w.heap.size + 1) (some ⟨w.heap.size, 0, none⟩) (fullT n) := by
  have := Rd.lit w (tscells (fullT n)) 28
  have h : (tscells (fullT n)).toArray = fullC n := by rw [← fullC_cells]
  rw [h] at this
  exact this

def backT : List Tm := [(5, 1, 2), (3, 1, 1)]
def threeT : List Tm := [(3, 1, 1), (5, 1, 2), (8, 1, 1)]
theorem add_back : addT backT (9, 1, 1) = ([], 2) := by decide
theorem due_ex : dueT 5 exT = [(3, 1, 1), (5, 1, 2)] := by decide
theorem later_ex : laterT 5 exT = [(8, 2, 1)] := by decide
theorem next_ex : nextT exT = (3, true) := by decide
theorem valid_back : validT backT = false := by decide
theorem count_ex : countT 1 exT = 2 := by decide
theorem cancelAll_ex : cancelAllT 1 exT = [(8, 2, 1)] := by decide
theorem cancel_back : cancelT 0 0 backT = [] := by decide
theorem count_back : countT 1 backT = 0 := by decide
theorem cancel_three : cancelT 1 1 threeT = [(5, 1, 2)] := by decide
/-- The example's tails. -/
theorem ex_take {w : World} {B g : Nat} (h : TRd w B (some ⟨g, 0, none⟩) exT) : TRd w B (some ⟨g, 0, none⟩) [(3, 1, 1), (5, 1, 2)] := h.take 2
theorem ex_drop {w : World} {B g : Nat} (h : TRd w B (some ⟨g, 0, none⟩) exT) : TRd w B (some ⟨g, 6, none⟩) [(8, 2, 1)] := h.drop 2 (c := 3) (by decide)
theorem ex_mid {w : World} {B g : Nat} (h : TRd w B (some ⟨g, 0, none⟩) exT) : TRd w B (some ⟨g, 3, none⟩) [(5, 1, 2)] := (TRd.drop h 1 (c := 3) (by decide)).take 1

set_option maxRecDepth 100000 in
set_option maxHeartbeats 4000000 in
theorem tknown_any (w : World) : Calls Try.prog 9 #[] w fun e w' => e = .returned (.bool true) ∧ Below w.heap.size w w' := by
  go_enter Try.func9, Try.ntmps9
  go_wp2_with fail
  refine (example_any _).mono ?_
  rintro e w1 ⟨rfl, hx, hlt, hr1, hb1⟩
  obtain ⟨x0, x1, x2, x3, x4, x5, -, -, -⟩ := hx
  have HR1 : Hid (TRd w1 w1.heap.size (some ⟨w.heap.size, 0, none⟩) exT) := hr1
  have HB1 : Hid (Below w.heap.size w w1) := hb1
  clear hr1 hb1
  go_wp2_with fail
  go_region
  have hal : Below w1.heap.size w1 (w1.alloc (.cells (tscells backT).toArray 28)).drew := below_drewN ((Below.refl _ _).alloc (Nat.le_refl _) _) 1
  have hback : TRd (w1.alloc (.cells (tscells backT).toArray 28)).drew (w1.heap.size + 1) (some ⟨w1.heap.size, 0, none⟩) backT := Rd.drew (Rd.lit w1 (tscells backT) 28)
  have z2 : w1.heap.size < (w1.alloc (.cells (tscells backT).toArray 28)).drew.heap.size := by show w1.heap.size < (w1.alloc _).heap.size; simp
  have HK2 : Hid (Below w1.heap.size w1 (w1.alloc (.cells (tscells backT).toArray 28)).drew ∧ TRd (w1.alloc (.cells (tscells backT).toArray 28)).drew (w1.heap.size + 1) (some ⟨w1.heap.size, 0, none⟩) backT ∧ w1.heap.size < (w1.alloc (.cells (tscells backT).toArray 28)).drew.heap.size) := ⟨hal, hback, z2⟩
  clear hal hback z2 x0 x1 x2 x3 x4 x5
  simp only [tscells, backT, tcells, List.flatMap_cons, List.flatMap_nil, List.cons_append, List.nil_append, List.append_nil] at HK2
  generalize World.drew _ = w2 at HK2 ⊢
  have HB2 : Hid (Below w.heap.size w w2) := HB1.out.trans (HK2.out.1.mono HB1.out.size)
  have HE2 : Hid (∀ w', Below w2.heap.size w2 w' → TRd w' w2.heap.size (some ⟨w.heap.size, 0, none⟩) exT) := fun w' hb => ((HR1.out.below HK2.out.1).more HK2.out.1.size).below hb
  have HQ2 : Hid (∀ w', Below w2.heap.size w2 w' → TRd w' w2.heap.size (some ⟨w1.heap.size, 0, none⟩) backT) := fun w' hb => (Rd.more HK2.out.2.1 HK2.out.2.2).below hb
  have z12 := HK2.out.1.size
  clear HR1 HK2
  have HZ2 : Hid (Below w2.heap.size w2 w2) := Below.refl _ _
  go_wp2_with fail
  refine (addn_any (B := w2.heap.size) (some ⟨w1.heap.size, 0, none⟩) 2 backT 2 rfl (9, 1, 1) HZ2.out.size (HQ2.out _ HZ2.out) (by omega) (by omega)).mono ?_
  rw [add_back]
  rintro e w3 ⟨v3, rfl, -, hb3⟩
  have HZ3 : Hid (Below w2.heap.size w2 w3) := hb3
  clear hb3
  go_wp2_with fail
  refine (duen_any (B := w2.heap.size) (some ⟨w.heap.size, 0, none⟩) 3 exT 3 rfl 5 HZ3.out.size (HE2.out _ HZ3.out) (by omega)).mono ?_
  rw [due_ex, later_ex]
  rintro e w4 ⟨v4, u4, N4, rfl, ho4, -, -, hp4, hb4⟩
  obtain ⟨Ad, cd, rfl, -⟩ := own_slice ho4
  obtain ⟨Ae, ce, rfl, -⟩ := own_slice hp4
  have HZ4 : Hid (Below w2.heap.size w2 w4) := HZ3.out.trans (hb4.mono HZ3.out.size)
  have HD4 : Hid (∀ w', Below w4.heap.size w4 w' → TRd w' w4.heap.size Ad [(3, 1, 1), (5, 1, 2)]) := fun w' hb => Rd.below (Rd.of_own ho4) hb
  have HE4 : Hid (∀ w', Below w4.heap.size w4 w' → TRd w' w4.heap.size Ae [(8, 2, 1)]) := fun w' hb => Rd.below (Rd.of_own hp4) hb
  clear ho4 hp4 hb4
  go_wp2_with fail
  refine (nextn_any (B := w2.heap.size) (some ⟨w.heap.size, 0, none⟩) 3 exT 3 rfl HZ4.out.size (HE2.out _ HZ4.out) (by omega)).mono ?_
  rw [next_ex]
  rintro e w5 ⟨rfl, hb5⟩
  have HY5 : Hid (Below w4.heap.size w4 w5) := hb5
  clear hb5
  go_wp2_with fail
  refine (nextn_any (B := w2.heap.size) none 0 [] 0 rfl (HZ4.out.trans (HY5.out.mono HZ4.out.size)).size Rd.nil_ (by omega)).mono ?_
  rintro e w6 ⟨rfl, hb6⟩
  have HY6 : Hid (Below w4.heap.size w4 w6) := HY5.out.trans (hb6.mono HY5.out.size)
  clear hb6
  have hs1 : ∀ W, (Instr.slice 23 (.slice (some ⟨w.heap.size, 0, none⟩) 3 3) none (some (.int .i64 2)) none).run Try.prog W = .ok (.slice (some ⟨w.heap.size, 0, none⟩) 2 3) W := fun W => slice_to _ 3 3 2 W (by omega)
  have hs2 : ∀ W, (Instr.slice 23 (.slice (some ⟨w.heap.size, 0, none⟩) 3 3) (some (.int .i64 2)) none none).run Try.prog W = .ok (.slice (some ⟨w.heap.size, 6, none⟩) 1 1) W := fun W => by
    simp [go_sem, Addr.add]
  have HU : Hid (∀ w', Below w4.heap.size w4 w' → Below w2.heap.size w2 w') := fun w' hb => HZ4.out.trans (hb.mono HZ4.out.size)
  have HX0 : Hid (Below w4.heap.size w4 w6.drew) := below_drewN HY6.out 1
  have tok1 : True := trivial
  go_wp2_with fail
  go_region_held3 (fun _ => True) (exact trivial)
    ((first
      | (go_at_call 11
         refine (validn_any (B := w2.heap.size) (some ⟨w1.heap.size, 0, none⟩) 2 backT 2 rfl (HU.out _ HX0.out).size (HQ2.out _ (HU.out _ HX0.out)) (by omega)).mono ?_
         rw [valid_back]
         rintro e wa ⟨rfl, hba⟩
         have HXa : Hid (Below w4.heap.size w4 wa) := HX0.out.trans (hba.mono HX0.out.size)
         clear hba)
      | (go_at_call 18
         have _t := tok1
         refine (same18n_yes (B := w4.heap.size) (C := w2.heap.size) Ad (some ⟨w.heap.size, 0, none⟩) 2 2 cd 3 [(3, 1, 1), (5, 1, 2)] rfl rfl HXa.out.size (HU.out _ HXa.out).size (HD4.out _ HXa.out) (ex_take (HE2.out _ (HU.out _ HXa.out))) (by simp [maxLen])).mono ?_
         rintro e wb ⟨rfl, hbb⟩
         have HXb : Hid (Below w4.heap.size w4 wb) := HXa.out.trans (hbb.mono HXa.out.size)
         have tok2 : True := trivial
         clear hbb tok1)
      | (go_at_call 18
         have _t := tok2
         refine (same18n_yes (B := w4.heap.size) (C := w2.heap.size) Ae (some ⟨w.heap.size, 6, none⟩) 1 1 ce 1 [(8, 2, 1)] rfl rfl HXb.out.size (HU.out _ HXb.out).size (HE4.out _ HXb.out) (ex_drop (HE2.out _ (HU.out _ HXb.out))) (by simp [maxLen])).mono ?_
         rintro e wc ⟨rfl, hbc⟩
         have HXc : Hid (Below w4.heap.size w4 wc) := HXb.out.trans (hbc.mono HXb.out.size)
         have tok3 : True := trivial
         clear hbc tok2)
      | (go_at_call 30
         have _t := tok3
         refine (countn_any (B := w2.heap.size) (some ⟨w.heap.size, 0, none⟩) 3 exT 3 rfl 1 (HU.out _ HXc.out).size (HE2.out _ (HU.out _ HXc.out)) (by omega)).mono ?_
         rw [count_ex]
         rintro e wd ⟨rfl, hbd⟩
         have HXd : Hid (Below w4.heap.size w4 wd) := HXc.out.trans (hbd.mono HXc.out.size)
         have tok4 : True := trivial
         clear hbd tok3)
      | (go_at_call 27
         refine (cancelalln_any (B := w2.heap.size) (some ⟨w.heap.size, 0, none⟩) 3 exT 3 rfl 1 (HU.out _ HXd.out).size (HE2.out _ (HU.out _ HXd.out)) (by omega)).mono ?_
         rw [cancelAll_ex]
         rintro e we ⟨ve, rfl, hoe, hbe⟩
         obtain ⟨Af, cf, rfl, -⟩ := own_slice hoe
         have HXe : Hid (Below w4.heap.size w4 we) := HXd.out.trans (hbe.mono HXd.out.size)
         have HFe : Hid (TRd we we.heap.size Af [(8, 2, 1)]) := Rd.of_own hoe
         clear hbe hoe)
      | (go_at_call 18
         have _t := tok4
         refine (same18n_yes (B := we.heap.size) (C := w2.heap.size) Af (some ⟨w.heap.size, 6, none⟩) 1 1 cf 1 [(8, 2, 1)] rfl rfl (Nat.le_refl _) (HU.out _ HXe.out).size HFe.out (ex_drop (HE2.out _ (HU.out _ HXe.out))) (by simp [maxLen])).mono ?_
         rintro e wf ⟨rfl, hbf⟩
         have HXf : Hid (Below w4.heap.size w4 wf) := HXe.out.trans (hbf.mono HXe.out.size)
         have tok5 : True := trivial
         clear hbf tok4)
      | (go_at_call 26
         refine (canceln_any (B := w2.heap.size) (some ⟨w1.heap.size, 0, none⟩) 2 backT 2 rfl 0 0 (HU.out _ HXf.out).size (HQ2.out _ (HU.out _ HXf.out)) (by omega)).mono ?_
         rw [cancel_back]
         rintro e wg ⟨vg, rfl, hog, hbg⟩
         obtain ⟨Ag, cg, rfl, -⟩ := own_slice hog
         have HXg : Hid (Below w4.heap.size w4 wg) := HXf.out.trans (hbg.mono HXf.out.size)
         clear hbg hog)
      | (go_at_call 30
         have _t := tok5
         refine (countn_any (B := w2.heap.size) (some ⟨w1.heap.size, 0, none⟩) 2 backT 2 rfl 1 (HU.out _ HXg.out).size (HQ2.out _ (HU.out _ HXg.out)) (by omega)).mono ?_
         rw [count_back]
         rintro e wh ⟨rfl, hbh⟩
         have HXh : Hid (Below w4.heap.size w4 wh) := HXg.out.trans (hbh.mono HXg.out.size)
         clear hbh tok5)))
  have HBh : Hid (Below w.heap.size w wh) := HB2.out.trans ((HU.out _ HXh.out).mono HB2.out.size)
  have hmk := make_full 1000 (by omega)
  simp only [show ((1000 : Nat) : Int) = 1000 from rfl] at hmk
  clear hs1 hs2
  go_upto_region 10 with fail
  clear hmk
  have hal : Below wh.heap.size wh (wh.alloc (.cells (fullC 1000) 28)) := (Below.refl _ _).alloc (Nat.le_refl _) _
  have hfr := full_rd wh 1000
  have zi : wh.heap.size + 1 ≤ (wh.alloc (.cells (fullC 1000) 28)).heap.size := by simp
  have HKi : Hid (Below wh.heap.size wh (wh.alloc (.cells (fullC 1000) 28)) ∧ TRd (wh.alloc (.cells (fullC 1000) 28)) (wh.heap.size + 1) (some ⟨wh.heap.size, 0, none⟩) (fullT 1000) ∧ wh.heap.size + 1 ≤ (wh.alloc (.cells (fullC 1000) 28)).heap.size) := ⟨hal, hfr, zi⟩
  clear hal hfr zi
  generalize wh.alloc _ = wi at HKi ⊢
  have HBi : Hid (Below w.heap.size w wi) := HBh.out.trans (HKi.out.1.mono HBh.out.size)
  have HFi : Hid (∀ w', Below wi.heap.size wi w' → TRd w' wi.heap.size (some ⟨wh.heap.size, 0, none⟩) (fullT 1000)) := fun w' hb => (Rd.more HKi.out.2.1 HKi.out.2.2).below hb
  have HV : Hid (∀ w', Below wi.heap.size wi w' → Below w2.heap.size w2 w') := fun w' hb => ((HU.out _ HXh.out).trans (HKi.out.1.mono (HU.out _ HXh.out).size)).trans (hb.mono ((HU.out _ HXh.out).trans (HKi.out.1.mono (HU.out _ HXh.out).size)).size)
  have HZi : Hid (Below wi.heap.size wi wi) := Below.refl _ _
  clear HKi HX0 HXa HXb HXc HXd HXe HXf HXg HXh HFe HD4 HE4 HY5 HY6 HU HBh
  go_wp2_with fail
  refine (addn_any (B := wi.heap.size) (some ⟨wh.heap.size, 0, none⟩) 1000 (fullT 1000) 1000 (fullT_len 1000) (0, 0, 0) HZi.out.size (HFi.out _ HZi.out) (by omega) (by omega)).mono ?_
  rw [addfull_no (by decide)]
  rintro e wj ⟨vj, rfl, -, hbj⟩
  have HZj : Hid (Below wi.heap.size wi wj) := hbj
  clear hbj
  have hs3 : ∀ W, (Instr.slice 23 (.slice (some ⟨wh.heap.size, 0, none⟩) 1000 1000) none (some (.int .i64 999)) none).run Try.prog W = .ok (.slice (some ⟨wh.heap.size, 0, none⟩) 999 1000) W := fun W => slice_to _ 1000 1000 999 W (by omega)
  go_wp2_with fail
  have h999 : ∀ w', Below wi.heap.size wi w' → TRd w' wi.heap.size (some ⟨wh.heap.size, 0, none⟩) (fullT 999) := fun w' hb => (TRd.take (HFi.out w' hb) 999)
  obtain ⟨l9, hl9, hn9⟩ := restart_999
  refine (restartn_any (B := wi.heap.size) (some ⟨wh.heap.size, 0, none⟩) 1000 (fullT 999) 999 (fullT_len 999) (1099511627776, 1, 0) HZj.out.size (h999 _ HZj.out) (by omega)).mono ?_
  rw [hl9]
  rintro e wk ⟨vk, rfl, hok, hbk⟩
  rw [hn9] at hok
  obtain ⟨Al, cl, rfl, -⟩ := own_slice hok
  have HZk : Hid (Below wi.heap.size wi wk) := HZj.out.trans (hbk.mono HZj.out.size)
  clear hbk hok h999 hl9 hn9 hs3
  go_wp2_with fail
  refine (restartn_any (B := wi.heap.size) (some ⟨wh.heap.size, 0, none⟩) 1000 (fullT 1000) 1000 (fullT_len 1000) (1, 0, 1) HZk.out.size (HFi.out _ HZk.out) (by omega)).mono ?_
  rw [restartfull_no]
  rintro e wl ⟨vl, rfl, -, hbl⟩
  have HZl : Hid (Below wi.heap.size wi wl) := HZk.out.trans (hbl.mono HZk.out.size)
  clear hbl
  go_wp2_with fail
  refine (addn_any (B := wi.heap.size) none 0 [] 0 rfl (1099511627777, 0, 0) HZl.out.size Rd.nil_ (by omega) (by omega)).mono ?_
  rw [add_late]
  rintro e wm ⟨vm, rfl, -, hbm⟩
  have HZm : Hid (Below wi.heap.size wi wm) := HZl.out.trans (hbm.mono HZl.out.size)
  clear hbm
  have hz1 : w.heap.size < wm.heap.size := by have := (HV.out _ HZm.out).size; omega
  obtain ⟨b, off, t0, he, -, ht0, x0, x1, x2⟩ := TRd.at_ (HE2.out _ (HV.out _ HZm.out)) (k := 0) (by decide)
  cases he
  cases ht0
  obtain ⟨b, off, t1, he, -, ht1, x3, x4, x5⟩ := TRd.at_ (HE2.out _ (HV.out _ HZm.out)) (k := 1) (by decide)
  cases he
  cases ht1
  simp only [Nat.zero_mul, Nat.one_mul, Nat.zero_add, Nat.reduceAdd] at x0 x1 x2 x3 x4 x5
  go_wp2_with fail
  go_region
  have hal : Below wm.heap.size wm (wm.alloc (.cells (tscells threeT).toArray 28)).drew := below_drewN ((Below.refl _ _).alloc (Nat.le_refl _) _) 1
  have hthree : TRd (wm.alloc (.cells (tscells threeT).toArray 28)).drew (wm.heap.size + 1) (some ⟨wm.heap.size, 0, none⟩) threeT := Rd.drew (Rd.lit wm (tscells threeT) 28)
  have zn : wm.heap.size + 1 ≤ (wm.alloc (.cells (tscells threeT).toArray 28)).drew.heap.size := by show wm.heap.size + 1 ≤ (wm.alloc _).heap.size; simp
  have HKn : Hid (Below wm.heap.size wm (wm.alloc (.cells (tscells threeT).toArray 28)).drew ∧ TRd (wm.alloc (.cells (tscells threeT).toArray 28)).drew (wm.heap.size + 1) (some ⟨wm.heap.size, 0, none⟩) threeT ∧ wm.heap.size + 1 ≤ (wm.alloc (.cells (tscells threeT).toArray 28)).drew.heap.size) := ⟨hal, hthree, zn⟩
  clear hal hthree zn x0 x1 x2 x3 x4 x5 hz1
  simp only [tscells, threeT, tcells, List.flatMap_cons, List.flatMap_nil, List.cons_append, List.nil_append, List.append_nil] at HKn
  generalize World.drew _ = wn at HKn ⊢
  have HZn : Hid (Below wi.heap.size wi wn) := HZm.out.trans (HKn.out.1.mono HZm.out.size)
  have HTn : Hid (∀ w', Below wn.heap.size wn w' → TRd w' wn.heap.size (some ⟨wm.heap.size, 0, none⟩) threeT) := fun w' hb => (Rd.more HKn.out.2.1 HKn.out.2.2).below hb
  have HW : Hid (∀ w', Below wn.heap.size wn w' → Below wi.heap.size wi w') := fun w' hb => HZn.out.trans (hb.mono HZn.out.size)
  clear HKn HZj HZk HZl HZm
  have hm1 := make_full 1001 (by omega)
  simp only [show ((1001 : Nat) : Int) = 1001 from rfl] at hm1
  have hs4 : ∀ W, (Instr.slice 23 (.slice (some ⟨w.heap.size, 0, none⟩) 3 3) (some (.int .i64 1)) (some (.int .i64 2)) none).run Try.prog W = .ok (.slice (some ⟨w.heap.size, 3, none⟩) 1 2) W := fun W => by
    simp [go_sem, Addr.add]
  have HX0 : Hid (Below wn.heap.size wn wn.drew) := below_drewN (Below.refl _ _) 1
  have tok1 : True := trivial
  go_wp2_with fail
  go_region_held3 (fun _ => True) (exact trivial)
    ((first
      | (go_at_call 11
         have _t := tok1
         refine (validn_any (B := wi.heap.size) (some ⟨wh.heap.size, 0, none⟩) 1000 (fullT 1000) 1000 (fullT_len 1000) (HW.out _ HX0.out).size (HFi.out _ (HW.out _ HX0.out)) (by omega)).mono ?_
         rw [valid_full (by omega)]
         rintro e wo ⟨rfl, hbo⟩
         have HXa : Hid (Below wn.heap.size wn wo) := HX0.out.trans (hbo.mono HX0.out.size)
         clear hbo tok1)
      | (go_at_call 11
         refine (validn_any (B := wo.heap.size + 1) (some ⟨wo.heap.size, 0, none⟩) 1001 (fullT 1001) 1001 (fullT_len 1001) (by simp) (full_rd wo 1001) (by omega)).mono ?_
         rw [valid_more]
         rintro e wp ⟨rfl, hbp⟩
         have HXb : Hid (Below wn.heap.size wn wp) := (HXa.out.alloc HXa.out.size _).trans (hbp.mono (by have := HXa.out.size; simp; omega))
         clear hbp)
      | (go_at_call 26
         refine (canceln_any (B := wn.heap.size) (some ⟨wm.heap.size, 0, none⟩) 3 threeT 3 rfl 1 1 HXb.out.size (HTn.out _ HXb.out) (by omega)).mono ?_
         rw [cancel_three]
         rintro e wq ⟨vq, rfl, hoq, hbq⟩
         obtain ⟨Aq, cq, rfl, -⟩ := own_slice hoq
         have HXc : Hid (Below wn.heap.size wn wq) := HXb.out.trans (hbq.mono HXb.out.size)
         have HQq : Hid (TRd wq wq.heap.size Aq [(5, 1, 2)]) := Rd.of_own hoq
         clear hbq hoq)
      | (go_at_call 18
         refine (same18n_yes (B := wq.heap.size) (C := w2.heap.size) Aq (some ⟨w.heap.size, 3, none⟩) 1 1 cq 2 [(5, 1, 2)] rfl rfl (Nat.le_refl _) (HV.out _ (HW.out _ HXc.out)).size HQq.out (ex_mid (HE2.out _ (HV.out _ (HW.out _ HXc.out)))) (by simp [maxLen])).mono ?_
         rintro e wr ⟨rfl, hbr⟩
         have HXd : Hid (Below wn.heap.size wn wr) := HXc.out.trans (hbr.mono HXc.out.size)
         clear hbr)
      | (go_at_call 12
         refine (works_any _).mono ?_
         rintro e ws ⟨rfl, hbs⟩
         have HXe : Hid (Below wn.heap.size wn ws) := HXd.out.trans (hbs.mono HXd.out.size)
         clear hbs)))
  go_wp2_with fail
  go_ret
  exact ⟨rfl, HBi.out.trans ((HW.out _ HXe.out).mono HBi.out.size)⟩

end Go.Proofs.Ytfocenfgeolpfaa
