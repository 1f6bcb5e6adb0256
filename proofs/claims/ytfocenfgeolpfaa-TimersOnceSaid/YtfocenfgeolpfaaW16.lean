/- The walk of the law TimersOnce. -/
import Derived.Test.YtfocenfgeolpfaaW15
import Derived.Test.YtfocenfgeolpfaaW8
import Derived.Deep.RegionHeld3
import Derived.Deep.DeepCutAuto
namespace Go.Proofs.Ytfocenfgeolpfaa
open Go.RowKit

/-- A pair of bytes. -/
def pcells (p : Int × Int) : List Value := [.int .u8 p.1, .int .u8 p.2]
theorem pcells_len (p : Int × Int) : (pcells p).length = 2 := rfl
theorem pair_at {w : World} {B : Nat} {A : Option Addr} {l : List (Int × Int)} (h : Rd w B A (l.flatMap pcells)) {k : Nat} (hk : k < l.length) :
    ∃ b off p, A = some ⟨b, off, none⟩ ∧ b < B ∧ l[k]? = some p ∧ w.cell? ⟨b, off + k * 2, none⟩ = some (.int .u8 p.1) ∧ w.cell? ⟨b, off + k * 2 + 1, none⟩ = some (.int .u8 p.2) := by
  rcases h with h | ⟨b, off, hA, hb, hc⟩
  · have := flat_len pcells 2 pcells_len l
    rw [h] at this
    simp at this
    omega
  · have he : l[k]? = some l[k] := List.getElem?_eq_getElem hk
    have g (j : Nat) (hj : j < 2) : (l.flatMap pcells)[k * 2 + j]? = (pcells l[k])[j]? := by
      rw [flat_get pcells 2 pcells_len l k j hj, he]; rfl
    exact ⟨b, off, l[k], hA, hb, he, hc (k * 2) _ (g 0 (by omega)), hc (k * 2 + 1) _ (g 1 (by omega))⟩

theorem info50 : (Try.prog.info? 50).map (·.size) = some 16 := by kernel_rfl
theorem size50 {tb : List Int} (h : tb.length = 16) : (Try.prog.info? 50).map (·.size) = some (tbC tb).size := by rw [info50]; simp [tbC, h]
theorem list16 {α : Type} (l : List α) (h : l.length = 16) : ∃ x0 x1 x2 x3 x4 x5 x6 x7 x8 x9 x10 x11 x12 x13 x14 x15, l = [x0, x1, x2, x3, x4, x5, x6, x7, x8, x9, x10, x11, x12, x13, x14, x15] := by
  match l, h with
  | [x0, x1, x2, x3, x4, x5, x6, x7, x8, x9, x10, x11, x12, x13, x14, x15], _ => exact ⟨x0, x1, x2, x3, x4, x5, x6, x7, x8, x9, x10, x11, x12, x13, x14, x15, rfl⟩
theorem agrees_cs {B : Nat} (A : Option Addr) (c : Nat) (l : List Tm) (n : Nat) (hn : l.length = n) (tb : List Int) {x0 x1 x2 x3 x4 x5 x6 x7 x8 x9 x10 x11 x12 x13 x14 x15 : Int} (hcs : tb = [x0, x1, x2, x3, x4, x5, x6, x7, x8, x9, x10, x11, x12, x13, x14, x15]) (w : World) (hB : B ≤ w.heap.size) (h : TRd w B A l) (ag : AgP l tb) (ok : OkTb tb) :
    Calls Try.prog 32 #[.slice A n c, .agg #[.int .i64 x0, .int .i64 x1, .int .i64 x2, .int .i64 x3, .int .i64 x4, .int .i64 x5, .int .i64 x6, .int .i64 x7, .int .i64 x8, .int .i64 x9, .int .i64 x10, .int .i64 x11, .int .i64 x12, .int .i64 x13, .int .i64 x14, .int .i64 x15]] w fun e w' => e = .returned (.bool true) ∧ Below w.heap.size w w' := by
  have := agrees_any A c l n hn tb w hB h ag ok
  rw [hcs] at this
  exact this
theorem tbC_one (tb : List Int) : ∀ v ∈ (tbC tb).toList, v.oneCell' = true := by
  intro v hv
  obtain ⟨x, _, rfl⟩ := List.mem_map.1 (show v ∈ tb.map (Value.int .i64) by simpa [tbC] using hv)
  rfl
theorem tbC_size {tb : List Int} (h : tb.length = 16) : (tbC tb).size = 16 := by simp [tbC, h]
theorem tb_set {w : World} {g : Nat} {t : TypeId} {tb : List Int} (h : w.heap[g]? = some (.cells (tbC tb) t (0, 0))) (i : Nat) (x : Int) : (w.setCell ⟨g, i, none⟩ (.int .i64 x)).heap[g]? = some (.cells (tbC (tb.set i x)) t (0, 0)) := by
  rw [heap_setCell_same w g i _ t _ h]
  simp [tbC, List.map_set]
theorem own_other {w w' : World} {base e size n : Nat} {v : Value} {xs : List Value} (h : w.ownsRow base e size v n xs) (hb : ∀ b, base ≤ b → w'.heap[b]? = w.heap[b]?) : w'.ownsRow base e size v n xs := by
  refine ⟨h.1, ?_⟩
  rcases h.2 with h2 | ⟨g, cap, cur, rfl, hg, hh, r⟩
  · exact .inl h2
  · exact .inr ⟨g, cap, cur, rfl, hg, (hb g hg).trans hh, r⟩

set_option maxRecDepth 100000 in
set_option maxHeartbeats 4000000 in
theorem once_short (A : Option Addr) (c : Nat) (ps : List (Int × Int)) (ow kd : Int) (w : World) (hc : ps.length ≤ 9223372036854775807) (hN : ps.length ≤ 200) (hp : ∀ p ∈ ps, (0 ≤ p.1 ∧ p.1 ≤ 255) ∧ (0 ≤ p.2 ∧ p.2 ≤ 255)) (how : 0 ≤ ow ∧ ow ≤ 255) (hkd : 0 ≤ kd ∧ kd ≤ 255) (h : Rd w w.heap.size A (ps.flatMap pcells)) :
    Calls Try.prog 8 #[.slice A ps.length c, .int .u8 ow, .int .u8 kd] w fun e w' => e = .returned (.bool true) ∧ Below w.heap.size w w' := by
  have HP : Hid (∀ p ∈ ps, (0 ≤ p.1 ∧ p.1 ≤ 255) ∧ (0 ≤ p.2 ∧ p.2 ≤ 255)) := hp
  have HR : Hid (Rd w w.heap.size A (ps.flatMap pcells)) := h
  clear hp h
  obtain ⟨ho1, ho2⟩ := how
  obtain ⟨hk1, hk2⟩ := hkd
  go_enter Try.func8, Try.ntmps8
  go_wp2_with fail
  have hblk : (w.alloc (.cells (tbC (List.replicate 16 0)) 50)).heap[w.heap.size]? = some (.cells (tbC (List.replicate 16 0)) 50 (0, 0)) := heap_alloc_new _ _
  have hb1 : Below w.heap.size w (w.alloc (.cells (tbC (List.replicate 16 0)) 50)) := (Below.refl _ _).alloc (Nat.le_refl _) _
  have q0 : w.heap.size < (w.alloc (.cells (tbC (List.replicate 16 0)) 50)).heap.size := by simp
  have HK : Hid ((w.alloc (.cells (tbC (List.replicate 16 0)) 50)).heap[w.heap.size]? = some (.cells (tbC (List.replicate 16 0)) 50 (0, 0)) ∧ Below w.heap.size w (w.alloc (.cells (tbC (List.replicate 16 0)) 50)) ∧ w.heap.size < (w.alloc (.cells (tbC (List.replicate 16 0)) 50)).heap.size) := ⟨hblk, hb1, q0⟩
  clear hblk hb1 q0
  simp only [tbC, List.replicate, List.map] at HK
  generalize w.alloc _ = w1 at HK ⊢
  go_loopw [7, 9] (fun v i wr => ∃ (k : Nat) (l : List Tm) (tb : List Int), k ≤ ps.length ∧ k ≤ 200 ∧ i = .int .i64 k ∧ wr.ownsRow (w.heap.size + 1) 28 3 v l.length (tscells l) ∧ AgP l tb ∧ OkTb tb ∧ wr.heap[w.heap.size]? = some (.cells (tbC tb) 50 (0, 0)) ∧ Below w.heap.size w wr) (fun _ i _ => 200 - (intOf i).toNat)
  case atStart => exact ⟨0, [], _, by omega, by omega, rfl, World.ownsRow_nil _ _ _ _, once_zero.1, once_zero.2, HK.out.1, HK.out.2.1⟩
  case round =>
    obtain ⟨k, l, tb, hk, hk200, rfl, hown, hag, hok, hblk, hb⟩ := hrel
    have HA : Hid (AgP l tb) := hag
    have HO : Hid (OkTb tb) := hok
    have HBl : Hid (wr.heap[w.heap.size]? = some (.cells (tbC tb) 50 (0, 0))) := hblk
    have HB : Hid (Below w.heap.size w wr) := hb
    obtain ⟨Ao, co, rfl, hco⟩ := own_slice hown
    have HOw : Hid (wr.ownsRow (w.heap.size + 1) 28 3 (.slice Ao l.length co) l.length (tscells l)) := hown
    have hl16 : l.length ≤ 16 := by have := cntP_le tb 16; have := hag.len; omega
    have q0 : w.heap.size < wr.heap.size := (Array.getElem?_eq_some_iff.1 hblk).1
    clear hown hag hok hblk hb hco
    by_cases hlt : k < ps.length
    · have hki : (k : Int) < (ps.length : Int) := by omega
      have hki2 : (k : Int) < 200 := by omega
      obtain ⟨b, off, p, rfl, hbB, hje, c0, c1⟩ := pair_at (HR.out.below HB.out) hlt
      obtain ⟨⟨p0, p1⟩, p2, p3⟩ := HP.out p (List.mem_of_getElem? hje)
      clear hje
      go_wp2_with fail
      go_quiet (fail)
      go_wp2_with fail
      obtain ⟨o, ho⟩ : ∃ o : Nat, (o : Int) = p.1 / 4 % 4 := ⟨(p.1 / 4 % 4).toNat, by omega⟩
      obtain ⟨q, hq⟩ : ∃ q : Nat, (q : Int) = p.1 % 4 := ⟨(p.1 % 4).toNat, by omega⟩
      rw [← ho, ← hq]
      have o4 : o < 4 := by omega
      have q4 : q < 4 := by omega
      have hoi : (o : Int) < 4 := by omega
      have hqi : (q : Int) < 4 := by omega
      clear ho hq p0 p1 c0 c1
      obtain ⟨l', hres, hag'⟩ := HA.out.restart HO.out o4 q4 p2 p3
      refine (restart_any (B := wr.heap.size) Ao co l (p.2, (o : Int), (q : Int)) _ (show wr.heap.size ≤ (World.drewN wr _).heap.size from Nat.le_refl _) ((Rd.of_own HOw.out).drewN _) (by simp only [maxLen]; omega)).mono ?_
      rw [hres]
      rintro e w2 ⟨v2, rfl, hown2, hb2⟩
      have hbr : Below wr.heap.size wr w2 := (below_drewN (Below.refl _ _) _).trans hb2
      have HB2 : Hid (Below w.heap.size w w2) := HB.out.trans (hbr.mono HB.out.size)
      have hblk2 := block_below HBl.out hbr q0
      have md := tb_at hblk2 HO.out.1 (i := o * 4 + q) (by omega)
      have f0 : ∀ x, w2.frozen? ⟨w.heap.size, x, none⟩ = false := fun _ => frozen_of_row _ _ _ _ _ hblk2
      have q2 : w.heap.size < w2.heap.size := by have := hbr.size; omega
      have HOw2 : Hid (w2.ownsRow (w.heap.size + 1) 28 3 v2 l'.length (tscells l')) := own_base hown2 (by simp; omega)
      have HA2 : Hid (AgP l' (tb.set (o * 4 + q) (1 + p.2))) := hag'
      have HO2 : Hid (OkTb (tb.set (o * 4 + q) (1 + p.2))) := HO.out.set _ (by omega) (by omega)
      have HBl2 : Hid (w2.heap[w.heap.size]? = some (.cells (tbC tb) 50 (0, 0))) := hblk2
      generalize tb.getD (o * 4 + q) 0 = x at md
      clear hres hag' hown2 hb2 hbr hblk2
      go_wp2_with fail
      go_roundw
      case rel =>
        refine ⟨k + 1, l', tb.set (o * 4 + q) (1 + p.2), by omega, by omega, by go_num, ?_, HA2.out, HO2.out, tb_set HBl2.out _ _, HB2.out.setCell (Nat.le_refl _) _⟩
        exact own_other HOw2.out fun b hb => Below.heap_setCell w2 ⟨w.heap.size, o * 4 + q, none⟩ _ b (by simp; omega)
      case measure => simp [intOf]; omega
    · have hki : ¬ (k : Int) < (ps.length : Int) := by omega
      go_wp2_with (refine wpList_load_row rfl 50 (.tmp 8) rfl w.heap.size rfl 50 (tbC tb) (0, 0) _ HBl.out Try.underlying50 rfl (size50 HO.out.1) ?_)
      refine (agrees_any (B := wr.heap.size) Ao co l l.length rfl tb _ (Nat.le_refl _) (Rd.of_own HOw.out) HA.out HO.out).mono ?_
      rintro e w3 ⟨rfl, hb3⟩
      obtain ⟨o, ho⟩ : ∃ o : Nat, (o : Int) = ow % 4 := ⟨(ow % 4).toNat, by omega⟩
      obtain ⟨q, hq⟩ : ∃ q : Nat, (q : Int) = kd % 4 := ⟨(kd % 4).toNat, by omega⟩
      rw [← ho, ← hq]
      have o4 : o < 4 := by omega
      have q4 : q < 4 := by omega
      have hoi : (o : Int) < 4 := by omega
      have hqi : (q : Int) < 4 := by omega
      clear ho hq
      have HBl3 : Hid (w3.heap[w.heap.size]? = some (.cells (tbC tb) 50 (0, 0))) := block_below HBl.out hb3 q0
      have HOw3 : Hid (w3.ownsRow (w.heap.size + 1) 28 3 (.slice Ao l.length co) l.length (tscells l)) := own_below HOw.out hb3
      have HB3 : Hid (Below w.heap.size w w3) := HB.out.trans (hb3.mono HB.out.size)
      have q3 : w.heap.size < w3.heap.size := by have := hb3.size; omega
      clear hb3
      go_upto_region 16 with (first | (refine wpList_load_row rfl 50 (.tmp 8) rfl w.heap.size rfl 50 (tbC tb) (0, 0) _ HBl3.out Try.underlying50 rfl (size50 HO.out.1) ?_) | (refine wpList_store_fresh rfl 50 (.tmp 17) (.tmp 80) rfl w3.heap.size rfl (tbC tb) rfl rfl (by rw [tbC_size HO.out.1]; rfl) (size50 HO.out.1) (tbC_one tb) ?_))
      have hal : Below w3.heap.size w3 (w3.alloc (.cells (tbC tb) 50)) := (Below.refl _ _).alloc (Nat.le_refl _) _
      have hn4 : (w3.alloc (.cells (tbC tb) 50)).heap[w3.heap.size]? = some (.cells (tbC tb) 50 (0, 0)) := heap_alloc_new _ _
      have z4 : w3.heap.size < (w3.alloc (.cells (tbC tb) 50)).heap.size := by simp
      have HN4 : Hid ((w3.alloc (.cells (tbC tb) 50)).heap[w3.heap.size]? = some (.cells (tbC tb) 50 (0, 0)) ∧ Below w3.heap.size w3 (w3.alloc (.cells (tbC tb) 50))) := ⟨hn4, hal⟩
      clear hn4 hal
      generalize w3.alloc _ = w4 at HN4 z4 ⊢
      have HBl4 : Hid (w4.heap[w.heap.size]? = some (.cells (tbC tb) 50 (0, 0))) := block_below HBl3.out HN4.out.2 q3
      have HOw4 : Hid (w4.ownsRow (w.heap.size + 1) 28 3 (.slice Ao l.length co) l.length (tscells l)) := own_below HOw3.out HN4.out.2
      have HB4 : Hid (Below w.heap.size w w4) := HB3.out.trans (HN4.out.2.mono HB3.out.size)
      have md := tb_at HN4.out.1 HO.out.1 (i := o * 4 + q) (by omega)
      generalize tb.getD (o * 4 + q) 0 = x at md
      have f0 : ∀ x, w4.frozen? ⟨w3.heap.size, x, none⟩ = false := fun _ => frozen_of_row _ _ _ _ _ HN4.out.1
      go_upto_region 17 with fail
      clear md f0
      have hb5 : Below w3.heap.size w4 (w4.setCell ⟨w3.heap.size, o * 4 + q, none⟩ (.int .i64 0)) := (Below.refl _ _).setCell (p := ⟨w3.heap.size, o * 4 + q, none⟩) (Nat.le_refl _) _
      have HN5 : Hid ((w4.setCell ⟨w3.heap.size, o * 4 + q, none⟩ (.int .i64 0)).heap[w3.heap.size]? = some (.cells (tbC (tb.set (o * 4 + q) 0)) 50 (0, 0))) := tb_set HN4.out.1 _ _
      have HBl5 : Hid ((w4.setCell ⟨w3.heap.size, o * 4 + q, none⟩ (.int .i64 0)).heap[w.heap.size]? = some (.cells (tbC tb) 50 (0, 0))) := block_below HBl4.out hb5 q3
      have HOw5 : Hid ((w4.setCell ⟨w3.heap.size, o * 4 + q, none⟩ (.int .i64 0)).ownsRow (w.heap.size + 1) 28 3 (.slice Ao l.length co) l.length (tscells l)) := by
        refine own_keep HOw4.out hb5 fun b hb => ?_
        have := (HOw3.out.lt b hb).2
        exact this
      have HB5 : Hid (Below w.heap.size w (w4.setCell ⟨w3.heap.size, o * 4 + q, none⟩ (.int .i64 0))) := HB4.out.setCell (p := ⟨w3.heap.size, o * 4 + q, none⟩) (Nat.le_of_lt q3) _
      have z5 : w3.heap.size < (w4.setCell ⟨w3.heap.size, o * 4 + q, none⟩ (.int .i64 0)).heap.size := by simpa using z4
      clear hb5
      generalize w4.setCell _ _ = w5 at HN5 HBl5 HOw5 HB5 z5 ⊢
      go_upto_region 18 with (first | (refine wpList_load_row rfl 50 (.tmp 8) rfl w.heap.size rfl 50 (tbC tb) (0, 0) _ HBl5.out Try.underlying50 rfl (size50 HO.out.1) ?_) | (refine wpList_store_fresh rfl 50 (.tmp 18) (.tmp 85) rfl w5.heap.size rfl (tbC tb) rfl rfl (by rw [tbC_size HO.out.1]; rfl) (size50 HO.out.1) (tbC_one tb) ?_))
      have hal : Below w5.heap.size w5 (w5.alloc (.cells (tbC tb) 50)) := (Below.refl _ _).alloc (Nat.le_refl _) _
      have hn6 : (w5.alloc (.cells (tbC tb) 50)).heap[w5.heap.size]? = some (.cells (tbC tb) 50 (0, 0)) := heap_alloc_new _ _
      have z6 : w5.heap.size < (w5.alloc (.cells (tbC tb) 50)).heap.size := by simp
      have HN6 : Hid ((w5.alloc (.cells (tbC tb) 50)).heap[w5.heap.size]? = some (.cells (tbC tb) 50 (0, 0)) ∧ Below w5.heap.size w5 (w5.alloc (.cells (tbC tb) 50))) := ⟨hn6, hal⟩
      clear hn6 hal
      generalize w5.alloc _ = w6 at HN6 z6 ⊢
      have m0 := tb_at HN6.out.1 HO.out.1 (i := o * 4) (by omega)
      have m1 := tb_at HN6.out.1 HO.out.1 (i := o * 4 + 1) (by omega)
      have m2 := tb_at HN6.out.1 HO.out.1 (i := o * 4 + 2) (by omega)
      have m3 := tb_at HN6.out.1 HO.out.1 (i := o * 4 + 3) (by omega)
      generalize tb.getD (o * 4) 0 = x0 at m0
      generalize tb.getD (o * 4 + 1) 0 = x1 at m1
      generalize tb.getD (o * 4 + 2) 0 = x2 at m2
      generalize tb.getD (o * 4 + 3) 0 = x3 at m3
      have f0 : ∀ x, w6.frozen? ⟨w5.heap.size, x, none⟩ = false := fun _ => frozen_of_row _ _ _ _ _ HN6.out.1
      go_upto_region 19 with fail
      clear m0 m1 m2 m3 f0
      have hb7 : Below w5.heap.size w6 ((((w6.setCell ⟨w5.heap.size, o * 4, none⟩ (.int .i64 0)).setCell ⟨w5.heap.size, o * 4 + 1, none⟩ (.int .i64 0)).setCell ⟨w5.heap.size, o * 4 + 2, none⟩ (.int .i64 0)).setCell ⟨w5.heap.size, o * 4 + 3, none⟩ (.int .i64 0)) := ((((Below.refl _ _).setCell (p := ⟨w5.heap.size, o * 4, none⟩) (Nat.le_refl _) _).setCell (p := ⟨w5.heap.size, o * 4 + 1, none⟩) (Nat.le_refl _) _).setCell (p := ⟨w5.heap.size, o * 4 + 2, none⟩) (Nat.le_refl _) _).setCell (p := ⟨w5.heap.size, o * 4 + 3, none⟩) (Nat.le_refl _) _
      have hn7 : ((((w6.setCell ⟨w5.heap.size, o * 4, none⟩ (.int .i64 0)).setCell ⟨w5.heap.size, o * 4 + 1, none⟩ (.int .i64 0)).setCell ⟨w5.heap.size, o * 4 + 2, none⟩ (.int .i64 0)).setCell ⟨w5.heap.size, o * 4 + 3, none⟩ (.int .i64 0)).heap[w5.heap.size]? = some (.cells (tbC (wipe tb o)) 50 (0, 0)) := tb_set (tb_set (tb_set (tb_set HN6.out.1 _ _) _ _) _ _) _ _
      have HN7 : Hid (((((w6.setCell ⟨w5.heap.size, o * 4, none⟩ (.int .i64 0)).setCell ⟨w5.heap.size, o * 4 + 1, none⟩ (.int .i64 0)).setCell ⟨w5.heap.size, o * 4 + 2, none⟩ (.int .i64 0)).setCell ⟨w5.heap.size, o * 4 + 3, none⟩ (.int .i64 0)).heap[w5.heap.size]? = some (.cells (tbC (wipe tb o)) 50 (0, 0)) ∧ Below w5.heap.size w5 ((((w6.setCell ⟨w5.heap.size, o * 4, none⟩ (.int .i64 0)).setCell ⟨w5.heap.size, o * 4 + 1, none⟩ (.int .i64 0)).setCell ⟨w5.heap.size, o * 4 + 2, none⟩ (.int .i64 0)).setCell ⟨w5.heap.size, o * 4 + 3, none⟩ (.int .i64 0))) := ⟨hn7, HN6.out.2.trans hb7⟩
      have z7 : w5.heap.size < ((((w6.setCell ⟨w5.heap.size, o * 4, none⟩ (.int .i64 0)).setCell ⟨w5.heap.size, o * 4 + 1, none⟩ (.int .i64 0)).setCell ⟨w5.heap.size, o * 4 + 2, none⟩ (.int .i64 0)).setCell ⟨w5.heap.size, o * 4 + 3, none⟩ (.int .i64 0)).heap.size := by simpa using z6
      clear hb7 hn7
      generalize (((w6.setCell ⟨w5.heap.size, o * 4, none⟩ (.int .i64 0)).setCell ⟨w5.heap.size, o * 4 + 1, none⟩ (.int .i64 0)).setCell ⟨w5.heap.size, o * 4 + 2, none⟩ (.int .i64 0)).setCell ⟨w5.heap.size, o * 4 + 3, none⟩ (.int .i64 0) = w7 at HN7 z7 ⊢
      have HBl7 : Hid (w7.heap[w.heap.size]? = some (.cells (tbC tb) 50 (0, 0))) := block_below HBl5.out HN7.out.2 (Nat.lt_trans q3 z5)
      have HC7 : Hid (w7.heap[w3.heap.size]? = some (.cells (tbC (tb.set (o * 4 + q) 0)) 50 (0, 0))) := block_below HN5.out HN7.out.2 z5
      have HOw7 : Hid (w7.ownsRow (w.heap.size + 1) 28 3 (.slice Ao l.length co) l.length (tscells l)) := own_below HOw5.out HN7.out.2
      have HB7 : Hid (Below w.heap.size w w7) := HB5.out.trans (HN7.out.2.mono HB5.out.size)
      go_wp2_with fail
      go_loop [19, 20] (fun m i => ∃ r : Nat, r ≤ 4 ∧ i = .int .i64 r ∧ m = .int .i64 (cntO tb o r)) (fun _ i => 4 - (intOf i).toNat)
      case atStart => exact ⟨0, by omega, rfl, rfl⟩
      case round =>
        obtain ⟨r, hr, rfl, rfl⟩ := hrel
        by_cases hr4 : r < 4
        · have hri : (r : Int) < 4 := by omega
          have md := tb_at HBl7.out HO.out.1 (i := o * 4 + r) (by omega)
          have hle : cntO tb o r ≤ r := by
            have := List.length_filter_le (fun i => decide (0 < tb.getD (o * 4 + i) 0)) (List.range r)
            simpa [cntO] using this
          have HS : Hid (cntO tb o (r + 1) = cntO tb o r + if 0 < tb.getD (o * 4 + r) 0 then 1 else 0) := cntO_succ tb o r
          generalize tb.getD (o * 4 + r) 0 = x at md HS
          generalize cntO tb o r = y at hle HS ⊢
          by_cases h0 : 0 < x
          · have d0 : decide (0 < x) = true := by simpa using h0
            go_wp2_with fail
            go_round
            case rel => exact ⟨r + 1, by omega, by go_num, by rw [HS.out, if_pos h0]; go_num⟩
            case measure => simp [intOf]; omega
          · have d0 : decide (0 < x) = false := by simpa using h0
            have HS2 : Hid (cntO tb o (r + 1) = y) := by show cntO tb o (r + 1) = y; rw [HS.out, if_neg h0, Nat.add_zero]
            clear h0 HS
            go_wp2_with fail
            go_round
            case rel => exact ⟨r + 1, by omega, by go_num, by rw [HS2.out]⟩
            case measure => simp [intOf]; omega
        · have hri : ¬ (r : Int) < 4 := by omega
          have hr4' : r = 4 := by omega
          subst hr4'
          have hcn : countT o l = (cntO tb o 4 : Int) := HA.out.count HO.out o4
          rw [← hcn]
          clear hcn
          have q7a : w3.heap.size < w7.heap.size := Nat.lt_trans (by exact z5) z7
          have hl100 : l.length ≤ 100000 := by omega
          go_wp2_with fail
          have ok1 : OkTb (tb.set (o * 4 + q) 0) := HO.out.set _ (by omega) (by omega)
          have ok2 : OkTb (wipe tb o) := HO.out.wipe o
          have HC1 : Hid (OkTb (tb.set (o * 4 + q) 0) ∧ AgP (cancelT o q l) (tb.set (o * 4 + q) 0)) := ⟨ok1, HA.out.cancel HO.out o4 q4⟩
          have HC2 : Hid (OkTb (wipe tb o) ∧ AgP (cancelAllT o l) (wipe tb o)) := ⟨ok2, HA.out.cancelAll HO.out o4⟩
          obtain ⟨x0, x1, x2, x3, x4, x5, x6, x7, x8, x9, x10, x11, x12, x13, x14, x15, hx⟩ := list16 _ ok1.1
          obtain ⟨y0, y1, y2, y3, y4, y5, y6, y7, y8, y9, y10, y11, y12, y13, y14, y15, hy⟩ := list16 _ ok2.1
          have HK7 : Hid (∀ w', Below w7.heap.size w7 w' → (w'.cell? ⟨w3.heap.size, 0, none⟩ = some (.int .i64 x0) ∧ w'.cell? ⟨w3.heap.size, 1, none⟩ = some (.int .i64 x1) ∧ w'.cell? ⟨w3.heap.size, 2, none⟩ = some (.int .i64 x2) ∧ w'.cell? ⟨w3.heap.size, 3, none⟩ = some (.int .i64 x3) ∧ w'.cell? ⟨w3.heap.size, 4, none⟩ = some (.int .i64 x4) ∧ w'.cell? ⟨w3.heap.size, 5, none⟩ = some (.int .i64 x5) ∧ w'.cell? ⟨w3.heap.size, 6, none⟩ = some (.int .i64 x6) ∧ w'.cell? ⟨w3.heap.size, 7, none⟩ = some (.int .i64 x7) ∧ w'.cell? ⟨w3.heap.size, 8, none⟩ = some (.int .i64 x8) ∧ w'.cell? ⟨w3.heap.size, 9, none⟩ = some (.int .i64 x9) ∧ w'.cell? ⟨w3.heap.size, 10, none⟩ = some (.int .i64 x10) ∧ w'.cell? ⟨w3.heap.size, 11, none⟩ = some (.int .i64 x11) ∧ w'.cell? ⟨w3.heap.size, 12, none⟩ = some (.int .i64 x12) ∧ w'.cell? ⟨w3.heap.size, 13, none⟩ = some (.int .i64 x13) ∧ w'.cell? ⟨w3.heap.size, 14, none⟩ = some (.int .i64 x14) ∧ w'.cell? ⟨w3.heap.size, 15, none⟩ = some (.int .i64 x15)) ∧ w'.cell? ⟨w5.heap.size, 0, none⟩ = some (.int .i64 y0) ∧ w'.cell? ⟨w5.heap.size, 1, none⟩ = some (.int .i64 y1) ∧ w'.cell? ⟨w5.heap.size, 2, none⟩ = some (.int .i64 y2) ∧ w'.cell? ⟨w5.heap.size, 3, none⟩ = some (.int .i64 y3) ∧ w'.cell? ⟨w5.heap.size, 4, none⟩ = some (.int .i64 y4) ∧ w'.cell? ⟨w5.heap.size, 5, none⟩ = some (.int .i64 y5) ∧ w'.cell? ⟨w5.heap.size, 6, none⟩ = some (.int .i64 y6) ∧ w'.cell? ⟨w5.heap.size, 7, none⟩ = some (.int .i64 y7) ∧ w'.cell? ⟨w5.heap.size, 8, none⟩ = some (.int .i64 y8) ∧ w'.cell? ⟨w5.heap.size, 9, none⟩ = some (.int .i64 y9) ∧ w'.cell? ⟨w5.heap.size, 10, none⟩ = some (.int .i64 y10) ∧ w'.cell? ⟨w5.heap.size, 11, none⟩ = some (.int .i64 y11) ∧ w'.cell? ⟨w5.heap.size, 12, none⟩ = some (.int .i64 y12) ∧ w'.cell? ⟨w5.heap.size, 13, none⟩ = some (.int .i64 y13) ∧ w'.cell? ⟨w5.heap.size, 14, none⟩ = some (.int .i64 y14) ∧ w'.cell? ⟨w5.heap.size, 15, none⟩ = some (.int .i64 y15)) := fun w' hb => by
            have h1 : ∀ i, i < 16 → w'.cell? ⟨w3.heap.size, i, none⟩ = some (.int .i64 ((tb.set (o * 4 + q) 0).getD i 0)) := fun i hi => tb_at (block_below HC7.out hb q7a) HC1.out.1.1 hi
            have h2 : ∀ i, i < 16 → w'.cell? ⟨w5.heap.size, i, none⟩ = some (.int .i64 ((wipe tb o).getD i 0)) := fun i hi => tb_at (block_below HN7.out.1 hb z7) HC2.out.1.1 hi
            rw [hx] at h1
            rw [hy] at h2
            exact ⟨⟨h1 0 (by omega), h1 1 (by omega), h1 2 (by omega), h1 3 (by omega), h1 4 (by omega), h1 5 (by omega), h1 6 (by omega), h1 7 (by omega), h1 8 (by omega), h1 9 (by omega), h1 10 (by omega), h1 11 (by omega), h1 12 (by omega), h1 13 (by omega), h1 14 (by omega), h1 15 (by omega)⟩, h2 0 (by omega), h2 1 (by omega), h2 2 (by omega), h2 3 (by omega), h2 4 (by omega), h2 5 (by omega), h2 6 (by omega), h2 7 (by omega), h2 8 (by omega), h2 9 (by omega), h2 10 (by omega), h2 11 (by omega), h2 12 (by omega), h2 13 (by omega), h2 14 (by omega), h2 15 (by omega)⟩
          have hkeep0 := HK7.out w7.drew (below_drewN (Below.refl _ _) 1)
          have HX1 : Hid (tb.set (o * 4 + q) 0 = [x0, x1, x2, x3, x4, x5, x6, x7, x8, x9, x10, x11, x12, x13, x14, x15]) := hx
          have HX2 : Hid (wipe tb o = [y0, y1, y2, y3, y4, y5, y6, y7, y8, y9, y10, y11, y12, y13, y14, y15]) := hy
          have tok1 : True := trivial
          have HR7 : Hid (∀ w', Below w7.heap.size w7 w' → TRd w' w7.heap.size Ao l) := fun w' hb => Rd.below (Rd.of_own HOw7.out) hb
          have HD7 : Hid (Below w7.heap.size w7 w7.drew) := below_drewN (Below.refl _ _) 1
          clear hx hy ok1 ok2
          go_region_held3 (fun w' => (w'.cell? ⟨w3.heap.size, 0, none⟩ = some (.int .i64 x0) ∧ w'.cell? ⟨w3.heap.size, 1, none⟩ = some (.int .i64 x1) ∧ w'.cell? ⟨w3.heap.size, 2, none⟩ = some (.int .i64 x2) ∧ w'.cell? ⟨w3.heap.size, 3, none⟩ = some (.int .i64 x3) ∧ w'.cell? ⟨w3.heap.size, 4, none⟩ = some (.int .i64 x4) ∧ w'.cell? ⟨w3.heap.size, 5, none⟩ = some (.int .i64 x5) ∧ w'.cell? ⟨w3.heap.size, 6, none⟩ = some (.int .i64 x6) ∧ w'.cell? ⟨w3.heap.size, 7, none⟩ = some (.int .i64 x7) ∧ w'.cell? ⟨w3.heap.size, 8, none⟩ = some (.int .i64 x8) ∧ w'.cell? ⟨w3.heap.size, 9, none⟩ = some (.int .i64 x9) ∧ w'.cell? ⟨w3.heap.size, 10, none⟩ = some (.int .i64 x10) ∧ w'.cell? ⟨w3.heap.size, 11, none⟩ = some (.int .i64 x11) ∧ w'.cell? ⟨w3.heap.size, 12, none⟩ = some (.int .i64 x12) ∧ w'.cell? ⟨w3.heap.size, 13, none⟩ = some (.int .i64 x13) ∧ w'.cell? ⟨w3.heap.size, 14, none⟩ = some (.int .i64 x14) ∧ w'.cell? ⟨w3.heap.size, 15, none⟩ = some (.int .i64 x15)) ∧ w'.cell? ⟨w5.heap.size, 0, none⟩ = some (.int .i64 y0) ∧ w'.cell? ⟨w5.heap.size, 1, none⟩ = some (.int .i64 y1) ∧ w'.cell? ⟨w5.heap.size, 2, none⟩ = some (.int .i64 y2) ∧ w'.cell? ⟨w5.heap.size, 3, none⟩ = some (.int .i64 y3) ∧ w'.cell? ⟨w5.heap.size, 4, none⟩ = some (.int .i64 y4) ∧ w'.cell? ⟨w5.heap.size, 5, none⟩ = some (.int .i64 y5) ∧ w'.cell? ⟨w5.heap.size, 6, none⟩ = some (.int .i64 y6) ∧ w'.cell? ⟨w5.heap.size, 7, none⟩ = some (.int .i64 y7) ∧ w'.cell? ⟨w5.heap.size, 8, none⟩ = some (.int .i64 y8) ∧ w'.cell? ⟨w5.heap.size, 9, none⟩ = some (.int .i64 y9) ∧ w'.cell? ⟨w5.heap.size, 10, none⟩ = some (.int .i64 y10) ∧ w'.cell? ⟨w5.heap.size, 11, none⟩ = some (.int .i64 y11) ∧ w'.cell? ⟨w5.heap.size, 12, none⟩ = some (.int .i64 y12) ∧ w'.cell? ⟨w5.heap.size, 13, none⟩ = some (.int .i64 y13) ∧ w'.cell? ⟨w5.heap.size, 14, none⟩ = some (.int .i64 y14) ∧ w'.cell? ⟨w5.heap.size, 15, none⟩ = some (.int .i64 y15))
            (first | exact hkeep6 | exact hkeep5 | exact hkeep4 | exact hkeep3 | exact hkeep2 | exact hkeep1 | exact hkeep0)
            ((first
              | (go_at_call 26
                 refine (cancel_any (B := w7.heap.size) Ao co l o q _ HD7.out.size (HR7.out _ HD7.out) hl100).mono ?_
                 rintro e wa ⟨va, rfl, howna, hba⟩
                 obtain ⟨Aa, ca, rfl, -⟩ := own_slice howna
                 have HXa : Hid (Below w7.heap.size w7 wa) := HD7.out.trans (hba.mono HD7.out.size)
                 have HYa : Hid (TRd wa wa.heap.size Aa (cancelT o q l)) := Rd.of_own howna
                 have hkeep1 := HK7.out wa HXa.out
                 clear howna hba)
              | (go_at_call 32
                 have _t := tok1
                 refine (agrees_cs (B := wa.heap.size) Aa ca (cancelT o q l) _ rfl _ HX1.out _ (Nat.le_refl _) HYa.out HC1.out.2 HC1.out.1).mono ?_
                 rintro e wb ⟨rfl, hbb⟩
                 have HXb : Hid (Below w7.heap.size w7 wb) := HXa.out.trans (hbb.mono HXa.out.size)
                 have hkeep2 := HK7.out wb HXb.out
                 clear tok1 hbb)
              | (go_at_call 27
                 refine (cancelall_any (B := w7.heap.size) Ao co l o _ HXb.out.size (HR7.out _ HXb.out) hl100).mono ?_
                 rintro e wc ⟨vc, rfl, hownc, hbc⟩
                 obtain ⟨Ac, cc, rfl, -⟩ := own_slice hownc
                 have HXc : Hid (Below w7.heap.size w7 wc) := HXb.out.trans (hbc.mono HXb.out.size)
                 have HYc : Hid (TRd wc wc.heap.size Ac (cancelAllT o l)) := Rd.of_own hownc
                 have hkeep3 := HK7.out wc HXc.out
                 clear hownc hbc)
              | (go_at_call 32
                 refine (agrees_cs (B := wc.heap.size) Ac cc (cancelAllT o l) _ rfl _ HX2.out _ (Nat.le_refl _) HYc.out HC2.out.2 HC2.out.1).mono ?_
                 rintro e wd ⟨rfl, hbd⟩
                 have HXd : Hid (Below w7.heap.size w7 wd) := HXc.out.trans (hbd.mono HXc.out.size)
                 have hkeep4 := HK7.out wd HXd.out
                 clear hbd)
              | (go_at_call 30
                 refine (count_any (B := w7.heap.size) Ao co l o _ HXd.out.size (HR7.out _ HXd.out) hl100).mono ?_
                 rintro e we ⟨rfl, hbe⟩
                 have HXe : Hid (Below w7.heap.size w7 we) := HXd.out.trans (hbe.mono HXd.out.size)
                 have hkeep5 := HK7.out we HXe.out
                 clear hbe)
              | (go_at_call 12
                 refine (works_any _).mono ?_
                 rintro e wf ⟨rfl, hbf⟩
                 have HXf : Hid (Below w7.heap.size w7 wf) := HXe.out.trans (hbf.mono HXe.out.size)
                 have hkeep6 := HK7.out wf HXf.out
                 clear hbf)))
          go_wp2_with fail
          go_ret
          exact ⟨rfl, HB7.out.trans (HXf.out.mono HB7.out.size)⟩

set_option maxRecDepth 100000 in
set_option maxHeartbeats 4000000 in
theorem once_long (A : Option Addr) (c : Nat) (ps : List (Int × Int)) (ow kd : Int) (w : World) (hc : ps.length ≤ 9223372036854775807) (hN : 200 < ps.length) (hp : ∀ p ∈ ps, (0 ≤ p.1 ∧ p.1 ≤ 255) ∧ (0 ≤ p.2 ∧ p.2 ≤ 255)) (how : 0 ≤ ow ∧ ow ≤ 255) (hkd : 0 ≤ kd ∧ kd ≤ 255) (h : Rd w w.heap.size A (ps.flatMap pcells)) :
    Calls Try.prog 8 #[.slice A ps.length c, .int .u8 ow, .int .u8 kd] w fun e w' => e = .returned (.bool true) ∧ Below w.heap.size w w' := by
  have HP : Hid (∀ p ∈ ps, (0 ≤ p.1 ∧ p.1 ≤ 255) ∧ (0 ≤ p.2 ∧ p.2 ≤ 255)) := hp
  have HR : Hid (Rd w w.heap.size A (ps.flatMap pcells)) := h
  clear hp h
  obtain ⟨ho1, ho2⟩ := how
  obtain ⟨hk1, hk2⟩ := hkd
  go_enter Try.func8, Try.ntmps8
  go_wp2_with fail
  have hblk : (w.alloc (.cells (tbC (List.replicate 16 0)) 50)).heap[w.heap.size]? = some (.cells (tbC (List.replicate 16 0)) 50 (0, 0)) := heap_alloc_new _ _
  have hb1 : Below w.heap.size w (w.alloc (.cells (tbC (List.replicate 16 0)) 50)) := (Below.refl _ _).alloc (Nat.le_refl _) _
  have q0 : w.heap.size < (w.alloc (.cells (tbC (List.replicate 16 0)) 50)).heap.size := by simp
  have HK : Hid ((w.alloc (.cells (tbC (List.replicate 16 0)) 50)).heap[w.heap.size]? = some (.cells (tbC (List.replicate 16 0)) 50 (0, 0)) ∧ Below w.heap.size w (w.alloc (.cells (tbC (List.replicate 16 0)) 50)) ∧ w.heap.size < (w.alloc (.cells (tbC (List.replicate 16 0)) 50)).heap.size) := ⟨hblk, hb1, q0⟩
  clear hblk hb1 q0
  simp only [tbC, List.replicate, List.map] at HK
  generalize w.alloc _ = w1 at HK ⊢
  go_loopw [7, 9] (fun v i wr => ∃ (k : Nat) (l : List Tm) (tb : List Int), k ≤ ps.length ∧ k ≤ 200 ∧ i = .int .i64 k ∧ wr.ownsRow (w.heap.size + 1) 28 3 v l.length (tscells l) ∧ AgP l tb ∧ OkTb tb ∧ wr.heap[w.heap.size]? = some (.cells (tbC tb) 50 (0, 0)) ∧ Below w.heap.size w wr) (fun _ i _ => 200 - (intOf i).toNat)
  case atStart => exact ⟨0, [], _, by omega, by omega, rfl, World.ownsRow_nil _ _ _ _, once_zero.1, once_zero.2, HK.out.1, HK.out.2.1⟩
  case round =>
    obtain ⟨k, l, tb, hk, hk200, rfl, hown, hag, hok, hblk, hb⟩ := hrel
    have HA : Hid (AgP l tb) := hag
    have HO : Hid (OkTb tb) := hok
    have HBl : Hid (wr.heap[w.heap.size]? = some (.cells (tbC tb) 50 (0, 0))) := hblk
    have HB : Hid (Below w.heap.size w wr) := hb
    obtain ⟨Ao, co, rfl, hco⟩ := own_slice hown
    have HOw : Hid (wr.ownsRow (w.heap.size + 1) 28 3 (.slice Ao l.length co) l.length (tscells l)) := hown
    have hl16 : l.length ≤ 16 := by have := cntP_le tb 16; have := hag.len; omega
    have q0 : w.heap.size < wr.heap.size := (Array.getElem?_eq_some_iff.1 hblk).1
    clear hown hag hok hblk hb hco
    by_cases h200 : k < 200
    · have hki2 : (k : Int) < 200 := by omega
      have hlt : k < ps.length := by omega
      have hki : (k : Int) < (ps.length : Int) := by omega
      obtain ⟨b, off, p, rfl, hbB, hje, c0, c1⟩ := pair_at (HR.out.below HB.out) hlt
      obtain ⟨⟨p0, p1⟩, p2, p3⟩ := HP.out p (List.mem_of_getElem? hje)
      clear hje
      go_wp2_with fail
      go_quiet (fail)
      go_wp2_with fail
      obtain ⟨o, ho⟩ : ∃ o : Nat, (o : Int) = p.1 / 4 % 4 := ⟨(p.1 / 4 % 4).toNat, by omega⟩
      obtain ⟨q, hq⟩ : ∃ q : Nat, (q : Int) = p.1 % 4 := ⟨(p.1 % 4).toNat, by omega⟩
      rw [← ho, ← hq]
      have o4 : o < 4 := by omega
      have q4 : q < 4 := by omega
      have hoi : (o : Int) < 4 := by omega
      have hqi : (q : Int) < 4 := by omega
      clear ho hq p0 p1 c0 c1
      obtain ⟨l', hres, hag'⟩ := HA.out.restart HO.out o4 q4 p2 p3
      refine (restart_any (B := wr.heap.size) Ao co l (p.2, (o : Int), (q : Int)) _ (show wr.heap.size ≤ (World.drewN wr _).heap.size from Nat.le_refl _) ((Rd.of_own HOw.out).drewN _) (by simp only [maxLen]; omega)).mono ?_
      rw [hres]
      rintro e w2 ⟨v2, rfl, hown2, hb2⟩
      have hbr : Below wr.heap.size wr w2 := (below_drewN (Below.refl _ _) _).trans hb2
      have HB2 : Hid (Below w.heap.size w w2) := HB.out.trans (hbr.mono HB.out.size)
      have hblk2 := block_below HBl.out hbr q0
      have md := tb_at hblk2 HO.out.1 (i := o * 4 + q) (by omega)
      have f0 : ∀ x, w2.frozen? ⟨w.heap.size, x, none⟩ = false := fun _ => frozen_of_row _ _ _ _ _ hblk2
      have q2 : w.heap.size < w2.heap.size := by have := hbr.size; omega
      have HOw2 : Hid (w2.ownsRow (w.heap.size + 1) 28 3 v2 l'.length (tscells l')) := own_base hown2 (by simp; omega)
      have HA2 : Hid (AgP l' (tb.set (o * 4 + q) (1 + p.2))) := hag'
      have HO2 : Hid (OkTb (tb.set (o * 4 + q) (1 + p.2))) := HO.out.set _ (by omega) (by omega)
      have HBl2 : Hid (w2.heap[w.heap.size]? = some (.cells (tbC tb) 50 (0, 0))) := hblk2
      generalize tb.getD (o * 4 + q) 0 = x at md
      clear hres hag' hown2 hb2 hbr hblk2
      go_wp2_with fail
      go_roundw
      case rel =>
        refine ⟨k + 1, l', tb.set (o * 4 + q) (1 + p.2), by omega, by omega, by go_num, ?_, HA2.out, HO2.out, tb_set HBl2.out _ _, HB2.out.setCell (Nat.le_refl _) _⟩
        exact own_other HOw2.out fun b hb => Below.heap_setCell w2 ⟨w.heap.size, o * 4 + q, none⟩ _ b (by simp; omega)
      case measure => simp [intOf]; omega
    · have hki2 : ¬ (k : Int) < 200 := by omega
      have hki : (k : Int) < (ps.length : Int) := by omega
      go_wp2_with (refine wpList_load_row rfl 50 (.tmp 8) rfl w.heap.size rfl 50 (tbC tb) (0, 0) _ HBl.out Try.underlying50 rfl (size50 HO.out.1) ?_)
      refine (agrees_any (B := wr.heap.size) Ao co l l.length rfl tb _ (Nat.le_refl _) (Rd.of_own HOw.out) HA.out HO.out).mono ?_
      rintro e w3 ⟨rfl, hb3⟩
      obtain ⟨o, ho⟩ : ∃ o : Nat, (o : Int) = ow % 4 := ⟨(ow % 4).toNat, by omega⟩
      obtain ⟨q, hq⟩ : ∃ q : Nat, (q : Int) = kd % 4 := ⟨(kd % 4).toNat, by omega⟩
      rw [← ho, ← hq]
      have o4 : o < 4 := by omega
      have q4 : q < 4 := by omega
      have hoi : (o : Int) < 4 := by omega
      have hqi : (q : Int) < 4 := by omega
      clear ho hq
      have HBl3 : Hid (w3.heap[w.heap.size]? = some (.cells (tbC tb) 50 (0, 0))) := block_below HBl.out hb3 q0
      have HOw3 : Hid (w3.ownsRow (w.heap.size + 1) 28 3 (.slice Ao l.length co) l.length (tscells l)) := own_below HOw.out hb3
      have HB3 : Hid (Below w.heap.size w w3) := HB.out.trans (hb3.mono HB.out.size)
      have q3 : w.heap.size < w3.heap.size := by have := hb3.size; omega
      clear hb3
      go_upto_region 16 with (first | (refine wpList_load_row rfl 50 (.tmp 8) rfl w.heap.size rfl 50 (tbC tb) (0, 0) _ HBl3.out Try.underlying50 rfl (size50 HO.out.1) ?_) | (refine wpList_store_fresh rfl 50 (.tmp 17) (.tmp 80) rfl w3.heap.size rfl (tbC tb) rfl rfl (by rw [tbC_size HO.out.1]; rfl) (size50 HO.out.1) (tbC_one tb) ?_))
      have hal : Below w3.heap.size w3 (w3.alloc (.cells (tbC tb) 50)) := (Below.refl _ _).alloc (Nat.le_refl _) _
      have hn4 : (w3.alloc (.cells (tbC tb) 50)).heap[w3.heap.size]? = some (.cells (tbC tb) 50 (0, 0)) := heap_alloc_new _ _
      have z4 : w3.heap.size < (w3.alloc (.cells (tbC tb) 50)).heap.size := by simp
      have HN4 : Hid ((w3.alloc (.cells (tbC tb) 50)).heap[w3.heap.size]? = some (.cells (tbC tb) 50 (0, 0)) ∧ Below w3.heap.size w3 (w3.alloc (.cells (tbC tb) 50))) := ⟨hn4, hal⟩
      clear hn4 hal
      generalize w3.alloc _ = w4 at HN4 z4 ⊢
      have HBl4 : Hid (w4.heap[w.heap.size]? = some (.cells (tbC tb) 50 (0, 0))) := block_below HBl3.out HN4.out.2 q3
      have HOw4 : Hid (w4.ownsRow (w.heap.size + 1) 28 3 (.slice Ao l.length co) l.length (tscells l)) := own_below HOw3.out HN4.out.2
      have HB4 : Hid (Below w.heap.size w w4) := HB3.out.trans (HN4.out.2.mono HB3.out.size)
      have md := tb_at HN4.out.1 HO.out.1 (i := o * 4 + q) (by omega)
      generalize tb.getD (o * 4 + q) 0 = x at md
      have f0 : ∀ x, w4.frozen? ⟨w3.heap.size, x, none⟩ = false := fun _ => frozen_of_row _ _ _ _ _ HN4.out.1
      go_upto_region 17 with fail
      clear md f0
      have hb5 : Below w3.heap.size w4 (w4.setCell ⟨w3.heap.size, o * 4 + q, none⟩ (.int .i64 0)) := (Below.refl _ _).setCell (p := ⟨w3.heap.size, o * 4 + q, none⟩) (Nat.le_refl _) _
      have HN5 : Hid ((w4.setCell ⟨w3.heap.size, o * 4 + q, none⟩ (.int .i64 0)).heap[w3.heap.size]? = some (.cells (tbC (tb.set (o * 4 + q) 0)) 50 (0, 0))) := tb_set HN4.out.1 _ _
      have HBl5 : Hid ((w4.setCell ⟨w3.heap.size, o * 4 + q, none⟩ (.int .i64 0)).heap[w.heap.size]? = some (.cells (tbC tb) 50 (0, 0))) := block_below HBl4.out hb5 q3
      have HOw5 : Hid ((w4.setCell ⟨w3.heap.size, o * 4 + q, none⟩ (.int .i64 0)).ownsRow (w.heap.size + 1) 28 3 (.slice Ao l.length co) l.length (tscells l)) := by
        refine own_keep HOw4.out hb5 fun b hb => ?_
        have := (HOw3.out.lt b hb).2
        exact this
      have HB5 : Hid (Below w.heap.size w (w4.setCell ⟨w3.heap.size, o * 4 + q, none⟩ (.int .i64 0))) := HB4.out.setCell (p := ⟨w3.heap.size, o * 4 + q, none⟩) (Nat.le_of_lt q3) _
      have z5 : w3.heap.size < (w4.setCell ⟨w3.heap.size, o * 4 + q, none⟩ (.int .i64 0)).heap.size := by simpa using z4
      clear hb5
      generalize w4.setCell _ _ = w5 at HN5 HBl5 HOw5 HB5 z5 ⊢
      go_upto_region 18 with (first | (refine wpList_load_row rfl 50 (.tmp 8) rfl w.heap.size rfl 50 (tbC tb) (0, 0) _ HBl5.out Try.underlying50 rfl (size50 HO.out.1) ?_) | (refine wpList_store_fresh rfl 50 (.tmp 18) (.tmp 85) rfl w5.heap.size rfl (tbC tb) rfl rfl (by rw [tbC_size HO.out.1]; rfl) (size50 HO.out.1) (tbC_one tb) ?_))
      have hal : Below w5.heap.size w5 (w5.alloc (.cells (tbC tb) 50)) := (Below.refl _ _).alloc (Nat.le_refl _) _
      have hn6 : (w5.alloc (.cells (tbC tb) 50)).heap[w5.heap.size]? = some (.cells (tbC tb) 50 (0, 0)) := heap_alloc_new _ _
      have z6 : w5.heap.size < (w5.alloc (.cells (tbC tb) 50)).heap.size := by simp
      have HN6 : Hid ((w5.alloc (.cells (tbC tb) 50)).heap[w5.heap.size]? = some (.cells (tbC tb) 50 (0, 0)) ∧ Below w5.heap.size w5 (w5.alloc (.cells (tbC tb) 50))) := ⟨hn6, hal⟩
      clear hn6 hal
      generalize w5.alloc _ = w6 at HN6 z6 ⊢
      have m0 := tb_at HN6.out.1 HO.out.1 (i := o * 4) (by omega)
      have m1 := tb_at HN6.out.1 HO.out.1 (i := o * 4 + 1) (by omega)
      have m2 := tb_at HN6.out.1 HO.out.1 (i := o * 4 + 2) (by omega)
      have m3 := tb_at HN6.out.1 HO.out.1 (i := o * 4 + 3) (by omega)
      generalize tb.getD (o * 4) 0 = x0 at m0
      generalize tb.getD (o * 4 + 1) 0 = x1 at m1
      generalize tb.getD (o * 4 + 2) 0 = x2 at m2
      generalize tb.getD (o * 4 + 3) 0 = x3 at m3
      have f0 : ∀ x, w6.frozen? ⟨w5.heap.size, x, none⟩ = false := fun _ => frozen_of_row _ _ _ _ _ HN6.out.1
      go_upto_region 19 with fail
      clear m0 m1 m2 m3 f0
      have hb7 : Below w5.heap.size w6 ((((w6.setCell ⟨w5.heap.size, o * 4, none⟩ (.int .i64 0)).setCell ⟨w5.heap.size, o * 4 + 1, none⟩ (.int .i64 0)).setCell ⟨w5.heap.size, o * 4 + 2, none⟩ (.int .i64 0)).setCell ⟨w5.heap.size, o * 4 + 3, none⟩ (.int .i64 0)) := ((((Below.refl _ _).setCell (p := ⟨w5.heap.size, o * 4, none⟩) (Nat.le_refl _) _).setCell (p := ⟨w5.heap.size, o * 4 + 1, none⟩) (Nat.le_refl _) _).setCell (p := ⟨w5.heap.size, o * 4 + 2, none⟩) (Nat.le_refl _) _).setCell (p := ⟨w5.heap.size, o * 4 + 3, none⟩) (Nat.le_refl _) _
      have hn7 : ((((w6.setCell ⟨w5.heap.size, o * 4, none⟩ (.int .i64 0)).setCell ⟨w5.heap.size, o * 4 + 1, none⟩ (.int .i64 0)).setCell ⟨w5.heap.size, o * 4 + 2, none⟩ (.int .i64 0)).setCell ⟨w5.heap.size, o * 4 + 3, none⟩ (.int .i64 0)).heap[w5.heap.size]? = some (.cells (tbC (wipe tb o)) 50 (0, 0)) := tb_set (tb_set (tb_set (tb_set HN6.out.1 _ _) _ _) _ _) _ _
      have HN7 : Hid (((((w6.setCell ⟨w5.heap.size, o * 4, none⟩ (.int .i64 0)).setCell ⟨w5.heap.size, o * 4 + 1, none⟩ (.int .i64 0)).setCell ⟨w5.heap.size, o * 4 + 2, none⟩ (.int .i64 0)).setCell ⟨w5.heap.size, o * 4 + 3, none⟩ (.int .i64 0)).heap[w5.heap.size]? = some (.cells (tbC (wipe tb o)) 50 (0, 0)) ∧ Below w5.heap.size w5 ((((w6.setCell ⟨w5.heap.size, o * 4, none⟩ (.int .i64 0)).setCell ⟨w5.heap.size, o * 4 + 1, none⟩ (.int .i64 0)).setCell ⟨w5.heap.size, o * 4 + 2, none⟩ (.int .i64 0)).setCell ⟨w5.heap.size, o * 4 + 3, none⟩ (.int .i64 0))) := ⟨hn7, HN6.out.2.trans hb7⟩
      have z7 : w5.heap.size < ((((w6.setCell ⟨w5.heap.size, o * 4, none⟩ (.int .i64 0)).setCell ⟨w5.heap.size, o * 4 + 1, none⟩ (.int .i64 0)).setCell ⟨w5.heap.size, o * 4 + 2, none⟩ (.int .i64 0)).setCell ⟨w5.heap.size, o * 4 + 3, none⟩ (.int .i64 0)).heap.size := by simpa using z6
      clear hb7 hn7
      generalize (((w6.setCell ⟨w5.heap.size, o * 4, none⟩ (.int .i64 0)).setCell ⟨w5.heap.size, o * 4 + 1, none⟩ (.int .i64 0)).setCell ⟨w5.heap.size, o * 4 + 2, none⟩ (.int .i64 0)).setCell ⟨w5.heap.size, o * 4 + 3, none⟩ (.int .i64 0) = w7 at HN7 z7 ⊢
      have HBl7 : Hid (w7.heap[w.heap.size]? = some (.cells (tbC tb) 50 (0, 0))) := block_below HBl5.out HN7.out.2 (Nat.lt_trans q3 z5)
      have HC7 : Hid (w7.heap[w3.heap.size]? = some (.cells (tbC (tb.set (o * 4 + q) 0)) 50 (0, 0))) := block_below HN5.out HN7.out.2 z5
      have HOw7 : Hid (w7.ownsRow (w.heap.size + 1) 28 3 (.slice Ao l.length co) l.length (tscells l)) := own_below HOw5.out HN7.out.2
      have HB7 : Hid (Below w.heap.size w w7) := HB5.out.trans (HN7.out.2.mono HB5.out.size)
      go_wp2_with fail
      go_loop [19, 20] (fun m i => ∃ r : Nat, r ≤ 4 ∧ i = .int .i64 r ∧ m = .int .i64 (cntO tb o r)) (fun _ i => 4 - (intOf i).toNat)
      case atStart => exact ⟨0, by omega, rfl, rfl⟩
      case round =>
        obtain ⟨r, hr, rfl, rfl⟩ := hrel
        by_cases hr4 : r < 4
        · have hri : (r : Int) < 4 := by omega
          have md := tb_at HBl7.out HO.out.1 (i := o * 4 + r) (by omega)
          have hle : cntO tb o r ≤ r := by
            have := List.length_filter_le (fun i => decide (0 < tb.getD (o * 4 + i) 0)) (List.range r)
            simpa [cntO] using this
          have HS : Hid (cntO tb o (r + 1) = cntO tb o r + if 0 < tb.getD (o * 4 + r) 0 then 1 else 0) := cntO_succ tb o r
          generalize tb.getD (o * 4 + r) 0 = x at md HS
          generalize cntO tb o r = y at hle HS ⊢
          by_cases h0 : 0 < x
          · have d0 : decide (0 < x) = true := by simpa using h0
            go_wp2_with fail
            go_round
            case rel => exact ⟨r + 1, by omega, by go_num, by rw [HS.out, if_pos h0]; go_num⟩
            case measure => simp [intOf]; omega
          · have d0 : decide (0 < x) = false := by simpa using h0
            have HS2 : Hid (cntO tb o (r + 1) = y) := by show cntO tb o (r + 1) = y; rw [HS.out, if_neg h0, Nat.add_zero]
            clear h0 HS
            go_wp2_with fail
            go_round
            case rel => exact ⟨r + 1, by omega, by go_num, by rw [HS2.out]⟩
            case measure => simp [intOf]; omega
        · have hri : ¬ (r : Int) < 4 := by omega
          have hr4' : r = 4 := by omega
          subst hr4'
          have hcn : countT o l = (cntO tb o 4 : Int) := HA.out.count HO.out o4
          rw [← hcn]
          clear hcn
          have q7a : w3.heap.size < w7.heap.size := Nat.lt_trans (by exact z5) z7
          have hl100 : l.length ≤ 100000 := by omega
          go_wp2_with fail
          have ok1 : OkTb (tb.set (o * 4 + q) 0) := HO.out.set _ (by omega) (by omega)
          have ok2 : OkTb (wipe tb o) := HO.out.wipe o
          have HC1 : Hid (OkTb (tb.set (o * 4 + q) 0) ∧ AgP (cancelT o q l) (tb.set (o * 4 + q) 0)) := ⟨ok1, HA.out.cancel HO.out o4 q4⟩
          have HC2 : Hid (OkTb (wipe tb o) ∧ AgP (cancelAllT o l) (wipe tb o)) := ⟨ok2, HA.out.cancelAll HO.out o4⟩
          obtain ⟨x0, x1, x2, x3, x4, x5, x6, x7, x8, x9, x10, x11, x12, x13, x14, x15, hx⟩ := list16 _ ok1.1
          obtain ⟨y0, y1, y2, y3, y4, y5, y6, y7, y8, y9, y10, y11, y12, y13, y14, y15, hy⟩ := list16 _ ok2.1
          have HK7 : Hid (∀ w', Below w7.heap.size w7 w' → (w'.cell? ⟨w3.heap.size, 0, none⟩ = some (.int .i64 x0) ∧ w'.cell? ⟨w3.heap.size, 1, none⟩ = some (.int .i64 x1) ∧ w'.cell? ⟨w3.heap.size, 2, none⟩ = some (.int .i64 x2) ∧ w'.cell? ⟨w3.heap.size, 3, none⟩ = some (.int .i64 x3) ∧ w'.cell? ⟨w3.heap.size, 4, none⟩ = some (.int .i64 x4) ∧ w'.cell? ⟨w3.heap.size, 5, none⟩ = some (.int .i64 x5) ∧ w'.cell? ⟨w3.heap.size, 6, none⟩ = some (.int .i64 x6) ∧ w'.cell? ⟨w3.heap.size, 7, none⟩ = some (.int .i64 x7) ∧ w'.cell? ⟨w3.heap.size, 8, none⟩ = some (.int .i64 x8) ∧ w'.cell? ⟨w3.heap.size, 9, none⟩ = some (.int .i64 x9) ∧ w'.cell? ⟨w3.heap.size, 10, none⟩ = some (.int .i64 x10) ∧ w'.cell? ⟨w3.heap.size, 11, none⟩ = some (.int .i64 x11) ∧ w'.cell? ⟨w3.heap.size, 12, none⟩ = some (.int .i64 x12) ∧ w'.cell? ⟨w3.heap.size, 13, none⟩ = some (.int .i64 x13) ∧ w'.cell? ⟨w3.heap.size, 14, none⟩ = some (.int .i64 x14) ∧ w'.cell? ⟨w3.heap.size, 15, none⟩ = some (.int .i64 x15)) ∧ w'.cell? ⟨w5.heap.size, 0, none⟩ = some (.int .i64 y0) ∧ w'.cell? ⟨w5.heap.size, 1, none⟩ = some (.int .i64 y1) ∧ w'.cell? ⟨w5.heap.size, 2, none⟩ = some (.int .i64 y2) ∧ w'.cell? ⟨w5.heap.size, 3, none⟩ = some (.int .i64 y3) ∧ w'.cell? ⟨w5.heap.size, 4, none⟩ = some (.int .i64 y4) ∧ w'.cell? ⟨w5.heap.size, 5, none⟩ = some (.int .i64 y5) ∧ w'.cell? ⟨w5.heap.size, 6, none⟩ = some (.int .i64 y6) ∧ w'.cell? ⟨w5.heap.size, 7, none⟩ = some (.int .i64 y7) ∧ w'.cell? ⟨w5.heap.size, 8, none⟩ = some (.int .i64 y8) ∧ w'.cell? ⟨w5.heap.size, 9, none⟩ = some (.int .i64 y9) ∧ w'.cell? ⟨w5.heap.size, 10, none⟩ = some (.int .i64 y10) ∧ w'.cell? ⟨w5.heap.size, 11, none⟩ = some (.int .i64 y11) ∧ w'.cell? ⟨w5.heap.size, 12, none⟩ = some (.int .i64 y12) ∧ w'.cell? ⟨w5.heap.size, 13, none⟩ = some (.int .i64 y13) ∧ w'.cell? ⟨w5.heap.size, 14, none⟩ = some (.int .i64 y14) ∧ w'.cell? ⟨w5.heap.size, 15, none⟩ = some (.int .i64 y15)) := fun w' hb => by
            have h1 : ∀ i, i < 16 → w'.cell? ⟨w3.heap.size, i, none⟩ = some (.int .i64 ((tb.set (o * 4 + q) 0).getD i 0)) := fun i hi => tb_at (block_below HC7.out hb q7a) HC1.out.1.1 hi
            have h2 : ∀ i, i < 16 → w'.cell? ⟨w5.heap.size, i, none⟩ = some (.int .i64 ((wipe tb o).getD i 0)) := fun i hi => tb_at (block_below HN7.out.1 hb z7) HC2.out.1.1 hi
            rw [hx] at h1
            rw [hy] at h2
            exact ⟨⟨h1 0 (by omega), h1 1 (by omega), h1 2 (by omega), h1 3 (by omega), h1 4 (by omega), h1 5 (by omega), h1 6 (by omega), h1 7 (by omega), h1 8 (by omega), h1 9 (by omega), h1 10 (by omega), h1 11 (by omega), h1 12 (by omega), h1 13 (by omega), h1 14 (by omega), h1 15 (by omega)⟩, h2 0 (by omega), h2 1 (by omega), h2 2 (by omega), h2 3 (by omega), h2 4 (by omega), h2 5 (by omega), h2 6 (by omega), h2 7 (by omega), h2 8 (by omega), h2 9 (by omega), h2 10 (by omega), h2 11 (by omega), h2 12 (by omega), h2 13 (by omega), h2 14 (by omega), h2 15 (by omega)⟩
          have hkeep0 := HK7.out w7.drew (below_drewN (Below.refl _ _) 1)
          have HX1 : Hid (tb.set (o * 4 + q) 0 = [x0, x1, x2, x3, x4, x5, x6, x7, x8, x9, x10, x11, x12, x13, x14, x15]) := hx
          have HX2 : Hid (wipe tb o = [y0, y1, y2, y3, y4, y5, y6, y7, y8, y9, y10, y11, y12, y13, y14, y15]) := hy
          have tok1 : True := trivial
          have HR7 : Hid (∀ w', Below w7.heap.size w7 w' → TRd w' w7.heap.size Ao l) := fun w' hb => Rd.below (Rd.of_own HOw7.out) hb
          have HD7 : Hid (Below w7.heap.size w7 w7.drew) := below_drewN (Below.refl _ _) 1
          clear hx hy ok1 ok2
          go_region_held3 (fun w' => (w'.cell? ⟨w3.heap.size, 0, none⟩ = some (.int .i64 x0) ∧ w'.cell? ⟨w3.heap.size, 1, none⟩ = some (.int .i64 x1) ∧ w'.cell? ⟨w3.heap.size, 2, none⟩ = some (.int .i64 x2) ∧ w'.cell? ⟨w3.heap.size, 3, none⟩ = some (.int .i64 x3) ∧ w'.cell? ⟨w3.heap.size, 4, none⟩ = some (.int .i64 x4) ∧ w'.cell? ⟨w3.heap.size, 5, none⟩ = some (.int .i64 x5) ∧ w'.cell? ⟨w3.heap.size, 6, none⟩ = some (.int .i64 x6) ∧ w'.cell? ⟨w3.heap.size, 7, none⟩ = some (.int .i64 x7) ∧ w'.cell? ⟨w3.heap.size, 8, none⟩ = some (.int .i64 x8) ∧ w'.cell? ⟨w3.heap.size, 9, none⟩ = some (.int .i64 x9) ∧ w'.cell? ⟨w3.heap.size, 10, none⟩ = some (.int .i64 x10) ∧ w'.cell? ⟨w3.heap.size, 11, none⟩ = some (.int .i64 x11) ∧ w'.cell? ⟨w3.heap.size, 12, none⟩ = some (.int .i64 x12) ∧ w'.cell? ⟨w3.heap.size, 13, none⟩ = some (.int .i64 x13) ∧ w'.cell? ⟨w3.heap.size, 14, none⟩ = some (.int .i64 x14) ∧ w'.cell? ⟨w3.heap.size, 15, none⟩ = some (.int .i64 x15)) ∧ w'.cell? ⟨w5.heap.size, 0, none⟩ = some (.int .i64 y0) ∧ w'.cell? ⟨w5.heap.size, 1, none⟩ = some (.int .i64 y1) ∧ w'.cell? ⟨w5.heap.size, 2, none⟩ = some (.int .i64 y2) ∧ w'.cell? ⟨w5.heap.size, 3, none⟩ = some (.int .i64 y3) ∧ w'.cell? ⟨w5.heap.size, 4, none⟩ = some (.int .i64 y4) ∧ w'.cell? ⟨w5.heap.size, 5, none⟩ = some (.int .i64 y5) ∧ w'.cell? ⟨w5.heap.size, 6, none⟩ = some (.int .i64 y6) ∧ w'.cell? ⟨w5.heap.size, 7, none⟩ = some (.int .i64 y7) ∧ w'.cell? ⟨w5.heap.size, 8, none⟩ = some (.int .i64 y8) ∧ w'.cell? ⟨w5.heap.size, 9, none⟩ = some (.int .i64 y9) ∧ w'.cell? ⟨w5.heap.size, 10, none⟩ = some (.int .i64 y10) ∧ w'.cell? ⟨w5.heap.size, 11, none⟩ = some (.int .i64 y11) ∧ w'.cell? ⟨w5.heap.size, 12, none⟩ = some (.int .i64 y12) ∧ w'.cell? ⟨w5.heap.size, 13, none⟩ = some (.int .i64 y13) ∧ w'.cell? ⟨w5.heap.size, 14, none⟩ = some (.int .i64 y14) ∧ w'.cell? ⟨w5.heap.size, 15, none⟩ = some (.int .i64 y15))
            (first | exact hkeep6 | exact hkeep5 | exact hkeep4 | exact hkeep3 | exact hkeep2 | exact hkeep1 | exact hkeep0)
            ((first
              | (go_at_call 26
                 refine (cancel_any (B := w7.heap.size) Ao co l o q _ HD7.out.size (HR7.out _ HD7.out) hl100).mono ?_
                 rintro e wa ⟨va, rfl, howna, hba⟩
                 obtain ⟨Aa, ca, rfl, -⟩ := own_slice howna
                 have HXa : Hid (Below w7.heap.size w7 wa) := HD7.out.trans (hba.mono HD7.out.size)
                 have HYa : Hid (TRd wa wa.heap.size Aa (cancelT o q l)) := Rd.of_own howna
                 have hkeep1 := HK7.out wa HXa.out
                 clear howna hba)
              | (go_at_call 32
                 have _t := tok1
                 refine (agrees_cs (B := wa.heap.size) Aa ca (cancelT o q l) _ rfl _ HX1.out _ (Nat.le_refl _) HYa.out HC1.out.2 HC1.out.1).mono ?_
                 rintro e wb ⟨rfl, hbb⟩
                 have HXb : Hid (Below w7.heap.size w7 wb) := HXa.out.trans (hbb.mono HXa.out.size)
                 have hkeep2 := HK7.out wb HXb.out
                 clear tok1 hbb)
              | (go_at_call 27
                 refine (cancelall_any (B := w7.heap.size) Ao co l o _ HXb.out.size (HR7.out _ HXb.out) hl100).mono ?_
                 rintro e wc ⟨vc, rfl, hownc, hbc⟩
                 obtain ⟨Ac, cc, rfl, -⟩ := own_slice hownc
                 have HXc : Hid (Below w7.heap.size w7 wc) := HXb.out.trans (hbc.mono HXb.out.size)
                 have HYc : Hid (TRd wc wc.heap.size Ac (cancelAllT o l)) := Rd.of_own hownc
                 have hkeep3 := HK7.out wc HXc.out
                 clear hownc hbc)
              | (go_at_call 32
                 refine (agrees_cs (B := wc.heap.size) Ac cc (cancelAllT o l) _ rfl _ HX2.out _ (Nat.le_refl _) HYc.out HC2.out.2 HC2.out.1).mono ?_
                 rintro e wd ⟨rfl, hbd⟩
                 have HXd : Hid (Below w7.heap.size w7 wd) := HXc.out.trans (hbd.mono HXc.out.size)
                 have hkeep4 := HK7.out wd HXd.out
                 clear hbd)
              | (go_at_call 30
                 refine (count_any (B := w7.heap.size) Ao co l o _ HXd.out.size (HR7.out _ HXd.out) hl100).mono ?_
                 rintro e we ⟨rfl, hbe⟩
                 have HXe : Hid (Below w7.heap.size w7 we) := HXd.out.trans (hbe.mono HXd.out.size)
                 have hkeep5 := HK7.out we HXe.out
                 clear hbe)
              | (go_at_call 12
                 refine (works_any _).mono ?_
                 rintro e wf ⟨rfl, hbf⟩
                 have HXf : Hid (Below w7.heap.size w7 wf) := HXe.out.trans (hbf.mono HXe.out.size)
                 have hkeep6 := HK7.out wf HXf.out
                 clear hbf)))
          go_wp2_with fail
          go_ret
          exact ⟨rfl, HB7.out.trans (HXf.out.mono HB7.out.size)⟩

theorem once_any (A : Option Addr) (c : Nat) (ps : List (Int × Int)) (ow kd : Int) (w : World) (hc : ps.length ≤ 9223372036854775807) (hp : ∀ p ∈ ps, (0 ≤ p.1 ∧ p.1 ≤ 255) ∧ (0 ≤ p.2 ∧ p.2 ≤ 255)) (how : 0 ≤ ow ∧ ow ≤ 255) (hkd : 0 ≤ kd ∧ kd ≤ 255) (h : Rd w w.heap.size A (ps.flatMap pcells)) :
    Calls Try.prog 8 #[.slice A ps.length c, .int .u8 ow, .int .u8 kd] w fun e w' => e = .returned (.bool true) ∧ Below w.heap.size w w' := by
  by_cases hN : ps.length ≤ 200
  · exact once_short A c ps ow kd w hc hN hp how hkd h
  · exact once_long A c ps ow kd w hc (by omega) hp how hkd h

end Go.Proofs.Ytfocenfgeolpfaa
