/- The walk of Finish, the reference's. -/
import Derived.Test.YtaafgakflmgpoaaDoorW9
namespace Go.Proofs.YtaafgakflmgpoaaDoor
open Go.RowKit

theorem feed_n {s : St} (h : Wf s) {l : List Int} (hl : ∀ b ∈ l, goodB b) : (feedS s l).n = (s.n + (l.length : Int)) % 18446744073709551616 := bytes_n h.canon hl
theorem zeros_good (n : Nat) : ∀ b ∈ zeros n, goodB b := by
  intro b hb
  simp only [zeros, List.mem_replicate] at hb
  obtain ⟨_, rfl⟩ := hb
  unfold goodB; omega
theorem first_good (k : Nat) : ∀ b ∈ 128 :: zeros k, goodB b := by
  intro b hb
  rcases List.mem_cons.1 hb with rfl | hb
  · unfold goodB; omega
  · exact zeros_good k b hb
theorem lenS_good (c : Int) : ∀ b ∈ lenS c, goodB b := by
  intro b hb
  unfold goodB
  simp only [List.mem_cons, lenS] at hb
  rcases hb with rfl | rfl | rfl | rfl | rfl | rfl | rfl | rfl | h
  all_goals first | omega | (cases h)
/-- How many zeros are still to come. -/
def lackN (n : Int) : Nat := ((120 - n % 64) % 64).toNat
def lackW (g : Nat) (w : World) : Nat := match w.cell? ⟨g, 8, none⟩ with | some (.int _ n) => lackN n | _ => 0
theorem lackW_of {w : World} {g : Nat} {s : St} (h : SAt w g s) : lackW g w = lackN s.n := by unfold lackW; rw [h.n]
theorem lack_at {n : Int} {k : Nat} (hk : k ≤ padN n) : lackN ((n + (k + 1)) % 18446744073709551616) = padN n - k := by
  unfold lackN padN at *
  omega
theorem lenS_take' (c : Int) {k : Nat} (hk : k < 8) : (lenS c).take (k + 1) = (lenS c).take k ++ [c / 2 ^ (8 * (7 - k)) % 256] := by
  rw [lenS_take c hk, show 56 - 8 * k = 8 * (7 - k) by omega]

set_option maxRecDepth 100000 in
set_option maxHeartbeats 4000000 in
theorem rfinish_any (s : St) (hs : Wf s) (w : World) : Calls Tryd.prog 21 #[.agg (stc s).toArray] w fun e w' => e = .returned (.agg (u8s (finishS s)).toArray) ∧ Below w.heap.size w w' := by
  have HS : Hid (Wf s) := hs
  have n0 := hs.lo
  have n1 := hs.hi
  clear hs
  have z24 := zero24
  have z32 := zero32
  go_enter Tryd.func21, Tryd.ntmps21
  go_upto_region 1 with fail
  generalize hW : World.alloc (World.alloc w _) _ = w3
  obtain ⟨hs0, hr0, hz, hbl⟩ := two_gen hW
  have HS0 : Hid (SAt w3 w.heap.size s) := hs0
  have HR0 : Hid (w3.heap[w.heap.size + 1]? = some (.cells (u8s (zeros 32)).toArray 24 (0, 0))) := hr0
  have HL : Hid (Below w.heap.size w w3) := hbl
  have cn := HS0.out.n
  have q0 : w.heap.size < w3.heap.size := by omega
  have HZ : Hid (w3.heap.size = w.heap.size + 1 + 1) := hz
  clear hs0 hr0 hbl hW hz
  go_upto_region 2 with fail
  have HC : Hid (IntKind.u64.wrap (8 * s.n) = 8 * s.n % 18446744073709551616) := by show _ = _; simp [IntKind.wrap_u64]
  rw [HC.out]
  have c0 : 0 ≤ 8 * s.n % 18446744073709551616 := by omega
  have c1 : 8 * s.n % 18446744073709551616 ≤ 18446744073709551615 := by omega
  obtain ⟨c, hcd⟩ : ∃ c, c = 8 * s.n % 18446744073709551616 := ⟨_, rfl⟩
  rw [← hcd] at c0 c1 ⊢
  have HCd : Hid (c = 8 * s.n % 18446744073709551616) := hcd
  clear hcd cn
  go_wp2_with (refine wpList_load_row rfl 32 (.tmp 1) rfl w.heap.size rfl 32 (stc s).toArray (0, 0) _ HS0.out Tryd.underlying32 rfl (size32 HS.out.len) ?_)
  refine (rfeed_any (B := w3.heap.size + 1) s HS.out (some ⟨w3.heap.size, 0, none⟩) 1 [128] _ (by simp) (Rd.lit w3 (u8s [128]) 5) (by simp [maxLen]) (first_good 0)).mono ?_
  rintro e w8 ⟨rfl, hb8⟩
  have hl8 : Below w3.heap.size w3 w8 := ((Below.refl _ _).alloc (Nat.le_refl _) _).trans (hb8.mono (by simp))
  have HR8 : Hid (w8.heap[w.heap.size + 1]? = some (.cells (u8s (zeros 32)).toArray 24 (0, 0))) := block_below HR0.out hl8 (by have := HZ.out; omega)
  have HL8 : Hid (Below w.heap.size w w8) := HL.out.trans (hl8.mono (by omega))
  have hq8 : w.heap.size + 1 < w8.heap.size := by have := hl8.size; have := HZ.out; omega
  have HF : Hid (Wf (feedS s [128])) := HS.out.feed (first_good 0)
  clear hb8 hl8 q0
  obtain ⟨f, hf⟩ : ∃ f, f = feedS s [128] := ⟨_, rfl⟩
  rw [← hf] at HF ⊢
  have HFE : Hid (f = feedS s [128]) := hf
  clear hf
  go_wp2_with (refine wpList_store_row rfl 32 (.tmp 4) (.tmp 15) rfl w8.heap.size rfl (stc f).toArray rfl 32 _ (heap_alloc_new w8 _) (by rw [List.size_toArray, List.size_toArray, stc_len HF.out.len, stc_len (zeros_len 64)]) (size32 HF.out.len) (one_stc _) ?_)
  obtain ⟨w9, hw9⟩ : ∃ w9, w9 = (w8.alloc (.cells (stc zeroSt).toArray 32)).setRow w8.heap.size (stc f).toArray := ⟨_, rfl⟩
  have h4 : SAt w9 w8.heap.size f := by rw [hw9, setRow_alloc]; exact heap_alloc_new _ _
  have hb9 : Below w8.heap.size w8 w9 := by rw [hw9, setRow_alloc]; exact (Below.refl _ _).alloc (Nat.le_refl _) _
  rw [← hw9]
  clear hw9
  have HR9 : Hid (w9.heap[w.heap.size + 1]? = some (.cells (u8s (zeros 32)).toArray 24 (0, 0))) := block_below HR8.out hb9 hq8
  have HL9 : Hid (Below w.heap.size w w9) := HL8.out.trans (hb9.mono (by omega))
  have H49 : Hid (SAt w9 w8.heap.size f) := h4
  clear h4 hb9
  generalize w8.heap.size = g at hq8 H49 ⊢
  have HQ : Hid (w.heap.size + 1 < g) := hq8
  simp only [Act.put]
  go_loopw [] (fun wr => ∃ k : Nat, k ≤ padN s.n ∧ SAt wr g (feedS s (128 :: zeros k)) ∧ wr.heap[w.heap.size + 1]? = some (.cells (u8s (zeros 32)).toArray 24 (0, 0)) ∧ Below w.heap.size w wr) (fun wr => lackW g wr)
  case atStart => exact ⟨0, by omega, by have := H49.out; rw [HFE.out] at this; exact this, HR9.out, HL9.out⟩
  case round =>
    obtain ⟨k, hk, hsr, hrr, hbr⟩ := hrel
    have hwf : Wf (feedS s (128 :: zeros k)) := HS.out.feed (first_good k)
    have hn := feed_n HS.out (first_good k)
    have hlk : (s.n + (((128 :: zeros k).length : Nat) : Int)) = s.n + ((k : Int) + 1) := by simp [zeros]
    rw [hlk] at hn
    have hi := pad_iff hk
    have hla := lack_at hk
    have hme := lackW_of hsr
    rw [hn, hla] at hme
    rw [← hn] at hi
    have HF1 : Hid (feedS (feedS s (128 :: zeros k)) [0] = feedS s (128 :: zeros (k + 1))) := by
      show _ = _
      rw [feedS_append HS.out _ _ (first_good k)]
      simp [zeros, List.replicate_succ']
    obtain ⟨f1, hf1⟩ : ∃ f1, f1 = feedS s (128 :: zeros k) := ⟨_, rfl⟩
    rw [← hf1] at hsr hwf hi HF1 hn
    have HF1E : Hid (f1 = feedS s (128 :: zeros k)) := hf1
    have HWF : Hid (Wf f1) := hwf
    have HSR : Hid (SAt wr g f1) := hsr
    have HRR : Hid (wr.heap[w.heap.size + 1]? = some (.cells (u8s (zeros 32)).toArray 24 (0, 0))) := hrr
    have HBR : Hid (Below w.heap.size w wr) := hbr
    have cn := hsr.n
    have m0 := hwf.lo
    have q1 := hsr.lt
    have hME : Hid (lackW g wr = padN s.n - k) := hme
    have ht : f1.n.tmod 64 = f1.n % 64 := Int.tmod_eq_emod_of_nonneg m0
    clear hsr hrr hbr hwf hf1 hme hla hlk hn
    by_cases hlt : k = padN s.n
    · have hb : (f1.n % 64 != 56) = false := by simpa using hi.2 hlt
      have HK : Hid (k = padN s.n) := hlt
      clear hi hlt hk
      go_wp2
      have HFin0 : Hid (feedS f1 (lenS c) = feedS s (padS s.n)) := by
        show _ = _
        rw [HF1E.out, feedS_append HS.out _ _ (first_good k), HK.out, HCd.out]
        rfl
      have hlg := lenS_good c
      clear hb ht m0 cn HF1 HF1E hME HK
      obtain ⟨wo, rfl⟩ : ∃ wo : World, wo = wr := ⟨_, rfl⟩
      go_loopw [5, 6] (fun v i wr => ∃ k : Nat, k ≤ 8 ∧ i = .int .i64 (7 - (k : Int)) ∧ wr.ownsRow wo.heap.size 5 1 v k (u8s ((lenS c).take k)) ∧ Below wo.heap.size wo wr) (fun _ i _ => (intOf i + 1).toNat)
      case atStart => exact ⟨0, by omega, rfl, World.ownsRow_nil _ _ _ _, Below.refl _ _⟩
      case round =>
        obtain ⟨k, hk, rfl, hown, hbr⟩ := hrel
        have HBR2 : Hid (Below wo.heap.size wo wr) := hbr
        have HOwn2 : Hid (wr.ownsRow wo.heap.size 5 1 u5 k (u8s ((lenS c).take k))) := hown
        have q4 : wo.heap.size ≤ wr.heap.size := hbr.size
        clear hown hbr
        by_cases hlt : k < 8
        · have hki : (0 : Int) ≤ 7 - (k : Int) := by omega
          have e1 : IntKind.i64.wrap (8 * (7 - (k : Int))) = 8 * (7 - (k : Int)) := IntWalk.i64_in _ (by omega)
          have e3 : 0 ≤ 8 * (7 - (k : Int)) := by omega
          have e4 : (8 * (7 - (k : Int))).toNat = 8 * (7 - k) := by omega
          have e5 : 8 * (7 - k) < 64 := by omega
          have e6 : IntKind.i64.wrap (7 - (k : Int) - 1) = 7 - (k : Int) - 1 := IntWalk.i64_in _ (by omega)
          clear hlt
          go_wp2_with (refine wpList_append_u8 (wb := wo) rfl (.tmp 27) (.tmp 33) rfl wo.heap.size k _ ((lenS c).take k) rfl (own_below HOwn2.out ((Below.refl _ _).alloc (Nat.le_refl _) _)) (by simp; omega) (by omega) wr.heap.size _ 5 rfl (heap_alloc_new wr _) (HBR2.out.alloc q4 _) ?_; intro v' w5 hown5 hb5)
          go_roundw
          case rel =>
            refine ⟨k + 1, by omega, by congr 1; omega, ?_, hb5⟩
            rw [lenS_take' c (by omega)]
            exact hown5
          case measure => simp [intOf]; omega
        · have hk8 : k = 8 := by omega
          subst hk8
          rw [show (lenS c).take 8 = lenS c from rfl] at HOwn2
          rw [show ((8 : Nat) : Int) = (8 : Int) from rfl]
          have HSR2 : Hid (SAt wr g f1) := HSR.out.below HBR2.out q1
          clear hlt hk
          go_wp2_with (refine wpList_load_row rfl 32 (.tmp 4) rfl g rfl 32 (stc f1).toArray (0, 0) _ HSR2.out Tryd.underlying32 rfl (size32 HWF.out.len) ?_)
          obtain ⟨A2, c2, hA2, hc2⟩ := own_slice HOwn2.out
          rw [hA2] at HOwn2 ⊢
          refine (rfeed_any f1 HWF.out A2 c2 (lenS c) wr (Nat.le_refl _) (Rd.of_own HOwn2.out) (by simp [maxLen, lenS]) hlg).mono ?_
          rintro e w8 ⟨rfl, hb8⟩
          have HS8 : Hid (SAt w8 g f1) := HSR2.out.below hb8 HSR2.out.lt
          have HR8 : Hid (w8.heap[w.heap.size + 1]? = some (.cells (u8s (zeros 32)).toArray 24 (0, 0))) := block_below (block_below HRR.out HBR2.out (by omega)) hb8 (by omega)
          have HL8 : Hid (Below w.heap.size w w8) := (HBR.out.trans (HBR2.out.mono (by omega))).trans (hb8.mono (by omega))
          rw [HFin0.out]
          have HFW : Hid (Wf (feedS s (padS s.n))) := HS.out.feed (pad_good _)
          have HFin : Hid (finishS s = outS (feedS s (padS s.n)).v) := rfl
          have hg8 : g < w8.heap.size := HS8.out.lt
          clear hb8 hc2 hA2 HOwn2 q4 HBR2 HSR2 HFin0 hlg
          generalize feedS s (padS s.n) = f at HFW HFin ⊢
          go_upto_region 11 with (refine wpList_store_row rfl 32 (.tmp 4) (.tmp 37) rfl g rfl (stc f).toArray rfl 32 _ HS8.out (by rw [List.size_toArray, List.size_toArray, stc_len HFW.out.len, stc_len HWF.out.len]) (size32 HFW.out.len) (one_stc _) ?_)
          have hs9 : SAt (w8.setRow g (stc f).toArray) g f := HS8.out.row
          have hr9 : (w8.setRow g (stc f).toArray).heap[w.heap.size + 1]? = some (.cells (u8s (zeros 32)).toArray 24 (0, 0)) := by rw [setRow_other w8 _ _ _ (by omega)]; exact HR8.out
          have hl9 := below_setRow HL8.out (show w.heap.size ≤ g by omega) (stc f).toArray
          have hg9 : g < (w8.setRow g (stc f).toArray).heap.size := by simpa using hg8
          generalize World.setRow _ _ _ = w9 at hs9 hr9 hl9 hg9 ⊢
          obtain ⟨w10, hw10⟩ : ∃ w10, w10 = w9.alloc (.cells (u8s (zeros 32)).toArray 24 (0, 0)) := ⟨_, rfl⟩
          have HS10 : Hid (SAt w10 g f) := by rw [hw10]; exact SAt.below hs9 ((Below.refl _ _).alloc (Nat.le_refl _) _) hs9.lt
          have HR10 : Hid (w10.heap[w.heap.size + 1]? = some (.cells (u8s (zeros 32)).toArray 24 (0, 0))) := by rw [hw10]; exact block_below hr9 ((Below.refl _ _).alloc (Nat.le_refl _) _) (by omega)
          have HL10 : Hid (Below w.heap.size w w10) := by rw [hw10]; exact hl9.alloc (by omega) _
          have HO10 : Hid (w10.heap[w9.heap.size]? = some (.cells (u8s (zeros 32)).toArray 24 (0, 0))) := by rw [hw10]; exact heap_alloc_new _ _
          clear hs9 hr9 hl9 hg8 hq8
          go_wp2
          rw [← hw10]
          clear hw10
          generalize w9.heap.size = o at hg9 HO10 ⊢
          have HGO : Hid (g < o) := hg9
          go_loopw [8] (fun i wr => ∃ k : Nat, k ≤ 8 ∧ i = .int .i64 k ∧ Below w.heap.size w wr ∧ SAt wr g f ∧ wr.heap[w.heap.size + 1]? = some (.cells (u8s (zeros 32)).toArray 24 (0, 0)) ∧ wr.heap[o]? = some (.cells (u8s ((outS f.v).take (4 * k) ++ zeros (32 - 4 * k))).toArray 24 (0, 0))) (fun i _ => 8 - (intOf i).toNat)
          case atStart => exact ⟨0, by omega, rfl, HL10.out, HS10.out, HR10.out, HO10.out⟩
          case round =>
            obtain ⟨k, hk, rfl, hbr, hsr, hrr, hor⟩ := hrel
            have HB5 : Hid (Below w.heap.size w wr) := hbr
            have HS5 : Hid (SAt wr g f) := hsr
            have HR5 : Hid (wr.heap[w.heap.size + 1]? = some (.cells (u8s (zeros 32)).toArray 24 (0, 0))) := hrr
            have HO5 : Hid (wr.heap[o]? = some (.cells (u8s ((outS f.v).take (4 * k) ++ zeros (32 - 4 * k))).toArray 24 (0, 0))) := hor
            by_cases hlt : k < 8
            · have hki : (k : Int) < 8 := by omega
              clear hbr hsr hrr hor hg9
              obtain ⟨wq, rfl⟩ : ∃ wq : World, wq = wr := ⟨_, rfl⟩
              go_wp2
              go_loopw [9] (fun i wr => ∃ j : Nat, j ≤ 4 ∧ i = .int .i64 j ∧ Below w.heap.size w wr ∧ SAt wr g f ∧ wr.heap[w.heap.size + 1]? = some (.cells (u8s (zeros 32)).toArray 24 (0, 0)) ∧ wr.heap[o]? = some (.cells (u8s ((outS f.v).take (4 * k + j) ++ zeros (32 - (4 * k + j)))).toArray 24 (0, 0))) (fun i _ => 4 - (intOf i).toNat)
              case atStart => exact ⟨0, by omega, rfl, HB5.out, HS5.out, HR5.out, HO5.out⟩
              case round =>
                obtain ⟨j, hj, rfl, hbr, hsr, hrr, hor⟩ := hrel
                have HBR6 : Hid (Below w.heap.size w wr) := hbr
                have HSR6 : Hid (SAt wr g f) := hsr
                have HRR6 : Hid (wr.heap[w.heap.size + 1]? = some (.cells (u8s (zeros 32)).toArray 24 (0, 0))) := hrr
                have HOR6 : Hid (wr.heap[o]? = some (.cells (u8s ((outS f.v).take (4 * k + j) ++ zeros (32 - (4 * k + j)))).toArray 24 (0, 0))) := hor
                by_cases hjt : j < 4
                · have hji : (j : Int) < 4 := by omega
                  have hc := (hsr.cell k).trans (stc_v f (i := k) hlt)
                  have hgl : o < wr.heap.size := (Array.getElem?_eq_some_iff.1 hor).1
                  have hoc := cell_u8 hor (i := 4 * k + j) (by simp [zeros, outS_len]; omega)
                  have hof := frozen_of_row wr o (4 * k + j) _ _ hor
                  have hx := outS_get f.v (k := 4 * k + j) (by omega)
                  have hset := fill_one (outS f.v) 32 (outS_len _) (k := 4 * k + j) (by omega)
                  rw [hx, show (4 * k + j) / 4 = k by omega, show (4 * k + j) % 4 = j by omega] at hset
                  have HSet : Hid _ := hset
                  have q6 := hsr.lt
                  have e0 : IntKind.i64.wrap (4 * (k : Int)) = 4 * (k : Int) := IntWalk.i64_in _ (by omega)
                  have e1 : IntKind.i64.wrap (4 * (k : Int) + (j : Int)) = 4 * (k : Int) + (j : Int) := IntWalk.i64_in _ (by omega)
                  have e2 : IntKind.i64.wrap (8 * (j : Int)) = 8 * (j : Int) := IntWalk.i64_in _ (by omega)
                  have e3 : IntKind.i64.wrap (24 - 8 * (j : Int)) = 24 - 8 * (j : Int) := IntWalk.i64_in _ (by omega)
                  have e4 : 0 ≤ 24 - 8 * (j : Int) := by omega
                  have e5 : (24 - 8 * (j : Int)).toNat = 24 - 8 * j := by omega
                  have e6 : 24 - 8 * j < 32 := by omega
                  have e7 : (4 * (k : Int) + (j : Int)).toNat = 4 * k + j := by omega
                  have e8 : 0 ≤ 4 * (k : Int) + (j : Int) := by omega
                  have e9 : 4 * (k : Int) + (j : Int) < 32 := by omega
                  clear hbr hsr hrr hor hx hset
                  generalize f.v.list.getD k 0 = x at hc HSet
                  go_wp2
                  go_roundw
                  case rel =>
                    have hq := HQ.out
                    have hgo := HGO.out
                    refine ⟨j + 1, by omega, by go_num, HBR6.out.setCell (by show w.heap.size ≤ o; omega) _, set_other HSR6.out (by omega) _ _, set_other HRR6.out (by omega) _ _, ?_⟩
                    rw [← Nat.add_assoc, ← HSet.out]
                    exact set_u8 HOR6.out (4 * k + j) _
                  case measure => simp [intOf]; omega
                · have hj4 : j = 4 := by omega
                  subst hj4
                  clear hbr hsr hrr hor hjt hj
                  rw [show ((4 : Nat) : Int) = (4 : Int) from rfl]
                  go_wp2
                  go_roundw
                  case rel =>
                    refine ⟨k + 1, by omega, by go_num, HBR6.out, HSR6.out, HRR6.out, ?_⟩
                    rw [show 4 * (k + 1) = 4 * k + 4 by omega]
                    exact HOR6.out
                  case measure => simp [intOf]; omega
            · have hk8 : k = 8 := by omega
              subst hk8
              have ho : (outS f.v).take (4 * 8) ++ zeros (32 - 4 * 8) = finishS s := by rw [HFin.out, List.take_of_length_le (by rw [outS_len]; omega)]; simp [zeros]
              rw [ho] at hor
              have HOF : Hid (wr.heap[o]? = some (.cells (u8s (finishS s)).toArray 24 (0, 0))) := hor
              have HFL : Hid ((finishS s).length = 32) := by show _ = _; rw [HFin.out]; exact outS_len _
              clear hbr hsr hrr hor ho HFin
              rw [show ((8 : Nat) : Int) = (8 : Int) from rfl]
              go_wp2_with (first
                | (refine wpList_load_row rfl 24 (.tmp 7) rfl o rfl 24 (u8s (finishS s)).toArray (0, 0) _ HOF.out Tryd.underlying24 rfl (size24 HFL.out) ?_)
                | (refine wpList_store_row rfl 24 (.tmp 2) (.tmp 60) rfl (w.heap.size + 1) rfl (u8s (finishS s)).toArray rfl 24 _ HR5.out (by rw [List.size_toArray, List.size_toArray, u8s_len, u8s_len, HFL.out, zeros_len]) (size24 HFL.out) (one_u8 _) ?_))
              exact bodyPost_ret (results_cell_row rfl _ _ (w.heap.size + 1) 24 (u8s (finishS s)).toArray (0, 0) _ rfl (setRow_heap _ _ _ _ _ _ HR5.out) Tryd.underlying24 rfl (size24 HFL.out)) rfl ⟨rfl, below_setRow HB5.out (by omega) _⟩
    · have hb : (f1.n % 64 != 56) = true := by simpa using fun h => hlt (hi.1 h)
      have hk1 : k + 1 ≤ padN s.n := by omega
      clear hi
      go_wp2_with (refine wpList_load_row rfl 32 (.tmp 4) rfl g rfl 32 (stc f1).toArray (0, 0) _ HSR.out Tryd.underlying32 rfl (size32 HWF.out.len) ?_)
      refine (rfeed_any (B := wr.heap.size + 1) f1 HWF.out (some ⟨wr.heap.size, 0, none⟩) 1 [0] _ (by simp) (Rd.lit wr (u8s [0]) 5) (by simp [maxLen]) (zeros_good 1)).mono ?_
      rintro e w8 ⟨rfl, hb8⟩
      have hl8 : Below wr.heap.size wr w8 := ((Below.refl _ _).alloc (Nat.le_refl _) _).trans (hb8.mono (by simp))
      have HS8 : Hid (SAt w8 g f1) := HSR.out.below hl8 q1
      have HR8 : Hid (w8.heap[w.heap.size + 1]? = some (.cells (u8s (zeros 32)).toArray 24 (0, 0))) := block_below HRR.out hl8 (by omega)
      have HL8 : Hid (Below w.heap.size w w8) := HBR.out.trans (hl8.mono (by omega))
      have hwf2 : Wf (feedS s (128 :: zeros (k + 1))) := HS.out.feed (first_good _)
      have hla2 := lack_at (n := s.n) hk1
      have hn2 := feed_n HS.out (first_good (k + 1))
      rw [show (s.n + (((128 :: zeros (k + 1)).length : Nat) : Int)) = s.n + (((k + 1 : Nat) : Int) + 1) by simp [zeros]] at hn2
      rw [← hn2] at hla2
      rw [HF1.out]
      clear hb8 hl8 cn q1 hn2
      obtain ⟨f2, hf2⟩ : ∃ f2, f2 = feedS s (128 :: zeros (k + 1)) := ⟨_, rfl⟩
      rw [← hf2] at hwf2 hla2 ⊢
      have HF2 : Hid (f2 = feedS s (128 :: zeros (k + 1))) := hf2
      clear hf2
      go_wp2_with (refine wpList_store_row rfl 32 (.tmp 4) (.tmp 22) rfl g rfl (stc f2).toArray rfl 32 _ HS8.out (by rw [List.size_toArray, List.size_toArray, stc_len hwf2.len, stc_len HWF.out.len]) (size32 hwf2.len) (one_stc _) ?_)
      simp only [Act.put]
      go_roundw
      case rel => exact ⟨k + 1, hk1, by rw [← HF2.out]; exact HS8.out.row, by rw [setRow_other _ _ _ _ (by omega)]; exact HR8.out, below_setRow HL8.out (by omega) _⟩
      case measure =>
        rw [hME.out, lackW_of (s := f2) (HS8.out.row (s' := f2)), hla2]
        omega

end Go.Proofs.YtaafgakflmgpoaaDoor
