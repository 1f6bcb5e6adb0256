/- The walk of Unhex, the reference's. -/
import Derived.Test.YtaafgakflmgpoaaDoorW17
namespace Go.Proofs.YtaafgakflmgpoaaDoor
open Go.RowKit

theorem digit_quiet (b : UInt8) (w : World) (n : Nat) : Calls Tryd.prog 30 #[.int .u8 (b.toNat : Int)] (w.drewN n) fun e w' => e = .returned (.int .i64 (digS (b.toNat : Int))) ∧ ∃ m, w' = w.drewN m :=
  (digit_any _ (by omega) (by have := b.toNat_lt; omega) _).mono fun _ _ ⟨h1, h2⟩ => ⟨h1, n, h2.symm⟩
theorem dig_ok {c : Int} (h : valS c ≤ 15) : digS c = valS c := by unfold digS; rw [if_neg (by omega)]
theorem dig_bad {c : Int} (h : ¬ valS c ≤ 15) : digS c = -1 := by have := val_bd c; unfold digS; rw [if_pos (by omega)]

set_option maxRecDepth 100000 in
set_option maxHeartbeats 4000000 in
theorem runhex_any (s : ByteArray) (w : World) (hs : s.size ≤ 1000000) : Calls Tryd.prog 24 #[.string s] w fun e w' => UnhexP (bytesOf s) w e w' := by
  have HSz : Hid ((bytesOf s).length = s.size) := bytesOf_len s
  obtain ⟨n, hn⟩ : ∃ n, n = s.size / 2 := ⟨_, rfl⟩
  by_cases hodd : s.size % 2 = 1
  · have e1 : (s.size : Int).tmod 2 = 1 := by rw [Int.tmod_eq_emod_of_nonneg (by omega)]; omega
    have e2 : (s.size : Int) % 2 = 1 := by omega
    have HU : Hid (unhexS (bytesOf s) = none) := unhex_odd (by rw [bytesOf_len]; exact hodd)
    clear hodd hn
    go_enter Tryd.func24, Tryd.ntmps24
    go_wp2
    go_ret2
    unfold UnhexP
    rw [HU.out]
    exact ⟨rfl, Below.refl _ _⟩
  · have e1 : (s.size : Int).tmod 2 = 0 := by rw [Int.tmod_eq_emod_of_nonneg (by omega)]; omega
    have e2 : (s.size : Int) % 2 = 0 := by omega
    have he : (s.size : Int) = 2 * (n : Int) := by omega
    have HE : Hid (s.size = 2 * n) := by show _ = _; omega
    have hnl : n ≤ 500000 := by omega
    clear hodd hn
    go_enter Tryd.func24, Tryd.ntmps24
    go_wp2
    go_loopw [4, 5] (fun v i wr => ∃ k : Nat, k ≤ n ∧ i = .int .i64 (2 * (k : Int)) ∧ (∀ j, j < k → okP (bytesOf s) j) ∧ wr.ownsRow w.heap.size 5 1 v k (u8s (outP (bytesOf s) k)) ∧ Below w.heap.size w wr) (fun _ i _ => s.size - (intOf i).toNat)
    case atStart => exact ⟨0, by omega, rfl, fun j hj => absurd hj (by omega), World.ownsRow_nil _ _ _ _, Below.refl _ _⟩
    case round =>
      obtain ⟨k, hk, rfl, hok, hown, hbr⟩ := hrel
      have HOK : Hid (∀ j, j < k → okP (bytesOf s) j) := hok
      have HOwn : Hid (wr.ownsRow w.heap.size 5 1 u4 k (u8s (outP (bytesOf s) k))) := hown
      have HBR : Hid (Below w.heap.size w wr) := hbr
      have q3 : w.heap.size ≤ wr.heap.size := hbr.size
      by_cases hlt : k < n
      · have hki : 2 * (k : Int) < (s.size : Int) := by omega
        clear hok hbr hown he
        have n0 : (2 * (k : Int)).toNat = 2 * k := by omega
        have n1 : (2 * (k : Int) + 1).toNat = 2 * k + 1 := by omega
        have g0 : 2 * (k : Int) < (s.size : Int) := by have := HE.out; omega
        have g1 : 2 * (k : Int) + 1 < (s.size : Int) := by have := HE.out; omega
        have l0 : 0 ≤ 2 * (k : Int) := by omega
        have l1 : 0 ≤ 2 * (k : Int) + 1 := by omega
        have w0 : IntKind.i64.wrap (2 * (k : Int)) = 2 * (k : Int) := IntWalk.i64_in _ (by omega)
        have w2 : IntKind.i64.wrap (2 * (k : Int) + 1) = 2 * (k : Int) + 1 := IntWalk.i64_in _ (by omega)
        have w3 : IntKind.i64.wrap (2 * (k : Int) + 2) = 2 * (k : Int) + 2 := IntWalk.i64_in _ (by omega)
        go_upto_region 7 with fail
        go_quiet ((go_at_call 30; exact digit_quiet _ _ _))
        have HOwn2 : Hid ((wr.drewN nq).ownsRow w.heap.size 5 1 u4 k (u8s (outP (bytesOf s) k))) := own_below HOwn.out (below_drewN (Below.refl _ _) nq)
        have HBR2 : Hid (Below w.heap.size w (wr.drewN nq)) := below_drewN HBR.out nq
        have q4 : w.heap.size ≤ (wr.drewN nq).heap.size := q3
        generalize wr.drewN nq = wr2 at HOwn2 HBR2 q4 ⊢
        have hs0 : 2 * k < s.size := by have := HE.out; omega
        have hs1 : 2 * k + 1 < s.size := by have := HE.out; omega
        have x0 := bytes_at s hs0
        have x1 := bytes_at s hs1
        have HOkk : Hid (okP (bytesOf s) k ↔ valS ((s[2 * k]'hs0).toNat : Int) ≤ 15 ∧ valS ((s[2 * k + 1]'hs1).toNat : Int) ≤ 15) := by show okP _ _ ↔ _; rw [x0, x1]; rfl
        have HPr : Hid (pairS (bytesOf s) k = 16 * valS ((s[2 * k]'hs0).toNat : Int) + valS ((s[2 * k + 1]'hs1).toNat : Int)) := by show _ = _; rw [x0, x1]; rfl
        have a0 : 0 ≤ valS ((s[2 * k]'hs0).toNat : Int) := valS_lo
        have b0 : 0 ≤ valS ((s[2 * k + 1]'hs1).toNat : Int) := valS_lo
        have da := @dig_ok ((s[2 * k]'hs0).toNat : Int)
        have da' := @dig_bad ((s[2 * k]'hs0).toNat : Int)
        have db := @dig_ok ((s[2 * k + 1]'hs1).toNat : Int)
        have db' := @dig_bad ((s[2 * k + 1]'hs1).toNat : Int)
        clear x0 x1
        generalize digS ((s[2 * k]'hs0).toNat : Int) = ax at da da' ⊢
        generalize digS ((s[2 * k + 1]'hs1).toNat : Int) = bx at db db' ⊢
        generalize valS ((s[2 * k]'hs0).toNat : Int) = a at HOkk HPr a0 da da'
        generalize valS ((s[2 * k + 1]'hs1).toNat : Int) = b at HOkk HPr b0 db db'
        by_cases ha : a ≤ 15
        · have := da ha
          subst this
          by_cases hb : b ≤ 15
          · have := db hb
            subst this
            have ha' : ¬ ax < 0 := by omega
            have hb' : ¬ bx < 0 := by omega
            have HOK2 : Hid (∀ j, j < k + 1 → okP (bytesOf s) j) := fun j hj => by
              rcases Nat.lt_or_ge j k with h | h
              · exact HOK.out j h
              · have : j = k := by omega
                subst this; exact HOkk.out.2 ⟨ha, hb⟩
            have HX : Hid (outP (bytesOf s) (k + 1) = outP (bytesOf s) k ++ [16 * ax + bx]) := by show _ = _; rw [outP_succ, HPr.out]
            have e : IntKind.u8.wrap (16 * ax + bx) = 16 * ax + bx := IntWalk.u8_in _ (by omega)
            clear da da' db db'
            go_wp2_with (refine wpList_append_u8 (wb := w) rfl (.tmp 33) (.tmp 39) rfl w.heap.size k _ (outP (bytesOf s) k) rfl (own_below HOwn2.out ((Below.refl _ _).alloc (Nat.le_refl _) _)) (by simp; omega) (by omega) wr2.heap.size _ 5 rfl (heap_alloc_new wr2 _) (HBR2.out.alloc q4 _) ?_; intro v' w5 hown5 hb5)
            go_roundw
            case rel => exact ⟨k + 1, by omega, by go_num, HOK2.out, by rw [HX.out]; exact hown5, hb5⟩
            case measure => simp [intOf]; omega
          · have := db' hb
            subst this
            have ha' : ¬ ax < 0 := by omega
            have HU : Hid (unhexS (bytesOf s) = none) := unhex_bad (k := k) (by rw [HSz.out]; have := HE.out; omega) (by rw [HSz.out]; have := HE.out; omega) fun x => by have := (HOkk.out.1 x).2; omega
            clear da da' db db'
            go_wp2
            go_ret2
            unfold UnhexP
            rw [HU.out]
            exact ⟨rfl, HBR2.out⟩
        · have := da' ha
          subst this
          have HU : Hid (unhexS (bytesOf s) = none) := unhex_bad (k := k) (by rw [HSz.out]; have := HE.out; omega) (by rw [HSz.out]; have := HE.out; omega) fun x => by have := (HOkk.out.1 x).1; omega
          clear da da' db db'
          go_wp2
          go_ret2
          unfold UnhexP
          rw [HU.out]
          exact ⟨rfl, HBR2.out⟩
      · have hkn : k = n := by omega
        subst hkn
        have hki : ¬ 2 * (k : Int) < (s.size : Int) := by omega
        have HU : Hid (unhexS (bytesOf s) = some (outP (bytesOf s) k)) := unhex_ok (by rw [HSz.out]; exact HE.out) hok
        obtain ⟨A3, c3, rfl, hc3⟩ := own_slice HOwn.out
        have HC : Hid (c3 ≤ maxLen) := own_capLe HOwn.out rfl
        have HC3 : Hid (k ≤ c3) := hc3
        clear hok hown hbr he hc3
        go_wp2
        go_ret2
        unfold UnhexP
        rw [HU.out]
        refine ⟨⟨A3, c3, ?_, ?_, HC.out, Rd.of_own HOwn.out⟩, HBR.out⟩
        · rw [outP_len]; rfl
        · rw [outP_len]; exact HC3.out

end Go.Proofs.YtaafgakflmgpoaaDoor
