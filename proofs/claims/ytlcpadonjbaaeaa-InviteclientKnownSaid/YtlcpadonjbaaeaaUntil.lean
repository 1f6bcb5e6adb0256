/- The walk of until: time passes, timers fire. -/
import Derived.Test.YtlcpadonjbaaeaaGive
import Derived.Test.YtlcpadonjbaaeaaPlayS
namespace Go.Proofs.Ytlcpadonjbaaeaa
open Go.RowKit

set_option maxRecDepth 100000 in
set_option maxHeartbeats 2000000 in
theorem until_any {N B g : Nat} {s : Sim} (t : Int) (w : World) (hs : SimAt w B g s) (ok : OkS N s) (hN : N + 2000 ≤ 1000000000) (ht : -100000000000000 ≤ t ∧ t ≤ N * 100000) :
    Calls Try.prog 10 #[.pointer (some ⟨g, 0, none⟩), .int .i64 t] w fun e w' => e = .returned (.tuple #[]) ∧ SimAt w' B g (untilS 200 s t) ∧ Below B w w' := by
  have HS : Hid (SimAt w B g s) := hs
  have HOK : Hid (OkS N s) := ok
  obtain ⟨ht1, ht2⟩ := ht
  have ht3 : t ≤ 100000000000000 := by omega
  have HT : Hid (t ≤ N * 100000) := ht2
  clear hs ok ht2
  go_enter Try.func10, Try.ntmps10
  go_wp2_with fail
  go_loopw [4] (fun n wr => ∃ k : Nat, ∃ s', k ≤ 200 ∧ n = .int .i64 k ∧ SimAt wr B g s' ∧ OkS (N + k * 8) s' ∧ untilS (200 - k) s' t = untilS 200 s t ∧ Below B w wr) (fun n _ => 200 - (intOf n).toNat)
  case atStart => exact ⟨0, s, by omega, rfl, HS.out, HOK.out.more (by omega), rfl, Below.refl _ _⟩
  case round =>
    obtain ⟨k, s', hk, rfl, hs, ok, hu, hb⟩ := hrel
    obtain ⟨v, hv⟩ := hs
    have q0 : g < wr.heap.size := hv.lt
    have HV : Hid (SimV wr B g s' v) := hv
    have HO : Hid (OkS (N + k * 8) s') := ok
    have HU : Hid (untilS (200 - k) s' t = untilS 200 s t) := hu
    have HB : Hid (Below B w wr) := hb
    clear hv ok hu hb
    by_cases hlt : k < 200
    · have hki : (k : Int) < 200 := by omega
      go_wp2_with fail
      go_loopw [5, 6] (fun f i wx => ∃ j : Nat, j ≤ 14 ∧ i = .int .i64 j ∧ f = .int .i64 (firstS s'.due t j) ∧ SimV wx B g s' v ∧ Below B w wx) (fun _ i _ => 14 - (intOf i).toNat)
      case atStart => exact ⟨0, by omega, rfl, rfl, HV.out, HB.out⟩
      case round =>
        obtain ⟨j, hj, rfl, rfl, hv2, hb2⟩ := hrel
        have q1 : g < wr.heap.size := hv2.lt
        obtain ⟨⟨m0, m1, m2⟩, mnow, mlog, mf, mdue⟩ := hv2.cells HO.out.1
        have HV2 : Hid (SimV wr B g s' v) := hv2
        have HB2 : Hid (Below B w wr) := hb2
        clear hv2 hb2
        by_cases hjt : j < 14
        · have hji : (j : Int) < 14 := by omega
          have md := mdue j hjt
          obtain ⟨f, hf⟩ : ∃ f, f = firstS s'.due t j := ⟨_, rfl⟩
          obtain ⟨d, hd⟩ : ∃ d, d = s'.due.getD j (-1) := ⟨_, rfl⟩
          rw [← hf]
          rw [← hd] at md
          have HN : Hid (firstS s'.due t (j + 1) = if 0 ≤ d ∧ d ≤ t ∧ (f < 0 ∨ d < s'.due.getD f.toNat (-1)) then (j : Int) else f) := by
            show firstS s'.due t (j + 1) = _
            rw [firstS, ← hf, ← hd]
          have hr := firstS_range s'.due t j
          rw [← hf] at hr
          have hf14 : f = -1 ∨ (0 ≤ f ∧ f < 14) := by omega
          have HF : Hid (f = firstS s'.due t j) := hf
          have HMd : Hid (∀ k, k < 14 → wr.cell? ⟨g, 3 + k, none⟩ = some (.int .i64 (s'.due.getD k (-1)))) := mdue
          clear hf hd mdue hr
          by_cases x1 : 0 ≤ d
          · have d1 : decide (0 ≤ d) = true := by simpa using x1
            by_cases x2 : d ≤ t
            · have d2 : decide (d ≤ t) = true := by simpa using x2
              by_cases x3 : f < 0
              · have d3 : decide (f < 0) = true := by simpa using x3
                go_upto_region 7 with fail
                go_quiet (fail)
                go_wp2_with fail
                go_roundw
                case rel => exact ⟨j + 1, by omega, by go_num, by rw [HN.out, if_pos (⟨x1, x2, .inl x3⟩)], HV2.out.below (below_drewN (Below.refl _ _) _), below_drewN HB2.out _⟩
                case measure => simp [intOf]; omega
              · have d3 : decide (f < 0) = false := by simp; omega
                have f0 : 0 ≤ f := by omega
                have f1 : f < 14 := by omega
                have mfd := HMd.out f.toNat (by omega)
                obtain ⟨df, hdf⟩ : ∃ x, x = s'.due.getD f.toNat (-1) := ⟨_, rfl⟩
                rw [← hdf] at mfd
                have HN' : Hid (firstS s'.due t (j + 1) = if 0 ≤ d ∧ d ≤ t ∧ (f < 0 ∨ d < df) then (j : Int) else f) := by rw [hdf]; exact HN
                clear hdf HN
                by_cases x4 : d < df
                · have d4 : decide (d < df) = true := by simpa using x4
                  go_upto_region 7 with fail
                  go_quiet (fail)
                  go_wp2_with fail
                  go_roundw
                  case rel => exact ⟨j + 1, by omega, by go_num, by rw [HN'.out, if_pos (⟨x1, x2, .inr x4⟩)], HV2.out.below (below_drewN (Below.refl _ _) _), below_drewN HB2.out _⟩
                  case measure => simp [intOf]; omega
                · have d4 : decide (d < df) = false := by simpa using x4
                  go_upto_region 7 with fail
                  go_quiet (fail)
                  go_wp2_with fail
                  go_roundw
                  case rel => exact ⟨j + 1, by omega, by go_num, by rw [HN'.out, if_neg (fun h => h.2.2.elim x3 x4)], HV2.out.below (below_drewN (Below.refl _ _) _), below_drewN HB2.out _⟩
                  case measure => simp [intOf]; omega
            · have d2 : decide (d ≤ t) = false := by simp; omega
              go_upto_region 7 with fail
              go_quiet (fail)
              go_wp2_with fail
              go_roundw
              case rel => exact ⟨j + 1, by omega, by go_num, by rw [HN.out, if_neg (fun h => x2 h.2.1)], HV2.out.below (below_drewN (Below.refl _ _) _), below_drewN HB2.out _⟩
              case measure => simp [intOf]; omega
          · have d1 : decide (0 ≤ d) = false := by simpa using x1
            go_upto_region 7 with fail
            go_quiet (fail)
            go_wp2_with fail
            go_roundw
            case rel => exact ⟨j + 1, by omega, by go_num, by rw [HN.out, if_neg (fun h => x1 h.1)], HV2.out.below (below_drewN (Below.refl _ _) _), below_drewN HB2.out _⟩
            case measure => simp [intOf]; omega
        · have hji : ¬ (j : Int) < 14 := by omega
          have hj14 : j = 14 := by omega
          subst hj14
          have hr := firstS_range s'.due t 14
          have HU' : Hid (untilS (200 - k) s' t = if firstS s'.due t 14 < 0 then { s' with now := max s'.now t } else untilS (200 - (k + 1)) (fireS s' (firstS s'.due t 14)) t) := by
            show untilS (200 - k) s' t = _
            have e : 200 - k = (200 - (k + 1)) + 1 := by omega
            rw [e, untilS]
          have hfire : ¬ firstS s'.due t 14 < 0 → OkS (N + k * 8 + 8) (fireS s' (firstS s'.due t 14)) := fun h => HO.out.fire h
          have HFire : Hid (¬ firstS s'.due t 14 < 0 → OkS (N + k * 8 + 8) (fireS s' (firstS s'.due t 14))) := hfire
          have HFs : Hid (fireS s' (firstS s'.due t 14) = giveS { s' with now := s'.due.getD (firstS s'.due t 14).toNat (-1), due := s'.due.set (firstS s'.due t 14).toNat (-1) } (5, 0, firstS s'.due t 14)) := rfl
          clear hfire
          generalize firstS s'.due t 14 = f at hr HU' HFire HFs ⊢
          by_cases x3 : f < 0
          · have d3 : decide (f < 0) = true := by simpa using x3
            go_wp2_with fail
            all_goals
              refine bodyPost_end (results_none rfl _ _ _) rfl ?_
              have e : untilS 200 s t = { s' with now := max s'.now t } := HU.out.symm.trans (by rw [HU'.out, if_pos x3])
              rw [e]
              first
                | (rw [show max s'.now t = t from by omega]
                   exact ⟨rfl, ⟨v, HV2.out.set_now HO.out.1 t⟩, HB2.out.setCell HV2.out.1 _⟩)
                | (rw [show max s'.now t = s'.now from by omega]
                   exact ⟨rfl, ⟨v, HV2.out.set_now HO.out.1 s'.now⟩, HB2.out.setCell HV2.out.1 _⟩)
          · have d3 : decide (f < 0) = false := by simp; omega
            have f0 : 0 ≤ f := by omega
            have f1 : f < 14 := by omega
            have mfd := mdue f.toNat (by omega)
            clear mdue
            obtain ⟨df, hdf⟩ : ∃ x, x = s'.due.getD f.toNat (-1) := ⟨_, rfl⟩
            rw [← hdf] at mfd
            have HD : Hid (df = s'.due.getD f.toNat (-1)) := hdf
            have hdf0 : 0 ≤ s'.due.getD f.toNat (-1) := by
              rcases hr with h | ⟨-, -, r3, -⟩
              · omega
              · exact r3
            have HDf0 : Hid (0 ≤ s'.due.getD f.toNat (-1)) := hdf0
            clear hdf hr hdf0
            go_wp2_with fail
            have hdf0 := HDf0.out
            have hs3 : SimAt ((wr.setCell ⟨g, 17, none⟩ (.int .i64 df)).setCell ⟨g, 3 + f.toNat, none⟩ (.int .i64 (-1))) B g { s' with now := s'.due.getD f.toNat (-1), due := s'.due.set f.toNat (-1) } := by
              rw [← HD.out]
              exact ⟨v, (HV2.out.set_now HO.out.1 df).set_due HO.out.1 (by omega) (-1)⟩
            have hb3 : Below B w ((wr.setCell ⟨g, 17, none⟩ (.int .i64 df)).setCell ⟨g, 3 + f.toNat, none⟩ (.int .i64 (-1))) := (HB2.out.setCell HV2.out.1 _).setCell HV2.out.1 _
            have ok3 : OkS (N + k * 8) { s' with now := s'.due.getD f.toNat (-1), due := s'.due.set f.toNat (-1) } := by
              obtain ⟨h1, h2, h3, h4, h5⟩ := HO.out
              refine ⟨by simpa using h1, fun d hd => ?_, hdf0, (OkS.due_at ⟨h1, h2, h3, h4, h5⟩ _).2, h5⟩
              rcases List.mem_or_eq_of_mem_set hd with hd | rfl
              · exact h2 d hd
              · omega
            refine (give_any (N := N + k * 8) (B := B) (s := { s' with now := s'.due.getD f.toNat (-1), due := s'.due.set f.toNat (-1) }) (5, 0, f) _ hs3 ok3 (by omega)).mono ?_
            rintro e w3 ⟨rfl, hs4, hb4⟩
            have HS4 : Hid (SimAt w3 B g (fireS s' f)) := by rw [HFs.out]; exact hs4
            have HB4 : Hid (Below B w w3) := hb3.trans hb4
            clear hs3 hb3 ok3 hs4 hb4
            go_wp2_with fail
            go_roundw
            case rel => exact ⟨k + 1, fireS s' f, by omega, by go_num, HS4.out, (HFire.out x3).more (by omega), HU.out.symm.trans (by rw [HU'.out, if_neg (by omega)]) |>.symm, HB4.out⟩
            case measure => simp [intOf]; omega
    · have hki : ¬ (k : Int) < 200 := by omega
      have hk2 : k = 200 := by omega
      subst hk2
      obtain ⟨-, mnow, mlog, mf, -⟩ := HV.out.cells HO.out.1
      go_wp2_with fail
      all_goals
        refine bodyPost_end (results_none rfl _ _ _) rfl ?_
        have e : untilS 200 s t = { s' with now := max s'.now t } := HU.out.symm
        rw [e]
        first
          | (rw [show max s'.now t = t from by omega]
             exact ⟨rfl, ⟨v, HV.out.set_now HO.out.1 t⟩, HB.out.setCell HV.out.1 _⟩)
          | (rw [show max s'.now t = s'.now from by omega]
             exact ⟨rfl, ⟨v, HV.out.set_now HO.out.1 s'.now⟩, HB.out.setCell HV.out.1 _⟩)

end Go.Proofs.Ytlcpadonjbaaeaa
