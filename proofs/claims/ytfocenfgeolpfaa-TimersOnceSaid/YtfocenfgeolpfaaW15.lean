/- The walk: agrees. -/
import Derived.Test.YtfocenfgeolpfaaW5
import Derived.Test.YtfocenfgeolpfaaOnceP
import Derived.Deep.QuietTactic
import Derived.BigQuiet
import Derived.IntWalk
namespace Go.Proofs.Ytfocenfgeolpfaa
open Go.RowKit

/-- A table's cells. -/
def tbC (tb : List Int) : Array Value := (tb.map (Value.int .i64)).toArray
theorem tb_at {w : World} {g : Nat} {t : TypeId} {tb : List Int} (h : w.heap[g]? = some (.cells (tbC tb) t (0, 0))) (hl : tb.length = 16) {i : Nat} (hi : i < 16) : w.cell? ⟨g, i, none⟩ = some (.int .i64 (tb.getD i 0)) := by
  rw [cells_of_block h i]
  simp [tbC, List.getD_eq_getElem?_getD, List.getElem?_eq_getElem (show i < tb.length by omega)]

set_option maxRecDepth 100000 in
set_option maxHeartbeats 4000000 in
theorem agrees_any {B : Nat} (A : Option Addr) (c : Nat) (l : List Tm) (n : Nat) (hn : l.length = n) (tb : List Int) (w : World) (hB : B ≤ w.heap.size) (h : TRd w B A l) (ag : AgP l tb) (ok : OkTb tb) :
    Calls Try.prog 32 #[.slice A n c, .agg (tbC tb)] w fun e w' => e = .returned (.bool true) ∧ Below w.heap.size w w' := by
  have HN : Hid (l.length = n) := hn
  have HT : Hid (TRd w B A l) := h
  have HA : Hid (AgP l tb) := ag
  have HO : Hid (OkTb tb) := ok
  have hn16 : n ≤ 16 := by have := cntP_le tb 16; have := ag.len; omega
  clear hn h ag ok
  go_enter Try.func32, Try.ntmps32
  go_wp2_with fail
  have hblk : (w.alloc (.cells (tbC tb) 50)).heap[w.heap.size]? = some (.cells (tbC tb) 50 (0, 0)) := heap_alloc_new _ _
  have hb1 : Below w.heap.size w (w.alloc (.cells (tbC tb) 50)) := (Below.refl _ _).alloc (Nat.le_refl _) _
  have q0 : w.heap.size < (w.alloc (.cells (tbC tb) 50)).heap.size := by simp
  generalize w.alloc _ = w1 at hblk hb1 q0 ⊢
  have HB : Hid (w1.heap[w.heap.size]? = some (.cells (tbC tb) 50 (0, 0))) := hblk
  have HB1 : Hid (Below w.heap.size w w1) := hb1
  have HT1 : Hid (TRd w1 B A l) := HT.out.below (hb1.mono hB)
  clear hblk hb1
  go_loop [5, 6] (fun m i => ∃ o : Nat, o ≤ 4 ∧ i = .int .i64 o ∧ m = .int .i64 (cntP tb (o * 4))) (fun _ i => 4 - (intOf i).toNat)
  case atStart => exact ⟨0, by omega, rfl, rfl⟩
  case round =>
    obtain ⟨o, ho, rfl, rfl⟩ := hrel
    by_cases hlt : o < 4
    · have hki : (o : Int) < 4 := by omega
      go_wp2_with fail
      go_loop [5, 7] (fun m i => ∃ k : Nat, k ≤ 4 ∧ i = .int .i64 k ∧ m = .int .i64 (cntP tb (o * 4 + k))) (fun _ i => 4 - (intOf i).toNat)
      case atStart => exact ⟨0, by omega, rfl, rfl⟩
      case round =>
        obtain ⟨k, hk, rfl, rfl⟩ := hrel
        by_cases hlt2 : k < 4
        · have hki2 : (k : Int) < 4 := by omega
          have md := tb_at HB.out HO.out.1 (i := o * 4 + k) (by omega)
          have hle := cntP_le tb (o * 4 + k)
          have HS : Hid (cntP tb (o * 4 + k + 1) = cntP tb (o * 4 + k) + if 0 < tb.getD (o * 4 + k) 0 then 1 else 0) := cntP_succ tb (o * 4 + k)
          generalize tb.getD (o * 4 + k) 0 = x at md HS
          generalize cntP tb (o * 4 + k) = y at hle HS ⊢
          by_cases h0 : 0 < x
          · have d0 : decide (0 < x) = true := by simpa using h0
            go_wp2_with fail
            go_round
            case rel => exact ⟨k + 1, by omega, by go_num, by rw [← Nat.add_assoc, HS.out, if_pos h0]; go_num⟩
            case measure => simp [intOf]; omega
          · have d0 : decide (0 < x) = false := by simpa using h0
            have HS2 : Hid (cntP tb (o * 4 + k + 1) = y) := by show cntP tb (o * 4 + k + 1) = y; rw [HS.out, if_neg h0, Nat.add_zero]
            clear h0 HS
            go_wp2_with fail
            go_round
            case rel => exact ⟨k + 1, by omega, by go_num, by rw [← Nat.add_assoc, HS2.out]⟩
            case measure => simp [intOf]; omega
        · have hki2 : ¬ (k : Int) < 4 := by omega
          have hk4 : k = 4 := by omega
          subst hk4
          go_wp2_with fail
          go_round
          case rel => exact ⟨o + 1, by omega, by go_num, by rw [Nat.add_mul]⟩
          case measure => simp [intOf]; omega
    · have hki : ¬ (o : Int) < 4 := by omega
      have ho4 : o = 4 := by omega
      subst ho4
      have e4 : cntP tb (4 * 4) = n := HA.out.len.symm.trans HN.out
      rw [e4]
      clear e4
      go_wp2_with fail
      go_loopw [8] (fun i wr => ∃ j : Nat, j ≤ n ∧ i = .int .i64 j ∧ Below w1.heap.size w1 wr) (fun i _ => n - (intOf i).toNat)
      case atStart => exact ⟨0, by omega, rfl, Below.refl _ _⟩
      case round =>
        obtain ⟨j, hj, rfl, hb⟩ := hrel
        have HBr : Hid (Below w1.heap.size w1 wr) := hb
        by_cases hjn : j < n
        · have hji : (j : Int) < (n : Int) := by omega
          have hz := hb.size
          have q1 : w.heap.size < wr.heap.size := by omega
          have htr : TRd wr B A l := HT1.out.below (hb.mono (by have := HB1.out.size; omega))
          have hblk : wr.heap[w.heap.size]? = some (.cells (tbC tb) 50 (0, 0)) := block_below HB.out hb q0
          obtain ⟨b, off, t, rfl, hbB, htj, c0, c1, c2⟩ := htr.at_ (k := j) (by rw [HN.out]; exact hjn)
          obtain ⟨i, hi, hx0, rfl⟩ := HA.out.mem (List.mem_of_getElem? htj)
          have q2 : b < wr.heap.size := by omega
          obtain ⟨o, k, ho, hk, e1, e2, e3⟩ : ∃ o k : Nat, o < 4 ∧ k < 4 ∧ i / 4 = o ∧ i % 4 = k ∧ i = o * 4 + k := ⟨i / 4, i % 4, by omega, by omega, rfl, rfl, by omega⟩
          have md := tb_at hblk HO.out.1 hi
          have hx1 := HO.out.2 (tb.getD i 0) (by rw [List.getD_eq_getElem?_getD, List.getElem?_eq_getElem (by rw [HO.out.1]; exact hi)]; exact List.getElem_mem _)
          rw [e1] at c1
          rw [e2] at c2
          rw [e1, e2] at htj
          have HJ : Hid (l[j]? = some (tb.getD i 0 - 1, (o : Int), (k : Int))) := htj
          have hx2 := hx1.2
          generalize tb.getD i 0 = x at *
          rw [e3] at md
          have hap := HA.out.apart
          have hso := HA.out.2
          have HAp : Hid (∀ q t', q < j → l[q]? = some t' → ¬ (t'.2.1 = (o : Int) ∧ t'.2.2 = (k : Int))) := fun q t' hq ht' hx => by
            have hql := (List.getElem?_eq_some_iff.1 ht')
            have hjl := (List.getElem?_eq_some_iff.1 htj)
            have := (List.pairwise_iff_getElem.1 hap) q j hql.1 hjl.1 hq
            rw [hql.2, hjl.2] at this
            exact this hx
          have HSo : Hid (∀ q t', q < j → l[q]? = some t' → t'.1 ≤ x - 1) := fun q t' hq ht' => by
            have hql := (List.getElem?_eq_some_iff.1 ht')
            have hjl := (List.getElem?_eq_some_iff.1 htj)
            have := (List.pairwise_iff_getElem.1 hso) q j hql.1 hjl.1 hq
            rw [hql.2, hjl.2] at this
            exact this
          have HTr : Hid (TRd wr B (some ⟨b, off, none⟩) l) := htr
          have w1' : IntKind.i64.wrap x = x := IntWalk.i64_in _ (by omega)
          have d1 : decide ((o : Int) < 0) = false := by simp
          have d2 : decide (3 < (o : Int)) = false := by simp; omega
          have d3 : decide ((k : Int) < 0) = false := by simp
          have d4 : decide (3 < (k : Int)) = false := by simp; omega
          have o4 : (o : Int) < 4 := by omega
          have k4 : (k : Int) < 4 := by omega
          clear hap hso htr htj hbB hx0 e1 e2 e3 hi hx1 hblk hb
          by_cases hj0 : 0 < j
          · have d5 : decide (0 < j) = true := by simpa using hj0
            have g1 : (1 : Int) ≤ (j : Int) := by omega
            have g0 : (0 : Int) ≤ (j : Int) - 1 := by omega
            have g2 : (j : Int) - 1 < (n : Int) := by omega
            have g3 : ((j : Int) - 1).toNat = j - 1 := by omega
            have g4 : IntKind.i64.wrap ((j : Int) - 1) = (j : Int) - 1 := IntWalk.i64_in _ (by omega)
            obtain ⟨b', off', t2, he, -, ht2, y0, -, -⟩ := HTr.out.at_ (k := j - 1) (by rw [HN.out]; omega)
            cases he
            have hle2 := HSo.out (j - 1) t2 (by omega) ht2
            have d6 : decide (x - 1 < t2.1) = false := by simp; omega
            clear hle2 ht2 hj0
            go_wp2_with fail
            go_quiet (fail)
            go_wp2_with fail
            go_quiet (fail)
            clear w1'
            go_wp2_with fail
            have q1' : w.heap.size < wr.heap.size := q1
            go_loop [11] (fun i => ∃ q : Nat, q ≤ j ∧ i = .int .i64 q) (fun i => j - (intOf i).toNat)
            case atStart => exact ⟨0, by omega, rfl⟩
            case round =>
              obtain ⟨q, hq, rfl⟩ := hrel
              by_cases hqj : q < j
              · have hqi : (q : Int) < (j : Int) := by omega
                have hqn : (q : Int) < (n : Int) := by omega
                obtain ⟨b', off', t', he, hb', ht', e0, e1, e2⟩ := HTr.out.at_ (k := q) (by rw [HN.out]; omega)
                cases he
                have hne := HAp.out q t' hqj ht'
                have q2' : b < wr.heap.size := q2
                clear ht' hb'
                by_cases x1 : t'.2.1 = (o : Int)
                · have x2 : ¬ t'.2.2 = (k : Int) := fun x => hne ⟨x1, x⟩
                  have f1 : (t'.2.1 == (o : Int)) = true := by simpa using x1
                  have f2 : (t'.2.2 == (k : Int)) = false := by simpa using x2
                  clear x1 x2 hne
                  go_wp2_with fail
                  go_round
                  case rel => exact ⟨q + 1, by omega, by go_num⟩
                  case measure => simp [intOf]; omega
                · have f1 : (t'.2.1 == (o : Int)) = false := by simpa using x1
                  clear x1 hne
                  go_wp2_with fail
                  go_round
                  case rel => exact ⟨q + 1, by omega, by go_num⟩
                  case measure => simp [intOf]; omega
              · have hqi : ¬ (q : Int) < (j : Int) := by omega
                go_wp2_with fail
                go_roundw
                case rel => exact ⟨j + 1, by omega, by go_num, below_drewN HBr.out _⟩
                case measure => simp [intOf]; omega
          · have d5 : decide (0 < j) = false := by simpa using hj0
            clear hj0
            go_wp2_with fail
            go_quiet (fail)
            go_wp2_with fail
            go_quiet (fail)
            clear w1'
            go_wp2_with fail
            have q1' : w.heap.size < wr.heap.size := q1
            go_loop [11] (fun i => ∃ q : Nat, q ≤ j ∧ i = .int .i64 q) (fun i => j - (intOf i).toNat)
            case atStart => exact ⟨0, by omega, rfl⟩
            case round =>
              obtain ⟨q, hq, rfl⟩ := hrel
              by_cases hqj : q < j
              · have hqi : (q : Int) < (j : Int) := by omega
                have hqn : (q : Int) < (n : Int) := by omega
                obtain ⟨b', off', t', he, hb', ht', e0, e1, e2⟩ := HTr.out.at_ (k := q) (by rw [HN.out]; omega)
                cases he
                have hne := HAp.out q t' hqj ht'
                have q2' : b < wr.heap.size := q2
                clear ht' hb'
                by_cases x1 : t'.2.1 = (o : Int)
                · have x2 : ¬ t'.2.2 = (k : Int) := fun x => hne ⟨x1, x⟩
                  have f1 : (t'.2.1 == (o : Int)) = true := by simpa using x1
                  have f2 : (t'.2.2 == (k : Int)) = false := by simpa using x2
                  clear x1 x2 hne
                  go_wp2_with fail
                  go_round
                  case rel => exact ⟨q + 1, by omega, by go_num⟩
                  case measure => simp [intOf]; omega
                · have f1 : (t'.2.1 == (o : Int)) = false := by simpa using x1
                  clear x1 hne
                  go_wp2_with fail
                  go_round
                  case rel => exact ⟨q + 1, by omega, by go_num⟩
                  case measure => simp [intOf]; omega
              · have hqi : ¬ (q : Int) < (j : Int) := by omega
                go_wp2_with fail
                go_roundw
                case rel => exact ⟨j + 1, by omega, by go_num, below_drewN HBr.out _⟩
                case measure => simp [intOf]; omega
        · have hji : ¬ (j : Int) < (n : Int) := by omega
          go_wp2_with fail
          go_ret
          exact ⟨rfl, HB1.out.trans (HBr.out.mono HB1.out.size)⟩

end Go.Proofs.Ytfocenfgeolpfaa
