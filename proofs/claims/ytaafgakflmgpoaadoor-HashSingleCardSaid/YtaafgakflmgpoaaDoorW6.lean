/- The walk of Feed, the reference's: one byte after the other. -/
import Derived.Test.YtaafgakflmgpoaaDoorW5
namespace Go.Proofs.YtaafgakflmgpoaaDoor
open Go.RowKit

theorem u8s_rd {w : World} {B : Nat} {A : Option Addr} {l : List Int} (h : Rd w B A (u8s l)) {k : Nat} (hk : k < l.length) : ∃ b off, A = some ⟨b, off, none⟩ ∧ b < B ∧ w.cell? ⟨b, off + k, none⟩ = some (.int .u8 (l.getD k 0)) := by
  obtain ⟨b, off, hA, hb, hc⟩ := Rd.cell h (j := k) (by rw [u8s_len]; exact hk)
  refine ⟨b, off, hA, hb, ?_⟩
  rw [hc]
  simp [u8s, hk]
theorem stc_over_v (s : St) (v : V8) : over (stc s) 0 (v8c v).toList = stc { s with v := v } := rfl
theorem stc_over_t {s : St} (h : s.t.length = 64) (t : List Int) (ht : t.length = 64) : over (stc s) 9 (u8s t) = stc { s with t := t } := by
  have e1 : (stc s).take 9 = u32s s.v.list ++ [.int .u64 s.n] := rfl
  have e2 : (stc s).drop (9 + (u8s t).length) = [] := List.drop_of_length_le (by rw [stc_len h, u8s_len, ht]; omega)
  unfold over
  rw [e1, e2]
  simp [stc]
theorem SAt.set_v {w : World} {g : Nat} {s : St} (h : SAt w g s) (v : V8) : SAt (w.setRow g (over (stc s) 0 (v8c v).toList).toArray) g { s with v := v } := by
  have := setRow_heap w g _ (over (stc s) 0 (v8c v).toList).toArray 32 (0, 0) h
  rw [stc_over_v] at this ⊢
  exact this
theorem SAt.row {w : World} {g : Nat} {s s' : St} (h : SAt w g s) : SAt (w.setRow g (stc s').toArray) g s' := setRow_heap w g _ _ 32 (0, 0) h
theorem SAt.other {w : World} {g k : Nat} {s : St} (h : SAt w k s) (hk : k ≠ g) (cs : Array Value) : SAt (w.setRow g cs) k s := by
  unfold SAt
  rw [setRow_other w g k cs hk]; exact h
theorem SAt.t_part {w : World} {g : Nat} {s : St} (h : SAt w g s) (hl : s.t.length = 64) : ∀ j u, (u8s s.t).toArray.toList[j]? = some u → w.cell? ⟨g, 9 + j, none⟩ = some u := by
  intro j u hu
  have hu : (u8s s.t)[j]? = some u := hu
  have hj : j < 64 := by have := (List.getElem?_eq_some_iff.1 hu).1; rw [u8s_len] at this; omega
  rw [h.t hl hj, ← hu]
  simp [u8s, hl, hj]
theorem SAt.v_part {w : World} {g : Nat} {s : St} (h : SAt w g s) : ∀ j u, (v8c s.v).toList[j]? = some u → w.cell? ⟨g, 0 + j, none⟩ = some u := by
  intro j u hu
  have hj : j < 8 := (List.getElem?_eq_some_iff.1 hu).1
  rw [Nat.zero_add, h.cell j, stc_v s hj, ← hu]
  rcases (show j = 0 ∨ j = 1 ∨ j = 2 ∨ j = 3 ∨ j = 4 ∨ j = 5 ∨ j = 6 ∨ j = 7 by omega) with rfl | rfl | rfl | rfl | rfl | rfl | rfl | rfl <;> rfl
theorem canon_full {v : V8} {n : Int} {t : List Int} (h : n % 64 = 0) : canonS ⟨v, n, t⟩ = ⟨v, n, zeros 64⟩ := by
  have e : (St.mk v n t).at_ = 0 := by unfold St.at_; simp only; omega
  unfold canonS
  rw [e]
  simp
theorem size30' : (Tryd.prog.info? 30).map (·.size) = some 64 := by kernel_rfl

set_option maxRecDepth 100000 in
set_option maxHeartbeats 4000000 in
theorem rfeed_any {B : Nat} (s : St) (hs : Wf s) (A : Option Addr) (c : Nat) (l : List Int) (w : World) (hB : B ≤ w.heap.size) (h : Rd w B A (u8s l)) (hl : l.length ≤ maxLen) (hg : ∀ b ∈ l, goodB b) :
    Calls Tryd.prog 20 #[.agg (stc s).toArray, .slice A l.length c] w fun e w' => e = .returned (.agg (stc (feedS s l)).toArray) ∧ Below w.heap.size w w' := by
  have HS : Hid (Wf s) := hs
  have HR : Hid (Rd w w.heap.size A (u8s l)) := h.more hB
  have HG : Hid (∀ b ∈ l, goodB b) := hg
  unfold maxLen at hl
  clear hs h hg hB
  have z32 := zero32
  go_enter Tryd.func20, Tryd.ntmps20
  go_upto_region 1 with fail
  generalize hW : World.alloc (World.alloc w _) _ = w3
  obtain ⟨hs0, hr0, hz, hbl⟩ := two_gen hW
  have HS0 : Hid (SAt w3 w.heap.size s) := hs0
  have HR0 : Hid (SAt w3 (w.heap.size + 1) zeroSt) := hr0
  have HL : Hid (Below w.heap.size w w3) := hbl
  have q0 : w.heap.size + 1 < w3.heap.size := by omega
  clear hs0 hr0 hbl hW hz
  go_wp2_with (refine wpList_load_row rfl 32 (.tmp 2) rfl w.heap.size rfl 32 (stc s).toArray (0, 0) _ HS0.out Tryd.underlying32 rfl (size32 HS.out.len) ?_)
  refine (canon_any s HS.out _).mono ?_
  rintro e w4 ⟨rfl, hb4⟩
  have HLen : Hid ((canonS s).t.length = 64) := HS.out.canon.len
  have HS4 : Hid (SAt w4 w.heap.size s) := HS0.out.below hb4 (by omega)
  have HR4 : Hid (SAt w4 (w.heap.size + 1) zeroSt) := HR0.out.below hb4 q0
  have HL4 : Hid (Below w.heap.size w w4) := HL.out.trans (hb4.mono (by omega))
  clear hb4
  go_upto_region 2 with (refine wpList_store_row rfl 32 (.tmp 2) (.tmp 7) rfl w.heap.size rfl (stc (canonS s)).toArray rfl 32 _ HS4.out (by rw [List.size_toArray, List.size_toArray, stc_len HS.out.len, stc_len HLen.out]) (size32 HLen.out) (one_stc _) ?_)
  have hs5 : SAt (w4.setRow w.heap.size (stc (canonS s)).toArray) w.heap.size (canonS s) := HS4.out.row
  have hr5 : SAt (w4.setRow w.heap.size (stc (canonS s)).toArray) (w.heap.size + 1) zeroSt := HR4.out.other (by omega) _
  have hl5 : Below w.heap.size w (w4.setRow w.heap.size (stc (canonS s)).toArray) := below_setRow HL4.out (Nat.le_refl _) _
  generalize w4.setRow w.heap.size _ = w5 at hs5 hr5 hl5 ⊢
  have HS5 : Hid (SAt w5 w.heap.size (canonS s)) := hs5
  have HR5 : Hid (SAt w5 (w.heap.size + 1) zeroSt) := hr5
  have HL5 : Hid (Below w.heap.size w w5) := hl5
  clear hs5 hr5 hl5
  go_wp2
  go_loopw [5] (fun i wr => ∃ k : Nat, k ≤ l.length ∧ i = .int .i64 k ∧ Below w.heap.size w wr ∧ SAt wr w.heap.size (bytesS (canonS s) (l.take k)) ∧ SAt wr (w.heap.size + 1) zeroSt) (fun i _ => l.length - (intOf i).toNat)
  case atStart => exact ⟨0, by omega, rfl, HL5.out, HS5.out, HR5.out⟩
  case round =>
    obtain ⟨k, hk, rfl, hbr, hsr, hrr⟩ := hrel
    have HBR : Hid (Below w.heap.size w wr) := hbr
    have HRR : Hid (SAt wr (w.heap.size + 1) zeroSt) := hrr
    have hwf : Wf (bytesS (canonS s) (l.take k)) := HS.out.canon.bytes fun b hb => HG.out b (List.mem_of_mem_take hb)
    by_cases hlt : k < l.length
    · have hki : (k : Int) < (l.length : Int) := by omega
      obtain ⟨b, off, rfl, hbB, cb⟩ := u8s_rd (HR.out.below hbr) hlt
      have hx : goodB (l.getD k 0) := by
        have : l.getD k 0 = l[k] := by simp [List.getD_eq_getElem?_getD, hlt]
        rw [this]; exact HG.out _ (List.getElem_mem hlt)
      have HN : Hid (bytesS (canonS s) (l.take (k + 1)) = byteS (bytesS (canonS s) (l.take k)) (l.getD k 0)) := by
        show bytesS _ _ = _
        rw [List.take_add_one, List.getElem?_eq_getElem hlt, bytesS_append]
        simp [bytesS, List.getD_eq_getElem?_getD, List.getElem?_eq_getElem hlt]
      obtain ⟨st, hst⟩ : ∃ st, st = bytesS (canonS s) (l.take k) := ⟨_, rfl⟩
      rw [← hst] at hsr hwf HN
      generalize l.getD k 0 = x at cb hx HN
      have HWf : Hid (Wf st) := hwf
      have HSR : Hid (SAt wr w.heap.size st) := hsr
      have n0 := hwf.lo
      have n1 := hwf.hi
      have cn := hsr.n
      have hat := st.at_lt
      have ct := hsr.t hwf.len hat
      have f9 := hsr.frozen (9 + st.at_)
      have f8 := hsr.frozen 8
      have q1 := hsr.lt
      have q2 : b < wr.heap.size := by have := hbr.size; omega
      have ha1 : st.n % 64 = (st.at_ : Int) := by unfold St.at_; omega
      have ha2 : st.n.tmod 64 = (st.at_ : Int) := by rw [Int.tmod_eq_emod_of_nonneg n0]; exact ha1
      have ha3 : (st.at_ : Int) < 64 := by omega
      have ha4 : IntKind.i64.wrap (st.at_ : Int) = (st.at_ : Int) := IntWalk.i64_in _ (by omega)
      have HA1 : Hid (st.n % 64 = (st.at_ : Int)) := ha1
      obtain ⟨x0, x1⟩ := hx
      have hne : b ≠ w.heap.size := by omega
      clear hsr hrr hbr hst hwf
      go_wp2
      go_still_tail 10, (by kernel_rfl)
      clear ha1 ha2 ha4
      go_upto_region 6 with fail
      have hs6 : SAt (wr.setCell ⟨w.heap.size, 9 + st.at_, none⟩ (.int .u8 x)).drew w.heap.size { st with t := st.t.set st.at_ x } := HSR.out.set _ x
      have hr6 : SAt (wr.setCell ⟨w.heap.size, 9 + st.at_, none⟩ (.int .u8 x)).drew (w.heap.size + 1) zeroSt := set_other HRR.out (by omega) _ _
      have hl6 : Below w.heap.size w (wr.setCell ⟨w.heap.size, 9 + st.at_, none⟩ (.int .u8 x)).drew := (HBR.out.setCell (Nat.le_refl _) _).drew
      generalize World.drew _ = w6 at hs6 hr6 hl6 ⊢
      clear cn ct f9 f8 q1 q2 cb
      have cn := hs6.n
      have f8 := hs6.frozen 8
      have q1 := hs6.lt
      have HS6 : Hid (SAt w6 w.heap.size { st with t := st.t.set st.at_ x }) := hs6
      have HR6 : Hid (SAt w6 (w.heap.size + 1) zeroSt) := hr6
      have HL6 : Hid (Below w.heap.size w w6) := hl6
      clear hs6 hr6 hl6
      go_upto_region 7 with fail
      have hwr : IntKind.u64.wrap (st.n + 1) = (st.n + 1) % 18446744073709551616 := by simp [IntKind.wrap_u64]
      have hs7 := HS6.out.set_n (IntKind.u64.wrap (st.n + 1))
      have hr7 : SAt (w6.setCell ⟨w.heap.size, 8, none⟩ (.int .u64 (IntKind.u64.wrap (st.n + 1)))) (w.heap.size + 1) zeroSt := set_other HR6.out (by omega) _ _
      have hl7 : Below w.heap.size w (w6.setCell ⟨w.heap.size, 8, none⟩ (.int .u64 (IntKind.u64.wrap (st.n + 1)))) := HL6.out.setCell (Nat.le_refl _) _
      simp only [] at hs7
      generalize World.setCell _ _ _ = w7 at hs7 hr7 hl7 ⊢
      generalize IntKind.u64.wrap (st.n + 1) = n' at hs7 hwr ⊢
      have m0 : 0 ≤ n' := by rw [hwr]; omega
      have m1 : n' ≤ 18446744073709551615 := by rw [hwr]; omega
      have HNN : Hid (n' = (st.n + 1) % 18446744073709551616) := hwr
      have HS7 : Hid (SAt w7 w.heap.size ⟨st.v, n', st.t.set st.at_ x⟩) := hs7
      have HR7 : Hid (SAt w7 (w.heap.size + 1) zeroSt) := hr7
      have HL7 : Hid (Below w.heap.size w w7) := hl7
      have HTL : Hid ((st.t.set st.at_ x).length = 64) := by show _ = _; rw [List.length_set]; exact HWf.out.len
      have HTG : Hid (good8 (st.t.set st.at_ x)) := fun i => by
        rw [getD_set]
        split
        · exact ⟨x0, x1⟩
        · exact HWf.out.good i
      clear cn f8 q1
      have cn := hs7.n
      have q1 := hs7.lt
      clear hs7 hr7 hl7 hwr
      simp only [] at cn
      by_cases hq : n' % 64 = 0
      · have hqb : (n' % 64 == 0) = true := by simpa using hq
        have HB1 : Hid (byteS st x = ⟨blockS st.v (st.t.set st.at_ x), n', zeros 64⟩) := by show byteS st x = _; unfold byteS; rw [← HNN.out, if_pos hq]
        have HQ : Hid (n' % 64 = 0) := hq
        clear hq
        go_wp2_with (first
          | (refine wpList_load_part rfl 28 (.tmp 32) rfl w.heap.size 0 rfl (v8c st.v) _ HS7.out.v_part Tryd.underlying28 rfl size28 ?_)
          | (refine wpList_load_part rfl 30 (.tmp 34) rfl w.heap.size 9 rfl (u8s (st.t.set st.at_ x)).toArray _ (HS7.out.t_part HTL.out) Tryd.underlying30 rfl (size30 HTL.out) ?_))
        refine (block_any st.v _ HTL.out HTG.out _).mono ?_
        rintro e w8 ⟨rfl, hb8⟩
        have HS8 : Hid (SAt w8 w.heap.size ⟨st.v, n', st.t.set st.at_ x⟩) := HS7.out.below hb8 q1
        have HR8 : Hid (SAt w8 (w.heap.size + 1) zeroSt) := HR7.out.below hb8 HR7.out.lt
        have HL8 : Hid (Below w.heap.size w w8) := HL7.out.trans (hb8.mono (by omega))
        clear hb8 cn q1
        go_upto_region 9 with (refine wpList_store_part rfl 28 (.tmp 37) (.tmp 36) rfl w.heap.size 0 rfl (v8c (blockS st.v (st.t.set st.at_ x))) rfl 32 _ HS8.out (by rw [stc_len HTL.out]; show 0 + 8 ≤ 73; omega) size28 (one_u32 (blockS st.v (st.t.set st.at_ x)).list) ?_)
        have hs9 := HS8.out.set_v (blockS st.v (st.t.set st.at_ x))
        have hr9 := HR8.out.other (g := w.heap.size) (by omega) (over (stc ⟨st.v, n', st.t.set st.at_ x⟩) 0 (v8c (blockS st.v (st.t.set st.at_ x))).toList).toArray
        have hl9 := below_setRow HL8.out (Nat.le_refl _) (over (stc ⟨st.v, n', st.t.set st.at_ x⟩) 0 (v8c (blockS st.v (st.t.set st.at_ x))).toList).toArray
        simp only [] at hs9
        generalize World.setRow _ _ _ = w9 at hs9 hr9 hl9 ⊢
        have HS9 : Hid (SAt w9 w.heap.size ⟨blockS st.v (st.t.set st.at_ x), n', st.t.set st.at_ x⟩) := hs9
        have HR9 : Hid (SAt w9 (w.heap.size + 1) zeroSt) := hr9
        have HL9 : Hid (Below w.heap.size w w9) := hl9
        clear hs9 hr9 hl9
        have HW9 : Hid (Wf ⟨blockS st.v (st.t.set st.at_ x), n', st.t.set st.at_ x⟩) := ⟨HTL.out, HTG.out, m0, m1⟩
        generalize blockS st.v (st.t.set st.at_ x) = bv at HS9 HW9 HB1
        go_wp2_with (refine wpList_load_row rfl 32 (.tmp 2) rfl w.heap.size rfl 32 (stc ⟨bv, n', st.t.set st.at_ x⟩).toArray (0, 0) _ HS9.out Tryd.underlying32 rfl (size32 HTL.out) ?_)
        refine (canon_any _ HW9.out _).mono ?_
        rw [canon_full HQ.out]
        rintro e w10 ⟨rfl, hb10⟩
        have HS10 : Hid (SAt w10 w.heap.size ⟨bv, n', st.t.set st.at_ x⟩) := HS9.out.below hb10 HS9.out.lt
        have HR10 : Hid (SAt w10 (w.heap.size + 1) zeroSt) := HR9.out.below hb10 HR9.out.lt
        have HL10 : Hid (Below w.heap.size w w10) := HL9.out.trans (hb10.mono (by have := HS9.out.lt; omega))
        clear hb10
        go_wp2_with (refine wpList_store_row rfl 32 (.tmp 2) (.tmp 39) rfl w.heap.size rfl (stc ⟨bv, n', zeros 64⟩).toArray rfl 32 _ HS10.out (by rw [List.size_toArray, List.size_toArray, stc_len HTL.out, stc_len (zeros_len 64)]) (size32 (zeros_len 64)) (one_stc _) ?_)
        go_roundw
        case rel =>
          refine ⟨k + 1, by omega, by go_num, below_setRow HL10.out (Nat.le_refl _) _, ?_, HR10.out.other (by omega) _⟩
          rw [HN.out, HB1.out]
          exact HS10.out.row
        case measure => simp [intOf]; omega
      · have hqb : (n' % 64 == 0) = false := by simpa using hq
        have HB1 : Hid (byteS st x = ⟨st.v, n', st.t.set st.at_ x⟩) := by show byteS st x = _; unfold byteS; rw [← HNN.out, if_neg hq]
        clear hq
        go_wp2
        go_roundw
        case rel => exact ⟨k + 1, by omega, by go_num, HL7.out, by rw [HN.out, HB1.out]; exact HS7.out, HR7.out⟩
        case measure => simp [intOf]; omega
    · have hki : ¬ (k : Int) < (l.length : Int) := by omega
      have hkl : k = l.length := by omega
      subst hkl
      have HF : Hid (bytesS (canonS s) (l.take l.length) = feedS s l) := by show _ = _; rw [List.take_length]; rfl
      rw [HF.out] at hsr
      have HSF : Hid (SAt wr w.heap.size (feedS s l)) := hsr
      have HLF : Hid ((feedS s l).t.length = 64) := by show _ = _; rw [← HF.out]; exact hwf.len
      clear hbr hsr hrr hwf
      go_wp2_with (first
        | (refine wpList_load_row rfl 32 (.tmp 2) rfl w.heap.size rfl 32 (stc (feedS s l)).toArray (0, 0) _ HSF.out Tryd.underlying32 rfl (size32 HLF.out) ?_)
        | (refine wpList_store_row rfl 32 (.tmp 4) (.tmp 40) rfl (w.heap.size + 1) rfl (stc (feedS s l)).toArray rfl 32 _ HRR.out (by rw [List.size_toArray, List.size_toArray, stc_len HLF.out, stc_len (zeros_len 64)]) (size32 HLF.out) (one_stc _) ?_))
      exact bodyPost_ret (results_cell_row rfl _ _ (w.heap.size + 1) 32 (stc (feedS s l)).toArray (0, 0) _ rfl (setRow_heap _ _ _ _ _ _ HRR.out) Tryd.underlying32 rfl (size32 HLF.out)) rfl ⟨rfl, below_setRow HBR.out (by omega) _⟩

end Go.Proofs.YtaafgakflmgpoaaDoor
