/- The walk of Feed, the program's: in pieces. -/
import Derived.Test.YtaafgakflmgpoaaDoorW6
namespace Go.Proofs.YtaafgakflmgpoaaDoor
open Go.RowKit

theorem stc_take (s : St) (p : Nat) : (stc s).take (9 + p) = u32s s.v.list ++ .int .u64 s.n :: u8s (s.t.take p) := by
  unfold stc
  rw [List.take_append, List.take_of_length_le (by rw [u32s_len]; show 8 ≤ 9 + p; omega)]
  have e : 9 + p - (u32s s.v.list).length = p + 1 := by rw [u32s_len]; show 9 + p - 8 = _; omega
  rw [e, List.take_succ_cons]
  simp [u8s, List.map_take]
theorem stc_drop (s : St) (p : Nat) : (stc s).drop (9 + p) = u8s (s.t.drop p) := by
  unfold stc
  rw [List.drop_append, List.drop_of_length_le (by rw [u32s_len]; show 8 ≤ 9 + p; omega)]
  have e : 9 + p - (u32s s.v.list).length = p + 1 := by rw [u32s_len]; show 9 + p - 8 = _; omega
  rw [e, List.drop_succ_cons]
  simp [u8s, List.map_drop]
theorem stc_over (s : St) (p : Nat) (cs : List Int) : over (stc s) (9 + p) (u8s cs) = stc { s with t := spl s.t p cs } := by
  unfold over
  rw [stc_take, u8s_len, Nat.add_assoc, stc_drop]
  simp [stc, spl, u8s]
theorem spl_zeros {s : St} (h : s.t.length = 64) : spl s.t s.at_ (zeros (64 - s.at_)) = (canonS s).t := by
  unfold spl canonS
  have := s.at_lt
  rw [zeros_len, List.drop_of_length_le (by omega)]
  simp
theorem at_bytes {s : St} (h : Wf s) (cs : List Int) (hl : ∀ b ∈ cs, goodB b) (hc : s.at_ + cs.length ≤ 64) (h0 : 0 < cs.length) : (bytesS s cs).at_ = (s.at_ + cs.length) % 64 := by
  rw [chunk h cs hl hc h0]
  have := h.lo
  have e : s.at_ = (s.n % 64).toNat := rfl
  split
  · unfold St.at_ at *; simp only at *; omega
  · unfold St.at_ at *; simp only at *; omega

theorem bytes_n {s : St} (h : Wf s) {l : List Int} (hl : ∀ b ∈ l, goodB b) : (bytesS s l).n = (s.n + (l.length : Int)) % 18446744073709551616 := by
  induction l generalizing s with
  | nil =>
    show s.n = _
    have := h.lo
    have := h.hi
    simp
    omega
  | cons b l ih =>
    show (bytesS (byteS s b) l).n = _
    rw [ih (h.byte (hl b (by simp))) fun x hx => hl x (by simp [hx])]
    have : (byteS s b).n = (s.n + 1) % 18446744073709551616 := by unfold byteS; split <;> rfl
    rw [this, List.length_cons]
    omega

/-- The tail of a state's bytes, as a slice. -/
theorem slice_tail (g p : Nat) (hp : p < 64) (w : World) : (Instr.sliceAt 30 (.pointer (some ⟨g, 9, none⟩)) (some (.int .i64 (p : Int))) none none).run Tryd.prog w = .ok (.slice (some ⟨g, 9 + p, none⟩) (64 - p) (64 - p)) w := by
  have hu := Tryd.underlying30
  have hs : (sizeOf 5).run Tryd.prog w = .ok 1 w := by kernel_rfl
  have h1 : ¬ (64 : Nat) = p := by omega
  have hb : (Instr.sliceBound (.int .i64 (p : Int)) 64 .sliceB).run Tryd.prog w = .ok p w := by
    have := run_sliceBound (P := Tryd.prog) (w := w) .i64 (p : Int) 64 .sliceB (by omega) (by omega)
    simpa using this
  simp [Instr.sliceAt, run_underlying hu, Instr.sureAddr, Instr.sliceBounds, Sem.run_bind, hs, h1, add_off, Result.andThen, hb]

set_option maxRecDepth 100000 in
set_option maxHeartbeats 4000000 in
theorem feed_any {B : Nat} (s : St) (hs : Wf s) (A : Option Addr) (c : Nat) (l : List Int) (w : World) (hL : Laid w) (hB : B ≤ w.heap.size) (h : Rd w B A (u8s l)) (hl : l.length ≤ maxLen) (hc : l.length ≤ c) (hcm : c ≤ maxLen) (hg : ∀ b ∈ l, goodB b) :
    Calls Tryd.prog 15 #[.agg (stc s).toArray, .slice A l.length c] w fun e w' => e = .returned (.agg (stc (feedS s l)).toArray) ∧ Below w.heap.size w w' := by
  have HS : Hid (Wf s) := hs
  have HLd : Hid (Laid w) := hL
  have HR : Hid (Rd w w.heap.size A (u8s l)) := h.more hB
  have HG : Hid (∀ b ∈ l, goodB b) := hg
  have hw2 := hL.lt
  have n0 := hs.lo
  have n1 := hs.hi
  have hat := s.at_lt
  unfold maxLen at hl hcm
  have ha1 : s.n % 64 = (s.at_ : Int) := by unfold St.at_; omega
  have HA1 : Hid (s.n % 64 = (s.at_ : Int)) := ha1
  have ha3 : (s.at_ : Int) < 64 := by omega
  clear hs h hg hB hL
  have hsl := fun W => slice_tail w.heap.size s.at_ hat W
  have z32 := zero32
  go_enter Tryd.func15, Tryd.ntmps15
  go_upto_region 1 with fail
  generalize hW : World.alloc (World.alloc w _) _ = w3
  obtain ⟨hs0, hr0, hz, hbl⟩ := two_gen hW
  have HS0 : Hid (SAt w3 w.heap.size s) := hs0
  have HR0 : Hid (SAt w3 (w.heap.size + 1) zeroSt) := hr0
  have HL : Hid (Below w.heap.size w w3) := hbl
  have q0 : w.heap.size < w3.heap.size := by omega
  have cn := HS0.out.n
  clear hs0 hr0 hbl hW hz
  go_upto_region 2 with fail
  rw [HA1.out]
  clear ha1
  have HCan : Hid ({ s with t := spl s.t s.at_ (zeros (64 - s.at_)) } = canonS s) := by show _ = _; rw [spl_zeros HS.out.len]; rfl
  go_upto_region 3 with (refine wpList_clear_u8 rfl (.tmp 13) 22 5 rfl w.heap.size (9 + s.at_) (64 - s.at_) (64 - s.at_) rfl 32 (stc s) HS0.out (by rw [stc_len HS.out.len]; omega) Tryd.underlying22 zero5 ?_)
  rw [stc_over, HCan.out]
  have hs4 : SAt (w3.setRow w.heap.size (stc (canonS s)).toArray) w.heap.size (canonS s) := HS0.out.row
  have hr4 : SAt (w3.setRow w.heap.size (stc (canonS s)).toArray) (w.heap.size + 1) zeroSt := HR0.out.other (by omega) _
  have hl4 : Below w.heap.size w (w3.setRow w.heap.size (stc (canonS s)).toArray) := below_setRow HL.out (Nat.le_refl _) _
  generalize World.setRow _ _ _ = w4 at hs4 hr4 hl4 ⊢
  clear cn q0
  have cn := hs4.n
  have f8 := hs4.frozen 8
  have q1 := hs4.lt
  have HS4 : Hid (SAt w4 w.heap.size (canonS s)) := hs4
  have HR4 : Hid (SAt w4 (w.heap.size + 1) zeroSt) := hr4
  have HL4 : Hid (Below w.heap.size w w4) := hl4
  clear hs4 hr4 hl4
  go_wp2
  have hwn : IntKind.u64.wrap ((canonS s).n + (l.length : Int)) = (s.n + l.length) % 18446744073709551616 := by simp [IntKind.wrap_u64, canonS]
  have hs5 := HS4.out.set_n (IntKind.u64.wrap ((canonS s).n + (l.length : Int)))
  have hr5 : SAt (w4.setCell ⟨w.heap.size, 8, none⟩ (.int .u64 (IntKind.u64.wrap ((canonS s).n + (l.length : Int))))) (w.heap.size + 1) zeroSt := set_other HR4.out (by omega) _ _
  have hl5 : Below w.heap.size w (w4.setCell ⟨w.heap.size, 8, none⟩ (.int .u64 (IntKind.u64.wrap ((canonS s).n + (l.length : Int))))) := HL4.out.setCell (Nat.le_refl _) _
  generalize World.setCell _ _ _ = w5 at hs5 hr5 hl5 ⊢
  generalize IntKind.u64.wrap ((canonS s).n + (l.length : Int)) = nT at hwn hs5 ⊢
  have HNT : Hid (nT = (s.n + l.length) % 18446744073709551616) := hwn
  have HS5 : Hid (SAt w5 w.heap.size { canonS s with n := nT }) := hs5
  have HR5 : Hid (SAt w5 (w.heap.size + 1) zeroSt) := hr5
  have HL5 : Hid (Below w.heap.size w w5) := hl5
  clear hs5 hr5 hl5 hwn cn f8 q1 hsl
  go_loopw [1, 5] (fun bv av wr => ∃ (k : Nat) (A' : Option Addr) (c' : Nat), k ≤ l.length ∧ bv = .slice A' (l.length - k) c' ∧ l.length - k ≤ c' ∧ c' ≤ 9223372036854775807 ∧ Rd w w.heap.size A' (u8s (l.drop k)) ∧ av = .int .i64 ((bytesS (canonS s) (l.take k)).at_ : Nat) ∧
    Below w.heap.size w wr ∧ SAt wr w.heap.size { bytesS (canonS s) (l.take k) with n := nT } ∧ SAt wr (w.heap.size + 1) zeroSt) (fun bv _ _ => match bv with | .slice _ n _ => n | _ => 0)
  case atStart => exact ⟨0, A, c, by omega, rfl, by omega, by omega, HR.out, rfl, HL5.out, HS5.out, HR5.out⟩
  case round =>
    obtain ⟨k, A', c', hk, rfl, hcc, hcm', hrd, rfl, hbr, hsr, hrr⟩ := hrel
    have HBR : Hid (Below w.heap.size w wr) := hbr
    have HRR : Hid (SAt wr (w.heap.size + 1) zeroSt) := hrr
    have hwf : Wf (bytesS (canonS s) (l.take k)) := HS.out.canon.bytes fun b hb => HG.out b (List.mem_of_mem_take hb)
    obtain ⟨L, hL⟩ : ∃ L, L = l.length - k := ⟨_, rfl⟩
    rw [← hL] at hcc ⊢
    obtain ⟨st, hst⟩ : ∃ st, st = bytesS (canonS s) (l.take k) := ⟨_, rfl⟩
    rw [← hst] at hsr hwf ⊢
    have HST : Hid (st = bytesS (canonS s) (l.take k)) := hst
    have HWf : Hid (Wf st) := hwf
    have HSR : Hid (SAt wr w.heap.size { st with n := nT }) := hsr
    have hp := st.at_lt
    by_cases hlt : k < l.length
    · have hL0 : (0 : Int) < (L : Int) := by omega
      obtain ⟨b0, off0, rfl, hb0, -⟩ := u8s_rd hrd (k := 0) (by rw [List.length_drop]; omega)
      obtain ⟨m, hm⟩ : ∃ m, m = Nat.min L (64 - st.at_) := ⟨_, rfl⟩
      have hm0 : 0 < m := by rw [hm]; simp only [Nat.min_def]; split <;> omega
      have hm1 : m ≤ L := by rw [hm]; exact Nat.min_le_left _ _
      have hm2 : m ≤ 64 - st.at_ := by rw [hm]; exact Nat.min_le_right _ _
      have HM : Hid (m = Nat.min L (64 - st.at_)) := hm
      have HLK : Hid (L = l.length - k) := hL
      have hcsl : ((l.drop k).take m).length = m := by rw [List.length_take, List.length_drop]; omega
      have hsrc : ∀ j u, (u8s ((l.drop k).take m))[j]? = some u → wr.cell? ((⟨b0, off0, none⟩ : Addr).add j) = some u := by
        intro j u hu
        have hj : j < m := by have := (List.getElem?_eq_some_iff.1 hu).1; rw [u8s_len, hcsl] at this; exact this
        obtain ⟨b1, off1, he, -, hc1⟩ := u8s_rd (hrd.below hbr) (k := j) (by rw [List.length_drop]; omega)
        cases he
        rw [add_off, hc1, ← hu]
        simp [u8s, List.getElem?_take, hj, List.getD_eq_getElem?_getD, List.getElem?_eq_getElem (show k + j < l.length by omega)]
      have HCL : Hid (((l.drop k).take m).length = m) := hcsl
      have HSrc : Hid (∀ j u, (u8s ((l.drop k).take m))[j]? = some u → wr.cell? ((⟨b0, off0, none⟩ : Addr).add j) = some u) := hsrc
      have hgd : ∀ b ∈ (l.drop k).take m, goodB b := fun b hb => HG.out b (List.mem_of_mem_drop (List.mem_of_mem_take hb))
      have HGd : Hid (∀ b ∈ (l.drop k).take m, goodB b) := hgd
      have HRd : Hid (Rd w w.heap.size (some ⟨b0, off0, none⟩) (u8s (l.drop k))) := hrd
      have q1 := hsr.lt
      have hsl := fun W => slice_tail w.heap.size st.at_ hp W
      have pi : (st.at_ : Int) < 64 := by omega
      have HLt : Hid (9 + st.at_ + m ≤ (stc { st with n := nT }).length) := by show _ ≤ _; rw [stc_len (s := { st with n := nT }) HWf.out.len]; omega
      clear hst hL hm hcsl hsrc hgd hrd hbr hsr hrr hwf
      go_upto_region 6 with (refine wpList_copy_u8 rfl (.tmp 26) (.tmp 27) 22 22 rfl 5 Tryd.underlying22 (by kernel_rfl) w.heap.size (9 + st.at_) (64 - st.at_) (64 - st.at_) ⟨b0, off0, none⟩ L c' rfl rfl 32 (stc { st with n := nT }) HSR.out ((l.drop k).take m) m HCL.out HM.out HSrc.out HLt.out ?_)
      rw [stc_over]
      have hs6 : SAt (wr.setRow w.heap.size (stc { st with n := nT, t := spl st.t st.at_ ((l.drop k).take m) }).toArray) w.heap.size { st with n := nT, t := spl st.t st.at_ ((l.drop k).take m) } := HSR.out.row
      have hr6 : SAt (wr.setRow w.heap.size (stc { st with n := nT, t := spl st.t st.at_ ((l.drop k).take m) }).toArray) (w.heap.size + 1) zeroSt := HRR.out.other (by omega) _
      have hl6 : Below w.heap.size w (wr.setRow w.heap.size (stc { st with n := nT, t := spl st.t st.at_ ((l.drop k).take m) }).toArray) := below_setRow HBR.out (Nat.le_refl _) _
      generalize World.setRow _ _ _ = w6 at hs6 hr6 hl6 ⊢
      have HS6 : Hid (SAt w6 w.heap.size { st with n := nT, t := spl st.t st.at_ ((l.drop k).take m) }) := hs6
      have HR6 : Hid (SAt w6 (w.heap.size + 1) zeroSt) := hr6
      have HL6 : Hid (Below w.heap.size w w6) := hl6
      have mL : (m : Int) ≤ (L : Int) := by omega
      have mc : (m : Int) ≤ (c' : Int) := by omega
      clear hs6 hr6 hl6 hsl q1
      go_upto_region 8 with fail
      have hrd2 : Rd w w.heap.size (if c' = m then some ⟨b0, off0, none⟩ else some ⟨b0, off0 + m, none⟩) (u8s (l.drop (k + m))) := by
        have := HRd.out.drop m (cap := c') (fun h => List.drop_of_length_le (by rw [u8s_len, List.length_drop]; have := HLK.out; omega)) (m := m) (fun h => h) rfl
        have e1 : (some (⟨b0, off0, none⟩ : Addr)).map (·.add m) = some ⟨b0, off0 + m, none⟩ := by simp [add_off]
        have e2 : (u8s (l.drop k)).drop m = u8s (l.drop (k + m)) := by simp [u8s, List.map_drop, List.drop_drop]
        rw [e1, e2] at this
        exact this
      have HRd2 : Hid _ := hrd2
      clear hrd2
      generalize (if c' = m then some (⟨b0, off0, none⟩ : Addr) else some ⟨b0, off0 + m, none⟩) = A2 at HRd2 ⊢
      have HL2 : Hid (L - m = l.length - (k + m) ∧ l.length - (k + m) ≤ c' - m ∧ c' - m ≤ 9223372036854775807 ∧ k + m ≤ l.length) := by have := HLK.out; show _ ∧ _ ∧ _ ∧ _; omega
      have HTk : Hid (bytesS (canonS s) (l.take (k + m)) = bytesS st ((l.drop k).take m)) := by
        show _ = _
        rw [List.take_add, bytesS_append, ← HST.out]
      have HCh := chunk HWf.out ((l.drop k).take m) HGd.out (by rw [HCL.out]; omega) (by rw [HCL.out]; omega)
      have HAt := at_bytes HWf.out ((l.drop k).take m) HGd.out (by rw [HCL.out]; omega) (by rw [HCL.out]; omega)
      rw [HCL.out] at HCh HAt
      have HT2 : Hid ((spl st.t st.at_ ((l.drop k).take m)).length = 64 ∧ good8 (spl st.t st.at_ ((l.drop k).take m))) := ⟨by rw [spl_len (by rw [HCL.out, HWf.out.len]; omega)]; exact HWf.out.len, spl_good HWf.out.good _ HGd.out⟩
      have HMe : Hid (L - m < L) := by show _ < _; omega
      generalize spl st.t st.at_ ((l.drop k).take m) = t2 at HCh HT2 HS6
      by_cases hq : st.at_ + m = 64
      · have hqb : ((st.at_ : Int) + (m : Int) == 64) = true := by simp; omega
        rw [if_pos hq] at HCh
        rw [hq] at HAt
        have HC2 : Hid (bytesS st ((l.drop k).take m) = ⟨blockS st.v t2, (st.n + (m : Int)) % 18446744073709551616, zeros 64⟩) := HCh
        have HA2 : Hid ((bytesS st ((l.drop k).take m)).at_ = 0) := HAt
        clear HCh HAt hq
        have q6 := HS6.out.lt
        go_wp2_with (first
          | (refine wpList_load_part rfl 28 (.tmp 37) rfl w.heap.size 0 rfl (v8c st.v) _ HS6.out.v_part Tryd.underlying28 rfl size28 ?_)
          | (refine wpList_load_part rfl 30 (.tmp 39) rfl w.heap.size 9 rfl (u8s t2).toArray _ (HS6.out.t_part HT2.out.1) Tryd.underlying30 rfl (size30 HT2.out.1) ?_))
        refine (process_any st.v t2 HT2.out.1 HT2.out.2 _ (HLd.out.below HL6.out hw2)).mono ?_
        rintro e w8 ⟨rfl, hb8⟩
        have HS8 : Hid (SAt w8 w.heap.size { st with n := nT, t := t2 }) := HS6.out.below hb8 q6
        have HR8 : Hid (SAt w8 (w.heap.size + 1) zeroSt) := HR6.out.below hb8 HR6.out.lt
        have HL8 : Hid (Below w.heap.size w w8) := HL6.out.trans (hb8.mono (by omega))
        clear hb8 q6
        go_upto_region 10 with (refine wpList_store_part rfl 28 (.tmp 42) (.tmp 41) rfl w.heap.size 0 rfl (v8c (blockS st.v t2)) rfl 32 _ HS8.out (by rw [stc_len HT2.out.1]; show 0 + 8 ≤ 73; omega) size28 (one_u32 (blockS st.v t2).list) ?_)
        have hs9 := HS8.out.set_v (blockS st.v t2)
        have hr9 := HR8.out.other (g := w.heap.size) (by omega) (over (stc ⟨st.v, nT, t2⟩) 0 (v8c (blockS st.v t2)).toList).toArray
        have hl9 := below_setRow HL8.out (Nat.le_refl _) (over (stc ⟨st.v, nT, t2⟩) 0 (v8c (blockS st.v t2)).toList).toArray
        simp only [] at hs9
        generalize World.setRow _ _ _ = w9 at hs9 hr9 hl9 ⊢
        have HS9 : Hid (SAt w9 w.heap.size ⟨blockS st.v t2, nT, t2⟩) := hs9
        have HR9 : Hid (SAt w9 (w.heap.size + 1) zeroSt) := hr9
        have HL9 : Hid (Below w.heap.size w w9) := hl9
        clear hs9 hr9 hl9
        generalize blockS st.v t2 = bv at HS9 HC2
        go_upto_region 11 with (refine wpList_store_part rfl 30 (.tmp 44) (.tmp 43) rfl w.heap.size 9 rfl (u8s (zeros 64)).toArray rfl 32 _ HS9.out (by rw [stc_len HT2.out.1]; show 9 + 64 ≤ 73; omega) (size30 (zeros_len 64)) (one_u8 (zeros 64)) ?_)
        have hs10 : SAt (w9.setRow w.heap.size (over (stc ⟨bv, nT, t2⟩) 9 (u8s (zeros 64))).toArray) w.heap.size ⟨bv, nT, zeros 64⟩ := by
          rw [stc_over_t (s := ⟨bv, nT, t2⟩) HT2.out.1 (zeros 64) (zeros_len 64)]
          exact HS9.out.row
        have hr10 := HR9.out.other (g := w.heap.size) (by omega) (over (stc ⟨bv, nT, t2⟩) 9 (u8s (zeros 64))).toArray
        have hl10 := below_setRow HL9.out (Nat.le_refl _) (over (stc ⟨bv, nT, t2⟩) 9 (u8s (zeros 64))).toArray
        generalize w9.setRow _ _ = w10 at hs10 hr10 hl10 ⊢
        have HS10 : Hid (SAt w10 w.heap.size ⟨bv, nT, zeros 64⟩) := hs10
        have HR10 : Hid (SAt w10 (w.heap.size + 1) zeroSt) := hr10
        have HL10 : Hid (Below w.heap.size w w10) := hl10
        clear hs10 hr10 hl10
        go_wp2
        go_roundw
        case rel =>
          have h2 := HL2.out
          refine ⟨k + m, A2, c' - m, h2.2.2.2, by rw [h2.1], h2.2.1, h2.2.2.1, HRd2.out, ?_, HL10.out, ?_, HR10.out⟩
          · rw [HTk.out, HA2.out]; rfl
          · rw [HTk.out, HC2.out]; exact HS10.out
        case measure => exact HMe.out
      · have hqb : ((st.at_ : Int) + (m : Int) == 64) = false := by simp; omega
        rw [if_neg hq] at HCh
        rw [Nat.mod_eq_of_lt (by omega)] at HAt
        have HC2 : Hid (bytesS st ((l.drop k).take m) = ⟨st.v, (st.n + (m : Int)) % 18446744073709551616, t2⟩) := HCh
        have HA2 : Hid ((bytesS st ((l.drop k).take m)).at_ = st.at_ + m) := HAt
        clear HCh HAt hq
        go_wp2
        go_roundw
        case rel =>
          have h2 := HL2.out
          refine ⟨k + m, A2, c' - m, h2.2.2.2, by rw [h2.1], h2.2.1, h2.2.2.1, HRd2.out, ?_, HL6.out, ?_, HR6.out⟩
          · rw [HTk.out, HA2.out]; simp
          · rw [HTk.out, HC2.out]; exact HS6.out
        case measure => exact HMe.out
    · have hkl : k = l.length := by omega
      have hL0 : ¬ (0 : Int) < (L : Int) := by omega
      have HF : Hid ({ st with n := nT } = feedS s l) := by
        show _ = _
        have e : st = bytesS (canonS s) l := by rw [HST.out, hkl, List.take_length]
        have en := bytes_n HS.out.canon HG.out
        rw [e, HNT.out]
        show (⟨_, (s.n + (l.length : Int)) % 18446744073709551616, _⟩ : St) = feedS s l
        rw [show (s.n + (l.length : Int)) % 18446744073709551616 = (bytesS (canonS s) l).n from en.symm]
        rfl
      rw [HF.out] at hsr
      have HSF : Hid (SAt wr w.heap.size (feedS s l)) := hsr
      have HLF : Hid ((feedS s l).t.length = 64) := by show _ = _; rw [← HF.out]; exact hwf.len
      clear hbr hsr hrr hwf hrd HSR hL hst
      go_wp2_with (first
        | (refine wpList_load_row rfl 32 (.tmp 2) rfl w.heap.size rfl 32 (stc (feedS s l)).toArray (0, 0) _ HSF.out Tryd.underlying32 rfl (size32 HLF.out) ?_)
        | (refine wpList_store_row rfl 32 (.tmp 4) (.tmp 45) rfl (w.heap.size + 1) rfl (stc (feedS s l)).toArray rfl 32 _ HRR.out (by rw [List.size_toArray, List.size_toArray, stc_len HLF.out, stc_len (zeros_len 64)]) (size32 HLF.out) (one_stc _) ?_))
      exact bodyPost_ret (results_cell_row rfl _ _ (w.heap.size + 1) 32 (stc (feedS s l)).toArray (0, 0) _ rfl (setRow_heap _ _ _ _ _ _ HRR.out) Tryd.underlying32 rfl (size32 HLF.out)) rfl ⟨rfl, below_setRow HBR.out (by omega) _⟩

end Go.Proofs.YtaafgakflmgpoaaDoor
