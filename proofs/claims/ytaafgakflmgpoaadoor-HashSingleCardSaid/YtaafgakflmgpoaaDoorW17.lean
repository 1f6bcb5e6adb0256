/- The walk of Unhex, the program's. -/
import Derived.Test.YtaafgakflmgpoaaDoorUn
import Derived.BigQuiet
namespace Go.Proofs.YtaafgakflmgpoaaDoor
open Go.RowKit

theorem made_u8 (n : Nat) : madeCells #[.int .u8 0] (n * 1) = (u8s (zeros n)).toArray := by
  apply Array.ext'
  apply List.ext_getElem?
  intro i
  simp only [madeCells, u8s, zeros]
  by_cases hi : i < n
  · simp [hi, Nat.mod_one]
  · simp [hi]
theorem make_u8 (n : Nat) (h : n ≤ 1000000) (W : World) : (Instr.makeSlice 22 (.int .i64 (n : Int)) (.int .i64 (n : Int))).run Tryd.prog W = .ok (.slice (some ⟨W.heap.size, 0, none⟩) n n) (W.alloc (.cells (u8s (zeros n)).toArray 5)) := by
  obtain ⟨i, hi, hz, hs, hb⟩ := info_parts info5
  have := run_make (P := Tryd.prog) W 22 5 i _ Tryd.underlying22 hi hz .i64 .i64 n n (by omega) (Int.le_refl _) (by rw [hb]; omega) (by omega)
  rw [this, hs, ← made_u8]
  rfl

theorem value_quiet (b : UInt8) (w : World) (n : Nat) : Calls Tryd.prog 29 #[.int .u8 (b.toNat : Int)] (w.drewN n) fun e w' => e = .returned (.int .u8 (valS (b.toNat : Int))) ∧ ∃ m, w' = w.drewN m :=
  (value_any _ (by omega) (by have := b.toNat_lt; omega) _).mono fun _ _ ⟨h1, h2⟩ => ⟨h1, n, h2.symm⟩
theorem bytes_at (s : ByteArray) {i : Nat} (h : i < s.size) : ((s[i]'h).toNat : Int) = (bytesOf s).getD i 0 := by
  have hd : i < s.data.size := h
  rw [List.getD_eq_getElem?_getD]
  simp only [bytesOf, List.getElem?_map, Array.getElem?_toList, Array.getElem?_eq_getElem hd]
  rfl
theorem or_pair {a b : Int} (h0 : 0 ≤ a) (h1 : a ≤ 15) (h2 : 0 ≤ b) (h3 : b ≤ 15) : bits BinOp.or IntKind.u8 (a * 16) b = 16 * a + b := by
  have h : ∀ x y : Fin 16, bits BinOp.or IntKind.u8 (((x.val : Nat) : Int) * 16) ((y.val : Nat) : Int) = 16 * ((x.val : Nat) : Int) + ((y.val : Nat) : Int) := by decide +kernel
  obtain ⟨n, rfl⟩ : ∃ n : Nat, a = (n : Int) := ⟨a.toNat, by omega⟩
  obtain ⟨m, rfl⟩ : ∃ m : Nat, b = (m : Int) := ⟨b.toNat, by omega⟩
  exact h ⟨n, by omega⟩ ⟨m, by omega⟩
theorem outP_step {l : List Int} {k n : Nat} {x : Int} (h : pairS l k = x) (hk : k < n) : (outP l k ++ zeros (n - k)).set k x = outP l (k + 1) ++ zeros (n - (k + 1)) := by
  rw [List.set_append_right _ _ (by rw [outP_len]; exact Nat.le_refl _), outP_len, Nat.sub_self, show n - k = (n - (k + 1)) + 1 by omega, outP_succ, h]
  simp [zeros, List.replicate_succ]
theorem rd_block {w : World} {g : Nat} {t : TypeId} {l : List Value} (h : w.heap[g]? = some (.cells l.toArray t (0, 0))) : Rd w w.heap.size (some ⟨g, 0, none⟩) l :=
  .inr ⟨g, 0, rfl, (Array.getElem?_eq_some_iff.1 h).1, fun j u hu => by rw [cells_of_block h (0 + j), Nat.zero_add]; simpa using hu⟩
def UnhexP (l : List Int) (w : World) (e : Ending) (w' : World) : Prop :=
  (match unhexS l with
    | some xs => ∃ A c, e = .returned (.tuple #[.slice A xs.length c, .int .u8 0]) ∧ xs.length ≤ c ∧ c ≤ maxLen ∧ Rd w' w'.heap.size A (u8s xs)
    | none => e = .returned (.tuple #[.slice none 0 0, .int .u8 5])) ∧ Below w.heap.size w w'

set_option maxRecDepth 100000 in
set_option maxHeartbeats 4000000 in
theorem unhex_any (s : ByteArray) (w : World) (hs : s.size ≤ 1000000) : Calls Tryd.prog 23 #[.string s] w fun e w' => UnhexP (bytesOf s) w e w' := by
  have HSz : Hid ((bytesOf s).length = s.size) := bytesOf_len s
  obtain ⟨n, hn⟩ : ∃ n, n = s.size / 2 := ⟨_, rfl⟩
  have e3 : (s.size : Int).tdiv 2 = (n : Int) := by rw [Int.tdiv_eq_ediv_of_nonneg (by omega)]; omega
  have e3' : (s.size : Int) / 2 = (n : Int) := by omega
  have e4 : IntKind.i64.wrap (n : Int) = (n : Int) := IntWalk.i64_in _ (by omega)
  have hmk := fun W => make_u8 n (by omega) W
  have HN : Hid (n = s.size / 2) := hn
  by_cases hodd : s.size % 2 = 1
  · have e1 : (s.size : Int).tmod 2 = 1 := by rw [Int.tmod_eq_emod_of_nonneg (by omega)]; omega
    have e2 : (s.size : Int) % 2 = 1 := by omega
    have HU : Hid (unhexS (bytesOf s) = none) := by show _ = _; unfold unhexS; rw [if_pos (by rw [bytesOf_len]; exact hodd)]
    clear hodd hn
    go_enter Tryd.func23, Tryd.ntmps23
    go_wp2
    go_ret2
    unfold UnhexP
    rw [HU.out]
    exact ⟨rfl, Below.refl _ _⟩
  · have e1 : (s.size : Int).tmod 2 = 0 := by rw [Int.tmod_eq_emod_of_nonneg (by omega)]; omega
    have e2 : (s.size : Int) % 2 = 0 := by omega
    have he : (s.size : Int) = 2 * (n : Int) := by omega
    have HE : Hid (s.size = 2 * n) := by show _ = _; omega
    have hnl : n ≤ 500000 := by omega
    clear hodd hn
    go_enter Tryd.func23, Tryd.ntmps23
    go_wp2
    have hh0 : (w.alloc (.cells (u8s (zeros n)).toArray 5)).heap[w.heap.size]? = some (.cells (u8s (zeros n)).toArray 5 (0, 0)) := heap_alloc_new _ _
    have hb0 : Below w.heap.size w (w.alloc (.cells (u8s (zeros n)).toArray 5)) := (Below.refl _ _).alloc (Nat.le_refl _) _
    generalize w.alloc (.cells (u8s (zeros n)).toArray 5) = w1 at hh0 hb0 ⊢
    have HH0 : Hid (w1.heap[w.heap.size]? = some (.cells (u8s (zeros n)).toArray 5 (0, 0))) := hh0
    have HB0 : Hid (Below w.heap.size w w1) := hb0
    clear hh0 hb0 hmk
    go_loopw [18] (fun i wr => ∃ k : Nat, k ≤ n ∧ i = .int .i64 k ∧ (∀ j, j < k → okP (bytesOf s) j) ∧ wr.heap[w.heap.size]? = some (.cells (u8s (outP (bytesOf s) k ++ zeros (n - k))).toArray 5 (0, 0)) ∧ Below w.heap.size w wr) (fun i _ => n - (intOf i).toNat)
    case atStart => exact ⟨0, by omega, rfl, fun j hj => absurd hj (by omega), HH0.out, HB0.out⟩
    case round =>
      obtain ⟨k, hk, rfl, hok, hh, hbr⟩ := hrel
      have HOK : Hid (∀ j, j < k → okP (bytesOf s) j) := hok
      have HH : Hid (wr.heap[w.heap.size]? = some (.cells (u8s (outP (bytesOf s) k ++ zeros (n - k))).toArray 5 (0, 0))) := hh
      have HBR : Hid (Below w.heap.size w wr) := hbr
      by_cases hlt : k < n
      · have hki : (k : Int) < (n : Int) := by omega
        clear hok hh hbr he
        have n0 : (2 * (k : Int)).toNat = 2 * k := by omega
        have n1 : (2 * (k : Int) + 1).toNat = 2 * k + 1 := by omega
        have g0 : 2 * (k : Int) < (s.size : Int) := by have := HE.out; omega
        have g1 : 2 * (k : Int) + 1 < (s.size : Int) := by have := HE.out; omega
        have l0 : 0 ≤ 2 * (k : Int) := by omega
        have l1 : 0 ≤ 2 * (k : Int) + 1 := by omega
        have w0 : IntKind.i64.wrap (2 * (k : Int)) = 2 * (k : Int) := IntWalk.i64_in _ (by omega)
        have w2 : IntKind.i64.wrap (2 * (k : Int) + 1) = 2 * (k : Int) + 1 := IntWalk.i64_in _ (by omega)
        go_upto_region 7 with fail
        go_quiet ((go_at_call 29; exact value_quiet _ _ _))
        have HH2 : Hid ((wr.drewN nq).heap[w.heap.size]? = some (.cells (u8s (outP (bytesOf s) k ++ zeros (n - k))).toArray 5 (0, 0))) := HH.out
        have HBR2 : Hid (Below w.heap.size w (wr.drewN nq)) := below_drewN HBR.out nq
        generalize wr.drewN nq = wr2 at HH2 HBR2 ⊢
        have hs0 : 2 * k < s.size := by have := HE.out; omega
        have hs1 : 2 * k + 1 < s.size := by have := HE.out; omega
        have x0 := bytes_at s hs0
        have x1 := bytes_at s hs1
        have HOkk : Hid (okP (bytesOf s) k ↔ valS ((s[2 * k]'hs0).toNat : Int) ≤ 15 ∧ valS ((s[2 * k + 1]'hs1).toNat : Int) ≤ 15) := by show okP _ _ ↔ _; rw [x0, x1]; rfl
        have HPr : Hid (pairS (bytesOf s) k = 16 * valS ((s[2 * k]'hs0).toNat : Int) + valS ((s[2 * k + 1]'hs1).toNat : Int)) := by show _ = _; rw [x0, x1]; rfl
        have a0 : 0 ≤ valS ((s[2 * k]'hs0).toNat : Int) := valS_lo
        have a1 : valS ((s[2 * k]'hs0).toNat : Int) ≤ 16 := valS_hi
        have b0 : 0 ≤ valS ((s[2 * k + 1]'hs1).toNat : Int) := valS_lo
        have b1 : valS ((s[2 * k + 1]'hs1).toNat : Int) ≤ 16 := valS_hi
        clear x0 x1
        generalize valS ((s[2 * k]'hs0).toNat : Int) = a at HOkk HPr a0 a1 ⊢
        generalize valS ((s[2 * k + 1]'hs1).toNat : Int) = b at HOkk HPr b0 b1 ⊢
        by_cases ha : a ≤ 15
        · by_cases hb : b ≤ 15
          · have ha' : ¬ 15 < a := by omega
            have hb' : ¬ 15 < b := by omega
            have HOK2 : Hid (∀ j, j < k + 1 → okP (bytesOf s) j) := fun j hj => by
              rcases Nat.lt_or_ge j k with h | h
              · exact HOK.out j h
              · have : j = k := by omega
                subst this; exact HOkk.out.2 ⟨ha, hb⟩
            have sh : IntKind.u8.wrap (a * 16) = a * 16 := IntWalk.u8_in _ (by omega)
            have ob := or_pair a0 ha b0 hb
            have hc := cell_u8 HH2.out (i := k) (by simp [outP_len, zeros]; omega)
            have hf := frozen_of_row wr2 w.heap.size k _ _ HH2.out
            have hg := (Array.getElem?_eq_some_iff.1 HH2.out).1
            go_wp2
            go_round
            case rel =>
              refine ⟨k + 1, by omega, by go_num, HOK2.out, ?_, HBR2.out.setCell (Nat.le_refl _) _⟩
              have e := set_u8 HH2.out k (16 * a + b)
              rw [e, outP_step HPr.out hlt]
            case measure => simp [intOf]; omega
          · have hb' : 15 < b := by omega
            have ha' : ¬ 15 < a := by omega
            have HU : Hid (unhexS (bytesOf s) = none) := unhex_bad (k := k) (by rw [HSz.out]; have := HE.out; omega) (by rw [HSz.out]; have := HE.out; omega) fun x => by have := (HOkk.out.1 x).2; omega
            go_wp2
            go_ret2
            unfold UnhexP
            rw [HU.out]
            exact ⟨rfl, HBR2.out⟩
        · have ha' : 15 < a := by omega
          have HU : Hid (unhexS (bytesOf s) = none) := unhex_bad (k := k) (by rw [HSz.out]; have := HE.out; omega) (by rw [HSz.out]; have := HE.out; omega) fun x => by have := (HOkk.out.1 x).1; omega
          go_wp2
          go_ret2
          unfold UnhexP
          rw [HU.out]
          exact ⟨rfl, HBR2.out⟩
      · have hkn : k = n := by omega
        subst hkn
        have hki : ¬ (k : Int) < (k : Int) := by omega
        have HU : Hid (unhexS (bytesOf s) = some (outP (bytesOf s) k)) := unhex_ok (by rw [HSz.out]; exact HE.out) hok
        clear hok hh hbr he
        go_wp2
        go_ret2
        unfold UnhexP
        rw [HU.out]
        refine ⟨⟨some ⟨w.heap.size, 0, none⟩, k, ?_, ?_, ?_, ?_⟩, HBR.out⟩
        · rw [outP_len]; rfl
        · rw [outP_len]; exact Nat.le_refl _
        · exact Nat.le_trans hnl (by decide)
        · have h := HH.out
          rw [Nat.sub_self, show zeros 0 = [] from rfl, List.append_nil] at h
          exact rd_block h

end Go.Proofs.YtaafgakflmgpoaaDoor
