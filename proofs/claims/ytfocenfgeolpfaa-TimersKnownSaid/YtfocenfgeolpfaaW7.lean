/- The walks: made. -/
import Derived.Test.YtfocenfgeolpfaaW6
import Derived.Test.YtfocenfgeolpfaaOpen
namespace Go.Proofs.Ytfocenfgeolpfaa
open Go.RowKit

theorem byte_at {w : World} {B : Nat} {A : Option Addr} {l : List Int} (h : Rd w B A (l.flatMap u8cell)) {k : Nat} (hk : k < l.length) :
    ∃ b off, A = some ⟨b, off, none⟩ ∧ b < B ∧ w.cell? ⟨b, off + k, none⟩ = some (.int .u8 (l.getD k 0)) := by
  have hl := flat_len u8cell 1 (fun _ => rfl) l
  obtain ⟨b, off, hA, hb, hc⟩ := h.cell (j := k) (by omega)
  have hg := flat_get u8cell 1 (fun _ => rfl) l k 0 (by omega)
  rw [Nat.mul_one, Nat.add_zero, List.getElem?_eq_getElem (by omega), List.getElem?_eq_getElem hk] at hg
  refine ⟨b, off, hA, hb, hc.trans ?_⟩
  rw [hg, List.getD_eq_getElem?_getD, List.getElem?_eq_getElem hk]
  rfl

/-- Add, the length under a name. -/
theorem addk_any {B : Nat} (A : Option Addr) (c : Nat) (l : List Tm) (n : Nat) (hn : l.length = n) (t : Tm) (w : World) (hB : B ≤ w.heap.size) (h : TRd w B A l) (hl : n ≤ maxLen) (hcap : n ≤ c) :
    Calls Try.prog 22 #[.slice A n c, .agg #[.int .i64 t.1, .int .i64 t.2.1, .int .i64 t.2.2]] w (Gives2 w (addT l t)) := by
  subst hn
  exact add_any A c l t w hB h hl hcap

/-- The timer as the walk has it. -/
theorem tm_raw {n : Int} (h0 : 0 ≤ n) (h1 : n ≤ 255) (k : Nat) : ((IntKind.i64.wrap (n.tmod 16), IntKind.i64.wrap (IntKind.u8.wrap (n.tdiv 64)), (k : Int)) : Tm) = tmOf n k := by
  have e1 : n.tmod 16 = n % 16 := Int.tmod_eq_emod_of_nonneg h0
  have e2 : n.tdiv 64 = n / 64 := Int.tdiv_eq_ediv_of_nonneg h0
  rw [e1, e2, IntWalk.u8_in _ (by omega), IntWalk.i64_in _ (by omega), IntWalk.i64_in _ (by omega)]
  rfl

set_option maxHeartbeats 1000000 in
theorem made_any {B : Nat} (A : Option Addr) (c : Nat) (bs : List Int) (w : World) (hB : B ≤ w.heap.size) (h : Rd w B A (bs.flatMap u8cell)) (hl : bs.length ≤ 200) (hn : ∀ n ∈ bs, 0 ≤ n ∧ n ≤ 255) :
    Calls Try.prog 10 #[.slice A bs.length c] w fun e w' => ∃ v, e = .returned (.tuple #[v, .bool true]) ∧ w'.ownsRow w.heap.size 28 3 v bs.length (tscells (madeT bs bs.length)) ∧ Below w.heap.size w w' := by
  have HH : Hid (Rd w B A (bs.flatMap u8cell)) := h
  have HN : Hid (∀ n ∈ bs, 0 ≤ n ∧ n ≤ 255) := hn
  clear h hn
  go_enter Try.func10, Try.ntmps10
  go_wp2_with fail
  go_loopw [4, 5] (fun v i wr => ∃ (k : Nat), k ≤ bs.length ∧ i = .int .i64 k ∧ wr.ownsRow w.heap.size 28 3 v k (tscells (madeT bs k)) ∧ Below w.heap.size w wr) (fun _ i _ => bs.length - (intOf i).toNat)
  case atStart => exact ⟨0, Nat.zero_le _, rfl, World.ownsRow_nil _ _ _ _, Below.refl _ _⟩
  case round =>
    obtain ⟨k, hk, rfl, hown, hb⟩ := hrel
    have hz := hb.size
    by_cases hlt : k < bs.length
    · obtain ⟨b, off, rfl, hbb, hc⟩ := byte_at (HH.out.below (hb.mono hB)) hlt
      obtain ⟨n, hn⟩ : ∃ n, n = bs.getD k 0 := ⟨_, rfl⟩
      rw [← hn] at hc
      obtain ⟨hn0, hn1⟩ : 0 ≤ n ∧ n ≤ 255 := HN.out n (by rw [hn, List.getD_eq_getElem?_getD, List.getElem?_eq_getElem hlt]; exact List.getElem_mem _)
      have HK : Hid (addT (madeT bs k) (IntKind.i64.wrap (n.tmod 16), IntKind.i64.wrap (IntKind.u8.wrap (n.tdiv 64)), (k : Int)) = (madeT bs (k + 1), 0)) := by
        show addT (madeT bs k) (IntKind.i64.wrap (n.tmod 16), IntKind.i64.wrap (IntKind.u8.wrap (n.tdiv 64)), (k : Int)) = (madeT bs (k + 1), 0)
        rw [tm_raw hn0 hn1 k, hn]
        exact madeT_add bs (by omega)
      have HL : Hid ((madeT bs k).length = k) := madeT_len bs k
      have HL1 : Hid ((madeT bs (k + 1)).length = k + 1) := madeT_len bs (k + 1)
      clear hn
      obtain ⟨Ao, co, rfl, hco⟩ := own_slice hown
      have HO : Hid (wr.ownsRow w.heap.size 28 3 (.slice Ao k co) k (tscells (madeT bs k))) := hown
      clear hown
      have hkl : (k : Int) < (bs.length : Int) := by omega
      go_wp2_with fail
      go_region_held3 (fun w' => w'.cell? ⟨b, off + k, none⟩ = some (.int .u8 n)) (first | go_keep | exact hkeep4)
        (first
          | (go_at_call 22
             refine (addk_any (B := wr.heap.size) Ao co (madeT bs k) k HL.out (IntKind.i64.wrap (n.tmod 16), IntKind.i64.wrap (IntKind.u8.wrap (n.tdiv 64)), (k : Int)) _ (by simp) (Rd.drew (Rd.of_own HO.out)) (by simp only [maxLen]; omega) hco).mono ?_
             rw [HK.out]
             rintro e w4 ⟨v4, rfl, hown4, hb4⟩
             rw [show (madeT bs (k + 1), (0 : Int)).1.length = k + 1 from HL1.out] at hown4
             obtain ⟨A4, c4, rfl, -⟩ := own_slice hown4
             have hkeep4 : w4.cell? ⟨b, off + k, none⟩ = some (.int .u8 n) := (hb4.cell (p := ⟨b, off + k, none⟩) (by simp; omega)).trans hc))
      have HO4 : Hid (w4.ownsRow w.heap.size 28 3 (.slice A4 (k + 1) c4) (k + 1) (tscells (madeT bs (k + 1)))) := own_base hown4 (by simp; omega)
      have HB4 : Hid (Below w.heap.size w w4) := hb.drew.trans (hb4.mono (by simp; omega))
      clear hown4 hb4 hkeep4
      go_wp2_with fail
      go_roundw
      case rel => exact ⟨k + 1, by omega, by go_num, HO4.out, HB4.out⟩
      case measure => simp [intOf]; omega
    · go_wp2_with fail
      go_ret2
      have e : k = bs.length := by omega
      subst e
      exact ⟨u4, rfl, hown, hb⟩

end Go.Proofs.Ytfocenfgeolpfaa
