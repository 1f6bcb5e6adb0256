/- The walk of Hex, the reference's. -/
import Derived.Test.YtaafgakflmgpoaaDoorW13
import Derived.BigQuiet
namespace Go.Proofs.YtaafgakflmgpoaaDoor
open Go.RowKit

theorem strOf_size (a : List Int) : (strOf a).size = a.length := by simp [strOf, ByteArray.size]
theorem strOf_append (a b : List Int) : strOf (a ++ b) = strOf a ++ strOf b := by
  apply ByteArray.ext
  simp [strOf, ByteArray.data_append]
theorem add_str (a b : List Int) (h : a.length + b.length ≤ 9223372036854775807) (W : World) : (Op.stringOp .add (strOf a) (strOf b)).run Tryd.prog W = .ok (.string (strOf (a ++ b))) W := by
  rw [run_string_add_sum W _ _ (by rw [strOf_size, strOf_size]; exact h), strOf_append]
theorem ext_digit {k : Nat} (hk : k < 16) : ({ data := #[48, 49, 50, 51, 52, 53, 54, 55, 56, 57, 97, 98, 99, 100, 101, 102] } : ByteArray).extract k (k + 1) = strOf [hexD (k : Int)] := by
  have : k = 0 ∨ k = 1 ∨ k = 2 ∨ k = 3 ∨ k = 4 ∨ k = 5 ∨ k = 6 ∨ k = 7 ∨ k = 8 ∨ k = 9 ∨ k = 10 ∨ k = 11 ∨ k = 12 ∨ k = 13 ∨ k = 14 ∨ k = 15 := by omega
  rcases this with rfl | rfl | rfl | rfl | rfl | rfl | rfl | rfl | rfl | rfl | rfl | rfl | rfl | rfl | rfl | rfl <;> rfl

set_option maxRecDepth 100000 in
set_option maxHeartbeats 4000000 in
theorem rhex_any {B : Nat} (A : Option Addr) (c : Nat) (l : List Int) (w : World) (hB : B ≤ w.heap.size) (h : Rd w B A (u8s l)) (hl : l.length ≤ 1000000) (hg : ∀ b ∈ l, goodB b) :
    Calls Tryd.prog 18 #[.slice A l.length c] w fun e w' => e = .returned (.string (strOf (hexS l))) ∧ Below w.heap.size w w' := by
  have HR : Hid (Rd w w.heap.size A (u8s l)) := h.more hB
  have HG : Hid (∀ b ∈ l, goodB b) := hg
  clear h hg hB
  go_enter Tryd.func18, Tryd.ntmps18
  go_wp2
  go_loopw [3, 4] (fun v i wr => ∃ k : Nat, k ≤ l.length ∧ i = .int .i64 k ∧ v = .string (strOf (hexS (l.take k))) ∧ Below w.heap.size w wr) (fun _ i _ => l.length - (intOf i).toNat)
  case atStart => exact ⟨0, by omega, rfl, rfl, Below.refl _ _⟩
  case round =>
    obtain ⟨k, hk, rfl, rfl, hbr⟩ := hrel
    have HBR : Hid (Below w.heap.size w wr) := hbr
    by_cases hlt : k < l.length
    · have hki : (k : Int) < (l.length : Int) := by omega
      obtain ⟨b, off, rfl, hbB, cb⟩ := u8s_rd (HR.out.below hbr) hlt
      have hx : goodB (l.getD k 0) := by
        have : l.getD k 0 = l[k] := by simp [List.getD_eq_getElem?_getD, hlt]
        rw [this]; exact HG.out _ (List.getElem_mem hlt)
      generalize hxd : l.getD k 0 = x at cb hx
      obtain ⟨x0, x1⟩ := hx
      have q2 : b < wr.heap.size := by have := hbr.size; omega
      obtain ⟨p, hp⟩ : ∃ p : Nat, x / 16 = (p : Int) := ⟨(x / 16).toNat, by omega⟩
      obtain ⟨q, hq⟩ : ∃ q : Nat, x % 16 = (q : Int) := ⟨(x % 16).toNat, by omega⟩
      have tp : x.tdiv 16 = (p : Int) := by rw [Int.tdiv_eq_ediv_of_nonneg x0]; exact hp
      have tq : x.tmod 16 = (q : Int) := by rw [Int.tmod_eq_emod_of_nonneg x0]; exact hq
      have hp16 : p < 16 := by omega
      have hq16 : q < 16 := by omega
      have hpi : (p : Int) < 16 := by omega
      have hqi : (q : Int) < 16 := by omega
      have wp1 : IntKind.i64.wrap ((p : Int) + 1) = (p : Int) + 1 := IntWalk.i64_in _ (by omega)
      have wq1 : IntKind.i64.wrap ((q : Int) + 1) = (q : Int) + 1 := IntWalk.i64_in _ (by omega)
      have wp0 : IntKind.i64.wrap (p : Int) = (p : Int) := IntWalk.i64_in _ (by omega)
      clear hbr
      go_upto_region 5 with fail
      go_quiet (fail)
      have HBR2 : Hid (Below w.heap.size w (wr.drewN nq)) := below_drewN HBR.out nq
      clear cb
      generalize wr.drewN nq = wr2 at HBR2 ⊢
      clear nq
      have lp : (p : Int) ≤ (p : Int) + 1 := by omega
      have lq : (q : Int) ≤ (q : Int) + 1 := by omega
      have lp2 : (p : Int) + 1 ≤ 16 := by omega
      have lq2 : (q : Int) + 1 ≤ 16 := by omega
      have tp2 : ((p : Int) + 1).toNat = p + 1 := by omega
      have tq2 : ((q : Int) + 1).toNat = q + 1 := by omega
      have zp : 0 ≤ (p : Int) + 1 := by omega
      have zq : 0 ≤ (q : Int) + 1 := by omega
      have xp := ext_digit hp16
      have xq := ext_digit hq16
      have hln : (hexS (l.take k)).length ≤ 2000000 := by rw [hex_len, List.length_take]; omega
      have a1 := fun W => add_str (hexS (l.take k)) [hexD (p : Int)] (by simp; omega) W
      have a2 := fun W => add_str (hexS (l.take k) ++ [hexD (p : Int)]) [hexD (q : Int)] (by simp; omega) W
      have HX : Hid (hexS (l.take (k + 1)) = (hexS (l.take k) ++ [hexD (p : Int)]) ++ [hexD (q : Int)]) := by
        show _ = _
        rw [List.take_add_one, List.getElem?_eq_getElem hlt, hexS, List.flatMap_append, ← hp, ← hq]
        have : l[k] = x := by rw [← hxd]; simp [List.getD_eq_getElem?_getD, hlt]
        simp [hexS, hexB, this]
      clear hxd hln
      go_upto_region 6 with fail
      go_region_held3 (fun w' => True) (exact trivial) (fail)
      go_wp2
      refine ⟨⟨k + 1, by omega, by go_num, ?_, HBR2.out.drew⟩, ?_⟩
      · rw [HX.out]; simp
      · simp [intOf]; omega
    · have hkl : k = l.length := by omega
      subst hkl
      have HX : Hid (hexS (l.take l.length) = hexS l) := by show _ = _; rw [List.take_length]
      clear hbr
      go_wp2
      go_ret
      exact ⟨by rw [HX.out]; rfl, HBR.out⟩

end Go.Proofs.YtaafgakflmgpoaaDoor
