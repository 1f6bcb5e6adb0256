/- The walk of Hex, the program's. -/
import Derived.Test.YtaafgakflmgpoaaDoorW12
import Derived.Laws.IdiomStrings
namespace Go.Proofs.YtaafgakflmgpoaaDoor
open Go.RowKit

def hexD (d : Int) : Int := if d < 10 then 48 + d else 87 + d
def hexB (b : Int) : List Int := [hexD (b / 16), hexD (b % 16)]
def hexS (l : List Int) : List Int := l.flatMap hexB
/-- A text of bytes. -/
def strOf (l : List Int) : ByteArray := ⟨(l.map fun x => UInt8.ofNat x.toNat).toArray⟩

theorem hexd_byte {k : Nat} (hk : k < 16) : ((({ data := #[48, 49, 50, 51, 52, 53, 54, 55, 56, 57, 97, 98, 99, 100, 101, 102] } : ByteArray)[k]'hk).toNat : Int) = hexD (k : Int) := by
  have : k = 0 ∨ k = 1 ∨ k = 2 ∨ k = 3 ∨ k = 4 ∨ k = 5 ∨ k = 6 ∨ k = 7 ∨ k = 8 ∨ k = 9 ∨ k = 10 ∨ k = 11 ∨ k = 12 ∨ k = 13 ∨ k = 14 ∨ k = 15 := by omega
  rcases this with rfl | rfl | rfl | rfl | rfl | rfl | rfl | rfl | rfl | rfl | rfl | rfl | rfl | rfl | rfl | rfl <;> rfl
theorem and15 {x : Int} (h0 : 0 ≤ x) (h1 : x ≤ 255) : bits BinOp.and IntKind.u8 x 15 = x % 16 := by
  have h : ∀ n : Fin 256, bits BinOp.and IntKind.u8 ((n.val : Nat) : Int) 15 = ((n.val : Nat) : Int) % 16 := by decide +kernel
  obtain ⟨n, rfl⟩ : ∃ n : Nat, x = (n : Int) := ⟨x.toNat, by omega⟩
  exact h ⟨n, by omega⟩
theorem hex_len (l : List Int) : (hexS l).length = 2 * l.length := by
  induction l with
  | nil => rfl
  | cons b l ih =>
    show (hexB b ++ hexS l).length = _
    simp [hexB, ih]; omega
theorem hexD_good {d : Int} (h : 0 ≤ d) (h' : d ≤ 15) : goodB (hexD d) := by unfold hexD goodB; split <;> omega
theorem hex_good {l : List Int} (h : ∀ b ∈ l, goodB b) : ∀ b ∈ hexS l, goodB b := by
  intro b hb
  obtain ⟨x, hx, hb⟩ := List.mem_flatMap.1 hb
  have := h x hx
  unfold goodB at this
  simp only [hexB, List.mem_cons, List.not_mem_nil, or_false] at hb
  rcases hb with rfl | rfl
  · exact hexD_good (by omega) (by omega)
  · exact hexD_good (by omega) (by omega)
theorem byte_int {x : Int} (h : goodB x) : ((UInt8.ofNat x.toNat).toNat : Int) = x := by
  unfold goodB at h
  simp [UInt8.toNat_ofNat']
  omega
/-- string(b). -/
theorem conv_back {w : World} {B : Nat} {A : Option Addr} (c : Nat) (xs : List Int) (h : Rd w B A (u8s xs)) (hg : ∀ b ∈ xs, goodB b) :
    (convert 22 9 (.slice A xs.length c)).run Tryd.prog w = .ok (.string (strOf xs)) w := by
  rcases h with h0 | ⟨b, off, rfl, hb, hc⟩
  · have : xs = [] := by simpa [u8s] using h0
    subst this
    show (convert 22 9 (.slice A 0 c)).run Tryd.prog w = _
    rw [run_convert_bytes_string w 22 9 5 A 0 c Tryd.underlying22 Tryd.underlying5 Tryd.underlying9]
    cases A with
    | none => rfl
    | some a => exact run_bytesToString w a 0 c [] (by rfl)
  · have := run_convert_bytes_back (P := Tryd.prog) w 22 9 5 ⟨b, off, none⟩ c (xs.map fun x => UInt8.ofNat x.toNat) Tryd.underlying22 Tryd.underlying5 Tryd.underlying9 (by
      intro j hj
      have hj' : j < xs.length := by simpa using hj
      have := hc j (.int .u8 xs[j]) (by simp [u8s, hj'])
      rw [add_off, this]
      simp only [List.getElem_map]
      rw [byte_int (hg _ (List.getElem_mem hj'))])
    rw [List.length_map] at this
    exact this
/-- Two bytes more, in a drawn region. -/
theorem step_append_two {ops : Array Oper} {o : Oper} {a : Act} {w wb : World} {K : Act → World → Prop} {Q : Exit → Act → World → Prop} {E : Prop} (hgd : o.guard = none) (s x : Operand)
    (ho : o.op = .call { callee := .builtin .append, args := #[s, x], argTypes := #[22, 22] }) (base n : Nat) (v : Value) (l : List Int) (hs : a.eval s = v) (hown : w.ownsRow base 5 1 v n (u8s l)) (hb : base ≤ w.heap.size) (hn : n ≤ 10000000)
    (g : Nat) (y z : Int) (t : TypeId) (hx : a.eval x = .slice (some ⟨g, 0, none⟩) 2 2) (hc : w.heap[g]? = some (.cells #[.int .u8 y, .int .u8 z] t (0, 0))) (hbl : Below base wb w)
    (h : ∀ v' w', w'.ownsRow base 5 1 v' (n + 2) (u8s (l ++ [y, z])) → Below base wb w' → K (a.put o.dst v') w') :
    if Region.wanted o (yielded ops a.tmps) = true then Oper.wp Tryd.prog o a w K Q else E := by
  obtain ⟨i0, hi, hz0, hz1, hz2⟩ := info_parts info5
  have hw : Region.wanted o (yielded ops a.tmps) = true := by simp [Region.wanted, hgd]
  rw [if_pos hw]
  have hnews := World.news_of_block hc
  have h63 : n + 2 ≤ maxLen := by simp [maxLen]; omega
  obtain ⟨v', w', hrun, hown', hg, _, _⟩ := run_append_own_at (P := Tryd.prog) w base 22 o.type 5 i0 (.int .u8 0) 1 1 Tryd.underlying22 hi hz0 hz1 hz2 rfl (by omega) v n (u8s l) hown ⟨g, 0, none⟩ 2 2 [.int .u8 y, .int .u8 z] rfl hnews (by simp [Value.oneCell']) h63 (by omega) hb
  have hbel := below_own hbl hown hg (Nat.le_refl _) hb
  unfold Oper.wp execOp
  simp only [ho, resolve, invoke, builtin, Sem.run_bind, Sem.run_pure, Result.andThen_ok, List.map_toArray, List.map_cons, List.map_nil, hs, hx, hrun]
  refine h v' w' ?_ hbel
  rw [u8s_append]; exact hown'

set_option maxRecDepth 100000 in
set_option maxHeartbeats 4000000 in
theorem hex_any {B : Nat} (A : Option Addr) (c : Nat) (l : List Int) (w : World) (hB : B ≤ w.heap.size) (h : Rd w B A (u8s l)) (hl : l.length ≤ 1000000) (hg : ∀ b ∈ l, goodB b) :
    Calls Tryd.prog 25 #[.slice A l.length c] w fun e w' => e = .returned (.string (strOf (hexS l))) ∧ Below w.heap.size w w' := by
  have HR : Hid (Rd w w.heap.size A (u8s l)) := h.more hB
  have HG : Hid (∀ b ∈ l, goodB b) := hg
  clear h hg hB
  have e1 : IntKind.i64.wrap (2 * (l.length : Int)) = 2 * (l.length : Int) := IntWalk.i64_in _ (by omega)
  obtain ⟨i0, hi, hz0, hz1, hz2⟩ := info_parts info5
  obtain ⟨w1, hmk, hown, hgr⟩ := run_make_own (P := Tryd.prog) w w.heap.size 22 5 i0 (.int .u8 0) 1 Tryd.underlying22 hi hz0 hz1 .i64 .i64 (2 * l.length) (by rw [hz2]; omega) (by simp [maxLen]; omega) (Nat.le_refl _)
  rw [show ((2 * l.length : Nat) : Int) = 2 * (l.length : Int) by omega] at hmk
  have HB : Hid (Below w.heap.size w w1) := below_grown (Below.refl _ _) hgr (Nat.le_refl _) (fun k hk => by cases hk)
  have HOwn : Hid (w1.ownsRow w.heap.size 5 1 (.slice (some ⟨w.heap.size, 0, none⟩) 0 (2 * l.length)) 0 []) := hown
  clear hown hgr hi hz0 hz1 hz2
  go_enter Tryd.func25, Tryd.ntmps25
  go_wp2
  clear hmk e1
  go_loopw [3, 12] (fun v i wr => ∃ k : Nat, k ≤ l.length ∧ i = .int .i64 k ∧ wr.ownsRow w.heap.size 5 1 v (2 * k) (u8s (hexS (l.take k))) ∧ Below w.heap.size w wr) (fun _ i _ => l.length - (intOf i).toNat)
  case atStart => exact ⟨0, by omega, rfl, by simpa [hexS, u8s] using HOwn.out, HB.out⟩
  case round =>
    obtain ⟨k, hk, rfl, hown, hbr⟩ := hrel
    have HOwn2 : Hid _ := hown
    have HBR : Hid (Below w.heap.size w wr) := hbr
    have q3 : w.heap.size ≤ wr.heap.size := hbr.size
    by_cases hlt : k < l.length
    · have hki : (k : Int) < (l.length : Int) := by omega
      obtain ⟨b, off, rfl, hbB, cb⟩ := u8s_rd (HR.out.below hbr) hlt
      have hx : goodB (l.getD k 0) := by
        have : l.getD k 0 = l[k] := by simp [List.getD_eq_getElem?_getD, hlt]
        rw [this]; exact HG.out _ (List.getElem_mem hlt)
      generalize hxd : l.getD k 0 = x at cb hx
      obtain ⟨x0, x1⟩ := hx
      have q2 : b < wr.heap.size := by omega
      clear hown hbr
      go_upto_region 5 with fail
      obtain ⟨p, hp⟩ : ∃ p : Nat, x / 16 = (p : Int) := ⟨(x / 16).toNat, by omega⟩
      obtain ⟨q, hq⟩ : ∃ q : Nat, x % 16 = (q : Int) := ⟨(x % 16).toNat, by omega⟩
      have hqa : bits BinOp.and IntKind.u8 x 15 = (q : Int) := (and15 x0 x1).trans hq
      have hp16 : p < 16 := by omega
      have hq16 : q < 16 := by omega
      have hpi : (p : Int) < 16 := by omega
      have hqi : (q : Int) < 16 := by omega
      have bp := hexd_byte hp16
      have bq := hexd_byte hq16
      have HX : Hid (hexS (l.take (k + 1)) = hexS (l.take k) ++ [hexD (p : Int), hexD (q : Int)]) := by
        show _ = _
        rw [List.take_add_one, List.getElem?_eq_getElem hlt, hexS, List.flatMap_append, ← hp, ← hq]
        have : l[k] = x := by rw [← hxd]; simp [List.getD_eq_getElem?_getD, hlt]
        simp [hexS, hexB, this]
      clear hxd
      generalize hexD (p : Int) = yp at bp HX
      generalize hexD (q : Int) = yq at bq HX

      go_region_held3 (fun w' => True) (exact trivial) (first | (refine step_append_two (wb := w) rfl (.tmp 16) (.tmp 23) rfl w.heap.size (2 * k) u3 (hexS (l.take k)) rfl (own_below HOwn2.out (below_drewN ((Below.refl _ _).alloc (Nat.le_refl _) _) 1)) (by simp; omega) (by omega) wr.heap.size yp yq 5 rfl (heap_alloc_new wr _) (below_drewN (HBR.out.alloc q3 _) _) ?_; intro v' w5 hown5 hb5))
      all_goals try go_wp2
      all_goals
        refine ⟨⟨k + 1, by omega, by go_num, by rw [HX.out]; exact hown5, hb5⟩, ?_⟩
        simp [intOf]; omega
    · have hkl : k = l.length := by omega
      subst hkl
      rw [List.take_length] at HOwn2
      clear hown hbr
      obtain ⟨A3, c3, rfl, hc3⟩ := own_slice HOwn2.out
      have hcv := conv_back (w := wr) (B := wr.heap.size) (A := A3) c3 (hexS l) (Rd.of_own HOwn2.out) (hex_good HG.out)
      rw [hex_len] at hcv
      clear hc3
      go_wp2
      go_ret
      exact ⟨rfl, HBR.out⟩

end Go.Proofs.YtaafgakflmgpoaaDoor
