/- The walk of table: the fourteen rows. -/
import Derived.Test.YtlcpadonjbaaeaaTab5
namespace Go.Proofs.Ytlcpadonjbaaeaa
open Go.RowKit

/-- An update of the map as a rule at the level of the operation. -/
def UpdOk (W : World) (x k v : Value) : Prop := ∃ w', (Instr.mapUpdate 65 x k v).run Try.prog W = .ok () w'
noncomputable def updated (W : World) (x k v : Value) : World := match (Instr.mapUpdate 65 x k v).run Try.prog W with | .ok _ w' => w' | .halt _ w' => w'
theorem upd_rule {W : World} {a : Act} {d : Option Tmp} {x k v : Operand} {ty : TypeId} {pos : String} {aft : Array Edge} {gd : Option (Nat × Bool)} (h : UpdOk W (a.eval x) (a.eval k) (a.eval v)) :
    (execOp a.eval ⟨d, .mapUpdate 65 x k v, ty, pos, aft, gd⟩).run Try.prog W = .ok .skip (updated W (a.eval x) (a.eval k) (a.eval v)) := by
  obtain ⟨w', h⟩ := h
  unfold updated execOp
  simp only [Sem.run_bind, h, Result.andThen_ok, Sem.run_pure]
theorem upd_ok {W w' : World} {x k v : Value} (h : (Instr.mapUpdate 65 x k v).run Try.prog W = .ok () w') : UpdOk W x k v ∧ updated W x k v = w' := ⟨⟨w', h⟩, by unfold updated; rw [h]⟩
theorem fn_one {w : World} {v : Value} {f : Nat} (h : FnV w v f) : v.oneCell' = true := by
  rcases h with ⟨_, rfl⟩ | ⟨_, _, _, rfl, _⟩ | ⟨_, _, _, rfl, _⟩ <;> rfl
theorem three_alloc (w : World) (a b c : Obj) : (((w.alloc a).alloc b).alloc c).heap[w.heap.size]? = some a ∧ (((w.alloc a).alloc b).alloc c).heap[w.heap.size + 1]? = some b ∧ (((w.alloc a).alloc b).alloc c).heap[w.heap.size + 1 + 1]? = some c ∧ Below w.heap.size w (((w.alloc a).alloc b).alloc c) := by
  refine ⟨?_, ?_, ?_, (((Below.refl _ _).alloc (Nat.le_refl _) _).alloc (by simp) _).alloc (by simp; omega) _⟩
  · rw [heap_alloc_old, heap_alloc_old, heap_alloc_new] <;> simp <;> omega
  · have := heap_alloc_new (w.alloc a) b
    rw [heap_alloc_old]
    · simpa using this
    · simp
  · have := heap_alloc_new ((w.alloc a).alloc b) c
    simpa using this
theorem become_mk {B : Nat} (s : Int) (b : Bool) (v : Value) (f : Nat) (w : World) (hv : FnV w v f) : Calls Try.prog 37 #[.int .u8 s, .bool b, v] w fun e w' => ∃ cl, e = .returned cl ∧ Below w.heap.size w w' ∧ EffV B w' cl (.become s b f) :=
  (mkbecome_any s b v w (fn_one hv)).mono fun e w' ⟨he, hw⟩ => by
    subst hw
    obtain ⟨a1, a2, a3, a4⟩ := three_alloc w (.cells #[.int .u8 s] 29) (.cells #[.bool b] 4) (.cells #[v] 78)
    exact ⟨_, he, a4, _, _, _, _, _, _, v, rfl, a1, a2, a3, hv.keep (.of_below a4)⟩
def rowsT : Nat → List Key
  | 0 => keys8
  | 1 => (1, 2, 3, 0) :: (1, 2, 2, 0) :: (1, 2, 1, 0) :: keys8
  | _ => (3, 2, 3, 0) :: (3, 2, 2, 0) :: (3, 2, 1, 0) :: (1, 2, 3, 0) :: (1, 2, 2, 0) :: (1, 2, 1, 0) :: keys8
attribute [local go_sem ↓] upd_rule

set_option maxRecDepth 100000 in
set_option maxHeartbeats 4000000 in
theorem table_any (w : World) :
    Calls Try.prog 27 #[] w fun e w' => ∃ m, e = .returned (.map (some m)) ∧ MapI w.heap.size w' m keysS ∧ Below w.heap.size w w' := by
  go_enter Try.func27, Try.ntmps27
  go_upto_region 7 with fail
  have h3 := heap_alloc_new w (.cells #[.int .u8 6, .int .i64 0, .int .u8 0] 68)
  have hb1 : Below w.heap.size w (w.alloc (.cells #[.int .u8 6, .int .i64 0, .int .u8 0] 68)) := (Below.refl _ _).alloc (Nat.le_refl _) _
  have z1 : (w.alloc (.cells #[.int .u8 6, .int .i64 0, .int .u8 0] 68)).heap.size = w.heap.size + 1 := by simp
  generalize World.alloc w _ = w1 at h3 hb1 z1 ⊢
  have H3 : Hid (w1.heap[w.heap.size]? = some (.cells #[.int .u8 6, .int .i64 0, .int .u8 0] 68 (0, 0))) := h3
  have HB1 : Hid (Below w.heap.size w w1) := hb1
  have HZ1 : Hid (w1.heap.size = w.heap.size + 1) := z1
  clear h3 hb1 z1
  go_upto_region 10 with fail
  have h7 := heap_alloc_new w1 (.cells #[.func (.func 41) #[] #[]] 78)
  have hb2 : Below w1.heap.size w1 (w1.alloc (.cells #[.func (.func 41) #[] #[]] 78)) := (Below.refl _ _).alloc (Nat.le_refl _) _
  generalize World.alloc w1 _ = w2 at h7 hb2 ⊢
  have H32 : Hid (w2.heap[w.heap.size]? = some (.cells #[.int .u8 6, .int .i64 0, .int .u8 0] 68 (0, 0))) := block_below H3.out hb2 (by have := HZ1.out; omega)
  have H7 : Hid (w2.heap[w1.heap.size]? = some (.cells #[.func (.func 41) #[] #[]] 78 (0, 0))) := h7
  have HB2 : Hid (Below w.heap.size w w2) := HB1.out.trans (hb2.mono (by have := HZ1.out; omega))
  clear h7 hb2
  go_cut [10] (fun x wx => ∃ m, x = .map (some m) ∧ MapI w.heap.size wx m keys8 ∧ w.heap.size ≤ m ∧ m < wx.heap.size ∧ Below w.heap.size w wx ∧ KeepC w2 wx)
  case first =>
    refine region_at (ops' := ops27) (by kernel_rfl) ?_
    refine region10 (w0 := w) (B := w.heap.size) (p3 := w.heap.size) (p7 := w1.heap.size) (X := fun _ => undef) H32.out (Nat.le_refl _) HB2.out ?_
    intro X m wx hx hm hBm hlt hbx hkx
    go_wp2_with fail
    go_meet
    exact ⟨m, hx, hm, hBm, hlt, hbx, hkx⟩
  case rest =>
    obtain ⟨m, rfl, hm, hBm, hlt, hbx, hkx⟩ := hcut
    have HM0 : Hid (MapI w.heap.size wc m keys8) := hm
    have HBx : Hid (Below w.heap.size w wc) := hbx
    have HKx : Hid (KeepC w2 wc) := hkx
    have HC7 : Hid (∀ {W}, KeepC w2 W → W.cell? ⟨w1.heap.size, 0, none⟩ = some (.func (.func 41) #[] #[])) := fun h => (cell1 (h.2 _ _ _ H7.out)).1
    clear hm hbx hkx
    go_wp2_with fail
    go_loopw [61] (fun i wr => ∃ k : Nat, k ≤ 2 ∧ i = .int .i64 k ∧ MapI w.heap.size wr m (rowsT k) ∧ m < wr.heap.size ∧ Below w.heap.size w wr ∧ KeepC w2 wr) (fun i _ => 2 - (intOf i).toNat)
    case atStart => exact ⟨0, by omega, rfl, HM0.out, hlt, HBx.out, HKx.out⟩
    case round =>
      obtain ⟨k, hk, rfl, hmr, hlr, hbr, hkr⟩ := hrel
      have HMR : Hid (MapI w.heap.size wr m (rowsT k)) := hmr
      have HBR : Hid (Below w.heap.size w wr) := hbr
      have HKR : Hid (KeepC w2 wr) := hkr
      clear hmr hbr hkr hlt
      have hix0 : ∀ W, (Instr.index 81 (.agg #[.int .u8 1, .int .u8 3]) (.int .i64 0)).run Try.prog W = .ok (.int .u8 1) W := fun W => by kernel_rfl
      have hix1 : ∀ W, (Instr.index 81 (.agg #[.int .u8 1, .int .u8 3]) (.int .i64 1)).run Try.prog W = .ok (.int .u8 3) W := fun W => by kernel_rfl
      rcases (show k = 0 ∨ k = 1 ∨ k = 2 by omega) with hk0 | hk0 | hk0
      · obtain rfl : k = 0 := by omega
        rw [show ((0 : Nat) : Int) = (0 : Int) from rfl]
        have HMR0 : Hid (MapI w.heap.size wr m (keys8)) := HMR.out
        go_upto_region 14 with fail
        have c7 := HC7.out HKR.out
        have hk0 : wr.drew.cell? ⟨w1.heap.size, 0, none⟩ = some (.func (.func 41) #[] #[]) := c7
        go_region_held3 (fun w' => w'.cell? ⟨w1.heap.size, 0, none⟩ = some (.func (.func 41) #[] #[])) (first | exact hkU | exact hk37 | exact hk34 | exact hk0 | exact c7)
          (first
            | (go_at_call 34
               refine (resp_any 1 _).mono ?_
               rintro e w4 ⟨rfl, hb4⟩
               have B4 : Below wr.heap.size wr w4 := (below_drewN (Below.refl _ _) 1).trans (hb4.mono (Nat.le_refl _))
               have hk34 := HC7.out (HKR.out.trans (.of_below B4)))
            | (go_at_call 37
               refine (become_mk (B := w.heap.size) 3 false _ 1 _ (.inl ⟨rfl, rfl⟩)).mono ?_
               rintro e w5 ⟨cl1, rfl, hb5, hE1⟩
               have B5 : Below wr.heap.size wr w5 := B4.trans (hb5.mono B4.size)
               have K1 : KeepC w2 w5 := HKR.out.trans (.of_below B5)
               have M1 := HMR0.out.keep (KeepC.of_below B5) (B5.block m hlr)
               have B1 : Below w.heap.size w w5 := HBR.out.trans (B5.mono HBR.out.size)
               have L1 : m < w5.heap.size := Nat.lt_of_lt_of_le hlr B5.size
               have hk37 := HC7.out K1
               obtain ⟨w6, hrun1, hM1, hk1, hbel1⟩ := map_insert (k := (1, 2, 1, 0)) (x := .become 3 false 1) (v := cl1) M1 (by decide) rfl hE1
               obtain ⟨hok1, hup1⟩ := upd_ok hrun1
               simp only [keyV] at hok1 hup1
               have HM1 : Hid (MapI w.heap.size w6 m ((1, 2, 1, 0) :: keys8)) := hM1
               have HB1 : Hid (Below w.heap.size w w6) := hbel1 _ _ B1 hBm
               have HK1 : Hid (KeepC w2 w6) := K1.trans hk1
               have hl1 : m < w6.heap.size := Nat.lt_of_lt_of_le L1 hk1.1
               have hkU := HC7.out HK1.out))
        clear c7 hk0 hk34 hk37 hok1 hup1 hM1 hk1 hbel1 hrun1 M1 hE1 B1 K1 L1 B4 B5 hb4 hb5 hlr
        go_wp2_with fail
        refine (resp_any 2 _).mono ?_
        rintro e wa2 ⟨rfl, hba2⟩
        go_wp2_with fail
        have Ka2 : KeepC w2 wa2 := HK1.out.trans (.of_below hba2)
        refine (become_mk (B := w.heap.size) 4 true _ 2 _ (.inr (.inl ⟨rfl, _, _, rfl, Ka2.2 _ _ _ H7.out⟩))).mono ?_
        rintro e wb2 ⟨cl2, rfl, hbb2, hE2⟩
        have Bx2 : Below w6.heap.size w6 wb2 := hba2.trans (hbb2.mono hba2.size)
        have K2 : KeepC w2 wb2 := HK1.out.trans (.of_below Bx2)
        have M2 := HM1.out.keep (KeepC.of_below Bx2) (Bx2.block m hl1)
        have B2 : Below w.heap.size w wb2 := HB1.out.trans (Bx2.mono HB1.out.size)
        have L2 : m < wb2.heap.size := Nat.lt_of_lt_of_le hl1 Bx2.size
        obtain ⟨w7, hrun2, hM2, hk2, hbel2⟩ := map_insert (k := (1, 2, 2, 0)) (x := .become 4 true 2) (v := cl2) M2 (by decide) rfl hE2
        obtain ⟨hok2, hup2⟩ := upd_ok hrun2
        simp only [keyV] at hok2 hup2
        have HM2 : Hid (MapI w.heap.size w7 m ((1, 2, 2, 0) :: (1, 2, 1, 0) :: keys8)) := hM2
        have HB2 : Hid (Below w.heap.size w w7) := hbel2 _ _ B2 hBm
        have HK2 : Hid (KeepC w2 w7) := K2.trans hk2
        have hl2 : m < w7.heap.size := Nat.lt_of_lt_of_le L2 hk2.1
        have nf2 := HC7.out K2
        clear hM2 hk2 hbel2 hrun2 M2 hE2 B2 K2 L2 Bx2 hba2 hbb2 Ka2 hl1
        go_wp2_with fail
        refine (resp_any 3 _).mono ?_
        rintro e wa3 ⟨rfl, hba3⟩
        go_wp2_with fail
        have Ka3 : KeepC w2 wa3 := HK2.out.trans (.of_below hba3)
        refine (become_mk (B := w.heap.size) 5 true _ 3 _ (.inr (.inr ⟨rfl, _, _, rfl, Ka3.2 _ _ _ H7.out⟩))).mono ?_
        rintro e wb3 ⟨cl3, rfl, hbb3, hE3⟩
        have Bx3 : Below w7.heap.size w7 wb3 := hba3.trans (hbb3.mono hba3.size)
        have K3 : KeepC w2 wb3 := HK2.out.trans (.of_below Bx3)
        have M3 := HM2.out.keep (KeepC.of_below Bx3) (Bx3.block m hl2)
        have B3 : Below w.heap.size w wb3 := HB2.out.trans (Bx3.mono HB2.out.size)
        have L3 : m < wb3.heap.size := Nat.lt_of_lt_of_le hl2 Bx3.size
        obtain ⟨w8, hrun3, hM3, hk3, hbel3⟩ := map_insert (k := (1, 2, 3, 0)) (x := .become 5 true 3) (v := cl3) M3 (by decide) rfl hE3
        obtain ⟨hok3, hup3⟩ := upd_ok hrun3
        simp only [keyV] at hok3 hup3
        have HM3 : Hid (MapI w.heap.size w8 m ((1, 2, 3, 0) :: (1, 2, 2, 0) :: (1, 2, 1, 0) :: keys8)) := hM3
        have HB3 : Hid (Below w.heap.size w w8) := hbel3 _ _ B3 hBm
        have HK3 : Hid (KeepC w2 w8) := K3.trans hk3
        have hl3 : m < w8.heap.size := Nat.lt_of_lt_of_le L3 hk3.1
        have nf3 := HC7.out K3
        clear hM3 hk3 hbel3 hrun3 M3 hE3 B3 K3 L3 Bx3 hba3 hbb3 Ka3 hl2
        go_wp2_with fail
        go_roundw
        case rel => exact ⟨1, by omega, rfl, HM3.out, hl3, HB3.out, HK3.out⟩
        case measure => simp [intOf]
      · obtain rfl : k = 1 := by omega
        rw [show ((1 : Nat) : Int) = (1 : Int) from rfl]
        have HMR0 : Hid (MapI w.heap.size wr m ((1, 2, 3, 0) :: (1, 2, 2, 0) :: (1, 2, 1, 0) :: keys8)) := HMR.out
        go_upto_region 14 with fail
        have c7 := HC7.out HKR.out
        have hk0 : wr.drew.cell? ⟨w1.heap.size, 0, none⟩ = some (.func (.func 41) #[] #[]) := c7
        go_region_held3 (fun w' => w'.cell? ⟨w1.heap.size, 0, none⟩ = some (.func (.func 41) #[] #[])) (first | exact hkU | exact hk37 | exact hk34 | exact hk0 | exact c7)
          (first
            | (go_at_call 34
               refine (resp_any 1 _).mono ?_
               rintro e w4 ⟨rfl, hb4⟩
               have B4 : Below wr.heap.size wr w4 := (below_drewN (Below.refl _ _) 1).trans (hb4.mono (Nat.le_refl _))
               have hk34 := HC7.out (HKR.out.trans (.of_below B4)))
            | (go_at_call 37
               refine (become_mk (B := w.heap.size) 3 false _ 1 _ (.inl ⟨rfl, rfl⟩)).mono ?_
               rintro e w5 ⟨cl1, rfl, hb5, hE1⟩
               have B5 : Below wr.heap.size wr w5 := B4.trans (hb5.mono B4.size)
               have K1 : KeepC w2 w5 := HKR.out.trans (.of_below B5)
               have M1 := HMR0.out.keep (KeepC.of_below B5) (B5.block m hlr)
               have B1 : Below w.heap.size w w5 := HBR.out.trans (B5.mono HBR.out.size)
               have L1 : m < w5.heap.size := Nat.lt_of_lt_of_le hlr B5.size
               have hk37 := HC7.out K1
               obtain ⟨w6, hrun1, hM1, hk1, hbel1⟩ := map_insert (k := (3, 2, 1, 0)) (x := .become 3 false 1) (v := cl1) M1 (by decide) rfl hE1
               obtain ⟨hok1, hup1⟩ := upd_ok hrun1
               simp only [keyV] at hok1 hup1
               have HM1 : Hid (MapI w.heap.size w6 m ((3, 2, 1, 0) :: (1, 2, 3, 0) :: (1, 2, 2, 0) :: (1, 2, 1, 0) :: keys8)) := hM1
               have HB1 : Hid (Below w.heap.size w w6) := hbel1 _ _ B1 hBm
               have HK1 : Hid (KeepC w2 w6) := K1.trans hk1
               have hl1 : m < w6.heap.size := Nat.lt_of_lt_of_le L1 hk1.1
               have hkU := HC7.out HK1.out))
        clear c7 hk0 hk34 hk37 hok1 hup1 hM1 hk1 hbel1 hrun1 M1 hE1 B1 K1 L1 B4 B5 hb4 hb5 hlr
        go_wp2_with fail
        refine (resp_any 2 _).mono ?_
        rintro e wa2 ⟨rfl, hba2⟩
        go_wp2_with fail
        have Ka2 : KeepC w2 wa2 := HK1.out.trans (.of_below hba2)
        refine (become_mk (B := w.heap.size) 4 true _ 2 _ (.inr (.inl ⟨rfl, _, _, rfl, Ka2.2 _ _ _ H7.out⟩))).mono ?_
        rintro e wb2 ⟨cl2, rfl, hbb2, hE2⟩
        have Bx2 : Below w6.heap.size w6 wb2 := hba2.trans (hbb2.mono hba2.size)
        have K2 : KeepC w2 wb2 := HK1.out.trans (.of_below Bx2)
        have M2 := HM1.out.keep (KeepC.of_below Bx2) (Bx2.block m hl1)
        have B2 : Below w.heap.size w wb2 := HB1.out.trans (Bx2.mono HB1.out.size)
        have L2 : m < wb2.heap.size := Nat.lt_of_lt_of_le hl1 Bx2.size
        obtain ⟨w7, hrun2, hM2, hk2, hbel2⟩ := map_insert (k := (3, 2, 2, 0)) (x := .become 4 true 2) (v := cl2) M2 (by decide) rfl hE2
        obtain ⟨hok2, hup2⟩ := upd_ok hrun2
        simp only [keyV] at hok2 hup2
        have HM2 : Hid (MapI w.heap.size w7 m ((3, 2, 2, 0) :: (3, 2, 1, 0) :: (1, 2, 3, 0) :: (1, 2, 2, 0) :: (1, 2, 1, 0) :: keys8)) := hM2
        have HB2 : Hid (Below w.heap.size w w7) := hbel2 _ _ B2 hBm
        have HK2 : Hid (KeepC w2 w7) := K2.trans hk2
        have hl2 : m < w7.heap.size := Nat.lt_of_lt_of_le L2 hk2.1
        have nf2 := HC7.out K2
        clear hM2 hk2 hbel2 hrun2 M2 hE2 B2 K2 L2 Bx2 hba2 hbb2 Ka2 hl1
        go_wp2_with fail
        refine (resp_any 3 _).mono ?_
        rintro e wa3 ⟨rfl, hba3⟩
        go_wp2_with fail
        have Ka3 : KeepC w2 wa3 := HK2.out.trans (.of_below hba3)
        refine (become_mk (B := w.heap.size) 5 true _ 3 _ (.inr (.inr ⟨rfl, _, _, rfl, Ka3.2 _ _ _ H7.out⟩))).mono ?_
        rintro e wb3 ⟨cl3, rfl, hbb3, hE3⟩
        have Bx3 : Below w7.heap.size w7 wb3 := hba3.trans (hbb3.mono hba3.size)
        have K3 : KeepC w2 wb3 := HK2.out.trans (.of_below Bx3)
        have M3 := HM2.out.keep (KeepC.of_below Bx3) (Bx3.block m hl2)
        have B3 : Below w.heap.size w wb3 := HB2.out.trans (Bx3.mono HB2.out.size)
        have L3 : m < wb3.heap.size := Nat.lt_of_lt_of_le hl2 Bx3.size
        obtain ⟨w8, hrun3, hM3, hk3, hbel3⟩ := map_insert (k := (3, 2, 3, 0)) (x := .become 5 true 3) (v := cl3) M3 (by decide) rfl hE3
        obtain ⟨hok3, hup3⟩ := upd_ok hrun3
        simp only [keyV] at hok3 hup3
        have HM3 : Hid (MapI w.heap.size w8 m ((3, 2, 3, 0) :: (3, 2, 2, 0) :: (3, 2, 1, 0) :: (1, 2, 3, 0) :: (1, 2, 2, 0) :: (1, 2, 1, 0) :: keys8)) := hM3
        have HB3 : Hid (Below w.heap.size w w8) := hbel3 _ _ B3 hBm
        have HK3 : Hid (KeepC w2 w8) := K3.trans hk3
        have hl3 : m < w8.heap.size := Nat.lt_of_lt_of_le L3 hk3.1
        have nf3 := HC7.out K3
        clear hM3 hk3 hbel3 hrun3 M3 hE3 B3 K3 L3 Bx3 hba3 hbb3 Ka3 hl2
        go_wp2_with fail
        go_roundw
        case rel => exact ⟨2, by omega, rfl, HM3.out, hl3, HB3.out, HK3.out⟩
        case measure => simp [intOf]
      · obtain rfl : k = 2 := hk0
        rw [show ((2 : Nat) : Int) = (2 : Int) from rfl]
        have HMF : Hid (MapI w.heap.size wr m keysS) := HMR.out.congr fun k => by
          simp only [rowsT, keys8, keysS, List.mem_cons, List.not_mem_nil, or_false]
          constructor
          · rintro (h | h | h | h | h | h | h | h | h | h | h | h | h | h) <;> simp [h]
          · rintro (h | h | h | h | h | h | h | h | h | h | h | h | h | h) <;> simp [h]
        go_wp2_with fail
        go_ret
        exact ⟨m, rfl, HMF.out, HBR.out⟩

end Go.Proofs.Ytlcpadonjbaaeaa
