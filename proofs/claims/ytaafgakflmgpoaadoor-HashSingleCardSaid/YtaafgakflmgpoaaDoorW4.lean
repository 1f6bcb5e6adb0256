/- The walk of Block, the reference's: the words. -/
import Derived.Test.YtaafgakflmgpoaaDoorW3
import Derived.Deep.RegionHeld3
import Derived.Deep.AppendLies
namespace Go.Proofs.YtaafgakflmgpoaaDoor
open Go.RowKit

theorem info27 : (Tryd.prog.info? 27).map (fun i => (i.zero, i.size, i.bytes)) = some (some (.int .u32 0), 1, 4) := by kernel_rfl

set_option maxRecDepth 100000 in
theorem keys_any (w : World) : Calls Tryd.prog 35 #[] w fun e w' => e = .returned (.slice (some ⟨w.heap.size, 0, none⟩) 64 64) ∧ w.alloc (.cells (u32s keysL).toArray 27) = w' := by
  go_enter Tryd.func35, Tryd.ntmps35
  go_wp2
  go_ret
  exact ⟨rfl, rfl⟩

/-- A row of the call's own, of numbers: its cells. -/
theorem own_cells {w : World} {base n : Nat} {v : Value} {l : List Int} (h : w.ownsRow base 27 1 v n (u32s l)) (hn : 0 < n) :
    ∃ g cap, v = .slice (some ⟨g, 0, none⟩) n cap ∧ n ≤ cap ∧ g < w.heap.size ∧ base ≤ g ∧ ∀ j, j < n → w.cell? ⟨g, j, none⟩ = some (.int .u32 (l.getD j 0)) := by
  have hl : l.length = n := by have := h.1; rw [u32s_len] at this; omega
  have h2 := h
  rcases h.2 with ⟨_, h0⟩ | ⟨g, cap, cur, rfl, hb, hg, hc, _⟩
  · omega
  · refine ⟨g, cap, rfl, hc, (Array.getElem?_eq_some_iff.1 hg).1, hb, fun j hj => ?_⟩
    have := h2.cells (g := g) rfl j (.int .u32 (l.getD j 0)) (by simp [u32s, hl, hj])
    have hadd : (⟨g, 0, none⟩ : Addr).add j = ⟨g, j, none⟩ := by unfold Addr.add; split <;> simp_all
    rw [hadd] at this
    exact this

theorem keep_at {w : World} {g : Nat} {l : List Int} (h : ∀ j u, (u32s l)[j]? = some u → w.cell? ⟨g, j, none⟩ = some u) {j : Nat} (hj : j < l.length) : w.cell? ⟨g, j, none⟩ = some (.int .u32 (l.getD j 0)) :=
  h j _ (by simp [u32s, hj])

/-- The sum as the reference writes it. -/
def v8r (h v : V8) : Array Value := #[.int .u32 ((h.a + v.a) % 4294967296), .int .u32 ((h.b + v.b) % 4294967296), .int .u32 ((h.c + v.c) % 4294967296), .int .u32 ((h.d + v.d) % 4294967296), .int .u32 ((h.e + v.e) % 4294967296), .int .u32 ((h.f + v.f) % 4294967296), .int .u32 ((h.g + v.g) % 4294967296), .int .u32 ((h.h + v.h) % 4294967296)]
theorem v8r_add (h v : V8) : v8r h v = v8c (addV v h) := by simp [v8r, v8c, addV, Int.add_comm]

/-- An append leaves the elements of the row as they were, wherever it puts the new one. -/
theorem append_keeps {P : Program} {w w' : World} {base e n cap : Nat} {t ty : TypeId} {i : TypeInfo} {z v' : Value} {size bytes g : Nat} {xs : List Value} (ht : P.underlying t = some (.slice e)) (hi : P.info? e = some i) (hz : i.zero = some z)
    (hsize : i.size = size) (hby : i.bytes = bytes) (hown : w.ownsRow base e size (.slice (some ⟨g, 0, none⟩) n cap) n xs)
    (a : Addr) (m c : Nat) (news : List Value) (hl : news.length = m * size) (hnews : ∀ j u, news[j]? = some u → w.cell? (a.add j) = some u) (h1 : ∀ u ∈ news, u.oneCell' = true)
    (h63 : n + m ≤ maxLen) (hbytes : (n + m) * bytes ≤ 140737488355328)
    (hrun : (Builtin.append_ #[t, t] ty #[.slice (some ⟨g, 0, none⟩) n cap, .slice (some a) m c]).run P w = .ok v' w') (hown' : w'.ownsRow base e size v' (n + m) (xs ++ news)) :
    ∀ j u, xs[j]? = some u → w'.cell? ⟨g, j, none⟩ = some u := by
  subst hsize
  subst hby
  have hsmall : n + m ≤ 9223372036854775807 := by simp only [maxLen] at h63; omega
  have hadd : ∀ j, (⟨g, 0, none⟩ : Addr).add j = ⟨g, j, none⟩ := fun j => by unfold Addr.add; split <;> simp_all
  rcases hown.2 with ⟨h0, -⟩ | ⟨g2, cap2, cur, h0, hbg, hg, hnc, hcm, hcs, htake⟩
  · cases h0
  · cases h0
    by_cases hroom : n + m ≤ cap
    · have hfit : n * i.size + news.length ≤ cur.size := by rw [hl, hcs, ← Nat.add_mul]; exact Nat.mul_le_mul_right _ hroom
      have hr := run_append_room (P := P) w t ty e i ht hi g n cap cur hg a m c news hl hnews h1 hroom hfit
      rw [hrun] at hr
      injection hr with hv hw
      subst hv
      intro j u hu
      have hj := (List.getElem?_eq_some_iff.1 hu).1
      have := hown'.cells (g := g) rfl j u (by rw [List.getElem?_append_left hj]; exact hu)
      rwa [hadd] at this
    · have holds : ∀ j u, xs[j]? = some u → w.cell? ((⟨g, 0, none⟩ : Addr).add j) = some u := hown.cells (g := g) rfl
      have hr := run_append_grow (P := P) w t ty e i z ht hi hz ⟨g, 0, none⟩ n cap xs hown.1 holds a m c news hl hnews (by omega) (by omega) (growslice_fits (by omega) hbytes)
      rw [hrun] at hr
      injection hr with hv hw
      subst hw
      intro j u hu
      have hlt : g < w.heap.size := (Array.getElem?_eq_some_iff.1 hg).1
      rw [World.cell?_alloc_lt _ _ _ (by exact hlt)]
      have := holds j u hu
      rwa [hadd] at this

/-- A number appended to a row of the call's own, as one step of a region that draws. -/
theorem step_append_u32 {ops : Array Oper} {o : Oper} {a : Act} {w wb : World} {K : Act → World → Prop} {Q : Exit → Act → World → Prop} {E : Prop} (hgd : o.guard = none) (s x : Operand)
    (ho : o.op = .call { callee := .builtin .append, args := #[s, x], argTypes := #[53, 53] }) (base n : Nat) (v : Value) (l : List Int) (hs : a.eval s = v) (hown : w.ownsRow base 27 1 v n (u32s l)) (hb : base ≤ w.heap.size) (hn : n ≤ 1000000)
    (g : Nat) (y : Int) (t : TypeId) (hx : a.eval x = .slice (some ⟨g, 0, none⟩) 1 1) (hc : w.heap[g]? = some (.cells #[.int .u32 y] t (0, 0))) (hbl : Below base wb w)
    (h : ∀ v' w', w'.ownsRow base 27 1 v' (n + 1) (u32s (l ++ [y])) → Below base wb w' → wb.heap.size ≤ w'.heap.size → (∀ g' cap, v = .slice (some ⟨g', 0, none⟩) n cap → ∀ j u, (u32s l)[j]? = some u → w'.cell? ⟨g', j, none⟩ = some u) → K (a.put o.dst v') w') :
    if Region.wanted o (yielded ops a.tmps) = true then Oper.wp Tryd.prog o a w K Q else E := by
  obtain ⟨i0, hi, hz0, hz1, hz2⟩ := info_parts info27
  have hw : Region.wanted o (yielded ops a.tmps) = true := by simp [Region.wanted, hgd]
  rw [if_pos hw]
  have hnews := World.news_of_block hc
  have h63 : n + 1 ≤ maxLen := by simp [maxLen]; omega
  obtain ⟨v', w', hrun, hown', hg, _, _⟩ := run_append_own_at (P := Tryd.prog) w base 53 o.type 27 i0 (.int .u32 0) 1 4 Tryd.underlying53 hi hz0 hz1 hz2 rfl (by omega) v n (u32s l) hown ⟨g, 0, none⟩ 1 1 [.int .u32 y] rfl hnews (by simp [Value.oneCell']) h63 (by omega) hb
  have hbel := below_own hbl hown hg (Nat.le_refl _) hb
  have hkeep : ∀ g' cap, v = .slice (some ⟨g', 0, none⟩) n cap → ∀ j u, (u32s l)[j]? = some u → w'.cell? ⟨g', j, none⟩ = some u := by
    rintro g' cap rfl
    exact append_keeps Tryd.underlying53 hi hz0 hz1 hz2 hown _ _ _ _ rfl hnews (by simp [Value.oneCell']) h63 (by omega) hrun hown'
  unfold Oper.wp execOp
  simp only [ho, resolve, invoke, builtin, Sem.run_bind, Sem.run_pure, Result.andThen_ok, List.map_toArray, List.map_cons, List.map_nil, hs, hx, hrun]
  refine h v' w' ?_ hbel hbel.size hkeep
  rw [show u32s (l ++ [y]) = u32s l ++ [.int .u32 y] by simp [u32s]]; exact hown'

set_option maxRecDepth 100000 in
set_option maxHeartbeats 4000000 in
theorem block_any (h : V8) (b : List Int) (hb : b.length = 64) (hg : good8 b) (w : World) : Calls Tryd.prog 28 #[.agg (v8c h), .agg (u8s b).toArray] w fun e w' => e = .returned (.agg (v8c (blockS h b))) ∧ Below w.heap.size w w' := by
  have HB : Hid (b.length = 64) := hb
  have HG : Hid (good8 b) := hg
  clear hb hg
  go_enter Tryd.func28, Tryd.ntmps28
  go_upto_region 1 with fail
  generalize hW : World.alloc (World.alloc (World.alloc w _) _) _ = w3
  obtain ⟨hh0, hb0, hr0, hz, hbl⟩ := three_gen hW
  have HH0 : Hid (w3.heap[w.heap.size]? = some (.cells (v8c h) 28 (0, 0))) := hh0
  have HB0 : Hid (w3.heap[w.heap.size + 1]? = some (.cells (u8s b).toArray 30 (0, 0))) := hb0
  have HR0 : Hid (w3.heap[w.heap.size + 1 + 1]? = some (.cells (u32s (zeros 8)).toArray 28 (0, 0))) := hr0
  have HL0 : Hid (Below w.heap.size w w3) := hbl
  have q03 : w.heap.size + 1 + 1 < w3.heap.size := by omega
  clear hh0 hb0 hr0 hbl hW hz
  go_wp2
  go_loopw [5, 6] (fun v i wr => ∃ k : Nat, k ≤ 16 ∧ i = .int .i64 k ∧ wr.ownsRow w3.heap.size 27 1 v k (u32s (schedS b k)) ∧ Below w3.heap.size w3 wr) (fun _ i _ => 16 - (intOf i).toNat)
  case atStart => exact ⟨0, by omega, rfl, World.ownsRow_nil _ _ _ _, Below.refl _ _⟩
  case round =>
    obtain ⟨k, hk, rfl, hown, hbr⟩ := hrel
    have HBR : Hid (Below w3.heap.size w3 wr) := hbr
    have hbw := block_below HB0.out hbr (by omega)
    have q3 : w3.heap.size ≤ wr.heap.size := hbr.size
    by_cases hlt : k < 16
    · have hki : (k : Int) < 16 := by omega
      have hl := HB.out
      have c0 := cell_u8 (i := 4 * k) hbw (by omega)
      have c1 := cell_u8 (i := 4 * k + 1) hbw (by omega)
      have c2 := cell_u8 (i := 4 * k + 2) hbw (by omega)
      have c3 := cell_u8 (i := 4 * k + 3) hbw (by omega)
      have q1 : w.heap.size + 1 < wr.heap.size := by omega
      have HN : Hid (schedS b (k + 1) = schedS b k ++ [wordS b k]) := by show schedS b (k + 1) = _; simp [schedS, hlt]
      have HWD : Hid (wordS b k = b.getD (4 * k) 0 * 16777216 + b.getD (4 * k + 1) 0 * 65536 + b.getD (4 * k + 2) 0 * 256 + b.getD (4 * k + 3) 0) := rfl
      obtain ⟨b00, b01⟩ := HG.out (4 * k)
      obtain ⟨b10, b11⟩ := HG.out (4 * k + 1)
      obtain ⟨b20, b21⟩ := HG.out (4 * k + 2)
      obtain ⟨b30, b31⟩ := HG.out (4 * k + 3)
      have HK : Hid (∀ w', Below w3.heap.size w3 w' → (w'.cell? ⟨w.heap.size + 1, 4 * k, none⟩ = some (.int .u8 (b.getD (4 * k) 0)) ∧ w'.cell? ⟨w.heap.size + 1, 4 * k + 1, none⟩ = some (.int .u8 (b.getD (4 * k + 1) 0)) ∧ w'.cell? ⟨w.heap.size + 1, 4 * k + 2, none⟩ = some (.int .u8 (b.getD (4 * k + 2) 0)) ∧ w'.cell? ⟨w.heap.size + 1, 4 * k + 3, none⟩ = some (.int .u8 (b.getD (4 * k + 3) 0)))) := fun w' hw' => by
        have hh := block_below HB0.out hw' (by omega)
        exact ⟨cell_u8 hh (by omega), cell_u8 hh (by omega), cell_u8 hh (by omega), cell_u8 hh (by omega)⟩
      have HOwn : Hid (wr.ownsRow w3.heap.size 27 1 u5 k (u32s (schedS b k))) := hown
      clear hl hbr hbw hown
      generalize b.getD (4 * k) 0 = x0 at *
      generalize b.getD (4 * k + 1) 0 = x1 at *
      generalize b.getD (4 * k + 2) 0 = x2 at *
      generalize b.getD (4 * k + 3) 0 = x3 at *
      have e0 : IntKind.i64.wrap (4 * (k : Int)) = 4 * (k : Int) := IntWalk.i64_in _ (by omega)
      have e1 : IntKind.i64.wrap (4 * (k : Int) + 1) = 4 * (k : Int) + 1 := IntWalk.i64_in _ (by omega)
      have e2 : IntKind.i64.wrap (4 * (k : Int) + 2) = 4 * (k : Int) + 2 := IntWalk.i64_in _ (by omega)
      have e3 : IntKind.i64.wrap (4 * (k : Int) + 3) = 4 * (k : Int) + 3 := IntWalk.i64_in _ (by omega)
      have n0 : (4 * (k : Int)).toNat = 4 * k := by omega
      have n1 : (4 * (k : Int) + 1).toNat = 4 * k + 1 := by omega
      have n2 : (4 * (k : Int) + 2).toNat = 4 * k + 2 := by omega
      have n3 : (4 * (k : Int) + 3).toNat = 4 * k + 3 := by omega
      have l0 : 0 ≤ 4 * (k : Int) := by omega
      have l1 : 0 ≤ 4 * (k : Int) + 1 := by omega
      have l2 : 0 ≤ 4 * (k : Int) + 2 := by omega
      have l3 : 0 ≤ 4 * (k : Int) + 3 := by omega
      have s0 : IntKind.u32.wrap (x0 * 16777216) = x0 * 16777216 := IntWalk.u32_in _ (by omega)
      have s1 : IntKind.u32.wrap (x1 * 65536) = x1 * 65536 := IntWalk.u32_in _ (by omega)
      have s2 : IntKind.u32.wrap (x2 * 256) = x2 * 256 := IntWalk.u32_in _ (by omega)
      have t0 : IntKind.u32.wrap x0 = x0 := IntWalk.u32_in _ (by omega)
      have t1 : IntKind.u32.wrap x1 = x1 := IntWalk.u32_in _ (by omega)
      have t2 : IntKind.u32.wrap x2 = x2 := IntWalk.u32_in _ (by omega)
      have t3 : IntKind.u32.wrap x3 = x3 := IntWalk.u32_in _ (by omega)
      have a1 : IntKind.u32.wrap (x0 * 16777216 + x1 * 65536) = x0 * 16777216 + x1 * 65536 := IntWalk.u32_in _ (by omega)
      have a2 : IntKind.u32.wrap (x0 * 16777216 + x1 * 65536 + x2 * 256) = x0 * 16777216 + x1 * 65536 + x2 * 256 := IntWalk.u32_in _ (by omega)
      have a3 : IntKind.u32.wrap (x0 * 16777216 + x1 * 65536 + x2 * 256 + x3) = x0 * 16777216 + x1 * 65536 + x2 * 256 + x3 := IntWalk.u32_in _ (by omega)
      have g0 : 4 * (k : Int) < 64 := by omega
      have g1 : 4 * (k : Int) + 1 < 64 := by omega
      have g2 : 4 * (k : Int) + 2 < 64 := by omega
      have g3 : 4 * (k : Int) + 3 < 64 := by omega
      go_wp2
      go_region_held3 (fun w' => w'.cell? ⟨w.heap.size + 1, 4 * k, none⟩ = some (.int .u8 x0) ∧ w'.cell? ⟨w.heap.size + 1, 4 * k + 1, none⟩ = some (.int .u8 x1) ∧ w'.cell? ⟨w.heap.size + 1, 4 * k + 2, none⟩ = some (.int .u8 x2) ∧ w'.cell? ⟨w.heap.size + 1, 4 * k + 3, none⟩ = some (.int .u8 x3))
        (first | go_keep | exact hkeep)
        ((refine step_append_u32 (wb := w3) rfl (.tmp 24) (.tmp 54) rfl w3.heap.size k u5 (schedS b k) rfl (own_below HOwn.out (below_drewN ((Below.refl _ _).alloc (Nat.le_refl _) _) 1)) (by simp; omega) (by omega) wr.heap.size _ _ rfl (heap_alloc_new wr _) ((HBR.out.alloc q3 _).drew) ?_
          intro v' w5 hown5 hb5 hz5 _
          have hkeep := HK.out w5 hb5))
      clear e0 e1 e2 e3 n0 n1 n2 n3 s0 s1 s2 t0 t1 t2 t3 a1 a2 a3
      go_wp2
      go_roundw
      case rel => exact ⟨k + 1, by omega, by go_num, by rw [HN.out, HWD.out]; exact hown5, hb5⟩
      case measure => simp [intOf]; omega
    · have hk16 : k = 16 := by omega
      subst hk16
      have HOwn : Hid (wr.ownsRow w3.heap.size 27 1 u5 16 (u32s (schedS b 16))) := hown
      clear hbr hown hbw hlt hk
      obtain ⟨wo, rfl⟩ : ∃ wo : World, wo = wr := ⟨_, rfl⟩
      rw [show ((16 : Nat) : Int) = (16 : Int) from rfl]
      go_wp2
      go_loopw [5, 7] (fun v i wr => ∃ k : Nat, 16 ≤ k ∧ k ≤ 64 ∧ i = .int .i64 k ∧ wr.ownsRow w3.heap.size 27 1 v k (u32s (schedS b k)) ∧ Below w3.heap.size w3 wr) (fun _ i _ => 64 - (intOf i).toNat)
      case atStart => exact ⟨16, by omega, by omega, rfl, HOwn.out, HBR.out⟩
      case round =>
        clear HOwn HBR q3
        obtain ⟨k, hk16, hk, rfl, hown, hbr⟩ := hrel
        have HBR : Hid (Below w3.heap.size w3 wr) := hbr
        have q3 : w3.heap.size ≤ wr.heap.size := hbr.size
        have HOwn : Hid (wr.ownsRow w3.heap.size 27 1 u5 k (u32s (schedS b k))) := hown
        obtain ⟨g, cap, rfl, hcap, hg, hgb, hcell⟩ := own_cells hown (by omega)
        by_cases hlt : k < 64
        · have hki : (k : Int) < 64 := by omega
          have c15 := hcell (k - 15) (by omega)
          have c2 := hcell (k - 2) (by omega)
          have c16 := hcell (k - 16) (by omega)
          have c7 := hcell (k - 7) (by omega)
          have HK : Hid (∀ w' : World, (∀ j u, (u32s (schedS b k))[j]? = some u → w'.cell? ⟨g, j, none⟩ = some u) → w'.cell? ⟨g, k - 2, none⟩ = some (.int .u32 ((schedS b k).getD (k - 2) 0)) ∧ w'.cell? ⟨g, k - 7, none⟩ = some (.int .u32 ((schedS b k).getD (k - 7) 0)) ∧ w'.cell? ⟨g, k - 15, none⟩ = some (.int .u32 ((schedS b k).getD (k - 15) 0)) ∧ w'.cell? ⟨g, k - 16, none⟩ = some (.int .u32 ((schedS b k).getD (k - 16) 0))) := fun w' hw' => by
            have hln := schedS_len b k
            exact ⟨keep_at hw' (by omega), keep_at hw' (by omega), keep_at hw' (by omega), keep_at hw' (by omega)⟩
          have HN : Hid (schedS b (k + 1) = schedS b k ++ [((schedS b k).getD (k - 16) 0 + (schedS b k).getD (k - 7) 0 + sm0 ((schedS b k).getD (k - 15) 0) + sm1 ((schedS b k).getD (k - 2) 0)) % 4294967296]) := by
            show schedS b (k + 1) = _
            rw [schedS, if_neg (by omega), nextS]
          generalize (schedS b k).getD (k - 15) 0 = y15 at *
          generalize (schedS b k).getD (k - 2) 0 = y2 at *
          generalize (schedS b k).getD (k - 16) 0 = y16 at *
          generalize (schedS b k).getD (k - 7) 0 = y7 at *
          have e15 : IntKind.i64.wrap ((k : Int) - 15) = (k : Int) - 15 := IntWalk.i64_in _ (by omega)
          have e2 : IntKind.i64.wrap ((k : Int) - 2) = (k : Int) - 2 := IntWalk.i64_in _ (by omega)
          have e16 : IntKind.i64.wrap ((k : Int) - 16) = (k : Int) - 16 := IntWalk.i64_in _ (by omega)
          have e7 : IntKind.i64.wrap ((k : Int) - 7) = (k : Int) - 7 := IntWalk.i64_in _ (by omega)
          have n15 : ((k : Int) - 15).toNat = k - 15 := by omega
          have n2 : ((k : Int) - 2).toNat = k - 2 := by omega
          have n16 : ((k : Int) - 16).toNat = k - 16 := by omega
          have n7 : ((k : Int) - 7).toNat = k - 7 := by omega
          have l15 : 0 ≤ (k : Int) - 15 := by omega
          have l2 : 0 ≤ (k : Int) - 2 := by omega
          have l16 : 0 ≤ (k : Int) - 16 := by omega
          have l7 : 0 ≤ (k : Int) - 7 := by omega
          have h15 : (15 : Int) ≤ (k : Int) := by omega
          have h2 : (2 : Int) ≤ (k : Int) := by omega
          have h16 : (16 : Int) ≤ (k : Int) := by omega
          have h7 : (7 : Int) ≤ (k : Int) := by omega
          have g15 : (k : Int) - 15 < (k : Int) := by omega
          have g2 : (k : Int) - 2 < (k : Int) := by omega
          have g16 : (k : Int) - 16 < (k : Int) := by omega
          have g7 : (k : Int) - 7 < (k : Int) := by omega
          clear hbr hown hcell
          go_wp2
          go_region_held3 (fun w' => w'.cell? ⟨g, k - 2, none⟩ = some (.int .u32 y2) ∧ w'.cell? ⟨g, k - 7, none⟩ = some (.int .u32 y7) ∧ w'.cell? ⟨g, k - 15, none⟩ = some (.int .u32 y15) ∧ w'.cell? ⟨g, k - 16, none⟩ = some (.int .u32 y16))
            (first | go_keep | exact hkeep)
            (first
              | (go_at_call 33
                 refine (small1_any _ _).mono ?_
                 rintro e w5 ⟨rfl, m1, rfl⟩)
              | (go_at_call 34
                 refine (small0_any _ _).mono ?_
                 rintro e w6 ⟨rfl, m2, rfl⟩)
              | (refine step_append_u32 (wb := w3) rfl (.tmp 60) (.tmp 86) rfl w3.heap.size k (.slice (some ⟨g, 0, none⟩) k cap) (schedS b k) rfl (own_below HOwn.out (below_drewN ((Below.refl _ _).alloc (Nat.le_refl _) _) _)) (by simp; omega) (by omega) wr.heap.size _ _ rfl (heap_alloc_new wr _) (below_drewN (HBR.out.alloc q3 _) _) ?_
                 intro v' w7 hown7 hb7 hz7 hk7
                 have hkeep := HK.out w7 (hk7 _ _ rfl)))
          clear e15 e2 e16 e7 n15 n2 n16 n7 hkeep hk7
          go_wp2
          go_roundw
          case rel =>
            refine ⟨k + 1, by omega, by omega, by go_num, ?_, hb7⟩
            rw [HN.out]
            rw [show IntKind.u32.wrap (IntKind.u32.wrap (IntKind.u32.wrap (sm1 y2 + y7) + sm0 y15) + y16) = (y16 + y7 + sm0 y15 + sm1 y2) % 4294967296 by
              rw [IntKind.wrap_u32', IntKind.wrap_u32', IntKind.wrap_u32']; omega] at hown7
            exact hown7
          case measure => simp [intOf]; omega
        · have hk64 : k = 64 := by omega
          subst hk64
          obtain ⟨sc, hsc⟩ : ∃ sc, sc = schedS b 64 := ⟨_, rfl⟩
          have HSC : Hid (sc = schedS b 64) := hsc
          rw [← hsc] at hcell
          have HCell : Hid (∀ j, j < 64 → wr.cell? ⟨g, j, none⟩ = some (.int .u32 (sc.getD j 0))) := hcell
          clear HOwn hown hcell hbr hsc hlt hk hk16
          obtain ⟨wp, rfl⟩ : ∃ wp : World, wp = wr := ⟨_, rfl⟩
          rw [show ((64 : Nat) : Int) = (64 : Int) from rfl]
          go_wp2_with fail
          refine (keys_any _).mono ?_
          rintro e w8 ⟨rfl, hw8⟩
          have hk8 : w8.heap[wp.heap.size]? = some (.cells (u32s keysL).toArray 27 (0, 0)) := by rw [← hw8]; exact heap_alloc_new _ _
          have hb8 : Below wp.heap.size wp w8 := by rw [← hw8]; exact (Below.refl _ _).alloc (Nat.le_refl _) _
          have hz8 : wp.heap.size < w8.heap.size := by rw [← hw8]; simp
          have HC8 : Hid (∀ j, j < 64 → w8.cell? ⟨g, j, none⟩ = some (.int .u32 (sc.getD j 0))) := fun j hj => (hb8.cell (p := ⟨g, j, none⟩) hg).trans (HCell.out j hj)
          have HB8 : Hid (Below w3.heap.size w3 w8) := HBR.out.trans (hb8.mono q3)
          have HK8 : Hid (w8.heap[wp.heap.size]? = some (.cells (u32s keysL).toArray 27 (0, 0))) := hk8
          have hh8 := block_below HH0.out HB8.out (by omega)
          have HH8 : Hid (w8.heap[w.heap.size]? = some (.cells (v8c h) 28 (0, 0))) := hh8
          have HR8 : Hid (w8.heap[w.heap.size + 1 + 1]? = some (.cells (u32s (zeros 8)).toArray 28 (0, 0))) := block_below HR0.out HB8.out (by omega)
          obtain ⟨⟨a0, a1, a2, a3⟩, ⟨a4, a5, a6, a7⟩, -⟩ := cells8 hh8
          have q8 : w.heap.size < w8.heap.size := by omega
          have q9 : g < w8.heap.size := by omega
          have q10 : w.heap.size + 1 + 1 < w8.heap.size := by omega
          clear hw8 hk8 hb8 hh8 HCell HBR
          go_wp2
          go_quiet (fail)
          go_wp2
          go_loopw [9, 10, 11, 12, 13, 14, 15, 16, 17] (fun ta tb tc td te tf tg th i wr => ∃ k : Nat, k ≤ 64 ∧ i = .int .i64 k ∧ (∃ v, v = roundsS h sc k ∧ ta = .int .u32 v.a ∧ tb = .int .u32 v.b ∧ tc = .int .u32 v.c ∧ td = .int .u32 v.d ∧ te = .int .u32 v.e ∧ tf = .int .u32 v.f ∧ tg = .int .u32 v.g ∧ th = .int .u32 v.h) ∧ ∃ n, wr = w8.drewN n) (fun _ _ _ _ _ _ _ _ i _ => 64 - (intOf i).toNat)
          case atStart => exact ⟨0, by omega, rfl, ⟨h, rfl, rfl, rfl, rfl, rfl, rfl, rfl, rfl, rfl⟩, _, rfl⟩
          case round =>
            obtain ⟨k, hk, rfl, ⟨v, hv, rfl, rfl, rfl, rfl, rfl, rfl, rfl, rfl⟩, n, rfl⟩ := hrel
            obtain ⟨va, vb, vc, vd, ve, vf, vg, vh⟩ := v
            have HV : Hid (⟨va, vb, vc, vd, ve, vf, vg, vh⟩ = roundsS h sc k) := hv
            clear hv
            by_cases hlt : k < 64
            · have hki : (k : Int) < 64 := by omega
              have HN : Hid (roundsS h sc (k + 1) = stepS (roundsS h sc k) (keysL.getD k 0) (sc.getD k 0)) := rfl
              have cK := cell_u32 (i := k) HK8.out (by show k < 64; omega)
              have cS := HC8.out k hlt
              generalize keysL.getD k 0 = kk at cK HN
              generalize sc.getD k 0 = ss at cS HN
              clear a0 a1 a2 a3 a4 a5 a6 a7
              go_wp2
              go_quiet ((go_at_call 36; exact quiet_more (fun W => large1_any _ W) _ _ _))
              go_wp2_with fail
              refine (large0_any _ _).mono ?_
              rintro e w9 ⟨rfl, m, rfl⟩
              go_wp2
              go_roundw
              case rel =>
                refine ⟨k + 1, by omega, by go_num, ⟨stepS ⟨va, vb, vc, vd, ve, vf, vg, vh⟩ kk ss, by rw [HN.out, ← HV.out], ?_⟩, ?_⟩
                · rw [step_flat]
                  refine ⟨congrArg _ ?_, rfl, rfl, rfl, congrArg _ ?_, rfl, rfl, rfl⟩
                  · show ((vh + lg1 ve + xw (aw ve vf) (aw (nw ve) vg) + kk + ss) % 4294967296 + (lg0 va + xw (xw (aw va vb) (aw va vc)) (aw vb vc)) % 4294967296) % 4294967296 = (vh + lg1 ve + xw (aw ve vf) (aw (nw ve) vg) + kk + ss + (lg0 va + xw (xw (aw va vb) (aw va vc)) (aw vb vc))) % 4294967296
                    omega
                  · show (vd + (vh + lg1 ve + xw (aw ve vf) (aw (nw ve) vg) + kk + ss) % 4294967296) % 4294967296 = (vd + (vh + lg1 ve + xw (aw ve vf) (aw (nw ve) vg) + kk + ss)) % 4294967296
                    omega
                · first | exact ⟨_, rfl⟩ | exact ⟨_, by simp⟩
              case measure => simp [intOf]; omega
            · have hk64 : k = 64 := by omega
              subst hk64
              rw [show ((64 : Nat) : Int) = (64 : Int) from rfl]
              go_wp2_with (refine wpList_store_row rfl 28 (.tmp 4) (.tmp 190) rfl (w.heap.size + 1 + 1) rfl (v8r h ⟨va, vb, vc, vd, ve, vf, vg, vh⟩) rfl 28 _ HR8.out rfl size28 (by simp [v8r, Value.oneCell']) ?_)
              exact bodyPost_ret (results_cell_row rfl _ _ (w.heap.size + 1 + 1) 28 (v8r h ⟨va, vb, vc, vd, ve, vf, vg, vh⟩) (0, 0) _ rfl (setRow_heap _ _ _ _ _ _ HR8.out) Tryd.underlying28 rfl size28) rfl
                ⟨by rw [v8r_add, HV.out, HSC.out]; rfl, below_setRow (below_drewN (HL0.out.trans (HB8.out.mono (by omega))) _) (by omega) _⟩

end Go.Proofs.YtaafgakflmgpoaaDoor
