/- The walk of take: a machine with its timers takes over a machine and outputs. -/
import Derived.Test.YtlcpadonjbaaeaaSimW
import Derived.Deep.DeepCutAuto
import Derived.Deep.RegionLaw
import Derived.Deep.QuietTactic
import Derived.BigQuiet
import Derived.RegionTactic
import Derived.BigRegion
namespace Go.Proofs.Ytlcpadonjbaaeaa
open Go.RowKit

/-- The slice of outputs lies away from the machine's block and its log's. -/
def Away (A : Option Addr) (g : Nat) (v : Value) : Prop := ∀ b off, A = some ⟨b, off, none⟩ → b ≠ g ∧ v.ownBlock ≠ some b

theorem info55 : (Try.prog.info? 55).map (fun i => (i.zero, i.size, i.bytes)) = some (some (.agg #[.int .i64 0, .int .u8 0, .int .i64 0, .int .u8 0, .int .i64 0]), 5, 40) := by kernel_rfl

set_option maxRecDepth 100000 in
set_option maxHeartbeats 2000000 in
theorem take_any {N B g : Nat} {s : Sim} {v : Value} (m : Mc) (A : Option Addr) (c : Nat) (l : List Out) (w : World) (hs : SimV w B g s v) (ok : OkS N s) (hN : N + l.length ≤ 1000000000) (hm : OkM m) (hl : ∀ o ∈ l, OkO o)
    (h : ORd w w.heap.size A l) (haw : Away A g v) :
    Calls Try.prog 26 #[.pointer (some ⟨g, 0, none⟩), mval m, .slice A l.length c] w fun e w' => e = .returned (.tuple #[]) ∧ SimAt w' B g (takeS s m l) ∧ Below B w w' := by
  have HS : Hid (SimV w B g s v) := hs
  have HOK : Hid (OkS N s) := ok
  have HL : Hid (∀ o ∈ l, OkO o) := hl
  have HM : Hid (OkM m) := hm
  have HR : Hid (ORd w w.heap.size A l) := h
  have HA : Hid (Away A g v) := haw
  obtain ⟨⟨a0, a1, a2⟩, a3, a4, f0, -⟩ := hs.cells ok.1
  have q0 : g < w.heap.size := hs.lt
  clear hs ok hl h haw hm
  go_enter Try.func26, Try.ntmps26
  go_wp2_with fail
  have hv0 : SimV ((((w.setCell ⟨g, 0, none⟩ (.int .u8 m.1)).setCell ⟨g, 1, none⟩ (.int .i64 m.2.1)).setCell ⟨g, 2, none⟩ (.int .i64 m.2.2)).alloc (.cells #[.int .u8 m.1, .int .i64 m.2.1, .int .i64 m.2.2] 31)) B g { s with m := m } v :=
    (HS.out.set_m m).below ((Below.refl _ _).alloc (Nat.le_refl _) _)
  have hBg := HS.out.1
  have hb0 : Below B w ((((w.setCell ⟨g, 0, none⟩ (.int .u8 m.1)).setCell ⟨g, 1, none⟩ (.int .i64 m.2.1)).setCell ⟨g, 2, none⟩ (.int .i64 m.2.2)).alloc (.cells #[.int .u8 m.1, .int .i64 m.2.1, .int .i64 m.2.2] 31)) :=
    ((((Below.refl _ _).setCell hBg _).setCell hBg _).setCell hBg _).alloc (by simp; omega) _
  have hr0 : ORd ((((w.setCell ⟨g, 0, none⟩ (.int .u8 m.1)).setCell ⟨g, 1, none⟩ (.int .i64 m.2.1)).setCell ⟨g, 2, none⟩ (.int .i64 m.2.2)).alloc (.cells #[.int .u8 m.1, .int .i64 m.2.1, .int .i64 m.2.2] 31)) w.heap.size A l := HR.out.same fun b off hA hlt => by
    have hn := (HA.out b off hA).1
    rw [heap_alloc_old, Below.heap_setCell _ _ _ _ hn, Below.heap_setCell _ _ _ _ hn, Below.heap_setCell _ _ _ _ hn]
    simpa using hlt
  have z0 : w.heap.size < ((((w.setCell ⟨g, 0, none⟩ (.int .u8 m.1)).setCell ⟨g, 1, none⟩ (.int .i64 m.2.1)).setCell ⟨g, 2, none⟩ (.int .i64 m.2.2)).alloc (.cells #[.int .u8 m.1, .int .i64 m.2.1, .int .i64 m.2.2] 31)).heap.size := by simp
  generalize World.alloc _ _ = w1 at hv0 hb0 hr0 z0 ⊢
  have HV : Hid (SimV w1 B g { s with m := m } v) := hv0
  have HB0 : Hid (Below B w w1) := hb0
  have HR1 : Hid (ORd w1 w.heap.size A l) := hr0
  clear hv0 hb0 hr0 a0 a1 a2 a3 a4 f0 HS HR
  obtain ⟨i0, hi0, hz0, hz1, hz2⟩ := info_parts info55
  go_loopw [6] (fun i wr => ∃ k : Nat, ∃ v', k ≤ l.length ∧ i = .int .i64 k ∧ SimV wr B g ((l.take k).foldl putS { s with m := m }) v' ∧ ORd wr w.heap.size A l ∧ Away A g v' ∧ Below B w wr ∧ w.heap.size ≤ wr.heap.size) (fun i _ => l.length - (intOf i).toNat)
  case atStart => exact ⟨0, v, by omega, rfl, HV.out, HR1.out, HA.out, HB0.out, by omega⟩
  case round =>
    obtain ⟨k, v', hk, rfl, hv, hr, haw, hb, hz⟩ := hrel
    by_cases hlt : k < l.length
    · have hki : (k : Int) < (l.length : Int) := by omega
      obtain ⟨b, off, o, rfl, hbb, ho, h1, h2, h3, h4⟩ := hr.at_ hlt
      obtain ⟨s', hs'⟩ : ∃ s', s' = (l.take k).foldl putS { s with m := m } := ⟨_, rfl⟩
      rw [← hs'] at hv
      have HS' : Hid (s' = (l.take k).foldl putS { s with m := m }) := hs'
      have hok : OkS (N + k) s' := by
        have := (HOK.out.m m HM.out).fold (l.take k) (fun x hx => HL.out x (List.mem_of_mem_take hx))
        rw [List.length_take, Nat.min_eq_left hk] at this
        rw [hs']; exact this
      have hoo : OkO o := HL.out o (List.mem_of_getElem? ho)
      obtain ⟨⟨-, -, -⟩, a3, a4, f0, a5⟩ := hv.cells hok.1
      have q0 : g < wr.heap.size := hv.lt
      have q1 : b < wr.heap.size := by omega
      have hne : b ≠ g := (haw b off rfl).1
      have hnv : v'.ownBlock ≠ some b := (haw b off rfl).2
      have HVr : Hid (SimV wr B g s' v') := hv
      have HRr : Hid (ORd wr w.heap.size (some ⟨b, off, none⟩) l) := hr
      have HBr : Hid (Below B w wr) := hb
      have HO : Hid (l[k]? = some o) := ho
      have HOK' : Hid (OkS (N + k) s') := hok
      have HOO : Hid (OkO o) := hoo
      have HK : Hid (∀ w' : World, w'.heap[g]? = wr.heap[g]? → w'.heap[b]? = wr.heap[b]? → w'.cell? ⟨g, 17, none⟩ = some (.int .i64 s'.now) ∧ w'.cell? ⟨g, 18, none⟩ = some v' ∧
          w'.cell? ⟨b, off + k * 4, none⟩ = some (.int .u8 o.1) ∧ w'.cell? ⟨b, off + k * 4 + 1, none⟩ = some (.int .i64 o.2.1) ∧ w'.cell? ⟨b, off + k * 4 + 2, none⟩ = some (.int .u8 o.2.2.1) ∧ w'.cell? ⟨b, off + k * 4 + 3, none⟩ = some (.int .i64 o.2.2.2)) := fun w' hg hb' =>
        ⟨(World.cell?_of_block hg).trans a3, (World.cell?_of_block hg).trans a4, (World.cell?_of_block hb').trans h1, (World.cell?_of_block hb').trans h2, (World.cell?_of_block hb').trans h3, (World.cell?_of_block hb').trans h4⟩
      have hl9 : s'.log.length ≤ 1000000000 := by have := hok.2.2.2.2; omega
      have hBr : B ≤ wr.heap.size := by have := hv.1; omega
      have hgv : some g ≠ v'.ownBlock := fun e => hv.2.2.2 e.symm
      have HOld : Hid (∀ (x : Nat) (ob : Obj), x < wr.heap.size → (wr.alloc ob).drew.heap[x]? = wr.heap[x]?) := fun x ob hx => by
        show (wr.alloc ob).heap[x]? = _
        rw [heap_alloc_old]
        exact hx
      clear hv hr hb ho hok hoo haw hs'
      go_upto_region 5 with fail
      go_cut [] (fun wx => ∃ v2, SimV wx B g { s' with log := s'.log ++ [(s'.now, o)] } v2 ∧ ORd wx w.heap.size (some ⟨b, off, none⟩) l ∧ Away (some ⟨b, off, none⟩) g v2 ∧ Below B w wx ∧ w.heap.size ≤ wx.heap.size)
      case first =>
        go_region_law
          ((refine step_append_lies _ (by rfl) _ _ _ (by rfl) B 55 i0 _ 5 40 Try.underlying33 hi0 hz0 hz1 hz2 rfl (by omega) v' s'.log.length (s'.log.flatMap ecells) (by rfl) (own_below HVr.out.2.2.1 (below_drewN ((Below.refl _ _).alloc (Nat.le_refl _) _) 1)) _ 1 1 (ecells (s'.now, o)) (by rfl) rfl (World.news_of_block (heap_alloc_new wr _)) (by simp [ecells, ocells, Value.oneCell']) (by omega) (by simp only [maxLen]; omega) (by omega) (by simp; omega) _ rfl ?_
            intro g2 cap w2 hown2 hgrow hat hlt2
            have e1 : w2.heap[g]? = wr.heap[g]? := (hgrow.block g (by simp; omega) hgv).trans (HOld.out g _ q0)
            have e2 : w2.heap[b]? = wr.heap[b]? := (hgrow.block b (by simp; omega) hnv.symm).trans (HOld.out b _ q1)
            obtain ⟨c1, c2, c3, c4, c5, c6⟩ := HK.out w2 e1 e2
            have hf2 : w2.frozen? ⟨g, 18, none⟩ = false := frozen_of_row _ _ _ _ _ (e1.trans HVr.out.2.1)
            have hx : g2 ≠ g ∧ g2 ≠ b := by
              rcases hat with h | h
              · exact ⟨fun e => hgv (by rw [h, e]), fun e => hnv (by rw [h, e])⟩
              · simp at h
                omega))
        all_goals
          go_wp2_with fail
          go_meet
          refine ⟨.slice (some ⟨g2, 0, none⟩) (s'.log.length + 1) cap, SimV.set_log (e1.trans HVr.out.2.1) hBg HOK'.out.1 hown2 (fun e => hx.1 (by simpa [Value.ownBlock] using e)), ?_, ?_, ?_, ?_⟩
          · exact HRr.out.same fun b' off' hA' _ => by
              cases hA'
              exact (Below.heap_setCell w2 ⟨g, 18, none⟩ _ b hne).trans (e2)
          · intro b' off' hA'
            cases hA'
            exact ⟨hne, fun e => hx.2 (by simpa [Value.ownBlock] using e)⟩
          · exact (below_grown (below_drewN (HBr.out.alloc hBr _) 1) hgrow (by simp; omega) (fun k' hk' => (HVr.out.2.2.1.lt k' hk').1)).setCell hBg _
          · have := hgrow.size
            simp at this ⊢
            omega
      case rest =>
        obtain ⟨v2, hv2, hr2, haw2, hb2, hz2'⟩ := hcut
        clear h1 h2 h3 h4 a3 a4 f0 a5 q0 q1 HK HVr HRr HBr hBr hgv HOld hnv
        obtain ⟨b', off', o', he, hbb', ho', h1, h2, h3, h4⟩ := hr2.at_ hlt
        cases he
        have : o' = o := by rw [HO.out] at ho'; exact (Option.some.inj ho').symm
        subst this
        have ok2 : OkS (N + k + 1) (putS s' o') := HOK'.out.put HOO.out
        obtain ⟨-, a3, a4, f0, a5⟩ := hv2.cells HOK'.out.1
        simp only at a3 a5
        have q0 : g < wc.heap.size := hv2.lt
        have q1 : b < wc.heap.size := by omega
        have hn1 := HOK'.out.2.2.1
        have hn2 := HOK'.out.2.2.2.1
        obtain ⟨t1, t2, t3⟩ := HOO.out
        have HV2 : Hid (SimV wc B g { m := s'.m, due := s'.due, now := s'.now, log := s'.log ++ [(s'.now, o')] } v2) := hv2
        have HR2 : Hid (ORd wc w.heap.size (some ⟨b, off, none⟩) l) := hr2
        have HA2 : Hid (Away (some ⟨b, off, none⟩) g v2) := haw2
        have HB2 : Hid (Below B w wc) := hb2
        have HFold : Hid ((l.take (k + 1)).foldl putS { s with m := m } = putS s' o') := by
          show (l.take (k + 1)).foldl putS { s with m := m } = putS s' o'
          rw [List.take_add_one, HO.out, List.foldl_append, ← HS'.out]
          rfl
        clear hv2 hr2 haw2 hb2 ho' hbb'
        by_cases x1 : o'.1 = 4
        · have d1 : (o'.1 == 4) = true := by simp [x1]
          by_cases x2 : o'.2.2.1 < 14
          · have d2 : decide (o'.2.2.1 < 14) = true := by simp [x2]
            have HP : Hid (putS s' o' = { m := s'.m, due := s'.due.set o'.2.2.1.toNat (s'.now + max 1 o'.2.2.2), now := s'.now, log := s'.log ++ [(s'.now, o')] }) := by
              show putS s' o' = _
              unfold putS; rw [if_pos ⟨x1, x2⟩]
            have a6 := a5 o'.2.2.1.toNat (by omega)
            clear x1 a5
            have hn3 : s'.now ≤ 100000000000000 := by omega
            clear hn2
            go_upto_region 7 with fail
            go_region
            go_wp2_with fail
            go_roundw
            case rel =>
              have hm : (if 1 < o'.2.2.2 then o'.2.2.2 else 1) = max 1 o'.2.2.2 := by split <;> omega
              refine ⟨k + 1, v2, by omega, by go_num, ?_, ?_, HA2.out, (HB2.out.setCell hBg _).drew, by simpa using hz2'⟩
              · rw [HFold.out, HP.out, hm]
                exact HV2.out.set_due HOK'.out.1 (by omega) _
              · exact HR2.out.same fun b' off' hA' _ => by
                  cases hA'
                  exact Below.heap_setCell wc ⟨g, 3 + o'.2.2.1.toNat, none⟩ _ b hne
            case measure => simp [intOf]; omega
          · have d2 : decide (o'.2.2.1 < 14) = false := by simp; omega
            have HP : Hid (putS s' o' = { m := s'.m, due := s'.due, now := s'.now, log := s'.log ++ [(s'.now, o')] }) := by
              show putS s' o' = _
              unfold putS; rw [if_neg (fun h => x2 h.2)]
            clear x1 x2
            go_wp2_with fail
            go_roundw
            case rel => exact ⟨k + 1, v2, by omega, by go_num, by rw [HFold.out, HP.out]; exact HV2.out, HR2.out, HA2.out, HB2.out, hz2'⟩
            case measure => simp [intOf]; omega
        · have d1 : (o'.1 == 4) = false := by simp [x1]
          have HP : Hid (putS s' o' = { m := s'.m, due := s'.due, now := s'.now, log := s'.log ++ [(s'.now, o')] }) := by
            show putS s' o' = _
            unfold putS; rw [if_neg (fun h => x1 h.1)]
          clear x1
          go_wp2_with fail
          go_roundw
          case rel => exact ⟨k + 1, v2, by omega, by go_num, by rw [HFold.out, HP.out]; exact HV2.out, HR2.out, HA2.out, HB2.out, hz2'⟩
          case measure => simp [intOf]; omega
    · have hki : ¬ (k : Int) < (l.length : Int) := by omega
      have HV2 : Hid (SimV wr B g ((l.take k).foldl putS { s with m := m }) v') := hv
      have HB2 : Hid (Below B w wr) := hb
      clear hv hr haw hb
      go_wp2_with fail
      refine bodyPost_end (results_none rfl _ _ _) rfl ?_
      have : k = l.length := by omega
      subst this
      have h2 := HV2.out
      rw [List.take_length] at h2
      exact ⟨rfl, h2.at_, HB2.out⟩

end Go.Proofs.Ytlcpadonjbaaeaa
