/- The walks: Add in one, Cancel, CancelAll, Due, Next, Count, Restart. -/
import Derived.Test.YtfocenfgeolpfaaW4
import Derived.Deep.RegionHeld3
namespace Go.Proofs.Ytfocenfgeolpfaa
open Go.RowKit

theorem tm_eta (t : Tm) : (t.1, t.2.1, t.2.2) = t := rfl

/-- What Add and Restart leave: the list, owned in new memory, and the number. -/
def Gives2 (w : World) (r : List Tm × Int) (e : Ending) (w' : World) : Prop :=
  ∃ v, e = .returned (.tuple #[v, .int .u8 r.2]) ∧ w'.ownsRow w.heap.size 28 3 v r.1.length (tscells r.1) ∧ Below w.heap.size w w'
/-- What Cancel and its like leave. -/
def Gives1 (w : World) (r : List Tm) (e : Ending) (w' : World) : Prop :=
  ∃ v, e = .returned v ∧ w'.ownsRow w.heap.size 28 3 v r.length (tscells r) ∧ Below w.heap.size w w'

theorem add_any {B : Nat} (A : Option Addr) (c : Nat) (l : List Tm) (t : Tm) (w : World) (hB : B ≤ w.heap.size) (h : TRd w B A l) (hl : l.length ≤ maxLen) (hcap : l.length ≤ c) :
    Calls Try.prog 22 #[.slice A l.length c, .agg #[.int .i64 t.1, .int .i64 t.2.1, .int .i64 t.2.2]] w (Gives2 w (addT l t)) := by
  by_cases hv : validT l = false ∨ firesT t = false
  · have e : addT l t = ([], 2) := if_pos hv
    rw [e]
    exact (add_bad A c l t w hB h hl hv).mono fun _ _ ⟨he, hb⟩ => ⟨_, he, World.ownsRow_nil _ _ _ _, hb⟩
  · have h1 : validT l = true := by simpa using (not_or.1 hv).1
    have h2 : firesT t = true := by simpa using (not_or.1 hv).2
    have hlen := valid_len h1
    by_cases h3 : l.length = 1000
    · have e : addT l t = ([], 10) := by unfold addT; rw [if_neg hv, if_pos h3]
      rw [e]
      exact (add_full A c l t w hB h hl h1 h2 h3).mono fun _ _ ⟨he, hb⟩ => ⟨_, he, World.ownsRow_nil _ _ _ _, hb⟩
    · have e : addT l t = (l.take (placeT t.1 l) ++ [t] ++ l.drop (placeT t.1 l), 0) := by unfold addT; rw [if_neg hv, if_neg h3]
      have hp := placeT_le t.1 l
      have e2 : (l.take (placeT t.1 l) ++ [t] ++ l.drop (placeT t.1 l)).length = l.length + 1 := by simp; omega
      rw [e]
      exact (add_ok A c l t w hB h hl hcap h1 h2 (by omega)).mono fun _ _ ⟨v, he, ho, hb⟩ => ⟨v, he, by rw [e2]; exact ho, hb⟩

set_option maxHeartbeats 400000 in
theorem cancel_any {B : Nat} (A : Option Addr) (c : Nat) (l : List Tm) (o k : Int) (w : World) (hB : B ≤ w.heap.size) (h : TRd w B A l) (hl : l.length ≤ 100000) :
    Calls Try.prog 26 #[.slice A l.length c, .int .i64 o, .int .i64 k] w (Gives1 w (cancelT o k l)) := by
  have HH : Hid (TRd w B A l) := h
  clear h
  go_enter Try.func26, Try.ntmps26
  go_wp2_with fail
  refine (without_any (B := B) A c l 39 _ _ _ (by simp; omega) (HH.out.below (((Below.refl _ _).alloc hB _).alloc (by simp; omega) _)) hl (cancel1_any _ _ w.heap.size (w.heap.size + 1) o k (by simp; omega) (by simp) (by simp [go_sem]) (by simp [go_sem])) (by intro a W; simp [go_sem])).mono ?_
  rintro e w1 ⟨v, rfl, hown, hb⟩
  go_wp2_with fail
  go_ret
  exact ⟨v, rfl, own_base hown (by simp; omega), (((Below.refl _ _).alloc (Nat.le_refl _) _).alloc (by simp) _).trans (hb.mono (by simp; omega))⟩

set_option maxHeartbeats 400000 in
theorem cancelall_any {B : Nat} (A : Option Addr) (c : Nat) (l : List Tm) (o : Int) (w : World) (hB : B ≤ w.heap.size) (h : TRd w B A l) (hl : l.length ≤ 100000) :
    Calls Try.prog 27 #[.slice A l.length c, .int .i64 o] w (Gives1 w (cancelAllT o l)) := by
  have HH : Hid (TRd w B A l) := h
  clear h
  go_enter Try.func27, Try.ntmps27
  go_wp2_with fail
  refine (without_any (B := B) A c l 40 _ _ _ (by simp; omega) (HH.out.below ((Below.refl _ _).alloc hB _)) hl (cancelall1_any _ _ w.heap.size o (by simp) (by simp [go_sem])) (by intro a W; simp [go_sem])).mono ?_
  rintro e w1 ⟨v, rfl, hown, hb⟩
  go_wp2_with fail
  go_ret
  exact ⟨v, rfl, own_base hown (by simp), ((Below.refl _ _).alloc (Nat.le_refl _) _).trans (hb.mono (by simp))⟩

/-- What Due leaves: two lists, in rows apart. -/
def GivesTwo (w : World) (r s : List Tm) (e : Ending) (w' : World) : Prop :=
  ∃ v u N, e = .returned (.tuple #[v, u]) ∧ w'.ownsRow w.heap.size 28 3 v r.length (tscells r) ∧ (∀ g, v.ownBlock = some g → g < N) ∧ w.heap.size ≤ N ∧ w'.ownsRow N 28 3 u s.length (tscells s) ∧ Below w.heap.size w w'

set_option maxHeartbeats 400000 in
theorem due_any {B : Nat} (A : Option Addr) (c : Nat) (l : List Tm) (now : Int) (w : World) (hB : B ≤ w.heap.size) (h : TRd w B A l) (hl : l.length ≤ 100000) :
    Calls Try.prog 14 #[.slice A l.length c, .int .i64 now] w (GivesTwo w (dueT now l) (laterT now l)) := by
  have HH : Hid (TRd w B A l) := h
  clear h
  go_enter Try.func14, Try.ntmps14
  go_wp2_with fail
  refine (without_any (B := B) A c l 35 _ _ _ (by simp; omega) (HH.out.below ((Below.refl _ _).alloc hB _)) hl (due1_any _ _ w.heap.size now (by simp) (by simp [go_sem])) (by intro a W; simp [go_sem])).mono ?_
  rintro e w1 ⟨v, rfl, hown, hb⟩
  have hz := hb.size
  simp only [World.size_alloc] at hz
  have hbw1 : Below w.heap.size w w1 := ((Below.refl _ _).alloc (Nat.le_refl _) _).trans (hb.mono (by simp))
  have hc1 : w1.cell? ⟨w.heap.size, 0, none⟩ = some (.int .i64 now) := (hb.cell (by simp)).trans (by simp [go_sem])
  go_wp2_with fail
  refine (without_any (B := B) A c l 36 _ _ _ (by omega) (HH.out.below (hbw1.mono hB)) hl (due2_any _ _ w.heap.size now (by omega) hc1) (by intro a W; simp [go_sem])).mono ?_
  rintro e w2 ⟨u, rfl, hown2, hb2⟩
  go_wp2_with fail
  go_ret2
  exact ⟨v, u, w1.heap.size, rfl, own_base (own_below hown hb2) (by simp), fun g hg => (hown.lt g hg).2, by omega, hown2, hbw1.trans (hb2.mono (by omega))⟩

set_option maxHeartbeats 400000 in
theorem count_any {B : Nat} (A : Option Addr) (c : Nat) (l : List Tm) (o : Int) (w : World) (hB : B ≤ w.heap.size) (h : TRd w B A l) (hl : l.length ≤ 100000) :
    Calls Try.prog 30 #[.slice A l.length c, .int .i64 o] w fun e w' => e = .returned (.int .i64 (countT o l)) ∧ Below w.heap.size w w' := by
  have HH : Hid (TRd w B A l) := h
  have HM : Hid (l.length ≤ maxLen) := by show l.length ≤ maxLen; simp only [maxLen]; omega
  clear h
  have hw := without_len (fun t => t.2.1 == o) l
  have hw' : (cancelAllT o l).length ≤ l.length := hw
  clear hw
  by_cases h1 : validT l = true
  · have HC : Hid (countT o l = (l.length : Int) - ((cancelAllT o l).length : Int)) := if_pos h1
    go_enter Try.func30, Try.ntmps30
    go_wp2_with fail
    refine (valid_any (B := B) A c l _ hB HH.out HM.out).mono ?_
    rintro e w1 ⟨rfl, hb1⟩
    go_wp2_with fail
    refine (cancelall_any (B := B) A c l o _ (by have := hb1.size; omega) (HH.out.below (hb1.mono hB)) hl).mono ?_
    rintro e w2 ⟨v, rfl, hown, hb2⟩
    obtain ⟨A2, c2, rfl, -⟩ := own_slice hown
    go_wp2_with fail
    go_ret
    exact ⟨ret_int HC.out.symm, hb1.trans (hb2.mono hb1.size)⟩
  · have HC : Hid (countT o l = 0) := if_neg h1
    have h1 : validT l = false := by simpa using h1
    go_enter Try.func30, Try.ntmps30
    go_wp2_with fail
    refine (valid_any (B := B) A c l _ hB HH.out HM.out).mono ?_
    rintro e w1 ⟨rfl, hb1⟩
    go_wp2_with fail
    go_ret
    exact ⟨ret_int HC.out.symm, hb1⟩

set_option maxHeartbeats 400000 in
theorem next_any {B : Nat} (A : Option Addr) (c : Nat) (l : List Tm) (w : World) (hB : B ≤ w.heap.size) (h : TRd w B A l) (hl : l.length ≤ maxLen) :
    Calls Try.prog 19 #[.slice A l.length c] w fun e w' => e = .returned (.tuple #[.int .i64 (nextT l).1, .bool (nextT l).2]) ∧ Below w.heap.size w w' := by
  have HH : Hid (TRd w B A l) := h
  have HM : Hid (l.length ≤ maxLen) := hl
  clear h hl
  by_cases h1 : validT l = true
  · by_cases h0 : 0 < l.length
    · obtain ⟨b, off, t, rfl, hbb, ht, -, -, -⟩ := HH.out.at_ h0
      have HN : Hid (nextT l = (t.1, true)) := by
        cases l with
        | nil => simp at h0
        | cons x r =>
          simp at ht
          subst ht
          exact if_pos h1
      have HT : Hid (l[0]? = some t) := ht
      have hl0 : ((l.length : Int) == 0) = false := by rw [beq_eq_false_iff_ne]; omega
      clear ht
      go_enter Try.func19, Try.ntmps19
      go_wp2_with fail
      refine (valid_any (B := B) _ c l _ hB HH.out HM.out).mono ?_
      rintro e w1 ⟨rfl, hb1⟩
      obtain ⟨b', off', t', heq, -, ht', h11, -, -⟩ := (HH.out.below (hb1.mono hB)).at_ h0
      have ee : t' = t := by have := HT.out; rw [ht'] at this; exact Option.some.inj this
      subst ee
      simp only [Option.some.injEq, Addr.mk.injEq, and_true] at heq
      obtain ⟨rfl, rfl⟩ := heq
      simp only [Nat.zero_mul, Nat.add_zero] at h11
      clear ht'
      go_wp2_with fail
      go_ret2
      exact ⟨by rw [HN.out]; rfl, hb1⟩
    · have hl0 : ((l.length : Int) == 0) = true := by simp; simpa using h0
      have HN : Hid (nextT l = (0, false)) := by
        cases l with
        | nil => rfl
        | cons x r => simp at h0
      go_enter Try.func19, Try.ntmps19
      go_wp2_with fail
      refine (valid_any (B := B) A c l _ hB HH.out HM.out).mono ?_
      rintro e w1 ⟨rfl, hb1⟩
      go_wp2_with fail
      go_ret2
      exact ⟨by rw [HN.out]; rfl, hb1⟩
  · have HN : Hid (nextT l = (0, false)) := by
      cases l with
      | nil => rfl
      | cons x r => exact if_neg h1
    have h1 : validT l = false := by simpa using h1
    go_enter Try.func19, Try.ntmps19
    go_wp2_with fail
    refine (valid_any (B := B) A c l _ hB HH.out HM.out).mono ?_
    rintro e w1 ⟨rfl, hb1⟩
    go_wp2_with fail
    go_ret2
    exact ⟨by rw [HN.out]; rfl, hb1⟩

set_option maxHeartbeats 400000 in
theorem restart_bad {B : Nat} (A : Option Addr) (c : Nat) (l : List Tm) (t : Tm) (w : World) (hB : B ≤ w.heap.size) (h : TRd w B A l) (hl : l.length ≤ maxLen) (hv : validT l = false ∨ firesT t = false) :
    Calls Try.prog 24 #[.slice A l.length c, .agg #[.int .i64 t.1, .int .i64 t.2.1, .int .i64 t.2.2]] w fun e w' => e = .returned (.tuple #[.slice none 0 0, .int .u8 2]) ∧ Below w.heap.size w w' := by
  have HL : Hid (l.length ≤ maxLen) := hl
  have HH : Hid (TRd w B A l) := h
  clear hl h
  by_cases h1 : validT l = true
  · have h2 : firesT t = false := by simpa [h1] using hv
    clear hv
    go_enter Try.func24, Try.ntmps24
    go_wp2_with fail
    refine (valid_any (B := B) A c l _ (by simp; omega) (HH.out.below ((Below.refl _ _).alloc hB _)) HL.out).mono ?_
    rintro e w1 ⟨rfl, hb⟩
    obtain ⟨hc, hf⟩ := bcell hb
    go_wp2_with fail
    refine (fires_any t _).mono ?_
    rintro e w2 ⟨rfl, hb2⟩
    go_wp2_with fail
    go_ret2
    exact ⟨rfl, ((Below.refl _ _).alloc (Nat.le_refl _) _).trans ((hb.mono (by simp)).trans (hb2.mono (by have := hb.size; simp at this; omega)))⟩
  · have h1 : validT l = false := by simpa using h1
    clear hv
    go_enter Try.func24, Try.ntmps24
    go_wp2_with fail
    refine (valid_any (B := B) A c l _ (by simp; omega) (HH.out.below ((Below.refl _ _).alloc hB _)) HL.out).mono ?_
    rintro e w1 ⟨rfl, hb⟩
    obtain ⟨hc, hf⟩ := bcell hb
    go_wp2_with fail
    go_ret2
    exact ⟨rfl, ((Below.refl _ _).alloc (Nat.le_refl _) _).trans (hb.mono (by simp))⟩

set_option maxHeartbeats 400000 in
theorem restart_ok {B : Nat} (A : Option Addr) (c : Nat) (l : List Tm) (t : Tm) (w : World) (hB : B ≤ w.heap.size) (h : TRd w B A l) (hl : l.length ≤ maxLen) (h1 : validT l = true) (h2 : firesT t = true) :
    Calls Try.prog 24 #[.slice A l.length c, .agg #[.int .i64 t.1, .int .i64 t.2.1, .int .i64 t.2.2]] w (Gives2 w (addT (cancelT t.2.1 t.2.2 l) t)) := by
  have HL : Hid (l.length ≤ maxLen) := hl
  have HH : Hid (TRd w B A l) := h
  have hlen := valid_len h1
  have hcl : (cancelT t.2.1 t.2.2 l).length ≤ l.length := without_len _ l
  clear hl h
  go_enter Try.func24, Try.ntmps24
  go_wp2_with fail
  refine (valid_any (B := B) A c l _ (by simp; omega) (HH.out.below ((Below.refl _ _).alloc hB _)) HL.out).mono ?_
  rintro e w1 ⟨rfl, hb⟩
  obtain ⟨hc, hf⟩ := bcell hb
  have hz := hb.size
  simp only [World.size_alloc] at hz
  have hlt1 : w.heap.size < w1.heap.size := by omega
  go_wp2_with fail
  refine (fires_any t _).mono ?_
  rintro e w2 ⟨rfl, hb2⟩
  have hz2 := hb2.size
  have hlt2 : w.heap.size < w2.heap.size := by omega
  have hB2 : Below (w.heap.size + 1) (w.alloc (.cells #[.int .i64 t.1, .int .i64 t.2.1, .int .i64 t.2.2] 28)) w2 := (hb.mono (by simp)).trans (hb2.mono hz)
  have k0 : w2.cell? ⟨w.heap.size, 0, none⟩ = some (.int .i64 t.1) := (hB2.cell (by simp)).trans (by simp [go_sem])
  have k1 : w2.cell? ⟨w.heap.size, 1, none⟩ = some (.int .i64 t.2.1) := (hB2.cell (by simp)).trans (by simp [go_sem])
  have k2 : w2.cell? ⟨w.heap.size, 2, none⟩ = some (.int .i64 t.2.2) := (hB2.cell (by simp)).trans (by simp [go_sem])
  have HBW : Hid (Below w.heap.size w w2) := ((Below.refl _ _).alloc (Nat.le_refl _) _).trans (hB2.mono (by omega))
  clear hc hf hb hb2 hz hz2 hlt1 hB2
  go_wp2_with fail
  go_region_held3 (fun w' => w'.cell? ⟨w.heap.size, 0, none⟩ = some (.int .i64 t.1) ∧ w'.cell? ⟨w.heap.size, 1, none⟩ = some (.int .i64 t.2.1) ∧ w'.cell? ⟨w.heap.size, 2, none⟩ = some (.int .i64 t.2.2))
    (first | go_keep | exact hkeep3 | exact hkeep4)
    (first
      | (go_at_call 26
         refine (cancel_any (B := B) A c l t.2.1 t.2.2 _ (by simp; omega) (HH.out.below ((below_drewN HBW.out 1).mono hB)) (by omega)).mono ?_
         rintro e w3 ⟨v3, rfl, hown3, hb3⟩
         have hkeep3 : w3.cell? ⟨w.heap.size, 0, none⟩ = some (.int .i64 t.1) ∧ w3.cell? ⟨w.heap.size, 1, none⟩ = some (.int .i64 t.2.1) ∧ w3.cell? ⟨w.heap.size, 2, none⟩ = some (.int .i64 t.2.2) :=
           ⟨(hb3.cell (by simpa using hlt2)).trans k0, (hb3.cell (by simpa using hlt2)).trans k1, (hb3.cell (by simpa using hlt2)).trans k2⟩
         obtain ⟨A3, c3, rfl, hc3⟩ := own_slice hown3
         have hz3 := hb3.size)
      | (go_at_call 22
         refine (add_any (B := w3.heap.size) A3 c3 (cancelT t.2.1 t.2.2 l) t _ (Nat.le_refl _) (Rd.of_own hown3) (by simp only [maxLen]; omega) hc3).mono ?_
         rintro e w4 ⟨v4, rfl, hown4, hb4⟩
         have hlt3 : w.heap.size < w3.heap.size := by have : w2.heap.size ≤ w3.heap.size := by simpa using hz3
                                                      omega
         have hkeep4 : w4.cell? ⟨w.heap.size, 0, none⟩ = some (.int .i64 t.1) ∧ w4.cell? ⟨w.heap.size, 1, none⟩ = some (.int .i64 t.2.1) ∧ w4.cell? ⟨w.heap.size, 2, none⟩ = some (.int .i64 t.2.2) :=
           ⟨(hb4.cell hlt3).trans hkeep3.1, (hb4.cell hlt3).trans hkeep3.2.1, (hb4.cell hlt3).trans hkeep3.2.2⟩))
  go_wp2_with fail
  go_ret2
  have hz34 : w2.heap.size ≤ w3.heap.size := by simpa using hz3
  exact ⟨v4, rfl, own_base hown4 (by omega), (below_drewN HBW.out 1).trans ((hb3.mono (by simp; omega)).trans (hb4.mono (by omega)))⟩

theorem restart_any {B : Nat} (A : Option Addr) (c : Nat) (l : List Tm) (t : Tm) (w : World) (hB : B ≤ w.heap.size) (h : TRd w B A l) (hl : l.length ≤ maxLen) :
    Calls Try.prog 24 #[.slice A l.length c, .agg #[.int .i64 t.1, .int .i64 t.2.1, .int .i64 t.2.2]] w (Gives2 w (restartT l t)) := by
  by_cases hv : validT l = false ∨ firesT t = false
  · have e : restartT l t = ([], 2) := if_pos hv
    rw [e]
    exact (restart_bad A c l t w hB h hl hv).mono fun _ _ ⟨he, hb⟩ => ⟨_, he, World.ownsRow_nil _ _ _ _, hb⟩
  · have h1 : validT l = true := by simpa using (not_or.1 hv).1
    have h2 : firesT t = true := by simpa using (not_or.1 hv).2
    have e : restartT l t = addT (cancelT t.2.1 t.2.2 l) t := if_neg hv
    rw [e]
    exact restart_ok A c l t w hB h hl h1 h2

end Go.Proofs.Ytfocenfgeolpfaa
