/- The walk of of; what an effect does. -/
import Derived.Test.YtlcpadonjbaaeaaTab6
namespace Go.Proofs.Ytlcpadonjbaaeaa
open Go.RowKit

theorem mc3 {w : World} {g : Nat} {t : TypeId} {a b c : Value} (h : w.heap[g]? = some (.cells #[a, b, c] t (0, 0))) : w.cell? ⟨g, 0, none⟩ = some a ∧ w.cell? ⟨g, 1, none⟩ = some b ∧ w.cell? ⟨g, 2, none⟩ = some c := (cells3 h).1

def whatV (i : In) : Value := .agg #[.int .u8 i.1, .int .i64 (if i.1 = 2 then classS i.2.1 else 0), .int .u8 (if i.1 = 5 then i.2.2 else 0)]

set_option maxRecDepth 100000 in
set_option maxHeartbeats 2000000 in
theorem of_any (i : In) (w : World) : Calls Try.prog 28 #[ival i] w fun e w' => e = .returned (whatV i) ∧ Below w.heap.size w w' := by
  obtain ⟨k, c, t⟩ := i
  have hbel : ∀ a b d : Obj, Below w.heap.size w (((w.alloc a).alloc b).alloc d) := fun a b d => (((Below.refl _ _).alloc (Nat.le_refl _) _).alloc (by simp) _).alloc (by simp; omega) _
  by_cases k2 : k = 2
  · subst k2
    go_enter Try.func28, Try.ntmps28
    go_wp2_with (go_at_call 29; refine (class_any _ _).mono ?_; rintro e w1 ⟨rfl, rfl⟩)
    exact bodyPost_ret (v := whatV (2, c, t)) (by simp [results, Try.results28, go_sem, whatV]) rfl ⟨rfl, hbel _ _ _⟩
  · by_cases k5 : k = 5
    · subst k5
      go_enter Try.func28, Try.ntmps28
      go_wp2
      exact bodyPost_ret (v := whatV (5, c, t)) (by simp [results, Try.results28, go_sem, whatV]) rfl ⟨rfl, hbel _ _ _⟩
    · go_enter Try.func28, Try.ntmps28
      go_wp2
      exact bodyPost_ret (v := whatV (k, c, t)) (by simp [results, Try.results28, go_sem, whatV, k2, k5]) rfl ⟨rfl, hbel _ _ _⟩

theorem GivesB.more {B B' : Nat} {w : World} {r : Mc × List Out} {e : Ending} {w' : World} (h : GivesB B' w r e w') (hB : B ≤ B') : GivesB B w r e w' := by
  obtain ⟨v, h1, h2, h3⟩ := h
  exact ⟨v, h1, own_base h2 hB, h3.mono hB⟩

/-- What an effect does, whichever it is. -/
theorem eff_any {B : Nat} {w : World} {v : Value} {x : Eff} (m : Mc) (c : Int) (h : EffV B w v x) (hB : B ≤ w.heap.size) (hw : x = .again → 0 ≤ m.2.1 ∧ m.2.1 ≤ 100000) (hs : ∀ s fin f, x = .become s fin f → (s = 3 ∧ fin = false ∧ f = 1) ∨ (s = 4 ∧ fin = true ∧ f = 2) ∨ (s = 5 ∧ fin = true ∧ f = 3)) :
    (v = .func (.func 44) #[] #[] ∧ Calls Try.prog 44 #[mval m, .int .i64 c] w (GivesB B w (effS x m c))) ∨
    (∃ h, v = .func (.func 36) #[] #[.pointer (some ⟨h, 0, none⟩)] ∧ Calls Try.prog 36 #[mval m, .int .i64 c, .pointer (some ⟨h, 0, none⟩)] w (GivesB B w (effS x m c))) ∨
    (∃ h, v = .func (.func 40) #[] #[.pointer (some ⟨h, 0, none⟩)] ∧ Calls Try.prog 40 #[mval m, .int .i64 c, .pointer (some ⟨h, 0, none⟩)] w (GivesB B w (effS x m c))) ∨
    (∃ h1 h2 h3, v = .func (.func 38) #[] #[.pointer (some ⟨h1, 0, none⟩), .pointer (some ⟨h2, 0, none⟩), .pointer (some ⟨h3, 0, none⟩)] ∧ Calls Try.prog 38 #[mval m, .int .i64 c, .pointer (some ⟨h1, 0, none⟩), .pointer (some ⟨h2, 0, none⟩), .pointer (some ⟨h3, 0, none⟩)] w (GivesB B w (effS x m c))) := by
  cases x with
  | again =>
    obtain ⟨a, b⟩ := hw rfl
    exact .inl ⟨h, (again_any m c w a b).mono fun _ _ g => GivesB.more g hB⟩
  | over l =>
    obtain ⟨g, t, ⟨rfl, h2, h3⟩ | ⟨g', o, rfl, h2, h3, h4, h5, h6⟩⟩ := h
    · exact .inr (.inl ⟨g, h2, over_nil m c g t w h3 (World.ownsRow_nil _ _ _ _) hB⟩)
    · refine .inr (.inl ⟨g, h2, over_one m c g t g' o h4 w h3 ⟨rfl, .inr ⟨g', 1, _, rfl, h5, h6, Nat.le_refl _, by simp [maxLen], rfl, ?_⟩⟩ hB⟩)
      rfl
  | stay k =>
    obtain ⟨g, t, h2, h3⟩ := h
    exact .inr (.inr (.inl ⟨g, h2, (stay_any k m c g t w h3).mono fun _ _ g => GivesB.more g hB⟩))
  | become s fin f =>
    obtain ⟨a1, a2, a3, t1, t2, t3, fv, h0, h1, h2, h3, h4⟩ := h
    refine .inr (.inr (.inr ⟨a1, a2, a3, h0, ?_⟩))
    rcases hs s fin f rfl with ⟨rfl, rfl, rfl⟩ | ⟨rfl, rfl, rfl⟩ | ⟨rfl, rfl, rfl⟩
    · rcases h4 with ⟨_, rfl⟩ | ⟨h, _⟩ | ⟨h, _⟩
      · exact (become_user m c a1 a2 a3 t1 t2 t3 w h1 h2 h3).mono fun _ _ g => GivesB.more g hB
      · cases h
      · cases h
    · rcases h4 with ⟨h, _⟩ | ⟨_, u, t, rfl, hu⟩ | ⟨h, _⟩
      · cases h
      · exact (become_accept m c a1 a2 a3 t1 t2 t3 u t w h1 h2 h3 hu).mono fun _ _ g => GivesB.more g hB
      · cases h
    · rcases h4 with ⟨h, _⟩ | ⟨h, _⟩ | ⟨_, u, t, rfl, hu⟩
      · cases h
      · cases h
      · exact (become_reject m c a1 a2 a3 t1 t2 t3 u t w h1 h2 h3 hu).mono fun _ _ g => GivesB.more g hB
theorem table_become {k : Key} {s : Int} {fin : Bool} {f : Nat} (h : tableS k = some (.become s fin f)) : (s = 3 ∧ fin = false ∧ f = 1) ∨ (s = 4 ∧ fin = true ∧ f = 2) ∨ (s = 5 ∧ fin = true ∧ f = 3) := by
  unfold tableS at h
  repeat' split at h
  all_goals first | (cases h; done) | (cases h; simp)
theorem table_again {k : Key} (h : tableS k = some .again) : k.1 = 1 := by
  unfold tableS at h
  repeat' split at h
  all_goals first | (cases h; done) | (rename_i hk; rw [hk])

end Go.Proofs.Ytlcpadonjbaaeaa
