/- The walks: turning a word; the four mixtures. -/
import Derived.Test.YtaafgakflmgpoaaDoorProg
import Derived.Test.YtaafgakflmgpoaaDoorMem
import Derived.Test.YtaafgakflmgpoaaDoorPlain
import Derived.Deep.QuietTactic
import Derived.BigQuiet
import Derived.RegionTactic
import Derived.BigRegion
import Derived.Handy
namespace Go.Proofs.YtaafgakflmgpoaaDoor
open Go.RowKit

theorem ret_u32 {a b : Int} (h : a = b) : Ending.returned (.int .u32 a) = .returned (.int .u32 b) := by rw [h]
/-- The turns that occur. -/
def Turn (n : Nat) : Prop := n = 7 ∨ n = 18 ∨ n = 17 ∨ n = 19 ∨ n = 6 ∨ n = 11 ∨ n = 25 ∨ n = 2 ∨ n = 13 ∨ n = 22
theorem rot_7 : bits BinOp.and IntKind.u64 (IntKind.u64.wrap (-7)) 31 = 25 := by kernel_rfl
theorem rot_18 : bits BinOp.and IntKind.u64 (IntKind.u64.wrap (-18)) 31 = 14 := by kernel_rfl
theorem rot_17 : bits BinOp.and IntKind.u64 (IntKind.u64.wrap (-17)) 31 = 15 := by kernel_rfl
theorem rot_19 : bits BinOp.and IntKind.u64 (IntKind.u64.wrap (-19)) 31 = 13 := by kernel_rfl
theorem rot_6 : bits BinOp.and IntKind.u64 (IntKind.u64.wrap (-6)) 31 = 26 := by kernel_rfl
theorem rot_11 : bits BinOp.and IntKind.u64 (IntKind.u64.wrap (-11)) 31 = 21 := by kernel_rfl
theorem rot_25 : bits BinOp.and IntKind.u64 (IntKind.u64.wrap (-25)) 31 = 7 := by kernel_rfl
theorem rot_2 : bits BinOp.and IntKind.u64 (IntKind.u64.wrap (-2)) 31 = 30 := by kernel_rfl
theorem rot_13 : bits BinOp.and IntKind.u64 (IntKind.u64.wrap (-13)) 31 = 19 := by kernel_rfl
theorem rot_22 : bits BinOp.and IntKind.u64 (IntKind.u64.wrap (-22)) 31 = 10 := by kernel_rfl

set_option maxHeartbeats 2000000 in
theorem rot_any (x : Int) (n : Nat) (hn : Turn n) (w : World) : Calls Tryd.prog 32 #[.int .u32 x, .int .i64 n] w fun e w' => e = .returned (.int .u32 (rotS x n)) ∧ w = w' := by
  have r7 := rot_7
  have r18 := rot_18
  have r17 := rot_17
  have r19 := rot_19
  have r6 := rot_6
  have r11 := rot_11
  have r25 := rot_25
  have r2 := rot_2
  have r13 := rot_13
  have r22 := rot_22
  unfold Turn at hn
  rcases hn with rfl | rfl | rfl | rfl | rfl | rfl | rfl | rfl | rfl | rfl
  all_goals
    go_enter Tryd.func32, Tryd.ntmps32
    go_wp2
    go_ret
    exact ⟨ret_u32 (by rw [rotS, bits_or_comm]; simp), rfl⟩

set_option maxHeartbeats 2000000 in
theorem rrot_any (x : Int) (n : Nat) (hn : Turn n) (w : World) : Calls Tryd.prog 39 #[.int .u32 x, .int .i64 n] w fun e w' => e = .returned (.int .u32 (rotS x n)) ∧ ∃ m, w' = w.drewN m := by
  unfold Turn at hn
  rcases hn with rfl | rfl | rfl | rfl | rfl | rfl | rfl | rfl | rfl | rfl
  all_goals
    go_enter Tryd.func39, Tryd.ntmps39
    go_wp2
    go_quiet (fail)
    go_wp2
    go_ret
    exact ⟨ret_u32 (by rw [rotS]; simp), _, rfl⟩

theorem rot_at (n : Nat) (k x : Int) (w : World) (hk : k = n) (hn : Turn n) : Calls Tryd.prog 32 #[.int .u32 x, .int .i64 k] w fun e w' => e = .returned (.int .u32 (rotS x n)) ∧ ∃ m, w' = w.drewN m := by
  subst hk
  exact (rot_any x n hn w).mono fun _ _ ⟨h1, h2⟩ => ⟨h1, 0, h2.symm⟩
theorem rot_still (n : Nat) (k x : Int) (w : World) (hk : k = n) (hn : Turn n) : Calls Tryd.prog 32 #[.int .u32 x, .int .i64 k] w fun e w' => e = .returned (.int .u32 (rotS x n)) ∧ w' = w := by
  subst hk
  exact (rot_any x n hn w).mono fun _ _ ⟨h1, h2⟩ => ⟨h1, h2.symm⟩
theorem rrot_at (n : Nat) (k x : Int) (w : World) (hk : k = n) (hn : Turn n) : Calls Tryd.prog 39 #[.int .u32 x, .int .i64 k] w fun e w' => e = .returned (.int .u32 (rotS x n)) ∧ ∃ m, w' = w.drewN m := by
  subst hk
  exact rrot_any x n hn w

def TurnI (k : Int) : Prop := k = 7 ∨ k = 18 ∨ k = 17 ∨ k = 19 ∨ k = 6 ∨ k = 11 ∨ k = 25 ∨ k = 2 ∨ k = 13 ∨ k = 22
theorem TurnI.nat {k : Int} (h : TurnI k) : Turn k.toNat ∧ k = (k.toNat : Int) := by
  unfold TurnI at h
  rcases h with rfl | rfl | rfl | rfl | rfl | rfl | rfl | rfl | rfl | rfl <;> exact ⟨by simp [Turn], rfl⟩
theorem rot_k (k x : Int) (w : World) (h : TurnI k) : Calls Tryd.prog 32 #[.int .u32 x, .int .i64 k] w fun e w' => e = .returned (.int .u32 (rotS x k.toNat)) ∧ ∃ m, w' = w.drewN m := rot_at _ _ _ _ h.nat.2 h.nat.1
theorem rrot_k (k x : Int) (w : World) (h : TurnI k) : Calls Tryd.prog 39 #[.int .u32 x, .int .i64 k] w fun e w' => e = .returned (.int .u32 (rotS x k.toNat)) ∧ ∃ m, w' = w.drewN m := rrot_at _ _ _ _ h.nat.2 h.nat.1

/-- A callee that only draws, behind draws of the caller's own. -/
theorem quiet_more {P : Program} {f : FuncId} {args : Array Value} {v : Value} (h : ∀ W : World, Calls P f args W fun e w' => e = .returned v ∧ ∃ m, w' = W.drewN m) (w : World) (a n : Nat) :
    Calls P f args (w.drewN (a + n)) fun e w' => e = .returned v ∧ ∃ m, w' = w.drewN (a + m) :=
  (h _).mono fun _ _ ⟨h1, m, h2⟩ => ⟨h1, n + m, by rw [h2, World.drewN_drewN, Nat.add_assoc]⟩
theorem quiet_once {P : Program} {f : FuncId} {args : Array Value} {v : Value} (h : ∀ W : World, Calls P f args W fun e w' => e = .returned v ∧ ∃ m, w' = W.drewN m) (w : World) (n : Nat) :
    Calls P f args (w.drewN n) fun e w' => e = .returned v ∧ ∃ m, w' = w.drewN m :=
  (h _).mono fun _ _ ⟨h1, m, h2⟩ => ⟨h1, n + m, by rw [h2, World.drewN_drewN]⟩

theorem small1_any (x : Int) (w : World) : Calls Tryd.prog 33 #[.int .u32 x] w fun e w' => e = .returned (.int .u32 (sm1 x)) ∧ ∃ m, w' = w.drewN m := by
  go_enter Tryd.func33, Tryd.ntmps33
  go_wp2_with fail
  refine (rrot_at 17 _ _ _ rfl (by simp [Turn])).mono ?_
  rintro e w1 ⟨rfl, m1, rfl⟩
  go_wp2_with fail
  refine (rrot_at 19 _ _ _ rfl (by simp [Turn])).mono ?_
  rintro e w1 ⟨rfl, m2, rfl⟩
  go_wp2_with fail
  go_ret
  exact ⟨rfl, m1 + m2, by simp⟩
theorem small0_any (x : Int) (w : World) : Calls Tryd.prog 34 #[.int .u32 x] w fun e w' => e = .returned (.int .u32 (sm0 x)) ∧ ∃ m, w' = w.drewN m := by
  go_enter Tryd.func34, Tryd.ntmps34
  go_wp2_with fail
  refine (rrot_at 7 _ _ _ rfl (by simp [Turn])).mono ?_
  rintro e w1 ⟨rfl, m1, rfl⟩
  go_wp2_with fail
  refine (rrot_at 18 _ _ _ rfl (by simp [Turn])).mono ?_
  rintro e w1 ⟨rfl, m2, rfl⟩
  go_wp2_with fail
  go_ret
  exact ⟨rfl, m1 + m2, by simp⟩
theorem large1_any (x : Int) (w : World) : Calls Tryd.prog 36 #[.int .u32 x] w fun e w' => e = .returned (.int .u32 (lg1 x)) ∧ ∃ m, w' = w.drewN m := by
  go_enter Tryd.func36, Tryd.ntmps36
  go_wp2_with fail
  refine (rrot_at 6 _ _ _ rfl (by simp [Turn])).mono ?_
  rintro e w1 ⟨rfl, m1, rfl⟩
  go_wp2_with fail
  refine (rrot_at 11 _ _ _ rfl (by simp [Turn])).mono ?_
  rintro e w1 ⟨rfl, m2, rfl⟩
  go_wp2_with fail
  refine (rrot_at 25 _ _ _ rfl (by simp [Turn])).mono ?_
  rintro e w1 ⟨rfl, m3, rfl⟩
  go_wp2_with fail
  go_ret
  exact ⟨rfl, m1 + m2 + m3, by simp⟩
theorem large0_any (x : Int) (w : World) : Calls Tryd.prog 37 #[.int .u32 x] w fun e w' => e = .returned (.int .u32 (lg0 x)) ∧ ∃ m, w' = w.drewN m := by
  go_enter Tryd.func37, Tryd.ntmps37
  go_wp2_with fail
  refine (rrot_at 2 _ _ _ rfl (by simp [Turn])).mono ?_
  rintro e w1 ⟨rfl, m1, rfl⟩
  go_wp2_with fail
  refine (rrot_at 13 _ _ _ rfl (by simp [Turn])).mono ?_
  rintro e w1 ⟨rfl, m2, rfl⟩
  go_wp2_with fail
  refine (rrot_at 22 _ _ _ rfl (by simp [Turn])).mono ?_
  rintro e w1 ⟨rfl, m3, rfl⟩
  go_wp2_with fail
  go_ret
  exact ⟨rfl, m1 + m2 + m3, by simp⟩

end Go.Proofs.YtaafgakflmgpoaaDoor
