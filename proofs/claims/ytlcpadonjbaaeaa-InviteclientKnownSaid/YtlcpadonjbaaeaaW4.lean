/- The walks: the makers of keys and effects. -/
import Derived.Test.YtlcpadonjbaaeaaW3b
namespace Go.Proofs.Ytlcpadonjbaaeaa
open Go.RowKit

theorem fired_any (t : Int) (w : World) : Calls Try.prog 33 #[.int .u8 t] w fun e w' => e = .returned (.agg #[.int .u8 5, .int .i64 0, .int .u8 t]) ∧ Below w.heap.size w w' := by
  go_enter Try.func33, Try.ntmps33
  go_wp2
  exact bodyPost_ret (v := .agg #[.int .u8 5, .int .i64 0, .int .u8 t]) (by simp [results, Try.results33, go_sem]) rfl ⟨rfl, (Below.refl _ _).alloc (Nat.le_refl _) _⟩
theorem resp_any (c : Int) (w : World) : Calls Try.prog 34 #[.int .i64 c] w fun e w' => e = .returned (.agg #[.int .u8 2, .int .i64 c, .int .u8 0]) ∧ Below w.heap.size w w' := by
  go_enter Try.func34, Try.ntmps34
  go_wp2
  exact bodyPost_ret (v := .agg #[.int .u8 2, .int .i64 c, .int .u8 0]) (by simp [results, Try.results34, go_sem]) rfl ⟨rfl, (Below.refl _ _).alloc (Nat.le_refl _) _⟩

theorem mkover_any (A : Option Addr) (n c : Nat) (w : World) : Calls Try.prog 35 #[.slice A n c] w fun e w' => e = .returned (.func (.func 36) #[] #[.pointer (some ⟨w.heap.size, 0, none⟩)]) ∧ w.alloc (.cells #[.slice A n c] 43) = w' := by
  go_enter Try.func35, Try.ntmps35
  go_wp2
  go_ret
  exact ⟨rfl, rfl⟩
theorem mkstay_any (k : Int) (w : World) : Calls Try.prog 39 #[.int .u8 k] w fun e w' => e = .returned (.func (.func 40) #[] #[.pointer (some ⟨w.heap.size, 0, none⟩)]) ∧ w.alloc (.cells #[.int .u8 k] 27) = w' := by
  go_enter Try.func39, Try.ntmps39
  go_wp2
  go_ret
  exact ⟨rfl, rfl⟩
theorem mkbecome_any (s : Int) (b : Bool) (v : Value) (w : World) (hv : v.oneCell' = true) : Calls Try.prog 37 #[.int .u8 s, .bool b, v] w fun e w' => e = .returned (.func (.func 38) #[] #[.pointer (some ⟨w.heap.size, 0, none⟩), .pointer (some ⟨w.heap.size + 1, 0, none⟩), .pointer (some ⟨w.heap.size + 1 + 1, 0, none⟩)]) ∧
    ((w.alloc (.cells #[.int .u8 s] 29)).alloc (.cells #[.bool b] 4)).alloc (.cells #[v] 78) = w' := by
  go_enter Try.func37, Try.ntmps37
  go_wp2

  go_ret
  exact ⟨rfl, rfl⟩

end Go.Proofs.Ytlcpadonjbaaeaa
