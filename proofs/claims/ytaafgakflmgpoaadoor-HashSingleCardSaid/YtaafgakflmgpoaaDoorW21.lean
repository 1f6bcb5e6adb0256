/- Loads of whole states in regions that draw; what is held over a law. -/
import Derived.Test.YtaafgakflmgpoaaDoorW20
namespace Go.Proofs.YtaafgakflmgpoaaDoor
open Go.RowKit

/-- A state is loaded whole (a rule at the level of the operation: the walk's simp would open it cell by cell). -/
def GoodAt (W : World) (v : Value) : Prop := ∃ g s, v = .pointer (some ⟨g, 0, none⟩) ∧ SAt W g s ∧ s.t.length = 64
def loadedAt (W : World) (v : Value) : Value :=
  match v with
  | .pointer (some a) => match W.heap[a.block]? with
    | some (.cells cs _ _) => .agg cs
    | _ => undef
  | _ => undef
theorem loaded_at {W : World} {g : Nat} {s : St} (h : SAt W g s) : loadedAt W (.pointer (some ⟨g, 0, none⟩)) = .agg (stc s).toArray := by
  unfold loadedAt
  simp only [show W.heap[g]? = _ from h]
theorem good_at {W : World} {g : Nat} {s : St} (hl : s.t.length = 64) (h : SAt W g s) : GoodAt W (.pointer (some ⟨g, 0, none⟩)) := ⟨g, s, rfl, h, hl⟩
theorem load_rule {W : World} {a : Act} {d : Option Tmp} {x : Operand} {ty : TypeId} {pos : String} {aft : Array Edge} {gd : Option (Nat × Bool)} (h : GoodAt W (a.eval x)) :
    (execOp a.eval ⟨d, .load 32 x, ty, pos, aft, gd⟩).run Tryd.prog W = .ok (.value (loadedAt W (a.eval x))) W := by
  obtain ⟨g, s, hv, hs, hl⟩ := h
  rw [hv, loaded_at hs]
  unfold execOp
  simp only [hv, Instr.loadAt, Instr.sureAddr, Sem.run_bind, Sem.run_pure, Result.andThen_ok, run_loadVar_row W g 32 32 _ (0, 0) _ hs Tryd.underlying32 rfl (size32 hl)]
def SHeld (w1 : World) (g : Nat) (s : St) (W : World) : Prop := SAt W g s ∧ Below w1.heap.size w1 W
theorem SHeld.keep {w1 W W' : World} {g : Nat} {s : St} (h : SHeld w1 g s W) (hb : Below W.heap.size W W') (hg : g < w1.heap.size) : SHeld w1 g s W' :=
  ⟨h.1.below hb (by have := h.2.size; omega), h.2.trans (hb.mono h.2.size)⟩
theorem SHeld.drew {w1 W : World} {g : Nat} {s : St} (h : SHeld w1 g s W) : SHeld w1 g s W.drew := ⟨h.1, h.2.drew⟩


/-- A state is stored whole. -/
def IsSt (v : Value) : Prop := ∃ s, s.t.length = 64 ∧ v = .agg (stc s).toArray
def storedAt (W : World) (p v : Value) : World :=
  match p, v with
  | .pointer (some a), .agg cs => W.setRow a.block cs
  | _, _ => W
theorem is_st {s : St} (h : s.t.length = 64) : IsSt (.agg (stc s).toArray) := ⟨s, h, rfl⟩
theorem store_rule {W : World} {a : Act} {d : Option Tmp} {x y : Operand} {ty : TypeId} {pos : String} {aft : Array Edge} {gd : Option (Nat × Bool)} (h : GoodAt W (a.eval x)) (hy : IsSt (a.eval y)) :
    (execOp a.eval ⟨d, .store 32 x y, ty, pos, aft, gd⟩).run Tryd.prog W = .ok .skip (storedAt W (a.eval x) (a.eval y)) := by
  obtain ⟨g, s, hv, hs, hl⟩ := h
  obtain ⟨s', hl', hv'⟩ := hy
  rw [hv, hv']
  unfold execOp
  simp only [hv, hv', Instr.storeAt, Instr.sureAddr, Sem.run_bind, Sem.run_pure, Result.andThen_ok, Go.Proofs.YtaafgakflmgpoaaDoor.run_storeVar_row W g 32 32 _ (stc s').toArray hs (by simp [stc_len hl, stc_len hl']) (size32 hl') (one_stc _)]
  rfl
theorem stored_at {W : World} {g : Nat} {s s' : St} (h : SAt W g s) : SAt (storedAt W (.pointer (some ⟨g, 0, none⟩)) (.agg (stc s').toArray)) g s' := h.row
theorem stored_below {B : Nat} {w W : World} {g : Nat} {s' : St} (h : Below B w W) (hg : B ≤ g) : Below B w (storedAt W (.pointer (some ⟨g, 0, none⟩)) (.agg (stc s').toArray)) := below_setRow h hg _

/-- An append of bytes to a row of the call's own. -/
theorem wpList_append_bytes {ops : Array Oper} {rest : List Oper} {o : Oper} {a : Act} {w wb : World} {Q : Exit → Act → World → Prop} (hgd : o.guard = none) (s x : Operand)
    (ho : o.op = .call { callee := .builtin .append, args := #[s, x], argTypes := #[22, 22] }) (base n : Nat) (v : Value) (l : List Int) (hs : a.eval s = v) (hown : w.ownsRow base 5 1 v n (u8s l)) (hb : base ≤ w.heap.size)
    (B : Nat) (A : Option Addr) (c : Nat) (news : List Int) (hx : a.eval x = .slice A news.length c) (hr : Rd w B A (u8s news)) (hn : n + news.length ≤ 1000000) (hbl : Below base wb w)
    (h : ∀ v' w', w'.ownsRow base 5 1 v' (n + news.length) (u8s (l ++ news)) → Below base wb w' → wpList Tryd.prog ops Q rest (a.put o.dst v') w') : wpList Tryd.prog ops Q (o :: rest) a w := by
  obtain ⟨i0, hi, hz0, hz1, hz2⟩ := info_parts info5
  refine wpList_append_rd w hgd s x 22 ho base 5 i0 (.int .u8 0) 1 1 Tryd.underlying22 hi hz0 hz1 hz2 rfl (by omega) v n (u8s l) hs hown B A news.length c (u8s news) hx hr (by rw [u8s_len, Nat.mul_one]) (fun u hu => by
    obtain ⟨y, _, rfl⟩ := List.mem_map.1 hu
    rfl) (by simp only [maxLen]; omega) (by omega) hb ?_
  intro v' w' hown' hg _
  exact h v' w' (by rw [u8s_append]; exact hown') (below_own hbl hown hg (Nat.le_refl _) hb)

theorem bytes_str {l : List Int} (h : ∀ b ∈ l, goodB b) : bytesOf (strOf l) = l := by
  unfold bytesOf strOf
  simp only [List.map_map]
  rw [show l = l.map id by simp]
  simp only [List.map_map]
  refine List.map_congr_left fun b hb => ?_
  have := h b hb
  unfold goodB at this
  simp only [Function.comp, id]
  have e : (UInt8.ofNat b.toNat).toNat = b.toNat := by simp; omega
  rw [e]
  omega

end Go.Proofs.YtaafgakflmgpoaaDoor
