/- Laws of memory: a part of a block read and written as a whole; clear. -/
import Derived.Test.YtaafgakflmgpoaaDoorW4
namespace Go.Proofs.YtaafgakflmgpoaaDoor
open Go.RowKit

theorem add_off (g o j : Nat) : (⟨g, o, none⟩ : Addr).add j = ⟨g, o + j, none⟩ := by unfold Addr.add; split <;> simp_all

/-- A part of a block, read as a whole. -/
theorem run_loadVar_part {P : Program} (w : World) (g off : Nat) (ty : TypeId) (cs : Array Value) (d : TypeDesc) (hc : ∀ j u, cs.toList[j]? = some u → w.cell? ⟨g, off + j, none⟩ = some u)
    (hu : P.underlying ty = some d) (hd : (match d with | .struct _ | .array _ _ => true | _ => false) = true) (hi : (P.info? ty).map (·.size) = some cs.size) :
    (loadVar ty ⟨g, off, none⟩).run P w = .ok (.agg cs) w := by
  have hl : (loadCells ⟨g, off, none⟩ cs.toList.length).run P w = .ok cs.toList.toArray w :=
    run_loadCells_list (P := P) w ⟨g, off, none⟩ cs.toList (fun j v hv => by rw [add_off]; exact hc j v hv)
  cases hq : P.info? ty with
  | none => simp [hq] at hi
  | some i =>
    have hs : i.size = cs.size := by simpa [hq] using hi
    have hagg : (isAgg ty).run P w = .ok true w := by
      unfold isAgg
      rw [Sem.run_bind, run_underlying hu w]
      cases d <;> simp_all
    simp only [Array.length_toList, Array.toArray_toList] at hl
    simp [loadVar, Sem.run_bind, hagg, sizeOf, typeInfo, hq, hs, hl]
theorem wpList_load_part {P : Program} {ops : Array Oper} {rest : List Oper} {o : Oper} {a : Act} {w : World} {Q : Exit → Act → World → Prop} (hgd : o.guard = none) (ty : TypeId) (x : Operand) (ho : o.op = .load ty x)
    (g off : Nat) (hx : a.eval x = .pointer (some ⟨g, off, none⟩)) (cs : Array Value) (d : TypeDesc) (hc : ∀ j u, cs.toList[j]? = some u → w.cell? ⟨g, off + j, none⟩ = some u)
    (hu : P.underlying ty = some d) (hd : (match d with | .struct _ | .array _ _ => true | _ => false) = true) (hi : (P.info? ty).map (·.size) = some cs.size)
    (h : wpList P ops Q rest (a.put o.dst (.agg cs)) w) : wpList P ops Q (o :: rest) a w := by
  refine wpList_plain hgd fun _ hK => ?_
  unfold Oper.wp execOp
  simp only [ho, hx, Instr.loadAt, Instr.sureAddr, Sem.run_bind, Sem.run_pure, Result.andThen_ok, run_loadVar_part w g off ty cs d hc hu hd hi]
  exact hK _ _ h

/-- What a block holds behind a write of a part. -/
def over (cur : List Value) (off : Nat) (cs : List Value) : List Value := cur.take off ++ cs ++ cur.drop (off + cs.length)
/-- A part of a block, written as a whole. -/
theorem run_storeVar_part {P : Program} (w : World) (g off : Nat) (t ty : TypeId) (cur : List Value) (cs : Array Value) (hg : w.heap[g]? = some (.cells cur.toArray t (0, 0))) (hc : off + cs.size ≤ cur.length)
    (hi : (P.info? ty).map (·.size) = some cs.size) (h1 : ∀ v ∈ cs.toList, v.oneCell' = true) :
    (storeVar ty ⟨g, off, none⟩ (.agg cs)).run P w = .ok () (w.setRow g (over cur off cs.toList).toArray) := by
  have hst := run_storeCells_at P g off t cs.toList 0 cur.toArray w hg (by rw [Array.length_toList]; simpa using hc) h1
  cases hq : P.info? ty with
  | none => simp [hq] at hi
  | some i =>
    have hs : i.size = cs.size := by simpa [hq] using hi
    simp only [Nat.add_zero, List.toList_toArray] at hst
    simp [storeVar, Sem.run_bind, sizeOf, typeInfo, hq, hs, Value.cells, hst, over]
theorem wpList_store_part {P : Program} {ops : Array Oper} {rest : List Oper} {o : Oper} {a : Act} {w : World} {Q : Exit → Act → World → Prop} (hgd : o.guard = none) (ty : TypeId) (x y : Operand) (ho : o.op = .store ty x y)
    (g off : Nat) (hx : a.eval x = .pointer (some ⟨g, off, none⟩)) (cs : Array Value) (hy : a.eval y = .agg cs) (t : TypeId) (cur : List Value) (hg : w.heap[g]? = some (.cells cur.toArray t (0, 0))) (hc : off + cs.size ≤ cur.length)
    (hi : (P.info? ty).map (·.size) = some cs.size) (h1 : ∀ v ∈ cs.toList, v.oneCell' = true)
    (h : wpList P ops Q rest (a.put o.dst undef) (w.setRow g (over cur off cs.toList).toArray)) : wpList P ops Q (o :: rest) a w := by
  refine wpList_plain hgd fun _ hK => ?_
  unfold Oper.wp execOp
  simp only [ho, hx, hy, Instr.storeAt, Instr.sureAddr, Sem.run_bind, Sem.run_pure, Result.andThen_ok, run_storeVar_part w g off t ty cur cs hg hc hi h1]
  exact hK _ _ h

theorem zeroCells_u8 (n : Nat) : (Builtin.zeroCells #[.int .u8 0] n).toList = u8s (zeros n) := by
  apply List.ext_getElem?
  intro i
  simp only [Builtin.zeroCells, u8s, zeros]
  by_cases hi : i < n
  · simp [hi, Nat.mod_one]
  · simp [hi]

/-- clear of a part of a block of bytes. -/
theorem run_clear_u8 {P : Program} (w : World) (g off n c : Nat) (t sT elem ty : TypeId) (cur : List Value) (hg : w.heap[g]? = some (.cells cur.toArray t (0, 0))) (hc : off + n ≤ cur.length)
    (hu : P.underlying sT = some (.slice elem)) (hz : ∀ w : World, (zeroValue elem).run P w = .ok (.int .u8 0) w) :
    (Builtin.clear_ #[sT] ty #[.slice (some ⟨g, off, none⟩) n c]).run P w = .ok (.tuple #[]) (w.setRow g (over cur off (u8s (zeros n))).toArray) := by
  have hst := run_storeCells_at P g off t (u8s (zeros n)) 0 cur.toArray w hg (by simpa [u8s_len, zeros_len] using hc) (by
    intro v hv; exact one_u8 (zeros n) v (by simpa using hv))
  simp only [Nat.add_zero, List.toList_toArray] at hst
  cases n with
  | zero =>
    have e : over cur off (u8s (zeros 0)) = cur := by simp [over, u8s, zeros]
    rw [e, setRow_self w g _ t (0, 0) hg]
    simp [Builtin.clear_, run_underlying hu]
  | succ n =>
    simp [Builtin.clear_, run_underlying hu, hz, Value.cells, zeroCells_u8, hst, over]
theorem wpList_clear_u8 {P : Program} {ops : Array Oper} {rest : List Oper} {o : Oper} {a : Act} {w : World} {Q : Exit → Act → World → Prop} (hgd : o.guard = none) (x : Operand) (sT elem : TypeId) (ho : o.op = .call { callee := .builtin .clear, args := #[x], argTypes := #[sT] })
    (g off n c : Nat) (hx : a.eval x = .slice (some ⟨g, off, none⟩) n c) (t : TypeId) (cur : List Value) (hg : w.heap[g]? = some (.cells cur.toArray t (0, 0))) (hc : off + n ≤ cur.length)
    (hu : P.underlying sT = some (.slice elem)) (hz : ∀ w : World, (zeroValue elem).run P w = .ok (.int .u8 0) w)
    (h : wpList P ops Q rest (a.put o.dst (.tuple #[])) (w.setRow g (over cur off (u8s (zeros n))).toArray)) : wpList P ops Q (o :: rest) a w := by
  refine wpList_plain hgd fun _ hK => ?_
  have hrun := run_clear_u8 (ty := o.type) w g off n c t sT elem cur hg hc hu hz
  unfold Oper.wp
  simp [execOp, ho, resolve, invoke, builtin, hx, hrun, Result.andThen]
  exact hK _ _ h
theorem zero5 (w : World) : (zeroValue 5).run Tryd.prog w = .ok (.int .u8 0) w := by kernel_rfl

/-- copy of bytes into a part of a block. -/
theorem wpList_copy_u8 {P : Program} {ops : Array Oper} {rest : List Oper} {o : Oper} {a : Act} {w : World} {Q : Exit → Act → World → Prop} (hgd : o.guard = none) (d s : Operand) (dT sT : TypeId)
    (ho : o.op = .call { callee := .builtin .copy, args := #[d, s], argTypes := #[dT, sT] }) (elem : TypeId) (hu : P.underlying dT = some (.slice elem)) (hsz : (P.info? elem).map (·.size) = some 1)
    (g off dLen dCap : Nat) (ad : Addr) (sLen sCap : Nat) (hd : a.eval d = .slice (some ⟨g, off, none⟩) dLen dCap) (hs : a.eval s = .slice (some ad) sLen sCap)
    (t : TypeId) (cur : List Value) (hg : w.heap[g]? = some (.cells cur.toArray t (0, 0))) (cs : List Int) (m : Nat) (hm : cs.length = m) (hn : m = Nat.min sLen dLen)
    (hsrc : ∀ j v, (u8s cs)[j]? = some v → w.cell? (ad.add j) = some v) (hfit : off + m ≤ cur.length)
    (h : wpList P ops Q rest (a.put o.dst (.int .i64 m)) (w.setRow g (over cur off (u8s cs)).toArray)) : wpList P ops Q (o :: rest) a w := by
  refine wpList_copy_own hgd d s dT sT ho elem hu hsz g off dLen dCap ad sLen sCap hd hs cur.toArray t hg (u8s cs) (by rw [u8s_len, hm, hn]) hsrc (by rw [u8s_len, hm]; simpa using hfit) (fun v hv => one_u8 cs v (by simpa using hv)) ?_
  have e1 : goInt (u8s cs).length = .int .i64 m := by rw [u8s_len, hm]; rfl
  have e2 : (cur.toArray.toList.take off ++ (u8s cs ++ cur.toArray.toList.drop (off + (u8s cs).length))) = over cur off (u8s cs) := by simp [over]
  rw [e1, e2]
  exact h

end Go.Proofs.YtaafgakflmgpoaaDoor
