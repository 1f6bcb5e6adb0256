/- A drawn region walked with one invariant, whatever the order. -/
import Derived.Test.YtlcpadonjbaaeaaEff
import Derived.Orders
import Derived.Laws.EntriesVeiled
namespace Go.Proofs.Ytlcpadonjbaaeaa
open Go.RowKit

section
variable {P : Program} {ops : Array Oper} {Q : Exit → Act → World → Prop} {md : Region.Mode}

theorem getD_true_or (listed : Array Bool) (i : Nat) (hi : i < listed.size) (d d' : Bool) : listed.getD i d = listed.getD i d' := by
  simp [Array.getD, hi]
theorem any_inv (Inv : Array Bool → Act → World → Prop)
    (hstep : ∀ listed a w i, listed.size = ops.size → Inv listed a w → i ∈ Region.ready md ops listed → wpOp P ops Q i (Inv (listed.setIfInBounds i true)) a w)
    (hend : ∀ listed a w, listed.size = ops.size → Inv listed a w → Region.ready md ops listed = [] → Q .normal a w) :
    ∀ (fuel : Nat) (listed : Array Bool) (a : Act) (w : World), listed.size = ops.size → listed.toList.count false ≤ fuel → Inv listed a w → wpAny P md ops Q fuel listed a w
  | 0, listed, a, w, hs, hc, hI => by
    have hr : Region.ready md ops listed = [] := by
      rw [List.eq_nil_iff_forall_not_mem]
      intro j hj
      obtain ⟨h0, o, ho, _⟩ := mem_ready.1 hj
      have hj : j < listed.size := by rw [hs]; exact (Array.getElem?_eq_some_iff.1 ho).1
      have hm : false ∈ listed.toList := by
        rw [List.mem_iff_getElem]
        refine ⟨j, by simpa using hj, ?_⟩
        simpa [Array.getD, hj] using h0
      have := List.count_pos_iff.2 hm
      omega
    exact ⟨hr, hend listed a w hs hI hr⟩
  | fuel + 1, listed, a, w, hs, hc, hI => by
    refine ⟨fun hr => hend listed a w hs hI hr, fun i hi => ?_⟩
    obtain ⟨h0, o, ho, _⟩ := mem_ready.1 hi
    have hj : i < listed.size := by rw [hs]; exact (Array.getElem?_eq_some_iff.1 ho).1
    have hli : listed.toList[i]'(by simpa using hj) = false := by simpa [Array.getD, hj] using h0
    refine wpOp_mono (fun a' w' h' => any_inv Inv hstep hend fuel _ a' w' (by simpa using hs) ?_ h') (hstep listed a w i hs hI hi)
    rw [Array.toList_setIfInBounds, List.count_set (by simpa using hj), hli]
    have hp : 0 < listed.toList.count false := List.count_pos_iff.2 (by rw [← hli]; exact List.getElem_mem _)
    rw [if_pos (by rfl), if_neg (by decide)]
    omega

/-- What waits for whom goes backwards, so where nothing may come up all have come up. -/
theorem all_listed {listed : Array Bool} (hs : listed.size = ops.size) (hb : ((List.range ops.size).all fun i => ((ops[i]?).map fun o => o.after.all fun e => !Region.binds md e || decide (e.on < i)).getD true) = true) (hr : Region.ready md ops listed = []) :
    ∀ j, j < ops.size → listed.getD j false = true := by
  intro j
  induction j using Nat.strongRecOn with
  | _ j ih =>
    intro hj
    have hjs : j < listed.size := by omega
    cases hl : listed.getD j false with
    | true => rfl
    | false =>
      exfalso
      have hm : j ∈ Region.ready md ops listed := by
        refine mem_ready.2 ⟨(getD_true_or listed j hjs true false).trans hl, ops[j], Array.getElem?_eq_getElem hj, fun e he hbe => ?_⟩
        have h1 := List.all_eq_true.1 hb j (List.mem_range.2 hj)
        rw [Array.getElem?_eq_getElem hj] at h1
        simp only [Option.map_some, Option.getD_some] at h1
        have h2 := (Array.all_eq_true_iff_forall_mem.1 h1) e he
        rw [hbe] at h2
        simp at h2
        exact ih e.on h2 (by omega)
      rw [hr] at hm
      cases hm

/-- Number j has come up before i. -/
theorem ready_dep {listed : Array Bool} {i : Nat} (j : Nat) (h : i ∈ Region.ready md ops listed) (hd : ((ops[i]?).map fun o => o.after.any fun e => Region.binds md e && (e.on == j)).getD false = true) : listed.getD j false = true := by
  obtain ⟨_, o, ho, hall⟩ := mem_ready.1 h
  rw [ho] at hd
  simp only [Option.map_some, Option.getD_some, Array.any_eq_true] at hd
  obtain ⟨k, hk, he⟩ := hd
  simp only [Bool.and_eq_true, beq_iff_eq] at he
  rw [← he.2]
  exact hall _ (Array.getElem_mem hk) he.1

def infoOf (ops : Array Oper) (i : Nat) : Option (Option Tmp × Op × Option (Nat × Bool)) := (ops[i]?).map fun o => (o.dst, o.op, o.guard)
theorem wpOp_value {i : Nat} {d : Option Tmp} {op : Op} {v : Value} {K : Act → World → Prop} {a : Act} {w w' : World} (hi : infoOf ops i = some (d, op, none))
    (hrun : ∀ o : Oper, o.op = op → (execOp a.eval o).run P w = .ok (.value v) w') (h : K (a.put d v) w') : wpOp P ops Q i K a w := by
  unfold infoOf at hi
  unfold wpOp
  cases ho : ops[i]? with
  | none => rw [ho] at hi; cases hi
  | some o =>
    rw [ho] at hi
    simp only [Option.map_some, Option.some.injEq, Prod.mk.injEq] at hi
    have hw : Region.wanted o (yielded ops a.tmps) = true := by simp [Region.wanted, hi.2.2]
    simp only [hw, if_true]
    left
    unfold Oper.wp
    rw [hrun o hi.2.1]
    simp only [Oper.upon, hi.1]
    exact h
theorem wpOp_skip {i : Nat} {d : Option Tmp} {op : Op} {K : Act → World → Prop} {a : Act} {w w' : World} (hi : infoOf ops i = some (d, op, none))
    (hrun : ∀ o : Oper, o.op = op → (execOp a.eval o).run P w = .ok .skip w') (h : K (a.put d undef) w') : wpOp P ops Q i K a w := by
  unfold infoOf at hi
  unfold wpOp
  cases ho : ops[i]? with
  | none => rw [ho] at hi; cases hi
  | some o =>
    rw [ho] at hi
    simp only [Option.map_some, Option.some.injEq, Prod.mk.injEq] at hi
    have hw : Region.wanted o (yielded ops a.tmps) = true := by simp [Region.wanted, hi.2.2]
    simp only [hw, if_true]
    left
    unfold Oper.wp
    rw [hrun o hi.2.1]
    simp only [Oper.upon, hi.1]
    exact h
theorem wpOp_call {i : Nat} {d : Option Tmp} {op : Op} {f : FuncId} {args : Array Value} {K : Act → World → Prop} {a : Act} {w : World} (hi : infoOf ops i = some (d, op, none))
    (hrun : ∀ o : Oper, o.op = op → (execOp a.eval o).run P w = .ok (.enter f args) w) (h : Calls P f args w fun e w' => ∃ v, e = .returned v ∧ K (a.put d v) w') : wpOp P ops Q i K a w := by
  unfold infoOf at hi
  unfold wpOp
  cases ho : ops[i]? with
  | none => rw [ho] at hi; cases hi
  | some o =>
    rw [ho] at hi
    simp only [Option.map_some, Option.some.injEq, Prod.mk.injEq] at hi
    have hw : Region.wanted o (yielded ops a.tmps) = true := by simp [Region.wanted, hi.2.2]
    simp only [hw, if_true]
    left
    unfold Oper.wp
    rw [hrun o hi.2.1]
    simp only [Oper.upon, hi.1]
    refine h.mono fun e w' he => ?_
    obtain ⟨v, rfl, hk⟩ := he
    exact hk
end

/-- What a slot holds. -/
inductive VSpec where
  | const (v : Value)
  | slice1 (o : Out)
  | eff (e : Eff)
  | map
  | none
def holdsV (B : Nat) (w : World) (m : Nat) : VSpec → Value → Prop
  | .const c, v => v = c
  | .slice1 o, v => ∃ g, v = .slice (some ⟨g, 0, none⟩) 1 1 ∧ B ≤ g ∧ w.heap[g]? = some (Obj.cells (ocells o).toArray 48 (0, 0))
  | .eff e, v => EffV B w v e
  | .map, v => v = .map (some m)
  | .none, _ => True
theorem holdsV.keep {B : Nat} {w w' : World} {m : Nat} {sp : VSpec} {v : Value} (h : holdsV B w m sp v) (hk : KeepC w w') : holdsV B w' m sp v := by
  cases sp with
  | const c => exact h
  | slice1 o =>
    obtain ⟨g, h1, h2, h3⟩ := h
    exact ⟨g, h1, h2, hk.2 _ _ _ h3⟩
  | eff e => exact EffV.keep h hk
  | map => exact h
  | none => trivial

/-- The region of the table, off the program's code. -/
noncomputable def reg10 : Code → Array Oper
  | .seq (.region 10 ops _) _ => ops
  | .seq _ c => reg10 c
  | _ => #[]
noncomputable def ops27 : Array Oper := reg10 (Try.f27.body.getD .skip)
theorem ops27_size : ops27.size = 53 := by kernel_rfl
theorem ops27_back : ((List.range ops27.size).all fun i => ((ops27[i]?).map fun o => o.after.all fun e => !Region.binds .any e || decide (e.on < i)).getD true) = true := by kernel_rfl

end Go.Proofs.Ytlcpadonjbaaeaa
