/- Laws of the walk: a whole row is loaded, stored. -/
import Derived.Test.YtfjfjjcdlgdbcaaDoorA4
namespace Go.Proofs.YtfjfjjcdlgdbcaaDoor
open Go.RowKit

section
variable {P : Program}
/-- is it a type of several cells, so many? -/
def AggT (P : Program) (ty : TypeId) (n : Nat) : Prop :=
  (P.underlying ty).elim False (fun d => (match d with | .struct _ | .array _ _ => true | _ => false) = true) ∧ (P.info? ty).map (·.size) = some n
theorem run_isAgg {ty : TypeId} {n : Nat} (h : AggT P ty n) (w : World) : (isAgg ty).run P w = .ok true w := by
  obtain ⟨h1, _⟩ := h
  cases hq : P.underlying ty with
  | none => rw [hq] at h1; exact h1.elim
  | some d =>
    rw [hq] at h1
    simp only [Option.elim] at h1
    unfold isAgg
    rw [Sem.run_bind, run_underlying hq w]
    cases d <;> simp_all
theorem run_sizeOf {ty : TypeId} {n : Nat} (h : AggT P ty n) (w : World) : (sizeOf ty).run P w = .ok n w := by
  obtain ⟨_, h2⟩ := h
  cases hq : P.info? ty with
  | none => simp [hq] at h2
  | some i =>
    have hs : i.size = n := by simpa [hq] using h2
    simp [sizeOf, typeInfo, hq, hs]
theorem run_loadAgg (w : World) (ty : TypeId) (g o : Nat) (vs : List Value) (ht : AggT P ty vs.length) (h : CellsAt w g o vs) :
    (loadVar ty ⟨g, o, none⟩).run P w = .ok (.agg vs.toArray) w := by
  simp only [loadVar, Sem.run_bind, run_isAgg ht, run_sizeOf ht, Result.andThen_ok, if_true, run_loadRow (P := P) w g o vs h, Sem.run_pure]
theorem wpList_loadAgg {ops : Array Oper} {rest : List Oper} {o : Oper} {a : Act} {w : World} {Q : Exit → Act → World → Prop} (hgd : o.guard = none) (ty : TypeId) (x : Operand) (ho : o.op = .load ty x)
    (g p : Nat) (hx : a.eval x = .pointer (some ⟨g, p, none⟩)) (vs : List Value) (ht : AggT P ty vs.length) (hc : CellsAt w g p vs)
    (h : wpList P ops Q rest (a.put o.dst (.agg vs.toArray)) w) : wpList P ops Q (o :: rest) a w :=
  wpList_plain hgd fun K hK => by
    unfold Oper.wp execOp
    simp only [ho, hx, Instr.loadAt, Instr.sureAddr, Sem.run_bind, Sem.run_pure, Result.andThen_ok, run_loadAgg w ty g p vs ht hc]
    exact hK _ _ h
/-- the same where the operation is guarded, and the guard says yes -/
theorem wpList_loadAggG {ops : Array Oper} {rest : List Oper} {o : Oper} {a : Act} {w : World} {Q : Exit → Act → World → Prop} (hw : Region.wanted o (yielded ops a.tmps) = true) (ty : TypeId) (x : Operand) (ho : o.op = .load ty x)
    (g p : Nat) (hx : a.eval x = .pointer (some ⟨g, p, none⟩)) (vs : List Value) (ht : AggT P ty vs.length) (hc : CellsAt w g p vs)
    (h : wpList P ops Q rest (a.put o.dst (.agg vs.toArray)) w) : wpList P ops Q (o :: rest) a w :=
  wpList_step fun K hK => by
    rw [if_pos hw]
    unfold Oper.wp execOp
    simp only [ho, hx, Instr.loadAt, Instr.sureAddr, Sem.run_bind, Sem.run_pure, Result.andThen_ok, run_loadAgg w ty g p vs ht hc]
    exact hK _ _ h
theorem run_storeAgg (w : World) (ty : TypeId) (g o : Nat) (vs : Array Value) (ht : AggT P ty vs.size) (hr : RoomAt w g o vs.size) (h1 : AllOne vs.toList) :
    (storeVar ty ⟨g, o, none⟩ (.agg vs)).run P w = .ok () (w.setCells g o vs.toList) := by
  have := run_storeRow (P := P) w g o vs.toList (by simpa using hr) h1
  simp [storeVar, Sem.run_bind, Value.cells, run_sizeOf ht, this]
theorem wpList_storeAgg {ops : Array Oper} {rest : List Oper} {o : Oper} {a : Act} {w : World} {Q : Exit → Act → World → Prop} (hgd : o.guard = none) (hdst : o.dst = none) (ty : TypeId) (x y : Operand) (ho : o.op = .store ty x y)
    (g p : Nat) (hx : a.eval x = .pointer (some ⟨g, p, none⟩)) (vs : Array Value) (hy : a.eval y = .agg vs) (ht : AggT P ty vs.size) (hr : RoomAt w g p vs.size) (h1 : AllOne vs.toList)
    (h : wpList P ops Q rest a (w.setCells g p vs.toList)) : wpList P ops Q (o :: rest) a w :=
  wpList_plain hgd fun K hK => by
    unfold Oper.wp execOp
    simp only [ho, hx, hy, Instr.storeAt, Instr.sureAddr, Sem.run_bind, Sem.run_pure, Result.andThen_ok, run_storeAgg w ty g p vs ht hr h1]
    show K (a.put o.dst undef) _
    rw [hdst]
    exact hK _ _ h
/-- into a variable that has just been made -/
theorem wpList_storeNew {ops : Array Oper} {rest : List Oper} {o : Oper} {a : Act} {w : World} {Q : Exit → Act → World → Prop} (hgd : o.guard = none) (hdst : o.dst = none) (ty : TypeId) (x y : Operand) (ho : o.op = .store ty x y)
    (c : Array Value) (t : TypeId) (hx : a.eval x = .pointer (some ⟨w.heap.size, 0, none⟩)) (vs : Array Value) (hy : a.eval y = .agg vs) (ht : AggT P ty vs.size) (hs : c.size = vs.size) (h1 : AllOne vs.toList)
    (h : wpList P ops Q rest a (w.alloc (.cells vs t))) : wpList P ops Q (o :: rest) a (w.alloc (.cells c t)) := by
  refine wpList_storeAgg hgd hdst ty x y ho _ 0 hx vs hy ht (roomAt_alloc_at w c t _ 0 _ rfl (by omega)) h1 ?_
  rw [setCells_alloc_at _ _ _ _ _ _ rfl (by simp; omega), ovw_all _ _ (by simpa using hs)]
  simpa using h
end
theorem Tryd.agg25 : AggT Tryd.prog 25 32 := by
  refine ⟨?_, by kernel_rfl⟩
  rw [Tryd.underlying25]; exact rfl
theorem Tryd.agg28 : AggT Tryd.prog 28 67 := by
  refine ⟨?_, by kernel_rfl⟩
  rw [Tryd.underlying28]; exact rfl
end Go.Proofs.YtfjfjjcdlgdbcaaDoor
