/- The table of kinds. -/
import Derived.Test.YtfjfjjcdlgdbcaaDoorE3
import Derived.Test.YtfjfjjcdlgdbcaaDoorA6
namespace Go.Proofs.YtfjfjjcdlgdbcaaDoor
open Go.RowKit

def kindsV : Array Value := (kt.flatMap fun p => [Value.string (str p.1), Value.string (str p.2)]).toArray

theorem wpList_build {P : Program} {ops : Array Oper} {rest : List Oper} {o : Oper} {a : Act} {w : World} {Q : Exit → Act → World → Prop} (hgd : o.guard = none) (ty : TypeId) (xs : Array (Nat × Operand)) (_ho : o.op = .build ty xs) (v : Value) (hrun : (execOp a.eval o).run P w = .ok (.value v) w)
    (h : wpList P ops Q rest (a.put o.dst v) w) : wpList P ops Q (o :: rest) a w :=
  wpList_plain hgd fun K hK => by
    unfold Oper.wp
    simp only [hrun]
    exact hK _ _ h
theorem Tryd.agg117 : AggT Tryd.prog 117 56 := by
  refine ⟨?_, by kernel_rfl⟩
  rw [Tryd.underlying117]; exact rfl
theorem results_agg1 {P : Program} {fn : Func} {p : Tmp} {ty : TypeId} (h : fn.results = #[.cell p ty]) (tmps : Array Value) (w : World) (g : Nat) (vs : Array Value)
    (hp : tmps.getD p undef = .pointer (some ⟨g, 0, none⟩)) (ht : AggT P ty vs.size) (hc : CellsAt w g 0 vs.toList) :
    (results fn tmps).run P w = .ok (.agg vs) w := by
  have hp' : tmps[p]?.getD undef = .pointer (some ⟨g, 0, none⟩) := by simpa using hp
  have hl := run_loadAgg (P := P) w ty g 0 vs.toList (by simpa using ht) hc
  simp [results, h, hp', asAddr, hl]
theorem kindsV_size : kindsV.size = 56 := by decide +kernel
theorem kindsV_one : AllOne kindsV.toList := by
  have : (kindsV.toList.all fun v => v.oneCell') = true := by decide +kernel
  intro v hv
  exact List.all_eq_true.1 this v hv

set_option maxRecDepth 100000 in
set_option maxHeartbeats 4000000 in
theorem kinds_calls (w : World) : Calls Tryd.prog 65 #[] w fun e w' => e = .returned (.agg kindsV) ∧ Below w.heap.size w w' := by
  have hA : Hid (AggT Tryd.prog 117 kindsV.size) := by rw [kindsV_size]; exact Tryd.agg117
  go_enter Tryd.func65, Tryd.ntmps65
  go_wp2_with (first | (refine wpList_build rfl 117 _ rfl (.agg kindsV) (by kernel_rfl) ?_) | (refine wpList_storeNew rfl rfl 117 _ _ rfl _ _ rfl kindsV rfl hA.out (by rw [kindsV_size]; rfl) kindsV_one ?_))
  refine bodyPost_ret (results_agg1 rfl _ _ w.heap.size kindsV rfl hA.out ?_) rfl ⟨rfl, (Below.refl _ _).alloc (Nat.le_refl _) _⟩
  exact cellsAt_alloc_at w kindsV 117 _ 0 _ rfl (fun j u hu => by simpa using hu)
end Go.Proofs.YtfjfjjcdlgdbcaaDoor
