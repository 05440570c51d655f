/- Rows of bytes of the call's own: append. -/
import Derived.Test.YtfjfjjcdlgdbcaaDoorA2
namespace Go.Proofs.YtfjfjjcdlgdbcaaDoor
open Go.RowKit

theorem Tryd.info5 : (Tryd.prog.info? 5).map (fun i => (i.zero, i.size, i.bytes)) = some (some (.int .u8 0), 1, 1) := by kernel_rfl

/-- the value v is a row of its own, from block B on, that holds the bytes xs -/
def OwnB (w : World) (B : Nat) (v : Value) (xs : List UInt8) : Prop := w.ownsRow B 5 1 v xs.length (bvs xs)
theorem OwnB.of {w : World} {B : Nat} {v : Value} {xs : List UInt8} {n : Nat} (h : w.ownsRow B 5 1 v n (bvs xs)) : OwnB w B v xs := by
  have : xs.length = n := by have := h.1; simpa [bvs_length] using this
  subst this
  exact h
theorem OwnB.nil (w : World) (B : Nat) : OwnB w B (.slice none 0 0) [] := World.ownsRow_nil w B 5 1
theorem OwnB.alloc {w : World} {B : Nat} {v : Value} {xs : List UInt8} (h : OwnB w B v xs) (o : Obj) : OwnB (w.alloc o) B v xs := World.ownsRow.alloc h o
theorem OwnB.drew {w : World} {B : Nat} {v : Value} {xs : List UInt8} (h : OwnB w B v xs) : OwnB w.drew B v xs := h
theorem OwnB.drewN {w : World} {B : Nat} {v : Value} {xs : List UInt8} (h : OwnB w B v xs) (k : Nat) : OwnB (w.drewN k) B v xs := h
theorem OwnB.below {w w1 : World} {B : Nat} {v : Value} {xs : List UInt8} (h : OwnB w B v xs) (hb : Below w.heap.size w w1) : OwnB w1 B v xs :=
  World.ownsRow.kept h (row := none) ⟨hb.os, hb.tape, hb.output, hb.size, fun i hi _ => hb.block i hi⟩ (by cases v.ownBlock <;> simp)
theorem OwnB.more {w : World} {B B' : Nat} {v : Value} {xs : List UInt8} (h : OwnB w B v xs) (hB : B' ≤ B) : OwnB w B' v xs := by
  refine ⟨h.1, ?_⟩
  rcases h.2 with h | ⟨g, cap, cur, hv, hg, r⟩
  · exact .inl h
  · exact .inr ⟨g, cap, cur, hv, by omega, r⟩
/-- what is owned reads -/
theorem OwnB.reads {w : World} {B : Nat} {v : Value} {xs : List UInt8} (h : OwnB w B v xs) : ∃ A c, v = .slice A xs.length c ∧ RdB w A xs.length c xs := by
  rcases h.2 with ⟨rfl, h0⟩ | ⟨g, cap, cur, rfl, hb, hh, hn, hm, _⟩
  · rw [h0]
    exact ⟨none, 0, rfl, h0, Nat.le_refl _, by unfold maxLen; omega, fun hp => absurd hp (by omega)⟩
  · refine ⟨_, cap, rfl, rfl, hn, hm, fun hp => ⟨_, rfl, fun j u hu => ?_⟩⟩
    exact World.ownsRow.cells h (g := g) rfl j (bv u) (by simp [bvs, hu])
theorem OwnB.block {w : World} {B : Nat} {v : Value} {xs : List UInt8} (h : OwnB w B v xs) : ∀ k, v.ownBlock = some k → B ≤ k ∧ k < w.heap.size := World.ownsRow.lt h

/-- 'append(s, x...)', s a row of the call's own, x bytes that lie somewhere (nil too) -/
theorem run_appendB (w : World) (ty : TypeId) (B : Nat) (v : Value) (xs ys : List UInt8) (A : Option Addr) (n c : Nat) (hown : OwnB w B v xs) (hr : RdB w A n c ys)
    (hl : xs.length + n ≤ 140737488355328) (hB : B ≤ w.heap.size) :
    ∃ v' w', (Builtin.append_ #[22, 22] ty #[v, .slice A n c]).run Tryd.prog w = .ok v' w' ∧ OwnB w' B v' (xs ++ ys) ∧ w.grownBy w' v.ownBlock ∧ Below B w w' := by
  obtain ⟨i0, hi, hz0, hz1, hz2⟩ := info_parts Tryd.info5
  have hbel : ∀ w', w.grownBy w' v.ownBlock → Below B w w' := fun w' hg => (Below.refl B w).grown hg hB (fun k hk => (hown.block k hk).1)
  by_cases h0 : n = 0
  · subst h0
    have e : ys = [] := List.eq_nil_of_length_eq_zero hr.1
    subst e
    refine ⟨v, w, ?_, by simpa using hown, World.grownBy.refl w _, Below.refl _ _⟩
    cases A with
    | none =>
      have h := hown
      rcases h.2 with ⟨rfl, _⟩ | ⟨g, cap, cur, rfl, _, _, hnc, _⟩
      · simp [Builtin.append_, run_underlying Tryd.underlying22, sizeOf, typeInfo, hi, Builtin.lenOf, Builtin.firstCells]
      · simp [Builtin.append_, run_underlying Tryd.underlying22, sizeOf, typeInfo, hi, Builtin.lenOf, Builtin.firstCells, hnc, storeCells]
    | some ad =>
      have h := hown
      rcases h.2 with ⟨rfl, _⟩ | ⟨g, cap, cur, rfl, _, _, hnc, _⟩
      · simp [Builtin.append_, run_underlying Tryd.underlying22, sizeOf, typeInfo, hi, Builtin.lenOf, Builtin.firstCells, loadCells, loadCellsFrom]
      · simp [Builtin.append_, run_underlying Tryd.underlying22, sizeOf, typeInfo, hi, Builtin.lenOf, Builtin.firstCells, hnc, storeCells, loadCells, loadCellsFrom]
  · obtain ⟨ad, rfl, hc⟩ := hr.2.2.2 (by omega)
    obtain ⟨v', w', h1, h2, h3, _⟩ := run_append_own (P := Tryd.prog) w B 22 ty 5 i0 (.int .u8 0) 1 1 Tryd.underlying22 hi hz0 hz1 hz2 rfl (by omega) v xs.length (bvs xs) hown ad n c (bvs ys)
      (by rw [bvs_length, hr.1]; omega) (fun j u hu => by
        simp only [bvs, List.getElem?_map, Option.map_eq_some_iff] at hu
        obtain ⟨b, hb, rfl⟩ := hu
        exact hc j b hb) (oneCell_bvs ys) (by unfold maxLen; omega) (by omega) hB
    refine ⟨v', w', h1, ?_, h3, hbel w' h3⟩
    rw [← bvs_append] at h2
    exact OwnB.of h2

/-- the same as a law of the walk -/
theorem wpList_appendB (w : World) {ops : Array Oper} {rest : List Oper} {o : Oper} {a : Act} {Q : Exit → Act → World → Prop}
    (hgd : o.guard = none) (s x : Operand) (ho : o.op = .call { callee := .builtin .append, args := #[s, x], argTypes := #[22, 22] })
    (B : Nat) (v : Value) (xs ys : List UInt8) (hs : a.eval s = v) (A : Option Addr) (n c : Nat) (hx : a.eval x = .slice A n c) (hown : OwnB w B v xs) (hr : RdB w A n c ys)
    (hl : xs.length + n ≤ 140737488355328) (hB : B ≤ w.heap.size)
    (h : ∀ v' w', OwnB w' B v' (xs ++ ys) → w.grownBy w' v.ownBlock → Below B w w' → wpList Tryd.prog ops Q rest (a.put o.dst v') w') : wpList Tryd.prog ops Q (o :: rest) a w := by
  obtain ⟨v', w', hrun, h1, h2, h3⟩ := run_appendB w o.type B v xs ys A n c hown hr hl hB
  refine wpList_plain hgd fun K hK' => ?_
  unfold Oper.wp execOp
  simp only [ho, resolve, invoke, builtin, Sem.run_bind, Sem.run_pure, Result.andThen_ok, List.map_toArray, List.map_cons, List.map_nil, hs, hx, hrun]
  exact hK' _ _ (h v' w' h1 h2 h3)

/-- one byte that has just been laid -/
theorem RdB.one (w : World) (t : TypeId) (b : UInt8) (n : Int) (hn : n = (b.toNat : Int)) : RdB (w.alloc (.cells #[.int .u8 n] t)) (some ⟨w.heap.size, 0, none⟩) 1 1 [b] := by
  subst hn
  refine ⟨rfl, Nat.le_refl _, by unfold maxLen; omega, fun _ => ⟨_, rfl, fun j u hu => ?_⟩⟩
  match j, hu with
  | 0, hu =>
    obtain rfl : b = u := by simpa using hu
    rw [show (⟨w.heap.size, 0, none⟩ : Addr).add 0 = ⟨w.heap.size, 0, none⟩ from rfl, World.cell?_alloc_at _ _ _ _ rfl]
    rfl
/-- a slice of one byte that has just been made -/
theorem OwnB.one (w : World) (b : UInt8) (n : Int) (hn : n = (b.toNat : Int)) (B : Nat) (hB : B ≤ w.heap.size) : OwnB (w.alloc (.cells #[.int .u8 n] 5)) B (.slice (some ⟨w.heap.size, 0, none⟩) 1 1) [b] := by
  subst hn
  exact ⟨by simp [bvs], .inr ⟨w.heap.size, 1, _, rfl, hB, heap_alloc_new w _, Nat.le_refl _, by unfold maxLen; omega, rfl, rfl⟩⟩
theorem OwnB.many (w : World) (bs : List UInt8) (B : Nat) (hB : B ≤ w.heap.size) (hm : bs.length ≤ 1000000) : OwnB (w.alloc (.cells (bvs bs).toArray 5)) B (.slice (some ⟨w.heap.size, 0, none⟩) bs.length bs.length) bs :=
  ⟨by simp [bvs], .inr ⟨w.heap.size, bs.length, _, rfl, hB, heap_alloc_new w _, Nat.le_refl _, by unfold maxLen; omega, by simp [bvs], by rw [← bvs_length bs]; simp⟩⟩
/-- a row of bytes that has just been laid -/
theorem RdB.many (w : World) (t : TypeId) (bs : List UInt8) {n : Nat} (hn : bs.length = n) (hm : n ≤ maxLen := by unfold maxLen; omega) : RdB (w.alloc (.cells (bvs bs).toArray t)) (some ⟨w.heap.size, 0, none⟩) n n bs := by
  refine ⟨hn, Nat.le_refl _, hm, fun _ => ⟨_, rfl, fun j u hu => ?_⟩⟩
  have e : (⟨w.heap.size, 0, none⟩ : Addr).add j = ⟨w.heap.size, j, none⟩ := by unfold Addr.add; split <;> simp_all
  rw [e, World.cell?_alloc_at _ _ _ _ rfl]
  simp [bvs, hu]
end Go.Proofs.YtfjfjjcdlgdbcaaDoor
