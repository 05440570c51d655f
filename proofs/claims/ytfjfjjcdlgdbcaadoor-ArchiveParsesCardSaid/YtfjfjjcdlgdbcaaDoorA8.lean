/- Rows of bytes, and structs of them, held one against the other. -/
import Derived.Test.YtfjfjjcdlgdbcaaDoorA7
import Derived.DeepKeys
namespace Go.Proofs.YtfjfjjcdlgdbcaaDoor
open Go.RowKit

def blit (b : UInt8) : Lit := .int .u8 (b.toNat : Int)
theorem blit_wf (b : UInt8) : (blit b).wf = true := by
  have := b.toNat_lt
  simp [blit, Lit.wf, IntKind.min, IntKind.max, IntKind.signed, IntKind.bits]; omega
theorem blits_inj {xs ys : List UInt8} (h : xs.map blit = ys.map blit) : xs = ys := by
  induction xs generalizing ys with
  | nil => cases ys with
    | nil => rfl
    | cons y ys => simp at h
  | cons x xs ih => cases ys with
    | nil => simp at h
    | cons y ys =>
      simp only [List.map_cons, List.cons.injEq] at h
      have h1 := h.1
      unfold blit at h1
      injection h1 with _ h1
      have h2 : x = y := UInt8.toNat_inj.1 (by omega)
      rw [ih h.2, h2]
theorem mapM_some {α β : Type} (f : α → Option β) (g : α → β) : ∀ l : List α, (∀ x ∈ l, f x = some (g x)) → l.mapM f = some (l.map g)
  | [], _ => rfl
  | x :: l, h => by
    rw [List.mapM_cons, h x (by simp), mapM_some f g l (fun y hy => h y (by simp [hy]))]
    rfl
section
variable {P : Program}
theorem keyLits_bytes (d : Nat) (t e : TypeId) (n : Nat) (xs : List UInt8) (ht : P.underlying t = some (.array n e)) (he : P.underlying e = some (.int .u8)) (hce : P.cellsOf e = 1) (hct : P.cellsOf t = n) (hx : xs.length = n) :
    P.keyLits (d + 2) t (bvs xs) = some (xs.map blit) := by
  unfold Program.keyLits
  rw [ht]
  simp only [hce, hct, bvs_length, hx, if_true, Nat.mul_one]
  have h : (List.range n).mapM (fun i => P.keyLits (d + 1) e (((bvs xs).drop i).take 1)) = some ((List.range n).map fun i => [blit (xs.getD i 0)]) := by
    refine mapM_some _ _ _ (fun i hi => ?_)
    have hi' : i < xs.length := by rw [hx]; exact List.mem_range.1 hi
    have e1 : ((bvs xs).drop i).take 1 = [bv xs[i]] := by
      rw [bvs_drop, List.drop_eq_getElem_cons hi']
      rfl
    rw [e1]
    unfold Program.keyLits
    rw [he]
    have hw := blit_wf xs[i]
    unfold blit at hw
    simp only [bv, hw, and_self, if_true]
    simp [blit, List.getD_eq_getElem?_getD, List.getElem?_eq_getElem hi']
  rw [h]
  simp only [Option.map_some, Option.some.injEq]
  rw [← List.flatMap_def]
  apply List.ext_getElem?
  intro j
  subst hx
  have e2 : (List.range xs.length).flatMap (fun i => [blit (xs.getD i 0)]) = (List.range xs.length).map (fun i => blit (xs.getD i 0)) := by
    generalize List.range xs.length = l
    induction l with
    | nil => rfl
    | cons a l ih => rw [List.flatMap_cons, ih]; rfl
  rw [e2, List.getElem?_map, List.getElem?_map]
  by_cases hj : j < xs.length
  · rw [List.getElem?_range hj]
    simp [hj]
  · rw [List.getElem?_eq_none (by simp; omega), List.getElem?_eq_none (by omega)]
    rfl
theorem run_equalBytes (w : World) (d : Nat) (t e : TypeId) (n : Nat) (x y : List UInt8) (hk : P.keyTypeAt 2 t = true) (ht : P.underlying t = some (.array n e)) (he : P.underlying e = some (.int .u8)) (hce : P.cellsOf e = 1) (hct : P.cellsOf t = n) (hx : x.length = n) (hy : y.length = n) :
    (Op.equalIn (d + 2) t (.agg (bvs x).toArray) (.agg (bvs y).toArray)).run P w = .ok (decide (x = y)) w := by
  have fx : ∀ z : List UInt8, z.length = n → (Value.agg (bvs z).toArray).formed P t = true := fun z hz => by unfold Value.formed; rw [ht, hct]; simp [bvs_length, hz]
  obtain ⟨r, hr, hiff⟩ := run_equalIn_deep d 2 t hk w 2 2 (.agg (bvs x).toArray) (.agg (bvs y).toArray) _ _ (fx x hx) (fx y hy) (keyLits_bytes 0 t e n x ht he hce hct hx) (keyLits_bytes 0 t e n y ht he hce hct hy)
  rw [hr]
  congr 1
  rw [Bool.eq_iff_iff, hiff, decide_eq_true_iff]
  exact ⟨blits_inj, fun h => by rw [h]⟩
end
/-- the same cells are the same, whatever the type of keys -/
theorem run_equalSame {P : Program} (w : World) (m d D : Nat) (t : TypeId) (v : Value) (l : List Lit) (hk : P.keyTypeAt m t = true) (hf : v.formed P t = true) (hl : P.keyLits D t v.cells.toList = some l) :
    (Op.equalIn (d + m) t v v).run P w = .ok true w := by
  obtain ⟨r, hr, hiff⟩ := run_equalIn_deep d m t hk w D D v v _ _ hf hf hl hl
  rw [hr, hiff.2 rfl]
end Go.Proofs.YtfjfjjcdlgdbcaaDoor
