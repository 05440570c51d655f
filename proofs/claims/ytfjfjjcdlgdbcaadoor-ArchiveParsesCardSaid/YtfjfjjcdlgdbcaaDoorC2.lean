/- Arguments opened: arrays of bytes by value. -/
import Derived.Test.YtfjfjjcdlgdbcaaDoorC0
namespace Go.Proofs.YtfjfjjcdlgdbcaaDoor
open Go.ChangeShapes Go.WideShapes Go.ChangeAt Go.RowKit

theorem trod_byte {H : Type} {enc : TypeId × Value → H} {P : Program} {W : World} {base : Nat} {spare : Nat → Bool} {held : Bool} {e : TypeId} {c : List Value} {x : DataW H × List MemPlace} {fuel : Nat}
    (he : P.underlying e = some (.int .u8)) (h : DataW.trod enc P W base spare held fuel e c = some x) : ∃ b : UInt8, c = [bv b] := by
  obtain ⟨z, e1, _, hw⟩ := DataW.trod_int he h
  have hz : 0 ≤ z ∧ z ≤ 255 := by simpa [Lit.wf, IntKind.min, IntKind.max, IntKind.signed, IntKind.bits] using hw
  refine ⟨UInt8.ofNat z.toNat, ?_⟩
  rw [e1]
  simp [bv]; omega

theorem rows_bytes (cs : List Value) (h : ∀ i, i < cs.length → ∃ b : UInt8, (cs.drop i).take 1 = [bv b]) : ∃ xs, cs = bvs xs := by
  induction cs with
  | nil => exact ⟨[], rfl⟩
  | cons c cs ih =>
    obtain ⟨b, hb⟩ := h 0 (by simp)
    obtain ⟨xs, hx⟩ := ih (fun i hi => by
      have := h (i + 1) (by simp; omega)
      simpa using this)
    refine ⟨b :: xs, ?_⟩
    simp only [List.drop_zero, List.take_succ_cons, List.take_zero, List.cons.injEq, and_true] at hb
    rw [hb, hx]; rfl

/-- an array of bytes by value -/
theorem open_array {H : Type} {enc : TypeId × Value → H} {P : Program} {W : World} {base b0 : Nat} {r : Reach} {spare : Nat → Bool} {held : Bool} {t e : TypeId} {n : Nat} {v : Value} {d : DataW H} {p : List MemPlace}
    (ht : P.underlying t = some (.array n e)) (he : P.underlying e = some (.int .u8)) (hce : P.cellsOf e = 1) (hct : P.cellsOf t = n) (hv : Value.okWide P W r b0 t v) (h : DataW.Trod enc P W base spare held t v d p) :
    ∃ xs, v = .agg (bvs xs).toArray ∧ xs.length = n := by
  simp only [Value.okWide, ht] at hv
  obtain ⟨cs, rfl, hs, _⟩ := hv
  obtain ⟨fuel, hf⟩ := h
  obtain ⟨ys, m, _, _, hl, hyl, hy⟩ := DataW.trod_array ht hf
  simp only [Value.cells] at hl hy
  obtain ⟨xs, hx⟩ := rows_bytes cs.toList (fun i hi => by
    have hi' : i < n := by simp at hi; omega
    have h1 := hy i hi'
    rw [hce, Nat.mul_one, List.getElem?_eq_getElem (by omega)] at h1
    exact trod_byte he h1)
  refine ⟨xs, ?_, ?_⟩
  · rw [← hx]
  · rw [← bvs_length, ← hx]; simp; omega
end Go.Proofs.YtfjfjjcdlgdbcaaDoor
