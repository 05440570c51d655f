/- is there an empty key? slices.ContainsFunc at archive.Print's closure -/
import Derived.Test.YtfjfjjcdlgdbcaaDoorE6
namespace Go.Proofs.YtfjfjjcdlgdbcaaDoor
open Go.RowKit

def anyNil (l : List (List UInt8 × List UInt8)) : Bool := l.any fun kv => kv.1.isEmpty
theorem anyNil_succ (l : List (List UInt8 × List UInt8)) (k : Nat) (h : k < l.length) : anyNil (l.take (k + 1)) = (anyNil (l.take k) || (l.getD k ([], [])).1.isEmpty) := by
  rw [List.take_succ_eq_append_getElem h]
  simp only [anyNil, List.any_append, List.any_cons, List.any_nil, Bool.or_false, List.getD_eq_getElem?_getD, List.getElem?_eq_getElem h, Option.getD_some]
theorem anyNil_yes (l : List (List UInt8 × List UInt8)) (k : Nat) (h : k < l.length) (h1 : (l.getD k ([], [])).1.isEmpty = true) : anyNil l = true := by
  rw [anyNil, List.any_eq_true]
  exact ⟨l[k], List.getElem_mem h, by simpa [List.getD_eq_getElem?_getD, List.getElem?_eq_getElem h] using h1⟩
theorem isNil_calls (B : Option Addr) (m d : Nat) (v : Value) (w : World) (hm : m ≤ 9223372036854775807) :
    Calls Tryd.prog 64 #[.agg #[.slice B m d, v]] w fun e w' => e = .returned (.bool (decide (m = 0))) ∧ Below w.heap.size w w' := by
  go_enter Tryd.func64, Tryd.ntmps64
  go_wp2
  go_ret
  rw [show ((m : Int) == 0) = decide (m = 0) from by rw [Bool.eq_iff_iff]; simp]
  exact ⟨rfl, al (Below.refl _ _) _⟩

set_option maxRecDepth 100000 in
set_option maxHeartbeats 2000000 in
theorem index103_calls (lA : Option Addr) (ln lc : Nat) (kvs : List (List UInt8 × List UInt8)) (w : World) (h : RdKV w lA ln lc kvs) :
    Calls Tryd.prog 103 #[.slice lA ln lc, .func (.func 64) #[] #[]] w fun e w' => (∃ i : Int, e = .returned (.int .i64 i) ∧ (0 ≤ i ↔ anyNil kvs = true) ∧ -1 ≤ i) ∧ Below w.heap.size w w' := by
  have hm : ln ≤ 9223372036854775807 := by have := h.2.1; have := h.2.2.1; unfold maxLen at this; omega
  have H := Lib.hid h
  clear h
  go_enter Tryd.func103, Tryd.ntmps103
  go_wp2
  go_loopw [8] (fun i wr => ∃ k : Nat, k ≤ ln ∧ i = .int .i64 k ∧ anyNil (kvs.take k) = false ∧ Below w.heap.size w wr) (fun i _ => ln - (intOf i).toNat)
  case atStart => exact ⟨0, by omega, rfl, rfl, Below.refl _ _⟩
  case round =>
    obtain ⟨k, hk, rfl, ha, hb⟩ := hrel
    have hbs := hb.size
    by_cases hlt : k < ln
    · obtain ⟨g, o, B, m, d, B', m', d', rfl, hgk, hc1, hr1, hc2, hr2⟩ := (H.out.below hb).at_ hlt
      have hkl : k < kvs.length := by have := H.out.1; omega
      have hs := Lib.hid (anyNil_succ kvs k hkl)
      have hy := Lib.hid (anyNil_yes kvs k hkl)
      have hml := hr1.1
      have hmx : m ≤ 9223372036854775807 := by have := hr1.2.1; have := hr1.2.2.1; unfold maxLen at this; omega
      clear hr2 hgk hr1
      generalize (kvs.getD k ([], [])).1 = ys at *
      have hc := Lib.hid (fun W => isNil_calls B m d (.slice B' m' d') W hmx)
      by_cases hz : m = 0
      · have hd : decide (m = 0) = true := decide_eq_true hz
        rw [hd] at hc
        have hys : ys = [] := List.eq_nil_of_length_eq_zero (by omega)
        have hyy := Lib.hid (hy.out (by rw [hys]; rfl))
        clear hd hz hys
        go_wp2_with (go_at_call 64; refine (hc.out _).mono ?_; rintro e w1 ⟨rfl, hb1⟩)
        go_ret
        exact ⟨⟨k, rfl, ⟨fun _ => hyy.out, fun _ => by omega⟩, by omega⟩, thn hb hb1⟩
      · have hd : decide (m = 0) = false := decide_eq_false hz
        rw [hd] at hc
        have hys : ys.isEmpty = false := by
          cases ys with
          | nil => exact absurd hml.symm hz
          | cons _ _ => rfl
        clear hd hz
        go_wp2_with (go_at_call 64; refine (hc.out _).mono ?_; rintro e w1 ⟨rfl, hb1⟩)
        go_roundw
        case rel => exact ⟨k + 1, by omega, by go_num, by rw [hs.out, ha, hys]; rfl, thn hb hb1⟩
        case measure => simp [intOf]; omega
    · obtain rfl : k = ln := by omega
      rw [List.take_of_length_le (by have := H.out.1; omega)] at ha
      go_wp2
      go_ret
      exact ⟨⟨-1, rfl, ⟨fun h => absurd h (by omega), fun h => by rw [ha] at h; cases h⟩, by omega⟩, hb⟩

theorem contains_calls (lA : Option Addr) (ln lc : Nat) (kvs : List (List UInt8 × List UInt8)) (w : World) (h : RdKV w lA ln lc kvs) :
    Calls Tryd.prog 63 #[.slice lA ln lc, .func (.func 64) #[] #[]] w fun e w' => e = .returned (.bool (anyNil kvs)) ∧ Below w.heap.size w w' := by
  have hx := Lib.hid (index103_calls lA ln lc kvs w h)
  clear h
  go_enter Tryd.func63, Tryd.ntmps63
  go_wp2_with (go_at_call 103; refine hx.out.mono ?_; rintro e w1 ⟨⟨i, rfl, hi, hi1⟩, hb1⟩; have HI := Lib.hid hi; clear hi)
  go_ret
  refine ⟨?_, hb1⟩
  have : decide (0 ≤ i) = anyNil kvs := by
    rw [Bool.eq_iff_iff, decide_eq_true_iff]; exact HI.out
  simp [this]
end Go.Proofs.YtfjfjjcdlgdbcaaDoor
