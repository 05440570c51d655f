/- plain.Unhex, archive.undigits -/
import Derived.Test.YtfjfjjcdlgdbcaaDoorE1
namespace Go.Proofs.YtfjfjjcdlgdbcaaDoor
open Go.RowKit
set_option linter.unusedSimpArgs false
set_option linter.unusedVariables false

/-- a digit's number; 16: it is none -/
def halfN (c : UInt8) : Nat := (List.range 16).findIdx fun i => decide (dig i = c)
theorem halfN_le (c : UInt8) : halfN c ≤ 16 := by
  have := List.findIdx_le_length (p := fun i => decide (dig i = c)) (xs := List.range 16)
  simpa [halfN] using this
theorem halfN_at (c : UInt8) (k : Nat) (hk : k < 16) (h : ∀ j, j < k → dig j ≠ c) (h1 : dig k = c) : halfN c = k := by
  unfold halfN
  rw [List.findIdx_eq (by simpa using hk)]
  refine ⟨by simpa using h1, fun j hj => by simpa using h j hj⟩
theorem halfN_no (c : UInt8) (h : ∀ j, j < 16 → dig j ≠ c) : halfN c = 16 := by
  have : halfN c = (List.range 16).length := by
    unfold halfN
    rw [List.findIdx_eq_length]
    intro x hx
    simpa using h x (by simpa using hx)
  simpa using this
theorem idx_strs {P : Program} (xs : List UInt8) (k : Nat) (c : UInt8) (hc : xs[k]? = some c) (W : World) (h : P.underlying 9 = some .string) :
    (Instr.index 9 (.string (str xs)) (.int .i64 (k : Int))).run P W = .ok (.int .u8 (c.toNat : Int)) W := by
  have hk : k < xs.length := (List.getElem?_eq_some_iff.1 hc).1
  rw [run_index_string W 9 (str xs) .i64 k h, dif_pos ⟨by omega, by rw [str_size]; omega⟩]
  have e : ∀ (j : Nat) (hj : j < (str xs).size), j = k → ((str xs)[j]'hj).toNat = c.toNat := by
    rintro j hj rfl
    have e3 : (str xs)[j]'hj = xs[j]'hk := by show xs.toArray[j]'(by simpa using hk) = _; simp
    rw [e3, (List.getElem?_eq_some_iff.1 hc).2]
  rw [e _ _ (Int.toNat_natCast k)]
def halfV (c : UInt8) : Value := if halfN c < 16 then .tuple #[.int .u8 (halfN c : Int), .bool true] else .tuple #[.int .u8 0, .bool false]
theorem idx_hex64 {P : Program} (n : Nat) (hn : n < 16) (w : World) (h : P.underlying 9 = some .string) :
    (Instr.index 9 (.string ⟨#[48, 49, 50, 51, 52, 53, 54, 55, 56, 57, 97, 98, 99, 100, 101, 102]⟩) (.int .i64 (n : Int))).run P w = .ok (.int .u8 ((dig n).toNat : Int)) w := by
  show (Instr.index 9 (.string hexS) (.int .i64 (n : Int))).run P w = _
  rw [run_index_string w 9 hexS .i64 n h, dif_pos ⟨by omega, by show (n : Int) < 16; omega⟩]
  have h2 := hexS_get ⟨n, hn⟩
  simp only [Int.toNat_natCast]
  rw [h2]

set_option maxRecDepth 100000 in
set_option maxHeartbeats 2000000 in
theorem half_calls (c : UInt8) (w : World) : Calls Tryd.prog 154 #[.int .u8 (c.toNat : Int)] w fun e w' => e = .returned (halfV c) ∧ Below w.heap.size w w' := by
  have hcl := c.toNat_lt
  go_enter Tryd.func154, Tryd.ntmps154
  go_wp2
  go_loopw [5] (fun i wr => ∃ k : Nat, k ≤ 16 ∧ i = .int .i64 k ∧ (∀ j, j < k → dig j ≠ c) ∧ Below w.heap.size w wr) (fun i _ => 16 - (intOf i).toNat)
  case atStart => exact ⟨0, by omega, rfl, fun j hj => by omega, Below.refl _ _⟩
  case round =>
    obtain ⟨k, hk, rfl, ha, hb⟩ := hrel
    have HA := Lib.hid ha
    clear ha
    by_cases hlt : k < 16
    · have hi := fun W => idx_hex64 (P := Tryd.prog) k hlt W Tryd.underlying9
      by_cases hd : dig k = c
      · have hh := Lib.hid (halfN_at c k hlt HA.out hd)
        have hq : ((dig k).toNat : Int) = (c.toNat : Int) := by rw [hd]
        have hq2 : (((dig k).toNat : Int) == (c.toNat : Int)) = true := by rw [hd]; simp
        clear hd
        go_wp2
        go_ret2
        exact ⟨by rw [halfV, hh.out, if_pos hlt]; rfl, hb⟩
      · have hq : ¬ ((dig k).toNat : Int) = (c.toNat : Int) := fun e => hd (UInt8.toNat_inj.1 (by omega))
        have hq2 : (((dig k).toNat : Int) == (c.toNat : Int)) = false := by simpa using hq
        have HD := Lib.hid hd
        clear hd
        go_wp2
        go_roundw
        case rel =>
          refine ⟨k + 1, by omega, by go_num, fun j hj => ?_, hb⟩
          by_cases e : j = k
          · rw [e]; exact HD.out
          · exact HA.out j (by omega)
        case measure => simp [intOf]; omega
    · obtain rfl : k = 16 := by omega
      have hh := Lib.hid (halfN_no c HA.out)
      go_wp2
      go_ret2
      exact ⟨by rw [halfV, hh.out]; rfl, hb⟩
end Go.Proofs.YtfjfjjcdlgdbcaaDoor
