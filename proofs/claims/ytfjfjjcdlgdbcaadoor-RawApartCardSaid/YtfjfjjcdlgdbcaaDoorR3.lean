/- rawdb's keys of numbers -/
import Derived.Test.YtfjfjjcdlgdbcaaDoorR2
namespace Go.Proofs.YtfjfjjcdlgdbcaaDoor
open Go.RowKit

/-- a contract of a function that makes a new row of bytes -/
def Bytes (w : World) (ys : List UInt8) (e : Ending) (w' : World) : Prop := ∃ v, e = .returned v ∧ OwnB w' w.heap.size v ys ∧ Below w.heap.size w w'

set_option maxHeartbeats 1000000 in
theorem numbered_calls (l : UInt8) (m : Nat) (hm : m < 18446744073709551616) (w : World) :
    Calls Tryd.prog 43 #[.int .u8 (l.toNat : Int), .int .u64 m] w (Bytes w (l :: bigB m 8)) := by
  have hc := Lib.hid (fun w1 => Big_calls (.slice (some ⟨w.heap.size, 0, none⟩) 1 1) [l] m 8 w.heap.size w1)
  have HM := Lib.hid hm
  clear hm
  go_enter Tryd.func43, Tryd.ntmps43
  go_wp2_with (go_at_call 79; go_loud (refine (hc.out _ (OwnB.one w l _ rfl _ (Nat.le_refl _)) (by simp) HM.out (by omega) (by simp)).mono ?_); rintro e w1 ⟨v1, rfl, ho1, hb1⟩)
  go_ret
  exact ⟨v1, rfl, ho1, ((Below.refl _ _).alloc (Nat.le_refl _) _).trans hb1⟩

theorem RootKey_calls (m : Nat) (hm : m < 18446744073709551616) (w : World) : Calls Tryd.prog 19 #[.int .u64 m] w (Bytes w (114 :: bigB m 8)) := by
  have hc := Lib.hid (fun w1 => numbered_calls 114 m hm w1)
  clear hm
  go_enter Tryd.func19, Tryd.ntmps19
  go_wp2_with (go_at_call 43; refine (hc.out _).mono ?_; rintro e w1 ⟨v1, rfl, ho1, hb1⟩)
  go_ret
  exact ⟨v1, rfl, ho1, hb1⟩
theorem BlockKey_calls (m : Nat) (hm : m < 18446744073709551616) (w : World) : Calls Tryd.prog 20 #[.int .u64 m] w (Bytes w (98 :: bigB m 8)) := by
  have hc := Lib.hid (fun w1 => numbered_calls 98 m hm w1)
  clear hm
  go_enter Tryd.func20, Tryd.ntmps20
  go_wp2_with (go_at_call 43; refine (hc.out _).mono ?_; rintro e w1 ⟨v1, rfl, ho1, hb1⟩)
  go_ret
  exact ⟨v1, rfl, ho1, hb1⟩

/-- moraineref13.Eight -/
theorem Eight_calls (m : Nat) (hm : m < 18446744073709551616) (w : World) : Calls Tryd.prog 22 #[.int .u64 m] w (Bytes w (bigB m 8)) := by
  have HM := Lib.hid hm
  clear hm
  go_enter Tryd.func22, Tryd.ntmps22
  go_wp2
  go_loopw [3, 4] (fun v' i wr => ∃ j : Nat, j ≤ 8 ∧ i = .int .i64 (7 - (j : Int)) ∧ OwnB wr w.heap.size v' (bigT m 8 j) ∧ Below w.heap.size w wr) (fun _ i _ => (intOf i + 1).toNat)
  case atStart => exact ⟨0, by omega, by simp, OwnB.nil _ _, Below.refl _ _⟩
  case round =>
    obtain ⟨j, hj, rfl, ho, hb⟩ := hrel
    have hbs := hb.size
    by_cases hlt : j < 8
    · have hge : (0 : Int) ≤ 7 - (j : Int) := by omega
      go_wp2_with (at_builtin; refine wpList_appendB _ rfl (.tmp 9) (.tmp 15) rfl w.heap.size _ (bigT m 8 j) [UInt8.ofNat (m / 2 ^ (8 * (8 - 1 - j)))] rfl _ _ _ rfl (ho.alloc _) (RdB.one _ _ _ _ ?hb) ?hl ?hB ?_; rotate_right; intro v2 w2 ho2 hg2 hb2)
      case hb => simp
      case hl => simp [bigT_length]; omega
      case hB => simp; omega
      go_roundw
      case rel => exact ⟨j + 1, by omega, by simp; omega, by rw [bigT_succ]; exact ho2, (hb.alloc hbs _).trans hb2⟩
      case measure => simp [intOf]; omega
    · have hge : ¬ (0 : Int) ≤ 7 - (j : Int) := by omega
      go_wp2
      go_ret
      obtain rfl : j = 8 := by omega
      exact ⟨_, rfl, ho, hb⟩
end Go.Proofs.YtfjfjjcdlgdbcaaDoor
