/- plain.Unbig -/
import Derived.Test.YtfjfjjcdlgdbcaaDoorA0
namespace Go.Proofs.YtfjfjjcdlgdbcaaDoor
open Go.RowKit

set_option maxHeartbeats 400000 in
theorem Unbig_calls (A : Option Addr) (n c : Nat) (xs : List UInt8) (w : World) (h : RdB w A n c xs) :
    Calls Tryd.prog 41 #[.slice A n c] w fun e w' => e = .returned (.int .u64 (unbig xs)) ∧ w = w' := by
  have hm : n ≤ 9223372036854775807 := by have := h.2.1; have := h.2.2.1; unfold maxLen at this; omega
  have H := Lib.hid h
  clear h
  go_enter Tryd.func41, Tryd.ntmps41
  go_wp2
  go_loop [3, 8] (fun t i => ∃ k : Nat, k ≤ n ∧ i = .int .i64 k ∧ t = .int .u64 (unbig (xs.take k))) (fun _ i => n - (intOf i).toNat)
  case atStart => exact ⟨0, Nat.zero_le _, rfl, rfl⟩
  case round =>
    obtain ⟨k, hk, rfl, rfl⟩ := hrel
    by_cases hlt : k < n
    · obtain ⟨ad, rfl, hcell⟩ := H.out.at_ hlt
      have hb := (xs.getD k 0).toNat_lt
      generalize hx : (xs.getD k 0).toNat = x at *
      have HX := Lib.hid hx
      clear hx
      have hu := unbig_lt (xs.take k)
      have HU := Lib.hid (unbig_snoc xs k (by have := H.out.1; omega))
      generalize unbig (xs.take k) = u at *
      go_wp2
      go_round
      case rel => exact ⟨k + 1, by omega, by go_num, by rw [HU.out, HX.out]; congr 1; exact or_big u x hu hb⟩
      case measure => simp [intOf]; omega
    · go_wp2
      go_ret
      exact ⟨by rw [List.take_of_length_le (by have := H.out.1; omega)]; rfl, rfl⟩
end Go.Proofs.YtfjfjjcdlgdbcaaDoor
