/- plain.Big, and what stands on it -/
import Derived.Test.YtfjfjjcdlgdbcaaDoorR1
namespace Go.Proofs.YtfjfjjcdlgdbcaaDoor
open Go.RowKit

/-- the j highest of k bytes of a number -/
def bigT (m k j : Nat) : List UInt8 := (List.range j).map fun i => UInt8.ofNat (m / 2 ^ (8 * (k - 1 - i)))
def bigB (m k : Nat) : List UInt8 := bigT m k k
theorem bigT_length (m k j : Nat) : (bigT m k j).length = j := by simp [bigT]
theorem bigT_succ (m k j : Nat) : bigT m k (j + 1) = bigT m k j ++ [UInt8.ofNat (m / 2 ^ (8 * (k - 1 - j)))] := by
  simp [bigT, List.range_succ]
theorem ofNat_byte (x : Nat) : ((UInt8.ofNat x).toNat : Int) = (x : Int) % 256 := by simp

set_option maxRecDepth 100000 in
set_option maxHeartbeats 1000000 in
theorem Big_calls (v : Value) (xs : List UInt8) (m k B : Nat) (w : World) (hown : OwnB w B v xs) (hB : B ≤ w.heap.size) (hm : m < 18446744073709551616) (hk : k ≤ 8) (hl : xs.length ≤ 1000000) :
    Calls Tryd.prog 79 #[v, .int .u64 m, .int .i64 k] w fun e w' => ∃ v', e = .returned v' ∧ OwnB w' B v' (xs ++ bigB m k) ∧ Below B w w' := by
  have HO := Lib.hid hown
  clear hown
  have HM := Lib.hid hm
  clear hm
  have e1 : IntKind.i64.wrap ((k : Int) - 1) = (k : Int) - 1 := IntWalk.i64_in _ (by omega)
  go_enter Tryd.func79, Tryd.ntmps79
  go_wp2
  go_loopw [0, 7] (fun v' i wr => ∃ j : Nat, j ≤ k ∧ i = .int .i64 ((k : Int) - 1 - j) ∧ OwnB wr B v' (xs ++ bigT m k j) ∧ Below B w wr) (fun _ i _ => (intOf i + 1).toNat)
  case atStart => exact ⟨0, by omega, by simp, by simpa [bigT] using HO.out, Below.refl _ _⟩
  case round =>
    obtain ⟨j, hj, rfl, ho, hb⟩ := hrel
    by_cases hlt : j < k
    · have hge : (0 : Int) ≤ (k : Int) - 1 - j := by omega
      have hbs : B ≤ wr.heap.size := Nat.le_trans hB hb.size
      go_wp2_with (at_builtin; refine wpList_appendB _ rfl (.tmp 14) (.tmp 20) rfl B _ (xs ++ bigT m k j) [UInt8.ofNat (m / 2 ^ (8 * (k - 1 - j)))] rfl _ _ _ rfl (ho.alloc _) (RdB.one _ _ _ _ ?hb) ?hl ?hB ?_; rotate_right; intro v2 w2 ho2 hg2 hb2)
      case hb => simp
      case hl => simp [bigT_length]; omega
      case hB => simp; omega
      go_roundw
      case rel => exact ⟨j + 1, by omega, by simp; omega, by rw [bigT_succ, ← List.append_assoc]; exact ho2, (hb.alloc hbs _).trans hb2⟩
      case measure => simp [intOf]; omega
    · have hge : ¬ (0 : Int) ≤ (k : Int) - 1 - j := by omega
      go_wp2
      go_ret
      obtain rfl : j = k := by omega
      exact ⟨_, rfl, ho, hb⟩
end Go.Proofs.YtfjfjjcdlgdbcaaDoor
