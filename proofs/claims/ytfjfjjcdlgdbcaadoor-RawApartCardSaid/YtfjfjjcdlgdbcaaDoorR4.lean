/- moraineref13.Of -/
import Derived.Test.YtfjfjjcdlgdbcaaDoorR3
import Derived.Test.YtfjfjjcdlgdbcaaDoorA4
namespace Go.Proofs.YtfjfjjcdlgdbcaaDoor
open Go.RowKit

theorem flatten_take_succ (yss : List (List UInt8)) (k : Nat) (ys : List UInt8) (h : yss[k]? = some ys) : (yss.take (k + 1)).flatten = (yss.take k).flatten ++ ys := by
  rw [List.take_add_one, h]; simp
theorem flatten_take_le (yss : List (List UInt8)) (k : Nat) : (yss.take k).flatten.length ≤ yss.flatten.length := by
  conv => rhs; rw [← List.take_append_drop k yss]
  simp only [List.flatten_append, List.length_append]; omega

set_option maxHeartbeats 1000000 in
theorem Of_calls (l : UInt8) (A : Option Addr) (n c : Nat) (yss : List (List UInt8)) (w : World) (h : RdL w A n c yss) (hs : yss.flatten.length ≤ 100000000) :
    Calls Tryd.prog 21 #[.int .u8 (l.toNat : Int), .slice A n c] w (Bytes w (l :: yss.flatten)) := by
  have hm : n ≤ 9223372036854775807 := by have := h.2.1; have := h.2.2.1; unfold maxLen at this; omega
  have H := Lib.hid h
  clear h
  go_enter Tryd.func21, Tryd.ntmps21
  go_wp2
  go_loopw [5, 6] (fun v i wr => ∃ k : Nat, k ≤ n ∧ i = .int .i64 k ∧ OwnB wr w.heap.size v (l :: (yss.take k).flatten) ∧ Below w.heap.size w wr) (fun _ i _ => n - (intOf i).toNat)
  case atStart => exact ⟨0, by omega, rfl, by simpa using OwnB.one w l _ rfl _ (Nat.le_refl _), (Below.refl _ _).alloc (Nat.le_refl _) _⟩
  case round =>
    obtain ⟨k, hk, rfl, ho, hb⟩ := hrel
    have hbs := hb.size
    by_cases hlt : k < n
    · obtain ⟨ad, B, m, rfl, hg, hcell, hr⟩ := (H.out.below hb).at_ hlt
      have HG := Lib.hid hg
      have HR := Lib.hid hr
      have HF := Lib.hid (flatten_take_succ yss k _ hg)
      have hle := flatten_take_le yss (k + 1)
      rw [flatten_take_succ yss k _ hg, List.length_append] at hle
      clear hg hr
      generalize yss.getD k [] = ys at *
      go_wp2_with (at_builtin; refine wpList_appendB _ rfl (.tmp 15) (.tmp 19) rfl w.heap.size _ (l :: (yss.take k).flatten) ys rfl _ _ _ rfl ho HR.out ?hl ?hB ?_; rotate_right; intro v2 w2 ho2 hg2 hb2)
      case hl => simp only [List.length_cons]; omega
      case hB => exact hbs
      go_roundw
      case rel => exact ⟨k + 1, by omega, by go_num, by rw [HF.out]; exact ho2, hb.trans hb2⟩
      case measure => simp [intOf]; omega
    · go_wp2
      go_ret
      refine ⟨_, rfl, ?_, hb⟩
      rw [List.take_of_length_le (by have := H.out.1; omega)] at ho
      exact ho
end Go.Proofs.YtfjfjjcdlgdbcaaDoor
