/- morainehelp.Lists -/
import Derived.Test.YtfjfjjcdlgdbcaaDoorA8
import Derived.Deep.QuietTactic
import Derived.BigQuiet
namespace Go.Proofs.YtfjfjjcdlgdbcaaDoor
open Go.RowKit

theorem drawn_below (w : World) (j : Nat) : Below w.heap.size w (w.drewN j) := ⟨rfl, rfl, rfl, Nat.le_refl _, fun _ _ => rfl⟩

theorem lists_step (xss yss : List (List UInt8)) (n k : Nat) (hx : xss.length = n) (hy : yss.length = n) (hk : k < n) (h : xss.take k = yss.take k) (he : xss.getD k [] = yss.getD k []) : xss.take (k + 1) = yss.take (k + 1) := by
  rw [List.take_succ_eq_append_getElem (by omega), List.take_succ_eq_append_getElem (by omega), h]
  simp only [List.getD_eq_getElem?_getD, List.getElem?_eq_getElem (show k < xss.length by omega), List.getElem?_eq_getElem (show k < yss.length by omega), Option.getD_some] at he
  rw [he]
theorem lists_no (xss yss : List (List UInt8)) (k : Nat) (he : xss.getD k [] ≠ yss.getD k []) : xss ≠ yss := fun e => he (by rw [e])

set_option maxHeartbeats 1000000 in
theorem Lists_calls (A B : Option Addr) (n m c d : Nat) (xss yss : List (List UInt8)) (w : World) (hx : RdL w A n c xss) (hy : RdL w B m d yss) :
    Calls Tryd.prog 23 #[.slice A n c, .slice B m d] w fun e w' => e = .returned (.bool (decide (xss = yss))) ∧ Below w.heap.size w w' := by
  have hm : n ≤ 9223372036854775807 := by have := hx.2.1; have := hx.2.2.1; unfold maxLen at this; omega
  by_cases hnm : n = m
  · subst hnm
    have HX := Lib.hid hx
    have HY := Lib.hid hy
    clear hx hy
    go_enter Tryd.func23, Tryd.ntmps23
    go_wp2
    go_loopw [5] (fun i wr => ∃ k : Nat, k ≤ n ∧ i = .int .i64 k ∧ xss.take k = yss.take k ∧ ∃ j, wr = w.drewN j) (fun i _ => n - (intOf i).toNat)
    case atStart => exact ⟨0, by omega, rfl, by simp, 0, rfl⟩
    case round =>
      obtain ⟨k, hk, rfl, hpre, j, rfl⟩ := hrel
      have HP := Lib.hid hpre
      clear hpre
      by_cases hlt : k < n
      · obtain ⟨a1, B1, m1, rfl, _, hc1, hr1⟩ := HX.out.at_ hlt
        obtain ⟨a2, B2, m2, rfl, _, hc2, hr2⟩ := HY.out.at_ hlt
        have hcv1 := fun q => run_convertB (P := Tryd.prog) (w.drewN q) 22 5 9 Tryd.underlying22 Tryd.underlying5 Tryd.underlying9 (hr1.drewN q)
        have hcv2 := fun q => run_convertB (P := Tryd.prog) (w.drewN q) 22 5 9 Tryd.underlying22 Tryd.underlying5 Tryd.underlying9 (hr2.drewN q)
        have HS := Lib.hid (lists_step xss yss n k HX.out.1 HY.out.1 hlt HP.out)
        have HN := Lib.hid (lists_no xss yss k)
        clear hr1 hr2
        generalize xss.getD k [] = x at *
        generalize yss.getD k [] = y at *
        by_cases hxy : x = y
        · subst hxy
          go_wp2
          go_quiet (fail)
          all_goals go_wp2
          go_roundw
          case rel => exact ⟨k + 1, by omega, by go_num, HS.out trivial, _, rfl⟩
          case measure => simp [intOf]; omega
        · have hb : ((str x).toList == (str y).toList) = false := by rw [str_list, str_list, beq_eq_false_iff_ne]; exact hxy
          have hd : Hid (decide (xss = yss) = false) := decide_eq_false (HN.out hxy)
          clear hxy
          go_wp2
          go_quiet (fail)
          all_goals go_wp2
          go_ret
          exact ⟨by rw [hd.out]; rfl, by first | exact drawn_below _ _ | (rw [World.drewN_drewN]; exact drawn_below _ _)⟩
      · obtain rfl : k = n := by omega
        have hd : Hid (decide (xss = yss) = true) := decide_eq_true (by
          have := HP.out
          rwa [List.take_of_length_le (by rw [HX.out.1]; omega), List.take_of_length_le (by rw [HY.out.1]; omega)] at this)
        go_wp2
        go_ret
        exact ⟨by rw [hd.out]; rfl, by first | exact drawn_below _ _ | (rw [World.drewN_drewN]; exact drawn_below _ _)⟩
  · have hd : Hid (decide (xss = yss) = false) := decide_eq_false (fun e => hnm (by rw [← hx.1, ← hy.1, e]))
    have hq : ((n : Int) != (m : Int)) = true := by rw [bne_iff_ne]; omega
    clear hx hy
    go_enter Tryd.func23, Tryd.ntmps23
    go_wp2
    go_ret
    exact ⟨by rw [hd.out]; rfl, Below.refl _ _⟩
end Go.Proofs.YtfjfjjcdlgdbcaaDoor
