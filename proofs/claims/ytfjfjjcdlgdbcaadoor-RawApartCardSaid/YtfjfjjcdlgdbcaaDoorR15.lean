/- morainelaw13.known -/
import Derived.Test.YtfjfjjcdlgdbcaaDoorR14
import Derived.Lib.SlBytesConst
namespace Go.Proofs.YtfjfjjcdlgdbcaaDoor
open Go.RowKit

attribute [local go_sem] run_storeRow roomAt_alloc_at roomAt_past_eq roomAt_drew_eq rk_size rk_size0 z32_length rk_zero setCells_alloc_at setCells_alloc_past setCells_drew rk_oneCell size_ovw ovw_all

theorem big_258 : (114 :: bigB 258 8 : List UInt8) = [114, 0, 0, 0, 0, 0, 0, 1, 2] := by decide
theorem RdB.mark (w : World) (t : TypeId) (b : UInt8) (n : Int) (hn : n = (b.toNat : Int)) (lo hi : Nat) : RdB (w.alloc (.cells #[.int .u8 n] t (lo, hi))) (some ⟨w.heap.size, 0, none⟩) 1 1 [b] := by
  subst hn
  refine ⟨rfl, Nat.le_refl _, by unfold maxLen; omega, fun _ => ⟨_, rfl, fun j u hu => ?_⟩⟩
  match j, hu with
  | 0, hu =>
    obtain rfl : b = u := by simpa using hu
    rw [show (⟨w.heap.size, 0, none⟩ : Addr).add 0 = ⟨w.heap.size, 0, none⟩ from rfl, cell_of_row _ _ _ _ _ _ (heap_alloc_new w _)]
    rfl
theorem Marker_prune (W : World) : Calls Tryd.prog 24 #[.string ⟨#[112, 114, 117, 110, 101]⟩] W fun e w' => Below W.heap.size W w' ∧ ∃ A c, e = .returned (.tuple #[.slice A 6 c, .int .i64 0]) ∧ RdB w' A 6 c [109, 112, 114, 117, 110, 101] :=
  (MarkerKey_calls ⟨#[112, 114, 117, 110, 101]⟩ W).mono fun e w' ⟨hb, h⟩ => by
    rcases h with ⟨_, v, h, ho⟩ | ⟨hno, _⟩
    · obtain ⟨A, c, rfl, hr⟩ := ho.reads
      exact ⟨hb, A, c, h, hr⟩
    · exact absurd hno (by decide)
theorem Root_258 (W : World) : Calls Tryd.prog 19 #[.int .u64 258] W fun e w' => Below W.heap.size W w' ∧ ∃ A c, e = .returned (.slice A 9 c) ∧ RdB w' A 9 c [114, 0, 0, 0, 0, 0, 0, 1, 2] :=
  (RootKey_calls 258 (by omega) W).mono fun e w' ⟨v, h, ho, hb⟩ => by
    rw [big_258] at ho
    obtain ⟨A, c, rfl, hr⟩ := ho.reads
    exact ⟨hb, A, c, h, hr⟩
theorem PK_n : PK [110] = (rk 0 z32 z32 0 ⟨#[]⟩, 132) := by simp [PK]

set_option maxRecDepth 100000 in
set_option maxHeartbeats 2000000 in
theorem known_calls (w : World) : Calls Tryd.prog 12 #[] w fun e w' => e = .returned (.bool true) ∧ Below w.heap.size w w' := by
  have hm := Lib.hid (fun W => Marker_prune W)
  have hp := Lib.hid (fun W A c h => Parse_calls A 1 c [110] W h)
  rw [PK_n] at hp
  have hk := Lib.hid (fun W => Root_258 W)
  have kc := fun (w : World) (C : Array Value) (n c : Nat) => Lib.run_convert_bytes_const (P := Tryd.prog) w 22 5 C n c Tryd.underlying22 Tryd.underlying5
  have hT : Hid (AggT Tryd.prog 28 (rk 0 z32 z32 0 ⟨#[]⟩).size) := by rw [rk_size0]; exact Tryd.agg28
  have hs1 : ((str [109, 112, 114, 117, 110, 101]).toList == [109, 112, 114, 117, 110, 101]) = true := by rw [str_list]; decide
  have hs2 : ((str [114, 0, 0, 0, 0, 0, 0, 1, 2]).toList == [114, 0, 0, 0, 0, 0, 0, 1, 2]) = true := by rw [str_list]; decide
  go_enter Tryd.func12, Tryd.ntmps12
  go_wp2_with (first | (go_at_call 24; refine (hm.out _).mono ?_; rintro e w1 ⟨hb1, A1, c1, rfl, hr1⟩; have HR1 := Lib.hid hr1; clear hr1) | (go_at_call 13; refine (hp.out _ _ _ (RdB.mark _ _ 110 _ rfl _ _)).mono ?_; rintro e w2 ⟨rfl, hb2⟩; have hcv1 := run_convertB (P := Tryd.prog) _ 22 5 9 Tryd.underlying22 Tryd.underlying5 Tryd.underlying9 (((HR1.out.alloc _).below hb2).alloc (.cells (rk 0 z32 z32 0 ⟨#[]⟩) 28))) | (go_at_call 19; refine (hk.out _).mono ?_; rintro e w3 ⟨hb3, A3, c3, rfl, hr3⟩; have hcv3 := run_convertB (P := Tryd.prog) _ 22 5 9 Tryd.underlying22 Tryd.underlying5 Tryd.underlying9 hr3) | (refine wpList_storeNew rfl rfl 28 _ _ rfl _ _ rfl (rk 0 z32 z32 0 ⟨#[]⟩) rfl hT.out rfl (rk_oneCell _ _ _ _ _) ?_))
  go_ret
  have h12 : Below w.heap.size w w2 := (hb1.alloc hb1.size _).trans (hb2.mono (by simp; have := hb1.size; omega))
  exact ⟨rfl, (h12.alloc h12.size _).trans (hb3.mono (by simp; have := h12.size; omega))⟩
end Go.Proofs.YtfjfjjcdlgdbcaaDoor
