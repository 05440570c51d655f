/- rawdb's keys of hashes -/
import Derived.Test.YtfjfjjcdlgdbcaaDoorR5
import Derived.Test.YtfjfjjcdlgdbcaaDoorA6
namespace Go.Proofs.YtfjfjjcdlgdbcaaDoor
open Go.RowKit

theorem Tryd.zero25 : ((Tryd.prog.info? 25).bind (·.zero)).isSome = true := by kernel_rfl
theorem cells_new (w : World) (t : TypeId) (xs : List UInt8) : CellsAt (w.alloc (.cells (bvs xs).toArray t)) w.heap.size 0 (bvs xs) :=
  cellsAt_alloc_at w _ t _ 0 _ rfl (fun j u hu => by simpa using hu)
theorem cells_past {w : World} {n o : Nat} {vs : List Value} (h : CellsAt w n o vs) (hn : n < w.heap.size) (b : Obj) : CellsAt (w.alloc b) n o vs := by
  intro j u hu
  rw [World.cell?_alloc_lt w b ⟨n, o + j, none⟩ hn]
  exact h j u hu

attribute [local go_sem] foldl_0 ovw_all foldl_at
set_option maxHeartbeats 1000000 in
theorem NodeKey_calls (h : List UInt8) (hl : h.length = 32) (w : World) : Calls Tryd.prog 15 #[.agg (bvs h).toArray] w (Bytes w (110 :: h)) := by
  have hc := Lib.hid (fun w1 => hashed_calls 110 (w.heap.size + 1) 1 [h] w1 rfl (by omega) (by simpa using hl))
  have HA1 : Hid (AggT Tryd.prog 25 (bvs h).length) := by rw [bvs_length, hl]; exact Tryd.agg25
  have hL : (bvs h).length = 32 := by rw [bvs_length]; exact hl
  clear hl
  have hcn := cells_new (w.alloc (.cells (bvs h).toArray 25)) 25 h
  simp only [World.size_alloc] at hcn
  have HC := Lib.hid hcn
  clear hcn
  go_enter Tryd.func15, Tryd.ntmps15
  go_wp2_with (first | (refine wpList_loadAgg rfl 25 _ rfl _ 0 rfl (bvs h) HA1.out (cells_new _ _ _) ?_) | (go_at_call 42; refine (hc.out _ ?h1 ?h2).mono ?_; rotate_right; rintro e w1 ⟨v1, rfl, ho1, hb1⟩))
  case h1 => simpa using HC.out
  case h2 => simp
  go_ret
  exact ⟨v1, rfl, by simpa using ho1.more (by simp; omega), (((Below.refl _ _).alloc (Nat.le_refl _) _).alloc (by simp) _).trans (hb1.mono (by simp; omega))⟩
set_option maxHeartbeats 1000000 in
theorem CodeKey_calls (h : List UInt8) (hl : h.length = 32) (w : World) : Calls Tryd.prog 16 #[.agg (bvs h).toArray] w (Bytes w (99 :: h)) := by
  have hc := Lib.hid (fun w1 => hashed_calls 99 (w.heap.size + 1) 1 [h] w1 rfl (by omega) (by simpa using hl))
  have HA1 : Hid (AggT Tryd.prog 25 (bvs h).length) := by rw [bvs_length, hl]; exact Tryd.agg25
  have hL : (bvs h).length = 32 := by rw [bvs_length]; exact hl
  clear hl
  have hcn := cells_new (w.alloc (.cells (bvs h).toArray 25)) 25 h
  simp only [World.size_alloc] at hcn
  have HC := Lib.hid hcn
  clear hcn
  go_enter Tryd.func16, Tryd.ntmps16
  go_wp2_with (first | (refine wpList_loadAgg rfl 25 _ rfl _ 0 rfl (bvs h) HA1.out (cells_new _ _ _) ?_) | (go_at_call 42; refine (hc.out _ ?h1 ?h2).mono ?_; rotate_right; rintro e w1 ⟨v1, rfl, ho1, hb1⟩))
  case h1 => simpa using HC.out
  case h2 => simp
  go_ret
  exact ⟨v1, rfl, by simpa using ho1.more (by simp; omega), (((Below.refl _ _).alloc (Nat.le_refl _) _).alloc (by simp) _).trans (hb1.mono (by simp; omega))⟩
set_option maxHeartbeats 1000000 in
theorem AccountKey_calls (h : List UInt8) (hl : h.length = 32) (w : World) : Calls Tryd.prog 17 #[.agg (bvs h).toArray] w (Bytes w (97 :: h)) := by
  have hc := Lib.hid (fun w1 => hashed_calls 97 (w.heap.size + 1) 1 [h] w1 rfl (by omega) (by simpa using hl))
  have HA1 : Hid (AggT Tryd.prog 25 (bvs h).length) := by rw [bvs_length, hl]; exact Tryd.agg25
  have hL : (bvs h).length = 32 := by rw [bvs_length]; exact hl
  clear hl
  have hcn := cells_new (w.alloc (.cells (bvs h).toArray 25)) 25 h
  simp only [World.size_alloc] at hcn
  have HC := Lib.hid hcn
  clear hcn
  go_enter Tryd.func17, Tryd.ntmps17
  go_wp2_with (first | (refine wpList_loadAgg rfl 25 _ rfl _ 0 rfl (bvs h) HA1.out (cells_new _ _ _) ?_) | (go_at_call 42; refine (hc.out _ ?h1 ?h2).mono ?_; rotate_right; rintro e w1 ⟨v1, rfl, ho1, hb1⟩))
  case h1 => simpa using HC.out
  case h2 => simp
  go_ret
  exact ⟨v1, rfl, by simpa using ho1.more (by simp; omega), (((Below.refl _ _).alloc (Nat.le_refl _) _).alloc (by simp) _).trans (hb1.mono (by simp; omega))⟩
attribute [local go_sem] size_ovw
set_option maxHeartbeats 1000000 in
theorem SlotKey_calls (x y : List UInt8) (hl : x.length = 32) (kl : y.length = 32) (w : World) : Calls Tryd.prog 18 #[.agg (bvs x).toArray, .agg (bvs y).toArray] w (Bytes w (111 :: (x ++ y))) := by
  have hc := Lib.hid (fun w1 => hashed_calls 111 (w.heap.size + 2) 2 [x, y] w1 rfl (by omega) (by simpa using ⟨hl, kl⟩))
  have HA1 : Hid (AggT Tryd.prog 25 (bvs x).length) := by rw [bvs_length, hl]; exact Tryd.agg25
  have HA2 : Hid (AggT Tryd.prog 25 (bvs y).length) := by rw [bvs_length, kl]; exact Tryd.agg25
  have hL : (bvs x).length = 32 := by rw [bvs_length]; exact hl
  have kL : (bvs y).length = 32 := by rw [bvs_length]; exact kl
  clear hl kl
  have hc1 := cells_past (cells_new w 25 x) (by simp) (.cells (bvs y).toArray 25)
  have hc2 := cells_new (w.alloc (.cells (bvs x).toArray 25)) 25 y
  simp only [World.size_alloc] at hc2
  have HC1 := Lib.hid hc1
  have HC2 := Lib.hid hc2
  clear hc1 hc2
  go_enter Tryd.func18, Tryd.ntmps18
  go_wp2_with (first | (refine wpList_loadAgg rfl 25 (.tmp 2) rfl _ 0 rfl (bvs x) HA1.out HC1.out ?_) | (refine wpList_loadAgg rfl 25 (.tmp 3) rfl _ 0 rfl (bvs y) HA2.out HC2.out ?_) | (go_at_call 42; refine (hc.out _ ?h1 ?h2).mono ?_; rotate_right; rintro e w1 ⟨v1, rfl, ho1, hb1⟩))
  case h1 =>
    have e : bvs [x, y].flatten = bvs x ++ bvs y := by simp [bvs]
    rw [e]
    refine cellsAt_alloc_at _ _ _ _ 0 _ (by simp) (fun j u hu => ?_)
    rw [ovw_two _ 32 32 _ _ hL kL rfl]
    simpa using hu
  case h2 => simp
  go_ret
  exact ⟨v1, rfl, by simpa using ho1.more (by simp; omega), ((((Below.refl _ _).alloc (Nat.le_refl _) _).alloc (by simp) _).alloc (by simp; omega) _).trans (hb1.mono (by simp; omega))⟩
end Go.Proofs.YtfjfjjcdlgdbcaaDoor
