/- rawdb.Parse -/
import Derived.Test.YtfjfjjcdlgdbcaaDoorR11
namespace Go.Proofs.YtfjfjjcdlgdbcaaDoor
open Go.RowKit

attribute [local go_sem] run_storeRow roomAt_alloc_at roomAt_past_eq roomAt_drew_eq rk_size rk_size0 z32_length rk_zero setCells_alloc_at setCells_alloc_past setCells_drew rk_oneCell size_ovw ovw_all

/-- the first hash out of a longer row -/
theorem copy_first_l (w : World) (b : UInt8) (s f xs : List UInt8) (m : Nat) (nm : ByteArray) (A : Option Addr) (n c : Nat) (hn : 32 ≤ n) (hf : f.length = 32) (hs : s.length = 32) (h : RdB w A n c xs) :
    (Builtin.copy_ #[22, 22] 3 #[.slice (some ⟨w.heap.size, 1, none⟩) 32 32, .slice A n c]).run Tryd.prog (w.alloc (.cells (rk b f s m nm) 28)).drew = .ok (.int .i64 32) (w.alloc (.cells (rk b (xs.take 32) s m nm) 28)).drew := by
  have hx := h.1
  have hx2 : (xs.take 32).length = 32 := by simp; omega
  rw [run_copyB (P := Tryd.prog) (w.alloc (.cells (rk b f s m nm) 28)).drew 22 22 3 5 _ _ 32 32 A n c xs Tryd.underlying22 (by kernel_rfl) (h.alloc _) (roomAt_drew _ _ _ _ <| roomAt_alloc_at _ _ _ _ _ _ rfl (by rw [rk_size _ _ _ _ _ hf hs]; omega)),
    setCells_drew, setCells_alloc_at _ _ _ _ _ _ rfl (by rw [rk_size _ _ _ _ _ hf hs, bvs_length]; omega), rk_first _ _ _ _ _ _ hf hx2, show min n 32 = 32 by omega]
  rfl
theorem copy_empty (W : World) (g o m mc : Nat) (A : Option Addr) (c : Nat) : (Builtin.copy_ #[22, 22] 3 #[.slice (some ⟨g, o, none⟩) m mc, .slice A 0 c]).run Tryd.prog W = .ok (.int .i64 0) W := by
  rw [run_copy_none (P := Tryd.prog) W 22 22 3 5 _ _ _ _ _ _ Tryd.underlying22 (by kernel_rfl) (by simp)]
  rfl

theorem parse_empty (A : Option Addr) (c : Nat) (w : World) : Calls Tryd.prog 13 #[.slice A 0 c] w (Parsed w (rk 0 z32 z32 0 ⟨#[]⟩) 132) := by
  go_enter Tryd.func13, Tryd.ntmps13
  go_wp2
  exact bodyPost_ret (results_agg_tmp rfl _ _ w.heap.size (rk 0 z32 z32 0 ⟨#[]⟩) rfl Tryd.agg28 (cellsAt_blk (Blk.new w 28 _))) rfl ⟨rfl, (Below.refl _ _).alloc (Nat.le_refl _) _⟩

set_option maxRecDepth 100000 in
set_option maxHeartbeats 1000000 in
theorem parse_110 (A : Option Addr) (c : Nat) (rest : List UInt8) (w : World) (hc : 33 ≤ c) (hcm : c ≤ 9223372036854775807) (h : RdB w A 33 c (110 :: rest)) : Calls Tryd.prog 13 #[.slice A 33 c] w (Parsed w (rk 110 rest z32 0 ⟨#[]⟩) 0) := by
  have hl : rest.length = 32 := by simpa using h.1
  obtain ⟨ad, rfl, hcell⟩ := h.at_ (k := 0) (by omega)
  have hc0 : w.cell? ad = some (.int .u8 110) := hcell
  have hA := World.block_lt_of_cell? w ad hc0
  have hr := h.cut' 1 (by omega) (by omega)
  have hset : (rk 0 z32 z32 0 ⟨#[]⟩).setIfInBounds 0 (.int .u8 110) = rk 110 z32 z32 0 ⟨#[]⟩ := rk_set0 0 110 z32 z32 0 ⟨#[]⟩
  have hg0 : ∀ h, (rk 110 z32 z32 0 ⟨#[]⟩)[0]'h = .int .u8 110 := fun _ => rfl
  have hcp := copy_first_d (w.alloc (.cells (rk 0 z32 z32 0 ⟨#[]⟩) 28)) 110 z32 z32 rest 0 ⟨#[]⟩ (some ⟨ad.block, ad.off + 1, none⟩) 32 (c - 1) rfl rfl rfl (hr.alloc _)
  rw [World.size_alloc] at hcp
  have hce := fun A c => copy_empty ((w.alloc (.cells (rk 0 z32 z32 0 ⟨#[]⟩) 28)).alloc (.cells (rk 110 rest z32 0 ⟨#[]⟩) 28)).drew (w.heap.size + 1) 33 32 32 A c
  have hq1 : (32 : Int) ≤ ((c - 1 : Nat) : Int) := by omega
  have HS : Hid ((rk 110 rest z32 0 ⟨#[]⟩).size = 67) := rk_size _ _ _ _ _ hl rfl
  have HA := Lib.hid (new_rk2 w (rk 0 z32 z32 0 ⟨#[]⟩) (rk 110 rest z32 0 ⟨#[]⟩))
  have HT : Hid (AggT Tryd.prog 28 (rk 110 rest z32 0 ⟨#[]⟩).toList.length) := by rw [Array.length_toList, HS.out]; exact Tryd.agg28
  have hZ : (rk 110 rest z32 0 ⟨#[]⟩).size = 67 := HS.out
  clear h hcell hl hr
  by_cases hc33 : c - 1 = 32
  all_goals
    try rw [hc33] at hcp hq1
    go_enter Tryd.func13, Tryd.ntmps13
    go_wp2
    go_region
    all_goals go_wp2_with (first | (refine wpList_loadAgg rfl 28 _ rfl _ 0 rfl (rk 110 rest z32 0 ⟨#[]⟩).toList HT.out HA.out ?_))
    all_goals exact bodyPost_ret (results_agg_tmp rfl _ _ w.heap.size (rk 110 rest z32 0 ⟨#[]⟩) rfl (by simpa using HT.out) (cellsAt_blk ((Blk.new w 28 _).alloc (.cells (rk 110 rest z32 0 ⟨#[]⟩) 28)).drew)) rfl ⟨rfl, (below2 w _ _).drew⟩

set_option maxRecDepth 100000 in
set_option maxHeartbeats 1000000 in
theorem parse_99 (A : Option Addr) (c : Nat) (rest : List UInt8) (w : World) (hc : 33 ≤ c) (hcm : c ≤ 9223372036854775807) (h : RdB w A 33 c (99 :: rest)) : Calls Tryd.prog 13 #[.slice A 33 c] w (Parsed w (rk 99 rest z32 0 ⟨#[]⟩) 0) := by
  have hl : rest.length = 32 := by simpa using h.1
  obtain ⟨ad, rfl, hcell⟩ := h.at_ (k := 0) (by omega)
  have hc0 : w.cell? ad = some (.int .u8 99) := hcell
  have hA := World.block_lt_of_cell? w ad hc0
  have hr := h.cut' 1 (by omega) (by omega)
  have hset : (rk 0 z32 z32 0 ⟨#[]⟩).setIfInBounds 0 (.int .u8 99) = rk 99 z32 z32 0 ⟨#[]⟩ := rk_set0 0 99 z32 z32 0 ⟨#[]⟩
  have hg0 : ∀ h, (rk 99 z32 z32 0 ⟨#[]⟩)[0]'h = .int .u8 99 := fun _ => rfl
  have hcp := copy_first_d (w.alloc (.cells (rk 0 z32 z32 0 ⟨#[]⟩) 28)) 99 z32 z32 rest 0 ⟨#[]⟩ (some ⟨ad.block, ad.off + 1, none⟩) 32 (c - 1) rfl rfl rfl (hr.alloc _)
  rw [World.size_alloc] at hcp
  have hce := fun A c => copy_empty ((w.alloc (.cells (rk 0 z32 z32 0 ⟨#[]⟩) 28)).alloc (.cells (rk 99 rest z32 0 ⟨#[]⟩) 28)).drew (w.heap.size + 1) 33 32 32 A c
  have hq1 : (32 : Int) ≤ ((c - 1 : Nat) : Int) := by omega
  have HS : Hid ((rk 99 rest z32 0 ⟨#[]⟩).size = 67) := rk_size _ _ _ _ _ hl rfl
  have HA := Lib.hid (new_rk2 w (rk 0 z32 z32 0 ⟨#[]⟩) (rk 99 rest z32 0 ⟨#[]⟩))
  have HT : Hid (AggT Tryd.prog 28 (rk 99 rest z32 0 ⟨#[]⟩).toList.length) := by rw [Array.length_toList, HS.out]; exact Tryd.agg28
  have hZ : (rk 99 rest z32 0 ⟨#[]⟩).size = 67 := HS.out
  clear h hcell hl hr
  by_cases hc33 : c - 1 = 32
  all_goals
    try rw [hc33] at hcp hq1
    go_enter Tryd.func13, Tryd.ntmps13
    go_wp2
    go_region
    all_goals go_wp2_with (first | (refine wpList_loadAgg rfl 28 _ rfl _ 0 rfl (rk 99 rest z32 0 ⟨#[]⟩).toList HT.out HA.out ?_))
    all_goals exact bodyPost_ret (results_agg_tmp rfl _ _ w.heap.size (rk 99 rest z32 0 ⟨#[]⟩) rfl (by simpa using HT.out) (cellsAt_blk ((Blk.new w 28 _).alloc (.cells (rk 99 rest z32 0 ⟨#[]⟩) 28)).drew)) rfl ⟨rfl, (below2 w _ _).drew⟩

set_option maxRecDepth 100000 in
set_option maxHeartbeats 1000000 in
theorem parse_97 (A : Option Addr) (c : Nat) (rest : List UInt8) (w : World) (hc : 33 ≤ c) (hcm : c ≤ 9223372036854775807) (h : RdB w A 33 c (97 :: rest)) : Calls Tryd.prog 13 #[.slice A 33 c] w (Parsed w (rk 97 rest z32 0 ⟨#[]⟩) 0) := by
  have hl : rest.length = 32 := by simpa using h.1
  obtain ⟨ad, rfl, hcell⟩ := h.at_ (k := 0) (by omega)
  have hc0 : w.cell? ad = some (.int .u8 97) := hcell
  have hA := World.block_lt_of_cell? w ad hc0
  have hr := h.cut' 1 (by omega) (by omega)
  have hset : (rk 0 z32 z32 0 ⟨#[]⟩).setIfInBounds 0 (.int .u8 97) = rk 97 z32 z32 0 ⟨#[]⟩ := rk_set0 0 97 z32 z32 0 ⟨#[]⟩
  have hg0 : ∀ h, (rk 97 z32 z32 0 ⟨#[]⟩)[0]'h = .int .u8 97 := fun _ => rfl
  have hcp := copy_first_d (w.alloc (.cells (rk 0 z32 z32 0 ⟨#[]⟩) 28)) 97 z32 z32 rest 0 ⟨#[]⟩ (some ⟨ad.block, ad.off + 1, none⟩) 32 (c - 1) rfl rfl rfl (hr.alloc _)
  rw [World.size_alloc] at hcp
  have hce := fun A c => copy_empty ((w.alloc (.cells (rk 0 z32 z32 0 ⟨#[]⟩) 28)).alloc (.cells (rk 97 rest z32 0 ⟨#[]⟩) 28)).drew (w.heap.size + 1) 33 32 32 A c
  have hq1 : (32 : Int) ≤ ((c - 1 : Nat) : Int) := by omega
  have HS : Hid ((rk 97 rest z32 0 ⟨#[]⟩).size = 67) := rk_size _ _ _ _ _ hl rfl
  have HA := Lib.hid (new_rk2 w (rk 0 z32 z32 0 ⟨#[]⟩) (rk 97 rest z32 0 ⟨#[]⟩))
  have HT : Hid (AggT Tryd.prog 28 (rk 97 rest z32 0 ⟨#[]⟩).toList.length) := by rw [Array.length_toList, HS.out]; exact Tryd.agg28
  have hZ : (rk 97 rest z32 0 ⟨#[]⟩).size = 67 := HS.out
  clear h hcell hl hr
  by_cases hc33 : c - 1 = 32
  all_goals
    try rw [hc33] at hcp hq1
    go_enter Tryd.func13, Tryd.ntmps13
    go_wp2
    go_region
    all_goals go_wp2_with (first | (refine wpList_loadAgg rfl 28 _ rfl _ 0 rfl (rk 97 rest z32 0 ⟨#[]⟩).toList HT.out HA.out ?_))
    all_goals exact bodyPost_ret (results_agg_tmp rfl _ _ w.heap.size (rk 97 rest z32 0 ⟨#[]⟩) rfl (by simpa using HT.out) (cellsAt_blk ((Blk.new w 28 _).alloc (.cells (rk 97 rest z32 0 ⟨#[]⟩) 28)).drew)) rfl ⟨rfl, (below2 w _ _).drew⟩

set_option maxRecDepth 100000 in
set_option maxHeartbeats 1000000 in
theorem parse_bad_110 (A : Option Addr) (n c : Nat) (rest : List UInt8) (w : World) (hn : 1 ≤ n) (hn2 : n ≠ 33) (hnc : n ≤ c) (hcm : c ≤ 9223372036854775807) (h : RdB w A n c (110 :: rest)) : Calls Tryd.prog 13 #[.slice A n c] w (Parsed w (rk 0 z32 z32 0 ⟨#[]⟩) 132) := by
  obtain ⟨ad, rfl, hcell⟩ := h.at_ (k := 0) (by omega)
  have hc0 : w.cell? ad = some (.int .u8 110) := hcell
  have hA := World.block_lt_of_cell? w ad hc0
  have hset : (rk 0 z32 z32 0 ⟨#[]⟩).setIfInBounds 0 (.int .u8 110) = rk 110 z32 z32 0 ⟨#[]⟩ := rk_set0 0 110 z32 z32 0 ⟨#[]⟩
  have hg0 : ∀ h, (rk 110 z32 z32 0 ⟨#[]⟩)[0]'h = .int .u8 110 := fun _ => rfl
  have hq : (((n - 1 : Nat) : Int) != 32) = true := by rw [bne_iff_ne]; omega
  clear h hcell
  go_enter Tryd.func13, Tryd.ntmps13
  go_wp2
  all_goals exact bodyPost_ret (results_agg_tmp rfl _ _ w.heap.size (rk 0 z32 z32 0 ⟨#[]⟩) rfl Tryd.agg28 (cellsAt_blk ((Blk.new w 28 _).alloc _))) rfl ⟨rfl, below2 w _ _⟩

set_option maxRecDepth 100000 in
set_option maxHeartbeats 1000000 in
theorem parse_bad_99 (A : Option Addr) (n c : Nat) (rest : List UInt8) (w : World) (hn : 1 ≤ n) (hn2 : n ≠ 33) (hnc : n ≤ c) (hcm : c ≤ 9223372036854775807) (h : RdB w A n c (99 :: rest)) : Calls Tryd.prog 13 #[.slice A n c] w (Parsed w (rk 0 z32 z32 0 ⟨#[]⟩) 132) := by
  obtain ⟨ad, rfl, hcell⟩ := h.at_ (k := 0) (by omega)
  have hc0 : w.cell? ad = some (.int .u8 99) := hcell
  have hA := World.block_lt_of_cell? w ad hc0
  have hset : (rk 0 z32 z32 0 ⟨#[]⟩).setIfInBounds 0 (.int .u8 99) = rk 99 z32 z32 0 ⟨#[]⟩ := rk_set0 0 99 z32 z32 0 ⟨#[]⟩
  have hg0 : ∀ h, (rk 99 z32 z32 0 ⟨#[]⟩)[0]'h = .int .u8 99 := fun _ => rfl
  have hq : (((n - 1 : Nat) : Int) != 32) = true := by rw [bne_iff_ne]; omega
  clear h hcell
  go_enter Tryd.func13, Tryd.ntmps13
  go_wp2
  all_goals exact bodyPost_ret (results_agg_tmp rfl _ _ w.heap.size (rk 0 z32 z32 0 ⟨#[]⟩) rfl Tryd.agg28 (cellsAt_blk ((Blk.new w 28 _).alloc _))) rfl ⟨rfl, below2 w _ _⟩

set_option maxRecDepth 100000 in
set_option maxHeartbeats 1000000 in
theorem parse_bad_97 (A : Option Addr) (n c : Nat) (rest : List UInt8) (w : World) (hn : 1 ≤ n) (hn2 : n ≠ 33) (hnc : n ≤ c) (hcm : c ≤ 9223372036854775807) (h : RdB w A n c (97 :: rest)) : Calls Tryd.prog 13 #[.slice A n c] w (Parsed w (rk 0 z32 z32 0 ⟨#[]⟩) 132) := by
  obtain ⟨ad, rfl, hcell⟩ := h.at_ (k := 0) (by omega)
  have hc0 : w.cell? ad = some (.int .u8 97) := hcell
  have hA := World.block_lt_of_cell? w ad hc0
  have hset : (rk 0 z32 z32 0 ⟨#[]⟩).setIfInBounds 0 (.int .u8 97) = rk 97 z32 z32 0 ⟨#[]⟩ := rk_set0 0 97 z32 z32 0 ⟨#[]⟩
  have hg0 : ∀ h, (rk 97 z32 z32 0 ⟨#[]⟩)[0]'h = .int .u8 97 := fun _ => rfl
  have hq : (((n - 1 : Nat) : Int) != 32) = true := by rw [bne_iff_ne]; omega
  clear h hcell
  go_enter Tryd.func13, Tryd.ntmps13
  go_wp2
  all_goals exact bodyPost_ret (results_agg_tmp rfl _ _ w.heap.size (rk 0 z32 z32 0 ⟨#[]⟩) rfl Tryd.agg28 (cellsAt_blk ((Blk.new w 28 _).alloc _))) rfl ⟨rfl, below2 w _ _⟩

set_option maxRecDepth 100000 in
set_option maxHeartbeats 1000000 in
theorem parse_bad_111 (A : Option Addr) (n c : Nat) (rest : List UInt8) (w : World) (hn : 1 ≤ n) (hn2 : n ≠ 65) (hnc : n ≤ c) (hcm : c ≤ 9223372036854775807) (h : RdB w A n c (111 :: rest)) : Calls Tryd.prog 13 #[.slice A n c] w (Parsed w (rk 0 z32 z32 0 ⟨#[]⟩) 132) := by
  obtain ⟨ad, rfl, hcell⟩ := h.at_ (k := 0) (by omega)
  have hc0 : w.cell? ad = some (.int .u8 111) := hcell
  have hA := World.block_lt_of_cell? w ad hc0
  have hset : (rk 0 z32 z32 0 ⟨#[]⟩).setIfInBounds 0 (.int .u8 111) = rk 111 z32 z32 0 ⟨#[]⟩ := rk_set0 0 111 z32 z32 0 ⟨#[]⟩
  have hg0 : ∀ h, (rk 111 z32 z32 0 ⟨#[]⟩)[0]'h = .int .u8 111 := fun _ => rfl
  have hq : (((n - 1 : Nat) : Int) != 64) = true := by rw [bne_iff_ne]; omega
  clear h hcell
  go_enter Tryd.func13, Tryd.ntmps13
  go_wp2
  all_goals exact bodyPost_ret (results_agg_tmp rfl _ _ w.heap.size (rk 0 z32 z32 0 ⟨#[]⟩) rfl Tryd.agg28 (cellsAt_blk ((Blk.new w 28 _).alloc _))) rfl ⟨rfl, below2 w _ _⟩

set_option maxRecDepth 100000 in
set_option maxHeartbeats 1000000 in
theorem parse_bad_114 (A : Option Addr) (n c : Nat) (rest : List UInt8) (w : World) (hn : 1 ≤ n) (hn2 : n ≠ 9) (hnc : n ≤ c) (hcm : c ≤ 9223372036854775807) (h : RdB w A n c (114 :: rest)) : Calls Tryd.prog 13 #[.slice A n c] w (Parsed w (rk 0 z32 z32 0 ⟨#[]⟩) 132) := by
  obtain ⟨ad, rfl, hcell⟩ := h.at_ (k := 0) (by omega)
  have hc0 : w.cell? ad = some (.int .u8 114) := hcell
  have hA := World.block_lt_of_cell? w ad hc0
  have hset : (rk 0 z32 z32 0 ⟨#[]⟩).setIfInBounds 0 (.int .u8 114) = rk 114 z32 z32 0 ⟨#[]⟩ := rk_set0 0 114 z32 z32 0 ⟨#[]⟩
  have hg0 : ∀ h, (rk 114 z32 z32 0 ⟨#[]⟩)[0]'h = .int .u8 114 := fun _ => rfl
  have hq : (((n - 1 : Nat) : Int) != 8) = true := by rw [bne_iff_ne]; omega
  clear h hcell
  go_enter Tryd.func13, Tryd.ntmps13
  go_wp2
  all_goals exact bodyPost_ret (results_agg_tmp rfl _ _ w.heap.size (rk 0 z32 z32 0 ⟨#[]⟩) rfl Tryd.agg28 (cellsAt_blk ((Blk.new w 28 _).alloc _))) rfl ⟨rfl, below2 w _ _⟩

set_option maxRecDepth 100000 in
set_option maxHeartbeats 1000000 in
theorem parse_bad_98 (A : Option Addr) (n c : Nat) (rest : List UInt8) (w : World) (hn : 1 ≤ n) (hn2 : n ≠ 9) (hnc : n ≤ c) (hcm : c ≤ 9223372036854775807) (h : RdB w A n c (98 :: rest)) : Calls Tryd.prog 13 #[.slice A n c] w (Parsed w (rk 0 z32 z32 0 ⟨#[]⟩) 132) := by
  obtain ⟨ad, rfl, hcell⟩ := h.at_ (k := 0) (by omega)
  have hc0 : w.cell? ad = some (.int .u8 98) := hcell
  have hA := World.block_lt_of_cell? w ad hc0
  have hset : (rk 0 z32 z32 0 ⟨#[]⟩).setIfInBounds 0 (.int .u8 98) = rk 98 z32 z32 0 ⟨#[]⟩ := rk_set0 0 98 z32 z32 0 ⟨#[]⟩
  have hg0 : ∀ h, (rk 98 z32 z32 0 ⟨#[]⟩)[0]'h = .int .u8 98 := fun _ => rfl
  have hq : (((n - 1 : Nat) : Int) != 8) = true := by rw [bne_iff_ne]; omega
  clear h hcell
  go_enter Tryd.func13, Tryd.ntmps13
  go_wp2
  all_goals exact bodyPost_ret (results_agg_tmp rfl _ _ w.heap.size (rk 0 z32 z32 0 ⟨#[]⟩) rfl Tryd.agg28 (cellsAt_blk ((Blk.new w 28 _).alloc _))) rfl ⟨rfl, below2 w _ _⟩

set_option maxRecDepth 100000 in
set_option maxHeartbeats 1000000 in
theorem parse_other (A : Option Addr) (n c : Nat) (b : UInt8) (rest : List UInt8) (w : World) (hb : b ≠ 110 ∧ b ≠ 99 ∧ b ≠ 97 ∧ b ≠ 111 ∧ b ≠ 114 ∧ b ≠ 98 ∧ b ≠ 109) (hn : 1 ≤ n) (hnc : n ≤ c) (hcm : c ≤ 9223372036854775807) (h : RdB w A n c (b :: rest)) : Calls Tryd.prog 13 #[.slice A n c] w (Parsed w (rk 0 z32 z32 0 ⟨#[]⟩) 132) := by
  obtain ⟨ad, rfl, hcell⟩ := h.at_ (k := 0) (by omega)
  have hc0 : w.cell? ad = some (.int .u8 (b.toNat : Int)) := hcell
  have hA := World.block_lt_of_cell? w ad hc0
  have hset : (rk 0 z32 z32 0 ⟨#[]⟩).setIfInBounds 0 (.int .u8 (b.toNat : Int)) = rk b z32 z32 0 ⟨#[]⟩ := rk_set0 0 b z32 z32 0 ⟨#[]⟩
  have hg0 : ∀ h, (rk b z32 z32 0 ⟨#[]⟩)[0]'h = .int .u8 (b.toNat : Int) := fun _ => rfl
  have ne : ∀ x : UInt8, b ≠ x → ((b.toNat : Int) == (x.toNat : Int)) = false := fun x hx => by
    rw [beq_eq_false_iff_ne]
    intro e
    exact hx (UInt8.toNat_inj.1 (by omega))
  have q1 : ((b.toNat : Int) == 110) = false := ne 110 hb.1
  have q2 : ((b.toNat : Int) == 99) = false := ne 99 hb.2.1
  have q3 : ((b.toNat : Int) == 97) = false := ne 97 hb.2.2.1
  have q4 : ((b.toNat : Int) == 111) = false := ne 111 hb.2.2.2.1
  have q5 : ((b.toNat : Int) == 114) = false := ne 114 hb.2.2.2.2.1
  have q6 : ((b.toNat : Int) == 98) = false := ne 98 hb.2.2.2.2.2.1
  have q7 : ((b.toNat : Int) == 109) = false := ne 109 hb.2.2.2.2.2.2
  clear h hcell ne hb
  go_enter Tryd.func13, Tryd.ntmps13
  go_wp2
  all_goals exact bodyPost_ret (results_agg_tmp rfl _ _ w.heap.size (rk 0 z32 z32 0 ⟨#[]⟩) rfl Tryd.agg28 (cellsAt_blk ((Blk.new w 28 _).alloc _))) rfl ⟨rfl, below2 w _ _⟩

set_option maxRecDepth 100000 in
set_option maxHeartbeats 1000000 in
theorem parse_111 (A : Option Addr) (c : Nat) (rest : List UInt8) (w : World) (hc : 65 ≤ c) (hcm : c ≤ 9223372036854775807) (h : RdB w A 65 c (111 :: rest)) : Calls Tryd.prog 13 #[.slice A 65 c] w (Parsed w (rk 111 (rest.take 32) (rest.drop 32) 0 ⟨#[]⟩) 0) := by
  have hl : rest.length = 64 := by simpa using h.1
  obtain ⟨ad, rfl, hcell⟩ := h.at_ (k := 0) (by omega)
  have hc0 : w.cell? ad = some (.int .u8 111) := hcell
  have hA := World.block_lt_of_cell? w ad hc0
  have hr : RdB w (some ⟨ad.block, ad.off + 1, none⟩) 64 (c - 1) rest := h.cut' 1 (by omega) (by omega)
  have hr2 : RdB w (some ⟨ad.block, ad.off + 1 + 32, none⟩) 32 (c - 1 - 32) (rest.drop 32) := by
    have := hr.cut' 32 (by omega) (by omega)
    rw [show (⟨ad.block, ad.off + 1, none⟩ : Addr).add 32 = ⟨ad.block, ad.off + 1 + 32, none⟩ by unfold Addr.add; simp] at this
    exact this
  have hq1 : (32 : Int) ≤ ((c - 1 : Nat) : Int) := by omega
  have hset : (rk 0 z32 z32 0 ⟨#[]⟩).setIfInBounds 0 (.int .u8 111) = rk 111 z32 z32 0 ⟨#[]⟩ := rk_set0 0 111 z32 z32 0 ⟨#[]⟩
  have hg0 : ∀ h, (rk 111 z32 z32 0 ⟨#[]⟩)[0]'h = .int .u8 111 := fun _ => rfl
  have h1 : (rest.take 32).length = 32 := by simp; omega
  have h2 : (rest.drop 32).length = 32 := by simp; omega
  have hcp := copy_first_l (w.alloc (.cells (rk 0 z32 z32 0 ⟨#[]⟩) 28)) 111 z32 z32 rest 0 ⟨#[]⟩ (some ⟨ad.block, ad.off + 1, none⟩) 64 (c - 1) (by omega) rfl rfl (hr.alloc _)
  generalize rest.take 32 = xs at *
  generalize rest.drop 32 = ys at *
  have hcq := copy_second_d (w.alloc (.cells (rk 0 z32 z32 0 ⟨#[]⟩) 28)) 111 z32 xs ys 0 ⟨#[]⟩ (some ⟨ad.block, ad.off + 1 + 32, none⟩) 32 (c - 1 - 32) rfl h1 rfl (hr2.alloc _)
  rw [World.size_alloc] at hcp hcq
  have HS : Hid ((rk 111 xs ys 0 ⟨#[]⟩).size = 67) := rk_size _ _ _ _ _ h1 h2
  have HA := Lib.hid (new_rk2 w (rk 0 z32 z32 0 ⟨#[]⟩) (rk 111 xs ys 0 ⟨#[]⟩))
  have HT : Hid (AggT Tryd.prog 28 (rk 111 xs ys 0 ⟨#[]⟩).toList.length) := by rw [Array.length_toList, HS.out]; exact Tryd.agg28
  have hZ : (rk 111 xs ys 0 ⟨#[]⟩).size = 67 := HS.out
  clear h hcell hl hr hr2
  go_enter Tryd.func13, Tryd.ntmps13
  go_wp2
  go_region
  all_goals go_wp2_with (first | (refine wpList_loadAgg rfl 28 _ rfl _ 0 rfl (rk 111 xs ys 0 ⟨#[]⟩).toList HT.out HA.out ?_))
  all_goals exact bodyPost_ret (results_agg_tmp rfl _ _ w.heap.size (rk 111 xs ys 0 ⟨#[]⟩) rfl (by simpa using HT.out) (cellsAt_blk ((Blk.new w 28 _).alloc (.cells (rk 111 xs ys 0 ⟨#[]⟩) 28)).drew)) rfl ⟨rfl, (below2 w _ _).drew⟩

set_option maxRecDepth 100000 in
set_option maxHeartbeats 2000000 in
theorem parse_114 (A : Option Addr) (c : Nat) (rest : List UInt8) (w : World) (hc : 9 ≤ c) (h : RdB w A 9 c (114 :: rest)) : Calls Tryd.prog 13 #[.slice A 9 c] w (Parsed w (rk 114 z32 z32 (unbig rest) ⟨#[]⟩) 0) := by
  obtain ⟨ad, rfl, hcell⟩ := h.at_ (k := 0) (by omega)
  have hc0 : w.cell? ad = some (.int .u8 114) := hcell
  have hA := World.block_lt_of_cell? w ad hc0
  have hr : RdB w (some ⟨ad.block, ad.off + 1, none⟩) 8 (c - 1) rest := h.cut' 1 (by omega) (by omega)
  have hu := Lib.hid (Unbig_calls _ 8 (c - 1) rest _ ((hr.alloc (.cells (rk 0 z32 z32 0 ⟨#[]⟩) 28)).alloc (.cells (rk 114 z32 z32 0 ⟨#[]⟩) 28)))
  have hset : (rk 0 z32 z32 0 ⟨#[]⟩).setIfInBounds 0 (.int .u8 114) = rk 114 z32 z32 0 ⟨#[]⟩ := rk_set0 0 114 z32 z32 0 ⟨#[]⟩
  have hg0 : ∀ h, (rk 114 z32 z32 0 ⟨#[]⟩)[0]'h = .int .u8 114 := fun _ => rfl
  generalize unbig rest = u at *
  have hset3 : (rk 114 z32 z32 0 ⟨#[]⟩).setIfInBounds 65 (.int .u64 (u : Int)) = rk 114 z32 z32 u ⟨#[]⟩ := rk_set3 _ _ _ _ _ _ rfl rfl
  have HA := Lib.hid (new_rk2 w (rk 0 z32 z32 0 ⟨#[]⟩) (rk 114 z32 z32 u ⟨#[]⟩))
  have HT : Hid (AggT Tryd.prog 28 (rk 114 z32 z32 u ⟨#[]⟩).toList.length) := by rw [Array.length_toList, rk_size0]; exact Tryd.agg28
  clear h hcell hr
  go_enter Tryd.func13, Tryd.ntmps13
  go_wp2_with (first | (go_at_call 41; refine hu.out.mono ?_; rintro e w1 ⟨rfl, rfl⟩) | (refine wpList_loadAgg rfl 28 _ rfl _ 0 rfl (rk 114 z32 z32 u ⟨#[]⟩).toList HT.out HA.out ?_))
  exact bodyPost_ret (results_agg_tmp rfl _ _ w.heap.size (rk 114 z32 z32 u ⟨#[]⟩) rfl (by simpa using HT.out) (cellsAt_blk ((Blk.new w 28 _).alloc _))) rfl ⟨rfl, below2 w _ _⟩

set_option maxRecDepth 100000 in
set_option maxHeartbeats 2000000 in
theorem parse_98 (A : Option Addr) (c : Nat) (rest : List UInt8) (w : World) (hc : 9 ≤ c) (h : RdB w A 9 c (98 :: rest)) : Calls Tryd.prog 13 #[.slice A 9 c] w (Parsed w (rk 98 z32 z32 (unbig rest) ⟨#[]⟩) 0) := by
  obtain ⟨ad, rfl, hcell⟩ := h.at_ (k := 0) (by omega)
  have hc0 : w.cell? ad = some (.int .u8 98) := hcell
  have hA := World.block_lt_of_cell? w ad hc0
  have hr : RdB w (some ⟨ad.block, ad.off + 1, none⟩) 8 (c - 1) rest := h.cut' 1 (by omega) (by omega)
  have hu := Lib.hid (Unbig_calls _ 8 (c - 1) rest _ ((hr.alloc (.cells (rk 0 z32 z32 0 ⟨#[]⟩) 28)).alloc (.cells (rk 98 z32 z32 0 ⟨#[]⟩) 28)))
  have hset : (rk 0 z32 z32 0 ⟨#[]⟩).setIfInBounds 0 (.int .u8 98) = rk 98 z32 z32 0 ⟨#[]⟩ := rk_set0 0 98 z32 z32 0 ⟨#[]⟩
  have hg0 : ∀ h, (rk 98 z32 z32 0 ⟨#[]⟩)[0]'h = .int .u8 98 := fun _ => rfl
  generalize unbig rest = u at *
  have hset3 : (rk 98 z32 z32 0 ⟨#[]⟩).setIfInBounds 65 (.int .u64 (u : Int)) = rk 98 z32 z32 u ⟨#[]⟩ := rk_set3 _ _ _ _ _ _ rfl rfl
  have HA := Lib.hid (new_rk2 w (rk 0 z32 z32 0 ⟨#[]⟩) (rk 98 z32 z32 u ⟨#[]⟩))
  have HT : Hid (AggT Tryd.prog 28 (rk 98 z32 z32 u ⟨#[]⟩).toList.length) := by rw [Array.length_toList, rk_size0]; exact Tryd.agg28
  clear h hcell hr
  go_enter Tryd.func13, Tryd.ntmps13
  go_wp2_with (first | (go_at_call 41; refine hu.out.mono ?_; rintro e w1 ⟨rfl, rfl⟩) | (refine wpList_loadAgg rfl 28 _ rfl _ 0 rfl (rk 98 z32 z32 u ⟨#[]⟩).toList HT.out HA.out ?_))
  exact bodyPost_ret (results_agg_tmp rfl _ _ w.heap.size (rk 98 z32 z32 u ⟨#[]⟩) rfl (by simpa using HT.out) (cellsAt_blk ((Blk.new w 28 _).alloc _))) rfl ⟨rfl, below2 w _ _⟩
end Go.Proofs.YtfjfjjcdlgdbcaaDoor
