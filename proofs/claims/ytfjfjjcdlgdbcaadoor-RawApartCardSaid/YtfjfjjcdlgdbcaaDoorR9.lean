/- moraineref13.Parse -/
import Derived.Test.YtfjfjjcdlgdbcaaDoorR8
namespace Go.Proofs.YtfjfjjcdlgdbcaaDoor
open Go.RowKit

/-- what the bytes are as a key: the cells of a RawKey, and the number of an error -/
def PK : List UInt8 → Array Value × Nat
  | [] => (rk 0 z32 z32 0 ⟨#[]⟩, 132)
  | b :: rest =>
    if b = 110 ∨ b = 99 ∨ b = 97 then if rest.length = 32 then (rk b rest z32 0 ⟨#[]⟩, 0) else (rk 0 z32 z32 0 ⟨#[]⟩, 132)
    else if b = 111 then if rest.length = 64 then (rk b (rest.take 32) (rest.drop 32) 0 ⟨#[]⟩, 0) else (rk 0 z32 z32 0 ⟨#[]⟩, 132)
    else if b = 114 ∨ b = 98 then if rest.length = 8 then (rk b z32 z32 (unbig rest) ⟨#[]⟩, 0) else (rk 0 z32 z32 0 ⟨#[]⟩, 132)
    else if b = 109 then if nameOk rest = true then (rk b z32 z32 0 ⟨rest.toArray⟩, 0) else (rk 0 z32 z32 0 ⟨#[]⟩, 132)
    else (rk 0 z32 z32 0 ⟨#[]⟩, 132)
/-- how a reader of keys ends -/
def Parsed (w : World) (c : Array Value) (n : Nat) (e : Ending) (w' : World) : Prop :=
  e = .returned (.tuple #[.agg c, .int .i64 (n : Int)]) ∧ Below w.heap.size w w'

attribute [local go_sem] run_storeRow roomAt_alloc_at roomAt_past_eq roomAt_drew_eq rk_size rk_size0 z32_length rk_zero setCells_alloc_at setCells_alloc_past setCells_drew rk_oneCell size_ovw ovw_all

theorem copy_first (w : World) (b : UInt8) (s f xs : List UInt8) (m : Nat) (nm : ByteArray) (A : Option Addr) (n c : Nat) (hn : n = 32) (hf : f.length = 32) (hs : s.length = 32) (h : RdB w A n c xs) :
    (Builtin.copy_ #[22, 22] 3 #[.slice (some ⟨w.heap.size, 1, none⟩) 32 32, .slice A n c]).run Tryd.prog (w.alloc (.cells (rk b f s m nm) 28)) = .ok (.int .i64 32) (w.alloc (.cells (rk b xs s m nm) 28)) := by
  subst hn
  have hx := h.1
  rw [run_copyB (P := Tryd.prog) _ 22 22 3 5 _ _ 32 32 A 32 c xs Tryd.underlying22 (by kernel_rfl) (h.alloc _) (roomAt_alloc_at _ _ _ _ _ _ rfl (by rw [rk_size _ _ _ _ _ hf hs]; decide)),
    List.take_of_length_le (by omega), setCells_alloc_at _ _ _ _ _ _ rfl (by rw [rk_size _ _ _ _ _ hf hs, bvs_length]; omega), rk_first _ _ _ _ _ _ hf hx]
  rfl
theorem copy_second (w : World) (b : UInt8) (s f xs : List UInt8) (m : Nat) (nm : ByteArray) (A : Option Addr) (n c : Nat) (hn : n = 32) (hf : f.length = 32) (hs : s.length = 32) (h : RdB w A n c xs) :
    (Builtin.copy_ #[22, 22] 3 #[.slice (some ⟨w.heap.size, 33, none⟩) 32 32, .slice A n c]).run Tryd.prog (w.alloc (.cells (rk b f s m nm) 28)) = .ok (.int .i64 32) (w.alloc (.cells (rk b f xs m nm) 28)) := by
  subst hn
  have hx := h.1
  rw [run_copyB (P := Tryd.prog) _ 22 22 3 5 _ _ 32 32 A 32 c xs Tryd.underlying22 (by kernel_rfl) (h.alloc _) (roomAt_alloc_at _ _ _ _ _ _ rfl (by rw [rk_size _ _ _ _ _ hf hs]; decide)),
    List.take_of_length_le (by omega), setCells_alloc_at _ _ _ _ _ _ rfl (by rw [rk_size _ _ _ _ _ hf hs, bvs_length]; omega), rk_second _ _ _ _ _ _ hf hs hx]
  rfl
theorem copy_first_d (w : World) (b : UInt8) (s f xs : List UInt8) (m : Nat) (nm : ByteArray) (A : Option Addr) (n c : Nat) (hn : n = 32) (hf : f.length = 32) (hs : s.length = 32) (h : RdB w A n c xs) :
    (Builtin.copy_ #[22, 22] 3 #[.slice (some ⟨w.heap.size, 1, none⟩) 32 32, .slice A n c]).run Tryd.prog (w.alloc (.cells (rk b f s m nm) 28)).drew = .ok (.int .i64 32) (w.alloc (.cells (rk b xs s m nm) 28)).drew := by
  subst hn
  have hx := h.1
  rw [run_copyB (P := Tryd.prog) (w.alloc (.cells (rk b f s m nm) 28)).drew 22 22 3 5 _ _ 32 32 A 32 c xs Tryd.underlying22 (by kernel_rfl) (h.alloc _) (roomAt_drew _ _ _ _ <| roomAt_alloc_at _ _ _ _ _ _ rfl (by rw [rk_size _ _ _ _ _ hf hs]; decide)),
    List.take_of_length_le (by omega), setCells_drew, setCells_alloc_at _ _ _ _ _ _ rfl (by rw [rk_size _ _ _ _ _ hf hs, bvs_length]; omega), rk_first _ _ _ _ _ _ hf hx]
  rfl
theorem copy_first_dd (w : World) (b : UInt8) (s f xs : List UInt8) (m : Nat) (nm : ByteArray) (A : Option Addr) (n c : Nat) (hn : n = 32) (hf : f.length = 32) (hs : s.length = 32) (h : RdB w A n c xs) :
    (Builtin.copy_ #[22, 22] 3 #[.slice (some ⟨w.heap.size, 1, none⟩) 32 32, .slice A n c]).run Tryd.prog (w.alloc (.cells (rk b f s m nm) 28)).drew.drew = .ok (.int .i64 32) (w.alloc (.cells (rk b xs s m nm) 28)).drew.drew := by
  subst hn
  have hx := h.1
  rw [run_copyB (P := Tryd.prog) (w.alloc (.cells (rk b f s m nm) 28)).drew.drew 22 22 3 5 _ _ 32 32 A 32 c xs Tryd.underlying22 (by kernel_rfl) (h.alloc _) (roomAt_drew _ _ _ _ <| roomAt_drew _ _ _ _ <| roomAt_alloc_at _ _ _ _ _ _ rfl (by rw [rk_size _ _ _ _ _ hf hs]; decide)),
    List.take_of_length_le (by omega), setCells_drew, setCells_drew, setCells_alloc_at _ _ _ _ _ _ rfl (by rw [rk_size _ _ _ _ _ hf hs, bvs_length]; omega), rk_first _ _ _ _ _ _ hf hx]
  rfl
theorem copy_second_d (w : World) (b : UInt8) (s f xs : List UInt8) (m : Nat) (nm : ByteArray) (A : Option Addr) (n c : Nat) (hn : n = 32) (hf : f.length = 32) (hs : s.length = 32) (h : RdB w A n c xs) :
    (Builtin.copy_ #[22, 22] 3 #[.slice (some ⟨w.heap.size, 33, none⟩) 32 32, .slice A n c]).run Tryd.prog (w.alloc (.cells (rk b f s m nm) 28)).drew = .ok (.int .i64 32) (w.alloc (.cells (rk b f xs m nm) 28)).drew := by
  subst hn
  have hx := h.1
  rw [run_copyB (P := Tryd.prog) (w.alloc (.cells (rk b f s m nm) 28)).drew 22 22 3 5 _ _ 32 32 A 32 c xs Tryd.underlying22 (by kernel_rfl) (h.alloc _) (roomAt_drew _ _ _ _ <| roomAt_alloc_at _ _ _ _ _ _ rfl (by rw [rk_size _ _ _ _ _ hf hs]; decide)),
    List.take_of_length_le (by omega), setCells_drew, setCells_alloc_at _ _ _ _ _ _ rfl (by rw [rk_size _ _ _ _ _ hf hs, bvs_length]; omega), rk_second _ _ _ _ _ _ hf hs hx]
  rfl
theorem copy_second_dd (w : World) (b : UInt8) (s f xs : List UInt8) (m : Nat) (nm : ByteArray) (A : Option Addr) (n c : Nat) (hn : n = 32) (hf : f.length = 32) (hs : s.length = 32) (h : RdB w A n c xs) :
    (Builtin.copy_ #[22, 22] 3 #[.slice (some ⟨w.heap.size, 33, none⟩) 32 32, .slice A n c]).run Tryd.prog (w.alloc (.cells (rk b f s m nm) 28)).drew.drew = .ok (.int .i64 32) (w.alloc (.cells (rk b f xs m nm) 28)).drew.drew := by
  subst hn
  have hx := h.1
  rw [run_copyB (P := Tryd.prog) (w.alloc (.cells (rk b f s m nm) 28)).drew.drew 22 22 3 5 _ _ 32 32 A 32 c xs Tryd.underlying22 (by kernel_rfl) (h.alloc _) (roomAt_drew _ _ _ _ <| roomAt_drew _ _ _ _ <| roomAt_alloc_at _ _ _ _ _ _ rfl (by rw [rk_size _ _ _ _ _ hf hs]; decide)),
    List.take_of_length_le (by omega), setCells_drew, setCells_drew, setCells_alloc_at _ _ _ _ _ _ rfl (by rw [rk_size _ _ _ _ _ hf hs, bvs_length]; omega), rk_second _ _ _ _ _ _ hf hs hx]
  rfl
theorem new_rk2 (w : World) (a b : Array Value) : CellsAt ((w.alloc (.cells a 28)).alloc (.cells b 28)) (w.heap.size + 1) 0 b.toList := by
  have := cellsAt_blk (Blk.new (w.alloc (.cells a 28)) 28 b)
  rwa [World.size_alloc] at this
theorem below2 (w : World) (a b : Obj) : Below w.heap.size w ((w.alloc a).alloc b) := ((Below.refl _ _).alloc (Nat.le_refl _) _).alloc (by simp) _

theorem ref_empty (A : Option Addr) (c : Nat) (w : World) : Calls Tryd.prog 14 #[.slice A 0 c] w (Parsed w (rk 0 z32 z32 0 ⟨#[]⟩) 132) := by
  go_enter Tryd.func14, Tryd.ntmps14
  go_wp2
  exact bodyPost_ret (results_agg_tmp rfl _ _ w.heap.size (rk 0 z32 z32 0 ⟨#[]⟩) rfl Tryd.agg28 (cellsAt_blk (Blk.new w 28 _))) rfl ⟨rfl, (Below.refl _ _).alloc (Nat.le_refl _) _⟩

set_option maxRecDepth 100000 in
set_option maxHeartbeats 1000000 in
theorem ref_110 (A : Option Addr) (c : Nat) (rest : List UInt8) (w : World) (hc : 33 ≤ c) (h : RdB w A 33 c (110 :: rest)) : Calls Tryd.prog 14 #[.slice A 33 c] w (Parsed w (rk 110 rest z32 0 ⟨#[]⟩) 0) := by
  have hl : rest.length = 32 := by simpa using h.1
  obtain ⟨ad, rfl, hcell⟩ := h.at_ (k := 0) (by omega)
  have hc0 : w.cell? ad = some (.int .u8 110) := hcell
  have hA := World.block_lt_of_cell? w ad hc0
  have hr := h.cut' 1 (by omega) (by omega)
  have hset : (rk 0 z32 z32 0 ⟨#[]⟩).setIfInBounds 0 (.int .u8 110) = rk 110 z32 z32 0 ⟨#[]⟩ := rk_set0 0 110 z32 z32 0 ⟨#[]⟩
  have hcp := copy_first (w.alloc (.cells (rk 0 z32 z32 0 ⟨#[]⟩) 28)) 110 z32 z32 rest 0 ⟨#[]⟩ (some ⟨ad.block, ad.off + 1, none⟩) 32 (c - 1) rfl rfl rfl (hr.alloc _)
  rw [World.size_alloc] at hcp
  have HS : Hid ((rk 110 rest z32 0 ⟨#[]⟩).size = 67) := rk_size _ _ _ _ _ hl rfl
  have HA := Lib.hid (new_rk2 w (rk 0 z32 z32 0 ⟨#[]⟩) (rk 110 rest z32 0 ⟨#[]⟩))
  have HT : Hid (AggT Tryd.prog 28 (rk 110 rest z32 0 ⟨#[]⟩).toList.length) := by rw [Array.length_toList, HS.out]; exact Tryd.agg28
  have hZ : (rk 110 rest z32 0 ⟨#[]⟩).size = 67 := HS.out
  clear h hcell hl hr
  go_enter Tryd.func14, Tryd.ntmps14
  go_wp2_with (first | (refine wpList_loadAgg rfl 28 _ rfl _ 0 rfl (rk 110 rest z32 0 ⟨#[]⟩).toList HT.out HA.out ?_))
  exact bodyPost_ret (results_agg_tmp rfl _ _ w.heap.size (rk 110 rest z32 0 ⟨#[]⟩) rfl (by simpa using HT.out) (cellsAt_blk ((Blk.new w 28 _).alloc _))) rfl ⟨rfl, below2 w _ _⟩

set_option maxRecDepth 100000 in
set_option maxHeartbeats 1000000 in
theorem ref_99 (A : Option Addr) (c : Nat) (rest : List UInt8) (w : World) (hc : 33 ≤ c) (h : RdB w A 33 c (99 :: rest)) : Calls Tryd.prog 14 #[.slice A 33 c] w (Parsed w (rk 99 rest z32 0 ⟨#[]⟩) 0) := by
  have hl : rest.length = 32 := by simpa using h.1
  obtain ⟨ad, rfl, hcell⟩ := h.at_ (k := 0) (by omega)
  have hc0 : w.cell? ad = some (.int .u8 99) := hcell
  have hA := World.block_lt_of_cell? w ad hc0
  have hr := h.cut' 1 (by omega) (by omega)
  have hset : (rk 0 z32 z32 0 ⟨#[]⟩).setIfInBounds 0 (.int .u8 99) = rk 99 z32 z32 0 ⟨#[]⟩ := rk_set0 0 99 z32 z32 0 ⟨#[]⟩
  have hcp := copy_first (w.alloc (.cells (rk 0 z32 z32 0 ⟨#[]⟩) 28)) 99 z32 z32 rest 0 ⟨#[]⟩ (some ⟨ad.block, ad.off + 1, none⟩) 32 (c - 1) rfl rfl rfl (hr.alloc _)
  rw [World.size_alloc] at hcp
  have HS : Hid ((rk 99 rest z32 0 ⟨#[]⟩).size = 67) := rk_size _ _ _ _ _ hl rfl
  have HA := Lib.hid (new_rk2 w (rk 0 z32 z32 0 ⟨#[]⟩) (rk 99 rest z32 0 ⟨#[]⟩))
  have HT : Hid (AggT Tryd.prog 28 (rk 99 rest z32 0 ⟨#[]⟩).toList.length) := by rw [Array.length_toList, HS.out]; exact Tryd.agg28
  have hZ : (rk 99 rest z32 0 ⟨#[]⟩).size = 67 := HS.out
  clear h hcell hl hr
  go_enter Tryd.func14, Tryd.ntmps14
  go_wp2_with (first | (refine wpList_loadAgg rfl 28 _ rfl _ 0 rfl (rk 99 rest z32 0 ⟨#[]⟩).toList HT.out HA.out ?_))
  exact bodyPost_ret (results_agg_tmp rfl _ _ w.heap.size (rk 99 rest z32 0 ⟨#[]⟩) rfl (by simpa using HT.out) (cellsAt_blk ((Blk.new w 28 _).alloc _))) rfl ⟨rfl, below2 w _ _⟩

set_option maxRecDepth 100000 in
set_option maxHeartbeats 1000000 in
theorem ref_97 (A : Option Addr) (c : Nat) (rest : List UInt8) (w : World) (hc : 33 ≤ c) (h : RdB w A 33 c (97 :: rest)) : Calls Tryd.prog 14 #[.slice A 33 c] w (Parsed w (rk 97 rest z32 0 ⟨#[]⟩) 0) := by
  have hl : rest.length = 32 := by simpa using h.1
  obtain ⟨ad, rfl, hcell⟩ := h.at_ (k := 0) (by omega)
  have hc0 : w.cell? ad = some (.int .u8 97) := hcell
  have hA := World.block_lt_of_cell? w ad hc0
  have hr := h.cut' 1 (by omega) (by omega)
  have hset : (rk 0 z32 z32 0 ⟨#[]⟩).setIfInBounds 0 (.int .u8 97) = rk 97 z32 z32 0 ⟨#[]⟩ := rk_set0 0 97 z32 z32 0 ⟨#[]⟩
  have hcp := copy_first (w.alloc (.cells (rk 0 z32 z32 0 ⟨#[]⟩) 28)) 97 z32 z32 rest 0 ⟨#[]⟩ (some ⟨ad.block, ad.off + 1, none⟩) 32 (c - 1) rfl rfl rfl (hr.alloc _)
  rw [World.size_alloc] at hcp
  have HS : Hid ((rk 97 rest z32 0 ⟨#[]⟩).size = 67) := rk_size _ _ _ _ _ hl rfl
  have HA := Lib.hid (new_rk2 w (rk 0 z32 z32 0 ⟨#[]⟩) (rk 97 rest z32 0 ⟨#[]⟩))
  have HT : Hid (AggT Tryd.prog 28 (rk 97 rest z32 0 ⟨#[]⟩).toList.length) := by rw [Array.length_toList, HS.out]; exact Tryd.agg28
  have hZ : (rk 97 rest z32 0 ⟨#[]⟩).size = 67 := HS.out
  clear h hcell hl hr
  go_enter Tryd.func14, Tryd.ntmps14
  go_wp2_with (first | (refine wpList_loadAgg rfl 28 _ rfl _ 0 rfl (rk 97 rest z32 0 ⟨#[]⟩).toList HT.out HA.out ?_))
  exact bodyPost_ret (results_agg_tmp rfl _ _ w.heap.size (rk 97 rest z32 0 ⟨#[]⟩) rfl (by simpa using HT.out) (cellsAt_blk ((Blk.new w 28 _).alloc _))) rfl ⟨rfl, below2 w _ _⟩

set_option maxRecDepth 100000 in
set_option maxHeartbeats 1000000 in
theorem ref_bad_110 (A : Option Addr) (n c : Nat) (rest : List UInt8) (w : World) (hn : 1 ≤ n) (hn2 : n ≠ 33) (hnc : n ≤ c) (hcm : c ≤ 9223372036854775807) (h : RdB w A n c (110 :: rest)) : Calls Tryd.prog 14 #[.slice A n c] w (Parsed w (rk 0 z32 z32 0 ⟨#[]⟩) 132) := by
  obtain ⟨ad, rfl, hcell⟩ := h.at_ (k := 0) (by omega)
  have hc0 : w.cell? ad = some (.int .u8 110) := hcell
  have hA := World.block_lt_of_cell? w ad hc0
  have hset : (rk 0 z32 z32 0 ⟨#[]⟩).setIfInBounds 0 (.int .u8 110) = rk 110 z32 z32 0 ⟨#[]⟩ := rk_set0 0 110 z32 z32 0 ⟨#[]⟩
  have hq : (((n - 1 : Nat) : Int) == 32) = false := by rw [beq_eq_false_iff_ne]; omega
  clear h hcell
  go_enter Tryd.func14, Tryd.ntmps14
  go_wp2
  all_goals exact bodyPost_ret (results_agg_tmp rfl _ _ w.heap.size (rk 0 z32 z32 0 ⟨#[]⟩) rfl Tryd.agg28 (cellsAt_blk ((Blk.new w 28 _).alloc _))) rfl ⟨rfl, below2 w _ _⟩

set_option maxRecDepth 100000 in
set_option maxHeartbeats 1000000 in
theorem ref_bad_99 (A : Option Addr) (n c : Nat) (rest : List UInt8) (w : World) (hn : 1 ≤ n) (hn2 : n ≠ 33) (hnc : n ≤ c) (hcm : c ≤ 9223372036854775807) (h : RdB w A n c (99 :: rest)) : Calls Tryd.prog 14 #[.slice A n c] w (Parsed w (rk 0 z32 z32 0 ⟨#[]⟩) 132) := by
  obtain ⟨ad, rfl, hcell⟩ := h.at_ (k := 0) (by omega)
  have hc0 : w.cell? ad = some (.int .u8 99) := hcell
  have hA := World.block_lt_of_cell? w ad hc0
  have hset : (rk 0 z32 z32 0 ⟨#[]⟩).setIfInBounds 0 (.int .u8 99) = rk 99 z32 z32 0 ⟨#[]⟩ := rk_set0 0 99 z32 z32 0 ⟨#[]⟩
  have hq : (((n - 1 : Nat) : Int) == 32) = false := by rw [beq_eq_false_iff_ne]; omega
  clear h hcell
  go_enter Tryd.func14, Tryd.ntmps14
  go_wp2
  all_goals exact bodyPost_ret (results_agg_tmp rfl _ _ w.heap.size (rk 0 z32 z32 0 ⟨#[]⟩) rfl Tryd.agg28 (cellsAt_blk ((Blk.new w 28 _).alloc _))) rfl ⟨rfl, below2 w _ _⟩

set_option maxRecDepth 100000 in
set_option maxHeartbeats 1000000 in
theorem ref_bad_97 (A : Option Addr) (n c : Nat) (rest : List UInt8) (w : World) (hn : 1 ≤ n) (hn2 : n ≠ 33) (hnc : n ≤ c) (hcm : c ≤ 9223372036854775807) (h : RdB w A n c (97 :: rest)) : Calls Tryd.prog 14 #[.slice A n c] w (Parsed w (rk 0 z32 z32 0 ⟨#[]⟩) 132) := by
  obtain ⟨ad, rfl, hcell⟩ := h.at_ (k := 0) (by omega)
  have hc0 : w.cell? ad = some (.int .u8 97) := hcell
  have hA := World.block_lt_of_cell? w ad hc0
  have hset : (rk 0 z32 z32 0 ⟨#[]⟩).setIfInBounds 0 (.int .u8 97) = rk 97 z32 z32 0 ⟨#[]⟩ := rk_set0 0 97 z32 z32 0 ⟨#[]⟩
  have hq : (((n - 1 : Nat) : Int) == 32) = false := by rw [beq_eq_false_iff_ne]; omega
  clear h hcell
  go_enter Tryd.func14, Tryd.ntmps14
  go_wp2
  all_goals exact bodyPost_ret (results_agg_tmp rfl _ _ w.heap.size (rk 0 z32 z32 0 ⟨#[]⟩) rfl Tryd.agg28 (cellsAt_blk ((Blk.new w 28 _).alloc _))) rfl ⟨rfl, below2 w _ _⟩

set_option maxRecDepth 100000 in
set_option maxHeartbeats 1000000 in
theorem ref_bad_111 (A : Option Addr) (n c : Nat) (rest : List UInt8) (w : World) (hn : 1 ≤ n) (hn2 : n ≠ 65) (hnc : n ≤ c) (hcm : c ≤ 9223372036854775807) (h : RdB w A n c (111 :: rest)) : Calls Tryd.prog 14 #[.slice A n c] w (Parsed w (rk 0 z32 z32 0 ⟨#[]⟩) 132) := by
  obtain ⟨ad, rfl, hcell⟩ := h.at_ (k := 0) (by omega)
  have hc0 : w.cell? ad = some (.int .u8 111) := hcell
  have hA := World.block_lt_of_cell? w ad hc0
  have hset : (rk 0 z32 z32 0 ⟨#[]⟩).setIfInBounds 0 (.int .u8 111) = rk 111 z32 z32 0 ⟨#[]⟩ := rk_set0 0 111 z32 z32 0 ⟨#[]⟩
  have hq : (((n - 1 : Nat) : Int) == 64) = false := by rw [beq_eq_false_iff_ne]; omega
  clear h hcell
  go_enter Tryd.func14, Tryd.ntmps14
  go_wp2
  all_goals exact bodyPost_ret (results_agg_tmp rfl _ _ w.heap.size (rk 0 z32 z32 0 ⟨#[]⟩) rfl Tryd.agg28 (cellsAt_blk ((Blk.new w 28 _).alloc _))) rfl ⟨rfl, below2 w _ _⟩

set_option maxRecDepth 100000 in
set_option maxHeartbeats 1000000 in
theorem ref_bad_114 (A : Option Addr) (n c : Nat) (rest : List UInt8) (w : World) (hn : 1 ≤ n) (hn2 : n ≠ 9) (hnc : n ≤ c) (hcm : c ≤ 9223372036854775807) (h : RdB w A n c (114 :: rest)) : Calls Tryd.prog 14 #[.slice A n c] w (Parsed w (rk 0 z32 z32 0 ⟨#[]⟩) 132) := by
  obtain ⟨ad, rfl, hcell⟩ := h.at_ (k := 0) (by omega)
  have hc0 : w.cell? ad = some (.int .u8 114) := hcell
  have hA := World.block_lt_of_cell? w ad hc0
  have hset : (rk 0 z32 z32 0 ⟨#[]⟩).setIfInBounds 0 (.int .u8 114) = rk 114 z32 z32 0 ⟨#[]⟩ := rk_set0 0 114 z32 z32 0 ⟨#[]⟩
  have hq : (((n - 1 : Nat) : Int) == 8) = false := by rw [beq_eq_false_iff_ne]; omega
  clear h hcell
  go_enter Tryd.func14, Tryd.ntmps14
  go_wp2
  all_goals exact bodyPost_ret (results_agg_tmp rfl _ _ w.heap.size (rk 0 z32 z32 0 ⟨#[]⟩) rfl Tryd.agg28 (cellsAt_blk ((Blk.new w 28 _).alloc _))) rfl ⟨rfl, below2 w _ _⟩

set_option maxRecDepth 100000 in
set_option maxHeartbeats 1000000 in
theorem ref_bad_98 (A : Option Addr) (n c : Nat) (rest : List UInt8) (w : World) (hn : 1 ≤ n) (hn2 : n ≠ 9) (hnc : n ≤ c) (hcm : c ≤ 9223372036854775807) (h : RdB w A n c (98 :: rest)) : Calls Tryd.prog 14 #[.slice A n c] w (Parsed w (rk 0 z32 z32 0 ⟨#[]⟩) 132) := by
  obtain ⟨ad, rfl, hcell⟩ := h.at_ (k := 0) (by omega)
  have hc0 : w.cell? ad = some (.int .u8 98) := hcell
  have hA := World.block_lt_of_cell? w ad hc0
  have hset : (rk 0 z32 z32 0 ⟨#[]⟩).setIfInBounds 0 (.int .u8 98) = rk 98 z32 z32 0 ⟨#[]⟩ := rk_set0 0 98 z32 z32 0 ⟨#[]⟩
  have hq : (((n - 1 : Nat) : Int) == 8) = false := by rw [beq_eq_false_iff_ne]; omega
  clear h hcell
  go_enter Tryd.func14, Tryd.ntmps14
  go_wp2
  all_goals exact bodyPost_ret (results_agg_tmp rfl _ _ w.heap.size (rk 0 z32 z32 0 ⟨#[]⟩) rfl Tryd.agg28 (cellsAt_blk ((Blk.new w 28 _).alloc _))) rfl ⟨rfl, below2 w _ _⟩

set_option maxRecDepth 100000 in
set_option maxHeartbeats 1000000 in
theorem ref_other (A : Option Addr) (n c : Nat) (b : UInt8) (rest : List UInt8) (w : World) (hb : b ≠ 110 ∧ b ≠ 99 ∧ b ≠ 97 ∧ b ≠ 111 ∧ b ≠ 114 ∧ b ≠ 98 ∧ b ≠ 109) (hn : 1 ≤ n) (hnc : n ≤ c) (hcm : c ≤ 9223372036854775807) (h : RdB w A n c (b :: rest)) : Calls Tryd.prog 14 #[.slice A n c] w (Parsed w (rk 0 z32 z32 0 ⟨#[]⟩) 132) := by
  obtain ⟨ad, rfl, hcell⟩ := h.at_ (k := 0) (by omega)
  have hc0 : w.cell? ad = some (.int .u8 (b.toNat : Int)) := hcell
  have hA := World.block_lt_of_cell? w ad hc0
  have hset : (rk 0 z32 z32 0 ⟨#[]⟩).setIfInBounds 0 (.int .u8 (b.toNat : Int)) = rk b z32 z32 0 ⟨#[]⟩ := rk_set0 0 b z32 z32 0 ⟨#[]⟩
  have ne : ∀ x : UInt8, b ≠ x → ((b.toNat : Int) == (x.toNat : Int)) = false := fun x hx => by
    rw [beq_eq_false_iff_ne]
    intro e
    exact hx (UInt8.toNat_inj.1 (by omega))
  have q1 : ((b.toNat : Int) == 110) = false := ne 110 hb.1
  have q2 : ((b.toNat : Int) == 99) = false := ne 99 hb.2.1
  have q3 : ((b.toNat : Int) == 97) = false := ne 97 hb.2.2.1
  have q4 : ((b.toNat : Int) == 111) = false := ne 111 hb.2.2.2.1
  have q5 : ((b.toNat : Int) == 114) = false := ne 114 hb.2.2.2.2.1
  have q6 : ((b.toNat : Int) == 98) = false := ne 98 hb.2.2.2.2.2.1
  have q7 : ((b.toNat : Int) == 109) = false := ne 109 hb.2.2.2.2.2.2
  clear h hcell ne hb
  go_enter Tryd.func14, Tryd.ntmps14
  go_wp2
  all_goals exact bodyPost_ret (results_agg_tmp rfl _ _ w.heap.size (rk 0 z32 z32 0 ⟨#[]⟩) rfl Tryd.agg28 (cellsAt_blk ((Blk.new w 28 _).alloc _))) rfl ⟨rfl, below2 w _ _⟩

set_option maxRecDepth 100000 in
set_option maxHeartbeats 1000000 in
theorem ref_111 (A : Option Addr) (c : Nat) (rest : List UInt8) (w : World) (hc : 65 ≤ c) (h : RdB w A 65 c (111 :: rest)) : Calls Tryd.prog 14 #[.slice A 65 c] w (Parsed w (rk 111 (rest.take 32) (rest.drop 32) 0 ⟨#[]⟩) 0) := by
  have hl : rest.length = 64 := by simpa using h.1
  obtain ⟨ad, rfl, hcell⟩ := h.at_ (k := 0) (by omega)
  have hc0 : w.cell? ad = some (.int .u8 111) := hcell
  have hA := World.block_lt_of_cell? w ad hc0
  have hr : RdB w (some ⟨ad.block, ad.off + 1, none⟩) 64 (c - 1) rest := h.cut' 1 (by omega) (by omega)
  have hr1 : RdB w (some ⟨ad.block, ad.off + 1, none⟩) 32 (c - 1) (rest.take 32) := hr.front 32 (by omega)
  have hr2 : RdB w (some ⟨ad.block, ad.off + 1 + 32, none⟩) 32 (c - 1 - 32) (rest.drop 32) := by
    have := hr.cut' 32 (by omega) (by omega)
    rw [show (⟨ad.block, ad.off + 1, none⟩ : Addr).add 32 = ⟨ad.block, ad.off + 1 + 32, none⟩ by unfold Addr.add; simp] at this
    exact this
  have hq1 : (32 : Int) ≤ ((c - 1 : Nat) : Int) := by omega
  have hset : (rk 0 z32 z32 0 ⟨#[]⟩).setIfInBounds 0 (.int .u8 111) = rk 111 z32 z32 0 ⟨#[]⟩ := rk_set0 0 111 z32 z32 0 ⟨#[]⟩
  have h1 : (rest.take 32).length = 32 := by simp; omega
  have h2 : (rest.drop 32).length = 32 := by simp; omega
  generalize rest.take 32 = xs at *
  generalize rest.drop 32 = ys at *
  have hcp := copy_first_d (w.alloc (.cells (rk 0 z32 z32 0 ⟨#[]⟩) 28)) 111 z32 z32 xs 0 ⟨#[]⟩ (some ⟨ad.block, ad.off + 1, none⟩) 32 (c - 1) rfl rfl rfl (hr1.alloc _)
  have hcq := copy_second_dd (w.alloc (.cells (rk 0 z32 z32 0 ⟨#[]⟩) 28)) 111 z32 xs ys 0 ⟨#[]⟩ (some ⟨ad.block, ad.off + 1 + 32, none⟩) 32 (c - 1 - 32) rfl h1 rfl (hr2.alloc _)
  rw [World.size_alloc] at hcp hcq
  have HS : Hid ((rk 111 xs ys 0 ⟨#[]⟩).size = 67) := rk_size _ _ _ _ _ h1 h2
  have HA := Lib.hid (new_rk2 w (rk 0 z32 z32 0 ⟨#[]⟩) (rk 111 xs ys 0 ⟨#[]⟩))
  have HT : Hid (AggT Tryd.prog 28 (rk 111 xs ys 0 ⟨#[]⟩).toList.length) := by rw [Array.length_toList, HS.out]; exact Tryd.agg28
  have hZ : (rk 111 xs ys 0 ⟨#[]⟩).size = 67 := HS.out
  clear h hcell hl hr hr1 hr2
  go_enter Tryd.func14, Tryd.ntmps14
  go_wp2
  go_region
  all_goals go_wp2
  all_goals go_region
  all_goals go_wp2_with (first | (refine wpList_loadAgg rfl 28 _ rfl _ 0 rfl (rk 111 xs ys 0 ⟨#[]⟩).toList HT.out HA.out ?_))
  all_goals exact bodyPost_ret (results_agg_tmp rfl _ _ w.heap.size (rk 111 xs ys 0 ⟨#[]⟩) rfl (by simpa using HT.out) (cellsAt_blk ((Blk.new w 28 _).alloc _).drew.drew)) rfl ⟨rfl, (below2 w _ _).drew.drew⟩
end Go.Proofs.YtfjfjjcdlgdbcaaDoor
