/- moraineref13.Parse: numbers and names -/
import Derived.Test.YtfjfjjcdlgdbcaaDoorR9
import Derived.Test.YtfjfjjcdlgdbcaaDoorA7
namespace Go.Proofs.YtfjfjjcdlgdbcaaDoor
open Go.RowKit

attribute [local go_sem] run_storeRow roomAt_alloc_at roomAt_past_eq roomAt_drew_eq rk_size rk_size0 z32_length rk_zero setCells_alloc_at setCells_alloc_past setCells_drew rk_oneCell size_ovw ovw_all

theorem get_rk3 (l : UInt8) (n : Nat) (nm : ByteArray) : (rk l z32 z32 n nm)[65]? = some (.int .u64 (n : Int)) := by
  simp [rk, bvs, z32]
theorem mul_add (u x : Nat) : IntKind.u64.wrap (IntKind.u64.wrap (256 * (u : Int)) + IntKind.u64.wrap (x : Int)) = (((u * 256 + x) % 18446744073709551616 : Nat) : Int) := by
  simp [IntKind.wrap, IntKind.bits, IntKind.signed]; omega

set_option maxRecDepth 100000 in
set_option maxHeartbeats 2000000 in
theorem ref_114 (A : Option Addr) (c : Nat) (rest : List UInt8) (w : World) (hc : 9 ≤ c) (h : RdB w A 9 c (114 :: rest)) : Calls Tryd.prog 14 #[.slice A 9 c] w (Parsed w (rk 114 z32 z32 (unbig rest) ⟨#[]⟩) 0) := by
  have hl : rest.length = 8 := by simpa using h.1
  obtain ⟨ad, rfl, hcell⟩ := h.at_ (k := 0) (by omega)
  have hc0 : w.cell? ad = some (.int .u8 114) := hcell
  have hA := World.block_lt_of_cell? w ad hc0
  have hr := Lib.hid (h.cut' 1 (by omega) (by omega))
  have HL := Lib.hid hl
  have hset : (rk 0 z32 z32 0 ⟨#[]⟩).setIfInBounds 0 (.int .u8 114) = rk 114 z32 z32 0 ⟨#[]⟩ := rk_set0 0 114 z32 z32 0 ⟨#[]⟩
  clear h hcell hl
  go_enter Tryd.func14, Tryd.ntmps14
  go_wp2
  go_loopw [6] (fun i wr => ∃ k : Nat, k ≤ 8 ∧ i = .int .i64 k ∧ Blk wr (w.heap.size + 1) 28 (rk 114 z32 z32 (unbig (rest.take k)) ⟨#[]⟩) ∧ Blk wr w.heap.size 28 (rk 0 z32 z32 0 ⟨#[]⟩) ∧ Below w.heap.size w wr) (fun i _ => 8 - (intOf i).toNat)
  case atStart => exact ⟨0, by omega, rfl, by simpa [unbig] using Blk.new (w.alloc (.cells (rk 0 z32 z32 0 ⟨#[]⟩) 28)) 28 (rk 114 z32 z32 0 ⟨#[]⟩), (Blk.new w 28 _).alloc _, below2 w _ _⟩
  case round =>
    obtain ⟨k, hk, rfl, hb1, hb2, hbl⟩ := hrel
    by_cases hlt : k < 8
    · obtain ⟨ad', e, hcl⟩ := (hr.out.below hbl).at_ (k := k) (by omega)
      obtain rfl : ad.add 1 = ad' := Option.some.inj e
      have hcc : wr.cell? ⟨ad.block, ad.off + 1 + k, none⟩ = some (.int .u8 ((rest.getD k 0).toNat : Int)) := by
        refine Eq.trans ?_ hcl
        congr 1
        unfold Addr.add
        by_cases h0 : k = 0 <;> simp [h0]
      have hn := hb1.cell 65
      rw [get_rk3] at hn
      have hfz := hb1.frozen 65
      have HU := Lib.hid (unbig_snoc rest k (by rw [HL.out]; omega))
      have HB1 := Lib.hid hb1
      have HB2 := Lib.hid hb2
      generalize (rest.getD k 0).toNat = x at *
      generalize unbig (rest.take k) = u at *
      clear hcl e hb1 hb2
      go_wp2
      go_region
      all_goals go_wp2
      go_roundw
      case rel =>
        refine ⟨k + 1, by omega, by go_num, ?_, ?_, (hbl.setCell (p := ⟨w.heap.size + 1, 65, none⟩) (by simp) _).drew⟩
        · have := HB1.out.set_ 65 (.int .u64 (((u * 256 + x) % 18446744073709551616 : Nat) : Int))
          rw [rk_set3 _ _ _ _ _ _ rfl rfl] at this
          rw [mul_add, HU.out]
          exact this.drew
        · exact (HB2.out.far (p := ⟨w.heap.size + 1, 65, none⟩) (by simp) _).drew
      case measure => simp [intOf]; omega
    · obtain rfl : k = 8 := by omega
      have hfin : Blk wr (w.heap.size + 1) 28 (rk 114 z32 z32 (unbig rest) ⟨#[]⟩) := by
        have := hb1
        rwa [List.take_of_length_le (by rw [HL.out]; omega)] at this
      have HA := Lib.hid (cellsAt_blk hfin)
      have HT : Hid (AggT Tryd.prog 28 (rk 114 z32 z32 (unbig rest) ⟨#[]⟩).toList.length) := by rw [Array.length_toList, rk_size0]; exact Tryd.agg28
      have HR := Lib.hid (hb2.room 0 67 (by rw [rk_size0]; decide))
      have HB2 := Lib.hid hb2
      clear hb1 hb2 hfin
      generalize unbig rest = u at *
      go_wp2_with (first | (refine wpList_loadAgg rfl 28 _ rfl _ 0 rfl (rk 114 z32 z32 u ⟨#[]⟩).toList HT.out HA.out ?_) | (refine wpList_storeAgg rfl rfl 28 (.tmp 2) _ rfl _ 0 rfl (rk 114 z32 z32 u ⟨#[]⟩) rfl (by simpa using HT.out) (by rw [rk_size0]; exact HR.out) (rk_oneCell _ _ _ _ _) ?_))
      have hfb := HB2.out.setCells (rk 114 z32 z32 u ⟨#[]⟩).toList 0 (by rw [Array.length_toList, rk_size0, rk_size0]; decide)
      rw [ovw_all _ _ (by rw [Array.length_toList, rk_size0, rk_size0])] at hfb
      exact bodyPost_ret (results_agg_tmp rfl _ _ w.heap.size (rk 114 z32 z32 u ⟨#[]⟩) rfl (by simpa using HT.out) (cellsAt_blk hfb)) rfl ⟨rfl, below_setCells hbl _ _ _ (Nat.le_refl _)⟩

set_option maxRecDepth 100000 in
set_option maxHeartbeats 2000000 in
theorem ref_98 (A : Option Addr) (c : Nat) (rest : List UInt8) (w : World) (hc : 9 ≤ c) (h : RdB w A 9 c (98 :: rest)) : Calls Tryd.prog 14 #[.slice A 9 c] w (Parsed w (rk 98 z32 z32 (unbig rest) ⟨#[]⟩) 0) := by
  have hl : rest.length = 8 := by simpa using h.1
  obtain ⟨ad, rfl, hcell⟩ := h.at_ (k := 0) (by omega)
  have hc0 : w.cell? ad = some (.int .u8 98) := hcell
  have hA := World.block_lt_of_cell? w ad hc0
  have hr := Lib.hid (h.cut' 1 (by omega) (by omega))
  have HL := Lib.hid hl
  have hset : (rk 0 z32 z32 0 ⟨#[]⟩).setIfInBounds 0 (.int .u8 98) = rk 98 z32 z32 0 ⟨#[]⟩ := rk_set0 0 98 z32 z32 0 ⟨#[]⟩
  clear h hcell hl
  go_enter Tryd.func14, Tryd.ntmps14
  go_wp2
  go_loopw [6] (fun i wr => ∃ k : Nat, k ≤ 8 ∧ i = .int .i64 k ∧ Blk wr (w.heap.size + 1) 28 (rk 98 z32 z32 (unbig (rest.take k)) ⟨#[]⟩) ∧ Blk wr w.heap.size 28 (rk 0 z32 z32 0 ⟨#[]⟩) ∧ Below w.heap.size w wr) (fun i _ => 8 - (intOf i).toNat)
  case atStart => exact ⟨0, by omega, rfl, by simpa [unbig] using Blk.new (w.alloc (.cells (rk 0 z32 z32 0 ⟨#[]⟩) 28)) 28 (rk 98 z32 z32 0 ⟨#[]⟩), (Blk.new w 28 _).alloc _, below2 w _ _⟩
  case round =>
    obtain ⟨k, hk, rfl, hb1, hb2, hbl⟩ := hrel
    by_cases hlt : k < 8
    · obtain ⟨ad', e, hcl⟩ := (hr.out.below hbl).at_ (k := k) (by omega)
      obtain rfl : ad.add 1 = ad' := Option.some.inj e
      have hcc : wr.cell? ⟨ad.block, ad.off + 1 + k, none⟩ = some (.int .u8 ((rest.getD k 0).toNat : Int)) := by
        refine Eq.trans ?_ hcl
        congr 1
        unfold Addr.add
        by_cases h0 : k = 0 <;> simp [h0]
      have hn := hb1.cell 65
      rw [get_rk3] at hn
      have hfz := hb1.frozen 65
      have HU := Lib.hid (unbig_snoc rest k (by rw [HL.out]; omega))
      have HB1 := Lib.hid hb1
      have HB2 := Lib.hid hb2
      generalize (rest.getD k 0).toNat = x at *
      generalize unbig (rest.take k) = u at *
      clear hcl e hb1 hb2
      go_wp2
      go_region
      all_goals go_wp2
      go_roundw
      case rel =>
        refine ⟨k + 1, by omega, by go_num, ?_, ?_, (hbl.setCell (p := ⟨w.heap.size + 1, 65, none⟩) (by simp) _).drew⟩
        · have := HB1.out.set_ 65 (.int .u64 (((u * 256 + x) % 18446744073709551616 : Nat) : Int))
          rw [rk_set3 _ _ _ _ _ _ rfl rfl] at this
          rw [mul_add, HU.out]
          exact this.drew
        · exact (HB2.out.far (p := ⟨w.heap.size + 1, 65, none⟩) (by simp) _).drew
      case measure => simp [intOf]; omega
    · obtain rfl : k = 8 := by omega
      have hfin : Blk wr (w.heap.size + 1) 28 (rk 98 z32 z32 (unbig rest) ⟨#[]⟩) := by
        have := hb1
        rwa [List.take_of_length_le (by rw [HL.out]; omega)] at this
      have HA := Lib.hid (cellsAt_blk hfin)
      have HT : Hid (AggT Tryd.prog 28 (rk 98 z32 z32 (unbig rest) ⟨#[]⟩).toList.length) := by rw [Array.length_toList, rk_size0]; exact Tryd.agg28
      have HR := Lib.hid (hb2.room 0 67 (by rw [rk_size0]; decide))
      have HB2 := Lib.hid hb2
      clear hb1 hb2 hfin
      generalize unbig rest = u at *
      go_wp2_with (first | (refine wpList_loadAgg rfl 28 _ rfl _ 0 rfl (rk 98 z32 z32 u ⟨#[]⟩).toList HT.out HA.out ?_) | (refine wpList_storeAgg rfl rfl 28 (.tmp 2) _ rfl _ 0 rfl (rk 98 z32 z32 u ⟨#[]⟩) rfl (by simpa using HT.out) (by rw [rk_size0]; exact HR.out) (rk_oneCell _ _ _ _ _) ?_))
      have hfb := HB2.out.setCells (rk 98 z32 z32 u ⟨#[]⟩).toList 0 (by rw [Array.length_toList, rk_size0, rk_size0]; decide)
      rw [ovw_all _ _ (by rw [Array.length_toList, rk_size0, rk_size0])] at hfb
      exact bodyPost_ret (results_agg_tmp rfl _ _ w.heap.size (rk 98 z32 z32 u ⟨#[]⟩) rfl (by simpa using HT.out) (cellsAt_blk hfb)) rfl ⟨rfl, below_setCells hbl _ _ _ (Nat.le_refl _)⟩

set_option maxRecDepth 100000 in
set_option maxHeartbeats 2000000 in
theorem ref_109 (A : Option Addr) (n c : Nat) (rest : List UInt8) (w : World) (hn : 1 ≤ n) (hnc : n ≤ c) (hcm : c ≤ 9223372036854775807) (h : RdB w A n c (109 :: rest)) (hok : nameOk rest = true) : Calls Tryd.prog 14 #[.slice A n c] w (Parsed w (rk 109 z32 z32 0 (str rest)) 0) := by
  have hl : rest.length + 1 = n := by simpa using h.1
  have hne : 1 ≤ rest.length := (of_decide_eq_true hok : nameP rest).1
  have h2 : 2 ≤ n := by omega
  obtain ⟨ad, rfl, hcell⟩ := h.at_ (k := 0) (by omega)
  have hc0 : w.cell? ad = some (.int .u8 109) := hcell
  have hA := World.block_lt_of_cell? w ad hc0
  have hr : RdB w (some ⟨ad.block, ad.off + 1, none⟩) (n - 1) (c - 1) rest := h.cut' 1 (by omega) (by omega)
  have hset : (rk 0 z32 z32 0 ⟨#[]⟩).setIfInBounds 0 (.int .u8 109) = rk 109 z32 z32 0 ⟨#[]⟩ := rk_set0 0 109 z32 z32 0 ⟨#[]⟩
  have hset4 : (rk 109 z32 z32 0 ⟨#[]⟩).setIfInBounds 66 (.string (str rest)) = rk 109 z32 z32 0 (str rest) := rk_set4 _ _ _ _ _ _ rfl rfl
  have hcv := run_convertB (P := Tryd.prog) _ 22 5 9 Tryd.underlying22 Tryd.underlying5 Tryd.underlying9 ((hr.alloc (.cells (rk 0 z32 z32 0 ⟨#[]⟩) 28)).alloc (.cells (rk 109 z32 z32 0 ⟨#[]⟩) 28))
  have hc := Lib.hid (fun W => Name_calls (str rest) W)
  rw [str_toList] at hc
  have HA := Lib.hid (new_rk2 w (rk 0 z32 z32 0 ⟨#[]⟩) (rk 109 z32 z32 0 (str rest)))
  have HT : Hid (AggT Tryd.prog 28 (rk 109 z32 z32 0 (str rest)).toList.length) := by rw [Array.length_toList, rk_size0]; exact Tryd.agg28
  clear h hcell hr hl hne
  generalize str rest = s at *
  go_enter Tryd.func14, Tryd.ntmps14
  go_wp2_with (first | (go_at_call 25; refine (hc.out _).mono ?_; rintro e w1 ⟨rfl, rfl⟩) | (refine wpList_loadAgg rfl 28 _ rfl _ 0 rfl (rk 109 z32 z32 0 s).toList HT.out HA.out ?_))
  exact bodyPost_ret (results_agg_tmp rfl _ _ w.heap.size (rk 109 z32 z32 0 s) rfl (by simpa using HT.out) (cellsAt_blk ((Blk.new w 28 _).alloc _))) rfl ⟨rfl, below2 w _ _⟩

set_option maxRecDepth 100000 in
set_option maxHeartbeats 2000000 in
theorem ref_bad_109 (A : Option Addr) (n c : Nat) (rest : List UInt8) (w : World) (hn : 1 ≤ n) (hnc : n ≤ c) (hcm : c ≤ 9223372036854775807) (h : RdB w A n c (109 :: rest)) (hok : nameOk rest = false) : Calls Tryd.prog 14 #[.slice A n c] w (Parsed w (rk 0 z32 z32 0 ⟨#[]⟩) 132) := by
  have hl : rest.length + 1 = n := by simpa using h.1
  obtain ⟨ad, rfl, hcell⟩ := h.at_ (k := 0) (by omega)
  have hc0 : w.cell? ad = some (.int .u8 109) := hcell
  have hA := World.block_lt_of_cell? w ad hc0
  have hset : (rk 0 z32 z32 0 ⟨#[]⟩).setIfInBounds 0 (.int .u8 109) = rk 109 z32 z32 0 ⟨#[]⟩ := rk_set0 0 109 z32 z32 0 ⟨#[]⟩
  have hc := Lib.hid (fun W => Name_calls (str rest) W)
  rw [str_toList] at hc
  have HT : Hid (AggT Tryd.prog 28 (rk 0 z32 z32 0 ⟨#[]⟩).toList.length) := by rw [Array.length_toList, rk_size0]; exact Tryd.agg28
  by_cases hc1 : c = 1
  · subst hc1
    obtain rfl : n = 1 := by omega
    have hr : RdB w (some ad) 0 0 rest := by simpa using h.cut 1 (by omega)
    have hcv := run_convertB (P := Tryd.prog) _ 22 5 9 Tryd.underlying22 Tryd.underlying5 Tryd.underlying9 ((hr.alloc (.cells (rk 0 z32 z32 0 ⟨#[]⟩) 28)).alloc (.cells (rk 109 z32 z32 0 ⟨#[]⟩) 28))
    clear h hcell hr hl
    generalize str rest = s at *
    go_enter Tryd.func14, Tryd.ntmps14
    go_wp2_with (first | (go_at_call 25; refine (hc.out _).mono ?_; rintro e w1 ⟨rfl, rfl⟩))
    exact bodyPost_ret (results_agg_tmp rfl _ _ w.heap.size (rk 0 z32 z32 0 ⟨#[]⟩) rfl (by simpa using HT.out) (cellsAt_blk ((Blk.new w 28 _).alloc _))) rfl ⟨rfl, below2 w _ _⟩
  · have hr : RdB w (some ⟨ad.block, ad.off + 1, none⟩) (n - 1) (c - 1) rest := h.cut' 1 (by omega) (by omega)
    have hcv := run_convertB (P := Tryd.prog) _ 22 5 9 Tryd.underlying22 Tryd.underlying5 Tryd.underlying9 ((hr.alloc (.cells (rk 0 z32 z32 0 ⟨#[]⟩) 28)).alloc (.cells (rk 109 z32 z32 0 ⟨#[]⟩) 28))
    clear h hcell hr hl
    generalize str rest = s at *
    go_enter Tryd.func14, Tryd.ntmps14
    go_wp2_with (first | (go_at_call 25; refine (hc.out _).mono ?_; rintro e w1 ⟨rfl, rfl⟩))
    exact bodyPost_ret (results_agg_tmp rfl _ _ w.heap.size (rk 0 z32 z32 0 ⟨#[]⟩) rfl (by simpa using HT.out) (cellsAt_blk ((Blk.new w 28 _).alloc _))) rfl ⟨rfl, below2 w _ _⟩
end Go.Proofs.YtfjfjjcdlgdbcaaDoor
