/- the texts D36a5, D36a6, D36a7, D36a8, D36b1 of this proof, one behind the other -/
import Derived.Test.YtfjfjjcdlgdbcaaDoorF19
namespace Go.Proofs.YtfjfjjcdlgdbcaaDoor
open Go.RowKit Go.Shelf
set_option linter.unusedSimpArgs false
set_option linter.unusedVariables false

set_option maxRecDepth 100000 in
set_option maxHeartbeats 1000000 in
theorem line_a5 (A : Option Addr) (c : Nat) (es : List EntP) (x : List UInt8) (B : Nat) (w : World) (h : OwnE w B (.slice A es.length c) es) (hB : B ≤ w.heap.size) (hx : x.length ≤ 1000000) (s1 s2 s3 s4 : List UInt8) (hws : splitL 32 x = [accW, s1, s2, s3, s4]) (a : List UInt8) (ha : unhexW s1 = (a, true)) (hal : a.length = 20) (n m : Nat) (h2 : undecL s2 = some n) (h3 : undecL s3 = some m) (hn : 18446744073709551616 ≤ n) (r : Option (List EntP)) (hr : r = none) :
    Calls Tryd.prog 62 #[.slice A es.length c, .string (str x)] w (LineEnd B w r) := by
  have hwd0 := words_ready x w hx
  rw [hws] at hwd0
  simp only [List.length_cons, List.length_nil, Nat.zero_add, Nat.reduceAdd] at hwd0
  have hwd := Lib.hid hwd0
  have l1 : s1.length ≤ 100000000 := by have := split_small x s1 (by rw [hws]; simp); omega
  have l2 : s2.length ≤ 100000000 := by have := split_small x s2 (by rw [hws]; simp); omega
  have l3 : s3.length ≤ 100000000 := by have := split_small x s3 (by rw [hws]; simp); omega
  have l4 : s4.length ≤ 100000000 := by have := split_small x s4 (by rw [hws]; simp); omega
  have hu1 := Lib.hid (fun W => unhex101_p s1 a true ha l1 W)
  have hn2 := Lib.hid (fun W => undec102_n s2 n h2 l2 W)
  have hn3 := Lib.hid (fun W => undec102_n s3 m h3 l3 W)
  rw [hal] at hu1
  have hqa : ((str accW).toList == [97, 99, 99, 111, 117, 110, 116]) = true := by rw [str_list]; decide
  have hnt : n < top256 := (undecL_some h2).2
  have HXV : Hid (valW (beL n 32) = n) := valW_be n hnt
  have HxL : Hid ((beL n 32).length = 32) := beL_length _ _
  have HyL : Hid ((beL m 32).length = 32) := beL_length _ _
  have HR := Lib.hid hr
  have HB := Lib.hid hB
  have HAL := Lib.hid hal
  have HN := Lib.hid hn
  clear hwd0 hws ha h2 h3 l1 l2 l3 hnt hal hB hn hr h l4
  generalize beL n 32 = xs at *
  generalize beL m 32 = ys at *
  have hTx : Hid (AggT Tryd.prog 61 (bvs xs).toArray.size) := (by rw [List.size_toArray, bvs_length, HxL.out]; exact Tryd.agg61d); have hsx : Hid ((bvs xs).toArray.size = 32) := (by rw [List.size_toArray, bvs_length, HxL.out]; trivial)
  have hTy : Hid (AggT Tryd.prog 61 (bvs ys).toArray.size) := (by rw [List.size_toArray, bvs_length, HyL.out]; exact Tryd.agg61d); have hsy : Hid ((bvs ys).toArray.size = 32) := (by rw [List.size_toArray, bvs_length, HyL.out]; trivial)
  have hTl : Hid (AggT Tryd.prog 61 (bvs ys).length) := by rw [bvs_length, HyL.out]; exact Tryd.agg61d
  have HFI : Hid (EntP.Fit (balE ys)) := balE_fit ys HyL.out
  have HFE : Hid (∀ v, v < 18446744073709551616 → EntP.Fit ⟨a, v, ys, [], []⟩) := fun v hv => ent_fit a ys v [] HAL.out HyL.out hv
  generalize hsw : accW = s0 at *
  clear hsw
  go_enter Tryd.func62, Tryd.ntmps62
  go_upto_region 4 with (first | (go_at_call 100; refine hwd.out.mono ?_; rintro e w1 ⟨q, rc, rfl, hcells, hrlt, hrw, hlc, hcm, hb1⟩; have c0 : w1.cell? ⟨q, 0, none⟩ = some (.string (str s0)) := hcells 0 _ rfl; have c1 : w1.cell? ⟨q, 1, none⟩ = some (.string (str s1)) := hcells 1 _ rfl; have c2 : w1.cell? ⟨q, 2, none⟩ = some (.string (str s2)) := hcells 2 _ rfl; have c3 : w1.cell? ⟨q, 3, none⟩ = some (.string (str s3)) := hcells 3 _ rfl; have c4 : w1.cell? ⟨q, 4, none⟩ = some (.string (str s4)) := hcells 4 _ rfl; clear hcells) | (go_at_call 101; (with_reducible refine (hu1.out w1).mono ?_); rintro e w2 ⟨A1, k1, rfl, hr1, ho1, hb2⟩; have d2 : w2.cell? ⟨q, 2, none⟩ = some (.string (str s2)) := cell_below' hb2 c2))
  go_upto_region 5 with (first | (go_at_call 102; (with_reducible refine (hn2.out w2).mono ?_); rintro e w3 ⟨rfl, hb3⟩; have d3 : ∀ o, (w3.alloc o).cell? ⟨q, 3, none⟩ = some (.string (str s3)) := fun o => cell_below' (al (thn hb2 hb3) o) c3) | (refine wpList_storeNew rfl rfl 61 (.tmp 9) _ rfl _ _ rfl (bvs xs).toArray rfl hTx.out (by rw [hsx.out]; rfl) (oneCell_bvs _) ?_))
  go_upto_region 8 with (first | (go_at_call 102; (with_reducible refine (hn3.out (w3.alloc _)).mono ?_); rintro e w4 ⟨rfl, hb4⟩) | (refine wpList_storeNew rfl rfl 61 (.tmp 11) _ rfl _ _ rfl (bvs ys).toArray rfl hTy.out (by rw [hsy.out]; rfl) (oneCell_bvs _) ?_))
  have hTlc : CellsAt (w4.alloc (.cells (bvs ys).toArray 61)) w4.heap.size 0 (bvs ys) := cellsAt_blk (Blk.new w4 61 _)
  have hBn0 : Blk (w4.alloc (.cells (bvs ys).toArray 61)) w3.heap.size 61 (bvs xs).toArray := Blk.alloc (t := 61) ((hb4.block w3.heap.size (by simp)).trans (Blk.new w3 61 _)) _
  have hb15 : Below w1.heap.size w1 (w4.alloc (.cells (bvs ys).toArray 61)) := al (thn (al (thn hb2 hb3) _) hb4) _
  have hr15 : RdB (w4.alloc (.cells (bvs ys).toArray 61)) A1 20 k1 a := hr1.below (al (thn (al hb3 _) hb4) _)
  have hz3 : w.heap.size ≤ w3.heap.size := by have := hb1.size; have := hb2.size; have := hb3.size; omega
  have hz4 : w3.heap.size < (w4.alloc (.cells (bvs ys).toArray 61)).heap.size := by have := hb4.size; simp at this ⊢; omega
  have hz1 : q < w3.heap.size := by have := hb2.size; have := hb3.size; omega
  have hbw0 : Below w.heap.size w (w4.alloc (.cells (bvs ys).toArray 61)) := hb1.trans (hb15.mono hb1.size)
  have hc40 := cell_below' hb15 c4
  have HRW := Lib.hid hrw
  clear hb1 hb2 hb3 hb4 hb15 hr1 ho1 d2 d3 c0 c1 c2 c3 c4 hlc hcm hrlt hrw
  generalize w4.alloc (.cells (bvs ys).toArray 61) = w5 at *
  generalize w4.heap.size = L at *
  generalize w3.heap.size = N at *
  clear w2 w3 w4 w1
  go_upto_region 9 with (first | (refine wpList_loadAgg rfl 61 (.tmp 11) rfl L 0 rfl (bvs ys) hTl.out hTlc ?_) | (refine wpList_build79b rfl (.tmp 70) rfl ys HyL.out rfl ?_) | (refine wpList_storeNew rfl rfl 79 (.tmp 13) _ rfl _ _ rfl (ek (balE ys) (.slice none 0 0) (.slice none 0 0)) rfl (ek_aggS _ _ _ HFI.out) (by rw [ek_size _ _ _ HFI.out] <;> rfl) (ek_one _ _ _ _ _ _ _) ?_))
  have hcp := copy_bal w5 ys a A1 k1 HyL.out hr15
  go_wp2_with fail
  have hBn := Blk.alloc (t := 61) hBn0 (.cells (ek ⟨a, 0, ys, [], []⟩ (.slice none 0 0) (.slice none 0 0)) 79)
  have hBe := Blk.new w5 79 (ek ⟨a, 0, ys, [], []⟩ (.slice none 0 0) (.slice none 0 0))
  have hbw := al hbw0 (.cells (ek ⟨a, 0, ys, [], []⟩ (.slice none 0 0) (.slice none 0 0)) 79)
  have hc4 := cell_below' (al (Below.refl _ _) (.cells (ek ⟨a, 0, ys, [], []⟩ (.slice none 0 0) (.slice none 0 0)) 79)) hc40
  clear hcp hTlc hBn0 hr15 hbw0 hc40
  generalize w5.alloc (.cells (ek ⟨a, 0, ys, [], []⟩ (.slice none 0 0) (.slice none 0 0)) 79) = WL at *
  generalize w5.heap.size = M at *
  clear w5
  go_loopw [14] (fun i wr => ∃ k : Nat, k ≤ 24 ∧ i = .int .i64 k ∧ (∀ i, i < k → xs.getD i 0 = 0) ∧ Blk wr N 61 (bvs xs).toArray ∧ Blk wr M 79 (ek ⟨a, valW (xs.take k), ys, [], []⟩ (.slice none 0 0) (.slice none 0 0)) ∧ wr.cell? ⟨q, 4, none⟩ = some (.string (str s4)) ∧ Below w.heap.size w wr ∧ WL.heap.size ≤ wr.heap.size) (fun i _ => 32 - (intOf i).toNat)
  case atStart => exact ⟨0, by omega, rfl, fun i hi => absurd hi (by omega), hBn, hBe, hc4, hbw, Nat.le_refl _⟩
  case round =>
    obtain ⟨k, hk, rfl, hzr, hBnr, hBer, hc4r, hbwr, hszr⟩ := hrel
    have hk24 : k < 24 := by
      rcases Nat.lt_or_ge k 24 with h | h
      · exact h
      · exact (bytes_large xs n HxL.out HXV.out HN.out (fun i hi => hzr i (by omega))).elim
    have hv0 := bytes_pre0 xs HxL.out k (by omega) hzr
    have HZR := Lib.hid hzr
    have HV0 := Lib.hid hv0
    have hkI : (0 : Int) ≤ (k : Int) ∧ (k : Int) < 24 := by omega
    have HBN := Lib.hid hBnr
    have HBE := Lib.hid hBer
    have HBW := Lib.hid hbwr
    have HC4 := Lib.hid hc4r
    have HSZ := Lib.hid hszr
    obtain ⟨wo, rfl⟩ : ∃ wo : World, wo = wr := ⟨_, rfl⟩
    by_cases hb0 : xs.getD k 0 = 0
    · have HZ2 := Lib.hid hb0
      have hcx : wo.cell? ⟨N, k, none⟩ = some (.int .u8 ((xs.getD k 0).toNat : Int)) := by rw [hBnr.cell, List.getElem?_toArray]; exact bvs_get (by rw [List.getD_eq_getElem?_getD, List.getElem?_eq_getElem (by rw [HxL.out]; omega)]; rfl)
      have hce : wo.cell? ⟨M, 20, none⟩ = some (.int .u64 (valW (xs.take k) : Int)) := by rw [hBer.cell]; exact ek_nonce _ _ _ (HFE.out _ (by rw [hv0]; decide))
      have hfe := hBer.frozen 20
      have hset := hBer.set_ 20 (.int .u64 ((valW (xs.take (k + 1)) : Nat) : Int))
      rw [set_enonce _ _ _ _ (HFE.out _ (by rw [hv0]; decide))] at hset
      have HSET := Lib.hid hset
      have HFAR := Lib.hid (hBnr.far (p := ⟨M, 20, none⟩) (by show N ≠ M; omega) (.int .u64 ((valW (xs.take (k + 1)) : Nat) : Int)))
      have HST := Lib.hid (valW_step xs k (by rw [HxL.out]; omega))
      have hv1 : valW (xs.take (k + 1)) = 0 := by rw [HST.out, hv0, hb0]; rfl
      rw [hb0] at hcx
      rw [hv0] at hce
      have hcx' : wo.cell? ⟨N, k, none⟩ = some (.int .u8 0) := hcx
      have hce' : wo.cell? ⟨M, 20, none⟩ = some (.int .u64 0) := hce
      have HV1 := Lib.hid hv1
      rw [hv1] at HSET HFAR
      clear hcx hce hzr hv0 hb0 hBnr hBer hbwr hset HST hv1
      go_wp2
      go_region
      all_goals go_wp2
      go_roundw
      case rel => exact ⟨k + 1, by omega, by go_num, fun i hi => Or.elim (Nat.lt_or_ge i k) (fun h => HZR.out i h) (fun h => by obtain rfl : i = k := (by omega); exact HZ2.out), (HFAR.out : Blk _ N 61 _).drew, (by rw [HV1.out]; exact (HSET.out : Blk _ M 79 _).drew), cell_setFar HC4.out (by show q ≠ M; omega), (HBW.out.setCell (by show w.heap.size ≤ M; omega) _).drew, by simp; exact HSZ.out⟩
      case measure => simp [intOf]; omega
    · have hcx : wo.cell? ⟨N, k, none⟩ = some (.int .u8 ((xs.getD k 0).toNat : Int)) := by rw [hBnr.cell, List.getElem?_toArray]; exact bvs_get (by rw [List.getD_eq_getElem?_getD, List.getElem?_eq_getElem (by rw [HxL.out]; omega)]; rfl)
      have hbp : 0 < (xs.getD k 0).toNat := by
        rcases Nat.eq_zero_or_pos (xs.getD k 0).toNat with h | h
        · exact absurd (UInt8.toNat_inj.1 h) hb0
        · exact h
      generalize (xs.getD k 0).toNat = b at *
      have hbI : (0 : Int) < (b : Int) := by omega
      clear hb0 hzr hv0 hBnr hBer
      go_wp2
      go_ret2
      rw [HR.out]
      exact ⟨hbwr.mono HB.out, _, rfl⟩
end Go.Proofs.YtfjfjjcdlgdbcaaDoor
namespace Go.Proofs.YtfjfjjcdlgdbcaaDoor
open Go.RowKit Go.Shelf
set_option linter.unusedSimpArgs false
set_option linter.unusedVariables false

set_option maxRecDepth 100000 in
set_option maxHeartbeats 1000000 in
theorem line_a6 (A : Option Addr) (c : Nat) (es : List EntP) (x : List UInt8) (B : Nat) (w : World) (h : OwnE w B (.slice A es.length c) es) (hB : B ≤ w.heap.size) (hx : x.length ≤ 1000000) (s1 s2 s3 s4 : List UInt8) (hws : splitL 32 x = [accW, s1, s2, s3, s4]) (a : List UInt8) (ha : unhexW s1 = (a, true)) (hal : a.length = 20) (n m : Nat) (h2 : undecL s2 = some n) (h3 : undecL s3 = some m) (hn : n < 18446744073709551616) (h4 : s4 = [46]) (hm : es.length ≤ 100000000) (r : Option (List EntP)) (hr : r = if checkB (es ++ [⟨a, n, beL m 32, [], []⟩]) = true then some (es ++ [⟨a, n, beL m 32, [], []⟩]) else none) :
    Calls Tryd.prog 62 #[.slice A es.length c, .string (str x)] w (LineEnd B w r) := by
  have hwd0 := words_ready x w hx
  rw [hws] at hwd0
  simp only [List.length_cons, List.length_nil, Nat.zero_add, Nat.reduceAdd] at hwd0
  have hwd := Lib.hid hwd0
  have l1 : s1.length ≤ 100000000 := by have := split_small x s1 (by rw [hws]; simp); omega
  have l2 : s2.length ≤ 100000000 := by have := split_small x s2 (by rw [hws]; simp); omega
  have l3 : s3.length ≤ 100000000 := by have := split_small x s3 (by rw [hws]; simp); omega
  have l4 : s4.length ≤ 100000000 := by have := split_small x s4 (by rw [hws]; simp); omega
  have hu1 := Lib.hid (fun W => unhex101_p s1 a true ha l1 W)
  have hn2 := Lib.hid (fun W => undec102_n s2 n h2 l2 W)
  have hn3 := Lib.hid (fun W => undec102_n s3 m h3 l3 W)
  rw [hal] at hu1
  have hqa : ((str accW).toList == [97, 99, 99, 111, 117, 110, 116]) = true := by rw [str_list]; decide
  have hnt : n < top256 := (undecL_some h2).2
  have HXV : Hid (valW (beL n 32) = n) := valW_be n hnt
  have HxL : Hid ((beL n 32).length = 32) := beL_length _ _
  have HyL : Hid ((beL m 32).length = 32) := beL_length _ _
  have HR := Lib.hid hr
  have hq4 : ((str s4).toList == [46]) = true := by rw [str_list, h4]; decide
  have hq5 : ((str s4).toList != [46]) = false := by rw [str_list, h4]; decide
  have HO := Lib.hid h
  have HM := Lib.hid hm
  have HB := Lib.hid hB
  have HAL := Lib.hid hal
  have HN := Lib.hid hn
  clear hwd0 hws ha h2 h3 l1 l2 l3 hnt hal hB hn hr h l4 h4 hm
  generalize beL n 32 = xs at *
  generalize beL m 32 = ys at *
  have hTx : Hid (AggT Tryd.prog 61 (bvs xs).toArray.size) := (by rw [List.size_toArray, bvs_length, HxL.out]; exact Tryd.agg61d); have hsx : Hid ((bvs xs).toArray.size = 32) := (by rw [List.size_toArray, bvs_length, HxL.out]; trivial)
  have hTy : Hid (AggT Tryd.prog 61 (bvs ys).toArray.size) := (by rw [List.size_toArray, bvs_length, HyL.out]; exact Tryd.agg61d); have hsy : Hid ((bvs ys).toArray.size = 32) := (by rw [List.size_toArray, bvs_length, HyL.out]; trivial)
  have hTl : Hid (AggT Tryd.prog 61 (bvs ys).length) := by rw [bvs_length, HyL.out]; exact Tryd.agg61d
  have HFI : Hid (EntP.Fit (balE ys)) := balE_fit ys HyL.out
  have HFE : Hid (∀ v, v < 18446744073709551616 → EntP.Fit ⟨a, v, ys, [], []⟩) := fun v hv => ent_fit a ys v [] HAL.out HyL.out hv
  generalize hsw : accW = s0 at *
  clear hsw
  go_enter Tryd.func62, Tryd.ntmps62
  go_upto_region 4 with (first | (go_at_call 100; refine hwd.out.mono ?_; rintro e w1 ⟨q, rc, rfl, hcells, hrlt, hrw, hlc, hcm, hb1⟩; have c0 : w1.cell? ⟨q, 0, none⟩ = some (.string (str s0)) := hcells 0 _ rfl; have c1 : w1.cell? ⟨q, 1, none⟩ = some (.string (str s1)) := hcells 1 _ rfl; have c2 : w1.cell? ⟨q, 2, none⟩ = some (.string (str s2)) := hcells 2 _ rfl; have c3 : w1.cell? ⟨q, 3, none⟩ = some (.string (str s3)) := hcells 3 _ rfl; have c4 : w1.cell? ⟨q, 4, none⟩ = some (.string (str s4)) := hcells 4 _ rfl; clear hcells) | (go_at_call 101; (with_reducible refine (hu1.out w1).mono ?_); rintro e w2 ⟨A1, k1, rfl, hr1, ho1, hb2⟩; have d2 : w2.cell? ⟨q, 2, none⟩ = some (.string (str s2)) := cell_below' hb2 c2))
  go_upto_region 5 with (first | (go_at_call 102; (with_reducible refine (hn2.out w2).mono ?_); rintro e w3 ⟨rfl, hb3⟩; have d3 : ∀ o, (w3.alloc o).cell? ⟨q, 3, none⟩ = some (.string (str s3)) := fun o => cell_below' (al (thn hb2 hb3) o) c3) | (refine wpList_storeNew rfl rfl 61 (.tmp 9) _ rfl _ _ rfl (bvs xs).toArray rfl hTx.out (by rw [hsx.out]; rfl) (oneCell_bvs _) ?_))
  go_upto_region 8 with (first | (go_at_call 102; (with_reducible refine (hn3.out (w3.alloc _)).mono ?_); rintro e w4 ⟨rfl, hb4⟩) | (refine wpList_storeNew rfl rfl 61 (.tmp 11) _ rfl _ _ rfl (bvs ys).toArray rfl hTy.out (by rw [hsy.out]; rfl) (oneCell_bvs _) ?_))
  have hTlc : CellsAt (w4.alloc (.cells (bvs ys).toArray 61)) w4.heap.size 0 (bvs ys) := cellsAt_blk (Blk.new w4 61 _)
  have hBn0 : Blk (w4.alloc (.cells (bvs ys).toArray 61)) w3.heap.size 61 (bvs xs).toArray := Blk.alloc (t := 61) ((hb4.block w3.heap.size (by simp)).trans (Blk.new w3 61 _)) _
  have hb15 : Below w1.heap.size w1 (w4.alloc (.cells (bvs ys).toArray 61)) := al (thn (al (thn hb2 hb3) _) hb4) _
  have hr15 : RdB (w4.alloc (.cells (bvs ys).toArray 61)) A1 20 k1 a := hr1.below (al (thn (al hb3 _) hb4) _)
  have hz3 : w.heap.size ≤ w3.heap.size := by have := hb1.size; have := hb2.size; have := hb3.size; omega
  have hz4 : w3.heap.size < (w4.alloc (.cells (bvs ys).toArray 61)).heap.size := by have := hb4.size; simp at this ⊢; omega
  have hz1 : q < w3.heap.size := by have := hb2.size; have := hb3.size; omega
  have hbw0 : Below w.heap.size w (w4.alloc (.cells (bvs ys).toArray 61)) := hb1.trans (hb15.mono hb1.size)
  have hc40 := cell_below' hb15 c4
  have HRW := Lib.hid hrw
  clear hb1 hb2 hb3 hb4 hb15 hr1 ho1 d2 d3 c0 c1 c2 c3 c4 hlc hcm hrlt hrw
  generalize w4.alloc (.cells (bvs ys).toArray 61) = w5 at *
  generalize w4.heap.size = L at *
  generalize w3.heap.size = N at *
  clear w2 w3 w4 w1
  go_upto_region 9 with (first | (refine wpList_loadAgg rfl 61 (.tmp 11) rfl L 0 rfl (bvs ys) hTl.out hTlc ?_) | (refine wpList_build79b rfl (.tmp 70) rfl ys HyL.out rfl ?_) | (refine wpList_storeNew rfl rfl 79 (.tmp 13) _ rfl _ _ rfl (ek (balE ys) (.slice none 0 0) (.slice none 0 0)) rfl (ek_aggS _ _ _ HFI.out) (by rw [ek_size _ _ _ HFI.out] <;> rfl) (ek_one _ _ _ _ _ _ _) ?_))
  have hcp := copy_bal w5 ys a A1 k1 HyL.out hr15
  go_wp2_with fail
  have hBn := Blk.alloc (t := 61) hBn0 (.cells (ek ⟨a, 0, ys, [], []⟩ (.slice none 0 0) (.slice none 0 0)) 79)
  have hBe := Blk.new w5 79 (ek ⟨a, 0, ys, [], []⟩ (.slice none 0 0) (.slice none 0 0))
  have hbw := al hbw0 (.cells (ek ⟨a, 0, ys, [], []⟩ (.slice none 0 0) (.slice none 0 0)) 79)
  have hc4 := cell_below' (al (Below.refl _ _) (.cells (ek ⟨a, 0, ys, [], []⟩ (.slice none 0 0) (.slice none 0 0)) 79)) hc40
  clear hcp hTlc hBn0 hr15 hbw0 hc40
  generalize w5.alloc (.cells (ek ⟨a, 0, ys, [], []⟩ (.slice none 0 0) (.slice none 0 0)) 79) = WL at *
  generalize w5.heap.size = M at *
  clear w5
  go_loopw [14] (fun i wr => ∃ k : Nat, k ≤ 32 ∧ i = .int .i64 k ∧ Blk wr N 61 (bvs xs).toArray ∧ Blk wr M 79 (ek ⟨a, valW (xs.take k), ys, [], []⟩ (.slice none 0 0) (.slice none 0 0)) ∧ wr.cell? ⟨q, 4, none⟩ = some (.string (str s4)) ∧ Below w.heap.size w wr ∧ WL.heap.size ≤ wr.heap.size) (fun i _ => 32 - (intOf i).toNat)
  case atStart => exact ⟨0, by omega, rfl, hBn, hBe, hc4, hbw, Nat.le_refl _⟩
  case round =>
    obtain ⟨k, hk, rfl, hBnr, hBer, hc4r, hbwr, hszr⟩ := hrel
    have HBN := Lib.hid hBnr
    have HBE := Lib.hid hBer
    have HBW := Lib.hid hbwr
    have HC4 := Lib.hid hc4r
    have HSZ := Lib.hid hszr
    obtain ⟨wo, rfl⟩ : ∃ wo : World, wo = wr := ⟨_, rfl⟩
    by_cases hlt : k < 32
    · have hsm := bytes_small xs n HxL.out HXV.out HN.out k hlt
      have HSM := Lib.hid hsm
      have hcx : wo.cell? ⟨N, k, none⟩ = some (.int .u8 ((xs.getD k 0).toNat : Int)) := by rw [hBnr.cell, List.getElem?_toArray]; exact bvs_get (by rw [List.getD_eq_getElem?_getD, List.getElem?_eq_getElem (by rw [HxL.out]; omega)]; rfl)
      have hce : wo.cell? ⟨M, 20, none⟩ = some (.int .u64 (valW (xs.take k) : Int)) := by rw [hBer.cell]; exact ek_nonce _ _ _ (HFE.out _ (by omega))
      have hfe := hBer.frozen 20
      have hset := hBer.set_ 20 (.int .u64 ((valW (xs.take (k + 1)) : Nat) : Int))
      rw [set_enonce _ _ _ _ (HFE.out _ (by omega))] at hset
      have HSET := Lib.hid hset
      have HFAR := Lib.hid (hBnr.far (p := ⟨M, 20, none⟩) (by show N ≠ M; omega) (.int .u64 ((valW (xs.take (k + 1)) : Nat) : Int)))
      have HST := Lib.hid (valW_step xs k (by rw [HxL.out]; omega))
      have hb0 := (xs.getD k 0).toNat_lt
      by_cases h24 : k < 24
      · obtain ⟨hz1', hz2'⟩ := bytes_zero xs n HxL.out HXV.out HN.out k h24
        have hv1 : valW (xs.take (k + 1)) = 0 := by rw [HST.out, hz2', hz1']; rfl
        have hkI : (0 : Int) ≤ (k : Int) ∧ (k : Int) < 24 := by omega
        rw [hz1'] at hcx
        rw [hz2'] at hce
        have hcx' : wo.cell? ⟨N, k, none⟩ = some (.int .u8 0) := hcx
        have hce' : wo.cell? ⟨M, 20, none⟩ = some (.int .u64 0) := hce
        have HV1 := Lib.hid hv1
        rw [hv1] at HSET HFAR
        clear hcx hce hz1' hz2' hBnr hBer hbwr hset HST hb0 hsm hv1
        go_wp2
        go_region
        all_goals go_wp2
        go_roundw
        case rel => exact ⟨k + 1, by omega, by go_num, (HFAR.out : Blk _ N 61 _).drew, (by rw [HV1.out]; exact (HSET.out : Blk _ M 79 _).drew), cell_setFar HC4.out (by show q ≠ M; omega), (HBW.out.setCell (by show w.heap.size ≤ M; omega) _).drew, by simp; exact HSZ.out⟩
        case measure => simp [intOf]; omega
      · have hkI : ¬ (k : Int) < 24 := by omega
        have hkJ : (0 : Int) ≤ (k : Int) ∧ (k : Int) < 32 := by omega
        have HMA := Lib.hid (show IntKind.u64.wrap (IntKind.u64.wrap (256 * (valW (xs.take k) : Int)) + ((xs.getD k 0).toNat : Int)) = ((valW (xs.take (k + 1)) : Nat) : Int) from by rw [mul_add65, Nat.mod_eq_of_lt (by omega), HST.out])
        clear hBnr hBer hbwr hset HST hsm h24
        generalize hvv : valW (xs.take (k + 1)) = v' at *
        have HVV := Lib.hid hvv
        clear hvv
        generalize valW (xs.take k) = v at *
        generalize (xs.getD k 0).toNat = b at *
        go_wp2
        go_region
        all_goals go_wp2
        go_roundw
        case rel => rw [HMA.out]; exact ⟨k + 1, by omega, by go_num, (HFAR.out : Blk _ N 61 _).drew, (by rw [HVV.out]; exact (HSET.out : Blk _ M 79 _).drew), cell_setFar HC4.out (by show q ≠ M; omega), (HBW.out.setCell (by show w.heap.size ≤ M; omega) _).drew, by simp; exact HSZ.out⟩
        case measure => simp [intOf]; omega
    · obtain rfl : k = 32 := by omega
      rw [bytes_all xs n HxL.out HXV.out] at hBer
      clear HBE
      have hB6 := hBer
      have hbW := hbwr
      clear hBnr hBer hBn hBe hlt
      go_upto_region 21 with fail
      have hcd := CodeAt.none_ wo.drew B
      have hfe : EntP.Fit (⟨a, n, ys, [], []⟩ : EntP) := ent_fit a ys n [] HAL.out HyL.out HN.out
      have hcl : es.length ≤ c := by
        obtain ⟨A9, c9, e9, h9⟩ := HO.out.reads
        injection e9 with _ _ e9
        subst e9
        exact h9.2.1
      have hcl2 : ¬ c < es.length := by omega
      have hadd : Option.map (fun x : Addr => x.add 0) A = A := by
        cases A with
        | none => rfl
        | some x => simp [Addr.add]
      have hi79 : Hid ((Tryd.prog.info? 79).map (·.size) = some (ek (⟨a, n, ys, [], []⟩ : EntP) (.slice none 0 0) (.slice none 0 0)).toList.length) := by rw [Array.length_toList, ek_size _ _ _ hfe]; exact Tryd.agg79.2
      have HSE := Lib.hid (ek_size (⟨a, n, ys, [], []⟩ : EntP) (.slice none 0 0) (.slice none 0 0) hfe)
      obtain ⟨A5, c5, w9, hrun0, hO6, hB7, hK7⟩ := acc_push HO.out HB.out HM.out (⟨a, n, ys, [], []⟩ : EntP) (.slice none 0 0) hfe rfl (W := wo.drew) (hbW.trans (drawn_below' _ _ 1 hbW.size)) hcd
      rw [World.alloc_drew, World.size_drew] at hrun0
      have hrun := Lib.hid hrun0
      have HO6 := Lib.hid hO6
      have HB7 := Lib.hid hB7
      have HCA : Hid (∀ V, Below wo.heap.size wo V → CellsAt V M 0 (ek (⟨a, n, ys, [], []⟩ : EntP) (.slice none 0 0) (.slice none 0 0)).toList) := fun V hV => (cellsAt_blk hB6).below hV
      have HC9 : Hid (CellsAt w9 M 0 (ek (⟨a, n, ys, [], []⟩ : EntP) (.slice none 0 0) (.slice none 0 0)).toList) := cellsAt_blk ((hK7 M hB6.lt).trans hB6)
      clear hrun0 hO6 hB7 hfe hK7 hcd
      refine wp_region_held_drew (S := fun V => CellsAt V M 0 (ek (⟨a, n, ys, [], []⟩ : EntP) (.slice none 0 0) (.slice none 0 0)).toList) (by kernel_rfl) (HCA.out _ (drawn_below' _ _ 1 (Nat.le_refl _))) (fun hHeld => ?_)
      refine wpAnyH_take (i := 0) (v := .slice A es.length c) rfl (by kernel_rfl) (by kernel_rfl) (by kernel_rfl) (fun _ _ _ h => h) (.inl ⟨by rfl, fun W hS => by go_simp⟩) hHeld ?_
      simp only [Act.put, List.setIfInBounds_toArray, List.set_cons_zero, List.set_cons_succ, List.getElem_toArray, List.getElem_cons_succ, List.getElem_cons_zero]
      refine wpAnyH_take (i := 1) (v := .slice A es.length c) rfl (by kernel_rfl) (by kernel_rfl) (by kernel_rfl) (fun _ _ _ h => h) (.inl ⟨by rfl, fun W hS => by go_simp⟩) hHeld ?_
      simp only [Act.put, List.setIfInBounds_toArray, List.set_cons_zero, List.set_cons_succ, List.getElem_toArray, List.getElem_cons_succ, List.getElem_cons_zero]
      refine wpAnyH_take (i := 2) (v := .int .i64 (es.length : Int)) rfl (by kernel_rfl) (by kernel_rfl) (by kernel_rfl) (fun _ _ _ h => h) (.inl ⟨by rfl, fun W hS => by go_simp⟩) hHeld ?_
      simp only [Act.put, List.setIfInBounds_toArray, List.set_cons_zero, List.set_cons_succ, List.getElem_toArray, List.getElem_cons_succ, List.getElem_cons_zero]
      refine wpAnyH_take (i := 3) (v := .slice A es.length c) rfl (by kernel_rfl) (by kernel_rfl) (by kernel_rfl) (fun _ _ _ h => h) (.inl ⟨by rfl, fun W hS => by go_simp⟩) hHeld ?_
      simp only [Act.put, List.setIfInBounds_toArray, List.set_cons_zero, List.set_cons_succ, List.getElem_toArray, List.getElem_cons_succ, List.getElem_cons_zero]
      refine wpAnyH_take (i := 4) (v := .int .i64 (es.length : Int)) rfl (by kernel_rfl) (by kernel_rfl) (by kernel_rfl) (fun _ _ _ h => h) (.inl ⟨by rfl, fun W hS => by go_simp⟩) hHeld ?_
      simp only [Act.put, List.setIfInBounds_toArray, List.set_cons_zero, List.set_cons_succ, List.getElem_toArray, List.getElem_cons_succ, List.getElem_cons_zero]
      refine wpAnyH_take (i := 5) (v := .slice A es.length es.length) rfl (by kernel_rfl) (by kernel_rfl) (by kernel_rfl) (fun _ _ _ h => h) (.inl ⟨by rfl, fun W hS => by go_simp⟩) hHeld ?_
      simp only [Act.put, List.setIfInBounds_toArray, List.set_cons_zero, List.set_cons_succ, List.getElem_toArray, List.getElem_cons_succ, List.getElem_cons_zero]
      refine wpAnyH_take (i := 6) (v := .agg (ek (⟨a, n, ys, [], []⟩ : EntP) (.slice none 0 0) (.slice none 0 0)).toList.toArray) rfl (by kernel_rfl) (by kernel_rfl) (by kernel_rfl) (fun _ _ _ h => h) (yieldsIf_load_mid (by rfl) 79 _ rfl M 0 rfl (ek (⟨a, n, ys, [], []⟩ : EntP) (.slice none 0 0) (.slice none 0 0)).toList _ (fun W hS => hS) Tryd.underlying79 rfl hi79.out) hHeld ?_
      simp only [Act.put, List.setIfInBounds_toArray, List.set_cons_zero, List.set_cons_succ, List.getElem_toArray, List.getElem_cons_succ, List.getElem_cons_zero]
      refine wpAnyH_ready (rs := [7]) (by kernel_rfl) (by simp) ?_
      refine AllReadyH.cons rfl (fun K hK => ?_) AllReadyH.nil
      refine armH_buildSlice1 _ 47 79 55 rfl (.tmp 118) rfl (ek (⟨a, n, ys, [], []⟩ : EntP) (.slice none 0 0) (.slice none 0 0)) rfl Tryd.underlying47 Tryd.agg79 (by kernel_rfl) HSE.out (by omega) (by omega) ?_
      simp only [Act.put, List.setIfInBounds_toArray, List.set_cons_zero, List.set_cons_succ, List.getElem_toArray, List.getElem_cons_succ, List.getElem_cons_zero, World.size_drew, World.size_alloc, World.alloc_drew]
      refine hK.out _ _ (HCA.out _ (al (Below.refl _ _) _).drew) (fun hHeld => ?_)
      clear hK K
      refine wpAnyH_ready (rs := [8]) (by kernel_rfl) (by simp) ?_
      refine AllReadyH.cons rfl (fun K hK => ?_) AllReadyH.nil
      refine armH_runT _ 47 rfl (.tmp 117) (.tmp 119) rfl rfl _ _ rfl rfl _ _ hrun.out ?_
      simp only [Act.put, List.setIfInBounds_toArray, List.set_cons_zero, List.set_cons_succ, List.getElem_toArray, List.getElem_cons_succ, List.getElem_cons_zero]
      refine hK.out _ _ HC9.out (fun hHeld => ?_)
      clear hK K
      refine wpAnyH_take (i := 9) (v := .slice A5 (es.length + 1) c5) rfl (by kernel_rfl) (by kernel_rfl) (by kernel_rfl) (fun _ _ _ h => h) (.inl ⟨by rfl, fun W hS => by go_simp⟩) hHeld ?_
      simp only [Act.put, List.setIfInBounds_toArray, List.set_cons_zero, List.set_cons_succ, List.getElem_toArray, List.getElem_cons_succ, List.getElem_cons_zero]
      refine wpAnyH_done (by kernel_rfl) ?_ _
      clear hHeld
      have HMY : Hid (Calls Tryd.prog 53 #[.slice A5 (es.length + 1) c5] w9 fun e w' => e = .returned (.bool (checkB (es ++ [(⟨a, n, ys, [], []⟩ : EntP)]))) ∧ Below w9.heap.size w9 w') := by
        obtain ⟨A6, c6, e6, hrd6⟩ := HO6.out.reads
        rw [show (es ++ [(⟨a, n, ys, [], []⟩ : EntP)]).length = es.length + 1 by simp] at e6 hrd6
        injection e6 with e7 _ e8
        subst e7 e8
        exact May_calls _ _ _ _ _ hrd6
      generalize hes : es ++ [(⟨a, n, ys, [], []⟩ : EntP)] = es' at *
      have HES := Lib.hid hes
      clear hes hB6
      go_wp2_with (go_at_call 53; refine HMY.out.mono ?_; rintro e w7 ⟨rfl, hb7⟩)
      go_ret2
      rw [HR.out]
      refine ⟨HB7.out.trans (hb7.mono (Nat.le_trans HB.out HB7.out.size)), ?_⟩
      cases hck : checkB es' with
      | false => exact ⟨_, rfl⟩
      | true => exact ⟨_, rfl, HO6.out.keeps (KeepsLo.below hb7)⟩
end Go.Proofs.YtfjfjjcdlgdbcaaDoor
namespace Go.Proofs.YtfjfjjcdlgdbcaaDoor
open Go.RowKit Go.Shelf
set_option linter.unusedSimpArgs false
set_option linter.unusedVariables false

set_option maxRecDepth 100000 in
set_option maxHeartbeats 1000000 in
theorem line_a7 (A : Option Addr) (c : Nat) (es : List EntP) (x : List UInt8) (B : Nat) (w : World) (h : OwnE w B (.slice A es.length c) es) (hB : B ≤ w.heap.size) (hx : x.length ≤ 1000000) (s1 s2 s3 s4 : List UInt8) (hws : splitL 32 x = [accW, s1, s2, s3, s4]) (a : List UInt8) (ha : unhexW s1 = (a, true)) (hal : a.length = 20) (n m : Nat) (h2 : undecL s2 = some n) (h3 : undecL s3 = some m) (hn : n < 18446744073709551616) (u : List UInt8) (h4 : s4 ≠ [46]) (hu4 : unhexW s4 = (u, false)) (r : Option (List EntP)) (hr : r = none) :
    Calls Tryd.prog 62 #[.slice A es.length c, .string (str x)] w (LineEnd B w r) := by
  have hwd0 := words_ready x w hx
  rw [hws] at hwd0
  simp only [List.length_cons, List.length_nil, Nat.zero_add, Nat.reduceAdd] at hwd0
  have hwd := Lib.hid hwd0
  have l1 : s1.length ≤ 100000000 := by have := split_small x s1 (by rw [hws]; simp); omega
  have l2 : s2.length ≤ 100000000 := by have := split_small x s2 (by rw [hws]; simp); omega
  have l3 : s3.length ≤ 100000000 := by have := split_small x s3 (by rw [hws]; simp); omega
  have l4 : s4.length ≤ 100000000 := by have := split_small x s4 (by rw [hws]; simp); omega
  have hu1 := Lib.hid (fun W => unhex101_p s1 a true ha l1 W)
  have hn2 := Lib.hid (fun W => undec102_n s2 n h2 l2 W)
  have hn3 := Lib.hid (fun W => undec102_n s3 m h3 l3 W)
  rw [hal] at hu1
  have hqa : ((str accW).toList == [97, 99, 99, 111, 117, 110, 116]) = true := by rw [str_list]; decide
  have hnt : n < top256 := (undecL_some h2).2
  have HXV : Hid (valW (beL n 32) = n) := valW_be n hnt
  have HxL : Hid ((beL n 32).length = 32) := beL_length _ _
  have HyL : Hid ((beL m 32).length = 32) := beL_length _ _
  have HR := Lib.hid hr
  have hq4 : ((str s4).toList == [46]) = false := by rw [str_list, beq_eq_false_iff_ne]; exact h4
  have hq5 : ((str s4).toList != [46]) = true := by rw [str_list]; simpa using h4
  have hu := Lib.hid (fun W => unhex101_p s4 u false hu4 l4 W)
  have HB := Lib.hid hB
  have HAL := Lib.hid hal
  have HN := Lib.hid hn
  clear hwd0 hws ha h2 h3 l1 l2 l3 hnt hal hB hn hr h l4 h4 hu4
  generalize beL n 32 = xs at *
  generalize beL m 32 = ys at *
  have hTx : Hid (AggT Tryd.prog 61 (bvs xs).toArray.size) := (by rw [List.size_toArray, bvs_length, HxL.out]; exact Tryd.agg61d); have hsx : Hid ((bvs xs).toArray.size = 32) := (by rw [List.size_toArray, bvs_length, HxL.out]; trivial)
  have hTy : Hid (AggT Tryd.prog 61 (bvs ys).toArray.size) := (by rw [List.size_toArray, bvs_length, HyL.out]; exact Tryd.agg61d); have hsy : Hid ((bvs ys).toArray.size = 32) := (by rw [List.size_toArray, bvs_length, HyL.out]; trivial)
  have hTl : Hid (AggT Tryd.prog 61 (bvs ys).length) := by rw [bvs_length, HyL.out]; exact Tryd.agg61d
  have HFI : Hid (EntP.Fit (balE ys)) := balE_fit ys HyL.out
  have HFE : Hid (∀ v, v < 18446744073709551616 → EntP.Fit ⟨a, v, ys, [], []⟩) := fun v hv => ent_fit a ys v [] HAL.out HyL.out hv
  generalize hsw : accW = s0 at *
  clear hsw
  go_enter Tryd.func62, Tryd.ntmps62
  go_upto_region 4 with (first | (go_at_call 100; refine hwd.out.mono ?_; rintro e w1 ⟨q, rc, rfl, hcells, hrlt, hrw, hlc, hcm, hb1⟩; have c0 : w1.cell? ⟨q, 0, none⟩ = some (.string (str s0)) := hcells 0 _ rfl; have c1 : w1.cell? ⟨q, 1, none⟩ = some (.string (str s1)) := hcells 1 _ rfl; have c2 : w1.cell? ⟨q, 2, none⟩ = some (.string (str s2)) := hcells 2 _ rfl; have c3 : w1.cell? ⟨q, 3, none⟩ = some (.string (str s3)) := hcells 3 _ rfl; have c4 : w1.cell? ⟨q, 4, none⟩ = some (.string (str s4)) := hcells 4 _ rfl; clear hcells) | (go_at_call 101; (with_reducible refine (hu1.out w1).mono ?_); rintro e w2 ⟨A1, k1, rfl, hr1, ho1, hb2⟩; have d2 : w2.cell? ⟨q, 2, none⟩ = some (.string (str s2)) := cell_below' hb2 c2))
  go_upto_region 5 with (first | (go_at_call 102; (with_reducible refine (hn2.out w2).mono ?_); rintro e w3 ⟨rfl, hb3⟩; have d3 : ∀ o, (w3.alloc o).cell? ⟨q, 3, none⟩ = some (.string (str s3)) := fun o => cell_below' (al (thn hb2 hb3) o) c3) | (refine wpList_storeNew rfl rfl 61 (.tmp 9) _ rfl _ _ rfl (bvs xs).toArray rfl hTx.out (by rw [hsx.out]; rfl) (oneCell_bvs _) ?_))
  go_upto_region 8 with (first | (go_at_call 102; (with_reducible refine (hn3.out (w3.alloc _)).mono ?_); rintro e w4 ⟨rfl, hb4⟩) | (refine wpList_storeNew rfl rfl 61 (.tmp 11) _ rfl _ _ rfl (bvs ys).toArray rfl hTy.out (by rw [hsy.out]; rfl) (oneCell_bvs _) ?_))
  have hTlc : CellsAt (w4.alloc (.cells (bvs ys).toArray 61)) w4.heap.size 0 (bvs ys) := cellsAt_blk (Blk.new w4 61 _)
  have hBn0 : Blk (w4.alloc (.cells (bvs ys).toArray 61)) w3.heap.size 61 (bvs xs).toArray := Blk.alloc (t := 61) ((hb4.block w3.heap.size (by simp)).trans (Blk.new w3 61 _)) _
  have hb15 : Below w1.heap.size w1 (w4.alloc (.cells (bvs ys).toArray 61)) := al (thn (al (thn hb2 hb3) _) hb4) _
  have hr15 : RdB (w4.alloc (.cells (bvs ys).toArray 61)) A1 20 k1 a := hr1.below (al (thn (al hb3 _) hb4) _)
  have hz3 : w.heap.size ≤ w3.heap.size := by have := hb1.size; have := hb2.size; have := hb3.size; omega
  have hz4 : w3.heap.size < (w4.alloc (.cells (bvs ys).toArray 61)).heap.size := by have := hb4.size; simp at this ⊢; omega
  have hz1 : q < w3.heap.size := by have := hb2.size; have := hb3.size; omega
  have hbw0 : Below w.heap.size w (w4.alloc (.cells (bvs ys).toArray 61)) := hb1.trans (hb15.mono hb1.size)
  have hc40 := cell_below' hb15 c4
  have HRW := Lib.hid hrw
  clear hb1 hb2 hb3 hb4 hb15 hr1 ho1 d2 d3 c0 c1 c2 c3 c4 hlc hcm hrlt hrw
  generalize w4.alloc (.cells (bvs ys).toArray 61) = w5 at *
  generalize w4.heap.size = L at *
  generalize w3.heap.size = N at *
  clear w2 w3 w4 w1
  go_upto_region 9 with (first | (refine wpList_loadAgg rfl 61 (.tmp 11) rfl L 0 rfl (bvs ys) hTl.out hTlc ?_) | (refine wpList_build79b rfl (.tmp 70) rfl ys HyL.out rfl ?_) | (refine wpList_storeNew rfl rfl 79 (.tmp 13) _ rfl _ _ rfl (ek (balE ys) (.slice none 0 0) (.slice none 0 0)) rfl (ek_aggS _ _ _ HFI.out) (by rw [ek_size _ _ _ HFI.out] <;> rfl) (ek_one _ _ _ _ _ _ _) ?_))
  have hcp := copy_bal w5 ys a A1 k1 HyL.out hr15
  go_wp2_with fail
  have hBn := Blk.alloc (t := 61) hBn0 (.cells (ek ⟨a, 0, ys, [], []⟩ (.slice none 0 0) (.slice none 0 0)) 79)
  have hBe := Blk.new w5 79 (ek ⟨a, 0, ys, [], []⟩ (.slice none 0 0) (.slice none 0 0))
  have hbw := al hbw0 (.cells (ek ⟨a, 0, ys, [], []⟩ (.slice none 0 0) (.slice none 0 0)) 79)
  have hc4 := cell_below' (al (Below.refl _ _) (.cells (ek ⟨a, 0, ys, [], []⟩ (.slice none 0 0) (.slice none 0 0)) 79)) hc40
  clear hcp hTlc hBn0 hr15 hbw0 hc40
  generalize w5.alloc (.cells (ek ⟨a, 0, ys, [], []⟩ (.slice none 0 0) (.slice none 0 0)) 79) = WL at *
  generalize w5.heap.size = M at *
  clear w5
  go_loopw [14] (fun i wr => ∃ k : Nat, k ≤ 32 ∧ i = .int .i64 k ∧ Blk wr N 61 (bvs xs).toArray ∧ Blk wr M 79 (ek ⟨a, valW (xs.take k), ys, [], []⟩ (.slice none 0 0) (.slice none 0 0)) ∧ wr.cell? ⟨q, 4, none⟩ = some (.string (str s4)) ∧ Below w.heap.size w wr ∧ WL.heap.size ≤ wr.heap.size) (fun i _ => 32 - (intOf i).toNat)
  case atStart => exact ⟨0, by omega, rfl, hBn, hBe, hc4, hbw, Nat.le_refl _⟩
  case round =>
    obtain ⟨k, hk, rfl, hBnr, hBer, hc4r, hbwr, hszr⟩ := hrel
    have HBN := Lib.hid hBnr
    have HBE := Lib.hid hBer
    have HBW := Lib.hid hbwr
    have HC4 := Lib.hid hc4r
    have HSZ := Lib.hid hszr
    obtain ⟨wo, rfl⟩ : ∃ wo : World, wo = wr := ⟨_, rfl⟩
    by_cases hlt : k < 32
    · have hsm := bytes_small xs n HxL.out HXV.out HN.out k hlt
      have HSM := Lib.hid hsm
      have hcx : wo.cell? ⟨N, k, none⟩ = some (.int .u8 ((xs.getD k 0).toNat : Int)) := by rw [hBnr.cell, List.getElem?_toArray]; exact bvs_get (by rw [List.getD_eq_getElem?_getD, List.getElem?_eq_getElem (by rw [HxL.out]; omega)]; rfl)
      have hce : wo.cell? ⟨M, 20, none⟩ = some (.int .u64 (valW (xs.take k) : Int)) := by rw [hBer.cell]; exact ek_nonce _ _ _ (HFE.out _ (by omega))
      have hfe := hBer.frozen 20
      have hset := hBer.set_ 20 (.int .u64 ((valW (xs.take (k + 1)) : Nat) : Int))
      rw [set_enonce _ _ _ _ (HFE.out _ (by omega))] at hset
      have HSET := Lib.hid hset
      have HFAR := Lib.hid (hBnr.far (p := ⟨M, 20, none⟩) (by show N ≠ M; omega) (.int .u64 ((valW (xs.take (k + 1)) : Nat) : Int)))
      have HST := Lib.hid (valW_step xs k (by rw [HxL.out]; omega))
      have hb0 := (xs.getD k 0).toNat_lt
      by_cases h24 : k < 24
      · obtain ⟨hz1', hz2'⟩ := bytes_zero xs n HxL.out HXV.out HN.out k h24
        have hv1 : valW (xs.take (k + 1)) = 0 := by rw [HST.out, hz2', hz1']; rfl
        have hkI : (0 : Int) ≤ (k : Int) ∧ (k : Int) < 24 := by omega
        rw [hz1'] at hcx
        rw [hz2'] at hce
        have hcx' : wo.cell? ⟨N, k, none⟩ = some (.int .u8 0) := hcx
        have hce' : wo.cell? ⟨M, 20, none⟩ = some (.int .u64 0) := hce
        have HV1 := Lib.hid hv1
        rw [hv1] at HSET HFAR
        clear hcx hce hz1' hz2' hBnr hBer hbwr hset HST hb0 hsm hv1
        go_wp2
        go_region
        all_goals go_wp2
        go_roundw
        case rel => exact ⟨k + 1, by omega, by go_num, (HFAR.out : Blk _ N 61 _).drew, (by rw [HV1.out]; exact (HSET.out : Blk _ M 79 _).drew), cell_setFar HC4.out (by show q ≠ M; omega), (HBW.out.setCell (by show w.heap.size ≤ M; omega) _).drew, by simp; exact HSZ.out⟩
        case measure => simp [intOf]; omega
      · have hkI : ¬ (k : Int) < 24 := by omega
        have hkJ : (0 : Int) ≤ (k : Int) ∧ (k : Int) < 32 := by omega
        have HMA := Lib.hid (show IntKind.u64.wrap (IntKind.u64.wrap (256 * (valW (xs.take k) : Int)) + ((xs.getD k 0).toNat : Int)) = ((valW (xs.take (k + 1)) : Nat) : Int) from by rw [mul_add65, Nat.mod_eq_of_lt (by omega), HST.out])
        clear hBnr hBer hbwr hset HST hsm h24
        generalize hvv : valW (xs.take (k + 1)) = v' at *
        have HVV := Lib.hid hvv
        clear hvv
        generalize valW (xs.take k) = v at *
        generalize (xs.getD k 0).toNat = b at *
        go_wp2
        go_region
        all_goals go_wp2
        go_roundw
        case rel => rw [HMA.out]; exact ⟨k + 1, by omega, by go_num, (HFAR.out : Blk _ N 61 _).drew, (by rw [HVV.out]; exact (HSET.out : Blk _ M 79 _).drew), cell_setFar HC4.out (by show q ≠ M; omega), (HBW.out.setCell (by show w.heap.size ≤ M; omega) _).drew, by simp; exact HSZ.out⟩
        case measure => simp [intOf]; omega
    · obtain rfl : k = 32 := by omega
      rw [bytes_all xs n HxL.out HXV.out] at hBer
      clear HBE
      clear hBnr hBer hBn hBe hlt
      go_wp2_with (go_at_call 101; (with_reducible refine (hu.out wo).mono ?_); rintro e w5 ⟨A2, k2, rfl, hr2, ho2, hb5⟩)
      go_ret2
      rw [HR.out]
      exact ⟨(thn hbwr hb5).mono HB.out, _, rfl⟩
end Go.Proofs.YtfjfjjcdlgdbcaaDoor
namespace Go.Proofs.YtfjfjjcdlgdbcaaDoor
open Go.RowKit Go.Shelf
set_option linter.unusedSimpArgs false
set_option linter.unusedVariables false

set_option maxRecDepth 100000 in
set_option maxHeartbeats 1000000 in
theorem line_a8 (A : Option Addr) (c : Nat) (es : List EntP) (x : List UInt8) (B : Nat) (w : World) (h : OwnE w B (.slice A es.length c) es) (hB : B ≤ w.heap.size) (hx : x.length ≤ 1000000) (s1 s2 s3 s4 : List UInt8) (hws : splitL 32 x = [accW, s1, s2, s3, s4]) (a : List UInt8) (ha : unhexW s1 = (a, true)) (hal : a.length = 20) (n m : Nat) (h2 : undecL s2 = some n) (h3 : undecL s3 = some m) (hn : n < 18446744073709551616) (u : List UInt8) (h4 : s4 ≠ [46]) (hu4 : unhexW s4 = (u, true)) (hm : es.length ≤ 100000000) (r : Option (List EntP)) (hr : r = if checkB (es ++ [⟨a, n, beL m 32, u, []⟩]) = true then some (es ++ [⟨a, n, beL m 32, u, []⟩]) else none) :
    Calls Tryd.prog 62 #[.slice A es.length c, .string (str x)] w (LineEnd B w r) := by
  have hwd0 := words_ready x w hx
  rw [hws] at hwd0
  simp only [List.length_cons, List.length_nil, Nat.zero_add, Nat.reduceAdd] at hwd0
  have hwd := Lib.hid hwd0
  have l1 : s1.length ≤ 100000000 := by have := split_small x s1 (by rw [hws]; simp); omega
  have l2 : s2.length ≤ 100000000 := by have := split_small x s2 (by rw [hws]; simp); omega
  have l3 : s3.length ≤ 100000000 := by have := split_small x s3 (by rw [hws]; simp); omega
  have l4 : s4.length ≤ 100000000 := by have := split_small x s4 (by rw [hws]; simp); omega
  have hu1 := Lib.hid (fun W => unhex101_p s1 a true ha l1 W)
  have hn2 := Lib.hid (fun W => undec102_n s2 n h2 l2 W)
  have hn3 := Lib.hid (fun W => undec102_n s3 m h3 l3 W)
  rw [hal] at hu1
  have hqa : ((str accW).toList == [97, 99, 99, 111, 117, 110, 116]) = true := by rw [str_list]; decide
  have hnt : n < top256 := (undecL_some h2).2
  have HXV : Hid (valW (beL n 32) = n) := valW_be n hnt
  have HxL : Hid ((beL n 32).length = 32) := beL_length _ _
  have HyL : Hid ((beL m 32).length = 32) := beL_length _ _
  have HR := Lib.hid hr
  have hq4 : ((str s4).toList == [46]) = false := by rw [str_list, beq_eq_false_iff_ne]; exact h4
  have hq5 : ((str s4).toList != [46]) = true := by rw [str_list]; simpa using h4
  have hu := Lib.hid (fun W => unhex101_p s4 u true hu4 l4 W)
  have HO := Lib.hid h
  have HM := Lib.hid hm
  have HB := Lib.hid hB
  have HAL := Lib.hid hal
  have HN := Lib.hid hn
  clear hwd0 hws ha h2 h3 l1 l2 l3 hnt hal hB hn hr h l4 h4 hu4 hm
  generalize beL n 32 = xs at *
  generalize beL m 32 = ys at *
  have hTx : Hid (AggT Tryd.prog 61 (bvs xs).toArray.size) := (by rw [List.size_toArray, bvs_length, HxL.out]; exact Tryd.agg61d); have hsx : Hid ((bvs xs).toArray.size = 32) := (by rw [List.size_toArray, bvs_length, HxL.out]; trivial)
  have hTy : Hid (AggT Tryd.prog 61 (bvs ys).toArray.size) := (by rw [List.size_toArray, bvs_length, HyL.out]; exact Tryd.agg61d); have hsy : Hid ((bvs ys).toArray.size = 32) := (by rw [List.size_toArray, bvs_length, HyL.out]; trivial)
  have hTl : Hid (AggT Tryd.prog 61 (bvs ys).length) := by rw [bvs_length, HyL.out]; exact Tryd.agg61d
  have HFI : Hid (EntP.Fit (balE ys)) := balE_fit ys HyL.out
  have HFE : Hid (∀ v, v < 18446744073709551616 → EntP.Fit ⟨a, v, ys, [], []⟩) := fun v hv => ent_fit a ys v [] HAL.out HyL.out hv
  generalize hsw : accW = s0 at *
  clear hsw
  go_enter Tryd.func62, Tryd.ntmps62
  go_upto_region 4 with (first | (go_at_call 100; refine hwd.out.mono ?_; rintro e w1 ⟨q, rc, rfl, hcells, hrlt, hrw, hlc, hcm, hb1⟩; have c0 : w1.cell? ⟨q, 0, none⟩ = some (.string (str s0)) := hcells 0 _ rfl; have c1 : w1.cell? ⟨q, 1, none⟩ = some (.string (str s1)) := hcells 1 _ rfl; have c2 : w1.cell? ⟨q, 2, none⟩ = some (.string (str s2)) := hcells 2 _ rfl; have c3 : w1.cell? ⟨q, 3, none⟩ = some (.string (str s3)) := hcells 3 _ rfl; have c4 : w1.cell? ⟨q, 4, none⟩ = some (.string (str s4)) := hcells 4 _ rfl; clear hcells) | (go_at_call 101; (with_reducible refine (hu1.out w1).mono ?_); rintro e w2 ⟨A1, k1, rfl, hr1, ho1, hb2⟩; have d2 : w2.cell? ⟨q, 2, none⟩ = some (.string (str s2)) := cell_below' hb2 c2))
  go_upto_region 5 with (first | (go_at_call 102; (with_reducible refine (hn2.out w2).mono ?_); rintro e w3 ⟨rfl, hb3⟩; have d3 : ∀ o, (w3.alloc o).cell? ⟨q, 3, none⟩ = some (.string (str s3)) := fun o => cell_below' (al (thn hb2 hb3) o) c3) | (refine wpList_storeNew rfl rfl 61 (.tmp 9) _ rfl _ _ rfl (bvs xs).toArray rfl hTx.out (by rw [hsx.out]; rfl) (oneCell_bvs _) ?_))
  go_upto_region 8 with (first | (go_at_call 102; (with_reducible refine (hn3.out (w3.alloc _)).mono ?_); rintro e w4 ⟨rfl, hb4⟩) | (refine wpList_storeNew rfl rfl 61 (.tmp 11) _ rfl _ _ rfl (bvs ys).toArray rfl hTy.out (by rw [hsy.out]; rfl) (oneCell_bvs _) ?_))
  have hTlc : CellsAt (w4.alloc (.cells (bvs ys).toArray 61)) w4.heap.size 0 (bvs ys) := cellsAt_blk (Blk.new w4 61 _)
  have hBn0 : Blk (w4.alloc (.cells (bvs ys).toArray 61)) w3.heap.size 61 (bvs xs).toArray := Blk.alloc (t := 61) ((hb4.block w3.heap.size (by simp)).trans (Blk.new w3 61 _)) _
  have hb15 : Below w1.heap.size w1 (w4.alloc (.cells (bvs ys).toArray 61)) := al (thn (al (thn hb2 hb3) _) hb4) _
  have hr15 : RdB (w4.alloc (.cells (bvs ys).toArray 61)) A1 20 k1 a := hr1.below (al (thn (al hb3 _) hb4) _)
  have hz3 : w.heap.size ≤ w3.heap.size := by have := hb1.size; have := hb2.size; have := hb3.size; omega
  have hz4 : w3.heap.size < (w4.alloc (.cells (bvs ys).toArray 61)).heap.size := by have := hb4.size; simp at this ⊢; omega
  have hz1 : q < w3.heap.size := by have := hb2.size; have := hb3.size; omega
  have hbw0 : Below w.heap.size w (w4.alloc (.cells (bvs ys).toArray 61)) := hb1.trans (hb15.mono hb1.size)
  have hc40 := cell_below' hb15 c4
  have HRW := Lib.hid hrw
  clear hb1 hb2 hb3 hb4 hb15 hr1 ho1 d2 d3 c0 c1 c2 c3 c4 hlc hcm hrlt hrw
  generalize w4.alloc (.cells (bvs ys).toArray 61) = w5 at *
  generalize w4.heap.size = L at *
  generalize w3.heap.size = N at *
  clear w2 w3 w4 w1
  go_upto_region 9 with (first | (refine wpList_loadAgg rfl 61 (.tmp 11) rfl L 0 rfl (bvs ys) hTl.out hTlc ?_) | (refine wpList_build79b rfl (.tmp 70) rfl ys HyL.out rfl ?_) | (refine wpList_storeNew rfl rfl 79 (.tmp 13) _ rfl _ _ rfl (ek (balE ys) (.slice none 0 0) (.slice none 0 0)) rfl (ek_aggS _ _ _ HFI.out) (by rw [ek_size _ _ _ HFI.out] <;> rfl) (ek_one _ _ _ _ _ _ _) ?_))
  have hcp := copy_bal w5 ys a A1 k1 HyL.out hr15
  go_wp2_with fail
  have hBn := Blk.alloc (t := 61) hBn0 (.cells (ek ⟨a, 0, ys, [], []⟩ (.slice none 0 0) (.slice none 0 0)) 79)
  have hBe := Blk.new w5 79 (ek ⟨a, 0, ys, [], []⟩ (.slice none 0 0) (.slice none 0 0))
  have hbw := al hbw0 (.cells (ek ⟨a, 0, ys, [], []⟩ (.slice none 0 0) (.slice none 0 0)) 79)
  have hc4 := cell_below' (al (Below.refl _ _) (.cells (ek ⟨a, 0, ys, [], []⟩ (.slice none 0 0) (.slice none 0 0)) 79)) hc40
  clear hcp hTlc hBn0 hr15 hbw0 hc40
  generalize w5.alloc (.cells (ek ⟨a, 0, ys, [], []⟩ (.slice none 0 0) (.slice none 0 0)) 79) = WL at *
  generalize w5.heap.size = M at *
  clear w5
  go_loopw [14] (fun i wr => ∃ k : Nat, k ≤ 32 ∧ i = .int .i64 k ∧ Blk wr N 61 (bvs xs).toArray ∧ Blk wr M 79 (ek ⟨a, valW (xs.take k), ys, [], []⟩ (.slice none 0 0) (.slice none 0 0)) ∧ wr.cell? ⟨q, 4, none⟩ = some (.string (str s4)) ∧ Below w.heap.size w wr ∧ WL.heap.size ≤ wr.heap.size) (fun i _ => 32 - (intOf i).toNat)
  case atStart => exact ⟨0, by omega, rfl, hBn, hBe, hc4, hbw, Nat.le_refl _⟩
  case round =>
    obtain ⟨k, hk, rfl, hBnr, hBer, hc4r, hbwr, hszr⟩ := hrel
    have HBN := Lib.hid hBnr
    have HBE := Lib.hid hBer
    have HBW := Lib.hid hbwr
    have HC4 := Lib.hid hc4r
    have HSZ := Lib.hid hszr
    obtain ⟨wo, rfl⟩ : ∃ wo : World, wo = wr := ⟨_, rfl⟩
    by_cases hlt : k < 32
    · have hsm := bytes_small xs n HxL.out HXV.out HN.out k hlt
      have HSM := Lib.hid hsm
      have hcx : wo.cell? ⟨N, k, none⟩ = some (.int .u8 ((xs.getD k 0).toNat : Int)) := by rw [hBnr.cell, List.getElem?_toArray]; exact bvs_get (by rw [List.getD_eq_getElem?_getD, List.getElem?_eq_getElem (by rw [HxL.out]; omega)]; rfl)
      have hce : wo.cell? ⟨M, 20, none⟩ = some (.int .u64 (valW (xs.take k) : Int)) := by rw [hBer.cell]; exact ek_nonce _ _ _ (HFE.out _ (by omega))
      have hfe := hBer.frozen 20
      have hset := hBer.set_ 20 (.int .u64 ((valW (xs.take (k + 1)) : Nat) : Int))
      rw [set_enonce _ _ _ _ (HFE.out _ (by omega))] at hset
      have HSET := Lib.hid hset
      have HFAR := Lib.hid (hBnr.far (p := ⟨M, 20, none⟩) (by show N ≠ M; omega) (.int .u64 ((valW (xs.take (k + 1)) : Nat) : Int)))
      have HST := Lib.hid (valW_step xs k (by rw [HxL.out]; omega))
      have hb0 := (xs.getD k 0).toNat_lt
      by_cases h24 : k < 24
      · obtain ⟨hz1', hz2'⟩ := bytes_zero xs n HxL.out HXV.out HN.out k h24
        have hv1 : valW (xs.take (k + 1)) = 0 := by rw [HST.out, hz2', hz1']; rfl
        have hkI : (0 : Int) ≤ (k : Int) ∧ (k : Int) < 24 := by omega
        rw [hz1'] at hcx
        rw [hz2'] at hce
        have hcx' : wo.cell? ⟨N, k, none⟩ = some (.int .u8 0) := hcx
        have hce' : wo.cell? ⟨M, 20, none⟩ = some (.int .u64 0) := hce
        have HV1 := Lib.hid hv1
        rw [hv1] at HSET HFAR
        clear hcx hce hz1' hz2' hBnr hBer hbwr hset HST hb0 hsm hv1
        go_wp2
        go_region
        all_goals go_wp2
        go_roundw
        case rel => exact ⟨k + 1, by omega, by go_num, (HFAR.out : Blk _ N 61 _).drew, (by rw [HV1.out]; exact (HSET.out : Blk _ M 79 _).drew), cell_setFar HC4.out (by show q ≠ M; omega), (HBW.out.setCell (by show w.heap.size ≤ M; omega) _).drew, by simp; exact HSZ.out⟩
        case measure => simp [intOf]; omega
      · have hkI : ¬ (k : Int) < 24 := by omega
        have hkJ : (0 : Int) ≤ (k : Int) ∧ (k : Int) < 32 := by omega
        have HMA := Lib.hid (show IntKind.u64.wrap (IntKind.u64.wrap (256 * (valW (xs.take k) : Int)) + ((xs.getD k 0).toNat : Int)) = ((valW (xs.take (k + 1)) : Nat) : Int) from by rw [mul_add65, Nat.mod_eq_of_lt (by omega), HST.out])
        clear hBnr hBer hbwr hset HST hsm h24
        generalize hvv : valW (xs.take (k + 1)) = v' at *
        have HVV := Lib.hid hvv
        clear hvv
        generalize valW (xs.take k) = v at *
        generalize (xs.getD k 0).toNat = b at *
        go_wp2
        go_region
        all_goals go_wp2
        go_roundw
        case rel => rw [HMA.out]; exact ⟨k + 1, by omega, by go_num, (HFAR.out : Blk _ N 61 _).drew, (by rw [HVV.out]; exact (HSET.out : Blk _ M 79 _).drew), cell_setFar HC4.out (by show q ≠ M; omega), (HBW.out.setCell (by show w.heap.size ≤ M; omega) _).drew, by simp; exact HSZ.out⟩
        case measure => simp [intOf]; omega
    · obtain rfl : k = 32 := by omega
      rw [bytes_all xs n HxL.out HXV.out] at hBer
      clear HBE
      have HB7 := Lib.hid hBer
      clear hBnr hBer hBn hBe hlt
      go_upto_region 21 with (go_at_call 101; (with_reducible refine (hu.out wo).mono ?_); rintro e w5 ⟨A2, k2, rfl, hr2, ho2, hb5⟩; have hB5 : Blk w5 M 79 (ek ⟨a, n, ys, [], []⟩ (.slice none 0 0) (.slice none 0 0)) := (hb5.block M HB7.out.lt).trans HB7.out; have hc53 : w5.cell? ⟨M, 53, none⟩ = some (.slice none 0 0) := (by rw [hB5.cell]; exact ek_tail _ _ _ (HFE.out _ HN.out) 0); have hf53 := hB5.frozen 53)
      have hB6 := hB5.set_ 53 (.slice A2 u.length k2)
      rw [set_ecode _ _ _ _ u (HFE.out _ HN.out)] at hB6
      have hbW : Below w.heap.size w (w5.setCell ⟨M, 53, none⟩ (.slice A2 u.length k2)) := (thn hbwr hb5).setCell (by show w.heap.size ≤ M; omega) _
      have hcd : CodeAt (w5.setCell ⟨M, 53, none⟩ (.slice A2 u.length k2)).drew B (.slice A2 u.length k2) u := ((code_own ho2 rfl (Nat.le_refl wo.heap.size)).keeps (w' := (w5.setCell ⟨M, 53, none⟩ (.slice A2 u.length k2)).drew) ⟨by simp, fun i h1 _ => Below.heap_setCell w5 ⟨M, 53, none⟩ _ i (by have := HB7.out.lt; show i ≠ M; omega)⟩).mono (Nat.le_trans HB.out hbwr.size)
      clear hB5 hc53 hf53 hr2 ho2 hb5
      generalize w5.setCell ⟨M, 53, none⟩ (.slice A2 u.length k2) = w6 at *
      have hfe : EntP.Fit (⟨a, n, ys, u, []⟩ : EntP) := ent_fit a ys n u HAL.out HyL.out HN.out
      have hcl : es.length ≤ c := by
        obtain ⟨A9, c9, e9, h9⟩ := HO.out.reads
        injection e9 with _ _ e9
        subst e9
        exact h9.2.1
      have hcl2 : ¬ c < es.length := by omega
      have hadd : Option.map (fun x : Addr => x.add 0) A = A := by
        cases A with
        | none => rfl
        | some x => simp [Addr.add]
      have hi79 : Hid ((Tryd.prog.info? 79).map (·.size) = some (ek (⟨a, n, ys, u, []⟩ : EntP) (.slice A2 u.length k2) (.slice none 0 0)).toList.length) := by rw [Array.length_toList, ek_size _ _ _ hfe]; exact Tryd.agg79.2
      have HSE := Lib.hid (ek_size (⟨a, n, ys, u, []⟩ : EntP) (.slice A2 u.length k2) (.slice none 0 0) hfe)
      obtain ⟨A5, c5, w9, hrun0, hO6, hB7, hK7⟩ := acc_push HO.out HB.out HM.out (⟨a, n, ys, u, []⟩ : EntP) (.slice A2 u.length k2) hfe rfl (W := w6.drew) (hbW.trans (drawn_below' _ _ 1 hbW.size)) hcd
      rw [World.alloc_drew, World.size_drew] at hrun0
      have hrun := Lib.hid hrun0
      have HO6 := Lib.hid hO6
      have HB7 := Lib.hid hB7
      have HCA : Hid (∀ V, Below w6.heap.size w6 V → CellsAt V M 0 (ek (⟨a, n, ys, u, []⟩ : EntP) (.slice A2 u.length k2) (.slice none 0 0)).toList) := fun V hV => (cellsAt_blk hB6).below hV
      have HC9 : Hid (CellsAt w9 M 0 (ek (⟨a, n, ys, u, []⟩ : EntP) (.slice A2 u.length k2) (.slice none 0 0)).toList) := cellsAt_blk ((hK7 M hB6.lt).trans hB6)
      clear hrun0 hO6 hB7 hfe hK7 hcd
      refine wp_region_held_drew (S := fun V => CellsAt V M 0 (ek (⟨a, n, ys, u, []⟩ : EntP) (.slice A2 u.length k2) (.slice none 0 0)).toList) (by kernel_rfl) (HCA.out _ (drawn_below' _ _ 1 (Nat.le_refl _))) (fun hHeld => ?_)
      refine wpAnyH_take (i := 0) (v := .slice A es.length c) rfl (by kernel_rfl) (by kernel_rfl) (by kernel_rfl) (fun _ _ _ h => h) (.inl ⟨by rfl, fun W hS => by go_simp⟩) hHeld ?_
      simp only [Act.put, List.setIfInBounds_toArray, List.set_cons_zero, List.set_cons_succ, List.getElem_toArray, List.getElem_cons_succ, List.getElem_cons_zero]
      refine wpAnyH_take (i := 1) (v := .slice A es.length c) rfl (by kernel_rfl) (by kernel_rfl) (by kernel_rfl) (fun _ _ _ h => h) (.inl ⟨by rfl, fun W hS => by go_simp⟩) hHeld ?_
      simp only [Act.put, List.setIfInBounds_toArray, List.set_cons_zero, List.set_cons_succ, List.getElem_toArray, List.getElem_cons_succ, List.getElem_cons_zero]
      refine wpAnyH_take (i := 2) (v := .int .i64 (es.length : Int)) rfl (by kernel_rfl) (by kernel_rfl) (by kernel_rfl) (fun _ _ _ h => h) (.inl ⟨by rfl, fun W hS => by go_simp⟩) hHeld ?_
      simp only [Act.put, List.setIfInBounds_toArray, List.set_cons_zero, List.set_cons_succ, List.getElem_toArray, List.getElem_cons_succ, List.getElem_cons_zero]
      refine wpAnyH_take (i := 3) (v := .slice A es.length c) rfl (by kernel_rfl) (by kernel_rfl) (by kernel_rfl) (fun _ _ _ h => h) (.inl ⟨by rfl, fun W hS => by go_simp⟩) hHeld ?_
      simp only [Act.put, List.setIfInBounds_toArray, List.set_cons_zero, List.set_cons_succ, List.getElem_toArray, List.getElem_cons_succ, List.getElem_cons_zero]
      refine wpAnyH_take (i := 4) (v := .int .i64 (es.length : Int)) rfl (by kernel_rfl) (by kernel_rfl) (by kernel_rfl) (fun _ _ _ h => h) (.inl ⟨by rfl, fun W hS => by go_simp⟩) hHeld ?_
      simp only [Act.put, List.setIfInBounds_toArray, List.set_cons_zero, List.set_cons_succ, List.getElem_toArray, List.getElem_cons_succ, List.getElem_cons_zero]
      refine wpAnyH_take (i := 5) (v := .slice A es.length es.length) rfl (by kernel_rfl) (by kernel_rfl) (by kernel_rfl) (fun _ _ _ h => h) (.inl ⟨by rfl, fun W hS => by go_simp⟩) hHeld ?_
      simp only [Act.put, List.setIfInBounds_toArray, List.set_cons_zero, List.set_cons_succ, List.getElem_toArray, List.getElem_cons_succ, List.getElem_cons_zero]
      refine wpAnyH_take (i := 6) (v := .agg (ek (⟨a, n, ys, u, []⟩ : EntP) (.slice A2 u.length k2) (.slice none 0 0)).toList.toArray) rfl (by kernel_rfl) (by kernel_rfl) (by kernel_rfl) (fun _ _ _ h => h) (yieldsIf_load_mid (by rfl) 79 _ rfl M 0 rfl (ek (⟨a, n, ys, u, []⟩ : EntP) (.slice A2 u.length k2) (.slice none 0 0)).toList _ (fun W hS => hS) Tryd.underlying79 rfl hi79.out) hHeld ?_
      simp only [Act.put, List.setIfInBounds_toArray, List.set_cons_zero, List.set_cons_succ, List.getElem_toArray, List.getElem_cons_succ, List.getElem_cons_zero]
      refine wpAnyH_ready (rs := [7]) (by kernel_rfl) (by simp) ?_
      refine AllReadyH.cons rfl (fun K hK => ?_) AllReadyH.nil
      refine armH_buildSlice1 _ 47 79 55 rfl (.tmp 118) rfl (ek (⟨a, n, ys, u, []⟩ : EntP) (.slice A2 u.length k2) (.slice none 0 0)) rfl Tryd.underlying47 Tryd.agg79 (by kernel_rfl) HSE.out (by omega) (by omega) ?_
      simp only [Act.put, List.setIfInBounds_toArray, List.set_cons_zero, List.set_cons_succ, List.getElem_toArray, List.getElem_cons_succ, List.getElem_cons_zero, World.size_drew, World.size_alloc, World.alloc_drew]
      refine hK.out _ _ (HCA.out _ (al (Below.refl _ _) _).drew) (fun hHeld => ?_)
      clear hK K
      refine wpAnyH_ready (rs := [8]) (by kernel_rfl) (by simp) ?_
      refine AllReadyH.cons rfl (fun K hK => ?_) AllReadyH.nil
      refine armH_runT _ 47 rfl (.tmp 117) (.tmp 119) rfl rfl _ _ rfl rfl _ _ hrun.out ?_
      simp only [Act.put, List.setIfInBounds_toArray, List.set_cons_zero, List.set_cons_succ, List.getElem_toArray, List.getElem_cons_succ, List.getElem_cons_zero]
      refine hK.out _ _ HC9.out (fun hHeld => ?_)
      clear hK K
      refine wpAnyH_take (i := 9) (v := .slice A5 (es.length + 1) c5) rfl (by kernel_rfl) (by kernel_rfl) (by kernel_rfl) (fun _ _ _ h => h) (.inl ⟨by rfl, fun W hS => by go_simp⟩) hHeld ?_
      simp only [Act.put, List.setIfInBounds_toArray, List.set_cons_zero, List.set_cons_succ, List.getElem_toArray, List.getElem_cons_succ, List.getElem_cons_zero]
      refine wpAnyH_done (by kernel_rfl) ?_ _
      clear hHeld
      have HMY : Hid (Calls Tryd.prog 53 #[.slice A5 (es.length + 1) c5] w9 fun e w' => e = .returned (.bool (checkB (es ++ [(⟨a, n, ys, u, []⟩ : EntP)]))) ∧ Below w9.heap.size w9 w') := by
        obtain ⟨A6, c6, e6, hrd6⟩ := HO6.out.reads
        rw [show (es ++ [(⟨a, n, ys, u, []⟩ : EntP)]).length = es.length + 1 by simp] at e6 hrd6
        injection e6 with e7 _ e8
        subst e7 e8
        exact May_calls _ _ _ _ _ hrd6
      generalize hes : es ++ [(⟨a, n, ys, u, []⟩ : EntP)] = es' at *
      have HES := Lib.hid hes
      clear hes hB6
      go_wp2_with (go_at_call 53; refine HMY.out.mono ?_; rintro e w7 ⟨rfl, hb7⟩)
      go_ret2
      rw [HR.out]
      refine ⟨HB7.out.trans (hb7.mono (Nat.le_trans HB.out HB7.out.size)), ?_⟩
      cases hck : checkB es' with
      | false => exact ⟨_, rfl⟩
      | true => exact ⟨_, rfl, HO6.out.keeps (KeepsLo.below hb7)⟩
end Go.Proofs.YtfjfjjcdlgdbcaaDoor
namespace Go.Proofs.YtfjfjjcdlgdbcaaDoor
open Go.RowKit Go.Shelf
set_option linter.unusedSimpArgs false
set_option linter.unusedVariables false

set_option maxRecDepth 100000 in
set_option maxHeartbeats 4000000 in
theorem line_b1 (A : Option Addr) (c : Nat) (es : List EntP) (x : List UInt8) (B : Nat) (w : World) (h : OwnE w B (.slice A es.length c) es) (hB : B ≤ w.heap.size) (hx : x.length ≤ 1000000) (s1 s2 : List UInt8) (hws : splitL 32 x = [slotW, s1, s2]) (hno : lineO es x = none) (ka va : List UInt8) (bk bv : Bool) (hk : unhexW s1 = (ka, bk)) (hv : unhexW s2 = (va, bv)) (hes : 0 < es.length) (h1 : bk = false) :
    Calls Tryd.prog 62 #[.slice A es.length c, .string (str x)] w (LineEnd B w (lineO es x)) := by
  rw [hno]
  clear hno
  have hwd0 := words_ready x w hx
  rw [hws] at hwd0
  simp only [List.length_cons, List.length_nil, Nat.zero_add, Nat.reduceAdd] at hwd0
  have hwd := Lib.hid hwd0
  have l1 : s1.length ≤ 100000000 := by have := split_small x s1 (by rw [hws]; simp); omega
  have l2 : s2.length ≤ 100000000 := by have := split_small x s2 (by rw [hws]; simp); omega
  have hu1 := Lib.hid (fun W => unhex101_p s1 ka bk hk l1 W)
  have hu2 := Lib.hid (fun W => unhex101_p s2 va bv hv l2 W)
  have hesI : (0 : Int) < (es.length : Int) := by omega
  have hqa : ((str slotW).toList == [97, 99, 99, 111, 117, 110, 116]) = false := by rw [str_list]; decide
  have hqs : ((str slotW).toList == [115, 108, 111, 116]) = true := by rw [str_list]; decide
  subst h1
  clear hwd0 h hws hk hv l1 l2
  generalize hsw : slotW = s0 at *
  clear hsw
  go_enter Tryd.func62, Tryd.ntmps62
  go_wp2_with (first | (go_at_call 100; refine hwd.out.mono ?_; rintro e w1 ⟨r, rc, rfl, hcells, hrlt, hrw, hlc, hcm, hb1⟩; have c0 : w1.cell? ⟨r, 0, none⟩ = some (.string (str s0)) := hcells 0 _ rfl; have c1 : w1.cell? ⟨r, 1, none⟩ = some (.string (str s1)) := hcells 1 _ rfl; have c2 : w1.cell? ⟨r, 2, none⟩ = some (.string (str s2)) := hcells 2 _ rfl; clear hcells) | (go_at_call 101; (with_reducible refine (hu1.out w1).mono ?_); rintro e w2 ⟨A1, k1, rfl, hr1, ho1, hb2⟩; have d2 : w2.cell? ⟨r, 2, none⟩ = some (.string (str s2)) := cell_below' hb2 c2) | (go_at_call 101; (with_reducible refine (hu2.out w2).mono ?_); rintro e w3 ⟨A2, k2, rfl, hr2, ho2, hb3⟩))
  go_ret2
  exact ⟨(thn (thn hb1 hb2) hb3).mono hB, _, rfl⟩
end Go.Proofs.YtfjfjjcdlgdbcaaDoor
