/- The law ArchiveBack -/
import Derived.Test.YtfjfjjcdlgdbcaaDoorE29
namespace Go.Proofs.YtfjfjjcdlgdbcaaDoor
open Go.RowKit
set_option linter.unusedSimpArgs false
set_option linter.unusedVariables false

theorem parse_some (x : List UInt8) (w : World) {r : Option ActP} {N : ActP} (hr : r = some N) (h : Calls Tryd.prog 37 #[.string (str x)] w (ParseEnd w r)) :
    Calls Tryd.prog 37 #[.string (str x)] w fun e W' => Below w.heap.size w W' ∧ ∃ bA bn bc lA ln lc, e = .returned (.tuple #[.agg (ak N (.slice bA bn bc) (.slice lA ln lc)), .int .i64 0]) ∧ RdAct W' N bA bn bc lA ln lc :=
  h.mono fun e W' ⟨hb, h⟩ => ⟨hb, by
    rcases h with ⟨h, _⟩ | ⟨N', bA, bn, bc, lA, ln, lc, h, he, hrd⟩
    · rw [hr] at h; cases h
    · rw [hr] at h
      obtain rfl := Option.some.inj h
      exact ⟨bA, bn, bc, lA, ln, lc, he, hrd⟩⟩
theorem parse_none (x : List UInt8) (w : World) {r : Option ActP} (hr : r = none) (h : Calls Tryd.prog 37 #[.string (str x)] w (ParseEnd w r)) :
    Calls Tryd.prog 37 #[.string (str x)] w fun e W' => Below w.heap.size w W' ∧ e = .returned (.tuple #[.agg (zk 0), .int .i64 203]) :=
  h.mono fun e W' ⟨hb, h⟩ => ⟨hb, by
    rcases h with ⟨_, h⟩ | ⟨N', bA, bn, bc, lA, ln, lc, h, he, hrd⟩
    · exact h
    · rw [hr] at h; cases h⟩
theorem zk_cell0 (w : World) : (w.alloc (.cells (zk 0) 64)).cell? ⟨w.heap.size, 0, none⟩ = some (.int .i64 0) := (Blk.new w 64 (zk 0)).cell 0
theorem ak_agg (N : ActP) (b l : Value) (h : N.Fit) : Hid (AggT Tryd.prog 64 (ak N b l).size) := by rw [ak_size _ _ _ h]; exact Tryd.agg64
theorem ak_aggL (N : ActP) (b l : Value) (h : N.Fit) : Hid (AggT Tryd.prog 64 (ak N b l).toList.length) := by rw [Array.length_toList, ak_size _ _ _ h]; exact Tryd.agg64

set_option maxRecDepth 100000 in
set_option maxHeartbeats 4000000 in
theorem archiveBack_walk (A : ActP) (bA : Option Addr) (bn bc : Nat) (lA : Option Addr) (ln lc : Nat) (x : List UInt8) (w : World) (h : RdAct w A bA bn bc lA ln lc) (hH : A.Held) (hL : LaidW w) :
    Calls Tryd.prog 11 #[.agg (ak A (.slice bA bn bc) (.slice lA ln lc)), .string (str x)] w fun e w' => e = .returned (.bool true) ∧ Below w.heap.size w w' := by
  have hw0 : Below w.heap.size w (w.alloc (.cells (ak A (.slice bA bn bc) (.slice lA ln lc)) 64)) := al (Below.refl _ _) _
  have hB0 := Lib.hid (Blk.new w 64 (ak A (.slice bA bn bc) (.slice lA ln lc)))
  have hR := Lib.hid (fun W (hW : Below w.heap.size w W) => h.below hW)
  have hLL := Lib.hid (fun W (hW : Below w.heap.size w W) => hL.below hW)
  have hk := Lib.hid (fun W (hW : Below w.heap.size w W) => known20_calls W (hL.below hW))
  have hf := Lib.hid (fun W (hW : Below w.heap.size w W) => few20_calls A bA bn bc lA ln lc W (h.below hW) hH)
  have hT : Hid (AggT Tryd.prog 64 (ak A (.slice bA bn bc) (.slice lA ln lc)).toList.length) := by rw [Array.length_toList, ak_size _ _ _ h.1]; exact Tryd.agg64
  have hag := Lib.hid (fun W (hW : Below (w.alloc (.cells (ak A (.slice bA bn bc) (.slice lA ln lc)) 64)).heap.size (w.alloc (.cells (ak A (.slice bA bn bc) (.slice lA ln lc)) 64)) W) => cellsAt_blk (hB0.out.below hW hB0.out.lt))
  have hFit := Lib.hid h.1
  have hW0 := Lib.hid hw0
  clear h hL hw0
  obtain ⟨w0, hw0⟩ : ∃ w0, w0 = w.alloc (.cells (ak A (.slice bA bn bc) (.slice lA ln lc)) 64) := ⟨_, rfl⟩
  rw [← hw0] at hB0 hag hW0
  have LA : ∀ W, Below w0.heap.size w0 W → Below w.heap.size w W := fun W hW => thn hW0.out hW
  have hx : (str x).size = x.length := rfl
  by_cases hS : A.Tiny
  · by_cases hlen : x.length ≤ 3000
    · have hpr := Lib.hid (fun W (hW : Below w.heap.size w W) => Print_calls A bA bn bc lA ln lc W (hR.out W hW) hS.small (hLL.out W hW))
      have hss : (str x).toList == (str x).toList := by simp
      have hTZ : Hid (AggT Tryd.prog 64 (zk 0).size) := by rw [zk_size]; exact Tryd.agg64
      have hp3g := fun W (hW : Below w.heap.size w W) => Parse_line x W (hLL.out W hW) hlen
      have hlen' : (x.length : Int) ≤ 3000 := by omega
      cases hbad : badA A with
      | true =>
        rw [printV_bad A hbad] at hpr
        cases hpx : parseG pF x with
        | none =>
          have hp3 := Lib.hid (fun W (hW : Below w.heap.size w W) => parse_none _ _ hpx (hp3g W hW))
          clear hpx hbad hS hlen hp3g
          go_enter Tryd.func11, Tryd.ntmps11
          go_wp2_with (first | (go_at_call 33; rw [← hw0]; refine (hk.out _ hW0.out).mono ?_; clear hk; rintro e w1 ⟨rfl, hb1⟩) | (refine wpList_loadAgg rfl 64 (.tmp 2) rfl w.heap.size 0 rfl _ hT.out (hag.out _ (by first | exact thn (thn hb1 hb2) (Below.refl _ _) | exact thn hb1 (Below.refl _ _))) ?_) | (go_at_call 34; refine (hf.out _ (LA _ hb1)).mono ?_; clear hf; rintro e w2 ⟨⟨b, rfl, hsm⟩, hb2⟩) | (go_at_call 35; refine (hpr.out _ (LA _ (thn hb1 hb2))).mono ?_; clear hpr; rintro e w3 ⟨rfl, hb3⟩) | (go_at_call 37; refine (hp3.out _ (LA _ (thn (thn hb1 hb2) hb3))).mono ?_; clear hp3; rintro e w6 ⟨hb6, rfl⟩) | (refine wpList_storeNew rfl rfl 64 (.tmp 11) _ rfl _ _ rfl (zk 0) rfl hTZ.out (by rw [zk_size]; rfl) (zk_oneCell 0) ?_; have hc11 := zk_cell0 w6))
          · go_ret
            exact ⟨rfl, LA _ (thn (thn (thn hb1 hb2) hb3) (thn hb6 (al (Below.refl _ _) _)))⟩
          · go_ret
            exact ⟨rfl, LA _ (thn hb1 hb2)⟩
        | some B =>
          obtain ⟨hB1, hB2, hB3⟩ := parseG_some _ _ hpx
          have hbv : printV B = .tuple #[.string (str x), .int .i64 0] := by rw [printV_ok _ hB2, hB3]
          have hp3 := Lib.hid (fun W (hW : Below w.heap.size w W) => parse_some _ _ hpx (hp3g W hW))
          have hp4 := Lib.hid (fun W bA bn bc lA ln lc (hrd : RdAct W B bA bn bc lA ln lc) (hW : Below w.heap.size w W) => by have := Print_calls B bA bn bc lA ln lc W hrd (parseFs_small x hlen _ B hB1) (hLL.out W hW); rw [hbv] at this; exact this)
          clear hB1 hB2 hB3 hbv
          clear hpx hbad hS hlen hp3g
          go_enter Tryd.func11, Tryd.ntmps11
          go_wp2_with (first | (go_at_call 33; rw [← hw0]; refine (hk.out _ hW0.out).mono ?_; clear hk; rintro e w1 ⟨rfl, hb1⟩) | (refine wpList_loadAgg rfl 64 (.tmp 2) rfl w.heap.size 0 rfl _ hT.out (hag.out _ (by first | exact thn (thn hb1 hb2) (Below.refl _ _) | exact thn hb1 (Below.refl _ _))) ?_) | (go_at_call 34; refine (hf.out _ (LA _ hb1)).mono ?_; clear hf; rintro e w2 ⟨⟨b, rfl, hsm⟩, hb2⟩) | (go_at_call 35; refine (hpr.out _ (LA _ (thn hb1 hb2))).mono ?_; clear hpr; rintro e w3 ⟨rfl, hb3⟩) | (go_at_call 37; refine (hp3.out _ (LA _ (thn (thn hb1 hb2) hb3))).mono ?_; clear hp3; rintro e w6 ⟨hb6, bA2, bn2, bc2, lA2, ln2, lc2, rfl, hrd2⟩) | (refine wpList_storeNew rfl rfl 64 (.tmp 11) _ rfl _ _ rfl (ak B (.slice bA2 bn2 bc2) (.slice lA2 ln2 lc2)) rfl (ak_agg _ _ _ hrd2.1).out (by rw [ak_size _ _ _ hrd2.1]; rfl) (ak_oneCell _ _ _ _ _ _ _) ?_) | (refine wpList_loadAgg rfl 64 (.tmp 11) rfl w6.heap.size 0 rfl _ (ak_aggL _ _ _ hrd2.1).out (cellsAt_blk (Blk.new w6 64 _)) ?_) | (go_at_call 35; refine (hp4.out _ _ _ _ _ _ _ (hrd2.below (al (Below.refl _ w6) _)) (LA _ (thn (thn (thn hb1 hb2) hb3) (thn hb6 (al (Below.refl _ _) _))))).mono ?_; clear hp4; rintro e w7 ⟨rfl, hb7⟩))
          · go_ret
            exact ⟨rfl, LA _ (thn (thn (thn hb1 hb2) hb3) (thn (thn hb6 (al (Below.refl _ _) _)) hb7))⟩
          · go_ret
            exact ⟨rfl, LA _ (thn hb1 hb2)⟩
      | false =>
        rw [printV_ok A hbad] at hpr
        have hsp : (str (printT A)).toList == (str (printT A)).toList := by simp
        have hp1 := Lib.hid (fun W (hW : Below w.heap.size w W) => parse_some _ _ rfl (Parse_printed A hFit.out hS hbad W (hLL.out W hW)))
        have hnv : printV (normA A) = .tuple #[.string (str (printT A)), .int .i64 0] := by rw [printV_ok _ (by rw [norm_bad]; exact hbad), norm_text A (by unfold badA at hbad; simp at hbad; exact hbad.1)]
        have hp2 := Lib.hid (fun W bA bn bc lA ln lc (hrd : RdAct W (normA A) bA bn bc lA ln lc) (hW : Below w.heap.size w W) => by have := Print_calls (normA A) bA bn bc lA ln lc W hrd (norm_small A hS) (hLL.out W hW); rw [hnv] at this; exact this)
        have hnk := norm_kind A
        have hk2 : w0.cell? ⟨w.heap.size, 0, none⟩ = some (.int .i64 A.kind) := by rw [hB0.out.cell]; exact ak_0 A _ _
        have hck := Lib.hid (fun W (hW : Below w0.heap.size w0 W) => cell_below' hW hk2)
        cases hpx : parseG pF x with
        | none =>
          have hp3 := Lib.hid (fun W (hW : Below w.heap.size w W) => parse_none _ _ hpx (hp3g W hW))
          clear hpx hbad hS hlen hp3g hnv hk2
          go_enter Tryd.func11, Tryd.ntmps11
          go_wp2_with (first | (go_at_call 33; rw [← hw0]; refine (hk.out _ hW0.out).mono ?_; clear hk; rintro e w1 ⟨rfl, hb1⟩) | (refine wpList_loadAgg rfl 64 (.tmp 2) rfl w.heap.size 0 rfl _ hT.out (hag.out _ (by first | exact thn (thn hb1 hb2) (Below.refl _ _) | exact thn hb1 (Below.refl _ _))) ?_) | (go_at_call 34; refine (hf.out _ (LA _ hb1)).mono ?_; clear hf; rintro e w2 ⟨⟨b, rfl, hsm⟩, hb2⟩) | (go_at_call 35; refine (hpr.out _ (LA _ (thn hb1 hb2))).mono ?_; clear hpr; rintro e w3 ⟨rfl, hb3⟩) | (go_at_call 37; refine (hp1.out _ (LA _ (thn (thn hb1 hb2) hb3))).mono ?_; clear hp1; rintro e w4 ⟨hb4, bA1, bn1, bc1, lA1, ln1, lc1, rfl, hrd1⟩; have hcell0 := ak_0 (normA A) (.slice bA1 bn1 bc1) (.slice lA1 ln1 lc1)) | (refine wpList_storeNew rfl rfl 64 (.tmp 7) _ rfl _ _ rfl (ak (normA A) (.slice bA1 bn1 bc1) (.slice lA1 ln1 lc1)) rfl (ak_agg _ _ _ hrd1.1).out (by rw [ak_size _ _ _ hrd1.1]; rfl) (ak_oneCell _ _ _ _ _ _ _) ?_) | (refine wpList_loadAgg rfl 64 (.tmp 7) rfl w4.heap.size 0 rfl _ (ak_aggL _ _ _ hrd1.1).out (cellsAt_blk (Blk.new w4 64 _)) ?_) | (go_at_call 35; refine (hp2.out _ _ _ _ _ _ _ (hrd1.below (al (Below.refl _ w4) _)) (LA _ (thn (thn (thn (thn hb1 hb2) hb3) hb4) (al (Below.refl _ _) _)))).mono ?_; clear hp2; rintro e w5 ⟨rfl, hb5⟩; have hc7 := ((Blk.new w4 64 (ak (normA A) (.slice bA1 bn1 bc1) (.slice lA1 ln1 lc1))).below hb5 (by simp)).cell 0; rw [ak_0] at hc7; have hkc := hck.out _ (thn (thn (thn (thn hb1 hb2) hb3) hb4) (thn (al (Below.refl _ _) _) hb5))) | (go_at_call 37; refine (hp3.out _ (LA _ (thn (thn (thn (thn hb1 hb2) hb3) hb4) (thn (al (Below.refl _ _) _) hb5)))).mono ?_; clear hp3; rintro e w6 ⟨hb6, rfl⟩) | (refine wpList_storeNew rfl rfl 64 (.tmp 11) _ rfl _ _ rfl (zk 0) rfl hTZ.out (by rw [zk_size]; rfl) (zk_oneCell 0) ?_; have hc11 := zk_cell0 w6))
          · go_ret
            exact ⟨rfl, LA _ (thn (thn (thn (thn (thn hb1 hb2) hb3) hb4) (thn (al (Below.refl _ _) _) hb5)) (thn hb6 (al (Below.refl _ _) _)))⟩
          · go_ret
            exact ⟨rfl, LA _ (thn hb1 hb2)⟩
        | some B =>
          obtain ⟨hB1, hB2, hB3⟩ := parseG_some _ _ hpx
          have hbv : printV B = .tuple #[.string (str x), .int .i64 0] := by rw [printV_ok _ hB2, hB3]
          have hp3 := Lib.hid (fun W (hW : Below w.heap.size w W) => parse_some _ _ hpx (hp3g W hW))
          have hp4 := Lib.hid (fun W bA bn bc lA ln lc (hrd : RdAct W B bA bn bc lA ln lc) (hW : Below w.heap.size w W) => by have := Print_calls B bA bn bc lA ln lc W hrd (parseFs_small x hlen _ B hB1) (hLL.out W hW); rw [hbv] at this; exact this)
          clear hB1 hB2 hB3 hbv
          clear hpx hbad hS hlen hp3g hnv hk2
          go_enter Tryd.func11, Tryd.ntmps11
          go_wp2_with (first | (go_at_call 33; rw [← hw0]; refine (hk.out _ hW0.out).mono ?_; clear hk; rintro e w1 ⟨rfl, hb1⟩) | (refine wpList_loadAgg rfl 64 (.tmp 2) rfl w.heap.size 0 rfl _ hT.out (hag.out _ (by first | exact thn (thn hb1 hb2) (Below.refl _ _) | exact thn hb1 (Below.refl _ _))) ?_) | (go_at_call 34; refine (hf.out _ (LA _ hb1)).mono ?_; clear hf; rintro e w2 ⟨⟨b, rfl, hsm⟩, hb2⟩) | (go_at_call 35; refine (hpr.out _ (LA _ (thn hb1 hb2))).mono ?_; clear hpr; rintro e w3 ⟨rfl, hb3⟩) | (go_at_call 37; refine (hp1.out _ (LA _ (thn (thn hb1 hb2) hb3))).mono ?_; clear hp1; rintro e w4 ⟨hb4, bA1, bn1, bc1, lA1, ln1, lc1, rfl, hrd1⟩; have hcell0 := ak_0 (normA A) (.slice bA1 bn1 bc1) (.slice lA1 ln1 lc1)) | (refine wpList_storeNew rfl rfl 64 (.tmp 7) _ rfl _ _ rfl (ak (normA A) (.slice bA1 bn1 bc1) (.slice lA1 ln1 lc1)) rfl (ak_agg _ _ _ hrd1.1).out (by rw [ak_size _ _ _ hrd1.1]; rfl) (ak_oneCell _ _ _ _ _ _ _) ?_) | (refine wpList_loadAgg rfl 64 (.tmp 7) rfl w4.heap.size 0 rfl _ (ak_aggL _ _ _ hrd1.1).out (cellsAt_blk (Blk.new w4 64 _)) ?_) | (go_at_call 35; refine (hp2.out _ _ _ _ _ _ _ (hrd1.below (al (Below.refl _ w4) _)) (LA _ (thn (thn (thn (thn hb1 hb2) hb3) hb4) (al (Below.refl _ _) _)))).mono ?_; clear hp2; rintro e w5 ⟨rfl, hb5⟩; have hc7 := ((Blk.new w4 64 (ak (normA A) (.slice bA1 bn1 bc1) (.slice lA1 ln1 lc1))).below hb5 (by simp)).cell 0; rw [ak_0] at hc7; have hkc := hck.out _ (thn (thn (thn (thn hb1 hb2) hb3) hb4) (thn (al (Below.refl _ _) _) hb5))) | (go_at_call 37; refine (hp3.out _ (LA _ (thn (thn (thn (thn hb1 hb2) hb3) hb4) (thn (al (Below.refl _ _) _) hb5)))).mono ?_; clear hp3; rintro e w6 ⟨hb6, bA2, bn2, bc2, lA2, ln2, lc2, rfl, hrd2⟩) | (refine wpList_storeNew rfl rfl 64 (.tmp 11) _ rfl _ _ rfl (ak B (.slice bA2 bn2 bc2) (.slice lA2 ln2 lc2)) rfl (ak_agg _ _ _ hrd2.1).out (by rw [ak_size _ _ _ hrd2.1]; rfl) (ak_oneCell _ _ _ _ _ _ _) ?_) | (refine wpList_loadAgg rfl 64 (.tmp 11) rfl w6.heap.size 0 rfl _ (ak_aggL _ _ _ hrd2.1).out (cellsAt_blk (Blk.new w6 64 _)) ?_) | (go_at_call 35; refine (hp4.out _ _ _ _ _ _ _ (hrd2.below (al (Below.refl _ w6) _)) (LA _ (thn (thn (thn (thn (thn hb1 hb2) hb3) hb4) (thn (al (Below.refl _ _) _) hb5)) (thn hb6 (al (Below.refl _ _) _))))).mono ?_; clear hp4; rintro e w7 ⟨rfl, hb7⟩))
          · go_ret
            exact ⟨rfl, LA _ (thn (thn (thn (thn (thn hb1 hb2) hb3) hb4) (thn (al (Below.refl _ _) _) hb5)) (thn (thn hb6 (al (Below.refl _ _) _)) hb7))⟩
          · go_ret
            exact ⟨rfl, LA _ (thn hb1 hb2)⟩
    · have hlen' : ¬ (x.length : Int) ≤ 3000 := by omega
      clear hS hlen
      go_enter Tryd.func11, Tryd.ntmps11
      go_wp2_with (first | (go_at_call 33; rw [← hw0]; refine (hk.out _ hW0.out).mono ?_; rintro e w1 ⟨rfl, hb1⟩) | (refine wpList_loadAgg rfl 64 _ rfl w.heap.size 0 rfl _ hT.out (hag.out _ (thn hb1 (Below.refl _ _))) ?_) | (go_at_call 34; refine (hf.out _ (LA _ hb1)).mono ?_; rintro e w2 ⟨⟨b, rfl, hsm⟩, hb2⟩))
      · go_ret
        exact ⟨rfl, LA _ (thn hb1 hb2)⟩
      · go_ret
        exact ⟨rfl, LA _ (thn hb1 hb2)⟩
  · go_enter Tryd.func11, Tryd.ntmps11
    go_wp2_with (first | (go_at_call 33; rw [← hw0]; refine (hk.out _ hW0.out).mono ?_; rintro e w1 ⟨rfl, hb1⟩) | (refine wpList_loadAgg rfl 64 _ rfl w.heap.size 0 rfl _ hT.out (hag.out _ (thn hb1 (Below.refl _ _))) ?_) | (go_at_call 34; refine (hf.out _ (LA _ hb1)).mono ?_; rintro e w2 ⟨⟨b, rfl, hsm⟩, hb2⟩; obtain rfl : b = false := by (cases b; rfl; exact absurd (hsm rfl) hS)))
    go_ret
    exact ⟨rfl, LA _ (thn hb1 hb2)⟩
end Go.Proofs.YtfjfjjcdlgdbcaaDoor
