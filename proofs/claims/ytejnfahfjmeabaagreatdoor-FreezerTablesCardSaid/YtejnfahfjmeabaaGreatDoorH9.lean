/- the texts M53, M54, M55, M56, M57 of this proof, one behind the other -/
import Derived.Test.YtejnfahfjmeabaaGreatDoorH8
set_option linter.unusedSimpArgs false
set_option linter.unusedVariables false
namespace Go.Proofs.YtejnfahfjmeabaaGreatDoor
open Go.RowKit
set_option linter.unusedSimpArgs false
set_option linter.unusedVariables false

def BegErr (w : World) (n : Nat) (e : Ending) (w' : World) : Prop := ∃ v, e = .returned v ∧ ErrR w' v n ∧ Below w.heap.size w w'
set_option maxRecDepth 100000 in
set_option maxHeartbeats 1000000 in
theorem begins_other (s : Blocks) (f d cap : Nat) (D : HdS) (num : Nat) (fs : FileS) (T T0 : List (List UInt8)) (rest : List UInt8) (sd : Blocks) (A : Option Addr) (c : Nat) (iv : Value) (q : Blocks) (w : World)
    (h : FrzP w s f d cap D true num fs T 0 z0 false false sd A c iv q) (hg : Glob w) (hT : TabsOk T) (hT0 : TabsOk T0) (hC : Calm D) (hb : fs.bytes = headL T0 ++ rest) (hl : fs.bytes.length ≤ 67108864) (hne : T0 ≠ T) :
    Calls Tryz.prog 35 #[.pointer (some ⟨f, 0, none⟩)] w (BegErr w 120) := by
  have c0 : w.cell? ⟨f, 0, none⟩ = some (.pointer (some ⟨d, 0, none⟩)) := h.blk.cell 0
  have HRD := Lib.hid (dRead_calls d cap D true num fs sd w h.disk hC.down (by omega))
  have H := Lib.hid h
  have HG := Lib.hid hg
  have HT := Lib.hid hT
  have HT0 := Lib.hid hT0
  have HB := Lib.hid hb
  have HNE := Lib.hid hne
  have hq13 : decide (0 = 13) = false := rfl
  clear h hg hT hT0 hC hb hne
  have hnm : (⟨#[111, 108, 100, 45, 108, 111, 103]⟩ : ByteArray) = str fName := rfl
  go_enter Tryz.func35, Tryz.ntmps35
  rw [hnm]
  clear hnm
  generalize str fName = nmS at *
  go_wp2_with fail
  refine HRD.out.mono ?_
  rintro e w1 ⟨v1, rfl, ho1, hb1⟩
  have HO1 := Lib.hid ho1
  have HB1 := Lib.hid hb1
  clear ho1 hb1
  go_wp2_with fail
  refine (is_calls 0 13 w1).mono ?_
  rintro e w2 ⟨rfl, rfl⟩
  obtain ⟨A1, c1, hv1, hr1⟩ := HO1.out.reads
  subst hv1
  have HUF := Lib.hid (Unframe_calls A1 fs.bytes.length c1 fs.bytes w2 hr1 (by omega))
  have huf : unframeL crcN fs.bytes = (tabB T0, (headL T0).length, 0) := by
    rw [HB.out]
    exact unframe_frame crcN crcN_lt (tabB T0) rest (Nat.le_trans (tabB_len HT0.out) (by omega))
  unfold UnfR at HUF
  rw [huf] at HUF
  clear huf hr1
  go_wp2_with fail
  refine HUF.out.mono ?_
  rintro e w3 ⟨v3, rfl, ho3, hb3⟩
  obtain ⟨A3, c3, hv3, hr3⟩ := OwnB.reads ho3
  subst hv3
  have HB3 := Lib.hid (thn HB1.out hb3)
  have hcv := run_convertB (P := Tryz.prog) w3.drew 34 5 9 Tryz.underlying34 Tryz.underlying5 Tryz.underlying9 (hr3.below ((Below.refl _ _).drew))
  have hF3 := H.out.below HB3.out
  have s1 : w3.cell? ⟨f, 1, none⟩ = some (.slice A T.length c) := hF3.blk.cell 1
  have HSP := Lib.hid (Split_calls (tabB T0) w3.drew (Nat.le_trans (tabB_len HT0.out) (by omega)) (HG.out.below HB3.out.drew))
  rw [split_tab HT0.out] at HSP
  have hTl := HT0.out.2.1
  have HEQ : Hid (Calls Tryz.prog 58 #[.slice (some ⟨w3.drew.heap.size, 0, none⟩) T0.length T0.length, .slice A T.length c] (w3.drew.alloc (.cells (svs T0).toArray 9)) fun e w' => e = .returned (.bool (decide (T0 = T))) ∧ Below (w3.drew.alloc (.cells (svs T0).toArray 9)).heap.size (w3.drew.alloc (.cells (svs T0).toArray 9)) w') := by
    refine Calls.mono (Equal_calls w3.drew.heap.size T0.length A T.length c T0 T _ (fun j s hs => ?_) (hF3.tab.below (((Below.refl _ _).drew).alloc (Nat.le_refl _) _)) HT.out.1 (by omega) (by have := HT.out.2.1; omega)) (fun e w' hx => ⟨hx.1, by obtain ⟨q, hq⟩ := hx.2; rw [hq]; exact below_drewN q⟩)
    rw [(Blk.new w3.drew 9 (svs T0).toArray).cell, Nat.zero_add]
    show ((svs T0).toArray)[j]? = _
    rw [List.getElem?_toArray]
    unfold svs
    rw [List.getElem?_map, hs]
    rfl
  rw [decide_eq_false HNE.out] at HEQ
  have s1a : (w3.drew.alloc (.cells (svs T0).toArray 9)).cell? ⟨f, 1, none⟩ = some (.slice A T.length c) := cell_below' (((Below.refl _ w3).drew).alloc (Nat.le_refl _) _) s1
  have s1d : w3.drew.cell? ⟨f, 1, none⟩ = some (.slice A T.length c) := s1
  obtain ⟨tl, htl⟩ : ∃ tl, tl = (tabB T0).length := ⟨_, rfl⟩
  rw [← htl] at hcv ⊢
  have HBA : Hid (Below w.heap.size w (w3.drew.alloc (.cells (svs T0).toArray 9))) := by
    have h1 := HB3.out.drew
    exact h1.alloc h1.size _
  have hcvA : ∀ W, Below w3.drew.heap.size w3.drew W → (convert 34 9 (.slice A3 tl c3)).run Tryz.prog W = .ok (.string (str (tabB T0))) W := fun W hW => by
    rw [htl]
    exact run_convertB (P := Tryz.prog) W 34 5 9 Tryz.underlying34 Tryz.underlying5 Tryz.underlying9 ((hr3.below ((Below.refl _ _).drew)).below hW)
  have hcva := hcvA _ ((Below.refl _ w3.drew).alloc (Nat.le_refl _) (.cells (svs T0).toArray 9))
  have HCVA := Lib.hid hcvA
  clear ho3 hb3 hr3 hF3 htl hTl hcvA
  go_wp2_with fail
  go_region_held3 (fun W => W.cell? ⟨f, 1, none⟩ = some (.slice A T.length c) ∧ (convert 34 9 (.slice A3 tl c3)).run Tryz.prog W = .ok (.string (str (tabB T0))) W) (first | exact ⟨s1d, hcv⟩ | exact ⟨s1a, hcva⟩ | exact ⟨s1q, hcvq⟩) (first | (go_at_call 59; refine HSP.out.mono ?_; rintro e w4 ⟨rfl, rfl⟩) | (go_at_call 58; refine HEQ.out.mono ?_; rintro e w6 ⟨rfl, hb6⟩; have s1q := cell_below' hb6 s1a; have hcvq := HCVA.out w6 (thn ((Below.refl _ w3.drew).alloc (Nat.le_refl _) _) hb6)))
  have HBQ : Hid (Below w.heap.size w w6) := thn HBA.out hb6
  clear hb6
  clear s1a s1d s1q s1 hcv hcva hcvq
  go_wp2_with fail
  refine (failOf_calls _ 120 w6).mono ?_
  rintro e w7 ⟨v7, rfl, hv7, hb7⟩
  have hfin : Hid (BegErr w 120 (.returned v7) w7) := ⟨v7, rfl, hv7, thn HBQ.out hb7⟩
  clear hv7 hb7
  go_wp2_with fail
  go_ret
  exact hfin.out
set_option maxRecDepth 100000 in
set_option maxHeartbeats 1000000 in
theorem begins_same (s : Blocks) (f d cap : Nat) (D : HdS) (num : Nat) (fs : FileS) (T : List (List UInt8)) (sd : Blocks) (A : Option Addr) (c : Nat) (iv : Value) (q : Blocks) (w : World)
    (h : FrzP w s f d cap D true num fs T 0 z0 false false sd A c iv q) (hg : Glob w) (hT : TabsOk T) (hC : Calm D) (hb : fs.bytes = headL T ++ []) (hl : fs.bytes.length ≤ 67108864) (hf : D.files ≤ 1048576) (hcn : D.count ≤ 4611686018427380000) :
    Calls Tryz.prog 35 #[.pointer (some ⟨f, 0, none⟩)] w (BeginsR w s f d cap D.tick.tick num fs.settled T (headL T).length z0) := by
  have c0 : w.cell? ⟨f, 0, none⟩ = some (.pointer (some ⟨d, 0, none⟩)) := h.blk.cell 0
  have HRD := Lib.hid (dRead_calls d cap D true num fs sd w h.disk hC.down (by omega))
  have H := Lib.hid h
  have HG := Lib.hid hg
  have HT := Lib.hid hT
  have HB := Lib.hid hb
  have HCC := Lib.hid (show D.files ≤ 1048576 ∧ D.count ≤ 4611686018427380000 from ⟨hf, hcn⟩)
  have HC := Lib.hid hC
  have hq13 : decide (0 = 13) = false := rfl
  clear h hg hT hC hb hf hcn
  have hnm : (⟨#[111, 108, 100, 45, 108, 111, 103]⟩ : ByteArray) = str fName := rfl
  go_enter Tryz.func35, Tryz.ntmps35
  rw [hnm]
  clear hnm
  generalize str fName = nmS at *
  go_wp2_with fail
  refine HRD.out.mono ?_
  rintro e w1 ⟨v1, rfl, ho1, hb1⟩
  have HO1 := Lib.hid ho1
  have HB1 := Lib.hid hb1
  clear ho1 hb1
  go_wp2_with fail
  refine (is_calls 0 13 w1).mono ?_
  rintro e w2 ⟨rfl, rfl⟩
  obtain ⟨A1, c1, hv1, hr1⟩ := HO1.out.reads
  subst hv1
  have HUF := Lib.hid (Unframe_calls A1 fs.bytes.length c1 fs.bytes w2 hr1 (by omega))
  have huf : unframeL crcN fs.bytes = (tabB T, (headL T).length, 0) := by
    rw [HB.out]
    exact unframe_frame crcN crcN_lt (tabB T) [] (Nat.le_trans (tabB_len HT.out) (by omega))
  unfold UnfR at HUF
  rw [huf] at HUF
  have HR1 := Lib.hid hr1
  clear huf hr1
  go_wp2_with fail
  refine HUF.out.mono ?_
  rintro e w3 ⟨v3, rfl, ho3, hb3⟩
  obtain ⟨A3, c3, hv3, hr3⟩ := OwnB.reads ho3
  subst hv3
  have HB3 := Lib.hid (thn HB1.out hb3)
  have HB23 := Lib.hid hb3
  have hcv := run_convertB (P := Tryz.prog) w3.drew 34 5 9 Tryz.underlying34 Tryz.underlying5 Tryz.underlying9 (hr3.below ((Below.refl _ _).drew))
  have hF3 := H.out.below HB3.out
  have s1 : w3.cell? ⟨f, 1, none⟩ = some (.slice A T.length c) := hF3.blk.cell 1
  have HSP := Lib.hid (Split_calls (tabB T) w3.drew (Nat.le_trans (tabB_len HT.out) (by omega)) (HG.out.below HB3.out.drew))
  rw [split_tab HT.out] at HSP
  have hTl := HT.out.2.1
  have HEQ : Hid (Calls Tryz.prog 58 #[.slice (some ⟨w3.drew.heap.size, 0, none⟩) T.length T.length, .slice A T.length c] (w3.drew.alloc (.cells (svs T).toArray 9)) fun e w' => e = .returned (.bool (decide (T = T))) ∧ Below (w3.drew.alloc (.cells (svs T).toArray 9)).heap.size (w3.drew.alloc (.cells (svs T).toArray 9)) w') := by
    refine Calls.mono (Equal_calls w3.drew.heap.size T.length A T.length c T T _ (fun j s hs => ?_) (hF3.tab.below (((Below.refl _ _).drew).alloc (Nat.le_refl _) _)) HT.out.1 (by omega) (by have := HT.out.2.1; omega)) (fun e w' hx => ⟨hx.1, by obtain ⟨q, hq⟩ := hx.2; rw [hq]; exact below_drewN q⟩)
    rw [(Blk.new w3.drew 9 (svs T).toArray).cell, Nat.zero_add]
    show ((svs T).toArray)[j]? = _
    rw [List.getElem?_toArray]
    unfold svs
    rw [List.getElem?_map, hs]
    rfl
  rw [decide_eq_true rfl] at HEQ
  have s1a : (w3.drew.alloc (.cells (svs T).toArray 9)).cell? ⟨f, 1, none⟩ = some (.slice A T.length c) := cell_below' (((Below.refl _ w3).drew).alloc (Nat.le_refl _) _) s1
  have s1d : w3.drew.cell? ⟨f, 1, none⟩ = some (.slice A T.length c) := s1
  obtain ⟨tl, htl⟩ : ∃ tl, tl = (tabB T).length := ⟨_, rfl⟩
  rw [← htl] at hcv ⊢
  have HBA : Hid (Below w.heap.size w (w3.drew.alloc (.cells (svs T).toArray 9))) := by
    have h1 := HB3.out.drew
    exact h1.alloc h1.size _
  have hcvA : ∀ W, Below w3.drew.heap.size w3.drew W → (convert 34 9 (.slice A3 tl c3)).run Tryz.prog W = .ok (.string (str (tabB T))) W := fun W hW => by
    rw [htl]
    exact run_convertB (P := Tryz.prog) W 34 5 9 Tryz.underlying34 Tryz.underlying5 Tryz.underlying9 ((hr3.below ((Below.refl _ _).drew)).below hW)
  have hcva := hcvA _ ((Below.refl _ w3.drew).alloc (Nat.le_refl _) (.cells (svs T).toArray 9))
  have HCVA := Lib.hid hcvA
  clear ho3 hb3 hr3 hF3 htl hTl hcvA
  go_wp2_with fail
  go_region_held3 (fun W => W.cell? ⟨f, 1, none⟩ = some (.slice A T.length c) ∧ (convert 34 9 (.slice A3 tl c3)).run Tryz.prog W = .ok (.string (str (tabB T))) W) (first | exact ⟨s1d, hcv⟩ | exact ⟨s1a, hcva⟩ | exact ⟨s1q, hcvq⟩) (first | (go_at_call 59; refine HSP.out.mono ?_; rintro e w4 ⟨rfl, rfl⟩) | (go_at_call 58; refine HEQ.out.mono ?_; rintro e w6 ⟨rfl, hb6⟩; have s1q := cell_below' hb6 s1a; have hcvq := HCVA.out w6 (thn ((Below.refl _ w3.drew).alloc (Nat.le_refl _) _) hb6)))
  have HBQ : Hid (Below w.heap.size w w6) := thn HBA.out hb6
  have HRX : Hid (RdB w6 A1 fs.bytes.length c1 fs.bytes) := (HR1.out.below (thn (thn HB23.out ((Below.refl _ w3).drew)) (((Below.refl _ w3.drew)).alloc (Nat.le_refl _) _))).below hb6
  clear hb6
  have H6 := Lib.hid (H.out.below HBQ.out)
  have f62 := H6.out.blk.frozen 2
  have c62 : w6.cell? ⟨f, 2, none⟩ = some (.int .i64 0) := H6.out.blk.cell 2
  obtain ⟨hl2, hhl2⟩ : ∃ hl2, hl2 = (headL T).length := ⟨_, rfl⟩
  have hbl : fs.bytes.length = hl2 := by rw [HB.out, List.append_nil, hhl2]
  rw [← hhl2]
  have HHL := Lib.hid hhl2
  rw [hbl] at HRX ⊢
  obtain ⟨w7, hw7⟩ : ∃ w7 : World, w7 = w6.setCell ⟨f, 2, none⟩ (.int .i64 (hl2 : Int)) := ⟨_, rfl⟩
  have hz7 : w7.heap.size = w6.heap.size := by rw [hw7]; simp [World.setCell]
  have H7 := Lib.hid (H6.out.own (size' := hl2) (dead' := false) (closed' := false) (w' := w7) (by rw [hw7]; exact (H6.out.blk.set_ 2 _).eq_ rfl) (fun k hk => by rw [hw7]; exact Below.heap_setCell w6 ⟨f, 2, none⟩ _ k hk) hz7)
  have HA1 : Hid (∀ ad, A1 = some ad → ad.block ≠ f) := fun ad e ef => by
    have h1 := (HO1.out.block ad.block (by rw [e]; rfl)).1
    have := H.out.blk.lt
    omega
  have HR7 : Hid (RdB w7 A1 hl2 c1 fs.bytes) := rdB_keep (t := fun k => k ≠ f) HRX.out (fun k hk => by rw [hw7]; exact Below.heap_setCell w6 ⟨f, 2, none⟩ _ k hk) HA1.out
  have HSB : Hid (∀ B q, B = subA A1 hl2 c1 → q = c1 - hl2 → Calls Tryz.prog 57 #[.slice B 0 q] w7 fun e w' => ∃ v, e = .returned (.tuple #[v, .int .i64 0, .int .i64 20]) ∧ Below w7.heap.size w7 w') := fun B q e1 e2 => by
    subst e1 e2
    have h1 := HR7.out.sub hl2 (Nat.le_refl _)
    rw [Nat.sub_self] at h1
    have h2 : fs.bytes.drop hl2 = [] := List.drop_eq_nil_of_le (by omega)
    rw [h2] at h1
    exact (Unframe_calls _ 0 _ [] w7 h1 (by omega)).mono fun e w' hx => by
      obtain ⟨v, e1, _, e3⟩ := hx
      exact ⟨v, e1, e3⟩
  have c72 : w7.cell? ⟨f, 2, none⟩ = some (.int .i64 (hl2 : Int)) := H7.out.blk.cell 2
  have hlc : hl2 ≤ c1 := HR7.out.2.1
  have U7 : Hid (Upd s s w w7) := by
    rw [hw7]
    exact (Upd.below HBQ.out).setS (.inl H.out.fin) _
  have HSU : Hid (∀ W, Below w7.heap.size w7 W → Calls Tryz.prog 63 #[.pointer (some ⟨f, 0, none⟩)] W (SureR W s f d cap D num fs T hl2 z0 A c iv q)) := fun W hW => sure_calls s f d cap D true num fs T hl2 z0 _ A c _ _ W (H7.out.below hW) HC.out HCC.out.1 HCC.out.2 (by omega)
  have HW7 := Lib.hid hw7
  have hIl : (0 : Int) ≤ (hl2 : Int) ∧ (hl2 : Int) ≤ (c1 : Int) := by omega
  clear s1a s1d s1q s1 hcv hcva hcvq hz7 hhl2 hbl hw7
  go_wp2_with fail
  rw [← HW7.out]
  refine wp_loop_rounds 1 ?_
  rw [rounds_succ]
  by_cases hck : c1 = hl2
  · have HX := Lib.hid (show A1 = subA A1 hl2 c1 ∧ 0 = c1 - hl2 from ⟨by unfold subA; rw [if_pos hck], by omega⟩)
    subst hck
    go_wp2_with fail
    refine (HSB.out _ _ HX.out.1 HX.out.2).mono ?_
    rintro e w8 ⟨v8, rfl, hb8⟩
    have c82 := cell_below' hb8 c72
    have HS8 := Lib.hid (HSU.out w8 hb8)
    have HB8 := Lib.hid hb8
    clear hb8
    go_wp2_with fail
    refine HS8.out.mono ?_
    rintro e w9 ⟨rfl, sd9, H9, U9⟩
    have hfin : Hid (BeginsR w s f d cap D.tick.tick num fs.settled T (headL T).length z0 (.returned .nilIface) w9) := by
      rw [← HHL.out]
      have z8 := HB8.out.size
      have z9 := U9.size
      have z7 := U7.out.size
      refine ⟨rfl, sd9, A, c, _, _, H9.wide (fun k hk => ?_) (grow_lt H.out.lt (by omega)), ?_⟩
      · rcases hk with hk | hk
        · exact .inl hk
        · exact .inr ⟨by omega, hk.2⟩
      · exact (U7.out.thn HB8.out).thenS U9 (fun k hk => .inl hk)
    clear H9 U9
    go_wp2_with fail
    go_ret
    exact hfin.out
  · have HX := Lib.hid (show A1.map (fun x => x.add hl2) = subA A1 hl2 c1 by unfold subA; rw [if_neg hck])
    go_wp2_with fail
    refine (HSB.out _ _ HX.out rfl).mono ?_
    rintro e w8 ⟨v8, rfl, hb8⟩
    have c82 := cell_below' hb8 c72
    have HS8 := Lib.hid (HSU.out w8 hb8)
    have HB8 := Lib.hid hb8
    clear hb8
    go_wp2_with fail
    refine HS8.out.mono ?_
    rintro e w9 ⟨rfl, sd9, H9, U9⟩
    have hfin : Hid (BeginsR w s f d cap D.tick.tick num fs.settled T (headL T).length z0 (.returned .nilIface) w9) := by
      rw [← HHL.out]
      have z8 := HB8.out.size
      have z9 := U9.size
      have z7 := U7.out.size
      refine ⟨rfl, sd9, A, c, _, _, H9.wide (fun k hk => ?_) (grow_lt H.out.lt (by omega)), ?_⟩
      · rcases hk with hk | hk
        · exact .inl hk
        · exact .inr ⟨by omega, hk.2⟩
      · exact (U7.out.thn HB8.out).thenS U9 (fun k hk => .inl hk)
    clear H9 U9
    go_wp2_with fail
    go_ret
    exact hfin.out
end Go.Proofs.YtejnfahfjmeabaaGreatDoor
namespace Go.Proofs.YtejnfahfjmeabaaGreatDoor
open Go.RowKit
set_option linter.unusedSimpArgs false
set_option linter.unusedVariables false

set_option maxRecDepth 100000 in
set_option maxHeartbeats 1000000 in
theorem Open_same (sd : Blocks) (d cap : Nat) (D : HdS) (num : Nat) (fs : FileS) (A : Option Addr) (n c : Nat) (T : List (List UInt8)) (w : World) (hD : DiskF w sd d cap D true num fs) (hg : Glob w) (h : RdT w A n c T) (hT : TabsOk T) (hC : Calm D) (hf : D.files ≤ 1048576) (hc : D.count ≤ 4611686018427360000) (hb : fs.bytes = headL T ++ []) (hl : fs.bytes.length ≤ 67108864) :
    Calls Tryz.prog 9 #[.pointer (some ⟨d, 0, none⟩), .slice A n c] w (OpenR w sd d cap D.tick.tick num fs.settled T (headL T).length z0) := by
  have HR := Lib.hid (right_calls A n c T w h (fun s hs => by have := (hT.2.2.1 s hs).2.1; omega))
  unfold RightR at HR
  rw [tabsB_yes hT] at HR
  have H := Lib.hid h
  have HD := Lib.hid hD
  have HT := Lib.hid hT
  have HC := Lib.hid hC
  have HCC := Lib.hid (show D.files ≤ 1048576 ∧ D.count ≤ 4611686018427360000 from ⟨hf, hc⟩)
  have hn1 : 1 ≤ n := by rw [← h.1]; exact hT.1
  have hn8 : n ≤ 8 := by rw [← h.1]; exact hT.2.1
  have HG := Lib.hid hg
  have HBB := Lib.hid hb
  clear h hT hD hC hf hc hg hb
  go_enter Tryz.func9, Tryz.ntmps9
  go_wp2_with fail
  refine HR.out.mono ?_
  rintro e w1 ⟨rfl, hb1⟩
  have HB1 := Lib.hid hb1
  have HCL := Lib.hid (tClone_calls A n c T w1 (H.out.below hb1) hn1 hn8)
  clear hb1
  go_wp2_with fail
  refine HCL.out.mono ?_
  rintro e w2 ⟨A2, c2, rfl, hr2, hA2, hb2⟩
  have HB2 := Lib.hid (thn HB1.out hb2)
  have hz12 := HB1.out.size
  have hz2 := hb2.size
  obtain ⟨FX, hFX⟩ : ∃ FX : Obj, FX = .cells (zk d (.slice A2 n c2) 0 0 (.slice none 0 0) false false) 80 := ⟨_, rfl⟩
  have hba : Below w2.heap.size w2 (w2.alloc FX) := (Below.refl _ _).alloc (Nat.le_refl _) _
  have hsz : (w2.alloc FX).heap.size = w2.heap.size + 1 := by simp
  have hsd : ∀ k, sd k → k < w.heap.size := HD.out.lt
  have HFN : Hid (FrzP (w2.alloc FX) (grow sd w (w2.alloc FX)) w2.heap.size d cap D true num fs T 0 z0 false false sd A2 c2 (.slice none 0 0) noB) := by
    refine ⟨?_, (HD.out.below HB2.out).below hba, fun k hk => .inl hk, ?_, fun ad e => ?_, .inl ⟨rfl, rfl⟩, fun k hk => hk.elim, .inr ⟨by omega, by omega⟩, fun e => ?_, grow_lt hsd (by omega)⟩
    · rw [hFX, H.out.1]
      exact Blk.new w2 80 _
    · rw [H.out.1]
      exact hr2.below hba
    · have := hA2 ad e
      refine ⟨.inr ⟨by omega, by omega⟩, fun hk => ?_, by omega, fun e => e⟩
      have := hsd _ hk
      omega
    · have := hsd _ e
      omega
  have HBG := Lib.hid (begins_same _ w2.heap.size d cap D num fs T sd A2 c2 _ _ (w2.alloc FX) HFN.out (HG.out.below (thn HB2.out hba)) HT.out HC.out HBB.out hl HCC.out.1 (by have := HCC.out.2; omega))
  have HBA := Lib.hid hba
  have HZ := Lib.hid (show w.heap.size ≤ w2.heap.size ∧ (w2.alloc FX).heap.size = w2.heap.size + 1 from ⟨by omega, hsz⟩)
  have HFX := Lib.hid hFX
  rw [hFX] at HBG
  clear hr2 hA2 hb2 hba hsz hFX
  unfold zk at HBG
  go_wp2_with fail
  refine HBG.out.mono ?_
  rintro e w3 ⟨rfl, sd3, A3, c3, iv3, q3, H3, U3⟩
  have hfin : Hid (OpenR w sd d cap D.tick.tick num fs.settled T (headL T).length z0 (.returned (.tuple #[.pointer (some ⟨w2.heap.size, 0, none⟩), .nilIface])) w3) := by
    have e0 : w2.alloc FX = w2.alloc (.cells #[.pointer (some ⟨d, 0, none⟩), .slice A2 n c2, .int .i64 ((0 : Nat) : Int), .int .i64 ((0 : Nat) : Int), .slice none 0 0, .bool false, .bool false] 80) := by rw [HFX.out]; rfl
    rw [← e0] at H3 U3
    have z1 := HZ.out
    have z3 := U3.size
    refine ⟨w2.heap.size, rfl, ⟨sd3, A3, c3, iv3, q3, H3.wide (fun k hk => ?_) (grow_lt hsd (by omega))⟩, ?_, by omega⟩
    · rcases hk with (hk | hk) | hk
      · exact .inl hk
      · exact .inr ⟨hk.1, by omega⟩
      · exact .inr ⟨by omega, by omega⟩
    · have U1 : Upd sd sd w (w2.alloc FX) := Upd.below (thn HB2.out HBA.out)
      exact U1.thenS U3 (fun k hk => by
        rcases hk with hk | hk
        · exact .inl hk
        · exact .inr hk.1)
  clear H3 U3
  go_wp2_with fail
  go_ret2
  exact hfin.out
set_option maxRecDepth 100000 in
set_option maxHeartbeats 1000000 in
theorem Open_other (sd : Blocks) (d cap : Nat) (D : HdS) (num : Nat) (fs : FileS) (A : Option Addr) (n c : Nat) (T T0 : List (List UInt8)) (w : World) (hD : DiskF w sd d cap D true num fs) (hg : Glob w) (h : RdT w A n c T) (hT : TabsOk T) (hC : Calm D) (hf : D.files ≤ 1048576) (hc : D.count ≤ 4611686018427360000) (hb : fs.bytes = headL T0 ++ []) (hT0 : TabsOk T0) (hne : T0 ≠ T) (hl : fs.bytes.length ≤ 67108864) :
    Calls Tryz.prog 9 #[.pointer (some ⟨d, 0, none⟩), .slice A n c] w (BadR w 120) := by
  have HR := Lib.hid (right_calls A n c T w h (fun s hs => by have := (hT.2.2.1 s hs).2.1; omega))
  unfold RightR at HR
  rw [tabsB_yes hT] at HR
  have H := Lib.hid h
  have HD := Lib.hid hD
  have HT := Lib.hid hT
  have HC := Lib.hid hC
  have HCC := Lib.hid (show D.files ≤ 1048576 ∧ D.count ≤ 4611686018427360000 from ⟨hf, hc⟩)
  have hn1 : 1 ≤ n := by rw [← h.1]; exact hT.1
  have hn8 : n ≤ 8 := by rw [← h.1]; exact hT.2.1
  have HG := Lib.hid hg
  have HBB := Lib.hid hb
  have HT0 := Lib.hid hT0
  have HNE := Lib.hid hne
  clear h hT hD hC hf hc hg hb hT0 hne
  go_enter Tryz.func9, Tryz.ntmps9
  go_wp2_with fail
  refine HR.out.mono ?_
  rintro e w1 ⟨rfl, hb1⟩
  have HB1 := Lib.hid hb1
  have HCL := Lib.hid (tClone_calls A n c T w1 (H.out.below hb1) hn1 hn8)
  clear hb1
  go_wp2_with fail
  refine HCL.out.mono ?_
  rintro e w2 ⟨A2, c2, rfl, hr2, hA2, hb2⟩
  have HB2 := Lib.hid (thn HB1.out hb2)
  have hz12 := HB1.out.size
  have hz2 := hb2.size
  obtain ⟨FX, hFX⟩ : ∃ FX : Obj, FX = .cells (zk d (.slice A2 n c2) 0 0 (.slice none 0 0) false false) 80 := ⟨_, rfl⟩
  have hba : Below w2.heap.size w2 (w2.alloc FX) := (Below.refl _ _).alloc (Nat.le_refl _) _
  have hsz : (w2.alloc FX).heap.size = w2.heap.size + 1 := by simp
  have hsd : ∀ k, sd k → k < w.heap.size := HD.out.lt
  have HFN : Hid (FrzP (w2.alloc FX) (grow sd w (w2.alloc FX)) w2.heap.size d cap D true num fs T 0 z0 false false sd A2 c2 (.slice none 0 0) noB) := by
    refine ⟨?_, (HD.out.below HB2.out).below hba, fun k hk => .inl hk, ?_, fun ad e => ?_, .inl ⟨rfl, rfl⟩, fun k hk => hk.elim, .inr ⟨by omega, by omega⟩, fun e => ?_, grow_lt hsd (by omega)⟩
    · rw [hFX, H.out.1]
      exact Blk.new w2 80 _
    · rw [H.out.1]
      exact hr2.below hba
    · have := hA2 ad e
      refine ⟨.inr ⟨by omega, by omega⟩, fun hk => ?_, by omega, fun e => e⟩
      have := hsd _ hk
      omega
    · have := hsd _ e
      omega
  have HBG := Lib.hid (begins_other _ w2.heap.size d cap D num fs T T0 [] sd A2 c2 _ _ (w2.alloc FX) HFN.out (HG.out.below (thn HB2.out hba)) HT.out HT0.out HC.out HBB.out hl HNE.out)
  have HBA := Lib.hid hba
  have HZ := Lib.hid (show w.heap.size ≤ w2.heap.size ∧ (w2.alloc FX).heap.size = w2.heap.size + 1 from ⟨by omega, hsz⟩)
  have HFX := Lib.hid hFX
  rw [hFX] at HBG
  clear hr2 hA2 hb2 hba hsz hFX
  unfold zk at HBG
  go_wp2_with fail
  refine HBG.out.mono ?_
  rintro e w3 ⟨v3, rfl, hv3, hb3⟩
  rcases hv3 with ⟨h0, _⟩ | ⟨h0, k3, hk3⟩
  · exact absurd h0 (by omega)
  obtain ⟨tt, xx, hvx⟩ := hk3.iface
  subst hvx
  have HV := Lib.hid (show ErrR w3 (.iface tt xx) 120 from .inr ⟨h0, k3, hk3⟩)
  have HB3 : Hid (Below w.heap.size w w3) := by
    have e0 : w2.alloc FX = w2.alloc (.cells #[.pointer (some ⟨d, 0, none⟩), .slice A2 n c2, .int .i64 ((0 : Nat) : Int), .int .i64 ((0 : Nat) : Int), .slice none 0 0, .bool false, .bool false] 80) := by rw [HFX.out]; rfl
    rw [← e0] at hb3
    exact thn (thn HB2.out HBA.out) hb3
  clear hb3 h0 hk3
  go_wp2_with fail
  refine (failIn_calls _ _ 120 w3 HV.out).mono ?_
  rintro e w4 ⟨v4, rfl, hv4, hb4⟩
  have hfin : Hid (BadR w 120 (.returned (.tuple #[.pointer none, v4])) w4) := ⟨v4, rfl, hv4, thn HB3.out hb4⟩
  clear hv4 hb4
  go_wp2_with fail
  go_ret2
  exact hfin.out
set_option maxRecDepth 100000 in
set_option maxHeartbeats 1000000 in
theorem fSync_calls (s : Blocks) (f d cap : Nat) (D : HdS) (b : Bool) (num : Nat) (fs : FileS) (T : List (List UInt8)) (size : Nat) (z : FzS) (w : World) (h : FrzA w s f d cap D b num fs T size z) (hC : Calm D) (hf : D.files ≤ 1048576) (hc : D.count ≤ 4611686018427370000) (hl : fs.bytes.length ≤ 140737488355328) :
    Calls Tryz.prog 19 #[.pointer (some ⟨f, 0, none⟩)] w fun e w' => e = .returned .nilIface ∧ FrzA w' (grow s w w') f d cap D.tick b num fs.settled T size z ∧ Upd s s w w' := by
  obtain ⟨A, c, sd, iv, q, h⟩ := h
  have HAL := Lib.hid (alive_ok f d z.tail size (.slice A T.length c) iv ⟨#[115, 121, 110, 99]⟩ w h.blk)
  have HS := Lib.hid (dSync_calls d cap D b num fs sd w h.disk (hC.fit hf (by omega)) hl)
  have H := Lib.hid h
  have HC := Lib.hid hC
  have hE : ((D.beginsE : Nat) : Int) = 0 := by rw [hC.E]; rfl
  unfold FileOp at HS
  rw [hE] at HS
  have c0 : w.cell? ⟨f, 0, none⟩ = some (.pointer (some ⟨d, 0, none⟩)) := h.blk.cell 0
  clear h hC hE hf hc hl
  have hnm : (⟨#[111, 108, 100, 45, 108, 111, 103]⟩ : ByteArray) = str fName := rfl
  go_enter Tryz.func19, Tryz.ntmps19
  rw [hnm]
  clear hnm
  generalize str fName = nmS at *
  go_wp2_with fail
  refine HAL.out.mono ?_
  rintro e w1 ⟨rfl, rfl⟩
  go_wp2_with fail
  refine HS.out.mono ?_
  rintro e w2 ⟨rfl, hd2, hu2⟩
  rw [if_pos HC.out.E, HC.out.begins] at hd2
  have H2 := Lib.hid (H.out.disked hd2 hu2)
  have HU2 : Hid (Upd s s w1 w2) := (Upd.refl s w1).thenS hu2 (fun k hk => .inl (H.out.sub k hk))
  clear hd2 hu2
  go_wp2_with fail
  refine (failOf_calls _ 0 w2).mono ?_
  rintro e w3 ⟨v, rfl, hv, hb3⟩
  obtain ⟨_, rfl⟩ | ⟨h0, _⟩ := hv
  rotate_left
  · exact absurd rfl h0
  have HD3 := Lib.hid (dies_nil (grow s w1 w2) f d cap D.tick b num fs.settled T size z false A c ⟨#[115, 121, 110, 99]⟩ w3 ⟨_, iv, q, H2.out.below hb3⟩)
  have HB3 := Lib.hid hb3
  clear hb3
  go_wp2_with fail
  refine HD3.out.mono ?_
  rintro e w4 ⟨rfl, hW4, hU4⟩
  have hfin : Hid (FrzA w4 (grow s w1 w4) f d cap D.tick b num fs.settled T size z ∧ Upd s s w1 w4) := by
    have z2 := HU2.out.size
    have z3 := HB3.out.size
    have z4 := hU4.size
    refine ⟨⟨A, c, hW4.wide (fun k hk => ?_) (grow_lt H.out.lt (by omega))⟩, (HU2.out.thn HB3.out).thenS hU4 (fun k hk => ?_)⟩
    · rcases hk with hk | hk
      · exact .inl hk
      · exact .inr ⟨hk.1, by omega⟩
    · rcases hk with hk | hk
      · exact .inl hk
      · exact .inr hk.1
  clear hW4 hU4
  go_wp2_with fail
  go_ret
  exact ⟨rfl, hfin.out⟩
end Go.Proofs.YtejnfahfjmeabaaGreatDoor
namespace Go.Proofs.YtejnfahfjmeabaaGreatDoor
open Go.RowKit
set_option linter.unusedSimpArgs false
set_option linter.unusedVariables false

theorem str_beq (a b : List UInt8) : (str a == str b) = decide (a = b) := by
  by_cases h : a = b
  · subst h
    rw [decide_eq_true rfl]
    exact (MapKept.bytes_beq _ _).2 rfl
  · rw [decide_eq_false h]
    cases hq : str a == str b with
    | false => rfl
    | true => exact absurd (str_inj ((MapKept.bytes_beq _ _).1 hq)) h
set_option maxRecDepth 100000 in
set_option maxHeartbeats 1000000 in
theorem texts_calls (A : Option Addr) (n c : Nat) (X : List (List UInt8)) (B : Option Addr) (m d : Nat) (Y : List (List UInt8)) (w : World) (hX : RdT w A n c X) (hY : RdT w B m d Y) :
    Calls Tryz.prog 20 #[.slice A n c, .slice B m d] w fun e w' => e = .returned (.bool (decide (X = Y))) ∧ Below w.heap.size w w' := by
  have hn : n ≤ 9223372036854775807 := by have := hX.2.1; have := hX.2.2.1; unfold maxLen at this; omega
  have hm : m ≤ 9223372036854775807 := by have := hY.2.1; have := hY.2.2.1; unfold maxLen at this; omega
  have HX := Lib.hid hX
  have HY := Lib.hid hY
  by_cases hl : n = m
  · subst hl
    clear hX hY
    go_enter Tryz.func20, Tryz.ntmps20
    go_wp2_with fail
    go_loopw [5] (fun i wr => ∃ k : Nat, k ≤ n ∧ i = .int .i64 k ∧ X.take k = Y.take k ∧ Below w.heap.size w wr) (fun i _ => n - (intOf i).toNat)
    case atStart => exact ⟨0, by omega, rfl, by simp, Below.refl _ _⟩
    case round =>
      obtain ⟨k, hk, rfl, htk, hb⟩ := hrel
      have HTK := Lib.hid htk
      have HB := Lib.hid hb
      obtain ⟨wo, rfl⟩ : ∃ wo : World, wo = wr := ⟨_, rfl⟩
      by_cases hlt : k < n
      · obtain ⟨g1, o1, rfl, hc1⟩ := HX.out.2.2.2 (by omega)
        obtain ⟨g2, o2, rfl, hc2⟩ := HY.out.2.2.2 (by omega)
        have hx : X[k]? = some (X.getD k []) := by rw [List.getD_eq_getElem?_getD, List.getElem?_eq_getElem (by rw [HX.out.1]; exact hlt)]; rfl
        have hy : Y[k]? = some (Y.getD k []) := by rw [List.getD_eq_getElem?_getD, List.getElem?_eq_getElem (by rw [HY.out.1]; exact hlt)]; rfl
        have x1 := cell_below' hb (hc1 k _ hx)
        have x2 := cell_below' hb (hc2 k _ hy)
        have hkI : (0 : Int) ≤ (k : Int) ∧ (k : Int) < (n : Int) := by omega
        have HXY := Lib.hid (show X.take (k + 1) = X.take k ++ [X.getD k []] ∧ Y.take (k + 1) = Y.take k ++ [Y.getD k []] from ⟨by rw [List.take_add_one, hx]; rfl, by rw [List.take_add_one, hy]; rfl⟩)
        generalize X.getD k [] = a at *
        generalize Y.getD k [] = b at *
        have HGX := Lib.hid (show X[k]? = some a ∧ Y[k]? = some b from ⟨hx, hy⟩)
        have hq := str_beq a b
        clear hx hy hc1 hc2 htk hb
        by_cases hab : a = b
        · rw [decide_eq_true hab] at hq
          have hqn : (!(str a).toList == (str b).toList) = false := by rw [str_list, str_list, hab]; simp
          clear hq
          go_wp2_with fail
          go_quiet (fail)
          go_wp2_with fail
          refine ⟨⟨k + 1, by omega, by go_num, by rw [HXY.out.1, HXY.out.2, HTK.out, hab], ⟨HB.out.os, HB.out.tape, HB.out.output, HB.out.size, HB.out.block⟩⟩, ?_⟩
          simp [intOf]
          omega
        · rw [decide_eq_false hab] at hq
          have hqn : (!(str a).toList == (str b).toList) = true := by rw [str_list, str_list]; simpa using hab
          clear hq
          have HR := Lib.hid (show decide (X = Y) = false from decide_eq_false (fun e => hab (by
            have h1 := HGX.out.1
            rw [e, HGX.out.2] at h1
            exact (Option.some.inj h1).symm)))
          go_wp2_with fail
          go_quiet (fail)
          go_wp2_with fail
          go_ret
          exact ⟨by rw [HR.out]; rfl, ⟨HB.out.os, HB.out.tape, HB.out.output, HB.out.size, HB.out.block⟩⟩
      · obtain rfl : k = n := by omega
        have HR := Lib.hid (show decide (X = Y) = true from decide_eq_true (by
          have e1 : X.take k = X := List.take_of_length_le (by rw [HX.out.1]; exact Nat.le_refl _)
          have e2 : Y.take k = Y := List.take_of_length_le (by rw [HY.out.1]; exact Nat.le_refl _)
          rw [← e1, htk, e2]))
        go_wp2_with fail
        go_ret
        exact ⟨by rw [HR.out]; rfl, HB.out⟩
  · have HR := Lib.hid (show decide (X = Y) = false from decide_eq_false (fun e => hl (by rw [← hX.1, ← hY.1, e])))
    have hI : ¬ (n : Int) = (m : Int) := by omega
    have hIb : ((n : Int) == (m : Int)) = false := by rw [beq_eq_false_iff_ne]; omega
    clear hX hY
    go_enter Tryz.func20, Tryz.ntmps20
    go_wp2_with fail
    go_ret
    exact ⟨by rw [HR.out]; rfl, Below.refl _ _⟩
end Go.Proofs.YtejnfahfjmeabaaGreatDoor
namespace Go.Proofs.YtejnfahfjmeabaaGreatDoor
open Go.RowKit
set_option linter.unusedSimpArgs false
set_option linter.unusedVariables false

def MayI (T : List (List UInt8)) (k : Nat) : Prop := (∀ s ∈ T.take k, nameOkF s) ∧ (T.take k).Nodup
theorem nodup_snoc {l : List (List UInt8)} {s : List UInt8} (h : l.Nodup) (hs : s ∉ l) : (l ++ [s]).Nodup := by
  rw [List.nodup_append]
  refine ⟨h, by simp, fun a ha b hb => ?_⟩
  obtain rfl : b = s := by simpa using hb
  rintro rfl
  exact hs ha
theorem nodup_ne {T : List (List UInt8)} (h : T.Nodup) {i j : Nat} {a b : List UInt8} (hi : T[i]? = some a) (hj : T[j]? = some b) (hne : i ≠ j) : a ≠ b := by
  intro e
  subst e
  obtain ⟨h1, e1⟩ := List.getElem?_eq_some_iff.1 hi
  obtain ⟨h2, e2⟩ := List.getElem?_eq_some_iff.1 hj
  have hp := List.pairwise_iff_getElem.1 h
  rcases Nat.lt_or_gt_of_ne hne with hlt | hlt
  · exact hp i j h1 h2 hlt (e1.trans e2.symm)
  · exact hp j i h2 h1 hlt (e2.trans e1.symm)
set_option maxRecDepth 100000 in
set_option maxHeartbeats 2000000 in
theorem may_calls (A : Option Addr) (n c : Nat) (T : List (List UInt8)) (w : World) (h : RdT w A n c T) (hsm : ∀ s ∈ T, s.length ≤ 9223372036854775807) : Calls Tryz.prog 17 #[.slice A n c] w (RightR w T) := by
  have hn63 : n ≤ 9223372036854775807 := by have := h.2.1; have := h.2.2.1; unfold maxLen at this; omega
  by_cases h1 : n < 1
  · have HR := Lib.hid (tabsB_no (T := T) (fun hT => by have := hT.1; rw [h.1] at this; omega))
    obtain rfl : n = 0 := by omega
    clear h
    go_enter Tryz.func17, Tryz.ntmps17
    go_wp2_with fail
    go_ret
    exact ⟨by rw [HR.out]; rfl, Below.refl _ _⟩
  by_cases h8 : 8 < n
  · have HR := Lib.hid (tabsB_no (T := T) (fun hT => by have := hT.2.1; rw [h.1] at this; omega))
    have hI : ¬ (n : Int) < 1 := by omega
    have hI2 : (8 : Int) < (n : Int) := by omega
    clear h
    go_enter Tryz.func17, Tryz.ntmps17
    go_wp2_with fail
    go_ret
    exact ⟨by rw [HR.out]; rfl, Below.refl _ _⟩
  obtain ⟨g, o, rfl, hcells⟩ := h.2.2.2 (by omega)
  have H := Lib.hid h
  have HC := Lib.hid hcells
  have HSM := Lib.hid hsm
  have hI : ¬ (n : Int) < 1 := by omega
  have hI2 : ¬ (8 : Int) < (n : Int) := by omega
  clear h hcells hsm
  go_enter Tryz.func17, Tryz.ntmps17
  go_wp2_with fail
  go_loopw [3] (fun i wr => ∃ k : Nat, k ≤ n ∧ i = .int .i64 k ∧ MayI T k ∧ Below w.heap.size w wr) (fun i _ => n - (intOf i).toNat)
  case atStart => exact ⟨0, by omega, rfl, ⟨by simp, by simp⟩, Below.refl _ _⟩
  case round =>
    obtain ⟨k, hk, rfl, hmay, hb⟩ := hrel
    have HMAY := Lib.hid hmay
    have HB := Lib.hid hb
    clear hmay
    obtain ⟨wo, rfl⟩ : ∃ wo : World, wo = wr := ⟨_, rfl⟩
    by_cases hlt : k < n
    · have hkI : (0 : Int) ≤ (k : Int) ∧ (k : Int) < (n : Int) := by omega
      have hg : T[k]? = some (T.getD k []) := by rw [List.getD_eq_getElem?_getD, List.getElem?_eq_getElem (by rw [H.out.1]; exact hlt)]; rfl
      have hcell := cell_below' HB.out (HC.out k _ hg)
      have HMem := Lib.hid (List.mem_of_getElem? hg)
      have HTk : Hid (T.take (k + 1) = T.take k ++ [T.getD k []]) := by
        rw [List.take_add_one, hg]
        rfl
      generalize T.getD k [] = s at *
      have HG := Lib.hid hg
      have hsz : (str s).size = s.length := rfl
      have hsl := HSM.out s HMem.out
      clear hg hb
      by_cases hs1 : s.length < 1
      · have HR := Lib.hid (tabsB_no (T := T) (fun hT => by have := (hT.2.2.1 s HMem.out).1; omega))
        go_wp2_with fail
        go_ret
        exact ⟨by rw [HR.out]; rfl, HB.out⟩
      by_cases hs2 : 16 < s.length
      · have HR := Lib.hid (tabsB_no (T := T) (fun hT => by have := (hT.2.2.1 s HMem.out).2.1; omega))
        go_wp2_with fail
        go_ret
        exact ⟨by rw [HR.out]; rfl, HB.out⟩
      go_wp2_with fail
      go_loopw [4] (fun j wr => ∃ m : Nat, m ≤ s.length ∧ j = .int .i64 m ∧ (∀ b ∈ s.take m, 97 ≤ b.toNat ∧ b.toNat ≤ 122) ∧ wr = wo) (fun j _ => s.length - (intOf j).toNat)
      case atStart => exact ⟨0, by omega, rfl, by simp, rfl⟩
      case round =>
        obtain ⟨m, hm, rfl, hby, hwr⟩ := hrel
        have HBY := Lib.hid hby
        rw [hwr]
        clear hwr hby
        by_cases hlm : m < s.length
        · have hmI : (0 : Int) ≤ (m : Int) ∧ (m : Int) < (s.length : Int) := by omega
          have hgb : s[m]? = some (s.getD m 0) := by rw [List.getD_eq_getElem?_getD, List.getElem?_eq_getElem hlm]; rfl
          have hi0 := fun W => idx_strs (P := Tryz.prog) s m _ hgb W Tryz.underlying9
          have HTm : Hid (s.take (m + 1) = s.take m ++ [s.getD m 0]) := by
            rw [List.take_add_one, hgb]
            rfl
          have HMb := Lib.hid (List.mem_of_getElem? hgb)
          generalize hbb : s.getD m 0 = b0 at *
          obtain ⟨bn, hbn⟩ : ∃ bn, bn = b0.toNat := ⟨_, rfl⟩
          have HBN := Lib.hid hbn
          rw [← hbn] at hi0
          clear hgb hbb hbn
          by_cases hlo : bn < 97
          · have HR := Lib.hid (tabsB_no (T := T) (fun hT => by have := ((hT.2.2.1 s HMem.out).2.2 b0 HMb.out).1; rw [← HBN.out] at this; omega))
            have hloI : (bn : Int) < 97 := by omega
            go_wp2_with fail
            go_ret
            exact ⟨by rw [HR.out]; rfl, HB.out⟩
          by_cases hhi : 122 < bn
          · have HR := Lib.hid (tabsB_no (T := T) (fun hT => by have := ((hT.2.2.1 s HMem.out).2.2 b0 HMb.out).2; rw [← HBN.out] at this; omega))
            have hloI : ¬ (bn : Int) < 97 := by omega
            have hhiI : (122 : Int) < (bn : Int) := by omega
            go_wp2_with fail
            go_ret
            exact ⟨by rw [HR.out]; rfl, HB.out⟩
          have hloI : ¬ (bn : Int) < 97 := by omega
          have hhiI : ¬ (122 : Int) < (bn : Int) := by omega
          go_wp2_with fail
          refine ⟨⟨m + 1, by omega, by go_num, fun b hbm => ?_, ?_⟩, ?_⟩
          · rw [HTm.out] at hbm
            rcases List.mem_append.1 hbm with hbm | hbm
            · exact HBY.out b hbm
            · obtain rfl : b = b0 := by simpa using hbm
              rw [← HBN.out]
              omega
          · first | trivial | rfl
          · simp [intOf]; omega
        · obtain rfl : m = s.length := by omega
          have hNO : Hid (nameOkF s) := by
            have hx := HBY.out
            rw [List.take_length] at hx
            exact ⟨by omega, by omega, hx⟩
          go_wp2_with fail
          go_loopw [5] (fun j wr => ∃ m : Nat, m ≤ k ∧ j = .int .i64 m ∧ (∀ t ∈ T.take m, t ≠ s) ∧ Below w.heap.size w wr) (fun j _ => k - (intOf j).toNat)
          case atStart => exact ⟨0, by omega, rfl, by simp, HB.out⟩
          case round =>
            obtain ⟨m2, hm2, rfl, hdis, hb2⟩ := hrel
            have HDIS := Lib.hid hdis
            have HB2 := Lib.hid hb2
            clear hdis
            obtain ⟨wi, rfl⟩ : ∃ wi : World, wi = wr := ⟨_, rfl⟩
            have hcellk := cell_below' HB2.out (HC.out k _ HG.out)
            by_cases hl2 : m2 < k
            · have hgm : T[m2]? = some (T.getD m2 []) := by rw [List.getD_eq_getElem?_getD, List.getElem?_eq_getElem (by rw [H.out.1]; omega)]; rfl
              have hcellm := cell_below' HB2.out (HC.out m2 _ hgm)
              have hmI2 : (0 : Int) ≤ (m2 : Int) ∧ (m2 : Int) < (n : Int) ∧ (m2 : Int) < (k : Int) := by omega
              have HTm2 : Hid (T.take (m2 + 1) = T.take m2 ++ [T.getD m2 []]) := by
                rw [List.take_add_one, hgm]
                rfl
              generalize T.getD m2 [] = t at *
              have HGM := Lib.hid hgm
              clear hgm hb2
              by_cases hst : s = t
              · have HR := Lib.hid (tabsB_no (T := T) (fun hT => nodup_ne hT.2.2.2 HG.out HGM.out (by omega) hst))
                have hqn : ((str s).toList == (str t).toList) = true := by rw [str_list, str_list, hst]; simp
                go_wp2_with fail
                go_quiet (fail)
                go_wp2_with fail
                go_ret
                exact ⟨by rw [HR.out]; rfl, ⟨HB2.out.os, HB2.out.tape, HB2.out.output, HB2.out.size, HB2.out.block⟩⟩
              · have hqn : ((str s).toList == (str t).toList) = false := by rw [str_list, str_list]; simpa using hst
                go_wp2_with fail
                go_quiet (fail)
                go_wp2_with fail
                refine ⟨⟨m2 + 1, by omega, by go_num, fun t' ht' => ?_, ⟨HB2.out.os, HB2.out.tape, HB2.out.output, HB2.out.size, HB2.out.block⟩⟩, ?_⟩
                · rw [HTm2.out] at ht'
                  rcases List.mem_append.1 ht' with ht' | ht'
                  · exact HDIS.out t' ht'
                  · obtain rfl : t' = t := by simpa using ht'
                    exact fun e => hst e.symm
                · simp [intOf]; omega
            · obtain rfl : m2 = k := by omega
              go_wp2_with fail
              refine ⟨⟨m2 + 1, by omega, by go_num, ⟨fun s' hs' => ?_, ?_⟩, HB2.out⟩, ?_⟩
              · rw [HTk.out] at hs'
                rcases List.mem_append.1 hs' with hs' | hs'
                · exact HMAY.out.1 s' hs'
                · obtain rfl : s' = s := by simpa using hs'
                  exact hNO.out
              · rw [HTk.out]
                exact nodup_snoc HMAY.out.2 (fun hm => HDIS.out s hm rfl)
              · simp [intOf]; omega
    · obtain rfl : k = n := by omega
      have HR := Lib.hid (tabsB_yes (T := T) (by
        have hx := HMAY.out
        unfold MayI at hx
        rw [List.take_of_length_le (by rw [H.out.1]; exact Nat.le_refl _)] at hx
        exact ⟨by rw [H.out.1]; omega, by rw [H.out.1]; omega, hx.1, hx.2⟩))
      go_wp2_with fail
      go_ret
      exact ⟨by rw [HR.out]; rfl, HB.out⟩
end Go.Proofs.YtejnfahfjmeabaaGreatDoor
namespace Go.Proofs.YtejnfahfjmeabaaGreatDoor
open Go.RowKit
set_option linter.unusedSimpArgs false
set_option linter.unusedVariables false

set_option maxRecDepth 100000 in
set_option maxHeartbeats 2000000 in
theorem tables_calls (A : Option Addr) (n c : Nat) (T : List (List UInt8)) (B : Option Addr) (m d : Nat) (U : List (List UInt8)) (w : World) (hg : Glob w) (hX : RdT w A n c T) (hY : RdT w B m d U) (hsT : ∀ s ∈ T, s.length ≤ 9223372036854775807) (hsU : ∀ s ∈ U, s.length ≤ 9223372036854775807) :
    Calls Tryz.prog 4 #[.slice A n c, .slice B m d] w fun e w' => e = .returned (.bool true) ∧ Below w.heap.size w w' := by
  have HK := Lib.hid (known_calls w hg)
  have HG := Lib.hid hg
  have HX := Lib.hid hX
  have HY := Lib.hid hY
  have HST := Lib.hid hsT
  have HSU := Lib.hid hsU
  have hn63 : n ≤ 9223372036854775807 := by have := hX.2.1; have := hX.2.2.1; unfold maxLen at this; omega
  have hm63 : m ≤ 9223372036854775807 := by have := hY.2.1; have := hY.2.2.1; unfold maxLen at this; omega
  clear hg hX hY hsT hsU
  by_cases h1 : 20 < n
  · have hI : (20 : Int) < (n : Int) := by omega
    go_enter Tryz.func4, Tryz.ntmps4
    go_wp2_with fail
    refine HK.out.mono ?_
    rintro e w1 ⟨rfl, hb1⟩
    go_wp2_with fail
    go_ret
    exact ⟨rfl, hb1⟩
  by_cases h2 : 20 < m
  · have hI : ¬ (20 : Int) < (n : Int) := by omega
    have hI2 : (20 : Int) < (m : Int) := by omega
    go_enter Tryz.func4, Tryz.ntmps4
    go_wp2_with fail
    refine HK.out.mono ?_
    rintro e w1 ⟨rfl, hb1⟩
    go_wp2_with fail
    go_ret
    exact ⟨rfl, hb1⟩
  have hI : ¬ (20 : Int) < (n : Int) := by omega
  have hI2 : ¬ (20 : Int) < (m : Int) := by omega
  go_enter Tryz.func4, Tryz.ntmps4
  go_wp2_with fail
  refine HK.out.mono ?_
  rintro e w1 ⟨rfl, hb1⟩
  have HB1 := Lib.hid hb1
  clear hb1
  go_wp2_with fail
  refine (New_disk 1048576 (by omega) w1).mono ?_
  rintro e w2 ⟨dd, sd, rfl, hD2, hge2, hb2⟩
  have HB2 := Lib.hid (thn HB1.out hb2)
  have HD2 := Lib.hid hD2
  have HGE := Lib.hid (show ∀ k, sd k → w.heap.size ≤ k from fun k hk => Nat.le_trans HB1.out.size (hge2 k hk))
  clear hb2 hD2 hge2
  by_cases hT : TabsOk T
  · have HT := Lib.hid hT
    have HO := Lib.hid (open_new sd dd 1048576 A n c T w2 HD2.out (HX.out.below HB2.out) hT (by omega) (by omega))
    clear hT
    go_wp2_with fail
    refine HO.out.mono ?_
    rintro e w3 ⟨f, D3, fs3, rfl, hF3, hU3, hf3⟩
    have HB3 := Lib.hid (below_upd HB2.out (Nat.le_refl _) hU3 HGE.out)
    have HF3 := Lib.hid hF3
    have HGE3 := Lib.hid (grow_ge (w' := w3) HGE.out HB2.out.size)
    have HM := Lib.hid (may_calls A n c T w3 (HX.out.below HB3.out) HST.out)
    unfold RightR at HM
    rw [tabsB_yes HT.out] at HM
    clear hF3 hU3 hf3
    go_wp2_with fail
    refine HM.out.mono ?_
    rintro e w4 ⟨rfl, hb4⟩
    have HF4 := Lib.hid (HF3.out.below hb4)
    have HB4 := Lib.hid (below_then HB3.out (Nat.le_refl _) hb4)
    have hfl : fileL T [] = headL T := by unfold fileL logB; simp
    have HFL := Lib.hid hfl
    have HLL := Lib.hid (headL_len HT.out)
    have HSY := Lib.hid (fSync_calls _ f dd 1048576 D3 true 0 fs3 T _ z0 w4 HF4.out.frz HF4.out.calm (by have := HF4.out.files; omega) (by have := HF4.out.count; omega) (by rw [HF4.out.bytes, hfl]; have := HLL.out; omega))
    clear hb4 hfl
    go_wp2_with fail
    refine HSY.out.mono ?_
    rintro e w5 ⟨rfl, ⟨A5, c5, sd5, iv5, q5, hF5⟩, hU5⟩
    have HF5 := Lib.hid hF5
    have HB5 := Lib.hid (below_upd HB4.out (Nat.le_refl _) hU5 HGE3.out)
    have HCL := Lib.hid (close_ok f dd z0.tail _ _ _ false w5 hF5.blk)
    have HGE5 := Lib.hid (grow_ge (w' := w5) HGE3.out HB4.out.size)
    clear hF5 hU5
    go_wp2_with fail
    refine HCL.out.mono ?_
    rintro e w6 ⟨rfl, hw6⟩
    have HF6 : Hid (FrzP w6 (grow (grow sd w2 w3) w4 w5) f dd 1048576 D3.tick true 0 fs3.settled T (fileL T []).length z0 false true sd5 A5 c5 iv5 q5) := by
      rw [hw6]
      exact HF5.out.own ((HF5.out.blk.set_ 6 _).eq_ rfl) (fun k hk => Below.heap_setCell w5 ⟨f, 6, none⟩ _ k hk) (by simp [World.setCell])
    have HB6 : Hid (Below w.heap.size w w6) := by
      rw [hw6]
      exact HB5.out.setCell (p := ⟨f, 6, none⟩) (HGE5.out f HF5.out.fin) _
    have HDF := Lib.hid HF6.out.disk
    have HG6 := Lib.hid (HG.out.below HB6.out)
    have HBY : Hid (fs3.settled.bytes = headL T ++ []) := by
      rw [FileS.settled_bytes, HF4.out.bytes, HFL.out, List.append_nil]
      exact rfl
    have HCA := Lib.hid HF4.out.calm.tick
    have HY6 := Lib.hid (HY.out.below HB6.out)
    have HX6 := Lib.hid (HX.out.below HB6.out)
    have HGS : Hid (∀ k, sd5 k → w.heap.size ≤ k) := fun k hk => HGE5.out k (HF5.out.sub k hk)
    have HFC : Hid (D3.tick.files ≤ 1048576 ∧ D3.tick.count ≤ 4611686018427360000 ∧ fs3.settled.bytes.length ≤ 67108864) := by
      refine ⟨by have := HF4.out.files; show D3.files ≤ _; omega, by have := HF4.out.count; show D3.count + 1 ≤ _; omega, ?_⟩
      rw [HBY.out, List.append_nil]
      have := HLL.out
      omega
    clear hw6
    by_cases hU : TabsOk U
    · by_cases hTU : T = U
      · have HTU := Lib.hid (show decide (T = U) = true from decide_eq_true hTU)
        have HOS := Lib.hid (Open_same sd5 dd 1048576 D3.tick 0 fs3.settled B m d U w6 HDF.out HG6.out HY6.out hU HCA.out HFC.out.1 HFC.out.2.1 (by rw [← hTU]; exact HBY.out) HFC.out.2.2)
        clear hU hTU
        go_wp2_with fail
        refine HOS.out.mono ?_
        rintro e w7 ⟨f7, rfl, _, hU7, _⟩
        have HB7 := Lib.hid (below_upd HB6.out (Nat.le_refl _) hU7 HGS.out)
        have HTX := Lib.hid (texts_calls A n c T B m d U w7 (HX.out.below HB7.out) (HY.out.below HB7.out))
        rw [HTU.out] at HTX
        clear hU7
        go_wp2_with fail
        refine HTX.out.mono ?_
        rintro e w8 ⟨rfl, hb8⟩
        have HB8 := Lib.hid (below_then HB7.out (Nat.le_refl _) hb8)
        clear hb8
        go_wp2_with fail
        go_ret
        exact ⟨rfl, HB8.out⟩
      · have HTU := Lib.hid (show decide (T = U) = false from decide_eq_false hTU)
        have HOS := Lib.hid (Open_other sd5 dd 1048576 D3.tick 0 fs3.settled B m d U T w6 HDF.out HG6.out HY6.out hU HCA.out HFC.out.1 HFC.out.2.1 HBY.out HT.out hTU HFC.out.2.2)
        clear hU hTU
        go_wp2_with fail
        refine HOS.out.mono ?_
        rintro e w7 ⟨v7, rfl, hv7, hb7⟩
        have HB7 := Lib.hid (below_then HB6.out (Nat.le_refl _) hb7)
        have HV7 := Lib.hid hv7
        have HTX := Lib.hid (texts_calls A n c T B m d U w7 (HX.out.below HB7.out) (HY.out.below HB7.out))
        rw [HTU.out] at HTX
        clear hv7 hb7
        go_wp2_with fail
        refine HTX.out.mono ?_
        rintro e w8 ⟨rfl, hb8⟩
        have HB8 := Lib.hid (below_then HB7.out (Nat.le_refl _) hb8)
        have HOF := Lib.hid (Of_calls v7 120 w8 (HG.out.below HB8.out).err (HV7.out.below hb8))
        clear hb8
        go_wp2_with fail
        refine HOF.out.mono ?_
        rintro e w9 ⟨rfl, hb9⟩
        have HB9 := Lib.hid (below_then HB8.out (Nat.le_refl _) hb9)
        clear hb9
        go_wp2_with fail
        go_ret
        exact ⟨rfl, HB9.out⟩
    · have HTU := Lib.hid (show decide (T = U) = false from decide_eq_false (fun e => hU (e ▸ HT.out)))
      have HOS := Lib.hid (Open_bad dd B m d U w6 HY6.out HSU.out hU)
      clear hU
      go_wp2_with fail
      refine HOS.out.mono ?_
      rintro e w7 ⟨v7, rfl, hv7, hb7⟩
      have HB7 := Lib.hid (below_then HB6.out (Nat.le_refl _) hb7)
      have HV7 := Lib.hid hv7
      have HTX := Lib.hid (texts_calls A n c T B m d U w7 (HX.out.below HB7.out) (HY.out.below HB7.out))
      rw [HTU.out] at HTX
      clear hv7 hb7
      go_wp2_with fail
      refine HTX.out.mono ?_
      rintro e w8 ⟨rfl, hb8⟩
      have HB8 := Lib.hid (below_then HB7.out (Nat.le_refl _) hb8)
      have HOF := Lib.hid (Of_calls v7 120 w8 (HG.out.below HB8.out).err (HV7.out.below hb8))
      clear hb8
      go_wp2_with fail
      refine HOF.out.mono ?_
      rintro e w9 ⟨rfl, hb9⟩
      have HB9 := Lib.hid (below_then HB8.out (Nat.le_refl _) hb9)
      clear hb9
      go_wp2_with fail
      go_ret
      exact ⟨rfl, HB9.out⟩
  · have HO := Lib.hid (Open_bad dd A n c T w2 (HX.out.below HB2.out) HST.out hT)
    have HTB := Lib.hid (tabsB_no hT)
    clear hT
    go_wp2_with fail
    refine HO.out.mono ?_
    rintro e w3 ⟨v3, rfl, hv3, hb3⟩
    have HB3 := Lib.hid (below_then HB2.out (Nat.le_refl _) hb3)
    have HV3 := Lib.hid hv3
    have HM := Lib.hid (may_calls A n c T w3 (HX.out.below HB3.out) HST.out)
    unfold RightR at HM
    rw [HTB.out] at HM
    clear hv3 hb3
    go_wp2_with fail
    refine HM.out.mono ?_
    rintro e w4 ⟨rfl, hb4⟩
    have HB4 := Lib.hid (below_then HB3.out (Nat.le_refl _) hb4)
    have HOF := Lib.hid (Of_calls v3 120 w4 (HG.out.below HB4.out).err (HV3.out.below hb4))
    clear hb4
    go_wp2_with fail
    refine HOF.out.mono ?_
    rintro e w5 ⟨rfl, hb5⟩
    have HB5 := Lib.hid (below_then HB4.out (Nat.le_refl _) hb5)
    clear hb5
    go_wp2_with fail
    go_ret
    exact ⟨rfl, HB5.out⟩
end Go.Proofs.YtejnfahfjmeabaaGreatDoor
