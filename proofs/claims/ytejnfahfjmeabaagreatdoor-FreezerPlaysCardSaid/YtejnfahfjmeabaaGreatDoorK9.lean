/- the texts M53, M54, M58, M59, M60 of this proof, one behind the other -/
import Derived.Test.YtejnfahfjmeabaaGreatDoorK8
set_option linter.unusedSimpArgs false
set_option linter.unusedVariables false
namespace Go.Proofs.YtejnfahfjmeabaaGreatDoor
open Go.RowKit
set_option linter.unusedSimpArgs false
set_option linter.unusedVariables false

def BegErr (w : World) (n : Nat) (e : Ending) (w' : World) : Prop := ∃ v, e = .returned v ∧ ErrR w' v n ∧ Below w.heap.size w w'
set_option maxRecDepth 100000 in
set_option maxHeartbeats 1000000 in
theorem begins_other (s : Blocks) (f d cap : Nat) (D : HdS) (num : Nat) (fs : FileS) (T T0 : List (List UInt8)) (rest : List UInt8) (sd : Blocks) (A : Option Addr) (c : Nat) (iv : Value) (q : Blocks) (w : World)
    (h : FrzP w s f d cap D true num fs T 0 z0 false false sd A c iv q) (hg : Glob w) (hT : TabsOk T) (hT0 : TabsOk T0) (hC : Calm D) (hb : fs.bytes = headL T0 ++ rest) (hl : fs.bytes.length ≤ 67108864) (hne : T0 ≠ T) :
    Calls Tryz.prog 35 #[.pointer (some ⟨f, 0, none⟩)] w (BegErr w 120) := by
  have c0 : w.cell? ⟨f, 0, none⟩ = some (.pointer (some ⟨d, 0, none⟩)) := h.blk.cell 0
  have HRD := Lib.hid (dRead_calls d cap D true num fs sd w h.disk hC.down (by omega))
  have H := Lib.hid h
  have HG := Lib.hid hg
  have HT := Lib.hid hT
  have HT0 := Lib.hid hT0
  have HB := Lib.hid hb
  have HNE := Lib.hid hne
  have hq13 : decide (0 = 13) = false := rfl
  clear h hg hT hT0 hC hb hne
  have hnm : (⟨#[111, 108, 100, 45, 108, 111, 103]⟩ : ByteArray) = str fName := rfl
  go_enter Tryz.func35, Tryz.ntmps35
  rw [hnm]
  clear hnm
  generalize str fName = nmS at *
  go_wp2_with fail
  refine HRD.out.mono ?_
  rintro e w1 ⟨v1, rfl, ho1, hb1⟩
  have HO1 := Lib.hid ho1
  have HB1 := Lib.hid hb1
  clear ho1 hb1
  go_wp2_with fail
  refine (is_calls 0 13 w1).mono ?_
  rintro e w2 ⟨rfl, rfl⟩
  obtain ⟨A1, c1, hv1, hr1⟩ := HO1.out.reads
  subst hv1
  have HUF := Lib.hid (Unframe_calls A1 fs.bytes.length c1 fs.bytes w2 hr1 (by omega))
  have huf : unframeL crcN fs.bytes = (tabB T0, (headL T0).length, 0) := by
    rw [HB.out]
    exact unframe_frame crcN crcN_lt (tabB T0) rest (Nat.le_trans (tabB_len HT0.out) (by omega))
  unfold UnfR at HUF
  rw [huf] at HUF
  clear huf hr1
  go_wp2_with fail
  refine HUF.out.mono ?_
  rintro e w3 ⟨v3, rfl, ho3, hb3⟩
  obtain ⟨A3, c3, hv3, hr3⟩ := OwnB.reads ho3
  subst hv3
  have HB3 := Lib.hid (thn HB1.out hb3)
  have hcv := run_convertB (P := Tryz.prog) w3.drew 34 5 9 Tryz.underlying34 Tryz.underlying5 Tryz.underlying9 (hr3.below ((Below.refl _ _).drew))
  have hF3 := H.out.below HB3.out
  have s1 : w3.cell? ⟨f, 1, none⟩ = some (.slice A T.length c) := hF3.blk.cell 1
  have HSP := Lib.hid (Split_calls (tabB T0) w3.drew (Nat.le_trans (tabB_len HT0.out) (by omega)) (HG.out.below HB3.out.drew))
  rw [split_tab HT0.out] at HSP
  have hTl := HT0.out.2.1
  have HEQ : Hid (Calls Tryz.prog 58 #[.slice (some ⟨w3.drew.heap.size, 0, none⟩) T0.length T0.length, .slice A T.length c] (w3.drew.alloc (.cells (svs T0).toArray 9)) fun e w' => e = .returned (.bool (decide (T0 = T))) ∧ Below (w3.drew.alloc (.cells (svs T0).toArray 9)).heap.size (w3.drew.alloc (.cells (svs T0).toArray 9)) w') := by
    refine Calls.mono (Equal_calls w3.drew.heap.size T0.length A T.length c T0 T _ (fun j s hs => ?_) (hF3.tab.below (((Below.refl _ _).drew).alloc (Nat.le_refl _) _)) HT.out.1 (by omega) (by have := HT.out.2.1; omega)) (fun e w' hx => ⟨hx.1, by obtain ⟨q, hq⟩ := hx.2; rw [hq]; exact below_drewN q⟩)
    rw [(Blk.new w3.drew 9 (svs T0).toArray).cell, Nat.zero_add]
    show ((svs T0).toArray)[j]? = _
    rw [List.getElem?_toArray]
    unfold svs
    rw [List.getElem?_map, hs]
    rfl
  rw [decide_eq_false HNE.out] at HEQ
  have s1a : (w3.drew.alloc (.cells (svs T0).toArray 9)).cell? ⟨f, 1, none⟩ = some (.slice A T.length c) := cell_below' (((Below.refl _ w3).drew).alloc (Nat.le_refl _) _) s1
  have s1d : w3.drew.cell? ⟨f, 1, none⟩ = some (.slice A T.length c) := s1
  obtain ⟨tl, htl⟩ : ∃ tl, tl = (tabB T0).length := ⟨_, rfl⟩
  rw [← htl] at hcv ⊢
  have HBA : Hid (Below w.heap.size w (w3.drew.alloc (.cells (svs T0).toArray 9))) := by
    have h1 := HB3.out.drew
    exact h1.alloc h1.size _
  have hcvA : ∀ W, Below w3.drew.heap.size w3.drew W → (convert 34 9 (.slice A3 tl c3)).run Tryz.prog W = .ok (.string (str (tabB T0))) W := fun W hW => by
    rw [htl]
    exact run_convertB (P := Tryz.prog) W 34 5 9 Tryz.underlying34 Tryz.underlying5 Tryz.underlying9 ((hr3.below ((Below.refl _ _).drew)).below hW)
  have hcva := hcvA _ ((Below.refl _ w3.drew).alloc (Nat.le_refl _) (.cells (svs T0).toArray 9))
  have HCVA := Lib.hid hcvA
  clear ho3 hb3 hr3 hF3 htl hTl hcvA
  go_wp2_with fail
  go_region_held3 (fun W => W.cell? ⟨f, 1, none⟩ = some (.slice A T.length c) ∧ (convert 34 9 (.slice A3 tl c3)).run Tryz.prog W = .ok (.string (str (tabB T0))) W) (first | exact ⟨s1d, hcv⟩ | exact ⟨s1a, hcva⟩ | exact ⟨s1q, hcvq⟩) (first | (go_at_call 59; refine HSP.out.mono ?_; rintro e w4 ⟨rfl, rfl⟩) | (go_at_call 58; refine HEQ.out.mono ?_; rintro e w6 ⟨rfl, hb6⟩; have s1q := cell_below' hb6 s1a; have hcvq := HCVA.out w6 (thn ((Below.refl _ w3.drew).alloc (Nat.le_refl _) _) hb6)))
  have HBQ : Hid (Below w.heap.size w w6) := thn HBA.out hb6
  clear hb6
  clear s1a s1d s1q s1 hcv hcva hcvq
  go_wp2_with fail
  refine (failOf_calls _ 120 w6).mono ?_
  rintro e w7 ⟨v7, rfl, hv7, hb7⟩
  have hfin : Hid (BegErr w 120 (.returned v7) w7) := ⟨v7, rfl, hv7, thn HBQ.out hb7⟩
  clear hv7 hb7
  go_wp2_with fail
  go_ret
  exact hfin.out
set_option maxRecDepth 100000 in
set_option maxHeartbeats 1000000 in
theorem begins_same (s : Blocks) (f d cap : Nat) (D : HdS) (num : Nat) (fs : FileS) (T : List (List UInt8)) (sd : Blocks) (A : Option Addr) (c : Nat) (iv : Value) (q : Blocks) (w : World)
    (h : FrzP w s f d cap D true num fs T 0 z0 false false sd A c iv q) (hg : Glob w) (hT : TabsOk T) (hC : Calm D) (hb : fs.bytes = headL T ++ []) (hl : fs.bytes.length ≤ 67108864) (hf : D.files ≤ 1048576) (hcn : D.count ≤ 4611686018427380000) :
    Calls Tryz.prog 35 #[.pointer (some ⟨f, 0, none⟩)] w (BeginsR w s f d cap D.tick.tick num fs.settled T (headL T).length z0) := by
  have c0 : w.cell? ⟨f, 0, none⟩ = some (.pointer (some ⟨d, 0, none⟩)) := h.blk.cell 0
  have HRD := Lib.hid (dRead_calls d cap D true num fs sd w h.disk hC.down (by omega))
  have H := Lib.hid h
  have HG := Lib.hid hg
  have HT := Lib.hid hT
  have HB := Lib.hid hb
  have HCC := Lib.hid (show D.files ≤ 1048576 ∧ D.count ≤ 4611686018427380000 from ⟨hf, hcn⟩)
  have HC := Lib.hid hC
  have hq13 : decide (0 = 13) = false := rfl
  clear h hg hT hC hb hf hcn
  have hnm : (⟨#[111, 108, 100, 45, 108, 111, 103]⟩ : ByteArray) = str fName := rfl
  go_enter Tryz.func35, Tryz.ntmps35
  rw [hnm]
  clear hnm
  generalize str fName = nmS at *
  go_wp2_with fail
  refine HRD.out.mono ?_
  rintro e w1 ⟨v1, rfl, ho1, hb1⟩
  have HO1 := Lib.hid ho1
  have HB1 := Lib.hid hb1
  clear ho1 hb1
  go_wp2_with fail
  refine (is_calls 0 13 w1).mono ?_
  rintro e w2 ⟨rfl, rfl⟩
  obtain ⟨A1, c1, hv1, hr1⟩ := HO1.out.reads
  subst hv1
  have HUF := Lib.hid (Unframe_calls A1 fs.bytes.length c1 fs.bytes w2 hr1 (by omega))
  have huf : unframeL crcN fs.bytes = (tabB T, (headL T).length, 0) := by
    rw [HB.out]
    exact unframe_frame crcN crcN_lt (tabB T) [] (Nat.le_trans (tabB_len HT.out) (by omega))
  unfold UnfR at HUF
  rw [huf] at HUF
  have HR1 := Lib.hid hr1
  clear huf hr1
  go_wp2_with fail
  refine HUF.out.mono ?_
  rintro e w3 ⟨v3, rfl, ho3, hb3⟩
  obtain ⟨A3, c3, hv3, hr3⟩ := OwnB.reads ho3
  subst hv3
  have HB3 := Lib.hid (thn HB1.out hb3)
  have HB23 := Lib.hid hb3
  have hcv := run_convertB (P := Tryz.prog) w3.drew 34 5 9 Tryz.underlying34 Tryz.underlying5 Tryz.underlying9 (hr3.below ((Below.refl _ _).drew))
  have hF3 := H.out.below HB3.out
  have s1 : w3.cell? ⟨f, 1, none⟩ = some (.slice A T.length c) := hF3.blk.cell 1
  have HSP := Lib.hid (Split_calls (tabB T) w3.drew (Nat.le_trans (tabB_len HT.out) (by omega)) (HG.out.below HB3.out.drew))
  rw [split_tab HT.out] at HSP
  have hTl := HT.out.2.1
  have HEQ : Hid (Calls Tryz.prog 58 #[.slice (some ⟨w3.drew.heap.size, 0, none⟩) T.length T.length, .slice A T.length c] (w3.drew.alloc (.cells (svs T).toArray 9)) fun e w' => e = .returned (.bool (decide (T = T))) ∧ Below (w3.drew.alloc (.cells (svs T).toArray 9)).heap.size (w3.drew.alloc (.cells (svs T).toArray 9)) w') := by
    refine Calls.mono (Equal_calls w3.drew.heap.size T.length A T.length c T T _ (fun j s hs => ?_) (hF3.tab.below (((Below.refl _ _).drew).alloc (Nat.le_refl _) _)) HT.out.1 (by omega) (by have := HT.out.2.1; omega)) (fun e w' hx => ⟨hx.1, by obtain ⟨q, hq⟩ := hx.2; rw [hq]; exact below_drewN q⟩)
    rw [(Blk.new w3.drew 9 (svs T).toArray).cell, Nat.zero_add]
    show ((svs T).toArray)[j]? = _
    rw [List.getElem?_toArray]
    unfold svs
    rw [List.getElem?_map, hs]
    rfl
  rw [decide_eq_true rfl] at HEQ
  have s1a : (w3.drew.alloc (.cells (svs T).toArray 9)).cell? ⟨f, 1, none⟩ = some (.slice A T.length c) := cell_below' (((Below.refl _ w3).drew).alloc (Nat.le_refl _) _) s1
  have s1d : w3.drew.cell? ⟨f, 1, none⟩ = some (.slice A T.length c) := s1
  obtain ⟨tl, htl⟩ : ∃ tl, tl = (tabB T).length := ⟨_, rfl⟩
  rw [← htl] at hcv ⊢
  have HBA : Hid (Below w.heap.size w (w3.drew.alloc (.cells (svs T).toArray 9))) := by
    have h1 := HB3.out.drew
    exact h1.alloc h1.size _
  have hcvA : ∀ W, Below w3.drew.heap.size w3.drew W → (convert 34 9 (.slice A3 tl c3)).run Tryz.prog W = .ok (.string (str (tabB T))) W := fun W hW => by
    rw [htl]
    exact run_convertB (P := Tryz.prog) W 34 5 9 Tryz.underlying34 Tryz.underlying5 Tryz.underlying9 ((hr3.below ((Below.refl _ _).drew)).below hW)
  have hcva := hcvA _ ((Below.refl _ w3.drew).alloc (Nat.le_refl _) (.cells (svs T).toArray 9))
  have HCVA := Lib.hid hcvA
  clear ho3 hb3 hr3 hF3 htl hTl hcvA
  go_wp2_with fail
  go_region_held3 (fun W => W.cell? ⟨f, 1, none⟩ = some (.slice A T.length c) ∧ (convert 34 9 (.slice A3 tl c3)).run Tryz.prog W = .ok (.string (str (tabB T))) W) (first | exact ⟨s1d, hcv⟩ | exact ⟨s1a, hcva⟩ | exact ⟨s1q, hcvq⟩) (first | (go_at_call 59; refine HSP.out.mono ?_; rintro e w4 ⟨rfl, rfl⟩) | (go_at_call 58; refine HEQ.out.mono ?_; rintro e w6 ⟨rfl, hb6⟩; have s1q := cell_below' hb6 s1a; have hcvq := HCVA.out w6 (thn ((Below.refl _ w3.drew).alloc (Nat.le_refl _) _) hb6)))
  have HBQ : Hid (Below w.heap.size w w6) := thn HBA.out hb6
  have HRX : Hid (RdB w6 A1 fs.bytes.length c1 fs.bytes) := (HR1.out.below (thn (thn HB23.out ((Below.refl _ w3).drew)) (((Below.refl _ w3.drew)).alloc (Nat.le_refl _) _))).below hb6
  clear hb6
  have H6 := Lib.hid (H.out.below HBQ.out)
  have f62 := H6.out.blk.frozen 2
  have c62 : w6.cell? ⟨f, 2, none⟩ = some (.int .i64 0) := H6.out.blk.cell 2
  obtain ⟨hl2, hhl2⟩ : ∃ hl2, hl2 = (headL T).length := ⟨_, rfl⟩
  have hbl : fs.bytes.length = hl2 := by rw [HB.out, List.append_nil, hhl2]
  rw [← hhl2]
  have HHL := Lib.hid hhl2
  rw [hbl] at HRX ⊢
  obtain ⟨w7, hw7⟩ : ∃ w7 : World, w7 = w6.setCell ⟨f, 2, none⟩ (.int .i64 (hl2 : Int)) := ⟨_, rfl⟩
  have hz7 : w7.heap.size = w6.heap.size := by rw [hw7]; simp [World.setCell]
  have H7 := Lib.hid (H6.out.own (size' := hl2) (dead' := false) (closed' := false) (w' := w7) (by rw [hw7]; exact (H6.out.blk.set_ 2 _).eq_ rfl) (fun k hk => by rw [hw7]; exact Below.heap_setCell w6 ⟨f, 2, none⟩ _ k hk) hz7)
  have HA1 : Hid (∀ ad, A1 = some ad → ad.block ≠ f) := fun ad e ef => by
    have h1 := (HO1.out.block ad.block (by rw [e]; rfl)).1
    have := H.out.blk.lt
    omega
  have HR7 : Hid (RdB w7 A1 hl2 c1 fs.bytes) := rdB_keep (t := fun k => k ≠ f) HRX.out (fun k hk => by rw [hw7]; exact Below.heap_setCell w6 ⟨f, 2, none⟩ _ k hk) HA1.out
  have HSB : Hid (∀ B q, B = subA A1 hl2 c1 → q = c1 - hl2 → Calls Tryz.prog 57 #[.slice B 0 q] w7 fun e w' => ∃ v, e = .returned (.tuple #[v, .int .i64 0, .int .i64 20]) ∧ Below w7.heap.size w7 w') := fun B q e1 e2 => by
    subst e1 e2
    have h1 := HR7.out.sub hl2 (Nat.le_refl _)
    rw [Nat.sub_self] at h1
    have h2 : fs.bytes.drop hl2 = [] := List.drop_eq_nil_of_le (by omega)
    rw [h2] at h1
    exact (Unframe_calls _ 0 _ [] w7 h1 (by omega)).mono fun e w' hx => by
      obtain ⟨v, e1, _, e3⟩ := hx
      exact ⟨v, e1, e3⟩
  have c72 : w7.cell? ⟨f, 2, none⟩ = some (.int .i64 (hl2 : Int)) := H7.out.blk.cell 2
  have hlc : hl2 ≤ c1 := HR7.out.2.1
  have U7 : Hid (Upd s s w w7) := by
    rw [hw7]
    exact (Upd.below HBQ.out).setS (.inl H.out.fin) _
  have HSU : Hid (∀ W, Below w7.heap.size w7 W → Calls Tryz.prog 63 #[.pointer (some ⟨f, 0, none⟩)] W (SureR W s f d cap D num fs T hl2 z0 A c iv q)) := fun W hW => sure_calls s f d cap D true num fs T hl2 z0 _ A c _ _ W (H7.out.below hW) HC.out HCC.out.1 HCC.out.2 (by omega)
  have HW7 := Lib.hid hw7
  have hIl : (0 : Int) ≤ (hl2 : Int) ∧ (hl2 : Int) ≤ (c1 : Int) := by omega
  clear s1a s1d s1q s1 hcv hcva hcvq hz7 hhl2 hbl hw7
  go_wp2_with fail
  rw [← HW7.out]
  refine wp_loop_rounds 1 ?_
  rw [rounds_succ]
  by_cases hck : c1 = hl2
  · have HX := Lib.hid (show A1 = subA A1 hl2 c1 ∧ 0 = c1 - hl2 from ⟨by unfold subA; rw [if_pos hck], by omega⟩)
    subst hck
    go_wp2_with fail
    refine (HSB.out _ _ HX.out.1 HX.out.2).mono ?_
    rintro e w8 ⟨v8, rfl, hb8⟩
    have c82 := cell_below' hb8 c72
    have HS8 := Lib.hid (HSU.out w8 hb8)
    have HB8 := Lib.hid hb8
    clear hb8
    go_wp2_with fail
    refine HS8.out.mono ?_
    rintro e w9 ⟨rfl, sd9, H9, U9⟩
    have hfin : Hid (BeginsR w s f d cap D.tick.tick num fs.settled T (headL T).length z0 (.returned .nilIface) w9) := by
      rw [← HHL.out]
      have z8 := HB8.out.size
      have z9 := U9.size
      have z7 := U7.out.size
      refine ⟨rfl, sd9, A, c, _, _, H9.wide (fun k hk => ?_) (grow_lt H.out.lt (by omega)), ?_⟩
      · rcases hk with hk | hk
        · exact .inl hk
        · exact .inr ⟨by omega, hk.2⟩
      · exact (U7.out.thn HB8.out).thenS U9 (fun k hk => .inl hk)
    clear H9 U9
    go_wp2_with fail
    go_ret
    exact hfin.out
  · have HX := Lib.hid (show A1.map (fun x => x.add hl2) = subA A1 hl2 c1 by unfold subA; rw [if_neg hck])
    go_wp2_with fail
    refine (HSB.out _ _ HX.out rfl).mono ?_
    rintro e w8 ⟨v8, rfl, hb8⟩
    have c82 := cell_below' hb8 c72
    have HS8 := Lib.hid (HSU.out w8 hb8)
    have HB8 := Lib.hid hb8
    clear hb8
    go_wp2_with fail
    refine HS8.out.mono ?_
    rintro e w9 ⟨rfl, sd9, H9, U9⟩
    have hfin : Hid (BeginsR w s f d cap D.tick.tick num fs.settled T (headL T).length z0 (.returned .nilIface) w9) := by
      rw [← HHL.out]
      have z8 := HB8.out.size
      have z9 := U9.size
      have z7 := U7.out.size
      refine ⟨rfl, sd9, A, c, _, _, H9.wide (fun k hk => ?_) (grow_lt H.out.lt (by omega)), ?_⟩
      · rcases hk with hk | hk
        · exact .inl hk
        · exact .inr ⟨by omega, hk.2⟩
      · exact (U7.out.thn HB8.out).thenS U9 (fun k hk => .inl hk)
    clear H9 U9
    go_wp2_with fail
    go_ret
    exact hfin.out
end Go.Proofs.YtejnfahfjmeabaaGreatDoor
namespace Go.Proofs.YtejnfahfjmeabaaGreatDoor
open Go.RowKit
set_option linter.unusedSimpArgs false
set_option linter.unusedVariables false

set_option maxRecDepth 100000 in
set_option maxHeartbeats 1000000 in
theorem Open_same (sd : Blocks) (d cap : Nat) (D : HdS) (num : Nat) (fs : FileS) (A : Option Addr) (n c : Nat) (T : List (List UInt8)) (w : World) (hD : DiskF w sd d cap D true num fs) (hg : Glob w) (h : RdT w A n c T) (hT : TabsOk T) (hC : Calm D) (hf : D.files ≤ 1048576) (hc : D.count ≤ 4611686018427360000) (hb : fs.bytes = headL T ++ []) (hl : fs.bytes.length ≤ 67108864) :
    Calls Tryz.prog 9 #[.pointer (some ⟨d, 0, none⟩), .slice A n c] w (OpenR w sd d cap D.tick.tick num fs.settled T (headL T).length z0) := by
  have HR := Lib.hid (right_calls A n c T w h (fun s hs => by have := (hT.2.2.1 s hs).2.1; omega))
  unfold RightR at HR
  rw [tabsB_yes hT] at HR
  have H := Lib.hid h
  have HD := Lib.hid hD
  have HT := Lib.hid hT
  have HC := Lib.hid hC
  have HCC := Lib.hid (show D.files ≤ 1048576 ∧ D.count ≤ 4611686018427360000 from ⟨hf, hc⟩)
  have hn1 : 1 ≤ n := by rw [← h.1]; exact hT.1
  have hn8 : n ≤ 8 := by rw [← h.1]; exact hT.2.1
  have HG := Lib.hid hg
  have HBB := Lib.hid hb
  clear h hT hD hC hf hc hg hb
  go_enter Tryz.func9, Tryz.ntmps9
  go_wp2_with fail
  refine HR.out.mono ?_
  rintro e w1 ⟨rfl, hb1⟩
  have HB1 := Lib.hid hb1
  have HCL := Lib.hid (tClone_calls A n c T w1 (H.out.below hb1) hn1 hn8)
  clear hb1
  go_wp2_with fail
  refine HCL.out.mono ?_
  rintro e w2 ⟨A2, c2, rfl, hr2, hA2, hb2⟩
  have HB2 := Lib.hid (thn HB1.out hb2)
  have hz12 := HB1.out.size
  have hz2 := hb2.size
  obtain ⟨FX, hFX⟩ : ∃ FX : Obj, FX = .cells (zk d (.slice A2 n c2) 0 0 (.slice none 0 0) false false) 80 := ⟨_, rfl⟩
  have hba : Below w2.heap.size w2 (w2.alloc FX) := (Below.refl _ _).alloc (Nat.le_refl _) _
  have hsz : (w2.alloc FX).heap.size = w2.heap.size + 1 := by simp
  have hsd : ∀ k, sd k → k < w.heap.size := HD.out.lt
  have HFN : Hid (FrzP (w2.alloc FX) (grow sd w (w2.alloc FX)) w2.heap.size d cap D true num fs T 0 z0 false false sd A2 c2 (.slice none 0 0) noB) := by
    refine ⟨?_, (HD.out.below HB2.out).below hba, fun k hk => .inl hk, ?_, fun ad e => ?_, .inl ⟨rfl, rfl⟩, fun k hk => hk.elim, .inr ⟨by omega, by omega⟩, fun e => ?_, grow_lt hsd (by omega)⟩
    · rw [hFX, H.out.1]
      exact Blk.new w2 80 _
    · rw [H.out.1]
      exact hr2.below hba
    · have := hA2 ad e
      refine ⟨.inr ⟨by omega, by omega⟩, fun hk => ?_, by omega, fun e => e⟩
      have := hsd _ hk
      omega
    · have := hsd _ e
      omega
  have HBG := Lib.hid (begins_same _ w2.heap.size d cap D num fs T sd A2 c2 _ _ (w2.alloc FX) HFN.out (HG.out.below (thn HB2.out hba)) HT.out HC.out HBB.out hl HCC.out.1 (by have := HCC.out.2; omega))
  have HBA := Lib.hid hba
  have HZ := Lib.hid (show w.heap.size ≤ w2.heap.size ∧ (w2.alloc FX).heap.size = w2.heap.size + 1 from ⟨by omega, hsz⟩)
  have HFX := Lib.hid hFX
  rw [hFX] at HBG
  clear hr2 hA2 hb2 hba hsz hFX
  unfold zk at HBG
  go_wp2_with fail
  refine HBG.out.mono ?_
  rintro e w3 ⟨rfl, sd3, A3, c3, iv3, q3, H3, U3⟩
  have hfin : Hid (OpenR w sd d cap D.tick.tick num fs.settled T (headL T).length z0 (.returned (.tuple #[.pointer (some ⟨w2.heap.size, 0, none⟩), .nilIface])) w3) := by
    have e0 : w2.alloc FX = w2.alloc (.cells #[.pointer (some ⟨d, 0, none⟩), .slice A2 n c2, .int .i64 ((0 : Nat) : Int), .int .i64 ((0 : Nat) : Int), .slice none 0 0, .bool false, .bool false] 80) := by rw [HFX.out]; rfl
    rw [← e0] at H3 U3
    have z1 := HZ.out
    have z3 := U3.size
    refine ⟨w2.heap.size, rfl, ⟨sd3, A3, c3, iv3, q3, H3.wide (fun k hk => ?_) (grow_lt hsd (by omega))⟩, ?_, by omega⟩
    · rcases hk with (hk | hk) | hk
      · exact .inl hk
      · exact .inr ⟨hk.1, by omega⟩
      · exact .inr ⟨by omega, by omega⟩
    · have U1 : Upd sd sd w (w2.alloc FX) := Upd.below (thn HB2.out HBA.out)
      exact U1.thenS U3 (fun k hk => by
        rcases hk with hk | hk
        · exact .inl hk
        · exact .inr hk.1)
  clear H3 U3
  go_wp2_with fail
  go_ret2
  exact hfin.out
set_option maxRecDepth 100000 in
set_option maxHeartbeats 1000000 in
theorem Open_other (sd : Blocks) (d cap : Nat) (D : HdS) (num : Nat) (fs : FileS) (A : Option Addr) (n c : Nat) (T T0 : List (List UInt8)) (w : World) (hD : DiskF w sd d cap D true num fs) (hg : Glob w) (h : RdT w A n c T) (hT : TabsOk T) (hC : Calm D) (hf : D.files ≤ 1048576) (hc : D.count ≤ 4611686018427360000) (hb : fs.bytes = headL T0 ++ []) (hT0 : TabsOk T0) (hne : T0 ≠ T) (hl : fs.bytes.length ≤ 67108864) :
    Calls Tryz.prog 9 #[.pointer (some ⟨d, 0, none⟩), .slice A n c] w (BadR w 120) := by
  have HR := Lib.hid (right_calls A n c T w h (fun s hs => by have := (hT.2.2.1 s hs).2.1; omega))
  unfold RightR at HR
  rw [tabsB_yes hT] at HR
  have H := Lib.hid h
  have HD := Lib.hid hD
  have HT := Lib.hid hT
  have HC := Lib.hid hC
  have HCC := Lib.hid (show D.files ≤ 1048576 ∧ D.count ≤ 4611686018427360000 from ⟨hf, hc⟩)
  have hn1 : 1 ≤ n := by rw [← h.1]; exact hT.1
  have hn8 : n ≤ 8 := by rw [← h.1]; exact hT.2.1
  have HG := Lib.hid hg
  have HBB := Lib.hid hb
  have HT0 := Lib.hid hT0
  have HNE := Lib.hid hne
  clear h hT hD hC hf hc hg hb hT0 hne
  go_enter Tryz.func9, Tryz.ntmps9
  go_wp2_with fail
  refine HR.out.mono ?_
  rintro e w1 ⟨rfl, hb1⟩
  have HB1 := Lib.hid hb1
  have HCL := Lib.hid (tClone_calls A n c T w1 (H.out.below hb1) hn1 hn8)
  clear hb1
  go_wp2_with fail
  refine HCL.out.mono ?_
  rintro e w2 ⟨A2, c2, rfl, hr2, hA2, hb2⟩
  have HB2 := Lib.hid (thn HB1.out hb2)
  have hz12 := HB1.out.size
  have hz2 := hb2.size
  obtain ⟨FX, hFX⟩ : ∃ FX : Obj, FX = .cells (zk d (.slice A2 n c2) 0 0 (.slice none 0 0) false false) 80 := ⟨_, rfl⟩
  have hba : Below w2.heap.size w2 (w2.alloc FX) := (Below.refl _ _).alloc (Nat.le_refl _) _
  have hsz : (w2.alloc FX).heap.size = w2.heap.size + 1 := by simp
  have hsd : ∀ k, sd k → k < w.heap.size := HD.out.lt
  have HFN : Hid (FrzP (w2.alloc FX) (grow sd w (w2.alloc FX)) w2.heap.size d cap D true num fs T 0 z0 false false sd A2 c2 (.slice none 0 0) noB) := by
    refine ⟨?_, (HD.out.below HB2.out).below hba, fun k hk => .inl hk, ?_, fun ad e => ?_, .inl ⟨rfl, rfl⟩, fun k hk => hk.elim, .inr ⟨by omega, by omega⟩, fun e => ?_, grow_lt hsd (by omega)⟩
    · rw [hFX, H.out.1]
      exact Blk.new w2 80 _
    · rw [H.out.1]
      exact hr2.below hba
    · have := hA2 ad e
      refine ⟨.inr ⟨by omega, by omega⟩, fun hk => ?_, by omega, fun e => e⟩
      have := hsd _ hk
      omega
    · have := hsd _ e
      omega
  have HBG := Lib.hid (begins_other _ w2.heap.size d cap D num fs T T0 [] sd A2 c2 _ _ (w2.alloc FX) HFN.out (HG.out.below (thn HB2.out hba)) HT.out HT0.out HC.out HBB.out hl HNE.out)
  have HBA := Lib.hid hba
  have HZ := Lib.hid (show w.heap.size ≤ w2.heap.size ∧ (w2.alloc FX).heap.size = w2.heap.size + 1 from ⟨by omega, hsz⟩)
  have HFX := Lib.hid hFX
  rw [hFX] at HBG
  clear hr2 hA2 hb2 hba hsz hFX
  unfold zk at HBG
  go_wp2_with fail
  refine HBG.out.mono ?_
  rintro e w3 ⟨v3, rfl, hv3, hb3⟩
  rcases hv3 with ⟨h0, _⟩ | ⟨h0, k3, hk3⟩
  · exact absurd h0 (by omega)
  obtain ⟨tt, xx, hvx⟩ := hk3.iface
  subst hvx
  have HV := Lib.hid (show ErrR w3 (.iface tt xx) 120 from .inr ⟨h0, k3, hk3⟩)
  have HB3 : Hid (Below w.heap.size w w3) := by
    have e0 : w2.alloc FX = w2.alloc (.cells #[.pointer (some ⟨d, 0, none⟩), .slice A2 n c2, .int .i64 ((0 : Nat) : Int), .int .i64 ((0 : Nat) : Int), .slice none 0 0, .bool false, .bool false] 80) := by rw [HFX.out]; rfl
    rw [← e0] at hb3
    exact thn (thn HB2.out HBA.out) hb3
  clear hb3 h0 hk3
  go_wp2_with fail
  refine (failIn_calls _ _ 120 w3 HV.out).mono ?_
  rintro e w4 ⟨v4, rfl, hv4, hb4⟩
  have hfin : Hid (BadR w 120 (.returned (.tuple #[.pointer none, v4])) w4) := ⟨v4, rfl, hv4, thn HB3.out hb4⟩
  clear hv4 hb4
  go_wp2_with fail
  go_ret2
  exact hfin.out
set_option maxRecDepth 100000 in
set_option maxHeartbeats 1000000 in
theorem fSync_calls (s : Blocks) (f d cap : Nat) (D : HdS) (b : Bool) (num : Nat) (fs : FileS) (T : List (List UInt8)) (size : Nat) (z : FzS) (w : World) (h : FrzA w s f d cap D b num fs T size z) (hC : Calm D) (hf : D.files ≤ 1048576) (hc : D.count ≤ 4611686018427370000) (hl : fs.bytes.length ≤ 140737488355328) :
    Calls Tryz.prog 19 #[.pointer (some ⟨f, 0, none⟩)] w fun e w' => e = .returned .nilIface ∧ FrzA w' (grow s w w') f d cap D.tick b num fs.settled T size z ∧ Upd s s w w' := by
  obtain ⟨A, c, sd, iv, q, h⟩ := h
  have HAL := Lib.hid (alive_ok f d z.tail size (.slice A T.length c) iv ⟨#[115, 121, 110, 99]⟩ w h.blk)
  have HS := Lib.hid (dSync_calls d cap D b num fs sd w h.disk (hC.fit hf (by omega)) hl)
  have H := Lib.hid h
  have HC := Lib.hid hC
  have hE : ((D.beginsE : Nat) : Int) = 0 := by rw [hC.E]; rfl
  unfold FileOp at HS
  rw [hE] at HS
  have c0 : w.cell? ⟨f, 0, none⟩ = some (.pointer (some ⟨d, 0, none⟩)) := h.blk.cell 0
  clear h hC hE hf hc hl
  have hnm : (⟨#[111, 108, 100, 45, 108, 111, 103]⟩ : ByteArray) = str fName := rfl
  go_enter Tryz.func19, Tryz.ntmps19
  rw [hnm]
  clear hnm
  generalize str fName = nmS at *
  go_wp2_with fail
  refine HAL.out.mono ?_
  rintro e w1 ⟨rfl, rfl⟩
  go_wp2_with fail
  refine HS.out.mono ?_
  rintro e w2 ⟨rfl, hd2, hu2⟩
  rw [if_pos HC.out.E, HC.out.begins] at hd2
  have H2 := Lib.hid (H.out.disked hd2 hu2)
  have HU2 : Hid (Upd s s w1 w2) := (Upd.refl s w1).thenS hu2 (fun k hk => .inl (H.out.sub k hk))
  clear hd2 hu2
  go_wp2_with fail
  refine (failOf_calls _ 0 w2).mono ?_
  rintro e w3 ⟨v, rfl, hv, hb3⟩
  obtain ⟨_, rfl⟩ | ⟨h0, _⟩ := hv
  rotate_left
  · exact absurd rfl h0
  have HD3 := Lib.hid (dies_nil (grow s w1 w2) f d cap D.tick b num fs.settled T size z false A c ⟨#[115, 121, 110, 99]⟩ w3 ⟨_, iv, q, H2.out.below hb3⟩)
  have HB3 := Lib.hid hb3
  clear hb3
  go_wp2_with fail
  refine HD3.out.mono ?_
  rintro e w4 ⟨rfl, hW4, hU4⟩
  have hfin : Hid (FrzA w4 (grow s w1 w4) f d cap D.tick b num fs.settled T size z ∧ Upd s s w1 w4) := by
    have z2 := HU2.out.size
    have z3 := HB3.out.size
    have z4 := hU4.size
    refine ⟨⟨A, c, hW4.wide (fun k hk => ?_) (grow_lt H.out.lt (by omega))⟩, (HU2.out.thn HB3.out).thenS hU4 (fun k hk => ?_)⟩
    · rcases hk with hk | hk
      · exact .inl hk
      · exact .inr ⟨hk.1, by omega⟩
    · rcases hk with hk | hk
      · exact .inl hk
      · exact .inr hk.1
  clear hW4 hU4
  go_wp2_with fail
  go_ret
  exact ⟨rfl, hfin.out⟩
end Go.Proofs.YtejnfahfjmeabaaGreatDoor
namespace Go.Proofs.YtejnfahfjmeabaaGreatDoor
open Go.RowKit
set_option linter.unusedSimpArgs false
set_option linter.unusedVariables false

theorem OkC.head {T p : Nat} {s : FzS} {c : Chg} (h : OkC T s c) : (stepC p s c).head ≤ s.head + 1 := by
  rcases h with ⟨h1, h2, h3⟩ | ⟨h1, h2, h3, h4⟩
  · rw [stepC, if_pos h1]
    unfold FzS.head
    simp
    omega
  · rcases h1 with h1 | h1
    · rw [stepC, if_neg (by omega), if_pos h1]
      unfold FzS.head at h3 ⊢
      simp
      omega
    · rw [stepC, if_neg (by omega), if_neg (by omega)]
      unfold FzS.head at h3 ⊢
      simp
      omega
section
variable (crc : List UInt8 → Nat)
theorem ValidC_head {T : Nat} : ∀ (l : List Chg) (p : Nat) (s : FzS), ValidC crc T p s l → (playC crc p s l).2.head ≤ s.head + l.length
  | [], p, s, _ => by simp [playC]
  | c :: l, p, s, h => by
    have h1 := ValidC_head l _ _ h.2.2
    have h2 := OkC.head (p := bodyAt p (chgB c)) h.1
    rw [playC, List.length_cons]
    omega
theorem ValidC_take {T : Nat} : ∀ (l : List Chg) (k p : Nat) (s : FzS), ValidC crc T p s l → ValidC crc T p s (l.take k)
  | [], k, p, s, h => by simp; exact h
  | c :: l, 0, p, s, _ => trivial
  | c :: l, k + 1, p, s, h => ⟨h.1, h.2.1, ValidC_take l k _ _ h.2.2⟩
theorem ValidC_at {T : Nat} : ∀ (l : List Chg) (k p : Nat) (s : FzS) (c : Chg), ValidC crc T p s l → l[k]? = some c → OkC T (playC crc p s (l.take k)).2 c ∧ (chgB c).length ≤ 1048576
  | [], k, p, s, c, _, h => by simp at h
  | d :: l, 0, p, s, c, h, e => by
    simp only [List.getElem?_cons_zero, Option.some.injEq] at e
    subst e
    exact ⟨h.1, h.2.1⟩
  | d :: l, k + 1, p, s, c, h, e => by
    simp only [List.getElem?_cons_succ] at e
    exact ValidC_at l k _ _ c h.2.2 e
end
theorem take_snoc {α : Type} {l : List α} {k : Nat} {c : α} (h : l[k]? = some c) : l.take (k + 1) = l.take k ++ [c] := by
  rw [List.take_add_one, h]; rfl
theorem logB_app (crc : List UInt8 → Nat) (l r : List Chg) : logB crc (l ++ r) = logB crc l ++ logB crc r := by simp [logB]
theorem fileL_app (T : List (List UInt8)) (l r : List Chg) : fileL T (l ++ r) = fileL T l ++ logB crcN r := by
  unfold fileL
  rw [logB_app, List.append_assoc]
theorem fileL_drop (T : List (List UInt8)) (l : List Chg) (k : Nat) : (fileL T l).drop (fileL T (l.take k)).length = logB crcN (l.drop k) := by
  have h := fileL_app T (l.take k) (l.drop k)
  rw [List.take_append_drop] at h
  rw [h, List.drop_left' rfl]
theorem fileL_le (T : List (List UInt8)) (l : List Chg) (k : Nat) : (fileL T (l.take k)).length ≤ (fileL T l).length := by
  have h := fileL_app T (l.take k) (l.drop k)
  rw [List.take_append_drop] at h
  rw [h, List.length_append]
  omega
theorem logB_at {l : List Chg} {k : Nat} {c : Chg} (h : l[k]? = some c) : logB crcN (l.drop k) = frameN (chgB c) ++ logB crcN (l.drop (k + 1)) := by
  have hk := (List.getElem?_eq_some_iff.1 h).1
  rw [List.drop_eq_getElem_cons hk, logB_cons]
  have : l[k]'hk = c := (List.getElem?_eq_some_iff.1 h).2
  rw [this]
  rfl
/-- what a freezer is at a log's prefix -/
def zAt (T : List (List UInt8)) (l : List Chg) (k : Nat) : FzS := (playC crcN (headL T).length z0 (l.take k)).2
def szAt (T : List (List UInt8)) (l : List Chg) (k : Nat) : Nat := (fileL T (l.take k)).length
theorem szAt_zero (T : List (List UInt8)) (l : List Chg) : szAt T l 0 = (headL T).length := by simp [szAt, fileL, logB]
theorem zAt_zero (T : List (List UInt8)) (l : List Chg) : zAt T l 0 = z0 := by simp [zAt, playC]
theorem szAt_end (T : List (List UInt8)) (l : List Chg) : szAt T l l.length = (fileL T l).length := by simp [szAt]
theorem zAt_end (T : List (List UInt8)) (l : List Chg) : zAt T l l.length = (playC crcN (headL T).length z0 l).2 := by simp [zAt]
theorem szAt_succ {T : List (List UInt8)} {l : List Chg} {k : Nat} {c : Chg} (h : l[k]? = some c) : szAt T l (k + 1) = szAt T l k + (frameN (chgB c)).length := by
  unfold szAt
  rw [take_snoc h, fileL_snoc, List.length_append]
theorem zAt_succ {T : List (List UInt8)} {l : List Chg} {k : Nat} {c : Chg} (h : l[k]? = some c) : zAt T l (k + 1) = stepC (bodyAt (szAt T l k) (chgB c)) (zAt T l k) c := by
  unfold zAt szAt
  rw [take_snoc h, playC_snoc, play_size]
theorem zAt_head {T : List (List UInt8)} {l : List Chg} (hv : ValidC crcN T.length (headL T).length z0 l) (k : Nat) : (zAt T l k).head ≤ l.length := by
  have h := ValidC_head crcN (l.take k) _ _ (ValidC_take crcN l k _ _ hv)
  have : z0.head = 0 := rfl
  rw [this, List.length_take] at h
  unfold zAt
  omega
theorem frameN_pos (b : List UInt8) : 0 < (frameN b).length := by have := frameN_len b; omega
end Go.Proofs.YtejnfahfjmeabaaGreatDoor
namespace Go.Proofs.YtejnfahfjmeabaaGreatDoor
open Go.RowKit
set_option linter.unusedSimpArgs false
set_option linter.unusedVariables false

/-- how much of the log is left, by the variable -/
def leftF (f nb : Nat) (wr : World) : Nat := match wr.cell? ⟨f, 2, none⟩ with | some (.int _ n) => nb - n.toNat | _ => 0
theorem leftF_eq {f nb sz : Nat} {wr : World} (h : wr.cell? ⟨f, 2, none⟩ = some (.int .i64 (sz : Int))) : leftF f nb wr = nb - sz := by
  unfold leftF
  rw [h]
  simp
/-- a freezer that has read a part of its log -/
structure LR (w6 wk : World) (s : Blocks) (f d cap : Nat) (D : HdS) (num : Nat) (fs : FileS) (T : List (List UInt8)) (A : Option Addr) (c sz : Nat) (z : FzS) : Prop where
  frz : FrzW wk (grow s w6 wk) f d cap D true num fs T sz z false false A c
  upd : Upd s s w6 wk
theorem FrzW.below {w w' : World} {s : Blocks} {f d cap : Nat} {D : HdS} {b : Bool} {num : Nat} {fs : FileS} {T : List (List UInt8)} {size : Nat} {z : FzS} {dead closed : Bool} {A : Option Addr} {c : Nat}
    (h : FrzW w s f d cap D b num fs T size z dead closed A c) (hb : Below w.heap.size w w') : FrzW w' s f d cap D b num fs T size z dead closed A c := by
  obtain ⟨sd, iv, q, h⟩ := h
  exact ⟨sd, iv, q, h.below hb⟩
theorem log_arith (sz fl bl sz2 at2 nb : Nat) (h1 : sz2 ≤ nb) (h2 : nb ≤ 67108864) (h3 : bl ≤ fl) (h4 : sz2 = sz + fl) (h5 : at2 = sz2 - bl) : (sz : Int) + (fl : Int) = (sz2 : Int) ∧ (sz2 : Int) - (bl : Int) = (at2 : Int) ∧ wrap64 (sz2 : Int) = (sz2 : Int) ∧ wrap64 (at2 : Int) = (at2 : Int) :=
  ⟨by omega, by omega, wrap_ok _ (by omega) (by omega), wrap_ok _ (by omega) (by omega)⟩
set_option maxRecDepth 100000 in
set_option maxHeartbeats 1000000 in
theorem begins_log (s : Blocks) (f d cap : Nat) (D : HdS) (num : Nat) (fs : FileS) (T : List (List UInt8)) (l : List Chg) (sd : Blocks) (A : Option Addr) (c : Nat) (iv : Value) (q : Blocks) (w : World)
    (h : FrzP w s f d cap D true num fs T 0 z0 false false sd A c iv q) (hg : Glob w) (hT : TabsOk T) (hC : Calm D) (hb : fs.bytes = fileL T l) (hl : fs.bytes.length ≤ 67108864) (hv : ValidC crcN T.length (headL T).length z0 l) (hll : l.length ≤ 1000000) (hf : D.files ≤ 1048576) (hcn : D.count ≤ 4611686018427380000) :
    Calls Tryz.prog 35 #[.pointer (some ⟨f, 0, none⟩)] w (BeginsR w s f d cap D.tick.tick num fs.settled T (fileL T l).length (playC crcN (headL T).length z0 l).2) := by
  have c0 : w.cell? ⟨f, 0, none⟩ = some (.pointer (some ⟨d, 0, none⟩)) := h.blk.cell 0
  have HRD := Lib.hid (dRead_calls d cap D true num fs sd w h.disk hC.down (by omega))
  have H := Lib.hid h
  have HG := Lib.hid hg
  have HT := Lib.hid hT
  have HB := Lib.hid hb
  have HV := Lib.hid hv
  have HCC := Lib.hid (show D.files ≤ 1048576 ∧ D.count ≤ 4611686018427380000 from ⟨hf, hcn⟩)
  have HC := Lib.hid hC
  have hq13 : decide (0 = 13) = false := rfl
  clear h hg hT hC hb hv hf hcn
  have hnm : (⟨#[111, 108, 100, 45, 108, 111, 103]⟩ : ByteArray) = str fName := rfl
  go_enter Tryz.func35, Tryz.ntmps35
  rw [hnm]
  clear hnm
  generalize str fName = nmS at *
  go_wp2_with fail
  refine HRD.out.mono ?_
  rintro e w1 ⟨v1, rfl, ho1, hb1⟩
  have HO1 := Lib.hid ho1
  have HB1 := Lib.hid hb1
  clear ho1 hb1
  go_wp2_with fail
  refine (is_calls 0 13 w1).mono ?_
  rintro e w2 ⟨rfl, rfl⟩
  obtain ⟨A1, c1, hv1, hr1⟩ := HO1.out.reads
  subst hv1
  have HUF := Lib.hid (Unframe_calls A1 fs.bytes.length c1 fs.bytes w2 hr1 (by omega))
  have huf : unframeL crcN fs.bytes = (tabB T, (headL T).length, 0) := by
    rw [HB.out]
    exact unframe_frame crcN crcN_lt (tabB T) (logB crcN l) (Nat.le_trans (tabB_len HT.out) (by omega))
  unfold UnfR at HUF
  rw [huf] at HUF
  have HR1 := Lib.hid hr1
  clear huf hr1
  go_wp2_with fail
  refine HUF.out.mono ?_
  rintro e w3 ⟨v3, rfl, ho3, hb3⟩
  obtain ⟨A3, c3, hv3, hr3⟩ := OwnB.reads ho3
  subst hv3
  have HB3 := Lib.hid (thn HB1.out hb3)
  have HB23 := Lib.hid hb3
  have hcv := run_convertB (P := Tryz.prog) w3.drew 34 5 9 Tryz.underlying34 Tryz.underlying5 Tryz.underlying9 (hr3.below ((Below.refl _ _).drew))
  have hF3 := H.out.below HB3.out
  have s1 : w3.cell? ⟨f, 1, none⟩ = some (.slice A T.length c) := hF3.blk.cell 1
  have HSP := Lib.hid (Split_calls (tabB T) w3.drew (Nat.le_trans (tabB_len HT.out) (by omega)) (HG.out.below HB3.out.drew))
  rw [split_tab HT.out] at HSP
  have hTl := HT.out.2.1
  have HEQ : Hid (Calls Tryz.prog 58 #[.slice (some ⟨w3.drew.heap.size, 0, none⟩) T.length T.length, .slice A T.length c] (w3.drew.alloc (.cells (svs T).toArray 9)) fun e w' => e = .returned (.bool (decide (T = T))) ∧ Below (w3.drew.alloc (.cells (svs T).toArray 9)).heap.size (w3.drew.alloc (.cells (svs T).toArray 9)) w') := by
    refine Calls.mono (Equal_calls w3.drew.heap.size T.length A T.length c T T _ (fun j s hs => ?_) (hF3.tab.below (((Below.refl _ _).drew).alloc (Nat.le_refl _) _)) HT.out.1 (by omega) (by have := HT.out.2.1; omega)) (fun e w' hx => ⟨hx.1, by obtain ⟨q, hq⟩ := hx.2; rw [hq]; exact below_drewN q⟩)
    rw [(Blk.new w3.drew 9 (svs T).toArray).cell, Nat.zero_add]
    show ((svs T).toArray)[j]? = _
    rw [List.getElem?_toArray]
    unfold svs
    rw [List.getElem?_map, hs]
    rfl
  rw [decide_eq_true rfl] at HEQ
  have s1a : (w3.drew.alloc (.cells (svs T).toArray 9)).cell? ⟨f, 1, none⟩ = some (.slice A T.length c) := cell_below' (((Below.refl _ w3).drew).alloc (Nat.le_refl _) _) s1
  have s1d : w3.drew.cell? ⟨f, 1, none⟩ = some (.slice A T.length c) := s1
  obtain ⟨tl, htl⟩ : ∃ tl, tl = (tabB T).length := ⟨_, rfl⟩
  rw [← htl] at hcv ⊢
  have HBA : Hid (Below w.heap.size w (w3.drew.alloc (.cells (svs T).toArray 9))) := by
    have h1 := HB3.out.drew
    exact h1.alloc h1.size _
  have hcvA : ∀ W, Below w3.drew.heap.size w3.drew W → (convert 34 9 (.slice A3 tl c3)).run Tryz.prog W = .ok (.string (str (tabB T))) W := fun W hW => by
    rw [htl]
    exact run_convertB (P := Tryz.prog) W 34 5 9 Tryz.underlying34 Tryz.underlying5 Tryz.underlying9 ((hr3.below ((Below.refl _ _).drew)).below hW)
  have hcva := hcvA _ ((Below.refl _ w3.drew).alloc (Nat.le_refl _) (.cells (svs T).toArray 9))
  have HCVA := Lib.hid hcvA
  clear ho3 hb3 hr3 hF3 htl hTl hcvA
  go_wp2_with fail
  go_region_held3 (fun W => W.cell? ⟨f, 1, none⟩ = some (.slice A T.length c) ∧ (convert 34 9 (.slice A3 tl c3)).run Tryz.prog W = .ok (.string (str (tabB T))) W) (first | exact ⟨s1d, hcv⟩ | exact ⟨s1a, hcva⟩ | exact ⟨s1q, hcvq⟩) (first | (go_at_call 59; refine HSP.out.mono ?_; rintro e w4 ⟨rfl, rfl⟩) | (go_at_call 58; refine HEQ.out.mono ?_; rintro e w6 ⟨rfl, hb6⟩; have s1q := cell_below' hb6 s1a; have hcvq := HCVA.out w6 (thn ((Below.refl _ w3.drew).alloc (Nat.le_refl _) _) hb6)))
  have HBQ : Hid (Below w.heap.size w w6) := thn HBA.out hb6
  have HRX : Hid (RdB w6 A1 fs.bytes.length c1 fs.bytes) := (HR1.out.below (thn (thn HB23.out ((Below.refl _ w3).drew)) (((Below.refl _ w3.drew)).alloc (Nat.le_refl _) _))).below hb6
  have HW26 : Hid (w2.heap.size ≤ w6.heap.size) := by
    have h1 := HB23.out.size
    have h2 := hb6.size
    have h3 : (w3.drew.alloc (.cells (svs T).toArray 9)).heap.size = w3.drew.heap.size + 1 := by simp
    have h4 : w3.drew.heap.size = w3.heap.size := rfl
    show w2.heap.size ≤ w6.heap.size
    omega
  clear hb6
  have H6 := Lib.hid (H.out.below HBQ.out)
  have f62 := H6.out.blk.frozen 2
  have c62 : w6.cell? ⟨f, 2, none⟩ = some (.int .i64 0) := H6.out.blk.cell 2
  obtain ⟨hl2, hhl2⟩ : ∃ hl2, hl2 = (headL T).length := ⟨_, rfl⟩
  have HHL := Lib.hid hhl2
  obtain ⟨nb, hnb⟩ : ∃ nb, nb = fs.bytes.length := ⟨_, rfl⟩
  rw [← hhl2]
  rw [← hnb] at HRX hl ⊢
  have hle : hl2 ≤ nb := by
    rw [hnb, HB.out, hhl2]
    unfold fileL
    rw [List.length_append]
    omega
  obtain ⟨w7, hw7⟩ : ∃ w7 : World, w7 = w6.setCell ⟨f, 2, none⟩ (.int .i64 (hl2 : Int)) := ⟨_, rfl⟩
  have hz7 : w7.heap.size = w6.heap.size := by rw [hw7]; simp [World.setCell]
  have H7 := Lib.hid (H6.out.own (size' := hl2) (dead' := false) (closed' := false) (w' := w7) (by rw [hw7]; exact (H6.out.blk.set_ 2 _).eq_ rfl) (fun k hk => by rw [hw7]; exact Below.heap_setCell w6 ⟨f, 2, none⟩ _ k hk) hz7)
  have HA1 : Hid (∀ ad, A1 = some ad → ¬ s ad.block ∧ ad.block < w6.heap.size) := fun ad e => by
    have h1 := HO1.out.block ad.block (by rw [e]; rfl)
    have h2 := thn HB23.out ((Below.refl _ w3).drew)
    have h3 := h2.size
    refine ⟨fun hs => ?_, ?_⟩
    · have := H.out.lt ad.block hs
      omega
    · have h4 := HW26.out
      omega
  have HLR : Hid (LR w6 w7 s f d cap D num fs T A c (szAt T l 0) (zAt T l 0)) := by
    rw [szAt_zero, zAt_zero, ← HHL.out]
    refine ⟨⟨_, _, _, H7.out.wide (fun k hk => .inl hk) (grow_lt H6.out.lt (by rw [hz7]; exact Nat.le_refl _))⟩, ?_⟩
    rw [hw7]
    exact (Upd.refl s w6).setS (.inl H.out.fin) _
  have HRD : Hid (∀ W, Upd s s w6 W → RdB W A1 nb c1 fs.bytes) := fun W hW => rdB_keep (t := fun k => ¬ s k ∧ k < w6.heap.size) HRX.out (fun k hk => hW.block k hk.2 hk.1) HA1.out
  have HNC := Lib.hid HRX.out.2.1
  have HL := Lib.hid (show nb ≤ 67108864 ∧ nb = (fileL T l).length from ⟨hl, by rw [hnb, HB.out]⟩)
  have HLL := Lib.hid hll
  have HQ6 := Lib.hid HBQ.out
  clear s1a s1d s1q s1 hcv hcva hcvq hz7 hhl2 hnb hl hle hll HRX HW26
  go_wp2_with fail
  rw [← hw7]
  clear hw7 f62 c62 H7
  go_loopw [] (fun wr => ∃ k, k ≤ l.length ∧ LR w6 wr s f d cap D num fs T A c (szAt T l k) (zAt T l k)) (fun wr => leftF f nb wr)
  case atStart => exact ⟨0, Nat.zero_le _, HLR.out⟩
  case round =>
    obtain ⟨k, hk, hr⟩ := hrel
    obtain ⟨wo, rfl⟩ : ∃ wo : World, wo = wr := ⟨_, rfl⟩
    obtain ⟨sdk, ivk, qk, HPk⟩ := hr.frz
    have HP := Lib.hid HPk
    have hsz : szAt T l k ≤ nb := by rw [HL.out.2]; exact fileL_le T l k
    have hdr : fs.bytes.drop (szAt T l k) = logB crcN (l.drop k) := by rw [HB.out]; exact fileL_drop T l k
    have HU := Lib.hid hr.upd
    have hsub := (HRD.out wo hr.upd).sub (szAt T l k) hsz
    have c2 : wo.cell? ⟨f, 2, none⟩ = some (.int .i64 (szAt T l k : Int)) := HPk.blk.cell 2
    have HLF : Hid (leftF f nb wo = nb - szAt T l k) := leftF_eq c2
    have HZS := Lib.hid (zAt_head HV.out k)
    rw [hdr] at hsub
    have HUF := Lib.hid (Unframe_calls (subA A1 (szAt T l k) c1) (nb - szAt T l k) (c1 - szAt T l k) _ wo hsub (by have := HL.out.1; omega))
    by_cases hlt : k < l.length
    · obtain ⟨⟨kind, n, vs⟩, hch⟩ : ∃ ch, l[k]? = some ch := ⟨_, List.getElem?_eq_getElem hlt⟩
      have hs1 := szAt_succ (T := T) hch
      have hz1 := zAt_succ (T := T) hch
      have hle1 : szAt T l (k + 1) ≤ nb := by rw [HL.out.2]; exact fileL_le T l (k + 1)
      obtain ⟨hok, hbl0⟩ := ValidC_at crcN l k _ _ _ HV.out hch
      rw [logB_at hch] at HUF
      unfold UnfR at HUF
      have huf : unframeL crcN (frameN (chgB (kind, n, vs)) ++ logB crcN (l.drop (k + 1))) = (chgB (kind, n, vs), (frameN (chgB (kind, n, vs))).length, 0) := unframe_frame crcN crcN_lt _ _ hbl0
      rw [huf] at HUF
      have HS1 := Lib.hid hs1
      have HZ1 := Lib.hid hz1
      have hok2 : OkC T.length (zAt T l k) (kind, n, vs) := hok
      have HOK := Lib.hid hok2
      have hfp := frameN_pos (chgB (kind, n, vs))
      have hfl0 := frameN_len (chgB (kind, n, vs))
      obtain ⟨sz, hsz0⟩ : ∃ sz, sz = szAt T l k := ⟨_, rfl⟩
      obtain ⟨body, hbody⟩ : ∃ body, body = chgB (kind, n, vs) := ⟨_, rfl⟩
      obtain ⟨fl, hfl⟩ : ∃ fl, fl = (frameN body).length := ⟨_, rfl⟩
      obtain ⟨bl, hbl⟩ : ∃ bl, bl = body.length := ⟨_, rfl⟩
      rw [← hbody] at HUF hs1 hbl0 hfp hfl0
      rw [← hfl] at HUF hs1 hfp hfl0
      rw [← hbl] at hbl0 hfl0
      rw [← hsz0] at HUF hs1 hsz c2 hsub HLF
      obtain ⟨sz2, hsz2⟩ : ∃ sz2, sz2 = sz + fl := ⟨_, rfl⟩
      obtain ⟨at2, hat2⟩ : ∃ at2, at2 = sz2 - bl := ⟨_, rfl⟩
      have HAR := Lib.hid (log_arith sz fl bl sz2 at2 nb (by rw [hsz2, ← hs1]; exact hle1) HL.out.1 (by omega) hsz2 hat2)
      have HK2 : Hid (kind ≤ 2 ∧ n ≤ 1000000 ∧ vs.length ≤ 8) := by
        have hT8 := HT.out.2.1
        have hzh := HZS.out
        have hll := HLL.out
        rcases hok2 with ⟨h1, h2, h3⟩ | ⟨h1, h2, h3, h4⟩
        · simp only at h1 h2 h3
          exact ⟨by omega, by omega, by omega⟩
        · simp only at h1 h2 h3 h4
          subst h4
          exact ⟨by omega, by omega, by simp⟩
      have HSZ := Lib.hid (show sz = szAt T l k ∧ sz2 = szAt T l (k + 1) ∧ sz2 ≤ nb ∧ sz < sz2 ∧ at2 ≤ nb ∧ at2 = sz + 4 + (putL bl).length from ⟨hsz0, by rw [hsz2, hs1], by rw [hsz2, ← hs1]; exact hle1, by omega, by omega, by rw [hat2, hsz2, hfl0]; omega⟩)
      have HBD := Lib.hid hbody
      have HBL := Lib.hid (show bl = body.length ∧ bl ≤ 1048576 from ⟨hbl, hbl0⟩)
      have hnbc := HNC.out
      clear hr HPk hdr hsub hch hs1 hz1 hle1 hok hok2 huf hfp hfl0 hsz0 hbody hfl hbl hbl0 hsz2 hat2
      go_wp2_with (refine wpList_sliceLo rfl (.tmp 68) (.tmp 72) rfl A1 nb c1 sz rfl rfl hsz hnbc ?_)
      refine HUF.out.mono ?_
      rintro e w4 ⟨v4, rfl, ho4, hb4⟩
      obtain ⟨A4, c4, hv4, hr4⟩ := OwnB.reads ho4
      subst hv4
      rw [← HBL.out.1] at hr4 ⊢
      have HB4 := Lib.hid hb4
      have P4 := HP.out.below hb4
      have g2 : w4.cell? ⟨f, 2, none⟩ = some (.int .i64 (sz : Int)) := by rw [HSZ.out.1]; exact P4.blk.cell 2
      have HRDC := Lib.hid (read_calls A4 bl c4 at2 kind n vs w4 (by rw [HBD.out] at hr4; exact hr4) (by have := HK2.out; omega) (by have := HK2.out; omega) HBL.out.2 (by have h1 := HSZ.out; have h2 := HL.out.1; omega) (by have := HK2.out; omega))
      have HP4 := Lib.hid P4
      obtain ⟨e1a, e2a, e3a, e4a⟩ := HAR.out
      clear ho4 hr4 hb4 P4
      go_wp2_with fail
      clear e1a e2a e3a e4a
      refine HRDC.out.mono ?_
      rintro e w5 ⟨sv, rfl, ho5, hb5⟩
      obtain ⟨As, cs, hsv⟩ := row_slice ho5
      obtain ⟨nv, hnv⟩ : ∃ nv, nv = vs.length := ⟨_, rfl⟩
      rw [← hnv] at hsv
      subst hsv
      obtain ⟨CX, hCX⟩ : ∃ CX : Obj, CX = .cells #[.int .i64 (kind : Int), .int .i64 (n : Int), .slice As nv cs] 118 := ⟨_, rfl⟩
      have hba : Below w5.heap.size w5 (w5.alloc CX) := (Below.refl _ _).alloc (Nat.le_refl _) _
      have hb8 := thn hb5 hba
      have H8 := HP4.out.below hb8
      have BC : Blk (w5.alloc CX) w5.heap.size 118 #[.int .i64 (kind : Int), .int .i64 (n : Int), .slice As nv cs] := by rw [hCX]; exact Blk.new w5 118 _
      have svb : ∀ k, ownS (.slice As nv cs) k → w4.heap.size ≤ k ∧ k < w5.heap.size := fun k hk => World.ownsRow.lt ho5 k hk
      have HFD := Lib.hid (fdoes_calls _ f d cap _ true num _ T _ _ false false _ A c _ _ (.slice As nv cs) kind n (bodyAt (szAt T l k) (chgB (kind, n, vs))) vs (w5.alloc CX) H8 HOK.out (by
        have e : bodyAt (szAt T l k) (chgB (kind, n, vs)) = at2 := by
          have h6 := HSZ.out.2.2.2.2.2
          unfold bodyAt
          rw [← HBD.out, ← HBL.out.1, h6, HSZ.out.1, Nat.add_assoc]
        rw [e]
        exact row_less (row_keep ho5 (KeepsOn.below hba fun k hk => (svb k hk).2))) (fun k hk e => by
        have := HP4.out.lt k e
        have := (svb k hk).1
        omega) (by have h1 := HZS.out; have h2 := HLL.out; omega))
      have HSV := Lib.hid svb
      have HB8 := Lib.hid (thn HB4.out hb8)
      have HZ5 := Lib.hid (show wo.heap.size ≤ w5.heap.size ∧ wo.heap.size ≤ w4.heap.size from ⟨Nat.le_trans HB4.out.size hb5.size, HB4.out.size⟩)
      have HNV := Lib.hid hnv
      have HCX := Lib.hid hCX
      rw [hCX] at HFD
      clear ho5 hb5 hba hb8 H8 BC svb hCX hnv g2
      go_wp2_with fail
      refine HFD.out.mono ?_
      rintro e w9 ⟨rfl, ⟨sd9, iv9, q9, P9⟩, hU9⟩
      have f92 := P9.blk.frozen 2
      have g9 : w9.cell? ⟨f, 2, none⟩ = some (.int .i64 (sz : Int)) := by rw [HSZ.out.1]; exact P9.blk.cell 2
      obtain ⟨W, hW⟩ : ∃ W : World, W = w9.setCell ⟨f, 2, none⟩ (.int .i64 (sz2 : Int)) := ⟨_, rfl⟩
      have hzW : W.heap.size = w9.heap.size := by rw [hW]; simp [World.setCell]
      have PW := P9.own (size' := sz2) (dead' := false) (closed' := false) (w' := W) (by rw [hW]; exact (P9.blk.set_ 2 _).eq_ rfl) (fun k hk => by rw [hW]; exact Below.heap_setCell w9 ⟨f, 2, none⟩ _ k hk) hzW
      have hm9 : leftF f nb W = nb - sz2 := leftF_eq (PW.blk.cell 2)
      have hu9 : Upd s s w6 W := by
        rw [hW]
        rw [← HCX.out] at hU9
        refine ((HU.out.thn HB8.out).thenS hU9 (fun k hk => ?_)).setS (.inl H6.out.fin) _
        rcases hk with hk | hk
        · exact .inl hk
        · exact .inr hk.1
      have HFIN : Hid (LR w6 W s f d cap D num fs T A c (szAt T l (k + 1)) (zAt T l (k + 1))) := by
        rw [HZ1.out, ← HSZ.out.2.1]
        rw [← HCX.out] at hU9
        have z9 := hU9.size
        have z8 := HB8.out.size
        have z6 := HU.out.size
        refine ⟨⟨_, _, _, PW.wide (fun k hk => ?_) (grow_lt H6.out.lt hu9.size)⟩, hu9⟩
        rw [← HCX.out] at hk
        rcases hk with (hk | hk) | hk
        · rcases hk with hk | hk
          · exact .inl hk
          · exact .inr ⟨hk.1, by omega⟩
        · exact .inr ⟨by omega, by omega⟩
        · have h1 := HSV.out k hk
          have h2 := HZ5.out
          have h3 : (w5.alloc CX).heap.size = w5.heap.size + 1 := by simp
          exact .inr ⟨by omega, by omega⟩
      have HME : Hid (leftF f nb W < leftF f nb wo) := by
        rw [hm9, HLF.out]
        have h1 := HSZ.out
        show nb - sz2 < nb - sz
        omega
      rw [hW] at HFIN HME
      clear P9 hU9 hW hzW PW hm9 hu9
      obtain ⟨e1a, e2a, e3a, e4a⟩ := HAR.out
      go_wp2_with fail
      clear e1a e2a e3a e4a
      go_roundw
      case rel => exact ⟨k + 1, hlt, HFIN.out⟩
      case measure => exact HME.out
    · obtain rfl : k = l.length := by omega
      have hd : logB crcN (l.drop l.length) = [] := by rw [List.drop_length]; rfl
      have hse : szAt T l l.length = nb := by rw [szAt_end, HL.out.2]
      have hze := zAt_end T l
      rw [hd, hse] at HUF
      rw [hse] at c2 hsz
      have HP2 : Hid (FrzP wo (grow s w6 wo) f d cap D true num fs T nb (playC crcN (headL T).length z0 l).2 false false sdk A c ivk qk) := by
        rw [← hze, ← hse]
        exact HPk
      have HUF2 : Hid (Calls Tryz.prog 57 #[.slice (subA A1 nb c1) (nb - nb) (c1 - nb)] wo fun e w' => ∃ v, e = .returned (.tuple #[v, .int .i64 0, .int .i64 20]) ∧ Below wo.heap.size wo w') := HUF.out.mono fun e w' hx => by
        obtain ⟨v, e1, _, e3⟩ := hx
        exact ⟨v, e1, e3⟩
      have hnbc := HNC.out
      have hN0 : nb - nb = 0 := Nat.sub_self nb
      rw [hN0] at HUF2
      clear hr HPk hdr hsub HUF hd hse hze
      go_wp2_with (refine wpList_sliceLo rfl (.tmp 68) (.tmp 72) rfl A1 nb c1 nb rfl rfl hsz hnbc ?_; rw [hN0])
      refine HUF2.out.mono ?_
      rintro e w8 ⟨v8, rfl, hb8⟩
      have c82 := cell_below' hb8 c2
      have HS8 := Lib.hid (sure_calls _ f d cap D true num fs T nb _ sdk A c ivk qk w8 (HP2.out.below hb8) HC.out HCC.out.1 HCC.out.2 (by have := HL.out.1; have h2 := HL.out.2; rw [HB.out]; omega))
      have HB8 := Lib.hid hb8
      clear hb8
      go_wp2_with fail
      refine HS8.out.mono ?_
      rintro e w9 ⟨rfl, sd9, H9, U9⟩
      have hfin : Hid (BeginsR w s f d cap D.tick.tick num fs.settled T (fileL T l).length (playC crcN (headL T).length z0 l).2 (.returned .nilIface) w9) := by
        rw [← HL.out.2]
        have z8 := HB8.out.size
        have z9 := U9.size
        have z7 := HU.out.size
        have z6 := HQ6.out.size
        refine ⟨rfl, sd9, A, c, _, _, H9.wide (fun k hk => ?_) (grow_lt H.out.lt (by omega)), ?_⟩
        · rcases hk with hk | hk
          · rcases hk with hk | hk
            · exact .inl hk
            · exact .inr ⟨by omega, by omega⟩
          · exact .inr ⟨by omega, hk.2⟩
        · have U6 : Upd s s w w6 := Upd.below HQ6.out
          exact ((U6.thenS HU.out (fun k hk => .inl hk)).thn HB8.out).thenS U9 (fun k hk => by
            rcases hk with hk | hk
            · exact .inl hk
            · exact .inr (by omega))
      clear H9 U9
      go_wp2_with fail
      go_ret
      exact hfin.out
end Go.Proofs.YtejnfahfjmeabaaGreatDoor
namespace Go.Proofs.YtejnfahfjmeabaaGreatDoor
open Go.RowKit
set_option linter.unusedSimpArgs false
set_option linter.unusedVariables false

set_option maxRecDepth 100000 in
set_option maxHeartbeats 1000000 in
theorem Open_log (sd : Blocks) (d cap : Nat) (D : HdS) (num : Nat) (fs : FileS) (A : Option Addr) (n c : Nat) (T : List (List UInt8)) (l : List Chg) (w : World) (hD : DiskF w sd d cap D true num fs) (hg : Glob w) (h : RdT w A n c T) (hT : TabsOk T) (hC : Calm D) (hf : D.files ≤ 1048576) (hc : D.count ≤ 4611686018427360000) (hb : fs.bytes = fileL T l) (hv : ValidC crcN T.length (headL T).length z0 l) (hll : l.length ≤ 1000000) (hl : fs.bytes.length ≤ 67108864) :
    Calls Tryz.prog 9 #[.pointer (some ⟨d, 0, none⟩), .slice A n c] w (OpenR w sd d cap D.tick.tick num fs.settled T (fileL T l).length (playC crcN (headL T).length z0 l).2) := by
  have HR := Lib.hid (right_calls A n c T w h (fun s hs => by have := (hT.2.2.1 s hs).2.1; omega))
  unfold RightR at HR
  rw [tabsB_yes hT] at HR
  have H := Lib.hid h
  have HD := Lib.hid hD
  have HT := Lib.hid hT
  have HC := Lib.hid hC
  have HCC := Lib.hid (show D.files ≤ 1048576 ∧ D.count ≤ 4611686018427360000 from ⟨hf, hc⟩)
  have hn1 : 1 ≤ n := by rw [← h.1]; exact hT.1
  have hn8 : n ≤ 8 := by rw [← h.1]; exact hT.2.1
  have HG := Lib.hid hg
  have HBB := Lib.hid hb
  have HV := Lib.hid hv
  clear h hT hD hC hf hc hg hb hv
  go_enter Tryz.func9, Tryz.ntmps9
  go_wp2_with fail
  refine HR.out.mono ?_
  rintro e w1 ⟨rfl, hb1⟩
  have HB1 := Lib.hid hb1
  have HCL := Lib.hid (tClone_calls A n c T w1 (H.out.below hb1) hn1 hn8)
  clear hb1
  go_wp2_with fail
  refine HCL.out.mono ?_
  rintro e w2 ⟨A2, c2, rfl, hr2, hA2, hb2⟩
  have HB2 := Lib.hid (thn HB1.out hb2)
  have hz12 := HB1.out.size
  have hz2 := hb2.size
  obtain ⟨FX, hFX⟩ : ∃ FX : Obj, FX = .cells (zk d (.slice A2 n c2) 0 0 (.slice none 0 0) false false) 80 := ⟨_, rfl⟩
  have hba : Below w2.heap.size w2 (w2.alloc FX) := (Below.refl _ _).alloc (Nat.le_refl _) _
  have hsz : (w2.alloc FX).heap.size = w2.heap.size + 1 := by simp
  have hsd : ∀ k, sd k → k < w.heap.size := HD.out.lt
  have HFN : Hid (FrzP (w2.alloc FX) (grow sd w (w2.alloc FX)) w2.heap.size d cap D true num fs T 0 z0 false false sd A2 c2 (.slice none 0 0) noB) := by
    refine ⟨?_, (HD.out.below HB2.out).below hba, fun k hk => .inl hk, ?_, fun ad e => ?_, .inl ⟨rfl, rfl⟩, fun k hk => hk.elim, .inr ⟨by omega, by omega⟩, fun e => ?_, grow_lt hsd (by omega)⟩
    · rw [hFX, H.out.1]
      exact Blk.new w2 80 _
    · rw [H.out.1]
      exact hr2.below hba
    · have := hA2 ad e
      refine ⟨.inr ⟨by omega, by omega⟩, fun hk => ?_, by omega, fun e => e⟩
      have := hsd _ hk
      omega
    · have := hsd _ e
      omega
  have HBG := Lib.hid (begins_log _ w2.heap.size d cap D num fs T l sd A2 c2 _ _ (w2.alloc FX) HFN.out (HG.out.below (thn HB2.out hba)) HT.out HC.out HBB.out hl HV.out hll HCC.out.1 (by have := HCC.out.2; omega))
  have HBA := Lib.hid hba
  have HZ := Lib.hid (show w.heap.size ≤ w2.heap.size ∧ (w2.alloc FX).heap.size = w2.heap.size + 1 from ⟨by omega, hsz⟩)
  have HFX := Lib.hid hFX
  rw [hFX] at HBG
  clear hr2 hA2 hb2 hba hsz hFX
  unfold zk at HBG
  go_wp2_with fail
  refine HBG.out.mono ?_
  rintro e w3 ⟨rfl, sd3, A3, c3, iv3, q3, H3, U3⟩
  have hfin : Hid (OpenR w sd d cap D.tick.tick num fs.settled T (fileL T l).length (playC crcN (headL T).length z0 l).2 (.returned (.tuple #[.pointer (some ⟨w2.heap.size, 0, none⟩), .nilIface])) w3) := by
    have e0 : w2.alloc FX = w2.alloc (.cells #[.pointer (some ⟨d, 0, none⟩), .slice A2 n c2, .int .i64 ((0 : Nat) : Int), .int .i64 ((0 : Nat) : Int), .slice none 0 0, .bool false, .bool false] 80) := by rw [HFX.out]; rfl
    rw [← e0] at H3 U3
    have z1 := HZ.out
    have z3 := U3.size
    refine ⟨w2.heap.size, rfl, ⟨sd3, A3, c3, iv3, q3, H3.wide (fun k hk => ?_) (grow_lt hsd (by omega))⟩, ?_, by omega⟩
    · rcases hk with (hk | hk) | hk
      · exact .inl hk
      · exact .inr ⟨hk.1, by omega⟩
      · exact .inr ⟨by omega, by omega⟩
    · have U1 : Upd sd sd w (w2.alloc FX) := Upd.below (thn HB2.out HBA.out)
      exact U1.thenS U3 (fun k hk => by
        rcases hk with hk | hk
        · exact .inl hk
        · exact .inr hk.1)
  clear H3 U3
  go_wp2_with fail
  go_ret2
  exact hfin.out
/-- a calm disk that bears a freezer's log -/
structure FDk (w : World) (s : Blocks) (d cap N : Nat) (T : List (List UInt8)) (l : List Chg) (z : FzS) (items : List (List (List UInt8))) (D : HdS) (num : Nat) (fs : FileS) : Prop where
  disk : DiskF w s d cap D true num fs
  calm : Calm D
  files : D.files ≤ 1000
  count : D.count ≤ N
  bytes : fs.bytes = fileL T l
  pend : fs.pend.length ≤ N
  play : z = (playC crcN (headL T).length z0 l).2
  valid : ValidC crcN T.length (headL T).length z0 l
  told : Told (fileL T l) z items
theorem FDk.below {w w' : World} {s : Blocks} {d cap N : Nat} {T : List (List UInt8)} {l : List Chg} {z : FzS} {items : List (List (List UInt8))} {D : HdS} {num : Nat} {fs : FileS} (h : FDk w s d cap N T l z items D num fs) (hb : Below w.heap.size w w') : FDk w' s d cap N T l z items D num fs :=
  ⟨h.disk.below hb, h.calm, h.files, h.count, h.bytes, h.pend, h.play, h.valid, h.told⟩
/-- opened again -/
theorem FDk.open {w : World} {s : Blocks} {d cap N : Nat} {T : List (List UInt8)} {l : List Chg} {z : FzS} {items : List (List (List UInt8))} {D : HdS} {num : Nat} {fs : FileS} (h : FDk w s d cap N T l z items D num fs) {A : Option Addr} {n c : Nat} (hg : Glob w) (hr : RdT w A n c T) (hT : TabsOk T) (hl : (fileL T l).length ≤ 67108864) (hll : l.length ≤ 1000000) (hN : N ≤ 1000000) :
    Calls Tryz.prog 9 #[.pointer (some ⟨d, 0, none⟩), .slice A n c] w fun e w' => ∃ f, e = .returned (.tuple #[.pointer (some ⟨f, 0, none⟩), .nilIface]) ∧ (∃ D' fs', FZ w' (grow s w w') f d cap (N + 2) T l z items D' num fs') ∧ Upd s s w w' ∧ w.heap.size ≤ f := by
  have hc := h.count
  have hf := h.files
  refine (Open_log s d cap D num fs A n c T l w h.disk hg hr hT h.calm (by omega) (by omega) h.bytes h.valid hll (by rw [h.bytes]; exact hl)).mono ?_
  rintro e w' ⟨f, rfl, ⟨sd', A', c', iv, q, hF⟩, hU, hz⟩
  refine ⟨f, rfl, ⟨D.tick.tick, fs.settled, ⟨⟨A', c', sd', iv, q, ?_⟩, h.calm.tick.tick, h.files, ?_, ?_, ?_, h.play, h.valid, h.told⟩⟩, hU, hz⟩
  · rw [h.play]
    exact hF
  · show D.count + 1 + 1 ≤ N + 2
    omega
  · rw [FileS.settled_bytes, h.bytes]
  · rw [FileS.settled_pend]
    exact Nat.zero_le _
/-- closed -/
theorem FZ.close {w : World} {s : Blocks} {f d cap N : Nat} {T : List (List UInt8)} {l : List Chg} {z : FzS} {items : List (List (List UInt8))} {D : HdS} {num : Nat} {fs : FileS} (h : FZ w s f d cap N T l z items D num fs) :
    Calls Tryz.prog 16 #[.pointer (some ⟨f, 0, none⟩)] w fun e w' => e = .returned .nilIface ∧ (∃ sd, FDk w' sd d cap N T l z items D num fs ∧ ∀ k, sd k → s k) ∧ Upd s s w w' := by
  obtain ⟨A, c, sd, iv, q, hf⟩ := h.frz
  refine (close_ok f d z.tail (fileL T l).length _ iv false w hf.blk).mono ?_
  rintro e w' ⟨rfl, hw⟩
  have hz : w'.heap.size = w.heap.size := by rw [hw]; simp [World.setCell]
  have H := hf.own (size' := (fileL T l).length) (dead' := false) (closed' := true) (w' := w') (by rw [hw]; exact (hf.blk.set_ 6 _).eq_ rfl) (fun k hk => by rw [hw]; exact Below.heap_setCell w ⟨f, 6, none⟩ _ k hk) hz
  refine ⟨rfl, ⟨sd, ⟨H.disk, h.calm, h.files, h.count, h.bytes, h.pend, h.play, h.valid, h.told⟩, hf.sub⟩, ?_⟩
  rw [hw]
  exact (Upd.refl s w).setS (.inl hf.fin) _
end Go.Proofs.YtejnfahfjmeabaaGreatDoor
