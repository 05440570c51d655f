/- the law RawKeys -/
import Derived.Test.YtfjfjjcdlgdbcaaDoorK0
import Derived.Deep.DeepCutAuto
namespace Go.Proofs.YtfjfjjcdlgdbcaaDoor
open Go.RowKit

theorem fin2 {w1 : World} (w : World) (a b : Obj) (h : Below ((w.alloc a).alloc b).heap.size ((w.alloc a).alloc b) w1) : Below w.heap.size w w1 := (below2 w a b).trans (h.mono (by simp; omega))
theorem Marker_no (s : ByteArray) (W : World) (h : nameOk s.data.toList = false) : Calls Tryd.prog 24 #[.string s] W fun e w' => e = .returned (.tuple #[.slice none 0 0, .int .i64 130]) ∧ Below W.heap.size W w' :=
  (MarkerKey_calls s W).mono fun e w' ⟨hb, h1⟩ => by
    rcases h1 with ⟨hy, _⟩ | ⟨_, he⟩
    · rw [h] at hy; cases hy
    · exact ⟨he, hb⟩
theorem Marker_yes (s : ByteArray) (W : World) (h : nameOk s.data.toList = true) : Calls Tryd.prog 24 #[.string s] W fun e w' => ∃ A n c, e = .returned (.tuple #[.slice A n c, .int .i64 0]) ∧ (convert 22 9 (.slice A n c)).run Tryd.prog w' = .ok (.string (str (109 :: s.data.toList))) w' ∧ Below W.heap.size W w' :=
  (MarkerKey_calls s W).mono fun e w' ⟨hb, h1⟩ => by
    rcases h1 with ⟨_, v, he, ho⟩ | ⟨hn, _⟩
    · obtain ⟨A, c, rfl, hr⟩ := ho.reads
      exact ⟨A, _, c, he, run_convertB (P := Tryd.prog) w' 22 5 9 Tryd.underlying22 Tryd.underlying5 Tryd.underlying9 hr, hb⟩
    · rw [h] at hn; cases hn
theorem addr0 (g k : Nat) : (⟨g, 0, none⟩ : Addr).add k = ⟨g, k, none⟩ := by unfold Addr.add; split <;> simp_all

set_option maxRecDepth 100000 in
set_option maxHeartbeats 4000000 in
theorem rawKeys_walk (a b : List UInt8) (m : Nat) (s : ByteArray) (w : World) (ha : a.length = 32) (hb : b.length = 32) (hm : m < 18446744073709551616) :
    Calls Tryd.prog 5 #[.agg (bvs a).toArray, .agg (bvs b).toArray, .int .u64 m, .string s] w fun e w' => e = .returned (.bool true) ∧ Below w.heap.size w w' := by
  have hk := Lib.hid (fun W => known_calls W)
  have h15 := Lib.hid (fun W => Bytes.r 33 (by simp [ha]) (NodeKey_calls a ha W))
  have h16 := Lib.hid (fun W => Bytes.r 33 (by simp [ha]) (CodeKey_calls a ha W))
  have h17 := Lib.hid (fun W => Bytes.r 33 (by simp [ha]) (AccountKey_calls a ha W))
  have h18 := Lib.hid (fun W => Bytes.r 65 (by simp [ha, hb]) (SlotKey_calls a b ha hb W))
  have h19 := Lib.hid (fun W => Bytes.r 9 (by simp [bigB, bigT_length]) (RootKey_calls m hm W))
  have h20 := Lib.hid (fun W => Bytes.r 9 (by simp [bigB, bigT_length]) (BlockKey_calls m hm W))
  have hLa : (bvs a).length = 32 := by rw [bvs_length]; exact ha
  have hLb : (bvs b).length = 32 := by rw [bvs_length]; exact hb
  have HA := Lib.hid ha
  have HB := Lib.hid hb
  have HM := Lib.hid hm
  clear ha hb hm
  have hia : (Tryd.prog.info? 25).map (·.size) = some (bvs a).length := by rw [hLa]; exact Tryd.agg25.2
  have hib : (Tryd.prog.info? 25).map (·.size) = some (bvs b).length := by rw [hLb]; exact Tryd.agg25.2
  have hu25 := Tryd.underlying25
  have hra := Lib.hid ((RdB.many w 25 a HA.out).alloc (.cells (bvs b).toArray 25))
  have hrb : Hid (RdB ((w.alloc (.cells (bvs a).toArray 25)).alloc (.cells (bvs b).toArray 25)) (some ⟨w.heap.size + 1, 0, none⟩) 32 32 b) := by
    have := RdB.many (w.alloc (.cells (bvs a).toArray 25)) 25 b HB.out
    rwa [World.size_alloc] at this
  have hca := Lib.hid (cells_past (cells_new w 25 a) (by simp) (.cells (bvs b).toArray 25))
  have hcb : Hid (CellsAt ((w.alloc (.cells (bvs a).toArray 25)).alloc (.cells (bvs b).toArray 25)) (w.heap.size + 1) 0 (bvs b)) := by
    have := cells_new (w.alloc (.cells (bvs a).toArray 25)) 25 b
    rwa [World.size_alloc] at this
  have hKeep : ∀ w', Below ((w.alloc (.cells (bvs a).toArray 25)).alloc (.cells (bvs b).toArray 25)).heap.size ((w.alloc (.cells (bvs a).toArray 25)).alloc (.cells (bvs b).toArray 25)) w' → w'.rangeAt w.heap.size 0 (bvs a) ∧ w'.rangeAt (w.heap.size + 1) 0 (bvs b) :=
    fun w' h => keepS hca.out hcb.out (by simp; omega) (by simp) h
  have HK := Lib.hid hKeep
  clear hKeep
  go_enter Tryd.func5, Tryd.ntmps5
  go_upto_region 5 with (first | (go_at_call 12; refine (hk.out _).mono ?_; rintro e w1 ⟨rfl, hb1⟩) | (at_builtin; refine wpList_appendB _ rfl (.const (.slice none 0 0)) (.tmp 22) rfl w.heap.size _ [] a rfl _ _ _ rfl (OwnB.nil _ _) (hra.out.below hb1) ?l1 ?l2 ?_; rotate_right; intro vx wx hox hgx hbx; have HBx := Lib.hid (hb1.trans ((grown_below hgx).mono hb1.size)); obtain ⟨Ax, cx, rfl, hrx⟩ := hox.reads; have hlx : ([] ++ a).length = 32 := HA.out; rw [hlx] at hrx ⊢; have HRx := Lib.hid hrx; clear hox hgx hbx hrx hlx) | (at_builtin; refine wpList_appendB _ rfl (.const (.slice none 0 0)) (.tmp 24) rfl w.heap.size _ [] b rfl _ _ _ rfl (OwnB.nil _ _) (hrb.out.below HBx.out) ?l3 ?l4 ?_; rotate_right; intro vy wy hoy hgy hby; have HRx2 := Lib.hid (HRx.out.below (grown_below hgy)); have HBy := Lib.hid (HBx.out.trans ((grown_below hgy).mono HBx.out.size)); obtain ⟨Ay, cy, rfl, hry⟩ := hoy.reads; have hly : ([] ++ b).length = 32 := HB.out; rw [hly] at hry ⊢; have HRy := Lib.hid hry; clear hoy hgy hby hry hly))
  case l1 => simp
  case l2 => have := hb1.size; simp at this; omega
  case l3 => simp
  case l4 => have := HBx.out.size; simp at this; omega
  go_cut [11] (fun s11 wz => ∃ g : Nat, s11 = .slice (some ⟨g, 0, none⟩) 6 6 ∧ RdL wz (some ⟨g, 0, none⟩) 6 6 (keysOf a b m) ∧ Below wy.heap.size wy wz)
  case first =>
    refine wp_region_held_drew (S := fun w' => w'.rangeAt w.heap.size 0 (bvs a) ∧ w'.rangeAt (w.heap.size + 1) 0 (bvs b)) (by kernel_rfl) (HK.out _ HBy.out.drew) (fun hHeld => ?_)
    refine wpAnyH_take (i := 0) (v := .agg (bvs a).toArray) rfl (by kernel_rfl) (by kernel_rfl) (by kernel_rfl) (fun _ _ _ h => h) (yieldsIf_load_mid (by rfl) 25 _ rfl _ _ rfl (bvs a) _ (fun w h => h.1) hu25 rfl hia) hHeld ?_
    simp only [Act.put, List.setIfInBounds_toArray, List.set_cons_zero, List.set_cons_succ]
    refine wpAnyH_take (i := 2) (v := .agg (bvs a).toArray) rfl (by kernel_rfl) (by kernel_rfl) (by kernel_rfl) (fun _ _ _ h => h) (yieldsIf_load_mid (by rfl) 25 _ rfl _ _ rfl (bvs a) _ (fun w h => h.1) hu25 rfl hia) hHeld ?_
    simp only [Act.put, List.setIfInBounds_toArray, List.set_cons_zero, List.set_cons_succ]
    refine wpAnyH_take (i := 4) (v := .agg (bvs a).toArray) rfl (by kernel_rfl) (by kernel_rfl) (by kernel_rfl) (fun _ _ _ h => h) (yieldsIf_load_mid (by rfl) 25 _ rfl _ _ rfl (bvs a) _ (fun w h => h.1) hu25 rfl hia) hHeld ?_
    simp only [Act.put, List.setIfInBounds_toArray, List.set_cons_zero, List.set_cons_succ]
    refine wpAnyH_take (i := 6) (v := .agg (bvs a).toArray) rfl (by kernel_rfl) (by kernel_rfl) (by kernel_rfl) (fun _ _ _ h => h) (yieldsIf_load_mid (by rfl) 25 _ rfl _ _ rfl (bvs a) _ (fun w h => h.1) hu25 rfl hia) hHeld ?_
    simp only [Act.put, List.setIfInBounds_toArray, List.set_cons_zero, List.set_cons_succ]
    refine wpAnyH_take (i := 7) (v := .agg (bvs b).toArray) rfl (by kernel_rfl) (by kernel_rfl) (by kernel_rfl) (fun _ _ _ h => h) (yieldsIf_load_mid (by rfl) 25 _ rfl _ _ rfl (bvs b) _ (fun w h => h.2) hu25 rfl hib) hHeld ?_
    simp only [Act.put, List.setIfInBounds_toArray, List.set_cons_zero, List.set_cons_succ]
    refine wpAnyH_take (i := 9) (v := .int .u64 (m : Int)) rfl (by kernel_rfl) (by kernel_rfl) (by kernel_rfl) (fun _ _ _ h => h) (.inl ⟨by rfl, fun w _ => by go_simp⟩) hHeld ?_
    simp only [Act.put, List.setIfInBounds_toArray, List.set_cons_zero, List.set_cons_succ]
    refine wpAnyH_take (i := 11) (v := .int .u64 (m : Int)) rfl (by kernel_rfl) (by kernel_rfl) (by kernel_rfl) (fun _ _ _ h => h) (.inl ⟨by rfl, fun w _ => by go_simp⟩) hHeld ?_
    simp only [Act.put, List.setIfInBounds_toArray, List.set_cons_zero, List.set_cons_succ]
    refine wpAnyH_ready (rs := [1]) (by kernel_rfl) (by simp) ?_
    refine AllReadyH.cons rfl (fun K hK => ?_) AllReadyH.nil
    go_simp
    go_wp2_with (go_at_call 15; refine (h15.out _).mono ?_; rintro e w15 ⟨A15, c15, rfl, hr15, hb15⟩; have HB15 := Lib.hid ((HBy.out.drew).trans (hb15.mono (HBy.out.drew).size)); have HS15 := Lib.hid hb15; have HR15 := Lib.hid hr15; clear hb15 hr15)
    refine hK.out _ _ (HK.out _ HB15.out) (fun hHeld => ?_)
    clear hK K
    refine wpAnyH_ready (rs := [3]) (by kernel_rfl) (by simp) ?_
    refine AllReadyH.cons rfl (fun K hK => ?_) AllReadyH.nil
    go_simp
    go_wp2_with (go_at_call 16; refine (h16.out _).mono ?_; rintro e w16 ⟨A16, c16, rfl, hr16, hb16⟩; have HB16 := Lib.hid ((HB15.out).trans (hb16.mono (HB15.out).size)); have HS16 := Lib.hid hb16; have HR16 := Lib.hid hr16; clear hb16 hr16)
    refine hK.out _ _ (HK.out _ HB16.out) (fun hHeld => ?_)
    clear hK K
    refine wpAnyH_ready (rs := [5]) (by kernel_rfl) (by simp) ?_
    refine AllReadyH.cons rfl (fun K hK => ?_) AllReadyH.nil
    go_simp
    go_wp2_with (go_at_call 17; refine (h17.out _).mono ?_; rintro e w17 ⟨A17, c17, rfl, hr17, hb17⟩; have HB17 := Lib.hid ((HB16.out).trans (hb17.mono (HB16.out).size)); have HS17 := Lib.hid hb17; have HR17 := Lib.hid hr17; clear hb17 hr17)
    refine hK.out _ _ (HK.out _ HB17.out) (fun hHeld => ?_)
    clear hK K
    refine wpAnyH_ready (rs := [8]) (by kernel_rfl) (by simp) ?_
    refine AllReadyH.cons rfl (fun K hK => ?_) AllReadyH.nil
    go_simp
    go_wp2_with (go_at_call 18; refine (h18.out _).mono ?_; rintro e w18 ⟨A18, c18, rfl, hr18, hb18⟩; have HB18 := Lib.hid ((HB17.out).trans (hb18.mono (HB17.out).size)); have HS18 := Lib.hid hb18; have HR18 := Lib.hid hr18; clear hb18 hr18)
    refine hK.out _ _ (HK.out _ HB18.out) (fun hHeld => ?_)
    clear hK K
    refine wpAnyH_ready (rs := [10]) (by kernel_rfl) (by simp) ?_
    refine AllReadyH.cons rfl (fun K hK => ?_) AllReadyH.nil
    go_simp
    go_wp2_with (go_at_call 19; refine (h19.out _).mono ?_; rintro e w19 ⟨A19, c19, rfl, hr19, hb19⟩; have HB19 := Lib.hid ((HB18.out).trans (hb19.mono (HB18.out).size)); have HS19 := Lib.hid hb19; have HR19 := Lib.hid hr19; clear hb19 hr19)
    refine hK.out _ _ (HK.out _ HB19.out) (fun hHeld => ?_)
    clear hK K
    refine wpAnyH_ready (rs := [12]) (by kernel_rfl) (by simp) ?_
    refine AllReadyH.cons rfl (fun K hK => ?_) AllReadyH.nil
    go_simp
    go_wp2_with (go_at_call 20; refine (h20.out _).mono ?_; rintro e w20 ⟨A20, c20, rfl, hr20, hb20⟩; have HB20 := Lib.hid ((HB19.out).trans (hb20.mono (HB19.out).size)); have HS20 := Lib.hid hb20; have HR20 := Lib.hid hr20; clear hb20 hr20)
    refine hK.out _ _ (HK.out _ HB20.out) (fun hHeld => ?_)
    clear hK K
    refine wpAnyH_ready (rs := [13]) (by kernel_rfl) (by simp) ?_
    refine AllReadyH.cons rfl (fun K hK => ?_) AllReadyH.nil
    go_simp
    refine hK.out _ _ (HK.out _ (HB20.out.alloc HB20.out.size _)) (fun hHeld => ?_)
    clear hK K
    refine wpAnyH_ready (rs := [14]) (by kernel_rfl) (by simp) ?_
    refine AllReadyH.cons rfl (fun K hK => ?_) AllReadyH.nil
    go_simp
    refine hK.out _ _ (HK.out _ (HB20.out.alloc HB20.out.size _)) (fun hHeld => ?_)
    clear hK K
    refine wpAnyH_done (by kernel_rfl) ?_ _
    have hz0 := Lib.hid ((((((HR15.out).below HS16.out).below HS17.out).below HS18.out).below HS19.out).below HS20.out)
    have hz1 := Lib.hid (((((HR16.out).below HS17.out).below HS18.out).below HS19.out).below HS20.out)
    have hz2 := Lib.hid ((((HR17.out).below HS18.out).below HS19.out).below HS20.out)
    have hz3 := Lib.hid (((HR18.out).below HS19.out).below HS20.out)
    have hz4 := Lib.hid ((HR19.out).below HS20.out)
    have hz5 := Lib.hid (HR20.out)
    have hq15 : Below wy.heap.size wy w15 := thn (Below.refl _ _).drew HS15.out
    have hq16 : Below wy.heap.size wy w16 := thn hq15 HS16.out
    have hq17 : Below wy.heap.size wy w17 := thn hq16 HS17.out
    have hq18 : Below wy.heap.size wy w18 := thn hq17 HS18.out
    have hq19 : Below wy.heap.size wy w19 := thn hq18 HS19.out
    have hq20 : Below wy.heap.size wy w20 := thn hq19 HS20.out
    go_wp2_with fail
    go_meet
    exact ⟨w20.heap.size, rfl, six_list hz0.out hz1.out hz2.out hz3.out hz4.out hz5.out, al hq20 _⟩
  case rest =>
    obtain ⟨wz, rfl⟩ : ∃ wz : World, wz = wc := ⟨_, rfl⟩
    obtain ⟨g, rfl, hl1, hbz⟩ := hcut
    have hxz := Lib.hid (HRx2.out.below hbz)
    have hyz := Lib.hid (HRy.out.below hbz)
    have HBz := Lib.hid (HBy.out.trans (hbz.mono HBy.out.size))
    have HL1 := Lib.hid hl1
    clear HK hcb hca hrb hra hu25 hib hia h15 h16 h17 h18 h19 h20 HRx HRx2 HRy HBx HBy hbz hl1 hb1
    go_upto_region 6 with fail
    go_cut [12] (fun s12 wv => ∃ g : Nat, s12 = .slice (some ⟨g, 0, none⟩) 6 6 ∧ RdL wv (some ⟨g, 0, none⟩) 6 6 (keysOf a b m) ∧ Below wz.heap.size wz wv)
    case first =>
      go_wp2_with fail
      refine (Bytes.r 33 (by simp [HA.out]) (Of_calls 110 _ 1 1 [a] _ (one_list hxz.out) (by simp [HA.out]))).mono ?_
      rintro e v1 ⟨B1, d1, rfl, hr, hq⟩
      have X_1 := Lib.hid ((hxz.out.alloc _).below hq)
      have Y_1 := Lib.hid ((hyz.out.alloc _).below hq)
      have Z1 := Lib.hid hr
      have D_1 := Lib.hid (thn (al (Below.refl wz.heap.size wz) _) hq)
      clear hq hr
      go_wp2_with fail
      refine (Bytes.r 33 (by simp [HA.out]) (Of_calls 99 _ 1 1 [a] _ (one_list X_1.out) (by simp [HA.out]))).mono ?_
      rintro e v2 ⟨B2, d2, rfl, hr, hq⟩
      have X_2 := Lib.hid ((X_1.out.alloc _).below hq)
      have Y_2 := Lib.hid ((Y_1.out.alloc _).below hq)
      have Z1_2 := Lib.hid ((Z1.out.alloc _).below hq)
      have Z2 := Lib.hid hr
      have D_2 := Lib.hid (thn (al D_1.out _) hq)
      clear hq hr
      go_wp2_with fail
      refine (Bytes.r 33 (by simp [HA.out]) (Of_calls 97 _ 1 1 [a] _ (one_list X_2.out) (by simp [HA.out]))).mono ?_
      rintro e v3 ⟨B3, d3, rfl, hr, hq⟩
      have X_3 := Lib.hid ((X_2.out.alloc _).below hq)
      have Y_3 := Lib.hid ((Y_2.out.alloc _).below hq)
      have Z1_3 := Lib.hid ((Z1_2.out.alloc _).below hq)
      have Z2_3 := Lib.hid ((Z2.out.alloc _).below hq)
      have Z3 := Lib.hid hr
      have D_3 := Lib.hid (thn (al D_2.out _) hq)
      clear hq hr
      go_wp2_with fail
      refine (Bytes.r 65 (by simp [HA.out, HB.out]) (Of_calls 111 _ 2 2 [a, b] _ (two_list X_3.out Y_3.out) (by simp [HA.out, HB.out]))).mono ?_
      rintro e v4 ⟨B4, d4, rfl, hr, hq⟩
      have X_4 := Lib.hid ((X_3.out.alloc _).below hq)
      have Y_4 := Lib.hid ((Y_3.out.alloc _).below hq)
      have Z1_4 := Lib.hid ((Z1_3.out.alloc _).below hq)
      have Z2_4 := Lib.hid ((Z2_3.out.alloc _).below hq)
      have Z3_4 := Lib.hid ((Z3.out.alloc _).below hq)
      have Z4 := Lib.hid hr
      have D_4 := Lib.hid (thn (al D_3.out _) hq)
      clear hq hr
      go_wp2_with fail
      refine (Bytes.r 8 (by simp [bigB, bigT_length]) (Eight_calls m HM.out _)).mono ?_
      rintro e v5 ⟨B5, d5, rfl, hr, hq⟩
      have X_5 := Lib.hid ((X_4.out).below hq)
      have Y_5 := Lib.hid ((Y_4.out).below hq)
      have Z1_5 := Lib.hid ((Z1_4.out).below hq)
      have Z2_5 := Lib.hid ((Z2_4.out).below hq)
      have Z3_5 := Lib.hid ((Z3_4.out).below hq)
      have Z4_5 := Lib.hid ((Z4.out).below hq)
      have Z5 := Lib.hid hr
      have D_5 := Lib.hid (thn D_4.out hq)
      clear hq hr
      go_wp2_with fail
      refine (Bytes.r 9 (by simp [bigB, bigT_length]) (Of_calls 114 _ 1 1 [bigB m 8] _ (one_list Z5.out) (by simp [bigB, bigT_length]))).mono ?_
      rintro e v6 ⟨B6, d6, rfl, hr, hq⟩
      have X_6 := Lib.hid ((X_5.out.alloc _).below hq)
      have Y_6 := Lib.hid ((Y_5.out.alloc _).below hq)
      have Z1_6 := Lib.hid ((Z1_5.out.alloc _).below hq)
      have Z2_6 := Lib.hid ((Z2_5.out.alloc _).below hq)
      have Z3_6 := Lib.hid ((Z3_5.out.alloc _).below hq)
      have Z4_6 := Lib.hid ((Z4_5.out.alloc _).below hq)
      have Z5_6 := Lib.hid ((Z5.out.alloc _).below hq)
      have Z6 := Lib.hid hr
      have D_6 := Lib.hid (thn (al D_5.out _) hq)
      clear hq hr
      go_wp2_with fail
      refine (Bytes.r 8 (by simp [bigB, bigT_length]) (Eight_calls m HM.out _)).mono ?_
      rintro e v7 ⟨B7, d7, rfl, hr, hq⟩
      have X_7 := Lib.hid ((X_6.out).below hq)
      have Y_7 := Lib.hid ((Y_6.out).below hq)
      have Z1_7 := Lib.hid ((Z1_6.out).below hq)
      have Z2_7 := Lib.hid ((Z2_6.out).below hq)
      have Z3_7 := Lib.hid ((Z3_6.out).below hq)
      have Z4_7 := Lib.hid ((Z4_6.out).below hq)
      have Z6_7 := Lib.hid ((Z6.out).below hq)
      have Z7 := Lib.hid hr
      have D_7 := Lib.hid (thn D_6.out hq)
      clear hq hr
      go_wp2_with fail
      refine (Bytes.r 9 (by simp [bigB, bigT_length]) (Of_calls 98 _ 1 1 [bigB m 8] _ (one_list Z7.out) (by simp [bigB, bigT_length]))).mono ?_
      rintro e v8 ⟨B8, d8, rfl, hr, hq⟩
      have X_8 := Lib.hid ((X_7.out.alloc _).below hq)
      have Y_8 := Lib.hid ((Y_7.out.alloc _).below hq)
      have Z1_8 := Lib.hid ((Z1_7.out.alloc _).below hq)
      have Z2_8 := Lib.hid ((Z2_7.out.alloc _).below hq)
      have Z3_8 := Lib.hid ((Z3_7.out.alloc _).below hq)
      have Z4_8 := Lib.hid ((Z4_7.out.alloc _).below hq)
      have Z6_8 := Lib.hid ((Z6_7.out.alloc _).below hq)
      have Z7_8 := Lib.hid ((Z7.out.alloc _).below hq)
      have Z8 := Lib.hid hr
      have D_8 := Lib.hid (thn (al D_7.out _) hq)
      clear hq hr
      go_wp2_with fail
      go_meet
      have hl2 := six_list Z1_8.out Z2_8.out Z3_8.out Z4_8.out Z6_8.out Z8.out
      exact ⟨v8.heap.size, rfl, by simpa [keysOf] using hl2, al D_8.out _⟩
    case rest =>
      obtain ⟨wv, rfl⟩ : ∃ wv : World, wv = wc := ⟨_, rfl⟩
      obtain ⟨g2, rfl, hl2, hbv⟩ := hcut
      have hLc := Lib.hid (Lists_calls _ _ 6 6 6 6 _ _ wv (HL1.out.below hbv) hl2)
      rw [decide_eq_true rfl] at hLc
      have HL3 := Lib.hid (HL1.out.below hbv)
      have HBv := Lib.hid (HBz.out.trans (hbv.mono HBz.out.size))
      have hmk := Lib.hid (fun W => MarkerKey_calls s W)
      have hnm := Lib.hid (fun W => Name_calls s W)
      have HPK := Lib.hid (keys_PK a b m HA.out HB.out)
      have HG : Hid (∀ A n c key W, RdB W A n c key → Calls Tryd.prog 13 #[.slice A n c] W (Parsed W (PK key).1 (PK key).2)) := fun A n c key W h => Parse_calls A n c key W h
      have HR : Hid (∀ A n c key W, RdB W A n c key → Calls Tryd.prog 14 #[.slice A n c] W (Parsed W (PK key).1 (PK key).2)) := fun A n c key W h => refParse_calls A n c key W h
      have hg28 := Tryd.g28
      clear hl2 hbv HL1 hxz hyz HBz hLa hLb
      go_wp2_with (go_at_call 23; refine hLc.out.mono ?_; rintro e w5 ⟨rfl, hb5⟩; have HL5 := Lib.hid (HL3.out.below hb5); have HB5 := Lib.hid (HBv.out.trans (hb5.mono HBv.out.size)); clear hb5 HL3 HBv hLc)
      go_loopw [13] (fun i wr => ∃ k : Nat, k ≤ 6 ∧ i = .int .i64 k ∧ Below w5.heap.size w5 wr) (fun i _ => 6 - (intOf i).toNat)
      case atStart => exact ⟨0, by omega, rfl, Below.refl _ _⟩
      case round =>
        obtain ⟨k, hk, rfl, hbr⟩ := hrel
        by_cases hlt : k < 6
        · obtain ⟨ad, B, c, e1, _, hcell, hr⟩ := (HL5.out.below hbr).at_ hlt
          obtain rfl := Option.some.inj e1
          obtain ⟨l, f, z, nn, nm, hpk, hf, hz, hn, hnm⟩ := HPK.out k hlt
          have hp := Lib.hid (fun W h => HG.out B ((keysOf a b m).getD k []).length c ((keysOf a b m).getD k []) W h)
          have hq := Lib.hid (fun W h => HR.out B ((keysOf a b m).getD k []).length c ((keysOf a b m).getD k []) W h)
          rw [hpk] at hp hq
          have HEQ := fun W => eql_rk l f z nn nm hf hz hn hnm W
          have hsz : (rk l f z nn nm).size = 67 := rk_size _ _ _ _ _ hf hz
          have hone : AllOne (rk l f z nn nm).toList := rk_oneCell _ _ _ _ _
          have hT : Hid (AggT Tryd.prog 28 (rk l f z nn nm).size) := by rw [hsz]; exact Tryd.agg28
          have hT2 : Hid (AggT Tryd.prog 28 (rk l f z nn nm).toList.length) := by rw [Array.length_toList, hsz]; exact Tryd.agg28
          have HZ : Hid (67 = (rk l f z nn nm).size) := hsz.symm
          have H := Lib.hid hr
          rw [addr0] at hcell
          have hgw := World.block_lt_of_cell? wr _ hcell
          clear hpk hf hz hn hnm hr e1
          generalize rk l f z nn nm = cs at *
          generalize (keysOf a b m).getD k [] = key at *
          have HON := Lib.hid hone
          clear hone
          go_wp2_with (first | (go_at_call 13; refine (hp.out _ H.out).mono ?_; rintro e w6 ⟨rfl, hb6⟩; have hc6 := hb6.cell (p := ⟨g, k, none⟩) hgw; rw [hcell] at hc6; have hg6 := World.block_lt_of_cell? w6 _ hc6) | (refine wpList_storeNew rfl rfl 28 (.tmp 14) _ rfl _ _ rfl cs rfl hT.out HZ.out HON.out ?_) | (go_at_call 14; refine (hq.out _ ((H.out.below hb6).alloc _)).mono ?_; rintro e w7 ⟨rfl, hb7⟩) | (refine wpList_storeNew rfl rfl 28 (.tmp 16) _ rfl _ _ rfl cs rfl hT.out HZ.out HON.out ?_) | (refine wpList_loadAggG (by rfl) 28 (.tmp 14) rfl w6.heap.size 0 rfl cs.toList hT2.out (cells_past (below_cells (cellsAt_blk (Blk.new w6 28 cs)) hb7 (by simp)) (Nat.lt_of_lt_of_le (by simp) hb7.size) _) ?_) | (refine wpList_loadAggG (by rfl) 28 (.tmp 16) rfl w7.heap.size 0 rfl cs.toList hT2.out (cellsAt_blk (Blk.new w7 28 cs)) ?_))
          go_roundw
          case rel => exact ⟨k + 1, by omega, by go_num, al (thn (al (thn hbr hb6) _) hb7) _⟩
          case measure => simp [intOf]; omega
        · obtain rfl : k = 6 := by omega
          have HBr := Lib.hid hbr
          clear HL5 HPK HG HR hbr
          cases hB : nameOk s.data.toList
          · have HBB := Lib.hid (fun W => Marker_no s W hB)
            rw [hB] at hnm
            clear hB hmk
            go_wp2_with (first | (go_at_call 24; refine (HBB.out _).mono ?_; rintro e w8 ⟨rfl, hb8⟩) | (go_at_call 25; refine (hnm.out _).mono ?_; rintro e w9 ⟨rfl, rfl⟩))
            go_ret
            exact ⟨rfl, fin2 w _ _ (HB5.out.trans ((thn HBr.out hb8).mono HB5.out.size))⟩
          · have HBB := Lib.hid (fun W => Marker_yes s W hB)
            rw [hB] at hnm
            have hcat : ((str (109 :: s.data.toList)).toList == ((⟨#[109]⟩ : ByteArray) ++ s).toList) = true := by
              rw [str_list, beq_iff_eq, ByteArray.toList_eq, ByteArray.data_append]
              simp
            have hs32 : s.size ≤ 32 := by
              have := (of_decide_eq_true hB : nameP s.data.toList).2.1
              rwa [size_toList] at this
            clear hB hmk
            generalize str (109 :: s.data.toList) = sm at *
            go_wp2_with (first | (go_at_call 24; refine (HBB.out _).mono ?_; rintro e w8 ⟨A8, n8, c8, rfl, hcv8, hb8⟩) | (go_at_call 25; refine (hnm.out _).mono ?_; rintro e w9 ⟨rfl, rfl⟩))
            go_ret
            exact ⟨rfl, fin2 w _ _ (HB5.out.trans ((thn HBr.out hb8).mono HB5.out.size))⟩
end Go.Proofs.YtfjfjjcdlgdbcaaDoor
