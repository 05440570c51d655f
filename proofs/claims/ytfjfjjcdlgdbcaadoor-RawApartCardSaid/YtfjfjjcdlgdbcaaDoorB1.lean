/- the law RawApart -/
import Derived.Test.YtfjfjjcdlgdbcaaDoorB0
import Derived.Deep.DeepCutAuto
namespace Go.Proofs.YtfjfjjcdlgdbcaaDoor
open Go.RowKit
set_option linter.unusedSimpArgs false
set_option linter.unusedVariables false

theorem addrAt (g k : Nat) : (⟨g, 0, none⟩ : Addr).add k = ⟨g, k, none⟩ := by unfold Addr.add; split <;> simp_all
theorem yi_do {P : Program} {ops : Array Oper} {S : World → Prop} {o : Oper} {v : Value} {a : Act} (hw : Region.wanted o (yielded ops a.tmps) = true) (h : ∀ w, S w → (execOp a.eval o).run P w = .ok (.value v) w) : YieldsIf P ops S o v a := .inl ⟨hw, h⟩
theorem yi_no {P : Program} {ops : Array Oper} {S : World → Prop} {o : Oper} {a : Act} (hw : Region.wanted o (yielded ops a.tmps) = false) : YieldsIf P ops S o undef a := .inr ⟨hw, rfl⟩
/-- what the four boxes hold -/
def Four (a b c d : List Value) (g : Nat) (w : World) : Prop := w.rangeAt g 0 a ∧ w.rangeAt (g + 1) 0 b ∧ w.rangeAt (g + 2) 0 c ∧ w.rangeAt (g + 3) 0 d
theorem Four.below {a b c d : List Value} {g : Nat} {w w' : World} (h : Four a b c d g w) (hg : g + 3 < w.heap.size) (hb : Below w.heap.size w w') : Four a b c d g w' := by
  obtain ⟨h0, h1, h2, h3⟩ := h
  refine ⟨fun j v hv => ?_, fun j v hv => ?_, fun j v hv => ?_, fun j v hv => ?_⟩
  · rw [hb.cell (p := ⟨g, 0 + j, none⟩) (by simp <;> omega)]; exact h0 j v hv
  · rw [hb.cell (p := ⟨g + 1, 0 + j, none⟩) (by simp <;> omega)]; exact h1 j v hv
  · rw [hb.cell (p := ⟨g + 2, 0 + j, none⟩) (by simp <;> omega)]; exact h2 j v hv
  · rw [hb.cell (p := ⟨g + 3, 0 + j, none⟩) (by simp <;> omega)]; exact h3 j v hv
theorem Four.new (a b c d : List UInt8) (w : World) : Four (bvs a) (bvs b) (bvs c) (bvs d) w.heap.size ((((w.alloc (.cells (bvs a).toArray 25)).alloc (.cells (bvs b).toArray 25)).alloc (.cells (bvs c).toArray 25)).alloc (.cells (bvs d).toArray 25)) := by
  refine ⟨?_, ?_, ?_, ?_⟩
  · exact cells_past (cells_past (cells_past (cells_new w 25 a) (by simp) _) (by simp <;> omega) _) (by simp <;> omega) _
  · have := cells_past (cells_past (cells_new (w.alloc (.cells (bvs a).toArray 25)) 25 b) (by simp) (.cells (bvs c).toArray 25)) (by simp <;> omega) (.cells (bvs d).toArray 25)
    rwa [World.size_alloc] at this
  · have := cells_past (cells_new ((w.alloc (.cells (bvs a).toArray 25)).alloc (.cells (bvs b).toArray 25)) 25 c) (by simp) (.cells (bvs d).toArray 25)
    rwa [World.size_alloc, World.size_alloc] at this
  · have := cells_new (((w.alloc (.cells (bvs a).toArray 25)).alloc (.cells (bvs b).toArray 25)).alloc (.cells (bvs c).toArray 25)) 25 d
    rwa [World.size_alloc, World.size_alloc, World.size_alloc] at this
theorem fin4 {w1 : World} (w : World) (a b c d : Obj) (h : Below ((((w.alloc a).alloc b).alloc c).alloc d).heap.size ((((w.alloc a).alloc b).alloc c).alloc d) w1) : Below w.heap.size w w1 :=
  (below2 w a b).trans (((below2 _ c d).trans (h.mono (by simp <;> omega))).mono (by simp <;> omega))

set_option maxRecDepth 100000 in
set_option maxHeartbeats 4000000 in
theorem rawApart_walk (a b c d : List UInt8) (n m : Nat) (w : World) (ha : a.length = 32) (hb : b.length = 32) (hc : c.length = 32) (hd : d.length = 32) (hn : n < 18446744073709551616) (hm : m < 18446744073709551616) :
    Calls Tryd.prog 4 #[.agg (bvs a).toArray, .agg (bvs b).toArray, .agg (bvs c).toArray, .agg (bvs d).toArray, .int .u64 n, .int .u64 m] w fun e w' => e = .returned (.bool true) ∧ Below w.heap.size w w' := by
  have hk := Lib.hid (fun W => known_calls W)
  have h15p := Lib.hid (fun W => Bytes.r 33 (by simp [ha]) (NodeKey_calls a ha W))
  have h16p := Lib.hid (fun W => Bytes.r 33 (by simp [ha]) (CodeKey_calls a ha W))
  have h17p := Lib.hid (fun W => Bytes.r 33 (by simp [ha]) (AccountKey_calls a ha W))
  have h18p := Lib.hid (fun W => Bytes.r 65 (by simp [ha, hb]) (SlotKey_calls a b ha hb W))
  have h19p := Lib.hid (fun W => Bytes.r 9 (by simp [bigB, bigT_length]) (RootKey_calls n hn W))
  have h20p := Lib.hid (fun W => Bytes.r 9 (by simp [bigB, bigT_length]) (BlockKey_calls n hn W))
  have h15q := Lib.hid (fun W => Bytes.r 33 (by simp [hc]) (NodeKey_calls c hc W))
  have h16q := Lib.hid (fun W => Bytes.r 33 (by simp [hc]) (CodeKey_calls c hc W))
  have h17q := Lib.hid (fun W => Bytes.r 33 (by simp [hc]) (AccountKey_calls c hc W))
  have h18q := Lib.hid (fun W => Bytes.r 65 (by simp [hc, hd]) (SlotKey_calls c d hc hd W))
  have h19q := Lib.hid (fun W => Bytes.r 9 (by simp [bigB, bigT_length]) (RootKey_calls m hm W))
  have h20q := Lib.hid (fun W => Bytes.r 9 (by simp [bigB, bigT_length]) (BlockKey_calls m hm W))
  have hLa : (bvs a).length = 32 := by rw [bvs_length]; exact ha
  have hia : (Tryd.prog.info? 25).map (·.size) = some (bvs a).length := by rw [hLa]; exact Tryd.agg25.2
  have hLb : (bvs b).length = 32 := by rw [bvs_length]; exact hb
  have hib : (Tryd.prog.info? 25).map (·.size) = some (bvs b).length := by rw [hLb]; exact Tryd.agg25.2
  have hLc : (bvs c).length = 32 := by rw [bvs_length]; exact hc
  have hic : (Tryd.prog.info? 25).map (·.size) = some (bvs c).length := by rw [hLc]; exact Tryd.agg25.2
  have hLd : (bvs d).length = 32 := by rw [bvs_length]; exact hd
  have hid : (Tryd.prog.info? 25).map (·.size) = some (bvs d).length := by rw [hLd]; exact Tryd.agg25.2
  have hAp := Lib.hid (keys_apart a b c d n m ha hc hn hm)
  have hLe := Lib.hid (root_less n m hn hm)
  have hEac := Lib.hid (fun (W : World) (e : Nat) => run_equalBytes (P := Tryd.prog) W e 25 5 32 a c (by kernel_rfl) Tryd.underlying25 Tryd.underlying5 (by kernel_rfl) (by kernel_rfl) ha hc)
  have hEbd := Lib.hid (fun (W : World) (e : Nat) => run_equalBytes (P := Tryd.prog) W e 25 5 32 b d (by kernel_rfl) Tryd.underlying25 Tryd.underlying5 (by kernel_rfl) (by kernel_rfl) hb hd)
  have hu25 := Tryd.underlying25
  have HK : Hid (∀ w', Below ((((w.alloc (.cells (bvs a).toArray 25)).alloc (.cells (bvs b).toArray 25)).alloc (.cells (bvs c).toArray 25)).alloc (.cells (bvs d).toArray 25)).heap.size ((((w.alloc (.cells (bvs a).toArray 25)).alloc (.cells (bvs b).toArray 25)).alloc (.cells (bvs c).toArray 25)).alloc (.cells (bvs d).toArray 25)) w' → Four (bvs a) (bvs b) (bvs c) (bvs d) w.heap.size w') := fun w' h => (Four.new a b c d w).below (by simp <;> omega) h
  clear ha hb hc hd hn hm
  go_enter Tryd.func4, Tryd.ntmps4
  go_upto_region 3 with (go_at_call 12; refine (hk.out _).mono ?_; rintro e w1 ⟨rfl, hb1⟩)
  have HB1 := Lib.hid hb1
  clear hb1
  go_cut [13] (fun s13 wz => ∃ g : Nat, s13 = .slice (some ⟨g, 0, none⟩) 6 6 ∧ RdL wz (some ⟨g, 0, none⟩) 6 6 (keysOf a b n) ∧ Below w1.heap.size w1 wz)
  case first =>
    refine wp_region_held_drew (S := fun w' => Four (bvs a) (bvs b) (bvs c) (bvs d) w.heap.size w') (by kernel_rfl) (HK.out _ HB1.out.drew) (fun hHeld => ?_)
    refine wpAnyH_take (i := 0) (v := .agg (bvs a).toArray) rfl (by kernel_rfl) (by kernel_rfl) (by kernel_rfl) (fun _ _ _ h => h) (yieldsIf_load_mid (by rfl) 25 _ rfl _ _ rfl (bvs a) _ (fun w h => h.1) hu25 rfl hia) hHeld ?_
    simp only [Act.put, List.setIfInBounds_toArray, List.set_cons_zero, List.set_cons_succ]
    refine wpAnyH_take (i := 2) (v := .agg (bvs a).toArray) rfl (by kernel_rfl) (by kernel_rfl) (by kernel_rfl) (fun _ _ _ h => h) (yieldsIf_load_mid (by rfl) 25 _ rfl _ _ rfl (bvs a) _ (fun w h => h.1) hu25 rfl hia) hHeld ?_
    simp only [Act.put, List.setIfInBounds_toArray, List.set_cons_zero, List.set_cons_succ]
    refine wpAnyH_take (i := 4) (v := .agg (bvs a).toArray) rfl (by kernel_rfl) (by kernel_rfl) (by kernel_rfl) (fun _ _ _ h => h) (yieldsIf_load_mid (by rfl) 25 _ rfl _ _ rfl (bvs a) _ (fun w h => h.1) hu25 rfl hia) hHeld ?_
    simp only [Act.put, List.setIfInBounds_toArray, List.set_cons_zero, List.set_cons_succ]
    refine wpAnyH_take (i := 6) (v := .agg (bvs a).toArray) rfl (by kernel_rfl) (by kernel_rfl) (by kernel_rfl) (fun _ _ _ h => h) (yieldsIf_load_mid (by rfl) 25 _ rfl _ _ rfl (bvs a) _ (fun w h => h.1) hu25 rfl hia) hHeld ?_
    simp only [Act.put, List.setIfInBounds_toArray, List.set_cons_zero, List.set_cons_succ]
    refine wpAnyH_take (i := 7) (v := .agg (bvs b).toArray) rfl (by kernel_rfl) (by kernel_rfl) (by kernel_rfl) (fun _ _ _ h => h) (yieldsIf_load_mid (by rfl) 25 _ rfl _ _ rfl (bvs b) _ (fun w h => h.2.1) hu25 rfl hib) hHeld ?_
    simp only [Act.put, List.setIfInBounds_toArray, List.set_cons_zero, List.set_cons_succ]
    refine wpAnyH_take (i := 9) (v := .int .u64 (n : Int)) rfl (by kernel_rfl) (by kernel_rfl) (by kernel_rfl) (fun _ _ _ h => h) (.inl ⟨by rfl, fun w _ => by go_simp⟩) hHeld ?_
    simp only [Act.put, List.setIfInBounds_toArray, List.set_cons_zero, List.set_cons_succ]
    refine wpAnyH_take (i := 11) (v := .int .u64 (n : Int)) rfl (by kernel_rfl) (by kernel_rfl) (by kernel_rfl) (fun _ _ _ h => h) (.inl ⟨by rfl, fun w _ => by go_simp⟩) hHeld ?_
    simp only [Act.put, List.setIfInBounds_toArray, List.set_cons_zero, List.set_cons_succ]
    refine wpAnyH_ready (rs := [1]) (by kernel_rfl) (by simp) ?_
    refine AllReadyH.cons rfl (fun K hK => ?_) AllReadyH.nil
    go_simp
    go_wp2_with (go_at_call 15; refine (h15p.out _).mono ?_; rintro e w15 ⟨A15, c15, rfl, hr15, hb15⟩; have HB15 := Lib.hid ((HB1.out.drew).trans (hb15.mono (HB1.out.drew).size)); have HS15 := Lib.hid hb15; have HR15 := Lib.hid hr15; clear hb15 hr15)
    refine hK.out _ _ (HK.out _ HB15.out) (fun hHeld => ?_)
    clear hK K
    refine wpAnyH_ready (rs := [3]) (by kernel_rfl) (by simp) ?_
    refine AllReadyH.cons rfl (fun K hK => ?_) AllReadyH.nil
    go_simp
    go_wp2_with (go_at_call 16; refine (h16p.out _).mono ?_; rintro e w16 ⟨A16, c16, rfl, hr16, hb16⟩; have HB16 := Lib.hid ((HB15.out).trans (hb16.mono (HB15.out).size)); have HS16 := Lib.hid hb16; have HR16 := Lib.hid hr16; clear hb16 hr16)
    refine hK.out _ _ (HK.out _ HB16.out) (fun hHeld => ?_)
    clear hK K
    refine wpAnyH_ready (rs := [5]) (by kernel_rfl) (by simp) ?_
    refine AllReadyH.cons rfl (fun K hK => ?_) AllReadyH.nil
    go_simp
    go_wp2_with (go_at_call 17; refine (h17p.out _).mono ?_; rintro e w17 ⟨A17, c17, rfl, hr17, hb17⟩; have HB17 := Lib.hid ((HB16.out).trans (hb17.mono (HB16.out).size)); have HS17 := Lib.hid hb17; have HR17 := Lib.hid hr17; clear hb17 hr17)
    refine hK.out _ _ (HK.out _ HB17.out) (fun hHeld => ?_)
    clear hK K
    refine wpAnyH_ready (rs := [8]) (by kernel_rfl) (by simp) ?_
    refine AllReadyH.cons rfl (fun K hK => ?_) AllReadyH.nil
    go_simp
    go_wp2_with (go_at_call 18; refine (h18p.out _).mono ?_; rintro e w18 ⟨A18, c18, rfl, hr18, hb18⟩; have HB18 := Lib.hid ((HB17.out).trans (hb18.mono (HB17.out).size)); have HS18 := Lib.hid hb18; have HR18 := Lib.hid hr18; clear hb18 hr18)
    refine hK.out _ _ (HK.out _ HB18.out) (fun hHeld => ?_)
    clear hK K
    refine wpAnyH_ready (rs := [10]) (by kernel_rfl) (by simp) ?_
    refine AllReadyH.cons rfl (fun K hK => ?_) AllReadyH.nil
    go_simp
    go_wp2_with (go_at_call 19; refine (h19p.out _).mono ?_; rintro e w19 ⟨A19, c19, rfl, hr19, hb19⟩; have HB19 := Lib.hid ((HB18.out).trans (hb19.mono (HB18.out).size)); have HS19 := Lib.hid hb19; have HR19 := Lib.hid hr19; clear hb19 hr19)
    refine hK.out _ _ (HK.out _ HB19.out) (fun hHeld => ?_)
    clear hK K
    refine wpAnyH_ready (rs := [12]) (by kernel_rfl) (by simp) ?_
    refine AllReadyH.cons rfl (fun K hK => ?_) AllReadyH.nil
    go_simp
    go_wp2_with (go_at_call 20; refine (h20p.out _).mono ?_; rintro e w20 ⟨A20, c20, rfl, hr20, hb20⟩; have HB20 := Lib.hid ((HB19.out).trans (hb20.mono (HB19.out).size)); have HS20 := Lib.hid hb20; have HR20 := Lib.hid hr20; clear hb20 hr20)
    refine hK.out _ _ (HK.out _ HB20.out) (fun hHeld => ?_)
    clear hK K
    refine wpAnyH_ready (rs := [13]) (by kernel_rfl) (by simp) ?_
    refine AllReadyH.cons rfl (fun K hK => ?_) AllReadyH.nil
    go_simp
    refine hK.out _ _ (HK.out _ (HB20.out.alloc HB20.out.size _)) (fun hHeld => ?_)
    clear hK K
    refine wpAnyH_ready (rs := [14]) (by kernel_rfl) (by simp) ?_
    refine AllReadyH.cons rfl (fun K hK => ?_) AllReadyH.nil
    go_simp
    refine hK.out _ _ (HK.out _ (HB20.out.alloc HB20.out.size _)) (fun hHeld => ?_)
    clear hK K
    refine wpAnyH_done (by kernel_rfl) ?_ _
    have hz0 := Lib.hid ((((((HR15.out).below HS16.out).below HS17.out).below HS18.out).below HS19.out).below HS20.out)
    have hz1 := Lib.hid (((((HR16.out).below HS17.out).below HS18.out).below HS19.out).below HS20.out)
    have hz2 := Lib.hid ((((HR17.out).below HS18.out).below HS19.out).below HS20.out)
    have hz3 := Lib.hid (((HR18.out).below HS19.out).below HS20.out)
    have hz4 := Lib.hid ((HR19.out).below HS20.out)
    have hz5 := Lib.hid (HR20.out)
    have hq15 : Below w1.heap.size w1 w15 := thn (Below.refl _ _).drew HS15.out
    have hq16 : Below w1.heap.size w1 w16 := thn hq15 HS16.out
    have hq17 : Below w1.heap.size w1 w17 := thn hq16 HS17.out
    have hq18 : Below w1.heap.size w1 w18 := thn hq17 HS18.out
    have hq19 : Below w1.heap.size w1 w19 := thn hq18 HS19.out
    have hq20 : Below w1.heap.size w1 w20 := thn hq19 HS20.out
    go_wp2_with fail
    go_meet
    exact ⟨w20.heap.size, rfl, six_list hz0.out hz1.out hz2.out hz3.out hz4.out hz5.out, al hq20 _⟩
  case rest =>
    obtain ⟨wz, rfl⟩ : ∃ wz : World, wz = wc := ⟨_, rfl⟩
    obtain ⟨g, rfl, hl1, hbz⟩ := hcut
    have HB2 := Lib.hid (HB1.out.trans (hbz.mono HB1.out.size))
    have HL1 := Lib.hid hl1
    clear hbz hl1 h15p h16p h17p h18p h20p HB1 hk
    go_upto_region 4 with fail
    go_cut [14] (fun s14 wv => ∃ g : Nat, s14 = .slice (some ⟨g, 0, none⟩) 6 6 ∧ RdL wv (some ⟨g, 0, none⟩) 6 6 (keysOf c d m) ∧ Below wz.heap.size wz wv)
    case first =>
      refine wp_region_held_drew (S := fun w' => Four (bvs a) (bvs b) (bvs c) (bvs d) w.heap.size w') (by kernel_rfl) (HK.out _ HB2.out.drew) (fun hHeld => ?_)
      refine wpAnyH_take (i := 0) (v := .agg (bvs c).toArray) rfl (by kernel_rfl) (by kernel_rfl) (by kernel_rfl) (fun _ _ _ h => h) (yieldsIf_load_mid (by rfl) 25 _ rfl _ _ rfl (bvs c) _ (fun w h => h.2.2.1) hu25 rfl hic) hHeld ?_
      simp only [Act.put, List.setIfInBounds_toArray, List.set_cons_zero, List.set_cons_succ]
      refine wpAnyH_take (i := 2) (v := .agg (bvs c).toArray) rfl (by kernel_rfl) (by kernel_rfl) (by kernel_rfl) (fun _ _ _ h => h) (yieldsIf_load_mid (by rfl) 25 _ rfl _ _ rfl (bvs c) _ (fun w h => h.2.2.1) hu25 rfl hic) hHeld ?_
      simp only [Act.put, List.setIfInBounds_toArray, List.set_cons_zero, List.set_cons_succ]
      refine wpAnyH_take (i := 4) (v := .agg (bvs c).toArray) rfl (by kernel_rfl) (by kernel_rfl) (by kernel_rfl) (fun _ _ _ h => h) (yieldsIf_load_mid (by rfl) 25 _ rfl _ _ rfl (bvs c) _ (fun w h => h.2.2.1) hu25 rfl hic) hHeld ?_
      simp only [Act.put, List.setIfInBounds_toArray, List.set_cons_zero, List.set_cons_succ]
      refine wpAnyH_take (i := 6) (v := .agg (bvs c).toArray) rfl (by kernel_rfl) (by kernel_rfl) (by kernel_rfl) (fun _ _ _ h => h) (yieldsIf_load_mid (by rfl) 25 _ rfl _ _ rfl (bvs c) _ (fun w h => h.2.2.1) hu25 rfl hic) hHeld ?_
      simp only [Act.put, List.setIfInBounds_toArray, List.set_cons_zero, List.set_cons_succ]
      refine wpAnyH_take (i := 7) (v := .agg (bvs d).toArray) rfl (by kernel_rfl) (by kernel_rfl) (by kernel_rfl) (fun _ _ _ h => h) (yieldsIf_load_mid (by rfl) 25 _ rfl _ _ rfl (bvs d) _ (fun w h => h.2.2.2) hu25 rfl hid) hHeld ?_
      simp only [Act.put, List.setIfInBounds_toArray, List.set_cons_zero, List.set_cons_succ]
      refine wpAnyH_take (i := 9) (v := .int .u64 (m : Int)) rfl (by kernel_rfl) (by kernel_rfl) (by kernel_rfl) (fun _ _ _ h => h) (.inl ⟨by rfl, fun w _ => by go_simp⟩) hHeld ?_
      simp only [Act.put, List.setIfInBounds_toArray, List.set_cons_zero, List.set_cons_succ]
      refine wpAnyH_take (i := 11) (v := .int .u64 (m : Int)) rfl (by kernel_rfl) (by kernel_rfl) (by kernel_rfl) (fun _ _ _ h => h) (.inl ⟨by rfl, fun w _ => by go_simp⟩) hHeld ?_
      simp only [Act.put, List.setIfInBounds_toArray, List.set_cons_zero, List.set_cons_succ]
      refine wpAnyH_ready (rs := [1]) (by kernel_rfl) (by simp) ?_
      refine AllReadyH.cons rfl (fun K hK => ?_) AllReadyH.nil
      go_simp
      go_wp2_with (go_at_call 15; refine (h15q.out _).mono ?_; rintro e w15 ⟨A15, c15, rfl, hr15, hb15⟩; have HB15 := Lib.hid ((HB2.out.drew).trans (hb15.mono (HB2.out.drew).size)); have HS15 := Lib.hid hb15; have HR15 := Lib.hid hr15; clear hb15 hr15)
      refine hK.out _ _ (HK.out _ HB15.out) (fun hHeld => ?_)
      clear hK K
      refine wpAnyH_ready (rs := [3]) (by kernel_rfl) (by simp) ?_
      refine AllReadyH.cons rfl (fun K hK => ?_) AllReadyH.nil
      go_simp
      go_wp2_with (go_at_call 16; refine (h16q.out _).mono ?_; rintro e w16 ⟨A16, c16, rfl, hr16, hb16⟩; have HB16 := Lib.hid ((HB15.out).trans (hb16.mono (HB15.out).size)); have HS16 := Lib.hid hb16; have HR16 := Lib.hid hr16; clear hb16 hr16)
      refine hK.out _ _ (HK.out _ HB16.out) (fun hHeld => ?_)
      clear hK K
      refine wpAnyH_ready (rs := [5]) (by kernel_rfl) (by simp) ?_
      refine AllReadyH.cons rfl (fun K hK => ?_) AllReadyH.nil
      go_simp
      go_wp2_with (go_at_call 17; refine (h17q.out _).mono ?_; rintro e w17 ⟨A17, c17, rfl, hr17, hb17⟩; have HB17 := Lib.hid ((HB16.out).trans (hb17.mono (HB16.out).size)); have HS17 := Lib.hid hb17; have HR17 := Lib.hid hr17; clear hb17 hr17)
      refine hK.out _ _ (HK.out _ HB17.out) (fun hHeld => ?_)
      clear hK K
      refine wpAnyH_ready (rs := [8]) (by kernel_rfl) (by simp) ?_
      refine AllReadyH.cons rfl (fun K hK => ?_) AllReadyH.nil
      go_simp
      go_wp2_with (go_at_call 18; refine (h18q.out _).mono ?_; rintro e w18 ⟨A18, c18, rfl, hr18, hb18⟩; have HB18 := Lib.hid ((HB17.out).trans (hb18.mono (HB17.out).size)); have HS18 := Lib.hid hb18; have HR18 := Lib.hid hr18; clear hb18 hr18)
      refine hK.out _ _ (HK.out _ HB18.out) (fun hHeld => ?_)
      clear hK K
      refine wpAnyH_ready (rs := [10]) (by kernel_rfl) (by simp) ?_
      refine AllReadyH.cons rfl (fun K hK => ?_) AllReadyH.nil
      go_simp
      go_wp2_with (go_at_call 19; refine (h19q.out _).mono ?_; rintro e w19 ⟨A19, c19, rfl, hr19, hb19⟩; have HB19 := Lib.hid ((HB18.out).trans (hb19.mono (HB18.out).size)); have HS19 := Lib.hid hb19; have HR19 := Lib.hid hr19; clear hb19 hr19)
      refine hK.out _ _ (HK.out _ HB19.out) (fun hHeld => ?_)
      clear hK K
      refine wpAnyH_ready (rs := [12]) (by kernel_rfl) (by simp) ?_
      refine AllReadyH.cons rfl (fun K hK => ?_) AllReadyH.nil
      go_simp
      go_wp2_with (go_at_call 20; refine (h20q.out _).mono ?_; rintro e w20 ⟨A20, c20, rfl, hr20, hb20⟩; have HB20 := Lib.hid ((HB19.out).trans (hb20.mono (HB19.out).size)); have HS20 := Lib.hid hb20; have HR20 := Lib.hid hr20; clear hb20 hr20)
      refine hK.out _ _ (HK.out _ HB20.out) (fun hHeld => ?_)
      clear hK K
      refine wpAnyH_ready (rs := [13]) (by kernel_rfl) (by simp) ?_
      refine AllReadyH.cons rfl (fun K hK => ?_) AllReadyH.nil
      go_simp
      refine hK.out _ _ (HK.out _ (HB20.out.alloc HB20.out.size _)) (fun hHeld => ?_)
      clear hK K
      refine wpAnyH_ready (rs := [14]) (by kernel_rfl) (by simp) ?_
      refine AllReadyH.cons rfl (fun K hK => ?_) AllReadyH.nil
      go_simp
      refine hK.out _ _ (HK.out _ (HB20.out.alloc HB20.out.size _)) (fun hHeld => ?_)
      clear hK K
      refine wpAnyH_done (by kernel_rfl) ?_ _
      have hz0 := Lib.hid ((((((HR15.out).below HS16.out).below HS17.out).below HS18.out).below HS19.out).below HS20.out)
      have hz1 := Lib.hid (((((HR16.out).below HS17.out).below HS18.out).below HS19.out).below HS20.out)
      have hz2 := Lib.hid ((((HR17.out).below HS18.out).below HS19.out).below HS20.out)
      have hz3 := Lib.hid (((HR18.out).below HS19.out).below HS20.out)
      have hz4 := Lib.hid ((HR19.out).below HS20.out)
      have hz5 := Lib.hid (HR20.out)
      have hq15 : Below wz.heap.size wz w15 := thn (Below.refl _ _).drew HS15.out
      have hq16 : Below wz.heap.size wz w16 := thn hq15 HS16.out
      have hq17 : Below wz.heap.size wz w17 := thn hq16 HS17.out
      have hq18 : Below wz.heap.size wz w18 := thn hq17 HS18.out
      have hq19 : Below wz.heap.size wz w19 := thn hq18 HS19.out
      have hq20 : Below wz.heap.size wz w20 := thn hq19 HS20.out
      go_wp2_with fail
      go_meet
      exact ⟨w20.heap.size, rfl, six_list hz0.out hz1.out hz2.out hz3.out hz4.out hz5.out, al hq20 _⟩
    case rest =>
      obtain ⟨wv, rfl⟩ : ∃ wv : World, wv = wc := ⟨_, rfl⟩
      obtain ⟨g2, rfl, hl2, hbv⟩ := hcut
      have HB3 := Lib.hid (HB2.out.trans (hbv.mono HB2.out.size))
      have HL2 := Lib.hid (HL1.out.below hbv)
      have HL3 := Lib.hid hl2
      clear hbv hl2 h15q h16q h17q h18q h20q HB2 HL1
      go_upto_region 5 with fail
      go_cut [15] (fun s15 wu => ∃ g : Nat, s15 = .pointer (some ⟨g, 0, none⟩) ∧ CellsAt wu g 0 ((sames a b c d n m).map .bool) ∧ Below wv.heap.size wv wu)
      case first =>
        have hnm : Hid (((n : Int) == (m : Int)) = decide (n = m)) := by
          unfold Hid
          by_cases h : n = m
          · subst h; simp
          · have : ¬ ((n : Int) = (m : Int)) := fun e => h (by omega)
            simp [h, this]
        by_cases hac : a = c
        · rw [decide_eq_true hac] at hEac
          have HAC := Lib.hid hac
          clear hac
          refine wp_region_held_drew (S := fun w' => Four (bvs a) (bvs b) (bvs c) (bvs d) w.heap.size w') (by kernel_rfl) (HK.out _ HB3.out.drew) (fun hHeld => ?_)
          refine wpAnyH_take (i := 0) (v := .agg (bvs a).toArray) rfl (by kernel_rfl) (by kernel_rfl) (by kernel_rfl) (fun _ _ _ h => h) (yieldsIf_load_mid (by kernel_rfl) 25 _ rfl w.heap.size 0 (by kernel_rfl) (bvs a) _ (fun w h => h.1) hu25 rfl hia) hHeld ?_
          simp only [Act.put, List.setIfInBounds_toArray, List.set_cons_zero, List.set_cons_succ]
          refine wpAnyH_take (i := 1) (v := .agg (bvs c).toArray) rfl (by kernel_rfl) (by kernel_rfl) (by kernel_rfl) (fun _ _ _ h => h) (yieldsIf_load_mid (by kernel_rfl) 25 _ rfl (w.heap.size + 2) 0 (by kernel_rfl) (bvs c) _ (fun w h => h.2.2.1) hu25 rfl hic) hHeld ?_
          simp only [Act.put, List.setIfInBounds_toArray, List.set_cons_zero, List.set_cons_succ]
          refine wpAnyH_take (i := 3) (v := .agg (bvs a).toArray) rfl (by kernel_rfl) (by kernel_rfl) (by kernel_rfl) (fun _ _ _ h => h) (yieldsIf_load_mid (by kernel_rfl) 25 _ rfl w.heap.size 0 (by kernel_rfl) (bvs a) _ (fun w h => h.1) hu25 rfl hia) hHeld ?_
          simp only [Act.put, List.setIfInBounds_toArray, List.set_cons_zero, List.set_cons_succ]
          refine wpAnyH_take (i := 4) (v := .agg (bvs c).toArray) rfl (by kernel_rfl) (by kernel_rfl) (by kernel_rfl) (fun _ _ _ h => h) (yieldsIf_load_mid (by kernel_rfl) 25 _ rfl (w.heap.size + 2) 0 (by kernel_rfl) (bvs c) _ (fun w h => h.2.2.1) hu25 rfl hic) hHeld ?_
          simp only [Act.put, List.setIfInBounds_toArray, List.set_cons_zero, List.set_cons_succ]
          refine wpAnyH_take (i := 6) (v := .agg (bvs a).toArray) rfl (by kernel_rfl) (by kernel_rfl) (by kernel_rfl) (fun _ _ _ h => h) (yieldsIf_load_mid (by kernel_rfl) 25 _ rfl w.heap.size 0 (by kernel_rfl) (bvs a) _ (fun w h => h.1) hu25 rfl hia) hHeld ?_
          simp only [Act.put, List.setIfInBounds_toArray, List.set_cons_zero, List.set_cons_succ]
          refine wpAnyH_take (i := 7) (v := .agg (bvs c).toArray) rfl (by kernel_rfl) (by kernel_rfl) (by kernel_rfl) (fun _ _ _ h => h) (yieldsIf_load_mid (by kernel_rfl) 25 _ rfl (w.heap.size + 2) 0 (by kernel_rfl) (bvs c) _ (fun w h => h.2.2.1) hu25 rfl hic) hHeld ?_
          simp only [Act.put, List.setIfInBounds_toArray, List.set_cons_zero, List.set_cons_succ]
          refine wpAnyH_take (i := 9) (v := .agg (bvs a).toArray) rfl (by kernel_rfl) (by kernel_rfl) (by kernel_rfl) (fun _ _ _ h => h) (yieldsIf_load_mid (by kernel_rfl) 25 _ rfl w.heap.size 0 (by kernel_rfl) (bvs a) _ (fun w h => h.1) hu25 rfl hia) hHeld ?_
          simp only [Act.put, List.setIfInBounds_toArray, List.set_cons_zero, List.set_cons_succ]
          refine wpAnyH_take (i := 10) (v := .agg (bvs c).toArray) rfl (by kernel_rfl) (by kernel_rfl) (by kernel_rfl) (fun _ _ _ h => h) (yieldsIf_load_mid (by kernel_rfl) 25 _ rfl (w.heap.size + 2) 0 (by kernel_rfl) (bvs c) _ (fun w h => h.2.2.1) hu25 rfl hic) hHeld ?_
          simp only [Act.put, List.setIfInBounds_toArray, List.set_cons_zero, List.set_cons_succ]
          refine wpAnyH_take (i := 2) (v := .bool true) rfl (by kernel_rfl) (by kernel_rfl) (by kernel_rfl) (fun _ _ _ h => h) (yi_do (by kernel_rfl) (fun W _ => by have hE := hEac.out W 9998; go_simp)) hHeld ?_
          simp only [Act.put, List.setIfInBounds_toArray, List.set_cons_zero, List.set_cons_succ]
          refine wpAnyH_take (i := 5) (v := .bool true) rfl (by kernel_rfl) (by kernel_rfl) (by kernel_rfl) (fun _ _ _ h => h) (yi_do (by kernel_rfl) (fun W _ => by have hE := hEac.out W 9998; go_simp)) hHeld ?_
          simp only [Act.put, List.setIfInBounds_toArray, List.set_cons_zero, List.set_cons_succ]
          refine wpAnyH_take (i := 8) (v := .bool true) rfl (by kernel_rfl) (by kernel_rfl) (by kernel_rfl) (fun _ _ _ h => h) (yi_do (by kernel_rfl) (fun W _ => by have hE := hEac.out W 9998; go_simp)) hHeld ?_
          simp only [Act.put, List.setIfInBounds_toArray, List.set_cons_zero, List.set_cons_succ]
          refine wpAnyH_take (i := 11) (v := .bool true) rfl (by kernel_rfl) (by kernel_rfl) (by kernel_rfl) (fun _ _ _ h => h) (yi_do (by kernel_rfl) (fun W _ => by have hE := hEac.out W 9998; go_simp)) hHeld ?_
          simp only [Act.put, List.setIfInBounds_toArray, List.set_cons_zero, List.set_cons_succ]
          refine wpAnyH_take (i := 12) (v := .bool true) rfl (by kernel_rfl) (by kernel_rfl) (by kernel_rfl) (fun _ _ _ h => h) (yi_do (by kernel_rfl) (fun w _ => by go_simp)) hHeld ?_
          simp only [Act.put, List.setIfInBounds_toArray, List.set_cons_zero, List.set_cons_succ]
          refine wpAnyH_take (i := 13) (v := .agg (bvs b).toArray) rfl (by kernel_rfl) (by kernel_rfl) (by kernel_rfl) (fun _ _ _ h => h) (yieldsIf_load_mid (by kernel_rfl) 25 _ rfl (w.heap.size + 1) 0 (by kernel_rfl) (bvs b) _ (fun w h => h.2.1) hu25 rfl hib) hHeld ?_
          simp only [Act.put, List.setIfInBounds_toArray, List.set_cons_zero, List.set_cons_succ]
          refine wpAnyH_take (i := 14) (v := .agg (bvs d).toArray) rfl (by kernel_rfl) (by kernel_rfl) (by kernel_rfl) (fun _ _ _ h => h) (yieldsIf_load_mid (by kernel_rfl) 25 _ rfl (w.heap.size + 3) 0 (by kernel_rfl) (bvs d) _ (fun w h => h.2.2.2) hu25 rfl hid) hHeld ?_
          simp only [Act.put, List.setIfInBounds_toArray, List.set_cons_zero, List.set_cons_succ]
          refine wpAnyH_take (i := 15) (v := .bool (decide (b = d))) rfl (by kernel_rfl) (by kernel_rfl) (by kernel_rfl) (fun _ _ _ h => h) (yi_do (by kernel_rfl) (fun W _ => by have hE := hEbd.out W 9998; go_simp)) hHeld ?_
          simp only [Act.put, List.setIfInBounds_toArray, List.set_cons_zero, List.set_cons_succ]
          refine wpAnyH_take (i := 16) (v := .bool (decide (b = d))) rfl (by kernel_rfl) (by kernel_rfl) (by kernel_rfl) (fun _ _ _ h => h) (yi_do (by kernel_rfl) (fun w _ => by go_simp)) hHeld ?_
          simp only [Act.put, List.setIfInBounds_toArray, List.set_cons_zero, List.set_cons_succ]
          refine wpAnyH_take (i := 17) (v := .int .u64 (n : Int)) rfl (by kernel_rfl) (by kernel_rfl) (by kernel_rfl) (fun _ _ _ h => h) (.inl ⟨by rfl, fun w _ => by go_simp⟩) hHeld ?_
          simp only [Act.put, List.setIfInBounds_toArray, List.set_cons_zero, List.set_cons_succ]
          refine wpAnyH_take (i := 18) (v := .int .u64 (m : Int)) rfl (by kernel_rfl) (by kernel_rfl) (by kernel_rfl) (fun _ _ _ h => h) (.inl ⟨by rfl, fun w _ => by go_simp⟩) hHeld ?_
          simp only [Act.put, List.setIfInBounds_toArray, List.set_cons_zero, List.set_cons_succ]
          refine wpAnyH_take (i := 20) (v := .int .u64 (n : Int)) rfl (by kernel_rfl) (by kernel_rfl) (by kernel_rfl) (fun _ _ _ h => h) (.inl ⟨by rfl, fun w _ => by go_simp⟩) hHeld ?_
          simp only [Act.put, List.setIfInBounds_toArray, List.set_cons_zero, List.set_cons_succ]
          refine wpAnyH_take (i := 21) (v := .int .u64 (m : Int)) rfl (by kernel_rfl) (by kernel_rfl) (by kernel_rfl) (fun _ _ _ h => h) (.inl ⟨by rfl, fun w _ => by go_simp⟩) hHeld ?_
          simp only [Act.put, List.setIfInBounds_toArray, List.set_cons_zero, List.set_cons_succ]
          refine wpAnyH_take (i := 19) (v := .bool (decide (n = m))) rfl (by kernel_rfl) (by kernel_rfl) (by kernel_rfl) (fun _ _ _ h => h) (yi_do (by kernel_rfl) (fun w _ => by have hE := hnm.out; go_simp)) hHeld ?_
          simp only [Act.put, List.setIfInBounds_toArray, List.set_cons_zero, List.set_cons_succ]
          refine wpAnyH_take (i := 22) (v := .bool (decide (n = m))) rfl (by kernel_rfl) (by kernel_rfl) (by kernel_rfl) (fun _ _ _ h => h) (yi_do (by kernel_rfl) (fun w _ => by have hE := hnm.out; go_simp)) hHeld ?_
          simp only [Act.put, List.setIfInBounds_toArray, List.set_cons_zero, List.set_cons_succ]
          refine wpAnyH_take (i := 23) (v := .agg #[.bool true, .bool true, .bool true, .bool (decide (b = d)), .bool (decide (n = m)), .bool (decide (n = m))]) rfl (by kernel_rfl) (by kernel_rfl) (by kernel_rfl) (fun _ _ _ h => h) (yi_do (by kernel_rfl) (fun w _ => by go_simp)) hHeld ?_
          simp only [Act.put, List.setIfInBounds_toArray, List.set_cons_zero, List.set_cons_succ]
          refine wpAnyH_ready (rs := [24]) (by kernel_rfl) (by simp) ?_
          refine AllReadyH.cons rfl (fun K hK => ?_) AllReadyH.nil
          go_simp
          refine hK.out _ _ (HK.out _ (HB3.out.drew.alloc HB3.out.size _)) (fun hHeld => ?_)
          clear hK K
          refine wpAnyH_ready (rs := [25]) (by kernel_rfl) (by simp) ?_
          refine AllReadyH.cons rfl (fun K hK => ?_) AllReadyH.nil
          go_simp
          refine hK.out _ _ (HK.out _ (HB3.out.drew.alloc HB3.out.size _)) (fun hHeld => ?_)
          clear hK K
          refine wpAnyH_done (by kernel_rfl) ?_ _
          go_wp2_with fail
          go_meet
          have hS : (sames a b c d n m).map Value.bool = (#[.bool true, .bool true, .bool true, .bool (decide (b = d)), .bool (decide (n = m)), .bool (decide (n = m))] : Array Value).toList := by simp [sames, HAC.out]
          refine ⟨wv.heap.size, rfl, ?_, (al (Below.refl wv.heap.size wv) _).drew⟩
          rw [hS]
          exact cellsAt_blk (Blk.new wv.drew 39 _)
      
        · rw [decide_eq_false hac] at hEac
          have HAC := Lib.hid hac
          clear hac
          refine wp_region_held_drew (S := fun w' => Four (bvs a) (bvs b) (bvs c) (bvs d) w.heap.size w') (by kernel_rfl) (HK.out _ HB3.out.drew) (fun hHeld => ?_)
          refine wpAnyH_take (i := 0) (v := .agg (bvs a).toArray) rfl (by kernel_rfl) (by kernel_rfl) (by kernel_rfl) (fun _ _ _ h => h) (yieldsIf_load_mid (by kernel_rfl) 25 _ rfl w.heap.size 0 (by kernel_rfl) (bvs a) _ (fun w h => h.1) hu25 rfl hia) hHeld ?_
          simp only [Act.put, List.setIfInBounds_toArray, List.set_cons_zero, List.set_cons_succ]
          refine wpAnyH_take (i := 1) (v := .agg (bvs c).toArray) rfl (by kernel_rfl) (by kernel_rfl) (by kernel_rfl) (fun _ _ _ h => h) (yieldsIf_load_mid (by kernel_rfl) 25 _ rfl (w.heap.size + 2) 0 (by kernel_rfl) (bvs c) _ (fun w h => h.2.2.1) hu25 rfl hic) hHeld ?_
          simp only [Act.put, List.setIfInBounds_toArray, List.set_cons_zero, List.set_cons_succ]
          refine wpAnyH_take (i := 3) (v := .agg (bvs a).toArray) rfl (by kernel_rfl) (by kernel_rfl) (by kernel_rfl) (fun _ _ _ h => h) (yieldsIf_load_mid (by kernel_rfl) 25 _ rfl w.heap.size 0 (by kernel_rfl) (bvs a) _ (fun w h => h.1) hu25 rfl hia) hHeld ?_
          simp only [Act.put, List.setIfInBounds_toArray, List.set_cons_zero, List.set_cons_succ]
          refine wpAnyH_take (i := 4) (v := .agg (bvs c).toArray) rfl (by kernel_rfl) (by kernel_rfl) (by kernel_rfl) (fun _ _ _ h => h) (yieldsIf_load_mid (by kernel_rfl) 25 _ rfl (w.heap.size + 2) 0 (by kernel_rfl) (bvs c) _ (fun w h => h.2.2.1) hu25 rfl hic) hHeld ?_
          simp only [Act.put, List.setIfInBounds_toArray, List.set_cons_zero, List.set_cons_succ]
          refine wpAnyH_take (i := 6) (v := .agg (bvs a).toArray) rfl (by kernel_rfl) (by kernel_rfl) (by kernel_rfl) (fun _ _ _ h => h) (yieldsIf_load_mid (by kernel_rfl) 25 _ rfl w.heap.size 0 (by kernel_rfl) (bvs a) _ (fun w h => h.1) hu25 rfl hia) hHeld ?_
          simp only [Act.put, List.setIfInBounds_toArray, List.set_cons_zero, List.set_cons_succ]
          refine wpAnyH_take (i := 7) (v := .agg (bvs c).toArray) rfl (by kernel_rfl) (by kernel_rfl) (by kernel_rfl) (fun _ _ _ h => h) (yieldsIf_load_mid (by kernel_rfl) 25 _ rfl (w.heap.size + 2) 0 (by kernel_rfl) (bvs c) _ (fun w h => h.2.2.1) hu25 rfl hic) hHeld ?_
          simp only [Act.put, List.setIfInBounds_toArray, List.set_cons_zero, List.set_cons_succ]
          refine wpAnyH_take (i := 9) (v := .agg (bvs a).toArray) rfl (by kernel_rfl) (by kernel_rfl) (by kernel_rfl) (fun _ _ _ h => h) (yieldsIf_load_mid (by kernel_rfl) 25 _ rfl w.heap.size 0 (by kernel_rfl) (bvs a) _ (fun w h => h.1) hu25 rfl hia) hHeld ?_
          simp only [Act.put, List.setIfInBounds_toArray, List.set_cons_zero, List.set_cons_succ]
          refine wpAnyH_take (i := 10) (v := .agg (bvs c).toArray) rfl (by kernel_rfl) (by kernel_rfl) (by kernel_rfl) (fun _ _ _ h => h) (yieldsIf_load_mid (by kernel_rfl) 25 _ rfl (w.heap.size + 2) 0 (by kernel_rfl) (bvs c) _ (fun w h => h.2.2.1) hu25 rfl hic) hHeld ?_
          simp only [Act.put, List.setIfInBounds_toArray, List.set_cons_zero, List.set_cons_succ]
          refine wpAnyH_take (i := 2) (v := .bool false) rfl (by kernel_rfl) (by kernel_rfl) (by kernel_rfl) (fun _ _ _ h => h) (yi_do (by kernel_rfl) (fun W _ => by have hE := hEac.out W 9998; go_simp)) hHeld ?_
          simp only [Act.put, List.setIfInBounds_toArray, List.set_cons_zero, List.set_cons_succ]
          refine wpAnyH_take (i := 5) (v := .bool false) rfl (by kernel_rfl) (by kernel_rfl) (by kernel_rfl) (fun _ _ _ h => h) (yi_do (by kernel_rfl) (fun W _ => by have hE := hEac.out W 9998; go_simp)) hHeld ?_
          simp only [Act.put, List.setIfInBounds_toArray, List.set_cons_zero, List.set_cons_succ]
          refine wpAnyH_take (i := 8) (v := .bool false) rfl (by kernel_rfl) (by kernel_rfl) (by kernel_rfl) (fun _ _ _ h => h) (yi_do (by kernel_rfl) (fun W _ => by have hE := hEac.out W 9998; go_simp)) hHeld ?_
          simp only [Act.put, List.setIfInBounds_toArray, List.set_cons_zero, List.set_cons_succ]
          refine wpAnyH_take (i := 11) (v := .bool false) rfl (by kernel_rfl) (by kernel_rfl) (by kernel_rfl) (fun _ _ _ h => h) (yi_do (by kernel_rfl) (fun W _ => by have hE := hEac.out W 9998; go_simp)) hHeld ?_
          simp only [Act.put, List.setIfInBounds_toArray, List.set_cons_zero, List.set_cons_succ]
          refine wpAnyH_take (i := 12) (v := .bool false) rfl (by kernel_rfl) (by kernel_rfl) (by kernel_rfl) (fun _ _ _ h => h) (yi_do (by kernel_rfl) (fun w _ => by go_simp)) hHeld ?_
          simp only [Act.put, List.setIfInBounds_toArray, List.set_cons_zero, List.set_cons_succ]
          refine wpAnyH_take (i := 13) (v := undef) rfl (by kernel_rfl) (by kernel_rfl) (by kernel_rfl) (fun _ _ _ h => h) (yi_no (by kernel_rfl)) hHeld ?_
          simp only [Act.put, List.setIfInBounds_toArray, List.set_cons_zero, List.set_cons_succ]
          refine wpAnyH_take (i := 14) (v := undef) rfl (by kernel_rfl) (by kernel_rfl) (by kernel_rfl) (fun _ _ _ h => h) (yi_no (by kernel_rfl)) hHeld ?_
          simp only [Act.put, List.setIfInBounds_toArray, List.set_cons_zero, List.set_cons_succ]
          refine wpAnyH_take (i := 15) (v := undef) rfl (by kernel_rfl) (by kernel_rfl) (by kernel_rfl) (fun _ _ _ h => h) (yi_no (by kernel_rfl)) hHeld ?_
          simp only [Act.put, List.setIfInBounds_toArray, List.set_cons_zero, List.set_cons_succ]
          refine wpAnyH_take (i := 16) (v := .bool false) rfl (by kernel_rfl) (by kernel_rfl) (by kernel_rfl) (fun _ _ _ h => h) (yi_do (by kernel_rfl) (fun w _ => by go_simp)) hHeld ?_
          simp only [Act.put, List.setIfInBounds_toArray, List.set_cons_zero, List.set_cons_succ]
          refine wpAnyH_take (i := 17) (v := .int .u64 (n : Int)) rfl (by kernel_rfl) (by kernel_rfl) (by kernel_rfl) (fun _ _ _ h => h) (.inl ⟨by rfl, fun w _ => by go_simp⟩) hHeld ?_
          simp only [Act.put, List.setIfInBounds_toArray, List.set_cons_zero, List.set_cons_succ]
          refine wpAnyH_take (i := 18) (v := .int .u64 (m : Int)) rfl (by kernel_rfl) (by kernel_rfl) (by kernel_rfl) (fun _ _ _ h => h) (.inl ⟨by rfl, fun w _ => by go_simp⟩) hHeld ?_
          simp only [Act.put, List.setIfInBounds_toArray, List.set_cons_zero, List.set_cons_succ]
          refine wpAnyH_take (i := 20) (v := .int .u64 (n : Int)) rfl (by kernel_rfl) (by kernel_rfl) (by kernel_rfl) (fun _ _ _ h => h) (.inl ⟨by rfl, fun w _ => by go_simp⟩) hHeld ?_
          simp only [Act.put, List.setIfInBounds_toArray, List.set_cons_zero, List.set_cons_succ]
          refine wpAnyH_take (i := 21) (v := .int .u64 (m : Int)) rfl (by kernel_rfl) (by kernel_rfl) (by kernel_rfl) (fun _ _ _ h => h) (.inl ⟨by rfl, fun w _ => by go_simp⟩) hHeld ?_
          simp only [Act.put, List.setIfInBounds_toArray, List.set_cons_zero, List.set_cons_succ]
          refine wpAnyH_take (i := 19) (v := .bool (decide (n = m))) rfl (by kernel_rfl) (by kernel_rfl) (by kernel_rfl) (fun _ _ _ h => h) (yi_do (by kernel_rfl) (fun w _ => by have hE := hnm.out; go_simp)) hHeld ?_
          simp only [Act.put, List.setIfInBounds_toArray, List.set_cons_zero, List.set_cons_succ]
          refine wpAnyH_take (i := 22) (v := .bool (decide (n = m))) rfl (by kernel_rfl) (by kernel_rfl) (by kernel_rfl) (fun _ _ _ h => h) (yi_do (by kernel_rfl) (fun w _ => by have hE := hnm.out; go_simp)) hHeld ?_
          simp only [Act.put, List.setIfInBounds_toArray, List.set_cons_zero, List.set_cons_succ]
          refine wpAnyH_take (i := 23) (v := .agg #[.bool false, .bool false, .bool false, .bool false, .bool (decide (n = m)), .bool (decide (n = m))]) rfl (by kernel_rfl) (by kernel_rfl) (by kernel_rfl) (fun _ _ _ h => h) (yi_do (by kernel_rfl) (fun w _ => by go_simp)) hHeld ?_
          simp only [Act.put, List.setIfInBounds_toArray, List.set_cons_zero, List.set_cons_succ]
          refine wpAnyH_ready (rs := [24]) (by kernel_rfl) (by simp) ?_
          refine AllReadyH.cons rfl (fun K hK => ?_) AllReadyH.nil
          go_simp
          refine hK.out _ _ (HK.out _ (HB3.out.drew.alloc HB3.out.size _)) (fun hHeld => ?_)
          clear hK K
          refine wpAnyH_ready (rs := [25]) (by kernel_rfl) (by simp) ?_
          refine AllReadyH.cons rfl (fun K hK => ?_) AllReadyH.nil
          go_simp
          refine hK.out _ _ (HK.out _ (HB3.out.drew.alloc HB3.out.size _)) (fun hHeld => ?_)
          clear hK K
          refine wpAnyH_done (by kernel_rfl) ?_ _
          go_wp2_with fail
          go_meet
          have hS : (sames a b c d n m).map Value.bool = (#[.bool false, .bool false, .bool false, .bool false, .bool (decide (n = m)), .bool (decide (n = m))] : Array Value).toList := by simp [sames, HAC.out]
          refine ⟨wv.heap.size, rfl, ?_, (al (Below.refl wv.heap.size wv) _).drew⟩
          rw [hS]
          exact cellsAt_blk (Blk.new wv.drew 39 _)
      case rest =>
        obtain ⟨wu, rfl⟩ : ∃ wu : World, wu = wc := ⟨_, rfl⟩
        obtain ⟨g3, rfl, hcs, hbu⟩ := hcut
        have HB4 := Lib.hid (HB3.out.trans (hbu.mono HB3.out.size))
        have HLx := Lib.hid (HL2.out.below hbu)
        have HLy := Lib.hid (HL3.out.below hbu)
        have HCS := Lib.hid hcs
        clear hbu hcs HL2 HL3 HB3 HK hEac hEbd hLa hLb hLc hLd hia hib hic hid hu25
        go_wp2_with fail
        go_loopw [16] (fun i wr => ∃ k : Nat, k ≤ 6 ∧ i = .int .i64 k ∧ Below wu.heap.size wu wr) (fun i _ => 6 - (intOf i).toNat)
        case atStart => exact ⟨0, by omega, rfl, Below.refl _ _⟩
        case round =>
          obtain ⟨k, hk, rfl, hbr⟩ := hrel
          have HBr := Lib.hid hbr
          clear hbr
          by_cases hlt : k < 6
          · go_wp2_with fail
            go_loopw [17] (fun i wr => ∃ j : Nat, j ≤ 6 ∧ i = .int .i64 j ∧ Below wu.heap.size wu wr) (fun i _ => 6 - (intOf i).toNat)
            case atStart => exact ⟨0, by omega, rfl, HBr.out⟩
            case round =>
              obtain ⟨j, hj, rfl, hbj⟩ := hrel
              by_cases hlj : j < 6
              · obtain ⟨a1, B1, m1, e1, _, hc1, hr1⟩ := (HLx.out.below hbj).at_ hlt
                obtain rfl := Option.some.inj e1
                obtain ⟨a2, B2, m2, e2, _, hc2, hr2⟩ := (HLy.out.below hbj).at_ hlj
                obtain rfl := Option.some.inj e2
                rw [addrAt] at hc1 hc2
                have hcv1 := fun q => run_convertB (P := Tryd.prog) (wr.drewN q) 22 5 9 Tryd.underlying22 Tryd.underlying5 Tryd.underlying9 (hr1.drewN q)
                have hcv2 := fun q => run_convertB (P := Tryd.prog) (wr.drewN q) 22 5 9 Tryd.underlying22 Tryd.underlying5 Tryd.underlying9 (hr2.drewN q)
                have hlen : k < (sames a b c d n m).length := hlt
                have hs0 := HCS.out k (.bool ((sames a b c d n m).getD k false)) (by simp [List.getD_eq_getElem?_getD, List.getElem?_eq_getElem hlen])
                have hs1 := hbj.cell (p := ⟨g3, 0 + k, none⟩) (World.block_lt_of_cell? wu _ hs0)
                rw [hs0, Nat.zero_add] at hs1
                have hap := hAp.out k j hlt hlj
                have HBj := Lib.hid hbj
                clear hr1 hr2 e1 e2 hs0 hbj hlen
                generalize (keysOf a b n).getD k [] = x at *
                generalize (keysOf c d m).getD j [] = y at *
                generalize (sames a b c d n m).getD k false = sb at *
                by_cases hkj : k = j
                · subst hkj
                  by_cases hxy : x = y
                  · subst hxy
                    obtain rfl : sb = true := (hap.1 rfl).2
                    clear hap
                    go_wp2_with fail
                    go_quiet (fail)
                    all_goals go_wp2_with fail
                    go_roundw
                    case rel => exact ⟨k + 1, by omega, by go_num, thn HBj.out (drawn_below _ _)⟩
                    case measure => simp [intOf]; omega
                  · obtain rfl : sb = false := by cases sb; rfl; exact absurd (hap.2 ⟨rfl, rfl⟩) hxy
                    have hb : ((str x).toList == (str y).toList) = false := by rw [str_list, str_list, beq_eq_false_iff_ne]; exact hxy
                    clear hap hxy
                    go_wp2_with fail
                    go_quiet (fail)
                    all_goals go_wp2_with fail
                    go_roundw
                    case rel => exact ⟨k + 1, by omega, by go_num, thn HBj.out (drawn_below _ _)⟩
                    case measure => simp [intOf]; omega
                · have hxy : x ≠ y := fun e => hkj (hap.1 e).1
                  have hb : ((str x).toList == (str y).toList) = false := by rw [str_list, str_list, beq_eq_false_iff_ne]; exact hxy
                  have hkb : ((k : Int) == (j : Int)) = false := by rw [beq_eq_false_iff_ne]; omega
                  clear hap hxy
                  go_wp2_with fail
                  go_quiet (fail)
                  all_goals go_wp2_with fail
                  go_roundw
                  case rel => exact ⟨j + 1, by omega, by go_num, thn HBj.out (drawn_below _ _)⟩
                  case measure => simp [intOf]; omega
              · obtain rfl : j = 6 := by omega
                go_wp2_with fail
                go_roundw
                case rel => exact ⟨k + 1, by omega, by go_num, hbj⟩
                case measure => simp [intOf]; omega
          · obtain rfl : k = 6 := by omega
            clear HLx HLy HCS hAp
            have hcvn := Lib.hid (fun (W : World) (A : Option Addr) (cc : Nat) (h : RdB W A 9 cc (114 :: bigB n 8)) => run_convertB (P := Tryd.prog) W 22 5 9 Tryd.underlying22 Tryd.underlying5 Tryd.underlying9 h)
            have hcvm := Lib.hid (fun (W : World) (A : Option Addr) (cc : Nat) (h : RdB W A 9 cc (114 :: bigB m 8)) => run_convertB (P := Tryd.prog) W 22 5 9 Tryd.underlying22 Tryd.underlying5 Tryd.underlying9 h)
            have hle : Op.bytesLess (str (114 :: bigB n 8)).toList (str (114 :: bigB m 8)).toList = decide (n < m) := by rw [str_list, str_list]; exact hLe.out
            have hnl : decide ((n : Int) < (m : Int)) = decide (n < m) := by
              by_cases h : n < m
              · rw [decide_eq_true h, decide_eq_true (by omega)]
              · rw [decide_eq_false h, decide_eq_false (by omega)]
            clear hLe
            generalize str (114 :: bigB n 8) = sn at *
            generalize str (114 :: bigB m 8) = sm at *
            go_wp2_with fail
            go_region_with (first | (go_at_call 19; refine (h19p.out _).mono ?_; rintro e wA ⟨A1, c1, rfl, hrA, hbA⟩; have hcA := hcvn.out _ _ _ hrA) | (go_at_call 19; refine (h19q.out _).mono ?_; rintro e wB ⟨A2, c2, rfl, hrB, hbB⟩; have hcB := hcvm.out _ _ _ hrB; have hcAB := hcvn.out _ _ _ (hrA.below hbB)))
            all_goals go_wp2_with fail
            all_goals go_ret
            all_goals (refine ⟨by go_simp, ?_⟩)
            all_goals exact fin4 w _ _ _ _ (HB4.out.trans ((thn (thn HBr.out.drew hbA) hbB).mono HB4.out.size))
end Go.Proofs.YtfjfjjcdlgdbcaaDoor
