/- archive.parsed at fields of fixed length -/
import Derived.Test.YtfjfjjcdlgdbcaaDoorE21
namespace Go.Proofs.YtfjfjjcdlgdbcaaDoor
open Go.RowKit
set_option linter.unusedSimpArgs false
set_option linter.unusedVariables false

theorem results_bool1 {fn : Func} {p : Tmp} (h : fn.results = #[.cell p 4]) (tmps : Array Value) (w : World) (g : Nat) (v : Value)
    (hp : tmps.getD p undef = .pointer (some ⟨g, 0, none⟩)) (hc : w.cell? ⟨g, 0, none⟩ = some v) : (results fn tmps).run Tryd.prog w = .ok v w := by
  have hp' : tmps[p]?.getD undef = .pointer (some ⟨g, 0, none⟩) := by simpa using hp
  have hl : (loadVar 4 ⟨g, 0, none⟩).run Tryd.prog w = .ok v w := by
    unfold loadVar
    go_simp
  simp [results, h, hp', asAddr, hl]
theorem setCell_same {w : World} {b : Nat} {t : TypeId} {cs : Array Value} (h : Blk w b t cs) (hs : 0 < cs.size) (v : Value) : (w.setCell ⟨b, 0, none⟩ v).cell? ⟨b, 0, none⟩ = some v := by
  rw [(h.set_ 0 v).cell, Array.getElem?_setIfInBounds, if_pos rfl, if_pos hs]
/-- where parsed's variables lie -/
def w73 (W : World) (g : Nat) (s : List UInt8) : World := ((W.alloc (.cells #[.pointer (some ⟨g, 0, none⟩)] 128)).alloc (.cells #[.string (str s)] 9)).alloc (.cells #[.bool false] 4)
theorem w73_size (W : World) (g : Nat) (s : List UInt8) : (w73 W g s).heap.size = W.heap.size + 3 := by simp [w73]
theorem w73_cell (W : World) (g : Nat) (s : List UInt8) : (w73 W g s).cell? ⟨W.heap.size + 1, 0, none⟩ = some (.string (str s)) := by
  unfold w73
  rw [World.cell?_alloc_lt _ _ ⟨W.heap.size + 1, 0, none⟩ (by simp), World.cell?_alloc_at _ _ _ _ (by simp)]; rfl
theorem w73_res (W : World) (g : Nat) (s : List UInt8) : Blk (w73 W g s) (W.heap.size + 2) 4 #[.bool false] := by
  have := Blk.new ((W.alloc (.cells #[.pointer (some ⟨g, 0, none⟩)] 128)).alloc (.cells #[.string (str s)] 9)) 4 #[.bool false]
  rw [show ((W.alloc (.cells #[.pointer (some ⟨g, 0, none⟩)] 128)).alloc (.cells #[.string (str s)] 9)).heap.size = W.heap.size + 2 by simp] at this
  exact this

set_option maxRecDepth 100000 in
set_option maxHeartbeats 2000000 in
theorem parsed_addr (s : List UInt8) (hs : s.length ≤ 100000000) : ParsedAt pF 97 s := by
  intro A bA bn bc lA ln lc g lo W hglo hlo hB hR hL _
  have hpf : pF A 97 s = if (undigL s).2 = true ∧ (undigL s).1.length = 20 then some { A with addr := (undigL s).1 } else none := rfl
  have hgW := hB.lt
  have hbA : Below W.heap.size W (w73 W g s) := al (al (al (Below.refl _ _) _) _) _
  have hB3 := hB.below hbA hgW
  have hsz3 := w73_size W g s
  have has := ak_size A (.slice bA bn bc) (.slice lA ln lc) hR.1
  have hfx := fixed108_calls s (W.heap.size + 1) g 1 20 (w73 W g s) hs (by omega) (w73_cell W g s) (fun W' hW' => (hB3.below hW' hB3.lt).room 1 20 (by rw [has]; omega))
  have hres := Lib.hid (fun w2 (hw2 : Below (W.heap.size + 3) (w73 W g s) w2) vs => (show Blk (w2.setCells g 1 vs) (W.heap.size + 2) 4 #[.bool false] from
    ((w73_res W g s).below hw2 (by omega)).farCells _ _ _ (by omega)))
  have HB := Lib.hid hB
  have HR := Lib.hid hR
  have HBA := Lib.hid hbA
  have HB3 := Lib.hid hB3
  have HAS := Lib.hid has
  rw [hsz3] at hfx
  by_cases hok : (undigL s).2 = true ∧ (undigL s).1.length = 20
  · have hfx2 := Lib.hid (hfx.mono (fun e w' ⟨w2, hb, h⟩ => (show ∃ w2, Below (W.heap.size + 3) (w73 W g s) w2 ∧ e = Ending.returned (.bool true) ∧ w' = w2.setCells g 1 (bvs (undigL s).1) from ⟨w2, hb, by
      rcases h with ⟨_, h1, h2⟩ | ⟨h1, _⟩
      · exact ⟨h1, h2⟩
      · exact absurd hok h1⟩)))
    rw [hpf, if_pos hok]
    have HOK := Lib.hid hok
    clear hfx hok hB hR hL hB3 has hpf hbA hsz3
    go_enter Tryd.func73, Tryd.ntmps73
    go_wp2_with (go_at_call 108; refine hfx2.out.mono ?_; rintro e w1 ⟨w2, hb2, rfl, rfl⟩; have hrs := hres.out w2 hb2 (bvs (undigL s).1); have hrc := hrs.cell 0; have hrf := hrs.frozen 0)
    have hgr : W.grownBy ((w2.setCells g 1 (bvs (undigL s).1)).setCell ⟨W.heap.size + 1 + 1, 0, none⟩ (.bool true)) (some g) := gr_new (gr_setCells (gr_then (gr_below HBA.out) (by rw [w73_size]; exact hb2)) _ _) _ _ (by omega)
    have hbl := ((HB3.out.below hb2 (by omega)).setCells (bvs (undigL s).1) 1 (by rw [bvs_length, HOK.out.2, HAS.out]; omega)).far (p := ⟨W.heap.size + 1 + 1, 0, none⟩) (by show g ≠ W.heap.size + 1 + 1; omega) (.bool true)
    rw [ovw_addr A _ _ _ HR.out.1 HOK.out.2] at hbl
    have hR0 := HR.out
    exact bodyPost_ret (results_bool1 rfl _ _ (W.heap.size + 1 + 1) (.bool true) rfl (setCell_same hrs (by simp) _)) rfl ⟨hgr, .inr ⟨rfl, _, bA, bn, bc, lA, ln, lc, rfl, hbl, ⟨⟨HOK.out.2, hR0.1.hk, hR0.1.hw, hR0.1.hr, hR0.1.hn0, hR0.1.hn1, hR0.1.hm0, hR0.1.hm1, hR0.1.hk0, hR0.1.hk1⟩, (hR0.2.1.keeps (KeepsLo.grown hgr hglo)), (hR0.2.2.keeps (KeepsLo.grown hgr hglo))⟩⟩⟩
  · have hfx2 := Lib.hid (hfx.mono (fun e w' ⟨w2, hb, h⟩ => (show ∃ w2 vs, Below (W.heap.size + 3) (w73 W g s) w2 ∧ e = Ending.returned (.bool false) ∧ w' = w2.setCells g 1 vs from by
      rcases h with ⟨h1, _⟩ | ⟨_, h1, vs, _, h2⟩
      · exact absurd h1 hok
      · exact ⟨w2, vs, hb, h1, h2⟩)))
    rw [hpf, if_neg hok]
    clear hfx hok hB hR hL hB3 has hpf hbA hsz3
    go_enter Tryd.func73, Tryd.ntmps73
    go_wp2_with (go_at_call 108; refine hfx2.out.mono ?_; rintro e w1 ⟨w2, vs, hb2, rfl, rfl⟩; have hrs := hres.out w2 hb2 vs; have hrc := hrs.cell 0; have hrf := hrs.frozen 0)
    have hgr : W.grownBy ((w2.setCells g 1 vs).setCell ⟨W.heap.size + 1 + 1, 0, none⟩ (.bool false)) (some g) := gr_new (gr_setCells (gr_then (gr_below HBA.out) (by rw [w73_size]; exact hb2)) _ _) _ _ (by omega)
    exact bodyPost_ret (results_bool1 rfl _ _ (W.heap.size + 1 + 1) (.bool false) rfl (setCell_same hrs (by simp) _)) rfl ⟨hgr, .inl ⟨rfl, by first | rfl | trivial⟩⟩

set_option maxRecDepth 100000 in
set_option maxHeartbeats 2000000 in
theorem parsed_key (s : List UInt8) (hs : s.length ≤ 100000000) : ParsedAt pF 107 s := by
  intro A bA bn bc lA ln lc g lo W hglo hlo hB hR hL _
  have hpf : pF A 107 s = if (undigL s).2 = true ∧ (undigL s).1.length = 32 then some { A with key := (undigL s).1 } else none := rfl
  have hgW := hB.lt
  have hbA : Below W.heap.size W (w73 W g s) := al (al (al (Below.refl _ _) _) _) _
  have hB3 := hB.below hbA hgW
  have hsz3 := w73_size W g s
  have has := ak_size A (.slice bA bn bc) (.slice lA ln lc) hR.1
  have hfx := fixed108_calls s (W.heap.size + 1) g 21 32 (w73 W g s) hs (by omega) (w73_cell W g s) (fun W' hW' => (hB3.below hW' hB3.lt).room 21 32 (by rw [has]; omega))
  have hres := Lib.hid (fun w2 (hw2 : Below (W.heap.size + 3) (w73 W g s) w2) vs => (show Blk (w2.setCells g 21 vs) (W.heap.size + 2) 4 #[.bool false] from
    ((w73_res W g s).below hw2 (by omega)).farCells _ _ _ (by omega)))
  have HB := Lib.hid hB
  have HR := Lib.hid hR
  have HBA := Lib.hid hbA
  have HB3 := Lib.hid hB3
  have HAS := Lib.hid has
  rw [hsz3] at hfx
  by_cases hok : (undigL s).2 = true ∧ (undigL s).1.length = 32
  · have hfx2 := Lib.hid (hfx.mono (fun e w' ⟨w2, hb, h⟩ => (show ∃ w2, Below (W.heap.size + 3) (w73 W g s) w2 ∧ e = Ending.returned (.bool true) ∧ w' = w2.setCells g 21 (bvs (undigL s).1) from ⟨w2, hb, by
      rcases h with ⟨_, h1, h2⟩ | ⟨h1, _⟩
      · exact ⟨h1, h2⟩
      · exact absurd hok h1⟩)))
    rw [hpf, if_pos hok]
    have HOK := Lib.hid hok
    clear hfx hok hB hR hL hB3 has hpf hbA hsz3
    go_enter Tryd.func73, Tryd.ntmps73
    go_wp2_with (go_at_call 108; refine hfx2.out.mono ?_; rintro e w1 ⟨w2, hb2, rfl, rfl⟩; have hrs := hres.out w2 hb2 (bvs (undigL s).1); have hrc := hrs.cell 0; have hrf := hrs.frozen 0)
    have hgr : W.grownBy ((w2.setCells g 21 (bvs (undigL s).1)).setCell ⟨W.heap.size + 1 + 1, 0, none⟩ (.bool true)) (some g) := gr_new (gr_setCells (gr_then (gr_below HBA.out) (by rw [w73_size]; exact hb2)) _ _) _ _ (by omega)
    have hbl := ((HB3.out.below hb2 (by omega)).setCells (bvs (undigL s).1) 21 (by rw [bvs_length, HOK.out.2, HAS.out]; omega)).far (p := ⟨W.heap.size + 1 + 1, 0, none⟩) (by show g ≠ W.heap.size + 1 + 1; omega) (.bool true)
    rw [ovw_key A _ _ _ HR.out.1 HOK.out.2] at hbl
    have hR0 := HR.out
    exact bodyPost_ret (results_bool1 rfl _ _ (W.heap.size + 1 + 1) (.bool true) rfl (setCell_same hrs (by simp) _)) rfl ⟨hgr, .inr ⟨rfl, _, bA, bn, bc, lA, ln, lc, rfl, hbl, ⟨⟨hR0.1.ha, HOK.out.2, hR0.1.hw, hR0.1.hr, hR0.1.hn0, hR0.1.hn1, hR0.1.hm0, hR0.1.hm1, hR0.1.hk0, hR0.1.hk1⟩, (hR0.2.1.keeps (KeepsLo.grown hgr hglo)), (hR0.2.2.keeps (KeepsLo.grown hgr hglo))⟩⟩⟩
  · have hfx2 := Lib.hid (hfx.mono (fun e w' ⟨w2, hb, h⟩ => (show ∃ w2 vs, Below (W.heap.size + 3) (w73 W g s) w2 ∧ e = Ending.returned (.bool false) ∧ w' = w2.setCells g 21 vs from by
      rcases h with ⟨h1, _⟩ | ⟨_, h1, vs, _, h2⟩
      · exact absurd h1 hok
      · exact ⟨w2, vs, hb, h1, h2⟩)))
    rw [hpf, if_neg hok]
    clear hfx hok hB hR hL hB3 has hpf hbA hsz3
    go_enter Tryd.func73, Tryd.ntmps73
    go_wp2_with (go_at_call 108; refine hfx2.out.mono ?_; rintro e w1 ⟨w2, vs, hb2, rfl, rfl⟩; have hrs := hres.out w2 hb2 vs; have hrc := hrs.cell 0; have hrf := hrs.frozen 0)
    have hgr : W.grownBy ((w2.setCells g 21 vs).setCell ⟨W.heap.size + 1 + 1, 0, none⟩ (.bool false)) (some g) := gr_new (gr_setCells (gr_then (gr_below HBA.out) (by rw [w73_size]; exact hb2)) _ _) _ _ (by omega)
    exact bodyPost_ret (results_bool1 rfl _ _ (W.heap.size + 1 + 1) (.bool false) rfl (setCell_same hrs (by simp) _)) rfl ⟨hgr, .inl ⟨rfl, by first | rfl | trivial⟩⟩

set_option maxRecDepth 100000 in
set_option maxHeartbeats 2000000 in
theorem parsed_word (s : List UInt8) (hs : s.length ≤ 100000000) : ParsedAt pF 119 s := by
  intro A bA bn bc lA ln lc g lo W hglo hlo hB hR hL _
  have hpf : pF A 119 s = if (undigL s).2 = true ∧ (undigL s).1.length = 32 then some { A with word := (undigL s).1 } else none := rfl
  have hgW := hB.lt
  have hbA : Below W.heap.size W (w73 W g s) := al (al (al (Below.refl _ _) _) _) _
  have hB3 := hB.below hbA hgW
  have hsz3 := w73_size W g s
  have has := ak_size A (.slice bA bn bc) (.slice lA ln lc) hR.1
  have hfx := fixed108_calls s (W.heap.size + 1) g 53 32 (w73 W g s) hs (by omega) (w73_cell W g s) (fun W' hW' => (hB3.below hW' hB3.lt).room 53 32 (by rw [has]; omega))
  have hres := Lib.hid (fun w2 (hw2 : Below (W.heap.size + 3) (w73 W g s) w2) vs => (show Blk (w2.setCells g 53 vs) (W.heap.size + 2) 4 #[.bool false] from
    ((w73_res W g s).below hw2 (by omega)).farCells _ _ _ (by omega)))
  have HB := Lib.hid hB
  have HR := Lib.hid hR
  have HBA := Lib.hid hbA
  have HB3 := Lib.hid hB3
  have HAS := Lib.hid has
  rw [hsz3] at hfx
  by_cases hok : (undigL s).2 = true ∧ (undigL s).1.length = 32
  · have hfx2 := Lib.hid (hfx.mono (fun e w' ⟨w2, hb, h⟩ => (show ∃ w2, Below (W.heap.size + 3) (w73 W g s) w2 ∧ e = Ending.returned (.bool true) ∧ w' = w2.setCells g 53 (bvs (undigL s).1) from ⟨w2, hb, by
      rcases h with ⟨_, h1, h2⟩ | ⟨h1, _⟩
      · exact ⟨h1, h2⟩
      · exact absurd hok h1⟩)))
    rw [hpf, if_pos hok]
    have HOK := Lib.hid hok
    clear hfx hok hB hR hL hB3 has hpf hbA hsz3
    go_enter Tryd.func73, Tryd.ntmps73
    go_wp2_with (go_at_call 108; refine hfx2.out.mono ?_; rintro e w1 ⟨w2, hb2, rfl, rfl⟩; have hrs := hres.out w2 hb2 (bvs (undigL s).1); have hrc := hrs.cell 0; have hrf := hrs.frozen 0)
    have hgr : W.grownBy ((w2.setCells g 53 (bvs (undigL s).1)).setCell ⟨W.heap.size + 1 + 1, 0, none⟩ (.bool true)) (some g) := gr_new (gr_setCells (gr_then (gr_below HBA.out) (by rw [w73_size]; exact hb2)) _ _) _ _ (by omega)
    have hbl := ((HB3.out.below hb2 (by omega)).setCells (bvs (undigL s).1) 53 (by rw [bvs_length, HOK.out.2, HAS.out]; omega)).far (p := ⟨W.heap.size + 1 + 1, 0, none⟩) (by show g ≠ W.heap.size + 1 + 1; omega) (.bool true)
    rw [ovw_word A _ _ _ HR.out.1 HOK.out.2] at hbl
    have hR0 := HR.out
    exact bodyPost_ret (results_bool1 rfl _ _ (W.heap.size + 1 + 1) (.bool true) rfl (setCell_same hrs (by simp) _)) rfl ⟨hgr, .inr ⟨rfl, _, bA, bn, bc, lA, ln, lc, rfl, hbl, ⟨⟨hR0.1.ha, hR0.1.hk, HOK.out.2, hR0.1.hr, hR0.1.hn0, hR0.1.hn1, hR0.1.hm0, hR0.1.hm1, hR0.1.hk0, hR0.1.hk1⟩, (hR0.2.1.keeps (KeepsLo.grown hgr hglo)), (hR0.2.2.keeps (KeepsLo.grown hgr hglo))⟩⟩⟩
  · have hfx2 := Lib.hid (hfx.mono (fun e w' ⟨w2, hb, h⟩ => (show ∃ w2 vs, Below (W.heap.size + 3) (w73 W g s) w2 ∧ e = Ending.returned (.bool false) ∧ w' = w2.setCells g 53 vs from by
      rcases h with ⟨h1, _⟩ | ⟨_, h1, vs, _, h2⟩
      · exact absurd h1 hok
      · exact ⟨w2, vs, hb, h1, h2⟩)))
    rw [hpf, if_neg hok]
    clear hfx hok hB hR hL hB3 has hpf hbA hsz3
    go_enter Tryd.func73, Tryd.ntmps73
    go_wp2_with (go_at_call 108; refine hfx2.out.mono ?_; rintro e w1 ⟨w2, vs, hb2, rfl, rfl⟩; have hrs := hres.out w2 hb2 vs; have hrc := hrs.cell 0; have hrf := hrs.frozen 0)
    have hgr : W.grownBy ((w2.setCells g 53 vs).setCell ⟨W.heap.size + 1 + 1, 0, none⟩ (.bool false)) (some g) := gr_new (gr_setCells (gr_then (gr_below HBA.out) (by rw [w73_size]; exact hb2)) _ _) _ _ (by omega)
    exact bodyPost_ret (results_bool1 rfl _ _ (W.heap.size + 1 + 1) (.bool false) rfl (setCell_same hrs (by simp) _)) rfl ⟨hgr, .inl ⟨rfl, by first | rfl | trivial⟩⟩

set_option maxRecDepth 100000 in
set_option maxHeartbeats 2000000 in
theorem parsed_root (s : List UInt8) (hs : s.length ≤ 100000000) : ParsedAt pF 114 s := by
  intro A bA bn bc lA ln lc g lo W hglo hlo hB hR hL _
  have hpf : pF A 114 s = if (undigL s).2 = true ∧ (undigL s).1.length = 32 then some { A with root := (undigL s).1 } else none := rfl
  have hgW := hB.lt
  have hbA : Below W.heap.size W (w73 W g s) := al (al (al (Below.refl _ _) _) _) _
  have hB3 := hB.below hbA hgW
  have hsz3 := w73_size W g s
  have has := ak_size A (.slice bA bn bc) (.slice lA ln lc) hR.1
  have hfx := fixed108_calls s (W.heap.size + 1) g 85 32 (w73 W g s) hs (by omega) (w73_cell W g s) (fun W' hW' => (hB3.below hW' hB3.lt).room 85 32 (by rw [has]; omega))
  have hres := Lib.hid (fun w2 (hw2 : Below (W.heap.size + 3) (w73 W g s) w2) vs => (show Blk (w2.setCells g 85 vs) (W.heap.size + 2) 4 #[.bool false] from
    ((w73_res W g s).below hw2 (by omega)).farCells _ _ _ (by omega)))
  have HB := Lib.hid hB
  have HR := Lib.hid hR
  have HBA := Lib.hid hbA
  have HB3 := Lib.hid hB3
  have HAS := Lib.hid has
  rw [hsz3] at hfx
  by_cases hok : (undigL s).2 = true ∧ (undigL s).1.length = 32
  · have hfx2 := Lib.hid (hfx.mono (fun e w' ⟨w2, hb, h⟩ => (show ∃ w2, Below (W.heap.size + 3) (w73 W g s) w2 ∧ e = Ending.returned (.bool true) ∧ w' = w2.setCells g 85 (bvs (undigL s).1) from ⟨w2, hb, by
      rcases h with ⟨_, h1, h2⟩ | ⟨h1, _⟩
      · exact ⟨h1, h2⟩
      · exact absurd hok h1⟩)))
    rw [hpf, if_pos hok]
    have HOK := Lib.hid hok
    clear hfx hok hB hR hL hB3 has hpf hbA hsz3
    go_enter Tryd.func73, Tryd.ntmps73
    go_wp2_with (go_at_call 108; refine hfx2.out.mono ?_; rintro e w1 ⟨w2, hb2, rfl, rfl⟩; have hrs := hres.out w2 hb2 (bvs (undigL s).1); have hrc := hrs.cell 0; have hrf := hrs.frozen 0)
    have hgr : W.grownBy ((w2.setCells g 85 (bvs (undigL s).1)).setCell ⟨W.heap.size + 1 + 1, 0, none⟩ (.bool true)) (some g) := gr_new (gr_setCells (gr_then (gr_below HBA.out) (by rw [w73_size]; exact hb2)) _ _) _ _ (by omega)
    have hbl := ((HB3.out.below hb2 (by omega)).setCells (bvs (undigL s).1) 85 (by rw [bvs_length, HOK.out.2, HAS.out]; omega)).far (p := ⟨W.heap.size + 1 + 1, 0, none⟩) (by show g ≠ W.heap.size + 1 + 1; omega) (.bool true)
    rw [ovw_root A _ _ _ HR.out.1 HOK.out.2] at hbl
    have hR0 := HR.out
    exact bodyPost_ret (results_bool1 rfl _ _ (W.heap.size + 1 + 1) (.bool true) rfl (setCell_same hrs (by simp) _)) rfl ⟨hgr, .inr ⟨rfl, _, bA, bn, bc, lA, ln, lc, rfl, hbl, ⟨⟨hR0.1.ha, hR0.1.hk, hR0.1.hw, HOK.out.2, hR0.1.hn0, hR0.1.hn1, hR0.1.hm0, hR0.1.hm1, hR0.1.hk0, hR0.1.hk1⟩, (hR0.2.1.keeps (KeepsLo.grown hgr hglo)), (hR0.2.2.keeps (KeepsLo.grown hgr hglo))⟩⟩⟩
  · have hfx2 := Lib.hid (hfx.mono (fun e w' ⟨w2, hb, h⟩ => (show ∃ w2 vs, Below (W.heap.size + 3) (w73 W g s) w2 ∧ e = Ending.returned (.bool false) ∧ w' = w2.setCells g 85 vs from by
      rcases h with ⟨h1, _⟩ | ⟨_, h1, vs, _, h2⟩
      · exact absurd h1 hok
      · exact ⟨w2, vs, hb, h1, h2⟩)))
    rw [hpf, if_neg hok]
    clear hfx hok hB hR hL hB3 has hpf hbA hsz3
    go_enter Tryd.func73, Tryd.ntmps73
    go_wp2_with (go_at_call 108; refine hfx2.out.mono ?_; rintro e w1 ⟨w2, vs, hb2, rfl, rfl⟩; have hrs := hres.out w2 hb2 vs; have hrc := hrs.cell 0; have hrf := hrs.frozen 0)
    have hgr : W.grownBy ((w2.setCells g 85 vs).setCell ⟨W.heap.size + 1 + 1, 0, none⟩ (.bool false)) (some g) := gr_new (gr_setCells (gr_then (gr_below HBA.out) (by rw [w73_size]; exact hb2)) _ _) _ _ (by omega)
    exact bodyPost_ret (results_bool1 rfl _ _ (W.heap.size + 1 + 1) (.bool false) rfl (setCell_same hrs (by simp) _)) rfl ⟨hgr, .inl ⟨rfl, by first | rfl | trivial⟩⟩

end Go.Proofs.YtfjfjjcdlgdbcaaDoor
