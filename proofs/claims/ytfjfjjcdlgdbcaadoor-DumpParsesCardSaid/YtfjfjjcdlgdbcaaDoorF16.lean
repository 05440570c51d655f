/- the texts E22, E23, EShelf3, E24, E25 of this proof, one behind the other -/
import Derived.Test.YtfjfjjcdlgdbcaaDoorF15
import Derived.Shelf.Strings.Builder1
import Derived.Shelf.Strings.Builder2
import Derived.Shelf.Strings.OnBuilder
import Derived.Shelf.Small.Utf8
import Derived.Shelf.Small.Strs
import Derived.Shelf.Strconv.Atoi
import Derived.Shelf.Strconv.Itoa0
import Derived.Shelf.Strconv.Itoa1
import Derived.Shelf.LaysM
import Derived.Shelf.Strconv.Itoa2
import Derived.Shelf.Strconv.Itoa3
import Derived.Shelf.Strconv.AtoiErrFast
import Derived.Shelf.Strconv.ParseIntEmpty
import Derived.Shelf.Strconv.AtoiFail
import Derived.Shelf.Strconv.Clone
import Derived.Shelf.Strconv.SyntaxError
import Derived.Shelf.LaysC
import Derived.Shelf.Strconv.ToError
import Derived.Shelf.Strconv.AtoiErr
import Derived.Shelf.Strconv.Lower
import Derived.Shelf.Strconv.ParseUint10
import Derived.Shelf.Strconv.ParseUint10Empty
import Derived.Shelf.Strconv.ParseUint10Any
import Derived.Shelf.Strconv.ParseInt10
import Derived.Shelf.Strconv.AtoiLong
import Derived.Shelf.Strconv.AtoiInnerAll
import Derived.Shelf.Strconv.RangeError
import Derived.Shelf.Strconv.ToErrorRange
import Derived.Shelf.Strconv.AtoiAll
import Derived.Shelf.Strconv.ErrVarAll
import Derived.Shelf.Strconv.ParseUintEmpty
import Derived.Shelf.Strconv.ParseUint10b64
import Derived.Shelf.Strconv.ParseUint10b32
import Derived.Shelf.Strconv.ParseUint10b16
import Derived.Shelf.Strconv.ParseUint10b8
import Derived.Shelf.Strconv.ParseUint10At
import Derived.Shelf.Strconv.ParseInt10At64
import Derived.Shelf.Strconv.ParseInt10At32
import Derived.Shelf.Strconv.ParseInt10At16
import Derived.Shelf.Strconv.ParseInt10At8
import Derived.Shelf.Strconv.ParseInt10All
import Derived.Ground.MpProg
import Derived.Shelf.Pu.ParseUintPublic10
import Derived.Shelf.Pu.ErrVarParseUint
import Derived.Shelf.Strings.Search1
import Derived.Shelf.Strings.Search2
import Derived.Shelf.Strings.Search3
import Derived.Shelf.Strings.Cut
import Derived.Shelf.Strings.Count
import Derived.Shelf.Strings.Shaped
import Derived.Shelf.Strings.Split
import Derived.Test.YtfjfjjcdlgdbcaaDoorProg
import Derived.RangeFuncNested
import Derived.RangeFuncBound
import Derived.RangeFuncCalls
import Derived.RangeFuncLeaves
import Derived.Shelf.Abstract
import Derived.Shelf.RegionOpen
import Derived.OwnWalkIn
import Derived.TacticsInMore
import Derived.LoopNIn
import Derived.LoopIn
namespace Go.Proofs.YtfjfjjcdlgdbcaaDoor
open Go.RowKit
set_option linter.unusedSimpArgs false
set_option linter.unusedVariables false

theorem results_bool1 {fn : Func} {p : Tmp} (h : fn.results = #[.cell p 4]) (tmps : Array Value) (w : World) (g : Nat) (v : Value)
    (hp : tmps.getD p undef = .pointer (some ⟨g, 0, none⟩)) (hc : w.cell? ⟨g, 0, none⟩ = some v) : (results fn tmps).run Tryd.prog w = .ok v w := by
  have hp' : tmps[p]?.getD undef = .pointer (some ⟨g, 0, none⟩) := by simpa using hp
  have hl : (loadVar 4 ⟨g, 0, none⟩).run Tryd.prog w = .ok v w := by
    unfold loadVar
    go_simp
  simp [results, h, hp', asAddr, hl]
theorem setCell_same {w : World} {b : Nat} {t : TypeId} {cs : Array Value} (h : Blk w b t cs) (hs : 0 < cs.size) (v : Value) : (w.setCell ⟨b, 0, none⟩ v).cell? ⟨b, 0, none⟩ = some v := by
  rw [(h.set_ 0 v).cell, Array.getElem?_setIfInBounds, if_pos rfl, if_pos hs]
/-- where parsed's variables lie -/
def w73 (W : World) (g : Nat) (s : List UInt8) : World := ((W.alloc (.cells #[.pointer (some ⟨g, 0, none⟩)] 128)).alloc (.cells #[.string (str s)] 9)).alloc (.cells #[.bool false] 4)
theorem w73_size (W : World) (g : Nat) (s : List UInt8) : (w73 W g s).heap.size = W.heap.size + 3 := by simp [w73]
theorem w73_cell (W : World) (g : Nat) (s : List UInt8) : (w73 W g s).cell? ⟨W.heap.size + 1, 0, none⟩ = some (.string (str s)) := by
  unfold w73
  rw [World.cell?_alloc_lt _ _ ⟨W.heap.size + 1, 0, none⟩ (by simp), World.cell?_alloc_at _ _ _ _ (by simp)]; rfl
theorem w73_res (W : World) (g : Nat) (s : List UInt8) : Blk (w73 W g s) (W.heap.size + 2) 4 #[.bool false] := by
  have := Blk.new ((W.alloc (.cells #[.pointer (some ⟨g, 0, none⟩)] 128)).alloc (.cells #[.string (str s)] 9)) 4 #[.bool false]
  rw [show ((W.alloc (.cells #[.pointer (some ⟨g, 0, none⟩)] 128)).alloc (.cells #[.string (str s)] 9)).heap.size = W.heap.size + 2 by simp] at this
  exact this

set_option maxRecDepth 100000 in
set_option maxHeartbeats 2000000 in
theorem parsed_addr (s : List UInt8) (hs : s.length ≤ 100000000) : ParsedAt pF 97 s := by
  intro A bA bn bc lA ln lc g lo W hglo hlo hB hR hL _
  have hpf : pF A 97 s = if (undigL s).2 = true ∧ (undigL s).1.length = 20 then some { A with addr := (undigL s).1 } else none := rfl
  have hgW := hB.lt
  have hbA : Below W.heap.size W (w73 W g s) := al (al (al (Below.refl _ _) _) _) _
  have hB3 := hB.below hbA hgW
  have hsz3 := w73_size W g s
  have has := ak_size A (.slice bA bn bc) (.slice lA ln lc) hR.1
  have hfx := fixed108_calls s (W.heap.size + 1) g 1 20 (w73 W g s) hs (by omega) (w73_cell W g s) (fun W' hW' => (hB3.below hW' hB3.lt).room 1 20 (by rw [has]; omega))
  have hres := Lib.hid (fun w2 (hw2 : Below (W.heap.size + 3) (w73 W g s) w2) vs => (show Blk (w2.setCells g 1 vs) (W.heap.size + 2) 4 #[.bool false] from
    ((w73_res W g s).below hw2 (by omega)).farCells _ _ _ (by omega)))
  have HB := Lib.hid hB
  have HR := Lib.hid hR
  have HBA := Lib.hid hbA
  have HB3 := Lib.hid hB3
  have HAS := Lib.hid has
  rw [hsz3] at hfx
  by_cases hok : (undigL s).2 = true ∧ (undigL s).1.length = 20
  · have hfx2 := Lib.hid (hfx.mono (fun e w' ⟨w2, hb, h⟩ => (show ∃ w2, Below (W.heap.size + 3) (w73 W g s) w2 ∧ e = Ending.returned (.bool true) ∧ w' = w2.setCells g 1 (bvs (undigL s).1) from ⟨w2, hb, by
      rcases h with ⟨_, h1, h2⟩ | ⟨h1, _⟩
      · exact ⟨h1, h2⟩
      · exact absurd hok h1⟩)))
    rw [hpf, if_pos hok]
    have HOK := Lib.hid hok
    clear hfx hok hB hR hL hB3 has hpf hbA hsz3
    go_enter Tryd.func73, Tryd.ntmps73
    go_wp2_with (go_at_call 108; refine hfx2.out.mono ?_; rintro e w1 ⟨w2, hb2, rfl, rfl⟩; have hrs := hres.out w2 hb2 (bvs (undigL s).1); have hrc := hrs.cell 0; have hrf := hrs.frozen 0)
    have hgr : W.grownBy ((w2.setCells g 1 (bvs (undigL s).1)).setCell ⟨W.heap.size + 1 + 1, 0, none⟩ (.bool true)) (some g) := gr_new (gr_setCells (gr_then (gr_below HBA.out) (by rw [w73_size]; exact hb2)) _ _) _ _ (by omega)
    have hbl := ((HB3.out.below hb2 (by omega)).setCells (bvs (undigL s).1) 1 (by rw [bvs_length, HOK.out.2, HAS.out]; omega)).far (p := ⟨W.heap.size + 1 + 1, 0, none⟩) (by show g ≠ W.heap.size + 1 + 1; omega) (.bool true)
    rw [ovw_addr A _ _ _ HR.out.1 HOK.out.2] at hbl
    have hR0 := HR.out
    exact bodyPost_ret (results_bool1 rfl _ _ (W.heap.size + 1 + 1) (.bool true) rfl (setCell_same hrs (by simp) _)) rfl ⟨hgr, .inr ⟨rfl, _, bA, bn, bc, lA, ln, lc, rfl, hbl, ⟨⟨HOK.out.2, hR0.1.hk, hR0.1.hw, hR0.1.hr, hR0.1.hn0, hR0.1.hn1, hR0.1.hm0, hR0.1.hm1, hR0.1.hk0, hR0.1.hk1⟩, (hR0.2.1.keeps (KeepsLo.grown hgr hglo)), (hR0.2.2.keeps (KeepsLo.grown hgr hglo))⟩⟩⟩
  · have hfx2 := Lib.hid (hfx.mono (fun e w' ⟨w2, hb, h⟩ => (show ∃ w2 vs, Below (W.heap.size + 3) (w73 W g s) w2 ∧ e = Ending.returned (.bool false) ∧ w' = w2.setCells g 1 vs from by
      rcases h with ⟨h1, _⟩ | ⟨_, h1, vs, _, h2⟩
      · exact absurd h1 hok
      · exact ⟨w2, vs, hb, h1, h2⟩)))
    rw [hpf, if_neg hok]
    clear hfx hok hB hR hL hB3 has hpf hbA hsz3
    go_enter Tryd.func73, Tryd.ntmps73
    go_wp2_with (go_at_call 108; refine hfx2.out.mono ?_; rintro e w1 ⟨w2, vs, hb2, rfl, rfl⟩; have hrs := hres.out w2 hb2 vs; have hrc := hrs.cell 0; have hrf := hrs.frozen 0)
    have hgr : W.grownBy ((w2.setCells g 1 vs).setCell ⟨W.heap.size + 1 + 1, 0, none⟩ (.bool false)) (some g) := gr_new (gr_setCells (gr_then (gr_below HBA.out) (by rw [w73_size]; exact hb2)) _ _) _ _ (by omega)
    exact bodyPost_ret (results_bool1 rfl _ _ (W.heap.size + 1 + 1) (.bool false) rfl (setCell_same hrs (by simp) _)) rfl ⟨hgr, .inl ⟨rfl, by first | rfl | trivial⟩⟩

set_option maxRecDepth 100000 in
set_option maxHeartbeats 2000000 in
theorem parsed_key (s : List UInt8) (hs : s.length ≤ 100000000) : ParsedAt pF 107 s := by
  intro A bA bn bc lA ln lc g lo W hglo hlo hB hR hL _
  have hpf : pF A 107 s = if (undigL s).2 = true ∧ (undigL s).1.length = 32 then some { A with key := (undigL s).1 } else none := rfl
  have hgW := hB.lt
  have hbA : Below W.heap.size W (w73 W g s) := al (al (al (Below.refl _ _) _) _) _
  have hB3 := hB.below hbA hgW
  have hsz3 := w73_size W g s
  have has := ak_size A (.slice bA bn bc) (.slice lA ln lc) hR.1
  have hfx := fixed108_calls s (W.heap.size + 1) g 21 32 (w73 W g s) hs (by omega) (w73_cell W g s) (fun W' hW' => (hB3.below hW' hB3.lt).room 21 32 (by rw [has]; omega))
  have hres := Lib.hid (fun w2 (hw2 : Below (W.heap.size + 3) (w73 W g s) w2) vs => (show Blk (w2.setCells g 21 vs) (W.heap.size + 2) 4 #[.bool false] from
    ((w73_res W g s).below hw2 (by omega)).farCells _ _ _ (by omega)))
  have HB := Lib.hid hB
  have HR := Lib.hid hR
  have HBA := Lib.hid hbA
  have HB3 := Lib.hid hB3
  have HAS := Lib.hid has
  rw [hsz3] at hfx
  by_cases hok : (undigL s).2 = true ∧ (undigL s).1.length = 32
  · have hfx2 := Lib.hid (hfx.mono (fun e w' ⟨w2, hb, h⟩ => (show ∃ w2, Below (W.heap.size + 3) (w73 W g s) w2 ∧ e = Ending.returned (.bool true) ∧ w' = w2.setCells g 21 (bvs (undigL s).1) from ⟨w2, hb, by
      rcases h with ⟨_, h1, h2⟩ | ⟨h1, _⟩
      · exact ⟨h1, h2⟩
      · exact absurd hok h1⟩)))
    rw [hpf, if_pos hok]
    have HOK := Lib.hid hok
    clear hfx hok hB hR hL hB3 has hpf hbA hsz3
    go_enter Tryd.func73, Tryd.ntmps73
    go_wp2_with (go_at_call 108; refine hfx2.out.mono ?_; rintro e w1 ⟨w2, hb2, rfl, rfl⟩; have hrs := hres.out w2 hb2 (bvs (undigL s).1); have hrc := hrs.cell 0; have hrf := hrs.frozen 0)
    have hgr : W.grownBy ((w2.setCells g 21 (bvs (undigL s).1)).setCell ⟨W.heap.size + 1 + 1, 0, none⟩ (.bool true)) (some g) := gr_new (gr_setCells (gr_then (gr_below HBA.out) (by rw [w73_size]; exact hb2)) _ _) _ _ (by omega)
    have hbl := ((HB3.out.below hb2 (by omega)).setCells (bvs (undigL s).1) 21 (by rw [bvs_length, HOK.out.2, HAS.out]; omega)).far (p := ⟨W.heap.size + 1 + 1, 0, none⟩) (by show g ≠ W.heap.size + 1 + 1; omega) (.bool true)
    rw [ovw_key A _ _ _ HR.out.1 HOK.out.2] at hbl
    have hR0 := HR.out
    exact bodyPost_ret (results_bool1 rfl _ _ (W.heap.size + 1 + 1) (.bool true) rfl (setCell_same hrs (by simp) _)) rfl ⟨hgr, .inr ⟨rfl, _, bA, bn, bc, lA, ln, lc, rfl, hbl, ⟨⟨hR0.1.ha, HOK.out.2, hR0.1.hw, hR0.1.hr, hR0.1.hn0, hR0.1.hn1, hR0.1.hm0, hR0.1.hm1, hR0.1.hk0, hR0.1.hk1⟩, (hR0.2.1.keeps (KeepsLo.grown hgr hglo)), (hR0.2.2.keeps (KeepsLo.grown hgr hglo))⟩⟩⟩
  · have hfx2 := Lib.hid (hfx.mono (fun e w' ⟨w2, hb, h⟩ => (show ∃ w2 vs, Below (W.heap.size + 3) (w73 W g s) w2 ∧ e = Ending.returned (.bool false) ∧ w' = w2.setCells g 21 vs from by
      rcases h with ⟨h1, _⟩ | ⟨_, h1, vs, _, h2⟩
      · exact absurd h1 hok
      · exact ⟨w2, vs, hb, h1, h2⟩)))
    rw [hpf, if_neg hok]
    clear hfx hok hB hR hL hB3 has hpf hbA hsz3
    go_enter Tryd.func73, Tryd.ntmps73
    go_wp2_with (go_at_call 108; refine hfx2.out.mono ?_; rintro e w1 ⟨w2, vs, hb2, rfl, rfl⟩; have hrs := hres.out w2 hb2 vs; have hrc := hrs.cell 0; have hrf := hrs.frozen 0)
    have hgr : W.grownBy ((w2.setCells g 21 vs).setCell ⟨W.heap.size + 1 + 1, 0, none⟩ (.bool false)) (some g) := gr_new (gr_setCells (gr_then (gr_below HBA.out) (by rw [w73_size]; exact hb2)) _ _) _ _ (by omega)
    exact bodyPost_ret (results_bool1 rfl _ _ (W.heap.size + 1 + 1) (.bool false) rfl (setCell_same hrs (by simp) _)) rfl ⟨hgr, .inl ⟨rfl, by first | rfl | trivial⟩⟩

set_option maxRecDepth 100000 in
set_option maxHeartbeats 2000000 in
theorem parsed_word (s : List UInt8) (hs : s.length ≤ 100000000) : ParsedAt pF 119 s := by
  intro A bA bn bc lA ln lc g lo W hglo hlo hB hR hL _
  have hpf : pF A 119 s = if (undigL s).2 = true ∧ (undigL s).1.length = 32 then some { A with word := (undigL s).1 } else none := rfl
  have hgW := hB.lt
  have hbA : Below W.heap.size W (w73 W g s) := al (al (al (Below.refl _ _) _) _) _
  have hB3 := hB.below hbA hgW
  have hsz3 := w73_size W g s
  have has := ak_size A (.slice bA bn bc) (.slice lA ln lc) hR.1
  have hfx := fixed108_calls s (W.heap.size + 1) g 53 32 (w73 W g s) hs (by omega) (w73_cell W g s) (fun W' hW' => (hB3.below hW' hB3.lt).room 53 32 (by rw [has]; omega))
  have hres := Lib.hid (fun w2 (hw2 : Below (W.heap.size + 3) (w73 W g s) w2) vs => (show Blk (w2.setCells g 53 vs) (W.heap.size + 2) 4 #[.bool false] from
    ((w73_res W g s).below hw2 (by omega)).farCells _ _ _ (by omega)))
  have HB := Lib.hid hB
  have HR := Lib.hid hR
  have HBA := Lib.hid hbA
  have HB3 := Lib.hid hB3
  have HAS := Lib.hid has
  rw [hsz3] at hfx
  by_cases hok : (undigL s).2 = true ∧ (undigL s).1.length = 32
  · have hfx2 := Lib.hid (hfx.mono (fun e w' ⟨w2, hb, h⟩ => (show ∃ w2, Below (W.heap.size + 3) (w73 W g s) w2 ∧ e = Ending.returned (.bool true) ∧ w' = w2.setCells g 53 (bvs (undigL s).1) from ⟨w2, hb, by
      rcases h with ⟨_, h1, h2⟩ | ⟨h1, _⟩
      · exact ⟨h1, h2⟩
      · exact absurd hok h1⟩)))
    rw [hpf, if_pos hok]
    have HOK := Lib.hid hok
    clear hfx hok hB hR hL hB3 has hpf hbA hsz3
    go_enter Tryd.func73, Tryd.ntmps73
    go_wp2_with (go_at_call 108; refine hfx2.out.mono ?_; rintro e w1 ⟨w2, hb2, rfl, rfl⟩; have hrs := hres.out w2 hb2 (bvs (undigL s).1); have hrc := hrs.cell 0; have hrf := hrs.frozen 0)
    have hgr : W.grownBy ((w2.setCells g 53 (bvs (undigL s).1)).setCell ⟨W.heap.size + 1 + 1, 0, none⟩ (.bool true)) (some g) := gr_new (gr_setCells (gr_then (gr_below HBA.out) (by rw [w73_size]; exact hb2)) _ _) _ _ (by omega)
    have hbl := ((HB3.out.below hb2 (by omega)).setCells (bvs (undigL s).1) 53 (by rw [bvs_length, HOK.out.2, HAS.out]; omega)).far (p := ⟨W.heap.size + 1 + 1, 0, none⟩) (by show g ≠ W.heap.size + 1 + 1; omega) (.bool true)
    rw [ovw_word A _ _ _ HR.out.1 HOK.out.2] at hbl
    have hR0 := HR.out
    exact bodyPost_ret (results_bool1 rfl _ _ (W.heap.size + 1 + 1) (.bool true) rfl (setCell_same hrs (by simp) _)) rfl ⟨hgr, .inr ⟨rfl, _, bA, bn, bc, lA, ln, lc, rfl, hbl, ⟨⟨hR0.1.ha, hR0.1.hk, HOK.out.2, hR0.1.hr, hR0.1.hn0, hR0.1.hn1, hR0.1.hm0, hR0.1.hm1, hR0.1.hk0, hR0.1.hk1⟩, (hR0.2.1.keeps (KeepsLo.grown hgr hglo)), (hR0.2.2.keeps (KeepsLo.grown hgr hglo))⟩⟩⟩
  · have hfx2 := Lib.hid (hfx.mono (fun e w' ⟨w2, hb, h⟩ => (show ∃ w2 vs, Below (W.heap.size + 3) (w73 W g s) w2 ∧ e = Ending.returned (.bool false) ∧ w' = w2.setCells g 53 vs from by
      rcases h with ⟨h1, _⟩ | ⟨_, h1, vs, _, h2⟩
      · exact absurd h1 hok
      · exact ⟨w2, vs, hb, h1, h2⟩)))
    rw [hpf, if_neg hok]
    clear hfx hok hB hR hL hB3 has hpf hbA hsz3
    go_enter Tryd.func73, Tryd.ntmps73
    go_wp2_with (go_at_call 108; refine hfx2.out.mono ?_; rintro e w1 ⟨w2, vs, hb2, rfl, rfl⟩; have hrs := hres.out w2 hb2 vs; have hrc := hrs.cell 0; have hrf := hrs.frozen 0)
    have hgr : W.grownBy ((w2.setCells g 53 vs).setCell ⟨W.heap.size + 1 + 1, 0, none⟩ (.bool false)) (some g) := gr_new (gr_setCells (gr_then (gr_below HBA.out) (by rw [w73_size]; exact hb2)) _ _) _ _ (by omega)
    exact bodyPost_ret (results_bool1 rfl _ _ (W.heap.size + 1 + 1) (.bool false) rfl (setCell_same hrs (by simp) _)) rfl ⟨hgr, .inl ⟨rfl, by first | rfl | trivial⟩⟩

set_option maxRecDepth 100000 in
set_option maxHeartbeats 2000000 in
theorem parsed_root (s : List UInt8) (hs : s.length ≤ 100000000) : ParsedAt pF 114 s := by
  intro A bA bn bc lA ln lc g lo W hglo hlo hB hR hL _
  have hpf : pF A 114 s = if (undigL s).2 = true ∧ (undigL s).1.length = 32 then some { A with root := (undigL s).1 } else none := rfl
  have hgW := hB.lt
  have hbA : Below W.heap.size W (w73 W g s) := al (al (al (Below.refl _ _) _) _) _
  have hB3 := hB.below hbA hgW
  have hsz3 := w73_size W g s
  have has := ak_size A (.slice bA bn bc) (.slice lA ln lc) hR.1
  have hfx := fixed108_calls s (W.heap.size + 1) g 85 32 (w73 W g s) hs (by omega) (w73_cell W g s) (fun W' hW' => (hB3.below hW' hB3.lt).room 85 32 (by rw [has]; omega))
  have hres := Lib.hid (fun w2 (hw2 : Below (W.heap.size + 3) (w73 W g s) w2) vs => (show Blk (w2.setCells g 85 vs) (W.heap.size + 2) 4 #[.bool false] from
    ((w73_res W g s).below hw2 (by omega)).farCells _ _ _ (by omega)))
  have HB := Lib.hid hB
  have HR := Lib.hid hR
  have HBA := Lib.hid hbA
  have HB3 := Lib.hid hB3
  have HAS := Lib.hid has
  rw [hsz3] at hfx
  by_cases hok : (undigL s).2 = true ∧ (undigL s).1.length = 32
  · have hfx2 := Lib.hid (hfx.mono (fun e w' ⟨w2, hb, h⟩ => (show ∃ w2, Below (W.heap.size + 3) (w73 W g s) w2 ∧ e = Ending.returned (.bool true) ∧ w' = w2.setCells g 85 (bvs (undigL s).1) from ⟨w2, hb, by
      rcases h with ⟨_, h1, h2⟩ | ⟨h1, _⟩
      · exact ⟨h1, h2⟩
      · exact absurd hok h1⟩)))
    rw [hpf, if_pos hok]
    have HOK := Lib.hid hok
    clear hfx hok hB hR hL hB3 has hpf hbA hsz3
    go_enter Tryd.func73, Tryd.ntmps73
    go_wp2_with (go_at_call 108; refine hfx2.out.mono ?_; rintro e w1 ⟨w2, hb2, rfl, rfl⟩; have hrs := hres.out w2 hb2 (bvs (undigL s).1); have hrc := hrs.cell 0; have hrf := hrs.frozen 0)
    have hgr : W.grownBy ((w2.setCells g 85 (bvs (undigL s).1)).setCell ⟨W.heap.size + 1 + 1, 0, none⟩ (.bool true)) (some g) := gr_new (gr_setCells (gr_then (gr_below HBA.out) (by rw [w73_size]; exact hb2)) _ _) _ _ (by omega)
    have hbl := ((HB3.out.below hb2 (by omega)).setCells (bvs (undigL s).1) 85 (by rw [bvs_length, HOK.out.2, HAS.out]; omega)).far (p := ⟨W.heap.size + 1 + 1, 0, none⟩) (by show g ≠ W.heap.size + 1 + 1; omega) (.bool true)
    rw [ovw_root A _ _ _ HR.out.1 HOK.out.2] at hbl
    have hR0 := HR.out
    exact bodyPost_ret (results_bool1 rfl _ _ (W.heap.size + 1 + 1) (.bool true) rfl (setCell_same hrs (by simp) _)) rfl ⟨hgr, .inr ⟨rfl, _, bA, bn, bc, lA, ln, lc, rfl, hbl, ⟨⟨hR0.1.ha, hR0.1.hk, hR0.1.hw, HOK.out.2, hR0.1.hn0, hR0.1.hn1, hR0.1.hm0, hR0.1.hm1, hR0.1.hk0, hR0.1.hk1⟩, (hR0.2.1.keeps (KeepsLo.grown hgr hglo)), (hR0.2.2.keeps (KeepsLo.grown hgr hglo))⟩⟩⟩
  · have hfx2 := Lib.hid (hfx.mono (fun e w' ⟨w2, hb, h⟩ => (show ∃ w2 vs, Below (W.heap.size + 3) (w73 W g s) w2 ∧ e = Ending.returned (.bool false) ∧ w' = w2.setCells g 85 vs from by
      rcases h with ⟨h1, _⟩ | ⟨_, h1, vs, _, h2⟩
      · exact absurd h1 hok
      · exact ⟨w2, vs, hb, h1, h2⟩)))
    rw [hpf, if_neg hok]
    clear hfx hok hB hR hL hB3 has hpf hbA hsz3
    go_enter Tryd.func73, Tryd.ntmps73
    go_wp2_with (go_at_call 108; refine hfx2.out.mono ?_; rintro e w1 ⟨w2, vs, hb2, rfl, rfl⟩; have hrs := hres.out w2 hb2 vs; have hrc := hrs.cell 0; have hrf := hrs.frozen 0)
    have hgr : W.grownBy ((w2.setCells g 85 vs).setCell ⟨W.heap.size + 1 + 1, 0, none⟩ (.bool false)) (some g) := gr_new (gr_setCells (gr_then (gr_below HBA.out) (by rw [w73_size]; exact hb2)) _ _) _ _ (by omega)
    exact bodyPost_ret (results_bool1 rfl _ _ (W.heap.size + 1 + 1) (.bool false) rfl (setCell_same hrs (by simp) _)) rfl ⟨hgr, .inl ⟨rfl, by first | rfl | trivial⟩⟩

end Go.Proofs.YtfjfjjcdlgdbcaaDoor
namespace Go.Proofs.YtfjfjjcdlgdbcaaDoor
open Go.RowKit
set_option linter.unusedSimpArgs false
set_option linter.unusedVariables false

theorem RdBx.weaken {w : World} {lo lo' : Nat} {A : Option Addr} {n c : Nat} {xs : List UInt8} (h : RdBx w lo' A n c xs) (hl : lo ≤ lo') : RdBx w lo A n c xs :=
  ⟨h.1, fun ad e => ⟨Nat.le_trans hl (h.2 ad e).1, (h.2 ad e).2⟩⟩
theorem keeps_two (w : World) (g b off lo : Nat) (u v : Value) (hg : g < lo) (hb : b < lo) : KeepsLo lo w ((w.setCell ⟨g, off, none⟩ u).setCell ⟨b, 0, none⟩ v) := by
  refine ⟨?_, fun i h1 h2 => ?_⟩
  · have := setCells_size [v] 0 (w.setCell ⟨g, off, none⟩ u) b
    have h3 := setCells_size [u] off w g
    simp only [World.setCells] at this h3
    omega
  · rw [Below.heap_setCell _ ⟨b, 0, none⟩ v i (by show i ≠ b; omega), Below.heap_setCell _ ⟨g, off, none⟩ u i (by show i ≠ g; omega)]

set_option maxRecDepth 100000 in
set_option maxHeartbeats 2000000 in
theorem parsed_n (s : List UInt8) (hs : s.length ≤ 100000000) : ParsedAt pF 110 s := by
  intro A bA bn bc lA ln lc g lo W hglo hlo hB hR hL _
  have hpf : pF A 110 s = (numL s).map fun n => { A with n := n } := rfl
  have hgW := hB.lt
  have hbA : Below W.heap.size W (w73 W g s) := al (al (al (Below.refl _ _) _) _) _
  have hB3 := hB.below hbA hgW
  have hsz3 := w73_size W g s
  have has := ak_size A (.slice bA bn bc) (.slice lA ln lc) hR.1
  have hfx := number106_calls s (W.heap.size + 1) g 117 (w73 W g s) hs (hL.below hbA) (w73_cell W g s) (by omega) (fun W' hW' => (hB3.below hW' hB3.lt).room 117 1 (by rw [has]; omega))
    (fun W' n hW' => LaidW.set ((hL.below hbA).below hW') (hB3.below hW' hB3.lt) has 117 (by omega) _)
  have hres := Lib.hid (fun w2 n w' (hw2 : Below (W.heap.size + 3) (w73 W g s) w2) (hw' : Below (w2.setCell ⟨g, 117, none⟩ (.int .i64 n)).heap.size (w2.setCell ⟨g, 117, none⟩ (.int .i64 n)) w') => (show Blk w' (W.heap.size + 2) 4 #[.bool false] from by
    have h1 := ((w73_res W g s).below hw2 (by omega)).far (p := ⟨g, 117, none⟩) (by show W.heap.size + 2 ≠ g; omega) (.int .i64 n)
    exact h1.below hw' h1.lt))
  have hgb := Lib.hid (fun w2 n w' (hw2 : Below (W.heap.size + 3) (w73 W g s) w2) (hw' : Below (w2.setCell ⟨g, 117, none⟩ (.int .i64 n)).heap.size (w2.setCell ⟨g, 117, none⟩ (.int .i64 n)) w') => (show Blk w' g 64 (ak { A with n := n } (.slice bA bn bc) (.slice lA ln lc)) from by
    have h1 := (hB3.below hw2 (by omega)).set_ 117 (.int .i64 n)
    rw [set_n A _ _ _ hR.1] at h1
    exact h1.below hw' h1.lt))
  have hgr := Lib.hid (fun w2 n w' b (hw2 : Below (W.heap.size + 3) (w73 W g s) w2) (hw' : Below (w2.setCell ⟨g, 117, none⟩ (.int .i64 n)).heap.size (w2.setCell ⟨g, 117, none⟩ (.int .i64 n)) w') => (show W.grownBy (w'.setCell ⟨W.heap.size + 1 + 1, 0, none⟩ (.bool b)) (some g) from
    gr_new (gr_then (gr_setCell (gr_then (gr_below hbA) (by rw [w73_size]; exact hw2)) _ _) hw') _ _ (by omega)))
  have HR := Lib.hid hR
  rw [hsz3] at hfx
  cases hn : numL s with
  | some n =>
    have hfx2 := Lib.hid (hfx.mono (fun e w' ⟨w2, n', hb, hb', h⟩ => (show ∃ w2, Below (W.heap.size + 3) (w73 W g s) w2 ∧ Below (w2.setCell ⟨g, 117, none⟩ (.int .i64 n)).heap.size (w2.setCell ⟨g, 117, none⟩ (.int .i64 n)) w' ∧ (-9223372036854775808 ≤ n ∧ n ≤ 9223372036854775807) ∧ e = Ending.returned (.bool true) from by
      rcases h with ⟨h1, h2, h3⟩ | ⟨h1, _⟩
      · have : n' = n := by rw [hn] at h1; exact (Option.some.inj h1).symm
        subst this
        exact ⟨w2, hb, hb', h2, h3⟩
      · rw [hn] at h1; cases h1)))
    rw [hpf, hn]
    simp only [Option.map_some]
    clear hfx hB hR hL hB3 has hpf hbA hsz3 hn
    go_enter Tryd.func73, Tryd.ntmps73
    go_wp2_with (go_at_call 106; refine hfx2.out.mono ?_; rintro e w1 ⟨w2, hb2, hb3, hbd, rfl⟩; have hrs := hres.out w2 n w1 hb2 hb3; have hrc := hrs.cell 0; have hrf := hrs.frozen 0)
    have hgg := hgr.out w2 n w1 true hb2 hb3
    have hbl := (hgb.out w2 n w1 hb2 hb3).far (p := ⟨W.heap.size + 1 + 1, 0, none⟩) (by show g ≠ W.heap.size + 1 + 1; omega) (.bool true)
    have hR0 := HR.out
    exact bodyPost_ret (results_bool1 rfl _ _ (W.heap.size + 1 + 1) (.bool true) rfl (setCell_same hrs (by simp) _)) rfl ⟨hgg, .inr ⟨rfl, _, bA, bn, bc, lA, ln, lc, rfl, hbl, ⟨⟨hR0.1.ha, hR0.1.hk, hR0.1.hw, hR0.1.hr, hbd.1, hbd.2, hR0.1.hm0, hR0.1.hm1, hR0.1.hk0, hR0.1.hk1⟩, (hR0.2.1.keeps (KeepsLo.grown hgg hglo)), (hR0.2.2.keeps (KeepsLo.grown hgg hglo))⟩⟩⟩
  | none =>
    have hfx2 := Lib.hid (hfx.mono (fun e w' ⟨w2, n', hb, hb', h⟩ => (show ∃ w2 n, Below (W.heap.size + 3) (w73 W g s) w2 ∧ Below (w2.setCell ⟨g, 117, none⟩ (.int .i64 n)).heap.size (w2.setCell ⟨g, 117, none⟩ (.int .i64 n)) w' ∧ e = Ending.returned (.bool false) from by
      rcases h with ⟨h1, _⟩ | ⟨_, h1⟩
      · rw [hn] at h1; cases h1
      · exact ⟨w2, n', hb, hb', h1⟩)))
    rw [hpf, hn]
    simp only [Option.map_none]
    clear hfx hB hR hL hB3 has hpf hbA hsz3 hn
    go_enter Tryd.func73, Tryd.ntmps73
    go_wp2_with (go_at_call 106; refine hfx2.out.mono ?_; rintro e w1 ⟨w2, n, hb2, hb3, rfl⟩; have hrs := hres.out w2 n w1 hb2 hb3; have hrc := hrs.cell 0; have hrf := hrs.frozen 0)
    have hgg := hgr.out w2 n w1 false hb2 hb3
    exact bodyPost_ret (results_bool1 rfl _ _ (W.heap.size + 1 + 1) (.bool false) rfl (setCell_same hrs (by simp) _)) rfl ⟨hgg, .inl ⟨rfl, by first | rfl | trivial⟩⟩

set_option maxRecDepth 100000 in
set_option maxHeartbeats 2000000 in
theorem parsed_m (s : List UInt8) (hs : s.length ≤ 100000000) : ParsedAt pF 109 s := by
  intro A bA bn bc lA ln lc g lo W hglo hlo hB hR hL _
  have hpf : pF A 109 s = (numL s).map fun n => { A with m := n } := rfl
  have hgW := hB.lt
  have hbA : Below W.heap.size W (w73 W g s) := al (al (al (Below.refl _ _) _) _) _
  have hB3 := hB.below hbA hgW
  have hsz3 := w73_size W g s
  have has := ak_size A (.slice bA bn bc) (.slice lA ln lc) hR.1
  have hfx := number106_calls s (W.heap.size + 1) g 118 (w73 W g s) hs (hL.below hbA) (w73_cell W g s) (by omega) (fun W' hW' => (hB3.below hW' hB3.lt).room 118 1 (by rw [has]; omega))
    (fun W' n hW' => LaidW.set ((hL.below hbA).below hW') (hB3.below hW' hB3.lt) has 118 (by omega) _)
  have hres := Lib.hid (fun w2 n w' (hw2 : Below (W.heap.size + 3) (w73 W g s) w2) (hw' : Below (w2.setCell ⟨g, 118, none⟩ (.int .i64 n)).heap.size (w2.setCell ⟨g, 118, none⟩ (.int .i64 n)) w') => (show Blk w' (W.heap.size + 2) 4 #[.bool false] from by
    have h1 := ((w73_res W g s).below hw2 (by omega)).far (p := ⟨g, 118, none⟩) (by show W.heap.size + 2 ≠ g; omega) (.int .i64 n)
    exact h1.below hw' h1.lt))
  have hgb := Lib.hid (fun w2 n w' (hw2 : Below (W.heap.size + 3) (w73 W g s) w2) (hw' : Below (w2.setCell ⟨g, 118, none⟩ (.int .i64 n)).heap.size (w2.setCell ⟨g, 118, none⟩ (.int .i64 n)) w') => (show Blk w' g 64 (ak { A with m := n } (.slice bA bn bc) (.slice lA ln lc)) from by
    have h1 := (hB3.below hw2 (by omega)).set_ 118 (.int .i64 n)
    rw [set_m A _ _ _ hR.1] at h1
    exact h1.below hw' h1.lt))
  have hgr := Lib.hid (fun w2 n w' b (hw2 : Below (W.heap.size + 3) (w73 W g s) w2) (hw' : Below (w2.setCell ⟨g, 118, none⟩ (.int .i64 n)).heap.size (w2.setCell ⟨g, 118, none⟩ (.int .i64 n)) w') => (show W.grownBy (w'.setCell ⟨W.heap.size + 1 + 1, 0, none⟩ (.bool b)) (some g) from
    gr_new (gr_then (gr_setCell (gr_then (gr_below hbA) (by rw [w73_size]; exact hw2)) _ _) hw') _ _ (by omega)))
  have HR := Lib.hid hR
  rw [hsz3] at hfx
  cases hn : numL s with
  | some n =>
    have hfx2 := Lib.hid (hfx.mono (fun e w' ⟨w2, n', hb, hb', h⟩ => (show ∃ w2, Below (W.heap.size + 3) (w73 W g s) w2 ∧ Below (w2.setCell ⟨g, 118, none⟩ (.int .i64 n)).heap.size (w2.setCell ⟨g, 118, none⟩ (.int .i64 n)) w' ∧ (-9223372036854775808 ≤ n ∧ n ≤ 9223372036854775807) ∧ e = Ending.returned (.bool true) from by
      rcases h with ⟨h1, h2, h3⟩ | ⟨h1, _⟩
      · have : n' = n := by rw [hn] at h1; exact (Option.some.inj h1).symm
        subst this
        exact ⟨w2, hb, hb', h2, h3⟩
      · rw [hn] at h1; cases h1)))
    rw [hpf, hn]
    simp only [Option.map_some]
    clear hfx hB hR hL hB3 has hpf hbA hsz3 hn
    go_enter Tryd.func73, Tryd.ntmps73
    go_wp2_with (go_at_call 106; refine hfx2.out.mono ?_; rintro e w1 ⟨w2, hb2, hb3, hbd, rfl⟩; have hrs := hres.out w2 n w1 hb2 hb3; have hrc := hrs.cell 0; have hrf := hrs.frozen 0)
    have hgg := hgr.out w2 n w1 true hb2 hb3
    have hbl := (hgb.out w2 n w1 hb2 hb3).far (p := ⟨W.heap.size + 1 + 1, 0, none⟩) (by show g ≠ W.heap.size + 1 + 1; omega) (.bool true)
    have hR0 := HR.out
    exact bodyPost_ret (results_bool1 rfl _ _ (W.heap.size + 1 + 1) (.bool true) rfl (setCell_same hrs (by simp) _)) rfl ⟨hgg, .inr ⟨rfl, _, bA, bn, bc, lA, ln, lc, rfl, hbl, ⟨⟨hR0.1.ha, hR0.1.hk, hR0.1.hw, hR0.1.hr, hR0.1.hn0, hR0.1.hn1, hbd.1, hbd.2, hR0.1.hk0, hR0.1.hk1⟩, (hR0.2.1.keeps (KeepsLo.grown hgg hglo)), (hR0.2.2.keeps (KeepsLo.grown hgg hglo))⟩⟩⟩
  | none =>
    have hfx2 := Lib.hid (hfx.mono (fun e w' ⟨w2, n', hb, hb', h⟩ => (show ∃ w2 n, Below (W.heap.size + 3) (w73 W g s) w2 ∧ Below (w2.setCell ⟨g, 118, none⟩ (.int .i64 n)).heap.size (w2.setCell ⟨g, 118, none⟩ (.int .i64 n)) w' ∧ e = Ending.returned (.bool false) from by
      rcases h with ⟨h1, _⟩ | ⟨_, h1⟩
      · rw [hn] at h1; cases h1
      · exact ⟨w2, n', hb, hb', h1⟩)))
    rw [hpf, hn]
    simp only [Option.map_none]
    clear hfx hB hR hL hB3 has hpf hbA hsz3 hn
    go_enter Tryd.func73, Tryd.ntmps73
    go_wp2_with (go_at_call 106; refine hfx2.out.mono ?_; rintro e w1 ⟨w2, n, hb2, hb3, rfl⟩; have hrs := hres.out w2 n w1 hb2 hb3; have hrc := hrs.cell 0; have hrf := hrs.frozen 0)
    have hgg := hgr.out w2 n w1 false hb2 hb3
    exact bodyPost_ret (results_bool1 rfl _ _ (W.heap.size + 1 + 1) (.bool false) rfl (setCell_same hrs (by simp) _)) rfl ⟨hgg, .inl ⟨rfl, by first | rfl | trivial⟩⟩

set_option maxRecDepth 100000 in
set_option maxHeartbeats 2000000 in
theorem parsed_b (s : List UInt8) (hs : s.length ≤ 100000000) : ParsedAt pF 98 s := by
  intro A bA bn bc lA ln lc g lo W hglo hlo hB hR hL _
  have hpf : pF A 98 s = if (undigL s).2 = true then some { A with b := (undigL s).1 } else none := rfl
  have hgW := hB.lt
  have hbA : Below W.heap.size W (w73 W g s) := al (al (al (Below.refl _ _) _) _) _
  have hB3 := hB.below hbA hgW
  have hsz3 := w73_size W g s
  have has := ak_size A (.slice bA bn bc) (.slice lA ln lc) hR.1
  have hud := Lib.hid (undigits_calls s (w73 W g s) hs)
  have hcg := Lib.hid (fun w2 (hw2 : Below (w73 W g s).heap.size (w73 W g s) w2) => (show w2.cell? ⟨g, 119, none⟩ = some (.slice bA bn bc) ∧ w2.frozen? ⟨g, 119, none⟩ = false from
    ⟨by rw [(hB3.below hw2 hB3.lt).cell]; exact ak_tail A _ _ hR.1 2, (hB3.below hw2 hB3.lt).frozen 119⟩))
  have hcp := Lib.hid (fun w2 (hw2 : Below (w73 W g s).heap.size (w73 W g s) w2) => (show w2.cell? ⟨W.heap.size, 0, none⟩ = some (.pointer (some ⟨g, 0, none⟩)) from cell_below' hw2 (by
    unfold w73
    rw [World.cell?_alloc_lt _ _ ⟨W.heap.size, 0, none⟩ (by simp; omega), World.cell?_alloc_lt _ _ ⟨W.heap.size, 0, none⟩ (by simp), World.cell?_alloc_at _ _ _ _ rfl]; rfl)))
  have hres := Lib.hid (fun w2 v (hw2 : Below (w73 W g s).heap.size (w73 W g s) w2) => (show Blk (w2.setCell ⟨g, 119, none⟩ v) (W.heap.size + 2) 4 #[.bool false] from
    ((w73_res W g s).below hw2 (by omega)).far (p := ⟨g, 119, none⟩) (by show W.heap.size + 2 ≠ g; omega) v))
  have hgb := Lib.hid (fun w2 xs b' (hw2 : Below (w73 W g s).heap.size (w73 W g s) w2) => (show Blk (w2.setCell ⟨g, 119, none⟩ b') g 64 (ak { A with b := xs } b' (.slice lA ln lc)) from by
    have h1 := (hB3.below hw2 hB3.lt).set_ 119 b'
    rw [set_b A _ _ _ xs hR.1] at h1
    exact h1))
  have hgr := Lib.hid (fun w2 v b (hw2 : Below (w73 W g s).heap.size (w73 W g s) w2) => (show W.grownBy ((w2.setCell ⟨g, 119, none⟩ v).setCell ⟨W.heap.size + 1 + 1, 0, none⟩ (.bool b)) (some g) from
    gr_new (gr_setCell (gr_then (gr_below hbA) hw2) _ _) _ _ (by omega)))
  have HR := Lib.hid hR
  rw [hpf]
  generalize undigL s = u at *
  obtain ⟨bs, ok⟩ := u
  simp only at hud ⊢
  clear hB hR hL hB3 has hpf hbA
  cases ok with
  | true =>
    go_enter Tryd.func73, Tryd.ntmps73
    go_wp2_with (go_at_call 109; refine hud.out.mono ?_; rintro e w1 ⟨⟨v, rfl, ho⟩, hb1⟩; obtain ⟨A1, c1, rfl, hr1⟩ := ho.reads; have hrs := hres.out w1 (.slice A1 bs.length c1) hb1; have hrc := hrs.cell 0; have hrf := hrs.frozen 0; have hg1 := hcg.out w1 hb1; have hp1 := hcp.out w1 hb1)
    have hgg := hgr.out w1 (.slice A1 bs.length c1) true hb1
    have hbl := (hgb.out w1 bs (.slice A1 bs.length c1) hb1).far (p := ⟨W.heap.size + 1 + 1, 0, none⟩) (by show g ≠ W.heap.size + 1 + 1; omega) (.bool true)
    have hR0 := HR.out
    have hbx : RdBx w1 (W.heap.size + 3) A1 bs.length c1 bs := ⟨hr1, fun ad e => by
      subst e
      have := ho.block ad.block rfl
      rw [hsz3] at this
      exact this⟩
    refine bodyPost_ret (results_bool1 rfl _ _ (W.heap.size + 1 + 1) (.bool true) rfl (setCell_same hrs (by simp) _)) rfl ⟨hgg, ?_⟩
    refine ⟨rfl, A1, bs.length, c1, lA, ln, lc, hbl, ⟨⟨hR0.1.ha, hR0.1.hk, hR0.1.hw, hR0.1.hr, hR0.1.hn0, hR0.1.hn1, hR0.1.hm0, hR0.1.hm1, hR0.1.hk0, hR0.1.hk1⟩, ?_, (hR0.2.2.keeps (KeepsLo.grown hgg hglo))⟩⟩
    exact (hbx.keeps (keeps_two w1 g (W.heap.size + 1 + 1) 119 (W.heap.size + 3) _ _ (by omega) (by omega))).weaken (by omega)
  | false =>
    go_enter Tryd.func73, Tryd.ntmps73
    go_wp2_with (go_at_call 109; refine hud.out.mono ?_; rintro e w1 ⟨⟨v, rfl, ho⟩, hb1⟩; obtain ⟨A1, c1, rfl, hr1⟩ := ho.reads; have hrs := hres.out w1 (.slice A1 bs.length c1) hb1; have hrc := hrs.cell 0; have hrf := hrs.frozen 0; have hg1 := hcg.out w1 hb1; have hp1 := hcp.out w1 hb1)
    have hgg := hgr.out w1 (.slice A1 bs.length c1) false hb1
    exact bodyPost_ret (results_bool1 rfl _ _ (W.heap.size + 1 + 1) (.bool false) rfl (setCell_same hrs (by simp) _)) rfl ⟨hgg, by first | rfl | trivial | exact .inl ⟨rfl, rfl⟩⟩
end Go.Proofs.YtfjfjjcdlgdbcaaDoor
namespace Go.Proofs
open Go.Shelf
def Tryd.lays143_ren : Go.Shelf.Ren := ⟨fun | 143 => 127 | 219 => 145 | 217 => 163 | 225 => 164 | 224 => 165 | 267 => 166 | 266 => 171 | 314 => 172 | n => n, fun | 9 => 9 | 3 => 3 | 4 => 4 | 5 => 5 | 46 => 136 | 146 => 214 | 51 => 188 | n => n, fun | 1 => 1 | n => n⟩
theorem Tryd.lays143 : Go.Proofs.Lays.n143 Tryd.prog Tryd.lays143_ren := {
  mixed := by kernel_rfl
  f143 := Tryd.func127.trans (congrArg some (by kernel_rfl))
  f217 := Tryd.func163.trans (congrArg some (by kernel_rfl))
  f219 := Tryd.func145.trans (congrArg some (by kernel_rfl))
  f224 := Tryd.func165.trans (congrArg some (by kernel_rfl))
  f225 := Tryd.func164.trans (congrArg some (by kernel_rfl))
  f266 := Tryd.func171.trans (congrArg some (by kernel_rfl))
  f267 := Tryd.func166.trans (congrArg some (by kernel_rfl))
  f314 := Tryd.func172.trans (congrArg some (by kernel_rfl))
  t3 := Tryd.underlying3
  a3 := Tryd.isAgg3
  z3 := Tryd.sizeOf3
  v3 := Tryd.zeroValue3
  t4 := Tryd.underlying4
  a4 := Tryd.isAgg4
  z4 := Tryd.sizeOf4
  v4 := Tryd.zeroValue4
  t5 := Tryd.underlying5
  a5 := Tryd.isAgg5
  z5 := Tryd.sizeOf5
  v5 := Tryd.zeroValue5
  t9 := Tryd.underlying9
  a9 := Tryd.isAgg9
  z9 := Tryd.sizeOf9
  v9 := Tryd.zeroValue9
  t46 := Tryd.underlying136
  a46 := Tryd.isAgg136
  z46 := Tryd.sizeOf136
  v46 := Tryd.zeroValue136
  t51 := Tryd.underlying188
  a51 := Tryd.isAgg188
  z51 := Tryd.sizeOf188
  v51 := Tryd.zeroValue188
  t146 := Tryd.underlying214
  a146 := Tryd.isAgg214
  z146 := Tryd.sizeOf214
  v146 := Tryd.zeroValue214
  g1 := by kernel_rfl }
open Go.RowKit Go.Lib in
theorem Tryd.strings_Index_one (s : ByteArray) (c : UInt8) (w : World) :
    Calls Tryd.prog 127 #[.string s, .string ⟨#[c]⟩] w fun e w' => e = .returned (.int .i64 (Lib.indexByte s.data.toList c)) ∧ w' = w := Any.strings_Index_one Tryd.lays143 s c w
end Go.Proofs
namespace Go.Proofs.YtfjfjjcdlgdbcaaDoor
open Go.RowKit Go.Shelf
set_option linter.unusedSimpArgs false
set_option linter.unusedVariables false

theorem idxB_cons_ne (b c : UInt8) (l : List UInt8) (h : ¬ b = c) : Lib.indexByte (b :: l) c = if Lib.indexByte l c = -1 then -1 else Lib.indexByte l c + 1 := by
  rw [Lib.indexByte, if_neg (by simpa using h)]
  by_cases hm : Lib.indexByte l c = -1
  · rw [hm]; rfl
  · rw [if_neg (by simpa using hm), if_neg hm]
theorem splitL_miss (c : UInt8) : ∀ t : List UInt8, Lib.indexByte t c = -1 → splitL c t = [t]
  | [], _ => rfl
  | b :: l, h => by
    have hge := Lib.indexByte_ge l c
    by_cases hb : b = c
    · subst hb
      rw [Lib.indexByte, if_pos (by simp)] at h
      omega
    · rw [idxB_cons_ne b c l hb] at h
      split at h
      · rename_i hm
        rw [splitL, if_neg hb, splitL_miss c l hm]
        rfl
      · omega
theorem splitL_hit (c : UInt8) : ∀ (t : List UInt8) (i : Nat), Lib.indexByte t c = (i : Int) → splitL c t = t.take i :: splitL c (t.drop (i + 1)) ∧ i < t.length
  | [], i, h => by rw [Lib.indexByte] at h; omega
  | b :: l, i, h => by
    have hge := Lib.indexByte_ge l c
    by_cases hb : b = c
    · subst hb
      rw [Lib.indexByte, if_pos (by simp)] at h
      obtain rfl : i = 0 := by omega
      rw [splitL, if_pos rfl]
      simp
    · rw [idxB_cons_ne b c l hb] at h
      split at h
      · omega
      · obtain ⟨j, rfl⟩ : ∃ j, i = j + 1 := ⟨i - 1, by omega⟩
        obtain ⟨e, hl⟩ := splitL_hit c l j (by omega)
        rw [splitL, if_neg hb, e]
        simp only [consHead, List.take_succ_cons, List.drop_succ_cons, List.length_cons]
        exact ⟨trivial, by omega⟩
set_option maxHeartbeats 1000000 in
theorem SplitSeq_calls (s : ByteArray) (w : World) : Calls Tryd.prog 110 #[.string s, .string ⟨#[44]⟩] w fun e w' =>
    e = .returned (.func (.func 157) #[] #[.pointer (some ⟨w.heap.size + 1, 0, none⟩), .pointer (some ⟨w.heap.size, 0, none⟩), .pointer (some ⟨w.heap.size + 2, 0, none⟩)]) ∧
      w' = ((w.alloc (.cells #[.string s] 9)).alloc (.cells #[.string ⟨#[44]⟩] 9)).alloc (.cells #[.int .i64 0] 3) := by
  have hmf : ∀ (fn : Fn) (first cap : Array Value) (W : World), (Instr.makeFunc fn first cap).run Tryd.prog W = .ok (.func fn first cap) W := fun fn first cap W => rfl
  have h134 : ∀ W, Calls Tryd.prog 134 #[.string s, .string ⟨#[44]⟩, .int .i64 0] W fun e w' => e = .returned (.func (.func 157) #[] #[.pointer (some ⟨W.heap.size + 1, 0, none⟩), .pointer (some ⟨W.heap.size, 0, none⟩), .pointer (some ⟨W.heap.size + 2, 0, none⟩)]) ∧
      w' = ((W.alloc (.cells #[.string s] 9)).alloc (.cells #[.string ⟨#[44]⟩] 9)).alloc (.cells #[.int .i64 0] 3) := by
    intro W
    go_enter Tryd.func134, Tryd.ntmps134
    go_wp2
    go_ret
    exact ⟨rfl, rfl⟩
  go_enter Tryd.func110, Tryd.ntmps110
  go_wp2_with (go_at_call 134; refine (h134 _).mono ?_; rintro e w1 ⟨rfl, rfl⟩)
  go_ret
  exact ⟨rfl, rfl⟩

/-- what the iterator's own variables hold: the separator, what is left of the text, no width kept -/
structure SeqVars (W : World) (b : Nat) (t : List UInt8) : Prop where
  text : Blk W b 9 #[.string (str t)]
  sep : Blk W (b + 1) 9 #[.string ⟨#[44]⟩]
  save : Blk W (b + 2) 3 #[.int .i64 0]
noncomputable def World.strLen (W : World) (b : Nat) : Nat := match W.cell? ⟨b, 0, none⟩ with | some (.string s) => s.size | _ => 0
theorem strLen_of {W : World} {b : Nat} {t : List UInt8} (h : SeqVars W b t) : World.strLen W b = t.length := by
  unfold World.strLen
  rw [h.text.cell]
  rfl

attribute [local go_sem] Oper.semAt_some
set_option maxRecDepth 100000 in
set_option maxHeartbeats 4000000 in
/-- the iterator, over whatever a round keeps -/
theorem iter157_in (n : Nat) (l b : Nat) (s : List UInt8) (hs : s.length ≤ 100000000) (J Jx : List (List UInt8) → World → Prop)
    (hY : ∀ pre x rest t W, splitL 44 s = pre ++ x :: rest → J pre W → SeqVars W b t → YieldAt Fence.wide (n - 1) Tryd.prog l #[.string (str x)] W fun e W' =>
      (e = .returned (.bool true) ∧ J (pre ++ [x]) W' ∧ SeqVars W' b t) ∨ (e = .returned (.bool false) ∧ Jx (pre ++ [x]) W'))
    (hset : ∀ pre t t' W, J pre W → SeqVars W b t → J pre (W.setCell ⟨b, 0, none⟩ (.string (str t'))))
    (W : World) (h0 : J [] W) (hv : SeqVars W b s) :
    CallsIn Fence.wide n Tryd.prog 157 #[.func (.yield l) #[] #[], .pointer (some ⟨b + 1, 0, none⟩), .pointer (some ⟨b, 0, none⟩), .pointer (some ⟨b + 2, 0, none⟩)] W fun e W' => (∃ v, e = .returned v) ∧ (J (splitL 44 s) W' ∨ ∃ pre, Jx pre W') := by
  have hsep := hv.sep.cell 0
  simp at hsep
  refine callsIn_of_wp Tryd.func157 rfl trivial ?_ rfl
  simp only [Tryd.ntmps157, List.size_toArray, List.length_cons, List.length_nil, Nat.reduceAdd, Nat.reduceSub, Array.replicate_succ, Array.replicate_zero, List.push_toArray, List.append_toArray, List.nil_append, List.cons_append]
  gi_wp2
  gi_loopw [7] (fun p wr => ∃ pre t, splitL 44 s = pre ++ splitL 44 t ∧ J pre wr ∧ SeqVars wr b t ∧ t.length ≤ 100000000) (fun _ wr => World.strLen wr b)
  case atStart => exact ⟨[], s, rfl, h0, hv, hs⟩
  case round =>
    obtain ⟨pre, t, hx, hJ, hv', htl⟩ := hrel
    have c0 := hv'.text.cell 0
    have c1 := hv'.sep.cell 0
    have c2 := hv'.save.cell 0
    have hidx := Lib.hid (fun W => Tryd.strings_Index_one (str t) 44 W)
    have hge := Lib.indexByte_ge t 44
    rw [str_toList] at hidx
    have hlen := Lib.hid (strLen_of hv')
    have HV := Lib.hid hv'
    by_cases hi : Lib.indexByte t 44 = -1
    · have hsp := splitL_miss 44 t hi
      obtain ⟨fn, tmps, assign, body, hy, hR⟩ := hY pre t [] t wr (by rw [hx, hsp]) hJ hv'
      have HX := Lib.hid (show splitL 44 s = pre ++ [t] by rw [hx, hsp])
      rw [hi] at hidx
      clear hi hsp hx hv'
      gi_wp2_with (refine ⟨trivial, (by intro hh; cases hh), ?_⟩; gi_at_call 127; refine (callsIn_wide.2 (hidx.out _)).mono ?_; rintro e w1 ⟨rfl, rfl⟩)
      refine ⟨(by intro hh; cases hh), ?_⟩
      refine hR.mono ?_
      rintro e W3 (⟨rfl, hJ3, hv3⟩ | ⟨rfl, hJx3⟩)
      · gi_wp2
        go_end0
        exact ⟨⟨_, rfl⟩, .inl (by rw [HX.out]; exact hJ3)⟩
      · gi_wp2
        go_end0
        exact ⟨⟨_, rfl⟩, .inr ⟨_, hJx3⟩⟩
    · obtain ⟨i, hi'⟩ : ∃ i : Nat, Lib.indexByte t 44 = i := ⟨(Lib.indexByte t 44).toNat, by omega⟩
      obtain ⟨hsp, hil⟩ := splitL_hit 44 t i hi'
      obtain ⟨fn, tmps, assign, body, hy, hR⟩ := hY pre (t.take i) (splitL 44 (t.drop (i + 1))) t wr (by rw [hx, hsp]) hJ hv'
      rw [hi'] at hidx
      have hex1 : (str t).extract 0 i = str (t.take i) := by
        apply ByteArray.ext
        simp [str, ByteArray.data_extract]
      have hex2 : (str t).extract (i + 1) t.length = str (t.drop (i + 1)) := by
        apply ByteArray.ext
        apply Array.ext'
        simp [str, ByteArray.data_extract]
        exact List.take_of_length_le (by simp)
      have HX := Lib.hid (show splitL 44 s = (pre ++ [t.take i]) ++ splitL 44 (t.drop (i + 1)) by rw [hx, hsp]; simp)
      have hszt : (str t).size = t.length := rfl
      clear hi hi' hsp hx hv'
      gi_wp2_with (refine ⟨trivial, (by intro hh; cases hh), ?_⟩; gi_at_call 127; refine (callsIn_wide.2 (hidx.out _)).mono ?_; rintro e w1 ⟨rfl, rfl⟩)
      refine ⟨(by intro hh; cases hh), ?_⟩
      refine hR.mono ?_
      rintro e W3 (⟨rfl, hJ3, hv3⟩ | ⟨rfl, hJx3⟩)
      · have c03 := hv3.text.cell 0
        have c13 := hv3.sep.cell 0
        have c23 := hv3.save.cell 0
        have f03 := hv3.text.frozen 0
        have HV3 := Lib.hid hv3
        have HS := Lib.hid (hset (pre ++ [t.take i]) t (t.drop (i + 1)) W3 hJ3 hv3)
        clear hv3
        have hvn : SeqVars (W3.setCell ⟨b, 0, none⟩ (.string (str (t.drop (i + 1))))) b (t.drop (i + 1)) := ⟨HV3.out.text.set_ 0 _, HV3.out.sep.far (by simp) _, HV3.out.save.far (by simp) _⟩
        gi_wp2
        go_roundw
        case rel => exact ⟨pre ++ [t.take i], t.drop (i + 1), HX.out, HS.out, hvn, by simp; omega⟩
        case measure => rw [strLen_of hvn, hlen.out]; simp; omega
      · gi_wp2
        refine bodyPost_ret (results_none rfl _ _ _) rfl ?_
        exact ⟨⟨_, rfl⟩, .inr ⟨_, hJx3⟩⟩
end Go.Proofs.YtfjfjjcdlgdbcaaDoor
namespace Go.Proofs.YtfjfjjcdlgdbcaaDoor
open Go.RowKit Go.Shelf
set_option linter.unusedSimpArgs false
set_option linter.unusedVariables false

/-- a loop's record -/
def lrec (fn : FuncId) (tmps : Array Value) (ps : Array Tmp) (assign body : Code) (D : Nat) (st : LoopState) (pe : Option Code) : Obj := .loop { state := st, pending := pe, fn, tmps, params := ps, assign, body, defers := D }
/-- one round of a range over a function, out of its body's walk -/
theorem round_at {P : Program} {l D fn m : Nat} {tmps : Array Value} {ps : Array Tmp} {assign body : Code} {args : Array Value} {W : World} {R : Ending → World → Prop}
    (hl : W.heap[l]? = some (lrec fn tmps ps assign body D .ready none)) (hs : args.size = ps.size) (a₁ : Act)
    (hassign : ∀ K : Act → World → Prop, K a₁ W → assign.wpIn (Fence.wide.inRound l) m P (Exit.then K (fun _ _ _ => False)) { tmps := (ps.zip args).foldl (fun tmps (t, a) => tmps.setIfInBounds t a) tmps, defers := [] } W)
    (hbody : body.wpIn (Fence.wide.inRound l) m P (fun e _ W3 => W3.heap[l]? = some (lrec fn tmps ps assign body D .busy none) ∧
      ((e = .normal ∧ R (.returned (.bool true)) (W3.putObj l (lrec fn tmps ps assign body D .ready none))) ∨ (e = .ret ∧ R (.returned (.bool false)) (W3.putObj l (lrec fn tmps ps assign body D .done (some .ret))))))
      a₁ (W.putObj l (lrec fn tmps ps assign body D .busy none))) : YieldAt Fence.wide m P l args W R := by
  have hy := run_yield (P := P) (args := args) hl hs
  have hb := run_beginRound (P := P) hl rfl
  refine ⟨fn, _, assign, body, hy, roundIn_of_wpIn trivial (hassign _ ⟨_, hb, ?_⟩)⟩
  refine wpIn_mono hbody ?_
  rintro e a3 W3 ⟨hl3, hp⟩
  rcases hp with ⟨rfl, hr⟩ | ⟨rfl, hr⟩
  · have h := run_endRound (P := P) none hl3
    exact ⟨_, _, h, hr⟩
  · have h := run_endRound (P := P) (some .ret) hl3
    exact ⟨_, _, h, hr⟩
/-- a range over a function, out of the function's walk -/
theorem range_at {P : Program} {n : Nat} {g : Operand} {ps : Array Tmp} {assign body : Code} {Q : Exit → Act → World → Prop} {a : Act} {w : World} {gf : Nat} {lb : Array Value}
    (hg : a.eval g = .func (.func gf) #[] lb) (eg : ∀ args w, (callFunc gf args).run P w = .ok (.enter gf args) w)
    (hcall : ∀ fn, CallsIn Fence.wide (n - 1) P gf (#[.func (.yield (w.heap.size + 1)) #[] #[]] ++ lb) ((w.alloc (.deferred (some []))).alloc (lrec fn a.tmps ps assign body w.heap.size .ready none))
      (rangePost Fence.wide n P (w.heap.size + 1) Q { a with defers := [{ target := .collected w.heap.size, args := #[] }] ++ a.defers })) :
    (Code.rangeFunc g ps assign body).wpIn Fence.wide n P Q a w := by
  refine wpIn_rangeFunc ?_
  intro fn hfn
  have hc := hcall fn
  obtain ⟨W1, hW1⟩ : ∃ W1, (w.alloc (.deferred (some []))).alloc (lrec fn a.tmps ps assign body w.heap.size .ready none) = W1 := ⟨_, rfl⟩
  rw [hW1] at hc
  refine ⟨w.heap.size + 1, [{ target := .collected w.heap.size, args := #[] }], W1, { target := .fn (.func gf) lb, args := #[.func (.yield (w.heap.size + 1)) #[] #[]] }, W1, gf, #[.func (.yield (w.heap.size + 1)) #[] #[]] ++ lb, W1, ?_⟩
  refine ⟨?_, ?_, ?_, ?_, ?_, ?_⟩
  · rw [← hW1]; exact run_enterLoop_outer _ _ _ _ _
  · simp only [resolve, hg]
    simp [go_sem]
  · intro f' hf'
    exact True.intro
  · simp [invoke, go_sem, eg]
  · intro h
    cases h
  · exact hc
theorem putObj_block {W : World} {b l : Nat} {t : TypeId} {cs : Array Value} {o : Obj} (h : Blk W b t cs) (hne : ¬ b = l) : Blk (W.putObj l o) b t cs := (World.putObj_heap_other hne).trans h
theorem SeqVars.putObj {W : World} {b l : Nat} {t : List UInt8} (h : SeqVars W b t) (hl : b + 2 < l) (o : Obj) : SeqVars (W.putObj l o) b t :=
  ⟨putObj_block h.text (by omega), putObj_block h.sep (by omega), putObj_block h.save (by omega)⟩
/-- a range over the parts of a text -/
theorem seq_range {n : Nat} {g : Operand} {ps : Array Tmp} {assign body : Code} {Q : Exit → Act → World → Prop} {a : Act} {w : World} {b : Nat}
    (hg : a.eval g = .func (.func 157) #[] #[.pointer (some ⟨b + 1, 0, none⟩), .pointer (some ⟨b, 0, none⟩), .pointer (some ⟨b + 2, 0, none⟩)]) (hps : ps.size = 1)
    (s : List UInt8) (hs : s.length ≤ 100000000) (hv : SeqVars w b s) (S Sx : List (List UInt8) → World → Prop)
    (hput : ∀ pre W o, S pre W → S pre (W.putObj (w.heap.size + 1) o)) (hxput : ∀ pre W o, Sx pre W → Sx pre (W.putObj (w.heap.size + 1) o))
    (hset : ∀ pre t' W, S pre W → S pre (W.setCell ⟨b, 0, none⟩ (.string (str t'))))
    (h0 : ∀ o, S [] ((w.alloc (.deferred (some []))).alloc o))
    (hround : ∀ pre x rest t W, splitL 44 s = pre ++ x :: rest → S pre W → SeqVars W b t → (∃ r, W.heap[w.heap.size + 1]? = some (.loop r)) →
      ∃ a₁, (∀ W' (K : Act → World → Prop), K a₁ W' → assign.wpIn (Fence.wide.inRound (w.heap.size + 1)) (n - 1 - 1) Tryd.prog (Exit.then K (fun _ _ _ => False)) { tmps := (ps.zip #[Value.string (str x)]).foldl (fun tmps (t, a) => tmps.setIfInBounds t a) a.tmps, defers := [] } W') ∧
        body.wpIn (Fence.wide.inRound (w.heap.size + 1)) (n - 1 - 1) Tryd.prog (fun e _ W3 => W3.heap[w.heap.size + 1]? = W.heap[w.heap.size + 1]? ∧ ((e = .normal ∧ S (pre ++ [x]) W3 ∧ SeqVars W3 b t) ∨ (e = .ret ∧ Sx (pre ++ [x]) W3))) a₁ W)
    (hdone : ∀ W, S (splitL 44 s) W → Q .normal { a with defers := [{ target := .collected w.heap.size, args := #[] }] ++ a.defers } W)
    (hstop : ∀ pre W, Sx pre W → Code.ret.wpIn Fence.wide n Tryd.prog Q { a with defers := [{ target := .collected w.heap.size, args := #[] }] ++ a.defers } W) :
    (Code.rangeFunc g ps assign body).wpIn Fence.wide n Tryd.prog Q a w := by
  have hbl : b + 2 < w.heap.size := hv.save.lt
  refine range_at (gf := 157) (lb := #[.pointer (some ⟨b + 1, 0, none⟩), .pointer (some ⟨b, 0, none⟩), .pointer (some ⟨b + 2, 0, none⟩)]) hg (enters_of Tryd.func157 (by kernel_rfl) rfl) ?_
  intro fn
  have hl0 : ((w.alloc (.deferred (some []))).alloc (lrec fn a.tmps ps assign body w.heap.size .ready none)).heap[w.heap.size + 1]? = some (lrec fn a.tmps ps assign body w.heap.size .ready none) := by
    have := World.alloc_heap_new (w.alloc (.deferred (some []))) (lrec fn a.tmps ps assign body w.heap.size .ready none)
    rwa [World.size_alloc] at this
  have hv0 : SeqVars ((w.alloc (.deferred (some []))).alloc (lrec fn a.tmps ps assign body w.heap.size .ready none)) b s := ⟨(hv.text.alloc _).alloc _, (hv.sep.alloc _).alloc _, (hv.save.alloc _).alloc _⟩
  refine (iter157_in (n - 1) (w.heap.size + 1) b s hs
    (fun pre W => W.heap[w.heap.size + 1]? = some (lrec fn a.tmps ps assign body w.heap.size .ready none) ∧ S pre W)
    (fun pre W => W.heap[w.heap.size + 1]? = some (lrec fn a.tmps ps assign body w.heap.size .done (some .ret)) ∧ Sx pre W)
    ?_ ?_ _ ⟨hl0, h0 _⟩ hv0).mono ?_
  · rintro pre x rest t W hx ⟨hl, hS⟩ hvt
    have hlt : w.heap.size + 1 < W.heap.size := (Array.getElem?_eq_some_iff.1 hl).1
    have hb1 : (W.putObj (w.heap.size + 1) (lrec fn a.tmps ps assign body w.heap.size .busy none)).heap[w.heap.size + 1]? = some (lrec fn a.tmps ps assign body w.heap.size .busy none) := World.putObj_heap_same hlt
    obtain ⟨a₁, ha, hb⟩ := hround pre x rest t (W.putObj (w.heap.size + 1) (lrec fn a.tmps ps assign body w.heap.size .busy none)) hx (hput _ _ _ hS) (hvt.putObj (by omega) _) ⟨_, hb1⟩
    refine round_at hl (by rw [hps]; rfl) a₁ (fun K hK => ha W K hK) (wpIn_mono hb ?_)
    rintro e a3 W3 ⟨hl3, hp⟩
    rw [hb1] at hl3
    have hlt3 : w.heap.size + 1 < W3.heap.size := (Array.getElem?_eq_some_iff.1 hl3).1
    refine ⟨hl3, ?_⟩
    rcases hp with ⟨rfl, h3, hv3⟩ | ⟨rfl, h3⟩
    · exact .inl ⟨rfl, .inl ⟨rfl, ⟨World.putObj_heap_same hlt3, hput _ _ _ h3⟩, hv3.putObj (by omega) _⟩⟩
    · exact .inr ⟨rfl, .inr ⟨rfl, World.putObj_heap_same hlt3, hxput _ _ _ h3⟩⟩
  · rintro pre t t' W ⟨hl, hS⟩ _
    refine ⟨?_, hset _ _ _ hS⟩
    rw [Below.heap_setCell W ⟨b, 0, none⟩ _ (w.heap.size + 1) (by show w.heap.size + 1 ≠ b; omega)]
    exact hl
  · rintro e W2 ⟨⟨v, rfl⟩, (⟨hl, hS⟩ | ⟨pre, hl, hS⟩)⟩
    · have h := run_endLoop (P := Tryd.prog) hl (by intro h; cases h)
      exact ⟨_, _, h, hdone _ (hput _ _ _ hS)⟩
    · have h := run_endLoop (P := Tryd.prog) hl (by intro h; cases h)
      exact ⟨_, _, h, hstop pre _ (hxput _ _ _ hS)⟩
section
variable {P : Program} {ops : Array Oper} {Q : Exit → Act → World → Prop} {md : Region.Mode} {l n : Nat}
theorem wpIn_of_wp_round {o : Oper} {a : Act} {w : World} {K : Act → World → Prop} (hnd : ∀ c, o.op ≠ .defer c) (h : o.wp P a w K Q) : o.wpIn (Fence.wide.inRound l) n P a w K Q := by
  refine ⟨fun _ _ => True.intro, ?_⟩
  rw [Oper.semAt_plain (Fence.wide.inRound l) a.eval o hnd]
  unfold Oper.wp at h
  generalize (execOp a.eval o).run P w = r at *
  cases r with
  | ok x w' =>
    cases x with
    | value v => exact h
    | skip => exact h
    | defer d => exact h
    | enter f args => exact ⟨(fun hh => by cases hh), CallsIn.inRound l (callsIn_wide.2 h)⟩
    | row row args => exact ⟨(fun hh => by cases hh), fun c cs _ => let ⟨v, w', r, s⟩ := h c cs; ⟨v, w', r, stepsIn_wide.2 s⟩⟩
    | _ => exact h.elim
  | halt x w' =>
    cases x <;> first | exact h | exact h.elim
theorem wpAnyIn_of_wpAny (hnd : ∀ (i : Nat) (o : Oper), ops[i]? = some o → ∀ c, o.op ≠ .defer c) (hQ : ¬ LetsOut Q) : ∀ (fuel : Nat) (listed : Array Bool) (a : Act) (w : World), wpAny P md ops Q fuel listed a w → wpAnyIn (Fence.wide.inRound l) n P md ops Q fuel listed a w
  | 0, _, _, _, h => h
  | fuel + 1, listed, a, w, h => ⟨h.1, fun i hi => by
    have h2 := wpOp_mono (fun a' w' h' => wpAnyIn_of_wpAny hnd hQ fuel (listed.setIfInBounds i true) a' w' h') (h.2 i hi)
    unfold wpOp at h2
    unfold wpOpIn
    cases ho : ops[i]? with
    | none => simpa [ho] using h2
    | some o =>
      simp only [ho] at h2 ⊢
      split
      · rename_i hw
        rw [if_pos hw] at h2
        rcases h2 with h2 | ⟨_, h2⟩
        · exact wpIn_of_wp_round (hnd i o ho) h2
        · exact absurd h2 hQ
      · rename_i hw
        rw [if_neg hw] at h2
        exact ⟨fun _ _ => True.intro, h2⟩⟩
def noDefer (ops : Array Oper) : Bool := ops.toList.all fun o => match o.op with | .defer _ => false | _ => true
theorem noDefer_spec (h : noDefer ops = true) : ∀ (i : Nat) (o : Oper), ops[i]? = some o → ∀ c, o.op ≠ .defer c := by
  intro i o ho c hc
  have hm : o ∈ ops.toList := by
    rw [← Array.getElem?_toList] at ho
    exact List.mem_of_getElem? ho
  have h2 := List.all_eq_true.1 h o hm
  rw [hc] at h2
  cases h2
/-- a region that draws, in a round -/
theorem region_round {id : Nat} {a : Act} {w : World} (hm : P.follows .mixedOrders = true) (hnd : noDefer ops = true) (hQ : ¬ LetsOut Q) {S : World → Prop} (hS : S w.drew)
    (h : S w.drew → wpAnyH P .any ops Q S ops.size (Array.replicate ops.size false) a w.drew) : (Code.region id ops true).wpIn (Fence.wide.inRound l) n P Q a w :=
  wpIn_region_any hm (wpAnyIn_of_wpAny (noDefer_spec hnd) hQ _ _ _ _ (wpAny_of_held _ _ _ _ (h hS)))
end
end Go.Proofs.YtfjfjjcdlgdbcaaDoor
