/- archive.parsed at numbers, at bytes -/
import Derived.Test.YtfjfjjcdlgdbcaaDoorE22
namespace Go.Proofs.YtfjfjjcdlgdbcaaDoor
open Go.RowKit
set_option linter.unusedSimpArgs false
set_option linter.unusedVariables false

theorem RdBx.weaken {w : World} {lo lo' : Nat} {A : Option Addr} {n c : Nat} {xs : List UInt8} (h : RdBx w lo' A n c xs) (hl : lo ≤ lo') : RdBx w lo A n c xs :=
  ⟨h.1, fun ad e => ⟨Nat.le_trans hl (h.2 ad e).1, (h.2 ad e).2⟩⟩
theorem keeps_two (w : World) (g b off lo : Nat) (u v : Value) (hg : g < lo) (hb : b < lo) : KeepsLo lo w ((w.setCell ⟨g, off, none⟩ u).setCell ⟨b, 0, none⟩ v) := by
  refine ⟨?_, fun i h1 h2 => ?_⟩
  · have := setCells_size [v] 0 (w.setCell ⟨g, off, none⟩ u) b
    have h3 := setCells_size [u] off w g
    simp only [World.setCells] at this h3
    omega
  · rw [Below.heap_setCell _ ⟨b, 0, none⟩ v i (by show i ≠ b; omega), Below.heap_setCell _ ⟨g, off, none⟩ u i (by show i ≠ g; omega)]

set_option maxRecDepth 100000 in
set_option maxHeartbeats 2000000 in
theorem parsed_n (s : List UInt8) (hs : s.length ≤ 100000000) : ParsedAt pF 110 s := by
  intro A bA bn bc lA ln lc g lo W hglo hlo hB hR hL _
  have hpf : pF A 110 s = (numL s).map fun n => { A with n := n } := rfl
  have hgW := hB.lt
  have hbA : Below W.heap.size W (w73 W g s) := al (al (al (Below.refl _ _) _) _) _
  have hB3 := hB.below hbA hgW
  have hsz3 := w73_size W g s
  have has := ak_size A (.slice bA bn bc) (.slice lA ln lc) hR.1
  have hfx := number106_calls s (W.heap.size + 1) g 117 (w73 W g s) hs (hL.below hbA) (w73_cell W g s) (by omega) (fun W' hW' => (hB3.below hW' hB3.lt).room 117 1 (by rw [has]; omega))
    (fun W' n hW' => LaidW.set ((hL.below hbA).below hW') (hB3.below hW' hB3.lt) has 117 (by omega) _)
  have hres := Lib.hid (fun w2 n w' (hw2 : Below (W.heap.size + 3) (w73 W g s) w2) (hw' : Below (w2.setCell ⟨g, 117, none⟩ (.int .i64 n)).heap.size (w2.setCell ⟨g, 117, none⟩ (.int .i64 n)) w') => (show Blk w' (W.heap.size + 2) 4 #[.bool false] from by
    have h1 := ((w73_res W g s).below hw2 (by omega)).far (p := ⟨g, 117, none⟩) (by show W.heap.size + 2 ≠ g; omega) (.int .i64 n)
    exact h1.below hw' h1.lt))
  have hgb := Lib.hid (fun w2 n w' (hw2 : Below (W.heap.size + 3) (w73 W g s) w2) (hw' : Below (w2.setCell ⟨g, 117, none⟩ (.int .i64 n)).heap.size (w2.setCell ⟨g, 117, none⟩ (.int .i64 n)) w') => (show Blk w' g 64 (ak { A with n := n } (.slice bA bn bc) (.slice lA ln lc)) from by
    have h1 := (hB3.below hw2 (by omega)).set_ 117 (.int .i64 n)
    rw [set_n A _ _ _ hR.1] at h1
    exact h1.below hw' h1.lt))
  have hgr := Lib.hid (fun w2 n w' b (hw2 : Below (W.heap.size + 3) (w73 W g s) w2) (hw' : Below (w2.setCell ⟨g, 117, none⟩ (.int .i64 n)).heap.size (w2.setCell ⟨g, 117, none⟩ (.int .i64 n)) w') => (show W.grownBy (w'.setCell ⟨W.heap.size + 1 + 1, 0, none⟩ (.bool b)) (some g) from
    gr_new (gr_then (gr_setCell (gr_then (gr_below hbA) (by rw [w73_size]; exact hw2)) _ _) hw') _ _ (by omega)))
  have HR := Lib.hid hR
  rw [hsz3] at hfx
  cases hn : numL s with
  | some n =>
    have hfx2 := Lib.hid (hfx.mono (fun e w' ⟨w2, n', hb, hb', h⟩ => (show ∃ w2, Below (W.heap.size + 3) (w73 W g s) w2 ∧ Below (w2.setCell ⟨g, 117, none⟩ (.int .i64 n)).heap.size (w2.setCell ⟨g, 117, none⟩ (.int .i64 n)) w' ∧ (-9223372036854775808 ≤ n ∧ n ≤ 9223372036854775807) ∧ e = Ending.returned (.bool true) from by
      rcases h with ⟨h1, h2, h3⟩ | ⟨h1, _⟩
      · have : n' = n := by rw [hn] at h1; exact (Option.some.inj h1).symm
        subst this
        exact ⟨w2, hb, hb', h2, h3⟩
      · rw [hn] at h1; cases h1)))
    rw [hpf, hn]
    simp only [Option.map_some]
    clear hfx hB hR hL hB3 has hpf hbA hsz3 hn
    go_enter Tryd.func73, Tryd.ntmps73
    go_wp2_with (go_at_call 106; refine hfx2.out.mono ?_; rintro e w1 ⟨w2, hb2, hb3, hbd, rfl⟩; have hrs := hres.out w2 n w1 hb2 hb3; have hrc := hrs.cell 0; have hrf := hrs.frozen 0)
    have hgg := hgr.out w2 n w1 true hb2 hb3
    have hbl := (hgb.out w2 n w1 hb2 hb3).far (p := ⟨W.heap.size + 1 + 1, 0, none⟩) (by show g ≠ W.heap.size + 1 + 1; omega) (.bool true)
    have hR0 := HR.out
    exact bodyPost_ret (results_bool1 rfl _ _ (W.heap.size + 1 + 1) (.bool true) rfl (setCell_same hrs (by simp) _)) rfl ⟨hgg, .inr ⟨rfl, _, bA, bn, bc, lA, ln, lc, rfl, hbl, ⟨⟨hR0.1.ha, hR0.1.hk, hR0.1.hw, hR0.1.hr, hbd.1, hbd.2, hR0.1.hm0, hR0.1.hm1, hR0.1.hk0, hR0.1.hk1⟩, (hR0.2.1.keeps (KeepsLo.grown hgg hglo)), (hR0.2.2.keeps (KeepsLo.grown hgg hglo))⟩⟩⟩
  | none =>
    have hfx2 := Lib.hid (hfx.mono (fun e w' ⟨w2, n', hb, hb', h⟩ => (show ∃ w2 n, Below (W.heap.size + 3) (w73 W g s) w2 ∧ Below (w2.setCell ⟨g, 117, none⟩ (.int .i64 n)).heap.size (w2.setCell ⟨g, 117, none⟩ (.int .i64 n)) w' ∧ e = Ending.returned (.bool false) from by
      rcases h with ⟨h1, _⟩ | ⟨_, h1⟩
      · rw [hn] at h1; cases h1
      · exact ⟨w2, n', hb, hb', h1⟩)))
    rw [hpf, hn]
    simp only [Option.map_none]
    clear hfx hB hR hL hB3 has hpf hbA hsz3 hn
    go_enter Tryd.func73, Tryd.ntmps73
    go_wp2_with (go_at_call 106; refine hfx2.out.mono ?_; rintro e w1 ⟨w2, n, hb2, hb3, rfl⟩; have hrs := hres.out w2 n w1 hb2 hb3; have hrc := hrs.cell 0; have hrf := hrs.frozen 0)
    have hgg := hgr.out w2 n w1 false hb2 hb3
    exact bodyPost_ret (results_bool1 rfl _ _ (W.heap.size + 1 + 1) (.bool false) rfl (setCell_same hrs (by simp) _)) rfl ⟨hgg, .inl ⟨rfl, by first | rfl | trivial⟩⟩

set_option maxRecDepth 100000 in
set_option maxHeartbeats 2000000 in
theorem parsed_m (s : List UInt8) (hs : s.length ≤ 100000000) : ParsedAt pF 109 s := by
  intro A bA bn bc lA ln lc g lo W hglo hlo hB hR hL _
  have hpf : pF A 109 s = (numL s).map fun n => { A with m := n } := rfl
  have hgW := hB.lt
  have hbA : Below W.heap.size W (w73 W g s) := al (al (al (Below.refl _ _) _) _) _
  have hB3 := hB.below hbA hgW
  have hsz3 := w73_size W g s
  have has := ak_size A (.slice bA bn bc) (.slice lA ln lc) hR.1
  have hfx := number106_calls s (W.heap.size + 1) g 118 (w73 W g s) hs (hL.below hbA) (w73_cell W g s) (by omega) (fun W' hW' => (hB3.below hW' hB3.lt).room 118 1 (by rw [has]; omega))
    (fun W' n hW' => LaidW.set ((hL.below hbA).below hW') (hB3.below hW' hB3.lt) has 118 (by omega) _)
  have hres := Lib.hid (fun w2 n w' (hw2 : Below (W.heap.size + 3) (w73 W g s) w2) (hw' : Below (w2.setCell ⟨g, 118, none⟩ (.int .i64 n)).heap.size (w2.setCell ⟨g, 118, none⟩ (.int .i64 n)) w') => (show Blk w' (W.heap.size + 2) 4 #[.bool false] from by
    have h1 := ((w73_res W g s).below hw2 (by omega)).far (p := ⟨g, 118, none⟩) (by show W.heap.size + 2 ≠ g; omega) (.int .i64 n)
    exact h1.below hw' h1.lt))
  have hgb := Lib.hid (fun w2 n w' (hw2 : Below (W.heap.size + 3) (w73 W g s) w2) (hw' : Below (w2.setCell ⟨g, 118, none⟩ (.int .i64 n)).heap.size (w2.setCell ⟨g, 118, none⟩ (.int .i64 n)) w') => (show Blk w' g 64 (ak { A with m := n } (.slice bA bn bc) (.slice lA ln lc)) from by
    have h1 := (hB3.below hw2 (by omega)).set_ 118 (.int .i64 n)
    rw [set_m A _ _ _ hR.1] at h1
    exact h1.below hw' h1.lt))
  have hgr := Lib.hid (fun w2 n w' b (hw2 : Below (W.heap.size + 3) (w73 W g s) w2) (hw' : Below (w2.setCell ⟨g, 118, none⟩ (.int .i64 n)).heap.size (w2.setCell ⟨g, 118, none⟩ (.int .i64 n)) w') => (show W.grownBy (w'.setCell ⟨W.heap.size + 1 + 1, 0, none⟩ (.bool b)) (some g) from
    gr_new (gr_then (gr_setCell (gr_then (gr_below hbA) (by rw [w73_size]; exact hw2)) _ _) hw') _ _ (by omega)))
  have HR := Lib.hid hR
  rw [hsz3] at hfx
  cases hn : numL s with
  | some n =>
    have hfx2 := Lib.hid (hfx.mono (fun e w' ⟨w2, n', hb, hb', h⟩ => (show ∃ w2, Below (W.heap.size + 3) (w73 W g s) w2 ∧ Below (w2.setCell ⟨g, 118, none⟩ (.int .i64 n)).heap.size (w2.setCell ⟨g, 118, none⟩ (.int .i64 n)) w' ∧ (-9223372036854775808 ≤ n ∧ n ≤ 9223372036854775807) ∧ e = Ending.returned (.bool true) from by
      rcases h with ⟨h1, h2, h3⟩ | ⟨h1, _⟩
      · have : n' = n := by rw [hn] at h1; exact (Option.some.inj h1).symm
        subst this
        exact ⟨w2, hb, hb', h2, h3⟩
      · rw [hn] at h1; cases h1)))
    rw [hpf, hn]
    simp only [Option.map_some]
    clear hfx hB hR hL hB3 has hpf hbA hsz3 hn
    go_enter Tryd.func73, Tryd.ntmps73
    go_wp2_with (go_at_call 106; refine hfx2.out.mono ?_; rintro e w1 ⟨w2, hb2, hb3, hbd, rfl⟩; have hrs := hres.out w2 n w1 hb2 hb3; have hrc := hrs.cell 0; have hrf := hrs.frozen 0)
    have hgg := hgr.out w2 n w1 true hb2 hb3
    have hbl := (hgb.out w2 n w1 hb2 hb3).far (p := ⟨W.heap.size + 1 + 1, 0, none⟩) (by show g ≠ W.heap.size + 1 + 1; omega) (.bool true)
    have hR0 := HR.out
    exact bodyPost_ret (results_bool1 rfl _ _ (W.heap.size + 1 + 1) (.bool true) rfl (setCell_same hrs (by simp) _)) rfl ⟨hgg, .inr ⟨rfl, _, bA, bn, bc, lA, ln, lc, rfl, hbl, ⟨⟨hR0.1.ha, hR0.1.hk, hR0.1.hw, hR0.1.hr, hR0.1.hn0, hR0.1.hn1, hbd.1, hbd.2, hR0.1.hk0, hR0.1.hk1⟩, (hR0.2.1.keeps (KeepsLo.grown hgg hglo)), (hR0.2.2.keeps (KeepsLo.grown hgg hglo))⟩⟩⟩
  | none =>
    have hfx2 := Lib.hid (hfx.mono (fun e w' ⟨w2, n', hb, hb', h⟩ => (show ∃ w2 n, Below (W.heap.size + 3) (w73 W g s) w2 ∧ Below (w2.setCell ⟨g, 118, none⟩ (.int .i64 n)).heap.size (w2.setCell ⟨g, 118, none⟩ (.int .i64 n)) w' ∧ e = Ending.returned (.bool false) from by
      rcases h with ⟨h1, _⟩ | ⟨_, h1⟩
      · rw [hn] at h1; cases h1
      · exact ⟨w2, n', hb, hb', h1⟩)))
    rw [hpf, hn]
    simp only [Option.map_none]
    clear hfx hB hR hL hB3 has hpf hbA hsz3 hn
    go_enter Tryd.func73, Tryd.ntmps73
    go_wp2_with (go_at_call 106; refine hfx2.out.mono ?_; rintro e w1 ⟨w2, n, hb2, hb3, rfl⟩; have hrs := hres.out w2 n w1 hb2 hb3; have hrc := hrs.cell 0; have hrf := hrs.frozen 0)
    have hgg := hgr.out w2 n w1 false hb2 hb3
    exact bodyPost_ret (results_bool1 rfl _ _ (W.heap.size + 1 + 1) (.bool false) rfl (setCell_same hrs (by simp) _)) rfl ⟨hgg, .inl ⟨rfl, by first | rfl | trivial⟩⟩

set_option maxRecDepth 100000 in
set_option maxHeartbeats 2000000 in
theorem parsed_b (s : List UInt8) (hs : s.length ≤ 100000000) : ParsedAt pF 98 s := by
  intro A bA bn bc lA ln lc g lo W hglo hlo hB hR hL _
  have hpf : pF A 98 s = if (undigL s).2 = true then some { A with b := (undigL s).1 } else none := rfl
  have hgW := hB.lt
  have hbA : Below W.heap.size W (w73 W g s) := al (al (al (Below.refl _ _) _) _) _
  have hB3 := hB.below hbA hgW
  have hsz3 := w73_size W g s
  have has := ak_size A (.slice bA bn bc) (.slice lA ln lc) hR.1
  have hud := Lib.hid (undigits_calls s (w73 W g s) hs)
  have hcg := Lib.hid (fun w2 (hw2 : Below (w73 W g s).heap.size (w73 W g s) w2) => (show w2.cell? ⟨g, 119, none⟩ = some (.slice bA bn bc) ∧ w2.frozen? ⟨g, 119, none⟩ = false from
    ⟨by rw [(hB3.below hw2 hB3.lt).cell]; exact ak_tail A _ _ hR.1 2, (hB3.below hw2 hB3.lt).frozen 119⟩))
  have hcp := Lib.hid (fun w2 (hw2 : Below (w73 W g s).heap.size (w73 W g s) w2) => (show w2.cell? ⟨W.heap.size, 0, none⟩ = some (.pointer (some ⟨g, 0, none⟩)) from cell_below' hw2 (by
    unfold w73
    rw [World.cell?_alloc_lt _ _ ⟨W.heap.size, 0, none⟩ (by simp; omega), World.cell?_alloc_lt _ _ ⟨W.heap.size, 0, none⟩ (by simp), World.cell?_alloc_at _ _ _ _ rfl]; rfl)))
  have hres := Lib.hid (fun w2 v (hw2 : Below (w73 W g s).heap.size (w73 W g s) w2) => (show Blk (w2.setCell ⟨g, 119, none⟩ v) (W.heap.size + 2) 4 #[.bool false] from
    ((w73_res W g s).below hw2 (by omega)).far (p := ⟨g, 119, none⟩) (by show W.heap.size + 2 ≠ g; omega) v))
  have hgb := Lib.hid (fun w2 xs b' (hw2 : Below (w73 W g s).heap.size (w73 W g s) w2) => (show Blk (w2.setCell ⟨g, 119, none⟩ b') g 64 (ak { A with b := xs } b' (.slice lA ln lc)) from by
    have h1 := (hB3.below hw2 hB3.lt).set_ 119 b'
    rw [set_b A _ _ _ xs hR.1] at h1
    exact h1))
  have hgr := Lib.hid (fun w2 v b (hw2 : Below (w73 W g s).heap.size (w73 W g s) w2) => (show W.grownBy ((w2.setCell ⟨g, 119, none⟩ v).setCell ⟨W.heap.size + 1 + 1, 0, none⟩ (.bool b)) (some g) from
    gr_new (gr_setCell (gr_then (gr_below hbA) hw2) _ _) _ _ (by omega)))
  have HR := Lib.hid hR
  rw [hpf]
  generalize undigL s = u at *
  obtain ⟨bs, ok⟩ := u
  simp only at hud ⊢
  clear hB hR hL hB3 has hpf hbA
  cases ok with
  | true =>
    go_enter Tryd.func73, Tryd.ntmps73
    go_wp2_with (go_at_call 109; refine hud.out.mono ?_; rintro e w1 ⟨⟨v, rfl, ho⟩, hb1⟩; obtain ⟨A1, c1, rfl, hr1⟩ := ho.reads; have hrs := hres.out w1 (.slice A1 bs.length c1) hb1; have hrc := hrs.cell 0; have hrf := hrs.frozen 0; have hg1 := hcg.out w1 hb1; have hp1 := hcp.out w1 hb1)
    have hgg := hgr.out w1 (.slice A1 bs.length c1) true hb1
    have hbl := (hgb.out w1 bs (.slice A1 bs.length c1) hb1).far (p := ⟨W.heap.size + 1 + 1, 0, none⟩) (by show g ≠ W.heap.size + 1 + 1; omega) (.bool true)
    have hR0 := HR.out
    have hbx : RdBx w1 (W.heap.size + 3) A1 bs.length c1 bs := ⟨hr1, fun ad e => by
      subst e
      have := ho.block ad.block rfl
      rw [hsz3] at this
      exact this⟩
    refine bodyPost_ret (results_bool1 rfl _ _ (W.heap.size + 1 + 1) (.bool true) rfl (setCell_same hrs (by simp) _)) rfl ⟨hgg, ?_⟩
    refine ⟨rfl, A1, bs.length, c1, lA, ln, lc, hbl, ⟨⟨hR0.1.ha, hR0.1.hk, hR0.1.hw, hR0.1.hr, hR0.1.hn0, hR0.1.hn1, hR0.1.hm0, hR0.1.hm1, hR0.1.hk0, hR0.1.hk1⟩, ?_, (hR0.2.2.keeps (KeepsLo.grown hgg hglo))⟩⟩
    exact (hbx.keeps (keeps_two w1 g (W.heap.size + 1 + 1) 119 (W.heap.size + 3) _ _ (by omega) (by omega))).weaken (by omega)
  | false =>
    go_enter Tryd.func73, Tryd.ntmps73
    go_wp2_with (go_at_call 109; refine hud.out.mono ?_; rintro e w1 ⟨⟨v, rfl, ho⟩, hb1⟩; obtain ⟨A1, c1, rfl, hr1⟩ := ho.reads; have hrs := hres.out w1 (.slice A1 bs.length c1) hb1; have hrc := hrs.cell 0; have hrf := hrs.frozen 0; have hg1 := hcg.out w1 hb1; have hp1 := hcp.out w1 hb1)
    have hgg := hgr.out w1 (.slice A1 bs.length c1) false hb1
    exact bodyPost_ret (results_bool1 rfl _ _ (W.heap.size + 1 + 1) (.bool false) rfl (setCell_same hrs (by simp) _)) rfl ⟨hgg, by first | rfl | trivial | exact .inl ⟨rfl, rfl⟩⟩
end Go.Proofs.YtfjfjjcdlgdbcaaDoor
