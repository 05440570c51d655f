/- few; which kind a word is -/
import Derived.Test.YtfjfjjcdlgdbcaaDoorE10
namespace Go.Proofs.YtfjfjjcdlgdbcaaDoor
open Go.RowKit
set_option linter.unusedSimpArgs false
set_option linter.unusedVariables false

/-- the acts that the law looks at -/
structure ActP.Tiny (A : ActP) : Prop where
  hb : A.b.length ≤ 2000
  hl : A.l.length ≤ 2000
  hkv : ∀ kv ∈ A.l, kv.1.length ≤ 2000
theorem ActP.Tiny.small {A : ActP} (h : A.Tiny) : A.Small := ⟨by have := h.hb; omega, by have := h.hl; omega, fun kv hk => by have := h.hkv kv hk; omega⟩
/-- no slice of an act is longer than memory can be -/
structure ActP.Held (A : ActP) : Prop where
  hb : A.b.length ≤ 140737488355328
  hl : A.l.length ≤ 140737488355328
  hkv : ∀ kv ∈ A.l, kv.1.length ≤ 140737488355328

set_option maxRecDepth 100000 in
set_option maxHeartbeats 2000000 in
theorem few20_calls (A : ActP) (bA : Option Addr) (bn bc : Nat) (lA : Option Addr) (ln lc : Nat) (w : World) (h : RdAct w A bA bn bc lA ln lc) (hS : A.Held) :
    Calls Tryd.prog 34 #[.agg (ak A (.slice bA bn bc) (.slice lA ln lc))] w fun e w' => (∃ b, e = .returned (.bool b) ∧ (b = true → A.Tiny)) ∧ Below w.heap.size w w' := by
  have g7 : (ak A (.slice bA bn bc) (.slice lA ln lc))[119]? = some (.slice bA bn bc) := ak_tail A _ _ h.1 2
  have hbn : bn ≤ 140737488355328 := by rw [← h.2.1.1]; exact hS.hb
  have hbl := h.2.1.1
  have hln := h.2.2.1
  have hlm : ln ≤ 140737488355328 := by rw [← hln]; exact hS.hl
  have hw0 : Below w.heap.size w (w.alloc (.cells (ak A (.slice bA bn bc) (.slice lA ln lc)) 64)) := al (Below.refl _ _) _
  have hR := Lib.hid (h.2.2.below hw0)
  have hB0 := Lib.hid (Blk.new w 64 (ak A (.slice bA bn bc) (.slice lA ln lc)))
  have hF := Lib.hid h.1
  have HS := Lib.hid hS
  have hW0 := Lib.hid hw0
  have HBL := Lib.hid hbl
  have HLN := Lib.hid hln
  clear h hS hw0 hbl hln
  go_enter Tryd.func34, Tryd.ntmps34
  go_wp2
  obtain ⟨w0, hw0⟩ : ∃ w0, w0 = w.alloc (.cells (ak A (.slice bA bn bc) (.slice lA ln lc)) 64) := ⟨_, rfl⟩
  rw [← hw0] at hB0 hR hW0 ⊢
  have hg0 : w0.cell? ⟨w.heap.size, 120, none⟩ = some (.slice lA ln lc) := by rw [hB0.out.cell]; exact ak_tail A _ _ hF.out 3
  have HG0 := Lib.hid hg0
  clear hw0 hg0
  go_loopw [3, 4] (fun v i wr => ∃ k m : Nat, k ≤ ln ∧ i = .int .i64 k ∧ v = .int .i64 m ∧ (m ≤ 140737488400000 ∧ bn ≤ m ∧ k ≤ m ∧ ∀ j, j < k → (A.l.getD j ([], [])).1.length ≤ m) ∧ Below w0.heap.size w0 wr) (fun _ i _ => ln - (intOf i).toNat)
  case atStart => exact ⟨0, bn, by omega, rfl, rfl, ⟨by omega, by omega, by omega, fun j hj => by omega⟩, Below.refl _ _⟩
  case round =>
    obtain ⟨k, m, hk, rfl, rfl, ⟨hm, hbm, hkm, hjm⟩, hb⟩ := hrel
    have hgr : wr.cell? ⟨w.heap.size, 120, none⟩ = some (.slice lA ln lc) := cell_below' hb HG0.out
    have HJM := Lib.hid hjm
    clear hjm
    by_cases hlt : k < ln
    · by_cases hm2 : m ≤ 2000
      · obtain ⟨g, o, B, mm, d, B', m', d', rfl, hgk, hc1, hr1, hc2, hr2⟩ := (hR.out.below hb).at_ hlt
        have hmm : mm ≤ 140737488355328 := by
          rw [← hr1.1]
          exact HS.out.hkv _ (List.mem_of_getElem? hgk)
        have hml := Lib.hid hr1.1
        clear hgk hr1 hr2
        go_wp2
        refine ⟨⟨k + 1, m + mm + 1, by omega, by go_num, by simp, ⟨by omega, by omega, by omega, fun j hj => ?_⟩, hb⟩, by simp [intOf]; omega⟩
        by_cases e : j = k
        · subst e
          rw [hml.out]; omega
        · have := HJM.out j (by omega)
          omega
      · go_wp2
        go_ret
        exact ⟨⟨_, rfl, fun h => by simp at h; omega⟩, thn hW0.out hb⟩
    · go_wp2
      go_ret
      refine ⟨⟨_, rfl, fun h => ?_⟩, thn hW0.out hb⟩
      have hm3 : m ≤ 2000 := by simp at h; omega
      have h1 := HBL.out
      have h2 := HLN.out
      refine ⟨by omega, by omega, fun kv hkv => ?_⟩
      obtain ⟨j, hj⟩ := List.getElem?_of_mem hkv
      have hjl := (List.getElem?_eq_some_iff.1 hj).1
      have := HJM.out j (by omega)
      rw [List.getD_eq_getElem?_getD, hj] at this
      simp only [Option.getD_some] at this
      omega
theorem drawn_below' (B : Nat) (w : World) (j : Nat) (_h : B ≤ w.heap.size) : Below B w (w.drewN j) := ⟨rfl, rfl, rfl, Nat.le_refl _, fun _ _ => rfl⟩
/-- a variable of type []string that holds these words -/
def Words (w : World) (v : Nat) (ws : List (List UInt8)) : Prop := ∃ r c, w.cell? ⟨v, 0, none⟩ = some (.slice (some ⟨r, 0, none⟩) ws.length c) ∧ ∀ (j : Nat) s, ws[j]? = some s → w.cell? ⟨r, j, none⟩ = some (.string (str s))
theorem Words.below {w w1 : World} {v : Nat} {ws : List (List UInt8)} (h : Words w v ws) (hb : Below w.heap.size w w1) : Words w1 v ws := by
  obtain ⟨r, c, h1, h2⟩ := h
  exact ⟨r, c, cell_below' hb h1, fun j s hj => cell_below' hb (h2 j s hj)⟩

set_option maxRecDepth 100000 in
set_option maxHeartbeats 2000000 in
theorem isWord_calls (x y : List UInt8) (v : Nat) (w0 : List UInt8) (ws : List (List UInt8)) (w : World) (h : Words w v (w0 :: ws)) :
    Calls Tryd.prog 72 #[.agg #[.string (str x), .string (str y)], .pointer (some ⟨v, 0, none⟩)] w fun e w' => e = .returned (.bool (decide (x ≠ [] ∧ x = w0))) ∧ Below w.heap.size w w' := by
  have hw1 : Below w.heap.size w (w.alloc (.cells #[.string (str x), .string (str y)] 116)) := al (Below.refl _ _) _
  obtain ⟨r, c, h1, h2⟩ := h.below hw1
  have h3 := h2 0 w0 rfl
  simp only [List.length_cons] at h1
  clear h h2
  by_cases hx : x = []
  · subst hx
    have he : (str ([] : List UInt8)).toList = [] := str_list _
    go_enter Tryd.func72, Tryd.ntmps72
    go_wp2
    go_quiet (fail)
    go_wp2
    go_ret
    exact ⟨by simp, hw1.trans (drawn_below' _ _ _ hw1.size)⟩
  · have hne := str_ne hx
    have hcmp : ((str x).toList == (str w0).toList) = decide (x = w0) := by
      rw [str_list, str_list, Bool.eq_iff_iff]; simp
    have hd : decide (x ≠ [] ∧ x = w0) = decide (x = w0) := by simp [hx]
    rw [hd]
    clear hd hx
    generalize decide (x = w0) = bb at *
    go_enter Tryd.func72, Tryd.ntmps72
    go_wp2
    go_quiet (fail)
    go_wp2
    go_ret
    exact ⟨rfl, hw1.trans (drawn_below' _ _ _ hw1.size)⟩

/-- the first kind of a word -/
def kindOf (w0 : List UInt8) : Int := if h : ∃ k : Nat, k < 28 ∧ (kt.getD k ([], [])).1 ≠ [] ∧ (kt.getD k ([], [])).1 = w0 then ((List.range 28).findIdx fun k => decide ((kt.getD k ([], [])).1 ≠ [] ∧ (kt.getD k ([], [])).1 = w0) : Nat) else -1
theorem kindOf_no (w0 : List UInt8) (h : ∀ k, k < 28 → decide ((kt.getD k ([], [])).1 ≠ [] ∧ (kt.getD k ([], [])).1 = w0) = false) : kindOf w0 = -1 := by
  unfold kindOf
  rw [dif_neg]
  rintro ⟨k, hk, h1⟩
  have := h k hk
  rw [decide_eq_true h1] at this
  cases this
theorem kindOf_at (w0 : List UInt8) (k : Nat) (hk : k < 28) (h : ∀ j, j < k → decide ((kt.getD j ([], [])).1 ≠ [] ∧ (kt.getD j ([], [])).1 = w0) = false)
    (h1 : decide ((kt.getD k ([], [])).1 ≠ [] ∧ (kt.getD k ([], [])).1 = w0) = true) : kindOf w0 = k := by
  unfold kindOf
  rw [dif_pos ⟨k, hk, of_decide_eq_true h1⟩]
  congr 1
  rw [List.findIdx_eq (by simpa using hk)]
  refine ⟨by simpa using h1, fun j hj => ?_⟩
  simpa using h j hj
theorem kindsV_at (k : Nat) (hk : k < 28) : kindsV[k * 2]? = some (.string (str (kt.getD k ([], [])).1)) ∧ kindsV[k * 2 + 1]? = some (.string (str (kt.getD k ([], [])).2)) := by
  by_cases h0 : k = 0
  · subst h0; exact ⟨rfl, rfl⟩
  by_cases h1 : k = 1
  · subst h1; exact ⟨rfl, rfl⟩
  by_cases h2 : k = 2
  · subst h2; exact ⟨rfl, rfl⟩
  by_cases h3 : k = 3
  · subst h3; exact ⟨rfl, rfl⟩
  by_cases h4 : k = 4
  · subst h4; exact ⟨rfl, rfl⟩
  by_cases h5 : k = 5
  · subst h5; exact ⟨rfl, rfl⟩
  by_cases h6 : k = 6
  · subst h6; exact ⟨rfl, rfl⟩
  by_cases h7 : k = 7
  · subst h7; exact ⟨rfl, rfl⟩
  by_cases h8 : k = 8
  · subst h8; exact ⟨rfl, rfl⟩
  by_cases h9 : k = 9
  · subst h9; exact ⟨rfl, rfl⟩
  by_cases h10 : k = 10
  · subst h10; exact ⟨rfl, rfl⟩
  by_cases h11 : k = 11
  · subst h11; exact ⟨rfl, rfl⟩
  by_cases h12 : k = 12
  · subst h12; exact ⟨rfl, rfl⟩
  by_cases h13 : k = 13
  · subst h13; exact ⟨rfl, rfl⟩
  by_cases h14 : k = 14
  · subst h14; exact ⟨rfl, rfl⟩
  by_cases h15 : k = 15
  · subst h15; exact ⟨rfl, rfl⟩
  by_cases h16 : k = 16
  · subst h16; exact ⟨rfl, rfl⟩
  by_cases h17 : k = 17
  · subst h17; exact ⟨rfl, rfl⟩
  by_cases h18 : k = 18
  · subst h18; exact ⟨rfl, rfl⟩
  by_cases h19 : k = 19
  · subst h19; exact ⟨rfl, rfl⟩
  by_cases h20 : k = 20
  · subst h20; exact ⟨rfl, rfl⟩
  by_cases h21 : k = 21
  · subst h21; exact ⟨rfl, rfl⟩
  by_cases h22 : k = 22
  · subst h22; exact ⟨rfl, rfl⟩
  by_cases h23 : k = 23
  · subst h23; exact ⟨rfl, rfl⟩
  by_cases h24 : k = 24
  · subst h24; exact ⟨rfl, rfl⟩
  by_cases h25 : k = 25
  · subst h25; exact ⟨rfl, rfl⟩
  by_cases h26 : k = 26
  · subst h26; exact ⟨rfl, rfl⟩
  by_cases h27 : k = 27
  · subst h27; exact ⟨rfl, rfl⟩
  omega

set_option maxRecDepth 100000 in
set_option maxHeartbeats 2000000 in
theorem index71_calls (g v : Nat) (w0 : List UInt8) (ws : List (List UInt8)) (w : World) (hB : Blk w g 117 kindsV) (h : Words w v (w0 :: ws)) :
    Calls Tryd.prog 71 #[.slice (some ⟨g, 0, none⟩) 28 28, .func (.func 72) #[] #[.pointer (some ⟨v, 0, none⟩)]] w fun e w' => e = .returned (.int .i64 (kindOf w0)) ∧ Below w.heap.size w w' := by
  have hc := Lib.hid (fun x y W (hW : Below w.heap.size w W) => isWord_calls x y v w0 ws W (h.below hW))
  have HB := Lib.hid hB
  clear h hB
  go_enter Tryd.func71, Tryd.ntmps71
  go_wp2
  go_loopw [8] (fun i wr => ∃ k : Nat, k ≤ 28 ∧ i = .int .i64 k ∧ (∀ j, j < k → decide ((kt.getD j ([], [])).1 ≠ [] ∧ (kt.getD j ([], [])).1 = w0) = false) ∧ Below w.heap.size w wr) (fun i _ => 28 - (intOf i).toNat)
  case atStart => exact ⟨0, by omega, rfl, fun j hj => by omega, Below.refl _ _⟩
  case round =>
    obtain ⟨k, hk, rfl, ha, hb⟩ := hrel
    have HA := Lib.hid ha
    clear ha
    by_cases hlt : k < 28
    · obtain ⟨hk1, hk2⟩ := kindsV_at k hlt
      have hBr := HB.out.below hb HB.out.lt
      have hc1 : wr.cell? ⟨g, k * 2, none⟩ = some (.string (str (kt.getD k ([], [])).1)) := by rw [hBr.cell]; exact hk1
      have hc2 : wr.cell? ⟨g, k * 2 + 1, none⟩ = some (.string (str (kt.getD k ([], [])).2)) := by rw [hBr.cell]; exact hk2
      have hat := Lib.hid (kindOf_at w0 k hlt HA.out)
      have hnx : Hid (decide ((kt.getD k ([], [])).1 ≠ [] ∧ (kt.getD k ([], [])).1 = w0) = false → ∀ j, j < k + 1 → decide ((kt.getD j ([], [])).1 ≠ [] ∧ (kt.getD j ([], [])).1 = w0) = false) := fun hf j hj => by
        by_cases e : j = k
        · subst e; exact hf
        · exact HA.out j (by omega)
      clear hk1 hk2 hBr
      have hcx := Lib.hid (hc.out (kt.getD k ([], [])).1 (kt.getD k ([], [])).2)
      generalize (kt.getD k ([], [])).1 = x at *
      generalize (kt.getD k ([], [])).2 = y at *
      by_cases hd : decide (x ≠ [] ∧ x = w0) = true
      · have hkk := Lib.hid (hat.out hd)
        rw [hd] at hcx
        clear hd
        go_wp2_with (go_at_call 72; refine (hcx.out _ hb).mono ?_; rintro e w1 ⟨rfl, hb1⟩)
        go_ret
        exact ⟨by rw [hkk.out]; rfl, thn hb hb1⟩
      · have hd' : decide (x ≠ [] ∧ x = w0) = false := by simpa using hd
        have hn2 := Lib.hid (hnx.out hd')
        rw [hd'] at hcx
        clear hd hd'
        go_wp2_with (go_at_call 72; refine (hcx.out _ hb).mono ?_; rintro e w1 ⟨rfl, hb1⟩)
        go_roundw
        case rel => exact ⟨k + 1, by omega, by go_num, hn2.out, thn hb hb1⟩
        case measure => simp [intOf]; omega
    · obtain rfl : k = 28 := by omega
      have hkk := Lib.hid (kindOf_no w0 HA.out)
      go_wp2
      go_ret
      exact ⟨by rw [hkk.out]; rfl, hb⟩
end Go.Proofs.YtfjfjjcdlgdbcaaDoor
