/- the texts M48, M49, M50, M51, M52 of this proof, one behind the other -/
import Derived.Test.YtejnfahfjmeabaaGreatDoorK7
import Derived.Lib.SlBytesConst
import Derived.Lib.SplitLaws
set_option linter.unusedSimpArgs false
set_option linter.unusedVariables false
namespace Go.Proofs.YtejnfahfjmeabaaGreatDoor
open Go.RowKit
set_option linter.unusedSimpArgs false
set_option linter.unusedVariables false

theorem rdM_nil (w : World) : RdM w none 0 0 [] := ⟨rfl, Nat.le_refl _, by unfold maxLen; omega, fun h => absurd h (by omega)⟩
set_option maxRecDepth 100000 in
set_option maxHeartbeats 1000000 in
theorem cuts_calls (s : Blocks) (f d cap : Nat) (D : HdS) (b : Bool) (num : Nat) (fs : FileS) (T : List (List UInt8)) (size : Nat) (z : FzS) (op : ByteArray) (kind n : Nat) (w : World)
    (h : FrzA w s f d cap D b num fs T size z) (hC : Calm D) (hf : D.files ≤ 1048576) (hc : D.count ≤ 4611686018427370000) (hT : T.length ≤ 8) (hk : kind = 1 ∨ kind = 2) (h1 : z.tail ≤ n) (h2 : n ≤ z.head) (hh : z.head ≤ 1000000)
    (hfit : fs.bytes.length + (frameN (bodyL kind n [])).length ≤ cap) (hcm : cap ≤ 67108864) (hpl : fs.pend.length ≤ 1000000) (hsz : size ≤ 67108864) :
    Calls Tryz.prog 42 #[.pointer (some ⟨f, 0, none⟩), .string op, .int .i64 (kind : Int), .int .i64 (n : Int)] w (ChgA w s f d cap D b num fs T size z (kind, n, []) true) := by
  obtain ⟨A, c, sd, iv, q, h⟩ := h
  obtain ⟨Ai, ci, hiv, hic, hcm2⟩ := h.items.slice
  subst hiv
  have HSL := Lib.hid h.lt
  have HAL := Lib.hid (alive_ok f d z.tail size (.slice A T.length c) (.slice Ai z.items.length ci) op w h.blk)
  have HHD : Hid (Calls Tryz.prog 14 #[.pointer (some ⟨f, 0, none⟩)] w fun e w' => e = .returned (.int .i64 (z.head : Int)) ∧ ∃ q, w' = w.drewN q) := head_n f d z.tail z.items.length ci size _ Ai false false w h.blk (by unfold FzS.head at hh; omega)
  have hbl : (bodyL kind n []).length ≤ 1048576 := by
    have e : (bodyL kind n []).length = (putL kind).length + (putL n).length := by unfold bodyL valsB; simp
    have k1 := putL_len64 kind (by omega)
    have k2 := putL_len64 n (by omega)
    omega
  have HCH : Hid (∀ m, Calls Tryz.prog 41 #[.pointer (some ⟨f, 0, none⟩), .int .i64 (kind : Int), .int .i64 (n : Int), .slice none 0 0, .bool true] (w.drewN m) (ChangeR (w.drewN m) s f d cap D b num fs T size z A c (kind, n, []) true)) := fun m => by
    have hbn : Below w.heap.size w (w.drewN m) := ⟨rfl, rfl, rfl, Nat.le_refl _, fun _ _ => rfl⟩
    exact change_calls s f d cap D b num fs T size z sd A c _ q none 0 0 kind n [] true (w.drewN m) (h.below hbn) hC hf hc (.inr ⟨hk, h1, h2, rfl⟩) hT (rdM_nil _) hh hbl hfit hcm hpl hsz
  have c3 : w.cell? ⟨f, 3, none⟩ = some (.int .i64 (z.tail : Int)) := h.blk.cell 3
  obtain ⟨hv', hhv⟩ : ∃ hv', hv' = z.head := ⟨_, rfl⟩
  obtain ⟨zt, hzt⟩ : ∃ zt, zt = z.tail := ⟨_, rfl⟩
  rw [← hhv] at HHD h2
  rw [← hzt] at c3 h1
  have q1 : ¬ (n : Int) < (zt : Int) := by omega
  have q2 : ¬ (hv' : Int) < (n : Int) := by omega
  clear h hC hf hc hT hfit hh hhv hzt hk hbl
  go_enter Tryz.func42, Tryz.ntmps42
  go_wp2_with fail
  refine HAL.out.mono ?_
  rintro e w1 ⟨rfl, rfl⟩
  go_wp2_with fail
  refine HHD.out.mono ?_
  rintro e w2 ⟨rfl, q2, rfl⟩
  go_wp2_with fail
  refine (HCH.out q2).mono ?_
  rintro e w3 ⟨rfl, hW3, hU3⟩
  have HD3 := Lib.hid (dies_nil _ f d cap _ b num _ T _ _ false A c op w3 hW3)
  have HU3 := Lib.hid hU3
  clear hW3 hU3
  go_wp2_with fail
  refine HD3.out.mono ?_
  rintro e w4 ⟨rfl, hW4, hU4⟩
  have hfin : Hid (ChgA w1 s f d cap D b num fs T size z (kind, n, []) true (.returned .nilIface) w4) := by
    have z3 := HU3.out.size
    have z4 := hU4.size
    have zz : (w1.drewN q2).heap.size = w1.heap.size := rfl
    have hsl : ∀ k, s k → k < w1.heap.size := HSL.out
    refine ⟨rfl, ⟨A, c, hW4.wide (fun k hk => ?_) (grow_lt hsl (by omega))⟩, ?_⟩
    · rcases hk with hk | hk
      · exact .inl hk
      · exact .inr ⟨by omega, by omega⟩
    · have U3 : Upd s s w1 w3 := ⟨HU3.out.os, HU3.out.tape, HU3.out.output, HU3.out.size, HU3.out.block, fun _ h => .inl h⟩
      exact U3.thenS hU4 (fun k hk => by
        rcases hk with hk | hk
        · exact .inl hk
        · exact .inr (by omega))
  clear hW4 hU4
  go_wp2_with fail
  go_ret
  exact hfin.out
set_option maxRecDepth 100000 in
set_option maxHeartbeats 1000000 in
theorem TruncTail_calls (s : Blocks) (f d cap : Nat) (D : HdS) (b : Bool) (num : Nat) (fs : FileS) (T : List (List UInt8)) (size : Nat) (z : FzS) (n : Nat) (w : World)
    (h : FrzA w s f d cap D b num fs T size z) (hC : Calm D) (hf : D.files ≤ 1048576) (hc : D.count ≤ 4611686018427370000) (hT : T.length ≤ 8) (h1 : z.tail ≤ n) (h2 : n ≤ z.head) (hh : z.head ≤ 1000000)
    (hfit : fs.bytes.length + (frameN (bodyL 2 n [])).length ≤ cap) (hcm : cap ≤ 67108864) (hpl : fs.pend.length ≤ 1000000) (hsz : size ≤ 67108864) :
    Calls Tryz.prog 12 #[.pointer (some ⟨f, 0, none⟩), .int .i64 (n : Int)] w (ChgA w s f d cap D b num fs T size z (2, n, []) true) := by
  have HC := Lib.hid (fun op => cuts_calls s f d cap D b num fs T size z op 2 n w h hC hf hc hT (.inr rfl) h1 h2 hh hfit hcm hpl hsz)
  clear h hC hf hc hT h1 h2 hh hfit hcm hpl hsz
  go_enter Tryz.func12, Tryz.ntmps12
  go_wp2_with fail
  refine (HC.out _).mono ?_
  rintro e w1 ⟨rfl, hr⟩
  have HR := Lib.hid hr
  clear hr
  go_wp2_with fail
  go_ret
  exact ⟨rfl, HR.out⟩
set_option maxRecDepth 100000 in
set_option maxHeartbeats 1000000 in
theorem TruncHead_calls (s : Blocks) (f d cap : Nat) (D : HdS) (b : Bool) (num : Nat) (fs : FileS) (T : List (List UInt8)) (size : Nat) (z : FzS) (n : Nat) (w : World)
    (h : FrzA w s f d cap D b num fs T size z) (hC : Calm D) (hf : D.files ≤ 1048576) (hc : D.count ≤ 4611686018427370000) (hT : T.length ≤ 8) (h1 : z.tail ≤ n) (h2 : n ≤ z.head) (hh : z.head ≤ 1000000)
    (hfit : fs.bytes.length + (frameN (bodyL 1 n [])).length ≤ cap) (hcm : cap ≤ 67108864) (hpl : fs.pend.length ≤ 1000000) (hsz : size ≤ 67108864) :
    Calls Tryz.prog 11 #[.pointer (some ⟨f, 0, none⟩), .int .i64 (n : Int)] w (ChgA w s f d cap D b num fs T size z (1, n, []) true) := by
  have HC := Lib.hid (fun op => cuts_calls s f d cap D b num fs T size z op 1 n w h hC hf hc hT (.inl rfl) h1 h2 hh hfit hcm hpl hsz)
  clear h hC hf hc hT h1 h2 hh hfit hcm hpl hsz
  go_enter Tryz.func11, Tryz.ntmps11
  go_wp2_with fail
  refine (HC.out _).mono ?_
  rintro e w1 ⟨rfl, hr⟩
  have HR := Lib.hid hr
  clear hr
  go_wp2_with fail
  go_ret
  exact ⟨rfl, HR.out⟩
end Go.Proofs.YtejnfahfjmeabaaGreatDoor
namespace Go.Proofs.YtejnfahfjmeabaaGreatDoor
open Go.RowKit
set_option linter.unusedSimpArgs false
set_option linter.unusedVariables false

def GetBad (w : World) (n : Nat) (e : Ending) (w' : World) : Prop := ∃ v, e = .returned (.tuple #[.slice none 0 0, v]) ∧ ErrR w' v n ∧ Below w.heap.size w w'
theorem below_drewN {w : World} (n : Nat) : Below w.heap.size w (w.drewN n) := ⟨rfl, rfl, rfl, Nat.le_refl _, fun _ _ => rfl⟩
set_option maxRecDepth 100000 in
set_option maxHeartbeats 1000000 in
theorem get_item (s : Blocks) (f d cap : Nat) (D : HdS) (b : Bool) (num : Nat) (fs : FileS) (T : List (List UInt8)) (size : Nat) (z : FzS) (t : Nat) (n : Int) (w : World)
    (h : FrzA w s f d cap D b num fs T size z) (ht : t < T.length) (hn : n < (z.tail : Int) ∨ (z.head : Int) ≤ n) (hh : z.head ≤ 1000000) :
    Calls Tryz.prog 15 #[.pointer (some ⟨f, 0, none⟩), .int .i64 (t : Int), .int .i64 n] w (GetBad w 121) := by
  obtain ⟨A, c, sd, iv, q, h⟩ := h
  obtain ⟨Ai, ci, hiv, hic, hcm2⟩ := h.items.slice
  subst hiv
  have HHD : Hid (Calls Tryz.prog 14 #[.pointer (some ⟨f, 0, none⟩)] w fun e w' => e = .returned (.int .i64 (z.head : Int)) ∧ ∃ q, w' = w.drewN q) := head_n f d z.tail z.items.length ci size _ Ai false false w h.blk (by unfold FzS.head at hh; omega)
  have c1 : w.cell? ⟨f, 1, none⟩ = some (.slice A T.length c) := h.blk.cell 1
  have c3 : w.cell? ⟨f, 3, none⟩ = some (.int .i64 (z.tail : Int)) := h.blk.cell 3
  have c6 : w.cell? ⟨f, 6, none⟩ = some (.bool false) := h.blk.cell 6
  obtain ⟨hv', hhv⟩ : ∃ hv', hv' = z.head := ⟨_, rfl⟩
  obtain ⟨zt, hzt⟩ : ∃ zt, zt = z.tail := ⟨_, rfl⟩
  obtain ⟨tn, htn⟩ : ∃ tn, tn = T.length := ⟨_, rfl⟩
  rw [← hhv] at HHD hn
  rw [← hzt] at c3 hn
  rw [← htn] at c1 ht
  have t1 : ¬ (t : Int) < 0 := by omega
  have t2 : ¬ (tn : Int) ≤ (t : Int) := by omega
  clear h hhv hzt htn hh
  by_cases h1 : n < (zt : Int)
  · clear hn
    go_enter Tryz.func15, Tryz.ntmps15
    go_wp2_with fail
    refine (failOf_calls _ 121 w).mono ?_
    rintro e w1 ⟨v, rfl, hv, hb1⟩
    have hfin : Hid (GetBad w 121 (.returned (.tuple #[.slice none 0 0, v])) w1) := ⟨v, rfl, hv, hb1⟩
    clear hv hb1
    go_wp2_with fail
    go_ret2
    exact hfin.out
  · have h2 : (hv' : Int) ≤ n := by omega
    clear hn
    go_enter Tryz.func15, Tryz.ntmps15
    go_wp2_with fail
    refine HHD.out.mono ?_
    rintro e w2 ⟨rfl, q2, rfl⟩
    go_wp2_with fail
    refine (failOf_calls _ 121 (w.drewN q2)).mono ?_
    rintro e w1 ⟨v, rfl, hv, hb1⟩
    have hfin : Hid (GetBad w 121 (.returned (.tuple #[.slice none 0 0, v])) w1) := ⟨v, rfl, hv, (below_drewN q2).trans hb1⟩
    clear hv hb1
    go_wp2_with fail
    go_ret2
    exact hfin.out
theorem spk_get (sp : List (Nat × Nat)) : ∀ (t a m : Nat), sp[t]? = some (a, m) → (spk sp)[t * 2]? = some (.int .i64 (a : Int)) ∧ (spk sp)[t * 2 + 1]? = some (.int .i64 (m : Int)) := by
  induction sp with
  | nil => intro t a m h; simp at h
  | cons x r ih =>
    intro t a m h
    cases t with
    | zero =>
      obtain rfl : x = (a, m) := by simpa using h
      exact ⟨rfl, rfl⟩
    | succ t =>
      have h1 := ih t a m (by simpa using h)
      have e : spk (x :: r) = .int .i64 (x.1 : Int) :: .int .i64 (x.2 : Int) :: spk r := rfl
      rw [e, Nat.add_mul, Nat.one_mul]
      exact h1
def GetOk (w : World) (xs : List UInt8) (e : Ending) (w' : World) : Prop := ∃ v, e = .returned (.tuple #[v, .nilIface]) ∧ OwnB w' w.heap.size v xs ∧ Below w.heap.size w w'
set_option maxRecDepth 100000 in
set_option maxHeartbeats 1000000 in
theorem get_ok (s : Blocks) (f d cap : Nat) (D : HdS) (b : Bool) (num : Nat) (fs : FileS) (T : List (List UInt8)) (size : Nat) (z : FzS) (t k a m : Nat) (sp : List (Nat × Nat)) (w : World)
    (h : FrzA w s f d cap D b num fs T size z) (hd : D.down = false) (ht : t < T.length) (hk : z.items[k]? = some sp) (hsp : sp[t]? = some (a, m)) (hh : z.head ≤ 1000000) (ham : a + m ≤ fs.bytes.length) (hbl : fs.bytes.length ≤ 140737488355328) :
    Calls Tryz.prog 15 #[.pointer (some ⟨f, 0, none⟩), .int .i64 (t : Int), .int .i64 ((z.tail + k : Nat) : Int)] w (GetOk w ((fs.bytes.drop a).take m)) := by
  obtain ⟨A, c, sd, iv, q, h⟩ := h
  have hkl : k < z.items.length := (List.getElem?_eq_some_iff.1 hk).1
  rcases h.items with ⟨_, e0⟩ | ⟨g, off, ci, cur, hiv, hB, hs1, hs2, hs3, hs4, hs5⟩
  · rw [e0] at hkl; simp at hkl
  subst hiv
  obtain ⟨sv, hsv1, hsv2⟩ := hs5 k sp hk
  have htl : t < sp.length := (List.getElem?_eq_some_iff.1 hsp).1
  obtain ⟨gs, cs, hsve, _, _, hlc, hcm⟩ : ∃ gs cs, sv = .slice (some ⟨gs, 0, none⟩) sp.length cs ∧ True ∧ True ∧ sp.length ≤ cs ∧ cs ≤ maxLen := by
    rcases hsv2.1.2 with ⟨_, e0⟩ | ⟨g', cap', cur', e, _, _, h1, h2, _⟩
    · omega
    · exact ⟨g', cap', e, trivial, trivial, h1, h2⟩
  subst hsve
  obtain ⟨hsp1, hsp2⟩ := spk_get sp t a m hsp
  have x0 : w.cell? ⟨g, off + k, none⟩ = some (.slice (some ⟨gs, 0, none⟩) sp.length cs) := by rw [hB.cell, hsv1]
  have x1 : w.cell? ⟨gs, t * 2, none⟩ = some (.int .i64 (a : Int)) := by rw [World.ownsRow.cellAt hsv2.1 (t * 2) (by omega), hsp1]
  have x2 : w.cell? ⟨gs, t * 2 + 1, none⟩ = some (.int .i64 (m : Int)) := by rw [World.ownsRow.cellAt hsv2.1 (t * 2 + 1) (by omega), hsp2]
  have HHD : Hid (Calls Tryz.prog 14 #[.pointer (some ⟨f, 0, none⟩)] w fun e w' => e = .returned (.int .i64 (z.head : Int)) ∧ ∃ q, w' = w.drewN q) := head_n f d z.tail z.items.length ci size _ (some ⟨g, off, none⟩) false false w h.blk (by unfold FzS.head at hh; omega)
  have HRA : Hid (∀ W, Below w.heap.size w W → Calls Tryz.prog 43 #[.pointer (some ⟨d, 0, none⟩), .string (str fName), .int .i64 (a : Int), .int .i64 (m : Int)] W (ReadR W ((fs.bytes.drop a).take m))) := fun W hW => dReadAt_calls d cap D b num fs sd a m W (h.disk.below hW) hd ham hbl
  have c0 : w.cell? ⟨f, 0, none⟩ = some (.pointer (some ⟨d, 0, none⟩)) := h.blk.cell 0
  have c1 : w.cell? ⟨f, 1, none⟩ = some (.slice A T.length c) := h.blk.cell 1
  have c3 : w.cell? ⟨f, 3, none⟩ = some (.int .i64 (z.tail : Int)) := h.blk.cell 3
  have c4 : w.cell? ⟨f, 4, none⟩ = some (.slice (some ⟨g, off, none⟩) z.items.length ci) := h.blk.cell 4
  have c6 : w.cell? ⟨f, 6, none⟩ = some (.bool false) := h.blk.cell 6
  obtain ⟨hv', hhv⟩ : ∃ hv', hv' = z.head := ⟨_, rfl⟩
  obtain ⟨zt, hzt⟩ : ∃ zt, zt = z.tail := ⟨_, rfl⟩
  obtain ⟨zn, hzn⟩ : ∃ zn, zn = z.items.length := ⟨_, rfl⟩
  obtain ⟨tn, htn⟩ : ∃ tn, tn = T.length := ⟨_, rfl⟩
  obtain ⟨ls, hls⟩ : ∃ ls, ls = sp.length := ⟨_, rfl⟩
  have hhz : hv' = zt + zn := by rw [hhv, hzt, hzn]; rfl
  obtain ⟨n, hn⟩ : ∃ n, n = zt + k := ⟨_, rfl⟩
  rw [← hhv] at HHD
  rw [← hzt] at c3 ⊢
  rw [← hzn] at c4 hkl
  rw [← htn] at c1 ht
  rw [← hls] at x0 htl hlc
  rw [← hn]
  have t1 : ¬ (t : Int) < 0 := by omega
  have t2 : ¬ (tn : Int) ≤ (t : Int) := by omega
  have n1 : ¬ (n : Int) < (zt : Int) := by omega
  have n2 : ¬ (hv' : Int) ≤ (n : Int) := by omega
  have n3 : (n : Int) - (zt : Int) = (k : Int) := by omega
  have kI : (0 : Int) ≤ (k : Int) ∧ (k : Int) < (zn : Int) := by omega
  have tI : (0 : Int) ≤ (t : Int) ∧ (t : Int) < (ls : Int) := by omega
  have nb : n ≤ 1000000 := by omega
  clear h hhv hzt htn hh hzn hls hhz hn hB hs1 hs2 hs3 hs4 hs5 hsv1 hsv2 hsp1 hsp2 hk hsp ham hbl hd hkl htl ht hlc hcm
  have hnm : (⟨#[111, 108, 100, 45, 108, 111, 103]⟩ : ByteArray) = str fName := rfl
  go_enter Tryz.func15, Tryz.ntmps15
  rw [hnm]
  clear hnm
  generalize str fName = nmS at *
  go_wp2_with fail
  refine HHD.out.mono ?_
  rintro e w2 ⟨rfl, q2, rfl⟩
  go_wp2_with fail
  generalize hw5 : World.drewN w q2 = w5
  have hb5 : Below w.heap.size w w5 := by rw [← hw5]; exact below_drewN q2
  have C0 := cell_below' hb5 c0
  have C3 := cell_below' hb5 c3
  have C4 := cell_below' hb5 c4
  have X0 := cell_below' hb5 x0
  have X1 := cell_below' hb5 x1
  have X2 := cell_below' hb5 x2
  have hbA : Below w5.heap.size w5 (w5.alloc (.cells #[.int .i64 0, .int .i64 0] 88)) := (Below.refl _ _).alloc (Nat.le_refl _) _
  have Y3 := cell_below' hbA C3
  have Y4 := cell_below' hbA C4
  have Y0 := cell_below' hbA X0
  have Y1 := cell_below' hbA X1
  have Y2 := cell_below' hbA X2
  clear c0 c1 c3 c4 c6 x0 x1 x2 hw5 HHD hbA
  go_region
  go_wp2_with fail
  generalize hbx : w5.heap.size = bx
  generalize hw8 : World.drew (w5.alloc _) = w8
  have hb8 : Below w.heap.size w w8 := by
    rw [← hw8]
    exact (hb5.alloc hb5.size _).drew
  have s0 : w8.cell? ⟨f, 0, none⟩ = some (.pointer (some ⟨d, 0, none⟩)) := by
    rw [← hw8]
    exact cell_below' ((Below.refl _ _).alloc (Nat.le_refl _) _) C0
  have BX : Blk w8 bx 88 #[.int .i64 (a : Int), .int .i64 (m : Int)] := by
    rw [← hw8, ← hbx]
    exact Blk.new w5 88 _
  have s1 : w8.cell? ⟨bx, 0, none⟩ = some (.int .i64 (a : Int)) := BX.cell 0
  have s2 : w8.cell? ⟨bx, 1, none⟩ = some (.int .i64 (m : Int)) := BX.cell 1
  have HB8 := Lib.hid hb8
  have HS : Hid (∀ W, Below w8.heap.size w8 W → W.cell? ⟨f, 0, none⟩ = some (.pointer (some ⟨d, 0, none⟩)) ∧ W.cell? ⟨bx, 0, none⟩ = some (.int .i64 (a : Int)) ∧ W.cell? ⟨bx, 1, none⟩ = some (.int .i64 (m : Int))) := fun W hW => ⟨cell_below' hW s0, cell_below' hW s1, cell_below' hW s2⟩
  clear hbx hw8 hb8 BX C0 C3 C4 X0 X1 X2 Y0 Y1 Y2 Y3 Y4 hb5
  go_region_held3 (fun W => W.cell? ⟨f, 0, none⟩ = some (.pointer (some ⟨d, 0, none⟩)) ∧ W.cell? ⟨bx, 0, none⟩ = some (.int .i64 (a : Int)) ∧ W.cell? ⟨bx, 1, none⟩ = some (.int .i64 (m : Int))) (first | exact ⟨s0, s1, s2⟩ | exact HS.out _ hb9) (first | (go_at_call 43; refine (HRA.out _ HB8.out.drew).mono ?_; rintro e w9 ⟨v9, rfl, ho9, hb9'⟩; have hb9 : Below w8.heap.size w8 w9 := ⟨hb9'.os, hb9'.tape, hb9'.output, hb9'.size, hb9'.block⟩))
  have hb10 : Below w.heap.size w w9 := HB8.out.trans (hb9.mono HB8.out.size)
  have ho10 : OwnB w9 w.heap.size v9 ((fs.bytes.drop a).take m) := OwnB.more (B := w8.heap.size) ho9 HB8.out.size
  have HO := Lib.hid ho10
  have HB10 := Lib.hid hb10
  clear ho9 hb9' hb9 hb10 ho10
  go_wp2_with fail
  refine (failOf_calls _ 0 w9).mono ?_
  rintro e w10 ⟨v, rfl, hv, hb11⟩
  obtain ⟨_, rfl⟩ | ⟨h0, _⟩ := hv
  rotate_left
  · exact absurd rfl h0
  have hfin : Hid (GetOk w ((fs.bytes.drop a).take m) (.returned (.tuple #[v9, .nilIface])) w10) := ⟨v9, rfl, HO.out.below hb11, thn HB10.out hb11⟩
  clear hb11
  go_wp2_with fail
  go_ret2
  exact hfin.out
end Go.Proofs.YtejnfahfjmeabaaGreatDoor
namespace Go.Proofs.YtejnfahfjmeabaaGreatDoor
open Go.RowKit
set_option linter.unusedSimpArgs false
set_option linter.unusedVariables false

def fileL (T : List (List UInt8)) (l : List Chg) : List UInt8 := headL T ++ logB crcN l
/-- a freezer on a calm disk: its log, its items -/
structure FZ (w : World) (s : Blocks) (f d cap N : Nat) (T : List (List UInt8)) (l : List Chg) (z : FzS) (items : List (List (List UInt8))) (D : HdS) (num : Nat) (fs : FileS) : Prop where
  frz : FrzA w s f d cap D true num fs T (fileL T l).length z
  calm : Calm D
  files : D.files ≤ 1000
  count : D.count ≤ N
  bytes : fs.bytes = fileL T l
  pend : fs.pend.length ≤ N
  play : z = (playC crcN (headL T).length z0 l).2
  valid : ValidC crcN T.length (headL T).length z0 l
  told : Told (fileL T l) z items
theorem FileS.settled_bytes (f : FileS) : f.settled.bytes = f.bytes := by
  unfold FileS.settled
  split <;> rfl
theorem FileS.settled_pend (f : FileS) : f.settled.pend = [] := by
  unfold FileS.settled
  split
  · assumption
  · rfl
theorem chgF_bytes (fs : FileS) (ys : List UInt8) (b : Bool) : (chgF fs ys b).bytes = fs.bytes ++ ys := by
  unfold chgF
  split
  · rw [FileS.settled_bytes]; rfl
  · rfl
theorem chgF_pend (fs : FileS) (ys : List UInt8) (b : Bool) : (chgF fs ys b).pend.length ≤ fs.pend.length + 1 := by
  unfold chgF
  split
  · rw [FileS.settled_pend]; simp
  · simp [FileS.app]
theorem chgD_calm {D : HdS} (h : Calm D) (b : Bool) : Calm (chgD D b) ∧ (chgD D b).files = D.files ∧ (chgD D b).count ≤ D.count + 2 := by
  unfold chgD
  split
  · exact ⟨h.tick.tick, rfl, by show D.count + 1 + 1 ≤ _; omega⟩
  · exact ⟨h.tick, rfl, by show D.count + 1 ≤ _; omega⟩
theorem fileL_snoc (T : List (List UInt8)) (l : List Chg) (c : Chg) : fileL T (l ++ [c]) = fileL T l ++ frameN (chgB c) := by
  unfold fileL
  rw [logB_snoc, List.append_assoc]
  rfl
theorem play_size (T : List (List UInt8)) (l : List Chg) : (playC crcN (headL T).length z0 l).1 = (fileL T l).length := by
  rw [playC_size]
  unfold fileL
  rw [List.length_append]
/-- a change was done -/
theorem FZ.chg {w w' : World} {s : Blocks} {f d cap N : Nat} {T : List (List UInt8)} {l : List Chg} {z : FzS} {items items' : List (List (List UInt8))} {D : HdS} {num : Nat} {fs : FileS} (h : FZ w s f d cap N T l z items D num fs) {c : Chg} {b : Bool} {e : Ending}
    (hr : ChgA w s f d cap D true num fs T (fileL T l).length z c b e w') (hok : OkC T.length z c) (hl : (chgB c).length ≤ 1048576)
    (ht : Told (fileL T l ++ frameN (chgB c)) (stepC (bodyAt (fileL T l).length (chgB c)) z c) items') :
    e = .returned .nilIface ∧ FZ w' (grow s w w') f d cap (N + 2) T (l ++ [c]) (stepC (bodyAt (fileL T l).length (chgB c)) z c) items' (chgD D b) num (chgF fs (frameN (chgB c)) b) ∧ Upd s s w w' := by
  obtain ⟨e1, h1, h2⟩ := hr
  obtain ⟨c1, c2, c3⟩ := chgD_calm h.calm b
  have hsn := fileL_snoc T l c
  have hps := playC_snoc crcN l (headL T).length z0 c
  rw [play_size] at hps
  refine ⟨e1, ⟨?_, c1, by rw [c2]; exact h.files, by have := h.count; omega, ?_, ?_, ?_, ?_, ?_⟩, h2⟩
  · rw [hsn, List.length_append]
    exact h1
  · rw [chgF_bytes, h.bytes, hsn]
  · have := chgF_pend fs (frameN (chgB c)) b
    have := h.pend
    omega
  · rw [hps, h.play]
  · refine ValidC_snoc crcN T.length l _ _ c h.valid ?_ hl
    rw [← h.play]
    exact hok
  · rw [hsn]
    exact ht
/-- an item is laid behind the others -/
theorem FZ.append {w : World} {s : Blocks} {f d cap N : Nat} {T : List (List UInt8)} {l : List Chg} {z : FzS} {items : List (List (List UInt8))} {D : HdS} {num : Nat} {fs : FileS} (h : FZ w s f d cap N T l z items D num fs)
    {V : Option Addr} {M cv : Nat} {vs : List (List UInt8)} (hT : T.length ≤ 8) (hv : RdM w V M cv vs) (hN : vs.length = T.length) (hvs : ∀ v ∈ vs, v.length ≤ 16384) (hh : z.head ≤ 1000000) (hbl : (bodyL 0 z.head vs).length ≤ 1048576)
    (hfit : (fileL T l).length + (frameN (bodyL 0 z.head vs)).length ≤ cap) (hcm : cap ≤ 67108864) (hNN : N ≤ 1000000) :
    Calls Tryz.prog 10 #[.pointer (some ⟨f, 0, none⟩), .int .i64 (z.head : Int), .slice V M cv] w fun e w' => e = .returned .nilIface ∧ (∃ z' D' fs', FZ w' (grow s w w') f d cap (N + 2) T (l ++ [(0, z.head, vs)]) z' (items ++ [vs]) D' num fs' ∧ z'.tail = z.tail ∧ z'.head = z.head + 1) ∧ Upd s s w w' := by
  have hf := h.files
  have hc := h.count
  have hp := h.pend
  refine (Append_calls s f d cap D true num fs T (fileL T l).length z V M cv vs w h.frz h.calm (by omega) (by omega) hT hv hN hvs hh hbl (by rw [h.bytes]; exact hfit) hcm (by omega) (by omega)).mono ?_
  intro e w' hr
  obtain ⟨h1, h2, h3⟩ := h.chg hr (.inl ⟨rfl, rfl, hN⟩) hbl (Told.app crcN h.told z.head vs)
  refine ⟨h1, ⟨_, _, _, h2, ?_, ?_⟩, h3⟩
  · simp [stepC]
  · simp [stepC, FzS.head]
    omega
theorem body_small (k n : Nat) (hk : k ≤ 1000000) (hn : n ≤ 1000000) : (bodyL k n []).length ≤ 20 := by
  have e : (bodyL k n []).length = (putL k).length + (putL n).length := by unfold bodyL valsB; simp
  have k1 := putL_len64 k (by omega)
  have k2 := putL_len64 n (by omega)
  omega
/-- the first ones are cut off -/
theorem FZ.cutTail {w : World} {s : Blocks} {f d cap N : Nat} {T : List (List UInt8)} {l : List Chg} {z : FzS} {items : List (List (List UInt8))} {D : HdS} {num : Nat} {fs : FileS} (h : FZ w s f d cap N T l z items D num fs) {n : Nat} (hT : T.length ≤ 8) (h1 : z.tail ≤ n) (h2 : n ≤ z.head) (hh : z.head ≤ 1000000)
    (hfit : (fileL T l).length + (frameN (bodyL 2 n [])).length ≤ cap) (hcm : cap ≤ 67108864) (hNN : N ≤ 1000000) :
    Calls Tryz.prog 12 #[.pointer (some ⟨f, 0, none⟩), .int .i64 (n : Int)] w fun e w' => e = .returned .nilIface ∧ (∃ z' D' fs', FZ w' (grow s w w') f d cap (N + 2) T (l ++ [(2, n, [])]) z' (items.drop (n - z.tail)) D' num fs' ∧ z'.tail = n ∧ z'.head = z.head) ∧ Upd s s w w' := by
  have hf := h.files
  have hc := h.count
  have hp := h.pend
  refine (TruncTail_calls s f d cap D true num fs T (fileL T l).length z n w h.frz h.calm (by omega) (by omega) hT h1 h2 hh (by rw [h.bytes]; exact hfit) hcm (by omega) (by omega)).mono ?_
  intro e w' hr
  obtain ⟨g1, g2, g3⟩ := h.chg hr (.inr ⟨.inr rfl, h1, h2, rfl⟩) (Nat.le_trans (body_small 2 n (by omega) (by omega)) (by omega)) (Told.cutTail crcN h.told _ n)
  refine ⟨g1, ⟨_, _, _, g2, ?_, ?_⟩, g3⟩
  · simp [stepC]
  · unfold FzS.head at h2 ⊢
    simp [stepC]
    omega
theorem FZ.cutHead {w : World} {s : Blocks} {f d cap N : Nat} {T : List (List UInt8)} {l : List Chg} {z : FzS} {items : List (List (List UInt8))} {D : HdS} {num : Nat} {fs : FileS} (h : FZ w s f d cap N T l z items D num fs) {n : Nat} (hT : T.length ≤ 8) (h1 : z.tail ≤ n) (h2 : n ≤ z.head) (hh : z.head ≤ 1000000)
    (hfit : (fileL T l).length + (frameN (bodyL 1 n [])).length ≤ cap) (hcm : cap ≤ 67108864) (hNN : N ≤ 1000000) :
    Calls Tryz.prog 11 #[.pointer (some ⟨f, 0, none⟩), .int .i64 (n : Int)] w fun e w' => e = .returned .nilIface ∧ (∃ z' D' fs', FZ w' (grow s w w') f d cap (N + 2) T (l ++ [(1, n, [])]) z' (items.take (n - z.tail)) D' num fs' ∧ z'.tail = z.tail ∧ z'.head = n) ∧ Upd s s w w' := by
  have hf := h.files
  have hc := h.count
  have hp := h.pend
  refine (TruncHead_calls s f d cap D true num fs T (fileL T l).length z n w h.frz h.calm (by omega) (by omega) hT h1 h2 hh (by rw [h.bytes]; exact hfit) hcm (by omega) (by omega)).mono ?_
  intro e w' hr
  obtain ⟨g1, g2, g3⟩ := h.chg hr (.inr ⟨.inl rfl, h1, h2, rfl⟩) (Nat.le_trans (body_small 1 n (by omega) (by omega)) (by omega)) (Told.cutHead crcN h.told _ n)
  refine ⟨g1, ⟨_, _, _, g2, ?_, ?_⟩, g3⟩
  · simp [stepC]
  · unfold FzS.head at h2 ⊢
    simp [stepC]
    omega
/-- an item's value is told -/
theorem FZ.get {w : World} {s : Blocks} {f d cap N : Nat} {T : List (List UInt8)} {l : List Chg} {z : FzS} {items : List (List (List UInt8))} {D : HdS} {num : Nat} {fs : FileS} (h : FZ w s f d cap N T l z items D num fs) {t k : Nat} {vs : List (List UInt8)} {v : List UInt8} (ht : t < T.length) (hk : items[k]? = some vs) (hv : vs[t]? = some v) (hh : z.head ≤ 1000000) (hcap : (fileL T l).length ≤ 140737488355328) :
    Calls Tryz.prog 15 #[.pointer (some ⟨f, 0, none⟩), .int .i64 (t : Int), .int .i64 ((z.tail + k : Nat) : Int)] w (GetOk w v) := by
  have hkl : k < z.items.length := by rw [h.told.1]; exact (List.getElem?_eq_some_iff.1 hk).1
  obtain ⟨hl, hr⟩ := h.told.2 k _ vs (List.getElem?_eq_getElem hkl) hk
  have htl : t < (z.items[k]'hkl).length := by rw [hl]; exact (List.getElem?_eq_some_iff.1 hv).1
  obtain ⟨⟨a, m⟩, hsp⟩ : ∃ p, (z.items[k]'hkl)[t]? = some p := ⟨_, List.getElem?_eq_getElem htl⟩
  obtain ⟨r1, r2, r3⟩ := hr t a m v hsp hv
  have := get_ok s f d cap D true num fs T (fileL T l).length z t k a m _ w h.frz h.calm.down ht (List.getElem?_eq_getElem hkl) hsp hh (by rw [h.bytes]; exact r2) (by rw [h.bytes]; exact hcap)
  rw [h.bytes, r3] at this
  exact this
theorem FZ.below {w w' : World} {s : Blocks} {f d cap N : Nat} {T : List (List UInt8)} {l : List Chg} {z : FzS} {items : List (List (List UInt8))} {D : HdS} {num : Nat} {fs : FileS} (h : FZ w s f d cap N T l z items D num fs) (hb : Below w.heap.size w w') : FZ w' s f d cap N T l z items D num fs := by
  obtain ⟨A, c, sd, iv, q, hf⟩ := h.frz
  exact ⟨⟨A, c, sd, iv, q, hf.below hb⟩, h.calm, h.files, h.count, h.bytes, h.pend, h.play, h.valid, h.told⟩
end Go.Proofs.YtejnfahfjmeabaaGreatDoor
namespace Go.Proofs.YtejnfahfjmeabaaGreatDoor
open Go.RowKit
set_option linter.unusedSimpArgs false
set_option linter.unusedVariables false

/-- a new disk's blocks -/
def three (a b c : Nat) : Blocks := fun k => k = a ∨ k = b ∨ k = c
theorem New_disk (cap : Nat) (hc : cap ≤ 67108864) (w : World) : Calls Tryz.prog 8 #[.int .i64 (cap : Int)] w fun e w' => ∃ d sd, e = .returned (.tuple #[.pointer (some ⟨d, 0, none⟩), .int .i64 0]) ∧ DiskN w' sd d cap hd0 ∧ (∀ k, sd k → w.heap.size ≤ k) ∧ Below w.heap.size w w' := by
  refine (New_calls cap hc w).mono ?_
  rintro e w' ⟨d, nm, sm, rfl, hB, hn, hs, hne, g1, g2, g3, hb⟩
  have l1 : nm < w'.heap.size := by obtain ⟨x, y, h, _⟩ := hn; exact (Array.getElem?_eq_some_iff.1 h).1
  have l2 : sm < w'.heap.size := by obtain ⟨x, y, h, _⟩ := hs; exact (Array.getElem?_eq_some_iff.1 h).1
  refine ⟨d, three d nm sm, rfl, ⟨nm, sm, hB, hn, hs, hne, .inl rfl, .inr (.inl rfl), .inr (.inr rfl), ?_⟩, ?_, hb⟩
  · rintro k (rfl | rfl | rfl)
    · exact hB.lt
    · exact l1
    · exact l2
  · rintro k (rfl | rfl | rfl) <;> assumption
theorem headL_len {T : List (List UInt8)} (h : TabsOk T) : (headL T).length ≤ 150 := by
  have h1 := tabB_len h
  have h2 := putL_len64 (tabB T).length (by omega)
  unfold headL
  rw [frameN_len]
  omega
theorem calm0 : Calm hd0 := ⟨rfl, rfl, rfl⟩
/-- a freezer that was opened on a new disk -/
theorem open_new (sd : Blocks) (d cap : Nat) (A : Option Addr) (n c : Nat) (T : List (List UInt8)) (w : World) (hD : DiskN w sd d cap hd0) (h : RdT w A n c T) (hT : TabsOk T) (hcap : 150 ≤ cap) (hcm : cap ≤ 67108864) :
    Calls Tryz.prog 9 #[.pointer (some ⟨d, 0, none⟩), .slice A n c] w fun e w' => ∃ f D fs, e = .returned (.tuple #[.pointer (some ⟨f, 0, none⟩), .nilIface]) ∧ FZ w' (grow sd w w') f d cap 10 T [] z0 [] D 0 fs ∧ Upd sd sd w w' ∧ w.heap.size ≤ f := by
  refine (Open_new sd d cap hd0 A n c T w hD h hT calm0 (by decide) (by decide) (Nat.le_trans (headL_len hT) hcap) hcm).mono ?_
  rintro e w' ⟨f, rfl, ⟨sd', A', c', iv, q, hF⟩, hU, hf⟩
  have hfl : fileL T [] = headL T := by unfold fileL logB; simp
  refine ⟨f, (mkT hd0).tick.tick.tick.tick, ((⟨[], [], []⟩ : FileS).app (headL T)).settled, rfl, ⟨⟨A', c', sd', iv, q, ?_⟩, ⟨rfl, rfl, rfl⟩, by decide, by decide, ?_, ?_, rfl, trivial, ⟨rfl, fun i sp vs h => by simp [z0] at h⟩⟩, hU, hf⟩
  · rw [hfl]
    exact hF
  · rw [FileS.settled_bytes, hfl]
    rfl
  · rw [FileS.settled_pend]
    decide
def knownT : List (List UInt8) := [[104, 101, 97, 100], [98, 111, 100, 121]]
theorem knownT_ok : TabsOk knownT := by
  refine ⟨by decide, by decide, ?_, by decide⟩
  intro s hs
  have : s = [104, 101, 97, 100] ∨ s = [98, 111, 100, 121] := by simpa [knownT] using hs
  rcases this with rfl | rfl
  · exact ⟨by decide, by decide, by decide⟩
  · exact ⟨by decide, by decide, by decide⟩
def valsW (w : World) (x y : Int) : World := ((w.alloc (.cells #[.int .u8 x] 5 (1, 2))).alloc (.cells #[.int .u8 y] 5 (1, 2))).alloc (.cells #[.slice (some ⟨w.heap.size, 0, none⟩) 1 1, .slice (some ⟨w.heap.size + 1, 0, none⟩) 1 1] 34)
theorem two_vals (w : World) (a b : UInt8) (x y : Int) (hx : x = (a.toNat : Int)) (hy : y = (b.toNat : Int)) : RdM (valsW w x y) (some ⟨w.heap.size + 1 + 1, 0, none⟩) 2 2 [[a], [b]] ∧ Below w.heap.size w (valsW w x y) := by
  subst hx hy
  obtain ⟨w1, h1⟩ : ∃ w1 : World, w1 = w.alloc (.cells #[.int .u8 (a.toNat : Int)] 5 (1, 2)) := ⟨_, rfl⟩
  obtain ⟨w2, h2⟩ : ∃ w2 : World, w2 = w1.alloc (.cells #[.int .u8 (b.toNat : Int)] 5 (1, 2)) := ⟨_, rfl⟩
  have z1 : w1.heap.size = w.heap.size + 1 := by rw [h1]; simp
  have z2 : w2.heap.size = w.heap.size + 1 + 1 := by rw [h2]; simp [z1]
  have e : valsW w (a.toNat : Int) (b.toNat : Int) = w2.alloc (.cells #[.slice (some ⟨w.heap.size, 0, none⟩) 1 1, .slice (some ⟨w.heap.size + 1, 0, none⟩) 1 1] 34) := by rw [h2, h1]; rfl
  have b1 : Below w.heap.size w w1 := by rw [h1]; exact (Below.refl _ _).alloc (Nat.le_refl _) _
  have b2 : Below w1.heap.size w1 w2 := by rw [h2]; exact (Below.refl _ _).alloc (Nat.le_refl _) _
  have b3 : Below w2.heap.size w2 (valsW w (a.toNat : Int) (b.toNat : Int)) := by rw [e]; exact (Below.refl _ _).alloc (Nat.le_refl _) _
  have ca : w1.cell? ⟨w.heap.size, 0, none⟩ = some (.int .u8 (a.toNat : Int)) := by
    rw [h1]
    exact cell_of_row _ w.heap.size 0 _ 5 _ (heap_alloc_new w _)
  have cb : w2.cell? ⟨w.heap.size + 1, 0, none⟩ = some (.int .u8 (b.toNat : Int)) := by
    rw [h2, ← z1]
    exact cell_of_row _ w1.heap.size 0 _ 5 _ (heap_alloc_new w1 _)
  have cc : ∀ j, (valsW w (a.toNat : Int) (b.toNat : Int)).cell? ⟨w.heap.size + 1 + 1, j, none⟩ = #[.slice (some ⟨w.heap.size, 0, none⟩) 1 1, Value.slice (some ⟨w.heap.size + 1, 0, none⟩) 1 1][j]? := fun j => by
    rw [e, ← z2]
    exact cell_of_row _ w2.heap.size j _ 34 _ (heap_alloc_new w2 _)
  have one_ : ∀ (W : World) (g : Nat) (u : UInt8), W.cell? ⟨g, 0, none⟩ = some (.int .u8 (u.toNat : Int)) → RdB W (some ⟨g, 0, none⟩) 1 1 [u] := fun W g u h => ⟨rfl, Nat.le_refl _, by unfold maxLen; omega, fun _ => ⟨_, rfl, fun j v hv => by
    match j, hv with
    | 0, hv => obtain rfl : u = v := Option.some.inj hv; rw [addr_at]; exact h
    | j + 1, hv => simp at hv⟩⟩
  refine ⟨⟨rfl, Nat.le_refl _, by unfold maxLen; omega, fun _ => ⟨_, rfl, fun j v hv => ?_⟩⟩, (b1.trans (b2.mono b1.size)).trans (b3.mono (Nat.le_trans b1.size b2.size))⟩
  match j, hv with
  | 0, hv =>
    obtain rfl : [a] = v := Option.some.inj hv
    exact ⟨some ⟨w.heap.size, 0, none⟩, 1, 1, by rw [addr_at, cc]; rfl, one_ _ _ a (cell_below' b3 (cell_below' b2 ca))⟩
  | 1, hv =>
    obtain rfl : [b] = v := Option.some.inj hv
    exact ⟨some ⟨w.heap.size + 1, 0, none⟩, 1, 1, by rw [addr_at, cc]; rfl, one_ _ _ b (cell_below' b3 cb)⟩
  | j + 2, hv => simp at hv
theorem body2 (k n : Nat) (hk : k < 128) (hn : n < 128) (a b : UInt8) : (bodyL k n [[a], [b]]).length ≤ 30 := by
  unfold bodyL valsB
  rw [putL_small k hk, putL_small n hn]
  simp [valB, putL_small 1 (by omega)]
theorem frame_small (b : List UInt8) (hb : b.length ≤ 30) : (frameN b).length ≤ 50 := by
  have := putL_len64 b.length (by omega)
  rw [frameN_len]
  omega
theorem logB1 (T : List (List UInt8)) (l : List Chg) (c : Chg) (n : Nat) (h : (fileL T l).length ≤ n) (hb : (chgB c).length ≤ 30) : (fileL T (l ++ [c])).length ≤ n + 50 := by
  rw [fileL_snoc, List.length_append]
  have := frame_small _ hb
  omega
theorem grow_ge {s : Blocks} {w w' : World} {B : Nat} (hs : ∀ k, s k → B ≤ k) (hB : B ≤ w.heap.size) : ∀ k, grow s w w' k → B ≤ k := fun k hk => by
  rcases hk with hk | hk
  · exact hs k hk
  · omega
theorem below_upd {s : Blocks} {w w1 w2 : World} {B : Nat} (h : Below B w w1) (hB : B ≤ w.heap.size) (hu : Upd s s w1 w2) (hs : ∀ k, s k → B ≤ k) : Below B w w2 := h.trans (hu.bel (Nat.le_trans hB h.size) hs)
theorem below_then {w w1 w2 : World} {B : Nat} (h : Below B w w1) (hB : B ≤ w.heap.size) (hb : Below w1.heap.size w1 w2) : Below B w w2 := h.trans (hb.mono (Nat.le_trans hB h.size))
theorem FZ.tailC {w : World} {s : Blocks} {f d cap N : Nat} {T : List (List UInt8)} {l : List Chg} {z : FzS} {items : List (List (List UInt8))} {D : HdS} {num : Nat} {fs : FileS} (h : FZ w s f d cap N T l z items D num fs) :
    Calls Tryz.prog 13 #[.pointer (some ⟨f, 0, none⟩)] w fun e w' => e = .returned (.int .i64 (z.tail : Int)) ∧ w' = w := by
  obtain ⟨A, c, sd, iv, q, hf⟩ := h.frz
  exact tail_n f d z.tail _ _ _ _ _ w hf.blk
theorem FZ.headC {w : World} {s : Blocks} {f d cap N : Nat} {T : List (List UInt8)} {l : List Chg} {z : FzS} {items : List (List (List UInt8))} {D : HdS} {num : Nat} {fs : FileS} (h : FZ w s f d cap N T l z items D num fs) (hh : z.head ≤ 1000000) :
    Calls Tryz.prog 14 #[.pointer (some ⟨f, 0, none⟩)] w fun e w' => e = .returned (.int .i64 (z.head : Int)) ∧ ∃ q, w' = w.drewN q := by
  obtain ⟨A, c, sd, iv, q, hf⟩ := h.frz
  obtain ⟨Ai, ci, hiv, _, _⟩ := hf.items.slice
  subst hiv
  exact head_n f d z.tail z.items.length ci _ _ Ai false false w hf.blk (by unfold FzS.head at hh; omega)
theorem Upd.bel0 {s : Blocks} {w w' : World} {B : Nat} (h : Upd s s w w') (hB : B ≤ w.heap.size) (hf : ∀ k, s k → B ≤ k) : Below B w w' := h.bel hB hf
set_option maxRecDepth 100000 in
set_option maxHeartbeats 1000000 in
theorem known_calls (w : World) (hg : Glob w) : Calls Tryz.prog 7 #[] w fun e w' => e = .returned (.bool true) ∧ Below w.heap.size w w' := by
  have HN := Lib.hid (New_disk 1048576 (by omega) w)
  have HG := Lib.hid hg
  have kc := fun (w : World) (C : Array Value) (n c : Nat) => Lib.run_convert_bytes_const (P := Tryz.prog) w 34 5 C n c Tryz.underlying34 Tryz.underlying5
  have kc2 : ∀ (w : World) (A : Obj) (C : Array Value) (n c : Nat), (convert 34 34 (.slice (some ⟨w.heap.size + 1, 0, none⟩) n c)).run Tryz.prog ((w.alloc A).alloc (.cells C 5)) = .ok (.slice (some ⟨w.heap.size + 1, 0, none⟩) n c) ((w.alloc A).alloc (.cells C 5 (C.size, C.size + 1))) := fun w A C n c => by
    have h := kc (w.alloc A) C n c
    have e : (w.alloc A).heap.size = w.heap.size + 1 := by simp
    rw [e] at h
    exact h
  clear hg
  go_enter Tryz.func7, Tryz.ntmps7
  go_wp2_with fail
  refine HN.out.mono ?_
  rintro e w1 ⟨d, sd, rfl, hD, hge, hb1⟩
  obtain ⟨TX, hTX⟩ : ∃ TX : Obj, TX = .cells #[.string ⟨#[104, 101, 97, 100]⟩, .string ⟨#[98, 111, 100, 121]⟩] 9 := ⟨_, rfl⟩
  have hba : Below w1.heap.size w1 (w1.alloc TX) := (Below.refl _ _).alloc (Nat.le_refl _) _
  have hrt : RdT (w1.alloc TX) (some ⟨w1.heap.size, 0, none⟩) 2 2 knownT := ⟨rfl, Nat.le_refl _, by unfold maxLen; omega, fun _ => ⟨_, _, rfl, fun j s hs => by
    rw [hTX, (Blk.new w1 9 _).cell]
    match j, hs with
    | 0, hs => obtain rfl : _ = s := Option.some.inj hs; rfl
    | 1, hs => obtain rfl : _ = s := Option.some.inj hs; rfl
    | j + 2, hs => simp [knownT] at hs⟩⟩
  have HO := Lib.hid (open_new sd d 1048576 _ 2 2 knownT (w1.alloc TX) (hD.below hba) hrt knownT_ok (by omega) (by omega))
  have HB1 := Lib.hid hb1
  have HBA := Lib.hid hba
  have HGE := Lib.hid hge
  have HTX := Lib.hid hTX
  rw [hTX] at HO
  clear hD hge hb1 hba hrt hTX
  go_wp2_with fail
  refine HO.out.mono ?_
  rintro e w2 ⟨f, D2, fs2, rfl, hF2, hU2, hf2⟩
  have HF2 := Lib.hid hF2
  have HU2 := Lib.hid hU2
  clear hF2 hU2
  obtain ⟨hv2, hbv2⟩ := two_vals w2 120 121 120 121 rfl rfl
  have FA : (fileL knownT []).length ≤ 150 := by
    have e : fileL knownT [] = headL knownT := by unfold fileL logB; simp
    rw [e]
    exact headL_len knownT_ok
  have HAP := Lib.hid ((HF2.out.below hbv2).append (vs := [[120], [121]]) (by decide) hv2 rfl (by decide) (by decide) (Nat.le_trans (body2 0 0 (by omega) (by omega) 120 121) (by omega)) (Nat.le_trans (Nat.add_le_add FA (frame_small _ (body2 0 0 (by omega) (by omega) 120 121))) (by omega)) (by omega) (by omega))
  have HFA := Lib.hid FA
  have HBV2 := Lib.hid hbv2
  clear hv2 hbv2 FA
  go_wp2_with fail
  refine HAP.out.mono ?_
  rintro e w3 ⟨rfl, ⟨z1, D3, fs3, hF3, hz1, hz1'⟩, hU3⟩
  have HF3 := Lib.hid hF3
  have hz1h : z1.head = 1 := hz1'
  have HZ1 := Lib.hid (show z1.tail = 0 ∧ z1.head = 1 from ⟨hz1, hz1h⟩)
  have FA3 := logB1 knownT [] (0, 0, [[120], [121]]) 150 HFA.out (body2 0 0 (by omega) (by omega) 120 121)
  obtain ⟨hv3, hbv3⟩ := two_vals w3 122 119 122 119 rfl rfl
  have h := (HF3.out.below hbv3).append (vs := [[122], [119]]) (by decide) hv3 rfl (by decide) (by rw [HZ1.out.2]; omega) (by rw [HZ1.out.2]; exact Nat.le_trans (body2 0 1 (by omega) (by omega) 122 119) (by omega)) (by rw [HZ1.out.2]; exact Nat.le_trans (Nat.add_le_add FA3 (frame_small _ (body2 0 1 (by omega) (by omega) 122 119))) (by omega)) (by omega) (by omega)
  rw [HZ1.out.2] at h
  have HAP3 := Lib.hid h
  clear h
  have HFA3 := Lib.hid FA3
  have HBV3 := Lib.hid hbv3
  have HU3 := Lib.hid hU3
  clear hv3 hbv3 FA3 hF3 hU3 hz1 hz1' hz1h
  go_wp2_with fail
  refine HAP3.out.mono ?_
  rintro e w4 ⟨rfl, ⟨z2, D4, fs4, hF4, hz2, hz2'⟩, hU4⟩
  have HF4 := Lib.hid hF4
  have HZ2 := Lib.hid (show z2.tail = 0 ∧ z2.head = 2 from ⟨hz2.trans HZ1.out.1, hz2'⟩)
  have FA4 := logB1 knownT ([] ++ [(0, 0, [[120], [121]])]) (0, 1, [[122], [119]]) 200 HFA3.out (body2 0 1 (by omega) (by omega) 122 119)
  have h := HF4.out.cutTail (n := 1) (by decide) (by rw [HZ2.out.1]; omega) (by rw [HZ2.out.2]; omega) (by rw [HZ2.out.2]; omega) (Nat.le_trans (Nat.add_le_add FA4 (frame_small _ (Nat.le_trans (body_small 2 1 (by omega) (by omega)) (by omega)))) (by omega)) (by omega) (by omega)
  have HCT := Lib.hid h
  have HFA4 := Lib.hid FA4
  have HU4 := Lib.hid hU4
  clear h FA4 hF4 hU4 hz2 hz2'
  go_wp2_with fail
  refine HCT.out.mono ?_
  rintro e w5 ⟨rfl, ⟨z3, D5, fs5, hF5, hz3, hz3'⟩, hU5⟩
  have HF5 := Lib.hid hF5
  have HZ3 := Lib.hid (show z3.tail = 1 ∧ z3.head = 2 from ⟨hz3, hz3'.trans HZ2.out.2⟩)
  have HU5 := Lib.hid hU5
  have FA5 := logB1 knownT _ (2, 1, []) 250 HFA4.out (Nat.le_trans (body_small 2 1 (by omega) (by omega)) (by omega))
  have h := HF5.out.get (t := 1) (k := 0) (vs := [[122], [119]]) (v := [119]) (by decide) (by rw [HZ2.out.1]; rfl) rfl (by rw [HZ3.out.2]; omega) (Nat.le_trans FA5 (by omega))
  rw [HZ3.out.1] at h
  have HGT := Lib.hid h
  clear h FA5 hF5 hU5 hz3 hz3'
  go_wp2_with fail
  refine HGT.out.mono ?_
  rintro e w6 ⟨v6, rfl, ho6, hb6⟩
  have hF6 := HF5.out.below hb6
  have HGB := Lib.hid (get_item _ f d 1048576 D5 true 0 fs5 knownT _ z3 0 0 w6 hF6.frz (by decide) (.inl (by rw [HZ3.out.1]; decide)) (by rw [HZ3.out.2]; omega))
  have HF6 := Lib.hid hF6
  have HO6 := Lib.hid ho6
  have HB6 := Lib.hid hb6
  clear hF6 ho6 hb6
  go_wp2_with fail
  refine HGB.out.mono ?_
  rintro e w7 ⟨v7, rfl, hv7, hb7⟩
  have hF7 := HF6.out.below hb7
  obtain ⟨A7, c7, hv6, hr6⟩ := HO6.out.reads
  have hr7 := hr6.below hb7
  subst hv6
  have hcv := run_convertB (P := Tryz.prog) w7 34 5 9 Tryz.underlying34 Tryz.underlying5 Tryz.underlying9 hr7
  have hBZ : Below w.heap.size w w7 := by
    have B0 : w.heap.size ≤ w.heap.size := Nat.le_refl _
    have a1 := below_then HB1.out B0 HBA.out
    rw [HTX.out] at a1
    have a2 := below_upd a1 B0 HU2.out HGE.out
    have g2 := grow_ge (w' := w2) HGE.out a1.size
    have a2v := below_then a2 B0 HBV2.out
    have a3 := below_upd a2v B0 HU3.out g2
    have g3 := grow_ge (w' := w3) g2 a2v.size
    have a3v := below_then a3 B0 HBV3.out
    have a4 := below_upd a3v B0 HU4.out g3
    have g4 := grow_ge (w' := w4) g3 a3v.size
    have a5 := below_upd a4 B0 HU5.out g4
    have a6 := below_then a5 B0 HB6.out
    exact below_then a6 B0 hb7
  have HBZ := Lib.hid hBZ
  have HOF := Lib.hid (Of_calls v7 121 w7 (HG.out.below hBZ).err hv7)
  have HF7 := Lib.hid hF7
  have e119 : str [119] = (⟨#[119]⟩ : ByteArray) := rfl
  rw [e119] at hcv
  have hcv1 : (convert 34 9 (.slice A7 1 c7)).run Tryz.prog w7 = .ok (.string ⟨#[119]⟩) w7 := hcv
  clear hcv
  clear hBZ hv7 hb7 hF7 hr6 hr7 e119
  go_wp2_with fail
  refine HOF.out.mono ?_
  rintro e w8 ⟨rfl, hb8⟩
  have hF8 := HF7.out.below hb8
  have HT8 := hF8.tailC
  rw [HZ3.out.1] at HT8
  have HHT := Lib.hid HT8
  have HH8 := hF8.headC (by rw [HZ3.out.2]; omega)
  rw [HZ3.out.2] at HH8
  have HHH := Lib.hid HH8
  have HB8 := Lib.hid (below_then HBZ.out (Nat.le_refl _) hb8)
  clear hb8 hF8 HT8 HH8
  go_wp2_with fail
  refine HHT.out.mono ?_
  rintro e w9 ⟨rfl, rfl⟩
  go_wp2_with fail
  refine HHH.out.mono ?_
  rintro e w9 ⟨rfl, q9, rfl⟩
  go_wp2_with fail
  go_ret
  exact ⟨rfl, below_then HB8.out (Nat.le_refl _) (below_drewN q9)⟩
end Go.Proofs.YtejnfahfjmeabaaGreatDoor
namespace Go.Proofs.YtejnfahfjmeabaaGreatDoor
open Go.RowKit
set_option linter.unusedSimpArgs false
set_option linter.unusedVariables false

/-- cut at each byte c -/
def consHead (b : UInt8) : List (List UInt8) → List (List UInt8)
  | [] => [[b]]
  | h :: t => (b :: h) :: t
def splitL (c : UInt8) : List UInt8 → List (List UInt8)
  | [] => [[]]
  | b :: l => if b = c then [] :: splitL c l else consHead b (splitL c l)
theorem splitL_ne (c : UInt8) (l : List UInt8) : splitL c l ≠ [] := by
  cases l with
  | nil => simp [splitL]
  | cons b l =>
    unfold splitL
    split
    · simp
    · cases splitL c l <;> simp [consHead]
theorem split_one (c : UInt8) : ∀ l : List UInt8, Lib.split l [c] = splitL c l
  | [] => by
    unfold Lib.split
    rw [Lib.count_one]
    rfl
  | b :: l => by
    have ih := split_one c l
    unfold Lib.split at ih ⊢
    by_cases h : b = c
    · subst h
      rw [Lib.count_cons_eq, Nat.add_comm, Lib.splitK]
      have hix : Lib.index (b :: l) [b] = 0 := by rw [Lib.index]; simp [List.isPrefixOf]
      rw [hix, if_neg (by decide)]
      show [] :: Lib.splitK [b] 0 (Lib.count l [b]) l = _
      rw [ih, splitL, if_pos rfl]
    · rw [Lib.count_cons_ne b c l h, splitL, if_neg h, ← ih]
      have hp : ([c] : List UInt8).isPrefixOf (b :: l) = false := by simp [List.isPrefixOf, Ne.symm h]
      have hix : Lib.index (b :: l) [c] = if Lib.index l [c] == -1 then -1 else Lib.index l [c] + 1 := by rw [Lib.index, hp]; simp
      cases hn : Lib.count l [c] with
      | zero => rfl
      | succ k =>
        rw [Lib.splitK, Lib.splitK]
        by_cases hm : Lib.index l [c] = -1
        · have h1 : (Lib.index l [c] == -1) = true := by rw [hm]; rfl
          rw [hix, h1]
          rfl
        · have hge := Lib.index_ge l [c]
          have h1 : (Lib.index l [c] == -1) = false := by simpa using hm
          have h2 : (Lib.index l [c] + 1 == -1) = false := by simp; omega
          have h3 : (Lib.index l [c] + 1).toNat = (Lib.index l [c]).toNat + 1 := by omega
          rw [hix, h1]
          simp only [Bool.false_eq_true, if_false, h2, h3, consHead]
          rfl
theorem split_count (c : UInt8) (l : List UInt8) : (splitL c l).length = Lib.count l [c] + 1 := by
  induction l with
  | nil => rw [Lib.count_one]; rfl
  | cons b l ih =>
    by_cases h : b = c
    · subst h
      rw [splitL, if_pos rfl, List.length_cons, ih, Lib.count_cons_eq]; omega
    · rw [splitL, if_neg h, Lib.count_cons_ne b c l h, ← ih]
      cases hs : splitL c l with
      | nil => exact absurd hs (splitL_ne c l)
      | cons x t => rfl
theorem splitL_len (c : UInt8) (l : List UInt8) : (splitL c l).length ≤ l.length + 1 := by
  rw [split_count, Lib.count_one]
  have := List.count_le_length (a := c) (l := l)
  omega
def svs (ss : List (List UInt8)) : List Value := ss.map fun s => Value.string (str s)
theorem Split_calls (xs : List UInt8) (w : World) (hx : xs.length ≤ 100000000) (hg : Glob w) :
    Calls Tryz.prog 59 #[.string (str xs), .string ⟨#[32]⟩] w fun e w' => e = .returned (.slice (some ⟨w.heap.size, 0, none⟩) (splitL 32 xs).length (splitL 32 xs).length) ∧ w' = w.alloc (.cells (svs (splitL 32 xs)).toArray 9) := by
  obtain ⟨m, hm⟩ := hg.max
  have h := Tryz.strings_Split (str xs) ⟨#[32]⟩ m w (by rw [str_size]; omega) hm (by decide)
  have hc : Lib.countB (str xs) ⟨#[32]⟩ = Lib.count xs [32] := rfl
  have hd := Lib.splitB_data ⟨#[32]⟩ 0 (Lib.count xs [32]) (str xs)
  have he : (Lib.splitB ⟨#[32]⟩ 0 (Lib.countB (str xs) ⟨#[32]⟩) (str xs)).map Value.string = svs (splitL 32 xs) := by
    rw [hc, ← split_one]
    unfold Lib.split svs
    have e2 : Lib.splitK [32] 0 (Lib.count xs [32]) xs = (Lib.splitB ⟨#[32]⟩ 0 (Lib.count xs [32]) (str xs)).map (·.data.toList) := hd.symm
    rw [e2, List.map_map]
    apply List.map_congr_left
    intro b _
    show Value.string b = Value.string (str b.data.toList)
    rw [str_eta]
  rw [he, hc, ← split_count] at h
  exact h
theorem splitL_app (c : UInt8) (r : List UInt8) : ∀ x : List UInt8, (∀ b ∈ x, b ≠ c) → splitL c (x ++ c :: r) = x :: splitL c r
  | [], _ => by rw [List.nil_append, splitL, if_pos rfl]
  | b :: x, h => by
    rw [List.cons_append, splitL, if_neg (h b (by simp)), splitL_app c r x (fun b' hb' => h b' (by simp [hb']))]
    rfl
theorem splitL_none (c : UInt8) : ∀ x : List UInt8, (∀ b ∈ x, b ≠ c) → splitL c x = [x]
  | [], _ => rfl
  | b :: x, h => by
    rw [splitL, if_neg (h b (by simp)), splitL_none c x (fun b' hb' => h b' (by simp [hb']))]
    rfl
theorem splitL_tail (c : UInt8) : ∀ (xs : List (List UInt8)) (x : List UInt8), (∀ y ∈ x :: xs, ∀ b ∈ y, b ≠ c) → splitL c (x ++ (xs.map fun y => c :: y).flatten) = x :: xs
  | [], x, h => by
    rw [List.map_nil, List.flatten_nil, List.append_nil]
    exact splitL_none c x (h x (by simp))
  | y :: xs, x, h => by
    rw [List.map_cons, List.flatten_cons, List.cons_append, splitL_app c _ x (h x (by simp)), splitL_tail c xs y (fun z hz => h z (List.mem_cons_of_mem _ hz))]
theorem splitL_join (c : UInt8) (x : List UInt8) (xs : List (List UInt8)) (h : ∀ y ∈ x :: xs, ∀ b ∈ y, b ≠ c) : splitL c (Lib.join (x :: xs) [c]) = x :: xs := by
  rw [Lib.join_cons]
  exact splitL_tail c xs x h
theorem split_tab {T : List (List UInt8)} (h : TabsOk T) : splitL 32 (tabB T) = T := by
  cases T with
  | nil => exact absurd h.1 (by decide)
  | cons x xs =>
    refine splitL_join 32 x xs (fun y hy b hb e => ?_)
    have := (h.2.2.1 y hy).2.2 b hb
    rw [e] at this
    exact absurd this.1 (by decide)
theorem Equal_calls (b1 c1 : Nat) (A2 : Option Addr) (n2 c2 : Nat) (X Y : List (List UInt8)) (w : World) (hX : ∀ (j : Nat) s, X[j]? = some s → w.cell? ⟨b1, 0 + j, none⟩ = some (.string (str s))) (hY : RdT w A2 n2 c2 Y) (hY1 : 1 ≤ Y.length) (hb : X.length ≤ 1000000) (hb2 : Y.length ≤ 1000000) :
    Calls Tryz.prog 58 #[.slice (some ⟨b1, 0, none⟩) X.length c1, .slice A2 n2 c2] w fun e w' => e = .returned (.bool (decide (X = Y))) ∧ ∃ q, w' = w.drewN q := by
  obtain ⟨g, o, rfl, hc⟩ := hY.2.2.2 (by rw [← hY.1]; exact hY1)
  have hyn := hY.1
  subst hyn
  have e1 : ∀ (Z : List (List UInt8)) j, (Z.map str).getD j ByteArray.empty = str (Z.getD j []) := fun Z j => by
    rw [List.getD_eq_getElem?_getD, List.getElem?_map, List.getD_eq_getElem?_getD]
    cases Z[j]? <;> rfl
  have hg : ∀ (Z : List (List UInt8)) j, j < Z.length → Z[j]? = some (Z.getD j []) := fun Z j hj => by rw [List.getD_eq_getElem?_getD, List.getElem?_eq_getElem hj]; rfl
  have := Tryz.slices_Equal_string b1 0 X.length c1 g o Y.length c2 (X.map str) (Y.map str) w (by rw [List.length_map]; exact Nat.le_refl _) (by rw [List.length_map]; exact Nat.le_refl _) (by omega) (by omega)
    (fun j hj => by rw [List.length_map] at hj; rw [e1]; exact hX j _ (hg X j hj)) (fun j hj => by rw [List.length_map] at hj; rw [e1]; exact hc j _ (hg Y j hj))
  refine this.mono ?_
  rintro e w' ⟨rfl, hq⟩
  refine ⟨?_, hq⟩
  congr 2
  rw [List.take_of_length_le (by rw [List.length_map]; exact Nat.le_refl _), List.take_of_length_le (by rw [List.length_map]; exact Nat.le_refl _)]
  have hi : X.map str = Y.map str ↔ X = Y := ⟨fun h => by
    have h2 := congrArg (List.map (fun b : ByteArray => b.data.toList)) h
    rw [List.map_map, List.map_map] at h2
    have e : ∀ Z : List (List UInt8), Z.map ((fun b : ByteArray => b.data.toList) ∘ str) = Z := fun Z => List.map_id'' (fun _ => rfl) Z
    rw [e, e] at h2
    exact h2, fun h => by rw [h]⟩
  exact decide_eq_decide.2 hi
end Go.Proofs.YtejnfahfjmeabaaGreatDoor
