/- the texts D22 of this proof, one behind the other -/
import Derived.Test.YtfjfjjcdlgdbcaaDoorF13
import Derived.Laws.EntriesVeiled
import Derived.Deep.Cut
namespace Go.Proofs.YtfjfjjcdlgdbcaaDoor
open Go.RowKit
set_option linter.unusedSimpArgs false
set_option linter.unusedVariables false

set_option maxRecDepth 100000 in
set_option maxHeartbeats 2000000 in
theorem readNonce_calls (s : List UInt8) (b : Nat) (e : EntP) (c sl : Value) (w : World) (hs : s.length ≤ 100000000) (hB : Blk w b 79 (ek e c sl)) (hF : e.Fit) (hL : ∀ W, w.grownBy W (some b) → LaidW W) :
    Calls Tryd.prog 93 #[.string (str s), .pointer (some ⟨b, 0, none⟩)] w fun en w' => w.grownBy w' (some b) ∧
      ((∃ n, nonceL s = some n ∧ en = .returned (.bool true) ∧ Blk w' b 79 (ek { e with nonce := n } c sl)) ∨ (nonceL s = none ∧ en = .returned (.bool false) ∧ ∃ n, n < 18446744073709551616 ∧ Blk w' b 79 (ek { e with nonce := n } c sl))) := by
  have hLw := hL w (gr_below (Below.refl _ _))
  have hc := Lib.hid (Tryd.ParseUint_all (str s) (by rw [str_size]; omega) w hLw.syn hLw.rng)
  have HB := Lib.hid hB
  have HF := Lib.hid hF
  have HL := Lib.hid hL
  have hlt := hB.lt
  clear hB hF hL hLw
  go_enter Tryd.func93, Tryd.ntmps93
  go_wp2_with fail
  refine hc.out.mono ?_
  rintro en w2 ⟨hb2, (⟨v, hv, rfl⟩ | ⟨hno, n, N, hn, rfl⟩)⟩
  all_goals
    have hB2 := HB.out.below hb2 hlt
    have hf := hB2.frozen 20
    have hcl := (hB2.cell 20).trans (ek_nonce e c sl HF.out)
  · have hv : Lib.parseUintB 64 s = .ok v := hv
    have hnl := Lib.hid (nonceL_ok hv)
    have hv64 := parse64_lt hv
    have hset := Lib.hid (hB2.set_ 20 (.int .u64 (v : Int)))
    rw [set_enonce e c sl v HF.out] at hset
    have hgr := Lib.hid (gr_setCell (gr_below (g := b) hb2) 20 (.int .u64 (v : Int)))
    have hfu := Lib.hid (FormatUint_calls v _ hv64 (HL.out _ hgr.out))
    have hcmp : ((str (Lib.decDigits v)).toList == (str s).toList) = decide (Lib.decDigits v = s) := by rw [str_list, str_list, Bool.eq_iff_iff]; simp
    clear hv hB2
    go_wp2_with (go_at_call 49; refine hfu.out.mono ?_; rintro en w3 ⟨rfl, hb3⟩)
    go_ret
    refine ⟨gr_then hgr.out hb3, ?_⟩
    have hB3 := hset.out.below hb3 hset.out.lt
    by_cases hi : Lib.decDigits v = s
    · exact .inl ⟨v, by rw [hnl.out, if_pos hi], by simp [hi], hB3⟩
    · exact .inr ⟨by rw [hnl.out, if_neg hi], by simp [hi], v, hv64, hB3⟩
  · have hno : ∀ v, Lib.parseUintB 64 s ≠ .ok v := hno
    have hnl := Lib.hid (nonceL_no hno)
    have hset := Lib.hid (hB2.set_ 20 (.int .u64 (n : Int)))
    rw [set_enonce e c sl n HF.out] at hset
    have hgr := Lib.hid (gr_setCell (gr_below (g := b) hb2) 20 (.int .u64 (n : Int)))
    clear hno hB2
    go_wp2
    go_ret
    exact ⟨hgr.out, .inr ⟨hnl.out, rfl, n, hn, hset.out⟩⟩

/-- an account with nothing -/
def zE0 : EntP := ⟨List.replicate 20 0, 0, z32w, [], []⟩
theorem zE0_fit : zE0.Fit := ⟨by simp [zE0], by show 0 < 18446744073709551616; omega, by simp [zE0, z32w], fun h hh => by cases hh⟩
theorem zE0_zero : ek zE0 (.slice none 0 0) (.slice none 0 0) = #[.int .u8 0, .int .u8 0, .int .u8 0, .int .u8 0, .int .u8 0, .int .u8 0, .int .u8 0, .int .u8 0, .int .u8 0, .int .u8 0, .int .u8 0, .int .u8 0, .int .u8 0, .int .u8 0, .int .u8 0, .int .u8 0, .int .u8 0, .int .u8 0, .int .u8 0, .int .u8 0, .int .u64 0, .int .u8 0, .int .u8 0, .int .u8 0, .int .u8 0, .int .u8 0, .int .u8 0, .int .u8 0, .int .u8 0, .int .u8 0, .int .u8 0, .int .u8 0, .int .u8 0, .int .u8 0, .int .u8 0, .int .u8 0, .int .u8 0, .int .u8 0, .int .u8 0, .int .u8 0, .int .u8 0, .int .u8 0, .int .u8 0, .int .u8 0, .int .u8 0, .int .u8 0, .int .u8 0, .int .u8 0, .int .u8 0, .int .u8 0, .int .u8 0, .int .u8 0, .int .u8 0, .slice none 0 0, .slice none 0 0] := by kernel_rfl
/-- what the word at k is read as, into an account -/
def rdW (ws : List (List UInt8)) (k : Nat) (e : EntP) : Option EntP :=
  match k with
  | 0 => if ws.getD 0 [] = accW then some e else none
  | 1 => if (undigL (ws.getD 1 [])).2 = true ∧ (undigL (ws.getD 1 [])).1.length = 20 then some { e with addr := (undigL (ws.getD 1 [])).1 } else none
  | 2 => (nonceL (ws.getD 2 [])).map fun n => { e with nonce := n }
  | 3 => (undecL (ws.getD 3 [])).map fun n => { e with bal := beL n 32 }
  | 4 => if (undigL (ws.getD 4 [])).2 = true then some { e with code := (undigL (ws.getD 4 [])).1 } else none
  | _ => none
def accK (ws : List (List UInt8)) : Nat → Option EntP
  | 0 => some zE0
  | k + 1 => (accK ws k).bind (rdW ws k)
/-- the account of words -/
def accL (ws : List (List UInt8)) : Option EntP := if ws.length = 5 then accK ws 5 else none
theorem accK_none (ws : List (List UInt8)) (j : Nat) (h : accK ws j = none) : ∀ i, accK ws (j + i) = none
  | 0 => h
  | i + 1 => by rw [← Nat.add_assoc, accK, accK_none ws j h i]; rfl
theorem accK_fail (ws : List (List UInt8)) (k : Nat) (e : EntP) (hk : k < 5) (h : accK ws k = some e) (h1 : rdW ws k e = none) : accK ws 5 = none := by
  have h2 : accK ws (k + 1) = none := by rw [accK, h]; exact h1
  have := accK_none ws (k + 1) h2 (4 - k)
  rwa [show k + 1 + (4 - k) = 5 by omega] at this
theorem accK_more (ws : List (List UInt8)) (k : Nat) (e e' : EntP) (h : accK ws k = some e) (h1 : rdW ws k e = some e') : accK ws (k + 1) = some e' := by
  rw [accK, h]; exact h1
def AccEnd (w : World) (ws : List (List UInt8)) (en : Ending) (w' : World) : Prop := Below w.heap.size w w' ∧
  ((accL ws = none ∧ ∃ cs : Array Value, cs.size = 55 ∧ AllOne cs.toList ∧ en = .returned (.tuple #[.agg cs, .bool false])) ∨
   (∃ e v, accL ws = some e ∧ e.Fit ∧ e.slots = [] ∧ en = .returned (.tuple #[.agg (ek e v (.slice none 0 0)), .bool true]) ∧ OwnB w' w.heap.size v e.code))
/-- what stands in an account's variable behind k readers -/
def AccSt (W : World) (b : Nat) (ws : List (List UInt8)) (k : Nat) (wr : World) : Prop :=
  W.grownBy wr (some b) ∧ ∃ e v, accK ws k = some e ∧ e.Fit ∧ e.slots = [] ∧ Blk wr b 79 (ek e v (.slice none 0 0)) ∧ OwnB wr W.heap.size v e.code

/-- accounted's readers -/
def fns (b : Nat) : Array Value := #[.func (.func 90) #[] #[], .func (.func 91) #[] #[.pointer (some ⟨b, 0, none⟩)], .func (.func 93) #[] #[.pointer (some ⟨b, 0, none⟩)], .func (.func 95) #[] #[.pointer (some ⟨b, 0, none⟩)], .func (.func 97) #[] #[.pointer (some ⟨b, 0, none⟩)]]
theorem fns_one (b : Nat) : AllOne (fns b).toList := by
  intro v hv
  simp only [fns, List.mem_cons, List.not_mem_nil, or_false] at hv
  rcases hv with rfl | rfl | rfl | rfl | rfl <;> rfl
theorem Tryd.agg154 : AggT Tryd.prog 154 5 := by
  refine ⟨?_, by kernel_rfl⟩
  rw [Tryd.underlying154]; exact rfl
theorem idx_fns (b : Nat) (W : World) :
    (Instr.index 154 (.agg (fns b)) (.int .i64 0)).run Tryd.prog W = .ok (.func (.func 90) #[] #[]) W ∧
    (Instr.index 154 (.agg (fns b)) (.int .i64 1)).run Tryd.prog W = .ok (.func (.func 91) #[] #[.pointer (some ⟨b, 0, none⟩)]) W ∧
    (Instr.index 154 (.agg (fns b)) (.int .i64 2)).run Tryd.prog W = .ok (.func (.func 93) #[] #[.pointer (some ⟨b, 0, none⟩)]) W ∧
    (Instr.index 154 (.agg (fns b)) (.int .i64 3)).run Tryd.prog W = .ok (.func (.func 95) #[] #[.pointer (some ⟨b, 0, none⟩)]) W ∧
    (Instr.index 154 (.agg (fns b)) (.int .i64 4)).run Tryd.prog W = .ok (.func (.func 97) #[] #[.pointer (some ⟨b, 0, none⟩)]) W :=
  ⟨by kernel_rfl, by kernel_rfl, by kernel_rfl, by kernel_rfl, by kernel_rfl⟩
/-- accounted's variables -/
def wAcc (w : World) : World := ((w.alloc (.cells (ek zE0 (.slice none 0 0) (.slice none 0 0)) 79)).alloc (.cells (ek zE0 (.slice none 0 0) (.slice none 0 0)) 79)).alloc (.cells (fns (w.heap.size + 1)) 154)
theorem wAcc_below (w : World) : Below w.heap.size w (wAcc w) := al (al (al (Below.refl _ _) _) _) _
theorem wAcc_size (w : World) : (wAcc w).heap.size = w.heap.size + 3 := by simp [wAcc]
theorem wAcc_res (w : World) : Blk (wAcc w) w.heap.size 79 (ek zE0 (.slice none 0 0) (.slice none 0 0)) := ((Blk.new w 79 _).alloc _).alloc _
theorem wAcc_x (w : World) : Blk (wAcc w) (w.heap.size + 1) 79 (ek zE0 (.slice none 0 0) (.slice none 0 0)) := by
  have := (Blk.new (w.alloc (.cells (ek zE0 (.slice none 0 0) (.slice none 0 0)) 79)) 79 (ek zE0 (.slice none 0 0) (.slice none 0 0)))
  rw [World.size_alloc] at this
  exact this.alloc _
theorem wAcc_fns (w : World) : Blk (wAcc w) (w.heap.size + 1 + 1) 154 (fns (w.heap.size + 1)) := by
  have := Blk.new ((w.alloc (.cells (ek zE0 (.slice none 0 0) (.slice none 0 0)) 79)).alloc (.cells (ek zE0 (.slice none 0 0) (.slice none 0 0)) 79)) 154 (fns (w.heap.size + 1))
  rw [World.size_alloc, World.size_alloc] at this
  exact this

theorem OwnB.keptG {w w' : World} {b B : Nat} {v : Value} {xs : List UInt8} (h : OwnB w B v xs) (hg : w.grownBy w' (some b)) (hb : b < B) : OwnB w' B v xs := by
  refine World.ownsRow.kept h hg ?_
  cases ho : v.ownBlock with
  | none => exact .inl rfl
  | some k =>
    right
    intro e
    have := (h.block k ho).1
    injection e with e
    omega
theorem OwnB.setCellsFar {w : World} {B g : Nat} {v : Value} {xs : List UInt8} (h : OwnB w B v xs) (hg : g < B) (o : Nat) (vs : List Value) : OwnB (w.setCells g o vs) B v xs :=
  h.keptG (gr_setCells (gr_below (g := g) (Below.refl _ w)) o vs) hg
theorem grtr {a b c : World} {g : Nat} (h : a.grownBy b (some g)) (k : b.grownBy c (some g)) : a.grownBy c (some g) :=
  ⟨k.os.trans h.os, k.tape.trans h.tape, k.output.trans h.output, Nat.le_trans h.size k.size, fun i hi hne => (k.block i (Nat.lt_of_lt_of_le hi h.size) hne).trans (h.block i hi hne)⟩
def RdEnd (W : World) (b : Nat) (ws : List (List UInt8)) (k : Nat) (en : Ending) (W' : World) : Prop :=
  (en = .returned (.bool true) ∧ AccSt W b ws (k + 1) W') ∨ (en = .returned (.bool false) ∧ accK ws 5 = none ∧ W.grownBy W' (some b) ∧ ∃ cs : Array Value, cs.size = 55 ∧ AllOne cs.toList ∧ Blk W' b 79 cs)
theorem ekAll (e : EntP) (v : Value) (hv : v.oneCell' = true) : AllOne (ek e v (.slice none 0 0)).toList := by
  intro u hu
  simp only [ek, List.mem_cons, List.mem_append, List.not_mem_nil, or_false] at hu
  rcases hu with hu | rfl | hu | rfl | rfl
  · exact oneCell_bvs _ _ hu
  · rfl
  · exact oneCell_bvs _ _ hu
  · exact hv
  · rfl
theorem own_one {w : World} {B : Nat} {v : Value} {xs : List UInt8} (h : OwnB w B v xs) : v.oneCell' = true := by
  obtain ⟨A, c, rfl, _⟩ := h.reads
  rfl
section
variable {W wr : World} {b : Nat} {ws : List (List UInt8)}
theorem rd0 (h : AccSt W b ws 0 wr) : Calls Tryd.prog 90 #[.string (str (ws.getD 0 []))] wr (RdEnd W b ws 0) := by
  refine (isAcc_calls (ws.getD 0 []) wr).mono ?_
  rintro en w' ⟨rfl, rfl⟩
  obtain ⟨hg, e, v, hk, hF, hs, hB, hO⟩ := h
  by_cases hw : ws.getD 0 [] = accW
  · exact .inl ⟨by rw [decide_eq_true hw], hg, e, v, accK_more ws 0 e e hk (by show (if _ then _ else _) = _; rw [if_pos hw]), hF, hs, hB, hO⟩
  · exact .inr ⟨by rw [decide_eq_false hw], accK_fail ws 0 e (by omega) hk (by show (if _ then _ else _) = _; rw [if_neg hw]), hg, _, ek_size _ _ _ hF, ekAll _ _ (own_one hO), hB⟩
theorem rd1 (hbW : b < W.heap.size) (hl : (ws.getD 1 []).length ≤ 100000000) (h : AccSt W b ws 1 wr) : Calls Tryd.prog 91 #[.string (str (ws.getD 1 [])), .pointer (some ⟨b, 0, none⟩)] wr (RdEnd W b ws 1) := by
  obtain ⟨hg, e, v, hk, hF, hs, hB, hO⟩ := h
  refine (readAddr_calls (ws.getD 1 []) b e v (.slice none 0 0) wr hl hB hF).mono ?_
  rintro en w' ⟨hg2, (⟨hok, rfl, hB2⟩ | ⟨hok, rfl, hB2⟩)⟩
  · exact .inl ⟨rfl, grtr hg hg2, _, v, accK_more ws 1 e _ hk (by show (if _ then _ else _) = _; rw [if_pos hok]), hF.setA hok.2, hs, hB2, hO.keptG hg2 hbW⟩
  · exact .inr ⟨rfl, accK_fail ws 1 e (by omega) hk (by show (if _ then _ else _) = _; rw [if_neg hok]), grtr hg hg2, _, ek_size _ _ _ hF, ekAll _ _ (own_one hO), hB2⟩
theorem rd2 (hbW : b < W.heap.size) (hl : (ws.getD 2 []).length ≤ 100000000) (hL : ∀ W', W.grownBy W' (some b) → LaidW W') (h : AccSt W b ws 2 wr) : Calls Tryd.prog 93 #[.string (str (ws.getD 2 [])), .pointer (some ⟨b, 0, none⟩)] wr (RdEnd W b ws 2) := by
  obtain ⟨hg, e, v, hk, hF, hs, hB, hO⟩ := h
  refine (readNonce_calls (ws.getD 2 []) b e v (.slice none 0 0) wr hl hB hF (fun W' hW' => hL W' (grtr hg hW'))).mono ?_
  rintro en w' ⟨hg2, (⟨n, hn, rfl, hB2⟩ | ⟨hn, rfl, n, hn2, hB2⟩)⟩
  · exact .inl ⟨rfl, grtr hg hg2, _, v, accK_more ws 2 e _ hk (by show Option.map _ _ = _; rw [hn]; rfl), hF.setN (nonceL_some hn).2, hs, hB2, hO.keptG hg2 hbW⟩
  · exact .inr ⟨rfl, accK_fail ws 2 e (by omega) hk (by show Option.map _ _ = _; rw [hn]; rfl), grtr hg hg2, _, ek_size _ _ _ (hF.setN hn2), ekAll _ _ (own_one hO), hB2⟩
theorem rd3 (hbW : b < W.heap.size) (hl : (ws.getD 3 []).length ≤ 100000000) (h : AccSt W b ws 3 wr) : Calls Tryd.prog 95 #[.string (str (ws.getD 3 [])), .pointer (some ⟨b, 0, none⟩)] wr (RdEnd W b ws 3) := by
  obtain ⟨hg, e, v, hk, hF, hs, hB, hO⟩ := h
  refine (readBal_calls (ws.getD 3 []) b e v (.slice none 0 0) wr hl hB hF).mono ?_
  rintro en w' ⟨hg2, (⟨hn, rfl, xs, hx, hB2⟩ | ⟨n, hn, rfl, hB2⟩)⟩
  · exact .inr ⟨rfl, accK_fail ws 3 e (by omega) hk (by show Option.map _ _ = _; rw [hn]; rfl), grtr hg hg2, _, ek_size _ _ _ (hF.setB hx), ekAll _ _ (own_one hO), hB2⟩
  · exact .inl ⟨rfl, grtr hg hg2, _, v, accK_more ws 3 e _ hk (by show Option.map _ _ = _; rw [hn]; rfl), hF.setB (beL_length _ _), hs, hB2, hO.keptG hg2 hbW⟩
theorem rd4 (hbW : b < W.heap.size) (hl : (ws.getD 4 []).length ≤ 100000000) (h : AccSt W b ws 4 wr) : Calls Tryd.prog 97 #[.string (str (ws.getD 4 [])), .pointer (some ⟨b, 0, none⟩)] wr (RdEnd W b ws 4) := by
  obtain ⟨hg, e, v, hk, hF, hs, hB, hO⟩ := h
  refine (readCode_calls (ws.getD 4 []) b e v (.slice none 0 0) wr hl hB hF).mono ?_
  rintro en w' ⟨hg2, rfl, v2, hO2, hB2⟩
  by_cases hok : (undigL (ws.getD 4 [])).2 = true
  · exact .inl ⟨by rw [hok], grtr hg hg2, { e with code := (undigL (ws.getD 4 [])).1 }, v2, accK_more ws 4 e _ hk (by show (if _ then _ else _) = _; rw [if_pos hok]), hF.setC _, hs, hB2, hO2.more hg.size⟩
  · exact .inr ⟨by rw [Bool.not_eq_true] at hok; rw [hok], accK_fail ws 4 e (by omega) hk (by show (if _ then _ else _) = _; rw [if_neg hok]), grtr hg hg2, _, ek_size _ _ _ (hF.setC _), ekAll _ _ (own_one hO2), hB2⟩
end

set_option maxRecDepth 100000 in
set_option maxHeartbeats 4000000 in
theorem accounted_calls (ws : List (List UInt8)) (r n c : Nat) (w : World) (hn : ws.length = n) (hn6 : n ≤ 100000000) (hlen : ∀ s ∈ ws, s.length ≤ 100000000) (hr : r < w.heap.size) (hws : ∀ (j : Nat) s, ws[j]? = some s → w.cell? ⟨r, j, none⟩ = some (.string (str s))) (hL : LaidW w) :
    Calls Tryd.prog 58 #[.slice (some ⟨r, 0, none⟩) n c] w (AccEnd w ws) := by
  have T5 := Lib.hid Tryd.agg154
  have TE : Hid (∀ e c s, EntP.Fit e → AggT Tryd.prog 79 (ek e c s).size) := ek_aggS
  have TL : Hid (∀ e c s, EntP.Fit e → AggT Tryd.prog 79 (ek e c s).toList.length) := ek_aggL
  obtain ⟨wA, hwA⟩ : ∃ wA, wA = wAcc w := ⟨_, rfl⟩
  have HA : Hid (Below w.heap.size w wA) := by rw [hwA]; exact wAcc_below w
  have hzs : Hid (wA.heap.size = w.heap.size + 3) := by rw [hwA]; exact wAcc_size w
  have HX : Hid (Blk wA (w.heap.size + 1) 79 (ek zE0 (.slice none 0 0) (.slice none 0 0))) := by rw [hwA]; exact wAcc_x w
  have HR : Hid (Blk wA w.heap.size 79 (ek zE0 (.slice none 0 0) (.slice none 0 0))) := by rw [hwA]; exact wAcc_res w
  have HFN : Hid (Blk wA (w.heap.size + 1 + 1) 154 (fns (w.heap.size + 1))) := by rw [hwA]; exact wAcc_fns w
  unfold wAcc fns at hwA
  have ZO := Lib.hid (ek_one zE0 none 0 0 none 0 0)
  by_cases h5 : n = 5
  · obtain rfl : 5 = n := h5.symm
    have hbW : w.heap.size + 1 < wA.heap.size := by rw [hzs.out]; omega
    have hacc := Lib.hid (show accL ws = accK ws 5 by unfold accL; rw [if_pos hn])
    have hlw := Lib.hid (fun j (hj : j < 5) => hlen (ws.getD j []) (by rw [List.getD_eq_getElem?_getD, List.getElem?_eq_getElem (by omega)]; exact List.getElem_mem _))
    have hcw : Hid (∀ W, wA.grownBy W (some (w.heap.size + 1)) → ∀ j, j < 5 → W.cell? ⟨r, j, none⟩ = some (.string (str (ws.getD j [])))) := fun W hW j hj => by
      rw [World.cell?_of_block (hW.block r (by have := HA.out.size; omega) (by intro e; injection e with e; omega)), HA.out.cell hr]
      exact hws j _ (by rw [List.getD_eq_getElem?_getD, List.getElem?_eq_getElem (by omega)]; rfl)
    have HLW : Hid (∀ W, wA.grownBy W (some (w.heap.size + 1)) → LaidW W) := fun W hW => hL.below ⟨hW.os.trans HA.out.os, hW.tape.trans HA.out.tape, hW.output.trans HA.out.output, Nat.le_trans HA.out.size hW.size, fun i hi => (hW.block i (by have := HA.out.size; omega) (by intro e; injection e with e; omega)).trans (HA.out.block i hi)⟩
    have HBL : Hid (∀ W, wA.grownBy W (some (w.heap.size + 1)) → Below w.heap.size w W ∧ Blk W w.heap.size 79 (ek zE0 (.slice none 0 0) (.slice none 0 0))) := fun W hW => ⟨⟨hW.os.trans HA.out.os, hW.tape.trans HA.out.tape, hW.output.trans HA.out.output, Nat.le_trans HA.out.size hW.size, fun i hi => (hW.block i (by have := HA.out.size; omega) (by intro e; injection e with e; omega)).trans (HA.out.block i hi)⟩, (hW.block _ (by omega) (by intro e; injection e with e; omega)).trans HR.out⟩
    have T5L : Hid (AggT Tryd.prog 154 (fns (w.heap.size + 1)).toList.length) := T5.out
    clear hws hlen hL hn hr
    go_enter Tryd.func58, Tryd.ntmps58
    go_upto_region 3 with fail
    rw [← zE0_zero, ← hwA]
    clear hwA
    go_wp2_with (first | (refine wpList_loadAgg rfl 154 (.tmp 5) rfl (w.heap.size + 1 + 1) 0 rfl _ T5L.out (cellsAt_blk HFN.out) ?_))
    go_loopw [18] (fun i wr => ∃ k : Nat, k ≤ 5 ∧ i = .int .i64 k ∧ AccSt wA (w.heap.size + 1) ws k wr) (fun i _ => 5 - (intOf i).toNat)
    case atStart => exact ⟨0, by omega, rfl, ⟨rfl, rfl, rfl, Nat.le_refl _, fun _ _ _ => rfl⟩, zE0, _, rfl, zE0_fit, rfl, HX.out, OwnB.nil _ _⟩
    case round =>
      obtain ⟨k, hk5, rfl, hst⟩ := hrel
      obtain ⟨wo, rfl⟩ : ∃ wo : World, wo = wr := ⟨_, rfl⟩
      have HST := Lib.hid hst
      have hcs := Lib.hid (hcw.out wo hst.1)
      clear hst
      obtain rfl | rfl | rfl | rfl | rfl | rfl : k = 0 ∨ k = 1 ∨ k = 2 ∨ k = 3 ∨ k = 4 ∨ k = 5 := by omega
      · have hc0 := hcs.out 0 (by omega)
        have hix := (idx_fns (w.heap.size + 1) wo).1
        have hrd := Lib.hid (rd0 HST.out)
        go_wp2_with fail
        refine hrd.out.mono ?_
        rintro en w1 (⟨rfl, hs1⟩ | ⟨rfl, hno, hg1, cs, hcs1, hone, hB1⟩)
        · have HS1 := Lib.hid hs1
          clear hs1
          go_wp2
          go_roundw
          case rel => exact ⟨1, by omega, rfl, HS1.out⟩
          case measure => simp [intOf]
        · have HNO := Lib.hid (hacc.out.trans hno)
          have HB1 := Lib.hid hB1
          have HG1 := Lib.hid (HBL.out _ hg1)
          have HCS := Lib.hid hcs1
          have HON := Lib.hid hone
          have hTa : Hid (AggT Tryd.prog 79 cs.toList.length) := by rw [Array.length_toList, hcs1]; exact Tryd.agg79
          have hTb : Hid (AggT Tryd.prog 79 cs.size) := by rw [hcs1]; exact Tryd.agg79
          have hrm : Hid (RoomAt w1 w.heap.size 0 cs.size) := by rw [hcs1]; exact HG1.out.2.room 0 55 (by decide)
          clear hno hB1 hg1 hcs1 hone
          go_wp2_with (first | (refine wpList_loadAgg rfl 79 (.tmp 4) rfl (w.heap.size + 1) 0 rfl _ hTa.out (cellsAt_blk HB1.out) ?_) | (refine wpList_storeAgg rfl rfl 79 (.tmp 2) (.tmp 29) rfl w.heap.size 0 rfl cs rfl hTb.out hrm.out HON.out ?_))
          have hfb := HG1.out.2.setCells cs.toList 0 (by rw [Array.length_toList, HCS.out]; decide)
          rw [ovw_all _ _ (by rw [Array.length_toList, HCS.out]; decide)] at hfb
          exact bodyPost_ret (results_agg_tmp rfl _ _ w.heap.size cs rfl hTb.out (cellsAt_blk hfb)) rfl ⟨below_setCells HG1.out.1 _ _ _ (Nat.le_refl _), .inl ⟨HNO.out, cs, HCS.out, HON.out, rfl⟩⟩
      · have hc0 := hcs.out 1 (by omega)
        have hix := (idx_fns (w.heap.size + 1) wo).2.1
        have hrd := Lib.hid (rd1 hbW (hlw.out 1 (by omega)) HST.out)
        go_wp2_with fail
        refine hrd.out.mono ?_
        rintro en w1 (⟨rfl, hs1⟩ | ⟨rfl, hno, hg1, cs, hcs1, hone, hB1⟩)
        · have HS1 := Lib.hid hs1
          clear hs1
          go_wp2
          go_roundw
          case rel => exact ⟨2, by omega, rfl, HS1.out⟩
          case measure => simp [intOf]
        · have HNO := Lib.hid (hacc.out.trans hno)
          have HB1 := Lib.hid hB1
          have HG1 := Lib.hid (HBL.out _ hg1)
          have HCS := Lib.hid hcs1
          have HON := Lib.hid hone
          have hTa : Hid (AggT Tryd.prog 79 cs.toList.length) := by rw [Array.length_toList, hcs1]; exact Tryd.agg79
          have hTb : Hid (AggT Tryd.prog 79 cs.size) := by rw [hcs1]; exact Tryd.agg79
          have hrm : Hid (RoomAt w1 w.heap.size 0 cs.size) := by rw [hcs1]; exact HG1.out.2.room 0 55 (by decide)
          clear hno hB1 hg1 hcs1 hone
          go_wp2_with (first | (refine wpList_loadAgg rfl 79 (.tmp 4) rfl (w.heap.size + 1) 0 rfl _ hTa.out (cellsAt_blk HB1.out) ?_) | (refine wpList_storeAgg rfl rfl 79 (.tmp 2) (.tmp 29) rfl w.heap.size 0 rfl cs rfl hTb.out hrm.out HON.out ?_))
          have hfb := HG1.out.2.setCells cs.toList 0 (by rw [Array.length_toList, HCS.out]; decide)
          rw [ovw_all _ _ (by rw [Array.length_toList, HCS.out]; decide)] at hfb
          exact bodyPost_ret (results_agg_tmp rfl _ _ w.heap.size cs rfl hTb.out (cellsAt_blk hfb)) rfl ⟨below_setCells HG1.out.1 _ _ _ (Nat.le_refl _), .inl ⟨HNO.out, cs, HCS.out, HON.out, rfl⟩⟩
      · have hc0 := hcs.out 2 (by omega)
        have hix := (idx_fns (w.heap.size + 1) wo).2.2.1
        have hrd := Lib.hid (rd2 hbW (hlw.out 2 (by omega)) HLW.out HST.out)
        go_wp2_with fail
        refine hrd.out.mono ?_
        rintro en w1 (⟨rfl, hs1⟩ | ⟨rfl, hno, hg1, cs, hcs1, hone, hB1⟩)
        · have HS1 := Lib.hid hs1
          clear hs1
          go_wp2
          go_roundw
          case rel => exact ⟨3, by omega, rfl, HS1.out⟩
          case measure => simp [intOf]
        · have HNO := Lib.hid (hacc.out.trans hno)
          have HB1 := Lib.hid hB1
          have HG1 := Lib.hid (HBL.out _ hg1)
          have HCS := Lib.hid hcs1
          have HON := Lib.hid hone
          have hTa : Hid (AggT Tryd.prog 79 cs.toList.length) := by rw [Array.length_toList, hcs1]; exact Tryd.agg79
          have hTb : Hid (AggT Tryd.prog 79 cs.size) := by rw [hcs1]; exact Tryd.agg79
          have hrm : Hid (RoomAt w1 w.heap.size 0 cs.size) := by rw [hcs1]; exact HG1.out.2.room 0 55 (by decide)
          clear hno hB1 hg1 hcs1 hone
          go_wp2_with (first | (refine wpList_loadAgg rfl 79 (.tmp 4) rfl (w.heap.size + 1) 0 rfl _ hTa.out (cellsAt_blk HB1.out) ?_) | (refine wpList_storeAgg rfl rfl 79 (.tmp 2) (.tmp 29) rfl w.heap.size 0 rfl cs rfl hTb.out hrm.out HON.out ?_))
          have hfb := HG1.out.2.setCells cs.toList 0 (by rw [Array.length_toList, HCS.out]; decide)
          rw [ovw_all _ _ (by rw [Array.length_toList, HCS.out]; decide)] at hfb
          exact bodyPost_ret (results_agg_tmp rfl _ _ w.heap.size cs rfl hTb.out (cellsAt_blk hfb)) rfl ⟨below_setCells HG1.out.1 _ _ _ (Nat.le_refl _), .inl ⟨HNO.out, cs, HCS.out, HON.out, rfl⟩⟩
      · have hc0 := hcs.out 3 (by omega)
        have hix := (idx_fns (w.heap.size + 1) wo).2.2.2.1
        have hrd := Lib.hid (rd3 hbW (hlw.out 3 (by omega)) HST.out)
        go_wp2_with fail
        refine hrd.out.mono ?_
        rintro en w1 (⟨rfl, hs1⟩ | ⟨rfl, hno, hg1, cs, hcs1, hone, hB1⟩)
        · have HS1 := Lib.hid hs1
          clear hs1
          go_wp2
          go_roundw
          case rel => exact ⟨4, by omega, rfl, HS1.out⟩
          case measure => simp [intOf]
        · have HNO := Lib.hid (hacc.out.trans hno)
          have HB1 := Lib.hid hB1
          have HG1 := Lib.hid (HBL.out _ hg1)
          have HCS := Lib.hid hcs1
          have HON := Lib.hid hone
          have hTa : Hid (AggT Tryd.prog 79 cs.toList.length) := by rw [Array.length_toList, hcs1]; exact Tryd.agg79
          have hTb : Hid (AggT Tryd.prog 79 cs.size) := by rw [hcs1]; exact Tryd.agg79
          have hrm : Hid (RoomAt w1 w.heap.size 0 cs.size) := by rw [hcs1]; exact HG1.out.2.room 0 55 (by decide)
          clear hno hB1 hg1 hcs1 hone
          go_wp2_with (first | (refine wpList_loadAgg rfl 79 (.tmp 4) rfl (w.heap.size + 1) 0 rfl _ hTa.out (cellsAt_blk HB1.out) ?_) | (refine wpList_storeAgg rfl rfl 79 (.tmp 2) (.tmp 29) rfl w.heap.size 0 rfl cs rfl hTb.out hrm.out HON.out ?_))
          have hfb := HG1.out.2.setCells cs.toList 0 (by rw [Array.length_toList, HCS.out]; decide)
          rw [ovw_all _ _ (by rw [Array.length_toList, HCS.out]; decide)] at hfb
          exact bodyPost_ret (results_agg_tmp rfl _ _ w.heap.size cs rfl hTb.out (cellsAt_blk hfb)) rfl ⟨below_setCells HG1.out.1 _ _ _ (Nat.le_refl _), .inl ⟨HNO.out, cs, HCS.out, HON.out, rfl⟩⟩
      · have hc0 := hcs.out 4 (by omega)
        have hix := (idx_fns (w.heap.size + 1) wo).2.2.2.2
        have hrd := Lib.hid (rd4 hbW (hlw.out 4 (by omega)) HST.out)
        go_wp2_with fail
        refine hrd.out.mono ?_
        rintro en w1 (⟨rfl, hs1⟩ | ⟨rfl, hno, hg1, cs, hcs1, hone, hB1⟩)
        · have HS1 := Lib.hid hs1
          clear hs1
          go_wp2
          go_roundw
          case rel => exact ⟨5, by omega, rfl, HS1.out⟩
          case measure => simp [intOf]
        · have HNO := Lib.hid (hacc.out.trans hno)
          have HB1 := Lib.hid hB1
          have HG1 := Lib.hid (HBL.out _ hg1)
          have HCS := Lib.hid hcs1
          have HON := Lib.hid hone
          have hTa : Hid (AggT Tryd.prog 79 cs.toList.length) := by rw [Array.length_toList, hcs1]; exact Tryd.agg79
          have hTb : Hid (AggT Tryd.prog 79 cs.size) := by rw [hcs1]; exact Tryd.agg79
          have hrm : Hid (RoomAt w1 w.heap.size 0 cs.size) := by rw [hcs1]; exact HG1.out.2.room 0 55 (by decide)
          clear hno hB1 hg1 hcs1 hone
          go_wp2_with (first | (refine wpList_loadAgg rfl 79 (.tmp 4) rfl (w.heap.size + 1) 0 rfl _ hTa.out (cellsAt_blk HB1.out) ?_) | (refine wpList_storeAgg rfl rfl 79 (.tmp 2) (.tmp 29) rfl w.heap.size 0 rfl cs rfl hTb.out hrm.out HON.out ?_))
          have hfb := HG1.out.2.setCells cs.toList 0 (by rw [Array.length_toList, HCS.out]; decide)
          rw [ovw_all _ _ (by rw [Array.length_toList, HCS.out]; decide)] at hfb
          exact bodyPost_ret (results_agg_tmp rfl _ _ w.heap.size cs rfl hTb.out (cellsAt_blk hfb)) rfl ⟨below_setCells HG1.out.1 _ _ _ (Nat.le_refl _), .inl ⟨HNO.out, cs, HCS.out, HON.out, rfl⟩⟩
      · obtain ⟨hg, e, v, hk, hF, hs, hB, hO⟩ := HST.out
        have HK := Lib.hid (hacc.out.trans hk)
        have HF := Lib.hid hF
        have HSL := Lib.hid hs
        have HB1 := Lib.hid hB
        have HO1 := Lib.hid hO
        have HG1 := Lib.hid (HBL.out _ hg)
        have HON := Lib.hid (ekAll e v (own_one hO))
        have hTa := Lib.hid (TL.out e v (.slice none 0 0) hF)
        have hTb := Lib.hid (TE.out e v (.slice none 0 0) hF)
        have HCS := Lib.hid (ek_size e v (.slice none 0 0) hF)
        have hrm : Hid (RoomAt wo w.heap.size 0 (ek e v (.slice none 0 0)).size) := by rw [HCS.out]; exact HG1.out.2.room 0 55 (by decide)
        clear hk hF hs hB hO hg
        go_wp2_with (first | (refine wpList_loadAgg rfl 79 (.tmp 4) rfl (w.heap.size + 1) 0 rfl _ hTa.out (cellsAt_blk HB1.out) ?_) | (refine wpList_storeAgg rfl rfl 79 (.tmp 2) (.tmp 31) rfl w.heap.size 0 rfl (ek e v (.slice none 0 0)) rfl hTb.out hrm.out HON.out ?_))
        have hfb := HG1.out.2.setCells (ek e v (.slice none 0 0)).toList 0 (by rw [Array.length_toList, HCS.out]; decide)
        rw [ovw_all _ _ (by rw [Array.length_toList, HCS.out]; decide)] at hfb
        exact bodyPost_ret (results_agg_tmp rfl _ _ w.heap.size (ek e v (.slice none 0 0)) rfl hTb.out (cellsAt_blk hfb)) rfl ⟨below_setCells HG1.out.1 _ _ _ (Nat.le_refl _), .inr ⟨e, v, HK.out, HF.out, HSL.out, rfl, (HO1.out.setCellsFar (by omega) _ _).more (by omega)⟩⟩
  · have h5a : ¬ (n : Int) = 5 := by omega
    have h5b : ((n : Int) == 5) = false := by rw [beq_eq_false_iff_ne]; exact h5a
    have hno := Lib.hid (show accL ws = none by unfold accL; rw [if_neg (by omega)])
    go_enter Tryd.func58, Tryd.ntmps58
    go_upto_region 3 with fail
    rw [← zE0_zero, ← hwA]
    clear hwA
    have hsx := Lib.hid (HX.out.room 0 55 (by decide))
    go_wp2_with (first | (refine wpList_loadAgg rfl 79 (.tmp 4) rfl (w.heap.size + 1) 0 rfl _ (TL.out _ _ _ zE0_fit) (cellsAt_blk HX.out) ?_) | (refine wpList_storeAgg rfl rfl 79 (.tmp 2) (.tmp 16) rfl w.heap.size 0 rfl (ek zE0 (.slice none 0 0) (.slice none 0 0)) rfl (TE.out _ _ _ zE0_fit) (HR.out.room 0 _ (by decide)) ZO.out ?_))
    have hfb := HR.out.setCells (ek zE0 (.slice none 0 0) (.slice none 0 0)).toList 0 (by decide)
    rw [ovw_all _ _ (by decide)] at hfb
    exact bodyPost_ret (results_agg_tmp rfl _ _ w.heap.size (ek zE0 (.slice none 0 0) (.slice none 0 0)) rfl (TE.out _ _ _ zE0_fit) (cellsAt_blk hfb)) rfl ⟨below_setCells HA.out _ _ _ (Nat.le_refl _), .inl ⟨hno.out, _, by rfl, ZO.out, rfl⟩⟩
end Go.Proofs.YtfjfjjcdlgdbcaaDoor
