/- The document's Parse -/
import Derived.Test.YtfjfjjcdlgdbcaaDoorE35
namespace Go.Proofs.YtfjfjjcdlgdbcaaDoor
open Go.RowKit
set_option linter.unusedSimpArgs false
set_option linter.unusedVariables false

theorem fixQ (s : List UInt8) (n : Nat) (hn : 0 < n) : ((undigL s).2 = true ∧ (undigL s).1.length = n ∧ (undigL s).1 = (unhexQ s).1 ∧ (unhexQ s).2 = true) ∨ (¬ ((undigL s).2 = true ∧ (undigL s).1.length = n) ∧ ¬ ((unhexQ s).2 = true ∧ (unhexQ s).1.length = n)) := by
  by_cases hg : goodP s
  · have h := unhexQ_good s hg
    by_cases hl : (undigL s).1.length = n
    · exact .inl ⟨hg.1, hl, by rw [h.1], by rw [h.1]⟩
    · exact .inr ⟨fun h' => hl h'.2, by rw [h.1]; exact fun h' => hl h'.2⟩
  · refine .inr ⟨fun h => hg ⟨h.1, ?_⟩, fun h => ?_⟩
    · rintro rfl
      have : (undigL [46]).1 = [] := rfl
      rw [this] at h
      simp at h
      omega
    · rcases unhexQ_bad2 s hg with h2 | ⟨_, h2⟩
      · rw [h2] at h; simp at h
      · rw [h2] at h; simp at h; omega
theorem bytesQ (s : List UInt8) (hs : s ≠ [46]) : ((undigL s).2 = true ∧ (undigL s).1 = (unhexQ s).1 ∧ (unhexQ s).2 = true ∧ 0 < s.length) ∨ ((undigL s).2 = false ∧ ¬ ((unhexQ s).2 = true ∧ 0 < s.length)) := by
  by_cases hg : goodP s
  · have h := unhexQ_good s hg
    refine .inl ⟨hg.1, by rw [h.1], by rw [h.1], ?_⟩
    have h2 := hex_undig s hg.1 hg.2
    rw [← h2.1, hexL_length]
    have := List.length_pos_iff.2 h2.2
    omega
  · refine .inr ⟨?_, fun h => ?_⟩
    · cases hu : (undigL s).2 with
      | false => rfl
      | true => exact absurd ⟨hu, hs⟩ hg
    · rcases unhexQ_bad2 s hg with h2 | ⟨h1, h2⟩
      · rw [h2] at h; simp at h
      · unfold unhexQ at h1 h2
        by_cases hodd : s.length % 2 = 1
        · rw [if_pos hodd] at h1; cases h1
        · rw [if_neg hodd] at h1 h2
          have h3 := hex_unhexV s h1
          rw [h2] at h3
          have h4 := h.2
          rw [← h3] at h4
          simp [hexL] at h4
theorem rF_98 (A : ActP) (s : List UInt8) (hs : s ≠ [46]) : rF A 98 s = if (undigL s).2 = true then some { A with b := (undigL s).1 } else none := by
  unfold rF; rw [if_neg (fun h => hs h.2)]; rfl
/-- the kind that was found among the first ones -/
def kUp (w0 : List UInt8) (k : Nat) : Int := if 0 ≤ kindOf w0 ∧ kindOf w0 < k then kindOf w0 else 0
theorem kUp_one (w0 : List UInt8) : kUp w0 1 = 0 := by
  unfold kUp
  split
  · rename_i h
    have := (kindOf_word w0 h.1).1
    unfold isKind at this
    omega
  · rfl
theorem kUp_hit (w0 : List UInt8) (k : Nat) (h1 : 1 ≤ k) (h2 : k ≤ 27) (h : kw (k : Int) = w0) : kUp w0 (k + 1) = k := by
  have := kind_word (k : Int) (by unfold isKind; omega)
  rw [h] at this
  unfold kUp
  rw [this, if_pos (by omega)]
theorem kUp_miss (w0 : List UInt8) (k : Nat) (h : ¬ kw (k : Int) = w0) : kUp w0 (k + 1) = kUp w0 k := by
  unfold kUp
  by_cases h0 : 0 ≤ kindOf w0
  · have h1 : kindOf w0 ≠ (k : Int) := fun e => h (by rw [← e]; exact (kindOf_word w0 h0).2)
    by_cases h2 : kindOf w0 < k
    · rw [if_pos ⟨h0, by omega⟩, if_pos ⟨h0, h2⟩]
    · rw [if_neg (by omega), if_neg (by omega)]
  · rw [if_neg (by omega), if_neg (by omega)]
theorem zk_set0 (k j : Int) : (zk k).setIfInBounds 0 (.int .i64 j) = zk j := by simp [zk, ak, zAct]
theorem GrCell {w w' : World} {g : Nat} (h : w.grownBy w' (some g)) {a : Addr} {v : Value} (hg : a.block ≠ g) (hc : w.cell? a = some v) : w'.cell? a = some v := by
  rw [cell_of_heap (h.block a.block (World.block_lt_of_cell? w a hc) (fun e => hg (Option.some.inj e)))]
  exact hc
theorem gr_trans {w w1 w2 : World} {g : Nat} (h : w.grownBy w1 (some g)) (k : w1.grownBy w2 (some g)) : w.grownBy w2 (some g) :=
  ⟨k.os.trans h.os, k.tape.trans h.tape, k.output.trans h.output, Nat.le_trans h.size k.size, fun i hi hne => (k.block i (Nat.lt_of_lt_of_le hi h.size) hne).trans (h.block i hi hne)⟩
theorem below_gr {w w1 w2 : World} {g B : Nat} (hb : Below B w w1) (hB : B ≤ g) (hBs : B ≤ w1.heap.size) (k : w1.grownBy w2 (some g)) : Below B w w2 :=
  ⟨k.os.trans hb.os, k.tape.trans hb.tape, k.output.trans hb.output, Nat.le_trans hb.size k.size, fun i hi => (k.block i (by omega) (fun e => by have := Option.some.inj e; omega)).trans (hb.block i hi)⟩
/-- how far the fields are laid -/
structure FState (fs : List UInt8) (ws : List (List UInt8)) (kk : Int) (gA : Nat) (wB wr : World) (k : Nat) (A : ActP) (bA : Option Addr) (bn bc : Nat) (lA : Option Addr) (ln lc : Nat) : Prop where
  hp : parseFs rF (zAct kk) (fs.take k) ws = some A
  blk : Blk wr gA 64 (ak A (.slice bA bn bc) (.slice lA ln lc))
  rd : RdActX wr (gA + 1) A bA bn bc lA ln lc
  gr : wB.grownBy wr (some gA)
/-- a field of fixed length, laid -/
theorem FState.fix {fs : List UInt8} {ws : List (List UInt8)} {kk : Int} {gA : Nat} {wB wr w1 : World} {k : Nat} {A : ActP} {bA : Option Addr} {bn bc : Nat} {lA : Option Addr} {ln lc : Nat} (h : FState fs ws kk gA wB wr k A bA bn bc lA ln lc)
    (hb1 : Below wr.heap.size wr w1) (off : Nat) (vs : List Value) (A' : ActP) (hA' : A'.Fit) (hab : A'.b = A.b) (hal : A'.l = A.l) (hov : ovw (ak A (.slice bA bn bc) (.slice lA ln lc)) off vs = ak A' (.slice bA bn bc) (.slice lA ln lc)) (hsz : off + vs.length ≤ 121)
    (hp : parseFs rF (zAct kk) (fs.take (k + 1)) ws = some A') : FState fs ws kk gA wB (w1.setCells gA off vs) (k + 1) A' bA bn bc lA ln lc := by
  have hg2 : wr.grownBy (w1.setCells gA off vs) (some gA) := gr_setCells (gr_below hb1) _ _
  refine ⟨hp, ?_, ?_, gr_trans h.gr hg2⟩
  · have := (h.blk.below hb1 h.blk.lt).setCells vs off (by rw [ak_size _ _ _ h.rd.1]; exact hsz)
    rw [hov] at this
    exact this
  · have := h.rd.keeps (KeepsLo.grown hg2 (Nat.lt_succ_self gA))
    exact ⟨hA', by rw [hab]; exact this.2.1, by rw [hal]; exact this.2.2⟩
theorem FState.num {fs : List UInt8} {ws : List (List UInt8)} {kk : Int} {gA : Nat} {wB wr : World} {k : Nat} {A : ActP} {bA : Option Addr} {bn bc : Nat} {lA : Option Addr} {ln lc : Nat} (h : FState fs ws kk gA wB wr k A bA bn bc lA ln lc)
    (off : Nat) (v : Value) (A' : ActP) (hA' : A'.Fit) (hab : A'.b = A.b) (hal : A'.l = A.l) (hov : (ak A (.slice bA bn bc) (.slice lA ln lc)).setIfInBounds off v = ak A' (.slice bA bn bc) (.slice lA ln lc))
    (hp : parseFs rF (zAct kk) (fs.take (k + 1)) ws = some A') : FState fs ws kk gA wB (wr.setCell ⟨gA, off, none⟩ v) (k + 1) A' bA bn bc lA ln lc := by
  have hg2 : wr.grownBy (wr.setCell ⟨gA, off, none⟩ v) (some gA) := gr_setCell (World.grownBy.refl wr _) _ _
  refine ⟨hp, ?_, ?_, gr_trans h.gr hg2⟩
  · have := h.blk.set_ off v
    rw [hov] at this
    exact this
  · have := h.rd.keeps (KeepsLo.grown hg2 (Nat.lt_succ_self gA))
    exact ⟨hA', by rw [hab]; exact this.2.1, by rw [hal]; exact this.2.2⟩
theorem FState.bytes {fs : List UInt8} {ws : List (List UInt8)} {kk : Int} {gA : Nat} {wB wr w1 : World} {k : Nat} {A : ActP} {bA : Option Addr} {bn bc : Nat} {lA : Option Addr} {ln lc : Nat} (h : FState fs ws kk gA wB wr k A bA bn bc lA ln lc)
    (hb1 : Below wr.heap.size wr w1) (A1 : Option Addr) (c1 : Nat) (bs : List UInt8) (ho : OwnB w1 wr.heap.size (.slice A1 bs.length c1) bs) (hr : RdB w1 A1 bs.length c1 bs)
    (hp : parseFs rF (zAct kk) (fs.take (k + 1)) ws = some { A with b := bs }) : FState fs ws kk gA wB (w1.setCell ⟨gA, 119, none⟩ (.slice A1 bs.length c1)) (k + 1) { A with b := bs } A1 bs.length c1 lA ln lc := by
  have hg2 : wr.grownBy (w1.setCell ⟨gA, 119, none⟩ (.slice A1 bs.length c1)) (some gA) := gr_setCell (gr_below hb1) _ _
  have hlt := h.blk.lt
  refine ⟨hp, ?_, ?_, gr_trans h.gr hg2⟩
  · have := (h.blk.below hb1 h.blk.lt).set_ 119 (.slice A1 bs.length c1)
    rw [set_b A _ _ _ bs h.rd.1] at this
    exact this
  · have := h.rd.keeps (KeepsLo.grown hg2 (Nat.lt_succ_self gA))
    have hF := h.rd.1
    have hbx : RdBx w1 wr.heap.size A1 bs.length c1 bs := ⟨hr, fun ad e => by subst e; exact ho.block ad.block rfl⟩
    refine ⟨⟨hF.ha, hF.hk, hF.hw, hF.hr, hF.hn0, hF.hn1, hF.hm0, hF.hm1, hF.hk0, hF.hk1⟩, ?_, this.2.2⟩
    exact (hbx.keeps ⟨by simp, fun i h1 _ => Below.heap_setCell w1 ⟨gA, 119, none⟩ _ i (by show i ≠ gA; omega)⟩).weaken (by omega)
/-- what loop 2 holds: fields laid, or one that can't be -/
def FRel (fs : List UInt8) (ws : List (List UInt8)) (kk : Int) (gA : Nat) (wB : World) (ok i : Value) (wr : World) : Prop := ∃ k : Nat, k ≤ fs.length ∧ i = .int .i64 k ∧
  ((ok = .bool true ∧ ∃ A bA bn bc lA ln lc, FState fs ws kk gA wB wr k A bA bn bc lA ln lc) ∨ (ok = .bool false ∧ parseFs rF (zAct kk) fs ws = none ∧ wB.grownBy wr (some gA)))
theorem FRel.good {fs : List UInt8} {ws : List (List UInt8)} {kk : Int} {gA : Nat} {wB wr : World} {k : Nat} {A : ActP} {bA : Option Addr} {bn bc : Nat} {lA : Option Addr} {ln lc : Nat} (hk : k < fs.length) (h : FState fs ws kk gA wB wr (k + 1) A bA bn bc lA ln lc) (i : Value) (hi : i = .int .i64 ((k : Int) + 1)) :
    FRel fs ws kk gA wB (.bool true) i wr := ⟨k + 1, by omega, by rw [hi]; go_num, .inl ⟨rfl, A, bA, bn, bc, lA, ln, lc, h⟩⟩
theorem FRel.bad {fs : List UInt8} {ws : List (List UInt8)} {kk : Int} {gA : Nat} {wB wr : World} {k : Nat} (hk : k < fs.length) (hp : parseFs rF (zAct kk) fs ws = none) (hg : wB.grownBy wr (some gA)) (i : Value) (hi : i = .int .i64 ((k : Int) + 1)) :
    FRel fs ws kk gA wB (.bool false) i wr := ⟨k + 1, by omega, by rw [hi]; go_num, .inr ⟨rfl, hp, hg⟩⟩
attribute [local go_sem] zk_zero
attribute [-go_sem] Builtin.append_

set_option maxRecDepth 100000 in
set_option maxHeartbeats 40000000 in
theorem Parse20_calls (x : List UInt8) (w : World) (hx : x.length ≤ 100000) :
    Calls Tryd.prog 38 #[.string (str x)] w (ParseEnd w (parseR x)) := by
  have hT0 : Hid (AggT Tryd.prog 64 (zk 0).size) := by rw [zk_size]; exact Tryd.agg64
  have hwd := Lib.hid (fun W => words74_calls x W (by omega))
  obtain ⟨w0, ws, hws⟩ : ∃ w0 ws, splitL 32 x = w0 :: ws := by
    cases hs : splitL 32 x with
    | nil => exact absurd hs (splitL_ne 32 x)
    | cons a b => exact ⟨a, b, rfl⟩
  have hPR := Lib.hid (parseR_at x w0 ws hws)
  have hWL := Lib.hid (fun (s : List UInt8) (hs : s ∈ ws) => Nat.le_trans (splitL_part 32 x s (by rw [hws]; exact List.mem_cons_of_mem _ hs)) hx)
  have hlw : ws.length ≤ 100001 := by
    have := splitL_length 32 x
    rw [hws] at this
    simp at this
    omega
  rw [hws] at hwd
  clear hws hx
  go_enter Tryd.func38, Tryd.ntmps38
  go_wp2_with (first | (go_at_call 74; refine (hwd.out _).mono ?_; rintro e w1 ⟨⟨v, rfl, ho⟩, hb1⟩) | (refine wpList_build rfl 64 #[] rfl (.agg (zk 0)) (by kernel_rfl) ?_) | (refine wpList_storeNew rfl rfl 64 (.tmp 5) _ rfl _ _ rfl (zk 0) rfl hT0.out (by rw [zk_size]) (zk_oneCell 0) ?_))
  rcases ho.reads with ⟨hv, hnil⟩ | ⟨r, cw, rfl, hr1, hr2, hn, hcm, hcell⟩
  · cases hnil
  simp only [List.length_cons] at *
  obtain ⟨gA, hgA⟩ : ∃ gA, gA = w1.heap.size := ⟨_, rfl⟩
  have hsz1 := hb1.size
  simp only [World.size_alloc] at hsz1 hr1
  have hblk := Lib.hid (Blk.new w1 64 (zk 0))
  have hB0 : Blk w1 w.heap.size 64 (zk 0) := (Blk.new w 64 (zk 0)).below hb1 (by simp)
  have hB0' := Lib.hid (hB0.alloc (.cells (zk 0) 64))
  have hbel := Lib.hid (al (thn (al (Below.refl _ w) (.cells (zk 0) 64)) hb1) (.cells (zk 0) 64))
  have hcl := Lib.hid (fun j s (hj : (w0 :: ws)[j]? = some s) => (World.cell?_alloc_lt w1 (.cells (zk 0) 64) ⟨r, 0 + j, none⟩ hr2).trans (hcell j s hj))
  obtain ⟨wB, hwB⟩ : ∃ wB, wB = w1.alloc (.cells (zk 0) 64) := ⟨_, rfl⟩
  have hsB : wB.heap.size = gA + 1 := by rw [hwB, hgA]; simp
  rw [← hwB] at hblk hB0' hbel hcl ⊢
  rw [← hgA] at hblk hr2 hsz1 ⊢
  have hCL := Lib.hid (fun wr (hg : wB.grownBy wr (some gA)) j s (hj : (w0 :: ws)[j]? = some s) => GrCell hg (a := ⟨r, 0 + j, none⟩) (by show r ≠ gA; omega) (hcl.out j s hj))
  have HSB := Lib.hid hsB
  clear hwB hgA hcell hcl hB0 hb1 ho hn hcm hsB hwd
  have hrw : r < gA := hr2
  have hwg : w.heap.size < gA := by omega
  go_loopw [6] (fun i wr => ∃ k : Nat, 1 ≤ k ∧ k ≤ 28 ∧ i = .int .i64 k ∧ Blk wr gA 64 (zk (kUp w0 k)) ∧ wB.grownBy wr (some gA)) (fun i _ => 28 - (intOf i).toNat)
  case atStart => exact ⟨1, by omega, by omega, rfl, by rw [kUp_one]; exact hblk.out, World.grownBy.refl _ _⟩
  case round =>
    obtain ⟨k, hk1, hk28, rfl, hbk, hgr⟩ := hrel
    have HBK := Lib.hid hbk
    have HGR := Lib.hid hgr
    have hc0 := hCL.out wr hgr 0 w0 rfl
    have hcA := (hbk.cell 0)
    have hfz := hbk.frozen 0
    rw [show (zk (kUp w0 k))[0]? = some (.int .i64 (kUp w0 k)) from ak_0 _ _ _] at hcA
    clear hbk hgr
    by_cases hlt : k < 28
    · have hkI : (k : Int) ≤ 27 := by omega
      have hW := Lib.hid (fun W => Word_calls (k : Int) W)
      have HH := Lib.hid (kUp_hit w0 k hk1 (by omega))
      have HM := Lib.hid (kUp_miss w0 k)
      generalize kw (k : Int) = wd at *
      generalize kUp w0 k = ku at *
      by_cases hwd : wd = w0
      · have hcm : ((str wd).toList == (str w0).toList) = true := by rw [str_list, str_list, hwd]; simp
        have hcm2 : (str wd).toList = (str w0).toList := by rw [str_list, str_list, hwd]
        have HE := Lib.hid (HH.out hwd)
        clear HH HM hwd
        go_wp2_with (first | (go_at_call 67; refine (hW.out _).mono ?_; rintro e w2 ⟨rfl, rfl⟩))
        go_roundw
        case rel => exact ⟨k + 1, by omega, by omega, by go_num, by
          have := HBK.out.set_ 0 (.int .i64 (k : Int))
          rw [zk_set0] at this
          rw [HE.out]
          exact this, gr_setCell HGR.out _ _⟩
        case measure => simp [intOf]; omega
      · have hcm : ((str wd).toList == (str w0).toList) = false := by rw [str_list, str_list, beq_eq_false_iff_ne]; exact hwd
        have hcm2 : ¬ (str wd).toList = (str w0).toList := by rw [str_list, str_list]; exact hwd
        have HE := Lib.hid (HM.out hwd)
        clear HH HM hwd
        go_wp2_with (first | (go_at_call 67; refine (hW.out _).mono ?_; rintro e w2 ⟨rfl, rfl⟩))
        go_roundw
        case rel => exact ⟨k + 1, by omega, by omega, by go_num, by rw [HE.out]; exact HBK.out, HGR.out⟩
        case measure => simp [intOf]; omega
    · obtain rfl : k = 28 := by omega
      have hkr := kindOf_range w0
      by_cases hneg : kindOf w0 < 0
      · have hku : kUp w0 28 = 0 := by unfold kUp; rw [if_neg (by omega)]
        have hpb : Hid (parseR x = none) := by rw [hPR.out, if_neg (by omega)]; trivial
        rw [hku] at hcA HBK
        have hW := Lib.hid (fun W => Word_calls 0 W)
        have hBr : Hid (Blk wr w.heap.size 64 (zk 0)) := (HGR.out.block _ (by have := hB0'.out.lt; omega) (fun e => by have := Option.some.inj e; omega)).trans hB0'.out
        clear hku hPR
        go_wp2_with (first | (go_at_call 67; refine (hW.out _).mono ?_; rintro e w2 ⟨rfl, rfl⟩) | (refine wpList_build rfl 64 #[] rfl (.agg (zk 0)) (by kernel_rfl) ?_) | (refine wpList_storeAgg rfl rfl 64 (.tmp 2) _ rfl w.heap.size 0 rfl (zk 0) rfl hT0.out (hBr.out.room 0 _ (by omega)) (zk_oneCell 0) ?_))
        have hfb := hBr.out.setCells (zk 0).toList 0 (by rw [Array.length_toList]; omega)
        rw [ovw_all _ _ (by rw [Array.length_toList])] at hfb
        exact bodyPost_ret (results_agg_tmp rfl _ _ w.heap.size (zk 0) rfl hT0.out (cellsAt_blk hfb)) rfl ⟨below_setCells (below_gr hbel.out (by omega) (by have := hbel.out.size; omega) HGR.out) _ _ _ (Nat.le_refl _), .inl ⟨hpb.out, rfl⟩⟩
      · obtain ⟨kk, hkk⟩ : ∃ kk, kk = kindOf w0 := ⟨_, rfl⟩
        have hku : kUp w0 28 = kk := by unfold kUp; rw [hkk, if_pos (by omega)]
        rw [hku] at hcA HBK
        rw [← hkk] at hPR hkr hneg
        have hk0 : ¬ kk = 0 := by
          intro e
          have := (kindOf_word w0 (by omega)).1
          rw [← hkk, e] at this
          unfold isKind at this
          omega
        have hk0' : (kk == 0) = false := by rw [beq_eq_false_iff_ne]; exact hk0
        have hW := Lib.hid (fun W => Word_calls kk W)
        have hf10 := (kt_len kk).1
        have hlet := Lib.hid (kf_fields kk)
        have hlist := Lib.hid (kf_list kk)
        have hl22 := Lib.hid (show kk = 22 → kf kk = [108] from fun e => by rw [e]; decide)
        have hBr := Lib.hid (fun W (hg : wB.grownBy W (some gA)) => (show Blk W w.heap.size 64 (zk 0) from (hg.block _ (by have := hB0'.out.lt; omega) (fun e => by have := Option.some.inj e; omega)).trans hB0'.out))
        unfold kF at hW
        clear hku hkk
        generalize hfs : kf kk = fs at *
        have hml : (fs.map fun c => c - 32).length = fs.length := List.length_map _
        have hszf : (str (fs.map fun c => c - 32)).size = fs.length := by rw [str_size]; exact hml
        have HFS0 := Lib.hid hfs
        clear hfs hml
        by_cases hlen : ws.length = fs.length
        · have hq : ((ws.length : Int) + 1 != (fs.length : Int) + 1) = false := by simp; omega
          have hq2 : ((ws.length : Int) = (fs.length : Int)) := by omega
          have hPG : Hid (parseR x = parseFs rF (zAct kk) fs ws) := by rw [hPR.out, if_pos ⟨by omega, hlen⟩]; trivial
          have hlenH := Lib.hid hlen
          clear hPR hlen
          go_wp2_with (first | (go_at_call 67; refine (hW.out _).mono ?_; rintro e w2 ⟨rfl, rfl⟩))
          have HF0 : FRel fs ws kk gA wB (.bool true) (.int .i64 0) wr := ⟨0, by omega, rfl, .inl ⟨rfl, zAct kk, none, 0, 0, none, 0, 0, rfl, HBK.out, ⟨zAct_fit _ (by omega) (by omega), RdBx.nil _ _, RdKVx.nil _ _⟩, HGR.out⟩⟩
          obtain ⟨wo, rfl⟩ : ∃ wo : World, wo = wr := ⟨_, rfl⟩
          have HF0' := Lib.hid HF0
          clear HF0 hc0 hcA hfz HBK HGR hW hq hq2
          go_loopw [11, 12] (fun ok i wr => FRel fs ws kk gA wB ok i wr) (fun _ i _ => fs.length - (intOf i).toNat)
          case atStart => exact HF0'.out
          case round =>
            obtain ⟨k, hk, rfl, hrel⟩ := hrel
            rcases hrel with ⟨rfl, A, bA, bn, bc, lA, ln, lc, hst⟩ | ⟨rfl, hno, hgr⟩
            · have HFS := Lib.hid hst
              have HF := Lib.hid hst.rd.1
              have hsz121 := ak_size A (.slice bA bn bc) (.slice lA ln lc) hst.rd.1
              by_cases hlt : k < fs.length
              · obtain ⟨s, hs⟩ : ∃ s, ws[k]? = some s := ⟨_, List.getElem?_eq_getElem (by have := hlenH.out; omega)⟩
                have hsg : ws.getD k [] = s := by rw [List.getD_eq_getElem?_getD, hs]; rfl
                have hstep := parseFs_take rF fs ws (zAct kk) A k hlt hst.hp
                have hno := Lib.hid (fun h => parseFs_none rF fs ws (zAct kk) (k + 1) (hstep.trans h))
                rw [hsg] at hstep hno
                have hsl := hWL.out s (List.mem_of_getElem? hs)
                have hcs := hCL.out wr hst.gr (k + 1) s (by simpa using hs)
                rw [Nat.zero_add] at hcs
                have hgc : fs[k]? = some (fs.getD k 0) := by rw [List.getD_eq_getElem?_getD, List.getElem?_eq_getElem hlt]; rfl
                have hidx := fun W => idx_strs (P := Tryd.prog) (fs.map fun c => c - 32) k (fs.getD k 0 - 32) (by rw [List.getElem?_map, hgc]; rfl) W Tryd.underlying9
                have hlc := hlet.out _ (List.mem_of_getElem? hgc)
                have hA0 := (show fs.getD k 0 = 108 → A.l = [] by
                  intro e
                  have h22 := hlist.out (by rw [← e]; exact List.mem_of_getElem? hgc)
                  have hfe := hl22.out h22
                  have h1 : fs.length = 1 := by rw [hfe]; rfl
                  obtain rfl : k = 0 := by omega
                  have hp := hst.hp
                  simp only [List.take_zero, parseFs, Option.some.injEq] at hp
                  rw [← hp]; rfl)
                have HA0 := Lib.hid hA0
                have hkw : k < ws.length := by have := hlenH.out; omega
                have hib : (0 : Int) ≤ (k : Int) + 1 ∧ (k : Int) + 1 < (ws.length : Int) + 1 := by omega
                have hin : ((k : Int) + 1).toNat = k + 1 := by omega
                have hltI : (k : Int) < (fs.length : Int) := by omega
                generalize fs.getD k 0 = c at *
                clear hst hs hsg hgc hA0
                rcases hlc with rfl | rfl | rfl | rfl | rfl | rfl | rfl | rfl
                · have hidxC : ∀ W, (Instr.index 9 (.string (str (fs.map fun c => c - 32))) (.int .i64 (k : Int))).run Tryd.prog W = .ok (.int .u8 65) W := hidx
                  clear hidx
                  have hrf : rF A 97 s = if (undigL s).2 = true ∧ (undigL s).1.length = 20 then some { A with addr := (undigL s).1 } else none := rfl
                  have hcu := Lib.hid (unhex75_calls s wr (by omega))
                  have hcopy := fun (W : World) A1 (bs : List UInt8) c1 (hr : RdB W A1 bs.length c1 bs) (hW : Below wr.heap.size wr W) => run_copyB (P := Tryd.prog) W 22 22 3 5 gA 1 20 20 A1 bs.length c1 bs Tryd.underlying22 (by kernel_rfl) hr (fun j hj => (HFS.out.blk.below hW HFS.out.blk.lt).room 1 20 (by rw [hsz121]; omega) j (by omega))
                  rcases fixQ s 20 (by omega) with ⟨h1, h2, h3, h4⟩ | ⟨h1, h2⟩
                  · rw [hrf, if_pos ⟨h1, h2⟩, h3] at hstep
                    rw [h3] at h2
                    rw [h4] at hcu
                    generalize (unhexQ s).1 = bs at *
                    have HST := Lib.hid hstep
                    have hl := h2
                    have HFX := Lib.hid (fun w1 hb1 => HFS.out.fix (w1 := w1) hb1 1 (bvs bs) { A with addr := bs } ⟨hl, HF.out.hk, HF.out.hw, HF.out.hr, HF.out.hn0, HF.out.hn1, HF.out.hm0, HF.out.hm1, HF.out.hk0, HF.out.hk1⟩ rfl rfl (ovw_addr A _ _ bs HF.out hl) (by rw [bvs_length, hl]; omega) hstep)
                    have ht : bs.take 20 = bs := List.take_of_length_le (by omega)
                    have hq : ((bs.length : Int) == 20) = true := by rw [hl]; rfl
                    have hq2 : (bs.length : Int) = 20 := by rw [hl]; rfl
                    clear hstep hrf h1 h2 h3 h4 hl
                    go_wp2_with (first | (go_at_call 75; refine (hcu.out).mono ?_; rintro e w1 ⟨⟨vb, rfl, ho⟩, hb1⟩; obtain ⟨A1, c1, rfl, hr1⟩ := ho.reads; have hcp := hcopy w1 A1 bs c1 hr1 hb1; rw [ht] at hcp; have HFX2 := Lib.hid (HFX.out w1 hb1); clear hcopy HFX; clear ht))
                    go_roundw
                    case rel =>
                      first
                        | exact FRel.good hlt HFX2.out _ (by go_num)
                        | ((repeat apply Exists.intro); exact ⟨FRel.good hlt HFX2.out _ rfl, rfl⟩)
                    case measure => simp [intOf]; try omega
                  · have HNO := Lib.hid (hno.out (by rw [hrf, if_neg h1]))
                    generalize hub : unhexQ s = ub at *
                    obtain ⟨bs, okb⟩ := ub
                    simp only at h2 hcu
                    have hgr3 := Lib.hid (fun w1 (hb1 : Below wr.heap.size wr w1) vs => (show wB.grownBy (w1.setCells gA 1 vs) (some gA) from gr_trans HFS.out.gr (gr_setCells (gr_below hb1) _ _)))
                    cases okb with
                    | true =>
                      have hq2 : ¬ (bs.length : Int) = 20 := fun e => h2 ⟨rfl, by omega⟩
                      have hq : ((bs.length : Int) == 20) = false := by rw [beq_eq_false_iff_ne]; exact hq2
                      clear hstep hrf h1 h2 hub
                      go_wp2_with (first | (go_at_call 75; refine (hcu.out).mono ?_; rintro e w1 ⟨⟨vb, rfl, ho⟩, hb1⟩; obtain ⟨A1, c1, rfl, hr1⟩ := ho.reads; have hcp := hcopy w1 A1 bs c1 hr1 hb1; clear hcopy))
                      go_roundw
                      case rel => exact FRel.bad hlt HNO.out (hgr3.out w1 hb1 _) _ (by go_num)
                      case measure => simp [intOf]; try omega
                    | false =>
                      clear hstep hrf h1 h2 hub
                      go_wp2_with (first | (go_at_call 75; refine (hcu.out).mono ?_; rintro e w1 ⟨⟨vb, rfl, ho⟩, hb1⟩; obtain ⟨A1, c1, rfl, hr1⟩ := ho.reads; have hcp := hcopy w1 A1 bs c1 hr1 hb1; clear hcopy))
                      go_roundw
                      case rel => exact FRel.bad hlt HNO.out (hgr3.out w1 hb1 _) _ (by go_num)
                      case measure => simp [intOf]; try omega
                · have hidxC : ∀ W, (Instr.index 9 (.string (str (fs.map fun c => c - 32))) (.int .i64 (k : Int))).run Tryd.prog W = .ok (.int .u8 75) W := hidx
                  clear hidx
                  have hrf : rF A 107 s = if (undigL s).2 = true ∧ (undigL s).1.length = 32 then some { A with key := (undigL s).1 } else none := rfl
                  have hcu := Lib.hid (unhex75_calls s wr (by omega))
                  have hcopy := fun (W : World) A1 (bs : List UInt8) c1 (hr : RdB W A1 bs.length c1 bs) (hW : Below wr.heap.size wr W) => run_copyB (P := Tryd.prog) W 22 22 3 5 gA 21 32 32 A1 bs.length c1 bs Tryd.underlying22 (by kernel_rfl) hr (fun j hj => (HFS.out.blk.below hW HFS.out.blk.lt).room 21 32 (by rw [hsz121]; omega) j (by omega))
                  rcases fixQ s 32 (by omega) with ⟨h1, h2, h3, h4⟩ | ⟨h1, h2⟩
                  · rw [hrf, if_pos ⟨h1, h2⟩, h3] at hstep
                    rw [h3] at h2
                    rw [h4] at hcu
                    generalize (unhexQ s).1 = bs at *
                    have HST := Lib.hid hstep
                    have hl := h2
                    have HFX := Lib.hid (fun w1 hb1 => HFS.out.fix (w1 := w1) hb1 21 (bvs bs) { A with key := bs } ⟨HF.out.ha, hl, HF.out.hw, HF.out.hr, HF.out.hn0, HF.out.hn1, HF.out.hm0, HF.out.hm1, HF.out.hk0, HF.out.hk1⟩ rfl rfl (ovw_key A _ _ bs HF.out hl) (by rw [bvs_length, hl]; omega) hstep)
                    have ht : bs.take 32 = bs := List.take_of_length_le (by omega)
                    have hq : ((bs.length : Int) == 32) = true := by rw [hl]; rfl
                    have hq2 : (bs.length : Int) = 32 := by rw [hl]; rfl
                    clear hstep hrf h1 h2 h3 h4 hl
                    go_wp2_with (first | (go_at_call 75; refine (hcu.out).mono ?_; rintro e w1 ⟨⟨vb, rfl, ho⟩, hb1⟩; obtain ⟨A1, c1, rfl, hr1⟩ := ho.reads; have hcp := hcopy w1 A1 bs c1 hr1 hb1; rw [ht] at hcp; have HFX2 := Lib.hid (HFX.out w1 hb1); clear hcopy HFX; clear ht))
                    go_roundw
                    case rel =>
                      first
                        | exact FRel.good hlt HFX2.out _ (by go_num)
                        | ((repeat apply Exists.intro); exact ⟨FRel.good hlt HFX2.out _ rfl, rfl⟩)
                    case measure => simp [intOf]; try omega
                  · have HNO := Lib.hid (hno.out (by rw [hrf, if_neg h1]))
                    generalize hub : unhexQ s = ub at *
                    obtain ⟨bs, okb⟩ := ub
                    simp only at h2 hcu
                    have hgr3 := Lib.hid (fun w1 (hb1 : Below wr.heap.size wr w1) vs => (show wB.grownBy (w1.setCells gA 21 vs) (some gA) from gr_trans HFS.out.gr (gr_setCells (gr_below hb1) _ _)))
                    cases okb with
                    | true =>
                      have hq2 : ¬ (bs.length : Int) = 32 := fun e => h2 ⟨rfl, by omega⟩
                      have hq : ((bs.length : Int) == 32) = false := by rw [beq_eq_false_iff_ne]; exact hq2
                      clear hstep hrf h1 h2 hub
                      go_wp2_with (first | (go_at_call 75; refine (hcu.out).mono ?_; rintro e w1 ⟨⟨vb, rfl, ho⟩, hb1⟩; obtain ⟨A1, c1, rfl, hr1⟩ := ho.reads; have hcp := hcopy w1 A1 bs c1 hr1 hb1; clear hcopy))
                      go_roundw
                      case rel => exact FRel.bad hlt HNO.out (hgr3.out w1 hb1 _) _ (by go_num)
                      case measure => simp [intOf]; try omega
                    | false =>
                      clear hstep hrf h1 h2 hub
                      go_wp2_with (first | (go_at_call 75; refine (hcu.out).mono ?_; rintro e w1 ⟨⟨vb, rfl, ho⟩, hb1⟩; obtain ⟨A1, c1, rfl, hr1⟩ := ho.reads; have hcp := hcopy w1 A1 bs c1 hr1 hb1; clear hcopy))
                      go_roundw
                      case rel => exact FRel.bad hlt HNO.out (hgr3.out w1 hb1 _) _ (by go_num)
                      case measure => simp [intOf]; try omega
                · have hidxC : ∀ W, (Instr.index 9 (.string (str (fs.map fun c => c - 32))) (.int .i64 (k : Int))).run Tryd.prog W = .ok (.int .u8 87) W := hidx
                  clear hidx
                  have hrf : rF A 119 s = if (undigL s).2 = true ∧ (undigL s).1.length = 32 then some { A with word := (undigL s).1 } else none := rfl
                  have hcu := Lib.hid (unhex75_calls s wr (by omega))
                  have hcopy := fun (W : World) A1 (bs : List UInt8) c1 (hr : RdB W A1 bs.length c1 bs) (hW : Below wr.heap.size wr W) => run_copyB (P := Tryd.prog) W 22 22 3 5 gA 53 32 32 A1 bs.length c1 bs Tryd.underlying22 (by kernel_rfl) hr (fun j hj => (HFS.out.blk.below hW HFS.out.blk.lt).room 53 32 (by rw [hsz121]; omega) j (by omega))
                  rcases fixQ s 32 (by omega) with ⟨h1, h2, h3, h4⟩ | ⟨h1, h2⟩
                  · rw [hrf, if_pos ⟨h1, h2⟩, h3] at hstep
                    rw [h3] at h2
                    rw [h4] at hcu
                    generalize (unhexQ s).1 = bs at *
                    have HST := Lib.hid hstep
                    have hl := h2
                    have HFX := Lib.hid (fun w1 hb1 => HFS.out.fix (w1 := w1) hb1 53 (bvs bs) { A with word := bs } ⟨HF.out.ha, HF.out.hk, hl, HF.out.hr, HF.out.hn0, HF.out.hn1, HF.out.hm0, HF.out.hm1, HF.out.hk0, HF.out.hk1⟩ rfl rfl (ovw_word A _ _ bs HF.out hl) (by rw [bvs_length, hl]; omega) hstep)
                    have ht : bs.take 32 = bs := List.take_of_length_le (by omega)
                    have hq : ((bs.length : Int) == 32) = true := by rw [hl]; rfl
                    have hq2 : (bs.length : Int) = 32 := by rw [hl]; rfl
                    clear hstep hrf h1 h2 h3 h4 hl
                    go_wp2_with (first | (go_at_call 75; refine (hcu.out).mono ?_; rintro e w1 ⟨⟨vb, rfl, ho⟩, hb1⟩; obtain ⟨A1, c1, rfl, hr1⟩ := ho.reads; have hcp := hcopy w1 A1 bs c1 hr1 hb1; rw [ht] at hcp; have HFX2 := Lib.hid (HFX.out w1 hb1); clear hcopy HFX; clear ht))
                    go_roundw
                    case rel =>
                      first
                        | exact FRel.good hlt HFX2.out _ (by go_num)
                        | ((repeat apply Exists.intro); exact ⟨FRel.good hlt HFX2.out _ rfl, rfl⟩)
                    case measure => simp [intOf]; try omega
                  · have HNO := Lib.hid (hno.out (by rw [hrf, if_neg h1]))
                    generalize hub : unhexQ s = ub at *
                    obtain ⟨bs, okb⟩ := ub
                    simp only at h2 hcu
                    have hgr3 := Lib.hid (fun w1 (hb1 : Below wr.heap.size wr w1) vs => (show wB.grownBy (w1.setCells gA 53 vs) (some gA) from gr_trans HFS.out.gr (gr_setCells (gr_below hb1) _ _)))
                    cases okb with
                    | true =>
                      have hq2 : ¬ (bs.length : Int) = 32 := fun e => h2 ⟨rfl, by omega⟩
                      have hq : ((bs.length : Int) == 32) = false := by rw [beq_eq_false_iff_ne]; exact hq2
                      clear hstep hrf h1 h2 hub
                      go_wp2_with (first | (go_at_call 75; refine (hcu.out).mono ?_; rintro e w1 ⟨⟨vb, rfl, ho⟩, hb1⟩; obtain ⟨A1, c1, rfl, hr1⟩ := ho.reads; have hcp := hcopy w1 A1 bs c1 hr1 hb1; clear hcopy))
                      go_roundw
                      case rel => exact FRel.bad hlt HNO.out (hgr3.out w1 hb1 _) _ (by go_num)
                      case measure => simp [intOf]; try omega
                    | false =>
                      clear hstep hrf h1 h2 hub
                      go_wp2_with (first | (go_at_call 75; refine (hcu.out).mono ?_; rintro e w1 ⟨⟨vb, rfl, ho⟩, hb1⟩; obtain ⟨A1, c1, rfl, hr1⟩ := ho.reads; have hcp := hcopy w1 A1 bs c1 hr1 hb1; clear hcopy))
                      go_roundw
                      case rel => exact FRel.bad hlt HNO.out (hgr3.out w1 hb1 _) _ (by go_num)
                      case measure => simp [intOf]; try omega
                · have hidxC : ∀ W, (Instr.index 9 (.string (str (fs.map fun c => c - 32))) (.int .i64 (k : Int))).run Tryd.prog W = .ok (.int .u8 82) W := hidx
                  clear hidx
                  have hrf : rF A 114 s = if (undigL s).2 = true ∧ (undigL s).1.length = 32 then some { A with root := (undigL s).1 } else none := rfl
                  have hcu := Lib.hid (unhex75_calls s wr (by omega))
                  have hcopy := fun (W : World) A1 (bs : List UInt8) c1 (hr : RdB W A1 bs.length c1 bs) (hW : Below wr.heap.size wr W) => run_copyB (P := Tryd.prog) W 22 22 3 5 gA 85 32 32 A1 bs.length c1 bs Tryd.underlying22 (by kernel_rfl) hr (fun j hj => (HFS.out.blk.below hW HFS.out.blk.lt).room 85 32 (by rw [hsz121]; omega) j (by omega))
                  rcases fixQ s 32 (by omega) with ⟨h1, h2, h3, h4⟩ | ⟨h1, h2⟩
                  · rw [hrf, if_pos ⟨h1, h2⟩, h3] at hstep
                    rw [h3] at h2
                    rw [h4] at hcu
                    generalize (unhexQ s).1 = bs at *
                    have HST := Lib.hid hstep
                    have hl := h2
                    have HFX := Lib.hid (fun w1 hb1 => HFS.out.fix (w1 := w1) hb1 85 (bvs bs) { A with root := bs } ⟨HF.out.ha, HF.out.hk, HF.out.hw, hl, HF.out.hn0, HF.out.hn1, HF.out.hm0, HF.out.hm1, HF.out.hk0, HF.out.hk1⟩ rfl rfl (ovw_root A _ _ bs HF.out hl) (by rw [bvs_length, hl]; omega) hstep)
                    have ht : bs.take 32 = bs := List.take_of_length_le (by omega)
                    have hq : ((bs.length : Int) == 32) = true := by rw [hl]; rfl
                    have hq2 : (bs.length : Int) = 32 := by rw [hl]; rfl
                    clear hstep hrf h1 h2 h3 h4 hl
                    go_wp2_with (first | (go_at_call 75; refine (hcu.out).mono ?_; rintro e w1 ⟨⟨vb, rfl, ho⟩, hb1⟩; obtain ⟨A1, c1, rfl, hr1⟩ := ho.reads; have hcp := hcopy w1 A1 bs c1 hr1 hb1; rw [ht] at hcp; have HFX2 := Lib.hid (HFX.out w1 hb1); clear hcopy HFX; clear ht))
                    go_roundw
                    case rel =>
                      first
                        | exact FRel.good hlt HFX2.out _ (by go_num)
                        | ((repeat apply Exists.intro); exact ⟨FRel.good hlt HFX2.out _ rfl, rfl⟩)
                    case measure => simp [intOf]; try omega
                  · have HNO := Lib.hid (hno.out (by rw [hrf, if_neg h1]))
                    generalize hub : unhexQ s = ub at *
                    obtain ⟨bs, okb⟩ := ub
                    simp only at h2 hcu
                    have hgr3 := Lib.hid (fun w1 (hb1 : Below wr.heap.size wr w1) vs => (show wB.grownBy (w1.setCells gA 85 vs) (some gA) from gr_trans HFS.out.gr (gr_setCells (gr_below hb1) _ _)))
                    cases okb with
                    | true =>
                      have hq2 : ¬ (bs.length : Int) = 32 := fun e => h2 ⟨rfl, by omega⟩
                      have hq : ((bs.length : Int) == 32) = false := by rw [beq_eq_false_iff_ne]; exact hq2
                      clear hstep hrf h1 h2 hub
                      go_wp2_with (first | (go_at_call 75; refine (hcu.out).mono ?_; rintro e w1 ⟨⟨vb, rfl, ho⟩, hb1⟩; obtain ⟨A1, c1, rfl, hr1⟩ := ho.reads; have hcp := hcopy w1 A1 bs c1 hr1 hb1; clear hcopy))
                      go_roundw
                      case rel => exact FRel.bad hlt HNO.out (hgr3.out w1 hb1 _) _ (by go_num)
                      case measure => simp [intOf]; try omega
                    | false =>
                      clear hstep hrf h1 h2 hub
                      go_wp2_with (first | (go_at_call 75; refine (hcu.out).mono ?_; rintro e w1 ⟨⟨vb, rfl, ho⟩, hb1⟩; obtain ⟨A1, c1, rfl, hr1⟩ := ho.reads; have hcp := hcopy w1 A1 bs c1 hr1 hb1; clear hcopy))
                      go_roundw
                      case rel => exact FRel.bad hlt HNO.out (hgr3.out w1 hb1 _) _ (by go_num)
                      case measure => simp [intOf]; try omega
                · have hidxC : ∀ W, (Instr.index 9 (.string (str (fs.map fun c => c - 32))) (.int .i64 (k : Int))).run Tryd.prog W = .ok (.int .u8 78) W := hidx
                  clear hidx
                  have hrf : rF A 110 s = (numL s).map fun n => { A with n := n } := rfl
                  have hcu := Lib.hid (fun W => toInt76_calls s W (by omega))
                  have hfz := HFS.out.blk.frozen 117
                  have hcl := (HFS.out.blk.cell 117).trans (ak_tail _ _ _ HF.out 0)
                  have hgr3 := Lib.hid (fun (v : Value) => (show wB.grownBy (wr.setCell ⟨gA, 117, none⟩ v) (some gA) from gr_trans HFS.out.gr (gr_setCell (World.grownBy.refl wr _) _ _)))
                  cases hnum : numL s with
                  | some n =>
                    have hn := numL_some s n hnum
                    rw [hrf, hnum] at hstep
                    rw [hnum] at hcu
                    simp only [intV] at hcu
                    have HFX := Lib.hid (HFS.out.num 117 (.int .i64 n) { A with n := n } ⟨HF.out.ha, HF.out.hk, HF.out.hw, HF.out.hr, hn.2.1, hn.2.2, HF.out.hm0, HF.out.hm1, HF.out.hk0, HF.out.hk1⟩ rfl rfl (set_n A _ _ n HF.out) hstep)
                    clear hstep hrf hn hnum
                    go_wp2_with (first | (go_at_call 76; refine (hcu.out _).mono ?_; rintro e w1 ⟨rfl, rfl⟩))
                    go_roundw
                    case rel => exact FRel.good hlt HFX.out _ (by go_num)
                    case measure => simp [intOf]; try omega
                  | none =>
                    rw [hnum] at hcu
                    simp only [intV] at hcu
                    have HNO := Lib.hid (hno.out (by rw [hrf, hnum]; rfl))
                    clear hstep hrf hnum
                    go_wp2_with (first | (go_at_call 76; refine (hcu.out _).mono ?_; rintro e w1 ⟨rfl, rfl⟩))
                    go_roundw
                    case rel => exact FRel.bad hlt HNO.out (hgr3.out _) _ (by go_num)
                    case measure => simp [intOf]; try omega
                · have hidxC : ∀ W, (Instr.index 9 (.string (str (fs.map fun c => c - 32))) (.int .i64 (k : Int))).run Tryd.prog W = .ok (.int .u8 77) W := hidx
                  clear hidx
                  have hrf : rF A 109 s = (numL s).map fun n => { A with m := n } := rfl
                  have hcu := Lib.hid (fun W => toInt76_calls s W (by omega))
                  have hfz := HFS.out.blk.frozen 118
                  have hcl := (HFS.out.blk.cell 118).trans (ak_tail _ _ _ HF.out 1)
                  have hgr3 := Lib.hid (fun (v : Value) => (show wB.grownBy (wr.setCell ⟨gA, 118, none⟩ v) (some gA) from gr_trans HFS.out.gr (gr_setCell (World.grownBy.refl wr _) _ _)))
                  cases hnum : numL s with
                  | some n =>
                    have hn := numL_some s n hnum
                    rw [hrf, hnum] at hstep
                    rw [hnum] at hcu
                    simp only [intV] at hcu
                    have HFX := Lib.hid (HFS.out.num 118 (.int .i64 n) { A with m := n } ⟨HF.out.ha, HF.out.hk, HF.out.hw, HF.out.hr, HF.out.hn0, HF.out.hn1, hn.2.1, hn.2.2, HF.out.hk0, HF.out.hk1⟩ rfl rfl (set_m A _ _ n HF.out) hstep)
                    clear hstep hrf hn hnum
                    go_wp2_with (first | (go_at_call 76; refine (hcu.out _).mono ?_; rintro e w1 ⟨rfl, rfl⟩))
                    go_roundw
                    case rel => exact FRel.good hlt HFX.out _ (by go_num)
                    case measure => simp [intOf]; try omega
                  | none =>
                    rw [hnum] at hcu
                    simp only [intV] at hcu
                    have HNO := Lib.hid (hno.out (by rw [hrf, hnum]; rfl))
                    clear hstep hrf hnum
                    go_wp2_with (first | (go_at_call 76; refine (hcu.out _).mono ?_; rintro e w1 ⟨rfl, rfl⟩))
                    go_roundw
                    case rel => exact FRel.bad hlt HNO.out (hgr3.out _) _ (by go_num)
                    case measure => simp [intOf]; try omega
                · have hidxC : ∀ W, (Instr.index 9 (.string (str (fs.map fun c => c - 32))) (.int .i64 (k : Int))).run Tryd.prog W = .ok (.int .u8 66) W := hidx
                  clear hidx
                  by_cases hs46 : s = [46]
                  · have hrf : rF A 98 s = some A := by unfold rF; rw [if_pos ⟨rfl, hs46⟩]
                    rw [hrf] at hstep
                    have hcm : ((str s).toList != [46]) = false := by rw [str_list, hs46]; rfl
                    have hcm2 : (str s).toList = [46] := by rw [str_list, hs46]
                    have hcm3 : ((str s).toList == [46]) = true := by rw [hcm2]; rfl
                    have HFX := Lib.hid (show FState fs ws kk gA wB wr (k + 1) A bA bn bc lA ln lc from ⟨hstep, HFS.out.blk, HFS.out.rd, HFS.out.gr⟩)
                    clear hstep hrf hs46
                    go_wp2
                    go_roundw
                    case rel => exact FRel.good hlt HFX.out _ (by go_num)
                    case measure => simp [intOf]; try omega
                  · have hrf := rF_98 A s hs46
                    have hcm : ((str s).toList != [46]) = true := by rw [str_list, bne_iff_ne]; exact hs46
                    have hcm2 : ¬ (str s).toList = [46] := by rw [str_list]; exact hs46
                    have hcm3 : ((str s).toList == [46]) = false := by rw [beq_eq_false_iff_ne]; exact hcm2
                    have hszs : (str s).size = s.length := rfl
                    have hcu := Lib.hid (unhex75_calls s wr (by omega))
                    have hcell := Lib.hid (fun w1 (hb1 : Below wr.heap.size wr w1) => (show w1.cell? ⟨gA, 119, none⟩ = some (.slice bA bn bc) ∧ w1.frozen? ⟨gA, 119, none⟩ = false from ⟨((HFS.out.blk.below hb1 HFS.out.blk.lt).cell 119).trans (ak_tail _ _ _ HF.out 2), (HFS.out.blk.below hb1 HFS.out.blk.lt).frozen 119⟩))
                    rcases bytesQ s hs46 with ⟨h1, h3, h4, h5⟩ | ⟨h1, h2⟩
                    · rw [hrf, if_pos h1, h3] at hstep
                      rw [h4] at hcu
                      generalize (unhexQ s).1 = bs at *
                      have h5I : (0 : Int) < (s.length : Int) := by omega
                      have HFX := Lib.hid (fun w1 hb1 A1 c1 ho hr => HFS.out.bytes (w1 := w1) hb1 A1 c1 bs ho hr hstep)
                      clear hstep hrf h1 h3 h4 hs46
                      go_wp2_with (first | (go_at_call 75; refine (hcu.out).mono ?_; rintro e w1 ⟨⟨vb, rfl, ho⟩, hb1⟩; obtain ⟨A1, c1, rfl, hr1⟩ := ho.reads; obtain ⟨hcl, hfz⟩ := hcell.out w1 hb1; have HFX2 := Lib.hid (HFX.out w1 hb1 A1 c1 ho hr1); clear HFX))
                      go_roundw
                      case rel => exact FRel.good hlt HFX2.out _ (by go_num)
                      case measure => simp [intOf]; try omega
                    · have HNO := Lib.hid (hno.out (by rw [hrf, if_neg (by rw [h1]; simp)]))
                      generalize hub : unhexQ s = ub at *
                      obtain ⟨bs, okb⟩ := ub
                      simp only at h2 hcu
                      have hgr3 := Lib.hid (fun w1 (hb1 : Below wr.heap.size wr w1) (v : Value) => (show wB.grownBy (w1.setCell ⟨gA, 119, none⟩ v) (some gA) from gr_trans HFS.out.gr (gr_setCell (gr_below hb1) _ _)))
                      cases okb with
                      | true =>
                        have h5I : ¬ (0 : Int) < (s.length : Int) := fun e => h2 ⟨rfl, by omega⟩
                        have h5D : decide (0 < s.length) = false := decide_eq_false (fun e => h2 ⟨rfl, e⟩)
                        clear hstep hrf h1 h2 hub hs46
                        go_wp2_with (first | (go_at_call 75; refine (hcu.out).mono ?_; rintro e w1 ⟨⟨vb, rfl, ho⟩, hb1⟩; obtain ⟨A1, c1, rfl, hr1⟩ := ho.reads; obtain ⟨hcl, hfz⟩ := hcell.out w1 hb1))
                        go_roundw
                        case rel => exact FRel.bad hlt HNO.out (hgr3.out w1 hb1 _) _ (by go_num)
                        case measure => simp [intOf]; try omega
                      | false =>
                        clear hstep hrf h1 h2 hub hs46
                        go_wp2_with (first | (go_at_call 75; refine (hcu.out).mono ?_; rintro e w1 ⟨⟨vb, rfl, ho⟩, hb1⟩; obtain ⟨A1, c1, rfl, hr1⟩ := ho.reads; obtain ⟨hcl, hfz⟩ := hcell.out w1 hb1))
                        go_roundw
                        case rel => exact FRel.bad hlt HNO.out (hgr3.out w1 hb1 _) _ (by go_num)
                        case measure => simp [intOf]; try omega
                · have hidxC : ∀ W, (Instr.index 9 (.string (str (fs.map fun c => c - 32))) (.int .i64 (k : Int))).run Tryd.prog W = .ok (.int .u8 76) W := hidx
                  clear hidx
                  have hrf : rF A 108 s = pF A 108 s := rfl
                  rw [hrf] at hstep
                  have hcu := Lib.hid (list77_calls s (by omega) A bA bn bc lA ln lc gA (gA + 1) wr (by omega) HFS.out.blk.lt HFS.out.blk HFS.out.rd (HA0.out rfl))
                  cases hpf : pF A 108 s with
                  | some A1 =>
                    rw [hpf] at hstep
                    have hcu2 := Lib.hid (hcu.out.mono (fun e W' ⟨hg, h⟩ => (show e = Ending.returned (.bool true) ∧ ∃ bA' bn' bc' lA' ln' lc', FState fs ws kk gA wB W' (k + 1) A1 bA' bn' bc' lA' ln' lc' from by
                      rcases h with ⟨_, hp'⟩ | ⟨he, A', a1, a2, a3, a4, a5, a6, hp', h1, h2⟩
                      · rw [hpf] at hp'; cases hp'
                      · rw [hpf] at hp'
                        obtain rfl := Option.some.inj hp'
                        exact ⟨he, a1, a2, a3, a4, a5, a6, ⟨hstep, h1, h2, gr_trans HFS.out.gr hg⟩⟩)))
                    clear hstep hrf hpf hcu
                    go_wp2_with (first | (go_at_call 77; refine hcu2.out.mono ?_; rintro e w1 ⟨rfl, bA1, bn1, bc1, lA1, ln1, lc1, hfs1⟩))
                    go_roundw
                    case rel => exact FRel.good hlt hfs1 _ (by go_num)
                    case measure => simp [intOf]; try omega
                  | none =>
                    have HNO := Lib.hid (hno.out (by rw [hrf, hpf]))
                    have hcu2 := Lib.hid (hcu.out.mono (fun e W' ⟨hg, h⟩ => (show e = Ending.returned (.bool false) ∧ wB.grownBy W' (some gA) from by
                      rcases h with ⟨he, _⟩ | ⟨_, A', a1, a2, a3, a4, a5, a6, hp', _⟩
                      · exact ⟨he, gr_trans HFS.out.gr hg⟩
                      · rw [hpf] at hp'; cases hp')))
                    clear hstep hrf hpf hcu
                    go_wp2_with (first | (go_at_call 77; refine hcu2.out.mono ?_; rintro e w1 ⟨rfl, hg1⟩))
                    go_roundw
                    case rel => exact FRel.bad hlt HNO.out hg1 _ (by go_num)
                    case measure => simp [intOf]; try omega
              · obtain rfl : k = fs.length := by omega
                have hpp := hst.hp
                rw [List.take_length] at hpp
                have hpr : Hid (parseR x = some A) := by rw [hPG.out, hpp]; trivial
                have hltI : ¬ (fs.length : Int) < (fs.length : Int) := by omega
                have hag := Lib.hid (cellsAt_blk hst.blk)
                have hagA : Hid (AggT Tryd.prog 64 (ak A (.slice bA bn bc) (.slice lA ln lc)).toList.length) := by rw [Array.length_toList, hsz121]; exact Tryd.agg64
                have hpA : Hid (AggT Tryd.prog 64 (ak A (.slice bA bn bc) (.slice lA ln lc)).size) := by rw [hsz121]; exact Tryd.agg64
                have hBr2 := Lib.hid (hBr.out wr hst.gr)
                have hz0 : (zk 0).size = 121 := zk_size 0
                clear hpp hst
                go_wp2_with (first | (refine wpList_loadAgg rfl 64 (.tmp 5) rfl gA 0 rfl _ hagA.out hag.out ?_) | (refine wpList_storeAgg rfl rfl 64 (.tmp 2) _ rfl w.heap.size 0 rfl (ak A (.slice bA bn bc) (.slice lA ln lc)) rfl hpA.out (hBr2.out.room 0 _ (by omega)) (ak_oneCell _ _ _ _ _ _ _) ?_))
                have hfb := hBr2.out.setCells (ak A (.slice bA bn bc) (.slice lA ln lc)).toList 0 (by rw [Array.length_toList]; omega)
                rw [ovw_all _ _ (by rw [Array.length_toList]; omega)] at hfb
                refine bodyPost_ret (results_agg_tmp rfl _ _ w.heap.size (ak A (.slice bA bn bc) (.slice lA ln lc)) rfl hpA.out (cellsAt_blk hfb)) rfl ⟨below_setCells (below_gr hbel.out (by omega) (by have := hbel.out.size; omega) HFS.out.gr) _ _ _ (Nat.le_refl _), .inr ⟨A, bA, bn, bc, lA, ln, lc, hpr.out, rfl, ?_⟩⟩
                exact (HFS.out.rd.keeps ⟨by rw [setCells_size]; exact Nat.le_refl _, fun i h1 _ => heap_setCells_other _ _ _ _ _ (by omega)⟩).rd
            · have hpr : Hid (parseR x = none) := by rw [hPG.out, hno]; trivial
              have hBr2 := Lib.hid (hBr.out wr hgr)
              have HGR := Lib.hid hgr
              clear hno hgr
              by_cases hlt : k < fs.length
              · have hltI : (k : Int) < (fs.length : Int) := by omega
                go_wp2_with (first | (refine wpList_build rfl 64 #[] rfl (.agg (zk 0)) (by kernel_rfl) ?_) | (refine wpList_storeAgg rfl rfl 64 (.tmp 2) _ rfl w.heap.size 0 rfl (zk 0) rfl hT0.out (hBr2.out.room 0 _ (by omega)) (zk_oneCell 0) ?_))
                have hfb := hBr2.out.setCells (zk 0).toList 0 (by rw [Array.length_toList]; omega)
                rw [ovw_all _ _ (by rw [Array.length_toList])] at hfb
                exact bodyPost_ret (results_agg_tmp rfl _ _ w.heap.size (zk 0) rfl hT0.out (cellsAt_blk hfb)) rfl ⟨below_setCells (below_gr hbel.out (by omega) (by have := hbel.out.size; omega) HGR.out) _ _ _ (Nat.le_refl _), .inl ⟨hpr.out, rfl⟩⟩
              · have hltI : ¬ (k : Int) < (fs.length : Int) := by omega
                go_wp2_with (first | (refine wpList_build rfl 64 #[] rfl (.agg (zk 0)) (by kernel_rfl) ?_) | (refine wpList_storeAgg rfl rfl 64 (.tmp 2) _ rfl w.heap.size 0 rfl (zk 0) rfl hT0.out (hBr2.out.room 0 _ (by omega)) (zk_oneCell 0) ?_))
                have hfb := hBr2.out.setCells (zk 0).toList 0 (by rw [Array.length_toList]; omega)
                rw [ovw_all _ _ (by rw [Array.length_toList])] at hfb
                exact bodyPost_ret (results_agg_tmp rfl _ _ w.heap.size (zk 0) rfl hT0.out (cellsAt_blk hfb)) rfl ⟨below_setCells (below_gr hbel.out (by omega) (by have := hbel.out.size; omega) HGR.out) _ _ _ (Nat.le_refl _), .inl ⟨hpr.out, rfl⟩⟩
        · have hq : ((ws.length : Int) + 1 != (fs.length : Int) + 1) = true := by simp; omega
          have hq2 : ¬ ((ws.length : Int) = (fs.length : Int)) := by omega
          have hpr : Hid (parseR x = none) := by rw [hPR.out, if_neg (fun h => hlen h.2)]; trivial
          have hBr2 := Lib.hid (hBr.out wr HGR.out)
          clear hPR hlen
          go_wp2_with (first | (go_at_call 67; refine (hW.out _).mono ?_; rintro e w2 ⟨rfl, rfl⟩) | (refine wpList_build rfl 64 #[] rfl (.agg (zk 0)) (by kernel_rfl) ?_) | (refine wpList_storeAgg rfl rfl 64 (.tmp 2) _ rfl w.heap.size 0 rfl (zk 0) rfl hT0.out (hBr2.out.room 0 _ (by omega)) (zk_oneCell 0) ?_))
          have hfb := hBr2.out.setCells (zk 0).toList 0 (by rw [Array.length_toList]; omega)
          rw [ovw_all _ _ (by rw [Array.length_toList])] at hfb
          exact bodyPost_ret (results_agg_tmp rfl _ _ w.heap.size (zk 0) rfl hT0.out (cellsAt_blk hfb)) rfl ⟨below_setCells (below_gr hbel.out (by omega) (by have := hbel.out.size; omega) HGR.out) _ _ _ (Nat.le_refl _), .inl ⟨hpr.out, rfl⟩⟩
end Go.Proofs.YtfjfjjcdlgdbcaaDoor
