/- The document's Same, at two readings of one act -/
import Derived.Test.YtfjfjjcdlgdbcaaDoorE36
namespace Go.Proofs.YtfjfjjcdlgdbcaaDoor
open Go.RowKit
set_option linter.unusedSimpArgs false
set_option linter.unusedVariables false

theorem Tryd.agg60 : AggT Tryd.prog 60 20 := by
  refine ⟨?_, by kernel_rfl⟩
  rw [Tryd.underlying60]; exact rfl
theorem Tryd.agg61 : AggT Tryd.prog 61 32 := by
  refine ⟨?_, by kernel_rfl⟩
  rw [Tryd.underlying61]; exact rfl
theorem Tryd.g60 : Tryd.prog.eqGuardType Tryd.prog.depth 60 = false := by kernel_rfl
theorem Tryd.g61 : Tryd.prog.eqGuardType Tryd.prog.depth 61 = false := by kernel_rfl
theorem Tryd.g25 : Tryd.prog.eqGuardType Tryd.prog.depth 25 = false := by kernel_rfl
theorem bvs_at {xs : List UInt8} {j : Nat} {v : Value} (h : (bvs xs)[j]? = some v) : ∃ u, xs[j]? = some u ∧ v = bv u := by
  simp only [bvs, List.getElem?_map, Option.map_eq_some_iff] at h
  obtain ⟨u, h1, h2⟩ := h
  exact ⟨u, h1, h2.symm⟩
theorem Blk.row {w : World} {g : Nat} {t : TypeId} {cs : Array Value} (hB : Blk w g t cs) (off : Nat) (xs : List UInt8) (h : ∀ j u, xs[j]? = some u → cs[off + j]? = some (bv u)) : CellsAt w g off (bvs xs) :=
  hB.cells off _ (fun j v hv => by
    obtain ⟨u, hu, rfl⟩ := bvs_at hv
    exact h j u hu)
theorem same_bytes (xs : List UInt8) (n : Nat) (t : TypeId) (hk : Tryd.prog.keyTypeAt 2 t = true) (ht : Tryd.prog.underlying t = some (.array n 5)) (hct : Tryd.prog.cellsOf t = n) (hx : xs.length = n) (W : World) :
    (Op.equalIn 10000 t (.agg (bvs xs).toArray) (.agg (bvs xs).toArray)).run Tryd.prog W = .ok true W := by
  have := run_equalBytes (P := Tryd.prog) W 9998 t 5 n xs xs hk ht Tryd.underlying5 (by kernel_rfl) hct hx hx
  rwa [decide_eq_true rfl] at this

set_option maxRecDepth 100000 in
set_option maxHeartbeats 8000000 in
theorem Tryd.same_calls (A : ActP) (bA : Option Addr) (bn bc : Nat) (lA : Option Addr) (ln lc : Nat) (bB : Option Addr) (bm bd : Nat) (lB : Option Addr) (lm ld : Nat) (w : World) (h : RdAct w A bA bn bc lA ln lc) (h' : RdAct w A bB bm bd lB lm ld) :
    Calls Tryd.prog 39 #[.agg (ak A (.slice bA bn bc) (.slice lA ln lc)), .agg (ak A (.slice bB bm bd) (.slice lB lm ld))] w fun e w' => e = .returned (.bool true) ∧ Below w.heap.size w w' := by
  obtain ⟨hF, hb1, hl1⟩ := h
  obtain ⟨_, hb2, hl2⟩ := h'
  obtain rfl : bm = bn := by rw [← hb1.1, ← hb2.1]
  obtain rfl : lm = ln := by rw [← hl1.1, ← hl2.1]
  have hw2 : Below w.heap.size w ((w.alloc (.cells (ak A (.slice bA bm bc) (.slice lA lm lc)) 64)).alloc (.cells (ak A (.slice bB bm bd) (.slice lB lm ld)) 64)) := al (al (Below.refl _ _) _) _
  have hB1 : Blk ((w.alloc (.cells (ak A (.slice bA bm bc) (.slice lA lm lc)) 64)).alloc (.cells (ak A (.slice bB bm bd) (.slice lB lm ld)) 64)) w.heap.size 64 (ak A (.slice bA bm bc) (.slice lA lm lc)) := (Blk.new w 64 _).alloc _
  have hB2 : Blk ((w.alloc (.cells (ak A (.slice bA bm bc) (.slice lA lm lc)) 64)).alloc (.cells (ak A (.slice bB bm bd) (.slice lB lm ld)) 64)) (w.heap.size + 1) 64 (ak A (.slice bB bm bd) (.slice lB lm ld)) := by
    have := Blk.new (w.alloc (.cells (ak A (.slice bA bm bc) (.slice lA lm lc)) 64)) 64 (ak A (.slice bB bm bd) (.slice lB lm ld))
    rwa [World.size_alloc] at this
  have HW2 := Lib.hid hw2
  have hcv1 := run_convertB (P := Tryd.prog) _ 22 5 9 Tryd.underlying22 Tryd.underlying5 Tryd.underlying9 (hb1.below hw2)
  have hcv2 := run_convertB (P := Tryd.prog) _ 22 5 9 Tryd.underlying22 Tryd.underlying5 Tryd.underlying9 (hb2.below hw2)
  have HL1 := Lib.hid (hl1.below hw2)
  have HL2 := Lib.hid (hl2.below hw2)
  have a1 := Lib.hid (hB1.row 1 A.addr (ak_addr A _ _))
  have a2 := Lib.hid (hB2.row 1 A.addr (ak_addr A _ _))
  have k1 := Lib.hid (hB1.row 21 A.key (ak_key A _ _ hF))
  have k2 := Lib.hid (hB2.row 21 A.key (ak_key A _ _ hF))
  have w1 := Lib.hid (hB1.row 53 A.word (ak_word A _ _ hF))
  have w2 := Lib.hid (hB2.row 53 A.word (ak_word A _ _ hF))
  have r1 := Lib.hid (hB1.row 85 A.root (ak_root A _ _ hF))
  have r2 := Lib.hid (hB2.row 85 A.root (ak_root A _ _ hF))
  have c10 := (hB1.cell 0).trans (ak_0 A _ _)
  have c20 := (hB2.cell 0).trans (ak_0 A _ _)
  have c15 := (hB1.cell 117).trans (ak_tail A _ _ hF 0)
  have c25 := (hB2.cell 117).trans (ak_tail A _ _ hF 0)
  have c16 := (hB1.cell 118).trans (ak_tail A _ _ hF 1)
  have c26 := (hB2.cell 118).trans (ak_tail A _ _ hF 1)
  have c17 := (hB1.cell 119).trans (ak_tail A _ _ hF 2)
  have c27 := (hB2.cell 119).trans (ak_tail A _ _ hF 2)
  have c18 := (hB1.cell 120).trans (ak_tail A _ _ hF 3)
  have c28 := (hB2.cell 120).trans (ak_tail A _ _ hF 3)
  simp only [List.getElem?_cons_zero, List.getElem?_cons_succ] at c15 c25 c16 c26 c17 c27 c18 c28
  have T60 : Hid (AggT Tryd.prog 60 (bvs A.addr).length) := by rw [bvs_length, hF.ha]; exact Tryd.agg60
  have T61k : Hid (AggT Tryd.prog 61 (bvs A.key).length) := by rw [bvs_length, hF.hk]; exact Tryd.agg61
  have T61w : Hid (AggT Tryd.prog 61 (bvs A.word).length) := by rw [bvs_length, hF.hw]; exact Tryd.agg61
  have T25 : Hid (AggT Tryd.prog 25 (bvs A.root).length) := by rw [bvs_length, hF.hr]; exact Tryd.agg25
  have hEa := same_bytes A.addr 20 60 (by kernel_rfl) Tryd.underlying60 (by kernel_rfl) hF.ha
  have hEk := same_bytes A.key 32 61 (by kernel_rfl) Tryd.underlying61 (by kernel_rfl) hF.hk
  have hEw := same_bytes A.word 32 61 (by kernel_rfl) Tryd.underlying61 (by kernel_rfl) hF.hw
  have hEr := same_bytes A.root 32 25 (by kernel_rfl) Tryd.underlying25 (by kernel_rfl) hF.hr
  have g60 := Tryd.g60
  have g61 := Tryd.g61
  have g25 := Tryd.g25
  have hssb : ((str A.b).toList == (str A.b).toList) = true := by simp
  have hssn : ((str A.b).toList != (str A.b).toList) = false := by simp
  have hlm : lm ≤ 9223372036854775807 := by have := hl1.2.1; have := hl1.2.2.1; unfold maxLen at this; omega
  clear hB1 hB2 hw2 hb1 hb2 hl1 hl2
  have HC := Lib.hid (And.intro c10 (And.intro c20 (And.intro c15 (And.intro c25 (And.intro c16 (And.intro c26 (And.intro c17 (And.intro c27 (And.intro c18 (And.intro c28 (And.intro hcv1 hcv2)))))))))))
  clear c10 c20 c15 c25 c16 c26 c17 c27 c18 c28 hcv1 hcv2
  obtain ⟨W0, hW0⟩ : ∃ W0, W0 = ((w.alloc (.cells (ak A (.slice bA bm bc) (.slice lA lm lc)) 64)).alloc (.cells (ak A (.slice bB bm bd) (.slice lB lm ld)) 64)) := ⟨_, rfl⟩
  rw [← hW0] at HW2 HL1 HL2 a1 a2 k1 k2 w1 w2 r1 r2 HC
  have HW := Lib.hid hW0
  clear hW0
  go_enter Tryd.func39, Tryd.ntmps39
  go_upto_region 1 with (fail)
  rw [← HW.out]
  obtain ⟨c10, c20, c15, c25, c16, c26, c17, c27, c18, c28, hcv1, hcv2⟩ := HC.out
  clear HC HW
  generalize hra : (bvs A.addr) = ra at *
  generalize hrk : (bvs A.key) = rk' at *
  generalize hrw : (bvs A.word) = rw' at *
  generalize hrr : (bvs A.root) = rr at *
  clear hra hrk hrw hrr
  simp only [List.append]
  go_wp2_with (first
    | (refine wpList_loadAggG (by rfl) 60 (.tmp 12) (by rfl) w.heap.size 1 (by rfl) _ T60.out a1.out ?_)
    | (refine wpList_loadAggG (by rfl) 60 (.tmp 14) (by rfl) (w.heap.size + 1) 1 (by rfl) _ T60.out a2.out ?_)
    | (refine wpList_loadAggG (by rfl) 61 (.tmp 19) (by rfl) w.heap.size 21 (by rfl) _ T61k.out k1.out ?_)
    | (refine wpList_loadAggG (by rfl) 61 (.tmp 21) (by rfl) (w.heap.size + 1) 21 (by rfl) _ T61k.out k2.out ?_)
    | (refine wpList_loadAggG (by rfl) 61 (.tmp 26) (by rfl) w.heap.size 53 (by rfl) _ T61w.out w1.out ?_)
    | (refine wpList_loadAggG (by rfl) 61 (.tmp 28) (by rfl) (w.heap.size + 1) 53 (by rfl) _ T61w.out w2.out ?_)
    | (refine wpList_loadAggG (by rfl) 25 (.tmp 33) (by rfl) w.heap.size 85 (by rfl) _ T25.out r1.out ?_)
    | (refine wpList_loadAggG (by rfl) 25 (.tmp 35) (by rfl) (w.heap.size + 1) 85 (by rfl) _ T25.out r2.out ?_))
  go_loopw [5] (fun i wr => ∃ k : Nat, k ≤ lm ∧ i = .int .i64 k ∧ ∃ j, wr = W0.drewN j) (fun i _ => lm - (intOf i).toNat)
  case atStart => exact ⟨0, by omega, rfl, 0, rfl⟩
  case round =>
    obtain ⟨k, hk, rfl, j, rfl⟩ := hrel
    by_cases hlt : k < lm
    · obtain ⟨g, o, B, m, d, B', m', d', rfl, hgk, x1, y1, x2, y2⟩ := HL1.out.at_ hlt
      obtain ⟨g', o', C, n, e, C', n', e', rfl, _, u1, v1, u2, v2⟩ := HL2.out.at_ hlt
      have hcvA := fun q => run_convertB (P := Tryd.prog) (W0.drewN q) 22 5 9 Tryd.underlying22 Tryd.underlying5 Tryd.underlying9 (y1.drewN q)
      have hcvB := fun q => run_convertB (P := Tryd.prog) (W0.drewN q) 22 5 9 Tryd.underlying22 Tryd.underlying5 Tryd.underlying9 (y2.drewN q)
      have hcvC := fun q => run_convertB (P := Tryd.prog) (W0.drewN q) 22 5 9 Tryd.underlying22 Tryd.underlying5 Tryd.underlying9 (v1.drewN q)
      have hcvD := fun q => run_convertB (P := Tryd.prog) (W0.drewN q) 22 5 9 Tryd.underlying22 Tryd.underlying5 Tryd.underlying9 (v2.drewN q)
      clear hgk y1 y2 v1 v2 hcv1 hcv2
      generalize A.l.getD k ([], []) = kv at *
      have hltI : (k : Int) < (lm : Int) := by omega
      have hk0 : (0 : Int) ≤ (k : Int) := by omega
      have hqa : ((str kv.1).toList != (str kv.1).toList) = false := by simp
      have hqb : ((str kv.2).toList != (str kv.2).toList) = false := by simp
      have hqc : ((str kv.1).toList == (str kv.1).toList) = true := by simp
      have hqd : ((str kv.2).toList == (str kv.2).toList) = true := by simp
      go_wp2
      go_quiet (fail)
      all_goals go_wp2
      go_roundw
      case rel => exact ⟨k + 1, by omega, by go_num, _, rfl⟩
      case measure => simp [intOf]; omega
    · obtain rfl : k = lm := by omega
      go_wp2
      go_ret
      exact ⟨rfl, HW2.out.trans (drawn_below' _ _ _ HW2.out.size)⟩


def erOf (r : Option ActP) : Int := match r with
  | none => 203
  | some _ => 0
theorem ak_agg2 (N : ActP) (b l : Value) (h : N.Fit) : Hid (AggT Tryd.prog 64 (ak N b l).size) := by rw [ak_size _ _ _ h]; exact Tryd.agg64
theorem ak_aggL2 (N : ActP) (b l : Value) (h : N.Fit) : Hid (AggT Tryd.prog 64 (ak N b l).toList.length) := by rw [Array.length_toList, ak_size _ _ _ h]; exact Tryd.agg64
theorem parse_any {f : FuncId} {args : Array Value} {w : World} {r : Option ActP} (h : Calls Tryd.prog f args w (ParseEnd w r)) :
    Calls Tryd.prog f args w fun e W' => Below w.heap.size w W' ∧ ∃ bA bn bc lA ln lc, e = .returned (.tuple #[.agg (ak (r.getD (zAct 0)) (.slice bA bn bc) (.slice lA ln lc)), .int .i64 (erOf r)]) ∧ RdAct W' (r.getD (zAct 0)) bA bn bc lA ln lc :=
  h.mono fun e W' ⟨hb, h⟩ => ⟨hb, by
    rcases h with ⟨rfl, he⟩ | ⟨N, bA, bn, bc, lA, ln, lc, rfl, he, hrd⟩
    · exact ⟨none, 0, 0, none, 0, 0, he, zAct_fit 0 (by omega) (by omega), (RdBx.nil W' 0).1, (RdKVx.nil W' 0).1⟩
    · exact ⟨bA, bn, bc, lA, ln, lc, he, hrd⟩⟩
theorem Parse20_line (x : List UInt8) (w : World) (hx : x.length ≤ 3000) : Calls Tryd.prog 38 #[.string (str x)] w (ParseEnd w (parseG pF x)) := by
  rw [parse_alike]
  exact Parse20_calls x w (by omega)

set_option maxRecDepth 100000 in
set_option maxHeartbeats 4000000 in
theorem archiveParses_walk (x : List UInt8) (w : World) (hL : LaidW w) : Calls Tryd.prog 10 #[.string (str x)] w fun e w' => e = .returned (.bool true) ∧ Below w.heap.size w w' := by
  have hk := Lib.hid (known20_calls w hL)
  have hLL := Lib.hid (fun W (hW : Below w.heap.size w W) => hL.below hW)
  have hszx : (str x).size = x.length := rfl
  clear hL
  by_cases hlen : x.length ≤ 3000
  · have hlen' : ¬ (3000 : Int) < (x.length : Int) := by omega
    have hp := Lib.hid (fun W (hW : Below w.heap.size w W) => parse_any (Parse_line x W (hLL.out W hW) hlen))
    have hq := Lib.hid (fun W => parse_any (Parse20_line x W hlen))
    generalize parseG pF x = r at *
    generalize r.getD (zAct 0) = N at *
    generalize erOf r = er at *
    clear hlen
    go_enter Tryd.func10, Tryd.ntmps10
    go_wp2_with (first
      | (go_at_call 33; refine hk.out.mono ?_; clear hk; rintro e w1 ⟨rfl, hb1⟩)
      | (go_at_call 37; refine (hp.out _ hb1).mono ?_; clear hp; rintro e w2 ⟨hb2, bA, bn, bc, lA, ln, lc, rfl, hrd⟩)
      | (refine wpList_storeNew rfl rfl 64 (.tmp 3) _ rfl _ _ rfl (ak N (.slice bA bn bc) (.slice lA ln lc)) rfl (ak_agg2 _ _ _ hrd.1).out (by rw [ak_size _ _ _ hrd.1]; rfl) (ak_oneCell _ _ _ _ _ _ _) ?_)
      | (go_at_call 38; refine (hq.out _).mono ?_; clear hq; rintro e w4 ⟨hb4, bB, bm, bd, lB, lm, ld, rfl, hrd2⟩)
      | (refine wpList_storeNew rfl rfl 64 (.tmp 5) _ rfl _ _ rfl (ak N (.slice bB bm bd) (.slice lB lm ld)) rfl (ak_agg2 _ _ _ hrd2.1).out (by rw [ak_size _ _ _ hrd2.1]; rfl) (ak_oneCell _ _ _ _ _ _ _) ?_)
      | (refine wpList_loadAggG (by rfl) 64 (.tmp 3) (by rfl) w2.heap.size 0 (by rfl) _ (ak_aggL2 _ _ _ hrd.1).out (cellsAt_blk (((Blk.new w2 64 (ak N (.slice bA bn bc) (.slice lA ln lc))).below hb4 (by simp)).alloc (.cells (ak N (.slice bB bm bd) (.slice lB lm ld)) 64))) ?_)
      | (refine wpList_loadAggG (by rfl) 64 (.tmp 5) (by rfl) w4.heap.size 0 (by rfl) _ (ak_aggL2 _ _ _ hrd2.1).out (cellsAt_blk (Blk.new w4 64 (ak N (.slice bB bm bd) (.slice lB lm ld)))) ?_)
      | (go_at_call 39; refine (Tryd.same_calls N bA bn bc lA ln lc bB bm bd lB lm ld _ (((hrd.below (al (Below.refl _ w2) _)).below hb4).below (al (Below.refl _ w4) _)) (hrd2.below (al (Below.refl _ w4) _))).mono ?_; rintro e w6 ⟨rfl, hb6⟩))
    go_ret
    exact ⟨rfl, thn hb1 (thn (thn (al hb2 _) (al hb4 _)) hb6)⟩
  · have hlen' : (3000 : Int) < (x.length : Int) := by omega
    clear hlen
    go_enter Tryd.func10, Tryd.ntmps10
    go_wp2_with (first | (go_at_call 33; refine hk.out.mono ?_; clear hk; rintro e w1 ⟨rfl, hb1⟩))
    go_ret
    exact ⟨rfl, hb1⟩
end Go.Proofs.YtfjfjjcdlgdbcaaDoor
