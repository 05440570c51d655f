/- the texts D2 of this proof, one behind the other -/
import Derived.Test.YtfjfjjcdlgdbcaaDoorQ6
namespace Go.Proofs.YtfjfjjcdlgdbcaaDoor
open Go.RowKit
set_option linter.unusedSimpArgs false
set_option linter.unusedVariables false
attribute [local irreducible] wpQuiet

theorem Tryd.agg61d : AggT Tryd.prog 61 32 := by
  refine ⟨?_, by kernel_rfl⟩
  rw [Tryd.underlying61]; exact rfl
theorem Tryd.g61d : Tryd.prog.eqGuardType Tryd.prog.depth 61 = false := by kernel_rfl
theorem eq_z32 (xs : List UInt8) (hx : xs.length = 32) (W : World) : (Op.equalIn 10000 61 (.agg (bvs xs).toArray) (.agg (bvs z32w).toArray)).run Tryd.prog W = .ok (decide (xs = z32w)) W :=
  run_equalBytes (P := Tryd.prog) W 9998 61 5 32 xs z32w (by kernel_rfl) Tryd.underlying61 Tryd.underlying5 (by kernel_rfl) (by kernel_rfl) hx rfl
theorem build_z32 (e : Operand → Value) (o : Oper) (ho : o.op = .build 61 #[]) (w : World) : (execOp e o).run Tryd.prog w = .ok (.value (.agg (bvs z32w).toArray)) w := by
  unfold execOp
  rw [ho]
  kernel_rfl
theorem wpList_buildG {ops : Array Oper} {rest : List Oper} {o : Oper} {a : Act} {w : World} {Q : Exit → Act → World → Prop} (hw : Region.wanted o (yielded ops a.tmps) = true) (ho : o.op = .build 61 #[])
    (h : wpList Tryd.prog ops Q rest (a.put o.dst (.agg (bvs z32w).toArray)) w) : wpList Tryd.prog ops Q (o :: rest) a w :=
  wpList_step fun K hK => by
    rw [if_pos hw]
    unfold Oper.wp
    rw [build_z32 _ _ ho]
    exact hK _ _ h

set_option maxRecDepth 100000 in
set_option maxHeartbeats 4000000 in
theorem rises_s1 (n c : Nat) (es : List EntP) (i : Nat) (w : World) (g o : Nat) (h : RdE w (some ⟨g, o, none⟩) n c es) (hi : i + 1 < n) (hcmp : 0 ≤ Lib.compareBytes (es.getD i zE).addr (es.getD (i + 1) zE).addr) :
    Calls Tryd.prog 59 #[.slice (some ⟨g, o, none⟩) n c, .int .i64 ((i + 1 : Nat) : Int)] w fun e w' => e = .returned (.bool (risesB es (i + 1))) ∧ Below w.heap.size w w' := by
  have HR := Lib.hid (show risesB es (i + 1) = false by unfold risesB; rw [show i + 1 - 1 = i by omega, decide_eq_true (show 0 < i + 1 by omega), decide_eq_true hcmp]; rfl)
  obtain ⟨g', o', B, m, d, S, l, q, e0, hg, hc, hE⟩ := h.at_ hi
  injection e0 with e0; injection e0 with e1 e2; subst e1 e2
  obtain ⟨g', o', B', m', d', S', l', q', e0, hg', hc', hE'⟩ := h.at_ (k := i) (by omega)
  injection e0 with e0; injection e0 with e1 e2; subst e1 e2
  have hm : n ≤ 9223372036854775807 := by have := h.2.1; have := h.2.2.1; unfold maxLen at this; omega
  clear h hg hg'
  have hmc := hE.code.1
  have hmm : m ≤ 9223372036854775807 := by have := hE.code.2.1; have := hE.code.2.2.1; unfold maxLen at this; omega
  rw [HR.out]
  clear HR
  generalize es.getD (i + 1) zE = x at *
  generalize es.getD i zE = y at *
  have HT := Lib.hid (ek_aggL x (.slice B m d) (.slice S l q) hE.fit)
  have HT2 := Lib.hid (ek_aggS x (.slice B m d) (.slice S l q) hE.fit)
  have HC := Lib.hid hc
  have HO := Lib.hid (ek_one x B m d S l q)
  have hs55 := Lib.hid (ek_size x (.slice B m d) (.slice S l q) hE.fit)
  have hN := Blk.new w 79 (ek x (.slice B m d) (.slice S l q))
  have c53 := (hN.cell 53).trans (ek_tail x _ _ hE.fit 0)
  have c20 := (hN.cell 20).trans (ek_nonce x _ _ hE.fit)
  simp only [List.getElem?_cons_zero] at c53
  have HB1 := Lib.hid (fun q => (hN.bytes 21 x.bal (ek_bal x _ _ hE.fit)).drewN q)
  have T61 : Hid (AggT Tryd.prog 61 (bvs x.bal).length) := by rw [bvs_length, hE.fit.hb]; exact Tryd.agg61d
  have hEz := eq_z32 x.bal hE.fit.hb
  have g61 := Tryd.g61d
  have hA := Lib.hid (((hc'.part 0 y.addr (fun j u hu => by rw [Array.getElem?_toList]; exact ek_addr y _ _ j u hu)).rd hE'.fit.ha).alloc (.cells (ek x (.slice B m d) (.slice S l q)) 79))
  rw [Nat.add_zero] at hA
  have hB := Lib.hid (Blk.rd hN 0 20 x.addr hE.fit.ha (by unfold maxLen; omega) (ek_addr x _ _))
  have hIi : (0 : Int) ≤ (i : Int) ∧ (i : Int) < (n : Int) ∧ (0 : Int) ≤ (i : Int) + 1 ∧ (i : Int) + 1 < (n : Int) := by omega
  have htn : ((i : Int) + 1).toNat = i + 1 := by omega
  have hwi : IntKind.i64.wrap (i : Int) = i := IntWalk.i64_in _ (by omega)
  have hnI : 0 ≤ (x.nonce : Int) ∧ (x.nonce : Int) ≤ 18446744073709551615 := by have := hE.fit.hn; omega
  have hci : 0 ≤ Lib.compareBytes y.addr x.addr := by omega
  clear hc hE hN hcmp hc' hE'
  generalize x.nonce = nn at *
  go_enter Tryd.func59, Tryd.ntmps59
  go_wp2_with (first | (refine wpList_loadAgg rfl 79 (.tmp 8) rfl g (o + (i + 1) * 55) rfl _ HT.out HC.out ?_) | (refine wpList_storeNew rfl rfl 79 (.tmp 5) _ rfl _ _ rfl (ek x (.slice B m d) (.slice S l q)) rfl HT2.out (by rw [hs55.out]; rfl) HO.out ?_))
  go_quiet ((go_at_call 99; exact Calls.quiet_of_same (Compare_q _ _ _ _ _ _ _ _ _ (hA.out.drewN _) (hB.out.drewN _))))
  go_wp2
  go_ret
  exact ⟨rfl, (al (Below.refl _ _) _).trans (drawn_below' _ _ _ (by simp))⟩

set_option maxRecDepth 100000 in
set_option maxHeartbeats 4000000 in
theorem rises_s2 (n c : Nat) (es : List EntP) (i : Nat) (w : World) (g o : Nat) (h : RdE w (some ⟨g, o, none⟩) n c es) (hi : i + 1 < n) (hcmp : ¬ 0 ≤ Lib.compareBytes (es.getD i zE).addr (es.getD (i + 1) zE).addr) (h1 : 4096 < (es.getD (i + 1) zE).code.length) :
    Calls Tryd.prog 59 #[.slice (some ⟨g, o, none⟩) n c, .int .i64 ((i + 1 : Nat) : Int)] w fun e w' => e = .returned (.bool (risesB es (i + 1))) ∧ Below w.heap.size w w' := by
  have HR := Lib.hid (show risesB es (i + 1) = false by unfold risesB; rw [show i + 1 - 1 = i by omega, decide_eq_true (show 0 < i + 1 by omega), decide_eq_false hcmp, decide_eq_true h1]; rfl)
  obtain ⟨g', o', B, m, d, S, l, q, e0, hg, hc, hE⟩ := h.at_ hi
  injection e0 with e0; injection e0 with e1 e2; subst e1 e2
  obtain ⟨g', o', B', m', d', S', l', q', e0, hg', hc', hE'⟩ := h.at_ (k := i) (by omega)
  injection e0 with e0; injection e0 with e1 e2; subst e1 e2
  have hm : n ≤ 9223372036854775807 := by have := h.2.1; have := h.2.2.1; unfold maxLen at this; omega
  clear h hg hg'
  have hmc := hE.code.1
  have hmm : m ≤ 9223372036854775807 := by have := hE.code.2.1; have := hE.code.2.2.1; unfold maxLen at this; omega
  rw [HR.out]
  clear HR
  generalize es.getD (i + 1) zE = x at *
  generalize es.getD i zE = y at *
  have HT := Lib.hid (ek_aggL x (.slice B m d) (.slice S l q) hE.fit)
  have HT2 := Lib.hid (ek_aggS x (.slice B m d) (.slice S l q) hE.fit)
  have HC := Lib.hid hc
  have HO := Lib.hid (ek_one x B m d S l q)
  have hs55 := Lib.hid (ek_size x (.slice B m d) (.slice S l q) hE.fit)
  have hN := Blk.new w 79 (ek x (.slice B m d) (.slice S l q))
  have c53 := (hN.cell 53).trans (ek_tail x _ _ hE.fit 0)
  have c20 := (hN.cell 20).trans (ek_nonce x _ _ hE.fit)
  simp only [List.getElem?_cons_zero] at c53
  have HB1 := Lib.hid (fun q => (hN.bytes 21 x.bal (ek_bal x _ _ hE.fit)).drewN q)
  have T61 : Hid (AggT Tryd.prog 61 (bvs x.bal).length) := by rw [bvs_length, hE.fit.hb]; exact Tryd.agg61d
  have hEz := eq_z32 x.bal hE.fit.hb
  have g61 := Tryd.g61d
  have hA := Lib.hid (((hc'.part 0 y.addr (fun j u hu => by rw [Array.getElem?_toList]; exact ek_addr y _ _ j u hu)).rd hE'.fit.ha).alloc (.cells (ek x (.slice B m d) (.slice S l q)) 79))
  rw [Nat.add_zero] at hA
  have hB := Lib.hid (Blk.rd hN 0 20 x.addr hE.fit.ha (by unfold maxLen; omega) (ek_addr x _ _))
  have hIi : (0 : Int) ≤ (i : Int) ∧ (i : Int) < (n : Int) ∧ (0 : Int) ≤ (i : Int) + 1 ∧ (i : Int) + 1 < (n : Int) := by omega
  have htn : ((i : Int) + 1).toNat = i + 1 := by omega
  have hwi : IntKind.i64.wrap (i : Int) = i := IntWalk.i64_in _ (by omega)
  have hnI : 0 ≤ (x.nonce : Int) ∧ (x.nonce : Int) ≤ 18446744073709551615 := by have := hE.fit.hn; omega
  have hci : Lib.compareBytes y.addr x.addr < 0 := by omega
  have h1I : (4096 : Int) < (m : Int) := by omega
  have h1N : decide (4096 < m) = true := decide_eq_true (by omega)
  clear hc hE hN h1 hcmp hc' hE'
  generalize x.nonce = nn at *
  go_enter Tryd.func59, Tryd.ntmps59
  go_wp2_with (first | (refine wpList_loadAgg rfl 79 (.tmp 8) rfl g (o + (i + 1) * 55) rfl _ HT.out HC.out ?_) | (refine wpList_storeNew rfl rfl 79 (.tmp 5) _ rfl _ _ rfl (ek x (.slice B m d) (.slice S l q)) rfl HT2.out (by rw [hs55.out]; rfl) HO.out ?_))
  go_quiet ((go_at_call 99; exact Calls.quiet_of_same (Compare_q _ _ _ _ _ _ _ _ _ (hA.out.drewN _) (hB.out.drewN _))))
  go_wp2
  go_ret
  exact ⟨rfl, (al (Below.refl _ _) _).trans (drawn_below' _ _ _ (by simp))⟩

set_option maxRecDepth 100000 in
set_option maxHeartbeats 4000000 in
theorem rises_s3 (n c : Nat) (es : List EntP) (i : Nat) (w : World) (g o : Nat) (h : RdE w (some ⟨g, o, none⟩) n c es) (hi : i + 1 < n) (hcmp : ¬ 0 ≤ Lib.compareBytes (es.getD i zE).addr (es.getD (i + 1) zE).addr) (h1 : ¬ 4096 < (es.getD (i + 1) zE).code.length) (h2 : (es.getD (i + 1) zE).nonce = 18446744073709551615) :
    Calls Tryd.prog 59 #[.slice (some ⟨g, o, none⟩) n c, .int .i64 ((i + 1 : Nat) : Int)] w fun e w' => e = .returned (.bool (risesB es (i + 1))) ∧ Below w.heap.size w w' := by
  have HR := Lib.hid (show risesB es (i + 1) = false by unfold risesB; rw [show i + 1 - 1 = i by omega, decide_eq_true (show 0 < i + 1 by omega), decide_eq_false hcmp, decide_eq_false h1, decide_eq_true h2]; rfl)
  obtain ⟨g', o', B, m, d, S, l, q, e0, hg, hc, hE⟩ := h.at_ hi
  injection e0 with e0; injection e0 with e1 e2; subst e1 e2
  obtain ⟨g', o', B', m', d', S', l', q', e0, hg', hc', hE'⟩ := h.at_ (k := i) (by omega)
  injection e0 with e0; injection e0 with e1 e2; subst e1 e2
  have hm : n ≤ 9223372036854775807 := by have := h.2.1; have := h.2.2.1; unfold maxLen at this; omega
  clear h hg hg'
  have hmc := hE.code.1
  have hmm : m ≤ 9223372036854775807 := by have := hE.code.2.1; have := hE.code.2.2.1; unfold maxLen at this; omega
  rw [HR.out]
  clear HR
  generalize es.getD (i + 1) zE = x at *
  generalize es.getD i zE = y at *
  have HT := Lib.hid (ek_aggL x (.slice B m d) (.slice S l q) hE.fit)
  have HT2 := Lib.hid (ek_aggS x (.slice B m d) (.slice S l q) hE.fit)
  have HC := Lib.hid hc
  have HO := Lib.hid (ek_one x B m d S l q)
  have hs55 := Lib.hid (ek_size x (.slice B m d) (.slice S l q) hE.fit)
  have hN := Blk.new w 79 (ek x (.slice B m d) (.slice S l q))
  have c53 := (hN.cell 53).trans (ek_tail x _ _ hE.fit 0)
  have c20 := (hN.cell 20).trans (ek_nonce x _ _ hE.fit)
  simp only [List.getElem?_cons_zero] at c53
  have HB1 := Lib.hid (fun q => (hN.bytes 21 x.bal (ek_bal x _ _ hE.fit)).drewN q)
  have T61 : Hid (AggT Tryd.prog 61 (bvs x.bal).length) := by rw [bvs_length, hE.fit.hb]; exact Tryd.agg61d
  have hEz := eq_z32 x.bal hE.fit.hb
  have g61 := Tryd.g61d
  have hA := Lib.hid (((hc'.part 0 y.addr (fun j u hu => by rw [Array.getElem?_toList]; exact ek_addr y _ _ j u hu)).rd hE'.fit.ha).alloc (.cells (ek x (.slice B m d) (.slice S l q)) 79))
  rw [Nat.add_zero] at hA
  have hB := Lib.hid (Blk.rd hN 0 20 x.addr hE.fit.ha (by unfold maxLen; omega) (ek_addr x _ _))
  have hIi : (0 : Int) ≤ (i : Int) ∧ (i : Int) < (n : Int) ∧ (0 : Int) ≤ (i : Int) + 1 ∧ (i : Int) + 1 < (n : Int) := by omega
  have htn : ((i : Int) + 1).toNat = i + 1 := by omega
  have hwi : IntKind.i64.wrap (i : Int) = i := IntWalk.i64_in _ (by omega)
  have hnI : 0 ≤ (x.nonce : Int) ∧ (x.nonce : Int) ≤ 18446744073709551615 := by have := hE.fit.hn; omega
  have hci : Lib.compareBytes y.addr x.addr < 0 := by omega
  have h1I : (m : Int) ≤ 4096 := by omega
  have h1N : decide (4096 < m) = false := decide_eq_false (by omega)
  have h2I : (x.nonce : Int) = 18446744073709551615 := by omega
  clear hc hE hN h1 h2 hcmp hc' hE'
  generalize x.nonce = nn at *
  go_enter Tryd.func59, Tryd.ntmps59
  go_wp2_with (first | (refine wpList_loadAgg rfl 79 (.tmp 8) rfl g (o + (i + 1) * 55) rfl _ HT.out HC.out ?_) | (refine wpList_storeNew rfl rfl 79 (.tmp 5) _ rfl _ _ rfl (ek x (.slice B m d) (.slice S l q)) rfl HT2.out (by rw [hs55.out]; rfl) HO.out ?_))
  go_quiet ((go_at_call 99; exact Calls.quiet_of_same (Compare_q _ _ _ _ _ _ _ _ _ (hA.out.drewN _) (hB.out.drewN _))))
  go_wp2
  go_ret
  exact ⟨rfl, (al (Below.refl _ _) _).trans (drawn_below' _ _ _ (by simp))⟩

set_option maxRecDepth 100000 in
set_option maxHeartbeats 4000000 in
theorem rises_s4 (n c : Nat) (es : List EntP) (i : Nat) (w : World) (g o : Nat) (h : RdE w (some ⟨g, o, none⟩) n c es) (hi : i + 1 < n) (hcmp : ¬ 0 ≤ Lib.compareBytes (es.getD i zE).addr (es.getD (i + 1) zE).addr) (h1 : ¬ 4096 < (es.getD (i + 1) zE).code.length) (h2 : ¬ (es.getD (i + 1) zE).nonce = 18446744073709551615) (h3 : 0 < (es.getD (i + 1) zE).nonce) :
    Calls Tryd.prog 59 #[.slice (some ⟨g, o, none⟩) n c, .int .i64 ((i + 1 : Nat) : Int)] w fun e w' => e = .returned (.bool (risesB es (i + 1))) ∧ Below w.heap.size w w' := by
  have HR := Lib.hid (show risesB es (i + 1) = true by unfold risesB; rw [show i + 1 - 1 = i by omega, decide_eq_true (show 0 < i + 1 by omega), decide_eq_false hcmp, decide_eq_false h1, decide_eq_false h2, decide_eq_true h3]; rfl)
  obtain ⟨g', o', B, m, d, S, l, q, e0, hg, hc, hE⟩ := h.at_ hi
  injection e0 with e0; injection e0 with e1 e2; subst e1 e2
  obtain ⟨g', o', B', m', d', S', l', q', e0, hg', hc', hE'⟩ := h.at_ (k := i) (by omega)
  injection e0 with e0; injection e0 with e1 e2; subst e1 e2
  have hm : n ≤ 9223372036854775807 := by have := h.2.1; have := h.2.2.1; unfold maxLen at this; omega
  clear h hg hg'
  have hmc := hE.code.1
  have hmm : m ≤ 9223372036854775807 := by have := hE.code.2.1; have := hE.code.2.2.1; unfold maxLen at this; omega
  rw [HR.out]
  clear HR
  generalize es.getD (i + 1) zE = x at *
  generalize es.getD i zE = y at *
  have HT := Lib.hid (ek_aggL x (.slice B m d) (.slice S l q) hE.fit)
  have HT2 := Lib.hid (ek_aggS x (.slice B m d) (.slice S l q) hE.fit)
  have HC := Lib.hid hc
  have HO := Lib.hid (ek_one x B m d S l q)
  have hs55 := Lib.hid (ek_size x (.slice B m d) (.slice S l q) hE.fit)
  have hN := Blk.new w 79 (ek x (.slice B m d) (.slice S l q))
  have c53 := (hN.cell 53).trans (ek_tail x _ _ hE.fit 0)
  have c20 := (hN.cell 20).trans (ek_nonce x _ _ hE.fit)
  simp only [List.getElem?_cons_zero] at c53
  have HB1 := Lib.hid (fun q => (hN.bytes 21 x.bal (ek_bal x _ _ hE.fit)).drewN q)
  have T61 : Hid (AggT Tryd.prog 61 (bvs x.bal).length) := by rw [bvs_length, hE.fit.hb]; exact Tryd.agg61d
  have hEz := eq_z32 x.bal hE.fit.hb
  have g61 := Tryd.g61d
  have hA := Lib.hid (((hc'.part 0 y.addr (fun j u hu => by rw [Array.getElem?_toList]; exact ek_addr y _ _ j u hu)).rd hE'.fit.ha).alloc (.cells (ek x (.slice B m d) (.slice S l q)) 79))
  rw [Nat.add_zero] at hA
  have hB := Lib.hid (Blk.rd hN 0 20 x.addr hE.fit.ha (by unfold maxLen; omega) (ek_addr x _ _))
  have hIi : (0 : Int) ≤ (i : Int) ∧ (i : Int) < (n : Int) ∧ (0 : Int) ≤ (i : Int) + 1 ∧ (i : Int) + 1 < (n : Int) := by omega
  have htn : ((i : Int) + 1).toNat = i + 1 := by omega
  have hwi : IntKind.i64.wrap (i : Int) = i := IntWalk.i64_in _ (by omega)
  have hnI : 0 ≤ (x.nonce : Int) ∧ (x.nonce : Int) ≤ 18446744073709551615 := by have := hE.fit.hn; omega
  have hci : Lib.compareBytes y.addr x.addr < 0 := by omega
  have h1I : (m : Int) ≤ 4096 := by omega
  have h1N : decide (4096 < m) = false := decide_eq_false (by omega)
  have h2I : ¬ (x.nonce : Int) = 18446744073709551615 := by omega
  have h2J : ((x.nonce : Int) == 18446744073709551615) = false := by rw [beq_eq_false_iff_ne]; exact h2I
  have h3I : (0 : Int) < (x.nonce : Int) := by omega
  clear hc hE hN h1 h2 h3 hcmp hc' hE'
  generalize x.nonce = nn at *
  go_enter Tryd.func59, Tryd.ntmps59
  go_wp2_with (first | (refine wpList_loadAgg rfl 79 (.tmp 8) rfl g (o + (i + 1) * 55) rfl _ HT.out HC.out ?_) | (refine wpList_storeNew rfl rfl 79 (.tmp 5) _ rfl _ _ rfl (ek x (.slice B m d) (.slice S l q)) rfl HT2.out (by rw [hs55.out]; rfl) HO.out ?_))
  go_quiet ((go_at_call 99; exact Calls.quiet_of_same (Compare_q _ _ _ _ _ _ _ _ _ (hA.out.drewN _) (hB.out.drewN _))))
  go_wp2
  go_ret
  exact ⟨rfl, (al (Below.refl _ _) _).trans (drawn_below' _ _ _ (by simp))⟩

set_option maxRecDepth 100000 in
set_option maxHeartbeats 4000000 in
theorem rises_s5 (n c : Nat) (es : List EntP) (i : Nat) (w : World) (g o : Nat) (h : RdE w (some ⟨g, o, none⟩) n c es) (hi : i + 1 < n) (hcmp : ¬ 0 ≤ Lib.compareBytes (es.getD i zE).addr (es.getD (i + 1) zE).addr) (h1 : ¬ 4096 < (es.getD (i + 1) zE).code.length) (h2 : ¬ (es.getD (i + 1) zE).nonce = 18446744073709551615) (h3 : ¬ 0 < (es.getD (i + 1) zE).nonce) (h4 : ¬ (es.getD (i + 1) zE).bal = z32w) :
    Calls Tryd.prog 59 #[.slice (some ⟨g, o, none⟩) n c, .int .i64 ((i + 1 : Nat) : Int)] w fun e w' => e = .returned (.bool (risesB es (i + 1))) ∧ Below w.heap.size w w' := by
  have HR := Lib.hid (show risesB es (i + 1) = true by unfold risesB; rw [show i + 1 - 1 = i by omega, decide_eq_true (show 0 < i + 1 by omega), decide_eq_false hcmp, decide_eq_false h1, decide_eq_false h2, decide_eq_false h3, decide_eq_false h4]; rfl)
  obtain ⟨g', o', B, m, d, S, l, q, e0, hg, hc, hE⟩ := h.at_ hi
  injection e0 with e0; injection e0 with e1 e2; subst e1 e2
  obtain ⟨g', o', B', m', d', S', l', q', e0, hg', hc', hE'⟩ := h.at_ (k := i) (by omega)
  injection e0 with e0; injection e0 with e1 e2; subst e1 e2
  have hm : n ≤ 9223372036854775807 := by have := h.2.1; have := h.2.2.1; unfold maxLen at this; omega
  clear h hg hg'
  have hmc := hE.code.1
  have hmm : m ≤ 9223372036854775807 := by have := hE.code.2.1; have := hE.code.2.2.1; unfold maxLen at this; omega
  rw [HR.out]
  clear HR
  generalize es.getD (i + 1) zE = x at *
  generalize es.getD i zE = y at *
  have HT := Lib.hid (ek_aggL x (.slice B m d) (.slice S l q) hE.fit)
  have HT2 := Lib.hid (ek_aggS x (.slice B m d) (.slice S l q) hE.fit)
  have HC := Lib.hid hc
  have HO := Lib.hid (ek_one x B m d S l q)
  have hs55 := Lib.hid (ek_size x (.slice B m d) (.slice S l q) hE.fit)
  have hN := Blk.new w 79 (ek x (.slice B m d) (.slice S l q))
  have c53 := (hN.cell 53).trans (ek_tail x _ _ hE.fit 0)
  have c20 := (hN.cell 20).trans (ek_nonce x _ _ hE.fit)
  simp only [List.getElem?_cons_zero] at c53
  have HB1 := Lib.hid (fun q => (hN.bytes 21 x.bal (ek_bal x _ _ hE.fit)).drewN q)
  have T61 : Hid (AggT Tryd.prog 61 (bvs x.bal).length) := by rw [bvs_length, hE.fit.hb]; exact Tryd.agg61d
  have hEz := eq_z32 x.bal hE.fit.hb
  have g61 := Tryd.g61d
  have hA := Lib.hid (((hc'.part 0 y.addr (fun j u hu => by rw [Array.getElem?_toList]; exact ek_addr y _ _ j u hu)).rd hE'.fit.ha).alloc (.cells (ek x (.slice B m d) (.slice S l q)) 79))
  rw [Nat.add_zero] at hA
  have hB := Lib.hid (Blk.rd hN 0 20 x.addr hE.fit.ha (by unfold maxLen; omega) (ek_addr x _ _))
  have hIi : (0 : Int) ≤ (i : Int) ∧ (i : Int) < (n : Int) ∧ (0 : Int) ≤ (i : Int) + 1 ∧ (i : Int) + 1 < (n : Int) := by omega
  have htn : ((i : Int) + 1).toNat = i + 1 := by omega
  have hwi : IntKind.i64.wrap (i : Int) = i := IntWalk.i64_in _ (by omega)
  have hnI : 0 ≤ (x.nonce : Int) ∧ (x.nonce : Int) ≤ 18446744073709551615 := by have := hE.fit.hn; omega
  have hci : Lib.compareBytes y.addr x.addr < 0 := by omega
  have h1I : (m : Int) ≤ 4096 := by omega
  have h1N : decide (4096 < m) = false := decide_eq_false (by omega)
  have h2I : ¬ (x.nonce : Int) = 18446744073709551615 := by omega
  have h2J : ((x.nonce : Int) == 18446744073709551615) = false := by rw [beq_eq_false_iff_ne]; exact h2I
  have h3J : (x.nonce : Int) = 0 := by omega
  rw [decide_eq_false h4] at hEz
  clear hc hE hN h1 h2 h3 h4 hcmp hc' hE'
  generalize x.nonce = nn at *
  go_enter Tryd.func59, Tryd.ntmps59
  go_wp2_with (first | (refine wpList_loadAgg rfl 79 (.tmp 8) rfl g (o + (i + 1) * 55) rfl _ HT.out HC.out ?_) | (refine wpList_storeNew rfl rfl 79 (.tmp 5) _ rfl _ _ rfl (ek x (.slice B m d) (.slice S l q)) rfl HT2.out (by rw [hs55.out]; rfl) HO.out ?_))
  go_quiet ((go_at_call 99; exact Calls.quiet_of_same (Compare_q _ _ _ _ _ _ _ _ _ (hA.out.drewN _) (hB.out.drewN _))))
  go_wp2_with (first | (refine wpList_loadAggG (by rfl) 61 (.tmp 39) (by rfl) w.heap.size 21 (by rfl) _ T61.out (HB1.out _) ?_) | (refine wpList_buildG (by rfl) (by rfl) ?_))
  go_ret
  exact ⟨rfl, (al (Below.refl _ _) _).trans (drawn_below' _ _ _ (by simp))⟩

set_option maxRecDepth 100000 in
set_option maxHeartbeats 4000000 in
theorem rises_s6 (n c : Nat) (es : List EntP) (i : Nat) (w : World) (g o : Nat) (h : RdE w (some ⟨g, o, none⟩) n c es) (hi : i + 1 < n) (hcmp : ¬ 0 ≤ Lib.compareBytes (es.getD i zE).addr (es.getD (i + 1) zE).addr) (h1 : ¬ 4096 < (es.getD (i + 1) zE).code.length) (h2 : ¬ (es.getD (i + 1) zE).nonce = 18446744073709551615) (h3 : ¬ 0 < (es.getD (i + 1) zE).nonce) (h4 : (es.getD (i + 1) zE).bal = z32w) :
    Calls Tryd.prog 59 #[.slice (some ⟨g, o, none⟩) n c, .int .i64 ((i + 1 : Nat) : Int)] w fun e w' => e = .returned (.bool (risesB es (i + 1))) ∧ Below w.heap.size w w' := by
  have HR := Lib.hid (show risesB es (i + 1) = (decide (0 < (es.getD (i + 1) zE).code.length)) by unfold risesB; rw [show i + 1 - 1 = i by omega, decide_eq_true (show 0 < i + 1 by omega), decide_eq_false hcmp, decide_eq_false h1, decide_eq_false h2, decide_eq_false h3, decide_eq_true h4]; rfl)
  obtain ⟨g', o', B, m, d, S, l, q, e0, hg, hc, hE⟩ := h.at_ hi
  injection e0 with e0; injection e0 with e1 e2; subst e1 e2
  obtain ⟨g', o', B', m', d', S', l', q', e0, hg', hc', hE'⟩ := h.at_ (k := i) (by omega)
  injection e0 with e0; injection e0 with e1 e2; subst e1 e2
  have hm : n ≤ 9223372036854775807 := by have := h.2.1; have := h.2.2.1; unfold maxLen at this; omega
  clear h hg hg'
  have hmc := hE.code.1
  have hmm : m ≤ 9223372036854775807 := by have := hE.code.2.1; have := hE.code.2.2.1; unfold maxLen at this; omega
  rw [HR.out]
  clear HR
  generalize es.getD (i + 1) zE = x at *
  generalize es.getD i zE = y at *
  have HT := Lib.hid (ek_aggL x (.slice B m d) (.slice S l q) hE.fit)
  have HT2 := Lib.hid (ek_aggS x (.slice B m d) (.slice S l q) hE.fit)
  have HC := Lib.hid hc
  have HO := Lib.hid (ek_one x B m d S l q)
  have hs55 := Lib.hid (ek_size x (.slice B m d) (.slice S l q) hE.fit)
  have hN := Blk.new w 79 (ek x (.slice B m d) (.slice S l q))
  have c53 := (hN.cell 53).trans (ek_tail x _ _ hE.fit 0)
  have c20 := (hN.cell 20).trans (ek_nonce x _ _ hE.fit)
  simp only [List.getElem?_cons_zero] at c53
  have HB1 := Lib.hid (fun q => (hN.bytes 21 x.bal (ek_bal x _ _ hE.fit)).drewN q)
  have T61 : Hid (AggT Tryd.prog 61 (bvs x.bal).length) := by rw [bvs_length, hE.fit.hb]; exact Tryd.agg61d
  have hEz := eq_z32 x.bal hE.fit.hb
  have g61 := Tryd.g61d
  have hA := Lib.hid (((hc'.part 0 y.addr (fun j u hu => by rw [Array.getElem?_toList]; exact ek_addr y _ _ j u hu)).rd hE'.fit.ha).alloc (.cells (ek x (.slice B m d) (.slice S l q)) 79))
  rw [Nat.add_zero] at hA
  have hB := Lib.hid (Blk.rd hN 0 20 x.addr hE.fit.ha (by unfold maxLen; omega) (ek_addr x _ _))
  have hIi : (0 : Int) ≤ (i : Int) ∧ (i : Int) < (n : Int) ∧ (0 : Int) ≤ (i : Int) + 1 ∧ (i : Int) + 1 < (n : Int) := by omega
  have htn : ((i : Int) + 1).toNat = i + 1 := by omega
  have hwi : IntKind.i64.wrap (i : Int) = i := IntWalk.i64_in _ (by omega)
  have hnI : 0 ≤ (x.nonce : Int) ∧ (x.nonce : Int) ≤ 18446744073709551615 := by have := hE.fit.hn; omega
  have hci : Lib.compareBytes y.addr x.addr < 0 := by omega
  have h1I : (m : Int) ≤ 4096 := by omega
  have h1N : decide (4096 < m) = false := decide_eq_false (by omega)
  have h2I : ¬ (x.nonce : Int) = 18446744073709551615 := by omega
  have h2J : ((x.nonce : Int) == 18446744073709551615) = false := by rw [beq_eq_false_iff_ne]; exact h2I
  have h3J : (x.nonce : Int) = 0 := by omega
  rw [decide_eq_true h4] at hEz
  clear hc hE hN h1 h2 h3 h4 hcmp hc' hE'
  generalize x.nonce = nn at *
  go_enter Tryd.func59, Tryd.ntmps59
  go_wp2_with (first | (refine wpList_loadAgg rfl 79 (.tmp 8) rfl g (o + (i + 1) * 55) rfl _ HT.out HC.out ?_) | (refine wpList_storeNew rfl rfl 79 (.tmp 5) _ rfl _ _ rfl (ek x (.slice B m d) (.slice S l q)) rfl HT2.out (by rw [hs55.out]; rfl) HO.out ?_))
  go_quiet ((go_at_call 99; exact Calls.quiet_of_same (Compare_q _ _ _ _ _ _ _ _ _ (hA.out.drewN _) (hB.out.drewN _))))
  go_wp2_with (first | (refine wpList_loadAggG (by rfl) 61 (.tmp 39) (by rfl) w.heap.size 21 (by rfl) _ T61.out (HB1.out _) ?_) | (refine wpList_buildG (by rfl) (by rfl) ?_))
  go_ret
  exact ⟨by first | rfl | (rw [hmc]; rfl) | (rw [hmc]; simp), (al (Below.refl _ _) _).trans (drawn_below' _ _ _ (by simp))⟩

set_option maxRecDepth 100000 in
set_option maxHeartbeats 4000000 in
theorem rises_02 (n c : Nat) (es : List EntP) (w : World) (g o : Nat) (h : RdE w (some ⟨g, o, none⟩) n c es) (hi : 0 < n) (h1 : 4096 < (es.getD 0 zE).code.length) :
    Calls Tryd.prog 59 #[.slice (some ⟨g, o, none⟩) n c, .int .i64 0] w fun e w' => e = .returned (.bool (risesB es 0)) ∧ Below w.heap.size w w' := by
  have HR := Lib.hid (show risesB es 0 = false by unfold risesB; rw [decide_eq_false (show ¬ 0 < 0 by omega), decide_eq_true h1]; rfl)
  obtain ⟨g', o', B, m, d, S, l, q, e0, hg, hc, hE⟩ := h.at_ hi
  injection e0 with e0; injection e0 with e1 e2; subst e1 e2
  have hm : n ≤ 9223372036854775807 := by have := h.2.1; have := h.2.2.1; unfold maxLen at this; omega
  clear h hg
  have hmc := hE.code.1
  have hmm : m ≤ 9223372036854775807 := by have := hE.code.2.1; have := hE.code.2.2.1; unfold maxLen at this; omega
  rw [HR.out]
  clear HR
  generalize es.getD 0 zE = x at *
  have HT := Lib.hid (ek_aggL x (.slice B m d) (.slice S l q) hE.fit)
  have HT2 := Lib.hid (ek_aggS x (.slice B m d) (.slice S l q) hE.fit)
  rw [Nat.zero_mul, Nat.add_zero] at hc
  have HC := Lib.hid hc
  have HO := Lib.hid (ek_one x B m d S l q)
  have hs55 := Lib.hid (ek_size x (.slice B m d) (.slice S l q) hE.fit)
  have hN := Blk.new w 79 (ek x (.slice B m d) (.slice S l q))
  have c53 := (hN.cell 53).trans (ek_tail x _ _ hE.fit 0)
  have c20 := (hN.cell 20).trans (ek_nonce x _ _ hE.fit)
  simp only [List.getElem?_cons_zero] at c53
  have HB1 := Lib.hid (fun q => (hN.bytes 21 x.bal (ek_bal x _ _ hE.fit)).drewN q)
  have T61 : Hid (AggT Tryd.prog 61 (bvs x.bal).length) := by rw [bvs_length, hE.fit.hb]; exact Tryd.agg61d
  have hEz := eq_z32 x.bal hE.fit.hb
  have g61 := Tryd.g61d
  have hIi : (0 : Int) < (n : Int) := by omega
  have hnI : 0 ≤ (x.nonce : Int) ∧ (x.nonce : Int) ≤ 18446744073709551615 := by have := hE.fit.hn; omega
  have h1I : (4096 : Int) < (m : Int) := by omega
  have h1N : decide (4096 < m) = true := decide_eq_true (by omega)
  clear hc hE hN h1
  generalize x.nonce = nn at *
  go_enter Tryd.func59, Tryd.ntmps59
  go_wp2_with (first | (refine wpList_loadAgg rfl 79 (.tmp 8) rfl g o rfl _ HT.out HC.out ?_) | (refine wpList_storeNew rfl rfl 79 (.tmp 5) _ rfl _ _ rfl (ek x (.slice B m d) (.slice S l q)) rfl HT2.out (by rw [hs55.out]; rfl) HO.out ?_))
  go_quiet (fail)
  go_wp2
  go_ret
  exact ⟨rfl, (al (Below.refl _ _) _).trans (drawn_below' _ _ _ (by simp))⟩

set_option maxRecDepth 100000 in
set_option maxHeartbeats 4000000 in
theorem rises_03 (n c : Nat) (es : List EntP) (w : World) (g o : Nat) (h : RdE w (some ⟨g, o, none⟩) n c es) (hi : 0 < n) (h1 : ¬ 4096 < (es.getD 0 zE).code.length) (h2 : (es.getD 0 zE).nonce = 18446744073709551615) :
    Calls Tryd.prog 59 #[.slice (some ⟨g, o, none⟩) n c, .int .i64 0] w fun e w' => e = .returned (.bool (risesB es 0)) ∧ Below w.heap.size w w' := by
  have HR := Lib.hid (show risesB es 0 = false by unfold risesB; rw [decide_eq_false (show ¬ 0 < 0 by omega), decide_eq_false h1, decide_eq_true h2]; rfl)
  obtain ⟨g', o', B, m, d, S, l, q, e0, hg, hc, hE⟩ := h.at_ hi
  injection e0 with e0; injection e0 with e1 e2; subst e1 e2
  have hm : n ≤ 9223372036854775807 := by have := h.2.1; have := h.2.2.1; unfold maxLen at this; omega
  clear h hg
  have hmc := hE.code.1
  have hmm : m ≤ 9223372036854775807 := by have := hE.code.2.1; have := hE.code.2.2.1; unfold maxLen at this; omega
  rw [HR.out]
  clear HR
  generalize es.getD 0 zE = x at *
  have HT := Lib.hid (ek_aggL x (.slice B m d) (.slice S l q) hE.fit)
  have HT2 := Lib.hid (ek_aggS x (.slice B m d) (.slice S l q) hE.fit)
  rw [Nat.zero_mul, Nat.add_zero] at hc
  have HC := Lib.hid hc
  have HO := Lib.hid (ek_one x B m d S l q)
  have hs55 := Lib.hid (ek_size x (.slice B m d) (.slice S l q) hE.fit)
  have hN := Blk.new w 79 (ek x (.slice B m d) (.slice S l q))
  have c53 := (hN.cell 53).trans (ek_tail x _ _ hE.fit 0)
  have c20 := (hN.cell 20).trans (ek_nonce x _ _ hE.fit)
  simp only [List.getElem?_cons_zero] at c53
  have HB1 := Lib.hid (fun q => (hN.bytes 21 x.bal (ek_bal x _ _ hE.fit)).drewN q)
  have T61 : Hid (AggT Tryd.prog 61 (bvs x.bal).length) := by rw [bvs_length, hE.fit.hb]; exact Tryd.agg61d
  have hEz := eq_z32 x.bal hE.fit.hb
  have g61 := Tryd.g61d
  have hIi : (0 : Int) < (n : Int) := by omega
  have hnI : 0 ≤ (x.nonce : Int) ∧ (x.nonce : Int) ≤ 18446744073709551615 := by have := hE.fit.hn; omega
  have h1I : (m : Int) ≤ 4096 := by omega
  have h1N : decide (4096 < m) = false := decide_eq_false (by omega)
  have h2I : (x.nonce : Int) = 18446744073709551615 := by omega
  clear hc hE hN h1 h2
  generalize x.nonce = nn at *
  go_enter Tryd.func59, Tryd.ntmps59
  go_wp2_with (first | (refine wpList_loadAgg rfl 79 (.tmp 8) rfl g o rfl _ HT.out HC.out ?_) | (refine wpList_storeNew rfl rfl 79 (.tmp 5) _ rfl _ _ rfl (ek x (.slice B m d) (.slice S l q)) rfl HT2.out (by rw [hs55.out]; rfl) HO.out ?_))
  go_quiet (fail)
  go_wp2
  go_ret
  exact ⟨rfl, (al (Below.refl _ _) _).trans (drawn_below' _ _ _ (by simp))⟩

set_option maxRecDepth 100000 in
set_option maxHeartbeats 4000000 in
theorem rises_04 (n c : Nat) (es : List EntP) (w : World) (g o : Nat) (h : RdE w (some ⟨g, o, none⟩) n c es) (hi : 0 < n) (h1 : ¬ 4096 < (es.getD 0 zE).code.length) (h2 : ¬ (es.getD 0 zE).nonce = 18446744073709551615) (h3 : 0 < (es.getD 0 zE).nonce) :
    Calls Tryd.prog 59 #[.slice (some ⟨g, o, none⟩) n c, .int .i64 0] w fun e w' => e = .returned (.bool (risesB es 0)) ∧ Below w.heap.size w w' := by
  have HR := Lib.hid (show risesB es 0 = true by unfold risesB; rw [decide_eq_false (show ¬ 0 < 0 by omega), decide_eq_false h1, decide_eq_false h2, decide_eq_true h3]; rfl)
  obtain ⟨g', o', B, m, d, S, l, q, e0, hg, hc, hE⟩ := h.at_ hi
  injection e0 with e0; injection e0 with e1 e2; subst e1 e2
  have hm : n ≤ 9223372036854775807 := by have := h.2.1; have := h.2.2.1; unfold maxLen at this; omega
  clear h hg
  have hmc := hE.code.1
  have hmm : m ≤ 9223372036854775807 := by have := hE.code.2.1; have := hE.code.2.2.1; unfold maxLen at this; omega
  rw [HR.out]
  clear HR
  generalize es.getD 0 zE = x at *
  have HT := Lib.hid (ek_aggL x (.slice B m d) (.slice S l q) hE.fit)
  have HT2 := Lib.hid (ek_aggS x (.slice B m d) (.slice S l q) hE.fit)
  rw [Nat.zero_mul, Nat.add_zero] at hc
  have HC := Lib.hid hc
  have HO := Lib.hid (ek_one x B m d S l q)
  have hs55 := Lib.hid (ek_size x (.slice B m d) (.slice S l q) hE.fit)
  have hN := Blk.new w 79 (ek x (.slice B m d) (.slice S l q))
  have c53 := (hN.cell 53).trans (ek_tail x _ _ hE.fit 0)
  have c20 := (hN.cell 20).trans (ek_nonce x _ _ hE.fit)
  simp only [List.getElem?_cons_zero] at c53
  have HB1 := Lib.hid (fun q => (hN.bytes 21 x.bal (ek_bal x _ _ hE.fit)).drewN q)
  have T61 : Hid (AggT Tryd.prog 61 (bvs x.bal).length) := by rw [bvs_length, hE.fit.hb]; exact Tryd.agg61d
  have hEz := eq_z32 x.bal hE.fit.hb
  have g61 := Tryd.g61d
  have hIi : (0 : Int) < (n : Int) := by omega
  have hnI : 0 ≤ (x.nonce : Int) ∧ (x.nonce : Int) ≤ 18446744073709551615 := by have := hE.fit.hn; omega
  have h1I : (m : Int) ≤ 4096 := by omega
  have h1N : decide (4096 < m) = false := decide_eq_false (by omega)
  have h2I : ¬ (x.nonce : Int) = 18446744073709551615 := by omega
  have h2J : ((x.nonce : Int) == 18446744073709551615) = false := by rw [beq_eq_false_iff_ne]; exact h2I
  have h3I : (0 : Int) < (x.nonce : Int) := by omega
  clear hc hE hN h1 h2 h3
  generalize x.nonce = nn at *
  go_enter Tryd.func59, Tryd.ntmps59
  go_wp2_with (first | (refine wpList_loadAgg rfl 79 (.tmp 8) rfl g o rfl _ HT.out HC.out ?_) | (refine wpList_storeNew rfl rfl 79 (.tmp 5) _ rfl _ _ rfl (ek x (.slice B m d) (.slice S l q)) rfl HT2.out (by rw [hs55.out]; rfl) HO.out ?_))
  go_quiet (fail)
  go_wp2
  go_ret
  exact ⟨rfl, (al (Below.refl _ _) _).trans (drawn_below' _ _ _ (by simp))⟩

set_option maxRecDepth 100000 in
set_option maxHeartbeats 4000000 in
theorem rises_05 (n c : Nat) (es : List EntP) (w : World) (g o : Nat) (h : RdE w (some ⟨g, o, none⟩) n c es) (hi : 0 < n) (h1 : ¬ 4096 < (es.getD 0 zE).code.length) (h2 : ¬ (es.getD 0 zE).nonce = 18446744073709551615) (h3 : ¬ 0 < (es.getD 0 zE).nonce) (h4 : ¬ (es.getD 0 zE).bal = z32w) :
    Calls Tryd.prog 59 #[.slice (some ⟨g, o, none⟩) n c, .int .i64 0] w fun e w' => e = .returned (.bool (risesB es 0)) ∧ Below w.heap.size w w' := by
  have HR := Lib.hid (show risesB es 0 = true by unfold risesB; rw [decide_eq_false (show ¬ 0 < 0 by omega), decide_eq_false h1, decide_eq_false h2, decide_eq_false h3, decide_eq_false h4]; rfl)
  obtain ⟨g', o', B, m, d, S, l, q, e0, hg, hc, hE⟩ := h.at_ hi
  injection e0 with e0; injection e0 with e1 e2; subst e1 e2
  have hm : n ≤ 9223372036854775807 := by have := h.2.1; have := h.2.2.1; unfold maxLen at this; omega
  clear h hg
  have hmc := hE.code.1
  have hmm : m ≤ 9223372036854775807 := by have := hE.code.2.1; have := hE.code.2.2.1; unfold maxLen at this; omega
  rw [HR.out]
  clear HR
  generalize es.getD 0 zE = x at *
  have HT := Lib.hid (ek_aggL x (.slice B m d) (.slice S l q) hE.fit)
  have HT2 := Lib.hid (ek_aggS x (.slice B m d) (.slice S l q) hE.fit)
  rw [Nat.zero_mul, Nat.add_zero] at hc
  have HC := Lib.hid hc
  have HO := Lib.hid (ek_one x B m d S l q)
  have hs55 := Lib.hid (ek_size x (.slice B m d) (.slice S l q) hE.fit)
  have hN := Blk.new w 79 (ek x (.slice B m d) (.slice S l q))
  have c53 := (hN.cell 53).trans (ek_tail x _ _ hE.fit 0)
  have c20 := (hN.cell 20).trans (ek_nonce x _ _ hE.fit)
  simp only [List.getElem?_cons_zero] at c53
  have HB1 := Lib.hid (fun q => (hN.bytes 21 x.bal (ek_bal x _ _ hE.fit)).drewN q)
  have T61 : Hid (AggT Tryd.prog 61 (bvs x.bal).length) := by rw [bvs_length, hE.fit.hb]; exact Tryd.agg61d
  have hEz := eq_z32 x.bal hE.fit.hb
  have g61 := Tryd.g61d
  have hIi : (0 : Int) < (n : Int) := by omega
  have hnI : 0 ≤ (x.nonce : Int) ∧ (x.nonce : Int) ≤ 18446744073709551615 := by have := hE.fit.hn; omega
  have h1I : (m : Int) ≤ 4096 := by omega
  have h1N : decide (4096 < m) = false := decide_eq_false (by omega)
  have h2I : ¬ (x.nonce : Int) = 18446744073709551615 := by omega
  have h2J : ((x.nonce : Int) == 18446744073709551615) = false := by rw [beq_eq_false_iff_ne]; exact h2I
  have h3J : (x.nonce : Int) = 0 := by omega
  rw [decide_eq_false h4] at hEz
  clear hc hE hN h1 h2 h3 h4
  generalize x.nonce = nn at *
  go_enter Tryd.func59, Tryd.ntmps59
  go_wp2_with (first | (refine wpList_loadAgg rfl 79 (.tmp 8) rfl g o rfl _ HT.out HC.out ?_) | (refine wpList_storeNew rfl rfl 79 (.tmp 5) _ rfl _ _ rfl (ek x (.slice B m d) (.slice S l q)) rfl HT2.out (by rw [hs55.out]; rfl) HO.out ?_))
  go_quiet (fail)
  go_wp2_with (first | (refine wpList_loadAggG (by rfl) 61 (.tmp 39) (by rfl) w.heap.size 21 (by rfl) _ T61.out (HB1.out _) ?_) | (refine wpList_buildG (by rfl) (by rfl) ?_))
  go_ret
  exact ⟨rfl, (al (Below.refl _ _) _).trans (drawn_below' _ _ _ (by simp))⟩

set_option maxRecDepth 100000 in
set_option maxHeartbeats 4000000 in
theorem rises_06 (n c : Nat) (es : List EntP) (w : World) (g o : Nat) (h : RdE w (some ⟨g, o, none⟩) n c es) (hi : 0 < n) (h1 : ¬ 4096 < (es.getD 0 zE).code.length) (h2 : ¬ (es.getD 0 zE).nonce = 18446744073709551615) (h3 : ¬ 0 < (es.getD 0 zE).nonce) (h4 : (es.getD 0 zE).bal = z32w) :
    Calls Tryd.prog 59 #[.slice (some ⟨g, o, none⟩) n c, .int .i64 0] w fun e w' => e = .returned (.bool (risesB es 0)) ∧ Below w.heap.size w w' := by
  have HR := Lib.hid (show risesB es 0 = (decide (0 < (es.getD 0 zE).code.length)) by unfold risesB; rw [decide_eq_false (show ¬ 0 < 0 by omega), decide_eq_false h1, decide_eq_false h2, decide_eq_false h3, decide_eq_true h4]; rfl)
  obtain ⟨g', o', B, m, d, S, l, q, e0, hg, hc, hE⟩ := h.at_ hi
  injection e0 with e0; injection e0 with e1 e2; subst e1 e2
  have hm : n ≤ 9223372036854775807 := by have := h.2.1; have := h.2.2.1; unfold maxLen at this; omega
  clear h hg
  have hmc := hE.code.1
  have hmm : m ≤ 9223372036854775807 := by have := hE.code.2.1; have := hE.code.2.2.1; unfold maxLen at this; omega
  rw [HR.out]
  clear HR
  generalize es.getD 0 zE = x at *
  have HT := Lib.hid (ek_aggL x (.slice B m d) (.slice S l q) hE.fit)
  have HT2 := Lib.hid (ek_aggS x (.slice B m d) (.slice S l q) hE.fit)
  rw [Nat.zero_mul, Nat.add_zero] at hc
  have HC := Lib.hid hc
  have HO := Lib.hid (ek_one x B m d S l q)
  have hs55 := Lib.hid (ek_size x (.slice B m d) (.slice S l q) hE.fit)
  have hN := Blk.new w 79 (ek x (.slice B m d) (.slice S l q))
  have c53 := (hN.cell 53).trans (ek_tail x _ _ hE.fit 0)
  have c20 := (hN.cell 20).trans (ek_nonce x _ _ hE.fit)
  simp only [List.getElem?_cons_zero] at c53
  have HB1 := Lib.hid (fun q => (hN.bytes 21 x.bal (ek_bal x _ _ hE.fit)).drewN q)
  have T61 : Hid (AggT Tryd.prog 61 (bvs x.bal).length) := by rw [bvs_length, hE.fit.hb]; exact Tryd.agg61d
  have hEz := eq_z32 x.bal hE.fit.hb
  have g61 := Tryd.g61d
  have hIi : (0 : Int) < (n : Int) := by omega
  have hnI : 0 ≤ (x.nonce : Int) ∧ (x.nonce : Int) ≤ 18446744073709551615 := by have := hE.fit.hn; omega
  have h1I : (m : Int) ≤ 4096 := by omega
  have h1N : decide (4096 < m) = false := decide_eq_false (by omega)
  have h2I : ¬ (x.nonce : Int) = 18446744073709551615 := by omega
  have h2J : ((x.nonce : Int) == 18446744073709551615) = false := by rw [beq_eq_false_iff_ne]; exact h2I
  have h3J : (x.nonce : Int) = 0 := by omega
  rw [decide_eq_true h4] at hEz
  clear hc hE hN h1 h2 h3 h4
  generalize x.nonce = nn at *
  go_enter Tryd.func59, Tryd.ntmps59
  go_wp2_with (first | (refine wpList_loadAgg rfl 79 (.tmp 8) rfl g o rfl _ HT.out HC.out ?_) | (refine wpList_storeNew rfl rfl 79 (.tmp 5) _ rfl _ _ rfl (ek x (.slice B m d) (.slice S l q)) rfl HT2.out (by rw [hs55.out]; rfl) HO.out ?_))
  go_quiet (fail)
  go_wp2_with (first | (refine wpList_loadAggG (by rfl) 61 (.tmp 39) (by rfl) w.heap.size 21 (by rfl) _ T61.out (HB1.out _) ?_) | (refine wpList_buildG (by rfl) (by rfl) ?_))
  go_ret
  exact ⟨by first | rfl | (rw [hmc]; rfl) | (rw [hmc]; simp), (al (Below.refl _ _) _).trans (drawn_below' _ _ _ (by simp))⟩
end Go.Proofs.YtfjfjjcdlgdbcaaDoor
