/- the texts D14 of this proof, one behind the other -/
import Derived.Test.YtfjfjjcdlgdbcaaDoorF7
namespace Go.Proofs.YtfjfjjcdlgdbcaaDoor
open Go.RowKit
set_option linter.unusedSimpArgs false
set_option linter.unusedVariables false
attribute [local irreducible] wpQuiet

set_option maxRecDepth 100000 in
set_option maxHeartbeats 4000000 in
theorem Bytes84_q (A B : Option Addr) (n c m d : Nat) (xs ys : List UInt8) (w : World) (h : RdB w A n c xs) (h' : RdB w B m d ys) :
    Calls Tryd.prog 84 #[.slice A n c, .slice B m d] w fun e w' => e = .returned (.int .i64 (Lib.compareBytes xs ys)) ∧ ∃ q, w' = w.drewN q := by
  have hm : n ≤ 9223372036854775807 ∧ m ≤ 9223372036854775807 := by have := h.2.1; have := h.2.2.1; have := h'.2.1; have := h'.2.2.1; unfold maxLen at *; omega
  have HX := Lib.hid h
  have HY := Lib.hid h'
  clear h h'
  go_enter Tryd.func84, Tryd.ntmps84
  go_wp2
  go_loopw [5] (fun i wr => ∃ k : Nat, k ≤ n ∧ k ≤ m ∧ i = .int .i64 k ∧ Lib.compareBytes (xs.drop k) (ys.drop k) = Lib.compareBytes xs ys ∧ ∃ q, wr = w.drewN q) (fun i _ => n - (intOf i).toNat)
  case atStart => exact ⟨0, by omega, by omega, rfl, rfl, 0, rfl⟩
  case round =>
    obtain ⟨k, hkn, hkm, rfl, hcmp, q, rfl⟩ := hrel
    have HC := Lib.hid hcmp
    clear hcmp
    by_cases hlt : k < n
    · by_cases hlm : k < m
      · obtain ⟨ad, rfl, hx⟩ := HX.out.at_ hlt
        obtain ⟨bd, rfl, hy⟩ := HY.out.at_ hlm
        have hst := Lib.hid (cmp_step xs ys k (by rw [HX.out.1]; exact hlt) (by rw [HY.out.1]; exact hlm) HC.out)
        have hal := (xs.getD k 0).toNat_lt
        have hbl := (ys.getD k 0).toNat_lt
        generalize (xs.getD k 0).toNat = a at *
        generalize (ys.getD k 0).toNat = b at *
        have hkI : (0 : Int) ≤ (k : Int) ∧ (k : Int) < (n : Int) ∧ (k : Int) < (m : Int) := by omega
        have htn : ((k : Int)).toNat = k := by omega
        rcases Nat.lt_trichotomy a b with h3 | h3 | h3
        · have hR : Hid (Lib.compareBytes xs ys = -1) := by rw [hst.out, if_pos h3]; trivial
          have h3I : (a : Int) < (b : Int) := by omega
          have h3n : ¬ (a : Int) = (b : Int) := by omega
          clear h3
          go_wp2
          go_quiet (fail)
          go_wp2
          go_quiet (fail)
          go_wp2
          go_ret
          exact ⟨by rw [hR.out]; rfl, by first | exact ⟨_, rfl⟩ | (exact ⟨_, by simp only [World.drewN_drewN]; rfl⟩)⟩
        · subst h3
          have hR := Lib.hid (hst.out.trans (by rw [if_neg (by omega), if_neg (by omega)]))
          go_wp2
          go_quiet (fail)
          go_wp2
          go_roundw
          case rel => exact ⟨k + 1, by omega, by omega, by go_num, hR.out.symm, by first | exact ⟨_, rfl⟩ | (exact ⟨_, by simp only [World.drewN_drewN]; rfl⟩)⟩
          case measure => simp [intOf]; omega
        · have hR : Hid (Lib.compareBytes xs ys = 1) := by rw [hst.out, if_neg (by omega), if_pos h3]; trivial
          have h3I : (b : Int) < (a : Int) := by omega
          have h3n : ¬ (a : Int) = (b : Int) := by omega
          have h3m : (b : Int) ≤ (a : Int) := by omega
          clear h3
          go_wp2
          go_quiet (fail)
          go_wp2
          go_quiet (fail)
          go_wp2
          go_ret
          exact ⟨by rw [hR.out]; rfl, by first | exact ⟨_, rfl⟩ | (exact ⟨_, by simp only [World.drewN_drewN]; rfl⟩)⟩
      · obtain rfl : k = m := by omega
        have hR : Hid (Lib.compareBytes xs ys = 1) := by
          rw [← HC.out, drop_getD xs k (by rw [HX.out.1]; exact hlt), show ys.drop k = [] from List.drop_of_length_le (by rw [HY.out.1]; omega)]; trivial
        have hI : (k : Int) < (n : Int) := by omega
        have hI2 : decide (n < k) = false := decide_eq_false (by omega)
        have hI3 : decide (k < n) = true := decide_eq_true (by omega)
        go_wp2
        go_ret
        exact ⟨by rw [hR.out]; rfl, by first | exact ⟨_, rfl⟩ | (exact ⟨_, by simp only [World.drewN_drewN]; rfl⟩)⟩
    · obtain rfl : k = n := by omega
      by_cases hlm : k < m
      · have hR : Hid (Lib.compareBytes xs ys = -1) := by
          rw [← HC.out, drop_getD ys k (by rw [HY.out.1]; exact hlm), show xs.drop k = [] from List.drop_of_length_le (by rw [HX.out.1]; omega)]; trivial
        have hI : (k : Int) < (m : Int) := by omega
        have hI3 : decide (k < m) = true := decide_eq_true (by omega)
        go_wp2
        go_ret
        exact ⟨by rw [hR.out]; rfl, by first | exact ⟨_, rfl⟩ | (exact ⟨_, by simp only [World.drewN_drewN]; rfl⟩)⟩
      · obtain rfl : k = m := by omega
        have hR : Hid (Lib.compareBytes xs ys = 0) := by
          rw [← HC.out, show xs.drop k = [] from List.drop_of_length_le (by rw [HX.out.1]; omega), show ys.drop k = [] from List.drop_of_length_le (by rw [HY.out.1]; omega)]; trivial
        go_wp2
        go_ret
        exact ⟨by rw [hR.out]; rfl, by first | exact ⟨_, rfl⟩ | (exact ⟨_, by simp only [World.drewN_drewN]; rfl⟩)⟩

/-- may an account be, as far as its own numbers go? -/
def headB (x : EntP) : Bool := !(decide (x.nonce = 0) && decide (x.bal = z32w) && decide (x.code.length = 0)) && !decide (x.nonce = 18446744073709551615) && !decide (4096 < x.code.length)
def oneB (x : EntP) : Bool := headB x && slotsB x.slots
theorem run_loadAt77 (w : World) (g o : Nat) (v : Value) (hc : w.cell? ⟨g, o, none⟩ = some v) : (Instr.loadAt 77 (.pointer (some ⟨g, o, none⟩))).run Tryd.prog w = .ok v w := by go_simp
theorem run_loadAt26 (w : World) (g o : Nat) (v : Value) (hc : w.cell? ⟨g, o, none⟩ = some v) : (Instr.loadAt 26 (.pointer (some ⟨g, o, none⟩))).run Tryd.prog w = .ok v w := by go_simp
theorem run_loadAt22 (w : World) (g o : Nat) (v : Value) (hc : w.cell? ⟨g, o, none⟩ = some v) : (Instr.loadAt 22 (.pointer (some ⟨g, o, none⟩))).run Tryd.prog w = .ok v w := by go_simp

set_option maxRecDepth 100000 in
set_option maxHeartbeats 4000000 in
theorem one_n1 (x : EntP) (B S : Option Addr) (m d l q : Nat) (w : World) (hE : RdEnt w x B m d S l q) (hn : x.nonce = 0) (hb : x.bal = z32w) (hc : x.code.length = 0) (hx : ¬ x.nonce = 18446744073709551615) (hg : ¬ 4096 < x.code.length) :
    Calls Tryd.prog 83 #[.agg (ek x (.slice B m d) (.slice S l q))] w fun e w' => e = .returned (.bool (oneB x)) ∧ Below w.heap.size w w' := by
  have HR := Lib.hid (show oneB x = false by unfold oneB headB; rw [decide_eq_true hn, decide_eq_true hb, decide_eq_true hc, decide_eq_false hx, decide_eq_false hg]; simp)
  have hmc := hE.code.1
  have hlc := hE.slots.1
  have hmm : m ≤ 9223372036854775807 := by have := hE.code.2.1; have := hE.code.2.2.1; unfold maxLen at this; omega
  have hlm : l ≤ 9223372036854775807 := by have := hE.slots.2.1; have := hE.slots.2.2.1; unfold maxLen at this; omega
  have HE := Lib.hid hE
  have hN := Blk.new w 79 (ek x (.slice B m d) (.slice S l q))
  have c53 := (hN.cell 53).trans (ek_tail x _ _ hE.fit 0)
  have c54 := (hN.cell 54).trans (ek_tail x _ _ hE.fit 1)
  have c20 := (hN.cell 20).trans (ek_nonce x _ _ hE.fit)
  simp only [List.getElem?_cons_zero, List.getElem?_cons_succ] at c53 c54
  have HB1 := Lib.hid (hN.bytes 21 x.bal (ek_bal x _ _ hE.fit))
  have T61 : Hid (AggT Tryd.prog 61 (bvs x.bal).length) := by rw [bvs_length, hE.fit.hb]; exact Tryd.agg61d
  have hEz := eq_z32 x.bal hE.fit.hb
  have g61 := Tryd.g61d
  have hnI : 0 ≤ (x.nonce : Int) ∧ (x.nonce : Int) ≤ 18446744073709551615 := by have := hE.fit.hn; omega
  have f1 : (x.nonce : Int) = 0 := by omega
  have f1b : ((x.nonce : Int) == 0) = true := by rw [beq_iff_eq]; exact f1
  rw [decide_eq_true hb] at hEz
  have f3 : (m : Int) = 0 := by omega
  have f3b : ((m : Int) == 0) = true := by rw [beq_iff_eq]; exact f3
  have f3c : decide (m = 0) = true := decide_eq_true (by omega)
  have f4 : ¬ (x.nonce : Int) = 18446744073709551615 := by omega
  have f4b : ((x.nonce : Int) == 18446744073709551615) = false := by rw [beq_eq_false_iff_ne]; exact f4
  have f5 : (m : Int) ≤ 4096 := by omega
  have f5b : decide (4096 < m) = false := decide_eq_false (by omega)
  rw [HR.out]
  clear hE hN HR hn hb hc hx hg
  generalize x.nonce = nn at *
  go_enter Tryd.func83, Tryd.ntmps83
  go_wp2_with (first | (refine wpList_loadAggG (by rfl) 61 (.tmp 8) (by rfl) w.heap.size 21 (by rfl) _ T61.out HB1.out ?_) | (refine wpList_buildG (by rfl) (by rfl) ?_))
  go_ret
  exact ⟨rfl, al (Below.refl _ _) _⟩

set_option maxRecDepth 100000 in
set_option maxHeartbeats 4000000 in
theorem one_n2 (x : EntP) (B S : Option Addr) (m d l q : Nat) (w : World) (hE : RdEnt w x B m d S l q) (hn : ¬ x.nonce = 0) (hx : x.nonce = 18446744073709551615) :
    Calls Tryd.prog 83 #[.agg (ek x (.slice B m d) (.slice S l q))] w fun e w' => e = .returned (.bool (oneB x)) ∧ Below w.heap.size w w' := by
  have HR := Lib.hid (show oneB x = false by unfold oneB headB; rw [decide_eq_false hn, decide_eq_true hx]; simp)
  have hmc := hE.code.1
  have hlc := hE.slots.1
  have hmm : m ≤ 9223372036854775807 := by have := hE.code.2.1; have := hE.code.2.2.1; unfold maxLen at this; omega
  have hlm : l ≤ 9223372036854775807 := by have := hE.slots.2.1; have := hE.slots.2.2.1; unfold maxLen at this; omega
  have HE := Lib.hid hE
  have hN := Blk.new w 79 (ek x (.slice B m d) (.slice S l q))
  have c53 := (hN.cell 53).trans (ek_tail x _ _ hE.fit 0)
  have c54 := (hN.cell 54).trans (ek_tail x _ _ hE.fit 1)
  have c20 := (hN.cell 20).trans (ek_nonce x _ _ hE.fit)
  simp only [List.getElem?_cons_zero, List.getElem?_cons_succ] at c53 c54
  have HB1 := Lib.hid (hN.bytes 21 x.bal (ek_bal x _ _ hE.fit))
  have T61 : Hid (AggT Tryd.prog 61 (bvs x.bal).length) := by rw [bvs_length, hE.fit.hb]; exact Tryd.agg61d
  have hEz := eq_z32 x.bal hE.fit.hb
  have g61 := Tryd.g61d
  have hnI : 0 ≤ (x.nonce : Int) ∧ (x.nonce : Int) ≤ 18446744073709551615 := by have := hE.fit.hn; omega
  have f1 : ¬ (x.nonce : Int) = 0 := by omega
  have f1b : ((x.nonce : Int) == 0) = false := by rw [beq_eq_false_iff_ne]; exact f1
  have f4 : (x.nonce : Int) = 18446744073709551615 := by omega
  have f4b : ((x.nonce : Int) == 18446744073709551615) = true := by rw [beq_iff_eq]; exact f4
  rw [HR.out]
  clear hE hN HR hn hx
  generalize x.nonce = nn at *
  go_enter Tryd.func83, Tryd.ntmps83
  go_wp2_with (first | (refine wpList_loadAggG (by rfl) 61 (.tmp 8) (by rfl) w.heap.size 21 (by rfl) _ T61.out HB1.out ?_) | (refine wpList_buildG (by rfl) (by rfl) ?_))
  go_ret
  exact ⟨rfl, al (Below.refl _ _) _⟩

set_option maxRecDepth 100000 in
set_option maxHeartbeats 4000000 in
theorem one_n3 (x : EntP) (B S : Option Addr) (m d l q : Nat) (w : World) (hE : RdEnt w x B m d S l q) (hn : ¬ x.nonce = 0) (hx : ¬ x.nonce = 18446744073709551615) (hg : 4096 < x.code.length) :
    Calls Tryd.prog 83 #[.agg (ek x (.slice B m d) (.slice S l q))] w fun e w' => e = .returned (.bool (oneB x)) ∧ Below w.heap.size w w' := by
  have HR := Lib.hid (show oneB x = false by unfold oneB headB; rw [decide_eq_false hn, decide_eq_false hx, decide_eq_true hg]; simp)
  have hmc := hE.code.1
  have hlc := hE.slots.1
  have hmm : m ≤ 9223372036854775807 := by have := hE.code.2.1; have := hE.code.2.2.1; unfold maxLen at this; omega
  have hlm : l ≤ 9223372036854775807 := by have := hE.slots.2.1; have := hE.slots.2.2.1; unfold maxLen at this; omega
  have HE := Lib.hid hE
  have hN := Blk.new w 79 (ek x (.slice B m d) (.slice S l q))
  have c53 := (hN.cell 53).trans (ek_tail x _ _ hE.fit 0)
  have c54 := (hN.cell 54).trans (ek_tail x _ _ hE.fit 1)
  have c20 := (hN.cell 20).trans (ek_nonce x _ _ hE.fit)
  simp only [List.getElem?_cons_zero, List.getElem?_cons_succ] at c53 c54
  have HB1 := Lib.hid (hN.bytes 21 x.bal (ek_bal x _ _ hE.fit))
  have T61 : Hid (AggT Tryd.prog 61 (bvs x.bal).length) := by rw [bvs_length, hE.fit.hb]; exact Tryd.agg61d
  have hEz := eq_z32 x.bal hE.fit.hb
  have g61 := Tryd.g61d
  have hnI : 0 ≤ (x.nonce : Int) ∧ (x.nonce : Int) ≤ 18446744073709551615 := by have := hE.fit.hn; omega
  have f1 : ¬ (x.nonce : Int) = 0 := by omega
  have f1b : ((x.nonce : Int) == 0) = false := by rw [beq_eq_false_iff_ne]; exact f1
  have f4 : ¬ (x.nonce : Int) = 18446744073709551615 := by omega
  have f4b : ((x.nonce : Int) == 18446744073709551615) = false := by rw [beq_eq_false_iff_ne]; exact f4
  have f5 : (4096 : Int) < (m : Int) := by omega
  have f5b : decide (4096 < m) = true := decide_eq_true (by omega)
  rw [HR.out]
  clear hE hN HR hn hx hg
  generalize x.nonce = nn at *
  go_enter Tryd.func83, Tryd.ntmps83
  go_wp2_with (first | (refine wpList_loadAggG (by rfl) 61 (.tmp 8) (by rfl) w.heap.size 21 (by rfl) _ T61.out HB1.out ?_) | (refine wpList_buildG (by rfl) (by rfl) ?_))
  go_ret
  exact ⟨rfl, al (Below.refl _ _) _⟩

set_option maxRecDepth 100000 in
set_option maxHeartbeats 4000000 in
theorem one_n4 (x : EntP) (B S : Option Addr) (m d l q : Nat) (w : World) (hE : RdEnt w x B m d S l q) (hn : x.nonce = 0) (hb : ¬ x.bal = z32w) (hx : ¬ x.nonce = 18446744073709551615) (hg : 4096 < x.code.length) :
    Calls Tryd.prog 83 #[.agg (ek x (.slice B m d) (.slice S l q))] w fun e w' => e = .returned (.bool (oneB x)) ∧ Below w.heap.size w w' := by
  have HR := Lib.hid (show oneB x = false by unfold oneB headB; rw [decide_eq_true hn, decide_eq_false hb, decide_eq_false hx, decide_eq_true hg]; simp)
  have hmc := hE.code.1
  have hlc := hE.slots.1
  have hmm : m ≤ 9223372036854775807 := by have := hE.code.2.1; have := hE.code.2.2.1; unfold maxLen at this; omega
  have hlm : l ≤ 9223372036854775807 := by have := hE.slots.2.1; have := hE.slots.2.2.1; unfold maxLen at this; omega
  have HE := Lib.hid hE
  have hN := Blk.new w 79 (ek x (.slice B m d) (.slice S l q))
  have c53 := (hN.cell 53).trans (ek_tail x _ _ hE.fit 0)
  have c54 := (hN.cell 54).trans (ek_tail x _ _ hE.fit 1)
  have c20 := (hN.cell 20).trans (ek_nonce x _ _ hE.fit)
  simp only [List.getElem?_cons_zero, List.getElem?_cons_succ] at c53 c54
  have HB1 := Lib.hid (hN.bytes 21 x.bal (ek_bal x _ _ hE.fit))
  have T61 : Hid (AggT Tryd.prog 61 (bvs x.bal).length) := by rw [bvs_length, hE.fit.hb]; exact Tryd.agg61d
  have hEz := eq_z32 x.bal hE.fit.hb
  have g61 := Tryd.g61d
  have hnI : 0 ≤ (x.nonce : Int) ∧ (x.nonce : Int) ≤ 18446744073709551615 := by have := hE.fit.hn; omega
  have f1 : (x.nonce : Int) = 0 := by omega
  have f1b : ((x.nonce : Int) == 0) = true := by rw [beq_iff_eq]; exact f1
  rw [decide_eq_false hb] at hEz
  have f4 : ¬ (x.nonce : Int) = 18446744073709551615 := by omega
  have f4b : ((x.nonce : Int) == 18446744073709551615) = false := by rw [beq_eq_false_iff_ne]; exact f4
  have f5 : (4096 : Int) < (m : Int) := by omega
  have f5b : decide (4096 < m) = true := decide_eq_true (by omega)
  rw [HR.out]
  clear hE hN HR hn hb hx hg
  generalize x.nonce = nn at *
  go_enter Tryd.func83, Tryd.ntmps83
  go_wp2_with (first | (refine wpList_loadAggG (by rfl) 61 (.tmp 8) (by rfl) w.heap.size 21 (by rfl) _ T61.out HB1.out ?_) | (refine wpList_buildG (by rfl) (by rfl) ?_))
  go_ret
  exact ⟨rfl, al (Below.refl _ _) _⟩

set_option maxRecDepth 100000 in
set_option maxHeartbeats 4000000 in
theorem one_n5 (x : EntP) (B S : Option Addr) (m d l q : Nat) (w : World) (hE : RdEnt w x B m d S l q) (hn : x.nonce = 0) (hb : x.bal = z32w) (hc : ¬ x.code.length = 0) (hx : ¬ x.nonce = 18446744073709551615) (hg : 4096 < x.code.length) :
    Calls Tryd.prog 83 #[.agg (ek x (.slice B m d) (.slice S l q))] w fun e w' => e = .returned (.bool (oneB x)) ∧ Below w.heap.size w w' := by
  have HR := Lib.hid (show oneB x = false by unfold oneB headB; rw [decide_eq_true hn, decide_eq_true hb, decide_eq_false hc, decide_eq_false hx, decide_eq_true hg]; simp)
  have hmc := hE.code.1
  have hlc := hE.slots.1
  have hmm : m ≤ 9223372036854775807 := by have := hE.code.2.1; have := hE.code.2.2.1; unfold maxLen at this; omega
  have hlm : l ≤ 9223372036854775807 := by have := hE.slots.2.1; have := hE.slots.2.2.1; unfold maxLen at this; omega
  have HE := Lib.hid hE
  have hN := Blk.new w 79 (ek x (.slice B m d) (.slice S l q))
  have c53 := (hN.cell 53).trans (ek_tail x _ _ hE.fit 0)
  have c54 := (hN.cell 54).trans (ek_tail x _ _ hE.fit 1)
  have c20 := (hN.cell 20).trans (ek_nonce x _ _ hE.fit)
  simp only [List.getElem?_cons_zero, List.getElem?_cons_succ] at c53 c54
  have HB1 := Lib.hid (hN.bytes 21 x.bal (ek_bal x _ _ hE.fit))
  have T61 : Hid (AggT Tryd.prog 61 (bvs x.bal).length) := by rw [bvs_length, hE.fit.hb]; exact Tryd.agg61d
  have hEz := eq_z32 x.bal hE.fit.hb
  have g61 := Tryd.g61d
  have hnI : 0 ≤ (x.nonce : Int) ∧ (x.nonce : Int) ≤ 18446744073709551615 := by have := hE.fit.hn; omega
  have f1 : (x.nonce : Int) = 0 := by omega
  have f1b : ((x.nonce : Int) == 0) = true := by rw [beq_iff_eq]; exact f1
  rw [decide_eq_true hb] at hEz
  have f3 : ¬ (m : Int) = 0 := by omega
  have f3b : ((m : Int) == 0) = false := by rw [beq_eq_false_iff_ne]; exact f3
  have f3c : decide (m = 0) = false := decide_eq_false (by omega)
  have f4 : ¬ (x.nonce : Int) = 18446744073709551615 := by omega
  have f4b : ((x.nonce : Int) == 18446744073709551615) = false := by rw [beq_eq_false_iff_ne]; exact f4
  have f5 : (4096 : Int) < (m : Int) := by omega
  have f5b : decide (4096 < m) = true := decide_eq_true (by omega)
  rw [HR.out]
  clear hE hN HR hn hb hc hx hg
  generalize x.nonce = nn at *
  go_enter Tryd.func83, Tryd.ntmps83
  go_wp2_with (first | (refine wpList_loadAggG (by rfl) 61 (.tmp 8) (by rfl) w.heap.size 21 (by rfl) _ T61.out HB1.out ?_) | (refine wpList_buildG (by rfl) (by rfl) ?_))
  go_ret
  exact ⟨rfl, al (Below.refl _ _) _⟩

section
attribute [-go_sem] Instr.loadAt

set_option maxRecDepth 100000 in
set_option maxHeartbeats 4000000 in
theorem one_y1 (x : EntP) (B S : Option Addr) (m d l q : Nat) (w : World) (hE : RdEnt w x B m d S l q) (hn : ¬ x.nonce = 0) (hx : ¬ x.nonce = 18446744073709551615) (hg : ¬ 4096 < x.code.length) :
    Calls Tryd.prog 83 #[.agg (ek x (.slice B m d) (.slice S l q))] w fun e w' => e = .returned (.bool (oneB x)) ∧ Below w.heap.size w w' := by
  have HR := Lib.hid (show oneB x = slotsB x.slots by unfold oneB headB; rw [decide_eq_false hn, decide_eq_false hx, decide_eq_false hg]; rfl)
  have hmc := hE.code.1
  have hlc := hE.slots.1
  have hmm : m ≤ 9223372036854775807 := by have := hE.code.2.1; have := hE.code.2.2.1; unfold maxLen at this; omega
  have hlm : l ≤ 9223372036854775807 := by have := hE.slots.2.1; have := hE.slots.2.2.1; unfold maxLen at this; omega
  have HE := Lib.hid hE
  have hN := Blk.new w 79 (ek x (.slice B m d) (.slice S l q))
  have c53 := (hN.cell 53).trans (ek_tail x _ _ hE.fit 0)
  have c54 := (hN.cell 54).trans (ek_tail x _ _ hE.fit 1)
  have c20 := (hN.cell 20).trans (ek_nonce x _ _ hE.fit)
  simp only [List.getElem?_cons_zero, List.getElem?_cons_succ] at c53 c54
  have HB1 := Lib.hid (hN.bytes 21 x.bal (ek_bal x _ _ hE.fit))
  have T61 : Hid (AggT Tryd.prog 61 (bvs x.bal).length) := by rw [bvs_length, hE.fit.hb]; exact Tryd.agg61d
  have hEz := eq_z32 x.bal hE.fit.hb
  have g61 := Tryd.g61d
  have hnI : 0 ≤ (x.nonce : Int) ∧ (x.nonce : Int) ≤ 18446744073709551615 := by have := hE.fit.hn; omega
  have f1 : ¬ (x.nonce : Int) = 0 := by omega
  have f1b : ((x.nonce : Int) == 0) = false := by rw [beq_eq_false_iff_ne]; exact f1
  have f4 : ¬ (x.nonce : Int) = 18446744073709551615 := by omega
  have f4b : ((x.nonce : Int) == 18446744073709551615) = false := by rw [beq_eq_false_iff_ne]; exact f4
  have f5 : (m : Int) ≤ 4096 := by omega
  have f5b : decide (4096 < m) = false := decide_eq_false (by omega)
  rw [HR.out]
  have hB0 : Hid (Below w.heap.size w (w.alloc (.cells (ek x (.slice B m d) (.slice S l q)) 79))) := al (Below.refl _ _) _
  have hS0 := Lib.hid (hE.slots.below hB0.out)
  have hFS := Lib.hid hE.fit.hs
  have HN := Lib.hid hN
  have ld20 := run_loadAt26 _ _ _ _ c20
  have ld53 := run_loadAt22 _ _ _ _ c53
  have ld54 := Lib.hid (fun W (hW : Below (w.alloc (.cells (ek x (.slice B m d) (.slice S l q)) 79)).heap.size (w.alloc (.cells (ek x (.slice B m d) (.slice S l q)) 79)) W) => run_loadAt77 W _ _ _ (((HN.out.below hW (by simp)).cell 54).trans (ek_tail x _ _ HE.out.fit 1)))
  clear hE hN HR c20 c53 c54 hn hx hg
  generalize x.nonce = nn at *
  generalize hslots : x.slots = hs at *
  clear hslots
  go_enter Tryd.func83, Tryd.ntmps83
  go_wp2_with (first | (refine wpList_loadAggG (by rfl) 61 (.tmp 8) (by rfl) w.heap.size 21 (by rfl) _ T61.out HB1.out ?_) | (refine wpList_buildG (by rfl) (by rfl) ?_))
  clear hEz
  go_loopw [3] (fun i wi => ∃ j : Nat, j ≤ l ∧ i = .int .i64 j ∧ (List.range j).all (holdsB hs) = true ∧ Below (w.alloc (.cells (ek x (.slice B m d) (.slice S l q)) 79)).heap.size (w.alloc (.cells (ek x (.slice B m d) (.slice S l q)) 79)) wi) (fun i _ => l - (intOf i).toNat)
  case atStart => exact ⟨0, by omega, rfl, rfl, Below.refl _ _⟩
  case round =>
    obtain ⟨j, hj, rfl, halj, hbi⟩ := hrel
    obtain ⟨wi, rfl⟩ : ∃ wi : World, wi = wr := ⟨_, rfl⟩
    have HAJ := Lib.hid halj
    have hl54 := fun q => ld54.out (wi.drewN q) (hbi.trans (drawn_below' _ _ _ hbi.size))
    have hl540 := ld54.out _ hbi
    clear halj
    have HLS : Hid (hs.length = l) := Lib.hid hlc
    by_cases hjl : j < l
    · obtain ⟨g, o, rfl, hg, hc0⟩ := hS0.out.at_ hjl
      have hc := hc0.below hbi
      have hfx := hFS.out _ (List.mem_of_getElem? hg)
      have hsj := Lib.hid (range_all_succ (holdsB hs) j)
      have hno : Hid (holdsB hs j = false → slotsB hs = false) := fun h => range_all_no (holdsB hs) hs.length j (by rw [HLS.out]; exact hjl) h
      have hcv := hc.part 32 _ (hk_val _ hfx.1)
      have T61' : AggT Tryd.prog 61 (bvs (hs.getD j ([], [])).2).length := by rw [bvs_length, hfx.2]; exact Tryd.agg61d
      have hld := fun q => run_loadAtAgg (wi.drewN q) 61 g (o + j * 64 + 32) _ T61' (hcv.drewN q)
      have hEv := eq_z32 (hs.getD j ([], [])).2 hfx.2
      rw [z32lit] at hEv
      have hB := Lib.hid ((hc.part 0 _ (hk_key _)).rd hfx.1)
      rw [Nat.add_zero] at hB
      have hjI : (0 : Int) ≤ (j : Int) ∧ (j : Int) < (l : Int) := by omega
      have htj : ((j : Int)).toNat = j := by omega
      by_cases hv : (hs.getD j ([], [])).2 = z32w
      · have HF : Hid (slotsB hs = false) := hno.out (by unfold holdsB; rw [decide_eq_true hv]; rfl)
        rw [decide_eq_true hv] at hEv
        clear hc hc0 hcv T61' hg hv hfx
        generalize hs.getD j ([], []) = y at *
        go_wp2
        go_quiet (fail)
        go_wp2
        go_ret
        exact ⟨by rw [HF.out]; rfl, hB0.out.trans ((hbi.trans (drawn_below' _ _ _ hbi.size)).mono (by simp))⟩
      · have HVF := Lib.hid (decide_eq_false hv)
        rw [decide_eq_false hv] at hEv
        cases j with
        | zero =>
          have HT : Hid (holdsB hs 0 = true) := by unfold Hid holdsB; rw [HVF.out]; rfl
          clear hc hc0 hcv T61' hg hv hfx HVF
          generalize hs.getD 0 ([], []) = y at *
          go_wp2
          go_quiet (fail)
          go_wp2
          go_roundw
          case rel => exact ⟨1, by omega, by go_num, by rw [hsj.out, HAJ.out, HT.out]; rfl, hbi.trans (drawn_below' _ _ _ hbi.size)⟩
          case measure => simp [intOf]; omega
        | succ i =>
          obtain ⟨g', o', e0, hg', hc0'⟩ := hS0.out.at_ (k := i) (by omega)
          injection e0 with e0; injection e0 with e1 e2; subst e1 e2
          have hfy := hFS.out _ (List.mem_of_getElem? hg')
          have hA := Lib.hid (((hc0'.below hbi).part 0 _ (hk_key _)).rd hfy.1)
          rw [Nat.add_zero] at hA
          have hiI : (0 : Int) ≤ (i : Int) ∧ (i : Int) < (l : Int) ∧ (0 : Int) ≤ (i : Int) + 1 ∧ (i : Int) + 1 < (l : Int) := by omega
          have hti : ((i : Int) + 1).toNat = i + 1 := by omega
          have htii : ((i : Int)).toNat = i := by omega
          have hwi : IntKind.i64.wrap (i : Int) = i := IntWalk.i64_in _ (by omega)
          have hgt : decide ((0 : Int) < (i : Int) + 1) = true := decide_eq_true (by omega)
          have hgt2 : (0 : Int) < (i : Int) + 1 := by omega
          have hH : Hid (holdsB hs (i + 1) = decide (Lib.compareBytes (hs.getD i ([], [])).1 (hs.getD (i + 1) ([], [])).1 < 0)) := by
            unfold Hid holdsB; rw [HVF.out, decide_eq_false (show ¬ i + 1 = 0 by omega), show i + 1 - 1 = i by omega]; rfl
          clear hc hc0 hcv T61' hg hv hfx HVF hc0' hg' hfy
          generalize hs.getD (i + 1) ([], []) = y at *
          generalize hs.getD i ([], []) = z at *
          by_cases hci : 0 ≤ Lib.compareBytes z.1 y.1
          · have HF : Hid (slotsB hs = false) := hno.out (by rw [hH.out]; exact decide_eq_false (by omega))
            have hci2 : decide (0 ≤ Lib.compareBytes z.1 y.1) = true := decide_eq_true hci
            go_wp2
            go_quiet ((go_at_call 84; exact Calls.quiet_of (Bytes84_q _ _ _ _ _ _ _ _ _ (hA.out.drewN _) (hB.out.drewN _))))
            go_wp2
            go_ret
            exact ⟨by rw [HF.out]; rfl, hB0.out.trans ((hbi.trans (drawn_below' _ _ _ hbi.size)).mono (by simp))⟩
          · have HT : Hid (holdsB hs (i + 1) = true) := by unfold Hid; rw [hH.out]; exact decide_eq_true (by omega)
            have hci2 : decide (0 ≤ Lib.compareBytes z.1 y.1) = false := decide_eq_false hci
            have hci3 : Lib.compareBytes z.1 y.1 < 0 := by omega
            clear hci
            go_wp2
            go_quiet ((go_at_call 84; exact Calls.quiet_of (Bytes84_q _ _ _ _ _ _ _ _ _ (hA.out.drewN _) (hB.out.drewN _))))
            go_wp2
            go_roundw
            case rel => exact ⟨i + 1 + 1, by omega, by go_num, by rw [hsj.out, HAJ.out, HT.out]; rfl, hbi.trans (drawn_below' _ _ _ hbi.size)⟩
            case measure => simp [intOf]; omega
    · obtain rfl : j = l := by omega
      have HF : Hid (slotsB hs = true) := by unfold Hid slotsB; rw [HLS.out]; exact HAJ.out
      go_wp2
      go_ret
      exact ⟨by rw [HF.out]; rfl, hB0.out.trans (hbi.mono (by simp))⟩

set_option maxRecDepth 100000 in
set_option maxHeartbeats 4000000 in
theorem one_y2 (x : EntP) (B S : Option Addr) (m d l q : Nat) (w : World) (hE : RdEnt w x B m d S l q) (hn : x.nonce = 0) (hb : ¬ x.bal = z32w) (hx : ¬ x.nonce = 18446744073709551615) (hg : ¬ 4096 < x.code.length) :
    Calls Tryd.prog 83 #[.agg (ek x (.slice B m d) (.slice S l q))] w fun e w' => e = .returned (.bool (oneB x)) ∧ Below w.heap.size w w' := by
  have HR := Lib.hid (show oneB x = slotsB x.slots by unfold oneB headB; rw [decide_eq_true hn, decide_eq_false hb, decide_eq_false hx, decide_eq_false hg]; rfl)
  have hmc := hE.code.1
  have hlc := hE.slots.1
  have hmm : m ≤ 9223372036854775807 := by have := hE.code.2.1; have := hE.code.2.2.1; unfold maxLen at this; omega
  have hlm : l ≤ 9223372036854775807 := by have := hE.slots.2.1; have := hE.slots.2.2.1; unfold maxLen at this; omega
  have HE := Lib.hid hE
  have hN := Blk.new w 79 (ek x (.slice B m d) (.slice S l q))
  have c53 := (hN.cell 53).trans (ek_tail x _ _ hE.fit 0)
  have c54 := (hN.cell 54).trans (ek_tail x _ _ hE.fit 1)
  have c20 := (hN.cell 20).trans (ek_nonce x _ _ hE.fit)
  simp only [List.getElem?_cons_zero, List.getElem?_cons_succ] at c53 c54
  have HB1 := Lib.hid (hN.bytes 21 x.bal (ek_bal x _ _ hE.fit))
  have T61 : Hid (AggT Tryd.prog 61 (bvs x.bal).length) := by rw [bvs_length, hE.fit.hb]; exact Tryd.agg61d
  have hEz := eq_z32 x.bal hE.fit.hb
  have g61 := Tryd.g61d
  have hnI : 0 ≤ (x.nonce : Int) ∧ (x.nonce : Int) ≤ 18446744073709551615 := by have := hE.fit.hn; omega
  have f1 : (x.nonce : Int) = 0 := by omega
  have f1b : ((x.nonce : Int) == 0) = true := by rw [beq_iff_eq]; exact f1
  rw [decide_eq_false hb] at hEz
  have f4 : ¬ (x.nonce : Int) = 18446744073709551615 := by omega
  have f4b : ((x.nonce : Int) == 18446744073709551615) = false := by rw [beq_eq_false_iff_ne]; exact f4
  have f5 : (m : Int) ≤ 4096 := by omega
  have f5b : decide (4096 < m) = false := decide_eq_false (by omega)
  rw [HR.out]
  have hB0 : Hid (Below w.heap.size w (w.alloc (.cells (ek x (.slice B m d) (.slice S l q)) 79))) := al (Below.refl _ _) _
  have hS0 := Lib.hid (hE.slots.below hB0.out)
  have hFS := Lib.hid hE.fit.hs
  have HN := Lib.hid hN
  have ld20 := run_loadAt26 _ _ _ _ c20
  have ld53 := run_loadAt22 _ _ _ _ c53
  have ld54 := Lib.hid (fun W (hW : Below (w.alloc (.cells (ek x (.slice B m d) (.slice S l q)) 79)).heap.size (w.alloc (.cells (ek x (.slice B m d) (.slice S l q)) 79)) W) => run_loadAt77 W _ _ _ (((HN.out.below hW (by simp)).cell 54).trans (ek_tail x _ _ HE.out.fit 1)))
  clear hE hN HR c20 c53 c54 hn hb hx hg
  generalize x.nonce = nn at *
  generalize hslots : x.slots = hs at *
  clear hslots
  go_enter Tryd.func83, Tryd.ntmps83
  go_wp2_with (first | (refine wpList_loadAggG (by rfl) 61 (.tmp 8) (by rfl) w.heap.size 21 (by rfl) _ T61.out HB1.out ?_) | (refine wpList_buildG (by rfl) (by rfl) ?_))
  clear hEz
  go_loopw [3] (fun i wi => ∃ j : Nat, j ≤ l ∧ i = .int .i64 j ∧ (List.range j).all (holdsB hs) = true ∧ Below (w.alloc (.cells (ek x (.slice B m d) (.slice S l q)) 79)).heap.size (w.alloc (.cells (ek x (.slice B m d) (.slice S l q)) 79)) wi) (fun i _ => l - (intOf i).toNat)
  case atStart => exact ⟨0, by omega, rfl, rfl, Below.refl _ _⟩
  case round =>
    obtain ⟨j, hj, rfl, halj, hbi⟩ := hrel
    obtain ⟨wi, rfl⟩ : ∃ wi : World, wi = wr := ⟨_, rfl⟩
    have HAJ := Lib.hid halj
    have hl54 := fun q => ld54.out (wi.drewN q) (hbi.trans (drawn_below' _ _ _ hbi.size))
    have hl540 := ld54.out _ hbi
    clear halj
    have HLS : Hid (hs.length = l) := Lib.hid hlc
    by_cases hjl : j < l
    · obtain ⟨g, o, rfl, hg, hc0⟩ := hS0.out.at_ hjl
      have hc := hc0.below hbi
      have hfx := hFS.out _ (List.mem_of_getElem? hg)
      have hsj := Lib.hid (range_all_succ (holdsB hs) j)
      have hno : Hid (holdsB hs j = false → slotsB hs = false) := fun h => range_all_no (holdsB hs) hs.length j (by rw [HLS.out]; exact hjl) h
      have hcv := hc.part 32 _ (hk_val _ hfx.1)
      have T61' : AggT Tryd.prog 61 (bvs (hs.getD j ([], [])).2).length := by rw [bvs_length, hfx.2]; exact Tryd.agg61d
      have hld := fun q => run_loadAtAgg (wi.drewN q) 61 g (o + j * 64 + 32) _ T61' (hcv.drewN q)
      have hEv := eq_z32 (hs.getD j ([], [])).2 hfx.2
      rw [z32lit] at hEv
      have hB := Lib.hid ((hc.part 0 _ (hk_key _)).rd hfx.1)
      rw [Nat.add_zero] at hB
      have hjI : (0 : Int) ≤ (j : Int) ∧ (j : Int) < (l : Int) := by omega
      have htj : ((j : Int)).toNat = j := by omega
      by_cases hv : (hs.getD j ([], [])).2 = z32w
      · have HF : Hid (slotsB hs = false) := hno.out (by unfold holdsB; rw [decide_eq_true hv]; rfl)
        rw [decide_eq_true hv] at hEv
        clear hc hc0 hcv T61' hg hv hfx
        generalize hs.getD j ([], []) = y at *
        go_wp2
        go_quiet (fail)
        go_wp2
        go_ret
        exact ⟨by rw [HF.out]; rfl, hB0.out.trans ((hbi.trans (drawn_below' _ _ _ hbi.size)).mono (by simp))⟩
      · have HVF := Lib.hid (decide_eq_false hv)
        rw [decide_eq_false hv] at hEv
        cases j with
        | zero =>
          have HT : Hid (holdsB hs 0 = true) := by unfold Hid holdsB; rw [HVF.out]; rfl
          clear hc hc0 hcv T61' hg hv hfx HVF
          generalize hs.getD 0 ([], []) = y at *
          go_wp2
          go_quiet (fail)
          go_wp2
          go_roundw
          case rel => exact ⟨1, by omega, by go_num, by rw [hsj.out, HAJ.out, HT.out]; rfl, hbi.trans (drawn_below' _ _ _ hbi.size)⟩
          case measure => simp [intOf]; omega
        | succ i =>
          obtain ⟨g', o', e0, hg', hc0'⟩ := hS0.out.at_ (k := i) (by omega)
          injection e0 with e0; injection e0 with e1 e2; subst e1 e2
          have hfy := hFS.out _ (List.mem_of_getElem? hg')
          have hA := Lib.hid (((hc0'.below hbi).part 0 _ (hk_key _)).rd hfy.1)
          rw [Nat.add_zero] at hA
          have hiI : (0 : Int) ≤ (i : Int) ∧ (i : Int) < (l : Int) ∧ (0 : Int) ≤ (i : Int) + 1 ∧ (i : Int) + 1 < (l : Int) := by omega
          have hti : ((i : Int) + 1).toNat = i + 1 := by omega
          have htii : ((i : Int)).toNat = i := by omega
          have hwi : IntKind.i64.wrap (i : Int) = i := IntWalk.i64_in _ (by omega)
          have hgt : decide ((0 : Int) < (i : Int) + 1) = true := decide_eq_true (by omega)
          have hgt2 : (0 : Int) < (i : Int) + 1 := by omega
          have hH : Hid (holdsB hs (i + 1) = decide (Lib.compareBytes (hs.getD i ([], [])).1 (hs.getD (i + 1) ([], [])).1 < 0)) := by
            unfold Hid holdsB; rw [HVF.out, decide_eq_false (show ¬ i + 1 = 0 by omega), show i + 1 - 1 = i by omega]; rfl
          clear hc hc0 hcv T61' hg hv hfx HVF hc0' hg' hfy
          generalize hs.getD (i + 1) ([], []) = y at *
          generalize hs.getD i ([], []) = z at *
          by_cases hci : 0 ≤ Lib.compareBytes z.1 y.1
          · have HF : Hid (slotsB hs = false) := hno.out (by rw [hH.out]; exact decide_eq_false (by omega))
            have hci2 : decide (0 ≤ Lib.compareBytes z.1 y.1) = true := decide_eq_true hci
            go_wp2
            go_quiet ((go_at_call 84; exact Calls.quiet_of (Bytes84_q _ _ _ _ _ _ _ _ _ (hA.out.drewN _) (hB.out.drewN _))))
            go_wp2
            go_ret
            exact ⟨by rw [HF.out]; rfl, hB0.out.trans ((hbi.trans (drawn_below' _ _ _ hbi.size)).mono (by simp))⟩
          · have HT : Hid (holdsB hs (i + 1) = true) := by unfold Hid; rw [hH.out]; exact decide_eq_true (by omega)
            have hci2 : decide (0 ≤ Lib.compareBytes z.1 y.1) = false := decide_eq_false hci
            have hci3 : Lib.compareBytes z.1 y.1 < 0 := by omega
            clear hci
            go_wp2
            go_quiet ((go_at_call 84; exact Calls.quiet_of (Bytes84_q _ _ _ _ _ _ _ _ _ (hA.out.drewN _) (hB.out.drewN _))))
            go_wp2
            go_roundw
            case rel => exact ⟨i + 1 + 1, by omega, by go_num, by rw [hsj.out, HAJ.out, HT.out]; rfl, hbi.trans (drawn_below' _ _ _ hbi.size)⟩
            case measure => simp [intOf]; omega
    · obtain rfl : j = l := by omega
      have HF : Hid (slotsB hs = true) := by unfold Hid slotsB; rw [HLS.out]; exact HAJ.out
      go_wp2
      go_ret
      exact ⟨by rw [HF.out]; rfl, hB0.out.trans (hbi.mono (by simp))⟩

set_option maxRecDepth 100000 in
set_option maxHeartbeats 4000000 in
theorem one_y3 (x : EntP) (B S : Option Addr) (m d l q : Nat) (w : World) (hE : RdEnt w x B m d S l q) (hn : x.nonce = 0) (hb : x.bal = z32w) (hc : ¬ x.code.length = 0) (hx : ¬ x.nonce = 18446744073709551615) (hg : ¬ 4096 < x.code.length) :
    Calls Tryd.prog 83 #[.agg (ek x (.slice B m d) (.slice S l q))] w fun e w' => e = .returned (.bool (oneB x)) ∧ Below w.heap.size w w' := by
  have HR := Lib.hid (show oneB x = slotsB x.slots by unfold oneB headB; rw [decide_eq_true hn, decide_eq_true hb, decide_eq_false hc, decide_eq_false hx, decide_eq_false hg]; rfl)
  have hmc := hE.code.1
  have hlc := hE.slots.1
  have hmm : m ≤ 9223372036854775807 := by have := hE.code.2.1; have := hE.code.2.2.1; unfold maxLen at this; omega
  have hlm : l ≤ 9223372036854775807 := by have := hE.slots.2.1; have := hE.slots.2.2.1; unfold maxLen at this; omega
  have HE := Lib.hid hE
  have hN := Blk.new w 79 (ek x (.slice B m d) (.slice S l q))
  have c53 := (hN.cell 53).trans (ek_tail x _ _ hE.fit 0)
  have c54 := (hN.cell 54).trans (ek_tail x _ _ hE.fit 1)
  have c20 := (hN.cell 20).trans (ek_nonce x _ _ hE.fit)
  simp only [List.getElem?_cons_zero, List.getElem?_cons_succ] at c53 c54
  have HB1 := Lib.hid (hN.bytes 21 x.bal (ek_bal x _ _ hE.fit))
  have T61 : Hid (AggT Tryd.prog 61 (bvs x.bal).length) := by rw [bvs_length, hE.fit.hb]; exact Tryd.agg61d
  have hEz := eq_z32 x.bal hE.fit.hb
  have g61 := Tryd.g61d
  have hnI : 0 ≤ (x.nonce : Int) ∧ (x.nonce : Int) ≤ 18446744073709551615 := by have := hE.fit.hn; omega
  have f1 : (x.nonce : Int) = 0 := by omega
  have f1b : ((x.nonce : Int) == 0) = true := by rw [beq_iff_eq]; exact f1
  rw [decide_eq_true hb] at hEz
  have f3 : ¬ (m : Int) = 0 := by omega
  have f3b : ((m : Int) == 0) = false := by rw [beq_eq_false_iff_ne]; exact f3
  have f3c : decide (m = 0) = false := decide_eq_false (by omega)
  have f4 : ¬ (x.nonce : Int) = 18446744073709551615 := by omega
  have f4b : ((x.nonce : Int) == 18446744073709551615) = false := by rw [beq_eq_false_iff_ne]; exact f4
  have f5 : (m : Int) ≤ 4096 := by omega
  have f5b : decide (4096 < m) = false := decide_eq_false (by omega)
  rw [HR.out]
  have hB0 : Hid (Below w.heap.size w (w.alloc (.cells (ek x (.slice B m d) (.slice S l q)) 79))) := al (Below.refl _ _) _
  have hS0 := Lib.hid (hE.slots.below hB0.out)
  have hFS := Lib.hid hE.fit.hs
  have HN := Lib.hid hN
  have ld20 := run_loadAt26 _ _ _ _ c20
  have ld53 := run_loadAt22 _ _ _ _ c53
  have ld54 := Lib.hid (fun W (hW : Below (w.alloc (.cells (ek x (.slice B m d) (.slice S l q)) 79)).heap.size (w.alloc (.cells (ek x (.slice B m d) (.slice S l q)) 79)) W) => run_loadAt77 W _ _ _ (((HN.out.below hW (by simp)).cell 54).trans (ek_tail x _ _ HE.out.fit 1)))
  clear hE hN HR c20 c53 c54 hn hb hc hx hg
  generalize x.nonce = nn at *
  generalize hslots : x.slots = hs at *
  clear hslots
  go_enter Tryd.func83, Tryd.ntmps83
  go_wp2_with (first | (refine wpList_loadAggG (by rfl) 61 (.tmp 8) (by rfl) w.heap.size 21 (by rfl) _ T61.out HB1.out ?_) | (refine wpList_buildG (by rfl) (by rfl) ?_))
  clear hEz
  go_loopw [3] (fun i wi => ∃ j : Nat, j ≤ l ∧ i = .int .i64 j ∧ (List.range j).all (holdsB hs) = true ∧ Below (w.alloc (.cells (ek x (.slice B m d) (.slice S l q)) 79)).heap.size (w.alloc (.cells (ek x (.slice B m d) (.slice S l q)) 79)) wi) (fun i _ => l - (intOf i).toNat)
  case atStart => exact ⟨0, by omega, rfl, rfl, Below.refl _ _⟩
  case round =>
    obtain ⟨j, hj, rfl, halj, hbi⟩ := hrel
    obtain ⟨wi, rfl⟩ : ∃ wi : World, wi = wr := ⟨_, rfl⟩
    have HAJ := Lib.hid halj
    have hl54 := fun q => ld54.out (wi.drewN q) (hbi.trans (drawn_below' _ _ _ hbi.size))
    have hl540 := ld54.out _ hbi
    clear halj
    have HLS : Hid (hs.length = l) := Lib.hid hlc
    by_cases hjl : j < l
    · obtain ⟨g, o, rfl, hg, hc0⟩ := hS0.out.at_ hjl
      have hc := hc0.below hbi
      have hfx := hFS.out _ (List.mem_of_getElem? hg)
      have hsj := Lib.hid (range_all_succ (holdsB hs) j)
      have hno : Hid (holdsB hs j = false → slotsB hs = false) := fun h => range_all_no (holdsB hs) hs.length j (by rw [HLS.out]; exact hjl) h
      have hcv := hc.part 32 _ (hk_val _ hfx.1)
      have T61' : AggT Tryd.prog 61 (bvs (hs.getD j ([], [])).2).length := by rw [bvs_length, hfx.2]; exact Tryd.agg61d
      have hld := fun q => run_loadAtAgg (wi.drewN q) 61 g (o + j * 64 + 32) _ T61' (hcv.drewN q)
      have hEv := eq_z32 (hs.getD j ([], [])).2 hfx.2
      rw [z32lit] at hEv
      have hB := Lib.hid ((hc.part 0 _ (hk_key _)).rd hfx.1)
      rw [Nat.add_zero] at hB
      have hjI : (0 : Int) ≤ (j : Int) ∧ (j : Int) < (l : Int) := by omega
      have htj : ((j : Int)).toNat = j := by omega
      by_cases hv : (hs.getD j ([], [])).2 = z32w
      · have HF : Hid (slotsB hs = false) := hno.out (by unfold holdsB; rw [decide_eq_true hv]; rfl)
        rw [decide_eq_true hv] at hEv
        clear hc hc0 hcv T61' hg hv hfx
        generalize hs.getD j ([], []) = y at *
        go_wp2
        go_quiet (fail)
        go_wp2
        go_ret
        exact ⟨by rw [HF.out]; rfl, hB0.out.trans ((hbi.trans (drawn_below' _ _ _ hbi.size)).mono (by simp))⟩
      · have HVF := Lib.hid (decide_eq_false hv)
        rw [decide_eq_false hv] at hEv
        cases j with
        | zero =>
          have HT : Hid (holdsB hs 0 = true) := by unfold Hid holdsB; rw [HVF.out]; rfl
          clear hc hc0 hcv T61' hg hv hfx HVF
          generalize hs.getD 0 ([], []) = y at *
          go_wp2
          go_quiet (fail)
          go_wp2
          go_roundw
          case rel => exact ⟨1, by omega, by go_num, by rw [hsj.out, HAJ.out, HT.out]; rfl, hbi.trans (drawn_below' _ _ _ hbi.size)⟩
          case measure => simp [intOf]; omega
        | succ i =>
          obtain ⟨g', o', e0, hg', hc0'⟩ := hS0.out.at_ (k := i) (by omega)
          injection e0 with e0; injection e0 with e1 e2; subst e1 e2
          have hfy := hFS.out _ (List.mem_of_getElem? hg')
          have hA := Lib.hid (((hc0'.below hbi).part 0 _ (hk_key _)).rd hfy.1)
          rw [Nat.add_zero] at hA
          have hiI : (0 : Int) ≤ (i : Int) ∧ (i : Int) < (l : Int) ∧ (0 : Int) ≤ (i : Int) + 1 ∧ (i : Int) + 1 < (l : Int) := by omega
          have hti : ((i : Int) + 1).toNat = i + 1 := by omega
          have htii : ((i : Int)).toNat = i := by omega
          have hwi : IntKind.i64.wrap (i : Int) = i := IntWalk.i64_in _ (by omega)
          have hgt : decide ((0 : Int) < (i : Int) + 1) = true := decide_eq_true (by omega)
          have hgt2 : (0 : Int) < (i : Int) + 1 := by omega
          have hH : Hid (holdsB hs (i + 1) = decide (Lib.compareBytes (hs.getD i ([], [])).1 (hs.getD (i + 1) ([], [])).1 < 0)) := by
            unfold Hid holdsB; rw [HVF.out, decide_eq_false (show ¬ i + 1 = 0 by omega), show i + 1 - 1 = i by omega]; rfl
          clear hc hc0 hcv T61' hg hv hfx HVF hc0' hg' hfy
          generalize hs.getD (i + 1) ([], []) = y at *
          generalize hs.getD i ([], []) = z at *
          by_cases hci : 0 ≤ Lib.compareBytes z.1 y.1
          · have HF : Hid (slotsB hs = false) := hno.out (by rw [hH.out]; exact decide_eq_false (by omega))
            have hci2 : decide (0 ≤ Lib.compareBytes z.1 y.1) = true := decide_eq_true hci
            go_wp2
            go_quiet ((go_at_call 84; exact Calls.quiet_of (Bytes84_q _ _ _ _ _ _ _ _ _ (hA.out.drewN _) (hB.out.drewN _))))
            go_wp2
            go_ret
            exact ⟨by rw [HF.out]; rfl, hB0.out.trans ((hbi.trans (drawn_below' _ _ _ hbi.size)).mono (by simp))⟩
          · have HT : Hid (holdsB hs (i + 1) = true) := by unfold Hid; rw [hH.out]; exact decide_eq_true (by omega)
            have hci2 : decide (0 ≤ Lib.compareBytes z.1 y.1) = false := decide_eq_false hci
            have hci3 : Lib.compareBytes z.1 y.1 < 0 := by omega
            clear hci
            go_wp2
            go_quiet ((go_at_call 84; exact Calls.quiet_of (Bytes84_q _ _ _ _ _ _ _ _ _ (hA.out.drewN _) (hB.out.drewN _))))
            go_wp2
            go_roundw
            case rel => exact ⟨i + 1 + 1, by omega, by go_num, by rw [hsj.out, HAJ.out, HT.out]; rfl, hbi.trans (drawn_below' _ _ _ hbi.size)⟩
            case measure => simp [intOf]; omega
    · obtain rfl : j = l := by omega
      have HF : Hid (slotsB hs = true) := by unfold Hid slotsB; rw [HLS.out]; exact HAJ.out
      go_wp2
      go_ret
      exact ⟨by rw [HF.out]; rfl, hB0.out.trans (hbi.mono (by simp))⟩
end
theorem one83_calls (x : EntP) (B S : Option Addr) (m d l q : Nat) (w : World) (hE : RdEnt w x B m d S l q) :
    Calls Tryd.prog 83 #[.agg (ek x (.slice B m d) (.slice S l q))] w fun e w' => e = .returned (.bool (oneB x)) ∧ Below w.heap.size w w' := by
  by_cases hg : 4096 < x.code.length
  · by_cases hn : x.nonce = 0
    · by_cases hb : x.bal = z32w
      · exact one_n5 x B S m d l q w hE hn hb (by omega) (by omega) hg
      · exact one_n4 x B S m d l q w hE hn hb (by omega) hg
    · by_cases hx : x.nonce = 18446744073709551615
      · exact one_n2 x B S m d l q w hE hn hx
      · exact one_n3 x B S m d l q w hE hn hx hg
  · by_cases hn : x.nonce = 0
    · by_cases hb : x.bal = z32w
      · by_cases hc : x.code.length = 0
        · exact one_n1 x B S m d l q w hE hn hb hc (by omega) hg
        · exact one_y3 x B S m d l q w hE hn hb hc (by omega) hg
      · exact one_y2 x B S m d l q w hE hn hb (by omega) hg
    · by_cases hx : x.nonce = 18446744073709551615
      · exact one_n2 x B S m d l q w hE hn hx
      · exact one_y1 x B S m d l q w hE hn hx hg
end Go.Proofs.YtfjfjjcdlgdbcaaDoor
