/- the texts D3, D4, D5, D6, DShelf, D7 of this proof, one behind the other -/
import Derived.Test.YtfjfjjcdlgdbcaaDoorF5
import Derived.Shelf.Strings.Builder1
import Derived.Shelf.Strings.Builder2
import Derived.Shelf.Strings.OnBuilder
import Derived.Shelf.Small.Utf8
import Derived.Shelf.Small.Strs
import Derived.Shelf.Strconv.Atoi
import Derived.Shelf.Strconv.Itoa0
import Derived.Shelf.Strconv.Itoa1
import Derived.Shelf.LaysM
import Derived.Shelf.Strconv.Itoa2
import Derived.Shelf.Strconv.Itoa3
import Derived.Shelf.Strconv.AtoiErrFast
import Derived.Shelf.Strconv.ParseIntEmpty
import Derived.Shelf.Strconv.AtoiFail
import Derived.Shelf.Strconv.Clone
import Derived.Shelf.Strconv.SyntaxError
import Derived.Shelf.LaysC
import Derived.Shelf.Strconv.ToError
import Derived.Shelf.Strconv.AtoiErr
import Derived.Shelf.Strconv.Lower
import Derived.Shelf.Strconv.ParseUint10
import Derived.Shelf.Strconv.ParseUint10Empty
import Derived.Shelf.Strconv.ParseUint10Any
import Derived.Shelf.Strconv.ParseInt10
import Derived.Shelf.Strconv.AtoiLong
import Derived.Shelf.Strconv.AtoiInnerAll
import Derived.Shelf.Strconv.RangeError
import Derived.Shelf.Strconv.ToErrorRange
import Derived.Shelf.Strconv.AtoiAll
import Derived.Shelf.Strconv.ErrVarAll
import Derived.Shelf.Strconv.ParseUintEmpty
import Derived.Shelf.Strconv.ParseUint10b64
import Derived.Shelf.Strconv.ParseUint10b32
import Derived.Shelf.Strconv.ParseUint10b16
import Derived.Shelf.Strconv.ParseUint10b8
import Derived.Shelf.Strconv.ParseUint10At
import Derived.Shelf.Strconv.ParseInt10At64
import Derived.Shelf.Strconv.ParseInt10At32
import Derived.Shelf.Strconv.ParseInt10At16
import Derived.Shelf.Strconv.ParseInt10At8
import Derived.Shelf.Strconv.ParseInt10All
import Derived.Ground.MpProg
import Derived.Shelf.Pu.ParseUintPublic10
import Derived.Shelf.Pu.ErrVarParseUint
import Derived.Shelf.Strings.Search1
import Derived.Shelf.Strings.Search2
import Derived.Shelf.Strings.Search3
import Derived.Shelf.Strings.Cut
import Derived.Shelf.Strings.Count
import Derived.Shelf.Strings.Shaped
import Derived.Shelf.Strings.Split
import Derived.Test.YtfjfjjcdlgdbcaaDoorProg
import Derived.Lib.AppendIntMem
namespace Go.Proofs.YtfjfjjcdlgdbcaaDoor
open Go.RowKit
set_option linter.unusedSimpArgs false
set_option linter.unusedVariables false
attribute [local irreducible] wpQuiet

theorem rises_calls (A : Option Addr) (n c : Nat) (es : List EntP) (i : Nat) (w : World) (h : RdE w A n c es) (hi : i < n) :
    Calls Tryd.prog 59 #[.slice A n c, .int .i64 (i : Int)] w fun e w' => e = .returned (.bool (risesB es i)) ∧ Below w.heap.size w w' := by
  obtain ⟨g, o, _, _, _, _, _, _, rfl, _⟩ := h.at_ hi
  cases i with
  | succ i =>
    by_cases h0 : 0 ≤ Lib.compareBytes (es.getD i zE).addr (es.getD (i + 1) zE).addr
    · exact rises_s1 n c es i w g o h hi h0
    · by_cases h1 : 4096 < (es.getD (i + 1) zE).code.length
      · exact rises_s2 n c es i w g o h hi h0 h1
      · by_cases h2 : (es.getD (i + 1) zE).nonce = 18446744073709551615
        · exact rises_s3 n c es i w g o h hi h0 h1 h2
        · by_cases h3 : 0 < (es.getD (i + 1) zE).nonce
          · exact rises_s4 n c es i w g o h hi h0 h1 h2 h3
          · by_cases h4 : (es.getD (i + 1) zE).bal = z32w
            · exact rises_s6 n c es i w g o h hi h0 h1 h2 h3 h4
            · exact rises_s5 n c es i w g o h hi h0 h1 h2 h3 h4
  | zero =>
    by_cases h1 : 4096 < (es.getD 0 zE).code.length
    · exact rises_02 n c es w g o h hi h1
    · by_cases h2 : (es.getD 0 zE).nonce = 18446744073709551615
      · exact rises_03 n c es w g o h hi h1 h2
      · by_cases h3 : 0 < (es.getD 0 zE).nonce
        · exact rises_04 n c es w g o h hi h1 h2 h3
        · by_cases h4 : (es.getD 0 zE).bal = z32w
          · exact rises_06 n c es w g o h hi h1 h2 h3 h4
          · exact rises_05 n c es w g o h hi h1 h2 h3 h4
theorem hk_val (h : List UInt8 × List UInt8) (h1 : h.1.length = 32) (j : Nat) (u : UInt8) (hu : h.2[j]? = some u) : (hk h)[32 + j]? = some (bv u) := by
  rw [hk, app_at 32 _ _ (by rw [bvs_length, h1])]
  exact bvs_get hu
theorem hk_key (h : List UInt8 × List UInt8) (j : Nat) (u : UInt8) (hu : h.1[j]? = some u) : (hk h)[0 + j]? = some (bv u) := by
  rw [hk, Nat.zero_add]
  exact app_lt _ _ _ _ (bvs_get hu)
theorem run_loadAtAgg (w : World) (ty : TypeId) (g o : Nat) (vs : List Value) (ht : AggT Tryd.prog ty vs.length) (h : CellsAt w g o vs) :
    (Instr.loadAt ty (.pointer (some ⟨g, o, none⟩))).run Tryd.prog w = .ok (.agg vs.toArray) w := by
  simp only [Instr.loadAt, Instr.sureAddr, Sem.run_bind, Sem.run_pure, Result.andThen_ok, run_loadAgg w ty g o vs ht h]
theorem z32lit : (bvs z32w).toArray = #[.int .u8 0, .int .u8 0, .int .u8 0, .int .u8 0, .int .u8 0, .int .u8 0, .int .u8 0, .int .u8 0, .int .u8 0, .int .u8 0, .int .u8 0, .int .u8 0, .int .u8 0, .int .u8 0, .int .u8 0, .int .u8 0, .int .u8 0, .int .u8 0, .int .u8 0, .int .u8 0, .int .u8 0, .int .u8 0, .int .u8 0, .int .u8 0, .int .u8 0, .int .u8 0, .int .u8 0, .int .u8 0, .int .u8 0, .int .u8 0, .int .u8 0, .int .u8 0] := by kernel_rfl
section
attribute [-go_sem] Instr.loadAt

set_option maxRecDepth 100000 in
set_option maxHeartbeats 4000000 in
theorem holds_s1 (n c : Nat) (hs : List (List UInt8 × List UInt8)) (i : Nat) (w : World) (g o : Nat) (h : RdS w (some ⟨g, o, none⟩) n c hs) (hfit : ∀ h ∈ hs, h.1.length = 32 ∧ h.2.length = 32) (hi : i + 1 < n) (h1 : (hs.getD (i + 1) ([], [])).2 = z32w) :
    Calls Tryd.prog 61 #[.slice (some ⟨g, o, none⟩) n c, .int .i64 ((i + 1 : Nat) : Int)] w fun e w' => e = .returned (.bool (holdsB hs (i + 1))) ∧ Below w.heap.size w w' := by
  have HR := Lib.hid (show holdsB hs (i + 1) = false by unfold holdsB; rw [decide_eq_true h1]; rfl)
  obtain ⟨g', o', e0, hg, hc⟩ := h.at_ hi
  injection e0 with e0; injection e0 with e1 e2; subst e1 e2
  obtain ⟨g', o', e0, hg', hc'⟩ := h.at_ (k := i) (by omega)
  injection e0 with e0; injection e0 with e1 e2; subst e1 e2
  have hfy := hfit _ (List.mem_of_getElem? hg')
  have hfx := hfit _ (List.mem_of_getElem? hg)
  have hm : n ≤ 9223372036854775807 := by have := h.2.1; have := h.2.2.1; unfold maxLen at this; omega
  clear h hg hfit hg'
  rw [HR.out]
  clear HR
  generalize hs.getD (i + 1) ([], []) = x at *
  generalize hs.getD i ([], []) = y at *
  have hcv := hc.part 32 x.2 (hk_val x hfx.1)
  have T61 : AggT Tryd.prog 61 (bvs x.2).length := by rw [bvs_length, hfx.2]; exact Tryd.agg61d
  have hld := fun q => run_loadAtAgg (w.drewN q) 61 g (o + (i + 1) * 64 + 32) (bvs x.2) T61 (hcv.drewN q)
  have hEz := eq_z32 x.2 hfx.2
  rw [z32lit] at hEz
  have g61 := Tryd.g61d
  have hA := Lib.hid ((hc'.part 0 y.1 (hk_key y)).rd hfy.1)
  have hB := Lib.hid ((hc.part 0 x.1 (hk_key x)).rd hfx.1)
  rw [Nat.add_zero] at hA hB
  have hIi : (0 : Int) ≤ (i : Int) ∧ (i : Int) < (n : Int) ∧ (0 : Int) ≤ (i : Int) + 1 ∧ (i : Int) + 1 < (n : Int) := by omega
  have htn : ((i : Int) + 1).toNat = i + 1 := by omega
  have hwi : IntKind.i64.wrap (i : Int) = i := IntWalk.i64_in _ (by omega)
  have hne : ((i : Int) + 1 == 0) = false := by rw [beq_eq_false_iff_ne]; omega
  have hne2 : ¬ (i : Int) + 1 = 0 := by omega
  rw [decide_eq_true h1] at hEz
  clear hc hcv T61 hc' h1
  go_enter Tryd.func61, Tryd.ntmps61
  go_wp2
  go_quiet ((go_at_call 99; exact Calls.quiet_of_same (Compare_q _ _ _ _ _ _ _ _ _ (hA.out.drewN _) (hB.out.drewN _))))
  go_wp2
  go_ret
  exact ⟨rfl, drawn_below' _ _ _ (by omega)⟩

set_option maxRecDepth 100000 in
set_option maxHeartbeats 4000000 in
theorem holds_s2 (n c : Nat) (hs : List (List UInt8 × List UInt8)) (i : Nat) (w : World) (g o : Nat) (h : RdS w (some ⟨g, o, none⟩) n c hs) (hfit : ∀ h ∈ hs, h.1.length = 32 ∧ h.2.length = 32) (hi : i + 1 < n) (h1 : ¬ (hs.getD (i + 1) ([], [])).2 = z32w) :
    Calls Tryd.prog 61 #[.slice (some ⟨g, o, none⟩) n c, .int .i64 ((i + 1 : Nat) : Int)] w fun e w' => e = .returned (.bool (holdsB hs (i + 1))) ∧ Below w.heap.size w w' := by
  have HR := Lib.hid (show holdsB hs (i + 1) = (decide (Lib.compareBytes (hs.getD i ([], [])).1 (hs.getD (i + 1) ([], [])).1 < 0)) by unfold holdsB; rw [show i + 1 - 1 = i by omega, decide_eq_false h1, decide_eq_false (show ¬ i + 1 = 0 by omega)]; rfl)
  obtain ⟨g', o', e0, hg, hc⟩ := h.at_ hi
  injection e0 with e0; injection e0 with e1 e2; subst e1 e2
  obtain ⟨g', o', e0, hg', hc'⟩ := h.at_ (k := i) (by omega)
  injection e0 with e0; injection e0 with e1 e2; subst e1 e2
  have hfy := hfit _ (List.mem_of_getElem? hg')
  have hfx := hfit _ (List.mem_of_getElem? hg)
  have hm : n ≤ 9223372036854775807 := by have := h.2.1; have := h.2.2.1; unfold maxLen at this; omega
  clear h hg hfit hg'
  rw [HR.out]
  clear HR
  generalize hs.getD (i + 1) ([], []) = x at *
  generalize hs.getD i ([], []) = y at *
  have hcv := hc.part 32 x.2 (hk_val x hfx.1)
  have T61 : AggT Tryd.prog 61 (bvs x.2).length := by rw [bvs_length, hfx.2]; exact Tryd.agg61d
  have hld := fun q => run_loadAtAgg (w.drewN q) 61 g (o + (i + 1) * 64 + 32) (bvs x.2) T61 (hcv.drewN q)
  have hEz := eq_z32 x.2 hfx.2
  rw [z32lit] at hEz
  have g61 := Tryd.g61d
  have hA := Lib.hid ((hc'.part 0 y.1 (hk_key y)).rd hfy.1)
  have hB := Lib.hid ((hc.part 0 x.1 (hk_key x)).rd hfx.1)
  rw [Nat.add_zero] at hA hB
  have hIi : (0 : Int) ≤ (i : Int) ∧ (i : Int) < (n : Int) ∧ (0 : Int) ≤ (i : Int) + 1 ∧ (i : Int) + 1 < (n : Int) := by omega
  have htn : ((i : Int) + 1).toNat = i + 1 := by omega
  have hwi : IntKind.i64.wrap (i : Int) = i := IntWalk.i64_in _ (by omega)
  have hne : ((i : Int) + 1 == 0) = false := by rw [beq_eq_false_iff_ne]; omega
  have hne2 : ¬ (i : Int) + 1 = 0 := by omega
  rw [decide_eq_false h1] at hEz
  clear hc hcv T61 hc' h1
  go_enter Tryd.func61, Tryd.ntmps61
  go_wp2
  go_quiet ((go_at_call 99; exact Calls.quiet_of_same (Compare_q _ _ _ _ _ _ _ _ _ (hA.out.drewN _) (hB.out.drewN _))))
  go_wp2
  go_ret
  exact ⟨rfl, drawn_below' _ _ _ (by omega)⟩

set_option maxRecDepth 100000 in
set_option maxHeartbeats 4000000 in
theorem holds_01 (n c : Nat) (hs : List (List UInt8 × List UInt8)) (w : World) (g o : Nat) (h : RdS w (some ⟨g, o, none⟩) n c hs) (hfit : ∀ h ∈ hs, h.1.length = 32 ∧ h.2.length = 32) (hi : 0 < n) (h1 : (hs.getD 0 ([], [])).2 = z32w) :
    Calls Tryd.prog 61 #[.slice (some ⟨g, o, none⟩) n c, .int .i64 0] w fun e w' => e = .returned (.bool (holdsB hs 0)) ∧ Below w.heap.size w w' := by
  have HR := Lib.hid (show holdsB hs 0 = false by unfold holdsB; rw [decide_eq_true h1]; rfl)
  obtain ⟨g', o', e0, hg, hc⟩ := h.at_ hi
  injection e0 with e0; injection e0 with e1 e2; subst e1 e2
  have hfx := hfit _ (List.mem_of_getElem? hg)
  have hm : n ≤ 9223372036854775807 := by have := h.2.1; have := h.2.2.1; unfold maxLen at this; omega
  clear h hg hfit
  rw [HR.out]
  clear HR
  generalize hs.getD 0 ([], []) = x at *
  rw [Nat.zero_mul, Nat.add_zero] at hc
  have hcv := hc.part 32 x.2 (hk_val x hfx.1)
  have T61 : AggT Tryd.prog 61 (bvs x.2).length := by rw [bvs_length, hfx.2]; exact Tryd.agg61d
  have hld := fun q => run_loadAtAgg (w.drewN q) 61 g (o + 32) (bvs x.2) T61 (hcv.drewN q)
  have hEz := eq_z32 x.2 hfx.2
  rw [z32lit] at hEz
  have g61 := Tryd.g61d
  have hIi : (0 : Int) < (n : Int) := by omega
  rw [decide_eq_true h1] at hEz
  clear hc hcv T61 h1
  go_enter Tryd.func61, Tryd.ntmps61
  go_wp2
  go_quiet (fail)
  go_wp2
  go_ret
  exact ⟨rfl, drawn_below' _ _ _ (by omega)⟩

set_option maxRecDepth 100000 in
set_option maxHeartbeats 4000000 in
theorem holds_02 (n c : Nat) (hs : List (List UInt8 × List UInt8)) (w : World) (g o : Nat) (h : RdS w (some ⟨g, o, none⟩) n c hs) (hfit : ∀ h ∈ hs, h.1.length = 32 ∧ h.2.length = 32) (hi : 0 < n) (h1 : ¬ (hs.getD 0 ([], [])).2 = z32w) :
    Calls Tryd.prog 61 #[.slice (some ⟨g, o, none⟩) n c, .int .i64 0] w fun e w' => e = .returned (.bool (holdsB hs 0)) ∧ Below w.heap.size w w' := by
  have HR := Lib.hid (show holdsB hs 0 = true by unfold holdsB; rw [decide_eq_false h1, decide_eq_true (show 0 = 0 from rfl)]; rfl)
  obtain ⟨g', o', e0, hg, hc⟩ := h.at_ hi
  injection e0 with e0; injection e0 with e1 e2; subst e1 e2
  have hfx := hfit _ (List.mem_of_getElem? hg)
  have hm : n ≤ 9223372036854775807 := by have := h.2.1; have := h.2.2.1; unfold maxLen at this; omega
  clear h hg hfit
  rw [HR.out]
  clear HR
  generalize hs.getD 0 ([], []) = x at *
  rw [Nat.zero_mul, Nat.add_zero] at hc
  have hcv := hc.part 32 x.2 (hk_val x hfx.1)
  have T61 : AggT Tryd.prog 61 (bvs x.2).length := by rw [bvs_length, hfx.2]; exact Tryd.agg61d
  have hld := fun q => run_loadAtAgg (w.drewN q) 61 g (o + 32) (bvs x.2) T61 (hcv.drewN q)
  have hEz := eq_z32 x.2 hfx.2
  rw [z32lit] at hEz
  have g61 := Tryd.g61d
  have hIi : (0 : Int) < (n : Int) := by omega
  rw [decide_eq_false h1] at hEz
  clear hc hcv T61 h1
  go_enter Tryd.func61, Tryd.ntmps61
  go_wp2
  go_quiet (fail)
  go_wp2
  go_ret
  exact ⟨rfl, drawn_below' _ _ _ (by omega)⟩
end
end Go.Proofs.YtfjfjjcdlgdbcaaDoor
namespace Go.Proofs.YtfjfjjcdlgdbcaaDoor
open Go.RowKit
set_option linter.unusedSimpArgs false
set_option linter.unusedVariables false

theorem holds_calls (A : Option Addr) (n c : Nat) (hs : List (List UInt8 × List UInt8)) (i : Nat) (w : World) (h : RdS w A n c hs) (hfit : ∀ h ∈ hs, h.1.length = 32 ∧ h.2.length = 32) (hi : i < n) :
    Calls Tryd.prog 61 #[.slice A n c, .int .i64 (i : Int)] w fun e w' => e = .returned (.bool (holdsB hs i)) ∧ Below w.heap.size w w' := by
  obtain ⟨g, o, rfl, _⟩ := h.at_ hi
  cases i with
  | succ i =>
    by_cases h1 : (hs.getD (i + 1) ([], [])).2 = z32w
    · exact holds_s1 n c hs i w g o h hfit hi h1
    · exact holds_s2 n c hs i w g o h hfit hi h1
  | zero =>
    by_cases h1 : (hs.getD 0 ([], [])).2 = z32w
    · exact holds_01 n c hs w g o h hfit hi h1
    · exact holds_02 n c hs w g o h hfit hi h1
theorem range_all_succ (p : Nat → Bool) (k : Nat) : (List.range (k + 1)).all p = ((List.range k).all p && p k) := by simp [List.range_succ]
theorem range_all_no (p : Nat → Bool) (n k : Nat) (hk : k < n) (h : p k = false) : (List.range n).all p = false := by
  rw [List.all_eq_false]
  exact ⟨k, List.mem_range.2 hk, by rw [h]; simp⟩
/-- may all slots be? -/
def slotsB (hs : List (List UInt8 × List UInt8)) : Bool := (List.range hs.length).all (holdsB hs)
def goodB (es : List EntP) (i : Nat) : Bool := risesB es i && slotsB (es.getD i zE).slots
/-- may a list be? -/
def checkB (es : List EntP) : Bool := (List.range es.length).all (goodB es)
def chkV (es : List EntP) : Int := if checkB es then 0 else 240

set_option maxRecDepth 100000 in
set_option maxHeartbeats 4000000 in
theorem check_calls (A : Option Addr) (n c : Nat) (es : List EntP) (w : World) (h : RdE w A n c es) :
    Calls Tryd.prog 44 #[.slice A n c] w fun e w' => e = .returned (.int .i64 (chkV es)) ∧ Below w.heap.size w w' := by
  have hm : n ≤ 9223372036854775807 := by have := h.2.1; have := h.2.2.1; unfold maxLen at this; omega
  have HL := Lib.hid h.1
  have H := Lib.hid h
  clear h
  go_enter Tryd.func44, Tryd.ntmps44
  go_wp2
  go_loopw [8] (fun i wr => ∃ k : Nat, k ≤ n ∧ i = .int .i64 k ∧ (List.range k).all (goodB es) = true ∧ Below w.heap.size w wr) (fun i _ => n - (intOf i).toNat)
  case atStart => exact ⟨0, by omega, rfl, rfl, Below.refl _ _⟩
  case round =>
    obtain ⟨k, hk, rfl, hall, hb⟩ := hrel
    have HALL := Lib.hid hall
    clear hall
    obtain ⟨wo, rfl⟩ : ∃ wo : World, wo = wr := ⟨_, rfl⟩
    by_cases hlt : k < n
    · have hR := Lib.hid (H.out.below hb)
      obtain ⟨g, o, B, m, d, S, l, q, rfl, hg, hc, hE⟩ := hR.out.at_ hlt
      have hsu := Lib.hid (range_all_succ (goodB es) k)
      have hno := Lib.hid (fun h => range_all_no (goodB es) es.length k (by rw [HL.out]; exact hlt) h)
      have hgd := Lib.hid (show goodB es k = (risesB es k && slotsB (es.getD k zE).slots) from rfl)
      have hri := Lib.hid (fun W hW => rises_calls (some ⟨g, o, none⟩) n c es k W (hR.out.below hW) hlt)
      have hlm : l ≤ 9223372036854775807 := by have := hE.slots.2.1; have := hE.slots.2.2.1; unfold maxLen at this; omega
      clear hg
      generalize es.getD k zE = x at *
      have HT := Lib.hid (ek_aggL x (.slice B m d) (.slice S l q) hE.fit)
      have HT2 := Lib.hid (ek_aggS x (.slice B m d) (.slice S l q) hE.fit)
      have HC := Lib.hid hc
      have HO := Lib.hid (ek_one x B m d S l q)
      have hs55 := Lib.hid (ek_size x (.slice B m d) (.slice S l q) hE.fit)
      have HE := Lib.hid hE
      have hN := Lib.hid (Blk.new wo 79 (ek x (.slice B m d) (.slice S l q)))
      have c54 := Lib.hid (fun W (hW : Below (wo.alloc (.cells (ek x (.slice B m d) (.slice S l q)) 79)).heap.size (wo.alloc (.cells (ek x (.slice B m d) (.slice S l q)) 79)) W) => ((hN.out.below hW (by simp)).cell 54).trans (ek_tail x _ _ hE.fit 1))
      have hal : Hid (Below wo.heap.size wo (wo.alloc (.cells (ek x (.slice B m d) (.slice S l q)) 79))) := al (Below.refl _ _) _
      clear hc hE
      cases hr : risesB es k with
      | false =>
        rw [hr] at hri hgd
        have hf : Hid (checkB es = false) := hno.out (by rw [hgd.out]; rfl)
        clear hr
        go_wp2_with (first | (refine wpList_loadAgg rfl 79 (.tmp 11) rfl g (o + k * 55) rfl _ HT.out HC.out ?_) | (refine wpList_storeNew rfl rfl 79 (.tmp 4) _ rfl _ _ rfl (ek x (.slice B m d) (.slice S l q)) rfl HT2.out (by rw [hs55.out]; rfl) HO.out ?_) | (go_at_call 59; refine (hri.out _ hal.out).mono ?_; rintro e w3 ⟨rfl, hb3⟩))
        go_ret
        exact ⟨by unfold chkV; rw [hf.out]; rfl, thn (thn hb hal.out) hb3⟩
      | true =>
        rw [hr] at hri hgd
        clear hr
        go_wp2_with (first | (refine wpList_loadAgg rfl 79 (.tmp 11) rfl g (o + k * 55) rfl _ HT.out HC.out ?_) | (refine wpList_storeNew rfl rfl 79 (.tmp 4) _ rfl _ _ rfl (ek x (.slice B m d) (.slice S l q)) rfl HT2.out (by rw [hs55.out]; rfl) HO.out ?_) | (go_at_call 59; refine (hri.out _ hal.out).mono ?_; rintro e w3 ⟨rfl, hb3⟩; have hc54 := c54.out w3 hb3))
        have hz3 := hb3.size
        simp only [World.size_alloc] at hz3
        have hS3 := Lib.hid ((HE.out.slots.below hal.out).below hb3)
        have hch := Lib.hid (fun j (hj : j < l) W hW => holds_calls S l q x.slots j W (hS3.out.below hW) HE.out.fit.hs hj)
        have hc54a := Lib.hid (fun W (hW : Below w3.heap.size w3 W) => cell_below' hW hc54)
        have HLS := Lib.hid HE.out.slots.1
        have hb03 := Lib.hid (thn (thn hb hal.out) hb3)
        clear hri
        go_loopw [20] (fun i wi => ∃ j : Nat, j ≤ l ∧ i = .int .i64 j ∧ (List.range j).all (holdsB x.slots) = true ∧ Below w3.heap.size w3 wi) (fun i _ => l - (intOf i).toNat)
        case atStart => exact ⟨0, by omega, rfl, rfl, Below.refl _ _⟩
        case round =>
          obtain ⟨j, hj, rfl, halj, hbi⟩ := hrel
          have HAJ := Lib.hid halj
          have hci := hc54a.out _ hbi
          clear halj
          by_cases hjl : j < l
          · have hsj := Lib.hid (range_all_succ (holdsB x.slots) j)
            have hnj := Lib.hid (fun h => range_all_no (holdsB x.slots) x.slots.length j (by rw [HLS.out]; exact hjl) h)
            have hcj := Lib.hid (hch.out j hjl _ hbi)
            cases hh : holdsB x.slots j with
            | false =>
              rw [hh] at hcj
              have hf : Hid (checkB es = false) := hno.out (by rw [hgd.out, show slotsB x.slots = false from hnj.out hh]; rfl)
              clear hh
              go_wp2_with (go_at_call 61; refine hcj.out.mono ?_; rintro e w4 ⟨rfl, hb4⟩)
              go_ret
              exact ⟨by unfold chkV; rw [hf.out]; rfl, thn (thn hb03.out hbi) hb4⟩
            | true =>
              rw [hh] at hcj
              have HH := Lib.hid hh
              clear hh
              go_wp2_with (go_at_call 61; refine hcj.out.mono ?_; rintro e w4 ⟨rfl, hb4⟩)
              go_roundw
              case rel => exact ⟨j + 1, by omega, by go_num, by rw [hsj.out, HAJ.out, HH.out]; rfl, thn hbi hb4⟩
              case measure => simp [intOf]; omega
          · obtain rfl : j = l := by omega
            have hg1 : Hid (goodB es k = true) := by
              rw [hgd.out]
              show slotsB x.slots = true
              unfold slotsB
              rw [HLS.out]
              exact HAJ.out
            go_wp2
            go_roundw
            case rel => first
              | exact ⟨k + 1, by omega, by go_num, by rw [hsu.out, HALL.out, hg1.out]; rfl, thn hb03.out hbi⟩
              | exact ⟨_, _, ⟨k + 1, by omega, by go_num, by rw [hsu.out, HALL.out, hg1.out]; rfl, thn hb03.out hbi⟩, rfl, rfl⟩
            case measure => simp [intOf]; omega
    · obtain rfl : k = n := by omega
      have hf : Hid (checkB es = true) := by unfold checkB; rw [HL.out]; exact HALL.out
      go_wp2
      go_ret
      exact ⟨by unfold chkV; rw [hf.out]; rfl, hb⟩
end Go.Proofs.YtfjfjjcdlgdbcaaDoor
namespace Go.Proofs.YtfjfjjcdlgdbcaaDoor
open Go.RowKit
set_option linter.unusedSimpArgs false
set_option linter.unusedVariables false

/-- the number of bytes, the highest first -/
def valW (bs : List UInt8) : Nat := bs.foldl (fun n b => n * 256 + b.toNat) 0
theorem valW_snoc (bs : List UInt8) (b : UInt8) : valW (bs ++ [b]) = valW bs * 256 + b.toNat := by simp [valW]
/-- divided by ten, byte by byte -/
def divP (bs : List UInt8) : List UInt8 × Nat := bs.foldl (fun p b => (p.1 ++ [UInt8.ofNat ((p.2 * 256 + b.toNat) / 10)], (p.2 * 256 + b.toNat) % 10)) ([], 0)
theorem divP_snoc (bs : List UInt8) (b : UInt8) : divP (bs ++ [b]) = ((divP bs).1 ++ [UInt8.ofNat (((divP bs).2 * 256 + b.toNat) / 10)], ((divP bs).2 * 256 + b.toNat) % 10) := by simp [divP]
theorem divP_spec : ∀ (k : Nat) (bs : List UInt8), bs.length = k → (divP bs).1.length = k ∧ (divP bs).2 < 10 ∧ valW (divP bs).1 * 10 + (divP bs).2 = valW bs := by
  intro k
  induction k with
  | zero =>
    intro bs h
    obtain rfl : bs = [] := List.eq_nil_of_length_eq_zero h
    exact ⟨rfl, by decide, rfl⟩
  | succ k ih =>
    intro bs h
    rcases List.eq_nil_or_concat bs with e | ⟨l, b, e⟩
    · subst e; simp at h
    · rw [List.concat_eq_append] at e
      subst e
      simp only [List.length_append, List.length_cons, List.length_nil] at h
      obtain ⟨i1, i2, i3⟩ := ih l (by omega)
      have hb := b.toNat_lt
      rw [divP_snoc, valW_snoc]
      refine ⟨by simp [i1], by omega, ?_⟩
      simp only [valW_snoc]
      have e1 : (UInt8.ofNat (((divP l).2 * 256 + b.toNat) / 10)).toNat = ((divP l).2 * 256 + b.toNat) / 10 := by simp; omega
      rw [e1]
      omega
/-- digits; none of naught -/
def digs (n : Nat) : List UInt8 := if n = 0 then [] else Lib.decDigits n
theorem digs_step (n : Nat) (h : 0 < n) : digs n = digs (n / 10) ++ [UInt8.ofNat (48 + n % 10)] := by
  unfold digs
  rw [if_neg (by omega), Lib.decDigits]
  by_cases hlt : n < 10
  · rw [dif_pos hlt, if_pos (by omega), List.nil_append, show n % 10 = n by omega]
  · rw [dif_neg hlt, if_neg (by omega)]
theorem digs_dec (n : Nat) : (if digs n = [] then [48] else digs n) = Lib.decDigits n := by
  unfold digs
  by_cases h : n = 0
  · subst h
    rw [if_pos rfl, if_pos rfl, Lib.decDigits, dif_pos (by decide)]
    rfl
  · rw [if_neg h, if_neg]
    intro e
    rw [Lib.decDigits] at e
    split at e <;> simp at e
theorem valW_zero : ∀ (k : Nat) (bs : List UInt8), bs.length = k → (valW bs = 0 ↔ bs = List.replicate k 0) := by
  intro k
  induction k with
  | zero =>
    intro bs h
    obtain rfl : bs = [] := List.eq_nil_of_length_eq_zero h
    simp [valW]
  | succ k ih =>
    intro bs h
    rcases List.eq_nil_or_concat bs with e | ⟨l, b, e⟩
    · subst e; simp at h
    · rw [List.concat_eq_append] at e
      subst e
      simp only [List.length_append, List.length_cons, List.length_nil] at h
      rw [valW_snoc, List.replicate_succ']
      constructor
      · intro hv
        have h1 : valW l = 0 := by omega
        have h2 : b = 0 := UInt8.toNat_inj.1 (by show b.toNat = 0; omega)
        rw [(ih l (by omega)).1 h1, h2]
      · intro e
        obtain ⟨e1, e2⟩ := List.append_inj e (by simp; omega)
        have h1 := (ih l (by omega)).2 e1
        have h2 : b = 0 := by simpa using e2
        rw [h1, h2]
        rfl
theorem valW_pos (bs : List UInt8) (h : bs.length = 32) : (¬ bs = z32w) ↔ 0 < valW bs := by
  have := valW_zero 32 bs h
  unfold z32w
  rw [← this]
  omega
theorem or_byte (r b : Nat) (hr : r < 10) (hb : b < 256) : bits BinOp.or IntKind.i64 ((r : Int) * 256) (b : Int) = (r : Int) * 256 + (b : Int) := by
  have : ∀ (r : Fin 10) (b : Fin 256), bits BinOp.or IntKind.i64 ((r.val : Int) * 256) (b.val : Int) = (r.val : Int) * 256 + (b.val : Int) := by decide +kernel
  exact this ⟨r, hr⟩ ⟨b, hb⟩
/-- how far a word is divided -/
def divC (bs : List UInt8) (i : Nat) : List UInt8 := (divP (bs.take i)).1 ++ bs.drop i
theorem divC_zero (bs : List UInt8) : divC bs 0 = bs := by simp [divC, divP]
theorem divC_all (bs : List UInt8) (n : Nat) (h : bs.length = n) : divC bs n = (divP bs).1 := by
  unfold divC
  rw [List.take_of_length_le (by omega), List.drop_eq_nil_of_le (by omega), List.append_nil]
theorem divC_length (bs : List UInt8) (i : Nat) (h : i ≤ bs.length) : (divC bs i).length = bs.length := by
  unfold divC
  rw [List.length_append, (divP_spec i (bs.take i) (by rw [List.length_take]; omega)).1, List.length_drop]
  omega
theorem divC_at (bs : List UInt8) (i : Nat) (h : i < bs.length) : (divC bs i)[i]? = some (bs.getD i 0) := by
  unfold divC
  have hl := (divP_spec i (bs.take i) (by rw [List.length_take]; omega)).1
  rw [List.getElem?_append_right (by omega), hl, Nat.sub_self, List.getElem?_drop, Nat.add_zero, List.getD_eq_getElem?_getD, List.getElem?_eq_getElem h]
  rfl
theorem divC_succ (bs : List UInt8) (i : Nat) (h : i < bs.length) : (divC bs i).set i (UInt8.ofNat (((divP (bs.take i)).2 * 256 + (bs.getD i 0).toNat) / 10)) = divC bs (i + 1) := by
  have ht : bs.take (i + 1) = bs.take i ++ [bs.getD i 0] := by
    rw [List.take_succ_eq_append_getElem h, List.getD_eq_getElem?_getD, List.getElem?_eq_getElem h]; rfl
  have hl := (divP_spec i (bs.take i) (by rw [List.length_take]; omega)).1
  unfold divC
  rw [ht, divP_snoc, List.set_append_right _ _ (by omega), hl, Nat.sub_self, List.drop_eq_getElem_cons h, List.set_cons_zero, List.append_assoc]
  rfl
theorem divR_succ (bs : List UInt8) (i : Nat) (h : i < bs.length) : (divP (bs.take (i + 1))).2 = ((divP (bs.take i)).2 * 256 + (bs.getD i 0).toNat) % 10 := by
  have ht : bs.take (i + 1) = bs.take i ++ [bs.getD i 0] := by
    rw [List.take_succ_eq_append_getElem h, List.getD_eq_getElem?_getD, List.getElem?_eq_getElem h]; rfl
  rw [ht, divP_snoc]
theorem bvs_set (xs : List UInt8) (i : Nat) (b : UInt8) : (bvs xs).toArray.setIfInBounds i (bv b) = (bvs (xs.set i b)).toArray := by
  simp [bvs, List.map_set]
/-- the number that block b holds -/
def numAt (w : World) (b : Nat) : Nat := match w.heap[b]? with
  | some (.cells cs _ _) => cs.toList.foldl (fun n v => n * 256 + (intOf v).toNat) 0
  | _ => 0
theorem numAt_of {w : World} {b : Nat} {t : TypeId} {bs : List UInt8} (h : Blk w b t (bvs bs).toArray) : numAt w b = valW bs := by
  unfold numAt valW
  rw [h]
  simp only [bvs, List.foldl_map]
  rfl
theorem dLen : ∀ (k u : Nat), u < 10 ^ (k + 1) → (Lib.decDigits u).length ≤ k + 1 := by
  intro k
  induction k with
  | zero => intro u h; rw [Lib.decDigits, dif_pos (by omega)]; simp
  | succ k ih =>
    intro u h
    rw [Lib.decDigits]
    split
    · simp
    · have := ih (u / 10) (by rw [Nat.pow_succ] at h; omega)
      simp only [List.length_append, List.length_cons, List.length_nil]
      omega
theorem valW_lt : ∀ (k : Nat) (bs : List UInt8), bs.length = k → valW bs < 256 ^ k := by
  intro k
  induction k with
  | zero =>
    intro bs h
    obtain rfl : bs = [] := List.eq_nil_of_length_eq_zero h
    simp [valW]
  | succ k ih =>
    intro bs h
    rcases List.eq_nil_or_concat bs with e | ⟨l, b, e⟩
    · subst e; simp at h
    · rw [List.concat_eq_append] at e
      subst e
      simp only [List.length_append, List.length_cons, List.length_nil] at h
      have := ih l (by omega)
      have hb := b.toNat_lt
      rw [valW_snoc, Nat.pow_succ]
      omega
theorem digs_len (bs : List UInt8) (h : bs.length = 32) : (digs (valW bs)).length ≤ 78 := by
  unfold digs
  split
  · simp
  · exact dLen 77 _ (Nat.lt_of_lt_of_le (valW_lt 32 bs h) (by decide))
theorem OwnB.setFar {w : World} {B : Nat} {v : Value} {xs : List UInt8} (h : OwnB w B v xs) {p : Addr} (hp : p.block < B) (u : Value) : OwnB (w.setCell p u) B v xs := by
  have hb := (Below.refl 0 w).setCell (p := p) (Nat.zero_le _) u
  refine World.ownsRow.kept h (row := some p.block) ⟨hb.os, hb.tape, hb.output, hb.size, fun i hi hne => ?_⟩ ?_
  · exact Below.heap_setCell w p u i (fun e => hne (by rw [e]))
  · by_cases e : v.ownBlock = some p.block
    · have := (h.block _ e).1
      omega
    · exact .inr e
theorem OwnB.empty (w : World) (B : Nat) (hB : B ≤ w.heap.size) : OwnB (w.alloc (.cells #[] 5)) B (.slice (some ⟨w.heap.size, 0, none⟩) 0 0) [] :=
  ⟨rfl, .inr ⟨w.heap.size, 0, #[], rfl, hB, heap_alloc_new w _, Nat.le_refl _, by unfold maxLen; omega, rfl, rfl⟩⟩
theorem byte_ofNat (q : Nat) (h : q < 256) : bv (UInt8.ofNat q) = .int .u8 (q : Int) := by
  unfold bv
  congr 1
  simp; omega

set_option maxRecDepth 100000 in
set_option maxHeartbeats 4000000 in
theorem decimal_calls (xs : List UInt8) (w : World) (hx : xs.length = 32) :
    Calls Tryd.prog 50 #[.agg (bvs xs).toArray] w fun e w' => e = .returned (.string (str (Lib.decDigits (valW xs)))) ∧ Below w.heap.size w w' := by
  have g61 := Tryd.g61d
  have hlen := digs_len xs hx
  have HD := Lib.hid (digs_dec (valW xs))
  go_enter Tryd.func50, Tryd.ntmps50
  go_wp2
  go_loopw [3] (fun v wr => ∃ ws out : List UInt8, ws.length = 32 ∧ digs (valW xs) = digs (valW ws) ++ out ∧ Blk wr w.heap.size 61 (bvs ws).toArray ∧ OwnB wr (w.heap.size + 1) v out ∧ Below w.heap.size w wr) (fun _ wr => numAt wr w.heap.size)
  case atStart => exact ⟨xs, [], hx, by simp, (Blk.new w 61 _).alloc _, by have := OwnB.empty (w.alloc (.cells (bvs xs).toArray 61)) (w.heap.size + 1) (by simp); simpa using this, al (al (Below.refl _ _) _) _⟩
  case round =>
    obtain ⟨ws, out, hws, hdig, hB, ho, hb⟩ := hrel
    have HDG := Lib.hid hdig
    have HO := Lib.hid ho
    have HBK := Lib.hid hB
    have hbs := hb.size
    have hlo : out.length ≤ 78 := by
      have := congrArg List.length hdig
      rw [List.length_append] at this
      omega
    have hlt0 := hB.lt
    obtain ⟨wo, rfl⟩ : ∃ wo : World, wo = wr := ⟨_, rfl⟩
    have T61 : Hid (AggT Tryd.prog 61 (bvs ws).length) := by rw [bvs_length, hws]; exact Tryd.agg61d
    have HC := Lib.hid (show CellsAt wo w.heap.size 0 (bvs ws) from cellsAt_blk hB)
    have hEz := eq_z32 ws hws
    clear hdig ho hB
    by_cases hz : ws = z32w
    · rw [decide_eq_true hz] at hEz
      have hv0 : Hid (digs (valW xs) = out) := by
        rw [HDG.out, hz]
        rfl
      obtain ⟨A1, c1, hv, hr⟩ := HO.out.reads
      subst hv
      have hcv := run_convertB (P := Tryd.prog) wo 22 5 9 Tryd.underlying22 Tryd.underlying5 Tryd.underlying9 hr
      clear hz hr hws
      by_cases hn : out = []
      · have hl0 : ((out.length : Int) == 0) = true := by rw [hn]; rfl
        have hl1 : (out.length : Int) = 0 := by rw [hn]; rfl
        have hR : Hid (Lib.decDigits (valW xs) = [48]) := by rw [← HD.out, hv0.out, if_pos hn]; trivial
        clear hn
        go_wp2_with (first | (refine wpList_loadAgg rfl 61 (.tmp 1) rfl w.heap.size 0 rfl _ T61.out HC.out ?_) | (refine wpList_buildG (by rfl) (by rfl) ?_))
        go_ret
        exact ⟨by rw [hR.out]; rfl, hb⟩
      · have hl1 : ¬ (out.length : Int) = 0 := fun e => hn (List.eq_nil_of_length_eq_zero (by omega))
        have hl0 : ((out.length : Int) == 0) = false := by rw [beq_eq_false_iff_ne]; exact hl1
        have hR : Hid (Lib.decDigits (valW xs) = out) := by rw [← HD.out, hv0.out, if_neg hn]; trivial
        clear hn
        go_wp2_with (first | (refine wpList_loadAgg rfl 61 (.tmp 1) rfl w.heap.size 0 rfl _ T61.out HC.out ?_) | (refine wpList_buildG (by rfl) (by rfl) ?_))
        go_ret
        exact ⟨by rw [hR.out]; rfl, hb⟩
    · rw [decide_eq_false hz] at hEz
      have hpos := Lib.hid ((valW_pos ws hws).1 hz)
      clear hz
      go_wp2_with (first | (refine wpList_loadAgg rfl 61 (.tmp 1) rfl w.heap.size 0 rfl _ T61.out HC.out ?_) | (refine wpList_buildG (by rfl) (by rfl) ?_))
      go_loopw [4, 10] (fun r i wi => ∃ k : Nat, k ≤ 32 ∧ i = .int .i64 k ∧ r = .int .i64 ((divP (ws.take k)).2 : Int) ∧ Blk wi w.heap.size 61 (bvs (divC ws k)).toArray ∧ OwnB wi (w.heap.size + 1) u3 out ∧ Below w.heap.size w wi) (fun _ i _ => 32 - (intOf i).toNat)
      case atStart => exact ⟨0, by omega, rfl, rfl, by rw [divC_zero]; exact HBK.out, HO.out, hb⟩
      case round =>
        obtain ⟨k, hk, rfl, rfl, hBi, hoi, hbi⟩ := hrel
        have hsp := divP_spec k (ws.take k) (by rw [List.length_take]; exact Nat.min_eq_left (by omega))
        have hr10 := hsp.2.1
        have HOI := Lib.hid hoi
        have HBI := Lib.hid hBi
        have hbis := hbi.size
        clear hsp hoi
        by_cases hlt : k < 32
        · have hb0 := (ws.getD k 0).toNat_lt
          have hcell : wr.cell? ⟨w.heap.size, k, none⟩ = some (bv (ws.getD k 0)) := by rw [hBi.cell, List.getElem?_toArray]; exact bvs_get (divC_at ws k (by omega))
          have hfz := hBi.frozen k
          have hset := hBi.set_ k (bv (UInt8.ofNat (((divP (ws.take k)).2 * 256 + (ws.getD k 0).toNat) / 10)))
          rw [bvs_set, divC_succ ws k (by omega)] at hset
          have HSET := Lib.hid hset
          have hrs := Lib.hid (divR_succ ws k (by omega))
          unfold bv at hcell
          clear hBi hset
          generalize (divP (ws.take k)).2 = r at *
          generalize (ws.getD k 0).toNat = b at *
          have hor := or_byte r b hr10 hb0
          have hq : (((r : Int) * 256 + (b : Int)) / 10) < 256 := by omega
          have HV := Lib.hid (show Value.int .u8 (((r : Int) * 256 + (b : Int)) / 10) = bv (UInt8.ofNat ((r * 256 + b) / 10)) by rw [byte_ofNat _ (by omega)]; rfl)
          have hkI : (k : Int) < 32 := by omega
          have hrI : (0 : Int) ≤ (r : Int) ∧ (r : Int) < 10 := by omega
          have hbI : (0 : Int) ≤ (b : Int) ∧ (b : Int) < 256 := by omega
          go_wp2
          go_roundw
          case rel => exact ⟨k + 1, by omega, by go_num, by rw [hrs.out]; rfl, by rw [HV.out]; exact HSET.out, HOI.out.setFar (by show w.heap.size < w.heap.size + 1; omega) _, hbi.setCell (by show w.heap.size ≤ w.heap.size; omega) _⟩
          case measure => simp [intOf]; omega
        · obtain rfl : k = 32 := by omega
          have htk : ws.take 32 = ws := List.take_of_length_le (by omega)
          have hsp := divP_spec 32 ws hws
          rw [htk] at *
          rw [divC_all ws 32 hws] at HBI hBi
          have hdg := digs_step (valW ws) hpos.out
          rw [show valW ws / 10 = valW (divP ws).1 by omega, show valW ws % 10 = (divP ws).2 by omega] at hdg
          have hlen' := hsp.1
          have hmeas : valW (divP ws).1 < valW ws := by have := hpos.out; omega
          generalize (divP ws).1 = qs at *
          generalize (divP ws).2 = r at *
          have hnx : Hid (digs (valW xs) = digs (valW qs) ++ (UInt8.ofNat (48 + r) :: out)) := by rw [HDG.out, hdg, List.append_assoc]; rfl
          have hm1 := Lib.hid (numAt_of HBK.out)
          have hd : ((UInt8.ofNat (48 + r)).toNat : Int) = 48 + (r : Int) := by
            have : (UInt8.ofNat (48 + r)).toNat = 48 + r := by simp; omega
            omega
          have HDD := Lib.hid hd
          have hrI : (0 : Int) ≤ (r : Int) ∧ (r : Int) < 10 := by omega
          obtain ⟨A1, c1, hv, hr⟩ := HOI.out.reads
          subst hv
          have HRI := Lib.hid hr
          have HM := Lib.hid hmeas
          clear hdg hsp hBi hr hd hmeas
          go_wp2_with (first | (at_builtin; refine wpList_appendB _ rfl (.tmp 31) (.tmp 32) rfl (w.heap.size + 1) _ [UInt8.ofNat (48 + r)] out rfl _ _ _ rfl (OwnB.one wr (UInt8.ofNat (48 + r)) _ HDD.out.symm (w.heap.size + 1) (by have := HBI.out.lt; omega)) (HRI.out.alloc _) (by simp; omega) (by simp; omega) ?_; intro v2 w2 ho2 hg2 hb2))
          have hB2 := (HBI.out.alloc (.cells #[.int .u8 (48 + (r : Int))] 5)).below hb2 (by omega)
          go_roundw
          case rel => exact ⟨qs, UInt8.ofNat (48 + r) :: out, hlen', hnx.out, hB2, ho2, (al hbi _).trans (hb2.mono (by omega))⟩
          case measure => rw [numAt_of hB2, hm1.out]; exact HM.out
end Go.Proofs.YtfjfjjcdlgdbcaaDoor
namespace Go.Proofs.YtfjfjjcdlgdbcaaDoor
open Go.RowKit
set_option linter.unusedSimpArgs false
set_option linter.unusedVariables false

def anyPos (qs : List UInt8) : Bool := qs.any fun b => decide (0 < b.toNat)
theorem anyPos_snoc (qs : List UInt8) (b : UInt8) : anyPos (qs ++ [b]) = (anyPos qs || decide (0 < b.toNat)) := by simp [anyPos]
theorem anyPos_val : ∀ (k : Nat) (qs : List UInt8), qs.length = k → (anyPos qs = decide (0 < valW qs)) := by
  intro k
  induction k with
  | zero =>
    intro bs h
    obtain rfl : bs = [] := List.eq_nil_of_length_eq_zero h
    rfl
  | succ k ih =>
    intro bs h
    rcases List.eq_nil_or_concat bs with e | ⟨l, b, e⟩
    · subst e; simp at h
    · rw [List.concat_eq_append] at e
      subst e
      simp only [List.length_append, List.length_cons, List.length_nil] at h
      rw [anyPos_snoc, valW_snoc, ih l (by omega), Bool.eq_iff_iff]
      simp
      omega
set_option maxRecDepth 100000 in
theorem rune_digit (r : Nat) (h : r < 10) (W : World) : (convert 21 9 (.int .i32 (48 + (r : Int)))).run Tryd.prog W = .ok (.string (str [UInt8.ofNat (48 + r)])) W := by
  have : r = 0 ∨ r = 1 ∨ r = 2 ∨ r = 3 ∨ r = 4 ∨ r = 5 ∨ r = 6 ∨ r = 7 ∨ r = 8 ∨ r = 9 := by omega
  rcases this with rfl | rfl | rfl | rfl | rfl | rfl | rfl | rfl | rfl | rfl <;> rfl
theorem toNat_ofNat' (q : Nat) (h : q < 256) : (UInt8.ofNat q).toNat = q := by simp; omega
theorem str_cat (a b : List UInt8) : str a ++ str b = str (a ++ b) := by
  apply ByteArray.ext
  apply Array.ext'
  simp [str]

set_option maxRecDepth 100000 in
set_option maxHeartbeats 4000000 in
theorem Decimal_calls (xs : List UInt8) (w : World) (hx : xs.length = 32) :
    Calls Tryd.prog 85 #[.agg (bvs xs).toArray] w fun e w' => e = .returned (.string (str (Lib.decDigits (valW xs)))) ∧ Below w.heap.size w w' := by
  have hlen : (Lib.decDigits (valW xs)).length ≤ 78 := dLen 77 _ (Nat.lt_of_lt_of_le (valW_lt 32 xs hx) (by decide))
  go_enter Tryd.func85, Tryd.ntmps85
  go_wp2
  go_loopw [3] (fun v wr => ∃ ws out : List UInt8, ws.length = 32 ∧ v = .string (str out) ∧ Lib.decDigits (valW xs) = Lib.decDigits (valW ws) ++ out ∧ Blk wr w.heap.size 61 (bvs ws).toArray ∧ Below w.heap.size w wr) (fun _ wr => numAt wr w.heap.size)
  case atStart => exact ⟨xs, [], hx, rfl, by simp, Blk.new w 61 _, al (Below.refl _ _) _⟩
  case round =>
    obtain ⟨ws, out, hws, rfl, hdig, hB, hb⟩ := hrel
    have HDG := Lib.hid hdig
    have HBK := Lib.hid hB
    have hbs := hb.size
    have hlo : out.length ≤ 78 := by
      have := congrArg List.length hdig
      rw [List.length_append] at this
      omega
    have hlt0 := hB.lt
    obtain ⟨wo, rfl⟩ : ∃ wo : World, wo = wr := ⟨_, rfl⟩
    clear hdig hB
    go_wp2
    go_loopw [4, 5, 6] (fun r p i wi => ∃ k : Nat, k ≤ 32 ∧ i = .int .i64 k ∧ r = .int .i64 ((divP (ws.take k)).2 : Int) ∧ p = .bool (anyPos (divP (ws.take k)).1) ∧ Blk wi w.heap.size 61 (bvs (divC ws k)).toArray ∧ Below w.heap.size w wi) (fun _ _ i _ => 32 - (intOf i).toNat)
    case atStart => exact ⟨0, by omega, rfl, rfl, rfl, by rw [divC_zero]; exact HBK.out, hb⟩
    case round =>
      obtain ⟨k, hk, rfl, rfl, rfl, hBi, hbi⟩ := hrel
      have hsp := divP_spec k (ws.take k) (by rw [List.length_take]; exact Nat.min_eq_left (by omega))
      have hr10 := hsp.2.1
      have HBI := Lib.hid hBi
      have hbis := hbi.size
      clear hsp
      by_cases hlt : k < 32
      · have hb0 : (ws.getD k 0).toNat < 256 := (ws.getD k 0).toNat_lt
        have hcell : wr.cell? ⟨w.heap.size, k, none⟩ = some (bv (ws.getD k 0)) := by rw [hBi.cell, List.getElem?_toArray]; exact bvs_get (divC_at ws k (by omega))
        have hfz := hBi.frozen k
        have hset := hBi.set_ k (bv (UInt8.ofNat (((divP (ws.take k)).2 * 256 + (ws.getD k 0).toNat) / 10)))
        rw [bvs_set, divC_succ ws k (by omega)] at hset
        have HSET := Lib.hid hset
        have hrs := Lib.hid (divR_succ ws k (by omega))
        have hps : Hid (anyPos (divP (ws.take (k + 1))).1 = (anyPos (divP (ws.take k)).1 || decide (0 < (((divP (ws.take k)).2 * 256 + (ws.getD k 0).toNat) / 10)))) := by
          have ht : ws.take (k + 1) = ws.take k ++ [ws.getD k 0] := by
            rw [List.take_succ_eq_append_getElem (by omega), List.getD_eq_getElem?_getD, List.getElem?_eq_getElem (by omega)]; rfl
          rw [ht, divP_snoc]
          simp only [anyPos_snoc]
          have : (UInt8.ofNat (((divP (ws.take k)).2 * 256 + (ws.getD k 0).toNat) / 10)).toNat = ((divP (ws.take k)).2 * 256 + (ws.getD k 0).toNat) / 10 := toNat_ofNat' _ (by omega)
          rw [this]; trivial
        unfold bv at hcell
        clear hBi hset
        generalize anyPos (divP (ws.take k)).1 = pb at *
        generalize (divP (ws.take k)).2 = r at *
        generalize (ws.getD k 0).toNat = b at *
        have HV := Lib.hid (show Value.int .u8 ((256 * (r : Int) + (b : Int)) / 10) = bv (UInt8.ofNat ((r * 256 + b) / 10)) by rw [byte_ofNat _ (by omega)]; congr 1; omega)
        have hkI : (k : Int) < 32 := by omega
        have hrI : (0 : Int) ≤ (r : Int) ∧ (r : Int) < 10 := by omega
        have hbI : (0 : Int) ≤ (b : Int) ∧ (b : Int) < 256 := by omega
        have hq : ((256 * (r : Int) + (b : Int)) / 10) < 256 := by omega
        cases pb with
        | true =>
          go_wp2
          go_roundw
          case rel => exact ⟨k + 1, by omega, by go_num, by rw [hrs.out]; congr 1; omega, by rw [hps.out]; rfl, by rw [HV.out]; exact HSET.out, hbi.setCell (by show w.heap.size ≤ w.heap.size; omega) _⟩
          case measure => simp [intOf]; omega
        | false =>
          go_wp2
          go_roundw
          case rel => exact ⟨k + 1, by omega, by go_num, by rw [hrs.out]; congr 1; omega, by rw [hps.out, Bool.false_or]; congr 1; rw [decide_eq_decide]; omega, by rw [HV.out]; exact HSET.out, hbi.setCell (by show w.heap.size ≤ w.heap.size; omega) _⟩
          case measure => simp [intOf]; omega
      · obtain rfl : k = 32 := by omega
        have htk : ws.take 32 = ws := List.take_of_length_le (by omega)
        have hsp := divP_spec 32 ws hws
        have hap := anyPos_val 32 _ hsp.1
        rw [htk] at *
        rw [divC_all ws 32 hws] at HBI hBi
        have hmeas : 0 < valW (divP ws).1 → valW (divP ws).1 < valW ws := by omega
        have hds : Lib.decDigits (valW ws) = if valW (divP ws).1 = 0 then [UInt8.ofNat (48 + (divP ws).2)] else Lib.decDigits (valW (divP ws).1) ++ [UInt8.ofNat (48 + (divP ws).2)] := by
          rw [Lib.decDigits]
          by_cases h0 : valW (divP ws).1 = 0
          · rw [if_pos h0, dif_pos (by omega), show valW ws = (divP ws).2 by omega]
          · rw [if_neg h0, dif_neg (by omega), show valW ws / 10 = valW (divP ws).1 by omega, show valW ws % 10 = (divP ws).2 by omega]
        have HDS := Lib.hid hds
        have HDG2 := Lib.hid HDG.out
        rw [hds] at HDG2
        have hlq := hsp.1
        have hr10' := hsp.2.1
        clear hds hsp
        generalize (divP ws).1 = qs at *
        generalize (divP ws).2 = r at *
        have hm1 := Lib.hid (numAt_of HBK.out)
        have hrd := rune_digit r hr10'
        have hrI : (0 : Int) ≤ (r : Int) ∧ (r : Int) < 10 := by omega
        generalize UInt8.ofNat (48 + r) = dg at *
        have hcat := str_cat [dg] out
        have hsz1 : (str [dg]).size = 1 := rfl
        have hsz2 : (str out).size = out.length := rfl
        have hno : ¬ 9223372036854775807 < 1 + out.length := by omega
        have HM := Lib.hid hmeas
        clear hmeas hBi
        by_cases h0 : valW qs = 0
        · rw [if_pos h0] at HDG2
          have hpb : anyPos qs = false := by rw [hap, decide_eq_false (by omega)]
          clear hap h0
          go_wp2
          go_ret
          exact ⟨by rw [HDG2.out]; rfl, hbi⟩
        · rw [if_neg h0, List.append_assoc] at HDG2
          have hpb : anyPos qs = true := by rw [hap, decide_eq_true (by omega)]
          have HLT := Lib.hid (HM.out (by omega))
          clear hap h0
          go_wp2
          go_roundw
          case rel => exact ⟨qs, [dg] ++ out, hlq, rfl, HDG2.out, HBI.out, hbi⟩
          case measure => rw [numAt_of HBI.out, hm1.out]; exact HLT.out
end Go.Proofs.YtfjfjjcdlgdbcaaDoor
namespace Go.Proofs
open Go.Shelf
def Tryd.lays169_ren : Go.Shelf.Ren := ⟨fun | 169 => 52 | n => n, fun | 70 => 81 | 9 => 9 | 0 => 0 | 72 => 83 | 37 => 22 | 127 => 141 | 3 => 3 | 5 => 5 | n => n, fun | n => n⟩
theorem Tryd.lays169 : Go.Proofs.Lays.n169 Tryd.prog Tryd.lays169_ren := {
  mixed := by kernel_rfl
  f169 := Tryd.func52.trans (congrArg some (by kernel_rfl))
  t0 := Tryd.underlying0
  a0 := Tryd.isAgg0
  z0 := Tryd.sizeOf0
  v0 := Tryd.zeroValue0
  t3 := Tryd.underlying3
  a3 := Tryd.isAgg3
  z3 := Tryd.sizeOf3
  v3 := Tryd.zeroValue3
  t9 := Tryd.underlying9
  a9 := Tryd.isAgg9
  z9 := Tryd.sizeOf9
  v9 := Tryd.zeroValue9
  t37 := Tryd.underlying22
  a37 := Tryd.isAgg22
  z37 := Tryd.sizeOf22
  v37 := Tryd.zeroValue22
  t70 := Tryd.underlying81
  a70 := Tryd.isAgg81
  z70 := Tryd.sizeOf81
  v70 := Tryd.zeroValue81
  t72 := Tryd.underlying83
  a72 := Tryd.isAgg83
  z72 := Tryd.sizeOf83
  v72 := Tryd.zeroValue83
  t127 := Tryd.underlying141
  a127 := Tryd.isAgg141
  z127 := Tryd.sizeOf141
  v127 := Tryd.zeroValue141 }
theorem Tryd.Builder_Extra_169 : Builder.Extra Tryd.prog Tryd.lays169_ren := {
  sizeBuilder := by kernel_rfl
  liesBuilder := by kernel_rfl
  t5 := Tryd.underlying5
  a5 := Tryd.isAgg5
  z5 := Tryd.sizeOf5
  v5 := Tryd.zeroValue5
  infoByte := by kernel_rfl
  cellsByte := by kernel_rfl
  sizeByte := by kernel_rfl
  neB5 := by decide }
open Go.RowKit in
theorem Tryd.Builder_String_any (B b : Nat) (l : List UInt8) (w : World) (h : Lib.IsBuilder 83 5 B b (Lib.byteCells l) w) (hBw : B ≤ w.heap.size) :
    Calls Tryd.prog 52 #[.pointer (some ⟨b, 0, none⟩)] w fun e w' => e = .returned (.string ⟨l.toArray⟩) ∧ Below B w w' := Any.Builder_String_any Tryd.lays169 Tryd.Builder_Extra_169 B b l w h hBw
def Tryd.lays283_ren : Go.Shelf.Ren := ⟨fun | 283 => 120 | n => n, fun | 3 => 3 | 9 => 9 | 4 => 4 | n => n, fun | n => n⟩
theorem Tryd.lays283 : Go.Proofs.Lays.n283 Tryd.prog Tryd.lays283_ren := {
  mixed := by kernel_rfl
  f283 := Tryd.func120.trans (congrArg some (by kernel_rfl))
  t3 := Tryd.underlying3
  a3 := Tryd.isAgg3
  z3 := Tryd.sizeOf3
  v3 := Tryd.zeroValue3
  t4 := Tryd.underlying4
  a4 := Tryd.isAgg4
  z4 := Tryd.sizeOf4
  v4 := Tryd.zeroValue4
  t9 := Tryd.underlying9
  a9 := Tryd.isAgg9
  z9 := Tryd.sizeOf9
  v9 := Tryd.zeroValue9 }
open Go.Lib in
theorem Tryd.internal_strconv_small (i : Nat) (h : i < 100) (w : World) :
    Calls Tryd.prog 120 #[.int .i64 i] w fun e w' => e = .returned (.string ⟨(Lib.decDigits i).toArray⟩) ∧ w' = w := Any.internal_strconv_small Tryd.lays283 i h w
def Tryd.laysM284_ren : Go.Shelf.Ren := ⟨fun | 284 => 121 | 129 => 141 | 317 => 140 | 318 => 142 | n => n, fun | 53 => 26 | 3 => 3 | 212 => 187 | 0 => 0 | 4 => 4 | 46 => 136 | 5 => 5 | 9 => 9 | n => n, fun | 17 => 0 | n => n⟩
theorem Tryd.laysM284 : Go.Proofs.LaysM.n284 Tryd.prog Tryd.laysM284_ren := {
  mixed := by kernel_rfl
  f129 := Tryd.func141.trans (congrArg some (by kernel_rfl))
  f284 := Tryd.func121.trans (congrArg some (by kernel_rfl))
  f317 := Tryd.func140.trans (congrArg some (by kernel_rfl))
  f318 := Tryd.func142.trans (congrArg some (by kernel_rfl))
  t0 := Tryd.underlying0
  a0 := Tryd.isAgg0
  z0 := Tryd.sizeOf0
  v0 := Tryd.zeroValue0
  t3 := Tryd.underlying3
  a3 := Tryd.isAgg3
  z3 := Tryd.sizeOf3
  v3 := Tryd.zeroValue3
  t4 := Tryd.underlying4
  a4 := Tryd.isAgg4
  z4 := Tryd.sizeOf4
  v4 := Tryd.zeroValue4
  t5 := Tryd.underlying5
  a5 := Tryd.isAgg5
  z5 := Tryd.sizeOf5
  v5 := Tryd.zeroValue5
  t9 := Tryd.underlying9
  a9 := Tryd.isAgg9
  z9 := Tryd.sizeOf9
  v9 := Tryd.zeroValue9
  t46 := Tryd.underlying136
  a46 := Tryd.isAgg136
  z46 := Tryd.sizeOf136
  v46 := Tryd.zeroValue136
  t53 := Tryd.underlying26
  a53 := Tryd.isAgg26
  z53 := Tryd.sizeOf26
  v53 := Tryd.zeroValue26
  t212 := Tryd.underlying187
  a212 := Tryd.isAgg187
  z212 := Tryd.sizeOf187
  v212 := Tryd.zeroValue187
  g17 := by kernel_rfl
  i0 := by kernel_rfl
  i3 := by kernel_rfl
  i4 := by kernel_rfl
  i5 := by kernel_rfl
  i9 := by kernel_rfl
  i46 := by kernel_rfl
  i53 := by kernel_rfl
  i212 := by kernel_rfl
  m17 := by kernel_rfl }
open Go.Lib in
theorem Tryd.internal_strconv_numDigits (u : Nat) (h1 : 1 ≤ u) (h2 : u < 18446744073709551616) (w : World) (htab : Lib.TabIs Tryd.prog w "internal/strconv.uint64pow10" .u64 Lib.pow10Tab) :
    Calls Tryd.prog 121 #[.int .u64 u] w fun e w' => e = .returned (.int .i64 (Lib.nDigits u)) ∧ w' = w := Any.internal_strconv_numDigits Tryd.laysM284 u h1 h2 w htab
def Tryd.lays285_ren : Go.Shelf.Ren := ⟨fun | 285 => 122 | n => n, fun | 37 => 22 | 53 => 26 | 3 => 3 | 4 => 4 | 51 => 188 | 9 => 9 | 5 => 5 | 0 => 0 | n => n, fun | n => n⟩
theorem Tryd.lays285 : Go.Proofs.Lays.n285 Tryd.prog Tryd.lays285_ren := {
  mixed := by kernel_rfl
  f285 := Tryd.func122.trans (congrArg some (by kernel_rfl))
  t0 := Tryd.underlying0
  a0 := Tryd.isAgg0
  z0 := Tryd.sizeOf0
  v0 := Tryd.zeroValue0
  t3 := Tryd.underlying3
  a3 := Tryd.isAgg3
  z3 := Tryd.sizeOf3
  v3 := Tryd.zeroValue3
  t4 := Tryd.underlying4
  a4 := Tryd.isAgg4
  z4 := Tryd.sizeOf4
  v4 := Tryd.zeroValue4
  t5 := Tryd.underlying5
  a5 := Tryd.isAgg5
  z5 := Tryd.sizeOf5
  v5 := Tryd.zeroValue5
  t9 := Tryd.underlying9
  a9 := Tryd.isAgg9
  z9 := Tryd.sizeOf9
  v9 := Tryd.zeroValue9
  t37 := Tryd.underlying22
  a37 := Tryd.isAgg22
  z37 := Tryd.sizeOf22
  v37 := Tryd.zeroValue22
  t51 := Tryd.underlying188
  a51 := Tryd.isAgg188
  z51 := Tryd.sizeOf188
  v51 := Tryd.zeroValue188
  t53 := Tryd.underlying26
  a53 := Tryd.isAgg26
  z53 := Tryd.sizeOf26
  v53 := Tryd.zeroValue26 }
open Go.RowKit Go.Sort Go.Lib in
theorem Tryd.internal_strconv_formatBase10 (blk off cap : Nat) (u : Nat) (d : Array UInt8) (w : World) (hH : Holds (fun (b : UInt8) => Value.int .u8 (b.toNat : Int)) w blk off d) (hu : u < 10 ^ d.size) (hu64 : u < 18446744073709551616) (hsz : d.size < 4611686018427387904) :
    Calls Tryd.prog 122 #[.slice (some ⟨blk, off, none⟩) d.size cap, .int .u64 u] w fun e w' =>
      e = .returned (.tuple #[]) ∧ ∃ (n v' : Nat) (dk : Array UInt8), w' = (putRow (fun (b : UInt8) => Value.int .u8 (b.toNat : Int)) w blk off dk).drewN n ∧ FmtInv d.size u 0 v' dk := Any.internal_strconv_formatBase10 Tryd.lays285 blk off cap u d w hH hu hu64 hsz
end Go.Proofs
namespace Go.Proofs.YtfjfjjcdlgdbcaaDoor
open Go.RowKit Go.Sort
set_option linter.unusedSimpArgs false
set_option linter.unusedVariables false

set_option maxRecDepth 100000 in
set_option maxHeartbeats 2000000 in
theorem FormatUint82_calls (u : Nat) (w : World) (hu64 : u < 18446744073709551616) (hL : LaidW w) :
    Calls Tryd.prog 82 #[.int .u64 (u : Int), .int .i64 10] w fun e w' => e = .returned (.string (str (Lib.decDigits u))) ∧ Below w.heap.size w w' := by
  by_cases hs : u < 100
  · have hsI : (u : Int) < 100 := by omega
    have hwi : IntKind.i64.wrap (u : Int) = u := IntWalk.i64_in _ (by omega)
    go_enter Tryd.func82, Tryd.ntmps82
    go_wp2_with (go_at_call 120; refine (Tryd.internal_strconv_small u hs _).mono ?_; rintro e w' ⟨rfl, rfl⟩)
    go_ret
    exact ⟨rfl, Below.refl _ _⟩
  · have hsI : ¬ (u : Int) < 100 := by omega
    have hu1 : 1 ≤ u := by omega
    have hnd20 : Lib.nDigits u ≤ 20 := by have := Lib.numDigits_eq u hu1 hu64; split at this <;> omega
    have htab := hL.pow
    have hal : Tryd.prog.arrayLen 171 = 24 := by kernel_rfl
    have hsl1 : ∀ W, (Instr.sliceAt 171 (.pointer (some ⟨w.heap.size, 0, none⟩)) none (some (.int .i64 (Lib.nDigits u : Int))) none).run Tryd.prog W = .ok (.slice (some ⟨w.heap.size, 0, none⟩) (Lib.nDigits u) 24) W := fun W => by
      rw [run_sliceAt_array_h W 171 ⟨w.heap.size, 0, none⟩ (by kernel_rfl) .i64 (Lib.nDigits u : Int) (by omega) (by rw [hal]; omega)]
      go_simp
      try omega
    have hH0 := Lib.holds_zero0 w 171 (Lib.nDigits u) (by omega)
    have hfmt := Tryd.internal_strconv_formatBase10 w.heap.size 0 24 u (Array.replicate (Lib.nDigits u) 0) (w.alloc (.cells Lib.zeros24 171)) hH0 (by rw [Array.size_replicate]; exact Lib.lt_pow_nDigits u) hu64 (by rw [Array.size_replicate]; omega)
    rw [Array.size_replicate] at hfmt
    have HH0 := Lib.hid hH0
    clear hH0 hal
    go_enter Tryd.func82, Tryd.ntmps82
    go_wp2_with (first | (go_at_call 121; refine (Tryd.internal_strconv_numDigits u hu1 hu64 _ (Lib.tabIs_alloc htab _)).mono ?_; rintro e w' ⟨rfl, rfl⟩))
    go_at_call 122
    refine hfmt.mono ?_
    rintro e w' ⟨rfl, k, v', dk, rfl, hF⟩
    have hcv : (convert 22 9 (.slice (some ⟨w.heap.size, 0, none⟩) (Lib.nDigits u) 24)).run Tryd.prog ((putRow (fun (b : UInt8) => Value.int .u8 (b.toNat : Int)) (w.alloc (.cells Lib.zeros24 171)) w.heap.size 0 dk).drewN k) = .ok (.string ⟨(Lib.decDigits u).toArray⟩) ((putRow (fun (b : UInt8) => Value.int .u8 (b.toNat : Int)) (w.alloc (.cells Lib.zeros24 171)) w.heap.size 0 dk).drewN k) := by
      have h := run_convert_bytes_back (P := Tryd.prog) ((putRow (fun (b : UInt8) => Value.int .u8 (b.toNat : Int)) (w.alloc (.cells Lib.zeros24 171)) w.heap.size 0 dk).drewN k) 22 9 5 ⟨w.heap.size, 0, none⟩ 24 (Lib.decDigits u) Tryd.underlying22 Tryd.underlying5 Tryd.underlying9 (fun j hj => by
        rw [Lib.row_is_numeral hF j hj, Lib.add_plain, World.cell?_drewN]
        exact cell?_putRow (fun (b : UInt8) => Value.int .u8 (b.toNat : Int)) _ w.heap.size 0 _ dk HH0.out (by rw [hF.size, Array.size_replicate]) j (by rw [hF.size]; rw [Lib.decDigits_length] at hj; exact hj))
      rw [Lib.decDigits_length] at h
      exact h
    go_wp2
    go_ret
    obtain ⟨os, eo⟩ := Lib.fin_at w (.cells Lib.zeros24 171) dk k 0
    exact ⟨rfl, by rw [eo]; exact grow_below w k os⟩
theorem FormatUint_calls (u : Nat) (w : World) (hu64 : u < 18446744073709551616) (hL : LaidW w) :
    Calls Tryd.prog 49 #[.int .u64 (u : Int), .int .i64 10] w fun e w' => e = .returned (.string (str (Lib.decDigits u))) ∧ Below w.heap.size w w' := by
  have hc := Lib.hid (FormatUint82_calls u w hu64 hL)
  clear hL
  go_enter Tryd.func49, Tryd.ntmps49
  go_wp2_with (go_at_call 82; refine hc.out.mono ?_; rintro e w1 ⟨rfl, hb1⟩)
  go_ret
  exact ⟨rfl, hb1⟩
theorem digits51_calls (A : Option Addr) (n c : Nat) (xs : List UInt8) (w : World) (h : RdB w A n c xs) (hn : n ≤ 1000000) :
    Calls Tryd.prog 51 #[.slice A n c] w fun e w' => e = .returned (.string (str (dotL (hexL xs)))) ∧ Below w.heap.size w w' := by
  by_cases h0 : xs = []
  · have hn0 : n = 0 := by rw [← h.1, h0]; rfl
    have hR : Hid (dotL (hexL xs) = [46]) := by rw [h0]; trivial
    subst hn0
    clear h h0
    go_enter Tryd.func51, Tryd.ntmps51
    go_wp2
    go_ret
    exact ⟨by rw [hR.out]; rfl, Below.refl _ _⟩
  · have hpos := List.length_pos_iff.2 h0
    have hn1 : ¬ (n : Int) = 0 := by have := h.1; omega
    have hn2 : ((n : Int) == 0) = false := by rw [beq_eq_false_iff_ne]; exact hn1
    have hR : Hid (dotL (hexL xs) = hexL xs) := by
      unfold dotL
      rw [if_neg (fun e => by have := hexL_length xs; rw [e] at this; simp at this; omega)]
      trivial
    have hc := Lib.hid (Hex_calls A n c xs w h (by omega))
    clear h h0 hpos
    go_enter Tryd.func51, Tryd.ntmps51
    go_wp2_with (go_at_call 48; refine hc.out.mono ?_; rintro e w1 ⟨rfl, hb1⟩)
    go_ret
    exact ⟨by rw [hR.out]; rfl, hb1⟩
end Go.Proofs.YtfjfjjcdlgdbcaaDoor
