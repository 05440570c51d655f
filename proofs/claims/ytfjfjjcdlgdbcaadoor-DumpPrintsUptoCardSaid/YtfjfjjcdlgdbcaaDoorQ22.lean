/- the texts D28, D30 of this proof, one behind the other -/
import Derived.Test.YtfjfjjcdlgdbcaaDoorQ21
namespace Go.Proofs.YtfjfjjcdlgdbcaaDoor
open Go.RowKit
set_option linter.unusedSimpArgs false
set_option linter.unusedVariables false

/-- the account that known prints -/
def kE : EntP := ⟨1 :: List.replicate 19 0, 0, List.replicate 30 0 ++ [1, 0], [], []⟩
def kT : List UInt8 := [97, 99, 99, 111, 117, 110, 116, 32, 48, 49, 48, 48, 48, 48, 48, 48, 48, 48, 48, 48, 48, 48, 48, 48, 48, 48, 48, 48, 48, 48, 48, 48, 48, 48, 48, 48, 48, 48, 48, 48, 48, 48, 48, 48, 48, 48, 48, 48, 32, 48, 32, 50, 53, 54, 32, 46, 10]
theorem kE_fit : kE.Fit := ⟨by decide, by show 0 < 18446744073709551616; omega, by decide, fun h hh => by cases hh⟩
theorem kE_print : dprintV [kE] = .tuple #[.string (str kT), .int .i64 0] := by
  have h1 : checkB [kE] = true := by decide +kernel
  have h2 : dumpL [kE] = kT := by decide +kernel
  unfold dprintV chkV
  rw [h1, h2]
  rfl
theorem kX_parse : parseGo [] 0 (linesL [120, 10]) = .inr 0 := by kernel_rfl
theorem kE_rd (w : World) : RdE (w.alloc (.cells (ek kE (.slice none 0 0) (.slice none 0 0)) 79)) (some ⟨w.heap.size, 0, none⟩) 1 1 [kE] := by
  refine ⟨rfl, Nat.le_refl _, by unfold maxLen; omega, fun _ => ⟨w.heap.size, 0, rfl, fun j e hj => ?_⟩⟩
  have hjl : j < 1 := (List.getElem?_eq_some_iff.1 hj).1
  obtain rfl : j = 0 := by omega
  obtain rfl : kE = e := by simpa using hj
  exact ⟨none, 0, 0, none, 0, 0, cellsAt_blk (Blk.new _ _ _), kE_fit, ⟨rfl, Nat.le_refl _, by unfold maxLen; omega, fun h => absurd h (by omega)⟩, ⟨rfl, Nat.le_refl _, by unfold maxLen; omega, fun h => absurd h (by omega)⟩⟩
theorem wpList_buildSlice1 {P : Program} {ops : Array Oper} {rest : List Oper} {o : Oper} {a : Act} {w : World} {Q : Exit → Act → World → Prop} (hgd : o.guard = none) (t e : TypeId) (k : Nat) (x : Operand) (ho : o.op = .buildSlice t 1 #[(0, x)]) (cs : Array Value) (hx : a.eval x = .agg cs)
    (ht : P.underlying t = some (.slice e)) (he : AggT P e k) (hz : ((P.info? e).bind (·.zero)).isSome = true) (hs : cs.size = k) (hk : k ≤ 1000) (hk0 : 0 < k)
    (h : wpList P ops Q rest (a.put o.dst (.slice (some ⟨w.heap.size, 0, none⟩) 1 1)) (w.alloc (.cells cs e))) : wpList P ops Q (o :: rest) a w :=
  wpList_plain hgd fun K hK => by
    unfold Oper.wp execOp
    simp only [ho, List.map_toArray, List.map_cons, List.map_nil, hx, Sem.run_bind, Sem.run_pure, Result.andThen_ok, run_buildSlice1 w t e k cs ht he hz hs hk hk0]
    exact hK _ _ h
def kA : Array Value := (bvs (1 :: List.replicate 19 0)).toArray
def kB : Array Value := (bvs (List.replicate 30 0 ++ [1, 0])).toArray
set_option maxRecDepth 100000 in
set_option maxHeartbeats 2000000 in
theorem known26_calls (w : World) (hL : LaidW w) : Calls Tryd.prog 26 #[] w fun e w' => e = .returned (.bool true) ∧ Below w.heap.size w w' := by
  have hal : Hid (Below w.heap.size w (w.alloc (.cells (ek kE (.slice none 0 0) (.slice none 0 0)) 79))) := al (Below.refl _ _) _
  have hp := DPrint_calls (some ⟨w.heap.size, 0, none⟩) 1 1 [kE] _ (kE_rd w) (hL.below hal.out) ⟨by decide, by intro e he; obtain rfl := List.mem_singleton.1 he; exact ⟨by decide, by decide⟩⟩
  rw [kE_print] at hp
  have HP := Lib.hid hp
  have HX : Hid (∀ W, Below w.heap.size w W → Calls Tryd.prog 30 #[.string (str [120, 10])] W fun e w' => e = .returned (.tuple #[.slice none 0 0, .int .i64 0, .int .i64 241]) ∧ Below W.heap.size W w') := fun W hW =>
    (Parse_calls [120, 10] W (by decide) (hL.below hW)).mono fun e w' ⟨h1, h2⟩ => by
      rw [kX_parse] at h2
      exact ⟨h2, h1⟩
  have e1 : (⟨#[97, 99, 99, 111, 117, 110, 116, 32, 48, 49, 48, 48, 48, 48, 48, 48, 48, 48, 48, 48, 48, 48, 48, 48, 48, 48, 48, 48, 48, 48, 48, 48, 48, 48, 48, 48, 48, 48, 48, 48, 48, 48, 48, 48, 48, 48, 48, 48, 32, 48, 32, 50, 53, 54, 32, 46, 10]⟩ : ByteArray) = str kT := rfl
  have e2 : (⟨#[120, 10]⟩ : ByteArray) = str [120, 10] := rfl
  clear hp hL
  go_enter Tryd.func26, Tryd.ntmps26
  rw [e1, e2]
  clear e1 e2
  generalize str kT = kt at *
  generalize str [120, 10] = xt at *
  go_wp2_with (first | (refine wpList_build (o := ⟨some 7, _, _, _, _, _⟩) rfl 60 _ rfl (.agg kA) (by kernel_rfl) ?_) | (refine wpList_build (o := ⟨some 8, _, _, _, _, _⟩) rfl 61 _ rfl (.agg kB) (by kernel_rfl) ?_) | (refine wpList_build (o := ⟨some 9, _, _, _, _, _⟩) rfl 79 _ rfl (.agg (ek kE (.slice none 0 0) (.slice none 0 0))) (by kernel_rfl) ?_) | (refine wpList_buildSlice1 (o := ⟨some 10, _, _, _, _, _⟩) rfl 47 79 55 (.tmp 9) rfl (ek kE (.slice none 0 0) (.slice none 0 0)) rfl Tryd.underlying47 Tryd.agg79 (by kernel_rfl) (by decide) (by omega) (by omega) ?_) | (go_at_call 28; refine HP.out.mono ?_; rintro e w1 ⟨rfl, hb1⟩) | (go_at_call 30; refine (HX.out _ (thn hal.out hb1)).mono ?_; rintro e w2 ⟨rfl, hb2⟩))
  go_ret
  exact ⟨by simp, thn (thn hal.out hb1) hb2⟩
end Go.Proofs.YtfjfjjcdlgdbcaaDoor
namespace Go.Proofs.YtfjfjjcdlgdbcaaDoor
open Go.RowKit
set_option linter.unusedSimpArgs false
set_option linter.unusedVariables false

theorem dprintV_eq (es : List EntP) : ∃ (t : List UInt8) (v : Int), dprintV es = .tuple #[.string (str t), .int .i64 v] := ⟨_, _, rfl⟩
set_option maxRecDepth 100000 in
set_option maxHeartbeats 2000000 in
theorem dumpPrints_walk (A : Option Addr) (n c : Nat) (es : List EntP) (w : World) (h : RdE w A n c es) (hS : BulkE es) (hL : LaidW w) :
    Calls Tryd.prog 6 #[.slice A n c] w fun e w' => e = .returned (.bool true) ∧ Below w.heap.size w w' := by
  have HK := Lib.hid (known26_calls w hL)
  have H := Lib.hid h
  have HF := Lib.hid (fun W (hW : Below w.heap.size w W) => few27_calls A n c es W (h.below hW) hS)
  have HLL := Lib.hid hL
  clear h hS hL
  go_enter Tryd.func6, Tryd.ntmps6
  go_wp2_with (go_at_call 26; refine HK.out.mono ?_; rintro e w1 ⟨rfl, hb1⟩)
  refine (HF.out w1 hb1).mono ?_
  rintro e w2 ⟨⟨b, rfl, hfew⟩, hb2⟩
  have hb02 := thn hb1 hb2
  cases b with
  | false =>
    go_wp2
    go_ret
    exact ⟨rfl, hb02⟩
  | true =>
    have HFW := Lib.hid (hfew rfl)
    obtain ⟨t, v, hp⟩ := dprintV_eq es
    have HD : Hid (∀ W, Below w.heap.size w W → Calls Tryd.prog 28 #[.slice A n c] W fun e w' => e = .returned (.tuple #[.string (str t), .int .i64 v]) ∧ Below W.heap.size W w') := fun W hW => by
      have := DPrint_calls A n c es W (H.out.below hW) (HLL.out.below hW) HFW.out
      rw [hp] at this
      exact this
    have HR : Hid (∀ W, Below w.heap.size w W → Calls Tryd.prog 29 #[.slice A n c] W fun e w' => e = .returned (.tuple #[.string (str t), .int .i64 v]) ∧ Below W.heap.size W w') := fun W hW => by
      have := RPrint_calls A n c es W (H.out.below hW) HFW.out
      rw [hp] at this
      exact this
    clear hfew hp
    generalize str t = ts at *
    go_wp2_with (first | (go_at_call 28; refine (HD.out _ hb02).mono ?_; rintro e w3 ⟨rfl, hb3⟩) | (go_at_call 29; refine (HR.out _ (thn hb02 hb3)).mono ?_; rintro e w4 ⟨rfl, hb4⟩))
    go_ret
    exact ⟨by simp, thn (thn hb02 hb3) hb4⟩
end Go.Proofs.YtfjfjjcdlgdbcaaDoor
