/- the texts D28, D34, D32, D35, D35S, D38, D39P of this proof, one behind the other -/
import Derived.Test.YtfjfjjcdlgdbcaaDoorG17
import Derived.ArgAppend
import Derived.DeepKeys
namespace Go.Proofs.YtfjfjjcdlgdbcaaDoor
open Go.RowKit
set_option linter.unusedSimpArgs false
set_option linter.unusedVariables false

/-- the account that known prints -/
def kE : EntP := ⟨1 :: List.replicate 19 0, 0, List.replicate 30 0 ++ [1, 0], [], []⟩
def kT : List UInt8 := [97, 99, 99, 111, 117, 110, 116, 32, 48, 49, 48, 48, 48, 48, 48, 48, 48, 48, 48, 48, 48, 48, 48, 48, 48, 48, 48, 48, 48, 48, 48, 48, 48, 48, 48, 48, 48, 48, 48, 48, 48, 48, 48, 48, 48, 48, 48, 48, 32, 48, 32, 50, 53, 54, 32, 46, 10]
theorem kE_fit : kE.Fit := ⟨by decide, by show 0 < 18446744073709551616; omega, by decide, fun h hh => by cases hh⟩
theorem kE_print : dprintV [kE] = .tuple #[.string (str kT), .int .i64 0] := by
  have h1 : checkB [kE] = true := by decide +kernel
  have h2 : dumpL [kE] = kT := by decide +kernel
  unfold dprintV chkV
  rw [h1, h2]
  rfl
theorem kX_parse : parseGo [] 0 (linesL [120, 10]) = .inr 0 := by kernel_rfl
theorem kE_rd (w : World) : RdE (w.alloc (.cells (ek kE (.slice none 0 0) (.slice none 0 0)) 79)) (some ⟨w.heap.size, 0, none⟩) 1 1 [kE] := by
  refine ⟨rfl, Nat.le_refl _, by unfold maxLen; omega, fun _ => ⟨w.heap.size, 0, rfl, fun j e hj => ?_⟩⟩
  have hjl : j < 1 := (List.getElem?_eq_some_iff.1 hj).1
  obtain rfl : j = 0 := by omega
  obtain rfl : kE = e := by simpa using hj
  exact ⟨none, 0, 0, none, 0, 0, cellsAt_blk (Blk.new _ _ _), kE_fit, ⟨rfl, Nat.le_refl _, by unfold maxLen; omega, fun h => absurd h (by omega)⟩, ⟨rfl, Nat.le_refl _, by unfold maxLen; omega, fun h => absurd h (by omega)⟩⟩
theorem wpList_buildSlice1 {P : Program} {ops : Array Oper} {rest : List Oper} {o : Oper} {a : Act} {w : World} {Q : Exit → Act → World → Prop} (hgd : o.guard = none) (t e : TypeId) (k : Nat) (x : Operand) (ho : o.op = .buildSlice t 1 #[(0, x)]) (cs : Array Value) (hx : a.eval x = .agg cs)
    (ht : P.underlying t = some (.slice e)) (he : AggT P e k) (hz : ((P.info? e).bind (·.zero)).isSome = true) (hs : cs.size = k) (hk : k ≤ 1000) (hk0 : 0 < k)
    (h : wpList P ops Q rest (a.put o.dst (.slice (some ⟨w.heap.size, 0, none⟩) 1 1)) (w.alloc (.cells cs e))) : wpList P ops Q (o :: rest) a w :=
  wpList_plain hgd fun K hK => by
    unfold Oper.wp execOp
    simp only [ho, List.map_toArray, List.map_cons, List.map_nil, hx, Sem.run_bind, Sem.run_pure, Result.andThen_ok, run_buildSlice1 w t e k cs ht he hz hs hk hk0]
    exact hK _ _ h
def kA : Array Value := (bvs (1 :: List.replicate 19 0)).toArray
def kB : Array Value := (bvs (List.replicate 30 0 ++ [1, 0])).toArray
set_option maxRecDepth 100000 in
set_option maxHeartbeats 2000000 in
theorem known26_calls (w : World) (hL : LaidW w) : Calls Tryd.prog 26 #[] w fun e w' => e = .returned (.bool true) ∧ Below w.heap.size w w' := by
  have hal : Hid (Below w.heap.size w (w.alloc (.cells (ek kE (.slice none 0 0) (.slice none 0 0)) 79))) := al (Below.refl _ _) _
  have hp := DPrint_calls (some ⟨w.heap.size, 0, none⟩) 1 1 [kE] _ (kE_rd w) (hL.below hal.out) ⟨by decide, by intro e he; obtain rfl := List.mem_singleton.1 he; exact ⟨by decide, by decide⟩⟩
  rw [kE_print] at hp
  have HP := Lib.hid hp
  have HX : Hid (∀ W, Below w.heap.size w W → Calls Tryd.prog 30 #[.string (str [120, 10])] W fun e w' => e = .returned (.tuple #[.slice none 0 0, .int .i64 0, .int .i64 241]) ∧ Below W.heap.size W w') := fun W hW =>
    (Parse_calls [120, 10] W (by decide) (hL.below hW)).mono fun e w' ⟨h1, h2⟩ => by
      rw [kX_parse] at h2
      exact ⟨h2, h1⟩
  have e1 : (⟨#[97, 99, 99, 111, 117, 110, 116, 32, 48, 49, 48, 48, 48, 48, 48, 48, 48, 48, 48, 48, 48, 48, 48, 48, 48, 48, 48, 48, 48, 48, 48, 48, 48, 48, 48, 48, 48, 48, 48, 48, 48, 48, 48, 48, 48, 48, 48, 48, 32, 48, 32, 50, 53, 54, 32, 46, 10]⟩ : ByteArray) = str kT := rfl
  have e2 : (⟨#[120, 10]⟩ : ByteArray) = str [120, 10] := rfl
  clear hp hL
  go_enter Tryd.func26, Tryd.ntmps26
  rw [e1, e2]
  clear e1 e2
  generalize str kT = kt at *
  generalize str [120, 10] = xt at *
  go_wp2_with (first | (refine wpList_build (o := ⟨some 7, _, _, _, _, _⟩) rfl 60 _ rfl (.agg kA) (by kernel_rfl) ?_) | (refine wpList_build (o := ⟨some 8, _, _, _, _, _⟩) rfl 61 _ rfl (.agg kB) (by kernel_rfl) ?_) | (refine wpList_build (o := ⟨some 9, _, _, _, _, _⟩) rfl 79 _ rfl (.agg (ek kE (.slice none 0 0) (.slice none 0 0))) (by kernel_rfl) ?_) | (refine wpList_buildSlice1 (o := ⟨some 10, _, _, _, _, _⟩) rfl 47 79 55 (.tmp 9) rfl (ek kE (.slice none 0 0) (.slice none 0 0)) rfl Tryd.underlying47 Tryd.agg79 (by kernel_rfl) (by decide) (by omega) (by omega) ?_) | (go_at_call 28; refine HP.out.mono ?_; rintro e w1 ⟨rfl, hb1⟩) | (go_at_call 30; refine (HX.out _ (thn hal.out hb1)).mono ?_; rintro e w2 ⟨rfl, hb2⟩))
  go_ret
  exact ⟨by simp, thn (thn hal.out hb1) hb2⟩
end Go.Proofs.YtfjfjjcdlgdbcaaDoor
namespace Go.Proofs.YtfjfjjcdlgdbcaaDoor
open Go.RowKit
set_option linter.unusedSimpArgs false
set_option linter.unusedVariables false

theorem getD_left {α : Type} (a b : List α) (i : Nat) (d : α) (h : i < a.length) : (a ++ b).getD i d = a.getD i d := by
  rw [List.getD_eq_getElem?_getD, List.getD_eq_getElem?_getD, List.getElem?_append_left h]
theorem getD_at {α : Type} (a : List α) (x d : α) : (a ++ [x]).getD a.length d = x := by
  rw [List.getD_eq_getElem?_getD, List.getElem?_append_right (Nat.le_refl _), Nat.sub_self]; rfl
theorem all_range_congr (p q : Nat → Bool) (n : Nat) (h : ∀ i, i < n → p i = q i) : (List.range n).all p = (List.range n).all q := by
  rw [Bool.eq_iff_iff, List.all_eq_true, List.all_eq_true]
  constructor
  · intro hh i hi; rw [← h i (List.mem_range.1 hi)]; exact hh i hi
  · intro hh i hi; rw [h i (List.mem_range.1 hi)]; exact hh i hi
theorem slotsB_nil : slotsB [] = true := rfl
theorem slotsB_snoc (hs : List (List UInt8 × List UInt8)) (h : List UInt8 × List UInt8) : slotsB (hs ++ [h]) = (slotsB hs && holdsB (hs ++ [h]) hs.length) := by
  unfold slotsB
  rw [show (hs ++ [h]).length = hs.length + 1 by simp, range_all_succ]
  congr 1
  apply all_range_congr
  intro i hi
  unfold holdsB
  rw [getD_left hs [h] i _ hi]
  by_cases h0 : i = 0
  · subst h0; simp
  · rw [getD_left hs [h] (i - 1) _ (by omega)]
theorem goodB_left (es r : List EntP) (i : Nat) (hi : i < es.length) : goodB (es ++ r) i = goodB es i := by
  unfold goodB risesB
  rw [getD_left es r i _ hi]
  by_cases h0 : i = 0
  · subst h0; simp
  · rw [getD_left es r (i - 1) _ (by omega)]
theorem checkB_snoc (es : List EntP) (e : EntP) : checkB (es ++ [e]) = (checkB es && (risesB (es ++ [e]) es.length && slotsB e.slots)) := by
  unfold checkB
  rw [show (es ++ [e]).length = es.length + 1 by simp, range_all_succ]
  congr 1
  · exact all_range_congr _ _ _ fun i hi => goodB_left es [e] i hi
  · unfold goodB
    rw [getD_at]
theorem rises_slots (es : List EntP) (e : EntP) (hs : List (List UInt8 × List UInt8)) : risesB (es ++ [{ e with slots := hs }]) es.length = risesB (es ++ [e]) es.length := by
  unfold risesB
  rw [getD_at, getD_at]
  by_cases h0 : es.length = 0
  · rw [h0]; simp
  · rw [getD_left es _ (es.length - 1) _ (by omega), getD_left es _ (es.length - 1) _ (by omega)]
/-- one line more, as the document tells it -/
def lineO (es : List EntP) (x : List UInt8) : Option (List EntP) :=
  match accL (splitL 32 x) with
  | some e => if checkB (es ++ [e]) = true then some (es ++ [e]) else none
  | none => match slotL (splitL 32 x) with
    | none => none
    | some h => match es.getLast? with
      | none => none
      | some e => if checkB (es.dropLast ++ [{ e with slots := e.slots ++ [h] }]) = true then some (es.dropLast ++ [{ e with slots := e.slots ++ [h] }]) else none
theorem lineO_step (es : List EntP) (x : List UInt8) (hc : checkB es = true) : lineO es x = stepL es (x, true) ∧ ∀ es', lineO es x = some es' → checkB es' = true := by
  unfold lineO stepL
  simp only
  cases ha : accL (splitL 32 x) with
  | some e =>
    simp only
    have hs := accL_slots _ e ha
    rw [checkB_snoc, hc, hs, slotsB_nil]
    simp only [Bool.true_and, Bool.and_true, true_and]
    intro es' h
    split at h
    · rename_i h1
      obtain rfl := Option.some.inj h
      rw [checkB_snoc, hc, hs, slotsB_nil, h1]; rfl
    · cases h
  | none =>
    simp only
    cases hl : slotL (splitL 32 x) with
    | none => simp
    | some h =>
      simp only
      cases hla : es.getLast? with
      | none => simp
      | some e =>
        simp only
        have hne : es ≠ [] := by intro e0; rw [e0] at hla; cases hla
        have hd : es.dropLast ++ [e] = es := by
          have h1 := List.dropLast_concat_getLast hne
          have h2 : es.getLast hne = e := by
            rw [List.getLast?_eq_some_getLast hne] at hla
            exact Option.some.inj hla
          rw [h2] at h1
          exact h1
        have hc2 := hc
        rw [← hd, checkB_snoc] at hc2
        simp only [Bool.and_eq_true] at hc2
        have key : checkB (es.dropLast ++ [{ e with slots := e.slots ++ [h] }]) = holdsB (e.slots ++ [h]) e.slots.length := by
          rw [checkB_snoc, rises_slots, slotsB_snoc, hc2.1, hc2.2.1, hc2.2.2]
          simp
        rw [key]
        simp only [true_and]
        intro es' hh
        split at hh
        · rename_i h1
          obtain rfl := Option.some.inj hh
          rw [key, h1]
        · cases hh

/-! lines -/
theorem splitL_app (c : UInt8) : ∀ (a b : List UInt8), splitL c (a ++ c :: b) = splitL c a ++ splitL c b
  | [], b => by simp [splitL]
  | x :: a, b => by
    rw [List.cons_append, splitL, splitL_app c a b, splitL]
    split
    · rfl
    · cases hs : splitL c a with
      | nil => exact absurd hs (splitL_ne c a)
      | cons p ps => rfl
theorem linesP_app : ∀ (o ps : List (List UInt8)), ps ≠ [] → linesP (o ++ ps) = o.map (·, true) ++ linesP ps
  | [], ps, _ => rfl
  | p :: o, ps, h => by
    have hne : o ++ ps ≠ [] := by simp [h]
    rw [List.cons_append]
    cases hq : o ++ ps with
    | nil => exact absurd hq hne
    | cons q qs =>
      rw [linesP, ← hq, linesP_app o ps h]
      rfl
theorem lines_mid {s : List UInt8} {k f : Nat} {o : List (List UInt8)} (h : Cut 10 s k f o) (hk : k < s.length) (hb : s.getD k 0 = 10) : ∃ rest, linesL s = o.map (·, true) ++ ((s.take k).drop f, true) :: rest := by
  have hs : s = s.take k ++ 10 :: s.drop (k + 1) := by
    have h1 : s.drop k = s.getD k 0 :: s.drop (k + 1) := by
      rw [List.drop_eq_getElem_cons hk, List.getD_eq_getElem?_getD, List.getElem?_eq_getElem hk]; rfl
    rw [hb] at h1
    rw [← h1, List.take_append_drop]
  have e : splitL 10 s = (o ++ [(s.take k).drop f]) ++ splitL 10 (s.drop (k + 1)) := by
    conv => lhs; rw [hs]
    rw [splitL_app, h.hs]
  refine ⟨linesP (splitL 10 (s.drop (k + 1))), ?_⟩
  unfold linesL
  rw [e, linesP_app _ _ (splitL_ne 10 _), List.map_append, List.append_assoc]
  rfl
theorem lines_end {s : List UInt8} {f : Nat} {o : List (List UInt8)} (h : Cut 10 s s.length f o) : linesL s = o.map (·, true) ++ (if s.drop f = [] then [] else [(s.drop f, false)]) := by
  unfold linesL
  rw [h.end_, linesP_app _ _ (by simp)]
  rfl
theorem stepL_part (es : List EntP) (x : List UInt8) : stepL es (x, false) = none := by
  unfold stepL
  simp only
  cases accL (splitL 32 x) with
  | some e => simp
  | none =>
    simp only
    cases slotL (splitL 32 x) with
    | none => rfl
    | some h =>
      simp only
      cases es.getLast? with
      | none => rfl
      | some e => simp
/-- what is told at a line that can't be -/
theorem parse_bad {s : List UInt8} {k f : Nat} {o : List (List UInt8)} {es : List EntP} (h : Cut 10 s k f o) (hk : k < s.length) (hb : s.getD k 0 = 10) (hl : linesTo (o.map (·, true)) = some es) (hn : stepL es ((s.take k).drop f, true) = none) : parseGo [] 0 (linesL s) = .inr o.length := by
  obtain ⟨rest, e⟩ := lines_mid h hk hb
  have := parseGo_stop s (o.map (·, true)) rest _ es e hl hn
  rw [this, List.length_map]
theorem parse_open {s : List UInt8} {f : Nat} {o : List (List UInt8)} {es : List EntP} (h : Cut 10 s s.length f o) (hf : f < s.length) (hl : linesTo (o.map (·, true)) = some es) : parseGo [] 0 (linesL s) = .inr o.length := by
  have e := lines_end h
  have hd : s.drop f ≠ [] := by
    intro e0
    have := congrArg List.length e0
    rw [List.length_drop] at this
    simp at this
    omega
  rw [if_neg hd] at e
  have := parseGo_stop s (o.map (·, true)) [] _ es e hl (stepL_part es _)
  rw [this, List.length_map]
theorem parse_whole {s : List UInt8} {f : Nat} {o : List (List UInt8)} {es : List EntP} (h : Cut 10 s s.length f o) (hf : ¬ f < s.length) (hl : linesTo (o.map (·, true)) = some es) : parseGo [] 0 (linesL s) = .inl es := by
  have e := lines_end h
  have hd : s.drop f = [] := List.drop_eq_nil_of_le (by omega)
  rw [if_pos hd, List.append_nil] at e
  exact parseGo_all s es (by rw [e]; exact hl)
theorem linesTo_more {o : List (List UInt8)} {es es' : List EntP} {x : List UInt8} (hl : linesTo (o.map (·, true)) = some es) (h : stepL es (x, true) = some es') : linesTo ((o ++ [x]).map (·, true)) = some es' := by
  rw [List.map_append, List.map_cons, List.map_nil, linesTo_snoc, hl]
  exact h

/-! what a line's words tell -/
theorem nonce_undec (s : List UInt8) : nonceL s = (undecL s).bind fun n => if n < 18446744073709551616 then some n else none := by
  unfold nonceL undecL
  by_cases h1 : Lib.decDigits (decN s) = s
  · by_cases h2 : decN s < top256
    · by_cases h3 : decN s < 18446744073709551616
      · simp [h1, h2, h3]
      · simp [h1, h2, h3]
    · have h3 : ¬ decN s < 18446744073709551616 := fun h => h2 (Nat.lt_trans h (by unfold top256; decide))
      simp [h1, h2, h3]
  · simp [h1]
/-- an account's words, as the document reads them -/
theorem accL_of (w1 w2 w3 w4 : List UInt8) : accL [accW, w1, w2, w3, w4] =
    if (unhexW w1).2 = true ∧ (unhexW w1).1.length = 20 then
      match undecL w2, undecL w3 with
      | some n, some m => if n < 18446744073709551616 then
          (if w4 = [46] then some ⟨(unhexW w1).1, n, beL m 32, [], []⟩ else if (unhexW w4).2 = true then some ⟨(unhexW w1).1, n, beL m 32, (unhexW w4).1, []⟩ else none) else none
      | _, _ => none
    else none := by
  have hu := undig_unhex w1 20 (by omega)
  have hue := undig_unhex_eq w1 20 (by omega)
  unfold accL
  rw [if_pos (show [accW, w1, w2, w3, w4].length = 5 by rfl)]
  have h5 : accK [accW, w1, w2, w3, w4] 5 = ((((rdW [accW, w1, w2, w3, w4] 0 zE0).bind (rdW [accW, w1, w2, w3, w4] 1)).bind (rdW [accW, w1, w2, w3, w4] 2)).bind (rdW [accW, w1, w2, w3, w4] 3)).bind (rdW [accW, w1, w2, w3, w4] 4) := by
    simp only [accK, Option.bind_some]
  have r0 : rdW [accW, w1, w2, w3, w4] 0 zE0 = some zE0 := by unfold rdW; simp
  rw [h5, r0, Option.bind_some]
  by_cases h1 : (unhexW w1).2 = true ∧ (unhexW w1).1.length = 20
  · rw [if_pos h1]
    have r1 : rdW [accW, w1, w2, w3, w4] 1 zE0 = some { zE0 with addr := (unhexW w1).1 } := by
      unfold rdW
      simp only [List.getD_cons_succ, List.getD_cons_zero]
      rw [if_pos (hu.2 h1), hue h1]
    rw [r1, Option.bind_some]
    have r2 : ∀ e : EntP, rdW [accW, w1, w2, w3, w4] 2 e = (nonceL w2).map fun n => { e with nonce := n } := fun e => by unfold rdW; rfl
    have r3 : ∀ e : EntP, rdW [accW, w1, w2, w3, w4] 3 e = (undecL w3).map fun n => { e with bal := beL n 32 } := fun e => by unfold rdW; rfl
    have r4 : ∀ e : EntP, rdW [accW, w1, w2, w3, w4] 4 e = if (undigL w4).2 = true then some { e with code := (undigL w4).1 } else none := fun e => by unfold rdW; rfl
    rw [r2, nonce_undec]
    cases h2 : undecL w2 with
    | none => rfl
    | some n =>
      simp only [Option.bind_some]
      by_cases h3 : n < 18446744073709551616
      · rw [if_pos h3]
        simp only [Option.map_some, Option.bind_some]
        rw [r3]
        cases h4 : undecL w3 with
        | none => rfl
        | some m =>
          simp only [Option.map_some, Option.bind_some]
          rw [r4, if_pos h3]
          by_cases h5 : w4 = [46]
          · subst h5
            rw [if_pos rfl, undigL, if_pos rfl]
            rfl
          · rw [if_neg h5]
            have hc := undig_code w4 h5
            by_cases h6 : (unhexW w4).2 = true
            · rw [if_pos h6, if_pos (hc.1.2 h6), hc.2 h6]
              rfl
            · rw [if_neg h6, if_neg (fun h => h6 (hc.1.1 h))]
      · rw [if_neg h3]
        simp only [Option.map_none, Option.bind_none]
        cases undecL w3 with
        | none => rfl
        | some m => simp [h3]
  · rw [if_neg h1]
    have r1 : rdW [accW, w1, w2, w3, w4] 1 zE0 = none := by
      unfold rdW
      simp only [List.getD_cons_succ, List.getD_cons_zero]
      rw [if_neg (fun h => h1 (hu.1 h))]
    rw [r1]
    rfl
theorem accL_no (ws : List (List UInt8)) (h : ¬ (ws.length = 5 ∧ ws.getD 0 [] = accW)) : accL ws = none := by
  unfold accL
  by_cases h5 : ws.length = 5
  · rw [if_pos h5]
    have h0 : ¬ ws.getD 0 [] = accW := fun e => h ⟨h5, e⟩
    exact accK_fail ws 0 zE0 (by omega) rfl (by unfold rdW; simp only; rw [if_neg h0])
  · rw [if_neg h5]
theorem slotL_of (w1 w2 : List UInt8) : slotL [slotW, w1, w2] = if ((unhexW w1).2 = true ∧ (unhexW w1).1.length = 32) ∧ ((unhexW w2).2 = true ∧ (unhexW w2).1.length = 32) then some ((unhexW w1).1, (unhexW w2).1) else none := by
  have h1 := undig_unhex w1 32 (by omega)
  have h2 := undig_unhex w2 32 (by omega)
  have e1 := undig_unhex_eq w1 32 (by omega)
  have e2 := undig_unhex_eq w2 32 (by omega)
  unfold slotL
  simp only [List.getD_cons_succ, List.getD_cons_zero, List.length_cons, List.length_nil]
  by_cases h : ((unhexW w1).2 = true ∧ (unhexW w1).1.length = 32) ∧ ((unhexW w2).2 = true ∧ (unhexW w2).1.length = 32)
  · rw [if_pos h, if_pos ⟨by trivial, by trivial, h1.2 h.1, h2.2 h.2⟩, e1 h.1, e2 h.2]
  · rw [if_neg h, if_neg (fun hh => h ⟨h1.1 hh.2.2.1, h2.1 hh.2.2.2⟩)]
theorem slotL_no (ws : List (List UInt8)) (h : ¬ (ws.length = 3 ∧ ws.getD 0 [] = slotW)) : slotL ws = none := by
  unfold slotL
  rw [if_neg (fun hh => h ⟨hh.1, hh.2.1⟩)]
end Go.Proofs.YtfjfjjcdlgdbcaaDoor
namespace Go.Proofs.YtfjfjjcdlgdbcaaDoor
open Go.RowKit
set_option linter.unusedSimpArgs false
set_option linter.unusedVariables false

theorem byte_16 (a : Nat) (ha : a < 16) : IntKind.u8.wrap (16 * (a : Int)) = ((UInt8.ofNat (16 * a)).toNat : Int) := by
  have : ∀ a : Fin 16, IntKind.u8.wrap (16 * (a.val : Int)) = ((UInt8.ofNat (16 * a.val)).toNat : Int) := by decide +kernel
  exact this ⟨a, ha⟩
/-- how far the digits are read -/
def UnhW (s : List UInt8) (wr : World) (B : Nat) (v i : Value) : Prop := ∃ (k : Nat) (out : List UInt8), unhexR (s.take (2 * k)) = some out ∧
  ((2 * k ≤ s.length ∧ i = .int .i64 (2 * (k : Int)) ∧ OwnB wr B v out) ∨
   (2 * k + 1 < s.length ∧ i = .int .i64 (2 * (k : Int) + 1) ∧ halfN (s.getD (2 * k) 0) < 16 ∧ OwnB wr B v (out ++ [UInt8.ofNat (16 * halfN (s.getD (2 * k) 0))])))

set_option maxRecDepth 100000 in
set_option maxHeartbeats 4000000 in
theorem unhex101_odd (s : List UInt8) (w : World) (h : s.length % 2 = 1) (hs : s.length ≤ 100000000) :
    Calls Tryd.prog 101 #[.string (str s)] w fun e w' => (∃ v, e = .returned (.tuple #[v, .bool (unhexW s).2]) ∧ OwnB w' w.heap.size v (unhexW s).1) ∧ Below w.heap.size w w' := by
  have hsz : (str s).size = s.length := rfl
  have hq : unhexW s = ([], false) := by unfold unhexW; rw [if_pos (.inl h)]
  rw [hq]
  have hm : (s.length : Int) % 2 = 1 := by omega
  go_enter Tryd.func101, Tryd.ntmps101
  go_wp2
  go_ret2
  exact ⟨⟨_, rfl, OwnB.nil _ _⟩, Below.refl _ _⟩

set_option maxRecDepth 100000 in
set_option maxHeartbeats 4000000 in
theorem unhex101_nil (w : World) :
    Calls Tryd.prog 101 #[.string (str [])] w fun e w' => (∃ v, e = .returned (.tuple #[v, .bool (unhexW []).2]) ∧ OwnB w' w.heap.size v (unhexW []).1) ∧ Below w.heap.size w w' := by
  have hsz : (str []).size = 0 := rfl
  have hq : unhexW [] = ([], false) := by unfold unhexW; rw [if_pos (.inr rfl)]
  rw [hq]
  go_enter Tryd.func101, Tryd.ntmps101
  go_wp2
  go_ret2
  exact ⟨⟨_, rfl, OwnB.nil _ _⟩, Below.refl _ _⟩

set_option maxRecDepth 100000 in
set_option maxHeartbeats 8000000 in
theorem unhex101_even (s : List UInt8) (w : World) (h : s.length % 2 = 0) (h0 : 0 < s.length) (hs : s.length ≤ 100000000) :
    Calls Tryd.prog 101 #[.string (str s)] w fun e w' => (∃ v, e = .returned (.tuple #[v, .bool (unhexW s).2]) ∧ OwnB w' w.heap.size v (unhexW s).1) ∧ Below w.heap.size w w' := by
  have hsz : (str s).size = s.length := rfl
  have hm : (s.length : Int) % 2 = 0 := by omega
  have h0q : ((s.length : Int) == 0) = false := by rw [beq_eq_false_iff_ne]; omega
  have h0p : ¬ (s.length : Int) = 0 := by omega
  have HE := Lib.hid h
  have H0 := Lib.hid h0
  clear h
  go_enter Tryd.func101, Tryd.ntmps101
  go_wp2
  clear hm h0q h0p h0
  go_loopw [4, 5] (fun v i wr => Below w.heap.size w wr ∧ UnhW s wr w.heap.size v i) (fun _ i _ => s.length + 2 - (intOf i).toNat)
  case atStart => exact ⟨Below.refl _ _, 0, [], rfl, .inl ⟨by omega, rfl, OwnB.nil _ _⟩⟩
  case round =>
    obtain ⟨hb, k, out, hu, hrel⟩ := hrel
    have hbs := hb.size
    have HB := Lib.hid hb
    have HU := Lib.hid hu
    clear hu hb
    rcases hrel with ⟨hk, rfl, ho⟩ | ⟨hk, rfl, hh, ho⟩
    · by_cases hlt : 2 * k < s.length
      · have hltI : (2 : Int) * (k : Int) < (s.length : Int) := by omega
        have hlt1 : 2 * k + 1 < s.length := by have := HE.out; omega
        have hm2 : (2 * (k : Int)) % 2 = 0 := by omega
        have hol := unhexR_len _ _ _ (Nat.le_refl _) HU.out
        rw [List.length_take] at hol
        have hg0 : s[2 * k]? = some (s.getD (2 * k) 0) := by rw [List.getD_eq_getElem?_getD, List.getElem?_eq_getElem hlt]; rfl
        have hi0 := fun W => idx_strs (P := Tryd.prog) s (2 * k) _ hg0 W Tryd.underlying9
        simp only [Int.natCast_mul, Int.cast_ofNat_Int] at hi0
        have HO := Lib.hid ho
        have hbad := Lib.hid (fun h => unhexW_bad s out k hlt1 HU.out (fun hh => absurd hh.1 h))
        clear hg0 ho
        have HH := Lib.hid (halfN_is (s.getD (2 * k) 0))
        generalize hcc : s.getD (2 * k) 0 = c at *
        have HCC := Lib.hid hcc
        clear hcc
        rcases HH.out with ⟨c1, c2, c3⟩ | ⟨c1, c2, c3⟩ | ⟨c1, c3⟩
        · obtain ⟨d, hd⟩ : ∃ d, c.toNat = 48 + d := ⟨c.toNat - 48, by omega⟩
          rw [hd, show 48 + d - 48 = d by omega] at c3
          rw [hd] at hi0
          have hd9 : (0 : Int) ≤ (d : Int) ∧ (d : Int) ≤ 9 := by omega
          have hc16 : halfN c < 16 := by omega
          have HC16 := Lib.hid hc16
          have hby : Hid (16 * (48 + (d : Int) - 48) = ((UInt8.ofNat (16 * d)).toNat : Int)) := by rw [toNat_ofNat' _ (by omega)]; show _ = _; omega
          have HC3 := Lib.hid c3
          simp only [Int.natCast_add, Int.cast_ofNat_Int] at hi0
          clear HH c1 c2 c3 hd hc16 hbad
          go_wp2_with (first | (at_builtin; refine wpList_appendB _ rfl (.tmp 58) (.tmp 62) rfl w.heap.size _ out [UInt8.ofNat (16 * d)] rfl _ _ _ rfl (HO.out.alloc _) (RdB.one _ _ _ _ hby.out) (by omega) (by simp; omega) ?_; intro v2 w3 ho3 hg3 hb3))
          go_roundw
          case rel =>
            exact ⟨(al HB.out _).trans hb3, k, out, HU.out, .inr ⟨hlt1, by go_num, by rw [HCC.out]; exact HC16.out, by rw [HCC.out, HC3.out]; exact ho3⟩⟩
          case measure => simp [intOf]; omega
        · obtain ⟨d, hd⟩ : ∃ d, c.toNat = 97 + d := ⟨c.toNat - 97, by omega⟩
          rw [hd, show 97 + d - 87 = d + 10 by omega] at c3
          rw [hd] at hi0
          have hd9 : (0 : Int) ≤ (d : Int) ∧ (d : Int) ≤ 5 := by omega
          have hc16 : halfN c < 16 := by omega
          have HC16 := Lib.hid hc16
          have hby : Hid (16 * (97 + (d : Int) - 97 + 10) = ((UInt8.ofNat (16 * (d + 10))).toNat : Int)) := by rw [toNat_ofNat' _ (by omega)]; show _ = _; omega
          have h97 : ¬ (97 : Int) + (d : Int) ≤ 57 := by omega
          have HC3 := Lib.hid c3
          simp only [Int.natCast_add, Int.cast_ofNat_Int] at hi0
          clear HH c1 c2 c3 hd hc16 hbad
          go_wp2_with (first | (at_builtin; refine wpList_appendB _ rfl (.tmp 58) (.tmp 62) rfl w.heap.size _ out [UInt8.ofNat (16 * (d + 10))] rfl _ _ _ rfl (HO.out.alloc _) (RdB.one _ _ _ _ hby.out) (by omega) (by simp; omega) ?_; intro v2 w3 ho3 hg3 hb3))
          go_roundw
          case rel =>
            exact ⟨(al HB.out _).trans hb3, k, out, HU.out, .inr ⟨hlt1, by go_num, by rw [HCC.out]; exact HC16.out, by rw [HCC.out, HC3.out]; exact ho3⟩⟩
          case measure => simp [intOf]; omega
        · have HQ := Lib.hid (hbad.out (by omega))
          rcases c1 with c1 | c1 | c1
          · have cI : (c.toNat : Int) < 48 := by omega
            have cN : ¬ (48 : Int) ≤ (c.toNat : Int) := by omega
            have cM : ¬ (97 : Int) ≤ (c.toNat : Int) := by omega
            clear HH c1 c3 hbad
            go_wp2
            go_ret2
            rw [HQ.out]
            exact ⟨⟨_, rfl, OwnB.nil _ _⟩, HB.out⟩
          · have cI : (57 : Int) < (c.toNat : Int) ∧ (c.toNat : Int) < 97 := by omega
            have cN : (48 : Int) ≤ (c.toNat : Int) ∧ ¬ (c.toNat : Int) ≤ 57 := by omega
            have cM : ¬ (97 : Int) ≤ (c.toNat : Int) := by omega
            clear HH c1 c3 hbad
            go_wp2
            go_ret2
            rw [HQ.out]
            exact ⟨⟨_, rfl, OwnB.nil _ _⟩, HB.out⟩
          · have cI : (102 : Int) < (c.toNat : Int) := by omega
            have cN : (48 : Int) ≤ (c.toNat : Int) ∧ ¬ (c.toNat : Int) ≤ 57 := by omega
            have cM : (97 : Int) ≤ (c.toNat : Int) ∧ ¬ (c.toNat : Int) ≤ 102 := by omega
            clear HH c1 c3 hbad
            go_wp2
            go_ret2
            rw [HQ.out]
            exact ⟨⟨_, rfl, OwnB.nil _ _⟩, HB.out⟩
      · have hltI : ¬ (2 : Int) * (k : Int) < (s.length : Int) := by omega
        have HQ := Lib.hid (unhexW_end s out HE.out H0.out k (by omega) HU.out)
        go_wp2
        go_ret2
        rw [HQ.out]
        exact ⟨⟨_, rfl, ho⟩, HB.out⟩
    · have hltI : (2 : Int) * (k : Int) + 1 < (s.length : Int) := by omega
      have hm2 : (2 * (k : Int) + 1) % 2 = 1 := by omega
      have hdv : (2 * (k : Int) + 1) / 2 = (k : Int) := by omega
      have hol := unhexR_size k _ _ (by rw [List.length_take]; omega) HU.out
      have hg0 : s[2 * k + 1]? = some (s.getD (2 * k + 1) 0) := by rw [List.getD_eq_getElem?_getD, List.getElem?_eq_getElem hk]; rfl
      have hi0 := fun W => idx_strs (P := Tryd.prog) s (2 * k + 1) _ hg0 W Tryd.underlying9
      simp only [Int.natCast_add, Int.natCast_mul, Int.cast_ofNat_Int] at hi0
      have hbad := Lib.hid (fun h => unhexW_bad s out k hk HU.out (fun hh => absurd hh.2 h))
      have hgood := Lib.hid (fun h => unhexR_good s out k hk HU.out ⟨hh, h⟩)
      have HHa := Lib.hid hh
      have HH := Lib.hid (halfN_is (s.getD (2 * k + 1) 0))
      obtain ⟨g, cap, rfl, hcap, hcm, hBg, hgl, hcell, hfr, hset⟩ := ho.last
      have hnone : ∀ j : Nat, (⟨g, 0 + j, none⟩ : Addr) = ⟨g, j, none⟩ := fun j => by rw [Nat.zero_add]
      have hki : (0 : Int) ≤ (k : Int) ∧ (k : Int) < (k : Int) + 1 := by omega
      rw [hol] at hcell hfr hset
      have HSET : Hid (∀ b v, v = bv b → OwnB (wr.setCell ⟨g, k, none⟩ v) w.heap.size (.slice (some ⟨g, 0, none⟩) (k + 1) cap) (out ++ [b])) := fun b v e => by rw [e]; exact hset b
      unfold bv at hcell
      generalize s.getD (2 * k) 0 = a at *
      generalize s.getD (2 * k + 1) 0 = c at *
      rw [toNat_ofNat' _ (by have := HHa.out; omega)] at hcell
      have hna : (0 : Int) ≤ (halfN a : Int) ∧ (halfN a : Int) < 16 := by have := HHa.out; omega
      simp only [Int.natCast_mul, Int.cast_ofNat_Int] at hcell
      clear hg0 ho hh hset
      rcases HH.out with ⟨c1, c2, c3⟩ | ⟨c1, c2, c3⟩ | ⟨c1, c3⟩
      · obtain ⟨d, hd⟩ : ∃ d, c.toNat = 48 + d := ⟨c.toNat - 48, by omega⟩
        rw [hd, show 48 + d - 48 = d by omega] at c3
        rw [hd] at hi0
        have hd9 : (0 : Int) ≤ (d : Int) ∧ (d : Int) ≤ 9 := by omega
        have HG := Lib.hid (hgood.out (by omega))
        rw [c3] at HG
        simp only [Int.natCast_add, Int.cast_ofNat_Int] at hi0
        clear HH c1 c2 c3 hd hbad hgood
        have hna2 : halfN a < 16 := HHa.out
        clear HHa
        generalize halfN a = na at *
        go_wp2
        go_roundw
        case rel =>
          refine ⟨HB.out.setCell (by show w.heap.size ≤ g; omega) _, k + 1, out ++ [UInt8.ofNat (16 * na + d)], HG.out, .inl ⟨by omega, by go_num, ?_⟩⟩
          try rw [hol]
          refine HSET.out _ _ ?_
          unfold bv
          rw [toNat_ofNat' _ (by omega)]
          congr 1
          omega
        case measure => simp [intOf]; omega
      · obtain ⟨d, hd⟩ : ∃ d, c.toNat = 97 + d := ⟨c.toNat - 97, by omega⟩
        rw [hd, show 97 + d - 87 = d + 10 by omega] at c3
        rw [hd] at hi0
        have hd9 : (0 : Int) ≤ (d : Int) ∧ (d : Int) ≤ 5 := by omega
        have HG := Lib.hid (hgood.out (by omega))
        have h97 : ¬ (97 : Int) + (d : Int) ≤ 57 := by omega
        rw [c3] at HG
        simp only [Int.natCast_add, Int.cast_ofNat_Int] at hi0
        clear HH c1 c2 c3 hd hbad hgood
        have hna2 : halfN a < 16 := HHa.out
        clear HHa
        generalize halfN a = na at *
        go_wp2
        go_roundw
        case rel =>
          refine ⟨HB.out.setCell (by show w.heap.size ≤ g; omega) _, k + 1, out ++ [UInt8.ofNat (16 * na + (d + 10))], HG.out, .inl ⟨by omega, by go_num, ?_⟩⟩
          try rw [hol]
          refine HSET.out _ _ ?_
          unfold bv
          rw [toNat_ofNat' _ (by omega)]
          congr 1
          omega
        case measure => simp [intOf]; omega
      · have HQ := Lib.hid (hbad.out (by omega))
        rcases c1 with c1 | c1 | c1
        · have cI : (c.toNat : Int) < 48 := by omega
          have cN : ¬ (48 : Int) ≤ (c.toNat : Int) := by omega
          have cM : ¬ (97 : Int) ≤ (c.toNat : Int) := by omega
          clear HH c1 c3 hbad hgood
          go_wp2
          go_ret2
          rw [HQ.out]
          exact ⟨⟨_, rfl, OwnB.nil _ _⟩, HB.out⟩
        · have cI : (57 : Int) < (c.toNat : Int) ∧ (c.toNat : Int) < 97 := by omega
          have cN : (48 : Int) ≤ (c.toNat : Int) ∧ ¬ (c.toNat : Int) ≤ 57 := by omega
          have cM : ¬ (97 : Int) ≤ (c.toNat : Int) := by omega
          clear HH c1 c3 hbad hgood
          go_wp2
          go_ret2
          rw [HQ.out]
          exact ⟨⟨_, rfl, OwnB.nil _ _⟩, HB.out⟩
        · have cI : (102 : Int) < (c.toNat : Int) := by omega
          have cN : (48 : Int) ≤ (c.toNat : Int) ∧ ¬ (c.toNat : Int) ≤ 57 := by omega
          have cM : (97 : Int) ≤ (c.toNat : Int) ∧ ¬ (c.toNat : Int) ≤ 102 := by omega
          clear HH c1 c3 hbad hgood
          go_wp2
          go_ret2
          rw [HQ.out]
          exact ⟨⟨_, rfl, OwnB.nil _ _⟩, HB.out⟩
theorem unhex101_calls (s : List UInt8) (w : World) (hs : s.length ≤ 100000000) :
    Calls Tryd.prog 101 #[.string (str s)] w fun e w' => (∃ v, e = .returned (.tuple #[v, .bool (unhexW s).2]) ∧ OwnB w' w.heap.size v (unhexW s).1) ∧ Below w.heap.size w w' := by
  rcases Nat.mod_two_eq_zero_or_one s.length with h | h
  · rcases Nat.eq_zero_or_pos s.length with h0 | h0
    · obtain rfl := List.eq_nil_of_length_eq_zero h0
      exact unhex101_nil w
    · exact unhex101_even s w h h0 hs
  · exact unhex101_odd s w h hs
end Go.Proofs.YtfjfjjcdlgdbcaaDoor
namespace Go.Proofs.YtfjfjjcdlgdbcaaDoor
open Go.RowKit Go.Shelf
set_option linter.unusedSimpArgs false
set_option linter.unusedVariables false

/-- what words answers, ready to be read -/
theorem words_ready (x : List UInt8) (w : World) (hx : x.length ≤ 1000000) :
    Calls Tryd.prog 100 #[.string (str x)] w fun e w1 => ∃ r c, e = .returned (.slice (some ⟨r, 0, none⟩) (splitL 32 x).length c) ∧ (∀ (j : Nat) s, (splitL 32 x)[j]? = some s → w1.cell? ⟨r, 0 + j, none⟩ = some (.string (str s))) ∧
      r < w1.heap.size ∧ w.heap.size ≤ r ∧ (splitL 32 x).length ≤ c ∧ c ≤ maxLen ∧ Below w.heap.size w w1 :=
  (words100_calls x w hx).mono fun e w1 ⟨⟨v, he, ho⟩, hb⟩ => by
    rcases ho.reads with ⟨_, h0⟩ | ⟨g, c, rfl, h1, h2, h3, h4, h5⟩
    · exact absurd h0 (splitL_ne 32 x)
    · exact ⟨g, c, he, h5, h2, h1, h3, h4, hb⟩
theorem split_small (x : List UInt8) (s : List UInt8) (h : s ∈ splitL 32 x) : s.length ≤ x.length := splitL_part2 32 x s h

theorem list32 {α : Type} (l : List α) (h : l.length = 32) : ∃ a0 a1 a2 a3 a4 a5 a6 a7 a8 a9 a10 a11 a12 a13 a14 a15 a16 a17 a18 a19 a20 a21 a22 a23 a24 a25 a26 a27 a28 a29 a30 a31, l = [a0, a1, a2, a3, a4, a5, a6, a7, a8, a9, a10, a11, a12, a13, a14, a15, a16, a17, a18, a19, a20, a21, a22, a23, a24, a25, a26, a27, a28, a29, a30, a31] := by
  obtain _ | ⟨a0, l⟩ := l
  · simp at h
  obtain _ | ⟨a1, l⟩ := l
  · simp at h
  obtain _ | ⟨a2, l⟩ := l
  · simp at h
  obtain _ | ⟨a3, l⟩ := l
  · simp at h
  obtain _ | ⟨a4, l⟩ := l
  · simp at h
  obtain _ | ⟨a5, l⟩ := l
  · simp at h
  obtain _ | ⟨a6, l⟩ := l
  · simp at h
  obtain _ | ⟨a7, l⟩ := l
  · simp at h
  obtain _ | ⟨a8, l⟩ := l
  · simp at h
  obtain _ | ⟨a9, l⟩ := l
  · simp at h
  obtain _ | ⟨a10, l⟩ := l
  · simp at h
  obtain _ | ⟨a11, l⟩ := l
  · simp at h
  obtain _ | ⟨a12, l⟩ := l
  · simp at h
  obtain _ | ⟨a13, l⟩ := l
  · simp at h
  obtain _ | ⟨a14, l⟩ := l
  · simp at h
  obtain _ | ⟨a15, l⟩ := l
  · simp at h
  obtain _ | ⟨a16, l⟩ := l
  · simp at h
  obtain _ | ⟨a17, l⟩ := l
  · simp at h
  obtain _ | ⟨a18, l⟩ := l
  · simp at h
  obtain _ | ⟨a19, l⟩ := l
  · simp at h
  obtain _ | ⟨a20, l⟩ := l
  · simp at h
  obtain _ | ⟨a21, l⟩ := l
  · simp at h
  obtain _ | ⟨a22, l⟩ := l
  · simp at h
  obtain _ | ⟨a23, l⟩ := l
  · simp at h
  obtain _ | ⟨a24, l⟩ := l
  · simp at h
  obtain _ | ⟨a25, l⟩ := l
  · simp at h
  obtain _ | ⟨a26, l⟩ := l
  · simp at h
  obtain _ | ⟨a27, l⟩ := l
  · simp at h
  obtain _ | ⟨a28, l⟩ := l
  · simp at h
  obtain _ | ⟨a29, l⟩ := l
  · simp at h
  obtain _ | ⟨a30, l⟩ := l
  · simp at h
  obtain _ | ⟨a31, l⟩ := l
  · simp at h
  obtain rfl : l = [] := List.eq_nil_of_length_eq_zero (by simpa using h)
  exact ⟨a0, a1, a2, a3, a4, a5, a6, a7, a8, a9, a10, a11, a12, a13, a14, a15, a16, a17, a18, a19, a20, a21, a22, a23, a24, a25, a26, a27, a28, a29, a30, a31, rfl⟩
theorem built79 (bs : List UInt8) (h : bs.length = 32) : Tryd.prog.built 79 [(2, .agg (bvs bs).toArray)] = some (ek { zE0 with bal := bs } (.slice none 0 0) (.slice none 0 0)) := by
  obtain ⟨a0, a1, a2, a3, a4, a5, a6, a7, a8, a9, a10, a11, a12, a13, a14, a15, a16, a17, a18, a19, a20, a21, a22, a23, a24, a25, a26, a27, a28, a29, a30, a31, rfl⟩ := list32 bs h
  kernel_rfl
theorem wpList_build79 {ops : Array Oper} {rest : List Oper} {o : Oper} {a : Act} {w : World} {Q : Exit → Act → World → Prop} (hgd : o.guard = none) (x : Operand) (ho : o.op = .build 79 #[(2, x)]) (bs : List UInt8) (hb : bs.length = 32) (hx : a.eval x = .agg (bvs bs).toArray)
    (h : wpList Tryd.prog ops Q rest (a.put o.dst (.agg (ek { zE0 with bal := bs } (.slice none 0 0) (.slice none 0 0)))) w) : wpList Tryd.prog ops Q (o :: rest) a w :=
  wpList_plain hgd fun K hK => by
    unfold Oper.wp execOp
    simp only [ho, List.map_toArray, List.map_cons, List.map_nil, hx, Sem.run_bind, Sem.run_pure, Result.andThen_ok, run_build w 79 _ _ (built79 bs hb)]
    exact hK _ _ h
theorem built95 : Tryd.prog.built 95 [] = some (hk zH).toArray := by kernel_rfl
theorem wpList_build95 {ops : Array Oper} {rest : List Oper} {o : Oper} {a : Act} {w : World} {Q : Exit → Act → World → Prop} (hgd : o.guard = none) (ho : o.op = .build 95 #[])
    (h : wpList Tryd.prog ops Q rest (a.put o.dst (.agg (hk zH).toArray)) w) : wpList Tryd.prog ops Q (o :: rest) a w :=
  wpList_plain hgd fun K hK => by
    unfold Oper.wp execOp
    simp only [ho, List.map_toArray, List.map_nil, Sem.run_bind, Sem.run_pure, Result.andThen_ok, run_build w 95 _ _ built95]
    exact hK _ _ h
theorem grown_none {w w' : World} (h : w.grownBy w' none) (row : Option Nat) : w.grownBy w' row := ⟨h.os, h.tape, h.output, h.size, fun k hk _ => h.block k hk (by simp)⟩
theorem row_base {w : World} {B B' : Nat} {e : TypeId} {size : Nat} {v : Value} {n : Nat} {xs : List Value} (h : w.ownsRow B e size v n xs) (hB : B' ≤ B) : w.ownsRow B' e size v n xs := by
  refine ⟨h.1, ?_⟩
  rcases h.2 with h2 | ⟨g, cap, cur, e1, e2, e3⟩
  · exact .inl h2
  · exact .inr ⟨g, cap, cur, e1, Nat.le_trans hB e2, e3⟩
/-- an account is appended to a slice whose capacity is its length -/
theorem push_runC {w W : World} {B N : Nat} {A : Option Addr} {n c : Nat} {es : List EntP} (h : OwnE w B (.slice A n c) es) (hB : B ≤ w.heap.size) (e : EntP) (cv : Value) (he : EntAt w B (e, cv, .slice none 0 0)) (hes : es.length ≤ 100000000)
    (hkp : KeepsLo B w W) (hn : Blk W N 79 (ek e cv (.slice none 0 0))) :
    ∃ v2 w2, (Builtin.append_ #[47, 47] 47 #[.slice A n n, .slice (some ⟨N, 0, none⟩) 1 1]).run Tryd.prog W = .ok v2 w2 ∧ W.grownBy w2 none ∧ OwnE w2 B v2 (es ++ [e]) := by
  obtain ⟨i0, hi, hz0, hz1, hz2⟩ := info_parts info79
  obtain ⟨ps, hps, hP⟩ := h.keeps hkp
  have hlp : ps.length = es.length := by rw [← hps, List.length_map]
  obtain ⟨C, m, d, hc, _⟩ := he.code
  simp only at hc
  subst hc
  have hnews : ∀ j u, (fE (e, .slice C m d, .slice none 0 0))[j]? = some u → W.cell? ((⟨N, 0, none⟩ : Addr).add j) = some u := by
    intro j u hu
    have e2 : (⟨N, 0, none⟩ : Addr).add j = ⟨N, j, none⟩ := by unfold Addr.add; split <;> simp_all
    rw [e2, hn.cell j]
    rw [← Array.getElem?_toList]
    exact hu
  have hfl : (fE (e, .slice C m d, .slice none 0 0)).length = 1 * 55 := by rw [fE_length _ he.fit]
  have fin : ∀ v2 w2, w2.ownsRow B 79 55 v2 (ps.length + 1) (ps.flatMap fE ++ fE (e, .slice C m d, .slice none 0 0)) → W.grownBy w2 none → OwnE w2 B v2 (es ++ [e]) := fun v2 w2 r1 r2 =>
    ⟨ps ++ [(e, .slice C m d, .slice none 0 0)], by rw [List.map_append, hps]; rfl, hP.push r1 (grown_none r2 _) (he.keeps hkp) rfl⟩
  have hrow := hP.row
  rcases hrow.2 with ⟨hv, h0⟩ | ⟨g, cap, cur, hv, hBg, hh, _⟩
  · injection hv with e1 e2 e3
    subst e1 e2 e3
    obtain ⟨v2, w2, hrun, r1, r2, r3⟩ := run_append_own (P := Tryd.prog) W B 47 47 79 i0 _ 55 112 Tryd.underlying47 hi hz0 hz1 hz2 (by decide) (by decide) (.slice none 0 0) ps.length (ps.flatMap fE) hP.row
      ⟨N, 0, none⟩ 1 1 (fE (e, .slice C m d, .slice none 0 0)) hfl hnews (fun u hu => ek_one e C m d none 0 0 u hu) (by unfold maxLen; omega) (by omega) (by have := hkp.1; omega)
    exact ⟨v2, w2, hrun, r2, fin v2 w2 r1 r2⟩
  · injection hv with e1 e2 e3
    subst e1 e3
    obtain rfl : n = ps.length := by omega
    obtain ⟨v2, w2, hrun, r1, r2⟩ := run_append_arg_grows (P := Tryd.prog) W 47 47 79 i0 _ 55 112 Tryd.underlying47 hi hz0 hz1 hz2 (by decide) (by decide)
      ⟨g, 0, none⟩ ps.length ps.length (ps.flatMap fE) hrow.1 (World.ownsRow.cells hrow (g := g) rfl) ⟨N, 0, none⟩ 1 1 (fE (e, .slice C m d, .slice none 0 0)) hfl hnews (by omega) (by unfold maxLen; omega) (by omega)
    exact ⟨v2, w2, hrun, r2, fin v2 w2 (row_base r1 (by have := hkp.1; omega)) r2⟩

/-! structs and rows compared with themselves -/
theorem Tryd.agg60d : AggT Tryd.prog 60 20 := by
  refine ⟨?_, by kernel_rfl⟩
  rw [Tryd.underlying60]; exact rfl
theorem Tryd.g60d : Tryd.prog.eqGuardType Tryd.prog.depth 60 = false := by kernel_rfl
theorem Tryd.g95d : Tryd.prog.eqGuardType Tryd.prog.depth 95 = false := by kernel_rfl
theorem same_row (xs : List UInt8) (n : Nat) (t : TypeId) (hk : Tryd.prog.keyTypeAt 2 t = true) (ht : Tryd.prog.underlying t = some (.array n 5)) (hct : Tryd.prog.cellsOf t = n) (hx : xs.length = n) (d : Nat) (W : World) :
    (Op.equalIn (d + 2) t (.agg (bvs xs).toArray) (.agg (bvs xs).toArray)).run Tryd.prog W = .ok true W := by
  have := run_equalBytes (P := Tryd.prog) W d t 5 n xs xs hk ht Tryd.underlying5 (by kernel_rfl) hct hx hx
  rwa [decide_eq_true rfl] at this
/-- what the document's line answers -/
def LineEnd (B : Nat) (w : World) (r : Option (List EntP)) (e : Ending) (w' : World) : Prop := Below B w w' ∧ match r with
  | none => ∃ v, e = .returned (.tuple #[v, .bool false])
  | some es' => ∃ v, e = .returned (.tuple #[v, .bool true]) ∧ OwnE w' B v es'
theorem unhex101_p (s : List UInt8) (u : List UInt8) (b : Bool) (h : unhexW s = (u, b)) (hs : s.length ≤ 100000000) (W : World) : Calls Tryd.prog 101 #[.string (str s)] W fun e w' => ∃ A k, e = .returned (.tuple #[.slice A u.length k, .bool b]) ∧ RdB w' A u.length k u ∧ OwnB w' W.heap.size (.slice A u.length k) u ∧ Below W.heap.size W w' :=
  (unhex101_calls s W hs).mono fun e w1 ⟨⟨v, h1, h2⟩, h3⟩ => by
    rw [h] at h1 h2
    obtain ⟨A, k, rfl, h4⟩ := h2.reads
    exact ⟨A, k, h1, h4, h2, h3⟩
end Go.Proofs.YtfjfjjcdlgdbcaaDoor
namespace Go.Proofs.YtfjfjjcdlgdbcaaDoor
open Go.RowKit Go.Shelf
set_option linter.unusedSimpArgs false
set_option linter.unusedVariables false

theorem eqFields_two {P : Program} (dd : Nat) (xs ys : Array Value) (f0 f1 : Field) (w : World) (a0 b0 a1 b1 : Value) (n0 : f0.name ≠ "_") (n1 : f1.name ≠ "_")
    (h1 : (part f0.type xs f0.offset).run P w = .ok a0 w) (h2 : (part f0.type ys f0.offset).run P w = .ok b0 w) (h3 : (Op.equalIn dd f0.type a0 b0).run P w = .ok true w)
    (h4 : (part f1.type xs f1.offset).run P w = .ok a1 w) (h5 : (part f1.type ys f1.offset).run P w = .ok b1 w) (h6 : (Op.equalIn dd f1.type a1 b1).run P w = .ok true w) : (Op.eqFields dd xs ys [f0, f1]).run P w = .ok true w := by
  simp [Op.eqFields, n0, n1, h1, h2, h3, h4, h5, h6]
theorem same_hkd (d : Nat) (h : List UInt8 × List UInt8) (h1 : h.1.length = 32 ∧ h.2.length = 32) (W : World) : (Op.equalIn (d + 2 + 1) 95 (.agg (hk h).toArray) (.agg (hk h).toArray)).run Tryd.prog W = .ok true W := by
  have hf : Tryd.prog.underlying 95 = some (.struct (Tryd.prog.fieldsOf 95)) := by
    unfold Program.fieldsOf
    rw [Tryd.underlying95]
  have x0 : (hk h).toArray.extract 0 (0 + 32) = (bvs h.1).toArray := by
    apply Array.ext'
    simp only [hk, Array.toList_extract, List.extract_eq_take_drop, List.drop_zero]
    exact List.take_left' (by rw [bvs_length, h1.1])
  have x1 : (hk h).toArray.extract 32 (32 + 32) = (bvs h.2).toArray := by
    apply Array.ext'
    simp only [hk, Array.toList_extract, List.extract_eq_take_drop]
    rw [List.drop_left' (by rw [bvs_length, h1.1])]
    exact List.take_of_length_le (by rw [bvs_length, h1.2]; decide)
  have p0 : (part 61 (hk h).toArray 0).run Tryd.prog W = .ok (.agg (bvs h.1).toArray) W := by
    simp only [part, Sem.run_bind, run_isAgg Tryd.agg61d, run_sizeOf Tryd.agg61d, Result.andThen_ok, if_true, Sem.run_pure, x0]
  have p1 : (part 61 (hk h).toArray 32).run Tryd.prog W = .ok (.agg (bvs h.2).toArray) W := by
    simp only [part, Sem.run_bind, run_isAgg Tryd.agg61d, run_sizeOf Tryd.agg61d, Result.andThen_ok, if_true, Sem.run_pure, x1]
  have e0 := same_row h.1 32 61 (by kernel_rfl) Tryd.underlying61 (by kernel_rfl) h1.1 d W
  have e1 := same_row h.2 32 61 (by kernel_rfl) Tryd.underlying61 (by kernel_rfl) h1.2 d W
  rw [run_equalIn_struct W (d + 2) 95 _ _ hf (by kernel_rfl)]
  obtain ⟨f0, f1, e, t0, o0, n0, t1, o1, n1⟩ : ∃ f0 f1 : Field, (Tryd.prog.fieldsOf 95).toList = [f0, f1] ∧ f0.type = 61 ∧ f0.offset = 0 ∧ f0.name ≠ "_" ∧ f1.type = 61 ∧ f1.offset = 32 ∧ f1.name ≠ "_" := by
    unfold Program.fieldsOf
    rw [Tryd.underlying95]
    exact ⟨_, _, rfl, rfl, rfl, by decide, rfl, rfl, by decide⟩
  rw [e]
  exact eqFields_two (d + 2) _ _ f0 f1 W _ _ _ _ n0 n1 (by rw [t0, o0]; exact p0) (by rw [t0, o0]; exact p0) (by rw [t0]; exact e0) (by rw [t1, o1]; exact p1) (by rw [t1, o1]; exact p1) (by rw [t1]; exact e1)
theorem same_hk (h : List UInt8 × List UInt8) (h1 : h.1.length = 32 ∧ h.2.length = 32) (W : World) : (Op.equalIn 10000 95 (.agg (hk h).toArray) (.agg (hk h).toArray)).run Tryd.prog W = .ok true W := by
  have := same_hkd 9997 h h1 W
  simp only [Nat.reduceAdd] at this
  exact this
end Go.Proofs.YtfjfjjcdlgdbcaaDoor
namespace Go.Proofs.YtfjfjjcdlgdbcaaDoor
open Go.RowKit Go.Shelf
set_option linter.unusedSimpArgs false
set_option linter.unusedVariables false
attribute [local irreducible] wpQuiet

theorem run_loadAtOne (w : World) (ty : TypeId) (a : Addr) (v : Value) (ht : (isAgg ty).run Tryd.prog w = .ok false w) (h : w.cell? a = some v) :
    (Instr.loadAt ty (.pointer (some a))).run Tryd.prog w = .ok v w := by
  go_simp
section
attribute [-go_sem] Instr.loadAt
set_option maxRecDepth 100000 in
set_option maxHeartbeats 2000000 in
theorem same32_calls (A : Option Addr) (n c : Nat) (B : Option Addr) (d : Nat) (es : List EntP) (w : World) (h : RdE w A n c es) (h' : RdE w B n d es) :
    Calls Tryd.prog 32 #[.slice A n c, .slice B n d] w fun e w' => e = .returned (.bool true) ∧ Below w.heap.size w w' := by
  have hm : n ≤ 9223372036854775807 := by have := h.2.1; have := h.2.2.1; unfold maxLen at this; omega
  have H := Lib.hid h
  have H' := Lib.hid h'
  have hnn : ((n : Int) == (n : Int)) = true := by simp
  have hnm : ((n : Int) != (n : Int)) = false := by simp
  clear h h'
  go_enter Tryd.func32, Tryd.ntmps32
  go_wp2
  go_loopw [5] (fun i wr => ∃ k : Nat, k ≤ n ∧ i = .int .i64 k ∧ Below w.heap.size w wr) (fun i _ => n - (intOf i).toNat)
  case atStart => exact ⟨0, by omega, rfl, Below.refl _ _⟩
  case round =>
    obtain ⟨k, hkn0, rfl, hb⟩ := hrel
    obtain ⟨wo, rfl⟩ : ∃ wo : World, wo = wr := ⟨_, rfl⟩
    have HB := Lib.hid hb
    by_cases hlt : k < n
    · obtain ⟨g, o, C, m, cc, S, l, q, rfl, hg, hc, hE⟩ := H.out.at_ hlt
      obtain ⟨g', o', C', m', cc', S', l', q', rfl, _, hc', hE'⟩ := H'.out.at_ hlt
      generalize es.getD k zE = x at *
      obtain rfl : m = m' := by rw [← hE.code.1, ← hE'.code.1]
      obtain rfl : l = l' := by rw [← hE.slots.1, ← hE'.slots.1]
      have hF := hE.fit
      have hkI : (0 : Int) ≤ (k : Int) ∧ (k : Int) < (n : Int) := by omega
      have htk : ((k : Int)).toNat = k := by omega
      have cell : ∀ {W : World} {gg oo : Nat} {c1 s1 : Value} (hcc : CellsAt W gg (oo + k * 55) (ek x c1 s1).toList), CellsAt W gg (oo + k * 55) (bvs x.addr) ∧ W.cell? ⟨gg, oo + k * 55 + 20, none⟩ = some (.int .u64 (x.nonce : Int)) ∧ CellsAt W gg (oo + k * 55 + 21) (bvs x.bal) ∧ W.cell? ⟨gg, oo + k * 55 + 53, none⟩ = some c1 ∧ W.cell? ⟨gg, oo + k * 55 + 54, none⟩ = some s1 := fun hcc => by
        refine ⟨?_, hcc 20 _ (by rw [Array.getElem?_toList]; exact ek_nonce _ _ _ hF), hcc.part 21 _ (fun j u hu => by rw [Array.getElem?_toList]; exact ek_bal _ _ _ hF j u hu), hcc 53 _ (by rw [Array.getElem?_toList]; exact ek_tail _ _ _ hF 0), hcc 54 _ (by rw [Array.getElem?_toList]; exact ek_tail _ _ _ hF 1)⟩
        have := hcc.part 0 _ (fun j u hu => by rw [Array.getElem?_toList]; exact ek_addr _ _ _ j u hu)
        rwa [Nat.add_zero] at this
      have HALL : Hid (∀ W, Below w.heap.size w W → (CellsAt W g (o + k * 55) (bvs x.addr) ∧ CellsAt W g' (o' + k * 55) (bvs x.addr) ∧ CellsAt W g (o + k * 55 + 21) (bvs x.bal) ∧ CellsAt W g' (o' + k * 55 + 21) (bvs x.bal)) ∧ (W.cell? ⟨g, o + k * 55 + 20, none⟩ = some (.int .u64 (x.nonce : Int)) ∧ W.cell? ⟨g', o' + k * 55 + 20, none⟩ = some (.int .u64 (x.nonce : Int))) ∧ (W.cell? ⟨g, o + k * 55 + 53, none⟩ = some (.slice C m cc) ∧ W.cell? ⟨g', o' + k * 55 + 53, none⟩ = some (.slice C' m cc')) ∧ (RdB W C m cc x.code ∧ RdB W C' m cc' x.code)) := fun W hW => ⟨⟨(cell (hc.below hW)).1, (cell (hc'.below hW)).1, (cell (hc.below hW)).2.2.1, (cell (hc'.below hW)).2.2.1⟩, ⟨(cell (hc.below hW)).2.1, (cell (hc'.below hW)).2.1⟩, ⟨(cell (hc.below hW)).2.2.2.1, (cell (hc'.below hW)).2.2.2.1⟩, hE.code.below hW, hE'.code.below hW⟩
      have HT60 : Hid (AggT Tryd.prog 60 (bvs x.addr).length) := by rw [bvs_length, hF.ha]; exact Tryd.agg60d
      have HT61 : Hid (AggT Tryd.prog 61 (bvs x.bal).length) := by rw [bvs_length, hF.hb]; exact Tryd.agg61d
      have hi60 : Hid ((Tryd.prog.info? 60).map (·.size) = some (bvs x.addr).length) := by rw [bvs_length, hF.ha]; exact Tryd.agg60d.2
      have hi61 : Hid ((Tryd.prog.info? 61).map (·.size) = some (bvs x.bal).length) := by rw [bvs_length, hF.hb]; exact Tryd.agg61d.2
      have HSL : Hid (∀ W, Below w.heap.size w W → W.cell? ⟨g, o + k * 55 + 54, none⟩ = some (.slice S l q) ∧ W.cell? ⟨g', o' + k * 55 + 54, none⟩ = some (.slice S' l q') ∧ RdS W S l q x.slots ∧ RdS W S' l q' x.slots) := fun W hW => ⟨(cell (hc.below hW)).2.2.2.2, (cell (hc'.below hW)).2.2.2.2, hE.slots.below hW, hE'.slots.below hW⟩
      have HS1 := Lib.hid hE.slots
      have HS2 := Lib.hid hE'.slots
      have HFIT := Lib.hid hF.hs
      have hlm : l ≤ 9223372036854775807 := by have := hE.slots.2.1; have := hE.slots.2.2.1; unfold maxLen at this; omega
      have hEa := same_row x.addr 20 60 (by kernel_rfl) Tryd.underlying60 (by kernel_rfl) hF.ha 9998
      have hEb := same_row x.bal 32 61 (by kernel_rfl) Tryd.underlying61 (by kernel_rfl) hF.hb 9998
      have g60 := Tryd.g60d
      have g61 := Tryd.g61d
      have hssc : ((str x.code).toList == (str x.code).toList) = true := by simp
      have hssd : ((str x.code).toList != (str x.code).toList) = false := by simp
      have hnq : ((x.nonce : Int) == (x.nonce : Int)) = true := by simp
      have hnd : ((x.nonce : Int) != (x.nonce : Int)) = false := by simp
      have hlq : ((l : Int) == (l : Int)) = true := by simp
      have hld : ((l : Int) != (l : Int)) = false := by simp
      clear hc hc' hE hE' hg cell hF
      simp only [Nat.reduceAdd] at hEa hEb
      generalize hra : (bvs x.addr) = ra at *
      generalize hrb : (bvs x.bal) = rb at *
      clear hra hrb
      have HA := HALL.out wo hb
      have HS := HSL.out wo hb
      have f1 := fun q => run_loadAtAgg (wo.drewN q) 60 g (o + k * 55) ra HT60.out (HA.1.1.drewN q)
      have f2 := fun q => run_loadAtAgg (wo.drewN q) 60 g' (o' + k * 55) ra HT60.out (HA.1.2.1.drewN q)
      have f3 := fun q => run_loadAtAgg (wo.drewN q) 61 g (o + k * 55 + 21) rb HT61.out (HA.1.2.2.1.drewN q)
      have f4 := fun q => run_loadAtAgg (wo.drewN q) 61 g' (o' + k * 55 + 21) rb HT61.out (HA.1.2.2.2.drewN q)
      have f5 := fun q => run_loadAtOne (wo.drewN q) 26 ⟨g, o + k * 55 + 20, none⟩ _ (by go_simp) HA.2.1.1
      have f6 := fun q => run_loadAtOne (wo.drewN q) 26 ⟨g', o' + k * 55 + 20, none⟩ _ (by go_simp) HA.2.1.2
      have f7 := fun q => run_loadAtOne (wo.drewN q) 22 ⟨g, o + k * 55 + 53, none⟩ _ (by go_simp) HA.2.2.1.1
      have f8 := fun q => run_loadAtOne (wo.drewN q) 22 ⟨g', o' + k * 55 + 53, none⟩ _ (by go_simp) HA.2.2.1.2
      have f9 := fun q => run_loadAtOne (wo.drewN q) 77 ⟨g, o + k * 55 + 54, none⟩ _ (by go_simp) HS.1
      have fA := fun q => run_loadAtOne (wo.drewN q) 77 ⟨g', o' + k * 55 + 54, none⟩ _ (by go_simp) HS.2.1
      have fB := fun q => run_convertB (P := Tryd.prog) (wo.drewN q) 22 5 9 Tryd.underlying22 Tryd.underlying5 Tryd.underlying9 (RdB.drewN HA.2.2.2.1 q)
      have fC := fun q => run_convertB (P := Tryd.prog) (wo.drewN q) 22 5 9 Tryd.underlying22 Tryd.underlying5 Tryd.underlying9 (RdB.drewN HA.2.2.2.2 q)
      clear HA HS
      go_upto_region 6 with (fail)
      go_quiet (fail)
      have HH6 : Hid (Below w.heap.size w (wo.drewN nq)) := hb.trans (drawn_below' _ _ _ hb.size)
      clear f1 f2 f3 f4 f5 f6 f7 f8 f9 fA fB fC
      go_wp2
      go_loopw [6] (fun i wr => ∃ m : Nat, m ≤ l ∧ i = .int .i64 m ∧ Below w.heap.size w wr) (fun i _ => l - (intOf i).toNat)
      case atStart => exact ⟨0, by omega, rfl, HH6.out⟩
      case round =>
        obtain ⟨m, hml, rfl, hbi⟩ := hrel
        obtain ⟨wi, rfl⟩ : ∃ wi : World, wi = wr := ⟨_, rfl⟩
        have HBI := Lib.hid hbi
        obtain ⟨t1, t2, _, _⟩ := HSL.out wi hbi
        have e0 := run_loadAtOne wi 77 ⟨g, o + k * 55 + 54, none⟩ _ (by go_simp) t1
        by_cases hlm2 : m < l
        · obtain ⟨g2, o2, rfl, hx2, hy2⟩ := HS1.out.at_ hlm2
          obtain ⟨g3, o3, rfl, hx3, hy3⟩ := HS2.out.at_ hlm2
          have hfit := HFIT.out _ (List.mem_of_getElem? hx2)
          generalize x.slots.getD m ([], []) = hh at *
          have hmI : (0 : Int) ≤ (m : Int) ∧ (m : Int) < (l : Int) := by omega
          have htm : ((m : Int)).toNat = m := by omega
          have HY2 := Lib.hid hy2
          have HY3 := Lib.hid hy3
          have HT95 : Hid (AggT Tryd.prog 95 (hk hh).length) := by rw [hk_length hh hfit]; exact Tryd.agg95
          have hi95 : Hid ((Tryd.prog.info? 95).map (·.size) = some (hk hh).length) := by rw [hk_length hh hfit]; exact Tryd.agg95.2
          have hEh := same_hk hh hfit
          have g95 := Tryd.g95d
          clear hx2 hx3 hy2 hy3 hfit
          go_wp2
          have e1 := fun q => run_loadAtOne (wi.drewN q) 77 ⟨g, o + k * 55 + 54, none⟩ _ (by go_simp) t1
          have e2 := fun q => run_loadAtOne (wi.drewN q) 77 ⟨g', o' + k * 55 + 54, none⟩ _ (by go_simp) t2
          have e3 := fun q => run_loadAtAgg (wi.drewN q) 95 g2 (o2 + m * 64) (hk hh) HT95.out ((HY2.out.below hbi).drewN q)
          have e4 := fun q => run_loadAtAgg (wi.drewN q) 95 g3 (o3 + m * 64) (hk hh) HT95.out ((HY3.out.below hbi).drewN q)
          go_quiet (fail)
          have HH : Hid (Below w.heap.size w (wi.drewN nq)) := hbi.trans (drawn_below' _ _ _ hbi.size)
          clear e1 e2 e3 e4
          go_wp2
          go_roundw
          case rel => exact ⟨m + 1, by omega, by go_num, HH.out⟩
          case measure => simp [intOf]; omega
        · obtain rfl : m = l := by omega
          go_wp2
          go_roundw
          case rel => exact ⟨k + 1, by omega, by go_num, HBI.out⟩
          case measure => simp [intOf]; omega
    · obtain rfl : k = n := by omega
      go_wp2
      go_ret
      exact ⟨rfl, hb⟩
end
end Go.Proofs.YtfjfjjcdlgdbcaaDoor
namespace Go.Proofs.YtfjfjjcdlgdbcaaDoor
open Go.RowKit Go.Shelf
set_option linter.unusedSimpArgs false
set_option linter.unusedVariables false

def ParsedL (w : World) (es : List EntP) (e : Ending) (w' : World) : Prop := Below w.heap.size w w' ∧ ∃ A c, e = .returned (.tuple #[.slice A es.length c, .int .i64 0, .int .i64 0]) ∧ RdE w' A es.length c es
theorem ended_l {w w' : World} {s : List UInt8} {es : List EntP} {e : Ending} (hp : parseGo [] 0 (linesL s) = .inl es) (h : ParseEndD w s e w') : ParsedL w es e w' := by
  obtain ⟨h1, h2⟩ := h
  rw [hp] at h2
  exact ⟨h1, h2⟩
theorem ended_r {w w' : World} {s : List UInt8} {n : Nat} {e : Ending} (hp : parseGo [] 0 (linesL s) = .inr n) (h : ParseEndD w s e w') : Below w.heap.size w w' ∧ e = .returned (.tuple #[.slice none 0 0, .int .i64 (n : Int), .int .i64 241]) := by
  obtain ⟨h1, h2⟩ := h
  rw [hp] at h2
  exact ⟨h1, h2⟩
theorem rdE_nil (w : World) : RdE w none 0 0 [] := ⟨rfl, Nat.le_refl _, by unfold maxLen; omega, fun h => absurd h (by omega)⟩
end Go.Proofs.YtfjfjjcdlgdbcaaDoor
