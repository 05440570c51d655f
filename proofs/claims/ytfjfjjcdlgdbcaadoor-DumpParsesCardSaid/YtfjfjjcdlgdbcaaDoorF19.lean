/- the texts D28, D34, D35, D35U, D36a1, D36a2, D36a3, D36a4, D36P of this proof, one behind the other -/
import Derived.Test.YtfjfjjcdlgdbcaaDoorF18
import Derived.ArgAppend
import Derived.DeepKeys
namespace Go.Proofs.YtfjfjjcdlgdbcaaDoor
open Go.RowKit
set_option linter.unusedSimpArgs false
set_option linter.unusedVariables false

/-- the account that known prints -/
def kE : EntP := ⟨1 :: List.replicate 19 0, 0, List.replicate 30 0 ++ [1, 0], [], []⟩
def kT : List UInt8 := [97, 99, 99, 111, 117, 110, 116, 32, 48, 49, 48, 48, 48, 48, 48, 48, 48, 48, 48, 48, 48, 48, 48, 48, 48, 48, 48, 48, 48, 48, 48, 48, 48, 48, 48, 48, 48, 48, 48, 48, 48, 48, 48, 48, 48, 48, 48, 48, 32, 48, 32, 50, 53, 54, 32, 46, 10]
theorem kE_fit : kE.Fit := ⟨by decide, by show 0 < 18446744073709551616; omega, by decide, fun h hh => by cases hh⟩
theorem kE_print : dprintV [kE] = .tuple #[.string (str kT), .int .i64 0] := by
  have h1 : checkB [kE] = true := by decide +kernel
  have h2 : dumpL [kE] = kT := by decide +kernel
  unfold dprintV chkV
  rw [h1, h2]
  rfl
theorem kX_parse : parseGo [] 0 (linesL [120, 10]) = .inr 0 := by kernel_rfl
theorem kE_rd (w : World) : RdE (w.alloc (.cells (ek kE (.slice none 0 0) (.slice none 0 0)) 79)) (some ⟨w.heap.size, 0, none⟩) 1 1 [kE] := by
  refine ⟨rfl, Nat.le_refl _, by unfold maxLen; omega, fun _ => ⟨w.heap.size, 0, rfl, fun j e hj => ?_⟩⟩
  have hjl : j < 1 := (List.getElem?_eq_some_iff.1 hj).1
  obtain rfl : j = 0 := by omega
  obtain rfl : kE = e := by simpa using hj
  exact ⟨none, 0, 0, none, 0, 0, cellsAt_blk (Blk.new _ _ _), kE_fit, ⟨rfl, Nat.le_refl _, by unfold maxLen; omega, fun h => absurd h (by omega)⟩, ⟨rfl, Nat.le_refl _, by unfold maxLen; omega, fun h => absurd h (by omega)⟩⟩
theorem wpList_buildSlice1 {P : Program} {ops : Array Oper} {rest : List Oper} {o : Oper} {a : Act} {w : World} {Q : Exit → Act → World → Prop} (hgd : o.guard = none) (t e : TypeId) (k : Nat) (x : Operand) (ho : o.op = .buildSlice t 1 #[(0, x)]) (cs : Array Value) (hx : a.eval x = .agg cs)
    (ht : P.underlying t = some (.slice e)) (he : AggT P e k) (hz : ((P.info? e).bind (·.zero)).isSome = true) (hs : cs.size = k) (hk : k ≤ 1000) (hk0 : 0 < k)
    (h : wpList P ops Q rest (a.put o.dst (.slice (some ⟨w.heap.size, 0, none⟩) 1 1)) (w.alloc (.cells cs e))) : wpList P ops Q (o :: rest) a w :=
  wpList_plain hgd fun K hK => by
    unfold Oper.wp execOp
    simp only [ho, List.map_toArray, List.map_cons, List.map_nil, hx, Sem.run_bind, Sem.run_pure, Result.andThen_ok, run_buildSlice1 w t e k cs ht he hz hs hk hk0]
    exact hK _ _ h
def kA : Array Value := (bvs (1 :: List.replicate 19 0)).toArray
def kB : Array Value := (bvs (List.replicate 30 0 ++ [1, 0])).toArray
set_option maxRecDepth 100000 in
set_option maxHeartbeats 2000000 in
theorem known26_calls (w : World) (hL : LaidW w) : Calls Tryd.prog 26 #[] w fun e w' => e = .returned (.bool true) ∧ Below w.heap.size w w' := by
  have hal : Hid (Below w.heap.size w (w.alloc (.cells (ek kE (.slice none 0 0) (.slice none 0 0)) 79))) := al (Below.refl _ _) _
  have hp := DPrint_calls (some ⟨w.heap.size, 0, none⟩) 1 1 [kE] _ (kE_rd w) (hL.below hal.out) ⟨by decide, by intro e he; obtain rfl := List.mem_singleton.1 he; exact ⟨by decide, by decide⟩⟩
  rw [kE_print] at hp
  have HP := Lib.hid hp
  have HX : Hid (∀ W, Below w.heap.size w W → Calls Tryd.prog 30 #[.string (str [120, 10])] W fun e w' => e = .returned (.tuple #[.slice none 0 0, .int .i64 0, .int .i64 241]) ∧ Below W.heap.size W w') := fun W hW =>
    (Parse_calls [120, 10] W (by decide) (hL.below hW)).mono fun e w' ⟨h1, h2⟩ => by
      rw [kX_parse] at h2
      exact ⟨h2, h1⟩
  have e1 : (⟨#[97, 99, 99, 111, 117, 110, 116, 32, 48, 49, 48, 48, 48, 48, 48, 48, 48, 48, 48, 48, 48, 48, 48, 48, 48, 48, 48, 48, 48, 48, 48, 48, 48, 48, 48, 48, 48, 48, 48, 48, 48, 48, 48, 48, 48, 48, 48, 48, 32, 48, 32, 50, 53, 54, 32, 46, 10]⟩ : ByteArray) = str kT := rfl
  have e2 : (⟨#[120, 10]⟩ : ByteArray) = str [120, 10] := rfl
  clear hp hL
  go_enter Tryd.func26, Tryd.ntmps26
  rw [e1, e2]
  clear e1 e2
  generalize str kT = kt at *
  generalize str [120, 10] = xt at *
  go_wp2_with (first | (refine wpList_build (o := ⟨some 7, _, _, _, _, _⟩) rfl 60 _ rfl (.agg kA) (by kernel_rfl) ?_) | (refine wpList_build (o := ⟨some 8, _, _, _, _, _⟩) rfl 61 _ rfl (.agg kB) (by kernel_rfl) ?_) | (refine wpList_build (o := ⟨some 9, _, _, _, _, _⟩) rfl 79 _ rfl (.agg (ek kE (.slice none 0 0) (.slice none 0 0))) (by kernel_rfl) ?_) | (refine wpList_buildSlice1 (o := ⟨some 10, _, _, _, _, _⟩) rfl 47 79 55 (.tmp 9) rfl (ek kE (.slice none 0 0) (.slice none 0 0)) rfl Tryd.underlying47 Tryd.agg79 (by kernel_rfl) (by decide) (by omega) (by omega) ?_) | (go_at_call 28; refine HP.out.mono ?_; rintro e w1 ⟨rfl, hb1⟩) | (go_at_call 30; refine (HX.out _ (thn hal.out hb1)).mono ?_; rintro e w2 ⟨rfl, hb2⟩))
  go_ret
  exact ⟨by simp, thn (thn hal.out hb1) hb2⟩
end Go.Proofs.YtfjfjjcdlgdbcaaDoor
namespace Go.Proofs.YtfjfjjcdlgdbcaaDoor
open Go.RowKit
set_option linter.unusedSimpArgs false
set_option linter.unusedVariables false

theorem getD_left {α : Type} (a b : List α) (i : Nat) (d : α) (h : i < a.length) : (a ++ b).getD i d = a.getD i d := by
  rw [List.getD_eq_getElem?_getD, List.getD_eq_getElem?_getD, List.getElem?_append_left h]
theorem getD_at {α : Type} (a : List α) (x d : α) : (a ++ [x]).getD a.length d = x := by
  rw [List.getD_eq_getElem?_getD, List.getElem?_append_right (Nat.le_refl _), Nat.sub_self]; rfl
theorem all_range_congr (p q : Nat → Bool) (n : Nat) (h : ∀ i, i < n → p i = q i) : (List.range n).all p = (List.range n).all q := by
  rw [Bool.eq_iff_iff, List.all_eq_true, List.all_eq_true]
  constructor
  · intro hh i hi; rw [← h i (List.mem_range.1 hi)]; exact hh i hi
  · intro hh i hi; rw [h i (List.mem_range.1 hi)]; exact hh i hi
theorem slotsB_nil : slotsB [] = true := rfl
theorem slotsB_snoc (hs : List (List UInt8 × List UInt8)) (h : List UInt8 × List UInt8) : slotsB (hs ++ [h]) = (slotsB hs && holdsB (hs ++ [h]) hs.length) := by
  unfold slotsB
  rw [show (hs ++ [h]).length = hs.length + 1 by simp, range_all_succ]
  congr 1
  apply all_range_congr
  intro i hi
  unfold holdsB
  rw [getD_left hs [h] i _ hi]
  by_cases h0 : i = 0
  · subst h0; simp
  · rw [getD_left hs [h] (i - 1) _ (by omega)]
theorem goodB_left (es r : List EntP) (i : Nat) (hi : i < es.length) : goodB (es ++ r) i = goodB es i := by
  unfold goodB risesB
  rw [getD_left es r i _ hi]
  by_cases h0 : i = 0
  · subst h0; simp
  · rw [getD_left es r (i - 1) _ (by omega)]
theorem checkB_snoc (es : List EntP) (e : EntP) : checkB (es ++ [e]) = (checkB es && (risesB (es ++ [e]) es.length && slotsB e.slots)) := by
  unfold checkB
  rw [show (es ++ [e]).length = es.length + 1 by simp, range_all_succ]
  congr 1
  · exact all_range_congr _ _ _ fun i hi => goodB_left es [e] i hi
  · unfold goodB
    rw [getD_at]
theorem rises_slots (es : List EntP) (e : EntP) (hs : List (List UInt8 × List UInt8)) : risesB (es ++ [{ e with slots := hs }]) es.length = risesB (es ++ [e]) es.length := by
  unfold risesB
  rw [getD_at, getD_at]
  by_cases h0 : es.length = 0
  · rw [h0]; simp
  · rw [getD_left es _ (es.length - 1) _ (by omega), getD_left es _ (es.length - 1) _ (by omega)]
/-- one line more, as the document tells it -/
def lineO (es : List EntP) (x : List UInt8) : Option (List EntP) :=
  match accL (splitL 32 x) with
  | some e => if checkB (es ++ [e]) = true then some (es ++ [e]) else none
  | none => match slotL (splitL 32 x) with
    | none => none
    | some h => match es.getLast? with
      | none => none
      | some e => if checkB (es.dropLast ++ [{ e with slots := e.slots ++ [h] }]) = true then some (es.dropLast ++ [{ e with slots := e.slots ++ [h] }]) else none
theorem lineO_step (es : List EntP) (x : List UInt8) (hc : checkB es = true) : lineO es x = stepL es (x, true) ∧ ∀ es', lineO es x = some es' → checkB es' = true := by
  unfold lineO stepL
  simp only
  cases ha : accL (splitL 32 x) with
  | some e =>
    simp only
    have hs := accL_slots _ e ha
    rw [checkB_snoc, hc, hs, slotsB_nil]
    simp only [Bool.true_and, Bool.and_true, true_and]
    intro es' h
    split at h
    · rename_i h1
      obtain rfl := Option.some.inj h
      rw [checkB_snoc, hc, hs, slotsB_nil, h1]; rfl
    · cases h
  | none =>
    simp only
    cases hl : slotL (splitL 32 x) with
    | none => simp
    | some h =>
      simp only
      cases hla : es.getLast? with
      | none => simp
      | some e =>
        simp only
        have hne : es ≠ [] := by intro e0; rw [e0] at hla; cases hla
        have hd : es.dropLast ++ [e] = es := by
          have h1 := List.dropLast_concat_getLast hne
          have h2 : es.getLast hne = e := by
            rw [List.getLast?_eq_some_getLast hne] at hla
            exact Option.some.inj hla
          rw [h2] at h1
          exact h1
        have hc2 := hc
        rw [← hd, checkB_snoc] at hc2
        simp only [Bool.and_eq_true] at hc2
        have key : checkB (es.dropLast ++ [{ e with slots := e.slots ++ [h] }]) = holdsB (e.slots ++ [h]) e.slots.length := by
          rw [checkB_snoc, rises_slots, slotsB_snoc, hc2.1, hc2.2.1, hc2.2.2]
          simp
        rw [key]
        simp only [true_and]
        intro es' hh
        split at hh
        · rename_i h1
          obtain rfl := Option.some.inj hh
          rw [key, h1]
        · cases hh

/-! lines -/
theorem splitL_app (c : UInt8) : ∀ (a b : List UInt8), splitL c (a ++ c :: b) = splitL c a ++ splitL c b
  | [], b => by simp [splitL]
  | x :: a, b => by
    rw [List.cons_append, splitL, splitL_app c a b, splitL]
    split
    · rfl
    · cases hs : splitL c a with
      | nil => exact absurd hs (splitL_ne c a)
      | cons p ps => rfl
theorem linesP_app : ∀ (o ps : List (List UInt8)), ps ≠ [] → linesP (o ++ ps) = o.map (·, true) ++ linesP ps
  | [], ps, _ => rfl
  | p :: o, ps, h => by
    have hne : o ++ ps ≠ [] := by simp [h]
    rw [List.cons_append]
    cases hq : o ++ ps with
    | nil => exact absurd hq hne
    | cons q qs =>
      rw [linesP, ← hq, linesP_app o ps h]
      rfl
theorem lines_mid {s : List UInt8} {k f : Nat} {o : List (List UInt8)} (h : Cut 10 s k f o) (hk : k < s.length) (hb : s.getD k 0 = 10) : ∃ rest, linesL s = o.map (·, true) ++ ((s.take k).drop f, true) :: rest := by
  have hs : s = s.take k ++ 10 :: s.drop (k + 1) := by
    have h1 : s.drop k = s.getD k 0 :: s.drop (k + 1) := by
      rw [List.drop_eq_getElem_cons hk, List.getD_eq_getElem?_getD, List.getElem?_eq_getElem hk]; rfl
    rw [hb] at h1
    rw [← h1, List.take_append_drop]
  have e : splitL 10 s = (o ++ [(s.take k).drop f]) ++ splitL 10 (s.drop (k + 1)) := by
    conv => lhs; rw [hs]
    rw [splitL_app, h.hs]
  refine ⟨linesP (splitL 10 (s.drop (k + 1))), ?_⟩
  unfold linesL
  rw [e, linesP_app _ _ (splitL_ne 10 _), List.map_append, List.append_assoc]
  rfl
theorem lines_end {s : List UInt8} {f : Nat} {o : List (List UInt8)} (h : Cut 10 s s.length f o) : linesL s = o.map (·, true) ++ (if s.drop f = [] then [] else [(s.drop f, false)]) := by
  unfold linesL
  rw [h.end_, linesP_app _ _ (by simp)]
  rfl
theorem stepL_part (es : List EntP) (x : List UInt8) : stepL es (x, false) = none := by
  unfold stepL
  simp only
  cases accL (splitL 32 x) with
  | some e => simp
  | none =>
    simp only
    cases slotL (splitL 32 x) with
    | none => rfl
    | some h =>
      simp only
      cases es.getLast? with
      | none => rfl
      | some e => simp
/-- what is told at a line that can't be -/
theorem parse_bad {s : List UInt8} {k f : Nat} {o : List (List UInt8)} {es : List EntP} (h : Cut 10 s k f o) (hk : k < s.length) (hb : s.getD k 0 = 10) (hl : linesTo (o.map (·, true)) = some es) (hn : stepL es ((s.take k).drop f, true) = none) : parseGo [] 0 (linesL s) = .inr o.length := by
  obtain ⟨rest, e⟩ := lines_mid h hk hb
  have := parseGo_stop s (o.map (·, true)) rest _ es e hl hn
  rw [this, List.length_map]
theorem parse_open {s : List UInt8} {f : Nat} {o : List (List UInt8)} {es : List EntP} (h : Cut 10 s s.length f o) (hf : f < s.length) (hl : linesTo (o.map (·, true)) = some es) : parseGo [] 0 (linesL s) = .inr o.length := by
  have e := lines_end h
  have hd : s.drop f ≠ [] := by
    intro e0
    have := congrArg List.length e0
    rw [List.length_drop] at this
    simp at this
    omega
  rw [if_neg hd] at e
  have := parseGo_stop s (o.map (·, true)) [] _ es e hl (stepL_part es _)
  rw [this, List.length_map]
theorem parse_whole {s : List UInt8} {f : Nat} {o : List (List UInt8)} {es : List EntP} (h : Cut 10 s s.length f o) (hf : ¬ f < s.length) (hl : linesTo (o.map (·, true)) = some es) : parseGo [] 0 (linesL s) = .inl es := by
  have e := lines_end h
  have hd : s.drop f = [] := List.drop_eq_nil_of_le (by omega)
  rw [if_pos hd, List.append_nil] at e
  exact parseGo_all s es (by rw [e]; exact hl)
theorem linesTo_more {o : List (List UInt8)} {es es' : List EntP} {x : List UInt8} (hl : linesTo (o.map (·, true)) = some es) (h : stepL es (x, true) = some es') : linesTo ((o ++ [x]).map (·, true)) = some es' := by
  rw [List.map_append, List.map_cons, List.map_nil, linesTo_snoc, hl]
  exact h

/-! what a line's words tell -/
theorem nonce_undec (s : List UInt8) : nonceL s = (undecL s).bind fun n => if n < 18446744073709551616 then some n else none := by
  unfold nonceL undecL
  by_cases h1 : Lib.decDigits (decN s) = s
  · by_cases h2 : decN s < top256
    · by_cases h3 : decN s < 18446744073709551616
      · simp [h1, h2, h3]
      · simp [h1, h2, h3]
    · have h3 : ¬ decN s < 18446744073709551616 := fun h => h2 (Nat.lt_trans h (by unfold top256; decide))
      simp [h1, h2, h3]
  · simp [h1]
/-- an account's words, as the document reads them -/
theorem accL_of (w1 w2 w3 w4 : List UInt8) : accL [accW, w1, w2, w3, w4] =
    if (unhexW w1).2 = true ∧ (unhexW w1).1.length = 20 then
      match undecL w2, undecL w3 with
      | some n, some m => if n < 18446744073709551616 then
          (if w4 = [46] then some ⟨(unhexW w1).1, n, beL m 32, [], []⟩ else if (unhexW w4).2 = true then some ⟨(unhexW w1).1, n, beL m 32, (unhexW w4).1, []⟩ else none) else none
      | _, _ => none
    else none := by
  have hu := undig_unhex w1 20 (by omega)
  have hue := undig_unhex_eq w1 20 (by omega)
  unfold accL
  rw [if_pos (show [accW, w1, w2, w3, w4].length = 5 by rfl)]
  have h5 : accK [accW, w1, w2, w3, w4] 5 = ((((rdW [accW, w1, w2, w3, w4] 0 zE0).bind (rdW [accW, w1, w2, w3, w4] 1)).bind (rdW [accW, w1, w2, w3, w4] 2)).bind (rdW [accW, w1, w2, w3, w4] 3)).bind (rdW [accW, w1, w2, w3, w4] 4) := by
    simp only [accK, Option.bind_some]
  have r0 : rdW [accW, w1, w2, w3, w4] 0 zE0 = some zE0 := by unfold rdW; simp
  rw [h5, r0, Option.bind_some]
  by_cases h1 : (unhexW w1).2 = true ∧ (unhexW w1).1.length = 20
  · rw [if_pos h1]
    have r1 : rdW [accW, w1, w2, w3, w4] 1 zE0 = some { zE0 with addr := (unhexW w1).1 } := by
      unfold rdW
      simp only [List.getD_cons_succ, List.getD_cons_zero]
      rw [if_pos (hu.2 h1), hue h1]
    rw [r1, Option.bind_some]
    have r2 : ∀ e : EntP, rdW [accW, w1, w2, w3, w4] 2 e = (nonceL w2).map fun n => { e with nonce := n } := fun e => by unfold rdW; rfl
    have r3 : ∀ e : EntP, rdW [accW, w1, w2, w3, w4] 3 e = (undecL w3).map fun n => { e with bal := beL n 32 } := fun e => by unfold rdW; rfl
    have r4 : ∀ e : EntP, rdW [accW, w1, w2, w3, w4] 4 e = if (undigL w4).2 = true then some { e with code := (undigL w4).1 } else none := fun e => by unfold rdW; rfl
    rw [r2, nonce_undec]
    cases h2 : undecL w2 with
    | none => rfl
    | some n =>
      simp only [Option.bind_some]
      by_cases h3 : n < 18446744073709551616
      · rw [if_pos h3]
        simp only [Option.map_some, Option.bind_some]
        rw [r3]
        cases h4 : undecL w3 with
        | none => rfl
        | some m =>
          simp only [Option.map_some, Option.bind_some]
          rw [r4, if_pos h3]
          by_cases h5 : w4 = [46]
          · subst h5
            rw [if_pos rfl, undigL, if_pos rfl]
            rfl
          · rw [if_neg h5]
            have hc := undig_code w4 h5
            by_cases h6 : (unhexW w4).2 = true
            · rw [if_pos h6, if_pos (hc.1.2 h6), hc.2 h6]
              rfl
            · rw [if_neg h6, if_neg (fun h => h6 (hc.1.1 h))]
      · rw [if_neg h3]
        simp only [Option.map_none, Option.bind_none]
        cases undecL w3 with
        | none => rfl
        | some m => simp [h3]
  · rw [if_neg h1]
    have r1 : rdW [accW, w1, w2, w3, w4] 1 zE0 = none := by
      unfold rdW
      simp only [List.getD_cons_succ, List.getD_cons_zero]
      rw [if_neg (fun h => h1 (hu.1 h))]
    rw [r1]
    rfl
theorem accL_no (ws : List (List UInt8)) (h : ¬ (ws.length = 5 ∧ ws.getD 0 [] = accW)) : accL ws = none := by
  unfold accL
  by_cases h5 : ws.length = 5
  · rw [if_pos h5]
    have h0 : ¬ ws.getD 0 [] = accW := fun e => h ⟨h5, e⟩
    exact accK_fail ws 0 zE0 (by omega) rfl (by unfold rdW; simp only; rw [if_neg h0])
  · rw [if_neg h5]
theorem slotL_of (w1 w2 : List UInt8) : slotL [slotW, w1, w2] = if ((unhexW w1).2 = true ∧ (unhexW w1).1.length = 32) ∧ ((unhexW w2).2 = true ∧ (unhexW w2).1.length = 32) then some ((unhexW w1).1, (unhexW w2).1) else none := by
  have h1 := undig_unhex w1 32 (by omega)
  have h2 := undig_unhex w2 32 (by omega)
  have e1 := undig_unhex_eq w1 32 (by omega)
  have e2 := undig_unhex_eq w2 32 (by omega)
  unfold slotL
  simp only [List.getD_cons_succ, List.getD_cons_zero, List.length_cons, List.length_nil]
  by_cases h : ((unhexW w1).2 = true ∧ (unhexW w1).1.length = 32) ∧ ((unhexW w2).2 = true ∧ (unhexW w2).1.length = 32)
  · rw [if_pos h, if_pos ⟨by trivial, by trivial, h1.2 h.1, h2.2 h.2⟩, e1 h.1, e2 h.2]
  · rw [if_neg h, if_neg (fun hh => h ⟨h1.1 hh.2.2.1, h2.1 hh.2.2.2⟩)]
theorem slotL_no (ws : List (List UInt8)) (h : ¬ (ws.length = 3 ∧ ws.getD 0 [] = slotW)) : slotL ws = none := by
  unfold slotL
  rw [if_neg (fun hh => h ⟨hh.1, hh.2.1⟩)]
end Go.Proofs.YtfjfjjcdlgdbcaaDoor
namespace Go.Proofs.YtfjfjjcdlgdbcaaDoor
open Go.RowKit Go.Shelf
set_option linter.unusedSimpArgs false
set_option linter.unusedVariables false

/-- what words answers, ready to be read -/
theorem words_ready (x : List UInt8) (w : World) (hx : x.length ≤ 1000000) :
    Calls Tryd.prog 100 #[.string (str x)] w fun e w1 => ∃ r c, e = .returned (.slice (some ⟨r, 0, none⟩) (splitL 32 x).length c) ∧ (∀ (j : Nat) s, (splitL 32 x)[j]? = some s → w1.cell? ⟨r, 0 + j, none⟩ = some (.string (str s))) ∧
      r < w1.heap.size ∧ w.heap.size ≤ r ∧ (splitL 32 x).length ≤ c ∧ c ≤ maxLen ∧ Below w.heap.size w w1 :=
  (words100_calls x w hx).mono fun e w1 ⟨⟨v, he, ho⟩, hb⟩ => by
    rcases ho.reads with ⟨_, h0⟩ | ⟨g, c, rfl, h1, h2, h3, h4, h5⟩
    · exact absurd h0 (splitL_ne 32 x)
    · exact ⟨g, c, he, h5, h2, h1, h3, h4, hb⟩
theorem split_small (x : List UInt8) (s : List UInt8) (h : s ∈ splitL 32 x) : s.length ≤ x.length := splitL_part2 32 x s h

theorem list32 {α : Type} (l : List α) (h : l.length = 32) : ∃ a0 a1 a2 a3 a4 a5 a6 a7 a8 a9 a10 a11 a12 a13 a14 a15 a16 a17 a18 a19 a20 a21 a22 a23 a24 a25 a26 a27 a28 a29 a30 a31, l = [a0, a1, a2, a3, a4, a5, a6, a7, a8, a9, a10, a11, a12, a13, a14, a15, a16, a17, a18, a19, a20, a21, a22, a23, a24, a25, a26, a27, a28, a29, a30, a31] := by
  obtain _ | ⟨a0, l⟩ := l
  · simp at h
  obtain _ | ⟨a1, l⟩ := l
  · simp at h
  obtain _ | ⟨a2, l⟩ := l
  · simp at h
  obtain _ | ⟨a3, l⟩ := l
  · simp at h
  obtain _ | ⟨a4, l⟩ := l
  · simp at h
  obtain _ | ⟨a5, l⟩ := l
  · simp at h
  obtain _ | ⟨a6, l⟩ := l
  · simp at h
  obtain _ | ⟨a7, l⟩ := l
  · simp at h
  obtain _ | ⟨a8, l⟩ := l
  · simp at h
  obtain _ | ⟨a9, l⟩ := l
  · simp at h
  obtain _ | ⟨a10, l⟩ := l
  · simp at h
  obtain _ | ⟨a11, l⟩ := l
  · simp at h
  obtain _ | ⟨a12, l⟩ := l
  · simp at h
  obtain _ | ⟨a13, l⟩ := l
  · simp at h
  obtain _ | ⟨a14, l⟩ := l
  · simp at h
  obtain _ | ⟨a15, l⟩ := l
  · simp at h
  obtain _ | ⟨a16, l⟩ := l
  · simp at h
  obtain _ | ⟨a17, l⟩ := l
  · simp at h
  obtain _ | ⟨a18, l⟩ := l
  · simp at h
  obtain _ | ⟨a19, l⟩ := l
  · simp at h
  obtain _ | ⟨a20, l⟩ := l
  · simp at h
  obtain _ | ⟨a21, l⟩ := l
  · simp at h
  obtain _ | ⟨a22, l⟩ := l
  · simp at h
  obtain _ | ⟨a23, l⟩ := l
  · simp at h
  obtain _ | ⟨a24, l⟩ := l
  · simp at h
  obtain _ | ⟨a25, l⟩ := l
  · simp at h
  obtain _ | ⟨a26, l⟩ := l
  · simp at h
  obtain _ | ⟨a27, l⟩ := l
  · simp at h
  obtain _ | ⟨a28, l⟩ := l
  · simp at h
  obtain _ | ⟨a29, l⟩ := l
  · simp at h
  obtain _ | ⟨a30, l⟩ := l
  · simp at h
  obtain _ | ⟨a31, l⟩ := l
  · simp at h
  obtain rfl : l = [] := List.eq_nil_of_length_eq_zero (by simpa using h)
  exact ⟨a0, a1, a2, a3, a4, a5, a6, a7, a8, a9, a10, a11, a12, a13, a14, a15, a16, a17, a18, a19, a20, a21, a22, a23, a24, a25, a26, a27, a28, a29, a30, a31, rfl⟩
theorem built79 (bs : List UInt8) (h : bs.length = 32) : Tryd.prog.built 79 [(2, .agg (bvs bs).toArray)] = some (ek { zE0 with bal := bs } (.slice none 0 0) (.slice none 0 0)) := by
  obtain ⟨a0, a1, a2, a3, a4, a5, a6, a7, a8, a9, a10, a11, a12, a13, a14, a15, a16, a17, a18, a19, a20, a21, a22, a23, a24, a25, a26, a27, a28, a29, a30, a31, rfl⟩ := list32 bs h
  kernel_rfl
theorem wpList_build79 {ops : Array Oper} {rest : List Oper} {o : Oper} {a : Act} {w : World} {Q : Exit → Act → World → Prop} (hgd : o.guard = none) (x : Operand) (ho : o.op = .build 79 #[(2, x)]) (bs : List UInt8) (hb : bs.length = 32) (hx : a.eval x = .agg (bvs bs).toArray)
    (h : wpList Tryd.prog ops Q rest (a.put o.dst (.agg (ek { zE0 with bal := bs } (.slice none 0 0) (.slice none 0 0)))) w) : wpList Tryd.prog ops Q (o :: rest) a w :=
  wpList_plain hgd fun K hK => by
    unfold Oper.wp execOp
    simp only [ho, List.map_toArray, List.map_cons, List.map_nil, hx, Sem.run_bind, Sem.run_pure, Result.andThen_ok, run_build w 79 _ _ (built79 bs hb)]
    exact hK _ _ h
theorem built95 : Tryd.prog.built 95 [] = some (hk zH).toArray := by kernel_rfl
theorem wpList_build95 {ops : Array Oper} {rest : List Oper} {o : Oper} {a : Act} {w : World} {Q : Exit → Act → World → Prop} (hgd : o.guard = none) (ho : o.op = .build 95 #[])
    (h : wpList Tryd.prog ops Q rest (a.put o.dst (.agg (hk zH).toArray)) w) : wpList Tryd.prog ops Q (o :: rest) a w :=
  wpList_plain hgd fun K hK => by
    unfold Oper.wp execOp
    simp only [ho, List.map_toArray, List.map_nil, Sem.run_bind, Sem.run_pure, Result.andThen_ok, run_build w 95 _ _ built95]
    exact hK _ _ h
theorem grown_none {w w' : World} (h : w.grownBy w' none) (row : Option Nat) : w.grownBy w' row := ⟨h.os, h.tape, h.output, h.size, fun k hk _ => h.block k hk (by simp)⟩
theorem row_base {w : World} {B B' : Nat} {e : TypeId} {size : Nat} {v : Value} {n : Nat} {xs : List Value} (h : w.ownsRow B e size v n xs) (hB : B' ≤ B) : w.ownsRow B' e size v n xs := by
  refine ⟨h.1, ?_⟩
  rcases h.2 with h2 | ⟨g, cap, cur, e1, e2, e3⟩
  · exact .inl h2
  · exact .inr ⟨g, cap, cur, e1, Nat.le_trans hB e2, e3⟩
/-- an account is appended to a slice whose capacity is its length -/
theorem push_runC {w W : World} {B N : Nat} {A : Option Addr} {n c : Nat} {es : List EntP} (h : OwnE w B (.slice A n c) es) (hB : B ≤ w.heap.size) (e : EntP) (cv : Value) (he : EntAt w B (e, cv, .slice none 0 0)) (hes : es.length ≤ 100000000)
    (hkp : KeepsLo B w W) (hn : Blk W N 79 (ek e cv (.slice none 0 0))) :
    ∃ v2 w2, (Builtin.append_ #[47, 47] 47 #[.slice A n n, .slice (some ⟨N, 0, none⟩) 1 1]).run Tryd.prog W = .ok v2 w2 ∧ W.grownBy w2 none ∧ OwnE w2 B v2 (es ++ [e]) := by
  obtain ⟨i0, hi, hz0, hz1, hz2⟩ := info_parts info79
  obtain ⟨ps, hps, hP⟩ := h.keeps hkp
  have hlp : ps.length = es.length := by rw [← hps, List.length_map]
  obtain ⟨C, m, d, hc, _⟩ := he.code
  simp only at hc
  subst hc
  have hnews : ∀ j u, (fE (e, .slice C m d, .slice none 0 0))[j]? = some u → W.cell? ((⟨N, 0, none⟩ : Addr).add j) = some u := by
    intro j u hu
    have e2 : (⟨N, 0, none⟩ : Addr).add j = ⟨N, j, none⟩ := by unfold Addr.add; split <;> simp_all
    rw [e2, hn.cell j]
    rw [← Array.getElem?_toList]
    exact hu
  have hfl : (fE (e, .slice C m d, .slice none 0 0)).length = 1 * 55 := by rw [fE_length _ he.fit]
  have fin : ∀ v2 w2, w2.ownsRow B 79 55 v2 (ps.length + 1) (ps.flatMap fE ++ fE (e, .slice C m d, .slice none 0 0)) → W.grownBy w2 none → OwnE w2 B v2 (es ++ [e]) := fun v2 w2 r1 r2 =>
    ⟨ps ++ [(e, .slice C m d, .slice none 0 0)], by rw [List.map_append, hps]; rfl, hP.push r1 (grown_none r2 _) (he.keeps hkp) rfl⟩
  have hrow := hP.row
  rcases hrow.2 with ⟨hv, h0⟩ | ⟨g, cap, cur, hv, hBg, hh, _⟩
  · injection hv with e1 e2 e3
    subst e1 e2 e3
    obtain ⟨v2, w2, hrun, r1, r2, r3⟩ := run_append_own (P := Tryd.prog) W B 47 47 79 i0 _ 55 112 Tryd.underlying47 hi hz0 hz1 hz2 (by decide) (by decide) (.slice none 0 0) ps.length (ps.flatMap fE) hP.row
      ⟨N, 0, none⟩ 1 1 (fE (e, .slice C m d, .slice none 0 0)) hfl hnews (fun u hu => ek_one e C m d none 0 0 u hu) (by unfold maxLen; omega) (by omega) (by have := hkp.1; omega)
    exact ⟨v2, w2, hrun, r2, fin v2 w2 r1 r2⟩
  · injection hv with e1 e2 e3
    subst e1 e3
    obtain rfl : n = ps.length := by omega
    obtain ⟨v2, w2, hrun, r1, r2⟩ := run_append_arg_grows (P := Tryd.prog) W 47 47 79 i0 _ 55 112 Tryd.underlying47 hi hz0 hz1 hz2 (by decide) (by decide)
      ⟨g, 0, none⟩ ps.length ps.length (ps.flatMap fE) hrow.1 (World.ownsRow.cells hrow (g := g) rfl) ⟨N, 0, none⟩ 1 1 (fE (e, .slice C m d, .slice none 0 0)) hfl hnews (by omega) (by unfold maxLen; omega) (by omega)
    exact ⟨v2, w2, hrun, r2, fin v2 w2 (row_base r1 (by have := hkp.1; omega)) r2⟩

/-! structs and rows compared with themselves -/
theorem Tryd.agg60d : AggT Tryd.prog 60 20 := by
  refine ⟨?_, by kernel_rfl⟩
  rw [Tryd.underlying60]; exact rfl
theorem Tryd.g60d : Tryd.prog.eqGuardType Tryd.prog.depth 60 = false := by kernel_rfl
theorem Tryd.g95d : Tryd.prog.eqGuardType Tryd.prog.depth 95 = false := by kernel_rfl
theorem same_row (xs : List UInt8) (n : Nat) (t : TypeId) (hk : Tryd.prog.keyTypeAt 2 t = true) (ht : Tryd.prog.underlying t = some (.array n 5)) (hct : Tryd.prog.cellsOf t = n) (hx : xs.length = n) (d : Nat) (W : World) :
    (Op.equalIn (d + 2) t (.agg (bvs xs).toArray) (.agg (bvs xs).toArray)).run Tryd.prog W = .ok true W := by
  have := run_equalBytes (P := Tryd.prog) W d t 5 n xs xs hk ht Tryd.underlying5 (by kernel_rfl) hct hx hx
  rwa [decide_eq_true rfl] at this
/-- what the document's line answers -/
def LineEnd (B : Nat) (w : World) (r : Option (List EntP)) (e : Ending) (w' : World) : Prop := Below B w w' ∧ match r with
  | none => ∃ v, e = .returned (.tuple #[v, .bool false])
  | some es' => ∃ v, e = .returned (.tuple #[v, .bool true]) ∧ OwnE w' B v es'
theorem unhex101_p (s : List UInt8) (u : List UInt8) (b : Bool) (h : unhexW s = (u, b)) (hs : s.length ≤ 100000000) (W : World) : Calls Tryd.prog 101 #[.string (str s)] W fun e w' => ∃ A k, e = .returned (.tuple #[.slice A u.length k, .bool b]) ∧ RdB w' A u.length k u ∧ OwnB w' W.heap.size (.slice A u.length k) u ∧ Below W.heap.size W w' :=
  (unhex101_calls s W hs).mono fun e w1 ⟨⟨v, h1, h2⟩, h3⟩ => by
    rw [h] at h1 h2
    obtain ⟨A, k, rfl, h4⟩ := h2.reads
    exact ⟨A, k, h1, h4, h2, h3⟩
end Go.Proofs.YtfjfjjcdlgdbcaaDoor
namespace Go.Proofs.YtfjfjjcdlgdbcaaDoor
open Go.RowKit Go.Shelf
set_option linter.unusedVariables false

/-- a number's bytes that undecimal answers, whether it is one or not -/
theorem undec102_any (s : List UInt8) (w : World) (hs : s.length ≤ 100000000) :
    Calls Tryd.prog 102 #[.string (str s)] w fun e w1 => ∃ xs b, xs.length = 32 ∧ e = .returned (.tuple #[.agg (bvs xs).toArray, .bool b]) ∧ ((b = false ∧ undecL s = none) ∨ (b = true ∧ ∃ n, undecL s = some n ∧ xs = beL n 32)) ∧ Below w.heap.size w w1 :=
  (undec102_calls s w hs).mono fun e w1 ⟨hb, h⟩ => by
    rcases h with ⟨h1, xs, h2, h3⟩ | ⟨n, h1, h2⟩
    · exact ⟨xs, false, h2, h3, .inl ⟨rfl, h1⟩, hb⟩
    · exact ⟨beL n 32, true, beL_length _ _, h2, .inr ⟨rfl, n, h1, rfl⟩, hb⟩
/-- what undecimal answers, in one word -/
def UD (b : Bool) (w : World) (e : Ending) (w1 : World) : Prop := ∃ xs : List UInt8, xs.length = 32 ∧ e = .returned (.tuple #[.agg (bvs xs).toArray, .bool b]) ∧ Below w.heap.size w w1
theorem undec102_ud (s : List UInt8) (hs : s.length ≤ 100000000) (W : World) : Calls Tryd.prog 102 #[.string (str s)] W (UD (undecL s).isSome W) :=
  (undec102_any s W hs).mono fun e w1 ⟨xs, b, h1, h2, h3, h4⟩ => by
    refine ⟨xs, h1, ?_, h4⟩
    rcases h3 with ⟨rfl, h3⟩ | ⟨rfl, n, h3, _⟩
    · rw [h3]; exact h2
    · rw [h3]; exact h2
theorem undec102_n (s : List UInt8) (n : Nat) (h : undecL s = some n) (hs : s.length ≤ 100000000) (W : World) : Calls Tryd.prog 102 #[.string (str s)] W fun e w1 => e = .returned (.tuple #[.agg (bvs (beL n 32)).toArray, .bool true]) ∧ Below W.heap.size W w1 :=
  (undec102_any s W hs).mono fun e w1 ⟨xs, b, h1, h2, h3, h4⟩ => by
    rcases h3 with ⟨rfl, h3⟩ | ⟨rfl, m, h3, h5⟩
    · rw [h] at h3; cases h3
    · rw [h] at h3
      obtain rfl := Option.some.inj h3
      subst h5
      exact ⟨h2, h4⟩
end Go.Proofs.YtfjfjjcdlgdbcaaDoor
namespace Go.Proofs.YtfjfjjcdlgdbcaaDoor
open Go.RowKit Go.Shelf
set_option linter.unusedSimpArgs false
set_option linter.unusedVariables false

set_option maxRecDepth 100000 in
set_option maxHeartbeats 4000000 in
theorem line_a1 (A : Option Addr) (c : Nat) (es : List EntP) (x : List UInt8) (B : Nat) (w : World) (h : OwnE w B (.slice A es.length c) es) (hB : B ≤ w.heap.size) (hx : x.length ≤ 1000000) (s1 s2 s3 s4 : List UInt8) (hws : splitL 32 x = [accW, s1, s2, s3, s4]) (hno : lineO es x = none) (a : List UInt8) (b1 b2 b3 : Bool) (ha : unhexW s1 = (a, b1)) (h2 : (undecL s2).isSome = b2) (h3 : (undecL s3).isSome = b3) (g1 : b1 = false) :
    Calls Tryd.prog 62 #[.slice A es.length c, .string (str x)] w (LineEnd B w (lineO es x)) := by
  rw [hno]
  clear hno
  have hwd0 := words_ready x w hx
  rw [hws] at hwd0
  simp only [List.length_cons, List.length_nil, Nat.zero_add, Nat.reduceAdd] at hwd0
  have hwd := Lib.hid hwd0
  have l1 : s1.length ≤ 100000000 := by have := split_small x s1 (by rw [hws]; simp); omega
  have l2 : s2.length ≤ 100000000 := by have := split_small x s2 (by rw [hws]; simp); omega
  have l3 : s3.length ≤ 100000000 := by have := split_small x s3 (by rw [hws]; simp); omega
  have hu1 := Lib.hid (fun W => unhex101_p s1 a b1 ha l1 W)
  have hn2 := Lib.hid (fun W => undec102_ud s2 l2 W)
  have hn3 := Lib.hid (fun W => undec102_ud s3 l3 W)
  rw [h2] at hn2
  rw [h3] at hn3
  have hqa : ((str accW).toList == [97, 99, 99, 111, 117, 110, 116]) = true := by rw [str_list]; decide
  subst g1
  clear hwd0 h hws ha h2 h3 l1 l2 l3
  generalize hsw : accW = s0 at *
  clear hsw
  go_enter Tryd.func62, Tryd.ntmps62
  go_wp2_with (first | (go_at_call 100; refine hwd.out.mono ?_; rintro e w1 ⟨r, rc, rfl, hcells, hrlt, hrw, hlc, hcm, hb1⟩; have c0 : w1.cell? ⟨r, 0, none⟩ = some (.string (str s0)) := hcells 0 _ rfl; have c1 : w1.cell? ⟨r, 1, none⟩ = some (.string (str s1)) := hcells 1 _ rfl; have c2 : w1.cell? ⟨r, 2, none⟩ = some (.string (str s2)) := hcells 2 _ rfl; have c3 : w1.cell? ⟨r, 3, none⟩ = some (.string (str s3)) := hcells 3 _ rfl; have c4 : w1.cell? ⟨r, 4, none⟩ = some (.string (str s4)) := hcells 4 _ rfl; clear hcells) | (go_at_call 101; (with_reducible refine (hu1.out w1).mono ?_); rintro e w2 ⟨A1, k1, rfl, hr1, ho1, hb2⟩; have d2 : w2.cell? ⟨r, 2, none⟩ = some (.string (str s2)) := cell_below' hb2 c2) | (go_at_call 102; (with_reducible refine (hn2.out w2).mono ?_); rintro e w3 ⟨xs, hxl, rfl, hb3⟩; have hTx : Hid (AggT Tryd.prog 61 (bvs xs).toArray.size) := (by rw [List.size_toArray, bvs_length, hxl]; exact Tryd.agg61d); have hsx : Hid ((bvs xs).toArray.size = 32) := (by rw [List.size_toArray, bvs_length, hxl]; trivial); have d3 : ∀ o, (w3.alloc o).cell? ⟨r, 3, none⟩ = some (.string (str s3)) := fun o => cell_below' (al (thn hb2 hb3) o) c3) | (refine wpList_storeNew rfl rfl 61 (.tmp 9) _ rfl _ _ rfl (bvs xs).toArray rfl hTx.out (by rw [hsx.out]; rfl) (oneCell_bvs _) ?_) | (go_at_call 102; (with_reducible refine (hn3.out (w3.alloc _)).mono ?_); rintro e w4 ⟨ys, hyl, rfl, hb4⟩; have hTy : Hid (AggT Tryd.prog 61 (bvs ys).toArray.size) := (by rw [List.size_toArray, bvs_length, hyl]; exact Tryd.agg61d); have hsy : Hid ((bvs ys).toArray.size = 32) := (by rw [List.size_toArray, bvs_length, hyl]; trivial)) | (refine wpList_storeNew rfl rfl 61 (.tmp 11) _ rfl _ _ rfl (bvs ys).toArray rfl hTy.out (by rw [hsy.out]; rfl) (oneCell_bvs _) ?_))
  go_ret2
  exact ⟨(al (thn (al (thn (thn hb1 hb2) hb3) _) hb4) _).mono hB, _, rfl⟩
end Go.Proofs.YtfjfjjcdlgdbcaaDoor
namespace Go.Proofs.YtfjfjjcdlgdbcaaDoor
open Go.RowKit Go.Shelf
set_option linter.unusedSimpArgs false
set_option linter.unusedVariables false

set_option maxRecDepth 100000 in
set_option maxHeartbeats 4000000 in
theorem line_a2 (A : Option Addr) (c : Nat) (es : List EntP) (x : List UInt8) (B : Nat) (w : World) (h : OwnE w B (.slice A es.length c) es) (hB : B ≤ w.heap.size) (hx : x.length ≤ 1000000) (s1 s2 s3 s4 : List UInt8) (hws : splitL 32 x = [accW, s1, s2, s3, s4]) (hno : lineO es x = none) (a : List UInt8) (b1 b2 b3 : Bool) (ha : unhexW s1 = (a, b1)) (h2 : (undecL s2).isSome = b2) (h3 : (undecL s3).isSome = b3) (g1 : b1 = true) (g2 : b2 = false) :
    Calls Tryd.prog 62 #[.slice A es.length c, .string (str x)] w (LineEnd B w (lineO es x)) := by
  rw [hno]
  clear hno
  have hwd0 := words_ready x w hx
  rw [hws] at hwd0
  simp only [List.length_cons, List.length_nil, Nat.zero_add, Nat.reduceAdd] at hwd0
  have hwd := Lib.hid hwd0
  have l1 : s1.length ≤ 100000000 := by have := split_small x s1 (by rw [hws]; simp); omega
  have l2 : s2.length ≤ 100000000 := by have := split_small x s2 (by rw [hws]; simp); omega
  have l3 : s3.length ≤ 100000000 := by have := split_small x s3 (by rw [hws]; simp); omega
  have hu1 := Lib.hid (fun W => unhex101_p s1 a b1 ha l1 W)
  have hn2 := Lib.hid (fun W => undec102_ud s2 l2 W)
  have hn3 := Lib.hid (fun W => undec102_ud s3 l3 W)
  rw [h2] at hn2
  rw [h3] at hn3
  have hqa : ((str accW).toList == [97, 99, 99, 111, 117, 110, 116]) = true := by rw [str_list]; decide
  subst g1 g2
  clear hwd0 h hws ha h2 h3 l1 l2 l3
  generalize hsw : accW = s0 at *
  clear hsw
  go_enter Tryd.func62, Tryd.ntmps62
  go_wp2_with (first | (go_at_call 100; refine hwd.out.mono ?_; rintro e w1 ⟨r, rc, rfl, hcells, hrlt, hrw, hlc, hcm, hb1⟩; have c0 : w1.cell? ⟨r, 0, none⟩ = some (.string (str s0)) := hcells 0 _ rfl; have c1 : w1.cell? ⟨r, 1, none⟩ = some (.string (str s1)) := hcells 1 _ rfl; have c2 : w1.cell? ⟨r, 2, none⟩ = some (.string (str s2)) := hcells 2 _ rfl; have c3 : w1.cell? ⟨r, 3, none⟩ = some (.string (str s3)) := hcells 3 _ rfl; have c4 : w1.cell? ⟨r, 4, none⟩ = some (.string (str s4)) := hcells 4 _ rfl; clear hcells) | (go_at_call 101; (with_reducible refine (hu1.out w1).mono ?_); rintro e w2 ⟨A1, k1, rfl, hr1, ho1, hb2⟩; have d2 : w2.cell? ⟨r, 2, none⟩ = some (.string (str s2)) := cell_below' hb2 c2) | (go_at_call 102; (with_reducible refine (hn2.out w2).mono ?_); rintro e w3 ⟨xs, hxl, rfl, hb3⟩; have hTx : Hid (AggT Tryd.prog 61 (bvs xs).toArray.size) := (by rw [List.size_toArray, bvs_length, hxl]; exact Tryd.agg61d); have hsx : Hid ((bvs xs).toArray.size = 32) := (by rw [List.size_toArray, bvs_length, hxl]; trivial); have d3 : ∀ o, (w3.alloc o).cell? ⟨r, 3, none⟩ = some (.string (str s3)) := fun o => cell_below' (al (thn hb2 hb3) o) c3) | (refine wpList_storeNew rfl rfl 61 (.tmp 9) _ rfl _ _ rfl (bvs xs).toArray rfl hTx.out (by rw [hsx.out]; rfl) (oneCell_bvs _) ?_) | (go_at_call 102; (with_reducible refine (hn3.out (w3.alloc _)).mono ?_); rintro e w4 ⟨ys, hyl, rfl, hb4⟩; have hTy : Hid (AggT Tryd.prog 61 (bvs ys).toArray.size) := (by rw [List.size_toArray, bvs_length, hyl]; exact Tryd.agg61d); have hsy : Hid ((bvs ys).toArray.size = 32) := (by rw [List.size_toArray, bvs_length, hyl]; trivial)) | (refine wpList_storeNew rfl rfl 61 (.tmp 11) _ rfl _ _ rfl (bvs ys).toArray rfl hTy.out (by rw [hsy.out]; rfl) (oneCell_bvs _) ?_))
  go_ret2
  exact ⟨(al (thn (al (thn (thn hb1 hb2) hb3) _) hb4) _).mono hB, _, rfl⟩
end Go.Proofs.YtfjfjjcdlgdbcaaDoor
namespace Go.Proofs.YtfjfjjcdlgdbcaaDoor
open Go.RowKit Go.Shelf
set_option linter.unusedSimpArgs false
set_option linter.unusedVariables false

set_option maxRecDepth 100000 in
set_option maxHeartbeats 4000000 in
theorem line_a3 (A : Option Addr) (c : Nat) (es : List EntP) (x : List UInt8) (B : Nat) (w : World) (h : OwnE w B (.slice A es.length c) es) (hB : B ≤ w.heap.size) (hx : x.length ≤ 1000000) (s1 s2 s3 s4 : List UInt8) (hws : splitL 32 x = [accW, s1, s2, s3, s4]) (hno : lineO es x = none) (a : List UInt8) (b1 b2 b3 : Bool) (ha : unhexW s1 = (a, b1)) (h2 : (undecL s2).isSome = b2) (h3 : (undecL s3).isSome = b3) (g1 : b1 = true) (g2 : b2 = true) (g3 : b3 = false) :
    Calls Tryd.prog 62 #[.slice A es.length c, .string (str x)] w (LineEnd B w (lineO es x)) := by
  rw [hno]
  clear hno
  have hwd0 := words_ready x w hx
  rw [hws] at hwd0
  simp only [List.length_cons, List.length_nil, Nat.zero_add, Nat.reduceAdd] at hwd0
  have hwd := Lib.hid hwd0
  have l1 : s1.length ≤ 100000000 := by have := split_small x s1 (by rw [hws]; simp); omega
  have l2 : s2.length ≤ 100000000 := by have := split_small x s2 (by rw [hws]; simp); omega
  have l3 : s3.length ≤ 100000000 := by have := split_small x s3 (by rw [hws]; simp); omega
  have hu1 := Lib.hid (fun W => unhex101_p s1 a b1 ha l1 W)
  have hn2 := Lib.hid (fun W => undec102_ud s2 l2 W)
  have hn3 := Lib.hid (fun W => undec102_ud s3 l3 W)
  rw [h2] at hn2
  rw [h3] at hn3
  have hqa : ((str accW).toList == [97, 99, 99, 111, 117, 110, 116]) = true := by rw [str_list]; decide
  subst g1 g2 g3
  clear hwd0 h hws ha h2 h3 l1 l2 l3
  generalize hsw : accW = s0 at *
  clear hsw
  go_enter Tryd.func62, Tryd.ntmps62
  go_wp2_with (first | (go_at_call 100; refine hwd.out.mono ?_; rintro e w1 ⟨r, rc, rfl, hcells, hrlt, hrw, hlc, hcm, hb1⟩; have c0 : w1.cell? ⟨r, 0, none⟩ = some (.string (str s0)) := hcells 0 _ rfl; have c1 : w1.cell? ⟨r, 1, none⟩ = some (.string (str s1)) := hcells 1 _ rfl; have c2 : w1.cell? ⟨r, 2, none⟩ = some (.string (str s2)) := hcells 2 _ rfl; have c3 : w1.cell? ⟨r, 3, none⟩ = some (.string (str s3)) := hcells 3 _ rfl; have c4 : w1.cell? ⟨r, 4, none⟩ = some (.string (str s4)) := hcells 4 _ rfl; clear hcells) | (go_at_call 101; (with_reducible refine (hu1.out w1).mono ?_); rintro e w2 ⟨A1, k1, rfl, hr1, ho1, hb2⟩; have d2 : w2.cell? ⟨r, 2, none⟩ = some (.string (str s2)) := cell_below' hb2 c2) | (go_at_call 102; (with_reducible refine (hn2.out w2).mono ?_); rintro e w3 ⟨xs, hxl, rfl, hb3⟩; have hTx : Hid (AggT Tryd.prog 61 (bvs xs).toArray.size) := (by rw [List.size_toArray, bvs_length, hxl]; exact Tryd.agg61d); have hsx : Hid ((bvs xs).toArray.size = 32) := (by rw [List.size_toArray, bvs_length, hxl]; trivial); have d3 : ∀ o, (w3.alloc o).cell? ⟨r, 3, none⟩ = some (.string (str s3)) := fun o => cell_below' (al (thn hb2 hb3) o) c3) | (refine wpList_storeNew rfl rfl 61 (.tmp 9) _ rfl _ _ rfl (bvs xs).toArray rfl hTx.out (by rw [hsx.out]; rfl) (oneCell_bvs _) ?_) | (go_at_call 102; (with_reducible refine (hn3.out (w3.alloc _)).mono ?_); rintro e w4 ⟨ys, hyl, rfl, hb4⟩; have hTy : Hid (AggT Tryd.prog 61 (bvs ys).toArray.size) := (by rw [List.size_toArray, bvs_length, hyl]; exact Tryd.agg61d); have hsy : Hid ((bvs ys).toArray.size = 32) := (by rw [List.size_toArray, bvs_length, hyl]; trivial)) | (refine wpList_storeNew rfl rfl 61 (.tmp 11) _ rfl _ _ rfl (bvs ys).toArray rfl hTy.out (by rw [hsy.out]; rfl) (oneCell_bvs _) ?_))
  go_ret2
  exact ⟨(al (thn (al (thn (thn hb1 hb2) hb3) _) hb4) _).mono hB, _, rfl⟩
end Go.Proofs.YtfjfjjcdlgdbcaaDoor
namespace Go.Proofs.YtfjfjjcdlgdbcaaDoor
open Go.RowKit Go.Shelf
set_option linter.unusedSimpArgs false
set_option linter.unusedVariables false

set_option maxRecDepth 100000 in
set_option maxHeartbeats 4000000 in
theorem line_a4 (A : Option Addr) (c : Nat) (es : List EntP) (x : List UInt8) (B : Nat) (w : World) (h : OwnE w B (.slice A es.length c) es) (hB : B ≤ w.heap.size) (hx : x.length ≤ 1000000) (s1 s2 s3 s4 : List UInt8) (hws : splitL 32 x = [accW, s1, s2, s3, s4]) (hno : lineO es x = none) (a : List UInt8) (b1 b2 b3 : Bool) (ha : unhexW s1 = (a, b1)) (h2 : (undecL s2).isSome = b2) (h3 : (undecL s3).isSome = b3) (g1 : b1 = true) (g2 : b2 = true) (g3 : b3 = true) (g4 : a.length ≠ 20) :
    Calls Tryd.prog 62 #[.slice A es.length c, .string (str x)] w (LineEnd B w (lineO es x)) := by
  rw [hno]
  clear hno
  have hwd0 := words_ready x w hx
  rw [hws] at hwd0
  simp only [List.length_cons, List.length_nil, Nat.zero_add, Nat.reduceAdd] at hwd0
  have hwd := Lib.hid hwd0
  have l1 : s1.length ≤ 100000000 := by have := split_small x s1 (by rw [hws]; simp); omega
  have l2 : s2.length ≤ 100000000 := by have := split_small x s2 (by rw [hws]; simp); omega
  have l3 : s3.length ≤ 100000000 := by have := split_small x s3 (by rw [hws]; simp); omega
  have hu1 := Lib.hid (fun W => unhex101_p s1 a b1 ha l1 W)
  have hn2 := Lib.hid (fun W => undec102_ud s2 l2 W)
  have hn3 := Lib.hid (fun W => undec102_ud s3 l3 W)
  rw [h2] at hn2
  rw [h3] at hn3
  have hqa : ((str accW).toList == [97, 99, 99, 111, 117, 110, 116]) = true := by rw [str_list]; decide
  subst g1 g2 g3
  have hln1 : ¬ (a.length : Int) = 20 := by omega
  have hln2 : ((a.length : Int) != 20) = true := by simpa using hln1
  have hln3 : ((a.length : Int) == 20) = false := by rw [beq_eq_false_iff_ne]; exact hln1
  clear hwd0 h hws ha h2 h3 l1 l2 l3
  generalize hsw : accW = s0 at *
  clear hsw
  go_enter Tryd.func62, Tryd.ntmps62
  go_wp2_with (first | (go_at_call 100; refine hwd.out.mono ?_; rintro e w1 ⟨r, rc, rfl, hcells, hrlt, hrw, hlc, hcm, hb1⟩; have c0 : w1.cell? ⟨r, 0, none⟩ = some (.string (str s0)) := hcells 0 _ rfl; have c1 : w1.cell? ⟨r, 1, none⟩ = some (.string (str s1)) := hcells 1 _ rfl; have c2 : w1.cell? ⟨r, 2, none⟩ = some (.string (str s2)) := hcells 2 _ rfl; have c3 : w1.cell? ⟨r, 3, none⟩ = some (.string (str s3)) := hcells 3 _ rfl; have c4 : w1.cell? ⟨r, 4, none⟩ = some (.string (str s4)) := hcells 4 _ rfl; clear hcells) | (go_at_call 101; (with_reducible refine (hu1.out w1).mono ?_); rintro e w2 ⟨A1, k1, rfl, hr1, ho1, hb2⟩; have d2 : w2.cell? ⟨r, 2, none⟩ = some (.string (str s2)) := cell_below' hb2 c2) | (go_at_call 102; (with_reducible refine (hn2.out w2).mono ?_); rintro e w3 ⟨xs, hxl, rfl, hb3⟩; have hTx : Hid (AggT Tryd.prog 61 (bvs xs).toArray.size) := (by rw [List.size_toArray, bvs_length, hxl]; exact Tryd.agg61d); have hsx : Hid ((bvs xs).toArray.size = 32) := (by rw [List.size_toArray, bvs_length, hxl]; trivial); have d3 : ∀ o, (w3.alloc o).cell? ⟨r, 3, none⟩ = some (.string (str s3)) := fun o => cell_below' (al (thn hb2 hb3) o) c3) | (refine wpList_storeNew rfl rfl 61 (.tmp 9) _ rfl _ _ rfl (bvs xs).toArray rfl hTx.out (by rw [hsx.out]; rfl) (oneCell_bvs _) ?_) | (go_at_call 102; (with_reducible refine (hn3.out (w3.alloc _)).mono ?_); rintro e w4 ⟨ys, hyl, rfl, hb4⟩; have hTy : Hid (AggT Tryd.prog 61 (bvs ys).toArray.size) := (by rw [List.size_toArray, bvs_length, hyl]; exact Tryd.agg61d); have hsy : Hid ((bvs ys).toArray.size = 32) := (by rw [List.size_toArray, bvs_length, hyl]; trivial)) | (refine wpList_storeNew rfl rfl 61 (.tmp 11) _ rfl _ _ rfl (bvs ys).toArray rfl hTy.out (by rw [hsy.out]; rfl) (oneCell_bvs _) ?_))
  go_ret2
  exact ⟨(al (thn (al (thn (thn hb1 hb2) hb3) _) hb4) _).mono hB, _, rfl⟩
end Go.Proofs.YtfjfjjcdlgdbcaaDoor
namespace Go.Proofs.YtfjfjjcdlgdbcaaDoor
open Go.RowKit Go.Shelf
set_option linter.unusedSimpArgs false
set_option linter.unusedVariables false

theorem copy_addr (w : World) (e : EntP) (cv sv : Value) (xs : List UInt8) (A : Option Addr) (c : Nat) (he : e.Fit) (hr : RdB w A 20 c xs) :
    (Builtin.copy_ #[22, 22] 3 #[.slice (some ⟨w.heap.size, 0, none⟩) 20 20, .slice A 20 c]).run Tryd.prog (w.alloc (.cells (ek e cv sv) 79)) = .ok (.int .i64 20) (w.alloc (.cells (ek { e with addr := xs } cv sv) 79)) := by
  have hx := hr.1
  have hsz := ek_size e cv sv he
  rw [run_copyB (P := Tryd.prog) _ 22 22 3 5 _ _ 20 20 A 20 c xs Tryd.underlying22 (by kernel_rfl) (hr.alloc _) (roomAt_alloc_at _ _ _ _ _ _ rfl (by rw [hsz]; decide)),
    List.take_of_length_le (by omega), setCells_alloc_at _ _ _ _ _ _ rfl (by rw [hsz, bvs_length]; omega), ovw_eaddr _ _ _ _ he hx]
  rfl
/-- an account with nothing but a balance -/
def balE (ys : List UInt8) : EntP := { zE0 with bal := ys }
theorem balE_fit (ys : List UInt8) (h : ys.length = 32) : (balE ys).Fit := ⟨by simp [balE, zE0], by show 0 < 18446744073709551616; omega, h, fun h hh => by cases hh⟩
theorem wpList_build79b {ops : Array Oper} {rest : List Oper} {o : Oper} {a : Act} {w : World} {Q : Exit → Act → World → Prop} (hgd : o.guard = none) (x : Operand) (ho : o.op = .build 79 #[(2, x)]) (bs : List UInt8) (hb : bs.length = 32) (hx : a.eval x = .agg (bvs bs).toArray)
    (h : wpList Tryd.prog ops Q rest (a.put o.dst (.agg (ek (balE bs) (.slice none 0 0) (.slice none 0 0)))) w) : wpList Tryd.prog ops Q (o :: rest) a w := wpList_build79 hgd x ho bs hb hx h
theorem copy_bal (w : World) (ys a : List UInt8) (A : Option Addr) (c : Nat) (hy : ys.length = 32) (hr : RdB w A 20 c a) :
    (Builtin.copy_ #[22, 22] 3 #[.slice (some ⟨w.heap.size, 0, none⟩) 20 20, .slice A 20 c]).run Tryd.prog (w.alloc (.cells (ek (balE ys) (.slice none 0 0) (.slice none 0 0)) 79)) = .ok (.int .i64 20) (w.alloc (.cells (ek ⟨a, 0, ys, [], []⟩ (.slice none 0 0) (.slice none 0 0)) 79)) :=
  copy_addr w (balE ys) _ _ a A c (balE_fit ys hy) hr
theorem take_snocD (xs : List UInt8) (k : Nat) (h : k < xs.length) : xs.take (k + 1) = xs.take k ++ [xs.getD k 0] := take_snoc' xs k h
theorem valW_step (xs : List UInt8) (k : Nat) (h : k < xs.length) : valW (xs.take (k + 1)) = valW (xs.take k) * 256 + (xs.getD k 0).toNat := by
  rw [take_snocD xs k h, valW_snoc]
/-- the first bytes of a number's -/
theorem valW_pre (xs : List UInt8) (k j : Nat) (h : xs.length = k + j) : valW (xs.take k) = valW xs / 256 ^ j := by
  have h1 : valW xs = valW (xs.take k) * 256 ^ j + valW (xs.drop k) := by
    have h2 := valW_app (xs.drop k) (xs.take k)
    rw [List.take_append_drop] at h2
    rw [h2, List.length_drop, show xs.length - k = j by omega]
  have h3 : valW (xs.drop k) < 256 ^ j := valW_lt j _ (by rw [List.length_drop]; omega)
  have hp : 0 < 256 ^ j := Nat.pow_pos (by decide)
  rw [h1, Nat.mul_comm, Nat.mul_add_div hp, Nat.div_eq_of_lt h3, Nat.add_zero]
theorem bytes_zero (xs : List UInt8) (n : Nat) (hx : xs.length = 32) (hv : valW xs = n) (hn : n < 18446744073709551616) (k : Nat) (hk : k < 24) : (xs.getD k 0) = 0 ∧ valW (xs.take k) = 0 := by
  have h1 : ∀ j, j ≤ 24 → valW (xs.take j) = 0 := fun j hj => by
    rw [valW_pre xs j (32 - j) (by omega), hv]
    apply Nat.div_eq_of_lt
    refine Nat.lt_of_lt_of_le hn ?_
    exact Nat.le_trans (show 18446744073709551616 ≤ 256 ^ 8 by decide) (Nat.pow_le_pow_right (by decide) (by omega))
  have h2 := valW_step xs k (by omega)
  rw [h1 (k + 1) (by omega), h1 k (by omega)] at h2
  exact ⟨UInt8.toNat_inj.1 (by show _ = 0; omega), h1 k (by omega)⟩
theorem bytes_small (xs : List UInt8) (n : Nat) (hx : xs.length = 32) (hv : valW xs = n) (hn : n < 18446744073709551616) (k : Nat) (hk : k < 32) : valW (xs.take k) < 72057594037927936 := by
  have h2 := valW_step xs k (by omega)
  have h3 : valW (xs.take (k + 1)) ≤ n := by
    rw [valW_pre xs (k + 1) (32 - (k + 1)) (by omega), hv]
    exact Nat.div_le_self _ _
  omega
theorem bytes_all (xs : List UInt8) (n : Nat) (hx : xs.length = 32) (hv : valW xs = n) : valW (xs.take 32) = n := by
  rw [List.take_of_length_le (by omega), hv]
/-- a large number has a byte among the first that isn't nought -/
theorem bytes_large (xs : List UInt8) (n : Nat) (hx : xs.length = 32) (hv : valW xs = n) (hn : 18446744073709551616 ≤ n) (h : ∀ i, i < 24 → xs.getD i 0 = 0) : False := by
  have h1 : ∀ j, j ≤ 24 → valW (xs.take j) = 0 := fun j => by
    induction j with
    | zero => intro _; rfl
    | succ j ih =>
      intro hj
      rw [valW_step xs j (by omega), ih (by omega), h j (by omega)]
      rfl
  have h2 := valW_pre xs 24 8 (by omega)
  rw [h1 24 (by omega), hv] at h2
  have h3 : n / 256 ^ 8 = 0 := h2.symm
  have h4 : (256 : Nat) ^ 8 = 18446744073709551616 := by decide
  rw [h4] at h3
  omega
theorem bytes_pre0 (xs : List UInt8) (hx : xs.length = 32) : ∀ k, k ≤ 32 → (∀ i, i < k → xs.getD i 0 = 0) → valW (xs.take k) = 0
  | 0, _, _ => rfl
  | k + 1, hk, h => by
    rw [valW_step xs k (by omega), bytes_pre0 xs hx k (by omega) (fun i hi => h i (by omega)), h k (by omega)]
    rfl
theorem ent_fit (a ys : List UInt8) (v : Nat) (cd : List UInt8) (ha : a.length = 20) (hy : ys.length = 32) (hv : v < 18446744073709551616) : EntP.Fit ⟨a, v, ys, cd, []⟩ := ⟨ha, hv, hy, fun h hh => by cases hh⟩
theorem mul_add64 (u x : Nat) : IntKind.u64.wrap (IntKind.u64.wrap (256 * (u : Int)) + IntKind.u64.wrap (x : Int)) = (((u * 256 + x) % 18446744073709551616 : Nat) : Int) := by
  simp [IntKind.wrap, IntKind.bits, IntKind.signed]; omega
theorem mul_add65 (u x : Nat) : IntKind.u64.wrap (IntKind.u64.wrap (256 * (u : Int)) + (x : Int)) = (((u * 256 + x) % 18446744073709551616 : Nat) : Int) := by
  simp [IntKind.wrap, IntKind.bits, IntKind.signed]; omega
theorem code_own {w : World} {B B' : Nat} {A : Option Addr} {m d : Nat} {xs : List UInt8} (h : OwnB w B' (.slice A m d) xs) (hm : xs.length = m) (hB : B ≤ B') : CodeAt w B (.slice A m d) xs := by
  subst hm
  obtain ⟨C, d2, e, hr⟩ := h.reads
  injection e with e1 _ e3
  subst e1 e3
  refine ⟨A, _, d, rfl, hr, fun ad e1 => ?_⟩
  subst e1
  rcases h.2 with ⟨h0, _⟩ | ⟨g0, cap0, cur0, e0, hg0, hh, _⟩
  · cases h0
  · injection e0 with e1
    injection e1 with e1
    subst e1
    exact ⟨by show B ≤ g0; omega, (Array.getElem?_eq_some_iff.1 hh).1, _, hh⟩
theorem CodeAt.mono {w : World} {B B' : Nat} {c : Value} {xs : List UInt8} (h : CodeAt w B' c xs) (hB : B ≤ B') : CodeAt w B c xs := by
  obtain ⟨A, m, d, e, hr, hb⟩ := h
  exact ⟨A, m, d, e, hr, fun ad e1 => ⟨Nat.le_trans hB (hb ad e1).1, (hb ad e1).2⟩⟩
theorem CodeAt.none_ (w : World) (B : Nat) : CodeAt w B (.slice none 0 0) [] := ⟨none, 0, 0, rfl, ⟨rfl, Nat.le_refl _, by unfold maxLen; omega, fun h => absurd h (by omega)⟩, fun ad e => by cases e⟩
/-- an account that lies in a block of its own is laid behind a list -/
theorem acc_push {w W : World} {B : Nat} {A : Option Addr} {c : Nat} {es : List EntP} (hO : OwnE w B (.slice A es.length c) es) (hB : B ≤ w.heap.size) (hes : es.length ≤ 100000000) (e : EntP) (cv : Value) (hf : e.Fit) (hs : e.slots = [])
    (hb : Below w.heap.size w W) (hcode : CodeAt W B cv e.code) :
    ∃ A2 c2 w2, (Builtin.append_ #[47, 47] 47 #[.slice A es.length es.length, .slice (some ⟨W.heap.size, 0, none⟩) 1 1]).run Tryd.prog (W.alloc (.cells (ek e cv (.slice none 0 0)) 79)) = .ok (.slice A2 (es.length + 1) c2) w2 ∧
      OwnE w2 B (.slice A2 (es.length + 1) c2) (es ++ [e]) ∧ Below B w w2 ∧ (∀ k, k < W.heap.size → w2.heap[k]? = W.heap[k]?) := by
  have hO' := hO.keeps (KeepsLo.below (lo := B) hb)
  obtain ⟨v2, w2, hrun, hg, hO2⟩ := push_runC (w := W) (W := W.alloc (.cells (ek e cv (.slice none 0 0)) 79)) (N := W.heap.size) hO' (Nat.le_trans hB hb.size) e cv ⟨hf, hcode, by rw [hs]; exact World.ownsRow_nil _ _ _ _⟩ hes (KeepsLo.below (al (Below.refl _ _) _)) (Blk.new _ _ _)
  obtain ⟨A2, c2, rfl, _⟩ := hO2.reads
  rw [show (es ++ [e]).length = es.length + 1 by simp] at hrun hO2
  have hb2 : Below w.heap.size w (W.alloc (.cells (ek e cv (.slice none 0 0)) 79)) := al hb _
  exact ⟨A2, c2, w2, hrun, hO2, ⟨hg.os.trans hb2.os, hg.tape.trans hb2.tape, hg.output.trans hb2.output, Nat.le_trans hb2.size hg.size, fun k hk => (hg.block k (by have := hb2.size; omega) (by simp)).trans (hb2.block k (by omega))⟩, fun k hk => (hg.block k (by rw [World.size_alloc]; omega) (by simp)).trans (Below.heap_alloc W _ k hk)⟩
end Go.Proofs.YtfjfjjcdlgdbcaaDoor
