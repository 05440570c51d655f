/- The document's Parse in plain words: it parses what archive.Parse parses -/
import Derived.Test.YtfjfjjcdlgdbcaaDoorE29
namespace Go.Proofs.YtfjfjjcdlgdbcaaDoor
open Go.RowKit
set_option linter.unusedSimpArgs false
set_option linter.unusedVariables false

/-! numbers -/
def isDig (b : UInt8) : Bool := decide (48 ≤ b.toNat ∧ b.toNat ≤ 57)
def valD (t : List UInt8) : Nat := t.foldl (fun u b => u * 10 + (b.toNat - 48)) 0
theorem valD_snoc (t : List UInt8) (b : UInt8) : valD (t ++ [b]) = valD t * 10 + (b.toNat - 48) := by simp [valD]
theorem valD_lt : ∀ (k : Nat) (t : List UInt8), t.length = k → t.all isDig = true → valD t < 10 ^ k := by
  intro k
  induction k with
  | zero =>
    intro t h _
    obtain rfl : t = [] := List.eq_nil_of_length_eq_zero h
    simp [valD]
  | succ k ih =>
    intro t h hd
    rcases List.eq_nil_or_concat t with e | ⟨l, b, e⟩
    · subst e; simp at h
    · rw [List.concat_eq_append] at e
      subst e
      simp only [List.length_append, List.length_cons, List.length_nil] at h
      simp only [List.all_append, List.all_cons, List.all_nil, Bool.and_true, Bool.and_eq_true] at hd
      have h1 := ih l (by omega) hd.1
      have h2 : 48 ≤ b.toNat ∧ b.toNat ≤ 57 := of_decide_eq_true hd.2
      rw [valD_snoc, Nat.pow_succ]
      omega
/-- no needless naught in front -/
def Trim (t : List UInt8) : Prop := t.head? ≠ some 48 ∨ t = [48]
theorem dec_val : ∀ (k : Nat) (t : List UInt8), t.length = k → t ≠ [] → t.all isDig = true → Trim t → Lib.decDigits (valD t) = t ∧ (t.head? ≠ some 48 → 1 ≤ valD t) := by
  intro k
  induction k with
  | zero => intro t h h0; exact absurd (List.eq_nil_of_length_eq_zero h) h0
  | succ k ih =>
    intro t h h0 hd ht
    rcases List.eq_nil_or_concat t with e | ⟨l, b, e⟩
    · exact absurd e h0
    · rw [List.concat_eq_append] at e
      subst e
      simp only [List.length_append, List.length_cons, List.length_nil] at h
      simp only [List.all_append, List.all_cons, List.all_nil, Bool.and_true, Bool.and_eq_true] at hd
      have h2 : 48 ≤ b.toNat ∧ b.toNat ≤ 57 := of_decide_eq_true hd.2
      rw [valD_snoc]
      cases l with
      | nil =>
        have e1 : valD [] * 10 + (b.toNat - 48) = b.toNat - 48 := by simp [valD]
        rw [e1]
        have e2 : UInt8.ofNat (48 + (b.toNat - 48)) = b := by
          apply UInt8.toNat_inj.1
          simp; omega
        refine ⟨by rw [Lib.decDigits, dif_pos (by omega), e2]; rfl, fun hh => ?_⟩
        simp only [List.nil_append, List.head?_cons, ne_eq, Option.some.injEq] at hh
        have : b.toNat ≠ 48 := fun e => hh (UInt8.toNat_inj.1 (by rw [e]; rfl))
        omega
      | cons c l =>
        have hh : (c :: l).head? ≠ some 48 := by
          rcases ht with ht | ht
          · simpa using ht
          · simp at ht
        obtain ⟨i1, i2⟩ := ih (c :: l) (by omega) (by simp) hd.1 (.inl hh)
        have i3 := i2 hh
        refine ⟨?_, fun _ => by omega⟩
        have e2 : UInt8.ofNat (48 + (b.toNat - 48)) = b := by
          apply UInt8.toNat_inj.1
          simp; omega
        rw [Lib.decDigits, dif_neg (by omega), show (valD (c :: l) * 10 + (b.toNat - 48)) / 10 = valD (c :: l) by omega, show (valD (c :: l) * 10 + (b.toNat - 48)) % 10 = b.toNat - 48 by omega, i1, e2]
theorem val_dec : ∀ (k u : Nat), u ≤ k → valD (Lib.decDigits u) = u := by
  intro k
  induction k with
  | zero =>
    intro u hu
    obtain rfl : u = 0 := by omega
    rw [Lib.decDigits, dif_pos (by decide)]
    rfl
  | succ k ih =>
    intro u hu
    rw [Lib.decDigits]
    split
    · rename_i hlt
      have : (UInt8.ofNat (48 + u)).toNat = 48 + u := by simp; omega
      simp [valD]
      omega
    · rw [valD_snoc, ih _ (by omega)]
      have : (UInt8.ofNat (48 + u % 10)).toNat = 48 + u % 10 := by simp; omega
      rw [this]; omega
theorem dec_trim : ∀ (k u : Nat), u ≤ k → 1 ≤ u → (Lib.decDigits u).head? ≠ some 48 := by
  intro k
  induction k with
  | zero => intro u h1 h2; omega
  | succ k ih =>
    intro u h1 h2
    rw [Lib.decDigits]
    split
    · rename_i hlt
      simp only [List.head?_cons, ne_eq, Option.some.injEq]
      intro e
      have := congrArg UInt8.toNat e
      simp at this
      omega
    · have := ih (u / 10) (by omega) (by omega)
      cases hd : Lib.decDigits (u / 10) with
      | nil => exact absurd hd (dec_ne _)
      | cons c l => rw [hd] at this; simpa using this
theorem dec_all (u : Nat) : (Lib.decDigits u).all isDig = true := by
  rw [List.all_eq_true]
  intro b hb
  exact decide_eq_true (dec_digit u u (Nat.le_refl _) b hb)
theorem decLen : ∀ (k u : Nat), u < 10 ^ (k + 1) → (Lib.decDigits u).length ≤ k + 1 := by
  intro k
  induction k with
  | zero => intro u h; rw [Lib.decDigits, dif_pos (by omega)]; simp
  | succ k ih =>
    intro u h
    rw [Lib.decDigits]
    split
    · simp
    · have := ih (u / 10) (by rw [Nat.pow_succ] at h; omega)
      simp only [List.length_append, List.length_cons, List.length_nil]
      omega
/-- the document's int of digits -/
def negL (t : List UInt8) : Option Int := if t = [] ∨ 19 < t.length ∨ t.head? = some 48 then none else if t.all isDig = true then (if 9223372036854775808 < valD t then none else some (-(valD t : Int))) else none
def posL (t : List UInt8) : Option Int := if t = [] ∨ 19 < t.length ∨ (t.head? = some 48 ∧ 1 < t.length) then none else if t.all isDig = true then (if 9223372036854775807 < valD t then none else some (valD t : Int)) else none
def toIntL (s : List UInt8) : Option Int := if s.head? = some 45 then negL s.tail else posL s
theorem toIntL_neg (t : List UInt8) : toIntL (45 :: t) = negL t := if_pos rfl
theorem toIntL_pos (t : List UInt8) (h : t.head? ≠ some 45) : toIntL t = posL t := if_neg h
theorem numL_some (s : List UInt8) (n : Int) (h : numL s = some n) : s = Lib.itoa n ∧ -9223372036854775808 ≤ n ∧ n ≤ 9223372036854775807 := by
  unfold numL at h
  split at h
  · rename_i v hv
    split at h
    · rename_i e
      obtain rfl := Option.some.inj h
      exact ⟨e.symm, atoi_bounds s v hv⟩
    · cases h
  · cases h
theorem toIntL_itoa (n : Int) (h0 : -9223372036854775808 ≤ n) (h1 : n ≤ 9223372036854775807) : toIntL (Lib.itoa n) = some n := by
  unfold Lib.itoa
  split
  · rename_i hn
    have hl := decLen 18 n.natAbs (by omega)
    rw [toIntL_neg]
    unfold negL
    rw [if_neg (by
      rintro (h | h | h)
      · exact dec_ne _ h
      · omega
      · exact dec_trim _ n.natAbs (Nat.le_refl _) (by omega) h), if_pos (dec_all _), val_dec _ _ (Nat.le_refl _), if_neg (by omega)]
    congr 1; omega
  · rename_i hn
    have hl := decLen 18 n.toNat (by omega)
    rw [toIntL_pos _ (by
      intro h
      cases hd : Lib.decDigits n.toNat with
      | nil => exact dec_ne _ hd
      | cons c r =>
        rw [hd] at h
        simp only [List.head?_cons, Option.some.injEq] at h
        have := dec_digit _ n.toNat (Nat.le_refl _) c (by rw [hd]; simp)
        rw [h] at this
        simp at this)]
    unfold posL
    rw [if_neg (by
      rintro (h | h | ⟨h, h2⟩)
      · exact dec_ne _ h
      · omega
      · by_cases hz : n.toNat = 0
        · rw [hz, Lib.decDigits, dif_pos (by decide)] at h2
          simp at h2
        · exact dec_trim _ n.toNat (Nat.le_refl _) (by omega) h), if_pos (dec_all _), val_dec _ _ (Nat.le_refl _), if_neg (by omega)]
    congr 1; omega
theorem toIntL_eq (s : List UInt8) : toIntL s = numL s := by
  cases hn : numL s with
  | some n =>
    obtain ⟨rfl, h0, h1⟩ := numL_some s n hn
    exact toIntL_itoa n h0 h1
  | none =>
    cases ht : toIntL s with
    | none => rfl
    | some n =>
      exfalso
      have key : s = Lib.itoa n ∧ -9223372036854775808 ≤ n ∧ n ≤ 9223372036854775807 := by
        by_cases hh : s.head? = some 45
        · obtain ⟨t, rfl⟩ : ∃ t, s = 45 :: t := by
            cases s with
            | nil => cases hh
            | cons c t => simp only [List.head?_cons, Option.some.injEq] at hh; exact ⟨t, by rw [hh]⟩
          rw [toIntL_neg] at ht
          unfold negL at ht
          by_cases hc : t = [] ∨ 19 < t.length ∨ t.head? = some 48
          · rw [if_pos hc] at ht; cases ht
          rw [if_neg hc] at ht
          by_cases ha : t.all isDig = true
          · rw [if_pos ha] at ht
            by_cases hv : 9223372036854775808 < valD t
            · rw [if_pos hv] at ht; cases ht
            · rw [if_neg hv] at ht
              obtain rfl := Option.some.inj ht
              have ht0 : t ≠ [] := fun e => hc (.inl e)
              have hth : t.head? ≠ some 48 := fun e => hc (.inr (.inr e))
              obtain ⟨d1, d2⟩ := dec_val _ t rfl ht0 ha (.inl hth)
              have d3 := d2 hth
              refine ⟨?_, by omega, by omega⟩
              unfold Lib.itoa
              rw [if_pos (by omega), show (-(valD t : Int)).natAbs = valD t by omega, d1]
          · rw [if_neg ha] at ht; cases ht
        · rw [toIntL_pos s hh] at ht
          unfold posL at ht
          by_cases hc : s = [] ∨ 19 < s.length ∨ (s.head? = some 48 ∧ 1 < s.length)
          · rw [if_pos hc] at ht; cases ht
          rw [if_neg hc] at ht
          by_cases ha : s.all isDig = true
          · rw [if_pos ha] at ht
            by_cases hv : 9223372036854775807 < valD s
            · rw [if_pos hv] at ht; cases ht
            · rw [if_neg hv] at ht
              obtain rfl := Option.some.inj ht
              have ht0 : s ≠ [] := fun e => hc (.inl e)
              have hth : Trim s := by
                by_cases e : s.head? = some 48
                · right
                  have hl : ¬ 1 < s.length := fun h => hc (.inr (.inr ⟨e, h⟩))
                  cases s with
                  | nil => exact absurd rfl ht0
                  | cons c r =>
                    simp only [List.head?_cons, Option.some.injEq] at e
                    simp only [List.length_cons] at hl
                    obtain rfl : r = [] := List.eq_nil_of_length_eq_zero (by omega)
                    rw [e]
                · exact .inl e
              obtain ⟨d1, _⟩ := dec_val _ s rfl ht0 ha hth
              refine ⟨?_, by omega, by omega⟩
              unfold Lib.itoa
              rw [if_neg (by omega), show ((valD s : Int)).toNat = valD s by omega, d1]
          · rw [if_neg ha] at ht; cases ht
      obtain ⟨rfl, h0, h1⟩ := key
      rw [numL_itoa n h0 h1] at hn
      cases hn

/-! fields: what is parsed prints so -/
theorem halfN_dig (c : UInt8) (h : halfN c < 16) : dig (halfN c) = c := by
  have hf : (List.range 16).findIdx (fun i => decide (dig i = c)) < (List.range 16).length := by
    rw [List.length_range]; exact h
  have := List.findIdx_getElem (w := hf)
  simp only [List.getElem_range, decide_eq_true_eq] at this
  exact this
theorem hex_unhexR : ∀ (s bs : List UInt8), s.length % 2 = 0 → unhexR s = some bs → hexL bs = s
  | [], bs, _, h => by
    obtain rfl := Option.some.inj h
    rfl
  | [a], bs, h, _ => by simp at h
  | a :: b :: r, bs, hl, h => by
    rw [unhexR] at h
    split at h
    · rename_i hab
      obtain ⟨o, ho, rfl⟩ := Option.map_eq_some_iff.1 h
      have ih := hex_unhexR r o (by simp only [List.length_cons] at hl; omega) ho
      have e : hexL (UInt8.ofNat (16 * halfN a + halfN b) :: o) = dig2 (UInt8.ofNat (16 * halfN a + halfN b)) ++ hexL o := rfl
      have e1 : (UInt8.ofNat (16 * halfN a + halfN b)).toNat = 16 * halfN a + halfN b := by simp; omega
      rw [e, ih, dig2, e1, show (16 * halfN a + halfN b) / 16 = halfN a by omega, show (16 * halfN a + halfN b) % 16 = halfN b by omega, halfN_dig a hab.1, halfN_dig b hab.2]
      rfl
    · cases h
theorem hex_unhexV (s : List UInt8) (h : (unhexV s).2 = true) : hexL (unhexV s).1 = s := by
  unfold unhexV at h ⊢
  cases hu : unhexR s with
  | none => rw [hu] at h; cases h
  | some bs =>
    rw [hu] at h
    exact hex_unhexR s bs (of_decide_eq_true h) hu
theorem hex_undig (s : List UInt8) (h : (undigL s).2 = true) (hn : s ≠ [46]) : hexL (undigL s).1 = s ∧ (undigL s).1 ≠ [] := by
  unfold undigL at h ⊢
  rw [if_neg hn] at h ⊢
  simp only [Bool.and_eq_true, decide_eq_true_eq] at h
  refine ⟨hex_unhexV s h.1, fun e => ?_⟩
  simp only at e
  rw [e] at h
  simp at h
theorem dot_undig (s : List UInt8) (h : (undigL s).2 = true) : dotL (hexL (undigL s).1) = s := by
  by_cases hn : s = [46]
  · subst hn; rfl
  · obtain ⟨h1, h2⟩ := hex_undig s h hn
    rw [h1, dotL, if_neg]
    rintro rfl
    have := hexL_length (undigL []).1
    rw [h1] at this
    simp only [List.length_nil] at this
    exact h2 (List.eq_nil_of_length_eq_zero (by omega))
theorem undig_len (s : List UInt8) (n : Nat) (hn : 0 < n) (h : (undigL s).2 = true ∧ (undigL s).1.length = n) : hexL (undigL s).1 = s := by
  refine (hex_undig s h.1 ?_).1
  rintro rfl
  have : (undigL [46]).1 = [] := rfl
  rw [this] at h
  simp only [List.length_nil] at h
  omega
theorem keysP_back : ∀ (ps : List (List UInt8)) (l : List (List UInt8 × List UInt8)), keysP ps = some l → keysT l = ps ∧ anyNil l = false
  | [], l, h => by
    obtain rfl := Option.some.inj h
    exact ⟨rfl, rfl⟩
  | p :: ps, l, h => by
    rw [keysP] at h
    split at h
    · rename_i hp
      obtain ⟨d, hd, rfl⟩ := Option.map_eq_some_iff.1 h
      obtain ⟨i1, i2⟩ := keysP_back ps d hd
      obtain ⟨h1, h2⟩ := hex_undig p hp.1 hp.2
      refine ⟨?_, ?_⟩
      · show hexL (undigL p).1 :: keysT d = _
        rw [h1, i1]
      · show ((undigL p).1.isEmpty || anyNil d) = false
        rw [i2, Bool.or_false]
        cases hq : (undigL p).1 with
        | nil => exact absurd hq h2
        | cons a b => rfl
    · cases h
theorem join_cons2 (p q : List UInt8) (ps : List (List UInt8)) (c : UInt8) : Lib.join (p :: q :: ps) [c] = p ++ c :: Lib.join (q :: ps) [c] := by
  rw [Lib.join_cons, Lib.join_cons]
  simp [Lib.joinTail]
theorem join_split (c : UInt8) : ∀ s : List UInt8, Lib.join (splitL c s) [c] = s
  | [] => rfl
  | b :: s => by
    have ih := join_split c s
    rw [splitL]
    split
    · rename_i h
      subst h
      cases hs : splitL b s with
      | nil => exact absurd hs (splitL_ne b s)
      | cons p ps =>
        rw [hs] at ih
        rw [join_cons2, ih]
        rfl
    · cases hs : splitL c s with
      | nil => exact absurd hs (splitL_ne c s)
      | cons p ps =>
        rw [hs, Lib.join_cons] at ih
        rw [consHead, Lib.join_cons, List.cons_append, ih]
theorem tail_split (c : UInt8) (s : List UInt8) (p : List UInt8) (ps : List (List UInt8)) (h : splitL c s = p :: ps) : p ++ (ps.map fun y => c :: y).flatten = s := by
  have := join_split c s
  rw [h, Lib.join_cons] at this
  exact this
/-- a field that was parsed prints so, and no other one has changed -/
theorem pF_back (A A' : ActP) (c : UInt8) (s : List UInt8) (hc : c = 97 ∨ c = 107 ∨ c = 119 ∨ c = 114 ∨ c = 110 ∨ c = 109 ∨ c = 98 ∨ c = 108) (hl : c = 108 → A.l = []) (h : pF A c s = some A') :
    fieldL A' (c.toNat : Int) = s ∧ A'.kind = A.kind ∧ (∀ d : UInt8, d ≠ c → (d = 97 ∨ d = 107 ∨ d = 119 ∨ d = 114 ∨ d = 110 ∨ d = 109 ∨ d = 98 ∨ d = 108) → fieldL A' (d.toNat : Int) = fieldL A (d.toNat : Int)) ∧ (c ≠ 108 → A'.l = A.l) ∧ (c = 108 → anyNil A'.l = false) ∧ (c ≠ 98 → A'.b = A.b) := by
  rcases hc with rfl | rfl | rfl | rfl | rfl | rfl | rfl | rfl
  · have e : pF A 97 s = if (undigL s).2 = true ∧ (undigL s).1.length = 20 then some { A with addr := (undigL s).1 } else none := rfl
    rw [e] at h
    split at h
    · rename_i hu
      obtain rfl := Option.some.inj h
      refine ⟨undig_len s 20 (by omega) hu, rfl, fun d hd hd2 => ?_, fun _ => rfl, (fun h => by simp at h), fun _ => rfl⟩
      rcases hd2 with rfl | rfl | rfl | rfl | rfl | rfl | rfl | rfl <;> first | rfl | exact absurd rfl hd
    · cases h
  · have e : pF A 107 s = if (undigL s).2 = true ∧ (undigL s).1.length = 32 then some { A with key := (undigL s).1 } else none := rfl
    rw [e] at h
    split at h
    · rename_i hu
      obtain rfl := Option.some.inj h
      refine ⟨undig_len s 32 (by omega) hu, rfl, fun d hd hd2 => ?_, fun _ => rfl, (fun h => by simp at h), fun _ => rfl⟩
      rcases hd2 with rfl | rfl | rfl | rfl | rfl | rfl | rfl | rfl <;> first | rfl | exact absurd rfl hd
    · cases h
  · have e : pF A 119 s = if (undigL s).2 = true ∧ (undigL s).1.length = 32 then some { A with word := (undigL s).1 } else none := rfl
    rw [e] at h
    split at h
    · rename_i hu
      obtain rfl := Option.some.inj h
      refine ⟨undig_len s 32 (by omega) hu, rfl, fun d hd hd2 => ?_, fun _ => rfl, (fun h => by simp at h), fun _ => rfl⟩
      rcases hd2 with rfl | rfl | rfl | rfl | rfl | rfl | rfl | rfl <;> first | rfl | exact absurd rfl hd
    · cases h
  · have e : pF A 114 s = if (undigL s).2 = true ∧ (undigL s).1.length = 32 then some { A with root := (undigL s).1 } else none := rfl
    rw [e] at h
    split at h
    · rename_i hu
      obtain rfl := Option.some.inj h
      refine ⟨undig_len s 32 (by omega) hu, rfl, fun d hd hd2 => ?_, fun _ => rfl, (fun h => by simp at h), fun _ => rfl⟩
      rcases hd2 with rfl | rfl | rfl | rfl | rfl | rfl | rfl | rfl <;> first | rfl | exact absurd rfl hd
    · cases h
  · have e : pF A 110 s = (numL s).map fun n => { A with n := n } := rfl
    rw [e] at h
    obtain ⟨n, hn, rfl⟩ := Option.map_eq_some_iff.1 h
    refine ⟨(numL_some s n hn).1.symm, rfl, fun d hd hd2 => ?_, fun _ => rfl, (fun h => by simp at h), fun _ => rfl⟩
    rcases hd2 with rfl | rfl | rfl | rfl | rfl | rfl | rfl | rfl <;> first | rfl | exact absurd rfl hd
  · have e : pF A 109 s = (numL s).map fun n => { A with m := n } := rfl
    rw [e] at h
    obtain ⟨n, hn, rfl⟩ := Option.map_eq_some_iff.1 h
    refine ⟨(numL_some s n hn).1.symm, rfl, fun d hd hd2 => ?_, fun _ => rfl, (fun h => by simp at h), fun _ => rfl⟩
    rcases hd2 with rfl | rfl | rfl | rfl | rfl | rfl | rfl | rfl <;> first | rfl | exact absurd rfl hd
  · have e : pF A 98 s = if (undigL s).2 = true then some { A with b := (undigL s).1 } else none := rfl
    rw [e] at h
    split at h
    · rename_i hu
      obtain rfl := Option.some.inj h
      refine ⟨dot_undig s hu, rfl, fun d hd hd2 => ?_, fun _ => rfl, (fun h => by simp at h), fun h => absurd rfl h⟩
      rcases hd2 with rfl | rfl | rfl | rfl | rfl | rfl | rfl | rfl <;> first | rfl | exact absurd rfl hd
    · cases h
  · have e : pF A 108 s = if s = [46] then some A else (keysP (splitL 44 s)).map fun l => { A with l := A.l ++ l } := rfl
    rw [e] at h
    have hl := hl rfl
    split at h
    · rename_i hs
      obtain rfl := Option.some.inj h
      subst hs
      exact ⟨by show listL A.l = _; rw [hl]; rfl, rfl, fun _ _ _ => rfl, fun _ => rfl, fun _ => by rw [hl]; rfl, fun _ => rfl⟩
    · obtain ⟨d, hd, rfl⟩ := Option.map_eq_some_iff.1 h
      obtain ⟨k1, k2⟩ := keysP_back _ _ hd
      refine ⟨?_, rfl, fun d' hd' hd2 => ?_, fun h => absurd rfl h, fun _ => by simp only [hl, List.nil_append]; exact k2, fun _ => rfl⟩
      · show listL (A.l ++ d) = s
        rw [hl, List.nil_append, listL, k1, if_neg, join_split]
        rintro rfl
        have := splitL_ne 44 s
        rw [← k1] at this
        exact this rfl
      · rcases hd2 with rfl | rfl | rfl | rfl | rfl | rfl | rfl | rfl <;> first | rfl | exact absurd rfl hd'
theorem parseFs_back : ∀ (fs : List UInt8) (ws : List (List UInt8)) (A A' : ActP), fs.Nodup → (∀ c ∈ fs, c = 97 ∨ c = 107 ∨ c = 119 ∨ c = 114 ∨ c = 110 ∨ c = 109 ∨ c = 98 ∨ c = 108) → (108 ∈ fs → A.l = []) → ws.length = fs.length → parseFs pF A fs ws = some A' →
    (fs.map fun c => fieldL A' (c.toNat : Int)) = ws ∧ A'.kind = A.kind ∧ (∀ d : UInt8, d ∉ fs → (d = 97 ∨ d = 107 ∨ d = 119 ∨ d = 114 ∨ d = 110 ∨ d = 109 ∨ d = 98 ∨ d = 108) → fieldL A' (d.toNat : Int) = fieldL A (d.toNat : Int)) ∧ (108 ∈ fs → anyNil A'.l = false) ∧ (108 ∉ fs → A'.l = A.l)
  | [], ws, A, A', _, _, _, hw, h => by
    obtain rfl : ws = [] := List.eq_nil_of_length_eq_zero hw
    obtain rfl := Option.some.inj h
    exact ⟨rfl, rfl, fun _ _ _ => rfl, (fun h => by cases h), fun _ => rfl⟩
  | c :: fs, [], A, A', _, _, _, hw, h => by simp at hw
  | c :: fs, s :: ws, A, A', hd, hc, hl, hw, h => by
    rw [parseFs, List.headD_cons] at h
    cases hp : pF A c s with
    | none => rw [hp] at h; cases h
    | some A1 =>
      rw [hp] at h
      simp only [List.tail_cons] at h
      obtain ⟨b1, b2, b3, b4, b5, _⟩ := pF_back A A1 c s (hc c (by simp)) (fun e => hl (by rw [e]; simp)) hp
      have hd' := List.nodup_cons.1 hd
      have hl1 : 108 ∈ fs → A1.l = [] := fun hm => by
        rw [b4 (fun e => hd'.1 (by rw [e]; exact hm))]
        exact hl (by simp [hm])
      obtain ⟨i1, i2, i3, i4, i5⟩ := parseFs_back fs ws A1 A' hd'.2 (fun c' h' => hc c' (by simp [h'])) hl1 (by simpa using hw) h
      refine ⟨?_, i2.trans b2, fun d hdn hd2 => ?_, fun hm => ?_, fun hm => ?_⟩
      · rw [List.map_cons, i1, i3 c hd'.1 (hc c (by simp)), b1]
      · rw [i3 d (fun h' => hdn (by simp [h'])) hd2, b3 d (fun e => hdn (by rw [e]; simp)) hd2]
      · by_cases e : (108 : UInt8) ∈ fs
        · exact i4 e
        · rw [i5 e]
          rcases List.mem_cons.1 hm with h' | h'
          · exact b5 h'.symm
          · exact absurd h' e
      · rw [i5 (fun h' => hm (by simp [h'])), b4 (fun e => hm (by rw [e]; simp))]
theorem kf_nodup (n : Int) : (kf n).Nodup := by
  by_cases h : isKind n
  · have : ∀ k : Fin 28, (kt.getD k.val ([], [])).2.Nodup := by decide +kernel
    have h2 := this ⟨n.toNat, by unfold isKind at h; omega⟩
    unfold kf
    rw [if_pos (by unfold isKind at h; omega)]
    exact h2
  · rw [kf_no n h]; simp
theorem kindOf_word (w0 : List UInt8) (h : 0 ≤ kindOf w0) : isKind (kindOf w0) ∧ kw (kindOf w0) = w0 := by
  have hr := kindOf_range w0
  by_cases hx : ∃ k : Nat, k < 28 ∧ (kt.getD k ([], [])).1 ≠ [] ∧ (kt.getD k ([], [])).1 = w0
  · have hk : kindOf w0 = ((List.range 28).findIdx fun k => decide ((kt.getD k ([], [])).1 ≠ [] ∧ (kt.getD k ([], [])).1 = w0) : Nat) := by unfold kindOf; rw [dif_pos hx]
    generalize hq : (List.range 28).findIdx (fun k => decide ((kt.getD k ([], [])).1 ≠ [] ∧ (kt.getD k ([], [])).1 = w0)) = q at hk
    have hlt : (List.range 28).findIdx (fun k => decide ((kt.getD k ([], [])).1 ≠ [] ∧ (kt.getD k ([], [])).1 = w0)) < (List.range 28).length := by rw [hq, List.length_range]; omega
    have hg := List.findIdx_getElem (w := hlt)
    simp only [List.getElem_range, decide_eq_true_eq, hq] at hg
    rw [hk]
    have hq0 : q ≠ 0 := by
      rintro rfl
      exact hg.1 rfl
    refine ⟨by unfold isKind; omega, ?_⟩
    unfold kw
    rw [if_pos (by omega)]
    exact hg.2
  · exfalso
    have : kindOf w0 = -1 := kindOf_no w0 (fun k hk => decide_eq_false (fun h => hx ⟨k, hk, h⟩))
    omega

/-- what the document's Parse lays for a field -/
def rF (A : ActP) (c : UInt8) (s : List UInt8) : Option ActP := if c = 98 ∧ s = [46] then some A else pF A c s
def parseR (x : List UInt8) : Option ActP :=
  if 0 ≤ kindOf ((splitL 32 x).headD []) ∧ (splitL 32 x).length = 1 + (kf (kindOf ((splitL 32 x).headD []))).length then
    parseFs rF (zAct (kindOf ((splitL 32 x).headD []))) (kf (kindOf ((splitL 32 x).headD []))) (splitL 32 x).tail
  else none
theorem parseFs_rF : ∀ (fs : List UInt8) (ws : List (List UInt8)) (A : ActP), fs.Nodup → (∀ c ∈ fs, c = 97 ∨ c = 107 ∨ c = 119 ∨ c = 114 ∨ c = 110 ∨ c = 109 ∨ c = 98 ∨ c = 108) → (108 ∈ fs → A.l = []) → (98 ∈ fs → A.b = []) → parseFs rF A fs ws = parseFs pF A fs ws
  | [], ws, A, _, _, _, _ => rfl
  | c :: fs, ws, A, hd, hc, hl, hb => by
    have e : rF A c (ws.headD []) = pF A c (ws.headD []) := by
      unfold rF
      split
      · rename_i h
        rw [h.1, h.2]
        show some A = some { A with b := [] }
        have := hb (by rw [h.1]; simp)
        rw [← this]
      · rfl
    rw [parseFs, parseFs, e]
    cases hp : pF A c (ws.headD []) with
    | none => rfl
    | some A1 =>
      obtain ⟨_, _, _, b4, _, b6⟩ := pF_back A A1 c _ (hc c (by simp)) (fun e => hl (by rw [e]; simp)) hp
      have hd' := List.nodup_cons.1 hd
      exact parseFs_rF fs ws.tail A1 hd'.2 (fun c' h' => hc c' (by simp [h'])) (fun hm => by rw [b4 (fun e => hd'.1 (by rw [e]; exact hm))]; exact hl (by simp [hm])) (fun hm => by rw [b6 (fun e => hd'.1 (by rw [e]; exact hm))]; exact hb (by simp [hm]))
theorem parseR_at (x w0 : List UInt8) (ws : List (List UInt8)) (hs : splitL 32 x = w0 :: ws) :
    parseR x = if 0 ≤ kindOf w0 ∧ ws.length = (kf (kindOf w0)).length then parseFs rF (zAct (kindOf w0)) (kf (kindOf w0)) ws else none := by
  unfold parseR
  rw [hs]
  simp only [List.headD_cons, List.tail_cons, List.length_cons]
  congr 1
  simp only [eq_iff_iff, and_congr_right_iff]
  intro _
  omega
/-- the document's Parse and the program's tell the same -/
theorem parse_alike (x : List UInt8) : parseG pF x = parseR x := by
  obtain ⟨w0, ws, hws⟩ : ∃ w0 ws, splitL 32 x = w0 :: ws := by
    cases hs : splitL 32 x with
    | nil => exact absurd hs (splitL_ne 32 x)
    | cons a b => exact ⟨a, b, rfl⟩
  rw [parseR_at x w0 ws hws]
  by_cases hc : 0 ≤ kindOf w0 ∧ ws.length = (kf (kindOf w0)).length
  · rw [if_pos hc]
    have hk := kindOf_word w0 hc.1
    rw [parseFs_rF _ _ _ (kf_nodup _) (kf_fields _) (fun _ => rfl) (fun _ => rfl)]
    cases hp : parseFs pF (zAct (kindOf w0)) (kf (kindOf w0)) ws with
    | none =>
      by_cases hall : x.all okByte = true
      · rw [parseG_at pF x w0 ws hall hws, if_pos hc, hp]
      · exact parseG_bad pF x (by simpa using hall)
    | some A =>
      obtain ⟨b1, b2, _, b4, _⟩ := parseFs_back _ _ _ _ (kf_nodup _) (kf_fields _) (fun _ => rfl) hc.2 hp
      have hkd : A.kind = kindOf w0 := b2
      have ht : printT A = x := by
        unfold printT fieldsT
        rw [hkd, hk.2]
        have := tail_split 32 x w0 ws hws
        rw [← b1] at this
        rw [← this, List.map_map]
        rfl
      have hbad : badA A = false := by
        unfold badA
        rw [hkd]
        simp only [Bool.or_eq_false_iff, Bool.not_eq_false', decide_eq_true_eq, Bool.and_eq_false_imp]
        refine ⟨hk.1, fun h22 => b4 ?_⟩
        rw [h22]; decide
      have hall : x.all okByte = true := by rw [← ht]; exact printT_ok A
      rw [parseG_at pF x w0 ws hall hws, if_pos hc, hp]
      simp only
      rw [if_pos ⟨hbad, ht⟩]
  · rw [if_neg hc]
    by_cases hall : x.all okByte = true
    · rw [parseG_at pF x w0 ws hall hws, if_neg hc]
    · exact parseG_bad pF x (by simpa using hall)


theorem splitL_snoc (c b : UInt8) : ∀ (l : List UInt8) (o : List (List UInt8)) (p : List UInt8), splitL c l = o ++ [p] → splitL c (l ++ [b]) = if b = c then o ++ [p, []] else o ++ [p ++ [b]]
  | [], o, p, h => by
    have h1 : o = [] ∧ p = [] := by
      cases o with
      | nil => simp [splitL] at h; exact ⟨rfl, h⟩
      | cons y ys => simp [splitL] at h
    obtain ⟨rfl, rfl⟩ := h1
    rw [List.nil_append, splitL]
    rfl
  | a :: l, o, p, h => by
    rw [splitL] at h
    rw [List.cons_append, splitL]
    by_cases e : a = c
    · rw [if_pos e] at h
      rw [if_pos e]
      cases o with
      | nil =>
        simp only [List.nil_append, List.cons.injEq] at h
        exact absurd h.2 (splitL_ne c l)
      | cons y ys =>
        simp only [List.cons_append, List.cons.injEq] at h
        obtain ⟨rfl, h⟩ := h
        rw [splitL_snoc c b l ys p h]
        split <;> rfl
    · rw [if_neg e] at h
      rw [if_neg e]
      cases hs : splitL c l with
      | nil => exact absurd hs (splitL_ne c l)
      | cons y ys =>
        rw [hs, consHead] at h
        cases o with
        | nil =>
          simp only [List.nil_append, List.cons.injEq] at h
          obtain ⟨rfl, rfl⟩ := h
          rw [splitL_snoc c b l [] y hs]
          split <;> rfl
        | cons z zs =>
          simp only [List.cons_append, List.cons.injEq] at h
          obtain ⟨rfl, rfl⟩ := h
          rw [splitL_snoc c b l (y :: zs) p hs]
          split <;> rfl
/-- how far a line is cut -/
structure Cut (c : UInt8) (x : List UInt8) (k f : Nat) (o : List (List UInt8)) : Prop where
  hf : f ≤ k
  hk : k ≤ x.length
  hs : splitL c (x.take k) = o ++ [(x.take k).drop f]
theorem Cut.zero (c : UInt8) (x : List UInt8) : Cut c x 0 0 [] := ⟨by omega, by omega, rfl⟩
theorem take_snoc' (x : List UInt8) (k : Nat) (h : k < x.length) : x.take (k + 1) = x.take k ++ [x.getD k 0] := by
  rw [List.take_succ_eq_append_getElem h, List.getD_eq_getElem?_getD, List.getElem?_eq_getElem h]; rfl
theorem Cut.sep {c : UInt8} {x : List UInt8} {k f : Nat} {o : List (List UInt8)} (h : Cut c x k f o) (hk : k < x.length) (hb : x.getD k 0 = c) : Cut c x (k + 1) (k + 1) (o ++ [(x.take k).drop f]) := by
  refine ⟨by omega, by omega, ?_⟩
  have := splitL_snoc c (x.getD k 0) (x.take k) o _ h.hs
  rw [take_snoc' x k hk, this, if_pos hb]
  have e : (x.take k ++ [x.getD k 0]).drop (k + 1) = [] := List.drop_eq_nil_of_le (by simp; omega)
  rw [e]
  simp
theorem Cut.other {c : UInt8} {x : List UInt8} {k f : Nat} {o : List (List UInt8)} (h : Cut c x k f o) (hk : k < x.length) (hb : ¬ x.getD k 0 = c) : Cut c x (k + 1) f o := by
  have hf := h.hf
  refine ⟨by omega, by omega, ?_⟩
  have := splitL_snoc c (x.getD k 0) (x.take k) o _ h.hs
  rw [take_snoc' x k hk, this, if_neg hb, List.drop_append_of_le_length (by rw [List.length_take]; omega)]
theorem Cut.end_ {c : UInt8} {x : List UInt8} {f : Nat} {o : List (List UInt8)} (h : Cut c x x.length f o) : splitL c x = o ++ [x.drop f] := by
  have := h.hs
  rwa [List.take_length] at this
theorem Cut.len {c : UInt8} {x : List UInt8} {k f : Nat} {o : List (List UInt8)} (h : Cut c x k f o) : o.length ≤ k := by
  have h1 := congrArg List.length h.hs
  have h2 := splitL_length c (x.take k)
  simp at h1 h2
  omega
theorem extract_part (x : List UInt8) (f k : Nat) (hf : f ≤ k) (hk : k ≤ x.length) : (str x).extract f k = str ((x.take k).drop f) := by
  apply ByteArray.ext
  apply Array.ext'
  simp [str, ByteArray.data_extract]
  exact List.drop_take.symm

set_option maxRecDepth 100000 in
set_option maxHeartbeats 4000000 in
theorem words74_calls (x : List UInt8) (w : World) (hx : x.length ≤ 1000000) :
    Calls Tryd.prog 74 #[.string (str x)] w fun e w' => (∃ v, e = .returned v ∧ OwnS w' w.heap.size v (splitL 32 x)) ∧ Below w.heap.size w w' := by
  have hsz : (str x).size = x.length := rfl
  go_enter Tryd.func74, Tryd.ntmps74
  go_wp2
  go_loopw [3, 4, 5] (fun v f i wr => Below w.heap.size w wr ∧ ((∃ (k g : Nat) (o : List (List UInt8)), i = .int .i64 k ∧ f = .int .i64 g ∧ Cut 32 x k g o ∧ OwnS wr w.heap.size v o) ∨ (i = .int .i64 ((x.length : Int) + 1) ∧ OwnS wr w.heap.size v (splitL 32 x)))) (fun _ _ i _ => x.length + 2 - (intOf i).toNat)
  case atStart => exact ⟨Below.refl _ _, .inl ⟨0, 0, [], rfl, rfl, Cut.zero _ _, OwnS.nil _ _⟩⟩
  case round =>
    obtain ⟨hb, hrel⟩ := hrel
    have hbs := hb.size
    rcases hrel with ⟨k, g, o, rfl, rfl, hc, ho⟩ | ⟨rfl, ho⟩
    · have hk := hc.hk
      have hf := hc.hf
      have hol := hc.len
      have hex := extract_part x g k hf hk
      have HC := Lib.hid hc
      clear hc
      have hkI : (k : Int) ≤ (x.length : Int) := by omega
      have hgI : (0 : Int) ≤ (g : Int) ∧ (g : Int) ≤ (k : Int) := by omega
      by_cases hlt : k < x.length
      · have hne : ((k : Int) == (x.length : Int)) = false := by simp; omega
        have hne2 : ¬ (k : Int) = (x.length : Int) := by omega
        have hne3 : (k == x.length) = false := by simp; omega
        have hg0 : x[k]? = some (x.getD k 0) := by rw [List.getD_eq_getElem?_getD, List.getElem?_eq_getElem hlt]; rfl
        have hi0 := fun W => idx_strs (P := Tryd.prog) x k _ hg0 W Tryd.underlying9
        clear hg0
        have hsep := Lib.hid (HC.out.sep hlt)
        have hoth := Lib.hid (HC.out.other hlt)
        generalize x.getD k 0 = b at *
        by_cases hbb : b = 32
        · have HS := Lib.hid (hsep.out hbb)
          clear hsep hoth
          subst hbb
          go_wp2_with (first | (at_builtin; refine wpList_appendS _ rfl (.tmp 22) (.tmp 27) rfl w.heap.size _ o ((x.take k).drop g) rfl _ _ rfl (ho.alloc _) (World.cell?_alloc_at _ _ _ _ rfl) (by omega) (by simp; omega) ?_; intro v2 w2 ho2 hb2))
          go_roundw
          case rel => exact ⟨(al hb _).trans hb2, .inl ⟨k + 1, k + 1, _, by go_num, by go_num, HS.out, ho2⟩⟩
          case measure => simp [intOf]; omega
        · have HS := Lib.hid (hoth.out hbb)
          have hq : ¬ ((b.toNat : Int) = 32) := fun e => hbb (UInt8.toNat_inj.1 (by show b.toNat = 32; omega))
          have hq2 : ((b.toNat : Int) == 32) = false := by simpa using hq
          clear hsep hoth hbb
          go_wp2
          go_roundw
          case rel => exact ⟨hb, .inl ⟨k + 1, g, o, by go_num, rfl, HS.out, ho⟩⟩
          case measure => simp [intOf]; omega
      · obtain rfl : k = x.length := by omega
        have HE := Lib.hid HC.out.end_
        have hdt : (x.take x.length).drop g = x.drop g := by rw [List.take_length]
        rw [hdt] at hex
        have hee : ((x.length : Int) == (x.length : Int)) = true := by simp
        clear hdt
        go_wp2_with (first | (at_builtin; refine wpList_appendS _ rfl (.tmp 22) (.tmp 27) rfl w.heap.size _ o (x.drop g) rfl _ _ rfl (ho.alloc _) (World.cell?_alloc_at _ _ _ _ rfl) (by omega) (by simp; omega) ?_; intro v2 w2 ho2 hb2))
        go_roundw
        case rel => exact ⟨(al hb _).trans hb2, .inr ⟨by go_num, by rw [HE.out]; exact ho2⟩⟩
        case measure => simp [intOf]; try omega
    · have hn : ¬ (x.length : Int) + 1 ≤ (x.length : Int) := by omega
      go_wp2
      go_ret
      exact ⟨⟨_, rfl, ho⟩, hb⟩
end Go.Proofs.YtfjfjjcdlgdbcaaDoor
