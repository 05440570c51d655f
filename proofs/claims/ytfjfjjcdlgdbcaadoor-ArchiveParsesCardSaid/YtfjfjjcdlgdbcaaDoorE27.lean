/- Fields, back and forth -/
import Derived.Test.YtfjfjjcdlgdbcaaDoorE26
namespace Go.Proofs.YtfjfjjcdlgdbcaaDoor
open Go.RowKit
set_option linter.unusedSimpArgs false
set_option linter.unusedVariables false

theorem parseU_dec : ∀ (k u : Nat), u ≤ k → u < 18446744073709551616 → ∀ r, Lib.parseUint10 0 (Lib.decDigits u ++ r) = Lib.parseUint10 u r := by
  intro k
  induction k with
  | zero =>
    intro u hu _ r
    obtain rfl : u = 0 := by omega
    rw [Lib.decDigits, dif_pos (by decide)]
    rfl
  | succ k ih =>
    intro u hu h r
    have hd : ∀ d, d < 10 → (UInt8.ofNat (48 + d)).toNat = 48 + d := fun d hd => by simp; omega
    rw [Lib.decDigits]
    split
    · rename_i hlt
      rw [List.singleton_append, Lib.parseUint10, hd u hlt, if_pos (by omega), if_neg (by omega), if_neg (by omega)]
      congr 1; omega
    · rename_i hge
      have hm := hd (u % 10) (by omega)
      rw [List.append_assoc, ih (u / 10) (by omega) (by omega), List.singleton_append, Lib.parseUint10, hm, if_pos (by omega), if_neg (by omega), if_neg (by omega)]
      congr 1; omega
theorem dec_digit : ∀ (k u : Nat), u ≤ k → ∀ b ∈ Lib.decDigits u, 48 ≤ b.toNat ∧ b.toNat ≤ 57 := by
  intro k
  induction k with
  | zero =>
    intro u hu b hb
    obtain rfl : u = 0 := by omega
    rw [Lib.decDigits, dif_pos (by decide)] at hb
    simp at hb
    subst hb
    decide
  | succ k ih =>
    intro u hu b hb
    have hd : ∀ d, d < 10 → (UInt8.ofNat (48 + d)).toNat = 48 + d := fun d hd => by simp; omega
    rw [Lib.decDigits] at hb
    split at hb
    · rename_i hlt
      simp at hb
      subst hb
      have := hd u hlt
      simp at this ⊢
      omega
    · rcases List.mem_append.1 hb with hb | hb
      · exact ih _ (by omega) b hb
      · simp only [List.mem_singleton] at hb
        subst hb
        rw [hd _ (by omega)]
        omega
theorem dec_ne (u : Nat) : Lib.decDigits u ≠ [] := by
  rw [Lib.decDigits]
  split <;> simp
theorem parseMag_dec (u : Nat) (h : u < 18446744073709551616) : Lib.parseMag (Lib.decDigits u) = .ok u := by
  unfold Lib.parseMag
  rw [if_neg (dec_ne u)]
  have := parseU_dec u u (Nat.le_refl _) h []
  rw [List.append_nil] at this
  rw [this]
  rfl
theorem atoi_itoa (n : Int) (h0 : -9223372036854775808 ≤ n) (h1 : n ≤ 9223372036854775807) : Lib.atoiAll (Lib.itoa n) = .ok n := by
  unfold Lib.itoa
  split
  · rename_i hn
    have hp := parseMag_dec n.natAbs (by omega)
    simp only [Lib.atoiAll, show (45 : UInt8).toNat = 45 from rfl, or_true, if_true]
    rw [hp]
    simp only
    rw [if_neg (by simp), if_neg (by simp; omega)]
    simp; omega
  · rename_i hn
    have hp := parseMag_dec n.toNat (by omega)
    cases hd : Lib.decDigits n.toNat with
    | nil => exact absurd hd (dec_ne _)
    | cons c r =>
      have hc := dec_digit _ n.toNat (Nat.le_refl _) c (by rw [hd]; simp)
      rw [hd] at hp
      simp only [Lib.atoiAll]
      rw [if_neg (by omega), hp]
      simp only
      rw [if_neg (by omega), if_neg (by omega), if_neg (by omega)]
      simp; omega
theorem numL_itoa (n : Int) (h0 : -9223372036854775808 ≤ n) (h1 : n ≤ 9223372036854775807) : numL (Lib.itoa n) = some n := by
  rw [numL_ok _ _ (atoi_itoa n h0 h1), if_pos rfl]
theorem half_dig : ∀ n : Fin 16, halfN (dig n.val) = n.val := by decide
theorem unhexR_hex : ∀ xs : List UInt8, unhexR (hexL xs) = some xs
  | [] => rfl
  | x :: xs => by
    have hx := x.toNat_lt
    have e : hexL (x :: xs) = dig (x.toNat / 16) :: dig (x.toNat % 16) :: hexL xs := rfl
    have h1 := half_dig ⟨x.toNat / 16, by omega⟩
    have h2 := half_dig ⟨x.toNat % 16, by omega⟩
    simp only at h1 h2
    rw [e, unhexR, h1, h2, if_pos ⟨by omega, by omega⟩, unhexR_hex xs]
    simp only [Option.map_some, Option.some.injEq, List.cons.injEq, and_true]
    apply UInt8.toNat_inj.1
    simp; omega
theorem unhexV_hex (xs : List UInt8) : unhexV (hexL xs) = (xs, true) := by
  unfold unhexV
  rw [unhexR_hex, hexL_length]
  simp
theorem dig_ok : ∀ n : Fin 16, 48 ≤ (dig n.val).toNat ∧ (dig n.val).toNat ≤ 102 := by decide
theorem hex_ok (xs : List UInt8) : ∀ b ∈ hexL xs, 48 ≤ b.toNat ∧ b.toNat ≤ 102 := by
  intro b hb
  unfold hexL at hb
  obtain ⟨l, hl, hb⟩ := List.mem_flatten.1 hb
  obtain ⟨x, _, rfl⟩ := List.mem_map.1 hl
  have hx := x.toNat_lt
  simp only [dig2, List.mem_cons, List.not_mem_nil, or_false] at hb
  rcases hb with rfl | rfl
  · exact dig_ok ⟨x.toNat / 16, by omega⟩
  · exact dig_ok ⟨x.toNat % 16, by omega⟩
theorem hex_point (xs : List UInt8) : hexL xs ≠ [46] := by
  intro e
  have := hex_ok xs 46 (by rw [e]; simp)
  simp at this
theorem hex_nil (xs : List UInt8) : hexL xs = [] ↔ xs = [] := by
  have := hexL_length xs
  constructor
  · intro e; rw [e] at this; simp at this; exact List.eq_nil_of_length_eq_zero (by omega)
  · rintro rfl; rfl
theorem undig_hex (xs : List UInt8) (h : xs ≠ []) : undigL (hexL xs) = (xs, true) := by
  unfold undigL
  rw [if_neg (hex_point xs), unhexV_hex]
  simp [List.length_pos_iff, h]
theorem undig_dot (xs : List UInt8) : undigL (dotL (hexL xs)) = (xs, true) := by
  unfold dotL
  split
  · rename_i h
    rw [(hex_nil xs).1 h]
    rfl
  · rename_i h
    exact undig_hex xs (fun e => h ((hex_nil xs).2 e))
/-- cut at a byte that stands in no part, joined at it -/
theorem splitL_app (c : UInt8) (r : List UInt8) : ∀ x : List UInt8, (∀ b ∈ x, b ≠ c) → splitL c (x ++ c :: r) = x :: splitL c r
  | [], _ => by rw [List.nil_append, splitL, if_pos rfl]
  | b :: x, h => by
    rw [List.cons_append, splitL, if_neg (h b (by simp)), splitL_app c r x (fun b' hb' => h b' (by simp [hb']))]
    rfl
theorem splitL_none (c : UInt8) : ∀ x : List UInt8, (∀ b ∈ x, b ≠ c) → splitL c x = [x]
  | [], _ => rfl
  | b :: x, h => by
    rw [splitL, if_neg (h b (by simp)), splitL_none c x (fun b' hb' => h b' (by simp [hb']))]
    rfl
theorem splitL_tail (c : UInt8) : ∀ (xs : List (List UInt8)) (x : List UInt8), (∀ y ∈ x :: xs, ∀ b ∈ y, b ≠ c) → splitL c (x ++ (xs.map fun y => c :: y).flatten) = x :: xs
  | [], x, h => by
    rw [List.map_nil, List.flatten_nil, List.append_nil]
    exact splitL_none c x (h x (by simp))
  | y :: xs, x, h => by
    rw [List.map_cons, List.flatten_cons, List.cons_append, splitL_app c _ x (h x (by simp)), splitL_tail c xs y (fun z hz => h z (List.mem_cons_of_mem _ hz))]
theorem splitL_join (c : UInt8) (x : List UInt8) (xs : List (List UInt8)) (h : ∀ y ∈ x :: xs, ∀ b ∈ y, b ≠ c) : splitL c (Lib.join (x :: xs) [c]) = x :: xs := by
  rw [Lib.join_cons]
  exact splitL_tail c xs x h
theorem keysP_hex : ∀ l : List (List UInt8 × List UInt8), anyNil l = false → keysP (keysT l) = some (l.map fun kv => (kv.1, []))
  | [], _ => rfl
  | kv :: l, h => by
    simp only [anyNil, List.any_cons, Bool.or_eq_false_iff] at h
    have hk : kv.1 ≠ [] := by
      intro e; rw [e] at h; simp at h
    have e : keysT (kv :: l) = hexL kv.1 :: keysT l := rfl
    rw [e, keysP, undig_hex _ hk, if_pos ⟨rfl, hex_point _⟩, keysP_hex l h.2]
    rfl
theorem list_back (l : List (List UInt8 × List UInt8)) (h : anyNil l = false) (A : ActP) : pF A 108 (listL l) = some { A with l := A.l ++ l.map fun kv => (kv.1, []) } := by
  have e : pF A 108 (listL l) = if listL l = [46] then some A else (keysP (splitL 44 (listL l))).map fun l => { A with l := A.l ++ l } := rfl
  rw [e]
  cases l with
  | nil =>
    rw [if_pos (by decide)]
    simp
  | cons kv l =>
    have hl : listL (kv :: l) = Lib.join (keysT (kv :: l)) [44] := by unfold listL; rw [if_neg (by simp)]
    have ek : keysT (kv :: l) = hexL kv.1 :: keysT l := rfl
    have hb : ∀ y ∈ keysT (kv :: l), ∀ b ∈ y, 48 ≤ b.toNat ∧ b.toNat ≤ 102 := by
      intro y hy b hb
      obtain ⟨x, _, rfl⟩ := List.mem_map.1 hy
      exact hex_ok _ b hb
    have hs : splitL 44 (listL (kv :: l)) = keysT (kv :: l) := by
      rw [hl, ek]
      exact splitL_join 44 _ _ (fun y hy b hb' e => by have := hb y (by rw [ek]; exact hy) b hb'; rw [e] at this; simp at this)
    have hne : listL (kv :: l) ≠ [46] := by
      intro e2
      rw [e2] at hs
      have h3 : splitL 44 ([46] : List UInt8) = [[46]] := by decide
      rw [h3, ek] at hs
      exact hex_point kv.1 (List.cons.inj hs).1.symm
    rw [if_neg hne, hs, keysP_hex _ h]
    rfl
end Go.Proofs.YtfjfjjcdlgdbcaaDoor
