/- the texts E19, D18, D19, D20 of this proof, one behind the other -/
import Derived.Test.YtfjfjjcdlgdbcaaDoorQ14
namespace Go.Proofs.YtfjfjjcdlgdbcaaDoor
open Go.RowKit
set_option linter.unusedSimpArgs false
set_option linter.unusedVariables false

/-- the bytes of digits, none of a point -/
def undigL (s : List UInt8) : List UInt8 × Bool := if s = [46] then ([], true) else ((unhexV s).1, (unhexV s).2 && decide (0 < (unhexV s).1.length))
theorem undigL_len (s : List UInt8) : (undigL s).1.length ≤ s.length := by
  unfold undigL
  split
  · simp
  · unfold unhexV
    cases h : unhexR s with
    | none => simp
    | some o => exact unhexR_len _ _ _ (Nat.le_refl _) h
set_option maxRecDepth 100000 in
set_option maxHeartbeats 1000000 in
theorem undigits_calls (s : List UInt8) (w : World) (hs : s.length ≤ 100000000) :
    Calls Tryd.prog 109 #[.string (str s)] w fun e w' => (∃ v, e = .returned (.tuple #[v, .bool (undigL s).2]) ∧ OwnB w' w.heap.size v (undigL s).1) ∧ Below w.heap.size w w' := by
  by_cases h : s = [46]
  · have hq : ((str s).toList == [46]) = true := by rw [str_list, h]; decide
    have hu : undigL s = ([], true) := by rw [undigL, if_pos h]
    rw [hu]
    clear hu h
    go_enter Tryd.func109, Tryd.ntmps109
    go_wp2
    go_ret2
    exact ⟨⟨_, rfl, OwnB.nil _ _⟩, Below.refl _ _⟩
  · have hq : ((str s).toList == [46]) = false := by rw [str_list]; simpa using h
    have hu : undigL s = ((unhexV s).1, (unhexV s).2 && decide (0 < (unhexV s).1.length)) := by rw [undigL, if_neg h]
    have hc := Lib.hid (Unhex_calls s w hs)
    rw [hu]
    clear hu h
    generalize unhexV s = u at *
    obtain ⟨bs, ok⟩ := u
    simp only at hc ⊢
    cases ok with
    | false =>
      go_enter Tryd.func109, Tryd.ntmps109
      go_wp2_with (go_at_call 130; refine hc.out.mono ?_; rintro e w1 ⟨⟨v, rfl, ho⟩, hb1⟩)
      go_ret2
      exact ⟨⟨_, rfl, ho⟩, hb1⟩
    | true =>
      go_enter Tryd.func109, Tryd.ntmps109
      go_wp2_with (go_at_call 130; refine hc.out.mono ?_; rintro e w1 ⟨⟨v, rfl, ho⟩, hb1⟩; obtain ⟨A1, c1, rfl, hr1⟩ := ho.reads)
      go_ret2
      exact ⟨⟨_, by rw [Bool.true_and]; simp, ho⟩, hb1⟩

set_option maxRecDepth 100000 in
set_option maxHeartbeats 2000000 in
theorem fixed108_calls (s : List UInt8) (sb g off n : Nat) (w : World) (hs : s.length ≤ 100000000) (hn : n ≤ 1000) (hv : w.cell? ⟨sb, 0, none⟩ = some (.string (str s))) (hroom : ∀ W, Below w.heap.size w W → RoomAt W g off n) :
    Calls Tryd.prog 108 #[.slice (some ⟨g, off, none⟩) n n, .pointer (some ⟨sb, 0, none⟩)] w fun e w' => ∃ w2, Below w.heap.size w w2 ∧
      ((((undigL s).2 = true ∧ (undigL s).1.length = n) ∧ e = .returned (.bool true) ∧ w' = w2.setCells g off (bvs (undigL s).1)) ∨ (¬ ((undigL s).2 = true ∧ (undigL s).1.length = n) ∧ e = .returned (.bool false) ∧ ∃ vs, vs.length ≤ n ∧ w' = w2.setCells g off vs)) := by
  have hc := Lib.hid (undigits_calls s w hs)
  have hul := undigL_len s
  have hrm := Lib.hid hroom
  clear hroom
  generalize undigL s = u at *
  obtain ⟨bs, ok⟩ := u
  simp only at hc hul ⊢
  cases ok with
  | false =>
    go_enter Tryd.func108, Tryd.ntmps108
    go_wp2_with (go_at_call 109; refine hc.out.mono ?_; rintro e w1 ⟨⟨v, rfl, ho⟩, hb1⟩)
    go_ret
    exact ⟨w1, hb1, .inr ⟨by simp, rfl, [], by simp, rfl⟩⟩
  | true =>
    have hcopy := fun (W : World) A c (hr : RdB W A bs.length c bs) (hW : Below w.heap.size w W) => run_copyB (P := Tryd.prog) W 22 22 3 5 g off n n A bs.length c bs Tryd.underlying22 (by kernel_rfl) hr (fun j hj => hrm.out W hW j (by omega))
    rcases Nat.lt_trichotomy bs.length n with hl | hl | hl
    · have hq1 : (((min bs.length n : Nat) : Int) == (bs.length : Int)) = true := by simp; omega
      have hq2 : ((bs.length : Int) == (n : Int)) = false := by simp; omega
      go_enter Tryd.func108, Tryd.ntmps108
      go_wp2_with (go_at_call 109; refine hc.out.mono ?_; rintro e w1 ⟨⟨v, rfl, ho⟩, hb1⟩; obtain ⟨A1, c1, rfl, hr1⟩ := ho.reads; have hcp := hcopy w1 A1 c1 hr1 hb1)
      go_ret
      exact ⟨w1, hb1, .inr ⟨fun h => by have := h.2; omega, rfl, bvs (bs.take n), by rw [bvs_length, List.length_take]; omega, rfl⟩⟩
    · have hq1 : (((min bs.length n : Nat) : Int) == (bs.length : Int)) = true := by simp; omega
      have hq2 : ((bs.length : Int) == (n : Int)) = true := by simp; omega
      have ht := Lib.hid (List.take_of_length_le (l := bs) (i := n) (by omega))
      have HL := Lib.hid hl
      clear hl
      go_enter Tryd.func108, Tryd.ntmps108
      go_wp2_with (go_at_call 109; refine hc.out.mono ?_; rintro e w1 ⟨⟨v, rfl, ho⟩, hb1⟩; obtain ⟨A1, c1, rfl, hr1⟩ := ho.reads; have hcp := hcopy w1 A1 c1 hr1 hb1)
      go_ret
      exact ⟨w1, hb1, .inl ⟨⟨trivial, HL.out⟩, rfl, by rw [ht.out]⟩⟩
    · have hq1 : (((min bs.length n : Nat) : Int) == (bs.length : Int)) = false := by simp; omega
      go_enter Tryd.func108, Tryd.ntmps108
      go_wp2_with (go_at_call 109; refine hc.out.mono ?_; rintro e w1 ⟨⟨v, rfl, ho⟩, hb1⟩; obtain ⟨A1, c1, rfl, hr1⟩ := ho.reads; have hcp := hcopy w1 A1 c1 hr1 hb1)
      go_ret
      exact ⟨w1, hb1, .inr ⟨fun h => by have := h.2; omega, rfl, bvs (bs.take n), by rw [bvs_length, List.length_take]; omega, rfl⟩⟩
end Go.Proofs.YtfjfjjcdlgdbcaaDoor
namespace Go.Proofs.YtfjfjjcdlgdbcaaDoor
open Go.RowKit
set_option linter.unusedSimpArgs false
set_option linter.unusedVariables false

set_option maxRecDepth 100000 in
set_option maxHeartbeats 1000000 in
theorem undigits98_calls (s : List UInt8) (w : World) (hs : s.length ≤ 100000000) :
    Calls Tryd.prog 98 #[.string (str s)] w fun e w' => (∃ v, e = .returned (.tuple #[v, .bool (undigL s).2]) ∧ OwnB w' w.heap.size v (undigL s).1) ∧ Below w.heap.size w w' := by
  by_cases h : s = [46]
  · have hq : ((str s).toList == [46]) = true := by rw [str_list, h]; decide
    have hu : undigL s = ([], true) := by rw [undigL, if_pos h]
    rw [hu]
    clear hu h
    go_enter Tryd.func98, Tryd.ntmps98
    go_wp2
    go_ret2
    exact ⟨⟨_, rfl, OwnB.nil _ _⟩, Below.refl _ _⟩
  · have hq : ((str s).toList == [46]) = false := by rw [str_list]; simpa using h
    have hu : undigL s = ((unhexV s).1, (unhexV s).2 && decide (0 < (unhexV s).1.length)) := by rw [undigL, if_neg h]
    have hc := Lib.hid (Unhex_calls s w hs)
    rw [hu]
    clear hu h
    generalize unhexV s = u at *
    obtain ⟨bs, ok⟩ := u
    simp only at hc ⊢
    cases ok with
    | false =>
      go_enter Tryd.func98, Tryd.ntmps98
      go_wp2_with (go_at_call 130; refine hc.out.mono ?_; rintro e w1 ⟨⟨v, rfl, ho⟩, hb1⟩)
      go_ret2
      exact ⟨⟨_, rfl, ho⟩, hb1⟩
    | true =>
      go_enter Tryd.func98, Tryd.ntmps98
      go_wp2_with (go_at_call 130; refine hc.out.mono ?_; rintro e w1 ⟨⟨v, rfl, ho⟩, hb1⟩; obtain ⟨A1, c1, rfl, hr1⟩ := ho.reads)
      go_ret2
      exact ⟨⟨_, by rw [Bool.true_and]; simp, ho⟩, hb1⟩

set_option maxRecDepth 100000 in
set_option maxHeartbeats 2000000 in
theorem fixed92_calls (s : List UInt8) (g off n : Nat) (w : World) (hs : s.length ≤ 100000000) (hn : n ≤ 1000) (hroom : ∀ W, Below w.heap.size w W → RoomAt W g off n) :
    Calls Tryd.prog 92 #[.string (str s), .slice (some ⟨g, off, none⟩) n n] w fun e w' => ∃ w2, Below w.heap.size w w2 ∧
      ((((undigL s).2 = true ∧ (undigL s).1.length = n) ∧ e = .returned (.bool true) ∧ w' = w2.setCells g off (bvs (undigL s).1)) ∨ (¬ ((undigL s).2 = true ∧ (undigL s).1.length = n) ∧ e = .returned (.bool false) ∧ w' = w2)) := by
  have hc := Lib.hid (undigits98_calls s w hs)
  have hul := undigL_len s
  have hrm := Lib.hid hroom
  clear hroom
  generalize undigL s = u at *
  obtain ⟨bs, ok⟩ := u
  simp only at hc hul ⊢
  cases ok with
  | false =>
    go_enter Tryd.func92, Tryd.ntmps92
    go_wp2_with (go_at_call 98; refine hc.out.mono ?_; rintro e w1 ⟨⟨v, rfl, ho⟩, hb1⟩)
    go_ret
    exact ⟨w1, hb1, .inr ⟨by simp, rfl, rfl⟩⟩
  | true =>
    have hcopy := fun (W : World) A c (hr : RdB W A bs.length c bs) (hW : Below w.heap.size w W) => run_copyB (P := Tryd.prog) W 22 22 3 5 g off n n A bs.length c bs Tryd.underlying22 (by kernel_rfl) hr (fun j hj => hrm.out W hW j (by omega))
    by_cases hl : bs.length = n
    · subst hl
      have hmn : min bs.length bs.length = bs.length := Nat.min_self _
      have ht := Lib.hid (List.take_of_length_le (l := bs) (i := bs.length) (Nat.le_refl _))
      go_enter Tryd.func92, Tryd.ntmps92
      go_wp2_with (go_at_call 98; refine hc.out.mono ?_; rintro e w1 ⟨⟨v, rfl, ho⟩, hb1⟩; obtain ⟨A1, c1, rfl, hr1⟩ := ho.reads; have hcp := hcopy w1 A1 c1 hr1 hb1)
      go_ret
      exact ⟨w1, hb1, .inl ⟨⟨trivial, trivial⟩, rfl, rfl⟩⟩
    · have hq1 : ((bs.length : Int) == (n : Int)) = false := by rw [beq_eq_false_iff_ne]; omega
      have hq2 : ¬ (bs.length : Int) = (n : Int) := by omega
      have hq3 : ¬ bs.length = n := hl
      go_enter Tryd.func92, Tryd.ntmps92
      go_wp2_with (go_at_call 98; refine hc.out.mono ?_; rintro e w1 ⟨⟨v, rfl, ho⟩, hb1⟩; obtain ⟨A1, c1, rfl, hr1⟩ := ho.reads)
      go_ret
      exact ⟨w1, hb1, .inr ⟨fun h => hq3 h.2, rfl, rfl⟩⟩
end Go.Proofs.YtfjfjjcdlgdbcaaDoor
namespace Go.Proofs.YtfjfjjcdlgdbcaaDoor
open Go.RowKit
set_option linter.unusedSimpArgs false
set_option linter.unusedVariables false

def decF (n : Nat) (b : UInt8) : Nat := n * 10 + (b.toNat - 48)
/-- digits read as a number -/
def decN (s : List UInt8) : Nat := s.foldl decF 0
def isDig (b : UInt8) : Bool := decide (48 ≤ b.toNat ∧ b.toNat ≤ 57)
/-- 2 to the 256 -/
def top256 : Nat := 256 ^ 32
/-- the number that prints so, below 2 to the 256 -/
def undecL (s : List UInt8) : Option Nat := if Lib.decDigits (decN s) = s ∧ decN s < top256 then some (decN s) else none
theorem decN_snoc (s : List UInt8) (b : UInt8) : decN (s ++ [b]) = decN s * 10 + (b.toNat - 48) := by simp [decN, decF]
theorem decN_succ (s : List UInt8) (k : Nat) (hk : k < s.length) : decN (s.take (k + 1)) = decN (s.take k) * 10 + ((s.getD k 0).toNat - 48) := by
  rw [List.take_succ_eq_append_getElem hk, decN_snoc, List.getD_eq_getElem?_getD, List.getElem?_eq_getElem hk]; rfl
theorem foldl_ge : ∀ (l : List UInt8) (n : Nat), n ≤ l.foldl decF n
  | [], n => Nat.le_refl _
  | b :: l, n => by
    have := foldl_ge l (decF n b)
    rw [List.foldl_cons]
    unfold decF at this ⊢
    omega
theorem decN_take_le (s : List UInt8) (k : Nat) : decN (s.take k) ≤ decN s := by
  have : decN s = (s.drop k).foldl decF (decN (s.take k)) := by
    unfold decN
    rw [← List.foldl_append, List.take_append_drop]
  rw [this]
  exact foldl_ge _ _
theorem decDigits_dig : ∀ (k n : Nat), n < 10 ^ (k + 1) → ∀ b ∈ Lib.decDigits n, isDig b = true := by
  intro k
  induction k with
  | zero =>
    intro n hn b hb
    rw [Lib.decDigits_one (by simpa using hn)] at hb
    obtain rfl : b = UInt8.ofNat (48 + n) := by simpa using hb
    unfold isDig
    rw [toNat_ofNat' _ (by omega)]
    exact decide_eq_true (by omega)
  | succ k ih =>
    intro n hn b hb
    by_cases h : n < 10
    · rw [Lib.decDigits_one h] at hb
      obtain rfl : b = UInt8.ofNat (48 + n) := by simpa using hb
      unfold isDig
      rw [toNat_ofNat' _ (by omega)]
      exact decide_eq_true (by omega)
    · have hs := digs_step n (by omega)
      unfold digs at hs
      rw [if_neg (by omega), if_neg (by omega)] at hs
      rw [hs] at hb
      rcases List.mem_append.1 hb with hb | hb
      · exact ih (n / 10) (by rw [Nat.pow_succ] at hn; omega) b hb
      · obtain rfl : b = UInt8.ofNat (48 + n % 10) := by simpa using hb
        unfold isDig
        rw [toNat_ofNat' _ (by omega)]
        exact decide_eq_true (by omega)
theorem lt_pow10 (n : Nat) : n < 10 ^ (n + 1) := Nat.lt_of_lt_of_le (Nat.lt_pow_self (by decide)) (Nat.pow_le_pow_right (by decide) (by omega))
theorem decDigits_digit (n : Nat) : ∀ b ∈ Lib.decDigits n, isDig b = true := decDigits_dig n n (lt_pow10 n)
theorem undecL_bad (s : List UInt8) (k : Nat) (hk : k < s.length) (h : isDig (s.getD k 0) = false) : undecL s = none := by
  unfold undecL
  rw [if_neg]
  rintro ⟨h1, _⟩
  have := decDigits_digit (decN s) (s.getD k 0) (by rw [h1, List.getD_eq_getElem?_getD, List.getElem?_eq_getElem hk]; exact List.getElem_mem hk)
  rw [h] at this
  cases this
theorem undecL_great (s : List UInt8) (k : Nat) (h : top256 ≤ decN (s.take k)) : undecL s = none := by
  unfold undecL
  rw [if_neg]
  rintro ⟨_, h2⟩
  have := decN_take_le s k
  omega
theorem undecL_else (s : List UInt8) (h : decN s < top256) : undecL s = if Lib.decDigits (decN s) = s then some (decN s) else none := by
  unfold undecL
  by_cases h1 : Lib.decDigits (decN s) = s
  · rw [if_pos ⟨h1, h⟩, if_pos h1]
  · rw [if_neg (fun h => h1 h.1), if_neg h1]
/-- what a number that prints reads as -/
theorem decN_digits : ∀ (k n : Nat), n < 10 ^ (k + 1) → decN (Lib.decDigits n) = n := by
  intro k
  induction k with
  | zero =>
    intro n hn
    have hn : n < 10 := by simpa using hn
    rw [Lib.decDigits_one hn]
    simp only [decN, List.foldl_cons, List.foldl_nil, decF]
    rw [toNat_ofNat' _ (by omega)]
    omega
  | succ k ih =>
    intro n hn
    by_cases h : n < 10
    · rw [Lib.decDigits_one h]
      simp only [decN, List.foldl_cons, List.foldl_nil, decF]
      rw [toNat_ofNat' _ (by omega)]
      omega
    · have hs := digs_step n (by omega)
      unfold digs at hs
      rw [if_neg (by omega), if_neg (by omega)] at hs
      rw [hs, decN_snoc, ih (n / 10) (by rw [Nat.pow_succ] at hn; omega), toNat_ofNat' _ (by omega)]
      omega
theorem decN_dec (n : Nat) : decN (Lib.decDigits n) = n := decN_digits n n (lt_pow10 n)
theorem undecL_dec (n : Nat) (h : n < top256) : undecL (Lib.decDigits n) = some n := by
  rw [undecL_else _ (by rw [decN_dec]; exact h), decN_dec, if_pos rfl]
theorem undecL_some {s : List UInt8} {n : Nat} (h : undecL s = some n) : s = Lib.decDigits n ∧ n < top256 := by
  unfold undecL at h
  split at h
  · rename_i h1
    obtain rfl := Option.some.inj h
    exact ⟨h1.1.symm, h1.2⟩
  · cases h

theorem beL_drop (n : Nat) : ∀ (j k : Nat), (beL n (j + k)).drop j = beL n k
  | 0, k => by simp
  | j + 1, k => by rw [show j + 1 + k = j + k + 1 by omega, beL, List.drop_succ_cons]; exact beL_drop n j k
/-- a number's bytes of which the low k ones are another's -/
def mixR (n m k : Nat) : List UInt8 := (beL n 32).take (32 - k) ++ beL m k
theorem mixR_zero (n m : Nat) : mixR n m 0 = beL n 32 := by
  unfold mixR
  rw [List.take_of_length_le (by rw [beL_length]; omega)]
  simp [beL]
theorem mixR_all (n m : Nat) : mixR n m 32 = beL m 32 := by simp [mixR]
theorem mixR_split (n m k : Nat) (hk : k < 32) : mixR n m k = (beL n 32).take (31 - k) ++ (UInt8.ofNat (n / 256 ^ k % 256) :: beL m k) := by
  unfold mixR
  have h1 : (beL n 32).drop (31 - k) = UInt8.ofNat (n / 256 ^ k % 256) :: beL n k := by
    have := beL_drop n (31 - k) (k + 1)
    rw [show 31 - k + (k + 1) = 32 by omega, beL] at this
    exact this
  have h2 : (beL n 32).take (32 - k) = (beL n 32).take (31 - k) ++ [UInt8.ofNat (n / 256 ^ k % 256)] := by
    conv => lhs; rw [← List.take_append_drop (31 - k) (beL n 32), h1]
    rw [List.take_append, List.take_of_length_le (by rw [List.length_take, beL_length]; omega), List.length_take, beL_length, show 32 - k - min (31 - k) 32 = 1 by omega]
    rfl
  rw [h2, List.append_assoc]
  rfl
theorem mixR_length (n m k : Nat) (hk : k ≤ 32) : (mixR n m k).length = 32 := by
  unfold mixR
  rw [List.length_append, List.length_take, beL_length, beL_length]
  omega
theorem mixR_get (n m k : Nat) (hk : k < 32) : (mixR n m k)[31 - k]? = some (UInt8.ofNat (n / 256 ^ k % 256)) := by
  rw [mixR_split n m k hk]
  have := app_at (31 - k) ((beL n 32).take (31 - k)) (UInt8.ofNat (n / 256 ^ k % 256) :: beL m k) (by rw [List.length_take, beL_length]; omega) 0
  rw [Nat.add_zero] at this
  rw [this]
  rfl
theorem mixR_set (n m k : Nat) (hk : k < 32) : (mixR n m k).set (31 - k) (UInt8.ofNat (m / 256 ^ k % 256)) = mixR n m (k + 1) := by
  rw [mixR_split n m k hk, List.set_append_right _ _ (by rw [List.length_take, beL_length]; omega), List.length_take, beL_length, show 31 - k - min (31 - k) 32 = 0 by omega, mixR, show 32 - (k + 1) = 31 - k by omega]
  rfl
/-- what is carried behind k bytes -/
def cr (n c k : Nat) : Nat := ((n % 256 ^ k) * 10 + c) / 256 ^ k
theorem cr_zero (n c : Nat) : cr n c 0 = c := by simp [cr, Nat.mod_one]
theorem cr_le (n c k : Nat) (h : c ≤ 9) : cr n c k ≤ 9 := by
  unfold cr
  have hp : 0 < 256 ^ k := Nat.pow_pos (by decide)
  have := Nat.mod_lt n hp
  generalize 256 ^ k = P at *
  have := Nat.div_lt_of_lt_mul (show n % P * 10 + c < P * 10 by omega)
  omega
theorem mod_step (n P : Nat) : n % (P * 256) = n % P + P * (n / P % 256) := Nat.mod_mul
theorem cr_step (n c k : Nat) : cr n c k + (n / 256 ^ k % 256) * 10 = ((n % 256 ^ (k + 1)) * 10 + c) / 256 ^ k := by
  unfold cr
  have hp : 0 < 256 ^ k := Nat.pow_pos (by decide)
  rw [Nat.pow_succ, mod_step]
  generalize 256 ^ k = P at *
  generalize n / P % 256 = d
  rw [show (n % P + P * d) * 10 + c = (n % P * 10 + c) + P * (d * 10) by rw [Nat.add_mul, Nat.mul_assoc]; omega, Nat.add_mul_div_left _ _ hp]
theorem cr_succ (n c k : Nat) : (cr n c k + (n / 256 ^ k % 256) * 10) / 256 = cr n c (k + 1) := by
  rw [cr_step, Nat.div_div_eq_div_mul, ← Nat.pow_succ]
  rfl
theorem cr_byte (n c k : Nat) : (cr n c k + (n / 256 ^ k % 256) * 10) % 256 = (n * 10 + c) / 256 ^ k % 256 := by
  rw [cr_step]
  have hp : 0 < 256 ^ k := Nat.pow_pos (by decide)
  have hd : n = n % 256 ^ (k + 1) + 256 ^ (k + 1) * (n / 256 ^ (k + 1)) := (Nat.mod_add_div _ _).symm
  generalize hq : n / 256 ^ (k + 1) = q at hd
  generalize hr : n % 256 ^ (k + 1) = r at *
  rw [Nat.pow_succ] at hd
  generalize 256 ^ k = P at *
  rw [show n * 10 + c = (r * 10 + c) + P * (256 * (q * 10)) by rw [hd, Nat.add_mul, Nat.mul_assoc, Nat.mul_assoc]; omega, Nat.add_mul_div_left _ _ hp, Nat.add_mul_mod_self_left]
theorem cr_all (n c : Nat) (hn : n < top256) : cr n c 32 = (n * 10 + c) / top256 := by
  unfold cr
  rw [Nat.mod_eq_of_lt (show n < 256 ^ 32 from hn)]
  rfl
theorem cr_done (n c : Nat) (hn : n < top256) : (0 < cr n c 32 ↔ top256 ≤ n * 10 + c) := by
  rw [cr_all n c hn]
  have hp : 0 < top256 := Nat.pow_pos (by decide)
  generalize top256 = P at *
  constructor
  · intro h
    have := Nat.div_mul_le_self (n * 10 + c) P
    have h2 : 1 * P ≤ (n * 10 + c) / P * P := Nat.mul_le_mul_right _ h
    omega
  · intro h
    exact Nat.div_pos h hp
theorem valW_be (n : Nat) (hn : n < top256) : valW (beL n 32) = n := by rw [valW_beL, Nat.mod_eq_of_lt (show n < 256 ^ 32 from hn)]
theorem beL_zero : beL 0 32 = z32w := by decide +kernel
/-- bytes that are no digits decode to runes that are none -/
theorem decode_nodig (x : List UInt8) (k : Nat) (h : k < x.length) (hb : isDig (x.getD k 0) = false) : ((Utf8.decode (str x) k).1 : Int) < 48 ∨ (57 : Int) < ((Utf8.decode (str x) k).1 : Int) := by
  have hb' : ¬ (48 ≤ (x.getD k 0).toNat ∧ (x.getD k 0).toNat ≤ 57) := of_decide_eq_false hb
  by_cases ha : (x.getD k 0).toNat < 128
  · rw [decode_at x k h ha]
    show ((x.getD k 0).toNat : Int) < 48 ∨ (57 : Int) < ((x.getD k 0).toNat : Int)
    omega
  · have e : ((str x)[k]'h).toNat = (x.getD k 0).toNat := by
      show (x.toArray[k]'h).toNat = _
      simp [List.getD_eq_getElem?_getD, List.getElem?_eq_getElem h]
    have := (decode_high (str x) k h (by rw [e]; omega)).1
    right
    omega
end Go.Proofs.YtfjfjjcdlgdbcaaDoor
namespace Go.Proofs.YtfjfjjcdlgdbcaaDoor
open Go.RowKit
set_option linter.unusedSimpArgs false
set_option linter.unusedVariables false

def UndecEnd (w : World) (s : List UInt8) (e : Ending) (w' : World) : Prop := Below w.heap.size w w' ∧
  ((undecL s = none ∧ ∃ xs : List UInt8, xs.length = 32 ∧ e = .returned (.tuple #[.agg (bvs xs).toArray, .bool false])) ∨ (∃ n, undecL s = some n ∧ e = .returned (.tuple #[.agg (bvs (beL n 32)).toArray, .bool true])))
theorem z32len : z32w.length = 32 := rfl
set_option maxRecDepth 100000 in
set_option maxHeartbeats 4000000 in
theorem undecimal_calls (s : List UInt8) (w : World) (hs : s.length ≤ 100000000) :
    Calls Tryd.prog 96 #[.string (str s)] w (UndecEnd w s) := by
  have hT := Lib.hid Tryd.agg61d
  have N0 := Blk.new w 61 (bvs z32w).toArray
  have N1 := Blk.new (w.alloc (.cells (bvs z32w).toArray 61)) 61 (bvs z32w).toArray
  obtain ⟨wA, hwA⟩ : ∃ wA, wA = (w.alloc (.cells (bvs z32w).toArray 61)).alloc (.cells (bvs z32w).toArray 61) := ⟨_, rfl⟩
  have hA : Hid (Below w.heap.size w wA) := by rw [hwA]; exact al (al (Below.refl _ _) _) _
  have hB0 : Hid (Blk wA w.heap.size 61 (bvs z32w).toArray) := by rw [hwA]; exact N0.alloc _
  have hB1 : Hid (Blk wA (w.heap.size + 1) 61 (bvs z32w).toArray) := by rw [hwA]; rw [World.size_alloc] at N1; exact N1
  have hsz : Hid (wA.heap.size = w.heap.size + 1 + 1) := by rw [hwA, World.size_alloc, World.size_alloc]; trivial
  rw [z32lit] at hwA
  have hszx : (str s).size = s.length := rfl
  clear N0 N1
  go_enter Tryd.func96, Tryd.ntmps96
  go_wp2
  rw [← hwA]
  clear hwA
  go_loopw [6] (fun v wr => ∃ k : Nat, k ≤ s.length ∧ decN (s.take k) < top256 ∧ wr.heap[w.heap.size + 1 + 1]? = some (.stringIter (str s) k) ∧ Blk wr (w.heap.size + 1) 61 (bvs (beL (decN (s.take k)) 32)).toArray ∧ Blk wr w.heap.size 61 (bvs z32w).toArray ∧ Below w.heap.size w wr) (fun _ wr => s.length - World.iterAt wr (w.heap.size + 1 + 1))
  case atStart => exact ⟨0, by omega, Nat.pow_pos (by decide), by rw [← hsz.out]; exact heap_alloc_new wA _, by rw [show decN (s.take 0) = 0 from rfl, beL_zero]; exact hB1.out.alloc _, hB0.out.alloc _, al hA.out _⟩
  case round =>
    obtain ⟨k, hk, htop, hit, hB, hR, hb⟩ := hrel
    obtain ⟨wo, rfl⟩ : ∃ wo : World, wo = wr := ⟨_, rfl⟩
    have HIT := Lib.hid hit
    have HB := Lib.hid hB
    have HR := Lib.hid hR
    have HBW := Lib.hid hb
    have HTOP := Lib.hid htop
    have hbs := hb.size
    clear hit hB hR hb htop
    by_cases hlt : k < s.length
    · have hlt' : k < (str s).size := hlt
      cases hd : isDig (s.getD k 0) with
      | false =>
        have hno := Lib.hid (undecL_bad s k hlt hd)
        have hbad := decode_nodig s k hlt hd
        clear hd
        rcases hbad with hbad | hbad
        · go_wp2_with (first | (refine wpList_nextS rfl (.tmp 10) rfl (w.heap.size + 1 + 1) rfl (str s) k HIT.out hlt' ?_; intro w3 hit3 hb3 hs3; have hR3 := Lib.hid (HR.out.below hb3 (by omega))) | (refine wpList_buildG (by rfl) (by rfl) ?_) | (refine wpList_storeAgg rfl rfl 61 _ _ rfl w.heap.size 0 rfl (bvs z32w).toArray rfl hT.out (hR3.out.room 0 _ (by decide)) (oneCell_bvs _) ?_))
          have hfb := hR3.out.setCells (bvs z32w).toArray.toList 0 (by decide)
          rw [ovw_all _ _ (by decide)] at hfb
          exact bodyPost_ret (results_agg_tmp rfl _ _ w.heap.size (bvs z32w).toArray rfl hT.out (cellsAt_blk hfb)) rfl ⟨below_setCells (HBW.out.trans (hb3.mono (by omega))) _ _ _ (Nat.le_refl _), .inl ⟨hno.out, z32w, rfl, rfl⟩⟩
        · have hbad2 : ¬ ((Utf8.decode (str s) k).1 : Int) < 48 := by omega
          go_wp2_with (first | (refine wpList_nextS rfl (.tmp 10) rfl (w.heap.size + 1 + 1) rfl (str s) k HIT.out hlt' ?_; intro w3 hit3 hb3 hs3; have hR3 := Lib.hid (HR.out.below hb3 (by omega))) | (refine wpList_buildG (by rfl) (by rfl) ?_) | (refine wpList_storeAgg rfl rfl 61 _ _ rfl w.heap.size 0 rfl (bvs z32w).toArray rfl hT.out (hR3.out.room 0 _ (by decide)) (oneCell_bvs _) ?_))
          have hfb := hR3.out.setCells (bvs z32w).toArray.toList 0 (by decide)
          rw [ovw_all _ _ (by decide)] at hfb
          exact bodyPost_ret (results_agg_tmp rfl _ _ w.heap.size (bvs z32w).toArray rfl hT.out (cellsAt_blk hfb)) rfl ⟨below_setCells (HBW.out.trans (hb3.mono (by omega))) _ _ _ (Nat.le_refl _), .inl ⟨hno.out, z32w, rfl, rfl⟩⟩
      | true =>
        have hdg : 48 ≤ (s.getD k 0).toNat ∧ (s.getD k 0).toNat ≤ 57 := of_decide_eq_true hd
        have hdec := Lib.hid (decode_at s k hlt (by omega))
        have hsu := Lib.hid (decN_succ s k hlt)
        have hgr := Lib.hid (fun h => undecL_great s (k + 1) h)
        clear hd
        obtain ⟨c, hc⟩ : ∃ c, (s.getD k 0).toNat = 48 + c := ⟨(s.getD k 0).toNat - 48, by omega⟩
        rw [hc] at hdec hsu hdg
        rw [show 48 + c - 48 = c by omega] at hsu
        clear hc
        have hc9 : c ≤ 9 := by omega
        have hcI : (0 : Int) ≤ (c : Int) ∧ (c : Int) ≤ 9 := by omega
        generalize decN (s.take k) = n at *
        go_wp2_with (refine wpList_nextS rfl (.tmp 10) rfl (w.heap.size + 1 + 1) rfl (str s) k HIT.out hlt' ?_; rw [hdec.out]; intro w3 hit3 hb3 hs3)
        have HIT3 := Lib.hid hit3
        have HB3 := Lib.hid (HB.out.below hb3 (by omega))
        have HR3 := Lib.hid (HR.out.below hb3 (by omega))
        have HW3 := Lib.hid (HBW.out.trans (hb3.mono (by omega)))
        clear hit3 hb3
        go_loopw [7, 8] (fun r i wi => ∃ j : Nat, j ≤ 32 ∧ i = .int .i64 (31 - (j : Int)) ∧ r = .int .i64 (cr n c j : Int) ∧ Blk wi (w.heap.size + 1) 61 (bvs (mixR n (n * 10 + c) j)).toArray ∧ Blk wi w.heap.size 61 (bvs z32w).toArray ∧ wi.heap[w.heap.size + 1 + 1]? = some (.stringIter (str s) (k + 1)) ∧ Below w.heap.size w wi) (fun _ i _ => (intOf i + 1).toNat)
        case atStart => exact ⟨0, by omega, rfl, by rw [cr_zero]; congr 1; omega, by rw [mixR_zero]; exact HB3.out, HR3.out, HIT3.out, HW3.out⟩
        case round =>
          obtain ⟨j, hj, rfl, rfl, hBi, hRi, hiti, hbi⟩ := hrel
          obtain ⟨wi, rfl⟩ : ∃ wi : World, wi = wr := ⟨_, rfl⟩
          have HBi := Lib.hid hBi
          have HRi := Lib.hid hRi
          have HITi := Lib.hid hiti
          have HWi := Lib.hid hbi
          have hcr := cr_le n c j hc9
          clear hRi hiti hbi
          by_cases hjl : j < 32
          · obtain ⟨p, hp⟩ : ∃ p, p + j = 31 := ⟨31 - j, by omega⟩
            have hij : (31 : Int) - (j : Int) = (p : Int) := by omega
            have hmg := mixR_get n (n * 10 + c) j hjl
            have hms := Lib.hid (mixR_set n (n * 10 + c) j hjl)
            rw [show 31 - j = p by omega] at hmg hms
            have hcell : wi.cell? ⟨w.heap.size + 1, p, none⟩ = some (bv (UInt8.ofNat (n / 256 ^ j % 256))) := by rw [hBi.cell, List.getElem?_toArray]; exact bvs_get hmg
            have hfz := hBi.frozen p
            have hset : Hid (∀ v, v = bv (UInt8.ofNat ((n * 10 + c) / 256 ^ j % 256)) → Blk (wi.setCell ⟨w.heap.size + 1, p, none⟩ v) (w.heap.size + 1) 61 (bvs (mixR n (n * 10 + c) (j + 1))).toArray) := fun v hv => by
              have h1 := HBi.out.set_ p (bv (UInt8.ofNat ((n * 10 + c) / 256 ^ j % 256)))
              rw [bvs_set, hms.out] at h1
              rw [hv]; exact h1
            have hsu2 := Lib.hid (cr_succ n c j)
            have hby := Lib.hid (cr_byte n c j)
            have hd256 : n / 256 ^ j % 256 < 256 := Nat.mod_lt _ (by decide)
            rw [byte_ofNat _ hd256] at hcell
            clear hBi hmg
            generalize n / 256 ^ j % 256 = d at *
            generalize cr n c j = r at *
            have hdI : (0 : Int) ≤ (d : Int) ∧ (d : Int) < 256 := by omega
            have hrI : (0 : Int) ≤ (r : Int) ∧ (r : Int) ≤ 9 := by omega
            have hpI : (0 : Int) ≤ (p : Int) ∧ (p : Int) < 32 := by omega
            have htp : ((p : Int)).toNat = p := by omega
            rw [hij]
            go_wp2
            refine ⟨⟨j + 1, by omega, by congr 1; omega, by rw [← hsu2.out]; try rfl, hset.out _ (by rw [← hby.out, byte_ofNat _ (Nat.mod_lt _ (by decide))]; try rfl), HRi.out.far (by show w.heap.size ≠ w.heap.size + 1; omega) _, ?_, HWi.out.setCell (by show w.heap.size ≤ w.heap.size + 1; omega) _⟩, by simp [intOf] <;> omega⟩
            rw [Below.heap_setCell wi _ _ (w.heap.size + 1 + 1) (by show w.heap.size + 1 + 1 ≠ w.heap.size + 1; omega)]
            exact HITi.out
          · obtain rfl : j = 32 := by omega
            have hcd := cr_done n c HTOP.out
            rw [mixR_all] at hBi HBi
            rw [show (31 : Int) - ((32 : Nat) : Int) = -1 by rfl]
            by_cases hr : 0 < cr n c 32
            · have hno : Hid (undecL s = none) := hgr.out (by rw [hsu.out]; exact hcd.1 hr)
              have hrI : (0 : Int) < (cr n c 32 : Int) := by omega
              clear hBi hcd hcr hgr
              generalize cr n c 32 = r at *
              go_wp2_with (first | (refine wpList_buildG (by rfl) (by rfl) ?_) | (refine wpList_storeAgg rfl rfl 61 _ _ rfl w.heap.size 0 rfl (bvs z32w).toArray rfl hT.out (HRi.out.room 0 _ (by decide)) (oneCell_bvs _) ?_))
              have hfb := HRi.out.setCells (bvs z32w).toArray.toList 0 (by decide)
              rw [ovw_all _ _ (by decide)] at hfb
              exact bodyPost_ret (results_agg_tmp rfl _ _ w.heap.size (bvs z32w).toArray rfl hT.out (cellsAt_blk hfb)) rfl ⟨below_setCells HWi.out _ _ _ (Nat.le_refl _), .inl ⟨hno.out, z32w, rfl, rfl⟩⟩
            · have hr0 : cr n c 32 = 0 := by omega
              have hlo : n * 10 + c < top256 := by rcases Nat.lt_or_ge (n * 10 + c) top256 with h | h; · exact h
                                                   · exact absurd (hcd.2 h) hr
              have HLO := Lib.hid hlo
              have HM := Lib.hid (iterAt_of HITi.out)
              have HM0 := Lib.hid (iterAt_of HIT.out)
              rw [hr0]
              clear hBi hcd hcr hgr hr hr0 hlo
              go_wp2
              go_roundw
              case rel => exact ⟨k + 1, by omega, by rw [hsu.out]; exact HLO.out, HITi.out, by rw [hsu.out]; exact HBi.out, HRi.out, HWi.out⟩
              case measure => rw [HM.out, HM0.out]; omega
    · obtain rfl : k = s.length := by omega
      rw [List.take_length] at HB HTOP
      have hnlt : ¬ s.length < (str s).size := by rw [hszx]; omega
      have hul := undecL_else s HTOP.out
      have hvl := valW_be (decN s) HTOP.out
      have HDE := Lib.hid (beL_length (decN s) 32)
      generalize hbe : beL (decN s) 32 = bs at *
      go_wp2_with (refine wpList_nextE rfl (.tmp 10) rfl (w.heap.size + 1 + 1) rfl (str s) s.length HIT.out hnlt ?_)
      have hT2 : Hid (AggT Tryd.prog 61 (bvs bs).toArray.size) := by rw [List.size_toArray, bvs_length, HDE.out]; exact hT.out
      have hs32 : Hid ((bvs bs).toArray.size = 32) := by rw [List.size_toArray, bvs_length, HDE.out]; trivial
      have hi61 : Hid ((Tryd.prog.info? 61).map (·.size) = some (bvs bs).length) := by rw [bvs_length, HDE.out]; exact Tryd.agg61d.2
      by_cases hde : Lib.decDigits (decN s) = s
      · rw [if_pos hde] at hul
        have hcmp : ((str (Lib.decDigits (decN s))).toList == (str s).toList) = true := by rw [str_list, str_list, hde]; simp
        have HU := Lib.hid hul
        have HBE := Lib.hid hbe
        clear hde hul hbe
        refine wp_region_held_drew (S := fun W => Blk W (w.heap.size + 1) 61 (bvs bs).toArray ∧ (∃ cs : Array Value, cs.size = 32 ∧ Blk W w.heap.size 61 cs) ∧ Below w.heap.size w W) (by kernel_rfl) (⟨HB.out.drew, ⟨_, by rfl, HR.out.drew⟩, HBW.out.drew⟩) (fun hHeld => ?_)
        refine wpAnyH_take (i := 0) (v := .agg (bvs bs).toArray) rfl (by kernel_rfl) (by kernel_rfl) (by kernel_rfl) (fun _ _ _ h => h) (yieldsIf_load_mid (by rfl) 61 _ rfl (w.heap.size + 1) 0 rfl (bvs bs) _ (fun W hS => cellsAt_blk hS.1) Tryd.underlying61 rfl hi61.out) hHeld ?_
        simp only [Act.put, List.setIfInBounds_toArray, List.set_cons_zero, List.set_cons_succ, List.getElem_toArray, List.getElem_cons_succ, List.getElem_cons_zero]
        refine wpAnyH_take (i := 1) (v := .agg (bvs bs).toArray) rfl (by kernel_rfl) (by kernel_rfl) (by kernel_rfl) (fun _ _ _ h => h) (yieldsIf_load_mid (by rfl) 61 _ rfl (w.heap.size + 1) 0 rfl (bvs bs) _ (fun W hS => cellsAt_blk hS.1) Tryd.underlying61 rfl hi61.out) hHeld ?_
        simp only [Act.put, List.setIfInBounds_toArray, List.set_cons_zero, List.set_cons_succ, List.getElem_toArray, List.getElem_cons_succ, List.getElem_cons_zero]
        refine wpAnyH_take (i := 3) (v := .string (str s)) rfl (by kernel_rfl) (by kernel_rfl) (by kernel_rfl) (fun _ _ _ h => h) (.inl ⟨by rfl, fun W hS => by go_simp⟩) hHeld ?_
        simp only [Act.put, List.setIfInBounds_toArray, List.set_cons_zero, List.set_cons_succ, List.getElem_toArray, List.getElem_cons_succ, List.getElem_cons_zero]
        refine wpAnyH_ready (rs := [2]) (by kernel_rfl) (by simp) ?_
        refine AllReadyH.cons rfl (fun K hK => ?_) AllReadyH.nil
        go_simp
        go_wp2_with (go_at_call 50; refine (decimal_calls bs _ HDE.out).mono ?_; rintro e w5 ⟨rfl, hb5⟩; rw [hvl])
        refine hK.out _ _ (⟨hHeld.1.below hb5 hHeld.1.lt, (by obtain ⟨cs, h1, h2⟩ := hHeld.2.1; exact ⟨cs, h1, h2.below hb5 h2.lt⟩), thn hHeld.2.2 hb5⟩) (fun hHeld => ?_)
        clear hK K
        refine wpAnyH_take (i := 4) (v := .bool true) rfl (by kernel_rfl) (by kernel_rfl) (by kernel_rfl) (fun _ _ _ h => h) (.inl ⟨by rfl, fun W hS => by go_simp⟩) hHeld ?_
        simp only [Act.put, List.setIfInBounds_toArray, List.set_cons_zero, List.set_cons_succ, List.getElem_toArray, List.getElem_cons_succ, List.getElem_cons_zero]
        obtain ⟨hH1, ⟨cs, hcs, hH2⟩, hH3⟩ := hHeld
        refine wpAnyH_ready (rs := [5]) (by kernel_rfl) (by simp) ?_
        refine AllReadyH.cons rfl (fun K hK => ?_) AllReadyH.nil
        refine armH_storeAgg _ rfl rfl 61 (.tmp 2) (.tmp 44) rfl w.heap.size 0 rfl (bvs bs).toArray rfl hT2.out (hH2.room 0 _ (by rw [hs32.out, hcs]; decide)) (oneCell_bvs _) ?_
        simp only [Act.put, List.setIfInBounds_toArray, List.set_cons_zero, List.set_cons_succ, List.getElem_toArray, List.getElem_cons_succ, List.getElem_cons_zero]
        refine hK.out _ _ (⟨hH1.farCells _ _ _ (by omega), ⟨(bvs bs).toArray, hs32.out, (by have h := hH2.setCells (bvs bs).toArray.toList 0 (by rw [Array.length_toList, hs32.out, hcs]; decide); rw [ovw_all _ _ (by rw [Array.length_toList, hs32.out, hcs])] at h; exact h)⟩, below_setCells hH3 _ _ _ (Nat.le_refl _)⟩) (fun hHeld => ?_)
        clear hK K
        have hfb := hH2.setCells (bvs bs).toArray.toList 0 (by rw [Array.length_toList, hs32.out, hcs]; decide)
        rw [ovw_all _ _ (by rw [Array.length_toList, hs32.out, hcs])] at hfb
        have HFB := Lib.hid hfb
        clear hfb
        refine wpAnyH_ready (rs := [6]) (by kernel_rfl) (by simp) ?_
        refine AllReadyH.cons rfl (fun K hK => ?_) AllReadyH.nil
        go_simp
        refine hK.out _ _ (hHeld) (fun hHeld => ?_)
        clear hK K
        refine wpAnyH_done (by kernel_rfl) ?_ _
        have HH := Lib.hid hHeld.2.2
        clear hHeld
        go_wp2
        exact bodyPost_ret (results_agg_tmp rfl _ _ w.heap.size (bvs bs).toArray rfl hT2.out (cellsAt_blk HFB.out)) rfl ⟨HH.out, .inr ⟨_, HU.out, by rw [HBE.out]; rfl⟩⟩
      · rw [if_neg hde] at hul
        have hcmp : ((str (Lib.decDigits (decN s))).toList == (str s).toList) = false := by rw [str_list, str_list]; simpa using hde
        have HU := Lib.hid hul
        have HBE := Lib.hid hbe
        clear hde hul hbe
        refine wp_region_held_drew (S := fun W => Blk W (w.heap.size + 1) 61 (bvs bs).toArray ∧ (∃ cs : Array Value, cs.size = 32 ∧ Blk W w.heap.size 61 cs) ∧ Below w.heap.size w W) (by kernel_rfl) (⟨HB.out.drew, ⟨_, by rfl, HR.out.drew⟩, HBW.out.drew⟩) (fun hHeld => ?_)
        refine wpAnyH_take (i := 0) (v := .agg (bvs bs).toArray) rfl (by kernel_rfl) (by kernel_rfl) (by kernel_rfl) (fun _ _ _ h => h) (yieldsIf_load_mid (by rfl) 61 _ rfl (w.heap.size + 1) 0 rfl (bvs bs) _ (fun W hS => cellsAt_blk hS.1) Tryd.underlying61 rfl hi61.out) hHeld ?_
        simp only [Act.put, List.setIfInBounds_toArray, List.set_cons_zero, List.set_cons_succ, List.getElem_toArray, List.getElem_cons_succ, List.getElem_cons_zero]
        refine wpAnyH_take (i := 1) (v := .agg (bvs bs).toArray) rfl (by kernel_rfl) (by kernel_rfl) (by kernel_rfl) (fun _ _ _ h => h) (yieldsIf_load_mid (by rfl) 61 _ rfl (w.heap.size + 1) 0 rfl (bvs bs) _ (fun W hS => cellsAt_blk hS.1) Tryd.underlying61 rfl hi61.out) hHeld ?_
        simp only [Act.put, List.setIfInBounds_toArray, List.set_cons_zero, List.set_cons_succ, List.getElem_toArray, List.getElem_cons_succ, List.getElem_cons_zero]
        refine wpAnyH_take (i := 3) (v := .string (str s)) rfl (by kernel_rfl) (by kernel_rfl) (by kernel_rfl) (fun _ _ _ h => h) (.inl ⟨by rfl, fun W hS => by go_simp⟩) hHeld ?_
        simp only [Act.put, List.setIfInBounds_toArray, List.set_cons_zero, List.set_cons_succ, List.getElem_toArray, List.getElem_cons_succ, List.getElem_cons_zero]
        refine wpAnyH_ready (rs := [2]) (by kernel_rfl) (by simp) ?_
        refine AllReadyH.cons rfl (fun K hK => ?_) AllReadyH.nil
        go_simp
        go_wp2_with (go_at_call 50; refine (decimal_calls bs _ HDE.out).mono ?_; rintro e w5 ⟨rfl, hb5⟩; rw [hvl])
        refine hK.out _ _ (⟨hHeld.1.below hb5 hHeld.1.lt, (by obtain ⟨cs, h1, h2⟩ := hHeld.2.1; exact ⟨cs, h1, h2.below hb5 h2.lt⟩), thn hHeld.2.2 hb5⟩) (fun hHeld => ?_)
        clear hK K
        refine wpAnyH_take (i := 4) (v := .bool false) rfl (by kernel_rfl) (by kernel_rfl) (by kernel_rfl) (fun _ _ _ h => h) (.inl ⟨by rfl, fun W hS => by go_simp⟩) hHeld ?_
        simp only [Act.put, List.setIfInBounds_toArray, List.set_cons_zero, List.set_cons_succ, List.getElem_toArray, List.getElem_cons_succ, List.getElem_cons_zero]
        obtain ⟨hH1, ⟨cs, hcs, hH2⟩, hH3⟩ := hHeld
        refine wpAnyH_ready (rs := [5]) (by kernel_rfl) (by simp) ?_
        refine AllReadyH.cons rfl (fun K hK => ?_) AllReadyH.nil
        refine armH_storeAgg _ rfl rfl 61 (.tmp 2) (.tmp 44) rfl w.heap.size 0 rfl (bvs bs).toArray rfl hT2.out (hH2.room 0 _ (by rw [hs32.out, hcs]; decide)) (oneCell_bvs _) ?_
        simp only [Act.put, List.setIfInBounds_toArray, List.set_cons_zero, List.set_cons_succ, List.getElem_toArray, List.getElem_cons_succ, List.getElem_cons_zero]
        refine hK.out _ _ (⟨hH1.farCells _ _ _ (by omega), ⟨(bvs bs).toArray, hs32.out, (by have h := hH2.setCells (bvs bs).toArray.toList 0 (by rw [Array.length_toList, hs32.out, hcs]; decide); rw [ovw_all _ _ (by rw [Array.length_toList, hs32.out, hcs])] at h; exact h)⟩, below_setCells hH3 _ _ _ (Nat.le_refl _)⟩) (fun hHeld => ?_)
        clear hK K
        have hfb := hH2.setCells (bvs bs).toArray.toList 0 (by rw [Array.length_toList, hs32.out, hcs]; decide)
        rw [ovw_all _ _ (by rw [Array.length_toList, hs32.out, hcs])] at hfb
        have HFB := Lib.hid hfb
        clear hfb
        refine wpAnyH_ready (rs := [6]) (by kernel_rfl) (by simp) ?_
        refine AllReadyH.cons rfl (fun K hK => ?_) AllReadyH.nil
        go_simp
        refine hK.out _ _ (hHeld) (fun hHeld => ?_)
        clear hK K
        refine wpAnyH_done (by kernel_rfl) ?_ _
        have HH := Lib.hid hHeld.2.2
        clear hHeld
        go_wp2
        exact bodyPost_ret (results_agg_tmp rfl _ _ w.heap.size (bvs bs).toArray rfl hT2.out (cellsAt_blk HFB.out)) rfl ⟨HH.out, .inl ⟨HU.out, bs, HDE.out, rfl⟩⟩
end Go.Proofs.YtfjfjjcdlgdbcaaDoor
