/- the texts D19, D20, DShelf2, EShelf2 of this proof, one behind the other -/
import Derived.Test.YtfjfjjcdlgdbcaaDoorF10
import Derived.Shelf.Strings.Builder1
import Derived.Shelf.Strings.Builder2
import Derived.Shelf.Strings.OnBuilder
import Derived.Shelf.Small.Utf8
import Derived.Shelf.Small.Strs
import Derived.Shelf.Strconv.Atoi
import Derived.Shelf.Strconv.Itoa0
import Derived.Shelf.Strconv.Itoa1
import Derived.Shelf.LaysM
import Derived.Shelf.Strconv.Itoa2
import Derived.Shelf.Strconv.Itoa3
import Derived.Shelf.Strconv.AtoiErrFast
import Derived.Shelf.Strconv.ParseIntEmpty
import Derived.Shelf.Strconv.AtoiFail
import Derived.Shelf.Strconv.Clone
import Derived.Shelf.Strconv.SyntaxError
import Derived.Shelf.LaysC
import Derived.Shelf.Strconv.ToError
import Derived.Shelf.Strconv.AtoiErr
import Derived.Shelf.Strconv.Lower
import Derived.Shelf.Strconv.ParseUint10
import Derived.Shelf.Strconv.ParseUint10Empty
import Derived.Shelf.Strconv.ParseUint10Any
import Derived.Shelf.Strconv.ParseInt10
import Derived.Shelf.Strconv.AtoiLong
import Derived.Shelf.Strconv.AtoiInnerAll
import Derived.Shelf.Strconv.RangeError
import Derived.Shelf.Strconv.ToErrorRange
import Derived.Shelf.Strconv.AtoiAll
import Derived.Shelf.Strconv.ErrVarAll
import Derived.Shelf.Strconv.ParseUintEmpty
import Derived.Shelf.Strconv.ParseUint10b64
import Derived.Shelf.Strconv.ParseUint10b32
import Derived.Shelf.Strconv.ParseUint10b16
import Derived.Shelf.Strconv.ParseUint10b8
import Derived.Shelf.Strconv.ParseUint10At
import Derived.Shelf.Strconv.ParseInt10At64
import Derived.Shelf.Strconv.ParseInt10At32
import Derived.Shelf.Strconv.ParseInt10At16
import Derived.Shelf.Strconv.ParseInt10At8
import Derived.Shelf.Strconv.ParseInt10All
import Derived.Ground.MpProg
import Derived.Shelf.Pu.ParseUintPublic10
import Derived.Shelf.Pu.ErrVarParseUint
import Derived.Shelf.Strings.Search1
import Derived.Shelf.Strings.Search2
import Derived.Shelf.Strings.Search3
import Derived.Shelf.Strings.Cut
import Derived.Shelf.Strings.Count
import Derived.Shelf.Strings.Shaped
import Derived.Shelf.Strings.Split
import Derived.Test.YtfjfjjcdlgdbcaaDoorProg
namespace Go.Proofs.YtfjfjjcdlgdbcaaDoor
open Go.RowKit
set_option linter.unusedSimpArgs false
set_option linter.unusedVariables false

def decF (n : Nat) (b : UInt8) : Nat := n * 10 + (b.toNat - 48)
/-- digits read as a number -/
def decN (s : List UInt8) : Nat := s.foldl decF 0
def isDig (b : UInt8) : Bool := decide (48 ≤ b.toNat ∧ b.toNat ≤ 57)
/-- 2 to the 256 -/
def top256 : Nat := 256 ^ 32
/-- the number that prints so, below 2 to the 256 -/
def undecL (s : List UInt8) : Option Nat := if Lib.decDigits (decN s) = s ∧ decN s < top256 then some (decN s) else none
theorem decN_snoc (s : List UInt8) (b : UInt8) : decN (s ++ [b]) = decN s * 10 + (b.toNat - 48) := by simp [decN, decF]
theorem decN_succ (s : List UInt8) (k : Nat) (hk : k < s.length) : decN (s.take (k + 1)) = decN (s.take k) * 10 + ((s.getD k 0).toNat - 48) := by
  rw [List.take_succ_eq_append_getElem hk, decN_snoc, List.getD_eq_getElem?_getD, List.getElem?_eq_getElem hk]; rfl
theorem foldl_ge : ∀ (l : List UInt8) (n : Nat), n ≤ l.foldl decF n
  | [], n => Nat.le_refl _
  | b :: l, n => by
    have := foldl_ge l (decF n b)
    rw [List.foldl_cons]
    unfold decF at this ⊢
    omega
theorem decN_take_le (s : List UInt8) (k : Nat) : decN (s.take k) ≤ decN s := by
  have : decN s = (s.drop k).foldl decF (decN (s.take k)) := by
    unfold decN
    rw [← List.foldl_append, List.take_append_drop]
  rw [this]
  exact foldl_ge _ _
theorem decDigits_dig : ∀ (k n : Nat), n < 10 ^ (k + 1) → ∀ b ∈ Lib.decDigits n, isDig b = true := by
  intro k
  induction k with
  | zero =>
    intro n hn b hb
    rw [Lib.decDigits_one (by simpa using hn)] at hb
    obtain rfl : b = UInt8.ofNat (48 + n) := by simpa using hb
    unfold isDig
    rw [toNat_ofNat' _ (by omega)]
    exact decide_eq_true (by omega)
  | succ k ih =>
    intro n hn b hb
    by_cases h : n < 10
    · rw [Lib.decDigits_one h] at hb
      obtain rfl : b = UInt8.ofNat (48 + n) := by simpa using hb
      unfold isDig
      rw [toNat_ofNat' _ (by omega)]
      exact decide_eq_true (by omega)
    · have hs := digs_step n (by omega)
      unfold digs at hs
      rw [if_neg (by omega), if_neg (by omega)] at hs
      rw [hs] at hb
      rcases List.mem_append.1 hb with hb | hb
      · exact ih (n / 10) (by rw [Nat.pow_succ] at hn; omega) b hb
      · obtain rfl : b = UInt8.ofNat (48 + n % 10) := by simpa using hb
        unfold isDig
        rw [toNat_ofNat' _ (by omega)]
        exact decide_eq_true (by omega)
theorem lt_pow10 (n : Nat) : n < 10 ^ (n + 1) := Nat.lt_of_lt_of_le (Nat.lt_pow_self (by decide)) (Nat.pow_le_pow_right (by decide) (by omega))
theorem decDigits_digit (n : Nat) : ∀ b ∈ Lib.decDigits n, isDig b = true := decDigits_dig n n (lt_pow10 n)
theorem undecL_bad (s : List UInt8) (k : Nat) (hk : k < s.length) (h : isDig (s.getD k 0) = false) : undecL s = none := by
  unfold undecL
  rw [if_neg]
  rintro ⟨h1, _⟩
  have := decDigits_digit (decN s) (s.getD k 0) (by rw [h1, List.getD_eq_getElem?_getD, List.getElem?_eq_getElem hk]; exact List.getElem_mem hk)
  rw [h] at this
  cases this
theorem undecL_great (s : List UInt8) (k : Nat) (h : top256 ≤ decN (s.take k)) : undecL s = none := by
  unfold undecL
  rw [if_neg]
  rintro ⟨_, h2⟩
  have := decN_take_le s k
  omega
theorem undecL_else (s : List UInt8) (h : decN s < top256) : undecL s = if Lib.decDigits (decN s) = s then some (decN s) else none := by
  unfold undecL
  by_cases h1 : Lib.decDigits (decN s) = s
  · rw [if_pos ⟨h1, h⟩, if_pos h1]
  · rw [if_neg (fun h => h1 h.1), if_neg h1]
/-- what a number that prints reads as -/
theorem decN_digits : ∀ (k n : Nat), n < 10 ^ (k + 1) → decN (Lib.decDigits n) = n := by
  intro k
  induction k with
  | zero =>
    intro n hn
    have hn : n < 10 := by simpa using hn
    rw [Lib.decDigits_one hn]
    simp only [decN, List.foldl_cons, List.foldl_nil, decF]
    rw [toNat_ofNat' _ (by omega)]
    omega
  | succ k ih =>
    intro n hn
    by_cases h : n < 10
    · rw [Lib.decDigits_one h]
      simp only [decN, List.foldl_cons, List.foldl_nil, decF]
      rw [toNat_ofNat' _ (by omega)]
      omega
    · have hs := digs_step n (by omega)
      unfold digs at hs
      rw [if_neg (by omega), if_neg (by omega)] at hs
      rw [hs, decN_snoc, ih (n / 10) (by rw [Nat.pow_succ] at hn; omega), toNat_ofNat' _ (by omega)]
      omega
theorem decN_dec (n : Nat) : decN (Lib.decDigits n) = n := decN_digits n n (lt_pow10 n)
theorem undecL_dec (n : Nat) (h : n < top256) : undecL (Lib.decDigits n) = some n := by
  rw [undecL_else _ (by rw [decN_dec]; exact h), decN_dec, if_pos rfl]
theorem undecL_some {s : List UInt8} {n : Nat} (h : undecL s = some n) : s = Lib.decDigits n ∧ n < top256 := by
  unfold undecL at h
  split at h
  · rename_i h1
    obtain rfl := Option.some.inj h
    exact ⟨h1.1.symm, h1.2⟩
  · cases h

theorem beL_drop (n : Nat) : ∀ (j k : Nat), (beL n (j + k)).drop j = beL n k
  | 0, k => by simp
  | j + 1, k => by rw [show j + 1 + k = j + k + 1 by omega, beL, List.drop_succ_cons]; exact beL_drop n j k
/-- a number's bytes of which the low k ones are another's -/
def mixR (n m k : Nat) : List UInt8 := (beL n 32).take (32 - k) ++ beL m k
theorem mixR_zero (n m : Nat) : mixR n m 0 = beL n 32 := by
  unfold mixR
  rw [List.take_of_length_le (by rw [beL_length]; omega)]
  simp [beL]
theorem mixR_all (n m : Nat) : mixR n m 32 = beL m 32 := by simp [mixR]
theorem mixR_split (n m k : Nat) (hk : k < 32) : mixR n m k = (beL n 32).take (31 - k) ++ (UInt8.ofNat (n / 256 ^ k % 256) :: beL m k) := by
  unfold mixR
  have h1 : (beL n 32).drop (31 - k) = UInt8.ofNat (n / 256 ^ k % 256) :: beL n k := by
    have := beL_drop n (31 - k) (k + 1)
    rw [show 31 - k + (k + 1) = 32 by omega, beL] at this
    exact this
  have h2 : (beL n 32).take (32 - k) = (beL n 32).take (31 - k) ++ [UInt8.ofNat (n / 256 ^ k % 256)] := by
    conv => lhs; rw [← List.take_append_drop (31 - k) (beL n 32), h1]
    rw [List.take_append, List.take_of_length_le (by rw [List.length_take, beL_length]; omega), List.length_take, beL_length, show 32 - k - min (31 - k) 32 = 1 by omega]
    rfl
  rw [h2, List.append_assoc]
  rfl
theorem mixR_length (n m k : Nat) (hk : k ≤ 32) : (mixR n m k).length = 32 := by
  unfold mixR
  rw [List.length_append, List.length_take, beL_length, beL_length]
  omega
theorem mixR_get (n m k : Nat) (hk : k < 32) : (mixR n m k)[31 - k]? = some (UInt8.ofNat (n / 256 ^ k % 256)) := by
  rw [mixR_split n m k hk]
  have := app_at (31 - k) ((beL n 32).take (31 - k)) (UInt8.ofNat (n / 256 ^ k % 256) :: beL m k) (by rw [List.length_take, beL_length]; omega) 0
  rw [Nat.add_zero] at this
  rw [this]
  rfl
theorem mixR_set (n m k : Nat) (hk : k < 32) : (mixR n m k).set (31 - k) (UInt8.ofNat (m / 256 ^ k % 256)) = mixR n m (k + 1) := by
  rw [mixR_split n m k hk, List.set_append_right _ _ (by rw [List.length_take, beL_length]; omega), List.length_take, beL_length, show 31 - k - min (31 - k) 32 = 0 by omega, mixR, show 32 - (k + 1) = 31 - k by omega]
  rfl
/-- what is carried behind k bytes -/
def cr (n c k : Nat) : Nat := ((n % 256 ^ k) * 10 + c) / 256 ^ k
theorem cr_zero (n c : Nat) : cr n c 0 = c := by simp [cr, Nat.mod_one]
theorem cr_le (n c k : Nat) (h : c ≤ 9) : cr n c k ≤ 9 := by
  unfold cr
  have hp : 0 < 256 ^ k := Nat.pow_pos (by decide)
  have := Nat.mod_lt n hp
  generalize 256 ^ k = P at *
  have := Nat.div_lt_of_lt_mul (show n % P * 10 + c < P * 10 by omega)
  omega
theorem mod_step (n P : Nat) : n % (P * 256) = n % P + P * (n / P % 256) := Nat.mod_mul
theorem cr_step (n c k : Nat) : cr n c k + (n / 256 ^ k % 256) * 10 = ((n % 256 ^ (k + 1)) * 10 + c) / 256 ^ k := by
  unfold cr
  have hp : 0 < 256 ^ k := Nat.pow_pos (by decide)
  rw [Nat.pow_succ, mod_step]
  generalize 256 ^ k = P at *
  generalize n / P % 256 = d
  rw [show (n % P + P * d) * 10 + c = (n % P * 10 + c) + P * (d * 10) by rw [Nat.add_mul, Nat.mul_assoc]; omega, Nat.add_mul_div_left _ _ hp]
theorem cr_succ (n c k : Nat) : (cr n c k + (n / 256 ^ k % 256) * 10) / 256 = cr n c (k + 1) := by
  rw [cr_step, Nat.div_div_eq_div_mul, ← Nat.pow_succ]
  rfl
theorem cr_byte (n c k : Nat) : (cr n c k + (n / 256 ^ k % 256) * 10) % 256 = (n * 10 + c) / 256 ^ k % 256 := by
  rw [cr_step]
  have hp : 0 < 256 ^ k := Nat.pow_pos (by decide)
  have hd : n = n % 256 ^ (k + 1) + 256 ^ (k + 1) * (n / 256 ^ (k + 1)) := (Nat.mod_add_div _ _).symm
  generalize hq : n / 256 ^ (k + 1) = q at hd
  generalize hr : n % 256 ^ (k + 1) = r at *
  rw [Nat.pow_succ] at hd
  generalize 256 ^ k = P at *
  rw [show n * 10 + c = (r * 10 + c) + P * (256 * (q * 10)) by rw [hd, Nat.add_mul, Nat.mul_assoc, Nat.mul_assoc]; omega, Nat.add_mul_div_left _ _ hp, Nat.add_mul_mod_self_left]
theorem cr_all (n c : Nat) (hn : n < top256) : cr n c 32 = (n * 10 + c) / top256 := by
  unfold cr
  rw [Nat.mod_eq_of_lt (show n < 256 ^ 32 from hn)]
  rfl
theorem cr_done (n c : Nat) (hn : n < top256) : (0 < cr n c 32 ↔ top256 ≤ n * 10 + c) := by
  rw [cr_all n c hn]
  have hp : 0 < top256 := Nat.pow_pos (by decide)
  generalize top256 = P at *
  constructor
  · intro h
    have := Nat.div_mul_le_self (n * 10 + c) P
    have h2 : 1 * P ≤ (n * 10 + c) / P * P := Nat.mul_le_mul_right _ h
    omega
  · intro h
    exact Nat.div_pos h hp
theorem valW_be (n : Nat) (hn : n < top256) : valW (beL n 32) = n := by rw [valW_beL, Nat.mod_eq_of_lt (show n < 256 ^ 32 from hn)]
theorem beL_zero : beL 0 32 = z32w := by decide +kernel
/-- bytes that are no digits decode to runes that are none -/
theorem decode_nodig (x : List UInt8) (k : Nat) (h : k < x.length) (hb : isDig (x.getD k 0) = false) : ((Utf8.decode (str x) k).1 : Int) < 48 ∨ (57 : Int) < ((Utf8.decode (str x) k).1 : Int) := by
  have hb' : ¬ (48 ≤ (x.getD k 0).toNat ∧ (x.getD k 0).toNat ≤ 57) := of_decide_eq_false hb
  by_cases ha : (x.getD k 0).toNat < 128
  · rw [decode_at x k h ha]
    show ((x.getD k 0).toNat : Int) < 48 ∨ (57 : Int) < ((x.getD k 0).toNat : Int)
    omega
  · have e : ((str x)[k]'h).toNat = (x.getD k 0).toNat := by
      show (x.toArray[k]'h).toNat = _
      simp [List.getD_eq_getElem?_getD, List.getElem?_eq_getElem h]
    have := (decode_high (str x) k h (by rw [e]; omega)).1
    right
    omega
end Go.Proofs.YtfjfjjcdlgdbcaaDoor
namespace Go.Proofs.YtfjfjjcdlgdbcaaDoor
open Go.RowKit
set_option linter.unusedSimpArgs false
set_option linter.unusedVariables false

def UndecEnd (w : World) (s : List UInt8) (e : Ending) (w' : World) : Prop := Below w.heap.size w w' ∧
  ((undecL s = none ∧ ∃ xs : List UInt8, xs.length = 32 ∧ e = .returned (.tuple #[.agg (bvs xs).toArray, .bool false])) ∨ (∃ n, undecL s = some n ∧ e = .returned (.tuple #[.agg (bvs (beL n 32)).toArray, .bool true])))
theorem z32len : z32w.length = 32 := rfl
set_option maxRecDepth 100000 in
set_option maxHeartbeats 4000000 in
theorem undecimal_calls (s : List UInt8) (w : World) (hs : s.length ≤ 100000000) :
    Calls Tryd.prog 96 #[.string (str s)] w (UndecEnd w s) := by
  have hT := Lib.hid Tryd.agg61d
  have N0 := Blk.new w 61 (bvs z32w).toArray
  have N1 := Blk.new (w.alloc (.cells (bvs z32w).toArray 61)) 61 (bvs z32w).toArray
  obtain ⟨wA, hwA⟩ : ∃ wA, wA = (w.alloc (.cells (bvs z32w).toArray 61)).alloc (.cells (bvs z32w).toArray 61) := ⟨_, rfl⟩
  have hA : Hid (Below w.heap.size w wA) := by rw [hwA]; exact al (al (Below.refl _ _) _) _
  have hB0 : Hid (Blk wA w.heap.size 61 (bvs z32w).toArray) := by rw [hwA]; exact N0.alloc _
  have hB1 : Hid (Blk wA (w.heap.size + 1) 61 (bvs z32w).toArray) := by rw [hwA]; rw [World.size_alloc] at N1; exact N1
  have hsz : Hid (wA.heap.size = w.heap.size + 1 + 1) := by rw [hwA, World.size_alloc, World.size_alloc]; trivial
  rw [z32lit] at hwA
  have hszx : (str s).size = s.length := rfl
  clear N0 N1
  go_enter Tryd.func96, Tryd.ntmps96
  go_wp2
  rw [← hwA]
  clear hwA
  go_loopw [6] (fun v wr => ∃ k : Nat, k ≤ s.length ∧ decN (s.take k) < top256 ∧ wr.heap[w.heap.size + 1 + 1]? = some (.stringIter (str s) k) ∧ Blk wr (w.heap.size + 1) 61 (bvs (beL (decN (s.take k)) 32)).toArray ∧ Blk wr w.heap.size 61 (bvs z32w).toArray ∧ Below w.heap.size w wr) (fun _ wr => s.length - World.iterAt wr (w.heap.size + 1 + 1))
  case atStart => exact ⟨0, by omega, Nat.pow_pos (by decide), by rw [← hsz.out]; exact heap_alloc_new wA _, by rw [show decN (s.take 0) = 0 from rfl, beL_zero]; exact hB1.out.alloc _, hB0.out.alloc _, al hA.out _⟩
  case round =>
    obtain ⟨k, hk, htop, hit, hB, hR, hb⟩ := hrel
    obtain ⟨wo, rfl⟩ : ∃ wo : World, wo = wr := ⟨_, rfl⟩
    have HIT := Lib.hid hit
    have HB := Lib.hid hB
    have HR := Lib.hid hR
    have HBW := Lib.hid hb
    have HTOP := Lib.hid htop
    have hbs := hb.size
    clear hit hB hR hb htop
    by_cases hlt : k < s.length
    · have hlt' : k < (str s).size := hlt
      cases hd : isDig (s.getD k 0) with
      | false =>
        have hno := Lib.hid (undecL_bad s k hlt hd)
        have hbad := decode_nodig s k hlt hd
        clear hd
        rcases hbad with hbad | hbad
        · go_wp2_with (first | (refine wpList_nextS rfl (.tmp 10) rfl (w.heap.size + 1 + 1) rfl (str s) k HIT.out hlt' ?_; intro w3 hit3 hb3 hs3; have hR3 := Lib.hid (HR.out.below hb3 (by omega))) | (refine wpList_buildG (by rfl) (by rfl) ?_) | (refine wpList_storeAgg rfl rfl 61 _ _ rfl w.heap.size 0 rfl (bvs z32w).toArray rfl hT.out (hR3.out.room 0 _ (by decide)) (oneCell_bvs _) ?_))
          have hfb := hR3.out.setCells (bvs z32w).toArray.toList 0 (by decide)
          rw [ovw_all _ _ (by decide)] at hfb
          exact bodyPost_ret (results_agg_tmp rfl _ _ w.heap.size (bvs z32w).toArray rfl hT.out (cellsAt_blk hfb)) rfl ⟨below_setCells (HBW.out.trans (hb3.mono (by omega))) _ _ _ (Nat.le_refl _), .inl ⟨hno.out, z32w, rfl, rfl⟩⟩
        · have hbad2 : ¬ ((Utf8.decode (str s) k).1 : Int) < 48 := by omega
          go_wp2_with (first | (refine wpList_nextS rfl (.tmp 10) rfl (w.heap.size + 1 + 1) rfl (str s) k HIT.out hlt' ?_; intro w3 hit3 hb3 hs3; have hR3 := Lib.hid (HR.out.below hb3 (by omega))) | (refine wpList_buildG (by rfl) (by rfl) ?_) | (refine wpList_storeAgg rfl rfl 61 _ _ rfl w.heap.size 0 rfl (bvs z32w).toArray rfl hT.out (hR3.out.room 0 _ (by decide)) (oneCell_bvs _) ?_))
          have hfb := hR3.out.setCells (bvs z32w).toArray.toList 0 (by decide)
          rw [ovw_all _ _ (by decide)] at hfb
          exact bodyPost_ret (results_agg_tmp rfl _ _ w.heap.size (bvs z32w).toArray rfl hT.out (cellsAt_blk hfb)) rfl ⟨below_setCells (HBW.out.trans (hb3.mono (by omega))) _ _ _ (Nat.le_refl _), .inl ⟨hno.out, z32w, rfl, rfl⟩⟩
      | true =>
        have hdg : 48 ≤ (s.getD k 0).toNat ∧ (s.getD k 0).toNat ≤ 57 := of_decide_eq_true hd
        have hdec := Lib.hid (decode_at s k hlt (by omega))
        have hsu := Lib.hid (decN_succ s k hlt)
        have hgr := Lib.hid (fun h => undecL_great s (k + 1) h)
        clear hd
        obtain ⟨c, hc⟩ : ∃ c, (s.getD k 0).toNat = 48 + c := ⟨(s.getD k 0).toNat - 48, by omega⟩
        rw [hc] at hdec hsu hdg
        rw [show 48 + c - 48 = c by omega] at hsu
        clear hc
        have hc9 : c ≤ 9 := by omega
        have hcI : (0 : Int) ≤ (c : Int) ∧ (c : Int) ≤ 9 := by omega
        generalize decN (s.take k) = n at *
        go_wp2_with (refine wpList_nextS rfl (.tmp 10) rfl (w.heap.size + 1 + 1) rfl (str s) k HIT.out hlt' ?_; rw [hdec.out]; intro w3 hit3 hb3 hs3)
        have HIT3 := Lib.hid hit3
        have HB3 := Lib.hid (HB.out.below hb3 (by omega))
        have HR3 := Lib.hid (HR.out.below hb3 (by omega))
        have HW3 := Lib.hid (HBW.out.trans (hb3.mono (by omega)))
        clear hit3 hb3
        go_loopw [7, 8] (fun r i wi => ∃ j : Nat, j ≤ 32 ∧ i = .int .i64 (31 - (j : Int)) ∧ r = .int .i64 (cr n c j : Int) ∧ Blk wi (w.heap.size + 1) 61 (bvs (mixR n (n * 10 + c) j)).toArray ∧ Blk wi w.heap.size 61 (bvs z32w).toArray ∧ wi.heap[w.heap.size + 1 + 1]? = some (.stringIter (str s) (k + 1)) ∧ Below w.heap.size w wi) (fun _ i _ => (intOf i + 1).toNat)
        case atStart => exact ⟨0, by omega, rfl, by rw [cr_zero]; congr 1; omega, by rw [mixR_zero]; exact HB3.out, HR3.out, HIT3.out, HW3.out⟩
        case round =>
          obtain ⟨j, hj, rfl, rfl, hBi, hRi, hiti, hbi⟩ := hrel
          obtain ⟨wi, rfl⟩ : ∃ wi : World, wi = wr := ⟨_, rfl⟩
          have HBi := Lib.hid hBi
          have HRi := Lib.hid hRi
          have HITi := Lib.hid hiti
          have HWi := Lib.hid hbi
          have hcr := cr_le n c j hc9
          clear hRi hiti hbi
          by_cases hjl : j < 32
          · obtain ⟨p, hp⟩ : ∃ p, p + j = 31 := ⟨31 - j, by omega⟩
            have hij : (31 : Int) - (j : Int) = (p : Int) := by omega
            have hmg := mixR_get n (n * 10 + c) j hjl
            have hms := Lib.hid (mixR_set n (n * 10 + c) j hjl)
            rw [show 31 - j = p by omega] at hmg hms
            have hcell : wi.cell? ⟨w.heap.size + 1, p, none⟩ = some (bv (UInt8.ofNat (n / 256 ^ j % 256))) := by rw [hBi.cell, List.getElem?_toArray]; exact bvs_get hmg
            have hfz := hBi.frozen p
            have hset : Hid (∀ v, v = bv (UInt8.ofNat ((n * 10 + c) / 256 ^ j % 256)) → Blk (wi.setCell ⟨w.heap.size + 1, p, none⟩ v) (w.heap.size + 1) 61 (bvs (mixR n (n * 10 + c) (j + 1))).toArray) := fun v hv => by
              have h1 := HBi.out.set_ p (bv (UInt8.ofNat ((n * 10 + c) / 256 ^ j % 256)))
              rw [bvs_set, hms.out] at h1
              rw [hv]; exact h1
            have hsu2 := Lib.hid (cr_succ n c j)
            have hby := Lib.hid (cr_byte n c j)
            have hd256 : n / 256 ^ j % 256 < 256 := Nat.mod_lt _ (by decide)
            rw [byte_ofNat _ hd256] at hcell
            clear hBi hmg
            generalize n / 256 ^ j % 256 = d at *
            generalize cr n c j = r at *
            have hdI : (0 : Int) ≤ (d : Int) ∧ (d : Int) < 256 := by omega
            have hrI : (0 : Int) ≤ (r : Int) ∧ (r : Int) ≤ 9 := by omega
            have hpI : (0 : Int) ≤ (p : Int) ∧ (p : Int) < 32 := by omega
            have htp : ((p : Int)).toNat = p := by omega
            rw [hij]
            go_wp2
            refine ⟨⟨j + 1, by omega, by congr 1; omega, by rw [← hsu2.out]; try rfl, hset.out _ (by rw [← hby.out, byte_ofNat _ (Nat.mod_lt _ (by decide))]; try rfl), HRi.out.far (by show w.heap.size ≠ w.heap.size + 1; omega) _, ?_, HWi.out.setCell (by show w.heap.size ≤ w.heap.size + 1; omega) _⟩, by simp [intOf] <;> omega⟩
            rw [Below.heap_setCell wi _ _ (w.heap.size + 1 + 1) (by show w.heap.size + 1 + 1 ≠ w.heap.size + 1; omega)]
            exact HITi.out
          · obtain rfl : j = 32 := by omega
            have hcd := cr_done n c HTOP.out
            rw [mixR_all] at hBi HBi
            rw [show (31 : Int) - ((32 : Nat) : Int) = -1 by rfl]
            by_cases hr : 0 < cr n c 32
            · have hno : Hid (undecL s = none) := hgr.out (by rw [hsu.out]; exact hcd.1 hr)
              have hrI : (0 : Int) < (cr n c 32 : Int) := by omega
              clear hBi hcd hcr hgr
              generalize cr n c 32 = r at *
              go_wp2_with (first | (refine wpList_buildG (by rfl) (by rfl) ?_) | (refine wpList_storeAgg rfl rfl 61 _ _ rfl w.heap.size 0 rfl (bvs z32w).toArray rfl hT.out (HRi.out.room 0 _ (by decide)) (oneCell_bvs _) ?_))
              have hfb := HRi.out.setCells (bvs z32w).toArray.toList 0 (by decide)
              rw [ovw_all _ _ (by decide)] at hfb
              exact bodyPost_ret (results_agg_tmp rfl _ _ w.heap.size (bvs z32w).toArray rfl hT.out (cellsAt_blk hfb)) rfl ⟨below_setCells HWi.out _ _ _ (Nat.le_refl _), .inl ⟨hno.out, z32w, rfl, rfl⟩⟩
            · have hr0 : cr n c 32 = 0 := by omega
              have hlo : n * 10 + c < top256 := by rcases Nat.lt_or_ge (n * 10 + c) top256 with h | h; · exact h
                                                   · exact absurd (hcd.2 h) hr
              have HLO := Lib.hid hlo
              have HM := Lib.hid (iterAt_of HITi.out)
              have HM0 := Lib.hid (iterAt_of HIT.out)
              rw [hr0]
              clear hBi hcd hcr hgr hr hr0 hlo
              go_wp2
              go_roundw
              case rel => exact ⟨k + 1, by omega, by rw [hsu.out]; exact HLO.out, HITi.out, by rw [hsu.out]; exact HBi.out, HRi.out, HWi.out⟩
              case measure => rw [HM.out, HM0.out]; omega
    · obtain rfl : k = s.length := by omega
      rw [List.take_length] at HB HTOP
      have hnlt : ¬ s.length < (str s).size := by rw [hszx]; omega
      have hul := undecL_else s HTOP.out
      have hvl := valW_be (decN s) HTOP.out
      have HDE := Lib.hid (beL_length (decN s) 32)
      generalize hbe : beL (decN s) 32 = bs at *
      go_wp2_with (refine wpList_nextE rfl (.tmp 10) rfl (w.heap.size + 1 + 1) rfl (str s) s.length HIT.out hnlt ?_)
      have hT2 : Hid (AggT Tryd.prog 61 (bvs bs).toArray.size) := by rw [List.size_toArray, bvs_length, HDE.out]; exact hT.out
      have hs32 : Hid ((bvs bs).toArray.size = 32) := by rw [List.size_toArray, bvs_length, HDE.out]; trivial
      have hi61 : Hid ((Tryd.prog.info? 61).map (·.size) = some (bvs bs).length) := by rw [bvs_length, HDE.out]; exact Tryd.agg61d.2
      by_cases hde : Lib.decDigits (decN s) = s
      · rw [if_pos hde] at hul
        have hcmp : ((str (Lib.decDigits (decN s))).toList == (str s).toList) = true := by rw [str_list, str_list, hde]; simp
        have HU := Lib.hid hul
        have HBE := Lib.hid hbe
        clear hde hul hbe
        refine wp_region_held_drew (S := fun W => Blk W (w.heap.size + 1) 61 (bvs bs).toArray ∧ (∃ cs : Array Value, cs.size = 32 ∧ Blk W w.heap.size 61 cs) ∧ Below w.heap.size w W) (by kernel_rfl) (⟨HB.out.drew, ⟨_, by rfl, HR.out.drew⟩, HBW.out.drew⟩) (fun hHeld => ?_)
        refine wpAnyH_take (i := 0) (v := .agg (bvs bs).toArray) rfl (by kernel_rfl) (by kernel_rfl) (by kernel_rfl) (fun _ _ _ h => h) (yieldsIf_load_mid (by rfl) 61 _ rfl (w.heap.size + 1) 0 rfl (bvs bs) _ (fun W hS => cellsAt_blk hS.1) Tryd.underlying61 rfl hi61.out) hHeld ?_
        simp only [Act.put, List.setIfInBounds_toArray, List.set_cons_zero, List.set_cons_succ, List.getElem_toArray, List.getElem_cons_succ, List.getElem_cons_zero]
        refine wpAnyH_take (i := 1) (v := .agg (bvs bs).toArray) rfl (by kernel_rfl) (by kernel_rfl) (by kernel_rfl) (fun _ _ _ h => h) (yieldsIf_load_mid (by rfl) 61 _ rfl (w.heap.size + 1) 0 rfl (bvs bs) _ (fun W hS => cellsAt_blk hS.1) Tryd.underlying61 rfl hi61.out) hHeld ?_
        simp only [Act.put, List.setIfInBounds_toArray, List.set_cons_zero, List.set_cons_succ, List.getElem_toArray, List.getElem_cons_succ, List.getElem_cons_zero]
        refine wpAnyH_take (i := 3) (v := .string (str s)) rfl (by kernel_rfl) (by kernel_rfl) (by kernel_rfl) (fun _ _ _ h => h) (.inl ⟨by rfl, fun W hS => by go_simp⟩) hHeld ?_
        simp only [Act.put, List.setIfInBounds_toArray, List.set_cons_zero, List.set_cons_succ, List.getElem_toArray, List.getElem_cons_succ, List.getElem_cons_zero]
        refine wpAnyH_ready (rs := [2]) (by kernel_rfl) (by simp) ?_
        refine AllReadyH.cons rfl (fun K hK => ?_) AllReadyH.nil
        go_simp
        go_wp2_with (go_at_call 50; refine (decimal_calls bs _ HDE.out).mono ?_; rintro e w5 ⟨rfl, hb5⟩; rw [hvl])
        refine hK.out _ _ (⟨hHeld.1.below hb5 hHeld.1.lt, (by obtain ⟨cs, h1, h2⟩ := hHeld.2.1; exact ⟨cs, h1, h2.below hb5 h2.lt⟩), thn hHeld.2.2 hb5⟩) (fun hHeld => ?_)
        clear hK K
        refine wpAnyH_take (i := 4) (v := .bool true) rfl (by kernel_rfl) (by kernel_rfl) (by kernel_rfl) (fun _ _ _ h => h) (.inl ⟨by rfl, fun W hS => by go_simp⟩) hHeld ?_
        simp only [Act.put, List.setIfInBounds_toArray, List.set_cons_zero, List.set_cons_succ, List.getElem_toArray, List.getElem_cons_succ, List.getElem_cons_zero]
        obtain ⟨hH1, ⟨cs, hcs, hH2⟩, hH3⟩ := hHeld
        refine wpAnyH_ready (rs := [5]) (by kernel_rfl) (by simp) ?_
        refine AllReadyH.cons rfl (fun K hK => ?_) AllReadyH.nil
        refine armH_storeAgg _ rfl rfl 61 (.tmp 2) (.tmp 44) rfl w.heap.size 0 rfl (bvs bs).toArray rfl hT2.out (hH2.room 0 _ (by rw [hs32.out, hcs]; decide)) (oneCell_bvs _) ?_
        simp only [Act.put, List.setIfInBounds_toArray, List.set_cons_zero, List.set_cons_succ, List.getElem_toArray, List.getElem_cons_succ, List.getElem_cons_zero]
        refine hK.out _ _ (⟨hH1.farCells _ _ _ (by omega), ⟨(bvs bs).toArray, hs32.out, (by have h := hH2.setCells (bvs bs).toArray.toList 0 (by rw [Array.length_toList, hs32.out, hcs]; decide); rw [ovw_all _ _ (by rw [Array.length_toList, hs32.out, hcs])] at h; exact h)⟩, below_setCells hH3 _ _ _ (Nat.le_refl _)⟩) (fun hHeld => ?_)
        clear hK K
        have hfb := hH2.setCells (bvs bs).toArray.toList 0 (by rw [Array.length_toList, hs32.out, hcs]; decide)
        rw [ovw_all _ _ (by rw [Array.length_toList, hs32.out, hcs])] at hfb
        have HFB := Lib.hid hfb
        clear hfb
        refine wpAnyH_ready (rs := [6]) (by kernel_rfl) (by simp) ?_
        refine AllReadyH.cons rfl (fun K hK => ?_) AllReadyH.nil
        go_simp
        refine hK.out _ _ (hHeld) (fun hHeld => ?_)
        clear hK K
        refine wpAnyH_done (by kernel_rfl) ?_ _
        have HH := Lib.hid hHeld.2.2
        clear hHeld
        go_wp2
        exact bodyPost_ret (results_agg_tmp rfl _ _ w.heap.size (bvs bs).toArray rfl hT2.out (cellsAt_blk HFB.out)) rfl ⟨HH.out, .inr ⟨_, HU.out, by rw [HBE.out]; rfl⟩⟩
      · rw [if_neg hde] at hul
        have hcmp : ((str (Lib.decDigits (decN s))).toList == (str s).toList) = false := by rw [str_list, str_list]; simpa using hde
        have HU := Lib.hid hul
        have HBE := Lib.hid hbe
        clear hde hul hbe
        refine wp_region_held_drew (S := fun W => Blk W (w.heap.size + 1) 61 (bvs bs).toArray ∧ (∃ cs : Array Value, cs.size = 32 ∧ Blk W w.heap.size 61 cs) ∧ Below w.heap.size w W) (by kernel_rfl) (⟨HB.out.drew, ⟨_, by rfl, HR.out.drew⟩, HBW.out.drew⟩) (fun hHeld => ?_)
        refine wpAnyH_take (i := 0) (v := .agg (bvs bs).toArray) rfl (by kernel_rfl) (by kernel_rfl) (by kernel_rfl) (fun _ _ _ h => h) (yieldsIf_load_mid (by rfl) 61 _ rfl (w.heap.size + 1) 0 rfl (bvs bs) _ (fun W hS => cellsAt_blk hS.1) Tryd.underlying61 rfl hi61.out) hHeld ?_
        simp only [Act.put, List.setIfInBounds_toArray, List.set_cons_zero, List.set_cons_succ, List.getElem_toArray, List.getElem_cons_succ, List.getElem_cons_zero]
        refine wpAnyH_take (i := 1) (v := .agg (bvs bs).toArray) rfl (by kernel_rfl) (by kernel_rfl) (by kernel_rfl) (fun _ _ _ h => h) (yieldsIf_load_mid (by rfl) 61 _ rfl (w.heap.size + 1) 0 rfl (bvs bs) _ (fun W hS => cellsAt_blk hS.1) Tryd.underlying61 rfl hi61.out) hHeld ?_
        simp only [Act.put, List.setIfInBounds_toArray, List.set_cons_zero, List.set_cons_succ, List.getElem_toArray, List.getElem_cons_succ, List.getElem_cons_zero]
        refine wpAnyH_take (i := 3) (v := .string (str s)) rfl (by kernel_rfl) (by kernel_rfl) (by kernel_rfl) (fun _ _ _ h => h) (.inl ⟨by rfl, fun W hS => by go_simp⟩) hHeld ?_
        simp only [Act.put, List.setIfInBounds_toArray, List.set_cons_zero, List.set_cons_succ, List.getElem_toArray, List.getElem_cons_succ, List.getElem_cons_zero]
        refine wpAnyH_ready (rs := [2]) (by kernel_rfl) (by simp) ?_
        refine AllReadyH.cons rfl (fun K hK => ?_) AllReadyH.nil
        go_simp
        go_wp2_with (go_at_call 50; refine (decimal_calls bs _ HDE.out).mono ?_; rintro e w5 ⟨rfl, hb5⟩; rw [hvl])
        refine hK.out _ _ (⟨hHeld.1.below hb5 hHeld.1.lt, (by obtain ⟨cs, h1, h2⟩ := hHeld.2.1; exact ⟨cs, h1, h2.below hb5 h2.lt⟩), thn hHeld.2.2 hb5⟩) (fun hHeld => ?_)
        clear hK K
        refine wpAnyH_take (i := 4) (v := .bool false) rfl (by kernel_rfl) (by kernel_rfl) (by kernel_rfl) (fun _ _ _ h => h) (.inl ⟨by rfl, fun W hS => by go_simp⟩) hHeld ?_
        simp only [Act.put, List.setIfInBounds_toArray, List.set_cons_zero, List.set_cons_succ, List.getElem_toArray, List.getElem_cons_succ, List.getElem_cons_zero]
        obtain ⟨hH1, ⟨cs, hcs, hH2⟩, hH3⟩ := hHeld
        refine wpAnyH_ready (rs := [5]) (by kernel_rfl) (by simp) ?_
        refine AllReadyH.cons rfl (fun K hK => ?_) AllReadyH.nil
        refine armH_storeAgg _ rfl rfl 61 (.tmp 2) (.tmp 44) rfl w.heap.size 0 rfl (bvs bs).toArray rfl hT2.out (hH2.room 0 _ (by rw [hs32.out, hcs]; decide)) (oneCell_bvs _) ?_
        simp only [Act.put, List.setIfInBounds_toArray, List.set_cons_zero, List.set_cons_succ, List.getElem_toArray, List.getElem_cons_succ, List.getElem_cons_zero]
        refine hK.out _ _ (⟨hH1.farCells _ _ _ (by omega), ⟨(bvs bs).toArray, hs32.out, (by have h := hH2.setCells (bvs bs).toArray.toList 0 (by rw [Array.length_toList, hs32.out, hcs]; decide); rw [ovw_all _ _ (by rw [Array.length_toList, hs32.out, hcs])] at h; exact h)⟩, below_setCells hH3 _ _ _ (Nat.le_refl _)⟩) (fun hHeld => ?_)
        clear hK K
        have hfb := hH2.setCells (bvs bs).toArray.toList 0 (by rw [Array.length_toList, hs32.out, hcs]; decide)
        rw [ovw_all _ _ (by rw [Array.length_toList, hs32.out, hcs])] at hfb
        have HFB := Lib.hid hfb
        clear hfb
        refine wpAnyH_ready (rs := [6]) (by kernel_rfl) (by simp) ?_
        refine AllReadyH.cons rfl (fun K hK => ?_) AllReadyH.nil
        go_simp
        refine hK.out _ _ (hHeld) (fun hHeld => ?_)
        clear hK K
        refine wpAnyH_done (by kernel_rfl) ?_ _
        have HH := Lib.hid hHeld.2.2
        clear hHeld
        go_wp2
        exact bodyPost_ret (results_agg_tmp rfl _ _ w.heap.size (bvs bs).toArray rfl hT2.out (cellsAt_blk HFB.out)) rfl ⟨HH.out, .inl ⟨HU.out, bs, HDE.out, rfl⟩⟩
end Go.Proofs.YtfjfjjcdlgdbcaaDoor
namespace Go.Proofs
open Go.Shelf
def Tryd.laysPu14_ren : Go.Shelf.Ren := ⟨fun | 14 => 94 | 16 => 128 | 17 => 129 | 19 => 148 | 20 => 149 | 21 => 150 | 22 => 151 | 23 => 152 | 24 => 153 | 25 => 167 | 27 => 104 | 26 => 168 | 28 => 132 | 29 => 155 | 30 => 120 | 31 => 121 | 32 => 122 | 33 => 123 | 35 => 141 | 34 => 140 | 36 => 142 | 37 => 143 | 38 => 144 | 39 => 161 | 40 => 162 | n => n, fun | 9 => 9 | 3 => 3 | 22 => 26 | 24 => 86 | 25 => 150 | 4 => 4 | 34 => 193 | 5 => 5 | 36 => 136 | 37 => 22 | 0 => 0 | 39 => 195 | 21 => 21 | 44 => 206 | 47 => 141 | 50 => 218 | 48 => 216 | 2 => 2 | 52 => 171 | 55 => 174 | 59 => 187 | 60 => 188 | 20 => 20 | 61 => 138 | 65 => 24 | 66 => 213 | 67 => 96 | n => n, fun | 0 => 2 | 1 => 3 | 2 => 0 | 3 => 6 | 4 => 7 | n => n⟩
theorem Tryd.laysPu14 : Go.Proofs.LaysPu.n14 Tryd.prog Tryd.laysPu14_ren := {
  mixed := by kernel_rfl
  f14 := Tryd.func94.trans (congrArg some (by kernel_rfl))
  f16 := Tryd.func128.trans (congrArg some (by kernel_rfl))
  f17 := Tryd.func129.trans (congrArg some (by kernel_rfl))
  f19 := Tryd.func148.trans (congrArg some (by kernel_rfl))
  f20 := Tryd.func149.trans (congrArg some (by kernel_rfl))
  f21 := Tryd.func150.trans (congrArg some (by kernel_rfl))
  f22 := Tryd.func151.trans (congrArg some (by kernel_rfl))
  f23 := Tryd.func152.trans (congrArg some (by kernel_rfl))
  f24 := Tryd.func153.trans (congrArg some (by kernel_rfl))
  f25 := Tryd.func167.trans (congrArg some (by kernel_rfl))
  f26 := Tryd.func168.trans (congrArg some (by kernel_rfl))
  f27 := Tryd.func104.trans (congrArg some (by kernel_rfl))
  f28 := Tryd.func132.trans (congrArg some (by kernel_rfl))
  f29 := Tryd.func155.trans (congrArg some (by kernel_rfl))
  f30 := Tryd.func120.trans (congrArg some (by kernel_rfl))
  f31 := Tryd.func121.trans (congrArg some (by kernel_rfl))
  f32 := Tryd.func122.trans (congrArg some (by kernel_rfl))
  f33 := Tryd.func123.trans (congrArg some (by kernel_rfl))
  f34 := Tryd.func140.trans (congrArg some (by kernel_rfl))
  f35 := Tryd.func141.trans (congrArg some (by kernel_rfl))
  f36 := Tryd.func142.trans (congrArg some (by kernel_rfl))
  f37 := Tryd.func143.trans (congrArg some (by kernel_rfl))
  f38 := Tryd.func144.trans (congrArg some (by kernel_rfl))
  f39 := Tryd.func161.trans (congrArg some (by kernel_rfl))
  f40 := Tryd.func162.trans (congrArg some (by kernel_rfl))
  t0 := Tryd.underlying0
  a0 := Tryd.isAgg0
  z0 := Tryd.sizeOf0
  v0 := Tryd.zeroValue0
  i0 := by kernel_rfl
  t2 := Tryd.underlying2
  a2 := Tryd.isAgg2
  z2 := Tryd.sizeOf2
  v2 := Tryd.zeroValue2
  i2 := by kernel_rfl
  t3 := Tryd.underlying3
  a3 := Tryd.isAgg3
  z3 := Tryd.sizeOf3
  v3 := Tryd.zeroValue3
  i3 := by kernel_rfl
  t4 := Tryd.underlying4
  a4 := Tryd.isAgg4
  z4 := Tryd.sizeOf4
  v4 := Tryd.zeroValue4
  i4 := by kernel_rfl
  t5 := Tryd.underlying5
  a5 := Tryd.isAgg5
  z5 := Tryd.sizeOf5
  v5 := Tryd.zeroValue5
  i5 := by kernel_rfl
  t9 := Tryd.underlying9
  a9 := Tryd.isAgg9
  z9 := Tryd.sizeOf9
  v9 := Tryd.zeroValue9
  i9 := by kernel_rfl
  t20 := Tryd.underlying20
  a20 := Tryd.isAgg20
  z20 := Tryd.sizeOf20
  v20 := Tryd.zeroValue20
  i20 := by kernel_rfl
  t21 := Tryd.underlying21
  a21 := Tryd.isAgg21
  z21 := Tryd.sizeOf21
  v21 := Tryd.zeroValue21
  i21 := by kernel_rfl
  t22 := Tryd.underlying26
  a22 := Tryd.isAgg26
  z22 := Tryd.sizeOf26
  v22 := Tryd.zeroValue26
  i22 := by kernel_rfl
  t24 := Tryd.underlying86
  a24 := Tryd.isAgg86
  z24 := Tryd.sizeOf86
  v24 := Tryd.zeroValue86
  i24 := by kernel_rfl
  t25 := Tryd.underlying150
  a25 := Tryd.isAgg150
  z25 := Tryd.sizeOf150
  v25 := Tryd.zeroValue150
  i25 := by kernel_rfl
  t34 := Tryd.underlying193
  a34 := Tryd.isAgg193
  z34 := Tryd.sizeOf193
  v34 := Tryd.zeroValue193
  i34 := by kernel_rfl
  c34 := by kernel_rfl
  t36 := Tryd.underlying136
  a36 := Tryd.isAgg136
  z36 := Tryd.sizeOf136
  v36 := Tryd.zeroValue136
  i36 := by kernel_rfl
  t37 := Tryd.underlying22
  a37 := Tryd.isAgg22
  z37 := Tryd.sizeOf22
  v37 := Tryd.zeroValue22
  i37 := by kernel_rfl
  t39 := Tryd.underlying195
  a39 := Tryd.isAgg195
  z39 := Tryd.sizeOf195
  v39 := Tryd.zeroValue195
  i39 := by kernel_rfl
  t44 := Tryd.underlying206
  a44 := Tryd.isAgg206
  z44 := Tryd.sizeOf206
  v44 := Tryd.zeroValue206
  i44 := by kernel_rfl
  t47 := Tryd.underlying141
  a47 := Tryd.isAgg141
  z47 := Tryd.sizeOf141
  v47 := Tryd.zeroValue141
  i47 := by kernel_rfl
  t48 := Tryd.underlying216
  a48 := Tryd.isAgg216
  z48 := Tryd.sizeOf216
  v48 := Tryd.zeroValue216
  i48 := by kernel_rfl
  t50 := Tryd.underlying218
  a50 := Tryd.isAgg218
  z50 := Tryd.sizeOf218
  v50 := Tryd.zeroValue218
  i50 := by kernel_rfl
  t52 := Tryd.underlying171
  a52 := Tryd.isAgg171
  z52 := Tryd.sizeOf171
  v52 := Tryd.zeroValue171
  i52 := by kernel_rfl
  t55 := Tryd.underlying174
  a55 := Tryd.isAgg174
  z55 := Tryd.sizeOf174
  v55 := Tryd.zeroValue174
  i55 := by kernel_rfl
  t59 := Tryd.underlying187
  a59 := Tryd.isAgg187
  z59 := Tryd.sizeOf187
  v59 := Tryd.zeroValue187
  i59 := by kernel_rfl
  t60 := Tryd.underlying188
  a60 := Tryd.isAgg188
  z60 := Tryd.sizeOf188
  v60 := Tryd.zeroValue188
  i60 := by kernel_rfl
  t61 := Tryd.underlying138
  a61 := Tryd.isAgg138
  z61 := Tryd.sizeOf138
  t65 := Tryd.underlying24
  a65 := Tryd.isAgg24
  z65 := Tryd.sizeOf24
  v65 := Tryd.zeroValue24
  i65 := by kernel_rfl
  t66 := Tryd.underlying213
  a66 := Tryd.isAgg213
  z66 := Tryd.sizeOf213
  v66 := Tryd.zeroValue213
  i66 := by kernel_rfl
  t67 := Tryd.underlying96
  a67 := Tryd.isAgg96
  z67 := Tryd.sizeOf96
  v67 := Tryd.zeroValue96
  i67 := by kernel_rfl
  g0 := by kernel_rfl
  m0 := by kernel_rfl
  g1 := by kernel_rfl
  m1 := by kernel_rfl
  g2 := by kernel_rfl
  m2 := by kernel_rfl
  g3 := by kernel_rfl
  m3 := by kernel_rfl
  g4 := by kernel_rfl
  m4 := by kernel_rfl }
def Tryd.lays145_ren : Go.Shelf.Ren := ⟨fun | 145 => 88 | 220 => 124 | 219 => 145 | 217 => 163 | 225 => 164 | 224 => 165 | 267 => 166 | 266 => 171 | 314 => 172 | n => n, fun | 9 => 9 | 4 => 4 | 59 => 146 | 3 => 3 | 5 => 5 | 46 => 136 | 146 => 214 | 51 => 188 | n => n, fun | 1 => 1 | n => n⟩
theorem Tryd.lays145 : Go.Proofs.Lays.n145 Tryd.prog Tryd.lays145_ren := {
  mixed := by kernel_rfl
  f145 := Tryd.func88.trans (congrArg some (by kernel_rfl))
  f217 := Tryd.func163.trans (congrArg some (by kernel_rfl))
  f219 := Tryd.func145.trans (congrArg some (by kernel_rfl))
  f220 := Tryd.func124.trans (congrArg some (by kernel_rfl))
  f224 := Tryd.func165.trans (congrArg some (by kernel_rfl))
  f225 := Tryd.func164.trans (congrArg some (by kernel_rfl))
  f266 := Tryd.func171.trans (congrArg some (by kernel_rfl))
  f267 := Tryd.func166.trans (congrArg some (by kernel_rfl))
  f314 := Tryd.func172.trans (congrArg some (by kernel_rfl))
  t3 := Tryd.underlying3
  a3 := Tryd.isAgg3
  z3 := Tryd.sizeOf3
  v3 := Tryd.zeroValue3
  t4 := Tryd.underlying4
  a4 := Tryd.isAgg4
  z4 := Tryd.sizeOf4
  v4 := Tryd.zeroValue4
  t5 := Tryd.underlying5
  a5 := Tryd.isAgg5
  z5 := Tryd.sizeOf5
  v5 := Tryd.zeroValue5
  t9 := Tryd.underlying9
  a9 := Tryd.isAgg9
  z9 := Tryd.sizeOf9
  v9 := Tryd.zeroValue9
  t46 := Tryd.underlying136
  a46 := Tryd.isAgg136
  z46 := Tryd.sizeOf136
  v46 := Tryd.zeroValue136
  t51 := Tryd.underlying188
  a51 := Tryd.isAgg188
  z51 := Tryd.sizeOf188
  v51 := Tryd.zeroValue188
  t59 := Tryd.underlying146
  a59 := Tryd.isAgg146
  z59 := Tryd.sizeOf146
  v59 := Tryd.zeroValue146
  t146 := Tryd.underlying214
  a146 := Tryd.isAgg214
  z146 := Tryd.sizeOf214
  v146 := Tryd.zeroValue214
  g1 := by kernel_rfl }
open Go.RowKit Go.Lib in
theorem Tryd.strings_Cut (s sep : ByteArray) (m : Int) (w : World) (hs : s.size < 4294967281) (hm : w.cell? ⟨1, 0, none⟩ = some (.int .i64 m)) :
    Calls Tryd.prog 88 #[.string s, .string sep] w fun e w' => e = .returned (.tuple #[.string ⟨(Lib.cut s.data.toList sep.data.toList).1.toArray⟩, .string ⟨(Lib.cut s.data.toList sep.data.toList).2.1.toArray⟩, .bool (Lib.cut s.data.toList sep.data.toList).2.2]) ∧ ∃ n, w' = w.drewN n := Any.strings_Cut Tryd.lays145 s sep m w hs hm
open Go.RowKit in
/-- strconv.ParseUint of 10 and 64 at whatever string -/
theorem Tryd.ParseUint_all (s : ByteArray) (hlim : s.size ≤ 281474976710656) (w : World) (h2 : ∃ ev, w.cell? ⟨2, 0, none⟩ = some ev ∧ (ev = .nilIface ∨ ∃ te pe, ev = .iface te pe)) (h3 : ∃ ev, w.cell? ⟨3, 0, none⟩ = some ev ∧ (ev = .nilIface ∨ ∃ te pe, ev = .iface te pe)) :
    Calls Tryd.prog 94 #[.string s, .int .i64 10, .int .i64 64] w fun e w' => Below w.heap.size w w' ∧
      ((∃ v, Lib.parseUintB 64 s.data.toList = .ok v ∧ e = .returned (.tuple #[.int .u64 (v : Int), .nilIface])) ∨ ((∀ v, Lib.parseUintB 64 s.data.toList ≠ .ok v) ∧ ∃ (n : Nat) (N : Nat), n < 18446744073709551616 ∧ e = .returned (.tuple #[.int .u64 (n : Int), .iface 195 (.pointer (some ⟨N, 0, none⟩))]))) := by
  obtain ⟨ev2, hv2, he2⟩ := h2
  obtain ⟨ev3, hv3, he3⟩ := h3
  cases h : Lib.parseUintB 64 s.data.toList
  · rename_i v
    refine (Any.strconv_ParseUint_10_at64_ok Tryd.laysPu14 s (by omega) v h w).mono fun e w' ⟨he, hw⟩ => ⟨?_, .inl ⟨v, rfl, he⟩⟩
    rcases hw with rfl | rfl
    · exact Below.refl _ _
    · exact ⟨rfl, rfl, rfl, by rw [Lib.bytesWorld_size]; omega, fun i hi => Lib.bytesWorld_at_old _ _ _ i hi⟩
  · exact (Any.strconv_ParseUint_10_at64_syntax Tryd.laysPu14 s hlim h ev2 w hv2 he2).mono fun e w' ⟨N, he, _, _, hb⟩ => ⟨hb, .inr ⟨fun v hv => (by cases hv), 0, N, by omega, he⟩⟩
  · exact (Any.strconv_ParseUint_10_at64_range Tryd.laysPu14 s hlim h ev3 w hv3 he3).mono fun e w' ⟨N, he, _, _, hb⟩ => ⟨hb, .inr ⟨fun v hv => (by cases hv), 18446744073709551615, N, by omega, he⟩⟩
end Go.Proofs
namespace Go.Proofs
open Go.Shelf
def Tryd.laysC172_ren : Go.Shelf.Ren := ⟨fun | 172 => 107 | 244 => 133 | 245 => 129 | 247 => 156 | 279 => 150 | 280 => 151 | 281 => 152 | 282 => 153 | 287 => 128 | 316 => 167 | 171 => 104 | 205 => 168 | 321 => 148 | 322 => 149 | 243 => 132 | 246 => 155 | 283 => 120 | 284 => 121 | 285 => 122 | 286 => 123 | 129 => 141 | 317 => 140 | 318 => 142 | 319 => 143 | 320 => 144 | 337 => 161 | 338 => 162 | n => n, fun | 9 => 9 | 3 => 3 | 75 => 86 | 76 => 87 | 4 => 4 | 5 => 5 | 167 => 193 | 37 => 22 | 0 => 0 | 85 => 201 | 2 => 2 | 168 => 195 | 53 => 26 | 175 => 150 | 46 => 136 | 210 => 206 | 127 => 141 | 145 => 218 | 143 => 216 | 21 => 21 | 171 => 171 | 173 => 174 | 212 => 187 | 51 => 188 | 20 => 20 | 213 => 138 | 232 => 24 | 233 => 213 | 80 => 96 | n => n, fun | 15 => 2 | 16 => 3 | 17 => 0 | 18 => 6 | 19 => 7 | n => n⟩
theorem Tryd.laysC172 : Go.Proofs.LaysC.n172 Tryd.prog Tryd.laysC172_ren := {
  mixed := by kernel_rfl
  f129 := Tryd.func141.trans (congrArg some (by kernel_rfl))
  f171 := Tryd.func104.trans (congrArg some (by kernel_rfl))
  f172 := Tryd.func107.trans (congrArg some (by kernel_rfl))
  f205 := Tryd.func168.trans (congrArg some (by kernel_rfl))
  f243 := Tryd.func132.trans (congrArg some (by kernel_rfl))
  f244 := Tryd.func133.trans (congrArg some (by kernel_rfl))
  f245 := Tryd.func129.trans (congrArg some (by kernel_rfl))
  f246 := Tryd.func155.trans (congrArg some (by kernel_rfl))
  f247 := Tryd.func156.trans (congrArg some (by kernel_rfl))
  f279 := Tryd.func150.trans (congrArg some (by kernel_rfl))
  f280 := Tryd.func151.trans (congrArg some (by kernel_rfl))
  f281 := Tryd.func152.trans (congrArg some (by kernel_rfl))
  f282 := Tryd.func153.trans (congrArg some (by kernel_rfl))
  f283 := Tryd.func120.trans (congrArg some (by kernel_rfl))
  f284 := Tryd.func121.trans (congrArg some (by kernel_rfl))
  f285 := Tryd.func122.trans (congrArg some (by kernel_rfl))
  f286 := Tryd.func123.trans (congrArg some (by kernel_rfl))
  f287 := Tryd.func128.trans (congrArg some (by kernel_rfl))
  f316 := Tryd.func167.trans (congrArg some (by kernel_rfl))
  f317 := Tryd.func140.trans (congrArg some (by kernel_rfl))
  f318 := Tryd.func142.trans (congrArg some (by kernel_rfl))
  f319 := Tryd.func143.trans (congrArg some (by kernel_rfl))
  f320 := Tryd.func144.trans (congrArg some (by kernel_rfl))
  f321 := Tryd.func148.trans (congrArg some (by kernel_rfl))
  f322 := Tryd.func149.trans (congrArg some (by kernel_rfl))
  f337 := Tryd.func161.trans (congrArg some (by kernel_rfl))
  f338 := Tryd.func162.trans (congrArg some (by kernel_rfl))
  t0 := Tryd.underlying0
  a0 := Tryd.isAgg0
  z0 := Tryd.sizeOf0
  v0 := Tryd.zeroValue0
  t2 := Tryd.underlying2
  a2 := Tryd.isAgg2
  z2 := Tryd.sizeOf2
  v2 := Tryd.zeroValue2
  t3 := Tryd.underlying3
  a3 := Tryd.isAgg3
  z3 := Tryd.sizeOf3
  v3 := Tryd.zeroValue3
  t4 := Tryd.underlying4
  a4 := Tryd.isAgg4
  z4 := Tryd.sizeOf4
  v4 := Tryd.zeroValue4
  t5 := Tryd.underlying5
  a5 := Tryd.isAgg5
  z5 := Tryd.sizeOf5
  v5 := Tryd.zeroValue5
  t9 := Tryd.underlying9
  a9 := Tryd.isAgg9
  z9 := Tryd.sizeOf9
  v9 := Tryd.zeroValue9
  t20 := Tryd.underlying20
  a20 := Tryd.isAgg20
  z20 := Tryd.sizeOf20
  v20 := Tryd.zeroValue20
  t21 := Tryd.underlying21
  a21 := Tryd.isAgg21
  z21 := Tryd.sizeOf21
  v21 := Tryd.zeroValue21
  t37 := Tryd.underlying22
  a37 := Tryd.isAgg22
  z37 := Tryd.sizeOf22
  v37 := Tryd.zeroValue22
  t46 := Tryd.underlying136
  a46 := Tryd.isAgg136
  z46 := Tryd.sizeOf136
  v46 := Tryd.zeroValue136
  t51 := Tryd.underlying188
  a51 := Tryd.isAgg188
  z51 := Tryd.sizeOf188
  v51 := Tryd.zeroValue188
  t53 := Tryd.underlying26
  a53 := Tryd.isAgg26
  z53 := Tryd.sizeOf26
  v53 := Tryd.zeroValue26
  t75 := Tryd.underlying86
  a75 := Tryd.isAgg86
  z75 := Tryd.sizeOf86
  v75 := Tryd.zeroValue86
  t76 := Tryd.underlying87
  a76 := Tryd.isAgg87
  z76 := Tryd.sizeOf87
  v76 := Tryd.zeroValue87
  t85 := Tryd.underlying201
  a85 := Tryd.isAgg201
  z85 := Tryd.sizeOf201
  v85 := Tryd.zeroValue201
  t127 := Tryd.underlying141
  a127 := Tryd.isAgg141
  z127 := Tryd.sizeOf141
  v127 := Tryd.zeroValue141
  t143 := Tryd.underlying216
  a143 := Tryd.isAgg216
  z143 := Tryd.sizeOf216
  v143 := Tryd.zeroValue216
  t145 := Tryd.underlying218
  a145 := Tryd.isAgg218
  z145 := Tryd.sizeOf218
  v145 := Tryd.zeroValue218
  t167 := Tryd.underlying193
  a167 := Tryd.isAgg193
  z167 := Tryd.sizeOf193
  v167 := Tryd.zeroValue193
  t168 := Tryd.underlying195
  a168 := Tryd.isAgg195
  z168 := Tryd.sizeOf195
  v168 := Tryd.zeroValue195
  t171 := Tryd.underlying171
  a171 := Tryd.isAgg171
  z171 := Tryd.sizeOf171
  v171 := Tryd.zeroValue171
  t173 := Tryd.underlying174
  a173 := Tryd.isAgg174
  z173 := Tryd.sizeOf174
  v173 := Tryd.zeroValue174
  t175 := Tryd.underlying150
  a175 := Tryd.isAgg150
  z175 := Tryd.sizeOf150
  v175 := Tryd.zeroValue150
  t210 := Tryd.underlying206
  a210 := Tryd.isAgg206
  z210 := Tryd.sizeOf206
  v210 := Tryd.zeroValue206
  t212 := Tryd.underlying187
  a212 := Tryd.isAgg187
  z212 := Tryd.sizeOf187
  v212 := Tryd.zeroValue187
  t213 := Tryd.underlying138
  a213 := Tryd.isAgg138
  z213 := Tryd.sizeOf138
  t232 := Tryd.underlying24
  a232 := Tryd.isAgg24
  z232 := Tryd.sizeOf24
  v232 := Tryd.zeroValue24
  t233 := Tryd.underlying213
  a233 := Tryd.isAgg213
  z233 := Tryd.sizeOf213
  v233 := Tryd.zeroValue213
  g15 := by kernel_rfl
  g16 := by kernel_rfl
  g17 := by kernel_rfl
  g18 := by kernel_rfl
  g19 := by kernel_rfl
  t80 := Tryd.underlying96
  a80 := Tryd.isAgg96
  z80 := Tryd.sizeOf96
  v80 := Tryd.zeroValue96
  i0 := by kernel_rfl
  i2 := by kernel_rfl
  i3 := by kernel_rfl
  i4 := by kernel_rfl
  i5 := by kernel_rfl
  i9 := by kernel_rfl
  i20 := by kernel_rfl
  i21 := by kernel_rfl
  i37 := by kernel_rfl
  i46 := by kernel_rfl
  i51 := by kernel_rfl
  i53 := by kernel_rfl
  i75 := by kernel_rfl
  i76 := by kernel_rfl
  i80 := by kernel_rfl
  i85 := by kernel_rfl
  i127 := by kernel_rfl
  i143 := by kernel_rfl
  i145 := by kernel_rfl
  i167 := by kernel_rfl
  i168 := by kernel_rfl
  i171 := by kernel_rfl
  i173 := by kernel_rfl
  i175 := by kernel_rfl
  i210 := by kernel_rfl
  i212 := by kernel_rfl
  i232 := by kernel_rfl
  i233 := by kernel_rfl
  m15 := by kernel_rfl
  m16 := by kernel_rfl
  m17 := by kernel_rfl
  m18 := by kernel_rfl
  m19 := by kernel_rfl
  c0 := by kernel_rfl
  c2 := by kernel_rfl
  c3 := by kernel_rfl
  c4 := by kernel_rfl
  c5 := by kernel_rfl
  c9 := by kernel_rfl
  c20 := by kernel_rfl
  c21 := by kernel_rfl
  c37 := by kernel_rfl
  c46 := by kernel_rfl
  c51 := by kernel_rfl
  c53 := by kernel_rfl
  c75 := by kernel_rfl
  c76 := by kernel_rfl
  c80 := by kernel_rfl
  c85 := by kernel_rfl
  c127 := by kernel_rfl
  c143 := by kernel_rfl
  c145 := by kernel_rfl
  c167 := by kernel_rfl
  c168 := by kernel_rfl
  c171 := by kernel_rfl
  c173 := by kernel_rfl
  c175 := by kernel_rfl
  c210 := by kernel_rfl
  c212 := by kernel_rfl
  c213 := by kernel_rfl
  c232 := by kernel_rfl
  c233 := by kernel_rfl }
open Go.RowKit in
/-- strconv.Atoi at whatever string -/
theorem Tryd.Atoi_all (s : ByteArray) (hlim : s.size ≤ 281474976710656) (w : World) (h2 : ∃ ev, w.cell? ⟨2, 0, none⟩ = some ev ∧ (ev = .nilIface ∨ ∃ te pe, ev = .iface te pe)) (h3 : ∃ ev, w.cell? ⟨3, 0, none⟩ = some ev ∧ (ev = .nilIface ∨ ∃ te pe, ev = .iface te pe)) :
    Calls Tryd.prog 107 #[.string s] w fun e w' => Below w.heap.size w w' ∧
      ((∃ v, Lib.atoiAll s.data.toList = .ok v ∧ e = .returned (.tuple #[.int .i64 v, .nilIface])) ∨ ((∀ v, Lib.atoiAll s.data.toList ≠ .ok v) ∧ ∃ n N, e = .returned (.tuple #[.int .i64 n, .iface 195 (.pointer (some ⟨N, 0, none⟩))]))) := by
  obtain ⟨ev2, hv2, he2⟩ := h2
  obtain ⟨ev3, hv3, he3⟩ := h3
  cases h : Lib.atoiAll s.data.toList
  · rename_i v
    refine (Any.strconv_Atoi_ok Tryd.laysC172 s (by omega) v h w).mono fun e w' ⟨he, hw⟩ => ⟨?_, .inl ⟨v, rfl, he⟩⟩
    rcases hw with rfl | ⟨t, rfl⟩
    · exact Below.refl _ _
    · exact ⟨rfl, rfl, rfl, by rw [Lib.bytesWorld_size]; omega, fun i hi => Lib.bytesWorld_at_old _ _ _ i hi⟩
  · exact (Any.strconv_Atoi_syntax Tryd.laysC172 s hlim h ev2 w hv2 he2).mono fun e w' ⟨N, he, _, _, hb⟩ => ⟨hb, .inr ⟨fun v hv => (by cases hv), _, N, he⟩⟩
  · exact (Any.strconv_Atoi_range Tryd.laysC172 s hlim h ev3 w hv3 he3).mono fun e w' ⟨N, he, _, _, hb⟩ => ⟨hb, .inr ⟨fun v hv => (by cases hv), _, N, he⟩⟩
end Go.Proofs
