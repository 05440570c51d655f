/- the texts P0, P1, P2, M1, M2, M3, M4 of this proof, one behind the other -/
import Derived.Test.YtejnfahfjmeabaaGreatDoorK0
import Derived.WalkKit
import Derived.Laws.BitsAllLaws
import Derived.Laws.Bits128
set_option linter.unusedSimpArgs false
set_option linter.unusedVariables false
namespace Go.Proofs.YtejnfahfjmeabaaGreatDoor
set_option linter.unusedSimpArgs false
set_option linter.unusedVariables false

/-- a number's bytes, seven bits each -/
def putL (n : Nat) : List UInt8 := if h : n < 128 then [UInt8.ofNat n] else UInt8.ofNat (n % 128 + 128) :: putL (n / 128)
termination_by n
decreasing_by omega
/-- the number at the beginning, how many bytes it has, an error's number -/
def takeG : Nat → Nat → List UInt8 → Nat × Nat × Nat
  | _, _, [] => (0, 0, 20)
  | i, n, c :: r =>
    if (i = 9 ∧ 1 < c.toNat) ∨ (0 < i ∧ c.toNat = 0) then (0, 0, 21)
    else if c.toNat < 128 then (n + c.toNat * 128 ^ i, i + 1, 0)
    else takeG (i + 1) (n + (c.toNat - 128) * 128 ^ i) r
def takeL (b : List UInt8) : Nat × Nat × Nat := takeG 0 0 b
theorem putL_small (n : Nat) (h : n < 128) : putL n = [UInt8.ofNat n] := by rw [putL, dif_pos h]
theorem putL_more (n : Nat) (h : 128 ≤ n) : putL n = UInt8.ofNat (n % 128 + 128) :: putL (n / 128) := by rw [putL, dif_neg (by omega)]
theorem putL_ne (n : Nat) : putL n ≠ [] := by
  rw [putL]
  split <;> simp
theorem ofNat_small (n : Nat) (h : n < 256) : (UInt8.ofNat n).toNat = n := by simp; omega
theorem putL_len : ∀ (k n : Nat), n < 128 ^ (k + 1) → (putL n).length ≤ k + 1
  | 0, n, h => by rw [putL_small n (by simpa using h)]; simp
  | k + 1, n, h => by
    by_cases h0 : n < 128
    · rw [putL_small n h0]; simp
    · rw [putL_more n (by omega), List.length_cons]
      have := putL_len k (n / 128) (by rw [Nat.div_lt_iff_lt_mul (by decide)]; rw [Nat.pow_succ] at h; omega)
      omega
theorem putL_len64 (n : Nat) (h : n < 18446744073709551616) : (putL n).length ≤ 10 := putL_len 9 n (Nat.lt_of_lt_of_le h (by decide))
/-- what is put is taken -/
theorem takeG_put (rest : List UInt8) : ∀ (k n i a : Nat), n ≤ k → (i = 0 ∨ 0 < n) → i ≤ 9 → n * 128 ^ i < 18446744073709551616 → takeG i a (putL n ++ rest) = (a + n * 128 ^ i, i + (putL n).length, 0) := by
  intro k
  induction k with
  | zero =>
    intro n i a hn h0 h9 hb
    obtain rfl : n = 0 := by omega
    obtain rfl : i = 0 := by omega
    rw [putL_small 0 (by omega)]
    rfl
  | succ k ih =>
    intro n i a hn h0 h9 hb
    by_cases hs : n < 128
    · rw [putL_small n hs, List.cons_append, List.nil_append, takeG]
      have e : (UInt8.ofNat n).toNat = n := ofNat_small n (by omega)
      rw [e]
      have h1 : ¬ ((i = 9 ∧ 1 < n) ∨ (0 < i ∧ n = 0)) := by
        rintro (⟨rfl, h⟩ | ⟨h1, h2⟩)
        · have : 2 * 128 ^ 9 ≤ n * 128 ^ 9 := Nat.mul_le_mul_right _ h
          omega
        · omega
      rw [if_neg h1, if_pos hs]
      rfl
    · rw [putL_more n (by omega), List.cons_append, takeG]
      have e : (UInt8.ofNat (n % 128 + 128)).toNat = n % 128 + 128 := ofNat_small _ (by omega)
      have hi : i ≠ 9 := by
        rintro rfl
        have : 128 * 128 ^ 9 ≤ n * 128 ^ 9 := Nat.mul_le_mul_right _ (by omega)
        omega
      rw [e, if_neg (by omega), if_neg (by omega), ih (n / 128) (i + 1) _ (by omega) (by right; omega) (by omega) ?_]
      · rw [List.length_cons]
        have h2 : n = n % 128 + 128 * (n / 128) := by omega
        have h3 : n * 128 ^ i = (n % 128) * 128 ^ i + n / 128 * 128 ^ (i + 1) := by
          conv => lhs; rw [h2]
          rw [Nat.add_mul, Nat.pow_succ, Nat.mul_comm 128 (n / 128), Nat.mul_assoc, Nat.mul_comm 128 (128 ^ i)]
        rw [show n % 128 + 128 - 128 = n % 128 by omega, h3]
        simp only [Prod.mk.injEq, and_true]
        constructor <;> omega
      · have h4 : n / 128 * 128 ^ (i + 1) ≤ n * 128 ^ i := by
          rw [Nat.pow_succ, Nat.mul_comm (128 ^ i) 128, ← Nat.mul_assoc]
          exact Nat.mul_le_mul_right _ (Nat.div_mul_le_self n 128)
        omega
theorem takeL_put (n : Nat) (h : n < 18446744073709551616) (rest : List UInt8) : takeL (putL n ++ rest) = (n, (putL n).length, 0) := by
  have := takeG_put rest n n 0 0 (Nat.le_refl _) (.inl rfl) (by omega) (by simpa using h)
  simpa [takeL] using this
/-- a part of a number's bytes ends too early -/
theorem takeG_part : ∀ (k n i a j : Nat), n ≤ k → (i = 0 ∨ 0 < n) → i ≤ 9 → n * 128 ^ i < 18446744073709551616 → j < (putL n).length → takeG i a ((putL n).take j) = (0, 0, 20) := by
  intro k
  induction k with
  | zero =>
    intro n i a j hn h0 h9 hb hj
    obtain rfl : n = 0 := by omega
    rw [putL_small 0 (by omega)] at hj ⊢
    simp only [List.length_cons, List.length_nil] at hj
    obtain rfl : j = 0 := by omega
    rfl
  | succ k ih =>
    intro n i a j hn h0 h9 hb hj
    by_cases hs : n < 128
    · rw [putL_small n hs] at hj ⊢
      simp only [List.length_cons, List.length_nil] at hj
      obtain rfl : j = 0 := by omega
      rfl
    · rw [putL_more n (by omega)] at hj ⊢
      cases j with
      | zero => rfl
      | succ j =>
        rw [List.length_cons] at hj
        have e : (UInt8.ofNat (n % 128 + 128)).toNat = n % 128 + 128 := ofNat_small _ (by omega)
        have hi : i ≠ 9 := by
          rintro rfl
          have : 128 * 128 ^ 9 ≤ n * 128 ^ 9 := Nat.mul_le_mul_right _ (by omega)
          omega
        rw [List.take_succ_cons, takeG, e, if_neg (by omega), if_neg (by omega)]
        refine ih (n / 128) (i + 1) _ j (by omega) (by right; omega) (by omega) ?_ (by omega)
        have h4 : n / 128 * 128 ^ (i + 1) ≤ n * 128 ^ i := by
          rw [Nat.pow_succ, Nat.mul_comm (128 ^ i) 128, ← Nat.mul_assoc]
          exact Nat.mul_le_mul_right _ (Nat.div_mul_le_self n 128)
        omega
theorem takeL_part (n : Nat) (h : n < 18446744073709551616) (j : Nat) (hj : j < (putL n).length) : takeL ((putL n).take j) = (0, 0, 20) :=
  takeG_part n n 0 0 j (Nat.le_refl _) (.inl rfl) (by omega) (by simpa using h) hj
theorem takeG_count : ∀ (b : List UInt8) (i a : Nat), (takeG i a b).2.2 = 0 → i < (takeG i a b).2.1 ∧ (takeG i a b).2.1 ≤ i + b.length
  | [], i, a, h => by simp [takeG] at h
  | c :: r, i, a, h => by
    rw [takeG] at h ⊢
    split at h
    · simp at h
    · rename_i h1
      rw [if_neg h1]
      split at h
      · rename_i h2
        rw [if_pos h2]
        simp
      · rename_i h2
        rw [if_neg h2]
        have := takeG_count r (i + 1) _ h
        rw [List.length_cons]
        omega

/-! four bytes, the lowest first -/
def le4 (n : Nat) : List UInt8 := [UInt8.ofNat (n % 256), UInt8.ofNat (n / 256 % 256), UInt8.ofNat (n / 65536 % 256), UInt8.ofNat (n / 16777216 % 256)]
def unle : List UInt8 → Nat
  | [] => 0
  | b :: r => b.toNat + 256 * unle r
theorem unle_le4 (n : Nat) (h : n < 4294967296) : unle (le4 n) = n := by
  simp only [unle, le4]
  rw [ofNat_small _ (by omega), ofNat_small _ (by omega), ofNat_small _ (by omega), ofNat_small _ (by omega)]
  omega
theorem le4_len (n : Nat) : (le4 n).length = 4 := rfl

section
variable (crc : List UInt8 → Nat)
/-- bytes with their sum and length -/
def frameL (b : List UInt8) : List UInt8 := le4 (crc b) ++ (putL b.length ++ b)
/-- the body of a frame, how many bytes the frame has, an error's number -/
def unframeL (b : List UInt8) : List UInt8 × Nat × Nat :=
  if b.length < 4 then ([], 0, 20) else
  let t := takeL (b.drop 4)
  let rest := b.drop (min b.length (4 + t.2.1))
  if t.2.2 ≠ 0 then ([], 0, t.2.2)
  else if 1048576 < t.1 then ([], 0, 21)
  else if rest.length < t.1 then ([], 0, 20)
  else if crc (rest.take t.1) ≠ unle (b.take 4) then ([], 0, 22)
  else (rest.take t.1, 4 + t.2.1 + t.1, 0)
theorem frameL_len (b : List UInt8) : (frameL crc b).length = 4 + (putL b.length).length + b.length := by
  simp only [frameL, List.length_append, le4_len]; omega
theorem unframe_frame (hc : ∀ b, crc b < 4294967296) (b rest : List UInt8) (hb : b.length ≤ 1048576) : unframeL crc (frameL crc b ++ rest) = (b, (frameL crc b).length, 0) := by
  have hl := frameL_len crc b
  have ht : takeL ((frameL crc b ++ rest).drop 4) = (b.length, (putL b.length).length, 0) := by
    unfold frameL
    rw [List.append_assoc, List.drop_left' (le4_len _), List.append_assoc]
    exact takeL_put b.length (by omega) (b ++ rest)
  have hd : (frameL crc b ++ rest).drop (4 + (putL b.length).length) = b ++ rest := by
    unfold frameL
    rw [← List.append_assoc (le4 (crc b)), List.append_assoc, List.drop_left' (by rw [List.length_append, le4_len])]
  have h4 : (frameL crc b ++ rest).take 4 = le4 (crc b) := by
    unfold frameL
    rw [List.append_assoc, List.take_left' (le4_len _)]
  unfold unframeL
  rw [if_neg (by rw [List.length_append]; omega)]
  simp only [ht, h4]
  rw [Nat.min_eq_right (by rw [List.length_append]; omega), hd, if_neg (by simp), if_neg (by omega), if_neg (by rw [List.length_append]; omega), List.take_left' rfl, if_neg (by rw [unle_le4 _ (hc b)]; simp), hl]
/-- a part of a frame is none -/
theorem unframe_part (b : List UInt8) (hb : b.length ≤ 1048576) (j : Nat) (hj : j < (frameL crc b).length) : (unframeL crc ((frameL crc b).take j)).2.2 ≠ 0 := by
  have hl := frameL_len crc b
  have hlj : ((frameL crc b).take j).length = j := by rw [List.length_take]; omega
  unfold unframeL
  rw [hlj]
  by_cases h4 : j < 4
  · rw [if_pos h4]; simp
  · rw [if_neg h4]
    have hd : ((frameL crc b).take j).drop 4 = (putL b.length ++ b).take (j - 4) := by
      unfold frameL
      rw [List.drop_take, List.drop_left' (le4_len _)]
    rw [hd]
    by_cases hp : j - 4 < (putL b.length).length
    · rw [List.take_append_of_le_length (by omega), takeL_part b.length (by omega) _ hp]
      simp
    · have ht : takeL ((putL b.length ++ b).take (j - 4)) = (b.length, (putL b.length).length, 0) := by
        rw [List.take_append, List.take_of_length_le (by omega)]
        exact takeL_put b.length (by omega) _
      simp only [ht]
      rw [if_neg (by simp), if_neg (by omega), if_pos (by rw [List.length_drop, hlj]; omega)]
      simp
end
end Go.Proofs.YtejnfahfjmeabaaGreatDoor
namespace Go.Proofs.YtejnfahfjmeabaaGreatDoor
set_option linter.unusedSimpArgs false
set_option linter.unusedVariables false

/-- a value as it stands in a change -/
def valB (v : List UInt8) : List UInt8 := putL v.length ++ v
def valsB (vs : List (List UInt8)) : List UInt8 := (vs.map valB).flatten
/-- a change's bytes -/
def bodyL (kind n : Nat) (vs : List (List UInt8)) : List UInt8 := putL kind ++ (putL n ++ valsB vs)
/-- where values stand whose first number begins at a place -/
def spotsF : Nat → List (List UInt8) → List (Nat × Nat)
  | _, [] => []
  | p, v :: vs => (p + (putL v.length).length, v.length) :: spotsF (p + (putL v.length).length + v.length) vs
theorem valsB_cons (v : List UInt8) (vs : List (List UInt8)) : valsB (v :: vs) = valB v ++ valsB vs := rfl
theorem valsB_snoc (vs : List (List UInt8)) (v : List UInt8) : valsB (vs ++ [v]) = valsB vs ++ valB v := by simp [valsB]
theorem valB_len (v : List UInt8) : (valB v).length = (putL v.length).length + v.length := by simp [valB]
theorem spotsF_len : ∀ (vs : List (List UInt8)) (p : Nat), (spotsF p vs).length = vs.length
  | [], _ => rfl
  | v :: vs, p => by rw [spotsF, List.length_cons, List.length_cons, spotsF_len vs]
theorem spotsF_snoc : ∀ (vs : List (List UInt8)) (p : Nat) (v : List UInt8), spotsF p (vs ++ [v]) = spotsF p vs ++ [(p + (valsB vs).length + (putL v.length).length, v.length)]
  | [], p, v => by simp [spotsF, valsB]
  | u :: vs, p, v => by
    rw [List.cons_append, spotsF, spotsF, spotsF_snoc vs, List.cons_append, valsB_cons, List.length_append, valB_len]
    congr 3
    simp only [Prod.mk.injEq, and_true]
    omega
/-- values read at their spots -/
def Reads (b : List UInt8) (sp : List (Nat × Nat)) (vs : List (List UInt8)) : Prop :=
  sp.length = vs.length ∧ ∀ (i a m : Nat) (v : List UInt8), sp[i]? = some (a, m) → vs[i]? = some v → m = v.length ∧ a + m ≤ b.length ∧ (b.drop a).take m = v
theorem Reads.more {b : List UInt8} {sp : List (Nat × Nat)} {vs : List (List UInt8)} (h : Reads b sp vs) (r : List UInt8) : Reads (b ++ r) sp vs :=
  ⟨h.1, fun i a m v h1 h2 => by
    obtain ⟨e1, e2, e3⟩ := h.2 i a m v h1 h2
    refine ⟨e1, by rw [List.length_append]; omega, ?_⟩
    rw [List.drop_append_of_le_length (by omega), List.take_append_of_le_length (by rw [List.length_drop]; omega)]
    exact e3⟩
theorem reads_new : ∀ (vs : List (List UInt8)) (pre post : List UInt8), Reads (pre ++ (valsB vs ++ post)) (spotsF pre.length vs) vs
  | [], pre, post => ⟨rfl, fun i a m v h _ => by simp [spotsF] at h⟩
  | v :: vs, pre, post => by
    have ih := reads_new vs (pre ++ valB v) post
    have e : pre ++ (valsB (v :: vs) ++ post) = (pre ++ valB v) ++ (valsB vs ++ post) := by rw [valsB_cons]; simp
    rw [e]
    have el : (pre ++ valB v).length = pre.length + (putL v.length).length + v.length := by rw [List.length_append, valB_len]; omega
    rw [el] at ih
    refine ⟨by rw [spotsF, List.length_cons, List.length_cons, spotsF_len], fun i a m u h1 h2 => ?_⟩
    cases i with
    | zero =>
      simp only [spotsF, List.getElem?_cons_zero, Option.some.injEq, Prod.mk.injEq] at h1 h2
      obtain ⟨rfl, rfl⟩ := h1
      subst h2
      refine ⟨rfl, by rw [List.length_append, el]; omega, ?_⟩
      have e2 : (pre ++ valB v) ++ (valsB vs ++ post) = (pre ++ putL v.length) ++ (v ++ (valsB vs ++ post)) := by simp [valB]
      rw [e2, List.drop_left' (by rw [List.length_append]), List.take_left' rfl]
    | succ i =>
      simp only [spotsF, List.getElem?_cons_succ] at h1 h2
      exact ih.2 i a m u h1 h2

/-! a freezer's state -/
structure FzS where
  tail : Nat
  items : List (List (Nat × Nat))
def FzS.head (s : FzS) : Nat := s.tail + s.items.length
/-- a change: kind, number, values -/
abbrev Chg := Nat × Nat × List (List UInt8)
def chgB (c : Chg) : List UInt8 := bodyL c.1 c.2.1 c.2.2
/-- may a change be done? -/
def OkC (T : Nat) (s : FzS) (c : Chg) : Prop :=
  (c.1 = 0 ∧ c.2.1 = s.head ∧ c.2.2.length = T) ∨ ((c.1 = 1 ∨ c.1 = 2) ∧ s.tail ≤ c.2.1 ∧ c.2.1 ≤ s.head ∧ c.2.2 = [])
/-- what becomes of a state whose change's body stands at a place -/
def stepC (p : Nat) (s : FzS) (c : Chg) : FzS :=
  if c.1 = 0 then { s with items := s.items ++ [spotsF (p + (putL c.1).length + (putL c.2.1).length) c.2.2] }
  else if c.1 = 1 then { s with items := s.items.take (c.2.1 - s.tail) }
  else ⟨c.2.1, s.items.drop (c.2.1 - s.tail)⟩
section
variable (crc : List UInt8 → Nat)
/-- where the body of a frame at a place stands -/
def bodyAt (z : Nat) (b : List UInt8) : Nat := z + (4 + (putL b.length).length)
def playC : Nat → FzS → List Chg → Nat × FzS
  | z, s, [] => (z, s)
  | z, s, c :: l => playC (z + (frameL crc (chgB c)).length) (stepC (bodyAt z (chgB c)) s c) l
def ValidC (T : Nat) : Nat → FzS → List Chg → Prop
  | _, _, [] => True
  | z, s, c :: l => OkC T s c ∧ (chgB c).length ≤ 1048576 ∧ ValidC T (z + (frameL crc (chgB c)).length) (stepC (bodyAt z (chgB c)) s c) l
def logB (l : List Chg) : List UInt8 := (l.map fun c => frameL crc (chgB c)).flatten
theorem playC_snoc : ∀ (l : List Chg) (z : Nat) (s : FzS) (c : Chg), playC crc z s (l ++ [c]) = ((playC crc z s l).1 + (frameL crc (chgB c)).length, stepC (bodyAt (playC crc z s l).1 (chgB c)) (playC crc z s l).2 c)
  | [], z, s, c => rfl
  | d :: l, z, s, c => by rw [List.cons_append, playC, playC_snoc l, playC]
theorem playC_size : ∀ (l : List Chg) (z : Nat) (s : FzS), (playC crc z s l).1 = z + (logB crc l).length
  | [], z, s => by simp [playC, logB]
  | c :: l, z, s => by
    rw [playC, playC_size l]
    simp only [logB, List.map_cons, List.flatten_cons, List.length_append]
    omega
theorem ValidC_snoc (T : Nat) : ∀ (l : List Chg) (z : Nat) (s : FzS) (c : Chg), ValidC crc T z s l → OkC T (playC crc z s l).2 c → (chgB c).length ≤ 1048576 → ValidC crc T z s (l ++ [c])
  | [], z, s, c, _, h, h2 => ⟨h, h2, trivial⟩
  | d :: l, z, s, c, hv, h, h2 => ⟨hv.1, hv.2.1, ValidC_snoc T l _ _ c hv.2.2 h h2⟩
theorem logB_cons (c : Chg) (l : List Chg) : logB crc (c :: l) = frameL crc (chgB c) ++ logB crc l := rfl
theorem logB_snoc (l : List Chg) (c : Chg) : logB crc (l ++ [c]) = logB crc l ++ frameL crc (chgB c) := by simp [logB]

/-- every item's spots read its values -/
def Told (b : List UInt8) (s : FzS) (items : List (List (List UInt8))) : Prop :=
  s.items.length = items.length ∧ ∀ (i : Nat) (sp : List (Nat × Nat)) (vs : List (List UInt8)), s.items[i]? = some sp → items[i]? = some vs → Reads b sp vs
theorem Told.more {b : List UInt8} {s : FzS} {items : List (List (List UInt8))} (h : Told b s items) (r : List UInt8) : Told (b ++ r) s items := ⟨h.1, fun i sp vs h1 h2 => (h.2 i sp vs h1 h2).more r⟩
theorem frame_reads (b : List UInt8) (c : Chg) : Reads (b ++ frameL crc (chgB c)) (spotsF (bodyAt b.length (chgB c) + (putL c.1).length + (putL c.2.1).length) c.2.2) c.2.2 := by
  have h := reads_new c.2.2 (b ++ (le4 (crc (chgB c)) ++ (putL (chgB c).length ++ (putL c.1 ++ putL c.2.1)))) []
  have e1 : b ++ (le4 (crc (chgB c)) ++ (putL (chgB c).length ++ (putL c.1 ++ putL c.2.1))) ++ (valsB c.2.2 ++ []) = b ++ frameL crc (chgB c) := by
    unfold frameL
    conv => rhs; rw [show chgB c = putL c.1 ++ (putL c.2.1 ++ valsB c.2.2) from rfl]
    simp only [List.append_assoc, List.append_nil]
    rfl
  have e2 : (b ++ (le4 (crc (chgB c)) ++ (putL (chgB c).length ++ (putL c.1 ++ putL c.2.1)))).length = bodyAt b.length (chgB c) + (putL c.1).length + (putL c.2.1).length := by
    unfold bodyAt
    simp only [List.length_append, le4_len]
    omega
  rw [e1, e2] at h
  exact h
/-- an item is laid behind the others -/
theorem Told.app {b : List UInt8} {s : FzS} {items : List (List (List UInt8))} (h : Told b s items) (n : Nat) (vs : List (List UInt8)) :
    Told (b ++ frameL crc (chgB (0, n, vs))) (stepC (bodyAt b.length (chgB (0, n, vs))) s (0, n, vs)) (items ++ [vs]) := by
  have hm := h.more (frameL crc (chgB (0, n, vs)))
  have hr := frame_reads crc b (0, n, vs)
  refine ⟨by simp [stepC, h.1], fun i sp us h1 h2 => ?_⟩
  rw [stepC, if_pos rfl] at h1
  simp only at h1
  by_cases hi : i < s.items.length
  · rw [List.getElem?_append_left hi] at h1
    rw [List.getElem?_append_left (by rw [← h.1]; exact hi)] at h2
    exact hm.2 i sp us h1 h2
  · rw [List.getElem?_append_right (by omega)] at h1
    rw [List.getElem?_append_right (by rw [← h.1]; omega)] at h2
    obtain ⟨k, hk⟩ : ∃ k, i = s.items.length + k := ⟨i - s.items.length, by omega⟩
    have h3 : i - s.items.length = k := by omega
    have h4 : i - items.length = k := by rw [← h.1]; omega
    rw [h3] at h1
    rw [h4] at h2
    cases k with
    | zero =>
      simp only [List.getElem?_cons_zero, Option.some.injEq] at h1 h2
      subst h1 h2
      exact hr
    | succ k => simp at h1
theorem Told.cutHead {b : List UInt8} {s : FzS} {items : List (List (List UInt8))} (h : Told b s items) (p n : Nat) :
    Told (b ++ frameL crc (chgB (1, n, []))) (stepC p s (1, n, [])) (items.take (n - s.tail)) := by
  have hm := h.more (frameL crc (chgB (1, n, [])))
  rw [stepC, if_neg (by simp), if_pos rfl]
  refine ⟨by simp [h.1], fun i sp us h1 h2 => ?_⟩
  simp only at h1
  rw [List.getElem?_take] at h1 h2
  split at h1
  · rename_i hi
    rw [if_pos hi] at h2
    exact hm.2 i sp us h1 h2
  · cases h1
theorem Told.cutTail {b : List UInt8} {s : FzS} {items : List (List (List UInt8))} (h : Told b s items) (p n : Nat) :
    Told (b ++ frameL crc (chgB (2, n, []))) (stepC p s (2, n, [])) (items.drop (n - s.tail)) := by
  have hm := h.more (frameL crc (chgB (2, n, [])))
  rw [stepC, if_neg (by simp), if_neg (by simp)]
  refine ⟨by simp [h.1], fun i sp us h1 h2 => ?_⟩
  simp only at h1
  rw [List.getElem?_drop] at h1 h2
  exact hm.2 _ sp us h1 h2
end
end Go.Proofs.YtejnfahfjmeabaaGreatDoor
namespace Go.Proofs.YtejnfahfjmeabaaGreatDoor
set_option linter.unusedSimpArgs false
set_option linter.unusedVariables false

/-- a change of a file that may be lost -/
inductive Patch
  | wr (p : Nat) (b : List UInt8)
  | cut (n : Nat)
structure FileS where
  bytes : List UInt8
  sure : List UInt8
  pend : List Patch
/-- a change of names that may be lost -/
inductive NChg
  | made (name : List UInt8) (n : Nat)
  | renamed (a b : List UInt8)
  | removed (a : List UInt8)
structure DiskS where
  cap : Nat
  names : List (List UInt8 × Nat)
  sureN : List (List UInt8 × Nat)
  pendN : List NChg
  files : List FileS
  count : Nat
  fail : Nat
  halt : Int
  down : Bool
def DiskS.new (cap : Nat) : DiskS := ⟨cap, [], [], [], [], 0, 0, -1, false⟩
/-- the number that begins answers -/
def DiskS.beginsE (D : DiskS) : Nat := if D.halt = 0 then 17 else if D.down = true then 17 else if D.fail = 1 then 16 else 0
def DiskS.begins (D : DiskS) : DiskS :=
  { D with count := D.count + 1, fail := D.fail - 1, down := D.down || decide (D.halt = 0), halt := if D.halt = 0 then 0 else if D.down = true then D.halt else max (D.halt - 1) (-1) }
/-- bytes with others laid over them -/
def laidL (b : List UInt8) (p : Nat) (by_ : List UInt8) : List UInt8 := b.take p ++ (by_ ++ b.drop (p + by_.length))
theorem laidL_end (b c : List UInt8) : laidL b b.length c = b ++ c := by
  unfold laidL
  rw [List.take_of_length_le (Nat.le_refl _), List.drop_eq_nil_of_le (by omega), List.append_nil]
def usedL (D : DiskS) : Nat := (D.names.map fun p => ((D.files[p.2]?).map fun f => f.bytes.length).getD 0).sum
def DiskS.look (D : DiskS) (name : List UInt8) : Option Nat := (D.names.find? fun p => p.1 = name).map (·.2)
def DiskS.setFile (D : DiskS) (n : Nat) (f : FileS) : DiskS := { D with files := D.files.set n f }
/-- what survives of a file, with so many bytes to spend -/
def onP (b : List UInt8) (left : Nat) : Patch → List UInt8 × Option Nat
  | .wr p c => if left < c.length then (laidL b p (c.take left), none) else (laidL b p c, some (left - c.length))
  | .cut n => if left < 1 then (b, none) else (b.take n, some (left - 1))
def surviveL : List UInt8 → Nat → List Patch → List UInt8
  | b, _, [] => b
  | b, left, p :: ps => match onP b left p with
    | (c, none) => c
    | (c, some l) => surviveL c l ps
def FileS.survives (f : FileS) (left : Nat) : FileS := ⟨surviveL f.sure left f.pend, surviveL f.sure left f.pend, []⟩
end Go.Proofs.YtejnfahfjmeabaaGreatDoor
namespace Go.Proofs.YtejnfahfjmeabaaGreatDoor
open Go.RowKit
set_option linter.unusedSimpArgs false
set_option linter.unusedVariables false

theorem or128 (k : Nat) : bits BinOp.or IntKind.u8 ((k : Int) % 256) 128 = ((k % 128 + 128 : Nat) : Int) := by
  have e : (k : Int) % 256 = ((k % 256 : Nat) : Int) := by omega
  rw [e, show (128 : Int) = ((128 : Nat) : Int) from rfl, u8_or_nat _ _ (by omega) (by omega)]
  congr 1
  have h : ∀ x : Fin 256, x.val ||| 128 = x.val % 128 + 128 := by decide +kernel
  have := h ⟨k % 256, by omega⟩
  simp only at this
  rw [this]
  omega
theorem byteOf (k : Nat) (h : k < 256) : ((UInt8.ofNat k).toNat : Int) = (k : Int) := by rw [ofNat_small k h]
/-- a new row of bytes -/
def NewB (w : World) (xs : List UInt8) (e : Ending) (w' : World) : Prop := ∃ v, e = .returned v ∧ OwnB w' w.heap.size v xs ∧ Below w.heap.size w w'
set_option maxRecDepth 100000 in
set_option maxHeartbeats 400000 in
theorem Put_calls (n : Nat) (hn : n < 18446744073709551616) (w : World) : Calls Tryz.prog 95 #[.int .u64 n] w (NewB w (putL n)) := by
  have hL := putL_len64 n hn
  go_enter Tryz.func95, Tryz.ntmps95
  go_wp2
  go_loopw [0, 3] (fun m v wr => ∃ (k : Nat) (o : List UInt8), k < 18446744073709551616 ∧ m = .int .u64 k ∧ o ++ putL k = putL n ∧ OwnB wr w.heap.size v o ∧ Below w.heap.size w wr) (fun m _ _ => (intOf m).toNat)
  case atStart => exact ⟨n, [], hn, rfl, rfl, OwnB.nil _ _, Below.refl _ _⟩
  case round =>
    obtain ⟨k, o, hk, rfl, ho, hO, hb⟩ := hrel
    have hol : o.length ≤ 10 := by have := congrArg List.length ho; rw [List.length_append] at this; omega
    have HO := Lib.hid ho
    have HOO := Lib.hid hO
    have hbs := hb.size
    clear ho hO
    obtain ⟨wo, rfl⟩ : ∃ wo : World, wo = wr := ⟨_, rfl⟩
    by_cases hlt : k < 128
    · obtain ⟨b, hb1⟩ : ∃ b : UInt8, b = UInt8.ofNat k := ⟨_, rfl⟩
      have hbn : (b.toNat : Int) = (k : Int) := by rw [hb1]; exact byteOf k (by omega)
      have HP := Lib.hid (show o ++ [b] = putL n by rw [← HO.out, putL_small k hlt, hb1])
      have hI : ¬ (128 : Int) ≤ (k : Int) := by omega
      have hw8 : (k : Int) % 256 = (k : Int) := by omega
      have HB := Lib.hid hbn
      clear hb1 hbn
      go_wp2_with (at_builtin; refine wpList_appendB _ rfl (.tmp 14) (.tmp 17) rfl w.heap.size _ o [b] rfl _ _ _ rfl (HOO.out.alloc _) (RdB.one wo 5 b _ HB.out.symm) (by omega) (by simp; omega) ?_; intro v2 w2 ho2 hg2 hb2)
      go_ret
      exact ⟨v2, rfl, by rw [← HP.out]; exact ho2, (hb.alloc hbs _).trans hb2⟩
    · obtain ⟨b, hb1⟩ : ∃ b : UInt8, b = UInt8.ofNat (k % 128 + 128) := ⟨_, rfl⟩
      have hor := or128 k
      have hbn : ((k % 128 + 128 : Nat) : Int) = (b.toNat : Int) := by rw [hb1]; exact (byteOf _ (by omega)).symm
      rw [hbn] at hor
      have HP := Lib.hid (show (o ++ [b]) ++ putL (k / 128) = putL n by rw [← HO.out, putL_more k (by omega), hb1, List.append_assoc]; rfl)
      have hI : (128 : Int) ≤ (k : Int) := by omega
      clear hb1 hbn
      go_wp2_with (at_builtin; refine wpList_appendB _ rfl (.tmp 8) (.tmp 12) rfl w.heap.size _ o [b] rfl _ _ _ rfl (HOO.out.alloc _) (RdB.one wo 5 b _ rfl) (by omega) (by simp; omega) ?_; intro v2 w2 ho2 hg2 hb2)
      go_roundw
      case rel => exact ⟨k / 128, o ++ [b], by omega, by go_num, HP.out, ho2, (hb.alloc hbs _).trans hb2⟩
      case measure => simp [intOf]; omega
/-- a number's lowest bytes -/
def leK (n : Nat) : Nat → List UInt8
  | 0 => []
  | k + 1 => leK n k ++ [UInt8.ofNat (n / 256 ^ k % 256)]
theorem leK_len (n : Nat) : ∀ k, (leK n k).length = k
  | 0 => rfl
  | k + 1 => by rw [leK, List.length_append, leK_len n k]; rfl
theorem leK4 (n : Nat) : leK n 4 = le4 n := by
  simp only [leK, le4, List.nil_append, List.cons_append]
  congr 2
  simp
theorem shr8 (n k : Nat) : (n : Int) / 2 ^ (8 * k) % 256 = ((n / 256 ^ k % 256 : Nat) : Int) := by
  have e : (2 : Int) ^ (8 * k) = ((256 ^ k : Nat) : Int) := by
    rw [show (256 : Nat) = 2 ^ 8 from rfl, ← Nat.pow_mul, Int.natCast_pow]
    rfl
  rw [e]
  rfl
set_option maxRecDepth 100000 in
set_option maxHeartbeats 400000 in
theorem fixed_calls (n s : Nat) (hn : n < 18446744073709551616) (hs : s ≤ 8) (w : World) : Calls Tryz.prog 126 #[.int .u64 n, .int .i64 s] w (NewB w (leK n s)) := by
  go_enter Tryz.func126, Tryz.ntmps126
  go_wp2
  go_loopw [5, 8] (fun v i wr => ∃ k : Nat, k ≤ s ∧ i = .int .i64 k ∧ OwnB wr w.heap.size v (leK n k) ∧ Below w.heap.size w wr) (fun _ i _ => s - (intOf i).toNat)
  case atStart => exact ⟨0, by omega, rfl, OwnB.nil _ _, Below.refl _ _⟩
  case round =>
    obtain ⟨k, hk, rfl, hO, hb⟩ := hrel
    have HOO := Lib.hid hO
    have hbs := hb.size
    clear hO
    obtain ⟨wo, rfl⟩ : ∃ wo : World, wo = wr := ⟨_, rfl⟩
    by_cases hlt : k < s
    · obtain ⟨b, hb1⟩ : ∃ b : UInt8, b = UInt8.ofNat (n / 256 ^ k % 256) := ⟨_, rfl⟩
      have hlk := leK_len n k
      have HL := Lib.hid hlk
      have HP := Lib.hid (show leK n k ++ [b] = leK n (k + 1) by rw [hb1]; rfl)
      have hkI : (0 : Int) ≤ (k : Int) ∧ (k : Int) < (s : Int) := by omega
      generalize leK n k = o at *
      clear hlk
      have hq : (n : Int) / 2 ^ (8 * k) % 256 = (b.toNat : Int) := by
        rw [hb1, byteOf _ (by omega)]
        exact shr8 n k
      clear hb1
      go_wp2_with (at_builtin; refine wpList_appendB _ rfl (.tmp 11) (.tmp 17) rfl w.heap.size _ o [b] rfl _ _ _ rfl (HOO.out.alloc _) (RdB.one wo 5 b _ rfl) (by have := HL.out; omega) (by simp; omega) ?_; intro v2 w2 ho2 hg2 hb2)
      go_roundw
      case rel => exact ⟨k + 1, by omega, by go_num, by rw [← HP.out]; exact ho2, (hb.alloc hbs _).trans hb2⟩
      case measure => simp [intOf]; omega
    · obtain rfl : k = s := by omega
      go_wp2
      go_ret
      exact ⟨_, rfl, HOO.out, hb⟩
end Go.Proofs.YtejnfahfjmeabaaGreatDoor
namespace Go.Proofs.YtejnfahfjmeabaaGreatDoor
open Go.RowKit
set_option linter.unusedSimpArgs false
set_option linter.unusedVariables false

def stepN (r : Nat) : Nat := (r / 2) ^^^ (if r % 2 = 1 then 2197175160 else 0)
def stepsN : Nat → Nat → Nat
  | 0, r => r
  | k + 1, r => stepN (stepsN k r)
def crcR (bs : List UInt8) : Nat := bs.foldl (fun r c => stepsN 8 (r ^^^ c.toNat)) 4294967295
/-- CRC-32C -/
def crcN (bs : List UInt8) : Nat := 4294967295 ^^^ crcR bs
theorem xor32 (a b : Nat) (ha : a < 4294967296) (hb : b < 4294967296) : a ^^^ b < 4294967296 := Nat.xor_lt_two_pow (n := 32) ha hb
theorem stepN_lt (r : Nat) (h : r < 4294967296) : stepN r < 4294967296 := by
  unfold stepN
  apply xor32
  · omega
  · split <;> omega
theorem stepsN_lt : ∀ (k r : Nat), r < 4294967296 → stepsN k r < 4294967296
  | 0, _, h => h
  | k + 1, r, h => stepN_lt _ (stepsN_lt k r h)
theorem crcR_snoc (bs : List UInt8) (c : UInt8) : crcR (bs ++ [c]) = stepsN 8 (crcR bs ^^^ c.toNat) := by simp [crcR]
theorem crcR_lt' : ∀ (bs : List UInt8) (r : Nat), r < 4294967296 → bs.foldl (fun r c => stepsN 8 (r ^^^ c.toNat)) r < 4294967296
  | [], r, h => h
  | c :: bs, r, h => crcR_lt' bs _ (stepsN_lt 8 _ (xor32 _ _ h (by have := c.toNat_lt; omega)))
theorem crcR_lt (bs : List UInt8) : crcR bs < 4294967296 := crcR_lt' bs _ (by omega)
theorem crcN_lt (bs : List UInt8) : crcN bs < 4294967296 := xor32 _ _ (by omega) (crcR_lt bs)

theorem stepI (z : Nat) (h : z < 4294967296) : bits BinOp.xor IntKind.u32 ((z : Int) / 2) (bits BinOp.and IntKind.u32 2197175160 (-bits BinOp.and IntKind.u32 (z : Int) 1 % 4294967296)) = (stepN z : Int) := by
  have e1 : bits BinOp.and IntKind.u32 (z : Int) 1 = ((z % 2 : Nat) : Int) := by
    have := u32_and_nat z 1 h (by omega)
    rw [Nat.and_one_is_mod] at this
    exact this
  have e2 : (z : Int) / 2 = ((z / 2 : Nat) : Int) := rfl
  rw [e1, e2]
  unfold stepN
  rcases Nat.mod_two_eq_zero_or_one z with h0 | h0
  · rw [h0, if_neg (by omega)]
    have e3 : bits BinOp.and IntKind.u32 2197175160 (-((0 : Nat) : Int) % 4294967296) = ((0 : Nat) : Int) := by
      have := u32_and_nat 2197175160 0 (by omega) (by omega)
      simpa using this
    rw [e3, u32_xor_nat _ _ (by omega) (by omega)]
  · rw [h0, if_pos rfl]
    have e3 : bits BinOp.and IntKind.u32 2197175160 (-((1 : Nat) : Int) % 4294967296) = ((2197175160 : Nat) : Int) := by
      have := u32_and_nat 2197175160 4294967295 (by omega) (by omega)
      rw [show 2197175160 &&& 4294967295 = 2197175160 by decide] at this
      exact this
    rw [e3, u32_xor_nat _ _ (by omega) (by omega)]
set_option maxRecDepth 100000 in
set_option maxHeartbeats 400000 in
theorem Sum_calls (A : Option Addr) (n c : Nat) (xs : List UInt8) (w : World) (h : RdB w A n c xs) :
    Calls Tryz.prog 90 #[.slice A n c] w fun e w' => e = .returned (.int .u32 (crcN xs : Int)) ∧ w = w' := by
  have hm : n ≤ 9223372036854775807 := by have := h.2.1; have := h.2.2.1; unfold maxLen at this; omega
  have H := Lib.hid h
  have HL := Lib.hid h.1
  clear h
  go_enter Tryz.func90, Tryz.ntmps90
  go_wp2
  go_loop [3, 8] (fun r i => ∃ k : Nat, k ≤ n ∧ i = .int .i64 k ∧ r = .int .u32 (crcR (xs.take k) : Int)) (fun _ i => n - (intOf i).toNat)
  case atStart => exact ⟨0, Nat.zero_le _, rfl, rfl⟩
  case round =>
    obtain ⟨k, hk, rfl, rfl⟩ := hrel
    by_cases hlt : k < n
    · obtain ⟨ad, rfl, hcell⟩ := H.out.at_ hlt
      have hb := (xs.getD k 0).toNat_lt
      have HS := Lib.hid (show crcR (xs.take (k + 1)) = stepsN 8 (crcR (xs.take k) ^^^ (xs.getD k 0).toNat) by
        rw [List.take_succ_eq_append_getElem (by rw [HL.out]; exact hlt), crcR_snoc, List.getD_eq_getElem?_getD, List.getElem?_eq_getElem (by rw [HL.out]; exact hlt)]; rfl)
      have hr := crcR_lt (xs.take k)
      generalize (xs.getD k 0).toNat = x at *
      generalize hu : crcR (xs.take k) = u at *
      have HU := Lib.hid hu
      clear hu
      have hx := u32_xor_nat u x (by omega) (by omega)
      have HX := Lib.hid (xor32 u x hr (by omega))
      generalize u ^^^ x = y at *
      go_wp2
      go_loop [3, 16] (fun r i => ∃ j : Nat, j ≤ 8 ∧ i = .int .i64 j ∧ r = .int .u32 (stepsN j y : Int)) (fun _ i => 8 - (intOf i).toNat)
      case atStart => exact ⟨0, Nat.zero_le _, rfl, rfl⟩
      case round =>
        obtain ⟨j, hj, rfl, rfl⟩ := hrel
        have hzl := stepsN_lt j y HX.out
        by_cases hj8 : j < 8
        · have HN := Lib.hid (show stepsN (j + 1) y = stepN (stepsN j y) from rfl)
          generalize stepsN j y = z at *
          have HZ := Lib.hid (stepI z hzl)
          go_wp2_with fail
          exact ⟨⟨j + 1, by omega, by go_num, by rw [HZ.out, HN.out]⟩, by simp [intOf]; omega⟩
        · obtain rfl : j = 8 := by omega
          go_wp2
          go_round
          case rel => exact ⟨k + 1, by omega, by go_num, by rw [HS.out]⟩
          case measure => simp [intOf]; omega
    · obtain rfl : k = n := by omega
      go_wp2
      go_ret
      have e : xs.take k = xs := List.take_of_length_le (by rw [HL.out]; exact Nat.le_refl _)
      rw [e]
      refine ⟨?_, rfl⟩
      show Ending.returned (Value.int IntKind.u32 (bits BinOp.xor IntKind.u32 ((4294967295 : Nat) : Int) (crcR xs : Int))) = _
      rw [u32_xor_nat _ _ (by omega) (crcR_lt xs)]
      rfl
/-- bytes are laid behind a row of the call's own that lie somewhere -/
theorem NewB.out {w w' : World} {xs : List UInt8} {e : Ending} (h : NewB w xs e w') : ∃ A c, e = .returned (.slice A xs.length c) ∧ OwnB w' w.heap.size (.slice A xs.length c) xs ∧ RdB w' A xs.length c xs ∧ Below w.heap.size w w' := by
  obtain ⟨v, rfl, ho, hb⟩ := h
  obtain ⟨A, c, rfl, hr⟩ := ho.reads
  exact ⟨A, c, rfl, ho, hr, hb⟩
set_option maxRecDepth 100000 in
set_option maxHeartbeats 400000 in
theorem Fixed4_calls (n : Nat) (hn : n < 4294967296) (w : World) : Calls Tryz.prog 111 #[.int .u32 n] w (NewB w (le4 n)) := by
  have hc := Lib.hid (fixed_calls n 4 (by omega) (by omega) w)
  go_enter Tryz.func111, Tryz.ntmps111
  go_wp2_with fail
  refine hc.out.mono ?_
  rintro e w1 ⟨v, rfl, ho, hb⟩
  go_wp2_with fail
  go_ret
  exact ⟨v, rfl, by rw [← leK4]; exact ho, hb⟩
/-- a frame -/
def frameN (b : List UInt8) : List UInt8 := frameL crcN b
set_option maxRecDepth 100000 in
set_option maxHeartbeats 400000 in
theorem Frame_calls (A : Option Addr) (n c : Nat) (xs : List UInt8) (w : World) (h : RdB w A n c xs) (hs : n ≤ 1048576) :
    Calls Tryz.prog 96 #[.slice A n c] w fun e w' => ∃ v, e = .returned (.tuple #[v, .int .i64 0]) ∧ OwnB w' w.heap.size v (frameN xs) ∧ Below w.heap.size w w' := by
  have hl := h.1
  have H := Lib.hid h
  have HL := Lib.hid hl
  have hI : ¬ (1048576 : Int) < (n : Int) := by omega
  have hS := Lib.hid (Sum_calls A n c xs w h)
  have hF := Lib.hid (Fixed4_calls (crcN xs) (crcN_lt xs) w)
  have hlen := frameL_len crcN xs
  have hpl := putL_len64 n (by omega)
  have HN := Lib.hid hlen
  have HPL := Lib.hid hpl
  have hcv : IntKind.u64.wrap (n : Int) = (n : Int) := by simp [IntKind.wrap, IntKind.bits, IntKind.signed]; omega
  clear h hl hlen hpl
  go_enter Tryz.func96, Tryz.ntmps96
  go_wp2_with fail
  refine hS.out.mono ?_
  rintro e w1 ⟨rfl, rfl⟩
  go_wp2_with fail
  refine hF.out.mono ?_
  intro e w2 hnb
  obtain ⟨A1, c1, rfl, ho1, hr1, hb1⟩ := hnb.out
  clear hnb
  go_wp2_with fail
  refine (Put_calls n (by omega) w2).mono ?_
  intro e w3 hnb
  obtain ⟨A2, c2, rfl, ho2, hr2, hb2⟩ := hnb.out
  clear hnb
  have ho1' := ho1.below hb2
  have hb12 := thn hb1 hb2
  have HX : Hid (∀ W, Below w.heap.size w W → RdB W A n c xs) := fun W hW => H.out.below hW
  have h4l := le4_len (crcN xs)
  have H4 := Lib.hid h4l
  clear ho1 hr1 h4l
  generalize hle : le4 (crcN xs) = l4 at *
  have HLE := Lib.hid hle
  clear hle
  go_wp2_with (first | (at_builtin; refine wpList_appendB _ rfl (.tmp 10) (.tmp 14) rfl w.heap.size _ l4 (putL n) rfl _ _ _ rfl ho1' hr2 (by have := H4.out; have := HPL.out; have := HL.out; omega) (by have := hb12.size; omega) ?_; intro v4 w4 ho4 hg4 hb4) | (at_builtin; refine wpList_appendB _ rfl (.tmp 16) (.tmp 17) rfl w.heap.size _ (l4 ++ putL n) xs rfl _ _ _ rfl ho4 (HX.out w4 (hb12.trans hb4)) (by have := H4.out; have := HPL.out; have := HL.out; rw [List.length_append]; omega) (by have := (hb12.trans hb4).size; omega) ?_; intro v5 w5 ho5 hg5 hb5))
  go_ret2
  refine ⟨v5, rfl, ?_, (hb12.trans hb4).trans hb5⟩
  have e : frameN xs = l4 ++ putL n ++ xs := by
    unfold frameN frameL
    rw [HLE.out, HL.out, List.append_assoc]
  rw [e]
  exact ho5
end Go.Proofs.YtejnfahfjmeabaaGreatDoor
namespace Go.Proofs.YtejnfahfjmeabaaGreatDoor
open Go.RowKit
set_option linter.unusedSimpArgs false
set_option linter.unusedVariables false

theorem accI (a x k : Nat) (ha : a < 128 ^ k) (hx : x < 256) (hf : x % 128 * 128 ^ k < 18446744073709551616) (hk : k ≤ 9) :
    bits BinOp.or IntKind.u64 (a : Int) (IntKind.u64.wrap (IntKind.u64.wrap (bits BinOp.andNot IntKind.u8 (x : Int) 128) * 2 ^ (7 * k))) = ((a + x % 128 * 128 ^ k : Nat) : Int) := by
  have e1 : bits BinOp.andNot IntKind.u8 (x : Int) 128 = ((x % 128 : Nat) : Int) := by
    have := u8_andNot_nat x 128 hx (by omega)
    rw [show 255 - 128 = 2 ^ 7 - 1 from rfl, Nat.and_two_pow_sub_one_eq_mod] at this
    exact this
  have e2 : IntKind.u64.wrap ((x % 128 : Nat) : Int) = ((x % 128 : Nat) : Int) := by simp [IntKind.wrap, IntKind.bits, IntKind.signed]; omega
  have e3 : (2 : Int) ^ (7 * k) = ((128 ^ k : Nat) : Int) := by
    rw [show (128 : Nat) = 2 ^ 7 from rfl, ← Nat.pow_mul, Int.natCast_pow]
    rfl
  have e4 : IntKind.u64.wrap (((x % 128 : Nat) : Int) * ((128 ^ k : Nat) : Int)) = ((x % 128 * 128 ^ k : Nat) : Int) := by
    rw [← Int.natCast_mul]
    generalize x % 128 * 128 ^ k = y at *
    simp [IntKind.wrap, IntKind.bits, IntKind.signed]
    omega
  have hp : 128 ^ k ≤ 128 ^ 9 := Nat.pow_le_pow_right (by decide) hk
  have h9 : (128 : Nat) ^ 9 = 9223372036854775808 := by decide
  rw [e1, e2, e3, e4, u64_or_nat _ _ (by omega) hf]
  congr 1
  have h7 : (128 : Nat) ^ k = 2 ^ (7 * k) := by rw [Nat.pow_mul]
  rw [h7] at ha ⊢
  rw [Nat.or_comm, Nat.mul_comm, ← Nat.two_pow_add_eq_or_of_lt ha, Nat.add_comm]
theorem fits9 (x k : Nat) (hk : k < 9) : x % 128 * 128 ^ k < 18446744073709551616 := by
  have h1 : x % 128 * 128 ^ k < 128 * 128 ^ k := Nat.mul_lt_mul_of_pos_right (by omega) (Nat.pow_pos (by decide))
  have h2 : 128 * 128 ^ k ≤ 128 * 128 ^ 8 := Nat.mul_le_mul_left _ (Nat.pow_le_pow_right (by decide) (by omega))
  have h3 : (128 : Nat) * 128 ^ 8 = 9223372036854775808 := by decide
  omega
def TakeR (t : Nat × Nat × Nat) (e : Ending) : Prop := e = .returned (.tuple #[.int .u64 (t.1 : Int), .int .i64 (t.2.1 : Int), .int .i64 (t.2.2 : Int)])
theorem drop_at (xs : List UInt8) (k : Nat) (h : k < xs.length) : xs.drop k = xs.getD k 0 :: xs.drop (k + 1) := by
  rw [List.drop_eq_getElem_cons h, List.getD_eq_getElem?_getD, List.getElem?_eq_getElem h]; rfl
set_option maxRecDepth 100000 in
set_option maxHeartbeats 1000000 in
theorem Take_calls (A : Option Addr) (n c : Nat) (xs : List UInt8) (w : World) (h : RdB w A n c xs) :
    Calls Tryz.prog 89 #[.slice A n c] w fun e w' => TakeR (takeL xs) e ∧ w = w' := by
  have hm : n ≤ 9223372036854775807 := by have := h.2.1; have := h.2.2.1; unfold maxLen at this; omega
  have H := Lib.hid h
  have HL := Lib.hid h.1
  clear h
  go_enter Tryz.func89, Tryz.ntmps89
  go_wp2
  go_loop [5, 10] (fun v i => ∃ k a : Nat, k ≤ n ∧ k ≤ 9 ∧ i = .int .i64 k ∧ v = .int .u64 a ∧ a < 128 ^ k ∧ takeG k a (xs.drop k) = takeL xs) (fun _ i => n - (intOf i).toNat)
  case atStart => exact ⟨0, 0, Nat.zero_le _, by omega, rfl, rfl, by decide, rfl⟩
  case round =>
    obtain ⟨k, a, hk, hk9, rfl, rfl, ha, ht⟩ := hrel
    have HT := Lib.hid ht
    have HA := Lib.hid ha
    clear ht ha
    by_cases hlt : k < n
    · obtain ⟨ad, rfl, hcell⟩ := H.out.at_ hlt
      have hb := (xs.getD k 0).toNat_lt
      have HD := Lib.hid (show takeL xs = if (k = 9 ∧ 1 < (xs.getD k 0).toNat) ∨ (0 < k ∧ (xs.getD k 0).toNat = 0) then (0, 0, 21) else if (xs.getD k 0).toNat < 128 then (a + (xs.getD k 0).toNat * 128 ^ k, k + 1, 0) else takeG (k + 1) (a + ((xs.getD k 0).toNat - 128) * 128 ^ k) (xs.drop (k + 1)) by
        rw [← HT.out, drop_at xs k (by rw [HL.out]; exact hlt), takeG])
      generalize (xs.getD k 0).toNat = x at *
      have HE : Hid (∀ r : Nat × Nat × Nat, takeL xs = r → TakeR (takeL xs) (.returned (.tuple #[.int .u64 (r.1 : Int), .int .i64 (r.2.1 : Int), .int .i64 (r.2.2 : Int)]))) := fun r hr => by rw [hr]; rfl
      have hkI : (0 : Int) ≤ (k : Int) ∧ (k : Int) ≤ 9 := by omega
      by_cases h9 : k = 9
      · have hB9 : ((k : Int) == 9) = true := by rw [beq_iff_eq]; omega
        have hk0 : (0 : Int) < (k : Int) := by omega
        by_cases h1 : 1 < x
        · have HR := Lib.hid (show takeL xs = (0, 0, 21) by rw [HD.out, if_pos (.inl ⟨h9, h1⟩)])
          have hI : (1 : Int) < (x : Int) := by omega
          clear HD h9 h1
          go_wp2
          go_ret3
          exact ⟨HE.out _ HR.out, rfl⟩
        · by_cases h0 : x = 0
          · subst h0
            have HR := Lib.hid (show takeL xs = (0, 0, 21) by rw [HD.out, if_pos (.inr ⟨by omega, rfl⟩)])
            clear HD h9 h1
            go_wp2
            go_ret3
            exact ⟨HE.out _ HR.out, rfl⟩
          · obtain rfl : x = 1 := by omega
            have HR := Lib.hid (show takeL xs = (a + 128 ^ k, k + 1, 0) by rw [HD.out, if_neg (by omega), if_pos (by omega), Nat.one_mul])
            have hacc : bits BinOp.or IntKind.u64 (a : Int) (IntKind.u64.wrap (IntKind.u64.wrap (bits BinOp.andNot IntKind.u8 1 128) * 2 ^ (7 * k))) = ((a + 128 ^ k : Nat) : Int) := by
              have h := accI a 1 k HA.out (by omega) (by rw [h9]; decide) hk9
              rw [show 1 % 128 = 1 from rfl, Nat.one_mul] at h
              exact h
            clear HD h1 h0 h9
            go_wp2
            go_ret3
            exact ⟨HE.out _ HR.out, rfl⟩
      · have hB9 : ((k : Int) == 9) = false := by rw [beq_eq_false_iff_ne]; omega
        by_cases h0 : 0 < k ∧ x = 0
        · have HR := Lib.hid (show takeL xs = (0, 0, 21) by rw [HD.out, if_pos (.inr h0)])
          have hI : (0 : Int) < (k : Int) := by omega
          obtain ⟨h01, rfl⟩ := h0
          clear h9 HD
          go_wp2
          go_ret3
          exact ⟨HE.out _ HR.out, rfl⟩
        · have hx0 : ¬ (0 < k ∧ x = 0) := h0
          have hacc := accI a x k HA.out hb (fits9 x k (by omega)) hk9
          by_cases h8 : x < 128
          · have HR := Lib.hid (show takeL xs = (a + x % 128 * 128 ^ k, k + 1, 0) by rw [HD.out, if_neg (by omega), if_pos h8, Nat.mod_eq_of_lt h8])
            have hI : (x : Int) < 128 := by omega
            by_cases hk0 : k = 0
            · have hk1 : ¬ (0 : Int) < (k : Int) := by omega
              clear HD h0 h9 hx0 hk0
              go_wp2
              go_ret3
              exact ⟨HE.out _ HR.out, rfl⟩
            · have hk1 : (0 : Int) < (k : Int) := by omega
              have hx1 : ((x : Int) == 0) = false := by rw [beq_eq_false_iff_ne]; omega
              clear HD h0 h9 hx0 hk0
              go_wp2
              go_ret3
              exact ⟨HE.out _ HR.out, rfl⟩
          · have HR := Lib.hid (show takeG (k + 1) (a + x % 128 * 128 ^ k) (xs.drop (k + 1)) = takeL xs by rw [HD.out, if_neg (by omega), if_neg h8, show x - 128 = x % 128 by omega])
            have HLT := Lib.hid (show a + x % 128 * 128 ^ k < 128 ^ (k + 1) by
              have h1 := HA.out
              have h2 : x % 128 * 128 ^ k ≤ 127 * 128 ^ k := Nat.mul_le_mul_right _ (by omega)
              rw [Nat.pow_succ]
              omega)
            have hI : ¬ (x : Int) < 128 := by omega
            have hx1 : ((x : Int) == 0) = false := by rw [beq_eq_false_iff_ne]; omega
            have hk8 : k < 9 := by omega
            clear HD h0 h9 hx0
            by_cases hk0 : k = 0
            · have hk1 : ¬ (0 : Int) < (k : Int) := by omega
              clear hk0
              go_wp2
              go_round
              case rel => exact ⟨k + 1, _, by omega, by omega, by go_num, rfl, HLT.out, HR.out⟩
              case measure => simp [intOf]; omega
            · have hk1 : (0 : Int) < (k : Int) := by omega
              clear hk0
              go_wp2
              go_round
              case rel => exact ⟨k + 1, _, by omega, by omega, by go_num, rfl, HLT.out, HR.out⟩
              case measure => simp [intOf]; omega
    · obtain rfl : k = n := by omega
      have HR := Lib.hid (show takeL xs = (0, 0, 20) by rw [← HT.out, List.drop_eq_nil_of_le (by rw [HL.out]; exact Nat.le_refl _)]; rfl)
      go_wp2
      go_ret3
      exact ⟨by rw [HR.out]; rfl, rfl⟩
end Go.Proofs.YtejnfahfjmeabaaGreatDoor
namespace Go.Proofs.YtejnfahfjmeabaaGreatDoor
open Go.RowKit
set_option linter.unusedSimpArgs false
set_option linter.unusedVariables false

theorem unle_snoc : ∀ (l : List UInt8) (b : UInt8), unle (l ++ [b]) = unle l + b.toNat * 256 ^ l.length
  | [], b => by simp [unle]
  | c :: l, b => by
    rw [List.cons_append, unle, unle_snoc l b, unle, List.length_cons, Nat.pow_succ, Nat.mul_add, ← Nat.add_assoc]
    congr 1
    rw [Nat.mul_comm (256 ^ l.length) 256, ← Nat.mul_assoc, ← Nat.mul_assoc, Nat.mul_comm 256 b.toNat]
theorem unle_lt : ∀ l : List UInt8, unle l < 256 ^ l.length
  | [] => by simp [unle]
  | b :: l => by
    have := unle_lt l
    have := b.toNat_lt
    rw [unle, List.length_cons, Nat.pow_succ]
    omega
theorem accU (a x k : Nat) (ha : a < 256 ^ k) (hx : x < 256) (hk : k < 4) : bits BinOp.or IntKind.u64 (a : Int) (IntKind.u64.wrap ((x : Int) * 2 ^ (8 * k))) = ((a + x * 256 ^ k : Nat) : Int) := by
  have e3 : (2 : Int) ^ (8 * k) = ((256 ^ k : Nat) : Int) := by
    rw [show (256 : Nat) = 2 ^ 8 from rfl, ← Nat.pow_mul, Int.natCast_pow]
    rfl
  have hp : 256 ^ k ≤ 256 ^ 3 := Nat.pow_le_pow_right (by decide) (by omega)
  have h1 : x * 256 ^ k ≤ 255 * 256 ^ 3 := Nat.mul_le_mul (by omega) hp
  have h2 : 255 * 256 ^ 3 = 4278190080 := by decide
  have h3 : (256 : Nat) ^ 3 = 16777216 := by decide
  have e4 : IntKind.u64.wrap ((x : Int) * ((256 ^ k : Nat) : Int)) = ((x * 256 ^ k : Nat) : Int) := by
    rw [← Int.natCast_mul]
    generalize x * 256 ^ k = y at *
    simp [IntKind.wrap, IntKind.bits, IntKind.signed]
    omega
  rw [e3, e4, u64_or_nat _ _ (by omega) (by omega)]
  congr 1
  have h7 : (256 : Nat) ^ k = 2 ^ (8 * k) := by rw [Nat.pow_mul]
  rw [h7] at ha ⊢
  rw [Nat.or_comm, Nat.mul_comm, ← Nat.two_pow_add_eq_or_of_lt ha, Nat.add_comm]
def Unf4 (xs : List UInt8) : Nat × Nat := if xs.length < 4 then (0, 20) else (unle (xs.take 4), 0)
set_option maxRecDepth 100000 in
set_option maxHeartbeats 1000000 in
theorem unfixed_calls (A : Option Addr) (n c : Nat) (xs : List UInt8) (w : World) (h : RdB w A n c xs) :
    Calls Tryz.prog 107 #[.slice A n c, .int .i64 4] w fun e w' => e = .returned (.tuple #[.int .u64 ((Unf4 xs).1 : Int), .int .i64 ((Unf4 xs).2 : Int)]) ∧ w = w' := by
  have hm : n ≤ 9223372036854775807 := by have := h.2.1; have := h.2.2.1; unfold maxLen at this; omega
  have H := Lib.hid h
  have HL := Lib.hid h.1
  clear h
  by_cases h4 : n < 4
  · have HU := Lib.hid (show Unf4 xs = (0, 20) by unfold Unf4; rw [if_pos (by rw [HL.out]; exact h4)])
    have hI : (n : Int) < 4 := by omega
    go_enter Tryz.func107, Tryz.ntmps107
    go_wp2
    go_ret2
    exact ⟨by rw [HU.out]; rfl, rfl⟩
  · have HU := Lib.hid (show Unf4 xs = (unle (xs.take 4), 0) by unfold Unf4; rw [if_neg (by rw [HL.out]; exact h4)])
    have hI : ¬ (n : Int) < 4 := by omega
    have hn4 : 4 ≤ n := by omega
    go_enter Tryz.func107, Tryz.ntmps107
    go_wp2
    go_loop [6, 13] (fun v i => ∃ k : Nat, k ≤ 4 ∧ i = .int .i64 k ∧ v = .int .u64 (unle (xs.take k))) (fun _ i => 4 - (intOf i).toNat)
    case atStart => exact ⟨0, by omega, rfl, rfl⟩
    case round =>
      obtain ⟨k, hk, rfl, rfl⟩ := hrel
      by_cases hlt : k < 4
      · obtain ⟨ad, rfl, hcell⟩ := H.out.at_ (k := k) (by omega)
        have hb := (xs.getD k 0).toNat_lt
        have hlk : (xs.take k).length = k := by rw [List.length_take, HL.out]; omega
        have ha := unle_lt (xs.take k)
        rw [hlk] at ha
        have HS := Lib.hid (show unle (xs.take (k + 1)) = unle (xs.take k) + (xs.getD k 0).toNat * 256 ^ k by
          rw [List.take_succ_eq_append_getElem (by rw [HL.out]; omega), unle_snoc, hlk, List.getD_eq_getElem?_getD, List.getElem?_eq_getElem (by rw [HL.out]; omega)]; rfl)
        have hacc := accU _ _ k ha hb hlt
        have hkn : (0 : Int) ≤ (k : Int) ∧ (k : Int) < (n : Int) := by omega
        clear ha hlk
        generalize unle (xs.take k) = a at *
        generalize (xs.getD k 0).toNat = x at *
        go_wp2
        go_round
        case rel => exact ⟨k + 1, by omega, by go_num, by rw [HS.out]; simp⟩
        case measure => simp [intOf]; omega
      · obtain rfl : k = 4 := by omega
        go_wp2
        go_ret2
        exact ⟨by rw [HU.out]; rfl, rfl⟩
set_option maxRecDepth 100000 in
set_option maxHeartbeats 1000000 in
theorem Unfixed4_calls (A : Option Addr) (n c : Nat) (xs : List UInt8) (w : World) (h : RdB w A n c xs) :
    Calls Tryz.prog 88 #[.slice A n c] w fun e w' => e = .returned (.tuple #[.int .u32 ((Unf4 xs).1 : Int), .int .i64 ((Unf4 xs).2 : Int)]) ∧ w = w' := by
  have hc := Lib.hid (unfixed_calls A n c xs w h)
  have hw : IntKind.u32.wrap ((Unf4 xs).1 : Int) = ((Unf4 xs).1 : Int) := by
    have h1 : (Unf4 xs).1 < 4294967296 := by
      unfold Unf4
      split
      · simp
      · rename_i h4
        have h2 := unle_lt (xs.take 4)
        rw [List.length_take, Nat.min_eq_left (by omega)] at h2
        have h3 : (256 : Nat) ^ 4 = 4294967296 := by decide
        simp only
        omega
    simp [IntKind.wrap, IntKind.bits, IntKind.signed]; omega
  clear h
  generalize Unf4 xs = t at *
  obtain ⟨a, b⟩ := t
  simp only at hc hw ⊢
  go_enter Tryz.func88, Tryz.ntmps88
  go_wp2_with fail
  refine hc.out.mono ?_
  rintro e w1 ⟨rfl, rfl⟩
  go_wp2_with fail
  go_ret2
  exact ⟨rfl, rfl⟩
end Go.Proofs.YtejnfahfjmeabaaGreatDoor
