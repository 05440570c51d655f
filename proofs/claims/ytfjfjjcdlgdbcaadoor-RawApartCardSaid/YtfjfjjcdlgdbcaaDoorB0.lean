/- RawApart's plain law: unlike parts have unlike keys; the keys of numbers are in the numbers' order. -/
import Derived.Test.YtfjfjjcdlgdbcaaDoorK0
namespace Go.Proofs.YtfjfjjcdlgdbcaaDoor
open Go.RowKit

theorem ofNat_mod (x y : Nat) (h : x % 256 = y % 256) : UInt8.ofNat x = UInt8.ofNat y := by
  apply UInt8.toNat_inj.1
  simp only [UInt8.toNat_ofNat']
  exact h
theorem bigB_cons (m k : Nat) : bigB m (k + 1) = UInt8.ofNat (m / 2 ^ (8 * k)) :: bigB (m % 2 ^ (8 * k)) k := by
  unfold bigB bigT
  rw [List.range_succ_eq_map, List.map_cons, List.map_map]
  congr 1
  refine List.map_congr_left (fun i hi => ?_)
  have hi : i < k := List.mem_range.1 hi
  simp only [Function.comp]
  apply ofNat_mod
  have e1 : k + 1 - 1 - (i + 1) = k - 1 - i := by omega
  have e2 : 2 ^ (8 * k) = 2 ^ (8 * (k - 1 - i)) * 2 ^ (8 * (i + 1)) := by
    rw [← Nat.pow_add]; congr 1; omega
  have e3 : 2 ^ (8 * (i + 1)) = 256 * 2 ^ (8 * i) := by
    rw [show 8 * (i + 1) = 8 + 8 * i by omega, Nat.pow_add]
  rw [show Nat.succ i = i + 1 from rfl, e1, e2, Nat.mod_mul_right_div_self, e3, Nat.mod_mul_right_mod]
theorem ofNat_lt (x y : Nat) (hx : x < 256) (hy : y < 256) : (UInt8.ofNat x < UInt8.ofNat y) ↔ x < y := by
  rw [UInt8.lt_iff_toNat_lt]
  simp only [UInt8.toNat_ofNat']
  rw [Nat.mod_eq_of_lt hx, Nat.mod_eq_of_lt hy]
theorem ofNat_eq (x y : Nat) (hx : x < 256) (hy : y < 256) : (UInt8.ofNat x = UInt8.ofNat y) ↔ x = y := by
  rw [← UInt8.toNat_inj]
  simp only [UInt8.toNat_ofNat']
  rw [Nat.mod_eq_of_lt hx, Nat.mod_eq_of_lt hy]
theorem bigB_both (k : Nat) : ∀ n m : Nat, n < 2 ^ (8 * k) → m < 2 ^ (8 * k) → (bigB n k = bigB m k ↔ n = m) ∧ (Op.bytesLess (bigB n k) (bigB m k) = true ↔ n < m) := by
  induction k with
  | zero =>
    intro n m hn hm
    simp at hn hm
    subst hn hm
    simp [bigB, bigT, Op.bytesLess]
  | succ k ih =>
    intro n m hn hm
    have e : 2 ^ (8 * (k + 1)) = 2 ^ (8 * k) * 256 := by rw [show 8 * (k + 1) = 8 * k + 8 by omega, Nat.pow_add]
    have hp : 0 < 2 ^ (8 * k) := Nat.pow_pos (by omega)
    rw [e] at hn hm
    have hnd : n / 2 ^ (8 * k) < 256 := Nat.div_lt_of_lt_mul hn
    have hmd : m / 2 ^ (8 * k) < 256 := Nat.div_lt_of_lt_mul hm
    obtain ⟨h1, h2⟩ := ih (n % 2 ^ (8 * k)) (m % 2 ^ (8 * k)) (Nat.mod_lt _ hp) (Nat.mod_lt _ hp)
    have dn := Nat.div_add_mod n (2 ^ (8 * k))
    have dm := Nat.div_add_mod m (2 ^ (8 * k))
    have ln := Nat.mod_lt n hp
    have lm := Nat.mod_lt m hp
    have h3 := ofNat_eq _ _ hnd hmd
    have h4 := ofNat_lt _ _ hnd hmd
    rw [bigB_cons, bigB_cons]
    generalize 2 ^ (8 * k) = p at *
    generalize n / p = x at *
    generalize m / p = y at *
    generalize n % p = u at *
    generalize m % p = v at *
    subst dn dm
    constructor
    · rw [List.cons.injEq, h1, h3]
      constructor
      · rintro ⟨rfl, rfl⟩; rfl
      · intro h
        have hxy : x = y := by
          rcases Nat.lt_trichotomy x y with hlt | heq | hgt
          · have := Nat.mul_le_mul_left p (show x + 1 ≤ y from hlt)
            rw [Nat.mul_add] at this; omega
          · exact heq
          · have := Nat.mul_le_mul_left p (show y + 1 ≤ x from hgt)
            rw [Nat.mul_add] at this; omega
        subst hxy
        exact ⟨rfl, by omega⟩
    · simp only [Op.bytesLess, Bool.or_eq_true, Bool.and_eq_true, decide_eq_true_eq, beq_iff_eq, h2, h3, h4]
      constructor
      · rintro (h | ⟨rfl, h⟩)
        · have := Nat.mul_le_mul_left p (show x + 1 ≤ y from h)
          rw [Nat.mul_add] at this; omega
        · omega
      · intro h
        rcases Nat.lt_trichotomy x y with hlt | heq | hgt
        · exact .inl hlt
        · subst heq; exact .inr ⟨rfl, by omega⟩
        · have := Nat.mul_le_mul_left p (show y + 1 ≤ x from hgt)
          rw [Nat.mul_add] at this; omega

/-- which keys are the same -/
def sames (a b c d : List UInt8) (n m : Nat) : List Bool := [decide (a = c), decide (a = c), decide (a = c), decide (a = c ∧ b = d), decide (n = m), decide (n = m)]
theorem keys_apart (a b c d : List UInt8) (n m : Nat) (ha : a.length = 32) (hc : c.length = 32) (hn : n < 18446744073709551616) (hm : m < 18446744073709551616) :
    ∀ i j, i < 6 → j < 6 → ((keysOf a b n).getD i [] = (keysOf c d m).getD j [] ↔ i = j ∧ (sames a b c d n m).getD i false = true) := by
  have hb : bigB n 8 = bigB m 8 ↔ n = m := (bigB_both 8 n m hn hm).1
  have hab : a ++ b = c ++ d ↔ a = c ∧ b = d := ⟨fun h => List.append_inj h (by rw [ha, hc]), fun h => by rw [h.1, h.2]⟩
  intro i j hi hj
  match i, hi, j, hj with
  | 0, _, 0, _ => simp [keysOf, sames, hb, hab]
  | 0, _, 1, _ => simp [keysOf, sames, hb, hab]
  | 0, _, 2, _ => simp [keysOf, sames, hb, hab]
  | 0, _, 3, _ => simp [keysOf, sames, hb, hab]
  | 0, _, 4, _ => simp [keysOf, sames, hb, hab]
  | 0, _, 5, _ => simp [keysOf, sames, hb, hab]
  | 1, _, 0, _ => simp [keysOf, sames, hb, hab]
  | 1, _, 1, _ => simp [keysOf, sames, hb, hab]
  | 1, _, 2, _ => simp [keysOf, sames, hb, hab]
  | 1, _, 3, _ => simp [keysOf, sames, hb, hab]
  | 1, _, 4, _ => simp [keysOf, sames, hb, hab]
  | 1, _, 5, _ => simp [keysOf, sames, hb, hab]
  | 2, _, 0, _ => simp [keysOf, sames, hb, hab]
  | 2, _, 1, _ => simp [keysOf, sames, hb, hab]
  | 2, _, 2, _ => simp [keysOf, sames, hb, hab]
  | 2, _, 3, _ => simp [keysOf, sames, hb, hab]
  | 2, _, 4, _ => simp [keysOf, sames, hb, hab]
  | 2, _, 5, _ => simp [keysOf, sames, hb, hab]
  | 3, _, 0, _ => simp [keysOf, sames, hb, hab]
  | 3, _, 1, _ => simp [keysOf, sames, hb, hab]
  | 3, _, 2, _ => simp [keysOf, sames, hb, hab]
  | 3, _, 3, _ => simp [keysOf, sames, hb, hab]
  | 3, _, 4, _ => simp [keysOf, sames, hb, hab]
  | 3, _, 5, _ => simp [keysOf, sames, hb, hab]
  | 4, _, 0, _ => simp [keysOf, sames, hb, hab]
  | 4, _, 1, _ => simp [keysOf, sames, hb, hab]
  | 4, _, 2, _ => simp [keysOf, sames, hb, hab]
  | 4, _, 3, _ => simp [keysOf, sames, hb, hab]
  | 4, _, 4, _ => simp [keysOf, sames, hb, hab]
  | 4, _, 5, _ => simp [keysOf, sames, hb, hab]
  | 5, _, 0, _ => simp [keysOf, sames, hb, hab]
  | 5, _, 1, _ => simp [keysOf, sames, hb, hab]
  | 5, _, 2, _ => simp [keysOf, sames, hb, hab]
  | 5, _, 3, _ => simp [keysOf, sames, hb, hab]
  | 5, _, 4, _ => simp [keysOf, sames, hb, hab]
  | 5, _, 5, _ => simp [keysOf, sames, hb, hab]
theorem root_less (n m : Nat) (hn : n < 18446744073709551616) (hm : m < 18446744073709551616) : Op.bytesLess (114 :: bigB n 8) (114 :: bigB m 8) = decide (n < m) := by
  have h := (bigB_both 8 n m hn hm).2
  rw [Bool.eq_iff_iff, decide_eq_true_iff, ← h]
  simp [Op.bytesLess]
end Go.Proofs.YtfjfjjcdlgdbcaaDoor
