/- Words of this proof: byte lists in memory. -/
import Derived.Test.YtfjfjjcdlgdbcaaDoorProg
import Derived.WalkKit
import Derived.WalkLawsBesides
import Derived.WalkSpells
import Derived.Deep.Draws
import Derived.Deep.AppendLies
import Derived.Maps.AppendAt
import Derived.Lib.Hide
import Derived.IntWalk
import Derived.Lib.ConvBytes
namespace Go.Proofs.YtfjfjjcdlgdbcaaDoor
open Go.RowKit

/-- a byte as a value -/
def bv (b : UInt8) : Value := .int .u8 (b.toNat : Int)
def bvs (xs : List UInt8) : List Value := xs.map bv

/-- the slice value (A, n, c) reads as the bytes xs -/
def RdB (w : World) (A : Option Addr) (n c : Nat) (xs : List UInt8) : Prop :=
  xs.length = n ∧ n ≤ c ∧ c ≤ maxLen ∧ (0 < n → ∃ ad, A = some ad ∧ ∀ j u, xs[j]? = some u → w.cell? (ad.add j) = some (bv u))

theorem RdB.below {w w1 : World} {A : Option Addr} {n c : Nat} {xs : List UInt8} (h : RdB w A n c xs) (hb : Below w.heap.size w w1) : RdB w1 A n c xs :=
  ⟨h.1, h.2.1, h.2.2.1, fun hn => by
    obtain ⟨ad, e, hc⟩ := h.2.2.2 hn
    refine ⟨ad, e, fun j u hu => ?_⟩
    have h1 := hc j u hu
    rw [hb.cell (World.block_lt_of_cell? w _ h1)]
    exact h1⟩
theorem RdB.drewN {w : World} {A : Option Addr} {n c : Nat} {xs : List UInt8} (h : RdB w A n c xs) (k : Nat) : RdB (w.drewN k) A n c xs := h
theorem RdB.drew {w : World} {A : Option Addr} {n c : Nat} {xs : List UInt8} (h : RdB w A n c xs) : RdB w.drew A n c xs := h
theorem RdB.at_ {w : World} {A : Option Addr} {n c : Nat} {xs : List UInt8} (h : RdB w A n c xs) {k : Nat} (hk : k < n) :
    ∃ ad, A = some ad ∧ w.cell? (ad.add k) = some (.int .u8 ((xs.getD k 0).toNat : Int)) := by
  obtain ⟨ad, e, hc⟩ := h.2.2.2 (by omega)
  refine ⟨ad, e, ?_⟩
  have hl : k < xs.length := by have := h.1; omega
  rw [hc k _ (List.getElem?_eq_getElem hl)]
  simp [bv, List.getD_eq_getElem?_getD, List.getElem?_eq_getElem hl]

/-- the number of bytes, the highest first -/
def unbig (xs : List UInt8) : Nat := xs.foldl (fun n b => (n * 256 + b.toNat) % 18446744073709551616) 0

theorem unbig_lt (xs : List UInt8) : unbig xs < 18446744073709551616 := by
  unfold unbig
  rcases List.eq_nil_or_concat xs with h | ⟨l, b, h⟩ <;> subst h <;> simp [Nat.mod_lt]
theorem unbig_snoc (xs : List UInt8) (k : Nat) (h : k < xs.length) : unbig (xs.take (k + 1)) = (unbig (xs.take k) * 256 + (xs.getD k 0).toNat) % 18446744073709551616 := by
  have e : xs.take (k + 1) = xs.take k ++ [xs[k]] := List.take_succ_eq_append_getElem h
  rw [e]
  simp only [unbig, List.foldl_append, List.foldl_cons, List.foldl_nil]
  simp [List.getD_eq_getElem?_getD, List.getElem?_eq_getElem h]

theorem or_big (u x : Nat) (hu : u < 18446744073709551616) (hx : x < 256) :
    bits BinOp.or IntKind.u64 (IntKind.u64.wrap ((u : Int) * 256)) (x : Int) = (((u * 256 + x) % 18446744073709551616 : Nat) : Int) := by
  have e : IntKind.u64.wrap ((u : Int) * 256) = ((u * 256 % 18446744073709551616 : Nat) : Int) := by
    simp [IntKind.wrap, IntKind.bits, IntKind.signed]
  rw [e, u64_or_nat _ _ (Nat.mod_lt _ (by omega)) (by omega), nat_join 8 _ _ (by omega) (by omega)]
  congr 1
  omega

end Go.Proofs.YtfjfjjcdlgdbcaaDoor
