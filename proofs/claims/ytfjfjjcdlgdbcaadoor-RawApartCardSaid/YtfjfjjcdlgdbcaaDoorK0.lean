/- Readings that the laws on keys want. -/
import Derived.Test.YtfjfjjcdlgdbcaaDoorR16
import Derived.Test.YtfjfjjcdlgdbcaaDoorL1
import Derived.Deep.RegionHeld3
namespace Go.Proofs.YtfjfjjcdlgdbcaaDoor
open Go.RowKit

/-- what a region keeps of two hashes that lie in boxes -/
theorem keepS {w w' : World} {g g' : Nat} {x y : List Value} (h : w.rangeAt g 0 x) (h' : w.rangeAt g' 0 y) (hg : g < w.heap.size) (hg' : g' < w.heap.size) (hb : Below w.heap.size w w') : w'.rangeAt g 0 x ∧ w'.rangeAt g' 0 y :=
  ⟨fun j v hv => by rw [hb.cell (p := ⟨g, 0 + j, none⟩) hg]; exact h j v hv, fun j v hv => by rw [hb.cell (p := ⟨g', 0 + j, none⟩) hg']; exact h' j v hv⟩
theorem grown_below {w w' : World} (hg : w.grownBy w' (Value.ownBlock (.slice none 0 0))) : Below w.heap.size w w' :=
  ⟨hg.os, hg.tape, hg.output, hg.size, fun k hk => hg.block k hk (by simp [Value.ownBlock])⟩
/-- a new slice of so many bytes -/
def BytesR (w : World) (n : Nat) (ys : List UInt8) (e : Ending) (w' : World) : Prop := ∃ A c, e = .returned (.slice A n c) ∧ RdB w' A n c ys ∧ Below w.heap.size w w'
theorem Bytes.r {f : Nat} {args : Array Value} {w : World} {ys : List UInt8} (n : Nat) (hn : ys.length = n) (h : Calls Tryd.prog f args w (Bytes w ys)) : Calls Tryd.prog f args w (BytesR w n ys) :=
  h.mono fun e w' ⟨v, he, ho, hb⟩ => by
    obtain ⟨A, c, rfl, hr⟩ := ho.reads
    subst hn
    exact ⟨A, c, he, hr, hb⟩

/-- slices that lie in a new row read as a list -/
theorem row_lists {w : World} {xs : List (List UInt8)} {vs : List Value} (hm : xs.length ≤ 1000)
    (h : ∀ (j : Nat) ys, xs[j]? = some ys → ∃ A c, vs[j]? = some (Value.slice A ys.length c) ∧ RdB w A ys.length c ys) : RdL (w.alloc (.cells vs.toArray 22)) (some ⟨w.heap.size, 0, none⟩) xs.length xs.length xs := by
  refine ⟨rfl, Nat.le_refl _, by unfold maxLen; omega, fun _ => ⟨_, rfl, fun j ys hj => ?_⟩⟩
  obtain ⟨A, c, h1, h2⟩ := h j ys hj
  have e : (⟨w.heap.size, 0, none⟩ : Addr).add j = ⟨w.heap.size, j, none⟩ := by unfold Addr.add; split <;> simp_all
  refine ⟨A, c, ?_, h2.alloc _⟩
  rw [e, World.cell?_alloc_at _ _ _ _ rfl]
  simpa using h1
theorem one_list {w : World} {A : Option Addr} {n c : Nat} {ys : List UInt8} (h : RdB w A n c ys) : RdL (w.alloc (.cells #[.slice A n c] 22)) (some ⟨w.heap.size, 0, none⟩) 1 1 [ys] := by
  refine row_lists (xs := [ys]) (vs := [.slice A n c]) (by simp) (fun j zs hj => ?_)
  match j, hj with
  | 0, hj =>
    obtain rfl : ys = zs := by simpa using hj
    exact ⟨A, c, by rw [h.1]; rfl, by rw [h.1]; exact h⟩
theorem two_list {w : World} {A B : Option Addr} {n c m d : Nat} {ys zs : List UInt8} (h : RdB w A n c ys) (h' : RdB w B m d zs) : RdL (w.alloc (.cells #[.slice A n c, .slice B m d] 22)) (some ⟨w.heap.size, 0, none⟩) 2 2 [ys, zs] := by
  refine row_lists (xs := [ys, zs]) (vs := [.slice A n c, .slice B m d]) (by simp) (fun j us hj => ?_)
  match j, hj with
  | 0, hj =>
    obtain rfl : ys = us := by simpa using hj
    exact ⟨A, c, by rw [h.1]; rfl, by rw [h.1]; exact h⟩
  | 1, hj =>
    obtain rfl : zs = us := by simpa using hj
    exact ⟨B, d, by rw [h'.1]; rfl, by rw [h'.1]; exact h'⟩
theorem six_list {w : World} {A0 A1 A2 A3 A4 A5 : Option Addr} {n0 n1 n2 n3 n4 n5 c0 c1 c2 c3 c4 c5 : Nat} {y0 y1 y2 y3 y4 y5 : List UInt8} (h0 : RdB w A0 n0 c0 y0) (h1 : RdB w A1 n1 c1 y1) (h2 : RdB w A2 n2 c2 y2) (h3 : RdB w A3 n3 c3 y3) (h4 : RdB w A4 n4 c4 y4) (h5 : RdB w A5 n5 c5 y5) :
    RdL (w.alloc (.cells #[.slice A0 n0 c0, .slice A1 n1 c1, .slice A2 n2 c2, .slice A3 n3 c3, .slice A4 n4 c4, .slice A5 n5 c5] 22)) (some ⟨w.heap.size, 0, none⟩) 6 6 [y0, y1, y2, y3, y4, y5] := by
  refine row_lists (xs := [y0, y1, y2, y3, y4, y5]) (vs := [.slice A0 n0 c0, .slice A1 n1 c1, .slice A2 n2 c2, .slice A3 n3 c3, .slice A4 n4 c4, .slice A5 n5 c5]) (by simp) (fun j us hj => ?_)
  match j, hj with
  | 0, hj => obtain rfl : y0 = us := by simpa using hj
             exact ⟨_, _, by rw [h0.1]; rfl, by rw [h0.1]; exact h0⟩
  | 1, hj => obtain rfl : y1 = us := by simpa using hj
             exact ⟨_, _, by rw [h1.1]; rfl, by rw [h1.1]; exact h1⟩
  | 2, hj => obtain rfl : y2 = us := by simpa using hj
             exact ⟨_, _, by rw [h2.1]; rfl, by rw [h2.1]; exact h2⟩
  | 3, hj => obtain rfl : y3 = us := by simpa using hj
             exact ⟨_, _, by rw [h3.1]; rfl, by rw [h3.1]; exact h3⟩
  | 4, hj => obtain rfl : y4 = us := by simpa using hj
             exact ⟨_, _, by rw [h4.1]; rfl, by rw [h4.1]; exact h4⟩
  | 5, hj => obtain rfl : y5 = us := by simpa using hj
             exact ⟨_, _, by rw [h5.1]; rfl, by rw [h5.1]; exact h5⟩


/-- the six keys -/
def keysOf (a b : List UInt8) (m : Nat) : List (List UInt8) := [110 :: a, 99 :: a, 97 :: a, 111 :: (a ++ b), 114 :: bigB m 8, 98 :: bigB m 8]
/-- each of them is read whole -/
theorem keys_PK (a b : List UInt8) (m : Nat) (ha : a.length = 32) (hb : b.length = 32) : ∀ k, k < 6 → ∃ l f s n nm, PK ((keysOf a b m).getD k []) = (rk l f s n nm, 0) ∧ f.length = 32 ∧ s.length = 32 ∧ n < 18446744073709551616 ∧ nm.size ≤ maxLen := by
  have h0 : (⟨#[]⟩ : ByteArray).size ≤ maxLen := by unfold maxLen; show 0 ≤ _; omega
  intro k hk
  match k, hk with
  | 0, _ => exact ⟨110, a, z32, 0, ⟨#[]⟩, by simp [keysOf, PK, ha], ha, rfl, by omega, h0⟩
  | 1, _ => exact ⟨99, a, z32, 0, ⟨#[]⟩, by simp [keysOf, PK, ha], ha, rfl, by omega, h0⟩
  | 2, _ => exact ⟨97, a, z32, 0, ⟨#[]⟩, by simp [keysOf, PK, ha], ha, rfl, by omega, h0⟩
  | 3, _ => exact ⟨111, (a ++ b).take 32, (a ++ b).drop 32, 0, ⟨#[]⟩, by simp [keysOf, PK, ha, hb], by simp [ha, hb], by simp [ha, hb], by omega, h0⟩
  | 4, _ => exact ⟨114, z32, z32, unbig (bigB m 8), ⟨#[]⟩, by simp [keysOf, PK, bigB, bigT_length], rfl, rfl, unbig_lt _, h0⟩
  | 5, _ => exact ⟨98, z32, z32, unbig (bigB m 8), ⟨#[]⟩, by simp [keysOf, PK, bigB, bigT_length], rfl, rfl, unbig_lt _, h0⟩
end Go.Proofs.YtfjfjjcdlgdbcaaDoor
