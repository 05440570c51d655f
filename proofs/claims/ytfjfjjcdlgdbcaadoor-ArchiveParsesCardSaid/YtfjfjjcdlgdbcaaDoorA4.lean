/- Lists of byte lists in memory. -/
import Derived.Test.YtfjfjjcdlgdbcaaDoorA3
namespace Go.Proofs.YtfjfjjcdlgdbcaaDoor
open Go.RowKit

/-- the slice value (A, n, c) reads as a list of byte lists -/
def RdL (w : World) (A : Option Addr) (n c : Nat) (yss : List (List UInt8)) : Prop :=
  yss.length = n ∧ n ≤ c ∧ c ≤ maxLen ∧ (0 < n → ∃ ad, A = some ad ∧ ∀ j ys, yss[j]? = some ys → ∃ B m, w.cell? (ad.add j) = some (.slice B ys.length m) ∧ RdB w B ys.length m ys)

theorem RdL.below {w w1 : World} {A : Option Addr} {n c : Nat} {yss : List (List UInt8)} (h : RdL w A n c yss) (hb : Below w.heap.size w w1) : RdL w1 A n c yss :=
  ⟨h.1, h.2.1, h.2.2.1, fun hn => by
    obtain ⟨ad, e, hc⟩ := h.2.2.2 hn
    refine ⟨ad, e, fun j ys hj => ?_⟩
    obtain ⟨B, m, h1, h2⟩ := hc j ys hj
    exact ⟨B, m, by rw [hb.cell (World.block_lt_of_cell? w _ h1)]; exact h1, h2.below hb⟩⟩
theorem RdL.at_ {w : World} {A : Option Addr} {n c : Nat} {yss : List (List UInt8)} (h : RdL w A n c yss) {k : Nat} (hk : k < n) :
    ∃ ad B m, A = some ad ∧ yss[k]? = some (yss.getD k []) ∧ w.cell? (ad.add k) = some (.slice B (yss.getD k []).length m) ∧ RdB w B (yss.getD k []).length m (yss.getD k []) := by
  obtain ⟨ad, e, hc⟩ := h.2.2.2 (by omega)
  have hl : k < yss.length := by have := h.1; omega
  have hg : yss[k]? = some (yss.getD k []) := by rw [List.getD_eq_getElem?_getD, List.getElem?_eq_getElem hl]; rfl
  obtain ⟨B, m, h1, h2⟩ := hc k _ hg
  exact ⟨ad, B, m, e, hg, h1, h2⟩
end Go.Proofs.YtfjfjjcdlgdbcaaDoor
