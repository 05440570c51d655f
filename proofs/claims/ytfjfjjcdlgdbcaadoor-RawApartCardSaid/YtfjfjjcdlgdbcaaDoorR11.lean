/- moraineref13.Parse, whole -/
import Derived.Test.YtfjfjjcdlgdbcaaDoorR10
namespace Go.Proofs.YtfjfjjcdlgdbcaaDoor
open Go.RowKit

theorem refParse_calls (A : Option Addr) (n c : Nat) (key : List UInt8) (w : World) (h : RdB w A n c key) : Calls Tryd.prog 14 #[.slice A n c] w (Parsed w (PK key).1 (PK key).2) := by
  have hnc := h.2.1
  have hcm : c ≤ 9223372036854775807 := by have := h.2.2.1; unfold maxLen at this; omega
  have hlen := h.1
  cases key with
  | nil =>
    obtain rfl : n = 0 := by simpa using hlen.symm
    exact ref_empty A c w
  | cons b rest =>
    simp only [List.length_cons] at hlen
    have hn1 : 1 ≤ n := by omega
    have node : ∀ L : UInt8, b = L → (L = 110 ∨ L = 99 ∨ L = 97) → (rest.length = 32 → Calls Tryd.prog 14 #[.slice A n c] w (Parsed w (rk L rest z32 0 ⟨#[]⟩) 0)) → (rest.length ≠ 32 → Calls Tryd.prog 14 #[.slice A n c] w (Parsed w (rk 0 z32 z32 0 ⟨#[]⟩) 132)) →
        Calls Tryd.prog 14 #[.slice A n c] w (Parsed w (PK (b :: rest)).1 (PK (b :: rest)).2) := by
      intro L e hL h1 h2
      subst e
      simp only [PK, if_pos hL]
      by_cases hr : rest.length = 32
      · rw [if_pos hr]; exact h1 hr
      · rw [if_neg hr]; exact h2 hr
    by_cases e1 : b = 110
    · refine node 110 e1 (by simp) (fun hr => ?_) (fun hr => ?_) <;> subst e1
      · obtain rfl : n = 33 := by omega
        exact ref_110 A c rest w hnc h
      · exact ref_bad_110 A n c rest w hn1 (by omega) hnc hcm h
    by_cases e2 : b = 99
    · refine node 99 e2 (by simp) (fun hr => ?_) (fun hr => ?_) <;> subst e2
      · obtain rfl : n = 33 := by omega
        exact ref_99 A c rest w hnc h
      · exact ref_bad_99 A n c rest w hn1 (by omega) hnc hcm h
    by_cases e3 : b = 97
    · refine node 97 e3 (by simp) (fun hr => ?_) (fun hr => ?_) <;> subst e3
      · obtain rfl : n = 33 := by omega
        exact ref_97 A c rest w hnc h
      · exact ref_bad_97 A n c rest w hn1 (by omega) hnc hcm h
    by_cases e4 : b = 111
    · subst e4
      simp only [PK]
      rw [if_neg (by decide), if_pos trivial]
      by_cases hr : rest.length = 64
      · rw [if_pos hr]
        obtain rfl : n = 65 := by omega
        exact ref_111 A c rest w hnc h
      · rw [if_neg hr]
        exact ref_bad_111 A n c rest w hn1 (by omega) hnc hcm h
    by_cases e5 : b = 114
    · subst e5
      simp only [PK]
      rw [if_neg (by decide), if_neg (by decide), if_pos (by decide)]
      by_cases hr : rest.length = 8
      · rw [if_pos hr]
        obtain rfl : n = 9 := by omega
        exact ref_114 A c rest w hnc h
      · rw [if_neg hr]
        exact ref_bad_114 A n c rest w hn1 (by omega) hnc hcm h
    by_cases e6 : b = 98
    · subst e6
      simp only [PK]
      rw [if_neg (by decide), if_neg (by decide), if_pos (by decide)]
      by_cases hr : rest.length = 8
      · rw [if_pos hr]
        obtain rfl : n = 9 := by omega
        exact ref_98 A c rest w hnc h
      · rw [if_neg hr]
        exact ref_bad_98 A n c rest w hn1 (by omega) hnc hcm h
    by_cases e7 : b = 109
    · subst e7
      simp only [PK]
      rw [if_neg (by decide), if_neg (by decide), if_neg (by decide), if_pos trivial]
      by_cases hr : nameOk rest = true
      · rw [if_pos hr]
        exact ref_109 A n c rest w hn1 hnc hcm h hr
      · rw [if_neg hr]
        exact ref_bad_109 A n c rest w hn1 hnc hcm h (by simpa using hr)
    simp only [PK]
    rw [if_neg (by simp [e1, e2, e3]), if_neg e4, if_neg (by simp [e5, e6]), if_neg e7]
    exact ref_other A n c b rest w ⟨e1, e2, e3, e4, e5, e6, e7⟩ hn1 hnc hcm h
end Go.Proofs.YtfjfjjcdlgdbcaaDoor
