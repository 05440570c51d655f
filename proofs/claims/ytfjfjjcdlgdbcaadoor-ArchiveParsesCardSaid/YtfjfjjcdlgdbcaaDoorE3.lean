/- The kinds of acts: their words, their fields. -/
import Derived.Test.YtfjfjjcdlgdbcaaDoorE2
namespace Go.Proofs.YtfjfjjcdlgdbcaaDoor
open Go.RowKit

/-- word and fields of each kind -/
def kt : List (List UInt8 × List UInt8) := [([], []), ([97, 100, 100], [97, 119]), ([115, 117, 98], [97, 119]), ([110, 111, 110, 99, 101], [97, 110]), ([99, 111, 100, 101], [97, 98]), ([115, 108, 111, 116], [97, 107, 119]), ([100, 101, 115, 116, 114, 111, 121], [97]), ([109, 97, 114, 107], []), ([114, 101, 118, 101, 114, 116], [110]), ([114, 111, 111, 116], []), ([99, 111, 109, 109, 105, 116], []), ([97, 99, 99, 111, 117, 110, 116], [97, 114, 109]), ([103, 101, 116, 99, 111, 100, 101], [97, 114, 109]), ([103, 101, 116, 115, 108, 111, 116], [97, 107, 114, 109]), ([112, 114, 111, 118, 101], [97, 114]), ([112, 114, 111, 118, 101, 115, 108, 111, 116], [97, 107, 114]), ([101, 110, 116, 114, 105, 101, 115], [114, 110, 98]), ([115, 108, 111, 116, 115], [97, 114, 110, 98]), ([98, 108, 111, 99, 107], [110, 98]), ([103, 101, 116, 98, 108, 111, 99, 107], [110]), ([102, 114, 101, 101, 122, 101], [110]), ([116, 97, 105, 108], [110]), ([112, 114, 117, 110, 101], [108]), ([102, 108, 117, 115, 104], []), ([99, 111, 109, 112, 97, 99, 116], [110]), ([115, 101, 116, 116, 108, 101], [110]), ([102, 108, 97, 116], [110]), ([102, 108, 97, 116, 116, 101, 110], [110])]
def kw (n : Int) : List UInt8 := if 0 ≤ n then (kt.getD n.toNat ([], [])).1 else []
def kf (n : Int) : List UInt8 := if 0 ≤ n then (kt.getD n.toNat ([], [])).2 else []
/-- fields in capitals -/
def kF (n : Int) : List UInt8 := (kf n).map fun c => c - 32
def isKind (n : Int) : Prop := 1 ≤ n ∧ n ≤ 27
theorem kw_no (n : Int) (h : ¬ isKind n) : kw n = [] := by
  unfold kw
  split
  · rename_i h0
    by_cases h1 : n = 0
    · subst h1; rfl
    · unfold isKind at h
      rw [List.getD_eq_getElem?_getD, List.getElem?_eq_none (by show 28 ≤ _; omega)]
      rfl
  · rfl
theorem kf_no (n : Int) (h : ¬ isKind n) : kf n = [] := by
  unfold kf
  split
  · rename_i h0
    by_cases h1 : n = 0
    · subst h1; rfl
    · unfold isKind at h
      rw [List.getD_eq_getElem?_getD, List.getElem?_eq_none (by show 28 ≤ _; omega)]
      rfl
  · rfl
set_option maxHeartbeats 4000000 in
theorem Word_calls (n : Int) (w : World) : Calls Tryd.prog 67 #[.int .i64 n] w fun e w' => e = .returned (.tuple #[.string (str (kw n)), .string (str (kF n))]) ∧ w = w' := by
  by_cases h1 : n = 1
  · subst h1
    go_enter Tryd.func67, Tryd.ntmps67
    go_wp2
    go_ret2
    exact ⟨rfl, rfl⟩
  by_cases h2 : n = 2
  · subst h2
    go_enter Tryd.func67, Tryd.ntmps67
    go_wp2
    go_ret2
    exact ⟨rfl, rfl⟩
  by_cases h3 : n = 3
  · subst h3
    go_enter Tryd.func67, Tryd.ntmps67
    go_wp2
    go_ret2
    exact ⟨rfl, rfl⟩
  by_cases h4 : n = 4
  · subst h4
    go_enter Tryd.func67, Tryd.ntmps67
    go_wp2
    go_ret2
    exact ⟨rfl, rfl⟩
  by_cases h5 : n = 5
  · subst h5
    go_enter Tryd.func67, Tryd.ntmps67
    go_wp2
    go_ret2
    exact ⟨rfl, rfl⟩
  by_cases h6 : n = 6
  · subst h6
    go_enter Tryd.func67, Tryd.ntmps67
    go_wp2
    go_ret2
    exact ⟨rfl, rfl⟩
  by_cases h7 : n = 7
  · subst h7
    go_enter Tryd.func67, Tryd.ntmps67
    go_wp2
    go_ret2
    exact ⟨rfl, rfl⟩
  by_cases h8 : n = 8
  · subst h8
    go_enter Tryd.func67, Tryd.ntmps67
    go_wp2
    go_ret2
    exact ⟨rfl, rfl⟩
  by_cases h9 : n = 9
  · subst h9
    go_enter Tryd.func67, Tryd.ntmps67
    go_wp2
    go_ret2
    exact ⟨rfl, rfl⟩
  by_cases h10 : n = 10
  · subst h10
    go_enter Tryd.func67, Tryd.ntmps67
    go_wp2
    go_ret2
    exact ⟨rfl, rfl⟩
  by_cases h11 : n = 11
  · subst h11
    go_enter Tryd.func67, Tryd.ntmps67
    go_wp2
    go_ret2
    exact ⟨rfl, rfl⟩
  by_cases h12 : n = 12
  · subst h12
    go_enter Tryd.func67, Tryd.ntmps67
    go_wp2
    go_ret2
    exact ⟨rfl, rfl⟩
  by_cases h13 : n = 13
  · subst h13
    go_enter Tryd.func67, Tryd.ntmps67
    go_wp2
    go_ret2
    exact ⟨rfl, rfl⟩
  by_cases h14 : n = 14
  · subst h14
    go_enter Tryd.func67, Tryd.ntmps67
    go_wp2
    go_ret2
    exact ⟨rfl, rfl⟩
  by_cases h15 : n = 15
  · subst h15
    go_enter Tryd.func67, Tryd.ntmps67
    go_wp2
    go_ret2
    exact ⟨rfl, rfl⟩
  by_cases h16 : n = 16
  · subst h16
    go_enter Tryd.func67, Tryd.ntmps67
    go_wp2
    go_ret2
    exact ⟨rfl, rfl⟩
  by_cases h17 : n = 17
  · subst h17
    go_enter Tryd.func67, Tryd.ntmps67
    go_wp2
    go_ret2
    exact ⟨rfl, rfl⟩
  by_cases h18 : n = 18
  · subst h18
    go_enter Tryd.func67, Tryd.ntmps67
    go_wp2
    go_ret2
    exact ⟨rfl, rfl⟩
  by_cases h19 : n = 19
  · subst h19
    go_enter Tryd.func67, Tryd.ntmps67
    go_wp2
    go_ret2
    exact ⟨rfl, rfl⟩
  by_cases h20 : n = 20
  · subst h20
    go_enter Tryd.func67, Tryd.ntmps67
    go_wp2
    go_ret2
    exact ⟨rfl, rfl⟩
  by_cases h21 : n = 21
  · subst h21
    go_enter Tryd.func67, Tryd.ntmps67
    go_wp2
    go_ret2
    exact ⟨rfl, rfl⟩
  by_cases h22 : n = 22
  · subst h22
    go_enter Tryd.func67, Tryd.ntmps67
    go_wp2
    go_ret2
    exact ⟨rfl, rfl⟩
  by_cases h23 : n = 23
  · subst h23
    go_enter Tryd.func67, Tryd.ntmps67
    go_wp2
    go_ret2
    exact ⟨rfl, rfl⟩
  by_cases h24 : n = 24
  · subst h24
    go_enter Tryd.func67, Tryd.ntmps67
    go_wp2
    go_ret2
    exact ⟨rfl, rfl⟩
  by_cases h25 : n = 25
  · subst h25
    go_enter Tryd.func67, Tryd.ntmps67
    go_wp2
    go_ret2
    exact ⟨rfl, rfl⟩
  by_cases h26 : n = 26
  · subst h26
    go_enter Tryd.func67, Tryd.ntmps67
    go_wp2
    go_ret2
    exact ⟨rfl, rfl⟩
  by_cases h27 : n = 27
  · subst h27
    go_enter Tryd.func67, Tryd.ntmps67
    go_wp2
    go_ret2
    exact ⟨rfl, rfl⟩
  have hno : ¬ isKind n := by unfold isKind; omega
  rw [kw_no n hno, kF, kf_no n hno]
  clear hno
  go_enter Tryd.func67, Tryd.ntmps67
  go_wp2
  go_ret2
  exact ⟨rfl, rfl⟩
end Go.Proofs.YtfjfjjcdlgdbcaaDoor
