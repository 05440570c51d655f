/- the texts D39 of this proof, one behind the other -/
import Derived.Test.YtfjfjjcdlgdbcaaDoorF21
namespace Go.Proofs.YtfjfjjcdlgdbcaaDoor
open Go.RowKit Go.Shelf
set_option linter.unusedSimpArgs false
set_option linter.unusedVariables false

set_option maxRecDepth 100000 in
set_option maxHeartbeats 2000000 in
theorem dumpParses_walk (s : List UInt8) (w : World) (hL : LaidW w) : Calls Tryd.prog 7 #[.string (str s)] w fun e w' => e = .returned (.bool true) ∧ Below w.heap.size w w' := by
  have HK := Lib.hid (known26_calls w hL)
  have HLL := Lib.hid hL
  have hszx : (str s).size = s.length := rfl
  clear hL
  by_cases hlen : 6000 < s.length
  · have hlI : (6000 : Int) < (s.length : Int) := by omega
    go_enter Tryd.func7, Tryd.ntmps7
    go_wp2_with (go_at_call 26; refine HK.out.mono ?_; rintro e w1 ⟨rfl, hb1⟩)
    go_ret
    exact ⟨rfl, hb1⟩
  · have hlI : ¬ (6000 : Int) < (s.length : Int) := by omega
    have HP : Hid (∀ W, Below w.heap.size w W → Calls Tryd.prog 30 #[.string (str s)] W (ParseEndD W s)) := fun W hW => Parse_calls s W (by omega) (HLL.out.below hW)
    have HR : Hid (∀ W, Calls Tryd.prog 31 #[.string (str s)] W (ParseEndD W s)) := fun W => RParse_calls s W (by omega)
    cases hp : parseGo [] 0 (linesL s) with
    | inl es =>
      have HP2 : Hid (∀ W, Below w.heap.size w W → Calls Tryd.prog 30 #[.string (str s)] W (ParsedL W es)) := fun W hW => (HP.out W hW).mono fun e w' h => ended_l hp h
      have HR2 : Hid (∀ W, Calls Tryd.prog 31 #[.string (str s)] W (ParsedL W es)) := fun W => (HR.out W).mono fun e w' h => ended_l hp h
      clear hp HP HR
      go_enter Tryd.func7, Tryd.ntmps7
      go_wp2_with (first | (go_at_call 26; refine HK.out.mono ?_; rintro e w1 ⟨rfl, hb1⟩) | (go_at_call 30; refine (HP2.out w1 hb1).mono ?_; rintro e w2 ⟨hb2, A, c, rfl, hr2⟩; have HA := Lib.hid hr2; clear hr2) | (go_at_call 31; refine (HR2.out w2).mono ?_; rintro e w3 ⟨hb3, A', c', rfl, hr3⟩; have HA' := Lib.hid hr3; clear hr3) | (go_at_call 32; refine (same32_calls A _ c A' c' es w3 (HA.out.below hb3) HA'.out).mono ?_; rintro e w4 ⟨rfl, hb4⟩))
      go_ret
      exact ⟨rfl, thn (thn (thn hb1 hb2) hb3) hb4⟩
    | inr n =>
      have HP2 : Hid (∀ W, Below w.heap.size w W → Calls Tryd.prog 30 #[.string (str s)] W fun e w' => Below W.heap.size W w' ∧ e = .returned (.tuple #[.slice none 0 0, .int .i64 (n : Int), .int .i64 241])) := fun W hW => (HP.out W hW).mono fun e w' h => ended_r hp h
      have HR2 : Hid (∀ W, Calls Tryd.prog 31 #[.string (str s)] W fun e w' => Below W.heap.size W w' ∧ e = .returned (.tuple #[.slice none 0 0, .int .i64 (n : Int), .int .i64 241])) := fun W => (HR.out W).mono fun e w' h => ended_r hp h
      have hnn : ((n : Int) == (n : Int)) = true := by simp
      clear hp HP HR
      go_enter Tryd.func7, Tryd.ntmps7
      go_wp2_with (first | (go_at_call 26; refine HK.out.mono ?_; rintro e w1 ⟨rfl, hb1⟩) | (go_at_call 30; refine (HP2.out w1 hb1).mono ?_; rintro e w2 ⟨hb2, rfl⟩) | (go_at_call 31; refine (HR2.out w2).mono ?_; rintro e w3 ⟨hb3, rfl⟩) | (go_at_call 32; refine (same32_calls none 0 0 none 0 [] w3 (rdE_nil _) (rdE_nil _)).mono ?_; rintro e w4 ⟨rfl, hb4⟩))
      go_ret
      exact ⟨rfl, thn (thn (thn hb1 hb2) hb3) hb4⟩
end Go.Proofs.YtfjfjjcdlgdbcaaDoor
