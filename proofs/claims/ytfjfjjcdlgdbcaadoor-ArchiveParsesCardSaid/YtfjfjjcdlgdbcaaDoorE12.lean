/- Words of a line: strings.Split at a blank; acts of nothing. -/
import Derived.Test.YtfjfjjcdlgdbcaaDoorE11
import Derived.Lib.SplitLaws
namespace Go.Proofs.YtfjfjjcdlgdbcaaDoor
open Go.RowKit
set_option linter.unusedSimpArgs false
set_option linter.unusedVariables false

/-- cut at each byte c -/
def consHead (b : UInt8) : List (List UInt8) → List (List UInt8)
  | [] => [[b]]
  | h :: t => (b :: h) :: t
def splitL (c : UInt8) : List UInt8 → List (List UInt8)
  | [] => [[]]
  | b :: l => if b = c then [] :: splitL c l else consHead b (splitL c l)
theorem splitL_ne (c : UInt8) (l : List UInt8) : splitL c l ≠ [] := by
  cases l with
  | nil => simp [splitL]
  | cons b l =>
    unfold splitL
    split
    · simp
    · cases splitL c l <;> simp [consHead]
theorem split_one (c : UInt8) : ∀ l : List UInt8, Lib.split l [c] = splitL c l
  | [] => by
    unfold Lib.split
    rw [Lib.count_one]
    rfl
  | b :: l => by
    have ih := split_one c l
    unfold Lib.split at ih ⊢
    by_cases h : b = c
    · subst h
      rw [Lib.count_cons_eq, Nat.add_comm, Lib.splitK]
      have hix : Lib.index (b :: l) [b] = 0 := by rw [Lib.index]; simp [List.isPrefixOf]
      rw [hix, if_neg (by decide)]
      show [] :: Lib.splitK [b] 0 (Lib.count l [b]) l = _
      rw [ih, splitL, if_pos rfl]
    · rw [Lib.count_cons_ne b c l h, splitL, if_neg h, ← ih]
      have hp : ([c] : List UInt8).isPrefixOf (b :: l) = false := by simp [List.isPrefixOf, Ne.symm h]
      have hix : Lib.index (b :: l) [c] = if Lib.index l [c] == -1 then -1 else Lib.index l [c] + 1 := by rw [Lib.index, hp]; simp
      cases hn : Lib.count l [c] with
      | zero => rfl
      | succ k =>
        rw [Lib.splitK, Lib.splitK]
        by_cases hm : Lib.index l [c] = -1
        · have h1 : (Lib.index l [c] == -1) = true := by rw [hm]; rfl
          rw [hix, h1]
          rfl
        · have hge := Lib.index_ge l [c]
          have h1 : (Lib.index l [c] == -1) = false := by simpa using hm
          have h2 : (Lib.index l [c] + 1 == -1) = false := by simp; omega
          have h3 : (Lib.index l [c] + 1).toNat = (Lib.index l [c]).toNat + 1 := by omega
          rw [hix, h1]
          simp only [Bool.false_eq_true, if_false, h2, h3, consHead]
          rfl
theorem split_count (c : UInt8) (l : List UInt8) : (splitL c l).length = Lib.count l [c] + 1 := by
  induction l with
  | nil => rw [Lib.count_one]; rfl
  | cons b l ih =>
    by_cases h : b = c
    · subst h
      rw [splitL, if_pos rfl, List.length_cons, ih, Lib.count_cons_eq]; omega
    · rw [splitL, if_neg h, Lib.count_cons_ne b c l h, ← ih]
      cases hs : splitL c l with
      | nil => exact absurd hs (splitL_ne c l)
      | cons x t => rfl
theorem splitL_len (c : UInt8) (l : List UInt8) : (splitL c l).length ≤ l.length + 1 := by
  rw [split_count, Lib.count_one]
  have := List.count_le_length (a := c) (l := l)
  omega
theorem Split_calls (xs : List UInt8) (w : World) (hx : xs.length ≤ 100000000) (hL : LaidW w) :
    Calls Tryd.prog 57 #[.string (str xs), .string ⟨#[32]⟩] w fun e w' => e = .returned (.slice (some ⟨w.heap.size, 0, none⟩) (splitL 32 xs).length (splitL 32 xs).length) ∧ w' = w.alloc (.cells (svs (splitL 32 xs)).toArray 9) := by
  obtain ⟨m, hm⟩ := hL.max
  have h := Tryd.strings_Split (str xs) ⟨#[32]⟩ m w (by rw [str_size]; omega) hm (by decide)
  have hc : Lib.countB (str xs) ⟨#[32]⟩ = Lib.count xs [32] := rfl
  have hd := Lib.splitB_data ⟨#[32]⟩ 0 (Lib.count xs [32]) (str xs)
  have he : (Lib.splitB ⟨#[32]⟩ 0 (Lib.countB (str xs) ⟨#[32]⟩) (str xs)).map Value.string = svs (splitL 32 xs) := by
    rw [hc, ← split_one]
    unfold Lib.split svs
    have e2 : Lib.splitK [32] 0 (Lib.count xs [32]) xs = (Lib.splitB ⟨#[32]⟩ 0 (Lib.count xs [32]) (str xs)).map (·.data.toList) := hd.symm
    rw [e2, List.map_map]
    apply List.map_congr_left
    intro b _
    show Value.string b = Value.string (str b.data.toList)
    rw [str_eta]
  rw [he, hc, ← split_count] at h
  exact h

/-- an act of a kind, with nothing else -/
def zAct (k : Int) : ActP := { kind := k, addr := List.replicate 20 0, key := List.replicate 32 0, word := List.replicate 32 0, root := List.replicate 32 0, n := 0, m := 0, b := [], l := [] }
theorem zAct_fit (k : Int) (h0 : -9223372036854775808 ≤ k) (h1 : k ≤ 9223372036854775807) : (zAct k).Fit :=
  ⟨rfl, rfl, rfl, rfl, by show (-9223372036854775808 : Int) ≤ 0; omega, by show (0 : Int) ≤ _; omega, by show (-9223372036854775808 : Int) ≤ 0; omega, by show (0 : Int) ≤ _; omega, h0, h1⟩
def zk (k : Int) : Array Value := ak (zAct k) (.slice none 0 0) (.slice none 0 0)
theorem zk_size (k : Int) : (zk k).size = 121 := by simp [zk, ak, bvs_length, zAct]
theorem zk_zero : Tryd.zeroCells64 = zk 0 := by kernel_rfl
theorem ak_oneCell (A : ActP) (bA : Option Addr) (bn bc : Nat) (lA : Option Addr) (ln lc : Nat) : AllOne (ak A (.slice bA bn bc) (.slice lA ln lc)).toList := by
  intro v hv
  simp only [ak, List.mem_cons, List.mem_append, List.not_mem_nil, or_false] at hv
  rcases hv with rfl | hv | hv | hv | hv | rfl | rfl | rfl | rfl
  · rfl
  · exact oneCell_bvs _ _ hv
  · exact oneCell_bvs _ _ hv
  · exact oneCell_bvs _ _ hv
  · exact oneCell_bvs _ _ hv
  all_goals rfl
theorem zk_oneCell (k : Int) : AllOne (zk k).toList := ak_oneCell _ _ _ _ _ _ _
end Go.Proofs.YtfjfjjcdlgdbcaaDoor
