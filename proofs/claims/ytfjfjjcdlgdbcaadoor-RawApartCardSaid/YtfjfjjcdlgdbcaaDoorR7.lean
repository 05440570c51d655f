/- rawdb.named, rawdb.MarkerKey -/
import Derived.Test.YtfjfjjcdlgdbcaaDoorR6
import Derived.Test.YtfjfjjcdlgdbcaaDoorRShelf
import Derived.Lib.SlTrimSet
namespace Go.Proofs.YtfjfjjcdlgdbcaaDoor
open Go.RowKit

def azs : List UInt8 := [97, 98, 99, 100, 101, 102, 103, 104, 105, 106, 107, 108, 109, 110, 111, 112, 113, 114, 115, 116, 117, 118, 119, 120, 121, 122]
theorem az_contains (b : UInt8) : azs.contains b = true ↔ 97 ≤ b.toNat ∧ b.toNat ≤ 122 := by
  have : ∀ b : Fin 256, azs.contains (UInt8.ofNat b.val) = decide (97 ≤ b.val ∧ b.val ≤ 122) := by decide +kernel
  have h := this ⟨b.toNat, b.toNat_lt⟩
  simp only [UInt8.ofNat_toNat] at h
  rw [h]
  simp
theorem dropWhile_nil (p : UInt8 → Bool) (l : List UInt8) : l.dropWhile p = [] ↔ ∀ b ∈ l, p b = true := by
  induction l with
  | nil => simp
  | cons x l ih =>
    simp only [List.dropWhile_cons, List.mem_cons, forall_eq_or_imp]
    by_cases h : p x = true
    · simp [h, ih]
    · simp [h]
theorem mem_dropWhile (p : UInt8 → Bool) (l : List UInt8) (b : UInt8) (hb : b ∈ l) (hp : p b = false) : b ∈ l.dropWhile p := by
  induction l with
  | nil => exact hb
  | cons x l ih =>
    simp only [List.dropWhile_cons]
    rcases List.mem_cons.1 hb with rfl | hb
    · simp [hp]
    · split
      · exact ih hb
      · exact List.mem_cons_of_mem _ hb
theorem trim_az (l : List UInt8) : Lib.trimS l azs = [] ↔ ∀ b ∈ l, 97 ≤ b.toNat ∧ b.toNat ≤ 122 := by
  unfold Lib.trimS Lib.trimLeftS Lib.trimRightS
  rw [dropWhile_nil]
  constructor
  · intro h b hb
    rw [← az_contains]
    by_cases hp : azs.contains b = true
    · exact hp
    · exact h b (List.mem_reverse.2 (mem_dropWhile _ _ b (List.mem_reverse.2 hb) (by simpa using hp)))
  · intro h b hb
    rw [az_contains]
    exact h b (List.mem_reverse.1 ((List.dropWhile_sublist _).subset (List.mem_reverse.1 hb)))

theorem Trim_calls (s : ByteArray) (w : World) (hs : s.size ≤ 9223372036854775807) :
    Calls Tryd.prog 78 #[.string s, .string ⟨#[97, 98, 99, 100, 101, 102, 103, 104, 105, 106, 107, 108, 109, 110, 111, 112, 113, 114, 115, 116, 117, 118, 119, 120, 121, 122]⟩] w fun e w' => e = .returned (.string ⟨(Lib.trimS s.data.toList azs).toArray⟩) ∧ Below w.heap.size w w' :=
  Go.Proofs.Any.strings_Trim_laid Tryd.lays160 (by kernel_rfl) s ⟨#[97, 98, 99, 100, 101, 102, 103, 104, 105, 106, 107, 108, 109, 110, 111, 112, 113, 114, 115, 116, 117, 118, 119, 120, 121, 122]⟩ w hs (by decide) (ascii_of_all (by decide))

set_option maxHeartbeats 1000000 in
theorem named_calls (s : ByteArray) (w : World) :
    Calls Tryd.prog 40 #[.string s] w fun e w' => e = .returned (.bool (nameOk s.data.toList)) ∧ Below w.heap.size w w' := by
  by_cases h1 : s.size < 1
  · have hn := Lib.hid (nameOk_no s.data.toList (fun h => by have := h.1; rw [size_toList] at this; omega))
    go_enter Tryd.func40, Tryd.ntmps40
    go_wp2
    go_ret
    exact ⟨by rw [hn.out]; rfl, Below.refl _ _⟩
  · by_cases h2 : 32 < s.size
    · have hn := Lib.hid (nameOk_no s.data.toList (fun h => by have := h.2.1; rw [size_toList] at this; omega))
      go_enter Tryd.func40, Tryd.ntmps40
      go_wp2
      go_ret
      exact ⟨by rw [hn.out]; rfl, Below.refl _ _⟩
    · have hc := Lib.hid (fun W => Trim_calls s W (by omega))
      have hz := Lib.hid (trim_az s.data.toList)
      generalize ht : Lib.trimS s.data.toList azs = t at *
      have HT := Lib.hid ht
      clear ht
      by_cases hP : ∀ b ∈ s.data.toList, 97 ≤ b.toNat ∧ b.toNat ≤ 122
      · obtain rfl := hz.out.2 hP
        have hn := Lib.hid (nameOk_yes s.data.toList ⟨by rw [size_toList]; omega, by rw [size_toList]; omega, hP⟩)
        clear hP
        go_enter Tryd.func40, Tryd.ntmps40
        go_wp2_with (go_at_call 78; refine (hc.out _).mono ?_; rintro e w1 ⟨rfl, hb1⟩)
        go_ret
        exact ⟨by rw [hn.out]; rfl, hb1⟩
      · have hn := Lib.hid (nameOk_no s.data.toList (fun h => hP h.2.2))
        have ht : t.isEmpty = false := by
          cases t with
          | nil => exact absurd (hz.out.1 rfl) hP
          | cons _ _ => rfl
        have ht2 : (t == []) = false := by
          cases t with
          | nil => exact absurd (hz.out.1 rfl) hP
          | cons _ _ => rfl
        clear hP
        go_enter Tryd.func40, Tryd.ntmps40
        go_wp2_with (go_at_call 78; refine (hc.out _).mono ?_; rintro e w1 ⟨rfl, hb1⟩)
        go_ret
        exact ⟨by rw [hn.out]; simp [ht], hb1⟩
end Go.Proofs.YtfjfjjcdlgdbcaaDoor
