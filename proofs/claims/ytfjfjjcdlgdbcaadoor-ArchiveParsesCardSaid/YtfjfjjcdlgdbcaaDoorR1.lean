/- moraineref13.Name -/
import Derived.Test.YtfjfjjcdlgdbcaaDoorR0
namespace Go.Proofs.YtfjfjjcdlgdbcaaDoor
open Go.RowKit

/-- is a text a marker's name? -/
def nameP (l : List UInt8) : Prop := 1 ≤ l.length ∧ l.length ≤ 32 ∧ ∀ b ∈ l, 97 ≤ b.toNat ∧ b.toNat ≤ 122
instance (l : List UInt8) : Decidable (nameP l) := by unfold nameP; infer_instance
def nameOk (l : List UInt8) : Bool := decide (nameP l)
theorem nameOk_no (l : List UInt8) (h : ¬ nameP l) : nameOk l = false := decide_eq_false h
theorem nameOk_yes (l : List UInt8) (h : nameP l) : nameOk l = true := decide_eq_true h
theorem size_toList (s : ByteArray) : s.data.toList.length = s.size := by simp

set_option maxHeartbeats 400000 in
theorem Name_calls (s : ByteArray) (w : World) :
    Calls Tryd.prog 25 #[.string s] w fun e w' => e = .returned (.bool (nameOk s.data.toList)) ∧ w = w' := by
  by_cases h1 : s.size < 1
  · have hn := Lib.hid (nameOk_no s.data.toList (fun h => by have := h.1; rw [size_toList] at this; omega))
    go_enter Tryd.func25, Tryd.ntmps25
    go_wp2
    go_ret
    exact ⟨by rw [hn.out]; rfl, rfl⟩
  · by_cases h2 : 32 < s.size
    · have hn := Lib.hid (nameOk_no s.data.toList (fun h => by have := h.2.1; rw [size_toList] at this; omega))
      go_enter Tryd.func25, Tryd.ntmps25
      go_wp2
      go_ret
      exact ⟨by rw [hn.out]; rfl, rfl⟩
    · go_enter Tryd.func25, Tryd.ntmps25
      go_wp2
      go_loop [3] (fun i => ∃ k : Nat, k ≤ s.size ∧ i = .int .i64 k ∧ ∀ j b, j < k → s.data.toList[j]? = some b → 97 ≤ b.toNat ∧ b.toNat ≤ 122) (fun i => s.size - (intOf i).toNat)
      case atStart => exact ⟨0, Nat.zero_le _, rfl, fun j b hj => by omega⟩
      case round =>
        obtain ⟨k, hk, rfl, ha⟩ := hrel
        have HA := Lib.hid ha
        clear ha
        by_cases hlt : k < s.size
        · have hg : s.data.toList[k]? = some s[k] := by
            rw [List.getElem?_eq_getElem (by rw [size_toList]; exact hlt)]; rfl
          have HG := Lib.hid hg
          clear hg
          by_cases ha : s[k].toNat < 97
          · have hn := Lib.hid (nameOk_no s.data.toList (fun h => by have := h.2.2 _ (List.mem_of_getElem? HG.out); omega))
            go_wp2
            go_ret
            exact ⟨by rw [hn.out]; rfl, rfl⟩
          · by_cases hb : 122 < s[k].toNat
            · have hn := Lib.hid (nameOk_no s.data.toList (fun h => by have := h.2.2 _ (List.mem_of_getElem? HG.out); omega))
              go_wp2
              go_ret
              exact ⟨by rw [hn.out]; rfl, rfl⟩
            · go_wp2
              go_round
              case rel =>
                refine ⟨k + 1, by omega, by go_num, fun j b hj hb' => ?_⟩
                by_cases e : j = k
                · subst e
                  rw [HG.out] at hb'
                  obtain rfl := Option.some.inj hb'
                  omega
                · exact HA.out j b (by omega) hb'
              case measure => simp [intOf]; omega
        · have hn := Lib.hid (nameOk_yes s.data.toList ⟨by rw [size_toList]; omega, by rw [size_toList]; omega, fun b hb => by
            obtain ⟨j, hj⟩ := List.getElem?_of_mem hb
            have := (List.getElem?_eq_some_iff.1 hj).1
            rw [size_toList] at this
            exact HA.out j b (by omega) hj⟩)
          go_wp2
          go_ret
          exact ⟨by rw [hn.out]; rfl, rfl⟩
end Go.Proofs.YtfjfjjcdlgdbcaaDoor
