/- Bytes turned into a string. -/
import Derived.Test.YtfjfjjcdlgdbcaaDoorA6
import Derived.Laws.BytesArg
namespace Go.Proofs.YtfjfjjcdlgdbcaaDoor
open Go.RowKit

/-- the string of so many bytes -/
def str (xs : List UInt8) : ByteArray := ⟨xs.toArray⟩
theorem str_toList (xs : List UInt8) : (str xs).data.toList = xs := rfl
theorem str_list (xs : List UInt8) : (str xs).toList = xs := by rw [ByteArray.toList_eq]; rfl
theorem str_size (xs : List UInt8) : (str xs).size = xs.length := rfl
theorem str_eta (s : ByteArray) : str s.data.toList = s := by
  unfold str
  obtain ⟨⟨l⟩⟩ := s
  rfl

theorem strOfNums_bytes (xs : List UInt8) : strOfNums (xs.map fun b => (b.toNat : Int)) = str xs := by
  simp only [strOfNums, str, List.map_map]
  congr 2
  conv => rhs; rw [← List.map_id xs]
  apply List.map_congr_left
  intro b _
  simp
theorem run_convertB {P : Program} (w : World) (src e dst : TypeId) (hs : P.underlying src = some (.slice e)) (he : P.underlying e = some (.int .u8)) (hd : P.underlying dst = some .string)
    {A : Option Addr} {n c : Nat} {xs : List UInt8} (h : RdB w A n c xs) : (convert src dst (.slice A n c)).run P w = .ok (.string (str xs)) w := by
  rcases Nat.eq_zero_or_pos n with h0 | h0
  · subst h0
    have e1 : xs = [] := List.eq_nil_of_length_eq_zero h.1
    subst e1
    rw [run_convert_bytes_string w src dst e _ 0 c hs he hd]
    cases A with
    | none => rfl
    | some ad =>
      have hl : (loadCells ad 0).run P w = .ok #[] w := rfl
      simp only [Conv.bytesToString, Sem.run_bind, hl, Result.andThen_ok]
      rfl
  · obtain ⟨ad, rfl, hc⟩ := h.2.2.2 h0
    obtain ⟨b, o, sp⟩ := ad
    have hx : ∃ u, xs[0]? = some u := ⟨_, List.getElem?_eq_getElem (by rw [h.1]; exact h0)⟩
    obtain ⟨u, hu⟩ := hx
    have hsp : sp = none := by
      have := hc 0 u hu
      cases sp with
      | none => rfl
      | some k =>
        simp only [Addr.add, if_true, World.cell?] at this
        split at this <;> simp at this
    subst hsp
    have := run_convert_bytes_arg (P := P) w src e hs he b o n c (xs.map fun b => (b.toNat : Int)) (by simpa using h.1) (fun i hi => by
      have hi' : i < xs.length := by rw [h.1]; exact hi
      have h2 := hc i xs[i] (List.getElem?_eq_getElem hi')
      have e : (⟨b, o, none⟩ : Addr).add i = ⟨b, o + i, none⟩ := by unfold Addr.add; split <;> simp_all
      rw [e] at h2
      rw [h2]
      simp [bv, List.getD_eq_getElem?_getD, List.getElem?_eq_getElem hi']) dst hd
    rw [this, strOfNums_bytes]
end Go.Proofs.YtfjfjjcdlgdbcaaDoor
