/- rawdb.MarkerKey -/
import Derived.Test.YtfjfjjcdlgdbcaaDoorR7
import Derived.Lib.AppendStr
namespace Go.Proofs.YtfjfjjcdlgdbcaaDoor
open Go.RowKit

/-- what a call of MarkerKey comes to -/
def MarkerPost (w : World) (l : List UInt8) (e : Ending) (w' : World) : Prop :=
  Below w.heap.size w w' ∧ ((nameOk l = true ∧ ∃ v, e = .returned (.tuple #[v, .int .i64 0]) ∧ OwnB w' w.heap.size v (109 :: l)) ∨ (nameOk l = false ∧ e = .returned (.tuple #[.slice none 0 0, .int .i64 130])))

set_option maxHeartbeats 1000000 in
theorem MarkerKey_calls (s : ByteArray) (w : World) : Calls Tryd.prog 24 #[.string s] w (MarkerPost w s.data.toList) := by
  obtain ⟨i0, hi, hz0, hz1, hz2⟩ := info_parts Tryd.info5
  have hc := Lib.hid (fun W => named_calls s W)
  by_cases h : nameOk s.data.toList = true
  · have hsz : s.size ≤ 32 := by
      have : nameP s.data.toList := of_decide_eq_true h
      have := this.2.1
      rwa [size_toList] at this
    have HK := Lib.hid h
    go_enter Tryd.func24, Tryd.ntmps24
    go_wp2_with (first | (go_at_call 40; refine (hc.out _).mono ?_; rintro e w1 ⟨rfl, hb1⟩) | (at_builtin; go_loud (refine Lib.wpList_append_own_string _ rfl (.tmp 7) (.tmp 8) 22 9 rfl w.heap.size 5 i0 Tryd.underlying22 Tryd.underlying9 hi hz0 hz1 hz2 _ 1 (bvs [109]) rfl (OwnB.one _ 109 109 (by decide) _ hb1.size) s rfl ?h1 ?h2 ?h3 ?_); rotate_right; intro v2 w2 ho2 hg2 _))
    case h1 => unfold maxLen; omega
    case h2 => omega
    case h3 => simp; have := hb1.size; omega
    have ho3 : OwnB w2 w.heap.size v2 (109 :: s.data.toList) := by
      refine OwnB.of (n := 1 + s.size) ?_
      have e : bvs (109 :: s.data.toList) = bvs [109] ++ Lib.strCells s := rfl
      rw [e]
      exact ho2
    have hb2 : Below w.heap.size w w2 := (hb1.alloc hb1.size _).grown hg2 (by simp; have := hb1.size; omega) (fun k hk => by have h1 := hb1.size; have e : w1.heap.size = k := Option.some.inj hk; omega)
    go_ret2
    exact ⟨hb2, .inl ⟨HK.out, v2, rfl, ho3⟩⟩
  · have h' : nameOk s.data.toList = false := by simpa using h
    have HK := Lib.hid h'
    clear h
    go_enter Tryd.func24, Tryd.ntmps24
    go_wp2_with (go_at_call 40; refine (hc.out _).mono ?_; rintro e w1 ⟨rfl, hb1⟩)
    go_ret2
    exact ⟨hb1, .inr ⟨HK.out, rfl⟩⟩
end Go.Proofs.YtfjfjjcdlgdbcaaDoor
