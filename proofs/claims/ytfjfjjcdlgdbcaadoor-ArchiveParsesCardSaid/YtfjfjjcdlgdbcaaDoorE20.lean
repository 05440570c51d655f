/- archive.parsed's closure 'number' -/
import Derived.Test.YtfjfjjcdlgdbcaaDoorE5
import Derived.Deep.RegionHeld3
import Derived.Test.YtfjfjjcdlgdbcaaDoorEShelf2
namespace Go.Proofs.YtfjfjjcdlgdbcaaDoor
open Go.RowKit
set_option linter.unusedSimpArgs false
set_option linter.unusedVariables false

/-- the number that prints so -/
def numL (s : List UInt8) : Option Int := match Lib.atoiAll s with
  | .ok v => if Lib.itoa v = s then some v else none
  | _ => none
theorem numL_ok (s : List UInt8) (v : Int) (h : Lib.atoiAll s = .ok v) : numL s = if Lib.itoa v = s then some v else none := by rw [numL, h]
theorem numL_no (s : List UInt8) (h : ∀ v, Lib.atoiAll s ≠ .ok v) : numL s = none := by
  unfold numL
  split
  · rename_i v hv; exact absurd hv (h v)
  · rfl
theorem atoi_bounds (s : List UInt8) (v : Int) (h : Lib.atoiAll s = .ok v) : -9223372036854775808 ≤ v ∧ v ≤ 9223372036854775807 := by
  cases s with
  | nil => simp [Lib.atoiAll] at h
  | cons c r =>
    simp only [Lib.atoiAll] at h
    split at h
    · cases h
    · cases h
    · rename_i u hu
      have := Lib.parseMag_lt hu
      split at h
      · cases h
      · split at h
        · cases h
        · injection h with h
          rename_i h1 h2
          subst h
          split <;> omega

set_option maxRecDepth 100000 in
set_option maxHeartbeats 2000000 in
theorem number106_calls (s : List UInt8) (sb g off : Nat) (w : World) (hs : s.length ≤ 100000000) (hL : LaidW w) (hv : w.cell? ⟨sb, 0, none⟩ = some (.string (str s))) (hsg : sb ≠ g)
    (hroom : ∀ W, Below w.heap.size w W → RoomAt W g off 1) (hLs : ∀ W n, Below w.heap.size w W → LaidW (W.setCell ⟨g, off, none⟩ (.int .i64 n))) :
    Calls Tryd.prog 106 #[.pointer (some ⟨g, off, none⟩), .pointer (some ⟨sb, 0, none⟩)] w fun e w' => ∃ w2 n, Below w.heap.size w w2 ∧ Below (w2.setCell ⟨g, off, none⟩ (.int .i64 n)).heap.size (w2.setCell ⟨g, off, none⟩ (.int .i64 n)) w' ∧
      ((numL s = some n ∧ (-9223372036854775808 ≤ n ∧ n ≤ 9223372036854775807) ∧ e = .returned (.bool true)) ∨ (numL s = none ∧ e = .returned (.bool false))) := by
  have hc := Lib.hid (Tryd.Atoi_all (str s) (by rw [str_size]; omega) w hL.syn hL.rng)
  have hrm := Lib.hid (fun W hW => (hroom W hW 0 (by omega)))
  have hlt := World.block_lt_of_cell? w _ hv
  have hcv := Lib.hid (fun W n (hW : Below w.heap.size w W) => show (W.setCell ⟨g, off, none⟩ (.int .i64 n)).cell? ⟨sb, 0, none⟩ = some (.string (str s)) by
    have e : (W.setCell ⟨g, off, none⟩ (.int .i64 n)).cell? ⟨sb, 0, none⟩ = W.cell? ⟨sb, 0, none⟩ := by
      unfold World.cell?
      rw [Below.heap_setCell W ⟨g, off, none⟩ (.int .i64 n) sb hsg]
    rw [e, hW.cell hlt]; exact hv)
  have HLS := Lib.hid hLs
  clear hroom hL hLs
  by_cases ha : ∃ v, Lib.atoiAll s = .ok v
  · obtain ⟨v, ha⟩ := ha
    have hbd := atoi_bounds s v ha
    have hnl := Lib.hid (numL_ok s v ha)
    have hc2 := Lib.hid (hc.out.mono (fun e w' ⟨hb, h⟩ => (show Below w.heap.size w w' ∧ e = Ending.returned (.tuple #[.int .i64 v, .nilIface]) from ⟨hb, by
      rcases h with ⟨v', h1, h2⟩ | ⟨h1, _⟩
      · have : v' = v := by
          have h3 := h1.symm.trans ha
          injection h3
        rw [← this]; exact h2
      · exact absurd ha (h1 v)⟩)))
    have hit := Lib.hid (fun W (hW : LaidW W) => Itoa_calls v W hbd.1 hbd.2 hW)
    have hcmp : ((str (Lib.itoa v)).toList == (str s).toList) = decide (Lib.itoa v = s) := by rw [str_list, str_list, Bool.eq_iff_iff]; simp
    clear hc ha
    go_enter Tryd.func106, Tryd.ntmps106
    go_wp2_with (go_at_call 107; refine hc2.out.mono ?_; rintro e w1 ⟨hb1, rfl⟩; obtain ⟨u0, hu0⟩ := Option.isSome_iff_exists.1 (hrm.out w1 hb1).1; have hf0 := (hrm.out w1 hb1).2; simp only [Nat.add_zero] at hu0 hf0)
    have hLS := Lib.hid (HLS.out w1 v hb1)
    have hcw := hcv.out w1 v hb1
    refine wp_region_held_drew (S := (fun W => W.cell? ⟨sb, 0, none⟩ = some (Value.string (str s)))) (by kernel_rfl) (hcw) (fun hHeld => ?_)
    refine wpAnyH_take (i := 0) (v := .nilIface) rfl (by kernel_rfl) (by kernel_rfl) (by kernel_rfl) (fun _ _ _ h => h) (.inl ⟨by rfl, fun W hS => by go_simp⟩) hHeld ?_
    simp only [Act.put, List.setIfInBounds_toArray, List.set_cons_zero, List.set_cons_succ, List.getElem_toArray, List.getElem_cons_succ, List.getElem_cons_zero]
    refine wpAnyH_take (i := 1) (v := .bool true) rfl (by kernel_rfl) (by kernel_rfl) (by kernel_rfl) (fun _ _ _ h => h) (.inl ⟨by rfl, fun W hS => by go_simp⟩) hHeld ?_
    simp only [Act.put, List.setIfInBounds_toArray, List.set_cons_zero, List.set_cons_succ, List.getElem_toArray, List.getElem_cons_succ, List.getElem_cons_zero]
    refine wpAnyH_take (i := 2) (v := .bool true) rfl (by kernel_rfl) (by kernel_rfl) (by kernel_rfl) (fun _ _ _ h => h) (.inl ⟨by rfl, fun W hS => by go_simp⟩) hHeld ?_
    simp only [Act.put, List.setIfInBounds_toArray, List.set_cons_zero, List.set_cons_succ, List.getElem_toArray, List.getElem_cons_succ, List.getElem_cons_zero]
    refine wpAnyH_take (i := 3) (v := .int .i64 v) rfl (by kernel_rfl) (by kernel_rfl) (by kernel_rfl) (fun _ _ _ h => h) (.inl ⟨by rfl, fun W hS => by go_simp⟩) hHeld ?_
    simp only [Act.put, List.setIfInBounds_toArray, List.set_cons_zero, List.set_cons_succ, List.getElem_toArray, List.getElem_cons_succ, List.getElem_cons_zero]
    refine wpAnyH_take (i := 5) (v := .string (str s)) rfl (by kernel_rfl) (by kernel_rfl) (by kernel_rfl) (fun _ _ _ h => h) (.inl ⟨by rfl, fun W hS => by (have hS : W.cell? ⟨sb, 0, none⟩ = some (Value.string (str s)) := hS); go_simp⟩) hHeld ?_
    simp only [Act.put, List.setIfInBounds_toArray, List.set_cons_zero, List.set_cons_succ, List.getElem_toArray, List.getElem_cons_succ, List.getElem_cons_zero]
    refine wpAnyH_ready (rs := [4]) (by kernel_rfl) (by simp) ?_
    refine AllReadyH.cons rfl (fun K hK => ?_) AllReadyH.nil
    go_simp
    go_wp2_with (go_at_call 104; refine (hit.out _ (by first | exact hLS.out | exact hLS.out.below (Below.refl _ _).drew)).mono ?_; rintro e w3 ⟨rfl, hb3⟩)
    refine hK.out _ _ (cell_below' hb3 hcw) (fun hHeld => ?_)
    clear hK K
    refine wpAnyH_take (i := 6) (v := .bool (decide (Lib.itoa v = s))) rfl (by kernel_rfl) (by kernel_rfl) (by kernel_rfl) (fun _ _ _ h => h) (.inl ⟨by rfl, fun W hS => by go_simp⟩) hHeld ?_
    simp only [Act.put, List.setIfInBounds_toArray, List.set_cons_zero, List.set_cons_succ, List.getElem_toArray, List.getElem_cons_succ, List.getElem_cons_zero]
    refine wpAnyH_take (i := 7) (v := .bool (decide (Lib.itoa v = s))) rfl (by kernel_rfl) (by kernel_rfl) (by kernel_rfl) (fun _ _ _ h => h) (.inl ⟨by rfl, fun W hS => by go_simp⟩) hHeld ?_
    simp only [Act.put, List.setIfInBounds_toArray, List.set_cons_zero, List.set_cons_succ, List.getElem_toArray, List.getElem_cons_succ, List.getElem_cons_zero]
    refine wpAnyH_ready (rs := [8]) (by kernel_rfl) (by simp) ?_
    refine AllReadyH.cons rfl (fun K hK => ?_) AllReadyH.nil
    go_simp
    refine hK.out _ _ (cell_below' hb3 hcw) (fun hHeld => ?_)
    clear hK K
    refine wpAnyH_done (by kernel_rfl) ?_ _
    go_wp2
    go_ret
    refine ⟨w1, v, hb1, thn (Below.refl _ _).drew hb3, ?_⟩
    by_cases hi : Lib.itoa v = s
    · exact .inl ⟨by rw [hnl.out, if_pos hi], hbd, by simp [hi]⟩
    · exact .inr ⟨by rw [hnl.out, if_neg hi], by simp [hi]⟩
  · have hnl := Lib.hid (numL_no s (fun v hv => ha ⟨v, hv⟩))
    have hc2 := Lib.hid (hc.out.mono (fun e w' ⟨hb, h⟩ => (show Below w.heap.size w w' ∧ ∃ n N, e = Ending.returned (.tuple #[.int .i64 n, .iface 195 (.pointer (some ⟨N, 0, none⟩))]) from ⟨hb, by
      rcases h with ⟨v', h1, h2⟩ | ⟨_, h1⟩
      · exact absurd ⟨v', h1⟩ ha
      · exact h1⟩)))
    clear hc ha
    go_enter Tryd.func106, Tryd.ntmps106
    go_wp2_with (go_at_call 107; refine hc2.out.mono ?_; rintro e w1 ⟨hb1, n, N, rfl⟩; obtain ⟨u0, hu0⟩ := Option.isSome_iff_exists.1 (hrm.out w1 hb1).1; have hf0 := (hrm.out w1 hb1).2; simp only [Nat.add_zero] at hu0 hf0)
    refine wp_region_held_drew (S := fun _ => True) (by kernel_rfl) (trivial) (fun hHeld => ?_)
    refine wpAnyH_take (i := 0) (v := .iface 195 (.pointer (some ⟨N, 0, none⟩))) rfl (by kernel_rfl) (by kernel_rfl) (by kernel_rfl) (fun _ _ _ h => h) (.inl ⟨by rfl, fun W hS => by go_simp⟩) hHeld ?_
    simp only [Act.put, List.setIfInBounds_toArray, List.set_cons_zero, List.set_cons_succ, List.getElem_toArray, List.getElem_cons_succ, List.getElem_cons_zero]
    refine wpAnyH_take (i := 1) (v := .bool false) rfl (by kernel_rfl) (by kernel_rfl) (by kernel_rfl) (fun _ _ _ h => h) (.inl ⟨by rfl, fun W hS => by go_simp⟩) hHeld ?_
    simp only [Act.put, List.setIfInBounds_toArray, List.set_cons_zero, List.set_cons_succ, List.getElem_toArray, List.getElem_cons_succ, List.getElem_cons_zero]
    refine wpAnyH_take (i := 2) (v := .bool false) rfl (by kernel_rfl) (by kernel_rfl) (by kernel_rfl) (fun _ _ _ h => h) (.inl ⟨by rfl, fun W hS => by go_simp⟩) hHeld ?_
    simp only [Act.put, List.setIfInBounds_toArray, List.set_cons_zero, List.set_cons_succ, List.getElem_toArray, List.getElem_cons_succ, List.getElem_cons_zero]
    refine wpAnyH_take (i := 3) (v := undef) rfl (by kernel_rfl) (by kernel_rfl) (by kernel_rfl) (fun _ _ _ h => h) (.inr ⟨by kernel_rfl, rfl⟩) hHeld ?_
    simp only [Act.put, List.setIfInBounds_toArray, List.set_cons_zero, List.set_cons_succ, List.getElem_toArray, List.getElem_cons_succ, List.getElem_cons_zero]
    refine wpAnyH_take (i := 4) (v := undef) rfl (by kernel_rfl) (by kernel_rfl) (by kernel_rfl) (fun _ _ _ h => h) (.inr ⟨by kernel_rfl, rfl⟩) hHeld ?_
    simp only [Act.put, List.setIfInBounds_toArray, List.set_cons_zero, List.set_cons_succ, List.getElem_toArray, List.getElem_cons_succ, List.getElem_cons_zero]
    refine wpAnyH_take (i := 5) (v := undef) rfl (by kernel_rfl) (by kernel_rfl) (by kernel_rfl) (fun _ _ _ h => h) (.inr ⟨by kernel_rfl, rfl⟩) hHeld ?_
    simp only [Act.put, List.setIfInBounds_toArray, List.set_cons_zero, List.set_cons_succ, List.getElem_toArray, List.getElem_cons_succ, List.getElem_cons_zero]
    refine wpAnyH_take (i := 6) (v := undef) rfl (by kernel_rfl) (by kernel_rfl) (by kernel_rfl) (fun _ _ _ h => h) (.inr ⟨by kernel_rfl, rfl⟩) hHeld ?_
    simp only [Act.put, List.setIfInBounds_toArray, List.set_cons_zero, List.set_cons_succ, List.getElem_toArray, List.getElem_cons_succ, List.getElem_cons_zero]
    refine wpAnyH_take (i := 7) (v := .bool false) rfl (by kernel_rfl) (by kernel_rfl) (by kernel_rfl) (fun _ _ _ h => h) (.inl ⟨by rfl, fun W hS => by go_simp⟩) hHeld ?_
    simp only [Act.put, List.setIfInBounds_toArray, List.set_cons_zero, List.set_cons_succ, List.getElem_toArray, List.getElem_cons_succ, List.getElem_cons_zero]
    refine wpAnyH_ready (rs := [8]) (by kernel_rfl) (by simp) ?_
    refine AllReadyH.cons rfl (fun K hK => ?_) AllReadyH.nil
    go_simp
    refine hK.out _ _ (trivial) (fun hHeld => ?_)
    clear hK K
    refine wpAnyH_done (by kernel_rfl) ?_ _
    go_wp2
    go_ret
    exact ⟨w1, n, hb1, (Below.refl _ _).drew, .inr ⟨hnl.out, rfl⟩⟩
end Go.Proofs.YtfjfjjcdlgdbcaaDoor
