/- archive.undigits, archive.parsed's closure 'fixed' -/
import Derived.Test.YtfjfjjcdlgdbcaaDoorE18
namespace Go.Proofs.YtfjfjjcdlgdbcaaDoor
open Go.RowKit
set_option linter.unusedSimpArgs false
set_option linter.unusedVariables false

/-- the bytes of digits, none of a point -/
def undigL (s : List UInt8) : List UInt8 × Bool := if s = [46] then ([], true) else ((unhexV s).1, (unhexV s).2 && decide (0 < (unhexV s).1.length))
theorem undigL_len (s : List UInt8) : (undigL s).1.length ≤ s.length := by
  unfold undigL
  split
  · simp
  · unfold unhexV
    cases h : unhexR s with
    | none => simp
    | some o => exact unhexR_len _ _ _ (Nat.le_refl _) h
set_option maxRecDepth 100000 in
set_option maxHeartbeats 1000000 in
theorem undigits_calls (s : List UInt8) (w : World) (hs : s.length ≤ 100000000) :
    Calls Tryd.prog 109 #[.string (str s)] w fun e w' => (∃ v, e = .returned (.tuple #[v, .bool (undigL s).2]) ∧ OwnB w' w.heap.size v (undigL s).1) ∧ Below w.heap.size w w' := by
  by_cases h : s = [46]
  · have hq : ((str s).toList == [46]) = true := by rw [str_list, h]; decide
    have hu : undigL s = ([], true) := by rw [undigL, if_pos h]
    rw [hu]
    clear hu h
    go_enter Tryd.func109, Tryd.ntmps109
    go_wp2
    go_ret2
    exact ⟨⟨_, rfl, OwnB.nil _ _⟩, Below.refl _ _⟩
  · have hq : ((str s).toList == [46]) = false := by rw [str_list]; simpa using h
    have hu : undigL s = ((unhexV s).1, (unhexV s).2 && decide (0 < (unhexV s).1.length)) := by rw [undigL, if_neg h]
    have hc := Lib.hid (Unhex_calls s w hs)
    rw [hu]
    clear hu h
    generalize unhexV s = u at *
    obtain ⟨bs, ok⟩ := u
    simp only at hc ⊢
    cases ok with
    | false =>
      go_enter Tryd.func109, Tryd.ntmps109
      go_wp2_with (go_at_call 130; refine hc.out.mono ?_; rintro e w1 ⟨⟨v, rfl, ho⟩, hb1⟩)
      go_ret2
      exact ⟨⟨_, rfl, ho⟩, hb1⟩
    | true =>
      go_enter Tryd.func109, Tryd.ntmps109
      go_wp2_with (go_at_call 130; refine hc.out.mono ?_; rintro e w1 ⟨⟨v, rfl, ho⟩, hb1⟩; obtain ⟨A1, c1, rfl, hr1⟩ := ho.reads)
      go_ret2
      exact ⟨⟨_, by rw [Bool.true_and]; simp, ho⟩, hb1⟩

set_option maxRecDepth 100000 in
set_option maxHeartbeats 2000000 in
theorem fixed108_calls (s : List UInt8) (sb g off n : Nat) (w : World) (hs : s.length ≤ 100000000) (hn : n ≤ 1000) (hv : w.cell? ⟨sb, 0, none⟩ = some (.string (str s))) (hroom : ∀ W, Below w.heap.size w W → RoomAt W g off n) :
    Calls Tryd.prog 108 #[.slice (some ⟨g, off, none⟩) n n, .pointer (some ⟨sb, 0, none⟩)] w fun e w' => ∃ w2, Below w.heap.size w w2 ∧
      ((((undigL s).2 = true ∧ (undigL s).1.length = n) ∧ e = .returned (.bool true) ∧ w' = w2.setCells g off (bvs (undigL s).1)) ∨ (¬ ((undigL s).2 = true ∧ (undigL s).1.length = n) ∧ e = .returned (.bool false) ∧ ∃ vs, vs.length ≤ n ∧ w' = w2.setCells g off vs)) := by
  have hc := Lib.hid (undigits_calls s w hs)
  have hul := undigL_len s
  have hrm := Lib.hid hroom
  clear hroom
  generalize undigL s = u at *
  obtain ⟨bs, ok⟩ := u
  simp only at hc hul ⊢
  cases ok with
  | false =>
    go_enter Tryd.func108, Tryd.ntmps108
    go_wp2_with (go_at_call 109; refine hc.out.mono ?_; rintro e w1 ⟨⟨v, rfl, ho⟩, hb1⟩)
    go_ret
    exact ⟨w1, hb1, .inr ⟨by simp, rfl, [], by simp, rfl⟩⟩
  | true =>
    have hcopy := fun (W : World) A c (hr : RdB W A bs.length c bs) (hW : Below w.heap.size w W) => run_copyB (P := Tryd.prog) W 22 22 3 5 g off n n A bs.length c bs Tryd.underlying22 (by kernel_rfl) hr (fun j hj => hrm.out W hW j (by omega))
    rcases Nat.lt_trichotomy bs.length n with hl | hl | hl
    · have hq1 : (((min bs.length n : Nat) : Int) == (bs.length : Int)) = true := by simp; omega
      have hq2 : ((bs.length : Int) == (n : Int)) = false := by simp; omega
      go_enter Tryd.func108, Tryd.ntmps108
      go_wp2_with (go_at_call 109; refine hc.out.mono ?_; rintro e w1 ⟨⟨v, rfl, ho⟩, hb1⟩; obtain ⟨A1, c1, rfl, hr1⟩ := ho.reads; have hcp := hcopy w1 A1 c1 hr1 hb1)
      go_ret
      exact ⟨w1, hb1, .inr ⟨fun h => by have := h.2; omega, rfl, bvs (bs.take n), by rw [bvs_length, List.length_take]; omega, rfl⟩⟩
    · have hq1 : (((min bs.length n : Nat) : Int) == (bs.length : Int)) = true := by simp; omega
      have hq2 : ((bs.length : Int) == (n : Int)) = true := by simp; omega
      have ht := Lib.hid (List.take_of_length_le (l := bs) (i := n) (by omega))
      have HL := Lib.hid hl
      clear hl
      go_enter Tryd.func108, Tryd.ntmps108
      go_wp2_with (go_at_call 109; refine hc.out.mono ?_; rintro e w1 ⟨⟨v, rfl, ho⟩, hb1⟩; obtain ⟨A1, c1, rfl, hr1⟩ := ho.reads; have hcp := hcopy w1 A1 c1 hr1 hb1)
      go_ret
      exact ⟨w1, hb1, .inl ⟨⟨trivial, HL.out⟩, rfl, by rw [ht.out]⟩⟩
    · have hq1 : (((min bs.length n : Nat) : Int) == (bs.length : Int)) = false := by simp; omega
      go_enter Tryd.func108, Tryd.ntmps108
      go_wp2_with (go_at_call 109; refine hc.out.mono ?_; rintro e w1 ⟨⟨v, rfl, ho⟩, hb1⟩; obtain ⟨A1, c1, rfl, hr1⟩ := ho.reads; have hcp := hcopy w1 A1 c1 hr1 hb1)
      go_ret
      exact ⟨w1, hb1, .inr ⟨fun h => by have := h.2; omega, rfl, bvs (bs.take n), by rw [bvs_length, List.length_take]; omega, rfl⟩⟩
end Go.Proofs.YtfjfjjcdlgdbcaaDoor
