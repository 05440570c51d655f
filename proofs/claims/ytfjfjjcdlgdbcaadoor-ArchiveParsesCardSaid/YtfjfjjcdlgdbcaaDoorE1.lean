/- the document's digits of bytes -/
import Derived.Test.YtfjfjjcdlgdbcaaDoorE0
namespace Go.Proofs.YtfjfjjcdlgdbcaaDoor
open Go.RowKit

theorem quo16 (b : UInt8) : Int.tdiv (b.toNat : Int) 16 = (b.toNat : Int) / 16 := by
  rw [Int.tdiv_eq_ediv_of_nonneg (by omega)]

set_option maxRecDepth 100000 in
set_option maxHeartbeats 1000000 in
theorem Hex20_calls (A : Option Addr) (n c : Nat) (xs : List UInt8) (w : World) (h : RdB w A n c xs) (hs : n ≤ 100000000) :
    Calls Tryd.prog 68 #[.slice A n c] w fun e w' => e = .returned (.string (str (hexL xs))) ∧ Below w.heap.size w w' := by
  have hm : n ≤ 9223372036854775807 := by omega
  have H := Lib.hid h
  clear h
  go_enter Tryd.func68, Tryd.ntmps68
  go_wp2
  go_loopw [3, 4] (fun v i wr => ∃ k : Nat, k ≤ n ∧ i = .int .i64 k ∧ OwnB wr w.heap.size v (hexL (xs.take k)) ∧ Below w.heap.size w wr) (fun _ i _ => n - (intOf i).toNat)
  case atStart => exact ⟨0, by omega, rfl, by simpa [hexL] using OwnB.nil _ _, Below.refl _ _⟩
  case round =>
    obtain ⟨k, hk, rfl, ho, hb⟩ := hrel
    have hbs := hb.size
    by_cases hlt : k < n
    · obtain ⟨ad, rfl, hcell⟩ := (H.out.below hb).at_ hlt
      obtain ⟨ad', e', hcell0⟩ := H.out.at_ hlt
      obtain rfl : ad = ad' := Option.some.inj e'
      have hkeep := Lib.hid (fun W (hW : Below w.heap.size w W) => (hW.cell (World.block_lt_of_cell? w _ hcell0)).trans hcell0)
      clear hcell0 e'
      have HF := Lib.hid (hexL_take_succ xs k (by rw [H.out.1]; exact hlt))
      have hxl := H.out.1
      generalize xs.getD k 0 = b at *
      have hlen : Hid ((hexL (xs.take k)).length = 2 * k) := by rw [hexL_length, List.length_take, hxl]; show 2 * min k n = _; omega
      have hi1 := fun W => idx_hex (P := Tryd.prog) (b.toNat / 16) (by have := b.toNat_lt; omega) W Tryd.underlying9
      have hi2 := fun W => idx_hex (P := Tryd.prog) (b.toNat % 16) (by omega) W Tryd.underlying9
      simp only [Int.natCast_ediv, Int.natCast_emod, Int.cast_ofNat_Int] at hi1 hi2
      go_wp2
      refine wp_region_held_drew (S := (fun W => W.cell? (ad.add k) = some (Value.int .u8 (b.toNat : Int)))) (by kernel_rfl) (hcell) (fun hHeld => ?_)
      refine wpAnyH_take (i := 0) (v := u3) rfl (by kernel_rfl) (by kernel_rfl) (by kernel_rfl) (fun _ _ _ h => h) (.inl ⟨by rfl, fun W hS => by go_simp⟩) hHeld ?_
      simp only [Act.put, List.setIfInBounds_toArray, List.set_cons_zero, List.set_cons_succ]
      refine wpAnyH_take (i := 1) (v := .slice (some ad) n c) rfl (by kernel_rfl) (by kernel_rfl) (by kernel_rfl) (fun _ _ _ h => h) (.inl ⟨by rfl, fun W hS => by go_simp⟩) hHeld ?_
      simp only [Act.put, List.setIfInBounds_toArray, List.set_cons_zero, List.set_cons_succ]
      refine wpAnyH_take (i := 2) (v := .int .i64 (k : Int)) rfl (by kernel_rfl) (by kernel_rfl) (by kernel_rfl) (fun _ _ _ h => h) (.inl ⟨by rfl, fun W hS => by go_simp⟩) hHeld ?_
      simp only [Act.put, List.setIfInBounds_toArray, List.set_cons_zero, List.set_cons_succ]
      refine wpAnyH_take (i := 7) (v := .slice (some ad) n c) rfl (by kernel_rfl) (by kernel_rfl) (by kernel_rfl) (fun _ _ _ h => h) (.inl ⟨by rfl, fun W hS => by go_simp⟩) hHeld ?_
      simp only [Act.put, List.setIfInBounds_toArray, List.set_cons_zero, List.set_cons_succ]
      refine wpAnyH_take (i := 8) (v := .int .i64 (k : Int)) rfl (by kernel_rfl) (by kernel_rfl) (by kernel_rfl) (fun _ _ _ h => h) (.inl ⟨by rfl, fun W hS => by go_simp⟩) hHeld ?_
      simp only [Act.put, List.setIfInBounds_toArray, List.set_cons_zero, List.set_cons_succ]
      refine wpAnyH_take (i := 3) (v := .pointer (some (ad.add k))) rfl (by kernel_rfl) (by kernel_rfl) (by kernel_rfl) (fun _ _ _ h => h) (.inl ⟨by rfl, fun W hS => by go_simp⟩) hHeld ?_
      simp only [Act.put, List.setIfInBounds_toArray, List.set_cons_zero, List.set_cons_succ]
      refine wpAnyH_take (i := 9) (v := .pointer (some (ad.add k))) rfl (by kernel_rfl) (by kernel_rfl) (by kernel_rfl) (fun _ _ _ h => h) (.inl ⟨by rfl, fun W hS => by go_simp⟩) hHeld ?_
      simp only [Act.put, List.setIfInBounds_toArray, List.set_cons_zero, List.set_cons_succ]
      refine wpAnyH_take (i := 4) (v := .int .u8 (b.toNat : Int)) rfl (by kernel_rfl) (by kernel_rfl) (by kernel_rfl) (fun _ _ _ h => h) (.inl ⟨by rfl, fun W hS => by (have hS : W.cell? (ad.add k) = some (Value.int .u8 (b.toNat : Int)) := hS); go_simp⟩) hHeld ?_
      simp only [Act.put, List.setIfInBounds_toArray, List.set_cons_zero, List.set_cons_succ]
      refine wpAnyH_take (i := 10) (v := .int .u8 (b.toNat : Int)) rfl (by kernel_rfl) (by kernel_rfl) (by kernel_rfl) (fun _ _ _ h => h) (.inl ⟨by rfl, fun W hS => by (have hS : W.cell? (ad.add k) = some (Value.int .u8 (b.toNat : Int)) := hS); go_simp⟩) hHeld ?_
      simp only [Act.put, List.setIfInBounds_toArray, List.set_cons_zero, List.set_cons_succ]
      refine wpAnyH_take (i := 5) (v := .int .u8 ((b.toNat : Int) / 16)) rfl (by kernel_rfl) (by kernel_rfl) (by kernel_rfl) (fun _ _ _ h => h) (.inl ⟨by rfl, fun W hS => by go_simp; have := b.toNat_lt; exact IntWalk.u8_in _ (by omega)⟩) hHeld ?_
      simp only [Act.put, List.setIfInBounds_toArray, List.set_cons_zero, List.set_cons_succ]
      refine wpAnyH_take (i := 11) (v := .int .u8 ((b.toNat : Int) % 16)) rfl (by kernel_rfl) (by kernel_rfl) (by kernel_rfl) (fun _ _ _ h => h) (.inl ⟨by rfl, fun W hS => by go_simp; exact Int.tmod_eq_emod_of_nonneg (by omega)⟩) hHeld ?_
      simp only [Act.put, List.setIfInBounds_toArray, List.set_cons_zero, List.set_cons_succ]
      refine wpAnyH_take (i := 6) (v := .int .u8 ((dig (b.toNat / 16)).toNat : Int)) rfl (by kernel_rfl) (by kernel_rfl) (by kernel_rfl) (fun _ _ _ h => h) (.inl ⟨by rfl, fun W hS => by go_simp⟩) hHeld ?_
      simp only [Act.put, List.setIfInBounds_toArray, List.set_cons_zero, List.set_cons_succ]
      refine wpAnyH_take (i := 12) (v := .int .u8 ((dig (b.toNat % 16)).toNat : Int)) rfl (by kernel_rfl) (by kernel_rfl) (by kernel_rfl) (fun _ _ _ h => h) (.inl ⟨by rfl, fun W hS => by go_simp⟩) hHeld ?_
      simp only [Act.put, List.setIfInBounds_toArray, List.set_cons_zero, List.set_cons_succ]
      refine wpAnyH_ready (rs := [13]) (by kernel_rfl) (by simp) ?_
      refine AllReadyH.cons rfl (fun K hK => ?_) AllReadyH.nil
      go_simp
      refine hK.out _ _ (hkeep.out _ (al hb _).drew) (fun hHeld => ?_)
      clear hK K
      refine wpAnyH_ready (rs := [14]) (by kernel_rfl) (by simp) ?_
      refine AllReadyH.cons rfl (fun K hK => ?_) AllReadyH.nil
      refine armH_appendB _ rfl (.tmp 11) (.tmp 24) rfl w.heap.size _ (hexL (xs.take k)) (dig2 b) rfl _ _ _ rfl (ho.alloc _).drew (RdB.two _ _ _ _).drew (by rw [hlen.out]; omega) (by simp; omega) (fun v2 w2 ho2 hg2 hb2 => ?_)
      simp only [Act.put, List.setIfInBounds_toArray, List.set_cons_zero, List.set_cons_succ]
      refine hK.out _ _ (hkeep.out _ ((al hb _).drew.trans hb2)) (fun hHeld => ?_)
      clear hK K
      refine wpAnyH_ready (rs := [15]) (by kernel_rfl) (by simp) ?_
      refine AllReadyH.cons rfl (fun K hK => ?_) AllReadyH.nil
      go_simp
      refine hK.out _ _ (hkeep.out _ ((al hb _).drew.trans hb2)) (fun hHeld => ?_)
      clear hK K
      refine wpAnyH_done (by kernel_rfl) ?_ _
      go_wp2
      go_roundw
      case rel => exact ⟨k + 1, by omega, by go_num, by rw [HF.out]; exact ho2, (al hb _).drew.trans hb2⟩
      case measure => simp [intOf]; omega
    · obtain rfl : k = n := by omega
      obtain ⟨A2, c2, rfl, hr2⟩ := ho.reads
      have hcv := run_convertB (P := Tryd.prog) wr 22 5 9 Tryd.underlying22 Tryd.underlying5 Tryd.underlying9 hr2
      rw [List.take_of_length_le (by rw [H.out.1]; omega)] at *
      go_wp2
      go_ret
      exact ⟨rfl, hb⟩

theorem str_nil : str [] = ⟨#[]⟩ := rfl
/-- digits; a point of none -/
def dotL (xs : List UInt8) : List UInt8 := if xs = [] then [46] else xs
theorem some20_calls (xs : List UInt8) (w : World) : Calls Tryd.prog 70 #[.string (str xs)] w fun e w' => e = .returned (.string (str (dotL xs))) ∧ Below w.heap.size w w' := by
  cases xs with
  | nil =>
    go_enter Tryd.func70, Tryd.ntmps70
    rw [str_nil]
    go_wp2
    go_ret
    exact ⟨rfl, Below.refl _ _⟩
  | cons x xs =>
    have hne : ((str (x :: xs)).toList == []) = false := by rw [str_list]; rfl
    have hd : dotL (x :: xs) = x :: xs := rfl
    rw [hd]
    clear hd
    generalize str (x :: xs) = s at *
    go_enter Tryd.func70, Tryd.ntmps70
    go_wp2
    go_ret
    exact ⟨rfl, Below.refl _ _⟩
theorem digits105_calls (A : Option Addr) (n c : Nat) (xs : List UInt8) (w : World) (h : RdB w A n c xs) (hs : n ≤ 100000000) :
    Calls Tryd.prog 105 #[.slice A n c] w fun e w' => e = .returned (.string (str (dotL (hexL xs)))) ∧ Below w.heap.size w w' := by
  have hc := Lib.hid (Hex_calls A n c xs w h hs)
  have hl := h.1
  cases xs with
  | nil =>
    obtain rfl : n = 0 := by simpa using hl.symm
    go_enter Tryd.func105, Tryd.ntmps105
    go_wp2
    go_ret
    exact ⟨rfl, Below.refl _ _⟩
  | cons x xs =>
    have hn : 0 < n := by simp only [List.length_cons] at hl; omega
    have hd : dotL (hexL (x :: xs)) = hexL (x :: xs) := rfl
    rw [hd]
    clear hd hl h
    generalize hexL (x :: xs) = s at *
    go_enter Tryd.func105, Tryd.ntmps105
    go_wp2_with (go_at_call 48; refine hc.out.mono ?_; rintro e w1 ⟨rfl, hb1⟩)
    go_ret
    exact ⟨rfl, hb1⟩
end Go.Proofs.YtfjfjjcdlgdbcaaDoor
