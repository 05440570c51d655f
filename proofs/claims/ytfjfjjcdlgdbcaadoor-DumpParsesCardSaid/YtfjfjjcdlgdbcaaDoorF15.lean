/- the texts D23 of this proof, one behind the other -/
import Derived.Test.YtfjfjjcdlgdbcaaDoorF14
namespace Go.Proofs.YtfjfjjcdlgdbcaaDoor
open Go.RowKit
set_option linter.unusedSimpArgs false
set_option linter.unusedVariables false

/-- a slot with nothing -/
def zH : List UInt8 × List UInt8 := (z32w, z32w)
theorem zH_zero : (hk zH).toArray = #[.int .u8 0, .int .u8 0, .int .u8 0, .int .u8 0, .int .u8 0, .int .u8 0, .int .u8 0, .int .u8 0, .int .u8 0, .int .u8 0, .int .u8 0, .int .u8 0, .int .u8 0, .int .u8 0, .int .u8 0, .int .u8 0, .int .u8 0, .int .u8 0, .int .u8 0, .int .u8 0, .int .u8 0, .int .u8 0, .int .u8 0, .int .u8 0, .int .u8 0, .int .u8 0, .int .u8 0, .int .u8 0, .int .u8 0, .int .u8 0, .int .u8 0, .int .u8 0, .int .u8 0, .int .u8 0, .int .u8 0, .int .u8 0, .int .u8 0, .int .u8 0, .int .u8 0, .int .u8 0, .int .u8 0, .int .u8 0, .int .u8 0, .int .u8 0, .int .u8 0, .int .u8 0, .int .u8 0, .int .u8 0, .int .u8 0, .int .u8 0, .int .u8 0, .int .u8 0, .int .u8 0, .int .u8 0, .int .u8 0, .int .u8 0, .int .u8 0, .int .u8 0, .int .u8 0, .int .u8 0, .int .u8 0, .int .u8 0, .int .u8 0, .int .u8 0] := by kernel_rfl
theorem fixed92_ok (s : List UInt8) (g off n : Nat) (w : World) (hs : s.length ≤ 100000000) (hn : n ≤ 1000) (hroom : ∀ W, Below w.heap.size w W → RoomAt W g off n) (hok : (undigL s).2 = true ∧ (undigL s).1.length = n) :
    Calls Tryd.prog 92 #[.string (str s), .slice (some ⟨g, off, none⟩) n n] w fun e w' => e = .returned (.bool true) ∧ ∃ w2, Below w.heap.size w w2 ∧ w' = w2.setCells g off (bvs (undigL s).1) :=
  (fixed92_calls s g off n w hs hn hroom).mono fun e w' ⟨w2, hb, h⟩ => by
    rcases h with ⟨_, h1, h2⟩ | ⟨h1, _⟩
    · exact ⟨h1, w2, hb, h2⟩
    · exact absurd hok h1
theorem fixed92_no (s : List UInt8) (g off n : Nat) (w : World) (hs : s.length ≤ 100000000) (hn : n ≤ 1000) (hroom : ∀ W, Below w.heap.size w W → RoomAt W g off n) (hok : ¬ ((undigL s).2 = true ∧ (undigL s).1.length = n)) :
    Calls Tryd.prog 92 #[.string (str s), .slice (some ⟨g, off, none⟩) n n] w fun e w' => e = .returned (.bool false) ∧ Below w.heap.size w w' :=
  (fixed92_calls s g off n w hs hn hroom).mono fun e w' ⟨w2, hb, h⟩ => by
    rcases h with ⟨h1, _⟩ | ⟨_, h1, rfl⟩
    · exact absurd h1 hok
    · exact ⟨h1, hb⟩
/-- the slot of words -/
def slotL (ws : List (List UInt8)) : Option (List UInt8 × List UInt8) :=
  if ws.length = 3 ∧ ws.getD 0 [] = slotW ∧ ((undigL (ws.getD 1 [])).2 = true ∧ (undigL (ws.getD 1 [])).1.length = 32) ∧ ((undigL (ws.getD 2 [])).2 = true ∧ (undigL (ws.getD 2 [])).1.length = 32) then
    some ((undigL (ws.getD 1 [])).1, (undigL (ws.getD 2 [])).1) else none
/-- three words of a row of strings -/
def W3 (r : Nat) (s0 s1 s2 : List UInt8) (W : World) : Prop := W.cell? ⟨r, 0, none⟩ = some (.string (str s0)) ∧ W.cell? ⟨r, 1, none⟩ = some (.string (str s1)) ∧ W.cell? ⟨r, 2, none⟩ = some (.string (str s2))
theorem W3.below {r : Nat} {s0 s1 s2 : List UInt8} {w W : World} {B : Nat} (h : W3 r s0 s1 s2 w) (hb : Below B w W) (hr : r < B) : W3 r s0 s1 s2 W := ⟨(hb.cell hr).trans h.1, (hb.cell hr).trans h.2.1, (hb.cell hr).trans h.2.2⟩
theorem W3.cells {r : Nat} {s0 s1 s2 : List UInt8} {w W : World} (h : W3 r s0 s1 s2 w) (hb : Below w.heap.size w W) : W3 r s0 s1 s2 W := ⟨cell_below' hb h.1, cell_below' hb h.2.1, cell_below' hb h.2.2⟩
theorem W3.far {r : Nat} {s0 s1 s2 : List UInt8} {W : World} (h : W3 r s0 s1 s2 W) {g : Nat} (hg : r < g) (o : Nat) (vs : List Value) : W3 r s0 s1 s2 (W.setCells g o vs) := by
  have key : ∀ j, (W.setCells g o vs).cell? ⟨r, j, none⟩ = W.cell? ⟨r, j, none⟩ := fun j => World.cell?_of_block (heap_setCells_other vs o W g r (by omega))
  exact ⟨(key 0).trans h.1, (key 1).trans h.2.1, (key 2).trans h.2.2⟩
def SlEnd (w : World) (ws : List (List UInt8)) (en : Ending) (w' : World) : Prop := Below w.heap.size w w' ∧
  ((slotL ws = none ∧ ∃ cs : Array Value, cs.size = 64 ∧ AllOne cs.toList ∧ en = .returned (.tuple #[.agg cs, .bool false])) ∨
   (∃ h, slotL ws = some h ∧ (h.1.length = 32 ∧ h.2.length = 32) ∧ en = .returned (.tuple #[.agg (hk h).toArray, .bool true])))
theorem ovw_hkey (h : List UInt8 × List UInt8) (xs : List UInt8) (hh : h.1.length = 32) (hx : xs.length = 32) : ovw (hk h).toArray 0 (bvs xs) = (hk (xs, h.2)).toArray := by
  have := ovw_at 0 [] (bvs h.1) (bvs xs) (bvs h.2) rfl (by rw [bvs_length, bvs_length, hx, hh])
  simpa [hk] using this
theorem ovw_hval (h : List UInt8 × List UInt8) (xs : List UInt8) (hh : h.1.length = 32) (hh2 : h.2.length = 32) (hx : xs.length = 32) : ovw (hk h).toArray 32 (bvs xs) = (hk (h.1, xs)).toArray := by
  have := ovw_at 32 (bvs h.1) (bvs h.2) (bvs xs) [] (by rw [bvs_length, hh]) (by rw [bvs_length, bvs_length, hx, hh2])
  simpa [hk] using this

set_option maxRecDepth 100000 in
set_option maxHeartbeats 4000000 in
theorem slotted_a (ws : List (List UInt8)) (r n c : Nat) (w : World) (hn : ws.length = n) (hn6 : n ≤ 100000000) (hlen : ∀ s ∈ ws, s.length ≤ 100000000) (hr : r < w.heap.size) (hws : ∀ (j : Nat) s, ws[j]? = some s → w.cell? ⟨r, j, none⟩ = some (.string (str s))) (hne : ¬ n = 3) :
    Calls Tryd.prog 60 #[.slice (some ⟨r, 0, none⟩) n c] w (SlEnd w ws) := by
  have TL : Hid (∀ h : List UInt8 × List UInt8, h.1.length = 32 ∧ h.2.length = 32 → AggT Tryd.prog 95 (hk h).length) := fun h hh => by rw [hk_length h hh]; exact Tryd.agg95
  have TS : Hid (∀ h : List UInt8 × List UInt8, h.1.length = 32 ∧ h.2.length = 32 → AggT Tryd.prog 95 (hk h).toArray.size) := fun h hh => by rw [List.size_toArray, hk_length h hh]; exact Tryd.agg95
  have N0 := Blk.new w 95 (hk zH).toArray
  have N1 := Blk.new (w.alloc (.cells (hk zH).toArray 95)) 95 (hk zH).toArray
  rw [World.size_alloc] at N1
  obtain ⟨wA, hwA⟩ : ∃ wA, wA = (w.alloc (.cells (hk zH).toArray 95)).alloc (.cells (hk zH).toArray 95) := ⟨_, rfl⟩
  have HA : Hid (Below w.heap.size w wA) := by rw [hwA]; exact al (al (Below.refl _ _) _) _
  have HZ : Hid (wA.heap.size = w.heap.size + 2) := by rw [hwA, World.size_alloc, World.size_alloc]; trivial
  have HR : Hid (Blk wA w.heap.size 95 (hk zH).toArray) := by rw [hwA]; exact N0.alloc _
  have HX : Hid (Blk wA (w.heap.size + 1) 95 (hk zH).toArray) := by rw [hwA]; exact N1
  have HC : Hid (∀ W, Below wA.heap.size wA W → ∀ (j : Nat) s, ws[j]? = some s → W.cell? ⟨r, j, none⟩ = some (.string (str s))) := fun W hW j s hj => by
    have hW2 : Below w.heap.size w W := HA.out.trans (hW.mono HA.out.size)
    rw [hW2.cell hr]; exact hws j s hj
  clear N0 N1 hws hr
  have h3a : ¬ (n : Int) = 3 := by omega
  have h3b : ((n : Int) == 3) = false := by rw [beq_eq_false_iff_ne]; exact h3a
  have HNO := Lib.hid (show slotL ws = none by unfold slotL; rw [if_neg (fun h => hne (by omega))])
  go_enter Tryd.func60, Tryd.ntmps60
  go_upto_region 2 with fail
  rw [← zH_zero, ← hwA]
  clear hwA
  refine wp_region_held_drew (S := fun W => Below wA.heap.size wA W) (by kernel_rfl) (drawn_below' _ _ 1 (Nat.le_refl _)) (fun hHeld => ?_)
  refine wpAnyH_take (i := 0) (v := .slice (some ⟨r, 0, none⟩) n c) rfl (by kernel_rfl) (by kernel_rfl) (by kernel_rfl) (fun _ _ _ h => h) (.inl ⟨by rfl, fun W hS => by go_simp⟩) hHeld ?_
  simp only [Act.put, List.setIfInBounds_toArray, List.set_cons_zero, List.set_cons_succ, List.getElem_toArray, List.getElem_cons_succ, List.getElem_cons_zero]
  refine wpAnyH_take (i := 1) (v := .int .i64 n) rfl (by kernel_rfl) (by kernel_rfl) (by kernel_rfl) (fun _ _ _ h => h) (.inl ⟨by rfl, fun W hS => by go_simp⟩) hHeld ?_
  simp only [Act.put, List.setIfInBounds_toArray, List.set_cons_zero, List.set_cons_succ, List.getElem_toArray, List.getElem_cons_succ, List.getElem_cons_zero]
  refine wpAnyH_take (i := 2) (v := .bool false) rfl (by kernel_rfl) (by kernel_rfl) (by kernel_rfl) (fun _ _ _ h => h) (.inl ⟨by rfl, fun W hS => by go_simp⟩) hHeld ?_
  simp only [Act.put, List.setIfInBounds_toArray, List.set_cons_zero, List.set_cons_succ, List.getElem_toArray, List.getElem_cons_succ, List.getElem_cons_zero]
  refine wpAnyH_take (i := 3) (v := .bool false) rfl (by kernel_rfl) (by kernel_rfl) (by kernel_rfl) (fun _ _ _ h => h) (.inl ⟨by rfl, fun W hS => by go_simp⟩) hHeld ?_
  simp only [Act.put, List.setIfInBounds_toArray, List.set_cons_zero, List.set_cons_succ, List.getElem_toArray, List.getElem_cons_succ, List.getElem_cons_zero]
  refine wpAnyH_take (i := 4) (v := undef) rfl (by kernel_rfl) (by kernel_rfl) (by kernel_rfl) (fun _ _ _ h => h) (.inr ⟨by kernel_rfl, rfl⟩) hHeld ?_
  simp only [Act.put, List.setIfInBounds_toArray, List.set_cons_zero, List.set_cons_succ, List.getElem_toArray, List.getElem_cons_succ, List.getElem_cons_zero]
  refine wpAnyH_take (i := 5) (v := undef) rfl (by kernel_rfl) (by kernel_rfl) (by kernel_rfl) (fun _ _ _ h => h) (.inr ⟨by kernel_rfl, rfl⟩) hHeld ?_
  simp only [Act.put, List.setIfInBounds_toArray, List.set_cons_zero, List.set_cons_succ, List.getElem_toArray, List.getElem_cons_succ, List.getElem_cons_zero]
  refine wpAnyH_take (i := 6) (v := undef) rfl (by kernel_rfl) (by kernel_rfl) (by kernel_rfl) (fun _ _ _ h => h) (.inr ⟨by kernel_rfl, rfl⟩) hHeld ?_
  simp only [Act.put, List.setIfInBounds_toArray, List.set_cons_zero, List.set_cons_succ, List.getElem_toArray, List.getElem_cons_succ, List.getElem_cons_zero]
  refine wpAnyH_take (i := 7) (v := undef) rfl (by kernel_rfl) (by kernel_rfl) (by kernel_rfl) (fun _ _ _ h => h) (.inr ⟨by kernel_rfl, rfl⟩) hHeld ?_
  simp only [Act.put, List.setIfInBounds_toArray, List.set_cons_zero, List.set_cons_succ, List.getElem_toArray, List.getElem_cons_succ, List.getElem_cons_zero]
  refine wpAnyH_take (i := 8) (v := .bool false) rfl (by kernel_rfl) (by kernel_rfl) (by kernel_rfl) (fun _ _ _ h => h) (.inl ⟨by rfl, fun W hS => by go_simp⟩) hHeld ?_
  simp only [Act.put, List.setIfInBounds_toArray, List.set_cons_zero, List.set_cons_succ, List.getElem_toArray, List.getElem_cons_succ, List.getElem_cons_zero]
  refine wpAnyH_take (i := 9) (v := .bool false) rfl (by kernel_rfl) (by kernel_rfl) (by kernel_rfl) (fun _ _ _ h => h) (.inl ⟨by rfl, fun W hS => by go_simp⟩) hHeld ?_
  simp only [Act.put, List.setIfInBounds_toArray, List.set_cons_zero, List.set_cons_succ, List.getElem_toArray, List.getElem_cons_succ, List.getElem_cons_zero]
  refine wpAnyH_take (i := 10) (v := undef) rfl (by kernel_rfl) (by kernel_rfl) (by kernel_rfl) (fun _ _ _ h => h) (.inr ⟨by kernel_rfl, rfl⟩) hHeld ?_
  simp only [Act.put, List.setIfInBounds_toArray, List.set_cons_zero, List.set_cons_succ, List.getElem_toArray, List.getElem_cons_succ, List.getElem_cons_zero]
  refine wpAnyH_take (i := 11) (v := undef) rfl (by kernel_rfl) (by kernel_rfl) (by kernel_rfl) (fun _ _ _ h => h) (.inr ⟨by kernel_rfl, rfl⟩) hHeld ?_
  simp only [Act.put, List.setIfInBounds_toArray, List.set_cons_zero, List.set_cons_succ, List.getElem_toArray, List.getElem_cons_succ, List.getElem_cons_zero]
  refine wpAnyH_take (i := 12) (v := undef) rfl (by kernel_rfl) (by kernel_rfl) (by kernel_rfl) (fun _ _ _ h => h) (.inr ⟨by kernel_rfl, rfl⟩) hHeld ?_
  simp only [Act.put, List.setIfInBounds_toArray, List.set_cons_zero, List.set_cons_succ, List.getElem_toArray, List.getElem_cons_succ, List.getElem_cons_zero]
  refine wpAnyH_take (i := 13) (v := undef) rfl (by kernel_rfl) (by kernel_rfl) (by kernel_rfl) (fun _ _ _ h => h) (.inr ⟨by kernel_rfl, rfl⟩) hHeld ?_
  simp only [Act.put, List.setIfInBounds_toArray, List.set_cons_zero, List.set_cons_succ, List.getElem_toArray, List.getElem_cons_succ, List.getElem_cons_zero]
  refine wpAnyH_take (i := 14) (v := undef) rfl (by kernel_rfl) (by kernel_rfl) (by kernel_rfl) (fun _ _ _ h => h) (.inr ⟨by kernel_rfl, rfl⟩) hHeld ?_
  simp only [Act.put, List.setIfInBounds_toArray, List.set_cons_zero, List.set_cons_succ, List.getElem_toArray, List.getElem_cons_succ, List.getElem_cons_zero]
  refine wpAnyH_take (i := 15) (v := undef) rfl (by kernel_rfl) (by kernel_rfl) (by kernel_rfl) (fun _ _ _ h => h) (.inr ⟨by kernel_rfl, rfl⟩) hHeld ?_
  simp only [Act.put, List.setIfInBounds_toArray, List.set_cons_zero, List.set_cons_succ, List.getElem_toArray, List.getElem_cons_succ, List.getElem_cons_zero]
  refine wpAnyH_take (i := 16) (v := .bool false) rfl (by kernel_rfl) (by kernel_rfl) (by kernel_rfl) (fun _ _ _ h => h) (.inl ⟨by rfl, fun W hS => by go_simp⟩) hHeld ?_
  simp only [Act.put, List.setIfInBounds_toArray, List.set_cons_zero, List.set_cons_succ, List.getElem_toArray, List.getElem_cons_succ, List.getElem_cons_zero]
  refine wpAnyH_take (i := 17) (v := .bool false) rfl (by kernel_rfl) (by kernel_rfl) (by kernel_rfl) (fun _ _ _ h => h) (.inl ⟨by rfl, fun W hS => by go_simp⟩) hHeld ?_
  simp only [Act.put, List.setIfInBounds_toArray, List.set_cons_zero, List.set_cons_succ, List.getElem_toArray, List.getElem_cons_succ, List.getElem_cons_zero]
  refine wpAnyH_take (i := 18) (v := undef) rfl (by kernel_rfl) (by kernel_rfl) (by kernel_rfl) (fun _ _ _ h => h) (.inr ⟨by kernel_rfl, rfl⟩) hHeld ?_
  simp only [Act.put, List.setIfInBounds_toArray, List.set_cons_zero, List.set_cons_succ, List.getElem_toArray, List.getElem_cons_succ, List.getElem_cons_zero]
  refine wpAnyH_take (i := 19) (v := undef) rfl (by kernel_rfl) (by kernel_rfl) (by kernel_rfl) (fun _ _ _ h => h) (.inr ⟨by kernel_rfl, rfl⟩) hHeld ?_
  simp only [Act.put, List.setIfInBounds_toArray, List.set_cons_zero, List.set_cons_succ, List.getElem_toArray, List.getElem_cons_succ, List.getElem_cons_zero]
  refine wpAnyH_take (i := 20) (v := undef) rfl (by kernel_rfl) (by kernel_rfl) (by kernel_rfl) (fun _ _ _ h => h) (.inr ⟨by kernel_rfl, rfl⟩) hHeld ?_
  simp only [Act.put, List.setIfInBounds_toArray, List.set_cons_zero, List.set_cons_succ, List.getElem_toArray, List.getElem_cons_succ, List.getElem_cons_zero]
  refine wpAnyH_take (i := 21) (v := undef) rfl (by kernel_rfl) (by kernel_rfl) (by kernel_rfl) (fun _ _ _ h => h) (.inr ⟨by kernel_rfl, rfl⟩) hHeld ?_
  simp only [Act.put, List.setIfInBounds_toArray, List.set_cons_zero, List.set_cons_succ, List.getElem_toArray, List.getElem_cons_succ, List.getElem_cons_zero]
  refine wpAnyH_take (i := 22) (v := undef) rfl (by kernel_rfl) (by kernel_rfl) (by kernel_rfl) (fun _ _ _ h => h) (.inr ⟨by kernel_rfl, rfl⟩) hHeld ?_
  simp only [Act.put, List.setIfInBounds_toArray, List.set_cons_zero, List.set_cons_succ, List.getElem_toArray, List.getElem_cons_succ, List.getElem_cons_zero]
  refine wpAnyH_take (i := 23) (v := undef) rfl (by kernel_rfl) (by kernel_rfl) (by kernel_rfl) (fun _ _ _ h => h) (.inr ⟨by kernel_rfl, rfl⟩) hHeld ?_
  simp only [Act.put, List.setIfInBounds_toArray, List.set_cons_zero, List.set_cons_succ, List.getElem_toArray, List.getElem_cons_succ, List.getElem_cons_zero]
  refine wpAnyH_take (i := 24) (v := .bool false) rfl (by kernel_rfl) (by kernel_rfl) (by kernel_rfl) (fun _ _ _ h => h) (.inl ⟨by rfl, fun W hS => by go_simp⟩) hHeld ?_
  simp only [Act.put, List.setIfInBounds_toArray, List.set_cons_zero, List.set_cons_succ, List.getElem_toArray, List.getElem_cons_succ, List.getElem_cons_zero]
  refine wpAnyH_ready (rs := [25]) (by kernel_rfl) (by simp) ?_
  refine AllReadyH.cons rfl (fun K hK => ?_) AllReadyH.nil
  go_simp
  refine hK.out _ _ (hHeld) (fun hHeld => ?_)
  clear hK K
  refine wpAnyH_done (by kernel_rfl) ?_ _
  have hRR := HR.out.below hHeld (by rw [HZ.out]; omega)
  have HW := Lib.hid (HA.out.trans (hHeld.mono HA.out.size))
  have HB := Lib.hid (HX.out.below hHeld (by rw [HZ.out]; omega))
  have HR2 := Lib.hid hRR
  have FV : Hid ((zH : List UInt8 × List UInt8).1.length = 32 ∧ (zH : List UInt8 × List UInt8).2.length = 32) := by first | exact ⟨rfl, rfl⟩ | exact FX.out
  have HSZ : Hid ((hk zH).toArray.size = 64) := by rw [List.size_toArray, hk_length _ FV.out]; trivial
  have HZS : Hid ((hk zH).toArray.size = 64) := rfl
  clear hHeld
  go_wp2_with (first | (refine wpList_loadAgg rfl 95 (.tmp 4) rfl (w.heap.size + 1) 0 rfl _ (TL.out zH FV.out) (cellsAt_blk HB.out) ?_) | (refine wpList_storeAgg rfl rfl 95 (.tmp 2) (.tmp 31) rfl w.heap.size 0 rfl (hk zH).toArray rfl (TS.out zH FV.out) (HR2.out.room 0 _ (by rw [HSZ.out]; decide)) (hk_one _) ?_))
  have hfb := HR2.out.setCells (hk zH).toArray.toList 0 (by rw [Array.length_toList, HSZ.out]; decide)
  rw [ovw_all _ _ (by first | (rw [Array.length_toList, HSZ.out, HZS.out]; done) | (rw [Array.length_toList]))] at hfb
  exact bodyPost_ret (results_agg_tmp rfl _ _ w.heap.size (hk zH).toArray rfl (TS.out zH FV.out) (cellsAt_blk hfb)) rfl ⟨below_setCells HW.out _ _ _ (Nat.le_refl _), .inl ⟨HNO.out, _, by decide, hk_one _, rfl⟩⟩

set_option maxRecDepth 100000 in
set_option maxHeartbeats 4000000 in
theorem slotted_b (s0 s1 s2 : List UInt8) (r c : Nat) (w : World) (hl1 : s1.length ≤ 100000000) (hl2 : s2.length ≤ 100000000) (hr : r < w.heap.size) (hws : W3 r s0 s1 s2 w) (h0 : ¬ s0 = slotW) :
    Calls Tryd.prog 60 #[.slice (some ⟨r, 0, none⟩) 3 c] w (SlEnd w [s0, s1, s2]) := by
  have TL : Hid (∀ h : List UInt8 × List UInt8, h.1.length = 32 ∧ h.2.length = 32 → AggT Tryd.prog 95 (hk h).length) := fun h hh => by rw [hk_length h hh]; exact Tryd.agg95
  have TS : Hid (∀ h : List UInt8 × List UInt8, h.1.length = 32 ∧ h.2.length = 32 → AggT Tryd.prog 95 (hk h).toArray.size) := fun h hh => by rw [List.size_toArray, hk_length h hh]; exact Tryd.agg95
  have N0 := Blk.new w 95 (hk zH).toArray
  have N1 := Blk.new (w.alloc (.cells (hk zH).toArray 95)) 95 (hk zH).toArray
  rw [World.size_alloc] at N1
  obtain ⟨wA, hwA⟩ : ∃ wA, wA = (w.alloc (.cells (hk zH).toArray 95)).alloc (.cells (hk zH).toArray 95) := ⟨_, rfl⟩
  have HA : Hid (Below w.heap.size w wA) := by rw [hwA]; exact al (al (Below.refl _ _) _) _
  have HZ : Hid (wA.heap.size = w.heap.size + 2) := by rw [hwA, World.size_alloc, World.size_alloc]; trivial
  have HR : Hid (Blk wA w.heap.size 95 (hk zH).toArray) := by rw [hwA]; exact N0.alloc _
  have HX : Hid (Blk wA (w.heap.size + 1) 95 (hk zH).toArray) := by rw [hwA]; exact N1
  have HC : Hid (∀ W, Below wA.heap.size wA W → W3 r s0 s1 s2 W) := fun W hW => hws.below (HA.out.trans (hW.mono HA.out.size)) hr
  have hrr := hr
  have hrm : Hid (∀ W, Below wA.heap.size wA W → RoomAt W (w.heap.size + 1) 0 32) := fun W hW => (HX.out.below hW (by rw [HZ.out]; omega)).room 0 32 (by decide)
  clear N0 N1 hws hr
  have hcmp : ((str s0).toList == [115, 108, 111, 116]) = false := by rw [str_list]; exact beq_eq_false_iff_ne.2 (fun e => h0 e)
  have HNO := Lib.hid (show slotL [s0, s1, s2] = none by unfold slotL; rw [if_neg (fun h => h0 h.2.1)])
  go_enter Tryd.func60, Tryd.ntmps60
  go_upto_region 2 with fail
  rw [← zH_zero, ← hwA]
  clear hwA
  refine wp_region_held_drew (S := fun W => Below wA.heap.size wA W) (by kernel_rfl) (drawn_below' _ _ 1 (Nat.le_refl _)) (fun hHeld => ?_)
  refine wpAnyH_take (i := 0) (v := .slice (some ⟨r, 0, none⟩) 3 c) rfl (by kernel_rfl) (by kernel_rfl) (by kernel_rfl) (fun _ _ _ h => h) (.inl ⟨by rfl, fun W hS => by go_simp⟩) hHeld ?_
  simp only [Act.put, List.setIfInBounds_toArray, List.set_cons_zero, List.set_cons_succ, List.getElem_toArray, List.getElem_cons_succ, List.getElem_cons_zero]
  refine wpAnyH_take (i := 1) (v := .int .i64 3) rfl (by kernel_rfl) (by kernel_rfl) (by kernel_rfl) (fun _ _ _ h => h) (.inl ⟨by rfl, fun W hS => by go_simp⟩) hHeld ?_
  simp only [Act.put, List.setIfInBounds_toArray, List.set_cons_zero, List.set_cons_succ, List.getElem_toArray, List.getElem_cons_succ, List.getElem_cons_zero]
  refine wpAnyH_take (i := 2) (v := .bool true) rfl (by kernel_rfl) (by kernel_rfl) (by kernel_rfl) (fun _ _ _ h => h) (.inl ⟨by rfl, fun W hS => by go_simp⟩) hHeld ?_
  simp only [Act.put, List.setIfInBounds_toArray, List.set_cons_zero, List.set_cons_succ, List.getElem_toArray, List.getElem_cons_succ, List.getElem_cons_zero]
  refine wpAnyH_take (i := 3) (v := .bool true) rfl (by kernel_rfl) (by kernel_rfl) (by kernel_rfl) (fun _ _ _ h => h) (.inl ⟨by rfl, fun W hS => by go_simp⟩) hHeld ?_
  simp only [Act.put, List.setIfInBounds_toArray, List.set_cons_zero, List.set_cons_succ, List.getElem_toArray, List.getElem_cons_succ, List.getElem_cons_zero]
  refine wpAnyH_take (i := 4) (v := .slice (some ⟨r, 0, none⟩) 3 c) rfl (by kernel_rfl) (by kernel_rfl) (by kernel_rfl) (fun _ _ _ h => h) (.inl ⟨by rfl, fun W hS => by go_simp⟩) hHeld ?_
  simp only [Act.put, List.setIfInBounds_toArray, List.set_cons_zero, List.set_cons_succ, List.getElem_toArray, List.getElem_cons_succ, List.getElem_cons_zero]
  refine wpAnyH_take (i := 5) (v := .pointer (some ⟨r, 0, none⟩)) rfl (by kernel_rfl) (by kernel_rfl) (by kernel_rfl) (fun _ _ _ h => h) (.inl ⟨by rfl, fun W hS => by go_simp⟩) hHeld ?_
  simp only [Act.put, List.setIfInBounds_toArray, List.set_cons_zero, List.set_cons_succ, List.getElem_toArray, List.getElem_cons_succ, List.getElem_cons_zero]
  refine wpAnyH_take (i := 6) (v := .string (str s0)) rfl (by kernel_rfl) (by kernel_rfl) (by kernel_rfl) (fun _ _ _ h => h) (.inl ⟨by rfl, fun W hS => by have hc := (HC.out W hS).1; go_simp⟩) hHeld ?_
  simp only [Act.put, List.setIfInBounds_toArray, List.set_cons_zero, List.set_cons_succ, List.getElem_toArray, List.getElem_cons_succ, List.getElem_cons_zero]
  refine wpAnyH_take (i := 7) (v := .bool false) rfl (by kernel_rfl) (by kernel_rfl) (by kernel_rfl) (fun _ _ _ h => h) (.inl ⟨by rfl, fun W hS => by go_simp⟩) hHeld ?_
  simp only [Act.put, List.setIfInBounds_toArray, List.set_cons_zero, List.set_cons_succ, List.getElem_toArray, List.getElem_cons_succ, List.getElem_cons_zero]
  refine wpAnyH_take (i := 8) (v := .bool false) rfl (by kernel_rfl) (by kernel_rfl) (by kernel_rfl) (fun _ _ _ h => h) (.inl ⟨by rfl, fun W hS => by go_simp⟩) hHeld ?_
  simp only [Act.put, List.setIfInBounds_toArray, List.set_cons_zero, List.set_cons_succ, List.getElem_toArray, List.getElem_cons_succ, List.getElem_cons_zero]
  refine wpAnyH_take (i := 9) (v := .bool false) rfl (by kernel_rfl) (by kernel_rfl) (by kernel_rfl) (fun _ _ _ h => h) (.inl ⟨by rfl, fun W hS => by go_simp⟩) hHeld ?_
  simp only [Act.put, List.setIfInBounds_toArray, List.set_cons_zero, List.set_cons_succ, List.getElem_toArray, List.getElem_cons_succ, List.getElem_cons_zero]
  refine wpAnyH_take (i := 10) (v := undef) rfl (by kernel_rfl) (by kernel_rfl) (by kernel_rfl) (fun _ _ _ h => h) (.inr ⟨by kernel_rfl, rfl⟩) hHeld ?_
  simp only [Act.put, List.setIfInBounds_toArray, List.set_cons_zero, List.set_cons_succ, List.getElem_toArray, List.getElem_cons_succ, List.getElem_cons_zero]
  refine wpAnyH_take (i := 11) (v := undef) rfl (by kernel_rfl) (by kernel_rfl) (by kernel_rfl) (fun _ _ _ h => h) (.inr ⟨by kernel_rfl, rfl⟩) hHeld ?_
  simp only [Act.put, List.setIfInBounds_toArray, List.set_cons_zero, List.set_cons_succ, List.getElem_toArray, List.getElem_cons_succ, List.getElem_cons_zero]
  refine wpAnyH_take (i := 12) (v := undef) rfl (by kernel_rfl) (by kernel_rfl) (by kernel_rfl) (fun _ _ _ h => h) (.inr ⟨by kernel_rfl, rfl⟩) hHeld ?_
  simp only [Act.put, List.setIfInBounds_toArray, List.set_cons_zero, List.set_cons_succ, List.getElem_toArray, List.getElem_cons_succ, List.getElem_cons_zero]
  refine wpAnyH_take (i := 13) (v := undef) rfl (by kernel_rfl) (by kernel_rfl) (by kernel_rfl) (fun _ _ _ h => h) (.inr ⟨by kernel_rfl, rfl⟩) hHeld ?_
  simp only [Act.put, List.setIfInBounds_toArray, List.set_cons_zero, List.set_cons_succ, List.getElem_toArray, List.getElem_cons_succ, List.getElem_cons_zero]
  refine wpAnyH_take (i := 14) (v := undef) rfl (by kernel_rfl) (by kernel_rfl) (by kernel_rfl) (fun _ _ _ h => h) (.inr ⟨by kernel_rfl, rfl⟩) hHeld ?_
  simp only [Act.put, List.setIfInBounds_toArray, List.set_cons_zero, List.set_cons_succ, List.getElem_toArray, List.getElem_cons_succ, List.getElem_cons_zero]
  refine wpAnyH_take (i := 15) (v := undef) rfl (by kernel_rfl) (by kernel_rfl) (by kernel_rfl) (fun _ _ _ h => h) (.inr ⟨by kernel_rfl, rfl⟩) hHeld ?_
  simp only [Act.put, List.setIfInBounds_toArray, List.set_cons_zero, List.set_cons_succ, List.getElem_toArray, List.getElem_cons_succ, List.getElem_cons_zero]
  refine wpAnyH_take (i := 16) (v := .bool false) rfl (by kernel_rfl) (by kernel_rfl) (by kernel_rfl) (fun _ _ _ h => h) (.inl ⟨by rfl, fun W hS => by go_simp⟩) hHeld ?_
  simp only [Act.put, List.setIfInBounds_toArray, List.set_cons_zero, List.set_cons_succ, List.getElem_toArray, List.getElem_cons_succ, List.getElem_cons_zero]
  refine wpAnyH_take (i := 17) (v := .bool false) rfl (by kernel_rfl) (by kernel_rfl) (by kernel_rfl) (fun _ _ _ h => h) (.inl ⟨by rfl, fun W hS => by go_simp⟩) hHeld ?_
  simp only [Act.put, List.setIfInBounds_toArray, List.set_cons_zero, List.set_cons_succ, List.getElem_toArray, List.getElem_cons_succ, List.getElem_cons_zero]
  refine wpAnyH_take (i := 18) (v := undef) rfl (by kernel_rfl) (by kernel_rfl) (by kernel_rfl) (fun _ _ _ h => h) (.inr ⟨by kernel_rfl, rfl⟩) hHeld ?_
  simp only [Act.put, List.setIfInBounds_toArray, List.set_cons_zero, List.set_cons_succ, List.getElem_toArray, List.getElem_cons_succ, List.getElem_cons_zero]
  refine wpAnyH_take (i := 19) (v := undef) rfl (by kernel_rfl) (by kernel_rfl) (by kernel_rfl) (fun _ _ _ h => h) (.inr ⟨by kernel_rfl, rfl⟩) hHeld ?_
  simp only [Act.put, List.setIfInBounds_toArray, List.set_cons_zero, List.set_cons_succ, List.getElem_toArray, List.getElem_cons_succ, List.getElem_cons_zero]
  refine wpAnyH_take (i := 20) (v := undef) rfl (by kernel_rfl) (by kernel_rfl) (by kernel_rfl) (fun _ _ _ h => h) (.inr ⟨by kernel_rfl, rfl⟩) hHeld ?_
  simp only [Act.put, List.setIfInBounds_toArray, List.set_cons_zero, List.set_cons_succ, List.getElem_toArray, List.getElem_cons_succ, List.getElem_cons_zero]
  refine wpAnyH_take (i := 21) (v := undef) rfl (by kernel_rfl) (by kernel_rfl) (by kernel_rfl) (fun _ _ _ h => h) (.inr ⟨by kernel_rfl, rfl⟩) hHeld ?_
  simp only [Act.put, List.setIfInBounds_toArray, List.set_cons_zero, List.set_cons_succ, List.getElem_toArray, List.getElem_cons_succ, List.getElem_cons_zero]
  refine wpAnyH_take (i := 22) (v := undef) rfl (by kernel_rfl) (by kernel_rfl) (by kernel_rfl) (fun _ _ _ h => h) (.inr ⟨by kernel_rfl, rfl⟩) hHeld ?_
  simp only [Act.put, List.setIfInBounds_toArray, List.set_cons_zero, List.set_cons_succ, List.getElem_toArray, List.getElem_cons_succ, List.getElem_cons_zero]
  refine wpAnyH_take (i := 23) (v := undef) rfl (by kernel_rfl) (by kernel_rfl) (by kernel_rfl) (fun _ _ _ h => h) (.inr ⟨by kernel_rfl, rfl⟩) hHeld ?_
  simp only [Act.put, List.setIfInBounds_toArray, List.set_cons_zero, List.set_cons_succ, List.getElem_toArray, List.getElem_cons_succ, List.getElem_cons_zero]
  refine wpAnyH_take (i := 24) (v := .bool false) rfl (by kernel_rfl) (by kernel_rfl) (by kernel_rfl) (fun _ _ _ h => h) (.inl ⟨by rfl, fun W hS => by go_simp⟩) hHeld ?_
  simp only [Act.put, List.setIfInBounds_toArray, List.set_cons_zero, List.set_cons_succ, List.getElem_toArray, List.getElem_cons_succ, List.getElem_cons_zero]
  refine wpAnyH_ready (rs := [25]) (by kernel_rfl) (by simp) ?_
  refine AllReadyH.cons rfl (fun K hK => ?_) AllReadyH.nil
  go_simp
  refine hK.out _ _ (hHeld) (fun hHeld => ?_)
  clear hK K
  refine wpAnyH_done (by kernel_rfl) ?_ _
  have hRR := HR.out.below hHeld (by rw [HZ.out]; omega)
  have HW := Lib.hid (HA.out.trans (hHeld.mono HA.out.size))
  have HB := Lib.hid (HX.out.below hHeld (by rw [HZ.out]; omega))
  have HR2 := Lib.hid hRR
  have FV : Hid ((zH : List UInt8 × List UInt8).1.length = 32 ∧ (zH : List UInt8 × List UInt8).2.length = 32) := by first | exact ⟨rfl, rfl⟩ | exact FX.out
  have HSZ : Hid ((hk zH).toArray.size = 64) := by rw [List.size_toArray, hk_length _ FV.out]; trivial
  have HZS : Hid ((hk zH).toArray.size = 64) := rfl
  clear hHeld
  go_wp2_with (first | (refine wpList_loadAgg rfl 95 (.tmp 4) rfl (w.heap.size + 1) 0 rfl _ (TL.out zH FV.out) (cellsAt_blk HB.out) ?_) | (refine wpList_storeAgg rfl rfl 95 (.tmp 2) (.tmp 31) rfl w.heap.size 0 rfl (hk zH).toArray rfl (TS.out zH FV.out) (HR2.out.room 0 _ (by rw [HSZ.out]; decide)) (hk_one _) ?_))
  have hfb := HR2.out.setCells (hk zH).toArray.toList 0 (by rw [Array.length_toList, HSZ.out]; decide)
  rw [ovw_all _ _ (by first | (rw [Array.length_toList, HSZ.out, HZS.out]; done) | (rw [Array.length_toList]))] at hfb
  exact bodyPost_ret (results_agg_tmp rfl _ _ w.heap.size (hk zH).toArray rfl (TS.out zH FV.out) (cellsAt_blk hfb)) rfl ⟨below_setCells HW.out _ _ _ (Nat.le_refl _), .inl ⟨HNO.out, _, by decide, hk_one _, rfl⟩⟩

set_option maxRecDepth 100000 in
set_option maxHeartbeats 4000000 in
theorem slotted_c (s0 s1 s2 : List UInt8) (r c : Nat) (w : World) (hl1 : s1.length ≤ 100000000) (hl2 : s2.length ≤ 100000000) (hr : r < w.heap.size) (hws : W3 r s0 s1 s2 w) (h0 : s0 = slotW) (h1 : ¬ ((undigL s1).2 = true ∧ (undigL s1).1.length = 32)) :
    Calls Tryd.prog 60 #[.slice (some ⟨r, 0, none⟩) 3 c] w (SlEnd w [s0, s1, s2]) := by
  have TL : Hid (∀ h : List UInt8 × List UInt8, h.1.length = 32 ∧ h.2.length = 32 → AggT Tryd.prog 95 (hk h).length) := fun h hh => by rw [hk_length h hh]; exact Tryd.agg95
  have TS : Hid (∀ h : List UInt8 × List UInt8, h.1.length = 32 ∧ h.2.length = 32 → AggT Tryd.prog 95 (hk h).toArray.size) := fun h hh => by rw [List.size_toArray, hk_length h hh]; exact Tryd.agg95
  have N0 := Blk.new w 95 (hk zH).toArray
  have N1 := Blk.new (w.alloc (.cells (hk zH).toArray 95)) 95 (hk zH).toArray
  rw [World.size_alloc] at N1
  obtain ⟨wA, hwA⟩ : ∃ wA, wA = (w.alloc (.cells (hk zH).toArray 95)).alloc (.cells (hk zH).toArray 95) := ⟨_, rfl⟩
  have HA : Hid (Below w.heap.size w wA) := by rw [hwA]; exact al (al (Below.refl _ _) _) _
  have HZ : Hid (wA.heap.size = w.heap.size + 2) := by rw [hwA, World.size_alloc, World.size_alloc]; trivial
  have HR : Hid (Blk wA w.heap.size 95 (hk zH).toArray) := by rw [hwA]; exact N0.alloc _
  have HX : Hid (Blk wA (w.heap.size + 1) 95 (hk zH).toArray) := by rw [hwA]; exact N1
  have HC : Hid (∀ W, Below wA.heap.size wA W → W3 r s0 s1 s2 W) := fun W hW => hws.below (HA.out.trans (hW.mono HA.out.size)) hr
  have hrr := hr
  have hrm : Hid (∀ W, Below wA.heap.size wA W → RoomAt W (w.heap.size + 1) 0 32) := fun W hW => (HX.out.below hW (by rw [HZ.out]; omega)).room 0 32 (by decide)
  clear N0 N1 hws hr
  subst h0
  have hcmp : ((str slotW).toList == [115, 108, 111, 116]) = true := by rw [str_list]; rfl
  have hcmp2 : (str slotW).toList = [115, 108, 111, 116] := by rw [str_list]; rfl
  have HNO := Lib.hid (show slotL [slotW, s1, s2] = none by unfold slotL; rw [if_neg (fun h => h1 h.2.2.1)])
  have H1 := Lib.hid h1
  clear h1
  go_enter Tryd.func60, Tryd.ntmps60
  go_upto_region 2 with fail
  rw [← zH_zero, ← hwA]
  clear hwA
  refine wp_region_held_drew (S := fun W => Below wA.heap.size wA W) (by kernel_rfl) (drawn_below' _ _ 1 (Nat.le_refl _)) (fun hHeld => ?_)
  refine wpAnyH_take (i := 0) (v := .slice (some ⟨r, 0, none⟩) 3 c) rfl (by kernel_rfl) (by kernel_rfl) (by kernel_rfl) (fun _ _ _ h => h) (.inl ⟨by rfl, fun W hS => by go_simp⟩) hHeld ?_
  simp only [Act.put, List.setIfInBounds_toArray, List.set_cons_zero, List.set_cons_succ, List.getElem_toArray, List.getElem_cons_succ, List.getElem_cons_zero]
  refine wpAnyH_take (i := 1) (v := .int .i64 3) rfl (by kernel_rfl) (by kernel_rfl) (by kernel_rfl) (fun _ _ _ h => h) (.inl ⟨by rfl, fun W hS => by go_simp⟩) hHeld ?_
  simp only [Act.put, List.setIfInBounds_toArray, List.set_cons_zero, List.set_cons_succ, List.getElem_toArray, List.getElem_cons_succ, List.getElem_cons_zero]
  refine wpAnyH_take (i := 2) (v := .bool true) rfl (by kernel_rfl) (by kernel_rfl) (by kernel_rfl) (fun _ _ _ h => h) (.inl ⟨by rfl, fun W hS => by go_simp⟩) hHeld ?_
  simp only [Act.put, List.setIfInBounds_toArray, List.set_cons_zero, List.set_cons_succ, List.getElem_toArray, List.getElem_cons_succ, List.getElem_cons_zero]
  refine wpAnyH_take (i := 3) (v := .bool true) rfl (by kernel_rfl) (by kernel_rfl) (by kernel_rfl) (fun _ _ _ h => h) (.inl ⟨by rfl, fun W hS => by go_simp⟩) hHeld ?_
  simp only [Act.put, List.setIfInBounds_toArray, List.set_cons_zero, List.set_cons_succ, List.getElem_toArray, List.getElem_cons_succ, List.getElem_cons_zero]
  refine wpAnyH_take (i := 4) (v := .slice (some ⟨r, 0, none⟩) 3 c) rfl (by kernel_rfl) (by kernel_rfl) (by kernel_rfl) (fun _ _ _ h => h) (.inl ⟨by rfl, fun W hS => by go_simp⟩) hHeld ?_
  simp only [Act.put, List.setIfInBounds_toArray, List.set_cons_zero, List.set_cons_succ, List.getElem_toArray, List.getElem_cons_succ, List.getElem_cons_zero]
  refine wpAnyH_take (i := 5) (v := .pointer (some ⟨r, 0, none⟩)) rfl (by kernel_rfl) (by kernel_rfl) (by kernel_rfl) (fun _ _ _ h => h) (.inl ⟨by rfl, fun W hS => by go_simp⟩) hHeld ?_
  simp only [Act.put, List.setIfInBounds_toArray, List.set_cons_zero, List.set_cons_succ, List.getElem_toArray, List.getElem_cons_succ, List.getElem_cons_zero]
  refine wpAnyH_take (i := 6) (v := .string (str slotW)) rfl (by kernel_rfl) (by kernel_rfl) (by kernel_rfl) (fun _ _ _ h => h) (.inl ⟨by rfl, fun W hS => by have hc := (HC.out W hS).1; go_simp⟩) hHeld ?_
  simp only [Act.put, List.setIfInBounds_toArray, List.set_cons_zero, List.set_cons_succ, List.getElem_toArray, List.getElem_cons_succ, List.getElem_cons_zero]
  refine wpAnyH_take (i := 7) (v := .bool true) rfl (by kernel_rfl) (by kernel_rfl) (by kernel_rfl) (fun _ _ _ h => h) (.inl ⟨by rfl, fun W hS => by go_simp⟩) hHeld ?_
  simp only [Act.put, List.setIfInBounds_toArray, List.set_cons_zero, List.set_cons_succ, List.getElem_toArray, List.getElem_cons_succ, List.getElem_cons_zero]
  refine wpAnyH_take (i := 8) (v := .bool true) rfl (by kernel_rfl) (by kernel_rfl) (by kernel_rfl) (fun _ _ _ h => h) (.inl ⟨by rfl, fun W hS => by go_simp⟩) hHeld ?_
  simp only [Act.put, List.setIfInBounds_toArray, List.set_cons_zero, List.set_cons_succ, List.getElem_toArray, List.getElem_cons_succ, List.getElem_cons_zero]
  refine wpAnyH_take (i := 9) (v := .bool true) rfl (by kernel_rfl) (by kernel_rfl) (by kernel_rfl) (fun _ _ _ h => h) (.inl ⟨by rfl, fun W hS => by go_simp⟩) hHeld ?_
  simp only [Act.put, List.setIfInBounds_toArray, List.set_cons_zero, List.set_cons_succ, List.getElem_toArray, List.getElem_cons_succ, List.getElem_cons_zero]
  refine wpAnyH_take (i := 10) (v := .slice (some ⟨r, 0, none⟩) 3 c) rfl (by kernel_rfl) (by kernel_rfl) (by kernel_rfl) (fun _ _ _ h => h) (.inl ⟨by rfl, fun W hS => by go_simp⟩) hHeld ?_
  simp only [Act.put, List.setIfInBounds_toArray, List.set_cons_zero, List.set_cons_succ, List.getElem_toArray, List.getElem_cons_succ, List.getElem_cons_zero]
  refine wpAnyH_take (i := 11) (v := .pointer (some ⟨r, 1, none⟩)) rfl (by kernel_rfl) (by kernel_rfl) (by kernel_rfl) (fun _ _ _ h => h) (.inl ⟨by rfl, fun W hS => by go_simp⟩) hHeld ?_
  simp only [Act.put, List.setIfInBounds_toArray, List.set_cons_zero, List.set_cons_succ, List.getElem_toArray, List.getElem_cons_succ, List.getElem_cons_zero]
  refine wpAnyH_take (i := 12) (v := .string (str s1)) rfl (by kernel_rfl) (by kernel_rfl) (by kernel_rfl) (fun _ _ _ h => h) (.inl ⟨by rfl, fun W hS => by have hc := (HC.out W hS).2.1; go_simp⟩) hHeld ?_
  simp only [Act.put, List.setIfInBounds_toArray, List.set_cons_zero, List.set_cons_succ, List.getElem_toArray, List.getElem_cons_succ, List.getElem_cons_zero]
  refine wpAnyH_take (i := 13) (v := .pointer (some ⟨w.heap.size + 1, 0, none⟩)) rfl (by kernel_rfl) (by kernel_rfl) (by kernel_rfl) (fun _ _ _ h => h) (.inl ⟨by rfl, fun W hS => by go_simp⟩) hHeld ?_
  simp only [Act.put, List.setIfInBounds_toArray, List.set_cons_zero, List.set_cons_succ, List.getElem_toArray, List.getElem_cons_succ, List.getElem_cons_zero]
  refine wpAnyH_take (i := 14) (v := .slice (some ⟨w.heap.size + 1, 0, none⟩) 32 32) rfl (by kernel_rfl) (by kernel_rfl) (by kernel_rfl) (fun _ _ _ h => h) (.inl ⟨by rfl, fun W hS => by go_simp⟩) hHeld ?_
  simp only [Act.put, List.setIfInBounds_toArray, List.set_cons_zero, List.set_cons_succ, List.getElem_toArray, List.getElem_cons_succ, List.getElem_cons_zero]
  refine wpAnyH_ready (rs := [15]) (by kernel_rfl) (by simp) ?_
  refine AllReadyH.cons rfl (fun K hK => ?_) AllReadyH.nil
  go_simp
  go_wp2_with (go_at_call 92; refine (fixed92_no s1 (w.heap.size + 1) 0 32 _ hl1 (by omega) (fun W hW => hrm.out W (thn hHeld hW)) H1.out).mono ?_; rintro e w15 ⟨rfl, hb15⟩)
  refine hK.out _ _ (thn hHeld hb15) (fun hHeld => ?_)
  clear hK K
  refine wpAnyH_take (i := 16) (v := .bool false) rfl (by kernel_rfl) (by kernel_rfl) (by kernel_rfl) (fun _ _ _ h => h) (.inl ⟨by rfl, fun W hS => by go_simp⟩) hHeld ?_
  simp only [Act.put, List.setIfInBounds_toArray, List.set_cons_zero, List.set_cons_succ, List.getElem_toArray, List.getElem_cons_succ, List.getElem_cons_zero]
  refine wpAnyH_take (i := 17) (v := .bool false) rfl (by kernel_rfl) (by kernel_rfl) (by kernel_rfl) (fun _ _ _ h => h) (.inl ⟨by rfl, fun W hS => by go_simp⟩) hHeld ?_
  simp only [Act.put, List.setIfInBounds_toArray, List.set_cons_zero, List.set_cons_succ, List.getElem_toArray, List.getElem_cons_succ, List.getElem_cons_zero]
  refine wpAnyH_take (i := 18) (v := undef) rfl (by kernel_rfl) (by kernel_rfl) (by kernel_rfl) (fun _ _ _ h => h) (.inr ⟨by kernel_rfl, rfl⟩) hHeld ?_
  simp only [Act.put, List.setIfInBounds_toArray, List.set_cons_zero, List.set_cons_succ, List.getElem_toArray, List.getElem_cons_succ, List.getElem_cons_zero]
  refine wpAnyH_take (i := 19) (v := undef) rfl (by kernel_rfl) (by kernel_rfl) (by kernel_rfl) (fun _ _ _ h => h) (.inr ⟨by kernel_rfl, rfl⟩) hHeld ?_
  simp only [Act.put, List.setIfInBounds_toArray, List.set_cons_zero, List.set_cons_succ, List.getElem_toArray, List.getElem_cons_succ, List.getElem_cons_zero]
  refine wpAnyH_take (i := 20) (v := undef) rfl (by kernel_rfl) (by kernel_rfl) (by kernel_rfl) (fun _ _ _ h => h) (.inr ⟨by kernel_rfl, rfl⟩) hHeld ?_
  simp only [Act.put, List.setIfInBounds_toArray, List.set_cons_zero, List.set_cons_succ, List.getElem_toArray, List.getElem_cons_succ, List.getElem_cons_zero]
  refine wpAnyH_take (i := 21) (v := undef) rfl (by kernel_rfl) (by kernel_rfl) (by kernel_rfl) (fun _ _ _ h => h) (.inr ⟨by kernel_rfl, rfl⟩) hHeld ?_
  simp only [Act.put, List.setIfInBounds_toArray, List.set_cons_zero, List.set_cons_succ, List.getElem_toArray, List.getElem_cons_succ, List.getElem_cons_zero]
  refine wpAnyH_take (i := 22) (v := undef) rfl (by kernel_rfl) (by kernel_rfl) (by kernel_rfl) (fun _ _ _ h => h) (.inr ⟨by kernel_rfl, rfl⟩) hHeld ?_
  simp only [Act.put, List.setIfInBounds_toArray, List.set_cons_zero, List.set_cons_succ, List.getElem_toArray, List.getElem_cons_succ, List.getElem_cons_zero]
  refine wpAnyH_take (i := 23) (v := undef) rfl (by kernel_rfl) (by kernel_rfl) (by kernel_rfl) (fun _ _ _ h => h) (.inr ⟨by kernel_rfl, rfl⟩) hHeld ?_
  simp only [Act.put, List.setIfInBounds_toArray, List.set_cons_zero, List.set_cons_succ, List.getElem_toArray, List.getElem_cons_succ, List.getElem_cons_zero]
  refine wpAnyH_take (i := 24) (v := .bool false) rfl (by kernel_rfl) (by kernel_rfl) (by kernel_rfl) (fun _ _ _ h => h) (.inl ⟨by rfl, fun W hS => by go_simp⟩) hHeld ?_
  simp only [Act.put, List.setIfInBounds_toArray, List.set_cons_zero, List.set_cons_succ, List.getElem_toArray, List.getElem_cons_succ, List.getElem_cons_zero]
  refine wpAnyH_ready (rs := [25]) (by kernel_rfl) (by simp) ?_
  refine AllReadyH.cons rfl (fun K hK => ?_) AllReadyH.nil
  go_simp
  refine hK.out _ _ (hHeld) (fun hHeld => ?_)
  clear hK K
  refine wpAnyH_done (by kernel_rfl) ?_ _
  have hRR := HR.out.below hHeld (by rw [HZ.out]; omega)
  have HW := Lib.hid (HA.out.trans (hHeld.mono HA.out.size))
  have HB := Lib.hid (HX.out.below hHeld (by rw [HZ.out]; omega))
  have HR2 := Lib.hid hRR
  have FV : Hid ((zH : List UInt8 × List UInt8).1.length = 32 ∧ (zH : List UInt8 × List UInt8).2.length = 32) := by first | exact ⟨rfl, rfl⟩ | exact FX.out
  have HSZ : Hid ((hk zH).toArray.size = 64) := by rw [List.size_toArray, hk_length _ FV.out]; trivial
  have HZS : Hid ((hk zH).toArray.size = 64) := rfl
  clear hHeld
  go_wp2_with (first | (refine wpList_loadAgg rfl 95 (.tmp 4) rfl (w.heap.size + 1) 0 rfl _ (TL.out zH FV.out) (cellsAt_blk HB.out) ?_) | (refine wpList_storeAgg rfl rfl 95 (.tmp 2) (.tmp 31) rfl w.heap.size 0 rfl (hk zH).toArray rfl (TS.out zH FV.out) (HR2.out.room 0 _ (by rw [HSZ.out]; decide)) (hk_one _) ?_))
  have hfb := HR2.out.setCells (hk zH).toArray.toList 0 (by rw [Array.length_toList, HSZ.out]; decide)
  rw [ovw_all _ _ (by first | (rw [Array.length_toList, HSZ.out, HZS.out]; done) | (rw [Array.length_toList]))] at hfb
  exact bodyPost_ret (results_agg_tmp rfl _ _ w.heap.size (hk zH).toArray rfl (TS.out zH FV.out) (cellsAt_blk hfb)) rfl ⟨below_setCells HW.out _ _ _ (Nat.le_refl _), .inl ⟨HNO.out, _, by decide, hk_one _, rfl⟩⟩

set_option maxRecDepth 100000 in
set_option maxHeartbeats 4000000 in
theorem slotted_d (s0 s1 s2 : List UInt8) (r c : Nat) (w : World) (hl1 : s1.length ≤ 100000000) (hl2 : s2.length ≤ 100000000) (hr : r < w.heap.size) (hws : W3 r s0 s1 s2 w) (h0 : s0 = slotW) (h1 : (undigL s1).2 = true ∧ (undigL s1).1.length = 32) (h2 : ¬ ((undigL s2).2 = true ∧ (undigL s2).1.length = 32)) :
    Calls Tryd.prog 60 #[.slice (some ⟨r, 0, none⟩) 3 c] w (SlEnd w [s0, s1, s2]) := by
  have TL : Hid (∀ h : List UInt8 × List UInt8, h.1.length = 32 ∧ h.2.length = 32 → AggT Tryd.prog 95 (hk h).length) := fun h hh => by rw [hk_length h hh]; exact Tryd.agg95
  have TS : Hid (∀ h : List UInt8 × List UInt8, h.1.length = 32 ∧ h.2.length = 32 → AggT Tryd.prog 95 (hk h).toArray.size) := fun h hh => by rw [List.size_toArray, hk_length h hh]; exact Tryd.agg95
  have N0 := Blk.new w 95 (hk zH).toArray
  have N1 := Blk.new (w.alloc (.cells (hk zH).toArray 95)) 95 (hk zH).toArray
  rw [World.size_alloc] at N1
  obtain ⟨wA, hwA⟩ : ∃ wA, wA = (w.alloc (.cells (hk zH).toArray 95)).alloc (.cells (hk zH).toArray 95) := ⟨_, rfl⟩
  have HA : Hid (Below w.heap.size w wA) := by rw [hwA]; exact al (al (Below.refl _ _) _) _
  have HZ : Hid (wA.heap.size = w.heap.size + 2) := by rw [hwA, World.size_alloc, World.size_alloc]; trivial
  have HR : Hid (Blk wA w.heap.size 95 (hk zH).toArray) := by rw [hwA]; exact N0.alloc _
  have HX : Hid (Blk wA (w.heap.size + 1) 95 (hk zH).toArray) := by rw [hwA]; exact N1
  have HC : Hid (∀ W, Below wA.heap.size wA W → W3 r s0 s1 s2 W) := fun W hW => hws.below (HA.out.trans (hW.mono HA.out.size)) hr
  have hrr := hr
  have hrm : Hid (∀ W, Below wA.heap.size wA W → RoomAt W (w.heap.size + 1) 0 32) := fun W hW => (HX.out.below hW (by rw [HZ.out]; omega)).room 0 32 (by decide)
  clear N0 N1 hws hr
  subst h0
  have hcmp : ((str slotW).toList == [115, 108, 111, 116]) = true := by rw [str_list]; rfl
  have hcmp2 : (str slotW).toList = [115, 108, 111, 116] := by rw [str_list]; rfl
  have HNO := Lib.hid (show slotL [slotW, s1, s2] = none by unfold slotL; rw [if_neg (fun h => h2 h.2.2.2)])
  have H1 := Lib.hid h1
  have H2 := Lib.hid h2
  clear h1 h2
  go_enter Tryd.func60, Tryd.ntmps60
  go_upto_region 2 with fail
  rw [← zH_zero, ← hwA]
  clear hwA
  refine wp_region_held_drew (S := fun W => W3 r slotW s1 s2 W) (by kernel_rfl) (HC.out _ (drawn_below' _ _ 1 (Nat.le_refl _))) (fun hHeld => ?_)
  refine wpAnyH_take (i := 0) (v := .slice (some ⟨r, 0, none⟩) 3 c) rfl (by kernel_rfl) (by kernel_rfl) (by kernel_rfl) (fun _ _ _ h => h) (.inl ⟨by rfl, fun W hS => by go_simp⟩) hHeld ?_
  simp only [Act.put, List.setIfInBounds_toArray, List.set_cons_zero, List.set_cons_succ, List.getElem_toArray, List.getElem_cons_succ, List.getElem_cons_zero]
  refine wpAnyH_take (i := 1) (v := .int .i64 3) rfl (by kernel_rfl) (by kernel_rfl) (by kernel_rfl) (fun _ _ _ h => h) (.inl ⟨by rfl, fun W hS => by go_simp⟩) hHeld ?_
  simp only [Act.put, List.setIfInBounds_toArray, List.set_cons_zero, List.set_cons_succ, List.getElem_toArray, List.getElem_cons_succ, List.getElem_cons_zero]
  refine wpAnyH_take (i := 2) (v := .bool true) rfl (by kernel_rfl) (by kernel_rfl) (by kernel_rfl) (fun _ _ _ h => h) (.inl ⟨by rfl, fun W hS => by go_simp⟩) hHeld ?_
  simp only [Act.put, List.setIfInBounds_toArray, List.set_cons_zero, List.set_cons_succ, List.getElem_toArray, List.getElem_cons_succ, List.getElem_cons_zero]
  refine wpAnyH_take (i := 3) (v := .bool true) rfl (by kernel_rfl) (by kernel_rfl) (by kernel_rfl) (fun _ _ _ h => h) (.inl ⟨by rfl, fun W hS => by go_simp⟩) hHeld ?_
  simp only [Act.put, List.setIfInBounds_toArray, List.set_cons_zero, List.set_cons_succ, List.getElem_toArray, List.getElem_cons_succ, List.getElem_cons_zero]
  refine wpAnyH_take (i := 4) (v := .slice (some ⟨r, 0, none⟩) 3 c) rfl (by kernel_rfl) (by kernel_rfl) (by kernel_rfl) (fun _ _ _ h => h) (.inl ⟨by rfl, fun W hS => by go_simp⟩) hHeld ?_
  simp only [Act.put, List.setIfInBounds_toArray, List.set_cons_zero, List.set_cons_succ, List.getElem_toArray, List.getElem_cons_succ, List.getElem_cons_zero]
  refine wpAnyH_take (i := 5) (v := .pointer (some ⟨r, 0, none⟩)) rfl (by kernel_rfl) (by kernel_rfl) (by kernel_rfl) (fun _ _ _ h => h) (.inl ⟨by rfl, fun W hS => by go_simp⟩) hHeld ?_
  simp only [Act.put, List.setIfInBounds_toArray, List.set_cons_zero, List.set_cons_succ, List.getElem_toArray, List.getElem_cons_succ, List.getElem_cons_zero]
  refine wpAnyH_take (i := 6) (v := .string (str slotW)) rfl (by kernel_rfl) (by kernel_rfl) (by kernel_rfl) (fun _ _ _ h => h) (.inl ⟨by rfl, fun W hS => by have hc := hS.1; go_simp⟩) hHeld ?_
  simp only [Act.put, List.setIfInBounds_toArray, List.set_cons_zero, List.set_cons_succ, List.getElem_toArray, List.getElem_cons_succ, List.getElem_cons_zero]
  refine wpAnyH_take (i := 7) (v := .bool true) rfl (by kernel_rfl) (by kernel_rfl) (by kernel_rfl) (fun _ _ _ h => h) (.inl ⟨by rfl, fun W hS => by go_simp⟩) hHeld ?_
  simp only [Act.put, List.setIfInBounds_toArray, List.set_cons_zero, List.set_cons_succ, List.getElem_toArray, List.getElem_cons_succ, List.getElem_cons_zero]
  refine wpAnyH_take (i := 8) (v := .bool true) rfl (by kernel_rfl) (by kernel_rfl) (by kernel_rfl) (fun _ _ _ h => h) (.inl ⟨by rfl, fun W hS => by go_simp⟩) hHeld ?_
  simp only [Act.put, List.setIfInBounds_toArray, List.set_cons_zero, List.set_cons_succ, List.getElem_toArray, List.getElem_cons_succ, List.getElem_cons_zero]
  refine wpAnyH_take (i := 9) (v := .bool true) rfl (by kernel_rfl) (by kernel_rfl) (by kernel_rfl) (fun _ _ _ h => h) (.inl ⟨by rfl, fun W hS => by go_simp⟩) hHeld ?_
  simp only [Act.put, List.setIfInBounds_toArray, List.set_cons_zero, List.set_cons_succ, List.getElem_toArray, List.getElem_cons_succ, List.getElem_cons_zero]
  refine wpAnyH_take (i := 10) (v := .slice (some ⟨r, 0, none⟩) 3 c) rfl (by kernel_rfl) (by kernel_rfl) (by kernel_rfl) (fun _ _ _ h => h) (.inl ⟨by rfl, fun W hS => by go_simp⟩) hHeld ?_
  simp only [Act.put, List.setIfInBounds_toArray, List.set_cons_zero, List.set_cons_succ, List.getElem_toArray, List.getElem_cons_succ, List.getElem_cons_zero]
  refine wpAnyH_take (i := 11) (v := .pointer (some ⟨r, 1, none⟩)) rfl (by kernel_rfl) (by kernel_rfl) (by kernel_rfl) (fun _ _ _ h => h) (.inl ⟨by rfl, fun W hS => by go_simp⟩) hHeld ?_
  simp only [Act.put, List.setIfInBounds_toArray, List.set_cons_zero, List.set_cons_succ, List.getElem_toArray, List.getElem_cons_succ, List.getElem_cons_zero]
  refine wpAnyH_take (i := 12) (v := .string (str s1)) rfl (by kernel_rfl) (by kernel_rfl) (by kernel_rfl) (fun _ _ _ h => h) (.inl ⟨by rfl, fun W hS => by have hc := hS.2.1; go_simp⟩) hHeld ?_
  simp only [Act.put, List.setIfInBounds_toArray, List.set_cons_zero, List.set_cons_succ, List.getElem_toArray, List.getElem_cons_succ, List.getElem_cons_zero]
  refine wpAnyH_take (i := 13) (v := .pointer (some ⟨w.heap.size + 1, 0, none⟩)) rfl (by kernel_rfl) (by kernel_rfl) (by kernel_rfl) (fun _ _ _ h => h) (.inl ⟨by rfl, fun W hS => by go_simp⟩) hHeld ?_
  simp only [Act.put, List.setIfInBounds_toArray, List.set_cons_zero, List.set_cons_succ, List.getElem_toArray, List.getElem_cons_succ, List.getElem_cons_zero]
  refine wpAnyH_take (i := 14) (v := .slice (some ⟨w.heap.size + 1, 0, none⟩) 32 32) rfl (by kernel_rfl) (by kernel_rfl) (by kernel_rfl) (fun _ _ _ h => h) (.inl ⟨by rfl, fun W hS => by go_simp⟩) hHeld ?_
  simp only [Act.put, List.setIfInBounds_toArray, List.set_cons_zero, List.set_cons_succ, List.getElem_toArray, List.getElem_cons_succ, List.getElem_cons_zero]
  refine wpAnyH_ready (rs := [15]) (by kernel_rfl) (by simp) ?_
  refine AllReadyH.cons rfl (fun K hK => ?_) AllReadyH.nil
  go_simp
  go_wp2_with (go_at_call 92; refine (fixed92_ok s1 (w.heap.size + 1) 0 32 _ hl1 (by omega) (fun W hW => hrm.out W (thn (drawn_below' _ _ 1 (Nat.le_refl _)) hW)) H1.out).mono ?_; rintro e w15' ⟨rfl, w15, hb15, rfl⟩)
  refine hK.out _ _ ((HC.out w15 (thn (drawn_below' _ _ 1 (Nat.le_refl _)) hb15)).far (by omega) _ _) (fun hHeld => ?_)
  clear hK K
  have hb15A : Below wA.heap.size wA w15 := thn (drawn_below' _ _ 1 (Nat.le_refl _)) hb15
  have hX15 := (HX.out.below hb15A (by rw [HZ.out]; omega)).setCells (bvs (undigL s1).1) 0 (by rw [bvs_length, H1.out.2]; decide)
  rw [ovw_hkey zH _ rfl H1.out.2] at hX15
  have HX15 := Lib.hid hX15
  have HR15 := Lib.hid ((HR.out.below hb15A (by rw [HZ.out]; omega)).farCells (w.heap.size + 1) 0 (bvs (undigL s1).1) (by omega))
  have HW15 := Lib.hid (below_setCells (HA.out.trans (hb15A.mono HA.out.size)) (w.heap.size + 1) 0 (bvs (undigL s1).1) (by omega))
  clear hX15 hb15 hb15A
  refine wpAnyH_take (i := 16) (v := .bool true) rfl (by kernel_rfl) (by kernel_rfl) (by kernel_rfl) (fun _ _ _ h => h) (.inl ⟨by rfl, fun W hS => by go_simp⟩) hHeld ?_
  simp only [Act.put, List.setIfInBounds_toArray, List.set_cons_zero, List.set_cons_succ, List.getElem_toArray, List.getElem_cons_succ, List.getElem_cons_zero]
  refine wpAnyH_take (i := 17) (v := .bool true) rfl (by kernel_rfl) (by kernel_rfl) (by kernel_rfl) (fun _ _ _ h => h) (.inl ⟨by rfl, fun W hS => by go_simp⟩) hHeld ?_
  simp only [Act.put, List.setIfInBounds_toArray, List.set_cons_zero, List.set_cons_succ, List.getElem_toArray, List.getElem_cons_succ, List.getElem_cons_zero]
  refine wpAnyH_take (i := 18) (v := .slice (some ⟨r, 0, none⟩) 3 c) rfl (by kernel_rfl) (by kernel_rfl) (by kernel_rfl) (fun _ _ _ h => h) (.inl ⟨by rfl, fun W hS => by go_simp⟩) hHeld ?_
  simp only [Act.put, List.setIfInBounds_toArray, List.set_cons_zero, List.set_cons_succ, List.getElem_toArray, List.getElem_cons_succ, List.getElem_cons_zero]
  refine wpAnyH_take (i := 19) (v := .pointer (some ⟨r, 2, none⟩)) rfl (by kernel_rfl) (by kernel_rfl) (by kernel_rfl) (fun _ _ _ h => h) (.inl ⟨by rfl, fun W hS => by go_simp⟩) hHeld ?_
  simp only [Act.put, List.setIfInBounds_toArray, List.set_cons_zero, List.set_cons_succ, List.getElem_toArray, List.getElem_cons_succ, List.getElem_cons_zero]
  refine wpAnyH_take (i := 20) (v := .string (str s2)) rfl (by kernel_rfl) (by kernel_rfl) (by kernel_rfl) (fun _ _ _ h => h) (.inl ⟨by rfl, fun W hS => by have hc := hS.2.2; go_simp⟩) hHeld ?_
  simp only [Act.put, List.setIfInBounds_toArray, List.set_cons_zero, List.set_cons_succ, List.getElem_toArray, List.getElem_cons_succ, List.getElem_cons_zero]
  refine wpAnyH_take (i := 21) (v := .pointer (some ⟨w.heap.size + 1, 32, none⟩)) rfl (by kernel_rfl) (by kernel_rfl) (by kernel_rfl) (fun _ _ _ h => h) (.inl ⟨by rfl, fun W hS => by go_simp⟩) hHeld ?_
  simp only [Act.put, List.setIfInBounds_toArray, List.set_cons_zero, List.set_cons_succ, List.getElem_toArray, List.getElem_cons_succ, List.getElem_cons_zero]
  refine wpAnyH_take (i := 22) (v := .slice (some ⟨w.heap.size + 1, 32, none⟩) 32 32) rfl (by kernel_rfl) (by kernel_rfl) (by kernel_rfl) (fun _ _ _ h => h) (.inl ⟨by rfl, fun W hS => by go_simp⟩) hHeld ?_
  simp only [Act.put, List.setIfInBounds_toArray, List.set_cons_zero, List.set_cons_succ, List.getElem_toArray, List.getElem_cons_succ, List.getElem_cons_zero]
  refine wpAnyH_ready (rs := [23]) (by kernel_rfl) (by simp) ?_
  refine AllReadyH.cons rfl (fun K hK => ?_) AllReadyH.nil
  go_simp
  go_wp2_with (go_at_call 92; refine (fixed92_no s2 (w.heap.size + 1) 32 32 _ hl2 (by omega) (fun W hW => (HX15.out.below hW HX15.out.lt).room 32 32 (by rw [List.size_toArray, hk_length _ ⟨H1.out.2, rfl⟩]; decide)) H2.out).mono ?_; rintro e w23 ⟨rfl, hb23⟩)
  refine hK.out _ _ (hHeld.cells hb23) (fun hHeld => ?_)
  clear hK K
  refine wpAnyH_take (i := 24) (v := .bool false) rfl (by kernel_rfl) (by kernel_rfl) (by kernel_rfl) (fun _ _ _ h => h) (.inl ⟨by rfl, fun W hS => by go_simp⟩) hHeld ?_
  simp only [Act.put, List.setIfInBounds_toArray, List.set_cons_zero, List.set_cons_succ, List.getElem_toArray, List.getElem_cons_succ, List.getElem_cons_zero]
  refine wpAnyH_ready (rs := [25]) (by kernel_rfl) (by simp) ?_
  refine AllReadyH.cons rfl (fun K hK => ?_) AllReadyH.nil
  go_simp
  refine hK.out _ _ (hHeld) (fun hHeld => ?_)
  clear hK K
  refine wpAnyH_done (by kernel_rfl) ?_ _
  have FX : Hid ((undigL s1).1.length = 32 ∧ z32w.length = 32) := ⟨H1.out.2, rfl⟩
  have hRR := HR15.out.below hb23 HR15.out.lt
  have HW := Lib.hid (thn HW15.out hb23)
  have HB := Lib.hid (HX15.out.below hb23 HX15.out.lt)
  have HR2 := Lib.hid hRR
  have FV : Hid ((((undigL s1).1, z32w) : List UInt8 × List UInt8).1.length = 32 ∧ (((undigL s1).1, z32w) : List UInt8 × List UInt8).2.length = 32) := by first | exact ⟨rfl, rfl⟩ | exact FX.out
  have HSZ : Hid ((hk ((undigL s1).1, z32w)).toArray.size = 64) := by rw [List.size_toArray, hk_length _ FV.out]; trivial
  have HZS : Hid ((hk zH).toArray.size = 64) := rfl
  clear hHeld
  go_wp2_with (first | (refine wpList_loadAgg rfl 95 (.tmp 4) rfl (w.heap.size + 1) 0 rfl _ (TL.out ((undigL s1).1, z32w) FV.out) (cellsAt_blk HB.out) ?_) | (refine wpList_storeAgg rfl rfl 95 (.tmp 2) (.tmp 31) rfl w.heap.size 0 rfl (hk ((undigL s1).1, z32w)).toArray rfl (TS.out ((undigL s1).1, z32w) FV.out) (HR2.out.room 0 _ (by rw [HSZ.out]; decide)) (hk_one _) ?_))
  have hfb := HR2.out.setCells (hk ((undigL s1).1, z32w)).toArray.toList 0 (by rw [Array.length_toList, HSZ.out]; decide)
  rw [ovw_all _ _ (by first | (rw [Array.length_toList, HSZ.out, HZS.out]; done) | (rw [Array.length_toList]))] at hfb
  exact bodyPost_ret (results_agg_tmp rfl _ _ w.heap.size (hk ((undigL s1).1, z32w)).toArray rfl (TS.out ((undigL s1).1, z32w) FV.out) (cellsAt_blk hfb)) rfl ⟨below_setCells HW.out _ _ _ (Nat.le_refl _), .inl ⟨HNO.out, _, HSZ.out, hk_one _, rfl⟩⟩

set_option maxRecDepth 100000 in
set_option maxHeartbeats 4000000 in
theorem slotted_e (s0 s1 s2 : List UInt8) (r c : Nat) (w : World) (hl1 : s1.length ≤ 100000000) (hl2 : s2.length ≤ 100000000) (hr : r < w.heap.size) (hws : W3 r s0 s1 s2 w) (h0 : s0 = slotW) (h1 : (undigL s1).2 = true ∧ (undigL s1).1.length = 32) (h2 : (undigL s2).2 = true ∧ (undigL s2).1.length = 32) :
    Calls Tryd.prog 60 #[.slice (some ⟨r, 0, none⟩) 3 c] w (SlEnd w [s0, s1, s2]) := by
  have TL : Hid (∀ h : List UInt8 × List UInt8, h.1.length = 32 ∧ h.2.length = 32 → AggT Tryd.prog 95 (hk h).length) := fun h hh => by rw [hk_length h hh]; exact Tryd.agg95
  have TS : Hid (∀ h : List UInt8 × List UInt8, h.1.length = 32 ∧ h.2.length = 32 → AggT Tryd.prog 95 (hk h).toArray.size) := fun h hh => by rw [List.size_toArray, hk_length h hh]; exact Tryd.agg95
  have N0 := Blk.new w 95 (hk zH).toArray
  have N1 := Blk.new (w.alloc (.cells (hk zH).toArray 95)) 95 (hk zH).toArray
  rw [World.size_alloc] at N1
  obtain ⟨wA, hwA⟩ : ∃ wA, wA = (w.alloc (.cells (hk zH).toArray 95)).alloc (.cells (hk zH).toArray 95) := ⟨_, rfl⟩
  have HA : Hid (Below w.heap.size w wA) := by rw [hwA]; exact al (al (Below.refl _ _) _) _
  have HZ : Hid (wA.heap.size = w.heap.size + 2) := by rw [hwA, World.size_alloc, World.size_alloc]; trivial
  have HR : Hid (Blk wA w.heap.size 95 (hk zH).toArray) := by rw [hwA]; exact N0.alloc _
  have HX : Hid (Blk wA (w.heap.size + 1) 95 (hk zH).toArray) := by rw [hwA]; exact N1
  have HC : Hid (∀ W, Below wA.heap.size wA W → W3 r s0 s1 s2 W) := fun W hW => hws.below (HA.out.trans (hW.mono HA.out.size)) hr
  have hrr := hr
  have hrm : Hid (∀ W, Below wA.heap.size wA W → RoomAt W (w.heap.size + 1) 0 32) := fun W hW => (HX.out.below hW (by rw [HZ.out]; omega)).room 0 32 (by decide)
  clear N0 N1 hws hr
  subst h0
  have hcmp : ((str slotW).toList == [115, 108, 111, 116]) = true := by rw [str_list]; rfl
  have hcmp2 : (str slotW).toList = [115, 108, 111, 116] := by rw [str_list]; rfl
  have HYES := Lib.hid (show slotL [slotW, s1, s2] = some ((undigL s1).1, (undigL s2).1) by unfold slotL; rw [if_pos ⟨rfl, rfl, h1, h2⟩]; rfl)
  have H1 := Lib.hid h1
  have H2 := Lib.hid h2
  clear h1 h2
  go_enter Tryd.func60, Tryd.ntmps60
  go_upto_region 2 with fail
  rw [← zH_zero, ← hwA]
  clear hwA
  refine wp_region_held_drew (S := fun W => W3 r slotW s1 s2 W) (by kernel_rfl) (HC.out _ (drawn_below' _ _ 1 (Nat.le_refl _))) (fun hHeld => ?_)
  refine wpAnyH_take (i := 0) (v := .slice (some ⟨r, 0, none⟩) 3 c) rfl (by kernel_rfl) (by kernel_rfl) (by kernel_rfl) (fun _ _ _ h => h) (.inl ⟨by rfl, fun W hS => by go_simp⟩) hHeld ?_
  simp only [Act.put, List.setIfInBounds_toArray, List.set_cons_zero, List.set_cons_succ, List.getElem_toArray, List.getElem_cons_succ, List.getElem_cons_zero]
  refine wpAnyH_take (i := 1) (v := .int .i64 3) rfl (by kernel_rfl) (by kernel_rfl) (by kernel_rfl) (fun _ _ _ h => h) (.inl ⟨by rfl, fun W hS => by go_simp⟩) hHeld ?_
  simp only [Act.put, List.setIfInBounds_toArray, List.set_cons_zero, List.set_cons_succ, List.getElem_toArray, List.getElem_cons_succ, List.getElem_cons_zero]
  refine wpAnyH_take (i := 2) (v := .bool true) rfl (by kernel_rfl) (by kernel_rfl) (by kernel_rfl) (fun _ _ _ h => h) (.inl ⟨by rfl, fun W hS => by go_simp⟩) hHeld ?_
  simp only [Act.put, List.setIfInBounds_toArray, List.set_cons_zero, List.set_cons_succ, List.getElem_toArray, List.getElem_cons_succ, List.getElem_cons_zero]
  refine wpAnyH_take (i := 3) (v := .bool true) rfl (by kernel_rfl) (by kernel_rfl) (by kernel_rfl) (fun _ _ _ h => h) (.inl ⟨by rfl, fun W hS => by go_simp⟩) hHeld ?_
  simp only [Act.put, List.setIfInBounds_toArray, List.set_cons_zero, List.set_cons_succ, List.getElem_toArray, List.getElem_cons_succ, List.getElem_cons_zero]
  refine wpAnyH_take (i := 4) (v := .slice (some ⟨r, 0, none⟩) 3 c) rfl (by kernel_rfl) (by kernel_rfl) (by kernel_rfl) (fun _ _ _ h => h) (.inl ⟨by rfl, fun W hS => by go_simp⟩) hHeld ?_
  simp only [Act.put, List.setIfInBounds_toArray, List.set_cons_zero, List.set_cons_succ, List.getElem_toArray, List.getElem_cons_succ, List.getElem_cons_zero]
  refine wpAnyH_take (i := 5) (v := .pointer (some ⟨r, 0, none⟩)) rfl (by kernel_rfl) (by kernel_rfl) (by kernel_rfl) (fun _ _ _ h => h) (.inl ⟨by rfl, fun W hS => by go_simp⟩) hHeld ?_
  simp only [Act.put, List.setIfInBounds_toArray, List.set_cons_zero, List.set_cons_succ, List.getElem_toArray, List.getElem_cons_succ, List.getElem_cons_zero]
  refine wpAnyH_take (i := 6) (v := .string (str slotW)) rfl (by kernel_rfl) (by kernel_rfl) (by kernel_rfl) (fun _ _ _ h => h) (.inl ⟨by rfl, fun W hS => by have hc := hS.1; go_simp⟩) hHeld ?_
  simp only [Act.put, List.setIfInBounds_toArray, List.set_cons_zero, List.set_cons_succ, List.getElem_toArray, List.getElem_cons_succ, List.getElem_cons_zero]
  refine wpAnyH_take (i := 7) (v := .bool true) rfl (by kernel_rfl) (by kernel_rfl) (by kernel_rfl) (fun _ _ _ h => h) (.inl ⟨by rfl, fun W hS => by go_simp⟩) hHeld ?_
  simp only [Act.put, List.setIfInBounds_toArray, List.set_cons_zero, List.set_cons_succ, List.getElem_toArray, List.getElem_cons_succ, List.getElem_cons_zero]
  refine wpAnyH_take (i := 8) (v := .bool true) rfl (by kernel_rfl) (by kernel_rfl) (by kernel_rfl) (fun _ _ _ h => h) (.inl ⟨by rfl, fun W hS => by go_simp⟩) hHeld ?_
  simp only [Act.put, List.setIfInBounds_toArray, List.set_cons_zero, List.set_cons_succ, List.getElem_toArray, List.getElem_cons_succ, List.getElem_cons_zero]
  refine wpAnyH_take (i := 9) (v := .bool true) rfl (by kernel_rfl) (by kernel_rfl) (by kernel_rfl) (fun _ _ _ h => h) (.inl ⟨by rfl, fun W hS => by go_simp⟩) hHeld ?_
  simp only [Act.put, List.setIfInBounds_toArray, List.set_cons_zero, List.set_cons_succ, List.getElem_toArray, List.getElem_cons_succ, List.getElem_cons_zero]
  refine wpAnyH_take (i := 10) (v := .slice (some ⟨r, 0, none⟩) 3 c) rfl (by kernel_rfl) (by kernel_rfl) (by kernel_rfl) (fun _ _ _ h => h) (.inl ⟨by rfl, fun W hS => by go_simp⟩) hHeld ?_
  simp only [Act.put, List.setIfInBounds_toArray, List.set_cons_zero, List.set_cons_succ, List.getElem_toArray, List.getElem_cons_succ, List.getElem_cons_zero]
  refine wpAnyH_take (i := 11) (v := .pointer (some ⟨r, 1, none⟩)) rfl (by kernel_rfl) (by kernel_rfl) (by kernel_rfl) (fun _ _ _ h => h) (.inl ⟨by rfl, fun W hS => by go_simp⟩) hHeld ?_
  simp only [Act.put, List.setIfInBounds_toArray, List.set_cons_zero, List.set_cons_succ, List.getElem_toArray, List.getElem_cons_succ, List.getElem_cons_zero]
  refine wpAnyH_take (i := 12) (v := .string (str s1)) rfl (by kernel_rfl) (by kernel_rfl) (by kernel_rfl) (fun _ _ _ h => h) (.inl ⟨by rfl, fun W hS => by have hc := hS.2.1; go_simp⟩) hHeld ?_
  simp only [Act.put, List.setIfInBounds_toArray, List.set_cons_zero, List.set_cons_succ, List.getElem_toArray, List.getElem_cons_succ, List.getElem_cons_zero]
  refine wpAnyH_take (i := 13) (v := .pointer (some ⟨w.heap.size + 1, 0, none⟩)) rfl (by kernel_rfl) (by kernel_rfl) (by kernel_rfl) (fun _ _ _ h => h) (.inl ⟨by rfl, fun W hS => by go_simp⟩) hHeld ?_
  simp only [Act.put, List.setIfInBounds_toArray, List.set_cons_zero, List.set_cons_succ, List.getElem_toArray, List.getElem_cons_succ, List.getElem_cons_zero]
  refine wpAnyH_take (i := 14) (v := .slice (some ⟨w.heap.size + 1, 0, none⟩) 32 32) rfl (by kernel_rfl) (by kernel_rfl) (by kernel_rfl) (fun _ _ _ h => h) (.inl ⟨by rfl, fun W hS => by go_simp⟩) hHeld ?_
  simp only [Act.put, List.setIfInBounds_toArray, List.set_cons_zero, List.set_cons_succ, List.getElem_toArray, List.getElem_cons_succ, List.getElem_cons_zero]
  refine wpAnyH_ready (rs := [15]) (by kernel_rfl) (by simp) ?_
  refine AllReadyH.cons rfl (fun K hK => ?_) AllReadyH.nil
  go_simp
  go_wp2_with (go_at_call 92; refine (fixed92_ok s1 (w.heap.size + 1) 0 32 _ hl1 (by omega) (fun W hW => hrm.out W (thn (drawn_below' _ _ 1 (Nat.le_refl _)) hW)) H1.out).mono ?_; rintro e w15' ⟨rfl, w15, hb15, rfl⟩)
  refine hK.out _ _ ((HC.out w15 (thn (drawn_below' _ _ 1 (Nat.le_refl _)) hb15)).far (by omega) _ _) (fun hHeld => ?_)
  clear hK K
  have hb15A : Below wA.heap.size wA w15 := thn (drawn_below' _ _ 1 (Nat.le_refl _)) hb15
  have hX15 := (HX.out.below hb15A (by rw [HZ.out]; omega)).setCells (bvs (undigL s1).1) 0 (by rw [bvs_length, H1.out.2]; decide)
  rw [ovw_hkey zH _ rfl H1.out.2] at hX15
  have HX15 := Lib.hid hX15
  have HR15 := Lib.hid ((HR.out.below hb15A (by rw [HZ.out]; omega)).farCells (w.heap.size + 1) 0 (bvs (undigL s1).1) (by omega))
  have HW15 := Lib.hid (below_setCells (HA.out.trans (hb15A.mono HA.out.size)) (w.heap.size + 1) 0 (bvs (undigL s1).1) (by omega))
  clear hX15 hb15 hb15A
  refine wpAnyH_take (i := 16) (v := .bool true) rfl (by kernel_rfl) (by kernel_rfl) (by kernel_rfl) (fun _ _ _ h => h) (.inl ⟨by rfl, fun W hS => by go_simp⟩) hHeld ?_
  simp only [Act.put, List.setIfInBounds_toArray, List.set_cons_zero, List.set_cons_succ, List.getElem_toArray, List.getElem_cons_succ, List.getElem_cons_zero]
  refine wpAnyH_take (i := 17) (v := .bool true) rfl (by kernel_rfl) (by kernel_rfl) (by kernel_rfl) (fun _ _ _ h => h) (.inl ⟨by rfl, fun W hS => by go_simp⟩) hHeld ?_
  simp only [Act.put, List.setIfInBounds_toArray, List.set_cons_zero, List.set_cons_succ, List.getElem_toArray, List.getElem_cons_succ, List.getElem_cons_zero]
  refine wpAnyH_take (i := 18) (v := .slice (some ⟨r, 0, none⟩) 3 c) rfl (by kernel_rfl) (by kernel_rfl) (by kernel_rfl) (fun _ _ _ h => h) (.inl ⟨by rfl, fun W hS => by go_simp⟩) hHeld ?_
  simp only [Act.put, List.setIfInBounds_toArray, List.set_cons_zero, List.set_cons_succ, List.getElem_toArray, List.getElem_cons_succ, List.getElem_cons_zero]
  refine wpAnyH_take (i := 19) (v := .pointer (some ⟨r, 2, none⟩)) rfl (by kernel_rfl) (by kernel_rfl) (by kernel_rfl) (fun _ _ _ h => h) (.inl ⟨by rfl, fun W hS => by go_simp⟩) hHeld ?_
  simp only [Act.put, List.setIfInBounds_toArray, List.set_cons_zero, List.set_cons_succ, List.getElem_toArray, List.getElem_cons_succ, List.getElem_cons_zero]
  refine wpAnyH_take (i := 20) (v := .string (str s2)) rfl (by kernel_rfl) (by kernel_rfl) (by kernel_rfl) (fun _ _ _ h => h) (.inl ⟨by rfl, fun W hS => by have hc := hS.2.2; go_simp⟩) hHeld ?_
  simp only [Act.put, List.setIfInBounds_toArray, List.set_cons_zero, List.set_cons_succ, List.getElem_toArray, List.getElem_cons_succ, List.getElem_cons_zero]
  refine wpAnyH_take (i := 21) (v := .pointer (some ⟨w.heap.size + 1, 32, none⟩)) rfl (by kernel_rfl) (by kernel_rfl) (by kernel_rfl) (fun _ _ _ h => h) (.inl ⟨by rfl, fun W hS => by go_simp⟩) hHeld ?_
  simp only [Act.put, List.setIfInBounds_toArray, List.set_cons_zero, List.set_cons_succ, List.getElem_toArray, List.getElem_cons_succ, List.getElem_cons_zero]
  refine wpAnyH_take (i := 22) (v := .slice (some ⟨w.heap.size + 1, 32, none⟩) 32 32) rfl (by kernel_rfl) (by kernel_rfl) (by kernel_rfl) (fun _ _ _ h => h) (.inl ⟨by rfl, fun W hS => by go_simp⟩) hHeld ?_
  simp only [Act.put, List.setIfInBounds_toArray, List.set_cons_zero, List.set_cons_succ, List.getElem_toArray, List.getElem_cons_succ, List.getElem_cons_zero]
  refine wpAnyH_ready (rs := [23]) (by kernel_rfl) (by simp) ?_
  refine AllReadyH.cons rfl (fun K hK => ?_) AllReadyH.nil
  go_simp
  go_wp2_with (go_at_call 92; refine (fixed92_ok s2 (w.heap.size + 1) 32 32 _ hl2 (by omega) (fun W hW => (HX15.out.below hW HX15.out.lt).room 32 32 (by rw [List.size_toArray, hk_length _ ⟨H1.out.2, rfl⟩]; decide)) H2.out).mono ?_; rintro e w23' ⟨rfl, w23, hb23, rfl⟩)
  refine hK.out _ _ ((hHeld.cells hb23).far (by omega) _ _) (fun hHeld => ?_)
  clear hK K
  refine wpAnyH_take (i := 24) (v := .bool true) rfl (by kernel_rfl) (by kernel_rfl) (by kernel_rfl) (fun _ _ _ h => h) (.inl ⟨by rfl, fun W hS => by go_simp⟩) hHeld ?_
  simp only [Act.put, List.setIfInBounds_toArray, List.set_cons_zero, List.set_cons_succ, List.getElem_toArray, List.getElem_cons_succ, List.getElem_cons_zero]
  refine wpAnyH_ready (rs := [25]) (by kernel_rfl) (by simp) ?_
  refine AllReadyH.cons rfl (fun K hK => ?_) AllReadyH.nil
  go_simp
  refine hK.out _ _ (hHeld) (fun hHeld => ?_)
  clear hK K
  refine wpAnyH_done (by kernel_rfl) ?_ _
  have FX : Hid ((undigL s1).1.length = 32 ∧ (undigL s2).1.length = 32) := ⟨H1.out.2, H2.out.2⟩
  have hRR := (HR15.out.below hb23 HR15.out.lt).farCells (w.heap.size + 1) 32 (bvs (undigL s2).1) (by omega)
  have hXX := (HX15.out.below hb23 HX15.out.lt).setCells (bvs (undigL s2).1) 32 (by rw [bvs_length, H2.out.2, List.size_toArray, hk_length _ ⟨H1.out.2, rfl⟩]; decide)
  rw [ovw_hval _ _ H1.out.2 rfl H2.out.2] at hXX
  have HW := Lib.hid (below_setCells (thn HW15.out hb23) (w.heap.size + 1) 32 (bvs (undigL s2).1) (by omega))
  have HB := Lib.hid hXX
  have HR2 := Lib.hid hRR
  have FV : Hid ((((undigL s1).1, (undigL s2).1) : List UInt8 × List UInt8).1.length = 32 ∧ (((undigL s1).1, (undigL s2).1) : List UInt8 × List UInt8).2.length = 32) := by first | exact ⟨rfl, rfl⟩ | exact FX.out
  have HSZ : Hid ((hk ((undigL s1).1, (undigL s2).1)).toArray.size = 64) := by rw [List.size_toArray, hk_length _ FV.out]; trivial
  have HZS : Hid ((hk zH).toArray.size = 64) := rfl
  clear hHeld
  go_wp2_with (first | (refine wpList_loadAgg rfl 95 (.tmp 4) rfl (w.heap.size + 1) 0 rfl _ (TL.out ((undigL s1).1, (undigL s2).1) FV.out) (cellsAt_blk HB.out) ?_) | (refine wpList_storeAgg rfl rfl 95 (.tmp 2) (.tmp 31) rfl w.heap.size 0 rfl (hk ((undigL s1).1, (undigL s2).1)).toArray rfl (TS.out ((undigL s1).1, (undigL s2).1) FV.out) (HR2.out.room 0 _ (by rw [HSZ.out]; decide)) (hk_one _) ?_))
  have hfb := HR2.out.setCells (hk ((undigL s1).1, (undigL s2).1)).toArray.toList 0 (by rw [Array.length_toList, HSZ.out]; decide)
  rw [ovw_all _ _ (by first | (rw [Array.length_toList, HSZ.out, HZS.out]; done) | (rw [Array.length_toList]))] at hfb
  exact bodyPost_ret (results_agg_tmp rfl _ _ w.heap.size (hk ((undigL s1).1, (undigL s2).1)).toArray rfl (TS.out ((undigL s1).1, (undigL s2).1) FV.out) (cellsAt_blk hfb)) rfl ⟨below_setCells HW.out _ _ _ (Nat.le_refl _), .inr ⟨_, HYES.out, FX.out, rfl⟩⟩

theorem slotted_calls (ws : List (List UInt8)) (r n c : Nat) (w : World) (hn : ws.length = n) (hn6 : n ≤ 100000000) (hlen : ∀ s ∈ ws, s.length ≤ 100000000) (hr : r < w.heap.size) (hws : ∀ (j : Nat) s, ws[j]? = some s → w.cell? ⟨r, j, none⟩ = some (.string (str s))) :
    Calls Tryd.prog 60 #[.slice (some ⟨r, 0, none⟩) n c] w (SlEnd w ws) := by
  by_cases h3 : n = 3
  · subst h3
    obtain ⟨s0, s1, s2, rfl⟩ : ∃ s0 s1 s2, ws = [s0, s1, s2] := by
      match ws, hn with
      | [s0, s1, s2], _ => exact ⟨_, _, _, rfl⟩
    have hw3 : W3 r s0 s1 s2 w := ⟨hws 0 _ rfl, hws 1 _ rfl, hws 2 _ rfl⟩
    have hl1 := hlen s1 (by simp)
    have hl2 := hlen s2 (by simp)
    by_cases h0 : s0 = slotW
    · by_cases h1 : (undigL s1).2 = true ∧ (undigL s1).1.length = 32
      · by_cases h2 : (undigL s2).2 = true ∧ (undigL s2).1.length = 32
        · exact slotted_e s0 s1 s2 r c w hl1 hl2 hr hw3 h0 h1 h2
        · exact slotted_d s0 s1 s2 r c w hl1 hl2 hr hw3 h0 h1 h2
      · exact slotted_c s0 s1 s2 r c w hl1 hl2 hr hw3 h0 h1
    · exact slotted_b s0 s1 s2 r c w hl1 hl2 hr hw3 h0
  · exact slotted_a ws r n c w hn hn6 hlen hr hws h3
end Go.Proofs.YtfjfjjcdlgdbcaaDoor
