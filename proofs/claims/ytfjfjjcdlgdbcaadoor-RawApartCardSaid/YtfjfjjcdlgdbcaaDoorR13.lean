/- rawdb.Parse -/
import Derived.Test.YtfjfjjcdlgdbcaaDoorR12
namespace Go.Proofs.YtfjfjjcdlgdbcaaDoor
open Go.RowKit

attribute [local go_sem] run_storeRow roomAt_alloc_at roomAt_past_eq roomAt_drew_eq rk_size rk_size0 z32_length rk_zero setCells_alloc_at setCells_alloc_past setCells_drew rk_oneCell size_ovw ovw_all


theorem fix2 {w W w1 : World} {a b : Obj} (h : Below ((w.alloc a).alloc b).heap.size W w1) : Below (w.heap.size + 2) W w1 := h.mono (by simp)
theorem below_cells {w w1 : World} {n o : Nat} {vs : List Value} (h : CellsAt w n o vs) (hb : Below w.heap.size w w1) (hn : n < w.heap.size) : CellsAt w1 n o vs := by
  intro j u hu
  rw [hb.cell (p := ⟨n, o + j, none⟩) hn]
  exact h j u hu

set_option maxRecDepth 100000 in
set_option maxHeartbeats 2000000 in
theorem parse_name (A : Option Addr) (n c : Nat) (rest : List UInt8) (w : World) (hn : 1 ≤ n) (hnc : n ≤ c) (hcm : c ≤ 9223372036854775807) (h : RdB w A n c (109 :: rest)) (B : Bool) (hok : nameOk rest = B) :
    Calls Tryd.prog 13 #[.slice A n c] w (Parsed w (if B = true then rk 109 z32 z32 0 (str rest) else rk 0 z32 z32 0 ⟨#[]⟩) (if B = true then 0 else 132)) := by
  have hl : rest.length + 1 = n := by simpa using h.1
  obtain ⟨ad, rfl, hcell⟩ := h.at_ (k := 0) (by omega)
  have hc0 : w.cell? ad = some (.int .u8 109) := hcell
  have hA := World.block_lt_of_cell? w ad hc0
  have hset : (rk 0 z32 z32 0 ⟨#[]⟩).setIfInBounds 0 (.int .u8 109) = rk 109 z32 z32 0 ⟨#[]⟩ := rk_set0 0 109 z32 z32 0 ⟨#[]⟩
  have hg0 : ∀ h, (rk 109 z32 z32 0 ⟨#[]⟩)[0]'h = .int .u8 109 := fun _ => rfl
  have hset4 : (rk 109 z32 z32 0 ⟨#[]⟩).setIfInBounds 66 (.string (str rest)) = rk 109 z32 z32 0 (str rest) := rk_set4 _ _ _ _ _ _ rfl rfl
  have hget4 : ∀ h, (rk 109 z32 z32 0 (str rest))[66]'h = .string (str rest) := fun _ => by simp [rk, bvs, z32]
  have hc := Lib.hid (fun W => named_calls (str rest) W)
  rw [str_toList, hok] at hc
  have HT : Hid (AggT Tryd.prog 28 (rk 109 z32 z32 0 (str rest)).toList.length) := by rw [Array.length_toList, rk_size0]; exact Tryd.agg28
  have HT0 : Hid (AggT Tryd.prog 28 (rk 0 z32 z32 0 ⟨#[]⟩).size) := by rw [rk_size0]; exact Tryd.agg28
  have HT1 : Hid (AggT Tryd.prog 28 (rk 109 z32 z32 0 (str rest)).size) := by rw [rk_size0]; exact Tryd.agg28
  have HA := Lib.hid (new_rk2 w (rk 0 z32 z32 0 ⟨#[]⟩) (rk 109 z32 z32 0 (str rest)))
  have hcv : (convert 22 9 (.slice (if c = 1 then some ad else some ⟨ad.block, ad.off + 1, none⟩) (n - 1) (c - 1))).run Tryd.prog ((w.alloc (.cells (rk 0 z32 z32 0 ⟨#[]⟩) 28)).alloc (.cells (rk 109 z32 z32 0 ⟨#[]⟩) 28)) =
      .ok (.string (str rest)) ((w.alloc (.cells (rk 0 z32 z32 0 ⟨#[]⟩) 28)).alloc (.cells (rk 109 z32 z32 0 ⟨#[]⟩) 28)) := by
    have hr := h.cut 1 (by omega)
    exact run_convertB (P := Tryd.prog) _ 22 5 9 Tryd.underlying22 Tryd.underlying5 Tryd.underlying9 ((hr.alloc _).alloc _)
  have fin : ∀ (w1 : World) (cs : Array Value), ((((w.alloc (.cells (rk 0 z32 z32 0 ⟨#[]⟩) 28)).alloc (.cells (rk 109 z32 z32 0 (str rest)) 28))).heap.size = w.heap.size + 2) →
      Below (w.heap.size + 2) ((w.alloc (.cells (rk 0 z32 z32 0 ⟨#[]⟩) 28)).alloc (.cells (rk 109 z32 z32 0 (str rest)) 28)) w1 → Below w.heap.size w (w1.setCells w.heap.size 0 cs.toList) := by
    intro w1 cs _ hb
    exact below_setCells ((below2 w _ _).trans (hb.mono (by omega))) _ _ _ (Nat.le_refl _)
  clear h hcell hl
  generalize str rest = s at *
  by_cases hc1 : c = 1
  all_goals
    first | (subst hc1; obtain rfl : n = 1 := (by omega); rw [if_pos rfl] at hcv; simp only [Nat.sub_self] at hcv) | rw [if_neg hc1] at hcv
    cases B
    · go_enter Tryd.func13, Tryd.ntmps13
      go_wp2_with (first | (go_at_call 40; refine (hc.out _).mono ?_; rintro e w1 ⟨rfl, hb0⟩; have hb1 := fix2 hb0; clear hb0; have HR := Lib.hid ((((Blk.new w 28 (rk 0 z32 z32 0 ⟨#[]⟩)).alloc (.cells (rk 109 z32 z32 0 s) 28)).below hb1 (by omega)).room 0 67 (by rw [rk_size0]; decide))) | (refine wpList_storeAgg rfl rfl 28 (.tmp 2) (.tmp 37) rfl w.heap.size 0 rfl (rk 0 z32 z32 0 ⟨#[]⟩) rfl HT0.out (by rw [rk_size0]; exact HR.out) (rk_oneCell _ _ _ _ _) ?_))
      have hfb := (((Blk.new w 28 (rk 0 z32 z32 0 ⟨#[]⟩)).alloc (.cells (rk 109 z32 z32 0 s) 28)).below hb1 (by omega)).setCells (rk 0 z32 z32 0 ⟨#[]⟩).toList 0 (by rw [Array.length_toList]; omega)
      rw [ovw_all _ _ (by rw [Array.length_toList])] at hfb
      exact bodyPost_ret (results_agg_tmp rfl _ _ w.heap.size (rk 0 z32 z32 0 ⟨#[]⟩) rfl HT0.out (cellsAt_blk hfb)) rfl ⟨rfl, fin w1 _ (by simp) hb1⟩
    · go_enter Tryd.func13, Tryd.ntmps13
      go_wp2_with (first | (go_at_call 40; refine (hc.out _).mono ?_; rintro e w1 ⟨rfl, hb0⟩; have hb1 := fix2 hb0; clear hb0; have HR := Lib.hid ((((Blk.new w 28 (rk 0 z32 z32 0 ⟨#[]⟩)).alloc (.cells (rk 109 z32 z32 0 s) 28)).below hb1 (by omega)).room 0 67 (by rw [rk_size0]; decide)); have HB := Lib.hid (below_cells HA.out (hb1.mono (by simp)) (by simp))) | (refine wpList_loadAgg rfl 28 (.tmp 4) rfl _ 0 rfl (rk 109 z32 z32 0 s).toList HT.out HB.out ?_) | (refine wpList_storeAgg rfl rfl 28 (.tmp 2) (.tmp 38) rfl w.heap.size 0 rfl (rk 109 z32 z32 0 s) rfl HT1.out (by rw [rk_size0]; exact HR.out) (rk_oneCell _ _ _ _ _) ?_))
      have hfb := (((Blk.new w 28 (rk 0 z32 z32 0 ⟨#[]⟩)).alloc (.cells (rk 109 z32 z32 0 s) 28)).below hb1 (by omega)).setCells (rk 109 z32 z32 0 s).toList 0 (by rw [Array.length_toList, rk_size0, rk_size0]; omega)
      rw [ovw_all _ _ (by rw [Array.length_toList, rk_size0, rk_size0])] at hfb
      exact bodyPost_ret (results_agg_tmp rfl _ _ w.heap.size (rk 109 z32 z32 0 s) rfl HT1.out (cellsAt_blk hfb)) rfl ⟨rfl, fin w1 _ (by simp) hb1⟩
end Go.Proofs.YtfjfjjcdlgdbcaaDoor
