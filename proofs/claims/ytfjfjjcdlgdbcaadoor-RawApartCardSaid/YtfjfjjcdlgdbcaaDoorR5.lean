/- rawdb.hashed -/
import Derived.Test.YtfjfjjcdlgdbcaaDoorR4
import Derived.Test.YtfjfjjcdlgdbcaaDoorA5
import Derived.Deep.RegionLaw
namespace Go.Proofs.YtfjfjjcdlgdbcaaDoor
open Go.RowKit

/-- the row of 65 bytes when so many have been laid -/
def wh (l : UInt8) (xs : List UInt8) : Array Value := (bvs (l :: xs ++ List.replicate (64 - xs.length) 0)).toArray
theorem wh_size (l : UInt8) (xs : List UInt8) (h : xs.length ≤ 64) : (wh l xs).size = 65 := by simp [wh, bvs_length]; omega
theorem wh_more (l : UInt8) (xs ys : List UInt8) (h : xs.length + ys.length ≤ 64) : ovw (wh l xs) (1 + xs.length) (bvs ys) = wh l (xs ++ ys) := by
  simp only [ovw, wh, List.toList_toArray, bvs_take, bvs_drop, bvs_length, ← bvs_append]
  congr 2
  have e1 : (l :: xs ++ List.replicate (64 - xs.length) 0).take (1 + xs.length) = l :: xs := by
    rw [List.take_left' (by simp; omega)]
  have e2 : (l :: xs ++ List.replicate (64 - xs.length) 0).drop (1 + xs.length + ys.length) = List.replicate (64 - (xs ++ ys).length) 0 := by
    rw [List.drop_append, List.drop_eq_nil_of_le (by simp; omega), List.nil_append, List.drop_replicate]
    congr 1
    simp; omega
  rw [e1, e2]
  simp
theorem wh_zero (l : UInt8) : Tryd.zeroCells138.setIfInBounds 0 (.int .u8 (l.toNat : Int)) = wh l [] := by
  have e : Tryd.zeroCells138 = (bvs (List.replicate 65 0)).toArray := by kernel_rfl
  rw [e]; rfl

theorem flatten_32 (hss : List (List UInt8)) (k : Nat) (h : ∀ y ∈ hss, y.length = 32) (hk : k ≤ hss.length) : (hss.take k).flatten.length = 32 * k := by
  induction k with
  | zero => simp
  | succ k ih =>
    obtain ⟨y, hy⟩ : ∃ y, hss[k]? = some y := ⟨_, List.getElem?_eq_getElem (by omega)⟩
    rw [flatten_take_succ hss k y hy, List.length_append, ih (by omega), h y (List.mem_of_getElem? hy)]
    omega
theorem get_32 (hss : List (List UInt8)) (k : Nat) (y : List UInt8) (h : ∀ y ∈ hss, y.length = 32) (hy : hss[k]? = some y) (j : Nat) (b : UInt8) (hb : y[j]? = some b) : hss.flatten[k * 32 + j]? = some b := by
  have hk := (List.getElem?_eq_some_iff.1 hy).1
  have e : hss.flatten = (hss.take k).flatten ++ (y ++ (hss.drop (k + 1)).flatten) := by
    conv => lhs; rw [← List.take_append_drop k hss]
    rw [List.flatten_append]
    congr 1
    rw [List.drop_eq_getElem_cons hk]
    have : hss[k] = y := by have := (List.getElem?_eq_some_iff.1 hy).2; exact this
    simp [this]
  have hj := (List.getElem?_eq_some_iff.1 hb).1
  rw [e, List.getElem?_append_right (by rw [flatten_32 hss k h (by omega)]; omega), flatten_32 hss k h (by omega), show k * 32 + j - 32 * k = j by omega, List.getElem?_append_left hj]
  exact hb
theorem cells_32 (hss : List (List UInt8)) (k : Nat) (y : List UInt8) (w wr : World) (g : Nat) (hc : CellsAt w g 0 (bvs hss.flatten)) (hg : g < w.heap.size) (hb : Below w.heap.size w wr) (h : ∀ y ∈ hss, y.length = 32) (hy : hss[k]? = some y) :
    CellsAt wr g (k * 32) (bvs y) := by
  intro j u hu
  simp only [bvs, List.getElem?_map, Option.map_eq_some_iff] at hu
  obtain ⟨b, hb', rfl⟩ := hu
  rw [hb.cell (p := ⟨g, k * 32 + j, none⟩) hg]
  have := hc (k * 32 + j) (bv b) (by rw [bvs, List.getElem?_map, get_32 hss k y h hy j b hb']; rfl)
  simpa using this

set_option maxRecDepth 100000 in
set_option maxHeartbeats 1000000 in
theorem hashed_calls (l : UInt8) (g n : Nat) (hss : List (List UInt8)) (w : World) (hn : hss.length = n) (h2 : n ≤ 2) (h32 : ∀ h ∈ hss, h.length = 32) (h : CellsAt w g 0 (bvs hss.flatten)) (hg : g < w.heap.size) :
    Calls Tryd.prog 42 #[.int .u8 (l.toNat : Int), .slice (some ⟨g, 0, none⟩) n n] w (Bytes w (l :: hss.flatten)) := by
  have H := Lib.hid h
  have HN := Lib.hid hn
  have H32 := Lib.hid h32
  clear h hn h32
  go_enter Tryd.func42, Tryd.ntmps42
  go_wp2
  go_loopw [6, 13] (fun t i wr => ∃ k : Nat, k ≤ n ∧ t = .int .i64 (1 + 32 * (k : Int)) ∧ i = .int .i64 k ∧ Blk wr w.heap.size 138 (wh l (hss.take k).flatten) ∧ Below w.heap.size w wr) (fun _ i _ => n - (intOf i).toNat)
  case atStart => exact ⟨0, by omega, by simp, by simp, by have := Blk.new w 138 (Tryd.zeroCells138.setIfInBounds 0 (.int .u8 (l.toNat : Int))); rw [wh_zero] at this ⊢; simpa using this, (Below.refl _ _).alloc (Nat.le_refl _) _⟩
  case round =>
    obtain ⟨k, hk, rfl, rfl, hblk, hb⟩ := hrel
    have hbs := hb.size
    by_cases hlt : k < n
    · obtain ⟨y, hy⟩ : ∃ y, hss[k]? = some y := ⟨_, List.getElem?_eq_getElem (by rw [HN.out]; exact hlt)⟩
      have hyl : y.length = 32 := H32.out y (List.mem_of_getElem? hy)
      have hc := H.out
      have hcy : CellsAt wr g (k * 32) (bvs y) := cells_32 hss k y w wr g H.out hg hb H32.out hy
      have HC := Lib.hid hcy
      have HY := Lib.hid hy
      have HL2 : y.length = 32 := hyl
      have HL : Hid ((bvs y).length = 32) := by rw [bvs_length]; exact hyl
      have HL3 := Lib.hid HL2
      clear hcy hy hyl hc HL2
      have hq : (1 : Int) + 32 * (k : Int) ≤ 65 := by omega
      have hq0 : (0 : Int) ≤ 1 + 32 * (k : Int) := by omega
      have HA1 : Hid (AggT Tryd.prog 25 (bvs y).length) := by rw [HL.out]; exact Tryd.agg25
      have HA2 : Hid (AggT Tryd.prog 25 (bvs y).toArray.size) := by rw [List.size_toArray, HL.out]; exact Tryd.agg25
      have HA3 : Hid (32 = (bvs y).toArray.size) := by rw [List.size_toArray, HL.out]; rfl
      go_wp2_with (first | (refine wpList_loadAgg rfl 25 _ rfl g _ rfl (bvs y) HA1.out HC.out ?_) | (refine wpList_storeNew rfl rfl 25 _ _ rfl _ _ rfl (bvs y).toArray rfl HA2.out HA3.out (oneCell_bvs y) ?_))
      obtain ⟨W2, hcp, hblk2, hb2⟩ : ∃ W2, (Builtin.copy_ #[22, 22] 3 #[Value.slice (some { block := w.heap.size, off := 1 + 32 * k }) (65 - (1 + 32 * k)) (65 - (1 + 32 * k)), Value.slice (some { block := wr.heap.size, off := 0 }) 32 32]).run Tryd.prog
            (wr.alloc (Obj.cells (bvs y).toArray 25)).drew = .ok (.int .i64 32) W2 ∧ Blk W2 w.heap.size 138 (wh l ((hss.take k).flatten ++ y)) ∧ Below w.heap.size w W2 := by
        have hr : RdB (wr.alloc (Obj.cells (bvs y).toArray 25)).drew (some ⟨wr.heap.size, 0, none⟩) 32 32 y := RdB.drew (RdB.many wr 25 y HL3.out)
        have hB : Blk (wr.alloc (Obj.cells (bvs y).toArray 25)).drew w.heap.size 138 (wh l (hss.take k).flatten) := (hblk.alloc _).drew
        have hfl : (hss.take k).flatten.length = 32 * k := flatten_32 hss k H32.out (by rw [HN.out]; omega)
        have hyl : y.length = 32 := HL3.out
        have e := run_copyB (P := Tryd.prog) (wr.alloc (Obj.cells (bvs y).toArray 25)).drew 22 22 3 5 w.heap.size (1 + 32 * k) (65 - (1 + 32 * k)) (65 - (1 + 32 * k)) _ 32 32 y Tryd.underlying22 (by kernel_rfl) hr
          (hB.room _ _ (by rw [wh_size _ _ (by omega)]; omega))
        refine ⟨(wr.alloc (Obj.cells (bvs y).toArray 25)).drew.setCells w.heap.size (1 + 32 * k) (bvs y), ?_, ?_, ?_⟩
        · rw [e, show min 32 (65 - (1 + 32 * k)) = 32 by omega, List.take_of_length_le (by omega)]; rfl
        · have := hB.setCells (bvs y) (1 + 32 * k) (by rw [wh_size _ _ (by omega), bvs_length]; omega)
          rw [← hfl, wh_more _ _ _ (by omega)] at this
          rw [← hfl]
          exact this
        · exact below_setCells (hb.alloc hbs _).drew _ _ _ (Nat.le_refl _)
      go_region
      all_goals go_wp2
      clear hcp
      go_roundw
      case rel => exact ⟨k + 1, by omega, by go_num, by go_num, by rw [flatten_take_succ hss k y HY.out]; exact hblk2, hb2⟩
      case measure => simp [intOf]; omega
    · obtain rfl : k = n := by omega
      have hfl : Hid (hss.flatten.length = 32 * k) := by
        have := flatten_32 hss k H32.out (by rw [HN.out]; omega)
        rwa [List.take_of_length_le (by rw [HN.out]; omega)] at this
      have hblk' : Hid (Blk wr w.heap.size 138 (wh l hss.flatten)) := by
        have := hblk
        rwa [List.take_of_length_le (by rw [HN.out]; omega)] at this
      clear hblk
      have hq : (1 : Int) + 32 * (k : Int) ≤ 65 := by omega
      have hq0 : (0 : Int) ≤ 1 + 32 * (k : Int) := by omega
      have hr : Hid (RdB wr (some ⟨w.heap.size, 0, none⟩) (1 + 32 * k) 65 (l :: hss.flatten)) := by
        refine ⟨by simp [hfl.out]; omega, by omega, by unfold maxLen; omega, fun _ => ⟨_, rfl, fun j u hu => ?_⟩⟩
        have e : (⟨w.heap.size, 0, none⟩ : Addr).add j = ⟨w.heap.size, j, none⟩ := by unfold Addr.add; split <;> simp_all
        rw [e, hblk'.out.cell]
        simp only [wh, bvs, List.getElem?_toArray, List.getElem?_map]
        have hj := (List.getElem?_eq_some_iff.1 hu).1
        rw [List.cons_append, ← List.cons_append, List.getElem?_append_left hj, hu]
        rfl
      go_wp2_with (at_builtin; refine wpList_appendB _ rfl (.const (.slice none 0 0)) (.tmp 25) rfl w.heap.size _ [] (l :: hss.flatten) rfl _ _ _ rfl (OwnB.nil _ _) hr.out ?hl ?hB ?_; rotate_right; intro v2 w2 ho2 hg2 hb2)
      case hl => simp; omega
      case hB => exact hbs
      go_ret
      exact ⟨_, rfl, ho2, hb.trans hb2⟩
end Go.Proofs.YtfjfjjcdlgdbcaaDoor
