/- Words: rows of cells read and written at once. -/
import Derived.Test.YtfjfjjcdlgdbcaaDoorA0
import Derived.Laws.IdiomCopy
import Derived.Laws.Cells
namespace Go.Proofs.YtfjfjjcdlgdbcaaDoor
open Go.RowKit

/-- each value is one cell -/
def AllOne (vs : List Value) : Prop := ∀ v ∈ vs, v.oneCell' = true
theorem oneCell_bv (b : UInt8) : (bv b).oneCell' = true := rfl
theorem oneCell_bvs (xs : List UInt8) : AllOne (bvs xs) := by
  intro v hv
  obtain ⟨b, _, rfl⟩ := List.mem_map.1 hv
  rfl
theorem bvs_length (xs : List UInt8) : (bvs xs).length = xs.length := by simp [bvs]
theorem bvs_append (xs ys : List UInt8) : bvs (xs ++ ys) = bvs xs ++ bvs ys := by simp [bvs]
theorem bvs_take (xs : List UInt8) (n : Nat) : (bvs xs).take n = bvs (xs.take n) := by simp [bvs]
theorem bvs_drop (xs : List UInt8) (n : Nat) : (bvs xs).drop n = bvs (xs.drop n) := by simp [bvs]
theorem bv_inj {a b : UInt8} (h : bv a = bv b) : a = b := by
  unfold bv at h
  injection h with _ h
  exact UInt8.toNat_inj.1 (by omega)
theorem bvs_inj : ∀ {xs ys : List UInt8}, bvs xs = bvs ys → xs = ys
  | [], [], _ => rfl
  | [], _ :: _, h => by simp [bvs] at h
  | _ :: _, [], h => by simp [bvs] at h
  | x :: xs, y :: ys, h => by
    simp only [bvs, List.map_cons, List.cons.injEq] at h
    rw [bv_inj h.1, bvs_inj (xs := xs) (ys := ys) h.2]

/-- k cells of block n from place o on are there, and none is frozen -/
def RoomAt (w : World) (n o k : Nat) : Prop := ∀ j, j < k → (w.cell? ⟨n, o + j, none⟩).isSome = true ∧ w.frozen? ⟨n, o + j, none⟩ = false
/-- k cells of block n from place o on are these -/
def CellsAt (w : World) (n o : Nat) (vs : List Value) : Prop := ∀ j u, vs[j]? = some u → w.cell? ⟨n, o + j, none⟩ = some u
/-- c with vs written over it from o on -/
def ovw (c : Array Value) (o : Nat) (vs : List Value) : Array Value := (c.toList.take o ++ vs ++ c.toList.drop (o + vs.length)).toArray

theorem size_ovw (c : Array Value) (o : Nat) (vs : List Value) (h : o + vs.length ≤ c.size) : (ovw c o vs).size = c.size := by
  simp [ovw]; omega
theorem ovw_all (c : Array Value) (vs : List Value) (h : c.size = vs.length) : ovw c 0 vs = vs.toArray := by
  simp [ovw, List.drop_eq_nil_of_le, h]
theorem get_ovw (c : Array Value) (o : Nat) (vs : List Value) (h : o + vs.length ≤ c.size) (j : Nat) :
    (ovw c o vs)[j]? = if o ≤ j ∧ j < o + vs.length then vs[j - o]? else c[j]? := by
  simp only [ovw, List.getElem?_toArray, List.append_assoc]
  have hl : (c.toList.take o).length = o := by simp; omega
  by_cases h1 : j < o
  · rw [List.getElem?_append_left (by omega), if_neg (by omega), List.getElem?_take, if_pos h1]; simp
  · rw [List.getElem?_append_right (by omega), hl]
    by_cases h2 : j < o + vs.length
    · rw [List.getElem?_append_left (by omega), if_pos ⟨by omega, h2⟩]
    · rw [List.getElem?_append_right (by omega), if_neg (by omega), List.getElem?_drop]
      rw [show o + vs.length + (j - o - vs.length) = j by omega]; simp

theorem roomAt_alloc_at (w : World) (c : Array Value) (t : TypeId) (n o k : Nat) (hn : n = w.heap.size) (h : o + k ≤ c.size) : RoomAt (w.alloc (.cells c t)) n o k := by
  subst hn
  intro j hj
  rw [World.cell?_alloc_at _ _ _ _ rfl, World.frozen?_alloc_at _ _ _ _ rfl]
  simp; omega
theorem roomAt_alloc_past (w : World) (b : Obj) (n o k : Nat) (hn : n < w.heap.size) (h : RoomAt w n o k) : RoomAt (w.alloc b) n o k := by
  intro j hj
  have := h j hj
  rw [World.cell?_alloc_lt w b ⟨n, o + j, none⟩ hn, World.frozen?_alloc_past b n _ hn]
  exact this
theorem roomAt_drew (w : World) (n o k : Nat) (h : RoomAt w n o k) : RoomAt w.drew n o k := h
theorem roomAt_drewN (w : World) (m n o k : Nat) (h : RoomAt w n o k) : RoomAt (w.drewN m) n o k := h

theorem setCells_alloc_at : ∀ (vs : List Value) (o : Nat) (w : World) (c : Array Value) (t : TypeId) (n : Nat), n = w.heap.size → o + vs.length ≤ c.size →
    (w.alloc (.cells c t)).setCells n o vs = w.alloc (.cells (ovw c o vs) t)
  | [], o, w, c, t, n, hn, h => by
    simp only [World.setCells]
    congr 2
    simp [ovw]
  | v :: r, o, w, c, t, n, hn, h => by
    simp only [List.length_cons] at h
    simp only [World.setCells]
    rw [World.setCell_alloc_at _ _ _ _ _ hn, setCells_alloc_at r (o + 1) w _ t n hn (by simp; omega)]
    congr 2
    apply Array.ext_getElem?
    intro j
    rw [get_ovw _ _ _ (by simp; omega), get_ovw _ _ _ (by simp; omega)]
    simp only [List.length_cons]
    by_cases h1 : o + 1 ≤ j ∧ j < o + 1 + r.length
    · rw [if_pos h1, if_pos (by omega)]
      obtain ⟨i, rfl⟩ : ∃ i, j = o + 1 + i := ⟨j - (o + 1), by omega⟩
      rw [show o + 1 + i - (o + 1) = i by omega, show o + 1 + i - o = i + 1 by omega]; simp
    · rw [if_neg h1]
      by_cases h2 : j = o
      · subst h2
        rw [if_pos (by omega), Array.getElem?_setIfInBounds, if_pos rfl, if_pos (by omega)]
        simp
      · rw [if_neg (by omega)]
        simp [Array.getElem?_setIfInBounds, Ne.symm h2]
theorem setCells_alloc_past : ∀ (vs : List Value) (o : Nat) (w : World) (b : Obj) (n : Nat), n < w.heap.size →
    (w.alloc b).setCells n o vs = (w.setCells n o vs).alloc b
  | [], _, _, _, _, _ => rfl
  | v :: r, o, w, b, n, h => by
    simp only [World.setCells]
    rw [World.setCell_alloc_past _ _ _ _ h, setCells_alloc_past r (o + 1) _ b n (by simpa [World.setCell] using h)]
theorem setCells_drew : ∀ (vs : List Value) (o : Nat) (w : World) (n : Nat), w.drew.setCells n o vs = (w.setCells n o vs).drew
  | [], _, _, _ => rfl
  | v :: r, o, w, n => by
    simp only [World.setCells]
    rw [World.setCell_drew, setCells_drew r]
theorem size_setCells : ∀ (vs : List Value) (o : Nat) (w : World) (n : Nat), (w.setCells n o vs).heap.size = w.heap.size
  | [], _, _, _ => rfl
  | v :: r, o, w, n => by
    simp only [World.setCells]
    rw [size_setCells r]; simp [World.setCell]

theorem run_storeRow {P : Program} (w : World) (n o : Nat) (vs : List Value) (hr : RoomAt w n o vs.length) (h1 : AllOne vs) :
    (storeCells ⟨n, o, none⟩ vs).run P w = .ok () (w.setCells n o vs) := by
  have := run_storeCells_cells (P := P) n o vs 0 w (fun j hj => by simpa using (hr j hj).1) (fun j hj => by simpa using (hr j hj).2) h1
  simpa using this

theorem cellsAt_alloc_at (w : World) (c : Array Value) (t : TypeId) (n o : Nat) (vs : List Value) (hn : n = w.heap.size) (h : ∀ j u, vs[j]? = some u → c[o + j]? = some u) : CellsAt (w.alloc (.cells c t)) n o vs := by
  subst hn
  intro j u hu
  rw [World.cell?_alloc_at _ _ _ _ rfl]
  exact h j u hu
theorem run_loadRow {P : Program} (w : World) (n o : Nat) (vs : List Value) (h : CellsAt w n o vs) :
    (loadCells ⟨n, o, none⟩ vs.length).run P w = .ok vs.toArray w := by
  refine run_loadCells_list w _ vs fun j v hv => ?_
  have := h j v hv
  have e : (⟨n, o, none⟩ : Addr).add j = ⟨n, o + j, none⟩ := by unfold Addr.add; split <;> simp_all
  rw [e]
  exact this
theorem RdB.alloc {w : World} {A : Option Addr} {n c : Nat} {xs : List UInt8} (h : RdB w A n c xs) (o : Obj) : RdB (w.alloc o) A n c xs := h.below ((Below.refl _ _).alloc (Nat.le_refl _) o)
theorem RdB.setCells {w : World} {A : Option Addr} {n c : Nat} {xs : List UInt8} (h : RdB w A n c xs) (g o : Nat) (vs : List Value) (hg : ∀ ad, A = some ad → ad.block ≠ g) : RdB (w.setCells g o vs) A n c xs :=
  ⟨h.1, h.2.1, h.2.2.1, fun hn => by
    obtain ⟨ad, e, hc⟩ := h.2.2.2 hn
    refine ⟨ad, e, fun j u hu => ?_⟩
    rw [World.cell?_setCells_out g vs o w _ (fun hb => absurd hb (by
      have : (ad.add j).block = ad.block := by unfold Addr.add; split <;> rfl
      rw [this]; exact hg ad e))]
    exact hc j u hu⟩
/-- what is left behind a cut at the front -/
theorem RdB.cut {w : World} {A : Option Addr} {n c : Nat} {xs : List UInt8} (h : RdB w A n c xs) (k : Nat) (hk : k ≤ n) :
    RdB w (if c = k then A else A.map (·.add k)) (n - k) (c - k) (xs.drop k) := by
  refine ⟨by simp [h.1], by have := h.2.1; omega, by have := h.2.2.1; omega, fun hn => ?_⟩
  obtain ⟨ad, rfl, hc⟩ := h.2.2.2 (by omega)
  rw [if_neg (by have := h.2.1; omega)]
  refine ⟨ad.add k, rfl, fun j u hu => ?_⟩
  have : (ad.add k).add j = ad.add (k + j) := by
    unfold Addr.add
    by_cases hi : k = 0 <;> by_cases hj : j = 0 <;> simp [hi, hj, Nat.add_assoc]
  rw [this]
  exact hc _ u (by rw [← hu, List.getElem?_drop])
theorem RdB.cut' {w : World} {ad : Addr} {n c : Nat} {xs : List UInt8} (h : RdB w (some ad) n c xs) (k : Nat) (hk : k ≤ n) (hc : k ≠ c) :
    RdB w (some (ad.add k)) (n - k) (c - k) (xs.drop k) := by
  have := h.cut k hk
  rwa [if_neg (by omega)] at this
/-- the front -/
theorem RdB.front {w : World} {A : Option Addr} {n c : Nat} {xs : List UInt8} (h : RdB w A n c xs) (k : Nat) (hk : k ≤ n) : RdB w A k c (xs.take k) := by
  refine ⟨by have := h.1; simp; omega, by have := h.2.1; omega, h.2.2.1, fun hn => ?_⟩
  obtain ⟨ad, rfl, hc⟩ := h.2.2.2 (by omega)
  refine ⟨ad, rfl, fun j u hu => hc j u ?_⟩
  rw [List.getElem?_take] at hu
  split at hu
  · exact hu
  · cases hu
/-- 'copy' of bytes into a row of bytes -/
theorem run_copyB {P : Program} (w : World) (dT sT ty elem : TypeId) (d o m mc : Nat) (A : Option Addr) (n c : Nat) (xs : List UInt8)
    (hu : P.underlying dT = some (.slice elem)) (hs : (P.info? elem).map (·.size) = some 1) (h : RdB w A n c xs) (hr : RoomAt w d o (min n m)) :
    (Builtin.copy_ #[dT, sT] ty #[.slice (some ⟨d, o, none⟩) m mc, .slice A n c]).run P w = .ok (.int .i64 ((min n m : Nat) : Int)) (w.setCells d o (bvs (xs.take m))) := by
  have hl : (bvs (xs.take m)).length = min n m := by rw [bvs_length, List.length_take, h.1]; omega
  by_cases h0 : min n m = 0
  · have e : xs.take m = [] := List.eq_nil_of_length_eq_zero (by rw [List.length_take, h.1]; omega)
    rw [run_copy_none (P := P) w dT sT ty elem _ _ _ _ _ _ hu hs (by simpa using h0), e, h0]
    rfl
  · obtain ⟨ad, rfl, hc⟩ := h.2.2.2 (by omega)
    have := run_copy_cells (P := P) w dT sT ty elem d o m mc ad n c (bvs (xs.take m)) hu hs hl (fun j v hv => ?_) (fun j hj => (hr j (by omega)).1) (fun j hj => (hr j (by omega)).2) (oneCell_bvs _)
    · rw [this, hl]; rfl
    · simp only [bvs, List.getElem?_map, Option.map_eq_some_iff] at hv
      obtain ⟨u, hu', rfl⟩ := hv
      rw [List.getElem?_take] at hu'
      split at hu'
      · exact hc j u hu'
      · cases hu'
/-- block g is just these cells, none frozen -/
def Blk (w : World) (g : Nat) (t : TypeId) (cs : Array Value) : Prop := w.heap[g]? = some (.cells cs t (0, 0))
section
variable {w w' : World} {g : Nat} {t : TypeId} {cs : Array Value}
theorem Blk.lt (h : Blk w g t cs) : g < w.heap.size := by
  rcases Nat.lt_or_ge g w.heap.size with hlt | hge
  · exact hlt
  · unfold Blk at h; rw [Array.getElem?_eq_none hge] at h; cases h
theorem Blk.cell (h : Blk w g t cs) (i : Nat) : w.cell? ⟨g, i, none⟩ = cs[i]? := cell_of_row w g i cs t (0, 0) h
theorem Blk.frozen (h : Blk w g t cs) (i : Nat) : w.frozen? ⟨g, i, none⟩ = false := by
  unfold Blk at h
  simp [World.frozen?, h]
theorem Blk.new (w : World) (t : TypeId) (cs : Array Value) : Blk (w.alloc (.cells cs t)) w.heap.size t cs := heap_alloc_new w _
theorem Blk.drew (h : Blk w g t cs) : Blk w.drew g t cs := h
theorem Blk.drewN (h : Blk w g t cs) (n : Nat) : Blk (w.drewN n) g t cs := h
theorem Blk.alloc (h : Blk w g t cs) (o : Obj) : Blk (w.alloc o) g t cs := (Below.heap_alloc w o g h.lt).trans h
theorem Blk.set_ (h : Blk w g t cs) (i : Nat) (u : Value) : Blk (w.setCell ⟨g, i, none⟩ u) g t (cs.setIfInBounds i u) := by
  unfold Blk at h ⊢
  simp [World.setCell, Array.getElem?_modify, h]
theorem Blk.far (h : Blk w g t cs) {p : Addr} (hp : g ≠ p.block) (u : Value) : Blk (w.setCell p u) g t cs := (Below.heap_setCell w p u g hp).trans h
theorem Blk.below {B : Nat} (h : Blk w g t cs) (hb : Below B w w') (hg : g < B) : Blk w' g t cs := (hb.block g hg).trans h
theorem Blk.grown {row : Option Nat} (h : Blk w g t cs) (hb : w.grownBy w' row) (hg : some g ≠ row) : Blk w' g t cs := (hb.block g h.lt hg).trans h
theorem Blk.room (h : Blk w g t cs) (o k : Nat) (hk : o + k ≤ cs.size) : RoomAt w g o k := by
  intro j hj
  rw [h.cell, h.frozen]
  simp; omega
theorem Blk.cells (h : Blk w g t cs) (o : Nat) (vs : List Value) (hv : ∀ j u, vs[j]? = some u → cs[o + j]? = some u) : CellsAt w g o vs := by
  intro j u hu
  rw [h.cell]
  exact hv j u hu
theorem Blk.setCells (h : Blk w g t cs) : ∀ (vs : List Value) (o : Nat), o + vs.length ≤ cs.size → Blk (w.setCells g o vs) g t (ovw cs o vs) := by
  intro vs
  induction vs generalizing w cs with
  | nil => intro o _; simpa [World.setCells, ovw] using h
  | cons v r ih =>
    intro o ho
    simp only [List.length_cons] at ho
    simp only [World.setCells]
    have h2 := ih (h.set_ o v) (o + 1) (by simp; omega)
    have e : ovw (cs.setIfInBounds o v) (o + 1) r = ovw cs o (v :: r) := by
      apply Array.ext_getElem?
      intro j
      rw [get_ovw _ _ _ (by simp; omega), get_ovw _ _ _ (by simp; omega)]
      simp only [List.length_cons]
      by_cases h1 : o + 1 ≤ j ∧ j < o + 1 + r.length
      · rw [if_pos h1, if_pos (by omega)]
        obtain ⟨i, rfl⟩ : ∃ i, j = o + 1 + i := ⟨j - (o + 1), by omega⟩
        rw [show o + 1 + i - (o + 1) = i by omega, show o + 1 + i - o = i + 1 by omega]; simp
      · rw [if_neg h1]
        by_cases h2 : j = o
        · subst h2
          rw [if_pos (by omega), Array.getElem?_setIfInBounds, if_pos rfl, if_pos (by omega)]
          simp
        · rw [if_neg (by omega)]
          simp [Array.getElem?_setIfInBounds, Ne.symm h2]
    rw [e] at h2
    exact h2
theorem heap_setCells_other : ∀ (vs : List Value) (o : Nat) (w : World) (n k : Nat), k ≠ n → (w.setCells n o vs).heap[k]? = w.heap[k]?
  | [], _, _, _, _, _ => rfl
  | v :: r, o, w, n, k, hk => by
    simp only [World.setCells]
    rw [heap_setCells_other r (o + 1) _ n k hk]
    exact Below.heap_setCell w _ _ _ hk
theorem Blk.farCells (h : Blk w g t cs) (n o : Nat) (vs : List Value) (hn : g ≠ n) : Blk (w.setCells n o vs) g t cs := (heap_setCells_other vs o w n g hn).trans h
end
theorem below_setCells {B : Nat} {a w : World} (h : Below B a w) (g o : Nat) (vs : List Value) (hg : B ≤ g) : Below B a (w.setCells g o vs) := by
  induction vs generalizing w o with
  | nil => exact h
  | cons v r ih => exact ih (h.setCell (p := ⟨g, o, none⟩) hg v) (o + 1)
theorem thn {w w1 w2 : World} (h : Below w.heap.size w w1) (k : Below w1.heap.size w1 w2) : Below w.heap.size w w2 := h.trans (k.mono h.size)
theorem al {w w1 : World} (h : Below w.heap.size w w1) (o : Obj) : Below w.heap.size w (w1.alloc o) := h.alloc h.size o
end Go.Proofs.YtfjfjjcdlgdbcaaDoor
