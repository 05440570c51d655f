/- the texts A0, A2, A3, A4, A5, A6, A7, A8, M0 of this proof, one behind the other -/
import Derived.Test.YtejnfahfjmeabaaGreatDoorProg
import Derived.WalkKit
import Derived.WalkLawsBesides
import Derived.WalkSpells
import Derived.Deep.Draws
import Derived.Deep.AppendLies
import Derived.Maps.AppendAt
import Derived.Lib.Hide
import Derived.IntWalk
import Derived.Lib.ConvBytes
import Derived.Laws.IdiomCopy
import Derived.Laws.Cells
import Derived.Laws.BytesArg
import Derived.DeepKeys
set_option linter.unusedSimpArgs false
set_option linter.unusedVariables false
namespace Go.Proofs.YtejnfahfjmeabaaGreatDoor
open Go.RowKit

/-- a byte as a value -/
def bv (b : UInt8) : Value := .int .u8 (b.toNat : Int)
def bvs (xs : List UInt8) : List Value := xs.map bv

/-- the slice value (A, n, c) reads as the bytes xs -/
def RdB (w : World) (A : Option Addr) (n c : Nat) (xs : List UInt8) : Prop :=
  xs.length = n ∧ n ≤ c ∧ c ≤ maxLen ∧ (0 < n → ∃ ad, A = some ad ∧ ∀ j u, xs[j]? = some u → w.cell? (ad.add j) = some (bv u))

theorem RdB.below {w w1 : World} {A : Option Addr} {n c : Nat} {xs : List UInt8} (h : RdB w A n c xs) (hb : Below w.heap.size w w1) : RdB w1 A n c xs :=
  ⟨h.1, h.2.1, h.2.2.1, fun hn => by
    obtain ⟨ad, e, hc⟩ := h.2.2.2 hn
    refine ⟨ad, e, fun j u hu => ?_⟩
    have h1 := hc j u hu
    rw [hb.cell (World.block_lt_of_cell? w _ h1)]
    exact h1⟩
theorem RdB.drewN {w : World} {A : Option Addr} {n c : Nat} {xs : List UInt8} (h : RdB w A n c xs) (k : Nat) : RdB (w.drewN k) A n c xs := h
theorem RdB.drew {w : World} {A : Option Addr} {n c : Nat} {xs : List UInt8} (h : RdB w A n c xs) : RdB w.drew A n c xs := h
theorem RdB.at_ {w : World} {A : Option Addr} {n c : Nat} {xs : List UInt8} (h : RdB w A n c xs) {k : Nat} (hk : k < n) :
    ∃ ad, A = some ad ∧ w.cell? (ad.add k) = some (.int .u8 ((xs.getD k 0).toNat : Int)) := by
  obtain ⟨ad, e, hc⟩ := h.2.2.2 (by omega)
  refine ⟨ad, e, ?_⟩
  have hl : k < xs.length := by have := h.1; omega
  rw [hc k _ (List.getElem?_eq_getElem hl)]
  simp [bv, List.getD_eq_getElem?_getD, List.getElem?_eq_getElem hl]

/-- the number of bytes, the highest first -/
def unbig (xs : List UInt8) : Nat := xs.foldl (fun n b => (n * 256 + b.toNat) % 18446744073709551616) 0

theorem unbig_lt (xs : List UInt8) : unbig xs < 18446744073709551616 := by
  unfold unbig
  rcases List.eq_nil_or_concat xs with h | ⟨l, b, h⟩ <;> subst h <;> simp [Nat.mod_lt]
theorem unbig_snoc (xs : List UInt8) (k : Nat) (h : k < xs.length) : unbig (xs.take (k + 1)) = (unbig (xs.take k) * 256 + (xs.getD k 0).toNat) % 18446744073709551616 := by
  have e : xs.take (k + 1) = xs.take k ++ [xs[k]] := List.take_succ_eq_append_getElem h
  rw [e]
  simp only [unbig, List.foldl_append, List.foldl_cons, List.foldl_nil]
  simp [List.getD_eq_getElem?_getD, List.getElem?_eq_getElem h]

theorem or_big (u x : Nat) (hu : u < 18446744073709551616) (hx : x < 256) :
    bits BinOp.or IntKind.u64 (IntKind.u64.wrap ((u : Int) * 256)) (x : Int) = (((u * 256 + x) % 18446744073709551616 : Nat) : Int) := by
  have e : IntKind.u64.wrap ((u : Int) * 256) = ((u * 256 % 18446744073709551616 : Nat) : Int) := by
    simp [IntKind.wrap, IntKind.bits, IntKind.signed]
  rw [e, u64_or_nat _ _ (Nat.mod_lt _ (by omega)) (by omega), nat_join 8 _ _ (by omega) (by omega)]
  congr 1
  omega

end Go.Proofs.YtejnfahfjmeabaaGreatDoor
namespace Go.Proofs.YtejnfahfjmeabaaGreatDoor
open Go.RowKit

/-- each value is one cell -/
def AllOne (vs : List Value) : Prop := ∀ v ∈ vs, v.oneCell' = true
theorem oneCell_bv (b : UInt8) : (bv b).oneCell' = true := rfl
theorem oneCell_bvs (xs : List UInt8) : AllOne (bvs xs) := by
  intro v hv
  obtain ⟨b, _, rfl⟩ := List.mem_map.1 hv
  rfl
theorem bvs_length (xs : List UInt8) : (bvs xs).length = xs.length := by simp [bvs]
theorem bvs_append (xs ys : List UInt8) : bvs (xs ++ ys) = bvs xs ++ bvs ys := by simp [bvs]
theorem bvs_take (xs : List UInt8) (n : Nat) : (bvs xs).take n = bvs (xs.take n) := by simp [bvs]
theorem bvs_drop (xs : List UInt8) (n : Nat) : (bvs xs).drop n = bvs (xs.drop n) := by simp [bvs]
theorem bv_inj {a b : UInt8} (h : bv a = bv b) : a = b := by
  unfold bv at h
  injection h with _ h
  exact UInt8.toNat_inj.1 (by omega)
theorem bvs_inj : ∀ {xs ys : List UInt8}, bvs xs = bvs ys → xs = ys
  | [], [], _ => rfl
  | [], _ :: _, h => by simp [bvs] at h
  | _ :: _, [], h => by simp [bvs] at h
  | x :: xs, y :: ys, h => by
    simp only [bvs, List.map_cons, List.cons.injEq] at h
    rw [bv_inj h.1, bvs_inj (xs := xs) (ys := ys) h.2]

/-- k cells of block n from place o on are there, and none is frozen -/
def RoomAt (w : World) (n o k : Nat) : Prop := ∀ j, j < k → (w.cell? ⟨n, o + j, none⟩).isSome = true ∧ w.frozen? ⟨n, o + j, none⟩ = false
/-- k cells of block n from place o on are these -/
def CellsAt (w : World) (n o : Nat) (vs : List Value) : Prop := ∀ j u, vs[j]? = some u → w.cell? ⟨n, o + j, none⟩ = some u
/-- c with vs written over it from o on -/
def ovw (c : Array Value) (o : Nat) (vs : List Value) : Array Value := (c.toList.take o ++ vs ++ c.toList.drop (o + vs.length)).toArray

theorem size_ovw (c : Array Value) (o : Nat) (vs : List Value) (h : o + vs.length ≤ c.size) : (ovw c o vs).size = c.size := by
  simp [ovw]; omega
theorem ovw_all (c : Array Value) (vs : List Value) (h : c.size = vs.length) : ovw c 0 vs = vs.toArray := by
  simp [ovw, List.drop_eq_nil_of_le, h]
theorem get_ovw (c : Array Value) (o : Nat) (vs : List Value) (h : o + vs.length ≤ c.size) (j : Nat) :
    (ovw c o vs)[j]? = if o ≤ j ∧ j < o + vs.length then vs[j - o]? else c[j]? := by
  simp only [ovw, List.getElem?_toArray, List.append_assoc]
  have hl : (c.toList.take o).length = o := by simp; omega
  by_cases h1 : j < o
  · rw [List.getElem?_append_left (by omega), if_neg (by omega), List.getElem?_take, if_pos h1]; simp
  · rw [List.getElem?_append_right (by omega), hl]
    by_cases h2 : j < o + vs.length
    · rw [List.getElem?_append_left (by omega), if_pos ⟨by omega, h2⟩]
    · rw [List.getElem?_append_right (by omega), if_neg (by omega), List.getElem?_drop]
      rw [show o + vs.length + (j - o - vs.length) = j by omega]; simp

theorem roomAt_alloc_at (w : World) (c : Array Value) (t : TypeId) (n o k : Nat) (hn : n = w.heap.size) (h : o + k ≤ c.size) : RoomAt (w.alloc (.cells c t)) n o k := by
  subst hn
  intro j hj
  rw [World.cell?_alloc_at _ _ _ _ rfl, World.frozen?_alloc_at _ _ _ _ rfl]
  simp; omega
theorem roomAt_alloc_past (w : World) (b : Obj) (n o k : Nat) (hn : n < w.heap.size) (h : RoomAt w n o k) : RoomAt (w.alloc b) n o k := by
  intro j hj
  have := h j hj
  rw [World.cell?_alloc_lt w b ⟨n, o + j, none⟩ hn, World.frozen?_alloc_past b n _ hn]
  exact this
theorem roomAt_drew (w : World) (n o k : Nat) (h : RoomAt w n o k) : RoomAt w.drew n o k := h
theorem roomAt_drewN (w : World) (m n o k : Nat) (h : RoomAt w n o k) : RoomAt (w.drewN m) n o k := h

theorem setCells_alloc_at : ∀ (vs : List Value) (o : Nat) (w : World) (c : Array Value) (t : TypeId) (n : Nat), n = w.heap.size → o + vs.length ≤ c.size →
    (w.alloc (.cells c t)).setCells n o vs = w.alloc (.cells (ovw c o vs) t)
  | [], o, w, c, t, n, hn, h => by
    simp only [World.setCells]
    congr 2
    simp [ovw]
  | v :: r, o, w, c, t, n, hn, h => by
    simp only [List.length_cons] at h
    simp only [World.setCells]
    rw [World.setCell_alloc_at _ _ _ _ _ hn, setCells_alloc_at r (o + 1) w _ t n hn (by simp; omega)]
    congr 2
    apply Array.ext_getElem?
    intro j
    rw [get_ovw _ _ _ (by simp; omega), get_ovw _ _ _ (by simp; omega)]
    simp only [List.length_cons]
    by_cases h1 : o + 1 ≤ j ∧ j < o + 1 + r.length
    · rw [if_pos h1, if_pos (by omega)]
      obtain ⟨i, rfl⟩ : ∃ i, j = o + 1 + i := ⟨j - (o + 1), by omega⟩
      rw [show o + 1 + i - (o + 1) = i by omega, show o + 1 + i - o = i + 1 by omega]; simp
    · rw [if_neg h1]
      by_cases h2 : j = o
      · subst h2
        rw [if_pos (by omega), Array.getElem?_setIfInBounds, if_pos rfl, if_pos (by omega)]
        simp
      · rw [if_neg (by omega)]
        simp [Array.getElem?_setIfInBounds, Ne.symm h2]
theorem setCells_alloc_past : ∀ (vs : List Value) (o : Nat) (w : World) (b : Obj) (n : Nat), n < w.heap.size →
    (w.alloc b).setCells n o vs = (w.setCells n o vs).alloc b
  | [], _, _, _, _, _ => rfl
  | v :: r, o, w, b, n, h => by
    simp only [World.setCells]
    rw [World.setCell_alloc_past _ _ _ _ h, setCells_alloc_past r (o + 1) _ b n (by simpa [World.setCell] using h)]
theorem setCells_drew : ∀ (vs : List Value) (o : Nat) (w : World) (n : Nat), w.drew.setCells n o vs = (w.setCells n o vs).drew
  | [], _, _, _ => rfl
  | v :: r, o, w, n => by
    simp only [World.setCells]
    rw [World.setCell_drew, setCells_drew r]
theorem size_setCells : ∀ (vs : List Value) (o : Nat) (w : World) (n : Nat), (w.setCells n o vs).heap.size = w.heap.size
  | [], _, _, _ => rfl
  | v :: r, o, w, n => by
    simp only [World.setCells]
    rw [size_setCells r]; simp [World.setCell]

theorem run_storeRow {P : Program} (w : World) (n o : Nat) (vs : List Value) (hr : RoomAt w n o vs.length) (h1 : AllOne vs) :
    (storeCells ⟨n, o, none⟩ vs).run P w = .ok () (w.setCells n o vs) := by
  have := run_storeCells_cells (P := P) n o vs 0 w (fun j hj => by simpa using (hr j hj).1) (fun j hj => by simpa using (hr j hj).2) h1
  simpa using this

theorem cellsAt_alloc_at (w : World) (c : Array Value) (t : TypeId) (n o : Nat) (vs : List Value) (hn : n = w.heap.size) (h : ∀ j u, vs[j]? = some u → c[o + j]? = some u) : CellsAt (w.alloc (.cells c t)) n o vs := by
  subst hn
  intro j u hu
  rw [World.cell?_alloc_at _ _ _ _ rfl]
  exact h j u hu
theorem run_loadRow {P : Program} (w : World) (n o : Nat) (vs : List Value) (h : CellsAt w n o vs) :
    (loadCells ⟨n, o, none⟩ vs.length).run P w = .ok vs.toArray w := by
  refine run_loadCells_list w _ vs fun j v hv => ?_
  have := h j v hv
  have e : (⟨n, o, none⟩ : Addr).add j = ⟨n, o + j, none⟩ := by unfold Addr.add; split <;> simp_all
  rw [e]
  exact this
theorem RdB.alloc {w : World} {A : Option Addr} {n c : Nat} {xs : List UInt8} (h : RdB w A n c xs) (o : Obj) : RdB (w.alloc o) A n c xs := h.below ((Below.refl _ _).alloc (Nat.le_refl _) o)
theorem RdB.setCells {w : World} {A : Option Addr} {n c : Nat} {xs : List UInt8} (h : RdB w A n c xs) (g o : Nat) (vs : List Value) (hg : ∀ ad, A = some ad → ad.block ≠ g) : RdB (w.setCells g o vs) A n c xs :=
  ⟨h.1, h.2.1, h.2.2.1, fun hn => by
    obtain ⟨ad, e, hc⟩ := h.2.2.2 hn
    refine ⟨ad, e, fun j u hu => ?_⟩
    rw [World.cell?_setCells_out g vs o w _ (fun hb => absurd hb (by
      have : (ad.add j).block = ad.block := by unfold Addr.add; split <;> rfl
      rw [this]; exact hg ad e))]
    exact hc j u hu⟩
/-- what is left behind a cut at the front -/
theorem RdB.cut {w : World} {A : Option Addr} {n c : Nat} {xs : List UInt8} (h : RdB w A n c xs) (k : Nat) (hk : k ≤ n) :
    RdB w (if c = k then A else A.map (·.add k)) (n - k) (c - k) (xs.drop k) := by
  refine ⟨by simp [h.1], by have := h.2.1; omega, by have := h.2.2.1; omega, fun hn => ?_⟩
  obtain ⟨ad, rfl, hc⟩ := h.2.2.2 (by omega)
  rw [if_neg (by have := h.2.1; omega)]
  refine ⟨ad.add k, rfl, fun j u hu => ?_⟩
  have : (ad.add k).add j = ad.add (k + j) := by
    unfold Addr.add
    by_cases hi : k = 0 <;> by_cases hj : j = 0 <;> simp [hi, hj, Nat.add_assoc]
  rw [this]
  exact hc _ u (by rw [← hu, List.getElem?_drop])
theorem RdB.cut' {w : World} {ad : Addr} {n c : Nat} {xs : List UInt8} (h : RdB w (some ad) n c xs) (k : Nat) (hk : k ≤ n) (hc : k ≠ c) :
    RdB w (some (ad.add k)) (n - k) (c - k) (xs.drop k) := by
  have := h.cut k hk
  rwa [if_neg (by omega)] at this
/-- the front -/
theorem RdB.front {w : World} {A : Option Addr} {n c : Nat} {xs : List UInt8} (h : RdB w A n c xs) (k : Nat) (hk : k ≤ n) : RdB w A k c (xs.take k) := by
  refine ⟨by have := h.1; simp; omega, by have := h.2.1; omega, h.2.2.1, fun hn => ?_⟩
  obtain ⟨ad, rfl, hc⟩ := h.2.2.2 (by omega)
  refine ⟨ad, rfl, fun j u hu => hc j u ?_⟩
  rw [List.getElem?_take] at hu
  split at hu
  · exact hu
  · cases hu
/-- 'copy' of bytes into a row of bytes -/
theorem run_copyB {P : Program} (w : World) (dT sT ty elem : TypeId) (d o m mc : Nat) (A : Option Addr) (n c : Nat) (xs : List UInt8)
    (hu : P.underlying dT = some (.slice elem)) (hs : (P.info? elem).map (·.size) = some 1) (h : RdB w A n c xs) (hr : RoomAt w d o (min n m)) :
    (Builtin.copy_ #[dT, sT] ty #[.slice (some ⟨d, o, none⟩) m mc, .slice A n c]).run P w = .ok (.int .i64 ((min n m : Nat) : Int)) (w.setCells d o (bvs (xs.take m))) := by
  have hl : (bvs (xs.take m)).length = min n m := by rw [bvs_length, List.length_take, h.1]; omega
  by_cases h0 : min n m = 0
  · have e : xs.take m = [] := List.eq_nil_of_length_eq_zero (by rw [List.length_take, h.1]; omega)
    rw [run_copy_none (P := P) w dT sT ty elem _ _ _ _ _ _ hu hs (by simpa using h0), e, h0]
    rfl
  · obtain ⟨ad, rfl, hc⟩ := h.2.2.2 (by omega)
    have := run_copy_cells (P := P) w dT sT ty elem d o m mc ad n c (bvs (xs.take m)) hu hs hl (fun j v hv => ?_) (fun j hj => (hr j (by omega)).1) (fun j hj => (hr j (by omega)).2) (oneCell_bvs _)
    · rw [this, hl]; rfl
    · simp only [bvs, List.getElem?_map, Option.map_eq_some_iff] at hv
      obtain ⟨u, hu', rfl⟩ := hv
      rw [List.getElem?_take] at hu'
      split at hu'
      · exact hc j u hu'
      · cases hu'
/-- block g is just these cells, none frozen -/
def Blk (w : World) (g : Nat) (t : TypeId) (cs : Array Value) : Prop := w.heap[g]? = some (.cells cs t (0, 0))
section
variable {w w' : World} {g : Nat} {t : TypeId} {cs : Array Value}
theorem Blk.lt (h : Blk w g t cs) : g < w.heap.size := by
  rcases Nat.lt_or_ge g w.heap.size with hlt | hge
  · exact hlt
  · unfold Blk at h; rw [Array.getElem?_eq_none hge] at h; cases h
theorem Blk.cell (h : Blk w g t cs) (i : Nat) : w.cell? ⟨g, i, none⟩ = cs[i]? := cell_of_row w g i cs t (0, 0) h
theorem Blk.frozen (h : Blk w g t cs) (i : Nat) : w.frozen? ⟨g, i, none⟩ = false := by
  unfold Blk at h
  simp [World.frozen?, h]
theorem Blk.new (w : World) (t : TypeId) (cs : Array Value) : Blk (w.alloc (.cells cs t)) w.heap.size t cs := heap_alloc_new w _
theorem Blk.drew (h : Blk w g t cs) : Blk w.drew g t cs := h
theorem Blk.drewN (h : Blk w g t cs) (n : Nat) : Blk (w.drewN n) g t cs := h
theorem Blk.alloc (h : Blk w g t cs) (o : Obj) : Blk (w.alloc o) g t cs := (Below.heap_alloc w o g h.lt).trans h
theorem Blk.set_ (h : Blk w g t cs) (i : Nat) (u : Value) : Blk (w.setCell ⟨g, i, none⟩ u) g t (cs.setIfInBounds i u) := by
  unfold Blk at h ⊢
  simp [World.setCell, Array.getElem?_modify, h]
theorem Blk.far (h : Blk w g t cs) {p : Addr} (hp : g ≠ p.block) (u : Value) : Blk (w.setCell p u) g t cs := (Below.heap_setCell w p u g hp).trans h
theorem Blk.below {B : Nat} (h : Blk w g t cs) (hb : Below B w w') (hg : g < B) : Blk w' g t cs := (hb.block g hg).trans h
theorem Blk.grown {row : Option Nat} (h : Blk w g t cs) (hb : w.grownBy w' row) (hg : some g ≠ row) : Blk w' g t cs := (hb.block g h.lt hg).trans h
theorem Blk.room (h : Blk w g t cs) (o k : Nat) (hk : o + k ≤ cs.size) : RoomAt w g o k := by
  intro j hj
  rw [h.cell, h.frozen]
  simp; omega
theorem Blk.cells (h : Blk w g t cs) (o : Nat) (vs : List Value) (hv : ∀ j u, vs[j]? = some u → cs[o + j]? = some u) : CellsAt w g o vs := by
  intro j u hu
  rw [h.cell]
  exact hv j u hu
theorem Blk.setCells (h : Blk w g t cs) : ∀ (vs : List Value) (o : Nat), o + vs.length ≤ cs.size → Blk (w.setCells g o vs) g t (ovw cs o vs) := by
  intro vs
  induction vs generalizing w cs with
  | nil => intro o _; simpa [World.setCells, ovw] using h
  | cons v r ih =>
    intro o ho
    simp only [List.length_cons] at ho
    simp only [World.setCells]
    have h2 := ih (h.set_ o v) (o + 1) (by simp; omega)
    have e : ovw (cs.setIfInBounds o v) (o + 1) r = ovw cs o (v :: r) := by
      apply Array.ext_getElem?
      intro j
      rw [get_ovw _ _ _ (by simp; omega), get_ovw _ _ _ (by simp; omega)]
      simp only [List.length_cons]
      by_cases h1 : o + 1 ≤ j ∧ j < o + 1 + r.length
      · rw [if_pos h1, if_pos (by omega)]
        obtain ⟨i, rfl⟩ : ∃ i, j = o + 1 + i := ⟨j - (o + 1), by omega⟩
        rw [show o + 1 + i - (o + 1) = i by omega, show o + 1 + i - o = i + 1 by omega]; simp
      · rw [if_neg h1]
        by_cases h2 : j = o
        · subst h2
          rw [if_pos (by omega), Array.getElem?_setIfInBounds, if_pos rfl, if_pos (by omega)]
          simp
        · rw [if_neg (by omega)]
          simp [Array.getElem?_setIfInBounds, Ne.symm h2]
    rw [e] at h2
    exact h2
theorem heap_setCells_other : ∀ (vs : List Value) (o : Nat) (w : World) (n k : Nat), k ≠ n → (w.setCells n o vs).heap[k]? = w.heap[k]?
  | [], _, _, _, _, _ => rfl
  | v :: r, o, w, n, k, hk => by
    simp only [World.setCells]
    rw [heap_setCells_other r (o + 1) _ n k hk]
    exact Below.heap_setCell w _ _ _ hk
theorem Blk.farCells (h : Blk w g t cs) (n o : Nat) (vs : List Value) (hn : g ≠ n) : Blk (w.setCells n o vs) g t cs := (heap_setCells_other vs o w n g hn).trans h
end
theorem below_setCells {B : Nat} {a w : World} (h : Below B a w) (g o : Nat) (vs : List Value) (hg : B ≤ g) : Below B a (w.setCells g o vs) := by
  induction vs generalizing w o with
  | nil => exact h
  | cons v r ih => exact ih (h.setCell (p := ⟨g, o, none⟩) hg v) (o + 1)
theorem thn {w w1 w2 : World} (h : Below w.heap.size w w1) (k : Below w1.heap.size w1 w2) : Below w.heap.size w w2 := h.trans (k.mono h.size)
theorem al {w w1 : World} (h : Below w.heap.size w w1) (o : Obj) : Below w.heap.size w (w1.alloc o) := h.alloc h.size o
end Go.Proofs.YtejnfahfjmeabaaGreatDoor
namespace Go.Proofs.YtejnfahfjmeabaaGreatDoor
open Go.RowKit

theorem Tryz.info5 : (Tryz.prog.info? 5).map (fun i => (i.zero, i.size, i.bytes)) = some (some (.int .u8 0), 1, 1) := by kernel_rfl

/-- the value v is a row of its own, from block B on, that holds the bytes xs -/
def OwnB (w : World) (B : Nat) (v : Value) (xs : List UInt8) : Prop := w.ownsRow B 5 1 v xs.length (bvs xs)
theorem OwnB.of {w : World} {B : Nat} {v : Value} {xs : List UInt8} {n : Nat} (h : w.ownsRow B 5 1 v n (bvs xs)) : OwnB w B v xs := by
  have : xs.length = n := by have := h.1; simpa [bvs_length] using this
  subst this
  exact h
theorem OwnB.nil (w : World) (B : Nat) : OwnB w B (.slice none 0 0) [] := World.ownsRow_nil w B 5 1
theorem OwnB.alloc {w : World} {B : Nat} {v : Value} {xs : List UInt8} (h : OwnB w B v xs) (o : Obj) : OwnB (w.alloc o) B v xs := World.ownsRow.alloc h o
theorem OwnB.drew {w : World} {B : Nat} {v : Value} {xs : List UInt8} (h : OwnB w B v xs) : OwnB w.drew B v xs := h
theorem OwnB.drewN {w : World} {B : Nat} {v : Value} {xs : List UInt8} (h : OwnB w B v xs) (k : Nat) : OwnB (w.drewN k) B v xs := h
theorem OwnB.below {w w1 : World} {B : Nat} {v : Value} {xs : List UInt8} (h : OwnB w B v xs) (hb : Below w.heap.size w w1) : OwnB w1 B v xs :=
  World.ownsRow.kept h (row := none) ⟨hb.os, hb.tape, hb.output, hb.size, fun i hi _ => hb.block i hi⟩ (by cases v.ownBlock <;> simp)
theorem OwnB.more {w : World} {B B' : Nat} {v : Value} {xs : List UInt8} (h : OwnB w B v xs) (hB : B' ≤ B) : OwnB w B' v xs := by
  refine ⟨h.1, ?_⟩
  rcases h.2 with h | ⟨g, cap, cur, hv, hg, r⟩
  · exact .inl h
  · exact .inr ⟨g, cap, cur, hv, by omega, r⟩
/-- what is owned reads -/
theorem OwnB.reads {w : World} {B : Nat} {v : Value} {xs : List UInt8} (h : OwnB w B v xs) : ∃ A c, v = .slice A xs.length c ∧ RdB w A xs.length c xs := by
  rcases h.2 with ⟨rfl, h0⟩ | ⟨g, cap, cur, rfl, hb, hh, hn, hm, _⟩
  · rw [h0]
    exact ⟨none, 0, rfl, h0, Nat.le_refl _, by unfold maxLen; omega, fun hp => absurd hp (by omega)⟩
  · refine ⟨_, cap, rfl, rfl, hn, hm, fun hp => ⟨_, rfl, fun j u hu => ?_⟩⟩
    exact World.ownsRow.cells h (g := g) rfl j (bv u) (by simp [bvs, hu])
theorem OwnB.block {w : World} {B : Nat} {v : Value} {xs : List UInt8} (h : OwnB w B v xs) : ∀ k, v.ownBlock = some k → B ≤ k ∧ k < w.heap.size := World.ownsRow.lt h

/-- 'append(s, x...)', s a row of the call's own, x bytes that lie somewhere (nil too) -/
theorem run_appendB (w : World) (ty : TypeId) (B : Nat) (v : Value) (xs ys : List UInt8) (A : Option Addr) (n c : Nat) (hown : OwnB w B v xs) (hr : RdB w A n c ys)
    (hl : xs.length + n ≤ 140737488355328) (hB : B ≤ w.heap.size) :
    ∃ v' w', (Builtin.append_ #[34, 34] ty #[v, .slice A n c]).run Tryz.prog w = .ok v' w' ∧ OwnB w' B v' (xs ++ ys) ∧ w.grownBy w' v.ownBlock ∧ Below B w w' := by
  obtain ⟨i0, hi, hz0, hz1, hz2⟩ := info_parts Tryz.info5
  have hbel : ∀ w', w.grownBy w' v.ownBlock → Below B w w' := fun w' hg => (Below.refl B w).grown hg hB (fun k hk => (hown.block k hk).1)
  by_cases h0 : n = 0
  · subst h0
    have e : ys = [] := List.eq_nil_of_length_eq_zero hr.1
    subst e
    refine ⟨v, w, ?_, by simpa using hown, World.grownBy.refl w _, Below.refl _ _⟩
    cases A with
    | none =>
      have h := hown
      rcases h.2 with ⟨rfl, _⟩ | ⟨g, cap, cur, rfl, _, _, hnc, _⟩
      · simp [Builtin.append_, run_underlying Tryz.underlying34, sizeOf, typeInfo, hi, Builtin.lenOf, Builtin.firstCells]
      · simp [Builtin.append_, run_underlying Tryz.underlying34, sizeOf, typeInfo, hi, Builtin.lenOf, Builtin.firstCells, hnc, storeCells]
    | some ad =>
      have h := hown
      rcases h.2 with ⟨rfl, _⟩ | ⟨g, cap, cur, rfl, _, _, hnc, _⟩
      · simp [Builtin.append_, run_underlying Tryz.underlying34, sizeOf, typeInfo, hi, Builtin.lenOf, Builtin.firstCells, loadCells, loadCellsFrom]
      · simp [Builtin.append_, run_underlying Tryz.underlying34, sizeOf, typeInfo, hi, Builtin.lenOf, Builtin.firstCells, hnc, storeCells, loadCells, loadCellsFrom]
  · obtain ⟨ad, rfl, hc⟩ := hr.2.2.2 (by omega)
    obtain ⟨v', w', h1, h2, h3, _⟩ := run_append_own (P := Tryz.prog) w B 34 ty 5 i0 (.int .u8 0) 1 1 Tryz.underlying34 hi hz0 hz1 hz2 rfl (by omega) v xs.length (bvs xs) hown ad n c (bvs ys)
      (by rw [bvs_length, hr.1]; omega) (fun j u hu => by
        simp only [bvs, List.getElem?_map, Option.map_eq_some_iff] at hu
        obtain ⟨b, hb, rfl⟩ := hu
        exact hc j b hb) (oneCell_bvs ys) (by unfold maxLen; omega) (by omega) hB
    refine ⟨v', w', h1, ?_, h3, hbel w' h3⟩
    rw [← bvs_append] at h2
    exact OwnB.of h2

/-- the same as a law of the walk -/
theorem wpList_appendB (w : World) {ops : Array Oper} {rest : List Oper} {o : Oper} {a : Act} {Q : Exit → Act → World → Prop}
    (hgd : o.guard = none) (s x : Operand) (ho : o.op = .call { callee := .builtin .append, args := #[s, x], argTypes := #[34, 34] })
    (B : Nat) (v : Value) (xs ys : List UInt8) (hs : a.eval s = v) (A : Option Addr) (n c : Nat) (hx : a.eval x = .slice A n c) (hown : OwnB w B v xs) (hr : RdB w A n c ys)
    (hl : xs.length + n ≤ 140737488355328) (hB : B ≤ w.heap.size)
    (h : ∀ v' w', OwnB w' B v' (xs ++ ys) → w.grownBy w' v.ownBlock → Below B w w' → wpList Tryz.prog ops Q rest (a.put o.dst v') w') : wpList Tryz.prog ops Q (o :: rest) a w := by
  obtain ⟨v', w', hrun, h1, h2, h3⟩ := run_appendB w o.type B v xs ys A n c hown hr hl hB
  refine wpList_plain hgd fun K hK' => ?_
  unfold Oper.wp execOp
  simp only [ho, resolve, invoke, builtin, Sem.run_bind, Sem.run_pure, Result.andThen_ok, List.map_toArray, List.map_cons, List.map_nil, hs, hx, hrun]
  exact hK' _ _ (h v' w' h1 h2 h3)

/-- one byte that has just been laid -/
theorem RdB.one (w : World) (t : TypeId) (b : UInt8) (n : Int) (hn : n = (b.toNat : Int)) : RdB (w.alloc (.cells #[.int .u8 n] t)) (some ⟨w.heap.size, 0, none⟩) 1 1 [b] := by
  subst hn
  refine ⟨rfl, Nat.le_refl _, by unfold maxLen; omega, fun _ => ⟨_, rfl, fun j u hu => ?_⟩⟩
  match j, hu with
  | 0, hu =>
    obtain rfl : b = u := by simpa using hu
    rw [show (⟨w.heap.size, 0, none⟩ : Addr).add 0 = ⟨w.heap.size, 0, none⟩ from rfl, World.cell?_alloc_at _ _ _ _ rfl]
    rfl
/-- a slice of one byte that has just been made -/
theorem OwnB.one (w : World) (b : UInt8) (n : Int) (hn : n = (b.toNat : Int)) (B : Nat) (hB : B ≤ w.heap.size) : OwnB (w.alloc (.cells #[.int .u8 n] 5)) B (.slice (some ⟨w.heap.size, 0, none⟩) 1 1) [b] := by
  subst hn
  exact ⟨by simp [bvs], .inr ⟨w.heap.size, 1, _, rfl, hB, heap_alloc_new w _, Nat.le_refl _, by unfold maxLen; omega, rfl, rfl⟩⟩
theorem OwnB.many (w : World) (bs : List UInt8) (B : Nat) (hB : B ≤ w.heap.size) (hm : bs.length ≤ 1000000) : OwnB (w.alloc (.cells (bvs bs).toArray 5)) B (.slice (some ⟨w.heap.size, 0, none⟩) bs.length bs.length) bs :=
  ⟨by simp [bvs], .inr ⟨w.heap.size, bs.length, _, rfl, hB, heap_alloc_new w _, Nat.le_refl _, by unfold maxLen; omega, by simp [bvs], by rw [← bvs_length bs]; simp⟩⟩
/-- a row of bytes that has just been laid -/
theorem RdB.many (w : World) (t : TypeId) (bs : List UInt8) {n : Nat} (hn : bs.length = n) (hm : n ≤ maxLen := by unfold maxLen; omega) : RdB (w.alloc (.cells (bvs bs).toArray t)) (some ⟨w.heap.size, 0, none⟩) n n bs := by
  refine ⟨hn, Nat.le_refl _, hm, fun _ => ⟨_, rfl, fun j u hu => ?_⟩⟩
  have e : (⟨w.heap.size, 0, none⟩ : Addr).add j = ⟨w.heap.size, j, none⟩ := by unfold Addr.add; split <;> simp_all
  rw [e, World.cell?_alloc_at _ _ _ _ rfl]
  simp [bvs, hu]
end Go.Proofs.YtejnfahfjmeabaaGreatDoor
namespace Go.Proofs.YtejnfahfjmeabaaGreatDoor
open Go.RowKit

/-- the slice value (A, n, c) reads as a list of byte lists -/
def RdL (w : World) (A : Option Addr) (n c : Nat) (yss : List (List UInt8)) : Prop :=
  yss.length = n ∧ n ≤ c ∧ c ≤ maxLen ∧ (0 < n → ∃ ad, A = some ad ∧ ∀ j ys, yss[j]? = some ys → ∃ B m, w.cell? (ad.add j) = some (.slice B ys.length m) ∧ RdB w B ys.length m ys)

theorem RdL.below {w w1 : World} {A : Option Addr} {n c : Nat} {yss : List (List UInt8)} (h : RdL w A n c yss) (hb : Below w.heap.size w w1) : RdL w1 A n c yss :=
  ⟨h.1, h.2.1, h.2.2.1, fun hn => by
    obtain ⟨ad, e, hc⟩ := h.2.2.2 hn
    refine ⟨ad, e, fun j ys hj => ?_⟩
    obtain ⟨B, m, h1, h2⟩ := hc j ys hj
    exact ⟨B, m, by rw [hb.cell (World.block_lt_of_cell? w _ h1)]; exact h1, h2.below hb⟩⟩
theorem RdL.at_ {w : World} {A : Option Addr} {n c : Nat} {yss : List (List UInt8)} (h : RdL w A n c yss) {k : Nat} (hk : k < n) :
    ∃ ad B m, A = some ad ∧ yss[k]? = some (yss.getD k []) ∧ w.cell? (ad.add k) = some (.slice B (yss.getD k []).length m) ∧ RdB w B (yss.getD k []).length m (yss.getD k []) := by
  obtain ⟨ad, e, hc⟩ := h.2.2.2 (by omega)
  have hl : k < yss.length := by have := h.1; omega
  have hg : yss[k]? = some (yss.getD k []) := by rw [List.getD_eq_getElem?_getD, List.getElem?_eq_getElem hl]; rfl
  obtain ⟨B, m, h1, h2⟩ := hc k _ hg
  exact ⟨ad, B, m, e, hg, h1, h2⟩
end Go.Proofs.YtejnfahfjmeabaaGreatDoor
namespace Go.Proofs.YtejnfahfjmeabaaGreatDoor
open Go.RowKit

section
variable {P : Program}
/-- is it a type of several cells, so many? -/
def AggT (P : Program) (ty : TypeId) (n : Nat) : Prop :=
  (P.underlying ty).elim False (fun d => (match d with | .struct _ | .array _ _ => true | _ => false) = true) ∧ (P.info? ty).map (·.size) = some n
theorem run_isAgg {ty : TypeId} {n : Nat} (h : AggT P ty n) (w : World) : (isAgg ty).run P w = .ok true w := by
  obtain ⟨h1, _⟩ := h
  cases hq : P.underlying ty with
  | none => rw [hq] at h1; exact h1.elim
  | some d =>
    rw [hq] at h1
    simp only [Option.elim] at h1
    unfold isAgg
    rw [Sem.run_bind, run_underlying hq w]
    cases d <;> simp_all
theorem run_sizeOf {ty : TypeId} {n : Nat} (h : AggT P ty n) (w : World) : (sizeOf ty).run P w = .ok n w := by
  obtain ⟨_, h2⟩ := h
  cases hq : P.info? ty with
  | none => simp [hq] at h2
  | some i =>
    have hs : i.size = n := by simpa [hq] using h2
    simp [sizeOf, typeInfo, hq, hs]
theorem run_loadAgg (w : World) (ty : TypeId) (g o : Nat) (vs : List Value) (ht : AggT P ty vs.length) (h : CellsAt w g o vs) :
    (loadVar ty ⟨g, o, none⟩).run P w = .ok (.agg vs.toArray) w := by
  simp only [loadVar, Sem.run_bind, run_isAgg ht, run_sizeOf ht, Result.andThen_ok, if_true, run_loadRow (P := P) w g o vs h, Sem.run_pure]
theorem wpList_loadAgg {ops : Array Oper} {rest : List Oper} {o : Oper} {a : Act} {w : World} {Q : Exit → Act → World → Prop} (hgd : o.guard = none) (ty : TypeId) (x : Operand) (ho : o.op = .load ty x)
    (g p : Nat) (hx : a.eval x = .pointer (some ⟨g, p, none⟩)) (vs : List Value) (ht : AggT P ty vs.length) (hc : CellsAt w g p vs)
    (h : wpList P ops Q rest (a.put o.dst (.agg vs.toArray)) w) : wpList P ops Q (o :: rest) a w :=
  wpList_plain hgd fun K hK => by
    unfold Oper.wp execOp
    simp only [ho, hx, Instr.loadAt, Instr.sureAddr, Sem.run_bind, Sem.run_pure, Result.andThen_ok, run_loadAgg w ty g p vs ht hc]
    exact hK _ _ h
/-- the same where the operation is guarded, and the guard says yes -/
theorem wpList_loadAggG {ops : Array Oper} {rest : List Oper} {o : Oper} {a : Act} {w : World} {Q : Exit → Act → World → Prop} (hw : Region.wanted o (yielded ops a.tmps) = true) (ty : TypeId) (x : Operand) (ho : o.op = .load ty x)
    (g p : Nat) (hx : a.eval x = .pointer (some ⟨g, p, none⟩)) (vs : List Value) (ht : AggT P ty vs.length) (hc : CellsAt w g p vs)
    (h : wpList P ops Q rest (a.put o.dst (.agg vs.toArray)) w) : wpList P ops Q (o :: rest) a w :=
  wpList_step fun K hK => by
    rw [if_pos hw]
    unfold Oper.wp execOp
    simp only [ho, hx, Instr.loadAt, Instr.sureAddr, Sem.run_bind, Sem.run_pure, Result.andThen_ok, run_loadAgg w ty g p vs ht hc]
    exact hK _ _ h
theorem run_storeAgg (w : World) (ty : TypeId) (g o : Nat) (vs : Array Value) (ht : AggT P ty vs.size) (hr : RoomAt w g o vs.size) (h1 : AllOne vs.toList) :
    (storeVar ty ⟨g, o, none⟩ (.agg vs)).run P w = .ok () (w.setCells g o vs.toList) := by
  have := run_storeRow (P := P) w g o vs.toList (by simpa using hr) h1
  simp [storeVar, Sem.run_bind, Value.cells, run_sizeOf ht, this]
theorem wpList_storeAgg {ops : Array Oper} {rest : List Oper} {o : Oper} {a : Act} {w : World} {Q : Exit → Act → World → Prop} (hgd : o.guard = none) (hdst : o.dst = none) (ty : TypeId) (x y : Operand) (ho : o.op = .store ty x y)
    (g p : Nat) (hx : a.eval x = .pointer (some ⟨g, p, none⟩)) (vs : Array Value) (hy : a.eval y = .agg vs) (ht : AggT P ty vs.size) (hr : RoomAt w g p vs.size) (h1 : AllOne vs.toList)
    (h : wpList P ops Q rest a (w.setCells g p vs.toList)) : wpList P ops Q (o :: rest) a w :=
  wpList_plain hgd fun K hK => by
    unfold Oper.wp execOp
    simp only [ho, hx, hy, Instr.storeAt, Instr.sureAddr, Sem.run_bind, Sem.run_pure, Result.andThen_ok, run_storeAgg w ty g p vs ht hr h1]
    show K (a.put o.dst undef) _
    rw [hdst]
    exact hK _ _ h
/-- into a variable that has just been made -/
theorem wpList_storeNew {ops : Array Oper} {rest : List Oper} {o : Oper} {a : Act} {w : World} {Q : Exit → Act → World → Prop} (hgd : o.guard = none) (hdst : o.dst = none) (ty : TypeId) (x y : Operand) (ho : o.op = .store ty x y)
    (c : Array Value) (t : TypeId) (hx : a.eval x = .pointer (some ⟨w.heap.size, 0, none⟩)) (vs : Array Value) (hy : a.eval y = .agg vs) (ht : AggT P ty vs.size) (hs : c.size = vs.size) (h1 : AllOne vs.toList)
    (h : wpList P ops Q rest a (w.alloc (.cells vs t))) : wpList P ops Q (o :: rest) a (w.alloc (.cells c t)) := by
  refine wpList_storeAgg hgd hdst ty x y ho _ 0 hx vs hy ht (roomAt_alloc_at w c t _ 0 _ rfl (by omega)) h1 ?_
  rw [setCells_alloc_at _ _ _ _ _ _ rfl (by simp; omega), ovw_all _ _ (by simpa using hs)]
  simpa using h
end
end Go.Proofs.YtejnfahfjmeabaaGreatDoor
namespace Go.Proofs.YtejnfahfjmeabaaGreatDoor
open Go.RowKit

theorem foldl_ovw : ∀ (vs : List Value) (off i : Nat) (cells : Array Value), off + i + vs.length ≤ cells.size →
    (vs.zipIdx i).foldl (fun (cs : Array Value) (p : Value × Nat) => cs.setIfInBounds (off + p.2) p.1) cells = ovw cells (off + i) vs
  | [], off, i, cells, _ => by simp [ovw]
  | v :: r, off, i, cells, h => by
    simp only [List.length_cons] at h
    simp only [List.zipIdx_cons, List.foldl_cons]
    rw [foldl_ovw r off (i + 1) _ (by simp; omega)]
    apply Array.ext_getElem?
    intro j
    rw [get_ovw _ _ _ (by simp; omega), get_ovw _ _ _ (by simp; omega)]
    simp only [List.length_cons]
    by_cases h1 : off + (i + 1) ≤ j ∧ j < off + (i + 1) + r.length
    · rw [if_pos h1, if_pos (by omega)]
      obtain ⟨k, rfl⟩ : ∃ k, j = off + (i + 1) + k := ⟨j - (off + (i + 1)), by omega⟩
      rw [show off + (i + 1) + k - (off + (i + 1)) = k by omega, show off + (i + 1) + k - (off + i) = k + 1 by omega]; simp
    · rw [if_neg h1]
      by_cases h2 : j = off + i
      · subst h2
        rw [if_pos (by omega), Array.getElem?_setIfInBounds, if_pos rfl, if_pos (by omega)]
        simp
      · rw [if_neg (by omega)]
        simp [Array.getElem?_setIfInBounds, Ne.symm h2]

theorem fill_cons (place : Nat → Option (Nat × Nat)) (cells : Array Value) (i : Nat) (v : Value) (rest : List (Nat × Value)) (off size : Nat) (hp : place i = some (off, size))
    (hs : v.cells.size = size) (hf : off + size ≤ cells.size) : Instr.fill place cells ((i, v) :: rest) = Instr.fill place (ovw cells off v.cells.toList) rest := by
  have h := foldl_ovw v.cells.toList off 0 cells (by simp; omega)
  rw [Instr.fill]
  simp only [hp]
  rw [if_neg (by simp; omega)]
  congr 1
  rw [← Array.foldl_toList, Array.toList_zipIdx]
  exact h

section
variable {P : Program}
/-- a slice of one, of two rows -/
theorem run_buildSlice1 (w : World) (t e : TypeId) (k : Nat) (cs : Array Value) (ht : P.underlying t = some (.slice e)) (he : AggT P e k) (hz : ((P.info? e).bind (·.zero)).isSome = true) (hs : cs.size = k) (hk : k ≤ 1000) (hk0 : 0 < k) :
    (Instr.buildSlice t 1 #[(0, .agg cs)]).run P w = .ok (.slice (some ⟨w.heap.size, 0, none⟩) 1 1) (w.alloc (.cells cs e)) := by
  obtain ⟨z, hz⟩ := Option.isSome_iff_exists.1 hz
  have hzr : (zeroValue e).run P w = .ok z w := by
    cases hq : P.info? e with
    | none => simp [hq] at hz
    | some i => simp [zeroValue, typeInfo, hq] at hz ⊢; simp [hz]
  have hc : (Array.map (fun x => z.cells[x % z.cells.size]!) (Array.range (1 * k))).size = k := by simp
  unfold Instr.buildSlice
  simp only [Sem.run_bind, run_underlying ht, Result.andThen_ok, run_sizeOf he]
  rw [if_neg (by omega), if_neg (by omega)]
  simp only [Sem.run_bind, hzr, Result.andThen_ok, Sem.run_pure, Array.toList]
  rw [fill_cons _ _ 0 (.agg cs) _ 0 k (by simp) hs (by simp), Instr.fill, ovw_all _ _ (by rw [hc]; simp [Value.cells, hs])]
  rfl
theorem run_buildSlice2 (w : World) (t e : TypeId) (k : Nat) (cs ds : Array Value) (ht : P.underlying t = some (.slice e)) (he : AggT P e k) (hz : ((P.info? e).bind (·.zero)).isSome = true) (hs : cs.size = k) (hd : ds.size = k) (hk : k ≤ 1000) (hk0 : 0 < k) :
    (Instr.buildSlice t 2 #[(0, .agg cs), (1, .agg ds)]).run P w = .ok (.slice (some ⟨w.heap.size, 0, none⟩) 2 2) (w.alloc (.cells (cs ++ ds) e)) := by
  obtain ⟨z, hz⟩ := Option.isSome_iff_exists.1 hz
  have hzr : (zeroValue e).run P w = .ok z w := by
    cases hq : P.info? e with
    | none => simp [hq] at hz
    | some i => simp [zeroValue, typeInfo, hq] at hz ⊢; simp [hz]
  have hc : (Array.map (fun x => z.cells[x % z.cells.size]!) (Array.range (2 * k))).size = 2 * k := by simp
  unfold Instr.buildSlice
  simp only [Sem.run_bind, run_underlying ht, Result.andThen_ok, run_sizeOf he]
  rw [if_neg (by omega), if_neg (by omega)]
  simp only [Sem.run_bind, hzr, Result.andThen_ok, Sem.run_pure, Array.toList]
  generalize Array.map (fun x => z.cells[x % z.cells.size]!) (Array.range (2 * k)) = Z at hc ⊢
  have h1 : (ovw Z 0 (Value.agg cs).cells.toList).size = 2 * k := by
    rw [size_ovw _ _ _ (by simp [Value.cells, hs]; omega), hc]
  rw [fill_cons _ _ 0 (.agg cs) _ 0 k (by simp) hs (by rw [hc]; omega), fill_cons _ _ 1 (.agg ds) _ k k (by simp) hd (by rw [h1]; omega), Instr.fill]
  have e : ovw (ovw Z 0 (Value.agg cs).cells.toList) k (Value.agg ds).cells.toList = cs ++ ds := by
    apply Array.ext_getElem?
    intro j
    rw [get_ovw _ _ _ (by rw [h1]; simp [Value.cells, hd]; omega), get_ovw _ _ _ (by rw [hc]; simp [Value.cells, hs]; omega), Array.getElem?_append]
    simp only [Value.cells, Array.length_toList, hs, hd, Nat.zero_add, Nat.zero_le, true_and, Nat.sub_zero, Array.getElem?_toList]
    by_cases h2 : j < k
    · rw [if_neg (by omega), if_pos h2, if_pos h2]
    · rw [if_neg h2]
      by_cases h3 : j < k + k
      · rw [if_pos ⟨by omega, h3⟩, if_neg h2]
      · rw [if_neg (by omega), if_neg (by omega), Array.getElem?_eq_none (by rw [hc]; omega), Array.getElem?_eq_none (by rw [hd]; omega)]
  rw [e]
  rfl
end
theorem foldl_all (cells : Array Value) (vs : List Value) (h : cells.size = vs.length) : List.foldl (fun (cs : Array Value) (x : Value × Nat) => cs.setIfInBounds x.2 x.1) cells vs.zipIdx = vs.toArray := by
  have := foldl_ovw vs 0 0 cells (by omega)
  simp only [Nat.zero_add] at this
  rw [this, ovw_all _ _ h]
theorem foldl_at (cells : Array Value) (n : Nat) (vs : List Value) (h : n + vs.length ≤ cells.size) : List.foldl (fun (cs : Array Value) (x : Value × Nat) => cs.setIfInBounds (n + x.2) x.1) cells vs.zipIdx = ovw cells n vs := by
  have := foldl_ovw vs n 0 cells (by omega)
  simpa using this
theorem foldl_0 (cells : Array Value) (vs : List Value) (h : vs.length ≤ cells.size) : List.foldl (fun (cs : Array Value) (x : Value × Nat) => cs.setIfInBounds x.2 x.1) cells vs.zipIdx = ovw cells 0 vs := by
  have := foldl_ovw vs 0 0 cells (by omega)
  simpa only [Nat.zero_add] using this
theorem ovw_two (cells : Array Value) (n m : Nat) (xs ys : List Value) (hx : xs.length = n) (hy : ys.length = m) (hc : cells.size = n + m) : ovw (ovw cells 0 xs) n ys = (xs ++ ys).toArray := by
  have h1 : (ovw cells 0 xs).size = n + m := by rw [size_ovw _ _ _ (by omega), hc]
  apply Array.ext_getElem?
  intro j
  rw [get_ovw _ _ _ (by omega), get_ovw _ _ _ (by omega)]
  conv => rhs; rw [List.getElem?_toArray, List.getElem?_append]
  simp only [Nat.zero_add, Nat.zero_le, true_and, Nat.sub_zero, hx, hy]
  by_cases h2 : j < n
  · rw [if_neg (by omega), if_pos h2, if_pos h2]
  · by_cases h3 : j < n + m
    · rw [if_pos ⟨by omega, h3⟩, if_neg h2]
    · rw [if_neg (by omega), if_neg h2, if_neg h2, Array.getElem?_eq_none (by omega), List.getElem?_eq_none (by omega)]
/-- two results, the first one a struct that lies in memory -/
theorem results_agg_tmp {P : Program} {fn : Func} {p q : Tmp} {ty : TypeId} (h : fn.results = #[.cell p ty, .tmp q]) (tmps : Array Value) (w : World) (g : Nat) (vs : Array Value)
    (hp : tmps.getD p undef = .pointer (some ⟨g, 0, none⟩)) (ht : AggT P ty vs.size) (hc : CellsAt w g 0 vs.toList) :
    (results fn tmps).run P w = .ok (.tuple #[.agg vs, tmps.getD q undef]) w := by
  have hp' : tmps[p]?.getD undef = .pointer (some ⟨g, 0, none⟩) := by simpa using hp
  have hl := run_loadAgg (P := P) w ty g 0 vs.toList (by simpa using ht) hc
  simp [results, h, hp', asAddr, hl]
theorem cellsAt_blk {w : World} {g : Nat} {t : TypeId} {cs : Array Value} (h : Blk w g t cs) : CellsAt w g 0 cs.toList :=
  h.cells 0 _ (fun j u hu => by simpa using hu)
theorem roomAt_past1 (w : World) (c : Array Value) (t : TypeId) (b : Obj) (o k : Nat) (h : o + k ≤ c.size) : RoomAt ((w.alloc (.cells c t)).alloc b) w.heap.size o k :=
  roomAt_alloc_past _ _ _ _ _ (by simp) (roomAt_alloc_at w c t _ o k rfl h)
theorem roomAt_past2 (w : World) (c : Array Value) (t : TypeId) (b b' : Obj) (o k : Nat) (h : o + k ≤ c.size) : RoomAt (((w.alloc (.cells c t)).alloc b).alloc b') w.heap.size o k :=
  roomAt_alloc_past _ _ _ _ _ (by simp; omega) (roomAt_past1 w c t b o k h)
theorem roomAt_past3 (w : World) (c : Array Value) (t : TypeId) (b b' b'' : Obj) (o k : Nat) (h : o + k ≤ c.size) : RoomAt ((((w.alloc (.cells c t)).alloc b).alloc b').alloc b'') w.heap.size o k :=
  roomAt_alloc_past _ _ _ _ _ (by simp; omega) (roomAt_past2 w c t b b' o k h)
theorem roomAt_at1 (w : World) (a : Obj) (c : Array Value) (t : TypeId) (o k : Nat) (h : o + k ≤ c.size) : RoomAt ((w.alloc a).alloc (.cells c t)) (w.heap.size + 1) o k := roomAt_alloc_at _ c t _ o k (by simp) h
/-- the same as rewritings: a walk's simp goes one premise deep at each -/
theorem roomAt_drew_eq (w : World) (n o k : Nat) : RoomAt w.drew n o k = RoomAt w n o k := rfl
theorem roomAt_drewN_eq (w : World) (m n o k : Nat) : RoomAt (w.drewN m) n o k = RoomAt w n o k := rfl
theorem roomAt_past_eq (w : World) (b : Obj) (n o k : Nat) (hn : n < w.heap.size) : RoomAt (w.alloc b) n o k = RoomAt w n o k := by
  apply propext
  unfold RoomAt
  constructor
  · intro h j hj
    have := h j hj
    rwa [World.cell?_alloc_lt w b ⟨n, o + j, none⟩ hn, World.frozen?_alloc_past b n _ hn] at this
  · intro h
    exact roomAt_alloc_past w b n o k hn h
end Go.Proofs.YtejnfahfjmeabaaGreatDoor
namespace Go.Proofs.YtejnfahfjmeabaaGreatDoor
open Go.RowKit

/-- the string of so many bytes -/
def str (xs : List UInt8) : ByteArray := ⟨xs.toArray⟩
theorem str_toList (xs : List UInt8) : (str xs).data.toList = xs := rfl
theorem str_list (xs : List UInt8) : (str xs).toList = xs := by rw [ByteArray.toList_eq]; rfl
theorem str_size (xs : List UInt8) : (str xs).size = xs.length := rfl
theorem str_eta (s : ByteArray) : str s.data.toList = s := by
  unfold str
  obtain ⟨⟨l⟩⟩ := s
  rfl

theorem strOfNums_bytes (xs : List UInt8) : strOfNums (xs.map fun b => (b.toNat : Int)) = str xs := by
  simp only [strOfNums, str, List.map_map]
  congr 2
  conv => rhs; rw [← List.map_id xs]
  apply List.map_congr_left
  intro b _
  simp
theorem run_convertB {P : Program} (w : World) (src e dst : TypeId) (hs : P.underlying src = some (.slice e)) (he : P.underlying e = some (.int .u8)) (hd : P.underlying dst = some .string)
    {A : Option Addr} {n c : Nat} {xs : List UInt8} (h : RdB w A n c xs) : (convert src dst (.slice A n c)).run P w = .ok (.string (str xs)) w := by
  rcases Nat.eq_zero_or_pos n with h0 | h0
  · subst h0
    have e1 : xs = [] := List.eq_nil_of_length_eq_zero h.1
    subst e1
    rw [run_convert_bytes_string w src dst e _ 0 c hs he hd]
    cases A with
    | none => rfl
    | some ad =>
      have hl : (loadCells ad 0).run P w = .ok #[] w := rfl
      simp only [Conv.bytesToString, Sem.run_bind, hl, Result.andThen_ok]
      rfl
  · obtain ⟨ad, rfl, hc⟩ := h.2.2.2 h0
    obtain ⟨b, o, sp⟩ := ad
    have hx : ∃ u, xs[0]? = some u := ⟨_, List.getElem?_eq_getElem (by rw [h.1]; exact h0)⟩
    obtain ⟨u, hu⟩ := hx
    have hsp : sp = none := by
      have := hc 0 u hu
      cases sp with
      | none => rfl
      | some k =>
        simp only [Addr.add, if_true, World.cell?] at this
        split at this <;> simp at this
    subst hsp
    have := run_convert_bytes_arg (P := P) w src e hs he b o n c (xs.map fun b => (b.toNat : Int)) (by simpa using h.1) (fun i hi => by
      have hi' : i < xs.length := by rw [h.1]; exact hi
      have h2 := hc i xs[i] (List.getElem?_eq_getElem hi')
      have e : (⟨b, o, none⟩ : Addr).add i = ⟨b, o + i, none⟩ := by unfold Addr.add; split <;> simp_all
      rw [e] at h2
      rw [h2]
      simp [bv, List.getD_eq_getElem?_getD, List.getElem?_eq_getElem hi']) dst hd
    rw [this, strOfNums_bytes]
end Go.Proofs.YtejnfahfjmeabaaGreatDoor
namespace Go.Proofs.YtejnfahfjmeabaaGreatDoor
open Go.RowKit

def blit (b : UInt8) : Lit := .int .u8 (b.toNat : Int)
theorem blit_wf (b : UInt8) : (blit b).wf = true := by
  have := b.toNat_lt
  simp [blit, Lit.wf, IntKind.min, IntKind.max, IntKind.signed, IntKind.bits]; omega
theorem blits_inj {xs ys : List UInt8} (h : xs.map blit = ys.map blit) : xs = ys := by
  induction xs generalizing ys with
  | nil => cases ys with
    | nil => rfl
    | cons y ys => simp at h
  | cons x xs ih => cases ys with
    | nil => simp at h
    | cons y ys =>
      simp only [List.map_cons, List.cons.injEq] at h
      have h1 := h.1
      unfold blit at h1
      injection h1 with _ h1
      have h2 : x = y := UInt8.toNat_inj.1 (by omega)
      rw [ih h.2, h2]
theorem mapM_some {α β : Type} (f : α → Option β) (g : α → β) : ∀ l : List α, (∀ x ∈ l, f x = some (g x)) → l.mapM f = some (l.map g)
  | [], _ => rfl
  | x :: l, h => by
    rw [List.mapM_cons, h x (by simp), mapM_some f g l (fun y hy => h y (by simp [hy]))]
    rfl
section
variable {P : Program}
theorem keyLits_bytes (d : Nat) (t e : TypeId) (n : Nat) (xs : List UInt8) (ht : P.underlying t = some (.array n e)) (he : P.underlying e = some (.int .u8)) (hce : P.cellsOf e = 1) (hct : P.cellsOf t = n) (hx : xs.length = n) :
    P.keyLits (d + 2) t (bvs xs) = some (xs.map blit) := by
  unfold Program.keyLits
  rw [ht]
  simp only [hce, hct, bvs_length, hx, if_true, Nat.mul_one]
  have h : (List.range n).mapM (fun i => P.keyLits (d + 1) e (((bvs xs).drop i).take 1)) = some ((List.range n).map fun i => [blit (xs.getD i 0)]) := by
    refine mapM_some _ _ _ (fun i hi => ?_)
    have hi' : i < xs.length := by rw [hx]; exact List.mem_range.1 hi
    have e1 : ((bvs xs).drop i).take 1 = [bv xs[i]] := by
      rw [bvs_drop, List.drop_eq_getElem_cons hi']
      rfl
    rw [e1]
    unfold Program.keyLits
    rw [he]
    have hw := blit_wf xs[i]
    unfold blit at hw
    simp only [bv, hw, and_self, if_true]
    simp [blit, List.getD_eq_getElem?_getD, List.getElem?_eq_getElem hi']
  rw [h]
  simp only [Option.map_some, Option.some.injEq]
  rw [← List.flatMap_def]
  apply List.ext_getElem?
  intro j
  subst hx
  have e2 : (List.range xs.length).flatMap (fun i => [blit (xs.getD i 0)]) = (List.range xs.length).map (fun i => blit (xs.getD i 0)) := by
    generalize List.range xs.length = l
    induction l with
    | nil => rfl
    | cons a l ih => rw [List.flatMap_cons, ih]; rfl
  rw [e2, List.getElem?_map, List.getElem?_map]
  by_cases hj : j < xs.length
  · rw [List.getElem?_range hj]
    simp [hj]
  · rw [List.getElem?_eq_none (by simp; omega), List.getElem?_eq_none (by omega)]
    rfl
theorem run_equalBytes (w : World) (d : Nat) (t e : TypeId) (n : Nat) (x y : List UInt8) (hk : P.keyTypeAt 2 t = true) (ht : P.underlying t = some (.array n e)) (he : P.underlying e = some (.int .u8)) (hce : P.cellsOf e = 1) (hct : P.cellsOf t = n) (hx : x.length = n) (hy : y.length = n) :
    (Op.equalIn (d + 2) t (.agg (bvs x).toArray) (.agg (bvs y).toArray)).run P w = .ok (decide (x = y)) w := by
  have fx : ∀ z : List UInt8, z.length = n → (Value.agg (bvs z).toArray).formed P t = true := fun z hz => by unfold Value.formed; rw [ht, hct]; simp [bvs_length, hz]
  obtain ⟨r, hr, hiff⟩ := run_equalIn_deep d 2 t hk w 2 2 (.agg (bvs x).toArray) (.agg (bvs y).toArray) _ _ (fx x hx) (fx y hy) (keyLits_bytes 0 t e n x ht he hce hct hx) (keyLits_bytes 0 t e n y ht he hce hct hy)
  rw [hr]
  congr 1
  rw [Bool.eq_iff_iff, hiff, decide_eq_true_iff]
  exact ⟨blits_inj, fun h => by rw [h]⟩
end
/-- the same cells are the same, whatever the type of keys -/
theorem run_equalSame {P : Program} (w : World) (m d D : Nat) (t : TypeId) (v : Value) (l : List Lit) (hk : P.keyTypeAt m t = true) (hf : v.formed P t = true) (hl : P.keyLits D t v.cells.toList = some l) :
    (Op.equalIn (d + m) t v v).run P w = .ok true w := by
  obtain ⟨r, hr, hiff⟩ := run_equalIn_deep d m t hk w D D v v _ _ hf hf hl hl
  rw [hr, hiff.2 rfl]
end Go.Proofs.YtejnfahfjmeabaaGreatDoor
namespace Go.Proofs.YtejnfahfjmeabaaGreatDoor
open Go.RowKit
set_option linter.unusedSimpArgs false
set_option linter.unusedVariables false

theorem cell_below' {w w1 : World} (hb : Below w.heap.size w w1) {p : Addr} {v : Value} (h : w.cell? p = some v) : w1.cell? p = some v := (hb.cell (World.block_lt_of_cell? w _ h)).trans h
abbrev Blocks := Nat → Prop
/-- only blocks of fp were changed, and fp' holds nothing but those of fp and new ones -/
structure Upd (fp fp' : Blocks) (w w' : World) : Prop where
  os : w'.os = w.os
  tape : w'.tape = w.tape
  output : w'.output = w.output
  size : w.heap.size ≤ w'.heap.size
  block : ∀ k, k < w.heap.size → ¬ fp k → w'.heap[k]? = w.heap[k]?
  new : ∀ k, fp' k → fp k ∨ w.heap.size ≤ k
theorem Upd.refl (fp : Blocks) (w : World) : Upd fp fp w w := ⟨rfl, rfl, rfl, Nat.le_refl _, fun _ _ _ => rfl, fun _ h => .inl h⟩
theorem Upd.below {fp : Blocks} {w w' : World} (h : Below w.heap.size w w') : Upd fp fp w w' := ⟨h.os, h.tape, h.output, h.size, fun k hk _ => h.block k hk, fun _ h => .inl h⟩
theorem Upd.trans {fp fp' fp'' : Blocks} {w w' w'' : World} (h : Upd fp fp' w w') (h2 : Upd fp' fp'' w' w'') : Upd fp fp'' w w'' :=
  ⟨h2.os.trans h.os, h2.tape.trans h.tape, h2.output.trans h.output, Nat.le_trans h.size h2.size, fun k hk hn => (h2.block k (Nat.lt_of_lt_of_le hk h.size) (fun hp => by
    rcases h.new k hp with hp | hp
    · exact hn hp
    · omega)).trans (h.block k hk hn), fun k hk => by
    rcases h2.new k hk with hp | hp
    · exact h.new k hp
    · exact .inr (Nat.le_trans h.size hp)⟩
theorem Upd.thn {fp fp' : Blocks} {w w' w'' : World} (h : Upd fp fp' w w') (h2 : Below w'.heap.size w' w'') : Upd fp fp' w w'' := h.trans (Upd.below h2)
theorem Upd.pre {fp fp' : Blocks} {w w' w'' : World} (h : Below w.heap.size w w') (h2 : Upd fp fp' w' w'') : Upd fp fp' w w'' := (Upd.below h).trans h2
theorem Upd.drew {fp fp' : Blocks} {w w' : World} (h : Upd fp fp' w w') : Upd fp fp' w w'.drew := ⟨h.os, h.tape, h.output, h.size, h.block, h.new⟩
theorem Upd.alloc {fp fp' : Blocks} {w w' : World} (h : Upd fp fp' w w') (o : Obj) : Upd fp fp' w (w'.alloc o) := h.thn ((Below.refl _ _).alloc (Nat.le_refl _) _)
theorem Upd.set {fp fp' : Blocks} {w w' : World} (h : Upd fp fp' w w') {p : Addr} (hp : fp' p.block) (v : Value) : Upd fp fp' w (w'.setCell p v) :=
  h.trans ⟨by simp [World.setCell], by simp [World.setCell], by simp [World.setCell], by simp, fun k _ hn => Below.heap_setCell w' p v k (fun e => hn (e ▸ hp)), fun _ h => .inl h⟩
/-- beyond a block number -/
theorem Upd.bel {fp fp' : Blocks} {w w' : World} {B : Nat} (h : Upd fp fp' w w') (hB : B ≤ w.heap.size) (hf : ∀ k, fp k → B ≤ k) : Below B w w' :=
  ⟨h.os, h.tape, h.output, h.size, fun k hk => h.block k (by omega) (fun hp => by have := hf k hp; omega)⟩
theorem Upd.ge {fp fp' : Blocks} {w w' : World} {B : Nat} (h : Upd fp fp' w w') (hB : B ≤ w.heap.size) (hf : ∀ k, fp k → B ≤ k) : ∀ k, fp' k → B ≤ k := fun k hk => by
  rcases h.new k hk with hp | hp
  · exact hf k hp
  · omega
theorem Upd.grown {fp : Blocks} {w w' : World} {row : Option Nat} (h : w.grownBy w' row) (hr : ∀ k, row = some k → fp k) : Upd fp fp w w' :=
  ⟨h.os, h.tape, h.output, h.size, fun k hk hn => h.block k hk (fun e => hn (hr k e.symm)), fun _ h => .inl h⟩
theorem Upd.more {fp fp' : Blocks} {w w' : World} (h : Upd fp fp w w') (hn : ∀ k, fp' k → fp k ∨ w.heap.size ≤ k) : Upd fp fp' w w' := ⟨h.os, h.tape, h.output, h.size, h.block, hn⟩
/-- a smaller set of blocks -/
theorem Upd.within {fp fp' gp : Blocks} {w w' : World} (h : Upd fp fp' w w') (hs : ∀ k, fp k → gp k) : Upd gp (fun k => fp' k ∨ gp k) w w' :=
  ⟨h.os, h.tape, h.output, h.size, fun k hk hn => h.block k hk (fun hp => hn (hs k hp)), fun k hk => by
    rcases hk with hk | hk
    · rcases h.new k hk with hp | hp
      · exact .inl (hs k hp)
      · exact .inr hp
    · exact .inl hk⟩
/-- these blocks are as they were -/
def KeepsOn (s : Blocks) (w w' : World) : Prop := ∀ k, s k → w'.heap[k]? = w.heap[k]?
theorem KeepsOn.below {s : Blocks} {w w' : World} (h : Below w.heap.size w w') (hs : ∀ k, s k → k < w.heap.size) : KeepsOn s w w' := fun k hk => h.block k (hs k hk)
theorem KeepsOn.upd {s fp fp' : Blocks} {w w' : World} (h : Upd fp fp' w w') (hs : ∀ k, s k → k < w.heap.size) (hd : ∀ k, s k → ¬ fp k) : KeepsOn s w w' := fun k hk => h.block k (hs k hk) (hd k hk)

/-- bytes that lie in a block -/
structure BytesIn (w : World) (s : Blocks) (v : Value) (xs : List UInt8) : Prop where
  rd : ∃ A n c, v = .slice A n c ∧ RdB w A n c xs ∧ ∀ ad, A = some ad → s ad.block
theorem BytesIn.nil (w : World) (s : Blocks) : BytesIn w s (.slice none 0 0) [] := ⟨none, 0, 0, rfl, ⟨rfl, Nat.le_refl _, by unfold maxLen; omega, fun h => absurd h (by omega)⟩, fun ad e => by cases e⟩
theorem BytesIn.keeps {w w' : World} {s : Blocks} {v : Value} {xs : List UInt8} (h : BytesIn w s v xs) (hk : KeepsOn s w w') : BytesIn w' s v xs := by
  obtain ⟨A, n, c, e, ⟨h1, h2, h3, h4⟩, hs⟩ := h.rd
  refine ⟨A, n, c, e, ⟨h1, h2, h3, fun hn => ?_⟩, hs⟩
  obtain ⟨ad, e1, hc⟩ := h4 hn
  refine ⟨ad, e1, fun j u hu => ?_⟩
  have hb : (ad.add j).block = ad.block := by unfold Addr.add; split <;> rfl
  exact (World.cell?_of_block (w := w) (w' := w') (a := ad.add j) (by rw [hb]; exact hk ad.block (hs ad e1))).trans (hc j u hu)
theorem BytesIn.mono {w : World} {s t : Blocks} {v : Value} {xs : List UInt8} (h : BytesIn w s v xs) (hs : ∀ k, s k → t k) : BytesIn w t v xs := by
  obtain ⟨A, n, c, e, h1, h2⟩ := h.rd
  exact ⟨A, n, c, e, h1, fun ad e => hs _ (h2 ad e)⟩
/-- a row of the thing's own -/
structure OwnIn (w : World) (s : Blocks) (e : TypeId) (size : Nat) (v : Value) (n : Nat) (xs : List Value) : Prop where
  row : w.ownsRow 0 e size v n xs
  at_ : ∀ k, v.ownBlock = some k → s k
theorem OwnIn.nil (w : World) (s : Blocks) (e : TypeId) (size : Nat) : OwnIn w s e size (.slice none 0 0) 0 [] := ⟨World.ownsRow_nil _ _ _ _, fun k e => by cases e⟩
theorem OwnIn.keeps {w w' : World} {s : Blocks} {e : TypeId} {size : Nat} {v : Value} {n : Nat} {xs : List Value} (h : OwnIn w s e size v n xs) (hk : KeepsOn s w w') : OwnIn w' s e size v n xs := by
  refine ⟨⟨h.row.1, ?_⟩, h.at_⟩
  rcases h.row.2 with h2 | ⟨g, cap, cur, e1, e2, e3, e4⟩
  · exact .inl h2
  · exact .inr ⟨g, cap, cur, e1, e2, (hk g (h.at_ g (by rw [e1]; rfl))).trans e3, e4⟩
end Go.Proofs.YtejnfahfjmeabaaGreatDoor
