/- the texts A0, A1, A2, A3, R0, R1, R2, A4, A5, A6, A7 of this proof, one behind the other -/
import Derived.Test.YtfjfjjcdlgdbcaaDoorProg
import Derived.WalkKit
import Derived.WalkLawsBesides
import Derived.WalkSpells
import Derived.Deep.Draws
import Derived.Deep.AppendLies
import Derived.Maps.AppendAt
import Derived.Lib.Hide
import Derived.IntWalk
import Derived.Lib.ConvBytes
import Derived.Laws.IdiomCopy
import Derived.Laws.Cells
import Derived.Laws.BytesArg
namespace Go.Proofs.YtfjfjjcdlgdbcaaDoor
open Go.RowKit

/-- a byte as a value -/
def bv (b : UInt8) : Value := .int .u8 (b.toNat : Int)
def bvs (xs : List UInt8) : List Value := xs.map bv

/-- the slice value (A, n, c) reads as the bytes xs -/
def RdB (w : World) (A : Option Addr) (n c : Nat) (xs : List UInt8) : Prop :=
  xs.length = n ∧ n ≤ c ∧ c ≤ maxLen ∧ (0 < n → ∃ ad, A = some ad ∧ ∀ j u, xs[j]? = some u → w.cell? (ad.add j) = some (bv u))

theorem RdB.below {w w1 : World} {A : Option Addr} {n c : Nat} {xs : List UInt8} (h : RdB w A n c xs) (hb : Below w.heap.size w w1) : RdB w1 A n c xs :=
  ⟨h.1, h.2.1, h.2.2.1, fun hn => by
    obtain ⟨ad, e, hc⟩ := h.2.2.2 hn
    refine ⟨ad, e, fun j u hu => ?_⟩
    have h1 := hc j u hu
    rw [hb.cell (World.block_lt_of_cell? w _ h1)]
    exact h1⟩
theorem RdB.drewN {w : World} {A : Option Addr} {n c : Nat} {xs : List UInt8} (h : RdB w A n c xs) (k : Nat) : RdB (w.drewN k) A n c xs := h
theorem RdB.drew {w : World} {A : Option Addr} {n c : Nat} {xs : List UInt8} (h : RdB w A n c xs) : RdB w.drew A n c xs := h
theorem RdB.at_ {w : World} {A : Option Addr} {n c : Nat} {xs : List UInt8} (h : RdB w A n c xs) {k : Nat} (hk : k < n) :
    ∃ ad, A = some ad ∧ w.cell? (ad.add k) = some (.int .u8 ((xs.getD k 0).toNat : Int)) := by
  obtain ⟨ad, e, hc⟩ := h.2.2.2 (by omega)
  refine ⟨ad, e, ?_⟩
  have hl : k < xs.length := by have := h.1; omega
  rw [hc k _ (List.getElem?_eq_getElem hl)]
  simp [bv, List.getD_eq_getElem?_getD, List.getElem?_eq_getElem hl]

/-- the number of bytes, the highest first -/
def unbig (xs : List UInt8) : Nat := xs.foldl (fun n b => (n * 256 + b.toNat) % 18446744073709551616) 0

theorem unbig_lt (xs : List UInt8) : unbig xs < 18446744073709551616 := by
  unfold unbig
  rcases List.eq_nil_or_concat xs with h | ⟨l, b, h⟩ <;> subst h <;> simp [Nat.mod_lt]
theorem unbig_snoc (xs : List UInt8) (k : Nat) (h : k < xs.length) : unbig (xs.take (k + 1)) = (unbig (xs.take k) * 256 + (xs.getD k 0).toNat) % 18446744073709551616 := by
  have e : xs.take (k + 1) = xs.take k ++ [xs[k]] := List.take_succ_eq_append_getElem h
  rw [e]
  simp only [unbig, List.foldl_append, List.foldl_cons, List.foldl_nil]
  simp [List.getD_eq_getElem?_getD, List.getElem?_eq_getElem h]

theorem or_big (u x : Nat) (hu : u < 18446744073709551616) (hx : x < 256) :
    bits BinOp.or IntKind.u64 (IntKind.u64.wrap ((u : Int) * 256)) (x : Int) = (((u * 256 + x) % 18446744073709551616 : Nat) : Int) := by
  have e : IntKind.u64.wrap ((u : Int) * 256) = ((u * 256 % 18446744073709551616 : Nat) : Int) := by
    simp [IntKind.wrap, IntKind.bits, IntKind.signed]
  rw [e, u64_or_nat _ _ (Nat.mod_lt _ (by omega)) (by omega), nat_join 8 _ _ (by omega) (by omega)]
  congr 1
  omega

end Go.Proofs.YtfjfjjcdlgdbcaaDoor
namespace Go.Proofs.YtfjfjjcdlgdbcaaDoor
open Go.RowKit

set_option maxHeartbeats 400000 in
theorem Unbig_calls (A : Option Addr) (n c : Nat) (xs : List UInt8) (w : World) (h : RdB w A n c xs) :
    Calls Tryd.prog 41 #[.slice A n c] w fun e w' => e = .returned (.int .u64 (unbig xs)) ∧ w = w' := by
  have hm : n ≤ 9223372036854775807 := by have := h.2.1; have := h.2.2.1; unfold maxLen at this; omega
  have H := Lib.hid h
  clear h
  go_enter Tryd.func41, Tryd.ntmps41
  go_wp2
  go_loop [3, 8] (fun t i => ∃ k : Nat, k ≤ n ∧ i = .int .i64 k ∧ t = .int .u64 (unbig (xs.take k))) (fun _ i => n - (intOf i).toNat)
  case atStart => exact ⟨0, Nat.zero_le _, rfl, rfl⟩
  case round =>
    obtain ⟨k, hk, rfl, rfl⟩ := hrel
    by_cases hlt : k < n
    · obtain ⟨ad, rfl, hcell⟩ := H.out.at_ hlt
      have hb := (xs.getD k 0).toNat_lt
      generalize hx : (xs.getD k 0).toNat = x at *
      have HX := Lib.hid hx
      clear hx
      have hu := unbig_lt (xs.take k)
      have HU := Lib.hid (unbig_snoc xs k (by have := H.out.1; omega))
      generalize unbig (xs.take k) = u at *
      go_wp2
      go_round
      case rel => exact ⟨k + 1, by omega, by go_num, by rw [HU.out, HX.out]; congr 1; exact or_big u x hu hb⟩
      case measure => simp [intOf]; omega
    · go_wp2
      go_ret
      exact ⟨by rw [List.take_of_length_le (by have := H.out.1; omega)]; rfl, rfl⟩
end Go.Proofs.YtfjfjjcdlgdbcaaDoor
namespace Go.Proofs.YtfjfjjcdlgdbcaaDoor
open Go.RowKit

/-- each value is one cell -/
def AllOne (vs : List Value) : Prop := ∀ v ∈ vs, v.oneCell' = true
theorem oneCell_bv (b : UInt8) : (bv b).oneCell' = true := rfl
theorem oneCell_bvs (xs : List UInt8) : AllOne (bvs xs) := by
  intro v hv
  obtain ⟨b, _, rfl⟩ := List.mem_map.1 hv
  rfl
theorem bvs_length (xs : List UInt8) : (bvs xs).length = xs.length := by simp [bvs]
theorem bvs_append (xs ys : List UInt8) : bvs (xs ++ ys) = bvs xs ++ bvs ys := by simp [bvs]
theorem bvs_take (xs : List UInt8) (n : Nat) : (bvs xs).take n = bvs (xs.take n) := by simp [bvs]
theorem bvs_drop (xs : List UInt8) (n : Nat) : (bvs xs).drop n = bvs (xs.drop n) := by simp [bvs]
theorem bv_inj {a b : UInt8} (h : bv a = bv b) : a = b := by
  unfold bv at h
  injection h with _ h
  exact UInt8.toNat_inj.1 (by omega)
theorem bvs_inj : ∀ {xs ys : List UInt8}, bvs xs = bvs ys → xs = ys
  | [], [], _ => rfl
  | [], _ :: _, h => by simp [bvs] at h
  | _ :: _, [], h => by simp [bvs] at h
  | x :: xs, y :: ys, h => by
    simp only [bvs, List.map_cons, List.cons.injEq] at h
    rw [bv_inj h.1, bvs_inj (xs := xs) (ys := ys) h.2]

/-- k cells of block n from place o on are there, and none is frozen -/
def RoomAt (w : World) (n o k : Nat) : Prop := ∀ j, j < k → (w.cell? ⟨n, o + j, none⟩).isSome = true ∧ w.frozen? ⟨n, o + j, none⟩ = false
/-- k cells of block n from place o on are these -/
def CellsAt (w : World) (n o : Nat) (vs : List Value) : Prop := ∀ j u, vs[j]? = some u → w.cell? ⟨n, o + j, none⟩ = some u
/-- c with vs written over it from o on -/
def ovw (c : Array Value) (o : Nat) (vs : List Value) : Array Value := (c.toList.take o ++ vs ++ c.toList.drop (o + vs.length)).toArray

theorem size_ovw (c : Array Value) (o : Nat) (vs : List Value) (h : o + vs.length ≤ c.size) : (ovw c o vs).size = c.size := by
  simp [ovw]; omega
theorem ovw_all (c : Array Value) (vs : List Value) (h : c.size = vs.length) : ovw c 0 vs = vs.toArray := by
  simp [ovw, List.drop_eq_nil_of_le, h]
theorem get_ovw (c : Array Value) (o : Nat) (vs : List Value) (h : o + vs.length ≤ c.size) (j : Nat) :
    (ovw c o vs)[j]? = if o ≤ j ∧ j < o + vs.length then vs[j - o]? else c[j]? := by
  simp only [ovw, List.getElem?_toArray, List.append_assoc]
  have hl : (c.toList.take o).length = o := by simp; omega
  by_cases h1 : j < o
  · rw [List.getElem?_append_left (by omega), if_neg (by omega), List.getElem?_take, if_pos h1]; simp
  · rw [List.getElem?_append_right (by omega), hl]
    by_cases h2 : j < o + vs.length
    · rw [List.getElem?_append_left (by omega), if_pos ⟨by omega, h2⟩]
    · rw [List.getElem?_append_right (by omega), if_neg (by omega), List.getElem?_drop]
      rw [show o + vs.length + (j - o - vs.length) = j by omega]; simp

theorem roomAt_alloc_at (w : World) (c : Array Value) (t : TypeId) (n o k : Nat) (hn : n = w.heap.size) (h : o + k ≤ c.size) : RoomAt (w.alloc (.cells c t)) n o k := by
  subst hn
  intro j hj
  rw [World.cell?_alloc_at _ _ _ _ rfl, World.frozen?_alloc_at _ _ _ _ rfl]
  simp; omega
theorem roomAt_alloc_past (w : World) (b : Obj) (n o k : Nat) (hn : n < w.heap.size) (h : RoomAt w n o k) : RoomAt (w.alloc b) n o k := by
  intro j hj
  have := h j hj
  rw [World.cell?_alloc_lt w b ⟨n, o + j, none⟩ hn, World.frozen?_alloc_past b n _ hn]
  exact this
theorem roomAt_drew (w : World) (n o k : Nat) (h : RoomAt w n o k) : RoomAt w.drew n o k := h
theorem roomAt_drewN (w : World) (m n o k : Nat) (h : RoomAt w n o k) : RoomAt (w.drewN m) n o k := h

theorem setCells_alloc_at : ∀ (vs : List Value) (o : Nat) (w : World) (c : Array Value) (t : TypeId) (n : Nat), n = w.heap.size → o + vs.length ≤ c.size →
    (w.alloc (.cells c t)).setCells n o vs = w.alloc (.cells (ovw c o vs) t)
  | [], o, w, c, t, n, hn, h => by
    simp only [World.setCells]
    congr 2
    simp [ovw]
  | v :: r, o, w, c, t, n, hn, h => by
    simp only [List.length_cons] at h
    simp only [World.setCells]
    rw [World.setCell_alloc_at _ _ _ _ _ hn, setCells_alloc_at r (o + 1) w _ t n hn (by simp; omega)]
    congr 2
    apply Array.ext_getElem?
    intro j
    rw [get_ovw _ _ _ (by simp; omega), get_ovw _ _ _ (by simp; omega)]
    simp only [List.length_cons]
    by_cases h1 : o + 1 ≤ j ∧ j < o + 1 + r.length
    · rw [if_pos h1, if_pos (by omega)]
      obtain ⟨i, rfl⟩ : ∃ i, j = o + 1 + i := ⟨j - (o + 1), by omega⟩
      rw [show o + 1 + i - (o + 1) = i by omega, show o + 1 + i - o = i + 1 by omega]; simp
    · rw [if_neg h1]
      by_cases h2 : j = o
      · subst h2
        rw [if_pos (by omega), Array.getElem?_setIfInBounds, if_pos rfl, if_pos (by omega)]
        simp
      · rw [if_neg (by omega)]
        simp [Array.getElem?_setIfInBounds, Ne.symm h2]
theorem setCells_alloc_past : ∀ (vs : List Value) (o : Nat) (w : World) (b : Obj) (n : Nat), n < w.heap.size →
    (w.alloc b).setCells n o vs = (w.setCells n o vs).alloc b
  | [], _, _, _, _, _ => rfl
  | v :: r, o, w, b, n, h => by
    simp only [World.setCells]
    rw [World.setCell_alloc_past _ _ _ _ h, setCells_alloc_past r (o + 1) _ b n (by simpa [World.setCell] using h)]
theorem setCells_drew : ∀ (vs : List Value) (o : Nat) (w : World) (n : Nat), w.drew.setCells n o vs = (w.setCells n o vs).drew
  | [], _, _, _ => rfl
  | v :: r, o, w, n => by
    simp only [World.setCells]
    rw [World.setCell_drew, setCells_drew r]
theorem size_setCells : ∀ (vs : List Value) (o : Nat) (w : World) (n : Nat), (w.setCells n o vs).heap.size = w.heap.size
  | [], _, _, _ => rfl
  | v :: r, o, w, n => by
    simp only [World.setCells]
    rw [size_setCells r]; simp [World.setCell]

theorem run_storeRow {P : Program} (w : World) (n o : Nat) (vs : List Value) (hr : RoomAt w n o vs.length) (h1 : AllOne vs) :
    (storeCells ⟨n, o, none⟩ vs).run P w = .ok () (w.setCells n o vs) := by
  have := run_storeCells_cells (P := P) n o vs 0 w (fun j hj => by simpa using (hr j hj).1) (fun j hj => by simpa using (hr j hj).2) h1
  simpa using this

theorem cellsAt_alloc_at (w : World) (c : Array Value) (t : TypeId) (n o : Nat) (vs : List Value) (hn : n = w.heap.size) (h : ∀ j u, vs[j]? = some u → c[o + j]? = some u) : CellsAt (w.alloc (.cells c t)) n o vs := by
  subst hn
  intro j u hu
  rw [World.cell?_alloc_at _ _ _ _ rfl]
  exact h j u hu
theorem run_loadRow {P : Program} (w : World) (n o : Nat) (vs : List Value) (h : CellsAt w n o vs) :
    (loadCells ⟨n, o, none⟩ vs.length).run P w = .ok vs.toArray w := by
  refine run_loadCells_list w _ vs fun j v hv => ?_
  have := h j v hv
  have e : (⟨n, o, none⟩ : Addr).add j = ⟨n, o + j, none⟩ := by unfold Addr.add; split <;> simp_all
  rw [e]
  exact this
theorem RdB.alloc {w : World} {A : Option Addr} {n c : Nat} {xs : List UInt8} (h : RdB w A n c xs) (o : Obj) : RdB (w.alloc o) A n c xs := h.below ((Below.refl _ _).alloc (Nat.le_refl _) o)
theorem RdB.setCells {w : World} {A : Option Addr} {n c : Nat} {xs : List UInt8} (h : RdB w A n c xs) (g o : Nat) (vs : List Value) (hg : ∀ ad, A = some ad → ad.block ≠ g) : RdB (w.setCells g o vs) A n c xs :=
  ⟨h.1, h.2.1, h.2.2.1, fun hn => by
    obtain ⟨ad, e, hc⟩ := h.2.2.2 hn
    refine ⟨ad, e, fun j u hu => ?_⟩
    rw [World.cell?_setCells_out g vs o w _ (fun hb => absurd hb (by
      have : (ad.add j).block = ad.block := by unfold Addr.add; split <;> rfl
      rw [this]; exact hg ad e))]
    exact hc j u hu⟩
/-- what is left behind a cut at the front -/
theorem RdB.cut {w : World} {A : Option Addr} {n c : Nat} {xs : List UInt8} (h : RdB w A n c xs) (k : Nat) (hk : k ≤ n) :
    RdB w (if c = k then A else A.map (·.add k)) (n - k) (c - k) (xs.drop k) := by
  refine ⟨by simp [h.1], by have := h.2.1; omega, by have := h.2.2.1; omega, fun hn => ?_⟩
  obtain ⟨ad, rfl, hc⟩ := h.2.2.2 (by omega)
  rw [if_neg (by have := h.2.1; omega)]
  refine ⟨ad.add k, rfl, fun j u hu => ?_⟩
  have : (ad.add k).add j = ad.add (k + j) := by
    unfold Addr.add
    by_cases hi : k = 0 <;> by_cases hj : j = 0 <;> simp [hi, hj, Nat.add_assoc]
  rw [this]
  exact hc _ u (by rw [← hu, List.getElem?_drop])
theorem RdB.cut' {w : World} {ad : Addr} {n c : Nat} {xs : List UInt8} (h : RdB w (some ad) n c xs) (k : Nat) (hk : k ≤ n) (hc : k ≠ c) :
    RdB w (some (ad.add k)) (n - k) (c - k) (xs.drop k) := by
  have := h.cut k hk
  rwa [if_neg (by omega)] at this
/-- the front -/
theorem RdB.front {w : World} {A : Option Addr} {n c : Nat} {xs : List UInt8} (h : RdB w A n c xs) (k : Nat) (hk : k ≤ n) : RdB w A k c (xs.take k) := by
  refine ⟨by have := h.1; simp; omega, by have := h.2.1; omega, h.2.2.1, fun hn => ?_⟩
  obtain ⟨ad, rfl, hc⟩ := h.2.2.2 (by omega)
  refine ⟨ad, rfl, fun j u hu => hc j u ?_⟩
  rw [List.getElem?_take] at hu
  split at hu
  · exact hu
  · cases hu
/-- 'copy' of bytes into a row of bytes -/
theorem run_copyB {P : Program} (w : World) (dT sT ty elem : TypeId) (d o m mc : Nat) (A : Option Addr) (n c : Nat) (xs : List UInt8)
    (hu : P.underlying dT = some (.slice elem)) (hs : (P.info? elem).map (·.size) = some 1) (h : RdB w A n c xs) (hr : RoomAt w d o (min n m)) :
    (Builtin.copy_ #[dT, sT] ty #[.slice (some ⟨d, o, none⟩) m mc, .slice A n c]).run P w = .ok (.int .i64 ((min n m : Nat) : Int)) (w.setCells d o (bvs (xs.take m))) := by
  have hl : (bvs (xs.take m)).length = min n m := by rw [bvs_length, List.length_take, h.1]; omega
  by_cases h0 : min n m = 0
  · have e : xs.take m = [] := List.eq_nil_of_length_eq_zero (by rw [List.length_take, h.1]; omega)
    rw [run_copy_none (P := P) w dT sT ty elem _ _ _ _ _ _ hu hs (by simpa using h0), e, h0]
    rfl
  · obtain ⟨ad, rfl, hc⟩ := h.2.2.2 (by omega)
    have := run_copy_cells (P := P) w dT sT ty elem d o m mc ad n c (bvs (xs.take m)) hu hs hl (fun j v hv => ?_) (fun j hj => (hr j (by omega)).1) (fun j hj => (hr j (by omega)).2) (oneCell_bvs _)
    · rw [this, hl]; rfl
    · simp only [bvs, List.getElem?_map, Option.map_eq_some_iff] at hv
      obtain ⟨u, hu', rfl⟩ := hv
      rw [List.getElem?_take] at hu'
      split at hu'
      · exact hc j u hu'
      · cases hu'
/-- block g is just these cells, none frozen -/
def Blk (w : World) (g : Nat) (t : TypeId) (cs : Array Value) : Prop := w.heap[g]? = some (.cells cs t (0, 0))
section
variable {w w' : World} {g : Nat} {t : TypeId} {cs : Array Value}
theorem Blk.lt (h : Blk w g t cs) : g < w.heap.size := by
  rcases Nat.lt_or_ge g w.heap.size with hlt | hge
  · exact hlt
  · unfold Blk at h; rw [Array.getElem?_eq_none hge] at h; cases h
theorem Blk.cell (h : Blk w g t cs) (i : Nat) : w.cell? ⟨g, i, none⟩ = cs[i]? := cell_of_row w g i cs t (0, 0) h
theorem Blk.frozen (h : Blk w g t cs) (i : Nat) : w.frozen? ⟨g, i, none⟩ = false := by
  unfold Blk at h
  simp [World.frozen?, h]
theorem Blk.new (w : World) (t : TypeId) (cs : Array Value) : Blk (w.alloc (.cells cs t)) w.heap.size t cs := heap_alloc_new w _
theorem Blk.drew (h : Blk w g t cs) : Blk w.drew g t cs := h
theorem Blk.drewN (h : Blk w g t cs) (n : Nat) : Blk (w.drewN n) g t cs := h
theorem Blk.alloc (h : Blk w g t cs) (o : Obj) : Blk (w.alloc o) g t cs := (Below.heap_alloc w o g h.lt).trans h
theorem Blk.set_ (h : Blk w g t cs) (i : Nat) (u : Value) : Blk (w.setCell ⟨g, i, none⟩ u) g t (cs.setIfInBounds i u) := by
  unfold Blk at h ⊢
  simp [World.setCell, Array.getElem?_modify, h]
theorem Blk.far (h : Blk w g t cs) {p : Addr} (hp : g ≠ p.block) (u : Value) : Blk (w.setCell p u) g t cs := (Below.heap_setCell w p u g hp).trans h
theorem Blk.below {B : Nat} (h : Blk w g t cs) (hb : Below B w w') (hg : g < B) : Blk w' g t cs := (hb.block g hg).trans h
theorem Blk.grown {row : Option Nat} (h : Blk w g t cs) (hb : w.grownBy w' row) (hg : some g ≠ row) : Blk w' g t cs := (hb.block g h.lt hg).trans h
theorem Blk.room (h : Blk w g t cs) (o k : Nat) (hk : o + k ≤ cs.size) : RoomAt w g o k := by
  intro j hj
  rw [h.cell, h.frozen]
  simp; omega
theorem Blk.cells (h : Blk w g t cs) (o : Nat) (vs : List Value) (hv : ∀ j u, vs[j]? = some u → cs[o + j]? = some u) : CellsAt w g o vs := by
  intro j u hu
  rw [h.cell]
  exact hv j u hu
theorem Blk.setCells (h : Blk w g t cs) : ∀ (vs : List Value) (o : Nat), o + vs.length ≤ cs.size → Blk (w.setCells g o vs) g t (ovw cs o vs) := by
  intro vs
  induction vs generalizing w cs with
  | nil => intro o _; simpa [World.setCells, ovw] using h
  | cons v r ih =>
    intro o ho
    simp only [List.length_cons] at ho
    simp only [World.setCells]
    have h2 := ih (h.set_ o v) (o + 1) (by simp; omega)
    have e : ovw (cs.setIfInBounds o v) (o + 1) r = ovw cs o (v :: r) := by
      apply Array.ext_getElem?
      intro j
      rw [get_ovw _ _ _ (by simp; omega), get_ovw _ _ _ (by simp; omega)]
      simp only [List.length_cons]
      by_cases h1 : o + 1 ≤ j ∧ j < o + 1 + r.length
      · rw [if_pos h1, if_pos (by omega)]
        obtain ⟨i, rfl⟩ : ∃ i, j = o + 1 + i := ⟨j - (o + 1), by omega⟩
        rw [show o + 1 + i - (o + 1) = i by omega, show o + 1 + i - o = i + 1 by omega]; simp
      · rw [if_neg h1]
        by_cases h2 : j = o
        · subst h2
          rw [if_pos (by omega), Array.getElem?_setIfInBounds, if_pos rfl, if_pos (by omega)]
          simp
        · rw [if_neg (by omega)]
          simp [Array.getElem?_setIfInBounds, Ne.symm h2]
    rw [e] at h2
    exact h2
theorem heap_setCells_other : ∀ (vs : List Value) (o : Nat) (w : World) (n k : Nat), k ≠ n → (w.setCells n o vs).heap[k]? = w.heap[k]?
  | [], _, _, _, _, _ => rfl
  | v :: r, o, w, n, k, hk => by
    simp only [World.setCells]
    rw [heap_setCells_other r (o + 1) _ n k hk]
    exact Below.heap_setCell w _ _ _ hk
theorem Blk.farCells (h : Blk w g t cs) (n o : Nat) (vs : List Value) (hn : g ≠ n) : Blk (w.setCells n o vs) g t cs := (heap_setCells_other vs o w n g hn).trans h
end
theorem below_setCells {B : Nat} {a w : World} (h : Below B a w) (g o : Nat) (vs : List Value) (hg : B ≤ g) : Below B a (w.setCells g o vs) := by
  induction vs generalizing w o with
  | nil => exact h
  | cons v r ih => exact ih (h.setCell (p := ⟨g, o, none⟩) hg v) (o + 1)
theorem thn {w w1 w2 : World} (h : Below w.heap.size w w1) (k : Below w1.heap.size w1 w2) : Below w.heap.size w w2 := h.trans (k.mono h.size)
theorem al {w w1 : World} (h : Below w.heap.size w w1) (o : Obj) : Below w.heap.size w (w1.alloc o) := h.alloc h.size o
end Go.Proofs.YtfjfjjcdlgdbcaaDoor
namespace Go.Proofs.YtfjfjjcdlgdbcaaDoor
open Go.RowKit

theorem Tryd.info5 : (Tryd.prog.info? 5).map (fun i => (i.zero, i.size, i.bytes)) = some (some (.int .u8 0), 1, 1) := by kernel_rfl

/-- the value v is a row of its own, from block B on, that holds the bytes xs -/
def OwnB (w : World) (B : Nat) (v : Value) (xs : List UInt8) : Prop := w.ownsRow B 5 1 v xs.length (bvs xs)
theorem OwnB.of {w : World} {B : Nat} {v : Value} {xs : List UInt8} {n : Nat} (h : w.ownsRow B 5 1 v n (bvs xs)) : OwnB w B v xs := by
  have : xs.length = n := by have := h.1; simpa [bvs_length] using this
  subst this
  exact h
theorem OwnB.nil (w : World) (B : Nat) : OwnB w B (.slice none 0 0) [] := World.ownsRow_nil w B 5 1
theorem OwnB.alloc {w : World} {B : Nat} {v : Value} {xs : List UInt8} (h : OwnB w B v xs) (o : Obj) : OwnB (w.alloc o) B v xs := World.ownsRow.alloc h o
theorem OwnB.drew {w : World} {B : Nat} {v : Value} {xs : List UInt8} (h : OwnB w B v xs) : OwnB w.drew B v xs := h
theorem OwnB.drewN {w : World} {B : Nat} {v : Value} {xs : List UInt8} (h : OwnB w B v xs) (k : Nat) : OwnB (w.drewN k) B v xs := h
theorem OwnB.below {w w1 : World} {B : Nat} {v : Value} {xs : List UInt8} (h : OwnB w B v xs) (hb : Below w.heap.size w w1) : OwnB w1 B v xs :=
  World.ownsRow.kept h (row := none) ⟨hb.os, hb.tape, hb.output, hb.size, fun i hi _ => hb.block i hi⟩ (by cases v.ownBlock <;> simp)
theorem OwnB.more {w : World} {B B' : Nat} {v : Value} {xs : List UInt8} (h : OwnB w B v xs) (hB : B' ≤ B) : OwnB w B' v xs := by
  refine ⟨h.1, ?_⟩
  rcases h.2 with h | ⟨g, cap, cur, hv, hg, r⟩
  · exact .inl h
  · exact .inr ⟨g, cap, cur, hv, by omega, r⟩
/-- what is owned reads -/
theorem OwnB.reads {w : World} {B : Nat} {v : Value} {xs : List UInt8} (h : OwnB w B v xs) : ∃ A c, v = .slice A xs.length c ∧ RdB w A xs.length c xs := by
  rcases h.2 with ⟨rfl, h0⟩ | ⟨g, cap, cur, rfl, hb, hh, hn, hm, _⟩
  · rw [h0]
    exact ⟨none, 0, rfl, h0, Nat.le_refl _, by unfold maxLen; omega, fun hp => absurd hp (by omega)⟩
  · refine ⟨_, cap, rfl, rfl, hn, hm, fun hp => ⟨_, rfl, fun j u hu => ?_⟩⟩
    exact World.ownsRow.cells h (g := g) rfl j (bv u) (by simp [bvs, hu])
theorem OwnB.block {w : World} {B : Nat} {v : Value} {xs : List UInt8} (h : OwnB w B v xs) : ∀ k, v.ownBlock = some k → B ≤ k ∧ k < w.heap.size := World.ownsRow.lt h

/-- 'append(s, x...)', s a row of the call's own, x bytes that lie somewhere (nil too) -/
theorem run_appendB (w : World) (ty : TypeId) (B : Nat) (v : Value) (xs ys : List UInt8) (A : Option Addr) (n c : Nat) (hown : OwnB w B v xs) (hr : RdB w A n c ys)
    (hl : xs.length + n ≤ 140737488355328) (hB : B ≤ w.heap.size) :
    ∃ v' w', (Builtin.append_ #[22, 22] ty #[v, .slice A n c]).run Tryd.prog w = .ok v' w' ∧ OwnB w' B v' (xs ++ ys) ∧ w.grownBy w' v.ownBlock ∧ Below B w w' := by
  obtain ⟨i0, hi, hz0, hz1, hz2⟩ := info_parts Tryd.info5
  have hbel : ∀ w', w.grownBy w' v.ownBlock → Below B w w' := fun w' hg => (Below.refl B w).grown hg hB (fun k hk => (hown.block k hk).1)
  by_cases h0 : n = 0
  · subst h0
    have e : ys = [] := List.eq_nil_of_length_eq_zero hr.1
    subst e
    refine ⟨v, w, ?_, by simpa using hown, World.grownBy.refl w _, Below.refl _ _⟩
    cases A with
    | none =>
      have h := hown
      rcases h.2 with ⟨rfl, _⟩ | ⟨g, cap, cur, rfl, _, _, hnc, _⟩
      · simp [Builtin.append_, run_underlying Tryd.underlying22, sizeOf, typeInfo, hi, Builtin.lenOf, Builtin.firstCells]
      · simp [Builtin.append_, run_underlying Tryd.underlying22, sizeOf, typeInfo, hi, Builtin.lenOf, Builtin.firstCells, hnc, storeCells]
    | some ad =>
      have h := hown
      rcases h.2 with ⟨rfl, _⟩ | ⟨g, cap, cur, rfl, _, _, hnc, _⟩
      · simp [Builtin.append_, run_underlying Tryd.underlying22, sizeOf, typeInfo, hi, Builtin.lenOf, Builtin.firstCells, loadCells, loadCellsFrom]
      · simp [Builtin.append_, run_underlying Tryd.underlying22, sizeOf, typeInfo, hi, Builtin.lenOf, Builtin.firstCells, hnc, storeCells, loadCells, loadCellsFrom]
  · obtain ⟨ad, rfl, hc⟩ := hr.2.2.2 (by omega)
    obtain ⟨v', w', h1, h2, h3, _⟩ := run_append_own (P := Tryd.prog) w B 22 ty 5 i0 (.int .u8 0) 1 1 Tryd.underlying22 hi hz0 hz1 hz2 rfl (by omega) v xs.length (bvs xs) hown ad n c (bvs ys)
      (by rw [bvs_length, hr.1]; omega) (fun j u hu => by
        simp only [bvs, List.getElem?_map, Option.map_eq_some_iff] at hu
        obtain ⟨b, hb, rfl⟩ := hu
        exact hc j b hb) (oneCell_bvs ys) (by unfold maxLen; omega) (by omega) hB
    refine ⟨v', w', h1, ?_, h3, hbel w' h3⟩
    rw [← bvs_append] at h2
    exact OwnB.of h2

/-- the same as a law of the walk -/
theorem wpList_appendB (w : World) {ops : Array Oper} {rest : List Oper} {o : Oper} {a : Act} {Q : Exit → Act → World → Prop}
    (hgd : o.guard = none) (s x : Operand) (ho : o.op = .call { callee := .builtin .append, args := #[s, x], argTypes := #[22, 22] })
    (B : Nat) (v : Value) (xs ys : List UInt8) (hs : a.eval s = v) (A : Option Addr) (n c : Nat) (hx : a.eval x = .slice A n c) (hown : OwnB w B v xs) (hr : RdB w A n c ys)
    (hl : xs.length + n ≤ 140737488355328) (hB : B ≤ w.heap.size)
    (h : ∀ v' w', OwnB w' B v' (xs ++ ys) → w.grownBy w' v.ownBlock → Below B w w' → wpList Tryd.prog ops Q rest (a.put o.dst v') w') : wpList Tryd.prog ops Q (o :: rest) a w := by
  obtain ⟨v', w', hrun, h1, h2, h3⟩ := run_appendB w o.type B v xs ys A n c hown hr hl hB
  refine wpList_plain hgd fun K hK' => ?_
  unfold Oper.wp execOp
  simp only [ho, resolve, invoke, builtin, Sem.run_bind, Sem.run_pure, Result.andThen_ok, List.map_toArray, List.map_cons, List.map_nil, hs, hx, hrun]
  exact hK' _ _ (h v' w' h1 h2 h3)

/-- one byte that has just been laid -/
theorem RdB.one (w : World) (t : TypeId) (b : UInt8) (n : Int) (hn : n = (b.toNat : Int)) : RdB (w.alloc (.cells #[.int .u8 n] t)) (some ⟨w.heap.size, 0, none⟩) 1 1 [b] := by
  subst hn
  refine ⟨rfl, Nat.le_refl _, by unfold maxLen; omega, fun _ => ⟨_, rfl, fun j u hu => ?_⟩⟩
  match j, hu with
  | 0, hu =>
    obtain rfl : b = u := by simpa using hu
    rw [show (⟨w.heap.size, 0, none⟩ : Addr).add 0 = ⟨w.heap.size, 0, none⟩ from rfl, World.cell?_alloc_at _ _ _ _ rfl]
    rfl
/-- a slice of one byte that has just been made -/
theorem OwnB.one (w : World) (b : UInt8) (n : Int) (hn : n = (b.toNat : Int)) (B : Nat) (hB : B ≤ w.heap.size) : OwnB (w.alloc (.cells #[.int .u8 n] 5)) B (.slice (some ⟨w.heap.size, 0, none⟩) 1 1) [b] := by
  subst hn
  exact ⟨by simp [bvs], .inr ⟨w.heap.size, 1, _, rfl, hB, heap_alloc_new w _, Nat.le_refl _, by unfold maxLen; omega, rfl, rfl⟩⟩
theorem OwnB.many (w : World) (bs : List UInt8) (B : Nat) (hB : B ≤ w.heap.size) (hm : bs.length ≤ 1000000) : OwnB (w.alloc (.cells (bvs bs).toArray 5)) B (.slice (some ⟨w.heap.size, 0, none⟩) bs.length bs.length) bs :=
  ⟨by simp [bvs], .inr ⟨w.heap.size, bs.length, _, rfl, hB, heap_alloc_new w _, Nat.le_refl _, by unfold maxLen; omega, by simp [bvs], by rw [← bvs_length bs]; simp⟩⟩
/-- a row of bytes that has just been laid -/
theorem RdB.many (w : World) (t : TypeId) (bs : List UInt8) {n : Nat} (hn : bs.length = n) (hm : n ≤ maxLen := by unfold maxLen; omega) : RdB (w.alloc (.cells (bvs bs).toArray t)) (some ⟨w.heap.size, 0, none⟩) n n bs := by
  refine ⟨hn, Nat.le_refl _, hm, fun _ => ⟨_, rfl, fun j u hu => ?_⟩⟩
  have e : (⟨w.heap.size, 0, none⟩ : Addr).add j = ⟨w.heap.size, j, none⟩ := by unfold Addr.add; split <;> simp_all
  rw [e, World.cell?_alloc_at _ _ _ _ rfl]
  simp [bvs, hu]
end Go.Proofs.YtfjfjjcdlgdbcaaDoor
namespace Go.Proofs.YtfjfjjcdlgdbcaaDoor
open Go.RowKit

/-- thirty-two zero bytes -/
def z32 : List UInt8 := List.replicate 32 0
/-- the cells of a RawKey -/
def rk (l : UInt8) (f s : List UInt8) (n : Nat) (nm : ByteArray) : Array Value := (bv l :: (bvs f ++ (bvs s ++ [.int .u64 n, .string nm]))).toArray
theorem rk_size (l : UInt8) (f s : List UInt8) (n : Nat) (nm : ByteArray) (hf : f.length = 32) (hs : s.length = 32) : (rk l f s n nm).size = 67 := by
  simp [rk, bvs_length, hf, hs]
theorem z32_length : z32.length = 32 := rfl
theorem rk_zero : Tryd.zeroCells28 = rk 0 z32 z32 0 ⟨#[]⟩ := by kernel_rfl
theorem rk_oneCell (l : UInt8) (f s : List UInt8) (n : Nat) (nm : ByteArray) : AllOne (rk l f s n nm).toList := by
  intro v hv
  simp only [rk, List.mem_cons, List.mem_append] at hv
  rcases hv with rfl | hv | hv | rfl | rfl | hv
  · rfl
  · exact oneCell_bvs _ _ hv
  · exact oneCell_bvs _ _ hv
  · rfl
  · rfl
  · cases hv
theorem rk_first (l : UInt8) (f s g : List UInt8) (n : Nat) (nm : ByteArray) (hf : f.length = 32) (hg : g.length = 32) : ovw (rk l f s n nm) 1 (bvs g) = rk l g s n nm := by
  simp [ovw, rk, bvs_length, hf, hg, List.drop_append, Nat.add_comm]
theorem rk_second (l : UInt8) (f s g : List UInt8) (n : Nat) (nm : ByteArray) (hf : f.length = 32) (hs : s.length = 32) (hg : g.length = 32) : ovw (rk l f s n nm) 33 (bvs g) = rk l f g n nm := by
  simp [ovw, rk, bvs_length, hf, hg, hs, List.drop_append, List.take_append, Nat.add_comm]
theorem rk_set0 (l b : UInt8) (f s : List UInt8) (n : Nat) (nm : ByteArray) : (rk l f s n nm).setIfInBounds 0 (.int .u8 (b.toNat : Int)) = rk b f s n nm := by
  simp [rk, bv]
theorem rk_set3 (l : UInt8) (f s : List UInt8) (n m : Nat) (nm : ByteArray) (hf : f.length = 32) (hs : s.length = 32) : (rk l f s n nm).setIfInBounds 65 (.int .u64 (m : Int)) = rk l f s m nm := by
  have e : bv l :: (bvs f ++ (bvs s ++ [.int .u64 n, .string nm])) = (bv l :: (bvs f ++ bvs s)) ++ [.int .u64 n, .string nm] := by simp
  simp only [rk, List.setIfInBounds_toArray, e]
  rw [List.set_append_right _ _ (by simp [bvs_length, hf, hs])]
  simp [bvs_length, hf, hs]
theorem rk_set4 (l : UInt8) (f s : List UInt8) (n : Nat) (nm nm' : ByteArray) (hf : f.length = 32) (hs : s.length = 32) : (rk l f s n nm).setIfInBounds 66 (.string nm') = rk l f s n nm' := by
  have e : bv l :: (bvs f ++ (bvs s ++ [.int .u64 n, .string nm])) = (bv l :: (bvs f ++ bvs s)) ++ [.int .u64 n, .string nm] := by simp
  simp only [rk, List.setIfInBounds_toArray, e]
  rw [List.set_append_right _ _ (by simp [bvs_length, hf, hs])]
  simp [bvs_length, hf, hs]
theorem rk_size0 (l : UInt8) (n : Nat) (nm : ByteArray) : (rk l z32 z32 n nm).size = 67 := rk_size _ _ _ _ _ rfl rfl
theorem build28 (b : UInt8) (w : World) : (Instr.build 28 #[(0, .int .u8 (b.toNat : Int))]).run Tryd.prog w = .ok (.agg (rk b z32 z32 0 ⟨#[]⟩)) w := by kernel_rfl

end Go.Proofs.YtfjfjjcdlgdbcaaDoor
namespace Go.Proofs.YtfjfjjcdlgdbcaaDoor
open Go.RowKit

/-- is a text a marker's name? -/
def nameP (l : List UInt8) : Prop := 1 ≤ l.length ∧ l.length ≤ 32 ∧ ∀ b ∈ l, 97 ≤ b.toNat ∧ b.toNat ≤ 122
instance (l : List UInt8) : Decidable (nameP l) := by unfold nameP; infer_instance
def nameOk (l : List UInt8) : Bool := decide (nameP l)
theorem nameOk_no (l : List UInt8) (h : ¬ nameP l) : nameOk l = false := decide_eq_false h
theorem nameOk_yes (l : List UInt8) (h : nameP l) : nameOk l = true := decide_eq_true h
theorem size_toList (s : ByteArray) : s.data.toList.length = s.size := by simp

set_option maxHeartbeats 400000 in
theorem Name_calls (s : ByteArray) (w : World) :
    Calls Tryd.prog 25 #[.string s] w fun e w' => e = .returned (.bool (nameOk s.data.toList)) ∧ w = w' := by
  by_cases h1 : s.size < 1
  · have hn := Lib.hid (nameOk_no s.data.toList (fun h => by have := h.1; rw [size_toList] at this; omega))
    go_enter Tryd.func25, Tryd.ntmps25
    go_wp2
    go_ret
    exact ⟨by rw [hn.out]; rfl, rfl⟩
  · by_cases h2 : 32 < s.size
    · have hn := Lib.hid (nameOk_no s.data.toList (fun h => by have := h.2.1; rw [size_toList] at this; omega))
      go_enter Tryd.func25, Tryd.ntmps25
      go_wp2
      go_ret
      exact ⟨by rw [hn.out]; rfl, rfl⟩
    · go_enter Tryd.func25, Tryd.ntmps25
      go_wp2
      go_loop [3] (fun i => ∃ k : Nat, k ≤ s.size ∧ i = .int .i64 k ∧ ∀ j b, j < k → s.data.toList[j]? = some b → 97 ≤ b.toNat ∧ b.toNat ≤ 122) (fun i => s.size - (intOf i).toNat)
      case atStart => exact ⟨0, Nat.zero_le _, rfl, fun j b hj => by omega⟩
      case round =>
        obtain ⟨k, hk, rfl, ha⟩ := hrel
        have HA := Lib.hid ha
        clear ha
        by_cases hlt : k < s.size
        · have hg : s.data.toList[k]? = some s[k] := by
            rw [List.getElem?_eq_getElem (by rw [size_toList]; exact hlt)]; rfl
          have HG := Lib.hid hg
          clear hg
          by_cases ha : s[k].toNat < 97
          · have hn := Lib.hid (nameOk_no s.data.toList (fun h => by have := h.2.2 _ (List.mem_of_getElem? HG.out); omega))
            go_wp2
            go_ret
            exact ⟨by rw [hn.out]; rfl, rfl⟩
          · by_cases hb : 122 < s[k].toNat
            · have hn := Lib.hid (nameOk_no s.data.toList (fun h => by have := h.2.2 _ (List.mem_of_getElem? HG.out); omega))
              go_wp2
              go_ret
              exact ⟨by rw [hn.out]; rfl, rfl⟩
            · go_wp2
              go_round
              case rel =>
                refine ⟨k + 1, by omega, by go_num, fun j b hj hb' => ?_⟩
                by_cases e : j = k
                · subst e
                  rw [HG.out] at hb'
                  obtain rfl := Option.some.inj hb'
                  omega
                · exact HA.out j b (by omega) hb'
              case measure => simp [intOf]; omega
        · have hn := Lib.hid (nameOk_yes s.data.toList ⟨by rw [size_toList]; omega, by rw [size_toList]; omega, fun b hb => by
            obtain ⟨j, hj⟩ := List.getElem?_of_mem hb
            have := (List.getElem?_eq_some_iff.1 hj).1
            rw [size_toList] at this
            exact HA.out j b (by omega) hj⟩)
          go_wp2
          go_ret
          exact ⟨by rw [hn.out]; rfl, rfl⟩
end Go.Proofs.YtfjfjjcdlgdbcaaDoor
namespace Go.Proofs.YtfjfjjcdlgdbcaaDoor
open Go.RowKit

/-- the j highest of k bytes of a number -/
def bigT (m k j : Nat) : List UInt8 := (List.range j).map fun i => UInt8.ofNat (m / 2 ^ (8 * (k - 1 - i)))
def bigB (m k : Nat) : List UInt8 := bigT m k k
theorem bigT_length (m k j : Nat) : (bigT m k j).length = j := by simp [bigT]
theorem bigT_succ (m k j : Nat) : bigT m k (j + 1) = bigT m k j ++ [UInt8.ofNat (m / 2 ^ (8 * (k - 1 - j)))] := by
  simp [bigT, List.range_succ]
theorem ofNat_byte (x : Nat) : ((UInt8.ofNat x).toNat : Int) = (x : Int) % 256 := by simp

set_option maxRecDepth 100000 in
set_option maxHeartbeats 1000000 in
theorem Big_calls (v : Value) (xs : List UInt8) (m k B : Nat) (w : World) (hown : OwnB w B v xs) (hB : B ≤ w.heap.size) (hm : m < 18446744073709551616) (hk : k ≤ 8) (hl : xs.length ≤ 1000000) :
    Calls Tryd.prog 79 #[v, .int .u64 m, .int .i64 k] w fun e w' => ∃ v', e = .returned v' ∧ OwnB w' B v' (xs ++ bigB m k) ∧ Below B w w' := by
  have HO := Lib.hid hown
  clear hown
  have HM := Lib.hid hm
  clear hm
  have e1 : IntKind.i64.wrap ((k : Int) - 1) = (k : Int) - 1 := IntWalk.i64_in _ (by omega)
  go_enter Tryd.func79, Tryd.ntmps79
  go_wp2
  go_loopw [0, 7] (fun v' i wr => ∃ j : Nat, j ≤ k ∧ i = .int .i64 ((k : Int) - 1 - j) ∧ OwnB wr B v' (xs ++ bigT m k j) ∧ Below B w wr) (fun _ i _ => (intOf i + 1).toNat)
  case atStart => exact ⟨0, by omega, by simp, by simpa [bigT] using HO.out, Below.refl _ _⟩
  case round =>
    obtain ⟨j, hj, rfl, ho, hb⟩ := hrel
    by_cases hlt : j < k
    · have hge : (0 : Int) ≤ (k : Int) - 1 - j := by omega
      have hbs : B ≤ wr.heap.size := Nat.le_trans hB hb.size
      go_wp2_with (at_builtin; refine wpList_appendB _ rfl (.tmp 14) (.tmp 20) rfl B _ (xs ++ bigT m k j) [UInt8.ofNat (m / 2 ^ (8 * (k - 1 - j)))] rfl _ _ _ rfl (ho.alloc _) (RdB.one _ _ _ _ ?hb) ?hl ?hB ?_; rotate_right; intro v2 w2 ho2 hg2 hb2)
      case hb => simp
      case hl => simp [bigT_length]; omega
      case hB => simp; omega
      go_roundw
      case rel => exact ⟨j + 1, by omega, by simp; omega, by rw [bigT_succ, ← List.append_assoc]; exact ho2, (hb.alloc hbs _).trans hb2⟩
      case measure => simp [intOf]; omega
    · have hge : ¬ (0 : Int) ≤ (k : Int) - 1 - j := by omega
      go_wp2
      go_ret
      obtain rfl : j = k := by omega
      exact ⟨_, rfl, ho, hb⟩
end Go.Proofs.YtfjfjjcdlgdbcaaDoor
namespace Go.Proofs.YtfjfjjcdlgdbcaaDoor
open Go.RowKit

/-- the slice value (A, n, c) reads as a list of byte lists -/
def RdL (w : World) (A : Option Addr) (n c : Nat) (yss : List (List UInt8)) : Prop :=
  yss.length = n ∧ n ≤ c ∧ c ≤ maxLen ∧ (0 < n → ∃ ad, A = some ad ∧ ∀ j ys, yss[j]? = some ys → ∃ B m, w.cell? (ad.add j) = some (.slice B ys.length m) ∧ RdB w B ys.length m ys)

theorem RdL.below {w w1 : World} {A : Option Addr} {n c : Nat} {yss : List (List UInt8)} (h : RdL w A n c yss) (hb : Below w.heap.size w w1) : RdL w1 A n c yss :=
  ⟨h.1, h.2.1, h.2.2.1, fun hn => by
    obtain ⟨ad, e, hc⟩ := h.2.2.2 hn
    refine ⟨ad, e, fun j ys hj => ?_⟩
    obtain ⟨B, m, h1, h2⟩ := hc j ys hj
    exact ⟨B, m, by rw [hb.cell (World.block_lt_of_cell? w _ h1)]; exact h1, h2.below hb⟩⟩
theorem RdL.at_ {w : World} {A : Option Addr} {n c : Nat} {yss : List (List UInt8)} (h : RdL w A n c yss) {k : Nat} (hk : k < n) :
    ∃ ad B m, A = some ad ∧ yss[k]? = some (yss.getD k []) ∧ w.cell? (ad.add k) = some (.slice B (yss.getD k []).length m) ∧ RdB w B (yss.getD k []).length m (yss.getD k []) := by
  obtain ⟨ad, e, hc⟩ := h.2.2.2 (by omega)
  have hl : k < yss.length := by have := h.1; omega
  have hg : yss[k]? = some (yss.getD k []) := by rw [List.getD_eq_getElem?_getD, List.getElem?_eq_getElem hl]; rfl
  obtain ⟨B, m, h1, h2⟩ := hc k _ hg
  exact ⟨ad, B, m, e, hg, h1, h2⟩
end Go.Proofs.YtfjfjjcdlgdbcaaDoor
namespace Go.Proofs.YtfjfjjcdlgdbcaaDoor
open Go.RowKit

section
variable {P : Program}
/-- is it a type of several cells, so many? -/
def AggT (P : Program) (ty : TypeId) (n : Nat) : Prop :=
  (P.underlying ty).elim False (fun d => (match d with | .struct _ | .array _ _ => true | _ => false) = true) ∧ (P.info? ty).map (·.size) = some n
theorem run_isAgg {ty : TypeId} {n : Nat} (h : AggT P ty n) (w : World) : (isAgg ty).run P w = .ok true w := by
  obtain ⟨h1, _⟩ := h
  cases hq : P.underlying ty with
  | none => rw [hq] at h1; exact h1.elim
  | some d =>
    rw [hq] at h1
    simp only [Option.elim] at h1
    unfold isAgg
    rw [Sem.run_bind, run_underlying hq w]
    cases d <;> simp_all
theorem run_sizeOf {ty : TypeId} {n : Nat} (h : AggT P ty n) (w : World) : (sizeOf ty).run P w = .ok n w := by
  obtain ⟨_, h2⟩ := h
  cases hq : P.info? ty with
  | none => simp [hq] at h2
  | some i =>
    have hs : i.size = n := by simpa [hq] using h2
    simp [sizeOf, typeInfo, hq, hs]
theorem run_loadAgg (w : World) (ty : TypeId) (g o : Nat) (vs : List Value) (ht : AggT P ty vs.length) (h : CellsAt w g o vs) :
    (loadVar ty ⟨g, o, none⟩).run P w = .ok (.agg vs.toArray) w := by
  simp only [loadVar, Sem.run_bind, run_isAgg ht, run_sizeOf ht, Result.andThen_ok, if_true, run_loadRow (P := P) w g o vs h, Sem.run_pure]
theorem wpList_loadAgg {ops : Array Oper} {rest : List Oper} {o : Oper} {a : Act} {w : World} {Q : Exit → Act → World → Prop} (hgd : o.guard = none) (ty : TypeId) (x : Operand) (ho : o.op = .load ty x)
    (g p : Nat) (hx : a.eval x = .pointer (some ⟨g, p, none⟩)) (vs : List Value) (ht : AggT P ty vs.length) (hc : CellsAt w g p vs)
    (h : wpList P ops Q rest (a.put o.dst (.agg vs.toArray)) w) : wpList P ops Q (o :: rest) a w :=
  wpList_plain hgd fun K hK => by
    unfold Oper.wp execOp
    simp only [ho, hx, Instr.loadAt, Instr.sureAddr, Sem.run_bind, Sem.run_pure, Result.andThen_ok, run_loadAgg w ty g p vs ht hc]
    exact hK _ _ h
/-- the same where the operation is guarded, and the guard says yes -/
theorem wpList_loadAggG {ops : Array Oper} {rest : List Oper} {o : Oper} {a : Act} {w : World} {Q : Exit → Act → World → Prop} (hw : Region.wanted o (yielded ops a.tmps) = true) (ty : TypeId) (x : Operand) (ho : o.op = .load ty x)
    (g p : Nat) (hx : a.eval x = .pointer (some ⟨g, p, none⟩)) (vs : List Value) (ht : AggT P ty vs.length) (hc : CellsAt w g p vs)
    (h : wpList P ops Q rest (a.put o.dst (.agg vs.toArray)) w) : wpList P ops Q (o :: rest) a w :=
  wpList_step fun K hK => by
    rw [if_pos hw]
    unfold Oper.wp execOp
    simp only [ho, hx, Instr.loadAt, Instr.sureAddr, Sem.run_bind, Sem.run_pure, Result.andThen_ok, run_loadAgg w ty g p vs ht hc]
    exact hK _ _ h
theorem run_storeAgg (w : World) (ty : TypeId) (g o : Nat) (vs : Array Value) (ht : AggT P ty vs.size) (hr : RoomAt w g o vs.size) (h1 : AllOne vs.toList) :
    (storeVar ty ⟨g, o, none⟩ (.agg vs)).run P w = .ok () (w.setCells g o vs.toList) := by
  have := run_storeRow (P := P) w g o vs.toList (by simpa using hr) h1
  simp [storeVar, Sem.run_bind, Value.cells, run_sizeOf ht, this]
theorem wpList_storeAgg {ops : Array Oper} {rest : List Oper} {o : Oper} {a : Act} {w : World} {Q : Exit → Act → World → Prop} (hgd : o.guard = none) (hdst : o.dst = none) (ty : TypeId) (x y : Operand) (ho : o.op = .store ty x y)
    (g p : Nat) (hx : a.eval x = .pointer (some ⟨g, p, none⟩)) (vs : Array Value) (hy : a.eval y = .agg vs) (ht : AggT P ty vs.size) (hr : RoomAt w g p vs.size) (h1 : AllOne vs.toList)
    (h : wpList P ops Q rest a (w.setCells g p vs.toList)) : wpList P ops Q (o :: rest) a w :=
  wpList_plain hgd fun K hK => by
    unfold Oper.wp execOp
    simp only [ho, hx, hy, Instr.storeAt, Instr.sureAddr, Sem.run_bind, Sem.run_pure, Result.andThen_ok, run_storeAgg w ty g p vs ht hr h1]
    show K (a.put o.dst undef) _
    rw [hdst]
    exact hK _ _ h
/-- into a variable that has just been made -/
theorem wpList_storeNew {ops : Array Oper} {rest : List Oper} {o : Oper} {a : Act} {w : World} {Q : Exit → Act → World → Prop} (hgd : o.guard = none) (hdst : o.dst = none) (ty : TypeId) (x y : Operand) (ho : o.op = .store ty x y)
    (c : Array Value) (t : TypeId) (hx : a.eval x = .pointer (some ⟨w.heap.size, 0, none⟩)) (vs : Array Value) (hy : a.eval y = .agg vs) (ht : AggT P ty vs.size) (hs : c.size = vs.size) (h1 : AllOne vs.toList)
    (h : wpList P ops Q rest a (w.alloc (.cells vs t))) : wpList P ops Q (o :: rest) a (w.alloc (.cells c t)) := by
  refine wpList_storeAgg hgd hdst ty x y ho _ 0 hx vs hy ht (roomAt_alloc_at w c t _ 0 _ rfl (by omega)) h1 ?_
  rw [setCells_alloc_at _ _ _ _ _ _ rfl (by simp; omega), ovw_all _ _ (by simpa using hs)]
  simpa using h
end
theorem Tryd.agg25 : AggT Tryd.prog 25 32 := by
  refine ⟨?_, by kernel_rfl⟩
  rw [Tryd.underlying25]; exact rfl
theorem Tryd.agg28 : AggT Tryd.prog 28 67 := by
  refine ⟨?_, by kernel_rfl⟩
  rw [Tryd.underlying28]; exact rfl
end Go.Proofs.YtfjfjjcdlgdbcaaDoor
namespace Go.Proofs.YtfjfjjcdlgdbcaaDoor
open Go.RowKit

theorem foldl_ovw : ∀ (vs : List Value) (off i : Nat) (cells : Array Value), off + i + vs.length ≤ cells.size →
    (vs.zipIdx i).foldl (fun (cs : Array Value) (p : Value × Nat) => cs.setIfInBounds (off + p.2) p.1) cells = ovw cells (off + i) vs
  | [], off, i, cells, _ => by simp [ovw]
  | v :: r, off, i, cells, h => by
    simp only [List.length_cons] at h
    simp only [List.zipIdx_cons, List.foldl_cons]
    rw [foldl_ovw r off (i + 1) _ (by simp; omega)]
    apply Array.ext_getElem?
    intro j
    rw [get_ovw _ _ _ (by simp; omega), get_ovw _ _ _ (by simp; omega)]
    simp only [List.length_cons]
    by_cases h1 : off + (i + 1) ≤ j ∧ j < off + (i + 1) + r.length
    · rw [if_pos h1, if_pos (by omega)]
      obtain ⟨k, rfl⟩ : ∃ k, j = off + (i + 1) + k := ⟨j - (off + (i + 1)), by omega⟩
      rw [show off + (i + 1) + k - (off + (i + 1)) = k by omega, show off + (i + 1) + k - (off + i) = k + 1 by omega]; simp
    · rw [if_neg h1]
      by_cases h2 : j = off + i
      · subst h2
        rw [if_pos (by omega), Array.getElem?_setIfInBounds, if_pos rfl, if_pos (by omega)]
        simp
      · rw [if_neg (by omega)]
        simp [Array.getElem?_setIfInBounds, Ne.symm h2]

theorem fill_cons (place : Nat → Option (Nat × Nat)) (cells : Array Value) (i : Nat) (v : Value) (rest : List (Nat × Value)) (off size : Nat) (hp : place i = some (off, size))
    (hs : v.cells.size = size) (hf : off + size ≤ cells.size) : Instr.fill place cells ((i, v) :: rest) = Instr.fill place (ovw cells off v.cells.toList) rest := by
  have h := foldl_ovw v.cells.toList off 0 cells (by simp; omega)
  rw [Instr.fill]
  simp only [hp]
  rw [if_neg (by simp; omega)]
  congr 1
  rw [← Array.foldl_toList, Array.toList_zipIdx]
  exact h

section
variable {P : Program}
/-- a slice of one, of two rows -/
theorem run_buildSlice1 (w : World) (t e : TypeId) (k : Nat) (cs : Array Value) (ht : P.underlying t = some (.slice e)) (he : AggT P e k) (hz : ((P.info? e).bind (·.zero)).isSome = true) (hs : cs.size = k) (hk : k ≤ 1000) (hk0 : 0 < k) :
    (Instr.buildSlice t 1 #[(0, .agg cs)]).run P w = .ok (.slice (some ⟨w.heap.size, 0, none⟩) 1 1) (w.alloc (.cells cs e)) := by
  obtain ⟨z, hz⟩ := Option.isSome_iff_exists.1 hz
  have hzr : (zeroValue e).run P w = .ok z w := by
    cases hq : P.info? e with
    | none => simp [hq] at hz
    | some i => simp [zeroValue, typeInfo, hq] at hz ⊢; simp [hz]
  have hc : (Array.map (fun x => z.cells[x % z.cells.size]!) (Array.range (1 * k))).size = k := by simp
  unfold Instr.buildSlice
  simp only [Sem.run_bind, run_underlying ht, Result.andThen_ok, run_sizeOf he]
  rw [if_neg (by omega), if_neg (by omega)]
  simp only [Sem.run_bind, hzr, Result.andThen_ok, Sem.run_pure, Array.toList]
  rw [fill_cons _ _ 0 (.agg cs) _ 0 k (by simp) hs (by simp), Instr.fill, ovw_all _ _ (by rw [hc]; simp [Value.cells, hs])]
  rfl
theorem run_buildSlice2 (w : World) (t e : TypeId) (k : Nat) (cs ds : Array Value) (ht : P.underlying t = some (.slice e)) (he : AggT P e k) (hz : ((P.info? e).bind (·.zero)).isSome = true) (hs : cs.size = k) (hd : ds.size = k) (hk : k ≤ 1000) (hk0 : 0 < k) :
    (Instr.buildSlice t 2 #[(0, .agg cs), (1, .agg ds)]).run P w = .ok (.slice (some ⟨w.heap.size, 0, none⟩) 2 2) (w.alloc (.cells (cs ++ ds) e)) := by
  obtain ⟨z, hz⟩ := Option.isSome_iff_exists.1 hz
  have hzr : (zeroValue e).run P w = .ok z w := by
    cases hq : P.info? e with
    | none => simp [hq] at hz
    | some i => simp [zeroValue, typeInfo, hq] at hz ⊢; simp [hz]
  have hc : (Array.map (fun x => z.cells[x % z.cells.size]!) (Array.range (2 * k))).size = 2 * k := by simp
  unfold Instr.buildSlice
  simp only [Sem.run_bind, run_underlying ht, Result.andThen_ok, run_sizeOf he]
  rw [if_neg (by omega), if_neg (by omega)]
  simp only [Sem.run_bind, hzr, Result.andThen_ok, Sem.run_pure, Array.toList]
  generalize Array.map (fun x => z.cells[x % z.cells.size]!) (Array.range (2 * k)) = Z at hc ⊢
  have h1 : (ovw Z 0 (Value.agg cs).cells.toList).size = 2 * k := by
    rw [size_ovw _ _ _ (by simp [Value.cells, hs]; omega), hc]
  rw [fill_cons _ _ 0 (.agg cs) _ 0 k (by simp) hs (by rw [hc]; omega), fill_cons _ _ 1 (.agg ds) _ k k (by simp) hd (by rw [h1]; omega), Instr.fill]
  have e : ovw (ovw Z 0 (Value.agg cs).cells.toList) k (Value.agg ds).cells.toList = cs ++ ds := by
    apply Array.ext_getElem?
    intro j
    rw [get_ovw _ _ _ (by rw [h1]; simp [Value.cells, hd]; omega), get_ovw _ _ _ (by rw [hc]; simp [Value.cells, hs]; omega), Array.getElem?_append]
    simp only [Value.cells, Array.length_toList, hs, hd, Nat.zero_add, Nat.zero_le, true_and, Nat.sub_zero, Array.getElem?_toList]
    by_cases h2 : j < k
    · rw [if_neg (by omega), if_pos h2, if_pos h2]
    · rw [if_neg h2]
      by_cases h3 : j < k + k
      · rw [if_pos ⟨by omega, h3⟩, if_neg h2]
      · rw [if_neg (by omega), if_neg (by omega), Array.getElem?_eq_none (by rw [hc]; omega), Array.getElem?_eq_none (by rw [hd]; omega)]
  rw [e]
  rfl
end
theorem foldl_all (cells : Array Value) (vs : List Value) (h : cells.size = vs.length) : List.foldl (fun (cs : Array Value) (x : Value × Nat) => cs.setIfInBounds x.2 x.1) cells vs.zipIdx = vs.toArray := by
  have := foldl_ovw vs 0 0 cells (by omega)
  simp only [Nat.zero_add] at this
  rw [this, ovw_all _ _ h]
theorem foldl_at (cells : Array Value) (n : Nat) (vs : List Value) (h : n + vs.length ≤ cells.size) : List.foldl (fun (cs : Array Value) (x : Value × Nat) => cs.setIfInBounds (n + x.2) x.1) cells vs.zipIdx = ovw cells n vs := by
  have := foldl_ovw vs n 0 cells (by omega)
  simpa using this
theorem foldl_0 (cells : Array Value) (vs : List Value) (h : vs.length ≤ cells.size) : List.foldl (fun (cs : Array Value) (x : Value × Nat) => cs.setIfInBounds x.2 x.1) cells vs.zipIdx = ovw cells 0 vs := by
  have := foldl_ovw vs 0 0 cells (by omega)
  simpa only [Nat.zero_add] using this
theorem ovw_two (cells : Array Value) (n m : Nat) (xs ys : List Value) (hx : xs.length = n) (hy : ys.length = m) (hc : cells.size = n + m) : ovw (ovw cells 0 xs) n ys = (xs ++ ys).toArray := by
  have h1 : (ovw cells 0 xs).size = n + m := by rw [size_ovw _ _ _ (by omega), hc]
  apply Array.ext_getElem?
  intro j
  rw [get_ovw _ _ _ (by omega), get_ovw _ _ _ (by omega)]
  conv => rhs; rw [List.getElem?_toArray, List.getElem?_append]
  simp only [Nat.zero_add, Nat.zero_le, true_and, Nat.sub_zero, hx, hy]
  by_cases h2 : j < n
  · rw [if_neg (by omega), if_pos h2, if_pos h2]
  · by_cases h3 : j < n + m
    · rw [if_pos ⟨by omega, h3⟩, if_neg h2]
    · rw [if_neg (by omega), if_neg h2, if_neg h2, Array.getElem?_eq_none (by omega), List.getElem?_eq_none (by omega)]
/-- two results, the first one a struct that lies in memory -/
theorem results_agg_tmp {P : Program} {fn : Func} {p q : Tmp} {ty : TypeId} (h : fn.results = #[.cell p ty, .tmp q]) (tmps : Array Value) (w : World) (g : Nat) (vs : Array Value)
    (hp : tmps.getD p undef = .pointer (some ⟨g, 0, none⟩)) (ht : AggT P ty vs.size) (hc : CellsAt w g 0 vs.toList) :
    (results fn tmps).run P w = .ok (.tuple #[.agg vs, tmps.getD q undef]) w := by
  have hp' : tmps[p]?.getD undef = .pointer (some ⟨g, 0, none⟩) := by simpa using hp
  have hl := run_loadAgg (P := P) w ty g 0 vs.toList (by simpa using ht) hc
  simp [results, h, hp', asAddr, hl]
theorem cellsAt_blk {w : World} {g : Nat} {t : TypeId} {cs : Array Value} (h : Blk w g t cs) : CellsAt w g 0 cs.toList :=
  h.cells 0 _ (fun j u hu => by simpa using hu)
theorem roomAt_past1 (w : World) (c : Array Value) (t : TypeId) (b : Obj) (o k : Nat) (h : o + k ≤ c.size) : RoomAt ((w.alloc (.cells c t)).alloc b) w.heap.size o k :=
  roomAt_alloc_past _ _ _ _ _ (by simp) (roomAt_alloc_at w c t _ o k rfl h)
theorem roomAt_past2 (w : World) (c : Array Value) (t : TypeId) (b b' : Obj) (o k : Nat) (h : o + k ≤ c.size) : RoomAt (((w.alloc (.cells c t)).alloc b).alloc b') w.heap.size o k :=
  roomAt_alloc_past _ _ _ _ _ (by simp; omega) (roomAt_past1 w c t b o k h)
theorem roomAt_past3 (w : World) (c : Array Value) (t : TypeId) (b b' b'' : Obj) (o k : Nat) (h : o + k ≤ c.size) : RoomAt ((((w.alloc (.cells c t)).alloc b).alloc b').alloc b'') w.heap.size o k :=
  roomAt_alloc_past _ _ _ _ _ (by simp; omega) (roomAt_past2 w c t b b' o k h)
theorem roomAt_at1 (w : World) (a : Obj) (c : Array Value) (t : TypeId) (o k : Nat) (h : o + k ≤ c.size) : RoomAt ((w.alloc a).alloc (.cells c t)) (w.heap.size + 1) o k := roomAt_alloc_at _ c t _ o k (by simp) h
/-- the same as rewritings: a walk's simp goes one premise deep at each -/
theorem roomAt_drew_eq (w : World) (n o k : Nat) : RoomAt w.drew n o k = RoomAt w n o k := rfl
theorem roomAt_drewN_eq (w : World) (m n o k : Nat) : RoomAt (w.drewN m) n o k = RoomAt w n o k := rfl
theorem roomAt_past_eq (w : World) (b : Obj) (n o k : Nat) (hn : n < w.heap.size) : RoomAt (w.alloc b) n o k = RoomAt w n o k := by
  apply propext
  unfold RoomAt
  constructor
  · intro h j hj
    have := h j hj
    rwa [World.cell?_alloc_lt w b ⟨n, o + j, none⟩ hn, World.frozen?_alloc_past b n _ hn] at this
  · intro h
    exact roomAt_alloc_past w b n o k hn h
end Go.Proofs.YtfjfjjcdlgdbcaaDoor
namespace Go.Proofs.YtfjfjjcdlgdbcaaDoor
open Go.RowKit

/-- the string of so many bytes -/
def str (xs : List UInt8) : ByteArray := ⟨xs.toArray⟩
theorem str_toList (xs : List UInt8) : (str xs).data.toList = xs := rfl
theorem str_list (xs : List UInt8) : (str xs).toList = xs := by rw [ByteArray.toList_eq]; rfl
theorem str_size (xs : List UInt8) : (str xs).size = xs.length := rfl
theorem str_eta (s : ByteArray) : str s.data.toList = s := by
  unfold str
  obtain ⟨⟨l⟩⟩ := s
  rfl

theorem strOfNums_bytes (xs : List UInt8) : strOfNums (xs.map fun b => (b.toNat : Int)) = str xs := by
  simp only [strOfNums, str, List.map_map]
  congr 2
  conv => rhs; rw [← List.map_id xs]
  apply List.map_congr_left
  intro b _
  simp
theorem run_convertB {P : Program} (w : World) (src e dst : TypeId) (hs : P.underlying src = some (.slice e)) (he : P.underlying e = some (.int .u8)) (hd : P.underlying dst = some .string)
    {A : Option Addr} {n c : Nat} {xs : List UInt8} (h : RdB w A n c xs) : (convert src dst (.slice A n c)).run P w = .ok (.string (str xs)) w := by
  rcases Nat.eq_zero_or_pos n with h0 | h0
  · subst h0
    have e1 : xs = [] := List.eq_nil_of_length_eq_zero h.1
    subst e1
    rw [run_convert_bytes_string w src dst e _ 0 c hs he hd]
    cases A with
    | none => rfl
    | some ad =>
      have hl : (loadCells ad 0).run P w = .ok #[] w := rfl
      simp only [Conv.bytesToString, Sem.run_bind, hl, Result.andThen_ok]
      rfl
  · obtain ⟨ad, rfl, hc⟩ := h.2.2.2 h0
    obtain ⟨b, o, sp⟩ := ad
    have hx : ∃ u, xs[0]? = some u := ⟨_, List.getElem?_eq_getElem (by rw [h.1]; exact h0)⟩
    obtain ⟨u, hu⟩ := hx
    have hsp : sp = none := by
      have := hc 0 u hu
      cases sp with
      | none => rfl
      | some k =>
        simp only [Addr.add, if_true, World.cell?] at this
        split at this <;> simp at this
    subst hsp
    have := run_convert_bytes_arg (P := P) w src e hs he b o n c (xs.map fun b => (b.toNat : Int)) (by simpa using h.1) (fun i hi => by
      have hi' : i < xs.length := by rw [h.1]; exact hi
      have h2 := hc i xs[i] (List.getElem?_eq_getElem hi')
      have e : (⟨b, o, none⟩ : Addr).add i = ⟨b, o + i, none⟩ := by unfold Addr.add; split <;> simp_all
      rw [e] at h2
      rw [h2]
      simp [bv, List.getD_eq_getElem?_getD, List.getElem?_eq_getElem hi']) dst hd
    rw [this, strOfNums_bytes]
end Go.Proofs.YtfjfjjcdlgdbcaaDoor
