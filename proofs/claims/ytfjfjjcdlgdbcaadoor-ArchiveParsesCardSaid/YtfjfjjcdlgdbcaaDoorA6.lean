/- Structs and slices of structs that are built out of rows. -/
import Derived.Test.YtfjfjjcdlgdbcaaDoorA5
namespace Go.Proofs.YtfjfjjcdlgdbcaaDoor
open Go.RowKit

theorem foldl_ovw : ∀ (vs : List Value) (off i : Nat) (cells : Array Value), off + i + vs.length ≤ cells.size →
    (vs.zipIdx i).foldl (fun (cs : Array Value) (p : Value × Nat) => cs.setIfInBounds (off + p.2) p.1) cells = ovw cells (off + i) vs
  | [], off, i, cells, _ => by simp [ovw]
  | v :: r, off, i, cells, h => by
    simp only [List.length_cons] at h
    simp only [List.zipIdx_cons, List.foldl_cons]
    rw [foldl_ovw r off (i + 1) _ (by simp; omega)]
    apply Array.ext_getElem?
    intro j
    rw [get_ovw _ _ _ (by simp; omega), get_ovw _ _ _ (by simp; omega)]
    simp only [List.length_cons]
    by_cases h1 : off + (i + 1) ≤ j ∧ j < off + (i + 1) + r.length
    · rw [if_pos h1, if_pos (by omega)]
      obtain ⟨k, rfl⟩ : ∃ k, j = off + (i + 1) + k := ⟨j - (off + (i + 1)), by omega⟩
      rw [show off + (i + 1) + k - (off + (i + 1)) = k by omega, show off + (i + 1) + k - (off + i) = k + 1 by omega]; simp
    · rw [if_neg h1]
      by_cases h2 : j = off + i
      · subst h2
        rw [if_pos (by omega), Array.getElem?_setIfInBounds, if_pos rfl, if_pos (by omega)]
        simp
      · rw [if_neg (by omega)]
        simp [Array.getElem?_setIfInBounds, Ne.symm h2]

theorem fill_cons (place : Nat → Option (Nat × Nat)) (cells : Array Value) (i : Nat) (v : Value) (rest : List (Nat × Value)) (off size : Nat) (hp : place i = some (off, size))
    (hs : v.cells.size = size) (hf : off + size ≤ cells.size) : Instr.fill place cells ((i, v) :: rest) = Instr.fill place (ovw cells off v.cells.toList) rest := by
  have h := foldl_ovw v.cells.toList off 0 cells (by simp; omega)
  rw [Instr.fill]
  simp only [hp]
  rw [if_neg (by simp; omega)]
  congr 1
  rw [← Array.foldl_toList, Array.toList_zipIdx]
  exact h

section
variable {P : Program}
/-- a slice of one, of two rows -/
theorem run_buildSlice1 (w : World) (t e : TypeId) (k : Nat) (cs : Array Value) (ht : P.underlying t = some (.slice e)) (he : AggT P e k) (hz : ((P.info? e).bind (·.zero)).isSome = true) (hs : cs.size = k) (hk : k ≤ 1000) (hk0 : 0 < k) :
    (Instr.buildSlice t 1 #[(0, .agg cs)]).run P w = .ok (.slice (some ⟨w.heap.size, 0, none⟩) 1 1) (w.alloc (.cells cs e)) := by
  obtain ⟨z, hz⟩ := Option.isSome_iff_exists.1 hz
  have hzr : (zeroValue e).run P w = .ok z w := by
    cases hq : P.info? e with
    | none => simp [hq] at hz
    | some i => simp [zeroValue, typeInfo, hq] at hz ⊢; simp [hz]
  have hc : (Array.map (fun x => z.cells[x % z.cells.size]!) (Array.range (1 * k))).size = k := by simp
  unfold Instr.buildSlice
  simp only [Sem.run_bind, run_underlying ht, Result.andThen_ok, run_sizeOf he]
  rw [if_neg (by omega), if_neg (by omega)]
  simp only [Sem.run_bind, hzr, Result.andThen_ok, Sem.run_pure, Array.toList]
  rw [fill_cons _ _ 0 (.agg cs) _ 0 k (by simp) hs (by simp), Instr.fill, ovw_all _ _ (by rw [hc]; simp [Value.cells, hs])]
  rfl
theorem run_buildSlice2 (w : World) (t e : TypeId) (k : Nat) (cs ds : Array Value) (ht : P.underlying t = some (.slice e)) (he : AggT P e k) (hz : ((P.info? e).bind (·.zero)).isSome = true) (hs : cs.size = k) (hd : ds.size = k) (hk : k ≤ 1000) (hk0 : 0 < k) :
    (Instr.buildSlice t 2 #[(0, .agg cs), (1, .agg ds)]).run P w = .ok (.slice (some ⟨w.heap.size, 0, none⟩) 2 2) (w.alloc (.cells (cs ++ ds) e)) := by
  obtain ⟨z, hz⟩ := Option.isSome_iff_exists.1 hz
  have hzr : (zeroValue e).run P w = .ok z w := by
    cases hq : P.info? e with
    | none => simp [hq] at hz
    | some i => simp [zeroValue, typeInfo, hq] at hz ⊢; simp [hz]
  have hc : (Array.map (fun x => z.cells[x % z.cells.size]!) (Array.range (2 * k))).size = 2 * k := by simp
  unfold Instr.buildSlice
  simp only [Sem.run_bind, run_underlying ht, Result.andThen_ok, run_sizeOf he]
  rw [if_neg (by omega), if_neg (by omega)]
  simp only [Sem.run_bind, hzr, Result.andThen_ok, Sem.run_pure, Array.toList]
  generalize Array.map (fun x => z.cells[x % z.cells.size]!) (Array.range (2 * k)) = Z at hc ⊢
  have h1 : (ovw Z 0 (Value.agg cs).cells.toList).size = 2 * k := by
    rw [size_ovw _ _ _ (by simp [Value.cells, hs]; omega), hc]
  rw [fill_cons _ _ 0 (.agg cs) _ 0 k (by simp) hs (by rw [hc]; omega), fill_cons _ _ 1 (.agg ds) _ k k (by simp) hd (by rw [h1]; omega), Instr.fill]
  have e : ovw (ovw Z 0 (Value.agg cs).cells.toList) k (Value.agg ds).cells.toList = cs ++ ds := by
    apply Array.ext_getElem?
    intro j
    rw [get_ovw _ _ _ (by rw [h1]; simp [Value.cells, hd]; omega), get_ovw _ _ _ (by rw [hc]; simp [Value.cells, hs]; omega), Array.getElem?_append]
    simp only [Value.cells, Array.length_toList, hs, hd, Nat.zero_add, Nat.zero_le, true_and, Nat.sub_zero, Array.getElem?_toList]
    by_cases h2 : j < k
    · rw [if_neg (by omega), if_pos h2, if_pos h2]
    · rw [if_neg h2]
      by_cases h3 : j < k + k
      · rw [if_pos ⟨by omega, h3⟩, if_neg h2]
      · rw [if_neg (by omega), if_neg (by omega), Array.getElem?_eq_none (by rw [hc]; omega), Array.getElem?_eq_none (by rw [hd]; omega)]
  rw [e]
  rfl
end
theorem foldl_all (cells : Array Value) (vs : List Value) (h : cells.size = vs.length) : List.foldl (fun (cs : Array Value) (x : Value × Nat) => cs.setIfInBounds x.2 x.1) cells vs.zipIdx = vs.toArray := by
  have := foldl_ovw vs 0 0 cells (by omega)
  simp only [Nat.zero_add] at this
  rw [this, ovw_all _ _ h]
theorem foldl_at (cells : Array Value) (n : Nat) (vs : List Value) (h : n + vs.length ≤ cells.size) : List.foldl (fun (cs : Array Value) (x : Value × Nat) => cs.setIfInBounds (n + x.2) x.1) cells vs.zipIdx = ovw cells n vs := by
  have := foldl_ovw vs n 0 cells (by omega)
  simpa using this
theorem foldl_0 (cells : Array Value) (vs : List Value) (h : vs.length ≤ cells.size) : List.foldl (fun (cs : Array Value) (x : Value × Nat) => cs.setIfInBounds x.2 x.1) cells vs.zipIdx = ovw cells 0 vs := by
  have := foldl_ovw vs 0 0 cells (by omega)
  simpa only [Nat.zero_add] using this
theorem ovw_two (cells : Array Value) (n m : Nat) (xs ys : List Value) (hx : xs.length = n) (hy : ys.length = m) (hc : cells.size = n + m) : ovw (ovw cells 0 xs) n ys = (xs ++ ys).toArray := by
  have h1 : (ovw cells 0 xs).size = n + m := by rw [size_ovw _ _ _ (by omega), hc]
  apply Array.ext_getElem?
  intro j
  rw [get_ovw _ _ _ (by omega), get_ovw _ _ _ (by omega)]
  conv => rhs; rw [List.getElem?_toArray, List.getElem?_append]
  simp only [Nat.zero_add, Nat.zero_le, true_and, Nat.sub_zero, hx, hy]
  by_cases h2 : j < n
  · rw [if_neg (by omega), if_pos h2, if_pos h2]
  · by_cases h3 : j < n + m
    · rw [if_pos ⟨by omega, h3⟩, if_neg h2]
    · rw [if_neg (by omega), if_neg h2, if_neg h2, Array.getElem?_eq_none (by omega), List.getElem?_eq_none (by omega)]
/-- two results, the first one a struct that lies in memory -/
theorem results_agg_tmp {P : Program} {fn : Func} {p q : Tmp} {ty : TypeId} (h : fn.results = #[.cell p ty, .tmp q]) (tmps : Array Value) (w : World) (g : Nat) (vs : Array Value)
    (hp : tmps.getD p undef = .pointer (some ⟨g, 0, none⟩)) (ht : AggT P ty vs.size) (hc : CellsAt w g 0 vs.toList) :
    (results fn tmps).run P w = .ok (.tuple #[.agg vs, tmps.getD q undef]) w := by
  have hp' : tmps[p]?.getD undef = .pointer (some ⟨g, 0, none⟩) := by simpa using hp
  have hl := run_loadAgg (P := P) w ty g 0 vs.toList (by simpa using ht) hc
  simp [results, h, hp', asAddr, hl]
theorem cellsAt_blk {w : World} {g : Nat} {t : TypeId} {cs : Array Value} (h : Blk w g t cs) : CellsAt w g 0 cs.toList :=
  h.cells 0 _ (fun j u hu => by simpa using hu)
theorem roomAt_past1 (w : World) (c : Array Value) (t : TypeId) (b : Obj) (o k : Nat) (h : o + k ≤ c.size) : RoomAt ((w.alloc (.cells c t)).alloc b) w.heap.size o k :=
  roomAt_alloc_past _ _ _ _ _ (by simp) (roomAt_alloc_at w c t _ o k rfl h)
theorem roomAt_past2 (w : World) (c : Array Value) (t : TypeId) (b b' : Obj) (o k : Nat) (h : o + k ≤ c.size) : RoomAt (((w.alloc (.cells c t)).alloc b).alloc b') w.heap.size o k :=
  roomAt_alloc_past _ _ _ _ _ (by simp; omega) (roomAt_past1 w c t b o k h)
theorem roomAt_past3 (w : World) (c : Array Value) (t : TypeId) (b b' b'' : Obj) (o k : Nat) (h : o + k ≤ c.size) : RoomAt ((((w.alloc (.cells c t)).alloc b).alloc b').alloc b'') w.heap.size o k :=
  roomAt_alloc_past _ _ _ _ _ (by simp; omega) (roomAt_past2 w c t b b' o k h)
theorem roomAt_at1 (w : World) (a : Obj) (c : Array Value) (t : TypeId) (o k : Nat) (h : o + k ≤ c.size) : RoomAt ((w.alloc a).alloc (.cells c t)) (w.heap.size + 1) o k := roomAt_alloc_at _ c t _ o k (by simp) h
/-- the same as rewritings: a walk's simp goes one premise deep at each -/
theorem roomAt_drew_eq (w : World) (n o k : Nat) : RoomAt w.drew n o k = RoomAt w n o k := rfl
theorem roomAt_drewN_eq (w : World) (m n o k : Nat) : RoomAt (w.drewN m) n o k = RoomAt w n o k := rfl
theorem roomAt_past_eq (w : World) (b : Obj) (n o k : Nat) (hn : n < w.heap.size) : RoomAt (w.alloc b) n o k = RoomAt w n o k := by
  apply propext
  unfold RoomAt
  constructor
  · intro h j hj
    have := h j hj
    rwa [World.cell?_alloc_lt w b ⟨n, o + j, none⟩ hn, World.frozen?_alloc_past b n _ hn] at this
  · intro h
    exact roomAt_alloc_past w b n o k hn h
end Go.Proofs.YtfjfjjcdlgdbcaaDoor
