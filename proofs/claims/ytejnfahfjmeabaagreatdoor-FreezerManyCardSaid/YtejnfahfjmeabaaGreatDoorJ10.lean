/- the texts M61, M62, M63, M64 of this proof, one behind the other -/
import Derived.Test.YtejnfahfjmeabaaGreatDoorJ9
import Derived.Laws.OwnMore
set_option linter.unusedSimpArgs false
set_option linter.unusedVariables false
namespace Go.Proofs.YtejnfahfjmeabaaGreatDoor
open Go.RowKit
set_option linter.unusedSimpArgs false
set_option linter.unusedVariables false

/-- make, by its run -/
theorem wpList_make_run {P : Program} {w : World} {ops : Array Oper} {rest : List Oper} {o : Oper} {a : Act} {Q : Exit → Act → World → Prop} (hg : o.guard = none) (l c : Operand) (t : TypeId) (hop : o.op = Op.makeSlice t l c) (vl vc : Value) (hl : a.eval l = vl) (hc : a.eval c = vc)
    (v' : Value) (w' : World) (hr : (Instr.makeSlice t vl vc).run P w = .ok v' w') (h : wpList P ops Q rest (a.put o.dst v') w') : wpList P ops Q (o :: rest) a w := by
  refine wpList_plain hg fun K hK' => ?_
  unfold Oper.wp
  simp [execOp, hop, hl, hc, hr, Result.andThen]
  exact hK' _ _ h
theorem Tryz.info5m : (Tryz.prog.info? 5).map (fun i => (i.zero, i.size, i.bytes)) = some (some (.int .u8 0), 1, 1) := by kernel_rfl
theorem make_bytes (r : Nat) (hr : r ≤ 1000) (w : World) : (Instr.makeSlice 34 (.int .i64 (r : Int)) (.int .i64 (r : Int))).run Tryz.prog w = .ok (.slice (some ⟨w.heap.size, 0, none⟩) r r) (w.alloc (.cells (madeCells #[.int .u8 0] r) 5)) := by
  obtain ⟨i0, hi0, hz0, hz1, hz2⟩ := info_parts Tryz.info5m
  have h := run_makeSlice (P := Tryz.prog) w 34 5 i0 _ Tryz.underlying34 hi0 hz0 .i64 .i64 (r : Int) (r : Int) (by omega) (Int.le_refl _) (by rw [hz1]; simp; omega) (by rw [hz2]; omega) (by omega)
  rw [hz1] at h
  simpa [Value.cells] using h
def manyT : List (List UInt8) := [[111, 110, 101], [116, 119, 111]]
theorem manyT_ok : TabsOk manyT := by
  refine ⟨by decide, by decide, ?_, by decide⟩
  intro s hs
  have : s = [111, 110, 101] ∨ s = [116, 119, 111] := by simpa [manyT] using hs
  rcases this with rfl | rfl
  · exact ⟨by decide, by decide, by decide⟩
  · exact ⟨by decide, by decide, by decide⟩
/-- an item of the law's -/
def manyV (i : Nat) : List (List UInt8) := [[UInt8.ofNat i], List.replicate (i % 7) 0]
theorem manyB (i n : Nat) (hn : n ≤ 1000000) : (bodyL 0 n (manyV i)).length ≤ 30 := by
  have h1 := putL_len64 n (by omega)
  have h2 : i % 7 < 7 := Nat.mod_lt _ (by omega)
  unfold bodyL valsB manyV
  simp only [List.length_append, List.map_cons, List.map_nil, List.flatten_cons, List.flatten_nil, valB, List.length_cons, List.length_nil, List.length_replicate]
  rw [putL_small 0 (by omega), putL_small (0 + 1) (by omega), putL_small (i % 7) (by omega)]
  simp only [List.length_cons, List.length_nil]
  omega
def valsM (w : World) (x : Int) (r : Nat) : World := ((w.alloc (.cells #[.int .u8 x] 5)).alloc (.cells (madeCells #[.int .u8 0] r) 5)).alloc (.cells #[.slice (some ⟨w.heap.size, 0, none⟩) 1 1, .slice (some ⟨w.heap.size + 1, 0, none⟩) r r] 34)
theorem many_vals (w : World) (i : Nat) (hi : i < 256) : RdM (valsM w (i : Int) (i % 7)) (some ⟨w.heap.size + 1 + 1, 0, none⟩) 2 2 (manyV i) ∧ Below w.heap.size w (valsM w (i : Int) (i % 7)) := by
  have hr : i % 7 < 7 := Nat.mod_lt _ (by omega)
  have hx : (i : Int) = ((UInt8.ofNat i).toNat : Int) := by
    have : (UInt8.ofNat i).toNat = i := by rw [UInt8.toNat_ofNat']; omega
    rw [this]
  unfold manyV
  generalize hu : UInt8.ofNat i = u at *
  generalize hr2 : i % 7 = r at *
  rw [hx]
  clear hu hr2 hx hi
  obtain ⟨w1, h1⟩ : ∃ w1 : World, w1 = w.alloc (.cells #[.int .u8 (u.toNat : Int)] 5) := ⟨_, rfl⟩
  obtain ⟨w2, h2⟩ : ∃ w2 : World, w2 = w1.alloc (.cells (madeCells #[.int .u8 0] r) 5) := ⟨_, rfl⟩
  have z1 : w1.heap.size = w.heap.size + 1 := by rw [h1]; simp
  have z2 : w2.heap.size = w.heap.size + 1 + 1 := by rw [h2]; simp [z1]
  have e : valsM w (u.toNat : Int) r = w2.alloc (.cells #[.slice (some ⟨w.heap.size, 0, none⟩) 1 1, .slice (some ⟨w.heap.size + 1, 0, none⟩) r r] 34) := by rw [h2, h1]; rfl
  have b1 : Below w.heap.size w w1 := by rw [h1]; exact (Below.refl _ _).alloc (Nat.le_refl _) _
  have b2 : Below w1.heap.size w1 w2 := by rw [h2]; exact (Below.refl _ _).alloc (Nat.le_refl _) _
  have b3 : Below w2.heap.size w2 (valsM w (u.toNat : Int) r) := by rw [e]; exact (Below.refl _ _).alloc (Nat.le_refl _) _
  have ca : w1.cell? ⟨w.heap.size, 0, none⟩ = some (.int .u8 (u.toNat : Int)) := by
    rw [h1]
    exact cell_of_row _ w.heap.size 0 _ 5 _ (heap_alloc_new w _)
  have cb : ∀ j, j < r → w2.cell? ⟨w.heap.size + 1, j, none⟩ = some (.int .u8 0) := fun j hj => by
    rw [h2, ← z1, cell_of_row _ w1.heap.size j _ 5 _ (heap_alloc_new w1 _), ← Array.getElem?_toList, toList_madeCells_one, List.getElem?_replicate, if_pos hj]
  have cc : ∀ j, (valsM w (u.toNat : Int) r).cell? ⟨w.heap.size + 1 + 1, j, none⟩ = #[.slice (some ⟨w.heap.size, 0, none⟩) 1 1, Value.slice (some ⟨w.heap.size + 1, 0, none⟩) r r][j]? := fun j => by
    rw [e, ← z2]
    exact cell_of_row _ w2.heap.size j _ 34 _ (heap_alloc_new w2 _)
  refine ⟨⟨rfl, Nat.le_refl _, by unfold maxLen; omega, fun _ => ⟨_, rfl, fun j v hv => ?_⟩⟩, (b1.trans (b2.mono b1.size)).trans (b3.mono (Nat.le_trans b1.size b2.size))⟩
  match j, hv with
  | 0, hv =>
    obtain rfl : [u] = v := Option.some.inj hv
    refine ⟨some ⟨w.heap.size, 0, none⟩, 1, 1, by rw [addr_at, cc]; rfl, rfl, Nat.le_refl _, by unfold maxLen; omega, fun _ => ⟨_, rfl, fun j b hb => ?_⟩⟩
    match j, hb with
    | 0, hb =>
      obtain rfl : u = b := Option.some.inj hb
      rw [addr_at]
      exact cell_below' b3 (cell_below' b2 ca)
    | j + 1, hb => simp at hb
  | 1, hv =>
    obtain rfl : List.replicate r 0 = v := Option.some.inj hv
    refine ⟨some ⟨w.heap.size + 1, 0, none⟩, r, r, by rw [addr_at, cc]; rfl, by simp, Nat.le_refl _, by unfold maxLen; omega, fun _ => ⟨_, rfl, fun j b hb => ?_⟩⟩
    rw [List.getElem?_replicate] at hb
    split at hb
    · rename_i hj
      obtain rfl : 0 = b := Option.some.inj hb
      rw [addr_at]
      have h3 := cell_below' b3 (cb j hj)
      rw [show (⟨w.heap.size + 1, 0 + j, none⟩ : Addr) = ⟨w.heap.size + 1, j, none⟩ from by rw [Nat.zero_add]]
      exact h3
    · cases hb
  | j + 2, hv => simp at hv
end Go.Proofs.YtejnfahfjmeabaaGreatDoor
namespace Go.Proofs.YtejnfahfjmeabaaGreatDoor
open Go.RowKit
set_option linter.unusedSimpArgs false
set_option linter.unusedVariables false

/-- a freezer that was made since w; N: how many changes at most; B: how many bytes -/
def MW (w wr : World) (f d N B tail head : Nat) (items : List (List (List UInt8))) : Prop :=
  ∃ s l z D fs, FZ wr s f d 4194304 N manyT l z items D 0 fs ∧ z.tail = tail ∧ z.head = head ∧ l.length ≤ N ∧ (fileL manyT l).length ≤ B ∧ (∀ x, s x → w.heap.size ≤ x) ∧ Below w.heap.size w wr
/-- its disk, when it is closed -/
def MD (w wr : World) (d N B tail head : Nat) (items : List (List (List UInt8))) : Prop :=
  ∃ s l z D fs, FDk wr s d 4194304 N manyT l z items D 0 fs ∧ z.tail = tail ∧ z.head = head ∧ l.length ≤ N ∧ (fileL manyT l).length ≤ B ∧ (∀ x, s x → w.heap.size ≤ x) ∧ Below w.heap.size w wr
theorem MW.bel {w wr : World} {f d N B tail head : Nat} {items : List (List (List UInt8))} (h : MW w wr f d N B tail head items) : Below w.heap.size w wr := by
  obtain ⟨s, l, z, D, fs, h1, h2, h3, h4, h5, h6, h7⟩ := h
  exact h7
theorem MW.below {w wr w' : World} {f d N B tail head : Nat} {items : List (List (List UInt8))} (h : MW w wr f d N B tail head items) (hb : Below wr.heap.size wr w') : MW w w' f d N B tail head items := by
  obtain ⟨s, l, z, D, fs, h1, h2, h3, h4, h5, h6, h7⟩ := h
  exact ⟨s, l, z, D, fs, h1.below hb, h2, h3, h4, h5, h6, thn h7 hb⟩
theorem MD.below {w wr w' : World} {d N B tail head : Nat} {items : List (List (List UInt8))} (h : MD w wr d N B tail head items) (hb : Below wr.heap.size wr w') : MD w w' d N B tail head items := by
  obtain ⟨s, l, z, D, fs, h1, h2, h3, h4, h5, h6, h7⟩ := h
  exact ⟨s, l, z, D, fs, h1.below hb, h2, h3, h4, h5, h6, thn h7 hb⟩
theorem MW.append {w wr : World} {f d N B head : Nat} {items : List (List (List UInt8))} {vs : List (List UInt8)} (h : MW w wr f d N B 0 head items) {w' : World} (hb : Below wr.heap.size wr w') {V : Option Addr} {cv : Nat} (hv : RdM w' V 2 cv vs) (hvl : ∀ v ∈ vs, v.length ≤ 16384) (hbl : (bodyL 0 head vs).length ≤ 30) (hB : B + 50 ≤ 4194304) (hN : N ≤ 1000000) (hh : head ≤ 1000000) :
    Calls Tryz.prog 10 #[.pointer (some ⟨f, 0, none⟩), .int .i64 (head : Int), .slice V 2 cv] w' fun e w2 => e = .returned .nilIface ∧ MW w w2 f d (N + 2) (B + 50) 0 (head + 1) (items ++ [vs]) := by
  obtain ⟨s, l, z, D, fs, h1, h2, h3, h4, h5, h6, h7⟩ := h.below hb
  have hfs := frame_small _ hbl
  have hA := FZ.append h1 (by decide) hv hv.1 hvl (by rw [h3]; exact hh) (by rw [h3]; omega) (by rw [h3]; omega) (by omega) hN
  rw [h3] at hA
  refine hA.mono ?_
  rintro e w2 ⟨rfl, ⟨z', D', fs', g1, g2, g3⟩, g4⟩
  refine ⟨rfl, grow s w' w2, _, z', D', fs', g1, g2.trans h2, by rw [g3], ?_, ?_, grow_ge h6 h7.size, below_upd h7 (Nat.le_refl _) g4 h6⟩
  · rw [List.length_append, List.length_singleton]
    omega
  · exact logB1 manyT l (0, head, vs) B h5 hbl
theorem MW.cutHead {w wr : World} {f d N B tail head n : Nat} {items : List (List (List UInt8))} (h : MW w wr f d N B tail head items) (h1 : tail ≤ n) (h2 : n ≤ head) (hB : B + 50 ≤ 4194304) (hN : N ≤ 1000000) (hh : head ≤ 1000000) :
    Calls Tryz.prog 11 #[.pointer (some ⟨f, 0, none⟩), .int .i64 (n : Int)] wr fun e w2 => e = .returned .nilIface ∧ MW w w2 f d (N + 2) (B + 50) tail n (items.take (n - tail)) := by
  obtain ⟨s, l, z, D, fs, k1, k2, k3, k4, k5, k6, k7⟩ := h
  have hbl := body_small 1 n (by omega) (by omega)
  have hfs := frame_small _ (Nat.le_trans hbl (by omega))
  refine (FZ.cutHead k1 (n := n) (by decide) (by rw [k2]; exact h1) (by rw [k3]; exact h2) (by rw [k3]; exact hh) (by omega) (by omega) hN).mono ?_
  rintro e w2 ⟨rfl, ⟨z', D', fs', g1, g2, g3⟩, g4⟩
  rw [k2] at g1
  refine ⟨rfl, grow s wr w2, _, z', D', fs', g1, g2.trans k2, g3, ?_, ?_, grow_ge k6 k7.size, below_upd k7 (Nat.le_refl _) g4 k6⟩
  · rw [List.length_append, List.length_singleton]
    omega
  · exact logB1 manyT l (1, n, []) B k5 (Nat.le_trans hbl (by omega))
theorem MW.cutTail {w wr : World} {f d N B tail head n : Nat} {items : List (List (List UInt8))} (h : MW w wr f d N B tail head items) (h1 : tail ≤ n) (h2 : n ≤ head) (hB : B + 50 ≤ 4194304) (hN : N ≤ 1000000) (hh : head ≤ 1000000) :
    Calls Tryz.prog 12 #[.pointer (some ⟨f, 0, none⟩), .int .i64 (n : Int)] wr fun e w2 => e = .returned .nilIface ∧ MW w w2 f d (N + 2) (B + 50) n head (items.drop (n - tail)) := by
  obtain ⟨s, l, z, D, fs, k1, k2, k3, k4, k5, k6, k7⟩ := h
  have hbl := body_small 2 n (by omega) (by omega)
  have hfs := frame_small _ (Nat.le_trans hbl (by omega))
  refine (FZ.cutTail k1 (n := n) (by decide) (by rw [k2]; exact h1) (by rw [k3]; exact h2) (by rw [k3]; exact hh) (by omega) (by omega) hN).mono ?_
  rintro e w2 ⟨rfl, ⟨z', D', fs', g1, g2, g3⟩, g4⟩
  rw [k2] at g1
  refine ⟨rfl, grow s wr w2, _, z', D', fs', g1, g2, g3.trans k3, ?_, ?_, grow_ge k6 k7.size, below_upd k7 (Nat.le_refl _) g4 k6⟩
  · rw [List.length_append, List.length_singleton]
    omega
  · exact logB1 manyT l (2, n, []) B k5 (Nat.le_trans hbl (by omega))
theorem MW.get {w wr : World} {f d N B tail head t k : Nat} {items : List (List (List UInt8))} {vs : List (List UInt8)} {v : List UInt8} (h : MW w wr f d N B tail head items) (ht : t < 2) (hk : items[k]? = some vs) (hv : vs[t]? = some v) (hh : head ≤ 1000000) (hB : B ≤ 4194304) :
    Calls Tryz.prog 15 #[.pointer (some ⟨f, 0, none⟩), .int .i64 (t : Int), .int .i64 ((tail + k : Nat) : Int)] wr (GetOk wr v) := by
  obtain ⟨s, l, z, D, fs, k1, k2, k3, k4, k5, k6, k7⟩ := h
  have := FZ.get k1 (t := t) (k := k) ht hk hv (by rw [k3]; exact hh) (by omega)
  rw [k2] at this
  exact this
theorem MW.getBad {w wr : World} {f d N B tail head t : Nat} {n : Int} {items : List (List (List UInt8))} (h : MW w wr f d N B tail head items) (ht : t < 2) (hn : n < (tail : Int) ∨ (head : Int) ≤ n) (hh : head ≤ 1000000) :
    Calls Tryz.prog 15 #[.pointer (some ⟨f, 0, none⟩), .int .i64 (t : Int), .int .i64 n] wr (GetBad wr 121) := by
  obtain ⟨s, l, z, D, fs, k1, k2, k3, k4, k5, k6, k7⟩ := h
  exact get_item _ f d 4194304 D true 0 fs manyT _ z t n wr k1.frz ht (by rw [k2, k3]; exact hn) (by rw [k3]; exact hh)
theorem MW.tailC {w wr : World} {f d N B tail head : Nat} {items : List (List (List UInt8))} (h : MW w wr f d N B tail head items) :
    Calls Tryz.prog 13 #[.pointer (some ⟨f, 0, none⟩)] wr fun e w' => e = .returned (.int .i64 (tail : Int)) ∧ w' = wr := by
  obtain ⟨s, l, z, D, fs, k1, k2, k3, k4, k5, k6, k7⟩ := h
  rw [← k2]
  exact k1.tailC
theorem MW.headC {w wr : World} {f d N B tail head : Nat} {items : List (List (List UInt8))} (h : MW w wr f d N B tail head items) (hh : head ≤ 1000000) :
    Calls Tryz.prog 14 #[.pointer (some ⟨f, 0, none⟩)] wr fun e w' => e = .returned (.int .i64 (head : Int)) ∧ Below wr.heap.size wr w' := by
  obtain ⟨s, l, z, D, fs, k1, k2, k3, k4, k5, k6, k7⟩ := h
  rw [← k3]
  refine (k1.headC (by rw [k3]; exact hh)).mono ?_
  rintro e w' ⟨rfl, q, rfl⟩
  exact ⟨rfl, below_drewN q⟩
theorem MW.close {w wr : World} {f d N B tail head : Nat} {items : List (List (List UInt8))} (h : MW w wr f d N B tail head items) :
    Calls Tryz.prog 16 #[.pointer (some ⟨f, 0, none⟩)] wr fun e w' => e = .returned .nilIface ∧ MD w w' d N B tail head items := by
  obtain ⟨s, l, z, D, fs, k1, k2, k3, k4, k5, k6, k7⟩ := h
  refine k1.close.mono ?_
  rintro e w' ⟨rfl, ⟨sd, g1, g2⟩, g3⟩
  exact ⟨rfl, sd, l, z, D, fs, g1, k2, k3, k4, k5, fun x hx => k6 x (g2 x hx), below_upd k7 (Nat.le_refl _) g3 k6⟩
theorem MD.bel {w wr : World} {d N B tail head : Nat} {items : List (List (List UInt8))} (h : MD w wr d N B tail head items) : Below w.heap.size w wr := by
  obtain ⟨s, l, z, D, fs, h1, h2, h3, h4, h5, h6, h7⟩ := h
  exact h7
theorem MD.openC {w wr : World} {d N B tail head : Nat} {items : List (List (List UInt8))} (h : MD w wr d N B tail head items) (hg : Glob w) {A : Option Addr} {c : Nat} (hr : RdT wr A 2 c manyT) (hB : B ≤ 4194304) (hN : N ≤ 1000000) :
    Calls Tryz.prog 9 #[.pointer (some ⟨d, 0, none⟩), .slice A 2 c] wr fun e w' => ∃ f, e = .returned (.tuple #[.pointer (some ⟨f, 0, none⟩), .nilIface]) ∧ MW w w' f d (N + 2) B tail head items := by
  obtain ⟨s, l, z, D, fs, k1, k2, k3, k4, k5, k6, k7⟩ := h
  refine (k1.open (hg.below k7) hr manyT_ok (by omega) (by omega) hN).mono ?_
  rintro e w' ⟨f, rfl, ⟨D', fs', g1⟩, g2, g3⟩
  exact ⟨f, rfl, grow s wr w', l, z, D', fs', g1, k2, k3, by omega, k5, grow_ge k6 k7.size, below_upd k7 (Nat.le_refl _) g2 k6⟩
theorem many_new {w w1 : World} {sd : Blocks} {d : Nat} (hD : DiskN w1 sd d 4194304 hd0) (hge : ∀ k, sd k → w.heap.size ≤ k) (hb : Below w.heap.size w w1) {A : Option Addr} {c : Nat} (hr : RdT w1 A 2 c manyT) :
    Calls Tryz.prog 9 #[.pointer (some ⟨d, 0, none⟩), .slice A 2 c] w1 fun e w' => ∃ f, e = .returned (.tuple #[.pointer (some ⟨f, 0, none⟩), .nilIface]) ∧ MW w w' f d 10 150 0 0 [] := by
  refine (open_new sd d 4194304 A 2 c manyT w1 hD hr manyT_ok (by omega) (by omega)).mono ?_
  rintro e w' ⟨f, D, fs, rfl, g1, g2, g3⟩
  refine ⟨f, rfl, grow sd w1 w', [], z0, D, fs, g1, rfl, rfl, by simp, ?_, grow_ge hge hb.size, below_upd hb (Nat.le_refl _) g2 hge⟩
  have e : fileL manyT [] = headL manyT := by unfold fileL logB; simp
  rw [e]
  exact headL_len manyT_ok
end Go.Proofs.YtejnfahfjmeabaaGreatDoor
namespace Go.Proofs.YtejnfahfjmeabaaGreatDoor
open Go.RowKit
set_option linter.unusedSimpArgs false
set_option linter.unusedVariables false

def manyIs (n : Nat) : List (List (List UInt8)) := (List.range n).map manyV
theorem manyIs_succ (n : Nat) : manyIs (n + 1) = manyIs n ++ [manyV n] := by simp [manyIs, List.range_succ]
theorem manyIs_at (n head tail k : Nat) (h1 : head ≤ n) (h2 : tail + k < head) : (((manyIs n).take (head - 0)).drop (tail - 0))[k]? = some (manyV (tail + k)) := by
  rw [Nat.sub_zero, Nat.sub_zero, List.getElem?_drop, List.getElem?_take, if_pos h2]
  unfold manyIs
  rw [List.getElem?_map, List.getElem?_range (by omega)]
  rfl
set_option maxRecDepth 100000 in
set_option maxHeartbeats 1000000 in
theorem many_bad (n tail head opens : Int) (w : World) (hg : Glob w) (h : n < 0 ∨ n > 200 ∨ tail < 0 ∨ head < tail ∨ head > n ∨ opens < 0 ∨ opens > 4) : Calls Tryz.prog 3 #[.int .i64 n, .int .i64 tail, .int .i64 head, .int .i64 opens] w fun e w' => e = .returned (.bool true) ∧ Below w.heap.size w w' := by
  have HK := Lib.hid (known_calls w hg)
  have HH := Lib.hid h
  clear h hg
  go_enter Tryz.func3, Tryz.ntmps3
  go_wp2_with fail
  refine HK.out.mono ?_
  rintro e w1 ⟨rfl, hb1⟩
  by_cases c0 : n < 0
  · have d0 : decide (n < 0) = true := decide_eq_true c0
    clear c0
    go_wp2_with fail
    go_ret
    exact ⟨rfl, hb1⟩
  have d0 : decide (n < 0) = false := decide_eq_false c0
  have C0 := Lib.hid c0
  clear c0
  by_cases c1 : n > 200
  · have d1 : decide (n > 200) = true := decide_eq_true c1
    clear c1
    go_wp2_with fail
    go_ret
    exact ⟨rfl, hb1⟩
  have d1 : decide (n > 200) = false := decide_eq_false c1
  have C1 := Lib.hid c1
  clear c1
  by_cases c2 : tail < 0
  · have d2 : decide (tail < 0) = true := decide_eq_true c2
    clear c2
    go_wp2_with fail
    go_ret
    exact ⟨rfl, hb1⟩
  have d2 : decide (tail < 0) = false := decide_eq_false c2
  have C2 := Lib.hid c2
  clear c2
  by_cases c3 : head < tail
  · have d3 : decide (head < tail) = true := decide_eq_true c3
    clear c3
    go_wp2_with fail
    go_ret
    exact ⟨rfl, hb1⟩
  have d3 : decide (head < tail) = false := decide_eq_false c3
  have C3 := Lib.hid c3
  clear c3
  by_cases c4 : head > n
  · have d4 : decide (head > n) = true := decide_eq_true c4
    clear c4
    go_wp2_with fail
    go_ret
    exact ⟨rfl, hb1⟩
  have d4 : decide (head > n) = false := decide_eq_false c4
  have C4 := Lib.hid c4
  clear c4
  by_cases c5 : opens < 0
  · have d5 : decide (opens < 0) = true := decide_eq_true c5
    clear c5
    go_wp2_with fail
    go_ret
    exact ⟨rfl, hb1⟩
  have d5 : decide (opens < 0) = false := decide_eq_false c5
  have C5 := Lib.hid c5
  clear c5
  by_cases c6 : opens > 4
  · have d6 : decide (opens > 4) = true := decide_eq_true c6
    clear c6
    go_wp2_with fail
    go_ret
    exact ⟨rfl, hb1⟩
  have d6 : decide (opens > 4) = false := decide_eq_false c6
  have C6 := Lib.hid c6
  clear c6
  exfalso
  rcases HH.out with h | h | h | h | h | h | h
  · exact C0.out h
  · exact C1.out h
  · exact C2.out h
  · exact C3.out h
  · exact C4.out h
  · exact C5.out h
  · exact C6.out h
end Go.Proofs.YtejnfahfjmeabaaGreatDoor
namespace Go.Proofs.YtejnfahfjmeabaaGreatDoor
open Go.RowKit
set_option linter.unusedSimpArgs false
set_option linter.unusedVariables false

theorem wrap_succ (k : Nat) (h : k ≤ 1000000) : wrap64 ((k : Int) + 1) = ((k + 1 : Nat) : Int) := by rw [wrap_ok _ (by omega) (by omega)]; omega
theorem err_iface {w : World} {v : Value} (h : ErrR w v 121) : ∃ t x, v = .iface t x := by
  rcases h with ⟨h, _⟩ | ⟨_, k, h⟩
  · cases h
  · cases k with
    | zero => exact ⟨_, _, h⟩
    | succ k => obtain ⟨b, s, u, e, _⟩ := h; exact ⟨_, _, e⟩
theorem names_row (w : World) (TX : Obj) (hTX : TX = .cells #[.string ⟨#[111, 110, 101]⟩, .string ⟨#[116, 119, 111]⟩] 9) : RdT (w.alloc TX) (some ⟨w.heap.size, 0, none⟩) 2 2 manyT := ⟨rfl, Nat.le_refl _, by unfold maxLen; omega, fun _ => ⟨_, _, rfl, fun j s hs => by
    rw [hTX, (Blk.new w 9 _).cell]
    match j, hs with
    | 0, hs => obtain rfl : _ = s := Option.some.inj hs; rfl
    | 1, hs => obtain rfl : _ = s := Option.some.inj hs; rfl
    | j + 2, hs => simp [manyT] at hs⟩⟩
theorem many_ints (n tail head opens : Nat) (hn : n ≤ 200) (ht : tail ≤ head) (hh : head ≤ n) (ho : opens ≤ 4) :
    decide ((n : Int) < 0) = false ∧ decide ((n : Int) > 200) = false ∧ decide ((tail : Int) < 0) = false ∧ decide ((head : Int) < (tail : Int)) = false ∧ decide ((head : Int) > (n : Int)) = false ∧ decide ((opens : Int) < 0) = false ∧ decide ((opens : Int) > 4) = false ∧ decide (head < tail) = false ∧ decide (n < head) = false ∧ decide (head > n) = false := by
  refine ⟨?_, ?_, ?_, ?_, ?_, ?_, ?_, ?_, ?_, ?_⟩ <;> (rw [decide_eq_false_iff_not]; omega)
set_option maxRecDepth 100000 in
set_option maxHeartbeats 1000000 in
theorem many_good (n tail head opens : Nat) (hn : n ≤ 200) (ht : tail ≤ head) (hh : head ≤ n) (ho : opens ≤ 4) (w : World) (hg : Glob w) : Calls Tryz.prog 3 #[.int .i64 (n : Int), .int .i64 (tail : Int), .int .i64 (head : Int), .int .i64 (opens : Int)] w fun e w' => e = .returned (.bool true) ∧ Below w.heap.size w w' := by
  have HK := Lib.hid (known_calls w hg)
  have HG := Lib.hid hg
  have HL := Lib.hid (show n ≤ 200 ∧ tail ≤ head ∧ head ≤ n ∧ opens ≤ 4 from ⟨hn, ht, hh, ho⟩)
  have HI := Lib.hid (many_ints n tail head opens hn ht hh ho)
  clear hg hn ht hh ho
  go_enter Tryz.func3, Tryz.ntmps3
  go_wp2_with fail
  refine HK.out.mono ?_
  rintro e w1 ⟨rfl, hb1⟩
  have HN := Lib.hid (New_disk 4194304 (by omega) w1)
  obtain ⟨d0, d1, d2, d3, d4, d5, d6, d7, d8, d9⟩ := HI.out
  have HB1 := Lib.hid hb1
  clear hb1
  go_wp2_with fail
  clear d0 d1 d2 d3 d4 d5 d6 d7 d8 d9
  refine HN.out.mono ?_
  rintro e w2 ⟨d, sd, rfl, hD, hge, hb2⟩
  obtain ⟨TX, hTX⟩ : ∃ TX : Obj, TX = .cells #[.string ⟨#[111, 110, 101]⟩, .string ⟨#[116, 119, 111]⟩] 9 := ⟨_, rfl⟩
  have hba : Below w2.heap.size w2 (w2.alloc TX) := (Below.refl _ _).alloc (Nat.le_refl _) _
  have HO := Lib.hid (many_new (w := w) (hD.below hba) (fun k hk => Nat.le_trans HB1.out.size (hge k hk)) (thn HB1.out (thn hb2 hba)) (names_row w2 TX hTX))
  rw [hTX] at HO
  clear hD hge hb2 hba hTX
  go_wp2_with fail
  refine HO.out.mono ?_
  rintro e w3 ⟨f, rfl, hM3⟩
  have HM3 := Lib.hid hM3
  clear hM3
  go_wp2_with fail
  go_loopw [13] (fun i wr => ∃ k : Nat, k ≤ n ∧ i = .int .i64 (k : Int) ∧ MW w wr f d (10 + 2 * k) (150 + 50 * k) 0 k (manyIs k)) (fun i _ => n - (intOf i).toNat)
  case atStart => exact ⟨0, Nat.zero_le _, rfl, HM3.out⟩
  case round =>
    obtain ⟨k, hk, rfl, hM⟩ := hrel
    obtain ⟨wo, rfl⟩ : ∃ wo : World, wo = wr := ⟨_, rfl⟩
    have HM := Lib.hid hM
    clear hM
    by_cases hlt : k < n
    · have hd : decide ((k : Int) < (n : Int)) = true := by rw [decide_eq_true_eq]; omega
      have hd2 : decide (k < n) = true := decide_eq_true hlt
      have HLT := Lib.hid hlt
      have he : (k : Int) % 256 = (k : Int) := by have := HL.out.1; omega
      obtain ⟨r, hr⟩ : ∃ r, r = k % 7 := ⟨_, rfl⟩
      have hm : (k : Int) % 7 = (r : Int) := by omega
      have hr7 : r < 7 := by omega
      have hmk := fun W => make_bytes r (by omega) W
      have HR := Lib.hid (show r = k % 7 from hr)
      clear hlt hk hr hr7
      go_wp2_with fail
      obtain ⟨hv, hvb⟩ := many_vals wo k (by have h1 := HL.out.1; have h2 := HLT.out; omega)
      have HA := MW.append HM.out hvb hv (fun v hv => by
        have h7 : k % 7 < 7 := Nat.mod_lt _ (by omega)
        have : v = [UInt8.ofNat k] ∨ v = List.replicate (k % 7) 0 := by simpa [manyV] using hv
        rcases this with rfl | rfl
        · simp
        · rw [List.length_replicate]; omega) (manyB k k (by have h1 := HL.out.1; have h2 := HLT.out; omega)) (by have h1 := HL.out.1; have h2 := HLT.out; omega) (by have h1 := HL.out.1; have h2 := HLT.out; omega) (by have h1 := HL.out.1; have h2 := HLT.out; omega)
      unfold valsM at HA
      rw [← manyIs_succ, ← HR.out] at HA
      clear hv hvb he hm hmk
      refine HA.mono ?_
      rintro e w4 ⟨rfl, hM4⟩
      have HM4 := Lib.hid hM4
      clear hM4 HA
      go_wp2_with fail
      go_roundw
      case rel => exact ⟨k + 1, HLT.out, by rw [wrap_succ k (by have := HLT.out; have h2 := HL.out.1; omega)], HM4.out⟩
      case measure =>
        have := HLT.out
        rw [wrap_succ k (by have h2 := HL.out.1; omega)]
        simp [intOf]
        omega
    · obtain rfl : k = n := by omega
      have hd : decide ((k : Int) < (k : Int)) = false := by simp
      clear hlt hk
      have HC1 := Lib.hid (MW.cutHead HM.out (n := head) (Nat.zero_le _) HL.out.2.2.1 (by have := HL.out.1; omega) (by have := HL.out.1; omega) (by have := HL.out.1; omega))
      go_wp2_with fail
      refine HC1.out.mono ?_
      rintro e w5 ⟨rfl, hM5⟩
      have HM5 := Lib.hid hM5
      have HC2 := Lib.hid (MW.cutTail HM5.out (n := tail) (Nat.zero_le _) HL.out.2.1 (by have := HL.out.1; omega) (by have := HL.out.1; omega) (by have := HL.out; omega))
      clear hM5
      go_wp2_with fail
      refine HC2.out.mono ?_
      rintro e w6 ⟨rfl, hM6⟩
      have hat := fun q (h : tail + q < head) => manyIs_at k head tail q HL.out.2.2.1 h
      generalize ((manyIs k).take (head - 0)).drop (tail - 0) = IT at hM6 hat
      have HAT := Lib.hid hat
      have HM6 := Lib.hid hM6
      clear hM6 hat HC1 HC2 HM5 HM HM3
      go_wp2_with fail
      go_loopw [11, 14] (fun fv kv wr => ∃ (m : Nat) (f' : Nat), m ≤ opens + 1 ∧ kv = .int .i64 (m : Int) ∧ fv = .pointer (some ⟨f', 0, none⟩) ∧ MW w wr f' d (10 + 2 * k + 2 + 2 + 2 * m) (150 + 50 * k + 50 + 50) tail head IT) (fun _ kv _ => opens + 1 - (intOf kv).toNat)
      case atStart => exact ⟨0, f, Nat.zero_le _, rfl, rfl, HM6.out⟩
      case round =>
        obtain ⟨m, f', hm, rfl, rfl, hM⟩ := hrel
        obtain ⟨wo2, rfl⟩ : ∃ wo2 : World, wo2 = wr := ⟨_, rfl⟩
        have HM := Lib.hid hM
        clear hM
        by_cases hlt : m < opens + 1
        · have hd1 : decide ((m : Int) ≤ (opens : Int)) = true := by rw [decide_eq_true_eq]; omega
          have hd2 : decide (m ≤ opens) = true := by rw [decide_eq_true_eq]; omega
          have HLT := Lib.hid hlt
          clear hlt hm
          go_wp2_with fail
          refine HM.out.tailC.mono ?_
          rintro e w7 ⟨rfl, rfl⟩
          go_wp2_with fail
          refine (HM.out.headC (by have := HL.out; omega)).mono ?_
          rintro e w8 ⟨rfl, hb8⟩
          have HM8 := Lib.hid (HM.out.below hb8)
          clear hb8 hd1 hd2
          go_wp2_with fail
          go_loopw [15] (fun iv wr => ∃ (j : Nat) (i : Int), j ≤ k + 2 ∧ i = (j : Int) - 1 ∧ iv = .int .i64 i ∧ MW w wr f' d (10 + 2 * k + 2 + 2 + 2 * m) (150 + 50 * k + 50 + 50) tail head IT) (fun iv _ => k + 2 - (intOf iv + 1).toNat)
          case atStart => exact ⟨0, -1, Nat.zero_le _, by omega, rfl, HM8.out⟩
          case round =>
            obtain ⟨j, i, hj, hi, rfl, hM⟩ := hrel
            obtain ⟨wo3, rfl⟩ : ∃ wo3 : World, wo3 = wr := ⟨_, rfl⟩
            have HMi := Lib.hid hM
            clear hM
            by_cases hlt : j < k + 2
            · have HJ := Lib.hid (show j < k + 2 ∧ i = (j : Int) - 1 from ⟨hlt, hi⟩)
              by_cases hin : (tail : Int) ≤ i ∧ i < (head : Int)
              · obtain ⟨q, hq⟩ : ∃ q : Nat, i = ((tail + q : Nat) : Int) := ⟨(i - tail).toNat, by omega⟩
                have hq2 : tail + q < head := by omega
                have HG0 := MW.get HMi.out (t := 0) (k := q) (vs := manyV (tail + q)) (v := [UInt8.ofNat (tail + q)]) (by omega) (HAT.out q hq2) rfl (by have := HL.out; omega) (by have := HL.out; omega)
                have HG1 := fun W (hW : Below wo3.heap.size wo3 W) => MW.get (HMi.out.below hW) (t := 1) (k := q) (vs := manyV (tail + q)) (v := List.replicate ((tail + q) % 7) 0) (by omega) (HAT.out q hq2) rfl (by have := HL.out; omega) (by have := HL.out; omega)
                obtain ⟨I, hI⟩ : ∃ I : Nat, I = tail + q := ⟨_, rfl⟩
                rw [← hI] at HG0 HG1 hq hq2
                have hIt : tail ≤ I := by omega
                subst hq
                have HQ0 : Hid (Calls Tryz.prog 15 #[.pointer (some ⟨f', 0, none⟩), .int .i64 0, .int .i64 (I : Int)] wo3 (GetOk wo3 [UInt8.ofNat I])) := HG0
                have HQ1 : Hid (∀ W, Below wo3.heap.size wo3 W → Calls Tryz.prog 15 #[.pointer (some ⟨f', 0, none⟩), .int .i64 1, .int .i64 (I : Int)] W (GetOk W (List.replicate (I % 7) 0))) := HG1
                have hI2 : I ≤ 200 := by have := HL.out; omega
                obtain ⟨a1, a2, a3, a4, a5, a6⟩ : decide ((I : Int) ≤ (k : Int)) = true ∧ decide (I ≤ k) = true ∧ decide ((I : Int) < (tail : Int)) = false ∧ decide (I < tail) = false ∧ decide ((I : Int) ≥ (head : Int)) = false ∧ decide (head ≤ I) = false := by
                  have := HL.out
                  refine ⟨?_, ?_, ?_, ?_, ?_, ?_⟩ <;> first | (rw [decide_eq_false_iff_not]; omega) | (rw [decide_eq_true_eq]; omega)
                have he : (I : Int) % 256 = (I : Int) := by omega
                have hu : ((UInt8.ofNat I).toNat : Int) = (I : Int) := by
                  have : (UInt8.ofNat I).toNat = I := by rw [UInt8.toNat_ofNat']; omega
                  rw [this]
                obtain ⟨r, hr⟩ : ∃ r, r = I % 7 := ⟨_, rfl⟩
                have hm7 : (I : Int) % 7 = (r : Int) := by omega
                rw [← hr] at HQ1
                have HIQ := Lib.hid (show I ≤ 200 from hI2)
                clear HG0 HG1 hI hIt hin hlt hi hj hI2 hq2 hr
                go_wp2_with fail
                refine HQ0.out.mono ?_
                rintro e w9 ⟨v9, rfl, ho9, hb9⟩
                obtain ⟨A9, c9, hv9, hr9⟩ := OwnB.reads ho9
                subst hv9
                have HG9 := Lib.hid (HQ1.out w9 hb9)
                have HB9 := Lib.hid hb9
                clear ho9 hb9
                go_wp2_with fail
                refine HG9.out.mono ?_
                rintro e w10 ⟨v10, rfl, ho10, hb10⟩
                obtain ⟨A10, c10, hv10, hr10⟩ := OwnB.reads ho10
                subst hv10
                rw [List.length_replicate] at hr10 ⊢
                have hr90 := hr9.below hb10
                obtain ⟨ad, hA9, hc9⟩ := hr90.2.2.2 (by simp)
                have hcA : w10.cell? (ad.add 0) = some (.int .u8 ((UInt8.ofNat I).toNat : Int)) := hc9 0 _ rfl
                rw [hu] at hcA
                have hcB := hcA
                rw [addr_add0] at hcB
                subst hA9
                have HMj := Lib.hid (HMi.out.below (thn HB9.out hb10))
                clear ho10 hb10 hr10 hr9 hr90 hc9 hu
                go_wp2_with fail
                have h1 := HJ.out.1
                have h2 := HJ.out.2
                refine ⟨⟨j + 1, (I : Int) + 1, by omega, by omega, rfl, HMj.out⟩, ?_⟩
                simp only [intOf]
                omega
              · have HB0 : Hid (∀ W, Below wo3.heap.size wo3 W → ∀ t : Nat, t < 2 → Calls Tryz.prog 15 #[.pointer (some ⟨f', 0, none⟩), .int .i64 (t : Int), .int .i64 i] W (GetBad W 121)) := fun W hW t ht => MW.getBad (HMi.out.below hW) (t := t) (n := i) ht (by omega) (by have := HL.out; omega)
                have HQ0 : Hid (Calls Tryz.prog 15 #[.pointer (some ⟨f', 0, none⟩), .int .i64 0, .int .i64 i] wo3 (GetBad wo3 121)) := HB0.out wo3 (Below.refl _ _) 0 (by omega)
                have HQ1 : Hid (∀ W, Below wo3.heap.size wo3 W → Calls Tryz.prog 15 #[.pointer (some ⟨f', 0, none⟩), .int .i64 1, .int .i64 i] W (GetBad W 121)) := fun W hW => HB0.out W hW 1 (by omega)
                have a1 : decide (i ≤ (k : Int)) = true := by rw [decide_eq_true_eq]; omega
                have HIN := Lib.hid hin
                have HIK := Lib.hid (show i ≤ 200 ∧ -1 ≤ i from ⟨by have := HL.out; omega, by omega⟩)
                clear hin hlt hi hj
                go_wp2_with fail
                refine HQ0.out.mono ?_
                rintro e w9 ⟨v9, rfl, hv9, hb9⟩
                obtain ⟨t9, x9, rfl⟩ := err_iface hv9
                have HG9 := Lib.hid (HQ1.out w9 hb9)
                have HB9 := Lib.hid hb9
                clear hv9 hb9
                go_wp2_with fail
                refine HG9.out.mono ?_
                rintro e w10 ⟨v10, rfl, hv10, hb10⟩
                obtain ⟨t10, x10, rfl⟩ := err_iface hv10
                have HMj := Lib.hid (HMi.out.below (thn HB9.out hb10))
                clear hv10 hb10
                by_cases hlo : i < (tail : Int)
                · have b1 : decide (i < (tail : Int)) = true := decide_eq_true hlo
                  clear hlo
                  go_wp2_with fail
                  have h1 := HJ.out.1
                  have h2 := HJ.out.2
                  have h3 := HIK.out
                  have hw1 : wrap64 (i + 1) = i + 1 := wrap_ok _ (by omega) (by omega)
                  try rw [hw1]
                  clear hw1
                  refine ⟨⟨j + 1, i + 1, by omega, by omega, rfl, HMj.out⟩, ?_⟩
                  simp only [intOf]
                  omega
                · have b1 : decide (i < (tail : Int)) = false := decide_eq_false hlo
                  have b2 : decide (i ≥ (head : Int)) = true := by
                    rw [decide_eq_true_eq]
                    have := HIN.out
                    omega
                  have b3 : decide ((head : Int) ≤ i) = true := b2
                  clear hlo
                  go_wp2_with fail
                  have h1 := HJ.out.1
                  have h2 := HJ.out.2
                  have h3 := HIK.out
                  have hw1 : wrap64 (i + 1) = i + 1 := wrap_ok _ (by omega) (by omega)
                  try rw [hw1]
                  clear hw1
                  refine ⟨⟨j + 1, i + 1, by omega, by omega, rfl, HMj.out⟩, ?_⟩
                  simp only [intOf]
                  omega
            · have a1 : decide (i ≤ (k : Int)) = false := by rw [decide_eq_false_iff_not]; omega
              have HCL := Lib.hid HMi.out.close
              clear hlt hi hj
              go_wp2_with fail
              refine HCL.out.mono ?_
              rintro e w9 ⟨rfl, hD9⟩
              obtain ⟨TX, hTX⟩ : ∃ TX : Obj, TX = .cells #[.string ⟨#[111, 110, 101]⟩, .string ⟨#[116, 119, 111]⟩] 9 := ⟨_, rfl⟩
              have hba : Below w9.heap.size w9 (w9.alloc TX) := (Below.refl _ _).alloc (Nat.le_refl _) _
              have HO := Lib.hid ((hD9.below hba).openC HG.out (names_row w9 TX hTX) (by have := HL.out; omega) (by have h1 := HL.out; have h2 := HLT.out; omega))
              rw [hTX] at HO
              clear hD9 hba hTX a1
              go_wp2_with fail
              refine HO.out.mono ?_
              rintro e w11 ⟨f2, rfl, hM11⟩
              have HM11 := Lib.hid hM11
              clear hM11
              go_wp2_with fail
              rw [wrap_succ m (by have h1 := HL.out; have h2 := HLT.out; omega)]
              have h1 := HLT.out
              have e1 : 10 + 2 * k + 2 + 2 + 2 * (m + 1) = 10 + 2 * k + 2 + 2 + 2 * m + 2 := by omega
              refine ⟨⟨m + 1, f2, h1, rfl, rfl, by rw [e1]; exact HM11.out⟩, ?_⟩
              simp only [intOf, Int.toNat_natCast]
              omega
        · have hd1 : decide ((m : Int) ≤ (opens : Int)) = false := by rw [decide_eq_false_iff_not]; omega
          have hd2 : decide (m ≤ opens) = false := by rw [decide_eq_false_iff_not]; omega
          clear hlt hm
          have HB := Lib.hid HM.out.bel
          go_wp2_with fail
          go_ret
          exact ⟨rfl, HB.out⟩
/-- whatever comes in -/
theorem many_calls (n tail head opens : Int) (w : World) (hg : Glob w) : Calls Tryz.prog 3 #[.int .i64 n, .int .i64 tail, .int .i64 head, .int .i64 opens] w fun e w' => e = .returned (.bool true) ∧ Below w.heap.size w w' := by
  by_cases h : n < 0 ∨ n > 200 ∨ tail < 0 ∨ head < tail ∨ head > n ∨ opens < 0 ∨ opens > 4
  · exact many_bad n tail head opens w hg h
  · obtain ⟨n', rfl⟩ := Int.eq_ofNat_of_zero_le (show 0 ≤ n by omega)
    obtain ⟨t', rfl⟩ := Int.eq_ofNat_of_zero_le (show 0 ≤ tail by omega)
    obtain ⟨h', rfl⟩ := Int.eq_ofNat_of_zero_le (show 0 ≤ head by omega)
    obtain ⟨o', rfl⟩ := Int.eq_ofNat_of_zero_le (show 0 ≤ opens by omega)
    exact many_good n' t' h' o' (by omega) (by omega) (by omega) (by omega) w hg
end Go.Proofs.YtejnfahfjmeabaaGreatDoor
