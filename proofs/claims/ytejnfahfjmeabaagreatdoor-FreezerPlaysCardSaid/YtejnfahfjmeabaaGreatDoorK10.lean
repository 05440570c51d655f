/- the texts M61, M62, M65, M55, M66, M67 of this proof, one behind the other -/
import Derived.Test.YtejnfahfjmeabaaGreatDoorK9
import Derived.Laws.OwnMore
set_option linter.unusedSimpArgs false
set_option linter.unusedVariables false
namespace Go.Proofs.YtejnfahfjmeabaaGreatDoor
open Go.RowKit
set_option linter.unusedSimpArgs false
set_option linter.unusedVariables false

/-- make, by its run -/
theorem wpList_make_run {P : Program} {w : World} {ops : Array Oper} {rest : List Oper} {o : Oper} {a : Act} {Q : Exit → Act → World → Prop} (hg : o.guard = none) (l c : Operand) (t : TypeId) (hop : o.op = Op.makeSlice t l c) (vl vc : Value) (hl : a.eval l = vl) (hc : a.eval c = vc)
    (v' : Value) (w' : World) (hr : (Instr.makeSlice t vl vc).run P w = .ok v' w') (h : wpList P ops Q rest (a.put o.dst v') w') : wpList P ops Q (o :: rest) a w := by
  refine wpList_plain hg fun K hK' => ?_
  unfold Oper.wp
  simp [execOp, hop, hl, hc, hr, Result.andThen]
  exact hK' _ _ h
theorem Tryz.info5m : (Tryz.prog.info? 5).map (fun i => (i.zero, i.size, i.bytes)) = some (some (.int .u8 0), 1, 1) := by kernel_rfl
theorem make_bytes (r : Nat) (hr : r ≤ 1000) (w : World) : (Instr.makeSlice 34 (.int .i64 (r : Int)) (.int .i64 (r : Int))).run Tryz.prog w = .ok (.slice (some ⟨w.heap.size, 0, none⟩) r r) (w.alloc (.cells (madeCells #[.int .u8 0] r) 5)) := by
  obtain ⟨i0, hi0, hz0, hz1, hz2⟩ := info_parts Tryz.info5m
  have h := run_makeSlice (P := Tryz.prog) w 34 5 i0 _ Tryz.underlying34 hi0 hz0 .i64 .i64 (r : Int) (r : Int) (by omega) (Int.le_refl _) (by rw [hz1]; simp; omega) (by rw [hz2]; omega) (by omega)
  rw [hz1] at h
  simpa [Value.cells] using h
def manyT : List (List UInt8) := [[111, 110, 101], [116, 119, 111]]
theorem manyT_ok : TabsOk manyT := by
  refine ⟨by decide, by decide, ?_, by decide⟩
  intro s hs
  have : s = [111, 110, 101] ∨ s = [116, 119, 111] := by simpa [manyT] using hs
  rcases this with rfl | rfl
  · exact ⟨by decide, by decide, by decide⟩
  · exact ⟨by decide, by decide, by decide⟩
/-- an item of the law's -/
def manyV (i : Nat) : List (List UInt8) := [[UInt8.ofNat i], List.replicate (i % 7) 0]
theorem manyB (i n : Nat) (hn : n ≤ 1000000) : (bodyL 0 n (manyV i)).length ≤ 30 := by
  have h1 := putL_len64 n (by omega)
  have h2 : i % 7 < 7 := Nat.mod_lt _ (by omega)
  unfold bodyL valsB manyV
  simp only [List.length_append, List.map_cons, List.map_nil, List.flatten_cons, List.flatten_nil, valB, List.length_cons, List.length_nil, List.length_replicate]
  rw [putL_small 0 (by omega), putL_small (0 + 1) (by omega), putL_small (i % 7) (by omega)]
  simp only [List.length_cons, List.length_nil]
  omega
def valsM (w : World) (x : Int) (r : Nat) : World := ((w.alloc (.cells #[.int .u8 x] 5)).alloc (.cells (madeCells #[.int .u8 0] r) 5)).alloc (.cells #[.slice (some ⟨w.heap.size, 0, none⟩) 1 1, .slice (some ⟨w.heap.size + 1, 0, none⟩) r r] 34)
theorem many_vals (w : World) (i : Nat) (hi : i < 256) : RdM (valsM w (i : Int) (i % 7)) (some ⟨w.heap.size + 1 + 1, 0, none⟩) 2 2 (manyV i) ∧ Below w.heap.size w (valsM w (i : Int) (i % 7)) := by
  have hr : i % 7 < 7 := Nat.mod_lt _ (by omega)
  have hx : (i : Int) = ((UInt8.ofNat i).toNat : Int) := by
    have : (UInt8.ofNat i).toNat = i := by rw [UInt8.toNat_ofNat']; omega
    rw [this]
  unfold manyV
  generalize hu : UInt8.ofNat i = u at *
  generalize hr2 : i % 7 = r at *
  rw [hx]
  clear hu hr2 hx hi
  obtain ⟨w1, h1⟩ : ∃ w1 : World, w1 = w.alloc (.cells #[.int .u8 (u.toNat : Int)] 5) := ⟨_, rfl⟩
  obtain ⟨w2, h2⟩ : ∃ w2 : World, w2 = w1.alloc (.cells (madeCells #[.int .u8 0] r) 5) := ⟨_, rfl⟩
  have z1 : w1.heap.size = w.heap.size + 1 := by rw [h1]; simp
  have z2 : w2.heap.size = w.heap.size + 1 + 1 := by rw [h2]; simp [z1]
  have e : valsM w (u.toNat : Int) r = w2.alloc (.cells #[.slice (some ⟨w.heap.size, 0, none⟩) 1 1, .slice (some ⟨w.heap.size + 1, 0, none⟩) r r] 34) := by rw [h2, h1]; rfl
  have b1 : Below w.heap.size w w1 := by rw [h1]; exact (Below.refl _ _).alloc (Nat.le_refl _) _
  have b2 : Below w1.heap.size w1 w2 := by rw [h2]; exact (Below.refl _ _).alloc (Nat.le_refl _) _
  have b3 : Below w2.heap.size w2 (valsM w (u.toNat : Int) r) := by rw [e]; exact (Below.refl _ _).alloc (Nat.le_refl _) _
  have ca : w1.cell? ⟨w.heap.size, 0, none⟩ = some (.int .u8 (u.toNat : Int)) := by
    rw [h1]
    exact cell_of_row _ w.heap.size 0 _ 5 _ (heap_alloc_new w _)
  have cb : ∀ j, j < r → w2.cell? ⟨w.heap.size + 1, j, none⟩ = some (.int .u8 0) := fun j hj => by
    rw [h2, ← z1, cell_of_row _ w1.heap.size j _ 5 _ (heap_alloc_new w1 _), ← Array.getElem?_toList, toList_madeCells_one, List.getElem?_replicate, if_pos hj]
  have cc : ∀ j, (valsM w (u.toNat : Int) r).cell? ⟨w.heap.size + 1 + 1, j, none⟩ = #[.slice (some ⟨w.heap.size, 0, none⟩) 1 1, Value.slice (some ⟨w.heap.size + 1, 0, none⟩) r r][j]? := fun j => by
    rw [e, ← z2]
    exact cell_of_row _ w2.heap.size j _ 34 _ (heap_alloc_new w2 _)
  refine ⟨⟨rfl, Nat.le_refl _, by unfold maxLen; omega, fun _ => ⟨_, rfl, fun j v hv => ?_⟩⟩, (b1.trans (b2.mono b1.size)).trans (b3.mono (Nat.le_trans b1.size b2.size))⟩
  match j, hv with
  | 0, hv =>
    obtain rfl : [u] = v := Option.some.inj hv
    refine ⟨some ⟨w.heap.size, 0, none⟩, 1, 1, by rw [addr_at, cc]; rfl, rfl, Nat.le_refl _, by unfold maxLen; omega, fun _ => ⟨_, rfl, fun j b hb => ?_⟩⟩
    match j, hb with
    | 0, hb =>
      obtain rfl : u = b := Option.some.inj hb
      rw [addr_at]
      exact cell_below' b3 (cell_below' b2 ca)
    | j + 1, hb => simp at hb
  | 1, hv =>
    obtain rfl : List.replicate r 0 = v := Option.some.inj hv
    refine ⟨some ⟨w.heap.size + 1, 0, none⟩, r, r, by rw [addr_at, cc]; rfl, by simp, Nat.le_refl _, by unfold maxLen; omega, fun _ => ⟨_, rfl, fun j b hb => ?_⟩⟩
    rw [List.getElem?_replicate] at hb
    split at hb
    · rename_i hj
      obtain rfl : 0 = b := Option.some.inj hb
      rw [addr_at]
      have h3 := cell_below' b3 (cb j hj)
      rw [show (⟨w.heap.size + 1, 0 + j, none⟩ : Addr) = ⟨w.heap.size + 1, j, none⟩ from by rw [Nat.zero_add]]
      exact h3
    · cases hb
  | j + 2, hv => simp at hv
end Go.Proofs.YtejnfahfjmeabaaGreatDoor
namespace Go.Proofs.YtejnfahfjmeabaaGreatDoor
open Go.RowKit
set_option linter.unusedSimpArgs false
set_option linter.unusedVariables false

/-- a freezer that was made since w; N: how many changes at most; B: how many bytes -/
def MW (w wr : World) (f d N B tail head : Nat) (items : List (List (List UInt8))) : Prop :=
  ∃ s l z D fs, FZ wr s f d 4194304 N manyT l z items D 0 fs ∧ z.tail = tail ∧ z.head = head ∧ l.length ≤ N ∧ (fileL manyT l).length ≤ B ∧ (∀ x, s x → w.heap.size ≤ x) ∧ Below w.heap.size w wr
/-- its disk, when it is closed -/
def MD (w wr : World) (d N B tail head : Nat) (items : List (List (List UInt8))) : Prop :=
  ∃ s l z D fs, FDk wr s d 4194304 N manyT l z items D 0 fs ∧ z.tail = tail ∧ z.head = head ∧ l.length ≤ N ∧ (fileL manyT l).length ≤ B ∧ (∀ x, s x → w.heap.size ≤ x) ∧ Below w.heap.size w wr
theorem MW.bel {w wr : World} {f d N B tail head : Nat} {items : List (List (List UInt8))} (h : MW w wr f d N B tail head items) : Below w.heap.size w wr := by
  obtain ⟨s, l, z, D, fs, h1, h2, h3, h4, h5, h6, h7⟩ := h
  exact h7
theorem MW.below {w wr w' : World} {f d N B tail head : Nat} {items : List (List (List UInt8))} (h : MW w wr f d N B tail head items) (hb : Below wr.heap.size wr w') : MW w w' f d N B tail head items := by
  obtain ⟨s, l, z, D, fs, h1, h2, h3, h4, h5, h6, h7⟩ := h
  exact ⟨s, l, z, D, fs, h1.below hb, h2, h3, h4, h5, h6, thn h7 hb⟩
theorem MD.below {w wr w' : World} {d N B tail head : Nat} {items : List (List (List UInt8))} (h : MD w wr d N B tail head items) (hb : Below wr.heap.size wr w') : MD w w' d N B tail head items := by
  obtain ⟨s, l, z, D, fs, h1, h2, h3, h4, h5, h6, h7⟩ := h
  exact ⟨s, l, z, D, fs, h1.below hb, h2, h3, h4, h5, h6, thn h7 hb⟩
theorem MW.append {w wr : World} {f d N B head : Nat} {items : List (List (List UInt8))} {vs : List (List UInt8)} (h : MW w wr f d N B 0 head items) {w' : World} (hb : Below wr.heap.size wr w') {V : Option Addr} {cv : Nat} (hv : RdM w' V 2 cv vs) (hvl : ∀ v ∈ vs, v.length ≤ 16384) (hbl : (bodyL 0 head vs).length ≤ 30) (hB : B + 50 ≤ 4194304) (hN : N ≤ 1000000) (hh : head ≤ 1000000) :
    Calls Tryz.prog 10 #[.pointer (some ⟨f, 0, none⟩), .int .i64 (head : Int), .slice V 2 cv] w' fun e w2 => e = .returned .nilIface ∧ MW w w2 f d (N + 2) (B + 50) 0 (head + 1) (items ++ [vs]) := by
  obtain ⟨s, l, z, D, fs, h1, h2, h3, h4, h5, h6, h7⟩ := h.below hb
  have hfs := frame_small _ hbl
  have hA := FZ.append h1 (by decide) hv hv.1 hvl (by rw [h3]; exact hh) (by rw [h3]; omega) (by rw [h3]; omega) (by omega) hN
  rw [h3] at hA
  refine hA.mono ?_
  rintro e w2 ⟨rfl, ⟨z', D', fs', g1, g2, g3⟩, g4⟩
  refine ⟨rfl, grow s w' w2, _, z', D', fs', g1, g2.trans h2, by rw [g3], ?_, ?_, grow_ge h6 h7.size, below_upd h7 (Nat.le_refl _) g4 h6⟩
  · rw [List.length_append, List.length_singleton]
    omega
  · exact logB1 manyT l (0, head, vs) B h5 hbl
theorem MW.cutHead {w wr : World} {f d N B tail head n : Nat} {items : List (List (List UInt8))} (h : MW w wr f d N B tail head items) (h1 : tail ≤ n) (h2 : n ≤ head) (hB : B + 50 ≤ 4194304) (hN : N ≤ 1000000) (hh : head ≤ 1000000) :
    Calls Tryz.prog 11 #[.pointer (some ⟨f, 0, none⟩), .int .i64 (n : Int)] wr fun e w2 => e = .returned .nilIface ∧ MW w w2 f d (N + 2) (B + 50) tail n (items.take (n - tail)) := by
  obtain ⟨s, l, z, D, fs, k1, k2, k3, k4, k5, k6, k7⟩ := h
  have hbl := body_small 1 n (by omega) (by omega)
  have hfs := frame_small _ (Nat.le_trans hbl (by omega))
  refine (FZ.cutHead k1 (n := n) (by decide) (by rw [k2]; exact h1) (by rw [k3]; exact h2) (by rw [k3]; exact hh) (by omega) (by omega) hN).mono ?_
  rintro e w2 ⟨rfl, ⟨z', D', fs', g1, g2, g3⟩, g4⟩
  rw [k2] at g1
  refine ⟨rfl, grow s wr w2, _, z', D', fs', g1, g2.trans k2, g3, ?_, ?_, grow_ge k6 k7.size, below_upd k7 (Nat.le_refl _) g4 k6⟩
  · rw [List.length_append, List.length_singleton]
    omega
  · exact logB1 manyT l (1, n, []) B k5 (Nat.le_trans hbl (by omega))
theorem MW.cutTail {w wr : World} {f d N B tail head n : Nat} {items : List (List (List UInt8))} (h : MW w wr f d N B tail head items) (h1 : tail ≤ n) (h2 : n ≤ head) (hB : B + 50 ≤ 4194304) (hN : N ≤ 1000000) (hh : head ≤ 1000000) :
    Calls Tryz.prog 12 #[.pointer (some ⟨f, 0, none⟩), .int .i64 (n : Int)] wr fun e w2 => e = .returned .nilIface ∧ MW w w2 f d (N + 2) (B + 50) n head (items.drop (n - tail)) := by
  obtain ⟨s, l, z, D, fs, k1, k2, k3, k4, k5, k6, k7⟩ := h
  have hbl := body_small 2 n (by omega) (by omega)
  have hfs := frame_small _ (Nat.le_trans hbl (by omega))
  refine (FZ.cutTail k1 (n := n) (by decide) (by rw [k2]; exact h1) (by rw [k3]; exact h2) (by rw [k3]; exact hh) (by omega) (by omega) hN).mono ?_
  rintro e w2 ⟨rfl, ⟨z', D', fs', g1, g2, g3⟩, g4⟩
  rw [k2] at g1
  refine ⟨rfl, grow s wr w2, _, z', D', fs', g1, g2, g3.trans k3, ?_, ?_, grow_ge k6 k7.size, below_upd k7 (Nat.le_refl _) g4 k6⟩
  · rw [List.length_append, List.length_singleton]
    omega
  · exact logB1 manyT l (2, n, []) B k5 (Nat.le_trans hbl (by omega))
theorem MW.get {w wr : World} {f d N B tail head t k : Nat} {items : List (List (List UInt8))} {vs : List (List UInt8)} {v : List UInt8} (h : MW w wr f d N B tail head items) (ht : t < 2) (hk : items[k]? = some vs) (hv : vs[t]? = some v) (hh : head ≤ 1000000) (hB : B ≤ 4194304) :
    Calls Tryz.prog 15 #[.pointer (some ⟨f, 0, none⟩), .int .i64 (t : Int), .int .i64 ((tail + k : Nat) : Int)] wr (GetOk wr v) := by
  obtain ⟨s, l, z, D, fs, k1, k2, k3, k4, k5, k6, k7⟩ := h
  have := FZ.get k1 (t := t) (k := k) ht hk hv (by rw [k3]; exact hh) (by omega)
  rw [k2] at this
  exact this
theorem MW.getBad {w wr : World} {f d N B tail head t : Nat} {n : Int} {items : List (List (List UInt8))} (h : MW w wr f d N B tail head items) (ht : t < 2) (hn : n < (tail : Int) ∨ (head : Int) ≤ n) (hh : head ≤ 1000000) :
    Calls Tryz.prog 15 #[.pointer (some ⟨f, 0, none⟩), .int .i64 (t : Int), .int .i64 n] wr (GetBad wr 121) := by
  obtain ⟨s, l, z, D, fs, k1, k2, k3, k4, k5, k6, k7⟩ := h
  exact get_item _ f d 4194304 D true 0 fs manyT _ z t n wr k1.frz ht (by rw [k2, k3]; exact hn) (by rw [k3]; exact hh)
theorem MW.tailC {w wr : World} {f d N B tail head : Nat} {items : List (List (List UInt8))} (h : MW w wr f d N B tail head items) :
    Calls Tryz.prog 13 #[.pointer (some ⟨f, 0, none⟩)] wr fun e w' => e = .returned (.int .i64 (tail : Int)) ∧ w' = wr := by
  obtain ⟨s, l, z, D, fs, k1, k2, k3, k4, k5, k6, k7⟩ := h
  rw [← k2]
  exact k1.tailC
theorem MW.headC {w wr : World} {f d N B tail head : Nat} {items : List (List (List UInt8))} (h : MW w wr f d N B tail head items) (hh : head ≤ 1000000) :
    Calls Tryz.prog 14 #[.pointer (some ⟨f, 0, none⟩)] wr fun e w' => e = .returned (.int .i64 (head : Int)) ∧ Below wr.heap.size wr w' := by
  obtain ⟨s, l, z, D, fs, k1, k2, k3, k4, k5, k6, k7⟩ := h
  rw [← k3]
  refine (k1.headC (by rw [k3]; exact hh)).mono ?_
  rintro e w' ⟨rfl, q, rfl⟩
  exact ⟨rfl, below_drewN q⟩
theorem MW.close {w wr : World} {f d N B tail head : Nat} {items : List (List (List UInt8))} (h : MW w wr f d N B tail head items) :
    Calls Tryz.prog 16 #[.pointer (some ⟨f, 0, none⟩)] wr fun e w' => e = .returned .nilIface ∧ MD w w' d N B tail head items := by
  obtain ⟨s, l, z, D, fs, k1, k2, k3, k4, k5, k6, k7⟩ := h
  refine k1.close.mono ?_
  rintro e w' ⟨rfl, ⟨sd, g1, g2⟩, g3⟩
  exact ⟨rfl, sd, l, z, D, fs, g1, k2, k3, k4, k5, fun x hx => k6 x (g2 x hx), below_upd k7 (Nat.le_refl _) g3 k6⟩
theorem MD.bel {w wr : World} {d N B tail head : Nat} {items : List (List (List UInt8))} (h : MD w wr d N B tail head items) : Below w.heap.size w wr := by
  obtain ⟨s, l, z, D, fs, h1, h2, h3, h4, h5, h6, h7⟩ := h
  exact h7
theorem MD.openC {w wr : World} {d N B tail head : Nat} {items : List (List (List UInt8))} (h : MD w wr d N B tail head items) (hg : Glob w) {A : Option Addr} {c : Nat} (hr : RdT wr A 2 c manyT) (hB : B ≤ 4194304) (hN : N ≤ 1000000) :
    Calls Tryz.prog 9 #[.pointer (some ⟨d, 0, none⟩), .slice A 2 c] wr fun e w' => ∃ f, e = .returned (.tuple #[.pointer (some ⟨f, 0, none⟩), .nilIface]) ∧ MW w w' f d (N + 2) B tail head items := by
  obtain ⟨s, l, z, D, fs, k1, k2, k3, k4, k5, k6, k7⟩ := h
  refine (k1.open (hg.below k7) hr manyT_ok (by omega) (by omega) hN).mono ?_
  rintro e w' ⟨f, rfl, ⟨D', fs', g1⟩, g2, g3⟩
  exact ⟨f, rfl, grow s wr w', l, z, D', fs', g1, k2, k3, by omega, k5, grow_ge k6 k7.size, below_upd k7 (Nat.le_refl _) g2 k6⟩
theorem many_new {w w1 : World} {sd : Blocks} {d : Nat} (hD : DiskN w1 sd d 4194304 hd0) (hge : ∀ k, sd k → w.heap.size ≤ k) (hb : Below w.heap.size w w1) {A : Option Addr} {c : Nat} (hr : RdT w1 A 2 c manyT) :
    Calls Tryz.prog 9 #[.pointer (some ⟨d, 0, none⟩), .slice A 2 c] w1 fun e w' => ∃ f, e = .returned (.tuple #[.pointer (some ⟨f, 0, none⟩), .nilIface]) ∧ MW w w' f d 10 150 0 0 [] := by
  refine (open_new sd d 4194304 A 2 c manyT w1 hD hr manyT_ok (by omega) (by omega)).mono ?_
  rintro e w' ⟨f, D, fs, rfl, g1, g2, g3⟩
  refine ⟨f, rfl, grow sd w1 w', [], z0, D, fs, g1, rfl, rfl, by simp, ?_, grow_ge hge hb.size, below_upd hb (Nat.le_refl _) g2 hge⟩
  have e : fileL manyT [] = headL manyT := by unfold fileL logB; simp
  rw [e]
  exact headL_len manyT_ok
end Go.Proofs.YtejnfahfjmeabaaGreatDoor
namespace Go.Proofs.YtejnfahfjmeabaaGreatDoor
open Go.RowKit
set_option linter.unusedSimpArgs false
set_option linter.unusedVariables false

theorem DiskF.keeps {w w' : World} {s : Blocks} {d cap : Nat} {D : HdS} {b : Bool} {num : Nat} {fs : FileS} (h : DiskF w s d cap D b num fs) (hk : KeepsOn s w w') (hz : w.heap.size ≤ w'.heap.size) : DiskF w' s d cap D b num fs := by
  obtain ⟨nm, sm, pv, fb, sf, hd⟩ := h
  have km : ∀ bb n, MapAt w bb n → s bb → MapAt w' bb n := fun bb n ⟨x, y, h1, h2⟩ hs => ⟨x, y, (hk bb hs).trans h1, h2⟩
  exact ⟨nm, sm, pv, fb, sf, (hk d hd.ind).trans hd.blk, km nm _ hd.nms hd.inm, km sm _ hd.sms hd.ism, hd.ne, hd.file.keeps (hk.mono hd.sub) hz, hd.sub, hd.nd, hd.nnm, hd.nsm, hd.pvm.keeps (hk.mono fun k hk => (pv_sub hd.pvm k hk).1) (fun _ h => h) (fun _ _ h => h), hd.ind, hd.inm, hd.ism, fun k hk' => Nat.lt_of_lt_of_le (hd.lt k hk') hz⟩
theorem FrzP.keeps {w w' : World} {s : Blocks} {f d cap : Nat} {D : HdS} {b : Bool} {num : Nat} {fs : FileS} {T : List (List UInt8)} {size : Nat} {z : FzS} {dead closed : Bool} {sd : Blocks} {A : Option Addr} {c : Nat} {iv : Value} {q : Blocks}
    (h : FrzP w s f d cap D b num fs T size z dead closed sd A c iv q) (hk : KeepsOn s w w') (hz : w.heap.size ≤ w'.heap.size) : FrzP w' s f d cap D b num fs T size z dead closed sd A c iv q :=
  ⟨(hk f h.fin).trans h.blk, h.disk.keeps (hk.mono h.sub) hz, h.sub, h.tab.keep hk (fun ad e => (h.tabs ad e).1), h.tabs, h.items.keep (hk.mono fun k hk => (h.qin k hk).1) (fun _ h => h), h.qin, h.fin, h.nfd, fun k hk => Nat.lt_of_lt_of_le (h.lt k hk) hz⟩
theorem FZ.keeps {w w' : World} {s : Blocks} {f d cap N : Nat} {T : List (List UInt8)} {l : List Chg} {z : FzS} {items : List (List (List UInt8))} {D : HdS} {num : Nat} {fs : FileS} (h : FZ w s f d cap N T l z items D num fs) (hk : KeepsOn s w w') (hz : w.heap.size ≤ w'.heap.size) : FZ w' s f d cap N T l z items D num fs := by
  obtain ⟨A, c, sd, iv, q, hf⟩ := h.frz
  exact ⟨⟨A, c, sd, iv, q, hf.keeps hk hz⟩, h.calm, h.files, h.count, h.bytes, h.pend, h.play, h.valid, h.told⟩
theorem FDk.keeps {w w' : World} {s : Blocks} {d cap N : Nat} {T : List (List UInt8)} {l : List Chg} {z : FzS} {items : List (List (List UInt8))} {D : HdS} {num : Nat} {fs : FileS} (h : FDk w s d cap N T l z items D num fs) (hk : KeepsOn s w w') (hz : w.heap.size ≤ w'.heap.size) : FDk w' s d cap N T l z items D num fs :=
  ⟨h.disk.keeps hk hz, h.calm, h.files, h.count, h.bytes, h.pend, h.play, h.valid, h.told⟩
theorem FZ.lt {w : World} {s : Blocks} {f d cap N : Nat} {T : List (List UInt8)} {l : List Chg} {z : FzS} {items : List (List (List UInt8))} {D : HdS} {num : Nat} {fs : FileS} (h : FZ w s f d cap N T l z items D num fs) : ∀ k, s k → k < w.heap.size := by
  obtain ⟨A, c, sd, iv, q, hf⟩ := h.frz
  exact hf.lt
/-- an error comes out, and nothing that was there has changed -/
def ErrN (w : World) (n : Nat) (e : Ending) (w' : World) : Prop := ∃ v, e = .returned v ∧ ErrR w' v n ∧ Below w.heap.size w w'
theorem ErrR.iface {w : World} {v : Value} {n : Nat} (h : ErrR w v n) (hn : n ≠ 0) : ∃ t x, v = .iface t x := by
  rcases h with ⟨h, _⟩ | ⟨_, k, h⟩
  · exact absurd h hn
  · exact h.iface
set_option maxRecDepth 100000 in
set_option maxHeartbeats 1000000 in
theorem alive_no (f d tail size : Nat) (tv iv : Value) (dead closed : Bool) (hdc : (closed || dead) = true) (s : ByteArray) (w : World) (h : Blk w f 80 (zk d tv size tail iv dead closed)) :
    Calls Tryz.prog 37 #[.pointer (some ⟨f, 0, none⟩), .string s] w (ErrN w 122) := by
  have c5 : w.cell? ⟨f, 5, none⟩ = some (.bool dead) := h.cell 5
  have c6 : w.cell? ⟨f, 6, none⟩ = some (.bool closed) := h.cell 6
  have HE := Lib.hid (fun W => failOf_calls s 122 W)
  clear h
  cases closed
  · obtain rfl : dead = true := by simpa using hdc
    clear hdc
    go_enter Tryz.func37, Tryz.ntmps37
    go_wp2_with fail
    refine (HE.out w).mono ?_
    rintro e w1 ⟨v, rfl, hv, hb1⟩
    have HF := Lib.hid (show ErrN w 122 (.returned v) w1 from ⟨v, rfl, hv, hb1⟩)
    clear hv hb1
    go_wp2_with fail
    go_ret
    exact HF.out
  · clear hdc
    go_enter Tryz.func37, Tryz.ntmps37
    go_wp2_with fail
    refine (HE.out w).mono ?_
    rintro e w1 ⟨v, rfl, hv, hb1⟩
    have HF := Lib.hid (show ErrN w 122 (.returned v) w1 from ⟨v, rfl, hv, hb1⟩)
    clear hv hb1
    go_wp2_with fail
    go_ret
    exact HF.out
set_option maxRecDepth 100000 in
set_option maxHeartbeats 1000000 in
theorem close_no (f d tail size : Nat) (tv iv : Value) (dead : Bool) (w : World) (h : Blk w f 80 (zk d tv size tail iv dead true)) :
    Calls Tryz.prog 16 #[.pointer (some ⟨f, 0, none⟩)] w (ErrN w 122) := by
  have c6 : w.cell? ⟨f, 6, none⟩ = some (.bool true) := h.cell 6
  clear h
  go_enter Tryz.func16, Tryz.ntmps16
  go_wp2_with fail
  refine (failOf_calls _ 122 w).mono ?_
  rintro e w1 ⟨v, rfl, hv, hb1⟩
  have HF := Lib.hid (show ErrN w 122 (.returned v) w1 from ⟨v, rfl, hv, hb1⟩)
  clear hv hb1
  go_wp2_with fail
  go_ret
  exact HF.out
set_option maxRecDepth 100000 in
set_option maxHeartbeats 1000000 in
theorem sync_no (f d tail size : Nat) (tv iv : Value) (dead closed : Bool) (hdc : (closed || dead) = true) (w : World) (h : Blk w f 80 (zk d tv size tail iv dead closed)) :
    Calls Tryz.prog 19 #[.pointer (some ⟨f, 0, none⟩)] w (ErrN w 122) := by
  have HA := Lib.hid (alive_no f d tail size tv iv dead closed hdc ⟨#[115, 121, 110, 99]⟩ w h)
  clear h hdc
  go_enter Tryz.func19, Tryz.ntmps19
  go_wp2_with fail
  refine HA.out.mono ?_
  rintro e w1 ⟨v, rfl, hv, hb1⟩
  obtain ⟨tt, xx, rfl⟩ := hv.iface (by decide)
  have HF := Lib.hid (show ErrN w 122 (.returned (.iface tt xx)) w1 from ⟨_, rfl, hv, hb1⟩)
  clear hv hb1
  go_wp2_with fail
  go_ret
  exact HF.out
set_option maxRecDepth 100000 in
set_option maxHeartbeats 1000000 in
theorem cuts_no (s : Blocks) (f d cap : Nat) (D : HdS) (b : Bool) (num : Nat) (fs : FileS) (T : List (List UInt8)) (size : Nat) (z : FzS) (op : ByteArray) (kind : Nat) (n : Int) (w : World)
    (h : FrzA w s f d cap D b num fs T size z) (hn : n < (z.tail : Int) ∨ (z.head : Int) < n) (hh : z.head ≤ 1000000) :
    Calls Tryz.prog 42 #[.pointer (some ⟨f, 0, none⟩), .string op, .int .i64 (kind : Int), .int .i64 n] w (ErrN w 121) := by
  obtain ⟨A, c, sd, iv, q, h⟩ := h
  obtain ⟨Ai, ci, hiv, hic, hcm2⟩ := h.items.slice
  subst hiv
  have HAL := Lib.hid (alive_ok f d z.tail size (.slice A T.length c) (.slice Ai z.items.length ci) op w h.blk)
  have HHD : Hid (Calls Tryz.prog 14 #[.pointer (some ⟨f, 0, none⟩)] w fun e w' => e = .returned (.int .i64 (z.head : Int)) ∧ ∃ q, w' = w.drewN q) := head_n f d z.tail z.items.length ci size _ Ai false false w h.blk (by unfold FzS.head at hh; omega)
  have c3 : w.cell? ⟨f, 3, none⟩ = some (.int .i64 (z.tail : Int)) := h.blk.cell 3
  obtain ⟨hv', hhv⟩ : ∃ hv', hv' = z.head := ⟨_, rfl⟩
  obtain ⟨zt, hzt⟩ : ∃ zt, zt = z.tail := ⟨_, rfl⟩
  rw [← hhv] at HHD hn
  rw [← hzt] at c3 hn
  clear h hh hhv hzt
  by_cases h1 : n < (zt : Int)
  · clear hn
    go_enter Tryz.func42, Tryz.ntmps42
    go_wp2_with fail
    refine HAL.out.mono ?_
    rintro e w1 ⟨rfl, rfl⟩
    go_wp2_with fail
    refine (failOf_calls _ 121 w1).mono ?_
    rintro e w2 ⟨v, rfl, hv, hb1⟩
    have HF := Lib.hid (show ErrN w1 121 (.returned v) w2 from ⟨v, rfl, hv, hb1⟩)
    clear hv hb1
    go_wp2_with fail
    go_ret
    exact HF.out
  · have h2 : (hv' : Int) < n := by omega
    clear hn
    go_enter Tryz.func42, Tryz.ntmps42
    go_wp2_with fail
    refine HAL.out.mono ?_
    rintro e w1 ⟨rfl, rfl⟩
    go_wp2_with fail
    refine HHD.out.mono ?_
    rintro e w2 ⟨rfl, q2, rfl⟩
    go_wp2_with fail
    refine (failOf_calls _ 121 (w1.drewN q2)).mono ?_
    rintro e w2 ⟨v, rfl, hv, hb1⟩
    have HF := Lib.hid (show ErrN w1 121 (.returned v) w2 from ⟨v, rfl, hv, (below_drewN q2).trans hb1⟩)
    clear hv hb1
    go_wp2_with fail
    go_ret
    exact HF.out
set_option maxRecDepth 100000 in
set_option maxHeartbeats 1000000 in
theorem TruncTail_no (s : Blocks) (f d cap : Nat) (D : HdS) (b : Bool) (num : Nat) (fs : FileS) (T : List (List UInt8)) (size : Nat) (z : FzS) (n : Int) (w : World)
    (h : FrzA w s f d cap D b num fs T size z) (hn : n < (z.tail : Int) ∨ (z.head : Int) < n) (hh : z.head ≤ 1000000) :
    Calls Tryz.prog 12 #[.pointer (some ⟨f, 0, none⟩), .int .i64 n] w (ErrN w 121) := by
  have HC := Lib.hid (fun op => cuts_no s f d cap D b num fs T size z op 2 n w h hn hh)
  clear h hn hh
  go_enter Tryz.func12, Tryz.ntmps12
  go_wp2_with fail
  refine (HC.out _).mono ?_
  rintro e w1 ⟨v, rfl, hv, hb⟩
  have HR := Lib.hid (show ErrN w 121 (.returned v) w1 from ⟨v, rfl, hv, hb⟩)
  clear hv hb
  go_wp2_with fail
  go_ret
  exact HR.out
set_option maxRecDepth 100000 in
set_option maxHeartbeats 1000000 in
theorem TruncHead_no (s : Blocks) (f d cap : Nat) (D : HdS) (b : Bool) (num : Nat) (fs : FileS) (T : List (List UInt8)) (size : Nat) (z : FzS) (n : Int) (w : World)
    (h : FrzA w s f d cap D b num fs T size z) (hn : n < (z.tail : Int) ∨ (z.head : Int) < n) (hh : z.head ≤ 1000000) :
    Calls Tryz.prog 11 #[.pointer (some ⟨f, 0, none⟩), .int .i64 n] w (ErrN w 121) := by
  have HC := Lib.hid (fun op => cuts_no s f d cap D b num fs T size z op 1 n w h hn hh)
  clear h hn hh
  go_enter Tryz.func11, Tryz.ntmps11
  go_wp2_with fail
  refine (HC.out _).mono ?_
  rintro e w1 ⟨v, rfl, hv, hb⟩
  have HR := Lib.hid (show ErrN w 121 (.returned v) w1 from ⟨v, rfl, hv, hb⟩)
  clear hv hb
  go_wp2_with fail
  go_ret
  exact HR.out
set_option maxRecDepth 100000 in
set_option maxHeartbeats 1000000 in
/-- a table that isn't there -/
theorem get_table (s : Blocks) (f d cap : Nat) (D : HdS) (b : Bool) (num : Nat) (fs : FileS) (T : List (List UInt8)) (size : Nat) (z : FzS) (t n : Int) (w : World)
    (h : FrzA w s f d cap D b num fs T size z) (ht : t < 0 ∨ (T.length : Int) ≤ t) :
    Calls Tryz.prog 15 #[.pointer (some ⟨f, 0, none⟩), .int .i64 t, .int .i64 n] w (GetBad w 120) := by
  obtain ⟨A, c, sd, iv, q, h⟩ := h
  have c1 : w.cell? ⟨f, 1, none⟩ = some (.slice A T.length c) := h.blk.cell 1
  have c6 : w.cell? ⟨f, 6, none⟩ = some (.bool false) := h.blk.cell 6
  obtain ⟨tn, htn⟩ : ∃ tn, tn = T.length := ⟨_, rfl⟩
  rw [← htn] at c1 ht
  clear h htn
  by_cases h1 : t < 0
  · clear ht
    go_enter Tryz.func15, Tryz.ntmps15
    go_wp2_with fail
    refine (failOf_calls _ 120 w).mono ?_
    rintro e w1 ⟨v, rfl, hv, hb1⟩
    have hfin : Hid (GetBad w 120 (.returned (.tuple #[.slice none 0 0, v])) w1) := ⟨v, rfl, hv, hb1⟩
    clear hv hb1
    go_wp2_with fail
    go_ret2
    exact hfin.out
  · have h2 : (tn : Int) ≤ t := by omega
    clear ht
    go_enter Tryz.func15, Tryz.ntmps15
    go_wp2_with fail
    refine (failOf_calls _ 120 w).mono ?_
    rintro e w1 ⟨v, rfl, hv, hb1⟩
    have hfin : Hid (GetBad w 120 (.returned (.tuple #[.slice none 0 0, v])) w1) := ⟨v, rfl, hv, hb1⟩
    clear hv hb1
    go_wp2_with fail
    go_ret2
    exact hfin.out
set_option maxRecDepth 100000 in
set_option maxHeartbeats 400000 in
theorem long_calls (A : Option Addr) (n c : Nat) (w : World) (h : 16384 < n) : Calls Tryz.prog 39 #[.slice A n c] w fun e w' => e = .returned (.bool true) ∧ w' = w := by
  have hI : (16384 : Int) < (n : Int) := by omega
  have hD : decide ((16384 : Int) < (n : Int)) = true := by rw [decide_eq_true_eq]; exact hI
  have hN : decide (16384 < n) = true := by rw [decide_eq_true_eq]; omega
  go_enter Tryz.func39, Tryz.ntmps39
  go_wp2_with fail
  go_ret
  exact ⟨rfl, rfl⟩
set_option maxRecDepth 100000 in
set_option maxHeartbeats 1000000 in
theorem index64_long (A : Option Addr) (N c : Nat) (vs : List (List UInt8)) (w : World) (h : RdM w A N c vs) (hs : ¬ ∀ v ∈ vs, v.length ≤ 16384) :
    Calls Tryz.prog 64 #[.slice A N c, .func (.func 39) #[] #[]] w fun e w' => ∃ k : Nat, e = .returned (.int .i64 (k : Int)) ∧ w' = w := by
  have hm : N ≤ 9223372036854775807 := by have := h.2.1; have := h.2.2.1; unfold maxLen at this; omega
  have H := Lib.hid h
  have HS := Lib.hid hs
  clear h hs
  go_enter Tryz.func64, Tryz.ntmps64
  go_wp2_with fail
  go_loopw [8] (fun i wr => ∃ k : Nat, k ≤ N ∧ i = .int .i64 k ∧ wr = w ∧ ∀ v ∈ vs.take k, v.length ≤ 16384) (fun i _ => N - (intOf i).toNat)
  case atStart => exact ⟨0, by omega, rfl, rfl, by simp⟩
  case round =>
    obtain ⟨k, hk, rfl, hwr, hsh⟩ := hrel
    rw [hwr]
    clear hwr
    have HSH := Lib.hid hsh
    clear hsh
    by_cases hlt : k < N
    · obtain ⟨ad, B, m, d, rfl, hg, hcell, hrd⟩ := H.out.at_ hlt
      have hkI : (0 : Int) ≤ (k : Int) ∧ (k : Int) < (N : Int) := by omega
      have HG := Lib.hid hg
      have HML := Lib.hid hrd.1
      clear hg hrd
      by_cases hml : m ≤ 16384
      · go_wp2_with fail
        refine (short_calls B m d w hml).mono ?_
        rintro e w1 ⟨rfl, rfl⟩
        have HML2 := Lib.hid hml
        clear hml
        go_wp2_with fail
        go_roundw
        case rel => exact ⟨k + 1, by omega, by go_num, trivial, fun v hv => by
          rw [List.take_add_one, HG.out] at hv
          rcases List.mem_append.1 hv with hv | hv
          · exact HSH.out v hv
          · obtain rfl := List.mem_singleton.1 (by simpa using hv)
            exact Nat.le_trans (Nat.le_of_eq HML.out) HML2.out⟩
        case measure => simp [intOf]; omega
      · go_wp2_with fail
        refine (long_calls B m d w (by omega)).mono ?_
        rintro e w1 ⟨rfl, rfl⟩
        clear hml
        go_wp2_with fail
        go_ret
        exact ⟨k, rfl, rfl⟩
    · exfalso
      obtain rfl : k = N := by omega
      exact HS.out fun v hv => HSH.out v (by rw [List.take_of_length_le (by rw [H.out.1]; exact Nat.le_refl _)]; exact hv)
set_option maxRecDepth 100000 in
set_option maxHeartbeats 1000000 in
theorem contains38_long (A : Option Addr) (N c : Nat) (vs : List (List UInt8)) (w : World) (h : RdM w A N c vs) (hs : ¬ ∀ v ∈ vs, v.length ≤ 16384) :
    Calls Tryz.prog 38 #[.slice A N c, .func (.func 39) #[] #[]] w fun e w' => e = .returned (.bool true) ∧ w' = w := by
  have HI := Lib.hid (index64_long A N c vs w h hs)
  clear h hs
  go_enter Tryz.func38, Tryz.ntmps38
  go_wp2_with fail
  refine HI.out.mono ?_
  rintro e w1 ⟨k, rfl, rfl⟩
  have hk : (0 : Int) ≤ (k : Int) := by omega
  go_wp2_with fail
  go_ret
  exact ⟨rfl, rfl⟩
set_option maxRecDepth 100000 in
set_option maxHeartbeats 1000000 in
/-- values that are not right for an item -/
theorem Append_noV (s : Blocks) (f d cap : Nat) (D : HdS) (b : Bool) (num : Nat) (fs : FileS) (T : List (List UInt8)) (size : Nat) (z : FzS) (n : Int) (V : Option Addr) (N cv : Nat) (vs : List (List UInt8)) (w : World)
    (h : FrzA w s f d cap D b num fs T size z) (hv : RdM w V N cv vs) (hno : N ≠ T.length ∨ ¬ ∀ v ∈ vs, v.length ≤ 16384) :
    Calls Tryz.prog 10 #[.pointer (some ⟨f, 0, none⟩), .int .i64 n, .slice V N cv] w (ErrN w 120) := by
  obtain ⟨A, c, sd, iv, q, h⟩ := h
  have HAL := Lib.hid (alive_ok f d z.tail size (.slice A T.length c) iv ⟨#[97, 112, 112, 101, 110, 100]⟩ w h.blk)
  have c1 : w.cell? ⟨f, 1, none⟩ = some (.slice A T.length c) := h.blk.cell 1
  obtain ⟨tn, htn⟩ : ∃ tn, tn = T.length := ⟨_, rfl⟩
  rw [← htn] at c1 hno
  clear h htn
  by_cases hN : N = tn
  · subst hN
    have HCO := Lib.hid (contains38_long V N cv vs w hv (hno.resolve_left (fun e => e rfl)))
    clear hv hno
    go_enter Tryz.func10, Tryz.ntmps10
    go_wp2_with fail
    refine HAL.out.mono ?_
    rintro e w1 ⟨rfl, rfl⟩
    go_wp2_with fail
    refine HCO.out.mono ?_
    rintro e w1 ⟨rfl, rfl⟩
    go_wp2_with fail
    refine (failOf_calls _ 120 w1).mono ?_
    rintro e w2 ⟨v, rfl, hv, hb⟩
    have HR := Lib.hid (show ErrN w1 120 (.returned v) w2 from ⟨v, rfl, hv, hb⟩)
    clear hv hb
    go_wp2_with fail
    go_ret
    exact HR.out
  · have hI : ((N : Int) == (tn : Int)) = false := by rw [beq_eq_false_iff_ne]; omega
    have hI2 : ¬ (N : Int) = (tn : Int) := by omega
    clear hv hno
    go_enter Tryz.func10, Tryz.ntmps10
    go_wp2_with fail
    refine HAL.out.mono ?_
    rintro e w1 ⟨rfl, rfl⟩
    go_wp2_with fail
    refine (failOf_calls _ 120 w1).mono ?_
    rintro e w2 ⟨v, rfl, hv, hb⟩
    have HR := Lib.hid (show ErrN w1 120 (.returned v) w2 from ⟨v, rfl, hv, hb⟩)
    clear hv hb
    go_wp2_with fail
    go_ret
    exact HR.out
set_option maxRecDepth 100000 in
set_option maxHeartbeats 1000000 in
/-- a number that is not the next item's -/
theorem Append_noI (s : Blocks) (f d cap : Nat) (D : HdS) (b : Bool) (num : Nat) (fs : FileS) (T : List (List UInt8)) (size : Nat) (z : FzS) (n : Int) (V : Option Addr) (N cv : Nat) (vs : List (List UInt8)) (w : World)
    (h : FrzA w s f d cap D b num fs T size z) (hv : RdM w V N cv vs) (hN : N = T.length) (hvs : ∀ v ∈ vs, v.length ≤ 16384) (hn : n ≠ (z.head : Int)) (hh : z.head ≤ 1000000) :
    Calls Tryz.prog 10 #[.pointer (some ⟨f, 0, none⟩), .int .i64 n, .slice V N cv] w (ErrN w 121) := by
  obtain ⟨A, c, sd, iv, q, h⟩ := h
  obtain ⟨Ai, ci, hiv, hic, hcm2⟩ := h.items.slice
  subst hiv
  have HAL := Lib.hid (alive_ok f d z.tail size (.slice A T.length c) (.slice Ai z.items.length ci) ⟨#[97, 112, 112, 101, 110, 100]⟩ w h.blk)
  have HCO := Lib.hid (contains38_calls V N cv vs w hv hvs)
  have HHD : Hid (Calls Tryz.prog 14 #[.pointer (some ⟨f, 0, none⟩)] w fun e w' => e = .returned (.int .i64 (z.head : Int)) ∧ ∃ q, w' = w.drewN q) := head_n f d z.tail z.items.length ci size _ Ai false false w h.blk (by unfold FzS.head at hh; omega)
  have c1 : w.cell? ⟨f, 1, none⟩ = some (.slice A T.length c) := h.blk.cell 1
  rw [← hN] at c1
  obtain ⟨hv', hhv⟩ : ∃ hv', hv' = z.head := ⟨_, rfl⟩
  rw [← hhv] at HHD hn
  have hq : (n == (hv' : Int)) = false := by rw [beq_eq_false_iff_ne]; exact hn
  clear h hv hvs hh hhv hN
  go_enter Tryz.func10, Tryz.ntmps10
  go_wp2_with fail
  refine HAL.out.mono ?_
  rintro e w1 ⟨rfl, rfl⟩
  go_wp2_with fail
  refine HCO.out.mono ?_
  rintro e w1 ⟨rfl, rfl⟩
  go_wp2_with fail
  refine HHD.out.mono ?_
  rintro e w2 ⟨rfl, q2, rfl⟩
  go_wp2_with fail
  refine (failOf_calls _ 121 (w1.drewN q2)).mono ?_
  rintro e w2 ⟨v, rfl, hv, hb⟩
  have HR := Lib.hid (show ErrN w1 121 (.returned v) w2 from ⟨v, rfl, hv, (below_drewN q2).trans hb⟩)
  clear hv hb
  go_wp2_with fail
  go_ret
  exact HR.out
end Go.Proofs.YtejnfahfjmeabaaGreatDoor
namespace Go.Proofs.YtejnfahfjmeabaaGreatDoor
open Go.RowKit
set_option linter.unusedSimpArgs false
set_option linter.unusedVariables false

theorem str_beq (a b : List UInt8) : (str a == str b) = decide (a = b) := by
  by_cases h : a = b
  · subst h
    rw [decide_eq_true rfl]
    exact (MapKept.bytes_beq _ _).2 rfl
  · rw [decide_eq_false h]
    cases hq : str a == str b with
    | false => rfl
    | true => exact absurd (str_inj ((MapKept.bytes_beq _ _).1 hq)) h
set_option maxRecDepth 100000 in
set_option maxHeartbeats 1000000 in
theorem texts_calls (A : Option Addr) (n c : Nat) (X : List (List UInt8)) (B : Option Addr) (m d : Nat) (Y : List (List UInt8)) (w : World) (hX : RdT w A n c X) (hY : RdT w B m d Y) :
    Calls Tryz.prog 20 #[.slice A n c, .slice B m d] w fun e w' => e = .returned (.bool (decide (X = Y))) ∧ Below w.heap.size w w' := by
  have hn : n ≤ 9223372036854775807 := by have := hX.2.1; have := hX.2.2.1; unfold maxLen at this; omega
  have hm : m ≤ 9223372036854775807 := by have := hY.2.1; have := hY.2.2.1; unfold maxLen at this; omega
  have HX := Lib.hid hX
  have HY := Lib.hid hY
  by_cases hl : n = m
  · subst hl
    clear hX hY
    go_enter Tryz.func20, Tryz.ntmps20
    go_wp2_with fail
    go_loopw [5] (fun i wr => ∃ k : Nat, k ≤ n ∧ i = .int .i64 k ∧ X.take k = Y.take k ∧ Below w.heap.size w wr) (fun i _ => n - (intOf i).toNat)
    case atStart => exact ⟨0, by omega, rfl, by simp, Below.refl _ _⟩
    case round =>
      obtain ⟨k, hk, rfl, htk, hb⟩ := hrel
      have HTK := Lib.hid htk
      have HB := Lib.hid hb
      obtain ⟨wo, rfl⟩ : ∃ wo : World, wo = wr := ⟨_, rfl⟩
      by_cases hlt : k < n
      · obtain ⟨g1, o1, rfl, hc1⟩ := HX.out.2.2.2 (by omega)
        obtain ⟨g2, o2, rfl, hc2⟩ := HY.out.2.2.2 (by omega)
        have hx : X[k]? = some (X.getD k []) := by rw [List.getD_eq_getElem?_getD, List.getElem?_eq_getElem (by rw [HX.out.1]; exact hlt)]; rfl
        have hy : Y[k]? = some (Y.getD k []) := by rw [List.getD_eq_getElem?_getD, List.getElem?_eq_getElem (by rw [HY.out.1]; exact hlt)]; rfl
        have x1 := cell_below' hb (hc1 k _ hx)
        have x2 := cell_below' hb (hc2 k _ hy)
        have hkI : (0 : Int) ≤ (k : Int) ∧ (k : Int) < (n : Int) := by omega
        have HXY := Lib.hid (show X.take (k + 1) = X.take k ++ [X.getD k []] ∧ Y.take (k + 1) = Y.take k ++ [Y.getD k []] from ⟨by rw [List.take_add_one, hx]; rfl, by rw [List.take_add_one, hy]; rfl⟩)
        generalize X.getD k [] = a at *
        generalize Y.getD k [] = b at *
        have HGX := Lib.hid (show X[k]? = some a ∧ Y[k]? = some b from ⟨hx, hy⟩)
        have hq := str_beq a b
        clear hx hy hc1 hc2 htk hb
        by_cases hab : a = b
        · rw [decide_eq_true hab] at hq
          have hqn : (!(str a).toList == (str b).toList) = false := by rw [str_list, str_list, hab]; simp
          clear hq
          go_wp2_with fail
          go_quiet (fail)
          go_wp2_with fail
          refine ⟨⟨k + 1, by omega, by go_num, by rw [HXY.out.1, HXY.out.2, HTK.out, hab], ⟨HB.out.os, HB.out.tape, HB.out.output, HB.out.size, HB.out.block⟩⟩, ?_⟩
          simp [intOf]
          omega
        · rw [decide_eq_false hab] at hq
          have hqn : (!(str a).toList == (str b).toList) = true := by rw [str_list, str_list]; simpa using hab
          clear hq
          have HR := Lib.hid (show decide (X = Y) = false from decide_eq_false (fun e => hab (by
            have h1 := HGX.out.1
            rw [e, HGX.out.2] at h1
            exact (Option.some.inj h1).symm)))
          go_wp2_with fail
          go_quiet (fail)
          go_wp2_with fail
          go_ret
          exact ⟨by rw [HR.out]; rfl, ⟨HB.out.os, HB.out.tape, HB.out.output, HB.out.size, HB.out.block⟩⟩
      · obtain rfl : k = n := by omega
        have HR := Lib.hid (show decide (X = Y) = true from decide_eq_true (by
          have e1 : X.take k = X := List.take_of_length_le (by rw [HX.out.1]; exact Nat.le_refl _)
          have e2 : Y.take k = Y := List.take_of_length_le (by rw [HY.out.1]; exact Nat.le_refl _)
          rw [← e1, htk, e2]))
        go_wp2_with fail
        go_ret
        exact ⟨by rw [HR.out]; rfl, HB.out⟩
  · have HR := Lib.hid (show decide (X = Y) = false from decide_eq_false (fun e => hl (by rw [← hX.1, ← hY.1, e])))
    have hI : ¬ (n : Int) = (m : Int) := by omega
    have hIb : ((n : Int) == (m : Int)) = false := by rw [beq_eq_false_iff_ne]; omega
    clear hX hY
    go_enter Tryz.func20, Tryz.ntmps20
    go_wp2_with fail
    go_ret
    exact ⟨by rw [HR.out]; rfl, Below.refl _ _⟩
end Go.Proofs.YtejnfahfjmeabaaGreatDoor
namespace Go.Proofs.YtejnfahfjmeabaaGreatDoor
open Go.RowKit
set_option linter.unusedSimpArgs false
set_option linter.unusedVariables false

set_option maxRecDepth 100000 in
set_option maxHeartbeats 1000000 in
theorem mod_calls (a n : Nat) (ha : a ≤ 9223372036854775807) (hn : 1 ≤ n) (hn2 : n ≤ 1000) (w : World) : Calls Tryz.prog 23 #[.int .i64 (a : Int), .int .i64 (n : Int)] w fun e w' => e = .returned (.int .i64 ((a % n : Nat) : Int)) ∧ w' = w := by
  obtain ⟨r, hr⟩ : ∃ r, r = a % n := ⟨_, rfl⟩
  have hrn : r < n := by rw [hr]; exact Nat.mod_lt _ (by omega)
  have h1 : Int.tmod (a : Int) (n : Int) = (r : Int) := by rw [hr, Int.ofNat_tmod]
  have h2 : Int.tmod ((r : Int) + (n : Int)) (n : Int) = (r : Int) := by
    rw [← Int.natCast_add, ← Int.ofNat_tmod, Nat.add_mod_right, Nat.mod_eq_of_lt hrn]
  have h3 : wrap64 ((r : Int) + (n : Int)) = (r : Int) + (n : Int) := wrap_ok _ (by omega) (by omega)
  have h0 : ¬ (n : Int) = 0 := by omega
  have h4 : wrap64 (r : Int) = (r : Int) := wrap_ok _ (by omega) (by omega)
  rw [← hr]
  clear hr
  go_enter Tryz.func23, Tryz.ntmps23
  go_wp2_with fail
  go_ret
  exact ⟨rfl, rfl⟩
def allT : List (List UInt8) := [[97], [98, 98], [104, 101, 97, 100], [98, 111, 100, 121], [101], [102], [103], [104]]
def playT (n : Nat) : List (List UInt8) := allT.take n
theorem playT_ok : ∀ n, 1 ≤ n → n ≤ 8 → TabsOk (playT n) := by
  intro n h1 h2
  have key : ∀ s ∈ allT, nameOkF s := by
    intro s hs
    have : s = [97] ∨ s = [98, 98] ∨ s = [104, 101, 97, 100] ∨ s = [98, 111, 100, 121] ∨ s = [101] ∨ s = [102] ∨ s = [103] ∨ s = [104] := by simpa [allT] using hs
    rcases this with rfl | rfl | rfl | rfl | rfl | rfl | rfl | rfl <;> exact ⟨by decide, by decide, by decide⟩
  refine ⟨by unfold playT; rw [List.length_take]; have : allT.length = 8 := rfl; omega, by unfold playT; rw [List.length_take]; have : allT.length = 8 := rfl; omega, fun s hs => key s (List.mem_of_mem_take hs), ?_⟩
  exact List.Nodup.sublist (List.take_sublist _ _) (by decide)
theorem playT_length (n : Nat) (h : n ≤ 8) : (playT n).length = n := by unfold playT; rw [List.length_take]; have : allT.length = 8 := rfl; omega
def namesX : Obj := .cells #[.string ⟨#[97]⟩, .string ⟨#[98, 98]⟩, .string ⟨#[104, 101, 97, 100]⟩, .string ⟨#[98, 111, 100, 121]⟩, .string ⟨#[101]⟩, .string ⟨#[102]⟩, .string ⟨#[103]⟩, .string ⟨#[104]⟩] 9
set_option maxRecDepth 100000 in
set_option maxHeartbeats 1000000 in
theorem names_calls (n : Nat) (h1 : 1 ≤ n) (h2 : n ≤ 8) (w : World) : Calls Tryz.prog 22 #[.int .i64 (n : Int)] w fun e w' => ∃ A, e = .returned (.slice A n n) ∧ RdT w' A n n (playT n) ∧ Below w.heap.size w w' := by
  have hfin : Hid (RdT (w.alloc namesX) (some ⟨w.heap.size, 0, none⟩) n n (playT n) ∧ Below w.heap.size w (w.alloc namesX)) := by
    refine ⟨⟨playT_length n h2, Nat.le_refl _, by unfold maxLen; omega, fun _ => ⟨_, _, rfl, fun j s hs => ?_⟩⟩, (Below.refl _ _).alloc (Nat.le_refl _) _⟩
    unfold playT at hs
    rw [List.getElem?_take] at hs
    split at hs
    · unfold namesX
      rw [(Blk.new w 9 _).cell, Nat.zero_add]
      have hj : j < 8 := by omega
      match j, hj, hs with
      | 0, _, hs => obtain rfl : _ = s := Option.some.inj hs; rfl
      | 1, _, hs => obtain rfl : _ = s := Option.some.inj hs; rfl
      | 2, _, hs => obtain rfl : _ = s := Option.some.inj hs; rfl
      | 3, _, hs => obtain rfl : _ = s := Option.some.inj hs; rfl
      | 4, _, hs => obtain rfl : _ = s := Option.some.inj hs; rfl
      | 5, _, hs => obtain rfl : _ = s := Option.some.inj hs; rfl
      | 6, _, hs => obtain rfl : _ = s := Option.some.inj hs; rfl
      | 7, _, hs => obtain rfl : _ = s := Option.some.inj hs; rfl
    · cases hs
  unfold namesX at hfin
  have hi1 : (0 : Int) ≤ (n : Int) ∧ (n : Int) ≤ 8 := by omega
  have hi2 : (n : Int) ≤ 8 := by omega
  have hi3 : n ≤ 8 := h2
  clear h1
  go_enter Tryz.func22, Tryz.ntmps22
  go_wp2_with fail
  go_ret
  exact ⟨_, rfl, hfin.out⟩
set_option maxRecDepth 100000 in
set_option maxHeartbeats 1000000 in
theorem bytesEq_calls (A : Option Addr) (n c : Nat) (xs : List UInt8) (B : Option Addr) (m d : Nat) (ys : List UInt8) (w : World) (hx : RdB w A n c xs) (hy : RdB w B m d ys) :
    Calls Tryz.prog 49 #[.slice A n c, .slice B m d] w fun e w' => e = .returned (.bool (decide (xs = ys))) ∧ w' = w := by
  have e1 := run_convertB (P := Tryz.prog) w 34 5 9 Tryz.underlying34 Tryz.underlying5 Tryz.underlying9 hx
  have e2 := run_convertB (P := Tryz.prog) w 34 5 9 Tryz.underlying34 Tryz.underlying5 Tryz.underlying9 hy
  have hq := str_beq xs ys
  have hq2 : ((str xs).toList == (str ys).toList) = decide (xs = ys) := by rw [str_list, str_list]; by_cases h : xs = ys <;> simp [h]
  clear hx hy
  generalize decide (xs = ys) = q at *
  generalize hX : str xs = X at *
  generalize hY : str ys = Y at *
  clear hX hY
  go_enter Tryz.func49, Tryz.ntmps49
  go_wp2_with fail
  go_ret
  exact ⟨rfl, rfl⟩
end Go.Proofs.YtejnfahfjmeabaaGreatDoor
namespace Go.Proofs.YtejnfahfjmeabaaGreatDoor
open Go.RowKit
set_option linter.unusedSimpArgs false
set_option linter.unusedVariables false

/-- a slice of bytes that may be written over -/
def WrB (w : World) (v : Value) : Prop := ∃ A n c, v = .slice A n c ∧ n ≤ 9223372036854775807 ∧ ((A = none ∧ n = 0) ∨ ∃ g cs, A = some ⟨g, 0, none⟩ ∧ Blk w g 5 cs ∧ n ≤ cs.size)
theorem WrB.keeps {w w' : World} {v : Value} (h : WrB w v) (hk : KeepsOn (ownS v) w w') : WrB w' v := by
  obtain ⟨A, n, c, rfl, hn, h⟩ := h
  refine ⟨A, n, c, rfl, hn, ?_⟩
  rcases h with h | ⟨g, cs, rfl, h1, h2⟩
  · exact .inl h
  · exact .inr ⟨g, cs, rfl, (hk g rfl).trans h1, h2⟩
theorem WrB.below {w w' : World} {v : Value} (h : WrB w v) (hb : Below w.heap.size w w') : WrB w' v := by
  obtain ⟨A, n, c, rfl, hn, h⟩ := h
  refine ⟨A, n, c, rfl, hn, ?_⟩
  rcases h with h | ⟨g, cs, rfl, h1, h2⟩
  · exact .inl h
  · exact .inr ⟨g, cs, rfl, h1.below hb h1.lt, h2⟩
theorem WrB.ne {w : World} {v : Value} (h : WrB w v) {g : Nat} {t : TypeId} {cs : Array Value} (hb : Blk w g t cs) (ht : t ≠ 5) : ¬ ownS v g := by
  obtain ⟨A, n, c, rfl, hn, h⟩ := h
  rcases h with ⟨rfl, _⟩ | ⟨g', cs', rfl, h1, h2⟩
  · intro e; cases e
  · exact fun e => blk_ne hb h1 ht (Option.some.inj e).symm
theorem WrB.set {w : World} {v : Value} (h : WrB w v) (p : Addr) (hp : p.spot = none) (u : Value) : WrB (w.setCell p u) v := by
  obtain ⟨A, n, c, rfl, hn, h⟩ := h
  refine ⟨A, n, c, rfl, hn, ?_⟩
  rcases h with h | ⟨g, cs, rfl, h1, h2⟩
  · exact .inl h
  right
  obtain ⟨b, o, sp⟩ := p
  obtain rfl : sp = none := hp
  by_cases hg : g = b
  · subst hg
    exact ⟨g, _, rfl, h1.set_ o u, by simp; exact h2⟩
  · exact ⟨g, cs, rfl, h1.far (p := ⟨b, o, none⟩) hg u, h2⟩
theorem OwnB.wr {w : World} {B : Nat} {v : Value} {xs : List UInt8} (h : OwnB w B v xs) : WrB w v := by
  rcases h.2 with ⟨rfl, h0⟩ | ⟨g, cap, cur, rfl, hb, hh, hn, hm, hs, _⟩
  · exact ⟨none, 0, 0, rfl, by omega, .inl ⟨rfl, rfl⟩⟩
  · exact ⟨_, _, cap, rfl, by unfold maxLen at hm; omega, .inr ⟨g, cur, rfl, hh, by omega⟩⟩
def SpoilR (w : World) (v : Value) (e : Ending) (w' : World) : Prop := e = .returned (.tuple #[]) ∧ Upd (ownS v) (ownS v) w w' ∧ w'.heap.size = w.heap.size ∧ ∀ u, WrB w u → WrB w' u
set_option maxRecDepth 100000 in
set_option maxHeartbeats 1000000 in
theorem spoil_calls (v : Value) (w : World) (h : WrB w v) : Calls Tryz.prog 47 #[v] w (SpoilR w v) := by
  obtain ⟨A, n, c, rfl, hn, h⟩ := h
  have H := Lib.hid h
  clear h
  go_enter Tryz.func47, Tryz.ntmps47
  go_wp2_with fail
  go_loopw [2] (fun i wr => ∃ k : Nat, k ≤ n ∧ i = .int .i64 k ∧ Upd (ownS (.slice A n c)) (ownS (.slice A n c)) w wr ∧ wr.heap.size = w.heap.size ∧ ∀ u, WrB w u → WrB wr u) (fun i _ => n - (intOf i).toNat)
  case atStart => exact ⟨0, by omega, rfl, Upd.refl _ _, rfl, fun _ h => h⟩
  case round =>
    obtain ⟨k, hk, rfl, hu, hz, hw⟩ := hrel
    obtain ⟨wo, rfl⟩ : ∃ wo : World, wo = wr := ⟨_, rfl⟩
    by_cases hlt : k < n
    · obtain ⟨g, cs, rfl, hB, hcs⟩ := H.out.resolve_left (fun e => by have := e.2; omega)
      obtain ⟨cs2, hB2, hcs2⟩ : ∃ cs2, Blk wo g 5 cs2 ∧ n ≤ cs2.size := by
        obtain ⟨A', n', c', e, _, h⟩ := hw (.slice (some ⟨g, 0, none⟩) n c) ⟨_, _, _, rfl, hn, .inr ⟨g, cs, rfl, hB, hcs⟩⟩
        injection e with e1 e2 e3
        subst e2
        rcases h with ⟨_, h0⟩ | ⟨g', cs', e4, h1, h2⟩
        · omega
        rw [← e1] at e4
        injection e4 with e4
        injection e4 with e4
        subst e4
        exact ⟨cs', h1, h2⟩
      have hc : wo.cell? ⟨g, k, none⟩ = some (cs2[k]'(by omega)) := by rw [hB2.cell]; exact Array.getElem?_eq_getElem _
      have hf := hB2.frozen k
      have HU := Lib.hid (hu.set (p := ⟨g, k, none⟩) (show ownS (.slice (some ⟨g, 0, none⟩) n c) g from rfl) (.int .u8 238))
      have HZ : Hid ((wo.setCell ⟨g, k, none⟩ (.int .u8 238)).heap.size = w.heap.size) := by
        refine Eq.trans ?_ hz
        simp [World.setCell]
      have HW := Lib.hid (fun u h => (hw u h).set ⟨g, k, none⟩ rfl (.int .u8 238))
      have hkI : (0 : Int) ≤ (k : Int) ∧ (k : Int) < (n : Int) := by omega
      clear hu hz hw hB hcs
      generalize cs2[k] = old at *
      clear hcs2 hB2
      go_wp2_with fail
      go_roundw
      case rel => exact ⟨k + 1, by omega, by go_num, HU.out, HZ.out, HW.out⟩
      case measure => simp [intOf]; omega
    · obtain rfl : k = n := by omega
      have HF := Lib.hid (show SpoilR w (.slice A k c) (.returned (.tuple #[])) wo from ⟨rfl, hu, hz, hw⟩)
      clear hu hz hw
      go_wp2_with fail
      (try simp only [Exit.inBlock, Exit.then]); refine bodyPost_ret (results_none rfl _ _ _) rfl ?_
      exact HF.out
/-- lists of bytes of the call's own memory -/
def CopyM (w : World) (B : Nat) (V : Value) (vs : List (List UInt8)) : Prop := ∃ els, w.ownsRow B 34 1 V vs.length els ∧ ∀ (j : Nat) v, els[j]? = some v → ∃ xs, vs[j]? = some xs ∧ OwnB w B v xs
theorem CopyM.keeps {w w' : World} {B : Nat} {V : Value} {vs : List (List UInt8)} (h : CopyM w B V vs) (hk : KeepsOn (fun k => B ≤ k ∧ k < w.heap.size) w w') : CopyM w' B V vs := by
  obtain ⟨els, h1, h2⟩ := h
  refine ⟨els, row_keep h1 (fun k hk' => hk k (World.ownsRow.lt h1 k hk')), fun j v hj => ?_⟩
  obtain ⟨xs, e, h3⟩ := h2 j v hj
  exact ⟨xs, e, row_keep h3 (fun k hk' => hk k (World.ownsRow.lt h3 k hk'))⟩
theorem CopyM.reads {w : World} {B : Nat} {V : Value} {vs : List (List UInt8)} (h : CopyM w B V vs) : ∃ A c, V = .slice A vs.length c ∧ RdM w A vs.length c vs := by
  obtain ⟨els, h1, h2⟩ := h
  have hl : els.length = vs.length := by have := h1.1; omega
  rcases h1.2 with ⟨rfl, h0⟩ | ⟨g, cap, cur, rfl, hb, hh, hn, hm, hs, ht⟩
  · rw [h0]
    exact ⟨none, 0, rfl, h0, Nat.le_refl _, by unfold maxLen; omega, fun hp => absurd hp (by omega)⟩
  · refine ⟨_, cap, rfl, rfl, hn, hm, fun hp => ⟨_, rfl, fun j v hv => ?_⟩⟩
    have hjl : j < els.length := by rw [hl]; exact (List.getElem?_eq_some_iff.1 hv).1
    have he := List.getElem?_eq_getElem hjl
    obtain ⟨xs, e, h3⟩ := h2 j _ he
    obtain rfl : v = xs := Option.some.inj (hv.symm.trans e)
    obtain ⟨A', c', e2, hr⟩ := h3.reads
    refine ⟨A', v.length, c', ?_, hr⟩
    have := World.ownsRow.cells h1 (g := g) rfl j _ he
    rw [← e2]
    exact this
theorem Tryz.info34 : (Tryz.prog.info? 34).map (fun i => (i.zero, i.size, i.bytes)) = some (some (.slice none 0 0), 1, 24) := by kernel_rfl
attribute [-go_sem] Builtin.append_
/-- a row of slices of bytes is appended to -/
theorem append_one35 (w : World) (B : Nat) (v : Value) (n : Nat) (xs : List Value) (u : Value) (h : w.ownsRow B 34 1 v n xs) (hn : n ≤ 1000000000) (hu : u.oneCell' = true) (hB : B ≤ w.heap.size) :
    ∃ v' w', (Builtin.append_ #[35, 35] 35 #[v, .slice (some ⟨w.heap.size, 0, none⟩) 1 1]).run Tryz.prog (w.alloc (.cells #[u] 34)) = .ok v' w' ∧ w'.ownsRow B 34 1 v' (n + 1) (xs ++ [u]) ∧ (w.alloc (.cells #[u] 34)).grownBy w' v.ownBlock := by
  obtain ⟨i0, hi0, hz0, hz1, hz2⟩ := info_parts Tryz.info34
  have hbm : (n + 1) * 24 ≤ 140737488355328 := Nat.le_trans (Nat.mul_le_mul (show n + 1 ≤ 1000000001 by omega) (Nat.le_refl _)) (by decide)
  obtain ⟨v', w', hrun, r1, r2, _, r4⟩ := run_append_own_at (P := Tryz.prog) (w.alloc (.cells #[u] 34)) B 35 35 34 i0 (.slice none 0 0) 1 24 Tryz.underlying35 hi0 hz0 hz1 hz2 rfl (by decide) v n xs (World.ownsRow.alloc h _)
    ⟨w.heap.size, 0, none⟩ 1 1 [u] rfl (by
      intro j v hv
      have hc := (Blk.new w 34 #[u]).cell j
      have e0 : (⟨w.heap.size, 0, none⟩ : Addr).add j = ⟨w.heap.size, j, none⟩ := by unfold Addr.add; split <;> simp_all
      rw [e0, hc]
      simpa using hv) (by simpa using hu) (by unfold maxLen; omega) hbm (by simp; omega)
  exact ⟨v', w', hrun, r1, r2⟩
set_option maxRecDepth 100000 in
set_option maxHeartbeats 1000000 in
theorem copyLists_calls (A : Option Addr) (N c : Nat) (vs : List (List UInt8)) (w : World) (h : RdM w A N c vs) (hN : N ≤ 1000000) (hl : ∀ v ∈ vs, v.length ≤ 140737488355328) :
    Calls Tryz.prog 46 #[.slice A N c] w fun e w' => ∃ V, e = .returned V ∧ CopyM w' w.heap.size V vs ∧ Below w.heap.size w w' := by
  have H := Lib.hid h
  have HL := Lib.hid hl
  clear h hl
  go_enter Tryz.func46, Tryz.ntmps46
  go_wp2_with fail
  go_loopw [3, 4] (fun o i wr => ∃ k : Nat, k ≤ N ∧ i = .int .i64 k ∧ CopyM wr w.heap.size o (vs.take k) ∧ Below w.heap.size w wr) (fun _ i _ => N - (intOf i).toNat)
  case atStart => exact ⟨0, by omega, rfl, ⟨[], World.ownsRow_nil _ _ _ _, fun j v hj => by simp at hj⟩, Below.refl _ _⟩
  case round =>
    obtain ⟨k, hk, rfl, hC, hb⟩ := hrel
    obtain ⟨wo, rfl⟩ : ∃ wo : World, wo = wr := ⟨_, rfl⟩
    have HC := Lib.hid hC
    have HB := Lib.hid hb
    obtain ⟨A3, c3, rfl, hR⟩ := hC.reads
    have htl : (vs.take k).length = k := by rw [List.length_take, H.out.1]; omega
    by_cases hlt : k < N
    · obtain ⟨ad, B, m, d, rfl, hg, hcell, hrd⟩ := H.out.at_ hlt
      have hkI : (0 : Int) ≤ (k : Int) ∧ (k : Int) < (N : Int) := by omega
      have hcell' := cell_below' hb hcell
      have hrd' := hrd.below hb
      generalize hx : vs.getD k [] = x at *
      have hxl : m ≤ 140737488355328 := by rw [← hrd.1]; exact HL.out _ (List.mem_of_getElem? hg)
      have HG := Lib.hid hg
      rw [htl] at hR ⊢
      clear hC hcell hrd hg hx hR
      have hbz := hb.size
      clear hb
      have arm : ∀ v2 w2, OwnB w2 wo.heap.size v2 ([] ++ x) → Below wo.heap.size wo w2 → ∃ A2 c2 A4 c4 w3, v2 = .slice A2 x.length c2 ∧
          (Builtin.append_ #[35, 35] 35 #[.slice A3 k c3, .slice (some ⟨w2.heap.size, 0, none⟩) 1 1]).run Tryz.prog (w2.alloc (.cells #[.slice A2 x.length c2] 34)) = .ok (.slice A4 (k + 1) c4) w3 ∧
          CopyM w3 w.heap.size (.slice A4 (k + 1) c4) (vs.take (k + 1)) ∧ Below w.heap.size w w3 := by
        intro v2 w2 ho2 hb2
        obtain ⟨A2, c2, hv2, _⟩ := ho2.reads
        subst hv2
        obtain ⟨els, hrow, hels⟩ := HC.out
        rw [htl] at hrow
        have hrow2 : w2.ownsRow w.heap.size 34 1 (.slice A3 k c3) k els := row_keep hrow (fun i hi => hb2.block i (World.ownsRow.lt hrow i hi).2)
        obtain ⟨v3, w3, hrun, r3, g3⟩ := append_one35 w2 w.heap.size (.slice A3 k c3) k els (.slice A2 x.length c2) hrow2 (by omega) rfl (by have := hb2.size; omega)
        obtain ⟨A4, c4, hv3⟩ := row_slice r3
        subst hv3
        refine ⟨A2, c2, A4, c4, w3, rfl, hrun, ?_⟩
        have hl1 : (vs.take (k + 1)).length = k + 1 := by rw [List.length_take, H.out.1]; omega
        have htk : vs.take (k + 1) = vs.take k ++ [x] := by rw [List.take_add_one, HG.out]; rfl
        have hel : els.length = k := by have := hrow.1; omega
        have hba : Below w2.heap.size w2 (w2.alloc (.cells #[.slice A2 x.length c2] 34)) := (Below.refl _ _).alloc (Nat.le_refl _) _
        have keep : ∀ {B' : Nat} {v : Value} {xs : List UInt8}, OwnB w2 B' v xs → w.heap.size ≤ B' → OwnB w3 w.heap.size v xs := fun {B' v xs} ho hB' => by
          refine OwnB.more (row_keep ho (fun i hi => ?_)) hB'
          have hi2 := (World.ownsRow.lt ho i hi).2
          have hne := row_apart ho hrow2 (by decide) i hi
          exact (g3.block i (by simp; omega) (fun e => hne e.symm)).trans (hba.block i hi2)
        refine ⟨⟨els ++ [.slice A2 x.length c2], by rw [hl1]; exact r3, fun j v hj => ?_⟩, ?_⟩
        · rw [htk]
          by_cases hjk : j < els.length
          · rw [List.getElem?_append_left hjk] at hj
            obtain ⟨xs, e1, e2⟩ := hels j v hj
            exact ⟨xs, by rw [List.getElem?_append_left (by rw [htl]; omega)]; exact e1, keep (e2.below hb2) (Nat.le_refl _)⟩
          · have hjl := (List.getElem?_eq_some_iff.1 hj).1
            rw [List.length_append, List.length_singleton] at hjl
            obtain rfl : j = els.length := by omega
            rw [List.getElem?_append_right (Nat.le_refl _), Nat.sub_self] at hj
            obtain rfl : _ = v := Option.some.inj hj
            refine ⟨x, ?_, keep ho2 hbz⟩
            rw [List.getElem?_append_right (by rw [htl]; omega), htl, hel, Nat.sub_self]
            rfl
        · have hb02 : Below w.heap.size w w2 := thn HB.out hb2
          exact (hb02.alloc hb02.size _).grown g3 (by have := hb02.size; simp; omega) (fun i hi => (World.ownsRow.lt hrow2 i hi).1)
      have ARM := Lib.hid arm
      clear arm
      go_wp2_with (first | (at_builtin; refine wpList_appendB _ rfl _ (.tmp 15) rfl wo.heap.size (.slice none 0 0) [] x rfl _ _ _ rfl (OwnB.nil _ _) hrd' (by simpa using hxl) (Nat.le_refl _) ?_; intro v2 w2 ho2 hg2 hb2; obtain ⟨A2, c2, A4, c4, w3, hv2, hrun, hcx⟩ := ARM.out v2 w2 ho2 hb2; have HCX := Lib.hid hcx; subst hv2; clear ho2 hg2 hb2 hcx hrd' hcell') | (at_builtin; refine Lib.wpList_append_run _ rfl _ _ _ _ rfl _ _ rfl rfl _ _ hrun ?_))
      go_roundw
      case rel => exact ⟨k + 1, by omega, by go_num, HCX.out.1, HCX.out.2⟩
      case measure => simp [intOf]; omega
    · obtain rfl : k = N := by omega
      have e : vs.take k = vs := List.take_of_length_le (by rw [H.out.1]; exact Nat.le_refl _)
      have HC2 : Hid (CopyM wo w.heap.size (.slice A3 k c3) vs) := by
        have h0 := HC.out
        rw [htl, e] at h0
        exact h0
      rw [htl]
      clear HC hC hR e
      go_wp2_with fail
      go_ret
      exact ⟨_, rfl, HC2.out, HB.out⟩
end Go.Proofs.YtejnfahfjmeabaaGreatDoor
