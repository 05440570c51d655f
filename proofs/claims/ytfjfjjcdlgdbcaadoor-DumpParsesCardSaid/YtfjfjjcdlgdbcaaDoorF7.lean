/- the texts D8, D9, D10, D11, D12, D13 of this proof, one behind the other -/
import Derived.Test.YtfjfjjcdlgdbcaaDoorF6
import Derived.Deep.RegionHeld3
namespace Go.Proofs.YtfjfjjcdlgdbcaaDoor
open Go.RowKit
set_option linter.unusedSimpArgs false
set_option linter.unusedVariables false

/-- blocks that are no rows of bytes, other than b, lie as they lay -/
def KeepT (b : Nat) (w w' : World) : Prop := ∀ i, i < w.heap.size → i ≠ b → (∀ cs fr, w.heap[i]? ≠ some (.cells cs 5 fr)) → w'.heap[i]? = w.heap[i]?
theorem KeepT.refl (b : Nat) (w : World) : KeepT b w w := fun _ _ _ _ => rfl
theorem KeepT.trans {b : Nat} {w w1 w2 : World} (h : KeepT b w w1) (k : KeepT b w1 w2) (hs : w.heap.size ≤ w1.heap.size) : KeepT b w w2 := fun i hi hb hc => by
  have h1 := h i hi hb hc
  rw [k i (by omega) hb (by rw [h1]; exact hc), h1]
theorem KeepT.below {b : Nat} {w w1 : World} (h : Below w.heap.size w w1) : KeepT b w w1 := fun i hi _ _ => h.block i hi
theorem KeepT.setCell (b : Nat) (w : World) (o : Nat) (v : Value) : KeepT b w (w.setCell ⟨b, o, none⟩ v) := fun i _ hb _ => Below.heap_setCell w ⟨b, o, none⟩ v i (by show i ≠ b; exact hb)
theorem KeepT.blk {b : Nat} {w w' : World} {g : Nat} {t : TypeId} {cs : Array Value} (h : KeepT b w w') (hB : Blk w g t cs) (hg : g ≠ b) (ht : t ≠ 5) : Blk w' g t cs := by
  unfold Blk at hB ⊢
  rw [h g (Blk.lt hB) hg (fun cs' fr e => by
    rw [hB] at e
    have h1 := Option.some.inj e
    injection h1 with _ h2
    exact ht h2)]
  exact hB
theorem KeepT.grown {b : Nat} {w w' : World} {v : Value} {n : Nat} {xs : List Value} {B : Nat} (hg : w.grownBy w' v.ownBlock) (ho : w.ownsRow B 5 1 v n xs) : KeepT b w w' := fun i hi _ hc => hg.block i hi (fun e => by
  rcases ho.2 with ⟨rfl, _⟩ | ⟨g, cap, cur, rfl, _, hh, _⟩
  · cases e
  · obtain rfl : i = g := Option.some.inj e
    exact hc _ _ hh)
theorem copyCheck2_calls (B b : Nat) (bs : List Value) (w : World) (h : Lib.IsBuilder 83 5 B b bs w) :
    Calls Tryd.prog 80 #[.pointer (some ⟨b, 0, none⟩)] w fun e w' => e = .returned (.tuple #[]) ∧ (Lib.BuilderAt 83 5 B b (.pointer (some ⟨b, 0, none⟩)) bs w' ∧ Below B w w' ∧ KeepT b w w') := by
  rcases h with h | h
  · refine (copyCheck_fresh b w h.cell0 h.shape h.frozen0).mono ?_
    rintro e w' ⟨rfl, rfl⟩
    exact ⟨rfl, h.used _, (Below.refl B w).setCell (p := ⟨b, 0, none⟩) h.1 _, KeepT.setCell _ _ _ _⟩
  · refine (copyCheck_used b w h.cell0).mono ?_
    rintro e w' ⟨rfl, rfl⟩
    exact ⟨rfl, h, Below.refl B _, KeepT.refl _ _⟩

set_option maxHeartbeats 2000000 in
set_option maxRecDepth 100000 in
theorem WriteString2_calls (B b : Nat) (bs : List Value) (s : ByteArray) (w : World) (h : Lib.IsBuilder 83 5 B b bs w) (hlen : bs.length + s.size ≤ 140737488355328) (hBw : B ≤ w.heap.size) :
    Calls Tryd.prog 46 #[.pointer (some ⟨b, 0, none⟩), .string s] w fun e w' => e = .returned (.tuple #[.int .i64 s.size, .nilIface]) ∧ (Lib.BuilderAt 83 5 B b (.pointer (some ⟨b, 0, none⟩)) (bs ++ Lib.strCells s) w' ∧ Below B w w' ∧ KeepT b w w') := by
  obtain ⟨i0, hi, hz0, hz1, hz2⟩ := info_parts Tryd.info5
  go_enter Tryd.func46, Tryd.ntmps46
  go_wp2_with (go_at_call 80; refine (copyCheck2_calls B b bs _ h).mono ?_)
  rintro e w1 ⟨rfl, h1, hb1, hk1⟩
  have HK1 := Lib.hid hk1
  clear hk1
  obtain ⟨hB, v, hbk, hown, hne⟩ := h1
  have c0 : w1.cell? ⟨b, 0, none⟩ = some (.pointer (some ⟨b, 0, none⟩)) := by rw [Lib.cell_of_heap hbk]; rfl
  have c1 : w1.cell? ⟨b, 1, none⟩ = some v := by rw [Lib.cell_of_heap hbk]; rfl
  go_wp2_with (at_builtin; refine Lib.wpList_append_own_string _ rfl _ _ 22 9 rfl B 5 i0 Tryd.underlying22 Tryd.underlying9 hi hz0 hz1 hz2 _ _ _ rfl hown s rfl ?c3 ?c4 ?c5 ?_)
  case c3 => unfold maxLen; omega
  case c4 => omega
  case c5 => have := hb1.size; omega
  intro v' w2 hown' hgrow _
  have hlt : b < w1.heap.size := by
    rcases Nat.lt_or_ge b w1.heap.size with h' | h'
    · exact h'
    · simp [Array.getElem?_eq_none h'] at hbk
  have hb2 : w2.heap[b]? = some (.cells #[.pointer (some ⟨b, 0, none⟩), v] 83 (0, 0)) := by
    rw [hgrow.block b hlt (fun e => hne e.symm)]
    exact hbk
  have HK2 := Lib.hid (KeepT.grown (b := b) hgrow hown)
  have d0 : w2.cell? ⟨b, 0, none⟩ = some (.pointer (some ⟨b, 0, none⟩)) := by rw [Lib.cell_of_heap hb2]; rfl
  have d1 : w2.cell? ⟨b, 1, none⟩ = some v := by rw [Lib.cell_of_heap hb2]; rfl
  have f1 : w2.frozen? ⟨b, 1, none⟩ = false := Lib.frozen_of_heap hb2 1
  obtain ⟨ao, n', cap, rfl⟩ : ∃ ao n' cap, v' = .slice ao n' cap := by
    rcases hown'.2 with ⟨hv, _⟩ | ⟨g, cap, cur, hv, _⟩
    · exact ⟨_, _, _, hv⟩
    · exact ⟨_, _, _, hv⟩
  go_wp2
  go_ret2
  refine ⟨rfl, ?_, ?_, ?_⟩
  · exact Lib.BuilderAt.put (T := 83) (e := 5) hB hb2 (bs' := bs ++ Lib.strCells s) (by simpa [Lib.strCells_length] using hown') (by decide)
  · exact (hb1.grown hgrow (by have := hb1.size; omega) (fun k hk => (hown.lt k hk).1)).setCell (p := ⟨b, 1, none⟩) hB _
  · exact (HK1.out.trans (HK2.out.trans (KeepT.setCell _ _ _ _) hgrow.size) (hb1.size))
/-- a builder that holds bytes -/
def Bld (w : World) (B b : Nat) (l : List UInt8) : Prop := Lib.IsBuilder 83 5 B b (bvs l) w
theorem Bld.below {w w1 : World} {B b : Nat} {l : List UInt8} (h : Bld w B b l) (hb : Below w.heap.size w w1) : Bld w1 B b l := by
  have key : ∀ p, Lib.BuilderAt 83 5 B b p (bvs l) w → Lib.BuilderAt 83 5 B b p (bvs l) w1 := fun p ⟨h1, v, h2, h3, h4⟩ =>
    ⟨h1, v, (hb.block b (Array.getElem?_eq_some_iff.1 h2).1).trans h2, World.ownsRow.kept h3 (row := none) ⟨hb.os, hb.tape, hb.output, hb.size, fun i hi _ => hb.block i hi⟩ (by cases v.ownBlock <;> simp), h4⟩
  rcases h with h | h
  · exact .inl (key _ h)
  · exact .inr (key _ h)
theorem WriteString_l (B b : Nat) (l xs : List UInt8) (w : World) (h : Bld w B b l) (hlen : l.length + xs.length ≤ 140737488355328) (hBw : B ≤ w.heap.size) :
    Calls Tryd.prog 46 #[.pointer (some ⟨b, 0, none⟩), .string (str xs)] w fun e w' => e = .returned (.tuple #[.int .i64 xs.length, .nilIface]) ∧ Bld w' B b (l ++ xs) ∧ Below B w w' ∧ KeepT b w w' :=
  (WriteString2_calls B b (bvs l) (str xs) w h (by rw [bvs_length]; exact hlen) hBw).mono fun e w' ⟨he, h1, h2, h3⟩ => ⟨he, .inr (by rw [bvs_append]; exact h1), h2, h3⟩
theorem join_len32 (ss : List (List UInt8)) (m : Nat) (h : ∀ s ∈ ss, s.length ≤ m) : (Lib.join ss [32]).length ≤ ss.length * (m + 1) := by
  cases ss with
  | nil => simp [Lib.join_nil]
  | cons x r =>
    have hx : x.length ≤ m := h x (by simp)
    have key : ∀ r : List (List UInt8), (∀ s ∈ r, s.length ≤ m) → (Lib.joinTail [32] r).length ≤ r.length * (m + 1) := by
      intro r
      induction r with
      | nil => intro _; simp [Lib.joinTail]
      | cons y r ih =>
        intro hr
        have h1 := ih (fun s hs => hr s (by simp [hs]))
        have h2 := hr y (by simp)
        simp only [Lib.joinTail, List.map_cons, List.flatten_cons, List.length_append, List.length_cons, List.length_nil, Nat.add_mul] at h1 ⊢
        omega
    rw [Lib.join_cons]
    have := key r (fun s hs => h s (by simp [hs]))
    simp only [List.length_append, List.length_cons, Nat.add_mul]
    omega
theorem Join32_calls (w : World) (g c : Nat) (ss : List (List UInt8)) (hs : ∀ s ∈ ss, s.length ≤ 100000) (hm : ss.length ≤ 10) (hg : g < w.heap.size) (hc : ss.length ≤ c)
    (hcs : ∀ (j : Nat) s, ss[j]? = some s → w.cell? ⟨g, 0 + j, none⟩ = some (.string (str s))) :
    Calls Tryd.prog 47 #[.slice (some ⟨g, 0, none⟩) ss.length c, .string (str [32])] w fun e w' => e = .returned (.string (str (Lib.join ss [32]))) ∧ Below w.heap.size w w' := by
  have e1 : (ss.map str).map (·.data.toList) = ss := by rw [List.map_map]; exact List.map_id'' (fun _ => rfl) ss
  have hle : (Lib.join ss [32]).length ≤ 140737488355328 := by
    have := join_len32 ss 100000 hs
    have h2 : ss.length * (100000 + 1) ≤ 10 * 100001 := Nat.mul_le_mul hm (by omega)
    omega
  have := Tryd.strings_Join g 0 c (ss.map str) (str [32]) w (fun j x hx => by
    rw [List.getElem?_map, Option.map_eq_some_iff] at hx
    obtain ⟨s, h1, rfl⟩ := hx
    exact hcs j s h1) hg (by rw [List.length_map]; omega) (by rw [List.length_map]; exact hc) (by rw [e1]; exact hle)
  rw [e1, List.length_map] at this
  exact this

set_option maxHeartbeats 1000000 in
set_option maxRecDepth 100000 in
/-- dump.Print's line -/
theorem line_calls (g c : Nat) (ss : List (List UInt8)) (B b : Nat) (l : List UInt8) (w : World) (h : Bld w B b l) (hc : ∀ (j : Nat) s, ss[j]? = some s → w.cell? ⟨g, 0 + j, none⟩ = some (.string (str s))) (hg : g < w.heap.size) (hn : ss.length ≤ c) (hm : ss.length ≤ 10)
    (hl : ∀ s ∈ ss, s.length ≤ 100000) (hll : l.length ≤ 100000000000) (hBw : B ≤ w.heap.size) :
    Calls Tryd.prog 45 #[.slice (some ⟨g, 0, none⟩) ss.length c, .pointer (some ⟨b, 0, none⟩)] w fun e w' => e = .returned (.tuple #[]) ∧ Bld w' B b (l ++ (Lib.join ss [32] ++ [10])) ∧ Below B w w' ∧ KeepT b w w' := by
  have hj := Lib.hid (Join32_calls w g c ss hl hm hg hn hc)
  have hjl := join_len32 ss 100000 hl
  have h2 : ss.length * (100000 + 1) ≤ 10 * 100001 := Nat.mul_le_mul hm (by omega)
  have HB := Lib.hid h
  have hws := Lib.hid (fun W (hW : Below w.heap.size w W) => WriteString_l B b l (Lib.join ss [32] ++ [10]) W (h.below hW) (by simp; omega) (Nat.le_trans hBw hW.size))
  clear h hc hl
  generalize Lib.join ss [32] = js at *
  have hcat := str_cat js [10]
  have hsz1 : (str js).size = js.length := rfl
  have hsz2 : (str [10]).size = 1 := rfl
  have hno : ¬ 9223372036854775807 < js.length + 1 := by omega
  have e10 : (⟨#[10]⟩ : ByteArray) = str [10] := rfl
  have e32 : (⟨#[32]⟩ : ByteArray) = str [32] := rfl
  go_enter Tryd.func45, Tryd.ntmps45
  rw [e10, e32]
  go_wp2_with (first | (go_at_call 47; refine hj.out.mono ?_; rintro e w1 ⟨rfl, hb1⟩) | (go_at_call 46; refine (hws.out _ hb1).mono ?_; rintro e w2 ⟨rfl, h1, hb2, hk2⟩))
  go_end0
  exact ⟨rfl, h1, (hb1.mono hBw).trans hb2, (KeepT.below hb1).trans hk2 hb1.size⟩
end Go.Proofs.YtfjfjjcdlgdbcaaDoor
namespace Go.Proofs.YtfjfjjcdlgdbcaaDoor
open Go.RowKit
set_option linter.unusedSimpArgs false
set_option linter.unusedVariables false

def lineL (ss : List (List UInt8)) : List UInt8 := Lib.join ss [32] ++ [10]
def accW : List UInt8 := [97, 99, 99, 111, 117, 110, 116]
def slotW : List UInt8 := [115, 108, 111, 116]
def headSS (e : EntP) : List (List UInt8) := [accW, hexL e.addr, Lib.decDigits e.nonce, Lib.decDigits (valW e.bal), dotL (hexL e.code)]
def slotSS (h : List UInt8 × List UInt8) : List (List UInt8) := [slotW, hexL h.1, hexL h.2]
def slotsL (hs : List (List UInt8 × List UInt8)) : List UInt8 := (hs.map fun h => lineL (slotSS h)).flatten
def entL (e : EntP) : List UInt8 := lineL (headSS e) ++ slotsL e.slots
def dumpL (es : List EntP) : List UInt8 := (es.map entL).flatten
theorem slotsL_succ (hs : List (List UInt8 × List UInt8)) (k : Nat) (hk : k < hs.length) : slotsL (hs.take (k + 1)) = slotsL (hs.take k) ++ lineL (slotSS (hs.getD k ([], []))) := by
  have ht : hs.take (k + 1) = hs.take k ++ [hs.getD k ([], [])] := by
    rw [List.take_succ_eq_append_getElem hk, List.getD_eq_getElem?_getD, List.getElem?_eq_getElem hk]; rfl
  rw [ht]; simp [slotsL]
theorem dumpL_succ (es : List EntP) (k : Nat) (hk : k < es.length) : dumpL (es.take (k + 1)) = dumpL (es.take k) ++ entL (es.getD k zE) := by
  have ht : es.take (k + 1) = es.take k ++ [es.getD k zE] := by
    rw [List.take_succ_eq_append_getElem hk, List.getD_eq_getElem?_getD, List.getElem?_eq_getElem hk]; rfl
  rw [ht]; simp [dumpL]
theorem lineL_len (ss : List (List UInt8)) (h : ∀ s ∈ ss, s.length ≤ 100000) (hn : ss.length ≤ 10) : (lineL ss).length ≤ 1000011 := by
  have h1 := join_len32 ss 100000 h
  have h2 : ss.length * (100000 + 1) ≤ 10 * 100001 := Nat.mul_le_mul hn (by omega)
  simp only [lineL, List.length_append, List.length_cons, List.length_nil]
  omega
/-- the strings of an account's line are short -/
theorem headSS_len (e : EntP) (hf : e.Fit) (hc : e.code.length ≤ 10000) : ∀ s ∈ headSS e, s.length ≤ 100000 := by
  intro s hs
  simp only [headSS, List.mem_cons, List.not_mem_nil, or_false] at hs
  rcases hs with rfl | rfl | rfl | rfl | rfl
  · decide
  · rw [hexL_length, hf.ha]; omega
  · exact Nat.le_trans (dLen 19 _ (Nat.lt_of_lt_of_le hf.hn (by decide))) (by omega)
  · exact Nat.le_trans (dLen 77 _ (Nat.lt_of_lt_of_le (valW_lt 32 _ hf.hb) (by decide))) (by omega)
  · have := dotL_len (hexL e.code)
    rw [hexL_length] at this
    omega
theorem slotSS_len (h : List UInt8 × List UInt8) (hf : h.1.length = 32 ∧ h.2.length = 32) : ∀ s ∈ slotSS h, s.length ≤ 100000 := by
  intro s hs
  simp only [slotSS, List.mem_cons, List.not_mem_nil, or_false] at hs
  rcases hs with rfl | rfl | rfl
  · decide
  · rw [hexL_length, hf.1]; omega
  · rw [hexL_length, hf.2]; omega
/-- accounts that are few -/
structure FewE (es : List EntP) : Prop where
  n : es.length ≤ 200
  s : ∀ e ∈ es, e.slots.length ≤ 250 ∧ e.code.length ≤ 10000
theorem strs_cells {W : World} {g : Nat} {t : TypeId} {ss : List (List UInt8)} (hB : Blk W g t (ss.map fun s => Value.string (str s)).toArray) : ∀ (j : Nat) s, ss[j]? = some s → W.cell? ⟨g, 0 + j, none⟩ = some (.string (str s)) := by
  intro j s hj
  rw [Nat.zero_add, hB.cell, List.getElem?_toArray, List.getElem?_map, hj]
  rfl
theorem SH_next {W W' w : World} {g : Nat} {t : TypeId} {cs : Array Value} (h : Blk W g t cs ∧ Below w.heap.size w W) (hb : Below W.heap.size W W') : Blk W' g t cs ∧ Below w.heap.size w W' := ⟨h.1.below hb h.1.lt, thn h.2 hb⟩
theorem hk_keyA (h : List UInt8 × List UInt8) (j : Nat) (u : UInt8) (hu : h.1[j]? = some u) : (hk h).toArray[0 + j]? = some (bv u) := by rw [List.getElem?_toArray]; exact hk_key h j u hu
theorem hk_valA (h : List UInt8 × List UInt8) (h1 : h.1.length = 32) (j : Nat) (u : UInt8) (hu : h.2[j]? = some u) : (hk h).toArray[32 + j]? = some (bv u) := by rw [List.getElem?_toArray]; exact hk_val h h1 j u hu
def dprintV (es : List EntP) : Value := .tuple #[.string (str (if checkB es = true then dumpL es else [])), .int .i64 (chkV es)]

set_option maxRecDepth 100000 in
set_option maxHeartbeats 4000000 in
theorem DPrint_calls (A : Option Addr) (n c : Nat) (es : List EntP) (w : World) (h : RdE w A n c es) (hL : LaidW w) (hF : FewE es) :
    Calls Tryd.prog 28 #[.slice A n c] w fun e w' => e = .returned (dprintV es) ∧ Below w.heap.size w w' := by
  have hm : n ≤ 9223372036854775807 := by have := h.2.1; have := h.2.2.1; unfold maxLen at this; omega
  have HL := Lib.hid h.1
  have HF := Lib.hid hF
  have HLW := Lib.hid hL
  have H := Lib.hid h
  have hch := Lib.hid (check_calls A n c es w h)
  clear h hL hF
  cases hck : checkB es with
  | false =>
    have hv : chkV es = 240 := by unfold chkV; rw [hck]; rfl
    have hP : Hid (dprintV es = .tuple #[.string (str []), .int .i64 240]) := by unfold dprintV; rw [hck, hv]; trivial
    rw [hv] at hch
    clear hck hv
    go_enter Tryd.func28, Tryd.ntmps28
    go_wp2_with (go_at_call 44; refine hch.out.mono ?_; rintro e w1 ⟨rfl, hb1⟩)
    go_ret2
    exact ⟨by rw [hP.out]; rfl, hb1⟩
  | true =>
    have hv : chkV es = 0 := by unfold chkV; rw [hck]; rfl
    have hP : Hid (dprintV es = .tuple #[.string (str (dumpL es)), .int .i64 0]) := by unfold dprintV; rw [hck, hv]; trivial
    rw [hv] at hch
    clear hck hv
    go_enter Tryd.func28, Tryd.ntmps28
    go_wp2_with (go_at_call 44; refine hch.out.mono ?_; rintro e w1 ⟨rfl, hb1⟩)
    have hbld := Lib.hid (show Bld (w1.alloc (.cells #[.pointer none, .slice none 0 0] 83)) w1.heap.size w1.heap.size [] from Lib.fresh_isBuilder 83 5 w1)
    have hb2 := Lib.hid (al hb1 (.cells #[.pointer none, .slice none 0 0] 83))
    have hz1 := hb1.size
    clear hch hb1
    go_loopw [19] (fun i wr => ∃ k : Nat, k ≤ n ∧ i = .int .i64 k ∧ (dumpL (es.take k)).length ≤ k * 251004000 ∧ Bld wr w1.heap.size w1.heap.size (dumpL (es.take k)) ∧ Below w.heap.size w wr ∧ w1.heap.size < wr.heap.size) (fun i _ => n - (intOf i).toNat)
    case atStart => exact ⟨0, by omega, rfl, by simp [dumpL], by simpa [dumpL] using hbld.out, hb2.out, by simp⟩
    case round =>
      obtain ⟨k, hkn, rfl, hlen, hbl, hb, hgt⟩ := hrel
      obtain ⟨wo, rfl⟩ : ∃ wo : World, wo = wr := ⟨_, rfl⟩
      have HBL := Lib.hid hbl
      have HLEN := Lib.hid hlen
      clear hbl hlen
      by_cases hlt : k < n
      · have hR := Lib.hid (H.out.below hb)
        obtain ⟨g, o, B, m, d, S, l, q, rfl, hg, hc0, hE0⟩ := H.out.at_ hlt
        have hc := hc0.below hb
        have hE := hE0.below hb
        clear hc0
        have HLQ := Lib.hid (show l ≤ 9223372036854775807 by have := hE.slots.2.1; have := hE.slots.2.2.1; unfold maxLen at this; omega)
        have hmem : es.getD k zE ∈ es := List.mem_of_getElem? hg
        have HFX := Lib.hid (HF.out.s _ hmem)
        have HSU := Lib.hid (dumpL_succ es k (by rw [HL.out]; exact hlt))
        have hkk : k < 200 := by have := HF.out.n; have := HL.out; omega
        clear hg hmem
        generalize es.getD k zE = x at *
        have HT := Lib.hid (ek_aggL x (.slice B m d) (.slice S l q) hE.fit)
        have HT2 := Lib.hid (ek_aggS x (.slice B m d) (.slice S l q) hE.fit)
        have HC := Lib.hid hc
        have HO := Lib.hid (ek_one x B m d S l q)
        have hs55 := Lib.hid (ek_size x (.slice B m d) (.slice S l q) hE.fit)
        have HE := Lib.hid hE
        have HCD := Lib.hid (hE0.code)
        have HSL := Lib.hid (hE0.slots)
        have hi61 : Hid ((Tryd.prog.info? 61).map (·.size) = some (bvs x.bal).length) := by rw [bvs_length, hE.fit.hb]; exact Tryd.agg61d.2
        have HHS := Lib.hid (headSS_len x hE.fit HFX.out.2)
        have hN := Lib.hid (Blk.new wo 79 (ek x (.slice B m d) (.slice S l q)))
        have hal : Hid (Below wo.heap.size wo (wo.alloc (.cells (ek x (.slice B m d) (.slice S l q)) 79))) := al (Below.refl _ _) _
        have hbW := Lib.hid hb
        have hl0 := Lib.hid ((HBL.out.below hal.out).below (Below.refl _ _).drew)
        clear hc hE hb hE0
        go_wp2_with (first | (refine wpList_loadAgg rfl 79 (.tmp 21) rfl g (o + k * 55) rfl _ HT.out HC.out ?_) | (refine wpList_storeNew rfl rfl 79 (.tmp 8) _ rfl _ _ rfl (ek x (.slice B m d) (.slice S l q)) rfl HT2.out (by rw [hs55.out]; rfl) HO.out ?_))
        refine wp_region_held_drew (S := fun W => Blk W wo.heap.size 79 (ek x (.slice B m d) (.slice S l q)) ∧ Below w.heap.size w W) (by kernel_rfl) (⟨hN.out.drew, (thn hbW.out hal.out).drew⟩) (fun hHeld => ?_)
        refine wpAnyH_take (i := 0) (v := .func (.func 45) #[] #[.pointer (some ⟨w1.heap.size, 0, none⟩)]) rfl (by kernel_rfl) (by kernel_rfl) (by kernel_rfl) (fun _ _ _ h => h) (.inl ⟨by rfl, fun W hS => by go_simp⟩) hHeld ?_
        simp only [Act.put, List.setIfInBounds_toArray, List.set_cons_zero, List.set_cons_succ, List.getElem_toArray, List.getElem_cons_succ, List.getElem_cons_zero]
        refine wpAnyH_take (i := 1) (v := .pointer (some ⟨wo.heap.size, 0, none⟩)) rfl (by kernel_rfl) (by kernel_rfl) (by kernel_rfl) (fun _ _ _ h => h) (.inl ⟨by rfl, fun W hS => by go_simp⟩) hHeld ?_
        simp only [Act.put, List.setIfInBounds_toArray, List.set_cons_zero, List.set_cons_succ, List.getElem_toArray, List.getElem_cons_succ, List.getElem_cons_zero]
        refine wpAnyH_take (i := 2) (v := .slice (some ⟨wo.heap.size, 0, none⟩) 20 20) rfl (by kernel_rfl) (by kernel_rfl) (by kernel_rfl) (fun _ _ _ h => h) (.inl ⟨by rfl, fun W hS => by go_simp⟩) hHeld ?_
        simp only [Act.put, List.setIfInBounds_toArray, List.set_cons_zero, List.set_cons_succ, List.getElem_toArray, List.getElem_cons_succ, List.getElem_cons_zero]
        refine wpAnyH_take (i := 4) (v := .pointer (some ⟨wo.heap.size, 20, none⟩)) rfl (by kernel_rfl) (by kernel_rfl) (by kernel_rfl) (fun _ _ _ h => h) (.inl ⟨by rfl, fun W hS => by go_simp⟩) hHeld ?_
        simp only [Act.put, List.setIfInBounds_toArray, List.set_cons_zero, List.set_cons_succ, List.getElem_toArray, List.getElem_cons_succ, List.getElem_cons_zero]
        refine wpAnyH_take (i := 5) (v := .int .u64 (x.nonce : Int)) rfl (by kernel_rfl) (by kernel_rfl) (by kernel_rfl) (fun _ _ _ h => h) (.inl ⟨by rfl, fun W hS => by have h20 := (hS.1.cell 20).trans (ek_nonce x _ _ HE.out.fit); go_simp⟩) hHeld ?_
        simp only [Act.put, List.setIfInBounds_toArray, List.set_cons_zero, List.set_cons_succ, List.getElem_toArray, List.getElem_cons_succ, List.getElem_cons_zero]
        refine wpAnyH_take (i := 7) (v := .pointer (some ⟨wo.heap.size, 21, none⟩)) rfl (by kernel_rfl) (by kernel_rfl) (by kernel_rfl) (fun _ _ _ h => h) (.inl ⟨by rfl, fun W hS => by go_simp⟩) hHeld ?_
        simp only [Act.put, List.setIfInBounds_toArray, List.set_cons_zero, List.set_cons_succ, List.getElem_toArray, List.getElem_cons_succ, List.getElem_cons_zero]
        refine wpAnyH_take (i := 8) (v := .agg (bvs x.bal).toArray) rfl (by kernel_rfl) (by kernel_rfl) (by kernel_rfl) (fun _ _ _ h => h) (yieldsIf_load_mid (by rfl) 61 _ rfl wo.heap.size 21 rfl (bvs x.bal) _ (fun W hS => hS.1.bytes 21 x.bal (ek_bal x _ _ HE.out.fit)) Tryd.underlying61 rfl hi61.out) hHeld ?_
        simp only [Act.put, List.setIfInBounds_toArray, List.set_cons_zero, List.set_cons_succ, List.getElem_toArray, List.getElem_cons_succ, List.getElem_cons_zero]
        refine wpAnyH_take (i := 10) (v := .pointer (some ⟨wo.heap.size, 53, none⟩)) rfl (by kernel_rfl) (by kernel_rfl) (by kernel_rfl) (fun _ _ _ h => h) (.inl ⟨by rfl, fun W hS => by go_simp⟩) hHeld ?_
        simp only [Act.put, List.setIfInBounds_toArray, List.set_cons_zero, List.set_cons_succ, List.getElem_toArray, List.getElem_cons_succ, List.getElem_cons_zero]
        refine wpAnyH_take (i := 11) (v := .slice B m d) rfl (by kernel_rfl) (by kernel_rfl) (by kernel_rfl) (fun _ _ _ h => h) (.inl ⟨by rfl, fun W hS => by have h53 := (hS.1.cell 53).trans (ek_tail x _ _ HE.out.fit 0); go_simp⟩) hHeld ?_
        simp only [Act.put, List.setIfInBounds_toArray, List.set_cons_zero, List.set_cons_succ, List.getElem_toArray, List.getElem_cons_succ, List.getElem_cons_zero]
        refine wpAnyH_ready (rs := [3]) (by kernel_rfl) (by simp) ?_
        refine AllReadyH.cons rfl (fun K hK => ?_) AllReadyH.nil
        go_simp
        go_wp2_with (go_at_call 48; refine (Hex_calls _ _ _ x.addr _ ((hHeld.1.bytes 0 x.addr (ek_addr x _ _)).rd HE.out.fit.ha) (by omega)).mono ?_; rintro e w3 ⟨rfl, hbw3⟩)
        refine hK.out _ _ (SH_next hHeld hbw3) (fun hHeld => ?_)
        clear hK K
        have hlw3 := Lib.hid (hl0.out.below hbw3)
        clear hbw3
        refine wpAnyH_ready (rs := [6]) (by kernel_rfl) (by simp) ?_
        refine AllReadyH.cons rfl (fun K hK => ?_) AllReadyH.nil
        go_simp
        go_wp2_with (go_at_call 49; refine (FormatUint_calls x.nonce _ HE.out.fit.hn (HLW.out.below hHeld.2)).mono ?_; rintro e w6 ⟨rfl, hbw6⟩)
        refine hK.out _ _ (SH_next hHeld hbw6) (fun hHeld => ?_)
        clear hK K
        have hlw6 := Lib.hid (hlw3.out.below hbw6)
        clear hbw6
        refine wpAnyH_ready (rs := [9]) (by kernel_rfl) (by simp) ?_
        refine AllReadyH.cons rfl (fun K hK => ?_) AllReadyH.nil
        go_simp
        go_wp2_with (go_at_call 50; refine (decimal_calls x.bal _ HE.out.fit.hb).mono ?_; rintro e w9 ⟨rfl, hbw9⟩)
        refine hK.out _ _ (SH_next hHeld hbw9) (fun hHeld => ?_)
        clear hK K
        have hlw9 := Lib.hid (hlw6.out.below hbw9)
        clear hbw9
        refine wpAnyH_ready (rs := [12]) (by kernel_rfl) (by simp) ?_
        refine AllReadyH.cons rfl (fun K hK => ?_) AllReadyH.nil
        go_simp
        go_wp2_with (go_at_call 51; refine (digits51_calls B m d x.code _ (HCD.out.below hHeld.2) (by have := HFX.out.2; have := HCD.out.1; omega)).mono ?_; rintro e w12 ⟨rfl, hbw12⟩)
        refine hK.out _ _ (SH_next hHeld hbw12) (fun hHeld => ?_)
        clear hK K
        have hlw12 := Lib.hid (hlw9.out.below hbw12)
        clear hbw12
        refine wpAnyH_ready (rs := [13]) (by kernel_rfl) (by simp) ?_
        refine AllReadyH.cons rfl (fun K hK => ?_) AllReadyH.nil
        go_simp
        refine hK.out _ _ (SH_next hHeld (al (Below.refl _ _) _)) (fun hHeld => ?_)
        clear hK K
        have hl13 := Lib.hid (hlw12.out.below (al (Below.refl _ _) (.cells ((headSS x).map fun s => Value.string (str s)).toArray 9)))
        have hc13 := Lib.hid (strs_cells (Blk.new w12 9 ((headSS x).map fun s => Value.string (str s)).toArray))
        have hlc := Lib.hid (line_calls w12.heap.size 5 (headSS x) w1.heap.size w1.heap.size (dumpL (es.take k)) _ hl13.out hc13.out (by simp) (by simp [headSS]) (by simp [headSS]) HHS.out (by have := HLEN.out; omega) (by have := hHeld.1.lt; simp only [World.size_alloc] at this ⊢; omega))
        refine wpAnyH_ready (rs := [14]) (by kernel_rfl) (by simp) ?_
        refine AllReadyH.cons rfl (fun K hK => ?_) AllReadyH.nil
        go_simp
        go_wp2_with (go_at_call 45; refine hlc.out.mono ?_; rintro e w14 ⟨rfl, hl14, hb14, hk14⟩)
        refine hK.out _ _ (⟨hk14.blk hHeld.1 (by omega) (by decide), hHeld.2.trans (hb14.mono hz1)⟩) (fun hHeld => ?_)
        clear hK K
        refine wpAnyH_done (by kernel_rfl) ?_ _
        have HB14 := Lib.hid hHeld
        have HL14 := Lib.hid hl14
        have c54 := (hHeld.1.cell 54).trans (ek_tail x _ _ HE.out.fit 1)
        have hz14 := hHeld.1.lt
        have hlm := HLQ.out
        have hHH := lineL_len (headSS x) HHS.out (by simp [headSS])
        have HHH := Lib.hid hHH
        clear hHeld hl14 hHH
        generalize hG : dumpL (es.take k) = pre at *
        go_wp2
        go_loopw [41] (fun i wr => ∃ j : Nat, j ≤ l ∧ i = .int .i64 j ∧ (pre ++ lineL (headSS x) ++ slotsL (x.slots.take j)).length ≤ k * 251004000 + (1 + j) * 1000011 ∧ Bld wr w1.heap.size w1.heap.size (pre ++ lineL (headSS x) ++ slotsL (x.slots.take j)) ∧ Below w.heap.size w wr ∧ w1.heap.size < wr.heap.size) (fun i _ => l - (intOf i).toNat)
        case atStart => exact ⟨0, by omega, rfl, by have := HLEN.out; have := HHH.out; simp [slotsL]; omega, by rw [show slotsL (x.slots.take 0) = [] from rfl, List.append_nil]; exact HL14.out, HB14.out.2, by omega⟩
        case round =>
          obtain ⟨j, hj, rfl, hleni, hbli, hbi, hgti⟩ := hrel
          obtain ⟨wi, rfl⟩ : ∃ wi : World, wi = wr := ⟨_, rfl⟩
          have HBLI := Lib.hid hbli
          have HLENI := Lib.hid hleni
          clear hbli hleni
          by_cases hjl : j < l
          · obtain ⟨gs, os, rfl, hgj, hcj0⟩ := HSL.out.at_ hjl
            have hcj := hcj0.below hbi
            have hfy := HE.out.fit.hs _ (List.mem_of_getElem? hgj)
            have HSJ := Lib.hid (slotsL_succ x.slots j (by rw [HSL.out.1]; exact hjl))
            clear hgj hcj0
            generalize x.slots.getD j ([], []) = y at *
            have HT3 : Hid (AggT Tryd.prog 95 (hk y).length) := by rw [hk_length y hfy]; exact Tryd.agg95
            have HT4 : Hid (AggT Tryd.prog 95 (hk y).toArray.size) := by rw [List.size_toArray, hk_length y hfy]; exact Tryd.agg95
            have HC2 := Lib.hid hcj
            have HO2 := Lib.hid (hk_one y)
            have hs64 : Hid ((hk y).toArray.size = 64) := by rw [List.size_toArray, hk_length y hfy]; trivial
            have HY := Lib.hid hfy
            have hN2 := Lib.hid (Blk.new wi 95 (hk y).toArray)
            have hal2 : Hid (Below wi.heap.size wi (wi.alloc (.cells (hk y).toArray 95))) := al (Below.refl _ _) _
            have hbW2 := Lib.hid hbi
            have hl0 := Lib.hid ((HBLI.out.below hal2.out).below (Below.refl _ _).drew)
            have HHS2 := Lib.hid (slotSS_len y hfy)
            clear hcj hbi hfy
            go_wp2_with (first | (refine wpList_loadAgg rfl 95 (.tmp 43) rfl gs (os + j * 64) rfl _ HT3.out HC2.out ?_) | (refine wpList_storeNew rfl rfl 95 (.tmp 10) _ rfl _ _ rfl (hk y).toArray rfl HT4.out (by rw [hs64.out]; rfl) HO2.out ?_))
            refine wp_region_held_drew (S := fun W => Blk W wi.heap.size 95 (hk y).toArray ∧ Below w.heap.size w W) (by kernel_rfl) (⟨hN2.out.drew, (thn hbW2.out hal2.out).drew⟩) (fun hHeld => ?_)
            refine wpAnyH_take (i := 0) (v := .func (.func 45) #[] #[.pointer (some ⟨w1.heap.size, 0, none⟩)]) rfl (by kernel_rfl) (by kernel_rfl) (by kernel_rfl) (fun _ _ _ h => h) (.inl ⟨by rfl, fun W hS => by go_simp⟩) hHeld ?_
            simp only [Act.put, List.setIfInBounds_toArray, List.set_cons_zero, List.set_cons_succ, List.getElem_toArray, List.getElem_cons_succ, List.getElem_cons_zero]
            refine wpAnyH_take (i := 1) (v := .pointer (some ⟨wi.heap.size, 0, none⟩)) rfl (by kernel_rfl) (by kernel_rfl) (by kernel_rfl) (fun _ _ _ h => h) (.inl ⟨by rfl, fun W hS => by go_simp⟩) hHeld ?_
            simp only [Act.put, List.setIfInBounds_toArray, List.set_cons_zero, List.set_cons_succ, List.getElem_toArray, List.getElem_cons_succ, List.getElem_cons_zero]
            refine wpAnyH_take (i := 2) (v := .slice (some ⟨wi.heap.size, 0, none⟩) 32 32) rfl (by kernel_rfl) (by kernel_rfl) (by kernel_rfl) (fun _ _ _ h => h) (.inl ⟨by rfl, fun W hS => by go_simp⟩) hHeld ?_
            simp only [Act.put, List.setIfInBounds_toArray, List.set_cons_zero, List.set_cons_succ, List.getElem_toArray, List.getElem_cons_succ, List.getElem_cons_zero]
            refine wpAnyH_take (i := 4) (v := .pointer (some ⟨wi.heap.size, 32, none⟩)) rfl (by kernel_rfl) (by kernel_rfl) (by kernel_rfl) (fun _ _ _ h => h) (.inl ⟨by rfl, fun W hS => by go_simp⟩) hHeld ?_
            simp only [Act.put, List.setIfInBounds_toArray, List.set_cons_zero, List.set_cons_succ, List.getElem_toArray, List.getElem_cons_succ, List.getElem_cons_zero]
            refine wpAnyH_take (i := 5) (v := .slice (some ⟨wi.heap.size, 32, none⟩) 32 32) rfl (by kernel_rfl) (by kernel_rfl) (by kernel_rfl) (fun _ _ _ h => h) (.inl ⟨by rfl, fun W hS => by go_simp⟩) hHeld ?_
            simp only [Act.put, List.setIfInBounds_toArray, List.set_cons_zero, List.set_cons_succ, List.getElem_toArray, List.getElem_cons_succ, List.getElem_cons_zero]
            refine wpAnyH_ready (rs := [3]) (by kernel_rfl) (by simp) ?_
            refine AllReadyH.cons rfl (fun K hK => ?_) AllReadyH.nil
            go_simp
            go_wp2_with (go_at_call 48; refine (Hex_calls _ _ _ y.1 _ ((hHeld.1.bytes 0 y.1 (hk_keyA y)).rd HY.out.1) (by omega)).mono ?_; rintro e v3 ⟨rfl, hbv3⟩)
            refine hK.out _ _ (SH_next hHeld hbv3) (fun hHeld => ?_)
            clear hK K
            have hlv3 := Lib.hid (hl0.out.below hbv3)
            clear hbv3
            refine wpAnyH_ready (rs := [6]) (by kernel_rfl) (by simp) ?_
            refine AllReadyH.cons rfl (fun K hK => ?_) AllReadyH.nil
            go_simp
            go_wp2_with (go_at_call 48; refine (Hex_calls _ _ _ y.2 _ ((hHeld.1.bytes 32 y.2 (hk_valA y HY.out.1)).rd HY.out.2) (by omega)).mono ?_; rintro e v6 ⟨rfl, hbv6⟩)
            refine hK.out _ _ (SH_next hHeld hbv6) (fun hHeld => ?_)
            clear hK K
            have hlv6 := Lib.hid (hlv3.out.below hbv6)
            clear hbv6
            refine wpAnyH_ready (rs := [7]) (by kernel_rfl) (by simp) ?_
            refine AllReadyH.cons rfl (fun K hK => ?_) AllReadyH.nil
            go_simp
            refine hK.out _ _ (SH_next hHeld (al (Below.refl _ _) _)) (fun hHeld => ?_)
            clear hK K
            have hl13 := Lib.hid (hlv6.out.below (al (Below.refl _ _) (.cells ((slotSS y).map fun s => Value.string (str s)).toArray 9)))
            have hc13 := Lib.hid (strs_cells (Blk.new v6 9 ((slotSS y).map fun s => Value.string (str s)).toArray))
            have hlc := Lib.hid (line_calls v6.heap.size 3 (slotSS y) w1.heap.size w1.heap.size (pre ++ lineL (headSS x) ++ slotsL (x.slots.take j)) _ hl13.out hc13.out (by simp) (by simp [slotSS]) (by simp [slotSS]) HHS2.out (by have := HLENI.out; have := HFX.out.1; have := HSL.out.1; omega) (by have := hHeld.1.lt; simp only [World.size_alloc] at this ⊢; omega))
            refine wpAnyH_ready (rs := [8]) (by kernel_rfl) (by simp) ?_
            refine AllReadyH.cons rfl (fun K hK => ?_) AllReadyH.nil
            go_simp
            go_wp2_with (go_at_call 45; refine hlc.out.mono ?_; rintro e v8 ⟨rfl, hl8, hb8, hk8⟩)
            refine hK.out _ _ (⟨hk8.blk hHeld.1 (by omega) (by decide), hHeld.2.trans (hb8.mono hz1)⟩) (fun hHeld => ?_)
            clear hK K
            refine wpAnyH_done (by kernel_rfl) ?_ _
            have HL8 := Lib.hid hl8
            have HB8 := Lib.hid hHeld
            have hz8 := hHeld.1.lt
            have hyl := Lib.hid (lineL_len (slotSS y) HHS2.out (by simp [slotSS]))
            clear hHeld hl8
            go_wp2
            go_roundw
            case rel => exact ⟨j + 1, by omega, by go_num, by rw [HSJ.out, ← List.append_assoc, List.length_append]; have := HLENI.out; have := hyl.out; omega, by rw [HSJ.out, ← List.append_assoc]; exact HL8.out, HB8.out.2, by omega⟩
            case measure => simp [intOf]; omega
          · obtain rfl : j = l := by omega
            have hall : x.slots.take j = x.slots := List.take_of_length_le (by rw [HSL.out.1]; omega)
            rw [hall, List.append_assoc] at HBLI HLENI
            have hle2 : Hid ((dumpL (es.take (k + 1))).length ≤ (k + 1) * 251004000) := by
              rw [HSU.out]
              have := HLENI.out
              have h5 := HFX.out.1
              rw [HSL.out.1] at h5
              show (pre ++ (lineL (headSS x) ++ slotsL x.slots)).length ≤ _
              omega
            have hb2' : Hid (Bld wi w1.heap.size w1.heap.size (dumpL (es.take (k + 1)))) := by
              rw [HSU.out]
              exact HBLI.out
            have hbi' := Lib.hid hbi
            go_wp2
            go_roundw
            case rel => first
              | exact ⟨k + 1, by omega, by go_num, hle2.out, hb2'.out, hbi'.out, hgti⟩
              | exact ⟨_, _, ⟨k + 1, by omega, by go_num, hle2.out, hb2'.out, hbi'.out, hgti⟩, rfl, rfl⟩
            case measure => simp [intOf]; omega
      · obtain rfl : k = n := by omega
        have htk : es.take k = es := List.take_of_length_le (by rw [HL.out]; omega)
        rw [htk] at HBL
        have hfin := Lib.hid (Tryd.Builder_String_any w1.heap.size w1.heap.size (dumpL es) wo HBL.out (by omega))
        go_wp2_with (go_at_call 52; refine hfin.out.mono ?_; rintro e w2 ⟨rfl, hb3⟩)
        go_ret2
        exact ⟨by rw [hP.out]; rfl, hb.trans (hb3.mono hz1)⟩
end Go.Proofs.YtfjfjjcdlgdbcaaDoor
namespace Go.Proofs.YtfjfjjcdlgdbcaaDoor
open Go.RowKit
set_option linter.unusedSimpArgs false
set_option linter.unusedVariables false
attribute [local irreducible] wpQuiet

/-- accounts whose rows are no greater than memory -/
def BulkE (es : List EntP) : Prop := ∀ e ∈ es, e.slots.length ≤ 1048576 ∧ e.code.length ≤ 1048576
/-- accounts that 'few' lets in -/
def Few20 (es : List EntP) : Prop := es.length ≤ 20 ∧ ∀ e ∈ es, e.slots.length ≤ 250 ∧ e.code.length ≤ 5019
theorem Few20.few {es : List EntP} (h : Few20 es) : FewE es := ⟨by have := h.1; omega, fun e he => by have := h.2 e he; omega⟩
def FewPost (es : List EntP) (e : Ending) : Prop := ∃ b, e = .returned (.bool b) ∧ (b = true → Few20 es)

set_option maxRecDepth 100000 in
set_option maxHeartbeats 4000000 in
theorem few27_calls (A : Option Addr) (n c : Nat) (es : List EntP) (w : World) (h : RdE w A n c es) (hS : BulkE es) :
    Calls Tryd.prog 27 #[.slice A n c] w fun e w' => FewPost es e ∧ Below w.heap.size w w' := by
  have hm : n ≤ 9223372036854775807 := by have := h.2.1; have := h.2.2.1; unfold maxLen at this; omega
  have HL := Lib.hid h.1
  have HS := Lib.hid hS
  have H := Lib.hid h
  clear h hS
  go_enter Tryd.func27, Tryd.ntmps27
  go_wp2
  go_loopw [3, 4] (fun v i wr => ∃ k m : Nat, k ≤ n ∧ k ≤ 30 ∧ i = .int .i64 k ∧ v = .int .i64 m ∧ (m ≤ k * 2097152 ∧ ∀ j, j < k → (es.getD j zE).slots.length ≤ m ∧ (es.getD j zE).code.length / 20 ≤ m) ∧ Below w.heap.size w wr) (fun _ i _ => 30 - (intOf i).toNat)
  case atStart => exact ⟨0, 0, by omega, by omega, rfl, rfl, ⟨by omega, fun j hj => by omega⟩, Below.refl _ _⟩
  case round =>
    obtain ⟨k, m, hkn, hk30, rfl, rfl, ⟨hmk, hjm⟩, hb⟩ := hrel
    obtain ⟨wo, rfl⟩ : ∃ wo : World, wo = wr := ⟨_, rfl⟩
    have HJM := Lib.hid hjm
    have hfin : Hid (k = n → n ≤ 20 → m ≤ 250 → Few20 es) := fun h1 h2 h3 => ⟨by rw [HL.out]; omega, fun e he => by
      obtain ⟨j, hj, rfl⟩ := List.mem_iff_getElem.1 he
      have h4 := HJM.out j (by have := HL.out; omega)
      rw [List.getD_eq_getElem?_getD, List.getElem?_eq_getElem hj] at h4
      simp only [Option.getD_some] at h4
      omega⟩
    clear hjm
    by_cases hlt : k < n
    · by_cases h30 : k < 30
      · have hR := Lib.hid (H.out.below hb)
        obtain ⟨g, o, B, m', d, S, l, q, rfl, hg, hc, hE⟩ := hR.out.at_ hlt
        have hbk := HS.out _ (List.mem_of_getElem? hg)
        have hl := hE.slots.1
        have hcl := hE.code.1
        have hnew : Hid (∀ j, j < k + 1 → (es.getD j zE).slots.length ≤ m + l + m' / 20 ∧ (es.getD j zE).code.length / 20 ≤ m + l + m' / 20) := fun j hj => by
          by_cases hjk : j < k
          · have := HJM.out j hjk
            omega
          · obtain rfl : j = k := by omega
            omega
        have h53 := hc 53 _ (by rw [Array.getElem?_toList]; exact ek_tail _ _ _ hE.fit 0)
        have h54 := hc 54 _ (by rw [Array.getElem?_toList]; exact ek_tail _ _ _ hE.fit 1)
        have hkI : (0 : Int) ≤ (k : Int) ∧ (k : Int) < (n : Int) := by omega
        have htn : ((k : Int)).toNat = k := by omega
        have hq0 : ((m' : Int)).tdiv 20 = ((m' / 20 : Nat) : Int) := rfl
        have hlI : m ≤ k * 2097152 ∧ l ≤ 1048576 ∧ m' ≤ 1048576 := by omega
        clear hg hc hE hbk hl hcl
        go_wp2
        go_quiet (fail)
        go_wp2
        go_roundw
        case rel => exact ⟨k + 1, m + l + m' / 20, by omega, by omega, by go_num, by go_num, ⟨by omega, hnew.out⟩, hb.trans (drawn_below' _ _ _ (by have := hb.size; omega))⟩
        case measure => simp [intOf]; omega
      · obtain rfl : k = 30 := by omega
        have hn20 : ¬ (n : Int) ≤ 20 := by omega
        have hn30 : (30 : Int) < (n : Int) := by omega
        go_wp2
        go_ret
        exact ⟨⟨_, rfl, fun hh => by first | (cases hh; done) | (have := of_decide_eq_true hh; omega) | (simp at hh; omega)⟩, hb⟩
    · obtain rfl : k = n := by omega
      by_cases h20 : k ≤ 20
      · by_cases h250 : m ≤ 250
        · have hI : (k : Int) ≤ 20 ∧ (m : Int) ≤ 250 := by omega
          go_wp2
          go_ret
          exact ⟨⟨_, rfl, fun _ => by first | exact hfin.out rfl h20 h250 | exact hfin.out trivial h20 h250⟩, hb⟩
        · have hI : (k : Int) ≤ 20 ∧ (250 : Int) < (m : Int) := by omega
          go_wp2
          go_ret
          exact ⟨⟨_, rfl, fun hh => by first | (cases hh; done) | (have := of_decide_eq_true hh; omega) | (simp at hh; omega)⟩, hb⟩
      · have hI : (20 : Int) < (k : Int) := by omega
        go_wp2
        go_ret
        exact ⟨⟨_, rfl, fun hh => by first | (cases hh; done) | (have := of_decide_eq_true hh; omega) | (simp at hh; omega)⟩, hb⟩
end Go.Proofs.YtfjfjjcdlgdbcaaDoor
namespace Go.Proofs.YtfjfjjcdlgdbcaaDoor
open Go.RowKit
set_option linter.unusedSimpArgs false
set_option linter.unusedVariables false
attribute [local irreducible] wpQuiet

theorem drop_getD (xs : List UInt8) (k : Nat) (hk : k < xs.length) : xs.drop k = xs.getD k 0 :: xs.drop (k + 1) := by
  rw [List.drop_eq_getElem_cons hk, List.getD_eq_getElem?_getD, List.getElem?_eq_getElem hk]; rfl
theorem cmp_step (xs ys : List UInt8) (k : Nat) (h1 : k < xs.length) (h2 : k < ys.length) (h : Lib.compareBytes (xs.drop k) (ys.drop k) = Lib.compareBytes xs ys) :
    Lib.compareBytes xs ys = if (xs.getD k 0).toNat < (ys.getD k 0).toNat then -1 else if (ys.getD k 0).toNat < (xs.getD k 0).toNat then 1 else Lib.compareBytes (xs.drop (k + 1)) (ys.drop (k + 1)) := by
  rw [← h, drop_getD xs k h1, drop_getD ys k h2, Lib.compareBytes]
  simp only [UInt8.lt_iff_toNat_lt]

set_option maxRecDepth 100000 in
set_option maxHeartbeats 4000000 in
theorem Bytes84_calls (A B : Option Addr) (n c m d : Nat) (xs ys : List UInt8) (w : World) (h : RdB w A n c xs) (h' : RdB w B m d ys) :
    Calls Tryd.prog 84 #[.slice A n c, .slice B m d] w fun e w' => e = .returned (.int .i64 (Lib.compareBytes xs ys)) ∧ Below w.heap.size w w' := by
  have hm : n ≤ 9223372036854775807 ∧ m ≤ 9223372036854775807 := by have := h.2.1; have := h.2.2.1; have := h'.2.1; have := h'.2.2.1; unfold maxLen at *; omega
  have HX := Lib.hid h
  have HY := Lib.hid h'
  clear h h'
  go_enter Tryd.func84, Tryd.ntmps84
  go_wp2
  go_loopw [5] (fun i wr => ∃ k : Nat, k ≤ n ∧ k ≤ m ∧ i = .int .i64 k ∧ Lib.compareBytes (xs.drop k) (ys.drop k) = Lib.compareBytes xs ys ∧ Below w.heap.size w wr) (fun i _ => n - (intOf i).toNat)
  case atStart => exact ⟨0, by omega, by omega, rfl, rfl, Below.refl _ _⟩
  case round =>
    obtain ⟨k, hkn, hkm, rfl, hcmp, hb⟩ := hrel
    obtain ⟨wo, rfl⟩ : ∃ wo : World, wo = wr := ⟨_, rfl⟩
    have HC := Lib.hid hcmp
    clear hcmp
    have hsz := hb.size
    by_cases hlt : k < n
    · by_cases hlm : k < m
      · obtain ⟨ad, rfl, hx⟩ := (HX.out.below hb).at_ hlt
        obtain ⟨bd, rfl, hy⟩ := (HY.out.below hb).at_ hlm
        have hst := Lib.hid (cmp_step xs ys k (by rw [HX.out.1]; exact hlt) (by rw [HY.out.1]; exact hlm) HC.out)
        have hal := (xs.getD k 0).toNat_lt
        have hbl := (ys.getD k 0).toNat_lt
        generalize (xs.getD k 0).toNat = a at *
        generalize (ys.getD k 0).toNat = b at *
        have hkI : (0 : Int) ≤ (k : Int) ∧ (k : Int) < (n : Int) ∧ (k : Int) < (m : Int) := by omega
        have htn : ((k : Int)).toNat = k := by omega
        rcases Nat.lt_trichotomy a b with h3 | h3 | h3
        · have hR : Hid (Lib.compareBytes xs ys = -1) := by rw [hst.out, if_pos h3]; trivial
          have h3I : (a : Int) < (b : Int) := by omega
          have h3n : ¬ (a : Int) = (b : Int) := by omega
          clear h3
          go_wp2
          go_quiet (fail)
          go_wp2
          go_quiet (fail)
          go_wp2
          go_ret
          exact ⟨by rw [hR.out]; rfl, (hb.trans (drawn_below' _ _ _ (by omega))).trans (drawn_below' _ _ _ (by simpa using hsz))⟩
        · subst h3
          have hR := Lib.hid (hst.out.trans (by rw [if_neg (by omega), if_neg (by omega)]))
          go_wp2
          go_quiet (fail)
          go_wp2
          go_roundw
          case rel => exact ⟨k + 1, by omega, by omega, by go_num, hR.out.symm, hb.trans (drawn_below' _ _ _ (by omega))⟩
          case measure => simp [intOf]; omega
        · have hR : Hid (Lib.compareBytes xs ys = 1) := by rw [hst.out, if_neg (by omega), if_pos h3]; trivial
          have h3I : (b : Int) < (a : Int) := by omega
          have h3n : ¬ (a : Int) = (b : Int) := by omega
          have h3m : (b : Int) ≤ (a : Int) := by omega
          clear h3
          go_wp2
          go_quiet (fail)
          go_wp2
          go_quiet (fail)
          go_wp2
          go_ret
          exact ⟨by rw [hR.out]; rfl, (hb.trans (drawn_below' _ _ _ (by omega))).trans (drawn_below' _ _ _ (by simpa using hsz))⟩
      · obtain rfl : k = m := by omega
        have hR : Hid (Lib.compareBytes xs ys = 1) := by
          rw [← HC.out, drop_getD xs k (by rw [HX.out.1]; exact hlt), show ys.drop k = [] from List.drop_of_length_le (by rw [HY.out.1]; omega)]; trivial
        have hI : (k : Int) < (n : Int) := by omega
        have hI2 : decide (n < k) = false := decide_eq_false (by omega)
        have hI3 : decide (k < n) = true := decide_eq_true (by omega)
        go_wp2
        go_ret
        exact ⟨by rw [hR.out]; rfl, hb⟩
    · obtain rfl : k = n := by omega
      by_cases hlm : k < m
      · have hR : Hid (Lib.compareBytes xs ys = -1) := by
          rw [← HC.out, drop_getD ys k (by rw [HY.out.1]; exact hlm), show xs.drop k = [] from List.drop_of_length_le (by rw [HX.out.1]; omega)]; trivial
        have hI : (k : Int) < (m : Int) := by omega
        have hI3 : decide (k < m) = true := decide_eq_true (by omega)
        go_wp2
        go_ret
        exact ⟨by rw [hR.out]; rfl, hb⟩
      · obtain rfl : k = m := by omega
        have hR : Hid (Lib.compareBytes xs ys = 0) := by
          rw [← HC.out, show xs.drop k = [] from List.drop_of_length_le (by rw [HX.out.1]; omega), show ys.drop k = [] from List.drop_of_length_le (by rw [HY.out.1]; omega)]; trivial
        go_wp2
        go_ret
        exact ⟨by rw [hR.out]; rfl, hb⟩
end Go.Proofs.YtfjfjjcdlgdbcaaDoor
namespace Go.Proofs.YtfjfjjcdlgdbcaaDoor
open Go.RowKit
set_option linter.unusedSimpArgs false
set_option linter.unusedVariables false

theorem lit_cat (a b : List UInt8) : (⟨a.toArray⟩ : ByteArray) ++ str b = str (a ++ b) := str_cat a b
theorem cat_lit (a b : List UInt8) : str b ++ (⟨a.toArray⟩ : ByteArray) = str (b ++ a) := str_cat b a

set_option maxRecDepth 100000 in
set_option maxHeartbeats 4000000 in
theorem slot55_calls (y : List UInt8 × List UInt8) (w : World) (hf : y.1.length = 32 ∧ y.2.length = 32) :
    Calls Tryd.prog 55 #[.agg (hk y).toArray] w fun e w' => e = .returned (.string (str (Lib.join (slotSS y) [32]))) ∧ Below w.heap.size w w' := by
  have HY := Lib.hid hf
  have hN2 := Lib.hid (Blk.new w 95 (hk y).toArray)
  have hl1 : (hexL y.1).length = 64 := by rw [hexL_length, hf.1]
  have hl2 : (hexL y.2).length = 64 := by rw [hexL_length, hf.2]
  obtain ⟨s1, hs1⟩ : ∃ s, s = [115, 108, 111, 116, 32] ++ hexL y.1 := ⟨_, rfl⟩
  obtain ⟨s2, hs2⟩ : ∃ s, s = s1 ++ [32] := ⟨_, rfl⟩
  obtain ⟨s3, hs3⟩ : ∃ s, s = s2 ++ hexL y.2 := ⟨_, rfl⟩
  have HR := Lib.hid (show Lib.join (slotSS y) [32] = s3 by rw [hs3, hs2, hs1]; simp [slotSS, slotW, Lib.join_cons, Lib.joinTail])
  have q1 := Lib.hid ((str_cat [115, 108, 111, 116, 32] (hexL y.1)).trans (congrArg str hs1.symm))
  have q2 := Lib.hid ((str_cat s1 [32]).trans (congrArg str hs2.symm))
  have q3 := Lib.hid ((str_cat s2 (hexL y.2)).trans (congrArg str hs3.symm))
  have z1 := Lib.hid (show (str s1).size = 69 by rw [str_size, hs1]; simp [hl1])
  have z2 := Lib.hid (show (str s2).size = 70 by rw [str_size, hs2, hs1]; simp [hl1])
  have z64 := Lib.hid (show (str (hexL y.2)).size = 64 from hl2)
  clear hs1 hs2 hs3
  have e1 : (⟨#[115, 108, 111, 116, 32]⟩ : ByteArray) = str [115, 108, 111, 116, 32] := rfl
  have e2 : (⟨#[32]⟩ : ByteArray) = str [32] := rfl
  clear hf
  go_enter Tryd.func55, Tryd.ntmps55
  rw [e1, e2]
  go_wp2
  refine wp_region_held_drew (S := fun W => Blk W w.heap.size 95 (hk y).toArray ∧ Below w.heap.size w W) (by kernel_rfl) (⟨hN2.out.drew, (al (Below.refl _ _) _).drew⟩) (fun hHeld => ?_)
  refine wpAnyH_take (i := 0) (v := .pointer (some ⟨w.heap.size, 0, none⟩)) rfl (by kernel_rfl) (by kernel_rfl) (by kernel_rfl) (fun _ _ _ h => h) (.inl ⟨by rfl, fun W hS => by go_simp⟩) hHeld ?_
  simp only [Act.put, List.setIfInBounds_toArray, List.set_cons_zero, List.set_cons_succ, List.getElem_toArray, List.getElem_cons_succ, List.getElem_cons_zero]
  refine wpAnyH_take (i := 1) (v := .slice (some ⟨w.heap.size, 0, none⟩) 32 32) rfl (by kernel_rfl) (by kernel_rfl) (by kernel_rfl) (fun _ _ _ h => h) (.inl ⟨by rfl, fun W hS => by go_simp⟩) hHeld ?_
  simp only [Act.put, List.setIfInBounds_toArray, List.set_cons_zero, List.set_cons_succ, List.getElem_toArray, List.getElem_cons_succ, List.getElem_cons_zero]
  refine wpAnyH_take (i := 5) (v := .pointer (some ⟨w.heap.size, 32, none⟩)) rfl (by kernel_rfl) (by kernel_rfl) (by kernel_rfl) (fun _ _ _ h => h) (.inl ⟨by rfl, fun W hS => by go_simp⟩) hHeld ?_
  simp only [Act.put, List.setIfInBounds_toArray, List.set_cons_zero, List.set_cons_succ, List.getElem_toArray, List.getElem_cons_succ, List.getElem_cons_zero]
  refine wpAnyH_take (i := 6) (v := .slice (some ⟨w.heap.size, 32, none⟩) 32 32) rfl (by kernel_rfl) (by kernel_rfl) (by kernel_rfl) (fun _ _ _ h => h) (.inl ⟨by rfl, fun W hS => by go_simp⟩) hHeld ?_
  simp only [Act.put, List.setIfInBounds_toArray, List.set_cons_zero, List.set_cons_succ, List.getElem_toArray, List.getElem_cons_succ, List.getElem_cons_zero]
  refine wpAnyH_ready (rs := [2]) (by kernel_rfl) (by simp) ?_
  refine AllReadyH.cons rfl (fun K hK => ?_) AllReadyH.nil
  go_simp
  go_wp2_with (go_at_call 68; refine (Hex20_calls _ _ _ y.1 _ ((hHeld.1.bytes 0 y.1 (hk_keyA y)).rd HY.out.1) (by omega)).mono ?_; rintro e v3 ⟨rfl, hbv3⟩)
  refine hK.out _ _ (SH_next hHeld hbv3) (fun hHeld => ?_)
  clear hK K
  clear hbv3
  refine wpAnyH_take (i := 3) (v := .string (str s1)) rfl (by kernel_rfl) (by kernel_rfl) (by kernel_rfl) (fun _ _ _ h => h) (.inl ⟨by rfl, fun W hS => by have h1 := q1.out; have h2 : (str [115, 108, 111, 116, 32]).size = 5 := rfl; have h3 : (str (hexL y.1)).size = 64 := hl1; go_simp⟩) hHeld ?_
  simp only [Act.put, List.setIfInBounds_toArray, List.set_cons_zero, List.set_cons_succ, List.getElem_toArray, List.getElem_cons_succ, List.getElem_cons_zero]
  refine wpAnyH_take (i := 4) (v := .string (str s2)) rfl (by kernel_rfl) (by kernel_rfl) (by kernel_rfl) (fun _ _ _ h => h) (.inl ⟨by rfl, fun W hS => by have h1 := q2.out; have h2 := z1.out; have h3 : (str [32]).size = 1 := rfl; go_simp⟩) hHeld ?_
  simp only [Act.put, List.setIfInBounds_toArray, List.set_cons_zero, List.set_cons_succ, List.getElem_toArray, List.getElem_cons_succ, List.getElem_cons_zero]
  refine wpAnyH_ready (rs := [7]) (by kernel_rfl) (by simp) ?_
  refine AllReadyH.cons rfl (fun K hK => ?_) AllReadyH.nil
  go_simp
  go_wp2_with (go_at_call 68; refine (Hex20_calls _ _ _ y.2 _ ((hHeld.1.bytes 32 y.2 (hk_valA y HY.out.1)).rd HY.out.2) (by omega)).mono ?_; rintro e v8 ⟨rfl, hbv8⟩)
  refine hK.out _ _ (SH_next hHeld hbv8) (fun hHeld => ?_)
  clear hK K
  clear hbv8
  refine wpAnyH_take (i := 8) (v := .string (str s3)) rfl (by kernel_rfl) (by kernel_rfl) (by kernel_rfl) (fun _ _ _ h => h) (.inl ⟨by rfl, fun W hS => by have h1 := q3.out; have h2 := z2.out; have h3 := z64.out; go_simp⟩) hHeld ?_
  simp only [Act.put, List.setIfInBounds_toArray, List.set_cons_zero, List.set_cons_succ, List.getElem_toArray, List.getElem_cons_succ, List.getElem_cons_zero]
  refine wpAnyH_ready (rs := [9]) (by kernel_rfl) (by simp) ?_
  refine AllReadyH.cons rfl (fun K hK => ?_) AllReadyH.nil
  go_simp
  refine hK.out _ _ (hHeld) (fun hHeld => ?_)
  clear hK K
  refine wpAnyH_done (by kernel_rfl) ?_ _
  have HH := Lib.hid hHeld.2
  clear hHeld
  go_wp2
  go_ret
  exact ⟨by rw [HR.out]; rfl, HH.out⟩
end Go.Proofs.YtfjfjjcdlgdbcaaDoor
namespace Go.Proofs.YtfjfjjcdlgdbcaaDoor
open Go.RowKit
set_option linter.unusedSimpArgs false
set_option linter.unusedVariables false

/-- a number's low bytes, the greatest first -/
def beL (n : Nat) : Nat → List UInt8
  | 0 => []
  | k + 1 => UInt8.ofNat (n / 256 ^ k % 256) :: beL n k
theorem beL_length (n : Nat) : ∀ k, (beL n k).length = k
  | 0 => rfl
  | k + 1 => by rw [beL, List.length_cons, beL_length n k]
theorem valW_foldl : ∀ (l : List UInt8) (n : Nat), l.foldl (fun n b => n * 256 + b.toNat) n = n * 256 ^ l.length + valW l
  | [], n => by simp [valW]
  | b :: l, n => by
    have h1 := valW_foldl l (n * 256 + b.toNat)
    have h2 := valW_foldl l b.toNat
    have h3 : valW (b :: l) = l.foldl (fun n b => n * 256 + b.toNat) b.toNat := by simp [valW]
    rw [List.foldl_cons, h1, h3, h2, List.length_cons, Nat.pow_succ, Nat.add_mul, Nat.add_assoc, Nat.mul_assoc, Nat.mul_comm 256]
theorem valW_app (l a : List UInt8) : valW (a ++ l) = valW a * 256 ^ l.length + valW l := by
  rw [show valW (a ++ l) = l.foldl (fun n b => n * 256 + b.toNat) (valW a) by simp [valW], valW_foldl]
theorem valW_beL (n : Nat) : ∀ k, valW (beL n k) = n % 256 ^ k
  | 0 => by simp [beL, valW, Nat.mod_one]
  | k + 1 => by
    have h1 := valW_app (beL n k) [UInt8.ofNat (n / 256 ^ k % 256)]
    have h2 : (UInt8.ofNat (n / 256 ^ k % 256)).toNat = n / 256 ^ k % 256 := toNat_ofNat' _ (Nat.mod_lt _ (by decide))
    have h3 : valW [UInt8.ofNat (n / 256 ^ k % 256)] = n / 256 ^ k % 256 := by rw [← h2]; simp [valW]
    rw [beL, show UInt8.ofNat (n / 256 ^ k % 256) :: beL n k = [UInt8.ofNat (n / 256 ^ k % 256)] ++ beL n k from rfl, h1, h3, valW_beL n k, beL_length, Nat.pow_succ, Nat.mod_mul]
    rw [Nat.mul_comm, Nat.add_comm]
theorem valW_zeros (j : Nat) (l : List UInt8) : valW (List.replicate j 0 ++ l) = valW l := by
  rw [valW_app, (valW_zero j (List.replicate j 0) (by simp)).2 rfl]; simp
/-- the row behind k rounds -/
def wordR (n k : Nat) : List UInt8 := List.replicate (32 - k) 0 ++ beL n k
theorem wordR_length (n k : Nat) (hk : k ≤ 32) : (wordR n k).length = 32 := by
  simp [wordR, beL_length]; omega
theorem wordR_val (n : Nat) (hn : n < 18446744073709551616) : valW (wordR n 8) = n := by
  rw [wordR, valW_zeros, valW_beL, Nat.mod_eq_of_lt (by simpa using hn)]
theorem wordR_set (n k : Nat) (hk : k < 32) : (wordR n k).set (31 - k) (UInt8.ofNat (n / 256 ^ k % 256)) = wordR n (k + 1) := by
  have e : List.replicate (32 - k) (0 : UInt8) = List.replicate (31 - k) 0 ++ [0] := by
    rw [show 32 - k = 31 - k + 1 by omega, List.replicate_succ']
  rw [wordR, wordR, beL, e, List.append_assoc, List.set_append_right _ _ (by simp), List.length_replicate, Nat.sub_self, show 32 - (k + 1) = 31 - k by omega]
  rfl
theorem wordR_zero (n : Nat) : wordR n 0 = z32w := by simp [wordR, beL, z32w]

set_option maxRecDepth 100000 in
set_option maxHeartbeats 4000000 in
theorem word86_calls (n : Nat) (w : World) (hn : n < 18446744073709551616) :
    Calls Tryd.prog 86 #[.int .u64 (n : Int)] w fun e w' => e = .returned (.agg (bvs (wordR n 8)).toArray) ∧ Below w.heap.size w w' := by
  have T0 : Hid (AggT Tryd.prog 61 (bvs (wordR n 8)).length) := by rw [bvs_length, wordR_length _ _ (by omega)]; exact Tryd.agg61d
  have T1 : Hid (AggT Tryd.prog 61 (bvs (wordR n 8)).toArray.size) := by rw [List.size_toArray, bvs_length, wordR_length _ _ (by omega)]; exact Tryd.agg61d
  have N0 := Lib.hid (Blk.new w 61 (bvs z32w).toArray)
  have N1 := Lib.hid (Blk.new (w.alloc (.cells (bvs z32w).toArray 61)) 61 (bvs z32w).toArray)
  rw [z32lit, World.size_alloc] at N1
  rw [z32lit] at N0
  go_enter Tryd.func86, Tryd.ntmps86
  go_wp2
  go_loopw [4] (fun i wr => ∃ k : Nat, k ≤ 8 ∧ i = .int .i64 k ∧ Blk wr (w.heap.size + 1) 61 (bvs (wordR n k)).toArray ∧ (∃ cs, cs.size = 32 ∧ Blk wr w.heap.size 61 cs) ∧ Below w.heap.size w wr) (fun i _ => 8 - (intOf i).toNat)
  case atStart => exact ⟨0, by omega, rfl, by rw [wordR_zero, z32lit]; exact N1.out, ⟨_, rfl, N0.out.alloc _⟩, al (al (Below.refl _ _) _) _⟩
  case round =>
    obtain ⟨k, hk, rfl, hB, ⟨cs, hcs, hR⟩, hb⟩ := hrel
    obtain ⟨wo, rfl⟩ : ∃ wo : World, wo = wr := ⟨_, rfl⟩
    have HB := Lib.hid hB
    have HR := Lib.hid hR
    have hbW := Lib.hid hb
    by_cases hlt : k < 8
    · have HST := Lib.hid (wordR_set n k (by omega))
      have hfz := hB.frozen (31 - k)
      obtain ⟨u0, hcell⟩ : ∃ u, wo.cell? ⟨w.heap.size + 1, 31 - k, none⟩ = some u := ⟨_, (hB.cell (31 - k)).trans (by rw [List.getElem?_toArray]; exact List.getElem?_eq_getElem (by rw [bvs_length, wordR_length _ _ (by omega)]; omega))⟩
      clear hB hR
      have hset : Hid (∀ v, v = bv (UInt8.ofNat (n / 256 ^ k % 256)) → Blk (wo.setCell ⟨w.heap.size + 1, 31 - k, none⟩ v) (w.heap.size + 1) 61 (bvs (wordR n (k + 1))).toArray) := fun v hv => by
        have h1 := HB.out.set_ (31 - k) (bv (UInt8.ofNat (n / 256 ^ k % 256)))
        rw [bvs_set, HST.out] at h1
        rw [hv]; exact h1
      have hres : Hid (∀ v, Blk (wo.setCell ⟨w.heap.size + 1, 31 - k, none⟩ v) w.heap.size 61 cs) := fun v => HR.out.far (p := ⟨w.heap.size + 1, 31 - k, none⟩) (by show w.heap.size ≠ w.heap.size + 1; omega) _
      obtain rfl | rfl | rfl | rfl | rfl | rfl | rfl | rfl : k = 0 ∨ k = 1 ∨ k = 2 ∨ k = 3 ∨ k = 4 ∨ k = 5 ∨ k = 6 ∨ k = 7 := by omega
      all_goals
        (try simp only [Nat.sub_zero, Nat.reduceSub, Nat.reduceAdd, Nat.reducePow, Nat.div_one] at hfz hcell hset hres)
        go_wp2
        go_roundw
        case rel => exact ⟨_, by decide, by rfl, hset.out _ (by rw [byte_ofNat _ (Nat.mod_lt _ (by decide))]; first | (simp; done) | (simp; omega)), ⟨cs, hcs, hres.out _⟩, hbW.out.setCell (by show w.heap.size ≤ w.heap.size + 1; omega) _⟩
        case measure => simp [intOf]
    · obtain rfl : k = 8 := by omega
      have hL := Lib.hid (cellsAt_blk hB)
      have HR0 := Lib.hid hR
      have hRM := Lib.hid (hR.room 0 32 (by rw [hcs]; decide))
      have hO : Hid (AllOne (bvs (wordR n 8)).toArray.toList) := oneCell_bvs _
      clear hB hR
      have E32 : Hid ((bvs (wordR n 8)).toArray.size = 32) := by rw [List.size_toArray, bvs_length, wordR_length _ _ (by omega)]; trivial
      have hRM2 : Hid (RoomAt wo w.heap.size 0 (bvs (wordR n 8)).toArray.size) := by
        rw [E32.out]; exact hRM.out
      go_wp2_with (first | (refine wpList_loadAgg rfl 61 (.tmp 3) rfl _ 0 rfl (bvs (wordR n 8)) T0.out hL.out ?_) | (refine wpList_storeAgg rfl rfl 61 (.tmp 2) (.tmp 17) rfl w.heap.size 0 rfl (bvs (wordR n 8)).toArray rfl T1.out hRM2.out hO.out ?_))
      have hfb := (HR0.out.setCells (bvs (wordR n 8)).toArray.toList 0 (by rw [Array.length_toList, E32.out, hcs]; omega))
      rw [ovw_all _ _ (by rw [Array.length_toList, E32.out, hcs])] at hfb
      exact bodyPost_ret (results_agg1 rfl _ _ w.heap.size (bvs (wordR n 8)).toArray rfl T1.out (cellsAt_blk hfb)) rfl ⟨rfl, below_setCells hb _ _ _ (Nat.le_refl _)⟩
end Go.Proofs.YtfjfjjcdlgdbcaaDoor
