/- the texts A6, A7, E0, E1, EShelf of this proof, one behind the other -/
import Derived.Test.YtfjfjjcdlgdbcaaDoorQ0
import Derived.Laws.BytesArg
import Derived.Deep.DeepCutAuto
import Derived.Deep.QuietTactic
import Derived.BigQuiet
import Derived.Deep.RegionLaw
import Derived.Deep.RegionHeld3
import Derived.Shelf.Strings.Builder1
import Derived.Shelf.Strings.Builder2
import Derived.Shelf.Strings.OnBuilder
import Derived.Shelf.Small.Utf8
import Derived.Shelf.Small.Strs
import Derived.Shelf.Strconv.Atoi
import Derived.Shelf.Strconv.Itoa0
import Derived.Shelf.Strconv.Itoa1
import Derived.Shelf.LaysM
import Derived.Shelf.Strconv.Itoa2
import Derived.Shelf.Strconv.Itoa3
import Derived.Shelf.Strconv.AtoiErrFast
import Derived.Shelf.Strconv.ParseIntEmpty
import Derived.Shelf.Strconv.AtoiFail
import Derived.Shelf.Strconv.Clone
import Derived.Shelf.Strconv.SyntaxError
import Derived.Shelf.LaysC
import Derived.Shelf.Strconv.ToError
import Derived.Shelf.Strconv.AtoiErr
import Derived.Shelf.Strconv.Lower
import Derived.Shelf.Strconv.ParseUint10
import Derived.Shelf.Strconv.ParseUint10Empty
import Derived.Shelf.Strconv.ParseUint10Any
import Derived.Shelf.Strconv.ParseInt10
import Derived.Shelf.Strconv.AtoiLong
import Derived.Shelf.Strconv.AtoiInnerAll
import Derived.Shelf.Strconv.RangeError
import Derived.Shelf.Strconv.ToErrorRange
import Derived.Shelf.Strconv.AtoiAll
import Derived.Shelf.Strconv.ErrVarAll
import Derived.Shelf.Strconv.ParseUintEmpty
import Derived.Shelf.Strconv.ParseUint10b64
import Derived.Shelf.Strconv.ParseUint10b32
import Derived.Shelf.Strconv.ParseUint10b16
import Derived.Shelf.Strconv.ParseUint10b8
import Derived.Shelf.Strconv.ParseUint10At
import Derived.Shelf.Strconv.ParseInt10At64
import Derived.Shelf.Strconv.ParseInt10At32
import Derived.Shelf.Strconv.ParseInt10At16
import Derived.Shelf.Strconv.ParseInt10At8
import Derived.Shelf.Strconv.ParseInt10All
import Derived.Ground.MpProg
import Derived.Shelf.Pu.ParseUintPublic10
import Derived.Shelf.Pu.ErrVarParseUint
import Derived.Shelf.Strings.Search1
import Derived.Shelf.Strings.Search2
import Derived.Shelf.Strings.Search3
import Derived.Shelf.Strings.Cut
import Derived.Shelf.Strings.Count
import Derived.Shelf.Strings.Shaped
import Derived.Shelf.Strings.Split
import Derived.Test.YtfjfjjcdlgdbcaaDoorProg
namespace Go.Proofs.YtfjfjjcdlgdbcaaDoor
open Go.RowKit

theorem foldl_ovw : ∀ (vs : List Value) (off i : Nat) (cells : Array Value), off + i + vs.length ≤ cells.size →
    (vs.zipIdx i).foldl (fun (cs : Array Value) (p : Value × Nat) => cs.setIfInBounds (off + p.2) p.1) cells = ovw cells (off + i) vs
  | [], off, i, cells, _ => by simp [ovw]
  | v :: r, off, i, cells, h => by
    simp only [List.length_cons] at h
    simp only [List.zipIdx_cons, List.foldl_cons]
    rw [foldl_ovw r off (i + 1) _ (by simp; omega)]
    apply Array.ext_getElem?
    intro j
    rw [get_ovw _ _ _ (by simp; omega), get_ovw _ _ _ (by simp; omega)]
    simp only [List.length_cons]
    by_cases h1 : off + (i + 1) ≤ j ∧ j < off + (i + 1) + r.length
    · rw [if_pos h1, if_pos (by omega)]
      obtain ⟨k, rfl⟩ : ∃ k, j = off + (i + 1) + k := ⟨j - (off + (i + 1)), by omega⟩
      rw [show off + (i + 1) + k - (off + (i + 1)) = k by omega, show off + (i + 1) + k - (off + i) = k + 1 by omega]; simp
    · rw [if_neg h1]
      by_cases h2 : j = off + i
      · subst h2
        rw [if_pos (by omega), Array.getElem?_setIfInBounds, if_pos rfl, if_pos (by omega)]
        simp
      · rw [if_neg (by omega)]
        simp [Array.getElem?_setIfInBounds, Ne.symm h2]

theorem fill_cons (place : Nat → Option (Nat × Nat)) (cells : Array Value) (i : Nat) (v : Value) (rest : List (Nat × Value)) (off size : Nat) (hp : place i = some (off, size))
    (hs : v.cells.size = size) (hf : off + size ≤ cells.size) : Instr.fill place cells ((i, v) :: rest) = Instr.fill place (ovw cells off v.cells.toList) rest := by
  have h := foldl_ovw v.cells.toList off 0 cells (by simp; omega)
  rw [Instr.fill]
  simp only [hp]
  rw [if_neg (by simp; omega)]
  congr 1
  rw [← Array.foldl_toList, Array.toList_zipIdx]
  exact h

section
variable {P : Program}
/-- a slice of one, of two rows -/
theorem run_buildSlice1 (w : World) (t e : TypeId) (k : Nat) (cs : Array Value) (ht : P.underlying t = some (.slice e)) (he : AggT P e k) (hz : ((P.info? e).bind (·.zero)).isSome = true) (hs : cs.size = k) (hk : k ≤ 1000) (hk0 : 0 < k) :
    (Instr.buildSlice t 1 #[(0, .agg cs)]).run P w = .ok (.slice (some ⟨w.heap.size, 0, none⟩) 1 1) (w.alloc (.cells cs e)) := by
  obtain ⟨z, hz⟩ := Option.isSome_iff_exists.1 hz
  have hzr : (zeroValue e).run P w = .ok z w := by
    cases hq : P.info? e with
    | none => simp [hq] at hz
    | some i => simp [zeroValue, typeInfo, hq] at hz ⊢; simp [hz]
  have hc : (Array.map (fun x => z.cells[x % z.cells.size]!) (Array.range (1 * k))).size = k := by simp
  unfold Instr.buildSlice
  simp only [Sem.run_bind, run_underlying ht, Result.andThen_ok, run_sizeOf he]
  rw [if_neg (by omega), if_neg (by omega)]
  simp only [Sem.run_bind, hzr, Result.andThen_ok, Sem.run_pure, Array.toList]
  rw [fill_cons _ _ 0 (.agg cs) _ 0 k (by simp) hs (by simp), Instr.fill, ovw_all _ _ (by rw [hc]; simp [Value.cells, hs])]
  rfl
theorem run_buildSlice2 (w : World) (t e : TypeId) (k : Nat) (cs ds : Array Value) (ht : P.underlying t = some (.slice e)) (he : AggT P e k) (hz : ((P.info? e).bind (·.zero)).isSome = true) (hs : cs.size = k) (hd : ds.size = k) (hk : k ≤ 1000) (hk0 : 0 < k) :
    (Instr.buildSlice t 2 #[(0, .agg cs), (1, .agg ds)]).run P w = .ok (.slice (some ⟨w.heap.size, 0, none⟩) 2 2) (w.alloc (.cells (cs ++ ds) e)) := by
  obtain ⟨z, hz⟩ := Option.isSome_iff_exists.1 hz
  have hzr : (zeroValue e).run P w = .ok z w := by
    cases hq : P.info? e with
    | none => simp [hq] at hz
    | some i => simp [zeroValue, typeInfo, hq] at hz ⊢; simp [hz]
  have hc : (Array.map (fun x => z.cells[x % z.cells.size]!) (Array.range (2 * k))).size = 2 * k := by simp
  unfold Instr.buildSlice
  simp only [Sem.run_bind, run_underlying ht, Result.andThen_ok, run_sizeOf he]
  rw [if_neg (by omega), if_neg (by omega)]
  simp only [Sem.run_bind, hzr, Result.andThen_ok, Sem.run_pure, Array.toList]
  generalize Array.map (fun x => z.cells[x % z.cells.size]!) (Array.range (2 * k)) = Z at hc ⊢
  have h1 : (ovw Z 0 (Value.agg cs).cells.toList).size = 2 * k := by
    rw [size_ovw _ _ _ (by simp [Value.cells, hs]; omega), hc]
  rw [fill_cons _ _ 0 (.agg cs) _ 0 k (by simp) hs (by rw [hc]; omega), fill_cons _ _ 1 (.agg ds) _ k k (by simp) hd (by rw [h1]; omega), Instr.fill]
  have e : ovw (ovw Z 0 (Value.agg cs).cells.toList) k (Value.agg ds).cells.toList = cs ++ ds := by
    apply Array.ext_getElem?
    intro j
    rw [get_ovw _ _ _ (by rw [h1]; simp [Value.cells, hd]; omega), get_ovw _ _ _ (by rw [hc]; simp [Value.cells, hs]; omega), Array.getElem?_append]
    simp only [Value.cells, Array.length_toList, hs, hd, Nat.zero_add, Nat.zero_le, true_and, Nat.sub_zero, Array.getElem?_toList]
    by_cases h2 : j < k
    · rw [if_neg (by omega), if_pos h2, if_pos h2]
    · rw [if_neg h2]
      by_cases h3 : j < k + k
      · rw [if_pos ⟨by omega, h3⟩, if_neg h2]
      · rw [if_neg (by omega), if_neg (by omega), Array.getElem?_eq_none (by rw [hc]; omega), Array.getElem?_eq_none (by rw [hd]; omega)]
  rw [e]
  rfl
end
theorem foldl_all (cells : Array Value) (vs : List Value) (h : cells.size = vs.length) : List.foldl (fun (cs : Array Value) (x : Value × Nat) => cs.setIfInBounds x.2 x.1) cells vs.zipIdx = vs.toArray := by
  have := foldl_ovw vs 0 0 cells (by omega)
  simp only [Nat.zero_add] at this
  rw [this, ovw_all _ _ h]
theorem foldl_at (cells : Array Value) (n : Nat) (vs : List Value) (h : n + vs.length ≤ cells.size) : List.foldl (fun (cs : Array Value) (x : Value × Nat) => cs.setIfInBounds (n + x.2) x.1) cells vs.zipIdx = ovw cells n vs := by
  have := foldl_ovw vs n 0 cells (by omega)
  simpa using this
theorem foldl_0 (cells : Array Value) (vs : List Value) (h : vs.length ≤ cells.size) : List.foldl (fun (cs : Array Value) (x : Value × Nat) => cs.setIfInBounds x.2 x.1) cells vs.zipIdx = ovw cells 0 vs := by
  have := foldl_ovw vs 0 0 cells (by omega)
  simpa only [Nat.zero_add] using this
theorem ovw_two (cells : Array Value) (n m : Nat) (xs ys : List Value) (hx : xs.length = n) (hy : ys.length = m) (hc : cells.size = n + m) : ovw (ovw cells 0 xs) n ys = (xs ++ ys).toArray := by
  have h1 : (ovw cells 0 xs).size = n + m := by rw [size_ovw _ _ _ (by omega), hc]
  apply Array.ext_getElem?
  intro j
  rw [get_ovw _ _ _ (by omega), get_ovw _ _ _ (by omega)]
  conv => rhs; rw [List.getElem?_toArray, List.getElem?_append]
  simp only [Nat.zero_add, Nat.zero_le, true_and, Nat.sub_zero, hx, hy]
  by_cases h2 : j < n
  · rw [if_neg (by omega), if_pos h2, if_pos h2]
  · by_cases h3 : j < n + m
    · rw [if_pos ⟨by omega, h3⟩, if_neg h2]
    · rw [if_neg (by omega), if_neg h2, if_neg h2, Array.getElem?_eq_none (by omega), List.getElem?_eq_none (by omega)]
/-- two results, the first one a struct that lies in memory -/
theorem results_agg_tmp {P : Program} {fn : Func} {p q : Tmp} {ty : TypeId} (h : fn.results = #[.cell p ty, .tmp q]) (tmps : Array Value) (w : World) (g : Nat) (vs : Array Value)
    (hp : tmps.getD p undef = .pointer (some ⟨g, 0, none⟩)) (ht : AggT P ty vs.size) (hc : CellsAt w g 0 vs.toList) :
    (results fn tmps).run P w = .ok (.tuple #[.agg vs, tmps.getD q undef]) w := by
  have hp' : tmps[p]?.getD undef = .pointer (some ⟨g, 0, none⟩) := by simpa using hp
  have hl := run_loadAgg (P := P) w ty g 0 vs.toList (by simpa using ht) hc
  simp [results, h, hp', asAddr, hl]
theorem cellsAt_blk {w : World} {g : Nat} {t : TypeId} {cs : Array Value} (h : Blk w g t cs) : CellsAt w g 0 cs.toList :=
  h.cells 0 _ (fun j u hu => by simpa using hu)
theorem roomAt_past1 (w : World) (c : Array Value) (t : TypeId) (b : Obj) (o k : Nat) (h : o + k ≤ c.size) : RoomAt ((w.alloc (.cells c t)).alloc b) w.heap.size o k :=
  roomAt_alloc_past _ _ _ _ _ (by simp) (roomAt_alloc_at w c t _ o k rfl h)
theorem roomAt_past2 (w : World) (c : Array Value) (t : TypeId) (b b' : Obj) (o k : Nat) (h : o + k ≤ c.size) : RoomAt (((w.alloc (.cells c t)).alloc b).alloc b') w.heap.size o k :=
  roomAt_alloc_past _ _ _ _ _ (by simp; omega) (roomAt_past1 w c t b o k h)
theorem roomAt_past3 (w : World) (c : Array Value) (t : TypeId) (b b' b'' : Obj) (o k : Nat) (h : o + k ≤ c.size) : RoomAt ((((w.alloc (.cells c t)).alloc b).alloc b').alloc b'') w.heap.size o k :=
  roomAt_alloc_past _ _ _ _ _ (by simp; omega) (roomAt_past2 w c t b b' o k h)
theorem roomAt_at1 (w : World) (a : Obj) (c : Array Value) (t : TypeId) (o k : Nat) (h : o + k ≤ c.size) : RoomAt ((w.alloc a).alloc (.cells c t)) (w.heap.size + 1) o k := roomAt_alloc_at _ c t _ o k (by simp) h
/-- the same as rewritings: a walk's simp goes one premise deep at each -/
theorem roomAt_drew_eq (w : World) (n o k : Nat) : RoomAt w.drew n o k = RoomAt w n o k := rfl
theorem roomAt_drewN_eq (w : World) (m n o k : Nat) : RoomAt (w.drewN m) n o k = RoomAt w n o k := rfl
theorem roomAt_past_eq (w : World) (b : Obj) (n o k : Nat) (hn : n < w.heap.size) : RoomAt (w.alloc b) n o k = RoomAt w n o k := by
  apply propext
  unfold RoomAt
  constructor
  · intro h j hj
    have := h j hj
    rwa [World.cell?_alloc_lt w b ⟨n, o + j, none⟩ hn, World.frozen?_alloc_past b n _ hn] at this
  · intro h
    exact roomAt_alloc_past w b n o k hn h
end Go.Proofs.YtfjfjjcdlgdbcaaDoor
namespace Go.Proofs.YtfjfjjcdlgdbcaaDoor
open Go.RowKit

/-- the string of so many bytes -/
def str (xs : List UInt8) : ByteArray := ⟨xs.toArray⟩
theorem str_toList (xs : List UInt8) : (str xs).data.toList = xs := rfl
theorem str_list (xs : List UInt8) : (str xs).toList = xs := by rw [ByteArray.toList_eq]; rfl
theorem str_size (xs : List UInt8) : (str xs).size = xs.length := rfl
theorem str_eta (s : ByteArray) : str s.data.toList = s := by
  unfold str
  obtain ⟨⟨l⟩⟩ := s
  rfl

theorem strOfNums_bytes (xs : List UInt8) : strOfNums (xs.map fun b => (b.toNat : Int)) = str xs := by
  simp only [strOfNums, str, List.map_map]
  congr 2
  conv => rhs; rw [← List.map_id xs]
  apply List.map_congr_left
  intro b _
  simp
theorem run_convertB {P : Program} (w : World) (src e dst : TypeId) (hs : P.underlying src = some (.slice e)) (he : P.underlying e = some (.int .u8)) (hd : P.underlying dst = some .string)
    {A : Option Addr} {n c : Nat} {xs : List UInt8} (h : RdB w A n c xs) : (convert src dst (.slice A n c)).run P w = .ok (.string (str xs)) w := by
  rcases Nat.eq_zero_or_pos n with h0 | h0
  · subst h0
    have e1 : xs = [] := List.eq_nil_of_length_eq_zero h.1
    subst e1
    rw [run_convert_bytes_string w src dst e _ 0 c hs he hd]
    cases A with
    | none => rfl
    | some ad =>
      have hl : (loadCells ad 0).run P w = .ok #[] w := rfl
      simp only [Conv.bytesToString, Sem.run_bind, hl, Result.andThen_ok]
      rfl
  · obtain ⟨ad, rfl, hc⟩ := h.2.2.2 h0
    obtain ⟨b, o, sp⟩ := ad
    have hx : ∃ u, xs[0]? = some u := ⟨_, List.getElem?_eq_getElem (by rw [h.1]; exact h0)⟩
    obtain ⟨u, hu⟩ := hx
    have hsp : sp = none := by
      have := hc 0 u hu
      cases sp with
      | none => rfl
      | some k =>
        simp only [Addr.add, if_true, World.cell?] at this
        split at this <;> simp at this
    subst hsp
    have := run_convert_bytes_arg (P := P) w src e hs he b o n c (xs.map fun b => (b.toNat : Int)) (by simpa using h.1) (fun i hi => by
      have hi' : i < xs.length := by rw [h.1]; exact hi
      have h2 := hc i xs[i] (List.getElem?_eq_getElem hi')
      have e : (⟨b, o, none⟩ : Addr).add i = ⟨b, o + i, none⟩ := by unfold Addr.add; split <;> simp_all
      rw [e] at h2
      rw [h2]
      simp [bv, List.getD_eq_getElem?_getD, List.getElem?_eq_getElem hi']) dst hd
    rw [this, strOfNums_bytes]
end Go.Proofs.YtfjfjjcdlgdbcaaDoor
namespace Go.Proofs.YtfjfjjcdlgdbcaaDoor
open Go.RowKit

def hexS : ByteArray := ⟨#[48, 49, 50, 51, 52, 53, 54, 55, 56, 57, 97, 98, 99, 100, 101, 102]⟩
/-- a digit -/
def dig (n : Nat) : UInt8 := [48, 49, 50, 51, 52, 53, 54, 55, 56, 57, 97, 98, 99, 100, 101, 102].getD n 0
def dig2 (b : UInt8) : List UInt8 := [dig (b.toNat / 16), dig (b.toNat % 16)]
/-- digits of bytes -/
def hexL (xs : List UInt8) : List UInt8 := (xs.map dig2).flatten
theorem hexL_length (xs : List UInt8) : (hexL xs).length = 2 * xs.length := by
  induction xs with
  | nil => rfl
  | cons x xs ih => simp only [hexL, List.map_cons, List.flatten_cons, List.length_append, List.length_cons] at ih ⊢; rw [ih]; simp [dig2]; omega
theorem hexL_append (xs ys : List UInt8) : hexL (xs ++ ys) = hexL xs ++ hexL ys := by simp [hexL]
theorem hexL_take_succ (xs : List UInt8) (k : Nat) (h : k < xs.length) : hexL (xs.take (k + 1)) = hexL (xs.take k) ++ dig2 (xs.getD k 0) := by
  have e : xs.take (k + 1) = xs.take k ++ [xs[k]] := List.take_succ_eq_append_getElem h
  rw [e, hexL_append]
  simp [hexL, List.getD_eq_getElem?_getD, List.getElem?_eq_getElem h]
theorem dig_get : ∀ n : Nat, n < 16 → hexS.data.toList[n]? = some (dig n) := by decide
theorem RdB.two (w : World) (t : TypeId) (a b : UInt8) : RdB (w.alloc (.cells #[.int .u8 a.toNat, .int .u8 b.toNat] t)) (some ⟨w.heap.size, 0, none⟩) 2 2 [a, b] :=
  RdB.many w t [a, b] rfl (by unfold maxLen; omega)

theorem nib_and (b : UInt8) : bits BinOp.and IntKind.u8 (b.toNat : Int) 15 = (b.toNat : Int) % 16 := by
  have : ∀ c : Fin 256, bits BinOp.and IntKind.u8 (c.val : Int) 15 = (c.val : Int) % 16 := by decide +kernel
  exact this ⟨b.toNat, b.toNat_lt⟩
theorem hexS_get : ∀ m : Fin 16, (hexS[m.val]'(by show m.val < 16; omega)).toNat = (dig m.val).toNat := by decide +kernel
theorem idx_hex {P : Program} (n : Nat) (hn : n < 16) (w : World) (h : P.underlying 9 = some .string) :
    (Instr.index 9 (.string ⟨#[48, 49, 50, 51, 52, 53, 54, 55, 56, 57, 97, 98, 99, 100, 101, 102]⟩) (.int .u8 (n : Int))).run P w = .ok (.int .u8 ((dig n).toNat : Int)) w := by
  show (Instr.index 9 (.string hexS) (.int .u8 (n : Int))).run P w = _
  rw [run_index_string w 9 hexS .u8 n h, dif_pos ⟨by omega, by show (n : Int) < 16; omega⟩]
  have h2 := hexS_get ⟨n, hn⟩
  simp only [Int.toNat_natCast]
  rw [h2]

theorem armH_appendB (w : World) {ops : Array Oper} {o : Oper} {a : Act} {K : Act → World → Prop} {Q : Exit → Act → World → Prop} {E : Prop}
    (hgd : o.guard = none) (s x : Operand) (ho : o.op = .call { callee := .builtin .append, args := #[s, x], argTypes := #[22, 22] })
    (B : Nat) (v : Value) (xs ys : List UInt8) (hs : a.eval s = v) (A : Option Addr) (n c : Nat) (hx : a.eval x = .slice A n c) (hown : OwnB w B v xs) (hr : RdB w A n c ys)
    (hl : xs.length + n ≤ 140737488355328) (hB : B ≤ w.heap.size)
    (h : ∀ v' w', OwnB w' B v' (xs ++ ys) → w.grownBy w' v.ownBlock → Below B w w' → K (a.put o.dst v') w') :
    if Region.wanted o (yielded ops a.tmps) = true then Oper.wp Tryd.prog o a w K Q else E := by
  obtain ⟨v', w', hrun, h1, h2, h3⟩ := run_appendB w o.type B v xs ys A n c hown hr hl hB
  have hw : Region.wanted o (yielded ops a.tmps) = true := by simp [Region.wanted, hgd]
  rw [if_pos hw]
  unfold Oper.wp execOp
  simp only [ho, resolve, invoke, builtin, Sem.run_bind, Sem.run_pure, Result.andThen_ok, List.map_toArray, List.map_cons, List.map_nil, hs, hx, hrun]
  exact h v' w' h1 h2 h3

set_option maxRecDepth 100000 in
set_option maxHeartbeats 1000000 in
theorem Hex_calls (A : Option Addr) (n c : Nat) (xs : List UInt8) (w : World) (h : RdB w A n c xs) (hs : n ≤ 100000000) :
    Calls Tryd.prog 48 #[.slice A n c] w fun e w' => e = .returned (.string (str (hexL xs))) ∧ Below w.heap.size w w' := by
  have hm : n ≤ 9223372036854775807 := by omega
  have H := Lib.hid h
  clear h
  go_enter Tryd.func48, Tryd.ntmps48
  go_wp2
  go_loopw [3, 8] (fun v i wr => ∃ k : Nat, k ≤ n ∧ i = .int .i64 k ∧ OwnB wr w.heap.size v (hexL (xs.take k)) ∧ Below w.heap.size w wr) (fun _ i _ => n - (intOf i).toNat)
  case atStart => exact ⟨0, by omega, rfl, by simpa [hexL] using OwnB.nil _ _, Below.refl _ _⟩
  case round =>
    obtain ⟨k, hk, rfl, ho, hb⟩ := hrel
    have hbs := hb.size
    by_cases hlt : k < n
    · obtain ⟨ad, rfl, hcell⟩ := (H.out.below hb).at_ hlt
      have HF := Lib.hid (hexL_take_succ xs k (by rw [H.out.1]; exact hlt))
      have hxl := H.out.1
      generalize xs.getD k 0 = b at *
      have hbl := b.toNat_lt
      have hq1 : (0 : Int) ≤ (b.toNat : Int) / 16 ∧ (b.toNat : Int) / 16 < 16 := by omega
      have hq2 : (0 : Int) ≤ (b.toNat : Int) % 16 ∧ (b.toNat : Int) % 16 < 16 := by omega
      have hbit := nib_and b
      have hlen : Hid ((hexL (xs.take k)).length = 2 * k) := by rw [hexL_length, List.length_take, hxl]; show 2 * min k n = _; omega
      have hi1 := fun W => idx_hex (P := Tryd.prog) (b.toNat / 16) (by omega) W Tryd.underlying9
      have hi2 := fun W => idx_hex (P := Tryd.prog) (b.toNat % 16) (by omega) W Tryd.underlying9
      simp only [Int.natCast_ediv, Int.natCast_emod, Int.cast_ofNat_Int] at hi1 hi2
      go_wp2
      refine wp_region_held_drew (S := fun _ => True) (by kernel_rfl) trivial (fun hHeld => ?_)
      refine wpAnyH_take (i := 0) (v := u3) rfl (by kernel_rfl) (by kernel_rfl) (by kernel_rfl) (fun _ _ _ h => h) (.inl ⟨by rfl, fun w _ => by go_simp⟩) hHeld ?_
      simp only [Act.put, List.setIfInBounds_toArray, List.set_cons_zero, List.set_cons_succ]
      refine wpAnyH_take (i := 1) (v := .int .u8 (b.toNat : Int)) rfl (by kernel_rfl) (by kernel_rfl) (by kernel_rfl) (fun _ _ _ h => h) (.inl ⟨by rfl, fun w _ => by go_simp⟩) hHeld ?_
      simp only [Act.put, List.setIfInBounds_toArray, List.set_cons_zero, List.set_cons_succ]
      refine wpAnyH_take (i := 4) (v := .int .u8 (b.toNat : Int)) rfl (by kernel_rfl) (by kernel_rfl) (by kernel_rfl) (fun _ _ _ h => h) (.inl ⟨by rfl, fun w _ => by go_simp⟩) hHeld ?_
      simp only [Act.put, List.setIfInBounds_toArray, List.set_cons_zero, List.set_cons_succ]
      refine wpAnyH_take (i := 2) (v := .int .u8 ((b.toNat : Int) / 16)) rfl (by kernel_rfl) (by kernel_rfl) (by kernel_rfl) (fun _ _ _ h => h) (.inl ⟨by rfl, fun w _ => by go_simp⟩) hHeld ?_
      simp only [Act.put, List.setIfInBounds_toArray, List.set_cons_zero, List.set_cons_succ]
      refine wpAnyH_take (i := 5) (v := .int .u8 ((b.toNat : Int) % 16)) rfl (by kernel_rfl) (by kernel_rfl) (by kernel_rfl) (fun _ _ _ h => h) (.inl ⟨by rfl, fun w _ => by go_simp⟩) hHeld ?_
      simp only [Act.put, List.setIfInBounds_toArray, List.set_cons_zero, List.set_cons_succ]
      refine wpAnyH_take (i := 3) (v := .int .u8 ((dig (b.toNat / 16)).toNat : Int)) rfl (by kernel_rfl) (by kernel_rfl) (by kernel_rfl) (fun _ _ _ h => h) (.inl ⟨by rfl, fun w _ => by go_simp⟩) hHeld ?_
      simp only [Act.put, List.setIfInBounds_toArray, List.set_cons_zero, List.set_cons_succ]
      refine wpAnyH_take (i := 6) (v := .int .u8 ((dig (b.toNat % 16)).toNat : Int)) rfl (by kernel_rfl) (by kernel_rfl) (by kernel_rfl) (fun _ _ _ h => h) (.inl ⟨by rfl, fun w _ => by go_simp⟩) hHeld ?_
      simp only [Act.put, List.setIfInBounds_toArray, List.set_cons_zero, List.set_cons_succ]
      refine wpAnyH_ready (rs := [7]) (by kernel_rfl) (by simp) ?_
      refine AllReadyH.cons rfl (fun K hK => ?_) AllReadyH.nil
      go_simp
      refine hK.out _ _ trivial (fun hHeld => ?_)
      clear hK K
      refine wpAnyH_ready (rs := [8]) (by kernel_rfl) (by simp) ?_
      refine AllReadyH.cons rfl (fun K hK => ?_) AllReadyH.nil
      refine armH_appendB _ rfl (.tmp 12) (.tmp 19) rfl w.heap.size _ (hexL (xs.take k)) (dig2 b) rfl _ _ _ rfl (ho.alloc _).drew (RdB.two _ _ _ _).drew (by rw [hlen.out]; omega) (by simp; omega) (fun v2 w2 ho2 hg2 hb2 => ?_)
      simp only [Act.put, List.setIfInBounds_toArray, List.set_cons_zero, List.set_cons_succ]
      refine hK.out _ _ trivial (fun hHeld => ?_)
      clear hK K
      refine wpAnyH_ready (rs := [9]) (by kernel_rfl) (by simp) ?_
      refine AllReadyH.cons rfl (fun K hK => ?_) AllReadyH.nil
      go_simp
      refine hK.out _ _ trivial (fun hHeld => ?_)
      clear hK K
      refine wpAnyH_done (by kernel_rfl) ?_ _
      go_wp2
      go_roundw
      case rel => exact ⟨k + 1, by omega, by go_num, by rw [HF.out]; exact ho2, (al hb _).drew.trans hb2⟩
      case measure => simp [intOf]; omega
    · obtain rfl : k = n := by omega
      obtain ⟨A2, c2, rfl, hr2⟩ := ho.reads
      have hcv := run_convertB (P := Tryd.prog) wr 22 5 9 Tryd.underlying22 Tryd.underlying5 Tryd.underlying9 hr2
      rw [List.take_of_length_le (by rw [H.out.1]; omega)] at *
      go_wp2
      go_ret
      exact ⟨rfl, hb⟩
end Go.Proofs.YtfjfjjcdlgdbcaaDoor
namespace Go.Proofs.YtfjfjjcdlgdbcaaDoor
open Go.RowKit

theorem quo16 (b : UInt8) : Int.tdiv (b.toNat : Int) 16 = (b.toNat : Int) / 16 := by
  rw [Int.tdiv_eq_ediv_of_nonneg (by omega)]

set_option maxRecDepth 100000 in
set_option maxHeartbeats 1000000 in
theorem Hex20_calls (A : Option Addr) (n c : Nat) (xs : List UInt8) (w : World) (h : RdB w A n c xs) (hs : n ≤ 100000000) :
    Calls Tryd.prog 68 #[.slice A n c] w fun e w' => e = .returned (.string (str (hexL xs))) ∧ Below w.heap.size w w' := by
  have hm : n ≤ 9223372036854775807 := by omega
  have H := Lib.hid h
  clear h
  go_enter Tryd.func68, Tryd.ntmps68
  go_wp2
  go_loopw [3, 4] (fun v i wr => ∃ k : Nat, k ≤ n ∧ i = .int .i64 k ∧ OwnB wr w.heap.size v (hexL (xs.take k)) ∧ Below w.heap.size w wr) (fun _ i _ => n - (intOf i).toNat)
  case atStart => exact ⟨0, by omega, rfl, by simpa [hexL] using OwnB.nil _ _, Below.refl _ _⟩
  case round =>
    obtain ⟨k, hk, rfl, ho, hb⟩ := hrel
    have hbs := hb.size
    by_cases hlt : k < n
    · obtain ⟨ad, rfl, hcell⟩ := (H.out.below hb).at_ hlt
      obtain ⟨ad', e', hcell0⟩ := H.out.at_ hlt
      obtain rfl : ad = ad' := Option.some.inj e'
      have hkeep := Lib.hid (fun W (hW : Below w.heap.size w W) => (hW.cell (World.block_lt_of_cell? w _ hcell0)).trans hcell0)
      clear hcell0 e'
      have HF := Lib.hid (hexL_take_succ xs k (by rw [H.out.1]; exact hlt))
      have hxl := H.out.1
      generalize xs.getD k 0 = b at *
      have hlen : Hid ((hexL (xs.take k)).length = 2 * k) := by rw [hexL_length, List.length_take, hxl]; show 2 * min k n = _; omega
      have hi1 := fun W => idx_hex (P := Tryd.prog) (b.toNat / 16) (by have := b.toNat_lt; omega) W Tryd.underlying9
      have hi2 := fun W => idx_hex (P := Tryd.prog) (b.toNat % 16) (by omega) W Tryd.underlying9
      simp only [Int.natCast_ediv, Int.natCast_emod, Int.cast_ofNat_Int] at hi1 hi2
      go_wp2
      refine wp_region_held_drew (S := (fun W => W.cell? (ad.add k) = some (Value.int .u8 (b.toNat : Int)))) (by kernel_rfl) (hcell) (fun hHeld => ?_)
      refine wpAnyH_take (i := 0) (v := u3) rfl (by kernel_rfl) (by kernel_rfl) (by kernel_rfl) (fun _ _ _ h => h) (.inl ⟨by rfl, fun W hS => by go_simp⟩) hHeld ?_
      simp only [Act.put, List.setIfInBounds_toArray, List.set_cons_zero, List.set_cons_succ]
      refine wpAnyH_take (i := 1) (v := .slice (some ad) n c) rfl (by kernel_rfl) (by kernel_rfl) (by kernel_rfl) (fun _ _ _ h => h) (.inl ⟨by rfl, fun W hS => by go_simp⟩) hHeld ?_
      simp only [Act.put, List.setIfInBounds_toArray, List.set_cons_zero, List.set_cons_succ]
      refine wpAnyH_take (i := 2) (v := .int .i64 (k : Int)) rfl (by kernel_rfl) (by kernel_rfl) (by kernel_rfl) (fun _ _ _ h => h) (.inl ⟨by rfl, fun W hS => by go_simp⟩) hHeld ?_
      simp only [Act.put, List.setIfInBounds_toArray, List.set_cons_zero, List.set_cons_succ]
      refine wpAnyH_take (i := 7) (v := .slice (some ad) n c) rfl (by kernel_rfl) (by kernel_rfl) (by kernel_rfl) (fun _ _ _ h => h) (.inl ⟨by rfl, fun W hS => by go_simp⟩) hHeld ?_
      simp only [Act.put, List.setIfInBounds_toArray, List.set_cons_zero, List.set_cons_succ]
      refine wpAnyH_take (i := 8) (v := .int .i64 (k : Int)) rfl (by kernel_rfl) (by kernel_rfl) (by kernel_rfl) (fun _ _ _ h => h) (.inl ⟨by rfl, fun W hS => by go_simp⟩) hHeld ?_
      simp only [Act.put, List.setIfInBounds_toArray, List.set_cons_zero, List.set_cons_succ]
      refine wpAnyH_take (i := 3) (v := .pointer (some (ad.add k))) rfl (by kernel_rfl) (by kernel_rfl) (by kernel_rfl) (fun _ _ _ h => h) (.inl ⟨by rfl, fun W hS => by go_simp⟩) hHeld ?_
      simp only [Act.put, List.setIfInBounds_toArray, List.set_cons_zero, List.set_cons_succ]
      refine wpAnyH_take (i := 9) (v := .pointer (some (ad.add k))) rfl (by kernel_rfl) (by kernel_rfl) (by kernel_rfl) (fun _ _ _ h => h) (.inl ⟨by rfl, fun W hS => by go_simp⟩) hHeld ?_
      simp only [Act.put, List.setIfInBounds_toArray, List.set_cons_zero, List.set_cons_succ]
      refine wpAnyH_take (i := 4) (v := .int .u8 (b.toNat : Int)) rfl (by kernel_rfl) (by kernel_rfl) (by kernel_rfl) (fun _ _ _ h => h) (.inl ⟨by rfl, fun W hS => by (have hS : W.cell? (ad.add k) = some (Value.int .u8 (b.toNat : Int)) := hS); go_simp⟩) hHeld ?_
      simp only [Act.put, List.setIfInBounds_toArray, List.set_cons_zero, List.set_cons_succ]
      refine wpAnyH_take (i := 10) (v := .int .u8 (b.toNat : Int)) rfl (by kernel_rfl) (by kernel_rfl) (by kernel_rfl) (fun _ _ _ h => h) (.inl ⟨by rfl, fun W hS => by (have hS : W.cell? (ad.add k) = some (Value.int .u8 (b.toNat : Int)) := hS); go_simp⟩) hHeld ?_
      simp only [Act.put, List.setIfInBounds_toArray, List.set_cons_zero, List.set_cons_succ]
      refine wpAnyH_take (i := 5) (v := .int .u8 ((b.toNat : Int) / 16)) rfl (by kernel_rfl) (by kernel_rfl) (by kernel_rfl) (fun _ _ _ h => h) (.inl ⟨by rfl, fun W hS => by go_simp; have := b.toNat_lt; exact IntWalk.u8_in _ (by omega)⟩) hHeld ?_
      simp only [Act.put, List.setIfInBounds_toArray, List.set_cons_zero, List.set_cons_succ]
      refine wpAnyH_take (i := 11) (v := .int .u8 ((b.toNat : Int) % 16)) rfl (by kernel_rfl) (by kernel_rfl) (by kernel_rfl) (fun _ _ _ h => h) (.inl ⟨by rfl, fun W hS => by go_simp; exact Int.tmod_eq_emod_of_nonneg (by omega)⟩) hHeld ?_
      simp only [Act.put, List.setIfInBounds_toArray, List.set_cons_zero, List.set_cons_succ]
      refine wpAnyH_take (i := 6) (v := .int .u8 ((dig (b.toNat / 16)).toNat : Int)) rfl (by kernel_rfl) (by kernel_rfl) (by kernel_rfl) (fun _ _ _ h => h) (.inl ⟨by rfl, fun W hS => by go_simp⟩) hHeld ?_
      simp only [Act.put, List.setIfInBounds_toArray, List.set_cons_zero, List.set_cons_succ]
      refine wpAnyH_take (i := 12) (v := .int .u8 ((dig (b.toNat % 16)).toNat : Int)) rfl (by kernel_rfl) (by kernel_rfl) (by kernel_rfl) (fun _ _ _ h => h) (.inl ⟨by rfl, fun W hS => by go_simp⟩) hHeld ?_
      simp only [Act.put, List.setIfInBounds_toArray, List.set_cons_zero, List.set_cons_succ]
      refine wpAnyH_ready (rs := [13]) (by kernel_rfl) (by simp) ?_
      refine AllReadyH.cons rfl (fun K hK => ?_) AllReadyH.nil
      go_simp
      refine hK.out _ _ (hkeep.out _ (al hb _).drew) (fun hHeld => ?_)
      clear hK K
      refine wpAnyH_ready (rs := [14]) (by kernel_rfl) (by simp) ?_
      refine AllReadyH.cons rfl (fun K hK => ?_) AllReadyH.nil
      refine armH_appendB _ rfl (.tmp 11) (.tmp 24) rfl w.heap.size _ (hexL (xs.take k)) (dig2 b) rfl _ _ _ rfl (ho.alloc _).drew (RdB.two _ _ _ _).drew (by rw [hlen.out]; omega) (by simp; omega) (fun v2 w2 ho2 hg2 hb2 => ?_)
      simp only [Act.put, List.setIfInBounds_toArray, List.set_cons_zero, List.set_cons_succ]
      refine hK.out _ _ (hkeep.out _ ((al hb _).drew.trans hb2)) (fun hHeld => ?_)
      clear hK K
      refine wpAnyH_ready (rs := [15]) (by kernel_rfl) (by simp) ?_
      refine AllReadyH.cons rfl (fun K hK => ?_) AllReadyH.nil
      go_simp
      refine hK.out _ _ (hkeep.out _ ((al hb _).drew.trans hb2)) (fun hHeld => ?_)
      clear hK K
      refine wpAnyH_done (by kernel_rfl) ?_ _
      go_wp2
      go_roundw
      case rel => exact ⟨k + 1, by omega, by go_num, by rw [HF.out]; exact ho2, (al hb _).drew.trans hb2⟩
      case measure => simp [intOf]; omega
    · obtain rfl : k = n := by omega
      obtain ⟨A2, c2, rfl, hr2⟩ := ho.reads
      have hcv := run_convertB (P := Tryd.prog) wr 22 5 9 Tryd.underlying22 Tryd.underlying5 Tryd.underlying9 hr2
      rw [List.take_of_length_le (by rw [H.out.1]; omega)] at *
      go_wp2
      go_ret
      exact ⟨rfl, hb⟩

theorem str_nil : str [] = ⟨#[]⟩ := rfl
/-- digits; a point of none -/
def dotL (xs : List UInt8) : List UInt8 := if xs = [] then [46] else xs
theorem some20_calls (xs : List UInt8) (w : World) : Calls Tryd.prog 70 #[.string (str xs)] w fun e w' => e = .returned (.string (str (dotL xs))) ∧ Below w.heap.size w w' := by
  cases xs with
  | nil =>
    go_enter Tryd.func70, Tryd.ntmps70
    rw [str_nil]
    go_wp2
    go_ret
    exact ⟨rfl, Below.refl _ _⟩
  | cons x xs =>
    have hne : ((str (x :: xs)).toList == []) = false := by rw [str_list]; rfl
    have hd : dotL (x :: xs) = x :: xs := rfl
    rw [hd]
    clear hd
    generalize str (x :: xs) = s at *
    go_enter Tryd.func70, Tryd.ntmps70
    go_wp2
    go_ret
    exact ⟨rfl, Below.refl _ _⟩
theorem digits105_calls (A : Option Addr) (n c : Nat) (xs : List UInt8) (w : World) (h : RdB w A n c xs) (hs : n ≤ 100000000) :
    Calls Tryd.prog 105 #[.slice A n c] w fun e w' => e = .returned (.string (str (dotL (hexL xs)))) ∧ Below w.heap.size w w' := by
  have hc := Lib.hid (Hex_calls A n c xs w h hs)
  have hl := h.1
  cases xs with
  | nil =>
    obtain rfl : n = 0 := by simpa using hl.symm
    go_enter Tryd.func105, Tryd.ntmps105
    go_wp2
    go_ret
    exact ⟨rfl, Below.refl _ _⟩
  | cons x xs =>
    have hn : 0 < n := by simp only [List.length_cons] at hl; omega
    have hd : dotL (hexL (x :: xs)) = hexL (x :: xs) := rfl
    rw [hd]
    clear hd hl h
    generalize hexL (x :: xs) = s at *
    go_enter Tryd.func105, Tryd.ntmps105
    go_wp2_with (go_at_call 48; refine hc.out.mono ?_; rintro e w1 ⟨rfl, hb1⟩)
    go_ret
    exact ⟨rfl, hb1⟩
end Go.Proofs.YtfjfjjcdlgdbcaaDoor
namespace Go.Proofs
open Go.Shelf
def Tryd.lays156_ren : Go.Shelf.Ren := ⟨fun | 156 => 47 | 165 => 81 | 166 => 46 | 169 => 52 | 240 => 80 | 241 => 119 | 276 => 118 | 277 => 139 | n => n, fun | 31 => 84 | 9 => 9 | 3 => 3 | 4 => 4 | 0 => 0 | 20 => 20 | 72 => 83 | 76 => 87 | 70 => 81 | 37 => 22 | 75 => 86 | 127 => 141 | 164 => 169 | 5 => 5 | 80 => 96 | n => n, fun | n => n⟩
theorem Tryd.lays156 : Go.Proofs.Lays.n156 Tryd.prog Tryd.lays156_ren := {
  mixed := by kernel_rfl
  f156 := Tryd.func47.trans (congrArg some (by kernel_rfl))
  f165 := Tryd.func81.trans (congrArg some (by kernel_rfl))
  f166 := Tryd.func46.trans (congrArg some (by kernel_rfl))
  f169 := Tryd.func52.trans (congrArg some (by kernel_rfl))
  f240 := Tryd.func80.trans (congrArg some (by kernel_rfl))
  f241 := Tryd.func119.trans (congrArg some (by kernel_rfl))
  f276 := Tryd.func118.trans (congrArg some (by kernel_rfl))
  f277 := Tryd.func139.trans (congrArg some (by kernel_rfl))
  t0 := Tryd.underlying0
  a0 := Tryd.isAgg0
  z0 := Tryd.sizeOf0
  v0 := Tryd.zeroValue0
  t3 := Tryd.underlying3
  a3 := Tryd.isAgg3
  z3 := Tryd.sizeOf3
  v3 := Tryd.zeroValue3
  t4 := Tryd.underlying4
  a4 := Tryd.isAgg4
  z4 := Tryd.sizeOf4
  v4 := Tryd.zeroValue4
  t9 := Tryd.underlying9
  a9 := Tryd.isAgg9
  z9 := Tryd.sizeOf9
  v9 := Tryd.zeroValue9
  t20 := Tryd.underlying20
  a20 := Tryd.isAgg20
  z20 := Tryd.sizeOf20
  v20 := Tryd.zeroValue20
  t31 := Tryd.underlying84
  a31 := Tryd.isAgg84
  z31 := Tryd.sizeOf84
  v31 := Tryd.zeroValue84
  t37 := Tryd.underlying22
  a37 := Tryd.isAgg22
  z37 := Tryd.sizeOf22
  v37 := Tryd.zeroValue22
  t70 := Tryd.underlying81
  a70 := Tryd.isAgg81
  z70 := Tryd.sizeOf81
  v70 := Tryd.zeroValue81
  t72 := Tryd.underlying83
  a72 := Tryd.isAgg83
  z72 := Tryd.sizeOf83
  v72 := Tryd.zeroValue83
  t75 := Tryd.underlying86
  a75 := Tryd.isAgg86
  z75 := Tryd.sizeOf86
  v75 := Tryd.zeroValue86
  t76 := Tryd.underlying87
  a76 := Tryd.isAgg87
  z76 := Tryd.sizeOf87
  v76 := Tryd.zeroValue87
  t127 := Tryd.underlying141
  a127 := Tryd.isAgg141
  z127 := Tryd.sizeOf141
  v127 := Tryd.zeroValue141
  t164 := Tryd.underlying169
  a164 := Tryd.isAgg169
  z164 := Tryd.sizeOf169
  v164 := Tryd.zeroValue169 }
theorem Tryd.Builder_Extra_156 : Builder.Extra Tryd.prog Tryd.lays156_ren := {
  sizeBuilder := by kernel_rfl
  liesBuilder := by kernel_rfl
  t5 := Tryd.underlying5
  a5 := Tryd.isAgg5
  z5 := Tryd.sizeOf5
  v5 := Tryd.zeroValue5
  infoByte := by kernel_rfl
  cellsByte := by kernel_rfl
  sizeByte := by kernel_rfl
  neB5 := by decide }
open Go.RowKit in
theorem Tryd.strings_Join_none (a : Option Addr) (c : Nat) (sep : ByteArray) (w : World) :
    Calls Tryd.prog 47 #[.slice a 0 c, .string sep] w fun e w' => e = .returned (.string ⟨#[]⟩) ∧ w' = w := Any.strings_Join_none Tryd.lays156 Tryd.Builder_Extra_156 a c sep w
open Go.RowKit in
theorem Tryd.strings_Join (bk o c : Nat) (xs : List ByteArray) (sep : ByteArray) (w : World) (hcells : ∀ (j : Nat) x, xs[j]? = some x → w.cell? ⟨bk, o + j, none⟩ = some (.string x)) (hbk : bk < w.heap.size) (hN : xs.length ≤ 140737488355328) (hcap : xs.length ≤ c) (hlen : (Lib.join (xs.map (·.data.toList)) sep.data.toList).length ≤ 140737488355328) :
    Calls Tryd.prog 47 #[.slice (some ⟨bk, o, none⟩) xs.length c, .string sep] w fun e w' => e = .returned (.string ⟨(Lib.join (xs.map (·.data.toList)) sep.data.toList).toArray⟩) ∧ Below w.heap.size w w' := Any.strings_Join Tryd.lays156 Tryd.Builder_Extra_156 bk o c xs sep w hcells hbk hN hcap hlen
def Tryd.laysM171_ren : Go.Shelf.Ren := ⟨fun | 171 => 104 | 243 => 132 | 246 => 155 | 283 => 120 | 284 => 121 | 285 => 122 | 286 => 123 | 129 => 141 | 317 => 140 | 318 => 142 | 319 => 143 | 320 => 144 | 337 => 161 | 338 => 162 | n => n, fun | 3 => 3 | 9 => 9 | 2 => 2 | 4 => 4 | 171 => 171 | 0 => 0 | 53 => 26 | 37 => 22 | 5 => 5 | 173 => 174 | 212 => 187 | 51 => 188 | 20 => 20 | 213 => 138 | 46 => 136 | 232 => 24 | 233 => 213 | n => n, fun | 17 => 0 | 18 => 6 | 19 => 7 | n => n⟩
theorem Tryd.laysM171 : Go.Proofs.LaysM.n171 Tryd.prog Tryd.laysM171_ren := {
  mixed := by kernel_rfl
  f129 := Tryd.func141.trans (congrArg some (by kernel_rfl))
  f171 := Tryd.func104.trans (congrArg some (by kernel_rfl))
  f243 := Tryd.func132.trans (congrArg some (by kernel_rfl))
  f246 := Tryd.func155.trans (congrArg some (by kernel_rfl))
  f283 := Tryd.func120.trans (congrArg some (by kernel_rfl))
  f284 := Tryd.func121.trans (congrArg some (by kernel_rfl))
  f285 := Tryd.func122.trans (congrArg some (by kernel_rfl))
  f286 := Tryd.func123.trans (congrArg some (by kernel_rfl))
  f317 := Tryd.func140.trans (congrArg some (by kernel_rfl))
  f318 := Tryd.func142.trans (congrArg some (by kernel_rfl))
  f319 := Tryd.func143.trans (congrArg some (by kernel_rfl))
  f320 := Tryd.func144.trans (congrArg some (by kernel_rfl))
  f337 := Tryd.func161.trans (congrArg some (by kernel_rfl))
  f338 := Tryd.func162.trans (congrArg some (by kernel_rfl))
  t0 := Tryd.underlying0
  a0 := Tryd.isAgg0
  z0 := Tryd.sizeOf0
  v0 := Tryd.zeroValue0
  t2 := Tryd.underlying2
  a2 := Tryd.isAgg2
  z2 := Tryd.sizeOf2
  v2 := Tryd.zeroValue2
  t3 := Tryd.underlying3
  a3 := Tryd.isAgg3
  z3 := Tryd.sizeOf3
  v3 := Tryd.zeroValue3
  t4 := Tryd.underlying4
  a4 := Tryd.isAgg4
  z4 := Tryd.sizeOf4
  v4 := Tryd.zeroValue4
  t5 := Tryd.underlying5
  a5 := Tryd.isAgg5
  z5 := Tryd.sizeOf5
  v5 := Tryd.zeroValue5
  t9 := Tryd.underlying9
  a9 := Tryd.isAgg9
  z9 := Tryd.sizeOf9
  v9 := Tryd.zeroValue9
  t20 := Tryd.underlying20
  a20 := Tryd.isAgg20
  z20 := Tryd.sizeOf20
  v20 := Tryd.zeroValue20
  t37 := Tryd.underlying22
  a37 := Tryd.isAgg22
  z37 := Tryd.sizeOf22
  v37 := Tryd.zeroValue22
  t46 := Tryd.underlying136
  a46 := Tryd.isAgg136
  z46 := Tryd.sizeOf136
  v46 := Tryd.zeroValue136
  t51 := Tryd.underlying188
  a51 := Tryd.isAgg188
  z51 := Tryd.sizeOf188
  v51 := Tryd.zeroValue188
  t53 := Tryd.underlying26
  a53 := Tryd.isAgg26
  z53 := Tryd.sizeOf26
  v53 := Tryd.zeroValue26
  t171 := Tryd.underlying171
  a171 := Tryd.isAgg171
  z171 := Tryd.sizeOf171
  v171 := Tryd.zeroValue171
  t173 := Tryd.underlying174
  a173 := Tryd.isAgg174
  z173 := Tryd.sizeOf174
  v173 := Tryd.zeroValue174
  t212 := Tryd.underlying187
  a212 := Tryd.isAgg187
  z212 := Tryd.sizeOf187
  v212 := Tryd.zeroValue187
  t213 := Tryd.underlying138
  a213 := Tryd.isAgg138
  z213 := Tryd.sizeOf138
  t232 := Tryd.underlying24
  a232 := Tryd.isAgg24
  z232 := Tryd.sizeOf24
  v232 := Tryd.zeroValue24
  t233 := Tryd.underlying213
  a233 := Tryd.isAgg213
  z233 := Tryd.sizeOf213
  v233 := Tryd.zeroValue213
  g17 := by kernel_rfl
  g18 := by kernel_rfl
  g19 := by kernel_rfl
  i0 := by kernel_rfl
  i2 := by kernel_rfl
  i3 := by kernel_rfl
  i4 := by kernel_rfl
  i5 := by kernel_rfl
  i9 := by kernel_rfl
  i20 := by kernel_rfl
  i37 := by kernel_rfl
  i46 := by kernel_rfl
  i51 := by kernel_rfl
  i53 := by kernel_rfl
  i171 := by kernel_rfl
  i173 := by kernel_rfl
  i212 := by kernel_rfl
  i232 := by kernel_rfl
  i233 := by kernel_rfl
  m17 := by kernel_rfl
  m18 := by kernel_rfl
  m19 := by kernel_rfl }
open Go.RowKit Go.Sort Go.Lib in
theorem Tryd.strconv_Itoa (n : Int) (h0 : -9223372036854775808 ≤ n) (h1 : n ≤ 9223372036854775807) (w : World) (htab : Lib.TabIs Tryd.prog w "internal/strconv.uint64pow10" .u64 Lib.pow10Tab) :
    Calls Tryd.prog 104 #[.int .i64 n] w fun e w' => e = .returned (.string ⟨(Lib.itoa n).toArray⟩) ∧ ∃ k os, w' = grow (w.drewN k) os := Any.strconv_Itoa Tryd.laysM171 n h0 h1 w htab
def Tryd.lays146_ren : Go.Shelf.Ren := ⟨fun | 146 => 57 | 221 => 89 | 268 => 125 | 138 => 126 | 143 => 127 | 195 => 146 | 197 => 136 | 218 => 147 | 219 => 145 | 260 => 158 | 217 => 163 | 225 => 164 | 224 => 165 | 267 => 166 | 266 => 171 | 314 => 172 | n => n, fun | 9 => 9 | 31 => 84 | 3 => 3 | 4 => 4 | 0 => 0 | 105 => 181 | 21 => 21 | 5 => 5 | 46 => 136 | 119 => 208 | 139 => 211 | 138 => 210 | 146 => 214 | 51 => 188 | n => n, fun | 1 => 1 | 3 => 4 | 4 => 5 | n => n⟩
theorem Tryd.lays146 : Go.Proofs.Lays.n146 Tryd.prog Tryd.lays146_ren := {
  mixed := by kernel_rfl
  f138 := Tryd.func126.trans (congrArg some (by kernel_rfl))
  f143 := Tryd.func127.trans (congrArg some (by kernel_rfl))
  f146 := Tryd.func57.trans (congrArg some (by kernel_rfl))
  f195 := Tryd.func146.trans (congrArg some (by kernel_rfl))
  f197 := Tryd.func136.trans (congrArg some (by kernel_rfl))
  f217 := Tryd.func163.trans (congrArg some (by kernel_rfl))
  f218 := Tryd.func147.trans (congrArg some (by kernel_rfl))
  f219 := Tryd.func145.trans (congrArg some (by kernel_rfl))
  f221 := Tryd.func89.trans (congrArg some (by kernel_rfl))
  f224 := Tryd.func165.trans (congrArg some (by kernel_rfl))
  f225 := Tryd.func164.trans (congrArg some (by kernel_rfl))
  f260 := Tryd.func158.trans (congrArg some (by kernel_rfl))
  f266 := Tryd.func171.trans (congrArg some (by kernel_rfl))
  f267 := Tryd.func166.trans (congrArg some (by kernel_rfl))
  f268 := Tryd.func125.trans (congrArg some (by kernel_rfl))
  f314 := Tryd.func172.trans (congrArg some (by kernel_rfl))
  t0 := Tryd.underlying0
  a0 := Tryd.isAgg0
  z0 := Tryd.sizeOf0
  v0 := Tryd.zeroValue0
  t3 := Tryd.underlying3
  a3 := Tryd.isAgg3
  z3 := Tryd.sizeOf3
  v3 := Tryd.zeroValue3
  t4 := Tryd.underlying4
  a4 := Tryd.isAgg4
  z4 := Tryd.sizeOf4
  v4 := Tryd.zeroValue4
  t5 := Tryd.underlying5
  a5 := Tryd.isAgg5
  z5 := Tryd.sizeOf5
  v5 := Tryd.zeroValue5
  t9 := Tryd.underlying9
  a9 := Tryd.isAgg9
  z9 := Tryd.sizeOf9
  v9 := Tryd.zeroValue9
  t21 := Tryd.underlying21
  a21 := Tryd.isAgg21
  z21 := Tryd.sizeOf21
  v21 := Tryd.zeroValue21
  t31 := Tryd.underlying84
  a31 := Tryd.isAgg84
  z31 := Tryd.sizeOf84
  v31 := Tryd.zeroValue84
  t46 := Tryd.underlying136
  a46 := Tryd.isAgg136
  z46 := Tryd.sizeOf136
  v46 := Tryd.zeroValue136
  t51 := Tryd.underlying188
  a51 := Tryd.isAgg188
  z51 := Tryd.sizeOf188
  v51 := Tryd.zeroValue188
  t105 := Tryd.underlying181
  a105 := Tryd.isAgg181
  z105 := Tryd.sizeOf181
  v105 := Tryd.zeroValue181
  t119 := Tryd.underlying208
  a119 := Tryd.isAgg208
  z119 := Tryd.sizeOf208
  t138 := Tryd.underlying210
  a138 := Tryd.isAgg210
  z138 := Tryd.sizeOf210
  v138 := Tryd.zeroValue210
  t139 := Tryd.underlying211
  a139 := Tryd.isAgg211
  z139 := Tryd.sizeOf211
  v139 := Tryd.zeroValue211
  t146 := Tryd.underlying214
  a146 := Tryd.isAgg214
  z146 := Tryd.sizeOf214
  v146 := Tryd.zeroValue214
  g1 := by kernel_rfl
  g3 := by kernel_rfl
  g4 := by kernel_rfl }
open Go.RowKit Go.Lib in
theorem Tryd.strings_Split (s sep : ByteArray) (m : Int) (w : World) (hs : s.size < 4294967281) (hm : w.cell? ⟨1, 0, none⟩ = some (.int .i64 m)) (h1 : 1 ≤ sep.size) :
    Calls Tryd.prog 57 #[.string s, .string sep] w fun e w' =>
      e = .returned (.slice (some ⟨w.heap.size, 0, none⟩) (Lib.countB s sep + 1) (Lib.countB s sep + 1)) ∧ w' = w.alloc (.cells ((Lib.splitB sep 0 (Lib.countB s sep) s).map Value.string).toArray 9) := Any.strings_Split Tryd.lays146 (by kernel_rfl) s sep m w hs hm h1
end Go.Proofs
