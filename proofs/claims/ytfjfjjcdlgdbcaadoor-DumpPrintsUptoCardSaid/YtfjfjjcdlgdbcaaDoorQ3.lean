/- the texts E7, E8, E9 of this proof, one behind the other -/
import Derived.Test.YtfjfjjcdlgdbcaaDoorQ2
import Derived.Laws.RangeAny
namespace Go.Proofs.YtfjfjjcdlgdbcaaDoor
open Go.RowKit

def anyNil (l : List (List UInt8 × List UInt8)) : Bool := l.any fun kv => kv.1.isEmpty
theorem anyNil_succ (l : List (List UInt8 × List UInt8)) (k : Nat) (h : k < l.length) : anyNil (l.take (k + 1)) = (anyNil (l.take k) || (l.getD k ([], [])).1.isEmpty) := by
  rw [List.take_succ_eq_append_getElem h]
  simp only [anyNil, List.any_append, List.any_cons, List.any_nil, Bool.or_false, List.getD_eq_getElem?_getD, List.getElem?_eq_getElem h, Option.getD_some]
theorem anyNil_yes (l : List (List UInt8 × List UInt8)) (k : Nat) (h : k < l.length) (h1 : (l.getD k ([], [])).1.isEmpty = true) : anyNil l = true := by
  rw [anyNil, List.any_eq_true]
  exact ⟨l[k], List.getElem_mem h, by simpa [List.getD_eq_getElem?_getD, List.getElem?_eq_getElem h] using h1⟩
theorem isNil_calls (B : Option Addr) (m d : Nat) (v : Value) (w : World) (hm : m ≤ 9223372036854775807) :
    Calls Tryd.prog 64 #[.agg #[.slice B m d, v]] w fun e w' => e = .returned (.bool (decide (m = 0))) ∧ Below w.heap.size w w' := by
  go_enter Tryd.func64, Tryd.ntmps64
  go_wp2
  go_ret
  rw [show ((m : Int) == 0) = decide (m = 0) from by rw [Bool.eq_iff_iff]; simp]
  exact ⟨rfl, al (Below.refl _ _) _⟩

set_option maxRecDepth 100000 in
set_option maxHeartbeats 2000000 in
theorem index103_calls (lA : Option Addr) (ln lc : Nat) (kvs : List (List UInt8 × List UInt8)) (w : World) (h : RdKV w lA ln lc kvs) :
    Calls Tryd.prog 103 #[.slice lA ln lc, .func (.func 64) #[] #[]] w fun e w' => (∃ i : Int, e = .returned (.int .i64 i) ∧ (0 ≤ i ↔ anyNil kvs = true) ∧ -1 ≤ i) ∧ Below w.heap.size w w' := by
  have hm : ln ≤ 9223372036854775807 := by have := h.2.1; have := h.2.2.1; unfold maxLen at this; omega
  have H := Lib.hid h
  clear h
  go_enter Tryd.func103, Tryd.ntmps103
  go_wp2
  go_loopw [8] (fun i wr => ∃ k : Nat, k ≤ ln ∧ i = .int .i64 k ∧ anyNil (kvs.take k) = false ∧ Below w.heap.size w wr) (fun i _ => ln - (intOf i).toNat)
  case atStart => exact ⟨0, by omega, rfl, rfl, Below.refl _ _⟩
  case round =>
    obtain ⟨k, hk, rfl, ha, hb⟩ := hrel
    have hbs := hb.size
    by_cases hlt : k < ln
    · obtain ⟨g, o, B, m, d, B', m', d', rfl, hgk, hc1, hr1, hc2, hr2⟩ := (H.out.below hb).at_ hlt
      have hkl : k < kvs.length := by have := H.out.1; omega
      have hs := Lib.hid (anyNil_succ kvs k hkl)
      have hy := Lib.hid (anyNil_yes kvs k hkl)
      have hml := hr1.1
      have hmx : m ≤ 9223372036854775807 := by have := hr1.2.1; have := hr1.2.2.1; unfold maxLen at this; omega
      clear hr2 hgk hr1
      generalize (kvs.getD k ([], [])).1 = ys at *
      have hc := Lib.hid (fun W => isNil_calls B m d (.slice B' m' d') W hmx)
      by_cases hz : m = 0
      · have hd : decide (m = 0) = true := decide_eq_true hz
        rw [hd] at hc
        have hys : ys = [] := List.eq_nil_of_length_eq_zero (by omega)
        have hyy := Lib.hid (hy.out (by rw [hys]; rfl))
        clear hd hz hys
        go_wp2_with (go_at_call 64; refine (hc.out _).mono ?_; rintro e w1 ⟨rfl, hb1⟩)
        go_ret
        exact ⟨⟨k, rfl, ⟨fun _ => hyy.out, fun _ => by omega⟩, by omega⟩, thn hb hb1⟩
      · have hd : decide (m = 0) = false := decide_eq_false hz
        rw [hd] at hc
        have hys : ys.isEmpty = false := by
          cases ys with
          | nil => exact absurd hml.symm hz
          | cons _ _ => rfl
        clear hd hz
        go_wp2_with (go_at_call 64; refine (hc.out _).mono ?_; rintro e w1 ⟨rfl, hb1⟩)
        go_roundw
        case rel => exact ⟨k + 1, by omega, by go_num, by rw [hs.out, ha, hys]; rfl, thn hb hb1⟩
        case measure => simp [intOf]; omega
    · obtain rfl : k = ln := by omega
      rw [List.take_of_length_le (by have := H.out.1; omega)] at ha
      go_wp2
      go_ret
      exact ⟨⟨-1, rfl, ⟨fun h => absurd h (by omega), fun h => by rw [ha] at h; cases h⟩, by omega⟩, hb⟩

theorem contains_calls (lA : Option Addr) (ln lc : Nat) (kvs : List (List UInt8 × List UInt8)) (w : World) (h : RdKV w lA ln lc kvs) :
    Calls Tryd.prog 63 #[.slice lA ln lc, .func (.func 64) #[] #[]] w fun e w' => e = .returned (.bool (anyNil kvs)) ∧ Below w.heap.size w w' := by
  have hx := Lib.hid (index103_calls lA ln lc kvs w h)
  clear h
  go_enter Tryd.func63, Tryd.ntmps63
  go_wp2_with (go_at_call 103; refine hx.out.mono ?_; rintro e w1 ⟨⟨i, rfl, hi, hi1⟩, hb1⟩; have HI := Lib.hid hi; clear hi)
  go_ret
  refine ⟨?_, hb1⟩
  have : decide (0 ≤ i) = anyNil kvs := by
    rw [Bool.eq_iff_iff, decide_eq_true_iff]; exact HI.out
  simp [this]
end Go.Proofs.YtfjfjjcdlgdbcaaDoor
namespace Go.Proofs.YtfjfjjcdlgdbcaaDoor
open Go.RowKit

section
variable {P : Program}
theorem run_next_at (W : World) (k : Nat) (s : ByteArray) (pos : Nat) (ty : TypeId) (hk : W.heap[k]? = some (.stringIter s pos)) (h : pos < s.size) :
    (Instr.next (.pointer (some ⟨k, 0, none⟩)) true ty).run P W = .ok (.tuple #[.bool true, .int .i64 pos, .int .i32 (Utf8.decode s pos).1]) { W with heap := W.heap.setIfInBounds k (.stringIter s (pos + (Utf8.decode s pos).2)) } := by
  have hlt : k < W.heap.size := (Array.getElem?_eq_some_iff.1 hk).1
  simp only [Instr.next, getObj, setObj, Sem.run_bind, Sem.run, hk, Result.andThen, h, if_true]
  simp [goInt]
theorem run_next_at_end (W : World) (k : Nat) (s : ByteArray) (pos : Nat) (ty : TypeId) (hk : W.heap[k]? = some (.stringIter s pos)) (h : ¬ pos < s.size) :
    (Instr.next (.pointer (some ⟨k, 0, none⟩)) true ty).run P W = .ok (.tuple #[.bool false]) W := by
  simp [Instr.next, getObj, Sem.run, hk, h]
/-- the next rune of a string -/
theorem wpList_nextS {ops : Array Oper} {rest : List Oper} {o : Oper} {a : Act} {W : World} {Q : Exit → Act → World → Prop} (hgd : o.guard = none) (x : Operand) (ho : o.op = .next x true)
    (k : Nat) (hx : a.eval x = .pointer (some ⟨k, 0, none⟩)) (s : ByteArray) (pos : Nat) (hk : W.heap[k]? = some (.stringIter s pos)) (hp : pos < s.size)
    (h : ∀ W', W'.heap[k]? = some (.stringIter s (pos + (Utf8.decode s pos).2)) → Below k W W' → W'.heap.size = W.heap.size →
      wpList P ops Q rest (a.put o.dst (.tuple #[.bool true, .int .i64 pos, .int .i32 (Utf8.decode s pos).1])) W') : wpList P ops Q (o :: rest) a W :=
  wpList_plain hgd fun K hK => by
    have hlt : k < W.heap.size := (Array.getElem?_eq_some_iff.1 hk).1
    unfold Oper.wp execOp
    simp only [ho, hx, Sem.run_bind, Sem.run_pure, run_next_at W k s pos o.type hk hp, Result.andThen_ok]
    refine hK _ _ (h _ ?_ ⟨rfl, rfl, rfl, ?_, fun i hi => ?_⟩ ?_)
    · simp [hlt]
    · simp
    · show (W.heap.setIfInBounds k _)[i]? = W.heap[i]?
      rw [Array.getElem?_setIfInBounds, if_neg (by omega)]
    · simp
theorem wpList_nextE {ops : Array Oper} {rest : List Oper} {o : Oper} {a : Act} {W : World} {Q : Exit → Act → World → Prop} (hgd : o.guard = none) (x : Operand) (ho : o.op = .next x true)
    (k : Nat) (hx : a.eval x = .pointer (some ⟨k, 0, none⟩)) (s : ByteArray) (pos : Nat) (hk : W.heap[k]? = some (.stringIter s pos)) (hp : ¬ pos < s.size)
    (h : wpList P ops Q rest (a.put o.dst (.tuple #[.bool false])) W) : wpList P ops Q (o :: rest) a W :=
  wpList_plain hgd fun K hK => by
    unfold Oper.wp execOp
    simp only [ho, hx, Sem.run_bind, Sem.run_pure, run_next_at_end W k s pos o.type hk hp, Result.andThen_ok]
    exact hK _ _ h
end
theorem decode_at (xs : List UInt8) (pos : Nat) (h : pos < xs.length) (ha : (xs.getD pos 0).toNat < 128) : Utf8.decode (str xs) pos = ((xs.getD pos 0).toNat, 1) := by
  have e : ((str xs)[pos]'h).toNat = (xs.getD pos 0).toNat := by
    show (xs.toArray[pos]'h).toNat = _
    simp [List.getD_eq_getElem?_getD, List.getElem?_eq_getElem h]
  rw [decode_ascii (str xs) pos h (by rw [e]; exact ha), e]
theorem str_append (a b : List UInt8) : str a ++ str b = str (a ++ b) := by
  apply ByteArray.ext
  simp [str, ByteArray.data_append]
def World.iterAt (W : World) (k : Nat) : Nat := match W.heap[k]? with | some (.stringIter _ p) => p | _ => 0
theorem iterAt_of {W : World} {k : Nat} {s : ByteArray} {p : Nat} (h : W.heap[k]? = some (.stringIter s p)) : World.iterAt W k = p := by unfold World.iterAt; rw [h]

/-- an act's line -/
def fieldsT (A : ActP) (fs : List UInt8) : List UInt8 := (fs.map fun c => 32 :: fieldL A (c.toNat : Int)).flatten
def printT (A : ActP) : List UInt8 := kw A.kind ++ fieldsT A (kf A.kind)
instance (n : Int) : Decidable (isKind n) := by unfold isKind; infer_instance
def badA (A : ActP) : Bool := !(decide (isKind A.kind)) || (decide (A.kind = 22) && anyNil A.l)
def printV (A : ActP) : Value := if badA A then .tuple #[.string ⟨#[]⟩, .int .i64 203] else .tuple #[.string (str (printT A)), .int .i64 0]
theorem fieldsT_take (A : ActP) (fs : List UInt8) (k : Nat) (h : k < fs.length) : fieldsT A (fs.take (k + 1)) = fieldsT A (fs.take k) ++ 32 :: fieldL A ((fs.getD k 0).toNat : Int) := by
  rw [List.take_succ_eq_append_getElem h]
  simp only [fieldsT, List.map_append, List.map_cons, List.map_nil, List.flatten_append, List.flatten_cons, List.flatten_nil, List.append_nil, List.getD_eq_getElem?_getD, List.getElem?_eq_getElem h, Option.getD_some]
theorem kf_ascii (n : Int) : ∀ c ∈ kf n, c.toNat < 128 := by
  by_cases h : isKind n
  · have : ∀ k : Fin 28, ∀ c ∈ (kt.getD k.val ([], [])).2, c.toNat < 128 := by decide +kernel
    have h2 := this ⟨n.toNat, by unfold isKind at h; omega⟩
    unfold kf
    rw [if_pos (by unfold isKind at h; omega)]
    exact h2
  · rw [kf_no n h]; simp

theorem printed_calls (A : ActP) (bA : Option Addr) (bn bc : Nat) (lA : Option Addr) (ln lc : Nat) (c : Int) (w : World) (h : RdAct w A bA bn bc lA ln lc) (hS : A.Small) (hL : LaidW w) :
    Calls Tryd.prog 66 #[.agg (ak A (.slice bA bn bc) (.slice lA ln lc)), .int .i32 c] w fun e w' => e = .returned (.string (str (fieldL A c))) ∧ Below w.heap.size w w' := by
  obtain ⟨hF, hb, hl⟩ := h
  unfold fieldL
  split
  · rename_i e; subst e; exact printed_addr A _ _ w hF
  · split
    · rename_i e; subst e; exact printed_key A _ _ w hF
    · split
      · rename_i e; subst e; exact printed_word A _ _ w hF
      · split
        · rename_i e; subst e; exact printed_root A _ _ w hF
        · split
          · rename_i e; subst e; exact printed_n A _ _ w hF hL
          · split
            · rename_i e; subst e; exact printed_m A _ _ w hF hL
            · split
              · rename_i e; subst e; exact printed_b A _ _ _ _ w hF hb hS.hb
              · exact printed_l A _ _ _ _ c w hF hl hS ⟨by assumption, by assumption, by assumption, by assumption, by assumption, by assumption, by assumption⟩
theorem idx_kind (n : Int) (h : isKind n) (W : World) : (Instr.index 117 (.agg kindsV) (.int .i64 n)).run Tryd.prog W = .ok (.agg #[.string (str (kw n)), .string (str (kf n))]) W := by
  unfold isKind at h
  by_cases h1 : n = 1
  · subst h1; kernel_rfl
  by_cases h2 : n = 2
  · subst h2; kernel_rfl
  by_cases h3 : n = 3
  · subst h3; kernel_rfl
  by_cases h4 : n = 4
  · subst h4; kernel_rfl
  by_cases h5 : n = 5
  · subst h5; kernel_rfl
  by_cases h6 : n = 6
  · subst h6; kernel_rfl
  by_cases h7 : n = 7
  · subst h7; kernel_rfl
  by_cases h8 : n = 8
  · subst h8; kernel_rfl
  by_cases h9 : n = 9
  · subst h9; kernel_rfl
  by_cases h10 : n = 10
  · subst h10; kernel_rfl
  by_cases h11 : n = 11
  · subst h11; kernel_rfl
  by_cases h12 : n = 12
  · subst h12; kernel_rfl
  by_cases h13 : n = 13
  · subst h13; kernel_rfl
  by_cases h14 : n = 14
  · subst h14; kernel_rfl
  by_cases h15 : n = 15
  · subst h15; kernel_rfl
  by_cases h16 : n = 16
  · subst h16; kernel_rfl
  by_cases h17 : n = 17
  · subst h17; kernel_rfl
  by_cases h18 : n = 18
  · subst h18; kernel_rfl
  by_cases h19 : n = 19
  · subst h19; kernel_rfl
  by_cases h20 : n = 20
  · subst h20; kernel_rfl
  by_cases h21 : n = 21
  · subst h21; kernel_rfl
  by_cases h22 : n = 22
  · subst h22; kernel_rfl
  by_cases h23 : n = 23
  · subst h23; kernel_rfl
  by_cases h24 : n = 24
  · subst h24; kernel_rfl
  by_cases h25 : n = 25
  · subst h25; kernel_rfl
  by_cases h26 : n = 26
  · subst h26; kernel_rfl
  by_cases h27 : n = 27
  · subst h27; kernel_rfl
  omega
end Go.Proofs.YtfjfjjcdlgdbcaaDoor
namespace Go.Proofs.YtfjfjjcdlgdbcaaDoor
open Go.RowKit
set_option linter.unusedSimpArgs false
set_option linter.unusedVariables false

theorem Tryd.agg64 : AggT Tryd.prog 64 121 := by
  refine ⟨?_, by kernel_rfl⟩
  rw [Tryd.underlying64]; exact rfl
theorem Tryd.agg116 : AggT Tryd.prog 116 2 := by
  refine ⟨?_, by kernel_rfl⟩
  rw [Tryd.underlying116]; exact rfl
theorem armH_storeAgg {P : Program} (w : World) {ops : Array Oper} {o : Oper} {a : Act} {K : Act → World → Prop} {Q : Exit → Act → World → Prop} {E : Prop}
    (hgd : o.guard = none) (hdst : o.dst = none) (ty : TypeId) (x y : Operand) (ho : o.op = .store ty x y)
    (g p : Nat) (hx : a.eval x = .pointer (some ⟨g, p, none⟩)) (vs : Array Value) (hy : a.eval y = .agg vs) (ht : AggT P ty vs.size) (hr : RoomAt w g p vs.size) (h1 : AllOne vs.toList)
    (h : K a (w.setCells g p vs.toList)) : if Region.wanted o (yielded ops a.tmps) = true then Oper.wp P o a w K Q else E := by
  have hw : Region.wanted o (yielded ops a.tmps) = true := by simp [Region.wanted, hgd]
  rw [if_pos hw]
  unfold Oper.wp execOp
  simp only [ho, hx, hy, Instr.storeAt, Instr.sureAddr, Sem.run_bind, Sem.run_pure, Result.andThen_ok, run_storeAgg w ty g p vs ht hr h1]
  show K (a.put o.dst undef) _
  rw [hdst]
  exact h
theorem itoa_len (n : Int) (h0 : -9223372036854775808 ≤ n) (h1 : n ≤ 9223372036854775807) : (Lib.itoa n).length ≤ 21 := by
  unfold Lib.itoa
  split
  · have := dec_len n.natAbs (by omega)
    simp only [List.length_cons]; omega
  · have := dec_len n.toNat (by omega)
    omega
theorem dotL_len (xs : List UInt8) : (dotL xs).length ≤ xs.length + 1 := by
  unfold dotL; split
  · simp
  · omega
theorem fieldL_len (A : ActP) (h : A.Fit) (hS : A.Small) (c : Int) : (fieldL A c).length ≤ 10000000000000 := by
  unfold fieldL
  repeat' split
  · rw [hexL_length, h.ha]; omega
  · rw [hexL_length, h.hk]; omega
  · rw [hexL_length, h.hw]; omega
  · rw [hexL_length, h.hr]; omega
  · have := itoa_len _ h.hn0 h.hn1; omega
  · have := itoa_len _ h.hm0 h.hm1; omega
  · have := dotL_len (hexL A.b)
    rw [hexL_length] at this
    have := hS.hb
    omega
  · unfold listL
    split
    · simp
    · have := join_len (keysT A.l) 4000000 (fun s hs => by
        obtain ⟨kv, hkv, rfl⟩ := List.mem_map.1 hs
        rw [hexL_length]
        have := hS.hkv kv hkv
        omega)
      have h2 : (keysT A.l).length * (4000000 + 1) ≤ 2000000 * 4000001 := Nat.mul_le_mul (by rw [keysT, List.length_map]; exact hS.hl) (by omega)
      omega
theorem fieldsT_len (A : ActP) (h : A.Fit) (hS : A.Small) (fs : List UInt8) (hl : fs.length ≤ 10) : (fieldsT A fs).length ≤ 1000000000000000 := by
  have key : ∀ fs : List UInt8, (fieldsT A fs).length ≤ fs.length * 10000000000001 := by
    intro fs
    induction fs with
    | nil => simp [fieldsT]
    | cons c fs ih =>
      have := fieldL_len A h hS (c.toNat : Int)
      simp only [fieldsT, List.map_cons, List.flatten_cons, List.length_append, List.length_cons] at ih ⊢
      omega
  have := key fs
  have h2 : fs.length * 10000000000001 ≤ 10 * 10000000000001 := Nat.mul_le_mul hl (Nat.le_refl _)
  omega
theorem kt_len (n : Int) : (kf n).length ≤ 10 ∧ (kw n).length ≤ 10 := by
  by_cases h : isKind n
  · have : ∀ k : Fin 28, (kt.getD k.val ([], [])).2.length ≤ 10 ∧ (kt.getD k.val ([], [])).1.length ≤ 10 := by decide +kernel
    have h2 := this ⟨n.toNat, by unfold isKind at h; omega⟩
    unfold kf kw
    rw [if_pos (by unfold isKind at h; omega), if_pos (by unfold isKind at h; omega)]
    exact h2
  · rw [kf_no n h, kw_no n h]; simp
theorem printV_bad (A : ActP) (h : badA A = true) : printV A = .tuple #[.string ⟨#[]⟩, .int .i64 203] := by rw [printV, if_pos h]
theorem printV_ok (A : ActP) (h : badA A = false) : printV A = .tuple #[.string (str (printT A)), .int .i64 0] := by rw [printV, if_neg (by rw [h]; simp)]

set_option maxRecDepth 100000 in
set_option maxHeartbeats 4000000 in
theorem Print_calls (A : ActP) (bA : Option Addr) (bn bc : Nat) (lA : Option Addr) (ln lc : Nat) (w : World) (h : RdAct w A bA bn bc lA ln lc) (hS : A.Small) (hL : LaidW w) :
    Calls Tryd.prog 35 #[.agg (ak A (.slice bA bn bc) (.slice lA ln lc))] w fun e w' => e = .returned (printV A) ∧ Below w.heap.size w w' := by
  have g0 := ak_0 A (.slice bA bn bc) (.slice lA ln lc)
  have g8 : (ak A (.slice bA bn bc) (.slice lA ln lc))[120]? = some (.slice lA ln lc) := ak_tail A _ _ h.1 3
  have hk0 := h.1.hk0
  have hk1 := h.1.hk1
  have hw0 : Below w.heap.size w (w.alloc (.cells (ak A (.slice bA bn bc) (.slice lA ln lc)) 64)) := al (Below.refl _ _) _
  have hR0 := Lib.hid (h.below hw0)
  have hL0 := Lib.hid (hL.below hw0)
  have hB0 := Lib.hid (Blk.new w 64 (ak A (.slice bA bn bc) (.slice lA ln lc)))
  have hsz : Hid ((ak A (.slice bA bn bc) (.slice lA ln lc)).toList.length = 121) := by rw [Array.length_toList]; exact ak_size A _ _ h.1
  have HS := Lib.hid hS
  have hW0 := Lib.hid hw0
  clear h hL hS hw0
  by_cases h1 : A.kind < 1
  · have hv := Lib.hid (printV_bad A (by unfold badA isKind; rw [show decide (1 ≤ A.kind ∧ A.kind ≤ 27) = false from decide_eq_false (by omega)]; simp))
    go_enter Tryd.func35, Tryd.ntmps35
    go_wp2
    go_ret2
    exact ⟨by rw [hv.out]; rfl, hW0.out⟩
  by_cases h2 : 27 < A.kind
  · have hv := Lib.hid (printV_bad A (by unfold badA isKind; rw [show decide (1 ≤ A.kind ∧ A.kind ≤ 27) = false from decide_eq_false (by omega)]; simp))
    go_enter Tryd.func35, Tryd.ntmps35
    go_wp2
    go_ret2
    exact ⟨by rw [hv.out]; rfl, hW0.out⟩
  have hK := Lib.hid (show isKind A.kind from ⟨by omega, by omega⟩)
  have hix := Lib.hid (idx_kind A.kind hK.out)
  by_cases h22 : A.kind = 22
  · have hcn := Lib.hid (contains_calls lA ln lc A.l _ hR0.out.2.2)
    by_cases hn : anyNil A.l = true
    · have hv := Lib.hid (printV_bad A (by unfold badA; rw [decide_eq_true hK.out, decide_eq_true h22, hn]; rfl))
      rw [hn] at hcn
      go_enter Tryd.func35, Tryd.ntmps35
      go_wp2_with (go_at_call 63; refine hcn.out.mono ?_; rintro e w1 ⟨rfl, hb1⟩)
      go_ret2
      exact ⟨by rw [hv.out]; rfl, thn hW0.out hb1⟩
    · have hn' : anyNil A.l = false := by simpa using hn
      have hv := Lib.hid (printV_ok A (by unfold badA; rw [decide_eq_true hK.out, hn']; simp))
      rw [hn'] at hcn
      have e22 : (A.kind == 22) = true := by simpa using h22
      clear hn hn' h22
      go_enter Tryd.func35, Tryd.ntmps35
      go_upto_region 5 with (go_at_call 63; refine hcn.out.mono ?_; rintro e w1 ⟨rfl, hb1⟩)
      have hB1 := Lib.hid (hB0.out.below hb1 (by simp))
      have hR1 := Lib.hid (hR0.out.below hb1)
      have hL1 := Lib.hid (hL0.out.below hb1)
      have hW1 := Lib.hid (thn hW0.out hb1)
      have hkc : ∀ W, Below w1.heap.size w1 W → W.cell? ⟨w.heap.size, 0, none⟩ = some (Value.int .i64 A.kind) := fun W hW => by rw [(hB1.out.below hW hB1.out.lt).cell]; exact g0
      have HKC := Lib.hid hkc
      clear hkc
      go_cut [4] (fun s4 wz => ∃ bx : Nat, s4 = .pointer (some ⟨bx, 0, none⟩) ∧ Blk wz bx 116 #[.string (str (kw A.kind)), .string (str (kf A.kind))] ∧ Below w1.heap.size w1 wz)
      case first =>
        refine wp_region_held_drew (S := (fun W => W.cell? ⟨w.heap.size, 0, none⟩ = some (Value.int .i64 A.kind))) (by kernel_rfl) (HKC.out _ (Below.refl _ _).drew) (fun hHeld => ?_)
        refine wpAnyH_take (i := 1) (v := .pointer (some ⟨w.heap.size, 0, none⟩)) rfl (by kernel_rfl) (by kernel_rfl) (by kernel_rfl) (fun _ _ _ h => h) (.inl ⟨by rfl, fun W hS => by go_simp⟩) hHeld ?_
        simp only [Act.put, List.setIfInBounds_toArray, List.set_cons_zero, List.set_cons_succ, List.getElem_toArray, List.getElem_cons_succ, List.getElem_cons_zero]
        refine wpAnyH_take (i := 2) (v := .int .i64 A.kind) rfl (by kernel_rfl) (by kernel_rfl) (by kernel_rfl) (fun _ _ _ h => h) (.inl ⟨by rfl, fun W hS => by (have hS : W.cell? ⟨w.heap.size, 0, none⟩ = some (Value.int .i64 A.kind) := hS); go_simp⟩) hHeld ?_
        simp only [Act.put, List.setIfInBounds_toArray, List.set_cons_zero, List.set_cons_succ, List.getElem_toArray, List.getElem_cons_succ, List.getElem_cons_zero]
        refine wpAnyH_ready (rs := [0, 4]) (by kernel_rfl) (by simp) ?_
        refine AllReadyH.cons rfl (fun K hK => ?_) (AllReadyH.cons rfl (fun K hK => ?_) AllReadyH.nil)
        · go_simp
          go_wp2_with (go_at_call 65; refine (kinds_calls _).mono ?_; rintro e w2 ⟨rfl, hb2⟩)
          have hq2 : Below w1.heap.size w1 w2 := (Below.refl _ _).drew.trans hb2
          refine hK.out _ _ (HKC.out _ hq2) (fun hHeld => ?_)
          clear hK K
          refine wpAnyH_take (i := 3) (v := .agg #[.string (str (kw A.kind)), .string (str (kf A.kind))]) rfl (by kernel_rfl) (by kernel_rfl) (by kernel_rfl) (fun _ _ _ h => h) (.inl ⟨by rfl, fun W hS => by (have h3 := hix.out W); go_simp⟩) hHeld ?_
          simp only [Act.put, List.setIfInBounds_toArray, List.set_cons_zero, List.set_cons_succ, List.getElem_toArray, List.getElem_cons_succ, List.getElem_cons_zero]
          refine wpAnyH_ready (rs := [4]) (by kernel_rfl) (by simp) ?_
          refine AllReadyH.cons rfl (fun K hK => ?_) AllReadyH.nil
          go_simp
          refine hK.out _ _ (HKC.out _ (al hq2 _)) (fun hHeld => ?_)
          clear hK K
          refine wpAnyH_ready (rs := [5]) (by kernel_rfl) (by simp) ?_
          refine AllReadyH.cons rfl (fun K hK => ?_) AllReadyH.nil
          go_simp
          refine hK.out _ _ (HKC.out _ (al hq2 _)) (fun hHeld => ?_)
          clear hK K
          refine wpAnyH_done (by kernel_rfl) ?_ _
          go_wp2_with fail
          go_meet
          exact ⟨w2.heap.size, rfl, Blk.new _ _ _, al hq2 _⟩
        · go_simp
          have hq1 := al (Below.refl w1.heap.size w1).drew (.cells #[.string ⟨#[]⟩, .string ⟨#[]⟩] 116)
          refine hK.out _ _ (HKC.out _ hq1) (fun hHeld => ?_)
          clear hK K
          refine wpAnyH_ready (rs := [0]) (by kernel_rfl) (by simp) ?_
          refine AllReadyH.cons rfl (fun K hK => ?_) AllReadyH.nil
          go_simp
          go_wp2_with (go_at_call 65; refine (kinds_calls _).mono ?_; rintro e w2 ⟨rfl, hb2⟩)
          have hq2 : Below w1.heap.size w1 w2 := thn hq1 hb2
          have hbx : Blk w2 w1.heap.size 116 #[.string ⟨#[]⟩, .string ⟨#[]⟩] := (Blk.new w1.drew 116 _).below hb2 (by simp)
          refine hK.out _ _ (HKC.out _ hq2) (fun hHeld => ?_)
          clear hK K
          refine wpAnyH_take (i := 3) (v := .agg #[.string (str (kw A.kind)), .string (str (kf A.kind))]) rfl (by kernel_rfl) (by kernel_rfl) (by kernel_rfl) (fun _ _ _ h => h) (.inl ⟨by rfl, fun W hS => by (have h3 := hix.out W); go_simp⟩) hHeld ?_
          simp only [Act.put, List.setIfInBounds_toArray, List.set_cons_zero, List.set_cons_succ, List.getElem_toArray, List.getElem_cons_succ, List.getElem_cons_zero]
          refine wpAnyH_ready (rs := [5]) (by kernel_rfl) (by simp) ?_
          refine AllReadyH.cons rfl (fun K hK => ?_) AllReadyH.nil
          refine armH_storeAgg _ rfl rfl 116 (.tmp 4) (.tmp 27) rfl w1.heap.size 0 rfl #[.string (str (kw A.kind)), .string (str (kf A.kind))] rfl Tryd.agg116 (hbx.room 0 2 (by simp)) (by intro v hv; simp at hv; rcases hv with rfl | rfl <;> rfl) ?_
          simp only [Act.put, List.setIfInBounds_toArray, List.set_cons_zero, List.set_cons_succ, List.getElem_toArray, List.getElem_cons_succ, List.getElem_cons_zero]
          refine hK.out _ _ (HKC.out _ (below_setCells hq2 _ _ _ (Nat.le_refl _))) (fun hHeld => ?_)
          clear hK K
          refine wpAnyH_done (by kernel_rfl) ?_ _
          go_wp2_with fail
          go_meet
          exact ⟨w1.heap.size, rfl, hbx.setCells _ 0 (by simp), below_setCells hq2 _ _ _ (Nat.le_refl _)⟩
      case rest =>
        obtain ⟨wz, rfl⟩ : ∃ wz : World, wz = wc := ⟨_, rfl⟩
        obtain ⟨bx, rfl, hbk, hbz⟩ := hcut
        have hB2 := Lib.hid (hB1.out.below hbz hB1.out.lt)
        have hR2 := hR1.out.below hbz
        have hL2 := hL1.out.below hbz
        have hW2 := Lib.hid (thn hW1.out hbz)
        have hc0 : wz.cell? ⟨bx, 0, none⟩ = some (.string (str (kw A.kind))) := by rw [hbk.cell]; rfl
        have hc1 : wz.cell? ⟨bx, 1, none⟩ = some (.string (str (kf A.kind))) := by rw [hbk.cell]; rfl
        have hpc := Lib.hid (fun (c : Int) W (hW : Below wz.heap.size wz W) => printed_calls A bA bn bc lA ln lc c W (hR2.below hW) HS.out (hL2.below hW))
        have hag := Lib.hid (fun W (hW : Below wz.heap.size wz W) => cellsAt_blk (hB2.out.below hW hB2.out.lt))
        have hAT : Hid (AggT Tryd.prog 64 (ak A (.slice bA bn bc) (.slice lA ln lc)).toList.length) := by rw [hsz.out]; exact Tryd.agg64
        have hvT : Hid (printV A = .tuple #[.string (str (kw A.kind ++ fieldsT A (kf A.kind))), .int .i64 0]) := hv.out
        have hasc := kf_ascii A.kind
        have hfl := Lib.hid (fieldL_len A hR2.1 HS.out)
        have hfs := Lib.hid (fieldsT_len A hR2.1 HS.out)
        have hlen := Lib.hid (kt_len A.kind)
        clear hR2 hL2 hR1 hL1 hW1 hB1 hbz hbk HKC hv hix hR0 hL0 hB0 hb1 g0 g8 hW0 hsz HS hK e22
        generalize kf A.kind = fs at *
        generalize kw A.kind = kws at *
        have HASC := Lib.hid hasc
        clear hasc
        go_wp2
        go_loopw [5] (fun v wr => ∃ k : Nat, k ≤ fs.length ∧ v = .string (str (kws ++ fieldsT A (fs.take k))) ∧ wr.heap[wz.heap.size]? = some (.stringIter (str fs) k) ∧ Below wz.heap.size wz wr) (fun _ wr => fs.length - World.iterAt wr wz.heap.size)
        case atStart => exact ⟨0, by omega, by simp [fieldsT], heap_alloc_new wz _, al (Below.refl _ _) _⟩
        case round =>
          obtain ⟨k, hk, rfl, hit, hb⟩ := hrel
          have hbs := hb.size
          by_cases hlt : k < fs.length
          · have hdec := Lib.hid (decode_at fs k hlt (HASC.out _ (by rw [List.getD_eq_getElem?_getD, List.getElem?_eq_getElem hlt]; exact List.getElem_mem hlt)))
            have hft := Lib.hid (fieldsT_take A fs k hlt)
            have hlt' : k < (str fs).size := hlt
            generalize fs.getD k 0 = c at hdec hft
            have hn1 : ¬ 9223372036854775807 < 1 + (str (fieldL A (c.toNat : Int))).size := by
              rw [str_size]
              have := hfl.out (c.toNat : Int)
              omega
            have hn2 : ¬ 9223372036854775807 < (str (kws ++ fieldsT A (fs.take k))).size + (1 + (str (fieldL A (c.toNat : Int))).size) := by
              rw [str_size, str_size, List.length_append]
              have := hfl.out (c.toNat : Int)
              have := hfs.out (fs.take k) (by rw [List.length_take]; have := hlen.out; omega)
              have := hlen.out
              omega
            have hit' := Lib.hid hit
            clear hit
            go_wp2_with (first | (refine wpList_nextS rfl (.tmp 32) rfl wz.heap.size rfl (str fs) k hit'.out hlt' ?_; rw [hdec.out]; intro w3 hit3 hb3 hs3; have hb4 := Lib.hid (hb.trans hb3)) | (refine wpList_loadAgg rfl 64 _ rfl w.heap.size 0 rfl _ hAT.out (hag.out _ hb4.out) ?_) | (go_at_call 66; refine (hpc.out _ _ hb4.out).mono ?_; rintro e w5 ⟨rfl, hb5⟩))
            go_roundw
            case rel =>
              refine ⟨k + 1, by omega, ?_, (hb5.block _ (by have := (Array.getElem?_eq_some_iff.1 hit3).1; exact this)).trans hit3, thn hb4.out hb5⟩
              rw [hft.out, show ({ data := #[32] } : ByteArray) = str [32] from rfl, str_append, str_append]
              simp
            case measure =>
              rw [iterAt_of ((hb5.block _ (by have := (Array.getElem?_eq_some_iff.1 hit3).1; exact this)).trans hit3), iterAt_of hit'.out]
              omega
          · obtain rfl : k = fs.length := by omega
            rw [List.take_length]
            go_wp2_with (refine wpList_nextE rfl (.tmp 32) rfl wz.heap.size rfl (str fs) fs.length hit (by show ¬ fs.length < fs.length; omega) ?_)
            go_ret2
            exact ⟨by rw [hvT.out]; rfl, thn hW2.out hb⟩
  · have hv := Lib.hid (printV_ok A (by unfold badA; rw [decide_eq_true hK.out, decide_eq_false h22]; rfl))
    have e22 : (A.kind == 22) = false := by simpa using h22
    obtain ⟨w1, hw1⟩ : ∃ w1, w1 = w.alloc (.cells (ak A (.slice bA bn bc) (.slice lA ln lc)) 64) := ⟨_, rfl⟩
    have hb1 : Below (w.alloc (.cells (ak A (.slice bA bn bc) (.slice lA ln lc)) 64)).heap.size (w.alloc (.cells (ak A (.slice bA bn bc) (.slice lA ln lc)) 64)) w1 := by rw [hw1]; exact Below.refl _ _
    clear h22
    go_enter Tryd.func35, Tryd.ntmps35
    go_upto_region 5 with fail
    rw [← hw1]
    clear hw1
    have hB1 := Lib.hid (hB0.out.below hb1 (by simp))
    have hR1 := Lib.hid (hR0.out.below hb1)
    have hL1 := Lib.hid (hL0.out.below hb1)
    have hW1 := Lib.hid (thn hW0.out hb1)
    have hkc : ∀ W, Below w1.heap.size w1 W → W.cell? ⟨w.heap.size, 0, none⟩ = some (Value.int .i64 A.kind) := fun W hW => by rw [(hB1.out.below hW hB1.out.lt).cell]; exact g0
    have HKC := Lib.hid hkc
    clear hkc
    go_cut [4] (fun s4 wz => ∃ bx : Nat, s4 = .pointer (some ⟨bx, 0, none⟩) ∧ Blk wz bx 116 #[.string (str (kw A.kind)), .string (str (kf A.kind))] ∧ Below w1.heap.size w1 wz)
    case first =>
      refine wp_region_held_drew (S := (fun W => W.cell? ⟨w.heap.size, 0, none⟩ = some (Value.int .i64 A.kind))) (by kernel_rfl) (HKC.out _ (Below.refl _ _).drew) (fun hHeld => ?_)
      refine wpAnyH_take (i := 1) (v := .pointer (some ⟨w.heap.size, 0, none⟩)) rfl (by kernel_rfl) (by kernel_rfl) (by kernel_rfl) (fun _ _ _ h => h) (.inl ⟨by rfl, fun W hS => by go_simp⟩) hHeld ?_
      simp only [Act.put, List.setIfInBounds_toArray, List.set_cons_zero, List.set_cons_succ, List.getElem_toArray, List.getElem_cons_succ, List.getElem_cons_zero]
      refine wpAnyH_take (i := 2) (v := .int .i64 A.kind) rfl (by kernel_rfl) (by kernel_rfl) (by kernel_rfl) (fun _ _ _ h => h) (.inl ⟨by rfl, fun W hS => by (have hS : W.cell? ⟨w.heap.size, 0, none⟩ = some (Value.int .i64 A.kind) := hS); go_simp⟩) hHeld ?_
      simp only [Act.put, List.setIfInBounds_toArray, List.set_cons_zero, List.set_cons_succ, List.getElem_toArray, List.getElem_cons_succ, List.getElem_cons_zero]
      refine wpAnyH_ready (rs := [0, 4]) (by kernel_rfl) (by simp) ?_
      refine AllReadyH.cons rfl (fun K hK => ?_) (AllReadyH.cons rfl (fun K hK => ?_) AllReadyH.nil)
      · go_simp
        go_wp2_with (go_at_call 65; refine (kinds_calls _).mono ?_; rintro e w2 ⟨rfl, hb2⟩)
        have hq2 : Below w1.heap.size w1 w2 := (Below.refl _ _).drew.trans hb2
        refine hK.out _ _ (HKC.out _ hq2) (fun hHeld => ?_)
        clear hK K
        refine wpAnyH_take (i := 3) (v := .agg #[.string (str (kw A.kind)), .string (str (kf A.kind))]) rfl (by kernel_rfl) (by kernel_rfl) (by kernel_rfl) (fun _ _ _ h => h) (.inl ⟨by rfl, fun W hS => by (have h3 := hix.out W); go_simp⟩) hHeld ?_
        simp only [Act.put, List.setIfInBounds_toArray, List.set_cons_zero, List.set_cons_succ, List.getElem_toArray, List.getElem_cons_succ, List.getElem_cons_zero]
        refine wpAnyH_ready (rs := [4]) (by kernel_rfl) (by simp) ?_
        refine AllReadyH.cons rfl (fun K hK => ?_) AllReadyH.nil
        go_simp
        refine hK.out _ _ (HKC.out _ (al hq2 _)) (fun hHeld => ?_)
        clear hK K
        refine wpAnyH_ready (rs := [5]) (by kernel_rfl) (by simp) ?_
        refine AllReadyH.cons rfl (fun K hK => ?_) AllReadyH.nil
        go_simp
        refine hK.out _ _ (HKC.out _ (al hq2 _)) (fun hHeld => ?_)
        clear hK K
        refine wpAnyH_done (by kernel_rfl) ?_ _
        go_wp2_with fail
        go_meet
        exact ⟨w2.heap.size, rfl, Blk.new _ _ _, al hq2 _⟩
      · go_simp
        have hq1 := al (Below.refl w1.heap.size w1).drew (.cells #[.string ⟨#[]⟩, .string ⟨#[]⟩] 116)
        refine hK.out _ _ (HKC.out _ hq1) (fun hHeld => ?_)
        clear hK K
        refine wpAnyH_ready (rs := [0]) (by kernel_rfl) (by simp) ?_
        refine AllReadyH.cons rfl (fun K hK => ?_) AllReadyH.nil
        go_simp
        go_wp2_with (go_at_call 65; refine (kinds_calls _).mono ?_; rintro e w2 ⟨rfl, hb2⟩)
        have hq2 : Below w1.heap.size w1 w2 := thn hq1 hb2
        have hbx : Blk w2 w1.heap.size 116 #[.string ⟨#[]⟩, .string ⟨#[]⟩] := (Blk.new w1.drew 116 _).below hb2 (by simp)
        refine hK.out _ _ (HKC.out _ hq2) (fun hHeld => ?_)
        clear hK K
        refine wpAnyH_take (i := 3) (v := .agg #[.string (str (kw A.kind)), .string (str (kf A.kind))]) rfl (by kernel_rfl) (by kernel_rfl) (by kernel_rfl) (fun _ _ _ h => h) (.inl ⟨by rfl, fun W hS => by (have h3 := hix.out W); go_simp⟩) hHeld ?_
        simp only [Act.put, List.setIfInBounds_toArray, List.set_cons_zero, List.set_cons_succ, List.getElem_toArray, List.getElem_cons_succ, List.getElem_cons_zero]
        refine wpAnyH_ready (rs := [5]) (by kernel_rfl) (by simp) ?_
        refine AllReadyH.cons rfl (fun K hK => ?_) AllReadyH.nil
        refine armH_storeAgg _ rfl rfl 116 (.tmp 4) (.tmp 27) rfl w1.heap.size 0 rfl #[.string (str (kw A.kind)), .string (str (kf A.kind))] rfl Tryd.agg116 (hbx.room 0 2 (by simp)) (by intro v hv; simp at hv; rcases hv with rfl | rfl <;> rfl) ?_
        simp only [Act.put, List.setIfInBounds_toArray, List.set_cons_zero, List.set_cons_succ, List.getElem_toArray, List.getElem_cons_succ, List.getElem_cons_zero]
        refine hK.out _ _ (HKC.out _ (below_setCells hq2 _ _ _ (Nat.le_refl _))) (fun hHeld => ?_)
        clear hK K
        refine wpAnyH_done (by kernel_rfl) ?_ _
        go_wp2_with fail
        go_meet
        exact ⟨w1.heap.size, rfl, hbx.setCells _ 0 (by simp), below_setCells hq2 _ _ _ (Nat.le_refl _)⟩
    case rest =>
      obtain ⟨wz, rfl⟩ : ∃ wz : World, wz = wc := ⟨_, rfl⟩
      obtain ⟨bx, rfl, hbk, hbz⟩ := hcut
      have hB2 := Lib.hid (hB1.out.below hbz hB1.out.lt)
      have hR2 := hR1.out.below hbz
      have hL2 := hL1.out.below hbz
      have hW2 := Lib.hid (thn hW1.out hbz)
      have hc0 : wz.cell? ⟨bx, 0, none⟩ = some (.string (str (kw A.kind))) := by rw [hbk.cell]; rfl
      have hc1 : wz.cell? ⟨bx, 1, none⟩ = some (.string (str (kf A.kind))) := by rw [hbk.cell]; rfl
      have hpc := Lib.hid (fun (c : Int) W (hW : Below wz.heap.size wz W) => printed_calls A bA bn bc lA ln lc c W (hR2.below hW) HS.out (hL2.below hW))
      have hag := Lib.hid (fun W (hW : Below wz.heap.size wz W) => cellsAt_blk (hB2.out.below hW hB2.out.lt))
      have hAT : Hid (AggT Tryd.prog 64 (ak A (.slice bA bn bc) (.slice lA ln lc)).toList.length) := by rw [hsz.out]; exact Tryd.agg64
      have hvT : Hid (printV A = .tuple #[.string (str (kw A.kind ++ fieldsT A (kf A.kind))), .int .i64 0]) := hv.out
      have hasc := kf_ascii A.kind
      have hfl := Lib.hid (fieldL_len A hR2.1 HS.out)
      have hfs := Lib.hid (fieldsT_len A hR2.1 HS.out)
      have hlen := Lib.hid (kt_len A.kind)
      clear hR2 hL2 hR1 hL1 hW1 hB1 hbz hbk HKC hv hix hR0 hL0 hB0 hb1 g0 g8 hW0 hsz HS hK e22
      generalize kf A.kind = fs at *
      generalize kw A.kind = kws at *
      have HASC := Lib.hid hasc
      clear hasc
      go_wp2
      go_loopw [5] (fun v wr => ∃ k : Nat, k ≤ fs.length ∧ v = .string (str (kws ++ fieldsT A (fs.take k))) ∧ wr.heap[wz.heap.size]? = some (.stringIter (str fs) k) ∧ Below wz.heap.size wz wr) (fun _ wr => fs.length - World.iterAt wr wz.heap.size)
      case atStart => exact ⟨0, by omega, by simp [fieldsT], heap_alloc_new wz _, al (Below.refl _ _) _⟩
      case round =>
        obtain ⟨k, hk, rfl, hit, hb⟩ := hrel
        have hbs := hb.size
        by_cases hlt : k < fs.length
        · have hdec := Lib.hid (decode_at fs k hlt (HASC.out _ (by rw [List.getD_eq_getElem?_getD, List.getElem?_eq_getElem hlt]; exact List.getElem_mem hlt)))
          have hft := Lib.hid (fieldsT_take A fs k hlt)
          have hlt' : k < (str fs).size := hlt
          generalize fs.getD k 0 = c at hdec hft
          have hn1 : ¬ 9223372036854775807 < 1 + (str (fieldL A (c.toNat : Int))).size := by
            rw [str_size]
            have := hfl.out (c.toNat : Int)
            omega
          have hn2 : ¬ 9223372036854775807 < (str (kws ++ fieldsT A (fs.take k))).size + (1 + (str (fieldL A (c.toNat : Int))).size) := by
            rw [str_size, str_size, List.length_append]
            have := hfl.out (c.toNat : Int)
            have := hfs.out (fs.take k) (by rw [List.length_take]; have := hlen.out; omega)
            have := hlen.out
            omega
          have hit' := Lib.hid hit
          clear hit
          go_wp2_with (first | (refine wpList_nextS rfl (.tmp 32) rfl wz.heap.size rfl (str fs) k hit'.out hlt' ?_; rw [hdec.out]; intro w3 hit3 hb3 hs3; have hb4 := Lib.hid (hb.trans hb3)) | (refine wpList_loadAgg rfl 64 _ rfl w.heap.size 0 rfl _ hAT.out (hag.out _ hb4.out) ?_) | (go_at_call 66; refine (hpc.out _ _ hb4.out).mono ?_; rintro e w5 ⟨rfl, hb5⟩))
          go_roundw
          case rel =>
            refine ⟨k + 1, by omega, ?_, (hb5.block _ (by have := (Array.getElem?_eq_some_iff.1 hit3).1; exact this)).trans hit3, thn hb4.out hb5⟩
            rw [hft.out, show ({ data := #[32] } : ByteArray) = str [32] from rfl, str_append, str_append]
            simp
          case measure =>
            rw [iterAt_of ((hb5.block _ (by have := (Array.getElem?_eq_some_iff.1 hit3).1; exact this)).trans hit3), iterAt_of hit'.out]
            omega
        · obtain rfl : k = fs.length := by omega
          rw [List.take_length]
          go_wp2_with (refine wpList_nextE rfl (.tmp 32) rfl wz.heap.size rfl (str fs) fs.length hit (by show ¬ fs.length < fs.length; omega) ?_)
          go_ret2
          exact ⟨by rw [hvT.out]; rfl, thn hW2.out hb⟩
end Go.Proofs.YtfjfjjcdlgdbcaaDoor
