/- archive.Print -/
import Derived.Test.YtfjfjjcdlgdbcaaDoorE7
import Derived.Laws.RangeAny
namespace Go.Proofs.YtfjfjjcdlgdbcaaDoor
open Go.RowKit

section
variable {P : Program}
theorem run_next_at (W : World) (k : Nat) (s : ByteArray) (pos : Nat) (ty : TypeId) (hk : W.heap[k]? = some (.stringIter s pos)) (h : pos < s.size) :
    (Instr.next (.pointer (some ⟨k, 0, none⟩)) true ty).run P W = .ok (.tuple #[.bool true, .int .i64 pos, .int .i32 (Utf8.decode s pos).1]) { W with heap := W.heap.setIfInBounds k (.stringIter s (pos + (Utf8.decode s pos).2)) } := by
  have hlt : k < W.heap.size := (Array.getElem?_eq_some_iff.1 hk).1
  simp only [Instr.next, getObj, setObj, Sem.run_bind, Sem.run, hk, Result.andThen, h, if_true]
  simp [goInt]
theorem run_next_at_end (W : World) (k : Nat) (s : ByteArray) (pos : Nat) (ty : TypeId) (hk : W.heap[k]? = some (.stringIter s pos)) (h : ¬ pos < s.size) :
    (Instr.next (.pointer (some ⟨k, 0, none⟩)) true ty).run P W = .ok (.tuple #[.bool false]) W := by
  simp [Instr.next, getObj, Sem.run, hk, h]
/-- the next rune of a string -/
theorem wpList_nextS {ops : Array Oper} {rest : List Oper} {o : Oper} {a : Act} {W : World} {Q : Exit → Act → World → Prop} (hgd : o.guard = none) (x : Operand) (ho : o.op = .next x true)
    (k : Nat) (hx : a.eval x = .pointer (some ⟨k, 0, none⟩)) (s : ByteArray) (pos : Nat) (hk : W.heap[k]? = some (.stringIter s pos)) (hp : pos < s.size)
    (h : ∀ W', W'.heap[k]? = some (.stringIter s (pos + (Utf8.decode s pos).2)) → Below k W W' → W'.heap.size = W.heap.size →
      wpList P ops Q rest (a.put o.dst (.tuple #[.bool true, .int .i64 pos, .int .i32 (Utf8.decode s pos).1])) W') : wpList P ops Q (o :: rest) a W :=
  wpList_plain hgd fun K hK => by
    have hlt : k < W.heap.size := (Array.getElem?_eq_some_iff.1 hk).1
    unfold Oper.wp execOp
    simp only [ho, hx, Sem.run_bind, Sem.run_pure, run_next_at W k s pos o.type hk hp, Result.andThen_ok]
    refine hK _ _ (h _ ?_ ⟨rfl, rfl, rfl, ?_, fun i hi => ?_⟩ ?_)
    · simp [hlt]
    · simp
    · show (W.heap.setIfInBounds k _)[i]? = W.heap[i]?
      rw [Array.getElem?_setIfInBounds, if_neg (by omega)]
    · simp
theorem wpList_nextE {ops : Array Oper} {rest : List Oper} {o : Oper} {a : Act} {W : World} {Q : Exit → Act → World → Prop} (hgd : o.guard = none) (x : Operand) (ho : o.op = .next x true)
    (k : Nat) (hx : a.eval x = .pointer (some ⟨k, 0, none⟩)) (s : ByteArray) (pos : Nat) (hk : W.heap[k]? = some (.stringIter s pos)) (hp : ¬ pos < s.size)
    (h : wpList P ops Q rest (a.put o.dst (.tuple #[.bool false])) W) : wpList P ops Q (o :: rest) a W :=
  wpList_plain hgd fun K hK => by
    unfold Oper.wp execOp
    simp only [ho, hx, Sem.run_bind, Sem.run_pure, run_next_at_end W k s pos o.type hk hp, Result.andThen_ok]
    exact hK _ _ h
end
theorem decode_at (xs : List UInt8) (pos : Nat) (h : pos < xs.length) (ha : (xs.getD pos 0).toNat < 128) : Utf8.decode (str xs) pos = ((xs.getD pos 0).toNat, 1) := by
  have e : ((str xs)[pos]'h).toNat = (xs.getD pos 0).toNat := by
    show (xs.toArray[pos]'h).toNat = _
    simp [List.getD_eq_getElem?_getD, List.getElem?_eq_getElem h]
  rw [decode_ascii (str xs) pos h (by rw [e]; exact ha), e]
theorem str_append (a b : List UInt8) : str a ++ str b = str (a ++ b) := by
  apply ByteArray.ext
  simp [str, ByteArray.data_append]
def World.iterAt (W : World) (k : Nat) : Nat := match W.heap[k]? with | some (.stringIter _ p) => p | _ => 0
theorem iterAt_of {W : World} {k : Nat} {s : ByteArray} {p : Nat} (h : W.heap[k]? = some (.stringIter s p)) : World.iterAt W k = p := by unfold World.iterAt; rw [h]

/-- an act's line -/
def fieldsT (A : ActP) (fs : List UInt8) : List UInt8 := (fs.map fun c => 32 :: fieldL A (c.toNat : Int)).flatten
def printT (A : ActP) : List UInt8 := kw A.kind ++ fieldsT A (kf A.kind)
instance (n : Int) : Decidable (isKind n) := by unfold isKind; infer_instance
def badA (A : ActP) : Bool := !(decide (isKind A.kind)) || (decide (A.kind = 22) && anyNil A.l)
def printV (A : ActP) : Value := if badA A then .tuple #[.string ⟨#[]⟩, .int .i64 203] else .tuple #[.string (str (printT A)), .int .i64 0]
theorem fieldsT_take (A : ActP) (fs : List UInt8) (k : Nat) (h : k < fs.length) : fieldsT A (fs.take (k + 1)) = fieldsT A (fs.take k) ++ 32 :: fieldL A ((fs.getD k 0).toNat : Int) := by
  rw [List.take_succ_eq_append_getElem h]
  simp only [fieldsT, List.map_append, List.map_cons, List.map_nil, List.flatten_append, List.flatten_cons, List.flatten_nil, List.append_nil, List.getD_eq_getElem?_getD, List.getElem?_eq_getElem h, Option.getD_some]
theorem kf_ascii (n : Int) : ∀ c ∈ kf n, c.toNat < 128 := by
  by_cases h : isKind n
  · have : ∀ k : Fin 28, ∀ c ∈ (kt.getD k.val ([], [])).2, c.toNat < 128 := by decide +kernel
    have h2 := this ⟨n.toNat, by unfold isKind at h; omega⟩
    unfold kf
    rw [if_pos (by unfold isKind at h; omega)]
    exact h2
  · rw [kf_no n h]; simp

theorem printed_calls (A : ActP) (bA : Option Addr) (bn bc : Nat) (lA : Option Addr) (ln lc : Nat) (c : Int) (w : World) (h : RdAct w A bA bn bc lA ln lc) (hS : A.Small) (hL : LaidW w) :
    Calls Tryd.prog 66 #[.agg (ak A (.slice bA bn bc) (.slice lA ln lc)), .int .i32 c] w fun e w' => e = .returned (.string (str (fieldL A c))) ∧ Below w.heap.size w w' := by
  obtain ⟨hF, hb, hl⟩ := h
  unfold fieldL
  split
  · rename_i e; subst e; exact printed_addr A _ _ w hF
  · split
    · rename_i e; subst e; exact printed_key A _ _ w hF
    · split
      · rename_i e; subst e; exact printed_word A _ _ w hF
      · split
        · rename_i e; subst e; exact printed_root A _ _ w hF
        · split
          · rename_i e; subst e; exact printed_n A _ _ w hF hL
          · split
            · rename_i e; subst e; exact printed_m A _ _ w hF hL
            · split
              · rename_i e; subst e; exact printed_b A _ _ _ _ w hF hb hS.hb
              · exact printed_l A _ _ _ _ c w hF hl hS ⟨by assumption, by assumption, by assumption, by assumption, by assumption, by assumption, by assumption⟩
theorem idx_kind (n : Int) (h : isKind n) (W : World) : (Instr.index 117 (.agg kindsV) (.int .i64 n)).run Tryd.prog W = .ok (.agg #[.string (str (kw n)), .string (str (kf n))]) W := by
  unfold isKind at h
  by_cases h1 : n = 1
  · subst h1; kernel_rfl
  by_cases h2 : n = 2
  · subst h2; kernel_rfl
  by_cases h3 : n = 3
  · subst h3; kernel_rfl
  by_cases h4 : n = 4
  · subst h4; kernel_rfl
  by_cases h5 : n = 5
  · subst h5; kernel_rfl
  by_cases h6 : n = 6
  · subst h6; kernel_rfl
  by_cases h7 : n = 7
  · subst h7; kernel_rfl
  by_cases h8 : n = 8
  · subst h8; kernel_rfl
  by_cases h9 : n = 9
  · subst h9; kernel_rfl
  by_cases h10 : n = 10
  · subst h10; kernel_rfl
  by_cases h11 : n = 11
  · subst h11; kernel_rfl
  by_cases h12 : n = 12
  · subst h12; kernel_rfl
  by_cases h13 : n = 13
  · subst h13; kernel_rfl
  by_cases h14 : n = 14
  · subst h14; kernel_rfl
  by_cases h15 : n = 15
  · subst h15; kernel_rfl
  by_cases h16 : n = 16
  · subst h16; kernel_rfl
  by_cases h17 : n = 17
  · subst h17; kernel_rfl
  by_cases h18 : n = 18
  · subst h18; kernel_rfl
  by_cases h19 : n = 19
  · subst h19; kernel_rfl
  by_cases h20 : n = 20
  · subst h20; kernel_rfl
  by_cases h21 : n = 21
  · subst h21; kernel_rfl
  by_cases h22 : n = 22
  · subst h22; kernel_rfl
  by_cases h23 : n = 23
  · subst h23; kernel_rfl
  by_cases h24 : n = 24
  · subst h24; kernel_rfl
  by_cases h25 : n = 25
  · subst h25; kernel_rfl
  by_cases h26 : n = 26
  · subst h26; kernel_rfl
  by_cases h27 : n = 27
  · subst h27; kernel_rfl
  omega
end Go.Proofs.YtfjfjjcdlgdbcaaDoor
