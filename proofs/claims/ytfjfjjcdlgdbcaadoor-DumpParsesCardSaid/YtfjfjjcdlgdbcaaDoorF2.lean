/- the texts E6, E7, E8, E9 of this proof, one behind the other -/
import Derived.Test.YtfjfjjcdlgdbcaaDoorF1
import Derived.Laws.RangeAny
namespace Go.Proofs.YtfjfjjcdlgdbcaaDoor
open Go.RowKit

/-- the texts of a list of keys -/
def keysT (l : List (List UInt8 × List UInt8)) : List (List UInt8) := l.map fun kv => hexL kv.1
def listL (l : List (List UInt8 × List UInt8)) : List UInt8 := if l = [] then [46] else Lib.join (keysT l) [44]
/-- what a field prints -/
def fieldL (A : ActP) (c : Int) : List UInt8 :=
  if c = 97 then hexL A.addr else if c = 107 then hexL A.key else if c = 119 then hexL A.word else if c = 114 then hexL A.root
  else if c = 110 then Lib.itoa A.n else if c = 109 then Lib.itoa A.m else if c = 98 then dotL (hexL A.b) else listL A.l
structure ActP.Small (A : ActP) : Prop where
  hb : A.b.length ≤ 2000000
  hl : A.l.length ≤ 2000000
  hkv : ∀ kv ∈ A.l, kv.1.length ≤ 2000000

theorem Tryd.info9 : (Tryd.prog.info? 9).map (fun i => (i.zero, i.size, i.bytes)) = some (some (.string ⟨#[]⟩), 1, 16) := by kernel_rfl
def svs (ss : List (List UInt8)) : List Value := ss.map fun s => .string (str s)
/-- the value v is a row of strings of its own -/
def OwnS (w : World) (B : Nat) (v : Value) (ss : List (List UInt8)) : Prop := w.ownsRow B 9 1 v ss.length (svs ss)
theorem OwnS.nil (w : World) (B : Nat) : OwnS w B (.slice none 0 0) [] := World.ownsRow_nil w B 9 1
theorem OwnS.alloc {w : World} {B : Nat} {v : Value} {ss : List (List UInt8)} (h : OwnS w B v ss) (o : Obj) : OwnS (w.alloc o) B v ss := World.ownsRow.alloc h o
theorem OwnS.below {w w1 : World} {B : Nat} {v : Value} {ss : List (List UInt8)} (h : OwnS w B v ss) (hb : Below w.heap.size w w1) : OwnS w1 B v ss :=
  World.ownsRow.kept h (row := none) ⟨hb.os, hb.tape, hb.output, hb.size, fun i hi _ => hb.block i hi⟩ (by cases v.ownBlock <;> simp)
theorem OwnS.reads {w : World} {B : Nat} {v : Value} {ss : List (List UInt8)} (h : OwnS w B v ss) : (v = .slice none 0 0 ∧ ss = []) ∨ ∃ g c, v = .slice (some ⟨g, 0, none⟩) ss.length c ∧ B ≤ g ∧ g < w.heap.size ∧ ss.length ≤ c ∧ c ≤ maxLen ∧ ∀ (j : Nat) s, ss[j]? = some s → w.cell? ⟨g, 0 + j, none⟩ = some (.string (str s)) := by
  rcases h.2 with ⟨rfl, h0⟩ | ⟨g, cap, cur, rfl, hb, hh, hn, hm, _⟩
  · exact .inl ⟨rfl, List.eq_nil_of_length_eq_zero h0⟩
  · refine .inr ⟨g, cap, rfl, hb, (Array.getElem?_eq_some_iff.1 hh).1, hn, hm, fun j s hj => ?_⟩
    have := World.ownsRow.cells h (g := g) rfl j (.string (str s)) (by simp [svs, hj])
    have e : (⟨g, 0, none⟩ : Addr).add j = ⟨g, 0 + j, none⟩ := by unfold Addr.add; split <;> simp_all
    rw [← e]
    exact this
theorem svs_append (a b : List (List UInt8)) : svs (a ++ b) = svs a ++ svs b := by simp [svs]
/-- 'append(l, s)', l a row of the call's own, s a string that has just been laid -/
theorem run_appendS (w : World) (ty : TypeId) (B : Nat) (v : Value) (ss : List (List UInt8)) (s : List UInt8) (g c : Nat) (hown : OwnS w B v ss) (hr : w.cell? ⟨g, 0, none⟩ = some (.string (str s)))
    (hl : ss.length ≤ 10000000) (hB : B ≤ w.heap.size) :
    ∃ v' w', (Builtin.append_ #[84, 84] ty #[v, .slice (some ⟨g, 0, none⟩) 1 c]).run Tryd.prog w = .ok v' w' ∧ OwnS w' B v' (ss ++ [s]) ∧ Below B w w' := by
  obtain ⟨i0, hi, hz0, hz1, hz2⟩ := info_parts Tryd.info9
  obtain ⟨v', w', h1, h2, h3, _⟩ := run_append_own (P := Tryd.prog) w B 84 ty 9 i0 (.string ⟨#[]⟩) 1 16 Tryd.underlying84 hi hz0 hz1 hz2 rfl (by omega) v ss.length (svs ss) hown ⟨g, 0, none⟩ 1 c (svs [s])
      (by simp [svs]) (fun j u hu => by
        match j, hu with
        | 0, hu =>
          obtain rfl : Value.string (str s) = u := by simpa [svs] using hu
          rw [show (⟨g, 0, none⟩ : Addr).add 0 = ⟨g, 0, none⟩ from rfl]
          exact hr
        | j + 1, hu => simp [svs] at hu) (by intro v hv; obtain rfl : v = .string (str s) := by simpa [svs] using hv
                                             rfl) (by unfold maxLen; omega) (by omega) hB
  refine ⟨v', w', h1, ?_, (Below.refl B w).grown h3 hB (fun k hk => (World.ownsRow.lt hown k hk).1)⟩
  rw [← svs_append] at h2
  have e : ss.length + 1 = (ss ++ [s]).length := by simp
  unfold OwnS
  rw [← e]
  exact h2
theorem wpList_appendS (w : World) {ops : Array Oper} {rest : List Oper} {o : Oper} {a : Act} {Q : Exit → Act → World → Prop}
    (hgd : o.guard = none) (s x : Operand) (ho : o.op = .call { callee := .builtin .append, args := #[s, x], argTypes := #[84, 84] })
    (B : Nat) (v : Value) (ss : List (List UInt8)) (y : List UInt8) (hs : a.eval s = v) (g c : Nat) (hx : a.eval x = .slice (some ⟨g, 0, none⟩) 1 c) (hown : OwnS w B v ss) (hr : w.cell? ⟨g, 0, none⟩ = some (.string (str y)))
    (hl : ss.length ≤ 10000000) (hB : B ≤ w.heap.size)
    (h : ∀ v' w', OwnS w' B v' (ss ++ [y]) → Below B w w' → wpList Tryd.prog ops Q rest (a.put o.dst v') w') : wpList Tryd.prog ops Q (o :: rest) a w := by
  obtain ⟨v', w', hrun, h1, h2⟩ := run_appendS w o.type B v ss y g c hown hr hl hB
  refine wpList_plain hgd fun K hK' => ?_
  unfold Oper.wp execOp
  simp only [ho, resolve, invoke, builtin, Sem.run_bind, Sem.run_pure, Result.andThen_ok, List.map_toArray, List.map_cons, List.map_nil, hs, hx, hrun]
  exact hK' _ _ (h v' w' h1 h2)
theorem join_len (ss : List (List UInt8)) (m : Nat) (h : ∀ s ∈ ss, s.length ≤ m) : (Lib.join ss [44]).length ≤ ss.length * (m + 1) := by
  cases ss with
  | nil => simp [Lib.join_nil]
  | cons x r =>
    have hx : x.length ≤ m := h x (by simp)
    have hr : ∀ s ∈ r, s.length ≤ m := fun s hs => h s (by simp [hs])
    have key : ∀ r : List (List UInt8), (∀ s ∈ r, s.length ≤ m) → (Lib.joinTail [44] r).length ≤ r.length * (m + 1) := by
      intro r
      induction r with
      | nil => intro _; simp [Lib.joinTail]
      | cons y r ih =>
        intro hr
        have h1 := ih (fun s hs => hr s (by simp [hs]))
        have h2 := hr y (by simp)
        simp only [Lib.joinTail, List.map_cons, List.flatten_cons, List.length_append, List.length_cons, List.length_nil, Nat.add_mul] at h1 ⊢
        omega
    rw [Lib.join_cons]
    have := key r hr
    simp only [List.length_append, List.length_cons, Nat.add_mul]
    omega

set_option maxHeartbeats 1000000 in
theorem printed_addr (A : ActP) (b l : Value) (w : World) (h : A.Fit) :
    Calls Tryd.prog 66 #[.agg (ak A b l), .int .i32 97] w fun e w' => e = .returned (.string (str (hexL A.addr))) ∧ Below w.heap.size w w' := by
  have hx := Lib.hid (Hex_calls (some ⟨w.heap.size, 1, none⟩) 20 20 A.addr (w.alloc (.cells (ak A b l) 64)) (RdB.sub w 64 (ak A b l) 1 20 A.addr h.ha (by unfold maxLen; omega) (ak_addr A b l)) (by omega))
  go_enter Tryd.func66, Tryd.ntmps66
  go_wp2_with (go_at_call 48; refine hx.out.mono ?_; rintro e w1 ⟨rfl, hb1⟩)
  go_ret
  exact ⟨rfl, thn (al (Below.refl _ _) _) hb1⟩

set_option maxHeartbeats 1000000 in
theorem printed_key (A : ActP) (b l : Value) (w : World) (h : A.Fit) :
    Calls Tryd.prog 66 #[.agg (ak A b l), .int .i32 107] w fun e w' => e = .returned (.string (str (hexL A.key))) ∧ Below w.heap.size w w' := by
  have hx := Lib.hid (Hex_calls (some ⟨w.heap.size, 21, none⟩) 32 32 A.key (w.alloc (.cells (ak A b l) 64)) (RdB.sub w 64 (ak A b l) 21 32 A.key h.hk (by unfold maxLen; omega) (ak_key A b l h)) (by omega))
  go_enter Tryd.func66, Tryd.ntmps66
  go_wp2_with (go_at_call 48; refine hx.out.mono ?_; rintro e w1 ⟨rfl, hb1⟩)
  go_ret
  exact ⟨rfl, thn (al (Below.refl _ _) _) hb1⟩

set_option maxHeartbeats 1000000 in
theorem printed_word (A : ActP) (b l : Value) (w : World) (h : A.Fit) :
    Calls Tryd.prog 66 #[.agg (ak A b l), .int .i32 119] w fun e w' => e = .returned (.string (str (hexL A.word))) ∧ Below w.heap.size w w' := by
  have hx := Lib.hid (Hex_calls (some ⟨w.heap.size, 53, none⟩) 32 32 A.word (w.alloc (.cells (ak A b l) 64)) (RdB.sub w 64 (ak A b l) 53 32 A.word h.hw (by unfold maxLen; omega) (ak_word A b l h)) (by omega))
  go_enter Tryd.func66, Tryd.ntmps66
  go_wp2_with (go_at_call 48; refine hx.out.mono ?_; rintro e w1 ⟨rfl, hb1⟩)
  go_ret
  exact ⟨rfl, thn (al (Below.refl _ _) _) hb1⟩

set_option maxHeartbeats 1000000 in
theorem printed_root (A : ActP) (b l : Value) (w : World) (h : A.Fit) :
    Calls Tryd.prog 66 #[.agg (ak A b l), .int .i32 114] w fun e w' => e = .returned (.string (str (hexL A.root))) ∧ Below w.heap.size w w' := by
  have hx := Lib.hid (Hex_calls (some ⟨w.heap.size, 85, none⟩) 32 32 A.root (w.alloc (.cells (ak A b l) 64)) (RdB.sub w 64 (ak A b l) 85 32 A.root h.hr (by unfold maxLen; omega) (ak_root A b l h)) (by omega))
  go_enter Tryd.func66, Tryd.ntmps66
  go_wp2_with (go_at_call 48; refine hx.out.mono ?_; rintro e w1 ⟨rfl, hb1⟩)
  go_ret
  exact ⟨rfl, thn (al (Below.refl _ _) _) hb1⟩

set_option maxHeartbeats 1000000 in
theorem printed_n (A : ActP) (b l : Value) (w : World) (h : A.Fit) (hL : LaidW w) :
    Calls Tryd.prog 66 #[.agg (ak A b l), .int .i32 110] w fun e w' => e = .returned (.string (str (Lib.itoa A.n))) ∧ Below w.heap.size w w' := by
  have hx := Lib.hid (Itoa_calls A.n (w.alloc (.cells (ak A b l) 64)) h.hn0 h.hn1 (hL.below (al (Below.refl _ _) _)))
  have hg : (ak A b l)[117]? = some (.int .i64 A.n) := ak_tail A b l h 0
  clear hL
  go_enter Tryd.func66, Tryd.ntmps66
  go_wp2_with (go_at_call 104; refine hx.out.mono ?_; rintro e w1 ⟨rfl, hb1⟩)
  go_ret
  exact ⟨rfl, thn (al (Below.refl _ _) _) hb1⟩

set_option maxHeartbeats 1000000 in
theorem printed_m (A : ActP) (b l : Value) (w : World) (h : A.Fit) (hL : LaidW w) :
    Calls Tryd.prog 66 #[.agg (ak A b l), .int .i32 109] w fun e w' => e = .returned (.string (str (Lib.itoa A.m))) ∧ Below w.heap.size w w' := by
  have hx := Lib.hid (Itoa_calls A.m (w.alloc (.cells (ak A b l) 64)) h.hm0 h.hm1 (hL.below (al (Below.refl _ _) _)))
  have hg : (ak A b l)[118]? = some (.int .i64 A.m) := ak_tail A b l h 1
  clear hL
  go_enter Tryd.func66, Tryd.ntmps66
  go_wp2_with (go_at_call 104; refine hx.out.mono ?_; rintro e w1 ⟨rfl, hb1⟩)
  go_ret
  exact ⟨rfl, thn (al (Below.refl _ _) _) hb1⟩

set_option maxHeartbeats 1000000 in
theorem printed_b (A : ActP) (bA : Option Addr) (bn bc : Nat) (l : Value) (w : World) (h : A.Fit) (hr : RdB w bA bn bc A.b) (hs : A.b.length ≤ 2000000) :
    Calls Tryd.prog 66 #[.agg (ak A (.slice bA bn bc) l), .int .i32 98] w fun e w' => e = .returned (.string (str (dotL (hexL A.b)))) ∧ Below w.heap.size w w' := by
  have hx := Lib.hid (digits105_calls bA bn bc A.b (w.alloc (.cells (ak A (.slice bA bn bc) l) 64)) (hr.alloc _) (by rw [← hr.1]; omega))
  have hg : (ak A (.slice bA bn bc) l)[119]? = some (.slice bA bn bc) := ak_tail A _ l h 2
  clear hr hs
  go_enter Tryd.func66, Tryd.ntmps66
  go_wp2_with (go_at_call 105; refine hx.out.mono ?_; rintro e w1 ⟨rfl, hb1⟩)
  go_ret
  exact ⟨rfl, thn (al (Below.refl _ _) _) hb1⟩

theorem keysT_take (l : List (List UInt8 × List UInt8)) (k : Nat) (h : k < l.length) : keysT (l.take (k + 1)) = keysT (l.take k) ++ [hexL (l.getD k ([], [])).1] := by
  rw [List.take_succ_eq_append_getElem h]
  simp only [keysT, List.map_append, List.map_cons, List.map_nil, List.getD_eq_getElem?_getD, List.getElem?_eq_getElem h, Option.getD_some]

/-- strings.Join at ',' -/
theorem Join_calls (w : World) (g c : Nat) (ss : List (List UInt8)) (sep : List UInt8) (m : Nat) (hs : ∀ s ∈ ss, s.length ≤ m) (hm : ss.length ≤ 2000000 ∧ m ≤ 4000000 ∧ sep = [44]) (hg : g < w.heap.size) (hc : ss.length ≤ c)
    (hcs : ∀ (j : Nat) s, ss[j]? = some s → w.cell? ⟨g, 0 + j, none⟩ = some (.string (str s))) :
    Calls Tryd.prog 47 #[.slice (some ⟨g, 0, none⟩) ss.length c, .string (str sep)] w fun e w' => e = .returned (.string (str (Lib.join ss sep))) ∧ Below w.heap.size w w' := by
  have e1 : (ss.map str).map (·.data.toList) = ss := by rw [List.map_map]; exact List.map_id'' (fun _ => rfl) ss
  have hle : (Lib.join ss sep).length ≤ 140737488355328 := by
    rw [hm.2.2]
    have := join_len ss m hs
    have h2 : ss.length * (m + 1) ≤ 2000000 * 4000001 := Nat.mul_le_mul hm.1 (by omega)
    omega
  have := Tryd.strings_Join g 0 c (ss.map str) (str sep) w (fun j x hx => by
    rw [List.getElem?_map, Option.map_eq_some_iff] at hx
    obtain ⟨s, h1, rfl⟩ := hx
    exact hcs j s h1) hg (by rw [List.length_map]; omega) (by rw [List.length_map]; exact hc) (by rw [e1]; exact hle)
  rw [e1, List.length_map] at this
  exact this

set_option maxRecDepth 100000 in
set_option maxHeartbeats 2000000 in
theorem printed_l (A : ActP) (b : Value) (lA : Option Addr) (ln lc : Nat) (c : Int) (w : World) (h : A.Fit) (hr : RdKV w lA ln lc A.l) (hS : A.Small)
    (hc : c ≠ 97 ∧ c ≠ 107 ∧ c ≠ 119 ∧ c ≠ 114 ∧ c ≠ 110 ∧ c ≠ 109 ∧ c ≠ 98) :
    Calls Tryd.prog 66 #[.agg (ak A b (.slice lA ln lc)), .int .i32 c] w fun e w' => e = .returned (.string (str (listL A.l))) ∧ Below w.heap.size w w' := by
  have hg : (ak A b (.slice lA ln lc))[120]? = some (.slice lA ln lc) := ak_tail A _ _ h 3
  have e1 : (c == 97) = false := by simpa using hc.1
  have e2 : (c == 107) = false := by simpa using hc.2.1
  have e3 : (c == 119) = false := by simpa using hc.2.2.1
  have e4 : (c == 114) = false := by simpa using hc.2.2.2.1
  have e5 : (c == 110) = false := by simpa using hc.2.2.2.2.1
  have e6 : (c == 109) = false := by simpa using hc.2.2.2.2.2.1
  have e7 : (c == 98) = false := by simpa using hc.2.2.2.2.2.2
  clear hc
  have hln := hr.1
  by_cases h0 : ln = 0
  · have hl : A.l = [] := List.eq_nil_of_length_eq_zero (by omega)
    rw [hl]
    subst h0
    clear hr hS hln
    go_enter Tryd.func66, Tryd.ntmps66
    go_wp2
    go_ret
    exact ⟨rfl, al (Below.refl _ _) _⟩
  · have hne : A.l ≠ [] := by intro e; rw [e] at hln; exact h0 (by simpa using hln.symm)
    have hll : Hid (listL A.l = Lib.join (keysT A.l) [44]) := by rw [listL, if_neg hne]; trivial
    have hm : ln ≤ 2000000 := by rw [← hln]; exact hS.hl
    have hx := Lib.hid (fun (B : Option Addr) (m d : Nat) (xs : List UInt8) (W : World) (hr : RdB W B m d xs) (hs : m ≤ 100000000) => Hex_calls B m d xs W hr hs)
    have HR := Lib.hid hr
    have HS := Lib.hid hS
    have hz : ((ln : Int) == 0) = false := by simp; omega
    clear hr hS
    go_enter Tryd.func66, Tryd.ntmps66
    go_wp2
    go_loopw [5, 51] (fun v i wr => ∃ k : Nat, k ≤ ln ∧ i = .int .i64 k ∧ OwnS wr w.heap.size v (keysT (A.l.take k)) ∧ Below w.heap.size w wr) (fun _ i _ => ln - (intOf i).toNat)
    case atStart => exact ⟨0, by omega, rfl, OwnS.nil _ _, al (Below.refl _ _) _⟩
    case round =>
      obtain ⟨k, hk, rfl, ho, hb⟩ := hrel
      have hbs := hb.size
      by_cases hlt : k < ln
      · obtain ⟨g, o, B, m, d, B', m', d', rfl, hgk, hc1, hr1, hc2, hr2⟩ := (HR.out.below hb).at_ hlt
        have HF := Lib.hid (keysT_take A.l k (by omega))
        have hmm : m ≤ 2000000 := by
          rw [← hr1.1]
          exact HS.out.hkv _ (List.mem_of_getElem? hgk)
        clear hgk hr2
        generalize (A.l.getD k ([], [])).1 = ys at *
        have HR1 := Lib.hid hr1
        clear hr1
        have hkl : Hid ((keysT (A.l.take k)).length = k) := by rw [keysT, List.length_map, List.length_take, hln]; exact Nat.min_eq_left hk
        go_wp2_with (first | (go_at_call 48; refine (hx.out B m d ys _ (HR1.out.alloc _) (by omega)).mono ?_; rintro e w1 ⟨rfl, hb1⟩) | (at_builtin; refine wpList_appendS _ rfl (.tmp 55) (.tmp 59) rfl w.heap.size _ (keysT (A.l.take k)) (hexL ys) rfl _ _ rfl ((ho.below (thn (al (Below.refl _ _) _) hb1)).alloc _) (World.cell?_alloc_at _ _ _ _ rfl) (by rw [hkl.out]; omega) (by have := hb1.size; simp at this ⊢; omega) ?_; intro v2 w2 ho2 hb2))
        go_roundw
        case rel => exact ⟨k + 1, by omega, by go_num, by rw [HF.out]; exact ho2, (al (thn (al hb _) hb1) _).trans hb2⟩
        case measure => simp [intOf]; omega
      · obtain rfl : k = ln := by omega
        rw [List.take_of_length_le (by omega)] at ho
        have hlen : (keysT A.l).length = k := by rw [keysT, List.length_map, hln]
        rcases ho.reads with ⟨rfl, he⟩ | ⟨g, cc, rfl, hgB, hgw, hlc, hcm, hcs⟩
        · rw [he] at hlen
          exact absurd hlen.symm h0
        · have hj := Lib.hid (Join_calls wr g cc (keysT A.l) [44] 4000000 (fun s hs => by
            obtain ⟨kv, hkv, rfl⟩ := List.mem_map.1 hs
            rw [hexL_length]
            have := HS.out.hkv kv hkv
            omega) ⟨by omega, by omega, rfl⟩ hgw hlc hcs)
          have hlen' := Lib.hid hlen
          clear hlen hcs hlc hcm
          rw [hlen'.out] at hj ⊢
          go_wp2_with (go_at_call 47; refine hj.out.mono ?_; rintro e w1 ⟨rfl, hb1⟩)
          go_ret
          exact ⟨by rw [hll.out]; rfl, thn hb hb1⟩
end Go.Proofs.YtfjfjjcdlgdbcaaDoor
namespace Go.Proofs.YtfjfjjcdlgdbcaaDoor
open Go.RowKit

def anyNil (l : List (List UInt8 × List UInt8)) : Bool := l.any fun kv => kv.1.isEmpty
theorem anyNil_succ (l : List (List UInt8 × List UInt8)) (k : Nat) (h : k < l.length) : anyNil (l.take (k + 1)) = (anyNil (l.take k) || (l.getD k ([], [])).1.isEmpty) := by
  rw [List.take_succ_eq_append_getElem h]
  simp only [anyNil, List.any_append, List.any_cons, List.any_nil, Bool.or_false, List.getD_eq_getElem?_getD, List.getElem?_eq_getElem h, Option.getD_some]
theorem anyNil_yes (l : List (List UInt8 × List UInt8)) (k : Nat) (h : k < l.length) (h1 : (l.getD k ([], [])).1.isEmpty = true) : anyNil l = true := by
  rw [anyNil, List.any_eq_true]
  exact ⟨l[k], List.getElem_mem h, by simpa [List.getD_eq_getElem?_getD, List.getElem?_eq_getElem h] using h1⟩
theorem isNil_calls (B : Option Addr) (m d : Nat) (v : Value) (w : World) (hm : m ≤ 9223372036854775807) :
    Calls Tryd.prog 64 #[.agg #[.slice B m d, v]] w fun e w' => e = .returned (.bool (decide (m = 0))) ∧ Below w.heap.size w w' := by
  go_enter Tryd.func64, Tryd.ntmps64
  go_wp2
  go_ret
  rw [show ((m : Int) == 0) = decide (m = 0) from by rw [Bool.eq_iff_iff]; simp]
  exact ⟨rfl, al (Below.refl _ _) _⟩

set_option maxRecDepth 100000 in
set_option maxHeartbeats 2000000 in
theorem index103_calls (lA : Option Addr) (ln lc : Nat) (kvs : List (List UInt8 × List UInt8)) (w : World) (h : RdKV w lA ln lc kvs) :
    Calls Tryd.prog 103 #[.slice lA ln lc, .func (.func 64) #[] #[]] w fun e w' => (∃ i : Int, e = .returned (.int .i64 i) ∧ (0 ≤ i ↔ anyNil kvs = true) ∧ -1 ≤ i) ∧ Below w.heap.size w w' := by
  have hm : ln ≤ 9223372036854775807 := by have := h.2.1; have := h.2.2.1; unfold maxLen at this; omega
  have H := Lib.hid h
  clear h
  go_enter Tryd.func103, Tryd.ntmps103
  go_wp2
  go_loopw [8] (fun i wr => ∃ k : Nat, k ≤ ln ∧ i = .int .i64 k ∧ anyNil (kvs.take k) = false ∧ Below w.heap.size w wr) (fun i _ => ln - (intOf i).toNat)
  case atStart => exact ⟨0, by omega, rfl, rfl, Below.refl _ _⟩
  case round =>
    obtain ⟨k, hk, rfl, ha, hb⟩ := hrel
    have hbs := hb.size
    by_cases hlt : k < ln
    · obtain ⟨g, o, B, m, d, B', m', d', rfl, hgk, hc1, hr1, hc2, hr2⟩ := (H.out.below hb).at_ hlt
      have hkl : k < kvs.length := by have := H.out.1; omega
      have hs := Lib.hid (anyNil_succ kvs k hkl)
      have hy := Lib.hid (anyNil_yes kvs k hkl)
      have hml := hr1.1
      have hmx : m ≤ 9223372036854775807 := by have := hr1.2.1; have := hr1.2.2.1; unfold maxLen at this; omega
      clear hr2 hgk hr1
      generalize (kvs.getD k ([], [])).1 = ys at *
      have hc := Lib.hid (fun W => isNil_calls B m d (.slice B' m' d') W hmx)
      by_cases hz : m = 0
      · have hd : decide (m = 0) = true := decide_eq_true hz
        rw [hd] at hc
        have hys : ys = [] := List.eq_nil_of_length_eq_zero (by omega)
        have hyy := Lib.hid (hy.out (by rw [hys]; rfl))
        clear hd hz hys
        go_wp2_with (go_at_call 64; refine (hc.out _).mono ?_; rintro e w1 ⟨rfl, hb1⟩)
        go_ret
        exact ⟨⟨k, rfl, ⟨fun _ => hyy.out, fun _ => by omega⟩, by omega⟩, thn hb hb1⟩
      · have hd : decide (m = 0) = false := decide_eq_false hz
        rw [hd] at hc
        have hys : ys.isEmpty = false := by
          cases ys with
          | nil => exact absurd hml.symm hz
          | cons _ _ => rfl
        clear hd hz
        go_wp2_with (go_at_call 64; refine (hc.out _).mono ?_; rintro e w1 ⟨rfl, hb1⟩)
        go_roundw
        case rel => exact ⟨k + 1, by omega, by go_num, by rw [hs.out, ha, hys]; rfl, thn hb hb1⟩
        case measure => simp [intOf]; omega
    · obtain rfl : k = ln := by omega
      rw [List.take_of_length_le (by have := H.out.1; omega)] at ha
      go_wp2
      go_ret
      exact ⟨⟨-1, rfl, ⟨fun h => absurd h (by omega), fun h => by rw [ha] at h; cases h⟩, by omega⟩, hb⟩

theorem contains_calls (lA : Option Addr) (ln lc : Nat) (kvs : List (List UInt8 × List UInt8)) (w : World) (h : RdKV w lA ln lc kvs) :
    Calls Tryd.prog 63 #[.slice lA ln lc, .func (.func 64) #[] #[]] w fun e w' => e = .returned (.bool (anyNil kvs)) ∧ Below w.heap.size w w' := by
  have hx := Lib.hid (index103_calls lA ln lc kvs w h)
  clear h
  go_enter Tryd.func63, Tryd.ntmps63
  go_wp2_with (go_at_call 103; refine hx.out.mono ?_; rintro e w1 ⟨⟨i, rfl, hi, hi1⟩, hb1⟩; have HI := Lib.hid hi; clear hi)
  go_ret
  refine ⟨?_, hb1⟩
  have : decide (0 ≤ i) = anyNil kvs := by
    rw [Bool.eq_iff_iff, decide_eq_true_iff]; exact HI.out
  simp [this]
end Go.Proofs.YtfjfjjcdlgdbcaaDoor
namespace Go.Proofs.YtfjfjjcdlgdbcaaDoor
open Go.RowKit

section
variable {P : Program}
theorem run_next_at (W : World) (k : Nat) (s : ByteArray) (pos : Nat) (ty : TypeId) (hk : W.heap[k]? = some (.stringIter s pos)) (h : pos < s.size) :
    (Instr.next (.pointer (some ⟨k, 0, none⟩)) true ty).run P W = .ok (.tuple #[.bool true, .int .i64 pos, .int .i32 (Utf8.decode s pos).1]) { W with heap := W.heap.setIfInBounds k (.stringIter s (pos + (Utf8.decode s pos).2)) } := by
  have hlt : k < W.heap.size := (Array.getElem?_eq_some_iff.1 hk).1
  simp only [Instr.next, getObj, setObj, Sem.run_bind, Sem.run, hk, Result.andThen, h, if_true]
  simp [goInt]
theorem run_next_at_end (W : World) (k : Nat) (s : ByteArray) (pos : Nat) (ty : TypeId) (hk : W.heap[k]? = some (.stringIter s pos)) (h : ¬ pos < s.size) :
    (Instr.next (.pointer (some ⟨k, 0, none⟩)) true ty).run P W = .ok (.tuple #[.bool false]) W := by
  simp [Instr.next, getObj, Sem.run, hk, h]
/-- the next rune of a string -/
theorem wpList_nextS {ops : Array Oper} {rest : List Oper} {o : Oper} {a : Act} {W : World} {Q : Exit → Act → World → Prop} (hgd : o.guard = none) (x : Operand) (ho : o.op = .next x true)
    (k : Nat) (hx : a.eval x = .pointer (some ⟨k, 0, none⟩)) (s : ByteArray) (pos : Nat) (hk : W.heap[k]? = some (.stringIter s pos)) (hp : pos < s.size)
    (h : ∀ W', W'.heap[k]? = some (.stringIter s (pos + (Utf8.decode s pos).2)) → Below k W W' → W'.heap.size = W.heap.size →
      wpList P ops Q rest (a.put o.dst (.tuple #[.bool true, .int .i64 pos, .int .i32 (Utf8.decode s pos).1])) W') : wpList P ops Q (o :: rest) a W :=
  wpList_plain hgd fun K hK => by
    have hlt : k < W.heap.size := (Array.getElem?_eq_some_iff.1 hk).1
    unfold Oper.wp execOp
    simp only [ho, hx, Sem.run_bind, Sem.run_pure, run_next_at W k s pos o.type hk hp, Result.andThen_ok]
    refine hK _ _ (h _ ?_ ⟨rfl, rfl, rfl, ?_, fun i hi => ?_⟩ ?_)
    · simp [hlt]
    · simp
    · show (W.heap.setIfInBounds k _)[i]? = W.heap[i]?
      rw [Array.getElem?_setIfInBounds, if_neg (by omega)]
    · simp
theorem wpList_nextE {ops : Array Oper} {rest : List Oper} {o : Oper} {a : Act} {W : World} {Q : Exit → Act → World → Prop} (hgd : o.guard = none) (x : Operand) (ho : o.op = .next x true)
    (k : Nat) (hx : a.eval x = .pointer (some ⟨k, 0, none⟩)) (s : ByteArray) (pos : Nat) (hk : W.heap[k]? = some (.stringIter s pos)) (hp : ¬ pos < s.size)
    (h : wpList P ops Q rest (a.put o.dst (.tuple #[.bool false])) W) : wpList P ops Q (o :: rest) a W :=
  wpList_plain hgd fun K hK => by
    unfold Oper.wp execOp
    simp only [ho, hx, Sem.run_bind, Sem.run_pure, run_next_at_end W k s pos o.type hk hp, Result.andThen_ok]
    exact hK _ _ h
end
theorem decode_at (xs : List UInt8) (pos : Nat) (h : pos < xs.length) (ha : (xs.getD pos 0).toNat < 128) : Utf8.decode (str xs) pos = ((xs.getD pos 0).toNat, 1) := by
  have e : ((str xs)[pos]'h).toNat = (xs.getD pos 0).toNat := by
    show (xs.toArray[pos]'h).toNat = _
    simp [List.getD_eq_getElem?_getD, List.getElem?_eq_getElem h]
  rw [decode_ascii (str xs) pos h (by rw [e]; exact ha), e]
theorem str_append (a b : List UInt8) : str a ++ str b = str (a ++ b) := by
  apply ByteArray.ext
  simp [str, ByteArray.data_append]
def World.iterAt (W : World) (k : Nat) : Nat := match W.heap[k]? with | some (.stringIter _ p) => p | _ => 0
theorem iterAt_of {W : World} {k : Nat} {s : ByteArray} {p : Nat} (h : W.heap[k]? = some (.stringIter s p)) : World.iterAt W k = p := by unfold World.iterAt; rw [h]

/-- an act's line -/
def fieldsT (A : ActP) (fs : List UInt8) : List UInt8 := (fs.map fun c => 32 :: fieldL A (c.toNat : Int)).flatten
def printT (A : ActP) : List UInt8 := kw A.kind ++ fieldsT A (kf A.kind)
instance (n : Int) : Decidable (isKind n) := by unfold isKind; infer_instance
def badA (A : ActP) : Bool := !(decide (isKind A.kind)) || (decide (A.kind = 22) && anyNil A.l)
def printV (A : ActP) : Value := if badA A then .tuple #[.string ⟨#[]⟩, .int .i64 203] else .tuple #[.string (str (printT A)), .int .i64 0]
theorem fieldsT_take (A : ActP) (fs : List UInt8) (k : Nat) (h : k < fs.length) : fieldsT A (fs.take (k + 1)) = fieldsT A (fs.take k) ++ 32 :: fieldL A ((fs.getD k 0).toNat : Int) := by
  rw [List.take_succ_eq_append_getElem h]
  simp only [fieldsT, List.map_append, List.map_cons, List.map_nil, List.flatten_append, List.flatten_cons, List.flatten_nil, List.append_nil, List.getD_eq_getElem?_getD, List.getElem?_eq_getElem h, Option.getD_some]
theorem kf_ascii (n : Int) : ∀ c ∈ kf n, c.toNat < 128 := by
  by_cases h : isKind n
  · have : ∀ k : Fin 28, ∀ c ∈ (kt.getD k.val ([], [])).2, c.toNat < 128 := by decide +kernel
    have h2 := this ⟨n.toNat, by unfold isKind at h; omega⟩
    unfold kf
    rw [if_pos (by unfold isKind at h; omega)]
    exact h2
  · rw [kf_no n h]; simp

theorem printed_calls (A : ActP) (bA : Option Addr) (bn bc : Nat) (lA : Option Addr) (ln lc : Nat) (c : Int) (w : World) (h : RdAct w A bA bn bc lA ln lc) (hS : A.Small) (hL : LaidW w) :
    Calls Tryd.prog 66 #[.agg (ak A (.slice bA bn bc) (.slice lA ln lc)), .int .i32 c] w fun e w' => e = .returned (.string (str (fieldL A c))) ∧ Below w.heap.size w w' := by
  obtain ⟨hF, hb, hl⟩ := h
  unfold fieldL
  split
  · rename_i e; subst e; exact printed_addr A _ _ w hF
  · split
    · rename_i e; subst e; exact printed_key A _ _ w hF
    · split
      · rename_i e; subst e; exact printed_word A _ _ w hF
      · split
        · rename_i e; subst e; exact printed_root A _ _ w hF
        · split
          · rename_i e; subst e; exact printed_n A _ _ w hF hL
          · split
            · rename_i e; subst e; exact printed_m A _ _ w hF hL
            · split
              · rename_i e; subst e; exact printed_b A _ _ _ _ w hF hb hS.hb
              · exact printed_l A _ _ _ _ c w hF hl hS ⟨by assumption, by assumption, by assumption, by assumption, by assumption, by assumption, by assumption⟩
theorem idx_kind (n : Int) (h : isKind n) (W : World) : (Instr.index 117 (.agg kindsV) (.int .i64 n)).run Tryd.prog W = .ok (.agg #[.string (str (kw n)), .string (str (kf n))]) W := by
  unfold isKind at h
  by_cases h1 : n = 1
  · subst h1; kernel_rfl
  by_cases h2 : n = 2
  · subst h2; kernel_rfl
  by_cases h3 : n = 3
  · subst h3; kernel_rfl
  by_cases h4 : n = 4
  · subst h4; kernel_rfl
  by_cases h5 : n = 5
  · subst h5; kernel_rfl
  by_cases h6 : n = 6
  · subst h6; kernel_rfl
  by_cases h7 : n = 7
  · subst h7; kernel_rfl
  by_cases h8 : n = 8
  · subst h8; kernel_rfl
  by_cases h9 : n = 9
  · subst h9; kernel_rfl
  by_cases h10 : n = 10
  · subst h10; kernel_rfl
  by_cases h11 : n = 11
  · subst h11; kernel_rfl
  by_cases h12 : n = 12
  · subst h12; kernel_rfl
  by_cases h13 : n = 13
  · subst h13; kernel_rfl
  by_cases h14 : n = 14
  · subst h14; kernel_rfl
  by_cases h15 : n = 15
  · subst h15; kernel_rfl
  by_cases h16 : n = 16
  · subst h16; kernel_rfl
  by_cases h17 : n = 17
  · subst h17; kernel_rfl
  by_cases h18 : n = 18
  · subst h18; kernel_rfl
  by_cases h19 : n = 19
  · subst h19; kernel_rfl
  by_cases h20 : n = 20
  · subst h20; kernel_rfl
  by_cases h21 : n = 21
  · subst h21; kernel_rfl
  by_cases h22 : n = 22
  · subst h22; kernel_rfl
  by_cases h23 : n = 23
  · subst h23; kernel_rfl
  by_cases h24 : n = 24
  · subst h24; kernel_rfl
  by_cases h25 : n = 25
  · subst h25; kernel_rfl
  by_cases h26 : n = 26
  · subst h26; kernel_rfl
  by_cases h27 : n = 27
  · subst h27; kernel_rfl
  omega
end Go.Proofs.YtfjfjjcdlgdbcaaDoor
namespace Go.Proofs.YtfjfjjcdlgdbcaaDoor
open Go.RowKit
set_option linter.unusedSimpArgs false
set_option linter.unusedVariables false

theorem Tryd.agg64 : AggT Tryd.prog 64 121 := by
  refine ⟨?_, by kernel_rfl⟩
  rw [Tryd.underlying64]; exact rfl
theorem Tryd.agg116 : AggT Tryd.prog 116 2 := by
  refine ⟨?_, by kernel_rfl⟩
  rw [Tryd.underlying116]; exact rfl
theorem armH_storeAgg {P : Program} (w : World) {ops : Array Oper} {o : Oper} {a : Act} {K : Act → World → Prop} {Q : Exit → Act → World → Prop} {E : Prop}
    (hgd : o.guard = none) (hdst : o.dst = none) (ty : TypeId) (x y : Operand) (ho : o.op = .store ty x y)
    (g p : Nat) (hx : a.eval x = .pointer (some ⟨g, p, none⟩)) (vs : Array Value) (hy : a.eval y = .agg vs) (ht : AggT P ty vs.size) (hr : RoomAt w g p vs.size) (h1 : AllOne vs.toList)
    (h : K a (w.setCells g p vs.toList)) : if Region.wanted o (yielded ops a.tmps) = true then Oper.wp P o a w K Q else E := by
  have hw : Region.wanted o (yielded ops a.tmps) = true := by simp [Region.wanted, hgd]
  rw [if_pos hw]
  unfold Oper.wp execOp
  simp only [ho, hx, hy, Instr.storeAt, Instr.sureAddr, Sem.run_bind, Sem.run_pure, Result.andThen_ok, run_storeAgg w ty g p vs ht hr h1]
  show K (a.put o.dst undef) _
  rw [hdst]
  exact h
theorem itoa_len (n : Int) (h0 : -9223372036854775808 ≤ n) (h1 : n ≤ 9223372036854775807) : (Lib.itoa n).length ≤ 21 := by
  unfold Lib.itoa
  split
  · have := dec_len n.natAbs (by omega)
    simp only [List.length_cons]; omega
  · have := dec_len n.toNat (by omega)
    omega
theorem dotL_len (xs : List UInt8) : (dotL xs).length ≤ xs.length + 1 := by
  unfold dotL; split
  · simp
  · omega
theorem fieldL_len (A : ActP) (h : A.Fit) (hS : A.Small) (c : Int) : (fieldL A c).length ≤ 10000000000000 := by
  unfold fieldL
  repeat' split
  · rw [hexL_length, h.ha]; omega
  · rw [hexL_length, h.hk]; omega
  · rw [hexL_length, h.hw]; omega
  · rw [hexL_length, h.hr]; omega
  · have := itoa_len _ h.hn0 h.hn1; omega
  · have := itoa_len _ h.hm0 h.hm1; omega
  · have := dotL_len (hexL A.b)
    rw [hexL_length] at this
    have := hS.hb
    omega
  · unfold listL
    split
    · simp
    · have := join_len (keysT A.l) 4000000 (fun s hs => by
        obtain ⟨kv, hkv, rfl⟩ := List.mem_map.1 hs
        rw [hexL_length]
        have := hS.hkv kv hkv
        omega)
      have h2 : (keysT A.l).length * (4000000 + 1) ≤ 2000000 * 4000001 := Nat.mul_le_mul (by rw [keysT, List.length_map]; exact hS.hl) (by omega)
      omega
theorem fieldsT_len (A : ActP) (h : A.Fit) (hS : A.Small) (fs : List UInt8) (hl : fs.length ≤ 10) : (fieldsT A fs).length ≤ 1000000000000000 := by
  have key : ∀ fs : List UInt8, (fieldsT A fs).length ≤ fs.length * 10000000000001 := by
    intro fs
    induction fs with
    | nil => simp [fieldsT]
    | cons c fs ih =>
      have := fieldL_len A h hS (c.toNat : Int)
      simp only [fieldsT, List.map_cons, List.flatten_cons, List.length_append, List.length_cons] at ih ⊢
      omega
  have := key fs
  have h2 : fs.length * 10000000000001 ≤ 10 * 10000000000001 := Nat.mul_le_mul hl (Nat.le_refl _)
  omega
theorem kt_len (n : Int) : (kf n).length ≤ 10 ∧ (kw n).length ≤ 10 := by
  by_cases h : isKind n
  · have : ∀ k : Fin 28, (kt.getD k.val ([], [])).2.length ≤ 10 ∧ (kt.getD k.val ([], [])).1.length ≤ 10 := by decide +kernel
    have h2 := this ⟨n.toNat, by unfold isKind at h; omega⟩
    unfold kf kw
    rw [if_pos (by unfold isKind at h; omega), if_pos (by unfold isKind at h; omega)]
    exact h2
  · rw [kf_no n h, kw_no n h]; simp
theorem printV_bad (A : ActP) (h : badA A = true) : printV A = .tuple #[.string ⟨#[]⟩, .int .i64 203] := by rw [printV, if_pos h]
theorem printV_ok (A : ActP) (h : badA A = false) : printV A = .tuple #[.string (str (printT A)), .int .i64 0] := by rw [printV, if_neg (by rw [h]; simp)]

set_option maxRecDepth 100000 in
set_option maxHeartbeats 4000000 in
theorem Print_calls (A : ActP) (bA : Option Addr) (bn bc : Nat) (lA : Option Addr) (ln lc : Nat) (w : World) (h : RdAct w A bA bn bc lA ln lc) (hS : A.Small) (hL : LaidW w) :
    Calls Tryd.prog 35 #[.agg (ak A (.slice bA bn bc) (.slice lA ln lc))] w fun e w' => e = .returned (printV A) ∧ Below w.heap.size w w' := by
  have g0 := ak_0 A (.slice bA bn bc) (.slice lA ln lc)
  have g8 : (ak A (.slice bA bn bc) (.slice lA ln lc))[120]? = some (.slice lA ln lc) := ak_tail A _ _ h.1 3
  have hk0 := h.1.hk0
  have hk1 := h.1.hk1
  have hw0 : Below w.heap.size w (w.alloc (.cells (ak A (.slice bA bn bc) (.slice lA ln lc)) 64)) := al (Below.refl _ _) _
  have hR0 := Lib.hid (h.below hw0)
  have hL0 := Lib.hid (hL.below hw0)
  have hB0 := Lib.hid (Blk.new w 64 (ak A (.slice bA bn bc) (.slice lA ln lc)))
  have hsz : Hid ((ak A (.slice bA bn bc) (.slice lA ln lc)).toList.length = 121) := by rw [Array.length_toList]; exact ak_size A _ _ h.1
  have HS := Lib.hid hS
  have hW0 := Lib.hid hw0
  clear h hL hS hw0
  by_cases h1 : A.kind < 1
  · have hv := Lib.hid (printV_bad A (by unfold badA isKind; rw [show decide (1 ≤ A.kind ∧ A.kind ≤ 27) = false from decide_eq_false (by omega)]; simp))
    go_enter Tryd.func35, Tryd.ntmps35
    go_wp2
    go_ret2
    exact ⟨by rw [hv.out]; rfl, hW0.out⟩
  by_cases h2 : 27 < A.kind
  · have hv := Lib.hid (printV_bad A (by unfold badA isKind; rw [show decide (1 ≤ A.kind ∧ A.kind ≤ 27) = false from decide_eq_false (by omega)]; simp))
    go_enter Tryd.func35, Tryd.ntmps35
    go_wp2
    go_ret2
    exact ⟨by rw [hv.out]; rfl, hW0.out⟩
  have hK := Lib.hid (show isKind A.kind from ⟨by omega, by omega⟩)
  have hix := Lib.hid (idx_kind A.kind hK.out)
  by_cases h22 : A.kind = 22
  · have hcn := Lib.hid (contains_calls lA ln lc A.l _ hR0.out.2.2)
    by_cases hn : anyNil A.l = true
    · have hv := Lib.hid (printV_bad A (by unfold badA; rw [decide_eq_true hK.out, decide_eq_true h22, hn]; rfl))
      rw [hn] at hcn
      go_enter Tryd.func35, Tryd.ntmps35
      go_wp2_with (go_at_call 63; refine hcn.out.mono ?_; rintro e w1 ⟨rfl, hb1⟩)
      go_ret2
      exact ⟨by rw [hv.out]; rfl, thn hW0.out hb1⟩
    · have hn' : anyNil A.l = false := by simpa using hn
      have hv := Lib.hid (printV_ok A (by unfold badA; rw [decide_eq_true hK.out, hn']; simp))
      rw [hn'] at hcn
      have e22 : (A.kind == 22) = true := by simpa using h22
      clear hn hn' h22
      go_enter Tryd.func35, Tryd.ntmps35
      go_upto_region 5 with (go_at_call 63; refine hcn.out.mono ?_; rintro e w1 ⟨rfl, hb1⟩)
      have hB1 := Lib.hid (hB0.out.below hb1 (by simp))
      have hR1 := Lib.hid (hR0.out.below hb1)
      have hL1 := Lib.hid (hL0.out.below hb1)
      have hW1 := Lib.hid (thn hW0.out hb1)
      have hkc : ∀ W, Below w1.heap.size w1 W → W.cell? ⟨w.heap.size, 0, none⟩ = some (Value.int .i64 A.kind) := fun W hW => by rw [(hB1.out.below hW hB1.out.lt).cell]; exact g0
      have HKC := Lib.hid hkc
      clear hkc
      go_cut [4] (fun s4 wz => ∃ bx : Nat, s4 = .pointer (some ⟨bx, 0, none⟩) ∧ Blk wz bx 116 #[.string (str (kw A.kind)), .string (str (kf A.kind))] ∧ Below w1.heap.size w1 wz)
      case first =>
        refine wp_region_held_drew (S := (fun W => W.cell? ⟨w.heap.size, 0, none⟩ = some (Value.int .i64 A.kind))) (by kernel_rfl) (HKC.out _ (Below.refl _ _).drew) (fun hHeld => ?_)
        refine wpAnyH_take (i := 1) (v := .pointer (some ⟨w.heap.size, 0, none⟩)) rfl (by kernel_rfl) (by kernel_rfl) (by kernel_rfl) (fun _ _ _ h => h) (.inl ⟨by rfl, fun W hS => by go_simp⟩) hHeld ?_
        simp only [Act.put, List.setIfInBounds_toArray, List.set_cons_zero, List.set_cons_succ, List.getElem_toArray, List.getElem_cons_succ, List.getElem_cons_zero]
        refine wpAnyH_take (i := 2) (v := .int .i64 A.kind) rfl (by kernel_rfl) (by kernel_rfl) (by kernel_rfl) (fun _ _ _ h => h) (.inl ⟨by rfl, fun W hS => by (have hS : W.cell? ⟨w.heap.size, 0, none⟩ = some (Value.int .i64 A.kind) := hS); go_simp⟩) hHeld ?_
        simp only [Act.put, List.setIfInBounds_toArray, List.set_cons_zero, List.set_cons_succ, List.getElem_toArray, List.getElem_cons_succ, List.getElem_cons_zero]
        refine wpAnyH_ready (rs := [0, 4]) (by kernel_rfl) (by simp) ?_
        refine AllReadyH.cons rfl (fun K hK => ?_) (AllReadyH.cons rfl (fun K hK => ?_) AllReadyH.nil)
        · go_simp
          go_wp2_with (go_at_call 65; refine (kinds_calls _).mono ?_; rintro e w2 ⟨rfl, hb2⟩)
          have hq2 : Below w1.heap.size w1 w2 := (Below.refl _ _).drew.trans hb2
          refine hK.out _ _ (HKC.out _ hq2) (fun hHeld => ?_)
          clear hK K
          refine wpAnyH_take (i := 3) (v := .agg #[.string (str (kw A.kind)), .string (str (kf A.kind))]) rfl (by kernel_rfl) (by kernel_rfl) (by kernel_rfl) (fun _ _ _ h => h) (.inl ⟨by rfl, fun W hS => by (have h3 := hix.out W); go_simp⟩) hHeld ?_
          simp only [Act.put, List.setIfInBounds_toArray, List.set_cons_zero, List.set_cons_succ, List.getElem_toArray, List.getElem_cons_succ, List.getElem_cons_zero]
          refine wpAnyH_ready (rs := [4]) (by kernel_rfl) (by simp) ?_
          refine AllReadyH.cons rfl (fun K hK => ?_) AllReadyH.nil
          go_simp
          refine hK.out _ _ (HKC.out _ (al hq2 _)) (fun hHeld => ?_)
          clear hK K
          refine wpAnyH_ready (rs := [5]) (by kernel_rfl) (by simp) ?_
          refine AllReadyH.cons rfl (fun K hK => ?_) AllReadyH.nil
          go_simp
          refine hK.out _ _ (HKC.out _ (al hq2 _)) (fun hHeld => ?_)
          clear hK K
          refine wpAnyH_done (by kernel_rfl) ?_ _
          go_wp2_with fail
          go_meet
          exact ⟨w2.heap.size, rfl, Blk.new _ _ _, al hq2 _⟩
        · go_simp
          have hq1 := al (Below.refl w1.heap.size w1).drew (.cells #[.string ⟨#[]⟩, .string ⟨#[]⟩] 116)
          refine hK.out _ _ (HKC.out _ hq1) (fun hHeld => ?_)
          clear hK K
          refine wpAnyH_ready (rs := [0]) (by kernel_rfl) (by simp) ?_
          refine AllReadyH.cons rfl (fun K hK => ?_) AllReadyH.nil
          go_simp
          go_wp2_with (go_at_call 65; refine (kinds_calls _).mono ?_; rintro e w2 ⟨rfl, hb2⟩)
          have hq2 : Below w1.heap.size w1 w2 := thn hq1 hb2
          have hbx : Blk w2 w1.heap.size 116 #[.string ⟨#[]⟩, .string ⟨#[]⟩] := (Blk.new w1.drew 116 _).below hb2 (by simp)
          refine hK.out _ _ (HKC.out _ hq2) (fun hHeld => ?_)
          clear hK K
          refine wpAnyH_take (i := 3) (v := .agg #[.string (str (kw A.kind)), .string (str (kf A.kind))]) rfl (by kernel_rfl) (by kernel_rfl) (by kernel_rfl) (fun _ _ _ h => h) (.inl ⟨by rfl, fun W hS => by (have h3 := hix.out W); go_simp⟩) hHeld ?_
          simp only [Act.put, List.setIfInBounds_toArray, List.set_cons_zero, List.set_cons_succ, List.getElem_toArray, List.getElem_cons_succ, List.getElem_cons_zero]
          refine wpAnyH_ready (rs := [5]) (by kernel_rfl) (by simp) ?_
          refine AllReadyH.cons rfl (fun K hK => ?_) AllReadyH.nil
          refine armH_storeAgg _ rfl rfl 116 (.tmp 4) (.tmp 27) rfl w1.heap.size 0 rfl #[.string (str (kw A.kind)), .string (str (kf A.kind))] rfl Tryd.agg116 (hbx.room 0 2 (by simp)) (by intro v hv; simp at hv; rcases hv with rfl | rfl <;> rfl) ?_
          simp only [Act.put, List.setIfInBounds_toArray, List.set_cons_zero, List.set_cons_succ, List.getElem_toArray, List.getElem_cons_succ, List.getElem_cons_zero]
          refine hK.out _ _ (HKC.out _ (below_setCells hq2 _ _ _ (Nat.le_refl _))) (fun hHeld => ?_)
          clear hK K
          refine wpAnyH_done (by kernel_rfl) ?_ _
          go_wp2_with fail
          go_meet
          exact ⟨w1.heap.size, rfl, hbx.setCells _ 0 (by simp), below_setCells hq2 _ _ _ (Nat.le_refl _)⟩
      case rest =>
        obtain ⟨wz, rfl⟩ : ∃ wz : World, wz = wc := ⟨_, rfl⟩
        obtain ⟨bx, rfl, hbk, hbz⟩ := hcut
        have hB2 := Lib.hid (hB1.out.below hbz hB1.out.lt)
        have hR2 := hR1.out.below hbz
        have hL2 := hL1.out.below hbz
        have hW2 := Lib.hid (thn hW1.out hbz)
        have hc0 : wz.cell? ⟨bx, 0, none⟩ = some (.string (str (kw A.kind))) := by rw [hbk.cell]; rfl
        have hc1 : wz.cell? ⟨bx, 1, none⟩ = some (.string (str (kf A.kind))) := by rw [hbk.cell]; rfl
        have hpc := Lib.hid (fun (c : Int) W (hW : Below wz.heap.size wz W) => printed_calls A bA bn bc lA ln lc c W (hR2.below hW) HS.out (hL2.below hW))
        have hag := Lib.hid (fun W (hW : Below wz.heap.size wz W) => cellsAt_blk (hB2.out.below hW hB2.out.lt))
        have hAT : Hid (AggT Tryd.prog 64 (ak A (.slice bA bn bc) (.slice lA ln lc)).toList.length) := by rw [hsz.out]; exact Tryd.agg64
        have hvT : Hid (printV A = .tuple #[.string (str (kw A.kind ++ fieldsT A (kf A.kind))), .int .i64 0]) := hv.out
        have hasc := kf_ascii A.kind
        have hfl := Lib.hid (fieldL_len A hR2.1 HS.out)
        have hfs := Lib.hid (fieldsT_len A hR2.1 HS.out)
        have hlen := Lib.hid (kt_len A.kind)
        clear hR2 hL2 hR1 hL1 hW1 hB1 hbz hbk HKC hv hix hR0 hL0 hB0 hb1 g0 g8 hW0 hsz HS hK e22
        generalize kf A.kind = fs at *
        generalize kw A.kind = kws at *
        have HASC := Lib.hid hasc
        clear hasc
        go_wp2
        go_loopw [5] (fun v wr => ∃ k : Nat, k ≤ fs.length ∧ v = .string (str (kws ++ fieldsT A (fs.take k))) ∧ wr.heap[wz.heap.size]? = some (.stringIter (str fs) k) ∧ Below wz.heap.size wz wr) (fun _ wr => fs.length - World.iterAt wr wz.heap.size)
        case atStart => exact ⟨0, by omega, by simp [fieldsT], heap_alloc_new wz _, al (Below.refl _ _) _⟩
        case round =>
          obtain ⟨k, hk, rfl, hit, hb⟩ := hrel
          have hbs := hb.size
          by_cases hlt : k < fs.length
          · have hdec := Lib.hid (decode_at fs k hlt (HASC.out _ (by rw [List.getD_eq_getElem?_getD, List.getElem?_eq_getElem hlt]; exact List.getElem_mem hlt)))
            have hft := Lib.hid (fieldsT_take A fs k hlt)
            have hlt' : k < (str fs).size := hlt
            generalize fs.getD k 0 = c at hdec hft
            have hn1 : ¬ 9223372036854775807 < 1 + (str (fieldL A (c.toNat : Int))).size := by
              rw [str_size]
              have := hfl.out (c.toNat : Int)
              omega
            have hn2 : ¬ 9223372036854775807 < (str (kws ++ fieldsT A (fs.take k))).size + (1 + (str (fieldL A (c.toNat : Int))).size) := by
              rw [str_size, str_size, List.length_append]
              have := hfl.out (c.toNat : Int)
              have := hfs.out (fs.take k) (by rw [List.length_take]; have := hlen.out; omega)
              have := hlen.out
              omega
            have hit' := Lib.hid hit
            clear hit
            go_wp2_with (first | (refine wpList_nextS rfl (.tmp 32) rfl wz.heap.size rfl (str fs) k hit'.out hlt' ?_; rw [hdec.out]; intro w3 hit3 hb3 hs3; have hb4 := Lib.hid (hb.trans hb3)) | (refine wpList_loadAgg rfl 64 _ rfl w.heap.size 0 rfl _ hAT.out (hag.out _ hb4.out) ?_) | (go_at_call 66; refine (hpc.out _ _ hb4.out).mono ?_; rintro e w5 ⟨rfl, hb5⟩))
            go_roundw
            case rel =>
              refine ⟨k + 1, by omega, ?_, (hb5.block _ (by have := (Array.getElem?_eq_some_iff.1 hit3).1; exact this)).trans hit3, thn hb4.out hb5⟩
              rw [hft.out, show ({ data := #[32] } : ByteArray) = str [32] from rfl, str_append, str_append]
              simp
            case measure =>
              rw [iterAt_of ((hb5.block _ (by have := (Array.getElem?_eq_some_iff.1 hit3).1; exact this)).trans hit3), iterAt_of hit'.out]
              omega
          · obtain rfl : k = fs.length := by omega
            rw [List.take_length]
            go_wp2_with (refine wpList_nextE rfl (.tmp 32) rfl wz.heap.size rfl (str fs) fs.length hit (by show ¬ fs.length < fs.length; omega) ?_)
            go_ret2
            exact ⟨by rw [hvT.out]; rfl, thn hW2.out hb⟩
  · have hv := Lib.hid (printV_ok A (by unfold badA; rw [decide_eq_true hK.out, decide_eq_false h22]; rfl))
    have e22 : (A.kind == 22) = false := by simpa using h22
    obtain ⟨w1, hw1⟩ : ∃ w1, w1 = w.alloc (.cells (ak A (.slice bA bn bc) (.slice lA ln lc)) 64) := ⟨_, rfl⟩
    have hb1 : Below (w.alloc (.cells (ak A (.slice bA bn bc) (.slice lA ln lc)) 64)).heap.size (w.alloc (.cells (ak A (.slice bA bn bc) (.slice lA ln lc)) 64)) w1 := by rw [hw1]; exact Below.refl _ _
    clear h22
    go_enter Tryd.func35, Tryd.ntmps35
    go_upto_region 5 with fail
    rw [← hw1]
    clear hw1
    have hB1 := Lib.hid (hB0.out.below hb1 (by simp))
    have hR1 := Lib.hid (hR0.out.below hb1)
    have hL1 := Lib.hid (hL0.out.below hb1)
    have hW1 := Lib.hid (thn hW0.out hb1)
    have hkc : ∀ W, Below w1.heap.size w1 W → W.cell? ⟨w.heap.size, 0, none⟩ = some (Value.int .i64 A.kind) := fun W hW => by rw [(hB1.out.below hW hB1.out.lt).cell]; exact g0
    have HKC := Lib.hid hkc
    clear hkc
    go_cut [4] (fun s4 wz => ∃ bx : Nat, s4 = .pointer (some ⟨bx, 0, none⟩) ∧ Blk wz bx 116 #[.string (str (kw A.kind)), .string (str (kf A.kind))] ∧ Below w1.heap.size w1 wz)
    case first =>
      refine wp_region_held_drew (S := (fun W => W.cell? ⟨w.heap.size, 0, none⟩ = some (Value.int .i64 A.kind))) (by kernel_rfl) (HKC.out _ (Below.refl _ _).drew) (fun hHeld => ?_)
      refine wpAnyH_take (i := 1) (v := .pointer (some ⟨w.heap.size, 0, none⟩)) rfl (by kernel_rfl) (by kernel_rfl) (by kernel_rfl) (fun _ _ _ h => h) (.inl ⟨by rfl, fun W hS => by go_simp⟩) hHeld ?_
      simp only [Act.put, List.setIfInBounds_toArray, List.set_cons_zero, List.set_cons_succ, List.getElem_toArray, List.getElem_cons_succ, List.getElem_cons_zero]
      refine wpAnyH_take (i := 2) (v := .int .i64 A.kind) rfl (by kernel_rfl) (by kernel_rfl) (by kernel_rfl) (fun _ _ _ h => h) (.inl ⟨by rfl, fun W hS => by (have hS : W.cell? ⟨w.heap.size, 0, none⟩ = some (Value.int .i64 A.kind) := hS); go_simp⟩) hHeld ?_
      simp only [Act.put, List.setIfInBounds_toArray, List.set_cons_zero, List.set_cons_succ, List.getElem_toArray, List.getElem_cons_succ, List.getElem_cons_zero]
      refine wpAnyH_ready (rs := [0, 4]) (by kernel_rfl) (by simp) ?_
      refine AllReadyH.cons rfl (fun K hK => ?_) (AllReadyH.cons rfl (fun K hK => ?_) AllReadyH.nil)
      · go_simp
        go_wp2_with (go_at_call 65; refine (kinds_calls _).mono ?_; rintro e w2 ⟨rfl, hb2⟩)
        have hq2 : Below w1.heap.size w1 w2 := (Below.refl _ _).drew.trans hb2
        refine hK.out _ _ (HKC.out _ hq2) (fun hHeld => ?_)
        clear hK K
        refine wpAnyH_take (i := 3) (v := .agg #[.string (str (kw A.kind)), .string (str (kf A.kind))]) rfl (by kernel_rfl) (by kernel_rfl) (by kernel_rfl) (fun _ _ _ h => h) (.inl ⟨by rfl, fun W hS => by (have h3 := hix.out W); go_simp⟩) hHeld ?_
        simp only [Act.put, List.setIfInBounds_toArray, List.set_cons_zero, List.set_cons_succ, List.getElem_toArray, List.getElem_cons_succ, List.getElem_cons_zero]
        refine wpAnyH_ready (rs := [4]) (by kernel_rfl) (by simp) ?_
        refine AllReadyH.cons rfl (fun K hK => ?_) AllReadyH.nil
        go_simp
        refine hK.out _ _ (HKC.out _ (al hq2 _)) (fun hHeld => ?_)
        clear hK K
        refine wpAnyH_ready (rs := [5]) (by kernel_rfl) (by simp) ?_
        refine AllReadyH.cons rfl (fun K hK => ?_) AllReadyH.nil
        go_simp
        refine hK.out _ _ (HKC.out _ (al hq2 _)) (fun hHeld => ?_)
        clear hK K
        refine wpAnyH_done (by kernel_rfl) ?_ _
        go_wp2_with fail
        go_meet
        exact ⟨w2.heap.size, rfl, Blk.new _ _ _, al hq2 _⟩
      · go_simp
        have hq1 := al (Below.refl w1.heap.size w1).drew (.cells #[.string ⟨#[]⟩, .string ⟨#[]⟩] 116)
        refine hK.out _ _ (HKC.out _ hq1) (fun hHeld => ?_)
        clear hK K
        refine wpAnyH_ready (rs := [0]) (by kernel_rfl) (by simp) ?_
        refine AllReadyH.cons rfl (fun K hK => ?_) AllReadyH.nil
        go_simp
        go_wp2_with (go_at_call 65; refine (kinds_calls _).mono ?_; rintro e w2 ⟨rfl, hb2⟩)
        have hq2 : Below w1.heap.size w1 w2 := thn hq1 hb2
        have hbx : Blk w2 w1.heap.size 116 #[.string ⟨#[]⟩, .string ⟨#[]⟩] := (Blk.new w1.drew 116 _).below hb2 (by simp)
        refine hK.out _ _ (HKC.out _ hq2) (fun hHeld => ?_)
        clear hK K
        refine wpAnyH_take (i := 3) (v := .agg #[.string (str (kw A.kind)), .string (str (kf A.kind))]) rfl (by kernel_rfl) (by kernel_rfl) (by kernel_rfl) (fun _ _ _ h => h) (.inl ⟨by rfl, fun W hS => by (have h3 := hix.out W); go_simp⟩) hHeld ?_
        simp only [Act.put, List.setIfInBounds_toArray, List.set_cons_zero, List.set_cons_succ, List.getElem_toArray, List.getElem_cons_succ, List.getElem_cons_zero]
        refine wpAnyH_ready (rs := [5]) (by kernel_rfl) (by simp) ?_
        refine AllReadyH.cons rfl (fun K hK => ?_) AllReadyH.nil
        refine armH_storeAgg _ rfl rfl 116 (.tmp 4) (.tmp 27) rfl w1.heap.size 0 rfl #[.string (str (kw A.kind)), .string (str (kf A.kind))] rfl Tryd.agg116 (hbx.room 0 2 (by simp)) (by intro v hv; simp at hv; rcases hv with rfl | rfl <;> rfl) ?_
        simp only [Act.put, List.setIfInBounds_toArray, List.set_cons_zero, List.set_cons_succ, List.getElem_toArray, List.getElem_cons_succ, List.getElem_cons_zero]
        refine hK.out _ _ (HKC.out _ (below_setCells hq2 _ _ _ (Nat.le_refl _))) (fun hHeld => ?_)
        clear hK K
        refine wpAnyH_done (by kernel_rfl) ?_ _
        go_wp2_with fail
        go_meet
        exact ⟨w1.heap.size, rfl, hbx.setCells _ 0 (by simp), below_setCells hq2 _ _ _ (Nat.le_refl _)⟩
    case rest =>
      obtain ⟨wz, rfl⟩ : ∃ wz : World, wz = wc := ⟨_, rfl⟩
      obtain ⟨bx, rfl, hbk, hbz⟩ := hcut
      have hB2 := Lib.hid (hB1.out.below hbz hB1.out.lt)
      have hR2 := hR1.out.below hbz
      have hL2 := hL1.out.below hbz
      have hW2 := Lib.hid (thn hW1.out hbz)
      have hc0 : wz.cell? ⟨bx, 0, none⟩ = some (.string (str (kw A.kind))) := by rw [hbk.cell]; rfl
      have hc1 : wz.cell? ⟨bx, 1, none⟩ = some (.string (str (kf A.kind))) := by rw [hbk.cell]; rfl
      have hpc := Lib.hid (fun (c : Int) W (hW : Below wz.heap.size wz W) => printed_calls A bA bn bc lA ln lc c W (hR2.below hW) HS.out (hL2.below hW))
      have hag := Lib.hid (fun W (hW : Below wz.heap.size wz W) => cellsAt_blk (hB2.out.below hW hB2.out.lt))
      have hAT : Hid (AggT Tryd.prog 64 (ak A (.slice bA bn bc) (.slice lA ln lc)).toList.length) := by rw [hsz.out]; exact Tryd.agg64
      have hvT : Hid (printV A = .tuple #[.string (str (kw A.kind ++ fieldsT A (kf A.kind))), .int .i64 0]) := hv.out
      have hasc := kf_ascii A.kind
      have hfl := Lib.hid (fieldL_len A hR2.1 HS.out)
      have hfs := Lib.hid (fieldsT_len A hR2.1 HS.out)
      have hlen := Lib.hid (kt_len A.kind)
      clear hR2 hL2 hR1 hL1 hW1 hB1 hbz hbk HKC hv hix hR0 hL0 hB0 hb1 g0 g8 hW0 hsz HS hK e22
      generalize kf A.kind = fs at *
      generalize kw A.kind = kws at *
      have HASC := Lib.hid hasc
      clear hasc
      go_wp2
      go_loopw [5] (fun v wr => ∃ k : Nat, k ≤ fs.length ∧ v = .string (str (kws ++ fieldsT A (fs.take k))) ∧ wr.heap[wz.heap.size]? = some (.stringIter (str fs) k) ∧ Below wz.heap.size wz wr) (fun _ wr => fs.length - World.iterAt wr wz.heap.size)
      case atStart => exact ⟨0, by omega, by simp [fieldsT], heap_alloc_new wz _, al (Below.refl _ _) _⟩
      case round =>
        obtain ⟨k, hk, rfl, hit, hb⟩ := hrel
        have hbs := hb.size
        by_cases hlt : k < fs.length
        · have hdec := Lib.hid (decode_at fs k hlt (HASC.out _ (by rw [List.getD_eq_getElem?_getD, List.getElem?_eq_getElem hlt]; exact List.getElem_mem hlt)))
          have hft := Lib.hid (fieldsT_take A fs k hlt)
          have hlt' : k < (str fs).size := hlt
          generalize fs.getD k 0 = c at hdec hft
          have hn1 : ¬ 9223372036854775807 < 1 + (str (fieldL A (c.toNat : Int))).size := by
            rw [str_size]
            have := hfl.out (c.toNat : Int)
            omega
          have hn2 : ¬ 9223372036854775807 < (str (kws ++ fieldsT A (fs.take k))).size + (1 + (str (fieldL A (c.toNat : Int))).size) := by
            rw [str_size, str_size, List.length_append]
            have := hfl.out (c.toNat : Int)
            have := hfs.out (fs.take k) (by rw [List.length_take]; have := hlen.out; omega)
            have := hlen.out
            omega
          have hit' := Lib.hid hit
          clear hit
          go_wp2_with (first | (refine wpList_nextS rfl (.tmp 32) rfl wz.heap.size rfl (str fs) k hit'.out hlt' ?_; rw [hdec.out]; intro w3 hit3 hb3 hs3; have hb4 := Lib.hid (hb.trans hb3)) | (refine wpList_loadAgg rfl 64 _ rfl w.heap.size 0 rfl _ hAT.out (hag.out _ hb4.out) ?_) | (go_at_call 66; refine (hpc.out _ _ hb4.out).mono ?_; rintro e w5 ⟨rfl, hb5⟩))
          go_roundw
          case rel =>
            refine ⟨k + 1, by omega, ?_, (hb5.block _ (by have := (Array.getElem?_eq_some_iff.1 hit3).1; exact this)).trans hit3, thn hb4.out hb5⟩
            rw [hft.out, show ({ data := #[32] } : ByteArray) = str [32] from rfl, str_append, str_append]
            simp
          case measure =>
            rw [iterAt_of ((hb5.block _ (by have := (Array.getElem?_eq_some_iff.1 hit3).1; exact this)).trans hit3), iterAt_of hit'.out]
            omega
        · obtain rfl : k = fs.length := by omega
          rw [List.take_length]
          go_wp2_with (refine wpList_nextE rfl (.tmp 32) rfl wz.heap.size rfl (str fs) fs.length hit (by show ¬ fs.length < fs.length; omega) ?_)
          go_ret2
          exact ⟨by rw [hvT.out]; rfl, thn hW2.out hb⟩
end Go.Proofs.YtfjfjjcdlgdbcaaDoor
