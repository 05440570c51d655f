/- archive.printed -/
import Derived.Test.YtfjfjjcdlgdbcaaDoorE5
namespace Go.Proofs.YtfjfjjcdlgdbcaaDoor
open Go.RowKit

/-- the texts of a list of keys -/
def keysT (l : List (List UInt8 × List UInt8)) : List (List UInt8) := l.map fun kv => hexL kv.1
def listL (l : List (List UInt8 × List UInt8)) : List UInt8 := if l = [] then [46] else Lib.join (keysT l) [44]
/-- what a field prints -/
def fieldL (A : ActP) (c : Int) : List UInt8 :=
  if c = 97 then hexL A.addr else if c = 107 then hexL A.key else if c = 119 then hexL A.word else if c = 114 then hexL A.root
  else if c = 110 then Lib.itoa A.n else if c = 109 then Lib.itoa A.m else if c = 98 then dotL (hexL A.b) else listL A.l
structure ActP.Small (A : ActP) : Prop where
  hb : A.b.length ≤ 2000000
  hl : A.l.length ≤ 2000000
  hkv : ∀ kv ∈ A.l, kv.1.length ≤ 2000000

theorem Tryd.info9 : (Tryd.prog.info? 9).map (fun i => (i.zero, i.size, i.bytes)) = some (some (.string ⟨#[]⟩), 1, 16) := by kernel_rfl
def svs (ss : List (List UInt8)) : List Value := ss.map fun s => .string (str s)
/-- the value v is a row of strings of its own -/
def OwnS (w : World) (B : Nat) (v : Value) (ss : List (List UInt8)) : Prop := w.ownsRow B 9 1 v ss.length (svs ss)
theorem OwnS.nil (w : World) (B : Nat) : OwnS w B (.slice none 0 0) [] := World.ownsRow_nil w B 9 1
theorem OwnS.alloc {w : World} {B : Nat} {v : Value} {ss : List (List UInt8)} (h : OwnS w B v ss) (o : Obj) : OwnS (w.alloc o) B v ss := World.ownsRow.alloc h o
theorem OwnS.below {w w1 : World} {B : Nat} {v : Value} {ss : List (List UInt8)} (h : OwnS w B v ss) (hb : Below w.heap.size w w1) : OwnS w1 B v ss :=
  World.ownsRow.kept h (row := none) ⟨hb.os, hb.tape, hb.output, hb.size, fun i hi _ => hb.block i hi⟩ (by cases v.ownBlock <;> simp)
theorem OwnS.reads {w : World} {B : Nat} {v : Value} {ss : List (List UInt8)} (h : OwnS w B v ss) : (v = .slice none 0 0 ∧ ss = []) ∨ ∃ g c, v = .slice (some ⟨g, 0, none⟩) ss.length c ∧ B ≤ g ∧ g < w.heap.size ∧ ss.length ≤ c ∧ c ≤ maxLen ∧ ∀ (j : Nat) s, ss[j]? = some s → w.cell? ⟨g, 0 + j, none⟩ = some (.string (str s)) := by
  rcases h.2 with ⟨rfl, h0⟩ | ⟨g, cap, cur, rfl, hb, hh, hn, hm, _⟩
  · exact .inl ⟨rfl, List.eq_nil_of_length_eq_zero h0⟩
  · refine .inr ⟨g, cap, rfl, hb, (Array.getElem?_eq_some_iff.1 hh).1, hn, hm, fun j s hj => ?_⟩
    have := World.ownsRow.cells h (g := g) rfl j (.string (str s)) (by simp [svs, hj])
    have e : (⟨g, 0, none⟩ : Addr).add j = ⟨g, 0 + j, none⟩ := by unfold Addr.add; split <;> simp_all
    rw [← e]
    exact this
theorem svs_append (a b : List (List UInt8)) : svs (a ++ b) = svs a ++ svs b := by simp [svs]
/-- 'append(l, s)', l a row of the call's own, s a string that has just been laid -/
theorem run_appendS (w : World) (ty : TypeId) (B : Nat) (v : Value) (ss : List (List UInt8)) (s : List UInt8) (g c : Nat) (hown : OwnS w B v ss) (hr : w.cell? ⟨g, 0, none⟩ = some (.string (str s)))
    (hl : ss.length ≤ 10000000) (hB : B ≤ w.heap.size) :
    ∃ v' w', (Builtin.append_ #[84, 84] ty #[v, .slice (some ⟨g, 0, none⟩) 1 c]).run Tryd.prog w = .ok v' w' ∧ OwnS w' B v' (ss ++ [s]) ∧ Below B w w' := by
  obtain ⟨i0, hi, hz0, hz1, hz2⟩ := info_parts Tryd.info9
  obtain ⟨v', w', h1, h2, h3, _⟩ := run_append_own (P := Tryd.prog) w B 84 ty 9 i0 (.string ⟨#[]⟩) 1 16 Tryd.underlying84 hi hz0 hz1 hz2 rfl (by omega) v ss.length (svs ss) hown ⟨g, 0, none⟩ 1 c (svs [s])
      (by simp [svs]) (fun j u hu => by
        match j, hu with
        | 0, hu =>
          obtain rfl : Value.string (str s) = u := by simpa [svs] using hu
          rw [show (⟨g, 0, none⟩ : Addr).add 0 = ⟨g, 0, none⟩ from rfl]
          exact hr
        | j + 1, hu => simp [svs] at hu) (by intro v hv; obtain rfl : v = .string (str s) := by simpa [svs] using hv
                                             rfl) (by unfold maxLen; omega) (by omega) hB
  refine ⟨v', w', h1, ?_, (Below.refl B w).grown h3 hB (fun k hk => (World.ownsRow.lt hown k hk).1)⟩
  rw [← svs_append] at h2
  have e : ss.length + 1 = (ss ++ [s]).length := by simp
  unfold OwnS
  rw [← e]
  exact h2
theorem wpList_appendS (w : World) {ops : Array Oper} {rest : List Oper} {o : Oper} {a : Act} {Q : Exit → Act → World → Prop}
    (hgd : o.guard = none) (s x : Operand) (ho : o.op = .call { callee := .builtin .append, args := #[s, x], argTypes := #[84, 84] })
    (B : Nat) (v : Value) (ss : List (List UInt8)) (y : List UInt8) (hs : a.eval s = v) (g c : Nat) (hx : a.eval x = .slice (some ⟨g, 0, none⟩) 1 c) (hown : OwnS w B v ss) (hr : w.cell? ⟨g, 0, none⟩ = some (.string (str y)))
    (hl : ss.length ≤ 10000000) (hB : B ≤ w.heap.size)
    (h : ∀ v' w', OwnS w' B v' (ss ++ [y]) → Below B w w' → wpList Tryd.prog ops Q rest (a.put o.dst v') w') : wpList Tryd.prog ops Q (o :: rest) a w := by
  obtain ⟨v', w', hrun, h1, h2⟩ := run_appendS w o.type B v ss y g c hown hr hl hB
  refine wpList_plain hgd fun K hK' => ?_
  unfold Oper.wp execOp
  simp only [ho, resolve, invoke, builtin, Sem.run_bind, Sem.run_pure, Result.andThen_ok, List.map_toArray, List.map_cons, List.map_nil, hs, hx, hrun]
  exact hK' _ _ (h v' w' h1 h2)
theorem join_len (ss : List (List UInt8)) (m : Nat) (h : ∀ s ∈ ss, s.length ≤ m) : (Lib.join ss [44]).length ≤ ss.length * (m + 1) := by
  cases ss with
  | nil => simp [Lib.join_nil]
  | cons x r =>
    have hx : x.length ≤ m := h x (by simp)
    have hr : ∀ s ∈ r, s.length ≤ m := fun s hs => h s (by simp [hs])
    have key : ∀ r : List (List UInt8), (∀ s ∈ r, s.length ≤ m) → (Lib.joinTail [44] r).length ≤ r.length * (m + 1) := by
      intro r
      induction r with
      | nil => intro _; simp [Lib.joinTail]
      | cons y r ih =>
        intro hr
        have h1 := ih (fun s hs => hr s (by simp [hs]))
        have h2 := hr y (by simp)
        simp only [Lib.joinTail, List.map_cons, List.flatten_cons, List.length_append, List.length_cons, List.length_nil, Nat.add_mul] at h1 ⊢
        omega
    rw [Lib.join_cons]
    have := key r hr
    simp only [List.length_append, List.length_cons, Nat.add_mul]
    omega

set_option maxHeartbeats 1000000 in
theorem printed_addr (A : ActP) (b l : Value) (w : World) (h : A.Fit) :
    Calls Tryd.prog 66 #[.agg (ak A b l), .int .i32 97] w fun e w' => e = .returned (.string (str (hexL A.addr))) ∧ Below w.heap.size w w' := by
  have hx := Lib.hid (Hex_calls (some ⟨w.heap.size, 1, none⟩) 20 20 A.addr (w.alloc (.cells (ak A b l) 64)) (RdB.sub w 64 (ak A b l) 1 20 A.addr h.ha (by unfold maxLen; omega) (ak_addr A b l)) (by omega))
  go_enter Tryd.func66, Tryd.ntmps66
  go_wp2_with (go_at_call 48; refine hx.out.mono ?_; rintro e w1 ⟨rfl, hb1⟩)
  go_ret
  exact ⟨rfl, thn (al (Below.refl _ _) _) hb1⟩

set_option maxHeartbeats 1000000 in
theorem printed_key (A : ActP) (b l : Value) (w : World) (h : A.Fit) :
    Calls Tryd.prog 66 #[.agg (ak A b l), .int .i32 107] w fun e w' => e = .returned (.string (str (hexL A.key))) ∧ Below w.heap.size w w' := by
  have hx := Lib.hid (Hex_calls (some ⟨w.heap.size, 21, none⟩) 32 32 A.key (w.alloc (.cells (ak A b l) 64)) (RdB.sub w 64 (ak A b l) 21 32 A.key h.hk (by unfold maxLen; omega) (ak_key A b l h)) (by omega))
  go_enter Tryd.func66, Tryd.ntmps66
  go_wp2_with (go_at_call 48; refine hx.out.mono ?_; rintro e w1 ⟨rfl, hb1⟩)
  go_ret
  exact ⟨rfl, thn (al (Below.refl _ _) _) hb1⟩

set_option maxHeartbeats 1000000 in
theorem printed_word (A : ActP) (b l : Value) (w : World) (h : A.Fit) :
    Calls Tryd.prog 66 #[.agg (ak A b l), .int .i32 119] w fun e w' => e = .returned (.string (str (hexL A.word))) ∧ Below w.heap.size w w' := by
  have hx := Lib.hid (Hex_calls (some ⟨w.heap.size, 53, none⟩) 32 32 A.word (w.alloc (.cells (ak A b l) 64)) (RdB.sub w 64 (ak A b l) 53 32 A.word h.hw (by unfold maxLen; omega) (ak_word A b l h)) (by omega))
  go_enter Tryd.func66, Tryd.ntmps66
  go_wp2_with (go_at_call 48; refine hx.out.mono ?_; rintro e w1 ⟨rfl, hb1⟩)
  go_ret
  exact ⟨rfl, thn (al (Below.refl _ _) _) hb1⟩

set_option maxHeartbeats 1000000 in
theorem printed_root (A : ActP) (b l : Value) (w : World) (h : A.Fit) :
    Calls Tryd.prog 66 #[.agg (ak A b l), .int .i32 114] w fun e w' => e = .returned (.string (str (hexL A.root))) ∧ Below w.heap.size w w' := by
  have hx := Lib.hid (Hex_calls (some ⟨w.heap.size, 85, none⟩) 32 32 A.root (w.alloc (.cells (ak A b l) 64)) (RdB.sub w 64 (ak A b l) 85 32 A.root h.hr (by unfold maxLen; omega) (ak_root A b l h)) (by omega))
  go_enter Tryd.func66, Tryd.ntmps66
  go_wp2_with (go_at_call 48; refine hx.out.mono ?_; rintro e w1 ⟨rfl, hb1⟩)
  go_ret
  exact ⟨rfl, thn (al (Below.refl _ _) _) hb1⟩

set_option maxHeartbeats 1000000 in
theorem printed_n (A : ActP) (b l : Value) (w : World) (h : A.Fit) (hL : LaidW w) :
    Calls Tryd.prog 66 #[.agg (ak A b l), .int .i32 110] w fun e w' => e = .returned (.string (str (Lib.itoa A.n))) ∧ Below w.heap.size w w' := by
  have hx := Lib.hid (Itoa_calls A.n (w.alloc (.cells (ak A b l) 64)) h.hn0 h.hn1 (hL.below (al (Below.refl _ _) _)))
  have hg : (ak A b l)[117]? = some (.int .i64 A.n) := ak_tail A b l h 0
  clear hL
  go_enter Tryd.func66, Tryd.ntmps66
  go_wp2_with (go_at_call 104; refine hx.out.mono ?_; rintro e w1 ⟨rfl, hb1⟩)
  go_ret
  exact ⟨rfl, thn (al (Below.refl _ _) _) hb1⟩

set_option maxHeartbeats 1000000 in
theorem printed_m (A : ActP) (b l : Value) (w : World) (h : A.Fit) (hL : LaidW w) :
    Calls Tryd.prog 66 #[.agg (ak A b l), .int .i32 109] w fun e w' => e = .returned (.string (str (Lib.itoa A.m))) ∧ Below w.heap.size w w' := by
  have hx := Lib.hid (Itoa_calls A.m (w.alloc (.cells (ak A b l) 64)) h.hm0 h.hm1 (hL.below (al (Below.refl _ _) _)))
  have hg : (ak A b l)[118]? = some (.int .i64 A.m) := ak_tail A b l h 1
  clear hL
  go_enter Tryd.func66, Tryd.ntmps66
  go_wp2_with (go_at_call 104; refine hx.out.mono ?_; rintro e w1 ⟨rfl, hb1⟩)
  go_ret
  exact ⟨rfl, thn (al (Below.refl _ _) _) hb1⟩

set_option maxHeartbeats 1000000 in
theorem printed_b (A : ActP) (bA : Option Addr) (bn bc : Nat) (l : Value) (w : World) (h : A.Fit) (hr : RdB w bA bn bc A.b) (hs : A.b.length ≤ 2000000) :
    Calls Tryd.prog 66 #[.agg (ak A (.slice bA bn bc) l), .int .i32 98] w fun e w' => e = .returned (.string (str (dotL (hexL A.b)))) ∧ Below w.heap.size w w' := by
  have hx := Lib.hid (digits105_calls bA bn bc A.b (w.alloc (.cells (ak A (.slice bA bn bc) l) 64)) (hr.alloc _) (by rw [← hr.1]; omega))
  have hg : (ak A (.slice bA bn bc) l)[119]? = some (.slice bA bn bc) := ak_tail A _ l h 2
  clear hr hs
  go_enter Tryd.func66, Tryd.ntmps66
  go_wp2_with (go_at_call 105; refine hx.out.mono ?_; rintro e w1 ⟨rfl, hb1⟩)
  go_ret
  exact ⟨rfl, thn (al (Below.refl _ _) _) hb1⟩

theorem keysT_take (l : List (List UInt8 × List UInt8)) (k : Nat) (h : k < l.length) : keysT (l.take (k + 1)) = keysT (l.take k) ++ [hexL (l.getD k ([], [])).1] := by
  rw [List.take_succ_eq_append_getElem h]
  simp only [keysT, List.map_append, List.map_cons, List.map_nil, List.getD_eq_getElem?_getD, List.getElem?_eq_getElem h, Option.getD_some]

/-- strings.Join at ',' -/
theorem Join_calls (w : World) (g c : Nat) (ss : List (List UInt8)) (sep : List UInt8) (m : Nat) (hs : ∀ s ∈ ss, s.length ≤ m) (hm : ss.length ≤ 2000000 ∧ m ≤ 4000000 ∧ sep = [44]) (hg : g < w.heap.size) (hc : ss.length ≤ c)
    (hcs : ∀ (j : Nat) s, ss[j]? = some s → w.cell? ⟨g, 0 + j, none⟩ = some (.string (str s))) :
    Calls Tryd.prog 47 #[.slice (some ⟨g, 0, none⟩) ss.length c, .string (str sep)] w fun e w' => e = .returned (.string (str (Lib.join ss sep))) ∧ Below w.heap.size w w' := by
  have e1 : (ss.map str).map (·.data.toList) = ss := by rw [List.map_map]; exact List.map_id'' (fun _ => rfl) ss
  have hle : (Lib.join ss sep).length ≤ 140737488355328 := by
    rw [hm.2.2]
    have := join_len ss m hs
    have h2 : ss.length * (m + 1) ≤ 2000000 * 4000001 := Nat.mul_le_mul hm.1 (by omega)
    omega
  have := Tryd.strings_Join g 0 c (ss.map str) (str sep) w (fun j x hx => by
    rw [List.getElem?_map, Option.map_eq_some_iff] at hx
    obtain ⟨s, h1, rfl⟩ := hx
    exact hcs j s h1) hg (by rw [List.length_map]; omega) (by rw [List.length_map]; exact hc) (by rw [e1]; exact hle)
  rw [e1, List.length_map] at this
  exact this

set_option maxRecDepth 100000 in
set_option maxHeartbeats 2000000 in
theorem printed_l (A : ActP) (b : Value) (lA : Option Addr) (ln lc : Nat) (c : Int) (w : World) (h : A.Fit) (hr : RdKV w lA ln lc A.l) (hS : A.Small)
    (hc : c ≠ 97 ∧ c ≠ 107 ∧ c ≠ 119 ∧ c ≠ 114 ∧ c ≠ 110 ∧ c ≠ 109 ∧ c ≠ 98) :
    Calls Tryd.prog 66 #[.agg (ak A b (.slice lA ln lc)), .int .i32 c] w fun e w' => e = .returned (.string (str (listL A.l))) ∧ Below w.heap.size w w' := by
  have hg : (ak A b (.slice lA ln lc))[120]? = some (.slice lA ln lc) := ak_tail A _ _ h 3
  have e1 : (c == 97) = false := by simpa using hc.1
  have e2 : (c == 107) = false := by simpa using hc.2.1
  have e3 : (c == 119) = false := by simpa using hc.2.2.1
  have e4 : (c == 114) = false := by simpa using hc.2.2.2.1
  have e5 : (c == 110) = false := by simpa using hc.2.2.2.2.1
  have e6 : (c == 109) = false := by simpa using hc.2.2.2.2.2.1
  have e7 : (c == 98) = false := by simpa using hc.2.2.2.2.2.2
  clear hc
  have hln := hr.1
  by_cases h0 : ln = 0
  · have hl : A.l = [] := List.eq_nil_of_length_eq_zero (by omega)
    rw [hl]
    subst h0
    clear hr hS hln
    go_enter Tryd.func66, Tryd.ntmps66
    go_wp2
    go_ret
    exact ⟨rfl, al (Below.refl _ _) _⟩
  · have hne : A.l ≠ [] := by intro e; rw [e] at hln; exact h0 (by simpa using hln.symm)
    have hll : Hid (listL A.l = Lib.join (keysT A.l) [44]) := by rw [listL, if_neg hne]; trivial
    have hm : ln ≤ 2000000 := by rw [← hln]; exact hS.hl
    have hx := Lib.hid (fun (B : Option Addr) (m d : Nat) (xs : List UInt8) (W : World) (hr : RdB W B m d xs) (hs : m ≤ 100000000) => Hex_calls B m d xs W hr hs)
    have HR := Lib.hid hr
    have HS := Lib.hid hS
    have hz : ((ln : Int) == 0) = false := by simp; omega
    clear hr hS
    go_enter Tryd.func66, Tryd.ntmps66
    go_wp2
    go_loopw [5, 51] (fun v i wr => ∃ k : Nat, k ≤ ln ∧ i = .int .i64 k ∧ OwnS wr w.heap.size v (keysT (A.l.take k)) ∧ Below w.heap.size w wr) (fun _ i _ => ln - (intOf i).toNat)
    case atStart => exact ⟨0, by omega, rfl, OwnS.nil _ _, al (Below.refl _ _) _⟩
    case round =>
      obtain ⟨k, hk, rfl, ho, hb⟩ := hrel
      have hbs := hb.size
      by_cases hlt : k < ln
      · obtain ⟨g, o, B, m, d, B', m', d', rfl, hgk, hc1, hr1, hc2, hr2⟩ := (HR.out.below hb).at_ hlt
        have HF := Lib.hid (keysT_take A.l k (by omega))
        have hmm : m ≤ 2000000 := by
          rw [← hr1.1]
          exact HS.out.hkv _ (List.mem_of_getElem? hgk)
        clear hgk hr2
        generalize (A.l.getD k ([], [])).1 = ys at *
        have HR1 := Lib.hid hr1
        clear hr1
        have hkl : Hid ((keysT (A.l.take k)).length = k) := by rw [keysT, List.length_map, List.length_take, hln]; exact Nat.min_eq_left hk
        go_wp2_with (first | (go_at_call 48; refine (hx.out B m d ys _ (HR1.out.alloc _) (by omega)).mono ?_; rintro e w1 ⟨rfl, hb1⟩) | (at_builtin; refine wpList_appendS _ rfl (.tmp 55) (.tmp 59) rfl w.heap.size _ (keysT (A.l.take k)) (hexL ys) rfl _ _ rfl ((ho.below (thn (al (Below.refl _ _) _) hb1)).alloc _) (World.cell?_alloc_at _ _ _ _ rfl) (by rw [hkl.out]; omega) (by have := hb1.size; simp at this ⊢; omega) ?_; intro v2 w2 ho2 hb2))
        go_roundw
        case rel => exact ⟨k + 1, by omega, by go_num, by rw [HF.out]; exact ho2, (al (thn (al hb _) hb1) _).trans hb2⟩
        case measure => simp [intOf]; omega
      · obtain rfl : k = ln := by omega
        rw [List.take_of_length_le (by omega)] at ho
        have hlen : (keysT A.l).length = k := by rw [keysT, List.length_map, hln]
        rcases ho.reads with ⟨rfl, he⟩ | ⟨g, cc, rfl, hgB, hgw, hlc, hcm, hcs⟩
        · rw [he] at hlen
          exact absurd hlen.symm h0
        · have hj := Lib.hid (Join_calls wr g cc (keysT A.l) [44] 4000000 (fun s hs => by
            obtain ⟨kv, hkv, rfl⟩ := List.mem_map.1 hs
            rw [hexL_length]
            have := HS.out.hkv kv hkv
            omega) ⟨by omega, by omega, rfl⟩ hgw hlc hcs)
          have hlen' := Lib.hid hlen
          clear hlen hcs hlc hcm
          rw [hlen'.out] at hj ⊢
          go_wp2_with (go_at_call 47; refine hj.out.mono ?_; rintro e w1 ⟨rfl, hb1⟩)
          go_ret
          exact ⟨by rw [hll.out]; rfl, thn hb hb1⟩
end Go.Proofs.YtfjfjjcdlgdbcaaDoor
