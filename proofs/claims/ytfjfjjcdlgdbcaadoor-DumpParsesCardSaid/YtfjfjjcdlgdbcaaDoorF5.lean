/- the texts D0, D1, D2 of this proof, one behind the other -/
import Derived.Test.YtfjfjjcdlgdbcaaDoorF4
import Derived.Lib.Bytealg
import Derived.Laws.Externs
import Derived.Lib.Builder
import Derived.Lib.AppendStr
import Derived.Deep.MidRow
import Derived.Deep.QuietTactic
import Derived.BigQuiet
namespace Go.Proofs.YtfjfjjcdlgdbcaaDoor
open Go.RowKit
set_option linter.unusedSimpArgs false
set_option linter.unusedVariables false

theorem add_add (a : Addr) (i j : Nat) : (a.add i).add j = a.add (i + j) := by
  unfold Addr.add
  by_cases hi : i = 0 <;> by_cases hj : j = 0 <;> simp [hi, hj, Nat.add_assoc]
theorem run_loadBytes {P : Program} (w : World) : ∀ (xs : List UInt8) (a : Addr) (acc : List UInt8), (∀ j u, xs[j]? = some u → w.cell? (a.add j) = some (bv u)) →
    (Extern.Bytes.loadBytes a xs.length (str acc)).run P w = .ok (str (acc ++ xs)) w
  | [], a, acc, _ => by rw [List.append_nil]; rfl
  | x :: xs, a, acc, h => by
    have h0 : w.cell? a = some (bv x) := by
      have := h 0 x rfl
      rwa [show a.add 0 = a by unfold Addr.add; simp] at this
    have ih := run_loadBytes (P := P) w xs (a.add 1) (acc ++ [x]) (fun j u hu => by
      rw [add_add, Nat.add_comm]
      exact h (j + 1) u (by simpa using hu))
    rw [List.length_cons, Extern.Bytes.loadBytes]
    simp only [Sem.run_bind, run_load, h0, Result.andThen_ok, bv]
    have e : (str acc).push (((x.toNat : Int)).toNat.toUInt8) = str (acc ++ [x]) := by
      unfold str ByteArray.push
      simp
    rw [e, ih]
    simp
theorem run_bytesOf {P : Program} (w : World) {A : Option Addr} {n c : Nat} {xs : List UInt8} (h : RdB w A n c xs) : (Extern.Bytes.bytesOf (.slice A n c)).run P w = .ok (str xs) w := by
  cases A with
  | none =>
    have hn : n = 0 := by
      rcases Nat.eq_zero_or_pos n with h0 | h0
      · exact h0
      · obtain ⟨ad, e, _⟩ := h.2.2.2 h0; cases e
    obtain rfl : xs = [] := List.eq_nil_of_length_eq_zero (by rw [h.1, hn])
    rfl
  | some a =>
    rcases Nat.eq_zero_or_pos n with h0 | h0
    · obtain rfl : xs = [] := List.eq_nil_of_length_eq_zero (by rw [h.1, h0])
      rw [h0]
      rfl
    · obtain ⟨ad, e, hc⟩ := h.2.2.2 h0
      obtain rfl := Option.some.inj e
      rw [← h.1]
      have := run_loadBytes (P := P) w xs a [] hc
      rw [List.nil_append] at this
      exact this
theorem run_compareB {P : Program} (w : World) {A B : Option Addr} {n c m d : Nat} {xs ys : List UInt8} (h : RdB w A n c xs) (h' : RdB w B m d ys) :
    (Extern.BytealgCompare.compare #[.slice A n c, .slice B m d]).run P w = .ok (.int .i64 (Lib.compareBytes xs ys)) w := by
  change Sem.run P (do pure (goInt (Extern.BytealgCompare.cmp (← Extern.Bytes.bytesOf (.slice A n c)) (← Extern.Bytes.bytesOf (.slice B m d))))) w = _
  simp only [Sem.run_bind, Sem.run_pure, run_bytesOf w h, run_bytesOf w h', Result.andThen_ok]
  rw [Lib.cmp_eq]
  rfl

set_option maxRecDepth 100000 in
set_option maxHeartbeats 1000000 in
theorem Compare_calls (A B : Option Addr) (n c m d : Nat) (xs ys : List UInt8) (w : World) (h : RdB w A n c xs) (h' : RdB w B m d ys) :
    Calls Tryd.prog 99 #[.slice A n c, .slice B m d] w fun e w' => e = .returned (.int .i64 (Lib.compareBytes xs ys)) ∧ w = w' := by
  have hc := Lib.hid (run_compareB (P := Tryd.prog) w h h')
  clear h h'
  go_enter Tryd.func99, Tryd.ntmps99
  go_wp2
  rw [run_callFunc_extern Tryd.func131 (by kernel_rfl) (by kernel_rfl) (by kernel_rfl) (e := Extern.BytealgCompare.compare) (by kernel_rfl), hc.out]
  simp only [Result.andThen]
  rw [Oper.upon_value]
  go_wp2
  go_ret
  exact ⟨rfl, rfl⟩

theorem Tryd.size83 : (Tryd.prog.info? 83).map (·.size) = some 2 := by kernel_rfl

set_option maxHeartbeats 1000000 in
set_option maxRecDepth 100000 in
theorem copyCheck_used (b : Nat) (w : World) (h0 : w.cell? ⟨b, 0, none⟩ = some (.pointer (some ⟨b, 0, none⟩))) :
    Calls Tryd.prog 80 #[.pointer (some ⟨b, 0, none⟩)] w fun e w' => e = .returned (.tuple #[]) ∧ w' = w := by
  obtain ⟨j, hj, _⟩ := Option.map_eq_some_iff.1 Tryd.size83
  go_enter Tryd.func80, Tryd.ntmps80
  go_wp2
  rw [Lib.run_neq_ptr_same w _ Tryd.underlying81 hj]
  go_wp2
  go_end0
  exact ⟨rfl, rfl⟩

set_option maxHeartbeats 1000000 in
set_option maxRecDepth 100000 in
theorem copyCheck_fresh (b : Nat) (w : World) (h0 : w.cell? ⟨b, 0, none⟩ = some (.pointer none)) (hsh : w.shape? b = some (83, 2)) (hfz : w.frozen? ⟨b, 0, none⟩ = false) :
    Calls Tryd.prog 80 #[.pointer (some ⟨b, 0, none⟩)] w fun e w' => e = .returned (.tuple #[]) ∧ w' = w.setCell ⟨b, 0, none⟩ (.pointer (some ⟨b, 0, none⟩)) := by
  obtain ⟨j, hj, hjs⟩ := Option.map_eq_some_iff.1 Tryd.size83
  go_enter Tryd.func80, Tryd.ntmps80
  go_wp2
  rw [Lib.run_to_unsafe w ⟨b, 0, none⟩ Tryd.underlying81 Tryd.underlying169 hj (by rw [hjs]; decide) hsh (Nat.zero_lt_succ 1)]
  simp only [Result.andThen]
  rw [Oper.upon_value]
  go_wp2
  rw [run_callFunc_extern Tryd.func118 (by kernel_rfl) (by kernel_rfl) (by kernel_rfl) (e := Extern.AbiNoEscape.same) (by kernel_rfl)]
  rw [Lib.run_noEscape]
  simp only [Result.andThen]
  rw [Oper.upon_value]
  go_wp2
  rw [Lib.run_from_unsafe w ⟨b, 0, none⟩ Tryd.underlying169 Tryd.underlying81 hj hsh (by kernel_rfl)]
  simp only [Result.andThen]
  rw [Oper.upon_value]
  go_wp2
  go_end0
  exact ⟨rfl, rfl⟩
theorem copyCheck_calls (B b : Nat) (bs : List Value) (w : World) (h : Lib.IsBuilder 83 5 B b bs w) :
    Calls Tryd.prog 80 #[.pointer (some ⟨b, 0, none⟩)] w fun e w' => e = .returned (.tuple #[]) ∧ (Lib.BuilderAt 83 5 B b (.pointer (some ⟨b, 0, none⟩)) bs w' ∧ Below B w w') := by
  rcases h with h | h
  · refine (copyCheck_fresh b w h.cell0 h.shape h.frozen0).mono ?_
    rintro e w' ⟨rfl, rfl⟩
    exact ⟨rfl, h.used _, (Below.refl B w).setCell (p := ⟨b, 0, none⟩) h.1 _⟩
  · refine (copyCheck_used b w h.cell0).mono ?_
    rintro e w' ⟨rfl, rfl⟩
    exact ⟨rfl, h, Below.refl B _⟩

set_option maxHeartbeats 2000000 in
set_option maxRecDepth 100000 in
theorem WriteString_calls (B b : Nat) (bs : List Value) (s : ByteArray) (w : World) (h : Lib.IsBuilder 83 5 B b bs w) (hlen : bs.length + s.size ≤ 140737488355328) (hBw : B ≤ w.heap.size) :
    Calls Tryd.prog 46 #[.pointer (some ⟨b, 0, none⟩), .string s] w fun e w' => e = .returned (.tuple #[.int .i64 s.size, .nilIface]) ∧ (Lib.BuilderAt 83 5 B b (.pointer (some ⟨b, 0, none⟩)) (bs ++ Lib.strCells s) w' ∧ Below B w w') := by
  obtain ⟨i0, hi, hz0, hz1, hz2⟩ := info_parts Tryd.info5
  go_enter Tryd.func46, Tryd.ntmps46
  go_wp2_with (go_at_call 80; refine (copyCheck_calls B b bs _ h).mono ?_)
  rintro e w1 ⟨rfl, h1, hb1⟩
  obtain ⟨hB, v, hbk, hown, hne⟩ := h1
  have c0 : w1.cell? ⟨b, 0, none⟩ = some (.pointer (some ⟨b, 0, none⟩)) := by rw [Lib.cell_of_heap hbk]; rfl
  have c1 : w1.cell? ⟨b, 1, none⟩ = some v := by rw [Lib.cell_of_heap hbk]; rfl
  go_wp2_with (at_builtin; refine Lib.wpList_append_own_string _ rfl _ _ 22 9 rfl B 5 i0 Tryd.underlying22 Tryd.underlying9 hi hz0 hz1 hz2 _ _ _ rfl hown s rfl ?c3 ?c4 ?c5 ?_)
  case c3 => unfold maxLen; omega
  case c4 => omega
  case c5 => have := hb1.size; omega
  intro v' w2 hown' hgrow _
  have hlt : b < w1.heap.size := by
    rcases Nat.lt_or_ge b w1.heap.size with h' | h'
    · exact h'
    · simp [Array.getElem?_eq_none h'] at hbk
  have hb2 : w2.heap[b]? = some (.cells #[.pointer (some ⟨b, 0, none⟩), v] 83 (0, 0)) := by
    rw [hgrow.block b hlt (fun e => hne e.symm)]
    exact hbk
  have d0 : w2.cell? ⟨b, 0, none⟩ = some (.pointer (some ⟨b, 0, none⟩)) := by rw [Lib.cell_of_heap hb2]; rfl
  have d1 : w2.cell? ⟨b, 1, none⟩ = some v := by rw [Lib.cell_of_heap hb2]; rfl
  have f1 : w2.frozen? ⟨b, 1, none⟩ = false := Lib.frozen_of_heap hb2 1
  obtain ⟨ao, n', cap, rfl⟩ : ∃ ao n' cap, v' = .slice ao n' cap := by
    rcases hown'.2 with ⟨hv, _⟩ | ⟨g, cap, cur, hv, _⟩
    · exact ⟨_, _, _, hv⟩
    · exact ⟨_, _, _, hv⟩
  go_wp2
  go_ret2
  refine ⟨rfl, ?_, ?_⟩
  · exact Lib.BuilderAt.put (T := 83) (e := 5) hB hb2 (bs' := bs ++ Lib.strCells s) (by simpa [Lib.strCells_length] using hown') (by decide)
  · exact (hb1.grown hgrow (by have := hb1.size; omega) (fun k hk => (hown.lt k hk).1)).setCell (p := ⟨b, 1, none⟩) hB _
end Go.Proofs.YtfjfjjcdlgdbcaaDoor
namespace Go.Proofs.YtfjfjjcdlgdbcaaDoor
open Go.RowKit
set_option linter.unusedSimpArgs false
set_option linter.unusedVariables false

/-- an account of a dump in plain words -/
structure EntP where
  addr : List UInt8
  nonce : Nat
  bal : List UInt8
  code : List UInt8
  slots : List (List UInt8 × List UInt8)
structure EntP.Fit (e : EntP) : Prop where
  ha : e.addr.length = 20
  hn : e.nonce < 18446744073709551616
  hb : e.bal.length = 32
  hs : ∀ h ∈ e.slots, h.1.length = 32 ∧ h.2.length = 32
/-- its cells -/
def ek (e : EntP) (c s : Value) : Array Value := (bvs e.addr ++ ([Value.int .u64 (e.nonce : Int)] ++ (bvs e.bal ++ [c, s]))).toArray
/-- a slot's cells -/
def hk (h : List UInt8 × List UInt8) : List Value := bvs h.1 ++ bvs h.2
theorem ek_size (e : EntP) (c s : Value) (h : e.Fit) : (ek e c s).size = 55 := by simp [ek, bvs_length, h.ha, h.hb]
theorem hk_length (h : List UInt8 × List UInt8) (h1 : h.1.length = 32 ∧ h.2.length = 32) : (hk h).length = 64 := by simp [hk, bvs_length, h1.1, h1.2]
theorem ek_addr (e : EntP) (c s : Value) (j : Nat) (u : UInt8) (hu : e.addr[j]? = some u) : (ek e c s)[0 + j]? = some (bv u) := by
  rw [ek, List.getElem?_toArray, Nat.zero_add]
  exact app_lt _ _ _ _ (bvs_get hu)
theorem ek_nonce (e : EntP) (c s : Value) (h : e.Fit) : (ek e c s)[20]? = some (.int .u64 (e.nonce : Int)) := by
  rw [ek, List.getElem?_toArray, show 20 = 20 + 0 by rfl, app_at 20 _ _ (by rw [bvs_length, h.ha])]
  rfl
theorem ek_bal (e : EntP) (c s : Value) (h : e.Fit) (j : Nat) (u : UInt8) (hu : e.bal[j]? = some u) : (ek e c s)[21 + j]? = some (bv u) := by
  rw [ek, List.getElem?_toArray, show 21 + j = 20 + (1 + j) by omega, app_at 20 _ _ (by rw [bvs_length, h.ha]), app_at 1 _ _ rfl]
  exact app_lt _ _ _ _ (bvs_get hu)
theorem ek_tail (e : EntP) (c s : Value) (h : e.Fit) (j : Nat) : (ek e c s)[53 + j]? = [c, s][j]? := by
  rw [ek, List.getElem?_toArray, show 53 + j = 20 + (1 + (32 + j)) by omega, app_at 20 _ _ (by rw [bvs_length, h.ha]), app_at 1 _ _ rfl, app_at 32 _ _ (by rw [bvs_length, h.hb])]
theorem ek_one (e : EntP) (A : Option Addr) (n c : Nat) (B : Option Addr) (m d : Nat) : AllOne (ek e (.slice A n c) (.slice B m d)).toList := by
  intro v hv
  simp only [ek, List.mem_cons, List.mem_append, List.not_mem_nil, or_false] at hv
  rcases hv with hv | rfl | hv | rfl | rfl
  · exact oneCell_bvs _ _ hv
  · rfl
  · exact oneCell_bvs _ _ hv
  all_goals rfl
theorem hk_one (h : List UInt8 × List UInt8) : AllOne (hk h) := by
  intro v hv
  rcases List.mem_append.1 hv with hv | hv
  · exact oneCell_bvs _ _ hv
  · exact oneCell_bvs _ _ hv
theorem CellsAt.below {w w1 : World} {g o : Nat} {vs : List Value} (h : CellsAt w g o vs) (hb : Below w.heap.size w w1) : CellsAt w1 g o vs := fun j u hu => cell_below' hb (h j u hu)
theorem CellsAt.drewN {w : World} {g o : Nat} {vs : List Value} (h : CellsAt w g o vs) (k : Nat) : CellsAt (w.drewN k) g o vs := h
theorem CellsAt.part {w : World} {g o : Nat} {vs : List Value} (h : CellsAt w g o vs) (off : Nat) (xs : List UInt8) (hx : ∀ j u, xs[j]? = some u → vs[off + j]? = some (bv u)) : CellsAt w g (o + off) (bvs xs) := by
  intro j v hv
  obtain ⟨u, hu, rfl⟩ : ∃ u, xs[j]? = some u ∧ v = bv u := by
    simp only [bvs, List.getElem?_map, Option.map_eq_some_iff] at hv
    obtain ⟨u, h1, h2⟩ := hv
    exact ⟨u, h1, h2.symm⟩
  rw [Nat.add_assoc]
  exact h _ _ (hx j u hu)
theorem CellsAt.rd {w : World} {g o n : Nat} {xs : List UInt8} (h : CellsAt w g o (bvs xs)) (hn : xs.length = n) (hm : n ≤ maxLen := by unfold maxLen; omega) : RdB w (some ⟨g, o, none⟩) n n xs := by
  refine ⟨hn, Nat.le_refl _, hm, fun _ => ⟨_, rfl, fun j u hu => ?_⟩⟩
  have e : (⟨g, o, none⟩ : Addr).add j = ⟨g, o + j, none⟩ := by unfold Addr.add; split <;> simp_all
  rw [e]
  exact h j (bv u) (bvs_get hu)

theorem bvs_of {xs : List UInt8} {j : Nat} {v : Value} (h : (bvs xs)[j]? = some v) : ∃ u, xs[j]? = some u ∧ v = bv u := by
  simp only [bvs, List.getElem?_map, Option.map_eq_some_iff] at h
  obtain ⟨u, h1, h2⟩ := h
  exact ⟨u, h1, h2.symm⟩
theorem Blk.bytes {w : World} {g : Nat} {t : TypeId} {cs : Array Value} (hB : Blk w g t cs) (off : Nat) (xs : List UInt8) (h : ∀ j u, xs[j]? = some u → cs[off + j]? = some (bv u)) : CellsAt w g off (bvs xs) :=
  hB.cells off _ (fun j v hv => by
    obtain ⟨u, hu, rfl⟩ := bvs_of hv
    exact h j u hu)
/-- the slice value (A, n, c) reads as slots -/
def RdS (w : World) (A : Option Addr) (n c : Nat) (hs : List (List UInt8 × List UInt8)) : Prop :=
  hs.length = n ∧ n ≤ c ∧ c ≤ maxLen ∧ (0 < n → ∃ g o, A = some ⟨g, o, none⟩ ∧ ∀ j h, hs[j]? = some h → CellsAt w g (o + j * 64) (hk h))
theorem RdS.below {w w1 : World} {A : Option Addr} {n c : Nat} {hs : List (List UInt8 × List UInt8)} (h : RdS w A n c hs) (hb : Below w.heap.size w w1) : RdS w1 A n c hs :=
  ⟨h.1, h.2.1, h.2.2.1, fun hn => by
    obtain ⟨g, o, e, hc⟩ := h.2.2.2 hn
    exact ⟨g, o, e, fun j x hj => (hc j x hj).below hb⟩⟩
theorem RdS.at_ {w : World} {A : Option Addr} {n c : Nat} {hs : List (List UInt8 × List UInt8)} (h : RdS w A n c hs) {k : Nat} (hk' : k < n) :
    ∃ g o, A = some ⟨g, o, none⟩ ∧ hs[k]? = some (hs.getD k ([], [])) ∧ CellsAt w g (o + k * 64) (hk (hs.getD k ([], []))) := by
  obtain ⟨g, o, e, hc⟩ := h.2.2.2 (by omega)
  have hl : k < hs.length := by have := h.1; omega
  have hg : hs[k]? = some (hs.getD k ([], [])) := by rw [List.getD_eq_getElem?_getD, List.getElem?_eq_getElem hl]; rfl
  exact ⟨g, o, e, hg, hc k _ hg⟩
/-- a row of cells reads as an account -/
structure RdEnt (w : World) (e : EntP) (B : Option Addr) (m d : Nat) (S : Option Addr) (k q : Nat) : Prop where
  fit : e.Fit
  code : RdB w B m d e.code
  slots : RdS w S k q e.slots
theorem RdEnt.below {w w1 : World} {e : EntP} {B : Option Addr} {m d : Nat} {S : Option Addr} {k q : Nat} (h : RdEnt w e B m d S k q) (hb : Below w.heap.size w w1) : RdEnt w1 e B m d S k q := ⟨h.fit, h.code.below hb, h.slots.below hb⟩
def zE : EntP := ⟨[], 0, [], [], []⟩
/-- the slice value (A, n, c) reads as accounts -/
def RdE (w : World) (A : Option Addr) (n c : Nat) (es : List EntP) : Prop :=
  es.length = n ∧ n ≤ c ∧ c ≤ maxLen ∧ (0 < n → ∃ g o, A = some ⟨g, o, none⟩ ∧ ∀ j e, es[j]? = some e → ∃ B m d S k q, CellsAt w g (o + j * 55) (ek e (.slice B m d) (.slice S k q)).toList ∧ RdEnt w e B m d S k q)
theorem RdE.below {w w1 : World} {A : Option Addr} {n c : Nat} {es : List EntP} (h : RdE w A n c es) (hb : Below w.heap.size w w1) : RdE w1 A n c es :=
  ⟨h.1, h.2.1, h.2.2.1, fun hn => by
    obtain ⟨g, o, e, hc⟩ := h.2.2.2 hn
    refine ⟨g, o, e, fun j x hj => ?_⟩
    obtain ⟨B, m, d, S, k, q, h1, h2⟩ := hc j x hj
    exact ⟨B, m, d, S, k, q, h1.below hb, h2.below hb⟩⟩
theorem RdE.at_ {w : World} {A : Option Addr} {n c : Nat} {es : List EntP} (h : RdE w A n c es) {k : Nat} (hk' : k < n) :
    ∃ g o B m d S l q, A = some ⟨g, o, none⟩ ∧ es[k]? = some (es.getD k zE) ∧ CellsAt w g (o + k * 55) (ek (es.getD k zE) (.slice B m d) (.slice S l q)).toList ∧ RdEnt w (es.getD k zE) B m d S l q := by
  obtain ⟨g, o, e, hc⟩ := h.2.2.2 (by omega)
  have hl : k < es.length := by have := h.1; omega
  have hg : es[k]? = some (es.getD k zE) := by rw [List.getD_eq_getElem?_getD, List.getElem?_eq_getElem hl]; rfl
  obtain ⟨B, m, d, S, l, q, h1, h2⟩ := hc k _ hg
  exact ⟨g, o, B, m, d, S, l, q, e, hg, h1, h2⟩
theorem Tryd.agg79 : AggT Tryd.prog 79 55 := by
  refine ⟨?_, by kernel_rfl⟩
  rw [Tryd.underlying79]; exact rfl
theorem Tryd.agg95 : AggT Tryd.prog 95 64 := by
  refine ⟨?_, by kernel_rfl⟩
  rw [Tryd.underlying95]; exact rfl
theorem ek_aggL (e : EntP) (c s : Value) (h : e.Fit) : AggT Tryd.prog 79 (ek e c s).toList.length := by rw [Array.length_toList, ek_size _ _ _ h]; exact Tryd.agg79
theorem ek_aggS (e : EntP) (c s : Value) (h : e.Fit) : AggT Tryd.prog 79 (ek e c s).size := by rw [ek_size _ _ _ h]; exact Tryd.agg79
theorem Compare_q (A B : Option Addr) (n c m d : Nat) (xs ys : List UInt8) (w : World) (h : RdB w A n c xs) (h' : RdB w B m d ys) :
    Calls Tryd.prog 99 #[.slice A n c, .slice B m d] w fun e w' => e = .returned (.int .i64 (Lib.compareBytes xs ys)) ∧ w' = w :=
  (Compare_calls A B n c m d xs ys w h h').mono fun e w' ⟨h1, h2⟩ => ⟨h1, h2.symm⟩

def z32w : List UInt8 := List.replicate 32 0
/-- may a list go on by its entry i? -/
def risesB (es : List EntP) (i : Nat) : Bool :=
  !(decide (0 < i) && decide (0 ≤ Lib.compareBytes (es.getD (i - 1) zE).addr (es.getD i zE).addr)) && !decide (4096 < (es.getD i zE).code.length) && !decide ((es.getD i zE).nonce = 18446744073709551615) &&
    (decide (0 < (es.getD i zE).nonce) || !decide ((es.getD i zE).bal = z32w) || decide (0 < (es.getD i zE).code.length))
/-- may slots go on by the one at i? -/
def holdsB (hs : List (List UInt8 × List UInt8)) (i : Nat) : Bool :=
  !decide ((hs.getD i ([], [])).2 = z32w) && (decide (i = 0) || decide (Lib.compareBytes (hs.getD (i - 1) ([], [])).1 (hs.getD i ([], [])).1 < 0))
end Go.Proofs.YtfjfjjcdlgdbcaaDoor
namespace Go.Proofs.YtfjfjjcdlgdbcaaDoor
open Go.RowKit
set_option linter.unusedSimpArgs false
set_option linter.unusedVariables false
attribute [local irreducible] wpQuiet

theorem Tryd.agg61d : AggT Tryd.prog 61 32 := by
  refine ⟨?_, by kernel_rfl⟩
  rw [Tryd.underlying61]; exact rfl
theorem Tryd.g61d : Tryd.prog.eqGuardType Tryd.prog.depth 61 = false := by kernel_rfl
theorem eq_z32 (xs : List UInt8) (hx : xs.length = 32) (W : World) : (Op.equalIn 10000 61 (.agg (bvs xs).toArray) (.agg (bvs z32w).toArray)).run Tryd.prog W = .ok (decide (xs = z32w)) W :=
  run_equalBytes (P := Tryd.prog) W 9998 61 5 32 xs z32w (by kernel_rfl) Tryd.underlying61 Tryd.underlying5 (by kernel_rfl) (by kernel_rfl) hx rfl
theorem build_z32 (e : Operand → Value) (o : Oper) (ho : o.op = .build 61 #[]) (w : World) : (execOp e o).run Tryd.prog w = .ok (.value (.agg (bvs z32w).toArray)) w := by
  unfold execOp
  rw [ho]
  kernel_rfl
theorem wpList_buildG {ops : Array Oper} {rest : List Oper} {o : Oper} {a : Act} {w : World} {Q : Exit → Act → World → Prop} (hw : Region.wanted o (yielded ops a.tmps) = true) (ho : o.op = .build 61 #[])
    (h : wpList Tryd.prog ops Q rest (a.put o.dst (.agg (bvs z32w).toArray)) w) : wpList Tryd.prog ops Q (o :: rest) a w :=
  wpList_step fun K hK => by
    rw [if_pos hw]
    unfold Oper.wp
    rw [build_z32 _ _ ho]
    exact hK _ _ h

set_option maxRecDepth 100000 in
set_option maxHeartbeats 4000000 in
theorem rises_s1 (n c : Nat) (es : List EntP) (i : Nat) (w : World) (g o : Nat) (h : RdE w (some ⟨g, o, none⟩) n c es) (hi : i + 1 < n) (hcmp : 0 ≤ Lib.compareBytes (es.getD i zE).addr (es.getD (i + 1) zE).addr) :
    Calls Tryd.prog 59 #[.slice (some ⟨g, o, none⟩) n c, .int .i64 ((i + 1 : Nat) : Int)] w fun e w' => e = .returned (.bool (risesB es (i + 1))) ∧ Below w.heap.size w w' := by
  have HR := Lib.hid (show risesB es (i + 1) = false by unfold risesB; rw [show i + 1 - 1 = i by omega, decide_eq_true (show 0 < i + 1 by omega), decide_eq_true hcmp]; rfl)
  obtain ⟨g', o', B, m, d, S, l, q, e0, hg, hc, hE⟩ := h.at_ hi
  injection e0 with e0; injection e0 with e1 e2; subst e1 e2
  obtain ⟨g', o', B', m', d', S', l', q', e0, hg', hc', hE'⟩ := h.at_ (k := i) (by omega)
  injection e0 with e0; injection e0 with e1 e2; subst e1 e2
  have hm : n ≤ 9223372036854775807 := by have := h.2.1; have := h.2.2.1; unfold maxLen at this; omega
  clear h hg hg'
  have hmc := hE.code.1
  have hmm : m ≤ 9223372036854775807 := by have := hE.code.2.1; have := hE.code.2.2.1; unfold maxLen at this; omega
  rw [HR.out]
  clear HR
  generalize es.getD (i + 1) zE = x at *
  generalize es.getD i zE = y at *
  have HT := Lib.hid (ek_aggL x (.slice B m d) (.slice S l q) hE.fit)
  have HT2 := Lib.hid (ek_aggS x (.slice B m d) (.slice S l q) hE.fit)
  have HC := Lib.hid hc
  have HO := Lib.hid (ek_one x B m d S l q)
  have hs55 := Lib.hid (ek_size x (.slice B m d) (.slice S l q) hE.fit)
  have hN := Blk.new w 79 (ek x (.slice B m d) (.slice S l q))
  have c53 := (hN.cell 53).trans (ek_tail x _ _ hE.fit 0)
  have c20 := (hN.cell 20).trans (ek_nonce x _ _ hE.fit)
  simp only [List.getElem?_cons_zero] at c53
  have HB1 := Lib.hid (fun q => (hN.bytes 21 x.bal (ek_bal x _ _ hE.fit)).drewN q)
  have T61 : Hid (AggT Tryd.prog 61 (bvs x.bal).length) := by rw [bvs_length, hE.fit.hb]; exact Tryd.agg61d
  have hEz := eq_z32 x.bal hE.fit.hb
  have g61 := Tryd.g61d
  have hA := Lib.hid (((hc'.part 0 y.addr (fun j u hu => by rw [Array.getElem?_toList]; exact ek_addr y _ _ j u hu)).rd hE'.fit.ha).alloc (.cells (ek x (.slice B m d) (.slice S l q)) 79))
  rw [Nat.add_zero] at hA
  have hB := Lib.hid (Blk.rd hN 0 20 x.addr hE.fit.ha (by unfold maxLen; omega) (ek_addr x _ _))
  have hIi : (0 : Int) ≤ (i : Int) ∧ (i : Int) < (n : Int) ∧ (0 : Int) ≤ (i : Int) + 1 ∧ (i : Int) + 1 < (n : Int) := by omega
  have htn : ((i : Int) + 1).toNat = i + 1 := by omega
  have hwi : IntKind.i64.wrap (i : Int) = i := IntWalk.i64_in _ (by omega)
  have hnI : 0 ≤ (x.nonce : Int) ∧ (x.nonce : Int) ≤ 18446744073709551615 := by have := hE.fit.hn; omega
  have hci : 0 ≤ Lib.compareBytes y.addr x.addr := by omega
  clear hc hE hN hcmp hc' hE'
  generalize x.nonce = nn at *
  go_enter Tryd.func59, Tryd.ntmps59
  go_wp2_with (first | (refine wpList_loadAgg rfl 79 (.tmp 8) rfl g (o + (i + 1) * 55) rfl _ HT.out HC.out ?_) | (refine wpList_storeNew rfl rfl 79 (.tmp 5) _ rfl _ _ rfl (ek x (.slice B m d) (.slice S l q)) rfl HT2.out (by rw [hs55.out]; rfl) HO.out ?_))
  go_quiet ((go_at_call 99; exact Calls.quiet_of_same (Compare_q _ _ _ _ _ _ _ _ _ (hA.out.drewN _) (hB.out.drewN _))))
  go_wp2
  go_ret
  exact ⟨rfl, (al (Below.refl _ _) _).trans (drawn_below' _ _ _ (by simp))⟩

set_option maxRecDepth 100000 in
set_option maxHeartbeats 4000000 in
theorem rises_s2 (n c : Nat) (es : List EntP) (i : Nat) (w : World) (g o : Nat) (h : RdE w (some ⟨g, o, none⟩) n c es) (hi : i + 1 < n) (hcmp : ¬ 0 ≤ Lib.compareBytes (es.getD i zE).addr (es.getD (i + 1) zE).addr) (h1 : 4096 < (es.getD (i + 1) zE).code.length) :
    Calls Tryd.prog 59 #[.slice (some ⟨g, o, none⟩) n c, .int .i64 ((i + 1 : Nat) : Int)] w fun e w' => e = .returned (.bool (risesB es (i + 1))) ∧ Below w.heap.size w w' := by
  have HR := Lib.hid (show risesB es (i + 1) = false by unfold risesB; rw [show i + 1 - 1 = i by omega, decide_eq_true (show 0 < i + 1 by omega), decide_eq_false hcmp, decide_eq_true h1]; rfl)
  obtain ⟨g', o', B, m, d, S, l, q, e0, hg, hc, hE⟩ := h.at_ hi
  injection e0 with e0; injection e0 with e1 e2; subst e1 e2
  obtain ⟨g', o', B', m', d', S', l', q', e0, hg', hc', hE'⟩ := h.at_ (k := i) (by omega)
  injection e0 with e0; injection e0 with e1 e2; subst e1 e2
  have hm : n ≤ 9223372036854775807 := by have := h.2.1; have := h.2.2.1; unfold maxLen at this; omega
  clear h hg hg'
  have hmc := hE.code.1
  have hmm : m ≤ 9223372036854775807 := by have := hE.code.2.1; have := hE.code.2.2.1; unfold maxLen at this; omega
  rw [HR.out]
  clear HR
  generalize es.getD (i + 1) zE = x at *
  generalize es.getD i zE = y at *
  have HT := Lib.hid (ek_aggL x (.slice B m d) (.slice S l q) hE.fit)
  have HT2 := Lib.hid (ek_aggS x (.slice B m d) (.slice S l q) hE.fit)
  have HC := Lib.hid hc
  have HO := Lib.hid (ek_one x B m d S l q)
  have hs55 := Lib.hid (ek_size x (.slice B m d) (.slice S l q) hE.fit)
  have hN := Blk.new w 79 (ek x (.slice B m d) (.slice S l q))
  have c53 := (hN.cell 53).trans (ek_tail x _ _ hE.fit 0)
  have c20 := (hN.cell 20).trans (ek_nonce x _ _ hE.fit)
  simp only [List.getElem?_cons_zero] at c53
  have HB1 := Lib.hid (fun q => (hN.bytes 21 x.bal (ek_bal x _ _ hE.fit)).drewN q)
  have T61 : Hid (AggT Tryd.prog 61 (bvs x.bal).length) := by rw [bvs_length, hE.fit.hb]; exact Tryd.agg61d
  have hEz := eq_z32 x.bal hE.fit.hb
  have g61 := Tryd.g61d
  have hA := Lib.hid (((hc'.part 0 y.addr (fun j u hu => by rw [Array.getElem?_toList]; exact ek_addr y _ _ j u hu)).rd hE'.fit.ha).alloc (.cells (ek x (.slice B m d) (.slice S l q)) 79))
  rw [Nat.add_zero] at hA
  have hB := Lib.hid (Blk.rd hN 0 20 x.addr hE.fit.ha (by unfold maxLen; omega) (ek_addr x _ _))
  have hIi : (0 : Int) ≤ (i : Int) ∧ (i : Int) < (n : Int) ∧ (0 : Int) ≤ (i : Int) + 1 ∧ (i : Int) + 1 < (n : Int) := by omega
  have htn : ((i : Int) + 1).toNat = i + 1 := by omega
  have hwi : IntKind.i64.wrap (i : Int) = i := IntWalk.i64_in _ (by omega)
  have hnI : 0 ≤ (x.nonce : Int) ∧ (x.nonce : Int) ≤ 18446744073709551615 := by have := hE.fit.hn; omega
  have hci : Lib.compareBytes y.addr x.addr < 0 := by omega
  have h1I : (4096 : Int) < (m : Int) := by omega
  have h1N : decide (4096 < m) = true := decide_eq_true (by omega)
  clear hc hE hN h1 hcmp hc' hE'
  generalize x.nonce = nn at *
  go_enter Tryd.func59, Tryd.ntmps59
  go_wp2_with (first | (refine wpList_loadAgg rfl 79 (.tmp 8) rfl g (o + (i + 1) * 55) rfl _ HT.out HC.out ?_) | (refine wpList_storeNew rfl rfl 79 (.tmp 5) _ rfl _ _ rfl (ek x (.slice B m d) (.slice S l q)) rfl HT2.out (by rw [hs55.out]; rfl) HO.out ?_))
  go_quiet ((go_at_call 99; exact Calls.quiet_of_same (Compare_q _ _ _ _ _ _ _ _ _ (hA.out.drewN _) (hB.out.drewN _))))
  go_wp2
  go_ret
  exact ⟨rfl, (al (Below.refl _ _) _).trans (drawn_below' _ _ _ (by simp))⟩

set_option maxRecDepth 100000 in
set_option maxHeartbeats 4000000 in
theorem rises_s3 (n c : Nat) (es : List EntP) (i : Nat) (w : World) (g o : Nat) (h : RdE w (some ⟨g, o, none⟩) n c es) (hi : i + 1 < n) (hcmp : ¬ 0 ≤ Lib.compareBytes (es.getD i zE).addr (es.getD (i + 1) zE).addr) (h1 : ¬ 4096 < (es.getD (i + 1) zE).code.length) (h2 : (es.getD (i + 1) zE).nonce = 18446744073709551615) :
    Calls Tryd.prog 59 #[.slice (some ⟨g, o, none⟩) n c, .int .i64 ((i + 1 : Nat) : Int)] w fun e w' => e = .returned (.bool (risesB es (i + 1))) ∧ Below w.heap.size w w' := by
  have HR := Lib.hid (show risesB es (i + 1) = false by unfold risesB; rw [show i + 1 - 1 = i by omega, decide_eq_true (show 0 < i + 1 by omega), decide_eq_false hcmp, decide_eq_false h1, decide_eq_true h2]; rfl)
  obtain ⟨g', o', B, m, d, S, l, q, e0, hg, hc, hE⟩ := h.at_ hi
  injection e0 with e0; injection e0 with e1 e2; subst e1 e2
  obtain ⟨g', o', B', m', d', S', l', q', e0, hg', hc', hE'⟩ := h.at_ (k := i) (by omega)
  injection e0 with e0; injection e0 with e1 e2; subst e1 e2
  have hm : n ≤ 9223372036854775807 := by have := h.2.1; have := h.2.2.1; unfold maxLen at this; omega
  clear h hg hg'
  have hmc := hE.code.1
  have hmm : m ≤ 9223372036854775807 := by have := hE.code.2.1; have := hE.code.2.2.1; unfold maxLen at this; omega
  rw [HR.out]
  clear HR
  generalize es.getD (i + 1) zE = x at *
  generalize es.getD i zE = y at *
  have HT := Lib.hid (ek_aggL x (.slice B m d) (.slice S l q) hE.fit)
  have HT2 := Lib.hid (ek_aggS x (.slice B m d) (.slice S l q) hE.fit)
  have HC := Lib.hid hc
  have HO := Lib.hid (ek_one x B m d S l q)
  have hs55 := Lib.hid (ek_size x (.slice B m d) (.slice S l q) hE.fit)
  have hN := Blk.new w 79 (ek x (.slice B m d) (.slice S l q))
  have c53 := (hN.cell 53).trans (ek_tail x _ _ hE.fit 0)
  have c20 := (hN.cell 20).trans (ek_nonce x _ _ hE.fit)
  simp only [List.getElem?_cons_zero] at c53
  have HB1 := Lib.hid (fun q => (hN.bytes 21 x.bal (ek_bal x _ _ hE.fit)).drewN q)
  have T61 : Hid (AggT Tryd.prog 61 (bvs x.bal).length) := by rw [bvs_length, hE.fit.hb]; exact Tryd.agg61d
  have hEz := eq_z32 x.bal hE.fit.hb
  have g61 := Tryd.g61d
  have hA := Lib.hid (((hc'.part 0 y.addr (fun j u hu => by rw [Array.getElem?_toList]; exact ek_addr y _ _ j u hu)).rd hE'.fit.ha).alloc (.cells (ek x (.slice B m d) (.slice S l q)) 79))
  rw [Nat.add_zero] at hA
  have hB := Lib.hid (Blk.rd hN 0 20 x.addr hE.fit.ha (by unfold maxLen; omega) (ek_addr x _ _))
  have hIi : (0 : Int) ≤ (i : Int) ∧ (i : Int) < (n : Int) ∧ (0 : Int) ≤ (i : Int) + 1 ∧ (i : Int) + 1 < (n : Int) := by omega
  have htn : ((i : Int) + 1).toNat = i + 1 := by omega
  have hwi : IntKind.i64.wrap (i : Int) = i := IntWalk.i64_in _ (by omega)
  have hnI : 0 ≤ (x.nonce : Int) ∧ (x.nonce : Int) ≤ 18446744073709551615 := by have := hE.fit.hn; omega
  have hci : Lib.compareBytes y.addr x.addr < 0 := by omega
  have h1I : (m : Int) ≤ 4096 := by omega
  have h1N : decide (4096 < m) = false := decide_eq_false (by omega)
  have h2I : (x.nonce : Int) = 18446744073709551615 := by omega
  clear hc hE hN h1 h2 hcmp hc' hE'
  generalize x.nonce = nn at *
  go_enter Tryd.func59, Tryd.ntmps59
  go_wp2_with (first | (refine wpList_loadAgg rfl 79 (.tmp 8) rfl g (o + (i + 1) * 55) rfl _ HT.out HC.out ?_) | (refine wpList_storeNew rfl rfl 79 (.tmp 5) _ rfl _ _ rfl (ek x (.slice B m d) (.slice S l q)) rfl HT2.out (by rw [hs55.out]; rfl) HO.out ?_))
  go_quiet ((go_at_call 99; exact Calls.quiet_of_same (Compare_q _ _ _ _ _ _ _ _ _ (hA.out.drewN _) (hB.out.drewN _))))
  go_wp2
  go_ret
  exact ⟨rfl, (al (Below.refl _ _) _).trans (drawn_below' _ _ _ (by simp))⟩

set_option maxRecDepth 100000 in
set_option maxHeartbeats 4000000 in
theorem rises_s4 (n c : Nat) (es : List EntP) (i : Nat) (w : World) (g o : Nat) (h : RdE w (some ⟨g, o, none⟩) n c es) (hi : i + 1 < n) (hcmp : ¬ 0 ≤ Lib.compareBytes (es.getD i zE).addr (es.getD (i + 1) zE).addr) (h1 : ¬ 4096 < (es.getD (i + 1) zE).code.length) (h2 : ¬ (es.getD (i + 1) zE).nonce = 18446744073709551615) (h3 : 0 < (es.getD (i + 1) zE).nonce) :
    Calls Tryd.prog 59 #[.slice (some ⟨g, o, none⟩) n c, .int .i64 ((i + 1 : Nat) : Int)] w fun e w' => e = .returned (.bool (risesB es (i + 1))) ∧ Below w.heap.size w w' := by
  have HR := Lib.hid (show risesB es (i + 1) = true by unfold risesB; rw [show i + 1 - 1 = i by omega, decide_eq_true (show 0 < i + 1 by omega), decide_eq_false hcmp, decide_eq_false h1, decide_eq_false h2, decide_eq_true h3]; rfl)
  obtain ⟨g', o', B, m, d, S, l, q, e0, hg, hc, hE⟩ := h.at_ hi
  injection e0 with e0; injection e0 with e1 e2; subst e1 e2
  obtain ⟨g', o', B', m', d', S', l', q', e0, hg', hc', hE'⟩ := h.at_ (k := i) (by omega)
  injection e0 with e0; injection e0 with e1 e2; subst e1 e2
  have hm : n ≤ 9223372036854775807 := by have := h.2.1; have := h.2.2.1; unfold maxLen at this; omega
  clear h hg hg'
  have hmc := hE.code.1
  have hmm : m ≤ 9223372036854775807 := by have := hE.code.2.1; have := hE.code.2.2.1; unfold maxLen at this; omega
  rw [HR.out]
  clear HR
  generalize es.getD (i + 1) zE = x at *
  generalize es.getD i zE = y at *
  have HT := Lib.hid (ek_aggL x (.slice B m d) (.slice S l q) hE.fit)
  have HT2 := Lib.hid (ek_aggS x (.slice B m d) (.slice S l q) hE.fit)
  have HC := Lib.hid hc
  have HO := Lib.hid (ek_one x B m d S l q)
  have hs55 := Lib.hid (ek_size x (.slice B m d) (.slice S l q) hE.fit)
  have hN := Blk.new w 79 (ek x (.slice B m d) (.slice S l q))
  have c53 := (hN.cell 53).trans (ek_tail x _ _ hE.fit 0)
  have c20 := (hN.cell 20).trans (ek_nonce x _ _ hE.fit)
  simp only [List.getElem?_cons_zero] at c53
  have HB1 := Lib.hid (fun q => (hN.bytes 21 x.bal (ek_bal x _ _ hE.fit)).drewN q)
  have T61 : Hid (AggT Tryd.prog 61 (bvs x.bal).length) := by rw [bvs_length, hE.fit.hb]; exact Tryd.agg61d
  have hEz := eq_z32 x.bal hE.fit.hb
  have g61 := Tryd.g61d
  have hA := Lib.hid (((hc'.part 0 y.addr (fun j u hu => by rw [Array.getElem?_toList]; exact ek_addr y _ _ j u hu)).rd hE'.fit.ha).alloc (.cells (ek x (.slice B m d) (.slice S l q)) 79))
  rw [Nat.add_zero] at hA
  have hB := Lib.hid (Blk.rd hN 0 20 x.addr hE.fit.ha (by unfold maxLen; omega) (ek_addr x _ _))
  have hIi : (0 : Int) ≤ (i : Int) ∧ (i : Int) < (n : Int) ∧ (0 : Int) ≤ (i : Int) + 1 ∧ (i : Int) + 1 < (n : Int) := by omega
  have htn : ((i : Int) + 1).toNat = i + 1 := by omega
  have hwi : IntKind.i64.wrap (i : Int) = i := IntWalk.i64_in _ (by omega)
  have hnI : 0 ≤ (x.nonce : Int) ∧ (x.nonce : Int) ≤ 18446744073709551615 := by have := hE.fit.hn; omega
  have hci : Lib.compareBytes y.addr x.addr < 0 := by omega
  have h1I : (m : Int) ≤ 4096 := by omega
  have h1N : decide (4096 < m) = false := decide_eq_false (by omega)
  have h2I : ¬ (x.nonce : Int) = 18446744073709551615 := by omega
  have h2J : ((x.nonce : Int) == 18446744073709551615) = false := by rw [beq_eq_false_iff_ne]; exact h2I
  have h3I : (0 : Int) < (x.nonce : Int) := by omega
  clear hc hE hN h1 h2 h3 hcmp hc' hE'
  generalize x.nonce = nn at *
  go_enter Tryd.func59, Tryd.ntmps59
  go_wp2_with (first | (refine wpList_loadAgg rfl 79 (.tmp 8) rfl g (o + (i + 1) * 55) rfl _ HT.out HC.out ?_) | (refine wpList_storeNew rfl rfl 79 (.tmp 5) _ rfl _ _ rfl (ek x (.slice B m d) (.slice S l q)) rfl HT2.out (by rw [hs55.out]; rfl) HO.out ?_))
  go_quiet ((go_at_call 99; exact Calls.quiet_of_same (Compare_q _ _ _ _ _ _ _ _ _ (hA.out.drewN _) (hB.out.drewN _))))
  go_wp2
  go_ret
  exact ⟨rfl, (al (Below.refl _ _) _).trans (drawn_below' _ _ _ (by simp))⟩

set_option maxRecDepth 100000 in
set_option maxHeartbeats 4000000 in
theorem rises_s5 (n c : Nat) (es : List EntP) (i : Nat) (w : World) (g o : Nat) (h : RdE w (some ⟨g, o, none⟩) n c es) (hi : i + 1 < n) (hcmp : ¬ 0 ≤ Lib.compareBytes (es.getD i zE).addr (es.getD (i + 1) zE).addr) (h1 : ¬ 4096 < (es.getD (i + 1) zE).code.length) (h2 : ¬ (es.getD (i + 1) zE).nonce = 18446744073709551615) (h3 : ¬ 0 < (es.getD (i + 1) zE).nonce) (h4 : ¬ (es.getD (i + 1) zE).bal = z32w) :
    Calls Tryd.prog 59 #[.slice (some ⟨g, o, none⟩) n c, .int .i64 ((i + 1 : Nat) : Int)] w fun e w' => e = .returned (.bool (risesB es (i + 1))) ∧ Below w.heap.size w w' := by
  have HR := Lib.hid (show risesB es (i + 1) = true by unfold risesB; rw [show i + 1 - 1 = i by omega, decide_eq_true (show 0 < i + 1 by omega), decide_eq_false hcmp, decide_eq_false h1, decide_eq_false h2, decide_eq_false h3, decide_eq_false h4]; rfl)
  obtain ⟨g', o', B, m, d, S, l, q, e0, hg, hc, hE⟩ := h.at_ hi
  injection e0 with e0; injection e0 with e1 e2; subst e1 e2
  obtain ⟨g', o', B', m', d', S', l', q', e0, hg', hc', hE'⟩ := h.at_ (k := i) (by omega)
  injection e0 with e0; injection e0 with e1 e2; subst e1 e2
  have hm : n ≤ 9223372036854775807 := by have := h.2.1; have := h.2.2.1; unfold maxLen at this; omega
  clear h hg hg'
  have hmc := hE.code.1
  have hmm : m ≤ 9223372036854775807 := by have := hE.code.2.1; have := hE.code.2.2.1; unfold maxLen at this; omega
  rw [HR.out]
  clear HR
  generalize es.getD (i + 1) zE = x at *
  generalize es.getD i zE = y at *
  have HT := Lib.hid (ek_aggL x (.slice B m d) (.slice S l q) hE.fit)
  have HT2 := Lib.hid (ek_aggS x (.slice B m d) (.slice S l q) hE.fit)
  have HC := Lib.hid hc
  have HO := Lib.hid (ek_one x B m d S l q)
  have hs55 := Lib.hid (ek_size x (.slice B m d) (.slice S l q) hE.fit)
  have hN := Blk.new w 79 (ek x (.slice B m d) (.slice S l q))
  have c53 := (hN.cell 53).trans (ek_tail x _ _ hE.fit 0)
  have c20 := (hN.cell 20).trans (ek_nonce x _ _ hE.fit)
  simp only [List.getElem?_cons_zero] at c53
  have HB1 := Lib.hid (fun q => (hN.bytes 21 x.bal (ek_bal x _ _ hE.fit)).drewN q)
  have T61 : Hid (AggT Tryd.prog 61 (bvs x.bal).length) := by rw [bvs_length, hE.fit.hb]; exact Tryd.agg61d
  have hEz := eq_z32 x.bal hE.fit.hb
  have g61 := Tryd.g61d
  have hA := Lib.hid (((hc'.part 0 y.addr (fun j u hu => by rw [Array.getElem?_toList]; exact ek_addr y _ _ j u hu)).rd hE'.fit.ha).alloc (.cells (ek x (.slice B m d) (.slice S l q)) 79))
  rw [Nat.add_zero] at hA
  have hB := Lib.hid (Blk.rd hN 0 20 x.addr hE.fit.ha (by unfold maxLen; omega) (ek_addr x _ _))
  have hIi : (0 : Int) ≤ (i : Int) ∧ (i : Int) < (n : Int) ∧ (0 : Int) ≤ (i : Int) + 1 ∧ (i : Int) + 1 < (n : Int) := by omega
  have htn : ((i : Int) + 1).toNat = i + 1 := by omega
  have hwi : IntKind.i64.wrap (i : Int) = i := IntWalk.i64_in _ (by omega)
  have hnI : 0 ≤ (x.nonce : Int) ∧ (x.nonce : Int) ≤ 18446744073709551615 := by have := hE.fit.hn; omega
  have hci : Lib.compareBytes y.addr x.addr < 0 := by omega
  have h1I : (m : Int) ≤ 4096 := by omega
  have h1N : decide (4096 < m) = false := decide_eq_false (by omega)
  have h2I : ¬ (x.nonce : Int) = 18446744073709551615 := by omega
  have h2J : ((x.nonce : Int) == 18446744073709551615) = false := by rw [beq_eq_false_iff_ne]; exact h2I
  have h3J : (x.nonce : Int) = 0 := by omega
  rw [decide_eq_false h4] at hEz
  clear hc hE hN h1 h2 h3 h4 hcmp hc' hE'
  generalize x.nonce = nn at *
  go_enter Tryd.func59, Tryd.ntmps59
  go_wp2_with (first | (refine wpList_loadAgg rfl 79 (.tmp 8) rfl g (o + (i + 1) * 55) rfl _ HT.out HC.out ?_) | (refine wpList_storeNew rfl rfl 79 (.tmp 5) _ rfl _ _ rfl (ek x (.slice B m d) (.slice S l q)) rfl HT2.out (by rw [hs55.out]; rfl) HO.out ?_))
  go_quiet ((go_at_call 99; exact Calls.quiet_of_same (Compare_q _ _ _ _ _ _ _ _ _ (hA.out.drewN _) (hB.out.drewN _))))
  go_wp2_with (first | (refine wpList_loadAggG (by rfl) 61 (.tmp 39) (by rfl) w.heap.size 21 (by rfl) _ T61.out (HB1.out _) ?_) | (refine wpList_buildG (by rfl) (by rfl) ?_))
  go_ret
  exact ⟨rfl, (al (Below.refl _ _) _).trans (drawn_below' _ _ _ (by simp))⟩

set_option maxRecDepth 100000 in
set_option maxHeartbeats 4000000 in
theorem rises_s6 (n c : Nat) (es : List EntP) (i : Nat) (w : World) (g o : Nat) (h : RdE w (some ⟨g, o, none⟩) n c es) (hi : i + 1 < n) (hcmp : ¬ 0 ≤ Lib.compareBytes (es.getD i zE).addr (es.getD (i + 1) zE).addr) (h1 : ¬ 4096 < (es.getD (i + 1) zE).code.length) (h2 : ¬ (es.getD (i + 1) zE).nonce = 18446744073709551615) (h3 : ¬ 0 < (es.getD (i + 1) zE).nonce) (h4 : (es.getD (i + 1) zE).bal = z32w) :
    Calls Tryd.prog 59 #[.slice (some ⟨g, o, none⟩) n c, .int .i64 ((i + 1 : Nat) : Int)] w fun e w' => e = .returned (.bool (risesB es (i + 1))) ∧ Below w.heap.size w w' := by
  have HR := Lib.hid (show risesB es (i + 1) = (decide (0 < (es.getD (i + 1) zE).code.length)) by unfold risesB; rw [show i + 1 - 1 = i by omega, decide_eq_true (show 0 < i + 1 by omega), decide_eq_false hcmp, decide_eq_false h1, decide_eq_false h2, decide_eq_false h3, decide_eq_true h4]; rfl)
  obtain ⟨g', o', B, m, d, S, l, q, e0, hg, hc, hE⟩ := h.at_ hi
  injection e0 with e0; injection e0 with e1 e2; subst e1 e2
  obtain ⟨g', o', B', m', d', S', l', q', e0, hg', hc', hE'⟩ := h.at_ (k := i) (by omega)
  injection e0 with e0; injection e0 with e1 e2; subst e1 e2
  have hm : n ≤ 9223372036854775807 := by have := h.2.1; have := h.2.2.1; unfold maxLen at this; omega
  clear h hg hg'
  have hmc := hE.code.1
  have hmm : m ≤ 9223372036854775807 := by have := hE.code.2.1; have := hE.code.2.2.1; unfold maxLen at this; omega
  rw [HR.out]
  clear HR
  generalize es.getD (i + 1) zE = x at *
  generalize es.getD i zE = y at *
  have HT := Lib.hid (ek_aggL x (.slice B m d) (.slice S l q) hE.fit)
  have HT2 := Lib.hid (ek_aggS x (.slice B m d) (.slice S l q) hE.fit)
  have HC := Lib.hid hc
  have HO := Lib.hid (ek_one x B m d S l q)
  have hs55 := Lib.hid (ek_size x (.slice B m d) (.slice S l q) hE.fit)
  have hN := Blk.new w 79 (ek x (.slice B m d) (.slice S l q))
  have c53 := (hN.cell 53).trans (ek_tail x _ _ hE.fit 0)
  have c20 := (hN.cell 20).trans (ek_nonce x _ _ hE.fit)
  simp only [List.getElem?_cons_zero] at c53
  have HB1 := Lib.hid (fun q => (hN.bytes 21 x.bal (ek_bal x _ _ hE.fit)).drewN q)
  have T61 : Hid (AggT Tryd.prog 61 (bvs x.bal).length) := by rw [bvs_length, hE.fit.hb]; exact Tryd.agg61d
  have hEz := eq_z32 x.bal hE.fit.hb
  have g61 := Tryd.g61d
  have hA := Lib.hid (((hc'.part 0 y.addr (fun j u hu => by rw [Array.getElem?_toList]; exact ek_addr y _ _ j u hu)).rd hE'.fit.ha).alloc (.cells (ek x (.slice B m d) (.slice S l q)) 79))
  rw [Nat.add_zero] at hA
  have hB := Lib.hid (Blk.rd hN 0 20 x.addr hE.fit.ha (by unfold maxLen; omega) (ek_addr x _ _))
  have hIi : (0 : Int) ≤ (i : Int) ∧ (i : Int) < (n : Int) ∧ (0 : Int) ≤ (i : Int) + 1 ∧ (i : Int) + 1 < (n : Int) := by omega
  have htn : ((i : Int) + 1).toNat = i + 1 := by omega
  have hwi : IntKind.i64.wrap (i : Int) = i := IntWalk.i64_in _ (by omega)
  have hnI : 0 ≤ (x.nonce : Int) ∧ (x.nonce : Int) ≤ 18446744073709551615 := by have := hE.fit.hn; omega
  have hci : Lib.compareBytes y.addr x.addr < 0 := by omega
  have h1I : (m : Int) ≤ 4096 := by omega
  have h1N : decide (4096 < m) = false := decide_eq_false (by omega)
  have h2I : ¬ (x.nonce : Int) = 18446744073709551615 := by omega
  have h2J : ((x.nonce : Int) == 18446744073709551615) = false := by rw [beq_eq_false_iff_ne]; exact h2I
  have h3J : (x.nonce : Int) = 0 := by omega
  rw [decide_eq_true h4] at hEz
  clear hc hE hN h1 h2 h3 h4 hcmp hc' hE'
  generalize x.nonce = nn at *
  go_enter Tryd.func59, Tryd.ntmps59
  go_wp2_with (first | (refine wpList_loadAgg rfl 79 (.tmp 8) rfl g (o + (i + 1) * 55) rfl _ HT.out HC.out ?_) | (refine wpList_storeNew rfl rfl 79 (.tmp 5) _ rfl _ _ rfl (ek x (.slice B m d) (.slice S l q)) rfl HT2.out (by rw [hs55.out]; rfl) HO.out ?_))
  go_quiet ((go_at_call 99; exact Calls.quiet_of_same (Compare_q _ _ _ _ _ _ _ _ _ (hA.out.drewN _) (hB.out.drewN _))))
  go_wp2_with (first | (refine wpList_loadAggG (by rfl) 61 (.tmp 39) (by rfl) w.heap.size 21 (by rfl) _ T61.out (HB1.out _) ?_) | (refine wpList_buildG (by rfl) (by rfl) ?_))
  go_ret
  exact ⟨by first | rfl | (rw [hmc]; rfl) | (rw [hmc]; simp), (al (Below.refl _ _) _).trans (drawn_below' _ _ _ (by simp))⟩

set_option maxRecDepth 100000 in
set_option maxHeartbeats 4000000 in
theorem rises_02 (n c : Nat) (es : List EntP) (w : World) (g o : Nat) (h : RdE w (some ⟨g, o, none⟩) n c es) (hi : 0 < n) (h1 : 4096 < (es.getD 0 zE).code.length) :
    Calls Tryd.prog 59 #[.slice (some ⟨g, o, none⟩) n c, .int .i64 0] w fun e w' => e = .returned (.bool (risesB es 0)) ∧ Below w.heap.size w w' := by
  have HR := Lib.hid (show risesB es 0 = false by unfold risesB; rw [decide_eq_false (show ¬ 0 < 0 by omega), decide_eq_true h1]; rfl)
  obtain ⟨g', o', B, m, d, S, l, q, e0, hg, hc, hE⟩ := h.at_ hi
  injection e0 with e0; injection e0 with e1 e2; subst e1 e2
  have hm : n ≤ 9223372036854775807 := by have := h.2.1; have := h.2.2.1; unfold maxLen at this; omega
  clear h hg
  have hmc := hE.code.1
  have hmm : m ≤ 9223372036854775807 := by have := hE.code.2.1; have := hE.code.2.2.1; unfold maxLen at this; omega
  rw [HR.out]
  clear HR
  generalize es.getD 0 zE = x at *
  have HT := Lib.hid (ek_aggL x (.slice B m d) (.slice S l q) hE.fit)
  have HT2 := Lib.hid (ek_aggS x (.slice B m d) (.slice S l q) hE.fit)
  rw [Nat.zero_mul, Nat.add_zero] at hc
  have HC := Lib.hid hc
  have HO := Lib.hid (ek_one x B m d S l q)
  have hs55 := Lib.hid (ek_size x (.slice B m d) (.slice S l q) hE.fit)
  have hN := Blk.new w 79 (ek x (.slice B m d) (.slice S l q))
  have c53 := (hN.cell 53).trans (ek_tail x _ _ hE.fit 0)
  have c20 := (hN.cell 20).trans (ek_nonce x _ _ hE.fit)
  simp only [List.getElem?_cons_zero] at c53
  have HB1 := Lib.hid (fun q => (hN.bytes 21 x.bal (ek_bal x _ _ hE.fit)).drewN q)
  have T61 : Hid (AggT Tryd.prog 61 (bvs x.bal).length) := by rw [bvs_length, hE.fit.hb]; exact Tryd.agg61d
  have hEz := eq_z32 x.bal hE.fit.hb
  have g61 := Tryd.g61d
  have hIi : (0 : Int) < (n : Int) := by omega
  have hnI : 0 ≤ (x.nonce : Int) ∧ (x.nonce : Int) ≤ 18446744073709551615 := by have := hE.fit.hn; omega
  have h1I : (4096 : Int) < (m : Int) := by omega
  have h1N : decide (4096 < m) = true := decide_eq_true (by omega)
  clear hc hE hN h1
  generalize x.nonce = nn at *
  go_enter Tryd.func59, Tryd.ntmps59
  go_wp2_with (first | (refine wpList_loadAgg rfl 79 (.tmp 8) rfl g o rfl _ HT.out HC.out ?_) | (refine wpList_storeNew rfl rfl 79 (.tmp 5) _ rfl _ _ rfl (ek x (.slice B m d) (.slice S l q)) rfl HT2.out (by rw [hs55.out]; rfl) HO.out ?_))
  go_quiet (fail)
  go_wp2
  go_ret
  exact ⟨rfl, (al (Below.refl _ _) _).trans (drawn_below' _ _ _ (by simp))⟩

set_option maxRecDepth 100000 in
set_option maxHeartbeats 4000000 in
theorem rises_03 (n c : Nat) (es : List EntP) (w : World) (g o : Nat) (h : RdE w (some ⟨g, o, none⟩) n c es) (hi : 0 < n) (h1 : ¬ 4096 < (es.getD 0 zE).code.length) (h2 : (es.getD 0 zE).nonce = 18446744073709551615) :
    Calls Tryd.prog 59 #[.slice (some ⟨g, o, none⟩) n c, .int .i64 0] w fun e w' => e = .returned (.bool (risesB es 0)) ∧ Below w.heap.size w w' := by
  have HR := Lib.hid (show risesB es 0 = false by unfold risesB; rw [decide_eq_false (show ¬ 0 < 0 by omega), decide_eq_false h1, decide_eq_true h2]; rfl)
  obtain ⟨g', o', B, m, d, S, l, q, e0, hg, hc, hE⟩ := h.at_ hi
  injection e0 with e0; injection e0 with e1 e2; subst e1 e2
  have hm : n ≤ 9223372036854775807 := by have := h.2.1; have := h.2.2.1; unfold maxLen at this; omega
  clear h hg
  have hmc := hE.code.1
  have hmm : m ≤ 9223372036854775807 := by have := hE.code.2.1; have := hE.code.2.2.1; unfold maxLen at this; omega
  rw [HR.out]
  clear HR
  generalize es.getD 0 zE = x at *
  have HT := Lib.hid (ek_aggL x (.slice B m d) (.slice S l q) hE.fit)
  have HT2 := Lib.hid (ek_aggS x (.slice B m d) (.slice S l q) hE.fit)
  rw [Nat.zero_mul, Nat.add_zero] at hc
  have HC := Lib.hid hc
  have HO := Lib.hid (ek_one x B m d S l q)
  have hs55 := Lib.hid (ek_size x (.slice B m d) (.slice S l q) hE.fit)
  have hN := Blk.new w 79 (ek x (.slice B m d) (.slice S l q))
  have c53 := (hN.cell 53).trans (ek_tail x _ _ hE.fit 0)
  have c20 := (hN.cell 20).trans (ek_nonce x _ _ hE.fit)
  simp only [List.getElem?_cons_zero] at c53
  have HB1 := Lib.hid (fun q => (hN.bytes 21 x.bal (ek_bal x _ _ hE.fit)).drewN q)
  have T61 : Hid (AggT Tryd.prog 61 (bvs x.bal).length) := by rw [bvs_length, hE.fit.hb]; exact Tryd.agg61d
  have hEz := eq_z32 x.bal hE.fit.hb
  have g61 := Tryd.g61d
  have hIi : (0 : Int) < (n : Int) := by omega
  have hnI : 0 ≤ (x.nonce : Int) ∧ (x.nonce : Int) ≤ 18446744073709551615 := by have := hE.fit.hn; omega
  have h1I : (m : Int) ≤ 4096 := by omega
  have h1N : decide (4096 < m) = false := decide_eq_false (by omega)
  have h2I : (x.nonce : Int) = 18446744073709551615 := by omega
  clear hc hE hN h1 h2
  generalize x.nonce = nn at *
  go_enter Tryd.func59, Tryd.ntmps59
  go_wp2_with (first | (refine wpList_loadAgg rfl 79 (.tmp 8) rfl g o rfl _ HT.out HC.out ?_) | (refine wpList_storeNew rfl rfl 79 (.tmp 5) _ rfl _ _ rfl (ek x (.slice B m d) (.slice S l q)) rfl HT2.out (by rw [hs55.out]; rfl) HO.out ?_))
  go_quiet (fail)
  go_wp2
  go_ret
  exact ⟨rfl, (al (Below.refl _ _) _).trans (drawn_below' _ _ _ (by simp))⟩

set_option maxRecDepth 100000 in
set_option maxHeartbeats 4000000 in
theorem rises_04 (n c : Nat) (es : List EntP) (w : World) (g o : Nat) (h : RdE w (some ⟨g, o, none⟩) n c es) (hi : 0 < n) (h1 : ¬ 4096 < (es.getD 0 zE).code.length) (h2 : ¬ (es.getD 0 zE).nonce = 18446744073709551615) (h3 : 0 < (es.getD 0 zE).nonce) :
    Calls Tryd.prog 59 #[.slice (some ⟨g, o, none⟩) n c, .int .i64 0] w fun e w' => e = .returned (.bool (risesB es 0)) ∧ Below w.heap.size w w' := by
  have HR := Lib.hid (show risesB es 0 = true by unfold risesB; rw [decide_eq_false (show ¬ 0 < 0 by omega), decide_eq_false h1, decide_eq_false h2, decide_eq_true h3]; rfl)
  obtain ⟨g', o', B, m, d, S, l, q, e0, hg, hc, hE⟩ := h.at_ hi
  injection e0 with e0; injection e0 with e1 e2; subst e1 e2
  have hm : n ≤ 9223372036854775807 := by have := h.2.1; have := h.2.2.1; unfold maxLen at this; omega
  clear h hg
  have hmc := hE.code.1
  have hmm : m ≤ 9223372036854775807 := by have := hE.code.2.1; have := hE.code.2.2.1; unfold maxLen at this; omega
  rw [HR.out]
  clear HR
  generalize es.getD 0 zE = x at *
  have HT := Lib.hid (ek_aggL x (.slice B m d) (.slice S l q) hE.fit)
  have HT2 := Lib.hid (ek_aggS x (.slice B m d) (.slice S l q) hE.fit)
  rw [Nat.zero_mul, Nat.add_zero] at hc
  have HC := Lib.hid hc
  have HO := Lib.hid (ek_one x B m d S l q)
  have hs55 := Lib.hid (ek_size x (.slice B m d) (.slice S l q) hE.fit)
  have hN := Blk.new w 79 (ek x (.slice B m d) (.slice S l q))
  have c53 := (hN.cell 53).trans (ek_tail x _ _ hE.fit 0)
  have c20 := (hN.cell 20).trans (ek_nonce x _ _ hE.fit)
  simp only [List.getElem?_cons_zero] at c53
  have HB1 := Lib.hid (fun q => (hN.bytes 21 x.bal (ek_bal x _ _ hE.fit)).drewN q)
  have T61 : Hid (AggT Tryd.prog 61 (bvs x.bal).length) := by rw [bvs_length, hE.fit.hb]; exact Tryd.agg61d
  have hEz := eq_z32 x.bal hE.fit.hb
  have g61 := Tryd.g61d
  have hIi : (0 : Int) < (n : Int) := by omega
  have hnI : 0 ≤ (x.nonce : Int) ∧ (x.nonce : Int) ≤ 18446744073709551615 := by have := hE.fit.hn; omega
  have h1I : (m : Int) ≤ 4096 := by omega
  have h1N : decide (4096 < m) = false := decide_eq_false (by omega)
  have h2I : ¬ (x.nonce : Int) = 18446744073709551615 := by omega
  have h2J : ((x.nonce : Int) == 18446744073709551615) = false := by rw [beq_eq_false_iff_ne]; exact h2I
  have h3I : (0 : Int) < (x.nonce : Int) := by omega
  clear hc hE hN h1 h2 h3
  generalize x.nonce = nn at *
  go_enter Tryd.func59, Tryd.ntmps59
  go_wp2_with (first | (refine wpList_loadAgg rfl 79 (.tmp 8) rfl g o rfl _ HT.out HC.out ?_) | (refine wpList_storeNew rfl rfl 79 (.tmp 5) _ rfl _ _ rfl (ek x (.slice B m d) (.slice S l q)) rfl HT2.out (by rw [hs55.out]; rfl) HO.out ?_))
  go_quiet (fail)
  go_wp2
  go_ret
  exact ⟨rfl, (al (Below.refl _ _) _).trans (drawn_below' _ _ _ (by simp))⟩

set_option maxRecDepth 100000 in
set_option maxHeartbeats 4000000 in
theorem rises_05 (n c : Nat) (es : List EntP) (w : World) (g o : Nat) (h : RdE w (some ⟨g, o, none⟩) n c es) (hi : 0 < n) (h1 : ¬ 4096 < (es.getD 0 zE).code.length) (h2 : ¬ (es.getD 0 zE).nonce = 18446744073709551615) (h3 : ¬ 0 < (es.getD 0 zE).nonce) (h4 : ¬ (es.getD 0 zE).bal = z32w) :
    Calls Tryd.prog 59 #[.slice (some ⟨g, o, none⟩) n c, .int .i64 0] w fun e w' => e = .returned (.bool (risesB es 0)) ∧ Below w.heap.size w w' := by
  have HR := Lib.hid (show risesB es 0 = true by unfold risesB; rw [decide_eq_false (show ¬ 0 < 0 by omega), decide_eq_false h1, decide_eq_false h2, decide_eq_false h3, decide_eq_false h4]; rfl)
  obtain ⟨g', o', B, m, d, S, l, q, e0, hg, hc, hE⟩ := h.at_ hi
  injection e0 with e0; injection e0 with e1 e2; subst e1 e2
  have hm : n ≤ 9223372036854775807 := by have := h.2.1; have := h.2.2.1; unfold maxLen at this; omega
  clear h hg
  have hmc := hE.code.1
  have hmm : m ≤ 9223372036854775807 := by have := hE.code.2.1; have := hE.code.2.2.1; unfold maxLen at this; omega
  rw [HR.out]
  clear HR
  generalize es.getD 0 zE = x at *
  have HT := Lib.hid (ek_aggL x (.slice B m d) (.slice S l q) hE.fit)
  have HT2 := Lib.hid (ek_aggS x (.slice B m d) (.slice S l q) hE.fit)
  rw [Nat.zero_mul, Nat.add_zero] at hc
  have HC := Lib.hid hc
  have HO := Lib.hid (ek_one x B m d S l q)
  have hs55 := Lib.hid (ek_size x (.slice B m d) (.slice S l q) hE.fit)
  have hN := Blk.new w 79 (ek x (.slice B m d) (.slice S l q))
  have c53 := (hN.cell 53).trans (ek_tail x _ _ hE.fit 0)
  have c20 := (hN.cell 20).trans (ek_nonce x _ _ hE.fit)
  simp only [List.getElem?_cons_zero] at c53
  have HB1 := Lib.hid (fun q => (hN.bytes 21 x.bal (ek_bal x _ _ hE.fit)).drewN q)
  have T61 : Hid (AggT Tryd.prog 61 (bvs x.bal).length) := by rw [bvs_length, hE.fit.hb]; exact Tryd.agg61d
  have hEz := eq_z32 x.bal hE.fit.hb
  have g61 := Tryd.g61d
  have hIi : (0 : Int) < (n : Int) := by omega
  have hnI : 0 ≤ (x.nonce : Int) ∧ (x.nonce : Int) ≤ 18446744073709551615 := by have := hE.fit.hn; omega
  have h1I : (m : Int) ≤ 4096 := by omega
  have h1N : decide (4096 < m) = false := decide_eq_false (by omega)
  have h2I : ¬ (x.nonce : Int) = 18446744073709551615 := by omega
  have h2J : ((x.nonce : Int) == 18446744073709551615) = false := by rw [beq_eq_false_iff_ne]; exact h2I
  have h3J : (x.nonce : Int) = 0 := by omega
  rw [decide_eq_false h4] at hEz
  clear hc hE hN h1 h2 h3 h4
  generalize x.nonce = nn at *
  go_enter Tryd.func59, Tryd.ntmps59
  go_wp2_with (first | (refine wpList_loadAgg rfl 79 (.tmp 8) rfl g o rfl _ HT.out HC.out ?_) | (refine wpList_storeNew rfl rfl 79 (.tmp 5) _ rfl _ _ rfl (ek x (.slice B m d) (.slice S l q)) rfl HT2.out (by rw [hs55.out]; rfl) HO.out ?_))
  go_quiet (fail)
  go_wp2_with (first | (refine wpList_loadAggG (by rfl) 61 (.tmp 39) (by rfl) w.heap.size 21 (by rfl) _ T61.out (HB1.out _) ?_) | (refine wpList_buildG (by rfl) (by rfl) ?_))
  go_ret
  exact ⟨rfl, (al (Below.refl _ _) _).trans (drawn_below' _ _ _ (by simp))⟩

set_option maxRecDepth 100000 in
set_option maxHeartbeats 4000000 in
theorem rises_06 (n c : Nat) (es : List EntP) (w : World) (g o : Nat) (h : RdE w (some ⟨g, o, none⟩) n c es) (hi : 0 < n) (h1 : ¬ 4096 < (es.getD 0 zE).code.length) (h2 : ¬ (es.getD 0 zE).nonce = 18446744073709551615) (h3 : ¬ 0 < (es.getD 0 zE).nonce) (h4 : (es.getD 0 zE).bal = z32w) :
    Calls Tryd.prog 59 #[.slice (some ⟨g, o, none⟩) n c, .int .i64 0] w fun e w' => e = .returned (.bool (risesB es 0)) ∧ Below w.heap.size w w' := by
  have HR := Lib.hid (show risesB es 0 = (decide (0 < (es.getD 0 zE).code.length)) by unfold risesB; rw [decide_eq_false (show ¬ 0 < 0 by omega), decide_eq_false h1, decide_eq_false h2, decide_eq_false h3, decide_eq_true h4]; rfl)
  obtain ⟨g', o', B, m, d, S, l, q, e0, hg, hc, hE⟩ := h.at_ hi
  injection e0 with e0; injection e0 with e1 e2; subst e1 e2
  have hm : n ≤ 9223372036854775807 := by have := h.2.1; have := h.2.2.1; unfold maxLen at this; omega
  clear h hg
  have hmc := hE.code.1
  have hmm : m ≤ 9223372036854775807 := by have := hE.code.2.1; have := hE.code.2.2.1; unfold maxLen at this; omega
  rw [HR.out]
  clear HR
  generalize es.getD 0 zE = x at *
  have HT := Lib.hid (ek_aggL x (.slice B m d) (.slice S l q) hE.fit)
  have HT2 := Lib.hid (ek_aggS x (.slice B m d) (.slice S l q) hE.fit)
  rw [Nat.zero_mul, Nat.add_zero] at hc
  have HC := Lib.hid hc
  have HO := Lib.hid (ek_one x B m d S l q)
  have hs55 := Lib.hid (ek_size x (.slice B m d) (.slice S l q) hE.fit)
  have hN := Blk.new w 79 (ek x (.slice B m d) (.slice S l q))
  have c53 := (hN.cell 53).trans (ek_tail x _ _ hE.fit 0)
  have c20 := (hN.cell 20).trans (ek_nonce x _ _ hE.fit)
  simp only [List.getElem?_cons_zero] at c53
  have HB1 := Lib.hid (fun q => (hN.bytes 21 x.bal (ek_bal x _ _ hE.fit)).drewN q)
  have T61 : Hid (AggT Tryd.prog 61 (bvs x.bal).length) := by rw [bvs_length, hE.fit.hb]; exact Tryd.agg61d
  have hEz := eq_z32 x.bal hE.fit.hb
  have g61 := Tryd.g61d
  have hIi : (0 : Int) < (n : Int) := by omega
  have hnI : 0 ≤ (x.nonce : Int) ∧ (x.nonce : Int) ≤ 18446744073709551615 := by have := hE.fit.hn; omega
  have h1I : (m : Int) ≤ 4096 := by omega
  have h1N : decide (4096 < m) = false := decide_eq_false (by omega)
  have h2I : ¬ (x.nonce : Int) = 18446744073709551615 := by omega
  have h2J : ((x.nonce : Int) == 18446744073709551615) = false := by rw [beq_eq_false_iff_ne]; exact h2I
  have h3J : (x.nonce : Int) = 0 := by omega
  rw [decide_eq_true h4] at hEz
  clear hc hE hN h1 h2 h3 h4
  generalize x.nonce = nn at *
  go_enter Tryd.func59, Tryd.ntmps59
  go_wp2_with (first | (refine wpList_loadAgg rfl 79 (.tmp 8) rfl g o rfl _ HT.out HC.out ?_) | (refine wpList_storeNew rfl rfl 79 (.tmp 5) _ rfl _ _ rfl (ek x (.slice B m d) (.slice S l q)) rfl HT2.out (by rw [hs55.out]; rfl) HO.out ?_))
  go_quiet (fail)
  go_wp2_with (first | (refine wpList_loadAggG (by rfl) 61 (.tmp 39) (by rfl) w.heap.size 21 (by rfl) _ T61.out (HB1.out _) ?_) | (refine wpList_buildG (by rfl) (by rfl) ?_))
  go_ret
  exact ⟨by first | rfl | (rw [hmc]; rfl) | (rw [hmc]; simp), (al (Below.refl _ _) _).trans (drawn_below' _ _ _ (by simp))⟩
end Go.Proofs.YtfjfjjcdlgdbcaaDoor
