/- Acts in memory; what their fields print. -/
import Derived.Test.YtfjfjjcdlgdbcaaDoorE4
namespace Go.Proofs.YtfjfjjcdlgdbcaaDoor
open Go.RowKit Go.Sort

/-- an act in plain words -/
structure ActP where
  kind : Int
  addr : List UInt8
  key : List UInt8
  word : List UInt8
  root : List UInt8
  n : Int
  m : Int
  b : List UInt8
  l : List (List UInt8 × List UInt8)

/-- an act's cells -/
def ak (A : ActP) (b l : Value) : Array Value := ([Value.int .i64 A.kind] ++ (bvs A.addr ++ (bvs A.key ++ (bvs A.word ++ (bvs A.root ++ [.int .i64 A.n, .int .i64 A.m, b, l]))))).toArray
structure ActP.Fit (A : ActP) : Prop where
  ha : A.addr.length = 20
  hk : A.key.length = 32
  hw : A.word.length = 32
  hr : A.root.length = 32
  hn0 : -9223372036854775808 ≤ A.n
  hn1 : A.n ≤ 9223372036854775807
  hm0 : -9223372036854775808 ≤ A.m
  hm1 : A.m ≤ 9223372036854775807
  hk0 : -9223372036854775808 ≤ A.kind
  hk1 : A.kind ≤ 9223372036854775807

theorem ak_size (A : ActP) (b l : Value) (h : A.Fit) : (ak A b l).size = 121 := by
  simp [ak, bvs_length, h.ha, h.hk, h.hw, h.hr]
theorem ak_0 (A : ActP) (b l : Value) : (ak A b l)[0]? = some (.int .i64 A.kind) := by simp [ak]
theorem app_at {α : Type} (n : Nat) (xs ys : List α) (h : xs.length = n) (j : Nat) : (xs ++ ys)[n + j]? = ys[j]? := by
  rw [List.getElem?_append_right (by omega)]; congr 1; omega
theorem app_lt {α : Type} (xs ys : List α) (j : Nat) (u : α) (h : xs[j]? = some u) : (xs ++ ys)[j]? = some u := by
  rw [List.getElem?_append_left (List.getElem?_eq_some_iff.1 h).1]; exact h
theorem bvs_get {xs : List UInt8} {j : Nat} {u : UInt8} (h : xs[j]? = some u) : (bvs xs)[j]? = some (bv u) := by simp [bvs, h]
theorem ak_tail (A : ActP) (b l : Value) (h : A.Fit) (j : Nat) : (ak A b l)[117 + j]? = [Value.int .i64 A.n, .int .i64 A.m, b, l][j]? := by
  rw [ak, List.getElem?_toArray, show 117 + j = 1 + (20 + (32 + (32 + (32 + j)))) by omega, app_at 1 _ _ rfl, app_at 20 _ _ (by rw [bvs_length, h.ha]), app_at 32 _ _ (by rw [bvs_length, h.hk]), app_at 32 _ _ (by rw [bvs_length, h.hw]), app_at 32 _ _ (by rw [bvs_length, h.hr])]
theorem ak_addr (A : ActP) (b l : Value) (j : Nat) (u : UInt8) (hu : A.addr[j]? = some u) : (ak A b l)[1 + j]? = some (bv u) := by
  rw [ak, List.getElem?_toArray, app_at 1 _ _ rfl]
  exact app_lt _ _ _ _ (bvs_get hu)
theorem ak_key (A : ActP) (b l : Value) (h : A.Fit) (j : Nat) (u : UInt8) (hu : A.key[j]? = some u) : (ak A b l)[21 + j]? = some (bv u) := by
  rw [ak, List.getElem?_toArray, show 21 + j = 1 + (20 + j) by omega, app_at 1 _ _ rfl, app_at 20 _ _ (by rw [bvs_length, h.ha])]
  exact app_lt _ _ _ _ (bvs_get hu)
theorem ak_word (A : ActP) (b l : Value) (h : A.Fit) (j : Nat) (u : UInt8) (hu : A.word[j]? = some u) : (ak A b l)[53 + j]? = some (bv u) := by
  rw [ak, List.getElem?_toArray, show 53 + j = 1 + (20 + (32 + j)) by omega, app_at 1 _ _ rfl, app_at 20 _ _ (by rw [bvs_length, h.ha]), app_at 32 _ _ (by rw [bvs_length, h.hk])]
  exact app_lt _ _ _ _ (bvs_get hu)
theorem ak_root (A : ActP) (b l : Value) (h : A.Fit) (j : Nat) (u : UInt8) (hu : A.root[j]? = some u) : (ak A b l)[85 + j]? = some (bv u) := by
  rw [ak, List.getElem?_toArray, show 85 + j = 1 + (20 + (32 + (32 + j))) by omega, app_at 1 _ _ rfl, app_at 20 _ _ (by rw [bvs_length, h.ha]), app_at 32 _ _ (by rw [bvs_length, h.hk]), app_at 32 _ _ (by rw [bvs_length, h.hw])]
  exact app_lt _ _ _ _ (bvs_get hu)
theorem RdB.sub (w : World) (t : TypeId) (cs : Array Value) (off n : Nat) (xs : List UInt8) (hn : xs.length = n) (hm : n ≤ maxLen) (h : ∀ j u, xs[j]? = some u → cs[off + j]? = some (bv u)) :
    RdB (w.alloc (.cells cs t)) (some ⟨w.heap.size, off, none⟩) n n xs := by
  refine ⟨hn, Nat.le_refl _, hm, fun _ => ⟨_, rfl, fun j u hu => ?_⟩⟩
  have e : (⟨w.heap.size, off, none⟩ : Addr).add j = ⟨w.heap.size, off + j, none⟩ := by unfold Addr.add; split <;> simp_all
  rw [e, World.cell?_alloc_at _ _ _ _ rfl]
  exact h j u hu

theorem Blk.rd {w : World} {g : Nat} {t : TypeId} {cs : Array Value} (hB : Blk w g t cs) (off n : Nat) (xs : List UInt8) (hn : xs.length = n) (hm : n ≤ maxLen) (h : ∀ j u, xs[j]? = some u → cs[off + j]? = some (bv u)) :
    RdB w (some ⟨g, off, none⟩) n n xs := by
  refine ⟨hn, Nat.le_refl _, hm, fun _ => ⟨_, rfl, fun j u hu => ?_⟩⟩
  have e : (⟨g, off, none⟩ : Addr).add j = ⟨g, off + j, none⟩ := by unfold Addr.add; split <;> simp_all
  rw [e, hB.cell]
  exact h j u hu

/-- the slice value (A, n, c) reads as a list of keys and values -/
def RdKV (w : World) (A : Option Addr) (n c : Nat) (kvs : List (List UInt8 × List UInt8)) : Prop :=
  kvs.length = n ∧ n ≤ c ∧ c ≤ maxLen ∧ (0 < n → ∃ g o, A = some ⟨g, o, none⟩ ∧ ∀ j kv, kvs[j]? = some kv → ∃ B m d B' m' d', w.cell? ⟨g, o + j * 2, none⟩ = some (.slice B m d) ∧ RdB w B m d kv.1 ∧ w.cell? ⟨g, o + j * 2 + 1, none⟩ = some (.slice B' m' d') ∧ RdB w B' m' d' kv.2)
theorem cell_below' {w w' : World} (hb : Below w.heap.size w w') {a : Addr} {v : Value} (hc : w.cell? a = some v) : w'.cell? a = some v := (hb.cell (World.block_lt_of_cell? w a hc)).trans hc
theorem RdKV.below {w w1 : World} {A : Option Addr} {n c : Nat} {kvs : List (List UInt8 × List UInt8)} (h : RdKV w A n c kvs) (hb : Below w.heap.size w w1) : RdKV w1 A n c kvs :=
  ⟨h.1, h.2.1, h.2.2.1, fun hn => by
    obtain ⟨g, o, e, hc⟩ := h.2.2.2 hn
    refine ⟨g, o, e, fun j kv hj => ?_⟩
    obtain ⟨B, m, d, B', m', d', h1, h2, h3, h4⟩ := hc j kv hj
    exact ⟨B, m, d, B', m', d', cell_below' hb h1, h2.below hb, cell_below' hb h3, h4.below hb⟩⟩
theorem RdKV.at_ {w : World} {A : Option Addr} {n c : Nat} {kvs : List (List UInt8 × List UInt8)} (h : RdKV w A n c kvs) {k : Nat} (hk : k < n) :
    ∃ g o B m d B' m' d', A = some ⟨g, o, none⟩ ∧ kvs[k]? = some (kvs.getD k ([], [])) ∧ w.cell? ⟨g, o + k * 2, none⟩ = some (.slice B m d) ∧ RdB w B m d (kvs.getD k ([], [])).1 ∧ w.cell? ⟨g, o + k * 2 + 1, none⟩ = some (.slice B' m' d') ∧ RdB w B' m' d' (kvs.getD k ([], [])).2 := by
  obtain ⟨g, o, e, hc⟩ := h.2.2.2 (by omega)
  have hl : k < kvs.length := by have := h.1; omega
  have hg : kvs[k]? = some (kvs.getD k ([], [])) := by rw [List.getD_eq_getElem?_getD, List.getElem?_eq_getElem hl]; rfl
  obtain ⟨B, m, d, B', m', d', h1, h2, h3, h4⟩ := hc k _ hg
  exact ⟨g, o, B, m, d, B', m', d', e, hg, h1, h2, h3, h4⟩

/-- the value cs reads as the act A -/
def RdAct (w : World) (A : ActP) (bA : Option Addr) (bn bc : Nat) (lA : Option Addr) (ln lc : Nat) : Prop := A.Fit ∧ RdB w bA bn bc A.b ∧ RdKV w lA ln lc A.l
theorem RdAct.below {w w1 : World} {A : ActP} {bA : Option Addr} {bn bc : Nat} {lA : Option Addr} {ln lc : Nat} (h : RdAct w A bA bn bc lA ln lc) (hb : Below w.heap.size w w1) : RdAct w1 A bA bn bc lA ln lc := ⟨h.1, h.2.1.below hb, h.2.2.below hb⟩

/-- the facts on the program's variables that the library's contracts ask for -/
structure LaidW (w : World) : Prop where
  pow : Lib.TabIs Tryd.prog w "internal/strconv.uint64pow10" .u64 Lib.pow10Tab
  max : ∃ m, w.cell? ⟨1, 0, none⟩ = some (.int .i64 m)
  syn : ∃ ev, w.cell? ⟨2, 0, none⟩ = some ev ∧ (ev = .nilIface ∨ ∃ te pe, ev = .iface te pe)
  rng : ∃ ev, w.cell? ⟨3, 0, none⟩ = some ev ∧ (ev = .nilIface ∨ ∃ te pe, ev = .iface te pe)
theorem tab_below {n : String} {k : IntKind} {zs : List Int} {w w' : World} (h : Lib.TabIs Tryd.prog w n k zs) (hb : Below w.heap.size w w') : Lib.TabIs Tryd.prog w' n k zs := by
  unfold Lib.TabIs World.var? at h ⊢
  cases hg : Tryd.prog.globalNamed n with
  | none => rw [hg] at h; exact absurd h (by simp)
  | some g =>
    rw [hg] at h
    simp only [Option.bind_some] at h ⊢
    have hlt : g < w.heap.size := by
      rcases Nat.lt_or_ge g w.heap.size with h' | h'
      · exact h'
      · rw [Array.getElem?_eq_none h'] at h; cases h
    rw [hb.block g hlt]
    exact h
theorem LaidW.below {w w1 : World} (h : LaidW w) (hb : Below w.heap.size w w1) : LaidW w1 := by
  obtain ⟨h1, ⟨m, h2⟩, ⟨e2, h3, h3'⟩, ⟨e3, h4, h4'⟩⟩ := h
  exact ⟨tab_below h1 hb, ⟨m, cell_below' hb h2⟩, ⟨e2, cell_below' hb h3, h3'⟩, ⟨e3, cell_below' hb h4, h4'⟩⟩
theorem grow_below (w : World) (k : Nat) (os : Array Obj) : Below w.heap.size w (grow (w.drewN k) os) := by
  have hb : Below w.heap.size w (w.drewN k) := ⟨rfl, rfl, rfl, Nat.le_refl _, fun _ _ => rfl⟩
  refine ⟨hb.os, hb.tape, hb.output, ?_, fun i hi => ?_⟩
  · show w.heap.size ≤ (w.heap ++ os).size
    simp
  · show (w.heap ++ os)[i]? = w.heap[i]?
    rw [Array.getElem?_append_left hi]
theorem Itoa_calls (n : Int) (w : World) (h0 : -9223372036854775808 ≤ n) (h1 : n ≤ 9223372036854775807) (hL : LaidW w) :
    Calls Tryd.prog 104 #[.int .i64 n] w fun e w' => e = .returned (.string (str (Lib.itoa n))) ∧ Below w.heap.size w w' :=
  (Tryd.strconv_Itoa n h0 h1 w hL.pow).mono fun e w' ⟨he, k, os, hw⟩ => ⟨he, by rw [hw]; exact grow_below w k os⟩
end Go.Proofs.YtfjfjjcdlgdbcaaDoor
