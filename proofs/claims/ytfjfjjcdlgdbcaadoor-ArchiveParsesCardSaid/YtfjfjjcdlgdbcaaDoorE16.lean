/- An act that came in, opened; what the variables hold. -/
import Derived.Test.YtfjfjjcdlgdbcaaDoorE15
import Derived.Test.YtfjfjjcdlgdbcaaDoorCards
import Derived.Test.YtfjfjjcdlgdbcaaDoorC0
import Derived.Test.YtfjfjjcdlgdbcaaDoorC2
import Derived.SizedLaws
import Derived.Lib.LaidU8
import Derived.Shelf.Vars
namespace Go.Proofs.YtfjfjjcdlgdbcaaDoor
open Go.ChangeShapes Go.WideShapes Go.ChangeAt Go.RowKit
set_option linter.unusedSimpArgs false
set_option linter.unusedVariables false

theorem exists_list {α : Type} (P : Nat → α → Prop) : ∀ n : Nat, (∀ j, j < n → ∃ a, P j a) → ∃ l : List α, l.length = n ∧ ∀ (j : Nat) a, l[j]? = some a → P j a
  | 0, _ => ⟨[], rfl, fun j a h => by simp at h⟩
  | n + 1, h => by
    obtain ⟨l, hl, hp⟩ := exists_list P n (fun j hj => h j (by omega))
    obtain ⟨a, ha⟩ := h n (by omega)
    refine ⟨l ++ [a], by simp [hl], fun j b hj => ?_⟩
    by_cases e : j < n
    · rw [List.getElem?_append_left (by omega)] at hj
      exact hp j b hj
    · rw [List.getElem?_append_right (by omega)] at hj
      have hj0 : j - l.length = 0 := by
        have := (List.getElem?_eq_some_iff.1 hj).1
        simp at this
        omega
      rw [hj0] at hj
      simp at hj
      obtain rfl : j = n := by omega
      rw [← hj]; exact ha
theorem spot_of_cell {w : World} {a : Addr} {v : Value} (h : w.cell? a = some v) : a.spot = none := by
  unfold World.cell? at h
  split at h
  · split at h
    · cases h
    · rename_i hs; simpa using hs
  · cases h
theorem weightsAll_mem {H : Type} {P : Program} {e : TypeId} : ∀ {l : List (DataW H)} {d : DataW H}, d ∈ l → ∀ n ∈ d.weights P e, n ∈ DataW.weightsAll P e l
  | x :: l, d, hd, n, hn => by
    simp only [DataW.weightsAll, List.mem_append]
    rcases List.mem_cons.1 hd with rfl | hd
    · exact .inl hn
    · exact .inr (weightsAll_mem hd n hn)

section
variable {H : Type} {enc : TypeId × Value → H} {W : World} {base : Nat} {spare : Nat → Bool} {held : Bool}
theorem Tryd.bytesOf5 : Tryd.prog.bytesOf 5 = 1 := by kernel_rfl
theorem Tryd.bytesOf112 : Tryd.prog.bytesOf 112 = 48 := by kernel_rfl
theorem Tryd.cellsOf22 : Tryd.prog.cellsOf 22 = 1 := by kernel_rfl
theorem Tryd.cellsOf112 : Tryd.prog.cellsOf 112 = 2 := by kernel_rfl
theorem Tryd.cellsOf64 : Tryd.prog.cellsOf 64 = 121 := by kernel_rfl
theorem Tryd.cellsOf60 : Tryd.prog.cellsOf 60 = 20 := by kernel_rfl
theorem Tryd.cellsOf61 : Tryd.prog.cellsOf 61 = 32 := by kernel_rfl
theorem Tryd.cellsOf25 : Tryd.prog.cellsOf 25 = 32 := by kernel_rfl
theorem Tryd.cellsOf3 : Tryd.prog.cellsOf 3 = 1 := by kernel_rfl
theorem Tryd.cellsOf62 : Tryd.prog.cellsOf 62 = 1 := by kernel_rfl
theorem Tryd.cellsOf5 : Tryd.prog.cellsOf 5 = 1 := by kernel_rfl

/-- bytes in a field -/
theorem open_bytesF {fuel : Nat} {c : List Value} {x : DataW H × List MemPlace} (h : DataW.trod enc Tryd.prog W base spare held fuel 22 c = some x) :
    ∃ A n cap xs, c = [.slice A n cap] ∧ RdB W A n cap xs ∧ ((∀ k ∈ x.1.weights Tryd.prog 22, k ≤ reachBytes) → n ≤ reachBytes) := by
  rcases DataW.trod_slice Tryd.underlying22 h with ⟨hc, hx⟩ | ⟨a, len, cap, elems, rest, n, _, hc, hx, _, _, _, hel, _⟩
  · subst hc
    obtain ⟨xs, hr⟩ := open_bytes Tryd.underlying22 Tryd.underlying5 Tryd.cellsOf5 h
    exact ⟨none, 0, 0, xs, rfl, hr, fun _ => Nat.zero_le _⟩
  · subst hc
    obtain ⟨xs, hr⟩ := open_bytes Tryd.underlying22 Tryd.underlying5 Tryd.cellsOf5 h
    refine ⟨some a, len, cap, xs, rfl, hr, fun hw => ?_⟩
    have := hw ((elems.length + rest.length) * 1) (by rw [hx]; simp [DataW.weights, Tryd.underlying22, Tryd.bytesOf5])
    omega
/-- an array of bytes in a field -/
theorem open_arrF {t n : Nat} (ht : Tryd.prog.underlying t = some (.array n 5)) {fuel : Nat} {c : List Value} {x : DataW H × List MemPlace} (hct : Tryd.prog.cellsOf t = n) (h : DataW.trod enc Tryd.prog W base spare held fuel t c = some x) :
    ∃ xs, c = bvs xs ∧ xs.length = n := by
  obtain ⟨ys, m, _, _, hl, hyl, hy⟩ := DataW.trod_array ht h
  obtain ⟨xs, hx⟩ := rows_bytes c (fun i hi => by
    have hi' : i < n := by omega
    have h1 := hy i hi'
    rw [Tryd.cellsOf5, Nat.mul_one, List.getElem?_eq_getElem (by omega)] at h1
    exact trod_byte Tryd.underlying5 h1)
  refine ⟨xs, hx, ?_⟩
  rw [← bvs_length, ← hx]; omega
set_option maxRecDepth 100000 in
/-- a list of keys and values -/
theorem open_kvs {fuel : Nat} {c : List Value} {x : DataW H × List MemPlace} (h : DataW.trod enc Tryd.prog W base spare held fuel 62 c = some x) :
    ∃ A n cap kvs, c = [.slice A n cap] ∧ RdKV W A n cap kvs ∧ ((∀ k ∈ x.1.weights Tryd.prog 62, k ≤ reachBytes) → n ≤ reachBytes ∧ ∀ kv ∈ kvs, kv.1.length ≤ reachBytes) := by
  rcases DataW.trod_slice Tryd.underlying62 h with ⟨hc, hx⟩ | ⟨a, len, cap, elems, rest, n, _, hc, hx, _, hlc, hcm, hel, hcell, _⟩
  · exact ⟨none, 0, 0, [], hc, ⟨rfl, Nat.le_refl _, by unfold maxLen; omega, fun h => absurd h (by omega)⟩, fun _ => ⟨Nat.zero_le _, by simp⟩⟩
  · have each : ∀ j, j < len → ∃ kv : List UInt8 × List UInt8, ∃ B m d B' m' d', W.cell? ((a.add (j * 2)).add 0) = some (.slice B m d) ∧ RdB W B m d kv.1 ∧ W.cell? ((a.add (j * 2)).add 1) = some (.slice B' m' d') ∧ RdB W B' m' d' kv.2 ∧
        ((∀ k ∈ x.1.weights Tryd.prog 62, k ≤ reachBytes) → m ≤ reachBytes) := by
      intro j hj
      have h1 := hcell j hj
      rw [List.getElem?_eq_getElem (by omega), Option.bind_eq_some_iff] at h1
      obtain ⟨cs, hcs, h2⟩ := h1
      rw [Tryd.cellsOf112] at hcs
      obtain ⟨_, hl2, hc2⟩ := World.cells?_some hcs
      obtain ⟨ys, n2, _, hx2, _, hyl, hf⟩ := DataW.trod_struct Tryd.underlying112 h2
      have f0 : DataW.trod enc Tryd.prog W base spare held n2 22 ((cs.drop 0).take (Tryd.prog.cellsOf 22)) = ys[0]? := hf 0 _ rfl
      have f1 : DataW.trod enc Tryd.prog W base spare held n2 22 ((cs.drop 1).take (Tryd.prog.cellsOf 22)) = ys[1]? := hf 1 _ rfl
      rw [Tryd.cellsOf22] at f0 f1
      rw [List.drop_zero] at f0
      have hyl2 : ys.length = 2 := hyl
      rw [List.getElem?_eq_getElem (by omega)] at f0 f1
      obtain ⟨B, m, d, xs, e0, r0, w0⟩ := open_bytesF f0
      obtain ⟨B', m', d', xs', e1, r1, _⟩ := open_bytesF f1
      have hc0 := hc2 0 (by omega)
      have hc1 := hc2 1 (by omega)
      match cs, hl2, e0, e1, hc0, hc1 with
      | [u, v], _, e0, e1, hc0, hc1 =>
        simp only [List.take_succ_cons, List.take_zero, List.drop_succ_cons, List.drop_zero, List.cons.injEq, and_true] at e0 e1
        subst e0 e1
        refine ⟨(xs, xs'), B, m, d, B', m', d', hc0, r0, hc1, r1, fun hw => w0 (fun k hk => hw k ?_)⟩
        rw [hx]
        simp only [DataW.weights, Tryd.underlying62, List.mem_cons, List.mem_append]
        refine .inr (.inl (weightsAll_mem (List.mem_map.2 ⟨elems[j], List.getElem_mem _, rfl⟩) k ?_))
        rw [hx2]
        simp only [DataW.weights, Tryd.underlying112]
        exact DataW.weights_mem_each (j := 0) (t := 22) (d := ys[0].1) rfl (by rw [List.getElem?_map, List.getElem?_eq_getElem (by omega)]; rfl) k hk
    obtain ⟨kvs, hkl, hkv⟩ := exists_list _ len each
    refine ⟨some a, len, cap, kvs, hc, ⟨hkl, hlc, hcm, fun hp => ?_⟩, fun hw => ⟨?_, fun kv hm => ?_⟩⟩
    · have hsp : a.spot = none := by
        obtain ⟨kv, B, m, d, B', m', d', h1, _⟩ := each 0 hp
        rw [Nat.zero_mul] at h1
        exact spot_of_cell h1
      obtain ⟨g, o, sp⟩ := a
      obtain rfl : sp = none := hsp
      refine ⟨g, o, rfl, fun j kv hj => ?_⟩
      obtain ⟨B, m, d, B', m', d', h1, h2, h3, h4, _⟩ := hkv j kv hj
      have ea : ((⟨g, o, none⟩ : Addr).add (j * 2)).add 0 = ⟨g, o + j * 2, none⟩ := by unfold Addr.add; split <;> split <;> simp_all
      have eb : ((⟨g, o, none⟩ : Addr).add (j * 2)).add 1 = ⟨g, o + j * 2 + 1, none⟩ := by unfold Addr.add; split <;> split <;> simp_all
      rw [ea] at h1
      rw [eb] at h3
      exact ⟨B, m, d, B', m', d', h1, h2, h3, h4⟩
    · have := hw ((elems.length + rest.length) * 48) (by rw [hx]; simp [DataW.weights, Tryd.underlying62, Tryd.bytesOf112])
      omega
    · obtain ⟨j, hj⟩ := List.getElem?_of_mem hm
      obtain ⟨B, m, d, B', m', d', _, h2, _, _, h5⟩ := hkv j kv hj
      rw [h2.1]
      exact h5 hw
theorem split9 {α : Type} (l : List α) (h : l.length = 121) : l = l.take 1 ++ ((l.drop 1).take 20 ++ ((l.drop 21).take 32 ++ ((l.drop 53).take 32 ++ ((l.drop 85).take 32 ++ ((l.drop 117).take 1 ++ ((l.drop 118).take 1 ++ ((l.drop 119).take 1 ++ (l.drop 120).take 1))))))) := by
  have step : ∀ a b, l.drop a = (l.drop a).take b ++ l.drop (a + b) := fun a b => by rw [← List.drop_drop]; exact (List.take_append_drop b (l.drop a)).symm
  have e9 : (l.drop 120).take 1 = l.drop 120 := List.take_of_length_le (by simp; omega)
  rw [e9, ← step 119 1, ← step 118 1, ← step 117 1, ← step 85 32, ← step 53 32, ← step 21 32, ← step 1 20]
  exact (List.take_append_drop 1 l).symm
set_option maxRecDepth 100000 in
/-- an act by value -/
theorem open_act {b0 : Nat} {r : Reach} {v : Value} {d : DataW H} {p : List MemPlace} (hv : Value.okWide Tryd.prog W r b0 64 v) (h : DataW.Trod enc Tryd.prog W base spare held 64 v d p) (hw : ∀ k ∈ d.weights Tryd.prog 64, k ≤ reachBytes) :
    ∃ A bA bn bc lA ln lc, v = .agg (ak A (.slice bA bn bc) (.slice lA ln lc)) ∧ RdAct W A bA bn bc lA ln lc ∧ A.Held := by
  simp only [Value.okWide, Tryd.underlying64] at hv
  obtain ⟨cs, rfl, hs, _⟩ := hv
  obtain ⟨fuel, hf⟩ := h
  obtain ⟨xs, m, _, hx, hl, hxl, hfs⟩ := DataW.trod_struct Tryd.underlying64 hf
  have hl : cs.toList.length = 121 := hl.trans Tryd.cellsOf64
  have hxl9 : xs.length = 9 := hxl
  have g := fun i (hi : i < 9) => List.getElem?_eq_getElem (l := xs) (i := i) (by omega)
  have f0 : DataW.trod enc Tryd.prog W base spare held m 3 ((cs.toList.drop 0).take (Tryd.prog.cellsOf 3)) = some xs[0] := (hfs 0 _ rfl).trans (g 0 (by omega))
  have f1 : DataW.trod enc Tryd.prog W base spare held m 60 ((cs.toList.drop 1).take (Tryd.prog.cellsOf 60)) = some xs[1] := (hfs 1 _ rfl).trans (g 1 (by omega))
  have f2 : DataW.trod enc Tryd.prog W base spare held m 61 ((cs.toList.drop 21).take (Tryd.prog.cellsOf 61)) = some xs[2] := (hfs 2 _ rfl).trans (g 2 (by omega))
  have f3 : DataW.trod enc Tryd.prog W base spare held m 61 ((cs.toList.drop 53).take (Tryd.prog.cellsOf 61)) = some xs[3] := (hfs 3 _ rfl).trans (g 3 (by omega))
  have f4 : DataW.trod enc Tryd.prog W base spare held m 25 ((cs.toList.drop 85).take (Tryd.prog.cellsOf 25)) = some xs[4] := (hfs 4 _ rfl).trans (g 4 (by omega))
  have f5 : DataW.trod enc Tryd.prog W base spare held m 3 ((cs.toList.drop 117).take (Tryd.prog.cellsOf 3)) = some xs[5] := (hfs 5 _ rfl).trans (g 5 (by omega))
  have f6 : DataW.trod enc Tryd.prog W base spare held m 3 ((cs.toList.drop 118).take (Tryd.prog.cellsOf 3)) = some xs[6] := (hfs 6 _ rfl).trans (g 6 (by omega))
  have f7 : DataW.trod enc Tryd.prog W base spare held m 22 ((cs.toList.drop 119).take (Tryd.prog.cellsOf 22)) = some xs[7] := (hfs 7 _ rfl).trans (g 7 (by omega))
  have f8 : DataW.trod enc Tryd.prog W base spare held m 62 ((cs.toList.drop 120).take (Tryd.prog.cellsOf 62)) = some xs[8] := (hfs 8 _ rfl).trans (g 8 (by omega))
  rw [Tryd.cellsOf3] at f0 f5 f6
  rw [Tryd.cellsOf60] at f1
  rw [Tryd.cellsOf61] at f2 f3
  rw [Tryd.cellsOf25] at f4
  rw [Tryd.cellsOf22] at f7
  rw [Tryd.cellsOf62] at f8
  rw [List.drop_zero] at f0
  obtain ⟨kind, e0, _, wk⟩ := DataW.trod_int Tryd.underlying3 f0
  obtain ⟨ad, e1, la⟩ := open_arrF Tryd.underlying60 Tryd.cellsOf60 f1
  obtain ⟨key, e2, lk⟩ := open_arrF Tryd.underlying61 Tryd.cellsOf61 f2
  obtain ⟨wd, e3, lw⟩ := open_arrF Tryd.underlying61 Tryd.cellsOf61 f3
  obtain ⟨rt, e4, lr⟩ := open_arrF Tryd.underlying25 Tryd.cellsOf25 f4
  obtain ⟨nn, e5, _, wn⟩ := DataW.trod_int Tryd.underlying3 f5
  obtain ⟨mm, e6, _, wm⟩ := DataW.trod_int Tryd.underlying3 f6
  obtain ⟨bA, bn, bc, bs, e7, rb, hb⟩ := open_bytesF f7
  obtain ⟨lA, ln, lc, kvs, e8, rl, hl8⟩ := open_kvs f8
  have hwx : ∀ (i : Nat) (t : TypeId) (y : DataW H × List MemPlace), [3, 60, 61, 61, 25, 3, 3, 22, 62][i]? = some t → xs[i]? = some y → ∀ k ∈ y.1.weights Tryd.prog t, k ≤ reachBytes := by
    intro i t y hi hy k hk
    refine hw k ?_
    have hd : d = .agg (xs.map (·.1)) := congrArg Prod.fst hx
    rw [hd]
    simp only [DataW.weights, Tryd.underlying64]
    exact DataW.weights_mem_each (j := i) (t := t) (d := y.1) hi (by rw [List.getElem?_map, hy]; rfl) k hk
  have hb' := hb (hwx 7 22 _ rfl (g 7 (by omega)))
  have hl' := hl8 (hwx 8 62 _ rfl (g 8 (by omega)))
  have w64 : ∀ z : Int, (Lit.int .i64 z).wf = true → -9223372036854775808 ≤ z ∧ z ≤ 9223372036854775807 := fun z hz => by
    have : -9223372036854775808 ≤ z ∧ z ≤ 9223372036854775807 := by simpa [Lit.wf, IntKind.min, IntKind.max, IntKind.signed, IntKind.bits] using hz
    exact this
  have hrb : reachBytes ≤ 140737488355328 := by have := reachBytes_lt; omega
  refine ⟨⟨kind, ad, key, wd, rt, nn, mm, bs, kvs⟩, bA, bn, bc, lA, ln, lc, ?_, ⟨⟨la, lk, lw, lr, (w64 _ wn).1, (w64 _ wn).2, (w64 _ wm).1, (w64 _ wm).2, (w64 _ wk).1, (w64 _ wk).2⟩, rb, rl⟩, ⟨?_, ?_, fun kv hm => ?_⟩⟩
  · congr 1
    apply Array.toList_inj.1
    rw [split9 cs.toList hl, e0, e1, e2, e3, e4, e5, e6, e7, e8]
    rfl
  · show bs.length ≤ _
    rw [rb.1]; omega
  · show kvs.length ≤ _
    rw [rl.1]; omega
  · have := hl'.2 kv hm
    omega
end

set_option maxRecDepth 100000 in
/-- what the lists of the archive's rows give -/
theorem laidW_of {laid : List (String × DataW Unit)} {W : World} (hL : laidMet Tryd.prog laid W) (hS : W.ShapedOpen Tryd.prog)
    (h1 : ("internal/strconv.uint64pow10", Rows.laid_internal_strconv_uint64pow10) ∈ laid) (h2 : ("strconv.ErrSyntax", Rows.laid_strconv_ErrSyntax) ∈ laid) (h3 : ("strconv.ErrRange", Rows.laid_strconv_ErrRange) ∈ laid) : LaidW W := by
  have iface_of : ∀ (name : String) (g : Nat) (d : DataW Unit) (tn : String), Lib.VarReads Tryd.prog W name (.iface tn d) → Tryd.prog.globalNamed name = some g → (Tryd.prog.globals[g]?).map (·.type) = some 86 → ∃ ev, W.cell? ⟨g, 0, none⟩ = some ev ∧ (ev = .nilIface ∨ ∃ te pe, ev = .iface te pe) := by
    intro name g d tn ⟨g', t', cs, fuel, p, hg', ht', hvar, hd⟩ hg ht
    obtain rfl := Option.some.inj (hg.symm.trans hg')
    obtain rfl := Option.some.inj (ht.symm.trans ht')
    have hc := World.var?_cell hg hvar 0
    cases fuel with
    | zero => simp [DataW.trod] at hd
    | succ n =>
      unfold DataW.trod at hd
      rw [Tryd.underlying86] at hd
      obtain ⟨l⟩ := cs
      match l, hd, hc with
      | [], hd, _ => simp at hd
      | [v], hd, hc =>
        refine ⟨v, by simpa using hc, ?_⟩
        cases v <;> simp at hd ⊢
      | a :: b :: r, hd, _ => simp at hd
  have hm : ∃ m, W.cell? ⟨1, 0, none⟩ = some (.int .i64 m) := cell_of_shapedOpen_int (P := Tryd.prog) (g := 1) (t := 3) (zero := #[.int .i64 0]) hS (of_decide_eq_true (by kernel_rfl)) (by kernel_rfl) rfl (by kernel_rfl) (by kernel_rfl) Tryd.underlying3
  refine ⟨?_, hm, iface_of _ 2 _ _ (Lib.laidMet.reads hL h2) (by kernel_rfl) (by kernel_rfl), iface_of _ 3 _ _ (Lib.laidMet.reads hL h3) (by kernel_rfl) (by kernel_rfl)⟩
  obtain ⟨g', t', cs, fuel, p, hg', ht', hvar, hd⟩ := Lib.laidMet.reads hL h1
  have hg : Tryd.prog.globalNamed "internal/strconv.uint64pow10" = some 0 := by kernel_rfl
  obtain rfl := Option.some.inj (hg.symm.trans hg')
  have ht : (Tryd.prog.globals[0]?).map (·.type) = some 187 := by kernel_rfl
  obtain rfl := Option.some.inj (ht.symm.trans ht')
  unfold Lib.TabIs
  rw [hvar]
  have he : (Rows.laid_internal_strconv_uint64pow10 : DataW Unit) = Lib.tabData .u64 Lib.pow10Tab := by kernel_rfl
  rw [he] at hd
  have := Lib.cells_of_tab Tryd.underlying187 Tryd.underlying26 (by kernel_rfl) (by kernel_rfl) hd
  rw [← this]
end Go.Proofs.YtfjfjjcdlgdbcaaDoor
