/- the texts E13, E14, E15 of this proof, one behind the other -/
import Derived.Test.YtfjfjjcdlgdbcaaDoorQ4
namespace Go.Proofs.YtfjfjjcdlgdbcaaDoor
open Go.RowKit
set_option linter.unusedSimpArgs false
set_option linter.unusedVariables false

/-- bytes, a list, an act in memory beyond a block -/
def RdBx (w : World) (lo : Nat) (A : Option Addr) (n c : Nat) (xs : List UInt8) : Prop := RdB w A n c xs ∧ ∀ ad, A = some ad → lo ≤ ad.block ∧ ad.block < w.heap.size
def RdKVx (w : World) (lo : Nat) (A : Option Addr) (n c : Nat) (kvs : List (List UInt8 × List UInt8)) : Prop :=
  RdKV w A n c kvs ∧ (∀ ad, A = some ad → lo ≤ ad.block ∧ ad.block < w.heap.size) ∧ (∀ (g o : Nat), A = some ⟨g, o, none⟩ → ∀ (j : Nat) kv, kvs[j]? = some kv → ∃ B m d B' m' d', w.cell? ⟨g, o + j * 2, none⟩ = some (.slice B m d) ∧ RdBx w lo B m d kv.1 ∧ w.cell? ⟨g, o + j * 2 + 1, none⟩ = some (.slice B' m' d') ∧ RdBx w lo B' m' d' kv.2) ∧ (kvs = [] → A = none ∧ c = 0)
def RdActX (w : World) (lo : Nat) (A : ActP) (bA : Option Addr) (bn bc : Nat) (lA : Option Addr) (ln lc : Nat) : Prop := A.Fit ∧ RdBx w lo bA bn bc A.b ∧ RdKVx w lo lA ln lc A.l
theorem RdActX.rd {w : World} {lo : Nat} {A : ActP} {bA : Option Addr} {bn bc : Nat} {lA : Option Addr} {ln lc : Nat} (h : RdActX w lo A bA bn bc lA ln lc) : RdAct w A bA bn bc lA ln lc := ⟨h.1, h.2.1.1, h.2.2.1⟩
/-- blocks from lo on lie as they lay -/
def KeepsLo (lo : Nat) (w w' : World) : Prop := w.heap.size ≤ w'.heap.size ∧ ∀ i, lo ≤ i → i < w.heap.size → w'.heap[i]? = w.heap[i]?
theorem cell_of_heap {w w' : World} {a : Addr} (h : w'.heap[a.block]? = w.heap[a.block]?) : w'.cell? a = w.cell? a := by
  unfold World.cell?
  rw [h]
theorem KeepsLo.cell {lo : Nat} {w w' : World} (h : KeepsLo lo w w') {a : Addr} (h1 : lo ≤ a.block) (h2 : a.block < w.heap.size) : w'.cell? a = w.cell? a := cell_of_heap (h.2 _ h1 h2)
theorem KeepsLo.grown {lo : Nat} {w w' : World} {g : Nat} (h : w.grownBy w' (some g)) (hg : g < lo) : KeepsLo lo w w' := ⟨h.size, fun i h1 h2 => h.block i h2 (by simp; omega)⟩
theorem KeepsLo.below {lo : Nat} {w w' : World} (h : Below w.heap.size w w') : KeepsLo lo w w' := ⟨h.size, fun i _ h2 => h.block i h2⟩
theorem add_block (ad : Addr) (j : Nat) : (ad.add j).block = ad.block := by unfold Addr.add; split <;> rfl
theorem RdBx.keeps {w w' : World} {lo : Nat} {A : Option Addr} {n c : Nat} {xs : List UInt8} (h : RdBx w lo A n c xs) (hk : KeepsLo lo w w') : RdBx w' lo A n c xs := by
  obtain ⟨⟨h1, h2, h3, h4⟩, h5⟩ := h
  refine ⟨⟨h1, h2, h3, fun hn => ?_⟩, fun ad e => ⟨(h5 ad e).1, Nat.lt_of_lt_of_le (h5 ad e).2 hk.1⟩⟩
  obtain ⟨ad, e, hc⟩ := h4 hn
  refine ⟨ad, e, fun j u hu => ?_⟩
  rw [hk.cell (by rw [add_block]; exact (h5 ad e).1) (by rw [add_block]; exact (h5 ad e).2)]
  exact hc j u hu
theorem RdKVx.keeps {w w' : World} {lo : Nat} {A : Option Addr} {n c : Nat} {kvs : List (List UInt8 × List UInt8)} (h : RdKVx w lo A n c kvs) (hk : KeepsLo lo w w') : RdKVx w' lo A n c kvs := by
  obtain ⟨⟨h1, h2, h3, h4⟩, h5, h6, h7⟩ := h
  have key : ∀ (g o : Nat), A = some ⟨g, o, none⟩ → ∀ (j : Nat) kv, kvs[j]? = some kv → ∃ B m d B' m' d', w'.cell? ⟨g, o + j * 2, none⟩ = some (.slice B m d) ∧ RdBx w' lo B m d kv.1 ∧ w'.cell? ⟨g, o + j * 2 + 1, none⟩ = some (.slice B' m' d') ∧ RdBx w' lo B' m' d' kv.2 := by
    intro g o e j kv hj
    obtain ⟨B, m, d, B', m', d', a1, a2, a3, a4⟩ := h6 g o e j kv hj
    have hb := h5 _ e
    exact ⟨B, m, d, B', m', d', by rw [hk.cell (a := ⟨g, o + j * 2, none⟩) hb.1 hb.2]; exact a1, a2.keeps hk, by rw [hk.cell (a := ⟨g, o + j * 2 + 1, none⟩) hb.1 hb.2]; exact a3, a4.keeps hk⟩
  refine ⟨⟨h1, h2, h3, fun hn => ?_⟩, fun ad e => ⟨(h5 ad e).1, Nat.lt_of_lt_of_le (h5 ad e).2 hk.1⟩, key, h7⟩
  obtain ⟨g, o, e, hc⟩ := h4 hn
  refine ⟨g, o, e, fun j kv hj => ?_⟩
  obtain ⟨B, m, d, B', m', d', a1, a2, a3, a4⟩ := key g o e j kv hj
  exact ⟨B, m, d, B', m', d', a1, a2.1, a3, a4.1⟩
theorem RdActX.keeps {w w' : World} {lo : Nat} {A : ActP} {bA : Option Addr} {bn bc : Nat} {lA : Option Addr} {ln lc : Nat} (h : RdActX w lo A bA bn bc lA ln lc) (hk : KeepsLo lo w w') : RdActX w' lo A bA bn bc lA ln lc :=
  ⟨h.1, h.2.1.keeps hk, h.2.2.keeps hk⟩
theorem RdBx.nil (w : World) (lo : Nat) : RdBx w lo none 0 0 [] := ⟨⟨rfl, Nat.le_refl _, by unfold maxLen; omega, fun h => absurd h (by omega)⟩, fun ad e => by cases e⟩
theorem RdKVx.nil (w : World) (lo : Nat) : RdKVx w lo none 0 0 [] := ⟨⟨rfl, Nat.le_refl _, by unfold maxLen; omega, fun h => absurd h (by omega)⟩, (fun ad e => by cases e), (fun g o e => by cases e), fun _ => ⟨rfl, rfl⟩⟩

/-- what the fields parse to, one behind the other -/
def parseFs (pF : ActP → UInt8 → List UInt8 → Option ActP) : ActP → List UInt8 → List (List UInt8) → Option ActP
  | A, [], _ => some A
  | A, c :: cs, ws => match pF A c (ws.headD []) with
    | none => none
    | some A' => parseFs pF A' cs ws.tail
theorem parseFs_take (pF : ActP → UInt8 → List UInt8 → Option ActP) : ∀ (fs : List UInt8) (ws : List (List UInt8)) (A A' : ActP) (k : Nat) (hk : k < fs.length), parseFs pF A (fs.take k) ws = some A' →
    parseFs pF A (fs.take (k + 1)) ws = pF A' (fs.getD k 0) (ws.getD k [])
  | c :: fs, ws, A, A', 0, _, h => by
    simp only [List.take_zero, parseFs, Option.some.injEq] at h
    subst h
    cases ws with
    | nil => simp [parseFs]; cases pF A c [] <;> rfl
    | cons x ws => simp [parseFs]; cases pF A c x <;> rfl
  | c :: fs, ws, A, A', k + 1, hk, h => by
    simp only [List.take_succ_cons, parseFs] at h ⊢
    cases hp : pF A c (ws.headD []) with
    | none => rw [hp] at h; cases h
    | some A1 =>
      rw [hp] at h
      have := parseFs_take pF fs ws.tail A1 A' k (by simpa using hk) h
      simp only [hp]
      rw [this]
      cases ws <;> simp
theorem parseFs_none (pF : ActP → UInt8 → List UInt8 → Option ActP) : ∀ (fs : List UInt8) (ws : List (List UInt8)) (A : ActP) (k : Nat), parseFs pF A (fs.take k) ws = none → parseFs pF A fs ws = none
  | [], ws, A, k, h => by simpa using h
  | c :: fs, ws, A, 0, h => by simp [parseFs] at h
  | c :: fs, ws, A, k + 1, h => by
    simp only [List.take_succ_cons, parseFs] at h ⊢
    cases hp : pF A c (ws.headD []) with
    | none => rfl
    | some A1 =>
      rw [hp] at h
      exact parseFs_none pF fs ws.tail A1 k h
def okByte (b : UInt8) : Bool := decide (32 ≤ b.toNat ∧ b.toNat ≤ 126)
def parseG (pF : ActP → UInt8 → List UInt8 → Option ActP) (line : List UInt8) : Option ActP :=
  if line.all okByte = true then
    if 0 ≤ kindOf ((splitL 32 line).headD []) ∧ (splitL 32 line).length = 1 + (kf (kindOf ((splitL 32 line).headD []))).length then
      match parseFs pF (zAct (kindOf ((splitL 32 line).headD []))) (kf (kindOf ((splitL 32 line).headD []))) (splitL 32 line).tail with
      | none => none
      | some A => if badA A = false ∧ printT A = line then some A else none
    else none
  else none
/-- archive.parsed does what pF says, at a field and a word -/
def ParsedAt (pF : ActP → UInt8 → List UInt8 → Option ActP) (c : UInt8) (s : List UInt8) : Prop :=
  ∀ (A : ActP) (bA : Option Addr) (bn bc : Nat) (lA : Option Addr) (ln lc : Nat) (g lo : Nat) (W : World), g < lo → lo ≤ W.heap.size → Blk W g 64 (ak A (.slice bA bn bc) (.slice lA ln lc)) → RdActX W lo A bA bn bc lA ln lc → LaidW W → (c = 108 → A.l = []) →
    Calls Tryd.prog 73 #[.pointer (some ⟨g, 0, none⟩), .int .i32 (c.toNat : Int), .string (str s)] W fun e W' => W.grownBy W' (some g) ∧
      ((e = .returned (.bool false) ∧ pF A c s = none) ∨ (e = .returned (.bool true) ∧ ∃ A' bA' bn' bc' lA' ln' lc', pF A c s = some A' ∧ Blk W' g 64 (ak A' (.slice bA' bn' bc') (.slice lA' ln' lc')) ∧ RdActX W' lo A' bA' bn' bc' lA' ln' lc'))
/-- an act that was read, or none -/
def ParseEnd (w : World) (r : Option ActP) (e : Ending) (w' : World) : Prop := Below w.heap.size w w' ∧
  ((r = none ∧ e = .returned (.tuple #[.agg (zk 0), .int .i64 203])) ∨ ∃ A bA bn bc lA ln lc, r = some A ∧ e = .returned (.tuple #[.agg (ak A (.slice bA bn bc) (.slice lA ln lc)), .int .i64 0]) ∧ RdAct w' A bA bn bc lA ln lc)
end Go.Proofs.YtfjfjjcdlgdbcaaDoor
namespace Go.Proofs.YtfjfjjcdlgdbcaaDoor
open Go.RowKit
set_option linter.unusedSimpArgs false
set_option linter.unusedVariables false

theorem getD_mem {x : List UInt8} {k : Nat} (h : k < x.length) : x.getD k 0 ∈ x := by
  rw [List.getD_eq_getElem?_getD, List.getElem?_eq_getElem h]; exact List.getElem_mem h
theorem all_take_succ (x : List UInt8) (k : Nat) (h : k < x.length) : (x.take (k + 1)).all okByte = ((x.take k).all okByte && okByte (x.getD k 0)) := by
  rw [List.take_succ_eq_append_getElem h]
  simp only [List.all_append, List.all_cons, List.all_nil, Bool.and_true, List.getD_eq_getElem?_getD, List.getElem?_eq_getElem h, Option.getD_some]
theorem decode_bad (x : List UInt8) (k : Nat) (h : k < x.length) (hb : okByte (x.getD k 0) = false) : ((Utf8.decode (str x) k).1 : Int) < 32 ∨ (126 : Int) < ((Utf8.decode (str x) k).1 : Int) := by
  have hb' : ¬ (32 ≤ (x.getD k 0).toNat ∧ (x.getD k 0).toNat ≤ 126) := of_decide_eq_false hb
  by_cases ha : (x.getD k 0).toNat < 128
  · rw [decode_at x k h ha]
    show ((x.getD k 0).toNat : Int) < 32 ∨ (126 : Int) < ((x.getD k 0).toNat : Int)
    omega
  · have e : ((str x)[k]'h).toNat = (x.getD k 0).toNat := by
      show (x.toArray[k]'h).toNat = _
      simp [List.getD_eq_getElem?_getD, List.getElem?_eq_getElem h]
    have := (decode_high (str x) k h (by rw [e]; omega)).1
    right
    omega
theorem parseG_bad (pF : ActP → UInt8 → List UInt8 → Option ActP) (x : List UInt8) (h : x.all okByte = false) : parseG pF x = none := by
  unfold parseG
  rw [if_neg (by rw [h]; simp)]
theorem all_of_no (x : List UInt8) (k : Nat) (h : k < x.length) (hb : okByte (x.getD k 0) = false) : x.all okByte = false := by
  rw [Bool.eq_false_iff]
  intro hall
  rw [List.all_eq_true] at hall
  rw [hall _ (getD_mem h)] at hb
  cases hb
theorem parseG_at (pF : ActP → UInt8 → List UInt8 → Option ActP) (x w0 : List UInt8) (ws : List (List UInt8)) (h : x.all okByte = true) (hs : splitL 32 x = w0 :: ws) :
    parseG pF x = if 0 ≤ kindOf w0 ∧ ws.length = (kf (kindOf w0)).length then
      match parseFs pF (zAct (kindOf w0)) (kf (kindOf w0)) ws with
      | none => none
      | some A => if badA A = false ∧ printT A = x then some A else none
    else none := by
  unfold parseG
  rw [if_pos h, hs]
  simp only [List.headD_cons, List.tail_cons, List.length_cons]
  congr 1
  simp only [eq_iff_iff, and_congr_right_iff]
  intro _
  omega
/-- the same, with the frame whole -/
theorem wpList_nextS2 {P : Program} {ops : Array Oper} {rest : List Oper} {o : Oper} {a : Act} {W : World} {Q : Exit → Act → World → Prop} (hgd : o.guard = none) (x : Operand) (ho : o.op = .next x true)
    (k : Nat) (hx : a.eval x = .pointer (some ⟨k, 0, none⟩)) (s : ByteArray) (pos : Nat) (hk : W.heap[k]? = some (.stringIter s pos)) (hp : pos < s.size)
    (h : ∀ W', W'.heap[k]? = some (.stringIter s (pos + (Utf8.decode s pos).2)) → W.grownBy W' (some k) → W'.heap.size = W.heap.size →
      wpList P ops Q rest (a.put o.dst (.tuple #[.bool true, .int .i64 pos, .int .i32 (Utf8.decode s pos).1])) W') : wpList P ops Q (o :: rest) a W :=
  wpList_plain hgd fun K hK => by
    have hlt : k < W.heap.size := (Array.getElem?_eq_some_iff.1 hk).1
    unfold Oper.wp execOp
    simp only [ho, hx, Sem.run_bind, Sem.run_pure, run_next_at W k s pos o.type hk hp, Result.andThen_ok]
    refine hK _ _ (h _ ?_ ⟨rfl, rfl, rfl, ?_, fun i hi hne => ?_⟩ ?_)
    · simp [hlt]
    · simp
    · show (W.heap.setIfInBounds k _)[i]? = W.heap[i]?
      rw [Array.getElem?_setIfInBounds, if_neg (by intro e; exact hne (by rw [e]))]
    · simp
theorem setCells_size : ∀ (vs : List Value) (o : Nat) (w : World) (n : Nat), (w.setCells n o vs).heap.size = w.heap.size
  | [], _, _, _ => rfl
  | v :: r, o, w, n => by
    simp only [World.setCells]
    rw [setCells_size r (o + 1) _ n]
    simp [World.setCell]
theorem kindOf_range (w0 : List UInt8) : -1 ≤ kindOf w0 ∧ kindOf w0 < 28 := by
  unfold kindOf
  split
  · rename_i h
    obtain ⟨k, hk, h1⟩ := h
    have : (List.range 28).findIdx (fun k => decide ((kt.getD k ([], [])).1 ≠ [] ∧ (kt.getD k ([], [])).1 = w0)) < (List.range 28).length :=
      List.findIdx_lt_length_of_exists ⟨k, by simpa using hk, by simpa using h1⟩
    simp only [List.length_range] at this
    omega
  · omega
theorem words_new (wr : World) (w0 : List UInt8) (ws : List (List UInt8)) : Words ((wr.alloc (.cells (svs (w0 :: ws)).toArray 9)).alloc (.cells #[.slice (some ⟨wr.heap.size, 0, none⟩) (ws.length + 1) (ws.length + 1)] 84)) (wr.heap.size + 1) (w0 :: ws) := by
  refine ⟨wr.heap.size, ws.length + 1, ?_, fun j s hj => ?_⟩
  · rw [World.cell?_alloc_at _ _ _ _ (by simp)]; rfl
  · rw [World.cell?_alloc_lt _ _ ⟨wr.heap.size, j, none⟩ (by simp), World.cell?_alloc_at _ _ _ _ rfl]
    simp only [svs, List.getElem?_toArray, List.getElem?_map, hj, Option.map_some]
attribute [local go_sem] zk_zero

set_option maxRecDepth 100000 in
set_option maxHeartbeats 8000000 in
theorem Parse_callsG (pF : ActP → UInt8 → List UInt8 → Option ActP) (x : List UInt8) (w : World) (hL : LaidW w) (hx : x.length ≤ 100000000)
    (HP : ∀ c ∈ kf (kindOf ((splitL 32 x).headD [])), ∀ s ∈ splitL 32 x, ParsedAt pF c s)
    (HSm : ∀ A, parseFs pF (zAct (kindOf ((splitL 32 x).headD []))) (kf (kindOf ((splitL 32 x).headD []))) (splitL 32 x).tail = some A → A.Small) :
    Calls Tryd.prog 37 #[.string (str x)] w (ParseEnd w (parseG pF x)) := by
  have hHP := Lib.hid HP
  have hHS := Lib.hid HSm
  have hT0 : Hid (AggT Tryd.prog 64 (zk 0).size) := by rw [zk_size]; exact Tryd.agg64
  clear HP HSm
  go_enter Tryd.func37, Tryd.ntmps37
  go_wp2
  obtain ⟨wA, hwA⟩ : ∃ wA, wA = w.alloc (.cells (zk 0) 64) := ⟨_, rfl⟩
  have hsA := Lib.hid (show wA.heap.size = w.heap.size + 1 by rw [hwA]; simp)
  have hBA := Lib.hid (show Blk wA w.heap.size 64 (zk 0) by rw [hwA]; exact Blk.new _ _ _)
  have hWA := Lib.hid (show Below w.heap.size w wA by rw [hwA]; exact al (Below.refl _ _) _)
  have hLA := Lib.hid (hL.below hWA.out)
  rw [← hwA]
  have hszx : (str x).size = x.length := rfl
  clear hwA hL
  go_loopw [5] (fun v wr => ∃ k : Nat, k ≤ x.length ∧ (x.take k).all okByte = true ∧ wr.heap[w.heap.size + 1]? = some (.stringIter (str x) k) ∧ Below (w.heap.size + 1) wA wr) (fun _ wr => x.length - World.iterAt wr (w.heap.size + 1))
  case atStart => exact ⟨0, by omega, by simp, by rw [← hsA.out]; exact heap_alloc_new wA _, by rw [← hsA.out]; exact al (Below.refl _ _) _⟩
  case round =>
    obtain ⟨k, hk, hall, hit, hb⟩ := hrel
    have hbs := hb.size
    have HALL := Lib.hid hall
    have HIT := Lib.hid hit
    clear hall hit
    by_cases hlt : k < x.length
    · have hlt' : k < (str x).size := hlt
      cases hok : okByte (x.getD k 0) with
      | true =>
        have hbk : 32 ≤ (x.getD k 0).toNat ∧ (x.getD k 0).toNat ≤ 126 := of_decide_eq_true hok
        have hdec := Lib.hid (decode_at x k hlt (by omega))
        have hsu := Lib.hid (all_take_succ x k hlt)
        have hok' := Lib.hid hok
        clear hok
        generalize x.getD k 0 = c at *
        go_wp2_with (refine wpList_nextS rfl (.tmp 15) rfl (w.heap.size + 1) rfl (str x) k HIT.out hlt' ?_; rw [hdec.out]; intro w3 hit3 hb3 hs3)
        go_roundw
        case rel => exact ⟨k + 1, by omega, by rw [hsu.out, HALL.out, hok'.out]; rfl, hit3, hb.trans hb3⟩
        case measure =>
          rw [iterAt_of hit3, iterAt_of HIT.out]
          omega
      | false =>
        have hbad := decode_bad x k hlt hok
        have hpb := Lib.hid (parseG_bad pF x (all_of_no x k hlt hok))
        clear hok
        have hB3 := Lib.hid (fun W (hW : Below (w.heap.size + 1) wA W) => hBA.out.below hW (by omega))
        rcases hbad with hbad | hbad
        · go_wp2_with (first | (refine wpList_nextS rfl (.tmp 15) rfl (w.heap.size + 1) rfl (str x) k HIT.out hlt' ?_; intro w3 hit3 hb3 hs3; have hb4 := Lib.hid (hb.trans hb3)) | (refine wpList_build rfl 64 #[] rfl (.agg (zk 0)) (by kernel_rfl) ?_) | (refine wpList_storeAgg rfl rfl 64 _ _ rfl w.heap.size 0 rfl (zk 0) rfl hT0.out ((hB3.out _ hb4.out).room 0 _ (by omega)) (zk_oneCell 0) ?_))
          have hfb := (hB3.out _ hb4.out).setCells (zk 0).toList 0 (by rw [Array.length_toList]; omega)
          rw [ovw_all _ _ (by rw [Array.length_toList])] at hfb
          exact bodyPost_ret (results_agg_tmp rfl _ _ w.heap.size (zk 0) rfl hT0.out (cellsAt_blk hfb)) rfl ⟨below_setCells (hWA.out.trans (hb4.out.mono (by omega))) _ _ _ (Nat.le_refl _), .inl ⟨hpb.out, rfl⟩⟩
        · have hbad2 : ¬ ((Utf8.decode (str x) k).1 : Int) < 32 := by omega
          go_wp2_with (first | (refine wpList_nextS rfl (.tmp 15) rfl (w.heap.size + 1) rfl (str x) k HIT.out hlt' ?_; intro w3 hit3 hb3 hs3; have hb4 := Lib.hid (hb.trans hb3)) | (refine wpList_build rfl 64 #[] rfl (.agg (zk 0)) (by kernel_rfl) ?_) | (refine wpList_storeAgg rfl rfl 64 _ _ rfl w.heap.size 0 rfl (zk 0) rfl hT0.out ((hB3.out _ hb4.out).room 0 _ (by omega)) (zk_oneCell 0) ?_))
          have hfb := (hB3.out _ hb4.out).setCells (zk 0).toList 0 (by rw [Array.length_toList]; omega)
          rw [ovw_all _ _ (by rw [Array.length_toList])] at hfb
          exact bodyPost_ret (results_agg_tmp rfl _ _ w.heap.size (zk 0) rfl hT0.out (cellsAt_blk hfb)) rfl ⟨below_setCells (hWA.out.trans (hb4.out.mono (by omega))) _ _ _ (Nat.le_refl _), .inl ⟨hpb.out, rfl⟩⟩
    · obtain rfl : k = x.length := by omega
      rw [List.take_length] at HALL
      have hnlt : ¬ x.length < (str x).size := by rw [hszx]; omega
      have hbA : Below wA.heap.size wA wr := by rw [hsA.out]; exact hb
      have hBr := Lib.hid (hBA.out.below hb (by omega))
      have hLr := Lib.hid (hLA.out.below hbA)
      have hWr := Lib.hid (hWA.out.trans (hb.mono (by omega)))
      have hsp := Lib.hid (Split_calls x wr (by omega) hLr.out)
      have hne := splitL_ne 32 x
      have hsl := splitL_len 32 x
      clear hb hBA hLA hWA hbA
      obtain ⟨w0, ws, hws⟩ : ∃ w0 ws, splitL 32 x = w0 :: ws := by
        cases hs : splitL 32 x with
        | nil => exact absurd hs hne
        | cons a b => exact ⟨a, b, rfl⟩
      have hPG := Lib.hid (parseG_at pF x w0 ws HALL.out hws)
      rw [hws] at hHP hHS hsp hsl
      simp only [List.headD_cons, List.tail_cons, List.length_cons] at hHP hHS hsp hsl
      clear hne hws
      have hWd := Lib.hid (words_new wr w0 ws)
      have hA117 : Hid (AggT Tryd.prog 117 kindsV.size) := by rw [kindsV_size]; exact Tryd.agg117
      have hmf : ∀ (fn : Fn) (first cap : Array Value) (W : World), (Instr.makeFunc fn first cap).run Tryd.prog W = .ok (.func fn first cap) W := fun fn first cap W => rfl
      go_wp2_with (first | (refine wpList_nextE rfl (.tmp 15) rfl (w.heap.size + 1) rfl (str x) x.length HIT.out hnlt ?_) | (go_at_call 57; refine hsp.out.mono ?_; rintro e w2 ⟨rfl, rfl⟩) | (go_at_call 65; refine (kinds_calls _).mono ?_; rintro e w4 ⟨rfl, hb4⟩) | (refine wpList_storeNew rfl rfl 117 _ _ rfl _ _ rfl kindsV rfl hA117.out (by rw [kindsV_size]; rfl) kindsV_one ?_) | (go_at_call 71; refine (index71_calls w4.heap.size (wr.heap.size + 1) w0 ws _ (Blk.new _ _ _) ((hWd.out.below hb4).below (al (Below.refl _ _) _))).mono ?_; rintro e w5 ⟨rfl, hb5⟩))
      have hr5 : Below wr.heap.size wr w5 := thn (al (thn (al (al (Below.refl _ _) _) _) hb4) _) hb5
      have hw5 := Lib.hid (hWr.out.trans (hr5.mono hWr.out.size))
      have hB5 := Lib.hid (hBr.out.below hr5 hBr.out.lt)
      have hL5 := Lib.hid (hLr.out.below hr5)
      have hWd5 := ((hWd.out.below hb4).below (al (Below.refl _ _) (.cells kindsV 117))).below hb5
      have hK5 := (Blk.new w4 117 kindsV).below hb5 (by simp)
      have hkr := kindOf_range w0
      obtain ⟨r, cw, hcv, hcw⟩ := hWd5
      simp only [List.length_cons] at hcv
      have HWD5 := Lib.hid (show Words w5 (wr.heap.size + 1) (w0 :: ws) from ⟨r, cw, by simpa using hcv, hcw⟩)
      have HCW := Lib.hid hcw
      clear hcw hr5 hWr hBr hLr hWd hA117 hsp
      generalize kindOf w0 = ki at *
      by_cases hneg : ki < 0
      · have hpb : Hid (parseG pF x = none) := by rw [hPG.out, if_neg (by omega)]; trivial
        clear hPG hHP hHS
        go_quiet (fail)
        go_wp2_with (first | (refine wpList_build rfl 64 #[] rfl (.agg (zk 0)) (by kernel_rfl) ?_) | (refine wpList_storeAgg rfl rfl 64 _ _ rfl w.heap.size 0 rfl (zk 0) rfl hT0.out ((hB5.out.drewN nq).room 0 _ (by omega)) (zk_oneCell 0) ?_))
        have hfb := (hB5.out.drewN nq).setCells (zk 0).toList 0 (by rw [Array.length_toList]; omega)
        rw [ovw_all _ _ (by rw [Array.length_toList])] at hfb
        exact bodyPost_ret (results_agg_tmp rfl _ _ w.heap.size (zk 0) rfl hT0.out (cellsAt_blk hfb)) rfl ⟨below_setCells (hw5.out.trans (drawn_below' _ _ _ hw5.out.size)) _ _ _ (Nat.le_refl _), .inl ⟨hpb.out, rfl⟩⟩
      · obtain ⟨kk, rfl⟩ : ∃ kk : Nat, ki = kk := ⟨ki.toNat, by omega⟩
        have hkk : kk < 28 := by omega
        have hfse : kf (kk : Int) = (kt.getD kk ([], [])).2 := by unfold kf; rw [if_pos (by omega)]; rfl
        have hcf : w5.cell? ⟨w4.heap.size, kk * 2 + 1, none⟩ = some (.string (str (kf (kk : Int)))) := by
          rw [hK5.cell, hfse]
          exact (kindsV_at kk hkk).2
        have hasc := Lib.hid (kf_ascii (kk : Int))
        have h22 := Lib.hid (kf_letters (kk : Int))
        have hf10 := (kt_len (kk : Int)).1
        clear hK5 hfse
        generalize hfs : kf (kk : Int) = fs at *
        have hszf : (str fs).size = fs.length := rfl
        by_cases hlen : ws.length = fs.length
        · have hq : ((ws.length : Int) + 1 != 1 + (fs.length : Int)) = false := by simp; omega
          have hq2 : ((fs.length : Int) + 1 != 1 + (fs.length : Int)) = false := by simp; omega
          have hPG' : Hid (parseG pF x = match parseFs pF (zAct kk) fs ws with | none => none | some A => if badA A = false ∧ printT A = x then some A else none) := by
            rw [hPG.out, if_pos ⟨by omega, hlen⟩]; trivial
          clear hPG
          go_quiet (fail)
          have hlt5 : w4.heap.size < w5.heap.size := by have := hb5.size; simp at this; omega
          have hTk : Hid (AggT Tryd.prog 64 (zk kk).size) := by rw [zk_size]; exact Tryd.agg64
          have hzs : (zk (kk : Int)).size = 121 := zk_size _
          have hlenH := Lib.hid hlen
          obtain ⟨wq, hwq⟩ : ∃ wq, wq = w5.drewN nq := ⟨_, rfl⟩
          have hsq := Lib.hid (show wq.heap.size = w5.heap.size by rw [hwq]; rfl)
          have hwdq := Lib.hid (show Words wq (wr.heap.size + 1) (w0 :: ws) by rw [hwq]; exact HWD5.out)
          have hBq := Lib.hid (show Blk wq w.heap.size 64 (zk 0) by rw [hwq]; exact hB5.out)
          have hLq := Lib.hid (show LaidW wq by rw [hwq]; exact hL5.out.below (drawn_below' _ _ _ (Nat.le_refl _)))
          have hWq := Lib.hid (show Below w.heap.size w wq by rw [hwq]; exact hw5.out.trans (drawn_below' _ _ _ hw5.out.size))
          have hcq : wq.cell? ⟨w4.heap.size, kk * 2 + 1, none⟩ = some (.string (str fs)) := by rw [hwq]; exact hcf
          have hltq : w4.heap.size < wq.heap.size := by rw [hsq.out]; exact hlt5
          rw [← hwq]
          clear hwq hcf hcv HWD5 HCW hB5 hL5 hw5 hlen hq hlt5
          obtain ⟨wo, rfl⟩ : ∃ wo : World, wo = wr := ⟨_, rfl⟩
          go_wp2_with (first | (refine wpList_build rfl 64 #[(0, .tmp 46)] rfl (.agg (zk kk)) (by kernel_rfl) ?_) | (refine wpList_storeNew rfl rfl 64 _ _ rfl _ _ rfl (zk kk) rfl hTk.out (by rw [zk_size, zk_size]) (zk_oneCell kk) ?_))
          go_loopw [10, 11] (fun v1 v2 wr => ∃ (k : Nat) (A : ActP) (bA : Option Addr) (bn bc : Nat) (lA : Option Addr) (ln lc : Nat), k ≤ fs.length ∧ parseFs pF (zAct kk) (fs.take k) ws = some A ∧ Blk wr wq.heap.size 64 (ak A (.slice bA bn bc) (.slice lA ln lc)) ∧ RdActX wr (wq.heap.size + 2) A bA bn bc lA ln lc ∧ wr.heap[wq.heap.size + 1]? = some (.stringIter (str fs) k) ∧ Below wq.heap.size wq wr) (fun _ _ wr => fs.length - World.iterAt wr (wq.heap.size + 1))
          case atStart => exact ⟨0, zAct kk, none, 0, 0, none, 0, 0, by omega, rfl, (Blk.new wq 64 (zk kk)).alloc _, ⟨zAct_fit _ (by omega) (by omega), RdBx.nil _ _, RdKVx.nil _ _⟩, by have := heap_alloc_new (wq.alloc (.cells (zk kk) 64)) (.stringIter (str fs) 0); rw [World.size_alloc] at this; exact this, al (al (Below.refl _ _) _) _⟩
          case round =>
            obtain ⟨k, A, bA, bn, bc, lA, ln, lc, hk, hpf, hBg, hRx, hit, hb⟩ := hrel
            have hbs := hb.size
            have HB := Lib.hid hb
            have HIT2 := Lib.hid hit
            have HBG := Lib.hid hBg
            have HRX := Lib.hid hRx
            have hltI : wq.heap.size + 1 < wr.heap.size := (Array.getElem?_eq_some_iff.1 hit).1
            clear hit hBg hRx hb
            by_cases hlt : k < fs.length
            · have hcm : fs.getD k 0 ∈ fs := getD_mem hlt
              have hdec := Lib.hid (decode_at fs k hlt (hasc.out _ hcm))
              obtain ⟨s, hs⟩ : ∃ s, ws[k]? = some s := ⟨_, List.getElem?_eq_getElem (by have := hlenH.out; omega)⟩
              have hsg : ws.getD k [] = s := by rw [List.getD_eq_getElem?_getD, hs]; rfl
              have hstep := Lib.hid (parseFs_take pF fs ws (zAct kk) A k hlt hpf)
              rw [hsg] at hstep
              have hPA := Lib.hid (hHP.out _ hcm s (List.mem_cons_of_mem _ (List.mem_of_getElem? hs)))
              have hA0 := Lib.hid (show fs.getD k 0 = 108 → A.l = [] by
                intro e
                rcases h22.out _ hcm with ⟨_, h⟩ | ⟨_, h⟩
                · rw [e] at h; simp at h
                · rw [← hfs, h] at hlt
                  have h1 : (kf 22).length = 1 := rfl
                  obtain rfl : k = 0 := by omega
                  simp only [List.take_zero, parseFs, Option.some.injEq] at hpf
                  rw [← hpf]; rfl)
              have HS := Lib.hid hs
              have hlt' : k < (str fs).size := by rw [hszf]; exact hlt
              generalize fs.getD k 0 = c at *
              clear hs hsg hcm hpf
              have hkw : k < ws.length := by have := hlenH.out; omega
              have hib : (0 : Int) ≤ 1 + (k : Int) ∧ 1 + (k : Int) < (ws.length : Int) + 1 := by omega
              have hin : (1 + (k : Int)).toNat = 1 + k := by omega
              cases hp : pF A c s with
              | none =>
                have hcall := Lib.hid (fun W hlo hB hR hL => (hPA.out A bA bn bc lA ln lc wq.heap.size (wq.heap.size + 2) W (by omega) hlo hB hR hL hA0.out).mono (fun e W' ⟨hg, h⟩ => (show W.grownBy W' (some wq.heap.size) ∧ e = Ending.returned (.bool false) from ⟨hg, by
                  rcases h with ⟨he, _⟩ | ⟨_, A', _, _, _, _, _, _, hp', _⟩
                  · exact he
                  · rw [hp] at hp'; cases hp'⟩)))
                have hpb : Hid (parseG pF x = none) := by
                  rw [hPG'.out, parseFs_none pF fs ws (zAct kk) (k + 1) (by rw [hstep.out, hp])]; trivial
                go_wp2_with (first | (refine wpList_nextS2 rfl (.tmp 52) rfl (wq.heap.size + 1) rfl (str fs) k HIT2.out hlt' ?_; rw [hdec.out]; intro w6 hit6 hg6 hs6; have hb6 := Lib.hid (HB.out.grown hg6 HB.out.size (fun k hk => by cases hk; omega)); have hB6 := Lib.hid (HBG.out.grown hg6 (by simp)); have hR6 := Lib.hid (HRX.out.keeps (KeepsLo.grown hg6 (by omega))); have hL6 := Lib.hid (hLq.out.below hb6.out); obtain ⟨r6, c6, hcv6, hcw6⟩ := hwdq.out.below hb6.out; simp only [List.length_cons] at hcv6; have hcs6 : w6.cell? ⟨r6, 1 + k, none⟩ = some (.string (str s)) := by (rw [Nat.add_comm]; exact hcw6 (k + 1) s (by simpa using HS.out))) | (go_at_call 73; refine (hcall.out _ (by omega) hB6.out hR6.out hL6.out).mono ?_; rintro e w7 ⟨hg7, rfl⟩; have hb7 := Lib.hid (hb6.out.grown hg7 hb6.out.size (fun k hk => by cases hk; exact Nat.le_refl _)); have hB7 := Lib.hid (hBq.out.below hb7.out hBq.out.lt)) | (refine wpList_build rfl 64 #[] rfl (.agg (zk 0)) (by kernel_rfl) ?_) | (refine wpList_storeAgg rfl rfl 64 _ _ rfl w.heap.size 0 rfl (zk 0) rfl hT0.out (hB7.out.room 0 _ (by omega)) (zk_oneCell 0) ?_))
                have hfb := hB7.out.setCells (zk 0).toList 0 (by rw [Array.length_toList]; omega)
                rw [ovw_all _ _ (by rw [Array.length_toList])] at hfb
                exact bodyPost_ret (results_agg_tmp rfl _ _ w.heap.size (zk 0) rfl hT0.out (cellsAt_blk hfb)) rfl ⟨below_setCells (hWq.out.trans (hb7.out.mono hWq.out.size)) _ _ _ (Nat.le_refl _), .inl ⟨hpb.out, rfl⟩⟩
              | some A1 =>
                have hcall := Lib.hid (fun W hlo hB hR hL => (hPA.out A bA bn bc lA ln lc wq.heap.size (wq.heap.size + 2) W (by omega) hlo hB hR hL hA0.out).mono (fun e W' ⟨hg, h⟩ => (show W.grownBy W' (some wq.heap.size) ∧ e = Ending.returned (.bool true) ∧ ∃ bA' bn' bc' lA' ln' lc', Blk W' wq.heap.size 64 (ak A1 (.slice bA' bn' bc') (.slice lA' ln' lc')) ∧ RdActX W' (wq.heap.size + 2) A1 bA' bn' bc' lA' ln' lc' from ⟨hg, by
                  rcases h with ⟨_, hp'⟩ | ⟨he, A', a1, a2, a3, a4, a5, a6, hp', h1, h2⟩
                  · rw [hp] at hp'; cases hp'
                  · rw [hp] at hp'
                    obtain rfl := Option.some.inj hp'
                    exact ⟨he, a1, a2, a3, a4, a5, a6, h1, h2⟩⟩)))
                go_wp2_with (first | (refine wpList_nextS2 rfl (.tmp 52) rfl (wq.heap.size + 1) rfl (str fs) k HIT2.out hlt' ?_; rw [hdec.out]; intro w6 hit6 hg6 hs6; have hb6 := Lib.hid (HB.out.grown hg6 HB.out.size (fun k hk => by cases hk; omega)); have hB6 := Lib.hid (HBG.out.grown hg6 (by simp)); have hR6 := Lib.hid (HRX.out.keeps (KeepsLo.grown hg6 (by omega))); have hL6 := Lib.hid (hLq.out.below hb6.out); obtain ⟨r6, c6, hcv6, hcw6⟩ := hwdq.out.below hb6.out; simp only [List.length_cons] at hcv6; have hcs6 : w6.cell? ⟨r6, 1 + k, none⟩ = some (.string (str s)) := by (rw [Nat.add_comm]; exact hcw6 (k + 1) s (by simpa using HS.out))) | (go_at_call 73; refine (hcall.out _ (by omega) hB6.out hR6.out hL6.out).mono ?_; rintro e w7 ⟨hg7, rfl, bA1, bn1, bc1, lA1, ln1, lc1, hB7, hR7⟩; have hb7 := Lib.hid (hb6.out.grown hg7 hb6.out.size (fun k hk => by cases hk; exact Nat.le_refl _))))
                go_roundw
                case rel => exact ⟨k + 1, A1, bA1, bn1, bc1, lA1, ln1, lc1, by omega, hstep.out.trans hp, hB7, hR7, (hg7.block _ (by omega) (by simp)).trans hit6, hb7.out⟩
                case measure =>
                  rw [iterAt_of ((hg7.block _ (by omega) (by simp)).trans hit6), iterAt_of HIT2.out]
                  omega
            · obtain rfl : k = fs.length := by omega
              rw [List.take_length] at hpf
              have hnlt2 : ¬ fs.length < (str fs).size := by rw [hszf]; omega
              have hpg : Hid (parseG pF x = if badA A = false ∧ printT A = x then some A else none) := by rw [hPG'.out, hpf]; trivial
              have hpr := Lib.hid (Print_calls A bA bn bc lA ln lc wr HRX.out.rd (hHS.out A hpf) (hLq.out.below HB.out))
              have hagA : Hid (AggT Tryd.prog 64 (ak A (.slice bA bn bc) (.slice lA ln lc)).toList.length) := by rw [Array.length_toList, ak_size _ _ _ HRX.out.1]; exact Tryd.agg64
              have hag := Lib.hid (fun W (hW : Below wr.heap.size wr W) => cellsAt_blk (HBG.out.below hW HBG.out.lt))
              have hBz := Lib.hid (fun W (hW : Below wr.heap.size wr W) => (hBq.out.below HB.out hBq.out.lt).below hW (Nat.lt_of_lt_of_le hBq.out.lt HB.out.size))
              clear hPG' hHP hHS hasc h22
              cases hbd : badA A with
              | true =>
                have hv := printV_bad A hbd
                rw [hv] at hpr
                have hpb : Hid (parseG pF x = none) := by rw [hpg.out, if_neg (by rw [hbd]; simp)]; trivial
                clear hv hpg hbd
                go_wp2_with (first | (refine wpList_nextE rfl (.tmp 52) rfl (wq.heap.size + 1) rfl (str fs) fs.length HIT2.out hnlt2 ?_) | (refine wpList_loadAgg rfl 64 _ rfl wq.heap.size 0 rfl _ hagA.out (hag.out _ (by first | exact Below.refl _ _ | exact hb8.out)) ?_) | (go_at_call 35; refine hpr.out.mono ?_; rintro e w7 ⟨rfl, hb7'⟩; have hb8 := Lib.hid hb7'; have hb7 := Lib.hid (HB.out.trans (hb7'.mono HB.out.size)); have hB7 := Lib.hid (hBz.out _ hb7')) | (refine wpList_build rfl 64 #[] rfl (.agg (zk 0)) (by kernel_rfl) ?_) | (refine wpList_storeAgg rfl rfl 64 _ _ rfl w.heap.size 0 rfl (zk 0) rfl hT0.out (hB7.out.room 0 _ (by omega)) (zk_oneCell 0) ?_))
                have hfb := hB7.out.setCells (zk 0).toList 0 (by rw [Array.length_toList]; omega)
                rw [ovw_all _ _ (by rw [Array.length_toList])] at hfb
                exact bodyPost_ret (results_agg_tmp rfl _ _ w.heap.size (zk 0) rfl hT0.out (cellsAt_blk hfb)) rfl ⟨below_setCells (hWq.out.trans (hb7.out.mono hWq.out.size)) _ _ _ (Nat.le_refl _), .inl ⟨hpb.out, rfl⟩⟩
              | false =>
                have hv := printV_ok A hbd
                rw [hv] at hpr
                by_cases hpx : printT A = x
                · have hcmp : ((str (printT A)).toList != (str x).toList) = false := by rw [str_list, str_list, hpx]; simp
                  have hcmp2 : ((str (printT A)).toList == (str x).toList) = true := by rw [str_list, str_list, hpx]; simp
                  have hcmp3 : (str (printT A)).toList = (str x).toList := by rw [str_list, str_list, hpx]
                  have hpb : Hid (parseG pF x = some A) := by rw [hpg.out, if_pos ⟨hbd, hpx⟩]; trivial
                  have hpA : Hid (AggT Tryd.prog 64 (ak A (.slice bA bn bc) (.slice lA ln lc)).size) := by rw [ak_size _ _ _ HRX.out.1]; exact Tryd.agg64
                  have hsA2 : (ak A (.slice bA bn bc) (.slice lA ln lc)).size = 121 := ak_size _ _ _ HRX.out.1
                  have hz0 : (zk 0).size = 121 := zk_size 0
                  clear hv hpg hbd hpx
                  go_wp2_with (first | (refine wpList_nextE rfl (.tmp 52) rfl (wq.heap.size + 1) rfl (str fs) fs.length HIT2.out hnlt2 ?_) | (refine wpList_loadAgg rfl 64 _ rfl wq.heap.size 0 rfl _ hagA.out (hag.out _ (by first | exact Below.refl _ _ | exact hb8.out)) ?_) | (go_at_call 35; refine hpr.out.mono ?_; rintro e w7 ⟨rfl, hb7'⟩; have hb8 := Lib.hid hb7'; have hb7 := Lib.hid (HB.out.trans (hb7'.mono HB.out.size)); have hB7 := Lib.hid (hBz.out _ hb7')) | (refine wpList_storeAgg rfl rfl 64 _ _ rfl w.heap.size 0 rfl (ak A (.slice bA bn bc) (.slice lA ln lc)) rfl hpA.out (hB7.out.room 0 _ (by omega)) (ak_oneCell _ _ _ _ _ _ _) ?_))
                  have hfb := hB7.out.setCells (ak A (.slice bA bn bc) (.slice lA ln lc)).toList 0 (by rw [Array.length_toList]; omega)
                  rw [ovw_all _ _ (by rw [Array.length_toList]; omega)] at hfb
                  refine bodyPost_ret (results_agg_tmp rfl _ _ w.heap.size (ak A (.slice bA bn bc) (.slice lA ln lc)) rfl hpA.out (cellsAt_blk hfb)) rfl ⟨below_setCells (hWq.out.trans (hb7.out.mono hWq.out.size)) _ _ _ (Nat.le_refl _), .inr ⟨A, bA, bn, bc, lA, ln, lc, hpb.out, rfl, ?_⟩⟩
                  exact ((HRX.out.keeps (KeepsLo.below hb8.out)).keeps ⟨by rw [setCells_size]; exact Nat.le_refl _, fun i h1 _ => heap_setCells_other _ _ _ _ _ (by have := hBq.out.lt; omega)⟩).rd
                · have hcmp : ((str (printT A)).toList != (str x).toList) = true := by rw [str_list, str_list]; simpa using hpx
                  have hcmp2 : ((str (printT A)).toList == (str x).toList) = false := by rw [str_list, str_list]; simpa using hpx
                  have hcmp3 : ¬ (str (printT A)).toList = (str x).toList := by rw [str_list, str_list]; exact hpx
                  have hpb : Hid (parseG pF x = none) := by rw [hpg.out, if_neg (fun h => hpx h.2)]; trivial
                  clear hv hpg hbd hpx
                  go_wp2_with (first | (refine wpList_nextE rfl (.tmp 52) rfl (wq.heap.size + 1) rfl (str fs) fs.length HIT2.out hnlt2 ?_) | (refine wpList_loadAgg rfl 64 _ rfl wq.heap.size 0 rfl _ hagA.out (hag.out _ (by first | exact Below.refl _ _ | exact hb8.out)) ?_) | (go_at_call 35; refine hpr.out.mono ?_; rintro e w7 ⟨rfl, hb7'⟩; have hb8 := Lib.hid hb7'; have hb7 := Lib.hid (HB.out.trans (hb7'.mono HB.out.size)); have hB7 := Lib.hid (hBz.out _ hb7')) | (refine wpList_build rfl 64 #[] rfl (.agg (zk 0)) (by kernel_rfl) ?_) | (refine wpList_storeAgg rfl rfl 64 _ _ rfl w.heap.size 0 rfl (zk 0) rfl hT0.out (hB7.out.room 0 _ (by omega)) (zk_oneCell 0) ?_))
                  have hfb := hB7.out.setCells (zk 0).toList 0 (by rw [Array.length_toList]; omega)
                  rw [ovw_all _ _ (by rw [Array.length_toList])] at hfb
                  exact bodyPost_ret (results_agg_tmp rfl _ _ w.heap.size (zk 0) rfl hT0.out (cellsAt_blk hfb)) rfl ⟨below_setCells (hWq.out.trans (hb7.out.mono hWq.out.size)) _ _ _ (Nat.le_refl _), .inl ⟨hpb.out, rfl⟩⟩
        · have hq : ((ws.length : Int) + 1 != 1 + (fs.length : Int)) = true := by simp; omega
          have hpb : Hid (parseG pF x = none) := by rw [hPG.out, if_neg (by intro h; exact hlen h.2)]; trivial
          clear hPG hHP hHS hlen
          go_quiet (fail)
          go_wp2_with (first | (refine wpList_build rfl 64 #[] rfl (.agg (zk 0)) (by kernel_rfl) ?_) | (refine wpList_storeAgg rfl rfl 64 _ _ rfl w.heap.size 0 rfl (zk 0) rfl hT0.out ((hB5.out.drewN nq).room 0 _ (by omega)) (zk_oneCell 0) ?_))
          have hfb := (hB5.out.drewN nq).setCells (zk 0).toList 0 (by rw [Array.length_toList]; omega)
          rw [ovw_all _ _ (by rw [Array.length_toList])] at hfb
          exact bodyPost_ret (results_agg_tmp rfl _ _ w.heap.size (zk 0) rfl hT0.out (cellsAt_blk hfb)) rfl ⟨below_setCells (hw5.out.trans (drawn_below' _ _ _ hw5.out.size)) _ _ _ (Nat.le_refl _), .inl ⟨hpb.out, rfl⟩⟩
end Go.Proofs.YtfjfjjcdlgdbcaaDoor
namespace Go.Proofs.YtfjfjjcdlgdbcaaDoor
open Go.RowKit
set_option linter.unusedSimpArgs false
set_option linter.unusedVariables false

theorem zAct_small (k : Int) : (zAct k).Small := ⟨by simp [zAct], by simp [zAct], by simp [zAct]⟩
theorem prune_text : printT (zAct 22) = [112, 114, 117, 110, 101, 32, 46] := by decide
theorem prune_good : badA (zAct 22) = false := by decide
theorem prune_V : printV (zAct 22) = .tuple #[.string (str [112, 114, 117, 110, 101, 32, 46]), .int .i64 0] := by rw [printV_ok _ prune_good, prune_text]
theorem kind_commit : kindOf [99, 111, 109, 109, 105, 116] = 10 := kindOf_at _ 10 (by omega) (fun j hj => by
  have : ∀ j : Fin 10, decide ((kt.getD j.val ([], [])).1 ≠ [] ∧ (kt.getD j.val ([], [])).1 = [99, 111, 109, 109, 105, 116]) = false := by decide
  exact this ⟨j, hj⟩) (by decide)
theorem parse_commit (pF : ActP → UInt8 → List UInt8 → Option ActP) : parseG pF [99, 111, 109, 109, 105, 116] = some (zAct 10) := by
  rw [parseG_at pF _ [99, 111, 109, 109, 105, 116] [] (by decide) (by decide), kind_commit]
  rw [if_pos (by decide)]
  show (match some (zAct 10) with | none => none | some A => if badA A = false ∧ printT A = [99, 111, 109, 109, 105, 116] then some A else none) = some (zAct 10)
  simp only
  rw [if_pos (by decide)]
theorem Parse_commit (w : World) (hL : LaidW w) : Calls Tryd.prog 37 #[.string (str [99, 111, 109, 109, 105, 116])] w fun e w' => Below w.heap.size w w' ∧ ∃ bA bn bc lA ln lc, e = .returned (.tuple #[.agg (ak (zAct 10) (.slice bA bn bc) (.slice lA ln lc)), .int .i64 0]) := by
  have hs : (splitL 32 [99, 111, 109, 109, 105, 116]).headD [] = [99, 111, 109, 109, 105, 116] := by decide
  refine (Parse_callsG (fun _ _ _ => none) [99, 111, 109, 109, 105, 116] w hL (by decide) (fun c hc => ?_) (fun A hA => ?_)).mono fun e w' ⟨hb, h⟩ => ⟨hb, ?_⟩
  · rw [hs, kind_commit] at hc
    have : kf 10 = [] := by decide
    rw [this] at hc
    cases hc
  · rw [hs, kind_commit] at hA
    have : A = zAct 10 := (Option.some.inj hA).symm
    rw [this]
    exact zAct_small 10
  · rw [parse_commit] at h
    rcases h with ⟨h, _⟩ | ⟨A, bA, bn, bc, lA, ln, lc, h, he, _⟩
    · cases h
    · obtain rfl := Option.some.inj h
      exact ⟨bA, bn, bc, lA, ln, lc, he⟩

set_option maxRecDepth 100000 in
set_option maxHeartbeats 4000000 in
theorem known20_calls (w : World) (hL : LaidW w) : Calls Tryd.prog 33 #[] w fun e w' => e = .returned (.bool true) ∧ Below w.heap.size w w' := by
  have hp := Lib.hid (Print_calls (zAct 22) none 0 0 none 0 0 w ⟨zAct_fit 22 (by omega) (by omega), (RdBx.nil w 0).1, (RdKVx.nil w 0).1⟩ (zAct_small 22) hL)
  have hq := Lib.hid (fun W (hW : Below w.heap.size w W) => Parse_commit W (hL.below hW))
  rw [prune_V] at hp
  have hs1 : ((str [112, 114, 117, 110, 101, 32, 46]).toList == [112, 114, 117, 110, 101, 32, 46]) = true := by rw [str_list]; decide
  have hTA := fun b l => (show Hid (AggT Tryd.prog 64 (ak (zAct 10) b l).size) by rw [ak_size _ _ _ (zAct_fit 10 (by omega) (by omega))]; exact Tryd.agg64)
  have hA0 := fun b l => ak_0 (zAct 10) b l
  have hsz := fun b l => Lib.hid (ak_size (zAct 10) b l (zAct_fit 10 (by omega) (by omega)))
  have hk10 : (zAct 10).kind = 10 := rfl
  clear hL
  go_enter Tryd.func33, Tryd.ntmps33
  go_wp2_with (first | (refine wpList_build rfl 64 #[(0, .const (.int .i64 22))] rfl (.agg (ak (zAct 22) (.slice none 0 0) (.slice none 0 0))) (by kernel_rfl) ?_) | (go_at_call 35; refine hp.out.mono ?_; rintro e w1 ⟨rfl, hb1⟩) | (go_at_call 37; refine (hq.out _ hb1).mono ?_; rintro e w2 ⟨hb2, bA, bn, bc, lA, ln, lc, rfl⟩) | (refine wpList_storeNew rfl rfl 64 _ _ rfl _ _ rfl (ak (zAct 10) (.slice bA bn bc) (.slice lA ln lc)) rfl (hTA _ _).out (by rw [(hsz _ _).out]; rfl) (ak_oneCell _ _ _ _ _ _ _) ?_))
  go_ret
  exact ⟨rfl, al (thn hb1 hb2) _⟩

set_option maxRecDepth 100000 in
set_option maxHeartbeats 4000000 in
theorem archivePrints_walk (A : ActP) (bA : Option Addr) (bn bc : Nat) (lA : Option Addr) (ln lc : Nat) (w : World) (h : RdAct w A bA bn bc lA ln lc) (hH : A.Held) (hL : LaidW w) :
    Calls Tryd.prog 9 #[.agg (ak A (.slice bA bn bc) (.slice lA ln lc))] w fun e w' => e = .returned (.bool true) ∧ Below w.heap.size w w' := by
  have hw0 : Below w.heap.size w (w.alloc (.cells (ak A (.slice bA bn bc) (.slice lA ln lc)) 64)) := al (Below.refl _ _) _
  have hB0 := Lib.hid (Blk.new w 64 (ak A (.slice bA bn bc) (.slice lA ln lc)))
  have hR := Lib.hid (fun W (hW : Below w.heap.size w W) => h.below hW)
  have hLL := Lib.hid (fun W (hW : Below w.heap.size w W) => hL.below hW)
  have hk := Lib.hid (fun W (hW : Below w.heap.size w W) => known20_calls W (hL.below hW))
  have hf := Lib.hid (fun W (hW : Below w.heap.size w W) => few20_calls A bA bn bc lA ln lc W (h.below hW) hH)
  have hT : Hid (AggT Tryd.prog 64 (ak A (.slice bA bn bc) (.slice lA ln lc)).toList.length) := by rw [Array.length_toList, ak_size _ _ _ h.1]; exact Tryd.agg64
  have hag := Lib.hid (fun W (hW : Below (w.alloc (.cells (ak A (.slice bA bn bc) (.slice lA ln lc)) 64)).heap.size (w.alloc (.cells (ak A (.slice bA bn bc) (.slice lA ln lc)) 64)) W) => cellsAt_blk (hB0.out.below hW hB0.out.lt))
  have hW0 := Lib.hid hw0
  clear h hL hw0
  obtain ⟨w0, hw0⟩ : ∃ w0, w0 = w.alloc (.cells (ak A (.slice bA bn bc) (.slice lA ln lc)) 64) := ⟨_, rfl⟩
  rw [← hw0] at hB0 hag hW0
  have LA : ∀ W, Below w0.heap.size w0 W → Below w.heap.size w W := fun W hW => thn hW0.out hW
  by_cases hS : A.Small
  · have hpr := Lib.hid (fun W (hW : Below w.heap.size w W) => Print_calls A bA bn bc lA ln lc W (hR.out W hW) hS (hLL.out W hW))
    have hpr2 := Lib.hid (fun W (hW : Below w.heap.size w W) => Print20_calls A bA bn bc lA ln lc W (hR.out W hW) hS)
    have hpv : ∃ s n, printV A = .tuple #[.string s, .int .i64 n] := by
      unfold printV
      split
      · exact ⟨_, _, rfl⟩
      · exact ⟨_, _, rfl⟩
    obtain ⟨s, n, hpv⟩ := hpv
    rw [hpv] at hpr hpr2
    clear hpv hS
    have hss : (s.toList == s.toList) = true := by simp
    go_enter Tryd.func9, Tryd.ntmps9
    go_wp2_with (first | (go_at_call 33; rw [← hw0]; refine (hk.out _ hW0.out).mono ?_; rintro e w1 ⟨rfl, hb1⟩) | (refine wpList_loadAgg rfl 64 _ rfl w.heap.size 0 rfl _ hT.out (hag.out _ (by first | exact thn (thn (thn hb1 hb2) hb3) (Below.refl _ _) | exact thn (thn hb1 hb2) (Below.refl _ _) | exact thn hb1 (Below.refl _ _))) ?_) | (go_at_call 34; refine (hf.out _ (LA _ hb1)).mono ?_; rintro e w2 ⟨⟨b, rfl, hsm⟩, hb2⟩) | (go_at_call 35; refine (hpr.out _ (LA _ (thn hb1 hb2))).mono ?_; rintro e w3 ⟨rfl, hb3⟩) | (go_at_call 36; refine (hpr2.out _ (LA _ (thn (thn hb1 hb2) hb3))).mono ?_; rintro e w4 ⟨rfl, hb4⟩))
    · go_ret
      exact ⟨rfl, LA _ (thn hb1 hb2)⟩
    · go_ret
      exact ⟨rfl, LA _ (thn (thn (thn hb1 hb2) hb3) hb4)⟩
  · go_enter Tryd.func9, Tryd.ntmps9
    go_wp2_with (first | (go_at_call 33; rw [← hw0]; refine (hk.out _ hW0.out).mono ?_; rintro e w1 ⟨rfl, hb1⟩) | (refine wpList_loadAgg rfl 64 _ rfl w.heap.size 0 rfl _ hT.out (hag.out _ (thn hb1 (Below.refl _ _))) ?_) | (go_at_call 34; refine (hf.out _ (LA _ hb1)).mono ?_; rintro e w2 ⟨⟨b, rfl, hsm⟩, hb2⟩; obtain rfl : b = false := by (cases b; rfl; exact absurd (hsm rfl).small hS)))
    go_ret
    exact ⟨rfl, LA _ (thn hb1 hb2)⟩
end Go.Proofs.YtfjfjjcdlgdbcaaDoor
