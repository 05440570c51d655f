/- archive.Parse, as far as its fields are parsed -/
import Derived.Test.YtfjfjjcdlgdbcaaDoorE12
namespace Go.Proofs.YtfjfjjcdlgdbcaaDoor
open Go.RowKit
set_option linter.unusedSimpArgs false
set_option linter.unusedVariables false

/-- bytes, a list, an act in memory beyond a block -/
def RdBx (w : World) (lo : Nat) (A : Option Addr) (n c : Nat) (xs : List UInt8) : Prop := RdB w A n c xs ∧ ∀ ad, A = some ad → lo ≤ ad.block ∧ ad.block < w.heap.size
def RdKVx (w : World) (lo : Nat) (A : Option Addr) (n c : Nat) (kvs : List (List UInt8 × List UInt8)) : Prop :=
  RdKV w A n c kvs ∧ (∀ ad, A = some ad → lo ≤ ad.block ∧ ad.block < w.heap.size) ∧ (∀ (g o : Nat), A = some ⟨g, o, none⟩ → ∀ (j : Nat) kv, kvs[j]? = some kv → ∃ B m d B' m' d', w.cell? ⟨g, o + j * 2, none⟩ = some (.slice B m d) ∧ RdBx w lo B m d kv.1 ∧ w.cell? ⟨g, o + j * 2 + 1, none⟩ = some (.slice B' m' d') ∧ RdBx w lo B' m' d' kv.2) ∧ (kvs = [] → A = none ∧ c = 0)
def RdActX (w : World) (lo : Nat) (A : ActP) (bA : Option Addr) (bn bc : Nat) (lA : Option Addr) (ln lc : Nat) : Prop := A.Fit ∧ RdBx w lo bA bn bc A.b ∧ RdKVx w lo lA ln lc A.l
theorem RdActX.rd {w : World} {lo : Nat} {A : ActP} {bA : Option Addr} {bn bc : Nat} {lA : Option Addr} {ln lc : Nat} (h : RdActX w lo A bA bn bc lA ln lc) : RdAct w A bA bn bc lA ln lc := ⟨h.1, h.2.1.1, h.2.2.1⟩
/-- blocks from lo on lie as they lay -/
def KeepsLo (lo : Nat) (w w' : World) : Prop := w.heap.size ≤ w'.heap.size ∧ ∀ i, lo ≤ i → i < w.heap.size → w'.heap[i]? = w.heap[i]?
theorem cell_of_heap {w w' : World} {a : Addr} (h : w'.heap[a.block]? = w.heap[a.block]?) : w'.cell? a = w.cell? a := by
  unfold World.cell?
  rw [h]
theorem KeepsLo.cell {lo : Nat} {w w' : World} (h : KeepsLo lo w w') {a : Addr} (h1 : lo ≤ a.block) (h2 : a.block < w.heap.size) : w'.cell? a = w.cell? a := cell_of_heap (h.2 _ h1 h2)
theorem KeepsLo.grown {lo : Nat} {w w' : World} {g : Nat} (h : w.grownBy w' (some g)) (hg : g < lo) : KeepsLo lo w w' := ⟨h.size, fun i h1 h2 => h.block i h2 (by simp; omega)⟩
theorem KeepsLo.below {lo : Nat} {w w' : World} (h : Below w.heap.size w w') : KeepsLo lo w w' := ⟨h.size, fun i _ h2 => h.block i h2⟩
theorem add_block (ad : Addr) (j : Nat) : (ad.add j).block = ad.block := by unfold Addr.add; split <;> rfl
theorem RdBx.keeps {w w' : World} {lo : Nat} {A : Option Addr} {n c : Nat} {xs : List UInt8} (h : RdBx w lo A n c xs) (hk : KeepsLo lo w w') : RdBx w' lo A n c xs := by
  obtain ⟨⟨h1, h2, h3, h4⟩, h5⟩ := h
  refine ⟨⟨h1, h2, h3, fun hn => ?_⟩, fun ad e => ⟨(h5 ad e).1, Nat.lt_of_lt_of_le (h5 ad e).2 hk.1⟩⟩
  obtain ⟨ad, e, hc⟩ := h4 hn
  refine ⟨ad, e, fun j u hu => ?_⟩
  rw [hk.cell (by rw [add_block]; exact (h5 ad e).1) (by rw [add_block]; exact (h5 ad e).2)]
  exact hc j u hu
theorem RdKVx.keeps {w w' : World} {lo : Nat} {A : Option Addr} {n c : Nat} {kvs : List (List UInt8 × List UInt8)} (h : RdKVx w lo A n c kvs) (hk : KeepsLo lo w w') : RdKVx w' lo A n c kvs := by
  obtain ⟨⟨h1, h2, h3, h4⟩, h5, h6, h7⟩ := h
  have key : ∀ (g o : Nat), A = some ⟨g, o, none⟩ → ∀ (j : Nat) kv, kvs[j]? = some kv → ∃ B m d B' m' d', w'.cell? ⟨g, o + j * 2, none⟩ = some (.slice B m d) ∧ RdBx w' lo B m d kv.1 ∧ w'.cell? ⟨g, o + j * 2 + 1, none⟩ = some (.slice B' m' d') ∧ RdBx w' lo B' m' d' kv.2 := by
    intro g o e j kv hj
    obtain ⟨B, m, d, B', m', d', a1, a2, a3, a4⟩ := h6 g o e j kv hj
    have hb := h5 _ e
    exact ⟨B, m, d, B', m', d', by rw [hk.cell (a := ⟨g, o + j * 2, none⟩) hb.1 hb.2]; exact a1, a2.keeps hk, by rw [hk.cell (a := ⟨g, o + j * 2 + 1, none⟩) hb.1 hb.2]; exact a3, a4.keeps hk⟩
  refine ⟨⟨h1, h2, h3, fun hn => ?_⟩, fun ad e => ⟨(h5 ad e).1, Nat.lt_of_lt_of_le (h5 ad e).2 hk.1⟩, key, h7⟩
  obtain ⟨g, o, e, hc⟩ := h4 hn
  refine ⟨g, o, e, fun j kv hj => ?_⟩
  obtain ⟨B, m, d, B', m', d', a1, a2, a3, a4⟩ := key g o e j kv hj
  exact ⟨B, m, d, B', m', d', a1, a2.1, a3, a4.1⟩
theorem RdActX.keeps {w w' : World} {lo : Nat} {A : ActP} {bA : Option Addr} {bn bc : Nat} {lA : Option Addr} {ln lc : Nat} (h : RdActX w lo A bA bn bc lA ln lc) (hk : KeepsLo lo w w') : RdActX w' lo A bA bn bc lA ln lc :=
  ⟨h.1, h.2.1.keeps hk, h.2.2.keeps hk⟩
theorem RdBx.nil (w : World) (lo : Nat) : RdBx w lo none 0 0 [] := ⟨⟨rfl, Nat.le_refl _, by unfold maxLen; omega, fun h => absurd h (by omega)⟩, fun ad e => by cases e⟩
theorem RdKVx.nil (w : World) (lo : Nat) : RdKVx w lo none 0 0 [] := ⟨⟨rfl, Nat.le_refl _, by unfold maxLen; omega, fun h => absurd h (by omega)⟩, (fun ad e => by cases e), (fun g o e => by cases e), fun _ => ⟨rfl, rfl⟩⟩

/-- what the fields parse to, one behind the other -/
def parseFs (pF : ActP → UInt8 → List UInt8 → Option ActP) : ActP → List UInt8 → List (List UInt8) → Option ActP
  | A, [], _ => some A
  | A, c :: cs, ws => match pF A c (ws.headD []) with
    | none => none
    | some A' => parseFs pF A' cs ws.tail
theorem parseFs_take (pF : ActP → UInt8 → List UInt8 → Option ActP) : ∀ (fs : List UInt8) (ws : List (List UInt8)) (A A' : ActP) (k : Nat) (hk : k < fs.length), parseFs pF A (fs.take k) ws = some A' →
    parseFs pF A (fs.take (k + 1)) ws = pF A' (fs.getD k 0) (ws.getD k [])
  | c :: fs, ws, A, A', 0, _, h => by
    simp only [List.take_zero, parseFs, Option.some.injEq] at h
    subst h
    cases ws with
    | nil => simp [parseFs]; cases pF A c [] <;> rfl
    | cons x ws => simp [parseFs]; cases pF A c x <;> rfl
  | c :: fs, ws, A, A', k + 1, hk, h => by
    simp only [List.take_succ_cons, parseFs] at h ⊢
    cases hp : pF A c (ws.headD []) with
    | none => rw [hp] at h; cases h
    | some A1 =>
      rw [hp] at h
      have := parseFs_take pF fs ws.tail A1 A' k (by simpa using hk) h
      simp only [hp]
      rw [this]
      cases ws <;> simp
theorem parseFs_none (pF : ActP → UInt8 → List UInt8 → Option ActP) : ∀ (fs : List UInt8) (ws : List (List UInt8)) (A : ActP) (k : Nat), parseFs pF A (fs.take k) ws = none → parseFs pF A fs ws = none
  | [], ws, A, k, h => by simpa using h
  | c :: fs, ws, A, 0, h => by simp [parseFs] at h
  | c :: fs, ws, A, k + 1, h => by
    simp only [List.take_succ_cons, parseFs] at h ⊢
    cases hp : pF A c (ws.headD []) with
    | none => rfl
    | some A1 =>
      rw [hp] at h
      exact parseFs_none pF fs ws.tail A1 k h
def okByte (b : UInt8) : Bool := decide (32 ≤ b.toNat ∧ b.toNat ≤ 126)
def parseG (pF : ActP → UInt8 → List UInt8 → Option ActP) (line : List UInt8) : Option ActP :=
  if line.all okByte = true then
    if 0 ≤ kindOf ((splitL 32 line).headD []) ∧ (splitL 32 line).length = 1 + (kf (kindOf ((splitL 32 line).headD []))).length then
      match parseFs pF (zAct (kindOf ((splitL 32 line).headD []))) (kf (kindOf ((splitL 32 line).headD []))) (splitL 32 line).tail with
      | none => none
      | some A => if badA A = false ∧ printT A = line then some A else none
    else none
  else none
/-- archive.parsed does what pF says, at a field and a word -/
def ParsedAt (pF : ActP → UInt8 → List UInt8 → Option ActP) (c : UInt8) (s : List UInt8) : Prop :=
  ∀ (A : ActP) (bA : Option Addr) (bn bc : Nat) (lA : Option Addr) (ln lc : Nat) (g lo : Nat) (W : World), g < lo → lo ≤ W.heap.size → Blk W g 64 (ak A (.slice bA bn bc) (.slice lA ln lc)) → RdActX W lo A bA bn bc lA ln lc → LaidW W → (c = 108 → A.l = []) →
    Calls Tryd.prog 73 #[.pointer (some ⟨g, 0, none⟩), .int .i32 (c.toNat : Int), .string (str s)] W fun e W' => W.grownBy W' (some g) ∧
      ((e = .returned (.bool false) ∧ pF A c s = none) ∨ (e = .returned (.bool true) ∧ ∃ A' bA' bn' bc' lA' ln' lc', pF A c s = some A' ∧ Blk W' g 64 (ak A' (.slice bA' bn' bc') (.slice lA' ln' lc')) ∧ RdActX W' lo A' bA' bn' bc' lA' ln' lc'))
/-- an act that was read, or none -/
def ParseEnd (w : World) (r : Option ActP) (e : Ending) (w' : World) : Prop := Below w.heap.size w w' ∧
  ((r = none ∧ e = .returned (.tuple #[.agg (zk 0), .int .i64 203])) ∨ ∃ A bA bn bc lA ln lc, r = some A ∧ e = .returned (.tuple #[.agg (ak A (.slice bA bn bc) (.slice lA ln lc)), .int .i64 0]) ∧ RdAct w' A bA bn bc lA ln lc)
end Go.Proofs.YtfjfjjcdlgdbcaaDoor
