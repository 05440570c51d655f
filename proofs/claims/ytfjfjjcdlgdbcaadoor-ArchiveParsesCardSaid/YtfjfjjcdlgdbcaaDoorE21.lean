/- archive.parsed at fields of fixed length, at numbers, at bytes -/
import Derived.Test.YtfjfjjcdlgdbcaaDoorE16
import Derived.Test.YtfjfjjcdlgdbcaaDoorE19
import Derived.Test.YtfjfjjcdlgdbcaaDoorE20
namespace Go.Proofs.YtfjfjjcdlgdbcaaDoor
open Go.RowKit
set_option linter.unusedSimpArgs false
set_option linter.unusedVariables false

theorem gr_below {g : Nat} {W w : World} (h : Below W.heap.size W w) : W.grownBy w (some g) := ⟨h.os, h.tape, h.output, h.size, fun i hi _ => h.block i hi⟩
theorem gr_setCells {g : Nat} {W w : World} (h : W.grownBy w (some g)) (off : Nat) (vs : List Value) : W.grownBy (w.setCells g off vs) (some g) := by
  have hb := below_setCells (B := 0) (Below.refl 0 w) g off vs (Nat.zero_le _)
  refine ⟨hb.os.trans h.os, hb.tape.trans h.tape, hb.output.trans h.output, Nat.le_trans h.size hb.size, fun i hi hne => ?_⟩
  rw [heap_setCells_other vs off w g i (by intro e; exact hne (by rw [e]))]
  exact h.block i hi hne
theorem gr_setCell {g : Nat} {W w : World} (h : W.grownBy w (some g)) (off : Nat) (v : Value) : W.grownBy (w.setCell ⟨g, off, none⟩ v) (some g) := gr_setCells h off [v]
theorem gr_new {g : Nat} {W w : World} (h : W.grownBy w (some g)) (b : Nat) (v : Value) (hb : W.heap.size ≤ b) : W.grownBy (w.setCell ⟨b, 0, none⟩ v) (some g) := by
  have h0 := below_setCells (B := 0) (Below.refl 0 w) b 0 [v] (Nat.zero_le _)
  refine ⟨h0.os.trans h.os, h0.tape.trans h.tape, h0.output.trans h.output, Nat.le_trans h.size h0.size, fun i hi hne => ?_⟩
  rw [Below.heap_setCell w ⟨b, 0, none⟩ v i (by show i ≠ b; omega)]
  exact h.block i hi hne
theorem gr_then {g : Nat} {W w w' : World} (h : W.grownBy w (some g)) (k : Below w.heap.size w w') : W.grownBy w' (some g) :=
  ⟨k.os.trans h.os, k.tape.trans h.tape, k.output.trans h.output, Nat.le_trans h.size k.size, fun i hi hne => (k.block i (Nat.lt_of_lt_of_le hi h.size)).trans (h.block i hi hne)⟩
theorem ovw_mid (xs a a' r : List Value) (h : a'.length = a.length) : ovw (xs ++ (a ++ r)).toArray xs.length a' = (xs ++ (a' ++ r)).toArray := by
  unfold ovw
  congr 1
  rw [h]
  simp [List.take_append, List.drop_append]
theorem ovw_at (o : Nat) (xs a a' r : List Value) (ho : xs.length = o) (h : a'.length = a.length) : ovw (xs ++ (a ++ r)).toArray o a' = (xs ++ (a' ++ r)).toArray := by
  subst ho; exact ovw_mid xs a a' r h
theorem LaidW.set {W : World} (h : LaidW W) {g : Nat} {t : TypeId} {cs : Array Value} (hB : Blk W g t cs) (hs : cs.size = 121) (off : Nat) (ho : 1 ≤ off) (v : Value) : LaidW (W.setCell ⟨g, off, none⟩ v) := by
  have hcell : ∀ b u, W.cell? ⟨b, 0, none⟩ = some u → (W.setCell ⟨g, off, none⟩ v).cell? ⟨b, 0, none⟩ = some u := by
    intro b u hu
    by_cases e : b = g
    · subst e
      have hB2 := hB.set_ off v
      rw [hB.cell] at hu
      rw [hB2.cell, Array.getElem?_setIfInBounds, if_neg (by omega)]
      exact hu
    · rw [← hu]
      unfold World.cell?
      rw [Below.heap_setCell W ⟨g, off, none⟩ v b e]
  obtain ⟨h1, ⟨m, h2⟩, ⟨e2, h3, h3'⟩, ⟨e3, h4, h4'⟩⟩ := h
  refine ⟨?_, ⟨m, hcell _ _ h2⟩, ⟨e2, hcell _ _ h3, h3'⟩, ⟨e3, hcell _ _ h4, h4'⟩⟩
  unfold Lib.TabIs World.var? at h1 ⊢
  have hg : Tryd.prog.globalNamed "internal/strconv.uint64pow10" = some 0 := by kernel_rfl
  rw [hg] at h1 ⊢
  simp only [Option.bind_some] at h1 ⊢
  have hne : (0 : Nat) ≠ g := by
    intro e
    subst e
    unfold Blk at hB
    rw [hB] at h1
    have h5 := congrArg Array.size (Option.some.inj h1)
    rw [hs] at h5
    simp [Lib.pow10Tab] at h5
  rw [Below.heap_setCell W ⟨g, off, none⟩ v 0 hne]
  exact h1

/-- the keys of parts -/
def keysP : List (List UInt8) → Option (List (List UInt8 × List UInt8))
  | [] => some []
  | p :: ps => if (undigL p).2 = true ∧ p ≠ [46] then (keysP ps).map (((undigL p).1, []) :: ·) else none
/-- what a field is read as -/
def pF (A : ActP) (c : UInt8) (s : List UInt8) : Option ActP :=
  if c = 97 then (if (undigL s).2 = true ∧ (undigL s).1.length = 20 then some { A with addr := (undigL s).1 } else none)
  else if c = 107 then (if (undigL s).2 = true ∧ (undigL s).1.length = 32 then some { A with key := (undigL s).1 } else none)
  else if c = 119 then (if (undigL s).2 = true ∧ (undigL s).1.length = 32 then some { A with word := (undigL s).1 } else none)
  else if c = 114 then (if (undigL s).2 = true ∧ (undigL s).1.length = 32 then some { A with root := (undigL s).1 } else none)
  else if c = 110 then (numL s).map fun n => { A with n := n }
  else if c = 109 then (numL s).map fun n => { A with m := n }
  else if c = 98 then (if (undigL s).2 = true then some { A with b := (undigL s).1 } else none)
  else if s = [46] then some A else (keysP (splitL 44 s)).map fun l => { A with l := A.l ++ l }
theorem ovw_addr (A : ActP) (b l : Value) (xs : List UInt8) (h : A.Fit) (hx : xs.length = 20) : ovw (ak A b l) 1 (bvs xs) = ak { A with addr := xs } b l := by
  have := ovw_at 1 ([Value.int .i64 A.kind]) (bvs A.addr) (bvs xs) (bvs A.key ++ (bvs A.word ++ (bvs A.root ++ [.int .i64 A.n, .int .i64 A.m, b, l]))) (by simp [bvs_length, h.ha, h.hk, h.hw, h.hr]) (by rw [bvs_length, bvs_length, hx, h.ha])
  simpa [ak, List.append_assoc] using this
theorem ovw_key (A : ActP) (b l : Value) (xs : List UInt8) (h : A.Fit) (hx : xs.length = 32) : ovw (ak A b l) 21 (bvs xs) = ak { A with key := xs } b l := by
  have := ovw_at 21 ([Value.int .i64 A.kind] ++ bvs A.addr) (bvs A.key) (bvs xs) (bvs A.word ++ (bvs A.root ++ [.int .i64 A.n, .int .i64 A.m, b, l])) (by simp [bvs_length, h.ha, h.hk, h.hw, h.hr]) (by rw [bvs_length, bvs_length, hx, h.hk])
  simpa [ak, List.append_assoc] using this
theorem ovw_word (A : ActP) (b l : Value) (xs : List UInt8) (h : A.Fit) (hx : xs.length = 32) : ovw (ak A b l) 53 (bvs xs) = ak { A with word := xs } b l := by
  have := ovw_at 53 ([Value.int .i64 A.kind] ++ (bvs A.addr ++ bvs A.key)) (bvs A.word) (bvs xs) (bvs A.root ++ [.int .i64 A.n, .int .i64 A.m, b, l]) (by simp [bvs_length, h.ha, h.hk, h.hw, h.hr]) (by rw [bvs_length, bvs_length, hx, h.hw])
  simpa [ak, List.append_assoc] using this
theorem ovw_root (A : ActP) (b l : Value) (xs : List UInt8) (h : A.Fit) (hx : xs.length = 32) : ovw (ak A b l) 85 (bvs xs) = ak { A with root := xs } b l := by
  have := ovw_at 85 ([Value.int .i64 A.kind] ++ (bvs A.addr ++ (bvs A.key ++ bvs A.word))) (bvs A.root) (bvs xs) ([.int .i64 A.n, .int .i64 A.m, b, l]) (by simp [bvs_length, h.ha, h.hk, h.hw, h.hr]) (by rw [bvs_length, bvs_length, hx, h.hr])
  simpa [ak, List.append_assoc] using this
theorem set_n (A : ActP) (b l : Value) (n : Int) (h : A.Fit) : (ak A b l).setIfInBounds 117 (.int .i64 n) = ak { A with n := n } b l := by
  have e : (ak A b l).setIfInBounds 117 (.int .i64 n) = ovw (ak A b l) 117 [.int .i64 n] := by
    apply Array.ext_getElem?
    intro j
    have hs := ak_size A b l h
    rw [get_ovw _ _ _ (by simp; omega), Array.getElem?_setIfInBounds]
    by_cases e : 117 = j
    · subst e; simp [hs]
    · rw [if_neg e, if_neg (by simp; omega)]
  rw [e]
  have := ovw_at 117 ([Value.int .i64 A.kind] ++ (bvs A.addr ++ (bvs A.key ++ (bvs A.word ++ bvs A.root)))) [Value.int .i64 A.n] [Value.int .i64 n] ([.int .i64 A.m, b, l]) (by simp [bvs_length, h.ha, h.hk, h.hw, h.hr]) rfl
  simpa [ak, List.append_assoc] using this
theorem set_m (A : ActP) (b l : Value) (n : Int) (h : A.Fit) : (ak A b l).setIfInBounds 118 (.int .i64 n) = ak { A with m := n } b l := by
  have e : (ak A b l).setIfInBounds 118 (.int .i64 n) = ovw (ak A b l) 118 [.int .i64 n] := by
    apply Array.ext_getElem?
    intro j
    have hs := ak_size A b l h
    rw [get_ovw _ _ _ (by simp; omega), Array.getElem?_setIfInBounds]
    by_cases e : 118 = j
    · subst e; simp [hs]
    · rw [if_neg e, if_neg (by simp; omega)]
  rw [e]
  have := ovw_at 118 ([Value.int .i64 A.kind] ++ (bvs A.addr ++ (bvs A.key ++ (bvs A.word ++ bvs A.root))) ++ [.int .i64 A.n]) [Value.int .i64 A.m] [Value.int .i64 n] ([b, l]) (by simp [bvs_length, h.ha, h.hk, h.hw, h.hr]) rfl
  simpa [ak, List.append_assoc] using this
theorem set_b (A : ActP) (b b' l : Value) (xs : List UInt8) (h : A.Fit) : (ak A b l).setIfInBounds 119 b' = ak { A with b := xs } b' l := by
  have e : (ak A b l).setIfInBounds 119 b' = ovw (ak A b l) 119 [b'] := by
    apply Array.ext_getElem?
    intro j
    have hs := ak_size A b l h
    rw [get_ovw _ _ _ (by simp; omega), Array.getElem?_setIfInBounds]
    by_cases e : 119 = j
    · subst e; simp [hs]
    · rw [if_neg e, if_neg (by simp; omega)]
  rw [e]
  have := ovw_at 119 ([Value.int .i64 A.kind] ++ (bvs A.addr ++ (bvs A.key ++ (bvs A.word ++ bvs A.root))) ++ [.int .i64 A.n, .int .i64 A.m]) [b] [b'] [l] (by simp [bvs_length, h.ha, h.hk, h.hw, h.hr]) rfl
  simpa [ak, List.append_assoc] using this
theorem set_l (A : ActP) (b l l' : Value) (xs : List (List UInt8 × List UInt8)) (h : A.Fit) : (ak A b l).setIfInBounds 120 l' = ak { A with l := xs } b l' := by
  have e : (ak A b l).setIfInBounds 120 l' = ovw (ak A b l) 120 [l'] := by
    apply Array.ext_getElem?
    intro j
    have hs := ak_size A b l h
    rw [get_ovw _ _ _ (by simp; omega), Array.getElem?_setIfInBounds]
    by_cases e : 120 = j
    · subst e; simp [hs]
    · rw [if_neg e, if_neg (by simp; omega)]
  rw [e]
  have := ovw_at 120 ([Value.int .i64 A.kind] ++ (bvs A.addr ++ (bvs A.key ++ (bvs A.word ++ bvs A.root))) ++ [.int .i64 A.n, .int .i64 A.m, b]) [l] [l'] [] (by simp [bvs_length, h.ha, h.hk, h.hw, h.hr]) rfl
  simpa [ak, List.append_assoc] using this
end Go.Proofs.YtfjfjjcdlgdbcaaDoor
