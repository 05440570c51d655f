/- the texts E20, E21, D21, D31 of this proof, one behind the other -/
import Derived.Test.YtfjfjjcdlgdbcaaDoorF11
import Derived.Deep.RegionHeld3
namespace Go.Proofs.YtfjfjjcdlgdbcaaDoor
open Go.RowKit
set_option linter.unusedSimpArgs false
set_option linter.unusedVariables false

/-- the number that prints so -/
def numL (s : List UInt8) : Option Int := match Lib.atoiAll s with
  | .ok v => if Lib.itoa v = s then some v else none
  | _ => none
theorem numL_ok (s : List UInt8) (v : Int) (h : Lib.atoiAll s = .ok v) : numL s = if Lib.itoa v = s then some v else none := by rw [numL, h]
theorem numL_no (s : List UInt8) (h : ∀ v, Lib.atoiAll s ≠ .ok v) : numL s = none := by
  unfold numL
  split
  · rename_i v hv; exact absurd hv (h v)
  · rfl
theorem atoi_bounds (s : List UInt8) (v : Int) (h : Lib.atoiAll s = .ok v) : -9223372036854775808 ≤ v ∧ v ≤ 9223372036854775807 := by
  cases s with
  | nil => simp [Lib.atoiAll] at h
  | cons c r =>
    simp only [Lib.atoiAll] at h
    split at h
    · cases h
    · cases h
    · rename_i u hu
      have := Lib.parseMag_lt hu
      split at h
      · cases h
      · split at h
        · cases h
        · injection h with h
          rename_i h1 h2
          subst h
          split <;> omega

set_option maxRecDepth 100000 in
set_option maxHeartbeats 2000000 in
theorem number106_calls (s : List UInt8) (sb g off : Nat) (w : World) (hs : s.length ≤ 100000000) (hL : LaidW w) (hv : w.cell? ⟨sb, 0, none⟩ = some (.string (str s))) (hsg : sb ≠ g)
    (hroom : ∀ W, Below w.heap.size w W → RoomAt W g off 1) (hLs : ∀ W n, Below w.heap.size w W → LaidW (W.setCell ⟨g, off, none⟩ (.int .i64 n))) :
    Calls Tryd.prog 106 #[.pointer (some ⟨g, off, none⟩), .pointer (some ⟨sb, 0, none⟩)] w fun e w' => ∃ w2 n, Below w.heap.size w w2 ∧ Below (w2.setCell ⟨g, off, none⟩ (.int .i64 n)).heap.size (w2.setCell ⟨g, off, none⟩ (.int .i64 n)) w' ∧
      ((numL s = some n ∧ (-9223372036854775808 ≤ n ∧ n ≤ 9223372036854775807) ∧ e = .returned (.bool true)) ∨ (numL s = none ∧ e = .returned (.bool false))) := by
  have hc := Lib.hid (Tryd.Atoi_all (str s) (by rw [str_size]; omega) w hL.syn hL.rng)
  have hrm := Lib.hid (fun W hW => (hroom W hW 0 (by omega)))
  have hlt := World.block_lt_of_cell? w _ hv
  have hcv := Lib.hid (fun W n (hW : Below w.heap.size w W) => show (W.setCell ⟨g, off, none⟩ (.int .i64 n)).cell? ⟨sb, 0, none⟩ = some (.string (str s)) by
    have e : (W.setCell ⟨g, off, none⟩ (.int .i64 n)).cell? ⟨sb, 0, none⟩ = W.cell? ⟨sb, 0, none⟩ := by
      unfold World.cell?
      rw [Below.heap_setCell W ⟨g, off, none⟩ (.int .i64 n) sb hsg]
    rw [e, hW.cell hlt]; exact hv)
  have HLS := Lib.hid hLs
  clear hroom hL hLs
  by_cases ha : ∃ v, Lib.atoiAll s = .ok v
  · obtain ⟨v, ha⟩ := ha
    have hbd := atoi_bounds s v ha
    have hnl := Lib.hid (numL_ok s v ha)
    have hc2 := Lib.hid (hc.out.mono (fun e w' ⟨hb, h⟩ => (show Below w.heap.size w w' ∧ e = Ending.returned (.tuple #[.int .i64 v, .nilIface]) from ⟨hb, by
      rcases h with ⟨v', h1, h2⟩ | ⟨h1, _⟩
      · have : v' = v := by
          have h3 := h1.symm.trans ha
          injection h3
        rw [← this]; exact h2
      · exact absurd ha (h1 v)⟩)))
    have hit := Lib.hid (fun W (hW : LaidW W) => Itoa_calls v W hbd.1 hbd.2 hW)
    have hcmp : ((str (Lib.itoa v)).toList == (str s).toList) = decide (Lib.itoa v = s) := by rw [str_list, str_list, Bool.eq_iff_iff]; simp
    clear hc ha
    go_enter Tryd.func106, Tryd.ntmps106
    go_wp2_with (go_at_call 107; refine hc2.out.mono ?_; rintro e w1 ⟨hb1, rfl⟩; obtain ⟨u0, hu0⟩ := Option.isSome_iff_exists.1 (hrm.out w1 hb1).1; have hf0 := (hrm.out w1 hb1).2; simp only [Nat.add_zero] at hu0 hf0)
    have hLS := Lib.hid (HLS.out w1 v hb1)
    have hcw := hcv.out w1 v hb1
    refine wp_region_held_drew (S := (fun W => W.cell? ⟨sb, 0, none⟩ = some (Value.string (str s)))) (by kernel_rfl) (hcw) (fun hHeld => ?_)
    refine wpAnyH_take (i := 0) (v := .nilIface) rfl (by kernel_rfl) (by kernel_rfl) (by kernel_rfl) (fun _ _ _ h => h) (.inl ⟨by rfl, fun W hS => by go_simp⟩) hHeld ?_
    simp only [Act.put, List.setIfInBounds_toArray, List.set_cons_zero, List.set_cons_succ, List.getElem_toArray, List.getElem_cons_succ, List.getElem_cons_zero]
    refine wpAnyH_take (i := 1) (v := .bool true) rfl (by kernel_rfl) (by kernel_rfl) (by kernel_rfl) (fun _ _ _ h => h) (.inl ⟨by rfl, fun W hS => by go_simp⟩) hHeld ?_
    simp only [Act.put, List.setIfInBounds_toArray, List.set_cons_zero, List.set_cons_succ, List.getElem_toArray, List.getElem_cons_succ, List.getElem_cons_zero]
    refine wpAnyH_take (i := 2) (v := .bool true) rfl (by kernel_rfl) (by kernel_rfl) (by kernel_rfl) (fun _ _ _ h => h) (.inl ⟨by rfl, fun W hS => by go_simp⟩) hHeld ?_
    simp only [Act.put, List.setIfInBounds_toArray, List.set_cons_zero, List.set_cons_succ, List.getElem_toArray, List.getElem_cons_succ, List.getElem_cons_zero]
    refine wpAnyH_take (i := 3) (v := .int .i64 v) rfl (by kernel_rfl) (by kernel_rfl) (by kernel_rfl) (fun _ _ _ h => h) (.inl ⟨by rfl, fun W hS => by go_simp⟩) hHeld ?_
    simp only [Act.put, List.setIfInBounds_toArray, List.set_cons_zero, List.set_cons_succ, List.getElem_toArray, List.getElem_cons_succ, List.getElem_cons_zero]
    refine wpAnyH_take (i := 5) (v := .string (str s)) rfl (by kernel_rfl) (by kernel_rfl) (by kernel_rfl) (fun _ _ _ h => h) (.inl ⟨by rfl, fun W hS => by (have hS : W.cell? ⟨sb, 0, none⟩ = some (Value.string (str s)) := hS); go_simp⟩) hHeld ?_
    simp only [Act.put, List.setIfInBounds_toArray, List.set_cons_zero, List.set_cons_succ, List.getElem_toArray, List.getElem_cons_succ, List.getElem_cons_zero]
    refine wpAnyH_ready (rs := [4]) (by kernel_rfl) (by simp) ?_
    refine AllReadyH.cons rfl (fun K hK => ?_) AllReadyH.nil
    go_simp
    go_wp2_with (go_at_call 104; refine (hit.out _ (by first | exact hLS.out | exact hLS.out.below (Below.refl _ _).drew)).mono ?_; rintro e w3 ⟨rfl, hb3⟩)
    refine hK.out _ _ (cell_below' hb3 hcw) (fun hHeld => ?_)
    clear hK K
    refine wpAnyH_take (i := 6) (v := .bool (decide (Lib.itoa v = s))) rfl (by kernel_rfl) (by kernel_rfl) (by kernel_rfl) (fun _ _ _ h => h) (.inl ⟨by rfl, fun W hS => by go_simp⟩) hHeld ?_
    simp only [Act.put, List.setIfInBounds_toArray, List.set_cons_zero, List.set_cons_succ, List.getElem_toArray, List.getElem_cons_succ, List.getElem_cons_zero]
    refine wpAnyH_take (i := 7) (v := .bool (decide (Lib.itoa v = s))) rfl (by kernel_rfl) (by kernel_rfl) (by kernel_rfl) (fun _ _ _ h => h) (.inl ⟨by rfl, fun W hS => by go_simp⟩) hHeld ?_
    simp only [Act.put, List.setIfInBounds_toArray, List.set_cons_zero, List.set_cons_succ, List.getElem_toArray, List.getElem_cons_succ, List.getElem_cons_zero]
    refine wpAnyH_ready (rs := [8]) (by kernel_rfl) (by simp) ?_
    refine AllReadyH.cons rfl (fun K hK => ?_) AllReadyH.nil
    go_simp
    refine hK.out _ _ (cell_below' hb3 hcw) (fun hHeld => ?_)
    clear hK K
    refine wpAnyH_done (by kernel_rfl) ?_ _
    go_wp2
    go_ret
    refine ⟨w1, v, hb1, thn (Below.refl _ _).drew hb3, ?_⟩
    by_cases hi : Lib.itoa v = s
    · exact .inl ⟨by rw [hnl.out, if_pos hi], hbd, by simp [hi]⟩
    · exact .inr ⟨by rw [hnl.out, if_neg hi], by simp [hi]⟩
  · have hnl := Lib.hid (numL_no s (fun v hv => ha ⟨v, hv⟩))
    have hc2 := Lib.hid (hc.out.mono (fun e w' ⟨hb, h⟩ => (show Below w.heap.size w w' ∧ ∃ n N, e = Ending.returned (.tuple #[.int .i64 n, .iface 195 (.pointer (some ⟨N, 0, none⟩))]) from ⟨hb, by
      rcases h with ⟨v', h1, h2⟩ | ⟨_, h1⟩
      · exact absurd ⟨v', h1⟩ ha
      · exact h1⟩)))
    clear hc ha
    go_enter Tryd.func106, Tryd.ntmps106
    go_wp2_with (go_at_call 107; refine hc2.out.mono ?_; rintro e w1 ⟨hb1, n, N, rfl⟩; obtain ⟨u0, hu0⟩ := Option.isSome_iff_exists.1 (hrm.out w1 hb1).1; have hf0 := (hrm.out w1 hb1).2; simp only [Nat.add_zero] at hu0 hf0)
    refine wp_region_held_drew (S := fun _ => True) (by kernel_rfl) (trivial) (fun hHeld => ?_)
    refine wpAnyH_take (i := 0) (v := .iface 195 (.pointer (some ⟨N, 0, none⟩))) rfl (by kernel_rfl) (by kernel_rfl) (by kernel_rfl) (fun _ _ _ h => h) (.inl ⟨by rfl, fun W hS => by go_simp⟩) hHeld ?_
    simp only [Act.put, List.setIfInBounds_toArray, List.set_cons_zero, List.set_cons_succ, List.getElem_toArray, List.getElem_cons_succ, List.getElem_cons_zero]
    refine wpAnyH_take (i := 1) (v := .bool false) rfl (by kernel_rfl) (by kernel_rfl) (by kernel_rfl) (fun _ _ _ h => h) (.inl ⟨by rfl, fun W hS => by go_simp⟩) hHeld ?_
    simp only [Act.put, List.setIfInBounds_toArray, List.set_cons_zero, List.set_cons_succ, List.getElem_toArray, List.getElem_cons_succ, List.getElem_cons_zero]
    refine wpAnyH_take (i := 2) (v := .bool false) rfl (by kernel_rfl) (by kernel_rfl) (by kernel_rfl) (fun _ _ _ h => h) (.inl ⟨by rfl, fun W hS => by go_simp⟩) hHeld ?_
    simp only [Act.put, List.setIfInBounds_toArray, List.set_cons_zero, List.set_cons_succ, List.getElem_toArray, List.getElem_cons_succ, List.getElem_cons_zero]
    refine wpAnyH_take (i := 3) (v := undef) rfl (by kernel_rfl) (by kernel_rfl) (by kernel_rfl) (fun _ _ _ h => h) (.inr ⟨by kernel_rfl, rfl⟩) hHeld ?_
    simp only [Act.put, List.setIfInBounds_toArray, List.set_cons_zero, List.set_cons_succ, List.getElem_toArray, List.getElem_cons_succ, List.getElem_cons_zero]
    refine wpAnyH_take (i := 4) (v := undef) rfl (by kernel_rfl) (by kernel_rfl) (by kernel_rfl) (fun _ _ _ h => h) (.inr ⟨by kernel_rfl, rfl⟩) hHeld ?_
    simp only [Act.put, List.setIfInBounds_toArray, List.set_cons_zero, List.set_cons_succ, List.getElem_toArray, List.getElem_cons_succ, List.getElem_cons_zero]
    refine wpAnyH_take (i := 5) (v := undef) rfl (by kernel_rfl) (by kernel_rfl) (by kernel_rfl) (fun _ _ _ h => h) (.inr ⟨by kernel_rfl, rfl⟩) hHeld ?_
    simp only [Act.put, List.setIfInBounds_toArray, List.set_cons_zero, List.set_cons_succ, List.getElem_toArray, List.getElem_cons_succ, List.getElem_cons_zero]
    refine wpAnyH_take (i := 6) (v := undef) rfl (by kernel_rfl) (by kernel_rfl) (by kernel_rfl) (fun _ _ _ h => h) (.inr ⟨by kernel_rfl, rfl⟩) hHeld ?_
    simp only [Act.put, List.setIfInBounds_toArray, List.set_cons_zero, List.set_cons_succ, List.getElem_toArray, List.getElem_cons_succ, List.getElem_cons_zero]
    refine wpAnyH_take (i := 7) (v := .bool false) rfl (by kernel_rfl) (by kernel_rfl) (by kernel_rfl) (fun _ _ _ h => h) (.inl ⟨by rfl, fun W hS => by go_simp⟩) hHeld ?_
    simp only [Act.put, List.setIfInBounds_toArray, List.set_cons_zero, List.set_cons_succ, List.getElem_toArray, List.getElem_cons_succ, List.getElem_cons_zero]
    refine wpAnyH_ready (rs := [8]) (by kernel_rfl) (by simp) ?_
    refine AllReadyH.cons rfl (fun K hK => ?_) AllReadyH.nil
    go_simp
    refine hK.out _ _ (trivial) (fun hHeld => ?_)
    clear hK K
    refine wpAnyH_done (by kernel_rfl) ?_ _
    go_wp2
    go_ret
    exact ⟨w1, n, hb1, (Below.refl _ _).drew, .inr ⟨hnl.out, rfl⟩⟩
end Go.Proofs.YtfjfjjcdlgdbcaaDoor
namespace Go.Proofs.YtfjfjjcdlgdbcaaDoor
open Go.RowKit
set_option linter.unusedSimpArgs false
set_option linter.unusedVariables false

theorem gr_below {g : Nat} {W w : World} (h : Below W.heap.size W w) : W.grownBy w (some g) := ⟨h.os, h.tape, h.output, h.size, fun i hi _ => h.block i hi⟩
theorem gr_setCells {g : Nat} {W w : World} (h : W.grownBy w (some g)) (off : Nat) (vs : List Value) : W.grownBy (w.setCells g off vs) (some g) := by
  have hb := below_setCells (B := 0) (Below.refl 0 w) g off vs (Nat.zero_le _)
  refine ⟨hb.os.trans h.os, hb.tape.trans h.tape, hb.output.trans h.output, Nat.le_trans h.size hb.size, fun i hi hne => ?_⟩
  rw [heap_setCells_other vs off w g i (by intro e; exact hne (by rw [e]))]
  exact h.block i hi hne
theorem gr_setCell {g : Nat} {W w : World} (h : W.grownBy w (some g)) (off : Nat) (v : Value) : W.grownBy (w.setCell ⟨g, off, none⟩ v) (some g) := gr_setCells h off [v]
theorem gr_new {g : Nat} {W w : World} (h : W.grownBy w (some g)) (b : Nat) (v : Value) (hb : W.heap.size ≤ b) : W.grownBy (w.setCell ⟨b, 0, none⟩ v) (some g) := by
  have h0 := below_setCells (B := 0) (Below.refl 0 w) b 0 [v] (Nat.zero_le _)
  refine ⟨h0.os.trans h.os, h0.tape.trans h.tape, h0.output.trans h.output, Nat.le_trans h.size h0.size, fun i hi hne => ?_⟩
  rw [Below.heap_setCell w ⟨b, 0, none⟩ v i (by show i ≠ b; omega)]
  exact h.block i hi hne
theorem gr_then {g : Nat} {W w w' : World} (h : W.grownBy w (some g)) (k : Below w.heap.size w w') : W.grownBy w' (some g) :=
  ⟨k.os.trans h.os, k.tape.trans h.tape, k.output.trans h.output, Nat.le_trans h.size k.size, fun i hi hne => (k.block i (Nat.lt_of_lt_of_le hi h.size)).trans (h.block i hi hne)⟩
theorem ovw_mid (xs a a' r : List Value) (h : a'.length = a.length) : ovw (xs ++ (a ++ r)).toArray xs.length a' = (xs ++ (a' ++ r)).toArray := by
  unfold ovw
  congr 1
  rw [h]
  simp [List.take_append, List.drop_append]
theorem ovw_at (o : Nat) (xs a a' r : List Value) (ho : xs.length = o) (h : a'.length = a.length) : ovw (xs ++ (a ++ r)).toArray o a' = (xs ++ (a' ++ r)).toArray := by
  subst ho; exact ovw_mid xs a a' r h
theorem LaidW.set {W : World} (h : LaidW W) {g : Nat} {t : TypeId} {cs : Array Value} (hB : Blk W g t cs) (hs : cs.size = 121) (off : Nat) (ho : 1 ≤ off) (v : Value) : LaidW (W.setCell ⟨g, off, none⟩ v) := by
  have hcell : ∀ b u, W.cell? ⟨b, 0, none⟩ = some u → (W.setCell ⟨g, off, none⟩ v).cell? ⟨b, 0, none⟩ = some u := by
    intro b u hu
    by_cases e : b = g
    · subst e
      have hB2 := hB.set_ off v
      rw [hB.cell] at hu
      rw [hB2.cell, Array.getElem?_setIfInBounds, if_neg (by omega)]
      exact hu
    · rw [← hu]
      unfold World.cell?
      rw [Below.heap_setCell W ⟨g, off, none⟩ v b e]
  obtain ⟨h1, ⟨m, h2⟩, ⟨e2, h3, h3'⟩, ⟨e3, h4, h4'⟩⟩ := h
  refine ⟨?_, ⟨m, hcell _ _ h2⟩, ⟨e2, hcell _ _ h3, h3'⟩, ⟨e3, hcell _ _ h4, h4'⟩⟩
  unfold Lib.TabIs World.var? at h1 ⊢
  have hg : Tryd.prog.globalNamed "internal/strconv.uint64pow10" = some 0 := by kernel_rfl
  rw [hg] at h1 ⊢
  simp only [Option.bind_some] at h1 ⊢
  have hne : (0 : Nat) ≠ g := by
    intro e
    subst e
    unfold Blk at hB
    rw [hB] at h1
    have h5 := congrArg Array.size (Option.some.inj h1)
    rw [hs] at h5
    simp [Lib.pow10Tab] at h5
  rw [Below.heap_setCell W ⟨g, off, none⟩ v 0 hne]
  exact h1

/-- the keys of parts -/
def keysP : List (List UInt8) → Option (List (List UInt8 × List UInt8))
  | [] => some []
  | p :: ps => if (undigL p).2 = true ∧ p ≠ [46] then (keysP ps).map (((undigL p).1, []) :: ·) else none
/-- what a field is read as -/
def pF (A : ActP) (c : UInt8) (s : List UInt8) : Option ActP :=
  if c = 97 then (if (undigL s).2 = true ∧ (undigL s).1.length = 20 then some { A with addr := (undigL s).1 } else none)
  else if c = 107 then (if (undigL s).2 = true ∧ (undigL s).1.length = 32 then some { A with key := (undigL s).1 } else none)
  else if c = 119 then (if (undigL s).2 = true ∧ (undigL s).1.length = 32 then some { A with word := (undigL s).1 } else none)
  else if c = 114 then (if (undigL s).2 = true ∧ (undigL s).1.length = 32 then some { A with root := (undigL s).1 } else none)
  else if c = 110 then (numL s).map fun n => { A with n := n }
  else if c = 109 then (numL s).map fun n => { A with m := n }
  else if c = 98 then (if (undigL s).2 = true then some { A with b := (undigL s).1 } else none)
  else if s = [46] then some A else (keysP (splitL 44 s)).map fun l => { A with l := A.l ++ l }
theorem ovw_addr (A : ActP) (b l : Value) (xs : List UInt8) (h : A.Fit) (hx : xs.length = 20) : ovw (ak A b l) 1 (bvs xs) = ak { A with addr := xs } b l := by
  have := ovw_at 1 ([Value.int .i64 A.kind]) (bvs A.addr) (bvs xs) (bvs A.key ++ (bvs A.word ++ (bvs A.root ++ [.int .i64 A.n, .int .i64 A.m, b, l]))) (by simp [bvs_length, h.ha, h.hk, h.hw, h.hr]) (by rw [bvs_length, bvs_length, hx, h.ha])
  simpa [ak, List.append_assoc] using this
theorem ovw_key (A : ActP) (b l : Value) (xs : List UInt8) (h : A.Fit) (hx : xs.length = 32) : ovw (ak A b l) 21 (bvs xs) = ak { A with key := xs } b l := by
  have := ovw_at 21 ([Value.int .i64 A.kind] ++ bvs A.addr) (bvs A.key) (bvs xs) (bvs A.word ++ (bvs A.root ++ [.int .i64 A.n, .int .i64 A.m, b, l])) (by simp [bvs_length, h.ha, h.hk, h.hw, h.hr]) (by rw [bvs_length, bvs_length, hx, h.hk])
  simpa [ak, List.append_assoc] using this
theorem ovw_word (A : ActP) (b l : Value) (xs : List UInt8) (h : A.Fit) (hx : xs.length = 32) : ovw (ak A b l) 53 (bvs xs) = ak { A with word := xs } b l := by
  have := ovw_at 53 ([Value.int .i64 A.kind] ++ (bvs A.addr ++ bvs A.key)) (bvs A.word) (bvs xs) (bvs A.root ++ [.int .i64 A.n, .int .i64 A.m, b, l]) (by simp [bvs_length, h.ha, h.hk, h.hw, h.hr]) (by rw [bvs_length, bvs_length, hx, h.hw])
  simpa [ak, List.append_assoc] using this
theorem ovw_root (A : ActP) (b l : Value) (xs : List UInt8) (h : A.Fit) (hx : xs.length = 32) : ovw (ak A b l) 85 (bvs xs) = ak { A with root := xs } b l := by
  have := ovw_at 85 ([Value.int .i64 A.kind] ++ (bvs A.addr ++ (bvs A.key ++ bvs A.word))) (bvs A.root) (bvs xs) ([.int .i64 A.n, .int .i64 A.m, b, l]) (by simp [bvs_length, h.ha, h.hk, h.hw, h.hr]) (by rw [bvs_length, bvs_length, hx, h.hr])
  simpa [ak, List.append_assoc] using this
theorem set_n (A : ActP) (b l : Value) (n : Int) (h : A.Fit) : (ak A b l).setIfInBounds 117 (.int .i64 n) = ak { A with n := n } b l := by
  have e : (ak A b l).setIfInBounds 117 (.int .i64 n) = ovw (ak A b l) 117 [.int .i64 n] := by
    apply Array.ext_getElem?
    intro j
    have hs := ak_size A b l h
    rw [get_ovw _ _ _ (by simp; omega), Array.getElem?_setIfInBounds]
    by_cases e : 117 = j
    · subst e; simp [hs]
    · rw [if_neg e, if_neg (by simp; omega)]
  rw [e]
  have := ovw_at 117 ([Value.int .i64 A.kind] ++ (bvs A.addr ++ (bvs A.key ++ (bvs A.word ++ bvs A.root)))) [Value.int .i64 A.n] [Value.int .i64 n] ([.int .i64 A.m, b, l]) (by simp [bvs_length, h.ha, h.hk, h.hw, h.hr]) rfl
  simpa [ak, List.append_assoc] using this
theorem set_m (A : ActP) (b l : Value) (n : Int) (h : A.Fit) : (ak A b l).setIfInBounds 118 (.int .i64 n) = ak { A with m := n } b l := by
  have e : (ak A b l).setIfInBounds 118 (.int .i64 n) = ovw (ak A b l) 118 [.int .i64 n] := by
    apply Array.ext_getElem?
    intro j
    have hs := ak_size A b l h
    rw [get_ovw _ _ _ (by simp; omega), Array.getElem?_setIfInBounds]
    by_cases e : 118 = j
    · subst e; simp [hs]
    · rw [if_neg e, if_neg (by simp; omega)]
  rw [e]
  have := ovw_at 118 ([Value.int .i64 A.kind] ++ (bvs A.addr ++ (bvs A.key ++ (bvs A.word ++ bvs A.root))) ++ [.int .i64 A.n]) [Value.int .i64 A.m] [Value.int .i64 n] ([b, l]) (by simp [bvs_length, h.ha, h.hk, h.hw, h.hr]) rfl
  simpa [ak, List.append_assoc] using this
theorem set_b (A : ActP) (b b' l : Value) (xs : List UInt8) (h : A.Fit) : (ak A b l).setIfInBounds 119 b' = ak { A with b := xs } b' l := by
  have e : (ak A b l).setIfInBounds 119 b' = ovw (ak A b l) 119 [b'] := by
    apply Array.ext_getElem?
    intro j
    have hs := ak_size A b l h
    rw [get_ovw _ _ _ (by simp; omega), Array.getElem?_setIfInBounds]
    by_cases e : 119 = j
    · subst e; simp [hs]
    · rw [if_neg e, if_neg (by simp; omega)]
  rw [e]
  have := ovw_at 119 ([Value.int .i64 A.kind] ++ (bvs A.addr ++ (bvs A.key ++ (bvs A.word ++ bvs A.root))) ++ [.int .i64 A.n, .int .i64 A.m]) [b] [b'] [l] (by simp [bvs_length, h.ha, h.hk, h.hw, h.hr]) rfl
  simpa [ak, List.append_assoc] using this
theorem set_l (A : ActP) (b l l' : Value) (xs : List (List UInt8 × List UInt8)) (h : A.Fit) : (ak A b l).setIfInBounds 120 l' = ak { A with l := xs } b l' := by
  have e : (ak A b l).setIfInBounds 120 l' = ovw (ak A b l) 120 [l'] := by
    apply Array.ext_getElem?
    intro j
    have hs := ak_size A b l h
    rw [get_ovw _ _ _ (by simp; omega), Array.getElem?_setIfInBounds]
    by_cases e : 120 = j
    · subst e; simp [hs]
    · rw [if_neg e, if_neg (by simp; omega)]
  rw [e]
  have := ovw_at 120 ([Value.int .i64 A.kind] ++ (bvs A.addr ++ (bvs A.key ++ (bvs A.word ++ bvs A.root))) ++ [.int .i64 A.n, .int .i64 A.m, b]) [l] [l'] [] (by simp [bvs_length, h.ha, h.hk, h.hw, h.hr]) rfl
  simpa [ak, List.append_assoc] using this
end Go.Proofs.YtfjfjjcdlgdbcaaDoor
namespace Go.Proofs.YtfjfjjcdlgdbcaaDoor
open Go.RowKit
set_option linter.unusedSimpArgs false
set_option linter.unusedVariables false

/-- the number below 2 to the 64 that prints so -/
def nonceL (s : List UInt8) : Option Nat := if Lib.decDigits (decN s) = s ∧ decN s < 18446744073709551616 then some (decN s) else none
theorem nonceL_some {s : List UInt8} {n : Nat} (h : nonceL s = some n) : s = Lib.decDigits n ∧ n < 18446744073709551616 := by
  unfold nonceL at h
  split at h
  · rename_i h1
    obtain rfl := Option.some.inj h
    exact ⟨h1.1.symm, h1.2⟩
  · cases h
theorem nonceL_dec (n : Nat) (h : n < 18446744073709551616) : nonceL (Lib.decDigits n) = some n := by
  unfold nonceL
  rw [decN_dec, if_pos ⟨rfl, h⟩]
theorem parseM_digs (M : Nat) (hM : M < 18446744073709551616) : ∀ (l : List UInt8) (acc : Nat), (∀ b ∈ l, isDig b = true) → l.foldl decF acc ≤ M → Lib.parseUintM M acc l = .ok (l.foldl decF acc)
  | [], acc, _, _ => rfl
  | c :: r, acc, hd, hl => by
    have hc : 48 ≤ c.toNat ∧ c.toNat ≤ 57 := of_decide_eq_true (hd c (by simp))
    rw [List.foldl_cons] at hl ⊢
    have hg := foldl_ge r (decF acc c)
    have hv : decF acc c = acc * 10 + (c.toNat - 48) := rfl
    rw [Lib.parseUintM, if_pos hc, if_neg (by omega), if_neg (by omega)]
    exact parseM_digs M hM r _ (fun b hb => hd b (by simp [hb])) hl
theorem parseM_le (M : Nat) : ∀ (l : List UInt8) (acc u : Nat), acc ≤ M → Lib.parseUintM M acc l = .ok u → u ≤ M
  | [], acc, u, ha, h => by
    simp only [Lib.parseUintM] at h
    injection h with h
    omega
  | c :: r, acc, u, ha, h => by
    simp only [Lib.parseUintM] at h
    split at h
    · split at h
      · cases h
      · split at h
        · cases h
        · exact parseM_le M r _ u (by omega) h
    · cases h
theorem digits_ne (n : Nat) : Lib.decDigits n ≠ [] := by
  rw [Lib.decDigits]
  split <;> simp
theorem parse64_dec (n : Nat) (h : n < 18446744073709551616) : Lib.parseUintB 64 (Lib.decDigits n) = .ok n := by
  unfold Lib.parseUintB
  rw [if_neg (digits_ne n)]
  have h1 := parseM_digs (2 ^ 64 - 1) (by decide) (Lib.decDigits n) 0 (decDigits_digit n) (by rw [show (Lib.decDigits n).foldl decF 0 = n from decN_dec n]; exact Nat.le_sub_one_of_lt h)
  rw [show (Lib.decDigits n).foldl decF 0 = n from decN_dec n] at h1
  exact h1
theorem parse64_lt {s : List UInt8} {u : Nat} (h : Lib.parseUintB 64 s = .ok u) : u < 18446744073709551616 := by
  unfold Lib.parseUintB at h
  split at h
  · cases h
  · have := parseM_le _ s 0 u (Nat.zero_le _) h
    have h2 : 2 ^ 64 = 18446744073709551616 := by decide
    omega
theorem nonceL_ok {s : List UInt8} {u : Nat} (h : Lib.parseUintB 64 s = .ok u) : nonceL s = if Lib.decDigits u = s then some u else none := by
  by_cases he : Lib.decDigits u = s
  · rw [if_pos he, ← he]; exact nonceL_dec u (parse64_lt h)
  · rw [if_neg he]
    cases hn : nonceL s with
    | none => rfl
    | some n =>
      obtain ⟨h1, h2⟩ := nonceL_some hn
      rw [h1, parse64_dec n h2] at h
      injection h with h
      exact absurd (by rw [h1, h]) he
theorem nonceL_no {s : List UInt8} (h : ∀ u, Lib.parseUintB 64 s ≠ .ok u) : nonceL s = none := by
  cases hn : nonceL s with
  | none => rfl
  | some n =>
    obtain ⟨h1, h2⟩ := nonceL_some hn
    exact absurd (by rw [h1]; exact parse64_dec n h2) (h n)

theorem ovw_eaddr (e : EntP) (c s : Value) (xs : List UInt8) (h : e.Fit) (hx : xs.length = 20) : ovw (ek e c s) 0 (bvs xs) = ek { e with addr := xs } c s := by
  have := ovw_at 0 [] (bvs e.addr) (bvs xs) ([Value.int .u64 (e.nonce : Int)] ++ (bvs e.bal ++ [c, s])) rfl (by rw [bvs_length, bvs_length, hx, h.ha])
  simpa [ek, List.append_assoc] using this
theorem ovw_ebal (e : EntP) (c s : Value) (xs : List UInt8) (h : e.Fit) (hx : xs.length = 32) : ovw (ek e c s) 21 (bvs xs) = ek { e with bal := xs } c s := by
  have := ovw_at 21 (bvs e.addr ++ [Value.int .u64 (e.nonce : Int)]) (bvs e.bal) (bvs xs) [c, s] (by simp [bvs_length, h.ha]) (by rw [bvs_length, bvs_length, hx, h.hb])
  simpa [ek, List.append_assoc] using this
theorem set_ovw1 (cs : Array Value) (i : Nat) (v : Value) (h : i < cs.size) : cs.setIfInBounds i v = ovw cs i [v] := by
  apply Array.ext_getElem?
  intro j
  rw [get_ovw _ _ _ (by simp; omega), Array.getElem?_setIfInBounds]
  by_cases e : i = j
  · subst e; simp [h]
  · rw [if_neg e, if_neg (by simp; omega)]
theorem set_enonce (e : EntP) (c s : Value) (n : Nat) (h : e.Fit) : (ek e c s).setIfInBounds 20 (.int .u64 (n : Int)) = ek { e with nonce := n } c s := by
  rw [set_ovw1 _ _ _ (by rw [ek_size _ _ _ h]; decide)]
  have := ovw_at 20 (bvs e.addr) [Value.int .u64 (e.nonce : Int)] [Value.int .u64 (n : Int)] (bvs e.bal ++ [c, s]) (by simp [bvs_length, h.ha]) rfl
  simpa [ek, List.append_assoc] using this
theorem set_ecode (e : EntP) (c c' s : Value) (xs : List UInt8) (h : e.Fit) : (ek e c s).setIfInBounds 53 c' = ek { e with code := xs } c' s := by
  rw [set_ovw1 _ _ _ (by rw [ek_size _ _ _ h]; decide)]
  have := ovw_at 53 (bvs e.addr ++ ([Value.int .u64 (e.nonce : Int)] ++ bvs e.bal)) [c] [c'] [s] (by simp [bvs_length, h.ha, h.hb]) rfl
  simpa [ek, List.append_assoc] using this
theorem set_eslots (e : EntP) (c s s' : Value) (hs : List (List UInt8 × List UInt8)) (h : e.Fit) : (ek e c s).setIfInBounds 54 s' = ek { e with slots := hs } c s' := by
  rw [set_ovw1 _ _ _ (by rw [ek_size _ _ _ h]; decide)]
  have := ovw_at 54 (bvs e.addr ++ ([Value.int .u64 (e.nonce : Int)] ++ (bvs e.bal ++ [c]))) [s] [s'] [] (by simp [bvs_length, h.ha, h.hb]) rfl
  simpa [ek, List.append_assoc] using this
theorem EntP.Fit.setA {e : EntP} (h : e.Fit) {xs : List UInt8} (hx : xs.length = 20) : EntP.Fit { e with addr := xs } := ⟨hx, h.hn, h.hb, h.hs⟩
theorem EntP.Fit.setN {e : EntP} (h : e.Fit) {n : Nat} (hn : n < 18446744073709551616) : EntP.Fit { e with nonce := n } := ⟨h.ha, hn, h.hb, h.hs⟩
theorem EntP.Fit.setB {e : EntP} (h : e.Fit) {xs : List UInt8} (hx : xs.length = 32) : EntP.Fit { e with bal := xs } := ⟨h.ha, h.hn, hx, h.hs⟩
theorem EntP.Fit.setC {e : EntP} (h : e.Fit) (xs : List UInt8) : EntP.Fit { e with code := xs } := ⟨h.ha, h.hn, h.hb, h.hs⟩

theorem isAcc_calls (s : List UInt8) (w : World) : Calls Tryd.prog 90 #[.string (str s)] w fun en w' => en = .returned (.bool (decide (s = accW))) ∧ w = w' := by
  have hcmp : ((str s).toList == [97, 99, 99, 111, 117, 110, 116]) = decide (s = accW) := by
    rw [str_list]
    by_cases h : s = accW
    · rw [decide_eq_true h, h]; decide
    · rw [decide_eq_false h]; simpa [accW] using h
  generalize hd : decide (s = accW) = d at *
  clear hd
  cases d
  all_goals
    go_enter Tryd.func90, Tryd.ntmps90
    go_wp2
    go_ret
    exact ⟨rfl, rfl⟩
/-- an account's variable behind a reader that said no -/
def SomeEnt (w : World) (b : Nat) : Prop := ∃ e c, e.Fit ∧ Blk w b 79 (ek e c (.slice none 0 0)) ∧ c.oneCell' = true

set_option maxRecDepth 100000 in
set_option maxHeartbeats 2000000 in
theorem readAddr_calls (s : List UInt8) (b : Nat) (e : EntP) (c sl : Value) (w : World) (hs : s.length ≤ 100000000) (hB : Blk w b 79 (ek e c sl)) (hF : e.Fit) :
    Calls Tryd.prog 91 #[.string (str s), .pointer (some ⟨b, 0, none⟩)] w fun en w' => w.grownBy w' (some b) ∧
      ((((undigL s).2 = true ∧ (undigL s).1.length = 20) ∧ en = .returned (.bool true) ∧ Blk w' b 79 (ek { e with addr := (undigL s).1 } c sl)) ∨ (¬ ((undigL s).2 = true ∧ (undigL s).1.length = 20) ∧ en = .returned (.bool false) ∧ Blk w' b 79 (ek e c sl))) := by
  have hfx := Lib.hid (fixed92_calls s b 0 20 w hs (by omega) (fun W hW => (hB.below hW hB.lt).room 0 20 (by rw [ek_size _ _ _ hF]; decide)))
  have HB := Lib.hid hB
  have HF := Lib.hid hF
  clear hB hF
  go_enter Tryd.func91, Tryd.ntmps91
  go_wp2_with fail
  refine hfx.out.mono ?_
  rintro en w1 ⟨w2, hb2, (⟨hok, rfl, rfl⟩ | ⟨hok, rfl, rfl⟩)⟩
  all_goals have hB2 := HB.out.below hb2 HB.out.lt
  · have HOK := Lib.hid hok
    clear hok
    go_wp2
    go_ret
    have h1 := hB2.setCells (bvs (undigL s).1) 0 (by rw [bvs_length, HOK.out.2, ek_size _ _ _ HF.out]; decide)
    rw [ovw_eaddr _ _ _ _ HF.out HOK.out.2] at h1
    exact ⟨gr_setCells (gr_below hb2) _ _, .inl ⟨HOK.out, rfl, h1⟩⟩
  · have HOK := Lib.hid hok
    clear hok
    go_wp2
    go_ret
    exact ⟨gr_below hb2, .inr ⟨HOK.out, rfl, hB2⟩⟩

set_option maxRecDepth 100000 in
set_option maxHeartbeats 2000000 in
theorem readBal_calls (s : List UInt8) (b : Nat) (e : EntP) (c sl : Value) (w : World) (hs : s.length ≤ 100000000) (hB : Blk w b 79 (ek e c sl)) (hF : e.Fit) :
    Calls Tryd.prog 95 #[.string (str s), .pointer (some ⟨b, 0, none⟩)] w fun en w' => w.grownBy w' (some b) ∧
      ((undecL s = none ∧ en = .returned (.bool false) ∧ ∃ xs, xs.length = 32 ∧ Blk w' b 79 (ek { e with bal := xs } c sl)) ∨ (∃ n, undecL s = some n ∧ en = .returned (.bool true) ∧ Blk w' b 79 (ek { e with bal := beL n 32 } c sl))) := by
  have hu := Lib.hid (undecimal_calls s w hs)
  have HB := Lib.hid hB
  have HF := Lib.hid hF
  clear hB hF
  have key : Hid (∀ w2 (xs : List UInt8), xs.length = 32 → Below w.heap.size w w2 → RoomAt w2 b 21 (bvs xs).toArray.size ∧ Blk (w2.setCells b 21 (bvs xs).toArray.toList) b 79 (ek { e with bal := xs } c sl)) := fun w2 xs hx hb2 => by
    have hB2 := HB.out.below hb2 HB.out.lt
    have hsz : (bvs xs).toArray.size = 32 := by rw [List.size_toArray, bvs_length, hx]
    refine ⟨hB2.room 21 _ (by rw [hsz, ek_size _ _ _ HF.out]; decide), ?_⟩
    have h1 := hB2.setCells (bvs xs) 21 (by rw [bvs_length, hx, ek_size _ _ _ HF.out]; decide)
    rw [ovw_ebal _ _ _ _ HF.out hx] at h1
    exact h1
  have hT : Hid (∀ xs : List UInt8, xs.length = 32 → AggT Tryd.prog 61 (bvs xs).toArray.size) := fun xs hx => by rw [List.size_toArray, bvs_length, hx]; exact Tryd.agg61d
  go_enter Tryd.func95, Tryd.ntmps95
  go_wp2_with fail
  refine hu.out.mono ?_
  rintro en w2 ⟨hb2, (⟨hn, xs, hx, rfl⟩ | ⟨n, hn, rfl⟩)⟩
  · have HN := Lib.hid hn
    have HX := Lib.hid hx
    clear hn hx
    go_wp2_with (refine wpList_storeAgg rfl rfl 61 _ _ rfl b 21 rfl (bvs xs).toArray rfl (hT.out xs HX.out) (key.out _ xs HX.out hb2).1 (oneCell_bvs _) ?_)
    go_ret
    exact ⟨gr_setCells (gr_below hb2) _ _, .inl ⟨HN.out, rfl, xs, HX.out, (key.out _ xs HX.out hb2).2⟩⟩
  · have HN := Lib.hid hn
    clear hn
    have HX := Lib.hid (beL_length n 32)
    generalize hxs : beL n 32 = xs at *
    have HXS := Lib.hid hxs
    clear hxs
    go_wp2_with (refine wpList_storeAgg rfl rfl 61 _ _ rfl b 21 rfl (bvs xs).toArray rfl (hT.out xs HX.out) (key.out _ xs HX.out hb2).1 (oneCell_bvs _) ?_)
    go_ret
    exact ⟨gr_setCells (gr_below hb2) _ _, .inr ⟨n, HN.out, rfl, by rw [HXS.out]; exact (key.out _ xs HX.out hb2).2⟩⟩

set_option maxRecDepth 100000 in
set_option maxHeartbeats 2000000 in
theorem readCode_calls (s : List UInt8) (b : Nat) (e : EntP) (c sl : Value) (w : World) (hs : s.length ≤ 100000000) (hB : Blk w b 79 (ek e c sl)) (hF : e.Fit) :
    Calls Tryd.prog 97 #[.string (str s), .pointer (some ⟨b, 0, none⟩)] w fun en w' => w.grownBy w' (some b) ∧ en = .returned (.bool (undigL s).2) ∧
      ∃ v, OwnB w' w.heap.size v (undigL s).1 ∧ Blk w' b 79 (ek { e with code := (undigL s).1 } v sl) := by
  have hu := Lib.hid (undigits98_calls s w hs)
  have HB := Lib.hid hB
  have HF := Lib.hid hF
  have hlt := hB.lt
  clear hB hF
  go_enter Tryd.func97, Tryd.ntmps97
  go_wp2_with fail
  refine hu.out.mono ?_
  rintro en w2 ⟨⟨v, rfl, ho⟩, hb2⟩
  have hB2 := HB.out.below hb2 hlt
  have hc := hB2.cell 53
  have hf := hB2.frozen 53
  obtain ⟨v0, hv0⟩ : ∃ v0, (ek e c sl)[53]? = some v0 := ⟨_, ek_tail e c sl HF.out 0⟩
  rw [hv0] at hc
  have hset := hB2.set_ 53 v
  rw [set_ecode _ _ _ _ (undigL s).1 HF.out] at hset
  have HS := Lib.hid hset
  have HO := Lib.hid ho
  obtain ⟨A1, c1, rfl, _⟩ := ho.reads
  clear hset ho hB2 hv0
  go_wp2
  go_ret
  exact ⟨gr_setCell (gr_below hb2) _ _, rfl, _, HO.out.setFar (by show b < w.heap.size; omega) _, HS.out⟩
end Go.Proofs.YtfjfjjcdlgdbcaaDoor
namespace Go.Proofs.YtfjfjjcdlgdbcaaDoor
open Go.RowKit
set_option linter.unusedSimpArgs false
set_option linter.unusedVariables false

theorem splitL_snoc (c b : UInt8) : ∀ (l : List UInt8) (o : List (List UInt8)) (p : List UInt8), splitL c l = o ++ [p] → splitL c (l ++ [b]) = if b = c then o ++ [p, []] else o ++ [p ++ [b]]
  | [], o, p, h => by
    have h1 : o = [] ∧ p = [] := by
      cases o with
      | nil => simp [splitL] at h; exact ⟨rfl, h⟩
      | cons y ys => simp [splitL] at h
    obtain ⟨rfl, rfl⟩ := h1
    rw [List.nil_append, splitL]
    rfl
  | a :: l, o, p, h => by
    rw [splitL] at h
    rw [List.cons_append, splitL]
    by_cases e : a = c
    · rw [if_pos e] at h
      rw [if_pos e]
      cases o with
      | nil =>
        simp only [List.nil_append, List.cons.injEq] at h
        exact absurd h.2 (splitL_ne c l)
      | cons y ys =>
        simp only [List.cons_append, List.cons.injEq] at h
        obtain ⟨rfl, h⟩ := h
        rw [splitL_snoc c b l ys p h]
        split <;> rfl
    · rw [if_neg e] at h
      rw [if_neg e]
      cases hs : splitL c l with
      | nil => exact absurd hs (splitL_ne c l)
      | cons y ys =>
        rw [hs, consHead] at h
        cases o with
        | nil =>
          simp only [List.nil_append, List.cons.injEq] at h
          obtain ⟨rfl, rfl⟩ := h
          rw [splitL_snoc c b l [] y hs]
          split <;> rfl
        | cons z zs =>
          simp only [List.cons_append, List.cons.injEq] at h
          obtain ⟨rfl, rfl⟩ := h
          rw [splitL_snoc c b l (y :: zs) p hs]
          split <;> rfl
/-- how far a line is cut -/
structure Cut (c : UInt8) (x : List UInt8) (k f : Nat) (o : List (List UInt8)) : Prop where
  hf : f ≤ k
  hk : k ≤ x.length
  hs : splitL c (x.take k) = o ++ [(x.take k).drop f]
theorem Cut.zero (c : UInt8) (x : List UInt8) : Cut c x 0 0 [] := ⟨by omega, by omega, rfl⟩
theorem take_snoc' (x : List UInt8) (k : Nat) (h : k < x.length) : x.take (k + 1) = x.take k ++ [x.getD k 0] := by
  rw [List.take_succ_eq_append_getElem h, List.getD_eq_getElem?_getD, List.getElem?_eq_getElem h]; rfl
theorem Cut.sep {c : UInt8} {x : List UInt8} {k f : Nat} {o : List (List UInt8)} (h : Cut c x k f o) (hk : k < x.length) (hb : x.getD k 0 = c) : Cut c x (k + 1) (k + 1) (o ++ [(x.take k).drop f]) := by
  refine ⟨by omega, by omega, ?_⟩
  have := splitL_snoc c (x.getD k 0) (x.take k) o _ h.hs
  rw [take_snoc' x k hk, this, if_pos hb]
  have e : (x.take k ++ [x.getD k 0]).drop (k + 1) = [] := List.drop_eq_nil_of_le (by simp; omega)
  rw [e]
  simp
theorem Cut.other {c : UInt8} {x : List UInt8} {k f : Nat} {o : List (List UInt8)} (h : Cut c x k f o) (hk : k < x.length) (hb : ¬ x.getD k 0 = c) : Cut c x (k + 1) f o := by
  have hf := h.hf
  refine ⟨by omega, by omega, ?_⟩
  have := splitL_snoc c (x.getD k 0) (x.take k) o _ h.hs
  rw [take_snoc' x k hk, this, if_neg hb, List.drop_append_of_le_length (by rw [List.length_take]; omega)]
theorem Cut.end_ {c : UInt8} {x : List UInt8} {f : Nat} {o : List (List UInt8)} (h : Cut c x x.length f o) : splitL c x = o ++ [x.drop f] := by
  have := h.hs
  rwa [List.take_length] at this
theorem Cut.len {c : UInt8} {x : List UInt8} {k f : Nat} {o : List (List UInt8)} (h : Cut c x k f o) : o.length ≤ k := by
  have h1 := congrArg List.length h.hs
  have h2 := splitL_len c (x.take k)
  simp at h1 h2
  omega
theorem extract_part (x : List UInt8) (f k : Nat) (hf : f ≤ k) (hk : k ≤ x.length) : (str x).extract f k = str ((x.take k).drop f) := by
  apply ByteArray.ext
  apply Array.ext'
  simp [str, ByteArray.data_extract]
  exact List.drop_take.symm

set_option maxRecDepth 100000 in
set_option maxHeartbeats 4000000 in
theorem words100_calls (x : List UInt8) (w : World) (hx : x.length ≤ 1000000) :
    Calls Tryd.prog 100 #[.string (str x)] w fun e w' => (∃ v, e = .returned v ∧ OwnS w' w.heap.size v (splitL 32 x)) ∧ Below w.heap.size w w' := by
  have hsz : (str x).size = x.length := rfl
  go_enter Tryd.func100, Tryd.ntmps100
  go_wp2
  go_loopw [3, 4, 5] (fun v f i wr => Below w.heap.size w wr ∧ ((∃ (k g : Nat) (o : List (List UInt8)), i = .int .i64 k ∧ f = .int .i64 g ∧ Cut 32 x k g o ∧ OwnS wr w.heap.size v o) ∨ (i = .int .i64 ((x.length : Int) + 1) ∧ OwnS wr w.heap.size v (splitL 32 x)))) (fun _ _ i _ => x.length + 2 - (intOf i).toNat)
  case atStart => exact ⟨Below.refl _ _, .inl ⟨0, 0, [], rfl, rfl, Cut.zero _ _, OwnS.nil _ _⟩⟩
  case round =>
    obtain ⟨hb, hrel⟩ := hrel
    have hbs := hb.size
    rcases hrel with ⟨k, g, o, rfl, rfl, hc, ho⟩ | ⟨rfl, ho⟩
    · have hk := hc.hk
      have hf := hc.hf
      have hol := hc.len
      have hex := extract_part x g k hf hk
      have HC := Lib.hid hc
      clear hc
      have hkI : (k : Int) ≤ (x.length : Int) := by omega
      have hgI : (0 : Int) ≤ (g : Int) ∧ (g : Int) ≤ (k : Int) := by omega
      by_cases hlt : k < x.length
      · have hne : ((k : Int) == (x.length : Int)) = false := by simp; omega
        have hne2 : ¬ (k : Int) = (x.length : Int) := by omega
        have hne3 : (k == x.length) = false := by simp; omega
        have hg0 : x[k]? = some (x.getD k 0) := by rw [List.getD_eq_getElem?_getD, List.getElem?_eq_getElem hlt]; rfl
        have hi0 := fun W => idx_strs (P := Tryd.prog) x k _ hg0 W Tryd.underlying9
        clear hg0
        have hsep := Lib.hid (HC.out.sep hlt)
        have hoth := Lib.hid (HC.out.other hlt)
        generalize x.getD k 0 = b at *
        by_cases hbb : b = 32
        · have HS := Lib.hid (hsep.out hbb)
          clear hsep hoth
          subst hbb
          go_wp2_with (first | (at_builtin; refine wpList_appendS _ rfl (.tmp 22) (.tmp 27) rfl w.heap.size _ o ((x.take k).drop g) rfl _ _ rfl (ho.alloc _) (World.cell?_alloc_at _ _ _ _ rfl) (by omega) (by simp; omega) ?_; intro v2 w2 ho2 hb2))
          go_roundw
          case rel => exact ⟨(al hb _).trans hb2, .inl ⟨k + 1, k + 1, _, by go_num, by go_num, HS.out, ho2⟩⟩
          case measure => simp [intOf]; omega
        · have HS := Lib.hid (hoth.out hbb)
          have hq : ¬ ((b.toNat : Int) = 32) := fun e => hbb (UInt8.toNat_inj.1 (by show b.toNat = 32; omega))
          have hq2 : ((b.toNat : Int) == 32) = false := by simpa using hq
          clear hsep hoth hbb
          go_wp2
          go_roundw
          case rel => exact ⟨hb, .inl ⟨k + 1, g, o, by go_num, rfl, HS.out, ho⟩⟩
          case measure => simp [intOf]; omega
      · obtain rfl : k = x.length := by omega
        have HE := Lib.hid HC.out.end_
        have hdt : (x.take x.length).drop g = x.drop g := by rw [List.take_length]
        rw [hdt] at hex
        have hee : ((x.length : Int) == (x.length : Int)) = true := by simp
        clear hdt
        go_wp2_with (first | (at_builtin; refine wpList_appendS _ rfl (.tmp 22) (.tmp 27) rfl w.heap.size _ o (x.drop g) rfl _ _ rfl (ho.alloc _) (World.cell?_alloc_at _ _ _ _ rfl) (by omega) (by simp; omega) ?_; intro v2 w2 ho2 hb2))
        go_roundw
        case rel => exact ⟨(al hb _).trans hb2, .inr ⟨by go_num, by rw [HE.out]; exact ho2⟩⟩
        case measure => simp [intOf]; try omega
    · have hn : ¬ (x.length : Int) + 1 ≤ (x.length : Int) := by omega
      go_wp2
      go_ret
      exact ⟨⟨_, rfl, ho⟩, hb⟩

/-! numbers -/
/-- no needless naught in front -/
def Trim (t : List UInt8) : Prop := t.head? ≠ some 48 ∨ t = [48]
theorem dec_valN : ∀ (k : Nat) (t : List UInt8), t.length = k → t ≠ [] → t.all isDig = true → Trim t → Lib.decDigits (decN t) = t ∧ (t.head? ≠ some 48 → 1 ≤ decN t) := by
  intro k
  induction k with
  | zero => intro t h h0; exact absurd (List.eq_nil_of_length_eq_zero h) h0
  | succ k ih =>
    intro t h h0 hd ht
    rcases List.eq_nil_or_concat t with e | ⟨l, b, e⟩
    · exact absurd e h0
    · rw [List.concat_eq_append] at e
      subst e
      simp only [List.length_append, List.length_cons, List.length_nil] at h
      simp only [List.all_append, List.all_cons, List.all_nil, Bool.and_true, Bool.and_eq_true] at hd
      have h2 : 48 ≤ b.toNat ∧ b.toNat ≤ 57 := of_decide_eq_true hd.2
      rw [decN_snoc]
      cases l with
      | nil =>
        have e1 : decN [] * 10 + (b.toNat - 48) = b.toNat - 48 := by simp [decN]
        rw [e1]
        have e2 : UInt8.ofNat (48 + (b.toNat - 48)) = b := by
          apply UInt8.toNat_inj.1
          simp; omega
        refine ⟨by rw [Lib.decDigits, dif_pos (by omega), e2]; rfl, fun hh => ?_⟩
        simp only [List.nil_append, List.head?_cons, ne_eq, Option.some.injEq] at hh
        have : b.toNat ≠ 48 := fun e => hh (UInt8.toNat_inj.1 (by rw [e]; rfl))
        omega
      | cons c l =>
        have hh : (c :: l).head? ≠ some 48 := by
          rcases ht with ht | ht
          · simpa using ht
          · simp at ht
        obtain ⟨i1, i2⟩ := ih (c :: l) (by omega) (by simp) hd.1 (.inl hh)
        have i3 := i2 hh
        refine ⟨?_, fun _ => by omega⟩
        have e2 : UInt8.ofNat (48 + (b.toNat - 48)) = b := by
          apply UInt8.toNat_inj.1
          simp; omega
        rw [Lib.decDigits, dif_neg (by omega), show (decN (c :: l) * 10 + (b.toNat - 48)) / 10 = decN (c :: l) by omega, show (decN (c :: l) * 10 + (b.toNat - 48)) % 10 = b.toNat - 48 by omega, i1, e2]
theorem dec_trim : ∀ (k u : Nat), u ≤ k → 1 ≤ u → (Lib.decDigits u).head? ≠ some 48 := by
  intro k
  induction k with
  | zero => intro u h1 h2; omega
  | succ k ih =>
    intro u h1 h2
    rw [Lib.decDigits]
    split
    · rename_i hlt
      simp only [List.head?_cons, ne_eq, Option.some.injEq]
      intro e
      have := congrArg UInt8.toNat e
      simp at this
      omega
    · have := ih (u / 10) (by omega) (by omega)
      cases hd : Lib.decDigits (u / 10) with
      | nil => exact absurd hd (digits_ne _)
      | cons c l => rw [hd] at this; simpa using this
theorem decLen : ∀ (k u : Nat), u < 10 ^ (k + 1) → (Lib.decDigits u).length ≤ k + 1 := by
  intro k
  induction k with
  | zero => intro u h; rw [Lib.decDigits, dif_pos (by omega)]; simp
  | succ k ih =>
    intro u h
    rw [Lib.decDigits]
    split
    · simp
    · have := ih (u / 10) (by rw [Nat.pow_succ] at h; omega)
      simp only [List.length_append, List.length_cons, List.length_nil]
      omega
theorem unhexR_size : ∀ (k : Nat) (p out : List UInt8), p.length = 2 * k → unhexR p = some out → out.length = k
  | 0, p, out, hl, h => by
    obtain rfl : p = [] := List.eq_nil_of_length_eq_zero (by omega)
    obtain rfl := Option.some.inj h
    rfl
  | k + 1, [], out, hl, h => by simp at hl
  | k + 1, [a], out, hl, h => by simp at hl; omega
  | k + 1, a :: b :: p, out, hl, h => by
    simp only [unhexR] at h
    split at h
    · obtain ⟨o, ho, rfl⟩ := Option.map_eq_some_iff.1 h
      have := unhexR_size k p o (by simp only [List.length_cons] at hl; omega) ho
      simp [this]
    · cases h
/-- the last byte of a row of the call's own -/
theorem OwnB.last {w : World} {B : Nat} {v : Value} {xs : List UInt8} {a : UInt8} (h : OwnB w B v (xs ++ [a])) :
    ∃ g cap, v = .slice (some ⟨g, 0, none⟩) (xs.length + 1) cap ∧ xs.length + 1 ≤ cap ∧ cap ≤ maxLen ∧ B ≤ g ∧ g < w.heap.size ∧ w.cell? ⟨g, xs.length, none⟩ = some (bv a) ∧ w.frozen? ⟨g, xs.length, none⟩ = false ∧
      (∀ b, OwnB (w.setCell ⟨g, xs.length, none⟩ (bv b)) B v (xs ++ [b])) := by
  rcases h.2 with ⟨rfl, h0⟩ | ⟨g, cap, cur, rfl, hb, hh, hn, hm, hsz, htk⟩
  · simp at h0
  · have hB : Blk w g 5 cur := hh
    simp only [List.length_append, List.length_cons, List.length_nil, Nat.zero_add, Nat.mul_one] at hn hsz htk
    have hget : cur[xs.length]? = some (bv a) := by
      have h1 : (cur.toList.take (xs.length + 1))[xs.length]? = (bvs (xs ++ [a]))[xs.length]? := by rw [htk]
      rw [List.getElem?_take, if_pos (by omega), bvs_append, List.getElem?_append_right (by rw [bvs_length]; omega), bvs_length] at h1
      simpa [bvs] using h1
    refine ⟨g, cap, by simp, hn, hm, hb, hB.lt, by rw [hB.cell]; exact hget, hB.frozen _, fun b => ?_⟩
    refine ⟨by simp [bvs_length], .inr ⟨g, cap, cur.setIfInBounds xs.length (bv b), by simp, hb, hB.set_ _ _, by simpa using hn, hm, by simpa using hsz, ?_⟩⟩
    simp only [List.length_append, List.length_cons, List.length_nil, Nat.zero_add, Nat.mul_one]
    apply List.ext_getElem?
    intro j
    have hj : (cur.toList.take (xs.length + 1))[j]? = (bvs (xs ++ [a]))[j]? := by rw [htk]
    rw [List.getElem?_take] at hj ⊢
    by_cases h1 : j < xs.length + 1
    · rw [if_pos h1] at hj ⊢
      simp only [Array.toList_setIfInBounds, List.getElem?_set]
      by_cases h2 : xs.length = j
      · rw [if_pos h2, if_pos (by simp; omega), ← h2, bvs_append, List.getElem?_append_right (by rw [bvs_length]; omega), bvs_length]
        simp [bvs]
      · rw [if_neg h2, hj, bvs_append, bvs_append, List.getElem?_append_left (by rw [bvs_length]; omega), List.getElem?_append_left (by rw [bvs_length]; omega)]
    · rw [if_neg h1, List.getElem?_eq_none (by simp [bvs_length]; omega)]

theorem undec_nil : undecL [] = none := by
  unfold undecL
  rw [if_neg]
  rintro ⟨h, _⟩
  exact digits_ne _ h
theorem top256_lt : top256 < 10 ^ 78 := by unfold top256; decide
theorem undec_long (s : List UInt8) (h : 78 < s.length) : undecL s = none := by
  unfold undecL
  rw [if_neg]
  rintro ⟨h1, h2⟩
  have := decLen 77 (decN s) (Nat.lt_trans h2 top256_lt)
  rw [h1] at this
  omega
theorem undec_lead (s : List UInt8) (h0 : s.head? = some 48) (h1 : 1 < s.length) : undecL s = none := by
  unfold undecL
  rw [if_neg]
  rintro ⟨h2, h3⟩
  rcases Nat.eq_zero_or_pos (decN s) with hz | hp
  · rw [hz, Lib.decDigits_one (by decide)] at h2
    rw [← h2] at h1
    simp at h1
  · have := dec_trim _ _ (Nat.le_refl _) hp
    rw [h2] at this
    exact this h0
theorem undec_ok (s : List UInt8) (h0 : s ≠ []) (hd : s.all isDig = true) (ht : Trim s) (hl : decN s < top256) : undecL s = some (decN s) := by
  rw [undecL_else s hl, if_pos (dec_valN _ s rfl h0 hd ht).1]

/-! digits of the document -/
/-- bytes of digits, as the document tells them -/
def unhexW (s : List UInt8) : List UInt8 × Bool := if s.length % 2 = 1 ∨ s.length = 0 then ([], false) else unhexV s
theorem unhexW_bad (s out : List UInt8) (k : Nat) (h : 2 * k + 1 < s.length) (ho : unhexR (s.take (2 * k)) = some out) (hb : ¬ (halfN (s.getD (2 * k) 0) < 16 ∧ halfN (s.getD (2 * k + 1) 0) < 16)) : unhexW s = ([], false) := by
  unfold unhexW
  split
  · rfl
  · unfold unhexV
    rw [unhexR_bad s out k h ho hb]
theorem unhexW_end (s out : List UInt8) (hl : s.length % 2 = 0) (h0 : 0 < s.length) (k : Nat) (hk : 2 * k = s.length) (ho : unhexR (s.take (2 * k)) = some out) : unhexW s = (out, true) := by
  unfold unhexW unhexV
  rw [if_neg (by omega), unhexR_end s out k (by omega) (by omega) ho]
  simp [hl]
/-- a digit's worth -/
theorem halfN_is (c : UInt8) : (48 ≤ c.toNat ∧ c.toNat ≤ 57 ∧ halfN c = c.toNat - 48) ∨ (97 ≤ c.toNat ∧ c.toNat ≤ 102 ∧ halfN c = c.toNat - 87) ∨ ((c.toNat < 48 ∨ (57 < c.toNat ∧ c.toNat < 97) ∨ 102 < c.toNat) ∧ halfN c = 16) := by
  have : ∀ n : Fin 256, (48 ≤ n.val ∧ n.val ≤ 57 ∧ halfN (UInt8.ofNat n.val) = n.val - 48) ∨ (97 ≤ n.val ∧ n.val ≤ 102 ∧ halfN (UInt8.ofNat n.val) = n.val - 87) ∨ ((n.val < 48 ∨ (57 < n.val ∧ n.val < 97) ∨ 102 < n.val) ∧ halfN (UInt8.ofNat n.val) = 16) := by decide +kernel
  have h := this ⟨c.toNat, c.toNat_lt⟩
  simp only [UInt8.ofNat_toNat] at h
  exact h
theorem undig_unhex (s : List UInt8) (n : Nat) (hn : 0 < n) : ((undigL s).2 = true ∧ (undigL s).1.length = n) ↔ ((unhexW s).2 = true ∧ (unhexW s).1.length = n) := by
  by_cases h : s = [46]
  · subst h
    rw [undigL, if_pos rfl, unhexW, if_pos (by decide)]
    simp
    omega
  · rw [undigL, if_neg h]
    unfold unhexW
    by_cases hs : s.length % 2 = 1 ∨ s.length = 0
    · rw [if_pos hs]
      have h2 : (unhexV s).2 = false ∨ (unhexV s).1 = [] := by
        rcases hs with hs | hs
        · left
          unfold unhexV
          cases unhexR s with
          | none => rfl
          | some o => simp [hs]
        · right
          obtain rfl := List.eq_nil_of_length_eq_zero hs
          rfl
      rcases h2 with h2 | h2
      · simp [h2]
      · simp [h2]
    · rw [if_neg hs]
      simp only [Bool.and_eq_true, decide_eq_true_eq]
      constructor
      · rintro ⟨⟨h1, h2⟩, h3⟩; exact ⟨h1, h3⟩
      · rintro ⟨h1, h3⟩; exact ⟨⟨h1, by omega⟩, h3⟩
theorem undig_unhex_eq (s : List UInt8) (n : Nat) (hn : 0 < n) (h : (unhexW s).2 = true ∧ (unhexW s).1.length = n) : (undigL s).1 = (unhexW s).1 := by
  by_cases hs : s = [46]
  · subst hs
    rw [unhexW, if_pos (by decide)] at h
    simp at h
  · rw [undigL, if_neg hs]
    unfold unhexW at h ⊢
    split
    · rename_i h1
      rw [if_pos h1] at h
      simp at h
    · rfl
/-- the code that a word tells -/
theorem undig_code (s : List UInt8) (h : s ≠ [46]) : ((undigL s).2 = true ↔ (unhexW s).2 = true) ∧ ((unhexW s).2 = true → (undigL s).1 = (unhexW s).1) := by
  rw [undigL, if_neg h]
  unfold unhexW
  by_cases hs : s.length % 2 = 1 ∨ s.length = 0
  · rw [if_pos hs]
    have h2 : (unhexV s).2 = false ∨ (unhexV s).1 = [] := by
      rcases hs with hs | hs
      · left
        unfold unhexV
        cases unhexR s with
        | none => rfl
        | some o => simp [hs]
      · right
        obtain rfl := List.eq_nil_of_length_eq_zero hs
        rfl
    rcases h2 with h2 | h2
    · simp [h2]
    · simp [h2]
  · rw [if_neg hs]
    have hlen : (unhexV s).2 = true → 0 < (unhexV s).1.length := by
      unfold unhexV
      cases hu : unhexR s with
      | none => simp
      | some o =>
        intro _
        have := unhexR_size (s.length / 2) s o (by omega) hu
        simp only
        omega
    simp only [Bool.and_eq_true, decide_eq_true_eq, implies_true, and_true]
    exact ⟨fun hh => hh.1, fun hh => ⟨hh, hlen hh⟩⟩
end Go.Proofs.YtfjfjjcdlgdbcaaDoor
