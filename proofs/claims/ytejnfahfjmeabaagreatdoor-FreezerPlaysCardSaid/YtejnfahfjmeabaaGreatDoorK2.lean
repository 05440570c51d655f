/- the texts M5, M6, M7, M8, M9, M10, M11, M12, M13, M14, M15 of this proof, one behind the other -/
import Derived.Test.YtejnfahfjmeabaaGreatDoorK1
import Derived.Lib.LazyBuf
import Derived.WideLaws
import Derived.Lib.AppendZerosOnto
set_option linter.unusedSimpArgs false
set_option linter.unusedVariables false
namespace Go.Proofs.YtejnfahfjmeabaaGreatDoor
open Go.RowKit
set_option linter.unusedSimpArgs false
set_option linter.unusedVariables false

/-- where s[k:] begins -/
def subA (A : Option Addr) (k c : Nat) : Option Addr := if c = k then A else A.map (·.add k)
theorem addr_add0 (a : Addr) : a.add 0 = a := by unfold Addr.add; split <;> simp_all
theorem map_add0 (A : Option Addr) : A.map (fun a => a.add 0) = A := by cases A with
  | none => rfl
  | some a => simp [addr_add0]
theorem sizeOf5 (w : World) : (sizeOf 5).run Tryz.prog w = .ok 1 w := by kernel_rfl
theorem run_sliceLo (w : World) (A : Option Addr) (n c k : Nat) (hk : k ≤ n) (hn : n ≤ c) :
    (Instr.sliceAt 34 (.slice A n c) (some (.int .i64 (k : Int))) none none).run Tryz.prog w = .ok (.slice (subA A k c) (n - k) (c - k)) w := by
  have h1 : (0 : Int) ≤ (k : Int) ∧ (k : Int) ≤ (n : Int) := by omega
  simp [Instr.sliceAt, Instr.slice, Instr.sliceBounds, Instr.sliceBound, run_underlying Tryz.underlying34, sizeOf5, asIntOf, h1, subA]
  intro h; omega
theorem run_sliceHi (w : World) (A : Option Addr) (n c m : Nat) (q : IntKind) (hm : m ≤ c) :
    (Instr.sliceAt 34 (.slice A n c) none (some (.int q (m : Int))) none).run Tryz.prog w = .ok (.slice A m c) w := by
  have h1 : (0 : Int) ≤ (m : Int) ∧ (m : Int) ≤ (c : Int) := by omega
  simp [Instr.sliceAt, Instr.slice, Instr.sliceBounds, Instr.sliceBound, run_underlying Tryz.underlying34, sizeOf5, asIntOf, h1, map_add0]
  intro h; omega
set_option maxRecDepth 100000 in
theorem wpList_sliceLo {w : World} {ops : Array Oper} {rest : List Oper} {o : Oper} {a : Act} {Q : Exit → Act → World → Prop} (hgd : o.guard = none) (x lo : Operand) (ho : o.op = .slice 34 x (some lo) none none) (A : Option Addr) (n c k : Nat) (hx : a.eval x = .slice A n c) (hlo : a.eval lo = .int .i64 (k : Int)) (hk : k ≤ n) (hn : n ≤ c)
    (h : wpList Tryz.prog ops Q rest (a.put o.dst (.slice (subA A k c) (n - k) (c - k))) w) : wpList Tryz.prog ops Q (o :: rest) a w :=
  wpList_plain hgd fun K hK => by
    unfold Oper.wp execOp
    simp only [ho, Option.map_some, Option.map_none, hx, hlo, Sem.run_bind, Sem.run_pure, Result.andThen_ok, run_sliceLo w A n c k hk hn]
    exact hK _ _ h
set_option maxRecDepth 100000 in
theorem wpList_sliceHi {w : World} {ops : Array Oper} {rest : List Oper} {o : Oper} {a : Act} {Q : Exit → Act → World → Prop} (hgd : o.guard = none) (x hi : Operand) (ho : o.op = .slice 34 x none (some hi) none) (A : Option Addr) (n c m : Nat) (q : IntKind) (hx : a.eval x = .slice A n c) (hhi : a.eval hi = .int q (m : Int)) (hm : m ≤ c)
    (h : wpList Tryz.prog ops Q rest (a.put o.dst (.slice A m c)) w) : wpList Tryz.prog ops Q (o :: rest) a w :=
  wpList_plain hgd fun K hK => by
    unfold Oper.wp execOp
    simp only [ho, Option.map_some, Option.map_none, hx, hhi, Sem.run_bind, Sem.run_pure, Result.andThen_ok, run_sliceHi w A n c m q hm]
    exact hK _ _ h
theorem RdB.sub {w : World} {A : Option Addr} {n c : Nat} {xs : List UInt8} (h : RdB w A n c xs) (k : Nat) (hk : k ≤ n) : RdB w (subA A k c) (n - k) (c - k) (xs.drop k) := by
  obtain ⟨h1, h2, h3, h4⟩ := h
  refine ⟨by rw [List.length_drop, h1], by omega, by omega, fun hn => ?_⟩
  obtain ⟨ad, rfl, hc⟩ := h4 (by omega)
  refine ⟨ad.add k, by unfold subA; rw [if_neg (by omega)]; rfl, fun j u hu => ?_⟩
  rw [List.getElem?_drop] at hu
  have e : (ad.add k).add j = ad.add (k + j) := by
    unfold Addr.add
    by_cases h0 : k = 0 <;> by_cases h1 : j = 0 <;> simp_all [Nat.add_assoc]
  rw [e]
  exact hc _ u hu
theorem RdB.pre {w : World} {A : Option Addr} {n c : Nat} {xs : List UInt8} (h : RdB w A n c xs) (m : Nat) (hm : m ≤ n) : RdB w A m c (xs.take m) := by
  obtain ⟨h1, h2, h3, h4⟩ := h
  refine ⟨by rw [List.length_take, h1]; omega, by omega, h3, fun hn => ?_⟩
  obtain ⟨ad, rfl, hc⟩ := h4 (by omega)
  refine ⟨ad, rfl, fun j u hu => ?_⟩
  rw [List.getElem?_take] at hu
  split at hu
  · exact hc j u hu
  · cases hu
theorem OwnB.empty (w : World) (B : Nat) (hB : B ≤ w.heap.size) : OwnB (w.alloc (.cells #[] 5)) B (.slice (some ⟨w.heap.size, 0, none⟩) 0 0) [] :=
  ⟨rfl, .inr ⟨w.heap.size, 0, #[], rfl, hB, heap_alloc_new w _, Nat.le_refl _, by unfold maxLen; omega, rfl, rfl⟩⟩
set_option maxRecDepth 100000 in
set_option maxHeartbeats 1000000 in
theorem BClone_calls (ad : Addr) (n c : Nat) (xs : List UInt8) (w : World) (h : RdB w (some ad) n c xs) (hs : n ≤ 140737488355328) : Calls Tryz.prog 91 #[.slice (some ad) n c] w (NewB w xs) := by
  have H := Lib.hid h
  have hnil : (binOp .eql 34 (.slice (some ad) n c) (.slice none 0 0)).run Tryz.prog w = .ok (.bool false) w := Lib.run_eql_slice_nil w 34 5 (some ad) n c 0 0 Tryz.underlying34
  clear h
  go_enter Tryz.func91, Tryz.ntmps91
  go_wp2_with (at_builtin; refine wpList_appendB _ rfl (.tmp 5) (.tmp 6) rfl w.heap.size _ [] xs rfl _ _ _ rfl (OwnB.empty w w.heap.size (Nat.le_refl _)) (H.out.alloc _) (by simp; omega) (by simp) ?_; intro v4 w4 ho4 hg4 hb4)
  go_ret
  exact ⟨v4, rfl, by simpa using ho4, ((Below.refl _ _).alloc (Nat.le_refl _) _).trans hb4⟩
theorem takeG_err : ∀ (b : List UInt8) (i a : Nat), (takeG i a b).2.2 ≠ 0 → (takeG i a b).2.1 = 0
  | [], i, a, _ => rfl
  | c :: r, i, a, h => by
    rw [takeG] at h ⊢
    split at h
    · rename_i h1
      rw [if_pos h1]
    · rename_i h1
      rw [if_neg h1]
      split at h
      · simp at h
      · rename_i h2
        rw [if_neg h2]
        exact takeG_err r _ _ h
def UnfR (w : World) (xs : List UInt8) (e : Ending) (w' : World) : Prop := ∃ v, e = .returned (.tuple #[v, .int .i64 ((unframeL crcN xs).2.1 : Int), .int .i64 ((unframeL crcN xs).2.2 : Int)]) ∧ OwnB w' w.heap.size v (unframeL crcN xs).1 ∧ Below w.heap.size w w'
theorem unfR_of {w w' : World} {xs : List UInt8} {v : Value} {body : List UInt8} {k e : Nat} (h : unframeL crcN xs = (body, k, e)) (ho : OwnB w' w.heap.size v body) (hb : Below w.heap.size w w') : UnfR w xs (.returned (.tuple #[v, .int .i64 (k : Int), .int .i64 (e : Int)])) w' := ⟨v, by rw [h], by rw [h]; exact ho, hb⟩
section
set_option maxRecDepth 100000 in
set_option maxHeartbeats 1000000 in
theorem Unframe_short (A : Option Addr) (n c : Nat) (xs : List UInt8) (w : World) (h : RdB w A n c xs) (h4 : n < 4) : Calls Tryz.prog 57 #[.slice A n c] w (UnfR w xs) := by
  have hl := h.1
  have HU := Lib.hid (show unframeL crcN xs = ([], 0, 20) by unfold unframeL; rw [if_pos (by omega)])
  have hc := Lib.hid (Unfixed4_calls A n c xs w h)
  have hu : Unf4 xs = (0, 20) := by unfold Unf4; rw [if_pos (by omega)]
  rw [hu] at hc
  clear h hl hu
  go_enter Tryz.func57, Tryz.ntmps57
  go_wp2_with fail
  refine hc.out.mono ?_
  rintro e w1 ⟨rfl, rfl⟩
  go_wp2_with fail
  go_ret3
  exact unfR_of HU.out (OwnB.nil _ _) (Below.refl _ _)
set_option maxRecDepth 100000 in
set_option maxHeartbeats 1000000 in
theorem Unframe_long (A : Option Addr) (n c : Nat) (xs : List UInt8) (w : World) (h : RdB w A n c xs) (h4 : 4 ≤ n) (hs : n ≤ 140737488355328) : Calls Tryz.prog 57 #[.slice A n c] w (UnfR w xs) := by
  have hl := h.1
  have hm : c ≤ 9223372036854775807 := by have := h.2.2.1; unfold maxLen at this; omega
  have hnc := h.2.1
  have hc := Lib.hid (Unfixed4_calls A n c xs w h)
  have hu : Unf4 xs = (unle (xs.take 4), 0) := by unfold Unf4; rw [if_neg (by omega)]
  rw [hu] at hc
  have htk := Lib.hid (Take_calls _ _ _ _ w (h.sub 4 h4))
  have hcount := takeG_count (xs.drop 4) 0 0
  have HD := Lib.hid (show unframeL crcN xs = (let t := takeL (xs.drop 4)
    let rest := xs.drop (min xs.length (4 + t.2.1))
    if t.2.2 ≠ 0 then ([], 0, t.2.2)
    else if 1048576 < t.1 then ([], 0, 21)
    else if rest.length < t.1 then ([], 0, 20)
    else if crcN (rest.take t.1) ≠ unle (xs.take 4) then ([], 0, 22)
    else (rest.take t.1, 4 + t.2.1 + t.1, 0)) by unfold unframeL; rw [if_neg (by omega)])
  have s4 := run_sliceLo w A n c 4 h4 hnc
  have hz := takeG_err (xs.drop 4) 0 0
  change (takeL (xs.drop 4)).2.2 ≠ 0 → (takeL (xs.drop 4)).2.1 = 0 at hz
  change (takeL (xs.drop 4)).2.2 = 0 → 0 < (takeL (xs.drop 4)).2.1 ∧ (takeL (xs.drop 4)).2.1 ≤ 0 + (xs.drop 4).length at hcount
  rw [List.length_drop] at hcount
  have H := Lib.hid h
  have HLX := Lib.hid hl
  have HAS : Hid (∃ ad0, A = some ad0) := by
    obtain ⟨ad0, e0, _⟩ := h.2.2.2 (by omega)
    exact ⟨ad0, e0⟩
  generalize takeL (xs.drop 4) = t at *
  obtain ⟨m, k, e⟩ := t
  simp only at hz hcount HD
  have hk4 : 4 + k ≤ n := by
    by_cases he : e = 0
    · have := hcount he; omega
    · rw [hz he]; omega
  have hmin : min xs.length (4 + k) = 4 + k := by omega
  rw [hmin] at HD
  obtain ⟨q, hq⟩ : ∃ q, q = 4 + k := ⟨_, rfl⟩
  have hminI : (if (4 : Int) + (k : Int) < (n : Int) then (4 : Int) + (k : Int) else (n : Int)) = (q : Int) := by split <;> omega
  have hqn : q ≤ n := by omega
  rw [← hq] at HD
  have h5 := Lib.hid (h.sub q hqn)
  have hrl : (xs.drop q).length = n - q := by rw [List.length_drop]; omega
  have HQ := Lib.hid hq
  have hkI : (0 : Int) ≤ (k : Int) ∧ (k : Int) ≤ (n : Int) := by omega
  clear hz hcount hmin h hl hu hq hk4
  go_enter Tryz.func57, Tryz.ntmps57
  go_wp2_with fail
  refine hc.out.mono ?_
  rintro e w1 ⟨rfl, rfl⟩
  go_wp2_with (refine wpList_sliceLo rfl (.tmp 19) (.const (.int .i64 4)) rfl A n c 4 rfl rfl h4 hnc ?_)
  refine htk.out.mono ?_
  rintro e w1 ⟨hR, rfl⟩
  simp only [TakeR] at hR
  subst hR
  by_cases he : e = 0
  · subst he
    rw [if_neg (by simp)] at HD
    by_cases h20 : 1048576 < m
    · have HU := Lib.hid (show unframeL crcN xs = ([], 0, 21) by rw [HD.out, if_pos h20])
      have hI : (1048576 : Int) < (m : Int) := by omega
      clear HD
      go_wp2_with (refine wpList_sliceLo rfl (.tmp 25) (.tmp 30) rfl A n c q rfl rfl hqn hnc ?_)
      go_ret3
      exact unfR_of HU.out (OwnB.nil _ _) (Below.refl _ _)
    · have hI : ¬ (1048576 : Int) < (m : Int) := by omega
      rw [if_neg h20, hrl] at HD
      have hwr : IntKind.u64.wrap ((n - q : Nat) : Int) = ((n - q : Nat) : Int) := by simp [IntKind.wrap, IntKind.bits, IntKind.signed]; omega
      obtain ⟨p, hp⟩ : ∃ p, p = n - q := ⟨_, rfl⟩
      rw [← hp] at HD hwr h5
      have hpn : p ≤ n := by omega
      have HP := Lib.hid hp
      by_cases hsh : p < m
      · have HU := Lib.hid (show unframeL crcN xs = ([], 0, 20) by rw [HD.out, if_pos hsh])
        have hI2 : (p : Int) < (m : Int) := by omega
        clear HD hsh hp
        go_wp2_with (refine wpList_sliceLo rfl (.tmp 25) (.tmp 30) rfl A n c q rfl rfl hqn hnc ?_; rw [← HP.out])
        go_ret3
        exact unfR_of HU.out (OwnB.nil _ _) (Below.refl _ _)
      · rw [if_neg hsh] at HD
        have hI2 : ¬ (p : Int) < (m : Int) := by omega
        have hmp : m ≤ p := by omega
        have hpc := h5.out.2.1
        have hmc : m ≤ c - q := by omega
        have hpre := h5.out.pre m hmp
        have hsum := Lib.hid (Sum_calls _ _ _ _ w hpre)
        have hs1 : ∃ ad1, subA A q c = some ad1 := by
          obtain ⟨ad0, rfl⟩ := HAS.out
          unfold subA
          split
          · exact ⟨_, rfl⟩
          · exact ⟨_, rfl⟩
        obtain ⟨ad1, hs1⟩ := hs1
        have hclone := Lib.hid (BClone_calls ad1 m (c - q) ((xs.drop q).take m) w (by rw [← hs1]; exact hpre) (by omega))
        rw [← hs1] at hclone
        have hmI : (0 : Int) ≤ (m : Int) ∧ (m : Int) ≤ 1048576 := by omega
        by_cases hcr : crcN ((xs.drop q).take m) = unle (xs.take 4)
        · rw [if_neg (by simp [hcr])] at HD
          have hE : ((crcN ((xs.drop q).take m) : Int) != (unle (xs.take 4) : Int)) = false := by rw [hcr]; simp
          have HU := Lib.hid (show unframeL crcN xs = ((xs.drop q).take m, 4 + k + m, 0) by have e := HD.out; rw [show q + m = 4 + k + m by rw [HQ.out]] at e; exact e)
          clear HD hsh hp hs1 hpre hcr
          generalize crcN ((xs.drop q).take m) = cr at *
          generalize unle (xs.take 4) = cs at *
          go_wp2_with (first | (refine wpList_sliceLo rfl (.tmp 25) (.tmp 30) rfl A n c q rfl rfl hqn hnc ?_; rw [← HP.out]) | (refine wpList_sliceHi rfl (.tmp 46) (.tmp 47) rfl (subA A q c) p (c - q) m .u64 rfl rfl hmc ?_) | (go_at_call 90; refine hsum.out.mono ?_; rintro e w2 ⟨rfl, rfl⟩) | (refine wpList_sliceHi rfl (.tmp 52) (.tmp 53) rfl (subA A q c) p (c - q) m .u64 rfl rfl hmc ?_) | (go_at_call 91; refine hclone.out.mono ?_; rintro e w2 ⟨v2, rfl, ho2, hb2⟩))
          go_ret3
          exact unfR_of HU.out ho2 hb2
        · rw [if_pos hcr] at HD
          have hE : ((crcN ((xs.drop q).take m) : Int) != (unle (xs.take 4) : Int)) = true := by rw [bne_iff_ne]; omega
          have HU := Lib.hid HD.out
          clear HD hsh hp hs1 hpre hcr
          generalize crcN ((xs.drop q).take m) = cr at *
          generalize unle (xs.take 4) = cs at *
          go_wp2_with (first | (refine wpList_sliceLo rfl (.tmp 25) (.tmp 30) rfl A n c q rfl rfl hqn hnc ?_; rw [← HP.out]) | (refine wpList_sliceHi rfl (.tmp 46) (.tmp 47) rfl (subA A q c) p (c - q) m .u64 rfl rfl hmc ?_) | (go_at_call 90; refine hsum.out.mono ?_; rintro e w2 ⟨rfl, rfl⟩))
          go_ret3
          exact unfR_of HU.out (OwnB.nil _ _) (Below.refl _ _)
  · have HU := Lib.hid (show unframeL crcN xs = ([], 0, e) by rw [HD.out, if_pos he])
    have hE : ((e : Int) != 0) = true := by rw [bne_iff_ne]; omega
    have hE2 : ¬ (e : Int) = 0 := by omega
    clear HD he
    go_wp2_with (refine wpList_sliceLo rfl (.tmp 25) (.tmp 30) rfl A n c q rfl rfl hqn hnc ?_)
    go_ret3
    exact unfR_of HU.out (OwnB.nil _ _) (Below.refl _ _)
end
theorem Unframe_calls (A : Option Addr) (n c : Nat) (xs : List UInt8) (w : World) (h : RdB w A n c xs) (hs : n ≤ 140737488355328) : Calls Tryz.prog 57 #[.slice A n c] w (UnfR w xs) := by
  by_cases h4 : n < 4
  · exact Unframe_short A n c xs w h h4
  · exact Unframe_long A n c xs w h (by omega) hs
end Go.Proofs.YtejnfahfjmeabaaGreatDoor
namespace Go.Proofs.YtejnfahfjmeabaaGreatDoor
open Go.RowKit
set_option linter.unusedSimpArgs false
set_option linter.unusedVariables false

/-- what a disk counts -/
structure HdS where
  files : Nat
  count : Nat
  fail : Nat
  halt : Int
  down : Bool
def HdS.beginsE (D : HdS) : Nat := if D.halt = 0 then 17 else if D.down = true then 17 else if D.fail = 1 then 16 else 0
def HdS.begins (D : HdS) : HdS :=
  { D with count := D.count + 1, fail := D.fail - 1, down := D.down || decide (D.halt = 0), halt := if D.halt = 0 then 0 else if D.down = true then D.halt else max (D.halt - 1) (-1) }
structure HdS.Fit (D : HdS) : Prop where
  hf : D.files ≤ 1048576
  hc : D.count ≤ 4611686018427387904
  hl : D.fail ≤ 4611686018427387904
  h0 : -1 ≤ D.halt
  h1 : D.halt ≤ 4611686018427387904
/-- a disk's cells -/
def dk (cap : Nat) (nm sm : Nat) (pv : Value) (D : HdS) : Array Value :=
  #[.int .i64 (cap : Int), .map (some nm), .map (some sm), pv, .int .i64 (D.files : Int), .int .i64 (D.count : Int), .int .i64 (D.fail : Int), .int .i64 D.halt, .bool D.down]
def one (b : Nat) : Blocks := fun k => k = b
theorem Blk.setH {w : World} {d : Nat} {t : TypeId} {cs : Array Value} (h : Blk w d t cs) (i : Nat) (v : Value) : Blk (w.setCell ⟨d, i, none⟩ v) d t (cs.setIfInBounds i v) := h.set_ i v
theorem Blk.eq_ {w : World} {d : Nat} {t : TypeId} {cs cs' : Array Value} (h : Blk w d t cs) (e : cs = cs') : Blk w d t cs' := e ▸ h
theorem Upd.at_ {d : Nat} {w w' : World} (h : Upd (one d) (one d) w w') (i : Nat) (v : Value) : Upd (one d) (one d) w (w'.setCell ⟨d, i, none⟩ v) := h.set (p := ⟨d, i, none⟩) (show d = d from rfl) v
/-- how begins ends -/
def BegR (w : World) (d cap nm sm : Nat) (pv : Value) (D : HdS) (e : Ending) (w' : World) : Prop :=
  e = .returned (.int .i64 (D.beginsE : Int)) ∧ Blk w' d 75 (dk cap nm sm pv D.begins) ∧ Upd (one d) (one d) w w'
theorem begR_of {w w' : World} {d cap nm sm : Nat} {pv : Value} {D D' : HdS} {n : Nat} (h1 : D.beginsE = n) (h2 : D.begins = D') (hb : Blk w' d 75 (dk cap nm sm pv D')) (hu : Upd (one d) (one d) w w') : BegR w d cap nm sm pv D (.returned (.int .i64 (n : Int))) w' := ⟨by rw [h1], by rw [h2]; exact hb, hu⟩
theorem dk_cells {w : World} {d cap nm sm : Nat} {pv : Value} {D : HdS} (h : Blk w d 75 (dk cap nm sm pv D)) :
    w.cell? ⟨d, 0, none⟩ = some (.int .i64 (cap : Int)) ∧ w.cell? ⟨d, 1, none⟩ = some (.map (some nm)) ∧ w.cell? ⟨d, 2, none⟩ = some (.map (some sm)) ∧ w.cell? ⟨d, 3, none⟩ = some pv ∧ w.cell? ⟨d, 4, none⟩ = some (.int .i64 (D.files : Int)) ∧ w.cell? ⟨d, 5, none⟩ = some (.int .i64 (D.count : Int)) ∧ w.cell? ⟨d, 6, none⟩ = some (.int .i64 (D.fail : Int)) ∧ w.cell? ⟨d, 7, none⟩ = some (.int .i64 D.halt) ∧ w.cell? ⟨d, 8, none⟩ = some (.bool D.down) :=
  ⟨h.cell 0, h.cell 1, h.cell 2, h.cell 3, h.cell 4, h.cell 5, h.cell 6, h.cell 7, h.cell 8⟩
set_option maxRecDepth 100000 in
set_option maxHeartbeats 1000000 in
theorem begins_ok (d cap nm sm : Nat) (pv : Value) (D : HdS) (w : World) (h : Blk w d 75 (dk cap nm sm pv D)) (hF : D.Fit) (h0 : D.halt ≠ 0) (hd : D.down = false) (hf : D.fail ≠ 1) :
    Calls Tryz.prog 101 #[.pointer (some ⟨d, 0, none⟩)] w (BegR w d cap nm sm pv D) := by
  obtain ⟨c0, c1, c2, c3, c4, c5, c6, c7, c8⟩ := dk_cells h
  have f5 := h.frozen 5
  have f6 := h.frozen 6
  have f7 := h.frozen 7
  have H := Lib.hid h
  have e1 := Lib.hid (show D.beginsE = 0 by unfold HdS.beginsE; rw [if_neg h0, if_neg (by rw [hd]; simp), if_neg hf])
  have e2 := Lib.hid (show D.begins = { D with count := D.count + 1, fail := D.fail - 1, halt := max (D.halt - 1) (-1) } by unfold HdS.begins; rw [if_neg h0, if_neg (by rw [hd]; simp), hd]; simp [h0])
  obtain ⟨hF1, hF2, hF3, hF4, hF5⟩ := hF
  rw [hd] at c8
  have hq0 : (D.halt == 0) = false := by rw [beq_eq_false_iff_ne]; exact h0
  have hq1 : ((D.fail : Int) == 1) = false := by rw [beq_eq_false_iff_ne]; omega
  have hcI : (0 : Int) ≤ (D.count : Int) ∧ (D.count : Int) ≤ 4611686018427387904 := by omega
  have hfI : (0 : Int) ≤ (D.fail : Int) ∧ (D.fail : Int) ≤ 4611686018427387904 := by omega
  clear h h0 hd hf
  go_enter Tryz.func101, Tryz.ntmps101
  go_wp2_with fail
  all_goals
    go_ret
    refine begR_of e1.out e2.out ?_ ?_
    · refine Blk.eq_ (((H.out.setH 5 _).setH 6 _).setH 7 _) ?_
      simp [dk]
      omega
    · exact (((Upd.refl (one d) w).at_ _ _).at_ _ _).at_ _ _
set_option maxRecDepth 100000 in
set_option maxHeartbeats 1000000 in
theorem begins_io (d cap nm sm : Nat) (pv : Value) (D : HdS) (w : World) (h : Blk w d 75 (dk cap nm sm pv D)) (hF : D.Fit) (h0 : D.halt ≠ 0) (hd : D.down = false) (hf : D.fail = 1) :
    Calls Tryz.prog 101 #[.pointer (some ⟨d, 0, none⟩)] w (BegR w d cap nm sm pv D) := by
  obtain ⟨c0, c1, c2, c3, c4, c5, c6, c7, c8⟩ := dk_cells h
  have f5 := h.frozen 5
  have f6 := h.frozen 6
  have f7 := h.frozen 7
  have H := Lib.hid h
  have e1 := Lib.hid (show D.beginsE = 16 by unfold HdS.beginsE; rw [if_neg h0, if_neg (by rw [hd]; simp), if_pos hf])
  have e2 := Lib.hid (show D.begins = { D with count := D.count + 1, fail := 0, halt := max (D.halt - 1) (-1) } by unfold HdS.begins; rw [if_neg h0, if_neg (by rw [hd]; simp), hd, hf]; simp [h0])
  obtain ⟨hF1, hF2, hF3, hF4, hF5⟩ := hF
  rw [hd] at c8
  rw [hf] at c6
  have c6' : w.cell? ⟨d, 6, none⟩ = some (.int .i64 1) := c6
  have hq0 : (D.halt == 0) = false := by rw [beq_eq_false_iff_ne]; exact h0
  have hcI : (0 : Int) ≤ (D.count : Int) ∧ (D.count : Int) ≤ 4611686018427387904 := by omega
  clear h h0 hd hf c6
  go_enter Tryz.func101, Tryz.ntmps101
  go_wp2_with fail
  all_goals
    go_ret
    refine begR_of e1.out e2.out ?_ ?_
    · refine Blk.eq_ (((H.out.setH 5 _).setH 6 _).setH 7 _) ?_
      simp [dk]
      try omega
    · exact (((Upd.refl (one d) w).at_ _ _).at_ _ _).at_ _ _
set_option maxRecDepth 100000 in
set_option maxHeartbeats 1000000 in
theorem begins_down (d cap nm sm : Nat) (pv : Value) (D : HdS) (w : World) (h : Blk w d 75 (dk cap nm sm pv D)) (hF : D.Fit) (h0 : D.halt ≠ 0) (hd : D.down = true) :
    Calls Tryz.prog 101 #[.pointer (some ⟨d, 0, none⟩)] w (BegR w d cap nm sm pv D) := by
  obtain ⟨c0, c1, c2, c3, c4, c5, c6, c7, c8⟩ := dk_cells h
  have f5 := h.frozen 5
  have f6 := h.frozen 6
  have H := Lib.hid h
  have e1 := Lib.hid (show D.beginsE = 17 by unfold HdS.beginsE; rw [if_neg h0, if_pos hd])
  have e2 := Lib.hid (show D.begins = { D with count := D.count + 1, fail := D.fail - 1 } by unfold HdS.begins; rw [if_neg h0, if_pos hd, hd]; simp [hd])
  obtain ⟨hF1, hF2, hF3, hF4, hF5⟩ := hF
  rw [hd] at c8
  have hq0 : (D.halt == 0) = false := by rw [beq_eq_false_iff_ne]; exact h0
  have hcI : (0 : Int) ≤ (D.count : Int) ∧ (D.count : Int) ≤ 4611686018427387904 := by omega
  have hfI : (0 : Int) ≤ (D.fail : Int) ∧ (D.fail : Int) ≤ 4611686018427387904 := by omega
  clear h h0 hd
  go_enter Tryz.func101, Tryz.ntmps101
  go_wp2_with fail
  all_goals
    go_ret
    refine begR_of e1.out e2.out ?_ ?_
    · refine Blk.eq_ ((H.out.setH 5 _).setH 6 _) ?_
      simp [dk]
      try omega
    · exact ((Upd.refl (one d) w).at_ _ _).at_ _ _
set_option maxRecDepth 100000 in
set_option maxHeartbeats 1000000 in
theorem begins_halt (d cap nm sm : Nat) (pv : Value) (D : HdS) (w : World) (h : Blk w d 75 (dk cap nm sm pv D)) (hF : D.Fit) (h0 : D.halt = 0) :
    Calls Tryz.prog 101 #[.pointer (some ⟨d, 0, none⟩)] w (BegR w d cap nm sm pv D) := by
  obtain ⟨c0, c1, c2, c3, c4, c5, c6, c7, c8⟩ := dk_cells h
  have f5 := h.frozen 5
  have f6 := h.frozen 6
  have f8 := h.frozen 8
  have H := Lib.hid h
  have e1 := Lib.hid (show D.beginsE = 17 by unfold HdS.beginsE; rw [if_pos h0])
  have e2 := Lib.hid (show D.begins = { D with count := D.count + 1, fail := D.fail - 1, down := true, halt := 0 } by unfold HdS.begins; rw [if_pos h0]; simp [h0])
  obtain ⟨hF1, hF2, hF3, hF4, hF5⟩ := hF
  rw [h0] at c7
  have HH := Lib.hid h0
  have hcI : (0 : Int) ≤ (D.count : Int) ∧ (D.count : Int) ≤ 4611686018427387904 := by omega
  have hfI : (0 : Int) ≤ (D.fail : Int) ∧ (D.fail : Int) ≤ 4611686018427387904 := by omega
  clear h h0
  go_enter Tryz.func101, Tryz.ntmps101
  go_wp2_with fail
  all_goals
    go_ret
    refine begR_of e1.out e2.out ?_ ?_
    · refine Blk.eq_ (((H.out.setH 5 _).setH 6 _).setH 8 _) ?_
      simp [dk, HH.out]
      try omega
    · exact (((Upd.refl (one d) w).at_ _ _).at_ _ _).at_ _ _
theorem begins_calls (d cap nm sm : Nat) (pv : Value) (D : HdS) (w : World) (h : Blk w d 75 (dk cap nm sm pv D)) (hF : D.Fit) : Calls Tryz.prog 101 #[.pointer (some ⟨d, 0, none⟩)] w (BegR w d cap nm sm pv D) := by
  by_cases h0 : D.halt = 0
  · exact begins_halt d cap nm sm pv D w h hF h0
  · by_cases hd : D.down = true
    · exact begins_down d cap nm sm pv D w h hF h0 hd
    · by_cases hf : D.fail = 1
      · exact begins_io d cap nm sm pv D w h hF h0 (by simpa using hd) hf
      · exact begins_ok d cap nm sm pv D w h hF h0 (by simpa using hd) hf
end Go.Proofs.YtejnfahfjmeabaaGreatDoor
namespace Go.Proofs.YtejnfahfjmeabaaGreatDoor
open Go.RowKit
set_option linter.unusedSimpArgs false
set_option linter.unusedVariables false

def inR (lo hi c : Nat) : Bool := decide (lo ≤ c) && decide (c ≤ hi)
set_option maxRecDepth 100000 in
set_option maxHeartbeats 400000 in
theorem in_calls (lo hi c b : Nat) (r : Bool) (w : World) (hc : w.cell? ⟨b, 0, none⟩ = some (.int .u8 (c : Int))) (hr : inR lo hi c = r) :
    Calls Tryz.prog 128 #[.int .u8 (lo : Int), .int .u8 (hi : Int), .pointer (some ⟨b, 0, none⟩)] w fun e w' => e = .returned (.bool r) ∧ w = w' := by
  have HR := Lib.hid hr
  clear hr
  by_cases h1 : lo ≤ c
  · have hI : (lo : Int) ≤ (c : Int) := by omega
    go_enter Tryz.func128, Tryz.ntmps128
    go_wp2_with fail
    go_ret
    rw [← HR.out]
    refine ⟨?_, rfl⟩
    unfold inR
    rw [decide_eq_true h1]
    simp
  · have hI : ¬ (lo : Int) ≤ (c : Int) := by omega
    go_enter Tryz.func128, Tryz.ntmps128
    go_wp2_with fail
    go_ret
    rw [← HR.out]
    refine ⟨?_, rfl⟩
    unfold inR
    rw [decide_eq_false h1]
    simp
/-- a byte of a name -/
def okD (c : Nat) : Prop := inR 97 122 c = true ∨ inR 48 57 c = true ∨ c = 46 ∨ c = 45 ∨ c = 95
theorem idx_strs {P : Program} (xs : List UInt8) (k : Nat) (c : UInt8) (hc : xs[k]? = some c) (W : World) (h : P.underlying 9 = some .string) :
    (Instr.index 9 (.string (str xs)) (.int .i64 (k : Int))).run P W = .ok (.int .u8 (c.toNat : Int)) W := by
  have hk : k < xs.length := (List.getElem?_eq_some_iff.1 hc).1
  rw [run_index_string W 9 (str xs) .i64 k h, dif_pos ⟨by omega, by rw [str_size]; omega⟩]
  have e : ∀ (j : Nat) (hj : j < (str xs).size), j = k → ((str xs)[j]'hj).toNat = c.toNat := by
    rintro j hj rfl
    have e3 : (str xs)[j]'hj = xs[j]'hk := by show xs.toArray[j]'(by simpa using hk) = _; simp
    rw [e3, (List.getElem?_eq_some_iff.1 hc).2]
  rw [e _ _ (Int.toNat_natCast k)]
set_option maxRecDepth 100000 in
set_option maxHeartbeats 1000000 in
theorem rightD_calls (s : List UInt8) (w : World) (h1 : 0 < s.length) (h2 : s.length ≤ 64) (hok : ∀ b ∈ s, okD b.toNat) :
    Calls Tryz.prog 114 #[.string (str s)] w fun e w' => e = .returned (.bool true) ∧ Below w.heap.size w w' := by
  have hmf : ∀ (fn : Fn) (first cap : Array Value) (W : World), (Instr.makeFunc fn first cap).run Tryz.prog W = .ok (.func fn first cap) W := fun fn first cap W => rfl
  have hsz : (str s).size = s.length := rfl
  have HK := Lib.hid hok
  have hI : (0 : Int) < (s.length : Int) ∧ (s.length : Int) ≤ 64 := by omega
  clear hok
  go_enter Tryz.func114, Tryz.ntmps114
  go_wp2_with fail
  go_loopw [16] (fun i wr => ∃ k : Nat, k ≤ s.length ∧ i = .int .i64 k ∧ Below w.heap.size w wr) (fun i _ => s.length - (intOf i).toNat)
  case atStart => exact ⟨0, by omega, rfl, Below.refl _ _⟩
  case round =>
    obtain ⟨k, hk, rfl, hb⟩ := hrel
    have HB := Lib.hid hb
    by_cases hlt : k < s.length
    · have hkI : (0 : Int) ≤ (k : Int) ∧ (k : Int) < (s.length : Int) := by omega
      have hg0 : s[k]? = some (s.getD k 0) := by rw [List.getD_eq_getElem?_getD, List.getElem?_eq_getElem hlt]; rfl
      have hi0 := fun W => idx_strs (P := Tryz.prog) s k _ hg0 W Tryz.underlying9
      have hcl := HK.out _ (List.mem_of_getElem? hg0)
      clear hg0
      generalize (s.getD k 0).toNat = c at *
      obtain ⟨wo, rfl⟩ : ∃ wo : World, wo = wr := ⟨_, rfl⟩
      have hcell : (wo.alloc (.cells #[.int .u8 (c : Int)] 5)).cell? ⟨wo.heap.size, 0, none⟩ = some (.int .u8 (c : Int)) := (Blk.new wo 5 #[.int .u8 (c : Int)]).cell 0
      have hfin : Hid (Below w.heap.size w (wo.alloc (.cells #[.int .u8 (c : Int)] 5))) := HB.out.alloc HB.out.size _
      cases ha : inR 97 122 c with
      | true =>
        have HA := Lib.hid (in_calls 97 122 c wo.heap.size true (wo.alloc (.cells #[.int .u8 (c : Int)] 5)) hcell ha)
        clear hcl ha hb
        go_wp2_with (go_at_call 128; refine HA.out.mono ?_; rintro e w2 ⟨rfl, rfl⟩)
        go_roundw
        case rel => exact ⟨k + 1, by omega, by go_num, hfin.out⟩
        case measure => simp [intOf]; omega
      | false =>
        have HA := Lib.hid (in_calls 97 122 c wo.heap.size false (wo.alloc (.cells #[.int .u8 (c : Int)] 5)) hcell ha)
        cases hb0 : inR 48 57 c with
        | true =>
          have HB0 := Lib.hid (in_calls 48 57 c wo.heap.size true (wo.alloc (.cells #[.int .u8 (c : Int)] 5)) hcell hb0)
          clear hcl ha hb0 hb
          go_wp2_with fail
          refine HA.out.mono ?_
          rintro e w2 ⟨rfl, rfl⟩
          go_wp2_with fail
          refine HB0.out.mono ?_
          rintro e w3 ⟨rfl, rfl⟩
          go_wp2_with fail
          go_roundw
          case rel => exact ⟨k + 1, by omega, by go_num, hfin.out⟩
          case measure => simp [intOf]; omega
        | false =>
          have HB0 := Lib.hid (in_calls 48 57 c wo.heap.size false (wo.alloc (.cells #[.int .u8 (c : Int)] 5)) hcell hb0)
          have hcc : c = 46 ∨ c = 45 ∨ c = 95 := by
            rcases hcl with h | h | h
            · rw [ha] at h; cases h
            · rw [hb0] at h; cases h
            · exact h
          rcases hcc with hcc | hcc | hcc
          · have q1 : ((c : Int) != 46) = false := by simp; omega
            clear hcc
            clear hcl ha hb0 hb
            go_wp2_with fail
            refine HA.out.mono ?_
            rintro e w2 ⟨rfl, rfl⟩
            go_wp2_with fail
            refine HB0.out.mono ?_
            rintro e w3 ⟨rfl, rfl⟩
            go_wp2_with fail
            go_roundw
            case rel => exact ⟨k + 1, by omega, by go_num, hfin.out⟩
            case measure => simp [intOf]; omega
          · have q1 : ((c : Int) != 46) = true := by rw [bne_iff_ne]; omega
            have q2 : ((c : Int) != 45) = false := by simp; omega
            clear hcc
            clear hcl ha hb0 hb
            go_wp2_with fail
            refine HA.out.mono ?_
            rintro e w2 ⟨rfl, rfl⟩
            go_wp2_with fail
            refine HB0.out.mono ?_
            rintro e w3 ⟨rfl, rfl⟩
            go_wp2_with fail
            go_roundw
            case rel => exact ⟨k + 1, by omega, by go_num, hfin.out⟩
            case measure => simp [intOf]; omega
          · have q1 : ((c : Int) != 46) = true := by rw [bne_iff_ne]; omega
            have q2 : ((c : Int) != 45) = true := by rw [bne_iff_ne]; omega
            have q3 : ((c : Int) != 95) = false := by simp; omega
            clear hcc
            clear hcl ha hb0 hb
            go_wp2_with fail
            refine HA.out.mono ?_
            rintro e w2 ⟨rfl, rfl⟩
            go_wp2_with fail
            refine HB0.out.mono ?_
            rintro e w3 ⟨rfl, rfl⟩
            go_wp2_with fail
            go_roundw
            case rel => exact ⟨k + 1, by omega, by go_num, hfin.out⟩
            case measure => simp [intOf]; omega
    · obtain rfl : k = s.length := by omega
      go_wp2_with fail
      go_ret
      exact ⟨rfl, hb⟩
end Go.Proofs.YtejnfahfjmeabaaGreatDoor
namespace Go.Proofs.YtejnfahfjmeabaaGreatDoor
open Go.RowKit Go.MapKept
set_option linter.unusedSimpArgs false
set_option linter.unusedVariables false

/-- the freezer's one file's name -/
def fName : List UInt8 := [111, 108, 100, 45, 108, 111, 103]
/-- a map that has the one name, or none -/
def mapOf (n : Option Nat) (born : Nat) : Array MapEntry := match n with
  | none => #[]
  | some f => #[{ key := .string (str fName), val := .pointer (some ⟨f, 0, none⟩), born := born }]
def MapAt (w : World) (b : Nat) (n : Option Nat) : Prop := ∃ born clock, w.heap[b]? = some (.map (mapOf n born) clock) ∧ (n = none ∨ born < clock)
def ptrOf : Option Nat → Value
  | none => .pointer none
  | some f => .pointer (some ⟨f, 0, none⟩)
theorem isKey_str (s : List UInt8) : IsKey .string (.string (str s)) := by simp [IsKey]
theorem run_getMap (w : World) (b : Nat) (es : Array MapEntry) (c : Nat) (h : w.heap[b]? = some (.map es c)) : (getObj b).run Tryz.prog w = .ok (.map es c) w := by
  simp [getObj, Sem.run, h]
theorem zero99 (w : World) : (zeroValue 99).run Tryz.prog w = .ok (.pointer none) w := by kernel_rfl
theorem run_look (w : World) (b : Nat) (n : Option Nat) (h : MapAt w b n) :
    (Instr.lookup 72 (.map (some b)) (.string (str fName)) true).run Tryz.prog w = .ok (.tuple #[ptrOf n, .bool n.isSome]) w := by
  obtain ⟨born, clock, h, _⟩ := h
  have h1 := run_checkKey (P := Tryz.prog) (w := w) (kt := 9) Tryz.underlying9 (isKey_str fName) (mapOf n born).isEmpty 9999
  have h2 : Instr.findNow .string (.string (str fName)) (mapOf n born).toList 0 = some (n.map fun f => (0, .pointer (some ⟨f, 0, none⟩))) := by
    cases n with
    | none => rfl
    | some f =>
      have hb : (str fName == str fName) = true := by kernel_rfl
      simp [mapOf, Instr.findNow, Instr.sameNow, hb]
  have h3 := run_findKey (P := Tryz.prog) (w := w) Tryz.underlying9 h2
  unfold Instr.lookup
  simp only [Sem.run_bind, run_underlying Tryz.underlying72, Result.andThen_ok, run_getMap w b _ _ h, Sem.run_pure]
  simp only [Sem.run_bind, Result.andThen_ok, h1, h3]
  cases n with
  | none =>
    simp only [Option.map_none, Sem.run_bind, Sem.run_pure, Result.andThen_ok, zero99]
    rfl
  | some f =>
    simp only [Option.map_some, Sem.run_bind, Sem.run_pure, Result.andThen_ok]
    rfl
end Go.Proofs.YtejnfahfjmeabaaGreatDoor
namespace Go.Proofs.YtejnfahfjmeabaaGreatDoor
open Go.RowKit
set_option linter.unusedSimpArgs false
set_option linter.unusedVariables false

set_option maxRecDepth 100000 in
set_option maxHeartbeats 400000 in
theorem index_none (f : Value) (w : World) : Calls Tryz.prog 129 #[.slice none 0 0, f] w fun e w' => e = .returned (.int .i64 (-1)) ∧ w = w' := by
  go_enter Tryz.func129, Tryz.ntmps129
  go_wp2_with fail
  go_loop [8] (fun i => i = .int .i64 0) (fun _ => 0)
  case atStart => rfl
  case round =>
    obtain rfl := hrel
    go_wp2_with fail
    go_ret
    exact ⟨rfl, rfl⟩
set_option maxRecDepth 100000 in
set_option maxHeartbeats 400000 in
theorem contains_none (f : Value) (w : World) : Calls Tryz.prog 115 #[.slice none 0 0, f] w fun e w' => e = .returned (.bool false) ∧ w = w' := by
  have hc := Lib.hid (index_none f w)
  go_enter Tryz.func115, Tryz.ntmps115
  go_wp2_with fail
  refine hc.out.mono ?_
  rintro e w1 ⟨rfl, rfl⟩
  go_wp2_with fail
  go_ret
  exact ⟨rfl, rfl⟩
theorem fName_ok : ∀ b ∈ fName, okD b.toNat := by
  have h : ∀ b ∈ fName, inR 97 122 b.toNat = true ∨ b.toNat = 45 := by decide
  intro b hb
  rcases h b hb with h | h
  · exact .inl h
  · exact .inr (.inr (.inr (.inl h)))
theorem right_name (w : World) : Calls Tryz.prog 114 #[.string (str fName)] w fun e w' => e = .returned (.bool true) ∧ Below w.heap.size w w' := rightD_calls fName w (by decide) (by decide) fName_ok
def namedE (n : Option Nat) : Nat := match n with | none => 13 | some _ => 0
theorem MapAt.below {w w' : World} {b : Nat} {n : Option Nat} (h : MapAt w b n) (hb : Below w.heap.size w w') : MapAt w' b n := by
  obtain ⟨x, y, h, h2⟩ := h
  exact ⟨x, y, (hb.block b (Array.getElem?_eq_some_iff.1 h).1).trans h, h2⟩
set_option maxRecDepth 100000 in
set_option maxHeartbeats 1000000 in
theorem named_calls (d nm : Nat) (n : Option Nat) (w : World) (hc : w.cell? ⟨d, 1, none⟩ = some (.map (some nm))) (hm : MapAt w nm n) :
    Calls Tryz.prog 98 #[.pointer (some ⟨d, 0, none⟩), .string (str fName), .slice none 0 0] w fun e w' => e = .returned (.tuple #[ptrOf n, .int .i64 (namedE n : Int)]) ∧ Below w.heap.size w w' := by
  have hr := Lib.hid (right_name w)
  have HM := Lib.hid hm
  have HC := Lib.hid hc
  clear hm hc
  generalize hfn : str fName = nmS at *
  cases n with
  | none =>
    go_enter Tryz.func98, Tryz.ntmps98
    go_wp2_with fail
    refine hr.out.mono ?_
    rintro e w1 ⟨rfl, hb1⟩
    have hc1 := cell_below' hb1 HC.out
    have hl := run_look w1 nm none (HM.out.below hb1)
    rw [hfn] at hl
    clear hfn
    go_wp2_with fail
    refine (contains_none _ w1).mono ?_
    rintro e w2 ⟨rfl, rfl⟩
    go_wp2_with fail
    go_ret2
    exact ⟨rfl, hb1⟩
  | some f =>
    go_enter Tryz.func98, Tryz.ntmps98
    go_wp2_with fail
    refine hr.out.mono ?_
    rintro e w1 ⟨rfl, hb1⟩
    have hc1 := cell_below' hb1 HC.out
    have hl := run_look w1 nm (some f) (HM.out.below hb1)
    rw [hfn] at hl
    clear hfn
    go_wp2_with fail
    refine (contains_none _ w1).mono ?_
    rintro e w2 ⟨rfl, rfl⟩
    go_wp2_with fail
    go_ret2
    exact ⟨rfl, hb1⟩
end Go.Proofs.YtejnfahfjmeabaaGreatDoor
namespace Go.Proofs.YtejnfahfjmeabaaGreatDoor
open Go.RowKit
set_option linter.unusedSimpArgs false
set_option linter.unusedVariables false

theorem MapAt.upd {w w' : World} {b : Nat} {n : Option Nat} {fp fp' : Blocks} (h : MapAt w b n) (hu : Upd fp fp' w w') (hn : ¬ fp b) : MapAt w' b n := by
  obtain ⟨x, y, h, h2⟩ := h
  exact ⟨x, y, (hu.block b (Array.getElem?_eq_some_iff.1 h).1 hn).trans h, h2⟩
theorem map_ne {w : World} {b d : Nat} {n : Option Nat} {t : TypeId} {cs : Array Value} (h : MapAt w b n) (hb : Blk w d t cs) : b ≠ d := by
  rintro rfl
  obtain ⟨x, y, h, _⟩ := h
  unfold Blk at hb
  rw [h] at hb
  cases hb
def chgE (D : HdS) (n : Option Nat) : Nat := if D.beginsE = 0 then namedE n else D.beginsE
def chgP (D : HdS) (n : Option Nat) : Value := if D.beginsE = 0 then ptrOf n else .pointer none
/-- how changing ends -/
def ChgR (w : World) (d cap nm sm : Nat) (pv : Value) (D : HdS) (n : Option Nat) (e : Ending) (w' : World) : Prop :=
  e = .returned (.tuple #[chgP D n, .int .i64 (chgE D n : Int)]) ∧ Blk w' d 75 (dk cap nm sm pv D.begins) ∧ Upd (one d) (one d) w w'
set_option maxRecDepth 100000 in
set_option maxHeartbeats 1000000 in
theorem changing_calls (d cap nm sm : Nat) (pv : Value) (D : HdS) (n : Option Nat) (w : World) (h : Blk w d 75 (dk cap nm sm pv D)) (hF : D.Fit) (hm : MapAt w nm n) :
    Calls Tryz.prog 74 #[.pointer (some ⟨d, 0, none⟩), .string (str fName), .slice none 0 0] w (ChgR w d cap nm sm pv D n) := by
  have hne := map_ne hm h
  have hc := Lib.hid (begins_calls d cap nm sm pv D w h hF)
  have HM := Lib.hid hm
  by_cases h0 : D.beginsE = 0
  · have hE : Hid (chgE D n = namedE n ∧ chgP D n = ptrOf n) := ⟨by unfold chgE; rw [if_pos h0], by unfold chgP; rw [if_pos h0]⟩
    have hnn : Hid (∀ w1, Upd (one d) (one d) w w1 → Blk w1 d 75 (dk cap nm sm pv D.begins) → Calls Tryz.prog 98 #[.pointer (some ⟨d, 0, none⟩), .string (str fName), .slice none 0 0] w1 fun e w' => e = .returned (.tuple #[ptrOf n, .int .i64 (namedE n : Int)]) ∧ Below w1.heap.size w1 w') := fun w1 hU hB => named_calls d nm n w1 (hB.cell 1) (hm.upd hU hne)
    unfold BegR at hc
    rw [h0] at hc
    clear h hm h0
    generalize str fName = nmS at *
    go_enter Tryz.func74, Tryz.ntmps74
    go_wp2_with fail
    refine hc.out.mono ?_
    rintro e w1 ⟨rfl, hB, hU⟩
    go_wp2_with fail
    refine (hnn.out w1 hU hB).mono ?_
    rintro e w2 ⟨rfl, hb2⟩
    go_wp2_with fail
    go_ret2
    refine ⟨?_, hB.below hb2 hB.lt, hU.thn hb2⟩
    rw [hE.out.1, hE.out.2]
    rfl
  · have hE : Hid (chgE D n = D.beginsE ∧ chgP D n = .pointer none) := ⟨by unfold chgE; rw [if_neg h0], by unfold chgP; rw [if_neg h0]⟩
    have hq : ((D.beginsE : Int) != 0) = true := by rw [bne_iff_ne]; omega
    have hq2 : ¬ (D.beginsE : Int) = 0 := by omega
    clear h hm h0
    go_enter Tryz.func74, Tryz.ntmps74
    go_wp2_with fail
    refine hc.out.mono ?_
    rintro e w1 ⟨rfl, hB, hU⟩
    go_wp2_with fail
    go_ret2
    refine ⟨?_, hB, hU⟩
    rw [hE.out.1, hE.out.2]
    rfl
set_option maxRecDepth 100000 in
set_option maxHeartbeats 1000000 in
theorem asked_calls (d cap nm sm : Nat) (pv : Value) (D : HdS) (n : Option Nat) (w : World) (h : Blk w d 75 (dk cap nm sm pv D)) (hm : MapAt w nm n) :
    Calls Tryz.prog 68 #[.pointer (some ⟨d, 0, none⟩), .string (str fName)] w fun e w' => e = .returned (.tuple #[if D.down = true then .pointer none else ptrOf n, .int .i64 ((if D.down = true then 17 else namedE n : Nat) : Int)]) ∧ Below w.heap.size w w' := by
  have hnn := Lib.hid (named_calls d nm n w (h.cell 1) hm)
  have c8 := h.cell 8
  generalize hfn : str fName = nmS at *
  clear hfn
  cases hd : D.down with
  | true =>
    have c8' : w.cell? ⟨d, 8, none⟩ = some (.bool true) := by rw [← hd]; exact c8
    clear h hm c8 hd
    go_enter Tryz.func68, Tryz.ntmps68
    go_wp2_with fail
    go_ret2
    exact ⟨rfl, Below.refl _ _⟩
  | false =>
    have c8' : w.cell? ⟨d, 8, none⟩ = some (.bool false) := by rw [← hd]; exact c8
    clear h hm c8 hd
    go_enter Tryz.func68, Tryz.ntmps68
    go_wp2_with fail
    refine hnn.out.mono ?_
    rintro e w1 ⟨rfl, hb⟩
    go_wp2_with fail
    go_ret2
    exact ⟨rfl, hb⟩

set_option maxRecDepth 100000 in
set_option maxHeartbeats 1000000 in
theorem Clone_calls (A : Option Addr) (n c : Nat) (xs : List UInt8) (w : World) (h : RdB w A n c xs) (hs : n ≤ 140737488355328) : Calls Tryz.prog 69 #[.slice A n c] w (NewB w xs) := by
  have hnil : (binOp .eql 34 (.slice A n c) (.slice none 0 0)).run Tryz.prog w = .ok (.bool A.isNone) w := Lib.run_eql_slice_nil w 34 5 A n c 0 0 Tryz.underlying34
  have H := Lib.hid h
  cases A with
  | none =>
    have hx : xs = [] := by
      obtain ⟨h1, h2, h3, h4⟩ := h
      by_cases h0 : 0 < n
      · obtain ⟨ad, e, _⟩ := h4 h0
        cases e
      · exact List.eq_nil_of_length_eq_zero (by omega)
    clear h
    go_enter Tryz.func69, Tryz.ntmps69
    go_wp2_with fail
    go_ret
    exact ⟨_, rfl, by rw [hx]; exact OwnB.nil _ _, Below.refl _ _⟩
  | some ad =>
    clear h
    go_enter Tryz.func69, Tryz.ntmps69
    go_wp2_with (at_builtin; refine wpList_appendB _ rfl (.tmp 5) (.tmp 6) rfl w.heap.size _ [] xs rfl _ _ _ rfl (OwnB.empty w w.heap.size (Nat.le_refl _)) (H.out.alloc _) (by simp; omega) (by simp) ?_; intro v4 w4 ho4 hg4 hb4)
    go_ret
    exact ⟨v4, rfl, by simpa using ho4, ((Below.refl _ _).alloc (Nat.le_refl _) _).trans hb4⟩
end Go.Proofs.YtejnfahfjmeabaaGreatDoor
namespace Go.Proofs.YtejnfahfjmeabaaGreatDoor
open Go.RowKit
set_option linter.unusedSimpArgs false
set_option linter.unusedVariables false

/-- an error of the number n, wrapped k times -/
def ErrV (w : World) : Nat → Value → Nat → Prop
  | 0, v, n => v = .iface 24 (.int .i64 (n : Int))
  | k + 1, v, n => ∃ b s u, v = .iface 109 (.pointer (some ⟨b, 0, none⟩)) ∧ Blk w b 111 #[.string s, u] ∧ ErrV w k u n
/-- nil of 0, else an error of that number -/
def ErrR (w : World) (v : Value) (n : Nat) : Prop := (n = 0 ∧ v = .nilIface) ∨ (n ≠ 0 ∧ ∃ k, ErrV w k v n)
theorem ErrV.below {w w' : World} (hb : Below w.heap.size w w') : ∀ (k : Nat) (v : Value) (n : Nat), ErrV w k v n → ErrV w' k v n
  | 0, _, _, h => h
  | k + 1, v, n, h => by
    obtain ⟨b, s, u, e, h1, h2⟩ := h
    exact ⟨b, s, u, e, h1.below hb h1.lt, ErrV.below hb k u n h2⟩
theorem ErrR.below {w w' : World} {v : Value} {n : Nat} (h : ErrR w v n) (hb : Below w.heap.size w w') : ErrR w' v n := by
  rcases h with h | ⟨h, k, hk⟩
  · exact .inl h
  · exact .inr ⟨h, k, ErrV.below hb k v n hk⟩
theorem ErrV.iface {w : World} {k : Nat} {v : Value} {n : Nat} (h : ErrV w k v n) : ∃ t x, v = .iface t x := by
  cases k with
  | zero => exact ⟨_, _, h⟩
  | succ k =>
    obtain ⟨b, s, u, e, _⟩ := h
    exact ⟨_, _, e⟩
set_option maxRecDepth 100000 in
set_option maxHeartbeats 1000000 in
theorem failOf_calls (s : ByteArray) (n : Nat) (w : World) : Calls Tryz.prog 33 #[.string s, .int .i64 (n : Int)] w fun e w' => ∃ v, e = .returned v ∧ ErrR w' v n ∧ Below w.heap.size w w' := by
  by_cases h0 : n = 0
  · subst h0
    go_enter Tryz.func33, Tryz.ntmps33
    go_wp2_with fail
    go_ret
    exact ⟨_, rfl, .inl ⟨rfl, rfl⟩, Below.refl _ _⟩
  · have hq : ((n : Int) == 0) = false := by rw [beq_eq_false_iff_ne]; omega
    have HN := Lib.hid h0
    clear h0
    go_enter Tryz.func33, Tryz.ntmps33
    go_wp2_with fail
    go_ret
    exact ⟨_, rfl, .inr ⟨HN.out, 1, w.heap.size, s, _, rfl, Blk.new _ _ _, rfl⟩, (Below.refl _ _).alloc (Nat.le_refl _) _⟩
set_option maxRecDepth 100000 in
set_option maxHeartbeats 1000000 in
theorem failIn_calls (s : ByteArray) (v : Value) (n : Nat) (w : World) (h : ErrR w v n) : Calls Tryz.prog 36 #[.string s, v] w fun e w' => ∃ v', e = .returned v' ∧ ErrR w' v' n ∧ Below w.heap.size w w' := by
  rcases h with ⟨rfl, rfl⟩ | ⟨h0, k, hk⟩
  · go_enter Tryz.func36, Tryz.ntmps36
    go_wp2_with fail
    go_ret
    exact ⟨_, rfl, .inl ⟨rfl, rfl⟩, Below.refl _ _⟩
  · obtain ⟨t, x, rfl⟩ := hk.iface
    have HK := Lib.hid hk
    have HN := Lib.hid h0
    clear hk h0
    go_enter Tryz.func36, Tryz.ntmps36
    go_wp2_with fail
    go_ret
    exact ⟨_, rfl, .inr ⟨HN.out, k + 1, w.heap.size, s, _, rfl, Blk.new _ _ _, ErrV.below ((Below.refl _ _).alloc (Nat.le_refl _) _) k _ n HK.out⟩, (Below.refl _ _).alloc (Nat.le_refl _) _⟩
end Go.Proofs.YtejnfahfjmeabaaGreatDoor
namespace Go.Proofs.YtejnfahfjmeabaaGreatDoor
open Go.RowKit
set_option linter.unusedSimpArgs false
set_option linter.unusedVariables false

set_option maxRecDepth 100000 in
set_option maxHeartbeats 400000 in
theorem framed_calls (A : Option Addr) (n c : Nat) (xs : List UInt8) (w : World) (h : RdB w A n c xs) (hs : n ≤ 1048576) : Calls Tryz.prog 66 #[.slice A n c] w (NewB w (frameN xs)) := by
  have hc := Lib.hid (Frame_calls A n c xs w h hs)
  clear h
  go_enter Tryz.func66, Tryz.ntmps66
  go_wp2_with fail
  refine hc.out.mono ?_
  rintro e w1 ⟨v, rfl, ho, hb⟩
  go_wp2_with fail
  go_ret
  exact ⟨v, rfl, ho, hb⟩
/-- a slice of byte slices reads as these -/
def RdM (w : World) (A : Option Addr) (n c : Nat) (vs : List (List UInt8)) : Prop :=
  vs.length = n ∧ n ≤ c ∧ c ≤ maxLen ∧ (0 < n → ∃ ad, A = some ad ∧ ∀ (j : Nat) v, vs[j]? = some v → ∃ B m d, w.cell? (ad.add j) = some (.slice B m d) ∧ RdB w B m d v)
theorem RdM.below {w w1 : World} {A : Option Addr} {n c : Nat} {vs : List (List UInt8)} (h : RdM w A n c vs) (hb : Below w.heap.size w w1) : RdM w1 A n c vs :=
  ⟨h.1, h.2.1, h.2.2.1, fun hn => by
    obtain ⟨ad, e, hc⟩ := h.2.2.2 hn
    refine ⟨ad, e, fun j v hv => ?_⟩
    obtain ⟨B, m, d, h1, h2⟩ := hc j v hv
    exact ⟨B, m, d, cell_below' hb h1, h2.below hb⟩⟩
theorem RdM.at_ {w : World} {A : Option Addr} {n c : Nat} {vs : List (List UInt8)} (h : RdM w A n c vs) {k : Nat} (hk : k < n) :
    ∃ ad B m d, A = some ad ∧ vs[k]? = some (vs.getD k []) ∧ w.cell? (ad.add k) = some (.slice B m d) ∧ RdB w B m d (vs.getD k []) := by
  obtain ⟨ad, e, hc⟩ := h.2.2.2 (by omega)
  have hl : k < vs.length := by have := h.1; omega
  have hg : vs[k]? = some (vs.getD k []) := by rw [List.getD_eq_getElem?_getD, List.getElem?_eq_getElem hl]; rfl
  obtain ⟨B, m, d, h1, h2⟩ := hc k _ hg
  exact ⟨ad, B, m, d, e, hg, h1, h2⟩
theorem vals_le : ∀ (vs : List (List UInt8)) (k : Nat), (valsB (vs.take k)).length ≤ (valsB vs).length
  | [], k => by simp [valsB]
  | v :: vs, 0 => by simp [valsB]
  | v :: vs, k + 1 => by
    have := vals_le vs k
    rw [List.take_succ_cons, valsB_cons, valsB_cons, List.length_append, List.length_append]
    omega
set_option maxRecDepth 100000 in
set_option maxHeartbeats 1000000 in
theorem bytesOf_calls (kind n : Nat) (hk1 : kind ≤ 4611686018427387904) (hn1 : n ≤ 4611686018427387904) (A : Option Addr) (N c : Nat) (vs : List (List UInt8)) (w : World) (h : RdM w A N c vs) (hl : (valsB vs).length ≤ 100000000) :
    Calls Tryz.prog 65 #[.int .i64 (kind : Int), .int .i64 (n : Int), .slice A N c] w (NewB w (bodyL kind n vs)) := by
  have hm : N ≤ 9223372036854775807 := by have := h.2.1; have := h.2.2.1; unfold maxLen at this; omega
  have H := Lib.hid h
  have HN := Lib.hid h.1
  have hw1 : IntKind.u64.wrap (kind : Int) = (kind : Int) := by simp [IntKind.wrap, IntKind.bits, IntKind.signed]; omega
  have hw2 : IntKind.u64.wrap (n : Int) = (n : Int) := by simp [IntKind.wrap, IntKind.bits, IntKind.signed]; omega
  have HP1 := Lib.hid (putL_len64 kind (by omega))
  have HP2 := Lib.hid (putL_len64 n (by omega))
  have hp1 := Lib.hid (Put_calls kind (by omega) w)
  have hp2 := Lib.hid (fun W => Put_calls n (by omega) W)
  clear h
  go_enter Tryz.func65, Tryz.ntmps65
  go_wp2_with fail
  refine hp1.out.mono ?_
  intro e w1 hnb
  obtain ⟨A1, c1, rfl, ho1, hr1, hb1⟩ := hnb.out
  clear hnb
  go_wp2_with fail
  refine (hp2.out w1).mono ?_
  intro e w2 hnb
  obtain ⟨A2, c2, rfl, ho2, hr2, hb2⟩ := hnb.out
  clear hnb
  have hb12 := thn hb1 hb2
  have ho1' := ho1.below hb2
  clear ho1 hr1 hb1 hb2
  go_wp2_with (at_builtin; refine wpList_appendB _ rfl (.tmp 12) (.tmp 15) rfl w.heap.size _ (putL kind) (putL n) rfl _ _ _ rfl ho1' hr2 (by have := HP1.out; have := HP2.out; omega) (by have := hb12.size; omega) ?_; intro v4 w4 ho4 hg4 hb4)
  go_loopw [7, 19] (fun v i wr => ∃ k : Nat, k ≤ N ∧ i = .int .i64 k ∧ OwnB wr w.heap.size v (putL kind ++ (putL n ++ valsB (vs.take k))) ∧ Below w.heap.size w wr) (fun _ i _ => N - (intOf i).toNat)
  case atStart => exact ⟨0, by omega, rfl, by simpa [valsB] using ho4, hb12.trans hb4⟩
  case round =>
    obtain ⟨k, hk, rfl, hO, hb⟩ := hrel
    have HO := Lib.hid hO
    clear hO
    obtain ⟨wo, rfl⟩ : ∃ wo : World, wo = wr := ⟨_, rfl⟩
    by_cases hlt : k < N
    · obtain ⟨ad, B, m, d, rfl, hg, hcell0, hrd⟩ := H.out.at_ hlt
      have hcell := cell_below' hb hcell0
      clear hcell0
      have HS := Lib.hid (show valsB (vs.take (k + 1)) = valsB (vs.take k) ++ valB (vs.getD k []) by
        rw [List.take_succ_eq_append_getElem (by rw [HN.out]; exact hlt), valsB_snoc, List.getD_eq_getElem?_getD, List.getElem?_eq_getElem (by rw [HN.out]; exact hlt)]; rfl)
      have hle := vals_le vs (k + 1)
      rw [HS.out, List.length_append, valB_len] at hle
      generalize vs.getD k [] = u at *
      have hum := hrd.1
      have hul : u.length ≤ 100000000 := by omega
      have HRD : Hid (∀ W, Below w.heap.size w W → RdB W B m d u) := fun W hW => hrd.below hW
      have hml : m ≤ 100000000 := by omega
      have HPU := Lib.hid (putL_len64 m (by omega))
      have hwm : IntKind.u64.wrap (m : Int) = (m : Int) := by simp [IntKind.wrap, IntKind.bits, IntKind.signed]; omega
      obtain ⟨cur, hcur⟩ : ∃ cur, cur = putL kind ++ (putL n ++ valsB (vs.take k)) := ⟨_, rfl⟩
      have HCL := Lib.hid (show cur.length ≤ 100000020 by
        have h1 := HP1.out
        have h2 := HP2.out
        rw [hcur, List.length_append, List.length_append]
        omega)
      have HCU := Lib.hid (show cur ++ putL m ++ u = putL kind ++ (putL n ++ valsB (vs.take (k + 1))) by
        rw [HS.out, hcur, ← hum]
        unfold valB
        simp only [List.append_assoc])
      rw [← hcur] at HO
      have HB := Lib.hid hb
      have hwz := hb.size
      have hkI : (0 : Int) ≤ (k : Int) ∧ (k : Int) < (N : Int) := by omega
      clear hcur hle hg hrd hum hul hb
      go_wp2_with fail
      refine (Put_calls m (by omega) wo).mono ?_
      intro e w5 hnb
      obtain ⟨A5, c5, rfl, ho5, hr5, hb5⟩ := hnb.out
      clear hnb ho5
      have hwz5 := hb5.size
      go_wp2_with (first | (at_builtin; refine wpList_appendB _ rfl (.tmp 23) (.tmp 27) rfl w.heap.size _ cur (putL m) rfl _ _ _ rfl (HO.out.below hb5) hr5 (by have := HCL.out; have := HPU.out; omega) (by omega) ?_; intro v6 w6 ho6 hg6 hb6; have hb16 := (HB.out.trans (hb5.mono hwz)).trans hb6; have HR6 := HRD.out w6 hb16; have hwz6 := hb6.size) | (at_builtin; refine wpList_appendB _ rfl (.tmp 28) (.tmp 29) rfl w.heap.size _ (cur ++ putL m) u rfl _ _ _ rfl ho6 HR6 (by have := HCL.out; have := HPU.out; rw [List.length_append]; omega) (by omega) ?_; intro v7 w7 ho7 hg7 hb7))
      go_roundw
      case rel => exact ⟨k + 1, by omega, by go_num, by rw [← HCU.out]; exact ho7, hb16.trans hb7⟩
      case measure => simp [intOf]; omega
    · obtain rfl : k = N := by omega
      have e : vs.take k = vs := List.take_of_length_le (by rw [HN.out]; exact Nat.le_refl _)
      rw [e] at HO
      clear e
      go_wp2_with fail
      go_ret
      exact ⟨_, rfl, HO.out, hb⟩
end Go.Proofs.YtejnfahfjmeabaaGreatDoor
namespace Go.Proofs.YtejnfahfjmeabaaGreatDoor
open Go.RowKit
set_option linter.unusedSimpArgs false
set_option linter.unusedVariables false

def hd0 : HdS := ⟨0, 0, 0, -1, false⟩
theorem hd0_fit : hd0.Fit := ⟨by decide, by decide, by decide, by decide, by decide⟩
theorem Blk.newN {n : Nat} (w : World) (t : TypeId) (cs : Array Value) (h : n = w.heap.size) : Blk (w.alloc (.cells cs t)) n t cs := by subst h; exact Blk.new w t cs
theorem map_new (w : World) : MapAt (w.alloc (.map #[] 0)) w.heap.size none := ⟨0, 0, heap_alloc_new w _, .inl rfl⟩
set_option maxRecDepth 100000 in
set_option maxHeartbeats 1000000 in
theorem New_calls (cap : Nat) (hc : cap ≤ 67108864) (w : World) : Calls Tryz.prog 8 #[.int .i64 (cap : Int)] w fun e w' => ∃ d nm sm, e = .returned (.tuple #[.pointer (some ⟨d, 0, none⟩), .int .i64 0]) ∧
    Blk w' d 75 (dk cap nm sm (.slice none 0 0) hd0) ∧ MapAt w' nm none ∧ MapAt w' sm none ∧ nm ≠ sm ∧ w.heap.size ≤ nm ∧ w.heap.size ≤ sm ∧ w.heap.size ≤ d ∧ Below w.heap.size w w' := by
  have hmm := @run_makeMap Tryz.prog
  have hI : (0 : Int) ≤ (cap : Int) ∧ (cap : Int) ≤ 67108864 := by omega
  go_enter Tryz.func8, Tryz.ntmps8
  go_wp2_with fail
  go_ret2
  refine ⟨w.heap.size + 1 + 1, w.heap.size, w.heap.size + 1, rfl, ?_, ?_, ?_, by omega, by omega, by omega, by omega, ?_⟩
  · exact Blk.newN (n := w.heap.size + 1 + 1) _ _ _ (by simp)
  · exact ((map_new w).below ((Below.refl _ _).alloc (by simp) _)).below ((Below.refl _ _).alloc (by simp) _)
  · have h := map_new (w.alloc (.map #[] 0))
    have e : (w.alloc (.map #[] 0)).heap.size = w.heap.size + 1 := by simp
    rw [e] at h
    exact h.below ((Below.refl _ _).alloc (by simp) _)
  · exact (((Below.refl _ _).alloc (Nat.le_refl _) _).alloc (by simp) _).alloc (by simp <;> omega) _
end Go.Proofs.YtejnfahfjmeabaaGreatDoor
namespace Go.Proofs.YtejnfahfjmeabaaGreatDoor
open Go.RowKit
set_option linter.unusedSimpArgs false
set_option linter.unusedVariables false

set_option maxRecDepth 100000 in
set_option maxHeartbeats 1000000 in
theorem Grow_room (base : Option Addr) (l c n : Nat) (w : World) (hlc : l ≤ c) (hc63 : c ≤ 9223372036854775807) (hn63 : n ≤ 9223372036854775807) (hroom : l + n ≤ c) :
    Calls Tryz.prog 127 #[.slice base l c, .int .i64 n] w fun e w' => e = .returned (.slice base l c) ∧ w' = w := by
  have h1 : ¬ ((n : Int) < 0) := by omega
  have h2 : wrap64 ((c : Int) - (l : Int)) = (c : Int) - (l : Int) := by unfold wrap64; omega
  have h3 : wrap64 ((n : Int) - ((c : Int) - (l : Int))) = (n : Int) - ((c : Int) - (l : Int)) := by unfold wrap64; omega
  have h4 : ¬ ((n : Int) - ((c : Int) - (l : Int)) > 0) := by omega
  go_enter Tryz.func127, Tryz.ntmps127
  go_wp2
  go_ret
  exact ⟨rfl, rfl⟩

set_option maxRecDepth 100000 in
set_option maxHeartbeats 1000000 in
theorem Grow_grow (base : Option Addr) (l c n : Nat) (cs : List Value) (w : World) (hlc : l ≤ c) (hroom : c < l + n) (hbig : l + n ≤ 140737488355328)
    (hcl : cs.length = c) (hnil : base = none → c = 0) (hcs : ∀ a, base = some a → ∀ j v, cs[j]? = some v → w.cell? (a.add j) = some v) :
    Calls Tryz.prog 127 #[.slice base l c, .int .i64 n] w fun e w' =>
      e = .returned (.slice (some ⟨w.heap.size, 0, none⟩) l (grownCap w (l + n) c 5)) ∧
      w' = w.drew.alloc (.cells (cs.toArray ++ Builtin.zeroCells #[.int .u8 0] (l + n - c) ++ Builtin.zeroCells #[.int .u8 0] (grownCap w (l + n) c 5 - (l + n))) 5) := by
  obtain ⟨i0, hi0, hz0, hs1, hby⟩ := info_parts Tryz.info5
  have h1 : ¬ ((n : Int) < 0) := by omega
  have h2 : wrap64 ((c : Int) - (l : Int)) = (c : Int) - (l : Int) := by unfold wrap64; omega
  have h3 : wrap64 ((n : Int) - ((c : Int) - (l : Int))) = (n : Int) - ((c : Int) - (l : Int)) := by unfold wrap64; omega
  have h4 : (n : Int) - ((c : Int) - (l : Int)) > 0 := by omega
  have hck : c + (l + n - c) = l + n := by omega
  have hold : (Builtin.firstCells i0.size c (.slice base c c)).run Tryz.prog w.drew = .ok cs.toArray w.drew := by
    rw [hs1]
    cases base with
    | none =>
      have h0 := hnil rfl
      subst h0
      have hc0 : cs = [] := List.length_eq_zero_iff.1 (by simpa using hcl)
      rw [hc0]
      exact run_firstCells_none w.drew 1 0 0 0
    | some a => exact run_firstCells_some w.drew 1 c a c c cs (by omega) (fun j v hj => hcs a rfl j v hj)
  have hrz : ∀ ty, (Builtin.append_ #[34, 3] ty #[.slice base c c, .int .i64 ((n : Int) - ((c : Int) - (l : Int)))]).run Tryz.prog w =
      .ok (.slice (some ⟨w.heap.size, 0, none⟩) (l + n) (grownCap w (l + n) c 5)) (w.drew.alloc (.cells (cs.toArray ++ Builtin.zeroCells #[.int .u8 0] (l + n - c) ++ Builtin.zeroCells #[.int .u8 0] (grownCap w (l + n) c 5 - (l + n))) 5)) := fun ty => by
    have h := Lib.run_append_grow_zeros w 34 3 ty 5 i0 (.int .u8 0) .i64 .i64 Tryz.underlying34 Tryz.underlying3 hi0 hz0 base c c cs hold (l + n - c) (by omega) (by omega) (by omega) (by omega)
      (by rw [hby]; omega)
      (by rw [hck]; exact growslice_fits hroom (by rw [hby]; omega))
    rw [hck] at h
    rw [show (n : Int) - ((c : Int) - (l : Int)) = ((l + n - c : Nat) : Int) by omega]
    exact h
  have hGn : l + n ≤ grownCap w (l + n) c 5 := grownCap_ge w _ _ _
  obtain ⟨G, hG⟩ : ∃ G, G = grownCap w (l + n) c 5 := ⟨_, rfl⟩
  rw [← hG] at hrz hGn ⊢
  have hG63 : G ≤ 9223372036854775807 := by
    have := grownCap_le_maxLen w (l + n) c 5 (by unfold maxLen; omega)
    rw [← hG] at this
    unfold maxLen at this
    omega
  clear hold hck hG hcs hcl
  go_enter Tryz.func127, Tryz.ntmps127
  cases base with
  | none =>
    have h0 := hnil rfl
    subst h0
    obtain rfl : l = 0 := by omega
    go_wp2_with (at_builtin; refine Lib.wpList_append_run _ rfl _ _ _ _ rfl _ _ rfl rfl _ _ (hrz _) ?_)
    all_goals (go_ret; exact ⟨rfl, rfl⟩)
  | some a =>
    obtain ⟨ab, ao, asp⟩ := a
    go_wp2_with (at_builtin; refine Lib.wpList_append_run _ rfl _ _ _ _ rfl _ _ rfl rfl _ _ (hrz _) ?_)
    all_goals (go_ret; exact ⟨rfl, rfl⟩)
end Go.Proofs.YtejnfahfjmeabaaGreatDoor
namespace Go.Proofs.YtejnfahfjmeabaaGreatDoor
open Go.RowKit
set_option linter.unusedSimpArgs false
set_option linter.unusedVariables false

/-- a row of bytes with a block, and its capacity -/
structure RowC (w : World) (g cap : Nat) (cur : Array Value) (xs : List UInt8) : Prop where
  blk : w.heap[g]? = some (.cells cur 5)
  size : cur.size = cap
  le : xs.length ≤ cap
  max : cap ≤ maxLen
  take : cur.toList.take xs.length = bvs xs
theorem zeroCells_len (n : Nat) : (Builtin.zeroCells #[.int .u8 0] n).size = n := by
  simp [Builtin.zeroCells]
theorem Grow_rowC (g cap : Nat) (cur : Array Value) (xs : List UInt8) (k : Nat) (w : World) (h : RowC w g cap cur xs) (hbig : xs.length + k ≤ 140737488355328) :
    Calls Tryz.prog 127 #[.slice (some ⟨g, 0, none⟩) xs.length cap, .int .i64 k] w fun e w' => ∃ g' cap' cur', e = .returned (.slice (some ⟨g', 0, none⟩) xs.length cap') ∧ RowC w' g' cap' cur' xs ∧ xs.length + k ≤ cap' ∧
      (g' = g ∧ w' = w ∨ w.heap.size ≤ g' ∧ Below w.heap.size w w') := by
  have hm : cap ≤ 9223372036854775807 := by have := h.max; unfold maxLen at this; omega
  by_cases hr : xs.length + k ≤ cap
  · refine (Grow_room _ _ _ _ w h.le hm (by omega) hr).mono ?_
    rintro e w1 ⟨rfl, rfl⟩
    exact ⟨g, cap, cur, rfl, h, hr, .inl ⟨rfl, rfl⟩⟩
  · refine (Grow_grow (some ⟨g, 0, none⟩) xs.length cap k cur.toList w h.le (by omega) hbig (by simpa using h.size) (fun e => by cases e) ?_).mono ?_
    · rintro a ea j v hv
      obtain rfl := Option.some.inj ea
      have hb : Blk w g 5 cur := h.blk
      have := hb.cell j
      have e0 : (⟨g, 0, none⟩ : Addr).add j = ⟨g, j, none⟩ := by
        unfold Addr.add
        split
        · next h0 => subst h0; rfl
        · simp
      rw [e0, this]
      simpa using hv
    · rintro e w1 ⟨rfl, rfl⟩
      have hge := grownCap_ge w (xs.length + k) cap 5
      have hle := grownCap_le_maxLen w (xs.length + k) cap 5 (by unfold maxLen; omega)
      have hcl : cur.toList.length = cap := by simpa using h.size
      have hl := h.le
      have hsz := h.size
      refine ⟨_, _, _, rfl, ⟨heap_alloc_new w.drew _, ?_, by omega, hle, ?_⟩, hge, .inr ⟨Nat.le_refl _, (Below.refl _ _).drew.alloc (Nat.le_refl _) _⟩⟩
      · simp only [Array.size_append, zeroCells_len, List.size_toArray, hcl]
        omega
      · rw [← h.take]
        simp only [Array.toList_append, List.append_assoc]
        rw [List.take_append_of_le_length (by simpa [hcl] using hl)]
theorem Grow_nilC (k : Nat) (w : World) (hk : 0 < k) (hbig : k ≤ 140737488355328) :
    Calls Tryz.prog 127 #[.slice none 0 0, .int .i64 k] w fun e w' => ∃ g' cap' cur', e = .returned (.slice (some ⟨g', 0, none⟩) 0 cap') ∧ RowC w' g' cap' cur' [] ∧ k ≤ cap' ∧
      (w.heap.size ≤ g' ∧ Below w.heap.size w w') := by
  refine (Grow_grow none 0 0 k [] w (Nat.le_refl _) (by omega) (by omega) rfl (fun _ => rfl) (fun a e => by cases e)).mono ?_
  rintro e w1 ⟨rfl, rfl⟩
  have hge := grownCap_ge w (0 + k) 0 5
  have hle := grownCap_le_maxLen w (0 + k) 0 5 (by unfold maxLen; omega)
  refine ⟨_, _, _, rfl, ⟨heap_alloc_new w.drew _, ?_, Nat.zero_le _, hle, rfl⟩, by omega, ⟨Nat.le_refl _, (Below.refl _ _).drew.alloc (Nat.le_refl _) _⟩⟩
  simp only [Array.size_append, zeroCells_len]
  show 0 + (0 + k - 0) + (grownCap w (0 + k) 0 5 - (0 + k)) = grownCap w (0 + k) 0 5
  omega
end Go.Proofs.YtejnfahfjmeabaaGreatDoor
