/- the texts M16, M17, M18, M19, M20, M21, M22 of this proof, one behind the other -/
import Derived.Test.YtejnfahfjmeabaaGreatDoorK2
import Derived.Laws.CopyOwn
import Derived.Laws.IdiomRangeMap
import Derived.Laws.OwnMore
import Derived.Maps.AppendAt
import Derived.Deep.RegionHeld3
set_option linter.unusedSimpArgs false
set_option linter.unusedVariables false
namespace Go.Proofs.YtejnfahfjmeabaaGreatDoor
open Go.RowKit
set_option linter.unusedSimpArgs false
set_option linter.unusedVariables false

def LaidR (w : World) (g p : Nat) (xs ys : List UInt8) (e : Ending) (w' : World) : Prop :=
  ∃ g' cap' cur', e = .returned (.slice (some ⟨g', 0, none⟩) (max xs.length (p + ys.length)) cap') ∧ RowC w' g' cap' cur' (xs.take p ++ ys ++ xs.drop (p + ys.length)) ∧
    (g' = g ∧ Upd (one g) (one g) w w' ∨ w.heap.size ≤ g' ∧ Below w.heap.size w w')
theorem upd_setCells (w : World) (g o : Nat) (vs : List Value) : Upd (one g) (one g) w (w.setCells g o vs) :=
  let h := below_setCells (B := 0) (Below.refl 0 w) g o vs (Nat.zero_le _)
  ⟨h.os, h.tape, h.output, h.size, fun k _ hn => heap_setCells_other vs o w g k hn, fun _ h => .inl h⟩
set_option maxRecDepth 100000 in
set_option maxHeartbeats 300000 in
theorem laid_rowC (g cap : Nat) (cur : Array Value) (xs ys : List UInt8) (p : Nat) (A : Option Addr) (m c : Nat) (w : World) (h : RowC w g cap cur xs) (hp : p ≤ xs.length) (hr : RdB w A m c ys) (hbig : xs.length + m ≤ 140737488355328) :
    Calls Tryz.prog 113 #[.slice (some ⟨g, 0, none⟩) xs.length cap, .int .i64 (p : Int), .slice A m c] w (LaidR w g p xs ys) := by
  obtain ⟨n, hn⟩ : ∃ n : Nat, n = xs.length := ⟨_, rfl⟩
  obtain ⟨s, hs⟩ : ∃ s : Nat, s = p + m := ⟨_, rfl⟩
  have h1 : wrap64 ((p : Int) + (m : Int)) = (s : Int) := by unfold wrap64; omega
  have hps : p ≤ s := by omega
  have hms : s - p = m := by omega
  have HN := Lib.hid hn
  have HS := Lib.hid hs
  have HH := Lib.hid h
  have HR := Lib.hid hr
  have hpm : Value.int .i64 ((p : Int) + (m : Int)) = Value.int .i64 (s : Int) := by rw [hs]; rfl
  by_cases hlt : n < s
  · obtain ⟨d, hd⟩ : ∃ d : Nat, d = s - n := ⟨_, rfl⟩
    have HD := Lib.hid hd
    have HG := Lib.hid (Grow_rowC g cap cur xs d w h (by omega))
    rw [← hn] at HG hp hbig ⊢
    have h2 : wrap64 ((s : Int) - (n : Int)) = (d : Int) := by unfold wrap64; omega
    have h0 : 0 < d := by omega
    have h0' : (0 : Int) < (d : Int) := by omega
    have hlt' : (n : Int) < (p : Int) + (m : Int) := by omega
    have hdv : (p : Int) + (m : Int) - (n : Int) = (d : Int) := by omega
    clear hn hs hd h hr
    go_enter Tryz.func113, Tryz.ntmps113
    go_wp2_with fail
    refine HG.out.mono ?_
    rintro e w1 ⟨g1, cap1, cur1, rfl, hC, hcap, hor⟩
    have HC := Lib.hid hC
    have HO := Lib.hid hor
    have hqc : p + m ≤ cap1 := by have := HD.out; omega
    have HR1 : Hid (RdB w1 A m c ys) := by
      rcases HO.out with ⟨_, e⟩ | ⟨_, hb⟩
      · rw [e]; exact HR
      · exact HR.out.below hb
    have hroom : RoomAt w1 g1 p (min m m) := Blk.room (show Blk w1 g1 5 cur1 from HC.out.blk) p (min m m) (by rw [HC.out.size]; omega)
    have hcp := run_copyB (P := Tryz.prog) w1 34 34 3 5 g1 p m (cap1 - p) A m c ys Tryz.underlying34 (by obtain ⟨i0, hi0, hz0, hs1, hby⟩ := info_parts Tryz.info5; rw [hi0]; simp [hs1]) HR1.out hroom
    clear hC hor hroom
    go_wp2_with fail
    go_ret
    have hyl : ys.length = m := HR.out.1
    have hxl : xs.length = n := HN.out.symm
    have hvl : (bvs (ys.take m)).length = m := by rw [bvs_length, List.length_take]; omega
    have hcs : cur1.size = cap1 := HC.out.size
    refine ⟨g1, cap1, ovw cur1 p (bvs (ys.take m)), ?_, ⟨Blk.setCells (show Blk w1 g1 5 cur1 from HC.out.blk) _ p (by omega), ?_, ?_, HC.out.max, ?_⟩, ?_⟩
    · show Ending.returned (Value.slice (some ⟨g1, 0, none⟩) (p + m) cap1) = Ending.returned (Value.slice (some ⟨g1, 0, none⟩) (max xs.length (p + ys.length)) cap1)
      rw [hxl, hyl, Nat.max_eq_right (by omega)]
    · simp only [ovw, List.size_toArray, List.length_append, List.length_take, List.length_drop, hvl, Array.length_toList]
      omega
    · simp only [List.length_append, List.length_take, List.length_drop]
      omega
    · have e1 : xs.drop (p + ys.length) = [] := List.drop_eq_nil_of_le (by omega)
      have e2 : cur1.toList.take p = bvs (xs.take p) := by
        have := congrArg (List.take p) HC.out.take
        rw [List.take_take, Nat.min_eq_left (by omega)] at this
        rw [this]
        simp [bvs, List.map_take]
      have e3 : ys.take m = ys := List.take_of_length_le (by omega)
      rw [e1, List.append_nil, e3]
      simp only [ovw, e2]
      rw [List.take_left' (by simp [bvs_length])]
      simp [bvs]
    · rcases HO.out with ⟨rfl, rfl⟩ | ⟨hg, hb⟩
      · exact .inl ⟨rfl, upd_setCells _ _ _ _⟩
      · exact .inr ⟨hg, below_setCells hb _ _ _ hg⟩
  · have HG : Hid (Calls Tryz.prog 127 #[.slice (some ⟨g, 0, none⟩) xs.length cap, .int .i64 0] w _) := Lib.hid (Grow_rowC g cap cur xs 0 w h (by omega))
    rw [← hn] at HG hp hbig ⊢
    have hlt' : ¬ (n : Int) < (p : Int) + (m : Int) := by omega
    have hle' : (p : Int) + (m : Int) ≤ (n : Int) := by omega
    have hsn : p + m ≤ n := by omega
    have h2 : wrap64 ((p : Int) + (m : Int) - (n : Int)) = (p : Int) + (m : Int) - (n : Int) := by unfold wrap64; omega
    clear hn hs h hr
    go_enter Tryz.func113, Tryz.ntmps113
    go_wp2_with fail
    refine HG.out.mono ?_
    rintro e w1 ⟨g1, cap1, cur1, rfl, hC, hcap, hor⟩
    have HC := Lib.hid hC
    have HO := Lib.hid hor
    have hqc : p + m ≤ cap1 := by omega
    have HR1 : Hid (RdB w1 A m c ys) := by
      rcases HO.out with ⟨_, e⟩ | ⟨_, hb⟩
      · rw [e]; exact HR
      · exact HR.out.below hb
    have hroom : RoomAt w1 g1 p (min m (n - p)) := Blk.room (show Blk w1 g1 5 cur1 from HC.out.blk) p (min m (n - p)) (by rw [HC.out.size]; omega)
    have hcp := run_copyB (P := Tryz.prog) w1 34 34 3 5 g1 p (n - p) (cap1 - p) A m c ys Tryz.underlying34 (by obtain ⟨i0, hi0, hz0, hs1, hby⟩ := info_parts Tryz.info5; rw [hi0]; simp [hs1]) HR1.out hroom
    clear hC hor hroom
    by_cases hpc : p = cap1
    · obtain rfl : p = n := by have := HC.out.le; have := HN.out; omega
      obtain rfl : m = 0 := by omega
      have hy0 : ys = [] := List.eq_nil_of_length_eq_zero HR.out.1
      subst hy0
      have hcp2 : (Builtin.copy_ #[34, 34] 3 #[.slice (some ⟨g1, 0, none⟩) (p - p) 0, .slice A 0 c]).run Tryz.prog w1 = .ok (.int .i64 0) w1 :=
        run_copy_none (P := Tryz.prog) w1 34 34 3 5 _ _ _ _ _ _ Tryz.underlying34 (by obtain ⟨i0, hi0, hz0, hs1, hby⟩ := info_parts Tryz.info5; rw [hi0]; simp [hs1]) (by simp)
      rw [Nat.sub_self] at hcp2
      clear hcp
      go_wp2_with fail
      go_ret
      have hxl : xs.length = p := HN.out.symm
      refine ⟨g1, cap1, cur1, ?_, ?_, ?_⟩
      · have hmx : max xs.length (p + ([] : List UInt8).length) = cap1 := by rw [hxl, List.length_nil]; omega
        rw [hmx]
        rfl
      · have e : xs.take p ++ [] ++ xs.drop (p + ([] : List UInt8).length) = xs := by simp
        rw [e]
        exact HC.out
      · rcases HO.out with ⟨rfl, rfl⟩ | ⟨hg, hb⟩
        · exact .inl ⟨rfl, Upd.refl _ _⟩
        · exact .inr ⟨hg, hb⟩
    have hpc' : cap1 - p ≠ 0 := by omega
    have hpc2 : 0 < cap1 - p := by omega
    have hpc3 : ¬ cap1 ≤ p := by omega
    go_wp2_with fail
    go_ret
    have hyl : ys.length = m := HR.out.1
    have hxl : xs.length = n := HN.out.symm
    have hvl : (bvs (ys.take (n - p))).length = m := by rw [bvs_length, List.length_take]; omega
    have hcs : cur1.size = cap1 := HC.out.size
    refine ⟨g1, cap1, ovw cur1 p (bvs (ys.take (n - p))), ?_, ⟨Blk.setCells (show Blk w1 g1 5 cur1 from HC.out.blk) _ p (by omega), ?_, ?_, HC.out.max, ?_⟩, ?_⟩
    · show Ending.returned (Value.slice (some ⟨g1, 0, none⟩) n cap1) = Ending.returned (Value.slice (some ⟨g1, 0, none⟩) (max xs.length (p + ys.length)) cap1)
      rw [hxl, hyl, Nat.max_eq_left (by omega)]
    · simp only [ovw, List.size_toArray, List.length_append, List.length_take, List.length_drop, hvl, Array.length_toList]
      omega
    · simp only [List.length_append, List.length_take, List.length_drop]
      omega
    · have e2 : cur1.toList.take p = bvs (xs.take p) := by
        have := congrArg (List.take p) HC.out.take
        rw [List.take_take, Nat.min_eq_left (by omega)] at this
        rw [this]
        simp [bvs, List.map_take]
      have e3 : ys.take (n - p) = ys := List.take_of_length_le (by omega)
      have e4 : (cur1.toList.drop (p + m)).take (n - (p + m)) = bvs (xs.drop (p + m)) := by
        have := congrArg (List.drop (p + m)) HC.out.take
        rw [List.drop_take, hxl] at this
        rw [this]
        simp [bvs, List.map_drop]
      have hbl : (bvs ys).length = m := by rw [bvs_length]; exact hyl
      have hL : (xs.take p ++ ys ++ xs.drop (p + ys.length)).length = n := by simp only [List.length_append, List.length_take, List.length_drop]; omega
      rw [hL, hyl, e3]
      simp only [ovw, e2, hbl]
      have hpl : (bvs (xs.take p) ++ bvs ys).length = p + m := by rw [List.length_append, bvs_length, hbl, List.length_take]; omega
      rw [List.take_append, hpl, e4, List.take_of_length_le (by omega)]
      simp [bvs]
    · rcases HO.out with ⟨rfl, rfl⟩ | ⟨hg, hb⟩
      · exact .inl ⟨rfl, upd_setCells _ _ _ _⟩
      · exact .inr ⟨hg, below_setCells hb _ _ _ hg⟩
end Go.Proofs.YtejnfahfjmeabaaGreatDoor
namespace Go.Proofs.YtejnfahfjmeabaaGreatDoor
open Go.RowKit
set_option linter.unusedSimpArgs false
set_option linter.unusedVariables false

/-- the block of a row -/
def ownS (v : Value) : Blocks := fun k => v.ownBlock = some k
theorem RowC.own {w : World} {g cap : Nat} {cur : Array Value} {xs : List UInt8} (h : RowC w g cap cur xs) : OwnB w 0 (.slice (some ⟨g, 0, none⟩) xs.length cap) xs :=
  ⟨by rw [bvs_length, Nat.mul_one], .inr ⟨g, cap, cur, rfl, Nat.zero_le _, h.blk, h.le, h.max, by rw [h.size, Nat.mul_one], by rw [Nat.mul_one]; exact h.take⟩⟩
theorem OwnB.rowC {w : World} {B : Nat} {v : Value} {xs : List UInt8} (h : OwnB w B v xs) : (v = .slice none 0 0 ∧ xs = []) ∨ ∃ g cap cur, v = .slice (some ⟨g, 0, none⟩) xs.length cap ∧ RowC w g cap cur xs := by
  rcases h.2 with ⟨e, h0⟩ | ⟨g, cap, cur, e, _, h1, h2, h3, h4, h5⟩
  · exact .inl ⟨e, List.eq_nil_of_length_eq_zero h0⟩
  · exact .inr ⟨g, cap, cur, e, ⟨h1, by rw [h4, Nat.mul_one], h2, h3, by rw [Nat.mul_one] at h5; exact h5⟩⟩
def LaidO (w : World) (v : Value) (p : Nat) (xs ys : List UInt8) (e : Ending) (w' : World) : Prop :=
  ∃ v', e = .returned v' ∧ OwnB w' 0 v' (laidL xs p ys) ∧ Upd (ownS v) (ownS v') w w'
set_option maxRecDepth 100000 in
set_option maxHeartbeats 300000 in
theorem laid_nil0 (A : Option Addr) (c : Nat) (w : World) : Calls Tryz.prog 113 #[.slice none 0 0, .int .i64 0, .slice A 0 c] w fun e w' => e = .returned (.slice none 0 0) ∧ w' = w := by
  have HG := Lib.hid (Grow_room none 0 0 0 w (by omega) (by omega) (by omega) (by omega))
  have hcp : (Builtin.copy_ #[34, 34] 3 #[.slice none 0 0, .slice A 0 c]).run Tryz.prog w = .ok (.int .i64 0) w :=
    run_copy_none (P := Tryz.prog) w 34 34 3 5 _ _ _ _ _ _ Tryz.underlying34 (by obtain ⟨i0, hi0, hz0, hs1, hby⟩ := info_parts Tryz.info5; rw [hi0]; simp [hs1]) (by simp)
  go_enter Tryz.func113, Tryz.ntmps113
  go_wp2_with fail
  refine HG.out.mono ?_
  rintro e w1 ⟨rfl, rfl⟩
  go_wp2_with fail
  go_ret
  exact ⟨rfl, rfl⟩
set_option maxRecDepth 100000 in
set_option maxHeartbeats 300000 in
theorem laid_nil (ys : List UInt8) (A : Option Addr) (m c : Nat) (w : World) (h0 : 0 < m) (hr : RdB w A m c ys) (hbig : m ≤ 140737488355328) :
    Calls Tryz.prog 113 #[.slice none 0 0, .int .i64 0, .slice A m c] w fun e w' => ∃ g' cap' cur', e = .returned (.slice (some ⟨g', 0, none⟩) m cap') ∧ RowC w' g' cap' cur' ys ∧ w.heap.size ≤ g' ∧ Below w.heap.size w w' := by
  have HR := Lib.hid hr
  have HG := Lib.hid (Grow_nilC m w h0 (by omega))
  have h0' : (0 : Int) < (m : Int) := by omega
  have h1 : wrap64 (0 + (m : Int)) = (m : Int) := by unfold wrap64; omega
  have h2 : wrap64 ((m : Int)) = (m : Int) := by unfold wrap64; omega
  have h3 : (0 : Int) + (m : Int) = (m : Int) := by omega
  clear hr
  go_enter Tryz.func113, Tryz.ntmps113
  go_wp2_with fail
  refine HG.out.mono ?_
  rintro e w1 ⟨g1, cap1, cur1, rfl, hC, hcap, hg, hb⟩
  have HC := Lib.hid hC
  have HB := Lib.hid hb
  have HR1 := Lib.hid (HR.out.below hb)
  have hroom : RoomAt w1 g1 0 (min m m) := Blk.room (show Blk w1 g1 5 cur1 from HC.out.blk) 0 (min m m) (by rw [HC.out.size]; omega)
  have hcp := run_copyB (P := Tryz.prog) w1 34 34 3 5 g1 0 m cap1 A m c ys Tryz.underlying34 (by obtain ⟨i0, hi0, hz0, hs1, hby⟩ := info_parts Tryz.info5; rw [hi0]; simp [hs1]) HR1.out hroom
  clear hC hroom hb
  go_wp2_with fail
  go_ret
  have hyl : ys.length = m := HR.out.1
  have hvl : (bvs (ys.take m)).length = m := by rw [bvs_length, List.length_take]; omega
  have hcs : cur1.size = cap1 := HC.out.size
  refine ⟨g1, cap1, ovw cur1 0 (bvs (ys.take m)), rfl, ⟨Blk.setCells (show Blk w1 g1 5 cur1 from HC.out.blk) _ 0 (by omega), ?_, ?_, HC.out.max, ?_⟩, hg, below_setCells HB.out _ _ _ hg⟩
  · simp only [ovw, List.size_toArray, List.length_append, List.length_take, List.length_drop, hvl, Array.length_toList]
    omega
  · omega
  · have e3 : ys.take m = ys := List.take_of_length_le (by omega)
    rw [e3]
    simp only [ovw, List.take_zero, List.nil_append]
    rw [List.take_left' (by simp [bvs_length])]
theorem laid_calls (v : Value) (xs ys : List UInt8) (p : Nat) (A : Option Addr) (m c : Nat) (w : World) (h : OwnB w 0 v xs) (hp : p ≤ xs.length) (hr : RdB w A m c ys) (hbig : xs.length + m ≤ 140737488355328) :
    Calls Tryz.prog 113 #[v, .int .i64 (p : Int), .slice A m c] w (LaidO w v p xs ys) := by
  rcases h.rowC with ⟨rfl, rfl⟩ | ⟨g, cap, cur, rfl, hC⟩
  · obtain rfl : p = 0 := by simpa using hp
    by_cases h0 : m = 0
    · subst h0
      have hy : ys = [] := List.eq_nil_of_length_eq_zero hr.1
      subst hy
      refine (laid_nil0 A c w).mono ?_
      rintro e w' ⟨rfl, rfl⟩
      exact ⟨_, rfl, OwnB.nil _ _, Upd.refl _ _⟩
    · refine (laid_nil ys A m c w (by omega) hr (by simpa using hbig)).mono ?_
      rintro e w' ⟨g', cap', cur', rfl, hC, hg, hb⟩
      have hl : ys.length = m := hr.1
      refine ⟨_, rfl, ?_, ?_⟩
      · have := hC.own
        rw [hl] at this
        simpa [laidL] using this
      · refine (Upd.below hb).more ?_
        rintro k hk
        right
        obtain rfl : g' = k := Option.some.inj hk
        exact hg
  · refine (laid_rowC g cap cur xs ys p A m c w hC hp hr hbig).mono ?_
    rintro e w' ⟨g', cap', cur', rfl, hC', hor⟩
    have hl : ys.length = m := hr.1
    have hlen : (xs.take p ++ ys ++ xs.drop (p + ys.length)).length = max xs.length (p + ys.length) := by
      simp only [List.length_append, List.length_take, List.length_drop]
      omega
    have ho := hC'.own
    rw [hlen] at ho
    refine ⟨_, rfl, ?_, ?_⟩
    · unfold laidL
      rw [← List.append_assoc]
      exact ho
    · rcases hor with ⟨rfl, hu⟩ | ⟨hg, hb⟩
      · have e : ownS (.slice (some ⟨g', 0, none⟩) xs.length cap) = one g' := by
          funext k
          show (some g' = some k) = (k = g')
          simp [eq_comm]
        have e2 : ownS (.slice (some ⟨g', 0, none⟩) (max xs.length (p + ys.length)) cap') = one g' := by
          funext k
          show (some g' = some k) = (k = g')
          simp [eq_comm]
        rw [e, e2]
        exact hu
      · refine (Upd.below hb).more ?_
        rintro k hk
        right
        obtain rfl : g' = k := Option.some.inj hk
        exact hg
end Go.Proofs.YtejnfahfjmeabaaGreatDoor
namespace Go.Proofs.YtejnfahfjmeabaaGreatDoor
open Go.RowKit
set_option linter.unusedSimpArgs false
set_option linter.unusedVariables false

theorem next_one {P : Program} (w : World) (ty : TypeId) (bm clock : Nat) (e : MapEntry) (hb : w.heap[bm]? = some (.map #[e] clock)) (hold : e.born < clock) :
    (Instr.next (.pointer (some ⟨w.heap.size, 0, none⟩)) false ty).run P (w.alloc (.mapIter (some bm) clock #[] clock)) = .ok (.tuple #[.bool true, e.key, e.val]) (w.alloc (.mapIter (some bm) clock #[e.born] clock)) := by
  have hlt : bm < w.heap.size := by
    rcases Nat.lt_or_ge bm w.heap.size with h | h
    · exact h
    · simp [Array.getElem?_eq_none h] at hb
  have hb' : (w.alloc (.mapIter (some bm) clock #[] clock)).heap[bm]? = some (.map #[e] clock) := by rw [heap_alloc_old w _ hlt, hb]
  have ht := next_test_false #[] #[e] clock clock (by simp [hold]) (Nat.le_refl _)
  have hset : (setObj w.heap.size (.mapIter (some bm) clock #[e.born] clock)).run P (w.alloc (.mapIter (some bm) clock #[] clock)) = .ok () (w.alloc (.mapIter (some bm) clock #[e.born] clock)) := by
    simp only [setObj, Sem.run, heap_alloc_new]
    show Result.ok () ({ w.alloc (.mapIter (some bm) clock #[] clock) with heap := (w.heap.push _).setIfInBounds w.heap.size _ } : World) = _
    have hp : ∀ (h : Array Obj) (x y : Obj), (h.push x).setIfInBounds h.size y = h.push y := by
      intro h x y
      apply Array.toList_inj.1
      simp
    rw [hp]
    rfl
  simp only [Instr.next, getObj, Sem.run_bind, Sem.run, heap_alloc_new, hb', Result.andThen, ht, Bool.false_eq_true, if_false]
  have e0 : Array.filter (fun e => !(#[] : Array Nat).contains e.born) #[e] = #[e] := by simp
  have e1 : Array.filter (fun x => decide (x.born < clock)) #[e] = #[e] := by simp [hold]
  have e2 : Array.filter (fun x : MapEntry => decide (x.born ≥ clock)) #[e] = #[] := by simp; omega
  simp only [e0, e1, e2, Array.append_empty]
  have hch : (choose (Question.mapNext 1)).run P (w.alloc (.mapIter (some bm) clock #[] clock)) = .ok 0 (w.alloc (.mapIter (some bm) clock #[] clock)) := by simp [choose, Sem.run, Question.forced]
  have hne : (#[e] : Array MapEntry).isEmpty = false := rfl
  simp only [hne, Bool.false_eq_true, if_false, Array.empty_append, Array.size_map]
  have hz : (#[e] : Array MapEntry).size = 1 := rfl
  simp only [hz, hch, Array.getElem?_map, Option.map_some, Sem.run_bind, Result.andThen]
  have hg : (#[e] : Array MapEntry)[0]? = some e := rfl
  simp only [hg, Option.map_some, Sem.run_bind, hset, Result.andThen]
  have hs2 : (#[] : Array Nat).push e.born = #[e.born] := rfl
  rw [hs2, hset]
  rfl
theorem next_end {P : Program} (w : World) (ty : TypeId) (bm clock : Nat) (e : MapEntry) (hb : w.heap[bm]? = some (.map #[e] clock)) (hold : e.born < clock) :
    (Instr.next (.pointer (some ⟨w.heap.size, 0, none⟩)) false ty).run P (w.alloc (.mapIter (some bm) clock #[e.born] clock)) = .ok (.tuple #[.bool false]) (w.alloc (.mapIter (some bm) clock #[e.born] clock)) := by
  rcases run_next_map (P := P) w ty bm clock clock #[e.born] #[e] clock hb (by simp [hold]) (Nat.le_refl _) with ⟨_, h⟩ | ⟨e', he, _⟩
  · exact h
  · simp [leftOf] at he
set_option maxRecDepth 100000 in
set_option maxHeartbeats 400000 in
theorem Used_calls (d nm f n c : Nat) (A : Option Addr) (w : World) (h1 : w.cell? ⟨d, 1, none⟩ = some (.map (some nm))) (hm : MapAt w nm (some f)) (hf : w.cell? ⟨f, 1, none⟩ = some (.slice A n c)) (hn : n ≤ 4611686018427387904) :
    Calls Tryz.prog 112 #[.pointer (some ⟨d, 0, none⟩)] w fun e w' => e = .returned (.int .i64 (n : Int)) ∧ Below w.heap.size w w' := by
  obtain ⟨born, clock, hb, hlt⟩ := hm
  have hbc : born < clock := by rcases hlt with h | h; cases h; exact h
  unfold mapOf at hb
  simp only at hb
  generalize Value.string (str fName) = K at hb
  have hr := run_range_map (P := Tryz.prog) w 72 9 99 nm _ clock Tryz.underlying72 hb
  have HB := Lib.hid hb
  have HF := Lib.hid hf
  clear hb hf hlt
  go_enter Tryz.func112, Tryz.ntmps112
  go_wp2_with fail
  go_loopw [3] (fun s wr => (s = .int .i64 0 ∧ wr = w.alloc (.mapIter (some nm) clock #[] clock)) ∨ (s = .int .i64 (n : Int) ∧ wr = w.alloc (.mapIter (some nm) clock #[born] clock))) (fun _ wr => 1 - (wr.iterSeen w.heap.size).size)
  case atStart => exact .inl ⟨rfl, rfl⟩
  case round =>
    rcases hrel with ⟨rfl, rfl⟩ | ⟨rfl, rfl⟩
    · have hnx : ∀ ty, (Instr.next (.pointer (some ⟨w.heap.size, 0, none⟩)) false ty).run Tryz.prog (w.alloc (.mapIter (some nm) clock #[] clock)) = .ok (.tuple #[.bool true, K, .pointer (some ⟨f, 0, none⟩)]) (w.alloc (.mapIter (some nm) clock #[born] clock)) := fun ty => next_one (P := Tryz.prog) w ty nm clock ⟨K, .pointer (some ⟨f, 0, none⟩), born⟩ HB.out hbc
      have hen : (Instr.entry (.pointer (some ⟨w.heap.size, 0, none⟩))).run Tryz.prog (w.alloc (.mapIter (some nm) clock #[born] clock)) = .ok (.tuple #[K, .pointer (some ⟨f, 0, none⟩)]) (w.alloc (.mapIter (some nm) clock #[born] clock)) := run_entry_map (P := Tryz.prog) w nm clock #[] _ clock ⟨K, .pointer (some ⟨f, 0, none⟩), born⟩ HB.out (by simp) (by simp)
      have hf2 := (cell_below' ((Below.refl _ w).alloc (Nat.le_refl _) (.mapIter (some nm) clock #[born] clock)) HF.out)
      have hI : (0 : Int) ≤ (n : Int) ∧ (n : Int) ≤ 4611686018427387904 := by omega
      go_wp2_with fail
      go_roundw
      case rel => exact .inr ⟨rfl, trivial⟩
      case measure =>
        rw [World.iterSeen_alloc, World.iterSeen_alloc]
        simp
    · have hnx := fun ty => next_end (P := Tryz.prog) w ty nm clock ⟨K, .pointer (some ⟨f, 0, none⟩), born⟩ HB.out hbc
      go_wp2_with fail
      go_ret
      exact ⟨rfl, (Below.refl _ w).alloc (Nat.le_refl _) _⟩
end Go.Proofs.YtejnfahfjmeabaaGreatDoor
namespace Go.Proofs.YtejnfahfjmeabaaGreatDoor
open Go.RowKit
set_option linter.unusedSimpArgs false
set_option linter.unusedVariables false

theorem Tryz.info145 : (Tryz.prog.info? 145).map (fun i => (i.zero, i.size, i.bytes)) = some (some .nilIface, 1, 16) := by kernel_rfl
theorem Tryz.info101 : (Tryz.prog.info? 101).map (fun i => (i.zero, i.size, i.bytes)) = some (some .nilIface, 1, 16) := by kernel_rfl
/-- a set of blocks, and what is new -/
def grow (s : Blocks) (w w' : World) : Blocks := fun k => s k ∨ (w.heap.size ≤ k ∧ k < w'.heap.size)
theorem Upd.thenS {s s1 s1' : Blocks} {w w1 w2 : World} (h : Upd s s w w1) (h2 : Upd s1 s1' w1 w2) (hs : ∀ k, s1 k → s k ∨ w.heap.size ≤ k) : Upd s s w w2 :=
  ⟨h2.os.trans h.os, h2.tape.trans h.tape, h2.output.trans h.output, Nat.le_trans h.size h2.size, fun k hk hn => (h2.block k (Nat.lt_of_lt_of_le hk h.size) (fun hp => by
    rcases hs k hp with hp | hp
    · exact hn hp
    · omega)).trans (h.block k hk hn), fun k hk => .inl hk⟩
theorem Upd.setS {s : Blocks} {w w1 : World} (h : Upd s s w w1) {p : Addr} (hp : s p.block ∨ w.heap.size ≤ p.block) (v : Value) : Upd s s w (w1.setCell p v) :=
  h.thenS (s1 := one p.block) (s1' := one p.block) (Upd.set (Upd.refl _ _) (show one p.block p.block from rfl) v) (fun k hk => by cases hk; exact hp)
theorem Upd.grownS {s : Blocks} {w w1 w2 : World} (h : Upd s s w w1) {row : Option Nat} (hg : w1.grownBy w2 row) (hr : ∀ k, row = some k → s k ∨ w.heap.size ≤ k) : Upd s s w w2 :=
  h.thenS (s1 := fun k => row = some k) (s1' := fun k => row = some k) (Upd.grown hg (fun k e => e)) hr
theorem Upd.keep {s t : Blocks} {w w1 : World} (h : Upd s s w w1) (ht : ∀ k, t k → k < w.heap.size ∧ ¬ s k) : KeepsOn t w w1 := fun k hk => h.block k (ht k hk).1 (ht k hk).2
theorem KeepsOn.trans {t : Blocks} {w w1 w2 : World} (h : KeepsOn t w w1) (h2 : KeepsOn t w1 w2) : KeepsOn t w w2 := fun k hk => (h2 k hk).trans (h k hk)
theorem KeepsOn.mono {s t : Blocks} {w w1 : World} (h : KeepsOn s w w1) (hs : ∀ k, t k → s k) : KeepsOn t w w1 := fun k hk => h k (hs k hk)
theorem blk_ne {w : World} {k k' : Nat} {t t' : TypeId} {cs cs' : Array Value} (h : Blk w k t cs) (h' : Blk w k' t' cs') (hn : t ≠ t') : k ≠ k' := by
  rintro rfl
  unfold Blk at h h'
  rw [h] at h'
  have h1 := Option.some.inj h'
  injection h1 with _ h2
  exact hn h2
theorem row_type {w : World} {B : Nat} {e : TypeId} {size : Nat} {v : Value} {n : Nat} {xs : List Value} (h : w.ownsRow B e size v n xs) {k : Nat} {t : TypeId} {cs : Array Value} (hb : Blk w k t cs) (ht : t ≠ e) : some k ≠ v.ownBlock := by
  rcases h.2 with ⟨rfl, _⟩ | ⟨g, cap, cur, rfl, _, hh, _⟩
  · intro e; cases e
  · intro e'
    obtain rfl : k = g := Option.some.inj e'
    unfold Blk at hb
    rw [hb] at hh
    have h1 := Option.some.inj hh
    injection h1 with _ h2
    exact ht h2
theorem row_apart {w : World} {B B' : Nat} {e e' : TypeId} {size size' : Nat} {v v' : Value} {n n' : Nat} {xs xs' : List Value} (h : w.ownsRow B e size v n xs) (h' : w.ownsRow B' e' size' v' n' xs') (hne : e ≠ e') : ∀ k, ownS v k → ¬ ownS v' k := by
  intro k hk hk'
  rcases h.2 with ⟨rfl, _⟩ | ⟨g, cap, cur, rfl, _, hh, _⟩
  · cases hk
  · obtain rfl : g = k := Option.some.inj hk
    exact row_type h' hh hne hk'.symm
theorem row_slice {w : World} {B : Nat} {e : TypeId} {size : Nat} {v : Value} {n : Nat} {xs : List Value} (h : w.ownsRow B e size v n xs) : ∃ A c, v = .slice A n c := by
  rcases h.2 with ⟨rfl, rfl⟩ | ⟨g, cap, cur, rfl, _⟩
  · exact ⟨_, _, rfl⟩
  · exact ⟨_, _, rfl⟩
theorem row_keep {w w' : World} {B : Nat} {e : TypeId} {size : Nat} {v : Value} {n : Nat} {xs : List Value} (h : w.ownsRow B e size v n xs) (hk : KeepsOn (ownS v) w w') : w'.ownsRow B e size v n xs := by
  refine ⟨h.1, ?_⟩
  rcases h.2 with h2 | ⟨g, cap, cur, e1, e2, e3, e4⟩
  · exact .inl h2
  · exact .inr ⟨g, cap, cur, e1, e2, (hk g (by rw [e1]; rfl)).trans e3, e4⟩
/-- a row of interface values is appended to -/
theorem append_one (t e : TypeId) (bs : Nat) (z : Value) (ht : Tryz.prog.underlying t = some (.slice e)) (hi : (Tryz.prog.info? e).map (fun i => (i.zero, i.size, i.bytes)) = some (some z, 1, bs)) (hz : z.cells.size = 1) (hbs : bs ≤ 100)
    (w : World) (v : Value) (n : Nat) (xs : List Value) (u : Value) (h : w.ownsRow 0 e 1 v n xs) (hn : n ≤ 1000000000) (hu : u.oneCell' = true) :
    ∃ v' w', (Builtin.append_ #[t, t] t #[v, .slice (some ⟨w.heap.size, 0, none⟩) 1 1]).run Tryz.prog (w.alloc (.cells #[u] e)) = .ok v' w' ∧ w'.ownsRow 0 e 1 v' (n + 1) (xs ++ [u]) ∧ (w.alloc (.cells #[u] e)).grownBy w' v.ownBlock ∧ (∀ k, ownS v' k → ownS v k ∨ k = w.heap.size + 1) := by
  obtain ⟨i0, hi0, hz0, hz1, hz2⟩ := info_parts hi
  have hbm : (n + 1) * bs ≤ 140737488355328 := Nat.le_trans (Nat.mul_le_mul (show n + 1 ≤ 1000000001 by omega) hbs) (by decide)
  obtain ⟨v', w', hrun, r1, r2, _, r4⟩ := run_append_own_at (P := Tryz.prog) (w.alloc (.cells #[u] e)) 0 t t e i0 z 1 bs ht hi0 hz0 hz1 hz2 hz (by decide) v n xs (World.ownsRow.alloc h _)
    ⟨w.heap.size, 0, none⟩ 1 1 [u] rfl (by
      intro j v hv
      have hc := (Blk.new w e #[u]).cell j
      have e0 : (⟨w.heap.size, 0, none⟩ : Addr).add j = ⟨w.heap.size, j, none⟩ := by unfold Addr.add; split <;> simp_all
      rw [e0, hc]
      simpa using hv) (by simpa using hu) (by unfold maxLen; omega) hbm (Nat.zero_le _)
  exact ⟨v', w', hrun, r1, r2, fun k hk => by
    rcases r4 with e | e
    · left
      show v.ownBlock = some k
      rw [← e]; exact hk
    · right
      have := e.symm.trans hk
      simpa using (Option.some.inj this).symm⟩

/-- a change of a file as it lies in memory -/
def PatV (w : World) (t : Blocks) (v : Value) : Patch → Prop
  | .wr p b => ∃ bv, v = .iface 202 (.agg #[.int .i64 (p : Int), bv]) ∧ BytesIn w t bv b
  | .cut n => v = .iface 170 (.agg #[.int .i64 (n : Int)])
def AllPat (w : World) (t : Blocks) : List Value → List Patch → Prop
  | [], [] => True
  | v :: vs, p :: ps => PatV w t v p ∧ AllPat w t vs ps
  | _, _ => False
theorem PatV.keeps {w w' : World} {s t : Blocks} {v : Value} {p : Patch} (h : PatV w s v p) (hk : KeepsOn s w w') (hs : ∀ k, s k → t k) : PatV w' t v p := by
  cases p with
  | wr p b =>
    obtain ⟨bv, e, h1⟩ := h
    exact ⟨bv, e, (h1.keeps hk).mono hs⟩
  | cut n => exact h
theorem AllPat.keeps {w w' : World} {s t : Blocks} (hk : KeepsOn s w w') (hs : ∀ k, s k → t k) : ∀ {vs : List Value} {ps : List Patch}, AllPat w s vs ps → AllPat w' t vs ps
  | [], [], _ => trivial
  | v :: vs, p :: ps, h => ⟨h.1.keeps hk hs, AllPat.keeps hk hs h.2⟩
theorem AllPat.snoc {w : World} {t : Blocks} {v : Value} {p : Patch} (hp : PatV w t v p) : ∀ {vs : List Value} {ps : List Patch}, AllPat w t vs ps → AllPat w t (vs ++ [v]) (ps ++ [p])
  | [], [], _ => ⟨hp, trivial⟩
  | _ :: _, _ :: _, h => ⟨h.1, AllPat.snoc hp h.2⟩
/-- a file's cells -/
def fk (num : Nat) (bv sv pv : Value) : Array Value := #[.int .i64 (num : Int), bv, sv, pv]
structure FileP (w : World) (s : Blocks) (f num : Nat) (fs : FileS) (bv sv pv : Value) (vals : List Value) (t : Blocks) : Prop where
  blk : Blk w f 105 (fk num bv sv pv)
  bytes : OwnB w 0 bv fs.bytes
  sure : BytesIn w t sv fs.sure
  pend : w.ownsRow 0 145 1 pv fs.pend.length vals
  pats : AllPat w t vals fs.pend
  tin : ∀ k, t k → s k ∧ ¬ ownS bv k ∧ ∃ cs, Blk w k 5 cs
  bin : ∀ k, ownS bv k → s k
  pin : ∀ k, ownS pv k → s k
  fin : s f
  lt : ∀ k, s k → k < w.heap.size
def FileM (w : World) (s : Blocks) (f num : Nat) (fs : FileS) : Prop := ∃ bv sv pv vals t, FileP w s f num fs bv sv pv vals t
theorem FileP.keeps {w w' : World} {s : Blocks} {f num : Nat} {fs : FileS} {bv sv pv : Value} {vals : List Value} {t : Blocks} (h : FileP w s f num fs bv sv pv vals t) (hk : KeepsOn s w w') (hz : w.heap.size ≤ w'.heap.size) : FileP w' s f num fs bv sv pv vals t :=
  ⟨(hk f h.fin).trans h.blk, row_keep h.bytes (hk.mono h.bin), h.sure.keeps (hk.mono fun k hk => (h.tin k hk).1), row_keep h.pend (hk.mono h.pin), AllPat.keeps (hk.mono fun k hk => (h.tin k hk).1) (fun _ h => h) h.pats,
    fun k htk => by
      obtain ⟨h1, h2, cs, h3⟩ := h.tin k htk
      exact ⟨h1, h2, cs, (hk k h1).trans h3⟩, h.bin, h.pin, h.fin, fun k hs => Nat.lt_of_lt_of_le (h.lt k hs) hz⟩
theorem FileM.keeps {w w' : World} {s : Blocks} {f num : Nat} {fs : FileS} (h : FileM w s f num fs) (hk : KeepsOn s w w') (hz : w.heap.size ≤ w'.heap.size) : FileM w' s f num fs := by
  obtain ⟨bv, sv, pv, vals, t, h⟩ := h
  exact ⟨bv, sv, pv, vals, t, h.keeps hk hz⟩
theorem FileM.below {w w' : World} {s : Blocks} {f num : Nat} {fs : FileS} (h : FileM w s f num fs) (hb : Below w.heap.size w w') : FileM w' s f num fs :=
  h.keeps (KeepsOn.below hb (by obtain ⟨bv, sv, pv, vals, t, h⟩ := h; exact h.lt)) hb.size
end Go.Proofs.YtejnfahfjmeabaaGreatDoor
namespace Go.Proofs.YtejnfahfjmeabaaGreatDoor
open Go.RowKit
set_option linter.unusedSimpArgs false
set_option linter.unusedVariables false

attribute [-go_sem] Builtin.append_
def WriteR (w : World) (sf : Blocks) (f num : Nat) (fs : FileS) (ys : List UInt8) (e : Ending) (w' : World) : Prop :=
  e = .returned (.int .i64 0) ∧ FileM w' (grow sf w w') f num ⟨fs.bytes ++ ys, fs.sure, fs.pend ++ [.wr fs.bytes.length ys]⟩ ∧ Upd sf sf w w'
set_option maxRecDepth 100000 in
set_option maxHeartbeats 1000000 in
theorem write_calls (d cap nm sm : Nat) (pvd : Value) (D : HdS) (f num : Nat) (fs : FileS) (sf : Blocks) (A : Option Addr) (m c : Nat) (ys : List UInt8) (w : World)
    (hd : Blk w d 75 (dk cap nm sm pvd D)) (hm : MapAt w nm (some f)) (hf : FileM w sf f num fs) (hr : RdB w A m c ys) (h0 : 0 < m) (hfit : fs.bytes.length + m ≤ cap) (hc : cap ≤ 67108864) (hpl : fs.pend.length ≤ 1000000000) :
    Calls Tryz.prog 97 #[.pointer (some ⟨d, 0, none⟩), .pointer (some ⟨f, 0, none⟩), .int .i64 (fs.bytes.length : Int), .slice A m c] w (WriteR w sf f num fs ys) := by
  obtain ⟨bv, sv, pv, vals, t, hF⟩ := hf
  obtain ⟨Ab, cb, hbv⟩ := row_slice hF.bytes
  have c0 := (dk_cells hd).1
  have cf1 : w.cell? ⟨f, 1, none⟩ = some bv := hF.blk.cell 1
  rw [hbv] at cf1
  have HU : Hid (∀ W, Below w.heap.size w W → Calls Tryz.prog 112 #[.pointer (some ⟨d, 0, none⟩)] W fun e w' => e = .returned (.int .i64 (fs.bytes.length : Int)) ∧ Below w.heap.size w w') := fun W hW =>
    (Used_calls d nm f fs.bytes.length cb Ab W ((hd.below hW hd.lt).cell 1) (hm.below hW) (cell_below' hW cf1) (by omega)).mono fun e w' ⟨h1, h2⟩ => ⟨h1, thn hW h2⟩
  have HR := Lib.hid hr
  have HF := Lib.hid hF
  obtain ⟨l, hl⟩ : ∃ l : Nat, l = fs.bytes.length := ⟨_, rfl⟩
  have HL := Lib.hid hl
  rw [← hl] at cf1 HU hfit ⊢
  have h1 : wrap64 ((l : Int) + (m : Int)) = (l : Int) + (m : Int) := by unfold wrap64; omega
  have h2 : wrap64 ((l : Int) + (m : Int) - (l : Int)) = (m : Int) := by unfold wrap64; omega
  have h3 : (l : Int) + (m : Int) - (l : Int) = (m : Int) := by omega
  have h4 : (0 : Int) < (m : Int) := by omega
  have h5 : wrap64 ((cap : Int) - (l : Int)) = (cap : Int) - (l : Int) := by unfold wrap64; omega
  have h8 : IntKind.i64.wrap ((cap : Int) - (l : Int)) = (cap : Int) - (l : Int) := by simp [IntKind.wrap, IntKind.bits, IntKind.signed]; omega
  have h6 : ¬ (cap : Int) - (l : Int) < (m : Int) := by omega
  have h7 : ¬ (m : Int) > (cap : Int) - (l : Int) := by omega
  clear hd hm hr hF hl
  go_enter Tryz.func97, Tryz.ntmps97
  go_wp2_with fail
  go_region_held3 (fun W => W.cell? ⟨d, 0, none⟩ = some (.int .i64 (cap : Int))) (first | exact c0 | exact cell_below' hb1 c0) (first | (go_at_call 112; refine (HU.out _ (Below.refl _ _).drew).mono ?_; rintro e w1 ⟨rfl, hb1⟩))
  have hml : ys.length = m := HR.out.1
  have HF1 := Lib.hid (HF.out.keeps (KeepsOn.below hb1 HF.out.lt) hb1.size)
  have HR1 := Lib.hid (HR.out.below hb1)
  have HB1 := Lib.hid hb1
  have hq : ((m : Int) == 0) = false := by rw [beq_eq_false_iff_ne]; omega
  clear HU c0 cf1 hb1
  go_wp2_with fail
  refine (Clone_calls A m c ys w1 HR1.out (by omega)).mono ?_
  intro e w2 hnb
  obtain ⟨A2, c2, rfl, ho2, hr2, hb2⟩ := hnb.out
  clear hnb
  rw [hml] at ho2 hr2 ⊢
  have hu2 := Lib.hid (Upd.below (fp := sf) (thn HB1.out hb2))
  have HF2 := Lib.hid (HF1.out.keeps (KeepsOn.below hb2 HF1.out.lt) hb2.size)
  have HR2 := Lib.hid (HR1.out.below hb2)
  have cf1 : w2.cell? ⟨f, 1, none⟩ = some (.slice Ab l cb) := by
    have h := HF2.out.blk.cell 1
    rw [hbv, ← HL.out] at h
    exact h
  obtain ⟨BX, hBX⟩ : ∃ BX : Obj, BX = .cells #[.int .i64 (l : Int), .slice A2 m c2] 202 := ⟨_, rfl⟩
  have hb3 := (Below.refl w2.heap.size w2).alloc (Nat.le_refl _) BX
  have HF3 := Lib.hid (HF2.out.keeps (KeepsOn.below hb3 HF2.out.lt) hb3.size)
  have HX3 : Hid (Blk (w2.alloc BX) w2.heap.size 202 #[.int .i64 (l : Int), .slice A2 m c2]) := by rw [hBX]; exact Blk.new _ _ _
  have hu3 := Lib.hid (hu2.out.thn hb3)
  have hl3 : Hid (Calls Tryz.prog 113 #[.slice Ab l cb, .int .i64 (l : Int), .slice A m c] (w2.alloc BX) (LaidO (w2.alloc BX) bv l fs.bytes ys)) := by
    have h := laid_calls bv fs.bytes ys l A m c (w2.alloc BX) HF3.out.bytes (by have := HL.out; omega) (HR2.out.below hb3) (by have := HL.out; omega)
    rw [hbv, ← HL.out] at h
    rw [hbv, ← HL.out]
    exact h
  have HC3 := Lib.hid (ho2.below hb3)
  have hz3 : (w2.alloc BX).heap.size = w2.heap.size + 1 := by simp
  have HZ := Lib.hid (show w.heap.size ≤ w1.heap.size ∧ w1.heap.size ≤ w2.heap.size from ⟨HB1.out.size, hb2.size⟩)
  rw [hBX] at hl3
  have cf1' := cell_below' hb3 cf1
  rw [hBX] at cf1'
  have HBX := Lib.hid hBX
  clear hBX cf1
  clear hr2 ho2 hb3 hb2
  go_wp2_with fail
  refine hl3.out.mono ?_
  rintro e w4 ⟨bv', rfl, ho4, hu4⟩
  rw [← HBX.out] at hu4
  obtain ⟨Ab', lb', cb', hbv'⟩ : ∃ A l c, bv' = .slice A l c := by
    obtain ⟨A, c, e⟩ := row_slice ho4
    exact ⟨A, _, c, e⟩
  subst hbv'
  have H3 := HF3.out
  have nf : ¬ ownS bv f := fun e => row_type H3.bytes H3.blk (by decide) e.symm
  have nx : ¬ ownS bv w2.heap.size := fun e => row_type H3.bytes HX3.out (by decide) e.symm
  have np : ∀ k, ownS pv k → ¬ ownS bv k := row_apart H3.pend H3.bytes (by decide)
  have Bf4 : Blk w4 f 105 (fk num bv sv pv) := (hu4.block f H3.blk.lt nf).trans H3.blk
  have Bx4 : Blk w4 w2.heap.size 202 #[.int .i64 (l : Int), .slice A2 m c2] := (hu4.block _ HX3.out.lt nx).trans HX3.out
  have hfx : w2.heap.size ≠ f := blk_ne HX3.out H3.blk (by decide)
  have fz4 := Bf4.frozen 1
  have ce4 := Bf4.cell 1
  obtain ⟨w5, hw5⟩ : ∃ w5 : World, w5 = w4.setCell ⟨f, 1, none⟩ (.slice Ab' lb' cb') := ⟨_, rfl⟩
  have Bf5 : Blk w5 f 105 (fk num (.slice Ab' lb' cb') sv pv) := by rw [hw5]; exact (Bf4.set_ 1 (.slice Ab' lb' cb')).eq_ rfl
  have Bx5 : Blk w5 w2.heap.size 202 #[.int .i64 (l : Int), .slice A2 m c2] := by rw [hw5]; exact Bx4.far (show w2.heap.size ≠ f from hfx) _
  have K45 : KeepsOn (fun k => k ≠ f) w4 w5 := fun k hk => by rw [hw5]; exact Below.heap_setCell w4 ⟨f, 1, none⟩ (.slice Ab' lb' cb') k hk
  have K34 : KeepsOn (fun k => k < (w2.alloc BX).heap.size ∧ ¬ ownS bv k) (w2.alloc BX) w4 := fun k hk => hu4.block k hk.1 hk.2
  have K35 : KeepsOn (fun k => k < (w2.alloc BX).heap.size ∧ ¬ ownS bv k ∧ k ≠ f) (w2.alloc BX) w5 := (K34.mono fun k hk => ⟨hk.1, hk.2.1⟩).trans (K45.mono fun k hk => hk.2.2)
  have pf : ∀ k, ownS pv k → k ≠ f := fun k hk e => row_type H3.pend H3.blk (by decide) (e ▸ hk.symm)
  have P5 := row_keep H3.pend (K35.mono fun k hk => ⟨H3.lt k (H3.pin k hk), np k hk, pf k hk⟩)
  have U5 : Upd sf sf w w5 := by
    rw [hw5]
    exact (hu3.out.thenS hu4 (fun k hk => .inl (H3.bin k hk))).setS (.inl H3.fin) _
  obtain ⟨v6, w6, hrun, r6, g6, b6⟩ := append_one 103 145 16 .nilIface Tryz.underlying103 Tryz.info145 rfl (by decide) w5.drew pv fs.pend.length vals (.iface 202 (.agg #[.int .i64 (l : Int), .slice A2 m c2])) P5 hpl rfl
  have cx0 := Bx5.cell 0
  have cx1 := Bx5.cell 1
  have cf3 := Bf5.cell 3
  obtain ⟨A6, l6, c6, hv6⟩ : ∃ A l c, v6 = .slice A l c := by
    obtain ⟨A, c, e⟩ := row_slice r6
    exact ⟨A, _, c, e⟩
  subst hv6
  have hz45 : w5.heap.size = w4.heap.size := by rw [hw5]; simp [World.setCell]
  obtain ⟨PX, hPX⟩ : ∃ PX : Obj, PX = .cells #[.iface 202 (.agg #[.int .i64 (l : Int), .slice A2 m c2])] 145 := ⟨_, rfl⟩
  rw [← hPX] at g6
  have b6' := Below.refl w5.heap.size w5
  have b5a : Below w5.heap.size w5 (w5.drew.alloc PX) := (b6'.drew).alloc (Nat.le_refl _) PX
  have hz5a : (w5.drew.alloc PX).heap.size = w5.heap.size + 1 := by simp
  have Bf5a : Blk (w5.drew.alloc PX) f 105 (fk num (.slice Ab' lb' cb') sv pv) := Bf5.below b5a Bf5.lt
  have nfp : some f ≠ pv.ownBlock := row_type P5 Bf5 (by decide)
  have Bf6 : Blk w6 f 105 (fk num (.slice Ab' lb' cb') sv pv) := Bf5a.grown g6 nfp
  have K56 : KeepsOn (fun k => k < w5.heap.size ∧ ¬ ownS pv k) w5 w6 := fun k hk => (g6.block k (by omega) (fun e => hk.2 e.symm)).trans (b5a.block k hk.1)
  obtain ⟨w7, hw7⟩ : ∃ w7 : World, w7 = w6.setCell ⟨f, 3, none⟩ (.slice A6 l6 c6) := ⟨_, rfl⟩
  have K67 : KeepsOn (fun k => k ≠ f) w6 w7 := fun k hk => by rw [hw7]; exact Below.heap_setCell w6 ⟨f, 3, none⟩ (.slice A6 l6 c6) k hk
  have hz67 : w7.heap.size = w6.heap.size := by rw [hw7]; simp [World.setCell]
  have hz56 : w5.heap.size + 1 ≤ w6.heap.size := by have := g6.size; omega
  have K57 : KeepsOn (fun k => k < w5.heap.size ∧ ¬ ownS pv k ∧ k ≠ f) w5 w7 := (K56.mono fun k hk => ⟨hk.1, hk.2.1⟩).trans (K67.mono fun k hk => hk.2.2)
  have hz34 : (w2.alloc BX).heap.size ≤ w4.heap.size := hu4.size
  have K37 : KeepsOn (fun k => k < (w2.alloc BX).heap.size ∧ ¬ ownS bv k ∧ k ≠ f ∧ ¬ ownS pv k) (w2.alloc BX) w7 := (K35.mono fun k hk => ⟨hk.1, hk.2.1, hk.2.2.1⟩).trans (K57.mono fun k hk => ⟨by omega, hk.2.2.2, hk.2.2.1⟩)
  have kt : ∀ k, t k → k < (w2.alloc BX).heap.size ∧ ¬ ownS bv k ∧ k ≠ f ∧ ¬ ownS pv k := fun k hk => by
    obtain ⟨h1, h2, cs, h3⟩ := H3.tin k hk
    exact ⟨H3.lt k h1, h2, blk_ne h3 H3.blk (by decide), fun e => row_type H3.pend h3 (by decide) e.symm⟩
  have ba : ∀ k, ownS (.slice A2 m c2) k → w1.heap.size ≤ k ∧ k < (w2.alloc BX).heap.size := fun k hk => HC3.out.block k hk
  have ka : ∀ k, ownS (.slice A2 m c2) k → k < (w2.alloc BX).heap.size ∧ ¬ ownS bv k ∧ k ≠ f ∧ ¬ ownS pv k := fun k hk => by
    obtain ⟨h1, h2⟩ := ba k hk
    refine ⟨h2, fun e => ?_, ?_, fun e => row_apart HC3.out H3.pend (by decide) k hk e⟩
    · have := HF.out.lt k (HF.out.bin k e)
      have := HZ.out.1
      omega
    · rintro rfl
      exact row_type HC3.out H3.blk (by decide) hk.symm
  have U7 : Hid (Upd sf sf w w7) := by
    rw [hw7]
    exact ((U5.thn b5a).grownS g6 (fun k e => .inl (H3.pin k e.symm.symm))).setS (.inl H3.fin) _
  have kb : ∀ k, ownS (.slice Ab' lb' cb') k → k ≠ f := fun k hk e => row_type ho4 Bf4 (by decide) (e ▸ hk.symm)
  have kbp : ∀ k, ownS (.slice Ab' lb' cb') k → ¬ ownS pv k := fun k hk e => row_apart (OwnB.below (w1 := w4) ho4 (Below.refl _ _)) (row_keep H3.pend ((K34.mono fun k hk => ⟨H3.lt k (H3.pin k hk), np k hk⟩))) (by decide) k hk e
  have lb4 : ∀ k, ownS (.slice Ab' lb' cb') k → k < w4.heap.size := fun k hk => (ho4.block k hk).2
  have O7 : OwnB w7 0 (.slice Ab' lb' cb') (fs.bytes ++ ys) := by
    have e : laidL fs.bytes l ys = fs.bytes ++ ys := by rw [HL.out]; exact laidL_end _ _
    rw [e] at ho4
    exact row_keep ho4 ((K45.mono fun k hk => kb k hk).trans (K57.mono fun k hk => ⟨by have := lb4 k hk; omega, kbp k hk, kb k hk⟩))
  have S7 : BytesIn w7 t sv fs.sure := H3.sure.keeps (K37.mono kt)
  have v6f : ∀ k, ownS (.slice A6 l6 c6) k → k ≠ f := fun k hk e => row_type r6 Bf6 (by decide) (e ▸ hk.symm)
  have R7 : w7.ownsRow 0 145 1 (.slice A6 l6 c6) (fs.pend.length + 1) (vals ++ [.iface 202 (.agg #[.int .i64 (l : Int), .slice A2 m c2])]) := row_keep r6 (K67.mono v6f)
  have C7 : OwnB w7 w1.heap.size (.slice A2 m c2) ys := row_keep HC3.out (K37.mono ka)
  obtain ⟨A2', c2', e2', hr7⟩ := C7.reads
  have G7 : ∀ k, t k ∨ ownS (.slice A2 m c2) k → grow sf w w7 k := fun k hk => by
    rcases hk with hk | hk
    · exact .inl (H3.tin k hk).1
    · obtain ⟨h1, h2⟩ := ba k hk
      have := HZ.out.1
      exact .inr ⟨by omega, by omega⟩
  have T7 : ∀ k, t k ∨ ownS (.slice A2 m c2) k → grow sf w w7 k ∧ ¬ ownS (.slice Ab' lb' cb') k ∧ ∃ cs, Blk w7 k 5 cs := fun k hk => by
    have hkk : k < (w2.alloc BX).heap.size ∧ ¬ ownS bv k ∧ k ≠ f ∧ ¬ ownS pv k := by
      rcases hk with hk | hk
      · exact kt k hk
      · exact ka k hk
    refine ⟨G7 k hk, fun e => ?_, ?_⟩
    · rcases hu4.new k e with e | e
      · exact hkk.2.1 e
      · omega
    · rcases hk with hk | hk
      · obtain ⟨h1, h2, cs, h3⟩ := H3.tin k hk
        exact ⟨cs, (K37 k hkk).trans h3⟩
      · rcases C7.2 with ⟨e, _⟩ | ⟨g, cap, cur, e, _, hh, _⟩
        · rw [e] at hk; cases hk
        · rw [e] at hk
          obtain rfl : g = k := Option.some.inj hk
          exact ⟨cur, hh⟩
  have hF7 : Hid (FileM w7 (grow sf w w7) f num ⟨fs.bytes ++ ys, fs.sure, fs.pend ++ [.wr fs.bytes.length ys]⟩) := by
    refine ⟨(.slice Ab' lb' cb'), sv, (.slice A6 l6 c6), vals ++ [.iface 202 (.agg #[.int .i64 (l : Int), .slice A2 m c2])], fun k => t k ∨ ownS (.slice A2 m c2) k, ?_, O7, S7.mono (fun k hk => .inl hk), ?_, ?_, T7, ?_, ?_, .inl H3.fin, ?_⟩
    · rw [hw7]
      exact (Bf6.set_ 3 (.slice A6 l6 c6)).eq_ rfl
    · simpa using R7
    · refine AllPat.snoc ?_ (AllPat.keeps (K37.mono kt) (fun k hk => .inl hk) H3.pats)
      refine ⟨.slice A2 m c2, by rw [HL.out], A2', ys.length, c2', e2', hr7, fun ad ea => ?_⟩
      right
      rw [e2', ea]
      rfl
    · intro k hk
      rcases hu4.new k hk with e | e
      · exact .inl (H3.bin k e)
      · have := lb4 k hk
        have h2 := HZ.out
        exact .inr ⟨by omega, by omega⟩
    · intro k hk
      rcases b6 k hk with e | e
      · exact .inl (H3.pin k e)
      · have h2 := HZ.out
        have h3 := (World.ownsRow.lt r6 k hk).2
        have e' : k = w5.heap.size + 1 := e
        exact .inr ⟨by omega, by omega⟩
    · intro k hk
      rcases hk with hk | hk
      · have := H3.lt k hk
        omega
      · exact hk.2
  have fin : Hid (WriteR w sf f num fs ys (.returned (.int .i64 0)) w7) := ⟨rfl, hF7.out, U7.out⟩
  have fz6 := Bf6.frozen 3
  have ce6 : w6.cell? ⟨f, 3, none⟩ = some pv := Bf6.cell 3
  rw [hw7] at fin
  clear hF7 T7 G7 hr7 e2' C7 R7 v6f S7 O7 lb4 kbp kb U7 ka ba kt K37 hz34 K57 hz56 hz67 K67 hw7 K56 nfp b5a b6' g6 b6 r6 Bf6 Bf5a hz5a U5 P5 pf K35 K34 K45 Bf4 Bx4 np nf nx H3 hu4 ho4 hz3 hu3 HC3 HX3 HF3 HF2 HR2 HF1 HR1 HB1 HR HF
  go_wp2_with fail
  rw [← hw5]
  have cx0' : w5.drew.cell? ⟨w2.heap.size, 0, none⟩ = some (.int .i64 (l : Int)) := cx0
  have cx1' : w5.drew.cell? ⟨w2.heap.size, 1, none⟩ = some (.slice A2 m c2) := cx1
  have cf3' : w5.drew.cell? ⟨f, 3, none⟩ = some pv := cf3
  have b5b : Below w5.heap.size w5 (w5.alloc (.cells #[.iface 202 (.agg #[.int .i64 (l : Int), .slice A2 m c2])] 145)) := (Below.refl _ _).alloc (Nat.le_refl _) _
  have cf3a := cell_below' b5b (show w5.cell? ⟨f, 3, none⟩ = some pv from cf3)
  have hrun2 : (Builtin.append_ #[103, 103] 103 #[pv, .slice (some ⟨w5.heap.size, 0, none⟩) 1 1]).run Tryz.prog (w5.alloc (.cells #[.iface 202 (.agg #[.int .i64 (l : Int), .slice A2 m c2])] 145)).drew = .ok (.slice A6 l6 c6) w6 := hrun
  clear b5b hrun hz45
  clear cx0 cx1 cf3 hw5 Bf5 Bx5 fz4 ce4 cf1'
  go_region
  all_goals
    go_wp2_with fail
    go_ret
    exact fin.out
end Go.Proofs.YtejnfahfjmeabaaGreatDoor
namespace Go.Proofs.YtejnfahfjmeabaaGreatDoor
open Go.RowKit
set_option linter.unusedSimpArgs false
set_option linter.unusedVariables false

/-- the changes of names that may be lost: none, or that the file was made -/
def PvM (w : World) (s sf : Blocks) (pv : Value) : Option Nat → Prop
  | none => pv = .slice none 0 0
  | some f => w.ownsRow 0 101 1 pv 1 [.iface 159 (.agg #[.string (str fName), .pointer (some ⟨f, 0, none⟩)])] ∧ ∀ k, ownS pv k → s k ∧ ¬ sf k
structure DiskP (w : World) (s : Blocks) (d cap : Nat) (D : HdS) (b : Bool) (num : Nat) (fs : FileS) (nm sm : Nat) (pv : Value) (f : Nat) (sf : Blocks) : Prop where
  blk : Blk w d 75 (dk cap nm sm pv D)
  nms : MapAt w nm (some f)
  sms : MapAt w sm (if b = true then some f else none)
  ne : nm ≠ sm
  file : FileM w sf f num fs
  sub : ∀ k, sf k → s k
  nd : ¬ sf d
  nnm : ¬ sf nm
  nsm : ¬ sf sm
  pvm : PvM w s sf pv (if b = true then none else some f)
  ind : s d
  inm : s nm
  ism : s sm
  lt : ∀ k, s k → k < w.heap.size
/-- a disk with the one file; b: its name is sure -/
def DiskF (w : World) (s : Blocks) (d cap : Nat) (D : HdS) (b : Bool) (num : Nat) (fs : FileS) : Prop := ∃ nm sm pv f sf, DiskP w s d cap D b num fs nm sm pv f sf
/-- a disk without a file -/
structure DiskNP (w : World) (s : Blocks) (d cap : Nat) (D : HdS) (nm sm : Nat) : Prop where
  blk : Blk w d 75 (dk cap nm sm (.slice none 0 0) D)
  nms : MapAt w nm none
  sms : MapAt w sm none
  ne : nm ≠ sm
  ind : s d
  inm : s nm
  ism : s sm
  lt : ∀ k, s k → k < w.heap.size
def DiskN (w : World) (s : Blocks) (d cap : Nat) (D : HdS) : Prop := ∃ nm sm, DiskNP w s d cap D nm sm
theorem PvM.keeps {w w' : World} {s s' sf sf' : Blocks} {pv : Value} {o : Option Nat} (h : PvM w s sf pv o) (hk : KeepsOn (ownS pv) w w') (h1 : ∀ k, s k → s' k) (h2 : ∀ k, ownS pv k → sf' k → sf k) : PvM w' s' sf' pv o := by
  cases o with
  | none => exact h
  | some f => exact ⟨row_keep h.1 hk, fun k hk => ⟨h1 k (h.2 k hk).1, fun e => (h.2 k hk).2 (h2 k hk e)⟩⟩
theorem pv_type {w : World} {s sf : Blocks} {pv : Value} {o : Option Nat} (h : PvM w s sf pv o) {k : Nat} {t : TypeId} {cs : Array Value} (hb : Blk w k t cs) (ht : t ≠ 101) : ¬ ownS pv k := by
  cases o with
  | none => rw [show pv = .slice none 0 0 from h]; intro e; cases e
  | some f => exact fun e => row_type h.1 hb ht e.symm
theorem pv_sub {w : World} {s sf : Blocks} {pv : Value} {o : Option Nat} (h : PvM w s sf pv o) : ∀ k, ownS pv k → s k ∧ ¬ sf k := by
  cases o with
  | none => rw [show pv = .slice none 0 0 from h]; intro k e; cases e
  | some f => exact h.2
theorem pv_lt {w : World} {s sf : Blocks} {pv : Value} {o : Option Nat} (h : PvM w s sf pv o) : ∀ k, ownS pv k → k < w.heap.size := by
  cases o with
  | none => rw [show pv = .slice none 0 0 from h]; intro k e; cases e
  | some f => exact fun k hk => (World.ownsRow.lt h.1 k hk).2
theorem FileM.lt' {w : World} {s : Blocks} {f num : Nat} {fs : FileS} (h : FileM w s f num fs) : ∀ k, s k → k < w.heap.size := by
  obtain ⟨_, _, _, _, _, h⟩ := h
  exact h.lt
/-- only the disk's own cells were changed -/
theorem DiskP.begun {w w1 : World} {s : Blocks} {d cap : Nat} {D D' : HdS} {b : Bool} {num : Nat} {fs : FileS} {nm sm : Nat} {pv : Value} {f : Nat} {sf : Blocks} (h : DiskP w s d cap D b num fs nm sm pv f sf)
    (hb : Blk w1 d 75 (dk cap nm sm pv D')) (hu : Upd (one d) (one d) w w1) : DiskP w1 s d cap D' b num fs nm sm pv f sf := by
  have hne := map_ne h.nms h.blk
  have hne2 := map_ne h.sms h.blk
  refine ⟨hb, h.nms.upd hu hne, h.sms.upd hu hne2, h.ne, h.file.keeps (fun k hk => hu.block k (h.file.lt' k hk) (fun e => h.nd (e ▸ hk))) hu.size, h.sub, h.nd, h.nnm, h.nsm,
    h.pvm.keeps (fun k hk => hu.block k (pv_lt h.pvm k hk) (fun e => pv_type h.pvm h.blk (by decide) (e ▸ hk))) (fun _ h => h) (fun _ _ h => h), h.ind, h.inm, h.ism, fun k hk => Nat.lt_of_lt_of_le (h.lt k hk) hu.size⟩
theorem Upd.oneS {s : Blocks} {d : Nat} {w w1 : World} (hu : Upd (one d) (one d) w w1) (h : s d) : Upd s s w w1 :=
  (Upd.refl s w).thenS hu (fun k hk => by cases hk; exact .inl h)
theorem grow_sub {s : Blocks} {w w' : World} : ∀ k, s k → grow s w w' k := fun k h => .inl h
/-- the file was changed -/
theorem DiskP.filed {w w1 w2 : World} {s : Blocks} {d cap : Nat} {D : HdS} {b : Bool} {num : Nat} {fs fs' : FileS} {nm sm : Nat} {pv : Value} {f : Nat} {sf : Blocks} (h : DiskP w1 s d cap D b num fs nm sm pv f sf)
    (hz : w.heap.size ≤ w1.heap.size) (hf : FileM w2 (grow sf w1 w2) f num fs') (hu : Upd sf sf w1 w2) : DiskF w2 (grow s w w2) d cap D b num fs' := by
  have hlt : ∀ k, s k → k < w1.heap.size := h.lt
  have hg : ∀ k, s k → ¬ sf k → ¬ grow sf w1 w2 k := fun k h1 h2 h3 => by
    rcases h3 with h3 | h3
    · exact h2 h3
    · have := hlt k h1
      omega
  refine ⟨nm, sm, pv, f, grow sf w1 w2, (hu.block d (hlt d h.ind) h.nd).trans h.blk, h.nms.upd hu h.nnm, h.sms.upd hu h.nsm, h.ne, hf, fun k hk => ?_, hg d h.ind h.nd, hg nm h.inm h.nnm, hg sm h.ism h.nsm,
    h.pvm.keeps (fun k hk => hu.block k (pv_lt h.pvm k hk) (pv_sub h.pvm k hk).2) grow_sub (fun k hk hg2 => by
      rcases hg2 with hg2 | hg2
      · exact hg2
      · have := pv_lt h.pvm k hk
        omega), .inl h.ind, .inl h.inm, .inl h.ism, fun k hk => ?_⟩
  · rcases hk with hk | hk
    · exact .inl (h.sub k hk)
    · exact .inr ⟨by omega, hk.2⟩
  · rcases hk with hk | hk
    · have := hlt k hk
      have := hu.size
      omega
    · exact hk.2
end Go.Proofs.YtejnfahfjmeabaaGreatDoor
namespace Go.Proofs.YtejnfahfjmeabaaGreatDoor
open Go.RowKit
set_option linter.unusedSimpArgs false
set_option linter.unusedVariables false

theorem DiskP.wide {w w0 : World} {s : Blocks} {d cap : Nat} {D : HdS} {b : Bool} {num : Nat} {fs : FileS} {nm sm : Nat} {pv : Value} {f : Nat} {sf : Blocks} (h : DiskP w s d cap D b num fs nm sm pv f sf) (hz : w0.heap.size ≤ w.heap.size) : DiskF w (grow s w0 w) d cap D b num fs :=
  ⟨nm, sm, pv, f, sf, h.blk, h.nms, h.sms, h.ne, h.file, fun k hk => .inl (h.sub k hk), h.nd, h.nnm, h.nsm, h.pvm.keeps (fun _ _ => rfl) grow_sub (fun _ _ h => h), .inl h.ind, .inl h.inm, .inl h.ism, fun k hk => by
    rcases hk with hk | hk
    · exact h.lt k hk
    · exact hk.2⟩
/-- a call that changes the file, or does not come to it -/
def FileOp (w : World) (s : Blocks) (d cap : Nat) (D : HdS) (b : Bool) (num : Nat) (fs fs' : FileS) (e : Ending) (w' : World) : Prop :=
  e = .returned (.int .i64 (D.beginsE : Int)) ∧ DiskF w' (grow s w w') d cap D.begins b num (if D.beginsE = 0 then fs' else fs) ∧ Upd s s w w'
def FileS.settled (f : FileS) : FileS := if f.pend = [] then f else ⟨f.bytes, f.bytes, []⟩
def SettleR (w : World) (sf : Blocks) (f num : Nat) (fs : FileS) (e : Ending) (w' : World) : Prop :=
  e = .returned (.tuple #[]) ∧ FileM w' (grow sf w w') f num fs.settled ∧ Upd sf sf w w'
theorem FileP.wide {w w0 : World} {s : Blocks} {f num : Nat} {fs : FileS} {bv sv pv : Value} {vals : List Value} {t : Blocks} (h : FileP w s f num fs bv sv pv vals t) : FileM w (grow s w0 w) f num fs :=
  ⟨bv, sv, pv, vals, t, h.blk, h.bytes, h.sure, h.pend, h.pats, fun k hk => ⟨.inl (h.tin k hk).1, (h.tin k hk).2⟩, fun k hk => .inl (h.bin k hk), fun k hk => .inl (h.pin k hk), .inl h.fin, fun k hk => by
    rcases hk with hk | hk
    · exact h.lt k hk
    · exact hk.2⟩
set_option maxRecDepth 100000 in
set_option maxHeartbeats 1000000 in
theorem settle_calls (f num : Nat) (fs : FileS) (sf : Blocks) (w : World) (hf : FileM w sf f num fs) (hl : fs.bytes.length ≤ 140737488355328) :
    Calls Tryz.prog 75 #[.pointer (some ⟨f, 0, none⟩)] w (SettleR w sf f num fs) := by
  obtain ⟨bv, sv, pv, vals, t, hF⟩ := hf
  have HF := Lib.hid hF
  obtain ⟨Ap, cp, hpv⟩ := row_slice hF.pend
  have c3 : w.cell? ⟨f, 3, none⟩ = some pv := hF.blk.cell 3
  rw [hpv] at c3
  obtain ⟨l, hl0⟩ : ∃ l : Nat, l = fs.pend.length := ⟨_, rfl⟩
  rw [← hl0] at c3
  by_cases h0 : fs.pend = []
  · have e0 : l = 0 := by rw [hl0, h0]; rfl
    subst e0
    have HS := Lib.hid (show fs.settled = fs by unfold FileS.settled; rw [if_pos h0])
    clear hF hpv h0 hl0
    go_enter Tryz.func75, Tryz.ntmps75
    go_wp2_with fail
    (try simp only [Exit.inBlock, Exit.then]); refine bodyPost_ret (results_none rfl _ _ _) rfl ?_
    refine ⟨rfl, ?_, Upd.refl _ _⟩
    rw [HS.out]
    exact HF.out.wide
  · have hpos : 0 < l := by rw [hl0]; exact List.length_pos_iff.2 h0
    have hposI : (0 : Int) < (l : Int) := by omega
    have HS := Lib.hid (show fs.settled = ⟨fs.bytes, fs.bytes, []⟩ by unfold FileS.settled; rw [if_neg h0])
    obtain ⟨Ab, cb, hbv, hrb⟩ := hF.bytes.reads
    have c1 : w.cell? ⟨f, 1, none⟩ = some bv := hF.blk.cell 1
    rw [hbv] at c1
    have HC := Lib.hid (Clone_calls Ab fs.bytes.length cb fs.bytes w hrb hl)
    generalize fs.bytes.length = n at *
    have HB := Lib.hid hbv
    clear hF hpv h0 hl0 hbv hrb
    go_enter Tryz.func75, Tryz.ntmps75
    go_wp2_with fail
    refine HC.out.mono ?_
    intro e w1 hnb
    obtain ⟨A1, c1', rfl, ho1, hr1, hb1⟩ := hnb.out
    clear hnb
    generalize fs.bytes.length = n1 at *
    have H1 := HF.out.keeps (KeepsOn.below hb1 HF.out.lt) hb1.size
    have B1 := H1.blk
    have f2 := B1.frozen 2
    have f3 := B1.frozen 3
    have d2 : w1.cell? ⟨f, 2, none⟩ = some sv := B1.cell 2
    have d3 : w1.cell? ⟨f, 3, none⟩ = some pv := B1.cell 3
    have HH := Lib.hid (show FileP w1 sf f num fs bv sv pv vals t from H1)
    have HO := Lib.hid ho1
    have HR1 := Lib.hid hr1
    have HB1 := Lib.hid hb1
    clear H1 B1 ho1 hr1 hb1
    go_wp2_with fail
    (try simp only [Exit.inBlock, Exit.then]); refine bodyPost_ret (results_none rfl _ _ _) rfl ?_
    have H := HH.out
    obtain ⟨w2, hw2⟩ : ∃ w2 : World, w2 = (w1.setCell ⟨f, 2, none⟩ (.slice A1 n1 c1')).setCell ⟨f, 3, none⟩ (.slice none 0 0) := ⟨_, rfl⟩
    rw [← hw2]
    have K : KeepsOn (fun k => k ≠ f) w1 w2 := fun k hk => by
      rw [hw2]
      exact (Below.heap_setCell _ ⟨f, 3, none⟩ _ k hk).trans (Below.heap_setCell w1 ⟨f, 2, none⟩ _ k hk)
    have hz2 : w2.heap.size = w1.heap.size := by rw [hw2]; simp [World.setCell]
    have U : Upd sf sf w w2 := by
      rw [hw2]
      exact ((Upd.below HB1.out).setS (.inl H.fin) _).setS (.inl H.fin) _
    have hz1 := HB1.out.size
    have na : ∀ k, ownS (.slice A1 n1 c1') k → w.heap.size ≤ k ∧ k < w1.heap.size := fun k hk => HO.out.block k hk
    have nf : ∀ k, ownS (.slice A1 n1 c1') k → k ≠ f := fun k hk e => row_type HO.out H.blk (by decide) (e ▸ hk.symm)
    have nb : ∀ k, ownS bv k → k ≠ f := fun k hk e => row_type H.bytes H.blk (by decide) (e ▸ hk.symm)
    have O2 : OwnB w2 w.heap.size (.slice A1 n1 c1') fs.bytes := row_keep HO.out (K.mono nf)
    obtain ⟨A2, c2, e2, hr2⟩ := O2.reads
    refine ⟨rfl, ?_, U⟩
    rw [HS.out]
    refine ⟨bv, .slice A1 n1 c1', .slice none 0 0, [], ownS (.slice A1 n1 c1'), ?_, row_keep H.bytes (K.mono nb), ?_, World.ownsRow_nil _ _ _ _, trivial, ?_, fun k hk => .inl (H.bin k hk), (fun k hk => by cases hk), .inl H.fin, ?_⟩
    · rw [hw2]
      exact ((H.blk.set_ 2 _).set_ 3 _).eq_ rfl
    · refine ⟨A2, fs.bytes.length, c2, e2, hr2, fun ad ea => ?_⟩
      rw [e2, ea]
      rfl
    · intro k hk
      have h1 := na k hk
      refine ⟨.inr ⟨h1.1, by omega⟩, fun e => ?_, ?_⟩
      · have := HF.out.lt k (HF.out.bin k e)
        omega
      · rcases O2.2 with ⟨e, _⟩ | ⟨g, cap, cur, e, _, hh, _⟩
        · rw [e] at hk; cases hk
        · rw [e] at hk
          obtain rfl : g = k := Option.some.inj hk
          exact ⟨cur, hh⟩
    · intro k hk
      rcases hk with hk | hk
      · have := H.lt k hk
        omega
      · exact hk.2
theorem chgP_0 {D : HdS} {n : Option Nat} (h : D.beginsE = 0) : chgP D n = ptrOf n ∧ chgE D n = namedE n := by
  unfold chgP chgE
  rw [if_pos h, if_pos h]
  exact ⟨rfl, rfl⟩
theorem chgP_1 {D : HdS} {n : Option Nat} (h : ¬ D.beginsE = 0) : chgP D n = .pointer none ∧ chgE D n = D.beginsE := by
  unfold chgP chgE
  rw [if_neg h, if_neg h]
  exact ⟨rfl, rfl⟩
set_option maxRecDepth 100000 in
set_option maxHeartbeats 1000000 in
theorem dSync_calls (d cap : Nat) (D : HdS) (b : Bool) (num : Nat) (fs : FileS) (s : Blocks) (w : World) (h : DiskF w s d cap D b num fs) (hF : D.Fit) (hl : fs.bytes.length ≤ 140737488355328) :
    Calls Tryz.prog 45 #[.pointer (some ⟨d, 0, none⟩), .string (str fName)] w (FileOp w s d cap D b num fs fs.settled) := by
  obtain ⟨nm, sm, pv, f, sf, h⟩ := h
  have hc := Lib.hid (changing_calls d cap nm sm pv D (some f) w h.blk hF h.nms)
  have H := Lib.hid h
  by_cases h0 : D.beginsE = 0
  · have HE := Lib.hid h0
    unfold ChgR at hc
    rw [(chgP_0 h0).1, (chgP_0 h0).2] at hc
    have hn0 : ((namedE (some f) : Nat) : Int) = 0 := rfl
    have hp0 : ptrOf (some f) = .pointer (some ⟨f, 0, none⟩) := rfl
    rw [hn0, hp0] at hc
    clear h h0 hn0 hp0
    generalize str fName = nmS at *
    go_enter Tryz.func45, Tryz.ntmps45
    go_wp2_with fail
    refine hc.out.mono ?_
    rintro e w1 ⟨rfl, hB, hU⟩
    have H1 := Lib.hid (H.out.begun hB hU)
    have HU := Lib.hid hU
    clear hB hU
    go_wp2_with fail
    refine (settle_calls f num fs sf w1 H1.out.file hl).mono ?_
    rintro e w2 ⟨rfl, hf2, hu2⟩
    have HR : Hid (FileOp w s d cap D b num fs fs.settled (.returned (.int .i64 0)) w2) := by
      refine ⟨by rw [HE.out]; rfl, ?_, (HU.out.oneS H.out.ind).thenS hu2 (fun k hk => .inl (H.out.sub k hk))⟩
      rw [if_pos HE.out]
      exact H1.out.filed HU.out.size hf2 hu2
    clear hf2 hu2
    go_wp2_with fail
    go_ret
    exact HR.out
  · have HE := Lib.hid h0
    unfold ChgR at hc
    rw [(chgP_1 h0).1, (chgP_1 h0).2] at hc
    have hq : ((D.beginsE : Int) != 0) = true := by rw [bne_iff_ne]; omega
    have hq2 : ¬ (D.beginsE : Int) = 0 := by omega
    clear h h0
    generalize str fName = nmS at *
    go_enter Tryz.func45, Tryz.ntmps45
    go_wp2_with fail
    refine hc.out.mono ?_
    rintro e w1 ⟨rfl, hB, hU⟩
    go_wp2_with fail
    go_ret
    refine ⟨rfl, ?_, hU.oneS H.out.ind⟩
    rw [if_neg HE.out]
    exact (H.out.begun hB hU).wide hU.size
end Go.Proofs.YtejnfahfjmeabaaGreatDoor
