/- strings.SplitSeq, its iterator -/
import Derived.Test.YtfjfjjcdlgdbcaaDoorE12
import Derived.Test.YtfjfjjcdlgdbcaaDoorEShelf3
import Derived.RangeFuncNested
import Derived.RangeFuncBound
import Derived.RangeFuncCalls
import Derived.RangeFuncLeaves
import Derived.Shelf.Abstract
import Derived.Shelf.RegionOpen
import Derived.OwnWalkIn
import Derived.TacticsInMore
import Derived.LoopNIn
import Derived.LoopIn
namespace Go.Proofs.YtfjfjjcdlgdbcaaDoor
open Go.RowKit Go.Shelf
set_option linter.unusedSimpArgs false
set_option linter.unusedVariables false

theorem idxB_cons_ne (b c : UInt8) (l : List UInt8) (h : ¬ b = c) : Lib.indexByte (b :: l) c = if Lib.indexByte l c = -1 then -1 else Lib.indexByte l c + 1 := by
  rw [Lib.indexByte, if_neg (by simpa using h)]
  by_cases hm : Lib.indexByte l c = -1
  · rw [hm]; rfl
  · rw [if_neg (by simpa using hm), if_neg hm]
theorem splitL_miss (c : UInt8) : ∀ t : List UInt8, Lib.indexByte t c = -1 → splitL c t = [t]
  | [], _ => rfl
  | b :: l, h => by
    have hge := Lib.indexByte_ge l c
    by_cases hb : b = c
    · subst hb
      rw [Lib.indexByte, if_pos (by simp)] at h
      omega
    · rw [idxB_cons_ne b c l hb] at h
      split at h
      · rename_i hm
        rw [splitL, if_neg hb, splitL_miss c l hm]
        rfl
      · omega
theorem splitL_hit (c : UInt8) : ∀ (t : List UInt8) (i : Nat), Lib.indexByte t c = (i : Int) → splitL c t = t.take i :: splitL c (t.drop (i + 1)) ∧ i < t.length
  | [], i, h => by rw [Lib.indexByte] at h; omega
  | b :: l, i, h => by
    have hge := Lib.indexByte_ge l c
    by_cases hb : b = c
    · subst hb
      rw [Lib.indexByte, if_pos (by simp)] at h
      obtain rfl : i = 0 := by omega
      rw [splitL, if_pos rfl]
      simp
    · rw [idxB_cons_ne b c l hb] at h
      split at h
      · omega
      · obtain ⟨j, rfl⟩ : ∃ j, i = j + 1 := ⟨i - 1, by omega⟩
        obtain ⟨e, hl⟩ := splitL_hit c l j (by omega)
        rw [splitL, if_neg hb, e]
        simp only [consHead, List.take_succ_cons, List.drop_succ_cons, List.length_cons]
        exact ⟨trivial, by omega⟩
set_option maxHeartbeats 1000000 in
theorem SplitSeq_calls (s : ByteArray) (w : World) : Calls Tryd.prog 110 #[.string s, .string ⟨#[44]⟩] w fun e w' =>
    e = .returned (.func (.func 157) #[] #[.pointer (some ⟨w.heap.size + 1, 0, none⟩), .pointer (some ⟨w.heap.size, 0, none⟩), .pointer (some ⟨w.heap.size + 2, 0, none⟩)]) ∧
      w' = ((w.alloc (.cells #[.string s] 9)).alloc (.cells #[.string ⟨#[44]⟩] 9)).alloc (.cells #[.int .i64 0] 3) := by
  have hmf : ∀ (fn : Fn) (first cap : Array Value) (W : World), (Instr.makeFunc fn first cap).run Tryd.prog W = .ok (.func fn first cap) W := fun fn first cap W => rfl
  have h134 : ∀ W, Calls Tryd.prog 134 #[.string s, .string ⟨#[44]⟩, .int .i64 0] W fun e w' => e = .returned (.func (.func 157) #[] #[.pointer (some ⟨W.heap.size + 1, 0, none⟩), .pointer (some ⟨W.heap.size, 0, none⟩), .pointer (some ⟨W.heap.size + 2, 0, none⟩)]) ∧
      w' = ((W.alloc (.cells #[.string s] 9)).alloc (.cells #[.string ⟨#[44]⟩] 9)).alloc (.cells #[.int .i64 0] 3) := by
    intro W
    go_enter Tryd.func134, Tryd.ntmps134
    go_wp2
    go_ret
    exact ⟨rfl, rfl⟩
  go_enter Tryd.func110, Tryd.ntmps110
  go_wp2_with (go_at_call 134; refine (h134 _).mono ?_; rintro e w1 ⟨rfl, rfl⟩)
  go_ret
  exact ⟨rfl, rfl⟩

/-- what the iterator's own variables hold: the separator, what is left of the text, no width kept -/
structure SeqVars (W : World) (b : Nat) (t : List UInt8) : Prop where
  text : Blk W b 9 #[.string (str t)]
  sep : Blk W (b + 1) 9 #[.string ⟨#[44]⟩]
  save : Blk W (b + 2) 3 #[.int .i64 0]
noncomputable def World.strLen (W : World) (b : Nat) : Nat := match W.cell? ⟨b, 0, none⟩ with | some (.string s) => s.size | _ => 0
theorem strLen_of {W : World} {b : Nat} {t : List UInt8} (h : SeqVars W b t) : World.strLen W b = t.length := by
  unfold World.strLen
  rw [h.text.cell]
  rfl

attribute [local go_sem] Oper.semAt_some
set_option maxRecDepth 100000 in
set_option maxHeartbeats 4000000 in
/-- the iterator, over whatever a round keeps -/
theorem iter157_in (n : Nat) (l b : Nat) (s : List UInt8) (hs : s.length ≤ 100000000) (J Jx : List (List UInt8) → World → Prop)
    (hY : ∀ pre x rest t W, splitL 44 s = pre ++ x :: rest → J pre W → SeqVars W b t → YieldAt Fence.wide (n - 1) Tryd.prog l #[.string (str x)] W fun e W' =>
      (e = .returned (.bool true) ∧ J (pre ++ [x]) W' ∧ SeqVars W' b t) ∨ (e = .returned (.bool false) ∧ Jx (pre ++ [x]) W'))
    (hset : ∀ pre t t' W, J pre W → SeqVars W b t → J pre (W.setCell ⟨b, 0, none⟩ (.string (str t'))))
    (W : World) (h0 : J [] W) (hv : SeqVars W b s) :
    CallsIn Fence.wide n Tryd.prog 157 #[.func (.yield l) #[] #[], .pointer (some ⟨b + 1, 0, none⟩), .pointer (some ⟨b, 0, none⟩), .pointer (some ⟨b + 2, 0, none⟩)] W fun e W' => (∃ v, e = .returned v) ∧ (J (splitL 44 s) W' ∨ ∃ pre, Jx pre W') := by
  have hsep := hv.sep.cell 0
  simp at hsep
  refine callsIn_of_wp Tryd.func157 rfl trivial ?_ rfl
  simp only [Tryd.ntmps157, List.size_toArray, List.length_cons, List.length_nil, Nat.reduceAdd, Nat.reduceSub, Array.replicate_succ, Array.replicate_zero, List.push_toArray, List.append_toArray, List.nil_append, List.cons_append]
  gi_wp2
  gi_loopw [7] (fun p wr => ∃ pre t, splitL 44 s = pre ++ splitL 44 t ∧ J pre wr ∧ SeqVars wr b t ∧ t.length ≤ 100000000) (fun _ wr => World.strLen wr b)
  case atStart => exact ⟨[], s, rfl, h0, hv, hs⟩
  case round =>
    obtain ⟨pre, t, hx, hJ, hv', htl⟩ := hrel
    have c0 := hv'.text.cell 0
    have c1 := hv'.sep.cell 0
    have c2 := hv'.save.cell 0
    have hidx := Lib.hid (fun W => Tryd.strings_Index_one (str t) 44 W)
    have hge := Lib.indexByte_ge t 44
    rw [str_toList] at hidx
    have hlen := Lib.hid (strLen_of hv')
    have HV := Lib.hid hv'
    by_cases hi : Lib.indexByte t 44 = -1
    · have hsp := splitL_miss 44 t hi
      obtain ⟨fn, tmps, assign, body, hy, hR⟩ := hY pre t [] t wr (by rw [hx, hsp]) hJ hv'
      have HX := Lib.hid (show splitL 44 s = pre ++ [t] by rw [hx, hsp])
      rw [hi] at hidx
      clear hi hsp hx hv'
      gi_wp2_with (refine ⟨trivial, (by intro hh; cases hh), ?_⟩; gi_at_call 127; refine (callsIn_wide.2 (hidx.out _)).mono ?_; rintro e w1 ⟨rfl, rfl⟩)
      refine ⟨(by intro hh; cases hh), ?_⟩
      refine hR.mono ?_
      rintro e W3 (⟨rfl, hJ3, hv3⟩ | ⟨rfl, hJx3⟩)
      · gi_wp2
        go_end0
        exact ⟨⟨_, rfl⟩, .inl (by rw [HX.out]; exact hJ3)⟩
      · gi_wp2
        go_end0
        exact ⟨⟨_, rfl⟩, .inr ⟨_, hJx3⟩⟩
    · obtain ⟨i, hi'⟩ : ∃ i : Nat, Lib.indexByte t 44 = i := ⟨(Lib.indexByte t 44).toNat, by omega⟩
      obtain ⟨hsp, hil⟩ := splitL_hit 44 t i hi'
      obtain ⟨fn, tmps, assign, body, hy, hR⟩ := hY pre (t.take i) (splitL 44 (t.drop (i + 1))) t wr (by rw [hx, hsp]) hJ hv'
      rw [hi'] at hidx
      have hex1 : (str t).extract 0 i = str (t.take i) := by
        apply ByteArray.ext
        simp [str, ByteArray.data_extract]
      have hex2 : (str t).extract (i + 1) t.length = str (t.drop (i + 1)) := by
        apply ByteArray.ext
        apply Array.ext'
        simp [str, ByteArray.data_extract]
        exact List.take_of_length_le (by simp)
      have HX := Lib.hid (show splitL 44 s = (pre ++ [t.take i]) ++ splitL 44 (t.drop (i + 1)) by rw [hx, hsp]; simp)
      have hszt : (str t).size = t.length := rfl
      clear hi hi' hsp hx hv'
      gi_wp2_with (refine ⟨trivial, (by intro hh; cases hh), ?_⟩; gi_at_call 127; refine (callsIn_wide.2 (hidx.out _)).mono ?_; rintro e w1 ⟨rfl, rfl⟩)
      refine ⟨(by intro hh; cases hh), ?_⟩
      refine hR.mono ?_
      rintro e W3 (⟨rfl, hJ3, hv3⟩ | ⟨rfl, hJx3⟩)
      · have c03 := hv3.text.cell 0
        have c13 := hv3.sep.cell 0
        have c23 := hv3.save.cell 0
        have f03 := hv3.text.frozen 0
        have HV3 := Lib.hid hv3
        have HS := Lib.hid (hset (pre ++ [t.take i]) t (t.drop (i + 1)) W3 hJ3 hv3)
        clear hv3
        have hvn : SeqVars (W3.setCell ⟨b, 0, none⟩ (.string (str (t.drop (i + 1))))) b (t.drop (i + 1)) := ⟨HV3.out.text.set_ 0 _, HV3.out.sep.far (by simp) _, HV3.out.save.far (by simp) _⟩
        gi_wp2
        go_roundw
        case rel => exact ⟨pre ++ [t.take i], t.drop (i + 1), HX.out, HS.out, hvn, by simp; omega⟩
        case measure => rw [strLen_of hvn, hlen.out]; simp; omega
      · gi_wp2
        refine bodyPost_ret (results_none rfl _ _ _) rfl ?_
        exact ⟨⟨_, rfl⟩, .inr ⟨_, hJx3⟩⟩
end Go.Proofs.YtfjfjjcdlgdbcaaDoor
