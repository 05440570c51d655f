/- the texts E0, E1, EShelf, E2, E3, E4, E5 of this proof, one behind the other -/
import Derived.Test.YtfjfjjcdlgdbcaaDoorF0
import Derived.Deep.DeepCutAuto
import Derived.Deep.QuietTactic
import Derived.BigQuiet
import Derived.Deep.RegionLaw
import Derived.Deep.RegionHeld3
import Derived.Shelf.Strings.Builder1
import Derived.Shelf.Strings.Builder2
import Derived.Shelf.Strings.OnBuilder
import Derived.Shelf.Small.Utf8
import Derived.Shelf.Small.Strs
import Derived.Shelf.Strconv.Atoi
import Derived.Shelf.Strconv.Itoa0
import Derived.Shelf.Strconv.Itoa1
import Derived.Shelf.LaysM
import Derived.Shelf.Strconv.Itoa2
import Derived.Shelf.Strconv.Itoa3
import Derived.Shelf.Strconv.AtoiErrFast
import Derived.Shelf.Strconv.ParseIntEmpty
import Derived.Shelf.Strconv.AtoiFail
import Derived.Shelf.Strconv.Clone
import Derived.Shelf.Strconv.SyntaxError
import Derived.Shelf.LaysC
import Derived.Shelf.Strconv.ToError
import Derived.Shelf.Strconv.AtoiErr
import Derived.Shelf.Strconv.Lower
import Derived.Shelf.Strconv.ParseUint10
import Derived.Shelf.Strconv.ParseUint10Empty
import Derived.Shelf.Strconv.ParseUint10Any
import Derived.Shelf.Strconv.ParseInt10
import Derived.Shelf.Strconv.AtoiLong
import Derived.Shelf.Strconv.AtoiInnerAll
import Derived.Shelf.Strconv.RangeError
import Derived.Shelf.Strconv.ToErrorRange
import Derived.Shelf.Strconv.AtoiAll
import Derived.Shelf.Strconv.ErrVarAll
import Derived.Shelf.Strconv.ParseUintEmpty
import Derived.Shelf.Strconv.ParseUint10b64
import Derived.Shelf.Strconv.ParseUint10b32
import Derived.Shelf.Strconv.ParseUint10b16
import Derived.Shelf.Strconv.ParseUint10b8
import Derived.Shelf.Strconv.ParseUint10At
import Derived.Shelf.Strconv.ParseInt10At64
import Derived.Shelf.Strconv.ParseInt10At32
import Derived.Shelf.Strconv.ParseInt10At16
import Derived.Shelf.Strconv.ParseInt10At8
import Derived.Shelf.Strconv.ParseInt10All
import Derived.Ground.MpProg
import Derived.Shelf.Pu.ParseUintPublic10
import Derived.Shelf.Pu.ErrVarParseUint
import Derived.Shelf.Strings.Search1
import Derived.Shelf.Strings.Search2
import Derived.Shelf.Strings.Search3
import Derived.Shelf.Strings.Cut
import Derived.Shelf.Strings.Count
import Derived.Shelf.Strings.Shaped
import Derived.Shelf.Strings.Split
import Derived.Test.YtfjfjjcdlgdbcaaDoorProg
namespace Go.Proofs.YtfjfjjcdlgdbcaaDoor
open Go.RowKit

def hexS : ByteArray := ⟨#[48, 49, 50, 51, 52, 53, 54, 55, 56, 57, 97, 98, 99, 100, 101, 102]⟩
/-- a digit -/
def dig (n : Nat) : UInt8 := [48, 49, 50, 51, 52, 53, 54, 55, 56, 57, 97, 98, 99, 100, 101, 102].getD n 0
def dig2 (b : UInt8) : List UInt8 := [dig (b.toNat / 16), dig (b.toNat % 16)]
/-- digits of bytes -/
def hexL (xs : List UInt8) : List UInt8 := (xs.map dig2).flatten
theorem hexL_length (xs : List UInt8) : (hexL xs).length = 2 * xs.length := by
  induction xs with
  | nil => rfl
  | cons x xs ih => simp only [hexL, List.map_cons, List.flatten_cons, List.length_append, List.length_cons] at ih ⊢; rw [ih]; simp [dig2]; omega
theorem hexL_append (xs ys : List UInt8) : hexL (xs ++ ys) = hexL xs ++ hexL ys := by simp [hexL]
theorem hexL_take_succ (xs : List UInt8) (k : Nat) (h : k < xs.length) : hexL (xs.take (k + 1)) = hexL (xs.take k) ++ dig2 (xs.getD k 0) := by
  have e : xs.take (k + 1) = xs.take k ++ [xs[k]] := List.take_succ_eq_append_getElem h
  rw [e, hexL_append]
  simp [hexL, List.getD_eq_getElem?_getD, List.getElem?_eq_getElem h]
theorem dig_get : ∀ n : Nat, n < 16 → hexS.data.toList[n]? = some (dig n) := by decide
theorem RdB.two (w : World) (t : TypeId) (a b : UInt8) : RdB (w.alloc (.cells #[.int .u8 a.toNat, .int .u8 b.toNat] t)) (some ⟨w.heap.size, 0, none⟩) 2 2 [a, b] :=
  RdB.many w t [a, b] rfl (by unfold maxLen; omega)

theorem nib_and (b : UInt8) : bits BinOp.and IntKind.u8 (b.toNat : Int) 15 = (b.toNat : Int) % 16 := by
  have : ∀ c : Fin 256, bits BinOp.and IntKind.u8 (c.val : Int) 15 = (c.val : Int) % 16 := by decide +kernel
  exact this ⟨b.toNat, b.toNat_lt⟩
theorem hexS_get : ∀ m : Fin 16, (hexS[m.val]'(by show m.val < 16; omega)).toNat = (dig m.val).toNat := by decide +kernel
theorem idx_hex {P : Program} (n : Nat) (hn : n < 16) (w : World) (h : P.underlying 9 = some .string) :
    (Instr.index 9 (.string ⟨#[48, 49, 50, 51, 52, 53, 54, 55, 56, 57, 97, 98, 99, 100, 101, 102]⟩) (.int .u8 (n : Int))).run P w = .ok (.int .u8 ((dig n).toNat : Int)) w := by
  show (Instr.index 9 (.string hexS) (.int .u8 (n : Int))).run P w = _
  rw [run_index_string w 9 hexS .u8 n h, dif_pos ⟨by omega, by show (n : Int) < 16; omega⟩]
  have h2 := hexS_get ⟨n, hn⟩
  simp only [Int.toNat_natCast]
  rw [h2]

theorem armH_appendB (w : World) {ops : Array Oper} {o : Oper} {a : Act} {K : Act → World → Prop} {Q : Exit → Act → World → Prop} {E : Prop}
    (hgd : o.guard = none) (s x : Operand) (ho : o.op = .call { callee := .builtin .append, args := #[s, x], argTypes := #[22, 22] })
    (B : Nat) (v : Value) (xs ys : List UInt8) (hs : a.eval s = v) (A : Option Addr) (n c : Nat) (hx : a.eval x = .slice A n c) (hown : OwnB w B v xs) (hr : RdB w A n c ys)
    (hl : xs.length + n ≤ 140737488355328) (hB : B ≤ w.heap.size)
    (h : ∀ v' w', OwnB w' B v' (xs ++ ys) → w.grownBy w' v.ownBlock → Below B w w' → K (a.put o.dst v') w') :
    if Region.wanted o (yielded ops a.tmps) = true then Oper.wp Tryd.prog o a w K Q else E := by
  obtain ⟨v', w', hrun, h1, h2, h3⟩ := run_appendB w o.type B v xs ys A n c hown hr hl hB
  have hw : Region.wanted o (yielded ops a.tmps) = true := by simp [Region.wanted, hgd]
  rw [if_pos hw]
  unfold Oper.wp execOp
  simp only [ho, resolve, invoke, builtin, Sem.run_bind, Sem.run_pure, Result.andThen_ok, List.map_toArray, List.map_cons, List.map_nil, hs, hx, hrun]
  exact h v' w' h1 h2 h3

set_option maxRecDepth 100000 in
set_option maxHeartbeats 1000000 in
theorem Hex_calls (A : Option Addr) (n c : Nat) (xs : List UInt8) (w : World) (h : RdB w A n c xs) (hs : n ≤ 100000000) :
    Calls Tryd.prog 48 #[.slice A n c] w fun e w' => e = .returned (.string (str (hexL xs))) ∧ Below w.heap.size w w' := by
  have hm : n ≤ 9223372036854775807 := by omega
  have H := Lib.hid h
  clear h
  go_enter Tryd.func48, Tryd.ntmps48
  go_wp2
  go_loopw [3, 8] (fun v i wr => ∃ k : Nat, k ≤ n ∧ i = .int .i64 k ∧ OwnB wr w.heap.size v (hexL (xs.take k)) ∧ Below w.heap.size w wr) (fun _ i _ => n - (intOf i).toNat)
  case atStart => exact ⟨0, by omega, rfl, by simpa [hexL] using OwnB.nil _ _, Below.refl _ _⟩
  case round =>
    obtain ⟨k, hk, rfl, ho, hb⟩ := hrel
    have hbs := hb.size
    by_cases hlt : k < n
    · obtain ⟨ad, rfl, hcell⟩ := (H.out.below hb).at_ hlt
      have HF := Lib.hid (hexL_take_succ xs k (by rw [H.out.1]; exact hlt))
      have hxl := H.out.1
      generalize xs.getD k 0 = b at *
      have hbl := b.toNat_lt
      have hq1 : (0 : Int) ≤ (b.toNat : Int) / 16 ∧ (b.toNat : Int) / 16 < 16 := by omega
      have hq2 : (0 : Int) ≤ (b.toNat : Int) % 16 ∧ (b.toNat : Int) % 16 < 16 := by omega
      have hbit := nib_and b
      have hlen : Hid ((hexL (xs.take k)).length = 2 * k) := by rw [hexL_length, List.length_take, hxl]; show 2 * min k n = _; omega
      have hi1 := fun W => idx_hex (P := Tryd.prog) (b.toNat / 16) (by omega) W Tryd.underlying9
      have hi2 := fun W => idx_hex (P := Tryd.prog) (b.toNat % 16) (by omega) W Tryd.underlying9
      simp only [Int.natCast_ediv, Int.natCast_emod, Int.cast_ofNat_Int] at hi1 hi2
      go_wp2
      refine wp_region_held_drew (S := fun _ => True) (by kernel_rfl) trivial (fun hHeld => ?_)
      refine wpAnyH_take (i := 0) (v := u3) rfl (by kernel_rfl) (by kernel_rfl) (by kernel_rfl) (fun _ _ _ h => h) (.inl ⟨by rfl, fun w _ => by go_simp⟩) hHeld ?_
      simp only [Act.put, List.setIfInBounds_toArray, List.set_cons_zero, List.set_cons_succ]
      refine wpAnyH_take (i := 1) (v := .int .u8 (b.toNat : Int)) rfl (by kernel_rfl) (by kernel_rfl) (by kernel_rfl) (fun _ _ _ h => h) (.inl ⟨by rfl, fun w _ => by go_simp⟩) hHeld ?_
      simp only [Act.put, List.setIfInBounds_toArray, List.set_cons_zero, List.set_cons_succ]
      refine wpAnyH_take (i := 4) (v := .int .u8 (b.toNat : Int)) rfl (by kernel_rfl) (by kernel_rfl) (by kernel_rfl) (fun _ _ _ h => h) (.inl ⟨by rfl, fun w _ => by go_simp⟩) hHeld ?_
      simp only [Act.put, List.setIfInBounds_toArray, List.set_cons_zero, List.set_cons_succ]
      refine wpAnyH_take (i := 2) (v := .int .u8 ((b.toNat : Int) / 16)) rfl (by kernel_rfl) (by kernel_rfl) (by kernel_rfl) (fun _ _ _ h => h) (.inl ⟨by rfl, fun w _ => by go_simp⟩) hHeld ?_
      simp only [Act.put, List.setIfInBounds_toArray, List.set_cons_zero, List.set_cons_succ]
      refine wpAnyH_take (i := 5) (v := .int .u8 ((b.toNat : Int) % 16)) rfl (by kernel_rfl) (by kernel_rfl) (by kernel_rfl) (fun _ _ _ h => h) (.inl ⟨by rfl, fun w _ => by go_simp⟩) hHeld ?_
      simp only [Act.put, List.setIfInBounds_toArray, List.set_cons_zero, List.set_cons_succ]
      refine wpAnyH_take (i := 3) (v := .int .u8 ((dig (b.toNat / 16)).toNat : Int)) rfl (by kernel_rfl) (by kernel_rfl) (by kernel_rfl) (fun _ _ _ h => h) (.inl ⟨by rfl, fun w _ => by go_simp⟩) hHeld ?_
      simp only [Act.put, List.setIfInBounds_toArray, List.set_cons_zero, List.set_cons_succ]
      refine wpAnyH_take (i := 6) (v := .int .u8 ((dig (b.toNat % 16)).toNat : Int)) rfl (by kernel_rfl) (by kernel_rfl) (by kernel_rfl) (fun _ _ _ h => h) (.inl ⟨by rfl, fun w _ => by go_simp⟩) hHeld ?_
      simp only [Act.put, List.setIfInBounds_toArray, List.set_cons_zero, List.set_cons_succ]
      refine wpAnyH_ready (rs := [7]) (by kernel_rfl) (by simp) ?_
      refine AllReadyH.cons rfl (fun K hK => ?_) AllReadyH.nil
      go_simp
      refine hK.out _ _ trivial (fun hHeld => ?_)
      clear hK K
      refine wpAnyH_ready (rs := [8]) (by kernel_rfl) (by simp) ?_
      refine AllReadyH.cons rfl (fun K hK => ?_) AllReadyH.nil
      refine armH_appendB _ rfl (.tmp 12) (.tmp 19) rfl w.heap.size _ (hexL (xs.take k)) (dig2 b) rfl _ _ _ rfl (ho.alloc _).drew (RdB.two _ _ _ _).drew (by rw [hlen.out]; omega) (by simp; omega) (fun v2 w2 ho2 hg2 hb2 => ?_)
      simp only [Act.put, List.setIfInBounds_toArray, List.set_cons_zero, List.set_cons_succ]
      refine hK.out _ _ trivial (fun hHeld => ?_)
      clear hK K
      refine wpAnyH_ready (rs := [9]) (by kernel_rfl) (by simp) ?_
      refine AllReadyH.cons rfl (fun K hK => ?_) AllReadyH.nil
      go_simp
      refine hK.out _ _ trivial (fun hHeld => ?_)
      clear hK K
      refine wpAnyH_done (by kernel_rfl) ?_ _
      go_wp2
      go_roundw
      case rel => exact ⟨k + 1, by omega, by go_num, by rw [HF.out]; exact ho2, (al hb _).drew.trans hb2⟩
      case measure => simp [intOf]; omega
    · obtain rfl : k = n := by omega
      obtain ⟨A2, c2, rfl, hr2⟩ := ho.reads
      have hcv := run_convertB (P := Tryd.prog) wr 22 5 9 Tryd.underlying22 Tryd.underlying5 Tryd.underlying9 hr2
      rw [List.take_of_length_le (by rw [H.out.1]; omega)] at *
      go_wp2
      go_ret
      exact ⟨rfl, hb⟩
end Go.Proofs.YtfjfjjcdlgdbcaaDoor
namespace Go.Proofs.YtfjfjjcdlgdbcaaDoor
open Go.RowKit

theorem quo16 (b : UInt8) : Int.tdiv (b.toNat : Int) 16 = (b.toNat : Int) / 16 := by
  rw [Int.tdiv_eq_ediv_of_nonneg (by omega)]

set_option maxRecDepth 100000 in
set_option maxHeartbeats 1000000 in
theorem Hex20_calls (A : Option Addr) (n c : Nat) (xs : List UInt8) (w : World) (h : RdB w A n c xs) (hs : n ≤ 100000000) :
    Calls Tryd.prog 68 #[.slice A n c] w fun e w' => e = .returned (.string (str (hexL xs))) ∧ Below w.heap.size w w' := by
  have hm : n ≤ 9223372036854775807 := by omega
  have H := Lib.hid h
  clear h
  go_enter Tryd.func68, Tryd.ntmps68
  go_wp2
  go_loopw [3, 4] (fun v i wr => ∃ k : Nat, k ≤ n ∧ i = .int .i64 k ∧ OwnB wr w.heap.size v (hexL (xs.take k)) ∧ Below w.heap.size w wr) (fun _ i _ => n - (intOf i).toNat)
  case atStart => exact ⟨0, by omega, rfl, by simpa [hexL] using OwnB.nil _ _, Below.refl _ _⟩
  case round =>
    obtain ⟨k, hk, rfl, ho, hb⟩ := hrel
    have hbs := hb.size
    by_cases hlt : k < n
    · obtain ⟨ad, rfl, hcell⟩ := (H.out.below hb).at_ hlt
      obtain ⟨ad', e', hcell0⟩ := H.out.at_ hlt
      obtain rfl : ad = ad' := Option.some.inj e'
      have hkeep := Lib.hid (fun W (hW : Below w.heap.size w W) => (hW.cell (World.block_lt_of_cell? w _ hcell0)).trans hcell0)
      clear hcell0 e'
      have HF := Lib.hid (hexL_take_succ xs k (by rw [H.out.1]; exact hlt))
      have hxl := H.out.1
      generalize xs.getD k 0 = b at *
      have hlen : Hid ((hexL (xs.take k)).length = 2 * k) := by rw [hexL_length, List.length_take, hxl]; show 2 * min k n = _; omega
      have hi1 := fun W => idx_hex (P := Tryd.prog) (b.toNat / 16) (by have := b.toNat_lt; omega) W Tryd.underlying9
      have hi2 := fun W => idx_hex (P := Tryd.prog) (b.toNat % 16) (by omega) W Tryd.underlying9
      simp only [Int.natCast_ediv, Int.natCast_emod, Int.cast_ofNat_Int] at hi1 hi2
      go_wp2
      refine wp_region_held_drew (S := (fun W => W.cell? (ad.add k) = some (Value.int .u8 (b.toNat : Int)))) (by kernel_rfl) (hcell) (fun hHeld => ?_)
      refine wpAnyH_take (i := 0) (v := u3) rfl (by kernel_rfl) (by kernel_rfl) (by kernel_rfl) (fun _ _ _ h => h) (.inl ⟨by rfl, fun W hS => by go_simp⟩) hHeld ?_
      simp only [Act.put, List.setIfInBounds_toArray, List.set_cons_zero, List.set_cons_succ]
      refine wpAnyH_take (i := 1) (v := .slice (some ad) n c) rfl (by kernel_rfl) (by kernel_rfl) (by kernel_rfl) (fun _ _ _ h => h) (.inl ⟨by rfl, fun W hS => by go_simp⟩) hHeld ?_
      simp only [Act.put, List.setIfInBounds_toArray, List.set_cons_zero, List.set_cons_succ]
      refine wpAnyH_take (i := 2) (v := .int .i64 (k : Int)) rfl (by kernel_rfl) (by kernel_rfl) (by kernel_rfl) (fun _ _ _ h => h) (.inl ⟨by rfl, fun W hS => by go_simp⟩) hHeld ?_
      simp only [Act.put, List.setIfInBounds_toArray, List.set_cons_zero, List.set_cons_succ]
      refine wpAnyH_take (i := 7) (v := .slice (some ad) n c) rfl (by kernel_rfl) (by kernel_rfl) (by kernel_rfl) (fun _ _ _ h => h) (.inl ⟨by rfl, fun W hS => by go_simp⟩) hHeld ?_
      simp only [Act.put, List.setIfInBounds_toArray, List.set_cons_zero, List.set_cons_succ]
      refine wpAnyH_take (i := 8) (v := .int .i64 (k : Int)) rfl (by kernel_rfl) (by kernel_rfl) (by kernel_rfl) (fun _ _ _ h => h) (.inl ⟨by rfl, fun W hS => by go_simp⟩) hHeld ?_
      simp only [Act.put, List.setIfInBounds_toArray, List.set_cons_zero, List.set_cons_succ]
      refine wpAnyH_take (i := 3) (v := .pointer (some (ad.add k))) rfl (by kernel_rfl) (by kernel_rfl) (by kernel_rfl) (fun _ _ _ h => h) (.inl ⟨by rfl, fun W hS => by go_simp⟩) hHeld ?_
      simp only [Act.put, List.setIfInBounds_toArray, List.set_cons_zero, List.set_cons_succ]
      refine wpAnyH_take (i := 9) (v := .pointer (some (ad.add k))) rfl (by kernel_rfl) (by kernel_rfl) (by kernel_rfl) (fun _ _ _ h => h) (.inl ⟨by rfl, fun W hS => by go_simp⟩) hHeld ?_
      simp only [Act.put, List.setIfInBounds_toArray, List.set_cons_zero, List.set_cons_succ]
      refine wpAnyH_take (i := 4) (v := .int .u8 (b.toNat : Int)) rfl (by kernel_rfl) (by kernel_rfl) (by kernel_rfl) (fun _ _ _ h => h) (.inl ⟨by rfl, fun W hS => by (have hS : W.cell? (ad.add k) = some (Value.int .u8 (b.toNat : Int)) := hS); go_simp⟩) hHeld ?_
      simp only [Act.put, List.setIfInBounds_toArray, List.set_cons_zero, List.set_cons_succ]
      refine wpAnyH_take (i := 10) (v := .int .u8 (b.toNat : Int)) rfl (by kernel_rfl) (by kernel_rfl) (by kernel_rfl) (fun _ _ _ h => h) (.inl ⟨by rfl, fun W hS => by (have hS : W.cell? (ad.add k) = some (Value.int .u8 (b.toNat : Int)) := hS); go_simp⟩) hHeld ?_
      simp only [Act.put, List.setIfInBounds_toArray, List.set_cons_zero, List.set_cons_succ]
      refine wpAnyH_take (i := 5) (v := .int .u8 ((b.toNat : Int) / 16)) rfl (by kernel_rfl) (by kernel_rfl) (by kernel_rfl) (fun _ _ _ h => h) (.inl ⟨by rfl, fun W hS => by go_simp; have := b.toNat_lt; exact IntWalk.u8_in _ (by omega)⟩) hHeld ?_
      simp only [Act.put, List.setIfInBounds_toArray, List.set_cons_zero, List.set_cons_succ]
      refine wpAnyH_take (i := 11) (v := .int .u8 ((b.toNat : Int) % 16)) rfl (by kernel_rfl) (by kernel_rfl) (by kernel_rfl) (fun _ _ _ h => h) (.inl ⟨by rfl, fun W hS => by go_simp; exact Int.tmod_eq_emod_of_nonneg (by omega)⟩) hHeld ?_
      simp only [Act.put, List.setIfInBounds_toArray, List.set_cons_zero, List.set_cons_succ]
      refine wpAnyH_take (i := 6) (v := .int .u8 ((dig (b.toNat / 16)).toNat : Int)) rfl (by kernel_rfl) (by kernel_rfl) (by kernel_rfl) (fun _ _ _ h => h) (.inl ⟨by rfl, fun W hS => by go_simp⟩) hHeld ?_
      simp only [Act.put, List.setIfInBounds_toArray, List.set_cons_zero, List.set_cons_succ]
      refine wpAnyH_take (i := 12) (v := .int .u8 ((dig (b.toNat % 16)).toNat : Int)) rfl (by kernel_rfl) (by kernel_rfl) (by kernel_rfl) (fun _ _ _ h => h) (.inl ⟨by rfl, fun W hS => by go_simp⟩) hHeld ?_
      simp only [Act.put, List.setIfInBounds_toArray, List.set_cons_zero, List.set_cons_succ]
      refine wpAnyH_ready (rs := [13]) (by kernel_rfl) (by simp) ?_
      refine AllReadyH.cons rfl (fun K hK => ?_) AllReadyH.nil
      go_simp
      refine hK.out _ _ (hkeep.out _ (al hb _).drew) (fun hHeld => ?_)
      clear hK K
      refine wpAnyH_ready (rs := [14]) (by kernel_rfl) (by simp) ?_
      refine AllReadyH.cons rfl (fun K hK => ?_) AllReadyH.nil
      refine armH_appendB _ rfl (.tmp 11) (.tmp 24) rfl w.heap.size _ (hexL (xs.take k)) (dig2 b) rfl _ _ _ rfl (ho.alloc _).drew (RdB.two _ _ _ _).drew (by rw [hlen.out]; omega) (by simp; omega) (fun v2 w2 ho2 hg2 hb2 => ?_)
      simp only [Act.put, List.setIfInBounds_toArray, List.set_cons_zero, List.set_cons_succ]
      refine hK.out _ _ (hkeep.out _ ((al hb _).drew.trans hb2)) (fun hHeld => ?_)
      clear hK K
      refine wpAnyH_ready (rs := [15]) (by kernel_rfl) (by simp) ?_
      refine AllReadyH.cons rfl (fun K hK => ?_) AllReadyH.nil
      go_simp
      refine hK.out _ _ (hkeep.out _ ((al hb _).drew.trans hb2)) (fun hHeld => ?_)
      clear hK K
      refine wpAnyH_done (by kernel_rfl) ?_ _
      go_wp2
      go_roundw
      case rel => exact ⟨k + 1, by omega, by go_num, by rw [HF.out]; exact ho2, (al hb _).drew.trans hb2⟩
      case measure => simp [intOf]; omega
    · obtain rfl : k = n := by omega
      obtain ⟨A2, c2, rfl, hr2⟩ := ho.reads
      have hcv := run_convertB (P := Tryd.prog) wr 22 5 9 Tryd.underlying22 Tryd.underlying5 Tryd.underlying9 hr2
      rw [List.take_of_length_le (by rw [H.out.1]; omega)] at *
      go_wp2
      go_ret
      exact ⟨rfl, hb⟩

theorem str_nil : str [] = ⟨#[]⟩ := rfl
/-- digits; a point of none -/
def dotL (xs : List UInt8) : List UInt8 := if xs = [] then [46] else xs
theorem some20_calls (xs : List UInt8) (w : World) : Calls Tryd.prog 70 #[.string (str xs)] w fun e w' => e = .returned (.string (str (dotL xs))) ∧ Below w.heap.size w w' := by
  cases xs with
  | nil =>
    go_enter Tryd.func70, Tryd.ntmps70
    rw [str_nil]
    go_wp2
    go_ret
    exact ⟨rfl, Below.refl _ _⟩
  | cons x xs =>
    have hne : ((str (x :: xs)).toList == []) = false := by rw [str_list]; rfl
    have hd : dotL (x :: xs) = x :: xs := rfl
    rw [hd]
    clear hd
    generalize str (x :: xs) = s at *
    go_enter Tryd.func70, Tryd.ntmps70
    go_wp2
    go_ret
    exact ⟨rfl, Below.refl _ _⟩
theorem digits105_calls (A : Option Addr) (n c : Nat) (xs : List UInt8) (w : World) (h : RdB w A n c xs) (hs : n ≤ 100000000) :
    Calls Tryd.prog 105 #[.slice A n c] w fun e w' => e = .returned (.string (str (dotL (hexL xs)))) ∧ Below w.heap.size w w' := by
  have hc := Lib.hid (Hex_calls A n c xs w h hs)
  have hl := h.1
  cases xs with
  | nil =>
    obtain rfl : n = 0 := by simpa using hl.symm
    go_enter Tryd.func105, Tryd.ntmps105
    go_wp2
    go_ret
    exact ⟨rfl, Below.refl _ _⟩
  | cons x xs =>
    have hn : 0 < n := by simp only [List.length_cons] at hl; omega
    have hd : dotL (hexL (x :: xs)) = hexL (x :: xs) := rfl
    rw [hd]
    clear hd hl h
    generalize hexL (x :: xs) = s at *
    go_enter Tryd.func105, Tryd.ntmps105
    go_wp2_with (go_at_call 48; refine hc.out.mono ?_; rintro e w1 ⟨rfl, hb1⟩)
    go_ret
    exact ⟨rfl, hb1⟩
end Go.Proofs.YtfjfjjcdlgdbcaaDoor
namespace Go.Proofs
open Go.Shelf
def Tryd.lays156_ren : Go.Shelf.Ren := ⟨fun | 156 => 47 | 165 => 81 | 166 => 46 | 169 => 52 | 240 => 80 | 241 => 119 | 276 => 118 | 277 => 139 | n => n, fun | 31 => 84 | 9 => 9 | 3 => 3 | 4 => 4 | 0 => 0 | 20 => 20 | 72 => 83 | 76 => 87 | 70 => 81 | 37 => 22 | 75 => 86 | 127 => 141 | 164 => 169 | 5 => 5 | 80 => 96 | n => n, fun | n => n⟩
theorem Tryd.lays156 : Go.Proofs.Lays.n156 Tryd.prog Tryd.lays156_ren := {
  mixed := by kernel_rfl
  f156 := Tryd.func47.trans (congrArg some (by kernel_rfl))
  f165 := Tryd.func81.trans (congrArg some (by kernel_rfl))
  f166 := Tryd.func46.trans (congrArg some (by kernel_rfl))
  f169 := Tryd.func52.trans (congrArg some (by kernel_rfl))
  f240 := Tryd.func80.trans (congrArg some (by kernel_rfl))
  f241 := Tryd.func119.trans (congrArg some (by kernel_rfl))
  f276 := Tryd.func118.trans (congrArg some (by kernel_rfl))
  f277 := Tryd.func139.trans (congrArg some (by kernel_rfl))
  t0 := Tryd.underlying0
  a0 := Tryd.isAgg0
  z0 := Tryd.sizeOf0
  v0 := Tryd.zeroValue0
  t3 := Tryd.underlying3
  a3 := Tryd.isAgg3
  z3 := Tryd.sizeOf3
  v3 := Tryd.zeroValue3
  t4 := Tryd.underlying4
  a4 := Tryd.isAgg4
  z4 := Tryd.sizeOf4
  v4 := Tryd.zeroValue4
  t9 := Tryd.underlying9
  a9 := Tryd.isAgg9
  z9 := Tryd.sizeOf9
  v9 := Tryd.zeroValue9
  t20 := Tryd.underlying20
  a20 := Tryd.isAgg20
  z20 := Tryd.sizeOf20
  v20 := Tryd.zeroValue20
  t31 := Tryd.underlying84
  a31 := Tryd.isAgg84
  z31 := Tryd.sizeOf84
  v31 := Tryd.zeroValue84
  t37 := Tryd.underlying22
  a37 := Tryd.isAgg22
  z37 := Tryd.sizeOf22
  v37 := Tryd.zeroValue22
  t70 := Tryd.underlying81
  a70 := Tryd.isAgg81
  z70 := Tryd.sizeOf81
  v70 := Tryd.zeroValue81
  t72 := Tryd.underlying83
  a72 := Tryd.isAgg83
  z72 := Tryd.sizeOf83
  v72 := Tryd.zeroValue83
  t75 := Tryd.underlying86
  a75 := Tryd.isAgg86
  z75 := Tryd.sizeOf86
  v75 := Tryd.zeroValue86
  t76 := Tryd.underlying87
  a76 := Tryd.isAgg87
  z76 := Tryd.sizeOf87
  v76 := Tryd.zeroValue87
  t127 := Tryd.underlying141
  a127 := Tryd.isAgg141
  z127 := Tryd.sizeOf141
  v127 := Tryd.zeroValue141
  t164 := Tryd.underlying169
  a164 := Tryd.isAgg169
  z164 := Tryd.sizeOf169
  v164 := Tryd.zeroValue169 }
theorem Tryd.Builder_Extra_156 : Builder.Extra Tryd.prog Tryd.lays156_ren := {
  sizeBuilder := by kernel_rfl
  liesBuilder := by kernel_rfl
  t5 := Tryd.underlying5
  a5 := Tryd.isAgg5
  z5 := Tryd.sizeOf5
  v5 := Tryd.zeroValue5
  infoByte := by kernel_rfl
  cellsByte := by kernel_rfl
  sizeByte := by kernel_rfl
  neB5 := by decide }
open Go.RowKit in
theorem Tryd.strings_Join_none (a : Option Addr) (c : Nat) (sep : ByteArray) (w : World) :
    Calls Tryd.prog 47 #[.slice a 0 c, .string sep] w fun e w' => e = .returned (.string ⟨#[]⟩) ∧ w' = w := Any.strings_Join_none Tryd.lays156 Tryd.Builder_Extra_156 a c sep w
open Go.RowKit in
theorem Tryd.strings_Join (bk o c : Nat) (xs : List ByteArray) (sep : ByteArray) (w : World) (hcells : ∀ (j : Nat) x, xs[j]? = some x → w.cell? ⟨bk, o + j, none⟩ = some (.string x)) (hbk : bk < w.heap.size) (hN : xs.length ≤ 140737488355328) (hcap : xs.length ≤ c) (hlen : (Lib.join (xs.map (·.data.toList)) sep.data.toList).length ≤ 140737488355328) :
    Calls Tryd.prog 47 #[.slice (some ⟨bk, o, none⟩) xs.length c, .string sep] w fun e w' => e = .returned (.string ⟨(Lib.join (xs.map (·.data.toList)) sep.data.toList).toArray⟩) ∧ Below w.heap.size w w' := Any.strings_Join Tryd.lays156 Tryd.Builder_Extra_156 bk o c xs sep w hcells hbk hN hcap hlen
def Tryd.laysM171_ren : Go.Shelf.Ren := ⟨fun | 171 => 104 | 243 => 132 | 246 => 155 | 283 => 120 | 284 => 121 | 285 => 122 | 286 => 123 | 129 => 141 | 317 => 140 | 318 => 142 | 319 => 143 | 320 => 144 | 337 => 161 | 338 => 162 | n => n, fun | 3 => 3 | 9 => 9 | 2 => 2 | 4 => 4 | 171 => 171 | 0 => 0 | 53 => 26 | 37 => 22 | 5 => 5 | 173 => 174 | 212 => 187 | 51 => 188 | 20 => 20 | 213 => 138 | 46 => 136 | 232 => 24 | 233 => 213 | n => n, fun | 17 => 0 | 18 => 6 | 19 => 7 | n => n⟩
theorem Tryd.laysM171 : Go.Proofs.LaysM.n171 Tryd.prog Tryd.laysM171_ren := {
  mixed := by kernel_rfl
  f129 := Tryd.func141.trans (congrArg some (by kernel_rfl))
  f171 := Tryd.func104.trans (congrArg some (by kernel_rfl))
  f243 := Tryd.func132.trans (congrArg some (by kernel_rfl))
  f246 := Tryd.func155.trans (congrArg some (by kernel_rfl))
  f283 := Tryd.func120.trans (congrArg some (by kernel_rfl))
  f284 := Tryd.func121.trans (congrArg some (by kernel_rfl))
  f285 := Tryd.func122.trans (congrArg some (by kernel_rfl))
  f286 := Tryd.func123.trans (congrArg some (by kernel_rfl))
  f317 := Tryd.func140.trans (congrArg some (by kernel_rfl))
  f318 := Tryd.func142.trans (congrArg some (by kernel_rfl))
  f319 := Tryd.func143.trans (congrArg some (by kernel_rfl))
  f320 := Tryd.func144.trans (congrArg some (by kernel_rfl))
  f337 := Tryd.func161.trans (congrArg some (by kernel_rfl))
  f338 := Tryd.func162.trans (congrArg some (by kernel_rfl))
  t0 := Tryd.underlying0
  a0 := Tryd.isAgg0
  z0 := Tryd.sizeOf0
  v0 := Tryd.zeroValue0
  t2 := Tryd.underlying2
  a2 := Tryd.isAgg2
  z2 := Tryd.sizeOf2
  v2 := Tryd.zeroValue2
  t3 := Tryd.underlying3
  a3 := Tryd.isAgg3
  z3 := Tryd.sizeOf3
  v3 := Tryd.zeroValue3
  t4 := Tryd.underlying4
  a4 := Tryd.isAgg4
  z4 := Tryd.sizeOf4
  v4 := Tryd.zeroValue4
  t5 := Tryd.underlying5
  a5 := Tryd.isAgg5
  z5 := Tryd.sizeOf5
  v5 := Tryd.zeroValue5
  t9 := Tryd.underlying9
  a9 := Tryd.isAgg9
  z9 := Tryd.sizeOf9
  v9 := Tryd.zeroValue9
  t20 := Tryd.underlying20
  a20 := Tryd.isAgg20
  z20 := Tryd.sizeOf20
  v20 := Tryd.zeroValue20
  t37 := Tryd.underlying22
  a37 := Tryd.isAgg22
  z37 := Tryd.sizeOf22
  v37 := Tryd.zeroValue22
  t46 := Tryd.underlying136
  a46 := Tryd.isAgg136
  z46 := Tryd.sizeOf136
  v46 := Tryd.zeroValue136
  t51 := Tryd.underlying188
  a51 := Tryd.isAgg188
  z51 := Tryd.sizeOf188
  v51 := Tryd.zeroValue188
  t53 := Tryd.underlying26
  a53 := Tryd.isAgg26
  z53 := Tryd.sizeOf26
  v53 := Tryd.zeroValue26
  t171 := Tryd.underlying171
  a171 := Tryd.isAgg171
  z171 := Tryd.sizeOf171
  v171 := Tryd.zeroValue171
  t173 := Tryd.underlying174
  a173 := Tryd.isAgg174
  z173 := Tryd.sizeOf174
  v173 := Tryd.zeroValue174
  t212 := Tryd.underlying187
  a212 := Tryd.isAgg187
  z212 := Tryd.sizeOf187
  v212 := Tryd.zeroValue187
  t213 := Tryd.underlying138
  a213 := Tryd.isAgg138
  z213 := Tryd.sizeOf138
  t232 := Tryd.underlying24
  a232 := Tryd.isAgg24
  z232 := Tryd.sizeOf24
  v232 := Tryd.zeroValue24
  t233 := Tryd.underlying213
  a233 := Tryd.isAgg213
  z233 := Tryd.sizeOf213
  v233 := Tryd.zeroValue213
  g17 := by kernel_rfl
  g18 := by kernel_rfl
  g19 := by kernel_rfl
  i0 := by kernel_rfl
  i2 := by kernel_rfl
  i3 := by kernel_rfl
  i4 := by kernel_rfl
  i5 := by kernel_rfl
  i9 := by kernel_rfl
  i20 := by kernel_rfl
  i37 := by kernel_rfl
  i46 := by kernel_rfl
  i51 := by kernel_rfl
  i53 := by kernel_rfl
  i171 := by kernel_rfl
  i173 := by kernel_rfl
  i212 := by kernel_rfl
  i232 := by kernel_rfl
  i233 := by kernel_rfl
  m17 := by kernel_rfl
  m18 := by kernel_rfl
  m19 := by kernel_rfl }
open Go.RowKit Go.Sort Go.Lib in
theorem Tryd.strconv_Itoa (n : Int) (h0 : -9223372036854775808 ≤ n) (h1 : n ≤ 9223372036854775807) (w : World) (htab : Lib.TabIs Tryd.prog w "internal/strconv.uint64pow10" .u64 Lib.pow10Tab) :
    Calls Tryd.prog 104 #[.int .i64 n] w fun e w' => e = .returned (.string ⟨(Lib.itoa n).toArray⟩) ∧ ∃ k os, w' = grow (w.drewN k) os := Any.strconv_Itoa Tryd.laysM171 n h0 h1 w htab
def Tryd.lays146_ren : Go.Shelf.Ren := ⟨fun | 146 => 57 | 221 => 89 | 268 => 125 | 138 => 126 | 143 => 127 | 195 => 146 | 197 => 136 | 218 => 147 | 219 => 145 | 260 => 158 | 217 => 163 | 225 => 164 | 224 => 165 | 267 => 166 | 266 => 171 | 314 => 172 | n => n, fun | 9 => 9 | 31 => 84 | 3 => 3 | 4 => 4 | 0 => 0 | 105 => 181 | 21 => 21 | 5 => 5 | 46 => 136 | 119 => 208 | 139 => 211 | 138 => 210 | 146 => 214 | 51 => 188 | n => n, fun | 1 => 1 | 3 => 4 | 4 => 5 | n => n⟩
theorem Tryd.lays146 : Go.Proofs.Lays.n146 Tryd.prog Tryd.lays146_ren := {
  mixed := by kernel_rfl
  f138 := Tryd.func126.trans (congrArg some (by kernel_rfl))
  f143 := Tryd.func127.trans (congrArg some (by kernel_rfl))
  f146 := Tryd.func57.trans (congrArg some (by kernel_rfl))
  f195 := Tryd.func146.trans (congrArg some (by kernel_rfl))
  f197 := Tryd.func136.trans (congrArg some (by kernel_rfl))
  f217 := Tryd.func163.trans (congrArg some (by kernel_rfl))
  f218 := Tryd.func147.trans (congrArg some (by kernel_rfl))
  f219 := Tryd.func145.trans (congrArg some (by kernel_rfl))
  f221 := Tryd.func89.trans (congrArg some (by kernel_rfl))
  f224 := Tryd.func165.trans (congrArg some (by kernel_rfl))
  f225 := Tryd.func164.trans (congrArg some (by kernel_rfl))
  f260 := Tryd.func158.trans (congrArg some (by kernel_rfl))
  f266 := Tryd.func171.trans (congrArg some (by kernel_rfl))
  f267 := Tryd.func166.trans (congrArg some (by kernel_rfl))
  f268 := Tryd.func125.trans (congrArg some (by kernel_rfl))
  f314 := Tryd.func172.trans (congrArg some (by kernel_rfl))
  t0 := Tryd.underlying0
  a0 := Tryd.isAgg0
  z0 := Tryd.sizeOf0
  v0 := Tryd.zeroValue0
  t3 := Tryd.underlying3
  a3 := Tryd.isAgg3
  z3 := Tryd.sizeOf3
  v3 := Tryd.zeroValue3
  t4 := Tryd.underlying4
  a4 := Tryd.isAgg4
  z4 := Tryd.sizeOf4
  v4 := Tryd.zeroValue4
  t5 := Tryd.underlying5
  a5 := Tryd.isAgg5
  z5 := Tryd.sizeOf5
  v5 := Tryd.zeroValue5
  t9 := Tryd.underlying9
  a9 := Tryd.isAgg9
  z9 := Tryd.sizeOf9
  v9 := Tryd.zeroValue9
  t21 := Tryd.underlying21
  a21 := Tryd.isAgg21
  z21 := Tryd.sizeOf21
  v21 := Tryd.zeroValue21
  t31 := Tryd.underlying84
  a31 := Tryd.isAgg84
  z31 := Tryd.sizeOf84
  v31 := Tryd.zeroValue84
  t46 := Tryd.underlying136
  a46 := Tryd.isAgg136
  z46 := Tryd.sizeOf136
  v46 := Tryd.zeroValue136
  t51 := Tryd.underlying188
  a51 := Tryd.isAgg188
  z51 := Tryd.sizeOf188
  v51 := Tryd.zeroValue188
  t105 := Tryd.underlying181
  a105 := Tryd.isAgg181
  z105 := Tryd.sizeOf181
  v105 := Tryd.zeroValue181
  t119 := Tryd.underlying208
  a119 := Tryd.isAgg208
  z119 := Tryd.sizeOf208
  t138 := Tryd.underlying210
  a138 := Tryd.isAgg210
  z138 := Tryd.sizeOf210
  v138 := Tryd.zeroValue210
  t139 := Tryd.underlying211
  a139 := Tryd.isAgg211
  z139 := Tryd.sizeOf211
  v139 := Tryd.zeroValue211
  t146 := Tryd.underlying214
  a146 := Tryd.isAgg214
  z146 := Tryd.sizeOf214
  v146 := Tryd.zeroValue214
  g1 := by kernel_rfl
  g3 := by kernel_rfl
  g4 := by kernel_rfl }
open Go.RowKit Go.Lib in
theorem Tryd.strings_Split (s sep : ByteArray) (m : Int) (w : World) (hs : s.size < 4294967281) (hm : w.cell? ⟨1, 0, none⟩ = some (.int .i64 m)) (h1 : 1 ≤ sep.size) :
    Calls Tryd.prog 57 #[.string s, .string sep] w fun e w' =>
      e = .returned (.slice (some ⟨w.heap.size, 0, none⟩) (Lib.countB s sep + 1) (Lib.countB s sep + 1)) ∧ w' = w.alloc (.cells ((Lib.splitB sep 0 (Lib.countB s sep) s).map Value.string).toArray 9) := Any.strings_Split Tryd.lays146 (by kernel_rfl) s sep m w hs hm h1
end Go.Proofs
namespace Go.Proofs.YtfjfjjcdlgdbcaaDoor
open Go.RowKit

theorem dec_step (u0 u : Nat) (out : List UInt8) (h : Lib.decDigits u0 = Lib.decDigits u ++ out) :
    (u / 10 = 0 → Lib.decDigits u0 = UInt8.ofNat (48 + u % 10) :: out) ∧ (¬ u / 10 = 0 → Lib.decDigits u0 = Lib.decDigits (u / 10) ++ (UInt8.ofNat (48 + u % 10) :: out)) := by
  have e : Lib.decDigits u = if h : u < 10 then [UInt8.ofNat (48 + u)] else Lib.decDigits (u / 10) ++ [UInt8.ofNat (48 + u % 10)] := by rw [Lib.decDigits]
  rw [e] at h
  constructor
  · intro h0
    have : u < 10 := by omega
    rw [dif_pos this] at h
    rw [h, show u % 10 = u by omega]
    rfl
  · intro h0
    rw [dif_neg (by omega)] at h
    rw [h]
    simp
theorem dec_len (u : Nat) (h : u < 18446744073709551616) : (Lib.decDigits u).length ≤ 20 := by
  have key : ∀ (k u : Nat), u < 10 ^ (k + 1) → (Lib.decDigits u).length ≤ k + 1 := by
    intro k
    induction k with
    | zero =>
      intro u hu
      rw [Lib.decDigits, dif_pos (by simpa using hu)]
      simp
    | succ k ih =>
      intro u hu
      rw [Lib.decDigits]
      split
      · simp
      · have := ih (u / 10) (by rw [Nat.pow_succ] at hu; omega)
        simp only [List.length_append, List.length_cons, List.length_nil]
        omega
  exact key 19 u (by have : (10 : Nat) ^ 20 = 100000000000000000000 := by decide
                     omega)

theorem itoa_of (n : Int) (u0 : Nat) (h : u0 = n.natAbs) : Lib.itoa n = if n < 0 then 45 :: Lib.decDigits u0 else Lib.decDigits u0 := by
  subst h
  unfold Lib.itoa
  split
  · rfl
  · congr 1
    omega
theorem dig_byte (m : Nat) : ((UInt8.ofNat (48 + m % 10)).toNat : Int) = 48 + (m : Int) % 10 := by
  simp
  omega

set_option maxRecDepth 100000 in
set_option maxHeartbeats 2000000 in
theorem number_calls (n : Int) (w : World) (h0 : -9223372036854775808 ≤ n) (h1 : n ≤ 9223372036854775807) :
    Calls Tryd.prog 69 #[.int .i64 n] w fun e w' => e = .returned (.string (str (Lib.itoa n))) ∧ Below w.heap.size w w' := by
  by_cases hn : n < 0
  · have hit := Lib.hid (itoa_of n _ rfl)
    rw [if_pos hn] at hit
    have hwn : IntKind.u64.wrap n = n + 18446744073709551616 := by rw [IntKind.wrap_u64]; omega
    have hwm : IntKind.u64.wrap (-(n + 18446744073709551616)) = -n := by rw [IntKind.wrap_u64]; omega
    go_enter Tryd.func69, Tryd.ntmps69
    go_wp2
    go_loopw [3, 4] (fun u v wr => ∃ (m : Nat) (out : List UInt8), u = .int .u64 m ∧ m < 18446744073709551616 ∧ OwnB wr w.heap.size v out ∧ Lib.decDigits n.natAbs = Lib.decDigits m ++ out ∧ Below w.heap.size w wr) (fun u _ _ => (intOf u).toNat)
    case atStart => exact ⟨n.natAbs, [], by congr 1; omega, by omega, OwnB.nil _ _, by simp, Below.refl _ _⟩
    case round =>
      obtain ⟨m, out, rfl, hm, ho, he, hb⟩ := hrel
      have hbs := hb.size
      have hst := dec_step _ _ _ he
      have hln : out.length ≤ 20 := by
        have := dec_len n.natAbs (by omega)
        rw [he] at this
        simp only [List.length_append] at this
        omega
      have HD := Lib.hid (dig_byte m)
      have HE := Lib.hid he
      have HS := Lib.hid hst
      clear he hst
      generalize UInt8.ofNat (48 + m % 10) = dd at HD HS
      have hwr : IntKind.u64.wrap (48 + (m : Int) % 10) = 48 + (m : Int) % 10 := IntWalk.u64_in _ (by omega)
      have hw8 : IntKind.u8.wrap (48 + (m : Int) % 10) = 48 + (m : Int) % 10 := IntWalk.u8_in _ (by omega)
      have hrm : (m : Int).tmod 10 = (m : Int) % 10 := Int.tmod_eq_emod_of_nonneg (by omega)
      obtain ⟨A1, c1, rfl, hr1⟩ := ho.reads
      by_cases hz : m / 10 = 0
      · have hzi : (m : Int) / 10 = 0 := by omega
        have hd := Lib.hid (HS.out.1 hz)
        go_wp2_with (first | at_builtin; refine wpList_appendB _ rfl (.tmp 15) (.tmp 16) rfl w.heap.size _ [dd] out rfl _ _ _ rfl (OwnB.one _ _ _ (by rw [HD.out]) _ hbs) (hr1.alloc _) (by simp; omega) (by simp; omega) ?_; intro v2 w2 ho2 hg2 hb2; obtain ⟨A2, c2, rfl, hr2⟩ := ho2.reads | (at_builtin; refine wpList_appendB _ rfl (.tmp 24) (.tmp 25) rfl w.heap.size _ [45] (dd :: out) rfl _ _ _ rfl (OwnB.one _ _ _ (by decide) _ (by have := hb2.size; simp at this ⊢; omega)) (hr2.alloc _) (by simp; omega) (by have := hb2.size; simp at this ⊢; omega) ?_; intro v3 w3 ho3 hg3 hb3; obtain ⟨A3, c3, rfl, hr3⟩ := ho3.reads; have hcv := run_convertB (P := Tryd.prog) w3 22 5 9 Tryd.underlying22 Tryd.underlying5 Tryd.underlying9 hr3; simp only [List.cons_append, List.nil_append, List.length_cons] at hcv))
        go_ret
        exact ⟨by rw [hit.out, hd.out]; rfl, (al ((al hb _).trans hb2) _).trans hb3⟩
      · have hzi : ¬ (m : Int) / 10 = 0 := by omega
        have hzi2 : ((m : Int) / 10 == 0) = false := by simp; omega
        have hd := Lib.hid (HS.out.2 hz)
        have hqi : (m : Int).tdiv 10 = (m : Int) / 10 := Int.tdiv_eq_ediv_of_nonneg (by omega)
        go_wp2_with (at_builtin; refine wpList_appendB _ rfl (.tmp 15) (.tmp 16) rfl w.heap.size _ [dd] out rfl _ _ _ rfl (OwnB.one _ _ _ (by rw [HD.out]) _ hbs) (hr1.alloc _) (by simp; omega) (by simp; omega) ?_; intro v2 w2 ho2 hg2 hb2)
        go_roundw
        case rel => exact ⟨m / 10, _, by simp, by omega, by assumption, hd.out, (al hb _).trans hb2⟩
        case measure => simp [intOf]; omega
  · have hit := Lib.hid (itoa_of n _ rfl)
    rw [if_neg hn] at hit
    have hwn : IntKind.u64.wrap n = n := IntWalk.u64_in _ (by omega)
    go_enter Tryd.func69, Tryd.ntmps69
    go_wp2
    go_loopw [3, 4] (fun u v wr => ∃ (m : Nat) (out : List UInt8), u = .int .u64 m ∧ m < 18446744073709551616 ∧ OwnB wr w.heap.size v out ∧ Lib.decDigits n.natAbs = Lib.decDigits m ++ out ∧ Below w.heap.size w wr) (fun u _ _ => (intOf u).toNat)
    case atStart => exact ⟨n.natAbs, [], by congr 1; omega, by omega, OwnB.nil _ _, by simp, Below.refl _ _⟩
    case round =>
      obtain ⟨m, out, rfl, hm, ho, he, hb⟩ := hrel
      have hbs := hb.size
      have hst := dec_step _ _ _ he
      have hln : out.length ≤ 20 := by
        have := dec_len n.natAbs (by omega)
        rw [he] at this
        simp only [List.length_append] at this
        omega
      have HD := Lib.hid (dig_byte m)
      have HE := Lib.hid he
      have HS := Lib.hid hst
      clear he hst
      generalize UInt8.ofNat (48 + m % 10) = dd at HD HS
      have hwr : IntKind.u64.wrap (48 + (m : Int) % 10) = 48 + (m : Int) % 10 := IntWalk.u64_in _ (by omega)
      have hw8 : IntKind.u8.wrap (48 + (m : Int) % 10) = 48 + (m : Int) % 10 := IntWalk.u8_in _ (by omega)
      have hrm : (m : Int).tmod 10 = (m : Int) % 10 := Int.tmod_eq_emod_of_nonneg (by omega)
      obtain ⟨A1, c1, rfl, hr1⟩ := ho.reads
      by_cases hz : m / 10 = 0
      · have hzi : (m : Int) / 10 = 0 := by omega
        have hd := Lib.hid (HS.out.1 hz)
        go_wp2_with (at_builtin; refine wpList_appendB _ rfl (.tmp 15) (.tmp 16) rfl w.heap.size _ [dd] out rfl _ _ _ rfl (OwnB.one _ _ _ (by rw [HD.out]) _ hbs) (hr1.alloc _) (by simp; omega) (by simp; omega) ?_; intro v2 w2 ho2 hg2 hb2; obtain ⟨A2, c2, rfl, hr2⟩ := ho2.reads; have hcv := run_convertB (P := Tryd.prog) w2 22 5 9 Tryd.underlying22 Tryd.underlying5 Tryd.underlying9 hr2; simp only [List.cons_append, List.nil_append, List.length_cons] at hcv)
        go_ret
        exact ⟨by rw [hit.out, hd.out]; rfl, (al hb _).trans hb2⟩
      · have hzi : ¬ (m : Int) / 10 = 0 := by omega
        have hzi2 : ((m : Int) / 10 == 0) = false := by simp; omega
        have hd := Lib.hid (HS.out.2 hz)
        have hqi : (m : Int).tdiv 10 = (m : Int) / 10 := Int.tdiv_eq_ediv_of_nonneg (by omega)
        go_wp2_with (at_builtin; refine wpList_appendB _ rfl (.tmp 15) (.tmp 16) rfl w.heap.size _ [dd] out rfl _ _ _ rfl (OwnB.one _ _ _ (by rw [HD.out]) _ hbs) (hr1.alloc _) (by simp; omega) (by simp; omega) ?_; intro v2 w2 ho2 hg2 hb2)
        go_roundw
        case rel => exact ⟨m / 10, _, by simp, by omega, by assumption, hd.out, (al hb _).trans hb2⟩
        case measure => simp [intOf]; omega
end Go.Proofs.YtfjfjjcdlgdbcaaDoor
namespace Go.Proofs.YtfjfjjcdlgdbcaaDoor
open Go.RowKit

/-- word and fields of each kind -/
def kt : List (List UInt8 × List UInt8) := [([], []), ([97, 100, 100], [97, 119]), ([115, 117, 98], [97, 119]), ([110, 111, 110, 99, 101], [97, 110]), ([99, 111, 100, 101], [97, 98]), ([115, 108, 111, 116], [97, 107, 119]), ([100, 101, 115, 116, 114, 111, 121], [97]), ([109, 97, 114, 107], []), ([114, 101, 118, 101, 114, 116], [110]), ([114, 111, 111, 116], []), ([99, 111, 109, 109, 105, 116], []), ([97, 99, 99, 111, 117, 110, 116], [97, 114, 109]), ([103, 101, 116, 99, 111, 100, 101], [97, 114, 109]), ([103, 101, 116, 115, 108, 111, 116], [97, 107, 114, 109]), ([112, 114, 111, 118, 101], [97, 114]), ([112, 114, 111, 118, 101, 115, 108, 111, 116], [97, 107, 114]), ([101, 110, 116, 114, 105, 101, 115], [114, 110, 98]), ([115, 108, 111, 116, 115], [97, 114, 110, 98]), ([98, 108, 111, 99, 107], [110, 98]), ([103, 101, 116, 98, 108, 111, 99, 107], [110]), ([102, 114, 101, 101, 122, 101], [110]), ([116, 97, 105, 108], [110]), ([112, 114, 117, 110, 101], [108]), ([102, 108, 117, 115, 104], []), ([99, 111, 109, 112, 97, 99, 116], [110]), ([115, 101, 116, 116, 108, 101], [110]), ([102, 108, 97, 116], [110]), ([102, 108, 97, 116, 116, 101, 110], [110])]
def kw (n : Int) : List UInt8 := if 0 ≤ n then (kt.getD n.toNat ([], [])).1 else []
def kf (n : Int) : List UInt8 := if 0 ≤ n then (kt.getD n.toNat ([], [])).2 else []
/-- fields in capitals -/
def kF (n : Int) : List UInt8 := (kf n).map fun c => c - 32
def isKind (n : Int) : Prop := 1 ≤ n ∧ n ≤ 27
theorem kw_no (n : Int) (h : ¬ isKind n) : kw n = [] := by
  unfold kw
  split
  · rename_i h0
    by_cases h1 : n = 0
    · subst h1; rfl
    · unfold isKind at h
      rw [List.getD_eq_getElem?_getD, List.getElem?_eq_none (by show 28 ≤ _; omega)]
      rfl
  · rfl
theorem kf_no (n : Int) (h : ¬ isKind n) : kf n = [] := by
  unfold kf
  split
  · rename_i h0
    by_cases h1 : n = 0
    · subst h1; rfl
    · unfold isKind at h
      rw [List.getD_eq_getElem?_getD, List.getElem?_eq_none (by show 28 ≤ _; omega)]
      rfl
  · rfl
set_option maxHeartbeats 4000000 in
theorem Word_calls (n : Int) (w : World) : Calls Tryd.prog 67 #[.int .i64 n] w fun e w' => e = .returned (.tuple #[.string (str (kw n)), .string (str (kF n))]) ∧ w = w' := by
  by_cases h1 : n = 1
  · subst h1
    go_enter Tryd.func67, Tryd.ntmps67
    go_wp2
    go_ret2
    exact ⟨rfl, rfl⟩
  by_cases h2 : n = 2
  · subst h2
    go_enter Tryd.func67, Tryd.ntmps67
    go_wp2
    go_ret2
    exact ⟨rfl, rfl⟩
  by_cases h3 : n = 3
  · subst h3
    go_enter Tryd.func67, Tryd.ntmps67
    go_wp2
    go_ret2
    exact ⟨rfl, rfl⟩
  by_cases h4 : n = 4
  · subst h4
    go_enter Tryd.func67, Tryd.ntmps67
    go_wp2
    go_ret2
    exact ⟨rfl, rfl⟩
  by_cases h5 : n = 5
  · subst h5
    go_enter Tryd.func67, Tryd.ntmps67
    go_wp2
    go_ret2
    exact ⟨rfl, rfl⟩
  by_cases h6 : n = 6
  · subst h6
    go_enter Tryd.func67, Tryd.ntmps67
    go_wp2
    go_ret2
    exact ⟨rfl, rfl⟩
  by_cases h7 : n = 7
  · subst h7
    go_enter Tryd.func67, Tryd.ntmps67
    go_wp2
    go_ret2
    exact ⟨rfl, rfl⟩
  by_cases h8 : n = 8
  · subst h8
    go_enter Tryd.func67, Tryd.ntmps67
    go_wp2
    go_ret2
    exact ⟨rfl, rfl⟩
  by_cases h9 : n = 9
  · subst h9
    go_enter Tryd.func67, Tryd.ntmps67
    go_wp2
    go_ret2
    exact ⟨rfl, rfl⟩
  by_cases h10 : n = 10
  · subst h10
    go_enter Tryd.func67, Tryd.ntmps67
    go_wp2
    go_ret2
    exact ⟨rfl, rfl⟩
  by_cases h11 : n = 11
  · subst h11
    go_enter Tryd.func67, Tryd.ntmps67
    go_wp2
    go_ret2
    exact ⟨rfl, rfl⟩
  by_cases h12 : n = 12
  · subst h12
    go_enter Tryd.func67, Tryd.ntmps67
    go_wp2
    go_ret2
    exact ⟨rfl, rfl⟩
  by_cases h13 : n = 13
  · subst h13
    go_enter Tryd.func67, Tryd.ntmps67
    go_wp2
    go_ret2
    exact ⟨rfl, rfl⟩
  by_cases h14 : n = 14
  · subst h14
    go_enter Tryd.func67, Tryd.ntmps67
    go_wp2
    go_ret2
    exact ⟨rfl, rfl⟩
  by_cases h15 : n = 15
  · subst h15
    go_enter Tryd.func67, Tryd.ntmps67
    go_wp2
    go_ret2
    exact ⟨rfl, rfl⟩
  by_cases h16 : n = 16
  · subst h16
    go_enter Tryd.func67, Tryd.ntmps67
    go_wp2
    go_ret2
    exact ⟨rfl, rfl⟩
  by_cases h17 : n = 17
  · subst h17
    go_enter Tryd.func67, Tryd.ntmps67
    go_wp2
    go_ret2
    exact ⟨rfl, rfl⟩
  by_cases h18 : n = 18
  · subst h18
    go_enter Tryd.func67, Tryd.ntmps67
    go_wp2
    go_ret2
    exact ⟨rfl, rfl⟩
  by_cases h19 : n = 19
  · subst h19
    go_enter Tryd.func67, Tryd.ntmps67
    go_wp2
    go_ret2
    exact ⟨rfl, rfl⟩
  by_cases h20 : n = 20
  · subst h20
    go_enter Tryd.func67, Tryd.ntmps67
    go_wp2
    go_ret2
    exact ⟨rfl, rfl⟩
  by_cases h21 : n = 21
  · subst h21
    go_enter Tryd.func67, Tryd.ntmps67
    go_wp2
    go_ret2
    exact ⟨rfl, rfl⟩
  by_cases h22 : n = 22
  · subst h22
    go_enter Tryd.func67, Tryd.ntmps67
    go_wp2
    go_ret2
    exact ⟨rfl, rfl⟩
  by_cases h23 : n = 23
  · subst h23
    go_enter Tryd.func67, Tryd.ntmps67
    go_wp2
    go_ret2
    exact ⟨rfl, rfl⟩
  by_cases h24 : n = 24
  · subst h24
    go_enter Tryd.func67, Tryd.ntmps67
    go_wp2
    go_ret2
    exact ⟨rfl, rfl⟩
  by_cases h25 : n = 25
  · subst h25
    go_enter Tryd.func67, Tryd.ntmps67
    go_wp2
    go_ret2
    exact ⟨rfl, rfl⟩
  by_cases h26 : n = 26
  · subst h26
    go_enter Tryd.func67, Tryd.ntmps67
    go_wp2
    go_ret2
    exact ⟨rfl, rfl⟩
  by_cases h27 : n = 27
  · subst h27
    go_enter Tryd.func67, Tryd.ntmps67
    go_wp2
    go_ret2
    exact ⟨rfl, rfl⟩
  have hno : ¬ isKind n := by unfold isKind; omega
  rw [kw_no n hno, kF, kf_no n hno]
  clear hno
  go_enter Tryd.func67, Tryd.ntmps67
  go_wp2
  go_ret2
  exact ⟨rfl, rfl⟩
end Go.Proofs.YtfjfjjcdlgdbcaaDoor
namespace Go.Proofs.YtfjfjjcdlgdbcaaDoor
open Go.RowKit

def kindsV : Array Value := (kt.flatMap fun p => [Value.string (str p.1), Value.string (str p.2)]).toArray

theorem wpList_build {P : Program} {ops : Array Oper} {rest : List Oper} {o : Oper} {a : Act} {w : World} {Q : Exit → Act → World → Prop} (hgd : o.guard = none) (ty : TypeId) (xs : Array (Nat × Operand)) (_ho : o.op = .build ty xs) (v : Value) (hrun : (execOp a.eval o).run P w = .ok (.value v) w)
    (h : wpList P ops Q rest (a.put o.dst v) w) : wpList P ops Q (o :: rest) a w :=
  wpList_plain hgd fun K hK => by
    unfold Oper.wp
    simp only [hrun]
    exact hK _ _ h
theorem Tryd.agg117 : AggT Tryd.prog 117 56 := by
  refine ⟨?_, by kernel_rfl⟩
  rw [Tryd.underlying117]; exact rfl
theorem results_agg1 {P : Program} {fn : Func} {p : Tmp} {ty : TypeId} (h : fn.results = #[.cell p ty]) (tmps : Array Value) (w : World) (g : Nat) (vs : Array Value)
    (hp : tmps.getD p undef = .pointer (some ⟨g, 0, none⟩)) (ht : AggT P ty vs.size) (hc : CellsAt w g 0 vs.toList) :
    (results fn tmps).run P w = .ok (.agg vs) w := by
  have hp' : tmps[p]?.getD undef = .pointer (some ⟨g, 0, none⟩) := by simpa using hp
  have hl := run_loadAgg (P := P) w ty g 0 vs.toList (by simpa using ht) hc
  simp [results, h, hp', asAddr, hl]
theorem kindsV_size : kindsV.size = 56 := by decide +kernel
theorem kindsV_one : AllOne kindsV.toList := by
  have : (kindsV.toList.all fun v => v.oneCell') = true := by decide +kernel
  intro v hv
  exact List.all_eq_true.1 this v hv

set_option maxRecDepth 100000 in
set_option maxHeartbeats 4000000 in
theorem kinds_calls (w : World) : Calls Tryd.prog 65 #[] w fun e w' => e = .returned (.agg kindsV) ∧ Below w.heap.size w w' := by
  have hA : Hid (AggT Tryd.prog 117 kindsV.size) := by rw [kindsV_size]; exact Tryd.agg117
  go_enter Tryd.func65, Tryd.ntmps65
  go_wp2_with (first | (refine wpList_build rfl 117 _ rfl (.agg kindsV) (by kernel_rfl) ?_) | (refine wpList_storeNew rfl rfl 117 _ _ rfl _ _ rfl kindsV rfl hA.out (by rw [kindsV_size]; rfl) kindsV_one ?_))
  refine bodyPost_ret (results_agg1 rfl _ _ w.heap.size kindsV rfl hA.out ?_) rfl ⟨rfl, (Below.refl _ _).alloc (Nat.le_refl _) _⟩
  exact cellsAt_alloc_at w kindsV 117 _ 0 _ rfl (fun j u hu => by simpa using hu)
end Go.Proofs.YtfjfjjcdlgdbcaaDoor
namespace Go.Proofs.YtfjfjjcdlgdbcaaDoor
open Go.RowKit Go.Sort

/-- an act in plain words -/
structure ActP where
  kind : Int
  addr : List UInt8
  key : List UInt8
  word : List UInt8
  root : List UInt8
  n : Int
  m : Int
  b : List UInt8
  l : List (List UInt8 × List UInt8)

/-- an act's cells -/
def ak (A : ActP) (b l : Value) : Array Value := ([Value.int .i64 A.kind] ++ (bvs A.addr ++ (bvs A.key ++ (bvs A.word ++ (bvs A.root ++ [.int .i64 A.n, .int .i64 A.m, b, l]))))).toArray
structure ActP.Fit (A : ActP) : Prop where
  ha : A.addr.length = 20
  hk : A.key.length = 32
  hw : A.word.length = 32
  hr : A.root.length = 32
  hn0 : -9223372036854775808 ≤ A.n
  hn1 : A.n ≤ 9223372036854775807
  hm0 : -9223372036854775808 ≤ A.m
  hm1 : A.m ≤ 9223372036854775807
  hk0 : -9223372036854775808 ≤ A.kind
  hk1 : A.kind ≤ 9223372036854775807

theorem ak_size (A : ActP) (b l : Value) (h : A.Fit) : (ak A b l).size = 121 := by
  simp [ak, bvs_length, h.ha, h.hk, h.hw, h.hr]
theorem ak_0 (A : ActP) (b l : Value) : (ak A b l)[0]? = some (.int .i64 A.kind) := by simp [ak]
theorem app_at {α : Type} (n : Nat) (xs ys : List α) (h : xs.length = n) (j : Nat) : (xs ++ ys)[n + j]? = ys[j]? := by
  rw [List.getElem?_append_right (by omega)]; congr 1; omega
theorem app_lt {α : Type} (xs ys : List α) (j : Nat) (u : α) (h : xs[j]? = some u) : (xs ++ ys)[j]? = some u := by
  rw [List.getElem?_append_left (List.getElem?_eq_some_iff.1 h).1]; exact h
theorem bvs_get {xs : List UInt8} {j : Nat} {u : UInt8} (h : xs[j]? = some u) : (bvs xs)[j]? = some (bv u) := by simp [bvs, h]
theorem ak_tail (A : ActP) (b l : Value) (h : A.Fit) (j : Nat) : (ak A b l)[117 + j]? = [Value.int .i64 A.n, .int .i64 A.m, b, l][j]? := by
  rw [ak, List.getElem?_toArray, show 117 + j = 1 + (20 + (32 + (32 + (32 + j)))) by omega, app_at 1 _ _ rfl, app_at 20 _ _ (by rw [bvs_length, h.ha]), app_at 32 _ _ (by rw [bvs_length, h.hk]), app_at 32 _ _ (by rw [bvs_length, h.hw]), app_at 32 _ _ (by rw [bvs_length, h.hr])]
theorem ak_addr (A : ActP) (b l : Value) (j : Nat) (u : UInt8) (hu : A.addr[j]? = some u) : (ak A b l)[1 + j]? = some (bv u) := by
  rw [ak, List.getElem?_toArray, app_at 1 _ _ rfl]
  exact app_lt _ _ _ _ (bvs_get hu)
theorem ak_key (A : ActP) (b l : Value) (h : A.Fit) (j : Nat) (u : UInt8) (hu : A.key[j]? = some u) : (ak A b l)[21 + j]? = some (bv u) := by
  rw [ak, List.getElem?_toArray, show 21 + j = 1 + (20 + j) by omega, app_at 1 _ _ rfl, app_at 20 _ _ (by rw [bvs_length, h.ha])]
  exact app_lt _ _ _ _ (bvs_get hu)
theorem ak_word (A : ActP) (b l : Value) (h : A.Fit) (j : Nat) (u : UInt8) (hu : A.word[j]? = some u) : (ak A b l)[53 + j]? = some (bv u) := by
  rw [ak, List.getElem?_toArray, show 53 + j = 1 + (20 + (32 + j)) by omega, app_at 1 _ _ rfl, app_at 20 _ _ (by rw [bvs_length, h.ha]), app_at 32 _ _ (by rw [bvs_length, h.hk])]
  exact app_lt _ _ _ _ (bvs_get hu)
theorem ak_root (A : ActP) (b l : Value) (h : A.Fit) (j : Nat) (u : UInt8) (hu : A.root[j]? = some u) : (ak A b l)[85 + j]? = some (bv u) := by
  rw [ak, List.getElem?_toArray, show 85 + j = 1 + (20 + (32 + (32 + j))) by omega, app_at 1 _ _ rfl, app_at 20 _ _ (by rw [bvs_length, h.ha]), app_at 32 _ _ (by rw [bvs_length, h.hk]), app_at 32 _ _ (by rw [bvs_length, h.hw])]
  exact app_lt _ _ _ _ (bvs_get hu)
theorem RdB.sub (w : World) (t : TypeId) (cs : Array Value) (off n : Nat) (xs : List UInt8) (hn : xs.length = n) (hm : n ≤ maxLen) (h : ∀ j u, xs[j]? = some u → cs[off + j]? = some (bv u)) :
    RdB (w.alloc (.cells cs t)) (some ⟨w.heap.size, off, none⟩) n n xs := by
  refine ⟨hn, Nat.le_refl _, hm, fun _ => ⟨_, rfl, fun j u hu => ?_⟩⟩
  have e : (⟨w.heap.size, off, none⟩ : Addr).add j = ⟨w.heap.size, off + j, none⟩ := by unfold Addr.add; split <;> simp_all
  rw [e, World.cell?_alloc_at _ _ _ _ rfl]
  exact h j u hu

theorem Blk.rd {w : World} {g : Nat} {t : TypeId} {cs : Array Value} (hB : Blk w g t cs) (off n : Nat) (xs : List UInt8) (hn : xs.length = n) (hm : n ≤ maxLen) (h : ∀ j u, xs[j]? = some u → cs[off + j]? = some (bv u)) :
    RdB w (some ⟨g, off, none⟩) n n xs := by
  refine ⟨hn, Nat.le_refl _, hm, fun _ => ⟨_, rfl, fun j u hu => ?_⟩⟩
  have e : (⟨g, off, none⟩ : Addr).add j = ⟨g, off + j, none⟩ := by unfold Addr.add; split <;> simp_all
  rw [e, hB.cell]
  exact h j u hu

/-- the slice value (A, n, c) reads as a list of keys and values -/
def RdKV (w : World) (A : Option Addr) (n c : Nat) (kvs : List (List UInt8 × List UInt8)) : Prop :=
  kvs.length = n ∧ n ≤ c ∧ c ≤ maxLen ∧ (0 < n → ∃ g o, A = some ⟨g, o, none⟩ ∧ ∀ j kv, kvs[j]? = some kv → ∃ B m d B' m' d', w.cell? ⟨g, o + j * 2, none⟩ = some (.slice B m d) ∧ RdB w B m d kv.1 ∧ w.cell? ⟨g, o + j * 2 + 1, none⟩ = some (.slice B' m' d') ∧ RdB w B' m' d' kv.2)
theorem cell_below' {w w' : World} (hb : Below w.heap.size w w') {a : Addr} {v : Value} (hc : w.cell? a = some v) : w'.cell? a = some v := (hb.cell (World.block_lt_of_cell? w a hc)).trans hc
theorem RdKV.below {w w1 : World} {A : Option Addr} {n c : Nat} {kvs : List (List UInt8 × List UInt8)} (h : RdKV w A n c kvs) (hb : Below w.heap.size w w1) : RdKV w1 A n c kvs :=
  ⟨h.1, h.2.1, h.2.2.1, fun hn => by
    obtain ⟨g, o, e, hc⟩ := h.2.2.2 hn
    refine ⟨g, o, e, fun j kv hj => ?_⟩
    obtain ⟨B, m, d, B', m', d', h1, h2, h3, h4⟩ := hc j kv hj
    exact ⟨B, m, d, B', m', d', cell_below' hb h1, h2.below hb, cell_below' hb h3, h4.below hb⟩⟩
theorem RdKV.at_ {w : World} {A : Option Addr} {n c : Nat} {kvs : List (List UInt8 × List UInt8)} (h : RdKV w A n c kvs) {k : Nat} (hk : k < n) :
    ∃ g o B m d B' m' d', A = some ⟨g, o, none⟩ ∧ kvs[k]? = some (kvs.getD k ([], [])) ∧ w.cell? ⟨g, o + k * 2, none⟩ = some (.slice B m d) ∧ RdB w B m d (kvs.getD k ([], [])).1 ∧ w.cell? ⟨g, o + k * 2 + 1, none⟩ = some (.slice B' m' d') ∧ RdB w B' m' d' (kvs.getD k ([], [])).2 := by
  obtain ⟨g, o, e, hc⟩ := h.2.2.2 (by omega)
  have hl : k < kvs.length := by have := h.1; omega
  have hg : kvs[k]? = some (kvs.getD k ([], [])) := by rw [List.getD_eq_getElem?_getD, List.getElem?_eq_getElem hl]; rfl
  obtain ⟨B, m, d, B', m', d', h1, h2, h3, h4⟩ := hc k _ hg
  exact ⟨g, o, B, m, d, B', m', d', e, hg, h1, h2, h3, h4⟩

/-- the value cs reads as the act A -/
def RdAct (w : World) (A : ActP) (bA : Option Addr) (bn bc : Nat) (lA : Option Addr) (ln lc : Nat) : Prop := A.Fit ∧ RdB w bA bn bc A.b ∧ RdKV w lA ln lc A.l
theorem RdAct.below {w w1 : World} {A : ActP} {bA : Option Addr} {bn bc : Nat} {lA : Option Addr} {ln lc : Nat} (h : RdAct w A bA bn bc lA ln lc) (hb : Below w.heap.size w w1) : RdAct w1 A bA bn bc lA ln lc := ⟨h.1, h.2.1.below hb, h.2.2.below hb⟩

/-- the facts on the program's variables that the library's contracts ask for -/
structure LaidW (w : World) : Prop where
  pow : Lib.TabIs Tryd.prog w "internal/strconv.uint64pow10" .u64 Lib.pow10Tab
  max : ∃ m, w.cell? ⟨1, 0, none⟩ = some (.int .i64 m)
  syn : ∃ ev, w.cell? ⟨2, 0, none⟩ = some ev ∧ (ev = .nilIface ∨ ∃ te pe, ev = .iface te pe)
  rng : ∃ ev, w.cell? ⟨3, 0, none⟩ = some ev ∧ (ev = .nilIface ∨ ∃ te pe, ev = .iface te pe)
theorem tab_below {n : String} {k : IntKind} {zs : List Int} {w w' : World} (h : Lib.TabIs Tryd.prog w n k zs) (hb : Below w.heap.size w w') : Lib.TabIs Tryd.prog w' n k zs := by
  unfold Lib.TabIs World.var? at h ⊢
  cases hg : Tryd.prog.globalNamed n with
  | none => rw [hg] at h; exact absurd h (by simp)
  | some g =>
    rw [hg] at h
    simp only [Option.bind_some] at h ⊢
    have hlt : g < w.heap.size := by
      rcases Nat.lt_or_ge g w.heap.size with h' | h'
      · exact h'
      · rw [Array.getElem?_eq_none h'] at h; cases h
    rw [hb.block g hlt]
    exact h
theorem LaidW.below {w w1 : World} (h : LaidW w) (hb : Below w.heap.size w w1) : LaidW w1 := by
  obtain ⟨h1, ⟨m, h2⟩, ⟨e2, h3, h3'⟩, ⟨e3, h4, h4'⟩⟩ := h
  exact ⟨tab_below h1 hb, ⟨m, cell_below' hb h2⟩, ⟨e2, cell_below' hb h3, h3'⟩, ⟨e3, cell_below' hb h4, h4'⟩⟩
theorem grow_below (w : World) (k : Nat) (os : Array Obj) : Below w.heap.size w (grow (w.drewN k) os) := by
  have hb : Below w.heap.size w (w.drewN k) := ⟨rfl, rfl, rfl, Nat.le_refl _, fun _ _ => rfl⟩
  refine ⟨hb.os, hb.tape, hb.output, ?_, fun i hi => ?_⟩
  · show w.heap.size ≤ (w.heap ++ os).size
    simp
  · show (w.heap ++ os)[i]? = w.heap[i]?
    rw [Array.getElem?_append_left hi]
theorem Itoa_calls (n : Int) (w : World) (h0 : -9223372036854775808 ≤ n) (h1 : n ≤ 9223372036854775807) (hL : LaidW w) :
    Calls Tryd.prog 104 #[.int .i64 n] w fun e w' => e = .returned (.string (str (Lib.itoa n))) ∧ Below w.heap.size w w' :=
  (Tryd.strconv_Itoa n h0 h1 w hL.pow).mono fun e w' ⟨he, k, os, hw⟩ => ⟨he, by rw [hw]; exact grow_below w k os⟩
end Go.Proofs.YtfjfjjcdlgdbcaaDoor
