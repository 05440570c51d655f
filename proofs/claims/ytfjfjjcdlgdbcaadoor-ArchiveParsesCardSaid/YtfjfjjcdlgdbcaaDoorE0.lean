/- plain.Hex and the document's: digits of bytes. -/
import Derived.Test.YtfjfjjcdlgdbcaaDoorR2
import Derived.Test.YtfjfjjcdlgdbcaaDoorA7
import Derived.Deep.DeepCutAuto
import Derived.Deep.QuietTactic
import Derived.BigQuiet
import Derived.Deep.RegionLaw
import Derived.Deep.RegionHeld3
namespace Go.Proofs.YtfjfjjcdlgdbcaaDoor
open Go.RowKit

def hexS : ByteArray := ⟨#[48, 49, 50, 51, 52, 53, 54, 55, 56, 57, 97, 98, 99, 100, 101, 102]⟩
/-- a digit -/
def dig (n : Nat) : UInt8 := [48, 49, 50, 51, 52, 53, 54, 55, 56, 57, 97, 98, 99, 100, 101, 102].getD n 0
def dig2 (b : UInt8) : List UInt8 := [dig (b.toNat / 16), dig (b.toNat % 16)]
/-- digits of bytes -/
def hexL (xs : List UInt8) : List UInt8 := (xs.map dig2).flatten
theorem hexL_length (xs : List UInt8) : (hexL xs).length = 2 * xs.length := by
  induction xs with
  | nil => rfl
  | cons x xs ih => simp only [hexL, List.map_cons, List.flatten_cons, List.length_append, List.length_cons] at ih ⊢; rw [ih]; simp [dig2]; omega
theorem hexL_append (xs ys : List UInt8) : hexL (xs ++ ys) = hexL xs ++ hexL ys := by simp [hexL]
theorem hexL_take_succ (xs : List UInt8) (k : Nat) (h : k < xs.length) : hexL (xs.take (k + 1)) = hexL (xs.take k) ++ dig2 (xs.getD k 0) := by
  have e : xs.take (k + 1) = xs.take k ++ [xs[k]] := List.take_succ_eq_append_getElem h
  rw [e, hexL_append]
  simp [hexL, List.getD_eq_getElem?_getD, List.getElem?_eq_getElem h]
theorem dig_get : ∀ n : Nat, n < 16 → hexS.data.toList[n]? = some (dig n) := by decide
theorem RdB.two (w : World) (t : TypeId) (a b : UInt8) : RdB (w.alloc (.cells #[.int .u8 a.toNat, .int .u8 b.toNat] t)) (some ⟨w.heap.size, 0, none⟩) 2 2 [a, b] :=
  RdB.many w t [a, b] rfl (by unfold maxLen; omega)

theorem nib_and (b : UInt8) : bits BinOp.and IntKind.u8 (b.toNat : Int) 15 = (b.toNat : Int) % 16 := by
  have : ∀ c : Fin 256, bits BinOp.and IntKind.u8 (c.val : Int) 15 = (c.val : Int) % 16 := by decide +kernel
  exact this ⟨b.toNat, b.toNat_lt⟩
theorem hexS_get : ∀ m : Fin 16, (hexS[m.val]'(by show m.val < 16; omega)).toNat = (dig m.val).toNat := by decide +kernel
theorem idx_hex {P : Program} (n : Nat) (hn : n < 16) (w : World) (h : P.underlying 9 = some .string) :
    (Instr.index 9 (.string ⟨#[48, 49, 50, 51, 52, 53, 54, 55, 56, 57, 97, 98, 99, 100, 101, 102]⟩) (.int .u8 (n : Int))).run P w = .ok (.int .u8 ((dig n).toNat : Int)) w := by
  show (Instr.index 9 (.string hexS) (.int .u8 (n : Int))).run P w = _
  rw [run_index_string w 9 hexS .u8 n h, dif_pos ⟨by omega, by show (n : Int) < 16; omega⟩]
  have h2 := hexS_get ⟨n, hn⟩
  simp only [Int.toNat_natCast]
  rw [h2]

theorem armH_appendB (w : World) {ops : Array Oper} {o : Oper} {a : Act} {K : Act → World → Prop} {Q : Exit → Act → World → Prop} {E : Prop}
    (hgd : o.guard = none) (s x : Operand) (ho : o.op = .call { callee := .builtin .append, args := #[s, x], argTypes := #[22, 22] })
    (B : Nat) (v : Value) (xs ys : List UInt8) (hs : a.eval s = v) (A : Option Addr) (n c : Nat) (hx : a.eval x = .slice A n c) (hown : OwnB w B v xs) (hr : RdB w A n c ys)
    (hl : xs.length + n ≤ 140737488355328) (hB : B ≤ w.heap.size)
    (h : ∀ v' w', OwnB w' B v' (xs ++ ys) → w.grownBy w' v.ownBlock → Below B w w' → K (a.put o.dst v') w') :
    if Region.wanted o (yielded ops a.tmps) = true then Oper.wp Tryd.prog o a w K Q else E := by
  obtain ⟨v', w', hrun, h1, h2, h3⟩ := run_appendB w o.type B v xs ys A n c hown hr hl hB
  have hw : Region.wanted o (yielded ops a.tmps) = true := by simp [Region.wanted, hgd]
  rw [if_pos hw]
  unfold Oper.wp execOp
  simp only [ho, resolve, invoke, builtin, Sem.run_bind, Sem.run_pure, Result.andThen_ok, List.map_toArray, List.map_cons, List.map_nil, hs, hx, hrun]
  exact h v' w' h1 h2 h3

set_option maxRecDepth 100000 in
set_option maxHeartbeats 1000000 in
theorem Hex_calls (A : Option Addr) (n c : Nat) (xs : List UInt8) (w : World) (h : RdB w A n c xs) (hs : n ≤ 100000000) :
    Calls Tryd.prog 48 #[.slice A n c] w fun e w' => e = .returned (.string (str (hexL xs))) ∧ Below w.heap.size w w' := by
  have hm : n ≤ 9223372036854775807 := by omega
  have H := Lib.hid h
  clear h
  go_enter Tryd.func48, Tryd.ntmps48
  go_wp2
  go_loopw [3, 8] (fun v i wr => ∃ k : Nat, k ≤ n ∧ i = .int .i64 k ∧ OwnB wr w.heap.size v (hexL (xs.take k)) ∧ Below w.heap.size w wr) (fun _ i _ => n - (intOf i).toNat)
  case atStart => exact ⟨0, by omega, rfl, by simpa [hexL] using OwnB.nil _ _, Below.refl _ _⟩
  case round =>
    obtain ⟨k, hk, rfl, ho, hb⟩ := hrel
    have hbs := hb.size
    by_cases hlt : k < n
    · obtain ⟨ad, rfl, hcell⟩ := (H.out.below hb).at_ hlt
      have HF := Lib.hid (hexL_take_succ xs k (by rw [H.out.1]; exact hlt))
      have hxl := H.out.1
      generalize xs.getD k 0 = b at *
      have hbl := b.toNat_lt
      have hq1 : (0 : Int) ≤ (b.toNat : Int) / 16 ∧ (b.toNat : Int) / 16 < 16 := by omega
      have hq2 : (0 : Int) ≤ (b.toNat : Int) % 16 ∧ (b.toNat : Int) % 16 < 16 := by omega
      have hbit := nib_and b
      have hlen : Hid ((hexL (xs.take k)).length = 2 * k) := by rw [hexL_length, List.length_take, hxl]; show 2 * min k n = _; omega
      have hi1 := fun W => idx_hex (P := Tryd.prog) (b.toNat / 16) (by omega) W Tryd.underlying9
      have hi2 := fun W => idx_hex (P := Tryd.prog) (b.toNat % 16) (by omega) W Tryd.underlying9
      simp only [Int.natCast_ediv, Int.natCast_emod, Int.cast_ofNat_Int] at hi1 hi2
      go_wp2
      refine wp_region_held_drew (S := fun _ => True) (by kernel_rfl) trivial (fun hHeld => ?_)
      refine wpAnyH_take (i := 0) (v := u3) rfl (by kernel_rfl) (by kernel_rfl) (by kernel_rfl) (fun _ _ _ h => h) (.inl ⟨by rfl, fun w _ => by go_simp⟩) hHeld ?_
      simp only [Act.put, List.setIfInBounds_toArray, List.set_cons_zero, List.set_cons_succ]
      refine wpAnyH_take (i := 1) (v := .int .u8 (b.toNat : Int)) rfl (by kernel_rfl) (by kernel_rfl) (by kernel_rfl) (fun _ _ _ h => h) (.inl ⟨by rfl, fun w _ => by go_simp⟩) hHeld ?_
      simp only [Act.put, List.setIfInBounds_toArray, List.set_cons_zero, List.set_cons_succ]
      refine wpAnyH_take (i := 4) (v := .int .u8 (b.toNat : Int)) rfl (by kernel_rfl) (by kernel_rfl) (by kernel_rfl) (fun _ _ _ h => h) (.inl ⟨by rfl, fun w _ => by go_simp⟩) hHeld ?_
      simp only [Act.put, List.setIfInBounds_toArray, List.set_cons_zero, List.set_cons_succ]
      refine wpAnyH_take (i := 2) (v := .int .u8 ((b.toNat : Int) / 16)) rfl (by kernel_rfl) (by kernel_rfl) (by kernel_rfl) (fun _ _ _ h => h) (.inl ⟨by rfl, fun w _ => by go_simp⟩) hHeld ?_
      simp only [Act.put, List.setIfInBounds_toArray, List.set_cons_zero, List.set_cons_succ]
      refine wpAnyH_take (i := 5) (v := .int .u8 ((b.toNat : Int) % 16)) rfl (by kernel_rfl) (by kernel_rfl) (by kernel_rfl) (fun _ _ _ h => h) (.inl ⟨by rfl, fun w _ => by go_simp⟩) hHeld ?_
      simp only [Act.put, List.setIfInBounds_toArray, List.set_cons_zero, List.set_cons_succ]
      refine wpAnyH_take (i := 3) (v := .int .u8 ((dig (b.toNat / 16)).toNat : Int)) rfl (by kernel_rfl) (by kernel_rfl) (by kernel_rfl) (fun _ _ _ h => h) (.inl ⟨by rfl, fun w _ => by go_simp⟩) hHeld ?_
      simp only [Act.put, List.setIfInBounds_toArray, List.set_cons_zero, List.set_cons_succ]
      refine wpAnyH_take (i := 6) (v := .int .u8 ((dig (b.toNat % 16)).toNat : Int)) rfl (by kernel_rfl) (by kernel_rfl) (by kernel_rfl) (fun _ _ _ h => h) (.inl ⟨by rfl, fun w _ => by go_simp⟩) hHeld ?_
      simp only [Act.put, List.setIfInBounds_toArray, List.set_cons_zero, List.set_cons_succ]
      refine wpAnyH_ready (rs := [7]) (by kernel_rfl) (by simp) ?_
      refine AllReadyH.cons rfl (fun K hK => ?_) AllReadyH.nil
      go_simp
      refine hK.out _ _ trivial (fun hHeld => ?_)
      clear hK K
      refine wpAnyH_ready (rs := [8]) (by kernel_rfl) (by simp) ?_
      refine AllReadyH.cons rfl (fun K hK => ?_) AllReadyH.nil
      refine armH_appendB _ rfl (.tmp 12) (.tmp 19) rfl w.heap.size _ (hexL (xs.take k)) (dig2 b) rfl _ _ _ rfl (ho.alloc _).drew (RdB.two _ _ _ _).drew (by rw [hlen.out]; omega) (by simp; omega) (fun v2 w2 ho2 hg2 hb2 => ?_)
      simp only [Act.put, List.setIfInBounds_toArray, List.set_cons_zero, List.set_cons_succ]
      refine hK.out _ _ trivial (fun hHeld => ?_)
      clear hK K
      refine wpAnyH_ready (rs := [9]) (by kernel_rfl) (by simp) ?_
      refine AllReadyH.cons rfl (fun K hK => ?_) AllReadyH.nil
      go_simp
      refine hK.out _ _ trivial (fun hHeld => ?_)
      clear hK K
      refine wpAnyH_done (by kernel_rfl) ?_ _
      go_wp2
      go_roundw
      case rel => exact ⟨k + 1, by omega, by go_num, by rw [HF.out]; exact ho2, (al hb _).drew.trans hb2⟩
      case measure => simp [intOf]; omega
    · obtain rfl : k = n := by omega
      obtain ⟨A2, c2, rfl, hr2⟩ := ho.reads
      have hcv := run_convertB (P := Tryd.prog) wr 22 5 9 Tryd.underlying22 Tryd.underlying5 Tryd.underlying9 hr2
      rw [List.take_of_length_le (by rw [H.out.1]; omega)] at *
      go_wp2
      go_ret
      exact ⟨rfl, hb⟩
end Go.Proofs.YtfjfjjcdlgdbcaaDoor
