/- plain.Unhex -/
import Derived.Test.YtfjfjjcdlgdbcaaDoorE17
namespace Go.Proofs.YtfjfjjcdlgdbcaaDoor
open Go.RowKit
set_option linter.unusedSimpArgs false
set_option linter.unusedVariables false

/-- the bytes of digits, two each; of one digit too many nothing is told -/
def unhexR : List UInt8 → Option (List UInt8)
  | a :: b :: r => if halfN a < 16 ∧ halfN b < 16 then (unhexR r).map (UInt8.ofNat (16 * halfN a + halfN b) :: ·) else none
  | _ => some []
theorem unhexR_append : ∀ (k : Nat) (p r out : List UInt8), p.length = 2 * k → unhexR p = some out → unhexR (p ++ r) = (unhexR r).map (out ++ ·)
  | 0, p, r, out, hl, h => by
    obtain rfl : p = [] := List.eq_nil_of_length_eq_zero (by omega)
    simp only [unhexR, Option.some.injEq] at h
    subst h
    simp
  | k + 1, [], r, out, hl, h => by simp at hl
  | k + 1, [a], r, out, hl, h => by simp at hl; omega
  | k + 1, a :: b :: p, r, out, hl, h => by
    simp only [unhexR, List.cons_append] at h ⊢
    split at h
    · rename_i hab
      rw [if_pos hab]
      obtain ⟨o, ho, rfl⟩ := Option.map_eq_some_iff.1 h
      rw [unhexR_append k p r o (by simp only [List.length_cons] at hl; omega) ho]
      cases unhexR r <;> simp
    · cases h
theorem unhexR_len : ∀ (k : Nat) (p out : List UInt8), p.length ≤ k → unhexR p = some out → out.length ≤ p.length
  | _, [], out, _, h => by simp only [unhexR, Option.some.injEq] at h; subst h; simp
  | _, [a], out, _, h => by simp only [unhexR, Option.some.injEq] at h; subst h; simp
  | 0, a :: b :: p, out, hk, h => by simp at hk
  | k + 1, a :: b :: p, out, hk, h => by
    simp only [unhexR] at h
    split at h
    · obtain ⟨o, ho, rfl⟩ := Option.map_eq_some_iff.1 h
      have := unhexR_len k p o (by simp only [List.length_cons] at hk; omega) ho
      simp only [List.length_cons]; omega
    · cases h
theorem drop_two (s : List UInt8) (k : Nat) (h : 2 * k + 1 < s.length) : s.drop (2 * k) = s.getD (2 * k) 0 :: s.getD (2 * k + 1) 0 :: s.drop (2 * k + 2) := by
  rw [List.drop_eq_getElem_cons (by omega), List.drop_eq_getElem_cons (show 2 * k + 1 < s.length by omega)]
  simp [List.getD_eq_getElem?_getD, List.getElem?_eq_getElem (show 2 * k < s.length by omega), List.getElem?_eq_getElem (show 2 * k + 1 < s.length by omega)]
theorem unhexR_bad (s out : List UInt8) (k : Nat) (h : 2 * k + 1 < s.length) (ho : unhexR (s.take (2 * k)) = some out) (hb : ¬ (halfN (s.getD (2 * k) 0) < 16 ∧ halfN (s.getD (2 * k + 1) 0) < 16)) : unhexR s = none := by
  have e := unhexR_append k (s.take (2 * k)) (s.drop (2 * k)) out (by rw [List.length_take]; omega) ho
  rw [List.take_append_drop] at e
  rw [e, drop_two s k h, unhexR, if_neg hb]
  rfl
theorem unhexR_good (s out : List UInt8) (k : Nat) (h : 2 * k + 1 < s.length) (ho : unhexR (s.take (2 * k)) = some out) (hb : halfN (s.getD (2 * k) 0) < 16 ∧ halfN (s.getD (2 * k + 1) 0) < 16) :
    unhexR (s.take (2 * (k + 1))) = some (out ++ [UInt8.ofNat (16 * halfN (s.getD (2 * k) 0) + halfN (s.getD (2 * k + 1) 0))]) := by
  have e : s.take (2 * (k + 1)) = s.take (2 * k) ++ [s.getD (2 * k) 0, s.getD (2 * k + 1) 0] := by
    rw [show 2 * (k + 1) = 2 * k + 2 by omega, List.take_add, drop_two s k h]
    rfl
  rw [e, unhexR_append k _ _ out (by rw [List.length_take]; omega) ho, unhexR, if_pos hb]
  rfl
theorem unhexR_end (s out : List UInt8) (k : Nat) (h : ¬ 2 * k + 1 < s.length) (hk : 2 * k ≤ s.length) (ho : unhexR (s.take (2 * k)) = some out) : unhexR s = some out := by
  have e := unhexR_append k (s.take (2 * k)) (s.drop (2 * k)) out (by rw [List.length_take]; omega) ho
  rw [List.take_append_drop] at e
  rw [e]
  have hl : (s.drop (2 * k)).length ≤ 1 := by rw [List.length_drop]; omega
  match hd : s.drop (2 * k), hl with
  | [], _ => simp [unhexR]
  | [a], _ => simp [unhexR]
  | a :: b :: r, hl => simp at hl
def unhexV (s : List UInt8) : List UInt8 × Bool := match unhexR s with
  | none => ([], false)
  | some bs => (bs, decide (s.length % 2 = 0))
theorem nib_or (a b : Nat) (ha : a < 16) (hb : b < 16) : bits BinOp.or IntKind.u8 ((a : Int) * 16) (b : Int) = 16 * (a : Int) + (b : Int) := by
  have : ∀ a b : Fin 16, bits BinOp.or IntKind.u8 ((a.val : Int) * 16) (b.val : Int) = 16 * (a.val : Int) + (b.val : Int) := by decide +kernel
  exact this ⟨a, ha⟩ ⟨b, hb⟩

set_option maxRecDepth 100000 in
set_option maxHeartbeats 4000000 in
theorem Unhex_calls (s : List UInt8) (w : World) (hs : s.length ≤ 100000000) :
    Calls Tryd.prog 130 #[.string (str s)] w fun e w' => (∃ v, e = .returned (.tuple #[v, .bool (unhexV s).2]) ∧ OwnB w' w.heap.size v (unhexV s).1) ∧ Below w.heap.size w w' := by
  have hsz : (str s).size = s.length := rfl
  go_enter Tryd.func130, Tryd.ntmps130
  go_wp2
  go_loopw [4, 5] (fun v i wr => ∃ (k : Nat) (out : List UInt8), 2 * k ≤ s.length ∧ i = .int .i64 (2 * (k : Int)) ∧ unhexR (s.take (2 * k)) = some out ∧ OwnB wr w.heap.size v out ∧ Below w.heap.size w wr) (fun _ i _ => s.length + 2 - (intOf i).toNat)
  case atStart => exact ⟨0, [], by omega, rfl, rfl, OwnB.nil _ _, Below.refl _ _⟩
  case round =>
    obtain ⟨k, out, hk, rfl, hu, ho, hb⟩ := hrel
    have hbs := hb.size
    have HU := Lib.hid hu
    have hol := unhexR_len _ _ _ (Nat.le_refl _) hu
    rw [List.length_take] at hol
    clear hu
    by_cases hlt : 2 * k + 1 < s.length
    · have hlt1 : (2 : Int) * (k : Int) + 1 < (s.length : Int) := by omega
      have hg0 : s[2 * k]? = some (s.getD (2 * k) 0) := by rw [List.getD_eq_getElem?_getD, List.getElem?_eq_getElem (by omega)]; rfl
      have hg1 : s[2 * k + 1]? = some (s.getD (2 * k + 1) 0) := by rw [List.getD_eq_getElem?_getD, List.getElem?_eq_getElem hlt]; rfl
      have hi0 := fun W => idx_strs (P := Tryd.prog) s (2 * k) _ hg0 W Tryd.underlying9
      have hi1 := fun W => idx_strs (P := Tryd.prog) s (2 * k + 1) _ hg1 W Tryd.underlying9
      have hbad := Lib.hid (unhexR_bad s out k hlt HU.out)
      have hgood := Lib.hid (unhexR_good s out k hlt HU.out)
      have hc := Lib.hid half_calls
      have hwr : IntKind.i64.wrap (2 * (k : Int) + 1) = 2 * (k : Int) + 1 := IntWalk.i64_in _ (by omega)
      simp only [Int.natCast_add, Int.natCast_mul, Int.cast_ofNat_Int] at hi0 hi1
      clear hg0 hg1
      generalize s.getD (2 * k) 0 = a at *
      generalize s.getD (2 * k + 1) 0 = b at *
      by_cases ha : halfN a < 16
      · have hva : halfV a = .tuple #[.int .u8 (halfN a : Int), .bool true] := by rw [halfV, if_pos ha]
        by_cases hb' : halfN b < 16
        · have hvb : halfV b = .tuple #[.int .u8 (halfN b : Int), .bool true] := by rw [halfV, if_pos hb']
          have HG := Lib.hid (hgood.out ⟨ha, hb'⟩)
          have hor := nib_or _ _ ha hb'
          have hca := Lib.hid (fun W => hc.out a W)
          have hcb := Lib.hid (fun W => hc.out b W)
          rw [hva] at hca
          rw [hvb] at hcb
          generalize halfN a = na at *
          generalize halfN b = nb at *
          have hby := Lib.hid (show (16 * (na : Int) + (nb : Int)) = ((UInt8.ofNat (16 * na + nb)).toNat : Int) by rw [show (UInt8.ofNat (16 * na + nb)).toNat = 16 * na + nb from by (simp; try omega)]; omega)
          clear hva hvb
          go_wp2_with (first | (go_at_call 154; refine (hca.out _).mono ?_; rintro e w1 ⟨rfl, hb1⟩; clear hca) | (go_at_call 154; refine (hcb.out _).mono ?_; rintro e w2 ⟨rfl, hb2⟩) | (at_builtin; refine wpList_appendB _ rfl (.tmp 38) (.tmp 43) rfl w.heap.size _ out [UInt8.ofNat (16 * na + nb)] rfl _ _ _ rfl ((ho.below (thn hb1 hb2)).alloc _) (RdB.one _ _ _ _ hby.out) (by omega) (by have h1 := (thn hb1 hb2).size; simp; omega) ?_; intro v2 w3 ho3 hg3 hb3))
          go_roundw
          case rel => exact ⟨k + 1, out ++ [UInt8.ofNat (16 * na + nb)], by omega, by congr 1, HG.out, ho3, (al (thn (thn hb hb1) hb2) _).trans hb3⟩
          case measure => simp [intOf]; omega
        · have hvb : halfV b = .tuple #[.int .u8 0, .bool false] := by rw [halfV, if_neg hb']
          have HN := Lib.hid (hbad.out (fun h => hb' h.2))
          have hv : Hid (unhexV s = ([], false)) := by rw [unhexV, HN.out]; trivial
          have hca := Lib.hid (fun W => hc.out a W)
          have hcb := Lib.hid (fun W => hc.out b W)
          rw [hva] at hca
          rw [hvb] at hcb
          clear hva hvb
          go_wp2_with (first | (go_at_call 154; refine (hca.out _).mono ?_; rintro e w1 ⟨rfl, hb1⟩; clear hca) | (go_at_call 154; refine (hcb.out _).mono ?_; rintro e w2 ⟨rfl, hb2⟩))
          go_ret2
          rw [hv.out]
          exact ⟨⟨_, rfl, OwnB.nil _ _⟩, thn (thn hb hb1) hb2⟩
      · have HN := Lib.hid (hbad.out (fun h => ha h.1))
        have hva : halfV a = .tuple #[.int .u8 0, .bool false] := by rw [halfV, if_neg ha]
        by_cases hb' : halfN b < 16
        · have hvb : halfV b = .tuple #[.int .u8 (halfN b : Int), .bool true] := by rw [halfV, if_pos hb']
          have hv : Hid (unhexV s = ([], false)) := by rw [unhexV, HN.out]; trivial
          have hca := Lib.hid (fun W => hc.out a W)
          have hcb := Lib.hid (fun W => hc.out b W)
          rw [hva] at hca
          rw [hvb] at hcb
          clear hva hvb
          go_wp2_with (first | (go_at_call 154; refine (hca.out _).mono ?_; rintro e w1 ⟨rfl, hb1⟩; clear hca) | (go_at_call 154; refine (hcb.out _).mono ?_; rintro e w2 ⟨rfl, hb2⟩))
          go_ret2
          rw [hv.out]
          exact ⟨⟨_, rfl, OwnB.nil _ _⟩, thn (thn hb hb1) hb2⟩
        · have hvb : halfV b = .tuple #[.int .u8 0, .bool false] := by rw [halfV, if_neg hb']
          have hv : Hid (unhexV s = ([], false)) := by rw [unhexV, HN.out]; trivial
          have hca := Lib.hid (fun W => hc.out a W)
          have hcb := Lib.hid (fun W => hc.out b W)
          rw [hva] at hca
          rw [hvb] at hcb
          clear hva hvb
          go_wp2_with (first | (go_at_call 154; refine (hca.out _).mono ?_; rintro e w1 ⟨rfl, hb1⟩; clear hca) | (go_at_call 154; refine (hcb.out _).mono ?_; rintro e w2 ⟨rfl, hb2⟩))
          go_ret2
          rw [hv.out]
          exact ⟨⟨_, rfl, OwnB.nil _ _⟩, thn (thn hb hb1) hb2⟩
    · have hlt1 : ¬ (2 : Int) * (k : Int) + 1 < (s.length : Int) := by omega
      have hwr : IntKind.i64.wrap (2 * (k : Int) + 1) = 2 * (k : Int) + 1 := IntWalk.i64_in _ (by omega)
      have hv : Hid (unhexV s = (out, decide (s.length % 2 = 0))) := by rw [unhexV, unhexR_end s out k hlt hk HU.out]; trivial
      have hd2 : Hid (((s.length : Int) % 2 == 0) = decide (s.length % 2 = 0)) := by show _ = _; rw [Bool.eq_iff_iff]; simp; omega
      go_wp2
      go_ret2
      rw [hv.out]
      exact ⟨⟨_, by rw [← hd2.out]; rfl, ho⟩, hb⟩
end Go.Proofs.YtfjfjjcdlgdbcaaDoor
