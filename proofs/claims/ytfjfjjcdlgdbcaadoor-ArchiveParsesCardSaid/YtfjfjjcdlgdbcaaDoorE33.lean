/- The document's unhex -/
import Derived.Test.YtfjfjjcdlgdbcaaDoorE31
namespace Go.Proofs.YtfjfjjcdlgdbcaaDoor
open Go.RowKit
set_option linter.unusedSimpArgs false
set_option linter.unusedVariables false

/-- bytes of digits, as the document tells them -/
def unhexQ (s : List UInt8) : List UInt8 × Bool := if s.length % 2 = 1 then ([], false) else unhexV s
/-- the digits up to k looked through -/
def srch (c : UInt8) (k : Nat) : Int := if halfN c < k then (halfN c : Int) else -1
theorem dig_half (c : UInt8) (k : Nat) (hk : k < 16) : dig k = c ↔ halfN c = k := by
  have inj : ∀ i j : Fin 16, dig i.val = dig j.val → i.val = j.val := by decide
  constructor
  · intro h
    refine halfN_at c k hk (fun j hj e => ?_) h
    have := inj ⟨j, by omega⟩ ⟨k, hk⟩ (by rw [e, h])
    simp only at this
    omega
  · intro h
    have := halfN_dig c (by omega)
    rw [h] at this
    exact this
theorem srch_hit (c : UInt8) (k : Nat) (hk : k < 16) (h : dig k = c) : srch c (k + 1) = k := by
  have := (dig_half c k hk).1 h
  unfold srch
  rw [this, if_pos (by omega)]
theorem srch_miss (c : UInt8) (k : Nat) (hk : k < 16) (h : ¬ dig k = c) : srch c (k + 1) = srch c k := by
  have : halfN c ≠ k := fun e => h ((dig_half c k hk).2 e)
  unfold srch
  by_cases h2 : halfN c < k
  · rw [if_pos h2, if_pos (by omega)]
  · rw [if_neg h2, if_neg (by omega)]
theorem srch_bounds (c : UInt8) (k : Nat) : -1 ≤ srch c k ∧ srch c k ≤ 16 := by
  have := halfN_le c
  unfold srch
  split <;> omega
/-- the last byte of a row of the call's own -/
theorem OwnB.last {w : World} {B : Nat} {v : Value} {xs : List UInt8} {a : UInt8} (h : OwnB w B v (xs ++ [a])) :
    ∃ g cap, v = .slice (some ⟨g, 0, none⟩) (xs.length + 1) cap ∧ xs.length + 1 ≤ cap ∧ cap ≤ maxLen ∧ B ≤ g ∧ g < w.heap.size ∧ w.cell? ⟨g, xs.length, none⟩ = some (bv a) ∧ w.frozen? ⟨g, xs.length, none⟩ = false ∧
      (∀ b, OwnB (w.setCell ⟨g, xs.length, none⟩ (bv b)) B v (xs ++ [b])) := by
  rcases h.2 with ⟨rfl, h0⟩ | ⟨g, cap, cur, rfl, hb, hh, hn, hm, hsz, htk⟩
  · simp at h0
  · have hB : Blk w g 5 cur := hh
    simp only [List.length_append, List.length_cons, List.length_nil, Nat.zero_add, Nat.mul_one] at hn hsz htk
    have hget : cur[xs.length]? = some (bv a) := by
      have h1 : (cur.toList.take (xs.length + 1))[xs.length]? = (bvs (xs ++ [a]))[xs.length]? := by rw [htk]
      rw [List.getElem?_take, if_pos (by omega), bvs_append, List.getElem?_append_right (by rw [bvs_length]; omega), bvs_length] at h1
      simpa [bvs] using h1
    refine ⟨g, cap, by simp, hn, hm, hb, hB.lt, by rw [hB.cell]; exact hget, hB.frozen _, fun b => ?_⟩
    refine ⟨by simp [bvs_length], .inr ⟨g, cap, cur.setIfInBounds xs.length (bv b), by simp, hb, hB.set_ _ _, by simpa using hn, hm, by simpa using hsz, ?_⟩⟩
    simp only [List.length_append, List.length_cons, List.length_nil, Nat.zero_add, Nat.mul_one]
    apply List.ext_getElem?
    intro j
    have hj : (cur.toList.take (xs.length + 1))[j]? = (bvs (xs ++ [a]))[j]? := by rw [htk]
    rw [List.getElem?_take] at hj ⊢
    by_cases h1 : j < xs.length + 1
    · rw [if_pos h1] at hj ⊢
      simp only [Array.toList_setIfInBounds, List.getElem?_set]
      by_cases h2 : xs.length = j
      · rw [if_pos h2, if_pos (by simp; omega), ← h2, bvs_append, List.getElem?_append_right (by rw [bvs_length]; omega), bvs_length]
        simp [bvs]
      · rw [if_neg h2, hj, bvs_append, bvs_append, List.getElem?_append_left (by rw [bvs_length]; omega), List.getElem?_append_left (by rw [bvs_length]; omega)]
    · rw [if_neg h1, List.getElem?_eq_none (by simp [bvs_length]; omega)]
theorem unhexQ_bad (s out : List UInt8) (k : Nat) (h : 2 * k + 1 < s.length) (ho : unhexR (s.take (2 * k)) = some out) (hb : ¬ (halfN (s.getD (2 * k) 0) < 16 ∧ halfN (s.getD (2 * k + 1) 0) < 16)) : unhexQ s = ([], false) := by
  unfold unhexQ
  split
  · rfl
  · unfold unhexV
    rw [unhexR_bad s out k h ho hb]
theorem unhexQ_end (s out : List UInt8) (hl : s.length % 2 = 0) (k : Nat) (hk : 2 * k = s.length) (ho : unhexR (s.take (2 * k)) = some out) : unhexQ s = (out, true) := by
  unfold unhexQ unhexV
  rw [if_neg (by omega), unhexR_end s out k (by omega) (by omega) ho]
  simp [hl]
def halfI (k : Nat) : Int := k
theorem byte_of_half (a : Nat) (ha : a < 16) : IntKind.u8.wrap (16 * (a : Int)) = ((UInt8.ofNat (16 * a)).toNat : Int) := by
  have : ∀ a : Fin 16, IntKind.u8.wrap (16 * (a.val : Int)) = ((UInt8.ofNat (16 * a.val)).toNat : Int) := by decide +kernel
  exact this ⟨a, ha⟩
theorem byte_sum (a b : Nat) (ha : a < 16) (hb : b < 16) : IntKind.u8.wrap (((UInt8.ofNat (16 * a)).toNat : Int) + IntKind.u8.wrap (b : Int)) = ((UInt8.ofNat (16 * a + b)).toNat : Int) := by
  have : ∀ a b : Fin 16, IntKind.u8.wrap (((UInt8.ofNat (16 * a.val)).toNat : Int) + IntKind.u8.wrap (b.val : Int)) = ((UInt8.ofNat (16 * a.val + b.val)).toNat : Int) := by decide +kernel
  exact this ⟨a, ha⟩ ⟨b, hb⟩
theorem unhexR_size : ∀ (k : Nat) (p out : List UInt8), p.length = 2 * k → unhexR p = some out → out.length = k
  | 0, p, out, hl, h => by
    obtain rfl : p = [] := List.eq_nil_of_length_eq_zero (by omega)
    obtain rfl := Option.some.inj h
    rfl
  | k + 1, [], out, hl, h => by simp at hl
  | k + 1, [a], out, hl, h => by simp at hl; omega
  | k + 1, a :: b :: p, out, hl, h => by
    simp only [unhexR] at h
    split at h
    · obtain ⟨o, ho, rfl⟩ := Option.map_eq_some_iff.1 h
      have := unhexR_size k p o (by simp only [List.length_cons] at hl; omega) ho
      simp [this]
    · cases h
/-- how far the digits are read -/
def Unh (s : List UInt8) (wr : World) (B : Nat) (v i : Value) : Prop := ∃ (k : Nat) (out : List UInt8), unhexR (s.take (2 * k)) = some out ∧
  ((2 * k ≤ s.length ∧ i = .int .i64 (2 * (k : Int)) ∧ OwnB wr B v out) ∨
   (2 * k + 1 < s.length ∧ i = .int .i64 (2 * (k : Int) + 1) ∧ halfN (s.getD (2 * k) 0) < 16 ∧ OwnB wr B v (out ++ [UInt8.ofNat (16 * halfN (s.getD (2 * k) 0))])))

set_option maxRecDepth 100000 in
set_option maxHeartbeats 4000000 in
theorem unhex75_odd (s : List UInt8) (w : World) (h : s.length % 2 = 1) (hs : s.length ≤ 100000000) :
    Calls Tryd.prog 75 #[.string (str s)] w fun e w' => (∃ v, e = .returned (.tuple #[v, .bool (unhexQ s).2]) ∧ OwnB w' w.heap.size v (unhexQ s).1) ∧ Below w.heap.size w w' := by
  have hsz : (str s).size = s.length := rfl
  have hq : unhexQ s = ([], false) := by unfold unhexQ; rw [if_pos h]
  rw [hq]
  have hm : (s.length : Int) % 2 = 1 := by omega
  go_enter Tryd.func75, Tryd.ntmps75
  go_wp2
  go_ret2
  exact ⟨⟨_, rfl, OwnB.nil _ _⟩, Below.refl _ _⟩

set_option maxRecDepth 100000 in
set_option maxHeartbeats 8000000 in
theorem unhex75_even (s : List UInt8) (w : World) (h : s.length % 2 = 0) (hs : s.length ≤ 100000000) :
    Calls Tryd.prog 75 #[.string (str s)] w fun e w' => (∃ v, e = .returned (.tuple #[v, .bool (unhexQ s).2]) ∧ OwnB w' w.heap.size v (unhexQ s).1) ∧ Below w.heap.size w w' := by
  have hsz : (str s).size = s.length := rfl
  have hm : (s.length : Int) % 2 = 0 := by omega
  have HE := Lib.hid h
  clear h
  go_enter Tryd.func75, Tryd.ntmps75
  go_wp2
  go_loopw [4, 5] (fun v i wr => Below w.heap.size w wr ∧ Unh s wr w.heap.size v i) (fun _ i _ => s.length + 2 - (intOf i).toNat)
  case atStart => exact ⟨Below.refl _ _, 0, [], rfl, .inl ⟨by omega, rfl, OwnB.nil _ _⟩⟩
  case round =>
    obtain ⟨hb, k, out, hu, hrel⟩ := hrel
    have hbs := hb.size
    have HU := Lib.hid hu
    clear hu
    obtain ⟨wo, rfl⟩ : ∃ wo : World, wo = wr := ⟨_, rfl⟩
    rcases hrel with ⟨hk, rfl, ho⟩ | ⟨hk, rfl, hh, ho⟩
    · by_cases hlt : 2 * k < s.length
      · have hltI : (2 : Int) * (k : Int) < (s.length : Int) := by omega
        have hlt1 : 2 * k + 1 < s.length := by have := HE.out; omega
        have hm2 : (2 * (k : Int)) % 2 = 0 := by omega
        have hol := unhexR_len _ _ _ (Nat.le_refl _) HU.out
        rw [List.length_take] at hol
        have hg0 : s[2 * k]? = some (s.getD (2 * k) 0) := by rw [List.getD_eq_getElem?_getD, List.getElem?_eq_getElem hlt]; rfl
        have hi0 := fun W => idx_strs (P := Tryd.prog) s (2 * k) _ hg0 W Tryd.underlying9
        simp only [Int.natCast_mul, Int.cast_ofNat_Int] at hi0
        have HO := Lib.hid ho
        have hbad := Lib.hid (fun h => unhexQ_bad s out k hlt1 HU.out (fun hh => absurd hh.1 h))
        clear hg0 ho
        generalize hcc : s.getD (2 * k) 0 = c at *
        have HCC := Lib.hid hcc
        clear hcc
        go_wp2
        go_loopw [6, 7] (fun v j wr => ∃ m n : Nat, m ≤ 16 ∧ j = .int .i64 m ∧ v = .int .i64 (srch c m) ∧ wr = wo.drewN n) (fun _ j _ => 16 - (intOf j).toNat)
        case atStart => exact ⟨0, 0, by omega, rfl, rfl, rfl⟩
        case round =>
          obtain ⟨m, n, hm16, rfl, rfl, rfl⟩ := hrel
          by_cases hmlt : m < 16
          · have hi := fun W => idx_hex64 (P := Tryd.prog) m hmlt W Tryd.underlying9
            by_cases hd : dig m = c
            · have hq : ((dig m).toNat : Int) = (c.toNat : Int) := by rw [hd]
              have HS := Lib.hid (srch_hit c m hmlt hd)
              clear hd
              go_wp2
              go_quiet (fail)
              all_goals go_wp2
              go_roundw
              case rel => exact ⟨m + 1, _, by omega, by go_num, by rw [HS.out], by first | rfl | rw [World.drewN_drewN]⟩
              case measure => simp [intOf]; omega
            · have hq : ¬ ((dig m).toNat : Int) = (c.toNat : Int) := fun e => hd (UInt8.toNat_inj.1 (by omega))
              have hq2 : (((dig m).toNat : Int) == (c.toNat : Int)) = false := by simpa using hq
              have HS := Lib.hid (srch_miss c m hmlt hd)
              clear hd
              go_wp2
              go_quiet (fail)
              all_goals go_wp2
              go_roundw
              case rel => exact ⟨m + 1, _, by omega, by go_num, by rw [HS.out], by first | rfl | rw [World.drewN_drewN]⟩
              case measure => simp [intOf]; omega
          · obtain rfl : m = 16 := by omega
            by_cases hc16 : halfN c < 16
            · have hsr : srch c 16 = (halfN c : Int) := by unfold srch; rw [if_pos hc16]
              have hnn : ¬ ((halfN c : Nat) : Int) < 0 := by omega
              have hby := byte_of_half (halfN c) hc16
              rw [hsr]
              clear hsr
              go_wp2_with (first | (at_builtin; refine wpList_appendB _ rfl (.tmp 34) (.tmp 38) rfl w.heap.size _ out [UInt8.ofNat (16 * halfN c)] rfl _ _ _ rfl ((HO.out.drewN _).alloc _) (RdB.one _ _ _ _ hby) (by omega) (by simp; omega) ?_; intro v2 w3 ho3 hg3 hb3))
              go_roundw
              case rel =>
                exact ⟨_, _, v2, .int .i64 (2 * (k : Int) + 1), ⟨(al (hb.trans (drawn_below' _ _ _ hbs)) _).trans hb3, k, out, HU.out, .inr ⟨hlt1, rfl, by rw [HCC.out]; exact hc16, by rw [HCC.out]; exact ho3⟩⟩, rfl, rfl, rfl, rfl⟩
              case measure => simp [intOf]; omega
            · have hsr : srch c 16 = -1 := by unfold srch; rw [if_neg hc16]
              have HQ := Lib.hid (hbad.out hc16)
              rw [hsr]
              clear hsr
              go_wp2
              go_ret2
              rw [HQ.out]
              exact ⟨⟨_, rfl, OwnB.nil _ _⟩, hb.trans (drawn_below' _ _ _ hbs)⟩
      · have hltI : ¬ (2 : Int) * (k : Int) < (s.length : Int) := by omega
        have HQ := Lib.hid (unhexQ_end s out HE.out k (by omega) HU.out)
        go_wp2
        go_ret2
        rw [HQ.out]
        exact ⟨⟨_, rfl, ho⟩, hb⟩
    · have hltI : (2 : Int) * (k : Int) + 1 < (s.length : Int) := by omega
      have hm2 : (2 * (k : Int) + 1) % 2 = 1 := by omega
      have hdv : (2 * (k : Int) + 1) / 2 = (k : Int) := by omega
      have hol := unhexR_size k _ _ (by rw [List.length_take]; omega) HU.out
      have hg0 : s[2 * k + 1]? = some (s.getD (2 * k + 1) 0) := by rw [List.getD_eq_getElem?_getD, List.getElem?_eq_getElem hk]; rfl
      have hi0 := fun W => idx_strs (P := Tryd.prog) s (2 * k + 1) _ hg0 W Tryd.underlying9
      simp only [Int.natCast_add, Int.natCast_mul, Int.cast_ofNat_Int] at hi0
      have HO := Lib.hid ho
      have hbad := Lib.hid (fun h => unhexQ_bad s out k hk HU.out (fun hh => absurd hh.2 h))
      have hgood := Lib.hid (fun h => unhexR_good s out k hk HU.out ⟨hh, h⟩)
      have HH := Lib.hid hh
      clear hg0 ho hh
      generalize s.getD (2 * k) 0 = a at *
      generalize s.getD (2 * k + 1) 0 = c at *
      go_wp2
      go_loopw [6, 7] (fun v j wr => ∃ m n : Nat, m ≤ 16 ∧ j = .int .i64 m ∧ v = .int .i64 (srch c m) ∧ wr = wo.drewN n) (fun _ j _ => 16 - (intOf j).toNat)
      case atStart => exact ⟨0, 0, by omega, rfl, rfl, rfl⟩
      case round =>
        obtain ⟨m, n, hm16, rfl, rfl, rfl⟩ := hrel
        by_cases hmlt : m < 16
        · have hi := fun W => idx_hex64 (P := Tryd.prog) m hmlt W Tryd.underlying9
          by_cases hd : dig m = c
          · have hq : ((dig m).toNat : Int) = (c.toNat : Int) := by rw [hd]
            have HS := Lib.hid (srch_hit c m hmlt hd)
            clear hd
            go_wp2
            go_quiet (fail)
            all_goals go_wp2
            go_roundw
            case rel => exact ⟨m + 1, _, by omega, by go_num, by rw [HS.out], by first | rfl | rw [World.drewN_drewN]⟩
            case measure => simp [intOf]; omega
          · have hq : ¬ ((dig m).toNat : Int) = (c.toNat : Int) := fun e => hd (UInt8.toNat_inj.1 (by omega))
            have hq2 : (((dig m).toNat : Int) == (c.toNat : Int)) = false := by simpa using hq
            have HS := Lib.hid (srch_miss c m hmlt hd)
            clear hd
            go_wp2
            go_quiet (fail)
            all_goals go_wp2
            go_roundw
            case rel => exact ⟨m + 1, _, by omega, by go_num, by rw [HS.out], by first | rfl | rw [World.drewN_drewN]⟩
            case measure => simp [intOf]; omega
        · obtain rfl : m = 16 := by omega
          by_cases hc16 : halfN c < 16
          · have hsr : srch c 16 = (halfN c : Int) := by unfold srch; rw [if_pos hc16]
            have hnn : ¬ ((halfN c : Nat) : Int) < 0 := by omega
            have hby := Lib.hid (byte_sum (halfN a) (halfN c) HH.out hc16)
            have HG := Lib.hid (hgood.out hc16)
            obtain ⟨g, cap, rfl, hcap, hcm, hBg, hgl, hcell, hfr, hset⟩ := (HO.out.drewN n).last
            have hnone : ∀ j : Nat, (⟨g, 0 + j, none⟩ : Addr) = ⟨g, j, none⟩ := fun j => by rw [Nat.zero_add]
            have hki : (0 : Int) ≤ (k : Int) ∧ (k : Int) < (k : Int) + 1 := by omega
            rw [hol] at hcell hfr hset
            have HSET := Lib.hid hset
            unfold bv at hcell
            rw [hsr]
            clear hsr hset
            have HV : Hid (Value.int IntKind.u8 (16 * (halfN a : Int) % 256 + (halfN c : Int)) = bv (UInt8.ofNat (16 * halfN a + halfN c))) := by
              unfold bv
              have h1 := HH.out
              show _ = _
              congr 1
              simp
              omega
            go_wp2
            go_roundw
            case rel =>
              refine ⟨(hb.trans (drawn_below' _ _ _ hbs)).setCell (by show w.heap.size ≤ g; omega) _, k + 1, out ++ [UInt8.ofNat (16 * halfN a + halfN c)], HG.out, .inl ⟨by omega, by go_num, ?_⟩⟩
              rw [HV.out, hol]
              exact HSET.out _
            case measure => simp [intOf]; omega
          · have hsr : srch c 16 = -1 := by unfold srch; rw [if_neg hc16]
            have HQ := Lib.hid (hbad.out hc16)
            rw [hsr]
            clear hsr
            go_wp2
            go_ret2
            rw [HQ.out]
            exact ⟨⟨_, rfl, OwnB.nil _ _⟩, hb.trans (drawn_below' _ _ _ hbs)⟩
theorem unhex75_calls (s : List UInt8) (w : World) (hs : s.length ≤ 100000000) :
    Calls Tryd.prog 75 #[.string (str s)] w fun e w' => (∃ v, e = .returned (.tuple #[v, .bool (unhexQ s).2]) ∧ OwnB w' w.heap.size v (unhexQ s).1) ∧ Below w.heap.size w w' := by
  rcases Nat.mod_two_eq_zero_or_one s.length with h | h
  · exact unhex75_even s w h hs
  · exact unhex75_odd s w h hs


theorem valD_le (t : List UInt8) (k : Nat) (h : t.length = k) (hd : t.all isDig = true) : (valD t : Int) < ((10 ^ k : Nat) : Int) := by
  have := valD_lt k t h hd
  omega
theorem pow_19 (k : Nat) (h : k ≤ 19) : ((10 ^ k : Nat) : Int) ≤ 10000000000000000000 := by
  have : 10 ^ k ≤ 10 ^ 19 := Nat.pow_le_pow_right (by omega) h
  have h2 : (10 : Nat) ^ 19 = 10000000000000000000 := by decide
  omega
theorem valD_take (t : List UInt8) (k : Nat) (h : k < t.length) : valD (t.take (k + 1)) = valD (t.take k) * 10 + ((t.getD k 0).toNat - 48) := by rw [take_snoc' t k h, valD_snoc]
theorem isDig_take (t : List UInt8) (k : Nat) (h : k < t.length) : (t.take (k + 1)).all isDig = ((t.take k).all isDig && isDig (t.getD k 0)) := by rw [take_snoc' t k h]; simp
theorem isDig_no (t : List UInt8) (k : Nat) (h : k < t.length) (hb : isDig (t.getD k 0) = false) : t.all isDig = false := by
  rw [Bool.eq_false_iff]
  intro hall
  rw [List.all_eq_true] at hall
  rw [hall _ (getD_mem h)] at hb
  cases hb
theorem u64_in (x : Int) (h0 : 0 ≤ x) (h1 : x < 18446744073709551616) : IntKind.u64.wrap x = x := by
  simp [IntKind.wrap, IntKind.bits, IntKind.signed]; omega
theorem u8_in (x : Int) (h0 : 0 ≤ x) (h1 : x < 256) : IntKind.u8.wrap x = x := by
  simp [IntKind.wrap, IntKind.bits, IntKind.signed]; omega
theorem neg_wrap (u : Nat) (h : u ≤ 9223372036854775808) : IntKind.i64.wrap (IntKind.u64.wrap (-(u : Int))) = -(u : Int) := by
  simp [IntKind.wrap, IntKind.bits, IntKind.signed]; omega
/-- what toInt answers -/
def intV (r : Option Int) : Value := match r with
  | none => .tuple #[.int .i64 0, .bool false]
  | some n => .tuple #[.int .i64 n, .bool true]
/-- is there nothing to read? -/
def NegOk (t : List UInt8) : Prop := ¬ (t = [] ∨ 19 < t.length ∨ t.head? = some 48)
def PosOk (t : List UInt8) : Prop := ¬ (t = [] ∨ 19 < t.length ∨ (t.head? = some 48 ∧ 1 < t.length))
theorem neg_none (t : List UInt8) (h : ¬ NegOk t) : toIntL (45 :: t) = none := by
  rw [toIntL_neg]; unfold negL; rw [if_pos (by unfold NegOk at h; exact Classical.not_not.1 h)]
theorem neg_no (t : List UInt8) (h : NegOk t) (ha : t.all isDig = false) : toIntL (45 :: t) = none := by
  rw [toIntL_neg]; unfold negL; rw [if_neg h, if_neg (by rw [ha]; simp)]
theorem neg_big (t : List UInt8) (h : NegOk t) (ha : t.all isDig = true) (hb : 9223372036854775808 < valD t) : toIntL (45 :: t) = none := by
  rw [toIntL_neg]; unfold negL; rw [if_neg h, if_pos ha, if_pos hb]
theorem neg_ok (t : List UInt8) (h : NegOk t) (ha : t.all isDig = true) (hb : ¬ 9223372036854775808 < valD t) : toIntL (45 :: t) = some (-(valD t : Int)) := by
  rw [toIntL_neg]; unfold negL; rw [if_neg h, if_pos ha, if_neg hb]
theorem pos_none (t : List UInt8) (hn : t.head? ≠ some 45) (h : ¬ PosOk t) : toIntL t = none := by
  rw [toIntL_pos t hn]; unfold posL; rw [if_pos (by unfold PosOk at h; exact Classical.not_not.1 h)]
theorem pos_no (t : List UInt8) (hn : t.head? ≠ some 45) (h : PosOk t) (ha : t.all isDig = false) : toIntL t = none := by
  rw [toIntL_pos t hn]; unfold posL; rw [if_neg h, if_neg (by rw [ha]; simp)]
theorem pos_big (t : List UInt8) (hn : t.head? ≠ some 45) (h : PosOk t) (ha : t.all isDig = true) (hb : 9223372036854775807 < valD t) : toIntL t = none := by
  rw [toIntL_pos t hn]; unfold posL; rw [if_neg h, if_pos ha, if_pos hb]
theorem pos_ok (t : List UInt8) (hn : t.head? ≠ some 45) (h : PosOk t) (ha : t.all isDig = true) (hb : ¬ 9223372036854775807 < valD t) : toIntL t = some (valD t : Int) := by
  rw [toIntL_pos t hn]; unfold posL; rw [if_neg h, if_pos ha, if_neg hb]
theorem extract_tail (t : List UInt8) : (str (45 :: t)).extract 1 (t.length + 1) = str t := by
  apply ByteArray.ext
  apply Array.ext'
  simp [str, ByteArray.data_extract]

set_option maxRecDepth 100000 in
set_option maxHeartbeats 4000000 in
theorem toInt_neg_nil (w : World) : Calls Tryd.prog 76 #[.string (str [45])] w fun e w' => e = .returned (intV (toIntL [45])) ∧ w = w' := by
  have hsz : (str [45]).size = ([] : List UInt8).length + 1 := rfl
  have hszt : (str []).size = ([] : List UInt8).length := rfl
  have hex := extract_tail []
  have hi0 := fun W => idx_strs (P := Tryd.prog) [45] 0 45 rfl W Tryd.underlying9
  have h45 : ((45 : UInt8).toNat : Int) = 45 := rfl
  rw [h45] at hi0
  simp only [Int.ofNat_eq_natCast, Int.cast_ofNat_Int] at hi0
  have hpos : (0 : Int) < (([] : List UInt8).length : Int) + 1 := by omega
  clear h45
  have HR := Lib.hid (neg_none [] (by unfold NegOk; simp))
  go_enter Tryd.func76, Tryd.ntmps76
  go_wp2
  go_ret2
  rw [HR.out]
  exact ⟨rfl, rfl⟩

set_option maxRecDepth 100000 in
set_option maxHeartbeats 4000000 in
theorem toInt_neg_long (t : List UInt8) (w : World) (h : 19 < t.length) (hl : t.length ≤ 100000000) : Calls Tryd.prog 76 #[.string (str (45 :: t))] w fun e w' => e = .returned (intV (toIntL (45 :: t))) ∧ w = w' := by
  have hsz : (str (45 :: t)).size = t.length + 1 := rfl
  have hszt : (str t).size = t.length := rfl
  have hex := extract_tail t
  have hi0 := fun W => idx_strs (P := Tryd.prog) (45 :: t) 0 45 rfl W Tryd.underlying9
  have h45 : ((45 : UInt8).toNat : Int) = 45 := rfl
  rw [h45] at hi0
  simp only [Int.ofNat_eq_natCast, Int.cast_ofNat_Int] at hi0
  have hpos : (0 : Int) < (t.length : Int) + 1 := by omega
  clear h45
  have HR := Lib.hid (neg_none t (by unfold NegOk; simp [h]))
  have hI : (19 : Int) < (t.length : Int) := by omega
  have hn0 : ((t.length : Int) == 0) = false := by rw [beq_eq_false_iff_ne]; omega
  have hn1 : ¬ (t.length : Int) = 0 := by omega
  go_enter Tryd.func76, Tryd.ntmps76
  go_wp2
  go_ret2
  rw [HR.out]
  exact ⟨rfl, rfl⟩

set_option maxRecDepth 100000 in
set_option maxHeartbeats 4000000 in
theorem toInt_neg_zero (t : List UInt8) (w : World) (h : ¬ 19 < t.length) (hz : t.head? = some 48) : Calls Tryd.prog 76 #[.string (str (45 :: t))] w fun e w' => e = .returned (intV (toIntL (45 :: t))) ∧ w = w' := by
  have hsz : (str (45 :: t)).size = t.length + 1 := rfl
  have hszt : (str t).size = t.length := rfl
  have hex := extract_tail t
  have hi0 := fun W => idx_strs (P := Tryd.prog) (45 :: t) 0 45 rfl W Tryd.underlying9
  have h45 : ((45 : UInt8).toNat : Int) = 45 := rfl
  rw [h45] at hi0
  simp only [Int.ofNat_eq_natCast, Int.cast_ofNat_Int] at hi0
  have hpos : (0 : Int) < (t.length : Int) + 1 := by omega
  clear h45
  have HR := Lib.hid (neg_none t (by unfold NegOk; simp [hz]))
  have ht0 : t[0]? = some 48 := by rw [← List.head?_eq_getElem?]; exact hz
  have hlen : 0 < t.length := (List.getElem?_eq_some_iff.1 ht0).1
  have hj0 := fun W => idx_strs (P := Tryd.prog) t 0 48 ht0 W Tryd.underlying9
  have h48 : ((48 : UInt8).toNat : Int) = 48 := rfl
  rw [h48] at hj0
  simp only [Int.ofNat_eq_natCast, Int.cast_ofNat_Int] at hj0
  have hI : ¬ (19 : Int) < (t.length : Int) := by omega
  have hn0 : ((t.length : Int) == 0) = false := by rw [beq_eq_false_iff_ne]; omega
  have hn1 : ¬ (t.length : Int) = 0 := by omega
  by_cases h1 : 1 < t.length
  · have h1I : (1 : Int) < (t.length : Int) := by omega
    clear h hz ht0 h48
    go_enter Tryd.func76, Tryd.ntmps76
    go_wp2
    go_ret2
    rw [HR.out]
    exact ⟨rfl, rfl⟩
  · have h1I : ¬ (1 : Int) < (t.length : Int) := by omega
    clear h hz ht0 h48
    go_enter Tryd.func76, Tryd.ntmps76
    go_wp2
    go_ret2
    rw [HR.out]
    exact ⟨rfl, rfl⟩

set_option maxRecDepth 100000 in
set_option maxHeartbeats 4000000 in
theorem toInt_neg (t : List UInt8) (w : World) (hok : NegOk t) : Calls Tryd.prog 76 #[.string (str (45 :: t))] w fun e w' => e = .returned (intV (toIntL (45 :: t))) ∧ w = w' := by
  have hsz : (str (45 :: t)).size = t.length + 1 := rfl
  have hszt : (str t).size = t.length := rfl
  have hex := extract_tail t
  have hi0 := fun W => idx_strs (P := Tryd.prog) (45 :: t) 0 45 rfl W Tryd.underlying9
  have h45 : ((45 : UInt8).toNat : Int) = 45 := rfl
  rw [h45] at hi0
  simp only [Int.ofNat_eq_natCast, Int.cast_ofNat_Int] at hi0
  have hpos : (0 : Int) < (t.length : Int) + 1 := by omega
  clear h45
  have hlen : t.length ≤ 19 := by
    unfold NegOk at hok
    simp only [not_or, Nat.not_lt] at hok
    exact hok.2.1
  have hlen0 : 0 < t.length := by
    rw [List.length_pos_iff]
    exact fun e => hok (.inl e)
  have ht0 : t[0]? = some (t.getD 0 0) := by rw [List.getD_eq_getElem?_getD, List.getElem?_eq_getElem hlen0]; rfl
  have hne : ¬ ((t.getD 0 0).toNat : Int) = 48 := fun e => hok (.inr (.inr (by rw [List.head?_eq_getElem?, ht0]; congr 1; exact UInt8.toNat_inj.1 (by show (t.getD 0 0).toNat = 48; omega))))
  have hne2 : (((t.getD 0 0).toNat : Int) == 48) = false := by simpa using hne
  have hj0 := fun W => idx_strs (P := Tryd.prog) t 0 _ ht0 W Tryd.underlying9
  simp only [Int.ofNat_eq_natCast, Int.cast_ofNat_Int] at hj0
  have hI : ¬ (19 : Int) < (t.length : Int) := by omega
  have hn0 : ((t.length : Int) == 0) = false := by rw [beq_eq_false_iff_ne]; omega
  have hn1 : ¬ (t.length : Int) = 0 := by omega
  have HOK := Lib.hid hok
  clear hok ht0
  generalize t.getD 0 0 = b0 at *
  go_enter Tryd.func76, Tryd.ntmps76
  go_wp2
  go_loop [6, 7] (fun u i => ∃ k : Nat, k ≤ t.length ∧ i = .int .i64 k ∧ u = .int .u64 (valD (t.take k)) ∧ (t.take k).all isDig = true) (fun _ i => t.length - (intOf i).toNat)
  case atStart => exact ⟨0, by omega, rfl, rfl, rfl⟩
  case round =>
    obtain ⟨k, hk, rfl, rfl, ha⟩ := hrel
    have HA := Lib.hid ha
    clear ha
    have hvl := valD_le (t.take k) k (by rw [List.length_take]; omega) HA.out
    have hp19 := pow_19 k (by omega)
    by_cases hlt : k < t.length
    · have hg0 : t[k]? = some (t.getD k 0) := by rw [List.getD_eq_getElem?_getD, List.getElem?_eq_getElem hlt]; rfl
      have hi0 := fun W => idx_strs (P := Tryd.prog) t k _ hg0 W Tryd.underlying9
      have HV := Lib.hid (valD_take t k hlt)
      have HD := Lib.hid (isDig_take t k hlt)
      have HN := Lib.hid (isDig_no t k hlt)
      have hvl2 := fun h => valD_le (t.take (k + 1)) (k + 1) (by rw [List.length_take]; omega) h
      have hp20 := pow_19 (k + 1) (by omega)
      have HV2 := Lib.hid hvl2
      clear hg0 hvl2
      generalize t.getD k 0 = b at *
      have hbl := b.toNat_lt
      by_cases h48 : (b.toNat : Int) < 48
      · have HR := Lib.hid (neg_no t HOK.out (HN.out (by unfold isDig; simp; omega)))
        clear HN HD HV
        go_wp2
        go_ret2
        rw [HR.out]
        exact ⟨rfl, rfl⟩
      · by_cases h57 : 57 < (b.toNat : Int)
        · have HR := Lib.hid (neg_no t HOK.out (HN.out (by unfold isDig; simp; omega)))
          clear HN HD HV
          go_wp2
          go_ret2
          rw [HR.out]
          exact ⟨rfl, rfl⟩
        · have hd : isDig b = true := decide_eq_true (by omega)
          have HALL : Hid ((t.take (k + 1)).all isDig = true) := by rw [HD.out, HA.out, hd]; rfl
          have hv3 := HV2.out HALL.out
          rw [HV.out] at hv3
          have HV3 := Lib.hid HV.out
          clear HN HD HV HV2 hd
          have h48' : (48 : Int) ≤ (b.toNat : Int) := by omega
          generalize valD (t.take k) = u at *
          have hs1 : IntKind.u64.wrap (10 * (u : Int)) = 10 * (u : Int) := u64_in _ (by omega) (by omega)
          have hs2 : IntKind.u8.wrap ((b.toNat : Int) - 48) = (b.toNat : Int) - 48 := u8_in _ (by omega) (by omega)
          have hs3 : IntKind.u64.wrap ((b.toNat : Int) - 48) = (b.toNat : Int) - 48 := u64_in _ (by omega) (by omega)
          have hs4 : IntKind.u64.wrap (10 * (u : Int) + ((b.toNat : Int) - 48)) = 10 * (u : Int) + ((b.toNat : Int) - 48) := u64_in _ (by omega) (by omega)
          go_wp2
          go_round
          case rel => exact ⟨k + 1, by omega, by go_num, by rw [HV3.out]; congr 1; omega, HALL.out⟩
          case measure => simp [intOf]; omega
    · obtain rfl : k = t.length := by omega
      rw [List.take_length] at HA hvl ⊢
      by_cases hbig : 9223372036854775808 < valD t
      · have HR := Lib.hid (neg_big t HOK.out HA.out hbig)
        have hbI : (9223372036854775808 : Int) < (valD t : Int) := by omega
        generalize valD t = u at *
        go_wp2
        go_ret2
        rw [HR.out]
        exact ⟨rfl, rfl⟩
      · have HR := Lib.hid (neg_ok t HOK.out HA.out hbig)
        have hbI : ¬ (9223372036854775808 : Int) < (valD t : Int) := by omega
        generalize valD t = u at *
        have hng := neg_wrap u (by omega)
        go_wp2
        go_ret2
        rw [HR.out]
        exact ⟨by first | rfl | (rw [hng]; rfl), rfl⟩

set_option maxRecDepth 100000 in
set_option maxHeartbeats 4000000 in
theorem toInt_pos_nil (w : World) : Calls Tryd.prog 76 #[.string (str [])] w fun e w' => e = .returned (intV (toIntL [])) ∧ w = w' := by
  have HR := Lib.hid (pos_none [] (by simp) (by unfold PosOk; simp))
  have hsz : (str []).size = 0 := rfl
  go_enter Tryd.func76, Tryd.ntmps76
  go_wp2
  go_ret2
  rw [HR.out]
  exact ⟨rfl, rfl⟩

set_option maxRecDepth 100000 in
set_option maxHeartbeats 4000000 in
theorem toInt_pos_long (t : List UInt8) (w : World) (ht : t ≠ []) (hn : t.head? ≠ some 45) (h : 19 < t.length) (hl : t.length ≤ 100000000) : Calls Tryd.prog 76 #[.string (str t)] w fun e w' => e = .returned (intV (toIntL t)) ∧ w = w' := by
  have hsz : (str t).size = t.length := rfl
  have hlen0 : 0 < t.length := List.length_pos_iff.2 ht
  have hlenI : (0 : Int) < (t.length : Int) := by omega
  have ht0 : t[0]? = some (t.getD 0 0) := by rw [List.getD_eq_getElem?_getD, List.getElem?_eq_getElem hlen0]; rfl
  have hq : ¬ ((t.getD 0 0).toNat : Int) = 45 := fun e => hn (by rw [List.head?_eq_getElem?, ht0]; congr 1; exact UInt8.toNat_inj.1 (by show (t.getD 0 0).toNat = 45; omega))
  have hq2 : (((t.getD 0 0).toNat : Int) == 45) = false := by simpa using hq
  have hj0 := fun W => idx_strs (P := Tryd.prog) t 0 _ ht0 W Tryd.underlying9
  simp only [Int.ofNat_eq_natCast, Int.cast_ofNat_Int] at hj0
  have hn0 : ((t.length : Int) == 0) = false := by rw [beq_eq_false_iff_ne]; omega
  have hn1 : ¬ (t.length : Int) = 0 := by omega
  have HR := Lib.hid (pos_none t hn (by unfold PosOk; simp [h]))
  have hI : (19 : Int) < (t.length : Int) := by omega
  clear ht0 hn ht
  generalize t.getD 0 0 = b0 at *
  go_enter Tryd.func76, Tryd.ntmps76
  go_wp2
  go_ret2
  rw [HR.out]
  exact ⟨rfl, rfl⟩

set_option maxRecDepth 100000 in
set_option maxHeartbeats 4000000 in
theorem toInt_pos_zero (t : List UInt8) (w : World) (h : ¬ 19 < t.length) (hz : t.head? = some 48) (h1 : 1 < t.length) : Calls Tryd.prog 76 #[.string (str t)] w fun e w' => e = .returned (intV (toIntL t)) ∧ w = w' := by
  have hn : t.head? ≠ some 45 := by rw [hz]; simp
  have ht : t ≠ [] := by rintro rfl; simp at hz
  have hsz : (str t).size = t.length := rfl
  have hlen0 : 0 < t.length := List.length_pos_iff.2 ht
  have hlenI : (0 : Int) < (t.length : Int) := by omega
  have ht0 : t[0]? = some (t.getD 0 0) := by rw [List.getD_eq_getElem?_getD, List.getElem?_eq_getElem hlen0]; rfl
  have hq : ¬ ((t.getD 0 0).toNat : Int) = 45 := fun e => hn (by rw [List.head?_eq_getElem?, ht0]; congr 1; exact UInt8.toNat_inj.1 (by show (t.getD 0 0).toNat = 45; omega))
  have hq2 : (((t.getD 0 0).toNat : Int) == 45) = false := by simpa using hq
  have hj0 := fun W => idx_strs (P := Tryd.prog) t 0 _ ht0 W Tryd.underlying9
  simp only [Int.ofNat_eq_natCast, Int.cast_ofNat_Int] at hj0
  have hn0 : ((t.length : Int) == 0) = false := by rw [beq_eq_false_iff_ne]; omega
  have hn1 : ¬ (t.length : Int) = 0 := by omega
  have HR := Lib.hid (pos_none t hn (by unfold PosOk; simp [hz, h1]))
  have hI : ¬ (19 : Int) < (t.length : Int) := by omega
  have h1I : (1 : Int) < (t.length : Int) := by omega
  have hb : t.getD 0 0 = 48 := by
    rw [List.head?_eq_getElem?, ht0] at hz
    exact Option.some.inj hz
  rw [hb] at hj0
  have h48 : ((48 : UInt8).toNat : Int) = 48 := rfl
  rw [h48] at hj0
  clear ht0 hn ht hq hq2 hz hb h48
  go_enter Tryd.func76, Tryd.ntmps76
  go_wp2
  go_ret2
  rw [HR.out]
  exact ⟨rfl, rfl⟩

set_option maxRecDepth 100000 in
set_option maxHeartbeats 4000000 in
theorem toInt_pos_one (t : List UInt8) (w : World) (ht : t ≠ []) (hn : t.head? ≠ some 45) (hok : PosOk t) (hz : ¬ (t.getD 0 0).toNat = 48) : Calls Tryd.prog 76 #[.string (str t)] w fun e w' => e = .returned (intV (toIntL t)) ∧ w = w' := by
  have hsz : (str t).size = t.length := rfl
  have hlen0 : 0 < t.length := List.length_pos_iff.2 ht
  have hlenI : (0 : Int) < (t.length : Int) := by omega
  have ht0 : t[0]? = some (t.getD 0 0) := by rw [List.getD_eq_getElem?_getD, List.getElem?_eq_getElem hlen0]; rfl
  have hq : ¬ ((t.getD 0 0).toNat : Int) = 45 := fun e => hn (by rw [List.head?_eq_getElem?, ht0]; congr 1; exact UInt8.toNat_inj.1 (by show (t.getD 0 0).toNat = 45; omega))
  have hq2 : (((t.getD 0 0).toNat : Int) == 45) = false := by simpa using hq
  have hj0 := fun W => idx_strs (P := Tryd.prog) t 0 _ ht0 W Tryd.underlying9
  simp only [Int.ofNat_eq_natCast, Int.cast_ofNat_Int] at hj0
  have hn0 : ((t.length : Int) == 0) = false := by rw [beq_eq_false_iff_ne]; omega
  have hn1 : ¬ (t.length : Int) = 0 := by omega
  have hlen : t.length ≤ 19 := by
    unfold PosOk at hok
    simp only [not_or, Nat.not_lt] at hok
    exact hok.2.1
  have hne : ¬ ((t.getD 0 0).toNat : Int) = 48 := by omega
  have hne2 : (((t.getD 0 0).toNat : Int) == 48) = false := by simpa using hne
  have hI : ¬ (19 : Int) < (t.length : Int) := by omega
  have HOK := Lib.hid hok
  have HN0 := Lib.hid hn
  clear hok ht0 hn ht
  generalize t.getD 0 0 = b0 at *
  go_enter Tryd.func76, Tryd.ntmps76
  go_wp2
  go_loop [6, 7] (fun u i => ∃ k : Nat, k ≤ t.length ∧ i = .int .i64 k ∧ u = .int .u64 (valD (t.take k)) ∧ (t.take k).all isDig = true) (fun _ i => t.length - (intOf i).toNat)
  case atStart => exact ⟨0, by omega, rfl, rfl, rfl⟩
  case round =>
    obtain ⟨k, hk, rfl, rfl, ha⟩ := hrel
    have HA := Lib.hid ha
    clear ha
    have hvl := valD_le (t.take k) k (by rw [List.length_take]; omega) HA.out
    have hp19 := pow_19 k (by omega)
    by_cases hlt : k < t.length
    · have hg0 : t[k]? = some (t.getD k 0) := by rw [List.getD_eq_getElem?_getD, List.getElem?_eq_getElem hlt]; rfl
      have hi0 := fun W => idx_strs (P := Tryd.prog) t k _ hg0 W Tryd.underlying9
      have HV := Lib.hid (valD_take t k hlt)
      have HD := Lib.hid (isDig_take t k hlt)
      have HN := Lib.hid (isDig_no t k hlt)
      have hvl2 := fun h => valD_le (t.take (k + 1)) (k + 1) (by rw [List.length_take]; omega) h
      have hp20 := pow_19 (k + 1) (by omega)
      have HV2 := Lib.hid hvl2
      clear hg0 hvl2
      generalize t.getD k 0 = b at *
      have hbl := b.toNat_lt
      by_cases h48 : (b.toNat : Int) < 48
      · have HR := Lib.hid (pos_no t HN0.out HOK.out (HN.out (by unfold isDig; simp; omega)))
        clear HN HD HV
        go_wp2
        go_ret2
        rw [HR.out]
        exact ⟨rfl, rfl⟩
      · by_cases h57 : 57 < (b.toNat : Int)
        · have HR := Lib.hid (pos_no t HN0.out HOK.out (HN.out (by unfold isDig; simp; omega)))
          clear HN HD HV
          go_wp2
          go_ret2
          rw [HR.out]
          exact ⟨rfl, rfl⟩
        · have hd : isDig b = true := decide_eq_true (by omega)
          have HALL : Hid ((t.take (k + 1)).all isDig = true) := by rw [HD.out, HA.out, hd]; rfl
          have hv3 := HV2.out HALL.out
          rw [HV.out] at hv3
          have HV3 := Lib.hid HV.out
          clear HN HD HV HV2 hd
          have h48' : (48 : Int) ≤ (b.toNat : Int) := by omega
          generalize valD (t.take k) = u at *
          have hs1 : IntKind.u64.wrap (10 * (u : Int)) = 10 * (u : Int) := u64_in _ (by omega) (by omega)
          have hs2 : IntKind.u8.wrap ((b.toNat : Int) - 48) = (b.toNat : Int) - 48 := u8_in _ (by omega) (by omega)
          have hs3 : IntKind.u64.wrap ((b.toNat : Int) - 48) = (b.toNat : Int) - 48 := u64_in _ (by omega) (by omega)
          have hs4 : IntKind.u64.wrap (10 * (u : Int) + ((b.toNat : Int) - 48)) = 10 * (u : Int) + ((b.toNat : Int) - 48) := u64_in _ (by omega) (by omega)
          go_wp2
          go_round
          case rel => exact ⟨k + 1, by omega, by go_num, by rw [HV3.out]; congr 1; omega, HALL.out⟩
          case measure => simp [intOf]; omega
    · obtain rfl : k = t.length := by omega
      rw [List.take_length] at HA hvl ⊢
      by_cases hbig : 9223372036854775807 < valD t
      · have HR := Lib.hid (pos_big t HN0.out HOK.out HA.out hbig)
        have hbI : (9223372036854775807 : Int) < (valD t : Int) := by omega
        generalize valD t = u at *
        go_wp2
        go_ret2
        rw [HR.out]
        exact ⟨rfl, rfl⟩
      · have HR := Lib.hid (pos_ok t HN0.out HOK.out HA.out hbig)
        have hbI : ¬ (9223372036854775807 : Int) < (valD t : Int) := by omega
        generalize valD t = u at *
        have hng : IntKind.i64.wrap (u : Int) = u := IntWalk.i64_in _ (by omega)
        go_wp2
        go_ret2
        rw [HR.out]
        exact ⟨by first | rfl | (rw [hng]; rfl), rfl⟩

set_option maxRecDepth 100000 in
set_option maxHeartbeats 4000000 in
theorem toInt_pos_naught (t : List UInt8) (w : World) (ht : t ≠ []) (hn : t.head? ≠ some 45) (hok : PosOk t) (hz : (t.getD 0 0).toNat = 48) (h1 : ¬ 1 < t.length) : Calls Tryd.prog 76 #[.string (str t)] w fun e w' => e = .returned (intV (toIntL t)) ∧ w = w' := by
  have hsz : (str t).size = t.length := rfl
  have hlen0 : 0 < t.length := List.length_pos_iff.2 ht
  have hlenI : (0 : Int) < (t.length : Int) := by omega
  have ht0 : t[0]? = some (t.getD 0 0) := by rw [List.getD_eq_getElem?_getD, List.getElem?_eq_getElem hlen0]; rfl
  have hq : ¬ ((t.getD 0 0).toNat : Int) = 45 := fun e => hn (by rw [List.head?_eq_getElem?, ht0]; congr 1; exact UInt8.toNat_inj.1 (by show (t.getD 0 0).toNat = 45; omega))
  have hq2 : (((t.getD 0 0).toNat : Int) == 45) = false := by simpa using hq
  have hj0 := fun W => idx_strs (P := Tryd.prog) t 0 _ ht0 W Tryd.underlying9
  simp only [Int.ofNat_eq_natCast, Int.cast_ofNat_Int] at hj0
  have hn0 : ((t.length : Int) == 0) = false := by rw [beq_eq_false_iff_ne]; omega
  have hn1 : ¬ (t.length : Int) = 0 := by omega
  have hlen : t.length ≤ 19 := by
    unfold PosOk at hok
    simp only [not_or, Nat.not_lt] at hok
    exact hok.2.1
  have h1I : ¬ (1 : Int) < (t.length : Int) := by omega
  have hz48 : ((t.getD 0 0).toNat : Int) = 48 := by omega
  rw [hz48] at hj0
  clear hq hq2 hz hz48
  have hI : ¬ (19 : Int) < (t.length : Int) := by omega
  have HOK := Lib.hid hok
  have HN0 := Lib.hid hn
  clear hok ht0 hn ht
  generalize t.getD 0 0 = b0 at *
  go_enter Tryd.func76, Tryd.ntmps76
  go_wp2
  go_loop [6, 7] (fun u i => ∃ k : Nat, k ≤ t.length ∧ i = .int .i64 k ∧ u = .int .u64 (valD (t.take k)) ∧ (t.take k).all isDig = true) (fun _ i => t.length - (intOf i).toNat)
  case atStart => exact ⟨0, by omega, rfl, rfl, rfl⟩
  case round =>
    obtain ⟨k, hk, rfl, rfl, ha⟩ := hrel
    have HA := Lib.hid ha
    clear ha
    have hvl := valD_le (t.take k) k (by rw [List.length_take]; omega) HA.out
    have hp19 := pow_19 k (by omega)
    by_cases hlt : k < t.length
    · have hg0 : t[k]? = some (t.getD k 0) := by rw [List.getD_eq_getElem?_getD, List.getElem?_eq_getElem hlt]; rfl
      have hi0 := fun W => idx_strs (P := Tryd.prog) t k _ hg0 W Tryd.underlying9
      have HV := Lib.hid (valD_take t k hlt)
      have HD := Lib.hid (isDig_take t k hlt)
      have HN := Lib.hid (isDig_no t k hlt)
      have hvl2 := fun h => valD_le (t.take (k + 1)) (k + 1) (by rw [List.length_take]; omega) h
      have hp20 := pow_19 (k + 1) (by omega)
      have HV2 := Lib.hid hvl2
      clear hg0 hvl2
      generalize t.getD k 0 = b at *
      have hbl := b.toNat_lt
      by_cases h48 : (b.toNat : Int) < 48
      · have HR := Lib.hid (pos_no t HN0.out HOK.out (HN.out (by unfold isDig; simp; omega)))
        clear HN HD HV
        go_wp2
        go_ret2
        rw [HR.out]
        exact ⟨rfl, rfl⟩
      · by_cases h57 : 57 < (b.toNat : Int)
        · have HR := Lib.hid (pos_no t HN0.out HOK.out (HN.out (by unfold isDig; simp; omega)))
          clear HN HD HV
          go_wp2
          go_ret2
          rw [HR.out]
          exact ⟨rfl, rfl⟩
        · have hd : isDig b = true := decide_eq_true (by omega)
          have HALL : Hid ((t.take (k + 1)).all isDig = true) := by rw [HD.out, HA.out, hd]; rfl
          have hv3 := HV2.out HALL.out
          rw [HV.out] at hv3
          have HV3 := Lib.hid HV.out
          clear HN HD HV HV2 hd
          have h48' : (48 : Int) ≤ (b.toNat : Int) := by omega
          generalize valD (t.take k) = u at *
          have hs1 : IntKind.u64.wrap (10 * (u : Int)) = 10 * (u : Int) := u64_in _ (by omega) (by omega)
          have hs2 : IntKind.u8.wrap ((b.toNat : Int) - 48) = (b.toNat : Int) - 48 := u8_in _ (by omega) (by omega)
          have hs3 : IntKind.u64.wrap ((b.toNat : Int) - 48) = (b.toNat : Int) - 48 := u64_in _ (by omega) (by omega)
          have hs4 : IntKind.u64.wrap (10 * (u : Int) + ((b.toNat : Int) - 48)) = 10 * (u : Int) + ((b.toNat : Int) - 48) := u64_in _ (by omega) (by omega)
          go_wp2
          go_round
          case rel => exact ⟨k + 1, by omega, by go_num, by rw [HV3.out]; congr 1; omega, HALL.out⟩
          case measure => simp [intOf]; omega
    · obtain rfl : k = t.length := by omega
      rw [List.take_length] at HA hvl ⊢
      by_cases hbig : 9223372036854775807 < valD t
      · have HR := Lib.hid (pos_big t HN0.out HOK.out HA.out hbig)
        have hbI : (9223372036854775807 : Int) < (valD t : Int) := by omega
        generalize valD t = u at *
        go_wp2
        go_ret2
        rw [HR.out]
        exact ⟨rfl, rfl⟩
      · have HR := Lib.hid (pos_ok t HN0.out HOK.out HA.out hbig)
        have hbI : ¬ (9223372036854775807 : Int) < (valD t : Int) := by omega
        generalize valD t = u at *
        have hng : IntKind.i64.wrap (u : Int) = u := IntWalk.i64_in _ (by omega)
        go_wp2
        go_ret2
        rw [HR.out]
        exact ⟨by first | rfl | (rw [hng]; rfl), rfl⟩

theorem toInt76_calls (s : List UInt8) (w : World) (hs : s.length ≤ 100000000) : Calls Tryd.prog 76 #[.string (str s)] w fun e w' => e = .returned (intV (numL s)) ∧ w = w' := by
  rw [← toIntL_eq]
  by_cases hh : s.head? = some 45
  · obtain ⟨t, rfl⟩ : ∃ t, s = 45 :: t := by
      cases s with
      | nil => cases hh
      | cons c t => simp only [List.head?_cons, Option.some.injEq] at hh; exact ⟨t, by rw [hh]⟩
    simp only [List.length_cons] at hs
    by_cases h0 : t = []
    · subst h0; exact toInt_neg_nil w
    · by_cases h1 : 19 < t.length
      · exact toInt_neg_long t w h1 (by omega)
      · by_cases h2 : t.head? = some 48
        · exact toInt_neg_zero t w h1 h2
        · exact toInt_neg t w (by unfold NegOk; simp [h0, h1, h2])
  · by_cases h0 : s = []
    · subst h0; exact toInt_pos_nil w
    · by_cases h1 : 19 < s.length
      · exact toInt_pos_long s w h0 hh h1 hs
      · by_cases h2 : s.head? = some 48
        · by_cases h3 : 1 < s.length
          · exact toInt_pos_zero s w h1 h2 h3
          · have : s.getD 0 0 = 48 := by
              rw [List.head?_eq_getElem?] at h2
              rw [List.getD_eq_getElem?_getD, h2]; rfl
            exact toInt_pos_naught s w h0 hh (by unfold PosOk; simp [h0, h1, h3]) (by rw [this]; rfl) h3
        · have : ¬ (s.getD 0 0).toNat = 48 := fun e => h2 (by
            have hl := List.length_pos_iff.2 h0
            rw [List.head?_eq_getElem?, List.getElem?_eq_getElem hl]
            congr 1
            apply UInt8.toNat_inj.1
            rw [List.getD_eq_getElem?_getD, List.getElem?_eq_getElem hl] at e
            exact e)
          exact toInt_pos_one s w h0 hh (by unfold PosOk; simp [h0, h1, h2]) this
end Go.Proofs.YtfjfjjcdlgdbcaaDoor
