/- the texts D32, D33 of this proof, one behind the other -/
import Derived.Test.YtfjfjjcdlgdbcaaDoorF12
namespace Go.Proofs.YtfjfjjcdlgdbcaaDoor
open Go.RowKit
set_option linter.unusedSimpArgs false
set_option linter.unusedVariables false

theorem byte_16 (a : Nat) (ha : a < 16) : IntKind.u8.wrap (16 * (a : Int)) = ((UInt8.ofNat (16 * a)).toNat : Int) := by
  have : ∀ a : Fin 16, IntKind.u8.wrap (16 * (a.val : Int)) = ((UInt8.ofNat (16 * a.val)).toNat : Int) := by decide +kernel
  exact this ⟨a, ha⟩
/-- how far the digits are read -/
def UnhW (s : List UInt8) (wr : World) (B : Nat) (v i : Value) : Prop := ∃ (k : Nat) (out : List UInt8), unhexR (s.take (2 * k)) = some out ∧
  ((2 * k ≤ s.length ∧ i = .int .i64 (2 * (k : Int)) ∧ OwnB wr B v out) ∨
   (2 * k + 1 < s.length ∧ i = .int .i64 (2 * (k : Int) + 1) ∧ halfN (s.getD (2 * k) 0) < 16 ∧ OwnB wr B v (out ++ [UInt8.ofNat (16 * halfN (s.getD (2 * k) 0))])))

set_option maxRecDepth 100000 in
set_option maxHeartbeats 4000000 in
theorem unhex101_odd (s : List UInt8) (w : World) (h : s.length % 2 = 1) (hs : s.length ≤ 100000000) :
    Calls Tryd.prog 101 #[.string (str s)] w fun e w' => (∃ v, e = .returned (.tuple #[v, .bool (unhexW s).2]) ∧ OwnB w' w.heap.size v (unhexW s).1) ∧ Below w.heap.size w w' := by
  have hsz : (str s).size = s.length := rfl
  have hq : unhexW s = ([], false) := by unfold unhexW; rw [if_pos (.inl h)]
  rw [hq]
  have hm : (s.length : Int) % 2 = 1 := by omega
  go_enter Tryd.func101, Tryd.ntmps101
  go_wp2
  go_ret2
  exact ⟨⟨_, rfl, OwnB.nil _ _⟩, Below.refl _ _⟩

set_option maxRecDepth 100000 in
set_option maxHeartbeats 4000000 in
theorem unhex101_nil (w : World) :
    Calls Tryd.prog 101 #[.string (str [])] w fun e w' => (∃ v, e = .returned (.tuple #[v, .bool (unhexW []).2]) ∧ OwnB w' w.heap.size v (unhexW []).1) ∧ Below w.heap.size w w' := by
  have hsz : (str []).size = 0 := rfl
  have hq : unhexW [] = ([], false) := by unfold unhexW; rw [if_pos (.inr rfl)]
  rw [hq]
  go_enter Tryd.func101, Tryd.ntmps101
  go_wp2
  go_ret2
  exact ⟨⟨_, rfl, OwnB.nil _ _⟩, Below.refl _ _⟩

set_option maxRecDepth 100000 in
set_option maxHeartbeats 8000000 in
theorem unhex101_even (s : List UInt8) (w : World) (h : s.length % 2 = 0) (h0 : 0 < s.length) (hs : s.length ≤ 100000000) :
    Calls Tryd.prog 101 #[.string (str s)] w fun e w' => (∃ v, e = .returned (.tuple #[v, .bool (unhexW s).2]) ∧ OwnB w' w.heap.size v (unhexW s).1) ∧ Below w.heap.size w w' := by
  have hsz : (str s).size = s.length := rfl
  have hm : (s.length : Int) % 2 = 0 := by omega
  have h0q : ((s.length : Int) == 0) = false := by rw [beq_eq_false_iff_ne]; omega
  have h0p : ¬ (s.length : Int) = 0 := by omega
  have HE := Lib.hid h
  have H0 := Lib.hid h0
  clear h
  go_enter Tryd.func101, Tryd.ntmps101
  go_wp2
  clear hm h0q h0p h0
  go_loopw [4, 5] (fun v i wr => Below w.heap.size w wr ∧ UnhW s wr w.heap.size v i) (fun _ i _ => s.length + 2 - (intOf i).toNat)
  case atStart => exact ⟨Below.refl _ _, 0, [], rfl, .inl ⟨by omega, rfl, OwnB.nil _ _⟩⟩
  case round =>
    obtain ⟨hb, k, out, hu, hrel⟩ := hrel
    have hbs := hb.size
    have HB := Lib.hid hb
    have HU := Lib.hid hu
    clear hu hb
    rcases hrel with ⟨hk, rfl, ho⟩ | ⟨hk, rfl, hh, ho⟩
    · by_cases hlt : 2 * k < s.length
      · have hltI : (2 : Int) * (k : Int) < (s.length : Int) := by omega
        have hlt1 : 2 * k + 1 < s.length := by have := HE.out; omega
        have hm2 : (2 * (k : Int)) % 2 = 0 := by omega
        have hol := unhexR_len _ _ _ (Nat.le_refl _) HU.out
        rw [List.length_take] at hol
        have hg0 : s[2 * k]? = some (s.getD (2 * k) 0) := by rw [List.getD_eq_getElem?_getD, List.getElem?_eq_getElem hlt]; rfl
        have hi0 := fun W => idx_strs (P := Tryd.prog) s (2 * k) _ hg0 W Tryd.underlying9
        simp only [Int.natCast_mul, Int.cast_ofNat_Int] at hi0
        have HO := Lib.hid ho
        have hbad := Lib.hid (fun h => unhexW_bad s out k hlt1 HU.out (fun hh => absurd hh.1 h))
        clear hg0 ho
        have HH := Lib.hid (halfN_is (s.getD (2 * k) 0))
        generalize hcc : s.getD (2 * k) 0 = c at *
        have HCC := Lib.hid hcc
        clear hcc
        rcases HH.out with ⟨c1, c2, c3⟩ | ⟨c1, c2, c3⟩ | ⟨c1, c3⟩
        · obtain ⟨d, hd⟩ : ∃ d, c.toNat = 48 + d := ⟨c.toNat - 48, by omega⟩
          rw [hd, show 48 + d - 48 = d by omega] at c3
          rw [hd] at hi0
          have hd9 : (0 : Int) ≤ (d : Int) ∧ (d : Int) ≤ 9 := by omega
          have hc16 : halfN c < 16 := by omega
          have HC16 := Lib.hid hc16
          have hby : Hid (16 * (48 + (d : Int) - 48) = ((UInt8.ofNat (16 * d)).toNat : Int)) := by rw [toNat_ofNat' _ (by omega)]; show _ = _; omega
          have HC3 := Lib.hid c3
          simp only [Int.natCast_add, Int.cast_ofNat_Int] at hi0
          clear HH c1 c2 c3 hd hc16 hbad
          go_wp2_with (first | (at_builtin; refine wpList_appendB _ rfl (.tmp 58) (.tmp 62) rfl w.heap.size _ out [UInt8.ofNat (16 * d)] rfl _ _ _ rfl (HO.out.alloc _) (RdB.one _ _ _ _ hby.out) (by omega) (by simp; omega) ?_; intro v2 w3 ho3 hg3 hb3))
          go_roundw
          case rel =>
            exact ⟨(al HB.out _).trans hb3, k, out, HU.out, .inr ⟨hlt1, by go_num, by rw [HCC.out]; exact HC16.out, by rw [HCC.out, HC3.out]; exact ho3⟩⟩
          case measure => simp [intOf]; omega
        · obtain ⟨d, hd⟩ : ∃ d, c.toNat = 97 + d := ⟨c.toNat - 97, by omega⟩
          rw [hd, show 97 + d - 87 = d + 10 by omega] at c3
          rw [hd] at hi0
          have hd9 : (0 : Int) ≤ (d : Int) ∧ (d : Int) ≤ 5 := by omega
          have hc16 : halfN c < 16 := by omega
          have HC16 := Lib.hid hc16
          have hby : Hid (16 * (97 + (d : Int) - 97 + 10) = ((UInt8.ofNat (16 * (d + 10))).toNat : Int)) := by rw [toNat_ofNat' _ (by omega)]; show _ = _; omega
          have h97 : ¬ (97 : Int) + (d : Int) ≤ 57 := by omega
          have HC3 := Lib.hid c3
          simp only [Int.natCast_add, Int.cast_ofNat_Int] at hi0
          clear HH c1 c2 c3 hd hc16 hbad
          go_wp2_with (first | (at_builtin; refine wpList_appendB _ rfl (.tmp 58) (.tmp 62) rfl w.heap.size _ out [UInt8.ofNat (16 * (d + 10))] rfl _ _ _ rfl (HO.out.alloc _) (RdB.one _ _ _ _ hby.out) (by omega) (by simp; omega) ?_; intro v2 w3 ho3 hg3 hb3))
          go_roundw
          case rel =>
            exact ⟨(al HB.out _).trans hb3, k, out, HU.out, .inr ⟨hlt1, by go_num, by rw [HCC.out]; exact HC16.out, by rw [HCC.out, HC3.out]; exact ho3⟩⟩
          case measure => simp [intOf]; omega
        · have HQ := Lib.hid (hbad.out (by omega))
          rcases c1 with c1 | c1 | c1
          · have cI : (c.toNat : Int) < 48 := by omega
            have cN : ¬ (48 : Int) ≤ (c.toNat : Int) := by omega
            have cM : ¬ (97 : Int) ≤ (c.toNat : Int) := by omega
            clear HH c1 c3 hbad
            go_wp2
            go_ret2
            rw [HQ.out]
            exact ⟨⟨_, rfl, OwnB.nil _ _⟩, HB.out⟩
          · have cI : (57 : Int) < (c.toNat : Int) ∧ (c.toNat : Int) < 97 := by omega
            have cN : (48 : Int) ≤ (c.toNat : Int) ∧ ¬ (c.toNat : Int) ≤ 57 := by omega
            have cM : ¬ (97 : Int) ≤ (c.toNat : Int) := by omega
            clear HH c1 c3 hbad
            go_wp2
            go_ret2
            rw [HQ.out]
            exact ⟨⟨_, rfl, OwnB.nil _ _⟩, HB.out⟩
          · have cI : (102 : Int) < (c.toNat : Int) := by omega
            have cN : (48 : Int) ≤ (c.toNat : Int) ∧ ¬ (c.toNat : Int) ≤ 57 := by omega
            have cM : (97 : Int) ≤ (c.toNat : Int) ∧ ¬ (c.toNat : Int) ≤ 102 := by omega
            clear HH c1 c3 hbad
            go_wp2
            go_ret2
            rw [HQ.out]
            exact ⟨⟨_, rfl, OwnB.nil _ _⟩, HB.out⟩
      · have hltI : ¬ (2 : Int) * (k : Int) < (s.length : Int) := by omega
        have HQ := Lib.hid (unhexW_end s out HE.out H0.out k (by omega) HU.out)
        go_wp2
        go_ret2
        rw [HQ.out]
        exact ⟨⟨_, rfl, ho⟩, HB.out⟩
    · have hltI : (2 : Int) * (k : Int) + 1 < (s.length : Int) := by omega
      have hm2 : (2 * (k : Int) + 1) % 2 = 1 := by omega
      have hdv : (2 * (k : Int) + 1) / 2 = (k : Int) := by omega
      have hol := unhexR_size k _ _ (by rw [List.length_take]; omega) HU.out
      have hg0 : s[2 * k + 1]? = some (s.getD (2 * k + 1) 0) := by rw [List.getD_eq_getElem?_getD, List.getElem?_eq_getElem hk]; rfl
      have hi0 := fun W => idx_strs (P := Tryd.prog) s (2 * k + 1) _ hg0 W Tryd.underlying9
      simp only [Int.natCast_add, Int.natCast_mul, Int.cast_ofNat_Int] at hi0
      have hbad := Lib.hid (fun h => unhexW_bad s out k hk HU.out (fun hh => absurd hh.2 h))
      have hgood := Lib.hid (fun h => unhexR_good s out k hk HU.out ⟨hh, h⟩)
      have HHa := Lib.hid hh
      have HH := Lib.hid (halfN_is (s.getD (2 * k + 1) 0))
      obtain ⟨g, cap, rfl, hcap, hcm, hBg, hgl, hcell, hfr, hset⟩ := ho.last
      have hnone : ∀ j : Nat, (⟨g, 0 + j, none⟩ : Addr) = ⟨g, j, none⟩ := fun j => by rw [Nat.zero_add]
      have hki : (0 : Int) ≤ (k : Int) ∧ (k : Int) < (k : Int) + 1 := by omega
      rw [hol] at hcell hfr hset
      have HSET : Hid (∀ b v, v = bv b → OwnB (wr.setCell ⟨g, k, none⟩ v) w.heap.size (.slice (some ⟨g, 0, none⟩) (k + 1) cap) (out ++ [b])) := fun b v e => by rw [e]; exact hset b
      unfold bv at hcell
      generalize s.getD (2 * k) 0 = a at *
      generalize s.getD (2 * k + 1) 0 = c at *
      rw [toNat_ofNat' _ (by have := HHa.out; omega)] at hcell
      have hna : (0 : Int) ≤ (halfN a : Int) ∧ (halfN a : Int) < 16 := by have := HHa.out; omega
      simp only [Int.natCast_mul, Int.cast_ofNat_Int] at hcell
      clear hg0 ho hh hset
      rcases HH.out with ⟨c1, c2, c3⟩ | ⟨c1, c2, c3⟩ | ⟨c1, c3⟩
      · obtain ⟨d, hd⟩ : ∃ d, c.toNat = 48 + d := ⟨c.toNat - 48, by omega⟩
        rw [hd, show 48 + d - 48 = d by omega] at c3
        rw [hd] at hi0
        have hd9 : (0 : Int) ≤ (d : Int) ∧ (d : Int) ≤ 9 := by omega
        have HG := Lib.hid (hgood.out (by omega))
        rw [c3] at HG
        simp only [Int.natCast_add, Int.cast_ofNat_Int] at hi0
        clear HH c1 c2 c3 hd hbad hgood
        have hna2 : halfN a < 16 := HHa.out
        clear HHa
        generalize halfN a = na at *
        go_wp2
        go_roundw
        case rel =>
          refine ⟨HB.out.setCell (by show w.heap.size ≤ g; omega) _, k + 1, out ++ [UInt8.ofNat (16 * na + d)], HG.out, .inl ⟨by omega, by go_num, ?_⟩⟩
          try rw [hol]
          refine HSET.out _ _ ?_
          unfold bv
          rw [toNat_ofNat' _ (by omega)]
          congr 1
          omega
        case measure => simp [intOf]; omega
      · obtain ⟨d, hd⟩ : ∃ d, c.toNat = 97 + d := ⟨c.toNat - 97, by omega⟩
        rw [hd, show 97 + d - 87 = d + 10 by omega] at c3
        rw [hd] at hi0
        have hd9 : (0 : Int) ≤ (d : Int) ∧ (d : Int) ≤ 5 := by omega
        have HG := Lib.hid (hgood.out (by omega))
        have h97 : ¬ (97 : Int) + (d : Int) ≤ 57 := by omega
        rw [c3] at HG
        simp only [Int.natCast_add, Int.cast_ofNat_Int] at hi0
        clear HH c1 c2 c3 hd hbad hgood
        have hna2 : halfN a < 16 := HHa.out
        clear HHa
        generalize halfN a = na at *
        go_wp2
        go_roundw
        case rel =>
          refine ⟨HB.out.setCell (by show w.heap.size ≤ g; omega) _, k + 1, out ++ [UInt8.ofNat (16 * na + (d + 10))], HG.out, .inl ⟨by omega, by go_num, ?_⟩⟩
          try rw [hol]
          refine HSET.out _ _ ?_
          unfold bv
          rw [toNat_ofNat' _ (by omega)]
          congr 1
          omega
        case measure => simp [intOf]; omega
      · have HQ := Lib.hid (hbad.out (by omega))
        rcases c1 with c1 | c1 | c1
        · have cI : (c.toNat : Int) < 48 := by omega
          have cN : ¬ (48 : Int) ≤ (c.toNat : Int) := by omega
          have cM : ¬ (97 : Int) ≤ (c.toNat : Int) := by omega
          clear HH c1 c3 hbad hgood
          go_wp2
          go_ret2
          rw [HQ.out]
          exact ⟨⟨_, rfl, OwnB.nil _ _⟩, HB.out⟩
        · have cI : (57 : Int) < (c.toNat : Int) ∧ (c.toNat : Int) < 97 := by omega
          have cN : (48 : Int) ≤ (c.toNat : Int) ∧ ¬ (c.toNat : Int) ≤ 57 := by omega
          have cM : ¬ (97 : Int) ≤ (c.toNat : Int) := by omega
          clear HH c1 c3 hbad hgood
          go_wp2
          go_ret2
          rw [HQ.out]
          exact ⟨⟨_, rfl, OwnB.nil _ _⟩, HB.out⟩
        · have cI : (102 : Int) < (c.toNat : Int) := by omega
          have cN : (48 : Int) ≤ (c.toNat : Int) ∧ ¬ (c.toNat : Int) ≤ 57 := by omega
          have cM : (97 : Int) ≤ (c.toNat : Int) ∧ ¬ (c.toNat : Int) ≤ 102 := by omega
          clear HH c1 c3 hbad hgood
          go_wp2
          go_ret2
          rw [HQ.out]
          exact ⟨⟨_, rfl, OwnB.nil _ _⟩, HB.out⟩
theorem unhex101_calls (s : List UInt8) (w : World) (hs : s.length ≤ 100000000) :
    Calls Tryd.prog 101 #[.string (str s)] w fun e w' => (∃ v, e = .returned (.tuple #[v, .bool (unhexW s).2]) ∧ OwnB w' w.heap.size v (unhexW s).1) ∧ Below w.heap.size w w' := by
  rcases Nat.mod_two_eq_zero_or_one s.length with h | h
  · rcases Nat.eq_zero_or_pos s.length with h0 | h0
    · obtain rfl := List.eq_nil_of_length_eq_zero h0
      exact unhex101_nil w
    · exact unhex101_even s w h h0 hs
  · exact unhex101_odd s w h hs
end Go.Proofs.YtfjfjjcdlgdbcaaDoor
namespace Go.Proofs.YtfjfjjcdlgdbcaaDoor
open Go.RowKit
set_option linter.unusedSimpArgs false
set_option linter.unusedVariables false

set_option maxRecDepth 100000 in
set_option maxHeartbeats 4000000 in
theorem undec102_a (s : List UInt8) (w : World) (h : s.length = 0) :
    Calls Tryd.prog 102 #[.string (str s)] w (UndecEnd w s) := by
  have hno : Hid (undecL s = none) := by have h1 := List.eq_nil_of_length_eq_zero h; rw [h1]; exact undec_nil
  have hT := Lib.hid Tryd.agg61d
  have N0 := Blk.new w 61 (bvs z32w).toArray
  have N1 := Blk.new (w.alloc (.cells (bvs z32w).toArray 61)) 61 (bvs z32w).toArray
  obtain ⟨wA, hwA⟩ : ∃ wA, wA = (w.alloc (.cells (bvs z32w).toArray 61)).alloc (.cells (bvs z32w).toArray 61) := ⟨_, rfl⟩
  have hA : Hid (Below w.heap.size w wA) := by rw [hwA]; exact al (al (Below.refl _ _) _) _
  have hB0 : Hid (Blk wA w.heap.size 61 (bvs z32w).toArray) := by rw [hwA]; exact N0.alloc _
  have hB1 : Hid (Blk wA (w.heap.size + 1) 61 (bvs z32w).toArray) := by rw [hwA]; rw [World.size_alloc] at N1; exact N1
  rw [z32lit] at hwA
  have hszx : (str s).size = s.length := rfl
  clear N0 N1
  have h0q : (s.length : Int) = 0 := by omega
  have HZL : Hid (z32w.length = 32) := rfl
  go_enter Tryd.func102, Tryd.ntmps102
  go_upto_region 2 with (fail)
  rw [← hwA]
  clear hwA
  have hT2 : Hid (AggT Tryd.prog 61 (bvs z32w).toArray.size) := by rw [List.size_toArray, bvs_length, HZL.out]; exact hT.out
  have hTL : Hid (AggT Tryd.prog 61 (bvs z32w).length) := by rw [bvs_length, HZL.out]; exact hT.out
  have hs32 : Hid ((bvs z32w).toArray.size = 32) := by rw [List.size_toArray, bvs_length, HZL.out]; trivial
  go_wp2_with (first | (refine wpList_loadAgg rfl 61 (.tmp 4) rfl (w.heap.size + 1) 0 rfl (bvs z32w) hTL.out (cellsAt_blk hB1.out) ?_) | (refine wpList_storeAgg rfl rfl 61 _ _ rfl w.heap.size 0 rfl (bvs z32w).toArray rfl hT2.out (hB0.out.room 0 _ (by rw [hs32.out] <;> decide)) (oneCell_bvs _) ?_))
  have hfb := hB0.out.setCells (bvs z32w).toArray.toList 0 (by rw [Array.length_toList, hs32.out] <;> decide)
  rw [ovw_all _ _ (by rw [Array.length_toList, hs32.out] <;> decide)] at hfb
  exact bodyPost_ret (results_agg_tmp rfl _ _ w.heap.size (bvs z32w).toArray rfl hT2.out (cellsAt_blk hfb)) rfl ⟨below_setCells hA.out _ _ _ (Nat.le_refl _), .inl ⟨hno.out, z32w, HZL.out, rfl⟩⟩
set_option maxRecDepth 100000 in
set_option maxHeartbeats 4000000 in
theorem undec102_b (s : List UInt8) (w : World) (h : 78 < s.length) (hs : s.length ≤ 100000000) :
    Calls Tryd.prog 102 #[.string (str s)] w (UndecEnd w s) := by
  have hno : Hid (undecL s = none) := undec_long s h
  have hT := Lib.hid Tryd.agg61d
  have N0 := Blk.new w 61 (bvs z32w).toArray
  have N1 := Blk.new (w.alloc (.cells (bvs z32w).toArray 61)) 61 (bvs z32w).toArray
  obtain ⟨wA, hwA⟩ : ∃ wA, wA = (w.alloc (.cells (bvs z32w).toArray 61)).alloc (.cells (bvs z32w).toArray 61) := ⟨_, rfl⟩
  have hA : Hid (Below w.heap.size w wA) := by rw [hwA]; exact al (al (Below.refl _ _) _) _
  have hB0 : Hid (Blk wA w.heap.size 61 (bvs z32w).toArray) := by rw [hwA]; exact N0.alloc _
  have hB1 : Hid (Blk wA (w.heap.size + 1) 61 (bvs z32w).toArray) := by rw [hwA]; rw [World.size_alloc] at N1; exact N1
  rw [z32lit] at hwA
  have hszx : (str s).size = s.length := rfl
  clear N0 N1
  have h0q : ((s.length : Int) == 0) = false := by rw [beq_eq_false_iff_ne]; omega
  have h0p : ¬ (s.length : Int) = 0 := by omega
  have h0n : ¬ s.length = 0 := by omega
  have h78 : (78 : Int) < (s.length : Int) := by omega
  have HZL : Hid (z32w.length = 32) := rfl
  go_enter Tryd.func102, Tryd.ntmps102
  go_upto_region 2 with (fail)
  rw [← hwA]
  clear hwA
  have hT2 : Hid (AggT Tryd.prog 61 (bvs z32w).toArray.size) := by rw [List.size_toArray, bvs_length, HZL.out]; exact hT.out
  have hTL : Hid (AggT Tryd.prog 61 (bvs z32w).length) := by rw [bvs_length, HZL.out]; exact hT.out
  have hs32 : Hid ((bvs z32w).toArray.size = 32) := by rw [List.size_toArray, bvs_length, HZL.out]; trivial
  go_wp2_with (first | (refine wpList_loadAgg rfl 61 (.tmp 4) rfl (w.heap.size + 1) 0 rfl (bvs z32w) hTL.out (cellsAt_blk hB1.out) ?_) | (refine wpList_storeAgg rfl rfl 61 _ _ rfl w.heap.size 0 rfl (bvs z32w).toArray rfl hT2.out (hB0.out.room 0 _ (by rw [hs32.out] <;> decide)) (oneCell_bvs _) ?_))
  have hfb := hB0.out.setCells (bvs z32w).toArray.toList 0 (by rw [Array.length_toList, hs32.out] <;> decide)
  rw [ovw_all _ _ (by rw [Array.length_toList, hs32.out] <;> decide)] at hfb
  exact bodyPost_ret (results_agg_tmp rfl _ _ w.heap.size (bvs z32w).toArray rfl hT2.out (cellsAt_blk hfb)) rfl ⟨below_setCells hA.out _ _ _ (Nat.le_refl _), .inl ⟨hno.out, z32w, HZL.out, rfl⟩⟩
set_option maxRecDepth 100000 in
set_option maxHeartbeats 4000000 in
theorem undec102_c (s : List UInt8) (w : World) (hg : s[0]? = some 48) (h : 1 < s.length) (hs : s.length ≤ 78) :
    Calls Tryd.prog 102 #[.string (str s)] w (UndecEnd w s) := by
  have hno : Hid (undecL s = none) := undec_lead s (by rw [List.head?_eq_getElem?]; exact hg) h
  have hT := Lib.hid Tryd.agg61d
  have N0 := Blk.new w 61 (bvs z32w).toArray
  have N1 := Blk.new (w.alloc (.cells (bvs z32w).toArray 61)) 61 (bvs z32w).toArray
  obtain ⟨wA, hwA⟩ : ∃ wA, wA = (w.alloc (.cells (bvs z32w).toArray 61)).alloc (.cells (bvs z32w).toArray 61) := ⟨_, rfl⟩
  have hA : Hid (Below w.heap.size w wA) := by rw [hwA]; exact al (al (Below.refl _ _) _) _
  have hB0 : Hid (Blk wA w.heap.size 61 (bvs z32w).toArray) := by rw [hwA]; exact N0.alloc _
  have hB1 : Hid (Blk wA (w.heap.size + 1) 61 (bvs z32w).toArray) := by rw [hwA]; rw [World.size_alloc] at N1; exact N1
  rw [z32lit] at hwA
  have hszx : (str s).size = s.length := rfl
  clear N0 N1
  have h0q : ((s.length : Int) == 0) = false := by rw [beq_eq_false_iff_ne]; omega
  have h0p : ¬ (s.length : Int) = 0 := by omega
  have h0n : ¬ s.length = 0 := by omega
  have h48 : ((48 : UInt8).toNat : Int) = 48 := rfl
  have hi00 := fun W => idx_strs (P := Tryd.prog) s 0 48 hg W Tryd.underlying9
  rw [h48] at hi00
  simp only [Int.ofNat_eq_natCast, Int.cast_ofNat_Int] at hi00
  clear h48
  have hposI : (0 : Int) < (s.length : Int) := by omega
  have hn78 : ¬ (78 : Int) < (s.length : Int) := by omega
  have h1I : (1 : Int) < (s.length : Int) := by omega
  have HZL : Hid (z32w.length = 32) := rfl
  go_enter Tryd.func102, Tryd.ntmps102
  go_upto_region 2 with (fail)
  rw [← hwA]
  clear hwA
  have hT2 : Hid (AggT Tryd.prog 61 (bvs z32w).toArray.size) := by rw [List.size_toArray, bvs_length, HZL.out]; exact hT.out
  have hTL : Hid (AggT Tryd.prog 61 (bvs z32w).length) := by rw [bvs_length, HZL.out]; exact hT.out
  have hs32 : Hid ((bvs z32w).toArray.size = 32) := by rw [List.size_toArray, bvs_length, HZL.out]; trivial
  go_wp2_with (first | (refine wpList_loadAgg rfl 61 (.tmp 4) rfl (w.heap.size + 1) 0 rfl (bvs z32w) hTL.out (cellsAt_blk hB1.out) ?_) | (refine wpList_storeAgg rfl rfl 61 _ _ rfl w.heap.size 0 rfl (bvs z32w).toArray rfl hT2.out (hB0.out.room 0 _ (by rw [hs32.out] <;> decide)) (oneCell_bvs _) ?_))
  have hfb := hB0.out.setCells (bvs z32w).toArray.toList 0 (by rw [Array.length_toList, hs32.out] <;> decide)
  rw [ovw_all _ _ (by rw [Array.length_toList, hs32.out] <;> decide)] at hfb
  exact bodyPost_ret (results_agg_tmp rfl _ _ w.heap.size (bvs z32w).toArray rfl hT2.out (cellsAt_blk hfb)) rfl ⟨below_setCells hA.out _ _ _ (Nat.le_refl _), .inl ⟨hno.out, z32w, HZL.out, rfl⟩⟩
set_option maxRecDepth 100000 in
set_option maxHeartbeats 8000000 in
theorem undec102_d (s : List UInt8) (w : World) (hg : s[0]? = some 48) (h0 : 0 < s.length) (h : ¬ 1 < s.length) :
    Calls Tryd.prog 102 #[.string (str s)] w (UndecEnd w s) := by
  have hok : Hid (s.all isDig = true → decN s < top256 → undecL s = some (decN s)) := fun h1 h2 => undec_ok s (by intro e; rw [e] at h0; exact absurd h0 (by decide)) h1 (by
    right
    obtain ⟨b, rfl⟩ := List.length_eq_one_iff.1 (show s.length = 1 by omega)
    simpa using hg) h2
  have hT := Lib.hid Tryd.agg61d
  have N0 := Blk.new w 61 (bvs z32w).toArray
  have N1 := Blk.new (w.alloc (.cells (bvs z32w).toArray 61)) 61 (bvs z32w).toArray
  obtain ⟨wA, hwA⟩ : ∃ wA, wA = (w.alloc (.cells (bvs z32w).toArray 61)).alloc (.cells (bvs z32w).toArray 61) := ⟨_, rfl⟩
  have hA : Hid (Below w.heap.size w wA) := by rw [hwA]; exact al (al (Below.refl _ _) _) _
  have hB0 : Hid (Blk wA w.heap.size 61 (bvs z32w).toArray) := by rw [hwA]; exact N0.alloc _
  have hB1 : Hid (Blk wA (w.heap.size + 1) 61 (bvs z32w).toArray) := by rw [hwA]; rw [World.size_alloc] at N1; exact N1
  rw [z32lit] at hwA
  have hszx : (str s).size = s.length := rfl
  clear N0 N1
  have h0q : ((s.length : Int) == 0) = false := by rw [beq_eq_false_iff_ne]; omega
  have h0p : ¬ (s.length : Int) = 0 := by omega
  have h0n : ¬ s.length = 0 := by omega
  have h48 : ((48 : UInt8).toNat : Int) = 48 := rfl
  have hi00 := fun W => idx_strs (P := Tryd.prog) s 0 48 hg W Tryd.underlying9
  rw [h48] at hi00
  simp only [Int.ofNat_eq_natCast, Int.cast_ofNat_Int] at hi00
  clear h48
  have hposI : (0 : Int) < (s.length : Int) := by omega
  have hn78 : ¬ (78 : Int) < (s.length : Int) := by omega
  have h1I : ¬ (1 : Int) < (s.length : Int) := by omega
  have hsn : s.length ≤ 78 := by omega
  go_enter Tryd.func102, Tryd.ntmps102
  go_upto_region 2 with (fail)
  rw [← hwA]
  clear hwA
  go_wp2
  go_loopw [5] (fun i wr => ∃ k : Nat, k ≤ s.length ∧ i = .int .i64 (k : Int) ∧ (s.take k).all isDig = true ∧ decN (s.take k) < top256 ∧ Blk wr (w.heap.size + 1) 61 (bvs (beL (decN (s.take k)) 32)).toArray ∧ Blk wr w.heap.size 61 (bvs z32w).toArray ∧ Below w.heap.size w wr) (fun i _ => s.length - (intOf i).toNat)
  case atStart => exact ⟨0, by omega, rfl, rfl, Nat.pow_pos (by decide), by rw [show decN (s.take 0) = 0 from rfl, beL_zero]; exact hB1.out, hB0.out, hA.out⟩
  case round =>
    obtain ⟨k, hk, rfl, hall, htop, hB, hR, hb⟩ := hrel
    obtain ⟨wo, rfl⟩ : ∃ wo : World, wo = wr := ⟨_, rfl⟩
    have HB := Lib.hid hB
    have HR := Lib.hid hR
    have HBW := Lib.hid hb
    have HTOP := Lib.hid htop
    have HALL := Lib.hid hall
    have hbs := hb.size
    clear hB hR hb htop hall hB0 hB1 hA
    by_cases hlt : k < s.length
    · have hltI : (k : Int) < (s.length : Int) := by omega
      have hg0 : s[k]? = some (s.getD k 0) := by rw [List.getD_eq_getElem?_getD, List.getElem?_eq_getElem hlt]; rfl
      have hi0 := fun W => idx_strs (P := Tryd.prog) s k _ hg0 W Tryd.underlying9
      clear hg0
      cases hd : isDig (s.getD k 0) with
      | false =>
        have hno := Lib.hid (undecL_bad s k hlt hd)
        have hbad : ¬ (48 ≤ (s.getD k 0).toNat ∧ (s.getD k 0).toNat ≤ 57) := of_decide_eq_false hd
        have HDE := Lib.hid (beL_length (decN (s.take k)) 32)
        clear hd
        generalize beL (decN (s.take k)) 32 = bs at *
        generalize s.getD k 0 = c at *
        rcases Nat.lt_or_ge c.toNat 48 with hb1 | hb1
        · have cI : (c.toNat : Int) < 48 := by omega
          clear hbad
          have hT2 : Hid (AggT Tryd.prog 61 (bvs bs).toArray.size) := by rw [List.size_toArray, bvs_length, HDE.out]; exact hT.out
          have hTL : Hid (AggT Tryd.prog 61 (bvs bs).length) := by rw [bvs_length, HDE.out]; exact hT.out
          have hs32 : Hid ((bvs bs).toArray.size = 32) := by rw [List.size_toArray, bvs_length, HDE.out]; trivial
          go_wp2_with (first | (refine wpList_loadAgg rfl 61 (.tmp 4) rfl (w.heap.size + 1) 0 rfl (bvs bs) hTL.out (cellsAt_blk HB.out) ?_) | (refine wpList_storeAgg rfl rfl 61 _ _ rfl w.heap.size 0 rfl (bvs bs).toArray rfl hT2.out (HR.out.room 0 _ (by rw [hs32.out] <;> decide)) (oneCell_bvs _) ?_))
          have hfb := HR.out.setCells (bvs bs).toArray.toList 0 (by rw [Array.length_toList, hs32.out] <;> decide)
          rw [ovw_all _ _ (by rw [Array.length_toList, hs32.out] <;> decide)] at hfb
          exact bodyPost_ret (results_agg_tmp rfl _ _ w.heap.size (bvs bs).toArray rfl hT2.out (cellsAt_blk hfb)) rfl ⟨below_setCells HBW.out _ _ _ (Nat.le_refl _), .inl ⟨hno.out, bs, HDE.out, rfl⟩⟩
        · have cI : ¬ (c.toNat : Int) < 48 := by omega
          have cJ : (57 : Int) < (c.toNat : Int) := by omega
          clear hbad
          have hT2 : Hid (AggT Tryd.prog 61 (bvs bs).toArray.size) := by rw [List.size_toArray, bvs_length, HDE.out]; exact hT.out
          have hTL : Hid (AggT Tryd.prog 61 (bvs bs).length) := by rw [bvs_length, HDE.out]; exact hT.out
          have hs32 : Hid ((bvs bs).toArray.size = 32) := by rw [List.size_toArray, bvs_length, HDE.out]; trivial
          go_wp2_with (first | (refine wpList_loadAgg rfl 61 (.tmp 4) rfl (w.heap.size + 1) 0 rfl (bvs bs) hTL.out (cellsAt_blk HB.out) ?_) | (refine wpList_storeAgg rfl rfl 61 _ _ rfl w.heap.size 0 rfl (bvs bs).toArray rfl hT2.out (HR.out.room 0 _ (by rw [hs32.out] <;> decide)) (oneCell_bvs _) ?_))
          have hfb := HR.out.setCells (bvs bs).toArray.toList 0 (by rw [Array.length_toList, hs32.out] <;> decide)
          rw [ovw_all _ _ (by rw [Array.length_toList, hs32.out] <;> decide)] at hfb
          exact bodyPost_ret (results_agg_tmp rfl _ _ w.heap.size (bvs bs).toArray rfl hT2.out (cellsAt_blk hfb)) rfl ⟨below_setCells HBW.out _ _ _ (Nat.le_refl _), .inl ⟨hno.out, bs, HDE.out, rfl⟩⟩
      | true =>
        have hdg : 48 ≤ (s.getD k 0).toNat ∧ (s.getD k 0).toNat ≤ 57 := of_decide_eq_true hd
        have hsu := Lib.hid (decN_succ s k hlt)
        have hgr := Lib.hid (fun h => undecL_great s (k + 1) h)
        have hal2 : Hid ((s.take (k + 1)).all isDig = true) := by
          rw [take_snoc' s k hlt, List.all_append, HALL.out, List.all_cons, hd]
          rfl
        clear hd
        obtain ⟨c, hc⟩ : ∃ c, (s.getD k 0).toNat = 48 + c := ⟨(s.getD k 0).toNat - 48, by omega⟩
        rw [hc] at hsu hdg hi0
        rw [show 48 + c - 48 = c by omega] at hsu
        simp only [Int.natCast_add, Int.cast_ofNat_Int] at hi0
        clear hc
        have hc9 : c ≤ 9 := by omega
        have hcI : (0 : Int) ≤ (c : Int) ∧ (c : Int) ≤ 9 := by omega
        generalize decN (s.take k) = n at *
        go_wp2
        go_loopw [6, 7] (fun r i wi => ∃ j : Nat, j ≤ 32 ∧ i = .int .i64 (31 - (j : Int)) ∧ r = .int .i64 (cr n c j : Int) ∧ Blk wi (w.heap.size + 1) 61 (bvs (mixR n (n * 10 + c) j)).toArray ∧ Blk wi w.heap.size 61 (bvs z32w).toArray ∧ Below w.heap.size w wi) (fun _ i _ => (intOf i + 1).toNat)
        case atStart => exact ⟨0, by omega, rfl, by rw [cr_zero]; first | rfl | (congr 1; omega), by rw [mixR_zero]; exact HB.out, HR.out, HBW.out⟩
        case round =>
          obtain ⟨j, hj, rfl, rfl, hBi, hRi, hbi⟩ := hrel
          obtain ⟨wi, rfl⟩ : ∃ wi : World, wi = wr := ⟨_, rfl⟩
          have HBi := Lib.hid hBi
          have HRi := Lib.hid hRi
          have HWi := Lib.hid hbi
          have hcr := cr_le n c j hc9
          clear hRi hbi
          by_cases hjl : j < 32
          · obtain ⟨p, hp⟩ : ∃ p, p + j = 31 := ⟨31 - j, by omega⟩
            have hij : (31 : Int) - (j : Int) = (p : Int) := by omega
            have hmg := mixR_get n (n * 10 + c) j hjl
            have hms := Lib.hid (mixR_set n (n * 10 + c) j hjl)
            rw [show 31 - j = p by omega] at hmg hms
            have hcell : wi.cell? ⟨w.heap.size + 1, p, none⟩ = some (bv (UInt8.ofNat (n / 256 ^ j % 256))) := by rw [hBi.cell, List.getElem?_toArray]; exact bvs_get hmg
            have hfz := hBi.frozen p
            have hset : Hid (∀ v, v = bv (UInt8.ofNat ((n * 10 + c) / 256 ^ j % 256)) → Blk (wi.setCell ⟨w.heap.size + 1, p, none⟩ v) (w.heap.size + 1) 61 (bvs (mixR n (n * 10 + c) (j + 1))).toArray) := fun v hv => by
              have h1 := HBi.out.set_ p (bv (UInt8.ofNat ((n * 10 + c) / 256 ^ j % 256)))
              rw [bvs_set, hms.out] at h1
              rw [hv]; exact h1
            have hsu2 := Lib.hid (cr_succ n c j)
            have hby := Lib.hid (cr_byte n c j)
            have hd256 : n / 256 ^ j % 256 < 256 := Nat.mod_lt _ (by decide)
            rw [byte_ofNat _ hd256] at hcell
            clear hBi hmg
            generalize n / 256 ^ j % 256 = d at *
            generalize cr n c j = r at *
            have hdI : (0 : Int) ≤ (d : Int) ∧ (d : Int) < 256 := by omega
            have hrI : (0 : Int) ≤ (r : Int) ∧ (r : Int) ≤ 9 := by omega
            have hpI : (0 : Int) ≤ (p : Int) ∧ (p : Int) < 32 := by omega
            have htp : ((p : Int)).toNat = p := by omega
            rw [hij]
            go_wp2
            refine ⟨⟨j + 1, by omega, by congr 1; omega, by rw [← hsu2.out]; first | rfl | (congr 1; omega), hset.out _ (by rw [← hby.out, byte_ofNat _ (Nat.mod_lt _ (by decide))]; first | rfl | (congr 1; omega)), HRi.out.far (by show w.heap.size ≠ w.heap.size + 1; omega) _, HWi.out.setCell (by show w.heap.size ≤ w.heap.size + 1; omega) _⟩, by simp [intOf] <;> omega⟩
          · obtain rfl : j = 32 := by omega
            have hcd := cr_done n c HTOP.out
            rw [mixR_all] at hBi HBi
            rw [show (31 : Int) - ((32 : Nat) : Int) = -1 by rfl]
            by_cases hr : 0 < cr n c 32
            · have hno : Hid (undecL s = none) := hgr.out (by rw [hsu.out]; exact hcd.1 hr)
              have hrI : (0 : Int) < (cr n c 32 : Int) := by omega
              have HDE := Lib.hid (beL_length (n * 10 + c) 32)
              clear hBi hcd hcr hgr
              generalize cr n c 32 = r at *
              generalize beL (n * 10 + c) 32 = bs at *
              have hT2 : Hid (AggT Tryd.prog 61 (bvs bs).toArray.size) := by rw [List.size_toArray, bvs_length, HDE.out]; exact hT.out
              have hTL : Hid (AggT Tryd.prog 61 (bvs bs).length) := by rw [bvs_length, HDE.out]; exact hT.out
              have hs32 : Hid ((bvs bs).toArray.size = 32) := by rw [List.size_toArray, bvs_length, HDE.out]; trivial
              go_wp2_with (first | (refine wpList_loadAgg rfl 61 (.tmp 4) rfl (w.heap.size + 1) 0 rfl (bvs bs) hTL.out (cellsAt_blk HBi.out) ?_) | (refine wpList_storeAgg rfl rfl 61 _ _ rfl w.heap.size 0 rfl (bvs bs).toArray rfl hT2.out (HRi.out.room 0 _ (by rw [hs32.out] <;> decide)) (oneCell_bvs _) ?_))
              have hfb := HRi.out.setCells (bvs bs).toArray.toList 0 (by rw [Array.length_toList, hs32.out] <;> decide)
              rw [ovw_all _ _ (by rw [Array.length_toList, hs32.out] <;> decide)] at hfb
              exact bodyPost_ret (results_agg_tmp rfl _ _ w.heap.size (bvs bs).toArray rfl hT2.out (cellsAt_blk hfb)) rfl ⟨below_setCells HWi.out _ _ _ (Nat.le_refl _), .inl ⟨hno.out, bs, HDE.out, rfl⟩⟩
            · have hr0 : cr n c 32 = 0 := by omega
              have hlo : n * 10 + c < top256 := by rcases Nat.lt_or_ge (n * 10 + c) top256 with h | h; · exact h
                                                   · exact absurd (hcd.2 h) hr
              have HLO := Lib.hid hlo
              rw [hr0]
              clear hBi hcd hcr hgr hr hr0 hlo
              go_wp2
              go_roundw
              case rel => exact ⟨k + 1, by omega, by go_num, hal2.out, by rw [hsu.out]; exact HLO.out, by rw [hsu.out]; exact HBi.out, HRi.out, HWi.out⟩
              case measure => simp [intOf]; omega
    · obtain rfl : k = s.length := by omega
      rw [List.take_length] at HB HTOP HALL
      have hul := Lib.hid (hok.out HALL.out HTOP.out)
      have HDE := Lib.hid (beL_length (decN s) 32)
      generalize hbe : beL (decN s) 32 = bs at *
      have HBE := Lib.hid hbe
      clear hbe
      have hT2 : Hid (AggT Tryd.prog 61 (bvs bs).toArray.size) := by rw [List.size_toArray, bvs_length, HDE.out]; exact hT.out
      have hTL : Hid (AggT Tryd.prog 61 (bvs bs).length) := by rw [bvs_length, HDE.out]; exact hT.out
      have hs32 : Hid ((bvs bs).toArray.size = 32) := by rw [List.size_toArray, bvs_length, HDE.out]; trivial
      go_wp2_with (first | (refine wpList_loadAgg rfl 61 (.tmp 4) rfl (w.heap.size + 1) 0 rfl (bvs bs) hTL.out (cellsAt_blk HB.out) ?_) | (refine wpList_storeAgg rfl rfl 61 _ _ rfl w.heap.size 0 rfl (bvs bs).toArray rfl hT2.out (HR.out.room 0 _ (by rw [hs32.out] <;> decide)) (oneCell_bvs _) ?_))
      have hfb := HR.out.setCells (bvs bs).toArray.toList 0 (by rw [Array.length_toList, hs32.out] <;> decide)
      rw [ovw_all _ _ (by rw [Array.length_toList, hs32.out] <;> decide)] at hfb
      exact bodyPost_ret (results_agg_tmp rfl _ _ w.heap.size (bvs bs).toArray rfl hT2.out (cellsAt_blk hfb)) rfl ⟨below_setCells HBW.out _ _ _ (Nat.le_refl _), .inr ⟨_, hul.out, by rw [HBE.out]; rfl⟩⟩
set_option maxRecDepth 100000 in
set_option maxHeartbeats 8000000 in
theorem undec102_e (s : List UInt8) (w : World) (b : UInt8) (hg : s[0]? = some b) (hb48 : b ≠ 48) (h0 : 0 < s.length) (hs : s.length ≤ 78) :
    Calls Tryd.prog 102 #[.string (str s)] w (UndecEnd w s) := by
  have hok : Hid (s.all isDig = true → decN s < top256 → undecL s = some (decN s)) := fun h1 h2 => undec_ok s (by intro e; rw [e] at h0; exact absurd h0 (by decide)) h1 (by
    left
    rw [List.head?_eq_getElem?, hg]
    simpa using hb48) h2
  have hT := Lib.hid Tryd.agg61d
  have N0 := Blk.new w 61 (bvs z32w).toArray
  have N1 := Blk.new (w.alloc (.cells (bvs z32w).toArray 61)) 61 (bvs z32w).toArray
  obtain ⟨wA, hwA⟩ : ∃ wA, wA = (w.alloc (.cells (bvs z32w).toArray 61)).alloc (.cells (bvs z32w).toArray 61) := ⟨_, rfl⟩
  have hA : Hid (Below w.heap.size w wA) := by rw [hwA]; exact al (al (Below.refl _ _) _) _
  have hB0 : Hid (Blk wA w.heap.size 61 (bvs z32w).toArray) := by rw [hwA]; exact N0.alloc _
  have hB1 : Hid (Blk wA (w.heap.size + 1) 61 (bvs z32w).toArray) := by rw [hwA]; rw [World.size_alloc] at N1; exact N1
  rw [z32lit] at hwA
  have hszx : (str s).size = s.length := rfl
  clear N0 N1
  have h0q : ((s.length : Int) == 0) = false := by rw [beq_eq_false_iff_ne]; omega
  have h0p : ¬ (s.length : Int) = 0 := by omega
  have h0n : ¬ s.length = 0 := by omega
  have hi00 := fun W => idx_strs (P := Tryd.prog) s 0 b hg W Tryd.underlying9
  simp only [Int.ofNat_eq_natCast, Int.cast_ofNat_Int] at hi00
  have hposI : (0 : Int) < (s.length : Int) := by omega
  have hn78 : ¬ (78 : Int) < (s.length : Int) := by omega
  have hbq : ¬ (b.toNat : Int) = 48 := fun e => hb48 (UInt8.toNat_inj.1 (by show b.toNat = 48; omega))
  have hbq2 : ((b.toNat : Int) == 48) = false := by simpa using hbq
  have hsn : s.length ≤ 78 := by omega
  go_enter Tryd.func102, Tryd.ntmps102
  go_upto_region 2 with (fail)
  rw [← hwA]
  clear hwA
  go_wp2
  go_loopw [5] (fun i wr => ∃ k : Nat, k ≤ s.length ∧ i = .int .i64 (k : Int) ∧ (s.take k).all isDig = true ∧ decN (s.take k) < top256 ∧ Blk wr (w.heap.size + 1) 61 (bvs (beL (decN (s.take k)) 32)).toArray ∧ Blk wr w.heap.size 61 (bvs z32w).toArray ∧ Below w.heap.size w wr) (fun i _ => s.length - (intOf i).toNat)
  case atStart => exact ⟨0, by omega, rfl, rfl, Nat.pow_pos (by decide), by rw [show decN (s.take 0) = 0 from rfl, beL_zero]; exact hB1.out, hB0.out, hA.out⟩
  case round =>
    obtain ⟨k, hk, rfl, hall, htop, hB, hR, hb⟩ := hrel
    obtain ⟨wo, rfl⟩ : ∃ wo : World, wo = wr := ⟨_, rfl⟩
    have HB := Lib.hid hB
    have HR := Lib.hid hR
    have HBW := Lib.hid hb
    have HTOP := Lib.hid htop
    have HALL := Lib.hid hall
    have hbs := hb.size
    clear hB hR hb htop hall hB0 hB1 hA
    by_cases hlt : k < s.length
    · have hltI : (k : Int) < (s.length : Int) := by omega
      have hg0 : s[k]? = some (s.getD k 0) := by rw [List.getD_eq_getElem?_getD, List.getElem?_eq_getElem hlt]; rfl
      have hi0 := fun W => idx_strs (P := Tryd.prog) s k _ hg0 W Tryd.underlying9
      clear hg0
      cases hd : isDig (s.getD k 0) with
      | false =>
        have hno := Lib.hid (undecL_bad s k hlt hd)
        have hbad : ¬ (48 ≤ (s.getD k 0).toNat ∧ (s.getD k 0).toNat ≤ 57) := of_decide_eq_false hd
        have HDE := Lib.hid (beL_length (decN (s.take k)) 32)
        clear hd
        generalize beL (decN (s.take k)) 32 = bs at *
        generalize s.getD k 0 = c at *
        rcases Nat.lt_or_ge c.toNat 48 with hb1 | hb1
        · have cI : (c.toNat : Int) < 48 := by omega
          clear hbad
          have hT2 : Hid (AggT Tryd.prog 61 (bvs bs).toArray.size) := by rw [List.size_toArray, bvs_length, HDE.out]; exact hT.out
          have hTL : Hid (AggT Tryd.prog 61 (bvs bs).length) := by rw [bvs_length, HDE.out]; exact hT.out
          have hs32 : Hid ((bvs bs).toArray.size = 32) := by rw [List.size_toArray, bvs_length, HDE.out]; trivial
          go_wp2_with (first | (refine wpList_loadAgg rfl 61 (.tmp 4) rfl (w.heap.size + 1) 0 rfl (bvs bs) hTL.out (cellsAt_blk HB.out) ?_) | (refine wpList_storeAgg rfl rfl 61 _ _ rfl w.heap.size 0 rfl (bvs bs).toArray rfl hT2.out (HR.out.room 0 _ (by rw [hs32.out] <;> decide)) (oneCell_bvs _) ?_))
          have hfb := HR.out.setCells (bvs bs).toArray.toList 0 (by rw [Array.length_toList, hs32.out] <;> decide)
          rw [ovw_all _ _ (by rw [Array.length_toList, hs32.out] <;> decide)] at hfb
          exact bodyPost_ret (results_agg_tmp rfl _ _ w.heap.size (bvs bs).toArray rfl hT2.out (cellsAt_blk hfb)) rfl ⟨below_setCells HBW.out _ _ _ (Nat.le_refl _), .inl ⟨hno.out, bs, HDE.out, rfl⟩⟩
        · have cI : ¬ (c.toNat : Int) < 48 := by omega
          have cJ : (57 : Int) < (c.toNat : Int) := by omega
          clear hbad
          have hT2 : Hid (AggT Tryd.prog 61 (bvs bs).toArray.size) := by rw [List.size_toArray, bvs_length, HDE.out]; exact hT.out
          have hTL : Hid (AggT Tryd.prog 61 (bvs bs).length) := by rw [bvs_length, HDE.out]; exact hT.out
          have hs32 : Hid ((bvs bs).toArray.size = 32) := by rw [List.size_toArray, bvs_length, HDE.out]; trivial
          go_wp2_with (first | (refine wpList_loadAgg rfl 61 (.tmp 4) rfl (w.heap.size + 1) 0 rfl (bvs bs) hTL.out (cellsAt_blk HB.out) ?_) | (refine wpList_storeAgg rfl rfl 61 _ _ rfl w.heap.size 0 rfl (bvs bs).toArray rfl hT2.out (HR.out.room 0 _ (by rw [hs32.out] <;> decide)) (oneCell_bvs _) ?_))
          have hfb := HR.out.setCells (bvs bs).toArray.toList 0 (by rw [Array.length_toList, hs32.out] <;> decide)
          rw [ovw_all _ _ (by rw [Array.length_toList, hs32.out] <;> decide)] at hfb
          exact bodyPost_ret (results_agg_tmp rfl _ _ w.heap.size (bvs bs).toArray rfl hT2.out (cellsAt_blk hfb)) rfl ⟨below_setCells HBW.out _ _ _ (Nat.le_refl _), .inl ⟨hno.out, bs, HDE.out, rfl⟩⟩
      | true =>
        have hdg : 48 ≤ (s.getD k 0).toNat ∧ (s.getD k 0).toNat ≤ 57 := of_decide_eq_true hd
        have hsu := Lib.hid (decN_succ s k hlt)
        have hgr := Lib.hid (fun h => undecL_great s (k + 1) h)
        have hal2 : Hid ((s.take (k + 1)).all isDig = true) := by
          rw [take_snoc' s k hlt, List.all_append, HALL.out, List.all_cons, hd]
          rfl
        clear hd
        obtain ⟨c, hc⟩ : ∃ c, (s.getD k 0).toNat = 48 + c := ⟨(s.getD k 0).toNat - 48, by omega⟩
        rw [hc] at hsu hdg hi0
        rw [show 48 + c - 48 = c by omega] at hsu
        simp only [Int.natCast_add, Int.cast_ofNat_Int] at hi0
        clear hc
        have hc9 : c ≤ 9 := by omega
        have hcI : (0 : Int) ≤ (c : Int) ∧ (c : Int) ≤ 9 := by omega
        generalize decN (s.take k) = n at *
        go_wp2
        go_loopw [6, 7] (fun r i wi => ∃ j : Nat, j ≤ 32 ∧ i = .int .i64 (31 - (j : Int)) ∧ r = .int .i64 (cr n c j : Int) ∧ Blk wi (w.heap.size + 1) 61 (bvs (mixR n (n * 10 + c) j)).toArray ∧ Blk wi w.heap.size 61 (bvs z32w).toArray ∧ Below w.heap.size w wi) (fun _ i _ => (intOf i + 1).toNat)
        case atStart => exact ⟨0, by omega, rfl, by rw [cr_zero]; first | rfl | (congr 1; omega), by rw [mixR_zero]; exact HB.out, HR.out, HBW.out⟩
        case round =>
          obtain ⟨j, hj, rfl, rfl, hBi, hRi, hbi⟩ := hrel
          obtain ⟨wi, rfl⟩ : ∃ wi : World, wi = wr := ⟨_, rfl⟩
          have HBi := Lib.hid hBi
          have HRi := Lib.hid hRi
          have HWi := Lib.hid hbi
          have hcr := cr_le n c j hc9
          clear hRi hbi
          by_cases hjl : j < 32
          · obtain ⟨p, hp⟩ : ∃ p, p + j = 31 := ⟨31 - j, by omega⟩
            have hij : (31 : Int) - (j : Int) = (p : Int) := by omega
            have hmg := mixR_get n (n * 10 + c) j hjl
            have hms := Lib.hid (mixR_set n (n * 10 + c) j hjl)
            rw [show 31 - j = p by omega] at hmg hms
            have hcell : wi.cell? ⟨w.heap.size + 1, p, none⟩ = some (bv (UInt8.ofNat (n / 256 ^ j % 256))) := by rw [hBi.cell, List.getElem?_toArray]; exact bvs_get hmg
            have hfz := hBi.frozen p
            have hset : Hid (∀ v, v = bv (UInt8.ofNat ((n * 10 + c) / 256 ^ j % 256)) → Blk (wi.setCell ⟨w.heap.size + 1, p, none⟩ v) (w.heap.size + 1) 61 (bvs (mixR n (n * 10 + c) (j + 1))).toArray) := fun v hv => by
              have h1 := HBi.out.set_ p (bv (UInt8.ofNat ((n * 10 + c) / 256 ^ j % 256)))
              rw [bvs_set, hms.out] at h1
              rw [hv]; exact h1
            have hsu2 := Lib.hid (cr_succ n c j)
            have hby := Lib.hid (cr_byte n c j)
            have hd256 : n / 256 ^ j % 256 < 256 := Nat.mod_lt _ (by decide)
            rw [byte_ofNat _ hd256] at hcell
            clear hBi hmg
            generalize n / 256 ^ j % 256 = d at *
            generalize cr n c j = r at *
            have hdI : (0 : Int) ≤ (d : Int) ∧ (d : Int) < 256 := by omega
            have hrI : (0 : Int) ≤ (r : Int) ∧ (r : Int) ≤ 9 := by omega
            have hpI : (0 : Int) ≤ (p : Int) ∧ (p : Int) < 32 := by omega
            have htp : ((p : Int)).toNat = p := by omega
            rw [hij]
            go_wp2
            refine ⟨⟨j + 1, by omega, by congr 1; omega, by rw [← hsu2.out]; first | rfl | (congr 1; omega), hset.out _ (by rw [← hby.out, byte_ofNat _ (Nat.mod_lt _ (by decide))]; first | rfl | (congr 1; omega)), HRi.out.far (by show w.heap.size ≠ w.heap.size + 1; omega) _, HWi.out.setCell (by show w.heap.size ≤ w.heap.size + 1; omega) _⟩, by simp [intOf] <;> omega⟩
          · obtain rfl : j = 32 := by omega
            have hcd := cr_done n c HTOP.out
            rw [mixR_all] at hBi HBi
            rw [show (31 : Int) - ((32 : Nat) : Int) = -1 by rfl]
            by_cases hr : 0 < cr n c 32
            · have hno : Hid (undecL s = none) := hgr.out (by rw [hsu.out]; exact hcd.1 hr)
              have hrI : (0 : Int) < (cr n c 32 : Int) := by omega
              have HDE := Lib.hid (beL_length (n * 10 + c) 32)
              clear hBi hcd hcr hgr
              generalize cr n c 32 = r at *
              generalize beL (n * 10 + c) 32 = bs at *
              have hT2 : Hid (AggT Tryd.prog 61 (bvs bs).toArray.size) := by rw [List.size_toArray, bvs_length, HDE.out]; exact hT.out
              have hTL : Hid (AggT Tryd.prog 61 (bvs bs).length) := by rw [bvs_length, HDE.out]; exact hT.out
              have hs32 : Hid ((bvs bs).toArray.size = 32) := by rw [List.size_toArray, bvs_length, HDE.out]; trivial
              go_wp2_with (first | (refine wpList_loadAgg rfl 61 (.tmp 4) rfl (w.heap.size + 1) 0 rfl (bvs bs) hTL.out (cellsAt_blk HBi.out) ?_) | (refine wpList_storeAgg rfl rfl 61 _ _ rfl w.heap.size 0 rfl (bvs bs).toArray rfl hT2.out (HRi.out.room 0 _ (by rw [hs32.out] <;> decide)) (oneCell_bvs _) ?_))
              have hfb := HRi.out.setCells (bvs bs).toArray.toList 0 (by rw [Array.length_toList, hs32.out] <;> decide)
              rw [ovw_all _ _ (by rw [Array.length_toList, hs32.out] <;> decide)] at hfb
              exact bodyPost_ret (results_agg_tmp rfl _ _ w.heap.size (bvs bs).toArray rfl hT2.out (cellsAt_blk hfb)) rfl ⟨below_setCells HWi.out _ _ _ (Nat.le_refl _), .inl ⟨hno.out, bs, HDE.out, rfl⟩⟩
            · have hr0 : cr n c 32 = 0 := by omega
              have hlo : n * 10 + c < top256 := by rcases Nat.lt_or_ge (n * 10 + c) top256 with h | h; · exact h
                                                   · exact absurd (hcd.2 h) hr
              have HLO := Lib.hid hlo
              rw [hr0]
              clear hBi hcd hcr hgr hr hr0 hlo
              go_wp2
              go_roundw
              case rel => exact ⟨k + 1, by omega, by go_num, hal2.out, by rw [hsu.out]; exact HLO.out, by rw [hsu.out]; exact HBi.out, HRi.out, HWi.out⟩
              case measure => simp [intOf]; omega
    · obtain rfl : k = s.length := by omega
      rw [List.take_length] at HB HTOP HALL
      have hul := Lib.hid (hok.out HALL.out HTOP.out)
      have HDE := Lib.hid (beL_length (decN s) 32)
      generalize hbe : beL (decN s) 32 = bs at *
      have HBE := Lib.hid hbe
      clear hbe
      have hT2 : Hid (AggT Tryd.prog 61 (bvs bs).toArray.size) := by rw [List.size_toArray, bvs_length, HDE.out]; exact hT.out
      have hTL : Hid (AggT Tryd.prog 61 (bvs bs).length) := by rw [bvs_length, HDE.out]; exact hT.out
      have hs32 : Hid ((bvs bs).toArray.size = 32) := by rw [List.size_toArray, bvs_length, HDE.out]; trivial
      go_wp2_with (first | (refine wpList_loadAgg rfl 61 (.tmp 4) rfl (w.heap.size + 1) 0 rfl (bvs bs) hTL.out (cellsAt_blk HB.out) ?_) | (refine wpList_storeAgg rfl rfl 61 _ _ rfl w.heap.size 0 rfl (bvs bs).toArray rfl hT2.out (HR.out.room 0 _ (by rw [hs32.out] <;> decide)) (oneCell_bvs _) ?_))
      have hfb := HR.out.setCells (bvs bs).toArray.toList 0 (by rw [Array.length_toList, hs32.out] <;> decide)
      rw [ovw_all _ _ (by rw [Array.length_toList, hs32.out] <;> decide)] at hfb
      exact bodyPost_ret (results_agg_tmp rfl _ _ w.heap.size (bvs bs).toArray rfl hT2.out (cellsAt_blk hfb)) rfl ⟨below_setCells HBW.out _ _ _ (Nat.le_refl _), .inr ⟨_, hul.out, by rw [HBE.out]; rfl⟩⟩
theorem undec102_calls (s : List UInt8) (w : World) (hs : s.length ≤ 100000000) :
    Calls Tryd.prog 102 #[.string (str s)] w (UndecEnd w s) := by
  rcases Nat.eq_zero_or_pos s.length with h0 | h0
  · exact undec102_a s w h0
  · by_cases h78 : 78 < s.length
    · exact undec102_b s w h78 hs
    · have hg : s[0]? = some (s.getD 0 0) := by rw [List.getD_eq_getElem?_getD, List.getElem?_eq_getElem h0]; rfl
      by_cases hb : s.getD 0 0 = 48
      · rw [hb] at hg
        by_cases h1 : 1 < s.length
        · exact undec102_c s w hg h1 (by omega)
        · exact undec102_d s w hg h0 h1
      · exact undec102_e s w _ hg hb h0 (by omega)
end Go.Proofs.YtfjfjjcdlgdbcaaDoor
