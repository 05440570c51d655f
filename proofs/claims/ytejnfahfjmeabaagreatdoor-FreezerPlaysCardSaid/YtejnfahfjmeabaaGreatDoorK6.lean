/- the texts M37, M38, M39, M40, M41, M42 of this proof, one behind the other -/
import Derived.Test.YtejnfahfjmeabaaGreatDoorK5
import Derived.ArgAppend
set_option linter.unusedSimpArgs false
set_option linter.unusedVariables false
namespace Go.Proofs.YtejnfahfjmeabaaGreatDoor
open Go.RowKit
set_option linter.unusedSimpArgs false
set_option linter.unusedVariables false

noncomputable def tabsB (T : List (List UInt8)) : Bool := @decide (TabsOk T) (Classical.propDecidable _)
theorem tabsB_yes {T : List (List UInt8)} (h : TabsOk T) : tabsB T = true := by unfold tabsB; exact @decide_eq_true _ (Classical.propDecidable _) h
theorem tabsB_no {T : List (List UInt8)} (h : ¬ TabsOk T) : tabsB T = false := by unfold tabsB; exact @decide_eq_false _ (Classical.propDecidable _) h
def RightR (w : World) (T : List (List UInt8)) (e : Ending) (w' : World) : Prop := e = .returned (.bool (tabsB T)) ∧ Below w.heap.size w w'
theorem run_lenMap (w : World) (b : Nat) (ks : List (List UInt8)) (h : SetM w b ks) : (Builtin.len_ #[106] 3 #[.map (some b)]).run Tryz.prog w = .ok (.int .i64 (ks.length : Int)) w := by
  obtain ⟨es, clock, hb, he⟩ := h
  have hl : es.size = ks.length := by
    have := congrArg List.length he
    simpa using this
  simp [Builtin.len_, run_underlying Tryz.underlying106, MapKept.run_getObj_map hb, Result.andThen, hl]
  rfl
set_option maxRecDepth 100000 in
set_option maxHeartbeats 1000000 in
theorem right_calls (A : Option Addr) (n c : Nat) (T : List (List UInt8)) (w : World) (h : RdT w A n c T) (hsm : ∀ s ∈ T, s.length ≤ 9223372036854775807) : Calls Tryz.prog 32 #[.slice A n c] w (RightR w T) := by
  have hmm := @run_makeMap Tryz.prog
  have hn63 : n ≤ 9223372036854775807 := by have := h.2.1; have := h.2.2.1; unfold maxLen at this; omega
  by_cases h1 : n < 1
  · have HR := Lib.hid (tabsB_no (T := T) (fun hT => by have := hT.1; rw [h.1] at this; omega))
    obtain rfl : n = 0 := by omega
    clear h
    go_enter Tryz.func32, Tryz.ntmps32
    go_wp2_with fail
    go_ret
    exact ⟨by rw [HR.out]; rfl, Below.refl _ _⟩
  · by_cases h8 : 8 < n
    · have HR := Lib.hid (tabsB_no (T := T) (fun hT => by have := hT.2.1; rw [h.1] at this; omega))
      have hI : ¬ (n : Int) < 1 := by omega
      have hI2 : (8 : Int) < (n : Int) := by omega
      clear h
      go_enter Tryz.func32, Tryz.ntmps32
      go_wp2_with fail
      go_ret
      exact ⟨by rw [HR.out]; rfl, Below.refl _ _⟩
    · obtain ⟨g, o, rfl, hcells⟩ := h.2.2.2 (by omega)
      have H := Lib.hid h
      have HC := Lib.hid hcells
      have HSM := Lib.hid hsm
      have hI : ¬ (n : Int) < 1 := by omega
      have hI2 : ¬ (8 : Int) < (n : Int) := by omega
      clear h hcells hsm
      go_enter Tryz.func32, Tryz.ntmps32
      go_wp2_with fail
      go_loopw [17] (fun i wr => ∃ k : Nat, k ≤ n ∧ i = .int .i64 k ∧ SetM wr w.heap.size (metL [] (T.take k)) ∧ (∀ s ∈ T.take k, nameOkF s) ∧ Below w.heap.size w wr) (fun i _ => n - (intOf i).toNat)
      case atStart => exact ⟨0, by omega, rfl, ⟨#[], 0, heap_alloc_new w _, rfl⟩, by simp, (Below.refl _ w).alloc (Nat.le_refl _) _⟩
      case round =>
        obtain ⟨k, hk, rfl, hM, hok, hb⟩ := hrel
        have HM := Lib.hid hM
        have HOK := Lib.hid hok
        have HB := Lib.hid hb
        clear hM hok hb
        obtain ⟨wo, rfl⟩ : ∃ wo : World, wo = wr := ⟨_, rfl⟩
        by_cases hlt : k < n
        · have hkI : (0 : Int) ≤ (k : Int) ∧ (k : Int) < (n : Int) := by omega
          have hg : T[k]? = some (T.getD k []) := by rw [List.getD_eq_getElem?_getD, List.getElem?_eq_getElem (by rw [H.out.1]; exact hlt)]; rfl
          have hcell := cell_below' HB.out (HC.out k _ hg)
          have HMem := Lib.hid (List.mem_of_getElem? hg)
          have HTk : Hid (T.take (k + 1) = T.take k ++ [T.getD k []]) := by
            rw [List.take_add_one, hg]
            rfl
          generalize T.getD k [] = s at *
          have hsz : (str s).size = s.length := rfl
          have hsl := HSM.out s HMem.out
          clear hg
          by_cases hs1 : s.length < 1
          · have HR := Lib.hid (tabsB_no (T := T) (fun hT => by have := (hT.2.2.1 s HMem.out).1; omega))
            go_wp2_with fail
            go_ret
            exact ⟨by rw [HR.out]; rfl, HB.out⟩
          · by_cases hs2 : 16 < s.length
            · have HR := Lib.hid (tabsB_no (T := T) (fun hT => by have := (hT.2.2.1 s HMem.out).2.1; omega))
              go_wp2_with fail
              go_ret
              exact ⟨by rw [HR.out]; rfl, HB.out⟩
            · have HT := Lib.hid (Trim_calls (str s) wo (by rw [hsz]; omega))
              have HZ := Lib.hid (trim_az s)
              have e1 : (str s).data.toList = s := rfl
              rw [e1] at HT
              generalize Lib.trimS s azs = t at *
              by_cases hP : ∀ b ∈ s, 97 ≤ b.toNat ∧ b.toNat ≤ 122
              · obtain rfl := HZ.out.2 hP
                have HNO : Hid (nameOkF s) := ⟨by omega, by omega, hP⟩
                clear hP e1
                go_wp2_with fail
                refine HT.out.mono ?_
                rintro e w1 ⟨rfl, hb1⟩
                obtain ⟨w2, hput, hM2, hu2⟩ := set_put w1 w.heap.size _ s (.agg #[]) (HM.out.below hb1)
                have hres : Hid (SetM w2 w.heap.size (metL [] (T.take (k + 1))) ∧ (∀ s ∈ T.take (k + 1), nameOkF s) ∧ Below w.heap.size w w2) := by
                  refine ⟨?_, ?_, ?_⟩
                  · rw [HTk.out, metL_snoc]
                    exact hM2
                  · intro s' hs'
                    rw [HTk.out] at hs'
                    rcases List.mem_append.1 hs' with hs' | hs'
                    · exact HOK.out s' hs'
                    · obtain rfl : s' = s := by simpa using hs'
                      exact HNO.out
                  · exact (Upd.pre (thn HB.out hb1) hu2).bel (Nat.le_refl _) (fun k hk => by cases hk; exact Nat.le_refl _)
                clear hM2 hu2 hb1
                go_wp2_with fail
                go_roundw
                case rel => exact ⟨k + 1, by omega, by go_num, hres.out.1, hres.out.2.1, hres.out.2.2⟩
                case measure => simp [intOf]; omega
              · have HR := Lib.hid (tabsB_no (T := T) (fun hT => hP ((hT.2.2.1 s HMem.out).2.2)))
                have ht : t.isEmpty = false := by
                  cases t with
                  | nil => exact absurd (HZ.out.1 rfl) hP
                  | cons _ _ => rfl
                have ht2 : (t == []) = false := by
                  cases t with
                  | nil => exact absurd (HZ.out.1 rfl) hP
                  | cons _ _ => rfl
                clear hP e1
                go_wp2_with fail
                refine HT.out.mono ?_
                rintro e w1 ⟨rfl, hb1⟩
                go_wp2_with fail
                go_ret
                exact ⟨by rw [HR.out]; rfl, thn HB.out hb1⟩
        · obtain rfl : k = n := by omega
          have hlen := run_lenMap wo w.heap.size _ HM.out
          go_wp2_with fail
          go_ret
          refine ⟨?_, HB.out⟩
          have hT : T.take k = T := List.take_of_length_le (by rw [H.out.1]; exact Nat.le_refl _)
          have hok := HOK.out
          rw [hT] at hok
          have hiff := metL_eq T []
          rw [List.length_nil, Nat.zero_add, H.out.1] at hiff
          show Ending.returned (.bool ((((metL [] (T.take k)).length : Nat) : Int) == (k : Int))) = _
          rw [hT]
          by_cases hnd : T.Nodup
          · rw [tabsB_yes ⟨by rw [H.out.1]; omega, by rw [H.out.1]; omega, hok, hnd⟩]
            have := hiff.2 ⟨hnd, by simp⟩
            rw [this]
            simp
          · rw [tabsB_no (fun h => hnd h.2.2.2)]
            have h3 : ¬ (metL [] T).length = k := fun e => hnd (hiff.1 e).1
            have h4 : ((((metL [] T).length : Nat) : Int) == (k : Int)) = false := by rw [beq_eq_false_iff_ne]; omega
            rw [h4]
end Go.Proofs.YtejnfahfjmeabaaGreatDoor
namespace Go.Proofs.YtejnfahfjmeabaaGreatDoor
open Go.RowKit
set_option linter.unusedSimpArgs false
set_option linter.unusedVariables false

def BadR (w : World) (n : Nat) (e : Ending) (w' : World) : Prop := ∃ v, e = .returned (.tuple #[.pointer none, v]) ∧ ErrR w' v n ∧ Below w.heap.size w w'
set_option maxRecDepth 100000 in
set_option maxHeartbeats 1000000 in
theorem Open_bad (d : Nat) (A : Option Addr) (n c : Nat) (T : List (List UInt8)) (w : World) (h : RdT w A n c T) (hsm : ∀ s ∈ T, s.length ≤ 9223372036854775807) (hT : ¬ TabsOk T) :
    Calls Tryz.prog 9 #[.pointer (some ⟨d, 0, none⟩), .slice A n c] w (BadR w 120) := by
  have HR := Lib.hid (right_calls A n c T w h hsm)
  unfold RightR at HR
  rw [tabsB_no hT] at HR
  clear h hsm hT
  go_enter Tryz.func9, Tryz.ntmps9
  go_wp2_with fail
  refine HR.out.mono ?_
  rintro e w1 ⟨rfl, hb1⟩
  have HB := Lib.hid hb1
  clear hb1
  go_wp2_with fail
  refine (failOf_calls _ 120 w1).mono ?_
  rintro e w2 ⟨v, rfl, hv, hb2⟩
  have hfin : Hid (BadR w 120 (.returned (.tuple #[.pointer none, v])) w2) := ⟨v, rfl, hv, thn HB.out hb2⟩
  clear hv hb2
  go_wp2_with fail
  go_ret2
  exact hfin.out
theorem tClone_calls (A : Option Addr) (n c : Nat) (T : List (List UInt8)) (w : World) (h : RdT w A n c T) (h1 : 1 ≤ n) (h8 : n ≤ 8) :
    Calls Tryz.prog 34 #[.slice A n c] w fun e w' => ∃ A' c', e = .returned (.slice A' n c') ∧ RdT w' A' n c' T ∧ (∀ ad, A' = some ad → w.heap.size ≤ ad.block ∧ ad.block < w'.heap.size) ∧ Below w.heap.size w w' := by
  obtain ⟨g, o, rfl, hc⟩ := h.2.2.2 (by omega)
  have e1 : ∀ j, (T.map str).getD j ByteArray.empty = str (T.getD j []) := fun j => by
    rw [List.getD_eq_getElem?_getD, List.getElem?_map, List.getD_eq_getElem?_getD]
    cases T[j]? <;> rfl
  have := Tryz.slices_Clone_string g o n c (T.map str) w (by rw [List.length_map, h.1]; exact Nat.le_refl _) (by omega) (fun j hj => by
    rw [List.length_map] at hj
    rw [e1 j]
    exact hc j _ (by rw [List.getD_eq_getElem?_getD, List.getElem?_eq_getElem hj]; rfl))
  refine this.mono ?_
  rintro e w' ⟨v', rfl, ho, hne, hb⟩
  rcases ho.2 with ⟨e, _⟩ | ⟨g', cap', cur', e, hB, hh, hl, hm, hs, htk⟩
  · exact absurd e hne
  · refine ⟨some ⟨g', 0, none⟩, cap', by rw [e], ⟨h.1, hl, hm, fun _ => ⟨g', 0, rfl, fun j s hs => ?_⟩⟩, fun ad ea => ?_, hb⟩
    · have hj : j < T.length := (List.getElem?_eq_some_iff.1 hs).1
      rw [cell_of_row w' g' (0 + j) cur' 9 (0, 0) hh, Nat.zero_add]
      have h3 : (cur'.toList.take (n * 1))[j]? = (((T.map str).take n).map Value.string)[j]? := by rw [htk]
      rw [List.getElem?_take, if_pos (by rw [Nat.mul_one, ← h.1]; exact hj)] at h3
      rw [← Array.getElem?_toList, h3, List.getElem?_map, List.getElem?_take, if_pos (by rw [← h.1]; exact hj), List.getElem?_map, hs]
      rfl
    · obtain rfl := Option.some.inj ea
      exact ⟨hB, (Array.getElem?_eq_some_iff.1 hh).1⟩
def OpenR (w : World) (sd : Blocks) (d cap : Nat) (D : HdS) (num : Nat) (fs : FileS) (T : List (List UInt8)) (size : Nat) (z : FzS) (e : Ending) (w' : World) : Prop :=
  ∃ f, e = .returned (.tuple #[.pointer (some ⟨f, 0, none⟩), .nilIface]) ∧ (∃ sd' A c iv q, FrzP w' (grow sd w w') f d cap D true num fs T size z false false sd' A c iv q) ∧ Upd sd sd w w' ∧ w.heap.size ≤ f
set_option maxRecDepth 100000 in
set_option maxHeartbeats 1000000 in
theorem Open_new (sd : Blocks) (d cap : Nat) (D : HdS) (A : Option Addr) (n c : Nat) (T : List (List UInt8)) (w : World) (hD : DiskN w sd d cap D) (h : RdT w A n c T) (hT : TabsOk T) (hC : Calm D) (hf : D.files < 1048576) (hc : D.count ≤ 4611686018427360000) (hcap : (headL T).length ≤ cap) (hcm : cap ≤ 67108864) :
    Calls Tryz.prog 9 #[.pointer (some ⟨d, 0, none⟩), .slice A n c] w (OpenR w sd d cap (mkT D).tick.tick.tick.tick D.files ((⟨[], [], []⟩ : FileS).app (headL T)).settled T (headL T).length z0) := by
  have HR := Lib.hid (right_calls A n c T w h (fun s hs => by have := (hT.2.2.1 s hs).2.1; omega))
  unfold RightR at HR
  rw [tabsB_yes hT] at HR
  have H := Lib.hid h
  have HD := Lib.hid hD
  have HT := Lib.hid hT
  have HC := Lib.hid hC
  have HCC := Lib.hid (show D.files < 1048576 ∧ D.count ≤ 4611686018427360000 from ⟨hf, hc⟩)
  have hn1 : 1 ≤ n := by rw [← h.1]; exact hT.1
  have hn8 : n ≤ 8 := by rw [← h.1]; exact hT.2.1
  clear h hT hD hC hf hc
  go_enter Tryz.func9, Tryz.ntmps9
  go_wp2_with fail
  refine HR.out.mono ?_
  rintro e w1 ⟨rfl, hb1⟩
  have HB1 := Lib.hid hb1
  have HCL := Lib.hid (tClone_calls A n c T w1 (H.out.below hb1) hn1 hn8)
  clear hb1
  go_wp2_with fail
  refine HCL.out.mono ?_
  rintro e w2 ⟨A2, c2, rfl, hr2, hA2, hb2⟩
  have HB2 := Lib.hid (thn HB1.out hb2)
  have hz12 := HB1.out.size
  have hz2 := hb2.size
  obtain ⟨FX, hFX⟩ : ∃ FX : Obj, FX = .cells (zk d (.slice A2 n c2) 0 0 (.slice none 0 0) false false) 80 := ⟨_, rfl⟩
  have hba : Below w2.heap.size w2 (w2.alloc FX) := (Below.refl _ _).alloc (Nat.le_refl _) _
  have hsz : (w2.alloc FX).heap.size = w2.heap.size + 1 := by simp
  have hsd : ∀ k, sd k → k < w.heap.size := by obtain ⟨nm, sm, hx⟩ := HD.out; exact hx.lt
  have HFN : Hid (FrzN (w2.alloc FX) (grow sd w (w2.alloc FX)) w2.heap.size d cap D T sd A2 c2) := by
    refine ⟨?_, (HD.out.below HB2.out).below hba, fun k hk => .inl hk, ?_, fun ad e => ?_, .inr ⟨by omega, by omega⟩, fun e => ?_, grow_lt hsd (by omega)⟩
    · rw [hFX, H.out.1]
      exact Blk.new w2 80 _
    · rw [H.out.1]
      exact hr2.below hba
    · have := hA2 ad e
      refine ⟨.inr ⟨by omega, by omega⟩, fun hk => ?_, by omega⟩
      have := hsd _ hk
      omega
    · have := hsd _ e
      omega
  have HBG := Lib.hid (begins_none _ w2.heap.size d cap D T sd A2 c2 (w2.alloc FX) HFN.out HT.out HC.out HCC.out.1 HCC.out.2 hcap hcm)
  have HBA := Lib.hid hba
  have HZ := Lib.hid (show w.heap.size ≤ w2.heap.size ∧ (w2.alloc FX).heap.size = w2.heap.size + 1 from ⟨by omega, hsz⟩)
  have HFX := Lib.hid hFX
  rw [hFX] at HBG
  clear hr2 hA2 hb2 hba hsz hFX
  unfold zk at HBG
  go_wp2_with fail
  refine HBG.out.mono ?_
  rintro e w3 ⟨rfl, sd3, A3, c3, iv3, q3, H3, U3⟩
  have hfin : Hid (OpenR w sd d cap (mkT D).tick.tick.tick.tick D.files ((⟨[], [], []⟩ : FileS).app (headL T)).settled T (headL T).length z0 (.returned (.tuple #[.pointer (some ⟨w2.heap.size, 0, none⟩), .nilIface])) w3) := by
    have e0 : w2.alloc FX = w2.alloc (.cells #[.pointer (some ⟨d, 0, none⟩), .slice A2 n c2, .int .i64 ((0 : Nat) : Int), .int .i64 ((0 : Nat) : Int), .slice none 0 0, .bool false, .bool false] 80) := by rw [HFX.out]; rfl
    rw [← e0] at H3 U3
    have z1 := HZ.out
    have z3 := U3.size
    refine ⟨w2.heap.size, rfl, ⟨sd3, A3, c3, iv3, q3, H3.wide (fun k hk => ?_) (grow_lt hsd (by omega))⟩, ?_, by omega⟩
    · rcases hk with (hk | hk) | hk
      · exact .inl hk
      · exact .inr ⟨hk.1, by omega⟩
      · exact .inr ⟨by omega, by omega⟩
    · have U1 : Upd sd sd w (w2.alloc FX) := Upd.below (thn HB2.out HBA.out)
      exact U1.thenS U3 (fun k hk => by
        rcases hk with hk | hk
        · exact .inl hk
        · exact .inr hk.1)
  clear H3 U3
  go_wp2_with fail
  go_ret2
  exact hfin.out
end Go.Proofs.YtejnfahfjmeabaaGreatDoor
namespace Go.Proofs.YtejnfahfjmeabaaGreatDoor
open Go.RowKit
set_option linter.unusedSimpArgs false
set_option linter.unusedVariables false

def two (a b : Nat) : Blocks := fun k => k = a ∨ k = b
def NumR (w : World) (rb bb v n c k : Nat) (A : Option Addr) (e : Ending) (w' : World) : Prop :=
  e = .returned (.int .i64 (v : Int)) ∧ Blk w' rb 34 #[.slice (subA A k c) (n - k) (c - k)] ∧ Blk w' bb 4 #[.bool false] ∧ Upd (two rb bb) (two rb bb) w w'
set_option maxRecDepth 100000 in
set_option maxHeartbeats 1000000 in
theorem number_calls (rb bb v k n c : Nat) (A : Option Addr) (xs : List UInt8) (w : World) (hr : Blk w rb 34 #[.slice A n c]) (hb : Blk w bb 4 #[.bool false]) (hx : RdB w A n c xs) (ht : takeL xs = (v, k, 0)) (hv : v ≤ 4611686018427387904) (hk : k ≤ n) :
    Calls Tryz.prog 93 #[.pointer (some ⟨rb, 0, none⟩), .pointer (some ⟨bb, 0, none⟩)] w (NumR w rb bb v n c k A) := by
  have c0 : w.cell? ⟨rb, 0, none⟩ = some (.slice A n c) := hr.cell 0
  have HR := Lib.hid hr
  have HB := Lib.hid hb
  have HX := Lib.hid hx
  have HT := Lib.hid ht
  have HNE : Hid (rb ≠ bb) := Lib.hid (blk_ne hr hb (by decide))
  clear hr hb hx ht
  go_enter Tryz.func93, Tryz.ntmps93
  go_wp2_with fail
  refine (Take_calls A n c xs w HX.out).mono ?_
  rintro e w1 ⟨hT1, rfl⟩
  rw [HT.out] at hT1
  obtain rfl := hT1
  have f0 := HR.out.frozen 0
  have fb := HB.out.frozen 0
  have cb : w.cell? ⟨bb, 0, none⟩ = some (.bool false) := HB.out.cell 0
  have q2 : decide ((4611686018427387904 : Int) < (v : Int)) = false := by rw [decide_eq_false_iff_not]; omega
  have q3 : IntKind.i64.wrap (v : Int) = (v : Int) := by simp [IntKind.wrap, IntKind.bits, IntKind.signed]; omega
  have hnc : n ≤ c := HX.out.2.1
  have B1 : Blk (w.setCell ⟨bb, 0, none⟩ (.bool false)) bb 4 #[.bool false] := (HB.out.set_ 0 _).eq_ rfl
  have R1 : Blk (w.setCell ⟨bb, 0, none⟩ (.bool false)) rb 34 #[.slice A n c] := HR.out.far (show rb ≠ bb from HNE.out) _
  have fr1 := R1.frozen 0
  have cr1 : (w.setCell ⟨bb, 0, none⟩ (.bool false)).cell? ⟨rb, 0, none⟩ = some (.slice A n c) := R1.cell 0
  have cb1 : (w.setCell ⟨bb, 0, none⟩ (.bool false)).cell? ⟨bb, 0, none⟩ = some (.bool false) := B1.cell 0
  have hfin : Hid (NumR w rb bb v n c k A (.returned (.int .i64 (v : Int))) ((w.setCell ⟨bb, 0, none⟩ (.bool false)).setCell ⟨rb, 0, none⟩ (.slice (subA A k c) (n - k) (c - k)))) :=
    ⟨rfl, (R1.set_ 0 _).eq_ rfl, B1.far (show bb ≠ rb from fun e => HNE.out e.symm) _, ((Upd.refl _ w).set (p := ⟨bb, 0, none⟩) (show two rb bb bb from .inr rfl) _).set (p := ⟨rb, 0, none⟩) (show two rb bb rb from .inl rfl) _⟩
  clear B1 R1
  by_cases hck : c = k
  · subst hck
    have e : subA A c c = A := by unfold subA; rw [if_pos rfl]
    rw [e, Nat.sub_self, show n - c = 0 by omega] at hfin
    clear e
    go_wp2_with fail
    go_ret
    exact hfin.out
  · have e : subA A k c = A.map (fun x => x.add k) := by unfold subA; rw [if_neg hck]
    rw [e] at hfin
    clear e
    go_wp2_with fail
    go_ret
    exact hfin.out
end Go.Proofs.YtejnfahfjmeabaaGreatDoor
namespace Go.Proofs.YtejnfahfjmeabaaGreatDoor
open Go.RowKit
set_option linter.unusedSimpArgs false
set_option linter.unusedVariables false

theorem Tryz.info88 : (Tryz.prog.info? 88).map (fun i => (i.zero, i.size, i.bytes)) = some (some (.agg #[.int .i64 0, .int .i64 0]), 2, 16) := by kernel_rfl
theorem Tryz.agg118 : AggT Tryz.prog 118 3 := by
  refine ⟨?_, by kernel_rfl⟩
  rw [Tryz.underlying118]; exact rfl
theorem wrap_ok (x : Int) (h0 : -9223372036854775808 ≤ x) (h1 : x ≤ 9223372036854775807) : wrap64 x = x := by unfold wrap64; omega
theorem read_arith (at_ n k1 k2 L kv ul m3 m m2 q p0 : Nat) (hat : at_ ≤ 4611686018427387904) (hn : n ≤ 1048576) (hkv : 0 < kv) (hm : m = kv + ul + m3) (hm2 : m2 = ul + m3) (hq : q = at_ + n - m2) (hnn : k1 + (k2 + L) + m = n) (hp0 : p0 = at_ + k1 + k2) :
    p0 + L + kv = q ∧ wrap64 ((at_ : Int) + (n : Int)) = (at_ : Int) + (n : Int) ∧ wrap64 ((at_ : Int) + (n : Int) - (m2 : Int)) = (q : Int) ∧ (0 : Int) < (m : Int) ∧ decide ((m2 : Int) < (ul : Int)) = false ∧ ul ≤ m2 ∧ m - kv = m2 ∧ m2 - ul = m3 ∧ m3 < m := by
  have h1 : p0 + L + kv = q := by omega
  have h2 : (at_ : Int) + (n : Int) - (m2 : Int) = (q : Int) := by omega
  refine ⟨h1, wrap_ok _ (by omega) (by omega), ?_, by omega, ?_, by omega, by omega, by omega, by omega⟩
  · rw [h2]
    exact wrap_ok _ (by omega) (by omega)
  · rw [decide_eq_false_iff_not]
    omega
theorem read_arith2 (m2 ul m3 cr2 : Nat) (h1 : m2 - ul = m3) (h2 : m2 ≤ cr2) (h3 : cr2 = ul) : 0 = cr2 - ul ∧ 0 = m3 := by omega
/-- a spot is appended -/
theorem append_spot (w : World) (B : Nat) (v : Value) (sp : List (Nat × Nat)) (p n : Nat) (h : w.ownsRow B 88 2 v sp.length (spk sp)) (hn : sp.length ≤ 1000000000) (hB : B ≤ w.heap.size) :
    ∃ v' w', (Builtin.append_ #[89, 89] 89 #[v, .slice (some ⟨w.heap.size, 0, none⟩) 1 1]).run Tryz.prog (w.alloc (.cells #[.int .i64 (p : Int), .int .i64 (n : Int)] 88)) = .ok v' w' ∧ w'.ownsRow B 88 2 v' (sp ++ [(p, n)]).length (spk (sp ++ [(p, n)])) ∧
      (w.alloc (.cells #[.int .i64 (p : Int), .int .i64 (n : Int)] 88)).grownBy w' v.ownBlock := by
  obtain ⟨i0, hi0, hz0, hz1, hz2⟩ := info_parts Tryz.info88
  obtain ⟨v', w', hrun, r1, r2, _, r4⟩ := run_append_own_at (P := Tryz.prog) (w.alloc (.cells #[.int .i64 (p : Int), .int .i64 (n : Int)] 88)) B 89 89 88 i0 _ 2 16 Tryz.underlying89 hi0 hz0 hz1 hz2 rfl (by decide) v sp.length (spk sp) (World.ownsRow.alloc h _)
    ⟨w.heap.size, 0, none⟩ 1 1 [.int .i64 (p : Int), .int .i64 (n : Int)] rfl (by
      intro j v hv
      have hc := (Blk.new w 88 #[.int .i64 (p : Int), .int .i64 (n : Int)]).cell j
      have e0 : (⟨w.heap.size, 0, none⟩ : Addr).add j = ⟨w.heap.size, j, none⟩ := by unfold Addr.add; split <;> simp_all
      rw [e0, hc]
      simpa using hv) (by simp [Value.oneCell']) (by unfold maxLen; omega) (by omega) (by simp; omega)
  refine ⟨v', w', hrun, ?_, r2⟩
  have e1 : (sp ++ [(p, n)]).length = sp.length + 1 := by simp
  have e2 : spk (sp ++ [(p, n)]) = spk sp ++ [.int .i64 (p : Int), .int .i64 (n : Int)] := by simp [spk]
  rw [e1, e2]
  exact r1
structure RS (w0 wr : World) (r4 rb bb cb kind num : Nat) (sv : Value) (sp : List (Nat × Nat)) (rest : List UInt8) (Ar : Option Addr) (m cr : Nat) : Prop where
  below : Below w0.heap.size w0 wr
  g4 : w0.heap.size ≤ r4
  gr : w0.heap.size ≤ rb
  gb : w0.heap.size ≤ bb
  gc : w0.heap.size ≤ cb
  h4 : Blk wr r4 118 #[.int .i64 0, .int .i64 0, .slice none 0 0]
  hr : Blk wr rb 34 #[.slice Ar m cr]
  hb : Blk wr bb 4 #[.bool false]
  hc : Blk wr cb 118 #[.int .i64 (kind : Int), .int .i64 (num : Int), sv]
  row : wr.ownsRow w0.heap.size 88 2 sv sp.length (spk sp)
  ne : r4 ≠ cb
  rd : RdB w0 Ar m cr rest
def ReadC (w : World) (kind num at_ : Nat) (vs : List (List UInt8)) (e : Ending) (w' : World) : Prop :=
  ∃ sv, e = .returned (.tuple #[.agg #[.int .i64 (kind : Int), .int .i64 (num : Int), sv], .bool true]) ∧ w'.ownsRow w.heap.size 88 2 sv vs.length (spk (spotsF (at_ + (putL kind).length + (putL num).length) vs)) ∧ Below w.heap.size w w'
/-- how much is left, by the variable -/
def leftN (rb : Nat) (wr : World) : Nat := match wr.cell? ⟨rb, 0, none⟩ with | some (.slice _ n _) => n | _ => 0
theorem leftN_eq {rb m cr : Nat} {Ar : Option Addr} {wr : World} (h : Blk wr rb 34 #[.slice Ar m cr]) : leftN rb wr = m := by
  have : wr.cell? ⟨rb, 0, none⟩ = some (.slice Ar m cr) := h.cell 0
  unfold leftN
  rw [this]
attribute [-go_sem] Builtin.append_
set_option maxRecDepth 100000 in
set_option maxHeartbeats 1000000 in
theorem read_calls (A : Option Addr) (n c at_ kind num : Nat) (vs : List (List UInt8)) (w : World) (h : RdB w A n c (bodyL kind num vs)) (hk : kind ≤ 4611686018427387904) (hnm : num ≤ 4611686018427387904) (hn : n ≤ 1048576) (hat : at_ ≤ 4611686018427387904) (hvs : vs.length ≤ 1000) :
    Calls Tryz.prog 60 #[.slice A n c, .int .i64 (at_ : Int)] w (ReadC w kind num at_ vs) := by
  have hmf : ∀ (fn : Fn) (first cap : Array Value) (W : World), (Instr.makeFunc fn first cap).run Tryz.prog W = .ok (.func fn first cap) W := fun fn first cap W => rfl
  have t1 := takeL_put kind (by omega) (putL num ++ valsB vs)
  have t2 := takeL_put num (by omega) (valsB vs)
  have hlb : (bodyL kind num vs).length = (putL kind).length + ((putL num).length + (valsB vs).length) := by unfold bodyL; rw [List.length_append, List.length_append]
  have hnl := h.1
  obtain ⟨k1, hk1⟩ : ∃ k1, k1 = (putL kind).length := ⟨_, rfl⟩
  obtain ⟨k2, hk2⟩ : ∃ k2, k2 = (putL num).length := ⟨_, rfl⟩
  rw [← hk1, ← hk2, hnl] at hlb
  have hs1 := h.sub k1 (by omega)
  have e1 : (bodyL kind num vs).drop k1 = putL num ++ valsB vs := by unfold bodyL; rw [hk1]; exact List.drop_left' rfl
  rw [e1] at hs1
  have hs2 := hs1.sub k2 (by omega)
  have e2 : (putL num ++ valsB vs).drop k2 = valsB vs := by rw [hk2]; exact List.drop_left' rfl
  rw [e2] at hs2
  obtain ⟨W1, hW1⟩ : ∃ W1 : World, W1 = ((w.alloc (.cells #[.int .i64 0, .int .i64 0, .slice none 0 0] 118)).alloc (.cells #[.slice A n c] 34)).alloc (.cells #[.bool false] 4) := ⟨_, rfl⟩
  have hb1 : Below w.heap.size w W1 := by
    rw [hW1]
    exact (((Below.refl _ w).alloc (Nat.le_refl _) _).alloc (by simp) _).alloc (by simp; omega) _
  have R41 : Blk W1 w.heap.size 118 #[.int .i64 0, .int .i64 0, .slice none 0 0] := by rw [hW1]; exact ((Blk.new w 118 _).alloc _).alloc _
  have RB1 : Blk W1 (w.heap.size + 1) 34 #[.slice A n c] := by rw [hW1]; exact (Blk.newN _ 34 _ (by simp)).alloc _
  have BB1 : Blk W1 (w.heap.size + 1 + 1) 4 #[.bool false] := by rw [hW1]; exact Blk.newN _ 4 _ (by simp)
  have HN1 := Lib.hid (number_calls (w.heap.size + 1) (w.heap.size + 1 + 1) kind k1 n c A (bodyL kind num vs) W1 RB1 BB1 (h.below hb1) (by unfold bodyL; rw [hk1]; exact t1) hk (by omega))
  rw [hW1] at HN1
  have HS1 := Lib.hid hs1
  have HS2 := Lib.hid hs2
  have H := Lib.hid h
  have HT2 := Lib.hid t2
  have HLB := Lib.hid hlb
  have HK1 := Lib.hid hk1
  have HK2 := Lib.hid hk2
  have HB1 := Lib.hid hb1
  have HR4 := Lib.hid R41
  have HW1 := Lib.hid hW1
  clear h hs1 hs2 e1 e2 t1 t2 hk1 hk2 hb1 R41 RB1 BB1 hlb hnl hW1
  go_enter Tryz.func60, Tryz.ntmps60
  go_wp2_with fail
  refine HN1.out.mono ?_
  rintro e w2 ⟨rfl, r2, b2, u2⟩
  rw [← HW1.out] at u2
  have hb2 : Below w.heap.size w w2 := (Upd.pre HB1.out u2).bel (Nat.le_refl _) (fun k hk => by rcases hk with e | e <;> omega)
  have R42 : Blk w2 w.heap.size 118 #[.int .i64 0, .int .i64 0, .slice none 0 0] := (u2.block _ HR4.out.lt (fun hk => by rcases hk with e | e <;> omega)).trans HR4.out
  have HN2 := Lib.hid (number_calls (w.heap.size + 1) (w.heap.size + 1 + 1) num k2 (n - k1) (c - k1) (subA A k1 c) (putL num ++ valsB vs) w2 r2 b2 (HS1.out.below hb2) (by rw [HK2.out]; exact HT2.out) hnm (by have := HLB.out; omega))
  have HB2 := Lib.hid hb2
  have HR42 := Lib.hid R42
  clear r2 b2 u2 hb2 R42
  go_wp2_with fail
  refine HN2.out.mono ?_
  rintro e w3 ⟨rfl, r3, b3, u3⟩
  have hb3 : Below w.heap.size w w3 := (Upd.pre HB2.out u3).bel (Nat.le_refl _) (fun k hk => by rcases hk with e | e <;> omega)
  have R43 : Blk w3 w.heap.size 118 #[.int .i64 0, .int .i64 0, .slice none 0 0] := (u3.block _ HR42.out.lt (fun hk => by rcases hk with e | e <;> omega)).trans HR42.out
  obtain ⟨W4, hW4⟩ : ∃ W4 : World, W4 = w3.alloc (.cells #[.int .i64 (kind : Int), .int .i64 (num : Int), .slice none 0 0] 118) := ⟨_, rfl⟩
  have HRS : Hid (∃ Ar cr, RS w W4 w.heap.size (w.heap.size + 1) (w.heap.size + 1 + 1) w3.heap.size kind num (.slice none 0 0) [] (valsB vs) Ar ((valsB vs).length) cr) := by
    have hl : (valsB vs).length = n - k1 - k2 := by have := HLB.out; omega
    have hz := hb3.size
    have hlt := R43.lt
    refine ⟨subA (subA A k1 c) k2 (c - k1), c - k1 - k2, ?_, Nat.le_refl _, by omega, by omega, by omega, ?_, ?_, ?_, ?_, World.ownsRow_nil _ _ _ _, by omega, ?_⟩
    · rw [hW4]; exact hb3.alloc hz _
    · rw [hW4]; exact R43.alloc _
    · rw [hW4, hl]; exact r3.alloc _
    · rw [hW4]; exact b3.alloc _
    · rw [hW4]; exact Blk.new w3 118 _
    · rw [hl]; exact HS2.out
  clear hb3 R43 r3 b3 u3
  go_wp2_with fail
  rw [← hW4]
  clear hW4
  obtain ⟨p0, hp0⟩ : ∃ p0, p0 = at_ + k1 + k2 := ⟨_, rfl⟩
  have HP0 := Lib.hid hp0
  clear hp0
  obtain ⟨r4, hr4⟩ : ∃ r4, r4 = w.heap.size := ⟨_, rfl⟩
  obtain ⟨rb, hrb⟩ : ∃ rb, rb = w.heap.size + 1 := ⟨_, rfl⟩
  obtain ⟨bb, hbb⟩ : ∃ bb, bb = w.heap.size + 1 + 1 := ⟨_, rfl⟩
  obtain ⟨cb, hcb⟩ : ∃ cb, cb = w3.heap.size := ⟨_, rfl⟩
  rw [← hcb, ← hbb, ← hrb, ← hr4]
  have HRS2 : Hid (∃ Ar cr, RS w W4 r4 rb bb cb kind num (.slice none 0 0) [] (valsB vs) Ar ((valsB vs).length) cr) := by
    rw [hr4, hrb, hbb, hcb]
    exact HRS
  clear HRS hr4 hrb hbb hcb
  go_loopw [] (fun wr => ∃ j sv Ar cr, j ≤ vs.length ∧ RS w wr r4 rb bb cb kind num sv (spotsF p0 (vs.take j)) (valsB (vs.drop j)) Ar (valsB (vs.drop j)).length cr) (fun wr => leftN rb wr)
  case atStart =>
    obtain ⟨Ar, cr, hrs⟩ := HRS2.out
    exact ⟨0, _, Ar, cr, Nat.zero_le _, hrs⟩
  case round =>
    obtain ⟨j, sv, Ar, cr, hj, hrs⟩ := hrel
    have HRR := Lib.hid hrs
    obtain ⟨wo, rfl⟩ : ∃ wo : World, wo = wr := ⟨_, rfl⟩
    have cb0 : wo.cell? ⟨bb, 0, none⟩ = some (.bool false) := hrs.hb.cell 0
    have cr0 : wo.cell? ⟨rb, 0, none⟩ = some (.slice Ar (valsB (vs.drop j)).length cr) := hrs.hr.cell 0
    by_cases hlt : j < vs.length
    · have hg : vs[j]? = some (vs.getD j []) := by rw [List.getD_eq_getElem?_getD, List.getElem?_eq_getElem hlt]; rfl
      have hd : vs.drop j = vs.getD j [] :: vs.drop (j + 1) := by
        rw [List.drop_eq_getElem_cons hlt, List.getD_eq_getElem?_getD, List.getElem?_eq_getElem hlt]
        rfl
      have HTk : Hid (vs.take (j + 1) = vs.take j ++ [vs.getD j []]) := by
        rw [List.take_add_one, hg]
        rfl
      have hlen : (valsB vs).length = (valsB (vs.take j)).length + (valsB (vs.drop j)).length := by
        rw [← List.length_append]
        congr 1
        have e : ∀ a b : List (List UInt8), valsB (a ++ b) = valsB a ++ valsB b := fun a b => by simp [valsB]
        rw [← e, List.take_append_drop]
      rw [hd, valsB_cons] at hlen cr0
      generalize vs.getD j [] = u at *
      have HD := Lib.hid hd
      obtain ⟨ul, hul⟩ : ∃ ul : Nat, ul = u.length := ⟨_, rfl⟩
      obtain ⟨kv, hkv⟩ : ∃ kv : Nat, kv = (putL ul).length := ⟨_, rfl⟩
      obtain ⟨m3, hm3⟩ : ∃ m3 : Nat, m3 = (valsB (vs.drop (j + 1))).length := ⟨_, rfl⟩
      have hvl : (valB u).length = kv + ul := by rw [valB_len, ← hul, ← hkv]
      have hkpos : 0 < kv := by rw [hkv]; exact List.length_pos_iff.2 (putL_ne _)
      obtain ⟨m, hm⟩ : ∃ m : Nat, m = kv + ul + m3 := ⟨_, rfl⟩
      have hml : (valB u ++ valsB (vs.drop (j + 1))).length = m := by rw [List.length_append, hvl, ← hm3, hm]
      rw [hml] at hlen cr0
      have hrd := hrs.rd
      have hhr := hrs.hr
      rw [hd, valsB_cons, hml] at hrd
      rw [hd, valsB_cons, hml] at hhr
      have hts : takeL (valB u ++ valsB (vs.drop (j + 1))) = (ul, kv, 0) := by
        unfold valB
        rw [List.append_assoc, ← hul, hkv]
        exact takeL_put ul (by have := HLB.out; omega) _
      have hN := Lib.hid (number_calls rb bb ul kv m cr Ar _ wo hhr hrs.hb (hrd.below hrs.below) hts (by have := HLB.out; omega) (by omega))
      have hs3 := hrd.sub kv (by omega)
      have hde : (valB u ++ valsB (vs.drop (j + 1))).drop kv = u ++ valsB (vs.drop (j + 1)) := by
        unfold valB
        rw [List.append_assoc, ← hul, hkv]
        exact List.drop_left' rfl
      rw [hde] at hs3
      obtain ⟨m2, hm2⟩ : ∃ m2 : Nat, m2 = ul + m3 := ⟨_, rfl⟩
      obtain ⟨q, hq⟩ : ∃ q : Nat, q = at_ + n - m2 := ⟨_, rfl⟩
      have hnn : k1 + (k2 + (valsB (vs.take j)).length) + m = n := by rw [HLB.out, hlen, Nat.add_assoc, Nat.add_assoc]
      obtain ⟨a1, w1a, w2a, posm, dle, hul2, hmk, hm23, hm3lt⟩ := read_arith at_ n k1 k2 _ kv ul m3 m m2 q p0 hat hn hkpos hm hm2 hq hnn HP0.out
      obtain ⟨cr2, hcr2⟩ : ∃ cr2 : Nat, cr2 = cr - kv := ⟨_, rfl⟩
      obtain ⟨A3, hA3⟩ : ∃ A3 : Option Addr, A3 = subA Ar kv cr := ⟨_, rfl⟩
      unfold NumR at hN
      rw [hmk, ← hcr2, ← hA3] at hN hs3
      have hs4 := hs3.sub ul hul2
      have hde2 : (u ++ valsB (vs.drop (j + 1))).drop ul = valsB (vs.drop (j + 1)) := by rw [hul]; exact List.drop_left' rfl
      rw [hde2] at hs4
      rw [hm23] at hs4
      have HM23 := Lib.hid hm23
      have HQ : Hid (spotsF p0 (vs.take (j + 1)) = spotsF p0 (vs.take j) ++ [(q, ul)]) := by
        rw [HTk.out, spotsF_snoc, ← hul, ← hkv, a1]
        exact rfl
      have hml2 : m2 ≤ cr2 := hs3.2.1
      have dleN : decide (m2 < ul) = false := by rw [decide_eq_false_iff_not]; exact Nat.not_lt.2 hul2
      have HS4 := Lib.hid hs4
      have hspl : (spotsF p0 (vs.take j)).length ≤ 1000000000 := by rw [spotsF_len, List.length_take]; omega
      have HM3 := Lib.hid (show m3 = (valsB (vs.drop (j + 1))).length ∧ m3 < m from ⟨hm3, hm3lt⟩)
      have HLM : Hid (leftN rb wo = m) := leftN_eq hhr
      clear hd hul hkv hm3 hvl hkpos hml hrd hhr hts hs3 hde hm2 hmk hcr2 hA3 hde2 hs4 hq hnn hlen hrs hm23 hm a1 hm3lt
      go_wp2_with fail
      refine hN.out.mono ?_
      rintro e w5 ⟨rfl, r5, b5, u5⟩
      have HR := HRR.out
      have hb5 : Below w.heap.size w w5 := (HR.below.trans (u5.bel HR.below.size (fun k hk => by rcases hk with e | e; rw [e]; exact HR.gr; rw [e]; exact HR.gb)))
      have nec : cb ≠ rb := blk_ne HR.hc HR.hr (by decide)
      have neb : cb ≠ bb := blk_ne HR.hc HR.hb (by decide)
      have nrb : rb ≠ bb := blk_ne HR.hr HR.hb (by decide)
      have n4r : r4 ≠ rb := blk_ne HR.h4 HR.hr (by decide)
      have n4b : r4 ≠ bb := blk_ne HR.h4 HR.hb (by decide)
      have C5 : Blk w5 cb 118 #[.int .i64 (kind : Int), .int .i64 (num : Int), sv] := (u5.block cb HR.hc.lt (fun hk => by rcases hk with e | e; exact nec e; exact neb e)).trans HR.hc
      have R45 : Blk w5 r4 118 #[.int .i64 0, .int .i64 0, .slice none 0 0] := (u5.block r4 HR.h4.lt (fun hk => by rcases hk with e | e; exact n4r e; exact n4b e)).trans HR.h4
      have O5 : w5.ownsRow w.heap.size 88 2 sv (spotsF p0 (vs.take j)).length (spk (spotsF p0 (vs.take j))) := row_keep HR.row (fun k hk => u5.block k (World.ownsRow.lt HR.row k hk).2 (fun e => by
        rcases e with e | e
        · exact row_type HR.row HR.hr (by decide) (e ▸ hk.symm)
        · exact row_type HR.row HR.hb (by decide) (e ▸ hk.symm)))
      have c0 : w5.cell? ⟨bb, 0, none⟩ = some (.bool false) := b5.cell 0
      have c1 : w5.cell? ⟨rb, 0, none⟩ = some (.slice A3 m2 cr2) := r5.cell 0
      have f5 := b5.frozen 0
      obtain ⟨w6, hw6⟩ : ∃ w6 : World, w6 = w5.setCell ⟨bb, 0, none⟩ (.bool false) := ⟨_, rfl⟩
      have K56 : KeepsOn (fun k => k ≠ bb) w5 w6 := fun k hk => by rw [hw6]; exact Below.heap_setCell w5 ⟨bb, 0, none⟩ _ k hk
      have B6 : Blk w6 bb 4 #[.bool false] := by rw [hw6]; exact (b5.set_ 0 _).eq_ rfl
      have R6 : Blk w6 rb 34 #[.slice A3 m2 cr2] := (K56 rb nrb).trans r5
      have C6 : Blk w6 cb 118 #[.int .i64 (kind : Int), .int .i64 (num : Int), sv] := (K56 cb neb).trans C5
      have R46 : Blk w6 r4 118 #[.int .i64 0, .int .i64 0, .slice none 0 0] := (K56 r4 n4b).trans R45
      have O6 := row_keep O5 (K56.mono fun k hk e => row_type O5 b5 (by decide) (e ▸ hk.symm))
      have hb6 : Below w.heap.size w w6 := by rw [hw6]; exact hb5.setCell (p := ⟨bb, 0, none⟩) HR.gb _
      obtain ⟨v7, w7, hrun, r7, g7⟩ := append_spot w6 w.heap.size sv _ q ul O6 hspl hb6.size
      obtain ⟨A7, l7, c7, hv7⟩ : ∃ A l c, v7 = .slice A l c := by
        obtain ⟨A, c, e⟩ := row_slice r7
        exact ⟨A, _, c, e⟩
      subst hv7
      have hba : Below w6.heap.size w6 (w6.alloc (.cells #[.int .i64 (q : Int), .int .i64 (ul : Int)] 88)) := (Below.refl _ _).alloc (Nat.le_refl _) _
      have nsv : ∀ k t cs, Blk w6 k t cs → t ≠ 88 → some k ≠ sv.ownBlock := fun k t cs hB ht => row_type O6 hB ht
      have K67 : ∀ k t cs, Blk w6 k t cs → t ≠ 88 → Blk w7 k t cs := fun k t cs hB ht => (hB.below hba hB.lt).grown g7 (nsv k t cs hB ht)
      have B7 := K67 _ _ _ B6 (by decide)
      have R7 := K67 _ _ _ R6 (by decide)
      have C7 := K67 _ _ _ C6 (by decide)
      have R47 := K67 _ _ _ R46 (by decide)
      have hb7 : Below w.heap.size w w7 := (hb6.trans (hba.mono hb6.size)).grown g7 (by simp; have := hb6.size; omega) (fun k hk => (World.ownsRow.lt O6 k hk).1)
      obtain ⟨w8, hw8⟩ : ∃ w8 : World, w8 = w7.setCell ⟨cb, 2, none⟩ (.slice A7 l7 c7) := ⟨_, rfl⟩
      have K78 : KeepsOn (fun k => k ≠ cb) w7 w8 := fun k hk => by rw [hw8]; exact Below.heap_setCell w7 ⟨cb, 2, none⟩ _ k hk
      have B8 : Blk w8 bb 4 #[.bool false] := (K78 bb (fun e => neb e.symm)).trans B7
      have R8 : Blk w8 rb 34 #[.slice A3 m2 cr2] := (K78 rb (fun e => nec e.symm)).trans R7
      have C8 : Blk w8 cb 118 #[.int .i64 (kind : Int), .int .i64 (num : Int), .slice A7 l7 c7] := by rw [hw8]; exact (C7.set_ 2 _).eq_ rfl
      have R48 : Blk w8 r4 118 #[.int .i64 0, .int .i64 0, .slice none 0 0] := (K78 r4 HR.ne).trans R47
      have O8 := row_keep r7 (K78.mono fun k hk e => row_type r7 C7 (by decide) (e ▸ hk.symm))
      have hb8 : Below w.heap.size w w8 := by rw [hw8]; exact hb7.setCell (p := ⟨cb, 2, none⟩) HR.gc _
      have HFIN : Hid (∀ A9 c9 mm, A9 = subA A3 ul cr2 → c9 = cr2 - ul → mm = m3 → RS w (w8.setCell ⟨rb, 0, none⟩ (.slice A9 mm c9)) r4 rb bb cb kind num (.slice A7 l7 c7) (spotsF p0 (vs.take (j + 1))) (valsB (vs.drop (j + 1))) A9 (valsB (vs.drop (j + 1))).length c9) := fun A9 c9 mm eA ec em => by
        subst eA ec
        rw [em]
        rw [← HM3.out.1]
        have K89 : KeepsOn (fun k => k ≠ rb) w8 (w8.setCell ⟨rb, 0, none⟩ (.slice (subA A3 ul cr2) m3 (cr2 - ul))) := fun k hk => Below.heap_setCell w8 ⟨rb, 0, none⟩ _ k hk
        refine ⟨hb8.setCell (p := ⟨rb, 0, none⟩) HR.gr _, HR.g4, HR.gr, HR.gb, HR.gc, (K89 r4 n4r).trans R48, (R8.set_ 0 _).eq_ rfl, (K89 bb (fun e => nrb e.symm)).trans B8, (K89 cb nec).trans C8, ?_, HR.ne, HS4.out⟩
        rw [HQ.out]
        exact row_keep O8 (K89.mono fun k hk e => row_type O8 R8 (by decide) (e ▸ hk.symm))
      have c60 : w6.cell? ⟨bb, 0, none⟩ = some (.bool false) := B6.cell 0
      have c61 : w6.cell? ⟨rb, 0, none⟩ = some (.slice A3 m2 cr2) := R6.cell 0
      have c62 : w6.cell? ⟨cb, 2, none⟩ = some sv := C6.cell 2
      have c72 : w7.cell? ⟨cb, 2, none⟩ = some sv := C7.cell 2
      have f72 := C7.frozen 2
      have c80 : w8.cell? ⟨rb, 0, none⟩ = some (.slice A3 m2 cr2) := R8.cell 0
      have f80 := R8.frozen 0
      have HW6 := Lib.hid hw6
      have HW8 := Lib.hid hw8
      have HM0 : Hid (∀ A9 c9 mm, leftN rb (w8.setCell ⟨rb, 0, none⟩ (.slice A9 mm c9)) = mm) := fun A9 c9 mm => leftN_eq (Ar := A9) (cr := c9) ((R8.set_ 0 _).eq_ rfl)
      have hz6 : w6.heap.size = w5.heap.size := by rw [hw6]; simp [World.setCell]
      rw [hz6] at hrun
      clear hz6
      rw [hw6] at c60 c61 c62 hrun
      rw [hw8] at c80 f80
      clear hw6 hw8 B6 R6 C6 R46 O6 hb6 r7 g7 hba nsv K67 B7 R7 C7 R47 hb7 K78 B8 R8 C8 R48 O8 hb8 r5 b5 u5 C5 R45 O5 hb5 HR K56 neb n4b n4r
      rw [HW8.out] at HFIN HM0
      by_cases hcu : cr2 = ul
      · have HX := Lib.hid (show A3 = subA A3 ul cr2 ∧ 0 = cr2 - ul ∧ 0 = m3 from ⟨by unfold subA; rw [if_pos hcu], (read_arith2 m2 ul m3 cr2 HM23.out hml2 hcu).1, (read_arith2 m2 ul m3 cr2 HM23.out hml2 hcu).2⟩)
        subst hcu
        go_wp2_with (at_builtin; refine Lib.wpList_append_run _ rfl _ _ _ _ rfl _ _ rfl rfl _ _ hrun ?_)
        go_roundw
        case rel =>
          have h9 := HFIN.out _ _ _ HX.out.1 HX.out.2.1 HX.out.2.2
          exact ⟨j + 1, _, _, _, by omega, h9⟩
        case measure =>
          have h0 := HM0.out A3 0 0
          rw [h0, HLM.out]
          rw [HX.out.2.2]; exact HM3.out.2
      · have HX := Lib.hid (show A3.map (fun x => x.add ul) = subA A3 ul cr2 by unfold subA; rw [if_neg hcu])
        go_wp2_with (at_builtin; refine Lib.wpList_append_run _ rfl _ _ _ _ rfl _ _ rfl rfl _ _ hrun ?_)
        go_roundw
        case rel =>
          have h9 := HFIN.out _ _ _ HX.out rfl HM23.out
          exact ⟨j + 1, _, _, _, by omega, h9⟩
        case measure =>
          have h0 := HM0.out (A3.map (fun x => x.add ul)) (cr2 - ul) (m2 - ul)
          rw [h0, HLM.out]
          rw [HM23.out]; exact HM3.out.2
    · obtain rfl : j = vs.length := by omega
      have hz : (valsB (vs.drop vs.length)).length = 0 := by rw [List.drop_length]; rfl
      rw [hz] at cr0
      have htk : vs.take vs.length = vs := List.take_length
      have hrow := hrs.row
      rw [htk, spotsF_len] at hrow
      obtain ⟨As, cs, hsv⟩ := row_slice hrow
      obtain ⟨ls, hls⟩ : ∃ ls, ls = vs.length := ⟨_, rfl⟩
      rw [← hls] at hsv
      have d0 : wo.cell? ⟨cb, 0, none⟩ = some (.int .i64 (kind : Int)) := hrs.hc.cell 0
      have d1 : wo.cell? ⟨cb, 1, none⟩ = some (.int .i64 (num : Int)) := hrs.hc.cell 1
      have d2 : wo.cell? ⟨cb, 2, none⟩ = some sv := hrs.hc.cell 2
      rw [hsv] at d2
      have r0 : wo.cell? ⟨r4, 0, none⟩ = some (.int .i64 0) := hrs.h4.cell 0
      have r1 : wo.cell? ⟨r4, 1, none⟩ = some (.int .i64 0) := hrs.h4.cell 1
      have r2 : wo.cell? ⟨r4, 2, none⟩ = some (.slice none 0 0) := hrs.h4.cell 2
      have fz0 := hrs.h4.frozen 0
      have fz1 := hrs.h4.frozen 1
      have fz2 := hrs.h4.frozen 2
      have n1 : ¬ r4 = bb := blk_ne hrs.h4 hrs.hb (by decide)
      have n2 : ¬ bb = r4 := fun e => n1 e.symm
      have n3 : ¬ r4 = cb := hrs.ne
      have n4 : ¬ cb = r4 := fun e => n3 e.symm
      have HROW := Lib.hid hrow
      have HSV := Lib.hid hsv
      clear hrs hrow hsv hj hlt hz htk hls
      go_wp2_with fail
      have HRR2 := HRR.out
      rw [HSV.out] at HRR2
      have HBF : Hid (Blk (((wo.setCell ⟨r4, 0, none⟩ (.int .i64 (kind : Int))).setCell ⟨r4, 1, none⟩ (.int .i64 (num : Int))).setCell ⟨r4, 2, none⟩ (.slice As ls cs)) r4 118 #[.int .i64 (kind : Int), .int .i64 (num : Int), .slice As ls cs]) :=
        (((HRR2.h4.set_ 0 _).set_ 1 _).set_ 2 _).eq_ rfl
      have HRES : Hid (ReadC w kind num at_ vs (.returned (.tuple #[.agg #[.int .i64 (kind : Int), .int .i64 (num : Int), .slice As ls cs], .bool true])) (((wo.setCell ⟨r4, 0, none⟩ (.int .i64 (kind : Int))).setCell ⟨r4, 1, none⟩ (.int .i64 (num : Int))).setCell ⟨r4, 2, none⟩ (.slice As ls cs)).drew) := by
        refine ⟨_, rfl, ?_, (((HRR2.below.setCell (p := ⟨r4, 0, none⟩) HRR2.g4 _).setCell (p := ⟨r4, 1, none⟩) HRR2.g4 _).setCell (p := ⟨r4, 2, none⟩) HRR2.g4 _).drew⟩
        have hr := HROW.out
        rw [HSV.out] at hr
        rw [← HK1.out, ← HK2.out, ← HP0.out]
        have hne : ∀ k, ownS (.slice As ls cs) k → k ≠ r4 := fun k hk e => row_type hr HRR2.h4 (by decide) (e ▸ hk.symm)
        exact row_keep hr (fun k hk => ((Below.heap_setCell _ ⟨r4, 2, none⟩ _ k (hne k hk)).trans (Below.heap_setCell _ ⟨r4, 1, none⟩ _ k (hne k hk))).trans (Below.heap_setCell wo ⟨r4, 0, none⟩ _ k (hne k hk)))
      clear HRR2
      go_region
      all_goals
        go_wp2_with fail
        (try simp only [Exit.inBlock, Exit.then])
        exact bodyPost_ret (results_agg_tmp (q := 5) rfl _ _ r4 #[.int .i64 (kind : Int), .int .i64 (num : Int), .slice As ls cs] rfl Tryz.agg118 (cellsAt_blk (Blk.drew HBF.out))) rfl HRES.out
end Go.Proofs.YtejnfahfjmeabaaGreatDoor
namespace Go.Proofs.YtejnfahfjmeabaaGreatDoor
open Go.RowKit
set_option linter.unusedSimpArgs false
set_option linter.unusedVariables false

theorem Tryz.info89 : (Tryz.prog.info? 89).map (fun i => (i.zero, i.size, i.bytes)) = some (some (.slice none 0 0), 1, 24) := by kernel_rfl
theorem addr_at (g o j : Nat) : (⟨g, o, none⟩ : Addr).add j = ⟨g, o + j, none⟩ := by
  unfold Addr.add
  split
  · next h => subst h; rfl
  · rfl
/-- the items' values, one by one -/
theorem ItemsM.vals {w : World} {q : Blocks} {g off : Nat} {cur : Array Value} : ∀ (its : List (List (Nat × Nat))), (∀ (j : Nat) sp, its[j]? = some sp → ∃ v, cur[off + j]? = some v ∧ SpotsM w q v sp) →
    ∃ vs : List Value, vs.length = its.length ∧ ∀ (j : Nat) sp, its[j]? = some sp → ∃ v, vs[j]? = some v ∧ cur[off + j]? = some v ∧ SpotsM w q v sp := by
  intro its h
  refine ⟨(List.range its.length).map fun j => cur.getD (off + j) undef, by simp, fun j sp hj => ?_⟩
  obtain ⟨v, h1, h2⟩ := h j sp hj
  have hlt : j < its.length := (List.getElem?_eq_some_iff.1 hj).1
  refine ⟨v, ?_, h1, h2⟩
  rw [List.getElem?_map, List.getElem?_range hlt]
  simp [Array.getD_eq_getD_getElem?, h1]
theorem items_of_row {w : World} {q : Blocks} {B : Nat} {v : Value} {its : List (List (Nat × Nat))} {vs : List Value} (h : w.ownsRow B 89 1 v its.length vs) (hq : ∀ k, ownS v k → q k) (hv : ∀ (j : Nat) sp, its[j]? = some sp → ∃ u, vs[j]? = some u ∧ SpotsM w q u sp) : ItemsM w q v its := by
  rcases h.2 with ⟨e, h0⟩ | ⟨g, cap, cur, e, _, hh, h1, h2, h3, h4⟩
  · exact .inl ⟨e, List.eq_nil_of_length_eq_zero h0⟩
  · refine .inr ⟨g, 0, cap, cur, e, hh, by omega, h1, by omega, hq g (by rw [e]; rfl), fun j sp hj => ?_⟩
    obtain ⟨u, hu, hs⟩ := hv j sp hj
    have hlt : j < its.length := (List.getElem?_eq_some_iff.1 hj).1
    refine ⟨u, ?_, hs⟩
    rw [Nat.zero_add, ← Array.getElem?_toList]
    rw [← h4, List.getElem?_take, if_pos (by omega)] at hu
    exact hu
theorem spots_blk {w : World} {q : Blocks} {v : Value} {sp : List (Nat × Nat)} (h : SpotsM w q v sp) {g : Nat} {cur : Array Value} (hb : Blk w g 89 cur) : ∀ k, ownS v k → k ≠ g := fun k hk e => row_type h.1 hb (by decide) (e ▸ hk.symm)
theorem SpotsM.at_ {w w' : World} {q q' : Blocks} {v : Value} {sp : List (Nat × Nat)} (h : SpotsM w q v sp) (hk : KeepsOn (ownS v) w w') (hs : ∀ k, q k → q' k) : SpotsM w' q' v sp := ⟨row_keep h.1 hk, fun k e => hs k (h.2 k e)⟩
/-- the blocks of the items behind an append -/
def qApp (q : Blocks) (sv : Value) (w w' : World) : Blocks := fun k => q k ∨ ownS sv k ∨ (w.heap.size ≤ k ∧ k < w'.heap.size)
theorem append_item (w : World) (q : Blocks) (iv sv : Value) (its : List (List (Nat × Nat))) (sp : List (Nat × Nat)) (h : ItemsM w q iv its) (hs : SpotsM w (ownS sv) sv sp) (hl : its.length ≤ 1000000000) (hsv : sv.oneCell' = true) (hql : ∀ k, q k → k < w.heap.size) :
    ∃ iv' w', (Builtin.append_ #[78, 78] 78 #[iv, .slice (some ⟨w.heap.size, 0, none⟩) 1 1]).run Tryz.prog (w.alloc (.cells #[sv] 89)) = .ok iv' w' ∧ ItemsM w' (qApp q sv w w') iv' (its ++ [sp]) ∧ Upd q q w w' := by
  obtain ⟨i0, hi0, hz0, hz1, hz2⟩ := info_parts Tryz.info89
  obtain ⟨wa, hwa⟩ : ∃ wa : World, wa = w.alloc (.cells #[sv] 89) := ⟨_, rfl⟩
  have hba : Below w.heap.size w wa := by rw [hwa]; exact (Below.refl _ _).alloc (Nat.le_refl _) _
  have hza : wa.heap.size = w.heap.size + 1 := by rw [hwa]; simp
  have hnew : ∀ j u, [sv][j]? = some u → wa.cell? ((⟨w.heap.size, 0, none⟩ : Addr).add j) = some u := by
    intro j u hu
    have hc := (Blk.new w 89 #[sv]).cell j
    rw [addr_at, Nat.zero_add, hwa, hc]
    simpa using hu
  have h1c : ∀ u ∈ [sv], u.oneCell' = true := by simpa using hsv
  rw [← hwa]
  have svlt : ∀ k, ownS sv k → k < w.heap.size := fun k hk => (World.ownsRow.lt hs.1 k hk).2
  rcases h with ⟨rfl, rfl⟩ | ⟨g, off, cap, cur, rfl, hB, h1, h2, h3, h4, h5⟩
  · obtain ⟨v', w', hrun, r1, r2, _, r4⟩ := run_append_own_at (P := Tryz.prog) wa 0 78 78 89 i0 _ 1 24 Tryz.underlying78 hi0 hz0 hz1 hz2 rfl (by decide) (.slice none 0 0) 0 [] (World.ownsRow_nil _ _ _ _) ⟨w.heap.size, 0, none⟩ 1 1 [sv] rfl hnew h1c (by unfold maxLen; omega) (by omega) (Nat.zero_le _)
    have hb' : Below w.heap.size w w' := hba.grown r2 (by omega) (fun k hk => by cases hk)
    refine ⟨v', w', hrun, items_of_row (vs := [sv]) r1 (fun k hk => ?_) (fun j sp' hj => ?_), Upd.below hb'⟩
    · rcases r4 with e | e
      · have : ownS v' k := hk
        unfold ownS at this
        rw [e] at this
        cases this
      · have e' := e.symm.trans hk
        have : k = wa.heap.size := (Option.some.inj e').symm
        have hk2 := (World.ownsRow.lt r1 k hk).2
        exact .inr (.inr ⟨by omega, hk2⟩)
    · have hj0 : j = 0 := by
        have := (List.getElem?_eq_some_iff.1 hj).1
        simpa using this
      subst hj0
      obtain rfl : sp = sp' := by simpa using hj
      exact ⟨sv, rfl, hs.at_ (KeepsOn.below hb' svlt) (fun k hk => .inr (.inl hk))⟩
  · have hBa : Blk wa g 89 cur := hB.below hba hB.lt
    by_cases hroom : its.length + 1 ≤ cap
    · have hsz : off + its.length < cur.size := by omega
      have hfz : ∀ j, j < [sv].length → (wa.cell? ⟨g, off + its.length * i0.size + j, none⟩).isSome = true := fun j hj => by
        obtain rfl : j = 0 := by simpa using hj
        rw [hz1, Nat.mul_one, Nat.add_zero, hBa.cell]
        rw [Array.getElem?_eq_getElem hsz]; rfl
      have hrun := run_append_room_cells (P := Tryz.prog) wa 78 78 89 i0 Tryz.underlying78 hi0 g off its.length cap ⟨w.heap.size, 0, none⟩ 1 1 [sv] (by rw [hz1]; rfl) hnew h1c hroom hfz (fun j hj => hBa.frozen _)
      rw [hz1, Nat.mul_one] at hrun
      have hBn : Blk (wa.setCells g (off + its.length) [sv]) g 89 (cur.setIfInBounds (off + its.length) sv) := hBa.set_ _ _
      have hother : ∀ k, k ≠ g → (wa.setCells g (off + its.length) [sv]).heap[k]? = wa.heap[k]? := fun k hk => heap_setCells_other [sv] _ wa g k hk
      have key : ∀ k, k < w.heap.size → k ≠ g → (wa.setCells g (off + its.length) [sv]).heap[k]? = w.heap[k]? := fun k h1 h2 => (hother k h2).trans (hba.block k h1)
      refine ⟨_, _, hrun, .inr ⟨g, off, cap, _, by rw [List.length_append]; rfl, hBn, by simpa using h1, by rw [List.length_append]; simpa using hroom, h3, .inl h4, fun j sp' hj => ?_⟩, ?_⟩
      · by_cases hjl : j < its.length
        · rw [List.getElem?_append_left hjl] at hj
          obtain ⟨v, hv, hsp⟩ := h5 j sp' hj
          refine ⟨v, ?_, hsp.at_ (fun k hk => key k (World.ownsRow.lt hsp.1 k hk).2 (spots_blk hsp hB k hk)) (fun k hk => .inl hk)⟩
          rw [Array.getElem?_setIfInBounds, if_neg (by omega)]
          exact hv
        · have hj0 : j = its.length := by
            have := (List.getElem?_eq_some_iff.1 hj).1
            rw [List.length_append, List.length_singleton] at this
            omega
          subst hj0
          rw [List.getElem?_append_right (Nat.le_refl _), Nat.sub_self] at hj
          obtain rfl : sp = sp' := by simpa using hj
          refine ⟨sv, ?_, hs.at_ (fun k hk => key k (svlt k hk) (spots_blk hs hB k hk)) (fun k hk => .inr (.inl hk))⟩
          rw [Array.getElem?_setIfInBounds, if_pos rfl, if_pos hsz]
      · have hu := upd_setCells wa g (off + its.length) [sv]
        exact (Upd.below hba).thenS hu (fun k hk => by cases hk; exact .inl h4)
    · obtain ⟨vs, hvl, hv⟩ := ItemsM.vals (w := w) (q := q) (g := g) (off := off) (cur := cur) its h5
      have holds : ∀ j u, vs[j]? = some u → wa.cell? ((⟨g, off, none⟩ : Addr).add j) = some u := fun j u hu => by
        have hlt : j < its.length := by rw [← hvl]; exact (List.getElem?_eq_some_iff.1 hu).1
        obtain ⟨v, e1, e2, _⟩ := hv j _ (List.getElem?_eq_getElem hlt)
        rw [addr_at, hBa.cell, e2, ← e1, hu]
      obtain ⟨v', w', hrun, r1, r2⟩ := run_append_arg_grows (P := Tryz.prog) wa 78 78 89 i0 _ 1 24 Tryz.underlying78 hi0 hz0 hz1 hz2 rfl (by decide) ⟨g, off, none⟩ its.length cap vs (by rw [hvl, Nat.mul_one]) holds ⟨w.heap.size, 0, none⟩ 1 1 [sv] rfl hnew (by omega) (by unfold maxLen; omega) (by omega)
      have hb' : Below w.heap.size w w' := hba.grown r2 (by omega) (fun k hk => by cases hk)
      have hlen : (its ++ [sp]).length = its.length + 1 := by simp
      refine ⟨v', w', hrun, items_of_row (vs := vs ++ [sv]) (by rw [hlen]; exact r1) (fun k hk => ?_) (fun j sp' hj => ?_), Upd.below hb'⟩
      · have h6 := World.ownsRow.lt r1 k hk
        exact .inr (.inr ⟨by omega, h6.2⟩)
      · by_cases hjl : j < its.length
        · rw [List.getElem?_append_left hjl] at hj
          obtain ⟨v, e1, e2, hsp⟩ := hv j sp' hj
          exact ⟨v, by rw [List.getElem?_append_left (by omega)]; exact e1, hsp.at_ (KeepsOn.below hb' fun k hk => (World.ownsRow.lt hsp.1 k hk).2) (fun k hk => .inl hk)⟩
        · have hj0 : j = its.length := by
            have := (List.getElem?_eq_some_iff.1 hj).1
            rw [List.length_append, List.length_singleton] at this
            omega
          subst hj0
          rw [List.getElem?_append_right (Nat.le_refl _), Nat.sub_self] at hj
          obtain rfl : sp = sp' := by simpa using hj
          refine ⟨sv, ?_, hs.at_ (KeepsOn.below hb' svlt) (fun k hk => .inr (.inl hk))⟩
          rw [List.getElem?_append_right (by omega), hvl, Nat.sub_self]
          rfl
/-- the first ones alone -/
theorem ItemsM.take {w : World} {q : Blocks} {A : Option Addr} {n c : Nat} {its : List (List (Nat × Nat))} (h : ItemsM w q (.slice A n c) its) (k : Nat) (hk : k ≤ its.length) : ItemsM w q (.slice A k c) (its.take k) := by
  rcases h with ⟨e, rfl⟩ | ⟨g, off, cap, cur, e, hB, h1, h2, h3, h4, h5⟩
  · cases e
    obtain rfl : k = 0 := by simpa using hk
    exact .inl ⟨rfl, rfl⟩
  · cases e
    refine .inr ⟨g, off, c, cur, by rw [List.length_take, Nat.min_eq_left hk], hB, h1, by rw [List.length_take]; omega, h3, h4, fun j sp hj => ?_⟩
    rw [List.getElem?_take] at hj
    split at hj
    · exact h5 j sp hj
    · cases hj
/-- without the first ones -/
theorem ItemsM.drop {w : World} {q : Blocks} {A : Option Addr} {n c : Nat} {its : List (List (Nat × Nat))} (h : ItemsM w q (.slice A n c) its) (k : Nat) (hk : k ≤ its.length) : ItemsM w q (.slice (subA A k c) (n - k) (c - k)) (its.drop k) := by
  rcases h with ⟨e, rfl⟩ | ⟨g, off, cap, cur, e, hB, h1, h2, h3, h4, h5⟩
  · cases e
    obtain rfl : k = 0 := by simpa using hk
    exact .inl ⟨rfl, rfl⟩
  · cases e
    by_cases hc : c = k
    · subst hc
      have hn : its.length - c = 0 := by omega
      refine .inr ⟨g, off, 0, cur, ?_, hB, by omega, by rw [List.length_drop]; omega, by omega, h4, fun j sp hj => ?_⟩
      · unfold subA
        rw [if_pos rfl, List.length_drop, Nat.sub_self]
      · have := (List.getElem?_eq_some_iff.1 hj).1
        rw [List.length_drop] at this
        omega
    · refine .inr ⟨g, off + k, c - k, cur, ?_, hB, by omega, by rw [List.length_drop]; omega, by omega, h4, fun j sp hj => ?_⟩
      · unfold subA
        rw [if_neg hc, List.length_drop]
        show Value.slice (some ((⟨g, off, none⟩ : Addr).add k)) _ _ = _
        rw [addr_at]
      · rw [List.getElem?_drop] at hj
        obtain ⟨v, h6, h7⟩ := h5 (k + j) sp hj
        exact ⟨v, by rw [Nat.add_assoc]; exact h6, h7⟩
end Go.Proofs.YtejnfahfjmeabaaGreatDoor
namespace Go.Proofs.YtejnfahfjmeabaaGreatDoor
open Go.RowKit
set_option linter.unusedSimpArgs false
set_option linter.unusedVariables false

set_option maxRecDepth 100000 in
set_option maxHeartbeats 1000000 in
theorem head_n (f d tail n c size : Nat) (tv : Value) (A : Option Addr) (dead closed : Bool) (w : World) (h : Blk w f 80 (zk d tv size tail (.slice A n c) dead closed)) (h1 : tail + n ≤ 4611686018427387904) :
    Calls Tryz.prog 14 #[.pointer (some ⟨f, 0, none⟩)] w fun e w' => e = .returned (.int .i64 ((tail + n : Nat) : Int)) ∧ ∃ q, w' = w.drewN q := by
  have c3 : w.cell? ⟨f, 3, none⟩ = some (.int .i64 (tail : Int)) := h.cell 3
  have c4 : w.cell? ⟨f, 4, none⟩ = some (.slice A n c) := h.cell 4
  have hw1 : wrap64 ((tail : Int) + (n : Int)) = ((tail + n : Nat) : Int) := by rw [wrap_ok _ (by omega) (by omega)]; omega
  have hw2 : IntKind.i64.wrap ((tail : Int) + (n : Int)) = ((tail + n : Nat) : Int) := by simp [IntKind.wrap, IntKind.bits, IntKind.signed]; omega
  clear h
  go_enter Tryz.func14, Tryz.ntmps14
  go_wp2_with fail
  go_quiet (fail)
  go_wp2_with fail
  go_ret
  exact ⟨by rw [Int.natCast_add]; rfl, _, rfl⟩
set_option maxRecDepth 100000 in
set_option maxHeartbeats 1000000 in
theorem tail_n (f d tail size : Nat) (tv iv : Value) (dead closed : Bool) (w : World) (h : Blk w f 80 (zk d tv size tail iv dead closed)) :
    Calls Tryz.prog 13 #[.pointer (some ⟨f, 0, none⟩)] w fun e w' => e = .returned (.int .i64 (tail : Int)) ∧ w' = w := by
  have c3 : w.cell? ⟨f, 3, none⟩ = some (.int .i64 (tail : Int)) := h.cell 3
  clear h
  go_enter Tryz.func13, Tryz.ntmps13
  go_wp2_with fail
  go_ret
  exact ⟨rfl, rfl⟩
set_option maxRecDepth 100000 in
set_option maxHeartbeats 1000000 in
theorem alive_ok (f d tail size : Nat) (tv iv : Value) (s : ByteArray) (w : World) (h : Blk w f 80 (zk d tv size tail iv false false)) :
    Calls Tryz.prog 37 #[.pointer (some ⟨f, 0, none⟩), .string s] w fun e w' => e = .returned .nilIface ∧ w' = w := by
  have c5 : w.cell? ⟨f, 5, none⟩ = some (.bool false) := h.cell 5
  have c6 : w.cell? ⟨f, 6, none⟩ = some (.bool false) := h.cell 6
  clear h
  go_enter Tryz.func37, Tryz.ntmps37
  go_wp2_with fail
  go_ret
  exact ⟨rfl, rfl⟩
set_option maxRecDepth 100000 in
set_option maxHeartbeats 1000000 in
theorem close_ok (f d tail size : Nat) (tv iv : Value) (dead : Bool) (w : World) (h : Blk w f 80 (zk d tv size tail iv dead false)) :
    Calls Tryz.prog 16 #[.pointer (some ⟨f, 0, none⟩)] w fun e w' => e = .returned .nilIface ∧ w' = w.setCell ⟨f, 6, none⟩ (.bool true) := by
  have c6 : w.cell? ⟨f, 6, none⟩ = some (.bool false) := h.cell 6
  have f6 := h.frozen 6
  clear h
  go_enter Tryz.func16, Tryz.ntmps16
  go_wp2_with fail
  go_ret
  exact ⟨rfl, rfl⟩
end Go.Proofs.YtejnfahfjmeabaaGreatDoor
