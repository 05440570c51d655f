/- the texts D16, D17, E17, E18, E19, D18 of this proof, one behind the other -/
import Derived.Test.YtfjfjjcdlgdbcaaDoorF9
namespace Go.Proofs.YtfjfjjcdlgdbcaaDoor
open Go.RowKit
set_option linter.unusedSimpArgs false
set_option linter.unusedVariables false

theorem ncat (a b : List UInt8) (h : a.length + b.length ≤ 1000000) : ¬ 9223372036854775807 < (str a).size + (str b).size := by rw [str_size, str_size]; omega
set_option maxRecDepth 100000 in
set_option maxHeartbeats 4000000 in
theorem head54_calls (x : EntP) (B S : Option Addr) (m d l q : Nat) (w : World) (hE : RdEnt w x B m d S l q) (hcl : x.code.length ≤ 10000) :
    Calls Tryd.prog 54 #[.agg (ek x (.slice B m d) (.slice S l q))] w fun e w' => e = .returned (.string (str (Lib.join (headSS x) [32]))) ∧ Below w.heap.size w w' := by
  have HF := Lib.hid hE.fit
  have HCD := Lib.hid hE.code
  have hlc := hE.code.1
  have hN := Lib.hid (Blk.new w 79 (ek x (.slice B m d) (.slice S l q)))
  have hal : Hid (Below w.heap.size w (w.alloc (.cells (ek x (.slice B m d) (.slice S l q)) 79))) := al (Below.refl _ _) _
  have c53 := (hN.out.cell 53).trans (ek_tail x _ _ HF.out 0)
  simp only [List.getElem?_cons_zero] at c53
  have hi61 : Hid ((Tryd.prog.info? 61).map (·.size) = some (bvs x.bal).length) := by rw [bvs_length, hE.fit.hb]; exact Tryd.agg61d.2
  obtain ⟨cd, hcd⟩ : ∃ cd, cd = dotL (hexL x.code) := ⟨_, rfl⟩
  have hl1 : (hexL x.addr).length = 40 := by rw [hexL_length, hE.fit.ha]
  have hl2 : (Lib.decDigits x.nonce).length ≤ 20 := dLen 19 _ (Nat.lt_of_lt_of_le hE.fit.hn (by decide))
  have hl3 : (Lib.decDigits (valW x.bal)).length ≤ 78 := dLen 77 _ (Nat.lt_of_lt_of_le (valW_lt 32 _ hE.fit.hb) (by decide))
  have hl4 : cd.length ≤ 20001 := by rw [hcd]; have := dotL_len (hexL x.code); rw [hexL_length] at this; omega
  obtain ⟨s1, hs1⟩ : ∃ s, s = [97, 99, 99, 111, 117, 110, 116, 32] ++ hexL x.addr := ⟨_, rfl⟩
  obtain ⟨s2, hs2⟩ : ∃ s, s = s1 ++ [32] := ⟨_, rfl⟩
  obtain ⟨s3, hs3⟩ : ∃ s, s = s2 ++ Lib.decDigits x.nonce := ⟨_, rfl⟩
  obtain ⟨s4, hs4⟩ : ∃ s, s = s3 ++ [32] := ⟨_, rfl⟩
  obtain ⟨s5, hs5⟩ : ∃ s, s = s4 ++ Lib.decDigits (valW x.bal) := ⟨_, rfl⟩
  obtain ⟨s6, hs6⟩ : ∃ s, s = s5 ++ [32] := ⟨_, rfl⟩
  obtain ⟨s7, hs7⟩ : ∃ s, s = s6 ++ cd := ⟨_, rfl⟩
  have HR := Lib.hid (show Lib.join (headSS x) [32] = s7 by rw [hs7, hs6, hs5, hs4, hs3, hs2, hs1, hcd]; simp [headSS, accW, Lib.join_cons, Lib.joinTail])
  have k1 : s1.length ≤ 100 := by rw [hs1]; simp [hl1]
  have k2 : s2.length ≤ 200 := by rw [hs2]; simp; omega
  have k3 : s3.length ≤ 300 := by rw [hs3]; simp; omega
  have k4 : s4.length ≤ 400 := by rw [hs4]; simp; omega
  have k5 : s5.length ≤ 500 := by rw [hs5]; simp; omega
  have k6 : s6.length ≤ 600 := by rw [hs6]; simp; omega
  have q1 := Lib.hid ((str_cat [97, 99, 99, 111, 117, 110, 116, 32] (hexL x.addr)).trans (congrArg str hs1.symm))
  have q2 := Lib.hid ((str_cat s1 [32]).trans (congrArg str hs2.symm))
  have q3 := Lib.hid ((str_cat s2 _).trans (congrArg str hs3.symm))
  have q4 := Lib.hid ((str_cat s3 [32]).trans (congrArg str hs4.symm))
  have q5 := Lib.hid ((str_cat s4 _).trans (congrArg str hs5.symm))
  have q6 := Lib.hid ((str_cat s5 [32]).trans (congrArg str hs6.symm))
  have q7 := Lib.hid ((str_cat s6 _).trans (congrArg str hs7.symm))
  have z1 := Lib.hid (ncat [97, 99, 99, 111, 117, 110, 116, 32] (hexL x.addr) (by simp; omega))
  have z2 := Lib.hid (ncat s1 [32] (by simp; omega))
  have z3 := Lib.hid (ncat s2 (Lib.decDigits x.nonce) (by omega))
  have z4 := Lib.hid (ncat s3 [32] (by simp; omega))
  have z5 := Lib.hid (ncat s4 (Lib.decDigits (valW x.bal)) (by omega))
  have z6 := Lib.hid (ncat s5 [32] (by simp; omega))
  have z7 := Lib.hid (ncat s6 cd (by omega))
  have hhx := Lib.hid (Hex20_calls B m d x.code _ (HCD.out.below hal.out) (by omega))
  clear hs1 hs2 hs3 hs4 hs5 hs6 hs7 hE hl1 hl2 hl3 hl4 k1 k2 k3 k4 k5 k6
  have e1 : (⟨#[97, 99, 99, 111, 117, 110, 116, 32]⟩ : ByteArray) = str [97, 99, 99, 111, 117, 110, 116, 32] := rfl
  have e2 : (⟨#[32]⟩ : ByteArray) = str [32] := rfl
  have e3 : (⟨#[46]⟩ : ByteArray) = str [46] := rfl
  by_cases hnil : hexL x.code = []
  · obtain rfl : cd = [46] := by rw [hcd, hnil]; rfl
    rw [hnil, str_nil] at hhx
    clear hcd hlc hnil hcl
    go_enter Tryd.func54, Tryd.ntmps54
    rw [e1, e2, e3]
    clear e1 e2 e3
    go_wp2_with (go_at_call 68; refine hhx.out.mono ?_; rintro e w4 ⟨rfl, hb4⟩)
    have HB4 := Lib.hid (hN.out.below hb4 (by simp))
    have HW4 := Lib.hid (thn hal.out hb4)
    clear hb4 c53
    refine wp_region_held_drew (S := fun W => Blk W w.heap.size 79 (ek x (.slice B m d) (.slice S l q)) ∧ Below w.heap.size w W) (by kernel_rfl) (⟨HB4.out.drew, HW4.out.drew⟩) (fun hHeld => ?_)
    refine wpAnyH_take (i := 0) (v := .pointer (some ⟨w.heap.size, 0, none⟩)) rfl (by kernel_rfl) (by kernel_rfl) (by kernel_rfl) (fun _ _ _ h => h) (.inl ⟨by rfl, fun W hS => by go_simp⟩) hHeld ?_
    simp only [Act.put, List.setIfInBounds_toArray, List.set_cons_zero, List.set_cons_succ, List.getElem_toArray, List.getElem_cons_succ, List.getElem_cons_zero]
    refine wpAnyH_take (i := 1) (v := .slice (some ⟨w.heap.size, 0, none⟩) 20 20) rfl (by kernel_rfl) (by kernel_rfl) (by kernel_rfl) (fun _ _ _ h => h) (.inl ⟨by rfl, fun W hS => by go_simp⟩) hHeld ?_
    simp only [Act.put, List.setIfInBounds_toArray, List.set_cons_zero, List.set_cons_succ, List.getElem_toArray, List.getElem_cons_succ, List.getElem_cons_zero]
    refine wpAnyH_take (i := 5) (v := .pointer (some ⟨w.heap.size, 20, none⟩)) rfl (by kernel_rfl) (by kernel_rfl) (by kernel_rfl) (fun _ _ _ h => h) (.inl ⟨by rfl, fun W hS => by go_simp⟩) hHeld ?_
    simp only [Act.put, List.setIfInBounds_toArray, List.set_cons_zero, List.set_cons_succ, List.getElem_toArray, List.getElem_cons_succ, List.getElem_cons_zero]
    refine wpAnyH_take (i := 6) (v := .int .u64 (x.nonce : Int)) rfl (by kernel_rfl) (by kernel_rfl) (by kernel_rfl) (fun _ _ _ h => h) (.inl ⟨by rfl, fun W hS => by have h20 := (hS.1.cell 20).trans (ek_nonce x _ _ HF.out); go_simp⟩) hHeld ?_
    simp only [Act.put, List.setIfInBounds_toArray, List.set_cons_zero, List.set_cons_succ, List.getElem_toArray, List.getElem_cons_succ, List.getElem_cons_zero]
    refine wpAnyH_take (i := 11) (v := .pointer (some ⟨w.heap.size, 21, none⟩)) rfl (by kernel_rfl) (by kernel_rfl) (by kernel_rfl) (fun _ _ _ h => h) (.inl ⟨by rfl, fun W hS => by go_simp⟩) hHeld ?_
    simp only [Act.put, List.setIfInBounds_toArray, List.set_cons_zero, List.set_cons_succ, List.getElem_toArray, List.getElem_cons_succ, List.getElem_cons_zero]
    refine wpAnyH_take (i := 12) (v := .agg (bvs x.bal).toArray) rfl (by kernel_rfl) (by kernel_rfl) (by kernel_rfl) (fun _ _ _ h => h) (yieldsIf_load_mid (by rfl) 61 _ rfl w.heap.size 21 rfl (bvs x.bal) _ (fun W hS => hS.1.bytes 21 x.bal (ek_bal x _ _ HF.out)) Tryd.underlying61 rfl hi61.out) hHeld ?_
    simp only [Act.put, List.setIfInBounds_toArray, List.set_cons_zero, List.set_cons_succ, List.getElem_toArray, List.getElem_cons_succ, List.getElem_cons_zero]
    refine wpAnyH_take (i := 16) (v := .string (str [46])) rfl (by kernel_rfl) (by kernel_rfl) (by kernel_rfl) (fun _ _ _ h => h) (.inl ⟨by rfl, fun W hS => by go_simp⟩) hHeld ?_
    simp only [Act.put, List.setIfInBounds_toArray, List.set_cons_zero, List.set_cons_succ, List.getElem_toArray, List.getElem_cons_succ, List.getElem_cons_zero]
    refine wpAnyH_ready (rs := [2]) (by kernel_rfl) (by simp) ?_
    refine AllReadyH.cons rfl (fun K hK => ?_) AllReadyH.nil
    go_simp
    go_wp2_with (go_at_call 68; refine (Hex20_calls _ _ _ x.addr _ ((hHeld.1.bytes 0 x.addr (ek_addr x _ _)).rd HF.out.ha) (by omega)).mono ?_; rintro e w5 ⟨rfl, hbw5⟩)
    refine hK.out _ _ (SH_next hHeld hbw5) (fun hHeld => ?_)
    clear hK K
    clear hbw5
    refine wpAnyH_take (i := 3) (v := .string (str s1)) rfl (by kernel_rfl) (by kernel_rfl) (by kernel_rfl) (fun _ _ _ h => h) (.inl ⟨by rfl, fun W hS => by have h1 := q1.out; have h2 := z1.out; go_simp⟩) hHeld ?_
    simp only [Act.put, List.setIfInBounds_toArray, List.set_cons_zero, List.set_cons_succ, List.getElem_toArray, List.getElem_cons_succ, List.getElem_cons_zero]
    refine wpAnyH_take (i := 4) (v := .string (str s2)) rfl (by kernel_rfl) (by kernel_rfl) (by kernel_rfl) (fun _ _ _ h => h) (.inl ⟨by rfl, fun W hS => by have h1 := q2.out; have h2 := z2.out; go_simp⟩) hHeld ?_
    simp only [Act.put, List.setIfInBounds_toArray, List.set_cons_zero, List.set_cons_succ, List.getElem_toArray, List.getElem_cons_succ, List.getElem_cons_zero]
    refine wpAnyH_ready (rs := [7]) (by kernel_rfl) (by simp) ?_
    refine AllReadyH.cons rfl (fun K hK => ?_) AllReadyH.nil
    go_simp
    go_wp2_with (go_at_call 86; refine (word86_calls x.nonce _ HF.out.hn).mono ?_; rintro e w6 ⟨rfl, hbw6⟩)
    refine hK.out _ _ (SH_next hHeld hbw6) (fun hHeld => ?_)
    clear hK K
    clear hbw6
    refine wpAnyH_ready (rs := [8]) (by kernel_rfl) (by simp) ?_
    refine AllReadyH.cons rfl (fun K hK => ?_) AllReadyH.nil
    go_simp
    go_wp2_with (go_at_call 85; refine (Decimal_calls (wordR x.nonce 8) _ (wordR_length _ _ (by omega))).mono ?_; rintro e w7 ⟨rfl, hbw7⟩; rw [wordR_val _ HF.out.hn])
    refine hK.out _ _ (SH_next hHeld hbw7) (fun hHeld => ?_)
    clear hK K
    clear hbw7
    refine wpAnyH_take (i := 9) (v := .string (str s3)) rfl (by kernel_rfl) (by kernel_rfl) (by kernel_rfl) (fun _ _ _ h => h) (.inl ⟨by rfl, fun W hS => by have h1 := q3.out; have h2 := z3.out; go_simp⟩) hHeld ?_
    simp only [Act.put, List.setIfInBounds_toArray, List.set_cons_zero, List.set_cons_succ, List.getElem_toArray, List.getElem_cons_succ, List.getElem_cons_zero]
    refine wpAnyH_take (i := 10) (v := .string (str s4)) rfl (by kernel_rfl) (by kernel_rfl) (by kernel_rfl) (fun _ _ _ h => h) (.inl ⟨by rfl, fun W hS => by have h1 := q4.out; have h2 := z4.out; go_simp⟩) hHeld ?_
    simp only [Act.put, List.setIfInBounds_toArray, List.set_cons_zero, List.set_cons_succ, List.getElem_toArray, List.getElem_cons_succ, List.getElem_cons_zero]
    refine wpAnyH_ready (rs := [13]) (by kernel_rfl) (by simp) ?_
    refine AllReadyH.cons rfl (fun K hK => ?_) AllReadyH.nil
    go_simp
    go_wp2_with (go_at_call 85; refine (Decimal_calls x.bal _ HF.out.hb).mono ?_; rintro e w8 ⟨rfl, hbw8⟩)
    refine hK.out _ _ (SH_next hHeld hbw8) (fun hHeld => ?_)
    clear hK K
    clear hbw8
    refine wpAnyH_take (i := 14) (v := .string (str s5)) rfl (by kernel_rfl) (by kernel_rfl) (by kernel_rfl) (fun _ _ _ h => h) (.inl ⟨by rfl, fun W hS => by have h1 := q5.out; have h2 := z5.out; go_simp⟩) hHeld ?_
    simp only [Act.put, List.setIfInBounds_toArray, List.set_cons_zero, List.set_cons_succ, List.getElem_toArray, List.getElem_cons_succ, List.getElem_cons_zero]
    refine wpAnyH_take (i := 15) (v := .string (str s6)) rfl (by kernel_rfl) (by kernel_rfl) (by kernel_rfl) (fun _ _ _ h => h) (.inl ⟨by rfl, fun W hS => by have h1 := q6.out; have h2 := z6.out; go_simp⟩) hHeld ?_
    simp only [Act.put, List.setIfInBounds_toArray, List.set_cons_zero, List.set_cons_succ, List.getElem_toArray, List.getElem_cons_succ, List.getElem_cons_zero]
    refine wpAnyH_take (i := 17) (v := .string (str s7)) rfl (by kernel_rfl) (by kernel_rfl) (by kernel_rfl) (fun _ _ _ h => h) (.inl ⟨by rfl, fun W hS => by have h1 := q7.out; have h2 := z7.out; go_simp⟩) hHeld ?_
    simp only [Act.put, List.setIfInBounds_toArray, List.set_cons_zero, List.set_cons_succ, List.getElem_toArray, List.getElem_cons_succ, List.getElem_cons_zero]
    refine wpAnyH_ready (rs := [18]) (by kernel_rfl) (by simp) ?_
    refine AllReadyH.cons rfl (fun K hK => ?_) AllReadyH.nil
    go_simp
    refine hK.out _ _ (hHeld) (fun hHeld => ?_)
    clear hK K
    refine wpAnyH_done (by kernel_rfl) ?_ _
    have HH := Lib.hid hHeld.2
    clear hHeld
    go_wp2
    go_ret
    exact ⟨by rw [HR.out]; rfl, HH.out⟩
  · obtain rfl : cd = hexL x.code := by rw [hcd]; unfold dotL; rw [if_neg hnil]
    have hqn := str_ne hnil
    clear hcd hlc hnil hcl
    go_enter Tryd.func54, Tryd.ntmps54
    rw [e1, e2]
    clear e1 e2 e3
    go_wp2_with (go_at_call 68; refine hhx.out.mono ?_; rintro e w4 ⟨rfl, hb4⟩)
    have HB4 := Lib.hid (hN.out.below hb4 (by simp))
    have HW4 := Lib.hid (thn hal.out hb4)
    clear hb4 c53
    refine wp_region_held_drew (S := fun W => Blk W w.heap.size 79 (ek x (.slice B m d) (.slice S l q)) ∧ Below w.heap.size w W) (by kernel_rfl) (⟨HB4.out.drew, HW4.out.drew⟩) (fun hHeld => ?_)
    refine wpAnyH_take (i := 0) (v := .pointer (some ⟨w.heap.size, 0, none⟩)) rfl (by kernel_rfl) (by kernel_rfl) (by kernel_rfl) (fun _ _ _ h => h) (.inl ⟨by rfl, fun W hS => by go_simp⟩) hHeld ?_
    simp only [Act.put, List.setIfInBounds_toArray, List.set_cons_zero, List.set_cons_succ, List.getElem_toArray, List.getElem_cons_succ, List.getElem_cons_zero]
    refine wpAnyH_take (i := 1) (v := .slice (some ⟨w.heap.size, 0, none⟩) 20 20) rfl (by kernel_rfl) (by kernel_rfl) (by kernel_rfl) (fun _ _ _ h => h) (.inl ⟨by rfl, fun W hS => by go_simp⟩) hHeld ?_
    simp only [Act.put, List.setIfInBounds_toArray, List.set_cons_zero, List.set_cons_succ, List.getElem_toArray, List.getElem_cons_succ, List.getElem_cons_zero]
    refine wpAnyH_take (i := 5) (v := .pointer (some ⟨w.heap.size, 20, none⟩)) rfl (by kernel_rfl) (by kernel_rfl) (by kernel_rfl) (fun _ _ _ h => h) (.inl ⟨by rfl, fun W hS => by go_simp⟩) hHeld ?_
    simp only [Act.put, List.setIfInBounds_toArray, List.set_cons_zero, List.set_cons_succ, List.getElem_toArray, List.getElem_cons_succ, List.getElem_cons_zero]
    refine wpAnyH_take (i := 6) (v := .int .u64 (x.nonce : Int)) rfl (by kernel_rfl) (by kernel_rfl) (by kernel_rfl) (fun _ _ _ h => h) (.inl ⟨by rfl, fun W hS => by have h20 := (hS.1.cell 20).trans (ek_nonce x _ _ HF.out); go_simp⟩) hHeld ?_
    simp only [Act.put, List.setIfInBounds_toArray, List.set_cons_zero, List.set_cons_succ, List.getElem_toArray, List.getElem_cons_succ, List.getElem_cons_zero]
    refine wpAnyH_take (i := 11) (v := .pointer (some ⟨w.heap.size, 21, none⟩)) rfl (by kernel_rfl) (by kernel_rfl) (by kernel_rfl) (fun _ _ _ h => h) (.inl ⟨by rfl, fun W hS => by go_simp⟩) hHeld ?_
    simp only [Act.put, List.setIfInBounds_toArray, List.set_cons_zero, List.set_cons_succ, List.getElem_toArray, List.getElem_cons_succ, List.getElem_cons_zero]
    refine wpAnyH_take (i := 12) (v := .agg (bvs x.bal).toArray) rfl (by kernel_rfl) (by kernel_rfl) (by kernel_rfl) (fun _ _ _ h => h) (yieldsIf_load_mid (by rfl) 61 _ rfl w.heap.size 21 rfl (bvs x.bal) _ (fun W hS => hS.1.bytes 21 x.bal (ek_bal x _ _ HF.out)) Tryd.underlying61 rfl hi61.out) hHeld ?_
    simp only [Act.put, List.setIfInBounds_toArray, List.set_cons_zero, List.set_cons_succ, List.getElem_toArray, List.getElem_cons_succ, List.getElem_cons_zero]
    refine wpAnyH_take (i := 16) (v := .string (str (hexL x.code))) rfl (by kernel_rfl) (by kernel_rfl) (by kernel_rfl) (fun _ _ _ h => h) (.inl ⟨by rfl, fun W hS => by go_simp⟩) hHeld ?_
    simp only [Act.put, List.setIfInBounds_toArray, List.set_cons_zero, List.set_cons_succ, List.getElem_toArray, List.getElem_cons_succ, List.getElem_cons_zero]
    refine wpAnyH_ready (rs := [2]) (by kernel_rfl) (by simp) ?_
    refine AllReadyH.cons rfl (fun K hK => ?_) AllReadyH.nil
    go_simp
    go_wp2_with (go_at_call 68; refine (Hex20_calls _ _ _ x.addr _ ((hHeld.1.bytes 0 x.addr (ek_addr x _ _)).rd HF.out.ha) (by omega)).mono ?_; rintro e w5 ⟨rfl, hbw5⟩)
    refine hK.out _ _ (SH_next hHeld hbw5) (fun hHeld => ?_)
    clear hK K
    clear hbw5
    refine wpAnyH_take (i := 3) (v := .string (str s1)) rfl (by kernel_rfl) (by kernel_rfl) (by kernel_rfl) (fun _ _ _ h => h) (.inl ⟨by rfl, fun W hS => by have h1 := q1.out; have h2 := z1.out; go_simp⟩) hHeld ?_
    simp only [Act.put, List.setIfInBounds_toArray, List.set_cons_zero, List.set_cons_succ, List.getElem_toArray, List.getElem_cons_succ, List.getElem_cons_zero]
    refine wpAnyH_take (i := 4) (v := .string (str s2)) rfl (by kernel_rfl) (by kernel_rfl) (by kernel_rfl) (fun _ _ _ h => h) (.inl ⟨by rfl, fun W hS => by have h1 := q2.out; have h2 := z2.out; go_simp⟩) hHeld ?_
    simp only [Act.put, List.setIfInBounds_toArray, List.set_cons_zero, List.set_cons_succ, List.getElem_toArray, List.getElem_cons_succ, List.getElem_cons_zero]
    refine wpAnyH_ready (rs := [7]) (by kernel_rfl) (by simp) ?_
    refine AllReadyH.cons rfl (fun K hK => ?_) AllReadyH.nil
    go_simp
    go_wp2_with (go_at_call 86; refine (word86_calls x.nonce _ HF.out.hn).mono ?_; rintro e w6 ⟨rfl, hbw6⟩)
    refine hK.out _ _ (SH_next hHeld hbw6) (fun hHeld => ?_)
    clear hK K
    clear hbw6
    refine wpAnyH_ready (rs := [8]) (by kernel_rfl) (by simp) ?_
    refine AllReadyH.cons rfl (fun K hK => ?_) AllReadyH.nil
    go_simp
    go_wp2_with (go_at_call 85; refine (Decimal_calls (wordR x.nonce 8) _ (wordR_length _ _ (by omega))).mono ?_; rintro e w7 ⟨rfl, hbw7⟩; rw [wordR_val _ HF.out.hn])
    refine hK.out _ _ (SH_next hHeld hbw7) (fun hHeld => ?_)
    clear hK K
    clear hbw7
    refine wpAnyH_take (i := 9) (v := .string (str s3)) rfl (by kernel_rfl) (by kernel_rfl) (by kernel_rfl) (fun _ _ _ h => h) (.inl ⟨by rfl, fun W hS => by have h1 := q3.out; have h2 := z3.out; go_simp⟩) hHeld ?_
    simp only [Act.put, List.setIfInBounds_toArray, List.set_cons_zero, List.set_cons_succ, List.getElem_toArray, List.getElem_cons_succ, List.getElem_cons_zero]
    refine wpAnyH_take (i := 10) (v := .string (str s4)) rfl (by kernel_rfl) (by kernel_rfl) (by kernel_rfl) (fun _ _ _ h => h) (.inl ⟨by rfl, fun W hS => by have h1 := q4.out; have h2 := z4.out; go_simp⟩) hHeld ?_
    simp only [Act.put, List.setIfInBounds_toArray, List.set_cons_zero, List.set_cons_succ, List.getElem_toArray, List.getElem_cons_succ, List.getElem_cons_zero]
    refine wpAnyH_ready (rs := [13]) (by kernel_rfl) (by simp) ?_
    refine AllReadyH.cons rfl (fun K hK => ?_) AllReadyH.nil
    go_simp
    go_wp2_with (go_at_call 85; refine (Decimal_calls x.bal _ HF.out.hb).mono ?_; rintro e w8 ⟨rfl, hbw8⟩)
    refine hK.out _ _ (SH_next hHeld hbw8) (fun hHeld => ?_)
    clear hK K
    clear hbw8
    refine wpAnyH_take (i := 14) (v := .string (str s5)) rfl (by kernel_rfl) (by kernel_rfl) (by kernel_rfl) (fun _ _ _ h => h) (.inl ⟨by rfl, fun W hS => by have h1 := q5.out; have h2 := z5.out; go_simp⟩) hHeld ?_
    simp only [Act.put, List.setIfInBounds_toArray, List.set_cons_zero, List.set_cons_succ, List.getElem_toArray, List.getElem_cons_succ, List.getElem_cons_zero]
    refine wpAnyH_take (i := 15) (v := .string (str s6)) rfl (by kernel_rfl) (by kernel_rfl) (by kernel_rfl) (fun _ _ _ h => h) (.inl ⟨by rfl, fun W hS => by have h1 := q6.out; have h2 := z6.out; go_simp⟩) hHeld ?_
    simp only [Act.put, List.setIfInBounds_toArray, List.set_cons_zero, List.set_cons_succ, List.getElem_toArray, List.getElem_cons_succ, List.getElem_cons_zero]
    refine wpAnyH_take (i := 17) (v := .string (str s7)) rfl (by kernel_rfl) (by kernel_rfl) (by kernel_rfl) (fun _ _ _ h => h) (.inl ⟨by rfl, fun W hS => by have h1 := q7.out; have h2 := z7.out; go_simp⟩) hHeld ?_
    simp only [Act.put, List.setIfInBounds_toArray, List.set_cons_zero, List.set_cons_succ, List.getElem_toArray, List.getElem_cons_succ, List.getElem_cons_zero]
    refine wpAnyH_ready (rs := [18]) (by kernel_rfl) (by simp) ?_
    refine AllReadyH.cons rfl (fun K hK => ?_) AllReadyH.nil
    go_simp
    refine hK.out _ _ (hHeld) (fun hHeld => ?_)
    clear hK K
    refine wpAnyH_done (by kernel_rfl) ?_ _
    have HH := Lib.hid hHeld.2
    clear hHeld
    go_wp2
    go_ret
    exact ⟨by rw [HR.out]; rfl, HH.out⟩
end Go.Proofs.YtfjfjjcdlgdbcaaDoor
namespace Go.Proofs.YtfjfjjcdlgdbcaaDoor
open Go.RowKit
set_option linter.unusedSimpArgs false
set_option linter.unusedVariables false

theorem bcat (a b : List UInt8) (h : a.length + b.length ≤ 100000000000000) : ¬ 9223372036854775807 < (str a).size + (str b).size := by rw [str_size, str_size]; omega
set_option maxRecDepth 100000 in
set_option maxHeartbeats 4000000 in
theorem RPrint_calls (A : Option Addr) (n c : Nat) (es : List EntP) (w : World) (h : RdE w A n c es) (hF : FewE es) :
    Calls Tryd.prog 29 #[.slice A n c] w fun e w' => e = .returned (dprintV es) ∧ Below w.heap.size w w' := by
  have hm : n ≤ 9223372036854775807 := by have := h.2.1; have := h.2.2.1; unfold maxLen at this; omega
  have HL := Lib.hid h.1
  have HF := Lib.hid hF
  have H := Lib.hid h
  have hmay := Lib.hid (May_calls A n c es w h)
  clear h hF
  have e10 : (⟨#[10]⟩ : ByteArray) = str [10] := rfl
  have e0 : (⟨#[]⟩ : ByteArray) = str [] := rfl
  cases hck : checkB es with
  | false =>
    have hP : Hid (dprintV es = .tuple #[.string (str []), .int .i64 240]) := by unfold Hid dprintV chkV; rw [hck]; rfl
    rw [hck] at hmay
    clear hck
    go_enter Tryd.func29, Tryd.ntmps29
    rw [e0, e10]
    clear e0 e10
    go_wp2_with (go_at_call 53; refine hmay.out.mono ?_; rintro e w1 ⟨rfl, hb1⟩)
    go_ret2
    exact ⟨by rw [hP.out]; rfl, hb1⟩
  | true =>
    have hP : Hid (dprintV es = .tuple #[.string (str (dumpL es)), .int .i64 0]) := by unfold Hid dprintV chkV; rw [hck]; rfl
    rw [hck] at hmay
    clear hck
    go_enter Tryd.func29, Tryd.ntmps29
    rw [e0, e10]
    clear e0 e10
    go_wp2_with (go_at_call 53; refine hmay.out.mono ?_; rintro e w1 ⟨rfl, hb1⟩)
    have HB1 := Lib.hid hb1
    clear hb1
    go_loopw [4, 5] (fun s i wr => ∃ k : Nat, k ≤ n ∧ i = .int .i64 k ∧ s = .string (str (dumpL (es.take k))) ∧ (dumpL (es.take k)).length ≤ k * 251004000 ∧ Below w.heap.size w wr) (fun _ i _ => n - (intOf i).toNat)
    case atStart => exact ⟨0, by omega, rfl, rfl, by simp [dumpL], HB1.out⟩
    case round =>
      obtain ⟨k, hkn, rfl, rfl, hlen, hb⟩ := hrel
      obtain ⟨wo, rfl⟩ : ∃ wo : World, wo = wr := ⟨_, rfl⟩
      have HLEN := Lib.hid hlen
      clear hlen
      by_cases hlt : k < n
      · obtain ⟨g, o, B, m, d, S, l, q, rfl, hg, hc, hE⟩ := H.out.at_ hlt
        have HFX := Lib.hid (HF.out.s _ (List.mem_of_getElem? hg))
        have HSU := Lib.hid (dumpL_succ es k (by rw [HL.out]; exact hlt))
        have hkk : k < 200 := by have := HF.out.n; have := HL.out; omega
        have hkI : (0 : Int) ≤ (k : Int) ∧ (k : Int) < (n : Int) := by omega
        have htk : ((k : Int)).toNat = k := by omega
        have hlm : l ≤ 9223372036854775807 := by have := hE.slots.2.1; have := hE.slots.2.2.1; unfold maxLen at this; omega
        clear hg
        generalize es.getD k zE = x at *
        have HT := Lib.hid (ek_aggL x (.slice B m d) (.slice S l q) hE.fit)
        have HC := Lib.hid (fun W (hW : Below w.heap.size w W) => hc.below hW)
        have HCo := Lib.hid (hc.below hb)
        have c54 := Lib.hid (fun W (hW : Below w.heap.size w W) => (hc.below hW) 54 _ (by rw [Array.getElem?_toList]; exact ek_tail x _ _ hE.fit 1))
        have HE := Lib.hid hE
        have HHD := Lib.hid (head54_calls x B S m d l q wo (hE.below hb) HFX.out.2)
        have HHS := lineL_len (headSS x) (headSS_len x hE.fit HFX.out.2) (by simp [headSS])
        have hbW := Lib.hid hb
        obtain ⟨hd, hhd⟩ : ∃ hd, hd = Lib.join (headSS x) [32] := ⟨_, rfl⟩
        generalize hG : dumpL (es.take k) = pre at *
        obtain ⟨p1, hp1⟩ : ∃ p, p = pre ++ hd := ⟨_, rfl⟩
        obtain ⟨p2, hp2⟩ : ∃ p, p = p1 ++ [10] := ⟨_, rfl⟩
        have hlp : (lineL (headSS x)).length = hd.length + 1 := by rw [lineL, ← hhd]; simp
        have q1 := (str_cat pre hd).trans (congrArg str hp1.symm)
        have q2 := (str_cat p1 [10]).trans (congrArg str hp2.symm)
        have z1 := bcat pre hd (by have := HLEN.out; omega)
        have z2 := bcat p1 [10] (by have := HLEN.out; rw [hp1]; simp; omega)
        have HP2 : Hid (p2 = pre ++ lineL (headSS x)) := by unfold Hid; rw [hp2, hp1, hhd, lineL, List.append_assoc]
        have HL2 : Hid (p2.length ≤ k * 251004000 + 1000011) := by unfold Hid; rw [HP2.out, List.length_append]; have := HLEN.out; omega
        rw [← hhd] at HHD
        clear hc hE hb hp1 hp2 hhd hlp HHS hG
        go_wp2_with (first | (refine wpList_loadAgg rfl 79 (.tmp 19) rfl g (o + k * 55) rfl _ HT.out HCo.out ?_) | (go_at_call 54; refine HHD.out.mono ?_; rintro e w2 ⟨rfl, hb2⟩))
        have HB2 := Lib.hid (thn hbW.out hb2)
        clear hb2 q1 q2 z1 z2
        go_loopw [4, 6] (fun s i wi => ∃ j : Nat, j ≤ l ∧ i = .int .i64 j ∧ s = .string (str (p2 ++ slotsL (x.slots.take j))) ∧ (p2 ++ slotsL (x.slots.take j)).length ≤ k * 251004000 + (1 + j) * 1000011 ∧ Below w.heap.size w wi) (fun _ i _ => l - (intOf i).toNat)
        case atStart => exact ⟨0, by omega, rfl, by simp [slotsL], by simp [slotsL]; have := HL2.out; omega, HB2.out⟩
        case round =>
          obtain ⟨j, hj, rfl, rfl, hleni, hbi⟩ := hrel
          obtain ⟨wi, rfl⟩ : ∃ wi : World, wi = wr := ⟨_, rfl⟩
          have HLENI := Lib.hid hleni
          have hc54 := c54.out wi hbi
          have HBI := Lib.hid hbi
          clear hleni
          by_cases hjl : j < l
          · obtain ⟨gs, os, rfl, hgj, hcj0⟩ := HE.out.slots.at_ hjl
            have HCJ := Lib.hid (hcj0.below hbi)
            have hfy := HE.out.fit.hs _ (List.mem_of_getElem? hgj)
            have HSJ := Lib.hid (slotsL_succ x.slots j (by rw [HE.out.slots.1]; exact hjl))
            have hjI : (0 : Int) ≤ (j : Int) ∧ (j : Int) < (l : Int) := by omega
            have htj : ((j : Int)).toNat = j := by omega
            clear hgj hcj0 hbi
            generalize x.slots.getD j ([], []) = y at *
            have HT3 : Hid (AggT Tryd.prog 95 (hk y).length) := by rw [hk_length y hfy]; exact Tryd.agg95
            have HSL := Lib.hid (slot55_calls y wi hfy)
            have hyl := lineL_len (slotSS y) (slotSS_len y hfy) (by simp [slotSS])
            obtain ⟨sd, hsd⟩ : ∃ sd, sd = Lib.join (slotSS y) [32] := ⟨_, rfl⟩
            have hlp : (lineL (slotSS y)).length = sd.length + 1 := by rw [lineL, ← hsd]; simp
            obtain ⟨r0, hr0⟩ : ∃ r, r = p2 ++ slotsL (x.slots.take j) := ⟨_, rfl⟩
            obtain ⟨r1, hr1⟩ : ∃ r, r = r0 ++ sd := ⟨_, rfl⟩
            obtain ⟨r2, hr2⟩ : ∃ r, r = r1 ++ [10] := ⟨_, rfl⟩
            have hl250 := HFX.out.1
            rw [HE.out.slots.1] at hl250
            have hl0 : r0.length ≤ k * 251004000 + (1 + j) * 1000011 := by rw [hr0]; exact HLENI.out
            have q1 := (str_cat r0 sd).trans (congrArg str hr1.symm)
            have q2 := (str_cat r1 [10]).trans (congrArg str hr2.symm)
            have z1 := bcat r0 sd (by omega)
            have z2 := bcat r1 [10] (by rw [hr1]; simp; omega)
            have HR2 : Hid (r2 = p2 ++ slotsL (x.slots.take (j + 1))) := by unfold Hid; rw [HSJ.out, hr2, hr1, hr0, hsd, lineL]; simp
            have HRL : Hid (r2.length ≤ k * 251004000 + (1 + (j + 1)) * 1000011) := by unfold Hid; rw [hr2, hr1]; simp; omega
            rw [← hsd] at HSL
            rw [← hr0]
            clear hr0 hr1 hr2 hsd hlp hyl hl0 hfy hl250
            go_wp2_with (first | (refine wpList_loadAgg rfl 95 (.tmp 41) rfl gs (os + j * 64) rfl _ HT3.out HCJ.out ?_) | (go_at_call 55; refine HSL.out.mono ?_; rintro e w3 ⟨rfl, hb3⟩))
            go_roundw
            case rel => exact ⟨j + 1, by omega, by go_num, by rw [← HR2.out], by rw [← HR2.out]; exact HRL.out, thn HBI.out hb3⟩
            case measure => simp [intOf]; omega
          · obtain rfl : j = l := by omega
            have hall : x.slots.take j = x.slots := List.take_of_length_le (by rw [HE.out.slots.1]; omega)
            have HX : Hid (p2 ++ slotsL (x.slots.take j) = dumpL (es.take (k + 1))) := by unfold Hid; rw [HSU.out, hall, HP2.out, entL, List.append_assoc]
            rw [HX.out] at HLENI ⊢
            have hle2 : Hid ((dumpL (es.take (k + 1))).length ≤ (k + 1) * 251004000) := by
              have h4 := HLENI.out
              have h5 := HFX.out.1
              rw [HE.out.slots.1] at h5
              unfold Hid
              omega
            clear hall HX
            generalize hr : dumpL (es.take (k + 1)) = r at *
            have HRR := Lib.hid hr
            clear hr
            go_wp2
            go_roundw
            case rel => exact ⟨k + 1, by omega, by go_num, by rw [HRR.out], by rw [HRR.out]; exact hle2.out, HBI.out⟩
            case measure => simp [intOf]; omega
      · obtain rfl : k = n := by omega
        have htk : es.take k = es := List.take_of_length_le (by rw [HL.out]; omega)
        rw [htk] at HLEN ⊢
        generalize dumpL es = r at *
        go_wp2
        go_ret2
        exact ⟨by rw [hP.out]; rfl, hb⟩
end Go.Proofs.YtfjfjjcdlgdbcaaDoor
namespace Go.Proofs.YtfjfjjcdlgdbcaaDoor
open Go.RowKit
set_option linter.unusedSimpArgs false
set_option linter.unusedVariables false

/-- a digit's number; 16: it is none -/
def halfN (c : UInt8) : Nat := (List.range 16).findIdx fun i => decide (dig i = c)
theorem halfN_le (c : UInt8) : halfN c ≤ 16 := by
  have := List.findIdx_le_length (p := fun i => decide (dig i = c)) (xs := List.range 16)
  simpa [halfN] using this
theorem halfN_at (c : UInt8) (k : Nat) (hk : k < 16) (h : ∀ j, j < k → dig j ≠ c) (h1 : dig k = c) : halfN c = k := by
  unfold halfN
  rw [List.findIdx_eq (by simpa using hk)]
  refine ⟨by simpa using h1, fun j hj => by simpa using h j hj⟩
theorem halfN_no (c : UInt8) (h : ∀ j, j < 16 → dig j ≠ c) : halfN c = 16 := by
  have : halfN c = (List.range 16).length := by
    unfold halfN
    rw [List.findIdx_eq_length]
    intro x hx
    simpa using h x (by simpa using hx)
  simpa using this
theorem idx_strs {P : Program} (xs : List UInt8) (k : Nat) (c : UInt8) (hc : xs[k]? = some c) (W : World) (h : P.underlying 9 = some .string) :
    (Instr.index 9 (.string (str xs)) (.int .i64 (k : Int))).run P W = .ok (.int .u8 (c.toNat : Int)) W := by
  have hk : k < xs.length := (List.getElem?_eq_some_iff.1 hc).1
  rw [run_index_string W 9 (str xs) .i64 k h, dif_pos ⟨by omega, by rw [str_size]; omega⟩]
  have e : ∀ (j : Nat) (hj : j < (str xs).size), j = k → ((str xs)[j]'hj).toNat = c.toNat := by
    rintro j hj rfl
    have e3 : (str xs)[j]'hj = xs[j]'hk := by show xs.toArray[j]'(by simpa using hk) = _; simp
    rw [e3, (List.getElem?_eq_some_iff.1 hc).2]
  rw [e _ _ (Int.toNat_natCast k)]
def halfV (c : UInt8) : Value := if halfN c < 16 then .tuple #[.int .u8 (halfN c : Int), .bool true] else .tuple #[.int .u8 0, .bool false]
theorem idx_hex64 {P : Program} (n : Nat) (hn : n < 16) (w : World) (h : P.underlying 9 = some .string) :
    (Instr.index 9 (.string ⟨#[48, 49, 50, 51, 52, 53, 54, 55, 56, 57, 97, 98, 99, 100, 101, 102]⟩) (.int .i64 (n : Int))).run P w = .ok (.int .u8 ((dig n).toNat : Int)) w := by
  show (Instr.index 9 (.string hexS) (.int .i64 (n : Int))).run P w = _
  rw [run_index_string w 9 hexS .i64 n h, dif_pos ⟨by omega, by show (n : Int) < 16; omega⟩]
  have h2 := hexS_get ⟨n, hn⟩
  simp only [Int.toNat_natCast]
  rw [h2]

set_option maxRecDepth 100000 in
set_option maxHeartbeats 2000000 in
theorem half_calls (c : UInt8) (w : World) : Calls Tryd.prog 154 #[.int .u8 (c.toNat : Int)] w fun e w' => e = .returned (halfV c) ∧ Below w.heap.size w w' := by
  have hcl := c.toNat_lt
  go_enter Tryd.func154, Tryd.ntmps154
  go_wp2
  go_loopw [5] (fun i wr => ∃ k : Nat, k ≤ 16 ∧ i = .int .i64 k ∧ (∀ j, j < k → dig j ≠ c) ∧ Below w.heap.size w wr) (fun i _ => 16 - (intOf i).toNat)
  case atStart => exact ⟨0, by omega, rfl, fun j hj => by omega, Below.refl _ _⟩
  case round =>
    obtain ⟨k, hk, rfl, ha, hb⟩ := hrel
    have HA := Lib.hid ha
    clear ha
    by_cases hlt : k < 16
    · have hi := fun W => idx_hex64 (P := Tryd.prog) k hlt W Tryd.underlying9
      by_cases hd : dig k = c
      · have hh := Lib.hid (halfN_at c k hlt HA.out hd)
        have hq : ((dig k).toNat : Int) = (c.toNat : Int) := by rw [hd]
        have hq2 : (((dig k).toNat : Int) == (c.toNat : Int)) = true := by rw [hd]; simp
        clear hd
        go_wp2
        go_ret2
        exact ⟨by rw [halfV, hh.out, if_pos hlt]; rfl, hb⟩
      · have hq : ¬ ((dig k).toNat : Int) = (c.toNat : Int) := fun e => hd (UInt8.toNat_inj.1 (by omega))
        have hq2 : (((dig k).toNat : Int) == (c.toNat : Int)) = false := by simpa using hq
        have HD := Lib.hid hd
        clear hd
        go_wp2
        go_roundw
        case rel =>
          refine ⟨k + 1, by omega, by go_num, fun j hj => ?_, hb⟩
          by_cases e : j = k
          · rw [e]; exact HD.out
          · exact HA.out j (by omega)
        case measure => simp [intOf]; omega
    · obtain rfl : k = 16 := by omega
      have hh := Lib.hid (halfN_no c HA.out)
      go_wp2
      go_ret2
      exact ⟨by rw [halfV, hh.out]; rfl, hb⟩
end Go.Proofs.YtfjfjjcdlgdbcaaDoor
namespace Go.Proofs.YtfjfjjcdlgdbcaaDoor
open Go.RowKit
set_option linter.unusedSimpArgs false
set_option linter.unusedVariables false

/-- the bytes of digits, two each; of one digit too many nothing is told -/
def unhexR : List UInt8 → Option (List UInt8)
  | a :: b :: r => if halfN a < 16 ∧ halfN b < 16 then (unhexR r).map (UInt8.ofNat (16 * halfN a + halfN b) :: ·) else none
  | _ => some []
theorem unhexR_append : ∀ (k : Nat) (p r out : List UInt8), p.length = 2 * k → unhexR p = some out → unhexR (p ++ r) = (unhexR r).map (out ++ ·)
  | 0, p, r, out, hl, h => by
    obtain rfl : p = [] := List.eq_nil_of_length_eq_zero (by omega)
    simp only [unhexR, Option.some.injEq] at h
    subst h
    simp
  | k + 1, [], r, out, hl, h => by simp at hl
  | k + 1, [a], r, out, hl, h => by simp at hl; omega
  | k + 1, a :: b :: p, r, out, hl, h => by
    simp only [unhexR, List.cons_append] at h ⊢
    split at h
    · rename_i hab
      rw [if_pos hab]
      obtain ⟨o, ho, rfl⟩ := Option.map_eq_some_iff.1 h
      rw [unhexR_append k p r o (by simp only [List.length_cons] at hl; omega) ho]
      cases unhexR r <;> simp
    · cases h
theorem unhexR_len : ∀ (k : Nat) (p out : List UInt8), p.length ≤ k → unhexR p = some out → out.length ≤ p.length
  | _, [], out, _, h => by simp only [unhexR, Option.some.injEq] at h; subst h; simp
  | _, [a], out, _, h => by simp only [unhexR, Option.some.injEq] at h; subst h; simp
  | 0, a :: b :: p, out, hk, h => by simp at hk
  | k + 1, a :: b :: p, out, hk, h => by
    simp only [unhexR] at h
    split at h
    · obtain ⟨o, ho, rfl⟩ := Option.map_eq_some_iff.1 h
      have := unhexR_len k p o (by simp only [List.length_cons] at hk; omega) ho
      simp only [List.length_cons]; omega
    · cases h
theorem drop_two (s : List UInt8) (k : Nat) (h : 2 * k + 1 < s.length) : s.drop (2 * k) = s.getD (2 * k) 0 :: s.getD (2 * k + 1) 0 :: s.drop (2 * k + 2) := by
  rw [List.drop_eq_getElem_cons (by omega), List.drop_eq_getElem_cons (show 2 * k + 1 < s.length by omega)]
  simp [List.getD_eq_getElem?_getD, List.getElem?_eq_getElem (show 2 * k < s.length by omega), List.getElem?_eq_getElem (show 2 * k + 1 < s.length by omega)]
theorem unhexR_bad (s out : List UInt8) (k : Nat) (h : 2 * k + 1 < s.length) (ho : unhexR (s.take (2 * k)) = some out) (hb : ¬ (halfN (s.getD (2 * k) 0) < 16 ∧ halfN (s.getD (2 * k + 1) 0) < 16)) : unhexR s = none := by
  have e := unhexR_append k (s.take (2 * k)) (s.drop (2 * k)) out (by rw [List.length_take]; omega) ho
  rw [List.take_append_drop] at e
  rw [e, drop_two s k h, unhexR, if_neg hb]
  rfl
theorem unhexR_good (s out : List UInt8) (k : Nat) (h : 2 * k + 1 < s.length) (ho : unhexR (s.take (2 * k)) = some out) (hb : halfN (s.getD (2 * k) 0) < 16 ∧ halfN (s.getD (2 * k + 1) 0) < 16) :
    unhexR (s.take (2 * (k + 1))) = some (out ++ [UInt8.ofNat (16 * halfN (s.getD (2 * k) 0) + halfN (s.getD (2 * k + 1) 0))]) := by
  have e : s.take (2 * (k + 1)) = s.take (2 * k) ++ [s.getD (2 * k) 0, s.getD (2 * k + 1) 0] := by
    rw [show 2 * (k + 1) = 2 * k + 2 by omega, List.take_add, drop_two s k h]
    rfl
  rw [e, unhexR_append k _ _ out (by rw [List.length_take]; omega) ho, unhexR, if_pos hb]
  rfl
theorem unhexR_end (s out : List UInt8) (k : Nat) (h : ¬ 2 * k + 1 < s.length) (hk : 2 * k ≤ s.length) (ho : unhexR (s.take (2 * k)) = some out) : unhexR s = some out := by
  have e := unhexR_append k (s.take (2 * k)) (s.drop (2 * k)) out (by rw [List.length_take]; omega) ho
  rw [List.take_append_drop] at e
  rw [e]
  have hl : (s.drop (2 * k)).length ≤ 1 := by rw [List.length_drop]; omega
  match hd : s.drop (2 * k), hl with
  | [], _ => simp [unhexR]
  | [a], _ => simp [unhexR]
  | a :: b :: r, hl => simp at hl
def unhexV (s : List UInt8) : List UInt8 × Bool := match unhexR s with
  | none => ([], false)
  | some bs => (bs, decide (s.length % 2 = 0))
theorem nib_or (a b : Nat) (ha : a < 16) (hb : b < 16) : bits BinOp.or IntKind.u8 ((a : Int) * 16) (b : Int) = 16 * (a : Int) + (b : Int) := by
  have : ∀ a b : Fin 16, bits BinOp.or IntKind.u8 ((a.val : Int) * 16) (b.val : Int) = 16 * (a.val : Int) + (b.val : Int) := by decide +kernel
  exact this ⟨a, ha⟩ ⟨b, hb⟩

set_option maxRecDepth 100000 in
set_option maxHeartbeats 4000000 in
theorem Unhex_calls (s : List UInt8) (w : World) (hs : s.length ≤ 100000000) :
    Calls Tryd.prog 130 #[.string (str s)] w fun e w' => (∃ v, e = .returned (.tuple #[v, .bool (unhexV s).2]) ∧ OwnB w' w.heap.size v (unhexV s).1) ∧ Below w.heap.size w w' := by
  have hsz : (str s).size = s.length := rfl
  go_enter Tryd.func130, Tryd.ntmps130
  go_wp2
  go_loopw [4, 5] (fun v i wr => ∃ (k : Nat) (out : List UInt8), 2 * k ≤ s.length ∧ i = .int .i64 (2 * (k : Int)) ∧ unhexR (s.take (2 * k)) = some out ∧ OwnB wr w.heap.size v out ∧ Below w.heap.size w wr) (fun _ i _ => s.length + 2 - (intOf i).toNat)
  case atStart => exact ⟨0, [], by omega, rfl, rfl, OwnB.nil _ _, Below.refl _ _⟩
  case round =>
    obtain ⟨k, out, hk, rfl, hu, ho, hb⟩ := hrel
    have hbs := hb.size
    have HU := Lib.hid hu
    have hol := unhexR_len _ _ _ (Nat.le_refl _) hu
    rw [List.length_take] at hol
    clear hu
    by_cases hlt : 2 * k + 1 < s.length
    · have hlt1 : (2 : Int) * (k : Int) + 1 < (s.length : Int) := by omega
      have hg0 : s[2 * k]? = some (s.getD (2 * k) 0) := by rw [List.getD_eq_getElem?_getD, List.getElem?_eq_getElem (by omega)]; rfl
      have hg1 : s[2 * k + 1]? = some (s.getD (2 * k + 1) 0) := by rw [List.getD_eq_getElem?_getD, List.getElem?_eq_getElem hlt]; rfl
      have hi0 := fun W => idx_strs (P := Tryd.prog) s (2 * k) _ hg0 W Tryd.underlying9
      have hi1 := fun W => idx_strs (P := Tryd.prog) s (2 * k + 1) _ hg1 W Tryd.underlying9
      have hbad := Lib.hid (unhexR_bad s out k hlt HU.out)
      have hgood := Lib.hid (unhexR_good s out k hlt HU.out)
      have hc := Lib.hid half_calls
      have hwr : IntKind.i64.wrap (2 * (k : Int) + 1) = 2 * (k : Int) + 1 := IntWalk.i64_in _ (by omega)
      simp only [Int.natCast_add, Int.natCast_mul, Int.cast_ofNat_Int] at hi0 hi1
      clear hg0 hg1
      generalize s.getD (2 * k) 0 = a at *
      generalize s.getD (2 * k + 1) 0 = b at *
      by_cases ha : halfN a < 16
      · have hva : halfV a = .tuple #[.int .u8 (halfN a : Int), .bool true] := by rw [halfV, if_pos ha]
        by_cases hb' : halfN b < 16
        · have hvb : halfV b = .tuple #[.int .u8 (halfN b : Int), .bool true] := by rw [halfV, if_pos hb']
          have HG := Lib.hid (hgood.out ⟨ha, hb'⟩)
          have hor := nib_or _ _ ha hb'
          have hca := Lib.hid (fun W => hc.out a W)
          have hcb := Lib.hid (fun W => hc.out b W)
          rw [hva] at hca
          rw [hvb] at hcb
          generalize halfN a = na at *
          generalize halfN b = nb at *
          have hby := Lib.hid (show (16 * (na : Int) + (nb : Int)) = ((UInt8.ofNat (16 * na + nb)).toNat : Int) by rw [show (UInt8.ofNat (16 * na + nb)).toNat = 16 * na + nb from by (simp; try omega)]; omega)
          clear hva hvb
          go_wp2_with (first | (go_at_call 154; refine (hca.out _).mono ?_; rintro e w1 ⟨rfl, hb1⟩; clear hca) | (go_at_call 154; refine (hcb.out _).mono ?_; rintro e w2 ⟨rfl, hb2⟩) | (at_builtin; refine wpList_appendB _ rfl (.tmp 38) (.tmp 43) rfl w.heap.size _ out [UInt8.ofNat (16 * na + nb)] rfl _ _ _ rfl ((ho.below (thn hb1 hb2)).alloc _) (RdB.one _ _ _ _ hby.out) (by omega) (by have h1 := (thn hb1 hb2).size; simp; omega) ?_; intro v2 w3 ho3 hg3 hb3))
          go_roundw
          case rel => exact ⟨k + 1, out ++ [UInt8.ofNat (16 * na + nb)], by omega, by congr 1, HG.out, ho3, (al (thn (thn hb hb1) hb2) _).trans hb3⟩
          case measure => simp [intOf]; omega
        · have hvb : halfV b = .tuple #[.int .u8 0, .bool false] := by rw [halfV, if_neg hb']
          have HN := Lib.hid (hbad.out (fun h => hb' h.2))
          have hv : Hid (unhexV s = ([], false)) := by rw [unhexV, HN.out]; trivial
          have hca := Lib.hid (fun W => hc.out a W)
          have hcb := Lib.hid (fun W => hc.out b W)
          rw [hva] at hca
          rw [hvb] at hcb
          clear hva hvb
          go_wp2_with (first | (go_at_call 154; refine (hca.out _).mono ?_; rintro e w1 ⟨rfl, hb1⟩; clear hca) | (go_at_call 154; refine (hcb.out _).mono ?_; rintro e w2 ⟨rfl, hb2⟩))
          go_ret2
          rw [hv.out]
          exact ⟨⟨_, rfl, OwnB.nil _ _⟩, thn (thn hb hb1) hb2⟩
      · have HN := Lib.hid (hbad.out (fun h => ha h.1))
        have hva : halfV a = .tuple #[.int .u8 0, .bool false] := by rw [halfV, if_neg ha]
        by_cases hb' : halfN b < 16
        · have hvb : halfV b = .tuple #[.int .u8 (halfN b : Int), .bool true] := by rw [halfV, if_pos hb']
          have hv : Hid (unhexV s = ([], false)) := by rw [unhexV, HN.out]; trivial
          have hca := Lib.hid (fun W => hc.out a W)
          have hcb := Lib.hid (fun W => hc.out b W)
          rw [hva] at hca
          rw [hvb] at hcb
          clear hva hvb
          go_wp2_with (first | (go_at_call 154; refine (hca.out _).mono ?_; rintro e w1 ⟨rfl, hb1⟩; clear hca) | (go_at_call 154; refine (hcb.out _).mono ?_; rintro e w2 ⟨rfl, hb2⟩))
          go_ret2
          rw [hv.out]
          exact ⟨⟨_, rfl, OwnB.nil _ _⟩, thn (thn hb hb1) hb2⟩
        · have hvb : halfV b = .tuple #[.int .u8 0, .bool false] := by rw [halfV, if_neg hb']
          have hv : Hid (unhexV s = ([], false)) := by rw [unhexV, HN.out]; trivial
          have hca := Lib.hid (fun W => hc.out a W)
          have hcb := Lib.hid (fun W => hc.out b W)
          rw [hva] at hca
          rw [hvb] at hcb
          clear hva hvb
          go_wp2_with (first | (go_at_call 154; refine (hca.out _).mono ?_; rintro e w1 ⟨rfl, hb1⟩; clear hca) | (go_at_call 154; refine (hcb.out _).mono ?_; rintro e w2 ⟨rfl, hb2⟩))
          go_ret2
          rw [hv.out]
          exact ⟨⟨_, rfl, OwnB.nil _ _⟩, thn (thn hb hb1) hb2⟩
    · have hlt1 : ¬ (2 : Int) * (k : Int) + 1 < (s.length : Int) := by omega
      have hwr : IntKind.i64.wrap (2 * (k : Int) + 1) = 2 * (k : Int) + 1 := IntWalk.i64_in _ (by omega)
      have hv : Hid (unhexV s = (out, decide (s.length % 2 = 0))) := by rw [unhexV, unhexR_end s out k hlt hk HU.out]; trivial
      have hd2 : Hid (((s.length : Int) % 2 == 0) = decide (s.length % 2 = 0)) := by show _ = _; rw [Bool.eq_iff_iff]; simp; omega
      go_wp2
      go_ret2
      rw [hv.out]
      exact ⟨⟨_, by rw [← hd2.out]; rfl, ho⟩, hb⟩
end Go.Proofs.YtfjfjjcdlgdbcaaDoor
namespace Go.Proofs.YtfjfjjcdlgdbcaaDoor
open Go.RowKit
set_option linter.unusedSimpArgs false
set_option linter.unusedVariables false

/-- the bytes of digits, none of a point -/
def undigL (s : List UInt8) : List UInt8 × Bool := if s = [46] then ([], true) else ((unhexV s).1, (unhexV s).2 && decide (0 < (unhexV s).1.length))
theorem undigL_len (s : List UInt8) : (undigL s).1.length ≤ s.length := by
  unfold undigL
  split
  · simp
  · unfold unhexV
    cases h : unhexR s with
    | none => simp
    | some o => exact unhexR_len _ _ _ (Nat.le_refl _) h
set_option maxRecDepth 100000 in
set_option maxHeartbeats 1000000 in
theorem undigits_calls (s : List UInt8) (w : World) (hs : s.length ≤ 100000000) :
    Calls Tryd.prog 109 #[.string (str s)] w fun e w' => (∃ v, e = .returned (.tuple #[v, .bool (undigL s).2]) ∧ OwnB w' w.heap.size v (undigL s).1) ∧ Below w.heap.size w w' := by
  by_cases h : s = [46]
  · have hq : ((str s).toList == [46]) = true := by rw [str_list, h]; decide
    have hu : undigL s = ([], true) := by rw [undigL, if_pos h]
    rw [hu]
    clear hu h
    go_enter Tryd.func109, Tryd.ntmps109
    go_wp2
    go_ret2
    exact ⟨⟨_, rfl, OwnB.nil _ _⟩, Below.refl _ _⟩
  · have hq : ((str s).toList == [46]) = false := by rw [str_list]; simpa using h
    have hu : undigL s = ((unhexV s).1, (unhexV s).2 && decide (0 < (unhexV s).1.length)) := by rw [undigL, if_neg h]
    have hc := Lib.hid (Unhex_calls s w hs)
    rw [hu]
    clear hu h
    generalize unhexV s = u at *
    obtain ⟨bs, ok⟩ := u
    simp only at hc ⊢
    cases ok with
    | false =>
      go_enter Tryd.func109, Tryd.ntmps109
      go_wp2_with (go_at_call 130; refine hc.out.mono ?_; rintro e w1 ⟨⟨v, rfl, ho⟩, hb1⟩)
      go_ret2
      exact ⟨⟨_, rfl, ho⟩, hb1⟩
    | true =>
      go_enter Tryd.func109, Tryd.ntmps109
      go_wp2_with (go_at_call 130; refine hc.out.mono ?_; rintro e w1 ⟨⟨v, rfl, ho⟩, hb1⟩; obtain ⟨A1, c1, rfl, hr1⟩ := ho.reads)
      go_ret2
      exact ⟨⟨_, by rw [Bool.true_and]; simp, ho⟩, hb1⟩

set_option maxRecDepth 100000 in
set_option maxHeartbeats 2000000 in
theorem fixed108_calls (s : List UInt8) (sb g off n : Nat) (w : World) (hs : s.length ≤ 100000000) (hn : n ≤ 1000) (hv : w.cell? ⟨sb, 0, none⟩ = some (.string (str s))) (hroom : ∀ W, Below w.heap.size w W → RoomAt W g off n) :
    Calls Tryd.prog 108 #[.slice (some ⟨g, off, none⟩) n n, .pointer (some ⟨sb, 0, none⟩)] w fun e w' => ∃ w2, Below w.heap.size w w2 ∧
      ((((undigL s).2 = true ∧ (undigL s).1.length = n) ∧ e = .returned (.bool true) ∧ w' = w2.setCells g off (bvs (undigL s).1)) ∨ (¬ ((undigL s).2 = true ∧ (undigL s).1.length = n) ∧ e = .returned (.bool false) ∧ ∃ vs, vs.length ≤ n ∧ w' = w2.setCells g off vs)) := by
  have hc := Lib.hid (undigits_calls s w hs)
  have hul := undigL_len s
  have hrm := Lib.hid hroom
  clear hroom
  generalize undigL s = u at *
  obtain ⟨bs, ok⟩ := u
  simp only at hc hul ⊢
  cases ok with
  | false =>
    go_enter Tryd.func108, Tryd.ntmps108
    go_wp2_with (go_at_call 109; refine hc.out.mono ?_; rintro e w1 ⟨⟨v, rfl, ho⟩, hb1⟩)
    go_ret
    exact ⟨w1, hb1, .inr ⟨by simp, rfl, [], by simp, rfl⟩⟩
  | true =>
    have hcopy := fun (W : World) A c (hr : RdB W A bs.length c bs) (hW : Below w.heap.size w W) => run_copyB (P := Tryd.prog) W 22 22 3 5 g off n n A bs.length c bs Tryd.underlying22 (by kernel_rfl) hr (fun j hj => hrm.out W hW j (by omega))
    rcases Nat.lt_trichotomy bs.length n with hl | hl | hl
    · have hq1 : (((min bs.length n : Nat) : Int) == (bs.length : Int)) = true := by simp; omega
      have hq2 : ((bs.length : Int) == (n : Int)) = false := by simp; omega
      go_enter Tryd.func108, Tryd.ntmps108
      go_wp2_with (go_at_call 109; refine hc.out.mono ?_; rintro e w1 ⟨⟨v, rfl, ho⟩, hb1⟩; obtain ⟨A1, c1, rfl, hr1⟩ := ho.reads; have hcp := hcopy w1 A1 c1 hr1 hb1)
      go_ret
      exact ⟨w1, hb1, .inr ⟨fun h => by have := h.2; omega, rfl, bvs (bs.take n), by rw [bvs_length, List.length_take]; omega, rfl⟩⟩
    · have hq1 : (((min bs.length n : Nat) : Int) == (bs.length : Int)) = true := by simp; omega
      have hq2 : ((bs.length : Int) == (n : Int)) = true := by simp; omega
      have ht := Lib.hid (List.take_of_length_le (l := bs) (i := n) (by omega))
      have HL := Lib.hid hl
      clear hl
      go_enter Tryd.func108, Tryd.ntmps108
      go_wp2_with (go_at_call 109; refine hc.out.mono ?_; rintro e w1 ⟨⟨v, rfl, ho⟩, hb1⟩; obtain ⟨A1, c1, rfl, hr1⟩ := ho.reads; have hcp := hcopy w1 A1 c1 hr1 hb1)
      go_ret
      exact ⟨w1, hb1, .inl ⟨⟨trivial, HL.out⟩, rfl, by rw [ht.out]⟩⟩
    · have hq1 : (((min bs.length n : Nat) : Int) == (bs.length : Int)) = false := by simp; omega
      go_enter Tryd.func108, Tryd.ntmps108
      go_wp2_with (go_at_call 109; refine hc.out.mono ?_; rintro e w1 ⟨⟨v, rfl, ho⟩, hb1⟩; obtain ⟨A1, c1, rfl, hr1⟩ := ho.reads; have hcp := hcopy w1 A1 c1 hr1 hb1)
      go_ret
      exact ⟨w1, hb1, .inr ⟨fun h => by have := h.2; omega, rfl, bvs (bs.take n), by rw [bvs_length, List.length_take]; omega, rfl⟩⟩
end Go.Proofs.YtfjfjjcdlgdbcaaDoor
namespace Go.Proofs.YtfjfjjcdlgdbcaaDoor
open Go.RowKit
set_option linter.unusedSimpArgs false
set_option linter.unusedVariables false

set_option maxRecDepth 100000 in
set_option maxHeartbeats 1000000 in
theorem undigits98_calls (s : List UInt8) (w : World) (hs : s.length ≤ 100000000) :
    Calls Tryd.prog 98 #[.string (str s)] w fun e w' => (∃ v, e = .returned (.tuple #[v, .bool (undigL s).2]) ∧ OwnB w' w.heap.size v (undigL s).1) ∧ Below w.heap.size w w' := by
  by_cases h : s = [46]
  · have hq : ((str s).toList == [46]) = true := by rw [str_list, h]; decide
    have hu : undigL s = ([], true) := by rw [undigL, if_pos h]
    rw [hu]
    clear hu h
    go_enter Tryd.func98, Tryd.ntmps98
    go_wp2
    go_ret2
    exact ⟨⟨_, rfl, OwnB.nil _ _⟩, Below.refl _ _⟩
  · have hq : ((str s).toList == [46]) = false := by rw [str_list]; simpa using h
    have hu : undigL s = ((unhexV s).1, (unhexV s).2 && decide (0 < (unhexV s).1.length)) := by rw [undigL, if_neg h]
    have hc := Lib.hid (Unhex_calls s w hs)
    rw [hu]
    clear hu h
    generalize unhexV s = u at *
    obtain ⟨bs, ok⟩ := u
    simp only at hc ⊢
    cases ok with
    | false =>
      go_enter Tryd.func98, Tryd.ntmps98
      go_wp2_with (go_at_call 130; refine hc.out.mono ?_; rintro e w1 ⟨⟨v, rfl, ho⟩, hb1⟩)
      go_ret2
      exact ⟨⟨_, rfl, ho⟩, hb1⟩
    | true =>
      go_enter Tryd.func98, Tryd.ntmps98
      go_wp2_with (go_at_call 130; refine hc.out.mono ?_; rintro e w1 ⟨⟨v, rfl, ho⟩, hb1⟩; obtain ⟨A1, c1, rfl, hr1⟩ := ho.reads)
      go_ret2
      exact ⟨⟨_, by rw [Bool.true_and]; simp, ho⟩, hb1⟩

set_option maxRecDepth 100000 in
set_option maxHeartbeats 2000000 in
theorem fixed92_calls (s : List UInt8) (g off n : Nat) (w : World) (hs : s.length ≤ 100000000) (hn : n ≤ 1000) (hroom : ∀ W, Below w.heap.size w W → RoomAt W g off n) :
    Calls Tryd.prog 92 #[.string (str s), .slice (some ⟨g, off, none⟩) n n] w fun e w' => ∃ w2, Below w.heap.size w w2 ∧
      ((((undigL s).2 = true ∧ (undigL s).1.length = n) ∧ e = .returned (.bool true) ∧ w' = w2.setCells g off (bvs (undigL s).1)) ∨ (¬ ((undigL s).2 = true ∧ (undigL s).1.length = n) ∧ e = .returned (.bool false) ∧ w' = w2)) := by
  have hc := Lib.hid (undigits98_calls s w hs)
  have hul := undigL_len s
  have hrm := Lib.hid hroom
  clear hroom
  generalize undigL s = u at *
  obtain ⟨bs, ok⟩ := u
  simp only at hc hul ⊢
  cases ok with
  | false =>
    go_enter Tryd.func92, Tryd.ntmps92
    go_wp2_with (go_at_call 98; refine hc.out.mono ?_; rintro e w1 ⟨⟨v, rfl, ho⟩, hb1⟩)
    go_ret
    exact ⟨w1, hb1, .inr ⟨by simp, rfl, rfl⟩⟩
  | true =>
    have hcopy := fun (W : World) A c (hr : RdB W A bs.length c bs) (hW : Below w.heap.size w W) => run_copyB (P := Tryd.prog) W 22 22 3 5 g off n n A bs.length c bs Tryd.underlying22 (by kernel_rfl) hr (fun j hj => hrm.out W hW j (by omega))
    by_cases hl : bs.length = n
    · subst hl
      have hmn : min bs.length bs.length = bs.length := Nat.min_self _
      have ht := Lib.hid (List.take_of_length_le (l := bs) (i := bs.length) (Nat.le_refl _))
      go_enter Tryd.func92, Tryd.ntmps92
      go_wp2_with (go_at_call 98; refine hc.out.mono ?_; rintro e w1 ⟨⟨v, rfl, ho⟩, hb1⟩; obtain ⟨A1, c1, rfl, hr1⟩ := ho.reads; have hcp := hcopy w1 A1 c1 hr1 hb1)
      go_ret
      exact ⟨w1, hb1, .inl ⟨⟨trivial, trivial⟩, rfl, rfl⟩⟩
    · have hq1 : ((bs.length : Int) == (n : Int)) = false := by rw [beq_eq_false_iff_ne]; omega
      have hq2 : ¬ (bs.length : Int) = (n : Int) := by omega
      have hq3 : ¬ bs.length = n := hl
      go_enter Tryd.func92, Tryd.ntmps92
      go_wp2_with (go_at_call 98; refine hc.out.mono ?_; rintro e w1 ⟨⟨v, rfl, ho⟩, hb1⟩; obtain ⟨A1, c1, rfl, hr1⟩ := ho.reads)
      go_ret
      exact ⟨w1, hb1, .inr ⟨fun h => hq3 h.2, rfl, rfl⟩⟩
end Go.Proofs.YtfjfjjcdlgdbcaaDoor
