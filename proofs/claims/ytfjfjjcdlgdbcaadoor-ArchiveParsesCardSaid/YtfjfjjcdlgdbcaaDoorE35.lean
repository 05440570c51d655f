/- The document's list of keys -/
import Derived.Test.YtfjfjjcdlgdbcaaDoorE33
namespace Go.Proofs.YtfjfjjcdlgdbcaaDoor
open Go.RowKit
set_option linter.unusedSimpArgs false
set_option linter.unusedVariables false

theorem consHead_app (b : UInt8) (l r : List (List UInt8)) (h : l ≠ []) : consHead b (l ++ r) = consHead b l ++ r := by
  cases l with
  | nil => exact absurd rfl h
  | cons a t => rfl
theorem splitL_mid (c : UInt8) (r : List UInt8) : ∀ x : List UInt8, splitL c (x ++ c :: r) = splitL c x ++ splitL c r
  | [] => by
    have e1 : splitL c (c :: r) = if c = c then [] :: splitL c r else consHead c (splitL c r) := rfl
    rw [List.nil_append, e1, if_pos rfl]
    rfl
  | b :: x => by
    have ih := splitL_mid c r x
    have e1 : splitL c (b :: x ++ c :: r) = if b = c then [] :: splitL c (x ++ c :: r) else consHead b (splitL c (x ++ c :: r)) := rfl
    have e2 : splitL c (b :: x) = if b = c then [] :: splitL c x else consHead b (splitL c x) := rfl
    rw [e1, e2, ih]
    split
    · rfl
    · exact consHead_app _ _ _ (splitL_ne c x)
theorem Cut.sepAll {c : UInt8} {x : List UInt8} {k f : Nat} {o : List (List UInt8)} (h : Cut c x k f o) (hk : k < x.length) (hb : x.getD k 0 = c) : splitL c x = o ++ (x.take k).drop f :: splitL c (x.drop (k + 1)) := by
  have e : x = x.take k ++ c :: x.drop (k + 1) := by
    conv => lhs; rw [← List.take_append_drop k x]
    rw [List.drop_eq_getElem_cons hk]
    congr 2
    rw [← hb, List.getD_eq_getElem?_getD, List.getElem?_eq_getElem hk]; rfl
  have h1 := splitL_mid c (x.drop (k + 1)) (x.take k)
  rw [← e, h.hs] at h1
  rw [h1]
  simp
theorem unhexV_odd (p : List UInt8) (h : p.length % 2 = 1) : (unhexV p).2 = false := by
  unfold unhexV
  cases unhexR p with
  | none => rfl
  | some bs => simp [h]
theorem unhexQ_good (p : List UInt8) (h : goodP p) : unhexQ p = ((undigL p).1, true) ∧ (undigL p).1 ≠ [] := by
  obtain ⟨h1, h2⟩ := h
  have hb := hex_undig p h1 h2
  unfold undigL at h1 hb ⊢
  rw [if_neg h2] at h1 hb ⊢
  simp only [Bool.and_eq_true] at h1
  refine ⟨?_, hb.2⟩
  unfold unhexQ
  rw [if_neg (fun hodd => by rw [unhexV_odd p hodd] at h1; simp at h1)]
  exact Prod.ext rfl h1.1
theorem unhexQ_bad2 (p : List UInt8) (h : ¬ goodP p) : (unhexQ p).2 = false ∨ ((unhexQ p).2 = true ∧ (unhexQ p).1 = []) := by
  cases hq : (unhexQ p).2 with
  | false => exact .inl rfl
  | true =>
    refine .inr ⟨rfl, ?_⟩
    unfold unhexQ at hq ⊢
    by_cases hodd : p.length % 2 = 1
    · rw [if_pos hodd] at hq; cases hq
    · rw [if_neg hodd] at hq ⊢
      have hne : p ≠ [46] := by rintro rfl; exact hodd rfl
      have hn : ¬ (undigL p).2 = true := fun h' => h ⟨h', hne⟩
      unfold undigL at hn
      rw [if_neg hne] at hn
      simp only [hq, Bool.true_and, decide_eq_true_eq, Nat.not_lt, Nat.le_zero] at hn
      exact List.eq_nil_of_length_eq_zero hn
/-- a key is appended -/
theorem append_key' {w : World} {B : Nat} {u : Value} {done : List (List UInt8 × List UInt8)} (h : OwnL w B u done) (hB : B ≤ w.heap.size) (A1 : Option Addr) (n1 c1 : Nat) (xs : List UInt8) (hr : KeyAt w B A1 n1 c1 xs) (hd : done.length ≤ 100000001) :
    ∃ v2 w2, (Builtin.append_ #[62, 62] 62 #[u, .slice (some ⟨w.heap.size, 0, none⟩) 1 1]).run Tryd.prog (w.alloc (.cells #[.slice A1 n1 c1, .slice none 0 0] 112)) = .ok v2 w2 ∧
      (w.alloc (.cells #[.slice A1 n1 c1, .slice none 0 0] 112)).grownBy w2 u.ownBlock ∧ OwnL w2 B v2 (done ++ [(xs, [])]) := by
  obtain ⟨i0, hi, hz0, hz1, hz2⟩ := info_parts info112
  have hk : KeepsLo B w (w.alloc (.cells #[.slice A1 n1 c1, .slice none 0 0] 112)) := KeepsLo.below (al (Below.refl _ w) _)
  obtain ⟨ks, k1, k2, k3⟩ := h.keeps hk
  obtain ⟨v2, w2, hrun, r1, r2, r3⟩ := run_append_own (P := Tryd.prog) (w.alloc (.cells #[.slice A1 n1 c1, .slice none 0 0] 112)) B 62 62 112 i0 _ 2 48 Tryd.underlying62 hi hz0 hz1 hz2 rfl (by decide) u done.length (kvc ks) k2
    ⟨w.heap.size, 0, none⟩ 1 1 [.slice A1 n1 c1, .slice none 0 0] rfl (by
      intro j u hu
      have hn := (Blk.new w 112 #[.slice A1 n1 c1, .slice none 0 0]).cell j
      have e : (⟨w.heap.size, 0, none⟩ : Addr).add j = ⟨w.heap.size, j, none⟩ := by unfold Addr.add; split <;> simp_all
      rw [e, hn]
      simpa using hu) (by simp [Value.oneCell']) (by unfold maxLen; omega) (by omega) (by simp; omega)
  refine ⟨v2, w2, hrun, r2, ks ++ [.slice A1 n1 c1], by simp [k1], ?_, ?_⟩
  · rw [kvc_snoc, show (done ++ [(xs, ([] : List UInt8))]).length = done.length + 1 by simp]
    exact r1
  · intro j u' kv hj hd'
    have key : ∀ C m d ys, KeyAt (w.alloc (.cells #[.slice A1 n1 c1, .slice none 0 0] 112)) B C m d ys → KeyAt w2 B C m d ys := fun C m d ys hk => hk.grown r2 (fun ad e => by
      obtain ⟨cs, hc⟩ := hk.2 ad e
      exact own_ne k2 hc)
    rcases Nat.lt_or_ge j ks.length with hlt | hge
    · rw [List.getElem?_append_left hlt] at hj
      rw [List.getElem?_append_left (by omega)] at hd'
      obtain ⟨e, C, m, d, e2, e3⟩ := k3 j u' kv hj hd'
      exact ⟨e, C, m, d, e2, key _ _ _ _ e3⟩
    · rw [List.getElem?_append_right hge] at hj
      rw [List.getElem?_append_right (by omega)] at hd'
      obtain ⟨hj0, rfl⟩ : j - ks.length = 0 ∧ Value.slice A1 n1 c1 = u' := by
        cases hjj : j - ks.length with
        | zero => rw [hjj] at hj; exact ⟨rfl, by simpa using hj⟩
        | succ i => rw [hjj] at hj; simp at hj
      rw [← k1, hj0] at hd'
      obtain rfl : (xs, ([] : List UInt8)) = kv := by simpa using hd'
      exact ⟨rfl, A1, n1, c1, rfl, key _ _ _ _ (hr.keeps hk)⟩
theorem wpList_append62 (w : World) {ops : Array Oper} {rest : List Oper} {o : Oper} {a : Act} {Q : Exit → Act → World → Prop}
    (hgd : o.guard = none) (s x : Operand) (ho : o.op = .call { callee := .builtin .append, args := #[s, x], argTypes := #[62, 62] }) (hty : o.type = 62)
    (v u : Value) (hs : a.eval s = v) (hx : a.eval x = u) (v' : Value) (w' : World) (hrun : (Builtin.append_ #[62, 62] 62 #[v, u]).run Tryd.prog w = .ok v' w')
    (h : wpList Tryd.prog ops Q rest (a.put o.dst v') w') : wpList Tryd.prog ops Q (o :: rest) a w := by
  refine wpList_plain hgd fun K hK' => ?_
  unfold Oper.wp execOp
  simp only [ho, hty, resolve, invoke, builtin, Sem.run_bind, Sem.run_pure, Result.andThen_ok, List.map_toArray, List.map_cons, List.map_nil, hs, hx, hrun]
  exact hK' _ _ h
/-- what lies between two rounds -/
structure LS (A : ActP) (bS : Value) (g : Nat) (W : World) (wr : World) (v : Value) (done : List (List UInt8 × List UInt8)) : Prop where
  gr : W.grownBy wr (some g)
  blk : Blk wr g 64 (ak { A with l := done } bS v)
  own : OwnL wr W.heap.size v done
theorem LS.step {A : ActP} {bS : Value} {g : Nat} {W wr w1 w2 : World} {v v2 : Value} {c : Obj} {done : List (List UInt8 × List UInt8)} {kv : List UInt8 × List UInt8} (hA : A.Fit) (hgW : g < W.heap.size) (h : LS A bS g W wr v done) (hb1 : Below wr.heap.size wr w1)
    (hr2 : (w1.alloc c).grownBy w2 v.ownBlock) (hl2 : OwnL w2 W.heap.size v2 (done ++ [kv])) : Blk w2 g 64 (ak { A with l := done } bS v) ∧ LS A bS g W (w2.setCell ⟨g, 120, none⟩ v2) v2 (done ++ [kv]) := by
  have hne : ∀ k, v.ownBlock = some k → W.heap.size ≤ k := fun k e => (h.own.lt k e).1
  have hb2 := al hb1 c
  have hB2 : Blk w2 g 64 (ak { A with l := done } bS v) := (h.blk.below hb2 h.blk.lt).grown hr2 (fun e => by have := hne g e.symm; omega)
  have hs2 : wr.heap.size ≤ w2.heap.size := Nat.le_trans hb2.size hr2.size
  have key : ∀ i, i < W.heap.size → w2.heap[i]? = wr.heap[i]? := fun i hi => by
    have h1 := h.gr.size
    have h2 := hb2.size
    exact (hr2.block i (by omega) (fun e => by have := hne i e.symm; omega)).trans (hb2.block i (by omega))
  refine ⟨hB2, gr_setCell ⟨hr2.os.trans (hb2.os.trans h.gr.os), hr2.tape.trans (hb2.tape.trans h.gr.tape), hr2.output.trans (hb2.output.trans h.gr.output), by have := h.gr.size; omega, fun i hi hng => (key i hi).trans (h.gr.block i hi hng)⟩ _ _, ?_, ?_⟩
  · have h1 := hB2.set_ 120 v2
    rw [set_l { A with l := done } _ _ _ (done ++ [kv]) ⟨hA.ha, hA.hk, hA.hw, hA.hr, hA.hn0, hA.hn1, hA.hm0, hA.hm1, hA.hk0, hA.hk1⟩] at h1
    exact h1
  · exact hl2.keeps ⟨by simp, fun i h1 _ => Below.heap_setCell w2 ⟨g, 120, none⟩ v2 i (by show i ≠ g; omega)⟩
theorem KeyAt.of {w1 : World} {B C : Nat} {A1 : Option Addr} {c1 : Nat} {xs : List UInt8} (hBC : B ≤ C) (ho : OwnB w1 C (.slice A1 xs.length c1) xs) (hr1 : RdB w1 A1 xs.length c1 xs) : KeyAt w1 B A1 xs.length c1 xs :=
  ⟨⟨hr1, fun ad e => by
    subst e
    have := ho.block ad.block rfl
    omega⟩, fun ad e => by
    subst e
    rcases ho.2 with ⟨h0, _⟩ | ⟨g0, cap0, cur0, e0, _, hh, _⟩
    · cases h0
    · injection e0 with e1
      injection e1 with e1
      subst e1
      exact ⟨_, hh⟩⟩
/-- the list that all parts make -/
def LEnd (A : ActP) (bS : Value) (g lo : Nat) (W : World) (s : List UInt8) (e : Ending) (W' : World) : Prop := W.grownBy W' (some g) ∧
  ((e = .returned (.bool false) ∧ keysP (splitL 44 s) = none) ∨ (e = .returned (.bool true) ∧ ∃ done v, keysP (splitL 44 s) = some done ∧ LS A bS g W W' v done))
attribute [-go_sem] Builtin.append_

set_option maxRecDepth 100000 in
set_option maxHeartbeats 8000000 in
theorem list77_loop (s : List UInt8) (hs : s.length ≤ 1000000) (hd : ¬ s = [46]) (A : ActP) (bS : Value) (g : Nat) (W : World) (hfit : A.Fit)
    (hB : Blk W g 64 (ak A bS (.slice none 0 0))) (hnil : A.l = []) :
    Calls Tryd.prog 77 #[.pointer (some ⟨g, 0, none⟩), .string (str s)] W (LEnd A bS g 0 W s) := by
  have hsz : (str s).size = s.length := rfl
  have hgW := hB.lt
  have hq : ((str s).toList == [46]) = false := by rw [str_list]; simpa using hd
  have hq2 : ¬ (str s).toList = [46] := by rw [str_list]; exact hd
  have hA0 : ({ A with l := [] } : ActP) = A := by rw [← hnil]
  have HB0 := Lib.hid (show LS A bS g W W (.slice none 0 0) [] from ⟨World.grownBy.refl W _, by rw [hA0]; exact hB, OwnL.nil _ _⟩)
  clear hB hd
  have FIT : ∀ done, ({ A with l := done } : ActP).Fit := fun done => ⟨hfit.ha, hfit.hk, hfit.hw, hfit.hr, hfit.hn0, hfit.hn1, hfit.hm0, hfit.hm1, hfit.hk0, hfit.hk1⟩
  have HA0 := Lib.hid hA0
  have HNIL := Lib.hid hnil
  clear hA0 hnil
  go_enter Tryd.func77, Tryd.ntmps77
  go_wp2
  go_loopw [5, 6] (fun f i wr => ∃ v done, LS A bS g W wr v done ∧ ((∃ (k fr : Nat) (o : List (List UInt8)), i = .int .i64 k ∧ f = .int .i64 fr ∧ Cut 44 s k fr o ∧ keysP o = some done) ∨ (i = .int .i64 ((s.length : Int) + 1) ∧ keysP (splitL 44 s) = some done))) (fun _ i _ => s.length + 2 - (intOf i).toNat)
  case atStart => exact ⟨_, [], HB0.out, .inl ⟨0, 0, [], rfl, rfl, Cut.zero _ _, rfl⟩⟩
  case round =>
    obtain ⟨v, done, hls, hrel⟩ := hrel
    obtain ⟨av, nv, cv, rfl⟩ := hls.own.slice
    have HLS := Lib.hid hls
    clear hls HB0
    rcases hrel with ⟨k, fr, o, rfl, rfl, hc, hkp⟩ | ⟨rfl, hkp⟩
    · have hk := hc.hk
      have hf := hc.hf
      have hex := extract_part s fr k hf hk
      have HC := Lib.hid hc
      clear hc
      have hkI : (k : Int) ≤ (s.length : Int) := by omega
      have hgI : (0 : Int) ≤ (fr : Int) ∧ (fr : Int) ≤ (k : Int) := by omega
      by_cases hlt : k < s.length
      · have hltI : (k : Int) < (s.length : Int) := by omega
        have hg0 : s[k]? = some (s.getD k 0) := by rw [List.getD_eq_getElem?_getD, List.getElem?_eq_getElem hlt]; rfl
        have hi0 := fun W => idx_strs (P := Tryd.prog) s k _ hg0 W Tryd.underlying9
        clear hg0
        have hsep := Lib.hid (HC.out.sep hlt)
        have hall := Lib.hid (HC.out.sepAll hlt)
        have hoth := Lib.hid (HC.out.other hlt)
        generalize s.getD k 0 = b at *
        by_cases hbb : b = 44
        · have HS := Lib.hid (hsep.out hbb)
          have HALL := Lib.hid (hall.out hbb)
          have hqb : ((b.toNat : Int) != 44) = false := by rw [hbb]; rfl
          have hqb2 : ((b.toNat : Int) = 44) := by rw [hbb]; rfl
          clear hsep hoth hall hbb
          obtain ⟨part, hpart⟩ : ∃ part, part = (s.take k).drop fr := ⟨_, rfl⟩
          have hpl : part.length ≤ s.length := by rw [hpart]; simp; try omega
          rw [← hpart] at hex
          have hcu := Lib.hid (unhex75_calls part wr (by omega))
          have hdl : done.length ≤ 100000001 := by
            have h1 := keysP_length o done hkp
            have h2 := HC.out.len
            omega
          have hHK := Lib.hid hkp
          clear hkp
          rw [← hpart] at HS HALL
          clear hpart
          by_cases hgp : goodP part
          · have hks := Lib.hid (keysP_snoc part hgp o done hHK.out)
            have hgu := unhexQ_good part hgp
            rw [hgu.1] at hcu
            simp only at hcu
            have hbne := hgu.2
            generalize (undigL part).1 = bs at *
            have hbl : ¬ (bs.length : Int) = 0 := fun e => hbne (List.eq_nil_of_length_eq_zero (by omega))
            have hbl2 : ((bs.length : Int) == 0) = false := by rw [beq_eq_false_iff_ne]; exact hbl
            have HAP := Lib.hid (fun (w1 : World) (hb1 : Below wr.heap.size wr w1) A1 c1 (hr1 : KeyAt w1 W.heap.size A1 bs.length c1 bs) => append_key' (w := w1) (u := .slice av nv cv) (HLS.out.own.keeps (KeepsLo.below hb1)) (by have := hb1.size; have := HLS.out.gr.size; omega) A1 _ c1 _ hr1 hdl)
            have hPA : ∀ (w1 : World), Below wr.heap.size wr w1 → w1.cell? ⟨g, 120, none⟩ = some (.slice av nv cv) := fun w1 hb1 => ((HLS.out.blk.below hb1 HLS.out.blk.lt).cell 120).trans (ak_tail _ _ _ (FIT _) 3)
            have HPA := Lib.hid hPA
            clear hgp hgu hbne hPA
            go_wp2_with (first | (go_at_call 75; refine (hcu.out).mono ?_; rintro e w1 ⟨⟨vb, rfl, ho⟩, hb1⟩; obtain ⟨A1, c1, rfl, hr1⟩ := ho.reads; have hc120 := HPA.out w1 hb1; obtain ⟨v2, w2, hrun0, hr2, hl2⟩ := HAP.out w1 hb1 A1 c1 (KeyAt.of HLS.out.gr.size ho hr1); obtain ⟨g', cap', rfl⟩ := hl2.succ; have hrun := Lib.hid hrun0; clear hrun0; have hst := LS.step hfit hgW HLS.out hb1 hr2 hl2; have hB2 := Lib.hid hst.1; have hS2 := Lib.hid hst.2; have hc2 := (hB2.out.cell 120).trans (ak_tail _ _ _ (FIT _) 3); have hf2 := hB2.out.frozen 120; clear hst) | (refine wpList_append62 _ rfl (.tmp 46) (.tmp 49) rfl rfl _ _ rfl rfl _ _ hrun.out ?_))
            go_roundw
            case rel => exact ⟨_, _, hS2.out, .inl ⟨k + 1, k + 1, _, by go_num, by go_num, HS.out, hks.out⟩⟩
            case measure => simp [intOf]; try omega
          · have hnone := keysP_bad part hgp (splitL 44 (s.drop (k + 1))) o
            rw [← HALL.out] at hnone
            have HN := Lib.hid hnone
            clear hnone
            rcases unhexQ_bad2 part hgp with hq | ⟨hq, hq2⟩
            · rw [hq] at hcu
              clear hq hgp
              go_wp2_with (first | (go_at_call 75; refine (hcu.out).mono ?_; rintro e w1 ⟨⟨vb, rfl, ho⟩, hb1⟩; obtain ⟨A1, c1, rfl, hr1⟩ := ho.reads))
              go_ret
              exact ⟨gr_then HLS.out.gr hb1, .inl ⟨rfl, HN.out⟩⟩
            · rw [hq, hq2] at hcu
              clear hq hq2 hgp
              go_wp2_with (first | (go_at_call 75; refine (hcu.out).mono ?_; rintro e w1 ⟨⟨vb, rfl, ho⟩, hb1⟩; obtain ⟨A1, c1, rfl, hr1⟩ := ho.reads))
              go_ret
              exact ⟨gr_then HLS.out.gr hb1, .inl ⟨rfl, HN.out⟩⟩
        · have HS := Lib.hid (hoth.out hbb)
          have hqb2 : ¬ ((b.toNat : Int) = 44) := fun e => hbb (UInt8.toNat_inj.1 (by show b.toNat = 44; omega))
          have hqb : ((b.toNat : Int) != 44) = true := by rw [bne_iff_ne]; exact hqb2
          have hHK := Lib.hid hkp
          clear hsep hoth hbb hall hkp
          go_wp2
          go_roundw
          case rel => exact ⟨_, done, HLS.out, .inl ⟨k + 1, fr, o, by go_num, rfl, HS.out, hHK.out⟩⟩
          case measure => simp [intOf]; try omega
      · obtain rfl : k = s.length := by omega
        have HE := Lib.hid HC.out.end_
        have hdt : (s.take s.length).drop fr = s.drop fr := by rw [List.take_length]
        rw [hdt] at hex
        clear hdt
        obtain ⟨part, hpart⟩ : ∃ part, part = s.drop fr := ⟨_, rfl⟩
        have hpl : part.length ≤ s.length := by rw [hpart]; simp; try omega
        rw [← hpart] at hex
        have hcu := Lib.hid (unhex75_calls part wr (by omega))
        have hdl : done.length ≤ 100000001 := by
          have h1 := keysP_length o done hkp
          have h2 := HC.out.len
          omega
        have hHK := Lib.hid hkp
        clear hkp
        rw [← hpart] at HE
        clear hpart
        by_cases hgp : goodP part
        · have hks := Lib.hid (keysP_snoc part hgp o done hHK.out)
          have hgu := unhexQ_good part hgp
          rw [hgu.1] at hcu
          simp only at hcu
          have hbne := hgu.2
          generalize (undigL part).1 = bs at *
          have hbl : ¬ (bs.length : Int) = 0 := fun e => hbne (List.eq_nil_of_length_eq_zero (by omega))
          have hbl2 : ((bs.length : Int) == 0) = false := by rw [beq_eq_false_iff_ne]; exact hbl
          have HAP := Lib.hid (fun (w1 : World) (hb1 : Below wr.heap.size wr w1) A1 c1 (hr1 : KeyAt w1 W.heap.size A1 bs.length c1 bs) => append_key' (w := w1) (u := .slice av nv cv) (HLS.out.own.keeps (KeepsLo.below hb1)) (by have := hb1.size; have := HLS.out.gr.size; omega) A1 _ c1 _ hr1 hdl)
          have hPA : ∀ (w1 : World), Below wr.heap.size wr w1 → w1.cell? ⟨g, 120, none⟩ = some (.slice av nv cv) := fun w1 hb1 => ((HLS.out.blk.below hb1 HLS.out.blk.lt).cell 120).trans (ak_tail _ _ _ (FIT _) 3)
          have HPA := Lib.hid hPA
          clear hgp hgu hbne hPA
          go_wp2_with (first | (go_at_call 75; refine (hcu.out).mono ?_; rintro e w1 ⟨⟨vb, rfl, ho⟩, hb1⟩; obtain ⟨A1, c1, rfl, hr1⟩ := ho.reads; have hc120 := HPA.out w1 hb1; obtain ⟨v2, w2, hrun0, hr2, hl2⟩ := HAP.out w1 hb1 A1 c1 (KeyAt.of HLS.out.gr.size ho hr1); obtain ⟨g', cap', rfl⟩ := hl2.succ; have hrun := Lib.hid hrun0; clear hrun0; have hst := LS.step hfit hgW HLS.out hb1 hr2 hl2; have hB2 := Lib.hid hst.1; have hS2 := Lib.hid hst.2; have hc2 := (hB2.out.cell 120).trans (ak_tail _ _ _ (FIT _) 3); have hf2 := hB2.out.frozen 120; clear hst) | (refine wpList_append62 _ rfl (.tmp 46) (.tmp 49) rfl rfl _ _ rfl rfl _ _ hrun.out ?_))
          go_roundw
          case rel => exact ⟨_, _, hS2.out, .inr ⟨by go_num, by rw [HE.out]; exact hks.out⟩⟩
          case measure => simp [intOf]; try omega
        · have hnone := keysP_bad part hgp [] o
          rw [← HE.out] at hnone
          have HN := Lib.hid hnone
          clear hnone
          rcases unhexQ_bad2 part hgp with hq | ⟨hq, hq2⟩
          · rw [hq] at hcu
            clear hq hgp
            go_wp2_with (first | (go_at_call 75; refine (hcu.out).mono ?_; rintro e w1 ⟨⟨vb, rfl, ho⟩, hb1⟩; obtain ⟨A1, c1, rfl, hr1⟩ := ho.reads))
            go_ret
            exact ⟨gr_then HLS.out.gr hb1, .inl ⟨rfl, HN.out⟩⟩
          · rw [hq, hq2] at hcu
            clear hq hq2 hgp
            go_wp2_with (first | (go_at_call 75; refine (hcu.out).mono ?_; rintro e w1 ⟨⟨vb, rfl, ho⟩, hb1⟩; obtain ⟨A1, c1, rfl, hr1⟩ := ho.reads))
            go_ret
            exact ⟨gr_then HLS.out.gr hb1, .inl ⟨rfl, HN.out⟩⟩
    · have hn : ¬ (s.length : Int) + 1 ≤ (s.length : Int) := by omega
      have hHK := Lib.hid hkp
      clear hkp
      go_wp2
      go_ret
      exact ⟨HLS.out.gr, .inr ⟨rfl, done, _, hHK.out, HLS.out⟩⟩

theorem list77_calls (s : List UInt8) (hs : s.length ≤ 1000000) (A : ActP) (bA : Option Addr) (bn bc : Nat) (lA : Option Addr) (ln lc : Nat) (g lo : Nat) (W : World) (hglo : g < lo) (hlo : lo ≤ W.heap.size)
    (hB : Blk W g 64 (ak A (.slice bA bn bc) (.slice lA ln lc))) (hR : RdActX W lo A bA bn bc lA ln lc) (hn : A.l = []) :
    Calls Tryd.prog 77 #[.pointer (some ⟨g, 0, none⟩), .string (str s)] W fun e W' => W.grownBy W' (some g) ∧
      ((e = .returned (.bool false) ∧ pF A 108 s = none) ∨ (e = .returned (.bool true) ∧ ∃ A' bA' bn' bc' lA' ln' lc', pF A 108 s = some A' ∧ Blk W' g 64 (ak A' (.slice bA' bn' bc') (.slice lA' ln' lc')) ∧ RdActX W' lo A' bA' bn' bc' lA' ln' lc')) := by
  obtain ⟨rfl, rfl⟩ := hR.2.2.2.2.2 hn
  have hln : ln = 0 := by
    have := hR.2.2.1.1
    rw [hn] at this
    simpa using this.symm
  subst hln
  have hpf0 : pF A 108 s = if s = [46] then some A else (keysP (splitL 44 s)).map fun l => { A with l := A.l ++ l } := rfl
  by_cases hd : s = [46]
  · have hpf : pF A 108 s = some A := by rw [hpf0, if_pos hd]
    have hq : ((str s).toList == [46]) = true := by rw [str_list]; simpa using hd
    have HB := Lib.hid hB
    have HR := Lib.hid hR
    rw [hpf]
    clear hd hpf hB hR hn hpf0
    go_enter Tryd.func77, Tryd.ntmps77
    go_wp2
    go_ret
    exact ⟨World.grownBy.refl W _, .inr ⟨rfl, A, bA, bn, bc, none, 0, 0, rfl, HB.out, HR.out⟩⟩
  · have hpf : pF A 108 s = (keysP (splitL 44 s)).map fun l => { A with l := A.l ++ l } := by rw [hpf0, if_neg hd]
    refine (list77_loop s hs hd A _ g W hR.1 hB hn).mono fun e W' ⟨hgr, h⟩ => ⟨hgr, ?_⟩
    rcases h with ⟨he, hk⟩ | ⟨he, done, v, hk, hls⟩
    · exact .inl ⟨he, by rw [hpf, hk]; rfl⟩
    · have hne : done ≠ [] := by
        intro e
        have h1 := keysP_length _ _ hk
        rw [e] at h1
        exact splitL_ne 44 s (List.eq_nil_of_length_eq_zero h1.symm)
      obtain ⟨lA, lc, rfl, hrd⟩ := hls.own.reads hne
      refine .inr ⟨he, { A with l := done }, bA, bn, bc, lA, done.length, lc, by rw [hpf, hk, hn]; rfl, hls.blk, ⟨⟨hR.1.ha, hR.1.hk, hR.1.hw, hR.1.hr, hR.1.hn0, hR.1.hn1, hR.1.hm0, hR.1.hm1, hR.1.hk0, hR.1.hk1⟩, hR.2.1.keeps (KeepsLo.grown hgr hglo), hrd.weaken hlo⟩⟩
end Go.Proofs.YtfjfjjcdlgdbcaaDoor
