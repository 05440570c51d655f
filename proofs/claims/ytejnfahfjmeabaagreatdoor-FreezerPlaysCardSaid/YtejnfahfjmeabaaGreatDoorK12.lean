/- the texts M72, M71, M74, M75 of this proof, one behind the other -/
import Derived.Test.YtejnfahfjmeabaaGreatDoorK11
import Derived.BigQuiet
set_option linter.unusedSimpArgs false
set_option linter.unusedVariables false
namespace Go.Proofs.YtejnfahfjmeabaaGreatDoor
open Go.RowKit
set_option linter.unusedSimpArgs false
set_option linter.unusedVariables false

theorem stepM_app (tables : Nat) (m : MSt) (k n : Nat) (vs : List (List UInt8)) : stepM tables m k (.app n vs) = if rightB tables vs = false then (120, m) else if n ≠ m.head then (121, m) else if k = 0 then (0, ⟨m.tail, m.head + 1, m.sure, m.all ++ [vs]⟩) else (0, m) := rfl
/-- a row of slices that may be written over -/
structure CpW (wr : World) (A : Option Addr) (N : Nat) (els : List Value) (cp : Blocks) : Prop where
  len : els.length = N
  row : 0 < N → ∃ g cs, A = some ⟨g, 0, none⟩ ∧ cp g ∧ Blk wr g 34 cs ∧ ∀ (j : Nat) v, els[j]? = some v → cs[j]? = some v
  each : ∀ v ∈ els, WrB wr v ∧ ∀ x, ownS v x → cp x
theorem CopyM.cpw {wr : World} {B : Nat} {V : Value} {vs : List (List UInt8)} (h : CopyM wr B V vs) {cp : Blocks} (hc : ∀ k, B ≤ k → k < wr.heap.size → cp k) : ∃ A c els, V = .slice A vs.length c ∧ CpW wr A vs.length els cp := by
  obtain ⟨els, h1, h2⟩ := h
  have hl : els.length = vs.length := by have := h1.1; omega
  have he : ∀ v ∈ els, WrB wr v ∧ ∀ x, ownS v x → cp x := fun v hv => by
    obtain ⟨j, hj⟩ := List.getElem?_of_mem hv
    obtain ⟨xs, _, ho⟩ := h2 j v hj
    exact ⟨ho.wr, fun x hx => hc x (World.ownsRow.lt ho x hx).1 (World.ownsRow.lt ho x hx).2⟩
  rcases h1.2 with ⟨rfl, h0⟩ | ⟨g, cap, cur, rfl, hb, hh, hn, hm, hs, ht⟩
  · exact ⟨none, 0, els, by rw [h0], hl, fun hp => absurd hp (by omega), he⟩
  · refine ⟨_, cap, els, rfl, hl, fun hp => ⟨g, cur, rfl, hc g hb (Blk.lt hh), hh, fun j v hj => ?_⟩, he⟩
    have := World.ownsRow.cells h1 (g := g) rfl j v hj
    rw [show (⟨g, 0, none⟩ : Addr).add j = ⟨g, j, none⟩ from by unfold Addr.add; split <;> simp_all] at this
    rw [← this]
    exact ((show Blk wr g 34 cur from hh).cell j).symm
theorem CpW.keeps {wr w' : World} {A : Option Addr} {N : Nat} {els : List Value} {cp : Blocks} (h : CpW wr A N els cp) (hk : KeepsOn cp wr w') : CpW w' A N els cp := by
  refine ⟨h.len, fun hp => ?_, fun u hu => ⟨(h.each u hu).1.keeps (hk.mono (h.each u hu).2), (h.each u hu).2⟩⟩
  obtain ⟨g, cs, e, hg, h1, h2⟩ := h.row hp
  exact ⟨g, cs, e, hg, (hk g hg).trans h1, h2⟩
theorem CpW.spoiled {wr w' : World} {A : Option Addr} {N : Nat} {els : List Value} {cp : Blocks} (h : CpW wr A N els cp) {v : Value} (hv : WrB wr v) (hu : Upd (ownS v) (ownS v) wr w') (hw : ∀ u, WrB wr u → WrB w' u) : CpW w' A N els cp := by
  refine ⟨h.len, fun hp => ?_, fun u hu2 => ⟨hw u (h.each u hu2).1, (h.each u hu2).2⟩⟩
  obtain ⟨g, cs, e, hg, h1, h2⟩ := h.row hp
  exact ⟨g, cs, e, hg, (hu.block g h1.lt (hv.ne h1 (by decide))).trans h1, h2⟩
section
variable {P : Blocks → World → Prop} {Q : Nat → Blocks → World → Prop} {w W : World} {mb : Blocks} {b f tables : Nat} {iv : Value} {m : MSt} {els : List Value} {s : StepP} {V : Option Addr} {n c : Nat}
/-- while the copies are written over -/
structure SpoilS (Q : Nat → Blocks → World → Prop) (w wr : World) (mb mb2 : Blocks) (b tables : Nat) (iv : Value) (m : MSt) (els : List Value) (k : Nat) (v : Value) (bx : Nat) (bc : Array Value) (A : Option Addr) (N : Nat) (es : List Value) (cp : Blocks) : Prop where
  after : AfterOp Q w wr mb mb2 b tables iv m els k v
  box : Blk wr bx 54 bc
  row : CpW wr A N es cp
  cin : ∀ x, cp x → mb2 x ∧ ¬ mb x
theorem SpoilS.round {wr w' : World} {mb2 : Blocks} {k : Nat} {v : Value} {bx : Nat} {bc : Array Value} {A : Option Addr} {N : Nat} {es : List Value} {cp : Blocks} (hQ : ∀ k, Apart (Q k)) (h : SpoilS Q w wr mb mb2 b tables iv m els k v bx bc A N es cp) {u : Value} (hu : u ∈ es)
    (hu2 : Upd (ownS u) (ownS u) wr w') (hz : w'.heap.size = wr.heap.size) (hw : ∀ u, WrB wr u → WrB w' u) : SpoilS Q w w' mb mb2 b tables iv m els k v bx bc A N es cp := by
  obtain ⟨hwu, hcu⟩ := h.row.each u hu
  have hA := h.after
  have hs : ∀ x, ownS u x → mb2 x := fun x hx => (h.cin x (hcu x hx)).1
  refine ⟨⟨(hQ k).upd hA.q (hu2.within hs), hA.err.upd hu2 (fun x cs hx => hwu.ne hx (by decide)), hA.mod.keeps (fun x hx => hu2.block x (hA.mod.lt x hx).2 (fun e => (h.cin x (hcu x e)).2 hx)) hu2.size, hA.bel.trans (hu2.bel hA.bel.size (fun x hx => (hA.bnd x (hs x hx)).1)), fun x hx => by rw [hz]; exact hA.bnd x hx, hA.sub⟩,
    (hu2.block bx h.box.lt (hwu.ne h.box (by decide))).trans h.box, h.row.spoiled hwu hu2 hw, h.cin⟩
/-- the item was taken: it is laid behind the model's -/
theorem AfterOp.laid (hQ : ∀ k, Apart (Q k)) {W' : World} {mb2 : Blocks} (A : AfterOp Q w W' mb mb2 b tables iv m els 0 .nilIface) {vs : List (List UInt8)} (hv : RdM w V n c vs) (hr : rightB tables vs = true) (hh : m.head ≤ 1000000) :
    ∃ A0 c0, iv = .slice A0 m.head c0 ∧ m.head ≤ c0 ∧ (A0 = none → m.head = 0 ∧ c0 = 0) ∧ ∃ c2 W6,
      (Builtin.append_ #[49, 49] 49 #[.slice A0 m.head m.head, .slice (some ⟨W'.heap.size, 0, none⟩) 1 1]).run Tryz.prog (W'.alloc (.cells #[.slice V n c] 35)).drew = .ok (.slice (some ⟨W'.heap.size + 1, 0, none⟩) (m.head + 1) c2) W6 ∧
      W6.cell? ⟨b, 1, none⟩ = some (.slice A0 m.head c0) ∧ W6.frozen? ⟨b, 1, none⟩ = false ∧ (W6.setCell ⟨b, 1, none⟩ (.slice (some ⟨W'.heap.size + 1, 0, none⟩) (m.head + 1) c2)).cell? ⟨b, 3, none⟩ = some (.int .i64 (m.head : Int)) ∧ (W6.setCell ⟨b, 1, none⟩ (.slice (some ⟨W'.heap.size + 1, 0, none⟩) (m.head + 1) c2)).frozen? ⟨b, 3, none⟩ = false ∧
      DoesQ Q w b tables m (.app m.head vs) (.returned (.tuple #[.nilIface, .int .i64 0])) ((W6.setCell ⟨b, 1, none⟩ (.slice (some ⟨W'.heap.size + 1, 0, none⟩) (m.head + 1) c2)).setCell ⟨b, 3, none⟩ (.int .i64 ((m.head : Int) + 1))) := by
  have hl := A.mod.len
  obtain ⟨A0, c0, hiv, hc0, hA1, hA2, hI⟩ := A.mod.its.cut m.head (Nat.le_of_eq hl.symm)
  have e1 : els.take m.head = els := List.take_of_length_le (by rw [A.mod.its.len, hl]; exact Nat.le_refl _)
  have e2 : m.all.take m.head = m.all := List.take_of_length_le (by rw [hl]; exact Nat.le_refl _)
  rw [e1, e2] at hI
  rw [hl] at hiv hc0
  obtain ⟨c2, W6, cs, hrun, hb6, hz6, hB6, hc2, hcs⟩ := mappend hI hl hA2 hh V n c
  obtain ⟨X, hX⟩ : ∃ X, X = Value.slice (some ⟨W'.heap.size + 1, 0, none⟩) (m.head + 1) c2 := ⟨_, rfl⟩
  have hbl := A.mod.blk
  rw [hiv] at hbl
  have hB0 : Blk W6 b 51 (mdk tables (.slice A0 m.head c0) m.tail m.head m.sure) := hbl.below hb6 hbl.lt
  have hB0' : Blk (W6.setCell ⟨b, 1, none⟩ X) b 51 (mdk tables X m.tail m.head m.sure) := (hB0.set_ 1 _).eq_ rfl
  have hB0'' : Blk ((W6.setCell ⟨b, 1, none⟩ X).setCell ⟨b, 3, none⟩ (.int .i64 ((m.head : Int) + 1))) b 51 (mdk tables X m.tail (m.head + 1) m.sure) := (hB0'.set_ 3 _).eq_ rfl
  obtain ⟨W7, hW7⟩ : ∃ W7, W7 = (W6.setCell ⟨b, 1, none⟩ X).setCell ⟨b, 3, none⟩ (.int .i64 ((m.head : Int) + 1)) := ⟨_, rfl⟩
  have hu : Upd (one b) (one b) W6 W7 := by rw [hW7]; exact ((Upd.refl (one b) W6).set (p := ⟨b, 1, none⟩) rfl _).set (p := ⟨b, 3, none⟩) rfl _
  have hz7 : W7.heap.size = W6.heap.size := by rw [hW7]; simp [World.setCell]
  refine ⟨A0, c0, hiv, hc0, hA1, c2, W6, hrun, hB0.cell 1, hB0.frozen 1, by rw [← hX]; exact hB0'.cell 3, by rw [← hX]; exact hB0'.frozen 3, ?_⟩
  rw [← hX, ← hW7]
  have es : stepM tables m 0 (.app m.head vs) = (0, ⟨m.tail, m.head + 1, m.sure, m.all ++ [vs]⟩) := by rw [stepM_app, if_neg (by rw [hr]; decide), if_neg (by simp), if_pos rfl]
  have hzz : W'.heap.size ≤ W6.heap.size := by omega
  have hbn : ∀ x, grow mb2 W' W6 x → w.heap.size ≤ x ∧ x < W7.heap.size := fun x hx => by
    have h0 := A.bel.size
    rcases hx with hx | hx
    · have := A.bnd x hx
      omega
    · omega
  have hmb2 : mb2 b := A.sub b A.mod.inb
  refine ⟨.nilIface, 0, X, els ++ [.slice V n c], grow mb2 W' W6, by rw [es]; rfl, .inl ⟨rfl, rfl⟩, (hQ 0).upd ((hQ 0).below A.q hb6) (hu.within (gp := grow mb2 W' W6) (fun x hx => by cases hx; exact .inl hmb2)), ?_, ?_⟩
  · rw [es]
    have hne : W'.heap.size + 1 ≠ b := by have := A.mod.blk.lt; omega
    refine ⟨by rw [hW7]; exact hB0'', ⟨?_, ?_, .inr ⟨W'.heap.size + 1, c2, cs, by rw [hX, List.length_append, List.length_singleton, A.mod.its.len, hl], by rw [List.length_append, List.length_singleton, A.mod.its.len, hl]; exact hc2, .inr ⟨by omega, by omega⟩, (hu.block _ hB6.lt (fun e => hne e)).trans hB6, hcs⟩⟩, by rw [List.length_append, List.length_singleton, hl], .inl hmb2, hbn⟩
    · rw [List.length_append, List.length_append, A.mod.its.len]
      rfl
    · intro j v us h1 h2
      by_cases hj : j < els.length
      · rw [List.getElem?_append_left hj] at h1
        rw [List.getElem?_append_left (by rw [← A.mod.its.len]; exact hj)] at h2
        exact A.mod.its.each j v us h1 h2
      · have hjl := (List.getElem?_eq_some_iff.1 h1).1
        rw [List.length_append, List.length_singleton] at hjl
        obtain rfl : j = els.length := by omega
        rw [List.getElem?_append_right (Nat.le_refl _), Nat.sub_self] at h1
        rw [A.mod.its.len, List.getElem?_append_right (Nat.le_refl _), Nat.sub_self] at h2
        obtain rfl : _ = v := Option.some.inj h1
        obtain rfl : _ = us := Option.some.inj h2
        exact ⟨V, n, c, rfl, hv⟩
  · have h0 := A.bel.size
    have hm0 := (A.mod.lt b A.mod.inb).1
    exact (A.bel.trans (hb6.mono h0)).trans (hu.bel (by omega) (fun x hx => by cases hx; exact hm0))
attribute [-go_sem] Builtin.append_
set_option maxRecDepth 100000 in
set_option maxHeartbeats 8000000 in
theorem mdoes_app (H : DoesIn P Q w W mb b f tables iv m els s V n c) (hr : s.what % 6 < 2) :
    Calls Tryz.prog 24 #[.pointer (some ⟨b, 0, none⟩), .pointer (some ⟨f, 0, none⟩), .agg (stepV s V n c)] W (DoesQ Q w b tables m (opOf m.tail m.head s)) := by
  obtain ⟨nn, hnn⟩ : ∃ nn, nn = (if s.n % 9 = 0 then s.n else m.head) := ⟨_, rfl⟩
  have hop : opOf m.tail m.head s = .app nn s.vs := by unfold opOf; rw [if_pos hr, hnn]
  have HH := Lib.hid H
  obtain ⟨W1, hW1⟩ : ∃ W1 : World, W1 = W.alloc (.cells (stepV s V n c) 54) := ⟨_, rfl⟩
  have hb1 : Below W.heap.size W W1 := by rw [hW1]; exact (Below.refl _ _).alloc (Nat.le_refl _) _
  have hz1 : W1.heap.size = W.heap.size + 1 := by rw [hW1]; simp
  have hB1 : Blk W1 W.heap.size 54 (stepV s V n c) := by rw [hW1]; exact Blk.new W 54 _
  have HB1 := Lib.hid hb1
  have HO := Lib.hid (fun (W' : World) (hb : Below W.heap.size W W') => H.op (grow mb W W') W' (H.hP.below H.frz hb) (fun _ h => .inl h) (grow_bnd H.mod.lt H.bel.size hb.size) (thn H.bel hb))
  rw [hop] at HO ⊢
  unfold OpCalls at HO
  have HMOD := Lib.hid (mod_calls s.what 6 H.what (by omega) (by omega) W1)
  have HCL := Lib.hid (copyLists_calls V n c s.vs W1 (H.val.below (thn H.bel hb1)) H.few H.short)
  have M1 := (H.mod.below hb1).cells
  have c0 : W1.cell? ⟨W.heap.size, 0, none⟩ = some (.int .i64 (s.what : Int)) := hB1.cell 0
  have c1 : W1.cell? ⟨W.heap.size, 1, none⟩ = some (.int .i64 (s.n : Int)) := hB1.cell 1
  have c2 : W1.cell? ⟨W.heap.size, 2, none⟩ = some (.slice V n c) := hB1.cell 2
  have d3 := M1.2.2.2.1
  obtain ⟨r, hrr⟩ : ∃ r, r = s.what % 6 := ⟨_, rfl⟩
  have hr2 : r = 0 ∨ r = 1 := by omega
  rw [← hrr] at HMOD
  obtain ⟨bcs, hbcs⟩ : ∃ bcs, bcs = stepV s V n c := ⟨_, rfl⟩
  -- behind the call
  have fin : ∀ (W2 : World) (A4 : Option Addr) (c4 : Nat) (V4 : Value), CopyM W2 W1.heap.size V4 s.vs → Below W1.heap.size W1 W2 → ∃ A4 c4 es, V4 = .slice A4 s.vs.length c4 ∧ RdM W2 A4 s.vs.length c4 s.vs ∧
      ∀ W3 v k, ErrR W3 v k → KeptQ w (grow mb W W2) W2 Q k W3 → SpoilS Q w W3 mb (grow mb W W2) b tables iv m els k v W.heap.size bcs A4 s.vs.length es (fun x => W1.heap.size ≤ x ∧ x < W2.heap.size) := by
    intro W2 A4 c4 V4 hC hb2
    obtain ⟨A, c5, es, e1, hW⟩ := hC.cpw (cp := fun x => W1.heap.size ≤ x ∧ x < W2.heap.size) (fun x h1 h2 => ⟨h1, h2⟩)
    obtain ⟨A', c6, e2, hR⟩ := hC.reads
    obtain ⟨rfl, _, rfl⟩ : A = A' ∧ True ∧ c5 = c6 := by
      rw [e1] at e2
      exact ⟨(Value.slice.injEq _ _ _ _ _ _ ▸ e2).1, trivial, (Value.slice.injEq _ _ _ _ _ _ ▸ e2).2.2⟩
    refine ⟨A, c5, es, e1, hR, fun W3 v k he hk => ?_⟩
    have hbW := thn HB1.out hb2
    have A3 := HH.out.after hbW hk he
    have K : KeepsOn (grow mb W W2) W2 W3 := fun x hx => hk.2.block x (by
      have := A3.bnd x hx
      rcases hx with hx | hx
      · have := (HH.out.mod.lt x hx).2
        have := hbW.size
        omega
      · exact hx.2) (fun h => h.2 hx)
    have hz2 := hb2.size
    have hin : ∀ x, (W1.heap.size ≤ x ∧ x < W2.heap.size) → grow mb W W2 x ∧ ¬ mb x := fun x hx => ⟨.inr ⟨by omega, hx.2⟩, fun hm => by have := (HH.out.mod.lt x hm).2; omega⟩
    refine ⟨A3, ?_, hW.keeps (K.mono fun x hx => (hin x hx).1), hin⟩
    rw [hbcs]
    exact (K W.heap.size (.inr ⟨Nat.le_refl _, by omega⟩)).trans (hB1.below hb2 (by omega))
  have FIN := Lib.hid fin
  obtain ⟨sw, hsw⟩ : ∃ sw, sw = s.what := ⟨_, rfl⟩
  obtain ⟨sn, hsn⟩ : ∃ sn, sn = s.n := ⟨_, rfl⟩
  obtain ⟨mh, hmh⟩ : ∃ mh, mh = m.head := ⟨_, rfl⟩
  have HMH := Lib.hid hmh
  have HBCS := Lib.hid hbcs
  obtain ⟨N4, hN4⟩ : ∃ N4, N4 = s.vs.length := ⟨_, rfl⟩
  have HN4 := Lib.hid (show N4 = n ∧ n ≤ 1000000 from ⟨by rw [hN4]; exact H.val.1, H.few⟩)
  rw [← hN4] at FIN
  unfold stepV at hW1 ⊢
  rw [← hsw] at hW1 c0 HMOD ⊢
  rw [← hsn] at hW1 c1 hnn ⊢
  rw [← hmh] at d3 hnn
  rw [hW1] at HMOD c0 c1 c2 d3
  have k0 : ((0 : Nat) : Int) = 0 := rfl
  have k9 : (sn % 9 = 0 ∧ Int.tmod (sn : Int) 9 = 0 ∧ nn = sn) ∨ (sn % 9 ≠ 0 ∧ ¬ Int.tmod (sn : Int) 9 = 0 ∧ nn = mh) := by
    have e : Int.tmod (sn : Int) 9 = ((sn % 9 : Nat) : Int) := (Int.ofNat_tmod sn 9).symm
    by_cases h9 : sn % 9 = 0
    · exact .inl ⟨h9, by rw [e, h9]; rfl, by rw [hnn, if_pos h9]⟩
    · exact .inr ⟨h9, by rw [e]; omega, by rw [hnn, if_neg h9]⟩
  -- the rest, from the call on
  clear fin M1 hsw hsn hmh hr hop hrr hb1 hB1 hbcs hnn hN4
  have k9' : (Int.tmod (sn : Int) 9 = 0 ∧ nn = sn) ∨ ((∃ r9 : Nat, Int.tmod (sn : Int) 9 = (r9 : Int) ∧ 0 < r9) ∧ nn = mh) := by
    rcases k9 with h | h
    · exact .inl h.2
    · exact .inr ⟨⟨sn % 9, (Int.ofNat_tmod sn 9).symm, by omega⟩, h.2.2⟩
  clear k9 k0
  rcases k9' with ⟨k9, hk⟩ | ⟨⟨r9, k9, hr9⟩, hk⟩
  case' inl => subst hk
  case' inr =>
    rw [← hk] at d3
    clear hk
  all_goals rcases hr2 with rfl | rfl
  all_goals
    try have hr9' : ¬ (r9 : Int) = 0 := by omega
    go_enter Tryz.func24, Tryz.ntmps24
    go_wp2_with fail
    refine HMOD.out.mono ?_
    rintro e w1 ⟨rfl, rfl⟩
    go_wp2_with fail
    rw [← hW1]
    refine HCL.out.mono ?_
    rintro e W2 ⟨V4, rfl, hC, hb2⟩
    obtain ⟨A4, c4, es, rfl, hR4, hfin⟩ := FIN.out W2 none 0 V4 hC hb2
    have HFIN := Lib.hid hfin
    have HOP := Lib.hid (HO.out W2 (thn HB1.out hb2) A4 N4 c4 hR4)
    obtain ⟨cp, hcp⟩ : ∃ cp : Blocks, cp = fun x => W1.heap.size ≤ x ∧ x < W2.heap.size := ⟨_, rfl⟩
    rw [← hcp] at HFIN
    clear hC hb2 hfin hR4 hcp c0 c1 c2 d3 k9
    go_wp2_with fail
    refine HOP.out.mono ?_
    rintro e W3 ⟨v, k, rfl, he, hk⟩
    have HS := Lib.hid (HFIN.out W3 v k he hk)
    clear he hk
    go_wp2_with fail
    go_loopw [11] (fun i wr => ∃ j : Nat, j ≤ N4 ∧ i = .int .i64 j ∧ SpoilS Q w wr mb (grow mb W W2) b tables iv m els k v W.heap.size bcs A4 N4 es cp) (fun i _ => N4 - (intOf i).toNat)
    case atStart => exact ⟨0, by omega, rfl, HS.out⟩
    case round =>
      obtain ⟨j, hj, rfl, hS⟩ := hrel
      obtain ⟨wo, rfl⟩ : ∃ wo : World, wo = wr := ⟨_, rfl⟩
      have HSj := Lib.hid hS
      by_cases hlt : j < N4
      · obtain ⟨g, cs, rfl, hg, hBg, hcs⟩ := hS.row.row (by omega)
        have hjl : j < es.length := by rw [hS.row.len]; exact hlt
        obtain ⟨u, hu⟩ : ∃ u, es[j]? = some u := ⟨_, List.getElem?_eq_getElem hjl⟩
        have hm := List.mem_of_getElem? hu
        have hwu := (hS.row.each u hm).1
        have hcell : wo.cell? ⟨g, j, none⟩ = some u := by rw [hBg.cell]; exact hcs j u hu
        have HSP := Lib.hid (spoil_calls u wo hwu)
        have HM := Lib.hid hm
        obtain ⟨Au, nu, cu, rfl, _⟩ := hwu
        have hkI : (0 : Int) ≤ (j : Int) ∧ (j : Int) < (N4 : Int) := by omega
        have hjb : N4 ≤ 1000000 := by have := HN4.out; omega
        clear hS hg hBg hcs hjl hu hm
        go_wp2_with fail
        refine HSP.out.mono ?_
        rintro e w9 ⟨rfl, hu2, hz, hw⟩
        have HS9 := Lib.hid (HSj.out.round HH.out.hQ HM.out hu2 hz hw)
        clear hu2 hz hw
        go_wp2_with fail
        go_roundw
        case rel => exact ⟨j + 1, by omega, by go_num, HS9.out⟩
        case measure => simp [intOf]; omega
      · obtain rfl : j = N4 := by omega
        have x2 : wo.cell? ⟨W.heap.size, 2, none⟩ = some (.slice V n c) := by
          have := hS.box.cell 2
          rw [HBCS.out] at this
          exact this
        obtain ⟨b0, b1, b2, b3, b4⟩ := hS.after.mod.cells
        have HR := Lib.hid (mright_calls b tables V n c s.vs wo b0 (HH.out.val.below hS.after.bel))
        have HA := Lib.hid hS.after
        rw [← HMH.out] at b3
        clear hS hlt hj b0
        by_cases hq : rightB tables s.vs = false
        · have HF := Lib.hid (HA.out.same (o := .app nn s.vs) (e := 120) (by rw [stepM_app, if_pos hq]))
          rw [hq] at HR
          clear hq b1 b2 b3 b4
          go_wp2_with fail
          refine HR.out.mono ?_
          rintro e w10 ⟨rfl, rfl⟩
          go_wp2_with fail
          go_ret2
          exact HF.out
        · have hq1 : rightB tables s.vs = true := by simpa using hq
          rw [hq1] at HR
          by_cases hh : nn = mh
          · rw [← hh] at b3
            rcases HA.out.err with ⟨rfl, rfl⟩ | ⟨hk0, kk, hkk⟩
            · obtain ⟨A0, c0, rfl, hc0, hA0, c2, W6, hrun, y1, g1, y3, g3, hd⟩ := HA.out.laid HH.out.hQ HH.out.val hq1 HH.out.head
              have hmn : m.head = nn := by rw [hh, HMH.out]
              rw [hmn] at b1 hc0 hA0 hrun y1 y3 g3 hd
              have HD := Lib.hid hd
              have hnb : nn ≤ 1000000 := by rw [← hmn]; exact HH.out.head
              have i1 : (0 : Int) ≤ (nn : Int) ∧ (nn : Int) ≤ (c0 : Int) := by omega
              have kw : wrap64 ((nn : Int) + 1) = (nn : Int) + 1 := wrap_ok _ (by omega) (by omega)
              clear hd hq hq1 b2 b4 hh hmn hA0
              go_wp2_with fail
              refine HR.out.mono ?_
              rintro e w10 ⟨rfl, rfl⟩
              go_wp2_with fail
              have bA : Below w10.heap.size w10 (w10.alloc (.cells #[.slice V n c] 35)) := (Below.refl _ _).alloc (Nat.le_refl _) _
              have b1a := cell_below' bA b1
              have b3a := cell_below' bA b3
              have x2a := cell_below' bA x2
              have b1d : w10.drew.cell? ⟨b, 1, none⟩ = some (.slice A0 nn c0) := b1
              have b3d : w10.drew.cell? ⟨b, 3, none⟩ = some (.int .i64 (nn : Int)) := b3
              have x2d : w10.drew.cell? ⟨W.heap.size, 2, none⟩ = some (.slice V n c) := x2
              clear bA b3
              go_region
              clear hrun b1a b3a x2a b1d b3d x2d
              go_wp2_with fail
              go_ret2
              exact HD.out
            · obtain ⟨tt, xx, rfl⟩ := hkk.iface
              have HF := Lib.hid (HA.out.same (o := .app nn s.vs) (e := 0) (by rw [stepM_app, if_neg hq, if_neg (by rw [← HMH.out]; exact fun h => h hh), if_neg hk0]))
              clear hq hq1 b1 b2 b4 hk0 hkk
              go_wp2_with fail
              refine HR.out.mono ?_
              rintro e w10 ⟨rfl, rfl⟩
              go_wp2_with fail
              go_ret2
              exact HF.out
          · have HF := Lib.hid (HA.out.same (o := .app nn s.vs) (e := 121) (by rw [stepM_app, if_neg hq, if_pos (by rw [← HMH.out]; exact hh)]))
            have t1 : ¬ (nn : Int) = (mh : Int) := by omega
            have t2 : ((nn : Int) == (mh : Int)) = false := by rw [beq_eq_false_iff_ne]; exact t1
            clear hq hq1 b1 b2 b4 hh
            go_wp2_with fail
            refine HR.out.mono ?_
            rintro e w10 ⟨rfl, rfl⟩
            go_wp2_with fail
            go_ret2
            exact HF.out
end
end Go.Proofs.YtejnfahfjmeabaaGreatDoor
namespace Go.Proofs.YtejnfahfjmeabaaGreatDoor
open Go.RowKit
set_option linter.unusedSimpArgs false
set_option linter.unusedVariables false

theorem stepM_cutT (tables : Nat) (m : MSt) (k n : Nat) : stepM tables m k (.cutT n) = if n < m.tail ∨ m.head < n then (121, m) else if k = 0 then (0, ⟨n, m.head, m.sure, m.all⟩) else (0, m) := rfl
theorem stepM_cutH (tables : Nat) (m : MSt) (k n : Nat) : stepM tables m k (.cutH n) = if n < m.tail ∨ m.head < n then (121, m) else if k = 0 then (0, ⟨m.tail, n, n, m.all.take n⟩) else (0, m) := rfl
theorem iwrap_ok (i : Int) (h1 : -9223372036854775808 ≤ i) (h2 : i ≤ 9223372036854775807) : IntKind.i64.wrap i = i := by simp [IntKind.wrap, IntKind.bits, IntKind.signed]; omega
/-- the number of a cut, as it is reckoned -/
theorem cut_arith (sn mt mh : Nat) (h1 : mt ≤ mh) (h2 : mh ≤ 1000000) (h7 : sn % 7 > 0) :
    ∃ r7 g q nn : Nat, Int.tmod (sn : Int) 7 = (r7 : Int) ∧ (0 : Int) < (r7 : Int) ∧ Int.tmod (sn : Int) (g : Int) = (q : Int) ∧ ¬ (g : Int) = 0 ∧ mt + sn % (mh - mt + 1) = nn ∧ mt ≤ nn ∧ nn ≤ mh ∧ ¬ (nn : Int) < (mt : Int) ∧ ¬ (mh : Int) < (nn : Int) ∧
      wrap64 ((mh : Int) - (mt : Int)) = (mh : Int) - (mt : Int) ∧ wrap64 ((mh : Int) - (mt : Int) + 1) = (g : Int) ∧ wrap64 ((mt : Int) + (q : Int)) = (nn : Int) ∧ wrap64 (q : Int) = (q : Int) ∧ wrap64 (r7 : Int) = (r7 : Int) ∧
      IntKind.i64.wrap ((mh : Int) - (mt : Int)) = (mh : Int) - (mt : Int) ∧ IntKind.i64.wrap ((mh : Int) - (mt : Int) + 1) = (g : Int) ∧ IntKind.i64.wrap ((mt : Int) + (q : Int)) = (nn : Int) ∧ IntKind.i64.wrap (q : Int) = (q : Int) := by
  have hq : sn % (mh - mt + 1) < mh - mt + 1 := Nat.mod_lt _ (by omega)
  have h8 : sn % 7 < 7 := Nat.mod_lt _ (by omega)
  have e1 : (mh : Int) - (mt : Int) + 1 = ((mh - mt + 1 : Nat) : Int) := by omega
  refine ⟨sn % 7, mh - mt + 1, sn % (mh - mt + 1), mt + sn % (mh - mt + 1), (Int.ofNat_tmod sn 7).symm, by omega, (Int.ofNat_tmod sn _).symm, by omega, rfl, by omega, by omega, by omega, by omega, wrap_ok _ (by omega) (by omega), ?_, ?_, wrap_ok _ (by omega) (by omega), wrap_ok _ (by omega) (by omega), iwrap_ok _ (by omega) (by omega), ?_, ?_, iwrap_ok _ (by omega) (by omega)⟩
  · rw [wrap_ok _ (by omega) (by omega)]; exact e1
  · rw [wrap_ok _ (by omega) (by omega)]; exact (Int.natCast_add _ _).symm
  · rw [iwrap_ok _ (by omega) (by omega)]; exact e1
  · rw [iwrap_ok _ (by omega) (by omega)]; exact (Int.natCast_add _ _).symm
section
variable {P : Blocks → World → Prop} {Q : Nat → Blocks → World → Prop} {w W : World} {mb : Blocks} {b f tables : Nat} {iv : Value} {m : MSt} {els : List Value} {s : StepP} {V : Option Addr} {n c : Nat}
set_option maxRecDepth 100000 in
set_option maxHeartbeats 2000000 in
theorem does_cutT (H : DoesIn P Q w W mb b f tables iv m els s V n c) (hr : s.what % 6 = 3) :
    Calls Tryz.prog 24 #[.pointer (some ⟨b, 0, none⟩), .pointer (some ⟨f, 0, none⟩), .agg (stepV s V n c)] W (DoesQ Q w b tables m (opOf m.tail m.head s)) := by
  obtain ⟨nn, hnn⟩ : ∃ nn, nn = (if s.n % 7 > 0 then m.tail + s.n % (m.head - m.tail + 1) else s.n) := ⟨_, rfl⟩
  have hop : opOf m.tail m.head s = .cutT nn := by unfold opOf; rw [if_neg (by omega), if_neg (by omega), if_pos hr, hnn]
  have HH := Lib.hid H
  obtain ⟨W1, hW1⟩ : ∃ W1 : World, W1 = W.alloc (.cells (stepV s V n c) 54) := ⟨_, rfl⟩
  have hb1 : Below W.heap.size W W1 := by rw [hW1]; exact (Below.refl _ _).alloc (Nat.le_refl _) _
  have HB1 := Lib.hid hb1
  have HO := Lib.hid (fun (W' : World) (hb : Below W.heap.size W W') => H.op (grow mb W W') W' (H.hP.below H.frz hb) (fun _ h => .inl h) (grow_bnd H.mod.lt H.bel.size hb.size) (thn H.bel hb))
  rw [hop] at HO ⊢
  unfold OpCalls at HO
  have HMOD := Lib.hid (mod_calls s.what 6 H.what (by omega) (by omega) W1)
  rw [hr] at HMOD
  have M1 := (H.mod.below hb1).cells
  have c0 : W1.cell? ⟨W.heap.size, 0, none⟩ = some (.int .i64 (s.what : Int)) := by rw [hW1]; exact (Blk.new W 54 _).cell 0
  have c1 : W1.cell? ⟨W.heap.size, 1, none⟩ = some (.int .i64 (s.n : Int)) := by rw [hW1]; exact (Blk.new W 54 _).cell 1
  have d2 := M1.2.2.1
  have d3 := M1.2.2.2.1
  obtain ⟨sw, hsw⟩ : ∃ sw, sw = s.what := ⟨_, rfl⟩
  obtain ⟨sn, hsn⟩ : ∃ sn, sn = s.n := ⟨_, rfl⟩
  obtain ⟨mt, hmt⟩ : ∃ mt, mt = m.tail := ⟨_, rfl⟩
  obtain ⟨mh, hmh⟩ : ∃ mh, mh = m.head := ⟨_, rfl⟩
  have HLE := Lib.hid (show mt ≤ mh ∧ mh ≤ 1000000 ∧ sn ≤ 9223372036854775807 ∧ m.sure ≤ 1000000 from by rw [hmt, hmh, hsn]; exact ⟨H.le, H.head, H.num, H.sure⟩)
  unfold stepV at hW1 ⊢
  rw [← hsw] at hW1 c0 HMOD ⊢
  rw [← hsn] at hW1 c1 hnn ⊢
  rw [← hmt] at d2 hnn
  rw [← hmh] at d3 hnn
  have HMT := Lib.hid (show mt = m.tail ∧ mh = m.head from ⟨hmt, hmh⟩)
  -- behind the call
  have fin : ∀ (W' W2 : World) (v : Value) (k : Nat), Below W.heap.size W W' → ErrR W2 v k → KeptQ w (grow mb W W') W' Q k W2 →
      (W2.cell? ⟨b, 2, none⟩ = some (.int .i64 (mt : Int)) ∧ W2.cell? ⟨b, 3, none⟩ = some (.int .i64 (mh : Int)) ∧ W2.frozen? ⟨b, 2, none⟩ = false) ∧
      ((nn < mt ∨ mh < nn) → DoesQ Q w b tables m (.cutT nn) (.returned (.tuple #[v, .int .i64 121])) W2) ∧
      (¬ (nn < mt ∨ mh < nn) → (v = .nilIface ∧ DoesQ Q w b tables m (.cutT nn) (.returned (.tuple #[.nilIface, .int .i64 0])) (W2.setCell ⟨b, 2, none⟩ (.int .i64 (nn : Int)))) ∨ ∃ tt xx, v = .iface tt xx ∧ DoesQ Q w b tables m (.cutT nn) (.returned (.tuple #[.iface tt xx, .int .i64 0])) W2) := by
    intro W' W2 v k hbW he hk
    have A := HH.out.after hbW hk he
    obtain ⟨e1, e2⟩ := HMT.out
    refine ⟨⟨by rw [e1]; exact A.mod.cells.2.2.1, by rw [e2]; exact A.mod.cells.2.2.2.1, A.mod.blk.frozen 2⟩, fun hb => A.same (e := 121) (by rw [stepM_cutT, ← e1, ← e2, if_pos hb]), fun hb => ?_⟩
    rcases he with ⟨rfl, rfl⟩ | ⟨hk0, kk, hkk⟩
    · left
      refine ⟨rfl, ?_⟩
      have hu : Upd (one b) (one b) W2 (W2.setCell ⟨b, 2, none⟩ (.int .i64 (nn : Int))) := (Upd.refl (one b) W2).set (p := ⟨b, 2, none⟩) rfl _
      obtain ⟨q1, q2, q3, q4⟩ := A.set HH.out.hQ hu
      have es : stepM tables m 0 (.cutT nn) = (0, ⟨nn, m.head, m.sure, m.all⟩) := by rw [stepM_cutT, ← e1, ← e2, if_neg hb, if_pos rfl]
      refine ⟨.nilIface, 0, iv, els, _, by rw [es]; rfl, q2, q1, ?_, q3⟩
      rw [es]
      have hB3 : Blk (W2.setCell ⟨b, 2, none⟩ (.int .i64 (nn : Int))) b 51 (mdk tables iv nn m.head m.sure) := (A.mod.blk.set_ 2 _).eq_ rfl
      refine ModP.wide (mb := mb) ⟨hB3, ?_, A.mod.len, A.mod.inb, fun x hx => ?_⟩ A.sub q4
      · refine ⟨A.mod.its.len, A.mod.its.each, ?_⟩
        rcases A.mod.its.row with h1 | ⟨g, c', cs, e, h1, h2, h3, h4⟩
        · exact .inl h1
        · exact .inr ⟨g, c', cs, e, h1, h2, (hu.block g h3.lt (fun e => blk_ne h3 A.mod.blk (by decide) e)).trans h3, h4⟩
      · have := A.mod.lt x hx
        have := hu.size
        omega
    · right
      obtain ⟨tt, xx, rfl⟩ := hkk.iface
      refine ⟨tt, xx, rfl, A.same (e := 0) ?_⟩
      rw [stepM_cutT, ← e1, ← e2, if_neg hb, if_neg hk0]
  have FIN := Lib.hid fin
  rw [hW1] at HMOD c0 c1 d2 d3
  clear fin hop M1 hsw hsn hmt hmh hr H hb1
  have kd : ((0 : Nat) : Int) = 0 := rfl
  by_cases h7 : sn % 7 > 0
  · rw [if_pos h7] at hnn
    obtain ⟨r7, g, q, nn', k1, k2, k4, k8, kq, kb1, kb2, t1, t2, k5, k6, k7, k9, k10, j5, j6, j7, j9⟩ := cut_arith sn mt mh HLE.out.1 HLE.out.2.1 h7
    rw [kq] at hnn
    subst hnn
    have HNN := Lib.hid (not_or.2 ⟨Nat.not_lt.2 kb1, Nat.not_lt.2 kb2⟩)
    have KK := Lib.hid (show _ ∧ _ ∧ _ ∧ _ ∧ _ ∧ _ ∧ _ ∧ _ ∧ _ from ⟨k5, k6, k7, k9, j5, j6, j7, j9, k4⟩)
    have KT := Lib.hid (show _ ∧ _ from ⟨t1, t2⟩)
    clear kq kb1 kb2 h7 k5 k6 k7 k9 j5 j6 j7 j9 k4 t1 t2 k10 kd
    go_enter Tryz.func24, Tryz.ntmps24
    go_wp2_with fail
    refine HMOD.out.mono ?_
    rintro e w1 ⟨rfl, rfl⟩
    go_wp2_with fail
    obtain ⟨k5, k6, k7, k9, j5, j6, j7, j9, k4⟩ := KK.out
    clear k1 k2
    go_quiet (fail)
    clear k5 k6 k7 k9 j5 j6 j7 j9 k4 k8
    go_wp2_with fail
    rw [← hW1]
    have hbW := Lib.hid (show Below W.heap.size W (W1.drewN nq) from HB1.out.trans (below_drewN nq |>.mono HB1.out.size))
    refine (HO.out _ hbW.out).mono ?_
    rintro e W2 ⟨v, k, rfl, he, hk⟩
    obtain ⟨⟨m2, m3, mf⟩, _, hgood⟩ := FIN.out _ W2 v k hbW.out he hk
    obtain ⟨t1, t2⟩ := KT.out
    rcases hgood HNN.out with ⟨rfl, hd⟩ | ⟨tt, xx, rfl, hd⟩
    · have HD := Lib.hid hd
      clear hd hgood he hk c0 c1 d2 d3
      go_wp2_with fail
      go_ret2
      exact HD.out
    · have HD := Lib.hid hd
      clear hd hgood he hk c0 c1 d2 d3
      go_wp2_with fail
      go_ret2
      exact HD.out
  · rw [if_neg h7] at hnn
    subst hnn
    have k1 : Int.tmod (nn : Int) 7 = 0 := by rw [show (7 : Int) = ((7 : Nat) : Int) from rfl, ← Int.ofNat_tmod]; omega
    clear h7 kd
    go_enter Tryz.func24, Tryz.ntmps24
    go_wp2_with fail
    refine HMOD.out.mono ?_
    rintro e w1 ⟨rfl, rfl⟩
    go_wp2_with fail
    rw [← hW1]
    refine (HO.out _ HB1.out).mono ?_
    rintro e W2 ⟨v, k, rfl, he, hk⟩
    obtain ⟨⟨m2, m3, mf⟩, hbad, hgood⟩ := FIN.out _ W2 v k HB1.out he hk
    clear he hk c0 c1 d2 d3 k1
    by_cases hb : nn < mt ∨ mh < nn
    · have HD := Lib.hid (hbad hb)
      clear hbad hgood
      by_cases hlt : nn < mt
      · have t1 : (nn : Int) < (mt : Int) := by omega
        clear hb hlt
        go_wp2_with fail
        go_ret2
        exact HD.out
      · have t1 : ¬ (nn : Int) < (mt : Int) := by omega
        have t2 : (mh : Int) < (nn : Int) := by omega
        clear hb hlt
        go_wp2_with fail
        go_ret2
        exact HD.out
    · have t1 : ¬ (nn : Int) < (mt : Int) := by omega
      have t2 : ¬ (mh : Int) < (nn : Int) := by omega
      rcases hgood hb with ⟨rfl, hd⟩ | ⟨tt, xx, rfl, hd⟩
      · have HD := Lib.hid hd
        clear hd hgood hbad hb
        go_wp2_with fail
        go_ret2
        exact HD.out
      · have HD := Lib.hid hd
        clear hd hgood hbad hb
        go_wp2_with fail
        go_ret2
        exact HD.out
set_option maxRecDepth 100000 in
set_option maxHeartbeats 2000000 in
theorem does_cutH (H : DoesIn P Q w W mb b f tables iv m els s V n c) (hr : s.what % 6 = 2) :
    Calls Tryz.prog 24 #[.pointer (some ⟨b, 0, none⟩), .pointer (some ⟨f, 0, none⟩), .agg (stepV s V n c)] W (DoesQ Q w b tables m (opOf m.tail m.head s)) := by
  obtain ⟨nn, hnn⟩ : ∃ nn, nn = (if s.n % 7 > 0 then m.tail + s.n % (m.head - m.tail + 1) else s.n) := ⟨_, rfl⟩
  have hop : opOf m.tail m.head s = .cutH nn := by unfold opOf; rw [if_neg (by omega), if_pos hr, hnn]
  have HH := Lib.hid H
  obtain ⟨W1, hW1⟩ : ∃ W1 : World, W1 = W.alloc (.cells (stepV s V n c) 54) := ⟨_, rfl⟩
  have hb1 : Below W.heap.size W W1 := by rw [hW1]; exact (Below.refl _ _).alloc (Nat.le_refl _) _
  have HB1 := Lib.hid hb1
  have HO := Lib.hid (fun (W' : World) (hb : Below W.heap.size W W') => H.op (grow mb W W') W' (H.hP.below H.frz hb) (fun _ h => .inl h) (grow_bnd H.mod.lt H.bel.size hb.size) (thn H.bel hb))
  rw [hop] at HO ⊢
  unfold OpCalls at HO
  have HMOD := Lib.hid (mod_calls s.what 6 H.what (by omega) (by omega) W1)
  rw [hr] at HMOD
  have M1 := (H.mod.below hb1).cells
  have c0 : W1.cell? ⟨W.heap.size, 0, none⟩ = some (.int .i64 (s.what : Int)) := by rw [hW1]; exact (Blk.new W 54 _).cell 0
  have c1 : W1.cell? ⟨W.heap.size, 1, none⟩ = some (.int .i64 (s.n : Int)) := by rw [hW1]; exact (Blk.new W 54 _).cell 1
  have d2 := M1.2.2.1
  have d3 := M1.2.2.2.1
  obtain ⟨sw, hsw⟩ : ∃ sw, sw = s.what := ⟨_, rfl⟩
  obtain ⟨sn, hsn⟩ : ∃ sn, sn = s.n := ⟨_, rfl⟩
  obtain ⟨mt, hmt⟩ : ∃ mt, mt = m.tail := ⟨_, rfl⟩
  obtain ⟨mh, hmh⟩ : ∃ mh, mh = m.head := ⟨_, rfl⟩
  have HLE := Lib.hid (show mt ≤ mh ∧ mh ≤ 1000000 ∧ sn ≤ 9223372036854775807 ∧ m.sure ≤ 1000000 from by rw [hmt, hmh, hsn]; exact ⟨H.le, H.head, H.num, H.sure⟩)
  unfold stepV at hW1 ⊢
  rw [← hsw] at hW1 c0 HMOD ⊢
  rw [← hsn] at hW1 c1 hnn ⊢
  rw [← hmt] at d2 hnn
  rw [← hmh] at d3 hnn
  have HMT := Lib.hid (show mt = m.tail ∧ mh = m.head from ⟨hmt, hmh⟩)
  -- behind the call
  have fin : ∀ (W' W2 : World) (v : Value) (k : Nat), Below W.heap.size W W' → ErrR W2 v k → KeptQ w (grow mb W W') W' Q k W2 →
      (W2.cell? ⟨b, 2, none⟩ = some (.int .i64 (mt : Int)) ∧ W2.cell? ⟨b, 3, none⟩ = some (.int .i64 (mh : Int))) ∧
      ((nn < mt ∨ mh < nn) → DoesQ Q w b tables m (.cutH nn) (.returned (.tuple #[v, .int .i64 121])) W2) ∧
      (¬ (nn < mt ∨ mh < nn) → (v = .nilIface ∧ Calls Tryz.prog 48 #[.pointer (some ⟨b, 0, none⟩), .int .i64 (nn : Int)] W2 (fun e W3 => e = .returned (.tuple #[]) ∧ W3.cell? ⟨b, 4, none⟩ = some (.int .i64 ((min m.sure nn : Nat) : Int)) ∧ W3.frozen? ⟨b, 4, none⟩ = false ∧ DoesQ Q w b tables m (.cutH nn) (.returned (.tuple #[.nilIface, .int .i64 0])) (W3.setCell ⟨b, 4, none⟩ (.int .i64 (nn : Int))))) ∨ ∃ tt xx, v = .iface tt xx ∧ DoesQ Q w b tables m (.cutH nn) (.returned (.tuple #[.iface tt xx, .int .i64 0])) W2) := by
    intro W' W2 v k hbW he hk
    have A := HH.out.after hbW hk he
    obtain ⟨e1, e2⟩ := HMT.out
    refine ⟨⟨by rw [e1]; exact A.mod.cells.2.2.1, by rw [e2]; exact A.mod.cells.2.2.2.1⟩, fun hb => A.same (e := 121) (by rw [stepM_cutH, ← e1, ← e2, if_pos hb]), fun hb => ?_⟩
    rcases he with ⟨rfl, rfl⟩ | ⟨hk0, kk, hkk⟩
    · left
      refine ⟨rfl, ?_⟩
      have hl := HLE.out
      have es : stepM tables m 0 (.cutH nn) = (0, ⟨m.tail, nn, nn, m.all.take nn⟩) := by rw [stepM_cutH, ← e1, ← e2, if_neg hb, if_pos rfl]
      refine (mcut_calls A.mod nn (by rw [← e2]; omega) (by rw [← e2]; omega) (by omega)).mono ?_
      rintro e W3 ⟨rfl, ⟨iv', hM⟩, hu⟩
      have hu2 : Upd (one b) (one b) W2 (W3.setCell ⟨b, 4, none⟩ (.int .i64 (nn : Int))) := hu.set (p := ⟨b, 4, none⟩) rfl _
      obtain ⟨q1, q2, q3, q4⟩ := A.set HH.out.hQ hu2
      refine ⟨rfl, hM.blk.cell 4, hM.blk.frozen 4, .nilIface, 0, iv', els.take nn, _, by rw [es]; rfl, q2, q1, ?_, q3⟩
      rw [es]
      have hB3 : Blk (W3.setCell ⟨b, 4, none⟩ (.int .i64 (nn : Int))) b 51 (mdk tables iv' m.tail nn nn) := (hM.blk.set_ 4 _).eq_ rfl
      refine ModP.wide (mb := mb) ⟨hB3, ?_, hM.len, hM.inb, fun x hx => ?_⟩ A.sub q4
      · refine ⟨hM.its.len, hM.its.each, ?_⟩
        rcases hM.its.row with h1 | ⟨g, c', cs, e, h1, h2, h3, h4⟩
        · exact .inl h1
        · exact .inr ⟨g, c', cs, e, h1, h2, h3.far (p := ⟨b, 4, none⟩) (fun e => blk_ne h3 hM.blk (by decide) e) _, h4⟩
      · have := hM.lt x hx
        simp only [World.setCell, Array.size_modify]
        omega
    · right
      obtain ⟨tt, xx, rfl⟩ := hkk.iface
      refine ⟨tt, xx, rfl, A.same (e := 0) ?_⟩
      rw [stepM_cutH, ← e1, ← e2, if_neg hb, if_neg hk0]
  have FIN := Lib.hid fin
  rw [hW1] at HMOD c0 c1 d2 d3
  clear fin hop M1 hsw hsn hmt hmh hr H hb1
  have kd : ((0 : Nat) : Int) = 0 := rfl
  by_cases h7 : sn % 7 > 0
  · rw [if_pos h7] at hnn
    obtain ⟨r7, g, q, nn', k1, k2, k4, k8, kq, kb1, kb2, t1, t2, k5, k6, k7, k9, k10, j5, j6, j7, j9⟩ := cut_arith sn mt mh HLE.out.1 HLE.out.2.1 h7
    rw [kq] at hnn
    subst hnn
    have HNN := Lib.hid (not_or.2 ⟨Nat.not_lt.2 kb1, Nat.not_lt.2 kb2⟩)
    have KK := Lib.hid (show _ ∧ _ ∧ _ ∧ _ ∧ _ ∧ _ ∧ _ ∧ _ ∧ _ from ⟨k5, k6, k7, k9, j5, j6, j7, j9, k4⟩)
    have KT := Lib.hid (show _ ∧ _ from ⟨t1, t2⟩)
    clear kq kb1 kb2 h7 k5 k6 k7 k9 j5 j6 j7 j9 k4 t1 t2 k10 kd
    go_enter Tryz.func24, Tryz.ntmps24
    go_wp2_with fail
    refine HMOD.out.mono ?_
    rintro e w1 ⟨rfl, rfl⟩
    go_wp2_with fail
    obtain ⟨k5, k6, k7, k9, j5, j6, j7, j9, k4⟩ := KK.out
    clear k1 k2
    go_quiet (fail)
    clear k5 k6 k7 k9 j5 j6 j7 j9 k4 k8
    go_wp2_with fail
    rw [← hW1]
    have hbW := Lib.hid (show Below W.heap.size W (W1.drewN nq) from HB1.out.trans (below_drewN nq |>.mono HB1.out.size))
    refine (HO.out _ hbW.out).mono ?_
    rintro e W2 ⟨v, k, rfl, he, hk⟩
    obtain ⟨⟨m2, m3⟩, _, hgood⟩ := FIN.out _ W2 v k hbW.out he hk
    obtain ⟨t1, t2⟩ := KT.out
    rcases hgood HNN.out with ⟨rfl, hd⟩ | ⟨tt, xx, rfl, hd⟩
    · have HD := Lib.hid hd
      clear hd hgood he hk c0 c1 d2 d3
      go_wp2_with fail
      refine HD.out.mono ?_
      rintro e W3 ⟨rfl, x4, y4, hd⟩
      have HD3 := Lib.hid hd
      clear hd m2 m3
      go_wp2_with fail
      go_ret2
      exact HD3.out
    · have HD := Lib.hid hd
      clear hd hgood he hk c0 c1 d2 d3
      go_wp2_with fail
      go_ret2
      exact HD.out
  · rw [if_neg h7] at hnn
    subst hnn
    have k1 : Int.tmod (nn : Int) 7 = 0 := by rw [show (7 : Int) = ((7 : Nat) : Int) from rfl, ← Int.ofNat_tmod]; omega
    clear h7 kd
    go_enter Tryz.func24, Tryz.ntmps24
    go_wp2_with fail
    refine HMOD.out.mono ?_
    rintro e w1 ⟨rfl, rfl⟩
    go_wp2_with fail
    rw [← hW1]
    refine (HO.out _ HB1.out).mono ?_
    rintro e W2 ⟨v, k, rfl, he, hk⟩
    obtain ⟨⟨m2, m3⟩, hbad, hgood⟩ := FIN.out _ W2 v k HB1.out he hk
    clear he hk c0 c1 d2 d3 k1
    by_cases hb : nn < mt ∨ mh < nn
    · have HD := Lib.hid (hbad hb)
      clear hbad hgood
      by_cases hlt : nn < mt
      · have t1 : (nn : Int) < (mt : Int) := by omega
        clear hb hlt
        go_wp2_with fail
        go_ret2
        exact HD.out
      · have t1 : ¬ (nn : Int) < (mt : Int) := by omega
        have t2 : (mh : Int) < (nn : Int) := by omega
        clear hb hlt
        go_wp2_with fail
        go_ret2
        exact HD.out
    · have t1 : ¬ (nn : Int) < (mt : Int) := by omega
      have t2 : ¬ (mh : Int) < (nn : Int) := by omega
      rcases hgood hb with ⟨rfl, hd⟩ | ⟨tt, xx, rfl, hd⟩
      · have HD := Lib.hid hd
        clear hd hgood hbad hb
        go_wp2_with fail
        refine HD.out.mono ?_
        rintro e W3 ⟨rfl, x4, y4, hd⟩
        have HD3 := Lib.hid hd
        clear hd m2 m3
        go_wp2_with fail
        go_ret2
        exact HD3.out
      · have HD := Lib.hid hd
        clear hd hgood hbad hb
        go_wp2_with fail
        go_ret2
        exact HD.out
end
end Go.Proofs.YtejnfahfjmeabaaGreatDoor
namespace Go.Proofs.YtejnfahfjmeabaaGreatDoor
open Go.RowKit
set_option linter.unusedSimpArgs false
set_option linter.unusedVariables false

/-- a step as it came in: its two numbers, its values -/
structure RawStep where
  what : Int
  num : Int
  vs : List (List UInt8)
/-- a row of steps reads as these -/
def RdSt (w : World) (A : Option Addr) (n c : Nat) (ss : List RawStep) : Prop :=
  ss.length = n ∧ n ≤ c ∧ c ≤ maxLen ∧ (0 < n → ∃ g o, A = some ⟨g, o, none⟩ ∧ ∀ (j : Nat) s, ss[j]? = some s → ∃ V m d, w.cell? ⟨g, o + j * 3, none⟩ = some (.int .i64 s.what) ∧ w.cell? ⟨g, o + j * 3 + 1, none⟩ = some (.int .i64 s.num) ∧ w.cell? ⟨g, o + j * 3 + 2, none⟩ = some (.slice V m d) ∧ RdM w V m d s.vs)
theorem RdSt.below {w w' : World} {A : Option Addr} {n c : Nat} {ss : List RawStep} (h : RdSt w A n c ss) (hb : Below w.heap.size w w') : RdSt w' A n c ss :=
  ⟨h.1, h.2.1, h.2.2.1, fun hn => by
    obtain ⟨g, o, e, hc⟩ := h.2.2.2 hn
    refine ⟨g, o, e, fun j s hs => ?_⟩
    obtain ⟨V, m, d, h1, h2, h3, h4⟩ := hc j s hs
    exact ⟨V, m, d, cell_below' hb h1, cell_below' hb h2, cell_below' hb h3, h4.below hb⟩⟩
/-- what 'few' says -/
def FewS (ss : List RawStep) : Prop := ss.length ≤ 50 ∧ ∀ s ∈ ss, 0 ≤ s.what ∧ 0 ≤ s.num ∧ s.vs.length ≤ 10
def FewR (w : World) (ss : List RawStep) (e : Ending) (w' : World) : Prop := ∃ q : Bool, e = .returned (.bool q) ∧ (q = true → FewS ss) ∧ Below w.heap.size w w'
set_option maxRecDepth 100000 in
set_option maxHeartbeats 2000000 in
theorem few_calls (A : Option Addr) (n c : Nat) (ss : List RawStep) (w : World) (h : RdSt w A n c ss) :
    Calls Tryz.prog 21 #[.slice A n c] w (FewR w ss) := by
  have hm : n ≤ 9223372036854775807 := by have := h.2.1; have := h.2.2.1; unfold maxLen at this; omega
  have H := Lib.hid h
  clear h
  go_enter Tryz.func21, Tryz.ntmps21
  go_wp2_with fail
  go_loopw [3, 4] (fun s i wr => ∃ (k : Nat) (x : Int), k ≤ n ∧ s = .int .i64 x ∧ i = .int .i64 k ∧ Below w.heap.size w wr ∧ ∀ s ∈ ss.take k, 0 ≤ s.what ∧ 0 ≤ s.num ∧ s.vs.length ≤ 10) (fun _ i _ => n - (intOf i).toNat)
  case atStart => exact ⟨0, 0, Nat.zero_le _, rfl, rfl, Below.refl _ _, by simp⟩
  case round =>
    obtain ⟨k, x, hk, rfl, rfl, hb, hall⟩ := hrel
    obtain ⟨wo, rfl⟩ : ∃ wo : World, wo = wr := ⟨_, rfl⟩
    have HALL := Lib.hid hall
    have HB := Lib.hid hb
    clear hall
    by_cases hlt : k < n
    · obtain ⟨g, o, rfl, hc⟩ := H.out.2.2.2 (by omega)
      have hkl : k < ss.length := by rw [H.out.1]; exact hlt
      obtain ⟨s, hs⟩ : ∃ s, ss[k]? = some s := ⟨_, List.getElem?_eq_getElem hkl⟩
      obtain ⟨V, m, d, g1, g2, g3, hv⟩ := hc k s hs
      have c0 := cell_below' hb g1
      have c1 := cell_below' hb g2
      have c2 := cell_below' hb g3
      have HV := Lib.hid hv
      have HG3 := Lib.hid g3
      have HSS := Lib.hid hs
      have hkI : (0 : Int) ≤ (k : Int) ∧ (k : Int) < (n : Int) := by omega
      obtain ⟨sw, hsw⟩ : ∃ sw, sw = s.what := ⟨_, rfl⟩
      obtain ⟨sn, hsn⟩ : ∃ sn, sn = s.num := ⟨_, rfl⟩
      have HSN := Lib.hid (show sw = s.what ∧ sn = s.num from ⟨hsw, hsn⟩)
      rw [← hsw] at c0
      rw [← hsn] at c1
      have hmm : m ≤ 9223372036854775807 := by have := hv.2.1; have := hv.2.2.1; unfold maxLen at this; omega
      clear hc g1 g2 g3 hv hs hsw hsn hb hkl
      by_cases h1 : sw < 0
      · have h1d : decide (sw < 0) = true := decide_eq_true h1
        clear h1
        go_wp2_with fail
        go_ret
        exact ⟨false, rfl, (fun e => by cases e), HB.out⟩
      have h1d : decide (sw < 0) = false := decide_eq_false h1
      have H1 := Lib.hid h1
      clear h1
      by_cases h2 : sn < 0
      · have h2d : decide (sn < 0) = true := decide_eq_true h2
        clear h2
        go_wp2_with fail
        go_ret
        exact ⟨false, rfl, (fun e => by cases e), HB.out⟩
      have h2d : decide (sn < 0) = false := decide_eq_false h2
      have H2 := Lib.hid h2
      clear h2
      by_cases h3 : 10 < m
      · have h3i : (10 : Int) < (m : Int) := by omega
        clear h3
        go_wp2_with fail
        go_ret
        exact ⟨false, rfl, (fun e => by cases e), HB.out⟩
      have h3i : ¬ (10 : Int) < (m : Int) := by omega
      have H3 := Lib.hid h3
      clear h3
      go_wp2_with fail
      clear h1d h2d h3i c0 c1 c2
      go_loopw [3, 5] (fun s3 i5 W => ∃ (j : Nat) (y : Int), j ≤ m ∧ s3 = .int .i64 y ∧ i5 = .int .i64 j ∧ Below w.heap.size w W) (fun _ i5 _ => m - (intOf i5).toNat)
      case atStart => exact ⟨0, x, Nat.zero_le _, rfl, rfl, HB.out⟩
      case round =>
        obtain ⟨j, y, hj, rfl, rfl, hb⟩ := hrel
        obtain ⟨wo2, rfl⟩ : ∃ wo2 : World, wo2 = wr := ⟨_, rfl⟩
        have HB2 := Lib.hid hb
        have c2 := cell_below' hb HG3.out
        clear hb
        by_cases hlt : j < m
        · obtain ⟨ad, Bv, mv, dv, rfl, hg, hcell, hrd⟩ := (HV.out.below HB2.out).at_ hlt
          have hjI : (0 : Int) ≤ (j : Int) ∧ (j : Int) < (m : Int) := by omega
          have hjl : j + 1 ≤ m := hlt
          clear hg hrd hlt
          by_cases h4 : mv ≤ 16384
          · have h4i : (mv : Int) ≤ 16384 := by omega
            clear h4
            go_wp2_with fail
            go_roundw
            case rel => exact ⟨j + 1, _, hjl, rfl, by go_num, HB2.out⟩
            case measure => simp [intOf]; omega
          · have h4i : ¬ (mv : Int) ≤ 16384 := by omega
            clear h4
            go_wp2_with fail
            go_roundw
            case rel => exact ⟨j + 1, _, hjl, rfl, by go_num, HB2.out⟩
            case measure => simp [intOf]; omega
        · have hjI : ¬ (j : Int) < (m : Int) := by omega
          clear hlt
          go_wp2_with fail
          go_roundw
          case rel => exact ⟨k + 1, y, by omega, rfl, by go_num, HB2.out, fun s' hs' => by
            rw [List.take_add_one, HSS.out] at hs'
            rcases List.mem_append.1 hs' with hs' | hs'
            · exact HALL.out s' hs'
            · obtain rfl := List.mem_singleton.1 hs'
              obtain ⟨q1, q2⟩ := HSN.out
              rw [← q1, ← q2]
              have h0 := HV.out.1
              have h3 := H3.out
              have h1 := H1.out
              have h2 := H2.out
              exact ⟨by omega, by omega, by omega⟩⟩
          case measure => simp [intOf]; omega
    · obtain rfl : k = n := by omega
      have hkI : ¬ (k : Int) < (k : Int) := by omega
      have HE : Hid (k ≤ 50 → FewS ss) := fun h50 => ⟨by rw [H.out.1]; exact h50, fun s hs => HALL.out s (by rw [List.take_of_length_le (by rw [H.out.1]; exact Nat.le_refl _)]; exact hs)⟩
      clear hlt
      by_cases h5 : k ≤ 50
      · have h5i : (k : Int) ≤ 50 := by omega
        have h5d : decide ((k : Int) ≤ 50) = true := decide_eq_true h5i
        have HF := Lib.hid (HE.out h5)
        obtain ⟨q, hq⟩ : ∃ q, q = decide (x ≤ 20000) := ⟨_, rfl⟩
        have hq' := hq.symm
        clear hq h5
        go_wp2_with fail
        go_ret
        exact ⟨_, rfl, (fun _ => HF.out), HB.out⟩
      · have h5i : ¬ (k : Int) ≤ 50 := by omega
        have h5d : decide ((k : Int) ≤ 50) = false := decide_eq_false h5i
        clear h5
        go_wp2_with fail
        go_ret
        exact ⟨false, rfl, (fun e => by cases e), HB.out⟩
end Go.Proofs.YtejnfahfjmeabaaGreatDoor
namespace Go.Proofs.YtejnfahfjmeabaaGreatDoor
open Go.RowKit
set_option linter.unusedSimpArgs false
set_option linter.unusedVariables false

theorem valsB_le : ∀ (vs : List (List UInt8)), (∀ v ∈ vs, v.length ≤ 16384) → (valsB vs).length ≤ vs.length * 16394
  | [], _ => by simp [valsB]
  | v :: vs, h => by
    have h1 := valsB_le vs (fun u hu => h u (List.mem_cons_of_mem _ hu))
    have h2 := h v (List.mem_cons_self ..)
    have h3 := putL_len64 v.length (by omega)
    rw [valsB_cons, List.length_append, valB_len, List.length_cons, Nat.add_mul]
    omega
theorem body_le (n : Nat) (vs : List (List UInt8)) (hn : n ≤ 1000000) (h8 : vs.length ≤ 8) (hv : ∀ v ∈ vs, v.length ≤ 16384) : (bodyL 0 n vs).length ≤ 131172 := by
  have h1 := valsB_le vs hv
  have h2 := putL_len64 0 (by omega)
  have h3 := putL_len64 n (by omega)
  have h4 : vs.length * 16394 ≤ 8 * 16394 := Nat.mul_le_mul_right _ h8
  unfold bodyL
  rw [List.length_append, List.length_append]
  omega
theorem frame_le (b : List UInt8) (hb : b.length ≤ 131172) : (frameN b).length ≤ 140000 := by
  have := putL_len64 b.length (by omega)
  rw [frameN_len]
  omega
theorem rightB_true {tables : Nat} {vs : List (List UInt8)} (h : rightB tables vs = true) : vs.length = tables ∧ ∀ v ∈ vs, v.length ≤ 16384 := by
  unfold rightB at h
  rw [Bool.and_eq_true, decide_eq_true_eq, decide_eq_true_eq] at h
  exact h
theorem rightB_false {tables : Nat} {vs : List (List UInt8)} (h : rightB tables vs = false) : vs.length ≠ tables ∨ ¬ ∀ v ∈ vs, v.length ≤ 16384 := by
  unfold rightB at h
  rw [Bool.and_eq_false_iff, decide_eq_false_iff_not, decide_eq_false_iff_not] at h
  exact h
/-- a freezer that was made since w, apart from mb -/
def PF (w : World) (tables f d N B : Nat) (m : MSt) (mb : Blocks) (W : World) : Prop :=
  ∃ s l z D fs, FZ W s f d 16777216 N (playT tables) l z (m.all.drop m.tail) D 0 fs ∧ z.tail = m.tail ∧ z.head = m.head ∧ l.length ≤ N ∧ (fileL (playT tables) l).length ≤ B ∧ ∀ x, s x → w.heap.size ≤ x ∧ ¬ mb x
theorem FZ.mono {w : World} {s : Blocks} {f d cap N M : Nat} {T : List (List UInt8)} {l : List Chg} {z : FzS} {items : List (List (List UInt8))} {D : HdS} {num : Nat} {fs : FileS} (h : FZ w s f d cap N T l z items D num fs) (hN : N ≤ M) : FZ w s f d cap M T l z items D num fs :=
  ⟨h.frz, h.calm, h.files, Nat.le_trans h.count hN, h.bytes, Nat.le_trans h.pend hN, h.play, h.valid, h.told⟩
theorem PF.mono {w : World} {tables f d N B N' B' : Nat} {m : MSt} {mb : Blocks} {W : World} (h : PF w tables f d N B m mb W) (hN : N ≤ N') (hB : B ≤ B') : PF w tables f d N' B' m mb W := by
  obtain ⟨s, l, z, D, fs, h1, h2, h3, h4, h5, h6⟩ := h
  exact ⟨s, l, z, D, fs, h1.mono hN, h2, h3, Nat.le_trans h4 hN, Nat.le_trans h5 hB, h6⟩
theorem PF.apart (w : World) (tables f d N B : Nat) (m : MSt) : Apart (PF w tables f d N B m) := by
  refine ⟨fun {mb W W'} h hb => ?_, fun {mb mb' W W'} h hu => ?_, fun {mb mb2 W} h hs => ?_⟩
  · obtain ⟨s, l, z, D, fs, h1, h2, h3, h4, h5, h6⟩ := h
    refine ⟨s, l, z, D, fs, h1.below hb, h2, h3, h4, h5, fun x hx => ⟨(h6 x hx).1, fun hg => ?_⟩⟩
    rcases hg with hg | hg
    · exact (h6 x hx).2 hg
    · have := h1.lt x hx
      omega
  · obtain ⟨s, l, z, D, fs, h1, h2, h3, h4, h5, h6⟩ := h
    exact ⟨s, l, z, D, fs, h1.keeps (fun x hx => hu.block x (h1.lt x hx) (h6 x hx).2) hu.size, h2, h3, h4, h5, h6⟩
  · obtain ⟨s, l, z, D, fs, h1, h2, h3, h4, h5, h6⟩ := h
    exact ⟨s, l, z, D, fs, h1, h2, h3, h4, h5, fun x hx => ⟨(h6 x hx).1, fun e => (h6 x hx).2 (hs x e)⟩⟩
/-- behind the call: it answered what must be answered, and the freezer is as the model -/
def PQ (w : World) (tables f d N B : Nat) (m : MSt) (o : MOp) (k : Nat) (mb : Blocks) (W : World) : Prop :=
  k = (stepM tables m k o).1 ∧ PF w tables f d N B (stepM tables m k o).2 mb W
theorem PQ.apart (w : World) (tables f d N B : Nat) (m : MSt) (o : MOp) (k : Nat) : Apart (PQ w tables f d N B m o k) :=
  ⟨fun h hb => ⟨h.1, (PF.apart ..).below h.2 hb⟩, fun h hu => ⟨h.1, (PF.apart ..).upd h.2 hu⟩, fun h hs => ⟨h.1, (PF.apart ..).sub h.2 hs⟩⟩
theorem Upd.cover {s fp : Blocks} {w w' : World} (h : Upd s s w w') (hs : ∀ k, s k → fp k) : Upd fp fp w w' := ⟨h.os, h.tape, h.output, h.size, fun k hk hn => h.block k hk (fun e => hn (hs k e)), fun k hk => .inl hk⟩
/-- a refusal -/
theorem pq_no {w : World} {tables f d N B : Nat} {m : MSt} {mb : Blocks} {W : World} (h : PF w tables f d N B m mb W) {o : MOp} {n N' B' : Nat} (ho : stepM tables m n o = (n, m)) (hN : N ≤ N') (hB : B ≤ B') (hl : ∀ x, mb x → x < W.heap.size) {e : Ending} {W' : World} (he : ErrN W n e W') :
    ∃ v k, e = .returned v ∧ ErrR W' v k ∧ KeptQ w mb W (PQ w tables f d N' B' m o) k W' := by
  obtain ⟨v, rfl, hv, hb⟩ := he
  refine ⟨v, n, rfl, hv, ⟨by rw [ho], ?_⟩, Upd.below hb⟩
  rw [ho]
  exact (PF.apart ..).sub ((PF.apart ..).below (h.mono hN hB) hb) (fun k hk => .inl hk)
/-- it was done -/
theorem pq_yes {w : World} {tables f d N B : Nat} {m m' : MSt} {mb : Blocks} {W : World} {o : MOp} {s : Blocks} (ho : stepM tables m 0 o = (0, m')) (hw : w.heap.size ≤ W.heap.size) (hs : ∀ x, s x → w.heap.size ≤ x ∧ ¬ mb x) (hl : ∀ x, mb x → x < W.heap.size) {W' : World} {l : List Chg} {z : FzS} {D : HdS} {fs : FileS}
    (h1 : FZ W' (grow s W W') f d 16777216 N (playT tables) l z (m'.all.drop m'.tail) D 0 fs) (h2 : z.tail = m'.tail) (h3 : z.head = m'.head) (h4 : l.length ≤ N) (h5 : (fileL (playT tables) l).length ≤ B) (hu : Upd s s W W') :
    KeptQ w mb W (PQ w tables f d N B m o) 0 W' := by
  refine ⟨⟨by rw [ho], ?_⟩, hu.cover hs⟩
  rw [ho]
  refine ⟨grow s W W', l, z, D, fs, h1, h2, h3, h4, h5, fun x hx => ?_⟩
  rcases hx with hx | hx
  · exact hs x hx
  · exact ⟨by omega, fun e => by have := hl x e; omega⟩
theorem FZ.sync {w : World} {s : Blocks} {f d cap N : Nat} {T : List (List UInt8)} {l : List Chg} {z : FzS} {items : List (List (List UInt8))} {D : HdS} {num : Nat} {fs : FileS} (h : FZ w s f d cap N T l z items D num fs) (hN : N ≤ 1000000) (hL : (fileL T l).length ≤ 140737488355328) :
    Calls Tryz.prog 19 #[.pointer (some ⟨f, 0, none⟩)] w fun e w' => e = .returned .nilIface ∧ FZ w' (grow s w w') f d cap (N + 2) T l z items D.tick num fs.settled ∧ Upd s s w w' := by
  have hc := h.count
  have hf := h.files
  refine (fSync_calls s f d cap D true num fs T _ z w h.frz h.calm (by omega) (by omega) (by rw [h.bytes]; exact hL)).mono ?_
  rintro e w' ⟨rfl, h1, h2⟩
  refine ⟨rfl, ⟨h1, h.calm.tick, h.files, ?_, ?_, ?_, h.play, h.valid, h.told⟩, h2⟩
  · show D.count + 1 ≤ N + 2
    omega
  · rw [FileS.settled_bytes, h.bytes]
  · rw [FileS.settled_pend]
    exact Nat.zero_le _
theorem play_ops {w : World} {tables f d N B : Nat} {m : MSt} {mb : Blocks} {W : World} (h : PF w tables f d N B m mb W) (hw : Below w.heap.size w W) (hl : ∀ x, mb x → x < W.heap.size) (ht1 : 1 ≤ tables) (ht8 : tables ≤ 8) (hN : N ≤ 1000000) (hB : B + 140000 ≤ 16777216) (hle : m.tail ≤ m.head) (hlen : m.all.length = m.head) (hh : m.head ≤ 1000000) (o : MOp) :
    OpCalls f W (KeptQ w mb W (PQ w tables f d (N + 2) (B + 140000) m o)) o := by
  have H0 := h
  obtain ⟨s, l, z, D, fs, h1, h2, h3, h4, h5, h6⟩ := h
  have hT : (playT tables).length = tables := playT_length tables ht8
  have hno := fun (n : Nat) (o : MOp) (ho : stepM tables m n o = (n, m)) {e : Ending} {W' : World} (he : ErrN W n e W') => pq_no H0 ho (show N ≤ N + 2 by omega) (show B ≤ B + 140000 by omega) hl he
  cases o with
  | app n vs =>
    intro V Nv cv hv
    by_cases hr : rightB tables vs = false
    · refine (Append_noV s f d 16777216 D true 0 fs _ _ z (n : Int) V Nv cv vs W h1.frz hv ?_).mono fun e W' he => hno 120 _ (by rw [stepM_app, if_pos hr]) he
      rcases rightB_false hr with e | e
      · left
        rw [hT, ← hv.1]
        exact e
      · exact .inr e
    · have hr1 : rightB tables vs = true := by simpa using hr
      obtain ⟨hvl, hvs⟩ := rightB_true hr1
      by_cases hn : n = m.head
      · subst hn
        have hbl := body_le m.head vs hh (by rw [hvl]; exact ht8) hvs
        have hfl := frame_le _ hbl
        have hA := FZ.append h1 (by rw [hT]; exact ht8) hv (by rw [hT]; exact hvl) hvs (by rw [h3]; exact hh) (by rw [h3]; omega) (by rw [h3]; omega) (by omega) hN
        rw [h3] at hA
        refine hA.mono ?_
        rintro e W' ⟨rfl, ⟨z', D', fs', g1, g2, g3⟩, g4⟩
        refine ⟨.nilIface, 0, rfl, .inl ⟨rfl, rfl⟩, ?_⟩
        refine pq_yes (m' := ⟨m.tail, m.head + 1, m.sure, m.all ++ [vs]⟩) (by rw [stepM_app, if_neg hr, if_neg (by simp), if_pos rfl]) hw.size h6 hl (z := z') (D := D') (fs := fs') (l := l ++ [(0, m.head, vs)]) ?_ (g2.trans h2) (by rw [g3]) ?_ ?_ g4
        · rw [show (m.all ++ [vs]).drop m.tail = m.all.drop m.tail ++ [vs] from List.drop_append_of_le_length (by omega)]
          exact g1
        · rw [List.length_append, List.length_singleton]
          omega
        · rw [fileL_snoc, List.length_append]
          have : (frameN (chgB (0, m.head, vs))).length ≤ 140000 := hfl
          omega
      · exact (Append_noI s f d 16777216 D true 0 fs _ _ z (n : Int) V Nv cv vs W h1.frz hv (by rw [hT, ← hv.1]; exact hvl) hvs (by rw [h3]; omega) (by rw [h3]; exact hh)).mono fun e W' he => hno 121 _ (by rw [stepM_app, if_neg hr, if_pos hn]) he
  | cutH n =>
    by_cases hb : n < m.tail ∨ m.head < n
    · exact (TruncHead_no s f d 16777216 D true 0 fs _ _ z (n : Int) W h1.frz (by rw [h2, h3]; omega) (by rw [h3]; exact hh)).mono fun e W' he => hno 121 _ (by rw [stepM_cutH, if_pos hb]) he
    · have hbl := body_small 1 n (by omega) (by omega)
      have hfs := frame_small _ (Nat.le_trans hbl (by omega))
      refine (FZ.cutHead h1 (n := n) (by rw [hT]; exact ht8) (by rw [h2]; omega) (by rw [h3]; omega) (by rw [h3]; exact hh) (by omega) (by omega) hN).mono ?_
      rintro e W' ⟨rfl, ⟨z', D', fs', g1, g2, g3⟩, g4⟩
      refine ⟨.nilIface, 0, rfl, .inl ⟨rfl, rfl⟩, ?_⟩
      refine pq_yes (m' := ⟨m.tail, n, n, m.all.take n⟩) (by rw [stepM_cutH, if_neg hb, if_pos rfl]) hw.size h6 hl (z := z') (D := D') (fs := fs') (l := l ++ [(1, n, [])]) ?_ (g2.trans h2) g3 ?_ ?_ g4
      · rw [h2] at g1
        show FZ _ _ _ _ _ _ _ _ _ ((m.all.take n).drop m.tail) _ _ _
        rw [List.drop_take]
        exact g1
      · rw [List.length_append, List.length_singleton]
        omega
      · rw [fileL_snoc, List.length_append]
        have : (frameN (chgB (1, n, []))).length ≤ 50 := hfs
        omega
  | cutT n =>
    by_cases hb : n < m.tail ∨ m.head < n
    · exact (TruncTail_no s f d 16777216 D true 0 fs _ _ z (n : Int) W h1.frz (by rw [h2, h3]; omega) (by rw [h3]; exact hh)).mono fun e W' he => hno 121 _ (by rw [stepM_cutT, if_pos hb]) he
    · have hbl := body_small 2 n (by omega) (by omega)
      have hfs := frame_small _ (Nat.le_trans hbl (by omega))
      refine (FZ.cutTail h1 (n := n) (by rw [hT]; exact ht8) (by rw [h2]; omega) (by rw [h3]; omega) (by rw [h3]; exact hh) (by omega) (by omega) hN).mono ?_
      rintro e W' ⟨rfl, ⟨z', D', fs', g1, g2, g3⟩, g4⟩
      refine ⟨.nilIface, 0, rfl, .inl ⟨rfl, rfl⟩, ?_⟩
      refine pq_yes (m' := ⟨n, m.head, m.sure, m.all⟩) (by rw [stepM_cutT, if_neg hb, if_pos rfl]) hw.size h6 hl (z := z') (D := D') (fs := fs') (l := l ++ [(2, n, [])]) ?_ g2 (g3.trans h3) ?_ ?_ g4
      · rw [h2, List.drop_drop, show m.tail + (n - m.tail) = n from by omega] at g1
        exact g1
      · rw [List.length_append, List.length_singleton]
        omega
      · rw [fileL_snoc, List.length_append]
        have : (frameN (chgB (2, n, []))).length ≤ 50 := hfs
        omega
  | sync =>
    refine (h1.sync hN (by omega)).mono ?_
    rintro e W' ⟨rfl, g1, g4⟩
    refine ⟨.nilIface, 0, rfl, .inl ⟨rfl, rfl⟩, ?_⟩
    exact pq_yes (m' := ⟨m.tail, m.head, m.head, m.all⟩) rfl hw.size h6 hl (l := l) g1 h2 h3 (by omega) (by omega) g4
end Go.Proofs.YtejnfahfjmeabaaGreatDoor
