/- the texts M43, M44, M45, M46, M47 of this proof, one behind the other -/
import Derived.Test.YtejnfahfjmeabaaGreatDoorK6
set_option linter.unusedSimpArgs false
set_option linter.unusedVariables false
namespace Go.Proofs.YtejnfahfjmeabaaGreatDoor
open Go.RowKit
set_option linter.unusedSimpArgs false
set_option linter.unusedVariables false

/-- a freezer behind a change: somewhere within these blocks -/
def FrzW (w' : World) (s' : Blocks) (f d cap : Nat) (D : HdS) (b : Bool) (num : Nat) (fs : FileS) (T : List (List UInt8)) (size : Nat) (z : FzS) (dead closed : Bool) (A : Option Addr) (c : Nat) : Prop := ∃ sd iv q, FrzP w' s' f d cap D b num fs T size z dead closed sd A c iv q
def plus (s t : Blocks) (w w' : World) : Blocks := fun k => grow s w w' k ∨ t k
attribute [-go_sem] Builtin.append_
set_option maxRecDepth 100000 in
set_option maxHeartbeats 1000000 in
theorem does_app (s : Blocks) (f d cap : Nat) (D : HdS) (b : Bool) (num : Nat) (fs : FileS) (T : List (List UInt8)) (size : Nat) (z : FzS) (dead closed : Bool) (sd : Blocks) (A : Option Addr) (c : Nat) (iv : Value) (q : Blocks) (sv : Value) (sp : List (Nat × Nat)) (w : World)
    (h : FrzP w s f d cap D b num fs T size z dead closed sd A c iv q) (hs : SpotsM w (ownS sv) sv sp) (hn : ∀ k, ownS sv k → ¬ s k) (hl : sp.length = T.length) (hh : z.head ≤ 1000000000) :
    Calls Tryz.prog 61 #[.pointer (some ⟨f, 0, none⟩), .agg #[.int .i64 0, .int .i64 (z.head : Int), sv]] w fun e w' => e = .returned (.bool true) ∧ FrzW w' (plus s (ownS sv) w w') f d cap D b num fs T size ⟨z.tail, z.items ++ [sp]⟩ dead closed A c ∧ Upd s s w w' := by
  obtain ⟨As, cs, hsv⟩ := row_slice hs.1
  subst hsv
  obtain ⟨Ai, ci, hiv, hic, hcm⟩ := h.items.slice
  subst hiv
  have hzl : z.items.length ≤ 1000000000 := by unfold FzS.head at hh; omega
  obtain ⟨ln, hln⟩ : ∃ ln, ln = sp.length := ⟨_, rfl⟩
  obtain ⟨tn, htn⟩ : ∃ tn, tn = T.length := ⟨_, rfl⟩
  obtain ⟨zt, hzt⟩ : ∃ zt, zt = z.tail := ⟨_, rfl⟩
  obtain ⟨zn, hzn⟩ : ∃ zn, zn = z.items.length := ⟨_, rfl⟩
  obtain ⟨hv, hhv⟩ : ∃ hv, hv = z.head := ⟨_, rfl⟩
  have hzh : hv = zt + zn := by rw [hhv]; unfold FzS.head; rw [hzt, hzn]
  have hlt : ln = tn := by rw [hln, htn, hl]
  obtain ⟨BX, hBX⟩ : ∃ BX : Obj, BX = .cells #[.int .i64 0, .int .i64 (z.head : Int), .slice As ln cs] 118 := ⟨_, rfl⟩
  have hba : Below w.heap.size w (w.alloc BX) := (Below.refl _ _).alloc (Nat.le_refl _) _
  have H1 := h.below hba
  have hza : (w.alloc BX).heap.size = w.heap.size + 1 := by simp
  have BB : Blk (w.alloc BX) w.heap.size 118 #[.int .i64 0, .int .i64 (hv : Int), .slice As ln cs] := by rw [hBX, ← hhv]; exact Blk.new w 118 _
  have Bf : Blk (w.alloc BX) f 80 (zk d (.slice A tn c) size zt (.slice Ai zn ci) dead closed) := by rw [htn, hzt, hzn]; exact H1.blk
  have c0 : (w.alloc BX).cell? ⟨w.heap.size, 0, none⟩ = some (.int .i64 0) := BB.cell 0
  have c1 : (w.alloc BX).cell? ⟨w.heap.size, 1, none⟩ = some (.int .i64 (hv : Int)) := BB.cell 1
  have c2 : (w.alloc BX).cell? ⟨w.heap.size, 2, none⟩ = some (.slice As ln cs) := BB.cell 2
  have d1 : (w.alloc BX).cell? ⟨f, 1, none⟩ = some (.slice A tn c) := Bf.cell 1
  have HB := Lib.hid Bf
  have H := Lib.hid h
  have HS := Lib.hid hs
  have HN := Lib.hid hn
  have HH1 := Lib.hid H1
  have HA := Lib.hid hba
  have HZA := Lib.hid hza
  have HBB := Lib.hid BB
  have HLN := Lib.hid (show ln = sp.length ∧ tn = T.length ∧ zt = z.tail ∧ zn = z.items.length from ⟨hln, htn, hzt, hzn⟩)
  have hhd : zt + zn ≤ 1000000000 := by omega
  rw [← hln, ← hhv]
  rw [← hhv] at hBX
  have HBX := Lib.hid hBX
  have HHN : Hid (∀ n, Calls Tryz.prog 14 #[.pointer (some ⟨f, 0, none⟩)] ((w.alloc BX).drewN n) fun e w' => e = .returned (.int .i64 (hv : Int)) ∧ ∃ q, w' = ((w.alloc BX).drewN n).drewN q) := fun n => by
    rw [hzh]
    exact head_n f d zt zn ci size _ Ai dead closed _ (Blk.drewN Bf n) (by omega)
  rw [hBX] at HHN
  clear h hs hn H1 hba hza BB Bf hln htn hzt hzn hzh hhv hh hhd
  rw [hBX] at c0 c1 c2 d1
  subst hlt
  go_enter Tryz.func61, Tryz.ntmps61
  go_wp2_with fail
  go_quiet ((go_at_call 14; exact Calls.quiet_of (HHN.out _)))
  go_wp2_with fail
  generalize hw5 : World.drewN (w.alloc _) _ = w5
  have hb5 : Below w.heap.size w w5 := by
    rw [← hw5, ← HBX.out]
    exact ⟨HA.out.os, HA.out.tape, HA.out.output, HA.out.size, HA.out.block⟩
  have hz5 : w5.heap.size = w.heap.size + 1 := by rw [← hw5, ← HBX.out]; exact HZA.out
  have H5 := H.out.below hb5
  have B5 : Blk w5 w.heap.size 118 #[.int .i64 0, .int .i64 (hv : Int), .slice As ln cs] := by rw [← hw5, ← HBX.out]; exact HBB.out
  have hS5 : SpotsM w5.drew (ownS (.slice As sp.length cs)) (.slice As sp.length cs) sp := ⟨row_keep HS.out.1 (KeepsOn.below hb5.drew fun k hk => (World.ownsRow.lt HS.out.1 k hk).2), fun k hk => hk⟩
  obtain ⟨iv', w6, hrun, hI6, hU6⟩ := append_item w5.drew q (.slice Ai z.items.length ci) (.slice As sp.length cs) z.items sp (H5.items.keep (w' := w5.drew) (fun k _ => rfl) (fun _ h => h)) hS5 hzl rfl (fun k hk => H5.lt k (H5.qin k hk).1)
  obtain ⟨A6, c6, hiv6, hic6, hcm6⟩ := hI6.slice
  subst hiv6
  obtain ⟨l6, hl6⟩ : ∃ l6, l6 = (z.items ++ [sp]).length := ⟨_, rfl⟩
  have nfq : ¬ q f := fun e => (H5.qin f e).2.2 rfl
  have Bf6 : Blk w6 f 80 (zk d (.slice A T.length c) size z.tail (.slice Ai z.items.length ci) dead closed) := (hU6.block f H5.blk.lt nfq).trans H5.blk
  have hz6 : w5.heap.size ≤ w6.heap.size := hU6.size
  obtain ⟨w7, hw7⟩ : ∃ w7 : World, w7 = w6.setCell ⟨f, 4, none⟩ (.slice A6 l6 c6) := ⟨_, rfl⟩
  have K67 : KeepsOn (fun k => k ≠ f) w6 w7 := fun k hk => by rw [hw7]; exact Below.heap_setCell w6 ⟨f, 4, none⟩ _ k hk
  have hz7 : w7.heap.size = w6.heap.size := by rw [hw7]; simp [World.setCell]
  have hfin : Hid (FrzW w7 (plus s (ownS (.slice As sp.length cs)) w w7) f d cap D b num fs T size ⟨z.tail, z.items ++ [sp]⟩ dead closed A c ∧ Upd s s w w7) := by
    have K5s : KeepsOn sd w5 w7 := fun k hk => (K67 k (fun e => H5.nfd (e ▸ hk))).trans (hU6.block k (H5.lt k (H5.sub k hk)) (fun e => (H5.qin k e).2.1 hk))
    have svs : ∀ k, ownS (.slice As sp.length cs) k → k < w.heap.size := fun k hk => (World.ownsRow.lt HS.out.1 k hk).2
    refine ⟨⟨sd, .slice A6 l6 c6, qApp q (.slice As sp.length cs) w5.drew w6, ?_, ?_, fun k hk => .inl (.inl (H5.sub k hk)), ?_, fun ad e => ?_, ?_, fun k hk => ?_, .inl (.inl H5.fin), H5.nfd, fun k hk => ?_⟩, ?_⟩
    · rw [hw7]
      exact (Bf6.set_ 4 _).eq_ rfl
    · obtain ⟨nm, sm, pv, fb, sf, hd⟩ := H5.disk
      have km : ∀ bb n, MapAt w5 bb n → sd bb → MapAt w7 bb n := fun bb n ⟨x, y, h1, h2⟩ hs => ⟨x, y, (K5s bb hs).trans h1, h2⟩
      exact ⟨nm, sm, pv, fb, sf, (K5s d hd.ind).trans hd.blk, km nm _ hd.nms hd.inm, km sm _ hd.sms hd.ism, hd.ne, hd.file.keeps (K5s.mono hd.sub) (by omega), hd.sub, hd.nd, hd.nnm, hd.nsm, hd.pvm.keeps (K5s.mono fun k hk => (pv_sub hd.pvm k hk).1) (fun _ h => h) (fun _ _ h => h), hd.ind, hd.inm, hd.ism, fun k hk => by have := hd.lt k hk; omega⟩
    · refine H5.tab.keep (t := fun k => s k ∧ ¬ q k ∧ k ≠ f) (fun k hk => (K67 k hk.2.2).trans (hU6.block k (H5.lt k hk.1) hk.2.1)) (fun ad e => ⟨(H5.tabs ad e).1, (H5.tabs ad e).2.2.2, (H5.tabs ad e).2.2.1⟩)
    · obtain ⟨t1, t2, t3, t4⟩ := H5.tabs ad e
      refine ⟨.inl (.inl t1), t2, t3, fun hk => ?_⟩
      rcases hk with hk | hk | hk
      · exact t4 hk
      · exact HN.out _ hk t1
      · have := H5.lt _ t1
        have h8 : w5.drew.heap.size = w5.heap.size := rfl
        omega
    · rw [hl6]
      refine hI6.keep (fun k hk => K67 k (fun e => ?_)) (fun _ h => h)
      rw [e] at hk
      rcases hk with hk | hk | hk
      · exact nfq hk
      · exact HN.out f hk H5.fin
      · have := H5.blk.lt
        have h8 : w5.drew.heap.size = w5.heap.size := rfl
        omega
    · rcases hk with hk | hk | hk
      · exact ⟨.inl (.inl (H5.qin k hk).1), (H5.qin k hk).2⟩
      · exact ⟨.inr hk, fun e => HN.out k hk (H5.sub k e), fun e => HN.out k hk (by rw [e]; exact H5.fin)⟩
      · have h8 : w5.drew.heap.size = w5.heap.size := rfl
        refine ⟨.inl (.inr ⟨by omega, by omega⟩), fun e => ?_, fun e => ?_⟩
        · have := H5.lt k (H5.sub k e)
          omega
        · have := H5.blk.lt
          omega
    · rcases hk with (hk | hk) | hk
      · have := H5.lt k hk
        omega
      · exact hk.2
      · have := svs k hk
        omega
    · rw [hw7]
      exact ((Upd.below hb5.drew).thenS hU6 (fun k hk => .inl (H5.qin k hk).1)).setS (.inl H5.fin) _
  have x2 : w5.cell? ⟨w.heap.size, 2, none⟩ = some (.slice As ln cs) := B5.cell 2
  have hb5b : Below w5.heap.size w5 (w5.alloc (.cells #[.slice As ln cs] 89)) := (Below.refl _ _).alloc (Nat.le_refl _) _
  have y4 : w5.cell? ⟨f, 4, none⟩ = some (.slice Ai z.items.length ci) := H5.blk.cell 4
  have x2a := cell_below' hb5b x2
  have y4a := cell_below' hb5b y4
  have x2d : w5.drew.cell? ⟨w.heap.size, 2, none⟩ = some (.slice As ln cs) := x2
  have y4d : w5.drew.cell? ⟨f, 4, none⟩ = some (.slice Ai z.items.length ci) := y4
  have e64 : w6.cell? ⟨f, 4, none⟩ = some (.slice Ai z.items.length ci) := Bf6.cell 4
  have f64 := Bf6.frozen 4
  rw [← HLN.out.1, ← hl6] at hrun
  have hrun2 : (Builtin.append_ #[78, 78] 78 #[.slice Ai z.items.length ci, .slice (some ⟨w5.heap.size, 0, none⟩) 1 1]).run Tryz.prog (w5.alloc (.cells #[.slice As ln cs] 89)).drew = .ok (.slice A6 l6 c6) w6 := hrun
  rw [hw7, ← HLN.out.1] at hfin
  clear hrun hw7 K67 hz7 Bf6 hz6 nfq hI6 hU6 hS5 B5 H5 hb5 hz5 hw5 hb5b x2 y4 hl6 c0 c1 c2 d1
  go_region
  all_goals
    go_wp2_with fail
    go_ret
    exact ⟨rfl, hfin.out⟩
end Go.Proofs.YtejnfahfjmeabaaGreatDoor
namespace Go.Proofs.YtejnfahfjmeabaaGreatDoor
open Go.RowKit
set_option linter.unusedSimpArgs false
set_option linter.unusedVariables false

set_option maxRecDepth 100000 in
set_option maxHeartbeats 1000000 in
theorem does_head (s : Blocks) (f d cap : Nat) (D : HdS) (b : Bool) (num : Nat) (fs : FileS) (T : List (List UInt8)) (size : Nat) (z : FzS) (dead closed : Bool) (sd : Blocks) (A : Option Addr) (c : Nat) (iv : Value) (q : Blocks) (As : Option Addr) (cs n : Nat) (w : World)
    (h : FrzP w s f d cap D b num fs T size z dead closed sd A c iv q) (h1 : z.tail ≤ n) (h2 : n ≤ z.head) (hh : z.head ≤ 1000000000) :
    Calls Tryz.prog 61 #[.pointer (some ⟨f, 0, none⟩), .agg #[.int .i64 1, .int .i64 (n : Int), .slice As 0 cs]] w fun e w' => e = .returned (.bool true) ∧ FrzW w' (grow s w w') f d cap D b num fs T size ⟨z.tail, z.items.take (n - z.tail)⟩ dead closed A c ∧ Upd s s w w' := by
  obtain ⟨Ai, ci, hiv, hic, hcm⟩ := h.items.slice
  subst hiv
  obtain ⟨k, hk⟩ : ∃ k, k = n - z.tail := ⟨_, rfl⟩
  obtain ⟨zt, hzt⟩ : ∃ zt, zt = z.tail := ⟨_, rfl⟩
  obtain ⟨zn, hzn⟩ : ∃ zn, zn = z.items.length := ⟨_, rfl⟩
  have hzh : z.head = zt + zn := by unfold FzS.head; rw [hzt, hzn]
  obtain ⟨hv, hhv⟩ : ∃ hv, hv = zt + zn := ⟨_, rfl⟩
  have hkn : n = zt + k := by omega
  have hkz : k ≤ zn := by omega
  have hkc : k ≤ ci := by omega
  have q1 : ¬ (n : Int) < (zt : Int) := by omega
  have q1d : decide ((n : Int) < (zt : Int)) = false := by rw [decide_eq_false_iff_not]; omega
  have q1n : decide (n < zt) = false := by rw [decide_eq_false_iff_not]; omega
  have q2 : ¬ (hv : Int) < (n : Int) := by omega
  have q2d : decide ((hv : Int) < (n : Int)) = false := by rw [decide_eq_false_iff_not]; omega
  have q2n : decide (hv < n) = false := by rw [decide_eq_false_iff_not]; omega
  have q3 : wrap64 ((n : Int) - (zt : Int)) = (k : Int) := by rw [wrap_ok _ (by omega) (by omega)]; omega
  have q4 : IntKind.i64.wrap ((n : Int) - (zt : Int)) = (k : Int) := by
    rw [show (n : Int) - (zt : Int) = (k : Int) by omega]
    simp [IntKind.wrap, IntKind.bits, IntKind.signed]; omega
  obtain ⟨BX, hBX⟩ : ∃ BX : Obj, BX = .cells #[.int .i64 1, .int .i64 (n : Int), .slice As 0 cs] 118 := ⟨_, rfl⟩
  have hba : Below w.heap.size w (w.alloc BX) := (Below.refl _ _).alloc (Nat.le_refl _) _
  have H1 := h.below hba
  have hza : (w.alloc BX).heap.size = w.heap.size + 1 := by simp
  have BB : Blk (w.alloc BX) w.heap.size 118 #[.int .i64 1, .int .i64 (n : Int), .slice As 0 cs] := by rw [hBX]; exact Blk.new w 118 _
  have Bf : Blk (w.alloc BX) f 80 (zk d (.slice A T.length c) size zt (.slice Ai zn ci) dead closed) := by rw [hzt, hzn]; exact H1.blk
  have c0 : (w.alloc BX).cell? ⟨w.heap.size, 0, none⟩ = some (.int .i64 1) := BB.cell 0
  have c1 : (w.alloc BX).cell? ⟨w.heap.size, 1, none⟩ = some (.int .i64 (n : Int)) := BB.cell 1
  have c2 : (w.alloc BX).cell? ⟨w.heap.size, 2, none⟩ = some (.slice As 0 cs) := BB.cell 2
  have d3 : (w.alloc BX).cell? ⟨f, 3, none⟩ = some (.int .i64 (zt : Int)) := Bf.cell 3
  have H := Lib.hid h
  have HA := Lib.hid hba
  have HZA := Lib.hid hza
  have HBX := Lib.hid hBX
  have HBB := Lib.hid BB
  have HBf := Lib.hid Bf
  have HL := Lib.hid (show k = n - z.tail ∧ zt = z.tail ∧ zn = z.items.length from ⟨hk, hzt, hzn⟩)
  have HHN : Hid (∀ n, Calls Tryz.prog 14 #[.pointer (some ⟨f, 0, none⟩)] ((w.alloc BX).drewN n) fun e w' => e = .returned (.int .i64 (hv : Int)) ∧ ∃ q, w' = ((w.alloc BX).drewN n).drewN q) := fun n => by
    rw [hhv]
    exact head_n f d zt zn ci size _ Ai dead closed _ (Blk.drewN Bf n) (by omega)
  rw [hBX] at HHN c0 c1 c2 d3
  clear h hk hzt hzn hzh hhv hba H1 hza BB Bf hBX h1 h2 hkn
  go_enter Tryz.func61, Tryz.ntmps61
  go_wp2_with fail
  go_quiet ((go_at_call 14; exact Calls.quiet_of (HHN.out _)))
  go_wp2_with fail
  generalize hw5 : World.drewN (w.alloc _) _ = w5
  have hb5 : Below w.heap.size w w5 := by
    rw [← hw5, ← HBX.out]
    exact ⟨HA.out.os, HA.out.tape, HA.out.output, HA.out.size, HA.out.block⟩
  have B5 : Blk w5 w.heap.size 118 #[.int .i64 1, .int .i64 (n : Int), .slice As 0 cs] := by rw [← hw5, ← HBX.out]; exact HBB.out
  have F5 : Blk w5 f 80 (zk d (.slice A T.length c) size zt (.slice Ai zn ci) dead closed) := by rw [← hw5, ← HBX.out]; exact HBf.out
  have y4 : w5.cell? ⟨f, 4, none⟩ = some (.slice Ai zn ci) := F5.cell 4
  have y3 : w5.cell? ⟨f, 3, none⟩ = some (.int .i64 (zt : Int)) := F5.cell 3
  have x1 : w5.cell? ⟨w.heap.size, 1, none⟩ = some (.int .i64 (n : Int)) := B5.cell 1
  have f4 := F5.frozen 4
  obtain ⟨w7, hw7⟩ : ∃ w7 : World, w7 = w5.setCell ⟨f, 4, none⟩ (.slice Ai k ci) := ⟨_, rfl⟩
  have hfin : Hid (FrzW w7.drew (grow s w w7.drew) f d cap D b num fs T size ⟨z.tail, z.items.take (n - z.tail)⟩ dead closed A c ∧ Upd s s w w7.drew) := by
    have H5 := H.out.below hb5
    have K : KeepsOn (fun k => k ≠ f) w5 w7.drew := fun k hk => by
      show w7.heap[k]? = _
      rw [hw7]
      exact Below.heap_setCell w5 ⟨f, 4, none⟩ _ k hk
    have hz7 : w7.drew.heap.size = w5.heap.size := by
      show w7.heap.size = _
      rw [hw7]; simp [World.setCell]
    have hz5 : w.heap.size ≤ w5.heap.size := hb5.size
    have hkl : (z.items.take (n - z.tail)).length = k := by rw [List.length_take, ← HL.out.1, ← HL.out.2.2]; omega
    have hI : ItemsM w5 q (.slice Ai k ci) (z.items.take (n - z.tail)) := by
      have := H5.items.take k (by rw [← HL.out.2.2]; exact hkz)
      rw [← HL.out.1]
      exact this
    have ks : KeepsOn sd w5 w7.drew := K.mono fun k hk e => H5.nfd (e ▸ hk)
    refine ⟨⟨sd, .slice Ai k ci, q, ?_, ?_, fun k hk => .inl (H5.sub k hk), H5.tab.keep K (fun ad e => (H5.tabs ad e).2.2.1), fun ad e => ⟨.inl (H5.tabs ad e).1, (H5.tabs ad e).2⟩, hI.keep (K.mono fun k hk => (H5.qin k hk).2.2) (fun _ h => h), fun k hk => ⟨.inl (H5.qin k hk).1, (H5.qin k hk).2⟩, .inl H5.fin, H5.nfd, fun k hk => ?_⟩, ?_⟩
    · show Blk w7 f 80 _
      rw [hw7]
      exact (H5.blk.set_ 4 _).eq_ rfl
    · obtain ⟨nm, sm, pv, fb, sf, hd⟩ := H5.disk
      have km : ∀ bb n, MapAt w5 bb n → sd bb → MapAt w7.drew bb n := fun bb n ⟨x, y, h1, h2⟩ hs => ⟨x, y, (ks bb hs).trans h1, h2⟩
      exact ⟨nm, sm, pv, fb, sf, (ks d hd.ind).trans hd.blk, km nm _ hd.nms hd.inm, km sm _ hd.sms hd.ism, hd.ne, hd.file.keeps (ks.mono hd.sub) (by rw [hz7]; exact Nat.le_refl _), hd.sub, hd.nd, hd.nnm, hd.nsm, hd.pvm.keeps (ks.mono fun k hk => (pv_sub hd.pvm k hk).1) (fun _ h => h) (fun _ _ h => h), hd.ind, hd.inm, hd.ism, fun k hk => by rw [hz7]; exact hd.lt k hk⟩
    · rcases hk with hk | hk
      · have := H5.lt k hk
        omega
      · exact hk.2
    · have : Upd s s w w7 := by
        rw [hw7]
        exact (Upd.below hb5).setS (.inl H5.fin) _
      exact this.drew
  rw [hw7] at hfin
  have y4d : w5.drew.cell? ⟨f, 4, none⟩ = some (.slice Ai zn ci) := y4
  have y3d : w5.drew.cell? ⟨f, 3, none⟩ = some (.int .i64 (zt : Int)) := y3
  have x1d : w5.drew.cell? ⟨w.heap.size, 1, none⟩ = some (.int .i64 (n : Int)) := x1
  have kI : (0 : Int) ≤ (k : Int) ∧ (k : Int) ≤ (ci : Int) := by omega
  clear hw7 hw5 hb5 B5 F5 c0 c1 c2 d3
  go_region
  all_goals
    go_wp2_with fail
    go_ret
    exact ⟨rfl, hfin.out⟩
set_option maxRecDepth 100000 in
set_option maxHeartbeats 1000000 in
theorem does_tail (s : Blocks) (f d cap : Nat) (D : HdS) (b : Bool) (num : Nat) (fs : FileS) (T : List (List UInt8)) (size : Nat) (z : FzS) (dead closed : Bool) (sd : Blocks) (A : Option Addr) (c : Nat) (iv : Value) (q : Blocks) (As : Option Addr) (cs n : Nat) (w : World)
    (h : FrzP w s f d cap D b num fs T size z dead closed sd A c iv q) (h1 : z.tail ≤ n) (h2 : n ≤ z.head) (hh : z.head ≤ 1000000000) :
    Calls Tryz.prog 61 #[.pointer (some ⟨f, 0, none⟩), .agg #[.int .i64 2, .int .i64 (n : Int), .slice As 0 cs]] w fun e w' => e = .returned (.bool true) ∧ FrzW w' (grow s w w') f d cap D b num fs T size ⟨n, z.items.drop (n - z.tail)⟩ dead closed A c ∧ Upd s s w w' := by
  obtain ⟨Ai, ci, hiv, hic, hcm⟩ := h.items.slice
  subst hiv
  obtain ⟨k, hk⟩ : ∃ k, k = n - z.tail := ⟨_, rfl⟩
  obtain ⟨zt, hzt⟩ : ∃ zt, zt = z.tail := ⟨_, rfl⟩
  obtain ⟨zn, hzn⟩ : ∃ zn, zn = z.items.length := ⟨_, rfl⟩
  have hzh : z.head = zt + zn := by unfold FzS.head; rw [hzt, hzn]
  obtain ⟨hv, hhv⟩ : ∃ hv, hv = zt + zn := ⟨_, rfl⟩
  have hkn : n = zt + k := by omega
  have hkz : k ≤ zn := by omega
  have hkc : k ≤ ci := by omega
  have hic2 : zn ≤ ci := by omega
  have q1 : ¬ (n : Int) < (zt : Int) := by omega
  have q1d : decide ((n : Int) < (zt : Int)) = false := by rw [decide_eq_false_iff_not]; omega
  have q1n : decide (n < zt) = false := by rw [decide_eq_false_iff_not]; omega
  have q2 : ¬ (hv : Int) < (n : Int) := by omega
  have q2d : decide ((hv : Int) < (n : Int)) = false := by rw [decide_eq_false_iff_not]; omega
  have q2n : decide (hv < n) = false := by rw [decide_eq_false_iff_not]; omega
  have q3 : wrap64 ((n : Int) - (zt : Int)) = (k : Int) := by rw [wrap_ok _ (by omega) (by omega)]; omega
  have q4 : IntKind.i64.wrap ((n : Int) - (zt : Int)) = (k : Int) := by
    rw [show (n : Int) - (zt : Int) = (k : Int) by omega]
    simp [IntKind.wrap, IntKind.bits, IntKind.signed]; omega
  obtain ⟨BX, hBX⟩ : ∃ BX : Obj, BX = .cells #[.int .i64 2, .int .i64 (n : Int), .slice As 0 cs] 118 := ⟨_, rfl⟩
  have hba : Below w.heap.size w (w.alloc BX) := (Below.refl _ _).alloc (Nat.le_refl _) _
  have H1 := h.below hba
  have hza : (w.alloc BX).heap.size = w.heap.size + 1 := by simp
  have BB : Blk (w.alloc BX) w.heap.size 118 #[.int .i64 2, .int .i64 (n : Int), .slice As 0 cs] := by rw [hBX]; exact Blk.new w 118 _
  have Bf : Blk (w.alloc BX) f 80 (zk d (.slice A T.length c) size zt (.slice Ai zn ci) dead closed) := by rw [hzt, hzn]; exact H1.blk
  have c0 : (w.alloc BX).cell? ⟨w.heap.size, 0, none⟩ = some (.int .i64 2) := BB.cell 0
  have c1 : (w.alloc BX).cell? ⟨w.heap.size, 1, none⟩ = some (.int .i64 (n : Int)) := BB.cell 1
  have c2 : (w.alloc BX).cell? ⟨w.heap.size, 2, none⟩ = some (.slice As 0 cs) := BB.cell 2
  have d3 : (w.alloc BX).cell? ⟨f, 3, none⟩ = some (.int .i64 (zt : Int)) := Bf.cell 3
  have H := Lib.hid h
  have HA := Lib.hid hba
  have HZA := Lib.hid hza
  have HBX := Lib.hid hBX
  have HBB := Lib.hid BB
  have HBf := Lib.hid Bf
  have HL := Lib.hid (show k = n - z.tail ∧ zt = z.tail ∧ zn = z.items.length from ⟨hk, hzt, hzn⟩)
  have HHN : Hid (∀ n, Calls Tryz.prog 14 #[.pointer (some ⟨f, 0, none⟩)] ((w.alloc BX).drewN n) fun e w' => e = .returned (.int .i64 (hv : Int)) ∧ ∃ q, w' = ((w.alloc BX).drewN n).drewN q) := fun n => by
    rw [hhv]
    exact head_n f d zt zn ci size _ Ai dead closed _ (Blk.drewN Bf n) (by omega)
  rw [hBX] at HHN c0 c1 c2 d3
  clear h hk hzt hzn hzh hhv hba H1 hza BB Bf hBX h1 h2 hkn
  go_enter Tryz.func61, Tryz.ntmps61
  go_wp2_with fail
  go_quiet ((go_at_call 14; exact Calls.quiet_of (HHN.out _)))
  go_wp2_with fail
  generalize hw5 : World.drewN (w.alloc _) _ = w5
  have hb5 : Below w.heap.size w w5 := by
    rw [← hw5, ← HBX.out]
    exact ⟨HA.out.os, HA.out.tape, HA.out.output, HA.out.size, HA.out.block⟩
  have B5 : Blk w5 w.heap.size 118 #[.int .i64 2, .int .i64 (n : Int), .slice As 0 cs] := by rw [← hw5, ← HBX.out]; exact HBB.out
  have F5 : Blk w5 f 80 (zk d (.slice A T.length c) size zt (.slice Ai zn ci) dead closed) := by rw [← hw5, ← HBX.out]; exact HBf.out
  have y4 : w5.cell? ⟨f, 4, none⟩ = some (.slice Ai zn ci) := F5.cell 4
  have y3 : w5.cell? ⟨f, 3, none⟩ = some (.int .i64 (zt : Int)) := F5.cell 3
  have x1 : w5.cell? ⟨w.heap.size, 1, none⟩ = some (.int .i64 (n : Int)) := B5.cell 1
  have f4 := F5.frozen 4
  have f3 := F5.frozen 3
  have hfin : Hid (∀ A7 m7 c7, A7 = subA Ai k ci → m7 = zn - k → c7 = ci - k → FrzW ((w5.setCell ⟨f, 4, none⟩ (.slice A7 m7 c7)).setCell ⟨f, 3, none⟩ (.int .i64 (n : Int))).drew (grow s w ((w5.setCell ⟨f, 4, none⟩ (.slice A7 m7 c7)).setCell ⟨f, 3, none⟩ (.int .i64 (n : Int))).drew) f d cap D b num fs T size ⟨n, z.items.drop (n - z.tail)⟩ dead closed A c ∧ Upd s s w ((w5.setCell ⟨f, 4, none⟩ (.slice A7 m7 c7)).setCell ⟨f, 3, none⟩ (.int .i64 (n : Int))).drew) := fun A7 m7 c7 eA em ec => by
    obtain ⟨w7, hw7⟩ : ∃ w7 : World, w7 = (w5.setCell ⟨f, 4, none⟩ (.slice A7 m7 c7)).setCell ⟨f, 3, none⟩ (.int .i64 (n : Int)) := ⟨_, rfl⟩
    rw [← hw7]
    have H5 := H.out.below hb5
    have K : KeepsOn (fun k => k ≠ f) w5 w7.drew := fun k hk => by
      show w7.heap[k]? = _
      rw [hw7]
      exact (Below.heap_setCell _ ⟨f, 3, none⟩ _ k hk).trans (Below.heap_setCell w5 ⟨f, 4, none⟩ _ k hk)
    have hz7 : w7.drew.heap.size = w5.heap.size := by
      show w7.heap.size = _
      rw [hw7]; simp [World.setCell]
    have hz5 : w.heap.size ≤ w5.heap.size := hb5.size
    have hkl : (z.items.drop (n - z.tail)).length = m7 := by rw [List.length_drop, ← HL.out.1, ← HL.out.2.2, em]
    have hI : ItemsM w5 q (.slice A7 m7 c7) (z.items.drop (n - z.tail)) := by
      have := H5.items.drop k (by rw [← HL.out.2.2]; exact hkz)
      rw [← HL.out.1, eA, em, ec, HL.out.2.2]
      exact this
    have ks : KeepsOn sd w5 w7.drew := K.mono fun k hk e => H5.nfd (e ▸ hk)
    refine ⟨⟨sd, .slice A7 m7 c7, q, ?_, ?_, fun k hk => .inl (H5.sub k hk), H5.tab.keep K (fun ad e => (H5.tabs ad e).2.2.1), fun ad e => ⟨.inl (H5.tabs ad e).1, (H5.tabs ad e).2⟩, hI.keep (K.mono fun k hk => (H5.qin k hk).2.2) (fun _ h => h), fun k hk => ⟨.inl (H5.qin k hk).1, (H5.qin k hk).2⟩, .inl H5.fin, H5.nfd, fun k hk => ?_⟩, ?_⟩
    · show Blk w7 f 80 _
      rw [hw7]
      exact ((H5.blk.set_ 4 _).set_ 3 _).eq_ rfl
    · obtain ⟨nm, sm, pv, fb, sf, hd⟩ := H5.disk
      have km : ∀ bb n, MapAt w5 bb n → sd bb → MapAt w7.drew bb n := fun bb n ⟨x, y, h1, h2⟩ hs => ⟨x, y, (ks bb hs).trans h1, h2⟩
      exact ⟨nm, sm, pv, fb, sf, (ks d hd.ind).trans hd.blk, km nm _ hd.nms hd.inm, km sm _ hd.sms hd.ism, hd.ne, hd.file.keeps (ks.mono hd.sub) (by rw [hz7]; exact Nat.le_refl _), hd.sub, hd.nd, hd.nnm, hd.nsm, hd.pvm.keeps (ks.mono fun k hk => (pv_sub hd.pvm k hk).1) (fun _ h => h) (fun _ _ h => h), hd.ind, hd.inm, hd.ism, fun k hk => by rw [hz7]; exact hd.lt k hk⟩
    · rcases hk with hk | hk
      · have := H5.lt k hk
        omega
      · exact hk.2
    · have : Upd s s w w7 := by
        rw [hw7]
        exact ((Upd.below hb5).setS (.inl H5.fin) _).setS (.inl H5.fin) _
      exact this.drew
  have y4d : w5.drew.cell? ⟨f, 4, none⟩ = some (.slice Ai zn ci) := y4
  have y3d : w5.drew.cell? ⟨f, 3, none⟩ = some (.int .i64 (zt : Int)) := y3
  have x1d : w5.drew.cell? ⟨w.heap.size, 1, none⟩ = some (.int .i64 (n : Int)) := x1
  have hxf : ¬ w.heap.size = f := blk_ne B5 F5 (by decide)
  have hfx : ¬ f = w.heap.size := fun e => hxf e.symm
  have kI : (0 : Int) ≤ (k : Int) ∧ (k : Int) ≤ (zn : Int) := by omega
  clear hw5 hb5 B5 F5 c0 c1 c2 d3
  by_cases hck : ci = k
  · have HX := Lib.hid (show Ai = subA Ai k ci ∧ 0 = zn - k ∧ 0 = ci - k from ⟨by unfold subA; rw [if_pos hck], by omega, by omega⟩)
    subst hck
    go_region
    all_goals
      go_wp2_with fail
      go_ret
      exact ⟨rfl, hfin.out _ _ _ HX.out.1 HX.out.2.1 HX.out.2.2⟩
  · have HX := Lib.hid (show Ai.map (fun x => x.add k) = subA Ai k ci by unfold subA; rw [if_neg hck])
    go_region
    all_goals
      go_wp2_with fail
      go_ret
      exact ⟨rfl, hfin.out _ _ _ HX.out rfl rfl⟩
end Go.Proofs.YtejnfahfjmeabaaGreatDoor
namespace Go.Proofs.YtejnfahfjmeabaaGreatDoor
open Go.RowKit
set_option linter.unusedSimpArgs false
set_option linter.unusedVariables false

theorem FrzW.wide {w : World} {s s' : Blocks} {f d cap : Nat} {D : HdS} {b : Bool} {num : Nat} {fs : FileS} {T : List (List UInt8)} {size : Nat} {z : FzS} {dead closed : Bool} {A : Option Addr} {c : Nat} (h : FrzW w s f d cap D b num fs T size z dead closed A c) (hs : ∀ k, s k → s' k) (hl : ∀ k, s' k → k < w.heap.size) : FrzW w s' f d cap D b num fs T size z dead closed A c := by
  obtain ⟨sd, iv, q, h⟩ := h
  exact ⟨sd, iv, q, h.wide hs hl⟩
theorem fdoes_calls (s : Blocks) (f d cap : Nat) (D : HdS) (b : Bool) (num : Nat) (fs : FileS) (T : List (List UInt8)) (size : Nat) (z : FzS) (dead closed : Bool) (sd : Blocks) (A : Option Addr) (c : Nat) (iv : Value) (q : Blocks) (sv : Value) (kind n p : Nat) (vs : List (List UInt8)) (w : World)
    (h : FrzP w s f d cap D b num fs T size z dead closed sd A c iv q) (hk : OkC T.length z (kind, n, vs)) (hs : w.ownsRow 0 88 2 sv vs.length (spk (spotsF (p + (putL kind).length + (putL n).length) vs))) (hn : ∀ k, ownS sv k → ¬ s k) (hh : z.head ≤ 1000000000) :
    Calls Tryz.prog 61 #[.pointer (some ⟨f, 0, none⟩), .agg #[.int .i64 (kind : Int), .int .i64 (n : Int), sv]] w fun e w' => e = .returned (.bool true) ∧ FrzW w' (plus s (ownS sv) w w') f d cap D b num fs T size (stepC p z (kind, n, vs)) dead closed A c ∧ Upd s s w w' := by
  have hsl : ∀ k, ownS sv k → k < w.heap.size := fun k hk => (World.ownsRow.lt hs k hk).2
  have wid : ∀ w' z', FrzW w' (grow s w w') f d cap D b num fs T size z' dead closed A c → Upd s s w w' → FrzW w' (plus s (ownS sv) w w') f d cap D b num fs T size z' dead closed A c := fun w' z' hW hU => hW.wide (fun k hk => .inl hk) (fun k hk => by
    have hz := hU.size
    rcases hk with hk | hk
    · exact grow_lt h.lt hz k hk
    · have := hsl k hk
      omega)
  rcases hk with ⟨rfl, rfl, hT⟩ | ⟨hk, h1, h2, rfl⟩
  · have hl := spotsF_len vs (p + (putL 0).length + (putL z.head).length)
    have hsp : SpotsM w (ownS sv) sv (spotsF (p + (putL 0).length + (putL z.head).length) vs) := ⟨by rw [hl]; exact hs, fun k hk => hk⟩
    exact does_app s f d cap D b num fs T size z dead closed sd A c iv q sv _ w h hsp hn (by rw [hl]; exact hT) hh
  · obtain ⟨As, cs, hsv⟩ := row_slice hs
    rcases hk with rfl | rfl
    · have := does_head s f d cap D b num fs T size z dead closed sd A c iv q As cs n w h h1 h2 hh
      rw [hsv]
      refine this.mono ?_
      rintro e w' ⟨he, hW, hU⟩
      rw [← hsv]
      exact ⟨he, wid w' _ hW hU, hU⟩
    · have := does_tail s f d cap D b num fs T size z dead closed sd A c iv q As cs n w h h1 h2 hh
      rw [hsv]
      refine this.mono ?_
      rintro e w' ⟨he, hW, hU⟩
      rw [← hsv]
      exact ⟨he, wid w' _ hW hU, hU⟩
theorem rdB_keep {w w' : World} {A : Option Addr} {n c : Nat} {xs : List UInt8} {t : Blocks} (h : RdB w A n c xs) (hk : KeepsOn t w w') (ht : ∀ ad, A = some ad → t ad.block) : RdB w' A n c xs := by
  obtain ⟨r1, r2, r3, r4⟩ := h
  refine ⟨r1, r2, r3, fun hn => ?_⟩
  obtain ⟨ad, e1, hc1⟩ := r4 hn
  refine ⟨ad, e1, fun j u hu => ?_⟩
  have hb : (ad.add j).block = ad.block := by unfold Addr.add; split <;> rfl
  exact (World.cell?_of_block (w := w) (w' := w') (a := ad.add j) (by rw [hb]; exact hk ad.block (ht ad e1))).trans (hc1 j u hu)
theorem row_less {w : World} {B : Nat} {e : TypeId} {size : Nat} {v : Value} {n : Nat} {xs : List Value} (h : w.ownsRow B e size v n xs) : w.ownsRow 0 e size v n xs := by
  refine ⟨h.1, ?_⟩
  rcases h.2 with h2 | ⟨g, cap, cur, e1, e2, e3⟩
  · exact .inl h2
  · exact .inr ⟨g, cap, cur, e1, Nat.zero_le _, e3⟩
theorem change_arith (size fl bl sf2 at2 : Nat) (h1 : size ≤ 67108864) (h2 : fl ≤ 67108864) (h3 : bl ≤ fl) (h4 : sf2 = size + fl) (h5 : at2 = sf2 - bl) : (size : Int) + (fl : Int) = (sf2 : Int) ∧ (sf2 : Int) - (bl : Int) = (at2 : Int) ∧ wrap64 (sf2 : Int) = (sf2 : Int) ∧ wrap64 (at2 : Int) = (at2 : Int) :=
  ⟨by omega, by omega, wrap_ok _ (by omega) (by omega), wrap_ok _ (by omega) (by omega)⟩
/-- the disk and the file behind a change -/
def chgD (D : HdS) (syn : Bool) : HdS := if syn = true then D.tick.tick else D.tick
def chgF (fs : FileS) (ys : List UInt8) (syn : Bool) : FileS := if syn = true then (fs.app ys).settled else fs.app ys
def ChangeR (w : World) (s : Blocks) (f d cap : Nat) (D : HdS) (b : Bool) (num : Nat) (fs : FileS) (T : List (List UInt8)) (size : Nat) (z : FzS) (A : Option Addr) (c : Nat) (ch : Chg) (syn : Bool) (e : Ending) (w' : World) : Prop :=
  e = .returned .nilIface ∧ FrzW w' (grow s w w') f d cap (chgD D syn) b num (chgF fs (frameN (chgB ch)) syn) T (size + (frameN (chgB ch)).length) (stepC (bodyAt size (chgB ch)) z ch) false false A c ∧ Upd s s w w'
set_option maxRecDepth 100000 in
set_option maxHeartbeats 1000000 in
theorem change_calls (s : Blocks) (f d cap : Nat) (D : HdS) (b : Bool) (num : Nat) (fs : FileS) (T : List (List UInt8)) (size : Nat) (z : FzS) (sd : Blocks) (A : Option Addr) (c : Nat) (iv : Value) (q : Blocks) (V : Option Addr) (N cv kind n : Nat) (vs : List (List UInt8)) (syn : Bool) (w : World)
    (h : FrzP w s f d cap D b num fs T size z false false sd A c iv q) (hC : Calm D) (hf : D.files ≤ 1048576) (hc : D.count ≤ 4611686018427370000) (hk : OkC T.length z (kind, n, vs)) (hT : T.length ≤ 8) (hv : RdM w V N cv vs) (hh : z.head ≤ 1000000)
    (hbl : (bodyL kind n vs).length ≤ 1048576) (hfit : fs.bytes.length + (frameN (bodyL kind n vs)).length ≤ cap) (hcm : cap ≤ 67108864) (hpl : fs.pend.length ≤ 1000000) (hsz : size ≤ 67108864) :
    Calls Tryz.prog 41 #[.pointer (some ⟨f, 0, none⟩), .int .i64 (kind : Int), .int .i64 (n : Int), .slice V N cv, .bool syn] w (ChangeR w s f d cap D b num fs T size z A c (kind, n, vs) syn) := by
  have hk2 : kind ≤ 2 ∧ n ≤ 1000000 ∧ vs.length ≤ 8 := by
    rcases hk with ⟨h1, h2, h3⟩ | ⟨h1, h2, h3, h4⟩
    · simp only at h1 h2 h3
      omega
    · simp only at h1 h2 h3 h4
      subst h4
      simp
      omega
  have hmf : ∀ (fn : Fn) (first cap : Array Value) (W : World), (Instr.makeFunc fn first cap).run Tryz.prog W = .ok (.func fn first cap) W := fun fn first cap W => rfl
  have hvl : (valsB vs).length ≤ 100000000 := by
    unfold bodyL at hbl
    rw [List.length_append, List.length_append] at hbl
    omega
  have HBO := Lib.hid (bytesOf_calls kind n (by omega) (by omega) V N cv vs w hv hvl)
  have H := Lib.hid h
  have HK := Lib.hid hk
  have HC := Lib.hid hC
  have HCC := Lib.hid (show D.files ≤ 1048576 ∧ D.count ≤ 4611686018427370000 from ⟨hf, hc⟩)
  have hch : chgB (kind, n, vs) = bodyL kind n vs := rfl
  obtain ⟨body, hbody⟩ : ∃ body, body = bodyL kind n vs := ⟨_, rfl⟩
  have HBD := Lib.hid hbody
  rw [← hbody] at HBO hbl hfit
  clear h hk hC hf hc hv hvl hch hbody
  have hnm : (⟨#[111, 108, 100, 45, 108, 111, 103]⟩ : ByteArray) = str fName := rfl
  go_enter Tryz.func41, Tryz.ntmps41
  rw [hnm]
  clear hnm
  generalize hnS : str fName = nmS at *
  go_wp2_with fail
  refine HBO.out.mono ?_
  intro e w1 hnb
  obtain ⟨A1, c1, rfl, ho1, hr1, hb1⟩ := hnb.out
  clear hnb
  obtain ⟨bl, hbl0⟩ : ∃ bl, bl = body.length := ⟨_, rfl⟩
  rw [← hbl0] at hr1 hbl ⊢
  have HF := Lib.hid (framed_calls A1 bl c1 body w1 hr1 hbl)
  have HR1 := Lib.hid hr1
  have HB1 := Lib.hid hb1
  have HO1 := Lib.hid ho1
  have HBL := Lib.hid hbl0
  clear ho1 hr1 hb1 hbl0
  go_wp2_with fail
  refine HF.out.mono ?_
  intro e w2 hnb
  obtain ⟨A2, c2, rfl, ho2, hr2, hb2⟩ := hnb.out
  clear hnb
  obtain ⟨fl, hfl⟩ : ∃ fl, fl = (frameN body).length := ⟨_, rfl⟩
  rw [← hfl] at hr2 hfit ⊢
  have HB2 := Lib.hid (thn HB1.out hb2)
  have HZ12 := Lib.hid (show w1.heap.size ≤ w2.heap.size from hb2.size)
  have HRB2 := Lib.hid (HR1.out.below hb2)
  have H2 := H.out.below HB2.out
  have d0 : w2.cell? ⟨f, 0, none⟩ = some (.pointer (some ⟨d, 0, none⟩)) := H2.blk.cell 0
  have d0d : w2.drew.cell? ⟨f, 0, none⟩ = some (.pointer (some ⟨d, 0, none⟩)) := d0
  have HFL := Lib.hid hfl
  have hA2 : ∀ ad, A2 = some ad → ¬ sd ad.block := fun ad e hk => by
    subst e
    have h1 := (ho2.block ad.block rfl).1
    have := H.out.lt ad.block (H.out.sub _ hk)
    have := HB1.out.size
    omega
  have HAP : Hid (∀ W, W.heap = w2.heap → W.os = w2.os → W.tape = w2.tape → W.output = w2.output → Calls Tryz.prog 67 #[.pointer (some ⟨d, 0, none⟩), .string (str fName), .slice A2 fl c2] W fun e w' => e = .returned (.int .i64 0) ∧ DiskF w' (grow sd W w') d cap D.tick b num (fs.app (frameN body)) ∧ Upd sd sd W w') := fun W e1 e2 e3 e4 => by
    have hbW : Below w2.heap.size w2 W := ⟨e2, e3, e4, by rw [e1]; exact Nat.le_refl _, fun k _ => by rw [e1]⟩
    refine (dAppend_calls d cap D b num fs sd A2 fl c2 (frameN body) W (H2.disk.below hbW) (HC.out.fit HCC.out.1 (by have := HCC.out.2; omega)) (hr2.below hbW) hA2 (by rw [hfl, frameN_len]; omega) hfit hcm (by omega)).mono ?_
    rintro e w' ⟨g1, g2, g3⟩
    rw [if_pos HC.out.E, HC.out.begins] at g2
    exact ⟨by rw [g1, HC.out.E]; rfl, g2, g3⟩
  rw [hnS] at HAP
  have HO1L := Lib.hid (fun ad (e : A1 = some ad) => by
    have h := HO1.out.block ad.block (by rw [e]; rfl)
    exact h)
  clear ho2 hr2 hb2 hA2 hfl H2
  go_wp2_with fail
  go_region
  go_wp2_with fail
  refine (HAP.out w2.drew rfl rfl rfl rfl).mono ?_
  rintro e w4 ⟨rfl, hd4, hu4⟩
  have H3 := H.out.below HB2.out.drew
  have H4 := Lib.hid (H3.disked hd4 hu4)
  have f2 := H4.out.blk.frozen 2
  have e2 : w4.cell? ⟨f, 2, none⟩ = some (.int .i64 (size : Int)) := H4.out.blk.cell 2
  have hfb : fl ≤ 67108864 := by omega
  have hblf : bl ≤ fl := by
    have := frameN_len body
    rw [← HFL.out, ← HBL.out] at this
    omega
  obtain ⟨sf2, hsf2⟩ : ∃ sf2, sf2 = size + fl := ⟨_, rfl⟩
  obtain ⟨at2, hat2⟩ : ∃ at2, at2 = sf2 - bl := ⟨_, rfl⟩
  have HARI := Lib.hid (change_arith size fl bl sf2 at2 hsz hfb hblf hsf2 hat2)
  have HAT := Lib.hid (show sf2 = size + fl ∧ at2 = size + fl - bl from ⟨hsf2, by rw [hat2, hsf2]⟩)
  obtain ⟨w5, hw5⟩ : ∃ w5 : World, w5 = w4.setCell ⟨f, 2, none⟩ (.int .i64 (sf2 : Int)) := ⟨_, rfl⟩
  have hz5 : w5.heap.size = w4.heap.size := by rw [hw5]; simp [World.setCell]
  have H5 := Lib.hid (H4.out.own (size' := sf2) (dead' := false) (closed' := false) (w' := w5) (by rw [hw5]; exact (H4.out.blk.set_ 2 _).eq_ rfl) (fun k hk => by rw [hw5]; exact Below.heap_setCell w4 ⟨f, 2, none⟩ _ k hk) hz5)
  have z4 : w2.heap.size ≤ w4.heap.size := hu4.size
  have z2 := HB2.out.size
  have U5 : Hid (Upd s s w w5) := by
    rw [hw5]
    exact ((Upd.below HB2.out.drew).thenS hu4 (fun k hk => .inl (H.out.sub k hk))).setS (.inl H.out.fin) _
  have hA1 : ∀ ad, A1 = some ad → ¬ s ad.block ∧ ad.block < w2.heap.size ∧ w.heap.size ≤ ad.block := fun ad e => by
    have h1 := HO1L.out ad e
    refine ⟨fun hs => ?_, ?_, h1.1⟩
    · have := H.out.lt ad.block hs
      omega
    · have h3 : w1.heap.size ≤ w2.heap.size := HZ12.out
      omega
  have R2 : RdB w2.drew A1 bl c1 body := HRB2.out.below ((Below.refl _ _).drew)
  have R5 : Hid (RdB w5 A1 bl c1 body) := by
    refine rdB_keep (t := fun k => ¬ s k ∧ k < w2.heap.size) R2 (fun k hk => ?_) (fun ad e => ⟨(hA1 ad e).1, (hA1 ad e).2.1⟩)
    rw [hw5]
    exact (Below.heap_setCell w4 ⟨f, 2, none⟩ _ k (fun e => hk.1 (by rw [show k = f from e]; exact H.out.fin))).trans (hu4.block k hk.2 (fun e => hk.1 (H.out.sub k e)))
  have HA1 := Lib.hid hA1
  have S5 : Hid (∀ k, grow s w2.drew w4 k → s k ∨ (w.heap.size ≤ k ∧ k < w5.heap.size)) := fun k hk => by
    rcases hk with hk | hk
    · exact .inl hk
    · have h8 : w2.drew.heap.size = w2.heap.size := rfl
      exact .inr ⟨by omega, by omega⟩
  have ZZ := Lib.hid (show w.heap.size ≤ w5.heap.size from by omega)
  have HZ25 := Lib.hid (show w2.heap.size ≤ w5.heap.size from by omega)
  clear hd4 hu4 H3 d0 d0d hsf2 hat2 hz5 z4 z2 hA1 R2
  cases syn with
  | false =>
    obtain ⟨wX, hwX⟩ : ∃ wX : World, wX = w5 := ⟨_, rfl⟩
    rw [← hwX] at H5 U5 R5 S5 ZZ hw5
    have HX := Lib.hid H5.out
    have HUX := Lib.hid U5.out
    have HRX := Lib.hid R5.out
    have HSX := Lib.hid S5.out
    have HZX := Lib.hid ZZ.out
    have HRD := Lib.hid (read_calls A1 bl c1 at2 kind n vs wX (by rw [← HBD.out]; exact HRX.out) (by omega) (by omega) hbl (by have := HAT.out; omega) (by omega))
    have e1a := HARI.out.1
    have e2a := HARI.out.2.1
    go_wp2_with fail
    rw [← hw5]
    clear hw5 e1a e2a
    refine HRD.out.mono ?_
    rintro e w7 ⟨sv, rfl, ho7, hb7⟩
    obtain ⟨As, cs, hsv⟩ := row_slice ho7
    obtain ⟨nv, hnv⟩ : ∃ nv, nv = vs.length := ⟨_, rfl⟩
    rw [← hnv] at hsv
    subst hsv
    obtain ⟨CX, hCX⟩ : ∃ CX : Obj, CX = .cells #[.int .i64 (kind : Int), .int .i64 (n : Int), .slice As nv cs] 118 := ⟨_, rfl⟩
    have hba : Below w7.heap.size w7 (w7.alloc CX) := (Below.refl _ _).alloc (Nat.le_refl _) _
    have hb8 := thn hb7 hba
    have H8 := HX.out.below hb8
    have BC : Blk (w7.alloc CX) w7.heap.size 118 #[.int .i64 (kind : Int), .int .i64 (n : Int), .slice As nv cs] := by rw [hCX]; exact Blk.new w7 118 _
    have svb : ∀ k, ownS (.slice As nv cs) k → wX.heap.size ≤ k ∧ k < w7.heap.size := fun k hk => World.ownsRow.lt ho7 k hk
    have HFD := Lib.hid (fdoes_calls _ f d cap _ b num _ T sf2 z false false _ A c iv q (.slice As nv cs) kind n (bodyAt size (bodyL kind n vs)) vs (w7.alloc CX) H8 HK.out (by
      have e : bodyAt size (bodyL kind n vs) = at2 := by
        rw [← HBD.out, HAT.out.2]
        unfold bodyAt
        rw [HFL.out, frameN_len, HBL.out]
        omega
      rw [e]
      exact row_less (row_keep ho7 (KeepsOn.below hba fun k hk => (svb k hk).2))) (fun k hk e => by
      have := HX.out.lt k e
      have := (svb k hk).1
      omega) (by omega))
    have HSV := Lib.hid svb
    have HCX := Lib.hid hCX
    have HB8 := Lib.hid hb8
    have HNV := Lib.hid hnv
    rw [hCX] at HFD
    clear ho7 hb7 hba hb8 H8 BC svb hCX hnv
    go_wp2_with fail
    refine HFD.out.mono ?_
    rintro e w9 ⟨rfl, hW9, hU9⟩
    have hfin : Hid (ChangeR w s f d cap D b num fs T size z A c (kind, n, vs) false (.returned .nilIface) w9) := by
      rw [← HCX.out] at hW9 hU9
      have z8 := HB8.out.size
      have z9 := hU9.size
      have zX := HZX.out
      have hbc : chgB (kind, n, vs) = body := HBD.out.symm
      refine ⟨rfl, ?_, ?_⟩
      · unfold chgD chgF
        rw [hbc, HFL.out.symm, HAT.out.1.symm]
        rw [← HBD.out] at hW9
        refine FrzW.wide hW9 (fun k hk => ?_) (grow_lt H.out.lt (by omega))
        rcases hk with (hk | hk) | hk
        · rcases HSX.out k hk with hk | hk
          · exact .inl hk
          · exact .inr ⟨hk.1, by omega⟩
        · exact .inr ⟨by omega, hk.2⟩
        · have := HSV.out k hk
          have hz7 : w7.heap.size ≤ (w7.alloc CX).heap.size := by simp
          exact .inr ⟨by omega, by omega⟩
      · exact (HUX.out.thn HB8.out).thenS hU9 (fun k hk => by
          rcases HSX.out k hk with hk | hk
          · exact .inl hk
          · exact .inr hk.1)
    clear hW9 hU9
    go_wp2_with fail
    go_ret
    exact hfin.out
  | true =>
    have d5 : w5.cell? ⟨f, 0, none⟩ = some (.pointer (some ⟨d, 0, none⟩)) := H5.out.blk.cell 0
    have HSY := Lib.hid (dSync_calls d cap D.tick b num (fs.app (frameN body)) _ w5 H5.out.disk (HC.out.tick.fit HCC.out.1 (by have := HCC.out.2; show D.count + 1 ≤ _; omega)) (by
      show (fs.bytes ++ frameN body).length ≤ _
      rw [List.length_append, ← HFL.out]
      omega))
    have hE : ((D.tick.beginsE : Nat) : Int) = 0 := by rw [HC.out.tick.E]; rfl
    unfold FileOp at HSY
    rw [hE, hnS] at HSY
    rw [hw5] at HSY
    clear hE
    have e1a := HARI.out.1
    have e2a := HARI.out.2.1
    go_wp2_with fail
    clear e1a e2a
    refine HSY.out.mono ?_
    rintro e wX ⟨rfl, hdX, huX⟩
    rw [← hw5] at hdX huX
    rw [if_pos HC.out.tick.E, HC.out.tick.begins] at hdX
    have HX := Lib.hid (H5.out.disked hdX huX)
    have zX := huX.size
    have HUX : Hid (Upd s s w wX) := U5.out.thenS huX (fun k hk => by
      rcases hk with hk | hk
      · exact .inl (H.out.sub k hk)
      · have h8 : w2.drew.heap.size = w2.heap.size := rfl
        have := HB2.out.size
        exact .inr (by omega))
    have HRX : Hid (RdB wX A1 bl c1 body) := by
      refine rdB_keep (t := fun k => ¬ s k ∧ k < w2.heap.size) R5.out (fun k hk => ?_) (fun ad e => ⟨(HA1.out ad e).1, (HA1.out ad e).2.1⟩)
      have hz5 : w2.heap.size ≤ w5.heap.size := HZ25.out
      refine huX.block k (by omega) (fun e => ?_)
      rcases e with e | e
      · exact hk.1 (H.out.sub k e)
      · have h8 : w2.drew.heap.size = w2.heap.size := rfl
        omega
    have HSX : Hid (∀ k, grow (grow s w2.drew w4) w5 wX k → s k ∨ (w.heap.size ≤ k ∧ k < wX.heap.size)) := fun k hk => by
      rcases hk with hk | hk
      · rcases S5.out k hk with hk | hk
        · exact .inl hk
        · exact .inr ⟨hk.1, by omega⟩
      · have := ZZ.out
        exact .inr ⟨by omega, hk.2⟩
    have HZX : Hid (w.heap.size ≤ wX.heap.size) := by have := ZZ.out; exact Nat.le_trans this zX
    clear hdX huX hw5 zX
    have HRD := Lib.hid (read_calls A1 bl c1 at2 kind n vs wX (by rw [← HBD.out]; exact HRX.out) (by omega) (by omega) hbl (by have := HAT.out; omega) (by omega))
    go_wp2_with fail
    refine HRD.out.mono ?_
    rintro e w7 ⟨sv, rfl, ho7, hb7⟩
    obtain ⟨As, cs, hsv⟩ := row_slice ho7
    obtain ⟨nv, hnv⟩ : ∃ nv, nv = vs.length := ⟨_, rfl⟩
    rw [← hnv] at hsv
    subst hsv
    obtain ⟨CX, hCX⟩ : ∃ CX : Obj, CX = .cells #[.int .i64 (kind : Int), .int .i64 (n : Int), .slice As nv cs] 118 := ⟨_, rfl⟩
    have hba : Below w7.heap.size w7 (w7.alloc CX) := (Below.refl _ _).alloc (Nat.le_refl _) _
    have hb8 := thn hb7 hba
    have H8 := HX.out.below hb8
    have BC : Blk (w7.alloc CX) w7.heap.size 118 #[.int .i64 (kind : Int), .int .i64 (n : Int), .slice As nv cs] := by rw [hCX]; exact Blk.new w7 118 _
    have svb : ∀ k, ownS (.slice As nv cs) k → wX.heap.size ≤ k ∧ k < w7.heap.size := fun k hk => World.ownsRow.lt ho7 k hk
    have HFD := Lib.hid (fdoes_calls _ f d cap _ b num _ T sf2 z false false _ A c iv q (.slice As nv cs) kind n (bodyAt size (bodyL kind n vs)) vs (w7.alloc CX) H8 HK.out (by
      have e : bodyAt size (bodyL kind n vs) = at2 := by
        rw [← HBD.out, HAT.out.2]
        unfold bodyAt
        rw [HFL.out, frameN_len, HBL.out]
        omega
      rw [e]
      exact row_less (row_keep ho7 (KeepsOn.below hba fun k hk => (svb k hk).2))) (fun k hk e => by
      have := HX.out.lt k e
      have := (svb k hk).1
      omega) (by omega))
    have HSV := Lib.hid svb
    have HCX := Lib.hid hCX
    have HB8 := Lib.hid hb8
    have HNV := Lib.hid hnv
    rw [hCX] at HFD
    clear ho7 hb7 hba hb8 H8 BC svb hCX hnv
    go_wp2_with fail
    refine HFD.out.mono ?_
    rintro e w9 ⟨rfl, hW9, hU9⟩
    have hfin : Hid (ChangeR w s f d cap D b num fs T size z A c (kind, n, vs) true (.returned .nilIface) w9) := by
      rw [← HCX.out] at hW9 hU9
      have z8 := HB8.out.size
      have z9 := hU9.size
      have zX := HZX.out
      have hbc : chgB (kind, n, vs) = body := HBD.out.symm
      refine ⟨rfl, ?_, ?_⟩
      · unfold chgD chgF
        rw [hbc, HFL.out.symm, HAT.out.1.symm]
        rw [← HBD.out] at hW9
        refine FrzW.wide hW9 (fun k hk => ?_) (grow_lt H.out.lt (by omega))
        rcases hk with (hk | hk) | hk
        · rcases HSX.out k hk with hk | hk
          · exact .inl hk
          · exact .inr ⟨hk.1, by omega⟩
        · exact .inr ⟨by omega, hk.2⟩
        · have := HSV.out k hk
          have hz7 : w7.heap.size ≤ (w7.alloc CX).heap.size := by simp
          exact .inr ⟨by omega, by omega⟩
      · exact (HUX.out.thn HB8.out).thenS hU9 (fun k hk => by
          rcases HSX.out k hk with hk | hk
          · exact .inl hk
          · exact .inr hk.1)
    clear hW9 hU9
    go_wp2_with fail
    go_ret
    exact hfin.out
end Go.Proofs.YtejnfahfjmeabaaGreatDoor
namespace Go.Proofs.YtejnfahfjmeabaaGreatDoor
open Go.RowKit
set_option linter.unusedSimpArgs false
set_option linter.unusedVariables false

set_option maxRecDepth 100000 in
set_option maxHeartbeats 1000000 in
theorem as_nil (t : Value) (w : World) : Calls Tryz.prog 44 #[.nilIface, t] w fun e w' => e = .returned (.bool false) ∧ w' = w := by
  go_enter Tryz.func44, Tryz.ntmps44
  go_wp2_with fail
  go_ret
  exact ⟨rfl, rfl⟩
set_option maxRecDepth 100000 in
set_option maxHeartbeats 1000000 in
theorem dies_nil (s : Blocks) (f d cap : Nat) (D : HdS) (b : Bool) (num : Nat) (fs : FileS) (T : List (List UInt8)) (size : Nat) (z : FzS) (closed : Bool) (A : Option Addr) (c : Nat) (op : ByteArray) (w : World)
    (h : FrzW w s f d cap D b num fs T size z false closed A c) :
    Calls Tryz.prog 40 #[.pointer (some ⟨f, 0, none⟩), .string op, .nilIface] w fun e w' => e = .returned .nilIface ∧ FrzW w' s f d cap D b num fs T size z false closed A c ∧ Upd s s w w' := by
  obtain ⟨sd, iv, q, h⟩ := h
  obtain ⟨AX, hAX⟩ : ∃ AX : Obj, AX = .cells #[.pointer none] 109 := ⟨_, rfl⟩
  have hba : Below w.heap.size w (w.alloc AX) := (Below.refl _ _).alloc (Nat.le_refl _) _
  have h1 := h.below hba
  have c5 : (w.alloc AX).cell? ⟨f, 5, none⟩ = some (.bool false) := h1.blk.cell 5
  have f5 := h1.blk.frozen 5
  have hfin : Hid (FrzW ((w.alloc AX).setCell ⟨f, 5, none⟩ (.bool false)) s f d cap D b num fs T size z false closed A c ∧ Upd s s w ((w.alloc AX).setCell ⟨f, 5, none⟩ (.bool false))) :=
    ⟨⟨sd, iv, q, h1.own ((h1.blk.set_ 5 _).eq_ rfl) (fun k hk => Below.heap_setCell (w.alloc AX) ⟨f, 5, none⟩ _ k hk) (by simp [World.setCell])⟩, (Upd.below hba).setS (.inl h.fin) _⟩
  rw [hAX] at c5 f5 hfin
  clear h h1 hba hAX
  go_enter Tryz.func40, Tryz.ntmps40
  go_wp2_with fail
  refine (as_nil _ _).mono ?_
  rintro e w1 ⟨rfl, rfl⟩
  go_wp2_with fail
  refine (failIn_calls _ _ 0 _ (.inl ⟨rfl, rfl⟩)).mono ?_
  rintro e w2 ⟨v, rfl, hv, hb2⟩
  obtain ⟨_, rfl⟩ | ⟨h0, _⟩ := hv
  rotate_left
  · exact absurd rfl h0
  have hfin2 : Hid (FrzW w2 s f d cap D b num fs T size z false closed A c ∧ Upd s s w w2) := by
    obtain ⟨⟨sd, iv, q, h⟩, hu⟩ := hfin.out
    exact ⟨⟨sd, iv, q, h.below hb2⟩, hu.thn hb2⟩
  clear hb2 hfin
  go_wp2_with fail
  go_ret
  exact ⟨rfl, hfin2.out⟩
set_option maxRecDepth 100000 in
set_option maxHeartbeats 400000 in
theorem short_calls (A : Option Addr) (n c : Nat) (w : World) (h : n ≤ 16384) : Calls Tryz.prog 39 #[.slice A n c] w fun e w' => e = .returned (.bool false) ∧ w' = w := by
  have hI : ¬ (16384 : Int) < (n : Int) := by omega
  have hD : decide ((16384 : Int) < (n : Int)) = false := by rw [decide_eq_false_iff_not]; exact hI
  have hN : decide (16384 < n) = false := by rw [decide_eq_false_iff_not]; omega
  go_enter Tryz.func39, Tryz.ntmps39
  go_wp2_with fail
  go_ret
  exact ⟨rfl, rfl⟩
set_option maxRecDepth 100000 in
set_option maxHeartbeats 1000000 in
theorem index64_calls (A : Option Addr) (N c : Nat) (vs : List (List UInt8)) (w : World) (h : RdM w A N c vs) (hs : ∀ v ∈ vs, v.length ≤ 16384) :
    Calls Tryz.prog 64 #[.slice A N c, .func (.func 39) #[] #[]] w fun e w' => e = .returned (.int .i64 (-1)) ∧ w' = w := by
  have hm : N ≤ 9223372036854775807 := by have := h.2.1; have := h.2.2.1; unfold maxLen at this; omega
  have H := Lib.hid h
  have HS := Lib.hid hs
  clear h hs
  go_enter Tryz.func64, Tryz.ntmps64
  go_wp2_with fail
  go_loopw [8] (fun i wr => ∃ k : Nat, k ≤ N ∧ i = .int .i64 k ∧ wr = w) (fun i _ => N - (intOf i).toNat)
  case atStart => exact ⟨0, by omega, rfl, rfl⟩
  case round =>
    obtain ⟨k, hk, rfl, hwr⟩ := hrel
    rw [hwr]
    clear hwr
    by_cases hlt : k < N
    · obtain ⟨ad, B, m, d, rfl, hg, hcell, hrd⟩ := H.out.at_ hlt
      have hkI : (0 : Int) ≤ (k : Int) ∧ (k : Int) < (N : Int) := by omega
      have hml : m ≤ 16384 := by rw [← hrd.1]; exact HS.out _ (List.mem_of_getElem? hg)
      clear hg hrd
      go_wp2_with fail
      refine (short_calls B m d w hml).mono ?_
      rintro e w1 ⟨rfl, rfl⟩
      go_wp2_with fail
      go_roundw
      case rel => exact ⟨k + 1, by omega, by go_num, trivial⟩
      case measure => simp [intOf]; omega
    · obtain rfl : k = N := by omega
      go_wp2_with fail
      go_ret
      exact ⟨rfl, rfl⟩
end Go.Proofs.YtejnfahfjmeabaaGreatDoor
namespace Go.Proofs.YtejnfahfjmeabaaGreatDoor
open Go.RowKit
set_option linter.unusedSimpArgs false
set_option linter.unusedVariables false

set_option maxRecDepth 100000 in
set_option maxHeartbeats 1000000 in
theorem contains38_calls (A : Option Addr) (N c : Nat) (vs : List (List UInt8)) (w : World) (h : RdM w A N c vs) (hs : ∀ v ∈ vs, v.length ≤ 16384) :
    Calls Tryz.prog 38 #[.slice A N c, .func (.func 39) #[] #[]] w fun e w' => e = .returned (.bool false) ∧ w' = w := by
  have HI := Lib.hid (index64_calls A N c vs w h hs)
  clear h hs
  go_enter Tryz.func38, Tryz.ntmps38
  go_wp2_with fail
  refine HI.out.mono ?_
  rintro e w1 ⟨rfl, rfl⟩
  go_wp2_with fail
  go_ret
  exact ⟨rfl, rfl⟩
/-- a freezer that stands, somewhere -/
def FrzA (w : World) (s : Blocks) (f d cap : Nat) (D : HdS) (b : Bool) (num : Nat) (fs : FileS) (T : List (List UInt8)) (size : Nat) (z : FzS) : Prop := ∃ A c, FrzW w s f d cap D b num fs T size z false false A c
def ChgA (w : World) (s : Blocks) (f d cap : Nat) (D : HdS) (b : Bool) (num : Nat) (fs : FileS) (T : List (List UInt8)) (size : Nat) (z : FzS) (ch : Chg) (syn : Bool) (e : Ending) (w' : World) : Prop :=
  e = .returned .nilIface ∧ FrzA w' (grow s w w') f d cap (chgD D syn) b num (chgF fs (frameN (chgB ch)) syn) T (size + (frameN (chgB ch)).length) (stepC (bodyAt size (chgB ch)) z ch) ∧ Upd s s w w'
set_option maxRecDepth 100000 in
set_option maxHeartbeats 1000000 in
theorem Append_calls (s : Blocks) (f d cap : Nat) (D : HdS) (b : Bool) (num : Nat) (fs : FileS) (T : List (List UInt8)) (size : Nat) (z : FzS) (V : Option Addr) (N cv : Nat) (vs : List (List UInt8)) (w : World)
    (h : FrzA w s f d cap D b num fs T size z) (hC : Calm D) (hf : D.files ≤ 1048576) (hc : D.count ≤ 4611686018427370000) (hT : T.length ≤ 8) (hv : RdM w V N cv vs) (hN : vs.length = T.length) (hvs : ∀ v ∈ vs, v.length ≤ 16384) (hh : z.head ≤ 1000000)
    (hbl : (bodyL 0 z.head vs).length ≤ 1048576) (hfit : fs.bytes.length + (frameN (bodyL 0 z.head vs)).length ≤ cap) (hcm : cap ≤ 67108864) (hpl : fs.pend.length ≤ 1000000) (hsz : size ≤ 67108864) :
    Calls Tryz.prog 10 #[.pointer (some ⟨f, 0, none⟩), .int .i64 (z.head : Int), .slice V N cv] w (ChgA w s f d cap D b num fs T size z (0, z.head, vs) false) := by
  obtain ⟨A, c, sd, iv, q, h⟩ := h
  obtain ⟨Ai, ci, hiv, hic, hcm2⟩ := h.items.slice
  subst hiv
  have HSL := Lib.hid h.lt
  have HAL := Lib.hid (alive_ok f d z.tail size (.slice A T.length c) (.slice Ai z.items.length ci) ⟨#[97, 112, 112, 101, 110, 100]⟩ w h.blk)
  have HCO := Lib.hid (contains38_calls V N cv vs w hv hvs)
  have HHD : Hid (Calls Tryz.prog 14 #[.pointer (some ⟨f, 0, none⟩)] w fun e w' => e = .returned (.int .i64 (z.head : Int)) ∧ ∃ q, w' = w.drewN q) := head_n f d z.tail z.items.length ci size _ Ai false false w h.blk (by unfold FzS.head at hh; omega)
  have HCH : Hid (∀ n, Calls Tryz.prog 41 #[.pointer (some ⟨f, 0, none⟩), .int .i64 0, .int .i64 (z.head : Int), .slice V N cv, .bool false] (w.drewN n) (ChangeR (w.drewN n) s f d cap D b num fs T size z A c (0, z.head, vs) false)) := fun n => by
    have hbn : Below w.heap.size w (w.drewN n) := ⟨rfl, rfl, rfl, Nat.le_refl _, fun _ _ => rfl⟩
    exact change_calls s f d cap D b num fs T size z sd A c _ q V N cv 0 z.head vs false (w.drewN n) (h.below hbn) hC hf hc (.inl ⟨rfl, rfl, hN⟩) hT (hv.below hbn) hh hbl hfit hcm hpl hsz
  have c1 : w.cell? ⟨f, 1, none⟩ = some (.slice A T.length c) := h.blk.cell 1
  have HNN : Hid (N = T.length) := by rw [← hN]; exact hv.1.symm
  obtain ⟨tn, htn⟩ : ∃ tn, tn = T.length := ⟨_, rfl⟩
  have HTN := Lib.hid htn
  have hNt : N = tn := by rw [htn]; exact HNN.out
  rw [← htn] at c1
  subst hNt
  obtain ⟨hv', hhv⟩ : ∃ hv', hv' = z.head := ⟨_, rfl⟩
  have HHV := Lib.hid hhv
  rw [← hhv] at HHD HCH ⊢
  clear h hC hf hc hT hv hN hvs hbl hfit hh hhv htn
  go_enter Tryz.func10, Tryz.ntmps10
  go_wp2_with fail
  refine HAL.out.mono ?_
  rintro e w1 ⟨rfl, rfl⟩
  go_wp2_with fail
  refine HCO.out.mono ?_
  rintro e w1 ⟨rfl, rfl⟩
  go_wp2_with fail
  refine HHD.out.mono ?_
  rintro e w2 ⟨rfl, q2, rfl⟩
  go_wp2_with fail
  refine (HCH.out q2).mono ?_
  rintro e w3 ⟨rfl, hW3, hU3⟩
  have HD3 := Lib.hid (dies_nil _ f d cap _ b num _ T _ _ false A c ⟨#[97, 112, 112, 101, 110, 100]⟩ w3 hW3)
  have HU3 := Lib.hid hU3
  clear hW3 hU3
  go_wp2_with fail
  refine HD3.out.mono ?_
  rintro e w4 ⟨rfl, hW4, hU4⟩
  have hfin : Hid (ChgA w1 s f d cap D b num fs T size z (0, hv', vs) false (.returned .nilIface) w4) := by
    have z3 := HU3.out.size
    have z4 := hU4.size
    have zz : (w1.drewN q2).heap.size = w1.heap.size := rfl
    have hsl : ∀ k, s k → k < w1.heap.size := HSL.out
    refine ⟨rfl, ⟨A, c, hW4.wide (fun k hk => ?_) (grow_lt hsl (by omega))⟩, ?_⟩
    · rcases hk with hk | hk
      · exact .inl hk
      · exact .inr ⟨by omega, by omega⟩
    · have U3 : Upd s s w1 w3 := ⟨HU3.out.os, HU3.out.tape, HU3.out.output, HU3.out.size, HU3.out.block, fun _ h => .inl h⟩
      exact U3.thenS hU4 (fun k hk => by
        rcases hk with hk | hk
        · exact .inl hk
        · exact .inr (by omega))
  clear hW4 hU4
  go_wp2_with fail
  go_ret
  exact hfin.out
end Go.Proofs.YtejnfahfjmeabaaGreatDoor
