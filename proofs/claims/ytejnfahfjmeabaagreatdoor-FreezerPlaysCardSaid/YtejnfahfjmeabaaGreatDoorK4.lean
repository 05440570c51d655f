/- the texts M23, M24, M25, M26, M27, M28, M29, M30, M31 of this proof, one behind the other -/
import Derived.Test.YtejnfahfjmeabaaGreatDoorK3
import Derived.WideMake
import Derived.Shelf.SlMaps.Clone
import Derived.LaidEql
import Derived.Stop.Asserts
import Derived.RowKitTokens
set_option linter.unusedSimpArgs false
set_option linter.unusedVariables false
namespace Go.Proofs.YtejnfahfjmeabaaGreatDoor
open Go.RowKit
set_option linter.unusedSimpArgs false
set_option linter.unusedVariables false

def FileS.app (f : FileS) (ys : List UInt8) : FileS := ⟨f.bytes ++ ys, f.sure, f.pend ++ [.wr f.bytes.length ys]⟩
theorem HdS.begins_E {D : HdS} : D.begins.files = D.files := rfl
set_option maxRecDepth 100000 in
set_option maxHeartbeats 1000000 in
theorem dAppend_calls (d cap : Nat) (D : HdS) (b : Bool) (num : Nat) (fs : FileS) (s : Blocks) (A : Option Addr) (m c : Nat) (ys : List UInt8) (w : World) (h : DiskF w s d cap D b num fs) (hF : D.Fit)
    (hr : RdB w A m c ys) (hA : ∀ ad, A = some ad → ¬ s ad.block) (h0 : 0 < m) (hfit : fs.bytes.length + m ≤ cap) (hc : cap ≤ 67108864) (hpl : fs.pend.length ≤ 1000000000) :
    Calls Tryz.prog 67 #[.pointer (some ⟨d, 0, none⟩), .string (str fName), .slice A m c] w (FileOp w s d cap D b num fs (fs.app ys)) := by
  obtain ⟨nm, sm, pv, f, sf, h⟩ := h
  have hc := Lib.hid (changing_calls d cap nm sm pv D (some f) w h.blk hF h.nms)
  have H := Lib.hid h
  have HRD := Lib.hid hr
  have HA := Lib.hid hA
  by_cases h0 : D.beginsE = 0
  · have HE := Lib.hid h0
    unfold ChgR at hc
    rw [(chgP_0 h0).1, (chgP_0 h0).2] at hc
    have hn0 : ((namedE (some f) : Nat) : Int) = 0 := rfl
    have hp0 : ptrOf (some f) = .pointer (some ⟨f, 0, none⟩) := rfl
    rw [hn0, hp0] at hc
    clear h h0 hn0 hp0 hA
    generalize str fName = nmS at *
    go_enter Tryz.func67, Tryz.ntmps67
    go_wp2_with fail
    refine hc.out.mono ?_
    rintro e w1 ⟨rfl, hB, hU⟩
    have H1 := Lib.hid (H.out.begun hB hU)
    have HU := Lib.hid hU
    have HR1 : Hid (RdB w1 A m c ys) := by
      obtain ⟨r1, r2, r3, r4⟩ := HRD.out
      refine ⟨r1, r2, r3, fun hn => ?_⟩
      obtain ⟨ad, e1, hc1⟩ := r4 hn
      refine ⟨ad, e1, fun j u hu => ?_⟩
      have hb : (ad.add j).block = ad.block := by unfold Addr.add; split <;> rfl
      have h1 := hc1 j u hu
      have hlt := World.block_lt_of_cell? w _ h1
      rw [hb] at hlt
      have hnd : ad.block ≠ d := fun e => HA.out ad e1 (e ▸ H.out.ind)
      exact (World.cell?_of_block (w := w) (w' := w1) (a := ad.add j) (by rw [hb]; exact hU.block ad.block hlt hnd)).trans h1
    obtain ⟨bv, sv, pvf, vals, t, hFP⟩ := H1.out.file
    obtain ⟨Ab, cb, hbv⟩ := row_slice hFP.bytes
    have c1 : w1.cell? ⟨f, 1, none⟩ = some bv := hFP.blk.cell 1
    rw [hbv] at c1
    have HW := Lib.hid (write_calls d cap nm sm pv D.begins f num fs sf A m c ys w1 H1.out.blk H1.out.nms H1.out.file HR1.out (by omega) hfit (by omega) hpl)
    clear hB hU hFP hbv hr
    go_wp2_with fail
    refine HW.out.mono ?_
    rintro e w2 ⟨rfl, hf2, hu2⟩
    have HR : Hid (FileOp w s d cap D b num fs (fs.app ys) (.returned (.int .i64 0)) w2) := by
      refine ⟨by rw [HE.out]; rfl, ?_, (HU.out.oneS H.out.ind).thenS hu2 (fun k hk => .inl (H.out.sub k hk))⟩
      rw [if_pos HE.out]
      exact H1.out.filed HU.out.size hf2 hu2
    clear hf2 hu2
    go_wp2_with fail
    go_ret
    exact HR.out
  · have HE := Lib.hid h0
    unfold ChgR at hc
    rw [(chgP_1 h0).1, (chgP_1 h0).2] at hc
    have hq : ((D.beginsE : Int) != 0) = true := by rw [bne_iff_ne]; omega
    have hq2 : ¬ (D.beginsE : Int) = 0 := by omega
    clear h h0 hr hA
    generalize str fName = nmS at *
    go_enter Tryz.func67, Tryz.ntmps67
    go_wp2_with fail
    refine hc.out.mono ?_
    rintro e w1 ⟨rfl, hB, hU⟩
    go_wp2_with fail
    go_ret
    refine ⟨rfl, ?_, hU.oneS H.out.ind⟩
    rw [if_neg HE.out]
    exact (H.out.begun hB hU).wide hU.size
/-- bytes that are told, and a number -/
def ReadR (w : World) (xs : List UInt8) (e : Ending) (w' : World) : Prop :=
  ∃ v, e = .returned (.tuple #[v, .int .i64 0]) ∧ OwnB w' w.heap.size v xs ∧ Below w.heap.size w w'
theorem DiskF.below {w w1 : World} {s : Blocks} {d cap : Nat} {D : HdS} {b : Bool} {num : Nat} {fs : FileS} (h : DiskF w s d cap D b num fs) (hb : Below w.heap.size w w1) : DiskF w1 s d cap D b num fs := by
  obtain ⟨nm, sm, pv, f, sf, h⟩ := h
  exact ⟨nm, sm, pv, f, sf, h.blk.below hb h.blk.lt, h.nms.below hb, h.sms.below hb, h.ne, h.file.below hb, h.sub, h.nd, h.nnm, h.nsm, h.pvm.keeps (fun k hk => hb.block k (pv_lt h.pvm k hk)) (fun _ h => h) (fun _ _ h => h), h.ind, h.inm, h.ism, fun k hk => Nat.lt_of_lt_of_le (h.lt k hk) hb.size⟩
set_option maxRecDepth 100000 in
set_option maxHeartbeats 1000000 in
theorem dRead_calls (d cap : Nat) (D : HdS) (b : Bool) (num : Nat) (fs : FileS) (s : Blocks) (w : World) (h : DiskF w s d cap D b num fs) (hd : D.down = false) (hl : fs.bytes.length ≤ 140737488355328) :
    Calls Tryz.prog 53 #[.pointer (some ⟨d, 0, none⟩), .string (str fName)] w (ReadR w fs.bytes) := by
  obtain ⟨nm, sm, pv, f, sf, h⟩ := h
  have hc := Lib.hid (asked_calls d cap nm sm pv D (some f) w h.blk h.nms)
  rw [if_neg (by rw [hd]; simp), if_neg (by rw [hd]; simp)] at hc
  have hn0 : ((namedE (some f) : Nat) : Int) = 0 := rfl
  have hp0 : ptrOf (some f) = .pointer (some ⟨f, 0, none⟩) := rfl
  rw [hn0, hp0] at hc
  have H := Lib.hid h
  clear h hn0 hp0 hd
  generalize str fName = nmS at *
  go_enter Tryz.func53, Tryz.ntmps53
  go_wp2_with fail
  refine hc.out.mono ?_
  rintro e w1 ⟨rfl, hb1⟩
  have hF1 := H.out.file.below hb1
  obtain ⟨bv, sv, pvf, vals, t, hFP⟩ := hF1
  obtain ⟨Ab, cb, hbv, hrb⟩ := hFP.bytes.reads
  have c1 : w1.cell? ⟨f, 1, none⟩ = some bv := hFP.blk.cell 1
  rw [hbv] at c1
  have HC := Lib.hid (Clone_calls Ab fs.bytes.length cb fs.bytes w1 hrb hl)
  have HB1 := Lib.hid hb1
  clear hFP hbv hrb hb1
  go_wp2_with fail
  refine HC.out.mono ?_
  intro e w2 hnb
  obtain ⟨v, rfl, ho, hb2⟩ := hnb
  have HR : Hid (ReadR w fs.bytes (.returned (.tuple #[v, .int .i64 0])) w2) := ⟨v, rfl, ho.more HB1.out.size, thn HB1.out hb2⟩
  clear ho hb2
  go_wp2_with fail
  go_ret2
  exact HR.out
end Go.Proofs.YtejnfahfjmeabaaGreatDoor
namespace Go.Proofs.YtejnfahfjmeabaaGreatDoor
open Go.RowKit
set_option linter.unusedSimpArgs false
set_option linter.unusedVariables false

set_option maxRecDepth 100000 in
set_option maxHeartbeats 1000000 in
theorem dTrunc_same (d cap : Nat) (D : HdS) (b : Bool) (num : Nat) (fs : FileS) (s : Blocks) (w : World) (h : DiskF w s d cap D b num fs) (hF : D.Fit) :
    Calls Tryz.prog 62 #[.pointer (some ⟨d, 0, none⟩), .string (str fName), .int .i64 (fs.bytes.length : Int)] w (FileOp w s d cap D b num fs fs) := by
  obtain ⟨nm, sm, pv, f, sf, h⟩ := h
  have hc := Lib.hid (changing_calls d cap nm sm pv D (some f) w h.blk hF h.nms)
  have H := Lib.hid h
  by_cases h0 : D.beginsE = 0
  · have HE := Lib.hid h0
    unfold ChgR at hc
    rw [(chgP_0 h0).1, (chgP_0 h0).2] at hc
    have hn0 : ((namedE (some f) : Nat) : Int) = 0 := rfl
    have hp0 : ptrOf (some f) = .pointer (some ⟨f, 0, none⟩) := rfl
    rw [hn0, hp0] at hc
    obtain ⟨n, hn⟩ : ∃ n : Nat, n = fs.bytes.length := ⟨_, rfl⟩
    have HN := Lib.hid hn
    rw [← hn]
    have hI : ¬ (n : Int) < 0 := by omega
    clear h h0 hn0 hp0 hn
    generalize str fName = nmS at *
    go_enter Tryz.func62, Tryz.ntmps62
    go_wp2_with fail
    refine hc.out.mono ?_
    rintro e w1 ⟨rfl, hB, hU⟩
    have H1 := Lib.hid (H.out.begun hB hU)
    obtain ⟨bv, sv, pvf, vals, t, hFP⟩ := H1.out.file
    obtain ⟨Ab, cb, hbv⟩ := row_slice hFP.bytes
    have c1 : w1.cell? ⟨f, 1, none⟩ = some bv := hFP.blk.cell 1
    rw [hbv, ← HN.out] at c1
    have HR : Hid (FileOp w s d cap D b num fs fs (.returned (.int .i64 0)) w1) := by
      refine ⟨by rw [HE.out]; rfl, ?_, hU.oneS H.out.ind⟩
      rw [if_pos HE.out]
      exact H1.out.wide hU.size
    clear hFP hbv hB hU
    go_wp2_with fail
    go_ret
    exact HR.out
  · have HE := Lib.hid h0
    unfold ChgR at hc
    rw [(chgP_1 h0).1, (chgP_1 h0).2] at hc
    have hq : ((D.beginsE : Int) != 0) = true := by rw [bne_iff_ne]; omega
    have hq2 : ¬ (D.beginsE : Int) = 0 := by omega
    clear h h0
    generalize str fName = nmS at *
    go_enter Tryz.func62, Tryz.ntmps62
    go_wp2_with fail
    refine hc.out.mono ?_
    rintro e w1 ⟨rfl, hB, hU⟩
    go_wp2_with fail
    go_ret
    refine ⟨rfl, ?_, hU.oneS H.out.ind⟩
    rw [if_neg HE.out]
    exact (H.out.begun hB hU).wide hU.size
theorem DiskN.below {w w1 : World} {s : Blocks} {d cap : Nat} {D : HdS} (h : DiskN w s d cap D) (hb : Below w.heap.size w w1) : DiskN w1 s d cap D := by
  obtain ⟨nm, sm, h⟩ := h
  exact ⟨nm, sm, h.blk.below hb h.blk.lt, h.nms.below hb, h.sms.below hb, h.ne, h.ind, h.inm, h.ism, fun k hk => Nat.lt_of_lt_of_le (h.lt k hk) hb.size⟩
set_option maxRecDepth 100000 in
set_option maxHeartbeats 1000000 in
theorem dRead_none (d cap : Nat) (D : HdS) (s : Blocks) (w : World) (h : DiskN w s d cap D) (hd : D.down = false) :
    Calls Tryz.prog 53 #[.pointer (some ⟨d, 0, none⟩), .string (str fName)] w fun e w' => e = .returned (.tuple #[.slice none 0 0, .int .i64 13]) ∧ Below w.heap.size w w' := by
  obtain ⟨nm, sm, h⟩ := h
  have hc := Lib.hid (asked_calls d cap nm sm _ D none w h.blk h.nms)
  rw [if_neg (by rw [hd]; simp), if_neg (by rw [hd]; simp)] at hc
  have hn0 : ((namedE none : Nat) : Int) = 13 := rfl
  have hp0 : ptrOf none = .pointer none := rfl
  rw [hn0, hp0] at hc
  clear h hn0 hp0 hd
  generalize str fName = nmS at *
  go_enter Tryz.func53, Tryz.ntmps53
  go_wp2_with fail
  refine hc.out.mono ?_
  rintro e w1 ⟨rfl, hb1⟩
  go_wp2_with fail
  go_ret2
  exact ⟨rfl, hb1⟩
set_option maxRecDepth 100000 in
set_option maxHeartbeats 1000000 in
theorem dReadAt_calls (d cap : Nat) (D : HdS) (b : Bool) (num : Nat) (fs : FileS) (s : Blocks) (p n : Nat) (w : World) (h : DiskF w s d cap D b num fs) (hd : D.down = false) (hp : p + n ≤ fs.bytes.length) (hl : fs.bytes.length ≤ 140737488355328) :
    Calls Tryz.prog 43 #[.pointer (some ⟨d, 0, none⟩), .string (str fName), .int .i64 (p : Int), .int .i64 (n : Int)] w (ReadR w ((fs.bytes.drop p).take n)) := by
  obtain ⟨nm, sm, pv, f, sf, h⟩ := h
  have hc := Lib.hid (asked_calls d cap nm sm pv D (some f) w h.blk h.nms)
  rw [if_neg (by rw [hd]; simp), if_neg (by rw [hd]; simp)] at hc
  have hn0 : ((namedE (some f) : Nat) : Int) = 0 := rfl
  have hp0 : ptrOf (some f) = .pointer (some ⟨f, 0, none⟩) := rfl
  rw [hn0, hp0] at hc
  have H := Lib.hid h
  obtain ⟨l, hl0⟩ : ∃ l : Nat, l = fs.bytes.length := ⟨_, rfl⟩
  have HL := Lib.hid hl0
  rw [← hl0] at hp hl
  have q1 : ¬ (p : Int) < 0 := by omega
  have q2 : ¬ (n : Int) < 0 := by omega
  have q3 : ¬ (l : Int) < (p : Int) := by omega
  have q4 : wrap64 ((l : Int) - (p : Int)) = (l : Int) - (p : Int) := by unfold wrap64; omega
  have q5 : ¬ (l : Int) - (p : Int) < (n : Int) := by omega
  have q6 : wrap64 ((p : Int) + (n : Int)) = ((p + n : Nat) : Int) := by unfold wrap64; omega
  clear h hn0 hp0 hd hl0
  generalize str fName = nmS at *
  go_enter Tryz.func43, Tryz.ntmps43
  go_wp2_with fail
  refine hc.out.mono ?_
  rintro e w1 ⟨rfl, hb1⟩
  have hF1 := H.out.file.below hb1
  obtain ⟨bv, sv, pvf, vals, t, hFP⟩ := hF1
  obtain ⟨Ab, cb, hbv, hrb⟩ := hFP.bytes.reads
  have c1 : w1.cell? ⟨f, 1, none⟩ = some bv := hFP.blk.cell 1
  rw [hbv] at c1
  have hsub := (hrb.sub p (by rw [← HL.out]; omega)).pre n (by rw [← HL.out]; omega)
  have hlc : l ≤ cb := by rw [HL.out]; exact hrb.2.1
  rw [← HL.out] at c1
  have HC : Hid (∀ B q, B = subA Ab p cb → q = cb - p → Calls Tryz.prog 69 #[.slice B n q] w1 (NewB w1 ((fs.bytes.drop p).take n))) := fun B q hB hq => by
    subst hB hq
    exact Clone_calls _ n _ _ w1 hsub (by omega)
  have HB1 := Lib.hid hb1
  clear hFP hbv hrb hb1 hsub
  have hsa : ∀ e w2, NewB w1 ((fs.bytes.drop p).take n) e w2 → ∃ v, e = .returned v ∧ ReadR w ((fs.bytes.drop p).take n) (.returned (.tuple #[v, .int .i64 0])) w2 := fun e w2 hnb => by
    obtain ⟨v, rfl, ho, hb2⟩ := hnb
    exact ⟨v, rfl, v, rfl, ho.more HB1.out.size, thn HB1.out hb2⟩
  have HSA := Lib.hid hsa
  clear hsa
  by_cases hcp : cb = p
  · subst hcp
    have HX := Lib.hid (show Ab = subA Ab cb cb by unfold subA; rw [if_pos rfl])
    go_wp2_with fail
    refine (HC.out _ _ HX.out (by omega)).mono ?_
    intro e w2 hnb
    obtain ⟨v, rfl, hR⟩ := HSA.out e w2 hnb
    have HR := Lib.hid hR
    clear hnb hR
    go_wp2_with fail
    go_ret2
    exact HR.out
  · have HX := Lib.hid (show Ab.map (fun x => x.add p) = subA Ab p cb by unfold subA; rw [if_neg hcp])
    go_wp2_with fail
    refine (HC.out _ _ HX.out rfl).mono ?_
    intro e w2 hnb
    obtain ⟨v, rfl, hR⟩ := HSA.out e w2 hnb
    have HR := Lib.hid hR
    clear hnb hR
    go_wp2_with fail
    go_ret2
    exact HR.out
end Go.Proofs.YtejnfahfjmeabaaGreatDoor
namespace Go.Proofs.YtejnfahfjmeabaaGreatDoor
open Go.RowKit
set_option linter.unusedSimpArgs false
set_option linter.unusedVariables false

theorem map_put (w : World) (b f : Nat) (h : MapAt w b none) : ∃ w', (Instr.mapUpdate 72 (.map (some b)) (.string (str fName)) (.pointer (some ⟨f, 0, none⟩))).run Tryz.prog w = .ok () w' ∧ MapAt w' b (some f) ∧ Upd (one b) (one b) w w' := by
  obtain ⟨born, clock, hb, _⟩ := h
  have hr := run_mapUpdate_first (P := Tryz.prog) w 72 9 99 b clock (str fName) (.pointer (some ⟨f, 0, none⟩)) Tryz.underlying72 Tryz.underlying9 hb
  have hs := MapKept.heap_set (o' := .map #[{ key := .string (str fName), val := .pointer (some ⟨f, 0, none⟩), born := clock }] (clock + 1)) hb
  exact ⟨_, hr, ⟨clock, clock + 1, hs.1, .inr (by omega)⟩, ⟨rfl, rfl, rfl, by simp, fun k _ hk => hs.2 k hk, fun _ h => .inl h⟩⟩
def OnR (w : World) (nm f : Nat) (e : Ending) (w' : World) : Prop := e = .returned (.tuple #[]) ∧ MapAt w' nm (some f) ∧ Upd (one nm) (one nm) w w'
set_option maxRecDepth 100000 in
set_option maxHeartbeats 1000000 in
theorem on_calls (nm f : Nat) (w : World) (h : MapAt w nm none) : Calls Tryz.prog 166 #[.agg #[.string (str fName), .pointer (some ⟨f, 0, none⟩)], .map (some nm)] w (OnR w nm f) := by
  have h1 : ∀ o, MapAt (w.alloc o) nm none := fun o => h.below ((Below.refl _ _).alloc (Nat.le_refl _) o)
  obtain ⟨w2, hr, hm, hu⟩ := map_put (w.alloc (.cells #[.string (str fName), .pointer (some ⟨f, 0, none⟩)] 159)) nm f (h1 _)
  have HM := Lib.hid hm
  have HU := Lib.hid (show Upd (one nm) (one nm) w w2 from (Upd.below ((Below.refl _ w).alloc (Nat.le_refl _) _)).trans hu)
  clear h h1 hm hu
  generalize str fName = nmS at *
  go_enter Tryz.func166, Tryz.ntmps166
  go_wp2_with fail
  (try simp only [Exit.inBlock, Exit.then]); refine bodyPost_ret (results_none rfl _ _ _) rfl ?_
  exact ⟨rfl, HM.out, HU.out⟩
def DoesR (w : World) (s : Blocks) (d cap : Nat) (D : HdS) (nm sm f : Nat) (e : Ending) (w' : World) : Prop :=
  e = .returned (.tuple #[]) ∧ ∃ pv, Blk w' d 75 (dk cap nm sm pv D) ∧ MapAt w' nm (some f) ∧ w'.ownsRow 0 101 1 pv 1 [.iface 159 (.agg #[.string (str fName), .pointer (some ⟨f, 0, none⟩)])] ∧
    (∀ k, ownS pv k → w.heap.size ≤ k) ∧ Upd s s w w'
set_option maxRecDepth 100000 in
set_option maxHeartbeats 1000000 in
theorem does_calls (d cap nm sm f : Nat) (D : HdS) (s : Blocks) (w : World) (h : Blk w d 75 (dk cap nm sm (.slice none 0 0) D)) (hm : MapAt w nm none) (hsd : s d) (hsn : s nm) :
    Calls Tryz.prog 86 #[.pointer (some ⟨d, 0, none⟩), .iface 159 (.agg #[.string (str fName), .pointer (some ⟨f, 0, none⟩)])] w (DoesR w s d cap D nm sm f) := by
  have c1 := (dk_cells h).2.1
  have HON := Lib.hid (on_calls nm f w.drew hm)
  have H := Lib.hid h
  have HM := Lib.hid hm
  have hdn := map_ne hm h
  have HCD : Hid (∀ w1, Upd (one nm) (one nm) w.drew w1 → w1.cell? ⟨d, 1, none⟩ = some (.map (some nm))) := fun w1 hu => (World.cell?_of_block (w := w) (w' := w1) (a := ⟨d, 1, none⟩) (hu.block d h.lt (fun e => hdn e.symm))).trans c1
  have HDN := Lib.hid hdn
  have hmf : ∀ (fn : Fn) (first cap : Array Value) (W : World), (Instr.makeFunc fn first cap).run Tryz.prog W = .ok (.func fn first cap) W := fun fn first cap W => rfl
  clear h hm hdn
  have hna : ∀ (u : Value) (W : World), (nilAhead 357 159 (.agg #[u, .pointer (some ⟨f, 0, none⟩)]) "moraine/disk.on").run Tryz.prog W = .ok (some false) W := fun u W => by kernel_rfl
  have hme : ∀ (u : Value) (W : World), (method 357 159 (.agg #[u, .pointer (some ⟨f, 0, none⟩)]) "moraine/disk.on").run Tryz.prog W = .ok (166, .agg #[u, .pointer (some ⟨f, 0, none⟩)]) W := fun u W => by kernel_rfl
  generalize hnS : str fName = nmS at *
  go_enter Tryz.func86, Tryz.ntmps86
  go_wp2_with fail
  go_region_held3 (fun W => W.cell? ⟨d, 1, none⟩ = some (.map (some nm))) (first | exact c1 | exact hcd) (first | (go_at_call 166; refine HON.out.mono ?_; rintro e w1 ⟨rfl, hm1, hu1⟩; have hcd := HCD.out w1 hu1))
  have B1 : Blk w1 d 75 (dk cap nm sm (.slice none 0 0) D) := (hu1.block d H.out.lt (fun e => HDN.out e.symm)).trans H.out
  obtain ⟨pv2, w2, hrun, r2, g2, b2⟩ := append_one 73 101 16 .nilIface Tryz.underlying73 Tryz.info101 rfl (by decide) w1 (.slice none 0 0) 0 [] (.iface 159 (.agg #[.string nmS, .pointer (some ⟨f, 0, none⟩)])) (World.ownsRow_nil _ _ _ _) (by omega) rfl
  have d3 : w1.cell? ⟨d, 3, none⟩ = some (.slice none 0 0) := B1.cell 3
  obtain ⟨A2, c2, hpv⟩ := row_slice r2
  subst hpv
  have hba : Below w1.heap.size w1 (w1.alloc (.cells #[.iface 159 (.agg #[.string nmS, .pointer (some ⟨f, 0, none⟩)])] 101)) := (Below.refl _ _).alloc (Nat.le_refl _) _
  have g12 : ∀ k, k < w1.heap.size → w2.heap[k]? = w1.heap[k]? := fun k hk => (g2.block k (by simp; omega) (fun e => by cases e)).trans (hba.block k hk)
  have B2 : Blk w2 d 75 (dk cap nm sm (.slice none 0 0) D) := (g12 d B1.lt).trans B1
  have hz2 : w1.heap.size ≤ w2.heap.size := Nat.le_trans hba.size g2.size
  have hz1 : w.heap.size ≤ w1.heap.size := hu1.size
  have hfin : Hid (DoesR w s d cap D nm sm f (.returned (.tuple #[])) (w2.setCell ⟨d, 3, none⟩ (.slice A2 (0 + 1) c2))) := by
    refine ⟨rfl, .slice A2 (0 + 1) c2, (B2.set_ 3 _).eq_ rfl, ?_, ?_, ?_, ?_⟩
    · obtain ⟨x, y, hmm, hm2⟩ := hm1
      have hlt := (Array.getElem?_eq_some_iff.1 hmm).1
      exact ⟨x, y, (Below.heap_setCell w2 ⟨d, 3, none⟩ _ nm (fun e => HDN.out e)).trans ((g12 nm hlt).trans hmm), hm2⟩
    · rw [hnS]
      exact row_keep r2 (fun k hk => Below.heap_setCell w2 ⟨d, 3, none⟩ _ k (fun e => row_type r2 B2 (by decide) ((show k = d from e) ▸ hk.symm)))
    · intro k hk
      rcases b2 k hk with e | e
      · cases e
      · omega
    · have h1 : Upd s s w w1 := ((Upd.refl s w).thenS (w1 := w) (hu1.pre (w := w) ((Below.refl _ w).drew)) (fun k hk => by cases hk; exact .inl hsn))
      exact ((h1.thn hba).grownS g2 (fun k e => by cases e)).setS (.inl hsd) _
  have f3 := B2.frozen 3
  have e3 : w2.cell? ⟨d, 3, none⟩ = some (.slice none 0 0) := B2.cell 3
  clear hm1 hu1 B1 r2 g2 b2 g12 hba B2 hz1 hz2 hcd hnS c1
  go_wp2_with (at_builtin; refine Lib.wpList_append_run _ rfl _ _ _ _ rfl _ _ rfl rfl _ _ hrun ?_)
  (try simp only [Exit.inBlock, Exit.then]); refine bodyPost_ret (results_none rfl _ _ _) rfl ?_
  exact hfin.out
end Go.Proofs.YtejnfahfjmeabaaGreatDoor
namespace Go.Proofs.YtejnfahfjmeabaaGreatDoor
open Go.RowKit
set_option linter.unusedSimpArgs false
set_option linter.unusedVariables false

def CreateR (w : World) (s : Blocks) (d cap : Nat) (D : HdS) (e : Ending) (w' : World) : Prop :=
  e = .returned (.int .i64 0) ∧ DiskF w' (grow s w w') d cap { D.begins with files := D.files + 1 } false D.files ⟨[], [], []⟩ ∧ Upd s s w w'
set_option maxRecDepth 100000 in
set_option maxHeartbeats 1000000 in
theorem dCreate_calls (d cap : Nat) (D : HdS) (s : Blocks) (w : World) (h : DiskN w s d cap D) (hF : D.Fit) (h0 : D.beginsE = 0) (hfl : D.files < 1048576) :
    Calls Tryz.prog 55 #[.pointer (some ⟨d, 0, none⟩), .string (str fName)] w (CreateR w s d cap D) := by
  obtain ⟨nm, sm, h⟩ := h
  have hc := Lib.hid (changing_calls d cap nm sm _ D none w h.blk hF h.nms)
  unfold ChgR at hc
  rw [(chgP_0 h0).1, (chgP_0 h0).2] at hc
  have hn0 : ((namedE none : Nat) : Int) = 13 := rfl
  have hp0 : ptrOf none = .pointer none := rfl
  rw [hn0, hp0] at hc
  have H := Lib.hid h
  have hfI : ¬ (D.files : Int) = 1048576 := by omega
  have hfb : ((D.files : Int) == 1048576) = false := by rw [beq_eq_false_iff_ne]; omega
  have hw1 : wrap64 ((D.files : Int) + 1) = (D.files : Int) + 1 := by unfold wrap64; omega
  clear h h0 hn0 hp0
  generalize hnS : str fName = nmS at *
  go_enter Tryz.func55, Tryz.ntmps55
  go_wp2_with fail
  refine hc.out.mono ?_
  rintro e w1 ⟨rfl, hB, hU⟩
  have c4 : w1.cell? ⟨d, 4, none⟩ = some (.int .i64 (D.files : Int)) := (dk_cells hB).2.2.2.2.1
  have hne := map_ne H.out.nms H.out.blk
  have hM1 := H.out.nms.upd hU hne
  obtain ⟨FX, hFX⟩ : ∃ FX : Obj, FX = .cells #[.int .i64 (D.files : Int), .slice none 0 0, .slice none 0 0, .slice none 0 0] 105 := ⟨_, rfl⟩
  have hba : Below w1.heap.size w1 (w1.alloc FX) := (Below.refl _ _).alloc (Nat.le_refl _) _
  have HD : Hid (Calls Tryz.prog 86 #[.pointer (some ⟨d, 0, none⟩), .iface 159 (.agg #[.string (str fName), .pointer (some ⟨w1.heap.size, 0, none⟩)])] (w1.alloc FX) (DoesR (w1.alloc FX) (fun k => k = d ∨ k = nm) d cap D.begins nm sm w1.heap.size)) :=
    does_calls d cap nm sm w1.heap.size D.begins (fun k => k = d ∨ k = nm) (w1.alloc FX) (hB.below hba hB.lt) (hM1.below hba) (.inl rfl) (.inr rfl)
  have HBA := Lib.hid hba
  have HFX := Lib.hid hFX
  have HBB := Lib.hid hB
  have HUU := Lib.hid hU
  rw [hnS, hFX] at HD
  have HNS := Lib.hid hnS
  clear hB hU hne hM1 hba hFX hnS
  go_wp2_with fail
  refine HD.out.mono ?_
  rintro e w2 ⟨rfl, pv, B2, M2, r2, b2, u2⟩
  have c42 : w2.cell? ⟨d, 4, none⟩ = some (.int .i64 (D.files : Int)) := (dk_cells B2).2.2.2.2.1
  have f42 := B2.frozen 4
  have hsz1 : w.heap.size ≤ w1.heap.size := HUU.out.size
  have hsza : (w1.alloc FX).heap.size = w1.heap.size + 1 := by simp
  have hsz2 : w1.heap.size + 1 ≤ w2.heap.size := by rw [← hsza, HFX.out]; exact u2.size
  have hfin : Hid (CreateR w s d cap D (.returned (.int .i64 0)) (w2.setCell ⟨d, 4, none⟩ (.int .i64 ((D.files : Int) + 1)))) := by
    rw [← HFX.out] at b2 u2
    have hnd := map_ne H.out.nms H.out.blk
    have hsd := map_ne H.out.sms H.out.blk
    have K : KeepsOn (fun k => k ≠ d) w2 (w2.setCell ⟨d, 4, none⟩ (.int .i64 ((D.files : Int) + 1))) := fun k hk => Below.heap_setCell w2 ⟨d, 4, none⟩ _ k hk
    have hfd : w1.heap.size ≠ d := by have := H.out.blk.lt; omega
    have hfn : w1.heap.size ≠ nm := by have := H.out.lt nm H.out.inm; omega
    have hfs : w1.heap.size ≠ sm := by have := H.out.lt sm H.out.ism; omega
    have BF : Blk w2 w1.heap.size 105 (fk D.files (.slice none 0 0) (.slice none 0 0) (.slice none 0 0)) := (u2.block _ (by omega) (fun e => by rcases e with e | e; exact hfd e; exact hfn e)).trans (by rw [HFX.out]; exact Blk.new w1 105 _)
    have hUw : Upd s s w (w1.alloc FX) := (HUU.out.oneS H.out.ind).thn HBA.out
    have U2 : Upd s s w w2 := hUw.thenS u2 (fun k hk => by rcases hk with hk | hk <;> subst hk; exact .inl H.out.ind; exact .inl H.out.inm)
    have hM3 : ∀ b n, MapAt w2 b n → b ≠ d → MapAt (w2.setCell ⟨d, 4, none⟩ (.int .i64 ((D.files : Int) + 1))) b n := fun b n ⟨x, y, h1, h2⟩ hb => ⟨x, y, (K b hb).trans h1, h2⟩
    refine ⟨rfl, ⟨nm, sm, pv, w1.heap.size, one w1.heap.size, (B2.set_ 4 _).eq_ rfl, hM3 _ _ M2 hnd, ?_, H.out.ne, ?_, ?_, fun e => hfd e.symm, fun e => hfn e.symm, fun e => hfs e.symm, ?_, .inl H.out.ind, .inl H.out.inm, .inl H.out.ism, ?_⟩, U2.setS (.inl H.out.ind) _⟩
    · rw [if_neg (by simp)]
      refine hM3 _ _ ?_ hsd
      have h1 := (H.out.sms.upd HUU.out hsd).below HBA.out
      exact h1.upd u2 (fun e => by rcases e with e | e; exact hsd e; exact H.out.ne e.symm)
    · refine ⟨.slice none 0 0, .slice none 0 0, .slice none 0 0, [], fun _ => False, (K _ hfd).trans BF, OwnB.nil _ _, BytesIn.nil _ _, World.ownsRow_nil _ _ _ _, trivial, fun k hk => hk.elim, (fun k hk => by cases hk), (fun k hk => by cases hk), rfl, ?_⟩
      rintro k rfl
      simp
      omega
    · rintro k rfl
      refine .inr ⟨hsz1, ?_⟩
      simp
      omega
    · rw [if_neg (by simp)]
      refine ⟨?_, fun k hk => ?_⟩
      · rw [HNS.out]
        rw [HNS.out] at r2
        exact row_keep r2 (fun k hk => Below.heap_setCell w2 ⟨d, 4, none⟩ _ k (fun e => row_type r2 B2 (by decide) ((show k = d from e) ▸ hk.symm)))
      · have h1 := b2 k hk
        have h2 := (World.ownsRow.lt r2 k hk).2
        refine ⟨.inr ⟨by omega, by simp; omega⟩, ?_⟩
        rintro rfl
        omega
    · intro k hk
      rcases hk with hk | hk
      · have := H.out.lt k hk
        simp
        omega
      · exact hk.2
  clear b2 u2 r2 M2 B2 hsz1 hsza hsz2
  go_wp2_with fail
  go_ret
  exact hfin.out
end Go.Proofs.YtejnfahfjmeabaaGreatDoor
namespace Go.Proofs.YtejnfahfjmeabaaGreatDoor
open Go.RowKit
set_option linter.unusedSimpArgs false
set_option linter.unusedVariables false

set_option maxRecDepth 100000 in
set_option maxHeartbeats 1000000 in
theorem mClone_calls (b : Nat) (es : Array MapEntry) (clock : Nat) (w : World) (hb : w.heap[b]? = some (.map es clock)) :
    Calls Tryz.prog 50 #[.map (some b)] w fun e w' => e = .returned (.map (some w.heap.size)) ∧ w' = w.alloc (.map es clock) := by
  have hq := fun w => run_eql_map_nil_sl (P := Tryz.prog) w 72 _ _ (some b) Tryz.underlying72
  go_enter Tryz.func50, Tryz.ntmps50
  go_wp2
  rw [run_callFunc_extern Tryz.func76 (by kernel_rfl) (by kernel_rfl) (by kernel_rfl) (e := Extern.MapsClone.clone) (by kernel_rfl), run_maps_clone_sl w 72 hb]
  simp only [Result.andThen]
  rw [Oper.upon_value]
  go_wp2
  rw [run_typeAssert_map_sl _ 72 20 _ _ _ Tryz.underlying72]
  simp only [Result.andThen]
  rw [Oper.upon_value]
  go_wp2
  go_ret
  exact ⟨rfl, rfl⟩
def SyncDirR (w : World) (s : Blocks) (d cap : Nat) (D : HdS) (b : Bool) (num : Nat) (fs : FileS) (e : Ending) (w' : World) : Prop :=
  e = .returned (.int .i64 (D.beginsE : Int)) ∧ DiskF w' (grow s w w') d cap D.begins (if D.beginsE = 0 then true else b) num fs ∧ Upd s s w w'
set_option maxRecDepth 100000 in
set_option maxHeartbeats 1000000 in
theorem dSyncDir_calls (d cap : Nat) (D : HdS) (b : Bool) (num : Nat) (fs : FileS) (s : Blocks) (w : World) (h : DiskF w s d cap D b num fs) (hF : D.Fit) :
    Calls Tryz.prog 94 #[.pointer (some ⟨d, 0, none⟩)] w (SyncDirR w s d cap D b num fs) := by
  obtain ⟨nm, sm, pv, f, sf, h⟩ := h
  have hc := Lib.hid (begins_calls d cap nm sm pv D w h.blk hF)
  have H := Lib.hid h
  by_cases h0 : D.beginsE = 0
  · have HE := Lib.hid h0
    unfold BegR at hc
    rw [h0] at hc
    clear h h0
    go_enter Tryz.func94, Tryz.ntmps94
    go_wp2_with fail
    refine hc.out.mono ?_
    rintro e w1 ⟨rfl, hB, hU⟩
    have H1 := Lib.hid (H.out.begun hB hU)
    have c1 := (dk_cells hB).2.1
    obtain ⟨x, y, hm1, hm2⟩ := H1.out.nms
    have HCL := Lib.hid (mClone_calls nm _ _ w1 hm1)
    have HU := Lib.hid hU
    have HM1 := Lib.hid hm1
    have HM2 := Lib.hid hm2
    obtain ⟨MX, hMX⟩ : ∃ MX : Obj, MX = .map (mapOf (some f) x) y := ⟨_, rfl⟩
    rw [← hMX] at HCL
    have hba : Below w1.heap.size w1 (w1.alloc MX) := (Below.refl _ _).alloc (Nat.le_refl _) _
    have B2 : Blk (w1.alloc MX) d 75 (dk cap nm sm pv D.begins) := hB.below hba hB.lt
    have f2 := B2.frozen 2
    have f3 := B2.frozen 3
    have d2 : (w1.alloc MX).cell? ⟨d, 2, none⟩ = some (.map (some sm)) := (dk_cells B2).2.2.1
    have d3 : (w1.alloc MX).cell? ⟨d, 3, none⟩ = some pv := (dk_cells B2).2.2.2.1
    have HB2 := Lib.hid B2
    have hsz : (w1.alloc MX).heap.size = w1.heap.size + 1 := by simp
    have hsm : MapAt (w1.alloc MX) w1.heap.size (some f) := ⟨x, y, by rw [hMX]; exact heap_alloc_new w1 _, hm2⟩
    have HA := Lib.hid (show (w1.alloc MX).heap.size = w1.heap.size + 1 ∧ MapAt (w1.alloc MX) w1.heap.size (some f) ∧ Below w1.heap.size w1 (w1.alloc MX) from ⟨hsz, hsm, hba⟩)
    have HF1 : Hid (DiskF (w1.alloc MX) s d cap D.begins b num fs) := DiskF.below ⟨nm, sm, pv, f, sf, H1.out⟩ hba
    have hfin : Hid (SyncDirR w s d cap D b num fs (.returned (.int .i64 0)) (((w1.alloc MX).setCell ⟨d, 2, none⟩ (.map (some w1.heap.size))).setCell ⟨d, 3, none⟩ (.slice none 0 0))) := by
      obtain ⟨w3, hw3⟩ : ∃ w3 : World, w3 = ((w1.alloc MX).setCell ⟨d, 2, none⟩ (.map (some w1.heap.size))).setCell ⟨d, 3, none⟩ (.slice none 0 0) := ⟨_, rfl⟩
      rw [← hw3]
      have K : KeepsOn (fun k => k ≠ d) (w1.alloc MX) w3 := fun k hk => by
        rw [hw3]
        exact (Below.heap_setCell _ ⟨d, 3, none⟩ _ k hk).trans (Below.heap_setCell _ ⟨d, 2, none⟩ _ k hk)
      have hz3 : w3.heap.size = w1.heap.size + 1 := by rw [hw3]; simp [World.setCell]
      have hz1 := HU.out.size
      have hMk : ∀ b n, MapAt (w1.alloc MX) b n → b ≠ d → MapAt w3 b n := fun b n ⟨x, y, h1, h2⟩ hb => ⟨x, y, (K b hb).trans h1, h2⟩
      have hnd := map_ne H1.out.nms H1.out.blk
      have hld := H1.out.blk.lt
      have hln := H1.out.lt nm H1.out.inm
      have hls : ∀ k, sf k → k < w1.heap.size := fun k hk => H1.out.lt k (H1.out.sub k hk)
      refine ⟨by rw [HE.out]; rfl, ?_, ?_⟩
      · rw [if_pos HE.out]
        refine ⟨nm, w1.heap.size, .slice none 0 0, f, sf, ?_, hMk _ _ (H1.out.nms.below HA.out.2.2) hnd, ?_, by omega, ?_, fun k hk => .inl (H1.out.sub k hk), H1.out.nd, H1.out.nnm, fun e => by have := hls _ e; omega, ?_, .inl H1.out.ind, .inl H1.out.inm, .inr ⟨by omega, by omega⟩, ?_⟩
        · rw [hw3]
          exact ((HB2.out.set_ 2 _).set_ 3 _).eq_ rfl
        · rw [if_pos rfl]
          exact hMk _ _ HA.out.2.1 (by omega)
        · exact (H1.out.file.below HA.out.2.2).keeps (K.mono fun k hk e => H1.out.nd (e ▸ hk)) (by rw [hz3, HA.out.1]; exact Nat.le_refl _)
        · rw [if_pos rfl]
          rfl
        · intro k hk
          rcases hk with hk | hk
          · have := H1.out.lt k hk
            omega
          · exact hk.2
      · rw [hw3]
        exact (((HU.out.oneS H.out.ind).thn HA.out.2.2).setS (.inl H.out.ind) _).setS (.inl H.out.ind) _
    clear hB hU hm1 hm2 hMX hba B2 hsz hsm
    go_wp2_with fail
    refine HCL.out.mono ?_
    rintro e w2 ⟨rfl, rfl⟩
    go_wp2_with fail
    go_ret
    exact hfin.out
  · have HE := Lib.hid h0
    unfold BegR at hc
    have hq : ((D.beginsE : Int) != 0) = true := by rw [bne_iff_ne]; omega
    have hq2 : ¬ (D.beginsE : Int) = 0 := by omega
    clear h h0
    go_enter Tryz.func94, Tryz.ntmps94
    go_wp2_with fail
    refine hc.out.mono ?_
    rintro e w1 ⟨rfl, hB, hU⟩
    go_wp2_with fail
    go_ret
    refine ⟨rfl, ?_, hU.oneS H.out.ind⟩
    rw [if_neg HE.out]
    exact (H.out.begun hB hU).wide hU.size
end Go.Proofs.YtejnfahfjmeabaaGreatDoor
namespace Go.Proofs.YtejnfahfjmeabaaGreatDoor
open Go.RowKit Go.Extern.Stop Go.Stop Go.Extern
set_option linter.unusedSimpArgs false
set_option linter.unusedVariables false

theorem Tryz.isTypeOf (v : Value) (w : World) : (Extern.ReflectliteType.typeOf #[.iface 24 v]).run Tryz.prog w = .ok (.iface 176 (.agg #[.pointer (some ⟨4, 24, none⟩)])) w := by kernel_rfl
def ext170 : Array Value → Sem Value := Extern.ReflectliteType.method fun t => do Rtype.noPackHeld "Comparable" t; pure (.bool (← typeInfo t).comparable)
theorem Tryz.isComparable (w : World) : (ext170 #[.agg #[.pointer (some ⟨4, 24, none⟩)]]).run Tryz.prog w = .ok (.bool true) w := by kernel_rfl
theorem Tryz.isMethodComparable (v : Value) (w : World) : (Go.method 357 176 v "Comparable").run Tryz.prog w = .ok (170, v) w := by kernel_rfl
theorem Tryz.noIs24 (v : Value) (xT : TypeId) (w : World) : (Instr.typeAssert (.iface 24 v) xT 191 true).run Tryz.prog w = .ok (.tuple #[.nilIface, .bool false]) w := run_typeAssert_lacksB Tryz.underlying191 (by kernel_rfl) (by kernel_rfl) v xT w
theorem Tryz.noUnwrap24 (v : Value) (xT : TypeId) (w : World) : (Instr.typeAssert (.iface 24 v) xT 183 true).run Tryz.prog w = .ok (.tuple #[.nilIface, .bool false]) w := run_typeAssert_lacksB Tryz.underlying183 (by kernel_rfl) (by kernel_rfl) v xT w
theorem Tryz.noUnwraps24 (v : Value) (xT : TypeId) (w : World) : (Instr.typeAssert (.iface 24 v) xT 184 true).run Tryz.prog w = .ok (.tuple #[.nilIface, .bool false]) w := run_typeAssert_lacksB Tryz.underlying184 (by kernel_rfl) (by kernel_rfl) v xT w
theorem eql24 (a b : Int) (w : World) : (binOp .eql 29 (.iface 24 (.int .i64 a)) (.iface 24 (.int .i64 b))).run Tryz.prog w = .ok (.bool (a == b)) w := by
  kernel_rfl
set_option maxRecDepth 100000 in
set_option maxHeartbeats 2000000 in
theorem is_calls (a b : Nat) (w : World) : Calls Tryz.prog 54 #[.iface 24 (.int .i64 (a : Int)), .iface 24 (.int .i64 (b : Int))] w fun e w' => e = .returned (.bool (decide (a = b))) ∧ w' = w := by
  have h84 := @run_callFunc_extern Tryz.prog 84 _ Extern.ReflectliteType.typeOf Tryz.func84 (by kernel_rfl) (by kernel_rfl) (by kernel_rfl) (by kernel_rfl)
  have h170 := @run_callFunc_extern Tryz.prog 170 _ ext170 Tryz.func170 (by kernel_rfl) (by kernel_rfl) (by kernel_rfl) (by kernel_rfl)
  have tT := Tryz.isTypeOf
  have cT := Tryz.isComparable
  have mR := Tryz.isMethodComparable
  have nE := Tryz.noIs24
  have uE := Tryz.noUnwrap24
  have vE := Tryz.noUnwraps24
  by_cases h : a = b
  · subst h
    have heq := fun w => eql24 (a : Int) (a : Int) w
    have hd : ((a : Int) == (a : Int)) = true := by simp
    rw [hd] at heq
    rw [decide_eq_true rfl]
    go_enter Tryz.func54, Tryz.ntmps54
    go_wp2
    refine wp_loop_rounds 1 ?_
    rw [rounds_succ]
    go_wp2
    go_ret
    exact ⟨rfl, rfl⟩
  · have heq := fun w => eql24 (a : Int) (b : Int) w
    have hd : ((a : Int) == (b : Int)) = false := by rw [beq_eq_false_iff_ne]; omega
    rw [hd] at heq
    rw [decide_eq_false h]
    go_enter Tryz.func54, Tryz.ntmps54
    go_wp2
    refine wp_loop_rounds 1 ?_
    rw [rounds_succ]
    go_wp2
    go_ret
    exact ⟨rfl, rfl⟩
end Go.Proofs.YtejnfahfjmeabaaGreatDoor
namespace Go.Proofs.YtejnfahfjmeabaaGreatDoor
open Go.RowKit Go.Extern.Stop Go.Stop Go.Extern
set_option linter.unusedSimpArgs false
set_option linter.unusedVariables false

/-! ### closed facts (after the worked example ToyasAs) -/
theorem Tryz.typeOf109 (v : Value) (w : World) : (ReflectliteType.typeOf #[.iface 109 v]).run Tryz.prog w = .ok (.iface 176 (.agg #[.pointer (some ⟨4, 109, none⟩)])) w := by kernel_rfl
theorem Tryz.methodAssignableTo (h : Value) (w : World) : (Go.method 357 176 (.agg #[h]) "AssignableTo").run Tryz.prog w = .ok (169, .agg #[h]) w := by kernel_rfl
theorem Tryz.assignable24 (w : World) : (ReflectliteType.relation "AssignableTo" ReflectliteType.assignableTo #[.agg #[.pointer (some ⟨4, 24, none⟩)], .iface 176 (.agg #[.pointer (some ⟨4, 24, none⟩)])]).run Tryz.prog w = .ok (.bool true) w := by kernel_rfl
theorem Tryz.assignable109 (w : World) : (ReflectliteType.relation "AssignableTo" ReflectliteType.assignableTo #[.agg #[.pointer (some ⟨4, 109, none⟩)], .iface 176 (.agg #[.pointer (some ⟨4, 24, none⟩)])]).run Tryz.prog w = .ok (.bool false) w := by kernel_rfl
theorem Tryz.valueOf24 (n : Int) (w : World) : (ReflectliteValue.unpack (.iface 24 (.int .i64 n))).run Tryz.prog w
    = .ok (.agg #[.pointer (some ⟨4, 24, none⟩), .pointer (some ⟨w.heap.size, 0, none⟩), .int .u64 130]) (w.alloc (.cells #[.int .i64 n] 24)) := by kernel_rfl
theorem Tryz.noAs109 (v : Value) (xT : TypeId) (w : World) : (Instr.typeAssert (.iface 109 v) xT 180 true).run Tryz.prog w = .ok (.tuple #[.nilIface, .bool false]) w := run_typeAssert_lacksB Tryz.underlying180 (by kernel_rfl) (by kernel_rfl) v xT w
theorem Tryz.hasUnwrap109 (v : Value) (xT : TypeId) (w : World) : (Instr.typeAssert (.iface 109 v) xT 183 true).run Tryz.prog w = .ok (.tuple #[.iface 109 v, .bool true]) w := run_typeAssert_hasB Tryz.underlying183 (by kernel_rfl) v xT w
theorem Tryz.methodUnwrap (v : Value) (w : World) : (Go.method 357 109 v "Unwrap").run Tryz.prog w = .ok (162, v) w := by kernel_rfl
theorem rlm (z : Sem Value) (f : TypeId → Addr → Nat → Nat → Sem Value) (v : Value) :
    ReflectliteValue.method z f #[v] = (do match ← ReflectliteValue.parts v with | none => z | some (t, a, fl) => f t a fl (fl % 32)) := rfl
theorem Tryz.parts93 (a : Addr) (w : World) : (ReflectliteValue.parts (.agg #[.pointer (some ⟨4, 93, none⟩), .pointer (some a), .int .u64 150])).run Tryz.prog w = .ok (some (93, a, 150)) w := by kernel_rfl
theorem Tryz.elemOf93 (w : World) : (Rtype.elem? 93).run Tryz.prog w = .ok (some 24) w := by kernel_rfl
theorem Tryz.mk24 (p : Addr) (w : World) : (ReflectliteValue.mk 24 p ReflectliteValue.flagAddr).run Tryz.prog w = .ok (.agg #[.pointer (some ⟨4, 24, none⟩), .pointer (some p), .int .u64 386]) w := by kernel_rfl
theorem Tryz.elemV93 (a p : Addr) (W : World) (ha : W.cell? a = some (.pointer (some p))) :
    (ReflectliteValue.method (ReflectliteValue.valueError "reflectlite.Value.Elem" 0) ReflectliteValue.elem #[.agg #[.pointer (some ⟨4, 93, none⟩), .pointer (some a), .int .u64 150]]).run Tryz.prog W
      = .ok (.agg #[.pointer (some ⟨4, 24, none⟩), .pointer (some p), .int .u64 386]) W := by
  rw [rlm]
  simp only [Sem.run_bind, Tryz.parts93, Result.andThen]
  simp [ReflectliteValue.elem, loadVar, isAgg, underlying, Tryz.underlying93, ha, Result.andThen, Tryz.elemOf93, Tryz.mk24]
theorem rls (v x : Value) : ReflectliteValue.set #[v, x] = (do
    let (some (dst, a, fl), some (src, b, _)) := (← ReflectliteValue.parts v, ← ReflectliteValue.parts x)
      | unsupported (.noEntry "extern/(internal/reflectlite.Value).Set.zeroValue")
    if fl / ReflectliteValue.flagAddr % 2 == 0 then unsupported (.noEntry "extern/(internal/reflectlite.Value).Set.unaddressable")
    let val ← loadVar src b
    if ← Rtype.directlyAssignable dst src then storeVar dst a val
    else if ← Rtype.implements dst src then
      if (← Rtype.kind src) == 20 then
        match val with
        | .nilIface => unsupported (.noEntry "extern/reflectlite: a nil value of one interface type handed on as a value of another")
        | _ => storeVar dst a val
      else storeVar dst a (.iface src val)
    else panicString ("reflectlite.Set: value of type " ++ (← Rtype.spelt src) ++ " is not assignable to type " ++ (← Rtype.spelt dst))
    pure (.tuple #[])) := rfl
theorem Tryz.parts24a (a : Addr) (w : World) : (ReflectliteValue.parts (.agg #[.pointer (some ⟨4, 24, none⟩), .pointer (some a), .int .u64 386])).run Tryz.prog w = .ok (some (24, a, 386)) w := by kernel_rfl
theorem Tryz.parts24 (a : Addr) (w : World) : (ReflectliteValue.parts (.agg #[.pointer (some ⟨4, 24, none⟩), .pointer (some a), .int .u64 130])).run Tryz.prog w = .ok (some (24, a, 130)) w := by kernel_rfl
theorem Tryz.direct24 (w : World) : (Rtype.directlyAssignable 24 24).run Tryz.prog w = .ok true w := by kernel_rfl
theorem Tryz.size24 (w : World) : (sizeOf 24).run Tryz.prog w = .ok 1 w := by kernel_rfl
theorem Tryz.set24 (ta b : Addr) (n : Int) (old : Value) (W : World) (hb : W.cell? b = some (.int .i64 n)) (ht : W.cell? ta = some old) (hf : W.frozen? ta = false) :
    (ReflectliteValue.set #[.agg #[.pointer (some ⟨4, 24, none⟩), .pointer (some ta), .int .u64 386], .agg #[.pointer (some ⟨4, 24, none⟩), .pointer (some b), .int .u64 130]]).run Tryz.prog W
      = .ok (.tuple #[]) (W.setCell ta (.int .i64 n)) := by
  rw [rls]
  simp only [Sem.run_bind, Tryz.parts24a, Tryz.parts24, Result.andThen]
  simp [ReflectliteValue.flagAddr, loadVar, isAgg, underlying, Tryz.underlying24, hb, Result.andThen, Tryz.direct24, storeVar, Value.cells, storeCells, Addr.add]
  rw [run_store Tryz.prog W ta _ _ (by rfl)]
  simp [ht, hf]
end Go.Proofs.YtejnfahfjmeabaaGreatDoor
namespace Go.Proofs.YtejnfahfjmeabaaGreatDoor
open Go.RowKit Go.Extern.Stop Go.Stop Go.Extern
set_option linter.unusedSimpArgs false
set_option linter.unusedVariables false

theorem ErrV.uniq {w : World} : ∀ {k k' : Nat} {v : Value} {n n' : Nat}, ErrV w k v n → ErrV w k' v n' → k = k'
  | 0, 0, _, _, _, _, _ => rfl
  | 0, k' + 1, v, n, n', h, h' => by
    obtain ⟨b, s, u, e, _⟩ := h'
    rw [show v = .iface 24 (.int .i64 (n : Int)) from h] at e
    cases e
  | k + 1, 0, v, n, n', h, h' => by
    obtain ⟨b, s, u, e, _⟩ := h
    rw [show v = .iface 24 (.int .i64 (n' : Int)) from h'] at e
    cases e
  | k + 1, k' + 1, v, n, n', h, h' => by
    obtain ⟨b, s, u, e, h1, h2⟩ := h
    obtain ⟨b', s', u', e', h1', h2'⟩ := h'
    rw [e] at e'
    obtain rfl : b = b' := by injection e' with _ e2; injection e2 with e3; injection e3 with e4; injection e4
    unfold Blk at h1 h1'
    rw [h1] at h1'
    have e5 := Option.some.inj h1'
    injection e5 with e6
    have e7 : u = u' := by
      have := congrArg (fun a : Array Value => a[1]?) e6
      simpa using this
    subst e7
    rw [ErrV.uniq h2 h2']
/-- how often an error is wrapped -/
noncomputable def wraps (W : World) (v : Value) (n : Nat) : Nat := Classical.epsilon fun k => ErrV W k v n
theorem wraps_eq {W : World} {k : Nat} {v : Value} {n : Nat} (h : ErrV W k v n) : wraps W v n = k := ErrV.uniq (Classical.epsilon_spec (p := fun k => ErrV W k v n) ⟨k, h⟩) h
theorem cell_set_same {w : World} {a : Addr} {old v : Value} (h : w.cell? a = some old) : (w.setCell a v).cell? a = some v := World.cell?_setCell_same _ _ _ h
def AsR (w : World) (t : Addr) (n : Nat) (e : Ending) (w' : World) : Prop := e = .returned (.bool true) ∧ w'.cell? t = some (.int .i64 (n : Int)) ∧ Upd (one t.block) (one t.block) w w'
set_option maxRecDepth 100000 in
set_option maxHeartbeats 1000000 in
theorem unwrap_calls (b : Nat) (s : ByteArray) (u : Value) (w : World) (h : Blk w b 111 #[.string s, u]) : Calls Tryz.prog 162 #[.pointer (some ⟨b, 0, none⟩)] w fun e w' => e = .returned u ∧ w' = w := by
  have c1 : w.cell? ⟨b, 1, none⟩ = some u := h.cell 1
  clear h
  go_enter Tryz.func162, Tryz.ntmps162
  go_wp2_with fail
  go_ret
  exact ⟨rfl, rfl⟩
set_option maxRecDepth 100000 in
set_option maxHeartbeats 2000000 in
theorem as73_calls (v : Value) (k n : Nat) (tb ab : Nat) (old : Value) (w : World) (hv : ErrV w k v n) (ha : w.cell? ⟨ab, 0, none⟩ = some (.pointer (some ⟨tb, 0, none⟩))) (ht : w.cell? ⟨tb, 0, none⟩ = some old) (hf : w.frozen? ⟨tb, 0, none⟩ = false) :
    Calls Tryz.prog 73 #[v, .iface 93 (.pointer (some ⟨tb, 0, none⟩)), .agg #[.pointer (some ⟨4, 93, none⟩), .pointer (some ⟨ab, 0, none⟩), .int .u64 150], .iface 176 (.agg #[.pointer (some ⟨4, 24, none⟩)])] w (AsR w ⟨tb, 0, none⟩ n) := by
  have HV := Lib.hid hv
  have HA := Lib.hid ha
  have HT := Lib.hid ht
  have HF := Lib.hid hf
  obtain ⟨tt, xx, hvx⟩ := hv.iface
  clear hv ha ht hf
  obtain ⟨W1, hW1⟩ : ∃ W1 : World, W1 = w.alloc (.cells #[.pointer (some ⟨4, 93, none⟩), .pointer (some ⟨ab, 0, none⟩), .int .u64 150] 133) := ⟨_, rfl⟩
  have hb1 : Below w.heap.size w W1 := by rw [hW1]; exact (Below.refl _ _).alloc (Nat.le_refl _) _
  have HV1 := Lib.hid (HV.out.below hb1)
  have HB1 := Lib.hid hb1
  have HB : Hid (Blk W1 w.heap.size 133 #[.pointer (some ⟨4, 93, none⟩), .pointer (some ⟨ab, 0, none⟩), .int .u64 150]) := by rw [hW1]; exact Blk.new w 133 _
  have hA1 := cell_below' hb1 HA.out
  have hT1 := cell_below' hb1 HT.out
  have h84 := @run_callFunc_extern Tryz.prog 84 _ ReflectliteType.typeOf Tryz.func84 (by kernel_rfl) (by kernel_rfl) (by kernel_rfl) (by kernel_rfl)
  have h169 := @run_callFunc_extern Tryz.prog 169 _ (ReflectliteType.relation "AssignableTo" ReflectliteType.assignableTo) Tryz.func169 (by kernel_rfl) (by kernel_rfl) (by kernel_rfl) (by kernel_rfl)
  have h99 := @run_callFunc_extern Tryz.prog 99 _ (ReflectliteValue.method (ReflectliteValue.valueError "reflectlite.Value.Elem" 0) ReflectliteValue.elem) Tryz.func99 (by kernel_rfl) (by kernel_rfl) (by kernel_rfl) (by kernel_rfl)
  have h70 := @run_callFunc_extern Tryz.prog 70 _ (fun args => ReflectliteValue.unpack (args.getD 0 (.tuple #[]))) Tryz.func70 (by kernel_rfl) (by kernel_rfl) (by kernel_rfl) (by kernel_rfl)
  have h100 := @run_callFunc_extern Tryz.prog 100 _ ReflectliteValue.set Tryz.func100 (by kernel_rfl) (by kernel_rfl) (by kernel_rfl) (by kernel_rfl)
  have tO := Tryz.isTypeOf
  have tO2 := Tryz.typeOf109
  have mA := Tryz.methodAssignableTo
  have a24 := Tryz.assignable24
  have a109 := Tryz.assignable109
  have v24 := Tryz.valueOf24
  have nA := Tryz.noAs109
  have hU := Tryz.hasUnwrap109
  have mU := Tryz.methodUnwrap
  go_enter Tryz.func73, Tryz.ntmps73
  go_wp2_with fail
  rw [← hW1]
  clear hW1 hb1
  go_loopw [0] (fun u wr => wr = W1 ∧ ∃ k, ErrV W1 k u n) (fun u _ => wraps W1 u n)
  case atStart => exact ⟨rfl, k, HV1.out⟩
  case round =>
    obtain ⟨hwr, k', hk⟩ := hrel
    rw [hwr]
    clear hwr
    have c0 : W1.cell? ⟨w.heap.size, 0, none⟩ = some (.pointer (some ⟨4, 93, none⟩)) := HB.out.cell 0
    have c1 : W1.cell? ⟨w.heap.size, 1, none⟩ = some (.pointer (some ⟨ab, 0, none⟩)) := HB.out.cell 1
    have c2 : W1.cell? ⟨w.heap.size, 2, none⟩ = some (.int .u64 150) := HB.out.cell 2
    cases k' with
    | zero =>
      obtain rfl := hk
      have hb2 : Below W1.heap.size W1 (W1.alloc (.cells #[.int .i64 (n : Int)] 24)) := (Below.refl _ _).alloc (Nat.le_refl _) _
      have el := Tryz.elemV93 ⟨ab, 0, none⟩ ⟨tb, 0, none⟩ W1 hA1
      have hfz : (W1.alloc (.cells #[.int .i64 (n : Int)] 24)).frozen? ⟨tb, 0, none⟩ = false := (World.frozen?_of_block (a := ⟨tb, 0, none⟩) ((hb2.block tb (World.block_lt_of_cell? _ _ hT1)).trans (HB1.out.block tb (World.block_lt_of_cell? _ _ HT.out)))).trans HF.out
      have st := Tryz.set24 ⟨tb, 0, none⟩ ⟨W1.heap.size, 0, none⟩ n old (W1.alloc (.cells #[.int .i64 (n : Int)] 24)) ((Blk.new W1 24 #[.int .i64 (n : Int)]).cell 0) (cell_below' hb2 hT1) hfz
      have hfin : Hid (AsR w ⟨tb, 0, none⟩ n (.returned (.bool true)) ((W1.alloc (.cells #[.int .i64 (n : Int)] 24)).setCell ⟨tb, 0, none⟩ (.int .i64 (n : Int)))) :=
        ⟨rfl, cell_set_same (cell_below' hb2 hT1), ((Upd.below (fp := one tb) HB1.out).alloc _).set (p := ⟨tb, 0, none⟩) rfl _⟩
      clear hT1 hb2 hfz
      go_wp2_with fail
      go_ret
      exact hfin.out
    | succ k' =>
      obtain ⟨b, s, u, rfl, hbk, hke⟩ := hk
      have HU := Lib.hid (unwrap_calls b s u W1 hbk)
      have HK := Lib.hid (show ErrV W1 k' u n ∧ ErrV W1 (k' + 1) (.iface 109 (.pointer (some ⟨b, 0, none⟩))) n from ⟨hke, b, s, u, rfl, hbk, hke⟩)
      obtain ⟨tt2, xx2, rfl⟩ := hke.iface
      clear hke hbk
      go_wp2_with fail
      refine HU.out.mono ?_
      rintro e w2 ⟨rfl, rfl⟩
      go_wp2_with fail
      refine ⟨⟨trivial, k', HK.out.1⟩, ?_⟩
      rw [wraps_eq HK.out.1, wraps_eq HK.out.2]
      omega
end Go.Proofs.YtejnfahfjmeabaaGreatDoor
namespace Go.Proofs.YtejnfahfjmeabaaGreatDoor
open Go.RowKit Go.Extern.Stop Go.Stop Go.Extern
set_option linter.unusedSimpArgs false
set_option linter.unusedVariables false

/-- the library's own variable: what an error is -/
def ErrG (w : World) : Prop := w.cell? ⟨0, 0, none⟩ = some (.iface 176 (.agg #[.pointer (some ⟨4, 29, none⟩)]))
theorem ErrG.below {w w' : World} (h : ErrG w) (hb : Below w.heap.size w w') : ErrG w' := cell_below' hb h
theorem ErrG.upd {w w' : World} {s s' : Blocks} (h : ErrG w) (hu : Upd s s' w w') (hs : ¬ s 0) : ErrG w' := (World.cell?_of_block (a := ⟨0, 0, none⟩) (hu.block 0 (World.block_lt_of_cell? _ _ h) hs)).trans h
theorem Tryz.valueOf93 (t : Addr) (w : World) : (ReflectliteValue.unpack (.iface 93 (.pointer (some t)))).run Tryz.prog w
    = .ok (.agg #[.pointer (some ⟨4, 93, none⟩), .pointer (some ⟨w.heap.size, 0, none⟩), .int .u64 150]) (w.alloc (.cells #[.pointer (some t)] 93)) := by kernel_rfl
theorem Tryz.type93 (a : Addr) (w : World) : (ReflectliteValue.methodAny (ReflectliteValue.valueError "reflectlite.Value.Type" 0) (fun t _ _ _ => ReflectliteType.toType t) #[.agg #[.pointer (some ⟨4, 93, none⟩), .pointer (some a), .int .u64 150]]).run Tryz.prog w
    = .ok (.iface 176 (.agg #[.pointer (some ⟨4, 93, none⟩)])) w := by kernel_rfl
theorem Tryz.methodKind (h : Value) (w : World) : (Go.method 357 176 (.agg #[h]) "Kind").run Tryz.prog w = .ok (156, h) w := by kernel_rfl
theorem Tryz.kind93 (w : World) : ((ReflectliteType.abiMethod fun t => (fun a : Nat => Value.int IntKind.u8 (a : Int)) <$> Rtype.kind t) #[.pointer (some ⟨4, 93, none⟩)]).run Tryz.prog w = .ok (.int .u8 22) w := by kernel_rfl
theorem Tryz.kind24 (w : World) : ((ReflectliteType.abiMethod fun t => (fun a : Nat => Value.int IntKind.u8 (a : Int)) <$> Rtype.kind t) #[.pointer (some ⟨4, 24, none⟩)]).run Tryz.prog w = .ok (.int .u8 2) w := by kernel_rfl
theorem Tryz.isNil93 (a p : Addr) (W : World) (ha : W.cell? a = some (.pointer (some p))) :
    (ReflectliteValue.method (ReflectliteValue.valueError "reflectlite.Value.IsNil" 0) ReflectliteValue.isNil #[.agg #[.pointer (some ⟨4, 93, none⟩), .pointer (some a), .int .u64 150]]).run Tryz.prog W = .ok (.bool false) W := by
  rw [rlm]
  simp only [Sem.run_bind, Tryz.parts93, Result.andThen]
  simp [ReflectliteValue.isNil, loadVar, isAgg, underlying, Tryz.underlying93, ha, Result.andThen]
theorem Tryz.methodElem (h : Value) (w : World) : (Go.method 357 176 (.agg #[h]) "Elem").run Tryz.prog w = .ok (171, .agg #[h]) w := by kernel_rfl
theorem Tryz.methodImplements (h : Value) (w : World) : (Go.method 357 176 (.agg #[h]) "Implements").run Tryz.prog w = .ok (172, .agg #[h]) w := by kernel_rfl
theorem Tryz.elem93 (w : World) : (ReflectliteType.method ReflectliteType.elem #[.agg #[.pointer (some ⟨4, 93, none⟩)]]).run Tryz.prog w = .ok (.iface 176 (.agg #[.pointer (some ⟨4, 24, none⟩)])) w := by kernel_rfl
theorem Tryz.implements24 (w : World) : (ReflectliteType.relation "Implements" ReflectliteType.implements_ #[.agg #[.pointer (some ⟨4, 24, none⟩)], .iface 176 (.agg #[.pointer (some ⟨4, 29, none⟩)])]).run Tryz.prog w = .ok (.bool true) w := by kernel_rfl
set_option maxRecDepth 100000 in
set_option maxHeartbeats 2000000 in
theorem As_calls (v : Value) (k n : Nat) (tb : Nat) (old : Value) (w : World) (hg : ErrG w) (hv : ErrV w k v n) (ht : w.cell? ⟨tb, 0, none⟩ = some old) (hf : w.frozen? ⟨tb, 0, none⟩ = false) :
    Calls Tryz.prog 44 #[v, .iface 93 (.pointer (some ⟨tb, 0, none⟩))] w (AsR w ⟨tb, 0, none⟩ n) := by
  have h70 := @run_callFunc_extern Tryz.prog 70 _ (fun args => ReflectliteValue.unpack (args.getD 0 (.tuple #[]))) Tryz.func70 (by kernel_rfl) (by kernel_rfl) (by kernel_rfl) (by kernel_rfl)
  have h71 := @run_callFunc_extern Tryz.prog 71 _ (ReflectliteValue.methodAny (ReflectliteValue.valueError "reflectlite.Value.Type" 0) (fun t _ _ _ => ReflectliteType.toType t)) Tryz.func71 (by kernel_rfl) (by kernel_rfl) (by kernel_rfl) (by kernel_rfl)
  have h72 := @run_callFunc_extern Tryz.prog 72 _ (ReflectliteValue.method (ReflectliteValue.valueError "reflectlite.Value.IsNil" 0) ReflectliteValue.isNil) Tryz.func72 (by kernel_rfl) (by kernel_rfl) (by kernel_rfl) (by kernel_rfl)
  have h156 := @run_callFunc_extern Tryz.prog 156 _ (ReflectliteType.abiMethod fun t => do pure (.int .u8 (← Rtype.kind t))) Tryz.func156 (by kernel_rfl) (by kernel_rfl) (by kernel_rfl) (by kernel_rfl)
  have h171 := @run_callFunc_extern Tryz.prog 171 _ (ReflectliteType.method ReflectliteType.elem) Tryz.func171 (by kernel_rfl) (by kernel_rfl) (by kernel_rfl) (by kernel_rfl)
  have h172 := @run_callFunc_extern Tryz.prog 172 _ (ReflectliteType.relation "Implements" ReflectliteType.implements_) Tryz.func172 (by kernel_rfl) (by kernel_rfl) (by kernel_rfl) (by kernel_rfl)
  have f70 := Tryz.valueOf93
  have f71 := Tryz.type93
  have mK := Tryz.methodKind
  have mE := Tryz.methodElem
  have mI := Tryz.methodImplements
  have k93 := Tryz.kind93
  have k24 := Tryz.kind24
  have e93 := Tryz.elem93
  have i24 := Tryz.implements24
  obtain ⟨w2, hw2⟩ : ∃ w2 : World, w2 = (w.alloc (.cells #[.pointer (some ⟨tb, 0, none⟩)] 93)).alloc (.cells #[.pointer (some ⟨4, 93, none⟩), .pointer (some ⟨w.heap.size, 0, none⟩), .int .u64 150] 133) := ⟨_, rfl⟩
  have hb1 : Below w.heap.size w (w.alloc (.cells #[.pointer (some ⟨tb, 0, none⟩)] 93)) := (Below.refl _ _).alloc (Nat.le_refl _) _
  have hb2 : Below w.heap.size w w2 := by rw [hw2]; exact hb1.alloc (by simp) _
  have hc2 : w2.cell? ⟨w.heap.size, 0, none⟩ = some (.pointer (some ⟨tb, 0, none⟩)) := by
    rw [hw2]
    exact ((Blk.new w 93 #[.pointer (some ⟨tb, 0, none⟩)]).alloc _).cell 0
  have hB2 : Blk w2 (w.heap.size + 1) 133 #[.pointer (some ⟨4, 93, none⟩), .pointer (some ⟨w.heap.size, 0, none⟩), .int .u64 150] := by
    rw [hw2]
    exact Blk.newN (w.alloc (.cells #[.pointer (some ⟨tb, 0, none⟩)] 93)) 133 _ (by simp)
  have hg2 : w2.cell? ⟨0, 0, none⟩ = some (.iface 176 (.agg #[.pointer (some ⟨4, 29, none⟩)])) := cell_below' hb2 hg
  have n72 := Tryz.isNil93 ⟨w.heap.size, 0, none⟩ ⟨tb, 0, none⟩ w2 hc2
  have hf2 : w2.frozen? ⟨tb, 0, none⟩ = false := (World.frozen?_of_block (a := ⟨tb, 0, none⟩) (hb2.block tb (World.block_lt_of_cell? _ _ ht))).trans hf
  have H73 := Lib.hid (as73_calls v k n tb w.heap.size old w2 (hv.below hb2) hc2 (cell_below' hb2 ht) hf2)
  have HB2 := Lib.hid hb2
  obtain ⟨tt, xx, hvx⟩ := hv.iface
  subst hvx
  have c0 : w2.cell? ⟨w.heap.size + 1, 0, none⟩ = some (.pointer (some ⟨4, 93, none⟩)) := hB2.cell 0
  have c1 : w2.cell? ⟨w.heap.size + 1, 1, none⟩ = some (.pointer (some ⟨w.heap.size, 0, none⟩)) := hB2.cell 1
  have c2 : w2.cell? ⟨w.heap.size + 1, 2, none⟩ = some (.int .u64 150) := hB2.cell 2
  rw [hw2] at n72 c0 c1 c2 hg2 H73
  clear hg hv ht hf hb1 hb2 hc2 hB2 hf2
  go_enter Tryz.func44, Tryz.ntmps44
  go_wp2_with fail
  refine H73.out.mono ?_
  rintro e w3 ⟨rfl, hc, hu⟩
  have hfin : Hid (AsR w ⟨tb, 0, none⟩ n (.returned (.bool true)) w3) := by
    rw [← hw2] at hu
    exact ⟨rfl, hc, (Upd.below HB2.out).trans hu⟩
  clear hc hu hw2
  go_wp2_with fail
  go_ret
  exact hfin.out
set_option maxRecDepth 100000 in
set_option maxHeartbeats 2000000 in
theorem Of_calls (v : Value) (n : Nat) (w : World) (hg : ErrG w) (h : ErrR w v n) : Calls Tryz.prog 18 #[v] w fun e w' => e = .returned (.int .i64 (n : Int)) ∧ Below w.heap.size w w' := by
  rcases h with ⟨rfl, rfl⟩ | ⟨h0, k, hk⟩
  · clear hg
    go_enter Tryz.func18, Tryz.ntmps18
    go_wp2_with fail
    go_ret
    exact ⟨rfl, Below.refl _ _⟩
  · have hb1 : Below w.heap.size w (w.alloc (.cells #[.int .i64 0] 24)) := (Below.refl _ _).alloc (Nat.le_refl _) _
    have HA := Lib.hid (As_calls v k n w.heap.size (.int .i64 0) (w.alloc (.cells #[.int .i64 0] 24)) (hg.below hb1) (hk.below hb1) ((Blk.new w 24 #[.int .i64 0]).cell 0) ((Blk.new w 24 #[.int .i64 0]).frozen 0))
    have HB := Lib.hid hb1
    obtain ⟨tt, xx, rfl⟩ := hk.iface
    clear hg hk h0 hb1
    go_enter Tryz.func18, Tryz.ntmps18
    go_wp2_with fail
    refine HA.out.mono ?_
    rintro e w2 ⟨rfl, hc, hu⟩
    have hfin : Hid (Below w.heap.size w w2) := (Upd.pre HB.out hu).bel (Nat.le_refl _) (fun k hk => by cases hk; exact Nat.le_refl _)
    clear hu
    go_wp2_with fail
    go_ret
    exact ⟨rfl, hfin.out⟩
end Go.Proofs.YtejnfahfjmeabaaGreatDoor
