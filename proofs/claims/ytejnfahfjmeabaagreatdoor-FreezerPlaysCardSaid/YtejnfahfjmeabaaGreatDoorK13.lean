/- the texts M76, M77, C3a of this proof, one behind the other -/
import Derived.Test.YtejnfahfjmeabaaGreatDoorK12
import Derived.SizedLaws
set_option linter.unusedSimpArgs false
set_option linter.unusedVariables false
namespace Go.Proofs.YtejnfahfjmeabaaGreatDoor
open Go.RowKit
set_option linter.unusedSimpArgs false
set_option linter.unusedVariables false

theorem stepM_inv (tables : Nat) (m : MSt) (k : Nat) (o : MOp) (i : Nat) (h1 : m.tail ≤ m.head) (h2 : m.head ≤ i) (h3 : m.sure ≤ i) (h4 : ∀ vs ∈ m.all, rightB tables vs = true) :
    (stepM tables m k o).2.tail ≤ (stepM tables m k o).2.head ∧ (stepM tables m k o).2.head ≤ i + 1 ∧ (stepM tables m k o).2.sure ≤ i + 1 ∧ ∀ vs ∈ (stepM tables m k o).2.all, rightB tables vs = true := by
  have hsame : m.tail ≤ m.head ∧ m.head ≤ i + 1 ∧ m.sure ≤ i + 1 ∧ ∀ vs ∈ m.all, rightB tables vs = true := ⟨h1, by omega, by omega, h4⟩
  cases o with
  | app n vs =>
    rw [stepM_app]
    by_cases hr : rightB tables vs = false
    · rw [if_pos hr]; exact hsame
    rw [if_neg hr]
    by_cases hn : n ≠ m.head
    · rw [if_pos hn]; exact hsame
    rw [if_neg hn]
    by_cases hk : k = 0
    · rw [if_pos hk]
      refine ⟨by show m.tail ≤ m.head + 1; omega, by show m.head + 1 ≤ _; omega, by show m.sure ≤ _; omega, fun us hus => ?_⟩
      rcases List.mem_append.1 hus with h | h
      · exact h4 us h
      · obtain rfl := List.mem_singleton.1 h
        simpa using hr
    · rw [if_neg hk]; exact hsame
  | cutH n =>
    rw [stepM_cutH]
    by_cases hb : n < m.tail ∨ m.head < n
    · rw [if_pos hb]; exact hsame
    rw [if_neg hb]
    by_cases hk : k = 0
    · rw [if_pos hk]
      exact ⟨by show m.tail ≤ n; omega, by show n ≤ _; omega, by show n ≤ _; omega, fun us hus => h4 us (List.mem_of_mem_take hus)⟩
    · rw [if_neg hk]; exact hsame
  | cutT n =>
    rw [stepM_cutT]
    by_cases hb : n < m.tail ∨ m.head < n
    · rw [if_pos hb]; exact hsame
    rw [if_neg hb]
    by_cases hk : k = 0
    · rw [if_pos hk]
      exact ⟨by show n ≤ m.head; omega, by show m.head ≤ _; omega, by show m.sure ≤ _; omega, h4⟩
    · rw [if_neg hk]; exact hsame
  | sync =>
    by_cases hk : k = 0
    · have e : stepM tables m k .sync = (0, ⟨m.tail, m.head, m.head, m.all⟩) := if_pos hk
      rw [e]
      exact ⟨h1, by show m.head ≤ _; omega, by show m.head ≤ _; omega, h4⟩
    · have e : stepM tables m k .sync = (0, m) := if_neg hk
      rw [e]; exact hsame
theorem mdoes_calls {P : Blocks → World → Prop} {Q : Nat → Blocks → World → Prop} {w W : World} {mb : Blocks} {b f tables : Nat} {iv : Value} {m : MSt} {els : List Value} {s : StepP} {V : Option Addr} {n c : Nat} (H : DoesIn P Q w W mb b f tables iv m els s V n c) :
    Calls Tryz.prog 24 #[.pointer (some ⟨b, 0, none⟩), .pointer (some ⟨f, 0, none⟩), .agg (stepV s V n c)] W (DoesQ Q w b tables m (opOf m.tail m.head s)) := by
  by_cases h1 : s.what % 6 < 2
  · exact mdoes_app H h1
  by_cases h2 : s.what % 6 = 2
  · exact does_cutH H h2
  by_cases h3 : s.what % 6 = 3
  · exact does_cutT H h3
  · exact does_sync H (by omega)
/-- the law's loop -/
structure PlayI (w wr : World) (tables b f d i : Nat) (m : MSt) (iv : Value) (els : List Value) (mb : Blocks) : Prop where
  frz : PF w tables f d (10 + 2 * i) (150 + 140000 * i) m mb wr
  mod : ModP w wr mb b tables iv m.tail m.head m.sure els m.all
  bel : Below w.heap.size w wr
  le : m.tail ≤ m.head
  head : m.head ≤ i
  sure : m.sure ≤ i
  rows : ∀ vs ∈ m.all, rightB tables vs = true
theorem PlayI.below {w wr w' : World} {tables b f d i : Nat} {m : MSt} {iv : Value} {els : List Value} {mb : Blocks} (h : PlayI w wr tables b f d i m iv els mb) (hb : Below wr.heap.size wr w') : PlayI w w' tables b f d i m iv els mb :=
  ⟨(PF.apart ..).sub ((PF.apart ..).below h.frz hb) (fun k hk => .inl hk), h.mod.below hb, thn h.bel hb, h.le, h.head, h.sure, h.rows⟩
theorem PlayI.tells {w wr : World} {tables b f d i : Nat} {m : MSt} {iv : Value} {els : List Value} {mb : Blocks} (h : PlayI w wr tables b f d i m iv els mb) (hg : Glob w) (ht1 : 1 ≤ tables) (ht8 : tables ≤ 8) (hi : i ≤ 51) :
    Calls Tryz.prog 25 #[.pointer (some ⟨b, 0, none⟩), .pointer (some ⟨f, 0, none⟩)] wr fun e w' => e = .returned (.bool true) ∧ Below wr.heap.size wr w' := by
  obtain ⟨s, l, z, D, fs, h1, h2, h3, h4, h5, h6⟩ := h.frz
  have := h.head
  exact tells_calls (s := s) (N := 10 + 2 * i) (cap := 16777216) (d := d) (l := l) (z := z) (D := D) (num := 0) (fs := fs) ⟨h1, h2, h3, h.mod, h.le, h.rows, h.bel⟩ hg ht1 ht8 (by omega) (by omega)
/-- a step is done -/
theorem PlayI.does {w wr : World} {tables b f d i : Nat} {m : MSt} {iv : Value} {els : List Value} {mb : Blocks} (h : PlayI w wr tables b f d i m iv els mb) (ht1 : 1 ≤ tables) (ht8 : tables ≤ 8) (hi : i ≤ 50) (s : StepP) (V : Option Addr) (n c : Nat) (hv : RdM w V n c s.vs) (hs : ∀ v ∈ s.vs, v.length ≤ 140737488355328) (hn : n ≤ 1000000) (h1 : s.what ≤ 9223372036854775807) (h2 : s.n ≤ 9223372036854775807) :
    Calls Tryz.prog 24 #[.pointer (some ⟨b, 0, none⟩), .pointer (some ⟨f, 0, none⟩), .agg (stepV s V n c)] wr fun e w' => ∃ (v : Value) (k : Nat) (m' : MSt) (iv' : Value) (els' : List Value) (mb' : Blocks), e = .returned (.tuple #[v, .int .i64 (k : Int)]) ∧ ErrR w' v k ∧ PlayI w w' tables b f d (i + 1) m' iv' els' mb' := by
  have hh := h.head
  have H : DoesIn (PF w tables f d (10 + 2 * i) (150 + 140000 * i) m) (PQ w tables f d (10 + 2 * i + 2) (150 + 140000 * i + 140000) m (opOf m.tail m.head s)) w wr mb b f tables iv m els s V n c := {
    hP := PF.apart ..
    hQ := fun k => PQ.apart ..
    mod := h.mod
    frz := h.frz
    bel := h.bel
    val := hv
    short := hs
    few := hn
    what := h1
    num := h2
    le := h.le
    head := by omega
    sure := by have := h.sure; omega
    op := fun mb' W' hp hs hb hbel => play_ops hp hbel (fun x hx => (hb x hx).2) ht1 ht8 (by omega) (by omega) h.le h.mod.len (by omega) _ }
  refine (mdoes_calls H).mono ?_
  rintro e w' ⟨v, k, iv', els', mb', rfl, he, ⟨hk, hF⟩, hM, hb⟩
  obtain ⟨i1, i2, i3, i4⟩ := stepM_inv tables m k (opOf m.tail m.head s) i h.le h.head h.sure h.rows
  refine ⟨v, k, _, iv', els', mb', by rw [← hk], he, ?_, hM, hb, i1, i2, i3, i4⟩
  exact hF.mono (by omega) (by omega)
/-- a freezer that is closed -/
structure CloZ (w W : World) (tables b f d i : Nat) (m : MSt) (iv : Value) (els : List Value) (mb : Blocks) : Prop where
  frz : ∃ s A c sd ivf q l z D fs, FrzP W s f d 16777216 D true 0 fs (playT tables) (fileL (playT tables) l).length z false true sd A c ivf q ∧ FDk W sd d 16777216 (10 + 2 * i) (playT tables) l z (m.all.drop m.tail) D 0 fs ∧ z.tail = m.tail ∧ z.head = m.head ∧ l.length ≤ 10 + 2 * i ∧ (fileL (playT tables) l).length ≤ 150 + 140000 * i ∧ ∀ x, s x → w.heap.size ≤ x ∧ ¬ mb x
  mod : ModP w W mb b tables iv m.tail m.head m.sure els m.all
  bel : Below w.heap.size w W
theorem CloZ.below {w W W' : World} {tables b f d i : Nat} {m : MSt} {iv : Value} {els : List Value} {mb : Blocks} (h : CloZ w W tables b f d i m iv els mb) (hb : Below W.heap.size W W') : CloZ w W' tables b f d i m iv els mb := by
  obtain ⟨s, A, c, sd, ivf, q, l, z, D, fs, h1, h2, h3⟩ := h.frz
  exact ⟨⟨s, A, c, sd, ivf, q, l, z, D, fs, h1.below hb, h2.below hb, h3⟩, h.mod.below hb, thn h.bel hb⟩
theorem PlayI.close {w wr : World} {tables b f d i : Nat} {m : MSt} {iv : Value} {els : List Value} {mb : Blocks} (h : PlayI w wr tables b f d i m iv els mb) :
    Calls Tryz.prog 16 #[.pointer (some ⟨f, 0, none⟩)] wr fun e w' => e = .returned .nilIface ∧ CloZ w w' tables b f d i m iv els mb := by
  obtain ⟨s, l, z, D, fs, h1, h2, h3, h4, h5, h6⟩ := h.frz
  obtain ⟨A, c, sd, ivf, q, hf⟩ := h1.frz
  refine (close_ok f d z.tail (fileL (playT tables) l).length _ ivf false wr hf.blk).mono ?_
  rintro e w' ⟨rfl, hw⟩
  have hz : w'.heap.size = wr.heap.size := by rw [hw]; simp [World.setCell]
  have H := hf.own (size' := (fileL (playT tables) l).length) (dead' := false) (closed' := true) (w' := w') (by rw [hw]; exact (hf.blk.set_ 6 _).eq_ rfl) (fun k hk => by rw [hw]; exact Below.heap_setCell wr ⟨f, 6, none⟩ _ k hk) hz
  have hu : Upd (one f) (one f) wr w' := by rw [hw]; exact (Upd.refl (one f) wr).set (p := ⟨f, 6, none⟩) rfl _
  have hfm : ¬ mb f := (h6 f hf.fin).2
  refine ⟨rfl, ⟨s, A, c, sd, ivf, q, l, z, D, fs, H, ⟨H.disk, h1.calm, h1.files, h1.count, h1.bytes, h1.pend, h1.play, h1.valid, h1.told⟩, h2, h3, h4, h5, h6⟩, h.mod.keeps (fun x hx => hu.block x (h.mod.lt x hx).2 (fun e => hfm (by cases e; exact hx))) hu.size, h.bel.trans (hu.bel h.bel.size (fun x hx => by cases hx; exact (h6 f hf.fin).1))⟩
theorem CloZ.again {w W : World} {tables b f d i : Nat} {m : MSt} {iv : Value} {els : List Value} {mb : Blocks} (h : CloZ w W tables b f d i m iv els mb) : Calls Tryz.prog 16 #[.pointer (some ⟨f, 0, none⟩)] W (ErrN W 122) := by
  obtain ⟨s, A, c, sd, ivf, q, l, z, D, fs, h1, h2, h3⟩ := h.frz
  exact close_no f d _ _ _ _ _ W h1.blk
theorem CloZ.sync {w W : World} {tables b f d i : Nat} {m : MSt} {iv : Value} {els : List Value} {mb : Blocks} (h : CloZ w W tables b f d i m iv els mb) : Calls Tryz.prog 19 #[.pointer (some ⟨f, 0, none⟩)] W (ErrN W 122) := by
  obtain ⟨s, A, c, sd, ivf, q, l, z, D, fs, h1, h2, h3⟩ := h.frz
  exact sync_no f d _ _ _ _ false true rfl W h1.blk
theorem CloZ.head {w W : World} {tables b f d i : Nat} {m : MSt} {iv : Value} {els : List Value} {mb : Blocks} (h : CloZ w W tables b f d i m iv els mb) (hh : m.head ≤ 1000000) : Calls Tryz.prog 14 #[.pointer (some ⟨f, 0, none⟩)] W fun e w' => e = .returned (.int .i64 (m.head : Int)) ∧ ∃ q, w' = W.drewN q := by
  obtain ⟨s, A, c, sd, ivf, q, l, z, D, fs, h1, h2, h3, h4, _⟩ := h.frz
  obtain ⟨Ai, ci, hiv, hic, hcm2⟩ := h1.items.slice
  subst hiv
  rw [← h4]
  exact head_n f d z.tail z.items.length ci _ _ Ai false true W h1.blk (by have : z.tail + z.items.length = z.head := rfl; omega)
theorem CloZ.open {w W : World} {tables b f d i : Nat} {m : MSt} {iv : Value} {els : List Value} {mb : Blocks} (h : CloZ w W tables b f d i m iv els mb) (hle : m.tail ≤ m.head) (hhd : m.head ≤ i) (hsu : m.sure ≤ i) (hrw : ∀ vs ∈ m.all, rightB tables vs = true) (hg : Glob w) (ht1 : 1 ≤ tables) (ht8 : tables ≤ 8) (hi : i ≤ 50) {A : Option Addr} {n c : Nat} (hr : RdT W A n c (playT tables)) :
    Calls Tryz.prog 9 #[.pointer (some ⟨d, 0, none⟩), .slice A n c] W fun e w' => ∃ f', e = .returned (.tuple #[.pointer (some ⟨f', 0, none⟩), .nilIface]) ∧ PlayI w w' tables b f' d (i + 1) m iv els mb := by
  obtain ⟨s, A2, c2, sd, ivf, q, l, z, D, fs, h1, h2, h3, h4, h5, h6, h7⟩ := h.frz
  refine (h2.open (hg.below h.bel) hr (playT_ok tables ht1 ht8) (by omega) (by omega) (by omega)).mono ?_
  rintro e w' ⟨f', rfl, ⟨D', fs', g1⟩, g2, g3⟩
  have hsd : ∀ x, sd x → w.heap.size ≤ x ∧ ¬ mb x := fun x hx => h7 x (h1.sub x hx)
  refine ⟨f', rfl, ⟨grow sd W w', l, z, D', fs', g1.mono (by omega), h3, h4, by omega, by omega, fun x hx => ?_⟩, h.mod.keeps (fun x hx => g2.block x (h.mod.lt x hx).2 (fun e => (hsd x e).2 hx)) g2.size, h.bel.trans (g2.bel h.bel.size (fun x hx => (hsd x hx).1)), hle, by omega, by omega, hrw⟩
  rcases hx with hx | hx
  · exact hsd x hx
  · exact ⟨by have := h.bel.size; omega, fun e => by have := (h.mod.lt x e).2; omega⟩
end Go.Proofs.YtejnfahfjmeabaaGreatDoor
namespace Go.Proofs.YtejnfahfjmeabaaGreatDoor
open Go.RowKit
set_option linter.unusedSimpArgs false
set_option linter.unusedVariables false

/-- what is known of the steps beside their reading -/
def StepsOk (ss : List RawStep) : Prop := ∀ s ∈ ss, s.what ≤ 9223372036854775807 ∧ s.num ≤ 9223372036854775807 ∧ ∀ v ∈ s.vs, v.length ≤ 140737488355328
set_option maxRecDepth 100000 in
set_option maxHeartbeats 4000000 in
theorem plays_good (tables : Nat) (ht1 : 1 ≤ tables) (ht8 : tables ≤ 8) (A : Option Addr) (n c : Nat) (ss : List RawStep) (w : World) (hg : Glob w) (h : RdSt w A n c ss) (hok : StepsOk ss) :
    Calls Tryz.prog 5 #[.int .i64 (tables : Int), .slice A n c] w fun e w' => e = .returned (.bool true) ∧ Below w.heap.size w w' := by
  have HK := Lib.hid (known_calls w hg)
  have HG := Lib.hid hg
  have HH := Lib.hid h
  have HOK := Lib.hid hok
  have HT := Lib.hid (show 1 ≤ tables ∧ tables ≤ 8 from ⟨ht1, ht8⟩)
  have hn63 : n ≤ 9223372036854775807 := by have := h.2.1; have := h.2.2.1; unfold maxLen at this; omega
  have d1 : decide ((tables : Int) < 1) = false := by rw [decide_eq_false_iff_not]; omega
  have d2 : decide ((tables : Int) > 8) = false := by rw [decide_eq_false_iff_not]; omega
  have d1' : decide (tables < 1) = false := by rw [decide_eq_false_iff_not]; omega
  have d2' : decide (8 < tables) = false := by rw [decide_eq_false_iff_not]; omega
  clear hg h hok
  go_enter Tryz.func5, Tryz.ntmps5
  go_wp2_with fail
  refine HK.out.mono ?_
  rintro e w1 ⟨rfl, hb1⟩
  have HB1 := Lib.hid hb1
  have HFE := Lib.hid (few_calls A n c ss w1 (HH.out.below hb1))
  clear hb1
  go_wp2_with fail
  clear d1 d2 d1' d2'
  refine HFE.out.mono ?_
  rintro e w2 ⟨q, rfl, hq, hb2⟩
  have HB2 := Lib.hid (thn HB1.out hb2)
  clear hb2
  cases q with
  | false =>
    clear hq
    go_wp2_with fail
    go_ret
    exact ⟨rfl, HB2.out⟩
  | true =>
    have HF := Lib.hid (hq rfl)
    have HN := Lib.hid (New_disk 16777216 (by omega) w2)
    clear hq
    go_wp2_with fail
    refine HN.out.mono ?_
    rintro e w3 ⟨d, sd, rfl, hD, hge, hb3⟩
    have HB3 := Lib.hid (thn HB2.out hb3)
    have HD3 := Lib.hid hD
    have HGE := Lib.hid (show ∀ k, sd k → w.heap.size ≤ k from fun k hk => Nat.le_trans HB2.out.size (hge k hk))
    have HNM := Lib.hid (names_calls tables ht1 ht8 w3)
    clear hD hge hb3
    go_wp2_with fail
    refine HNM.out.mono ?_
    rintro e w4 ⟨A4, rfl, hr4, hb4⟩
    have HB4 := Lib.hid (thn HB3.out hb4)
    have HO := Lib.hid (open_new sd d 16777216 A4 tables tables (playT tables) w4 (HD3.out.below hb4) hr4 (playT_ok tables ht1 ht8) (by omega) (by omega))
    clear hr4 hb4
    go_wp2_with fail
    refine HO.out.mono ?_
    rintro e w5 ⟨f, D5, fs5, rfl, hF, hU, hf5⟩
    have HF5 := Lib.hid hF
    have HU5 := Lib.hid hU
    clear hF hU hf5
    obtain ⟨MX, hMX⟩ : ∃ MX : Obj, MX = .cells #[.int .i64 (tables : Int), .slice none 0 0, .int .i64 0, .int .i64 0, .int .i64 0] 51 := ⟨_, rfl⟩
    have HST : Hid (PlayI w (w5.alloc MX) tables w5.heap.size f d 0 ⟨0, 0, 0, []⟩ (.slice none 0 0) [] (one w5.heap.size)) := by
      have hba : Below w5.heap.size w5 (w5.alloc MX) := (Below.refl _ _).alloc (Nat.le_refl _) _
      have hge5 : ∀ k, grow sd w4 w5 k → w.heap.size ≤ k := grow_ge HGE.out HB4.out.size
      have hb5 : Below w.heap.size w w5 := HB4.out.trans (HU5.out.bel HB4.out.size HGE.out)
      have hz : (w5.alloc MX).heap.size = w5.heap.size + 1 := by simp
      have hlt := HF5.out.lt
      refine ⟨⟨grow sd w4 w5, [], z0, D5, fs5, HF5.out.below hba, rfl, rfl, by simp, ?_, fun x hx => ⟨hge5 x hx, fun e => ?_⟩⟩, ⟨?_, ⟨rfl, fun j v vs h1 => by simp at h1, .inl ⟨rfl, rfl⟩⟩, rfl, rfl, fun k hk => ?_⟩, hb5.alloc hb5.size _, Nat.le_refl _, Nat.le_refl _, Nat.le_refl _, by simp⟩
      · have e : fileL (playT tables) [] = headL (playT tables) := by unfold fileL logB; simp
        rw [e]
        exact headL_len (playT_ok tables HT.out.1 HT.out.2)
      · cases e
        have := hlt _ hx
        omega
      · rw [hMX]
        exact Blk.new w5 51 _
      · cases hk
        have := hb5.size
        omega
    rw [hMX] at HST
    clear hMX
    go_wp2_with fail
    go_loopw [7, 10] (fun fv iv wr => ∃ (i f : Nat) (m : MSt) (iv' : Value) (els : List Value) (mb : Blocks), i ≤ n ∧ fv = .pointer (some ⟨f, 0, none⟩) ∧ iv = .int .i64 (i : Int) ∧ PlayI w wr tables w5.heap.size f d i m iv' els mb) (fun _ iv _ => n - (intOf iv).toNat)
    case atStart => exact ⟨0, f, _, _, _, _, Nat.zero_le _, rfl, rfl, HST.out⟩
    case round =>
      obtain ⟨i, f2, m, iv', els, mb, hi, rfl, rfl, hP⟩ := hrel
      obtain ⟨wo, rfl⟩ : ∃ wo : World, wo = wr := ⟨_, rfl⟩
      have HP := Lib.hid hP
      clear hP HST HO HNM HN HFE HK
      have hn50 : n ≤ 50 := by rw [← HH.out.1]; exact HF.out.1
      by_cases hlt : i < n
      · obtain ⟨g, o, rfl, hc⟩ := HH.out.2.2.2 (by omega)
        have hil : i < ss.length := by rw [HH.out.1]; exact hlt
        obtain ⟨s, hs⟩ : ∃ s, ss[i]? = some s := ⟨_, List.getElem?_eq_getElem hil⟩
        have hm := List.mem_of_getElem? hs
        obtain ⟨V, mv, dv, g1, g2, g3, hv⟩ := hc i s hs
        obtain ⟨k1, k2, k3⟩ := HF.out.2 s hm
        obtain ⟨k4, k5, k6⟩ := HOK.out s hm
        obtain ⟨a, ha⟩ := Int.eq_ofNat_of_zero_le k1
        obtain ⟨b, hb⟩ := Int.eq_ofNat_of_zero_le k2
        rw [ha] at g1
        rw [hb] at g2
        have c0 := cell_below' HP.out.bel g1
        have c1 := cell_below' HP.out.bel g2
        have c2 := cell_below' HP.out.bel g3
        have hkI : (0 : Int) ≤ (i : Int) ∧ (i : Int) < (n : Int) := by omega
        have HMO := Lib.hid (mod_calls a 11 (by omega) (by omega) (by omega) wo)
        have HDO := Lib.hid (HP.out.does HT.out.1 HT.out.2 (by omega) ⟨a, b, s.vs⟩ V mv dv hv k6 (by have := hv.1; omega) (by show a ≤ _; omega) (by show b ≤ _; omega))
        have HI := Lib.hid (show i < n ∧ n ≤ 50 from ⟨hlt, hn50⟩)
        clear hc hil hs hm hv k1 k2 k3 k4 k5 k6 ha hb g1 g2 g3
        by_cases h10 : a % 11 = 10
        · rw [h10] at HMO
          have HPd := Lib.hid (HP.out.below ((Below.refl _ wo).drew))
          have HC1 := Lib.hid HPd.out.close
          obtain ⟨mh, hmh⟩ : ∃ mh, mh = m.head := ⟨_, rfl⟩
          have HMH := Lib.hid hmh
          have HCE : Hid (∀ W, CloZ w W tables w5.heap.size f2 d i m iv' els mb → W.cell? ⟨w5.heap.size, 3, none⟩ = some (.int .i64 (mh : Int))) := fun W hW => by rw [HMH.out]; exact hW.mod.cells.2.2.2.1
          have s0 : wo.drew.cell? ⟨w5.heap.size, 3, none⟩ = some (.int .i64 (mh : Int)) := by rw [hmh]; exact HP.out.mod.cells.2.2.2.1
          clear h10 HDO hmh
          go_wp2_with fail
          refine HMO.out.mono ?_
          rintro e w6 ⟨rfl, rfl⟩
          go_wp2_with fail
          clear c0 c1 c2
          go_region_held3 (fun W => W.cell? ⟨w5.heap.size, 3, none⟩ = some (.int .i64 (mh : Int))) (first | exact s0 | exact HCE.out _ HZ7.out | exact HCE.out _ HZ8.out | exact HCE.out _ HZ9.out | exact HCE.out _ HZ10.out | exact HCE.out _ HZ11.out | exact HCE.out _ HZ12.out)
            (first
              | (go_at_call 16; (with_reducible refine HC1.out.mono ?_); rintro e w7 ⟨rfl, hz7⟩; have HZ7 := Lib.hid hz7; have HA7 := Lib.hid hz7.again; clear hz7)
              | (go_at_call 16; (with_reducible refine HA7.out.mono ?_); rintro e w8 ⟨v8, rfl, hv8, hb8⟩; have HZ8 := Lib.hid (HZ7.out.below hb8); have HO8 := Lib.hid (Of_calls v8 122 w8 (HG.out.below HZ8.out.bel).err hv8); clear hv8 hb8)
              | (go_at_call 18; (with_reducible refine HO8.out.mono ?_); rintro e w9 ⟨rfl, hb9⟩; have HZ9 := Lib.hid (HZ8.out.below hb9); have HS9 := Lib.hid HZ9.out.sync; clear hb9)
              | (go_at_call 19; (with_reducible refine HS9.out.mono ?_); rintro e w10 ⟨v10, rfl, hv10, hb10⟩; have HZ10 := Lib.hid (HZ9.out.below hb10); have HO10 := Lib.hid (Of_calls v10 122 w10 (HG.out.below HZ10.out.bel).err hv10); clear hv10 hb10)
              | (go_at_call 18; (with_reducible refine HO10.out.mono ?_); rintro e w11 ⟨rfl, hb11⟩; have HZ11 := Lib.hid (HZ10.out.below hb11); have HH11 := Lib.hid (HZ11.out.head (by have := HP.out.head; have := HI.out; omega)); rw [← HMH.out] at HH11; clear hb11)
              | (go_at_call 14; (with_reducible refine HH11.out.mono ?_); rintro e w12 ⟨rfl, q12, rfl⟩; have HZ12 := Lib.hid (HZ11.out.below (below_drewN q12))))
          have HNM2 := Lib.hid (names_calls tables HT.out.1 HT.out.2 (w11.drewN q12))
          clear s0
          go_wp2_with fail
          refine HNM2.out.mono ?_
          rintro e w13 ⟨A13, rfl, hr13, hb13⟩
          have HZ13 := Lib.hid (HZ12.out.below hb13)
          have HO13 := Lib.hid (HZ13.out.open HP.out.le HP.out.head HP.out.sure HP.out.rows HG.out HT.out.1 HT.out.2 (by have := HI.out; omega) hr13)
          clear hr13 hb13
          go_wp2_with fail
          refine HO13.out.mono ?_
          rintro e w14 ⟨f3, rfl, hP14⟩
          have HP14 := Lib.hid hP14
          have HTE := Lib.hid (hP14.tells HG.out HT.out.1 HT.out.2 (by have := HI.out; omega))
          clear hP14
          go_wp2_with fail
          refine HTE.out.mono ?_
          rintro e w15 ⟨rfl, hb15⟩
          have HP15 := Lib.hid (HP14.out.below hb15)
          clear hb15
          go_wp2_with fail
          go_roundw
          case rel => exact ⟨i + 1, f3, _, _, _, _, HI.out.1, rfl, by go_num, HP15.out⟩
          case measure => have := HI.out; simp [intOf]; omega
        · obtain ⟨r, hr⟩ : ∃ r, r = a % 11 := ⟨_, rfl⟩
          rw [← hr] at HMO h10
          have hr1 : ¬ (r : Int) = 10 := by omega
          have hr2 : ((r : Int) == 10) = false := by rw [beq_eq_false_iff_ne]; exact hr1
          clear h10 hr
          go_wp2_with fail
          refine HMO.out.mono ?_
          rintro e w6 ⟨rfl, rfl⟩
          go_wp2_with fail
          refine HDO.out.mono ?_
          rintro e w7 ⟨v, k, m', iv2, els2, mb2, rfl, he, hP7⟩
          have HP7 := Lib.hid hP7
          have HOF := Lib.hid (Of_calls v k w7 (HG.out.below hP7.bel).err he)
          clear he hP7 c0 c1 c2
          go_wp2_with fail
          refine HOF.out.mono ?_
          rintro e w8 ⟨rfl, hb8⟩
          have HP8 := Lib.hid (HP7.out.below hb8)
          have HTE := Lib.hid (HP8.out.tells HG.out HT.out.1 HT.out.2 (by have := HI.out; omega))
          clear hb8
          go_wp2_with fail
          refine HTE.out.mono ?_
          rintro e w9 ⟨rfl, hb9⟩
          have HP9 := Lib.hid (HP8.out.below hb9)
          clear hb9
          go_wp2_with fail
          go_roundw
          case rel => exact ⟨i + 1, f2, _, _, _, _, HI.out.1, rfl, by go_num, HP9.out⟩
          case measure => have := HI.out; simp [intOf]; omega
      · obtain rfl : i = n := by omega
        have hI : ¬ (i : Int) < (i : Int) := by omega
        clear hlt hi
        have HB := Lib.hid HP.out.bel
        go_wp2_with fail
        go_ret
        exact ⟨rfl, HB.out⟩
set_option maxRecDepth 100000 in
set_option maxHeartbeats 1000000 in
theorem plays_out (tables : Int) (ht : tables < 1 ∨ 8 < tables) (A : Option Addr) (n c : Nat) (w : World) (hg : Glob w) :
    Calls Tryz.prog 5 #[.int .i64 tables, .slice A n c] w fun e w' => e = .returned (.bool true) ∧ Below w.heap.size w w' := by
  have HK := Lib.hid (known_calls w hg)
  clear hg
  go_enter Tryz.func5, Tryz.ntmps5
  go_wp2_with fail
  refine HK.out.mono ?_
  rintro e w1 ⟨rfl, hb1⟩
  by_cases h1 : tables < 1
  · have d1 : decide (tables < 1) = true := decide_eq_true h1
    clear h1 ht
    go_wp2_with fail
    go_ret
    exact ⟨rfl, hb1⟩
  · have h2 : 8 < tables := ht.resolve_left h1
    have d1 : decide (tables < 1) = false := decide_eq_false h1
    have d2 : decide (tables > 8) = true := decide_eq_true h2
    clear h1 h2 ht
    go_wp2_with fail
    go_ret
    exact ⟨rfl, hb1⟩
theorem plays_calls (tables : Int) (A : Option Addr) (n c : Nat) (ss : List RawStep) (w : World) (hg : Glob w) (h : RdSt w A n c ss) (hok : StepsOk ss) :
    Calls Tryz.prog 5 #[.int .i64 tables, .slice A n c] w fun e w' => e = .returned (.bool true) ∧ Below w.heap.size w w' := by
  by_cases ht : tables < 1 ∨ 8 < tables
  · exact plays_out tables ht A n c w hg
  · obtain ⟨t, rfl⟩ := Int.eq_ofNat_of_zero_le (show 0 ≤ tables by omega)
    exact plays_good t (by omega) (by omega) A n c ss w hg h hok
end Go.Proofs.YtejnfahfjmeabaaGreatDoor
namespace Go.Proofs.YtejnfahfjmeabaaGreatDoor
open Go.ChangeShapes Go.WideShapes Go.ChangeAt Go.RowKit
set_option linter.unusedSimpArgs false
set_option linter.unusedVariables false

theorem exists_list {α : Type} (P : Nat → α → Prop) : ∀ n : Nat, (∀ j, j < n → ∃ a, P j a) → ∃ l : List α, l.length = n ∧ ∀ (j : Nat) a, l[j]? = some a → P j a
  | 0, _ => ⟨[], rfl, fun j a h => by simp at h⟩
  | n + 1, h => by
    obtain ⟨l, hl, hp⟩ := exists_list P n (fun j hj => h j (by omega))
    obtain ⟨a, ha⟩ := h n (by omega)
    refine ⟨l ++ [a], by simp [hl], fun j b hj => ?_⟩
    by_cases e : j < n
    · rw [List.getElem?_append_left (by omega)] at hj
      exact hp j b hj
    · rw [List.getElem?_append_right (by omega)] at hj
      have hj0 : j - l.length = 0 := by
        have := (List.getElem?_eq_some_iff.1 hj).1
        simp at this
        omega
      rw [hj0] at hj
      simp at hj
      obtain rfl : j = n := by omega
      rw [← hj]; exact ha
theorem weightsAll_mem {H : Type} {P : Program} {e : TypeId} : ∀ {l : List (DataW H)} {d : DataW H}, d ∈ l → ∀ n ∈ d.weights P e, n ∈ DataW.weightsAll P e l
  | x :: l, d, hd, n, hn => by
    simp only [DataW.weightsAll, List.mem_append]
    rcases List.mem_cons.1 hd with rfl | hd
    · exact .inl hn
    · exact .inr (weightsAll_mem hd n hn)
/-- a slice of bytes that came in -/
theorem open_bytes {H : Type} {enc : TypeId × Value → H} {P : Program} {W : World} {base : Nat} {spare : Nat → Bool} {held : Bool} {t e : TypeId} {A : Option Addr} {n c : Nat} {x : DataW H × List MemPlace} {fuel : Nat}
    (ht : P.underlying t = some (.slice e)) (he : P.underlying e = some (.int .u8)) (hc : P.cellsOf e = 1) (h : DataW.trod enc P W base spare held fuel t [.slice A n c] = some x) :
    ∃ xs, RdB W A n c xs := by
  rcases open_ints ht he hc h with ⟨hcs, _⟩ | ⟨a, l, cap, zs, hcs, _, hl, hm, hzl, _, hcell, hwz⟩
  · simp at hcs
    obtain ⟨rfl, rfl, rfl⟩ := hcs
    exact ⟨[], rfl, Nat.le_refl _, by unfold maxLen; omega, fun hp => absurd hp (by omega)⟩
  · simp at hcs
    obtain ⟨rfl, rfl, rfl⟩ := hcs
    have hnz : n ≤ zs.length := by rw [hzl]; split <;> omega
    refine ⟨(zs.take n).map fun z => UInt8.ofNat z.toNat, by rw [List.length_map, List.length_take]; omega, hl, hm, fun hp => ⟨a, rfl, fun j u hu => ?_⟩⟩
    simp only [List.getElem?_map, Option.map_eq_some_iff, List.getElem?_take] at hu
    obtain ⟨z, hz', rfl⟩ := hu
    split at hz'
    · have hj := (List.getElem?_eq_some_iff.1 hz').1
      have h1 := hcell j hj
      have e1 : zs.getD j 0 = z := by simp [List.getD_eq_getElem?_getD, hz']
      rw [e1] at h1
      rw [h1]
      have hw := hwz z (List.mem_of_getElem? hz')
      have : 0 ≤ z ∧ z ≤ 255 := by simpa [Lit.wf, IntKind.min, IntKind.max, IntKind.signed, IntKind.bits] using hw
      simp [bv]; omega
    · cases hz'
section
variable {H : Type} {enc : TypeId × Value → H} {W : World} {base : Nat} {spare : Nat → Bool} {held : Bool}
theorem Tryz.bytesOf5 : Tryz.prog.bytesOf 5 = 1 := by kernel_rfl
theorem Tryz.cellsOf5 : Tryz.prog.cellsOf 5 = 1 := by kernel_rfl
theorem Tryz.cellsOf34 : Tryz.prog.cellsOf 34 = 1 := by kernel_rfl
theorem Tryz.cellsOf35 : Tryz.prog.cellsOf 35 = 1 := by kernel_rfl
theorem Tryz.cellsOf3 : Tryz.prog.cellsOf 3 = 1 := by kernel_rfl
theorem Tryz.cellsOf54 : Tryz.prog.cellsOf 54 = 3 := by kernel_rfl
theorem Tryz.bytesOf34 : Tryz.prog.bytesOf 34 = 24 := by kernel_rfl
theorem Tryz.bytesOf54 : Tryz.prog.bytesOf 54 = 40 := by kernel_rfl
/-- bytes in a field -/
theorem open_bytesF {fuel : Nat} {c : List Value} {x : DataW H × List MemPlace} (h : DataW.trod enc Tryz.prog W base spare held fuel 34 c = some x) :
    ∃ A n cap xs, c = [.slice A n cap] ∧ RdB W A n cap xs ∧ ((∀ k ∈ x.1.weights Tryz.prog 34, k ≤ reachBytes) → n ≤ reachBytes) := by
  rcases DataW.trod_slice Tryz.underlying34 h with ⟨hc, hx⟩ | ⟨a, len, cap, elems, rest, n, _, hc, hx, _, _, _, hel, _⟩
  · subst hc
    obtain ⟨xs, hr⟩ := open_bytes Tryz.underlying34 Tryz.underlying5 Tryz.cellsOf5 h
    exact ⟨none, 0, 0, xs, rfl, hr, fun _ => Nat.zero_le _⟩
  · subst hc
    obtain ⟨xs, hr⟩ := open_bytes Tryz.underlying34 Tryz.underlying5 Tryz.cellsOf5 h
    refine ⟨some a, len, cap, xs, rfl, hr, fun hw => ?_⟩
    have := hw ((elems.length + rest.length) * 1) (by rw [hx]; simp [DataW.weights, Tryz.underlying34, Tryz.bytesOf5])
    omega
set_option maxRecDepth 100000 in
/-- a list of bytes in a field -/
theorem open_rowsF {fuel : Nat} {c : List Value} {x : DataW H × List MemPlace} (h : DataW.trod enc Tryz.prog W base spare held fuel 35 c = some x) :
    ∃ A n cap vs, c = [.slice A n cap] ∧ RdM W A n cap vs ∧ ((∀ k ∈ x.1.weights Tryz.prog 35, k ≤ reachBytes) → ∀ v ∈ vs, v.length ≤ reachBytes) := by
  rcases DataW.trod_slice Tryz.underlying35 h with ⟨hc, hx⟩ | ⟨a, len, cap, elems, rest, n, _, hc, hx, _, hlc, hcm, hel, hcell, _⟩
  · exact ⟨none, 0, 0, [], hc, ⟨rfl, Nat.le_refl _, by unfold maxLen; omega, fun h => absurd h (by omega)⟩, fun _ => by simp⟩
  · have each : ∀ j, j < len → ∃ v : List UInt8, ∃ B m d, W.cell? (a.add j) = some (.slice B m d) ∧ RdB W B m d v ∧ ((∀ k ∈ x.1.weights Tryz.prog 35, k ≤ reachBytes) → m ≤ reachBytes) := by
      intro j hj
      have h1 := hcell j hj
      rw [List.getElem?_eq_getElem (by omega), Option.bind_eq_some_iff] at h1
      obtain ⟨cs, hcs, h2⟩ := h1
      rw [Tryz.cellsOf34, Nat.mul_one] at hcs
      obtain ⟨_, hl2, hc2⟩ := World.cells?_some hcs
      obtain ⟨B, m, d, xs, e0, r0, w0⟩ := open_bytesF h2
      have hc0 := hc2 0 (by omega)
      subst e0
      refine ⟨xs, B, m, d, ?_, r0, fun hw => w0 (fun k hk => hw k ?_)⟩
      · have ea : (a.add j).add 0 = a.add j := by unfold Addr.add; split <;> (try split) <;> simp_all
        rw [ea] at hc0
        exact hc0
      · rw [hx]
        simp only [DataW.weights, Tryz.underlying35, List.mem_cons, List.mem_append]
        exact .inr (.inl (weightsAll_mem (List.mem_map.2 ⟨elems[j], List.getElem_mem _, rfl⟩) k hk))
    obtain ⟨vs, hkl, hkv⟩ := exists_list _ len each
    refine ⟨some a, len, cap, vs, hc, ⟨hkl, hlc, hcm, fun hp => ⟨a, rfl, fun j v hj => ?_⟩⟩, fun hw v hm => ?_⟩
    · obtain ⟨B, m, d, h1, h2, _⟩ := hkv j v hj
      exact ⟨B, m, d, h1, h2⟩
    · obtain ⟨j, hj⟩ := List.getElem?_of_mem hm
      obtain ⟨B, m, d, _, h2, h5⟩ := hkv j v hj
      rw [h2.1]
      exact h5 hw
set_option maxRecDepth 100000 in
/-- steps among the arguments -/
theorem open_steps {v : Value} {b0 : Nat} {r : Reach} {d : DataW H} {p : List MemPlace} (hv : Value.okWide Tryz.prog W r b0 45 v) (h : DataW.Trod enc Tryz.prog W base spare held 45 v d p) (hw : ∀ k ∈ d.weights Tryz.prog 45, k ≤ reachBytes) :
    ∃ A n c ss, v = .slice A n c ∧ RdSt W A n c ss ∧ StepsOk ss := by
  obtain ⟨a0, len0, cap0, rfl⟩ := okWide_slice Tryz.underlying45 hv
  obtain ⟨fuel, hf⟩ := h
  have hf' : DataW.trod enc Tryz.prog W base spare held fuel 45 [.slice a0 len0 cap0] = some (d, p) := by simpa [Value.cells] using hf
  rcases DataW.trod_slice Tryz.underlying45 hf' with ⟨hc, hx⟩ | ⟨a, len, cap, elems, rest, n, _, hc, hx, _, hlc, hcm, hel, hcell, _⟩
  · obtain ⟨rfl, rfl, rfl⟩ : a0 = none ∧ len0 = 0 ∧ cap0 = 0 := by simpa using hc
    exact ⟨none, 0, 0, [], rfl, ⟨rfl, Nat.le_refl _, by unfold maxLen; omega, fun h => absurd h (by omega)⟩, fun s hs => by cases hs⟩
  · obtain ⟨rfl, rfl, rfl⟩ : a0 = some a ∧ len0 = len ∧ cap0 = cap := by simpa using hc
    have hdx : d = _ := congrArg Prod.fst hx
    have each : ∀ j, j < len0 → ∃ s : RawStep, (∃ V m q, W.cell? ((a.add (j * 3)).add 0) = some (.int .i64 s.what) ∧ W.cell? ((a.add (j * 3)).add 1) = some (.int .i64 s.num) ∧ W.cell? ((a.add (j * 3)).add 2) = some (.slice V m q) ∧ RdM W V m q s.vs) ∧
        s.what ≤ 9223372036854775807 ∧ s.num ≤ 9223372036854775807 ∧ ∀ v ∈ s.vs, v.length ≤ 140737488355328 := by
      intro j hj
      have h1 := hcell j hj
      rw [List.getElem?_eq_getElem (by omega), Option.bind_eq_some_iff] at h1
      obtain ⟨cs, hcs, h2⟩ := h1
      rw [Tryz.cellsOf54] at hcs
      obtain ⟨_, hl2, hc2⟩ := World.cells?_some hcs
      obtain ⟨ys, n2, _, hx2, _, hyl, hfs⟩ := DataW.trod_struct Tryz.underlying54 h2
      have hyl2 : ys.length = 3 := hyl
      have g := fun i (hi : i < 3) => List.getElem?_eq_getElem (l := ys) (i := i) (by omega)
      have f0 : DataW.trod enc Tryz.prog W base spare held n2 3 ((cs.drop 0).take (Tryz.prog.cellsOf 3)) = some ys[0] := (hfs 0 _ rfl).trans (g 0 (by omega))
      have f1 : DataW.trod enc Tryz.prog W base spare held n2 3 ((cs.drop 1).take (Tryz.prog.cellsOf 3)) = some ys[1] := (hfs 1 _ rfl).trans (g 1 (by omega))
      have f2 : DataW.trod enc Tryz.prog W base spare held n2 35 ((cs.drop 2).take (Tryz.prog.cellsOf 35)) = some ys[2] := (hfs 2 _ rfl).trans (g 2 (by omega))
      rw [Tryz.cellsOf3] at f0 f1
      rw [Tryz.cellsOf35] at f2
      rw [List.drop_zero] at f0
      obtain ⟨z0, e0, _, w0⟩ := DataW.trod_int Tryz.underlying3 f0
      obtain ⟨z1, e1, _, w1⟩ := DataW.trod_int Tryz.underlying3 f1
      obtain ⟨V, m, q, vs, e2, r2, w2⟩ := open_rowsF f2
      have b0 : z0 ≤ 9223372036854775807 := by
        have : -9223372036854775808 ≤ z0 ∧ z0 ≤ 9223372036854775807 := by simpa [Lit.wf, IntKind.min, IntKind.max, IntKind.signed, IntKind.bits] using w0
        exact this.2
      have b1 : z1 ≤ 9223372036854775807 := by
        have : -9223372036854775808 ≤ z1 ∧ z1 ≤ 9223372036854775807 := by simpa [Lit.wf, IntKind.min, IntKind.max, IntKind.signed, IntKind.bits] using w1
        exact this.2
      have hc0 := hc2 0 (by omega)
      have hc1 := hc2 1 (by omega)
      have hc2' := hc2 2 (by omega)
      match cs, hl2, e0, e1, e2, hc0, hc1, hc2' with
      | [u0, u1, u2], _, e0, e1, e2, hc0, hc1, hc2' =>
        simp only [List.take_succ_cons, List.take_zero, List.drop_succ_cons, List.drop_zero, List.cons.injEq, and_true] at e0 e1 e2
        subst e0 e1 e2
        refine ⟨⟨z0, z1, vs⟩, ⟨V, m, q, hc0, hc1, hc2', r2⟩, b0, b1, fun v hv => ?_⟩
        have hr : reachBytes ≤ 140737488355328 := by unfold reachBytes; omega
        refine Nat.le_trans (w2 (fun k hk => hw k ?_) v hv) hr
        rw [hdx]
        simp only [DataW.weights, Tryz.underlying45, List.mem_cons, List.mem_append]
        refine .inr (.inl (weightsAll_mem (List.mem_map.2 ⟨elems[j], List.getElem_mem _, rfl⟩) k ?_))
        rw [hx2]
        simp only [DataW.weights, Tryz.underlying54]
        exact DataW.weights_mem_each (j := 2) (t := 35) (d := ys[2].1) rfl (by rw [List.getElem?_map, List.getElem?_eq_getElem (by omega)]; rfl) k hk
    obtain ⟨ss, hkl, hkv⟩ := exists_list _ len0 each
    refine ⟨some a, len0, cap0, ss, rfl, ⟨hkl, hlc, hcm, fun hp => ?_⟩, fun s hs => ?_⟩
    · have hsp : a.spot = none := by
        obtain ⟨s, ⟨V, m, q, h1, _⟩, _⟩ := each 0 hp
        rw [Nat.zero_mul] at h1
        have e := spot_of_cell h1
        unfold Addr.add at e
        split at e
        · first | exact e | (split at e <;> simp_all) | simp_all
        · first | exact e | (split at e <;> simp_all) | simp_all
      obtain ⟨g, o, sp⟩ := a
      obtain rfl : sp = none := hsp
      refine ⟨g, o, rfl, fun j s hj => ?_⟩
      obtain ⟨⟨V, m, q, h1, h2, h3, h4⟩, _⟩ := hkv j s hj
      have ea : ∀ k, ((⟨g, o, none⟩ : Addr).add (j * 3)).add k = ⟨g, o + j * 3 + k, none⟩ := fun k => by unfold Addr.add; split <;> split <;> simp_all
      rw [ea] at h1 h2 h3
      exact ⟨V, m, q, h1, h2, h3, h4⟩
    · obtain ⟨j, hj⟩ := List.getElem?_of_mem hs
      exact (hkv j s hj).2
end
end Go.Proofs.YtejnfahfjmeabaaGreatDoor
