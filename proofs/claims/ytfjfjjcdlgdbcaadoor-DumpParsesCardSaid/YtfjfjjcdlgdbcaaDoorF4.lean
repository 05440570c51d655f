/- the texts E14, E15, A8, C0, C2, E16 of this proof, one behind the other -/
import Derived.Test.YtfjfjjcdlgdbcaaDoorF3
import Derived.DeepKeys
import Derived.ProofKit
import Derived.OpenShut
import Derived.ShutString
import Derived.Test.YtfjfjjcdlgdbcaaDoorCards
import Derived.SizedLaws
import Derived.Lib.LaidU8
import Derived.Shelf.Vars
namespace Go.Proofs.YtfjfjjcdlgdbcaaDoor
open Go.RowKit
set_option linter.unusedSimpArgs false
set_option linter.unusedVariables false

theorem getD_mem {x : List UInt8} {k : Nat} (h : k < x.length) : x.getD k 0 ∈ x := by
  rw [List.getD_eq_getElem?_getD, List.getElem?_eq_getElem h]; exact List.getElem_mem h
theorem all_take_succ (x : List UInt8) (k : Nat) (h : k < x.length) : (x.take (k + 1)).all okByte = ((x.take k).all okByte && okByte (x.getD k 0)) := by
  rw [List.take_succ_eq_append_getElem h]
  simp only [List.all_append, List.all_cons, List.all_nil, Bool.and_true, List.getD_eq_getElem?_getD, List.getElem?_eq_getElem h, Option.getD_some]
theorem decode_bad (x : List UInt8) (k : Nat) (h : k < x.length) (hb : okByte (x.getD k 0) = false) : ((Utf8.decode (str x) k).1 : Int) < 32 ∨ (126 : Int) < ((Utf8.decode (str x) k).1 : Int) := by
  have hb' : ¬ (32 ≤ (x.getD k 0).toNat ∧ (x.getD k 0).toNat ≤ 126) := of_decide_eq_false hb
  by_cases ha : (x.getD k 0).toNat < 128
  · rw [decode_at x k h ha]
    show ((x.getD k 0).toNat : Int) < 32 ∨ (126 : Int) < ((x.getD k 0).toNat : Int)
    omega
  · have e : ((str x)[k]'h).toNat = (x.getD k 0).toNat := by
      show (x.toArray[k]'h).toNat = _
      simp [List.getD_eq_getElem?_getD, List.getElem?_eq_getElem h]
    have := (decode_high (str x) k h (by rw [e]; omega)).1
    right
    omega
theorem parseG_bad (pF : ActP → UInt8 → List UInt8 → Option ActP) (x : List UInt8) (h : x.all okByte = false) : parseG pF x = none := by
  unfold parseG
  rw [if_neg (by rw [h]; simp)]
theorem all_of_no (x : List UInt8) (k : Nat) (h : k < x.length) (hb : okByte (x.getD k 0) = false) : x.all okByte = false := by
  rw [Bool.eq_false_iff]
  intro hall
  rw [List.all_eq_true] at hall
  rw [hall _ (getD_mem h)] at hb
  cases hb
theorem parseG_at (pF : ActP → UInt8 → List UInt8 → Option ActP) (x w0 : List UInt8) (ws : List (List UInt8)) (h : x.all okByte = true) (hs : splitL 32 x = w0 :: ws) :
    parseG pF x = if 0 ≤ kindOf w0 ∧ ws.length = (kf (kindOf w0)).length then
      match parseFs pF (zAct (kindOf w0)) (kf (kindOf w0)) ws with
      | none => none
      | some A => if badA A = false ∧ printT A = x then some A else none
    else none := by
  unfold parseG
  rw [if_pos h, hs]
  simp only [List.headD_cons, List.tail_cons, List.length_cons]
  congr 1
  simp only [eq_iff_iff, and_congr_right_iff]
  intro _
  omega
/-- the same, with the frame whole -/
theorem wpList_nextS2 {P : Program} {ops : Array Oper} {rest : List Oper} {o : Oper} {a : Act} {W : World} {Q : Exit → Act → World → Prop} (hgd : o.guard = none) (x : Operand) (ho : o.op = .next x true)
    (k : Nat) (hx : a.eval x = .pointer (some ⟨k, 0, none⟩)) (s : ByteArray) (pos : Nat) (hk : W.heap[k]? = some (.stringIter s pos)) (hp : pos < s.size)
    (h : ∀ W', W'.heap[k]? = some (.stringIter s (pos + (Utf8.decode s pos).2)) → W.grownBy W' (some k) → W'.heap.size = W.heap.size →
      wpList P ops Q rest (a.put o.dst (.tuple #[.bool true, .int .i64 pos, .int .i32 (Utf8.decode s pos).1])) W') : wpList P ops Q (o :: rest) a W :=
  wpList_plain hgd fun K hK => by
    have hlt : k < W.heap.size := (Array.getElem?_eq_some_iff.1 hk).1
    unfold Oper.wp execOp
    simp only [ho, hx, Sem.run_bind, Sem.run_pure, run_next_at W k s pos o.type hk hp, Result.andThen_ok]
    refine hK _ _ (h _ ?_ ⟨rfl, rfl, rfl, ?_, fun i hi hne => ?_⟩ ?_)
    · simp [hlt]
    · simp
    · show (W.heap.setIfInBounds k _)[i]? = W.heap[i]?
      rw [Array.getElem?_setIfInBounds, if_neg (by intro e; exact hne (by rw [e]))]
    · simp
theorem setCells_size : ∀ (vs : List Value) (o : Nat) (w : World) (n : Nat), (w.setCells n o vs).heap.size = w.heap.size
  | [], _, _, _ => rfl
  | v :: r, o, w, n => by
    simp only [World.setCells]
    rw [setCells_size r (o + 1) _ n]
    simp [World.setCell]
theorem kindOf_range (w0 : List UInt8) : -1 ≤ kindOf w0 ∧ kindOf w0 < 28 := by
  unfold kindOf
  split
  · rename_i h
    obtain ⟨k, hk, h1⟩ := h
    have : (List.range 28).findIdx (fun k => decide ((kt.getD k ([], [])).1 ≠ [] ∧ (kt.getD k ([], [])).1 = w0)) < (List.range 28).length :=
      List.findIdx_lt_length_of_exists ⟨k, by simpa using hk, by simpa using h1⟩
    simp only [List.length_range] at this
    omega
  · omega
theorem words_new (wr : World) (w0 : List UInt8) (ws : List (List UInt8)) : Words ((wr.alloc (.cells (svs (w0 :: ws)).toArray 9)).alloc (.cells #[.slice (some ⟨wr.heap.size, 0, none⟩) (ws.length + 1) (ws.length + 1)] 84)) (wr.heap.size + 1) (w0 :: ws) := by
  refine ⟨wr.heap.size, ws.length + 1, ?_, fun j s hj => ?_⟩
  · rw [World.cell?_alloc_at _ _ _ _ (by simp)]; rfl
  · rw [World.cell?_alloc_lt _ _ ⟨wr.heap.size, j, none⟩ (by simp), World.cell?_alloc_at _ _ _ _ rfl]
    simp only [svs, List.getElem?_toArray, List.getElem?_map, hj, Option.map_some]
attribute [local go_sem] zk_zero

set_option maxRecDepth 100000 in
set_option maxHeartbeats 8000000 in
theorem Parse_callsG (pF : ActP → UInt8 → List UInt8 → Option ActP) (x : List UInt8) (w : World) (hL : LaidW w) (hx : x.length ≤ 100000000)
    (HP : ∀ c ∈ kf (kindOf ((splitL 32 x).headD [])), ∀ s ∈ splitL 32 x, ParsedAt pF c s)
    (HSm : ∀ A, parseFs pF (zAct (kindOf ((splitL 32 x).headD []))) (kf (kindOf ((splitL 32 x).headD []))) (splitL 32 x).tail = some A → A.Small) :
    Calls Tryd.prog 37 #[.string (str x)] w (ParseEnd w (parseG pF x)) := by
  have hHP := Lib.hid HP
  have hHS := Lib.hid HSm
  have hT0 : Hid (AggT Tryd.prog 64 (zk 0).size) := by rw [zk_size]; exact Tryd.agg64
  clear HP HSm
  go_enter Tryd.func37, Tryd.ntmps37
  go_wp2
  obtain ⟨wA, hwA⟩ : ∃ wA, wA = w.alloc (.cells (zk 0) 64) := ⟨_, rfl⟩
  have hsA := Lib.hid (show wA.heap.size = w.heap.size + 1 by rw [hwA]; simp)
  have hBA := Lib.hid (show Blk wA w.heap.size 64 (zk 0) by rw [hwA]; exact Blk.new _ _ _)
  have hWA := Lib.hid (show Below w.heap.size w wA by rw [hwA]; exact al (Below.refl _ _) _)
  have hLA := Lib.hid (hL.below hWA.out)
  rw [← hwA]
  have hszx : (str x).size = x.length := rfl
  clear hwA hL
  go_loopw [5] (fun v wr => ∃ k : Nat, k ≤ x.length ∧ (x.take k).all okByte = true ∧ wr.heap[w.heap.size + 1]? = some (.stringIter (str x) k) ∧ Below (w.heap.size + 1) wA wr) (fun _ wr => x.length - World.iterAt wr (w.heap.size + 1))
  case atStart => exact ⟨0, by omega, by simp, by rw [← hsA.out]; exact heap_alloc_new wA _, by rw [← hsA.out]; exact al (Below.refl _ _) _⟩
  case round =>
    obtain ⟨k, hk, hall, hit, hb⟩ := hrel
    have hbs := hb.size
    have HALL := Lib.hid hall
    have HIT := Lib.hid hit
    clear hall hit
    by_cases hlt : k < x.length
    · have hlt' : k < (str x).size := hlt
      cases hok : okByte (x.getD k 0) with
      | true =>
        have hbk : 32 ≤ (x.getD k 0).toNat ∧ (x.getD k 0).toNat ≤ 126 := of_decide_eq_true hok
        have hdec := Lib.hid (decode_at x k hlt (by omega))
        have hsu := Lib.hid (all_take_succ x k hlt)
        have hok' := Lib.hid hok
        clear hok
        generalize x.getD k 0 = c at *
        go_wp2_with (refine wpList_nextS rfl (.tmp 15) rfl (w.heap.size + 1) rfl (str x) k HIT.out hlt' ?_; rw [hdec.out]; intro w3 hit3 hb3 hs3)
        go_roundw
        case rel => exact ⟨k + 1, by omega, by rw [hsu.out, HALL.out, hok'.out]; rfl, hit3, hb.trans hb3⟩
        case measure =>
          rw [iterAt_of hit3, iterAt_of HIT.out]
          omega
      | false =>
        have hbad := decode_bad x k hlt hok
        have hpb := Lib.hid (parseG_bad pF x (all_of_no x k hlt hok))
        clear hok
        have hB3 := Lib.hid (fun W (hW : Below (w.heap.size + 1) wA W) => hBA.out.below hW (by omega))
        rcases hbad with hbad | hbad
        · go_wp2_with (first | (refine wpList_nextS rfl (.tmp 15) rfl (w.heap.size + 1) rfl (str x) k HIT.out hlt' ?_; intro w3 hit3 hb3 hs3; have hb4 := Lib.hid (hb.trans hb3)) | (refine wpList_build rfl 64 #[] rfl (.agg (zk 0)) (by kernel_rfl) ?_) | (refine wpList_storeAgg rfl rfl 64 _ _ rfl w.heap.size 0 rfl (zk 0) rfl hT0.out ((hB3.out _ hb4.out).room 0 _ (by omega)) (zk_oneCell 0) ?_))
          have hfb := (hB3.out _ hb4.out).setCells (zk 0).toList 0 (by rw [Array.length_toList]; omega)
          rw [ovw_all _ _ (by rw [Array.length_toList])] at hfb
          exact bodyPost_ret (results_agg_tmp rfl _ _ w.heap.size (zk 0) rfl hT0.out (cellsAt_blk hfb)) rfl ⟨below_setCells (hWA.out.trans (hb4.out.mono (by omega))) _ _ _ (Nat.le_refl _), .inl ⟨hpb.out, rfl⟩⟩
        · have hbad2 : ¬ ((Utf8.decode (str x) k).1 : Int) < 32 := by omega
          go_wp2_with (first | (refine wpList_nextS rfl (.tmp 15) rfl (w.heap.size + 1) rfl (str x) k HIT.out hlt' ?_; intro w3 hit3 hb3 hs3; have hb4 := Lib.hid (hb.trans hb3)) | (refine wpList_build rfl 64 #[] rfl (.agg (zk 0)) (by kernel_rfl) ?_) | (refine wpList_storeAgg rfl rfl 64 _ _ rfl w.heap.size 0 rfl (zk 0) rfl hT0.out ((hB3.out _ hb4.out).room 0 _ (by omega)) (zk_oneCell 0) ?_))
          have hfb := (hB3.out _ hb4.out).setCells (zk 0).toList 0 (by rw [Array.length_toList]; omega)
          rw [ovw_all _ _ (by rw [Array.length_toList])] at hfb
          exact bodyPost_ret (results_agg_tmp rfl _ _ w.heap.size (zk 0) rfl hT0.out (cellsAt_blk hfb)) rfl ⟨below_setCells (hWA.out.trans (hb4.out.mono (by omega))) _ _ _ (Nat.le_refl _), .inl ⟨hpb.out, rfl⟩⟩
    · obtain rfl : k = x.length := by omega
      rw [List.take_length] at HALL
      have hnlt : ¬ x.length < (str x).size := by rw [hszx]; omega
      have hbA : Below wA.heap.size wA wr := by rw [hsA.out]; exact hb
      have hBr := Lib.hid (hBA.out.below hb (by omega))
      have hLr := Lib.hid (hLA.out.below hbA)
      have hWr := Lib.hid (hWA.out.trans (hb.mono (by omega)))
      have hsp := Lib.hid (Split_calls x wr (by omega) hLr.out)
      have hne := splitL_ne 32 x
      have hsl := splitL_len 32 x
      clear hb hBA hLA hWA hbA
      obtain ⟨w0, ws, hws⟩ : ∃ w0 ws, splitL 32 x = w0 :: ws := by
        cases hs : splitL 32 x with
        | nil => exact absurd hs hne
        | cons a b => exact ⟨a, b, rfl⟩
      have hPG := Lib.hid (parseG_at pF x w0 ws HALL.out hws)
      rw [hws] at hHP hHS hsp hsl
      simp only [List.headD_cons, List.tail_cons, List.length_cons] at hHP hHS hsp hsl
      clear hne hws
      have hWd := Lib.hid (words_new wr w0 ws)
      have hA117 : Hid (AggT Tryd.prog 117 kindsV.size) := by rw [kindsV_size]; exact Tryd.agg117
      have hmf : ∀ (fn : Fn) (first cap : Array Value) (W : World), (Instr.makeFunc fn first cap).run Tryd.prog W = .ok (.func fn first cap) W := fun fn first cap W => rfl
      go_wp2_with (first | (refine wpList_nextE rfl (.tmp 15) rfl (w.heap.size + 1) rfl (str x) x.length HIT.out hnlt ?_) | (go_at_call 57; refine hsp.out.mono ?_; rintro e w2 ⟨rfl, rfl⟩) | (go_at_call 65; refine (kinds_calls _).mono ?_; rintro e w4 ⟨rfl, hb4⟩) | (refine wpList_storeNew rfl rfl 117 _ _ rfl _ _ rfl kindsV rfl hA117.out (by rw [kindsV_size]; rfl) kindsV_one ?_) | (go_at_call 71; refine (index71_calls w4.heap.size (wr.heap.size + 1) w0 ws _ (Blk.new _ _ _) ((hWd.out.below hb4).below (al (Below.refl _ _) _))).mono ?_; rintro e w5 ⟨rfl, hb5⟩))
      have hr5 : Below wr.heap.size wr w5 := thn (al (thn (al (al (Below.refl _ _) _) _) hb4) _) hb5
      have hw5 := Lib.hid (hWr.out.trans (hr5.mono hWr.out.size))
      have hB5 := Lib.hid (hBr.out.below hr5 hBr.out.lt)
      have hL5 := Lib.hid (hLr.out.below hr5)
      have hWd5 := ((hWd.out.below hb4).below (al (Below.refl _ _) (.cells kindsV 117))).below hb5
      have hK5 := (Blk.new w4 117 kindsV).below hb5 (by simp)
      have hkr := kindOf_range w0
      obtain ⟨r, cw, hcv, hcw⟩ := hWd5
      simp only [List.length_cons] at hcv
      have HWD5 := Lib.hid (show Words w5 (wr.heap.size + 1) (w0 :: ws) from ⟨r, cw, by simpa using hcv, hcw⟩)
      have HCW := Lib.hid hcw
      clear hcw hr5 hWr hBr hLr hWd hA117 hsp
      generalize kindOf w0 = ki at *
      by_cases hneg : ki < 0
      · have hpb : Hid (parseG pF x = none) := by rw [hPG.out, if_neg (by omega)]; trivial
        clear hPG hHP hHS
        go_quiet (fail)
        go_wp2_with (first | (refine wpList_build rfl 64 #[] rfl (.agg (zk 0)) (by kernel_rfl) ?_) | (refine wpList_storeAgg rfl rfl 64 _ _ rfl w.heap.size 0 rfl (zk 0) rfl hT0.out ((hB5.out.drewN nq).room 0 _ (by omega)) (zk_oneCell 0) ?_))
        have hfb := (hB5.out.drewN nq).setCells (zk 0).toList 0 (by rw [Array.length_toList]; omega)
        rw [ovw_all _ _ (by rw [Array.length_toList])] at hfb
        exact bodyPost_ret (results_agg_tmp rfl _ _ w.heap.size (zk 0) rfl hT0.out (cellsAt_blk hfb)) rfl ⟨below_setCells (hw5.out.trans (drawn_below' _ _ _ hw5.out.size)) _ _ _ (Nat.le_refl _), .inl ⟨hpb.out, rfl⟩⟩
      · obtain ⟨kk, rfl⟩ : ∃ kk : Nat, ki = kk := ⟨ki.toNat, by omega⟩
        have hkk : kk < 28 := by omega
        have hfse : kf (kk : Int) = (kt.getD kk ([], [])).2 := by unfold kf; rw [if_pos (by omega)]; rfl
        have hcf : w5.cell? ⟨w4.heap.size, kk * 2 + 1, none⟩ = some (.string (str (kf (kk : Int)))) := by
          rw [hK5.cell, hfse]
          exact (kindsV_at kk hkk).2
        have hasc := Lib.hid (kf_ascii (kk : Int))
        have h22 := Lib.hid (kf_letters (kk : Int))
        have hf10 := (kt_len (kk : Int)).1
        clear hK5 hfse
        generalize hfs : kf (kk : Int) = fs at *
        have hszf : (str fs).size = fs.length := rfl
        by_cases hlen : ws.length = fs.length
        · have hq : ((ws.length : Int) + 1 != 1 + (fs.length : Int)) = false := by simp; omega
          have hq2 : ((fs.length : Int) + 1 != 1 + (fs.length : Int)) = false := by simp; omega
          have hPG' : Hid (parseG pF x = match parseFs pF (zAct kk) fs ws with | none => none | some A => if badA A = false ∧ printT A = x then some A else none) := by
            rw [hPG.out, if_pos ⟨by omega, hlen⟩]; trivial
          clear hPG
          go_quiet (fail)
          have hlt5 : w4.heap.size < w5.heap.size := by have := hb5.size; simp at this; omega
          have hTk : Hid (AggT Tryd.prog 64 (zk kk).size) := by rw [zk_size]; exact Tryd.agg64
          have hzs : (zk (kk : Int)).size = 121 := zk_size _
          have hlenH := Lib.hid hlen
          obtain ⟨wq, hwq⟩ : ∃ wq, wq = w5.drewN nq := ⟨_, rfl⟩
          have hsq := Lib.hid (show wq.heap.size = w5.heap.size by rw [hwq]; rfl)
          have hwdq := Lib.hid (show Words wq (wr.heap.size + 1) (w0 :: ws) by rw [hwq]; exact HWD5.out)
          have hBq := Lib.hid (show Blk wq w.heap.size 64 (zk 0) by rw [hwq]; exact hB5.out)
          have hLq := Lib.hid (show LaidW wq by rw [hwq]; exact hL5.out.below (drawn_below' _ _ _ (Nat.le_refl _)))
          have hWq := Lib.hid (show Below w.heap.size w wq by rw [hwq]; exact hw5.out.trans (drawn_below' _ _ _ hw5.out.size))
          have hcq : wq.cell? ⟨w4.heap.size, kk * 2 + 1, none⟩ = some (.string (str fs)) := by rw [hwq]; exact hcf
          have hltq : w4.heap.size < wq.heap.size := by rw [hsq.out]; exact hlt5
          rw [← hwq]
          clear hwq hcf hcv HWD5 HCW hB5 hL5 hw5 hlen hq hlt5
          obtain ⟨wo, rfl⟩ : ∃ wo : World, wo = wr := ⟨_, rfl⟩
          go_wp2_with (first | (refine wpList_build rfl 64 #[(0, .tmp 46)] rfl (.agg (zk kk)) (by kernel_rfl) ?_) | (refine wpList_storeNew rfl rfl 64 _ _ rfl _ _ rfl (zk kk) rfl hTk.out (by rw [zk_size, zk_size]) (zk_oneCell kk) ?_))
          go_loopw [10, 11] (fun v1 v2 wr => ∃ (k : Nat) (A : ActP) (bA : Option Addr) (bn bc : Nat) (lA : Option Addr) (ln lc : Nat), k ≤ fs.length ∧ parseFs pF (zAct kk) (fs.take k) ws = some A ∧ Blk wr wq.heap.size 64 (ak A (.slice bA bn bc) (.slice lA ln lc)) ∧ RdActX wr (wq.heap.size + 2) A bA bn bc lA ln lc ∧ wr.heap[wq.heap.size + 1]? = some (.stringIter (str fs) k) ∧ Below wq.heap.size wq wr) (fun _ _ wr => fs.length - World.iterAt wr (wq.heap.size + 1))
          case atStart => exact ⟨0, zAct kk, none, 0, 0, none, 0, 0, by omega, rfl, (Blk.new wq 64 (zk kk)).alloc _, ⟨zAct_fit _ (by omega) (by omega), RdBx.nil _ _, RdKVx.nil _ _⟩, by have := heap_alloc_new (wq.alloc (.cells (zk kk) 64)) (.stringIter (str fs) 0); rw [World.size_alloc] at this; exact this, al (al (Below.refl _ _) _) _⟩
          case round =>
            obtain ⟨k, A, bA, bn, bc, lA, ln, lc, hk, hpf, hBg, hRx, hit, hb⟩ := hrel
            have hbs := hb.size
            have HB := Lib.hid hb
            have HIT2 := Lib.hid hit
            have HBG := Lib.hid hBg
            have HRX := Lib.hid hRx
            have hltI : wq.heap.size + 1 < wr.heap.size := (Array.getElem?_eq_some_iff.1 hit).1
            clear hit hBg hRx hb
            by_cases hlt : k < fs.length
            · have hcm : fs.getD k 0 ∈ fs := getD_mem hlt
              have hdec := Lib.hid (decode_at fs k hlt (hasc.out _ hcm))
              obtain ⟨s, hs⟩ : ∃ s, ws[k]? = some s := ⟨_, List.getElem?_eq_getElem (by have := hlenH.out; omega)⟩
              have hsg : ws.getD k [] = s := by rw [List.getD_eq_getElem?_getD, hs]; rfl
              have hstep := Lib.hid (parseFs_take pF fs ws (zAct kk) A k hlt hpf)
              rw [hsg] at hstep
              have hPA := Lib.hid (hHP.out _ hcm s (List.mem_cons_of_mem _ (List.mem_of_getElem? hs)))
              have hA0 := Lib.hid (show fs.getD k 0 = 108 → A.l = [] by
                intro e
                rcases h22.out _ hcm with ⟨_, h⟩ | ⟨_, h⟩
                · rw [e] at h; simp at h
                · rw [← hfs, h] at hlt
                  have h1 : (kf 22).length = 1 := rfl
                  obtain rfl : k = 0 := by omega
                  simp only [List.take_zero, parseFs, Option.some.injEq] at hpf
                  rw [← hpf]; rfl)
              have HS := Lib.hid hs
              have hlt' : k < (str fs).size := by rw [hszf]; exact hlt
              generalize fs.getD k 0 = c at *
              clear hs hsg hcm hpf
              have hkw : k < ws.length := by have := hlenH.out; omega
              have hib : (0 : Int) ≤ 1 + (k : Int) ∧ 1 + (k : Int) < (ws.length : Int) + 1 := by omega
              have hin : (1 + (k : Int)).toNat = 1 + k := by omega
              cases hp : pF A c s with
              | none =>
                have hcall := Lib.hid (fun W hlo hB hR hL => (hPA.out A bA bn bc lA ln lc wq.heap.size (wq.heap.size + 2) W (by omega) hlo hB hR hL hA0.out).mono (fun e W' ⟨hg, h⟩ => (show W.grownBy W' (some wq.heap.size) ∧ e = Ending.returned (.bool false) from ⟨hg, by
                  rcases h with ⟨he, _⟩ | ⟨_, A', _, _, _, _, _, _, hp', _⟩
                  · exact he
                  · rw [hp] at hp'; cases hp'⟩)))
                have hpb : Hid (parseG pF x = none) := by
                  rw [hPG'.out, parseFs_none pF fs ws (zAct kk) (k + 1) (by rw [hstep.out, hp])]; trivial
                go_wp2_with (first | (refine wpList_nextS2 rfl (.tmp 52) rfl (wq.heap.size + 1) rfl (str fs) k HIT2.out hlt' ?_; rw [hdec.out]; intro w6 hit6 hg6 hs6; have hb6 := Lib.hid (HB.out.grown hg6 HB.out.size (fun k hk => by cases hk; omega)); have hB6 := Lib.hid (HBG.out.grown hg6 (by simp)); have hR6 := Lib.hid (HRX.out.keeps (KeepsLo.grown hg6 (by omega))); have hL6 := Lib.hid (hLq.out.below hb6.out); obtain ⟨r6, c6, hcv6, hcw6⟩ := hwdq.out.below hb6.out; simp only [List.length_cons] at hcv6; have hcs6 : w6.cell? ⟨r6, 1 + k, none⟩ = some (.string (str s)) := by (rw [Nat.add_comm]; exact hcw6 (k + 1) s (by simpa using HS.out))) | (go_at_call 73; refine (hcall.out _ (by omega) hB6.out hR6.out hL6.out).mono ?_; rintro e w7 ⟨hg7, rfl⟩; have hb7 := Lib.hid (hb6.out.grown hg7 hb6.out.size (fun k hk => by cases hk; exact Nat.le_refl _)); have hB7 := Lib.hid (hBq.out.below hb7.out hBq.out.lt)) | (refine wpList_build rfl 64 #[] rfl (.agg (zk 0)) (by kernel_rfl) ?_) | (refine wpList_storeAgg rfl rfl 64 _ _ rfl w.heap.size 0 rfl (zk 0) rfl hT0.out (hB7.out.room 0 _ (by omega)) (zk_oneCell 0) ?_))
                have hfb := hB7.out.setCells (zk 0).toList 0 (by rw [Array.length_toList]; omega)
                rw [ovw_all _ _ (by rw [Array.length_toList])] at hfb
                exact bodyPost_ret (results_agg_tmp rfl _ _ w.heap.size (zk 0) rfl hT0.out (cellsAt_blk hfb)) rfl ⟨below_setCells (hWq.out.trans (hb7.out.mono hWq.out.size)) _ _ _ (Nat.le_refl _), .inl ⟨hpb.out, rfl⟩⟩
              | some A1 =>
                have hcall := Lib.hid (fun W hlo hB hR hL => (hPA.out A bA bn bc lA ln lc wq.heap.size (wq.heap.size + 2) W (by omega) hlo hB hR hL hA0.out).mono (fun e W' ⟨hg, h⟩ => (show W.grownBy W' (some wq.heap.size) ∧ e = Ending.returned (.bool true) ∧ ∃ bA' bn' bc' lA' ln' lc', Blk W' wq.heap.size 64 (ak A1 (.slice bA' bn' bc') (.slice lA' ln' lc')) ∧ RdActX W' (wq.heap.size + 2) A1 bA' bn' bc' lA' ln' lc' from ⟨hg, by
                  rcases h with ⟨_, hp'⟩ | ⟨he, A', a1, a2, a3, a4, a5, a6, hp', h1, h2⟩
                  · rw [hp] at hp'; cases hp'
                  · rw [hp] at hp'
                    obtain rfl := Option.some.inj hp'
                    exact ⟨he, a1, a2, a3, a4, a5, a6, h1, h2⟩⟩)))
                go_wp2_with (first | (refine wpList_nextS2 rfl (.tmp 52) rfl (wq.heap.size + 1) rfl (str fs) k HIT2.out hlt' ?_; rw [hdec.out]; intro w6 hit6 hg6 hs6; have hb6 := Lib.hid (HB.out.grown hg6 HB.out.size (fun k hk => by cases hk; omega)); have hB6 := Lib.hid (HBG.out.grown hg6 (by simp)); have hR6 := Lib.hid (HRX.out.keeps (KeepsLo.grown hg6 (by omega))); have hL6 := Lib.hid (hLq.out.below hb6.out); obtain ⟨r6, c6, hcv6, hcw6⟩ := hwdq.out.below hb6.out; simp only [List.length_cons] at hcv6; have hcs6 : w6.cell? ⟨r6, 1 + k, none⟩ = some (.string (str s)) := by (rw [Nat.add_comm]; exact hcw6 (k + 1) s (by simpa using HS.out))) | (go_at_call 73; refine (hcall.out _ (by omega) hB6.out hR6.out hL6.out).mono ?_; rintro e w7 ⟨hg7, rfl, bA1, bn1, bc1, lA1, ln1, lc1, hB7, hR7⟩; have hb7 := Lib.hid (hb6.out.grown hg7 hb6.out.size (fun k hk => by cases hk; exact Nat.le_refl _))))
                go_roundw
                case rel => exact ⟨k + 1, A1, bA1, bn1, bc1, lA1, ln1, lc1, by omega, hstep.out.trans hp, hB7, hR7, (hg7.block _ (by omega) (by simp)).trans hit6, hb7.out⟩
                case measure =>
                  rw [iterAt_of ((hg7.block _ (by omega) (by simp)).trans hit6), iterAt_of HIT2.out]
                  omega
            · obtain rfl : k = fs.length := by omega
              rw [List.take_length] at hpf
              have hnlt2 : ¬ fs.length < (str fs).size := by rw [hszf]; omega
              have hpg : Hid (parseG pF x = if badA A = false ∧ printT A = x then some A else none) := by rw [hPG'.out, hpf]; trivial
              have hpr := Lib.hid (Print_calls A bA bn bc lA ln lc wr HRX.out.rd (hHS.out A hpf) (hLq.out.below HB.out))
              have hagA : Hid (AggT Tryd.prog 64 (ak A (.slice bA bn bc) (.slice lA ln lc)).toList.length) := by rw [Array.length_toList, ak_size _ _ _ HRX.out.1]; exact Tryd.agg64
              have hag := Lib.hid (fun W (hW : Below wr.heap.size wr W) => cellsAt_blk (HBG.out.below hW HBG.out.lt))
              have hBz := Lib.hid (fun W (hW : Below wr.heap.size wr W) => (hBq.out.below HB.out hBq.out.lt).below hW (Nat.lt_of_lt_of_le hBq.out.lt HB.out.size))
              clear hPG' hHP hHS hasc h22
              cases hbd : badA A with
              | true =>
                have hv := printV_bad A hbd
                rw [hv] at hpr
                have hpb : Hid (parseG pF x = none) := by rw [hpg.out, if_neg (by rw [hbd]; simp)]; trivial
                clear hv hpg hbd
                go_wp2_with (first | (refine wpList_nextE rfl (.tmp 52) rfl (wq.heap.size + 1) rfl (str fs) fs.length HIT2.out hnlt2 ?_) | (refine wpList_loadAgg rfl 64 _ rfl wq.heap.size 0 rfl _ hagA.out (hag.out _ (by first | exact Below.refl _ _ | exact hb8.out)) ?_) | (go_at_call 35; refine hpr.out.mono ?_; rintro e w7 ⟨rfl, hb7'⟩; have hb8 := Lib.hid hb7'; have hb7 := Lib.hid (HB.out.trans (hb7'.mono HB.out.size)); have hB7 := Lib.hid (hBz.out _ hb7')) | (refine wpList_build rfl 64 #[] rfl (.agg (zk 0)) (by kernel_rfl) ?_) | (refine wpList_storeAgg rfl rfl 64 _ _ rfl w.heap.size 0 rfl (zk 0) rfl hT0.out (hB7.out.room 0 _ (by omega)) (zk_oneCell 0) ?_))
                have hfb := hB7.out.setCells (zk 0).toList 0 (by rw [Array.length_toList]; omega)
                rw [ovw_all _ _ (by rw [Array.length_toList])] at hfb
                exact bodyPost_ret (results_agg_tmp rfl _ _ w.heap.size (zk 0) rfl hT0.out (cellsAt_blk hfb)) rfl ⟨below_setCells (hWq.out.trans (hb7.out.mono hWq.out.size)) _ _ _ (Nat.le_refl _), .inl ⟨hpb.out, rfl⟩⟩
              | false =>
                have hv := printV_ok A hbd
                rw [hv] at hpr
                by_cases hpx : printT A = x
                · have hcmp : ((str (printT A)).toList != (str x).toList) = false := by rw [str_list, str_list, hpx]; simp
                  have hcmp2 : ((str (printT A)).toList == (str x).toList) = true := by rw [str_list, str_list, hpx]; simp
                  have hcmp3 : (str (printT A)).toList = (str x).toList := by rw [str_list, str_list, hpx]
                  have hpb : Hid (parseG pF x = some A) := by rw [hpg.out, if_pos ⟨hbd, hpx⟩]; trivial
                  have hpA : Hid (AggT Tryd.prog 64 (ak A (.slice bA bn bc) (.slice lA ln lc)).size) := by rw [ak_size _ _ _ HRX.out.1]; exact Tryd.agg64
                  have hsA2 : (ak A (.slice bA bn bc) (.slice lA ln lc)).size = 121 := ak_size _ _ _ HRX.out.1
                  have hz0 : (zk 0).size = 121 := zk_size 0
                  clear hv hpg hbd hpx
                  go_wp2_with (first | (refine wpList_nextE rfl (.tmp 52) rfl (wq.heap.size + 1) rfl (str fs) fs.length HIT2.out hnlt2 ?_) | (refine wpList_loadAgg rfl 64 _ rfl wq.heap.size 0 rfl _ hagA.out (hag.out _ (by first | exact Below.refl _ _ | exact hb8.out)) ?_) | (go_at_call 35; refine hpr.out.mono ?_; rintro e w7 ⟨rfl, hb7'⟩; have hb8 := Lib.hid hb7'; have hb7 := Lib.hid (HB.out.trans (hb7'.mono HB.out.size)); have hB7 := Lib.hid (hBz.out _ hb7')) | (refine wpList_storeAgg rfl rfl 64 _ _ rfl w.heap.size 0 rfl (ak A (.slice bA bn bc) (.slice lA ln lc)) rfl hpA.out (hB7.out.room 0 _ (by omega)) (ak_oneCell _ _ _ _ _ _ _) ?_))
                  have hfb := hB7.out.setCells (ak A (.slice bA bn bc) (.slice lA ln lc)).toList 0 (by rw [Array.length_toList]; omega)
                  rw [ovw_all _ _ (by rw [Array.length_toList]; omega)] at hfb
                  refine bodyPost_ret (results_agg_tmp rfl _ _ w.heap.size (ak A (.slice bA bn bc) (.slice lA ln lc)) rfl hpA.out (cellsAt_blk hfb)) rfl ⟨below_setCells (hWq.out.trans (hb7.out.mono hWq.out.size)) _ _ _ (Nat.le_refl _), .inr ⟨A, bA, bn, bc, lA, ln, lc, hpb.out, rfl, ?_⟩⟩
                  exact ((HRX.out.keeps (KeepsLo.below hb8.out)).keeps ⟨by rw [setCells_size]; exact Nat.le_refl _, fun i h1 _ => heap_setCells_other _ _ _ _ _ (by have := hBq.out.lt; omega)⟩).rd
                · have hcmp : ((str (printT A)).toList != (str x).toList) = true := by rw [str_list, str_list]; simpa using hpx
                  have hcmp2 : ((str (printT A)).toList == (str x).toList) = false := by rw [str_list, str_list]; simpa using hpx
                  have hcmp3 : ¬ (str (printT A)).toList = (str x).toList := by rw [str_list, str_list]; exact hpx
                  have hpb : Hid (parseG pF x = none) := by rw [hpg.out, if_neg (fun h => hpx h.2)]; trivial
                  clear hv hpg hbd hpx
                  go_wp2_with (first | (refine wpList_nextE rfl (.tmp 52) rfl (wq.heap.size + 1) rfl (str fs) fs.length HIT2.out hnlt2 ?_) | (refine wpList_loadAgg rfl 64 _ rfl wq.heap.size 0 rfl _ hagA.out (hag.out _ (by first | exact Below.refl _ _ | exact hb8.out)) ?_) | (go_at_call 35; refine hpr.out.mono ?_; rintro e w7 ⟨rfl, hb7'⟩; have hb8 := Lib.hid hb7'; have hb7 := Lib.hid (HB.out.trans (hb7'.mono HB.out.size)); have hB7 := Lib.hid (hBz.out _ hb7')) | (refine wpList_build rfl 64 #[] rfl (.agg (zk 0)) (by kernel_rfl) ?_) | (refine wpList_storeAgg rfl rfl 64 _ _ rfl w.heap.size 0 rfl (zk 0) rfl hT0.out (hB7.out.room 0 _ (by omega)) (zk_oneCell 0) ?_))
                  have hfb := hB7.out.setCells (zk 0).toList 0 (by rw [Array.length_toList]; omega)
                  rw [ovw_all _ _ (by rw [Array.length_toList])] at hfb
                  exact bodyPost_ret (results_agg_tmp rfl _ _ w.heap.size (zk 0) rfl hT0.out (cellsAt_blk hfb)) rfl ⟨below_setCells (hWq.out.trans (hb7.out.mono hWq.out.size)) _ _ _ (Nat.le_refl _), .inl ⟨hpb.out, rfl⟩⟩
        · have hq : ((ws.length : Int) + 1 != 1 + (fs.length : Int)) = true := by simp; omega
          have hpb : Hid (parseG pF x = none) := by rw [hPG.out, if_neg (by intro h; exact hlen h.2)]; trivial
          clear hPG hHP hHS hlen
          go_quiet (fail)
          go_wp2_with (first | (refine wpList_build rfl 64 #[] rfl (.agg (zk 0)) (by kernel_rfl) ?_) | (refine wpList_storeAgg rfl rfl 64 _ _ rfl w.heap.size 0 rfl (zk 0) rfl hT0.out ((hB5.out.drewN nq).room 0 _ (by omega)) (zk_oneCell 0) ?_))
          have hfb := (hB5.out.drewN nq).setCells (zk 0).toList 0 (by rw [Array.length_toList]; omega)
          rw [ovw_all _ _ (by rw [Array.length_toList])] at hfb
          exact bodyPost_ret (results_agg_tmp rfl _ _ w.heap.size (zk 0) rfl hT0.out (cellsAt_blk hfb)) rfl ⟨below_setCells (hw5.out.trans (drawn_below' _ _ _ hw5.out.size)) _ _ _ (Nat.le_refl _), .inl ⟨hpb.out, rfl⟩⟩
end Go.Proofs.YtfjfjjcdlgdbcaaDoor
namespace Go.Proofs.YtfjfjjcdlgdbcaaDoor
open Go.RowKit
set_option linter.unusedSimpArgs false
set_option linter.unusedVariables false

theorem zAct_small (k : Int) : (zAct k).Small := ⟨by simp [zAct], by simp [zAct], by simp [zAct]⟩
theorem prune_text : printT (zAct 22) = [112, 114, 117, 110, 101, 32, 46] := by decide
theorem prune_good : badA (zAct 22) = false := by decide
theorem prune_V : printV (zAct 22) = .tuple #[.string (str [112, 114, 117, 110, 101, 32, 46]), .int .i64 0] := by rw [printV_ok _ prune_good, prune_text]
theorem kind_commit : kindOf [99, 111, 109, 109, 105, 116] = 10 := kindOf_at _ 10 (by omega) (fun j hj => by
  have : ∀ j : Fin 10, decide ((kt.getD j.val ([], [])).1 ≠ [] ∧ (kt.getD j.val ([], [])).1 = [99, 111, 109, 109, 105, 116]) = false := by decide
  exact this ⟨j, hj⟩) (by decide)
theorem parse_commit (pF : ActP → UInt8 → List UInt8 → Option ActP) : parseG pF [99, 111, 109, 109, 105, 116] = some (zAct 10) := by
  rw [parseG_at pF _ [99, 111, 109, 109, 105, 116] [] (by decide) (by decide), kind_commit]
  rw [if_pos (by decide)]
  show (match some (zAct 10) with | none => none | some A => if badA A = false ∧ printT A = [99, 111, 109, 109, 105, 116] then some A else none) = some (zAct 10)
  simp only
  rw [if_pos (by decide)]
theorem Parse_commit (w : World) (hL : LaidW w) : Calls Tryd.prog 37 #[.string (str [99, 111, 109, 109, 105, 116])] w fun e w' => Below w.heap.size w w' ∧ ∃ bA bn bc lA ln lc, e = .returned (.tuple #[.agg (ak (zAct 10) (.slice bA bn bc) (.slice lA ln lc)), .int .i64 0]) := by
  have hs : (splitL 32 [99, 111, 109, 109, 105, 116]).headD [] = [99, 111, 109, 109, 105, 116] := by decide
  refine (Parse_callsG (fun _ _ _ => none) [99, 111, 109, 109, 105, 116] w hL (by decide) (fun c hc => ?_) (fun A hA => ?_)).mono fun e w' ⟨hb, h⟩ => ⟨hb, ?_⟩
  · rw [hs, kind_commit] at hc
    have : kf 10 = [] := by decide
    rw [this] at hc
    cases hc
  · rw [hs, kind_commit] at hA
    have : A = zAct 10 := (Option.some.inj hA).symm
    rw [this]
    exact zAct_small 10
  · rw [parse_commit] at h
    rcases h with ⟨h, _⟩ | ⟨A, bA, bn, bc, lA, ln, lc, h, he, _⟩
    · cases h
    · obtain rfl := Option.some.inj h
      exact ⟨bA, bn, bc, lA, ln, lc, he⟩

set_option maxRecDepth 100000 in
set_option maxHeartbeats 4000000 in
theorem known20_calls (w : World) (hL : LaidW w) : Calls Tryd.prog 33 #[] w fun e w' => e = .returned (.bool true) ∧ Below w.heap.size w w' := by
  have hp := Lib.hid (Print_calls (zAct 22) none 0 0 none 0 0 w ⟨zAct_fit 22 (by omega) (by omega), (RdBx.nil w 0).1, (RdKVx.nil w 0).1⟩ (zAct_small 22) hL)
  have hq := Lib.hid (fun W (hW : Below w.heap.size w W) => Parse_commit W (hL.below hW))
  rw [prune_V] at hp
  have hs1 : ((str [112, 114, 117, 110, 101, 32, 46]).toList == [112, 114, 117, 110, 101, 32, 46]) = true := by rw [str_list]; decide
  have hTA := fun b l => (show Hid (AggT Tryd.prog 64 (ak (zAct 10) b l).size) by rw [ak_size _ _ _ (zAct_fit 10 (by omega) (by omega))]; exact Tryd.agg64)
  have hA0 := fun b l => ak_0 (zAct 10) b l
  have hsz := fun b l => Lib.hid (ak_size (zAct 10) b l (zAct_fit 10 (by omega) (by omega)))
  have hk10 : (zAct 10).kind = 10 := rfl
  clear hL
  go_enter Tryd.func33, Tryd.ntmps33
  go_wp2_with (first | (refine wpList_build rfl 64 #[(0, .const (.int .i64 22))] rfl (.agg (ak (zAct 22) (.slice none 0 0) (.slice none 0 0))) (by kernel_rfl) ?_) | (go_at_call 35; refine hp.out.mono ?_; rintro e w1 ⟨rfl, hb1⟩) | (go_at_call 37; refine (hq.out _ hb1).mono ?_; rintro e w2 ⟨hb2, bA, bn, bc, lA, ln, lc, rfl⟩) | (refine wpList_storeNew rfl rfl 64 _ _ rfl _ _ rfl (ak (zAct 10) (.slice bA bn bc) (.slice lA ln lc)) rfl (hTA _ _).out (by rw [(hsz _ _).out]; rfl) (ak_oneCell _ _ _ _ _ _ _) ?_))
  go_ret
  exact ⟨rfl, al (thn hb1 hb2) _⟩

set_option maxRecDepth 100000 in
set_option maxHeartbeats 4000000 in
theorem archivePrints_walk (A : ActP) (bA : Option Addr) (bn bc : Nat) (lA : Option Addr) (ln lc : Nat) (w : World) (h : RdAct w A bA bn bc lA ln lc) (hH : A.Held) (hL : LaidW w) :
    Calls Tryd.prog 9 #[.agg (ak A (.slice bA bn bc) (.slice lA ln lc))] w fun e w' => e = .returned (.bool true) ∧ Below w.heap.size w w' := by
  have hw0 : Below w.heap.size w (w.alloc (.cells (ak A (.slice bA bn bc) (.slice lA ln lc)) 64)) := al (Below.refl _ _) _
  have hB0 := Lib.hid (Blk.new w 64 (ak A (.slice bA bn bc) (.slice lA ln lc)))
  have hR := Lib.hid (fun W (hW : Below w.heap.size w W) => h.below hW)
  have hLL := Lib.hid (fun W (hW : Below w.heap.size w W) => hL.below hW)
  have hk := Lib.hid (fun W (hW : Below w.heap.size w W) => known20_calls W (hL.below hW))
  have hf := Lib.hid (fun W (hW : Below w.heap.size w W) => few20_calls A bA bn bc lA ln lc W (h.below hW) hH)
  have hT : Hid (AggT Tryd.prog 64 (ak A (.slice bA bn bc) (.slice lA ln lc)).toList.length) := by rw [Array.length_toList, ak_size _ _ _ h.1]; exact Tryd.agg64
  have hag := Lib.hid (fun W (hW : Below (w.alloc (.cells (ak A (.slice bA bn bc) (.slice lA ln lc)) 64)).heap.size (w.alloc (.cells (ak A (.slice bA bn bc) (.slice lA ln lc)) 64)) W) => cellsAt_blk (hB0.out.below hW hB0.out.lt))
  have hW0 := Lib.hid hw0
  clear h hL hw0
  obtain ⟨w0, hw0⟩ : ∃ w0, w0 = w.alloc (.cells (ak A (.slice bA bn bc) (.slice lA ln lc)) 64) := ⟨_, rfl⟩
  rw [← hw0] at hB0 hag hW0
  have LA : ∀ W, Below w0.heap.size w0 W → Below w.heap.size w W := fun W hW => thn hW0.out hW
  by_cases hS : A.Small
  · have hpr := Lib.hid (fun W (hW : Below w.heap.size w W) => Print_calls A bA bn bc lA ln lc W (hR.out W hW) hS (hLL.out W hW))
    have hpr2 := Lib.hid (fun W (hW : Below w.heap.size w W) => Print20_calls A bA bn bc lA ln lc W (hR.out W hW) hS)
    have hpv : ∃ s n, printV A = .tuple #[.string s, .int .i64 n] := by
      unfold printV
      split
      · exact ⟨_, _, rfl⟩
      · exact ⟨_, _, rfl⟩
    obtain ⟨s, n, hpv⟩ := hpv
    rw [hpv] at hpr hpr2
    clear hpv hS
    have hss : (s.toList == s.toList) = true := by simp
    go_enter Tryd.func9, Tryd.ntmps9
    go_wp2_with (first | (go_at_call 33; rw [← hw0]; refine (hk.out _ hW0.out).mono ?_; rintro e w1 ⟨rfl, hb1⟩) | (refine wpList_loadAgg rfl 64 _ rfl w.heap.size 0 rfl _ hT.out (hag.out _ (by first | exact thn (thn (thn hb1 hb2) hb3) (Below.refl _ _) | exact thn (thn hb1 hb2) (Below.refl _ _) | exact thn hb1 (Below.refl _ _))) ?_) | (go_at_call 34; refine (hf.out _ (LA _ hb1)).mono ?_; rintro e w2 ⟨⟨b, rfl, hsm⟩, hb2⟩) | (go_at_call 35; refine (hpr.out _ (LA _ (thn hb1 hb2))).mono ?_; rintro e w3 ⟨rfl, hb3⟩) | (go_at_call 36; refine (hpr2.out _ (LA _ (thn (thn hb1 hb2) hb3))).mono ?_; rintro e w4 ⟨rfl, hb4⟩))
    · go_ret
      exact ⟨rfl, LA _ (thn hb1 hb2)⟩
    · go_ret
      exact ⟨rfl, LA _ (thn (thn (thn hb1 hb2) hb3) hb4)⟩
  · go_enter Tryd.func9, Tryd.ntmps9
    go_wp2_with (first | (go_at_call 33; rw [← hw0]; refine (hk.out _ hW0.out).mono ?_; rintro e w1 ⟨rfl, hb1⟩) | (refine wpList_loadAgg rfl 64 _ rfl w.heap.size 0 rfl _ hT.out (hag.out _ (thn hb1 (Below.refl _ _))) ?_) | (go_at_call 34; refine (hf.out _ (LA _ hb1)).mono ?_; rintro e w2 ⟨⟨b, rfl, hsm⟩, hb2⟩; obtain rfl : b = false := by (cases b; rfl; exact absurd (hsm rfl).small hS)))
    go_ret
    exact ⟨rfl, LA _ (thn hb1 hb2)⟩
end Go.Proofs.YtfjfjjcdlgdbcaaDoor
namespace Go.Proofs.YtfjfjjcdlgdbcaaDoor
open Go.RowKit

def blit (b : UInt8) : Lit := .int .u8 (b.toNat : Int)
theorem blit_wf (b : UInt8) : (blit b).wf = true := by
  have := b.toNat_lt
  simp [blit, Lit.wf, IntKind.min, IntKind.max, IntKind.signed, IntKind.bits]; omega
theorem blits_inj {xs ys : List UInt8} (h : xs.map blit = ys.map blit) : xs = ys := by
  induction xs generalizing ys with
  | nil => cases ys with
    | nil => rfl
    | cons y ys => simp at h
  | cons x xs ih => cases ys with
    | nil => simp at h
    | cons y ys =>
      simp only [List.map_cons, List.cons.injEq] at h
      have h1 := h.1
      unfold blit at h1
      injection h1 with _ h1
      have h2 : x = y := UInt8.toNat_inj.1 (by omega)
      rw [ih h.2, h2]
theorem mapM_some {α β : Type} (f : α → Option β) (g : α → β) : ∀ l : List α, (∀ x ∈ l, f x = some (g x)) → l.mapM f = some (l.map g)
  | [], _ => rfl
  | x :: l, h => by
    rw [List.mapM_cons, h x (by simp), mapM_some f g l (fun y hy => h y (by simp [hy]))]
    rfl
section
variable {P : Program}
theorem keyLits_bytes (d : Nat) (t e : TypeId) (n : Nat) (xs : List UInt8) (ht : P.underlying t = some (.array n e)) (he : P.underlying e = some (.int .u8)) (hce : P.cellsOf e = 1) (hct : P.cellsOf t = n) (hx : xs.length = n) :
    P.keyLits (d + 2) t (bvs xs) = some (xs.map blit) := by
  unfold Program.keyLits
  rw [ht]
  simp only [hce, hct, bvs_length, hx, if_true, Nat.mul_one]
  have h : (List.range n).mapM (fun i => P.keyLits (d + 1) e (((bvs xs).drop i).take 1)) = some ((List.range n).map fun i => [blit (xs.getD i 0)]) := by
    refine mapM_some _ _ _ (fun i hi => ?_)
    have hi' : i < xs.length := by rw [hx]; exact List.mem_range.1 hi
    have e1 : ((bvs xs).drop i).take 1 = [bv xs[i]] := by
      rw [bvs_drop, List.drop_eq_getElem_cons hi']
      rfl
    rw [e1]
    unfold Program.keyLits
    rw [he]
    have hw := blit_wf xs[i]
    unfold blit at hw
    simp only [bv, hw, and_self, if_true]
    simp [blit, List.getD_eq_getElem?_getD, List.getElem?_eq_getElem hi']
  rw [h]
  simp only [Option.map_some, Option.some.injEq]
  rw [← List.flatMap_def]
  apply List.ext_getElem?
  intro j
  subst hx
  have e2 : (List.range xs.length).flatMap (fun i => [blit (xs.getD i 0)]) = (List.range xs.length).map (fun i => blit (xs.getD i 0)) := by
    generalize List.range xs.length = l
    induction l with
    | nil => rfl
    | cons a l ih => rw [List.flatMap_cons, ih]; rfl
  rw [e2, List.getElem?_map, List.getElem?_map]
  by_cases hj : j < xs.length
  · rw [List.getElem?_range hj]
    simp [hj]
  · rw [List.getElem?_eq_none (by simp; omega), List.getElem?_eq_none (by omega)]
    rfl
theorem run_equalBytes (w : World) (d : Nat) (t e : TypeId) (n : Nat) (x y : List UInt8) (hk : P.keyTypeAt 2 t = true) (ht : P.underlying t = some (.array n e)) (he : P.underlying e = some (.int .u8)) (hce : P.cellsOf e = 1) (hct : P.cellsOf t = n) (hx : x.length = n) (hy : y.length = n) :
    (Op.equalIn (d + 2) t (.agg (bvs x).toArray) (.agg (bvs y).toArray)).run P w = .ok (decide (x = y)) w := by
  have fx : ∀ z : List UInt8, z.length = n → (Value.agg (bvs z).toArray).formed P t = true := fun z hz => by unfold Value.formed; rw [ht, hct]; simp [bvs_length, hz]
  obtain ⟨r, hr, hiff⟩ := run_equalIn_deep d 2 t hk w 2 2 (.agg (bvs x).toArray) (.agg (bvs y).toArray) _ _ (fx x hx) (fx y hy) (keyLits_bytes 0 t e n x ht he hce hct hx) (keyLits_bytes 0 t e n y ht he hce hct hy)
  rw [hr]
  congr 1
  rw [Bool.eq_iff_iff, hiff, decide_eq_true_iff]
  exact ⟨blits_inj, fun h => by rw [h]⟩
end
/-- the same cells are the same, whatever the type of keys -/
theorem run_equalSame {P : Program} (w : World) (m d D : Nat) (t : TypeId) (v : Value) (l : List Lit) (hk : P.keyTypeAt m t = true) (hf : v.formed P t = true) (hl : P.keyLits D t v.cells.toList = some l) :
    (Op.equalIn (d + m) t v v).run P w = .ok true w := by
  obtain ⟨r, hr, hiff⟩ := run_equalIn_deep d m t hk w D D v v _ _ hf hf hl hl
  rw [hr, hiff.2 rfl]
end Go.Proofs.YtfjfjjcdlgdbcaaDoor
namespace Go.Proofs.YtfjfjjcdlgdbcaaDoor
open Go.ChangeShapes Go.WideShapes Go.ChangeAt Go.RowKit

/-- a slice of bytes that came in -/
theorem open_bytes {H : Type} {enc : TypeId × Value → H} {P : Program} {W : World} {base : Nat} {spare : Nat → Bool} {held : Bool} {t e : TypeId} {A : Option Addr} {n c : Nat} {x : DataW H × List MemPlace} {fuel : Nat}
    (ht : P.underlying t = some (.slice e)) (he : P.underlying e = some (.int .u8)) (hc : P.cellsOf e = 1) (h : DataW.trod enc P W base spare held fuel t [.slice A n c] = some x) :
    ∃ xs, RdB W A n c xs := by
  rcases open_ints ht he hc h with ⟨hcs, _⟩ | ⟨a, l, cap, zs, hcs, _, hl, hm, hzl, _, hcell, hwz⟩
  · simp at hcs
    obtain ⟨rfl, rfl, rfl⟩ := hcs
    exact ⟨[], rfl, Nat.le_refl _, by unfold maxLen; omega, fun hp => absurd hp (by omega)⟩
  · simp at hcs
    obtain ⟨rfl, rfl, rfl⟩ := hcs
    have hnz : n ≤ zs.length := by rw [hzl]; split <;> omega
    refine ⟨(zs.take n).map fun z => UInt8.ofNat z.toNat, by rw [List.length_map, List.length_take]; omega, hl, hm, fun hp => ⟨a, rfl, fun j u hu => ?_⟩⟩
    simp only [List.getElem?_map, Option.map_eq_some_iff, List.getElem?_take] at hu
    obtain ⟨z, hz', rfl⟩ := hu
    split at hz'
    · have hj := (List.getElem?_eq_some_iff.1 hz').1
      have h1 := hcell j hj
      have e1 : zs.getD j 0 = z := by simp [List.getD_eq_getElem?_getD, hz']
      rw [e1] at h1
      rw [h1]
      have hw := hwz z (List.mem_of_getElem? hz')
      have : 0 ≤ z ∧ z ≤ 255 := by simpa [Lit.wf, IntKind.min, IntKind.max, IntKind.signed, IntKind.bits] using hw
      simp [bv]; omega
    · cases hz'
end Go.Proofs.YtfjfjjcdlgdbcaaDoor
namespace Go.Proofs.YtfjfjjcdlgdbcaaDoor
open Go.ChangeShapes Go.WideShapes Go.ChangeAt Go.RowKit

theorem trod_byte {H : Type} {enc : TypeId × Value → H} {P : Program} {W : World} {base : Nat} {spare : Nat → Bool} {held : Bool} {e : TypeId} {c : List Value} {x : DataW H × List MemPlace} {fuel : Nat}
    (he : P.underlying e = some (.int .u8)) (h : DataW.trod enc P W base spare held fuel e c = some x) : ∃ b : UInt8, c = [bv b] := by
  obtain ⟨z, e1, _, hw⟩ := DataW.trod_int he h
  have hz : 0 ≤ z ∧ z ≤ 255 := by simpa [Lit.wf, IntKind.min, IntKind.max, IntKind.signed, IntKind.bits] using hw
  refine ⟨UInt8.ofNat z.toNat, ?_⟩
  rw [e1]
  simp [bv]; omega

theorem rows_bytes (cs : List Value) (h : ∀ i, i < cs.length → ∃ b : UInt8, (cs.drop i).take 1 = [bv b]) : ∃ xs, cs = bvs xs := by
  induction cs with
  | nil => exact ⟨[], rfl⟩
  | cons c cs ih =>
    obtain ⟨b, hb⟩ := h 0 (by simp)
    obtain ⟨xs, hx⟩ := ih (fun i hi => by
      have := h (i + 1) (by simp; omega)
      simpa using this)
    refine ⟨b :: xs, ?_⟩
    simp only [List.drop_zero, List.take_succ_cons, List.take_zero, List.cons.injEq, and_true] at hb
    rw [hb, hx]; rfl

/-- an array of bytes by value -/
theorem open_array {H : Type} {enc : TypeId × Value → H} {P : Program} {W : World} {base b0 : Nat} {r : Reach} {spare : Nat → Bool} {held : Bool} {t e : TypeId} {n : Nat} {v : Value} {d : DataW H} {p : List MemPlace}
    (ht : P.underlying t = some (.array n e)) (he : P.underlying e = some (.int .u8)) (hce : P.cellsOf e = 1) (hct : P.cellsOf t = n) (hv : Value.okWide P W r b0 t v) (h : DataW.Trod enc P W base spare held t v d p) :
    ∃ xs, v = .agg (bvs xs).toArray ∧ xs.length = n := by
  simp only [Value.okWide, ht] at hv
  obtain ⟨cs, rfl, hs, _⟩ := hv
  obtain ⟨fuel, hf⟩ := h
  obtain ⟨ys, m, _, _, hl, hyl, hy⟩ := DataW.trod_array ht hf
  simp only [Value.cells] at hl hy
  obtain ⟨xs, hx⟩ := rows_bytes cs.toList (fun i hi => by
    have hi' : i < n := by simp at hi; omega
    have h1 := hy i hi'
    rw [hce, Nat.mul_one, List.getElem?_eq_getElem (by omega)] at h1
    exact trod_byte he h1)
  refine ⟨xs, ?_, ?_⟩
  · rw [← hx]
  · rw [← bvs_length, ← hx]; simp; omega
end Go.Proofs.YtfjfjjcdlgdbcaaDoor
namespace Go.Proofs.YtfjfjjcdlgdbcaaDoor
open Go.ChangeShapes Go.WideShapes Go.ChangeAt Go.RowKit
set_option linter.unusedSimpArgs false
set_option linter.unusedVariables false

theorem exists_list {α : Type} (P : Nat → α → Prop) : ∀ n : Nat, (∀ j, j < n → ∃ a, P j a) → ∃ l : List α, l.length = n ∧ ∀ (j : Nat) a, l[j]? = some a → P j a
  | 0, _ => ⟨[], rfl, fun j a h => by simp at h⟩
  | n + 1, h => by
    obtain ⟨l, hl, hp⟩ := exists_list P n (fun j hj => h j (by omega))
    obtain ⟨a, ha⟩ := h n (by omega)
    refine ⟨l ++ [a], by simp [hl], fun j b hj => ?_⟩
    by_cases e : j < n
    · rw [List.getElem?_append_left (by omega)] at hj
      exact hp j b hj
    · rw [List.getElem?_append_right (by omega)] at hj
      have hj0 : j - l.length = 0 := by
        have := (List.getElem?_eq_some_iff.1 hj).1
        simp at this
        omega
      rw [hj0] at hj
      simp at hj
      obtain rfl : j = n := by omega
      rw [← hj]; exact ha
theorem spot_of_cell {w : World} {a : Addr} {v : Value} (h : w.cell? a = some v) : a.spot = none := by
  unfold World.cell? at h
  split at h
  · split at h
    · cases h
    · rename_i hs; simpa using hs
  · cases h
theorem weightsAll_mem {H : Type} {P : Program} {e : TypeId} : ∀ {l : List (DataW H)} {d : DataW H}, d ∈ l → ∀ n ∈ d.weights P e, n ∈ DataW.weightsAll P e l
  | x :: l, d, hd, n, hn => by
    simp only [DataW.weightsAll, List.mem_append]
    rcases List.mem_cons.1 hd with rfl | hd
    · exact .inl hn
    · exact .inr (weightsAll_mem hd n hn)

section
variable {H : Type} {enc : TypeId × Value → H} {W : World} {base : Nat} {spare : Nat → Bool} {held : Bool}
theorem Tryd.bytesOf5 : Tryd.prog.bytesOf 5 = 1 := by kernel_rfl
theorem Tryd.bytesOf112 : Tryd.prog.bytesOf 112 = 48 := by kernel_rfl
theorem Tryd.cellsOf22 : Tryd.prog.cellsOf 22 = 1 := by kernel_rfl
theorem Tryd.cellsOf112 : Tryd.prog.cellsOf 112 = 2 := by kernel_rfl
theorem Tryd.cellsOf64 : Tryd.prog.cellsOf 64 = 121 := by kernel_rfl
theorem Tryd.cellsOf60 : Tryd.prog.cellsOf 60 = 20 := by kernel_rfl
theorem Tryd.cellsOf61 : Tryd.prog.cellsOf 61 = 32 := by kernel_rfl
theorem Tryd.cellsOf25 : Tryd.prog.cellsOf 25 = 32 := by kernel_rfl
theorem Tryd.cellsOf3 : Tryd.prog.cellsOf 3 = 1 := by kernel_rfl
theorem Tryd.cellsOf62 : Tryd.prog.cellsOf 62 = 1 := by kernel_rfl
theorem Tryd.cellsOf5 : Tryd.prog.cellsOf 5 = 1 := by kernel_rfl

/-- bytes in a field -/
theorem open_bytesF {fuel : Nat} {c : List Value} {x : DataW H × List MemPlace} (h : DataW.trod enc Tryd.prog W base spare held fuel 22 c = some x) :
    ∃ A n cap xs, c = [.slice A n cap] ∧ RdB W A n cap xs ∧ ((∀ k ∈ x.1.weights Tryd.prog 22, k ≤ reachBytes) → n ≤ reachBytes) := by
  rcases DataW.trod_slice Tryd.underlying22 h with ⟨hc, hx⟩ | ⟨a, len, cap, elems, rest, n, _, hc, hx, _, _, _, hel, _⟩
  · subst hc
    obtain ⟨xs, hr⟩ := open_bytes Tryd.underlying22 Tryd.underlying5 Tryd.cellsOf5 h
    exact ⟨none, 0, 0, xs, rfl, hr, fun _ => Nat.zero_le _⟩
  · subst hc
    obtain ⟨xs, hr⟩ := open_bytes Tryd.underlying22 Tryd.underlying5 Tryd.cellsOf5 h
    refine ⟨some a, len, cap, xs, rfl, hr, fun hw => ?_⟩
    have := hw ((elems.length + rest.length) * 1) (by rw [hx]; simp [DataW.weights, Tryd.underlying22, Tryd.bytesOf5])
    omega
/-- an array of bytes in a field -/
theorem open_arrF {t n : Nat} (ht : Tryd.prog.underlying t = some (.array n 5)) {fuel : Nat} {c : List Value} {x : DataW H × List MemPlace} (hct : Tryd.prog.cellsOf t = n) (h : DataW.trod enc Tryd.prog W base spare held fuel t c = some x) :
    ∃ xs, c = bvs xs ∧ xs.length = n := by
  obtain ⟨ys, m, _, _, hl, hyl, hy⟩ := DataW.trod_array ht h
  obtain ⟨xs, hx⟩ := rows_bytes c (fun i hi => by
    have hi' : i < n := by omega
    have h1 := hy i hi'
    rw [Tryd.cellsOf5, Nat.mul_one, List.getElem?_eq_getElem (by omega)] at h1
    exact trod_byte Tryd.underlying5 h1)
  refine ⟨xs, hx, ?_⟩
  rw [← bvs_length, ← hx]; omega
set_option maxRecDepth 100000 in
/-- a list of keys and values -/
theorem open_kvs {fuel : Nat} {c : List Value} {x : DataW H × List MemPlace} (h : DataW.trod enc Tryd.prog W base spare held fuel 62 c = some x) :
    ∃ A n cap kvs, c = [.slice A n cap] ∧ RdKV W A n cap kvs ∧ ((∀ k ∈ x.1.weights Tryd.prog 62, k ≤ reachBytes) → n ≤ reachBytes ∧ ∀ kv ∈ kvs, kv.1.length ≤ reachBytes) := by
  rcases DataW.trod_slice Tryd.underlying62 h with ⟨hc, hx⟩ | ⟨a, len, cap, elems, rest, n, _, hc, hx, _, hlc, hcm, hel, hcell, _⟩
  · exact ⟨none, 0, 0, [], hc, ⟨rfl, Nat.le_refl _, by unfold maxLen; omega, fun h => absurd h (by omega)⟩, fun _ => ⟨Nat.zero_le _, by simp⟩⟩
  · have each : ∀ j, j < len → ∃ kv : List UInt8 × List UInt8, ∃ B m d B' m' d', W.cell? ((a.add (j * 2)).add 0) = some (.slice B m d) ∧ RdB W B m d kv.1 ∧ W.cell? ((a.add (j * 2)).add 1) = some (.slice B' m' d') ∧ RdB W B' m' d' kv.2 ∧
        ((∀ k ∈ x.1.weights Tryd.prog 62, k ≤ reachBytes) → m ≤ reachBytes) := by
      intro j hj
      have h1 := hcell j hj
      rw [List.getElem?_eq_getElem (by omega), Option.bind_eq_some_iff] at h1
      obtain ⟨cs, hcs, h2⟩ := h1
      rw [Tryd.cellsOf112] at hcs
      obtain ⟨_, hl2, hc2⟩ := World.cells?_some hcs
      obtain ⟨ys, n2, _, hx2, _, hyl, hf⟩ := DataW.trod_struct Tryd.underlying112 h2
      have f0 : DataW.trod enc Tryd.prog W base spare held n2 22 ((cs.drop 0).take (Tryd.prog.cellsOf 22)) = ys[0]? := hf 0 _ rfl
      have f1 : DataW.trod enc Tryd.prog W base spare held n2 22 ((cs.drop 1).take (Tryd.prog.cellsOf 22)) = ys[1]? := hf 1 _ rfl
      rw [Tryd.cellsOf22] at f0 f1
      rw [List.drop_zero] at f0
      have hyl2 : ys.length = 2 := hyl
      rw [List.getElem?_eq_getElem (by omega)] at f0 f1
      obtain ⟨B, m, d, xs, e0, r0, w0⟩ := open_bytesF f0
      obtain ⟨B', m', d', xs', e1, r1, _⟩ := open_bytesF f1
      have hc0 := hc2 0 (by omega)
      have hc1 := hc2 1 (by omega)
      match cs, hl2, e0, e1, hc0, hc1 with
      | [u, v], _, e0, e1, hc0, hc1 =>
        simp only [List.take_succ_cons, List.take_zero, List.drop_succ_cons, List.drop_zero, List.cons.injEq, and_true] at e0 e1
        subst e0 e1
        refine ⟨(xs, xs'), B, m, d, B', m', d', hc0, r0, hc1, r1, fun hw => w0 (fun k hk => hw k ?_)⟩
        rw [hx]
        simp only [DataW.weights, Tryd.underlying62, List.mem_cons, List.mem_append]
        refine .inr (.inl (weightsAll_mem (List.mem_map.2 ⟨elems[j], List.getElem_mem _, rfl⟩) k ?_))
        rw [hx2]
        simp only [DataW.weights, Tryd.underlying112]
        exact DataW.weights_mem_each (j := 0) (t := 22) (d := ys[0].1) rfl (by rw [List.getElem?_map, List.getElem?_eq_getElem (by omega)]; rfl) k hk
    obtain ⟨kvs, hkl, hkv⟩ := exists_list _ len each
    refine ⟨some a, len, cap, kvs, hc, ⟨hkl, hlc, hcm, fun hp => ?_⟩, fun hw => ⟨?_, fun kv hm => ?_⟩⟩
    · have hsp : a.spot = none := by
        obtain ⟨kv, B, m, d, B', m', d', h1, _⟩ := each 0 hp
        rw [Nat.zero_mul] at h1
        exact spot_of_cell h1
      obtain ⟨g, o, sp⟩ := a
      obtain rfl : sp = none := hsp
      refine ⟨g, o, rfl, fun j kv hj => ?_⟩
      obtain ⟨B, m, d, B', m', d', h1, h2, h3, h4, _⟩ := hkv j kv hj
      have ea : ((⟨g, o, none⟩ : Addr).add (j * 2)).add 0 = ⟨g, o + j * 2, none⟩ := by unfold Addr.add; split <;> split <;> simp_all
      have eb : ((⟨g, o, none⟩ : Addr).add (j * 2)).add 1 = ⟨g, o + j * 2 + 1, none⟩ := by unfold Addr.add; split <;> split <;> simp_all
      rw [ea] at h1
      rw [eb] at h3
      exact ⟨B, m, d, B', m', d', h1, h2, h3, h4⟩
    · have := hw ((elems.length + rest.length) * 48) (by rw [hx]; simp [DataW.weights, Tryd.underlying62, Tryd.bytesOf112])
      omega
    · obtain ⟨j, hj⟩ := List.getElem?_of_mem hm
      obtain ⟨B, m, d, B', m', d', _, h2, _, _, h5⟩ := hkv j kv hj
      rw [h2.1]
      exact h5 hw
theorem split9 {α : Type} (l : List α) (h : l.length = 121) : l = l.take 1 ++ ((l.drop 1).take 20 ++ ((l.drop 21).take 32 ++ ((l.drop 53).take 32 ++ ((l.drop 85).take 32 ++ ((l.drop 117).take 1 ++ ((l.drop 118).take 1 ++ ((l.drop 119).take 1 ++ (l.drop 120).take 1))))))) := by
  have step : ∀ a b, l.drop a = (l.drop a).take b ++ l.drop (a + b) := fun a b => by rw [← List.drop_drop]; exact (List.take_append_drop b (l.drop a)).symm
  have e9 : (l.drop 120).take 1 = l.drop 120 := List.take_of_length_le (by simp; omega)
  rw [e9, ← step 119 1, ← step 118 1, ← step 117 1, ← step 85 32, ← step 53 32, ← step 21 32, ← step 1 20]
  exact (List.take_append_drop 1 l).symm
set_option maxRecDepth 100000 in
/-- an act by value -/
theorem open_act {b0 : Nat} {r : Reach} {v : Value} {d : DataW H} {p : List MemPlace} (hv : Value.okWide Tryd.prog W r b0 64 v) (h : DataW.Trod enc Tryd.prog W base spare held 64 v d p) (hw : ∀ k ∈ d.weights Tryd.prog 64, k ≤ reachBytes) :
    ∃ A bA bn bc lA ln lc, v = .agg (ak A (.slice bA bn bc) (.slice lA ln lc)) ∧ RdAct W A bA bn bc lA ln lc ∧ A.Held := by
  simp only [Value.okWide, Tryd.underlying64] at hv
  obtain ⟨cs, rfl, hs, _⟩ := hv
  obtain ⟨fuel, hf⟩ := h
  obtain ⟨xs, m, _, hx, hl, hxl, hfs⟩ := DataW.trod_struct Tryd.underlying64 hf
  have hl : cs.toList.length = 121 := hl.trans Tryd.cellsOf64
  have hxl9 : xs.length = 9 := hxl
  have g := fun i (hi : i < 9) => List.getElem?_eq_getElem (l := xs) (i := i) (by omega)
  have f0 : DataW.trod enc Tryd.prog W base spare held m 3 ((cs.toList.drop 0).take (Tryd.prog.cellsOf 3)) = some xs[0] := (hfs 0 _ rfl).trans (g 0 (by omega))
  have f1 : DataW.trod enc Tryd.prog W base spare held m 60 ((cs.toList.drop 1).take (Tryd.prog.cellsOf 60)) = some xs[1] := (hfs 1 _ rfl).trans (g 1 (by omega))
  have f2 : DataW.trod enc Tryd.prog W base spare held m 61 ((cs.toList.drop 21).take (Tryd.prog.cellsOf 61)) = some xs[2] := (hfs 2 _ rfl).trans (g 2 (by omega))
  have f3 : DataW.trod enc Tryd.prog W base spare held m 61 ((cs.toList.drop 53).take (Tryd.prog.cellsOf 61)) = some xs[3] := (hfs 3 _ rfl).trans (g 3 (by omega))
  have f4 : DataW.trod enc Tryd.prog W base spare held m 25 ((cs.toList.drop 85).take (Tryd.prog.cellsOf 25)) = some xs[4] := (hfs 4 _ rfl).trans (g 4 (by omega))
  have f5 : DataW.trod enc Tryd.prog W base spare held m 3 ((cs.toList.drop 117).take (Tryd.prog.cellsOf 3)) = some xs[5] := (hfs 5 _ rfl).trans (g 5 (by omega))
  have f6 : DataW.trod enc Tryd.prog W base spare held m 3 ((cs.toList.drop 118).take (Tryd.prog.cellsOf 3)) = some xs[6] := (hfs 6 _ rfl).trans (g 6 (by omega))
  have f7 : DataW.trod enc Tryd.prog W base spare held m 22 ((cs.toList.drop 119).take (Tryd.prog.cellsOf 22)) = some xs[7] := (hfs 7 _ rfl).trans (g 7 (by omega))
  have f8 : DataW.trod enc Tryd.prog W base spare held m 62 ((cs.toList.drop 120).take (Tryd.prog.cellsOf 62)) = some xs[8] := (hfs 8 _ rfl).trans (g 8 (by omega))
  rw [Tryd.cellsOf3] at f0 f5 f6
  rw [Tryd.cellsOf60] at f1
  rw [Tryd.cellsOf61] at f2 f3
  rw [Tryd.cellsOf25] at f4
  rw [Tryd.cellsOf22] at f7
  rw [Tryd.cellsOf62] at f8
  rw [List.drop_zero] at f0
  obtain ⟨kind, e0, _, wk⟩ := DataW.trod_int Tryd.underlying3 f0
  obtain ⟨ad, e1, la⟩ := open_arrF Tryd.underlying60 Tryd.cellsOf60 f1
  obtain ⟨key, e2, lk⟩ := open_arrF Tryd.underlying61 Tryd.cellsOf61 f2
  obtain ⟨wd, e3, lw⟩ := open_arrF Tryd.underlying61 Tryd.cellsOf61 f3
  obtain ⟨rt, e4, lr⟩ := open_arrF Tryd.underlying25 Tryd.cellsOf25 f4
  obtain ⟨nn, e5, _, wn⟩ := DataW.trod_int Tryd.underlying3 f5
  obtain ⟨mm, e6, _, wm⟩ := DataW.trod_int Tryd.underlying3 f6
  obtain ⟨bA, bn, bc, bs, e7, rb, hb⟩ := open_bytesF f7
  obtain ⟨lA, ln, lc, kvs, e8, rl, hl8⟩ := open_kvs f8
  have hwx : ∀ (i : Nat) (t : TypeId) (y : DataW H × List MemPlace), [3, 60, 61, 61, 25, 3, 3, 22, 62][i]? = some t → xs[i]? = some y → ∀ k ∈ y.1.weights Tryd.prog t, k ≤ reachBytes := by
    intro i t y hi hy k hk
    refine hw k ?_
    have hd : d = .agg (xs.map (·.1)) := congrArg Prod.fst hx
    rw [hd]
    simp only [DataW.weights, Tryd.underlying64]
    exact DataW.weights_mem_each (j := i) (t := t) (d := y.1) hi (by rw [List.getElem?_map, hy]; rfl) k hk
  have hb' := hb (hwx 7 22 _ rfl (g 7 (by omega)))
  have hl' := hl8 (hwx 8 62 _ rfl (g 8 (by omega)))
  have w64 : ∀ z : Int, (Lit.int .i64 z).wf = true → -9223372036854775808 ≤ z ∧ z ≤ 9223372036854775807 := fun z hz => by
    have : -9223372036854775808 ≤ z ∧ z ≤ 9223372036854775807 := by simpa [Lit.wf, IntKind.min, IntKind.max, IntKind.signed, IntKind.bits] using hz
    exact this
  have hrb : reachBytes ≤ 140737488355328 := by have := reachBytes_lt; omega
  refine ⟨⟨kind, ad, key, wd, rt, nn, mm, bs, kvs⟩, bA, bn, bc, lA, ln, lc, ?_, ⟨⟨la, lk, lw, lr, (w64 _ wn).1, (w64 _ wn).2, (w64 _ wm).1, (w64 _ wm).2, (w64 _ wk).1, (w64 _ wk).2⟩, rb, rl⟩, ⟨?_, ?_, fun kv hm => ?_⟩⟩
  · congr 1
    apply Array.toList_inj.1
    rw [split9 cs.toList hl, e0, e1, e2, e3, e4, e5, e6, e7, e8]
    rfl
  · show bs.length ≤ _
    rw [rb.1]; omega
  · show kvs.length ≤ _
    rw [rl.1]; omega
  · have := hl'.2 kv hm
    omega
end

set_option maxRecDepth 100000 in
/-- what the lists of the archive's rows give -/
theorem laidW_of {laid : List (String × DataW Unit)} {W : World} (hL : laidMet Tryd.prog laid W) (hS : W.ShapedOpen Tryd.prog)
    (h1 : ("internal/strconv.uint64pow10", Rows.laid_internal_strconv_uint64pow10) ∈ laid) (h2 : ("strconv.ErrSyntax", Rows.laid_strconv_ErrSyntax) ∈ laid) (h3 : ("strconv.ErrRange", Rows.laid_strconv_ErrRange) ∈ laid) : LaidW W := by
  have iface_of : ∀ (name : String) (g : Nat) (d : DataW Unit) (tn : String), Lib.VarReads Tryd.prog W name (.iface tn d) → Tryd.prog.globalNamed name = some g → (Tryd.prog.globals[g]?).map (·.type) = some 86 → ∃ ev, W.cell? ⟨g, 0, none⟩ = some ev ∧ (ev = .nilIface ∨ ∃ te pe, ev = .iface te pe) := by
    intro name g d tn ⟨g', t', cs, fuel, p, hg', ht', hvar, hd⟩ hg ht
    obtain rfl := Option.some.inj (hg.symm.trans hg')
    obtain rfl := Option.some.inj (ht.symm.trans ht')
    have hc := World.var?_cell hg hvar 0
    cases fuel with
    | zero => simp [DataW.trod] at hd
    | succ n =>
      unfold DataW.trod at hd
      rw [Tryd.underlying86] at hd
      obtain ⟨l⟩ := cs
      match l, hd, hc with
      | [], hd, _ => simp at hd
      | [v], hd, hc =>
        refine ⟨v, by simpa using hc, ?_⟩
        cases v <;> simp at hd ⊢
      | a :: b :: r, hd, _ => simp at hd
  have hm : ∃ m, W.cell? ⟨1, 0, none⟩ = some (.int .i64 m) := cell_of_shapedOpen_int (P := Tryd.prog) (g := 1) (t := 3) (zero := #[.int .i64 0]) hS (of_decide_eq_true (by kernel_rfl)) (by kernel_rfl) rfl (by kernel_rfl) (by kernel_rfl) Tryd.underlying3
  refine ⟨?_, hm, iface_of _ 2 _ _ (Lib.laidMet.reads hL h2) (by kernel_rfl) (by kernel_rfl), iface_of _ 3 _ _ (Lib.laidMet.reads hL h3) (by kernel_rfl) (by kernel_rfl)⟩
  obtain ⟨g', t', cs, fuel, p, hg', ht', hvar, hd⟩ := Lib.laidMet.reads hL h1
  have hg : Tryd.prog.globalNamed "internal/strconv.uint64pow10" = some 0 := by kernel_rfl
  obtain rfl := Option.some.inj (hg.symm.trans hg')
  have ht : (Tryd.prog.globals[0]?).map (·.type) = some 187 := by kernel_rfl
  obtain rfl := Option.some.inj (ht.symm.trans ht')
  unfold Lib.TabIs
  rw [hvar]
  have he : (Rows.laid_internal_strconv_uint64pow10 : DataW Unit) = Lib.tabData .u64 Lib.pow10Tab := by kernel_rfl
  rw [he] at hd
  have := Lib.cells_of_tab Tryd.underlying187 Tryd.underlying26 (by kernel_rfl) (by kernel_rfl) hd
  rw [← this]
end Go.Proofs.YtfjfjjcdlgdbcaaDoor
