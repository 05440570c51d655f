/- archive.Parse -/
import Derived.Test.YtfjfjjcdlgdbcaaDoorE13
namespace Go.Proofs.YtfjfjjcdlgdbcaaDoor
open Go.RowKit
set_option linter.unusedSimpArgs false
set_option linter.unusedVariables false

theorem getD_mem {x : List UInt8} {k : Nat} (h : k < x.length) : x.getD k 0 ∈ x := by
  rw [List.getD_eq_getElem?_getD, List.getElem?_eq_getElem h]; exact List.getElem_mem h
theorem all_take_succ (x : List UInt8) (k : Nat) (h : k < x.length) : (x.take (k + 1)).all okByte = ((x.take k).all okByte && okByte (x.getD k 0)) := by
  rw [List.take_succ_eq_append_getElem h]
  simp only [List.all_append, List.all_cons, List.all_nil, Bool.and_true, List.getD_eq_getElem?_getD, List.getElem?_eq_getElem h, Option.getD_some]
theorem decode_bad (x : List UInt8) (k : Nat) (h : k < x.length) (hb : okByte (x.getD k 0) = false) : ((Utf8.decode (str x) k).1 : Int) < 32 ∨ (126 : Int) < ((Utf8.decode (str x) k).1 : Int) := by
  have hb' : ¬ (32 ≤ (x.getD k 0).toNat ∧ (x.getD k 0).toNat ≤ 126) := of_decide_eq_false hb
  by_cases ha : (x.getD k 0).toNat < 128
  · rw [decode_at x k h ha]
    show ((x.getD k 0).toNat : Int) < 32 ∨ (126 : Int) < ((x.getD k 0).toNat : Int)
    omega
  · have e : ((str x)[k]'h).toNat = (x.getD k 0).toNat := by
      show (x.toArray[k]'h).toNat = _
      simp [List.getD_eq_getElem?_getD, List.getElem?_eq_getElem h]
    have := (decode_high (str x) k h (by rw [e]; omega)).1
    right
    omega
theorem parseG_bad (pF : ActP → UInt8 → List UInt8 → Option ActP) (x : List UInt8) (h : x.all okByte = false) : parseG pF x = none := by
  unfold parseG
  rw [if_neg (by rw [h]; simp)]
theorem all_of_no (x : List UInt8) (k : Nat) (h : k < x.length) (hb : okByte (x.getD k 0) = false) : x.all okByte = false := by
  rw [Bool.eq_false_iff]
  intro hall
  rw [List.all_eq_true] at hall
  rw [hall _ (getD_mem h)] at hb
  cases hb
theorem parseG_at (pF : ActP → UInt8 → List UInt8 → Option ActP) (x w0 : List UInt8) (ws : List (List UInt8)) (h : x.all okByte = true) (hs : splitL 32 x = w0 :: ws) :
    parseG pF x = if 0 ≤ kindOf w0 ∧ ws.length = (kf (kindOf w0)).length then
      match parseFs pF (zAct (kindOf w0)) (kf (kindOf w0)) ws with
      | none => none
      | some A => if badA A = false ∧ printT A = x then some A else none
    else none := by
  unfold parseG
  rw [if_pos h, hs]
  simp only [List.headD_cons, List.tail_cons, List.length_cons]
  congr 1
  simp only [eq_iff_iff, and_congr_right_iff]
  intro _
  omega
/-- the same, with the frame whole -/
theorem wpList_nextS2 {P : Program} {ops : Array Oper} {rest : List Oper} {o : Oper} {a : Act} {W : World} {Q : Exit → Act → World → Prop} (hgd : o.guard = none) (x : Operand) (ho : o.op = .next x true)
    (k : Nat) (hx : a.eval x = .pointer (some ⟨k, 0, none⟩)) (s : ByteArray) (pos : Nat) (hk : W.heap[k]? = some (.stringIter s pos)) (hp : pos < s.size)
    (h : ∀ W', W'.heap[k]? = some (.stringIter s (pos + (Utf8.decode s pos).2)) → W.grownBy W' (some k) → W'.heap.size = W.heap.size →
      wpList P ops Q rest (a.put o.dst (.tuple #[.bool true, .int .i64 pos, .int .i32 (Utf8.decode s pos).1])) W') : wpList P ops Q (o :: rest) a W :=
  wpList_plain hgd fun K hK => by
    have hlt : k < W.heap.size := (Array.getElem?_eq_some_iff.1 hk).1
    unfold Oper.wp execOp
    simp only [ho, hx, Sem.run_bind, Sem.run_pure, run_next_at W k s pos o.type hk hp, Result.andThen_ok]
    refine hK _ _ (h _ ?_ ⟨rfl, rfl, rfl, ?_, fun i hi hne => ?_⟩ ?_)
    · simp [hlt]
    · simp
    · show (W.heap.setIfInBounds k _)[i]? = W.heap[i]?
      rw [Array.getElem?_setIfInBounds, if_neg (by intro e; exact hne (by rw [e]))]
    · simp
theorem setCells_size : ∀ (vs : List Value) (o : Nat) (w : World) (n : Nat), (w.setCells n o vs).heap.size = w.heap.size
  | [], _, _, _ => rfl
  | v :: r, o, w, n => by
    simp only [World.setCells]
    rw [setCells_size r (o + 1) _ n]
    simp [World.setCell]
theorem kindOf_range (w0 : List UInt8) : -1 ≤ kindOf w0 ∧ kindOf w0 < 28 := by
  unfold kindOf
  split
  · rename_i h
    obtain ⟨k, hk, h1⟩ := h
    have : (List.range 28).findIdx (fun k => decide ((kt.getD k ([], [])).1 ≠ [] ∧ (kt.getD k ([], [])).1 = w0)) < (List.range 28).length :=
      List.findIdx_lt_length_of_exists ⟨k, by simpa using hk, by simpa using h1⟩
    simp only [List.length_range] at this
    omega
  · omega
theorem words_new (wr : World) (w0 : List UInt8) (ws : List (List UInt8)) : Words ((wr.alloc (.cells (svs (w0 :: ws)).toArray 9)).alloc (.cells #[.slice (some ⟨wr.heap.size, 0, none⟩) (ws.length + 1) (ws.length + 1)] 84)) (wr.heap.size + 1) (w0 :: ws) := by
  refine ⟨wr.heap.size, ws.length + 1, ?_, fun j s hj => ?_⟩
  · rw [World.cell?_alloc_at _ _ _ _ (by simp)]; rfl
  · rw [World.cell?_alloc_lt _ _ ⟨wr.heap.size, j, none⟩ (by simp), World.cell?_alloc_at _ _ _ _ rfl]
    simp only [svs, List.getElem?_toArray, List.getElem?_map, hj, Option.map_some]
attribute [local go_sem] zk_zero

set_option maxRecDepth 100000 in
set_option maxHeartbeats 8000000 in
theorem Parse_callsG (pF : ActP → UInt8 → List UInt8 → Option ActP) (x : List UInt8) (w : World) (hL : LaidW w) (hx : x.length ≤ 100000000)
    (HP : ∀ c ∈ kf (kindOf ((splitL 32 x).headD [])), ∀ s ∈ splitL 32 x, ParsedAt pF c s)
    (HSm : ∀ A, parseFs pF (zAct (kindOf ((splitL 32 x).headD []))) (kf (kindOf ((splitL 32 x).headD []))) (splitL 32 x).tail = some A → A.Small) :
    Calls Tryd.prog 37 #[.string (str x)] w (ParseEnd w (parseG pF x)) := by
  have hHP := Lib.hid HP
  have hHS := Lib.hid HSm
  have hT0 : Hid (AggT Tryd.prog 64 (zk 0).size) := by rw [zk_size]; exact Tryd.agg64
  clear HP HSm
  go_enter Tryd.func37, Tryd.ntmps37
  go_wp2
  obtain ⟨wA, hwA⟩ : ∃ wA, wA = w.alloc (.cells (zk 0) 64) := ⟨_, rfl⟩
  have hsA := Lib.hid (show wA.heap.size = w.heap.size + 1 by rw [hwA]; simp)
  have hBA := Lib.hid (show Blk wA w.heap.size 64 (zk 0) by rw [hwA]; exact Blk.new _ _ _)
  have hWA := Lib.hid (show Below w.heap.size w wA by rw [hwA]; exact al (Below.refl _ _) _)
  have hLA := Lib.hid (hL.below hWA.out)
  rw [← hwA]
  have hszx : (str x).size = x.length := rfl
  clear hwA hL
  go_loopw [5] (fun v wr => ∃ k : Nat, k ≤ x.length ∧ (x.take k).all okByte = true ∧ wr.heap[w.heap.size + 1]? = some (.stringIter (str x) k) ∧ Below (w.heap.size + 1) wA wr) (fun _ wr => x.length - World.iterAt wr (w.heap.size + 1))
  case atStart => exact ⟨0, by omega, by simp, by rw [← hsA.out]; exact heap_alloc_new wA _, by rw [← hsA.out]; exact al (Below.refl _ _) _⟩
  case round =>
    obtain ⟨k, hk, hall, hit, hb⟩ := hrel
    have hbs := hb.size
    have HALL := Lib.hid hall
    have HIT := Lib.hid hit
    clear hall hit
    by_cases hlt : k < x.length
    · have hlt' : k < (str x).size := hlt
      cases hok : okByte (x.getD k 0) with
      | true =>
        have hbk : 32 ≤ (x.getD k 0).toNat ∧ (x.getD k 0).toNat ≤ 126 := of_decide_eq_true hok
        have hdec := Lib.hid (decode_at x k hlt (by omega))
        have hsu := Lib.hid (all_take_succ x k hlt)
        have hok' := Lib.hid hok
        clear hok
        generalize x.getD k 0 = c at *
        go_wp2_with (refine wpList_nextS rfl (.tmp 15) rfl (w.heap.size + 1) rfl (str x) k HIT.out hlt' ?_; rw [hdec.out]; intro w3 hit3 hb3 hs3)
        go_roundw
        case rel => exact ⟨k + 1, by omega, by rw [hsu.out, HALL.out, hok'.out]; rfl, hit3, hb.trans hb3⟩
        case measure =>
          rw [iterAt_of hit3, iterAt_of HIT.out]
          omega
      | false =>
        have hbad := decode_bad x k hlt hok
        have hpb := Lib.hid (parseG_bad pF x (all_of_no x k hlt hok))
        clear hok
        have hB3 := Lib.hid (fun W (hW : Below (w.heap.size + 1) wA W) => hBA.out.below hW (by omega))
        rcases hbad with hbad | hbad
        · go_wp2_with (first | (refine wpList_nextS rfl (.tmp 15) rfl (w.heap.size + 1) rfl (str x) k HIT.out hlt' ?_; intro w3 hit3 hb3 hs3; have hb4 := Lib.hid (hb.trans hb3)) | (refine wpList_build rfl 64 #[] rfl (.agg (zk 0)) (by kernel_rfl) ?_) | (refine wpList_storeAgg rfl rfl 64 _ _ rfl w.heap.size 0 rfl (zk 0) rfl hT0.out ((hB3.out _ hb4.out).room 0 _ (by omega)) (zk_oneCell 0) ?_))
          have hfb := (hB3.out _ hb4.out).setCells (zk 0).toList 0 (by rw [Array.length_toList]; omega)
          rw [ovw_all _ _ (by rw [Array.length_toList])] at hfb
          exact bodyPost_ret (results_agg_tmp rfl _ _ w.heap.size (zk 0) rfl hT0.out (cellsAt_blk hfb)) rfl ⟨below_setCells (hWA.out.trans (hb4.out.mono (by omega))) _ _ _ (Nat.le_refl _), .inl ⟨hpb.out, rfl⟩⟩
        · have hbad2 : ¬ ((Utf8.decode (str x) k).1 : Int) < 32 := by omega
          go_wp2_with (first | (refine wpList_nextS rfl (.tmp 15) rfl (w.heap.size + 1) rfl (str x) k HIT.out hlt' ?_; intro w3 hit3 hb3 hs3; have hb4 := Lib.hid (hb.trans hb3)) | (refine wpList_build rfl 64 #[] rfl (.agg (zk 0)) (by kernel_rfl) ?_) | (refine wpList_storeAgg rfl rfl 64 _ _ rfl w.heap.size 0 rfl (zk 0) rfl hT0.out ((hB3.out _ hb4.out).room 0 _ (by omega)) (zk_oneCell 0) ?_))
          have hfb := (hB3.out _ hb4.out).setCells (zk 0).toList 0 (by rw [Array.length_toList]; omega)
          rw [ovw_all _ _ (by rw [Array.length_toList])] at hfb
          exact bodyPost_ret (results_agg_tmp rfl _ _ w.heap.size (zk 0) rfl hT0.out (cellsAt_blk hfb)) rfl ⟨below_setCells (hWA.out.trans (hb4.out.mono (by omega))) _ _ _ (Nat.le_refl _), .inl ⟨hpb.out, rfl⟩⟩
    · obtain rfl : k = x.length := by omega
      rw [List.take_length] at HALL
      have hnlt : ¬ x.length < (str x).size := by rw [hszx]; omega
      have hbA : Below wA.heap.size wA wr := by rw [hsA.out]; exact hb
      have hBr := Lib.hid (hBA.out.below hb (by omega))
      have hLr := Lib.hid (hLA.out.below hbA)
      have hWr := Lib.hid (hWA.out.trans (hb.mono (by omega)))
      have hsp := Lib.hid (Split_calls x wr (by omega) hLr.out)
      have hne := splitL_ne 32 x
      have hsl := splitL_len 32 x
      clear hb hBA hLA hWA hbA
      obtain ⟨w0, ws, hws⟩ : ∃ w0 ws, splitL 32 x = w0 :: ws := by
        cases hs : splitL 32 x with
        | nil => exact absurd hs hne
        | cons a b => exact ⟨a, b, rfl⟩
      have hPG := Lib.hid (parseG_at pF x w0 ws HALL.out hws)
      rw [hws] at hHP hHS hsp hsl
      simp only [List.headD_cons, List.tail_cons, List.length_cons] at hHP hHS hsp hsl
      clear hne hws
      have hWd := Lib.hid (words_new wr w0 ws)
      have hA117 : Hid (AggT Tryd.prog 117 kindsV.size) := by rw [kindsV_size]; exact Tryd.agg117
      have hmf : ∀ (fn : Fn) (first cap : Array Value) (W : World), (Instr.makeFunc fn first cap).run Tryd.prog W = .ok (.func fn first cap) W := fun fn first cap W => rfl
      go_wp2_with (first | (refine wpList_nextE rfl (.tmp 15) rfl (w.heap.size + 1) rfl (str x) x.length HIT.out hnlt ?_) | (go_at_call 57; refine hsp.out.mono ?_; rintro e w2 ⟨rfl, rfl⟩) | (go_at_call 65; refine (kinds_calls _).mono ?_; rintro e w4 ⟨rfl, hb4⟩) | (refine wpList_storeNew rfl rfl 117 _ _ rfl _ _ rfl kindsV rfl hA117.out (by rw [kindsV_size]; rfl) kindsV_one ?_) | (go_at_call 71; refine (index71_calls w4.heap.size (wr.heap.size + 1) w0 ws _ (Blk.new _ _ _) ((hWd.out.below hb4).below (al (Below.refl _ _) _))).mono ?_; rintro e w5 ⟨rfl, hb5⟩))
      have hr5 : Below wr.heap.size wr w5 := thn (al (thn (al (al (Below.refl _ _) _) _) hb4) _) hb5
      have hw5 := Lib.hid (hWr.out.trans (hr5.mono hWr.out.size))
      have hB5 := Lib.hid (hBr.out.below hr5 hBr.out.lt)
      have hL5 := Lib.hid (hLr.out.below hr5)
      have hWd5 := ((hWd.out.below hb4).below (al (Below.refl _ _) (.cells kindsV 117))).below hb5
      have hK5 := (Blk.new w4 117 kindsV).below hb5 (by simp)
      have hkr := kindOf_range w0
      obtain ⟨r, cw, hcv, hcw⟩ := hWd5
      simp only [List.length_cons] at hcv
      have HWD5 := Lib.hid (show Words w5 (wr.heap.size + 1) (w0 :: ws) from ⟨r, cw, by simpa using hcv, hcw⟩)
      have HCW := Lib.hid hcw
      clear hcw hr5 hWr hBr hLr hWd hA117 hsp
      generalize kindOf w0 = ki at *
      by_cases hneg : ki < 0
      · have hpb : Hid (parseG pF x = none) := by rw [hPG.out, if_neg (by omega)]; trivial
        clear hPG hHP hHS
        go_quiet (fail)
        go_wp2_with (first | (refine wpList_build rfl 64 #[] rfl (.agg (zk 0)) (by kernel_rfl) ?_) | (refine wpList_storeAgg rfl rfl 64 _ _ rfl w.heap.size 0 rfl (zk 0) rfl hT0.out ((hB5.out.drewN nq).room 0 _ (by omega)) (zk_oneCell 0) ?_))
        have hfb := (hB5.out.drewN nq).setCells (zk 0).toList 0 (by rw [Array.length_toList]; omega)
        rw [ovw_all _ _ (by rw [Array.length_toList])] at hfb
        exact bodyPost_ret (results_agg_tmp rfl _ _ w.heap.size (zk 0) rfl hT0.out (cellsAt_blk hfb)) rfl ⟨below_setCells (hw5.out.trans (drawn_below' _ _ _ hw5.out.size)) _ _ _ (Nat.le_refl _), .inl ⟨hpb.out, rfl⟩⟩
      · obtain ⟨kk, rfl⟩ : ∃ kk : Nat, ki = kk := ⟨ki.toNat, by omega⟩
        have hkk : kk < 28 := by omega
        have hfse : kf (kk : Int) = (kt.getD kk ([], [])).2 := by unfold kf; rw [if_pos (by omega)]; rfl
        have hcf : w5.cell? ⟨w4.heap.size, kk * 2 + 1, none⟩ = some (.string (str (kf (kk : Int)))) := by
          rw [hK5.cell, hfse]
          exact (kindsV_at kk hkk).2
        have hasc := Lib.hid (kf_ascii (kk : Int))
        have h22 := Lib.hid (kf_letters (kk : Int))
        have hf10 := (kt_len (kk : Int)).1
        clear hK5 hfse
        generalize hfs : kf (kk : Int) = fs at *
        have hszf : (str fs).size = fs.length := rfl
        by_cases hlen : ws.length = fs.length
        · have hq : ((ws.length : Int) + 1 != 1 + (fs.length : Int)) = false := by simp; omega
          have hq2 : ((fs.length : Int) + 1 != 1 + (fs.length : Int)) = false := by simp; omega
          have hPG' : Hid (parseG pF x = match parseFs pF (zAct kk) fs ws with | none => none | some A => if badA A = false ∧ printT A = x then some A else none) := by
            rw [hPG.out, if_pos ⟨by omega, hlen⟩]; trivial
          clear hPG
          go_quiet (fail)
          have hlt5 : w4.heap.size < w5.heap.size := by have := hb5.size; simp at this; omega
          have hTk : Hid (AggT Tryd.prog 64 (zk kk).size) := by rw [zk_size]; exact Tryd.agg64
          have hzs : (zk (kk : Int)).size = 121 := zk_size _
          have hlenH := Lib.hid hlen
          obtain ⟨wq, hwq⟩ : ∃ wq, wq = w5.drewN nq := ⟨_, rfl⟩
          have hsq := Lib.hid (show wq.heap.size = w5.heap.size by rw [hwq]; rfl)
          have hwdq := Lib.hid (show Words wq (wr.heap.size + 1) (w0 :: ws) by rw [hwq]; exact HWD5.out)
          have hBq := Lib.hid (show Blk wq w.heap.size 64 (zk 0) by rw [hwq]; exact hB5.out)
          have hLq := Lib.hid (show LaidW wq by rw [hwq]; exact hL5.out.below (drawn_below' _ _ _ (Nat.le_refl _)))
          have hWq := Lib.hid (show Below w.heap.size w wq by rw [hwq]; exact hw5.out.trans (drawn_below' _ _ _ hw5.out.size))
          have hcq : wq.cell? ⟨w4.heap.size, kk * 2 + 1, none⟩ = some (.string (str fs)) := by rw [hwq]; exact hcf
          have hltq : w4.heap.size < wq.heap.size := by rw [hsq.out]; exact hlt5
          rw [← hwq]
          clear hwq hcf hcv HWD5 HCW hB5 hL5 hw5 hlen hq hlt5
          obtain ⟨wo, rfl⟩ : ∃ wo : World, wo = wr := ⟨_, rfl⟩
          go_wp2_with (first | (refine wpList_build rfl 64 #[(0, .tmp 46)] rfl (.agg (zk kk)) (by kernel_rfl) ?_) | (refine wpList_storeNew rfl rfl 64 _ _ rfl _ _ rfl (zk kk) rfl hTk.out (by rw [zk_size, zk_size]) (zk_oneCell kk) ?_))
          go_loopw [10, 11] (fun v1 v2 wr => ∃ (k : Nat) (A : ActP) (bA : Option Addr) (bn bc : Nat) (lA : Option Addr) (ln lc : Nat), k ≤ fs.length ∧ parseFs pF (zAct kk) (fs.take k) ws = some A ∧ Blk wr wq.heap.size 64 (ak A (.slice bA bn bc) (.slice lA ln lc)) ∧ RdActX wr (wq.heap.size + 2) A bA bn bc lA ln lc ∧ wr.heap[wq.heap.size + 1]? = some (.stringIter (str fs) k) ∧ Below wq.heap.size wq wr) (fun _ _ wr => fs.length - World.iterAt wr (wq.heap.size + 1))
          case atStart => exact ⟨0, zAct kk, none, 0, 0, none, 0, 0, by omega, rfl, (Blk.new wq 64 (zk kk)).alloc _, ⟨zAct_fit _ (by omega) (by omega), RdBx.nil _ _, RdKVx.nil _ _⟩, by have := heap_alloc_new (wq.alloc (.cells (zk kk) 64)) (.stringIter (str fs) 0); rw [World.size_alloc] at this; exact this, al (al (Below.refl _ _) _) _⟩
          case round =>
            obtain ⟨k, A, bA, bn, bc, lA, ln, lc, hk, hpf, hBg, hRx, hit, hb⟩ := hrel
            have hbs := hb.size
            have HB := Lib.hid hb
            have HIT2 := Lib.hid hit
            have HBG := Lib.hid hBg
            have HRX := Lib.hid hRx
            have hltI : wq.heap.size + 1 < wr.heap.size := (Array.getElem?_eq_some_iff.1 hit).1
            clear hit hBg hRx hb
            by_cases hlt : k < fs.length
            · have hcm : fs.getD k 0 ∈ fs := getD_mem hlt
              have hdec := Lib.hid (decode_at fs k hlt (hasc.out _ hcm))
              obtain ⟨s, hs⟩ : ∃ s, ws[k]? = some s := ⟨_, List.getElem?_eq_getElem (by have := hlenH.out; omega)⟩
              have hsg : ws.getD k [] = s := by rw [List.getD_eq_getElem?_getD, hs]; rfl
              have hstep := Lib.hid (parseFs_take pF fs ws (zAct kk) A k hlt hpf)
              rw [hsg] at hstep
              have hPA := Lib.hid (hHP.out _ hcm s (List.mem_cons_of_mem _ (List.mem_of_getElem? hs)))
              have hA0 := Lib.hid (show fs.getD k 0 = 108 → A.l = [] by
                intro e
                rcases h22.out _ hcm with ⟨_, h⟩ | ⟨_, h⟩
                · rw [e] at h; simp at h
                · rw [← hfs, h] at hlt
                  have h1 : (kf 22).length = 1 := rfl
                  obtain rfl : k = 0 := by omega
                  simp only [List.take_zero, parseFs, Option.some.injEq] at hpf
                  rw [← hpf]; rfl)
              have HS := Lib.hid hs
              have hlt' : k < (str fs).size := by rw [hszf]; exact hlt
              generalize fs.getD k 0 = c at *
              clear hs hsg hcm hpf
              have hkw : k < ws.length := by have := hlenH.out; omega
              have hib : (0 : Int) ≤ 1 + (k : Int) ∧ 1 + (k : Int) < (ws.length : Int) + 1 := by omega
              have hin : (1 + (k : Int)).toNat = 1 + k := by omega
              cases hp : pF A c s with
              | none =>
                have hcall := Lib.hid (fun W hlo hB hR hL => (hPA.out A bA bn bc lA ln lc wq.heap.size (wq.heap.size + 2) W (by omega) hlo hB hR hL hA0.out).mono (fun e W' ⟨hg, h⟩ => (show W.grownBy W' (some wq.heap.size) ∧ e = Ending.returned (.bool false) from ⟨hg, by
                  rcases h with ⟨he, _⟩ | ⟨_, A', _, _, _, _, _, _, hp', _⟩
                  · exact he
                  · rw [hp] at hp'; cases hp'⟩)))
                have hpb : Hid (parseG pF x = none) := by
                  rw [hPG'.out, parseFs_none pF fs ws (zAct kk) (k + 1) (by rw [hstep.out, hp])]; trivial
                go_wp2_with (first | (refine wpList_nextS2 rfl (.tmp 52) rfl (wq.heap.size + 1) rfl (str fs) k HIT2.out hlt' ?_; rw [hdec.out]; intro w6 hit6 hg6 hs6; have hb6 := Lib.hid (HB.out.grown hg6 HB.out.size (fun k hk => by cases hk; omega)); have hB6 := Lib.hid (HBG.out.grown hg6 (by simp)); have hR6 := Lib.hid (HRX.out.keeps (KeepsLo.grown hg6 (by omega))); have hL6 := Lib.hid (hLq.out.below hb6.out); obtain ⟨r6, c6, hcv6, hcw6⟩ := hwdq.out.below hb6.out; simp only [List.length_cons] at hcv6; have hcs6 : w6.cell? ⟨r6, 1 + k, none⟩ = some (.string (str s)) := by (rw [Nat.add_comm]; exact hcw6 (k + 1) s (by simpa using HS.out))) | (go_at_call 73; refine (hcall.out _ (by omega) hB6.out hR6.out hL6.out).mono ?_; rintro e w7 ⟨hg7, rfl⟩; have hb7 := Lib.hid (hb6.out.grown hg7 hb6.out.size (fun k hk => by cases hk; exact Nat.le_refl _)); have hB7 := Lib.hid (hBq.out.below hb7.out hBq.out.lt)) | (refine wpList_build rfl 64 #[] rfl (.agg (zk 0)) (by kernel_rfl) ?_) | (refine wpList_storeAgg rfl rfl 64 _ _ rfl w.heap.size 0 rfl (zk 0) rfl hT0.out (hB7.out.room 0 _ (by omega)) (zk_oneCell 0) ?_))
                have hfb := hB7.out.setCells (zk 0).toList 0 (by rw [Array.length_toList]; omega)
                rw [ovw_all _ _ (by rw [Array.length_toList])] at hfb
                exact bodyPost_ret (results_agg_tmp rfl _ _ w.heap.size (zk 0) rfl hT0.out (cellsAt_blk hfb)) rfl ⟨below_setCells (hWq.out.trans (hb7.out.mono hWq.out.size)) _ _ _ (Nat.le_refl _), .inl ⟨hpb.out, rfl⟩⟩
              | some A1 =>
                have hcall := Lib.hid (fun W hlo hB hR hL => (hPA.out A bA bn bc lA ln lc wq.heap.size (wq.heap.size + 2) W (by omega) hlo hB hR hL hA0.out).mono (fun e W' ⟨hg, h⟩ => (show W.grownBy W' (some wq.heap.size) ∧ e = Ending.returned (.bool true) ∧ ∃ bA' bn' bc' lA' ln' lc', Blk W' wq.heap.size 64 (ak A1 (.slice bA' bn' bc') (.slice lA' ln' lc')) ∧ RdActX W' (wq.heap.size + 2) A1 bA' bn' bc' lA' ln' lc' from ⟨hg, by
                  rcases h with ⟨_, hp'⟩ | ⟨he, A', a1, a2, a3, a4, a5, a6, hp', h1, h2⟩
                  · rw [hp] at hp'; cases hp'
                  · rw [hp] at hp'
                    obtain rfl := Option.some.inj hp'
                    exact ⟨he, a1, a2, a3, a4, a5, a6, h1, h2⟩⟩)))
                go_wp2_with (first | (refine wpList_nextS2 rfl (.tmp 52) rfl (wq.heap.size + 1) rfl (str fs) k HIT2.out hlt' ?_; rw [hdec.out]; intro w6 hit6 hg6 hs6; have hb6 := Lib.hid (HB.out.grown hg6 HB.out.size (fun k hk => by cases hk; omega)); have hB6 := Lib.hid (HBG.out.grown hg6 (by simp)); have hR6 := Lib.hid (HRX.out.keeps (KeepsLo.grown hg6 (by omega))); have hL6 := Lib.hid (hLq.out.below hb6.out); obtain ⟨r6, c6, hcv6, hcw6⟩ := hwdq.out.below hb6.out; simp only [List.length_cons] at hcv6; have hcs6 : w6.cell? ⟨r6, 1 + k, none⟩ = some (.string (str s)) := by (rw [Nat.add_comm]; exact hcw6 (k + 1) s (by simpa using HS.out))) | (go_at_call 73; refine (hcall.out _ (by omega) hB6.out hR6.out hL6.out).mono ?_; rintro e w7 ⟨hg7, rfl, bA1, bn1, bc1, lA1, ln1, lc1, hB7, hR7⟩; have hb7 := Lib.hid (hb6.out.grown hg7 hb6.out.size (fun k hk => by cases hk; exact Nat.le_refl _))))
                go_roundw
                case rel => exact ⟨k + 1, A1, bA1, bn1, bc1, lA1, ln1, lc1, by omega, hstep.out.trans hp, hB7, hR7, (hg7.block _ (by omega) (by simp)).trans hit6, hb7.out⟩
                case measure =>
                  rw [iterAt_of ((hg7.block _ (by omega) (by simp)).trans hit6), iterAt_of HIT2.out]
                  omega
            · obtain rfl : k = fs.length := by omega
              rw [List.take_length] at hpf
              have hnlt2 : ¬ fs.length < (str fs).size := by rw [hszf]; omega
              have hpg : Hid (parseG pF x = if badA A = false ∧ printT A = x then some A else none) := by rw [hPG'.out, hpf]; trivial
              have hpr := Lib.hid (Print_calls A bA bn bc lA ln lc wr HRX.out.rd (hHS.out A hpf) (hLq.out.below HB.out))
              have hagA : Hid (AggT Tryd.prog 64 (ak A (.slice bA bn bc) (.slice lA ln lc)).toList.length) := by rw [Array.length_toList, ak_size _ _ _ HRX.out.1]; exact Tryd.agg64
              have hag := Lib.hid (fun W (hW : Below wr.heap.size wr W) => cellsAt_blk (HBG.out.below hW HBG.out.lt))
              have hBz := Lib.hid (fun W (hW : Below wr.heap.size wr W) => (hBq.out.below HB.out hBq.out.lt).below hW (Nat.lt_of_lt_of_le hBq.out.lt HB.out.size))
              clear hPG' hHP hHS hasc h22
              cases hbd : badA A with
              | true =>
                have hv := printV_bad A hbd
                rw [hv] at hpr
                have hpb : Hid (parseG pF x = none) := by rw [hpg.out, if_neg (by rw [hbd]; simp)]; trivial
                clear hv hpg hbd
                go_wp2_with (first | (refine wpList_nextE rfl (.tmp 52) rfl (wq.heap.size + 1) rfl (str fs) fs.length HIT2.out hnlt2 ?_) | (refine wpList_loadAgg rfl 64 _ rfl wq.heap.size 0 rfl _ hagA.out (hag.out _ (by first | exact Below.refl _ _ | exact hb8.out)) ?_) | (go_at_call 35; refine hpr.out.mono ?_; rintro e w7 ⟨rfl, hb7'⟩; have hb8 := Lib.hid hb7'; have hb7 := Lib.hid (HB.out.trans (hb7'.mono HB.out.size)); have hB7 := Lib.hid (hBz.out _ hb7')) | (refine wpList_build rfl 64 #[] rfl (.agg (zk 0)) (by kernel_rfl) ?_) | (refine wpList_storeAgg rfl rfl 64 _ _ rfl w.heap.size 0 rfl (zk 0) rfl hT0.out (hB7.out.room 0 _ (by omega)) (zk_oneCell 0) ?_))
                have hfb := hB7.out.setCells (zk 0).toList 0 (by rw [Array.length_toList]; omega)
                rw [ovw_all _ _ (by rw [Array.length_toList])] at hfb
                exact bodyPost_ret (results_agg_tmp rfl _ _ w.heap.size (zk 0) rfl hT0.out (cellsAt_blk hfb)) rfl ⟨below_setCells (hWq.out.trans (hb7.out.mono hWq.out.size)) _ _ _ (Nat.le_refl _), .inl ⟨hpb.out, rfl⟩⟩
              | false =>
                have hv := printV_ok A hbd
                rw [hv] at hpr
                by_cases hpx : printT A = x
                · have hcmp : ((str (printT A)).toList != (str x).toList) = false := by rw [str_list, str_list, hpx]; simp
                  have hcmp2 : ((str (printT A)).toList == (str x).toList) = true := by rw [str_list, str_list, hpx]; simp
                  have hcmp3 : (str (printT A)).toList = (str x).toList := by rw [str_list, str_list, hpx]
                  have hpb : Hid (parseG pF x = some A) := by rw [hpg.out, if_pos ⟨hbd, hpx⟩]; trivial
                  have hpA : Hid (AggT Tryd.prog 64 (ak A (.slice bA bn bc) (.slice lA ln lc)).size) := by rw [ak_size _ _ _ HRX.out.1]; exact Tryd.agg64
                  have hsA2 : (ak A (.slice bA bn bc) (.slice lA ln lc)).size = 121 := ak_size _ _ _ HRX.out.1
                  have hz0 : (zk 0).size = 121 := zk_size 0
                  clear hv hpg hbd hpx
                  go_wp2_with (first | (refine wpList_nextE rfl (.tmp 52) rfl (wq.heap.size + 1) rfl (str fs) fs.length HIT2.out hnlt2 ?_) | (refine wpList_loadAgg rfl 64 _ rfl wq.heap.size 0 rfl _ hagA.out (hag.out _ (by first | exact Below.refl _ _ | exact hb8.out)) ?_) | (go_at_call 35; refine hpr.out.mono ?_; rintro e w7 ⟨rfl, hb7'⟩; have hb8 := Lib.hid hb7'; have hb7 := Lib.hid (HB.out.trans (hb7'.mono HB.out.size)); have hB7 := Lib.hid (hBz.out _ hb7')) | (refine wpList_storeAgg rfl rfl 64 _ _ rfl w.heap.size 0 rfl (ak A (.slice bA bn bc) (.slice lA ln lc)) rfl hpA.out (hB7.out.room 0 _ (by omega)) (ak_oneCell _ _ _ _ _ _ _) ?_))
                  have hfb := hB7.out.setCells (ak A (.slice bA bn bc) (.slice lA ln lc)).toList 0 (by rw [Array.length_toList]; omega)
                  rw [ovw_all _ _ (by rw [Array.length_toList]; omega)] at hfb
                  refine bodyPost_ret (results_agg_tmp rfl _ _ w.heap.size (ak A (.slice bA bn bc) (.slice lA ln lc)) rfl hpA.out (cellsAt_blk hfb)) rfl ⟨below_setCells (hWq.out.trans (hb7.out.mono hWq.out.size)) _ _ _ (Nat.le_refl _), .inr ⟨A, bA, bn, bc, lA, ln, lc, hpb.out, rfl, ?_⟩⟩
                  exact ((HRX.out.keeps (KeepsLo.below hb8.out)).keeps ⟨by rw [setCells_size]; exact Nat.le_refl _, fun i h1 _ => heap_setCells_other _ _ _ _ _ (by have := hBq.out.lt; omega)⟩).rd
                · have hcmp : ((str (printT A)).toList != (str x).toList) = true := by rw [str_list, str_list]; simpa using hpx
                  have hcmp2 : ((str (printT A)).toList == (str x).toList) = false := by rw [str_list, str_list]; simpa using hpx
                  have hcmp3 : ¬ (str (printT A)).toList = (str x).toList := by rw [str_list, str_list]; exact hpx
                  have hpb : Hid (parseG pF x = none) := by rw [hpg.out, if_neg (fun h => hpx h.2)]; trivial
                  clear hv hpg hbd hpx
                  go_wp2_with (first | (refine wpList_nextE rfl (.tmp 52) rfl (wq.heap.size + 1) rfl (str fs) fs.length HIT2.out hnlt2 ?_) | (refine wpList_loadAgg rfl 64 _ rfl wq.heap.size 0 rfl _ hagA.out (hag.out _ (by first | exact Below.refl _ _ | exact hb8.out)) ?_) | (go_at_call 35; refine hpr.out.mono ?_; rintro e w7 ⟨rfl, hb7'⟩; have hb8 := Lib.hid hb7'; have hb7 := Lib.hid (HB.out.trans (hb7'.mono HB.out.size)); have hB7 := Lib.hid (hBz.out _ hb7')) | (refine wpList_build rfl 64 #[] rfl (.agg (zk 0)) (by kernel_rfl) ?_) | (refine wpList_storeAgg rfl rfl 64 _ _ rfl w.heap.size 0 rfl (zk 0) rfl hT0.out (hB7.out.room 0 _ (by omega)) (zk_oneCell 0) ?_))
                  have hfb := hB7.out.setCells (zk 0).toList 0 (by rw [Array.length_toList]; omega)
                  rw [ovw_all _ _ (by rw [Array.length_toList])] at hfb
                  exact bodyPost_ret (results_agg_tmp rfl _ _ w.heap.size (zk 0) rfl hT0.out (cellsAt_blk hfb)) rfl ⟨below_setCells (hWq.out.trans (hb7.out.mono hWq.out.size)) _ _ _ (Nat.le_refl _), .inl ⟨hpb.out, rfl⟩⟩
        · have hq : ((ws.length : Int) + 1 != 1 + (fs.length : Int)) = true := by simp; omega
          have hpb : Hid (parseG pF x = none) := by rw [hPG.out, if_neg (by intro h; exact hlen h.2)]; trivial
          clear hPG hHP hHS hlen
          go_quiet (fail)
          go_wp2_with (first | (refine wpList_build rfl 64 #[] rfl (.agg (zk 0)) (by kernel_rfl) ?_) | (refine wpList_storeAgg rfl rfl 64 _ _ rfl w.heap.size 0 rfl (zk 0) rfl hT0.out ((hB5.out.drewN nq).room 0 _ (by omega)) (zk_oneCell 0) ?_))
          have hfb := (hB5.out.drewN nq).setCells (zk 0).toList 0 (by rw [Array.length_toList]; omega)
          rw [ovw_all _ _ (by rw [Array.length_toList])] at hfb
          exact bodyPost_ret (results_agg_tmp rfl _ _ w.heap.size (zk 0) rfl hT0.out (cellsAt_blk hfb)) rfl ⟨below_setCells (hw5.out.trans (drawn_below' _ _ _ hw5.out.size)) _ _ _ (Nat.le_refl _), .inl ⟨hpb.out, rfl⟩⟩
end Go.Proofs.YtfjfjjcdlgdbcaaDoor
