/- the texts E10, E11, E12, E13 of this proof, one behind the other -/
import Derived.Test.YtfjfjjcdlgdbcaaDoorF2
import Derived.Lib.SplitLaws
namespace Go.Proofs.YtfjfjjcdlgdbcaaDoor
open Go.RowKit
set_option linter.unusedSimpArgs false
set_option linter.unusedVariables false

theorem idx_str {P : Program} (xs : List UInt8) (k : Nat) (c : UInt8) (hc : xs[k]? = some c) (W : World) (h : P.underlying 9 = some .string) :
    (Instr.index 9 (.string (str xs)) (.int .i64 (k : Int))).run P W = .ok (.int .u8 (c.toNat : Int)) W := by
  have hk : k < xs.length := (List.getElem?_eq_some_iff.1 hc).1
  rw [run_index_string W 9 (str xs) .i64 k h, dif_pos ⟨by omega, by rw [str_size]; omega⟩]
  have e : ∀ (j : Nat) (hj : j < (str xs).size), j = k → ((str xs)[j]'hj).toNat = c.toNat := by
    rintro j hj rfl
    have e3 : (str xs)[j]'hj = xs[j]'hk := by show xs.toArray[j]'(by simpa using hk) = _; simp
    rw [e3, (List.getElem?_eq_some_iff.1 hc).2]
  rw [e _ _ (Int.toNat_natCast k)]
/-- the letters of fields -/
theorem kf_letters (n : Int) : ∀ c ∈ kf n, (n ≠ 22 ∧ (c = 97 ∨ c = 107 ∨ c = 119 ∨ c = 114 ∨ c = 110 ∨ c = 109 ∨ c = 98)) ∨ (c = 108 ∧ n = 22) := by
  by_cases h : isKind n
  · have : ∀ k : Fin 28, ∀ c ∈ (kt.getD k.val ([], [])).2, (k.val ≠ 22 ∧ (c = 97 ∨ c = 107 ∨ c = 119 ∨ c = 114 ∨ c = 110 ∨ c = 109 ∨ c = 98)) ∨ (c = 108 ∧ k.val = 22) := by decide +kernel
    have h2 := this ⟨n.toNat, by unfold isKind at h; omega⟩
    have e : kf n = (kt.getD n.toNat ([], [])).2 := by unfold kf; rw [if_pos (by unfold isKind at h; omega)]
    rw [e]
    intro c hc
    unfold isKind at *
    rcases h2 c hc with ⟨h3, h4⟩ | ⟨h4, h3⟩
    · exact .inl ⟨fun e => h3 (by show n.toNat = 22; omega), h4⟩
    · exact .inr ⟨h4, by have : n.toNat = 22 := h3
                         omega⟩
  · rw [kf_no n h]; simp
theorem kf_22 (n : Int) (h : n = 22) : kf n ≠ [] := by subst h; decide
theorem join_snoc (ss : List (List UInt8)) (s : List UInt8) : Lib.join (ss ++ [s]) [44] = if ss = [] then s else Lib.join ss [44] ++ (44 :: s) := by
  cases ss with
  | nil => simp [Lib.join_one]
  | cons x r =>
    rw [List.cons_append, Lib.join_cons, Lib.join_cons]
    simp [Lib.joinTail]
theorem join_list (l : List (List UInt8 × List UInt8)) (h : anyNil l = false) : dotL (Lib.join (keysT l) [44]) = listL l := by
  cases l with
  | nil => rfl
  | cons kv l =>
    have hk : kv.1 ≠ [] := by
      intro e
      simp [anyNil, e] at h
    obtain ⟨x, xs, hx⟩ : ∃ x xs, kv.1 = x :: xs := by
      cases he : kv.1 with
      | nil => exact absurd he hk
      | cons x xs => exact ⟨x, xs, rfl⟩
    have e : Lib.join (keysT (kv :: l)) [44] ≠ [] := by
      simp [keysT, Lib.join_cons, hx, hexL, dig2]
    unfold dotL listL
    rw [if_neg e, if_neg (by simp)]
theorem kw_ne (n : Int) (h : isKind n) : kw n ≠ [] := by
  have : ∀ k : Fin 28, 1 ≤ k.val → (kt.getD k.val ([], [])).1 ≠ [] := by decide +kernel
  have h2 := this ⟨n.toNat, by unfold isKind at h; omega⟩ (by unfold isKind at h; show 1 ≤ n.toNat; omega)
  unfold kw
  rw [if_pos (by unfold isKind at h; omega)]
  exact h2
theorem str_ne {xs : List UInt8} (h : xs ≠ []) : ((str xs).toList == []) = false := by
  rw [str_list]
  cases xs with
  | nil => exact absurd rfl h
  | cons _ _ => rfl

set_option maxRecDepth 100000 in
set_option maxHeartbeats 8000000 in
theorem Print20_calls (A : ActP) (bA : Option Addr) (bn bc : Nat) (lA : Option Addr) (ln lc : Nat) (w : World) (h : RdAct w A bA bn bc lA ln lc) (hS : A.Small) :
    Calls Tryd.prog 36 #[.agg (ak A (.slice bA bn bc) (.slice lA ln lc))] w fun e w' => e = .returned (printV A) ∧ Below w.heap.size w w' := by
  have g0 := ak_0 A (.slice bA bn bc) (.slice lA ln lc)
  have hw0 : Below w.heap.size w (w.alloc (.cells (ak A (.slice bA bn bc) (.slice lA ln lc)) 64)) := al (Below.refl _ _) _
  have hwd := Lib.hid (fun W => Word_calls A.kind W)
  have hF := Lib.hid h.1
  have hR := Lib.hid h
  have HS := Lib.hid hS
  have hW0 := Lib.hid hw0
  clear h hS hw0
  by_cases hK : isKind A.kind
  · have hne := str_ne (kw_ne A.kind hK)
    have HK := Lib.hid hK
    have hvT := Lib.hid (show printV A = if decide (A.kind = 22) && anyNil A.l then .tuple #[.string ⟨#[]⟩, .int .i64 203] else .tuple #[.string (str (kw A.kind ++ fieldsT A (kf A.kind))), .int .i64 0] by
      unfold printV badA printT
      rw [decide_eq_true hK]
      simp)
    have hfl := Lib.hid (fieldL_len A hF.out HS.out)
    have hfs := Lib.hid (fieldsT_len A hF.out HS.out)
    have hlen := Lib.hid (kt_len A.kind)
    have hlet := Lib.hid (kf_letters A.kind)
    have h22f := Lib.hid (kf_22 A.kind)
    have hB0 := Lib.hid (Blk.new w 64 (ak A (.slice bA bn bc) (.slice lA ln lc)))
    have hR0 := Lib.hid (hR.out.below hW0.out)
    clear hK hR
    unfold kF at hwd
    generalize kf A.kind = fs at *
    generalize kw A.kind = kws at *
    go_enter Tryd.func36, Tryd.ntmps36
    go_wp2_with (go_at_call 67; refine (hwd.out _).mono ?_; rintro e w1 ⟨rfl, rfl⟩)
    obtain ⟨w0, hw0⟩ : ∃ w0, w0 = w.alloc (.cells (ak A (.slice bA bn bc) (.slice lA ln lc)) 64) := ⟨_, rfl⟩
    rw [← hw0] at hB0 hR0 hW0 ⊢
    clear hw0 hwd
    go_loopw [4, 6] (fun v i wr => ∃ k : Nat, k ≤ fs.length ∧ i = .int .i64 k ∧ v = .string (str (kws ++ fieldsT A (fs.take k))) ∧ (k = 0 ∨ (decide (A.kind = 22) && anyNil A.l) = false) ∧ Below w0.heap.size w0 wr) (fun _ i _ => fs.length - (intOf i).toNat)
    case atStart => exact ⟨0, by omega, rfl, by simp [fieldsT], .inl rfl, Below.refl _ _⟩
    case round =>
      obtain ⟨k, hk, rfl, rfl, hbad, hb⟩ := hrel
      have HBAD := Lib.hid hbad
      clear hbad
      have hbs := hb.size
      by_cases hlt : k < fs.length
      · have hft := Lib.hid (fieldsT_take A fs k hlt)
        have hgc : fs[k]? = some (fs.getD k 0) := by rw [List.getD_eq_getElem?_getD, List.getElem?_eq_getElem hlt]; rfl
        have hlc := hlet.out _ (List.mem_of_getElem? hgc)
        have hml : (fs.map fun c => c - 32).length = fs.length := List.length_map _
        have hidx := fun W => idx_str (P := Tryd.prog) (fs.map fun c => c - 32) k (fs.getD k 0 - 32) (by rw [List.getElem?_map, hgc]; rfl) W Tryd.underlying9
        have hs0 : (kws ++ fieldsT A (fs.take k)).length ≤ 1000000000000010 := by
          rw [List.length_append]
          have := hfs.out (fs.take k) (by rw [List.length_take]; have := hlen.out; omega)
          have := hlen.out
          omega
        have hl10 : fs.length ≤ 10 := hlen.out.1
        have hBk := Lib.hid (hB0.out.below hb hB0.out.lt)
        have hRk := Lib.hid (hR0.out.below hb)
        generalize fs.getD k 0 = c at *
        generalize hms : (fs.map fun c => c - 32) = ms at *
        have hsz : (str ms).size = fs.length := by rw [str_size]; exact hml
        have hs1 : (str (kws ++ fieldsT A (fs.take k))).size ≤ 1000000000000010 := by rw [str_size]; exact hs0
        generalize hsv : kws ++ fieldsT A (fs.take k) = sv at *
        clear hgc hms hml
        have hnb : ∀ P : Prop, (A.kind ≠ 22 ∧ P) → (decide (A.kind = 22) && anyNil A.l) = false := fun P h => by rw [decide_eq_false h.1]; rfl
        have HNB : (A.kind ≠ 22 ∧ (c = 97 ∨ c = 107 ∨ c = 119 ∨ c = 114 ∨ c = 110 ∨ c = 109 ∨ c = 98)) → Hid ((decide (A.kind = 22) && anyNil A.l) = false) := hnb _
        rcases hlc with hlc | ⟨rfl, h22⟩
        rotate_left
        · have hln := hRk.out.2.2.1
          have hbnd : ln ≤ 2000000 := by rw [← hln]; exact HS.out.hl
          have hg : wr.cell? ⟨w.heap.size, 120, none⟩ = some (.slice lA ln lc) := by rw [hBk.out.cell]; exact ak_tail A _ _ hF.out 3
          have hx := Lib.hid (fun (B : Option Addr) (m d : Nat) (xs : List UInt8) (W : World) (hr : RdB W B m d xs) (hs : m ≤ 100000000) => Hex20_calls B m d xs W hr hs)
          have hy := Lib.hid (fun xs W => some20_calls xs W)
          have hn1 : ¬ 9223372036854775807 < (str sv).size + 1 := by omega
          have hfx : Hid (fieldL A ((108 : UInt8).toNat : Int) = listL A.l) := rfl
          have hjb : ∀ j, (str (Lib.join (keysT (A.l.take j)) [44])).size ≤ 10000000000000 := fun j => by
            rw [str_size]
            have := join_len (keysT (A.l.take j)) 4000000 (fun s hs => by
              obtain ⟨kv, hkv, rfl⟩ := List.mem_map.1 hs
              rw [hexL_length]
              have := HS.out.hkv kv (List.mem_of_mem_take hkv)
              omega)
            have h2 : (keysT (A.l.take j)).length * (4000000 + 1) ≤ 2000000 * 4000001 := Nat.mul_le_mul (by rw [keysT, List.length_map, List.length_take]; omega) (by omega)
            omega
          have HJB := Lib.hid hjb
          have H22 := Lib.hid h22
          clear HNB hnb hjb h22
          obtain ⟨wo, rfl⟩ : ∃ wo : World, wo = wr := ⟨_, rfl⟩
          go_wp2
          go_loopw [7, 8] (fun v i wi => ∃ j : Nat, j ≤ ln ∧ i = .int .i64 j ∧ v = .string (str (Lib.join (keysT (A.l.take j)) [44])) ∧ anyNil (A.l.take j) = false ∧ Below wo.heap.size wo wi) (fun _ i _ => ln - (intOf i).toNat)
          case atStart => exact ⟨0, by omega, rfl, rfl, rfl, Below.refl _ _⟩
          case round =>
            obtain ⟨j, hj, rfl, rfl, hnil, hbi⟩ := hrel
            have hgi : wr.cell? ⟨w.heap.size, 120, none⟩ = some (.slice lA ln lc) := cell_below' hbi hg
            have HNIL := Lib.hid hnil
            clear hnil hg
            by_cases hjl : j < ln
            · obtain ⟨g, o, B, m, d, B', m', d', rfl, hgk, hc1, hr1, hc2, hr2⟩ := (hRk.out.2.2.below hbi).at_ hjl
              have hs := Lib.hid (anyNil_succ A.l j (by omega))
              have hyes := Lib.hid (anyNil_yes A.l j (by omega))
              have HF := Lib.hid (keysT_take A.l j (by omega))
              have hmm : m ≤ 2000000 := by
                rw [← hr1.1]
                exact HS.out.hkv _ (List.mem_of_getElem? hgk)
              have hml := hr1.1
              clear hgk hr2
              generalize (A.l.getD j ([], [])).1 = ys at *
              have HR1 := Lib.hid hr1
              clear hr1
              by_cases hz : m = 0
              · have hys : ys = [] := List.eq_nil_of_length_eq_zero (by omega)
                have hyy : Hid ((decide (A.kind = 22) && anyNil A.l) = true) := by
                  rw [decide_eq_true H22.out, hyes.out (by rw [hys]; rfl)]; trivial
                have hz2 : ((m : Int) == 0) = true := by simp [hz]
                clear hys
                go_wp2
                go_ret2
                exact ⟨by rw [hvT.out, hyy.out]; rfl, thn hW0.out (thn hb hbi)⟩
              · have hys : Hid (ys.isEmpty = false) := by
                  cases ys with
                  | nil => exact absurd hml.symm hz
                  | cons _ _ => rfl
                have hz2 : ((m : Int) == 0) = false := by simp; omega
                have hhx : (str (hexL ys)).size ≤ 4000000 := by rw [str_size, hexL_length]; omega
                have hjs := HJB.out j
                generalize hjt : Lib.join (keysT (A.l.take j)) [44] = jt at *
                by_cases hj0 : j = 0
                · have hjt0 : jt = [] := by rw [← hjt, hj0]; rfl
                  have hn3 : ¬ 9223372036854775807 < (str jt).size + (str (hexL ys)).size := by omega
                  have hn4 : ¬ 9223372036854775807 < (str []).size + (str (hexL ys)).size := by rw [str_size []]; simp only [List.length_nil]; omega
                  have hj1 : ¬ (0 : Int) < (j : Int) := by omega
                  have hc0 : wr.cell? ⟨g, o, none⟩ = some (.slice B m d) := by rw [← hc1, hj0]; simp
                  go_wp2_with (go_at_call 68; refine (hx.out B m d ys _ HR1.out (by omega)).mono ?_; rintro e w2 ⟨rfl, hb2⟩)
                  refine ⟨⟨1, by omega, rfl, ?_, ?_, thn hbi hb2⟩, by simp [intOf, hj0]; omega⟩
                  · have h1 := HF.out
                    rw [hj0] at h1
                    rw [show (1 : Nat) = 0 + 1 from rfl, h1, join_snoc, if_pos (show keysT (A.l.take 0) = [] from rfl), str_append]
                    rfl
                  · have h1 := hs.out
                    rw [hj0] at h1
                    rw [show (1 : Nat) = 0 + 1 from rfl, h1, hys.out]
                    rfl
                · have hn3 : ¬ 9223372036854775807 < (str jt).size + 1 := by omega
                  have hn4 : ¬ 9223372036854775807 < (str jt).size + 1 + (str (hexL ys)).size := by omega
                  have hj1 : (0 : Int) < (j : Int) := by omega
                  go_wp2_with (go_at_call 68; refine (hx.out B m d ys _ HR1.out (by omega)).mono ?_; rintro e w2 ⟨rfl, hb2⟩)
                  go_roundw
                  case rel =>
                    refine ⟨j + 1, by omega, by go_num, ?_, by rw [hs.out, HNIL.out, hys.out]; rfl, thn hbi hb2⟩
                    rw [HF.out, join_snoc, if_neg (by intro e; have := congrArg List.length e; rw [keysT, List.length_map, List.length_take] at this; simp only [List.length_nil] at this; omega), hjt, show ({ data := #[44] } : ByteArray) = str [44] from rfl, str_append, str_append]
                    simp
                  case measure => simp [intOf]; omega
            · obtain rfl : j = ln := by omega
              rw [List.take_of_length_le (by omega)] at HNIL ⊢
              have hjl2 := Lib.hid (join_list A.l HNIL.out)
              have hnn : Hid ((decide (A.kind = 22) && anyNil A.l) = false) := by rw [HNIL.out, Bool.and_false]; trivial
              have hdl : (str (dotL (Lib.join (keysT A.l) [44]))).size ≤ 10000000000001 := by
                have h1 := HJB.out j
                rw [List.take_of_length_le (by omega), str_size] at h1
                have h2 := dotL_len (Lib.join (keysT A.l) [44])
                rw [str_size]
                omega
              have hn3 : ¬ 9223372036854775807 < (str sv).size + 1 + (str (dotL (Lib.join (keysT A.l) [44]))).size := by omega
              go_wp2_with (go_at_call 70; refine (hy.out _ _).mono ?_; rintro e w3 ⟨rfl, hb3⟩)
              go_roundw
              case rel =>
                refine ⟨k + 1, by omega, by go_num, ?_, .inr hnn.out, thn (thn hb hbi) hb3⟩
                rw [hft.out, hfx.out, hjl2.out, show ({ data := #[32] } : ByteArray) = str [32] from rfl, str_append, str_append, ← hsv]
                simp
              case measure => simp [intOf]; omega
        have hnn := HNB hlc
        clear HNB hnb
        rcases hlc.2 with rfl | rfl | rfl | rfl | rfl | rfl | rfl
        all_goals clear hlc
        · have hx := Lib.hid (Hex20_calls (some ⟨w.heap.size, 1, none⟩) 20 20 A.addr wr (hBk.out.rd 1 20 A.addr hF.out.ha (by unfold maxLen; omega) (ak_addr A _ _)) (by omega))
          have hfx : Hid (fieldL A ((97 : UInt8).toNat : Int) = hexL A.addr) := rfl
          have hxl : (hexL A.addr).length ≤ 100 := by rw [hexL_length, hF.out.ha]; omega
          have hxs : (str (hexL A.addr)).size ≤ 100 := by rw [str_size]; exact hxl
          have hn1 : ¬ 9223372036854775807 < (str sv).size + 1 := by omega
          have hn2 : ¬ 9223372036854775807 < (str sv).size + 1 + (str (hexL A.addr)).size := by omega
          go_wp2_with (go_at_call 68; refine hx.out.mono ?_; rintro e w2 ⟨rfl, hb2⟩)
          go_roundw
          case rel =>
            refine ⟨k + 1, by omega, by go_num, ?_, .inr hnn.out, thn hb hb2⟩
            rw [hft.out, hfx.out, show ({ data := #[32] } : ByteArray) = str [32] from rfl, str_append, str_append, ← hsv]
            simp
          case measure => simp [intOf]; omega
        · have hx := Lib.hid (Hex20_calls (some ⟨w.heap.size, 21, none⟩) 32 32 A.key wr (hBk.out.rd 21 32 A.key hF.out.hk (by unfold maxLen; omega) (ak_key A _ _ hF.out)) (by omega))
          have hfx : Hid (fieldL A ((107 : UInt8).toNat : Int) = hexL A.key) := rfl
          have hxl : (hexL A.key).length ≤ 100 := by rw [hexL_length, hF.out.hk]; omega
          have hxs : (str (hexL A.key)).size ≤ 100 := by rw [str_size]; exact hxl
          have hn1 : ¬ 9223372036854775807 < (str sv).size + 1 := by omega
          have hn2 : ¬ 9223372036854775807 < (str sv).size + 1 + (str (hexL A.key)).size := by omega
          go_wp2_with (go_at_call 68; refine hx.out.mono ?_; rintro e w2 ⟨rfl, hb2⟩)
          go_roundw
          case rel =>
            refine ⟨k + 1, by omega, by go_num, ?_, .inr hnn.out, thn hb hb2⟩
            rw [hft.out, hfx.out, show ({ data := #[32] } : ByteArray) = str [32] from rfl, str_append, str_append, ← hsv]
            simp
          case measure => simp [intOf]; omega
        · have hx := Lib.hid (Hex20_calls (some ⟨w.heap.size, 53, none⟩) 32 32 A.word wr (hBk.out.rd 53 32 A.word hF.out.hw (by unfold maxLen; omega) (ak_word A _ _ hF.out)) (by omega))
          have hfx : Hid (fieldL A ((119 : UInt8).toNat : Int) = hexL A.word) := rfl
          have hxl : (hexL A.word).length ≤ 100 := by rw [hexL_length, hF.out.hw]; omega
          have hxs : (str (hexL A.word)).size ≤ 100 := by rw [str_size]; exact hxl
          have hn1 : ¬ 9223372036854775807 < (str sv).size + 1 := by omega
          have hn2 : ¬ 9223372036854775807 < (str sv).size + 1 + (str (hexL A.word)).size := by omega
          go_wp2_with (go_at_call 68; refine hx.out.mono ?_; rintro e w2 ⟨rfl, hb2⟩)
          go_roundw
          case rel =>
            refine ⟨k + 1, by omega, by go_num, ?_, .inr hnn.out, thn hb hb2⟩
            rw [hft.out, hfx.out, show ({ data := #[32] } : ByteArray) = str [32] from rfl, str_append, str_append, ← hsv]
            simp
          case measure => simp [intOf]; omega
        · have hx := Lib.hid (Hex20_calls (some ⟨w.heap.size, 85, none⟩) 32 32 A.root wr (hBk.out.rd 85 32 A.root hF.out.hr (by unfold maxLen; omega) (ak_root A _ _ hF.out)) (by omega))
          have hfx : Hid (fieldL A ((114 : UInt8).toNat : Int) = hexL A.root) := rfl
          have hxl : (hexL A.root).length ≤ 100 := by rw [hexL_length, hF.out.hr]; omega
          have hxs : (str (hexL A.root)).size ≤ 100 := by rw [str_size]; exact hxl
          have hn1 : ¬ 9223372036854775807 < (str sv).size + 1 := by omega
          have hn2 : ¬ 9223372036854775807 < (str sv).size + 1 + (str (hexL A.root)).size := by omega
          go_wp2_with (go_at_call 68; refine hx.out.mono ?_; rintro e w2 ⟨rfl, hb2⟩)
          go_roundw
          case rel =>
            refine ⟨k + 1, by omega, by go_num, ?_, .inr hnn.out, thn hb hb2⟩
            rw [hft.out, hfx.out, show ({ data := #[32] } : ByteArray) = str [32] from rfl, str_append, str_append, ← hsv]
            simp
          case measure => simp [intOf]; omega
        · have hx := Lib.hid (number_calls A.n wr hF.out.hn0 hF.out.hn1)
          have hg : wr.cell? ⟨w.heap.size, 117, none⟩ = some (.int .i64 A.n) := by rw [hBk.out.cell]; exact ak_tail A _ _ hF.out 0
          have hfx : Hid (fieldL A ((110 : UInt8).toNat : Int) = Lib.itoa A.n) := rfl
          have hxs : (str (Lib.itoa A.n)).size ≤ 100 := by rw [str_size]; have := itoa_len A.n hF.out.hn0 hF.out.hn1; omega
          have hn1 : ¬ 9223372036854775807 < (str sv).size + 1 := by omega
          have hn2 : ¬ 9223372036854775807 < (str sv).size + 1 + (str (Lib.itoa A.n)).size := by omega
          go_wp2_with (go_at_call 69; refine hx.out.mono ?_; rintro e w2 ⟨rfl, hb2⟩)
          go_roundw
          case rel =>
            refine ⟨k + 1, by omega, by go_num, ?_, .inr hnn.out, thn hb hb2⟩
            rw [hft.out, hfx.out, show ({ data := #[32] } : ByteArray) = str [32] from rfl, str_append, str_append, ← hsv]
            simp
          case measure => simp [intOf]; omega
        · have hx := Lib.hid (number_calls A.m wr hF.out.hm0 hF.out.hm1)
          have hg : wr.cell? ⟨w.heap.size, 118, none⟩ = some (.int .i64 A.m) := by rw [hBk.out.cell]; exact ak_tail A _ _ hF.out 1
          have hfx : Hid (fieldL A ((109 : UInt8).toNat : Int) = Lib.itoa A.m) := rfl
          have hxs : (str (Lib.itoa A.m)).size ≤ 100 := by rw [str_size]; have := itoa_len A.m hF.out.hm0 hF.out.hm1; omega
          have hn1 : ¬ 9223372036854775807 < (str sv).size + 1 := by omega
          have hn2 : ¬ 9223372036854775807 < (str sv).size + 1 + (str (Lib.itoa A.m)).size := by omega
          go_wp2_with (go_at_call 69; refine hx.out.mono ?_; rintro e w2 ⟨rfl, hb2⟩)
          go_roundw
          case rel =>
            refine ⟨k + 1, by omega, by go_num, ?_, .inr hnn.out, thn hb hb2⟩
            rw [hft.out, hfx.out, show ({ data := #[32] } : ByteArray) = str [32] from rfl, str_append, str_append, ← hsv]
            simp
          case measure => simp [intOf]; omega
        · have hx := Lib.hid (Hex20_calls bA bn bc A.b wr hRk.out.2.1 (by have := hRk.out.2.1.1; have := HS.out.hb; omega))
          have hy := Lib.hid (fun W => some20_calls (hexL A.b) W)
          have hg : wr.cell? ⟨w.heap.size, 119, none⟩ = some (.slice bA bn bc) := by rw [hBk.out.cell]; exact ak_tail A _ _ hF.out 2
          have hfx : Hid (fieldL A ((98 : UInt8).toNat : Int) = dotL (hexL A.b)) := rfl
          have hxs : (str (dotL (hexL A.b))).size ≤ 10000000 := by
            rw [str_size]
            have := dotL_len (hexL A.b)
            rw [hexL_length] at this
            have := HS.out.hb
            omega
          have hn1 : ¬ 9223372036854775807 < (str sv).size + 1 := by omega
          have hn2 : ¬ 9223372036854775807 < (str sv).size + 1 + (str (dotL (hexL A.b))).size := by omega
          go_wp2_with (first | (go_at_call 68; refine hx.out.mono ?_; rintro e w2 ⟨rfl, hb2⟩) | (go_at_call 70; refine (hy.out _).mono ?_; rintro e w3 ⟨rfl, hb3⟩))
          go_roundw
          case rel =>
            refine ⟨k + 1, by omega, by go_num, ?_, .inr hnn.out, thn (thn hb hb2) hb3⟩
            rw [hft.out, hfx.out, show ({ data := #[32] } : ByteArray) = str [32] from rfl, str_append, str_append, ← hsv]
            simp
          case measure => simp [intOf]; omega
      · obtain rfl : k = fs.length := by omega
        rw [List.take_length]
        have hsz : (str (fs.map fun c => c - 32)).size = fs.length := by rw [str_size]; exact List.length_map _
        have hgood : Hid ((decide (A.kind = 22) && anyNil A.l) = false) := by
          rcases HBAD.out with h | h
          · have : ¬ A.kind = 22 := fun e => h22f.out e (List.eq_nil_of_length_eq_zero h)
            rw [decide_eq_false this]; rfl
          · exact h
        go_wp2
        go_ret2
        exact ⟨by rw [hvT.out, hgood.out]; rfl, thn hW0.out hb⟩
  · have hv := Lib.hid (printV_bad A (by unfold badA; rw [decide_eq_false hK]; simp))
    rw [kw_no A.kind hK, str_nil] at hwd
    go_enter Tryd.func36, Tryd.ntmps36
    go_wp2_with (go_at_call 67; refine (hwd.out _).mono ?_; rintro e w1 ⟨rfl, rfl⟩)
    go_ret2
    exact ⟨by rw [hv.out]; rfl, hW0.out⟩
end Go.Proofs.YtfjfjjcdlgdbcaaDoor
namespace Go.Proofs.YtfjfjjcdlgdbcaaDoor
open Go.RowKit
set_option linter.unusedSimpArgs false
set_option linter.unusedVariables false

/-- the acts that the law looks at -/
structure ActP.Tiny (A : ActP) : Prop where
  hb : A.b.length ≤ 2000
  hl : A.l.length ≤ 2000
  hkv : ∀ kv ∈ A.l, kv.1.length ≤ 2000
theorem ActP.Tiny.small {A : ActP} (h : A.Tiny) : A.Small := ⟨by have := h.hb; omega, by have := h.hl; omega, fun kv hk => by have := h.hkv kv hk; omega⟩
/-- no slice of an act is longer than memory can be -/
structure ActP.Held (A : ActP) : Prop where
  hb : A.b.length ≤ 140737488355328
  hl : A.l.length ≤ 140737488355328
  hkv : ∀ kv ∈ A.l, kv.1.length ≤ 140737488355328

set_option maxRecDepth 100000 in
set_option maxHeartbeats 2000000 in
theorem few20_calls (A : ActP) (bA : Option Addr) (bn bc : Nat) (lA : Option Addr) (ln lc : Nat) (w : World) (h : RdAct w A bA bn bc lA ln lc) (hS : A.Held) :
    Calls Tryd.prog 34 #[.agg (ak A (.slice bA bn bc) (.slice lA ln lc))] w fun e w' => (∃ b, e = .returned (.bool b) ∧ (b = true → A.Tiny)) ∧ Below w.heap.size w w' := by
  have g7 : (ak A (.slice bA bn bc) (.slice lA ln lc))[119]? = some (.slice bA bn bc) := ak_tail A _ _ h.1 2
  have hbn : bn ≤ 140737488355328 := by rw [← h.2.1.1]; exact hS.hb
  have hbl := h.2.1.1
  have hln := h.2.2.1
  have hlm : ln ≤ 140737488355328 := by rw [← hln]; exact hS.hl
  have hw0 : Below w.heap.size w (w.alloc (.cells (ak A (.slice bA bn bc) (.slice lA ln lc)) 64)) := al (Below.refl _ _) _
  have hR := Lib.hid (h.2.2.below hw0)
  have hB0 := Lib.hid (Blk.new w 64 (ak A (.slice bA bn bc) (.slice lA ln lc)))
  have hF := Lib.hid h.1
  have HS := Lib.hid hS
  have hW0 := Lib.hid hw0
  have HBL := Lib.hid hbl
  have HLN := Lib.hid hln
  clear h hS hw0 hbl hln
  go_enter Tryd.func34, Tryd.ntmps34
  go_wp2
  obtain ⟨w0, hw0⟩ : ∃ w0, w0 = w.alloc (.cells (ak A (.slice bA bn bc) (.slice lA ln lc)) 64) := ⟨_, rfl⟩
  rw [← hw0] at hB0 hR hW0 ⊢
  have hg0 : w0.cell? ⟨w.heap.size, 120, none⟩ = some (.slice lA ln lc) := by rw [hB0.out.cell]; exact ak_tail A _ _ hF.out 3
  have HG0 := Lib.hid hg0
  clear hw0 hg0
  go_loopw [3, 4] (fun v i wr => ∃ k m : Nat, k ≤ ln ∧ i = .int .i64 k ∧ v = .int .i64 m ∧ (m ≤ 140737488400000 ∧ bn ≤ m ∧ k ≤ m ∧ ∀ j, j < k → (A.l.getD j ([], [])).1.length ≤ m) ∧ Below w0.heap.size w0 wr) (fun _ i _ => ln - (intOf i).toNat)
  case atStart => exact ⟨0, bn, by omega, rfl, rfl, ⟨by omega, by omega, by omega, fun j hj => by omega⟩, Below.refl _ _⟩
  case round =>
    obtain ⟨k, m, hk, rfl, rfl, ⟨hm, hbm, hkm, hjm⟩, hb⟩ := hrel
    have hgr : wr.cell? ⟨w.heap.size, 120, none⟩ = some (.slice lA ln lc) := cell_below' hb HG0.out
    have HJM := Lib.hid hjm
    clear hjm
    by_cases hlt : k < ln
    · by_cases hm2 : m ≤ 2000
      · obtain ⟨g, o, B, mm, d, B', m', d', rfl, hgk, hc1, hr1, hc2, hr2⟩ := (hR.out.below hb).at_ hlt
        have hmm : mm ≤ 140737488355328 := by
          rw [← hr1.1]
          exact HS.out.hkv _ (List.mem_of_getElem? hgk)
        have hml := Lib.hid hr1.1
        clear hgk hr1 hr2
        go_wp2
        refine ⟨⟨k + 1, m + mm + 1, by omega, by go_num, by simp, ⟨by omega, by omega, by omega, fun j hj => ?_⟩, hb⟩, by simp [intOf]; omega⟩
        by_cases e : j = k
        · subst e
          rw [hml.out]; omega
        · have := HJM.out j (by omega)
          omega
      · go_wp2
        go_ret
        exact ⟨⟨_, rfl, fun h => by simp at h; omega⟩, thn hW0.out hb⟩
    · go_wp2
      go_ret
      refine ⟨⟨_, rfl, fun h => ?_⟩, thn hW0.out hb⟩
      have hm3 : m ≤ 2000 := by simp at h; omega
      have h1 := HBL.out
      have h2 := HLN.out
      refine ⟨by omega, by omega, fun kv hkv => ?_⟩
      obtain ⟨j, hj⟩ := List.getElem?_of_mem hkv
      have hjl := (List.getElem?_eq_some_iff.1 hj).1
      have := HJM.out j (by omega)
      rw [List.getD_eq_getElem?_getD, hj] at this
      simp only [Option.getD_some] at this
      omega
theorem drawn_below' (B : Nat) (w : World) (j : Nat) (_h : B ≤ w.heap.size) : Below B w (w.drewN j) := ⟨rfl, rfl, rfl, Nat.le_refl _, fun _ _ => rfl⟩
/-- a variable of type []string that holds these words -/
def Words (w : World) (v : Nat) (ws : List (List UInt8)) : Prop := ∃ r c, w.cell? ⟨v, 0, none⟩ = some (.slice (some ⟨r, 0, none⟩) ws.length c) ∧ ∀ (j : Nat) s, ws[j]? = some s → w.cell? ⟨r, j, none⟩ = some (.string (str s))
theorem Words.below {w w1 : World} {v : Nat} {ws : List (List UInt8)} (h : Words w v ws) (hb : Below w.heap.size w w1) : Words w1 v ws := by
  obtain ⟨r, c, h1, h2⟩ := h
  exact ⟨r, c, cell_below' hb h1, fun j s hj => cell_below' hb (h2 j s hj)⟩

set_option maxRecDepth 100000 in
set_option maxHeartbeats 2000000 in
theorem isWord_calls (x y : List UInt8) (v : Nat) (w0 : List UInt8) (ws : List (List UInt8)) (w : World) (h : Words w v (w0 :: ws)) :
    Calls Tryd.prog 72 #[.agg #[.string (str x), .string (str y)], .pointer (some ⟨v, 0, none⟩)] w fun e w' => e = .returned (.bool (decide (x ≠ [] ∧ x = w0))) ∧ Below w.heap.size w w' := by
  have hw1 : Below w.heap.size w (w.alloc (.cells #[.string (str x), .string (str y)] 116)) := al (Below.refl _ _) _
  obtain ⟨r, c, h1, h2⟩ := h.below hw1
  have h3 := h2 0 w0 rfl
  simp only [List.length_cons] at h1
  clear h h2
  by_cases hx : x = []
  · subst hx
    have he : (str ([] : List UInt8)).toList = [] := str_list _
    go_enter Tryd.func72, Tryd.ntmps72
    go_wp2
    go_quiet (fail)
    go_wp2
    go_ret
    exact ⟨by simp, hw1.trans (drawn_below' _ _ _ hw1.size)⟩
  · have hne := str_ne hx
    have hcmp : ((str x).toList == (str w0).toList) = decide (x = w0) := by
      rw [str_list, str_list, Bool.eq_iff_iff]; simp
    have hd : decide (x ≠ [] ∧ x = w0) = decide (x = w0) := by simp [hx]
    rw [hd]
    clear hd hx
    generalize decide (x = w0) = bb at *
    go_enter Tryd.func72, Tryd.ntmps72
    go_wp2
    go_quiet (fail)
    go_wp2
    go_ret
    exact ⟨rfl, hw1.trans (drawn_below' _ _ _ hw1.size)⟩

/-- the first kind of a word -/
def kindOf (w0 : List UInt8) : Int := if h : ∃ k : Nat, k < 28 ∧ (kt.getD k ([], [])).1 ≠ [] ∧ (kt.getD k ([], [])).1 = w0 then ((List.range 28).findIdx fun k => decide ((kt.getD k ([], [])).1 ≠ [] ∧ (kt.getD k ([], [])).1 = w0) : Nat) else -1
theorem kindOf_no (w0 : List UInt8) (h : ∀ k, k < 28 → decide ((kt.getD k ([], [])).1 ≠ [] ∧ (kt.getD k ([], [])).1 = w0) = false) : kindOf w0 = -1 := by
  unfold kindOf
  rw [dif_neg]
  rintro ⟨k, hk, h1⟩
  have := h k hk
  rw [decide_eq_true h1] at this
  cases this
theorem kindOf_at (w0 : List UInt8) (k : Nat) (hk : k < 28) (h : ∀ j, j < k → decide ((kt.getD j ([], [])).1 ≠ [] ∧ (kt.getD j ([], [])).1 = w0) = false)
    (h1 : decide ((kt.getD k ([], [])).1 ≠ [] ∧ (kt.getD k ([], [])).1 = w0) = true) : kindOf w0 = k := by
  unfold kindOf
  rw [dif_pos ⟨k, hk, of_decide_eq_true h1⟩]
  congr 1
  rw [List.findIdx_eq (by simpa using hk)]
  refine ⟨by simpa using h1, fun j hj => ?_⟩
  simpa using h j hj
theorem kindsV_at (k : Nat) (hk : k < 28) : kindsV[k * 2]? = some (.string (str (kt.getD k ([], [])).1)) ∧ kindsV[k * 2 + 1]? = some (.string (str (kt.getD k ([], [])).2)) := by
  by_cases h0 : k = 0
  · subst h0; exact ⟨rfl, rfl⟩
  by_cases h1 : k = 1
  · subst h1; exact ⟨rfl, rfl⟩
  by_cases h2 : k = 2
  · subst h2; exact ⟨rfl, rfl⟩
  by_cases h3 : k = 3
  · subst h3; exact ⟨rfl, rfl⟩
  by_cases h4 : k = 4
  · subst h4; exact ⟨rfl, rfl⟩
  by_cases h5 : k = 5
  · subst h5; exact ⟨rfl, rfl⟩
  by_cases h6 : k = 6
  · subst h6; exact ⟨rfl, rfl⟩
  by_cases h7 : k = 7
  · subst h7; exact ⟨rfl, rfl⟩
  by_cases h8 : k = 8
  · subst h8; exact ⟨rfl, rfl⟩
  by_cases h9 : k = 9
  · subst h9; exact ⟨rfl, rfl⟩
  by_cases h10 : k = 10
  · subst h10; exact ⟨rfl, rfl⟩
  by_cases h11 : k = 11
  · subst h11; exact ⟨rfl, rfl⟩
  by_cases h12 : k = 12
  · subst h12; exact ⟨rfl, rfl⟩
  by_cases h13 : k = 13
  · subst h13; exact ⟨rfl, rfl⟩
  by_cases h14 : k = 14
  · subst h14; exact ⟨rfl, rfl⟩
  by_cases h15 : k = 15
  · subst h15; exact ⟨rfl, rfl⟩
  by_cases h16 : k = 16
  · subst h16; exact ⟨rfl, rfl⟩
  by_cases h17 : k = 17
  · subst h17; exact ⟨rfl, rfl⟩
  by_cases h18 : k = 18
  · subst h18; exact ⟨rfl, rfl⟩
  by_cases h19 : k = 19
  · subst h19; exact ⟨rfl, rfl⟩
  by_cases h20 : k = 20
  · subst h20; exact ⟨rfl, rfl⟩
  by_cases h21 : k = 21
  · subst h21; exact ⟨rfl, rfl⟩
  by_cases h22 : k = 22
  · subst h22; exact ⟨rfl, rfl⟩
  by_cases h23 : k = 23
  · subst h23; exact ⟨rfl, rfl⟩
  by_cases h24 : k = 24
  · subst h24; exact ⟨rfl, rfl⟩
  by_cases h25 : k = 25
  · subst h25; exact ⟨rfl, rfl⟩
  by_cases h26 : k = 26
  · subst h26; exact ⟨rfl, rfl⟩
  by_cases h27 : k = 27
  · subst h27; exact ⟨rfl, rfl⟩
  omega

set_option maxRecDepth 100000 in
set_option maxHeartbeats 2000000 in
theorem index71_calls (g v : Nat) (w0 : List UInt8) (ws : List (List UInt8)) (w : World) (hB : Blk w g 117 kindsV) (h : Words w v (w0 :: ws)) :
    Calls Tryd.prog 71 #[.slice (some ⟨g, 0, none⟩) 28 28, .func (.func 72) #[] #[.pointer (some ⟨v, 0, none⟩)]] w fun e w' => e = .returned (.int .i64 (kindOf w0)) ∧ Below w.heap.size w w' := by
  have hc := Lib.hid (fun x y W (hW : Below w.heap.size w W) => isWord_calls x y v w0 ws W (h.below hW))
  have HB := Lib.hid hB
  clear h hB
  go_enter Tryd.func71, Tryd.ntmps71
  go_wp2
  go_loopw [8] (fun i wr => ∃ k : Nat, k ≤ 28 ∧ i = .int .i64 k ∧ (∀ j, j < k → decide ((kt.getD j ([], [])).1 ≠ [] ∧ (kt.getD j ([], [])).1 = w0) = false) ∧ Below w.heap.size w wr) (fun i _ => 28 - (intOf i).toNat)
  case atStart => exact ⟨0, by omega, rfl, fun j hj => by omega, Below.refl _ _⟩
  case round =>
    obtain ⟨k, hk, rfl, ha, hb⟩ := hrel
    have HA := Lib.hid ha
    clear ha
    by_cases hlt : k < 28
    · obtain ⟨hk1, hk2⟩ := kindsV_at k hlt
      have hBr := HB.out.below hb HB.out.lt
      have hc1 : wr.cell? ⟨g, k * 2, none⟩ = some (.string (str (kt.getD k ([], [])).1)) := by rw [hBr.cell]; exact hk1
      have hc2 : wr.cell? ⟨g, k * 2 + 1, none⟩ = some (.string (str (kt.getD k ([], [])).2)) := by rw [hBr.cell]; exact hk2
      have hat := Lib.hid (kindOf_at w0 k hlt HA.out)
      have hnx : Hid (decide ((kt.getD k ([], [])).1 ≠ [] ∧ (kt.getD k ([], [])).1 = w0) = false → ∀ j, j < k + 1 → decide ((kt.getD j ([], [])).1 ≠ [] ∧ (kt.getD j ([], [])).1 = w0) = false) := fun hf j hj => by
        by_cases e : j = k
        · subst e; exact hf
        · exact HA.out j (by omega)
      clear hk1 hk2 hBr
      have hcx := Lib.hid (hc.out (kt.getD k ([], [])).1 (kt.getD k ([], [])).2)
      generalize (kt.getD k ([], [])).1 = x at *
      generalize (kt.getD k ([], [])).2 = y at *
      by_cases hd : decide (x ≠ [] ∧ x = w0) = true
      · have hkk := Lib.hid (hat.out hd)
        rw [hd] at hcx
        clear hd
        go_wp2_with (go_at_call 72; refine (hcx.out _ hb).mono ?_; rintro e w1 ⟨rfl, hb1⟩)
        go_ret
        exact ⟨by rw [hkk.out]; rfl, thn hb hb1⟩
      · have hd' : decide (x ≠ [] ∧ x = w0) = false := by simpa using hd
        have hn2 := Lib.hid (hnx.out hd')
        rw [hd'] at hcx
        clear hd hd'
        go_wp2_with (go_at_call 72; refine (hcx.out _ hb).mono ?_; rintro e w1 ⟨rfl, hb1⟩)
        go_roundw
        case rel => exact ⟨k + 1, by omega, by go_num, hn2.out, thn hb hb1⟩
        case measure => simp [intOf]; omega
    · obtain rfl : k = 28 := by omega
      have hkk := Lib.hid (kindOf_no w0 HA.out)
      go_wp2
      go_ret
      exact ⟨by rw [hkk.out]; rfl, hb⟩
end Go.Proofs.YtfjfjjcdlgdbcaaDoor
namespace Go.Proofs.YtfjfjjcdlgdbcaaDoor
open Go.RowKit
set_option linter.unusedSimpArgs false
set_option linter.unusedVariables false

/-- cut at each byte c -/
def consHead (b : UInt8) : List (List UInt8) → List (List UInt8)
  | [] => [[b]]
  | h :: t => (b :: h) :: t
def splitL (c : UInt8) : List UInt8 → List (List UInt8)
  | [] => [[]]
  | b :: l => if b = c then [] :: splitL c l else consHead b (splitL c l)
theorem splitL_ne (c : UInt8) (l : List UInt8) : splitL c l ≠ [] := by
  cases l with
  | nil => simp [splitL]
  | cons b l =>
    unfold splitL
    split
    · simp
    · cases splitL c l <;> simp [consHead]
theorem split_one (c : UInt8) : ∀ l : List UInt8, Lib.split l [c] = splitL c l
  | [] => by
    unfold Lib.split
    rw [Lib.count_one]
    rfl
  | b :: l => by
    have ih := split_one c l
    unfold Lib.split at ih ⊢
    by_cases h : b = c
    · subst h
      rw [Lib.count_cons_eq, Nat.add_comm, Lib.splitK]
      have hix : Lib.index (b :: l) [b] = 0 := by rw [Lib.index]; simp [List.isPrefixOf]
      rw [hix, if_neg (by decide)]
      show [] :: Lib.splitK [b] 0 (Lib.count l [b]) l = _
      rw [ih, splitL, if_pos rfl]
    · rw [Lib.count_cons_ne b c l h, splitL, if_neg h, ← ih]
      have hp : ([c] : List UInt8).isPrefixOf (b :: l) = false := by simp [List.isPrefixOf, Ne.symm h]
      have hix : Lib.index (b :: l) [c] = if Lib.index l [c] == -1 then -1 else Lib.index l [c] + 1 := by rw [Lib.index, hp]; simp
      cases hn : Lib.count l [c] with
      | zero => rfl
      | succ k =>
        rw [Lib.splitK, Lib.splitK]
        by_cases hm : Lib.index l [c] = -1
        · have h1 : (Lib.index l [c] == -1) = true := by rw [hm]; rfl
          rw [hix, h1]
          rfl
        · have hge := Lib.index_ge l [c]
          have h1 : (Lib.index l [c] == -1) = false := by simpa using hm
          have h2 : (Lib.index l [c] + 1 == -1) = false := by simp; omega
          have h3 : (Lib.index l [c] + 1).toNat = (Lib.index l [c]).toNat + 1 := by omega
          rw [hix, h1]
          simp only [Bool.false_eq_true, if_false, h2, h3, consHead]
          rfl
theorem split_count (c : UInt8) (l : List UInt8) : (splitL c l).length = Lib.count l [c] + 1 := by
  induction l with
  | nil => rw [Lib.count_one]; rfl
  | cons b l ih =>
    by_cases h : b = c
    · subst h
      rw [splitL, if_pos rfl, List.length_cons, ih, Lib.count_cons_eq]; omega
    · rw [splitL, if_neg h, Lib.count_cons_ne b c l h, ← ih]
      cases hs : splitL c l with
      | nil => exact absurd hs (splitL_ne c l)
      | cons x t => rfl
theorem splitL_len (c : UInt8) (l : List UInt8) : (splitL c l).length ≤ l.length + 1 := by
  rw [split_count, Lib.count_one]
  have := List.count_le_length (a := c) (l := l)
  omega
theorem Split_calls (xs : List UInt8) (w : World) (hx : xs.length ≤ 100000000) (hL : LaidW w) :
    Calls Tryd.prog 57 #[.string (str xs), .string ⟨#[32]⟩] w fun e w' => e = .returned (.slice (some ⟨w.heap.size, 0, none⟩) (splitL 32 xs).length (splitL 32 xs).length) ∧ w' = w.alloc (.cells (svs (splitL 32 xs)).toArray 9) := by
  obtain ⟨m, hm⟩ := hL.max
  have h := Tryd.strings_Split (str xs) ⟨#[32]⟩ m w (by rw [str_size]; omega) hm (by decide)
  have hc : Lib.countB (str xs) ⟨#[32]⟩ = Lib.count xs [32] := rfl
  have hd := Lib.splitB_data ⟨#[32]⟩ 0 (Lib.count xs [32]) (str xs)
  have he : (Lib.splitB ⟨#[32]⟩ 0 (Lib.countB (str xs) ⟨#[32]⟩) (str xs)).map Value.string = svs (splitL 32 xs) := by
    rw [hc, ← split_one]
    unfold Lib.split svs
    have e2 : Lib.splitK [32] 0 (Lib.count xs [32]) xs = (Lib.splitB ⟨#[32]⟩ 0 (Lib.count xs [32]) (str xs)).map (·.data.toList) := hd.symm
    rw [e2, List.map_map]
    apply List.map_congr_left
    intro b _
    show Value.string b = Value.string (str b.data.toList)
    rw [str_eta]
  rw [he, hc, ← split_count] at h
  exact h

/-- an act of a kind, with nothing else -/
def zAct (k : Int) : ActP := { kind := k, addr := List.replicate 20 0, key := List.replicate 32 0, word := List.replicate 32 0, root := List.replicate 32 0, n := 0, m := 0, b := [], l := [] }
theorem zAct_fit (k : Int) (h0 : -9223372036854775808 ≤ k) (h1 : k ≤ 9223372036854775807) : (zAct k).Fit :=
  ⟨rfl, rfl, rfl, rfl, by show (-9223372036854775808 : Int) ≤ 0; omega, by show (0 : Int) ≤ _; omega, by show (-9223372036854775808 : Int) ≤ 0; omega, by show (0 : Int) ≤ _; omega, h0, h1⟩
def zk (k : Int) : Array Value := ak (zAct k) (.slice none 0 0) (.slice none 0 0)
theorem zk_size (k : Int) : (zk k).size = 121 := by simp [zk, ak, bvs_length, zAct]
theorem zk_zero : Tryd.zeroCells64 = zk 0 := by kernel_rfl
theorem ak_oneCell (A : ActP) (bA : Option Addr) (bn bc : Nat) (lA : Option Addr) (ln lc : Nat) : AllOne (ak A (.slice bA bn bc) (.slice lA ln lc)).toList := by
  intro v hv
  simp only [ak, List.mem_cons, List.mem_append, List.not_mem_nil, or_false] at hv
  rcases hv with rfl | hv | hv | hv | hv | rfl | rfl | rfl | rfl
  · rfl
  · exact oneCell_bvs _ _ hv
  · exact oneCell_bvs _ _ hv
  · exact oneCell_bvs _ _ hv
  · exact oneCell_bvs _ _ hv
  all_goals rfl
theorem zk_oneCell (k : Int) : AllOne (zk k).toList := ak_oneCell _ _ _ _ _ _ _
end Go.Proofs.YtfjfjjcdlgdbcaaDoor
namespace Go.Proofs.YtfjfjjcdlgdbcaaDoor
open Go.RowKit
set_option linter.unusedSimpArgs false
set_option linter.unusedVariables false

/-- bytes, a list, an act in memory beyond a block -/
def RdBx (w : World) (lo : Nat) (A : Option Addr) (n c : Nat) (xs : List UInt8) : Prop := RdB w A n c xs ∧ ∀ ad, A = some ad → lo ≤ ad.block ∧ ad.block < w.heap.size
def RdKVx (w : World) (lo : Nat) (A : Option Addr) (n c : Nat) (kvs : List (List UInt8 × List UInt8)) : Prop :=
  RdKV w A n c kvs ∧ (∀ ad, A = some ad → lo ≤ ad.block ∧ ad.block < w.heap.size) ∧ (∀ (g o : Nat), A = some ⟨g, o, none⟩ → ∀ (j : Nat) kv, kvs[j]? = some kv → ∃ B m d B' m' d', w.cell? ⟨g, o + j * 2, none⟩ = some (.slice B m d) ∧ RdBx w lo B m d kv.1 ∧ w.cell? ⟨g, o + j * 2 + 1, none⟩ = some (.slice B' m' d') ∧ RdBx w lo B' m' d' kv.2) ∧ (kvs = [] → A = none ∧ c = 0)
def RdActX (w : World) (lo : Nat) (A : ActP) (bA : Option Addr) (bn bc : Nat) (lA : Option Addr) (ln lc : Nat) : Prop := A.Fit ∧ RdBx w lo bA bn bc A.b ∧ RdKVx w lo lA ln lc A.l
theorem RdActX.rd {w : World} {lo : Nat} {A : ActP} {bA : Option Addr} {bn bc : Nat} {lA : Option Addr} {ln lc : Nat} (h : RdActX w lo A bA bn bc lA ln lc) : RdAct w A bA bn bc lA ln lc := ⟨h.1, h.2.1.1, h.2.2.1⟩
/-- blocks from lo on lie as they lay -/
def KeepsLo (lo : Nat) (w w' : World) : Prop := w.heap.size ≤ w'.heap.size ∧ ∀ i, lo ≤ i → i < w.heap.size → w'.heap[i]? = w.heap[i]?
theorem cell_of_heap {w w' : World} {a : Addr} (h : w'.heap[a.block]? = w.heap[a.block]?) : w'.cell? a = w.cell? a := by
  unfold World.cell?
  rw [h]
theorem KeepsLo.cell {lo : Nat} {w w' : World} (h : KeepsLo lo w w') {a : Addr} (h1 : lo ≤ a.block) (h2 : a.block < w.heap.size) : w'.cell? a = w.cell? a := cell_of_heap (h.2 _ h1 h2)
theorem KeepsLo.grown {lo : Nat} {w w' : World} {g : Nat} (h : w.grownBy w' (some g)) (hg : g < lo) : KeepsLo lo w w' := ⟨h.size, fun i h1 h2 => h.block i h2 (by simp; omega)⟩
theorem KeepsLo.below {lo : Nat} {w w' : World} (h : Below w.heap.size w w') : KeepsLo lo w w' := ⟨h.size, fun i _ h2 => h.block i h2⟩
theorem add_block (ad : Addr) (j : Nat) : (ad.add j).block = ad.block := by unfold Addr.add; split <;> rfl
theorem RdBx.keeps {w w' : World} {lo : Nat} {A : Option Addr} {n c : Nat} {xs : List UInt8} (h : RdBx w lo A n c xs) (hk : KeepsLo lo w w') : RdBx w' lo A n c xs := by
  obtain ⟨⟨h1, h2, h3, h4⟩, h5⟩ := h
  refine ⟨⟨h1, h2, h3, fun hn => ?_⟩, fun ad e => ⟨(h5 ad e).1, Nat.lt_of_lt_of_le (h5 ad e).2 hk.1⟩⟩
  obtain ⟨ad, e, hc⟩ := h4 hn
  refine ⟨ad, e, fun j u hu => ?_⟩
  rw [hk.cell (by rw [add_block]; exact (h5 ad e).1) (by rw [add_block]; exact (h5 ad e).2)]
  exact hc j u hu
theorem RdKVx.keeps {w w' : World} {lo : Nat} {A : Option Addr} {n c : Nat} {kvs : List (List UInt8 × List UInt8)} (h : RdKVx w lo A n c kvs) (hk : KeepsLo lo w w') : RdKVx w' lo A n c kvs := by
  obtain ⟨⟨h1, h2, h3, h4⟩, h5, h6, h7⟩ := h
  have key : ∀ (g o : Nat), A = some ⟨g, o, none⟩ → ∀ (j : Nat) kv, kvs[j]? = some kv → ∃ B m d B' m' d', w'.cell? ⟨g, o + j * 2, none⟩ = some (.slice B m d) ∧ RdBx w' lo B m d kv.1 ∧ w'.cell? ⟨g, o + j * 2 + 1, none⟩ = some (.slice B' m' d') ∧ RdBx w' lo B' m' d' kv.2 := by
    intro g o e j kv hj
    obtain ⟨B, m, d, B', m', d', a1, a2, a3, a4⟩ := h6 g o e j kv hj
    have hb := h5 _ e
    exact ⟨B, m, d, B', m', d', by rw [hk.cell (a := ⟨g, o + j * 2, none⟩) hb.1 hb.2]; exact a1, a2.keeps hk, by rw [hk.cell (a := ⟨g, o + j * 2 + 1, none⟩) hb.1 hb.2]; exact a3, a4.keeps hk⟩
  refine ⟨⟨h1, h2, h3, fun hn => ?_⟩, fun ad e => ⟨(h5 ad e).1, Nat.lt_of_lt_of_le (h5 ad e).2 hk.1⟩, key, h7⟩
  obtain ⟨g, o, e, hc⟩ := h4 hn
  refine ⟨g, o, e, fun j kv hj => ?_⟩
  obtain ⟨B, m, d, B', m', d', a1, a2, a3, a4⟩ := key g o e j kv hj
  exact ⟨B, m, d, B', m', d', a1, a2.1, a3, a4.1⟩
theorem RdActX.keeps {w w' : World} {lo : Nat} {A : ActP} {bA : Option Addr} {bn bc : Nat} {lA : Option Addr} {ln lc : Nat} (h : RdActX w lo A bA bn bc lA ln lc) (hk : KeepsLo lo w w') : RdActX w' lo A bA bn bc lA ln lc :=
  ⟨h.1, h.2.1.keeps hk, h.2.2.keeps hk⟩
theorem RdBx.nil (w : World) (lo : Nat) : RdBx w lo none 0 0 [] := ⟨⟨rfl, Nat.le_refl _, by unfold maxLen; omega, fun h => absurd h (by omega)⟩, fun ad e => by cases e⟩
theorem RdKVx.nil (w : World) (lo : Nat) : RdKVx w lo none 0 0 [] := ⟨⟨rfl, Nat.le_refl _, by unfold maxLen; omega, fun h => absurd h (by omega)⟩, (fun ad e => by cases e), (fun g o e => by cases e), fun _ => ⟨rfl, rfl⟩⟩

/-- what the fields parse to, one behind the other -/
def parseFs (pF : ActP → UInt8 → List UInt8 → Option ActP) : ActP → List UInt8 → List (List UInt8) → Option ActP
  | A, [], _ => some A
  | A, c :: cs, ws => match pF A c (ws.headD []) with
    | none => none
    | some A' => parseFs pF A' cs ws.tail
theorem parseFs_take (pF : ActP → UInt8 → List UInt8 → Option ActP) : ∀ (fs : List UInt8) (ws : List (List UInt8)) (A A' : ActP) (k : Nat) (hk : k < fs.length), parseFs pF A (fs.take k) ws = some A' →
    parseFs pF A (fs.take (k + 1)) ws = pF A' (fs.getD k 0) (ws.getD k [])
  | c :: fs, ws, A, A', 0, _, h => by
    simp only [List.take_zero, parseFs, Option.some.injEq] at h
    subst h
    cases ws with
    | nil => simp [parseFs]; cases pF A c [] <;> rfl
    | cons x ws => simp [parseFs]; cases pF A c x <;> rfl
  | c :: fs, ws, A, A', k + 1, hk, h => by
    simp only [List.take_succ_cons, parseFs] at h ⊢
    cases hp : pF A c (ws.headD []) with
    | none => rw [hp] at h; cases h
    | some A1 =>
      rw [hp] at h
      have := parseFs_take pF fs ws.tail A1 A' k (by simpa using hk) h
      simp only [hp]
      rw [this]
      cases ws <;> simp
theorem parseFs_none (pF : ActP → UInt8 → List UInt8 → Option ActP) : ∀ (fs : List UInt8) (ws : List (List UInt8)) (A : ActP) (k : Nat), parseFs pF A (fs.take k) ws = none → parseFs pF A fs ws = none
  | [], ws, A, k, h => by simpa using h
  | c :: fs, ws, A, 0, h => by simp [parseFs] at h
  | c :: fs, ws, A, k + 1, h => by
    simp only [List.take_succ_cons, parseFs] at h ⊢
    cases hp : pF A c (ws.headD []) with
    | none => rfl
    | some A1 =>
      rw [hp] at h
      exact parseFs_none pF fs ws.tail A1 k h
def okByte (b : UInt8) : Bool := decide (32 ≤ b.toNat ∧ b.toNat ≤ 126)
def parseG (pF : ActP → UInt8 → List UInt8 → Option ActP) (line : List UInt8) : Option ActP :=
  if line.all okByte = true then
    if 0 ≤ kindOf ((splitL 32 line).headD []) ∧ (splitL 32 line).length = 1 + (kf (kindOf ((splitL 32 line).headD []))).length then
      match parseFs pF (zAct (kindOf ((splitL 32 line).headD []))) (kf (kindOf ((splitL 32 line).headD []))) (splitL 32 line).tail with
      | none => none
      | some A => if badA A = false ∧ printT A = line then some A else none
    else none
  else none
/-- archive.parsed does what pF says, at a field and a word -/
def ParsedAt (pF : ActP → UInt8 → List UInt8 → Option ActP) (c : UInt8) (s : List UInt8) : Prop :=
  ∀ (A : ActP) (bA : Option Addr) (bn bc : Nat) (lA : Option Addr) (ln lc : Nat) (g lo : Nat) (W : World), g < lo → lo ≤ W.heap.size → Blk W g 64 (ak A (.slice bA bn bc) (.slice lA ln lc)) → RdActX W lo A bA bn bc lA ln lc → LaidW W → (c = 108 → A.l = []) →
    Calls Tryd.prog 73 #[.pointer (some ⟨g, 0, none⟩), .int .i32 (c.toNat : Int), .string (str s)] W fun e W' => W.grownBy W' (some g) ∧
      ((e = .returned (.bool false) ∧ pF A c s = none) ∨ (e = .returned (.bool true) ∧ ∃ A' bA' bn' bc' lA' ln' lc', pF A c s = some A' ∧ Blk W' g 64 (ak A' (.slice bA' bn' bc') (.slice lA' ln' lc')) ∧ RdActX W' lo A' bA' bn' bc' lA' ln' lc'))
/-- an act that was read, or none -/
def ParseEnd (w : World) (r : Option ActP) (e : Ending) (w' : World) : Prop := Below w.heap.size w w' ∧
  ((r = none ∧ e = .returned (.tuple #[.agg (zk 0), .int .i64 203])) ∨ ∃ A bA bn bc lA ln lc, r = some A ∧ e = .returned (.tuple #[.agg (ak A (.slice bA bn bc) (.slice lA ln lc)), .int .i64 0]) ∧ RdAct w' A bA bn bc lA ln lc)
end Go.Proofs.YtfjfjjcdlgdbcaaDoor
