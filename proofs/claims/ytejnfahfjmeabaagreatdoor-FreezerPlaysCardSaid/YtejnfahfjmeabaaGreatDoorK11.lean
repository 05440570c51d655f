/- the texts M68, M69, M73, M70 of this proof, one behind the other -/
import Derived.Test.YtejnfahfjmeabaaGreatDoorK10
import Derived.BigQuiet
import Derived.Deep.RegionHeld3
set_option linter.unusedSimpArgs false
set_option linter.unusedVariables false
namespace Go.Proofs.YtejnfahfjmeabaaGreatDoor
open Go.RowKit
set_option linter.unusedSimpArgs false
set_option linter.unusedVariables false

def mdk (tables : Nat) (iv : Value) (tail head sure : Nat) : Array Value := #[.int .i64 (tables : Int), iv, .int .i64 (tail : Int), .int .i64 (head : Int), .int .i64 (sure : Int)]
/-- lists that came in, as the model's row bears them -/
structure ItsV (w wr : World) (mb : Blocks) (iv : Value) (els : List Value) (all : List (List (List UInt8))) : Prop where
  len : els.length = all.length
  each : ∀ (j : Nat) v vs, els[j]? = some v → all[j]? = some vs → ∃ V n c, v = .slice V n c ∧ RdM w V n c vs
  row : (iv = .slice none 0 0 ∧ els = []) ∨ ∃ g c cs, iv = .slice (some ⟨g, 0, none⟩) els.length c ∧ els.length ≤ c ∧ mb g ∧ Blk wr g 35 cs ∧ ∀ (j : Nat) v, els[j]? = some v → cs[j]? = some v
structure ModP (w wr : World) (mb : Blocks) (b tables : Nat) (iv : Value) (tail head sure : Nat) (els : List Value) (all : List (List (List UInt8))) : Prop where
  blk : Blk wr b 51 (mdk tables iv tail head sure)
  its : ItsV w wr mb iv els all
  len : all.length = head
  inb : mb b
  lt : ∀ k, mb k → w.heap.size ≤ k ∧ k < wr.heap.size
theorem ItsV.keeps {w wr w' : World} {mb : Blocks} {iv : Value} {els : List Value} {all : List (List (List UInt8))} (h : ItsV w wr mb iv els all) (hk : KeepsOn mb wr w') : ItsV w w' mb iv els all := by
  refine ⟨h.len, h.each, ?_⟩
  rcases h.row with h1 | ⟨g, c, cs, e, h1, h2, h3, h4⟩
  · exact .inl h1
  · exact .inr ⟨g, c, cs, e, h1, h2, (hk g h2).trans h3, h4⟩
theorem ModP.keeps {w wr w' : World} {mb : Blocks} {b tables : Nat} {iv : Value} {tail head sure : Nat} {els : List Value} {all : List (List (List UInt8))} (h : ModP w wr mb b tables iv tail head sure els all) (hk : KeepsOn mb wr w') (hz : wr.heap.size ≤ w'.heap.size) : ModP w w' mb b tables iv tail head sure els all :=
  ⟨(hk b h.inb).trans h.blk, h.its.keeps hk, h.len, h.inb, fun k hk' => ⟨(h.lt k hk').1, Nat.lt_of_lt_of_le (h.lt k hk').2 hz⟩⟩
theorem ModP.below {w wr w' : World} {mb : Blocks} {b tables : Nat} {iv : Value} {tail head sure : Nat} {els : List Value} {all : List (List (List UInt8))} (h : ModP w wr mb b tables iv tail head sure els all) (hb : Below wr.heap.size wr w') : ModP w w' mb b tables iv tail head sure els all :=
  h.keeps (KeepsOn.below hb fun k hk => (h.lt k hk).2) hb.size
theorem ModP.wide {w wr : World} {mb mb2 : Blocks} {b tables : Nat} {iv : Value} {tail head sure : Nat} {els : List Value} {all : List (List (List UInt8))} (h : ModP w wr mb b tables iv tail head sure els all) (hs : ∀ k, mb k → mb2 k) (hl : ∀ k, mb2 k → w.heap.size ≤ k ∧ k < wr.heap.size) : ModP w wr mb2 b tables iv tail head sure els all := by
  refine ⟨h.blk, ⟨h.its.len, h.its.each, ?_⟩, h.len, hs b h.inb, hl⟩
  rcases h.its.row with h1 | ⟨g, c, cs, e, h1, h2, h3, h4⟩
  · exact .inl h1
  · exact .inr ⟨g, c, cs, e, h1, hs g h2, h3, h4⟩
theorem ModP.cells {w wr : World} {mb : Blocks} {b tables : Nat} {iv : Value} {tail head sure : Nat} {els : List Value} {all : List (List (List UInt8))} (h : ModP w wr mb b tables iv tail head sure els all) :
    wr.cell? ⟨b, 0, none⟩ = some (.int .i64 (tables : Int)) ∧ wr.cell? ⟨b, 1, none⟩ = some iv ∧ wr.cell? ⟨b, 2, none⟩ = some (.int .i64 (tail : Int)) ∧ wr.cell? ⟨b, 3, none⟩ = some (.int .i64 (head : Int)) ∧ wr.cell? ⟨b, 4, none⟩ = some (.int .i64 (sure : Int)) :=
  ⟨h.blk.cell 0, h.blk.cell 1, h.blk.cell 2, h.blk.cell 3, h.blk.cell 4⟩
/-- are values right for an item? -/
def rightB (tables : Nat) (vs : List (List UInt8)) : Bool := decide (vs.length = tables) && decide (∀ v ∈ vs, v.length ≤ 16384)
set_option maxRecDepth 100000 in
set_option maxHeartbeats 1000000 in
theorem mright_calls (b tables : Nat) (V : Option Addr) (N cv : Nat) (vs : List (List UInt8)) (w : World) (c0 : w.cell? ⟨b, 0, none⟩ = some (.int .i64 (tables : Int))) (h : RdM w V N cv vs) :
    Calls Tryz.prog 27 #[.pointer (some ⟨b, 0, none⟩), .slice V N cv] w fun e w' => e = .returned (.bool (rightB tables vs)) ∧ w' = w := by
  have hm : N ≤ 9223372036854775807 := by have := h.2.1; have := h.2.2.1; unfold maxLen at this; omega
  have H := Lib.hid h
  have HN := Lib.hid h.1
  clear h
  by_cases hN : N = tables
  · subst hN
    go_enter Tryz.func27, Tryz.ntmps27
    go_wp2_with fail
    clear c0
    go_loopw [5] (fun i wr => ∃ k : Nat, k ≤ N ∧ i = .int .i64 k ∧ wr = w ∧ ∀ v ∈ vs.take k, v.length ≤ 16384) (fun i _ => N - (intOf i).toNat)
    case atStart => exact ⟨0, by omega, rfl, rfl, by simp⟩
    case round =>
      obtain ⟨k, hk, rfl, hwr, hsh⟩ := hrel
      rw [hwr]
      clear hwr
      have HSH := Lib.hid hsh
      clear hsh
      by_cases hlt : k < N
      · obtain ⟨ad, B, m, d, rfl, hg, hcell, hrd⟩ := H.out.at_ hlt
        have hkI : (0 : Int) ≤ (k : Int) ∧ (k : Int) < (N : Int) := by omega
        have HG := Lib.hid hg
        have HML := Lib.hid hrd.1
        clear hg hrd
        by_cases hml : m ≤ 16384
        · have hI : ¬ (16384 : Int) < (m : Int) := by omega
          have HML2 := Lib.hid hml
          clear hml
          go_wp2_with fail
          go_roundw
          case rel => exact ⟨k + 1, by omega, by go_num, trivial, fun v hv => by
            rw [List.take_add_one, HG.out] at hv
            rcases List.mem_append.1 hv with hv | hv
            · exact HSH.out v hv
            · obtain rfl := List.mem_singleton.1 hv
              exact Nat.le_trans (Nat.le_of_eq HML.out) HML2.out⟩
          case measure => simp [intOf]; omega
        · have hI : (16384 : Int) < (m : Int) := by omega
          have HR : Hid (rightB N vs = false) := by
            unfold Hid rightB
            rw [Bool.and_eq_false_iff]
            right
            rw [decide_eq_false_iff_not]
            intro hall
            have := hall _ (List.mem_of_getElem? HG.out)
            have h2 := HML.out
            omega
          clear hml
          go_wp2_with fail
          go_ret
          exact ⟨by rw [HR.out]; rfl, rfl⟩
      · obtain rfl : k = N := by omega
        have HR : Hid (rightB k vs = true) := by
          unfold Hid rightB
          rw [Bool.and_eq_true, decide_eq_true_eq, decide_eq_true_eq]
          refine ⟨HN.out, fun v hv => HSH.out v ?_⟩
          rw [List.take_of_length_le (Nat.le_of_eq HN.out)]
          exact hv
        go_wp2_with fail
        go_ret
        exact ⟨by rw [HR.out]; rfl, rfl⟩
  · have hI : ¬ (N : Int) = (tables : Int) := by omega
    have hq : ((N : Int) == (tables : Int)) = false := by rw [beq_eq_false_iff_ne]; exact hI
    have HR : Hid (rightB tables vs = false) := by
      unfold Hid rightB
      rw [Bool.and_eq_false_iff]
      left
      rw [decide_eq_false_iff_not]
      have := HN.out
      omega
    go_enter Tryz.func27, Tryz.ntmps27
    go_wp2_with fail
    go_ret
    exact ⟨by rw [HR.out]; rfl, rfl⟩
/-- slicing the model's row -/
theorem ItsV.cut {w wr : World} {mb : Blocks} {iv : Value} {els : List Value} {all : List (List (List UInt8))} (h : ItsV w wr mb iv els all) (n : Nat) (hn : n ≤ all.length) :
    ∃ A c, iv = .slice A all.length c ∧ all.length ≤ c ∧ (A = none → n = 0 ∧ c = 0) ∧ (∀ ad, A = some ad → ∃ g, ad = ⟨g, 0, none⟩) ∧ ItsV w wr mb (.slice A n n) (els.take n) (all.take n) := by
  have he : (els.take n).length = n := by rw [List.length_take, h.len]; omega
  have hE : ∀ (j : Nat) v vs, (els.take n)[j]? = some v → (all.take n)[j]? = some vs → ∃ V n c, v = .slice V n c ∧ RdM w V n c vs := fun j v vs h1 h2 => by
    rw [List.getElem?_take] at h1 h2
    split at h1
    · rename_i hj
      rw [if_pos hj] at h2
      exact h.each j v vs h1 h2
    · cases h1
  rcases h.row with ⟨rfl, h1⟩ | ⟨g, c, cs, rfl, h1, h2, h3, h4⟩
  · have h0 : all.length = 0 := by rw [← h.len, h1]; rfl
    have hn0 : n = 0 := by omega
    subst hn0
    exact ⟨none, 0, by rw [h0], by omega, fun _ => ⟨rfl, rfl⟩, fun ad e => (by cases e), ⟨by simp, hE, .inl ⟨rfl, by simp⟩⟩⟩
  · refine ⟨some ⟨g, 0, none⟩, c, by rw [h.len], by rw [← h.len]; exact h1, fun e => (by cases e), fun ad e => ⟨g, (Option.some.inj e).symm⟩, ⟨by rw [he, List.length_take]; omega, hE, .inr ⟨g, n, cs, by rw [he], by omega, h2, h3, fun j v hj => ?_⟩⟩⟩
    rw [List.getElem?_take] at hj
    split at hj
    · exact h4 j v hj
    · cases hj
set_option maxRecDepth 100000 in
set_option maxHeartbeats 1000000 in
theorem mcut_calls {w wr : World} {mb : Blocks} {b tables : Nat} {iv : Value} {tail head sure : Nat} {els : List Value} {all : List (List (List UInt8))} (h : ModP w wr mb b tables iv tail head sure els all) (n : Nat) (hn : n ≤ head) (hh : head ≤ 1000000) (hs : sure ≤ 1000000) :
    Calls Tryz.prog 48 #[.pointer (some ⟨b, 0, none⟩), .int .i64 (n : Int)] wr fun e w' => e = .returned (.tuple #[]) ∧ (∃ iv', ModP w w' mb b tables iv' tail n (min sure n) (els.take n) (all.take n)) ∧ Upd (one b) (one b) wr w' := by
  obtain ⟨A, c, rfl, hc1, hA, hA2, hI⟩ := h.its.cut n (by rw [h.len]; exact hn)
  have H := Lib.hid h
  have HI := Lib.hid hI
  obtain ⟨c0, c1, c2, c3, c4⟩ := h.cells
  have f1 := h.blk.frozen 1
  have f3 := h.blk.frozen 3
  have f4 := h.blk.frozen 4
  have hl := h.len
  rw [hl] at c1 hc1
  obtain ⟨w1, hw1⟩ : ∃ w1 : World, w1 = wr.setCell ⟨b, 3, none⟩ (.int .i64 (n : Int)) := ⟨_, rfl⟩
  obtain ⟨w2, hw2⟩ : ∃ w2 : World, w2 = w1.setCell ⟨b, 1, none⟩ (.slice A n n) := ⟨_, rfl⟩
  obtain ⟨w3, hw3⟩ : ∃ w3 : World, w3 = w2.setCell ⟨b, 4, none⟩ (.int .i64 ((min sure n : Nat) : Int)) := ⟨_, rfl⟩
  have B1 : Blk w1 b 51 (mdk tables (.slice A head c) tail n sure) := by rw [hw1, ← hl]; exact (h.blk.set_ 3 _).eq_ rfl
  have B2 : Blk w2 b 51 (mdk tables (.slice A n n) tail n sure) := by rw [hw2]; exact (B1.set_ 1 _).eq_ rfl
  have B3 : Blk w3 b 51 (mdk tables (.slice A n n) tail n (min sure n)) := by rw [hw3]; exact (B2.set_ 4 _).eq_ rfl
  have U3 : Upd (one b) (one b) wr w3 := by
    rw [hw3, hw2, hw1]
    exact (((Upd.refl (one b) wr).set (p := ⟨b, 3, none⟩) rfl _).set (p := ⟨b, 1, none⟩) rfl _).set (p := ⟨b, 4, none⟩) rfl _
  have hz3 : w3.heap.size = wr.heap.size := by rw [hw3, hw2, hw1]; simp [World.setCell]
  have hfin : Hid ((∃ iv', ModP w w3 mb b tables iv' tail n (min sure n) (els.take n) (all.take n)) ∧ Upd (one b) (one b) wr w3) := by
    refine ⟨⟨.slice A n n, B3, ⟨hI.len, hI.each, ?_⟩, by rw [List.length_take, hl]; omega, h.inb, fun k hk => by rw [hz3]; exact h.lt k hk⟩, U3⟩
    rcases hI.row with h1 | ⟨g, c', cs, e, h1, h2, h3, h4⟩
    · exact .inl h1
    · exact .inr ⟨g, c', cs, e, h1, h2, (U3.block g (h.lt g h2).2 (fun e => blk_ne h3 h.blk (by decide) e)).trans h3, h4⟩
  have d1 : w1.cell? ⟨b, 1, none⟩ = some (.slice A head c) := B1.cell 1
  have g1 := B1.frozen 1
  have d4 : w2.cell? ⟨b, 4, none⟩ = some (.int .i64 (sure : Int)) := B2.cell 4
  have g4 := B2.frozen 4
  have hm : ((min sure n : Nat) : Int) = min (sure : Int) (n : Int) := by omega
  rw [hm] at hw3
  clear h hI B1 B2 B3 U3 hz3 c0 c1 c2 c4 hm f1 f4
  have i1 : (0 : Int) ≤ (n : Int) ∧ (n : Int) ≤ (c : Int) := by omega
  have i2 : (n : Int) ≤ (head : Int) := by omega
  cases A with
  | none =>
    obtain ⟨rfl, rfl⟩ := hA rfl
    rw [hw3, hw2, hw1] at hfin
    rw [hw1] at d1 g1
    rw [hw2, hw1] at d4 g4
    rw [show ((0 : Nat) : Int) = 0 from rfl] at hfin d1 g1 d4 g4 ⊢
    clear hw1 hw2 hw3 hA hA2
    go_enter Tryz.func48, Tryz.ntmps48
    go_wp2_with fail
    refine bodyPost_end (results_none rfl _ _ _) rfl ?_
    exact ⟨rfl, hfin.out⟩
  | some ad =>
    rw [hw3, hw2, hw1] at hfin
    rw [hw1] at d1 g1
    rw [hw2, hw1] at d4 g4
    clear hw1 hw2 hw3 hA hA2
    go_enter Tryz.func48, Tryz.ntmps48
    go_wp2_with fail
    refine bodyPost_end (results_none rfl _ _ _) rfl ?_
    exact ⟨rfl, hfin.out⟩
end Go.Proofs.YtejnfahfjmeabaaGreatDoor
namespace Go.Proofs.YtejnfahfjmeabaaGreatDoor
open Go.RowKit
set_option linter.unusedSimpArgs false
set_option linter.unusedVariables false

theorem Tryz.info35 : (Tryz.prog.info? 35).map (fun i => (i.zero, i.size, i.bytes)) = some (some (.slice none 0 0), 1, 24) := by kernel_rfl
theorem mappend {w W : World} {mb : Blocks} {A : Option Addr} {h : Nat} {els : List Value} {all : List (List (List UInt8))} (hI : ItsV w W mb (.slice A h h) els all) (hl : all.length = h) (hA : ∀ ad, A = some ad → ∃ g, ad = ⟨g, 0, none⟩) (hh : h ≤ 1000000) (V : Option Addr) (n cv : Nat) :
    ∃ c' W2 cs, (Builtin.append_ #[49, 49] 49 #[.slice A h h, .slice (some ⟨W.heap.size, 0, none⟩) 1 1]).run Tryz.prog (W.alloc (.cells #[.slice V n cv] 35)).drew = .ok (.slice (some ⟨W.heap.size + 1, 0, none⟩) (h + 1) c') W2 ∧ Below W.heap.size W W2 ∧ W2.heap.size = W.heap.size + 2 ∧ Blk W2 (W.heap.size + 1) 35 cs ∧ h + 1 ≤ c' ∧ ∀ (j : Nat) v, (els ++ [Value.slice V n cv])[j]? = some v → cs[j]? = some v := by
  obtain ⟨i0, hi0, hz0, hz1, hz2⟩ := info_parts Tryz.info35
  obtain ⟨W1, hW1⟩ : ∃ W1 : World, W1 = (W.alloc (.cells #[.slice V n cv] 35)).drew := ⟨_, rfl⟩
  have z1 : W1.heap.size = W.heap.size + 1 := by rw [hW1]; simp
  have b1 : Below W.heap.size W W1 := by rw [hW1]; exact ((Below.refl _ _).alloc (Nat.le_refl _) _).drew
  have el : els.length = h := by rw [hI.len, hl]
  have hnew : ∀ (j : Nat) v, [Value.slice V n cv][j]? = some v → W1.cell? ((⟨W.heap.size, 0, none⟩ : Addr).add j) = some v := fun j v hv => by
    have e0 : (⟨W.heap.size, 0, none⟩ : Addr).add j = ⟨W.heap.size, j, none⟩ := by unfold Addr.add; split <;> simp_all
    rw [e0, hW1]
    have hc := (Blk.new W 35 #[Value.slice V n cv]).drew.cell j
    rw [hc]
    simpa using hv
  rw [← hW1]
  have fin : ∀ c' X, (Builtin.append_ #[49, 49] 49 #[.slice A h h, .slice (some ⟨W.heap.size, 0, none⟩) 1 1]).run Tryz.prog W1 = .ok (.slice (some ⟨W.heap.size + 1, 0, none⟩) (h + 1) c') (W1.drew.alloc (.cells X 35)) → h + 1 ≤ c' → (∀ (j : Nat) v, (els ++ [Value.slice V n cv])[j]? = some v → X[j]? = some v) →
      ∃ c' W2 cs, (Builtin.append_ #[49, 49] 49 #[.slice A h h, .slice (some ⟨W.heap.size, 0, none⟩) 1 1]).run Tryz.prog W1 = .ok (.slice (some ⟨W.heap.size + 1, 0, none⟩) (h + 1) c') W2 ∧ Below W.heap.size W W2 ∧ W2.heap.size = W.heap.size + 2 ∧ Blk W2 (W.heap.size + 1) 35 cs ∧ h + 1 ≤ c' ∧ ∀ (j : Nat) v, (els ++ [Value.slice V n cv])[j]? = some v → cs[j]? = some v := fun c' X h1 h2 h3 => by
    refine ⟨c', _, X, h1, (b1.drew).alloc (by show _ ≤ W1.heap.size; omega) _, by simp [z1], ?_, h2, h3⟩
    have := Blk.new W1.drew 35 X
    rw [show W1.drew.heap.size = W.heap.size + 1 from z1] at this
    exact this
  cases A with
  | none =>
    have h0 : h = 0 := by
      rcases hI.row with ⟨e, _⟩ | ⟨g, c, cs, e, _⟩
      · exact (Value.slice.injEq _ _ _ _ _ _ ▸ e).2.1
      · exact absurd (Value.slice.injEq _ _ _ _ _ _ ▸ e).1 (by simp)
    subst h0
    have hr := run_append_nil (P := Tryz.prog) W1 49 49 35 i0 (.slice none 0 0) Tryz.underlying49 hi0 hz0 ⟨W.heap.size, 0, none⟩ 1 1 [.slice V n cv] (by rw [hz1]; rfl) hnew (by omega) (by omega) (by rw [hz2]; omega)
    rw [z1] at hr
    refine fin _ _ hr (grownCap_ge _ _ _ _) fun j v hj => ?_
    have e0 : els = [] := List.eq_nil_of_length_eq_zero el
    rw [e0] at hj
    match j, hj with
    | 0, hj =>
      rw [Array.getElem?_append_left (by simp)]
      simpa using hj
    | j + 1, hj => simp at hj
  | some ad =>
    obtain ⟨g, rfl⟩ := hA ad rfl
    have hold : ∀ (j : Nat) v, els[j]? = some v → W1.cell? ((⟨g, 0, none⟩ : Addr).add j) = some v := fun j v hj => by
      rcases hI.row with ⟨e, _⟩ | ⟨g', c, cs, e, _, _, h3, h4⟩
      · exact absurd (Value.slice.injEq _ _ _ _ _ _ ▸ e).1 (by simp)
      · have e1 : g = g' := by
          have e2 := (Value.slice.injEq _ _ _ _ _ _ ▸ e).1
          have e3 := Option.some.inj e2
          exact congrArg Addr.block e3
        subst e1
        have e0 : (⟨g, 0, none⟩ : Addr).add j = ⟨g, j, none⟩ := by unfold Addr.add; split <;> simp_all
        rw [e0]
        refine cell_below' b1 ?_
        rw [h3.cell]
        exact h4 j v hj
    have hr := run_append_grow (P := Tryz.prog) W1 49 49 35 i0 (.slice none 0 0) Tryz.underlying49 hi0 hz0 ⟨g, 0, none⟩ h h els (by rw [hz1, el]; omega) hold ⟨W.heap.size, 0, none⟩ 1 1 [.slice V n cv] (by rw [hz1]; rfl) hnew (by omega) (by omega) (growslice_fits (by omega) (by rw [hz2]; omega))
    rw [z1] at hr
    refine fin _ _ hr (grownCap_ge _ _ _ _) fun j v hj => ?_
    have hjl := (List.getElem?_eq_some_iff.1 hj).1
    have ej : ((els.toArray ++ [Value.slice V n cv].toArray) ++ Builtin.zeroCells (Value.slice none 0 0).cells (grownCap W1 (h + 1) h 35 - (h + 1)))[j]? = (els ++ [Value.slice V n cv])[j]? := by
      rw [Array.getElem?_append_left (by simp at hjl ⊢; omega), ← Array.getElem?_toList]
      simp
    rw [ej]
    exact hj
/-- the call that a step makes -/
inductive MOp
  | app (n : Nat) (vs : List (List UInt8))
  | cutH (n : Nat)
  | cutT (n : Nat)
  | sync
structure StepP where
  what : Nat
  n : Nat
  vs : List (List UInt8)
def opOf (tail head : Nat) (s : StepP) : MOp :=
  if s.what % 6 < 2 then .app (if s.n % 9 = 0 then s.n else head) s.vs
  else if s.what % 6 = 2 then .cutH (if s.n % 7 > 0 then tail + s.n % (head - tail + 1) else s.n)
  else if s.what % 6 = 3 then .cutT (if s.n % 7 > 0 then tail + s.n % (head - tail + 1) else s.n)
  else .sync
structure MSt where
  tail : Nat
  head : Nat
  sure : Nat
  all : List (List (List UInt8))
/-- the number that must be answered if the disk answers none; the model behind the step (k: what was answered) -/
def stepM (tables : Nat) (m : MSt) (k : Nat) : MOp → Nat × MSt
  | .app n vs => if rightB tables vs = false then (120, m) else if n ≠ m.head then (121, m) else if k = 0 then (0, ⟨m.tail, m.head + 1, m.sure, m.all ++ [vs]⟩) else (0, m)
  | .cutH n => if n < m.tail ∨ m.head < n then (121, m) else if k = 0 then (0, ⟨m.tail, n, n, m.all.take n⟩) else (0, m)
  | .cutT n => if n < m.tail ∨ m.head < n then (121, m) else if k = 0 then (0, ⟨n, m.head, m.sure, m.all⟩) else (0, m)
  | .sync => if k = 0 then (0, ⟨m.tail, m.head, m.head, m.all⟩) else (0, m)
/-- a call, whose end is as Q says (k: the number that it answers) -/
def OpCalls (f : Nat) (W : World) (Q : Nat → World → Prop) : MOp → Prop
  | .app n vs => ∀ V N cv, RdM W V N cv vs → Calls Tryz.prog 10 #[.pointer (some ⟨f, 0, none⟩), .int .i64 (n : Int), .slice V N cv] W fun e W' => ∃ v k, e = .returned v ∧ ErrR W' v k ∧ Q k W'
  | .cutH n => Calls Tryz.prog 11 #[.pointer (some ⟨f, 0, none⟩), .int .i64 (n : Int)] W fun e W' => ∃ v k, e = .returned v ∧ ErrR W' v k ∧ Q k W'
  | .cutT n => Calls Tryz.prog 12 #[.pointer (some ⟨f, 0, none⟩), .int .i64 (n : Int)] W fun e W' => ∃ v k, e = .returned v ∧ ErrR W' v k ∧ Q k W'
  | .sync => Calls Tryz.prog 19 #[.pointer (some ⟨f, 0, none⟩)] W fun e W' => ∃ v k, e = .returned v ∧ ErrR W' v k ∧ Q k W'
/-- a thing in memory that lies apart from a set of blocks -/
structure Apart (P : Blocks → World → Prop) : Prop where
  below : ∀ {mb : Blocks} {W W' : World}, P mb W → Below W.heap.size W W' → P (grow mb W W') W'
  upd : ∀ {mb mb' : Blocks} {W W' : World}, P mb W → Upd mb mb' W W' → P mb W'
  sub : ∀ {mb mb2 : Blocks} {W : World}, P mb W → (∀ k, mb2 k → mb k) → P mb2 W
/-- behind the call: the model's blocks (mb, those made since W0) are as they were -/
def KeptQ (w : World) (mb : Blocks) (W : World) (Q : Nat → Blocks → World → Prop) (k : Nat) (W' : World) : Prop := Q k mb W' ∧ Upd (fun x => w.heap.size ≤ x ∧ ¬ mb x) (fun x => w.heap.size ≤ x ∧ ¬ mb x) W W'
end Go.Proofs.YtejnfahfjmeabaaGreatDoor
namespace Go.Proofs.YtejnfahfjmeabaaGreatDoor
open Go.RowKit
set_option linter.unusedSimpArgs false
set_option linter.unusedVariables false

/-- a freezer and the law's model of it -/
structure TellS (w wr : World) (s mb : Blocks) (f d cap N : Nat) (tables : Nat) (l : List Chg) (z : FzS) (D : HdS) (num : Nat) (fs : FileS) (b : Nat) (iv : Value) (m : MSt) (els : List Value) : Prop where
  frz : FZ wr s f d cap N (playT tables) l z (m.all.drop m.tail) D num fs
  tail : z.tail = m.tail
  head : z.head = m.head
  mod : ModP w wr mb b tables iv m.tail m.head m.sure els m.all
  le : m.tail ≤ m.head
  rows : ∀ vs ∈ m.all, rightB tables vs = true
  bel : Below w.heap.size w wr
theorem TellS.below {w wr w' : World} {s mb : Blocks} {f d cap N tables : Nat} {l : List Chg} {z : FzS} {D : HdS} {num : Nat} {fs : FileS} {b : Nat} {iv : Value} {m : MSt} {els : List Value} (h : TellS w wr s mb f d cap N tables l z D num fs b iv m els) (hb : Below wr.heap.size wr w') : TellS w w' s mb f d cap N tables l z D num fs b iv m els :=
  ⟨h.frz.below hb, h.tail, h.head, h.mod.below hb, h.le, h.rows, thn h.bel hb⟩
set_option maxRecDepth 100000 in
set_option maxHeartbeats 4000000 in
theorem tells_calls {w wb : World} {s mb : Blocks} {f d cap N tables : Nat} {l : List Chg} {z : FzS} {D : HdS} {num : Nat} {fs : FileS} {b : Nat} {iv : Value} {m : MSt} {els : List Value} (H : TellS w wb s mb f d cap N tables l z D num fs b iv m els) (hg : Glob w)
    (ht1 : 1 ≤ tables) (ht8 : tables ≤ 8) (hh : m.head ≤ 1000000) (hL : (fileL (playT tables) l).length ≤ 140737488355328) :
    Calls Tryz.prog 25 #[.pointer (some ⟨b, 0, none⟩), .pointer (some ⟨f, 0, none⟩)] wb fun e w' => e = .returned (.bool true) ∧ Below wb.heap.size wb w' := by
  have HG := Lib.hid (hg.below H.bel)
  have HL := Lib.hid hL
  have HT := Lib.hid (show 1 ≤ tables ∧ tables ≤ 8 from ⟨ht1, ht8⟩)
  have HTL : Hid ((playT tables).length = tables) := playT_length tables ht8
  have HS := Lib.hid H
  have HTC : Hid (∀ W, Below wb.heap.size wb W → Calls Tryz.prog 13 #[.pointer (some ⟨f, 0, none⟩)] W fun e w' => e = .returned (.int .i64 (m.tail : Int)) ∧ w' = W) := fun W hW => by
    have := (H.below hW).frz.tailC
    rw [H.tail] at this
    exact this
  have HHC : Hid (∀ W, Below wb.heap.size wb W → Calls Tryz.prog 14 #[.pointer (some ⟨f, 0, none⟩)] W fun e w' => e = .returned (.int .i64 (m.head : Int)) ∧ ∃ q, w' = W.drewN q) := fun W hW => by
    have := (H.below hW).frz.headC (by rw [H.head]; exact hh)
    rw [H.head] at this
    exact this
  -- an item's value
  have HGET : Hid (∀ (k t : Nat) W, Below wb.heap.size wb W → m.tail ≤ k → k < m.head → t < tables → ∃ V nn c Bv mv dv xs, els[k]? = some (.slice V nn c) ∧ (∃ ad, V = some ad ∧ W.cell? (ad.add t) = some (.slice Bv mv dv) ∧ t < nn) ∧ RdB W Bv mv dv xs ∧
      Calls Tryz.prog 15 #[.pointer (some ⟨f, 0, none⟩), .int .i64 (t : Int), .int .i64 (k : Int)] W (GetOk W xs)) := fun k t W hW h1 h2 h3 => by
    have HW := H.below hW
    have hkl : k < m.all.length := by rw [H.mod.len]; exact h2
    obtain ⟨vs, hvs⟩ : ∃ vs, m.all[k]? = some vs := ⟨_, List.getElem?_eq_getElem hkl⟩
    obtain ⟨ev, hev⟩ : ∃ ev, els[k]? = some ev := ⟨_, List.getElem?_eq_getElem (by rw [H.mod.its.len]; exact hkl)⟩
    obtain ⟨V, nn, c, rfl, hr⟩ := H.mod.its.each k ev vs hev hvs
    have hrv := H.rows vs (List.mem_of_getElem? hvs)
    have hlen : vs.length = tables := by
      unfold rightB at hrv
      rw [Bool.and_eq_true, decide_eq_true_eq] at hrv
      exact hrv.1
    have hrW := hr.below HW.bel
    have htn : t < nn := by rw [← hr.1, hlen]; exact h3
    obtain ⟨ad, Bv, mv, dv, e, hg2, hc, hrb⟩ := hrW.at_ htn
    have hG := HW.frz.get (t := t) (k := k - m.tail) (vs := vs) (v := vs.getD t []) (by rw [HTL.out]; exact h3) (by rw [List.getElem?_drop]; rw [show m.tail + (k - m.tail) = k from by omega]; exact hvs) hg2 (by rw [H.head]; exact hh) hL
    rw [H.tail, show m.tail + (k - m.tail) = k from by omega] at hG
    exact ⟨V, nn, c, Bv, mv, dv, _, hev, ⟨ad, e, hc, htn⟩, hrb, hG⟩
  have HROW : Hid (0 < m.head → ∃ g c cs, iv = .slice (some ⟨g, 0, none⟩) els.length c ∧ Blk wb g 35 cs ∧ ∀ (j : Nat) v, els[j]? = some v → cs[j]? = some v) := fun h0 => by
    rcases H.mod.its.row with ⟨_, e⟩ | ⟨g, c, cs, e, _, _, h3, h4⟩
    · have := H.mod.its.len
      rw [e, H.mod.len] at this
      simp at this
      omega
    · exact ⟨g, c, cs, e, h3, h4⟩
  have HEL : Hid (els.length = m.head) := by rw [← H.mod.len]; exact H.mod.its.len
  have HBI : Hid (∀ (n : Int) W, Below wb.heap.size wb W → n < (m.tail : Int) ∨ (m.head : Int) ≤ n → Calls Tryz.prog 15 #[.pointer (some ⟨f, 0, none⟩), .int .i64 0, .int .i64 n] W (GetBad W 121)) := fun n W hW hn => by
    have HW := H.below hW
    exact get_item _ f d cap D true num fs _ _ z 0 n W HW.frz.frz (by rw [HTL.out]; omega) (by rw [H.tail, H.head]; exact hn) (by rw [H.head]; exact hh)
  have HBT : Hid (∀ (t n : Int) W, Below wb.heap.size wb W → t < 0 ∨ (tables : Int) ≤ t → Calls Tryz.prog 15 #[.pointer (some ⟨f, 0, none⟩), .int .i64 t, .int .i64 n] W (GetBad W 120)) := fun t n W hW ht => by
    have HW := H.below hW
    exact get_table _ f d cap D true num fs _ _ z t n W HW.frz.frz (by rw [HTL.out]; exact ht)
  have HC : Hid (∀ W, Below wb.heap.size wb W → W.cell? ⟨b, 0, none⟩ = some (.int .i64 (tables : Int)) ∧ W.cell? ⟨b, 1, none⟩ = some iv ∧ W.cell? ⟨b, 2, none⟩ = some (.int .i64 (m.tail : Int)) ∧ W.cell? ⟨b, 3, none⟩ = some (.int .i64 (m.head : Int))) := fun W hW => by
    obtain ⟨a0, a1, a2, a3, _⟩ := (H.below hW).mod.cells
    exact ⟨a0, a1, a2, a3⟩
  obtain ⟨mt, hmt⟩ : ∃ mt, mt = m.tail := ⟨_, rfl⟩
  obtain ⟨mh, hmh⟩ : ∃ mh, mh = m.head := ⟨_, rfl⟩
  have HLE := Lib.hid (show mt ≤ mh ∧ mh ≤ 1000000 from by rw [hmt, hmh]; exact ⟨H.le, hh⟩)
  rw [← hmt] at HTC HGET HBI HC
  rw [← hmh] at HHC HGET HROW HEL HBI HC
  clear H hg hL ht1 ht8 hh hmt hmh
  obtain ⟨c0, c1, c2, c3⟩ := HC.out wb (Below.refl _ _)
  have HTQ : Hid (∀ q, Calls Tryz.prog 13 #[.pointer (some ⟨f, 0, none⟩)] (wb.drewN q) fun e w' => e = .returned (.int .i64 (mt : Int)) ∧ w' = wb.drewN q) := fun q => HTC.out _ (below_drewN q)
  have HHQ : Hid (∀ q, Calls Tryz.prog 14 #[.pointer (some ⟨f, 0, none⟩)] (wb.drewN q) fun e w' => e = .returned (.int .i64 (mh : Int)) ∧ ∃ m, w' = (wb.drewN q).drewN m) := fun q => HHC.out _ (below_drewN q)
  go_enter Tryz.func25, Tryz.ntmps25
  go_wp2_with fail
  clear c0 c1
  go_quiet ((first | (go_at_call 13; exact Calls.quiet_of_same (HTQ.out _)) | (go_at_call 14; exact Calls.quiet_of (HHQ.out _))))
  go_wp2_with fail
  have HBD : Hid (Below wb.heap.size wb (wb.drewN nq)) := below_drewN nq
  clear c2 c3
  go_loopw [5] (fun i W => ∃ k : Nat, mt ≤ k ∧ k ≤ mh ∧ i = .int .i64 k ∧ Below wb.heap.size wb W) (fun i _ => mh - (intOf i).toNat)
  case atStart => exact ⟨mt, Nat.le_refl _, HLE.out.1, rfl, HBD.out⟩
  case round =>
    obtain ⟨k, hk1, hk2, rfl, hb⟩ := hrel
    obtain ⟨wo, rfl⟩ : ∃ wo : World, wo = wr := ⟨_, rfl⟩
    have HB := Lib.hid hb
    obtain ⟨c0, c1, c2, c3⟩ := HC.out wo hb
    clear hb
    by_cases hlt : k < mh
    · have hI : (k : Int) < (mh : Int) := by omega
      have HKL := Lib.hid (show mt ≤ k ∧ k < mh ∧ mh ≤ 1000000 from ⟨hk1, hlt, HLE.out.2⟩)
      clear hk1 hk2 hlt
      go_wp2_with fail
      go_loopw [6] (fun j W => ∃ t : Nat, t ≤ tables ∧ j = .int .i64 t ∧ Below wb.heap.size wb W) (fun j _ => tables - (intOf j).toNat)
      case atStart => exact ⟨0, Nat.zero_le _, rfl, HB.out⟩
      case round =>
        obtain ⟨t, ht, rfl, hb⟩ := hrel
        obtain ⟨wo2, rfl⟩ : ∃ wo2 : World, wo2 = wr := ⟨_, rfl⟩
        have HB2 := Lib.hid hb
        obtain ⟨e0, e1, e2, e3⟩ := HC.out wo2 hb
        by_cases hlt : t < tables
        · obtain ⟨V, nn, c, Bv, mv, dv, xs, hev, ⟨ad, rfl, hc2, htn⟩, hrb, hG⟩ := HGET.out k t wo2 hb HKL.out.1 HKL.out.2.1 hlt
          obtain ⟨g, cI, cs, hiv, hBg, hcs⟩ := HROW.out (by have := HKL.out; omega)
          have HG2 := Lib.hid hG
          have hI2 : (t : Int) < (tables : Int) := by omega
          have HTT := Lib.hid (show t < tables ∧ tables ≤ 8 from ⟨hlt, HT.out.2⟩)
          have hgc : wb.cell? ⟨g, k, none⟩ = some (.slice (some ad) nn c) := by rw [hBg.cell]; exact hcs k _ hev
          have HGC := Lib.hid hgc
          have HC2 := Lib.hid hc2
          have HRB := Lib.hid hrb
          have HIV := Lib.hid hiv
          have hkI : (0 : Int) ≤ (k : Int) ∧ (k : Int) < (els.length : Int) := by have := HKL.out; have := HEL.out; omega
          have htI : (0 : Int) ≤ (t : Int) ∧ (t : Int) < (nn : Int) := by omega
          clear hG hlt ht hev hc2 htn hrb hiv hBg hcs hgc hb
          go_wp2_with fail
          refine HG2.out.mono ?_
          rintro e w3 ⟨v3, rfl, ho3, hb3⟩
          obtain ⟨A3, cc3, rfl, hr3⟩ := ho3.reads
          have HB3 := Lib.hid (thn HB2.out hb3)
          have HSP := Lib.hid (spoil_calls _ w3 ho3.wr)
          have HBY := Lib.hid (bytesEq_calls A3 xs.length cc3 xs Bv mv dv xs w3 hr3 (HRB.out.below hb3))
          rw [decide_eq_true rfl] at HBY
          have HOW := Lib.hid ho3
          obtain ⟨a0, a1, a2, a3⟩ := HC.out w3 HB3.out
          rw [HIV.out] at a1
          have x1 := cell_below' HB3.out HGC.out
          have x2 := cell_below' hb3 HC2.out
          have HZ2 := Lib.hid (show wb.heap.size ≤ wo2.heap.size from HB2.out.size)
          clear ho3 hb3 hr3 a0 a2 a3 e0 e1 e2 e3
          go_wp2_with fail
          refine HBY.out.mono ?_
          rintro e w4 ⟨rfl, rfl⟩
          clear a1 x1 x2
          go_wp2_with fail
          refine HSP.out.mono ?_
          rintro e w5 ⟨rfl, hu, hz, _⟩
          have HB5 : Hid (Below wb.heap.size wb w5) := HB3.out.trans (hu.bel HB3.out.size (fun x hx => Nat.le_trans HZ2.out (HOW.out.block x hx).1))
          clear hu hz
          have htb : tables ≤ 8 := HTT.out.2
          have htl : t < tables := HTT.out.1
          go_wp2_with fail
          go_roundw
          case rel => exact ⟨t + 1, htl, by go_num, HB5.out⟩
          case measure => simp [intOf]; omega
        · have hI2 : ¬ (t : Int) < (tables : Int) := by omega
          have hkb : k ≤ 1000000 := by have := HKL.out; omega
          clear hlt ht hb
          go_wp2_with fail
          go_roundw
          case rel => exact ⟨k + 1, by have := HKL.out; omega, HKL.out.2.1, by go_num, HB2.out⟩
          case measure => have := HKL.out; simp [intOf]; omega
    · obtain rfl : k = mh := by omega
      have hI : ¬ (k : Int) < (k : Int) := by omega
      clear hlt hk1 hk2
      have HB1 := Lib.hid (HBI.out (k : Int) wo HB.out (.inr (Int.le_refl _)))
      go_wp2_with fail
      refine HB1.out.mono ?_
      rintro e w1 ⟨v1, rfl, hv1, hb1⟩
      have HW1 := Lib.hid (thn HB.out hb1)
      have HV1 := Lib.hid hv1
      have HB2 := Lib.hid (HBI.out ((mt : Int) - 1) w1 HW1.out (.inl (by omega)))
      obtain ⟨a0, a1, a2, a3⟩ := HC.out w1 HW1.out
      have kw : wrap64 ((mt : Int) - 1) = (mt : Int) - 1 := wrap_ok _ (by omega) (by have := HLE.out; omega)
      clear hv1 hb1 c0 c1 c2 c3 a0 a1 a3
      go_wp2_with fail
      refine HB2.out.mono ?_
      rintro e w2 ⟨v2, rfl, hv2, hb2⟩
      have HW2 := Lib.hid (thn HW1.out hb2)
      have HV1 := Lib.hid (HV1.out.below hb2)
      have HV2 := Lib.hid hv2
      have HB3 := Lib.hid (HBT.out (tables : Int) (mt : Int) w2.drew (HW2.out.drew) (.inr (Int.le_refl _)))
      obtain ⟨a0, a1, d2, a3⟩ := HC.out w2 HW2.out
      have a0d : w2.drew.cell? ⟨b, 0, none⟩ = some (.int .i64 (tables : Int)) := a0
      have d2d : w2.drew.cell? ⟨b, 2, none⟩ = some (.int .i64 (mt : Int)) := d2
      have HCW := Lib.hid (fun W hW => HC.out W hW)
      clear hv2 hb2 kw a1 a3 a2
      go_wp2_with fail
      go_region_held3 (fun W => W.cell? ⟨b, 0, none⟩ = some (.int .i64 (tables : Int)) ∧ W.cell? ⟨b, 2, none⟩ = some (.int .i64 (mt : Int))) (first | exact ⟨a0d, d2d⟩ | exact ⟨(HCW.out _ (thn HW2.out hb3')).1, (HCW.out _ (thn HW2.out hb3')).2.2.1⟩) (first | (go_at_call 15; refine HB3.out.mono ?_; rintro e w3 ⟨v3, rfl, hv3, hb3⟩; have hb3' : Below w2.heap.size w2 w3 := ⟨hb3.os, hb3.tape, hb3.output, hb3.size, hb3.block⟩))
      have HW3 := Lib.hid (thn HW2.out hb3')
      have HV1 := Lib.hid (HV1.out.below hb3')
      have HV2 := Lib.hid (HV2.out.below hb3')
      have HV3 := Lib.hid hv3
      have HB4 := Lib.hid (HBT.out (-1) (mt : Int) w3 HW3.out (.inl (by decide)))
      obtain ⟨x0, x1, x2, x3⟩ := HC.out w3 HW3.out
      clear hv3 hb3 hb3' a0 d2 a0d d2d x0 x1 x3
      go_wp2_with fail
      refine HB4.out.mono ?_
      rintro e w4 ⟨v4, rfl, hv4, hb4⟩
      have HW4 := Lib.hid (thn HW3.out hb4)
      have HO1 := Lib.hid (Of_calls v1 121 w4 (HG.out.below HW4.out).err (HV1.out.below hb4))
      have HV2 := Lib.hid (HV2.out.below hb4)
      have HV3 := Lib.hid (HV3.out.below hb4)
      have HV4 := Lib.hid hv4
      clear hv4 hb4 x2
      go_wp2_with fail
      refine HO1.out.mono ?_
      rintro e w5 ⟨rfl, hb5⟩
      have HW5 := Lib.hid (thn HW4.out hb5)
      have HO2 := Lib.hid (Of_calls v2 121 w5 (HG.out.below HW5.out).err (HV2.out.below hb5))
      have HV3 := Lib.hid (HV3.out.below hb5)
      have HV4 := Lib.hid (HV4.out.below hb5)
      clear hb5
      go_wp2_with fail
      refine HO2.out.mono ?_
      rintro e w6 ⟨rfl, hb6⟩
      have HW6 := Lib.hid (thn HW5.out hb6)
      have HO3 := Lib.hid (Of_calls v3 120 w6 (HG.out.below HW6.out).err (HV3.out.below hb6))
      have HV4 := Lib.hid (HV4.out.below hb6)
      clear hb6
      go_wp2_with fail
      refine HO3.out.mono ?_
      rintro e w7 ⟨rfl, hb7⟩
      have HW7 := Lib.hid (thn HW6.out hb7)
      have HO4 := Lib.hid (Of_calls v4 120 w7 (HG.out.below HW7.out).err (HV4.out.below hb7))
      clear hb7
      go_wp2_with fail
      refine HO4.out.mono ?_
      rintro e w8 ⟨rfl, hb8⟩
      have HW8 := Lib.hid (thn HW7.out hb8)
      clear hb8
      go_wp2_with fail
      go_ret
      exact ⟨rfl, HW8.out⟩
end Go.Proofs.YtejnfahfjmeabaaGreatDoor
namespace Go.Proofs.YtejnfahfjmeabaaGreatDoor
open Go.RowKit
set_option linter.unusedSimpArgs false
set_option linter.unusedVariables false

theorem ErrV.upd {fp fp' : Blocks} {w w' : World} (hu : Upd fp fp' w w') (hT : ∀ k cs, Blk w k 111 cs → ¬ fp k) : ∀ (k : Nat) (v : Value) (n : Nat), ErrV w k v n → ErrV w' k v n
  | 0, _, _, h => h
  | k + 1, v, n, h => by
    obtain ⟨b, s, u, e, h1, h2⟩ := h
    exact ⟨b, s, u, e, (hu.block b h1.lt (hT b _ h1)).trans h1, ErrV.upd hu hT k u n h2⟩
theorem ErrR.upd {fp fp' : Blocks} {w w' : World} {v : Value} {n : Nat} (h : ErrR w v n) (hu : Upd fp fp' w w') (hT : ∀ k cs, Blk w k 111 cs → ¬ fp k) : ErrR w' v n := by
  rcases h with h | ⟨h, k, hk⟩
  · exact .inl h
  · exact .inr ⟨h, k, ErrV.upd hu hT k v n hk⟩
def stepV (s : StepP) (V : Option Addr) (n c : Nat) : Array Value := #[.int .i64 (s.what : Int), .int .i64 (s.n : Int), .slice V n c]
/-- what a step of the law's comes in with -/
structure DoesIn (P : Blocks → World → Prop) (Q : Nat → Blocks → World → Prop) (w W : World) (mb : Blocks) (b f tables : Nat) (iv : Value) (m : MSt) (els : List Value) (s : StepP) (V : Option Addr) (n c : Nat) : Prop where
  hP : Apart P
  hQ : ∀ k, Apart (Q k)
  mod : ModP w W mb b tables iv m.tail m.head m.sure els m.all
  frz : P mb W
  bel : Below w.heap.size w W
  val : RdM w V n c s.vs
  short : ∀ v ∈ s.vs, v.length ≤ 140737488355328
  few : n ≤ 1000000
  what : s.what ≤ 9223372036854775807
  num : s.n ≤ 9223372036854775807
  le : m.tail ≤ m.head
  head : m.head ≤ 1000000
  sure : m.sure ≤ 1000000
  op : ∀ (mb' : Blocks) (W' : World), P mb' W' → (∀ k, mb k → mb' k) → (∀ k, mb' k → w.heap.size ≤ k ∧ k < W'.heap.size) → Below w.heap.size w W' → OpCalls f W' (KeptQ w mb' W' Q) (opOf m.tail m.head s)
def DoesQ (Q : Nat → Blocks → World → Prop) (w : World) (b tables : Nat) (m : MSt) (o : MOp) (e : Ending) (W' : World) : Prop :=
  ∃ v k iv' els' mb', e = .returned (.tuple #[v, .int .i64 (((stepM tables m k o).1 : Nat) : Int)]) ∧ ErrR W' v k ∧ Q k mb' W' ∧ ModP w W' mb' b tables iv' (stepM tables m k o).2.tail (stepM tables m k o).2.head (stepM tables m k o).2.sure els' (stepM tables m k o).2.all ∧ Below w.heap.size w W'
theorem grow_bnd {mb : Blocks} {w W W' : World} (h : ∀ k, mb k → w.heap.size ≤ k ∧ k < W.heap.size) (hw : w.heap.size ≤ W.heap.size) (hz : W.heap.size ≤ W'.heap.size) : ∀ k, grow mb W W' k → w.heap.size ≤ k ∧ k < W'.heap.size := fun k hk => by
  rcases hk with hk | hk
  · have := h k hk; omega
  · omega
/-- what stands behind the call -/
structure AfterOp (Q : Nat → Blocks → World → Prop) (w W' : World) (mb mb2 : Blocks) (b tables : Nat) (iv : Value) (m : MSt) (els : List Value) (k : Nat) (v : Value) : Prop where
  q : Q k mb2 W'
  err : ErrR W' v k
  mod : ModP w W' mb b tables iv m.tail m.head m.sure els m.all
  bel : Below w.heap.size w W'
  bnd : ∀ x, mb2 x → w.heap.size ≤ x ∧ x < W'.heap.size
  sub : ∀ x, mb x → mb2 x
section
variable {P : Blocks → World → Prop} {Q : Nat → Blocks → World → Prop} {w W : World} {mb : Blocks} {b f tables : Nat} {iv : Value} {m : MSt} {els : List Value} {s : StepP} {V : Option Addr} {n c : Nat}
theorem DoesIn.after (H : DoesIn P Q w W mb b f tables iv m els s V n c) {W1 : World} (hb : Below W.heap.size W W1) {W2 : World} {k : Nat} {v : Value} (hk : KeptQ w (grow mb W W1) W1 Q k W2) (he : ErrR W2 v k) :
    AfterOp Q w W2 mb (grow mb W W1) b tables iv m els k v := by
  have h1 := H.mod.below hb
  have hbn := grow_bnd (W' := W1) H.mod.lt H.bel.size hb.size
  refine ⟨hk.1, he, h1.keeps (fun x hx => hk.2.block x (h1.lt x hx).2 (fun hn => hn.2 (.inl hx))) hk.2.size, (thn H.bel hb).trans (hk.2.bel (thn H.bel hb).size (fun x hx => hx.1)), fun x hx => ?_, fun x hx => .inl hx⟩
  have := hbn x hx
  have := hk.2.size
  omega
/-- nothing was taken -/
theorem AfterOp.same {W' : World} {mb2 : Blocks} {k : Nat} {v : Value} (A : AfterOp Q w W' mb mb2 b tables iv m els k v) {o : MOp} {e : Nat} (ho : stepM tables m k o = (e, m)) : DoesQ Q w b tables m o (.returned (.tuple #[v, .int .i64 (e : Int)])) W' := by
  refine ⟨v, k, iv, els, mb2, by rw [ho], A.err, A.q, ?_, A.bel⟩
  rw [ho]
  exact A.mod.wide A.sub A.bnd
theorem AfterOp.set (hQ : ∀ k, Apart (Q k)) {W' W3 : World} {mb2 : Blocks} {k : Nat} {v : Value} (A : AfterOp Q w W' mb mb2 b tables iv m els k v) (hu : Upd (one b) (one b) W' W3) : Q k mb2 W3 ∧ ErrR W3 v k ∧ Below w.heap.size w W3 ∧ ∀ x, mb2 x → w.heap.size ≤ x ∧ x < W3.heap.size := by
  have hbm : mb2 b := A.sub b A.mod.inb
  refine ⟨(hQ k).upd (A.q) (hu.within (gp := mb2) (fun x hx => by cases hx; exact hbm)), A.err.upd hu (fun x cs hx e => by cases e; exact blk_ne hx A.mod.blk (by decide) rfl), A.bel.trans (hu.bel A.bel.size (fun x hx => by cases hx; exact (A.mod.lt b A.mod.inb).1)), fun x hx => ?_⟩
  have := A.bnd x hx
  have := hu.size
  omega
set_option maxRecDepth 100000 in
set_option maxHeartbeats 1000000 in
theorem does_sync (H : DoesIn P Q w W mb b f tables iv m els s V n c) (hr : 4 ≤ s.what % 6) :
    Calls Tryz.prog 24 #[.pointer (some ⟨b, 0, none⟩), .pointer (some ⟨f, 0, none⟩), .agg (stepV s V n c)] W (DoesQ Q w b tables m (opOf m.tail m.head s)) := by
  have hop : opOf m.tail m.head s = .sync := by unfold opOf; rw [if_neg (by omega), if_neg (by omega), if_neg (by omega)]
  have HH := Lib.hid H
  obtain ⟨W1, hW1⟩ : ∃ W1 : World, W1 = W.alloc (.cells (stepV s V n c) 54) := ⟨_, rfl⟩
  have hb1 : Below W.heap.size W W1 := by rw [hW1]; exact (Below.refl _ _).alloc (Nat.le_refl _) _
  have HB1 := Lib.hid hb1
  have HO := Lib.hid (H.op (grow mb W W1) W1 (H.hP.below H.frz hb1) (fun _ h => .inl h) (grow_bnd H.mod.lt H.bel.size hb1.size) (thn H.bel hb1))
  rw [hop] at HO ⊢
  unfold OpCalls at HO
  have HMOD := Lib.hid (mod_calls s.what 6 H.what (by omega) (by omega) W1)
  obtain ⟨r, hrr⟩ : ∃ r, r = s.what % 6 := ⟨_, rfl⟩
  have hr6 : r = 4 ∨ r = 5 := by omega
  rw [← hrr] at HMOD
  obtain ⟨sw, hsw⟩ : ∃ sw, sw = s.what := ⟨_, rfl⟩
  obtain ⟨sn, hsn⟩ : ∃ sn, sn = s.n := ⟨_, rfl⟩
  have c0 : W1.cell? ⟨W.heap.size, 0, none⟩ = some (.int .i64 (s.what : Int)) := by rw [hW1]; exact (Blk.new W 54 _).cell 0
  unfold stepV at hW1 ⊢
  rw [← hsw] at hW1 c0 HMOD ⊢
  rw [← hsn] at hW1 ⊢
  rw [hW1] at HMOD HO c0
  clear hb1 hop hr hrr hsw hsn
  rcases hr6 with rfl | rfl
  all_goals
    go_enter Tryz.func24, Tryz.ntmps24
    go_wp2_with fail
    refine HMOD.out.mono ?_
    rintro e w1 ⟨rfl, rfl⟩
    go_wp2_with fail
    refine HO.out.mono ?_
    rw [← hW1]
    rintro e W2 ⟨v, k, rfl, he, hk⟩
    have A := HH.out.after HB1.out hk he
    have HA := Lib.hid A
    obtain ⟨b0, b1, b2, b3, b4⟩ := A.mod.cells
    have f4 := A.mod.blk.frozen 4
    rcases he with ⟨rfl, rfl⟩ | ⟨hk0, kk, hkk⟩
    · have hfin : Hid (DoesQ Q w b tables m .sync (.returned (.tuple #[.nilIface, .int .i64 0])) (W2.setCell ⟨b, 4, none⟩ (.int .i64 (m.head : Int)))) := by
        have hu : Upd (one b) (one b) W2 (W2.setCell ⟨b, 4, none⟩ (.int .i64 (m.head : Int))) := (Upd.refl (one b) W2).set (p := ⟨b, 4, none⟩) rfl _
        obtain ⟨q1, q2, q3, q4⟩ := A.set HH.out.hQ hu
        refine ⟨.nilIface, 0, iv, els, _, rfl, q2, q1, ?_, q3⟩
        have hB3 : Blk (W2.setCell ⟨b, 4, none⟩ (.int .i64 (m.head : Int))) b 51 (mdk tables iv m.tail m.head m.head) := (A.mod.blk.set_ 4 _).eq_ rfl
        refine ModP.wide (mb := mb) ⟨hB3, ?_, A.mod.len, A.mod.inb, fun x hx => ?_⟩ A.sub q4
        · refine ⟨A.mod.its.len, A.mod.its.each, ?_⟩
          rcases A.mod.its.row with h1 | ⟨g, c', cs, e, h1, h2, h3, h4⟩
          · exact .inl h1
          · exact .inr ⟨g, c', cs, e, h1, h2, (hu.block g h3.lt (fun e => blk_ne h3 A.mod.blk (by decide) e)).trans h3, h4⟩
        · have := A.mod.lt x hx
          have := hu.size
          omega
      obtain ⟨mh, hmh⟩ : ∃ mh, mh = m.head := ⟨_, rfl⟩
      rw [← hmh] at hfin b3
      clear A hk hmh b0 b1 b2 c0
      go_wp2_with fail
      go_ret2
      exact hfin.out
    · obtain ⟨tt, xx, rfl⟩ := hkk.iface
      have hfin : Hid (DoesQ Q w b tables m .sync (.returned (.tuple #[.iface tt xx, .int .i64 0])) W2) := by
        refine A.same (e := 0) ?_
        unfold stepM
        rw [if_neg hk0]
      clear A hk hk0 hkk b0 b1 b2 b3 b4 c0
      go_wp2_with fail
      go_ret2
      exact hfin.out
end
end Go.Proofs.YtejnfahfjmeabaaGreatDoor
