/- the texts D27 of this proof, one behind the other -/
import Derived.Test.YtfjfjjcdlgdbcaaDoorF17
namespace Go.Proofs.YtfjfjjcdlgdbcaaDoor
open Go.RowKit Go.Shelf
set_option linter.unusedSimpArgs false
set_option linter.unusedVariables false
attribute [local go_sem] Oper.semAt_some

theorem Blk.newN {w : World} {t : TypeId} {cs : Array Value} {n : Nat} (h : n = w.heap.size) : Blk (w.alloc (.cells cs t)) n t cs := by subst h; exact Blk.new w t cs
theorem linesP_len : ∀ ps : List (List UInt8), (linesP ps).length ≤ ps.length
  | [] => by simp [linesP]
  | [p] => by rw [linesP]; split <;> simp
  | p :: q :: ps => by
    have := linesP_len (q :: ps)
    rw [linesP]
    simp only [List.length_cons] at this ⊢
    omega
theorem linesL_len (s : List UInt8) : (linesL s).length ≤ s.length + 1 := by
  have h1 := linesP_len (splitL 10 s)
  have h2 := splitL_len 10 s
  unfold linesL
  omega
theorem splitL_part2 (c : UInt8) : ∀ (s : List UInt8) (x : List UInt8), x ∈ splitL c s → x.length ≤ s.length
  | [], x, h => by
    have : x = [] := by simpa [splitL] using h
    simp [this]
  | b :: l, x, h => by
    rw [splitL] at h
    split at h
    · rcases List.mem_cons.1 h with rfl | h
      · simp
      · have := splitL_part2 c l x h
        simp; omega
    · cases hs : splitL c l with
      | nil => exact absurd hs (splitL_ne c l)
      | cons p ps =>
        rw [hs] at h
        rcases List.mem_cons.1 h with rfl | h
        · have := splitL_part2 c l p (by rw [hs]; simp)
          simp; omega
        · have := splitL_part2 c l x (by rw [hs]; simp [h])
          simp; omega
theorem linesP_part : ∀ (ps : List (List UInt8)) (x : List UInt8 × Bool), x ∈ linesP ps → x.1 ∈ ps
  | [], x, h => by cases h
  | [p], x, h => by
    rw [linesP] at h
    split at h
    · cases h
    · obtain rfl := List.mem_singleton.1 h
      simp
  | p :: q :: ps, x, h => by
    rw [linesP] at h
    rcases List.mem_cons.1 h with rfl | h
    · simp
    · exact List.mem_cons_of_mem _ (linesP_part (q :: ps) x h)
theorem linesL_part (s : List UInt8) (x : List UInt8 × Bool) (h : x ∈ linesL s) : x.1.length ≤ s.length := splitL_part2 10 s _ (linesP_part _ x h)
theorem stepL_small {es es' : List EntP} {x : List UInt8 × Bool} (h : stepL es x = some es') (k : Nat) (h1 : es.length ≤ k) (h2 : ∀ e ∈ es, e.slots.length ≤ k) (ha : ∀ ws e, accL ws = some e → e.slots = []) : es'.length ≤ k + 1 ∧ ∀ e ∈ es', e.slots.length ≤ k + 1 := by
  unfold stepL at h
  cases hx : accL (splitL 32 x.1) with
  | some e =>
    rw [hx] at h
    simp only at h
    split at h
    · obtain rfl := Option.some.inj h
      refine ⟨by simp; omega, fun e' he => ?_⟩
      rcases List.mem_append.1 he with he | he
      · have := h2 e' he; omega
      · obtain rfl := List.mem_singleton.1 he
        rw [ha _ _ hx]; simp
    · cases h
  | none =>
    rw [hx] at h
    simp only at h
    cases hy : slotL (splitL 32 x.1) with
    | none => rw [hy] at h; cases h
    | some hh =>
      rw [hy] at h
      simp only at h
      cases hl : es.getLast? with
      | none => rw [hl] at h; cases h
      | some e =>
        rw [hl] at h
        simp only at h
        split at h
        · obtain rfl := Option.some.inj h
          have hm : e ∈ es := List.mem_of_getLast? hl
          refine ⟨by simp; omega, fun e' he => ?_⟩
          rcases List.mem_append.1 he with he | he
          · have := h2 e' (List.mem_of_mem_take (by rw [List.dropLast_eq_take] at he; exact he)); omega
          · obtain rfl := List.mem_singleton.1 he
            have := h2 e hm
            simp; omega
        · cases h
theorem accK_slots (ws : List (List UInt8)) : ∀ k e, accK ws k = some e → e.slots = []
  | 0, e, h => by
    obtain rfl := Option.some.inj h
    rfl
  | k + 1, e, h => by
    rw [accK] at h
    cases hk : accK ws k with
    | none => rw [hk] at h; cases h
    | some e0 =>
      have h0 := accK_slots ws k e0 hk
      rw [hk] at h
      have h' : rdW ws k e0 = some e := h
      unfold rdW at h'
      split at h'
      · split at h'
        · obtain rfl := Option.some.inj h'; exact h0
        · cases h'
      · split at h'
        · obtain rfl := Option.some.inj h'; exact h0
        · cases h'
      · obtain ⟨n, _, rfl⟩ := Option.map_eq_some_iff.1 h'; exact h0
      · obtain ⟨n, _, rfl⟩ := Option.map_eq_some_iff.1 h'; exact h0
      · split at h'
        · obtain rfl := Option.some.inj h'; exact h0
        · cases h'
      · cases h'
theorem accL_slots (ws : List (List UInt8)) (e : EntP) (h : accL ws = some e) : e.slots = [] := by
  unfold accL at h
  split at h
  · exact accK_slots ws 5 e h
  · cases h
theorem linesTo_small : ∀ (k : Nat) (pre : List (List UInt8 × Bool)) (es : List EntP), pre.length = k → linesTo pre = some es → es.length ≤ k ∧ ∀ e ∈ es, e.slots.length ≤ k
  | 0, pre, es, hk, h => by
    obtain rfl := List.length_eq_zero_iff.1 hk
    obtain rfl : [] = es := by simpa [linesTo] using h
    exact ⟨by simp, by simp⟩
  | k + 1, pre, es, hk, h => by
    have hne : pre ≠ [] := by intro e; rw [e] at hk; cases hk
    have hd := List.dropLast_concat_getLast hne
    rw [← hd, linesTo_snoc] at h
    cases h0 : linesTo pre.dropLast with
    | none => rw [h0] at h; cases h
    | some e0 =>
      rw [h0] at h
      have hs := linesTo_small k pre.dropLast e0 (by rw [List.length_dropLast]; omega) h0
      exact stepL_small h k hs.1 hs.2 accL_slots
theorem slotL_fit {ws : List (List UInt8)} {h : List UInt8 × List UInt8} (hs : slotL ws = some h) : h.1.length = 32 ∧ h.2.length = 32 := by
  unfold slotL at hs
  split at hs
  · rename_i h1
    obtain rfl := Option.some.inj hs
    exact ⟨h1.2.2.1.2, h1.2.2.2.2⟩
  · cases hs
theorem info79 : (Tryd.prog.info? 79).map (fun i => (i.zero, i.size, i.bytes)) = some (some (.agg (ek zE0 (.slice none 0 0) (.slice none 0 0))), 55, 112) := by kernel_rfl
theorem info95 : (Tryd.prog.info? 95).map (fun i => (i.zero, i.size, i.bytes)) = some (some (.agg (hk zH).toArray), 64, 64) := by kernel_rfl
/-- an account is appended, out of a block that has just been laid -/
theorem push_run {w W : World} {B : Nat} {v : Value} {es : List EntP} (h : OwnE w B v es) (hB : B ≤ w.heap.size) (e : EntP) (c : Value) (he : EntAt w B (e, c, .slice none 0 0)) (hes : es.length ≤ 100000000)
    (hW : W = w.alloc (.cells (ek e c (.slice none 0 0)) 79)) :
    ∃ v2 w2, (Builtin.append_ #[47, 47] 47 #[v, .slice (some ⟨w.heap.size, 0, none⟩) 1 1]).run Tryd.prog W = .ok v2 w2 ∧ W.grownBy w2 v.ownBlock ∧ OwnE w2 B v2 (es ++ [e]) := by
  obtain ⟨i0, hi, hz0, hz1, hz2⟩ := info_parts info79
  have hkp : KeepsLo B w W := by rw [hW]; exact KeepsLo.below (al (Below.refl _ w) _)
  obtain ⟨ps, hps, hP⟩ := h.keeps hkp
  have hlp : ps.length = es.length := by rw [← hps, List.length_map]
  have hn : Blk W w.heap.size 79 (ek e c (.slice none 0 0)) := by rw [hW]; exact Blk.new _ _ _
  have hsz := ek_size e c (.slice none 0 0) he.fit
  obtain ⟨C, m, d, hc, _⟩ := he.code
  simp only at hc
  subst hc
  obtain ⟨v2, w2, hrun, r1, r2, r3⟩ := run_append_own (P := Tryd.prog) W B 47 47 79 i0 _ 55 112 Tryd.underlying47 hi hz0 hz1 hz2 (by decide) (by decide) v ps.length (ps.flatMap fE) hP.row
    ⟨w.heap.size, 0, none⟩ 1 1 (fE (e, .slice C m d, .slice none 0 0)) (by rw [fE_length _ he.fit]) (by
      intro j u hu
      have e2 : (⟨w.heap.size, 0, none⟩ : Addr).add j = ⟨w.heap.size, j, none⟩ := by unfold Addr.add; split <;> simp_all
      rw [e2, hn.cell j]
      rw [← Array.getElem?_toList]
      exact hu) (fun u hu => ek_one e C m d none 0 0 u hu) (by unfold maxLen; omega) (by omega) (by have := hkp.1; omega)
  have hpe := hP.push (p := (e, .slice C m d, .slice none 0 0)) (by rw [← hlp] at *; exact r1) r2 (he.keeps hkp) rfl
  exact ⟨v2, w2, hrun, r2, ps ++ [(e, .slice C m d, .slice none 0 0)], by rw [List.map_append, hps]; rfl, hpe⟩
theorem last_ent {w : World} {B : Nat} {v : Value} {es : List EntP} (h : OwnE w B v es) (hne : es ≠ []) :
    ∃ (init : List PE) (p : PE) (g cap : Nat), es = (init ++ [p]).map (·.1) ∧ v = .slice (some ⟨g, 0, none⟩) (init.length + 1) cap ∧ OwnP w B v (init ++ [p]) ∧ w.cell? ⟨g, init.length * 55 + 54, none⟩ = some p.2.2 ∧ w.frozen? ⟨g, init.length * 55 + 54, none⟩ = false ∧ B ≤ g ∧ g < w.heap.size ∧ init.length + 1 ≤ cap ∧ cap ≤ maxLen := by
  obtain ⟨ps, rfl, hP⟩ := h
  have hpn : ps ≠ [] := fun e => hne (by rw [e]; rfl)
  obtain ⟨init, p, rfl⟩ : ∃ init p, ps = init ++ [p] := ⟨ps.dropLast, ps.getLast hpn, (List.dropLast_concat_getLast hpn).symm⟩
  have hl : (init ++ [p]).length = init.length + 1 := by simp
  obtain ⟨g, cap, hv, hBg, hg, h1, h2⟩ := own_pos hP.row (by rw [hl]; omega)
  rw [hl] at hv h1
  subst hv
  have hrow := hP.row
  rw [hl] at hrow
  refine ⟨init, p, g, cap, rfl, rfl, hP, ?_, World.ownsRow.frozenAt hrow _, hBg, hg, h1, h2⟩
  rw [World.ownsRow.cellAt hrow _ (by omega), flat_get fE 55 (init ++ [p]) init.length 54 p (fun y hy => fE_length y (hP.ents y hy).fit) (by simp) (by omega)]
  unfold fE
  rw [Array.getElem?_toList]
  exact ek_tail _ _ _ (hP.ents p (by simp)).fit 1
/-- a slot is appended to the last account's, out of a block that has just been laid -/
theorem slot_run {w W : World} {B N g cap : Nat} {init : List PE} {p : PE} {h : List UInt8 × List UInt8} (hP : OwnP w B (.slice (some ⟨g, 0, none⟩) (init.length + 1) cap) (init ++ [p])) (hB : B ≤ w.heap.size) (hh : h.1.length = 32 ∧ h.2.length = 32) (hsl : p.1.slots.length ≤ 100000000)
    (hkp : KeepsLo B w W) (hn : Blk W N 95 (hk h).toArray) :
    ∃ s2 w2, (Builtin.append_ #[77, 77] 77 #[p.2.2, .slice (some ⟨N, 0, none⟩) 1 1]).run Tryd.prog W = .ok s2 w2 ∧ W.grownBy w2 p.2.2.ownBlock ∧ (∀ k, p.2.2.ownBlock = some k → B ≤ k) ∧ w2.cell? ⟨g, init.length * 55 + 54, none⟩ = some p.2.2 ∧ w2.frozen? ⟨g, init.length * 55 + 54, none⟩ = false ∧
      (∃ A m c, s2 = .slice A m c) ∧ OwnP (w2.setCell ⟨g, init.length * 55 + 54, none⟩ s2) B (.slice (some ⟨g, 0, none⟩) (init.length + 1) cap) (init ++ [({ p.1 with slots := p.1.slots ++ [h] }, p.2.1, s2)]) := by
  obtain ⟨i0, hi, hz0, hz1, hz2⟩ := info_parts info95
  have hP2 := hP.keeps hkp
  have hp := hP2.ents p (by simp)
  have hl : (init ++ [p]).length = init.length + 1 := by simp
  have hrow := hP2.row
  rw [hl] at hrow
  obtain ⟨s2, w2, hrun, r1, r2, r3, r4⟩ := run_append_own_at (P := Tryd.prog) (w := W) B 77 77 95 i0 _ 64 64 Tryd.underlying77 hi hz0 hz1 hz2 (by decide) (by decide) p.2.2 p.1.slots.length (p.1.slots.flatMap hk) hp.slots
    ⟨N, 0, none⟩ 1 1 (hk h) (by rw [hk_length h hh]) (by
      intro j u hu
      have e2 : (⟨N, 0, none⟩ : Addr).add j = ⟨N, j, none⟩ := by unfold Addr.add; split <;> simp_all
      rw [e2, hn.cell j, List.getElem?_toArray]
      exact hu) (fun u hu => hk_one h u hu) (by unfold maxLen; omega) (by omega) (by have := hkp.1; omega)
  have hgne : some g ≠ p.2.2.ownBlock := by
    rcases row_apart hrow hp.slots (by decide) with e | e
    · cases e
    · exact e
  have hcg : W.cell? ⟨g, init.length * 55 + 54, none⟩ = some p.2.2 := by
    rw [World.ownsRow.cellAt hrow _ (by omega), flat_get fE 55 (init ++ [p]) init.length 54 p (fun y hy => fE_length y (hP2.ents y hy).fit) (by simp) (by omega)]
    unfold fE
    rw [Array.getElem?_toList]
    exact ek_tail _ _ _ hp.fit 1
  have hgW : g < W.heap.size := (hrow.lt g rfl).2
  refine ⟨s2, w2, hrun, r2, fun k hk' => (hp.slots.lt k hk').1, (World.cell?_of_block (r2.block g hgW hgne)).trans hcg, (World.frozen?_of_block (r2.block g hgW hgne)).trans (World.ownsRow.frozenAt hrow _), ?_, ?_⟩
  · obtain ⟨A, c, e⟩ := slice_of_own r1
    exact ⟨A, _, c, e⟩
  · exact hP2.grow hh r1 r2 (by rcases r4 with e | e; · exact .inl e
                                · exact .inr ⟨_, Nat.le_refl _, e⟩)
/-- what lies between two lines -/
structure PState (w : World) (pre : List (List UInt8 × Bool)) (W : World) : Prop where
  dfr : W.heap[w.heap.size + 6]? = some (.deferred (some []))
  res : Blk W w.heap.size 47 #[.slice none 0 0]
  res1 : Blk W (w.heap.size + 1) 3 #[.int .i64 0]
  res2 : Blk W (w.heap.size + 2) 29 #[.int .i64 0]
  nv : Blk W (w.heap.size + 4) 3 #[.int .i64 (pre.length : Int)]
  bel : Below w.heap.size w W
  sz : w.heap.size + 8 ≤ W.heap.size
  row : ∃ es v, linesTo pre = some es ∧ Blk W (w.heap.size + 3) 47 #[v] ∧ OwnE W (w.heap.size + 8) v es
structure PStop (w : World) (s : List UInt8) (W : World) : Prop where
  dfr : W.heap[w.heap.size + 6]? = some (.deferred (some []))
  bel : Below w.heap.size w W
  row : ∃ n : Nat, parseGo [] 0 (linesL s) = .inr n ∧ Blk W w.heap.size 47 #[.slice none 0 0] ∧ Blk W (w.heap.size + 1) 3 #[.int .i64 (n : Int)] ∧ Blk W (w.heap.size + 2) 29 #[.int .i64 241]
theorem PState.same {w W W' : World} {pre : List (List UInt8 × Bool)} (h : PState w pre W) (ho : W'.os = W.os) (ht : W'.tape = W.tape) (hu : W'.output = W.output) (hsz : W'.heap.size = W.heap.size)
    (hk : ∀ i, ¬ i = w.heap.size + 5 → ¬ i = w.heap.size + 7 → W'.heap[i]? = W.heap[i]?) : PState w pre W' := by
  obtain ⟨h1, h2, h3, h4, h5, h6, h7, es, v, h8, h9, h10⟩ := h
  exact ⟨(hk _ (by omega) (by omega)).trans h1, (hk _ (by omega) (by omega)).trans h2, (hk _ (by omega) (by omega)).trans h3, (hk _ (by omega) (by omega)).trans h4, (hk _ (by omega) (by omega)).trans h5,
    ⟨ho.trans h6.os, ht.trans h6.tape, hu.trans h6.output, by rw [hsz]; exact h6.size, fun i hi => (hk i (by omega) (by omega)).trans (h6.block i hi)⟩, by omega,
    es, v, h8, (hk _ (by omega) (by omega)).trans h9, h10.keeps ⟨by omega, fun i h1 h2 => hk i (by omega) (by omega)⟩⟩
theorem PState.next {w W' Wn : World} {pre : List (List UInt8 × Bool)} {x : List UInt8 × Bool} {es : List EntP} {v : Value} (h : PState w pre W') (hk : ∀ k, k < w.heap.size + 8 → k ≠ w.heap.size + 3 → k ≠ w.heap.size + 4 → Wn.heap[k]? = W'.heap[k]?)
    (hb : Below w.heap.size w Wn) (hz : w.heap.size + 8 ≤ Wn.heap.size) (h3 : Blk Wn (w.heap.size + 3) 47 #[v]) (h4 : Blk Wn (w.heap.size + 4) 3 #[.int .i64 ((pre.length : Int) + 1)]) (hO : OwnE Wn (w.heap.size + 8) v es) (hl : linesTo (pre ++ [x]) = some es) : PState w (pre ++ [x]) Wn :=
  ⟨(hk _ (by omega) (by omega) (by omega)).trans h.dfr, (hk _ (by omega) (by omega) (by omega)).trans h.res, (hk _ (by omega) (by omega) (by omega)).trans h.res1, (hk _ (by omega) (by omega) (by omega)).trans h.res2, by rw [List.length_append]; exact h4, hb, hz, es, v, hl, h3, hO⟩
theorem PStop.drew {w W : World} {s : List UInt8} (h : PStop w s W) : PStop w s W.drew := ⟨h.dfr, h.bel.drew, h.row⟩
theorem cell_setFar' {W : World} {a b : Addr} {u v : Value} (h : W.cell? a = some v) (hne : a.block ≠ b.block) : (W.setCell b u).cell? a = some v := (World.cell?_of_block (Below.heap_setCell W b u a.block hne)).trans h
theorem CellsAt.far {W : World} {g o : Nat} {vs : List Value} (h : CellsAt W g o vs) {b : Addr} (hne : g ≠ b.block) (u : Value) : CellsAt (W.setCell b u) g o vs := fun j x hj => cell_setFar' (h j x hj) hne
theorem armH_runT (w : World) {ops : Array Oper} {o : Oper} {a : Act} {K : Act → World → Prop} {Q : Exit → Act → World → Prop} {E : Prop} (t : TypeId)
    (hgd : o.guard = none) (s x : Operand) (ho : o.op = .call { callee := .builtin .append, args := #[s, x], argTypes := #[t, t] }) (hty : o.type = t)
    (v u : Value) (hs : a.eval s = v) (hx : a.eval x = u) (v' : Value) (w' : World) (hrun : (Builtin.append_ #[t, t] t #[v, u]).run Tryd.prog w = .ok v' w')
    (h : K (a.put o.dst v') w') :
    if Region.wanted o (yielded ops a.tmps) = true then Oper.wp Tryd.prog o a w K Q else E := by
  have hw : Region.wanted o (yielded ops a.tmps) = true := by simp [Region.wanted, hgd]
  rw [if_pos hw]
  unfold Oper.wp execOp
  simp only [ho, hty, resolve, invoke, builtin, Sem.run_bind, Sem.run_pure, Result.andThen_ok, List.map_toArray, List.map_cons, List.map_nil, hs, hx, hrun]
  exact h
theorem armH_buildSlice1 (w : World) {ops : Array Oper} {o : Oper} {a : Act} {K : Act → World → Prop} {Q : Exit → Act → World → Prop} {E : Prop} (t e : TypeId) (k : Nat) (hgd : o.guard = none) (x : Operand) (ho : o.op = .buildSlice t 1 #[(0, x)]) (cs : Array Value) (hx : a.eval x = .agg cs)
    (ht : Tryd.prog.underlying t = some (.slice e)) (he : AggT Tryd.prog e k) (hz : ((Tryd.prog.info? e).bind (·.zero)).isSome = true) (hs : cs.size = k) (hk : k ≤ 1000) (hk0 : 0 < k)
    (h : K (a.put o.dst (.slice (some ⟨w.heap.size, 0, none⟩) 1 1)) (w.alloc (.cells cs e))) :
    if Region.wanted o (yielded ops a.tmps) = true then Oper.wp Tryd.prog o a w K Q else E := by
  have hw : Region.wanted o (yielded ops a.tmps) = true := by simp [Region.wanted, hgd]
  rw [if_pos hw]
  unfold Oper.wp execOp
  simp only [ho, List.map_toArray, List.map_cons, List.map_nil, hx, Sem.run_bind, Sem.run_pure, Result.andThen_ok, run_buildSlice1 w t e k cs ht he hz hs hk hk0]
  exact h
theorem results_cells3 {fn : Func} {p q r : Tmp} (h : fn.results = #[.cell p 47, .cell q 3, .cell r 29]) (tmps : Array Value) (w : World) (a b c : Nat) (u v x : Value)
    (hp : tmps.getD p undef = .pointer (some ⟨a, 0, none⟩)) (hq : tmps.getD q undef = .pointer (some ⟨b, 0, none⟩)) (hr : tmps.getD r undef = .pointer (some ⟨c, 0, none⟩))
    (hu : w.cell? ⟨a, 0, none⟩ = some u) (hv : w.cell? ⟨b, 0, none⟩ = some v) (hx : w.cell? ⟨c, 0, none⟩ = some x) : (results fn tmps).run Tryd.prog w = .ok (.tuple #[u, v, x]) w := by
  have hp' : tmps[p]?.getD undef = .pointer (some ⟨a, 0, none⟩) := by simpa using hp
  have hq' : tmps[q]?.getD undef = .pointer (some ⟨b, 0, none⟩) := by simpa using hq
  have hr' : tmps[r]?.getD undef = .pointer (some ⟨c, 0, none⟩) := by simpa using hr
  have l1 : (loadVar 47 ⟨a, 0, none⟩).run Tryd.prog w = .ok u w := by
    unfold loadVar
    go_simp
  have l2 : (loadVar 3 ⟨b, 0, none⟩).run Tryd.prog w = .ok v w := by
    unfold loadVar
    go_simp
  have l3 : (loadVar 29 ⟨c, 0, none⟩).run Tryd.prog w = .ok x w := by
    unfold loadVar
    go_simp
  simp [results, h, hp', hq', hr', asAddr, l1, l2, l3]
theorem cell_setFar {W : World} {a b : Addr} {u v : Value} (h : W.cell? a = some v) (hne : a.block ≠ b.block) : (W.setCell b u).cell? a = some v := (World.cell?_of_block (Below.heap_setCell W b u a.block hne)).trans h
theorem end_next {w W' W6 w7 : World} {pre : List (List UInt8 × Bool)} {x : List UInt8 × Bool} {es : List EntP} {v : Value} {r : Option Obj} {t : List UInt8} (h : PState w pre W') (hk : ∀ k, k < w.heap.size + 8 → k ≠ w.heap.size + 3 → W6.heap[k]? = W'.heap[k]?)
    (hb : Below w.heap.size w W6) (hz : w.heap.size + 8 ≤ W6.heap.size) (h3 : Blk W6 (w.heap.size + 3) 47 #[v]) (hO : OwnE W6 (w.heap.size + 8) v es) (hb7 : Below W6.heap.size W6 w7) (hl : linesTo (pre ++ [x]) = some es)
    (hr : W'.heap[w.heap.size + 6 + 1]? = r) (hvt : LineVar W' (w.heap.size + 5) t) :
    (w7.setCell ⟨w.heap.size + 1 + 1 + 1 + 1, 0, none⟩ (.int .i64 ((pre.length : Int) + 1))).heap[w.heap.size + 6 + 1]? = r ∧ PState w (pre ++ [x]) (w7.setCell ⟨w.heap.size + 1 + 1 + 1 + 1, 0, none⟩ (.int .i64 ((pre.length : Int) + 1))) ∧ LineVar (w7.setCell ⟨w.heap.size + 1 + 1 + 1 + 1, 0, none⟩ (.int .i64 ((pre.length : Int) + 1))) (w.heap.size + 5) t := by
  have hsk : ∀ k, k ≠ w.heap.size + 4 → (w7.setCell ⟨w.heap.size + 1 + 1 + 1 + 1, 0, none⟩ (.int .i64 ((pre.length : Int) + 1))).heap[k]? = w7.heap[k]? := fun k hk => Below.heap_setCell w7 ⟨w.heap.size + 1 + 1 + 1 + 1, 0, none⟩ _ k (by show k ≠ w.heap.size + 1 + 1 + 1 + 1; omega)
  have hkk : ∀ k, k < w.heap.size + 8 → k ≠ w.heap.size + 3 → k ≠ w.heap.size + 4 → (w7.setCell ⟨w.heap.size + 1 + 1 + 1 + 1, 0, none⟩ (.int .i64 ((pre.length : Int) + 1))).heap[k]? = W'.heap[k]? := fun k h1 h2 h3 => (hsk k h3).trans ((hb7.block k (by omega)).trans (hk k h1 h2))
  have h4 : Blk w7 (w.heap.size + 4) 3 #[.int .i64 (pre.length : Int)] := (hb7.block _ (by omega)).trans ((hk _ (by omega) (by omega)).trans h.nv)
  refine ⟨(hkk _ (by omega) (by omega) (by omega)).trans hr, PState.next (v := v) h hkk ?_ ?_ ?_ (h4.set_ 0 _) ?_ hl, ?_⟩
  · exact ((hb.trans (hb7.mono hb.size))).setCell (by show w.heap.size ≤ w.heap.size + 1 + 1 + 1 + 1; omega) _
  · have := hb7.size
    simp
    omega
  · exact (hsk _ (by omega)).trans ((hb7.block _ (by omega)).trans h3)
  · exact hO.keeps ⟨by simp; exact hb7.size, fun i h1 h2 => (hsk i (by omega)).trans (hb7.block i h2)⟩
  · exact (hkk _ (by omega) (by omega) (by omega)).trans hvt
theorem end_stop {w W' w7 : World} {s : List UInt8} {n : Nat} {pre : List (List UInt8 × Bool)} {r : Option Obj} (h : PState w pre W') (hk : ∀ k, k < w.heap.size + 8 → k ≠ w.heap.size + 3 → w7.heap[k]? = W'.heap[k]?)
    (hb : Below w.heap.size w w7) (hz : w.heap.size + 8 ≤ w7.heap.size) (hp : parseGo [] 0 (linesL s) = .inr n) (hr : W'.heap[w.heap.size + 6 + 1]? = r) :
    (((w7.setCell ⟨w.heap.size, 0, none⟩ (.slice none 0 0)).setCell ⟨w.heap.size + 1, 0, none⟩ (.int .i64 (n : Int))).setCell ⟨w.heap.size + 1 + 1, 0, none⟩ (.int .i64 241)).heap[w.heap.size + 6 + 1]? = r ∧ PStop w s (((w7.setCell ⟨w.heap.size, 0, none⟩ (.slice none 0 0)).setCell ⟨w.heap.size + 1, 0, none⟩ (.int .i64 (n : Int))).setCell ⟨w.heap.size + 1 + 1, 0, none⟩ (.int .i64 241)) := by
  have hsk : ∀ k, k ≠ w.heap.size → k ≠ w.heap.size + 1 → k ≠ w.heap.size + 2 → (((w7.setCell ⟨w.heap.size, 0, none⟩ (.slice none 0 0)).setCell ⟨w.heap.size + 1, 0, none⟩ (.int .i64 (n : Int))).setCell ⟨w.heap.size + 1 + 1, 0, none⟩ (.int .i64 241)).heap[k]? = w7.heap[k]? := fun k h1 h2 h3 => by
    rw [Below.heap_setCell _ ⟨w.heap.size + 1 + 1, 0, none⟩ _ k (by show k ≠ w.heap.size + 1 + 1; omega), Below.heap_setCell _ ⟨w.heap.size + 1, 0, none⟩ _ k (by show k ≠ w.heap.size + 1; omega), Below.heap_setCell _ ⟨w.heap.size, 0, none⟩ _ k (by show k ≠ w.heap.size; omega)]
  have k0 : Blk w7 w.heap.size 47 #[.slice none 0 0] := (hk _ (by omega) (by omega)).trans h.res
  have k1 : Blk w7 (w.heap.size + 1) 3 #[.int .i64 0] := (hk _ (by omega) (by omega)).trans h.res1
  have k2 : Blk w7 (w.heap.size + 1 + 1) 29 #[.int .i64 0] := (hk _ (by omega) (by omega)).trans h.res2
  refine ⟨(hsk _ (by omega) (by omega) (by omega)).trans ((hk _ (by omega) (by omega)).trans hr), (hsk _ (by omega) (by omega) (by omega)).trans ((hk _ (by omega) (by omega)).trans h.dfr), ?_, n, hp, ?_, ?_, ?_⟩
  · exact ((hb.setCell (by show w.heap.size ≤ w.heap.size; omega) _).setCell (by show w.heap.size ≤ w.heap.size + 1; omega) _).setCell (by show w.heap.size ≤ w.heap.size + 1 + 1; omega) _
  · exact ((k0.set_ 0 _).far (p := ⟨w.heap.size + 1, 0, none⟩) (by show w.heap.size ≠ w.heap.size + 1; omega) _).far (p := ⟨w.heap.size + 1 + 1, 0, none⟩) (by show w.heap.size ≠ w.heap.size + 1 + 1; omega) _
  · exact ((k1.far (p := ⟨w.heap.size, 0, none⟩) (by show w.heap.size + 1 ≠ w.heap.size; omega) _).set_ 0 _).far (p := ⟨w.heap.size + 1 + 1, 0, none⟩) (by show w.heap.size + 1 ≠ w.heap.size + 1 + 1; omega) _
  · exact (((k2.far (p := ⟨w.heap.size, 0, none⟩) (by show w.heap.size + 1 + 1 ≠ w.heap.size; omega) _).far (p := ⟨w.heap.size + 1, 0, none⟩) (by show w.heap.size + 1 + 1 ≠ w.heap.size + 1; omega) _).set_ 0 _)
def ParseEndD (w : World) (s : List UInt8) (e : Ending) (w' : World) : Prop := Below w.heap.size w w' ∧
  match parseGo [] 0 (linesL s) with
  | .inl es => ∃ A c, e = .returned (.tuple #[.slice A es.length c, .int .i64 0, .int .i64 0]) ∧ RdE w' A es.length c es
  | .inr n => e = .returned (.tuple #[.slice none 0 0, .int .i64 (n : Int), .int .i64 241])
set_option maxRecDepth 100000 in
set_option maxHeartbeats 8000000 in
theorem Parse_calls (s : List UInt8) (w : World) (hs : s.length ≤ 1000000) (hL : LaidW w) :
    Calls Tryd.prog 30 #[.string (str s)] w (ParseEndD w s) := by
  have hss := Lib.hid (fun W => (callsIn_wide (n := 2)).2 (lines56_calls s W))
  have HL := Lib.hid hL
  clear hL
  refine (callsIn_wide (n := 3)).1 ?_
  refine callsIn_of_wp_marks Tryd.func30 rfl trivial ?_ rfl
  simp only [Tryd.ntmps30, List.size_toArray, List.length_cons, List.length_nil, Nat.reduceAdd, Nat.reduceSub, Array.replicate_succ, Array.replicate_zero, List.push_toArray, List.append_toArray, List.nil_append, List.cons_append]
  gi_wp2_with (refine ⟨trivial, ?_⟩; gi_at_call 56; refine (hss.out _).mono ?_; rintro e w1 ⟨rfl, rfl⟩)
  obtain ⟨W0, hW0⟩ : ∃ W0, ((((((w.alloc (.cells #[.slice none 0 0] 47)).alloc (.cells #[.int .i64 0] 3)).alloc (.cells #[.int .i64 0] 29)).alloc (.cells #[.slice none 0 0] 47)).alloc (.cells #[.int .i64 0] 3)).alloc (.cells #[.string (str s)] 9)) = W0 := ⟨_, rfl⟩
  rw [hW0]
  have hs0 : W0.heap.size = w.heap.size + 6 := by rw [← hW0]; simp
  have hv0 : LineVar W0 (w.heap.size + 5) s := by
    rw [← hW0]
    exact Blk.newN (by simp)
  have hp0 : Blk W0 w.heap.size 47 #[.slice none 0 0] ∧ Blk W0 (w.heap.size + 1) 3 #[.int .i64 0] ∧ Blk W0 (w.heap.size + 2) 29 #[.int .i64 0] ∧ Blk W0 (w.heap.size + 3) 47 #[.slice none 0 0] ∧ Blk W0 (w.heap.size + 4) 3 #[.int .i64 0] := by
    rw [← hW0]
    exact ⟨(((((Blk.newN rfl).alloc _).alloc _).alloc _).alloc _).alloc _, ((((Blk.newN (by simp)).alloc _).alloc _).alloc _).alloc _, (((Blk.newN (by simp)).alloc _).alloc _).alloc _, ((Blk.newN (by simp)).alloc _).alloc _, (Blk.newN (by simp)).alloc _⟩
  have hb0 : Below w.heap.size w W0 := by
    rw [← hW0]
    exact al (al (al (al (al (al (Below.refl _ _) _) _) _) _) _) _
  clear hW0 hss
  refine line_range (b := w.heap.size + 5) (by rfl) rfl s (by omega) hv0 (fun pre W' => PState w pre W') (fun _ W' => PStop w s W') ?_ ?_ ?_ ?_ ?_ ?_ ?_ ?_ ?_
  · intro pre W' o h
    rw [hs0]
    exact h.same rfl rfl rfl World.putObj_size (fun i _ h2 => World.putObj_heap_other h2)
  · rintro pre W' o ⟨h1, h2, n, h3, h4, h5, h6⟩
    rw [hs0]
    exact ⟨(World.putObj_heap_other (by omega)).trans h1, ⟨h2.os, h2.tape, h2.output, by rw [World.putObj_size]; exact h2.size, fun i hi => (World.putObj_heap_other (by omega)).trans (h2.block i hi)⟩, n, h3, putObj_block h4 (by omega), putObj_block h5 (by omega), putObj_block h6 (by omega)⟩
  · intro pre t' W' h
    have hb := Below.setCell (Below.refl 0 W') (p := ⟨w.heap.size + 5, 0, none⟩) (Nat.zero_le _) (.string (str t'))
    refine h.same hb.os hb.tape hb.output ?_ (fun i h1 _ => Below.heap_setCell W' ⟨w.heap.size + 5, 0, none⟩ _ i (by show i ≠ w.heap.size + 5; exact h1))
    simp
  · intro pre k W' h
    exact h.same rfl rfl rfl rfl (fun _ _ _ => rfl)
  · intro pre W' h
    exact (HL.out.below h.bel).max
  · intro o
    have hd := (Below.heap_alloc (W0.alloc (.deferred (some []))) o W0.heap.size (by simp)).trans (World.alloc_heap_new W0 (.deferred (some [])))
    rw [hs0] at hd
    exact ⟨hd, (hp0.1.alloc _).alloc _, (hp0.2.1.alloc _).alloc _, (hp0.2.2.1.alloc _).alloc _, (hp0.2.2.2.2.alloc _).alloc _, al (al hb0 _) _, by simp; omega, [], .slice none 0 0, rfl, (hp0.2.2.2.1.alloc _).alloc _, OwnE.nil _ _⟩
  · intro pre x rest t W' hx hS hvt ⟨r, hr⟩
    rw [hs0] at hr ⊢
    obtain ⟨line, whole⟩ := x
    have HX0 := Lib.hid hx
    have HS0 := Lib.hid hS
    clear hx hS
    refine ⟨?aa, fun W'' K hK => ?ass, ?body⟩
    case ass =>
      gi_wp2
      exact hK
    have hx := HX0.out
    have hS := HS0.out
    have hxl : line.length ≤ s.length := linesL_part s (line, whole) (by rw [hx]; simp)
    have hpl : pre.length ≤ 1000001 := by
      have h1 := linesL_len s
      rw [hx] at h1
      simp at h1
      omega
    obtain ⟨g1, g2, g3, g4, g5, g6, g7, es, v, g8, g9, g10⟩ := hS
    have hLW := HL.out.below g6
    obtain ⟨A, c, rfl, hrd⟩ := g10.reads
    have hcv := g9.cell 0
    have hsp := Lib.hid (CallsIn.inRound (w.heap.size + 7) ((callsIn_wide (n := 0)).2 (Split_calls line W' (by omega) hLW)))
    have hwl : (splitL 32 line).length ≤ 1000001 := by have := splitL_len 32 line; omega
    have hwp : ∀ y ∈ splitL 32 line, y.length ≤ 100000000 := fun y hy => by have := splitL_part2 32 line y hy; omega
    have hsml := linesTo_small _ pre es rfl g8
    have hstep : stepL es (line, whole) = match accL (splitL 32 line) with
      | some e => if whole = true ∧ risesB (es ++ [e]) es.length = true then some (es ++ [e]) else none
      | none => match slotL (splitL 32 line) with
        | none => none
        | some h => match es.getLast? with
          | none => none
          | some e => if whole = true ∧ holdsB (e.slots ++ [h]) e.slots.length = true then some (es.dropLast ++ [{ e with slots := e.slots ++ [h] }]) else none := rfl
    have HSTOP : Hid (stepL es (line, whole) = none → parseGo [] 0 (linesL s) = .inr pre.length) := fun h => parseGo_stop s pre rest (line, whole) es hx g8 h
    have HNEXT : Hid (∀ es', stepL es (line, whole) = some es' → linesTo (pre ++ [(line, whole)]) = some es') := fun es' h => by rw [linesTo_snoc, g8]; exact h
    generalize splitL 32 line = ws at *
    have HX := Lib.hid hx
    have H8 := Lib.hid g8
    have HRD := Lib.hid hrd
    have hW1 : Below W'.heap.size W' (W'.alloc (.cells (svs ws).toArray 9)) := al (Below.refl _ _) _
    have hcv1 : (W'.alloc (.cells (svs ws).toArray 9)).cell? ⟨w.heap.size + 3, 0, none⟩ = some (.slice A es.length c) := (cell_below' hW1 hcv)
    have hacc := accounted_calls ws W'.heap.size ws.length ws.length (W'.alloc (.cells (svs ws).toArray 9)) rfl (by omega) hwp (by simp) (fun j y hj => by
      rw [(Blk.newN (w := W') rfl).cell j, List.getElem?_toArray]
      unfold svs
      rw [List.getElem?_map, hj]; rfl) (hLW.below hW1)
    have hesI : (es.length : Int) ≤ 1000001 := by omega
    have hes0 : (0 : Int) ≤ (es.length : Int) := by omega
    have HWP := Lib.hid hwp
    clear hx g8 hrd hwp
    cases hac : accL ws with
    | some e =>
      rw [hac] at hstep
      simp only at hstep
      have hcall : Hid (CallsIn (Fence.wide.inRound (w.heap.size + 7)) 0 Tryd.prog 58 #[.slice (some ⟨W'.heap.size, 0, none⟩) ws.length ws.length] (W'.alloc (.cells (svs ws).toArray 9)) fun en w2 => Below (W'.alloc (.cells (svs ws).toArray 9)).heap.size (W'.alloc (.cells (svs ws).toArray 9)) w2 ∧ ∃ ve, en = .returned (.tuple #[.agg (ek e ve (.slice none 0 0)), .bool true]) ∧ e.Fit ∧ e.slots = [] ∧ OwnB w2 (W'.alloc (.cells (svs ws).toArray 9)).heap.size ve e.code) :=
        CallsIn.inRound _ ((callsIn_wide (n := 0)).2 (hacc.mono fun en w2 ⟨hb, h⟩ => ⟨hb, by
          rcases h with ⟨h1, _⟩ | ⟨e', v, h1, h2, h3, h4, h5⟩
          · rw [hac] at h1; cases h1
          · rw [hac] at h1
            obtain rfl := Option.some.inj h1
            exact ⟨v, h4, h2, h3, h5⟩⟩))
      have TE : Hid (∀ e c s, EntP.Fit e → AggT Tryd.prog 79 (ek e c s).size) := ek_aggS
      clear hacc hac
      have HG : Hid (g6.size = g6.size) := rfl
      have PUSH : Hid (∀ w2 ve, Below (W'.alloc (.cells (svs ws).toArray 9)).heap.size (W'.alloc (.cells (svs ws).toArray 9)) w2 → e.Fit → e.slots = [] → OwnB w2 (W'.alloc (.cells (svs ws).toArray 9)).heap.size ve e.code →
          ∃ A5 c5 w5, (Builtin.append_ #[47, 47] 47 #[.slice A es.length c, .slice (some ⟨(w2.alloc (.cells (ek e ve (.slice none 0 0)) 79)).heap.size, 0, none⟩) 1 1]).run Tryd.prog ((w2.alloc (.cells (ek e ve (.slice none 0 0)) 79)).alloc (.cells (ek e ve (.slice none 0 0)) 79)) = .ok (.slice A5 (es.length + 1) c5) w5 ∧
            OwnE w5 (w.heap.size + 8) (.slice A5 (es.length + 1) c5) (es ++ [e]) ∧ Below w.heap.size w w5 ∧ (∀ k, k < w.heap.size + 8 → w5.heap[k]? = W'.heap[k]?) ∧ w.heap.size + 8 ≤ w5.heap.size) := fun w2 ve hb2 hfit hsl ho2 => by
        have hb21 : Below W'.heap.size W' w2 := thn hW1 hb2
        have hb3 : Below W'.heap.size W' (w2.alloc (.cells (ek e ve (.slice none 0 0)) 79)) := al hb21 _
        have hB8 : w.heap.size + 8 ≤ (w2.alloc (.cells (ek e ve (.slice none 0 0)) 79)).heap.size := Nat.le_trans g7 hb3.size
        have hO3 := g10.keeps (KeepsLo.below (lo := w.heap.size + 8) hb3)
        obtain ⟨C, d, rfl, hrc⟩ := ho2.reads
        have hEnt : EntAt (w2.alloc (.cells (ek e (.slice C e.code.length d) (.slice none 0 0)) 79)) (w.heap.size + 8) (e, .slice C e.code.length d, .slice none 0 0) := ⟨hfit, ⟨C, _, d, rfl, hrc.alloc _, fun ad e1 => by
          subst e1
          rcases ho2.2 with ⟨h0, _⟩ | ⟨g0, cap0, cur0, e0, hg0, hh, _⟩
          · cases h0
          · injection e0 with e1
            injection e1 with e1
            subst e1
            have hlt : g0 < w2.heap.size := (Array.getElem?_eq_some_iff.1 hh).1
            have h1 := hW1.size
            exact ⟨by show w.heap.size + 8 ≤ g0; omega, by show g0 < _; rw [World.size_alloc]; omega, _, Blk.alloc (t := 5) hh _⟩⟩, by rw [hsl]; exact World.ownsRow_nil _ _ _ _⟩
        obtain ⟨v5, w5, hrun, hg5, hO5⟩ := push_run hO3 hB8 e _ hEnt (by omega) rfl
        obtain ⟨A5, c5, rfl, _⟩ := hO5.reads
        have hl5 : (es ++ [e]).length = es.length + 1 := by simp
        rw [hl5] at hrun hO5
        have hne : ∀ k, k < w.heap.size + 8 → some k ≠ (Value.slice A es.length c).ownBlock := fun k hk e1 => by
          obtain ⟨ps, _, hP⟩ := hO3
          have := (hP.row.lt k e1.symm).1
          omega
        have hb4 : Below W'.heap.size W' ((w2.alloc (.cells (ek e (.slice C e.code.length d) (.slice none 0 0)) 79)).alloc (.cells (ek e (.slice C e.code.length d) (.slice none 0 0)) 79)) := al hb3 _
        have hkeep : ∀ k, k < w.heap.size + 8 → w5.heap[k]? = W'.heap[k]? := fun k hk => (hg5.block k (by have := hb4.size; omega) (hne k hk)).trans (hb4.block k (by omega))
        exact ⟨A5, c5, w5, hrun, hO5, ⟨hg5.os.trans (hb4.os.trans g6.os), hg5.tape.trans (hb4.tape.trans g6.tape), hg5.output.trans (hb4.output.trans g6.output), Nat.le_trans g6.size (Nat.le_trans hb4.size hg5.size), fun k hk => (hkeep k (by omega)).trans (g6.block k hk)⟩, hkeep, Nat.le_trans g7 (Nat.le_trans hb4.size hg5.size)⟩
      have HV2 : Hid (∀ w2, Below (W'.alloc (.cells (svs ws).toArray 9)).heap.size (W'.alloc (.cells (svs ws).toArray 9)) w2 → ∀ o, (w2.alloc o).cell? ⟨w.heap.size + 3, 0, none⟩ = some (.slice A es.length c)) := fun w2 hb2 o => cell_below' (al (thn hW1 hb2) o) hcv
      have hris : Hid (∀ w5 A5 c5, OwnE w5 (w.heap.size + 8) (.slice A5 (es.length + 1) c5) (es ++ [e]) → CallsIn (Fence.wide.inRound (w.heap.size + 7)) 0 Tryd.prog 59 #[.slice A5 (es.length + 1) c5, .int .i64 (es.length : Int)] (w5.setCell ⟨w.heap.size + 3, 0, none⟩ (.slice A5 (es.length + 1) c5)) fun en w7 => en = .returned (.bool (risesB (es ++ [e]) es.length)) ∧ Below (w5.setCell ⟨w.heap.size + 3, 0, none⟩ (.slice A5 (es.length + 1) c5)).heap.size (w5.setCell ⟨w.heap.size + 3, 0, none⟩ (.slice A5 (es.length + 1) c5)) w7) := fun w5 A5 c5 hO5 => by
        have hO6 := hO5.keeps (w' := w5.setCell ⟨w.heap.size + 3, 0, none⟩ (.slice A5 (es.length + 1) c5)) ⟨by simp, fun k h1 _ => Below.heap_setCell w5 ⟨w.heap.size + 3, 0, none⟩ _ k (by show k ≠ w.heap.size + 3; omega)⟩
        obtain ⟨A6, c6, e6, hrd6⟩ := hO6.reads
        have hl5 : (es ++ [e]).length = es.length + 1 := by simp
        rw [hl5] at e6 hrd6
        injection e6 with e7 _ e8
        subst e7 e8
        exact CallsIn.inRound _ ((callsIn_wide (n := 0)).2 (rises_calls _ _ _ _ _ _ hrd6 (by omega)))
      have hplI : (0 : Int) ≤ (pre.length : Int) ∧ (pre.length : Int) ≤ 1000001 := by omega
      cases whole with
      | true =>
        cases hri : risesB (es ++ [e]) es.length with
        | true =>
          have HRIS := Lib.hid hri
          have HLT := Lib.hid (HNEXT.out (es ++ [e]) (by rw [hstep, if_pos ⟨rfl, hri⟩]))
          clear hri hstep
          gi_wp2_with (first | (refine ⟨trivial, ?_⟩; gi_at_call 57; refine hsp.out.mono ?_; rintro en w1 ⟨rfl, rfl⟩) | (refine ⟨trivial, ?_⟩; gi_at_call 58; refine hcall.out.mono ?_; rintro en w2 ⟨hb2, ve, rfl, hfit, hsl, ho2⟩; have hTe := Lib.hid (TE.out e ve (.slice none 0 0) hfit); have hOne := Lib.hid (ekAll e ve (own_one ho2)); have hcv2 := HV2.out w2 hb2; obtain ⟨A5, c5, w5, hrun0, hO5, hb5, hk5, hz5⟩ := PUSH.out w2 ve hb2 hfit hsl ho2; have hrun := Lib.hid hrun0; have HO5 := Lib.hid hO5; have HB5 := Lib.hid hb5; have HK5 := Lib.hid hk5; have h3 := (hk5 (w.heap.size + 3) (by omega)).trans g9; have c53 := Blk.cell (t := 47) h3 0; have f53 := Blk.frozen (t := 47) h3 0; have hS6 := Lib.hid (Blk.set_ (t := 47) h3 0 (.slice A5 (es.length + 1) c5)); have hTl := Lib.hid (ek_aggL e ve (.slice none 0 0) hfit); have hTs := Lib.hid (ek_size e ve (.slice none 0 0) hfit); clear hrun0 hO5 hb5 hk5 h3) | (refine inRoundStoreNew (o := ⟨none, .store 79 (.tmp 12) (.tmp 29), _, _, _, _⟩) (by rfl) rfl 79 (.tmp 12) _ rfl _ _ rfl (ek e ve (.slice none 0 0)) rfl hTe.out (by rw [ek_size _ _ _ hfit]; rfl) hOne.out ?_) | (refine inRoundLoadAgg (o := ⟨some 33, _, _, _, _, _⟩) (by rfl) 79 (.tmp 12) rfl w2.heap.size 0 rfl _ hTl.out (cellsAt_blk (Blk.new w2 79 _)) ?_) | (refine inRoundBuildSlice1 (o := ⟨some 34, _, _, _, _, _⟩) (by rfl) 47 79 55 (.tmp 33) rfl (ek e ve (.slice none 0 0)) rfl Tryd.underlying47 Tryd.agg79 (by kernel_rfl) hTs.out (by omega) (by omega) ?_) | (refine inRoundAppend (o := ⟨some 35, _, _, _, _, _⟩) (by rfl) (.tmp 32) (.tmp 34) 47 rfl rfl _ _ rfl rfl _ _ hrun.out ?_) | (refine ⟨trivial, ?_⟩; gi_at_call 59; refine (hris.out w5 A5 c5 HO5.out).mono ?_; rintro en w7 ⟨rfl, hb7⟩; have h4 := (hb7.block (w.heap.size + 4) (by simp; omega)).trans ((Below.heap_setCell w5 ⟨w.heap.size + 3, 0, none⟩ (.slice A5 (es.length + 1) c5) (w.heap.size + 4) (by show w.heap.size + 4 ≠ w.heap.size + 3; omega)).trans ((HK5.out (w.heap.size + 4) (by omega)).trans g5)); have c4 := Blk.cell (t := 3) h4 0; have f4 := Blk.frozen (t := 3) h4 0; have HB7 := Lib.hid hb7; have HS7 := Lib.hid (Blk.set_ (t := 3) h4 0 (.int .i64 ((pre.length : Int) + 1))); rw [HRIS.out]; clear hb7 h4))
          have hsk6 := Lib.hid (fun k (hk : k < w.heap.size + 8) (h3 : k ≠ w.heap.size + 3) => (Below.heap_setCell w5 ⟨w.heap.size + 1 + 1 + 1, 0, none⟩ (.slice A5 (es.length + 1) c5) k (by show k ≠ w.heap.size + 1 + 1 + 1; omega)).trans (HK5.out k hk))
          exact end_next HS0.out hsk6.out (HB5.out.setCell (by show w.heap.size ≤ w.heap.size + 1 + 1 + 1; omega) _) (by simp; omega) hS6.out (HO5.out.keeps ⟨by simp, fun i h1 _ => Below.heap_setCell w5 ⟨w.heap.size + 1 + 1 + 1, 0, none⟩ _ i (by show i ≠ w.heap.size + 1 + 1 + 1; omega)⟩) HB7.out HLT.out hr hvt
        | false =>
          have HRIS := Lib.hid hri
          have HPG := Lib.hid (HSTOP.out (by rw [hstep, if_neg (by rw [hri]; simp)]))
          clear hri hstep
          gi_wp2_with (first | (refine ⟨trivial, ?_⟩; gi_at_call 57; refine hsp.out.mono ?_; rintro en w1 ⟨rfl, rfl⟩) | (refine ⟨trivial, ?_⟩; gi_at_call 58; refine hcall.out.mono ?_; rintro en w2 ⟨hb2, ve, rfl, hfit, hsl, ho2⟩; have hTe := Lib.hid (TE.out e ve (.slice none 0 0) hfit); have hOne := Lib.hid (ekAll e ve (own_one ho2)); have hcv2 := HV2.out w2 hb2; obtain ⟨A5, c5, w5, hrun0, hO5, hb5, hk5, hz5⟩ := PUSH.out w2 ve hb2 hfit hsl ho2; have hrun := Lib.hid hrun0; have HO5 := Lib.hid hO5; have HB5 := Lib.hid hb5; have HK5 := Lib.hid hk5; have h3 := (hk5 (w.heap.size + 3) (by omega)).trans g9; have c53 := Blk.cell (t := 47) h3 0; have f53 := Blk.frozen (t := 47) h3 0; have hS6 := Lib.hid (Blk.set_ (t := 47) h3 0 (.slice A5 (es.length + 1) c5)); have hTl := Lib.hid (ek_aggL e ve (.slice none 0 0) hfit); have hTs := Lib.hid (ek_size e ve (.slice none 0 0) hfit); clear hrun0 hO5 hb5 hk5 h3) | (refine inRoundStoreNew (o := ⟨none, .store 79 (.tmp 12) (.tmp 29), _, _, _, _⟩) (by rfl) rfl 79 (.tmp 12) _ rfl _ _ rfl (ek e ve (.slice none 0 0)) rfl hTe.out (by rw [ek_size _ _ _ hfit]; rfl) hOne.out ?_) | (refine inRoundLoadAgg (o := ⟨some 33, _, _, _, _, _⟩) (by rfl) 79 (.tmp 12) rfl w2.heap.size 0 rfl _ hTl.out (cellsAt_blk (Blk.new w2 79 _)) ?_) | (refine inRoundBuildSlice1 (o := ⟨some 34, _, _, _, _, _⟩) (by rfl) 47 79 55 (.tmp 33) rfl (ek e ve (.slice none 0 0)) rfl Tryd.underlying47 Tryd.agg79 (by kernel_rfl) hTs.out (by omega) (by omega) ?_) | (refine inRoundAppend (o := ⟨some 35, _, _, _, _, _⟩) (by rfl) (.tmp 32) (.tmp 34) 47 rfl rfl _ _ rfl rfl _ _ hrun.out ?_) | (refine ⟨trivial, ?_⟩; gi_at_call 59; refine (hris.out w5 A5 c5 HO5.out).mono ?_; rintro en w7 ⟨rfl, hb7⟩; have h4 := (hb7.block (w.heap.size + 4) (by simp; omega)).trans ((Below.heap_setCell w5 ⟨w.heap.size + 3, 0, none⟩ (.slice A5 (es.length + 1) c5) (w.heap.size + 4) (by show w.heap.size + 4 ≠ w.heap.size + 3; omega)).trans ((HK5.out (w.heap.size + 4) (by omega)).trans g5)); have c4 := Blk.cell (t := 3) h4 0; have f4 := Blk.frozen (t := 3) h4 0; have HB7 := Lib.hid hb7; have HS7 := Lib.hid (Blk.set_ (t := 3) h4 0 (.int .i64 ((pre.length : Int) + 1))); rw [HRIS.out]; clear hb7 h4))
          have HKS : Hid (∀ k, k < w.heap.size + 8 → k ≠ w.heap.size + 3 → (w7).heap[k]? = W'.heap[k]?) := fun k hk h3 => (HB7.out.block k (by have := HB5.out.size; simp; omega)).trans ((Below.heap_setCell w5 ⟨w.heap.size + 1 + 1 + 1, 0, none⟩ (.slice A5 (es.length + 1) c5) k (by show k ≠ w.heap.size + 1 + 1 + 1; omega)).trans (HK5.out k hk))
          have HBS : Hid (Below w.heap.size w (w7)) := (HB5.out.setCell (by show w.heap.size ≤ w.heap.size + 1 + 1 + 1; omega) _).trans (HB7.out.mono (by simp; omega))
          have HZS : Hid (w.heap.size + 8 ≤ (w7).heap.size) := by have := HB7.out.size; simp at this; show w.heap.size + 8 ≤ w7.heap.size; omega
          obtain ⟨wz, rfl⟩ : ∃ wz, wz = w7 := ⟨_, rfl⟩
          have k0 : Blk wz w.heap.size 47 #[.slice none 0 0] := (HKS.out _ (by omega) (by omega)).trans g2
          have k1 : Blk wz (w.heap.size + 1) 3 #[.int .i64 0] := (HKS.out _ (by omega) (by omega)).trans g3
          have k2 : Blk wz (w.heap.size + 1 + 1) 29 #[.int .i64 0] := (HKS.out _ (by omega) (by omega)).trans g4
          have k4 : Blk wz (w.heap.size + 1 + 1 + 1 + 1) 3 #[.int .i64 (pre.length : Int)] := (HKS.out _ (by omega) (by omega)).trans g5
          have s0 := k0.cell 0
          have s1 := k1.cell 0
          have s2 := k2.cell 0
          have s4 := k4.cell 0
          have r0 := k0.frozen 0
          have r1 := k1.frozen 0
          have r2 := k2.frozen 0
          clear k0 k1 k2 k4
          have hmx : Tryd.prog.follows .mixedOrders = true := by kernel_rfl
          refine region_round (S := fun Wx => Wx.cell? ⟨w.heap.size + 1 + 1 + 1 + 1, 0, none⟩ = some (.int .i64 (pre.length : Int))) hmx (by kernel_rfl) ?nl s4 (fun hHeld => ?_)
          case nl => rintro ⟨a', w', hh⟩; obtain ⟨_, hh⟩ := hh; rcases hh with ⟨h, _⟩ | ⟨h, _⟩ <;> cases h
          refine wpAnyH_take (i := 0) (v := .int .i64 (pre.length : Int)) rfl (by kernel_rfl) (by kernel_rfl) (by kernel_rfl) (fun _ _ _ h => h) (.inl ⟨by rfl, fun W hS => by go_simp⟩) hHeld ?_
          simp only [Act.put, List.setIfInBounds_toArray, List.set_cons_zero, List.set_cons_succ, List.getElem_toArray, List.getElem_cons_succ, List.getElem_cons_zero]
          refine wpAnyH_ready (rs := [1]) (by kernel_rfl) (by simp) ?_
          refine AllReadyH.cons rfl (fun K hK => ?_) AllReadyH.nil
          go_simp
          refine hK.out _ _ (cell_setFar hHeld (by show w.heap.size + 1 + 1 + 1 + 1 ≠ w.heap.size; omega)) (fun hHeld => ?_)
          clear hK K
          refine wpAnyH_ready (rs := [2]) (by kernel_rfl) (by simp) ?_
          refine AllReadyH.cons rfl (fun K hK => ?_) AllReadyH.nil
          go_simp
          refine hK.out _ _ (cell_setFar hHeld (by show w.heap.size + 1 + 1 + 1 + 1 ≠ w.heap.size + 1; omega)) (fun hHeld => ?_)
          clear hK K
          refine wpAnyH_ready (rs := [3]) (by kernel_rfl) (by simp) ?_
          refine AllReadyH.cons rfl (fun K hK => ?_) AllReadyH.nil
          go_simp
          refine hK.out _ _ (cell_setFar hHeld (by show w.heap.size + 1 + 1 + 1 + 1 ≠ w.heap.size + 1 + 1; omega)) (fun hHeld => ?_)
          clear hK K
          refine wpAnyH_done (by kernel_rfl) ?_ _
          clear hHeld
          gi_wp2
          have hst := end_stop HS0.out HKS.out HBS.out HZS.out HPG.out hr
          exact ⟨hst.1, hst.2.drew⟩
      | false =>
        have HPG := Lib.hid (HSTOP.out (by rw [hstep, if_neg (by simp)]))
        clear hstep
        gi_wp2_with (first | (refine ⟨trivial, ?_⟩; gi_at_call 57; refine hsp.out.mono ?_; rintro en w1 ⟨rfl, rfl⟩) | (refine ⟨trivial, ?_⟩; gi_at_call 58; refine hcall.out.mono ?_; rintro en w2 ⟨hb2, ve, rfl, hfit, hsl, ho2⟩; have hTe := Lib.hid (TE.out e ve (.slice none 0 0) hfit); have hOne := Lib.hid (ekAll e ve (own_one ho2)); have hcv2 := HV2.out w2 hb2; obtain ⟨A5, c5, w5, hrun0, hO5, hb5, hk5, hz5⟩ := PUSH.out w2 ve hb2 hfit hsl ho2; have hrun := Lib.hid hrun0; have HO5 := Lib.hid hO5; have HB5 := Lib.hid hb5; have HK5 := Lib.hid hk5; have h3 := (hk5 (w.heap.size + 3) (by omega)).trans g9; have c53 := Blk.cell (t := 47) h3 0; have f53 := Blk.frozen (t := 47) h3 0; have hS6 := Lib.hid (Blk.set_ (t := 47) h3 0 (.slice A5 (es.length + 1) c5)); have hTl := Lib.hid (ek_aggL e ve (.slice none 0 0) hfit); have hTs := Lib.hid (ek_size e ve (.slice none 0 0) hfit); clear hrun0 hO5 hb5 hk5 h3) | (refine inRoundStoreNew (o := ⟨none, .store 79 (.tmp 12) (.tmp 29), _, _, _, _⟩) (by rfl) rfl 79 (.tmp 12) _ rfl _ _ rfl (ek e ve (.slice none 0 0)) rfl hTe.out (by rw [ek_size _ _ _ hfit]; rfl) hOne.out ?_) | (refine inRoundLoadAgg (o := ⟨some 33, _, _, _, _, _⟩) (by rfl) 79 (.tmp 12) rfl w2.heap.size 0 rfl _ hTl.out (cellsAt_blk (Blk.new w2 79 _)) ?_) | (refine inRoundBuildSlice1 (o := ⟨some 34, _, _, _, _, _⟩) (by rfl) 47 79 55 (.tmp 33) rfl (ek e ve (.slice none 0 0)) rfl Tryd.underlying47 Tryd.agg79 (by kernel_rfl) hTs.out (by omega) (by omega) ?_) | (refine inRoundAppend (o := ⟨some 35, _, _, _, _, _⟩) (by rfl) (.tmp 32) (.tmp 34) 47 rfl rfl _ _ rfl rfl _ _ hrun.out ?_) | (refine ⟨trivial, ?_⟩))
        have HKS : Hid (∀ k, k < w.heap.size + 8 → k ≠ w.heap.size + 3 → (w5.setCell ⟨w.heap.size + 1 + 1 + 1, 0, none⟩ (.slice A5 (es.length + 1) c5)).heap[k]? = W'.heap[k]?) := fun k hk h3 => (Below.heap_setCell w5 ⟨w.heap.size + 1 + 1 + 1, 0, none⟩ (.slice A5 (es.length + 1) c5) k (by show k ≠ w.heap.size + 1 + 1 + 1; omega)).trans (HK5.out k hk)
        have HBS : Hid (Below w.heap.size w (w5.setCell ⟨w.heap.size + 1 + 1 + 1, 0, none⟩ (.slice A5 (es.length + 1) c5))) := HB5.out.setCell (by show w.heap.size ≤ w.heap.size + 1 + 1 + 1; omega) _
        have HZS : Hid (w.heap.size + 8 ≤ (w5.setCell ⟨w.heap.size + 1 + 1 + 1, 0, none⟩ (.slice A5 (es.length + 1) c5)).heap.size) := by show w.heap.size + 8 ≤ (w5.setCell ⟨w.heap.size + 1 + 1 + 1, 0, none⟩ (.slice A5 (es.length + 1) c5)).heap.size; simp; omega
        generalize w5.setCell ⟨w.heap.size + 1 + 1 + 1, 0, none⟩ (.slice A5 (es.length + 1) c5) = wz at *
        have k0 : Blk wz w.heap.size 47 #[.slice none 0 0] := (HKS.out _ (by omega) (by omega)).trans g2
        have k1 : Blk wz (w.heap.size + 1) 3 #[.int .i64 0] := (HKS.out _ (by omega) (by omega)).trans g3
        have k2 : Blk wz (w.heap.size + 1 + 1) 29 #[.int .i64 0] := (HKS.out _ (by omega) (by omega)).trans g4
        have k4 : Blk wz (w.heap.size + 1 + 1 + 1 + 1) 3 #[.int .i64 (pre.length : Int)] := (HKS.out _ (by omega) (by omega)).trans g5
        have s0 := k0.cell 0
        have s1 := k1.cell 0
        have s2 := k2.cell 0
        have s4 := k4.cell 0
        have r0 := k0.frozen 0
        have r1 := k1.frozen 0
        have r2 := k2.frozen 0
        clear k0 k1 k2 k4
        have hmx : Tryd.prog.follows .mixedOrders = true := by kernel_rfl
        refine region_round (S := fun Wx => Wx.cell? ⟨w.heap.size + 1 + 1 + 1 + 1, 0, none⟩ = some (.int .i64 (pre.length : Int))) hmx (by kernel_rfl) ?nl s4 (fun hHeld => ?_)
        case nl => rintro ⟨a', w', hh⟩; obtain ⟨_, hh⟩ := hh; rcases hh with ⟨h, _⟩ | ⟨h, _⟩ <;> cases h
        refine wpAnyH_take (i := 0) (v := .int .i64 (pre.length : Int)) rfl (by kernel_rfl) (by kernel_rfl) (by kernel_rfl) (fun _ _ _ h => h) (.inl ⟨by rfl, fun W hS => by go_simp⟩) hHeld ?_
        simp only [Act.put, List.setIfInBounds_toArray, List.set_cons_zero, List.set_cons_succ, List.getElem_toArray, List.getElem_cons_succ, List.getElem_cons_zero]
        refine wpAnyH_ready (rs := [1]) (by kernel_rfl) (by simp) ?_
        refine AllReadyH.cons rfl (fun K hK => ?_) AllReadyH.nil
        go_simp
        refine hK.out _ _ (cell_setFar hHeld (by show w.heap.size + 1 + 1 + 1 + 1 ≠ w.heap.size; omega)) (fun hHeld => ?_)
        clear hK K
        refine wpAnyH_ready (rs := [2]) (by kernel_rfl) (by simp) ?_
        refine AllReadyH.cons rfl (fun K hK => ?_) AllReadyH.nil
        go_simp
        refine hK.out _ _ (cell_setFar hHeld (by show w.heap.size + 1 + 1 + 1 + 1 ≠ w.heap.size + 1; omega)) (fun hHeld => ?_)
        clear hK K
        refine wpAnyH_ready (rs := [3]) (by kernel_rfl) (by simp) ?_
        refine AllReadyH.cons rfl (fun K hK => ?_) AllReadyH.nil
        go_simp
        refine hK.out _ _ (cell_setFar hHeld (by show w.heap.size + 1 + 1 + 1 + 1 ≠ w.heap.size + 1 + 1; omega)) (fun hHeld => ?_)
        clear hK K
        refine wpAnyH_done (by kernel_rfl) ?_ _
        clear hHeld
        gi_wp2
        have hst := end_stop HS0.out HKS.out HBS.out HZS.out HPG.out hr
        exact ⟨hst.1, hst.2.drew⟩
    | none =>
      rw [hac] at hstep
      simp only at hstep
      have hcall : Hid (CallsIn (Fence.wide.inRound (w.heap.size + 7)) 0 Tryd.prog 58 #[.slice (some ⟨W'.heap.size, 0, none⟩) ws.length ws.length] (W'.alloc (.cells (svs ws).toArray 9)) fun en w2 => Below (W'.alloc (.cells (svs ws).toArray 9)).heap.size (W'.alloc (.cells (svs ws).toArray 9)) w2 ∧ ∃ cs : Array Value, cs.size = 55 ∧ AllOne cs.toList ∧ en = .returned (.tuple #[.agg cs, .bool false])) :=
        CallsIn.inRound _ ((callsIn_wide (n := 0)).2 (hacc.mono fun en w2 ⟨hb, h⟩ => ⟨hb, by
          rcases h with ⟨_, h⟩ | ⟨e', v, h1, _⟩
          · exact h
          · rw [hac] at h1; cases h1⟩))
      have hwc : ∀ (j : Nat) y, ws[j]? = some y → (W'.alloc (.cells (svs ws).toArray 9)).cell? ⟨W'.heap.size, j, none⟩ = some (.string (str y)) := fun j y hj => by
        rw [(Blk.newN (w := W') rfl).cell j, List.getElem?_toArray]
        unfold svs
        rw [List.getElem?_map, hj]; rfl
      have hslt : ∀ w2, Below (W'.alloc (.cells (svs ws).toArray 9)).heap.size (W'.alloc (.cells (svs ws).toArray 9)) w2 → ∀ cs : Array Value, Calls Tryd.prog 60 #[.slice (some ⟨W'.heap.size, 0, none⟩) ws.length ws.length] (w2.alloc (.cells cs 79)) (SlEnd (w2.alloc (.cells cs 79)) ws) := fun w2 hb2 cs => slotted_calls ws W'.heap.size ws.length ws.length _ rfl (by omega) HWP.out (by have := hb2.size; simp at this ⊢; omega) (fun j y hj => cell_below' (al (Below.refl _ w2) _) (cell_below' hb2 (hwc j y hj)))
      have HV2 : Hid (∀ w2, Below (W'.alloc (.cells (svs ws).toArray 9)).heap.size (W'.alloc (.cells (svs ws).toArray 9)) w2 → ∀ o, (w2.alloc o).cell? ⟨w.heap.size + 3, 0, none⟩ = some (.slice A es.length c)) := fun w2 hb2 o => cell_below' (al (thn hW1 hb2) o) hcv
      clear hacc hac hwc
      cases hsl : slotL ws with
      | none =>
        rw [hsl] at hstep
        have HPG := Lib.hid (HSTOP.out hstep)
        have hcl2 : Hid (∀ w2, Below (W'.alloc (.cells (svs ws).toArray 9)).heap.size (W'.alloc (.cells (svs ws).toArray 9)) w2 → ∀ cs : Array Value, CallsIn (Fence.wide.inRound (w.heap.size + 7)) 0 Tryd.prog 60 #[.slice (some ⟨W'.heap.size, 0, none⟩) ws.length ws.length] (w2.alloc (.cells cs 79)) fun en w4 => Below (w2.alloc (.cells cs 79)).heap.size (w2.alloc (.cells cs 79)) w4 ∧ ∃ cs2 : Array Value, cs2.size = 64 ∧ AllOne cs2.toList ∧ en = .returned (.tuple #[.agg cs2, .bool false])) := fun w2 hb2 cs =>
          CallsIn.inRound _ ((callsIn_wide (n := 0)).2 ((hslt w2 hb2 cs).mono fun en w4 ⟨hb, h⟩ => ⟨hb, by
            rcases h with ⟨_, h⟩ | ⟨h', h1, _⟩
            · exact h
            · rw [hsl] at h1; cases h1⟩))
        clear hstep hslt hsl
        gi_wp2_with (first | (refine ⟨trivial, ?_⟩; gi_at_call 57; refine hsp.out.mono ?_; rintro en w1 ⟨rfl, rfl⟩) | (refine ⟨trivial, ?_⟩; gi_at_call 58; refine hcall.out.mono ?_; rintro en w2 ⟨hb2, cs, hcs, hone, rfl⟩; have HCS := Lib.hid hcs; have HON := Lib.hid hone; have hTe : Hid (AggT Tryd.prog 79 cs.size) := (by rw [hcs]; exact Tryd.agg79); clear hcs hone) | (refine inRoundStoreNew (o := ⟨none, .store 79 (.tmp 12) (.tmp 29), _, _, _, _⟩) (by rfl) rfl 79 (.tmp 12) _ rfl _ _ rfl cs rfl hTe.out (by rw [HCS.out]; rfl) HON.out ?_) | (refine ⟨trivial, ?_⟩; gi_at_call 60; refine (hcl2.out w2 hb2 cs).mono ?_; rintro en w4 ⟨hb4, cs2, hcs2, hone2, rfl⟩; have HCS2 := Lib.hid hcs2; have HON2 := Lib.hid hone2; have hTe2 : Hid (AggT Tryd.prog 95 cs2.size) := (by rw [hcs2]; exact Tryd.agg95); clear hcs2 hone2) | (refine inRoundStoreNew (o := ⟨none, .store 95 (.tmp 14) (.tmp 46), _, _, _, _⟩) (by rfl) rfl 95 (.tmp 14) _ rfl _ _ rfl cs2 rfl hTe2.out (by rw [HCS2.out]; rfl) HON2.out ?_))
        have hb4W : Below W'.heap.size W' (w4.alloc (.cells cs2 95)) := al (thn (al (thn hW1 hb2) _) hb4) _
        have HKS : Hid (∀ k, k < w.heap.size + 8 → k ≠ w.heap.size + 3 → (w4.alloc (.cells cs2 95)).heap[k]? = W'.heap[k]?) := fun k hk _ => hb4W.block k (by omega)
        have HBS : Hid (Below w.heap.size w (w4.alloc (.cells cs2 95))) := thn g6 hb4W
        have HZS : Hid (w.heap.size + 8 ≤ (w4.alloc (.cells cs2 95)).heap.size) := Nat.le_trans g7 hb4W.size
        clear hb4W
        generalize w4.alloc (.cells cs2 95) = wz at *
        have k0 : Blk wz w.heap.size 47 #[.slice none 0 0] := (HKS.out _ (by omega) (by omega)).trans g2
        have k1 : Blk wz (w.heap.size + 1) 3 #[.int .i64 0] := (HKS.out _ (by omega) (by omega)).trans g3
        have k2 : Blk wz (w.heap.size + 1 + 1) 29 #[.int .i64 0] := (HKS.out _ (by omega) (by omega)).trans g4
        have k4 : Blk wz (w.heap.size + 1 + 1 + 1 + 1) 3 #[.int .i64 (pre.length : Int)] := (HKS.out _ (by omega) (by omega)).trans g5
        have s0 := k0.cell 0
        have s1 := k1.cell 0
        have s2 := k2.cell 0
        have s4 := k4.cell 0
        have r0 := k0.frozen 0
        have r1 := k1.frozen 0
        have r2 := k2.frozen 0
        clear k0 k1 k2 k4
        have hmx : Tryd.prog.follows .mixedOrders = true := by kernel_rfl
        refine region_round (S := fun Wx => Wx.cell? ⟨w.heap.size + 1 + 1 + 1 + 1, 0, none⟩ = some (.int .i64 (pre.length : Int))) hmx (by kernel_rfl) ?nl s4 (fun hHeld => ?_)
        case nl => rintro ⟨a', w', hh⟩; obtain ⟨_, hh⟩ := hh; rcases hh with ⟨h, _⟩ | ⟨h, _⟩ <;> cases h
        refine wpAnyH_take (i := 0) (v := .int .i64 (pre.length : Int)) rfl (by kernel_rfl) (by kernel_rfl) (by kernel_rfl) (fun _ _ _ h => h) (.inl ⟨by rfl, fun W hS => by go_simp⟩) hHeld ?_
        simp only [Act.put, List.setIfInBounds_toArray, List.set_cons_zero, List.set_cons_succ, List.getElem_toArray, List.getElem_cons_succ, List.getElem_cons_zero]
        refine wpAnyH_ready (rs := [1]) (by kernel_rfl) (by simp) ?_
        refine AllReadyH.cons rfl (fun K hK => ?_) AllReadyH.nil
        go_simp
        refine hK.out _ _ (cell_setFar hHeld (by show w.heap.size + 1 + 1 + 1 + 1 ≠ w.heap.size; omega)) (fun hHeld => ?_)
        clear hK K
        refine wpAnyH_ready (rs := [2]) (by kernel_rfl) (by simp) ?_
        refine AllReadyH.cons rfl (fun K hK => ?_) AllReadyH.nil
        go_simp
        refine hK.out _ _ (cell_setFar hHeld (by show w.heap.size + 1 + 1 + 1 + 1 ≠ w.heap.size + 1; omega)) (fun hHeld => ?_)
        clear hK K
        refine wpAnyH_ready (rs := [3]) (by kernel_rfl) (by simp) ?_
        refine AllReadyH.cons rfl (fun K hK => ?_) AllReadyH.nil
        go_simp
        refine hK.out _ _ (cell_setFar hHeld (by show w.heap.size + 1 + 1 + 1 + 1 ≠ w.heap.size + 1 + 1; omega)) (fun hHeld => ?_)
        clear hK K
        refine wpAnyH_done (by kernel_rfl) ?_ _
        clear hHeld
        gi_wp2
        have hst := end_stop HS0.out HKS.out HBS.out HZS.out HPG.out hr
        exact ⟨hst.1, hst.2.drew⟩
      | some h =>
        rw [hsl] at hstep
        simp only at hstep
        have hcl2 : Hid (∀ w2, Below (W'.alloc (.cells (svs ws).toArray 9)).heap.size (W'.alloc (.cells (svs ws).toArray 9)) w2 → ∀ cs : Array Value, CallsIn (Fence.wide.inRound (w.heap.size + 7)) 0 Tryd.prog 60 #[.slice (some ⟨W'.heap.size, 0, none⟩) ws.length ws.length] (w2.alloc (.cells cs 79)) fun en w4 => Below (w2.alloc (.cells cs 79)).heap.size (w2.alloc (.cells cs 79)) w4 ∧ en = .returned (.tuple #[.agg (hk h).toArray, .bool true])) := fun w2 hb2 cs =>
          CallsIn.inRound _ ((callsIn_wide (n := 0)).2 ((hslt w2 hb2 cs).mono fun en w4 ⟨hb, h0⟩ => ⟨hb, by
            rcases h0 with ⟨h1, _⟩ | ⟨h', h1, _, h2⟩
            · rw [hsl] at h1; cases h1
            · rw [hsl] at h1
              obtain rfl := Option.some.inj h1
              exact h2⟩))
        have hfh := slotL_fit hsl
        have hTh : Hid (AggT Tryd.prog 95 (hk h).toArray.size) := by rw [List.size_toArray, hk_length h hfh]; exact Tryd.agg95
        have HZh : Hid ((hk h).toArray.size = 64) := by rw [List.size_toArray, hk_length h hfh]; trivial
        clear hslt hsl
        by_cases hne : es = []
        · subst hne
          have HPG := Lib.hid (HSTOP.out (by rw [hstep]; rfl))
          clear hstep
          gi_wp2_with (first | (refine ⟨trivial, ?_⟩; gi_at_call 57; refine hsp.out.mono ?_; rintro en w1 ⟨rfl, rfl⟩) | (refine ⟨trivial, ?_⟩; gi_at_call 58; refine hcall.out.mono ?_; rintro en w2 ⟨hb2, cs, hcs, hone, rfl⟩; have HCS := Lib.hid hcs; have HON := Lib.hid hone; have hTe : Hid (AggT Tryd.prog 79 cs.size) := (by rw [hcs]; exact Tryd.agg79); clear hcs hone) | (refine inRoundStoreNew (o := ⟨none, .store 79 (.tmp 12) (.tmp 29), _, _, _, _⟩) (by rfl) rfl 79 (.tmp 12) _ rfl _ _ rfl cs rfl hTe.out (by rw [HCS.out]; rfl) HON.out ?_) | (refine ⟨trivial, ?_⟩; gi_at_call 60; refine (hcl2.out w2 hb2 cs).mono ?_; rintro en w4 ⟨hb4, rfl⟩) | (refine inRoundStoreNew (o := ⟨none, .store 95 (.tmp 14) (.tmp 46), _, _, _, _⟩) (by rfl) rfl 95 (.tmp 14) _ rfl _ _ rfl (hk h).toArray rfl hTh.out (by rw [HZh.out]; rfl) (hk_one h) ?_))
          have hb4W : Below W'.heap.size W' (w4.alloc (.cells (hk h).toArray 95)) := al (thn (al (thn hW1 hb2) _) hb4) _
          have HKS : Hid (∀ k, k < w.heap.size + 8 → k ≠ w.heap.size + 3 → (w4.alloc (.cells (hk h).toArray 95)).heap[k]? = W'.heap[k]?) := fun k hk _ => hb4W.block k (by omega)
          have HBS : Hid (Below w.heap.size w (w4.alloc (.cells (hk h).toArray 95))) := thn g6 hb4W
          have HZS : Hid (w.heap.size + 8 ≤ (w4.alloc (.cells (hk h).toArray 95)).heap.size) := Nat.le_trans g7 hb4W.size
          clear hb4W
          generalize w4.alloc (.cells (hk h).toArray 95) = wz at *
          have k0 : Blk wz w.heap.size 47 #[.slice none 0 0] := (HKS.out _ (by omega) (by omega)).trans g2
          have k1 : Blk wz (w.heap.size + 1) 3 #[.int .i64 0] := (HKS.out _ (by omega) (by omega)).trans g3
          have k2 : Blk wz (w.heap.size + 1 + 1) 29 #[.int .i64 0] := (HKS.out _ (by omega) (by omega)).trans g4
          have k4 : Blk wz (w.heap.size + 1 + 1 + 1 + 1) 3 #[.int .i64 (pre.length : Int)] := (HKS.out _ (by omega) (by omega)).trans g5
          have s0 := k0.cell 0
          have s1 := k1.cell 0
          have s2 := k2.cell 0
          have s4 := k4.cell 0
          have r0 := k0.frozen 0
          have r1 := k1.frozen 0
          have r2 := k2.frozen 0
          clear k0 k1 k2 k4
          have hmx : Tryd.prog.follows .mixedOrders = true := by kernel_rfl
          refine region_round (S := fun Wx => Wx.cell? ⟨w.heap.size + 1 + 1 + 1 + 1, 0, none⟩ = some (.int .i64 (pre.length : Int))) hmx (by kernel_rfl) ?nl s4 (fun hHeld => ?_)
          case nl => rintro ⟨a', w', hh⟩; obtain ⟨_, hh⟩ := hh; rcases hh with ⟨h, _⟩ | ⟨h, _⟩ <;> cases h
          refine wpAnyH_take (i := 0) (v := .int .i64 (pre.length : Int)) rfl (by kernel_rfl) (by kernel_rfl) (by kernel_rfl) (fun _ _ _ h => h) (.inl ⟨by rfl, fun W hS => by go_simp⟩) hHeld ?_
          simp only [Act.put, List.setIfInBounds_toArray, List.set_cons_zero, List.set_cons_succ, List.getElem_toArray, List.getElem_cons_succ, List.getElem_cons_zero]
          refine wpAnyH_ready (rs := [1]) (by kernel_rfl) (by simp) ?_
          refine AllReadyH.cons rfl (fun K hK => ?_) AllReadyH.nil
          go_simp
          refine hK.out _ _ (cell_setFar hHeld (by show w.heap.size + 1 + 1 + 1 + 1 ≠ w.heap.size; omega)) (fun hHeld => ?_)
          clear hK K
          refine wpAnyH_ready (rs := [2]) (by kernel_rfl) (by simp) ?_
          refine AllReadyH.cons rfl (fun K hK => ?_) AllReadyH.nil
          go_simp
          refine hK.out _ _ (cell_setFar hHeld (by show w.heap.size + 1 + 1 + 1 + 1 ≠ w.heap.size + 1; omega)) (fun hHeld => ?_)
          clear hK K
          refine wpAnyH_ready (rs := [3]) (by kernel_rfl) (by simp) ?_
          refine AllReadyH.cons rfl (fun K hK => ?_) AllReadyH.nil
          go_simp
          refine hK.out _ _ (cell_setFar hHeld (by show w.heap.size + 1 + 1 + 1 + 1 ≠ w.heap.size + 1 + 1; omega)) (fun hHeld => ?_)
          clear hK K
          refine wpAnyH_done (by kernel_rfl) ?_ _
          clear hHeld
          gi_wp2
          have hst := end_stop HS0.out HKS.out HBS.out HZS.out HPG.out hr
          exact ⟨hst.1, hst.2.drew⟩
        · obtain ⟨init, p, g, cap, hes, hv, hP, hcg, hfg, hBg, hgl, hle, hcm⟩ := last_ent g10 hne
          injection hv with hv1 hv2 hv3
          subst hv1 hv3
          have hgl2 : es.getLast? = some p.1 := by rw [hes]; simp
          have hdl : es.dropLast = init.map (·.1) := by rw [hes]; simp
          have hpm : p.1 ∈ es := by rw [hes]; simp
          have hsl := hsml.2 p.1 hpm
          have hp := hP.ents p (by simp)
          rw [hgl2] at hstep
          simp only at hstep
          rw [hdl] at hstep
          have hnI : (0 : Int) ≤ (init.length : Int) ∧ (init.length : Int) ≤ 1000001 := by omega
          rw [hv2] at hcv hcv1 HV2 g9 hP
          have SRUN : Hid (∀ w4, Below W'.heap.size W' w4 → ∃ A2 c2 w5, (Builtin.append_ #[77, 77] 77 #[p.2.2, .slice (some ⟨w4.heap.size + 1, 0, none⟩) 1 1]).run Tryd.prog ((w4.alloc (.cells (hk h).toArray 95)).alloc (.cells (hk h).toArray 95)).drew = .ok (.slice A2 (p.1.slots.length + 1) c2) w5 ∧
              w5.cell? ⟨g, init.length * 55 + 54, none⟩ = some p.2.2 ∧ w5.frozen? ⟨g, init.length * 55 + 54, none⟩ = false ∧
              OwnE (w5.setCell ⟨g, init.length * 55 + 54, none⟩ (.slice A2 (p.1.slots.length + 1) c2)) (w.heap.size + 8) (.slice (some ⟨g, 0, none⟩) (init.length + 1) c) (init.map (·.1) ++ [{ p.1 with slots := p.1.slots ++ [h] }]) ∧
              RdS (w5.setCell ⟨g, init.length * 55 + 54, none⟩ (.slice A2 (p.1.slots.length + 1) c2)) A2 (p.1.slots.length + 1) c2 (p.1.slots ++ [h]) ∧
              Below w.heap.size w w5 ∧ (∀ k, k < w.heap.size + 8 → w5.heap[k]? = W'.heap[k]?) ∧ w.heap.size + 8 ≤ w5.heap.size ∧ CellsAt w5 w4.heap.size 0 (hk h) ∧ (w5.setCell ⟨g, init.length * 55 + 54, none⟩ (.slice A2 (p.1.slots.length + 1) c2)).cell? ⟨g, init.length * 55 + 54, none⟩ = some (.slice A2 (p.1.slots.length + 1) c2)) := fun w4 hb4 => by
            have hb6 : Below W'.heap.size W' ((w4.alloc (.cells (hk h).toArray 95)).alloc (.cells (hk h).toArray 95)).drew := (al (al hb4 _) _).drew
            have hN : Blk ((w4.alloc (.cells (hk h).toArray 95)).alloc (.cells (hk h).toArray 95)).drew (w4.heap.size + 1) 95 (hk h).toArray := by
              have := Blk.new (w4.alloc (.cells (hk h).toArray 95)) 95 (hk h).toArray
              rw [World.size_alloc] at this
              exact this
            have hM : Blk ((w4.alloc (.cells (hk h).toArray 95)).alloc (.cells (hk h).toArray 95)).drew w4.heap.size 95 (hk h).toArray := (Blk.new w4 95 (hk h).toArray).alloc _
            obtain ⟨s2, w5, hrun, r2, rB, rc, rf, ⟨A2, m2, c2, hs2⟩, hP6⟩ := slot_run hP g7 hfh (show p.1.slots.length ≤ 100000000 by omega) (KeepsLo.below hb6) hN
            have hp6 := hP6.ents ({ p.1 with slots := p.1.slots ++ [h] }, p.2.1, s2) (by simp)
            obtain ⟨A3, c3, e3, hrs⟩ := slots_read hp6.slots hp6.fit.hs
            simp only at e3 hrs
            have hl1 : (p.1.slots ++ [h]).length = p.1.slots.length + 1 := by simp
            rw [hl1] at e3 hrs
            subst e3
            have hne5 : ∀ k, k < w.heap.size + 8 → some k ≠ p.2.2.ownBlock := fun k hk e1 => by
              have := rB k e1.symm
              omega
            have hkeep : ∀ k, k < w.heap.size + 8 → w5.heap[k]? = W'.heap[k]? := fun k hk => (r2.block k (by have := hb6.size; omega) (hne5 k hk)).trans (hb6.block k (by omega))
            refine ⟨A3, c3, w5, hrun, rc, rf, ⟨_, by simp, hP6⟩, hrs, ⟨r2.os.trans (hb6.os.trans g6.os), r2.tape.trans (hb6.tape.trans g6.tape), r2.output.trans (hb6.output.trans g6.output), Nat.le_trans g6.size (Nat.le_trans hb6.size r2.size), fun k hk => (hkeep k (by omega)).trans (g6.block k hk)⟩, hkeep, Nat.le_trans g7 (Nat.le_trans hb6.size r2.size), ?_⟩
            have hlt4 := hM.lt
            have hM5 : Blk w5 w4.heap.size 95 (hk h).toArray := (r2.block _ hlt4 (fun e1 => by
              have := (hp.slots.lt _ e1.symm).2
              have := hb4.size
              omega)).trans hM
            refine ⟨cellsAt_blk hM5, ?_⟩
            have hrow6 := hP6.row
            rw [show (init ++ [({ p.1 with slots := p.1.slots ++ [h] }, p.2.1, .slice A3 (p.1.slots.length + 1) c3)] : List PE).length = init.length + 1 by simp] at hrow6
            rw [World.ownsRow.cellAt hrow6 _ (by omega), flat_get fE 55 _ init.length 54 ({ p.1 with slots := p.1.slots ++ [h] }, p.2.1, .slice A3 (p.1.slots.length + 1) c3) (fun y hy => fE_length y (hP6.ents y hy).fit) (by simp) (by omega)]
            unfold fE
            rw [Array.getElem?_toList]
            exact ek_tail _ _ _ hp6.fit 1
          have HV4 : Hid (∀ w4, Below W'.heap.size W' w4 → ∀ o, (w4.alloc o).cell? ⟨w.heap.size + 3, 0, none⟩ = some (.slice (some ⟨g, 0, none⟩) (init.length + 1) c) ∧ (w4.alloc o).cell? ⟨g, init.length * 55 + 54, none⟩ = some p.2.2) := fun w4 hb4 o => ⟨cell_below' (al hb4 o) hcv, cell_below' (al hb4 o) hcg⟩
          have hi95 : Hid ((Tryd.prog.info? 95).map (·.size) = some (hk h).length) := by rw [hk_length h hfh]; exact Tryd.agg95.2
          have hmx : Tryd.prog.follows .mixedOrders = true := by kernel_rfl
          have hgI : (init.length : Int) < (init.length : Int) + 1 := by omega
          have hgJ : ¬ (init.length : Int) + 1 ≤ (init.length : Int) := by omega
          have htn : ((init.length : Int)).toNat = init.length := by omega
          clear hes hne hgl2 hdl hpm
          gi_wp2_with (first | (refine ⟨trivial, ?_⟩; gi_at_call 57; refine hsp.out.mono ?_; rintro en w1 ⟨rfl, rfl⟩) | (refine ⟨trivial, ?_⟩; gi_at_call 58; refine hcall.out.mono ?_; rintro en w2 ⟨hb2, cs, hcs, hone, rfl⟩; have HCS := Lib.hid hcs; have HON := Lib.hid hone; have hTe : Hid (AggT Tryd.prog 79 cs.size) := (by rw [hcs]; exact Tryd.agg79); clear hcs hone) | (refine inRoundStoreNew (o := ⟨none, .store 79 (.tmp 12) (.tmp 29), _, _, _, _⟩) (by rfl) rfl 79 (.tmp 12) _ rfl _ _ rfl cs rfl hTe.out (by rw [HCS.out]; rfl) HON.out ?_) | (refine ⟨trivial, ?_⟩; gi_at_call 60; refine (hcl2.out w2 hb2 cs).mono ?_; rintro en w4 ⟨hb4, rfl⟩; have hb4W : Below W'.heap.size W' w4 := thn (al (thn hW1 hb2) _) hb4; have hc4 := HV4.out w4 hb4W (.cells (hk h).toArray 95); have HB4 := Lib.hid hb4W; clear hb4W hb4) | (refine inRoundStoreNew (o := ⟨none, .store 95 (.tmp 14) (.tmp 46), _, _, _, _⟩) (by rfl) rfl 95 (.tmp 14) _ rfl _ _ rfl (hk h).toArray rfl hTh.out (by rw [HZh.out]; rfl) (hk_one h) ?_))
          obtain ⟨A2, c2, w5, hrun0, rc5, rf5, hO6, hRS6, hB5, hK5, hz5, hC5, hG6⟩ := SRUN.out w4 HB4.out
          have hrun := Lib.hid hrun0
          clear hrun0
          refine region_round (S := fun Wx => Wx.cell? ⟨w.heap.size + 1 + 1 + 1, 0, none⟩ = some (.slice (some ⟨g, 0, none⟩) (init.length + 1) c) ∧ CellsAt Wx w4.heap.size 0 (hk h)) hmx (by kernel_rfl) ?nl ⟨hc4.1, cellsAt_blk (Blk.new w4 95 (hk h).toArray)⟩ (fun hHeld => ?_)
          case nl => rintro ⟨a', w', hh⟩; obtain ⟨_, hh⟩ := hh; rcases hh with ⟨h, _⟩ | ⟨h, _⟩ <;> cases h
          refine wpAnyH_take (i := 0) (v := .slice (some ⟨g, 0, none⟩) (init.length + 1) c) rfl (by kernel_rfl) (by kernel_rfl) (by kernel_rfl) (fun _ _ _ h => h) (.inl ⟨by rfl, fun W hS => by have hS1 := hS.1; go_simp⟩) hHeld ?_
          simp only [Act.put, List.setIfInBounds_toArray, List.set_cons_zero, List.set_cons_succ, List.getElem_toArray, List.getElem_cons_succ, List.getElem_cons_zero]
          refine wpAnyH_take (i := 1) (v := .int .i64 (init.length : Int)) rfl (by kernel_rfl) (by kernel_rfl) (by kernel_rfl) (fun _ _ _ h => h) (.inl ⟨by rfl, fun W hS => by go_simp⟩) hHeld ?_
          simp only [Act.put, List.setIfInBounds_toArray, List.set_cons_zero, List.set_cons_succ, List.getElem_toArray, List.getElem_cons_succ, List.getElem_cons_zero]
          refine wpAnyH_take (i := 2) (v := .slice (some ⟨g, 0, none⟩) (init.length + 1) c) rfl (by kernel_rfl) (by kernel_rfl) (by kernel_rfl) (fun _ _ _ h => h) (.inl ⟨by rfl, fun W hS => by have hS1 := hS.1; go_simp⟩) hHeld ?_
          simp only [Act.put, List.setIfInBounds_toArray, List.set_cons_zero, List.set_cons_succ, List.getElem_toArray, List.getElem_cons_succ, List.getElem_cons_zero]
          refine wpAnyH_take (i := 3) (v := .int .i64 (init.length : Int)) rfl (by kernel_rfl) (by kernel_rfl) (by kernel_rfl) (fun _ _ _ h => h) (.inl ⟨by rfl, fun W hS => by go_simp⟩) hHeld ?_
          simp only [Act.put, List.setIfInBounds_toArray, List.set_cons_zero, List.set_cons_succ, List.getElem_toArray, List.getElem_cons_succ, List.getElem_cons_zero]
          refine wpAnyH_take (i := 4) (v := .pointer (some ⟨g, init.length * 55, none⟩)) rfl (by kernel_rfl) (by kernel_rfl) (by kernel_rfl) (fun _ _ _ h => h) (.inl ⟨by rfl, fun W hS => by go_simp⟩) hHeld ?_
          simp only [Act.put, List.setIfInBounds_toArray, List.set_cons_zero, List.set_cons_succ, List.getElem_toArray, List.getElem_cons_succ, List.getElem_cons_zero]
          refine wpAnyH_take (i := 5) (v := .pointer (some ⟨g, init.length * 55 + 54, none⟩)) rfl (by kernel_rfl) (by kernel_rfl) (by kernel_rfl) (fun _ _ _ h => h) (.inl ⟨by rfl, fun W hS => by go_simp⟩) hHeld ?_
          simp only [Act.put, List.setIfInBounds_toArray, List.set_cons_zero, List.set_cons_succ, List.getElem_toArray, List.getElem_cons_succ, List.getElem_cons_zero]
          refine wpAnyH_take (i := 7) (v := .agg (hk h).toArray) rfl (by kernel_rfl) (by kernel_rfl) (by kernel_rfl) (fun _ _ _ h => h) (yieldsIf_load_mid (by rfl) 95 _ rfl w4.heap.size 0 rfl (hk h) _ (fun W hS => hS.2) Tryd.underlying95 rfl hi95.out) hHeld ?_
          simp only [Act.put, List.setIfInBounds_toArray, List.set_cons_zero, List.set_cons_succ, List.getElem_toArray, List.getElem_cons_succ, List.getElem_cons_zero]
          have KB15 : Hid (((w4.alloc (.cells (hk h).toArray 95)).alloc (.cells (hk h).toArray 95)).drew.cell? ⟨w.heap.size + 1 + 1 + 1, 0, none⟩ = some (.slice (some ⟨g, 0, none⟩) (init.length + 1) c) ∧ CellsAt ((w4.alloc (.cells (hk h).toArray 95)).alloc (.cells (hk h).toArray 95)).drew w4.heap.size 0 (hk h)) := ⟨cell_below' (al (Below.refl _ _) _).drew hc4.1, (cellsAt_blk (Blk.new w4 95 (hk h).toArray)).below (al (Below.refl _ _) _).drew⟩
          have hB4 := HB4.out
          have hc4b : ((w4.alloc (.cells (hk h).toArray 95)).alloc (.cells (hk h).toArray 95)).cell? ⟨g, init.length * 55 + 54, none⟩ = some p.2.2 := cell_below' (al (Below.refl _ _) _) hc4.2
          have hc42 := hc4.2
          have hl5 : w5.cell? ⟨w.heap.size + 1 + 1 + 1, 0, none⟩ = some (.slice (some ⟨g, 0, none⟩) (init.length + 1) c) := (World.cell?_of_block (hK5 (w.heap.size + 1 + 1 + 1) (by omega))).trans hcv
          have HS5 : Hid (w5.cell? ⟨w.heap.size + 1 + 1 + 1, 0, none⟩ = some (.slice (some ⟨g, 0, none⟩) (init.length + 1) c) ∧ CellsAt w5 w4.heap.size 0 (hk h)) := ⟨hl5, hC5⟩
          have HG6 := Lib.hid hG6
          clear hG6
          have HO6 := Lib.hid hO6
          have HRS6 := Lib.hid hRS6
          have HB5 := Lib.hid hB5
          have HK5 := Lib.hid hK5
          have hg4 : w4.heap.size ≠ g := by have := hB4.size; omega
          clear hO6 hRS6 hB5 hK5 hB4 hC5
          refine wpAnyH_ready (rs := [6, 8]) (by kernel_rfl) (by simp) ?_
          refine AllReadyH.cons rfl (fun K hK => ?o1) (AllReadyH.cons rfl (fun K hK => ?o2) AllReadyH.nil)
          case' o1 =>
            go_simp
            refine hK.out _ _ hHeld (fun hHeld => ?_)
            clear hK K
            refine wpAnyH_ready (rs := [8]) (by kernel_rfl) (by simp) ?_
            refine AllReadyH.cons rfl (fun K hK => ?_) AllReadyH.nil
            refine armH_buildSlice1 _ 77 95 64 rfl (.tmp 60) rfl (hk h).toArray rfl Tryd.underlying77 Tryd.agg95 (by kernel_rfl) HZh.out (by omega) (by omega) ?_
            simp only [Act.put, List.setIfInBounds_toArray, List.set_cons_zero, List.set_cons_succ, List.getElem_toArray, List.getElem_cons_succ, List.getElem_cons_zero, World.size_drew, World.size_alloc, World.alloc_drew]
            refine hK.out _ _ (KB15.out) (fun hHeld => ?_)
            clear hK K
            refine wpAnyH_ready (rs := [9]) (by kernel_rfl) (by simp) ?_
            refine AllReadyH.cons rfl (fun K hK => ?_) AllReadyH.nil
            refine armH_runT _ 77 rfl (.tmp 59) (.tmp 61) rfl rfl _ _ rfl rfl _ _ hrun.out ?_
            simp only [Act.put, List.setIfInBounds_toArray, List.set_cons_zero, List.set_cons_succ, List.getElem_toArray, List.getElem_cons_succ, List.getElem_cons_zero]
            refine hK.out _ _ (HS5.out) (fun hHeld => ?_)
            clear hK K
          case' o2 =>
            refine armH_buildSlice1 _ 77 95 64 rfl (.tmp 60) rfl (hk h).toArray rfl Tryd.underlying77 Tryd.agg95 (by kernel_rfl) HZh.out (by omega) (by omega) ?_
            simp only [Act.put, List.setIfInBounds_toArray, List.set_cons_zero, List.set_cons_succ, List.getElem_toArray, List.getElem_cons_succ, List.getElem_cons_zero, World.size_drew, World.size_alloc, World.alloc_drew]
            refine hK.out _ _ (KB15.out) (fun hHeld => ?_)
            clear hK K
            refine wpAnyH_ready (rs := [6]) (by kernel_rfl) (by simp) ?_
            refine AllReadyH.cons rfl (fun K hK => ?_) AllReadyH.nil
            go_simp
            refine hK.out _ _ (hHeld) (fun hHeld => ?_)
            clear hK K
            refine wpAnyH_ready (rs := [9]) (by kernel_rfl) (by simp) ?_
            refine AllReadyH.cons rfl (fun K hK => ?_) AllReadyH.nil
            refine armH_runT _ 77 rfl (.tmp 59) (.tmp 61) rfl rfl _ _ rfl rfl _ _ hrun.out ?_
            simp only [Act.put, List.setIfInBounds_toArray, List.set_cons_zero, List.set_cons_succ, List.getElem_toArray, List.getElem_cons_succ, List.getElem_cons_zero]
            refine hK.out _ _ (HS5.out) (fun hHeld => ?_)
            clear hK K
          all_goals
            refine wpAnyH_take (i := 10) (v := .pointer (some ⟨g, init.length * 55, none⟩)) rfl (by kernel_rfl) (by kernel_rfl) (by kernel_rfl) (fun _ _ _ h => h) (.inl ⟨by rfl, fun W hS => by go_simp⟩) hHeld ?_
            simp only [Act.put, List.setIfInBounds_toArray, List.set_cons_zero, List.set_cons_succ, List.getElem_toArray, List.getElem_cons_succ, List.getElem_cons_zero]
            refine wpAnyH_take (i := 11) (v := .pointer (some ⟨g, init.length * 55 + 54, none⟩)) rfl (by kernel_rfl) (by kernel_rfl) (by kernel_rfl) (fun _ _ _ h => h) (.inl ⟨by rfl, fun W hS => by go_simp⟩) hHeld ?_
            simp only [Act.put, List.setIfInBounds_toArray, List.set_cons_zero, List.set_cons_succ, List.getElem_toArray, List.getElem_cons_succ, List.getElem_cons_zero]
            refine wpAnyH_ready (rs := [12]) (by kernel_rfl) (by simp) ?_
            refine AllReadyH.cons rfl (fun K hK => ?_) AllReadyH.nil
            go_simp
            refine hK.out _ _ (⟨cell_setFar hHeld.1 (by show w.heap.size + 1 + 1 + 1 ≠ g; omega), hHeld.2.far (by show w4.heap.size ≠ g; exact hg4) _⟩) (fun hHeld => ?_)
            clear hK K
            refine wpAnyH_done (by kernel_rfl) ?_ _
            clear hHeld
            gi_wp2
            have hsk6 : ∀ k, k ≠ g → (w5.setCell ⟨g, init.length * 55 + 54, none⟩ (.slice A2 (p.1.slots.length + 1) c2)).heap[k]? = w5.heap[k]? := fun k hk => Below.heap_setCell w5 ⟨g, init.length * 55 + 54, none⟩ _ k (by show k ≠ g; exact hk)
            have L6 : Hid ((w5.setCell ⟨g, init.length * 55 + 54, none⟩ (.slice A2 (p.1.slots.length + 1) c2)).cell? ⟨w.heap.size + 1 + 1 + 1, 0, none⟩ = some (.slice (some ⟨g, 0, none⟩) (init.length + 1) c)) := cell_setFar hl5 (by show w.heap.size + 1 + 1 + 1 ≠ g; omega)
            have HK6 : Hid (∀ k, k < w.heap.size + 8 → (w5.setCell ⟨g, init.length * 55 + 54, none⟩ (.slice A2 (p.1.slots.length + 1) c2)).heap[k]? = W'.heap[k]?) := fun k hk => (hsk6 k (by omega)).trans (HK5.out k hk)
            have HB6 : Hid (Below w.heap.size w (w5.setCell ⟨g, init.length * 55 + 54, none⟩ (.slice A2 (p.1.slots.length + 1) c2))) := HB5.out.setCell (by show w.heap.size ≤ g; omega) _
            have hz6 : w.heap.size + 8 ≤ (w5.setCell ⟨g, init.length * 55 + 54, none⟩ (.slice A2 (p.1.slots.length + 1) c2)).heap.size := by simp; omega
            have G6 := HG6
            have hfx : ∀ x ∈ p.1.slots ++ [h], x.1.length = 32 ∧ x.2.length = 32 := fun x hx => by
              rcases List.mem_append.1 hx with hx | hx
              · exact hp.fit.hs x hx
              · obtain rfl := List.mem_singleton.1 hx
                exact hfh
            have HHO : Hid (∀ W, Below (w5.setCell ⟨g, init.length * 55 + 54, none⟩ (.slice A2 (p.1.slots.length + 1) c2)).heap.size (w5.setCell ⟨g, init.length * 55 + 54, none⟩ (.slice A2 (p.1.slots.length + 1) c2)) W → Calls Tryd.prog 61 #[.slice A2 (p.1.slots.length + 1) c2, .int .i64 (p.1.slots.length : Int)] W fun en w' => en = .returned (.bool (holdsB (p.1.slots ++ [h]) p.1.slots.length)) ∧ Below W.heap.size W w') := fun W hW => holds_calls A2 _ c2 _ _ W (HRS6.out.below hW) hfx (by omega)
            clear hsk6 HG6 HB5 HK5 rc5 rf5 hl5 HS5 KB15 hfx
            generalize w5.setCell ⟨g, init.length * 55 + 54, none⟩ (.slice A2 (p.1.slots.length + 1) c2) = W6 at *
            have hks : (p.1.slots.length : Int) ≤ 1000001 := by omega
            have hks0 : (0 : Int) ≤ (p.1.slots.length : Int) := by omega
            generalize hkk : p.1.slots.length = kk at *
            have hwk : IntKind.i64.wrap (kk : Int) = kk := IntWalk.i64_in _ (by omega)
            cases whole with
            | true =>
              cases hho : holdsB (p.1.slots ++ [h]) kk with
              | true =>
                have HRES := Lib.hid hho
                have HLT := Lib.hid (HNEXT.out _ (by rw [hstep, if_pos ⟨rfl, hho⟩]))
                clear hho hstep
                refine region_round (S := fun Wx => Below W6.heap.size W6 Wx) hmx (by kernel_rfl) ?nl (Below.refl _ _).drew (fun hHeld => ?_)
                case nl => rintro ⟨a', w', hh⟩; obtain ⟨_, hh⟩ := hh; rcases hh with ⟨h, _⟩ | ⟨h, _⟩ <;> cases h
                refine wpAnyH_take (i := 0) (v := .bool true) rfl (by kernel_rfl) (by kernel_rfl) (by kernel_rfl) (fun _ _ _ h => h) (.inl ⟨by rfl, fun W hS => by go_simp⟩) hHeld ?_
                simp only [Act.put, List.setIfInBounds_toArray, List.set_cons_zero, List.set_cons_succ, List.getElem_toArray, List.getElem_cons_succ, List.getElem_cons_zero]
                refine wpAnyH_take (i := 1) (v := .bool true) rfl (by kernel_rfl) (by kernel_rfl) (by kernel_rfl) (fun _ _ _ h => h) (.inl ⟨by rfl, fun W hS => by go_simp⟩) hHeld ?_
                simp only [Act.put, List.setIfInBounds_toArray, List.set_cons_zero, List.set_cons_succ, List.getElem_toArray, List.getElem_cons_succ, List.getElem_cons_zero]
                refine wpAnyH_take (i := 2) (v := .slice (some ⟨g, 0, none⟩) (init.length + 1) c) rfl (by kernel_rfl) (by kernel_rfl) (by kernel_rfl) (fun _ _ _ h => h) (.inl ⟨by rfl, fun W hS => by have h1 := cell_below' hS L6.out; go_simp⟩) hHeld ?_
                simp only [Act.put, List.setIfInBounds_toArray, List.set_cons_zero, List.set_cons_succ, List.getElem_toArray, List.getElem_cons_succ, List.getElem_cons_zero]
                refine wpAnyH_take (i := 3) (v := .int .i64 (init.length : Int)) rfl (by kernel_rfl) (by kernel_rfl) (by kernel_rfl) (fun _ _ _ h => h) (.inl ⟨by rfl, fun W hS => by go_simp⟩) hHeld ?_
                simp only [Act.put, List.setIfInBounds_toArray, List.set_cons_zero, List.set_cons_succ, List.getElem_toArray, List.getElem_cons_succ, List.getElem_cons_zero]
                refine wpAnyH_take (i := 4) (v := .pointer (some ⟨g, init.length * 55, none⟩)) rfl (by kernel_rfl) (by kernel_rfl) (by kernel_rfl) (fun _ _ _ h => h) (.inl ⟨by rfl, fun W hS => by go_simp⟩) hHeld ?_
                simp only [Act.put, List.setIfInBounds_toArray, List.set_cons_zero, List.set_cons_succ, List.getElem_toArray, List.getElem_cons_succ, List.getElem_cons_zero]
                refine wpAnyH_take (i := 5) (v := .pointer (some ⟨g, init.length * 55 + 54, none⟩)) rfl (by kernel_rfl) (by kernel_rfl) (by kernel_rfl) (fun _ _ _ h => h) (.inl ⟨by rfl, fun W hS => by go_simp⟩) hHeld ?_
                simp only [Act.put, List.setIfInBounds_toArray, List.set_cons_zero, List.set_cons_succ, List.getElem_toArray, List.getElem_cons_succ, List.getElem_cons_zero]
                refine wpAnyH_take (i := 6) (v := .slice A2 (kk + 1) c2) rfl (by kernel_rfl) (by kernel_rfl) (by kernel_rfl) (fun _ _ _ h => h) (.inl ⟨by rfl, fun W hS => by have h1 := cell_below' hS G6.out; go_simp⟩) hHeld ?_
                simp only [Act.put, List.setIfInBounds_toArray, List.set_cons_zero, List.set_cons_succ, List.getElem_toArray, List.getElem_cons_succ, List.getElem_cons_zero]
                refine wpAnyH_take (i := 7) (v := .slice (some ⟨g, 0, none⟩) (init.length + 1) c) rfl (by kernel_rfl) (by kernel_rfl) (by kernel_rfl) (fun _ _ _ h => h) (.inl ⟨by rfl, fun W hS => by have h1 := cell_below' hS L6.out; go_simp⟩) hHeld ?_
                simp only [Act.put, List.setIfInBounds_toArray, List.set_cons_zero, List.set_cons_succ, List.getElem_toArray, List.getElem_cons_succ, List.getElem_cons_zero]
                refine wpAnyH_take (i := 8) (v := .int .i64 (init.length : Int)) rfl (by kernel_rfl) (by kernel_rfl) (by kernel_rfl) (fun _ _ _ h => h) (.inl ⟨by rfl, fun W hS => by go_simp⟩) hHeld ?_
                simp only [Act.put, List.setIfInBounds_toArray, List.set_cons_zero, List.set_cons_succ, List.getElem_toArray, List.getElem_cons_succ, List.getElem_cons_zero]
                refine wpAnyH_take (i := 9) (v := .pointer (some ⟨g, init.length * 55, none⟩)) rfl (by kernel_rfl) (by kernel_rfl) (by kernel_rfl) (fun _ _ _ h => h) (.inl ⟨by rfl, fun W hS => by go_simp⟩) hHeld ?_
                simp only [Act.put, List.setIfInBounds_toArray, List.set_cons_zero, List.set_cons_succ, List.getElem_toArray, List.getElem_cons_succ, List.getElem_cons_zero]
                refine wpAnyH_take (i := 10) (v := .pointer (some ⟨g, init.length * 55 + 54, none⟩)) rfl (by kernel_rfl) (by kernel_rfl) (by kernel_rfl) (fun _ _ _ h => h) (.inl ⟨by rfl, fun W hS => by go_simp⟩) hHeld ?_
                simp only [Act.put, List.setIfInBounds_toArray, List.set_cons_zero, List.set_cons_succ, List.getElem_toArray, List.getElem_cons_succ, List.getElem_cons_zero]
                refine wpAnyH_take (i := 11) (v := .slice A2 (kk + 1) c2) rfl (by kernel_rfl) (by kernel_rfl) (by kernel_rfl) (fun _ _ _ h => h) (.inl ⟨by rfl, fun W hS => by have h1 := cell_below' hS G6.out; go_simp⟩) hHeld ?_
                simp only [Act.put, List.setIfInBounds_toArray, List.set_cons_zero, List.set_cons_succ, List.getElem_toArray, List.getElem_cons_succ, List.getElem_cons_zero]
                refine wpAnyH_take (i := 12) (v := .int .i64 ((kk : Int) + 1)) rfl (by kernel_rfl) (by kernel_rfl) (by kernel_rfl) (fun _ _ _ h => h) (.inl ⟨by rfl, fun W hS => by go_simp⟩) hHeld ?_
                simp only [Act.put, List.setIfInBounds_toArray, List.set_cons_zero, List.set_cons_succ, List.getElem_toArray, List.getElem_cons_succ, List.getElem_cons_zero]
                refine wpAnyH_take (i := 13) (v := .int .i64 (kk : Int)) rfl (by kernel_rfl) (by kernel_rfl) (by kernel_rfl) (fun _ _ _ h => h) (.inl ⟨by rfl, fun W hS => by go_simp⟩) hHeld ?_
                simp only [Act.put, List.setIfInBounds_toArray, List.set_cons_zero, List.set_cons_succ, List.getElem_toArray, List.getElem_cons_succ, List.getElem_cons_zero]
                refine wpAnyH_ready (rs := [14]) (by kernel_rfl) (by simp) ?_
                refine AllReadyH.cons rfl (fun K hK => ?_) AllReadyH.nil
                go_simp
                go_wp2_with (go_at_call 61; refine (HHO.out _ hHeld).mono ?_; rintro en w7 ⟨rfl, hb7⟩; rw [HRES.out])
                refine hK.out _ _ (thn hHeld hb7) (fun hHeld => ?_)
                clear hK K
                refine wpAnyH_take (i := 15) (v := .bool true) rfl (by kernel_rfl) (by kernel_rfl) (by kernel_rfl) (fun _ _ _ h => h) (.inl ⟨by rfl, fun W hS => by go_simp⟩) hHeld ?_
                simp only [Act.put, List.setIfInBounds_toArray, List.set_cons_zero, List.set_cons_succ, List.getElem_toArray, List.getElem_cons_succ, List.getElem_cons_zero]
                refine wpAnyH_ready (rs := [16]) (by kernel_rfl) (by simp) ?_
                refine AllReadyH.cons rfl (fun K hK => ?_) AllReadyH.nil
                go_simp
                refine hK.out _ _ (hHeld) (fun hHeld => ?_)
                clear hK K
                refine wpAnyH_done (by kernel_rfl) ?_ _
                have h4 : Blk w7 (w.heap.size + 4) 3 #[.int .i64 (pre.length : Int)] := (hHeld.block _ (by omega)).trans ((HK6.out _ (by omega)).trans g5)
                have c4 := h4.cell 0
                have f4 := h4.frozen 0
                have HB7 := Lib.hid hHeld
                have h36 : Blk W6 (w.heap.size + 3) 47 #[.slice (some ⟨g, 0, none⟩) (init.length + 1) c] := (HK6.out _ (by omega)).trans g9
                clear h4 hHeld
                gi_wp2
                exact end_next HS0.out (fun k hk _ => HK6.out k hk) HB6.out hz6 h36 HO6.out HB7.out HLT.out hr hvt
              | false =>
                have HRES := Lib.hid hho
                have HPG := Lib.hid (HSTOP.out (by rw [hstep, if_neg (by rw [hho]; simp)]))
                clear hho hstep
                refine region_round (S := fun Wx => Below W6.heap.size W6 Wx) hmx (by kernel_rfl) ?nl (Below.refl _ _).drew (fun hHeld => ?_)
                case nl => rintro ⟨a', w', hh⟩; obtain ⟨_, hh⟩ := hh; rcases hh with ⟨h, _⟩ | ⟨h, _⟩ <;> cases h
                refine wpAnyH_take (i := 0) (v := .bool true) rfl (by kernel_rfl) (by kernel_rfl) (by kernel_rfl) (fun _ _ _ h => h) (.inl ⟨by rfl, fun W hS => by go_simp⟩) hHeld ?_
                simp only [Act.put, List.setIfInBounds_toArray, List.set_cons_zero, List.set_cons_succ, List.getElem_toArray, List.getElem_cons_succ, List.getElem_cons_zero]
                refine wpAnyH_take (i := 1) (v := .bool true) rfl (by kernel_rfl) (by kernel_rfl) (by kernel_rfl) (fun _ _ _ h => h) (.inl ⟨by rfl, fun W hS => by go_simp⟩) hHeld ?_
                simp only [Act.put, List.setIfInBounds_toArray, List.set_cons_zero, List.set_cons_succ, List.getElem_toArray, List.getElem_cons_succ, List.getElem_cons_zero]
                refine wpAnyH_take (i := 2) (v := .slice (some ⟨g, 0, none⟩) (init.length + 1) c) rfl (by kernel_rfl) (by kernel_rfl) (by kernel_rfl) (fun _ _ _ h => h) (.inl ⟨by rfl, fun W hS => by have h1 := cell_below' hS L6.out; go_simp⟩) hHeld ?_
                simp only [Act.put, List.setIfInBounds_toArray, List.set_cons_zero, List.set_cons_succ, List.getElem_toArray, List.getElem_cons_succ, List.getElem_cons_zero]
                refine wpAnyH_take (i := 3) (v := .int .i64 (init.length : Int)) rfl (by kernel_rfl) (by kernel_rfl) (by kernel_rfl) (fun _ _ _ h => h) (.inl ⟨by rfl, fun W hS => by go_simp⟩) hHeld ?_
                simp only [Act.put, List.setIfInBounds_toArray, List.set_cons_zero, List.set_cons_succ, List.getElem_toArray, List.getElem_cons_succ, List.getElem_cons_zero]
                refine wpAnyH_take (i := 4) (v := .pointer (some ⟨g, init.length * 55, none⟩)) rfl (by kernel_rfl) (by kernel_rfl) (by kernel_rfl) (fun _ _ _ h => h) (.inl ⟨by rfl, fun W hS => by go_simp⟩) hHeld ?_
                simp only [Act.put, List.setIfInBounds_toArray, List.set_cons_zero, List.set_cons_succ, List.getElem_toArray, List.getElem_cons_succ, List.getElem_cons_zero]
                refine wpAnyH_take (i := 5) (v := .pointer (some ⟨g, init.length * 55 + 54, none⟩)) rfl (by kernel_rfl) (by kernel_rfl) (by kernel_rfl) (fun _ _ _ h => h) (.inl ⟨by rfl, fun W hS => by go_simp⟩) hHeld ?_
                simp only [Act.put, List.setIfInBounds_toArray, List.set_cons_zero, List.set_cons_succ, List.getElem_toArray, List.getElem_cons_succ, List.getElem_cons_zero]
                refine wpAnyH_take (i := 6) (v := .slice A2 (kk + 1) c2) rfl (by kernel_rfl) (by kernel_rfl) (by kernel_rfl) (fun _ _ _ h => h) (.inl ⟨by rfl, fun W hS => by have h1 := cell_below' hS G6.out; go_simp⟩) hHeld ?_
                simp only [Act.put, List.setIfInBounds_toArray, List.set_cons_zero, List.set_cons_succ, List.getElem_toArray, List.getElem_cons_succ, List.getElem_cons_zero]
                refine wpAnyH_take (i := 7) (v := .slice (some ⟨g, 0, none⟩) (init.length + 1) c) rfl (by kernel_rfl) (by kernel_rfl) (by kernel_rfl) (fun _ _ _ h => h) (.inl ⟨by rfl, fun W hS => by have h1 := cell_below' hS L6.out; go_simp⟩) hHeld ?_
                simp only [Act.put, List.setIfInBounds_toArray, List.set_cons_zero, List.set_cons_succ, List.getElem_toArray, List.getElem_cons_succ, List.getElem_cons_zero]
                refine wpAnyH_take (i := 8) (v := .int .i64 (init.length : Int)) rfl (by kernel_rfl) (by kernel_rfl) (by kernel_rfl) (fun _ _ _ h => h) (.inl ⟨by rfl, fun W hS => by go_simp⟩) hHeld ?_
                simp only [Act.put, List.setIfInBounds_toArray, List.set_cons_zero, List.set_cons_succ, List.getElem_toArray, List.getElem_cons_succ, List.getElem_cons_zero]
                refine wpAnyH_take (i := 9) (v := .pointer (some ⟨g, init.length * 55, none⟩)) rfl (by kernel_rfl) (by kernel_rfl) (by kernel_rfl) (fun _ _ _ h => h) (.inl ⟨by rfl, fun W hS => by go_simp⟩) hHeld ?_
                simp only [Act.put, List.setIfInBounds_toArray, List.set_cons_zero, List.set_cons_succ, List.getElem_toArray, List.getElem_cons_succ, List.getElem_cons_zero]
                refine wpAnyH_take (i := 10) (v := .pointer (some ⟨g, init.length * 55 + 54, none⟩)) rfl (by kernel_rfl) (by kernel_rfl) (by kernel_rfl) (fun _ _ _ h => h) (.inl ⟨by rfl, fun W hS => by go_simp⟩) hHeld ?_
                simp only [Act.put, List.setIfInBounds_toArray, List.set_cons_zero, List.set_cons_succ, List.getElem_toArray, List.getElem_cons_succ, List.getElem_cons_zero]
                refine wpAnyH_take (i := 11) (v := .slice A2 (kk + 1) c2) rfl (by kernel_rfl) (by kernel_rfl) (by kernel_rfl) (fun _ _ _ h => h) (.inl ⟨by rfl, fun W hS => by have h1 := cell_below' hS G6.out; go_simp⟩) hHeld ?_
                simp only [Act.put, List.setIfInBounds_toArray, List.set_cons_zero, List.set_cons_succ, List.getElem_toArray, List.getElem_cons_succ, List.getElem_cons_zero]
                refine wpAnyH_take (i := 12) (v := .int .i64 ((kk : Int) + 1)) rfl (by kernel_rfl) (by kernel_rfl) (by kernel_rfl) (fun _ _ _ h => h) (.inl ⟨by rfl, fun W hS => by go_simp⟩) hHeld ?_
                simp only [Act.put, List.setIfInBounds_toArray, List.set_cons_zero, List.set_cons_succ, List.getElem_toArray, List.getElem_cons_succ, List.getElem_cons_zero]
                refine wpAnyH_take (i := 13) (v := .int .i64 (kk : Int)) rfl (by kernel_rfl) (by kernel_rfl) (by kernel_rfl) (fun _ _ _ h => h) (.inl ⟨by rfl, fun W hS => by go_simp⟩) hHeld ?_
                simp only [Act.put, List.setIfInBounds_toArray, List.set_cons_zero, List.set_cons_succ, List.getElem_toArray, List.getElem_cons_succ, List.getElem_cons_zero]
                refine wpAnyH_ready (rs := [14]) (by kernel_rfl) (by simp) ?_
                refine AllReadyH.cons rfl (fun K hK => ?_) AllReadyH.nil
                go_simp
                go_wp2_with (go_at_call 61; refine (HHO.out _ hHeld).mono ?_; rintro en w7 ⟨rfl, hb7⟩; rw [HRES.out])
                refine hK.out _ _ (thn hHeld hb7) (fun hHeld => ?_)
                clear hK K
                refine wpAnyH_take (i := 15) (v := .bool false) rfl (by kernel_rfl) (by kernel_rfl) (by kernel_rfl) (fun _ _ _ h => h) (.inl ⟨by rfl, fun W hS => by go_simp⟩) hHeld ?_
                simp only [Act.put, List.setIfInBounds_toArray, List.set_cons_zero, List.set_cons_succ, List.getElem_toArray, List.getElem_cons_succ, List.getElem_cons_zero]
                refine wpAnyH_ready (rs := [16]) (by kernel_rfl) (by simp) ?_
                refine AllReadyH.cons rfl (fun K hK => ?_) AllReadyH.nil
                go_simp
                refine hK.out _ _ (hHeld) (fun hHeld => ?_)
                clear hK K
                refine wpAnyH_done (by kernel_rfl) ?_ _
                obtain ⟨wz, rfl⟩ : ∃ wz, wz = w7 := ⟨_, rfl⟩
                have HKS : Hid (∀ k, k < w.heap.size + 8 → k ≠ w.heap.size + 3 → wz.heap[k]? = W'.heap[k]?) := fun k hk _ => (hHeld.block k (by omega)).trans (HK6.out k hk)
                have HBS : Hid (Below w.heap.size w wz) := HB6.out.trans (hHeld.mono HB6.out.size)
                have HZS : Hid (w.heap.size + 8 ≤ wz.heap.size) := Nat.le_trans hz6 hHeld.size
                clear hHeld
                gi_wp2
                have k0 : Blk wz w.heap.size 47 #[.slice none 0 0] := (HKS.out _ (by omega) (by omega)).trans g2
                have k1 : Blk wz (w.heap.size + 1) 3 #[.int .i64 0] := (HKS.out _ (by omega) (by omega)).trans g3
                have k2 : Blk wz (w.heap.size + 1 + 1) 29 #[.int .i64 0] := (HKS.out _ (by omega) (by omega)).trans g4
                have k4 : Blk wz (w.heap.size + 1 + 1 + 1 + 1) 3 #[.int .i64 (pre.length : Int)] := (HKS.out _ (by omega) (by omega)).trans g5
                have s0 := k0.cell 0
                have s1 := k1.cell 0
                have s2 := k2.cell 0
                have s4 := k4.cell 0
                have r0 := k0.frozen 0
                have r1 := k1.frozen 0
                have r2 := k2.frozen 0
                clear k0 k1 k2 k4
                refine region_round (S := fun Wx => Wx.cell? ⟨w.heap.size + 1 + 1 + 1 + 1, 0, none⟩ = some (.int .i64 (pre.length : Int))) hmx (by kernel_rfl) ?nl s4 (fun hHeld => ?_)
                case nl => rintro ⟨a', w', hh⟩; obtain ⟨_, hh⟩ := hh; rcases hh with ⟨h, _⟩ | ⟨h, _⟩ <;> cases h
                refine wpAnyH_take (i := 0) (v := .int .i64 (pre.length : Int)) rfl (by kernel_rfl) (by kernel_rfl) (by kernel_rfl) (fun _ _ _ h => h) (.inl ⟨by rfl, fun W hS => by go_simp⟩) hHeld ?_
                simp only [Act.put, List.setIfInBounds_toArray, List.set_cons_zero, List.set_cons_succ, List.getElem_toArray, List.getElem_cons_succ, List.getElem_cons_zero]
                refine wpAnyH_ready (rs := [1]) (by kernel_rfl) (by simp) ?_
                refine AllReadyH.cons rfl (fun K hK => ?_) AllReadyH.nil
                go_simp
                refine hK.out _ _ (cell_setFar hHeld (by show w.heap.size + 1 + 1 + 1 + 1 ≠ w.heap.size; omega)) (fun hHeld => ?_)
                clear hK K
                refine wpAnyH_ready (rs := [2]) (by kernel_rfl) (by simp) ?_
                refine AllReadyH.cons rfl (fun K hK => ?_) AllReadyH.nil
                go_simp
                refine hK.out _ _ (cell_setFar hHeld (by show w.heap.size + 1 + 1 + 1 + 1 ≠ w.heap.size + 1; omega)) (fun hHeld => ?_)
                clear hK K
                refine wpAnyH_ready (rs := [3]) (by kernel_rfl) (by simp) ?_
                refine AllReadyH.cons rfl (fun K hK => ?_) AllReadyH.nil
                go_simp
                refine hK.out _ _ (cell_setFar hHeld (by show w.heap.size + 1 + 1 + 1 + 1 ≠ w.heap.size + 1 + 1; omega)) (fun hHeld => ?_)
                clear hK K
                refine wpAnyH_done (by kernel_rfl) ?_ _
                clear hHeld
                gi_wp2
                have hst := end_stop HS0.out HKS.out HBS.out HZS.out HPG.out hr
                exact ⟨hst.1, hst.2.drew⟩
            | false =>
              have HPG := Lib.hid (HSTOP.out (by rw [hstep, if_neg (by simp)]))
              clear hstep
              refine region_round (S := fun Wx => Below W6.heap.size W6 Wx) hmx (by kernel_rfl) ?nl (Below.refl _ _).drew (fun hHeld => ?_)
              case nl => rintro ⟨a', w', hh⟩; obtain ⟨_, hh⟩ := hh; rcases hh with ⟨h, _⟩ | ⟨h, _⟩ <;> cases h
              refine wpAnyH_take (i := 0) (v := .bool false) rfl (by kernel_rfl) (by kernel_rfl) (by kernel_rfl) (fun _ _ _ h => h) (.inl ⟨by rfl, fun W hS => by go_simp⟩) hHeld ?_
              simp only [Act.put, List.setIfInBounds_toArray, List.set_cons_zero, List.set_cons_succ, List.getElem_toArray, List.getElem_cons_succ, List.getElem_cons_zero]
              refine wpAnyH_take (i := 1) (v := .bool false) rfl (by kernel_rfl) (by kernel_rfl) (by kernel_rfl) (fun _ _ _ h => h) (.inl ⟨by rfl, fun W hS => by go_simp⟩) hHeld ?_
              simp only [Act.put, List.setIfInBounds_toArray, List.set_cons_zero, List.set_cons_succ, List.getElem_toArray, List.getElem_cons_succ, List.getElem_cons_zero]
              refine wpAnyH_take (i := 2) (v := undef) rfl (by kernel_rfl) (by kernel_rfl) (by kernel_rfl) (fun _ _ _ h => h) (.inr ⟨by kernel_rfl, rfl⟩) hHeld ?_
              simp only [Act.put, List.setIfInBounds_toArray, List.set_cons_zero, List.set_cons_succ, List.getElem_toArray, List.getElem_cons_succ, List.getElem_cons_zero]
              refine wpAnyH_take (i := 3) (v := undef) rfl (by kernel_rfl) (by kernel_rfl) (by kernel_rfl) (fun _ _ _ h => h) (.inr ⟨by kernel_rfl, rfl⟩) hHeld ?_
              simp only [Act.put, List.setIfInBounds_toArray, List.set_cons_zero, List.set_cons_succ, List.getElem_toArray, List.getElem_cons_succ, List.getElem_cons_zero]
              refine wpAnyH_take (i := 4) (v := undef) rfl (by kernel_rfl) (by kernel_rfl) (by kernel_rfl) (fun _ _ _ h => h) (.inr ⟨by kernel_rfl, rfl⟩) hHeld ?_
              simp only [Act.put, List.setIfInBounds_toArray, List.set_cons_zero, List.set_cons_succ, List.getElem_toArray, List.getElem_cons_succ, List.getElem_cons_zero]
              refine wpAnyH_take (i := 5) (v := undef) rfl (by kernel_rfl) (by kernel_rfl) (by kernel_rfl) (fun _ _ _ h => h) (.inr ⟨by kernel_rfl, rfl⟩) hHeld ?_
              simp only [Act.put, List.setIfInBounds_toArray, List.set_cons_zero, List.set_cons_succ, List.getElem_toArray, List.getElem_cons_succ, List.getElem_cons_zero]
              refine wpAnyH_take (i := 6) (v := undef) rfl (by kernel_rfl) (by kernel_rfl) (by kernel_rfl) (fun _ _ _ h => h) (.inr ⟨by kernel_rfl, rfl⟩) hHeld ?_
              simp only [Act.put, List.setIfInBounds_toArray, List.set_cons_zero, List.set_cons_succ, List.getElem_toArray, List.getElem_cons_succ, List.getElem_cons_zero]
              refine wpAnyH_take (i := 7) (v := undef) rfl (by kernel_rfl) (by kernel_rfl) (by kernel_rfl) (fun _ _ _ h => h) (.inr ⟨by kernel_rfl, rfl⟩) hHeld ?_
              simp only [Act.put, List.setIfInBounds_toArray, List.set_cons_zero, List.set_cons_succ, List.getElem_toArray, List.getElem_cons_succ, List.getElem_cons_zero]
              refine wpAnyH_take (i := 8) (v := undef) rfl (by kernel_rfl) (by kernel_rfl) (by kernel_rfl) (fun _ _ _ h => h) (.inr ⟨by kernel_rfl, rfl⟩) hHeld ?_
              simp only [Act.put, List.setIfInBounds_toArray, List.set_cons_zero, List.set_cons_succ, List.getElem_toArray, List.getElem_cons_succ, List.getElem_cons_zero]
              refine wpAnyH_take (i := 9) (v := undef) rfl (by kernel_rfl) (by kernel_rfl) (by kernel_rfl) (fun _ _ _ h => h) (.inr ⟨by kernel_rfl, rfl⟩) hHeld ?_
              simp only [Act.put, List.setIfInBounds_toArray, List.set_cons_zero, List.set_cons_succ, List.getElem_toArray, List.getElem_cons_succ, List.getElem_cons_zero]
              refine wpAnyH_take (i := 10) (v := undef) rfl (by kernel_rfl) (by kernel_rfl) (by kernel_rfl) (fun _ _ _ h => h) (.inr ⟨by kernel_rfl, rfl⟩) hHeld ?_
              simp only [Act.put, List.setIfInBounds_toArray, List.set_cons_zero, List.set_cons_succ, List.getElem_toArray, List.getElem_cons_succ, List.getElem_cons_zero]
              refine wpAnyH_take (i := 11) (v := undef) rfl (by kernel_rfl) (by kernel_rfl) (by kernel_rfl) (fun _ _ _ h => h) (.inr ⟨by kernel_rfl, rfl⟩) hHeld ?_
              simp only [Act.put, List.setIfInBounds_toArray, List.set_cons_zero, List.set_cons_succ, List.getElem_toArray, List.getElem_cons_succ, List.getElem_cons_zero]
              refine wpAnyH_take (i := 12) (v := undef) rfl (by kernel_rfl) (by kernel_rfl) (by kernel_rfl) (fun _ _ _ h => h) (.inr ⟨by kernel_rfl, rfl⟩) hHeld ?_
              simp only [Act.put, List.setIfInBounds_toArray, List.set_cons_zero, List.set_cons_succ, List.getElem_toArray, List.getElem_cons_succ, List.getElem_cons_zero]
              refine wpAnyH_take (i := 13) (v := undef) rfl (by kernel_rfl) (by kernel_rfl) (by kernel_rfl) (fun _ _ _ h => h) (.inr ⟨by kernel_rfl, rfl⟩) hHeld ?_
              simp only [Act.put, List.setIfInBounds_toArray, List.set_cons_zero, List.set_cons_succ, List.getElem_toArray, List.getElem_cons_succ, List.getElem_cons_zero]
              refine wpAnyH_take (i := 14) (v := undef) rfl (by kernel_rfl) (by kernel_rfl) (by kernel_rfl) (fun _ _ _ h => h) (.inr ⟨by kernel_rfl, rfl⟩) hHeld ?_
              simp only [Act.put, List.setIfInBounds_toArray, List.set_cons_zero, List.set_cons_succ, List.getElem_toArray, List.getElem_cons_succ, List.getElem_cons_zero]
              refine wpAnyH_take (i := 15) (v := .bool false) rfl (by kernel_rfl) (by kernel_rfl) (by kernel_rfl) (fun _ _ _ h => h) (.inl ⟨by rfl, fun W hS => by go_simp⟩) hHeld ?_
              simp only [Act.put, List.setIfInBounds_toArray, List.set_cons_zero, List.set_cons_succ, List.getElem_toArray, List.getElem_cons_succ, List.getElem_cons_zero]
              refine wpAnyH_ready (rs := [16]) (by kernel_rfl) (by simp) ?_
              refine AllReadyH.cons rfl (fun K hK => ?_) AllReadyH.nil
              go_simp
              refine hK.out _ _ (hHeld) (fun hHeld => ?_)
              clear hK K
              refine wpAnyH_done (by kernel_rfl) ?_ _
              obtain ⟨wz, hwz⟩ : ∃ wz, wz = W6.drew := ⟨_, rfl⟩
              rw [← hwz] at hHeld ⊢
              clear hwz
              have HKS : Hid (∀ k, k < w.heap.size + 8 → k ≠ w.heap.size + 3 → wz.heap[k]? = W'.heap[k]?) := fun k hk _ => (hHeld.block k (by omega)).trans (HK6.out k hk)
              have HBS : Hid (Below w.heap.size w wz) := HB6.out.trans (hHeld.mono HB6.out.size)
              have HZS : Hid (w.heap.size + 8 ≤ wz.heap.size) := Nat.le_trans hz6 hHeld.size
              clear hHeld
              gi_wp2
              have k0 : Blk wz w.heap.size 47 #[.slice none 0 0] := (HKS.out _ (by omega) (by omega)).trans g2
              have k1 : Blk wz (w.heap.size + 1) 3 #[.int .i64 0] := (HKS.out _ (by omega) (by omega)).trans g3
              have k2 : Blk wz (w.heap.size + 1 + 1) 29 #[.int .i64 0] := (HKS.out _ (by omega) (by omega)).trans g4
              have k4 : Blk wz (w.heap.size + 1 + 1 + 1 + 1) 3 #[.int .i64 (pre.length : Int)] := (HKS.out _ (by omega) (by omega)).trans g5
              have s0 := k0.cell 0
              have s1 := k1.cell 0
              have s2 := k2.cell 0
              have s4 := k4.cell 0
              have r0 := k0.frozen 0
              have r1 := k1.frozen 0
              have r2 := k2.frozen 0
              clear k0 k1 k2 k4
              refine region_round (S := fun Wx => Wx.cell? ⟨w.heap.size + 1 + 1 + 1 + 1, 0, none⟩ = some (.int .i64 (pre.length : Int))) hmx (by kernel_rfl) ?nl s4 (fun hHeld => ?_)
              case nl => rintro ⟨a', w', hh⟩; obtain ⟨_, hh⟩ := hh; rcases hh with ⟨h, _⟩ | ⟨h, _⟩ <;> cases h
              refine wpAnyH_take (i := 0) (v := .int .i64 (pre.length : Int)) rfl (by kernel_rfl) (by kernel_rfl) (by kernel_rfl) (fun _ _ _ h => h) (.inl ⟨by rfl, fun W hS => by go_simp⟩) hHeld ?_
              simp only [Act.put, List.setIfInBounds_toArray, List.set_cons_zero, List.set_cons_succ, List.getElem_toArray, List.getElem_cons_succ, List.getElem_cons_zero]
              refine wpAnyH_ready (rs := [1]) (by kernel_rfl) (by simp) ?_
              refine AllReadyH.cons rfl (fun K hK => ?_) AllReadyH.nil
              go_simp
              refine hK.out _ _ (cell_setFar hHeld (by show w.heap.size + 1 + 1 + 1 + 1 ≠ w.heap.size; omega)) (fun hHeld => ?_)
              clear hK K
              refine wpAnyH_ready (rs := [2]) (by kernel_rfl) (by simp) ?_
              refine AllReadyH.cons rfl (fun K hK => ?_) AllReadyH.nil
              go_simp
              refine hK.out _ _ (cell_setFar hHeld (by show w.heap.size + 1 + 1 + 1 + 1 ≠ w.heap.size + 1; omega)) (fun hHeld => ?_)
              clear hK K
              refine wpAnyH_ready (rs := [3]) (by kernel_rfl) (by simp) ?_
              refine AllReadyH.cons rfl (fun K hK => ?_) AllReadyH.nil
              go_simp
              refine hK.out _ _ (cell_setFar hHeld (by show w.heap.size + 1 + 1 + 1 + 1 ≠ w.heap.size + 1 + 1; omega)) (fun hHeld => ?_)
              clear hK K
              refine wpAnyH_done (by kernel_rfl) ?_ _
              clear hHeld
              gi_wp2
              have hst := end_stop HS0.out HKS.out HBS.out HZS.out HPG.out hr
              exact ⟨hst.1, hst.2.drew⟩
  · intro W' hS
    obtain ⟨g1, g2, g3, g4, g5, g6, g7, es, v, g8, g9, g10⟩ := hS
    obtain ⟨A, c, rfl, hrd⟩ := g10.reads
    have H8 := Lib.hid (parseGo_all s es g8)
    have s3 := g9.cell 0
    have s0 := g2.cell 0
    have s1 := g3.cell 0
    have s2 := g4.cell 0
    have r0 := g2.frozen 0
    have r1 := g3.frozen 0
    have r2 := g4.frozen 0
    rw [hs0]
    clear g8 hrd
    have hsk : Hid (∀ (W'' : World) (_ : W'' = ((W'.setCell ⟨w.heap.size, 0, none⟩ (.slice A es.length c)).setCell ⟨w.heap.size + 1, 0, none⟩ (.int .i64 0)).setCell ⟨w.heap.size + 1 + 1, 0, none⟩ (.int .i64 0)), (∀ k, k ≠ w.heap.size → k ≠ w.heap.size + 1 → k ≠ w.heap.size + 2 → W''.heap[k]? = W'.heap[k]?) ∧ Blk W'' w.heap.size 47 #[.slice A es.length c] ∧ Blk W'' (w.heap.size + 1) 3 #[.int .i64 0] ∧ Blk W'' (w.heap.size + 1 + 1) 29 #[.int .i64 0] ∧ Below w.heap.size w W'' ∧ W''.heap.size = W'.heap.size) := fun W'' hW => by
      subst hW
      refine ⟨fun k h1 h2 h3 => ?_, ?_, ?_, ?_, ?_, by simp⟩
      · rw [Below.heap_setCell _ ⟨w.heap.size + 1 + 1, 0, none⟩ _ k (by show k ≠ w.heap.size + 1 + 1; omega), Below.heap_setCell _ ⟨w.heap.size + 1, 0, none⟩ _ k (by show k ≠ w.heap.size + 1; omega), Below.heap_setCell _ ⟨w.heap.size, 0, none⟩ _ k (by show k ≠ w.heap.size; omega)]
      · exact ((g2.set_ 0 _).far (p := ⟨w.heap.size + 1, 0, none⟩) (by show w.heap.size ≠ w.heap.size + 1; omega) _).far (p := ⟨w.heap.size + 1 + 1, 0, none⟩) (by show w.heap.size ≠ w.heap.size + 1 + 1; omega) _
      · exact ((g3.far (p := ⟨w.heap.size, 0, none⟩) (by show w.heap.size + 1 ≠ w.heap.size; omega) _).set_ 0 _).far (p := ⟨w.heap.size + 1 + 1, 0, none⟩) (by show w.heap.size + 1 ≠ w.heap.size + 1 + 1; omega) _
      · exact ((g4.far (p := ⟨w.heap.size, 0, none⟩) (by show w.heap.size + 1 + 1 ≠ w.heap.size; omega) _).far (p := ⟨w.heap.size + 1, 0, none⟩) (by show w.heap.size + 1 + 1 ≠ w.heap.size + 1; omega) _).set_ 0 _
      · exact ((g6.setCell (by show w.heap.size ≤ w.heap.size; omega) _).setCell (by show w.heap.size ≤ w.heap.size + 1; omega) _).setCell (by show w.heap.size ≤ w.heap.size + 1 + 1; omega) _
    gi_wp2
    obtain ⟨Wf, hWf⟩ : ∃ Wf, Wf = ((W'.setCell ⟨w.heap.size, 0, none⟩ (.slice A es.length c)).setCell ⟨w.heap.size + 1, 0, none⟩ (.int .i64 0)).setCell ⟨w.heap.size + 1 + 1, 0, none⟩ (.int .i64 0) := ⟨_, rfl⟩
    rw [← hWf]
    obtain ⟨q1, q2, q3, q4, q5, q6⟩ := hsk.out Wf hWf
    have hD : Wf.heap[w.heap.size + 6]? = some (.deferred (some [])) := (q1 _ (by omega) (by omega) (by omega)).trans g1
    have hk : KeepsLo (w.heap.size + 8) W' (Wf.putObj (w.heap.size + 6) (.deferred none)) := ⟨by rw [World.putObj_size, q6]; exact Nat.le_refl _, fun i h1 h2 => by
      rw [World.putObj_heap_other (by omega)]
      exact q1 i (by omega) (by omega) (by omega)⟩
    obtain ⟨A2, c2, e2, hrd2⟩ := (g10.keeps hk).reads
    injection e2 with e3 _ e4
    subst e3 e4
    refine ⟨by simp, .inl ⟨_, _, rfl, run_takeDeferred hD, ⟨_, results_cells3 rfl _ _ w.heap.size (w.heap.size + 1) (w.heap.size + 1 + 1) _ _ _ rfl rfl rfl ((putObj_block q2 (by omega)).cell 0) ((putObj_block q3 (by omega)).cell 0) ((putObj_block q4 (by omega)).cell 0), ?_⟩⟩⟩
    refine ⟨⟨q5.os, q5.tape, q5.output, by rw [World.putObj_size]; exact q5.size, fun i hi => (World.putObj_heap_other (by omega)).trans (q5.block i hi)⟩, ?_⟩
    rw [H8.out]
    exact ⟨A, c, rfl, hrd2⟩
  · rintro pre W' ⟨h1, h2, n, h3, h4, h5, h6⟩
    have H3 := Lib.hid h3
    rw [hs0]
    clear h3
    gi_wp2
    refine ⟨by simp, .inl ⟨_, _, rfl, run_takeDeferred h1, ⟨_, results_cells3 rfl _ _ w.heap.size (w.heap.size + 1) (w.heap.size + 1 + 1) _ _ _ rfl rfl rfl ((putObj_block h4 (by omega)).cell 0) ((putObj_block h5 (by omega)).cell 0) ((putObj_block h6 (by omega)).cell 0), ?_⟩⟩⟩
    refine ⟨⟨h2.os, h2.tape, h2.output, by rw [World.putObj_size]; exact h2.size, fun i hi => (World.putObj_heap_other (by omega)).trans (h2.block i hi)⟩, ?_⟩
    rw [H3.out]
    rfl
end Go.Proofs.YtfjfjjcdlgdbcaaDoor
