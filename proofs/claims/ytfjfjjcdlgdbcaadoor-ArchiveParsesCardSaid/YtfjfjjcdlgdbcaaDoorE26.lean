/- archive.parsed at a list -/
import Derived.Test.YtfjfjjcdlgdbcaaDoorE25
import Derived.Deep.RegionHeld3
namespace Go.Proofs.YtfjfjjcdlgdbcaaDoor
open Go.RowKit Go.Shelf
set_option linter.unusedSimpArgs false
set_option linter.unusedVariables false
attribute [local go_sem] Oper.semAt_some


/-- a part that reads as a key -/
def goodP (p : List UInt8) : Prop := (undigL p).2 = true ∧ p ≠ [46]
theorem keysP_snoc (x : List UInt8) (hx : (undigL x).2 = true ∧ x ≠ [46]) : ∀ (pre : List (List UInt8)) (d : List (List UInt8 × List UInt8)), keysP pre = some d → keysP (pre ++ [x]) = some (d ++ [((undigL x).1, [])])
  | [], d, h => by
    obtain rfl : [] = d := by simpa [keysP] using h
    simp [keysP, hx]
  | p :: ps, d, h => by
    rw [keysP] at h
    split at h
    · rename_i hp
      cases hk : keysP ps with
      | none => rw [hk] at h; cases h
      | some e =>
        rw [hk] at h
        obtain rfl : _ = d := Option.some.inj h
        rw [List.cons_append, keysP, if_pos hp, keysP_snoc x hx ps e hk]
        rfl
    · cases h
theorem keysP_bad (x : List UInt8) (hx : ¬ ((undigL x).2 = true ∧ x ≠ [46])) (rest : List (List UInt8)) : ∀ (pre : List (List UInt8)), keysP (pre ++ x :: rest) = none
  | [] => by rw [List.nil_append, keysP, if_neg hx]
  | p :: ps => by
    rw [List.cons_append, keysP, keysP_bad x hx rest ps]
    split <;> rfl
theorem splitL_part (c : UInt8) : ∀ (s : List UInt8) (x : List UInt8), x ∈ splitL c s → x.length ≤ s.length
  | [], x, h => by
    have : x = [] := by simpa [splitL] using h
    simp [this]
  | b :: l, x, h => by
    rw [splitL] at h
    split at h
    · rcases List.mem_cons.1 h with rfl | h
      · simp
      · have := splitL_part c l x h
        simp; omega
    · cases hs : splitL c l with
      | nil => exact absurd hs (splitL_ne c l)
      | cons p ps =>
        rw [hs] at h
        rcases List.mem_cons.1 h with rfl | h
        · have := splitL_part c l p (by rw [hs]; simp)
          simp; omega
        · have := splitL_part c l x (by rw [hs]; simp [h])
          simp; omega
theorem gr_putObj {g l : Nat} {W w : World} (h : W.grownBy w (some g)) (hl : W.heap.size ≤ l) (o : Obj) : W.grownBy (w.putObj l o) (some g) :=
  ⟨h.os, h.tape, h.output, by rw [World.putObj_size]; exact h.size, fun i hi hne => (World.putObj_heap_other (by omega)).trans (h.block i hi hne)⟩
theorem Blk.new' {w : World} {t : TypeId} {cs : Array Value} {n : Nat} (h : n = w.heap.size) : Blk (w.alloc (.cells cs t)) n t cs := by subst h; exact Blk.new w t cs
/-- keys' cells, no values -/
def kvc (ks : List Value) : List Value := ks.flatMap fun v => [v, .slice none 0 0]
theorem kvc_snoc (ks : List Value) (v : Value) : kvc (ks ++ [v]) = kvc ks ++ [v, .slice none 0 0] := by simp [kvc]
theorem kvc_length (ks : List Value) : (kvc ks).length = ks.length * 2 := by
  induction ks with
  | nil => rfl
  | cons k ks ih => simp only [kvc, List.flatMap_cons, List.length_append, List.length_cons, List.length_nil] at ih ⊢; rw [ih]; omega
theorem kvc_get : ∀ (ks : List Value) (j : Nat) (v : Value), ks[j]? = some v → (kvc ks)[j * 2]? = some v ∧ (kvc ks)[j * 2 + 1]? = some (.slice none 0 0)
  | [], j, v, h => by cases h
  | k :: ks, 0, v, h => by simp only [List.getElem?_cons_zero, Option.some.injEq] at h; subst h; exact ⟨rfl, rfl⟩
  | k :: ks, j + 1, v, h => by
    have := kvc_get ks j v (by simpa using h)
    have e : kvc (k :: ks) = k :: .slice none 0 0 :: kvc ks := rfl
    rw [e, show (j + 1) * 2 = j * 2 + 1 + 1 by omega]
    exact this
/-- a key's bytes, in a row of bytes -/
def KeyAt (w : World) (B : Nat) (C : Option Addr) (m d : Nat) (xs : List UInt8) : Prop := RdBx w B C m d xs ∧ ∀ ad, C = some ad → ∃ cs, Blk w ad.block 5 cs
theorem KeyAt.keeps {w w' : World} {B : Nat} {C : Option Addr} {m d : Nat} {xs : List UInt8} (h : KeyAt w B C m d xs) (hk : KeepsLo B w w') : KeyAt w' B C m d xs :=
  ⟨h.1.keeps hk, fun ad e => by
    obtain ⟨cs, hc⟩ := h.2 ad e
    exact ⟨cs, (hk.2 _ (h.1.2 ad e).1 (h.1.2 ad e).2).trans hc⟩⟩
theorem KeyAt.grown {w w' : World} {B : Nat} {C : Option Addr} {m d : Nat} {xs : List UInt8} {row : Option Nat} (h : KeyAt w B C m d xs) (hg : w.grownBy w' row) (hne : ∀ ad, C = some ad → some ad.block ≠ row) : KeyAt w' B C m d xs := by
  obtain ⟨⟨⟨h1, h2, h3, h4⟩, h5⟩, h6⟩ := h
  refine ⟨⟨⟨h1, h2, h3, fun hn => ?_⟩, fun ad e => ⟨(h5 ad e).1, Nat.lt_of_lt_of_le (h5 ad e).2 hg.size⟩⟩, fun ad e => ?_⟩
  · obtain ⟨ad, e, hc⟩ := h4 hn
    refine ⟨ad, e, fun j u hu => ?_⟩
    rw [cell_of_heap (hg.block _ (by rw [add_block]; exact (h5 ad e).2) (by rw [add_block]; exact hne ad e))]
    exact hc j u hu
  · obtain ⟨cs, hc⟩ := h6 ad e
    exact ⟨cs, (hg.block _ (h5 ad e).2 (hne ad e)).trans hc⟩
theorem own_ne {w : World} {B : Nat} {u : Value} {n : Nat} {xs : List Value} (h : w.ownsRow B 112 2 u n xs) {k : Nat} {cs : Array Value} (hb : Blk w k 5 cs) : some k ≠ u.ownBlock := by
  rcases h.2 with ⟨rfl, _⟩ | ⟨g, cap, cur, rfl, _, hh, _⟩
  · intro e; cases e
  · intro e
    obtain rfl : k = g := Option.some.inj e
    unfold Blk at hb
    rw [hb] at hh
    have h1 := Option.some.inj hh
    injection h1 with _ h2
    exact absurd h2 (by decide)
/-- a row of keys that a walk has made beyond block B -/
def OwnL (w : World) (B : Nat) (v : Value) (done : List (List UInt8 × List UInt8)) : Prop :=
  ∃ ks : List Value, ks.length = done.length ∧ w.ownsRow B 112 2 v done.length (kvc ks) ∧ ∀ (j : Nat) (u : Value) (kv : List UInt8 × List UInt8), ks[j]? = some u → done[j]? = some kv → kv.2 = [] ∧ ∃ C m d, u = .slice C m d ∧ KeyAt w B C m d kv.1
theorem OwnL.nil (w : World) (B : Nat) : OwnL w B (.slice none 0 0) [] := ⟨[], rfl, World.ownsRow_nil _ _ _ _, fun j u kv h => by cases h⟩
theorem own_keepsLo {w w' : World} {B : Nat} {e : TypeId} {size : Nat} {v : Value} {n : Nat} {xs : List Value} (h : w.ownsRow B e size v n xs) (hk : KeepsLo B w w') : w'.ownsRow B e size v n xs := by
  refine ⟨h.1, ?_⟩
  rcases h.2 with h2 | ⟨g, cap, cur, e1, e2, e3, e4⟩
  · exact .inl h2
  · exact .inr ⟨g, cap, cur, e1, e2, (hk.2 g e2 (Array.getElem?_eq_some_iff.1 e3).1).trans e3, e4⟩
theorem OwnL.keeps {w w' : World} {B : Nat} {v : Value} {done : List (List UInt8 × List UInt8)} (h : OwnL w B v done) (hk : KeepsLo B w w') : OwnL w' B v done := by
  obtain ⟨ks, h1, h2, h3⟩ := h
  refine ⟨ks, h1, own_keepsLo h2 hk, fun j u kv hj hd => ?_⟩
  obtain ⟨e, C, m, d, e2, e3⟩ := h3 j u kv hj hd
  exact ⟨e, C, m, d, e2, e3.keeps hk⟩
theorem OwnL.slice {w : World} {B : Nat} {v : Value} {done : List (List UInt8 × List UInt8)} (h : OwnL w B v done) : ∃ a n c, v = .slice a n c := by
  obtain ⟨ks, h1, h2, h3⟩ := h
  rcases h2.2 with ⟨e, _⟩ | ⟨g, cap, cur, e, _⟩
  · exact ⟨_, _, _, e⟩
  · exact ⟨_, _, _, e⟩
theorem keysP_length : ∀ (pre : List (List UInt8)) (d : List (List UInt8 × List UInt8)), keysP pre = some d → d.length = pre.length
  | [], d, h => by
    obtain rfl : [] = d := by simpa [keysP] using h
    rfl
  | p :: ps, d, h => by
    rw [keysP] at h
    split at h
    · cases hk : keysP ps with
      | none => rw [hk] at h; cases h
      | some e =>
        rw [hk] at h
        obtain rfl : _ = d := Option.some.inj h
        simp [keysP_length ps e hk]
    · cases h
theorem splitL_length (c : UInt8) : ∀ s : List UInt8, (splitL c s).length ≤ s.length + 1
  | [] => by simp [splitL]
  | b :: l => by
    have := splitL_length c l
    rw [splitL]
    split
    · simp; omega
    · cases h : splitL c l with
      | nil => exact absurd h (splitL_ne c l)
      | cons p ps => rw [h] at this; simp [consHead] at this ⊢; omega
theorem KeepsLo.drew {B : Nat} {w w' : World} (h : KeepsLo B w w') : KeepsLo B w w'.drew := h
theorem info112 : (Tryd.prog.info? 112).map (fun i => (i.zero, i.size, i.bytes)) = some (some (.agg #[.slice none 0 0, .slice none 0 0]), 2, 48) := by kernel_rfl
theorem OwnL.succ {w : World} {B : Nat} {v : Value} {d : List (List UInt8 × List UInt8)} {kv : List UInt8 × List UInt8} (h : OwnL w B v (d ++ [kv])) : ∃ g cap, v = .slice (some ⟨g, 0, none⟩) (d.length + 1) cap := by
  obtain ⟨ks, h1, h2, h3⟩ := h
  rw [show (d ++ [kv]).length = d.length + 1 by simp] at h2
  exact ownsRow_succ h2
/-- a key is appended -/
theorem append_key {w : World} {B : Nat} {u : Value} {done : List (List UInt8 × List UInt8)} (h : OwnL w B u done) (hB : B ≤ w.heap.size) (A1 : Option Addr) (n1 c1 : Nat) (xs : List UInt8) (hr : KeyAt w B A1 n1 c1 xs) (hd : done.length ≤ 100000001) :
    ∃ v2 w2, (Builtin.append_ #[62, 62] 62 #[u, .slice (some ⟨w.heap.size, 0, none⟩) 1 1]).run Tryd.prog ((w.alloc (.cells #[.slice A1 n1 c1, .slice none 0 0] 112)).drew) = .ok v2 w2 ∧
      ((w.alloc (.cells #[.slice A1 n1 c1, .slice none 0 0] 112)).drew).grownBy w2 u.ownBlock ∧ OwnL w2 B v2 (done ++ [(xs, [])]) := by
  obtain ⟨i0, hi, hz0, hz1, hz2⟩ := info_parts info112
  have hk : KeepsLo B w ((w.alloc (.cells #[.slice A1 n1 c1, .slice none 0 0] 112)).drew) := KeepsLo.drew (KeepsLo.below (al (Below.refl _ w) _))
  obtain ⟨ks, k1, k2, k3⟩ := h.keeps hk
  obtain ⟨v2, w2, hrun, r1, r2, r3⟩ := run_append_own (P := Tryd.prog) ((w.alloc (.cells #[.slice A1 n1 c1, .slice none 0 0] 112)).drew) B 62 62 112 i0 _ 2 48 Tryd.underlying62 hi hz0 hz1 hz2 rfl (by decide) u done.length (kvc ks) k2
    ⟨w.heap.size, 0, none⟩ 1 1 [.slice A1 n1 c1, .slice none 0 0] rfl (by
      intro j u hu
      have hn := (Blk.new w 112 #[.slice A1 n1 c1, .slice none 0 0]).drew.cell j
      have e : (⟨w.heap.size, 0, none⟩ : Addr).add j = ⟨w.heap.size, j, none⟩ := by unfold Addr.add; split <;> simp_all
      rw [e, hn]
      simpa using hu) (by simp [Value.oneCell']) (by unfold maxLen; omega) (by omega) (by simp; omega)
  refine ⟨v2, w2, hrun, r2, ks ++ [.slice A1 n1 c1], by simp [k1], ?_, ?_⟩
  · rw [kvc_snoc, show (done ++ [(xs, ([] : List UInt8))]).length = done.length + 1 by simp]
    exact r1
  · intro j u' kv hj hd'
    have key : ∀ C m d ys, KeyAt ((w.alloc (.cells #[.slice A1 n1 c1, .slice none 0 0] 112)).drew) B C m d ys → KeyAt w2 B C m d ys := fun C m d ys hk => hk.grown r2 (fun ad e => by
      obtain ⟨cs, hc⟩ := hk.2 ad e
      exact own_ne k2 hc)
    rcases Nat.lt_or_ge j ks.length with hlt | hge
    · rw [List.getElem?_append_left hlt] at hj
      rw [List.getElem?_append_left (by omega)] at hd'
      obtain ⟨e, C, m, d, e2, e3⟩ := k3 j u' kv hj hd'
      exact ⟨e, C, m, d, e2, key _ _ _ _ e3⟩
    · rw [List.getElem?_append_right hge] at hj
      rw [List.getElem?_append_right (by omega)] at hd'
      obtain ⟨hj0, rfl⟩ : j - ks.length = 0 ∧ Value.slice A1 n1 c1 = u' := by
        cases hjj : j - ks.length with
        | zero => rw [hjj] at hj; exact ⟨rfl, by simpa using hj⟩
        | succ i => rw [hjj] at hj; simp at hj
      rw [← k1, hj0] at hd'
      obtain rfl : (xs, ([] : List UInt8)) = kv := by simpa using hd'
      exact ⟨rfl, A1, n1, c1, rfl, key _ _ _ _ (hr.keeps hk)⟩
theorem OwnL.lt {w : World} {B : Nat} {v : Value} {done : List (List UInt8 × List UInt8)} (h : OwnL w B v done) : ∀ k, v.ownBlock = some k → B ≤ k ∧ k < w.heap.size := by
  obtain ⟨ks, h1, h2, h3⟩ := h
  exact h2.lt
theorem armH_run (w : World) {ops : Array Oper} {o : Oper} {a : Act} {K : Act → World → Prop} {Q : Exit → Act → World → Prop} {E : Prop}
    (hgd : o.guard = none) (s x : Operand) (ho : o.op = .call { callee := .builtin .append, args := #[s, x], argTypes := #[62, 62] }) (hty : o.type = 62)
    (v u : Value) (hs : a.eval s = v) (hx : a.eval x = u) (v' : Value) (w' : World) (hrun : (Builtin.append_ #[62, 62] 62 #[v, u]).run Tryd.prog w = .ok v' w')
    (h : K (a.put o.dst v') w') :
    if Region.wanted o (yielded ops a.tmps) = true then Oper.wp Tryd.prog o a w K Q else E := by
  have hw : Region.wanted o (yielded ops a.tmps) = true := by simp [Region.wanted, hgd]
  rw [if_pos hw]
  unfold Oper.wp execOp
  simp only [ho, hty, resolve, invoke, builtin, Sem.run_bind, Sem.run_pure, Result.andThen_ok, List.map_toArray, List.map_cons, List.map_nil, hs, hx, hrun]
  exact h
/-- what lies between two rounds of a list -/
structure LState (A : ActP) (bS : Value) (g : Nat) (W : World) (pre : List (List UInt8)) (W' : World) : Prop where
  dfr : W'.heap[W.heap.size + 6]? = some (.deferred (some []))
  box : Blk W' W.heap.size 128 #[.pointer (some ⟨g, 0, none⟩)]
  res : Blk W' (W.heap.size + 2) 4 #[.bool false]
  gr : W.grownBy W' (some g)
  sz : W.heap.size + 8 ≤ W'.heap.size
  row : ∃ done v, keysP pre = some done ∧ Blk W' g 64 (ak { A with l := done } bS v) ∧ OwnL W' (W.heap.size + 8) v done
theorem LState.same {A : ActP} {bS : Value} {g : Nat} {W : World} {pre : List (List UInt8)} {W' W'' : World} (h : LState A bS g W pre W') (hgW : g < W.heap.size) (ho : W''.os = W'.os) (ht : W''.tape = W'.tape) (hu : W''.output = W'.output) (hsz : W''.heap.size = W'.heap.size)
    (hk : ∀ i, ¬ i = W.heap.size + 3 → ¬ i = W.heap.size + 7 → W''.heap[i]? = W'.heap[i]?) : LState A bS g W pre W'' := by
  obtain ⟨h1, h2, h3, h4, h5, done, v, h6, h7, h8⟩ := h
  refine ⟨(hk _ (by omega) (by omega)).trans h1, (hk _ (by omega) (by omega)).trans h2, (hk _ (by omega) (by omega)).trans h3, ⟨ho.trans h4.os, ht.trans h4.tape, hu.trans h4.output, by rw [hsz]; exact h4.size, fun i hi hne => (hk i (by omega) (by omega)).trans (h4.block i hi hne)⟩, by omega, done, v, h6, (hk g (by omega) (by omega)).trans h7, h8.keeps ⟨by omega, fun i h1 h2 => hk i (by omega) (by omega)⟩⟩
theorem LState.putObj {A : ActP} {bS : Value} {g : Nat} {W : World} {pre : List (List UInt8)} {W' : World} (h : LState A bS g W pre W') (hgW : g < W.heap.size) (o : Obj) : LState A bS g W pre (W'.putObj (W.heap.size + 7) o) :=
  h.same hgW rfl rfl rfl World.putObj_size (fun i _ h2 => World.putObj_heap_other h2)
theorem LState.set {A : ActP} {bS : Value} {g : Nat} {W : World} {pre : List (List UInt8)} {W' : World} (h : LState A bS g W pre W') (hgW : g < W.heap.size) (v : Value) : LState A bS g W pre (W'.setCell ⟨W.heap.size + 3, 0, none⟩ v) := by
  have hb := Below.setCell (Below.refl 0 W') (p := ⟨W.heap.size + 3, 0, none⟩) (Nat.zero_le _) v
  refine h.same hgW hb.os hb.tape hb.output ?_ (fun i h1 _ => Below.heap_setCell W' ⟨W.heap.size + 3, 0, none⟩ v i (by show i ≠ W.heap.size + 3; exact h1))
  simp

theorem list_step {A : ActP} {bS : Value} {g : Nat} {W W' w1 w2 : World} {pre : List (List UInt8)} {x : List UInt8} {done : List (List UInt8 × List UInt8)} {kv : List UInt8 × List UInt8} {u v2 : Value} {c : Obj} {t : List UInt8}
    (hA : A.Fit) (hgW : g < W.heap.size) (hS : LState A bS g W pre W') (hv : SeqVars W' (W.heap.size + 3) t) (hb1 : Below W'.heap.size W' w1) (hne : ∀ k, u.ownBlock = some k → W.heap.size + 8 ≤ k) (hr2 : ((w1.alloc c).drew).grownBy w2 u.ownBlock)
    (hB2 : Blk w2 g 64 (ak { A with l := done } bS u)) (hl2 : OwnL w2 (W.heap.size + 8) v2 (done ++ [kv])) (hkp : keysP (pre ++ [x]) = some (done ++ [kv])) :
    Blk w2 W.heap.size 128 #[.pointer (some ⟨g, 0, none⟩)] ∧ Blk (w2.setCell ⟨g, 120, none⟩ v2) W.heap.size 128 #[.pointer (some ⟨g, 0, none⟩)] ∧
      ((w2.setCell ⟨g, 120, none⟩ v2).heap[W.heap.size + 6 + 1]? = W'.heap[W.heap.size + 6 + 1]? ∧ LState A bS g W (pre ++ [x]) (w2.setCell ⟨g, 120, none⟩ v2) ∧ SeqVars (w2.setCell ⟨g, 120, none⟩ v2) (W.heap.size + 3) t) := by
  have hsz := hS.sz
  have hb2 : Below W'.heap.size W' ((w1.alloc c).drew) := ⟨(al hb1 c).os, (al hb1 c).tape, (al hb1 c).output, (al hb1 c).size, (al hb1 c).block⟩
  have key : ∀ i, i < W.heap.size + 8 → w2.heap[i]? = W'.heap[i]? := fun i hi => by
    refine (hr2.block i ?_ (fun e => ?_)).trans (hb2.block i (by omega))
    · have := hb2.size; omega
    · have := hne i e.symm; omega
  have keyS : ∀ i, i < W.heap.size + 8 → ¬ i = g → (w2.setCell ⟨g, 120, none⟩ v2).heap[i]? = W'.heap[i]? := fun i hi hg => by
    rw [Below.heap_setCell w2 ⟨g, 120, none⟩ v2 i (by show i ≠ g; exact hg)]
    exact key i hi
  have hbox : Blk w2 W.heap.size 128 #[.pointer (some ⟨g, 0, none⟩)] := (key _ (by omega)).trans hS.box
  have hgr : W.grownBy w2 (some g) := ⟨hr2.os.trans (hb2.os.trans hS.gr.os), hr2.tape.trans (hb2.tape.trans hS.gr.tape), hr2.output.trans (hb2.output.trans hS.gr.output), by have h1 := hr2.size; have h2 := hb2.size; omega, fun i hi hng => (key i (by omega)).trans (hS.gr.block i hi hng)⟩
  have hsz2 : W'.heap.size ≤ w2.heap.size := Nat.le_trans hb2.size hr2.size
  refine ⟨hbox, hbox.far (p := ⟨g, 120, none⟩) (by show W.heap.size ≠ g; omega) v2, keyS _ (by omega) (by omega), ⟨?_, ?_, ?_, gr_setCell hgr _ _, ?_, done ++ [kv], v2, hkp, ?_, ?_⟩, ⟨?_, ?_, ?_⟩⟩
  · exact (keyS _ (by omega) (by omega)).trans hS.dfr
  · exact hbox.far (p := ⟨g, 120, none⟩) (by show W.heap.size ≠ g; omega) v2
  · exact (keyS _ (by omega) (by omega)).trans hS.res
  · simp; omega
  · have h1 := hB2.set_ 120 v2
    rw [set_l { A with l := done } _ _ _ (done ++ [kv]) ⟨hA.ha, hA.hk, hA.hw, hA.hr, hA.hn0, hA.hn1, hA.hm0, hA.hm1, hA.hk0, hA.hk1⟩] at h1
    exact h1
  · exact hl2.keeps ⟨by simp, fun i h1 _ => Below.heap_setCell w2 ⟨g, 120, none⟩ v2 i (by show i ≠ g; omega)⟩
  · exact (keyS _ (by omega) (by omega)).trans hv.text
  · exact (keyS _ (by omega) (by omega)).trans hv.sep
  · exact (keyS _ (by omega) (by omega)).trans hv.save
theorem RdKVx.weaken {w : World} {lo lo' : Nat} {A : Option Addr} {n c : Nat} {kvs : List (List UInt8 × List UInt8)} (h : RdKVx w lo' A n c kvs) (hl : lo ≤ lo') : RdKVx w lo A n c kvs := by
  obtain ⟨h1, h2, h3, h4⟩ := h
  refine ⟨h1, fun ad e => ⟨Nat.le_trans hl (h2 ad e).1, (h2 ad e).2⟩, fun g o e j kv hj => ?_, h4⟩
  obtain ⟨B, m, d, B', m', d', a1, a2, a3, a4⟩ := h3 g o e j kv hj
  exact ⟨B, m, d, B', m', d', a1, a2.weaken hl, a3, a4.weaken hl⟩
theorem OwnL.reads {w : World} {B : Nat} {v : Value} {done : List (List UInt8 × List UInt8)} (h : OwnL w B v done) (hd : done ≠ []) : ∃ A c, v = .slice A done.length c ∧ RdKVx w B A done.length c done := by
  obtain ⟨ks, k1, k2, k3⟩ := h
  have hpos : 0 < done.length := List.length_pos_iff.2 hd
  rcases k2.2 with ⟨_, h0⟩ | ⟨g, cap, cur, rfl, hB, hh, hn, hm, _, _⟩
  · omega
  · refine ⟨_, cap, rfl, ?_⟩
    have key : ∀ (g' o : Nat), (some ⟨g, 0, none⟩ : Option Addr) = some ⟨g', o, none⟩ → ∀ (j : Nat) (kv : List UInt8 × List UInt8), done[j]? = some kv → ∃ B1 m d B' m' d', w.cell? ⟨g', o + j * 2, none⟩ = some (.slice B1 m d) ∧ RdBx w B B1 m d kv.1 ∧ w.cell? ⟨g', o + j * 2 + 1, none⟩ = some (.slice B' m' d') ∧ RdBx w B B' m' d' kv.2 := by
      intro g' o e j kv hj
      injection e with e
      injection e with e1 e2
      subst e1 e2
      have hjl : j < ks.length := by rw [k1]; exact (List.getElem?_eq_some_iff.1 hj).1
      have hk : ks[j]? = some ks[j] := List.getElem?_eq_getElem hjl
      obtain ⟨e, C, m, d, e2, e3⟩ := k3 j _ kv hk hj
      obtain ⟨c1, c2⟩ := kvc_get ks j _ hk
      have hl : (kvc ks).length = done.length * 2 := k2.1
      have h1 := World.ownsRow.cellAt k2 (j * 2) (by omega)
      have h2 := World.ownsRow.cellAt k2 (j * 2 + 1) (by omega)
      rw [c1, e2] at h1
      rw [c2] at h2
      refine ⟨C, m, d, none, 0, 0, by rw [Nat.zero_add]; exact h1, e3.1, by rw [Nat.zero_add]; exact h2, ?_⟩
      rw [e]
      exact RdBx.nil _ _
    refine ⟨⟨rfl, hn, hm, fun _ => ⟨g, 0, rfl, fun j kv hj => ?_⟩⟩, fun ad e => ?_, key, fun h => absurd h hd⟩
    · obtain ⟨B1, m, d, B', m', d', a1, a2, a3, a4⟩ := key g 0 rfl j kv hj
      exact ⟨B1, m, d, B', m', d', a1, a2.1, a3, a4.1⟩
    · injection e with e
      subst e
      exact ⟨hB, (Array.getElem?_eq_some_iff.1 hh).1⟩
attribute [-go_sem] Builtin.append_
set_option maxRecDepth 100000 in
set_option maxHeartbeats 800000 in
theorem parsed_l_some (s : List UInt8) (hs : s.length ≤ 100000000) (hd : ¬ s = [46]) (A : ActP) (bA : Option Addr) (bn bc g lo : Nat) (W : World) (hglo : g < lo) (hlo : lo ≤ W.heap.size)
    (hB : Blk W g 64 (ak A (.slice bA bn bc) (.slice none 0 0))) (hR : RdActX W lo A bA bn bc none 0 0) (hnil : A.l = []) :
    Calls Tryd.prog 73 #[.pointer (some ⟨g, 0, none⟩), .int .i32 108, .string (str s)] W fun e W' => W.grownBy W' (some g) ∧
      ((e = .returned (.bool false) ∧ pF A 108 s = none) ∨ (e = .returned (.bool true) ∧ ∃ A' bA' bn' bc' lA' ln' lc', pF A 108 s = some A' ∧ Blk W' g 64 (ak A' (.slice bA' bn' bc') (.slice lA' ln' lc')) ∧ RdActX W' lo A' bA' bn' bc' lA' ln' lc')) := by
  have hss := Lib.hid (fun w => callsIn_wide (n := 2) |>.2 (SplitSeq_calls (str s) w))
  have hq : ((str s).toList == [46]) = false := by rw [str_list]; simpa using hd
  have HB := Lib.hid hB
  have HR := Lib.hid hR
  clear hB hR
  refine (callsIn_wide (n := 3)).1 ?_
  refine callsIn_of_wp_marks Tryd.func73 rfl trivial ?_ rfl
  simp only [Tryd.ntmps73, List.size_toArray, List.length_cons, List.length_nil, Nat.reduceAdd, Nat.reduceSub, Array.replicate_succ, Array.replicate_zero, List.push_toArray, List.append_toArray, List.nil_append, List.cons_append]
  gi_wp2_with (refine ⟨trivial, ?_⟩; gi_at_call 110; refine (hss.out _).mono ?_; rintro e w1 ⟨rfl, rfl⟩)
  obtain ⟨W0, hW0⟩ : ∃ W0, ((((((W.alloc (.cells #[.pointer (some ⟨g, 0, none⟩)] 128)).alloc (.cells #[.string (str s)] 9)).alloc (.cells #[.bool false] 4)).alloc (.cells #[.string (str s)] 9)).alloc (.cells #[.string ⟨#[44]⟩] 9)).alloc (.cells #[.int .i64 0] 3)) = W0 := ⟨_, rfl⟩
  rw [hW0]
  have hs0 : W0.heap.size = W.heap.size + 6 := by rw [← hW0]; simp
  have hv0 : SeqVars W0 (W.heap.size + 3) s := by
    rw [← hW0]
    refine ⟨((Blk.new' (by simp)).alloc _).alloc _, (Blk.new' (by simp)).alloc _, Blk.new' (by simp)⟩
  have hbox0 : Blk W0 W.heap.size 128 #[.pointer (some ⟨g, 0, none⟩)] := by
    rw [← hW0]
    exact (((((Blk.new' rfl).alloc _).alloc _).alloc _).alloc _).alloc _
  have hres0 : Blk W0 (W.heap.size + 2) 4 #[.bool false] := by
    rw [← hW0]
    exact (((Blk.new' (by simp)).alloc _).alloc _).alloc _
  have hb0 : Below W.heap.size W W0 := by
    rw [← hW0]
    exact al (al (al (al (al (al (Below.refl _ _) _) _) _) _) _) _
  have hgW := HB.out.lt
  have HIN := Lib.hid hnil
  clear hW0 hss hq hnil
  refine seq_range (b := W.heap.size + 3) (by rfl) rfl s hs hv0 (fun pre W' => LState A (.slice bA bn bc) g W pre W') (fun _ W' => W'.heap[W.heap.size + 6]? = some (.deferred (some [])) ∧ Blk W' (W.heap.size + 2) 4 #[.bool false] ∧ W.grownBy W' (some g) ∧ keysP (splitL 44 s) = none) ?_ ?_ ?_ ?_ ?_ ?_ ?_
  · intro pre W' o h
    rw [hs0]
    exact h.putObj hgW o
  · rintro pre W' o ⟨h1, h2, h3, h4⟩
    rw [hs0]
    exact ⟨(World.putObj_heap_other (by omega)).trans h1, putObj_block h2 (by omega), gr_putObj h3 (by omega) o, h4⟩
  · intro pre t' W' h
    exact h.set hgW _
  · intro o
    have hd := (Below.heap_alloc (W0.alloc (.deferred (some []))) o W0.heap.size (by simp)).trans (World.alloc_heap_new W0 (.deferred (some [])))
    rw [hs0] at hd
    exact ⟨hd, (hbox0.alloc _).alloc _, (hres0.alloc _).alloc _, gr_below (al (al hb0 _) _), by simp; omega, [], .slice none 0 0, rfl, ((HB.out.below hb0 hgW).alloc _).alloc _, OwnL.nil _ _⟩
  · intro pre x rest t W' hx hS hvt ⟨r, hr⟩
    rw [hs0] at hr ⊢
    have hxl : x.length ≤ s.length := splitL_part 44 s x (by rw [hx]; simp)
    have hud := Lib.hid (fun W1 => CallsIn.inRound (W.heap.size + 7) ((callsIn_wide (n := 0)).2 (undigits_calls x W1 (by omega))))
    have FIT : ∀ done, ({ A with l := done } : ActP).Fit := fun done => ⟨HR.out.1.ha, HR.out.1.hk, HR.out.1.hw, HR.out.1.hr, HR.out.1.hn0, HR.out.1.hn1, HR.out.1.hm0, HR.out.1.hm1, HR.out.1.hk0, HR.out.1.hk1⟩
    have HS0 := Lib.hid hS
    obtain ⟨g1, g2, g3, g4, g5, done, v, g6, g7, g8⟩ := hS
    by_cases hok : (undigL x).2 = true
    · by_cases hpt : x = [46]
      · have hbad := keysP_bad x (by rw [hok, hpt]; simp) rest pre
        have hqp : ((str x).toList == [46]) = true := by rw [str_list]; simpa using hpt
        rw [← hx] at hbad
        rw [hok] at hud
        clear hpt
        refine ⟨{ tmps := #[.pointer (some ⟨g, 0, none⟩), .int .i32 108, .string (str s), .pointer (some ⟨W.heap.size, 0, none⟩), undef, .pointer (some ⟨W.heap.size + 1, 0, none⟩), .pointer (some ⟨W.heap.size + 1 + 1, 0, none⟩), .func (.func 106) #[] #[.pointer (some ⟨W.heap.size + 1, 0, none⟩)], .func (.func 108) #[] #[.pointer (some ⟨W.heap.size + 1, 0, none⟩)], undef, undef, .string (str x), undef, undef, .func (.func 106) #[] #[.pointer (some ⟨W.heap.size + 1, 0, none⟩)], .func (.func 108) #[] #[.pointer (some ⟨W.heap.size + 1, 0, none⟩)], .int .i32 108, .bool false, .bool false, undef, undef, undef, undef, undef, undef, .bool false, .bool false, undef, undef, undef, undef, undef, undef, .bool false, .bool false, undef, undef, undef, undef, undef, undef, .bool false, .bool false, undef, undef, undef, undef, undef, undef, .bool false, .bool false, undef, undef, undef, undef, undef, .bool false, .bool false, undef, undef, undef, undef, undef, .bool false, .bool false, undef, undef, undef, undef, undef, undef, undef, undef, undef, undef, .string (str s), .bool false, .string (str s), .func (.func 157) #[] #[.pointer (some ⟨W.heap.size + 1 + 1 + 1 + 1, 0, none⟩), .pointer (some ⟨W.heap.size + 1 + 1 + 1, 0, none⟩), .pointer (some ⟨W.heap.size + 1 + 1 + 1 + 2, 0, none⟩)], .string (str x), undef, undef, undef, undef, undef, undef, undef, undef, undef, undef, undef, undef, undef, undef, undef, undef, undef, undef, undef, undef, undef, undef], defers := [] }, fun W' K hK => ?ass0, ?body0⟩
        case ass0 =>
          gi_wp2
          exact hK
        gi_wp2_with (refine ⟨trivial, ?_⟩; gi_at_call 109; refine (hud.out _).mono ?_; rintro e w1 ⟨⟨v, rfl, ho⟩, hb1⟩; have hc3 := (g3.below hb1 g3.lt).cell 0; have hf3 := (g3.below hb1 g3.lt).frozen 0)
        refine ⟨?_, ?_, (g3.below hb1 g3.lt).set_ 0 _, gr_new (gr_then g4 hb1) _ _ (by omega), by first | exact hbad | (rw [← hx]; exact hbad)⟩
        · rw [Below.heap_setCell w1 ⟨W.heap.size + 1 + 1, 0, none⟩ _ (W.heap.size + 6 + 1) (by show W.heap.size + 6 + 1 ≠ W.heap.size + 1 + 1; omega), hb1.block _ (by omega)]
          exact hr
        · rw [Below.heap_setCell w1 ⟨W.heap.size + 1 + 1, 0, none⟩ _ (W.heap.size + 6) (by show W.heap.size + 6 ≠ W.heap.size + 1 + 1; omega), hb1.block _ (by omega)]
          exact g1
      · have hqp : ((str x).toList == [46]) = false := by rw [str_list]; simpa using hpt
        have hkp := Lib.hid (keysP_snoc x ⟨hok, hpt⟩ pre done g6)
        rw [hok] at hud
        refine ⟨{ tmps := #[.pointer (some ⟨g, 0, none⟩), .int .i32 108, .string (str s), .pointer (some ⟨W.heap.size, 0, none⟩), undef, .pointer (some ⟨W.heap.size + 1, 0, none⟩), .pointer (some ⟨W.heap.size + 1 + 1, 0, none⟩), .func (.func 106) #[] #[.pointer (some ⟨W.heap.size + 1, 0, none⟩)], .func (.func 108) #[] #[.pointer (some ⟨W.heap.size + 1, 0, none⟩)], undef, undef, .string (str x), undef, undef, .func (.func 106) #[] #[.pointer (some ⟨W.heap.size + 1, 0, none⟩)], .func (.func 108) #[] #[.pointer (some ⟨W.heap.size + 1, 0, none⟩)], .int .i32 108, .bool false, .bool false, undef, undef, undef, undef, undef, undef, .bool false, .bool false, undef, undef, undef, undef, undef, undef, .bool false, .bool false, undef, undef, undef, undef, undef, undef, .bool false, .bool false, undef, undef, undef, undef, undef, undef, .bool false, .bool false, undef, undef, undef, undef, undef, .bool false, .bool false, undef, undef, undef, undef, undef, .bool false, .bool false, undef, undef, undef, undef, undef, undef, undef, undef, undef, undef, .string (str s), .bool false, .string (str s), .func (.func 157) #[] #[.pointer (some ⟨W.heap.size + 1 + 1 + 1 + 1, 0, none⟩), .pointer (some ⟨W.heap.size + 1 + 1 + 1, 0, none⟩), .pointer (some ⟨W.heap.size + 1 + 1 + 1 + 2, 0, none⟩)], .string (str x), undef, undef, undef, undef, undef, undef, undef, undef, undef, undef, undef, undef, undef, undef, undef, undef, undef, undef, undef, undef, undef, undef], defers := [] }, fun W' K hK => ?ass1, ?body1⟩
        case ass1 =>
          gi_wp2
          exact hK
        clear hpt hok
        obtain ⟨av, nv, cv, rfl⟩ := g8.slice
        have hmx : Tryd.prog.follows .mixedOrders = true := by kernel_rfl
        have hdl : done.length ≤ 100000001 := by
          have h1 := keysP_length pre done g6
          have h2 := splitL_length 44 s
          rw [hx] at h2
          simp at h2
          omega
        have HAP := Lib.hid (fun (w1 : World) (hb1 : Below W'.heap.size W' w1) A1 c1 (hr1 : KeyAt w1 (W.heap.size + 8) A1 (undigL x).1.length c1 (undigL x).1) => append_key (w := w1) (u := .slice av nv cv) (g8.keeps (KeepsLo.below hb1)) (by have := hb1.size; omega) A1 _ c1 _ hr1 hdl)
        have HRX := Lib.hid (fun (w1 : World) (hb1 : Below W'.heap.size W' w1) A1 c1 (ho : OwnB w1 W'.heap.size (.slice A1 (undigL x).1.length c1) (undigL x).1) (hr1 : RdB w1 A1 (undigL x).1.length c1 (undigL x).1) => (show KeyAt w1 (W.heap.size + 8) A1 (undigL x).1.length c1 (undigL x).1 from ⟨⟨hr1, fun ad e => by
          subst e
          have := ho.block ad.block rfl
          omega⟩, fun ad e => by
          subst e
          rcases ho.2 with ⟨h0, _⟩ | ⟨g0, cap0, cur0, e0, _, hh, _⟩
          · cases h0
          · injection e0 with e1
            injection e1 with e1
            subst e1
            exact ⟨_, hh⟩⟩))
        have LS := Lib.hid (fun w1 w2 v2 c hb1 hr2 hB2 hl2 => list_step (A := A) (bS := .slice bA bn bc) (w1 := w1) (w2 := w2) (v2 := v2) (c := c) (x := x) (pre := pre) (kv := ((undigL x).1, [])) HR.out.1 hgW HS0.out hvt hb1 (fun k e => (g8.lt k e).1) hr2 hB2 hl2 hkp.out)
        have NEG := Lib.hid fun (w1 : World) (hb1 : Below W'.heap.size W' w1) => (show some g ≠ (Value.slice av nv cv).ownBlock from by
          intro e
          have := g8.lt _ e.symm
          omega)
        generalize undigL x = ux at *
        gi_wp2_with (refine ⟨trivial, ?_⟩; gi_at_call 109; refine (hud.out _).mono ?_; rintro e w1 ⟨⟨v1, rfl, ho⟩, hb1⟩; obtain ⟨A1, c1, rfl, hr1⟩ := ho.reads; have hc0 := (g2.below hb1 g2.lt).cell 0; have hcl := ((g7.below hb1 g7.lt).cell 120).trans (ak_tail _ _ _ (FIT _) 3); have hfl := (g7.below hb1 g7.lt).frozen 120; have hcla := (((g7.below hb1 g7.lt).alloc (.cells #[.slice A1 ux.1.length c1, .slice none 0 0] 112)).cell 120).trans (ak_tail _ _ _ (FIT _) 3); have hc0a := ((g2.below hb1 g2.lt).alloc (.cells #[.slice A1 ux.1.length c1, .slice none 0 0] 112)).cell 0; obtain ⟨v2, w2, hrun0, hr2, hl2⟩ := HAP.out w1 hb1 A1 c1 (HRX.out w1 hb1 A1 c1 ho hr1); obtain ⟨g', cap', rfl⟩ := hl2.succ; have hrun := Lib.hid hrun0; clear hrun0; have hB2 := (((g7.below hb1 g7.lt).alloc _).drew).grown hr2 (NEG.out w1 hb1); have hc2 := (hB2.cell 120).trans (ak_tail _ _ _ (FIT _) 3); have hf2 := hB2.frozen 120; have HB2 := Lib.hid hB2; have HR2 := Lib.hid hr2; have HL2 := Lib.hid hl2; have LST := LS.out w1 w2 _ _ hb1 hr2 hB2 hl2; have HK2 := Lib.hid (LST.1.cell 0); have HK3 := Lib.hid (LST.2.1.cell 0); have FIN := Lib.hid LST.2.2; clear LST; clear hB2 hr2 hl2)
        refine region_round (S := fun Wx => Wx.cell? ⟨W.heap.size, 0, none⟩ = some (.pointer (some ⟨g, 0, none⟩))) hmx (by kernel_rfl) ?nl hc0 (fun hHeld => ?_)
        case nl => rintro ⟨a', w', hh⟩; obtain ⟨_, hh⟩ := hh; rcases hh with ⟨h, _⟩ | ⟨h, _⟩ <;> cases h
        refine wpAnyH_take (i := 0) (v := .pointer (some ⟨g, 0, none⟩)) rfl (by kernel_rfl) (by kernel_rfl) (by kernel_rfl) (fun _ _ _ h => h) (.inl ⟨by rfl, fun W hS => by go_simp⟩) hHeld ?_
        simp only [Act.put, List.setIfInBounds_toArray, List.set_cons_zero, List.set_cons_succ, List.getElem_toArray, List.getElem_cons_succ, List.getElem_cons_zero]
        refine wpAnyH_take (i := 1) (v := .pointer (some ⟨g, 0, none⟩)) rfl (by kernel_rfl) (by kernel_rfl) (by kernel_rfl) (fun _ _ _ h => h) (.inl ⟨by rfl, fun W hS => by go_simp⟩) hHeld ?_
        simp only [Act.put, List.setIfInBounds_toArray, List.set_cons_zero, List.set_cons_succ, List.getElem_toArray, List.getElem_cons_succ, List.getElem_cons_zero]
        refine wpAnyH_take (i := 2) (v := .pointer (some ⟨g, 0, none⟩)) rfl (by kernel_rfl) (by kernel_rfl) (by kernel_rfl) (fun _ _ _ h => h) (.inl ⟨by rfl, fun W hS => by go_simp⟩) hHeld ?_
        simp only [Act.put, List.setIfInBounds_toArray, List.set_cons_zero, List.set_cons_succ, List.getElem_toArray, List.getElem_cons_succ, List.getElem_cons_zero]
        refine wpAnyH_take (i := 3) (v := .pointer (some ⟨g, 120, none⟩)) rfl (by kernel_rfl) (by kernel_rfl) (by kernel_rfl) (fun _ _ _ h => h) (.inl ⟨by rfl, fun W hS => by go_simp⟩) hHeld ?_
        simp only [Act.put, List.setIfInBounds_toArray, List.set_cons_zero, List.set_cons_succ, List.getElem_toArray, List.getElem_cons_succ, List.getElem_cons_zero]
        refine wpAnyH_take (i := 5) (v := .slice A1 ux.1.length c1) rfl (by kernel_rfl) (by kernel_rfl) (by kernel_rfl) (fun _ _ _ h => h) (.inl ⟨by rfl, fun W hS => by go_simp⟩) hHeld ?_
        simp only [Act.put, List.setIfInBounds_toArray, List.set_cons_zero, List.set_cons_succ, List.getElem_toArray, List.getElem_cons_succ, List.getElem_cons_zero]
        refine wpAnyH_take (i := 6) (v := .agg #[.slice A1 ux.1.length c1, .slice none 0 0]) rfl (by kernel_rfl) (by kernel_rfl) (by kernel_rfl) (fun _ _ _ h => h) (.inl ⟨by rfl, fun W hS => by go_simp⟩) hHeld ?_
        simp only [Act.put, List.setIfInBounds_toArray, List.set_cons_zero, List.set_cons_succ, List.getElem_toArray, List.getElem_cons_succ, List.getElem_cons_zero]
        refine wpAnyH_ready (rs := [4, 7]) (by kernel_rfl) (by simp) ?_
        refine AllReadyH.cons rfl (fun K hK => ?_) (AllReadyH.cons rfl (fun K hK => ?_) AllReadyH.nil)
        · go_simp
          refine hK.out _ _ hHeld (fun hHeld => ?_)
          clear hK K
          refine wpAnyH_ready (rs := [7]) (by kernel_rfl) (by simp) ?_
          refine AllReadyH.cons rfl (fun K hK => ?_) AllReadyH.nil
          go_simp
          refine hK.out _ _ (hc0a) (fun hHeld => ?_)
          clear hK K
          refine wpAnyH_ready (rs := [8]) (by kernel_rfl) (by simp) ?_
          refine AllReadyH.cons rfl (fun K hK => ?_) AllReadyH.nil
          refine armH_run _ rfl (.tmp 95) (.tmp 98) rfl rfl _ _ rfl rfl _ _ hrun.out ?_
          simp only [Act.put, List.setIfInBounds_toArray, List.set_cons_zero, List.set_cons_succ, List.getElem_toArray, List.getElem_cons_succ, List.getElem_cons_zero]
          refine hK.out _ _ (HK2.out) (fun hHeld => ?_)
          clear hK K
          refine wpAnyH_take (i := 9) (v := .pointer (some ⟨g, 0, none⟩)) rfl (by kernel_rfl) (by kernel_rfl) (by kernel_rfl) (fun _ _ _ h => h) (.inl ⟨by rfl, fun W hS => by go_simp⟩) hHeld ?_
          simp only [Act.put, List.setIfInBounds_toArray, List.set_cons_zero, List.set_cons_succ, List.getElem_toArray, List.getElem_cons_succ, List.getElem_cons_zero]
          refine wpAnyH_take (i := 10) (v := .pointer (some ⟨g, 120, none⟩)) rfl (by kernel_rfl) (by kernel_rfl) (by kernel_rfl) (fun _ _ _ h => h) (.inl ⟨by rfl, fun W hS => by go_simp⟩) hHeld ?_
          simp only [Act.put, List.setIfInBounds_toArray, List.set_cons_zero, List.set_cons_succ, List.getElem_toArray, List.getElem_cons_succ, List.getElem_cons_zero]
          refine wpAnyH_ready (rs := [11]) (by kernel_rfl) (by simp) ?_
          refine AllReadyH.cons rfl (fun K hK => ?_) AllReadyH.nil
          go_simp
          refine hK.out _ _ (HK3.out) (fun hHeld => ?_)
          clear hK K
          refine wpAnyH_done (by kernel_rfl) ?_ _
          exact ⟨FIN.out.1, .inl ⟨rfl, FIN.out.2⟩⟩
        · go_simp
          refine hK.out _ _ hc0a (fun hHeld => ?_)
          clear hK K
          refine wpAnyH_ready (rs := [4]) (by kernel_rfl) (by simp) ?_
          refine AllReadyH.cons rfl (fun K hK => ?_) AllReadyH.nil
          go_simp
          refine hK.out _ _ (hc0a) (fun hHeld => ?_)
          clear hK K
          refine wpAnyH_ready (rs := [8]) (by kernel_rfl) (by simp) ?_
          refine AllReadyH.cons rfl (fun K hK => ?_) AllReadyH.nil
          refine armH_run _ rfl (.tmp 95) (.tmp 98) rfl rfl _ _ rfl rfl _ _ hrun.out ?_
          simp only [Act.put, List.setIfInBounds_toArray, List.set_cons_zero, List.set_cons_succ, List.getElem_toArray, List.getElem_cons_succ, List.getElem_cons_zero]
          refine hK.out _ _ (HK2.out) (fun hHeld => ?_)
          clear hK K
          refine wpAnyH_take (i := 9) (v := .pointer (some ⟨g, 0, none⟩)) rfl (by kernel_rfl) (by kernel_rfl) (by kernel_rfl) (fun _ _ _ h => h) (.inl ⟨by rfl, fun W hS => by go_simp⟩) hHeld ?_
          simp only [Act.put, List.setIfInBounds_toArray, List.set_cons_zero, List.set_cons_succ, List.getElem_toArray, List.getElem_cons_succ, List.getElem_cons_zero]
          refine wpAnyH_take (i := 10) (v := .pointer (some ⟨g, 120, none⟩)) rfl (by kernel_rfl) (by kernel_rfl) (by kernel_rfl) (fun _ _ _ h => h) (.inl ⟨by rfl, fun W hS => by go_simp⟩) hHeld ?_
          simp only [Act.put, List.setIfInBounds_toArray, List.set_cons_zero, List.set_cons_succ, List.getElem_toArray, List.getElem_cons_succ, List.getElem_cons_zero]
          refine wpAnyH_ready (rs := [11]) (by kernel_rfl) (by simp) ?_
          refine AllReadyH.cons rfl (fun K hK => ?_) AllReadyH.nil
          go_simp
          refine hK.out _ _ (HK3.out) (fun hHeld => ?_)
          clear hK K
          refine wpAnyH_done (by kernel_rfl) ?_ _
          exact ⟨FIN.out.1, .inl ⟨rfl, FIN.out.2⟩⟩
    · have hokf : (undigL x).2 = false := by simpa using hok
      have hbad := keysP_bad x (by rw [hokf]; simp) rest pre
      rw [← hx] at hbad
      refine ⟨{ tmps := #[.pointer (some ⟨g, 0, none⟩), .int .i32 108, .string (str s), .pointer (some ⟨W.heap.size, 0, none⟩), undef, .pointer (some ⟨W.heap.size + 1, 0, none⟩), .pointer (some ⟨W.heap.size + 1 + 1, 0, none⟩), .func (.func 106) #[] #[.pointer (some ⟨W.heap.size + 1, 0, none⟩)], .func (.func 108) #[] #[.pointer (some ⟨W.heap.size + 1, 0, none⟩)], undef, undef, .string (str x), undef, undef, .func (.func 106) #[] #[.pointer (some ⟨W.heap.size + 1, 0, none⟩)], .func (.func 108) #[] #[.pointer (some ⟨W.heap.size + 1, 0, none⟩)], .int .i32 108, .bool false, .bool false, undef, undef, undef, undef, undef, undef, .bool false, .bool false, undef, undef, undef, undef, undef, undef, .bool false, .bool false, undef, undef, undef, undef, undef, undef, .bool false, .bool false, undef, undef, undef, undef, undef, undef, .bool false, .bool false, undef, undef, undef, undef, undef, .bool false, .bool false, undef, undef, undef, undef, undef, .bool false, .bool false, undef, undef, undef, undef, undef, undef, undef, undef, undef, undef, .string (str s), .bool false, .string (str s), .func (.func 157) #[] #[.pointer (some ⟨W.heap.size + 1 + 1 + 1 + 1, 0, none⟩), .pointer (some ⟨W.heap.size + 1 + 1 + 1, 0, none⟩), .pointer (some ⟨W.heap.size + 1 + 1 + 1 + 2, 0, none⟩)], .string (str x), undef, undef, undef, undef, undef, undef, undef, undef, undef, undef, undef, undef, undef, undef, undef, undef, undef, undef, undef, undef, undef, undef], defers := [] }, fun W' K hK => ?ass2, ?body2⟩
      case ass2 =>
        gi_wp2
        exact hK
      rw [hokf] at hud
      gi_wp2_with (refine ⟨trivial, ?_⟩; gi_at_call 109; refine (hud.out _).mono ?_; rintro e w1 ⟨⟨v, rfl, ho⟩, hb1⟩; have hc3 := (g3.below hb1 g3.lt).cell 0; have hf3 := (g3.below hb1 g3.lt).frozen 0)
      refine ⟨?_, ?_, (g3.below hb1 g3.lt).set_ 0 _, gr_new (gr_then g4 hb1) _ _ (by omega), by first | exact hbad | (rw [← hx]; exact hbad)⟩
      · rw [Below.heap_setCell w1 ⟨W.heap.size + 1 + 1, 0, none⟩ _ (W.heap.size + 6 + 1) (by show W.heap.size + 6 + 1 ≠ W.heap.size + 1 + 1; omega), hb1.block _ (by omega)]
        exact hr
      · rw [Below.heap_setCell w1 ⟨W.heap.size + 1 + 1, 0, none⟩ _ (W.heap.size + 6) (by show W.heap.size + 6 ≠ W.heap.size + 1 + 1; omega), hb1.block _ (by omega)]
        exact g1
  · intro W' hS
    obtain ⟨g1, g2, g3, g4, g5, done, v, g6, g7, g8⟩ := hS
    have hc3 := g3.cell 0
    have hf3 := g3.frozen 0
    have HB3 := Lib.hid g3
    rw [hs0]
    clear g2 g3
    gi_wp2
    have hgr : W.grownBy ((W'.setCell ⟨W.heap.size + 1 + 1, 0, none⟩ (.bool true)).putObj (W.heap.size + 6) (.deferred none)) (some g) := gr_putObj (gr_new g4 _ _ (by omega)) (by omega) _
    have hD : (W'.setCell ⟨W.heap.size + 1 + 1, 0, none⟩ (.bool true)).heap[W.heap.size + 6]? = some (.deferred (some [])) := by
      rw [Below.heap_setCell W' ⟨W.heap.size + 1 + 1, 0, none⟩ _ (W.heap.size + 6) (by show W.heap.size + 6 ≠ W.heap.size + 1 + 1; omega)]
      exact g1
    have hR2 : Blk ((W'.setCell ⟨W.heap.size + 1 + 1, 0, none⟩ (.bool true)).putObj (W.heap.size + 6) (.deferred none)) (W.heap.size + 1 + 1) 4 #[.bool true] := putObj_block (HB3.out.set_ 0 (.bool true)) (by omega)
    have hdn : done ≠ [] := by
      intro e
      have := keysP_length _ _ g6
      rw [e] at this
      exact splitL_ne 44 s (List.length_eq_zero_iff.1 this.symm)
    have hW3 : KeepsLo (W.heap.size + 8) W' ((W'.setCell ⟨W.heap.size + 1 + 1, 0, none⟩ (.bool true)).putObj (W.heap.size + 6) (.deferred none)) := ⟨by simp, fun i h1 _ => by
      rw [World.putObj_heap_other (by omega), Below.heap_setCell W' ⟨W.heap.size + 1 + 1, 0, none⟩ _ i (by show i ≠ W.heap.size + 1 + 1; omega)]⟩
    obtain ⟨lA, lc, rfl, hkv⟩ := (g8.keeps hW3).reads hdn
    have hpf : pF A 108 s = some { A with l := done } := by
      have : pF A 108 s = if s = [46] then some A else (keysP (splitL 44 s)).map fun l => { A with l := A.l ++ l } := rfl
      rw [this, if_neg hd, g6, HIN.out]
      rfl
    have hA := HR.out.1
    exact ⟨by simp, .inl ⟨_, _, rfl, run_takeDeferred hD, ⟨_, results_bool1 rfl _ _ (W.heap.size + 1 + 1) (.bool true) rfl (hR2.cell 0), hgr, .inr ⟨rfl, _, bA, bn, bc, lA, done.length, lc, hpf,
      putObj_block (g7.far (p := ⟨W.heap.size + 1 + 1, 0, none⟩) (by show g ≠ W.heap.size + 1 + 1; omega) _) (by omega),
      ⟨⟨hA.ha, hA.hk, hA.hw, hA.hr, hA.hn0, hA.hn1, hA.hm0, hA.hm1, hA.hk0, hA.hk1⟩, HR.out.2.1.keeps (KeepsLo.grown hgr hglo), hkv.weaken (by omega)⟩⟩⟩⟩⟩
  · rintro pre W' ⟨h1, h2, h3, h4⟩
    rw [hs0]
    gi_wp2
    have hgr : W.grownBy (W'.putObj (W.heap.size + 6) (.deferred none)) (some g) := gr_putObj h3 (by omega) _
    have hR2 : Blk (W'.putObj (W.heap.size + 6) (.deferred none)) (W.heap.size + 1 + 1) 4 #[.bool false] := putObj_block h2 (by omega)
    have hpf : pF A 108 s = none := by
      have : pF A 108 s = if s = [46] then some A else (keysP (splitL 44 s)).map fun l => { A with l := A.l ++ l } := rfl
      rw [this, if_neg hd, h4]
      rfl
    exact ⟨by simp, .inl ⟨_, _, rfl, run_takeDeferred h1, ⟨_, results_bool1 rfl _ _ (W.heap.size + 1 + 1) (.bool false) rfl (hR2.cell 0), hgr, .inl ⟨rfl, hpf⟩⟩⟩⟩

set_option maxRecDepth 100000 in
set_option maxHeartbeats 2000000 in
theorem parsed_l (s : List UInt8) (hs : s.length ≤ 100000000) : ParsedAt pF 108 s := by
  intro A bA bn bc lA ln lc g lo W hglo hlo hB hR hL hnil
  have hn := hnil rfl
  obtain ⟨rfl, rfl⟩ := hR.2.2.2.2.2 hn
  have hln : ln = 0 := by
    have := hR.2.2.1.1
    rw [hn] at this
    simpa using this.symm
  subst hln
  by_cases hd : s = [46]
  · have hpf : pF A 108 s = some A := by
      have : pF A 108 s = if s = [46] then some A else (keysP (splitL 44 s)).map fun l => { A with l := A.l ++ l } := rfl
      rw [this, if_pos hd]
    have hq : ((str s).toList == [46]) = true := by rw [str_list]; simpa using hd
    have hbA : Below W.heap.size W (((W.alloc (.cells #[.pointer (some ⟨g, 0, none⟩)] 128)).alloc (.cells #[.string (str s)] 9)).alloc (.cells #[.bool true] 4)) := al (al (al (Below.refl _ _) _) _) _
    have hgr : W.grownBy (((W.alloc (.cells #[.pointer (some ⟨g, 0, none⟩)] 128)).alloc (.cells #[.string (str s)] 9)).alloc (.cells #[.bool true] 4)) (some g) := gr_below hbA
    have HF := Lib.hid (hB.below hbA hB.lt)
    have HR := Lib.hid hR
    have hcell := Lib.hid ((show Blk (((W.alloc (.cells #[.pointer (some ⟨g, 0, none⟩)] 128)).alloc (.cells #[.string (str s)] 9)).alloc (.cells #[.bool true] 4)) (W.heap.size + 1 + 1) 4 #[.bool true] from Blk.new' (by simp)).cell 0)
    rw [hpf]
    clear hd hpf hB hR hL hnil hn
    go_enter Tryd.func73, Tryd.ntmps73
    go_wp2
    exact bodyPost_ret (results_bool1 rfl _ _ (W.heap.size + 1 + 1) (.bool true) rfl hcell.out) rfl ⟨hgr, .inr ⟨rfl, A, bA, bn, bc, none, 0, 0, rfl, HF.out, HR.out.keeps (KeepsLo.grown hgr hglo)⟩⟩
  · exact parsed_l_some s hs hd A bA bn bc g lo W hglo hlo hB hR hn
end Go.Proofs.YtfjfjjcdlgdbcaaDoor
