/- archive.parsed at a list -/
import Derived.Test.YtfjfjjcdlgdbcaaDoorE23
import Derived.Test.YtfjfjjcdlgdbcaaDoorE24
namespace Go.Proofs.YtfjfjjcdlgdbcaaDoor
open Go.RowKit Go.Shelf
set_option linter.unusedSimpArgs false
set_option linter.unusedVariables false

/-- a loop's record -/
def lrec (fn : FuncId) (tmps : Array Value) (ps : Array Tmp) (assign body : Code) (D : Nat) (st : LoopState) (pe : Option Code) : Obj := .loop { state := st, pending := pe, fn, tmps, params := ps, assign, body, defers := D }
/-- one round of a range over a function, out of its body's walk -/
theorem round_at {P : Program} {l D fn m : Nat} {tmps : Array Value} {ps : Array Tmp} {assign body : Code} {args : Array Value} {W : World} {R : Ending → World → Prop}
    (hl : W.heap[l]? = some (lrec fn tmps ps assign body D .ready none)) (hs : args.size = ps.size) (a₁ : Act)
    (hassign : ∀ K : Act → World → Prop, K a₁ W → assign.wpIn (Fence.wide.inRound l) m P (Exit.then K (fun _ _ _ => False)) { tmps := (ps.zip args).foldl (fun tmps (t, a) => tmps.setIfInBounds t a) tmps, defers := [] } W)
    (hbody : body.wpIn (Fence.wide.inRound l) m P (fun e _ W3 => W3.heap[l]? = some (lrec fn tmps ps assign body D .busy none) ∧
      ((e = .normal ∧ R (.returned (.bool true)) (W3.putObj l (lrec fn tmps ps assign body D .ready none))) ∨ (e = .ret ∧ R (.returned (.bool false)) (W3.putObj l (lrec fn tmps ps assign body D .done (some .ret))))))
      a₁ (W.putObj l (lrec fn tmps ps assign body D .busy none))) : YieldAt Fence.wide m P l args W R := by
  have hy := run_yield (P := P) (args := args) hl hs
  have hb := run_beginRound (P := P) hl rfl
  refine ⟨fn, _, assign, body, hy, roundIn_of_wpIn trivial (hassign _ ⟨_, hb, ?_⟩)⟩
  refine wpIn_mono hbody ?_
  rintro e a3 W3 ⟨hl3, hp⟩
  rcases hp with ⟨rfl, hr⟩ | ⟨rfl, hr⟩
  · have h := run_endRound (P := P) none hl3
    exact ⟨_, _, h, hr⟩
  · have h := run_endRound (P := P) (some .ret) hl3
    exact ⟨_, _, h, hr⟩
/-- a range over a function, out of the function's walk -/
theorem range_at {P : Program} {n : Nat} {g : Operand} {ps : Array Tmp} {assign body : Code} {Q : Exit → Act → World → Prop} {a : Act} {w : World} {gf : Nat} {lb : Array Value}
    (hg : a.eval g = .func (.func gf) #[] lb) (eg : ∀ args w, (callFunc gf args).run P w = .ok (.enter gf args) w)
    (hcall : ∀ fn, CallsIn Fence.wide (n - 1) P gf (#[.func (.yield (w.heap.size + 1)) #[] #[]] ++ lb) ((w.alloc (.deferred (some []))).alloc (lrec fn a.tmps ps assign body w.heap.size .ready none))
      (rangePost Fence.wide n P (w.heap.size + 1) Q { a with defers := [{ target := .collected w.heap.size, args := #[] }] ++ a.defers })) :
    (Code.rangeFunc g ps assign body).wpIn Fence.wide n P Q a w := by
  refine wpIn_rangeFunc ?_
  intro fn hfn
  have hc := hcall fn
  obtain ⟨W1, hW1⟩ : ∃ W1, (w.alloc (.deferred (some []))).alloc (lrec fn a.tmps ps assign body w.heap.size .ready none) = W1 := ⟨_, rfl⟩
  rw [hW1] at hc
  refine ⟨w.heap.size + 1, [{ target := .collected w.heap.size, args := #[] }], W1, { target := .fn (.func gf) lb, args := #[.func (.yield (w.heap.size + 1)) #[] #[]] }, W1, gf, #[.func (.yield (w.heap.size + 1)) #[] #[]] ++ lb, W1, ?_⟩
  refine ⟨?_, ?_, ?_, ?_, ?_, ?_⟩
  · rw [← hW1]; exact run_enterLoop_outer _ _ _ _ _
  · simp only [resolve, hg]
    simp [go_sem]
  · intro f' hf'
    exact True.intro
  · simp [invoke, go_sem, eg]
  · intro h
    cases h
  · exact hc
theorem putObj_block {W : World} {b l : Nat} {t : TypeId} {cs : Array Value} {o : Obj} (h : Blk W b t cs) (hne : ¬ b = l) : Blk (W.putObj l o) b t cs := (World.putObj_heap_other hne).trans h
theorem SeqVars.putObj {W : World} {b l : Nat} {t : List UInt8} (h : SeqVars W b t) (hl : b + 2 < l) (o : Obj) : SeqVars (W.putObj l o) b t :=
  ⟨putObj_block h.text (by omega), putObj_block h.sep (by omega), putObj_block h.save (by omega)⟩
/-- a range over the parts of a text -/
theorem seq_range {n : Nat} {g : Operand} {ps : Array Tmp} {assign body : Code} {Q : Exit → Act → World → Prop} {a : Act} {w : World} {b : Nat}
    (hg : a.eval g = .func (.func 157) #[] #[.pointer (some ⟨b + 1, 0, none⟩), .pointer (some ⟨b, 0, none⟩), .pointer (some ⟨b + 2, 0, none⟩)]) (hps : ps.size = 1)
    (s : List UInt8) (hs : s.length ≤ 100000000) (hv : SeqVars w b s) (S Sx : List (List UInt8) → World → Prop)
    (hput : ∀ pre W o, S pre W → S pre (W.putObj (w.heap.size + 1) o)) (hxput : ∀ pre W o, Sx pre W → Sx pre (W.putObj (w.heap.size + 1) o))
    (hset : ∀ pre t' W, S pre W → S pre (W.setCell ⟨b, 0, none⟩ (.string (str t'))))
    (h0 : ∀ o, S [] ((w.alloc (.deferred (some []))).alloc o))
    (hround : ∀ pre x rest t W, splitL 44 s = pre ++ x :: rest → S pre W → SeqVars W b t → (∃ r, W.heap[w.heap.size + 1]? = some (.loop r)) →
      ∃ a₁, (∀ W' (K : Act → World → Prop), K a₁ W' → assign.wpIn (Fence.wide.inRound (w.heap.size + 1)) (n - 1 - 1) Tryd.prog (Exit.then K (fun _ _ _ => False)) { tmps := (ps.zip #[Value.string (str x)]).foldl (fun tmps (t, a) => tmps.setIfInBounds t a) a.tmps, defers := [] } W') ∧
        body.wpIn (Fence.wide.inRound (w.heap.size + 1)) (n - 1 - 1) Tryd.prog (fun e _ W3 => W3.heap[w.heap.size + 1]? = W.heap[w.heap.size + 1]? ∧ ((e = .normal ∧ S (pre ++ [x]) W3 ∧ SeqVars W3 b t) ∨ (e = .ret ∧ Sx (pre ++ [x]) W3))) a₁ W)
    (hdone : ∀ W, S (splitL 44 s) W → Q .normal { a with defers := [{ target := .collected w.heap.size, args := #[] }] ++ a.defers } W)
    (hstop : ∀ pre W, Sx pre W → Code.ret.wpIn Fence.wide n Tryd.prog Q { a with defers := [{ target := .collected w.heap.size, args := #[] }] ++ a.defers } W) :
    (Code.rangeFunc g ps assign body).wpIn Fence.wide n Tryd.prog Q a w := by
  have hbl : b + 2 < w.heap.size := hv.save.lt
  refine range_at (gf := 157) (lb := #[.pointer (some ⟨b + 1, 0, none⟩), .pointer (some ⟨b, 0, none⟩), .pointer (some ⟨b + 2, 0, none⟩)]) hg (enters_of Tryd.func157 (by kernel_rfl) rfl) ?_
  intro fn
  have hl0 : ((w.alloc (.deferred (some []))).alloc (lrec fn a.tmps ps assign body w.heap.size .ready none)).heap[w.heap.size + 1]? = some (lrec fn a.tmps ps assign body w.heap.size .ready none) := by
    have := World.alloc_heap_new (w.alloc (.deferred (some []))) (lrec fn a.tmps ps assign body w.heap.size .ready none)
    rwa [World.size_alloc] at this
  have hv0 : SeqVars ((w.alloc (.deferred (some []))).alloc (lrec fn a.tmps ps assign body w.heap.size .ready none)) b s := ⟨(hv.text.alloc _).alloc _, (hv.sep.alloc _).alloc _, (hv.save.alloc _).alloc _⟩
  refine (iter157_in (n - 1) (w.heap.size + 1) b s hs
    (fun pre W => W.heap[w.heap.size + 1]? = some (lrec fn a.tmps ps assign body w.heap.size .ready none) ∧ S pre W)
    (fun pre W => W.heap[w.heap.size + 1]? = some (lrec fn a.tmps ps assign body w.heap.size .done (some .ret)) ∧ Sx pre W)
    ?_ ?_ _ ⟨hl0, h0 _⟩ hv0).mono ?_
  · rintro pre x rest t W hx ⟨hl, hS⟩ hvt
    have hlt : w.heap.size + 1 < W.heap.size := (Array.getElem?_eq_some_iff.1 hl).1
    have hb1 : (W.putObj (w.heap.size + 1) (lrec fn a.tmps ps assign body w.heap.size .busy none)).heap[w.heap.size + 1]? = some (lrec fn a.tmps ps assign body w.heap.size .busy none) := World.putObj_heap_same hlt
    obtain ⟨a₁, ha, hb⟩ := hround pre x rest t (W.putObj (w.heap.size + 1) (lrec fn a.tmps ps assign body w.heap.size .busy none)) hx (hput _ _ _ hS) (hvt.putObj (by omega) _) ⟨_, hb1⟩
    refine round_at hl (by rw [hps]; rfl) a₁ (fun K hK => ha W K hK) (wpIn_mono hb ?_)
    rintro e a3 W3 ⟨hl3, hp⟩
    rw [hb1] at hl3
    have hlt3 : w.heap.size + 1 < W3.heap.size := (Array.getElem?_eq_some_iff.1 hl3).1
    refine ⟨hl3, ?_⟩
    rcases hp with ⟨rfl, h3, hv3⟩ | ⟨rfl, h3⟩
    · exact .inl ⟨rfl, .inl ⟨rfl, ⟨World.putObj_heap_same hlt3, hput _ _ _ h3⟩, hv3.putObj (by omega) _⟩⟩
    · exact .inr ⟨rfl, .inr ⟨rfl, World.putObj_heap_same hlt3, hxput _ _ _ h3⟩⟩
  · rintro pre t t' W ⟨hl, hS⟩ _
    refine ⟨?_, hset _ _ _ hS⟩
    rw [Below.heap_setCell W ⟨b, 0, none⟩ _ (w.heap.size + 1) (by show w.heap.size + 1 ≠ b; omega)]
    exact hl
  · rintro e W2 ⟨⟨v, rfl⟩, (⟨hl, hS⟩ | ⟨pre, hl, hS⟩)⟩
    · have h := run_endLoop (P := Tryd.prog) hl (by intro h; cases h)
      exact ⟨_, _, h, hdone _ (hput _ _ _ hS)⟩
    · have h := run_endLoop (P := Tryd.prog) hl (by intro h; cases h)
      exact ⟨_, _, h, hstop pre _ (hxput _ _ _ hS)⟩
section
variable {P : Program} {ops : Array Oper} {Q : Exit → Act → World → Prop} {md : Region.Mode} {l n : Nat}
theorem wpIn_of_wp_round {o : Oper} {a : Act} {w : World} {K : Act → World → Prop} (hnd : ∀ c, o.op ≠ .defer c) (h : o.wp P a w K Q) : o.wpIn (Fence.wide.inRound l) n P a w K Q := by
  refine ⟨fun _ _ => True.intro, ?_⟩
  rw [Oper.semAt_plain (Fence.wide.inRound l) a.eval o hnd]
  unfold Oper.wp at h
  generalize (execOp a.eval o).run P w = r at *
  cases r with
  | ok x w' =>
    cases x with
    | value v => exact h
    | skip => exact h
    | defer d => exact h
    | enter f args => exact ⟨(fun hh => by cases hh), CallsIn.inRound l (callsIn_wide.2 h)⟩
    | row row args => exact ⟨(fun hh => by cases hh), fun c cs _ => let ⟨v, w', r, s⟩ := h c cs; ⟨v, w', r, stepsIn_wide.2 s⟩⟩
    | _ => exact h.elim
  | halt x w' =>
    cases x <;> first | exact h | exact h.elim
theorem wpAnyIn_of_wpAny (hnd : ∀ (i : Nat) (o : Oper), ops[i]? = some o → ∀ c, o.op ≠ .defer c) (hQ : ¬ LetsOut Q) : ∀ (fuel : Nat) (listed : Array Bool) (a : Act) (w : World), wpAny P md ops Q fuel listed a w → wpAnyIn (Fence.wide.inRound l) n P md ops Q fuel listed a w
  | 0, _, _, _, h => h
  | fuel + 1, listed, a, w, h => ⟨h.1, fun i hi => by
    have h2 := wpOp_mono (fun a' w' h' => wpAnyIn_of_wpAny hnd hQ fuel (listed.setIfInBounds i true) a' w' h') (h.2 i hi)
    unfold wpOp at h2
    unfold wpOpIn
    cases ho : ops[i]? with
    | none => simpa [ho] using h2
    | some o =>
      simp only [ho] at h2 ⊢
      split
      · rename_i hw
        rw [if_pos hw] at h2
        rcases h2 with h2 | ⟨_, h2⟩
        · exact wpIn_of_wp_round (hnd i o ho) h2
        · exact absurd h2 hQ
      · rename_i hw
        rw [if_neg hw] at h2
        exact ⟨fun _ _ => True.intro, h2⟩⟩
def noDefer (ops : Array Oper) : Bool := ops.toList.all fun o => match o.op with | .defer _ => false | _ => true
theorem noDefer_spec (h : noDefer ops = true) : ∀ (i : Nat) (o : Oper), ops[i]? = some o → ∀ c, o.op ≠ .defer c := by
  intro i o ho c hc
  have hm : o ∈ ops.toList := by
    rw [← Array.getElem?_toList] at ho
    exact List.mem_of_getElem? ho
  have h2 := List.all_eq_true.1 h o hm
  rw [hc] at h2
  cases h2
/-- a region that draws, in a round -/
theorem region_round {id : Nat} {a : Act} {w : World} (hm : P.follows .mixedOrders = true) (hnd : noDefer ops = true) (hQ : ¬ LetsOut Q) {S : World → Prop} (hS : S w.drew)
    (h : S w.drew → wpAnyH P .any ops Q S ops.size (Array.replicate ops.size false) a w.drew) : (Code.region id ops true).wpIn (Fence.wide.inRound l) n P Q a w :=
  wpIn_region_any hm (wpAnyIn_of_wpAny (noDefer_spec hnd) hQ _ _ _ _ (wpAny_of_held _ _ _ _ (h hS)))
end
end Go.Proofs.YtfjfjjcdlgdbcaaDoor
