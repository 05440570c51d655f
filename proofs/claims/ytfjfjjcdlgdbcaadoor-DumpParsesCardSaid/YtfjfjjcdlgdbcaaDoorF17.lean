/- the texts D24, D25, D26 of this proof, one behind the other -/
import Derived.Test.YtfjfjjcdlgdbcaaDoorF16
import Derived.Laws.OwnMore
import Derived.Deep.RegionHeld3
namespace Go.Proofs.YtfjfjjcdlgdbcaaDoor
open Go.RowKit Go.Shelf
set_option linter.unusedSimpArgs false
set_option linter.unusedVariables false

def linesP : List (List UInt8) → List (List UInt8 × Bool)
  | [] => []
  | [p] => if p = [] then [] else [(p, false)]
  | p :: q :: ps => (p, true) :: linesP (q :: ps)
/-- a text's lines, and whether a line feed stands behind each -/
def linesL (s : List UInt8) : List (List UInt8 × Bool) := linesP (splitL 10 s)
theorem linesL_nil : linesL [] = [] := rfl
theorem linesL_miss (s : List UInt8) (h : s ≠ []) (hi : Lib.indexByte s 10 = -1) : linesL s = [(s, false)] := by
  unfold linesL
  rw [splitL_miss 10 s hi, linesP, if_neg h]
theorem linesL_hit (s : List UInt8) (i : Nat) (hi : Lib.indexByte s 10 = (i : Int)) : linesL s = (s.take i, true) :: linesL (s.drop (i + 1)) ∧ i < s.length := by
  obtain ⟨h1, h2⟩ := splitL_hit 10 s i hi
  refine ⟨?_, h2⟩
  unfold linesL
  rw [h1]
  cases hs : splitL 10 (s.drop (i + 1)) with
  | nil => exact absurd hs (splitL_ne 10 _)
  | cons q ps => rfl
/-- the iterator's variable: what is left of the text -/
def LineVar (W : World) (b : Nat) (t : List UInt8) : Prop := Blk W b 9 #[.string (str t)]
noncomputable def World.textLen (W : World) (b : Nat) : Nat := match W.cell? ⟨b, 0, none⟩ with | some (.string s) => s.size | _ => 0
theorem textLen_of {W : World} {b : Nat} {t : List UInt8} (h : LineVar W b t) : World.textLen W b = t.length := by
  unfold World.textLen
  rw [Blk.cell h]
  rfl
theorem lines56_calls (s : List UInt8) (w : World) : Calls Tryd.prog 56 #[.string (str s)] w fun e w' =>
    e = .returned (.func (.func 87) #[] #[.pointer (some ⟨w.heap.size, 0, none⟩)]) ∧ w' = w.alloc (.cells #[.string (str s)] 9) := by
  have hmf : ∀ (fn : Fn) (first cap : Array Value) (W : World), (Instr.makeFunc fn first cap).run Tryd.prog W = .ok (.func fn first cap) W := fun fn first cap W => rfl
  go_enter Tryd.func56, Tryd.ntmps56
  go_wp2
  go_ret
  exact ⟨rfl, rfl⟩
theorem cut_miss (t : List UInt8) (h : Lib.indexByte t 10 = -1) : Lib.cut t [10] = (t, [], false) := by
  unfold Lib.cut
  rw [Lib.index_one, h]
  rfl
theorem cut_hit (t : List UInt8) (i : Nat) (h : Lib.indexByte t 10 = (i : Int)) : Lib.cut t [10] = (t.take i, t.drop (i + 1), true) := by
  unfold Lib.cut
  rw [Lib.index_one, h, if_pos (by omega)]
  rfl

attribute [local go_sem] Oper.semAt_some
set_option maxRecDepth 100000 in
set_option maxHeartbeats 4000000 in
/-- the iterator, over whatever a round keeps -/
theorem iter87_in (n : Nat) (l b : Nat) (s : List UInt8) (hs : s.length ≤ 100000000) (J Jx : List (List UInt8 × Bool) → World → Prop)
    (hY : ∀ pre x rest t W, linesL s = pre ++ x :: rest → J pre W → LineVar W b t → YieldAt Fence.wide (n - 1) Tryd.prog l #[.string (str x.1), .bool x.2] W fun e W' =>
      (e = .returned (.bool true) ∧ J (pre ++ [x]) W' ∧ LineVar W' b t) ∨ (e = .returned (.bool false) ∧ Jx (pre ++ [x]) W'))
    (hset : ∀ pre t t' W, J pre W → LineVar W b t → J pre (W.setCell ⟨b, 0, none⟩ (.string (str t'))))
    (hdr : ∀ pre k W, J pre W → J pre (W.drewN k)) (hmax : ∀ pre W, J pre W → ∃ m, W.cell? ⟨1, 0, none⟩ = some (.int .i64 m))
    (W : World) (h0 : J [] W) (hv : LineVar W b s) :
    CallsIn Fence.wide n Tryd.prog 87 #[.func (.yield l) #[] #[], .pointer (some ⟨b, 0, none⟩)] W fun e W' => (∃ v, e = .returned v) ∧ (J (linesL s) W' ∨ ∃ pre, Jx pre W') := by
  refine callsIn_of_wp Tryd.func87 rfl trivial ?_ rfl
  simp only [Tryd.ntmps87, List.size_toArray, List.length_cons, List.length_nil, Nat.reduceAdd, Nat.reduceSub, Array.replicate_succ, Array.replicate_zero, List.push_toArray, List.append_toArray, List.nil_append, List.cons_append]
  gi_wp2
  gi_loopw [3, 4, 5] (fun x y z wr => ∃ pre t, linesL s = pre ++ linesL t ∧ J pre wr ∧ LineVar wr b t ∧ t.length ≤ 100000000) (fun _ _ _ wr => World.textLen wr b)
  case atStart => exact ⟨[], s, rfl, h0, hv, hs⟩
  case round =>
    obtain ⟨pre, t, hx, hJ, hv', htl⟩ := hrel
    have c0 := Blk.cell hv' 0
    have hlen := Lib.hid (textLen_of hv')
    have HV := Lib.hid hv'
    have HJ := Lib.hid hJ
    have hszt : (str t).size = t.length := rfl
    by_cases hnil : t = []
    · subst hnil
      have HX := Lib.hid (show linesL s = pre by rw [hx, linesL_nil, List.append_nil])
      clear hx hv' hJ
      rw [str_nil] at c0
      gi_wp2
      go_end0
      exact ⟨⟨_, rfl⟩, .inl (by rw [HX.out]; exact HJ.out)⟩
    · have hpos : 0 < t.length := List.length_pos_iff.2 hnil
      have hposI : (0 : Int) < (t.length : Int) := by omega
      have hge := Lib.indexByte_ge t 10
      obtain ⟨m, hm⟩ := hmax pre wr hJ
      have hcut0 := Tryd.strings_Cut (str t) ⟨#[10]⟩ m wr (by rw [hszt]; omega) hm
      by_cases hi : Lib.indexByte t 10 = -1
      · have hsp := linesL_miss t hnil hi
        have HX := Lib.hid (show linesL s = pre ++ [(t, false)] by rw [hx, hsp])
        have hcut : Hid (Calls Tryd.prog 88 #[.string (str t), .string ⟨#[10]⟩] wr fun e w' => e = .returned (.tuple #[.string (str (t)), .string (str ([])), .bool false]) ∧ ∃ n, w' = wr.drewN n) := by
          rw [show Lib.cut (str t).data.toList (⟨#[10]⟩ : ByteArray).data.toList = (t, [], false) from cut_miss t hi] at hcut0
          exact hcut0
        clear hcut0
        have hYq := Lib.hid (fun q => hY pre (t, false) [] t (wr.drewN q) (by rw [hx, hsp]) (hdr _ q _ hJ) hv')
        clear hi hsp hx hv' hJ hm hge
        gi_wp2_with (refine ⟨trivial, (by intro hh; cases hh), ?_⟩; gi_at_call 88; refine (callsIn_wide.2 hcut.out).mono ?_; rintro e w1 ⟨rfl, q, rfl⟩; obtain ⟨fn, tmps, assign, body, hy, hR⟩ := hYq.out q)
        refine ⟨(by intro hh; cases hh), ?_⟩
        refine hR.mono ?_
        rintro e W3 (⟨rfl, hJ3, hv3⟩ | ⟨rfl, hJx3⟩)
        · have c03 := Blk.cell hv3 0
          have f03 := Blk.frozen hv3 0
          have hvn : LineVar (W3.setCell ⟨b, 0, none⟩ (.string (str []))) b [] := Blk.set_ hv3 0 _
          have HS := Lib.hid (hset (pre ++ [(t, false)]) t [] W3 hJ3 hv3)
          have HVN := Lib.hid hvn
          clear hv3 hvn hJ3
          gi_wp2
          go_roundw
          case rel => exact ⟨pre ++ [(t, false)], [], by rw [HX.out, linesL_nil, List.append_nil], HS.out, HVN.out, by simp⟩
          case measure => rw [textLen_of (t := []) HVN.out, hlen.out]; exact hpos
        · gi_wp2
          refine bodyPost_ret (results_none rfl _ _ _) rfl ?_
          exact ⟨⟨_, rfl⟩, .inr ⟨_, hJx3⟩⟩
      · obtain ⟨i, hi'⟩ : ∃ i : Nat, Lib.indexByte t 10 = i := ⟨(Lib.indexByte t 10).toNat, by omega⟩
        obtain ⟨hsp, hil⟩ := linesL_hit t i hi'
        have HX := Lib.hid (show linesL s = (pre ++ [(t.take i, true)]) ++ linesL (t.drop (i + 1)) by rw [hx, hsp]; simp)
        have hcut : Hid (Calls Tryd.prog 88 #[.string (str t), .string ⟨#[10]⟩] wr fun e w' => e = .returned (.tuple #[.string (str (t.take i)), .string (str (t.drop (i + 1))), .bool true]) ∧ ∃ n, w' = wr.drewN n) := by
          rw [show Lib.cut (str t).data.toList (⟨#[10]⟩ : ByteArray).data.toList = (t.take i, t.drop (i + 1), true) from cut_hit t i hi'] at hcut0
          exact hcut0
        clear hcut0
        have hYq := Lib.hid (fun q => hY pre (t.take i, true) (linesL (t.drop (i + 1))) t (wr.drewN q) (by rw [hx, hsp]) (hdr _ q _ hJ) hv')
        have HD : Hid ((t.drop (i + 1)).length < t.length) := by show (t.drop (i + 1)).length < t.length; simp; omega
        clear hi hi' hsp hx hv' hJ hm hge hil
        generalize t.take i = x0 at *
        generalize t.drop (i + 1) = t' at *
        gi_wp2_with (refine ⟨trivial, (by intro hh; cases hh), ?_⟩; gi_at_call 88; refine (callsIn_wide.2 hcut.out).mono ?_; rintro e w1 ⟨rfl, q, rfl⟩; obtain ⟨fn, tmps, assign, body, hy, hR⟩ := hYq.out q)
        refine ⟨(by intro hh; cases hh), ?_⟩
        refine hR.mono ?_
        rintro e W3 (⟨rfl, hJ3, hv3⟩ | ⟨rfl, hJx3⟩)
        · have c03 := Blk.cell hv3 0
          have f03 := Blk.frozen hv3 0
          have hvn : LineVar (W3.setCell ⟨b, 0, none⟩ (.string (str t'))) b t' := Blk.set_ hv3 0 _
          have HS := Lib.hid (hset (pre ++ [(x0, true)]) t t' W3 hJ3 hv3)
          have HVN := Lib.hid hvn
          clear hv3 hvn hJ3
          gi_wp2
          go_roundw
          case rel => exact ⟨pre ++ [(x0, true)], t', HX.out, HS.out, HVN.out, by have := HD.out; omega⟩
          case measure => rw [textLen_of HVN.out, hlen.out]; exact HD.out
        · gi_wp2
          refine bodyPost_ret (results_none rfl _ _ _) rfl ?_
          exact ⟨⟨_, rfl⟩, .inr ⟨_, hJx3⟩⟩
end Go.Proofs.YtfjfjjcdlgdbcaaDoor
namespace Go.Proofs.YtfjfjjcdlgdbcaaDoor
open Go.RowKit Go.Shelf
set_option linter.unusedSimpArgs false
set_option linter.unusedVariables false

theorem flat_length {α : Type} (f : α → List Value) (n : Nat) : ∀ (l : List α), (∀ x ∈ l, (f x).length = n) → (l.flatMap f).length = l.length * n
  | [], _ => by simp
  | x :: l, h => by
    rw [List.flatMap_cons, List.length_append, h x (by simp), flat_length f n l (fun y hy => h y (by simp [hy])), List.length_cons, Nat.add_mul]
    omega
theorem flat_get {α : Type} (f : α → List Value) (n : Nat) : ∀ (l : List α) (j i : Nat) (x : α), (∀ x ∈ l, (f x).length = n) → l[j]? = some x → i < n → (l.flatMap f)[j * n + i]? = (f x)[i]?
  | [], j, i, x, _, h, _ => by cases h
  | y :: l, 0, i, x, h, hx, hi => by
    obtain rfl : y = x := by simpa using hx
    rw [List.flatMap_cons, Nat.zero_mul, Nat.zero_add, List.getElem?_append_left (by rw [h y (by simp)]; exact hi)]
  | y :: l, j + 1, i, x, h, hx, hi => by
    rw [List.flatMap_cons, show (j + 1) * n + i = n + (j * n + i) by rw [Nat.add_mul]; omega, app_at n _ _ (h y (by simp))]
    exact flat_get f n l j i x (fun z hz => h z (by simp [hz])) (by simpa using hx) hi
abbrev PE := EntP × Value × Value
/-- an account's cells -/
def fE (p : PE) : List Value := (ek p.1 p.2.1 p.2.2).toList
theorem fE_length (p : PE) (h : p.1.Fit) : (fE p).length = 55 := by unfold fE; rw [Array.length_toList, ek_size _ _ _ h]
/-- bytes beyond block B, in a row of bytes -/
def CodeAt (w : World) (B : Nat) (c : Value) (xs : List UInt8) : Prop := ∃ A m d, c = .slice A m d ∧ RdB w A m d xs ∧ ∀ ad, A = some ad → B ≤ ad.block ∧ ad.block < w.heap.size ∧ ∃ cs, Blk w ad.block 5 cs
/-- an account whose code and slots lie beyond block B -/
structure EntAt (w : World) (B : Nat) (p : PE) : Prop where
  fit : p.1.Fit
  code : CodeAt w B p.2.1 p.1.code
  slots : w.ownsRow B 95 64 p.2.2 p.1.slots.length (p.1.slots.flatMap hk)
def Apart (s t : Value) : Prop := s.ownBlock = none ∨ s.ownBlock ≠ t.ownBlock
theorem Apart.symm {s t : Value} (h : Apart s t) : Apart t s := by
  rcases h with h | h
  · cases ht : t.ownBlock with
    | none => exact .inl ht
    | some k => right; rw [h, ht]; simp
  · exact .inr (fun e => h e.symm)
structure OwnP (w : World) (B : Nat) (v : Value) (ps : List PE) : Prop where
  row : w.ownsRow B 79 55 v ps.length (ps.flatMap fE)
  ents : ∀ p ∈ ps, EntAt w B p
  apart : ps.Pairwise fun p q => Apart p.2.2 q.2.2
def OwnE (w : World) (B : Nat) (v : Value) (es : List EntP) : Prop := ∃ ps, ps.map (·.1) = es ∧ OwnP w B v ps
theorem OwnE.nil (w : World) (B : Nat) : OwnE w B (.slice none 0 0) [] := ⟨[], rfl, World.ownsRow_nil _ _ _ _, by simp, List.Pairwise.nil⟩
theorem row_keeps {w w' : World} {B : Nat} {e : TypeId} {size : Nat} {v : Value} {n : Nat} {xs : List Value} (h : w.ownsRow B e size v n xs) (hk : KeepsLo B w w') : w'.ownsRow B e size v n xs := by
  refine ⟨h.1, ?_⟩
  rcases h.2 with h2 | ⟨g, cap, cur, e1, e2, e3, e4⟩
  · exact .inl h2
  · exact .inr ⟨g, cap, cur, e1, e2, (hk.2 g e2 (Array.getElem?_eq_some_iff.1 e3).1).trans e3, e4⟩
theorem CodeAt.keeps {w w' : World} {B : Nat} {c : Value} {xs : List UInt8} (h : CodeAt w B c xs) (hk : KeepsLo B w w') : CodeAt w' B c xs := by
  obtain ⟨A, m, d, rfl, hr, hb⟩ := h
  refine ⟨A, m, d, rfl, (RdBx.keeps (lo := B) ⟨hr, fun ad e => ⟨(hb ad e).1, (hb ad e).2.1⟩⟩ hk).1, fun ad e => ?_⟩
  obtain ⟨h1, h2, cs, h3⟩ := hb ad e
  exact ⟨h1, Nat.lt_of_lt_of_le h2 hk.1, cs, (hk.2 _ h1 h2).trans h3⟩
theorem EntAt.keeps {w w' : World} {B : Nat} {p : PE} (h : EntAt w B p) (hk : KeepsLo B w w') : EntAt w' B p := ⟨h.fit, h.code.keeps hk, row_keeps h.slots hk⟩
theorem OwnP.keeps {w w' : World} {B : Nat} {v : Value} {ps : List PE} (h : OwnP w B v ps) (hk : KeepsLo B w w') : OwnP w' B v ps := ⟨row_keeps h.row hk, fun p hp => (h.ents p hp).keeps hk, h.apart⟩
theorem OwnE.keeps {w w' : World} {B : Nat} {v : Value} {es : List EntP} (h : OwnE w B v es) (hk : KeepsLo B w w') : OwnE w' B v es := by
  obtain ⟨ps, h1, h2⟩ := h
  exact ⟨ps, h1, h2.keeps hk⟩
/-- code lies in rows of bytes: a row of another type is another block -/
theorem CodeAt.grown {w w' : World} {B : Nat} {c : Value} {xs : List UInt8} {row : Option Nat} (h : CodeAt w B c xs) (hg : w.grownBy w' row) (hne : ∀ k cs, Blk w k 5 cs → some k ≠ row) : CodeAt w' B c xs := by
  obtain ⟨A, m, d, rfl, ⟨h1, h2, h3, h4⟩, hb⟩ := h
  refine ⟨A, m, d, rfl, ⟨h1, h2, h3, fun hn => ?_⟩, fun ad e => ?_⟩
  · obtain ⟨ad, e, hc⟩ := h4 hn
    obtain ⟨b1, b2, cs, b3⟩ := hb ad e
    refine ⟨ad, e, fun j u hu => ?_⟩
    rw [cell_of_heap (hg.block _ (by rw [add_block]; exact b2) (by rw [add_block]; exact hne _ _ b3))]
    exact hc j u hu
  · obtain ⟨b1, b2, cs, b3⟩ := hb ad e
    exact ⟨b1, Nat.lt_of_lt_of_le b2 hg.size, cs, (hg.block _ b2 (hne _ _ b3)).trans b3⟩
theorem row_type {w : World} {B : Nat} {e : TypeId} {size : Nat} {v : Value} {n : Nat} {xs : List Value} (h : w.ownsRow B e size v n xs) {k : Nat} {t : TypeId} {cs : Array Value} (hb : Blk w k t cs) (ht : t ≠ e) : some k ≠ v.ownBlock := by
  rcases h.2 with ⟨rfl, _⟩ | ⟨g, cap, cur, rfl, _, hh, _⟩
  · intro e; cases e
  · intro e'
    obtain rfl : k = g := Option.some.inj e'
    unfold Blk at hb
    rw [hb] at hh
    have h1 := Option.some.inj hh
    injection h1 with _ h2
    exact ht h2
theorem row_apart {w : World} {B B' : Nat} {e e' : TypeId} {size size' : Nat} {v v' : Value} {n n' : Nat} {xs xs' : List Value} (h : w.ownsRow B e size v n xs) (h' : w.ownsRow B' e' size' v' n' xs') (hne : e ≠ e') : Apart v v' := by
  rcases h.2 with ⟨rfl, _⟩ | ⟨g, cap, cur, rfl, _, hh, _⟩
  · exact .inl rfl
  · right
    exact row_type h' hh hne
/-- an account is appended -/
theorem OwnP.push {w w2 : World} {B : Nat} {v v2 : Value} {ps : List PE} {p : PE} (h : OwnP w B v ps) (hr : w2.ownsRow B 79 55 v2 (ps.length + 1) (ps.flatMap fE ++ fE p)) (hg : w.grownBy w2 v.ownBlock) (hp : EntAt w B p) (hs : p.2.2.ownBlock = none) : OwnP w2 B v2 (ps ++ [p]) := by
  have key : ∀ q, EntAt w B q → EntAt w2 B q := fun q hq => ⟨hq.fit, hq.code.grown hg (fun k cs hk => row_type h.row hk (by decide)), World.ownsRow.kept hq.slots hg (row_apart hq.slots h.row (by decide))⟩
  refine ⟨by rw [List.length_append, List.flatMap_append]; simpa using hr, fun q hq => ?_, ?_⟩
  · rcases List.mem_append.1 hq with hq | hq
    · exact key q (h.ents q hq)
    · obtain rfl : q = p := by simpa using hq
      exact key q hp
  · rw [List.pairwise_append]
    exact ⟨h.apart, by simp, fun a ha b hb => by
      obtain rfl : b = p := by simpa using hb
      exact Apart.symm (.inl hs)⟩
theorem slice_of_own {w : World} {B : Nat} {e : TypeId} {size : Nat} {v : Value} {n : Nat} {xs : List Value} (h : w.ownsRow B e size v n xs) : ∃ A c, v = .slice A n c := by
  rcases h.2 with ⟨rfl, rfl⟩ | ⟨g, cap, cur, rfl, _⟩
  · exact ⟨_, _, rfl⟩
  · exact ⟨_, _, rfl⟩
theorem own_pos {w : World} {B : Nat} {e : TypeId} {size : Nat} {v : Value} {n : Nat} {xs : List Value} (h : w.ownsRow B e size v n xs) (hn : 0 < n) : ∃ g cap, v = .slice (some ⟨g, 0, none⟩) n cap ∧ B ≤ g ∧ g < w.heap.size ∧ n ≤ cap ∧ cap ≤ maxLen := by
  rcases h.2 with ⟨rfl, rfl⟩ | ⟨g, cap, cur, rfl, hB, hh, h1, h2, _⟩
  · omega
  · exact ⟨g, cap, rfl, hB, (Array.getElem?_eq_some_iff.1 hh).1, h1, h2⟩
theorem own_le {w : World} {B : Nat} {e : TypeId} {size : Nat} {v : Value} {n : Nat} {xs : List Value} (h : w.ownsRow B e size v n xs) : ∃ A c, v = .slice A n c ∧ n ≤ c ∧ c ≤ maxLen := by
  rcases h.2 with ⟨rfl, rfl⟩ | ⟨g, cap, cur, rfl, hB, hh, h1, h2, _⟩
  · exact ⟨_, _, rfl, Nat.le_refl _, by unfold maxLen; omega⟩
  · exact ⟨_, _, rfl, h1, h2⟩
theorem row_lt {j n s i : Nat} (hj : j < n) (hi : i < s) : j * s + i < n * s := by
  have h1 : (j + 1) * s ≤ n * s := Nat.mul_le_mul_right _ hj
  rw [Nat.add_mul] at h1
  omega
/-- slots that are owned read as slots -/
theorem slots_read {w : World} {B : Nat} {s : Value} {hs : List (List UInt8 × List UInt8)} (h : w.ownsRow B 95 64 s hs.length (hs.flatMap hk)) (hf : ∀ x ∈ hs, x.1.length = 32 ∧ x.2.length = 32) : ∃ A c, s = .slice A hs.length c ∧ RdS w A hs.length c hs := by
  obtain ⟨A, c, rfl, h1, h2⟩ := own_le h
  refine ⟨A, c, rfl, rfl, h1, h2, fun hn => ?_⟩
  obtain ⟨g, cap, e, hB, hg, _⟩ := own_pos h hn
  injection e with e1 e2 e3
  subst e1 e3
  refine ⟨g, 0, rfl, fun j x hj i u hi => ?_⟩
  have hjl : j < hs.length := (List.getElem?_eq_some_iff.1 hj).1
  have hil : i < 64 := by have := (List.getElem?_eq_some_iff.1 hi).1; rw [hk_length x (hf x (List.mem_of_getElem? hj))] at this; exact this
  rw [Nat.zero_add, World.ownsRow.cellAt h (j * 64 + i) (row_lt hjl hil), flat_get hk 64 hs j i x (fun y hy => hk_length y (hf y hy)) hj hil]
  exact hi
theorem EntAt.rd {w : World} {B : Nat} {p : PE} (h : EntAt w B p) : ∃ C m d S l q, p.2.1 = .slice C m d ∧ p.2.2 = .slice S l q ∧ RdEnt w p.1 C m d S l q := by
  obtain ⟨C, m, d, e1, hr, _⟩ := h.code
  obtain ⟨S, q, e2, hs⟩ := slots_read h.slots h.fit.hs
  exact ⟨C, m, d, S, _, q, e1, e2, h.fit, hr, hs⟩
/-- a list that is owned reads as accounts -/
theorem OwnE.reads {w : World} {B : Nat} {v : Value} {es : List EntP} (h : OwnE w B v es) : ∃ A c, v = .slice A es.length c ∧ RdE w A es.length c es := by
  obtain ⟨ps, rfl, hrow, hents, _⟩ := h
  rw [List.length_map]
  obtain ⟨A, c, rfl, h1, h2⟩ := own_le hrow
  refine ⟨A, c, rfl, by rw [List.length_map], h1, h2, fun hn => ?_⟩
  obtain ⟨g, cap, e, hB, hg, _⟩ := own_pos hrow hn
  injection e with e1 e2 e3
  subst e1 e3
  refine ⟨g, 0, rfl, fun j x hj => ?_⟩
  rw [List.getElem?_map] at hj
  obtain ⟨p, hp, rfl⟩ := Option.map_eq_some_iff.1 hj
  have hpm := List.mem_of_getElem? hp
  obtain ⟨C, m, d, S, l, q, e1, e2, hrd⟩ := (hents p hpm).rd
  refine ⟨C, m, d, S, l, q, fun i u hi => ?_, hrd⟩
  have hjl : j < ps.length := (List.getElem?_eq_some_iff.1 hp).1
  have hfe : (ek p.1 (.slice C m d) (.slice S l q)).toList = fE p := by unfold fE; rw [e1, e2]
  rw [hfe] at hi
  have hil : i < 55 := by have := (List.getElem?_eq_some_iff.1 hi).1; rw [fE_length p (hents p hpm).fit] at this; exact this
  rw [Nat.zero_add, World.ownsRow.cellAt hrow (j * 55 + i) (row_lt hjl hil), flat_get fE 55 ps j i p (fun y hy => fE_length y (hents y hy).fit) hp hil]
  exact hi
theorem flatMap_snoc {α : Type} (f : α → List Value) (l : List α) (x : α) : (l ++ [x]).flatMap f = l.flatMap f ++ f x := by simp
/-- the last account's slots are grown by one -/
theorem OwnP.grow {w w2 : World} {B g cap : Nat} {s2 : Value} {init : List PE} {p : PE} {h : List UInt8 × List UInt8} (hP : OwnP w B (.slice (some ⟨g, 0, none⟩) (init.length + 1) cap) (init ++ [p])) (hh : h.1.length = 32 ∧ h.2.length = 32)
    (hr : w2.ownsRow B 95 64 s2 (p.1.slots.length + 1) (p.1.slots.flatMap hk ++ hk h)) (hg : w.grownBy w2 p.2.2.ownBlock) (hat : s2.ownBlock = p.2.2.ownBlock ∨ ∃ k, w.heap.size ≤ k ∧ s2.ownBlock = some k) :
    OwnP (w2.setCell ⟨g, init.length * 55 + 54, none⟩ s2) B (.slice (some ⟨g, 0, none⟩) (init.length + 1) cap) (init ++ [({ p.1 with slots := p.1.slots ++ [h] }, p.2.1, s2)]) := by
  obtain ⟨hrow, hents, hap⟩ := hP
  have hpl : (init ++ [p]).length = init.length + 1 := by simp
  rw [hpl] at hrow
  have hp := hents p (by simp)
  have hrow2 : w2.ownsRow B 79 55 (.slice (some ⟨g, 0, none⟩) (init.length + 1) cap) (init.length + 1) ((init ++ [p]).flatMap fE) := World.ownsRow.kept hrow hg (row_apart hrow hp.slots (by decide))
  have hst := World.ownsRow.stored hrow2 (init.length * 55 + 54) s2
  have hfi : ∀ q ∈ init, (fE q).length = 55 := fun q hq => fE_length q (hents q (by simp [hq])).fit
  have hcells : ((init ++ [p]).flatMap fE).set (init.length * 55 + 54) s2 = (init ++ [({ p.1 with slots := p.1.slots ++ [h] }, p.2.1, s2)]).flatMap fE := by
    rw [flatMap_snoc, flatMap_snoc, List.set_append_right _ _ (by rw [flat_length fE 55 init hfi]; omega), flat_length fE 55 init hfi, show init.length * 55 + 54 - init.length * 55 = 54 by omega]
    congr 1
    have := congrArg Array.toList (set_eslots p.1 p.2.1 p.2.2 s2 (p.1.slots ++ [h]) hp.fit)
    rw [Array.toList_setIfInBounds] at this
    exact this
  rw [hcells] at hst
  have hblk : ∀ (e : TypeId) (v' : Value) (n size : Nat) (xs : List Value), e ≠ 79 → w2.ownsRow B e size v' n xs → (w2.setCell ⟨g, init.length * 55 + 54, none⟩ s2).ownsRow B e size v' n xs := fun e v' n size xs hne hv => World.ownsRow.kept hv hst.2 (row_apart hv hrow2 hne)
  have hcode : ∀ c xs, CodeAt w B c xs → CodeAt (w2.setCell ⟨g, init.length * 55 + 54, none⟩ s2) B c xs := fun c xs hc => (hc.grown hg (fun k cs hk => row_type hp.slots hk (by decide))).grown hst.2 (fun k cs hk => row_type hrow2 hk (by decide))
  rw [List.pairwise_append] at hap
  refine ⟨by rw [List.length_append]; exact hst.1, fun q hq => ?_, ?_⟩
  · rcases List.mem_append.1 hq with hq | hq
    · have hqe := hents q (by simp [hq])
      exact ⟨hqe.fit, hcode _ _ hqe.code, hblk _ _ _ _ _ (by decide) (World.ownsRow.kept hqe.slots hg (hap.2.2 q hq p (by simp)))⟩
    · obtain rfl := List.mem_singleton.1 hq
      refine ⟨⟨hp.fit.ha, hp.fit.hn, hp.fit.hb, fun x hx => ?_⟩, hcode _ _ hp.code, ?_⟩
      · rcases List.mem_append.1 hx with hx | hx
        · exact hp.fit.hs x hx
        · obtain rfl := List.mem_singleton.1 hx
          exact hh
      · show (w2.setCell ⟨g, init.length * 55 + 54, none⟩ s2).ownsRow B 95 64 s2 (p.1.slots ++ [h]).length ((p.1.slots ++ [h]).flatMap hk)
        rw [flatMap_snoc, List.length_append]
        exact hblk _ _ _ _ _ (by decide) hr
  · rw [List.pairwise_append]
    refine ⟨hap.1, by simp, fun a ha b hb => ?_⟩
    obtain rfl := List.mem_singleton.1 hb
    have haa := hents a (by simp [ha])
    rcases hat with hat | ⟨k, hk1, hk2⟩
    · have := hap.2.2 a ha p (by simp)
      unfold Apart at this ⊢
      rw [hat]
      exact this
    · cases ho : a.2.2.ownBlock with
      | none => exact .inl ho
      | some i =>
        right
        rw [ho, hk2]
        have := (haa.slots.lt i ho).2
        intro e
        injection e with e
        omega
end Go.Proofs.YtfjfjjcdlgdbcaaDoor
namespace Go.Proofs.YtfjfjjcdlgdbcaaDoor
open Go.RowKit Go.Shelf
set_option linter.unusedSimpArgs false
set_option linter.unusedVariables false

section
variable {P : Program} {ops : Array Oper} {rest : List Oper} {o : Oper} {a : Act} {w : World} {Q : Exit → Act → World → Prop} {l n : Nat}
theorem wpListIn_lift (hw : Region.wanted o (yielded ops a.tmps) = true) (hnd : ∀ c, o.op ≠ .defer c)
    (h : ∀ K : Act → World → Prop, (∀ a w, wpListIn (Fence.wide.inRound l) n P ops Q rest a w → K a w) → o.wp P a w K Q) : wpListIn (Fence.wide.inRound l) n P ops Q (o :: rest) a w :=
  wpListIn_step fun K hK => by
    rw [if_pos hw]
    exact wpIn_of_wp_round hnd (h K hK)
theorem inRoundLoadAgg (hw : Region.wanted o (yielded ops a.tmps) = true) (ty : TypeId) (x : Operand) (ho : o.op = .load ty x)
    (g p : Nat) (hx : a.eval x = .pointer (some ⟨g, p, none⟩)) (vs : List Value) (ht : AggT P ty vs.length) (hc : CellsAt w g p vs)
    (h : wpListIn (Fence.wide.inRound l) n P ops Q rest (a.put o.dst (.agg vs.toArray)) w) : wpListIn (Fence.wide.inRound l) n P ops Q (o :: rest) a w :=
  wpListIn_lift hw (by intro c e; rw [ho] at e; cases e) fun K hK => by
    unfold Oper.wp execOp
    simp only [ho, hx, Instr.loadAt, Instr.sureAddr, Sem.run_bind, Sem.run_pure, Result.andThen_ok, run_loadAgg w ty g p vs ht hc]
    exact hK _ _ h
theorem inRoundStoreAgg (hw : Region.wanted o (yielded ops a.tmps) = true) (hdst : o.dst = none) (ty : TypeId) (x y : Operand) (ho : o.op = .store ty x y)
    (g p : Nat) (hx : a.eval x = .pointer (some ⟨g, p, none⟩)) (vs : Array Value) (hy : a.eval y = .agg vs) (ht : AggT P ty vs.size) (hr : RoomAt w g p vs.size) (h1 : AllOne vs.toList)
    (h : wpListIn (Fence.wide.inRound l) n P ops Q rest a (w.setCells g p vs.toList)) : wpListIn (Fence.wide.inRound l) n P ops Q (o :: rest) a w :=
  wpListIn_lift hw (by intro c e; rw [ho] at e; cases e) fun K hK => by
    unfold Oper.wp execOp
    simp only [ho, hx, hy, Instr.storeAt, Instr.sureAddr, Sem.run_bind, Sem.run_pure, Result.andThen_ok, run_storeAgg w ty g p vs ht hr h1]
    show K (a.put o.dst undef) _
    rw [hdst]
    exact hK _ _ h
theorem inRoundStoreNew (hw : Region.wanted o (yielded ops a.tmps) = true) (hdst : o.dst = none) (ty : TypeId) (x y : Operand) (ho : o.op = .store ty x y)
    (c : Array Value) (t : TypeId) (hx : a.eval x = .pointer (some ⟨w.heap.size, 0, none⟩)) (vs : Array Value) (hy : a.eval y = .agg vs) (ht : AggT P ty vs.size) (hs : c.size = vs.size) (h1 : AllOne vs.toList)
    (h : wpListIn (Fence.wide.inRound l) n P ops Q rest a (w.alloc (.cells vs t))) : wpListIn (Fence.wide.inRound l) n P ops Q (o :: rest) a (w.alloc (.cells c t)) := by
  refine inRoundStoreAgg hw hdst ty x y ho _ 0 hx vs hy ht (roomAt_alloc_at w c t _ 0 _ rfl (by omega)) h1 ?_
  rw [setCells_alloc_at _ _ _ _ _ _ rfl (by simp; omega), ovw_all _ _ (by simpa using hs)]
  simpa using h
/-- a builtin whose run is known -/
theorem inRoundAppend (hw : Region.wanted o (yielded ops a.tmps) = true) (s x : Operand) (t : TypeId) (ho : o.op = .call { callee := .builtin .append, args := #[s, x], argTypes := #[t, t] }) (hty : o.type = t)
    (v u : Value) (hs : a.eval s = v) (hx : a.eval x = u) (v' : Value) (w' : World) (hrun : (Builtin.append_ #[t, t] t #[v, u]).run P w = .ok v' w')
    (h : wpListIn (Fence.wide.inRound l) n P ops Q rest (a.put o.dst v') w') : wpListIn (Fence.wide.inRound l) n P ops Q (o :: rest) a w :=
  wpListIn_lift hw (by intro c e; rw [ho] at e; cases e) fun K hK => by
    unfold Oper.wp execOp
    simp only [ho, hty, resolve, invoke, builtin, Sem.run_bind, Sem.run_pure, Result.andThen_ok, List.map_toArray, List.map_cons, List.map_nil, hs, hx, hrun]
    exact hK _ _ h
theorem inRoundBuildSlice1 (hw : Region.wanted o (yielded ops a.tmps) = true) (t e : TypeId) (k : Nat) (x : Operand) (ho : o.op = .buildSlice t 1 #[(0, x)]) (cs : Array Value) (hx : a.eval x = .agg cs)
    (ht : P.underlying t = some (.slice e)) (he : AggT P e k) (hz : ((P.info? e).bind (·.zero)).isSome = true) (hs : cs.size = k) (hk : k ≤ 1000) (hk0 : 0 < k)
    (h : wpListIn (Fence.wide.inRound l) n P ops Q rest (a.put o.dst (.slice (some ⟨w.heap.size, 0, none⟩) 1 1)) (w.alloc (.cells cs e))) : wpListIn (Fence.wide.inRound l) n P ops Q (o :: rest) a w :=
  wpListIn_lift hw (by intro c e; rw [ho] at e; cases e) fun K hK => by
    unfold Oper.wp execOp
    simp only [ho, List.map_toArray, List.map_cons, List.map_nil, hx, Sem.run_bind, Sem.run_pure, Result.andThen_ok, run_buildSlice1 w t e k cs ht he hz hs hk hk0]
    exact hK _ _ h
end
theorem LineVar.putObj {W : World} {b l : Nat} {t : List UInt8} (h : LineVar W b t) (hl : b < l) (o : Obj) : LineVar (W.putObj l o) b t := putObj_block h (by omega)
/-- a range over the lines of a text -/
theorem line_range {n : Nat} {g : Operand} {ps : Array Tmp} {assign body : Code} {Q : Exit → Act → World → Prop} {a : Act} {w : World} {b : Nat}
    (hg : a.eval g = .func (.func 87) #[] #[.pointer (some ⟨b, 0, none⟩)]) (hps : ps.size = 2)
    (s : List UInt8) (hs : s.length ≤ 100000000) (hv : LineVar w b s) (S Sx : List (List UInt8 × Bool) → World → Prop)
    (hput : ∀ pre W o, S pre W → S pre (W.putObj (w.heap.size + 1) o)) (hxput : ∀ pre W o, Sx pre W → Sx pre (W.putObj (w.heap.size + 1) o))
    (hset : ∀ pre t' W, S pre W → S pre (W.setCell ⟨b, 0, none⟩ (.string (str t')))) (hdr : ∀ pre k W, S pre W → S pre (W.drewN k))
    (hmax : ∀ pre W, S pre W → ∃ m, W.cell? ⟨1, 0, none⟩ = some (.int .i64 m))
    (h0 : ∀ o, S [] ((w.alloc (.deferred (some []))).alloc o))
    (hround : ∀ pre x rest t W, linesL s = pre ++ x :: rest → S pre W → LineVar W b t → (∃ r, W.heap[w.heap.size + 1]? = some (.loop r)) →
      ∃ a₁, (∀ W' (K : Act → World → Prop), K a₁ W' → assign.wpIn (Fence.wide.inRound (w.heap.size + 1)) (n - 1 - 1) Tryd.prog (Exit.then K (fun _ _ _ => False)) { tmps := (ps.zip #[Value.string (str x.1), Value.bool x.2]).foldl (fun tmps (t, a) => tmps.setIfInBounds t a) a.tmps, defers := [] } W') ∧
        body.wpIn (Fence.wide.inRound (w.heap.size + 1)) (n - 1 - 1) Tryd.prog (fun e _ W3 => W3.heap[w.heap.size + 1]? = W.heap[w.heap.size + 1]? ∧ ((e = .normal ∧ S (pre ++ [x]) W3 ∧ LineVar W3 b t) ∨ (e = .ret ∧ Sx (pre ++ [x]) W3))) a₁ W)
    (hdone : ∀ W, S (linesL s) W → Q .normal { a with defers := [{ target := .collected w.heap.size, args := #[] }] ++ a.defers } W)
    (hstop : ∀ pre W, Sx pre W → Code.ret.wpIn Fence.wide n Tryd.prog Q { a with defers := [{ target := .collected w.heap.size, args := #[] }] ++ a.defers } W) :
    (Code.rangeFunc g ps assign body).wpIn Fence.wide n Tryd.prog Q a w := by
  have hbl : b < w.heap.size := Blk.lt hv
  refine range_at (gf := 87) (lb := #[.pointer (some ⟨b, 0, none⟩)]) hg (enters_of Tryd.func87 (by kernel_rfl) rfl) ?_
  intro fn
  have hl0 : ((w.alloc (.deferred (some []))).alloc (lrec fn a.tmps ps assign body w.heap.size .ready none)).heap[w.heap.size + 1]? = some (lrec fn a.tmps ps assign body w.heap.size .ready none) := by
    have := World.alloc_heap_new (w.alloc (.deferred (some []))) (lrec fn a.tmps ps assign body w.heap.size .ready none)
    rwa [World.size_alloc] at this
  have hv0 : LineVar ((w.alloc (.deferred (some []))).alloc (lrec fn a.tmps ps assign body w.heap.size .ready none)) b s := (Blk.alloc hv _).alloc _
  refine (iter87_in (n - 1) (w.heap.size + 1) b s hs
    (fun pre W => W.heap[w.heap.size + 1]? = some (lrec fn a.tmps ps assign body w.heap.size .ready none) ∧ S pre W)
    (fun pre W => W.heap[w.heap.size + 1]? = some (lrec fn a.tmps ps assign body w.heap.size .done (some .ret)) ∧ Sx pre W)
    ?_ ?_ (fun pre k W ⟨h1, h2⟩ => ⟨h1, hdr pre k W h2⟩) (fun pre W h => hmax pre W h.2) _ ⟨hl0, h0 _⟩ hv0).mono ?_
  · rintro pre x rest t W hx ⟨hl, hS⟩ hvt
    have hlt : w.heap.size + 1 < W.heap.size := (Array.getElem?_eq_some_iff.1 hl).1
    have hb1 : (W.putObj (w.heap.size + 1) (lrec fn a.tmps ps assign body w.heap.size .busy none)).heap[w.heap.size + 1]? = some (lrec fn a.tmps ps assign body w.heap.size .busy none) := World.putObj_heap_same hlt
    obtain ⟨a₁, ha, hb⟩ := hround pre x rest t (W.putObj (w.heap.size + 1) (lrec fn a.tmps ps assign body w.heap.size .busy none)) hx (hput _ _ _ hS) (hvt.putObj (by omega) _) ⟨_, hb1⟩
    refine round_at hl (by rw [hps]; rfl) a₁ (fun K hK => ha W K hK) (wpIn_mono hb ?_)
    rintro e a3 W3 ⟨hl3, hp⟩
    rw [hb1] at hl3
    have hlt3 : w.heap.size + 1 < W3.heap.size := (Array.getElem?_eq_some_iff.1 hl3).1
    refine ⟨hl3, ?_⟩
    rcases hp with ⟨rfl, h3, hv3⟩ | ⟨rfl, h3⟩
    · exact .inl ⟨rfl, .inl ⟨rfl, ⟨World.putObj_heap_same hlt3, hput _ _ _ h3⟩, hv3.putObj (by omega) _⟩⟩
    · exact .inr ⟨rfl, .inr ⟨rfl, World.putObj_heap_same hlt3, hxput _ _ _ h3⟩⟩
  · rintro pre t t' W ⟨hl, hS⟩ _
    refine ⟨?_, hset _ _ _ hS⟩
    rw [Below.heap_setCell W ⟨b, 0, none⟩ _ (w.heap.size + 1) (by show w.heap.size + 1 ≠ b; omega)]
    exact hl
  · rintro e W2 ⟨⟨v, rfl⟩, (⟨hl, hS⟩ | ⟨pre, hl, hS⟩)⟩
    · have h := run_endLoop (P := Tryd.prog) hl (by intro h; cases h)
      exact ⟨_, _, h, hdone _ (hput _ _ _ hS)⟩
    · have h := run_endLoop (P := Tryd.prog) hl (by intro h; cases h)
      exact ⟨_, _, h, hstop pre _ (hxput _ _ _ hS)⟩
/-- one line more -/
def stepL (es : List EntP) (x : List UInt8 × Bool) : Option (List EntP) :=
  match accL (splitL 32 x.1) with
  | some e => if x.2 = true ∧ risesB (es ++ [e]) es.length = true then some (es ++ [e]) else none
  | none => match slotL (splitL 32 x.1) with
    | none => none
    | some h => match es.getLast? with
      | none => none
      | some e => if x.2 = true ∧ holdsB (e.slots ++ [h]) e.slots.length = true then some (es.dropLast ++ [{ e with slots := e.slots ++ [h] }]) else none
/-- the list of lines, or the number of the first that can't be -/
def parseGo : List EntP → Nat → List (List UInt8 × Bool) → List EntP ⊕ Nat
  | es, _, [] => .inl es
  | es, n, x :: r => match stepL es x with
    | none => .inr n
    | some es' => parseGo es' (n + 1) r
def linesTo (pre : List (List UInt8 × Bool)) : Option (List EntP) := pre.foldlM stepL []
theorem linesTo_snoc (pre : List (List UInt8 × Bool)) (x : List UInt8 × Bool) : linesTo (pre ++ [x]) = (linesTo pre).bind fun es => stepL es x := by
  unfold linesTo
  rw [List.foldlM_append]
  cases pre.foldlM stepL [] <;> simp
theorem parseGo_at : ∀ (pre : List (List UInt8 × Bool)) (es es' : List EntP) (n : Nat) (rest : List (List UInt8 × Bool)), pre.foldlM stepL es = some es' → parseGo es n (pre ++ rest) = parseGo es' (n + pre.length) rest
  | [], es, es', n, rest, h => by
    obtain rfl : es = es' := by simpa using h
    rfl
  | x :: pre, es, es', n, rest, h => by
    rw [List.foldlM_cons] at h
    cases hx : stepL es x with
    | none => rw [hx] at h; cases h
    | some e1 =>
      rw [hx] at h
      rw [List.cons_append, parseGo, hx]
      show parseGo e1 (n + 1) (pre ++ rest) = _
      rw [parseGo_at pre e1 es' (n + 1) rest h, List.length_cons]
      congr 1
      omega
theorem parseGo_all (s : List UInt8) (es : List EntP) (h : linesTo (linesL s) = some es) : parseGo [] 0 (linesL s) = .inl es := by
  have := parseGo_at (linesL s) [] es 0 [] h
  rw [List.append_nil] at this
  rw [this]
  rfl
theorem parseGo_stop (s : List UInt8) (pre rest : List (List UInt8 × Bool)) (x : List UInt8 × Bool) (es : List EntP) (hx : linesL s = pre ++ x :: rest) (h : linesTo pre = some es) (h1 : stepL es x = none) : parseGo [] 0 (linesL s) = .inr pre.length := by
  rw [hx, parseGo_at pre [] es 0 _ h, parseGo, h1]
  show Sum.inr (0 + pre.length) = _
  rw [Nat.zero_add]
end Go.Proofs.YtfjfjjcdlgdbcaaDoor
