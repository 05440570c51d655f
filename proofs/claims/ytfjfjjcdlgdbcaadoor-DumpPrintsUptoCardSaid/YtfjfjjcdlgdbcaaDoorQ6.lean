/- the texts A8, C0, C2, E16, D0, D1 of this proof, one behind the other -/
import Derived.Test.YtfjfjjcdlgdbcaaDoorQ5
import Derived.DeepKeys
import Derived.ProofKit
import Derived.OpenShut
import Derived.ShutString
import Derived.Test.YtfjfjjcdlgdbcaaDoorCards
import Derived.SizedLaws
import Derived.Lib.LaidU8
import Derived.Shelf.Vars
import Derived.Lib.Bytealg
import Derived.Laws.Externs
import Derived.Lib.Builder
import Derived.Lib.AppendStr
import Derived.Deep.MidRow
import Derived.Deep.QuietTactic
import Derived.BigQuiet
namespace Go.Proofs.YtfjfjjcdlgdbcaaDoor
open Go.RowKit

def blit (b : UInt8) : Lit := .int .u8 (b.toNat : Int)
theorem blit_wf (b : UInt8) : (blit b).wf = true := by
  have := b.toNat_lt
  simp [blit, Lit.wf, IntKind.min, IntKind.max, IntKind.signed, IntKind.bits]; omega
theorem blits_inj {xs ys : List UInt8} (h : xs.map blit = ys.map blit) : xs = ys := by
  induction xs generalizing ys with
  | nil => cases ys with
    | nil => rfl
    | cons y ys => simp at h
  | cons x xs ih => cases ys with
    | nil => simp at h
    | cons y ys =>
      simp only [List.map_cons, List.cons.injEq] at h
      have h1 := h.1
      unfold blit at h1
      injection h1 with _ h1
      have h2 : x = y := UInt8.toNat_inj.1 (by omega)
      rw [ih h.2, h2]
theorem mapM_some {α β : Type} (f : α → Option β) (g : α → β) : ∀ l : List α, (∀ x ∈ l, f x = some (g x)) → l.mapM f = some (l.map g)
  | [], _ => rfl
  | x :: l, h => by
    rw [List.mapM_cons, h x (by simp), mapM_some f g l (fun y hy => h y (by simp [hy]))]
    rfl
section
variable {P : Program}
theorem keyLits_bytes (d : Nat) (t e : TypeId) (n : Nat) (xs : List UInt8) (ht : P.underlying t = some (.array n e)) (he : P.underlying e = some (.int .u8)) (hce : P.cellsOf e = 1) (hct : P.cellsOf t = n) (hx : xs.length = n) :
    P.keyLits (d + 2) t (bvs xs) = some (xs.map blit) := by
  unfold Program.keyLits
  rw [ht]
  simp only [hce, hct, bvs_length, hx, if_true, Nat.mul_one]
  have h : (List.range n).mapM (fun i => P.keyLits (d + 1) e (((bvs xs).drop i).take 1)) = some ((List.range n).map fun i => [blit (xs.getD i 0)]) := by
    refine mapM_some _ _ _ (fun i hi => ?_)
    have hi' : i < xs.length := by rw [hx]; exact List.mem_range.1 hi
    have e1 : ((bvs xs).drop i).take 1 = [bv xs[i]] := by
      rw [bvs_drop, List.drop_eq_getElem_cons hi']
      rfl
    rw [e1]
    unfold Program.keyLits
    rw [he]
    have hw := blit_wf xs[i]
    unfold blit at hw
    simp only [bv, hw, and_self, if_true]
    simp [blit, List.getD_eq_getElem?_getD, List.getElem?_eq_getElem hi']
  rw [h]
  simp only [Option.map_some, Option.some.injEq]
  rw [← List.flatMap_def]
  apply List.ext_getElem?
  intro j
  subst hx
  have e2 : (List.range xs.length).flatMap (fun i => [blit (xs.getD i 0)]) = (List.range xs.length).map (fun i => blit (xs.getD i 0)) := by
    generalize List.range xs.length = l
    induction l with
    | nil => rfl
    | cons a l ih => rw [List.flatMap_cons, ih]; rfl
  rw [e2, List.getElem?_map, List.getElem?_map]
  by_cases hj : j < xs.length
  · rw [List.getElem?_range hj]
    simp [hj]
  · rw [List.getElem?_eq_none (by simp; omega), List.getElem?_eq_none (by omega)]
    rfl
theorem run_equalBytes (w : World) (d : Nat) (t e : TypeId) (n : Nat) (x y : List UInt8) (hk : P.keyTypeAt 2 t = true) (ht : P.underlying t = some (.array n e)) (he : P.underlying e = some (.int .u8)) (hce : P.cellsOf e = 1) (hct : P.cellsOf t = n) (hx : x.length = n) (hy : y.length = n) :
    (Op.equalIn (d + 2) t (.agg (bvs x).toArray) (.agg (bvs y).toArray)).run P w = .ok (decide (x = y)) w := by
  have fx : ∀ z : List UInt8, z.length = n → (Value.agg (bvs z).toArray).formed P t = true := fun z hz => by unfold Value.formed; rw [ht, hct]; simp [bvs_length, hz]
  obtain ⟨r, hr, hiff⟩ := run_equalIn_deep d 2 t hk w 2 2 (.agg (bvs x).toArray) (.agg (bvs y).toArray) _ _ (fx x hx) (fx y hy) (keyLits_bytes 0 t e n x ht he hce hct hx) (keyLits_bytes 0 t e n y ht he hce hct hy)
  rw [hr]
  congr 1
  rw [Bool.eq_iff_iff, hiff, decide_eq_true_iff]
  exact ⟨blits_inj, fun h => by rw [h]⟩
end
/-- the same cells are the same, whatever the type of keys -/
theorem run_equalSame {P : Program} (w : World) (m d D : Nat) (t : TypeId) (v : Value) (l : List Lit) (hk : P.keyTypeAt m t = true) (hf : v.formed P t = true) (hl : P.keyLits D t v.cells.toList = some l) :
    (Op.equalIn (d + m) t v v).run P w = .ok true w := by
  obtain ⟨r, hr, hiff⟩ := run_equalIn_deep d m t hk w D D v v _ _ hf hf hl hl
  rw [hr, hiff.2 rfl]
end Go.Proofs.YtfjfjjcdlgdbcaaDoor
namespace Go.Proofs.YtfjfjjcdlgdbcaaDoor
open Go.ChangeShapes Go.WideShapes Go.ChangeAt Go.RowKit

/-- a slice of bytes that came in -/
theorem open_bytes {H : Type} {enc : TypeId × Value → H} {P : Program} {W : World} {base : Nat} {spare : Nat → Bool} {held : Bool} {t e : TypeId} {A : Option Addr} {n c : Nat} {x : DataW H × List MemPlace} {fuel : Nat}
    (ht : P.underlying t = some (.slice e)) (he : P.underlying e = some (.int .u8)) (hc : P.cellsOf e = 1) (h : DataW.trod enc P W base spare held fuel t [.slice A n c] = some x) :
    ∃ xs, RdB W A n c xs := by
  rcases open_ints ht he hc h with ⟨hcs, _⟩ | ⟨a, l, cap, zs, hcs, _, hl, hm, hzl, _, hcell, hwz⟩
  · simp at hcs
    obtain ⟨rfl, rfl, rfl⟩ := hcs
    exact ⟨[], rfl, Nat.le_refl _, by unfold maxLen; omega, fun hp => absurd hp (by omega)⟩
  · simp at hcs
    obtain ⟨rfl, rfl, rfl⟩ := hcs
    have hnz : n ≤ zs.length := by rw [hzl]; split <;> omega
    refine ⟨(zs.take n).map fun z => UInt8.ofNat z.toNat, by rw [List.length_map, List.length_take]; omega, hl, hm, fun hp => ⟨a, rfl, fun j u hu => ?_⟩⟩
    simp only [List.getElem?_map, Option.map_eq_some_iff, List.getElem?_take] at hu
    obtain ⟨z, hz', rfl⟩ := hu
    split at hz'
    · have hj := (List.getElem?_eq_some_iff.1 hz').1
      have h1 := hcell j hj
      have e1 : zs.getD j 0 = z := by simp [List.getD_eq_getElem?_getD, hz']
      rw [e1] at h1
      rw [h1]
      have hw := hwz z (List.mem_of_getElem? hz')
      have : 0 ≤ z ∧ z ≤ 255 := by simpa [Lit.wf, IntKind.min, IntKind.max, IntKind.signed, IntKind.bits] using hw
      simp [bv]; omega
    · cases hz'
end Go.Proofs.YtfjfjjcdlgdbcaaDoor
namespace Go.Proofs.YtfjfjjcdlgdbcaaDoor
open Go.ChangeShapes Go.WideShapes Go.ChangeAt Go.RowKit

theorem trod_byte {H : Type} {enc : TypeId × Value → H} {P : Program} {W : World} {base : Nat} {spare : Nat → Bool} {held : Bool} {e : TypeId} {c : List Value} {x : DataW H × List MemPlace} {fuel : Nat}
    (he : P.underlying e = some (.int .u8)) (h : DataW.trod enc P W base spare held fuel e c = some x) : ∃ b : UInt8, c = [bv b] := by
  obtain ⟨z, e1, _, hw⟩ := DataW.trod_int he h
  have hz : 0 ≤ z ∧ z ≤ 255 := by simpa [Lit.wf, IntKind.min, IntKind.max, IntKind.signed, IntKind.bits] using hw
  refine ⟨UInt8.ofNat z.toNat, ?_⟩
  rw [e1]
  simp [bv]; omega

theorem rows_bytes (cs : List Value) (h : ∀ i, i < cs.length → ∃ b : UInt8, (cs.drop i).take 1 = [bv b]) : ∃ xs, cs = bvs xs := by
  induction cs with
  | nil => exact ⟨[], rfl⟩
  | cons c cs ih =>
    obtain ⟨b, hb⟩ := h 0 (by simp)
    obtain ⟨xs, hx⟩ := ih (fun i hi => by
      have := h (i + 1) (by simp; omega)
      simpa using this)
    refine ⟨b :: xs, ?_⟩
    simp only [List.drop_zero, List.take_succ_cons, List.take_zero, List.cons.injEq, and_true] at hb
    rw [hb, hx]; rfl

/-- an array of bytes by value -/
theorem open_array {H : Type} {enc : TypeId × Value → H} {P : Program} {W : World} {base b0 : Nat} {r : Reach} {spare : Nat → Bool} {held : Bool} {t e : TypeId} {n : Nat} {v : Value} {d : DataW H} {p : List MemPlace}
    (ht : P.underlying t = some (.array n e)) (he : P.underlying e = some (.int .u8)) (hce : P.cellsOf e = 1) (hct : P.cellsOf t = n) (hv : Value.okWide P W r b0 t v) (h : DataW.Trod enc P W base spare held t v d p) :
    ∃ xs, v = .agg (bvs xs).toArray ∧ xs.length = n := by
  simp only [Value.okWide, ht] at hv
  obtain ⟨cs, rfl, hs, _⟩ := hv
  obtain ⟨fuel, hf⟩ := h
  obtain ⟨ys, m, _, _, hl, hyl, hy⟩ := DataW.trod_array ht hf
  simp only [Value.cells] at hl hy
  obtain ⟨xs, hx⟩ := rows_bytes cs.toList (fun i hi => by
    have hi' : i < n := by simp at hi; omega
    have h1 := hy i hi'
    rw [hce, Nat.mul_one, List.getElem?_eq_getElem (by omega)] at h1
    exact trod_byte he h1)
  refine ⟨xs, ?_, ?_⟩
  · rw [← hx]
  · rw [← bvs_length, ← hx]; simp; omega
end Go.Proofs.YtfjfjjcdlgdbcaaDoor
namespace Go.Proofs.YtfjfjjcdlgdbcaaDoor
open Go.ChangeShapes Go.WideShapes Go.ChangeAt Go.RowKit
set_option linter.unusedSimpArgs false
set_option linter.unusedVariables false

theorem exists_list {α : Type} (P : Nat → α → Prop) : ∀ n : Nat, (∀ j, j < n → ∃ a, P j a) → ∃ l : List α, l.length = n ∧ ∀ (j : Nat) a, l[j]? = some a → P j a
  | 0, _ => ⟨[], rfl, fun j a h => by simp at h⟩
  | n + 1, h => by
    obtain ⟨l, hl, hp⟩ := exists_list P n (fun j hj => h j (by omega))
    obtain ⟨a, ha⟩ := h n (by omega)
    refine ⟨l ++ [a], by simp [hl], fun j b hj => ?_⟩
    by_cases e : j < n
    · rw [List.getElem?_append_left (by omega)] at hj
      exact hp j b hj
    · rw [List.getElem?_append_right (by omega)] at hj
      have hj0 : j - l.length = 0 := by
        have := (List.getElem?_eq_some_iff.1 hj).1
        simp at this
        omega
      rw [hj0] at hj
      simp at hj
      obtain rfl : j = n := by omega
      rw [← hj]; exact ha
theorem spot_of_cell {w : World} {a : Addr} {v : Value} (h : w.cell? a = some v) : a.spot = none := by
  unfold World.cell? at h
  split at h
  · split at h
    · cases h
    · rename_i hs; simpa using hs
  · cases h
theorem weightsAll_mem {H : Type} {P : Program} {e : TypeId} : ∀ {l : List (DataW H)} {d : DataW H}, d ∈ l → ∀ n ∈ d.weights P e, n ∈ DataW.weightsAll P e l
  | x :: l, d, hd, n, hn => by
    simp only [DataW.weightsAll, List.mem_append]
    rcases List.mem_cons.1 hd with rfl | hd
    · exact .inl hn
    · exact .inr (weightsAll_mem hd n hn)

section
variable {H : Type} {enc : TypeId × Value → H} {W : World} {base : Nat} {spare : Nat → Bool} {held : Bool}
theorem Tryd.bytesOf5 : Tryd.prog.bytesOf 5 = 1 := by kernel_rfl
theorem Tryd.bytesOf112 : Tryd.prog.bytesOf 112 = 48 := by kernel_rfl
theorem Tryd.cellsOf22 : Tryd.prog.cellsOf 22 = 1 := by kernel_rfl
theorem Tryd.cellsOf112 : Tryd.prog.cellsOf 112 = 2 := by kernel_rfl
theorem Tryd.cellsOf64 : Tryd.prog.cellsOf 64 = 121 := by kernel_rfl
theorem Tryd.cellsOf60 : Tryd.prog.cellsOf 60 = 20 := by kernel_rfl
theorem Tryd.cellsOf61 : Tryd.prog.cellsOf 61 = 32 := by kernel_rfl
theorem Tryd.cellsOf25 : Tryd.prog.cellsOf 25 = 32 := by kernel_rfl
theorem Tryd.cellsOf3 : Tryd.prog.cellsOf 3 = 1 := by kernel_rfl
theorem Tryd.cellsOf62 : Tryd.prog.cellsOf 62 = 1 := by kernel_rfl
theorem Tryd.cellsOf5 : Tryd.prog.cellsOf 5 = 1 := by kernel_rfl

/-- bytes in a field -/
theorem open_bytesF {fuel : Nat} {c : List Value} {x : DataW H × List MemPlace} (h : DataW.trod enc Tryd.prog W base spare held fuel 22 c = some x) :
    ∃ A n cap xs, c = [.slice A n cap] ∧ RdB W A n cap xs ∧ ((∀ k ∈ x.1.weights Tryd.prog 22, k ≤ reachBytes) → n ≤ reachBytes) := by
  rcases DataW.trod_slice Tryd.underlying22 h with ⟨hc, hx⟩ | ⟨a, len, cap, elems, rest, n, _, hc, hx, _, _, _, hel, _⟩
  · subst hc
    obtain ⟨xs, hr⟩ := open_bytes Tryd.underlying22 Tryd.underlying5 Tryd.cellsOf5 h
    exact ⟨none, 0, 0, xs, rfl, hr, fun _ => Nat.zero_le _⟩
  · subst hc
    obtain ⟨xs, hr⟩ := open_bytes Tryd.underlying22 Tryd.underlying5 Tryd.cellsOf5 h
    refine ⟨some a, len, cap, xs, rfl, hr, fun hw => ?_⟩
    have := hw ((elems.length + rest.length) * 1) (by rw [hx]; simp [DataW.weights, Tryd.underlying22, Tryd.bytesOf5])
    omega
/-- an array of bytes in a field -/
theorem open_arrF {t n : Nat} (ht : Tryd.prog.underlying t = some (.array n 5)) {fuel : Nat} {c : List Value} {x : DataW H × List MemPlace} (hct : Tryd.prog.cellsOf t = n) (h : DataW.trod enc Tryd.prog W base spare held fuel t c = some x) :
    ∃ xs, c = bvs xs ∧ xs.length = n := by
  obtain ⟨ys, m, _, _, hl, hyl, hy⟩ := DataW.trod_array ht h
  obtain ⟨xs, hx⟩ := rows_bytes c (fun i hi => by
    have hi' : i < n := by omega
    have h1 := hy i hi'
    rw [Tryd.cellsOf5, Nat.mul_one, List.getElem?_eq_getElem (by omega)] at h1
    exact trod_byte Tryd.underlying5 h1)
  refine ⟨xs, hx, ?_⟩
  rw [← bvs_length, ← hx]; omega
set_option maxRecDepth 100000 in
/-- a list of keys and values -/
theorem open_kvs {fuel : Nat} {c : List Value} {x : DataW H × List MemPlace} (h : DataW.trod enc Tryd.prog W base spare held fuel 62 c = some x) :
    ∃ A n cap kvs, c = [.slice A n cap] ∧ RdKV W A n cap kvs ∧ ((∀ k ∈ x.1.weights Tryd.prog 62, k ≤ reachBytes) → n ≤ reachBytes ∧ ∀ kv ∈ kvs, kv.1.length ≤ reachBytes) := by
  rcases DataW.trod_slice Tryd.underlying62 h with ⟨hc, hx⟩ | ⟨a, len, cap, elems, rest, n, _, hc, hx, _, hlc, hcm, hel, hcell, _⟩
  · exact ⟨none, 0, 0, [], hc, ⟨rfl, Nat.le_refl _, by unfold maxLen; omega, fun h => absurd h (by omega)⟩, fun _ => ⟨Nat.zero_le _, by simp⟩⟩
  · have each : ∀ j, j < len → ∃ kv : List UInt8 × List UInt8, ∃ B m d B' m' d', W.cell? ((a.add (j * 2)).add 0) = some (.slice B m d) ∧ RdB W B m d kv.1 ∧ W.cell? ((a.add (j * 2)).add 1) = some (.slice B' m' d') ∧ RdB W B' m' d' kv.2 ∧
        ((∀ k ∈ x.1.weights Tryd.prog 62, k ≤ reachBytes) → m ≤ reachBytes) := by
      intro j hj
      have h1 := hcell j hj
      rw [List.getElem?_eq_getElem (by omega), Option.bind_eq_some_iff] at h1
      obtain ⟨cs, hcs, h2⟩ := h1
      rw [Tryd.cellsOf112] at hcs
      obtain ⟨_, hl2, hc2⟩ := World.cells?_some hcs
      obtain ⟨ys, n2, _, hx2, _, hyl, hf⟩ := DataW.trod_struct Tryd.underlying112 h2
      have f0 : DataW.trod enc Tryd.prog W base spare held n2 22 ((cs.drop 0).take (Tryd.prog.cellsOf 22)) = ys[0]? := hf 0 _ rfl
      have f1 : DataW.trod enc Tryd.prog W base spare held n2 22 ((cs.drop 1).take (Tryd.prog.cellsOf 22)) = ys[1]? := hf 1 _ rfl
      rw [Tryd.cellsOf22] at f0 f1
      rw [List.drop_zero] at f0
      have hyl2 : ys.length = 2 := hyl
      rw [List.getElem?_eq_getElem (by omega)] at f0 f1
      obtain ⟨B, m, d, xs, e0, r0, w0⟩ := open_bytesF f0
      obtain ⟨B', m', d', xs', e1, r1, _⟩ := open_bytesF f1
      have hc0 := hc2 0 (by omega)
      have hc1 := hc2 1 (by omega)
      match cs, hl2, e0, e1, hc0, hc1 with
      | [u, v], _, e0, e1, hc0, hc1 =>
        simp only [List.take_succ_cons, List.take_zero, List.drop_succ_cons, List.drop_zero, List.cons.injEq, and_true] at e0 e1
        subst e0 e1
        refine ⟨(xs, xs'), B, m, d, B', m', d', hc0, r0, hc1, r1, fun hw => w0 (fun k hk => hw k ?_)⟩
        rw [hx]
        simp only [DataW.weights, Tryd.underlying62, List.mem_cons, List.mem_append]
        refine .inr (.inl (weightsAll_mem (List.mem_map.2 ⟨elems[j], List.getElem_mem _, rfl⟩) k ?_))
        rw [hx2]
        simp only [DataW.weights, Tryd.underlying112]
        exact DataW.weights_mem_each (j := 0) (t := 22) (d := ys[0].1) rfl (by rw [List.getElem?_map, List.getElem?_eq_getElem (by omega)]; rfl) k hk
    obtain ⟨kvs, hkl, hkv⟩ := exists_list _ len each
    refine ⟨some a, len, cap, kvs, hc, ⟨hkl, hlc, hcm, fun hp => ?_⟩, fun hw => ⟨?_, fun kv hm => ?_⟩⟩
    · have hsp : a.spot = none := by
        obtain ⟨kv, B, m, d, B', m', d', h1, _⟩ := each 0 hp
        rw [Nat.zero_mul] at h1
        exact spot_of_cell h1
      obtain ⟨g, o, sp⟩ := a
      obtain rfl : sp = none := hsp
      refine ⟨g, o, rfl, fun j kv hj => ?_⟩
      obtain ⟨B, m, d, B', m', d', h1, h2, h3, h4, _⟩ := hkv j kv hj
      have ea : ((⟨g, o, none⟩ : Addr).add (j * 2)).add 0 = ⟨g, o + j * 2, none⟩ := by unfold Addr.add; split <;> split <;> simp_all
      have eb : ((⟨g, o, none⟩ : Addr).add (j * 2)).add 1 = ⟨g, o + j * 2 + 1, none⟩ := by unfold Addr.add; split <;> split <;> simp_all
      rw [ea] at h1
      rw [eb] at h3
      exact ⟨B, m, d, B', m', d', h1, h2, h3, h4⟩
    · have := hw ((elems.length + rest.length) * 48) (by rw [hx]; simp [DataW.weights, Tryd.underlying62, Tryd.bytesOf112])
      omega
    · obtain ⟨j, hj⟩ := List.getElem?_of_mem hm
      obtain ⟨B, m, d, B', m', d', _, h2, _, _, h5⟩ := hkv j kv hj
      rw [h2.1]
      exact h5 hw
theorem split9 {α : Type} (l : List α) (h : l.length = 121) : l = l.take 1 ++ ((l.drop 1).take 20 ++ ((l.drop 21).take 32 ++ ((l.drop 53).take 32 ++ ((l.drop 85).take 32 ++ ((l.drop 117).take 1 ++ ((l.drop 118).take 1 ++ ((l.drop 119).take 1 ++ (l.drop 120).take 1))))))) := by
  have step : ∀ a b, l.drop a = (l.drop a).take b ++ l.drop (a + b) := fun a b => by rw [← List.drop_drop]; exact (List.take_append_drop b (l.drop a)).symm
  have e9 : (l.drop 120).take 1 = l.drop 120 := List.take_of_length_le (by simp; omega)
  rw [e9, ← step 119 1, ← step 118 1, ← step 117 1, ← step 85 32, ← step 53 32, ← step 21 32, ← step 1 20]
  exact (List.take_append_drop 1 l).symm
set_option maxRecDepth 100000 in
/-- an act by value -/
theorem open_act {b0 : Nat} {r : Reach} {v : Value} {d : DataW H} {p : List MemPlace} (hv : Value.okWide Tryd.prog W r b0 64 v) (h : DataW.Trod enc Tryd.prog W base spare held 64 v d p) (hw : ∀ k ∈ d.weights Tryd.prog 64, k ≤ reachBytes) :
    ∃ A bA bn bc lA ln lc, v = .agg (ak A (.slice bA bn bc) (.slice lA ln lc)) ∧ RdAct W A bA bn bc lA ln lc ∧ A.Held := by
  simp only [Value.okWide, Tryd.underlying64] at hv
  obtain ⟨cs, rfl, hs, _⟩ := hv
  obtain ⟨fuel, hf⟩ := h
  obtain ⟨xs, m, _, hx, hl, hxl, hfs⟩ := DataW.trod_struct Tryd.underlying64 hf
  have hl : cs.toList.length = 121 := hl.trans Tryd.cellsOf64
  have hxl9 : xs.length = 9 := hxl
  have g := fun i (hi : i < 9) => List.getElem?_eq_getElem (l := xs) (i := i) (by omega)
  have f0 : DataW.trod enc Tryd.prog W base spare held m 3 ((cs.toList.drop 0).take (Tryd.prog.cellsOf 3)) = some xs[0] := (hfs 0 _ rfl).trans (g 0 (by omega))
  have f1 : DataW.trod enc Tryd.prog W base spare held m 60 ((cs.toList.drop 1).take (Tryd.prog.cellsOf 60)) = some xs[1] := (hfs 1 _ rfl).trans (g 1 (by omega))
  have f2 : DataW.trod enc Tryd.prog W base spare held m 61 ((cs.toList.drop 21).take (Tryd.prog.cellsOf 61)) = some xs[2] := (hfs 2 _ rfl).trans (g 2 (by omega))
  have f3 : DataW.trod enc Tryd.prog W base spare held m 61 ((cs.toList.drop 53).take (Tryd.prog.cellsOf 61)) = some xs[3] := (hfs 3 _ rfl).trans (g 3 (by omega))
  have f4 : DataW.trod enc Tryd.prog W base spare held m 25 ((cs.toList.drop 85).take (Tryd.prog.cellsOf 25)) = some xs[4] := (hfs 4 _ rfl).trans (g 4 (by omega))
  have f5 : DataW.trod enc Tryd.prog W base spare held m 3 ((cs.toList.drop 117).take (Tryd.prog.cellsOf 3)) = some xs[5] := (hfs 5 _ rfl).trans (g 5 (by omega))
  have f6 : DataW.trod enc Tryd.prog W base spare held m 3 ((cs.toList.drop 118).take (Tryd.prog.cellsOf 3)) = some xs[6] := (hfs 6 _ rfl).trans (g 6 (by omega))
  have f7 : DataW.trod enc Tryd.prog W base spare held m 22 ((cs.toList.drop 119).take (Tryd.prog.cellsOf 22)) = some xs[7] := (hfs 7 _ rfl).trans (g 7 (by omega))
  have f8 : DataW.trod enc Tryd.prog W base spare held m 62 ((cs.toList.drop 120).take (Tryd.prog.cellsOf 62)) = some xs[8] := (hfs 8 _ rfl).trans (g 8 (by omega))
  rw [Tryd.cellsOf3] at f0 f5 f6
  rw [Tryd.cellsOf60] at f1
  rw [Tryd.cellsOf61] at f2 f3
  rw [Tryd.cellsOf25] at f4
  rw [Tryd.cellsOf22] at f7
  rw [Tryd.cellsOf62] at f8
  rw [List.drop_zero] at f0
  obtain ⟨kind, e0, _, wk⟩ := DataW.trod_int Tryd.underlying3 f0
  obtain ⟨ad, e1, la⟩ := open_arrF Tryd.underlying60 Tryd.cellsOf60 f1
  obtain ⟨key, e2, lk⟩ := open_arrF Tryd.underlying61 Tryd.cellsOf61 f2
  obtain ⟨wd, e3, lw⟩ := open_arrF Tryd.underlying61 Tryd.cellsOf61 f3
  obtain ⟨rt, e4, lr⟩ := open_arrF Tryd.underlying25 Tryd.cellsOf25 f4
  obtain ⟨nn, e5, _, wn⟩ := DataW.trod_int Tryd.underlying3 f5
  obtain ⟨mm, e6, _, wm⟩ := DataW.trod_int Tryd.underlying3 f6
  obtain ⟨bA, bn, bc, bs, e7, rb, hb⟩ := open_bytesF f7
  obtain ⟨lA, ln, lc, kvs, e8, rl, hl8⟩ := open_kvs f8
  have hwx : ∀ (i : Nat) (t : TypeId) (y : DataW H × List MemPlace), [3, 60, 61, 61, 25, 3, 3, 22, 62][i]? = some t → xs[i]? = some y → ∀ k ∈ y.1.weights Tryd.prog t, k ≤ reachBytes := by
    intro i t y hi hy k hk
    refine hw k ?_
    have hd : d = .agg (xs.map (·.1)) := congrArg Prod.fst hx
    rw [hd]
    simp only [DataW.weights, Tryd.underlying64]
    exact DataW.weights_mem_each (j := i) (t := t) (d := y.1) hi (by rw [List.getElem?_map, hy]; rfl) k hk
  have hb' := hb (hwx 7 22 _ rfl (g 7 (by omega)))
  have hl' := hl8 (hwx 8 62 _ rfl (g 8 (by omega)))
  have w64 : ∀ z : Int, (Lit.int .i64 z).wf = true → -9223372036854775808 ≤ z ∧ z ≤ 9223372036854775807 := fun z hz => by
    have : -9223372036854775808 ≤ z ∧ z ≤ 9223372036854775807 := by simpa [Lit.wf, IntKind.min, IntKind.max, IntKind.signed, IntKind.bits] using hz
    exact this
  have hrb : reachBytes ≤ 140737488355328 := by have := reachBytes_lt; omega
  refine ⟨⟨kind, ad, key, wd, rt, nn, mm, bs, kvs⟩, bA, bn, bc, lA, ln, lc, ?_, ⟨⟨la, lk, lw, lr, (w64 _ wn).1, (w64 _ wn).2, (w64 _ wm).1, (w64 _ wm).2, (w64 _ wk).1, (w64 _ wk).2⟩, rb, rl⟩, ⟨?_, ?_, fun kv hm => ?_⟩⟩
  · congr 1
    apply Array.toList_inj.1
    rw [split9 cs.toList hl, e0, e1, e2, e3, e4, e5, e6, e7, e8]
    rfl
  · show bs.length ≤ _
    rw [rb.1]; omega
  · show kvs.length ≤ _
    rw [rl.1]; omega
  · have := hl'.2 kv hm
    omega
end

set_option maxRecDepth 100000 in
/-- what the lists of the archive's rows give -/
theorem laidW_of {laid : List (String × DataW Unit)} {W : World} (hL : laidMet Tryd.prog laid W) (hS : W.ShapedOpen Tryd.prog)
    (h1 : ("internal/strconv.uint64pow10", Rows.laid_internal_strconv_uint64pow10) ∈ laid) (h2 : ("strconv.ErrSyntax", Rows.laid_strconv_ErrSyntax) ∈ laid) (h3 : ("strconv.ErrRange", Rows.laid_strconv_ErrRange) ∈ laid) : LaidW W := by
  have iface_of : ∀ (name : String) (g : Nat) (d : DataW Unit) (tn : String), Lib.VarReads Tryd.prog W name (.iface tn d) → Tryd.prog.globalNamed name = some g → (Tryd.prog.globals[g]?).map (·.type) = some 86 → ∃ ev, W.cell? ⟨g, 0, none⟩ = some ev ∧ (ev = .nilIface ∨ ∃ te pe, ev = .iface te pe) := by
    intro name g d tn ⟨g', t', cs, fuel, p, hg', ht', hvar, hd⟩ hg ht
    obtain rfl := Option.some.inj (hg.symm.trans hg')
    obtain rfl := Option.some.inj (ht.symm.trans ht')
    have hc := World.var?_cell hg hvar 0
    cases fuel with
    | zero => simp [DataW.trod] at hd
    | succ n =>
      unfold DataW.trod at hd
      rw [Tryd.underlying86] at hd
      obtain ⟨l⟩ := cs
      match l, hd, hc with
      | [], hd, _ => simp at hd
      | [v], hd, hc =>
        refine ⟨v, by simpa using hc, ?_⟩
        cases v <;> simp at hd ⊢
      | a :: b :: r, hd, _ => simp at hd
  have hm : ∃ m, W.cell? ⟨1, 0, none⟩ = some (.int .i64 m) := cell_of_shapedOpen_int (P := Tryd.prog) (g := 1) (t := 3) (zero := #[.int .i64 0]) hS (of_decide_eq_true (by kernel_rfl)) (by kernel_rfl) rfl (by kernel_rfl) (by kernel_rfl) Tryd.underlying3
  refine ⟨?_, hm, iface_of _ 2 _ _ (Lib.laidMet.reads hL h2) (by kernel_rfl) (by kernel_rfl), iface_of _ 3 _ _ (Lib.laidMet.reads hL h3) (by kernel_rfl) (by kernel_rfl)⟩
  obtain ⟨g', t', cs, fuel, p, hg', ht', hvar, hd⟩ := Lib.laidMet.reads hL h1
  have hg : Tryd.prog.globalNamed "internal/strconv.uint64pow10" = some 0 := by kernel_rfl
  obtain rfl := Option.some.inj (hg.symm.trans hg')
  have ht : (Tryd.prog.globals[0]?).map (·.type) = some 187 := by kernel_rfl
  obtain rfl := Option.some.inj (ht.symm.trans ht')
  unfold Lib.TabIs
  rw [hvar]
  have he : (Rows.laid_internal_strconv_uint64pow10 : DataW Unit) = Lib.tabData .u64 Lib.pow10Tab := by kernel_rfl
  rw [he] at hd
  have := Lib.cells_of_tab Tryd.underlying187 Tryd.underlying26 (by kernel_rfl) (by kernel_rfl) hd
  rw [← this]
end Go.Proofs.YtfjfjjcdlgdbcaaDoor
namespace Go.Proofs.YtfjfjjcdlgdbcaaDoor
open Go.RowKit
set_option linter.unusedSimpArgs false
set_option linter.unusedVariables false

theorem add_add (a : Addr) (i j : Nat) : (a.add i).add j = a.add (i + j) := by
  unfold Addr.add
  by_cases hi : i = 0 <;> by_cases hj : j = 0 <;> simp [hi, hj, Nat.add_assoc]
theorem run_loadBytes {P : Program} (w : World) : ∀ (xs : List UInt8) (a : Addr) (acc : List UInt8), (∀ j u, xs[j]? = some u → w.cell? (a.add j) = some (bv u)) →
    (Extern.Bytes.loadBytes a xs.length (str acc)).run P w = .ok (str (acc ++ xs)) w
  | [], a, acc, _ => by rw [List.append_nil]; rfl
  | x :: xs, a, acc, h => by
    have h0 : w.cell? a = some (bv x) := by
      have := h 0 x rfl
      rwa [show a.add 0 = a by unfold Addr.add; simp] at this
    have ih := run_loadBytes (P := P) w xs (a.add 1) (acc ++ [x]) (fun j u hu => by
      rw [add_add, Nat.add_comm]
      exact h (j + 1) u (by simpa using hu))
    rw [List.length_cons, Extern.Bytes.loadBytes]
    simp only [Sem.run_bind, run_load, h0, Result.andThen_ok, bv]
    have e : (str acc).push (((x.toNat : Int)).toNat.toUInt8) = str (acc ++ [x]) := by
      unfold str ByteArray.push
      simp
    rw [e, ih]
    simp
theorem run_bytesOf {P : Program} (w : World) {A : Option Addr} {n c : Nat} {xs : List UInt8} (h : RdB w A n c xs) : (Extern.Bytes.bytesOf (.slice A n c)).run P w = .ok (str xs) w := by
  cases A with
  | none =>
    have hn : n = 0 := by
      rcases Nat.eq_zero_or_pos n with h0 | h0
      · exact h0
      · obtain ⟨ad, e, _⟩ := h.2.2.2 h0; cases e
    obtain rfl : xs = [] := List.eq_nil_of_length_eq_zero (by rw [h.1, hn])
    rfl
  | some a =>
    rcases Nat.eq_zero_or_pos n with h0 | h0
    · obtain rfl : xs = [] := List.eq_nil_of_length_eq_zero (by rw [h.1, h0])
      rw [h0]
      rfl
    · obtain ⟨ad, e, hc⟩ := h.2.2.2 h0
      obtain rfl := Option.some.inj e
      rw [← h.1]
      have := run_loadBytes (P := P) w xs a [] hc
      rw [List.nil_append] at this
      exact this
theorem run_compareB {P : Program} (w : World) {A B : Option Addr} {n c m d : Nat} {xs ys : List UInt8} (h : RdB w A n c xs) (h' : RdB w B m d ys) :
    (Extern.BytealgCompare.compare #[.slice A n c, .slice B m d]).run P w = .ok (.int .i64 (Lib.compareBytes xs ys)) w := by
  change Sem.run P (do pure (goInt (Extern.BytealgCompare.cmp (← Extern.Bytes.bytesOf (.slice A n c)) (← Extern.Bytes.bytesOf (.slice B m d))))) w = _
  simp only [Sem.run_bind, Sem.run_pure, run_bytesOf w h, run_bytesOf w h', Result.andThen_ok]
  rw [Lib.cmp_eq]
  rfl

set_option maxRecDepth 100000 in
set_option maxHeartbeats 1000000 in
theorem Compare_calls (A B : Option Addr) (n c m d : Nat) (xs ys : List UInt8) (w : World) (h : RdB w A n c xs) (h' : RdB w B m d ys) :
    Calls Tryd.prog 99 #[.slice A n c, .slice B m d] w fun e w' => e = .returned (.int .i64 (Lib.compareBytes xs ys)) ∧ w = w' := by
  have hc := Lib.hid (run_compareB (P := Tryd.prog) w h h')
  clear h h'
  go_enter Tryd.func99, Tryd.ntmps99
  go_wp2
  rw [run_callFunc_extern Tryd.func131 (by kernel_rfl) (by kernel_rfl) (by kernel_rfl) (e := Extern.BytealgCompare.compare) (by kernel_rfl), hc.out]
  simp only [Result.andThen]
  rw [Oper.upon_value]
  go_wp2
  go_ret
  exact ⟨rfl, rfl⟩

theorem Tryd.size83 : (Tryd.prog.info? 83).map (·.size) = some 2 := by kernel_rfl

set_option maxHeartbeats 1000000 in
set_option maxRecDepth 100000 in
theorem copyCheck_used (b : Nat) (w : World) (h0 : w.cell? ⟨b, 0, none⟩ = some (.pointer (some ⟨b, 0, none⟩))) :
    Calls Tryd.prog 80 #[.pointer (some ⟨b, 0, none⟩)] w fun e w' => e = .returned (.tuple #[]) ∧ w' = w := by
  obtain ⟨j, hj, _⟩ := Option.map_eq_some_iff.1 Tryd.size83
  go_enter Tryd.func80, Tryd.ntmps80
  go_wp2
  rw [Lib.run_neq_ptr_same w _ Tryd.underlying81 hj]
  go_wp2
  go_end0
  exact ⟨rfl, rfl⟩

set_option maxHeartbeats 1000000 in
set_option maxRecDepth 100000 in
theorem copyCheck_fresh (b : Nat) (w : World) (h0 : w.cell? ⟨b, 0, none⟩ = some (.pointer none)) (hsh : w.shape? b = some (83, 2)) (hfz : w.frozen? ⟨b, 0, none⟩ = false) :
    Calls Tryd.prog 80 #[.pointer (some ⟨b, 0, none⟩)] w fun e w' => e = .returned (.tuple #[]) ∧ w' = w.setCell ⟨b, 0, none⟩ (.pointer (some ⟨b, 0, none⟩)) := by
  obtain ⟨j, hj, hjs⟩ := Option.map_eq_some_iff.1 Tryd.size83
  go_enter Tryd.func80, Tryd.ntmps80
  go_wp2
  rw [Lib.run_to_unsafe w ⟨b, 0, none⟩ Tryd.underlying81 Tryd.underlying169 hj (by rw [hjs]; decide) hsh (Nat.zero_lt_succ 1)]
  simp only [Result.andThen]
  rw [Oper.upon_value]
  go_wp2
  rw [run_callFunc_extern Tryd.func118 (by kernel_rfl) (by kernel_rfl) (by kernel_rfl) (e := Extern.AbiNoEscape.same) (by kernel_rfl)]
  rw [Lib.run_noEscape]
  simp only [Result.andThen]
  rw [Oper.upon_value]
  go_wp2
  rw [Lib.run_from_unsafe w ⟨b, 0, none⟩ Tryd.underlying169 Tryd.underlying81 hj hsh (by kernel_rfl)]
  simp only [Result.andThen]
  rw [Oper.upon_value]
  go_wp2
  go_end0
  exact ⟨rfl, rfl⟩
theorem copyCheck_calls (B b : Nat) (bs : List Value) (w : World) (h : Lib.IsBuilder 83 5 B b bs w) :
    Calls Tryd.prog 80 #[.pointer (some ⟨b, 0, none⟩)] w fun e w' => e = .returned (.tuple #[]) ∧ (Lib.BuilderAt 83 5 B b (.pointer (some ⟨b, 0, none⟩)) bs w' ∧ Below B w w') := by
  rcases h with h | h
  · refine (copyCheck_fresh b w h.cell0 h.shape h.frozen0).mono ?_
    rintro e w' ⟨rfl, rfl⟩
    exact ⟨rfl, h.used _, (Below.refl B w).setCell (p := ⟨b, 0, none⟩) h.1 _⟩
  · refine (copyCheck_used b w h.cell0).mono ?_
    rintro e w' ⟨rfl, rfl⟩
    exact ⟨rfl, h, Below.refl B _⟩

set_option maxHeartbeats 2000000 in
set_option maxRecDepth 100000 in
theorem WriteString_calls (B b : Nat) (bs : List Value) (s : ByteArray) (w : World) (h : Lib.IsBuilder 83 5 B b bs w) (hlen : bs.length + s.size ≤ 140737488355328) (hBw : B ≤ w.heap.size) :
    Calls Tryd.prog 46 #[.pointer (some ⟨b, 0, none⟩), .string s] w fun e w' => e = .returned (.tuple #[.int .i64 s.size, .nilIface]) ∧ (Lib.BuilderAt 83 5 B b (.pointer (some ⟨b, 0, none⟩)) (bs ++ Lib.strCells s) w' ∧ Below B w w') := by
  obtain ⟨i0, hi, hz0, hz1, hz2⟩ := info_parts Tryd.info5
  go_enter Tryd.func46, Tryd.ntmps46
  go_wp2_with (go_at_call 80; refine (copyCheck_calls B b bs _ h).mono ?_)
  rintro e w1 ⟨rfl, h1, hb1⟩
  obtain ⟨hB, v, hbk, hown, hne⟩ := h1
  have c0 : w1.cell? ⟨b, 0, none⟩ = some (.pointer (some ⟨b, 0, none⟩)) := by rw [Lib.cell_of_heap hbk]; rfl
  have c1 : w1.cell? ⟨b, 1, none⟩ = some v := by rw [Lib.cell_of_heap hbk]; rfl
  go_wp2_with (at_builtin; refine Lib.wpList_append_own_string _ rfl _ _ 22 9 rfl B 5 i0 Tryd.underlying22 Tryd.underlying9 hi hz0 hz1 hz2 _ _ _ rfl hown s rfl ?c3 ?c4 ?c5 ?_)
  case c3 => unfold maxLen; omega
  case c4 => omega
  case c5 => have := hb1.size; omega
  intro v' w2 hown' hgrow _
  have hlt : b < w1.heap.size := by
    rcases Nat.lt_or_ge b w1.heap.size with h' | h'
    · exact h'
    · simp [Array.getElem?_eq_none h'] at hbk
  have hb2 : w2.heap[b]? = some (.cells #[.pointer (some ⟨b, 0, none⟩), v] 83 (0, 0)) := by
    rw [hgrow.block b hlt (fun e => hne e.symm)]
    exact hbk
  have d0 : w2.cell? ⟨b, 0, none⟩ = some (.pointer (some ⟨b, 0, none⟩)) := by rw [Lib.cell_of_heap hb2]; rfl
  have d1 : w2.cell? ⟨b, 1, none⟩ = some v := by rw [Lib.cell_of_heap hb2]; rfl
  have f1 : w2.frozen? ⟨b, 1, none⟩ = false := Lib.frozen_of_heap hb2 1
  obtain ⟨ao, n', cap, rfl⟩ : ∃ ao n' cap, v' = .slice ao n' cap := by
    rcases hown'.2 with ⟨hv, _⟩ | ⟨g, cap, cur, hv, _⟩
    · exact ⟨_, _, _, hv⟩
    · exact ⟨_, _, _, hv⟩
  go_wp2
  go_ret2
  refine ⟨rfl, ?_, ?_⟩
  · exact Lib.BuilderAt.put (T := 83) (e := 5) hB hb2 (bs' := bs ++ Lib.strCells s) (by simpa [Lib.strCells_length] using hown') (by decide)
  · exact (hb1.grown hgrow (by have := hb1.size; omega) (fun k hk => (hown.lt k hk).1)).setCell (p := ⟨b, 1, none⟩) hB _
end Go.Proofs.YtfjfjjcdlgdbcaaDoor
namespace Go.Proofs.YtfjfjjcdlgdbcaaDoor
open Go.RowKit
set_option linter.unusedSimpArgs false
set_option linter.unusedVariables false

/-- an account of a dump in plain words -/
structure EntP where
  addr : List UInt8
  nonce : Nat
  bal : List UInt8
  code : List UInt8
  slots : List (List UInt8 × List UInt8)
structure EntP.Fit (e : EntP) : Prop where
  ha : e.addr.length = 20
  hn : e.nonce < 18446744073709551616
  hb : e.bal.length = 32
  hs : ∀ h ∈ e.slots, h.1.length = 32 ∧ h.2.length = 32
/-- its cells -/
def ek (e : EntP) (c s : Value) : Array Value := (bvs e.addr ++ ([Value.int .u64 (e.nonce : Int)] ++ (bvs e.bal ++ [c, s]))).toArray
/-- a slot's cells -/
def hk (h : List UInt8 × List UInt8) : List Value := bvs h.1 ++ bvs h.2
theorem ek_size (e : EntP) (c s : Value) (h : e.Fit) : (ek e c s).size = 55 := by simp [ek, bvs_length, h.ha, h.hb]
theorem hk_length (h : List UInt8 × List UInt8) (h1 : h.1.length = 32 ∧ h.2.length = 32) : (hk h).length = 64 := by simp [hk, bvs_length, h1.1, h1.2]
theorem ek_addr (e : EntP) (c s : Value) (j : Nat) (u : UInt8) (hu : e.addr[j]? = some u) : (ek e c s)[0 + j]? = some (bv u) := by
  rw [ek, List.getElem?_toArray, Nat.zero_add]
  exact app_lt _ _ _ _ (bvs_get hu)
theorem ek_nonce (e : EntP) (c s : Value) (h : e.Fit) : (ek e c s)[20]? = some (.int .u64 (e.nonce : Int)) := by
  rw [ek, List.getElem?_toArray, show 20 = 20 + 0 by rfl, app_at 20 _ _ (by rw [bvs_length, h.ha])]
  rfl
theorem ek_bal (e : EntP) (c s : Value) (h : e.Fit) (j : Nat) (u : UInt8) (hu : e.bal[j]? = some u) : (ek e c s)[21 + j]? = some (bv u) := by
  rw [ek, List.getElem?_toArray, show 21 + j = 20 + (1 + j) by omega, app_at 20 _ _ (by rw [bvs_length, h.ha]), app_at 1 _ _ rfl]
  exact app_lt _ _ _ _ (bvs_get hu)
theorem ek_tail (e : EntP) (c s : Value) (h : e.Fit) (j : Nat) : (ek e c s)[53 + j]? = [c, s][j]? := by
  rw [ek, List.getElem?_toArray, show 53 + j = 20 + (1 + (32 + j)) by omega, app_at 20 _ _ (by rw [bvs_length, h.ha]), app_at 1 _ _ rfl, app_at 32 _ _ (by rw [bvs_length, h.hb])]
theorem ek_one (e : EntP) (A : Option Addr) (n c : Nat) (B : Option Addr) (m d : Nat) : AllOne (ek e (.slice A n c) (.slice B m d)).toList := by
  intro v hv
  simp only [ek, List.mem_cons, List.mem_append, List.not_mem_nil, or_false] at hv
  rcases hv with hv | rfl | hv | rfl | rfl
  · exact oneCell_bvs _ _ hv
  · rfl
  · exact oneCell_bvs _ _ hv
  all_goals rfl
theorem hk_one (h : List UInt8 × List UInt8) : AllOne (hk h) := by
  intro v hv
  rcases List.mem_append.1 hv with hv | hv
  · exact oneCell_bvs _ _ hv
  · exact oneCell_bvs _ _ hv
theorem CellsAt.below {w w1 : World} {g o : Nat} {vs : List Value} (h : CellsAt w g o vs) (hb : Below w.heap.size w w1) : CellsAt w1 g o vs := fun j u hu => cell_below' hb (h j u hu)
theorem CellsAt.drewN {w : World} {g o : Nat} {vs : List Value} (h : CellsAt w g o vs) (k : Nat) : CellsAt (w.drewN k) g o vs := h
theorem CellsAt.part {w : World} {g o : Nat} {vs : List Value} (h : CellsAt w g o vs) (off : Nat) (xs : List UInt8) (hx : ∀ j u, xs[j]? = some u → vs[off + j]? = some (bv u)) : CellsAt w g (o + off) (bvs xs) := by
  intro j v hv
  obtain ⟨u, hu, rfl⟩ : ∃ u, xs[j]? = some u ∧ v = bv u := by
    simp only [bvs, List.getElem?_map, Option.map_eq_some_iff] at hv
    obtain ⟨u, h1, h2⟩ := hv
    exact ⟨u, h1, h2.symm⟩
  rw [Nat.add_assoc]
  exact h _ _ (hx j u hu)
theorem CellsAt.rd {w : World} {g o n : Nat} {xs : List UInt8} (h : CellsAt w g o (bvs xs)) (hn : xs.length = n) (hm : n ≤ maxLen := by unfold maxLen; omega) : RdB w (some ⟨g, o, none⟩) n n xs := by
  refine ⟨hn, Nat.le_refl _, hm, fun _ => ⟨_, rfl, fun j u hu => ?_⟩⟩
  have e : (⟨g, o, none⟩ : Addr).add j = ⟨g, o + j, none⟩ := by unfold Addr.add; split <;> simp_all
  rw [e]
  exact h j (bv u) (bvs_get hu)

theorem bvs_of {xs : List UInt8} {j : Nat} {v : Value} (h : (bvs xs)[j]? = some v) : ∃ u, xs[j]? = some u ∧ v = bv u := by
  simp only [bvs, List.getElem?_map, Option.map_eq_some_iff] at h
  obtain ⟨u, h1, h2⟩ := h
  exact ⟨u, h1, h2.symm⟩
theorem Blk.bytes {w : World} {g : Nat} {t : TypeId} {cs : Array Value} (hB : Blk w g t cs) (off : Nat) (xs : List UInt8) (h : ∀ j u, xs[j]? = some u → cs[off + j]? = some (bv u)) : CellsAt w g off (bvs xs) :=
  hB.cells off _ (fun j v hv => by
    obtain ⟨u, hu, rfl⟩ := bvs_of hv
    exact h j u hu)
/-- the slice value (A, n, c) reads as slots -/
def RdS (w : World) (A : Option Addr) (n c : Nat) (hs : List (List UInt8 × List UInt8)) : Prop :=
  hs.length = n ∧ n ≤ c ∧ c ≤ maxLen ∧ (0 < n → ∃ g o, A = some ⟨g, o, none⟩ ∧ ∀ j h, hs[j]? = some h → CellsAt w g (o + j * 64) (hk h))
theorem RdS.below {w w1 : World} {A : Option Addr} {n c : Nat} {hs : List (List UInt8 × List UInt8)} (h : RdS w A n c hs) (hb : Below w.heap.size w w1) : RdS w1 A n c hs :=
  ⟨h.1, h.2.1, h.2.2.1, fun hn => by
    obtain ⟨g, o, e, hc⟩ := h.2.2.2 hn
    exact ⟨g, o, e, fun j x hj => (hc j x hj).below hb⟩⟩
theorem RdS.at_ {w : World} {A : Option Addr} {n c : Nat} {hs : List (List UInt8 × List UInt8)} (h : RdS w A n c hs) {k : Nat} (hk' : k < n) :
    ∃ g o, A = some ⟨g, o, none⟩ ∧ hs[k]? = some (hs.getD k ([], [])) ∧ CellsAt w g (o + k * 64) (hk (hs.getD k ([], []))) := by
  obtain ⟨g, o, e, hc⟩ := h.2.2.2 (by omega)
  have hl : k < hs.length := by have := h.1; omega
  have hg : hs[k]? = some (hs.getD k ([], [])) := by rw [List.getD_eq_getElem?_getD, List.getElem?_eq_getElem hl]; rfl
  exact ⟨g, o, e, hg, hc k _ hg⟩
/-- a row of cells reads as an account -/
structure RdEnt (w : World) (e : EntP) (B : Option Addr) (m d : Nat) (S : Option Addr) (k q : Nat) : Prop where
  fit : e.Fit
  code : RdB w B m d e.code
  slots : RdS w S k q e.slots
theorem RdEnt.below {w w1 : World} {e : EntP} {B : Option Addr} {m d : Nat} {S : Option Addr} {k q : Nat} (h : RdEnt w e B m d S k q) (hb : Below w.heap.size w w1) : RdEnt w1 e B m d S k q := ⟨h.fit, h.code.below hb, h.slots.below hb⟩
def zE : EntP := ⟨[], 0, [], [], []⟩
/-- the slice value (A, n, c) reads as accounts -/
def RdE (w : World) (A : Option Addr) (n c : Nat) (es : List EntP) : Prop :=
  es.length = n ∧ n ≤ c ∧ c ≤ maxLen ∧ (0 < n → ∃ g o, A = some ⟨g, o, none⟩ ∧ ∀ j e, es[j]? = some e → ∃ B m d S k q, CellsAt w g (o + j * 55) (ek e (.slice B m d) (.slice S k q)).toList ∧ RdEnt w e B m d S k q)
theorem RdE.below {w w1 : World} {A : Option Addr} {n c : Nat} {es : List EntP} (h : RdE w A n c es) (hb : Below w.heap.size w w1) : RdE w1 A n c es :=
  ⟨h.1, h.2.1, h.2.2.1, fun hn => by
    obtain ⟨g, o, e, hc⟩ := h.2.2.2 hn
    refine ⟨g, o, e, fun j x hj => ?_⟩
    obtain ⟨B, m, d, S, k, q, h1, h2⟩ := hc j x hj
    exact ⟨B, m, d, S, k, q, h1.below hb, h2.below hb⟩⟩
theorem RdE.at_ {w : World} {A : Option Addr} {n c : Nat} {es : List EntP} (h : RdE w A n c es) {k : Nat} (hk' : k < n) :
    ∃ g o B m d S l q, A = some ⟨g, o, none⟩ ∧ es[k]? = some (es.getD k zE) ∧ CellsAt w g (o + k * 55) (ek (es.getD k zE) (.slice B m d) (.slice S l q)).toList ∧ RdEnt w (es.getD k zE) B m d S l q := by
  obtain ⟨g, o, e, hc⟩ := h.2.2.2 (by omega)
  have hl : k < es.length := by have := h.1; omega
  have hg : es[k]? = some (es.getD k zE) := by rw [List.getD_eq_getElem?_getD, List.getElem?_eq_getElem hl]; rfl
  obtain ⟨B, m, d, S, l, q, h1, h2⟩ := hc k _ hg
  exact ⟨g, o, B, m, d, S, l, q, e, hg, h1, h2⟩
theorem Tryd.agg79 : AggT Tryd.prog 79 55 := by
  refine ⟨?_, by kernel_rfl⟩
  rw [Tryd.underlying79]; exact rfl
theorem Tryd.agg95 : AggT Tryd.prog 95 64 := by
  refine ⟨?_, by kernel_rfl⟩
  rw [Tryd.underlying95]; exact rfl
theorem ek_aggL (e : EntP) (c s : Value) (h : e.Fit) : AggT Tryd.prog 79 (ek e c s).toList.length := by rw [Array.length_toList, ek_size _ _ _ h]; exact Tryd.agg79
theorem ek_aggS (e : EntP) (c s : Value) (h : e.Fit) : AggT Tryd.prog 79 (ek e c s).size := by rw [ek_size _ _ _ h]; exact Tryd.agg79
theorem Compare_q (A B : Option Addr) (n c m d : Nat) (xs ys : List UInt8) (w : World) (h : RdB w A n c xs) (h' : RdB w B m d ys) :
    Calls Tryd.prog 99 #[.slice A n c, .slice B m d] w fun e w' => e = .returned (.int .i64 (Lib.compareBytes xs ys)) ∧ w' = w :=
  (Compare_calls A B n c m d xs ys w h h').mono fun e w' ⟨h1, h2⟩ => ⟨h1, h2.symm⟩

def z32w : List UInt8 := List.replicate 32 0
/-- may a list go on by its entry i? -/
def risesB (es : List EntP) (i : Nat) : Bool :=
  !(decide (0 < i) && decide (0 ≤ Lib.compareBytes (es.getD (i - 1) zE).addr (es.getD i zE).addr)) && !decide (4096 < (es.getD i zE).code.length) && !decide ((es.getD i zE).nonce = 18446744073709551615) &&
    (decide (0 < (es.getD i zE).nonce) || !decide ((es.getD i zE).bal = z32w) || decide (0 < (es.getD i zE).code.length))
/-- may slots go on by the one at i? -/
def holdsB (hs : List (List UInt8 × List UInt8)) (i : Nat) : Bool :=
  !decide ((hs.getD i ([], [])).2 = z32w) && (decide (i = 0) || decide (Lib.compareBytes (hs.getD (i - 1) ([], [])).1 (hs.getD i ([], [])).1 < 0))
end Go.Proofs.YtfjfjjcdlgdbcaaDoor
