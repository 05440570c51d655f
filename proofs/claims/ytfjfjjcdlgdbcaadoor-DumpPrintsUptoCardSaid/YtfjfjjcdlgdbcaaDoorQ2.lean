/- the texts E2, E3, E4, E5, E6 of this proof, one behind the other -/
import Derived.Test.YtfjfjjcdlgdbcaaDoorQ1
namespace Go.Proofs.YtfjfjjcdlgdbcaaDoor
open Go.RowKit

theorem dec_step (u0 u : Nat) (out : List UInt8) (h : Lib.decDigits u0 = Lib.decDigits u ++ out) :
    (u / 10 = 0 → Lib.decDigits u0 = UInt8.ofNat (48 + u % 10) :: out) ∧ (¬ u / 10 = 0 → Lib.decDigits u0 = Lib.decDigits (u / 10) ++ (UInt8.ofNat (48 + u % 10) :: out)) := by
  have e : Lib.decDigits u = if h : u < 10 then [UInt8.ofNat (48 + u)] else Lib.decDigits (u / 10) ++ [UInt8.ofNat (48 + u % 10)] := by rw [Lib.decDigits]
  rw [e] at h
  constructor
  · intro h0
    have : u < 10 := by omega
    rw [dif_pos this] at h
    rw [h, show u % 10 = u by omega]
    rfl
  · intro h0
    rw [dif_neg (by omega)] at h
    rw [h]
    simp
theorem dec_len (u : Nat) (h : u < 18446744073709551616) : (Lib.decDigits u).length ≤ 20 := by
  have key : ∀ (k u : Nat), u < 10 ^ (k + 1) → (Lib.decDigits u).length ≤ k + 1 := by
    intro k
    induction k with
    | zero =>
      intro u hu
      rw [Lib.decDigits, dif_pos (by simpa using hu)]
      simp
    | succ k ih =>
      intro u hu
      rw [Lib.decDigits]
      split
      · simp
      · have := ih (u / 10) (by rw [Nat.pow_succ] at hu; omega)
        simp only [List.length_append, List.length_cons, List.length_nil]
        omega
  exact key 19 u (by have : (10 : Nat) ^ 20 = 100000000000000000000 := by decide
                     omega)

theorem itoa_of (n : Int) (u0 : Nat) (h : u0 = n.natAbs) : Lib.itoa n = if n < 0 then 45 :: Lib.decDigits u0 else Lib.decDigits u0 := by
  subst h
  unfold Lib.itoa
  split
  · rfl
  · congr 1
    omega
theorem dig_byte (m : Nat) : ((UInt8.ofNat (48 + m % 10)).toNat : Int) = 48 + (m : Int) % 10 := by
  simp
  omega

set_option maxRecDepth 100000 in
set_option maxHeartbeats 2000000 in
theorem number_calls (n : Int) (w : World) (h0 : -9223372036854775808 ≤ n) (h1 : n ≤ 9223372036854775807) :
    Calls Tryd.prog 69 #[.int .i64 n] w fun e w' => e = .returned (.string (str (Lib.itoa n))) ∧ Below w.heap.size w w' := by
  by_cases hn : n < 0
  · have hit := Lib.hid (itoa_of n _ rfl)
    rw [if_pos hn] at hit
    have hwn : IntKind.u64.wrap n = n + 18446744073709551616 := by rw [IntKind.wrap_u64]; omega
    have hwm : IntKind.u64.wrap (-(n + 18446744073709551616)) = -n := by rw [IntKind.wrap_u64]; omega
    go_enter Tryd.func69, Tryd.ntmps69
    go_wp2
    go_loopw [3, 4] (fun u v wr => ∃ (m : Nat) (out : List UInt8), u = .int .u64 m ∧ m < 18446744073709551616 ∧ OwnB wr w.heap.size v out ∧ Lib.decDigits n.natAbs = Lib.decDigits m ++ out ∧ Below w.heap.size w wr) (fun u _ _ => (intOf u).toNat)
    case atStart => exact ⟨n.natAbs, [], by congr 1; omega, by omega, OwnB.nil _ _, by simp, Below.refl _ _⟩
    case round =>
      obtain ⟨m, out, rfl, hm, ho, he, hb⟩ := hrel
      have hbs := hb.size
      have hst := dec_step _ _ _ he
      have hln : out.length ≤ 20 := by
        have := dec_len n.natAbs (by omega)
        rw [he] at this
        simp only [List.length_append] at this
        omega
      have HD := Lib.hid (dig_byte m)
      have HE := Lib.hid he
      have HS := Lib.hid hst
      clear he hst
      generalize UInt8.ofNat (48 + m % 10) = dd at HD HS
      have hwr : IntKind.u64.wrap (48 + (m : Int) % 10) = 48 + (m : Int) % 10 := IntWalk.u64_in _ (by omega)
      have hw8 : IntKind.u8.wrap (48 + (m : Int) % 10) = 48 + (m : Int) % 10 := IntWalk.u8_in _ (by omega)
      have hrm : (m : Int).tmod 10 = (m : Int) % 10 := Int.tmod_eq_emod_of_nonneg (by omega)
      obtain ⟨A1, c1, rfl, hr1⟩ := ho.reads
      by_cases hz : m / 10 = 0
      · have hzi : (m : Int) / 10 = 0 := by omega
        have hd := Lib.hid (HS.out.1 hz)
        go_wp2_with (first | at_builtin; refine wpList_appendB _ rfl (.tmp 15) (.tmp 16) rfl w.heap.size _ [dd] out rfl _ _ _ rfl (OwnB.one _ _ _ (by rw [HD.out]) _ hbs) (hr1.alloc _) (by simp; omega) (by simp; omega) ?_; intro v2 w2 ho2 hg2 hb2; obtain ⟨A2, c2, rfl, hr2⟩ := ho2.reads | (at_builtin; refine wpList_appendB _ rfl (.tmp 24) (.tmp 25) rfl w.heap.size _ [45] (dd :: out) rfl _ _ _ rfl (OwnB.one _ _ _ (by decide) _ (by have := hb2.size; simp at this ⊢; omega)) (hr2.alloc _) (by simp; omega) (by have := hb2.size; simp at this ⊢; omega) ?_; intro v3 w3 ho3 hg3 hb3; obtain ⟨A3, c3, rfl, hr3⟩ := ho3.reads; have hcv := run_convertB (P := Tryd.prog) w3 22 5 9 Tryd.underlying22 Tryd.underlying5 Tryd.underlying9 hr3; simp only [List.cons_append, List.nil_append, List.length_cons] at hcv))
        go_ret
        exact ⟨by rw [hit.out, hd.out]; rfl, (al ((al hb _).trans hb2) _).trans hb3⟩
      · have hzi : ¬ (m : Int) / 10 = 0 := by omega
        have hzi2 : ((m : Int) / 10 == 0) = false := by simp; omega
        have hd := Lib.hid (HS.out.2 hz)
        have hqi : (m : Int).tdiv 10 = (m : Int) / 10 := Int.tdiv_eq_ediv_of_nonneg (by omega)
        go_wp2_with (at_builtin; refine wpList_appendB _ rfl (.tmp 15) (.tmp 16) rfl w.heap.size _ [dd] out rfl _ _ _ rfl (OwnB.one _ _ _ (by rw [HD.out]) _ hbs) (hr1.alloc _) (by simp; omega) (by simp; omega) ?_; intro v2 w2 ho2 hg2 hb2)
        go_roundw
        case rel => exact ⟨m / 10, _, by simp, by omega, by assumption, hd.out, (al hb _).trans hb2⟩
        case measure => simp [intOf]; omega
  · have hit := Lib.hid (itoa_of n _ rfl)
    rw [if_neg hn] at hit
    have hwn : IntKind.u64.wrap n = n := IntWalk.u64_in _ (by omega)
    go_enter Tryd.func69, Tryd.ntmps69
    go_wp2
    go_loopw [3, 4] (fun u v wr => ∃ (m : Nat) (out : List UInt8), u = .int .u64 m ∧ m < 18446744073709551616 ∧ OwnB wr w.heap.size v out ∧ Lib.decDigits n.natAbs = Lib.decDigits m ++ out ∧ Below w.heap.size w wr) (fun u _ _ => (intOf u).toNat)
    case atStart => exact ⟨n.natAbs, [], by congr 1; omega, by omega, OwnB.nil _ _, by simp, Below.refl _ _⟩
    case round =>
      obtain ⟨m, out, rfl, hm, ho, he, hb⟩ := hrel
      have hbs := hb.size
      have hst := dec_step _ _ _ he
      have hln : out.length ≤ 20 := by
        have := dec_len n.natAbs (by omega)
        rw [he] at this
        simp only [List.length_append] at this
        omega
      have HD := Lib.hid (dig_byte m)
      have HE := Lib.hid he
      have HS := Lib.hid hst
      clear he hst
      generalize UInt8.ofNat (48 + m % 10) = dd at HD HS
      have hwr : IntKind.u64.wrap (48 + (m : Int) % 10) = 48 + (m : Int) % 10 := IntWalk.u64_in _ (by omega)
      have hw8 : IntKind.u8.wrap (48 + (m : Int) % 10) = 48 + (m : Int) % 10 := IntWalk.u8_in _ (by omega)
      have hrm : (m : Int).tmod 10 = (m : Int) % 10 := Int.tmod_eq_emod_of_nonneg (by omega)
      obtain ⟨A1, c1, rfl, hr1⟩ := ho.reads
      by_cases hz : m / 10 = 0
      · have hzi : (m : Int) / 10 = 0 := by omega
        have hd := Lib.hid (HS.out.1 hz)
        go_wp2_with (at_builtin; refine wpList_appendB _ rfl (.tmp 15) (.tmp 16) rfl w.heap.size _ [dd] out rfl _ _ _ rfl (OwnB.one _ _ _ (by rw [HD.out]) _ hbs) (hr1.alloc _) (by simp; omega) (by simp; omega) ?_; intro v2 w2 ho2 hg2 hb2; obtain ⟨A2, c2, rfl, hr2⟩ := ho2.reads; have hcv := run_convertB (P := Tryd.prog) w2 22 5 9 Tryd.underlying22 Tryd.underlying5 Tryd.underlying9 hr2; simp only [List.cons_append, List.nil_append, List.length_cons] at hcv)
        go_ret
        exact ⟨by rw [hit.out, hd.out]; rfl, (al hb _).trans hb2⟩
      · have hzi : ¬ (m : Int) / 10 = 0 := by omega
        have hzi2 : ((m : Int) / 10 == 0) = false := by simp; omega
        have hd := Lib.hid (HS.out.2 hz)
        have hqi : (m : Int).tdiv 10 = (m : Int) / 10 := Int.tdiv_eq_ediv_of_nonneg (by omega)
        go_wp2_with (at_builtin; refine wpList_appendB _ rfl (.tmp 15) (.tmp 16) rfl w.heap.size _ [dd] out rfl _ _ _ rfl (OwnB.one _ _ _ (by rw [HD.out]) _ hbs) (hr1.alloc _) (by simp; omega) (by simp; omega) ?_; intro v2 w2 ho2 hg2 hb2)
        go_roundw
        case rel => exact ⟨m / 10, _, by simp, by omega, by assumption, hd.out, (al hb _).trans hb2⟩
        case measure => simp [intOf]; omega
end Go.Proofs.YtfjfjjcdlgdbcaaDoor
namespace Go.Proofs.YtfjfjjcdlgdbcaaDoor
open Go.RowKit

/-- word and fields of each kind -/
def kt : List (List UInt8 × List UInt8) := [([], []), ([97, 100, 100], [97, 119]), ([115, 117, 98], [97, 119]), ([110, 111, 110, 99, 101], [97, 110]), ([99, 111, 100, 101], [97, 98]), ([115, 108, 111, 116], [97, 107, 119]), ([100, 101, 115, 116, 114, 111, 121], [97]), ([109, 97, 114, 107], []), ([114, 101, 118, 101, 114, 116], [110]), ([114, 111, 111, 116], []), ([99, 111, 109, 109, 105, 116], []), ([97, 99, 99, 111, 117, 110, 116], [97, 114, 109]), ([103, 101, 116, 99, 111, 100, 101], [97, 114, 109]), ([103, 101, 116, 115, 108, 111, 116], [97, 107, 114, 109]), ([112, 114, 111, 118, 101], [97, 114]), ([112, 114, 111, 118, 101, 115, 108, 111, 116], [97, 107, 114]), ([101, 110, 116, 114, 105, 101, 115], [114, 110, 98]), ([115, 108, 111, 116, 115], [97, 114, 110, 98]), ([98, 108, 111, 99, 107], [110, 98]), ([103, 101, 116, 98, 108, 111, 99, 107], [110]), ([102, 114, 101, 101, 122, 101], [110]), ([116, 97, 105, 108], [110]), ([112, 114, 117, 110, 101], [108]), ([102, 108, 117, 115, 104], []), ([99, 111, 109, 112, 97, 99, 116], [110]), ([115, 101, 116, 116, 108, 101], [110]), ([102, 108, 97, 116], [110]), ([102, 108, 97, 116, 116, 101, 110], [110])]
def kw (n : Int) : List UInt8 := if 0 ≤ n then (kt.getD n.toNat ([], [])).1 else []
def kf (n : Int) : List UInt8 := if 0 ≤ n then (kt.getD n.toNat ([], [])).2 else []
/-- fields in capitals -/
def kF (n : Int) : List UInt8 := (kf n).map fun c => c - 32
def isKind (n : Int) : Prop := 1 ≤ n ∧ n ≤ 27
theorem kw_no (n : Int) (h : ¬ isKind n) : kw n = [] := by
  unfold kw
  split
  · rename_i h0
    by_cases h1 : n = 0
    · subst h1; rfl
    · unfold isKind at h
      rw [List.getD_eq_getElem?_getD, List.getElem?_eq_none (by show 28 ≤ _; omega)]
      rfl
  · rfl
theorem kf_no (n : Int) (h : ¬ isKind n) : kf n = [] := by
  unfold kf
  split
  · rename_i h0
    by_cases h1 : n = 0
    · subst h1; rfl
    · unfold isKind at h
      rw [List.getD_eq_getElem?_getD, List.getElem?_eq_none (by show 28 ≤ _; omega)]
      rfl
  · rfl
set_option maxHeartbeats 4000000 in
theorem Word_calls (n : Int) (w : World) : Calls Tryd.prog 67 #[.int .i64 n] w fun e w' => e = .returned (.tuple #[.string (str (kw n)), .string (str (kF n))]) ∧ w = w' := by
  by_cases h1 : n = 1
  · subst h1
    go_enter Tryd.func67, Tryd.ntmps67
    go_wp2
    go_ret2
    exact ⟨rfl, rfl⟩
  by_cases h2 : n = 2
  · subst h2
    go_enter Tryd.func67, Tryd.ntmps67
    go_wp2
    go_ret2
    exact ⟨rfl, rfl⟩
  by_cases h3 : n = 3
  · subst h3
    go_enter Tryd.func67, Tryd.ntmps67
    go_wp2
    go_ret2
    exact ⟨rfl, rfl⟩
  by_cases h4 : n = 4
  · subst h4
    go_enter Tryd.func67, Tryd.ntmps67
    go_wp2
    go_ret2
    exact ⟨rfl, rfl⟩
  by_cases h5 : n = 5
  · subst h5
    go_enter Tryd.func67, Tryd.ntmps67
    go_wp2
    go_ret2
    exact ⟨rfl, rfl⟩
  by_cases h6 : n = 6
  · subst h6
    go_enter Tryd.func67, Tryd.ntmps67
    go_wp2
    go_ret2
    exact ⟨rfl, rfl⟩
  by_cases h7 : n = 7
  · subst h7
    go_enter Tryd.func67, Tryd.ntmps67
    go_wp2
    go_ret2
    exact ⟨rfl, rfl⟩
  by_cases h8 : n = 8
  · subst h8
    go_enter Tryd.func67, Tryd.ntmps67
    go_wp2
    go_ret2
    exact ⟨rfl, rfl⟩
  by_cases h9 : n = 9
  · subst h9
    go_enter Tryd.func67, Tryd.ntmps67
    go_wp2
    go_ret2
    exact ⟨rfl, rfl⟩
  by_cases h10 : n = 10
  · subst h10
    go_enter Tryd.func67, Tryd.ntmps67
    go_wp2
    go_ret2
    exact ⟨rfl, rfl⟩
  by_cases h11 : n = 11
  · subst h11
    go_enter Tryd.func67, Tryd.ntmps67
    go_wp2
    go_ret2
    exact ⟨rfl, rfl⟩
  by_cases h12 : n = 12
  · subst h12
    go_enter Tryd.func67, Tryd.ntmps67
    go_wp2
    go_ret2
    exact ⟨rfl, rfl⟩
  by_cases h13 : n = 13
  · subst h13
    go_enter Tryd.func67, Tryd.ntmps67
    go_wp2
    go_ret2
    exact ⟨rfl, rfl⟩
  by_cases h14 : n = 14
  · subst h14
    go_enter Tryd.func67, Tryd.ntmps67
    go_wp2
    go_ret2
    exact ⟨rfl, rfl⟩
  by_cases h15 : n = 15
  · subst h15
    go_enter Tryd.func67, Tryd.ntmps67
    go_wp2
    go_ret2
    exact ⟨rfl, rfl⟩
  by_cases h16 : n = 16
  · subst h16
    go_enter Tryd.func67, Tryd.ntmps67
    go_wp2
    go_ret2
    exact ⟨rfl, rfl⟩
  by_cases h17 : n = 17
  · subst h17
    go_enter Tryd.func67, Tryd.ntmps67
    go_wp2
    go_ret2
    exact ⟨rfl, rfl⟩
  by_cases h18 : n = 18
  · subst h18
    go_enter Tryd.func67, Tryd.ntmps67
    go_wp2
    go_ret2
    exact ⟨rfl, rfl⟩
  by_cases h19 : n = 19
  · subst h19
    go_enter Tryd.func67, Tryd.ntmps67
    go_wp2
    go_ret2
    exact ⟨rfl, rfl⟩
  by_cases h20 : n = 20
  · subst h20
    go_enter Tryd.func67, Tryd.ntmps67
    go_wp2
    go_ret2
    exact ⟨rfl, rfl⟩
  by_cases h21 : n = 21
  · subst h21
    go_enter Tryd.func67, Tryd.ntmps67
    go_wp2
    go_ret2
    exact ⟨rfl, rfl⟩
  by_cases h22 : n = 22
  · subst h22
    go_enter Tryd.func67, Tryd.ntmps67
    go_wp2
    go_ret2
    exact ⟨rfl, rfl⟩
  by_cases h23 : n = 23
  · subst h23
    go_enter Tryd.func67, Tryd.ntmps67
    go_wp2
    go_ret2
    exact ⟨rfl, rfl⟩
  by_cases h24 : n = 24
  · subst h24
    go_enter Tryd.func67, Tryd.ntmps67
    go_wp2
    go_ret2
    exact ⟨rfl, rfl⟩
  by_cases h25 : n = 25
  · subst h25
    go_enter Tryd.func67, Tryd.ntmps67
    go_wp2
    go_ret2
    exact ⟨rfl, rfl⟩
  by_cases h26 : n = 26
  · subst h26
    go_enter Tryd.func67, Tryd.ntmps67
    go_wp2
    go_ret2
    exact ⟨rfl, rfl⟩
  by_cases h27 : n = 27
  · subst h27
    go_enter Tryd.func67, Tryd.ntmps67
    go_wp2
    go_ret2
    exact ⟨rfl, rfl⟩
  have hno : ¬ isKind n := by unfold isKind; omega
  rw [kw_no n hno, kF, kf_no n hno]
  clear hno
  go_enter Tryd.func67, Tryd.ntmps67
  go_wp2
  go_ret2
  exact ⟨rfl, rfl⟩
end Go.Proofs.YtfjfjjcdlgdbcaaDoor
namespace Go.Proofs.YtfjfjjcdlgdbcaaDoor
open Go.RowKit

def kindsV : Array Value := (kt.flatMap fun p => [Value.string (str p.1), Value.string (str p.2)]).toArray

theorem wpList_build {P : Program} {ops : Array Oper} {rest : List Oper} {o : Oper} {a : Act} {w : World} {Q : Exit → Act → World → Prop} (hgd : o.guard = none) (ty : TypeId) (xs : Array (Nat × Operand)) (_ho : o.op = .build ty xs) (v : Value) (hrun : (execOp a.eval o).run P w = .ok (.value v) w)
    (h : wpList P ops Q rest (a.put o.dst v) w) : wpList P ops Q (o :: rest) a w :=
  wpList_plain hgd fun K hK => by
    unfold Oper.wp
    simp only [hrun]
    exact hK _ _ h
theorem Tryd.agg117 : AggT Tryd.prog 117 56 := by
  refine ⟨?_, by kernel_rfl⟩
  rw [Tryd.underlying117]; exact rfl
theorem results_agg1 {P : Program} {fn : Func} {p : Tmp} {ty : TypeId} (h : fn.results = #[.cell p ty]) (tmps : Array Value) (w : World) (g : Nat) (vs : Array Value)
    (hp : tmps.getD p undef = .pointer (some ⟨g, 0, none⟩)) (ht : AggT P ty vs.size) (hc : CellsAt w g 0 vs.toList) :
    (results fn tmps).run P w = .ok (.agg vs) w := by
  have hp' : tmps[p]?.getD undef = .pointer (some ⟨g, 0, none⟩) := by simpa using hp
  have hl := run_loadAgg (P := P) w ty g 0 vs.toList (by simpa using ht) hc
  simp [results, h, hp', asAddr, hl]
theorem kindsV_size : kindsV.size = 56 := by decide +kernel
theorem kindsV_one : AllOne kindsV.toList := by
  have : (kindsV.toList.all fun v => v.oneCell') = true := by decide +kernel
  intro v hv
  exact List.all_eq_true.1 this v hv

set_option maxRecDepth 100000 in
set_option maxHeartbeats 4000000 in
theorem kinds_calls (w : World) : Calls Tryd.prog 65 #[] w fun e w' => e = .returned (.agg kindsV) ∧ Below w.heap.size w w' := by
  have hA : Hid (AggT Tryd.prog 117 kindsV.size) := by rw [kindsV_size]; exact Tryd.agg117
  go_enter Tryd.func65, Tryd.ntmps65
  go_wp2_with (first | (refine wpList_build rfl 117 _ rfl (.agg kindsV) (by kernel_rfl) ?_) | (refine wpList_storeNew rfl rfl 117 _ _ rfl _ _ rfl kindsV rfl hA.out (by rw [kindsV_size]; rfl) kindsV_one ?_))
  refine bodyPost_ret (results_agg1 rfl _ _ w.heap.size kindsV rfl hA.out ?_) rfl ⟨rfl, (Below.refl _ _).alloc (Nat.le_refl _) _⟩
  exact cellsAt_alloc_at w kindsV 117 _ 0 _ rfl (fun j u hu => by simpa using hu)
end Go.Proofs.YtfjfjjcdlgdbcaaDoor
namespace Go.Proofs.YtfjfjjcdlgdbcaaDoor
open Go.RowKit Go.Sort

/-- an act in plain words -/
structure ActP where
  kind : Int
  addr : List UInt8
  key : List UInt8
  word : List UInt8
  root : List UInt8
  n : Int
  m : Int
  b : List UInt8
  l : List (List UInt8 × List UInt8)

/-- an act's cells -/
def ak (A : ActP) (b l : Value) : Array Value := ([Value.int .i64 A.kind] ++ (bvs A.addr ++ (bvs A.key ++ (bvs A.word ++ (bvs A.root ++ [.int .i64 A.n, .int .i64 A.m, b, l]))))).toArray
structure ActP.Fit (A : ActP) : Prop where
  ha : A.addr.length = 20
  hk : A.key.length = 32
  hw : A.word.length = 32
  hr : A.root.length = 32
  hn0 : -9223372036854775808 ≤ A.n
  hn1 : A.n ≤ 9223372036854775807
  hm0 : -9223372036854775808 ≤ A.m
  hm1 : A.m ≤ 9223372036854775807
  hk0 : -9223372036854775808 ≤ A.kind
  hk1 : A.kind ≤ 9223372036854775807

theorem ak_size (A : ActP) (b l : Value) (h : A.Fit) : (ak A b l).size = 121 := by
  simp [ak, bvs_length, h.ha, h.hk, h.hw, h.hr]
theorem ak_0 (A : ActP) (b l : Value) : (ak A b l)[0]? = some (.int .i64 A.kind) := by simp [ak]
theorem app_at {α : Type} (n : Nat) (xs ys : List α) (h : xs.length = n) (j : Nat) : (xs ++ ys)[n + j]? = ys[j]? := by
  rw [List.getElem?_append_right (by omega)]; congr 1; omega
theorem app_lt {α : Type} (xs ys : List α) (j : Nat) (u : α) (h : xs[j]? = some u) : (xs ++ ys)[j]? = some u := by
  rw [List.getElem?_append_left (List.getElem?_eq_some_iff.1 h).1]; exact h
theorem bvs_get {xs : List UInt8} {j : Nat} {u : UInt8} (h : xs[j]? = some u) : (bvs xs)[j]? = some (bv u) := by simp [bvs, h]
theorem ak_tail (A : ActP) (b l : Value) (h : A.Fit) (j : Nat) : (ak A b l)[117 + j]? = [Value.int .i64 A.n, .int .i64 A.m, b, l][j]? := by
  rw [ak, List.getElem?_toArray, show 117 + j = 1 + (20 + (32 + (32 + (32 + j)))) by omega, app_at 1 _ _ rfl, app_at 20 _ _ (by rw [bvs_length, h.ha]), app_at 32 _ _ (by rw [bvs_length, h.hk]), app_at 32 _ _ (by rw [bvs_length, h.hw]), app_at 32 _ _ (by rw [bvs_length, h.hr])]
theorem ak_addr (A : ActP) (b l : Value) (j : Nat) (u : UInt8) (hu : A.addr[j]? = some u) : (ak A b l)[1 + j]? = some (bv u) := by
  rw [ak, List.getElem?_toArray, app_at 1 _ _ rfl]
  exact app_lt _ _ _ _ (bvs_get hu)
theorem ak_key (A : ActP) (b l : Value) (h : A.Fit) (j : Nat) (u : UInt8) (hu : A.key[j]? = some u) : (ak A b l)[21 + j]? = some (bv u) := by
  rw [ak, List.getElem?_toArray, show 21 + j = 1 + (20 + j) by omega, app_at 1 _ _ rfl, app_at 20 _ _ (by rw [bvs_length, h.ha])]
  exact app_lt _ _ _ _ (bvs_get hu)
theorem ak_word (A : ActP) (b l : Value) (h : A.Fit) (j : Nat) (u : UInt8) (hu : A.word[j]? = some u) : (ak A b l)[53 + j]? = some (bv u) := by
  rw [ak, List.getElem?_toArray, show 53 + j = 1 + (20 + (32 + j)) by omega, app_at 1 _ _ rfl, app_at 20 _ _ (by rw [bvs_length, h.ha]), app_at 32 _ _ (by rw [bvs_length, h.hk])]
  exact app_lt _ _ _ _ (bvs_get hu)
theorem ak_root (A : ActP) (b l : Value) (h : A.Fit) (j : Nat) (u : UInt8) (hu : A.root[j]? = some u) : (ak A b l)[85 + j]? = some (bv u) := by
  rw [ak, List.getElem?_toArray, show 85 + j = 1 + (20 + (32 + (32 + j))) by omega, app_at 1 _ _ rfl, app_at 20 _ _ (by rw [bvs_length, h.ha]), app_at 32 _ _ (by rw [bvs_length, h.hk]), app_at 32 _ _ (by rw [bvs_length, h.hw])]
  exact app_lt _ _ _ _ (bvs_get hu)
theorem RdB.sub (w : World) (t : TypeId) (cs : Array Value) (off n : Nat) (xs : List UInt8) (hn : xs.length = n) (hm : n ≤ maxLen) (h : ∀ j u, xs[j]? = some u → cs[off + j]? = some (bv u)) :
    RdB (w.alloc (.cells cs t)) (some ⟨w.heap.size, off, none⟩) n n xs := by
  refine ⟨hn, Nat.le_refl _, hm, fun _ => ⟨_, rfl, fun j u hu => ?_⟩⟩
  have e : (⟨w.heap.size, off, none⟩ : Addr).add j = ⟨w.heap.size, off + j, none⟩ := by unfold Addr.add; split <;> simp_all
  rw [e, World.cell?_alloc_at _ _ _ _ rfl]
  exact h j u hu

theorem Blk.rd {w : World} {g : Nat} {t : TypeId} {cs : Array Value} (hB : Blk w g t cs) (off n : Nat) (xs : List UInt8) (hn : xs.length = n) (hm : n ≤ maxLen) (h : ∀ j u, xs[j]? = some u → cs[off + j]? = some (bv u)) :
    RdB w (some ⟨g, off, none⟩) n n xs := by
  refine ⟨hn, Nat.le_refl _, hm, fun _ => ⟨_, rfl, fun j u hu => ?_⟩⟩
  have e : (⟨g, off, none⟩ : Addr).add j = ⟨g, off + j, none⟩ := by unfold Addr.add; split <;> simp_all
  rw [e, hB.cell]
  exact h j u hu

/-- the slice value (A, n, c) reads as a list of keys and values -/
def RdKV (w : World) (A : Option Addr) (n c : Nat) (kvs : List (List UInt8 × List UInt8)) : Prop :=
  kvs.length = n ∧ n ≤ c ∧ c ≤ maxLen ∧ (0 < n → ∃ g o, A = some ⟨g, o, none⟩ ∧ ∀ j kv, kvs[j]? = some kv → ∃ B m d B' m' d', w.cell? ⟨g, o + j * 2, none⟩ = some (.slice B m d) ∧ RdB w B m d kv.1 ∧ w.cell? ⟨g, o + j * 2 + 1, none⟩ = some (.slice B' m' d') ∧ RdB w B' m' d' kv.2)
theorem cell_below' {w w' : World} (hb : Below w.heap.size w w') {a : Addr} {v : Value} (hc : w.cell? a = some v) : w'.cell? a = some v := (hb.cell (World.block_lt_of_cell? w a hc)).trans hc
theorem RdKV.below {w w1 : World} {A : Option Addr} {n c : Nat} {kvs : List (List UInt8 × List UInt8)} (h : RdKV w A n c kvs) (hb : Below w.heap.size w w1) : RdKV w1 A n c kvs :=
  ⟨h.1, h.2.1, h.2.2.1, fun hn => by
    obtain ⟨g, o, e, hc⟩ := h.2.2.2 hn
    refine ⟨g, o, e, fun j kv hj => ?_⟩
    obtain ⟨B, m, d, B', m', d', h1, h2, h3, h4⟩ := hc j kv hj
    exact ⟨B, m, d, B', m', d', cell_below' hb h1, h2.below hb, cell_below' hb h3, h4.below hb⟩⟩
theorem RdKV.at_ {w : World} {A : Option Addr} {n c : Nat} {kvs : List (List UInt8 × List UInt8)} (h : RdKV w A n c kvs) {k : Nat} (hk : k < n) :
    ∃ g o B m d B' m' d', A = some ⟨g, o, none⟩ ∧ kvs[k]? = some (kvs.getD k ([], [])) ∧ w.cell? ⟨g, o + k * 2, none⟩ = some (.slice B m d) ∧ RdB w B m d (kvs.getD k ([], [])).1 ∧ w.cell? ⟨g, o + k * 2 + 1, none⟩ = some (.slice B' m' d') ∧ RdB w B' m' d' (kvs.getD k ([], [])).2 := by
  obtain ⟨g, o, e, hc⟩ := h.2.2.2 (by omega)
  have hl : k < kvs.length := by have := h.1; omega
  have hg : kvs[k]? = some (kvs.getD k ([], [])) := by rw [List.getD_eq_getElem?_getD, List.getElem?_eq_getElem hl]; rfl
  obtain ⟨B, m, d, B', m', d', h1, h2, h3, h4⟩ := hc k _ hg
  exact ⟨g, o, B, m, d, B', m', d', e, hg, h1, h2, h3, h4⟩

/-- the value cs reads as the act A -/
def RdAct (w : World) (A : ActP) (bA : Option Addr) (bn bc : Nat) (lA : Option Addr) (ln lc : Nat) : Prop := A.Fit ∧ RdB w bA bn bc A.b ∧ RdKV w lA ln lc A.l
theorem RdAct.below {w w1 : World} {A : ActP} {bA : Option Addr} {bn bc : Nat} {lA : Option Addr} {ln lc : Nat} (h : RdAct w A bA bn bc lA ln lc) (hb : Below w.heap.size w w1) : RdAct w1 A bA bn bc lA ln lc := ⟨h.1, h.2.1.below hb, h.2.2.below hb⟩

/-- the facts on the program's variables that the library's contracts ask for -/
structure LaidW (w : World) : Prop where
  pow : Lib.TabIs Tryd.prog w "internal/strconv.uint64pow10" .u64 Lib.pow10Tab
  max : ∃ m, w.cell? ⟨1, 0, none⟩ = some (.int .i64 m)
  syn : ∃ ev, w.cell? ⟨2, 0, none⟩ = some ev ∧ (ev = .nilIface ∨ ∃ te pe, ev = .iface te pe)
  rng : ∃ ev, w.cell? ⟨3, 0, none⟩ = some ev ∧ (ev = .nilIface ∨ ∃ te pe, ev = .iface te pe)
theorem tab_below {n : String} {k : IntKind} {zs : List Int} {w w' : World} (h : Lib.TabIs Tryd.prog w n k zs) (hb : Below w.heap.size w w') : Lib.TabIs Tryd.prog w' n k zs := by
  unfold Lib.TabIs World.var? at h ⊢
  cases hg : Tryd.prog.globalNamed n with
  | none => rw [hg] at h; exact absurd h (by simp)
  | some g =>
    rw [hg] at h
    simp only [Option.bind_some] at h ⊢
    have hlt : g < w.heap.size := by
      rcases Nat.lt_or_ge g w.heap.size with h' | h'
      · exact h'
      · rw [Array.getElem?_eq_none h'] at h; cases h
    rw [hb.block g hlt]
    exact h
theorem LaidW.below {w w1 : World} (h : LaidW w) (hb : Below w.heap.size w w1) : LaidW w1 := by
  obtain ⟨h1, ⟨m, h2⟩, ⟨e2, h3, h3'⟩, ⟨e3, h4, h4'⟩⟩ := h
  exact ⟨tab_below h1 hb, ⟨m, cell_below' hb h2⟩, ⟨e2, cell_below' hb h3, h3'⟩, ⟨e3, cell_below' hb h4, h4'⟩⟩
theorem grow_below (w : World) (k : Nat) (os : Array Obj) : Below w.heap.size w (grow (w.drewN k) os) := by
  have hb : Below w.heap.size w (w.drewN k) := ⟨rfl, rfl, rfl, Nat.le_refl _, fun _ _ => rfl⟩
  refine ⟨hb.os, hb.tape, hb.output, ?_, fun i hi => ?_⟩
  · show w.heap.size ≤ (w.heap ++ os).size
    simp
  · show (w.heap ++ os)[i]? = w.heap[i]?
    rw [Array.getElem?_append_left hi]
theorem Itoa_calls (n : Int) (w : World) (h0 : -9223372036854775808 ≤ n) (h1 : n ≤ 9223372036854775807) (hL : LaidW w) :
    Calls Tryd.prog 104 #[.int .i64 n] w fun e w' => e = .returned (.string (str (Lib.itoa n))) ∧ Below w.heap.size w w' :=
  (Tryd.strconv_Itoa n h0 h1 w hL.pow).mono fun e w' ⟨he, k, os, hw⟩ => ⟨he, by rw [hw]; exact grow_below w k os⟩
end Go.Proofs.YtfjfjjcdlgdbcaaDoor
namespace Go.Proofs.YtfjfjjcdlgdbcaaDoor
open Go.RowKit

/-- the texts of a list of keys -/
def keysT (l : List (List UInt8 × List UInt8)) : List (List UInt8) := l.map fun kv => hexL kv.1
def listL (l : List (List UInt8 × List UInt8)) : List UInt8 := if l = [] then [46] else Lib.join (keysT l) [44]
/-- what a field prints -/
def fieldL (A : ActP) (c : Int) : List UInt8 :=
  if c = 97 then hexL A.addr else if c = 107 then hexL A.key else if c = 119 then hexL A.word else if c = 114 then hexL A.root
  else if c = 110 then Lib.itoa A.n else if c = 109 then Lib.itoa A.m else if c = 98 then dotL (hexL A.b) else listL A.l
structure ActP.Small (A : ActP) : Prop where
  hb : A.b.length ≤ 2000000
  hl : A.l.length ≤ 2000000
  hkv : ∀ kv ∈ A.l, kv.1.length ≤ 2000000

theorem Tryd.info9 : (Tryd.prog.info? 9).map (fun i => (i.zero, i.size, i.bytes)) = some (some (.string ⟨#[]⟩), 1, 16) := by kernel_rfl
def svs (ss : List (List UInt8)) : List Value := ss.map fun s => .string (str s)
/-- the value v is a row of strings of its own -/
def OwnS (w : World) (B : Nat) (v : Value) (ss : List (List UInt8)) : Prop := w.ownsRow B 9 1 v ss.length (svs ss)
theorem OwnS.nil (w : World) (B : Nat) : OwnS w B (.slice none 0 0) [] := World.ownsRow_nil w B 9 1
theorem OwnS.alloc {w : World} {B : Nat} {v : Value} {ss : List (List UInt8)} (h : OwnS w B v ss) (o : Obj) : OwnS (w.alloc o) B v ss := World.ownsRow.alloc h o
theorem OwnS.below {w w1 : World} {B : Nat} {v : Value} {ss : List (List UInt8)} (h : OwnS w B v ss) (hb : Below w.heap.size w w1) : OwnS w1 B v ss :=
  World.ownsRow.kept h (row := none) ⟨hb.os, hb.tape, hb.output, hb.size, fun i hi _ => hb.block i hi⟩ (by cases v.ownBlock <;> simp)
theorem OwnS.reads {w : World} {B : Nat} {v : Value} {ss : List (List UInt8)} (h : OwnS w B v ss) : (v = .slice none 0 0 ∧ ss = []) ∨ ∃ g c, v = .slice (some ⟨g, 0, none⟩) ss.length c ∧ B ≤ g ∧ g < w.heap.size ∧ ss.length ≤ c ∧ c ≤ maxLen ∧ ∀ (j : Nat) s, ss[j]? = some s → w.cell? ⟨g, 0 + j, none⟩ = some (.string (str s)) := by
  rcases h.2 with ⟨rfl, h0⟩ | ⟨g, cap, cur, rfl, hb, hh, hn, hm, _⟩
  · exact .inl ⟨rfl, List.eq_nil_of_length_eq_zero h0⟩
  · refine .inr ⟨g, cap, rfl, hb, (Array.getElem?_eq_some_iff.1 hh).1, hn, hm, fun j s hj => ?_⟩
    have := World.ownsRow.cells h (g := g) rfl j (.string (str s)) (by simp [svs, hj])
    have e : (⟨g, 0, none⟩ : Addr).add j = ⟨g, 0 + j, none⟩ := by unfold Addr.add; split <;> simp_all
    rw [← e]
    exact this
theorem svs_append (a b : List (List UInt8)) : svs (a ++ b) = svs a ++ svs b := by simp [svs]
/-- 'append(l, s)', l a row of the call's own, s a string that has just been laid -/
theorem run_appendS (w : World) (ty : TypeId) (B : Nat) (v : Value) (ss : List (List UInt8)) (s : List UInt8) (g c : Nat) (hown : OwnS w B v ss) (hr : w.cell? ⟨g, 0, none⟩ = some (.string (str s)))
    (hl : ss.length ≤ 10000000) (hB : B ≤ w.heap.size) :
    ∃ v' w', (Builtin.append_ #[84, 84] ty #[v, .slice (some ⟨g, 0, none⟩) 1 c]).run Tryd.prog w = .ok v' w' ∧ OwnS w' B v' (ss ++ [s]) ∧ Below B w w' := by
  obtain ⟨i0, hi, hz0, hz1, hz2⟩ := info_parts Tryd.info9
  obtain ⟨v', w', h1, h2, h3, _⟩ := run_append_own (P := Tryd.prog) w B 84 ty 9 i0 (.string ⟨#[]⟩) 1 16 Tryd.underlying84 hi hz0 hz1 hz2 rfl (by omega) v ss.length (svs ss) hown ⟨g, 0, none⟩ 1 c (svs [s])
      (by simp [svs]) (fun j u hu => by
        match j, hu with
        | 0, hu =>
          obtain rfl : Value.string (str s) = u := by simpa [svs] using hu
          rw [show (⟨g, 0, none⟩ : Addr).add 0 = ⟨g, 0, none⟩ from rfl]
          exact hr
        | j + 1, hu => simp [svs] at hu) (by intro v hv; obtain rfl : v = .string (str s) := by simpa [svs] using hv
                                             rfl) (by unfold maxLen; omega) (by omega) hB
  refine ⟨v', w', h1, ?_, (Below.refl B w).grown h3 hB (fun k hk => (World.ownsRow.lt hown k hk).1)⟩
  rw [← svs_append] at h2
  have e : ss.length + 1 = (ss ++ [s]).length := by simp
  unfold OwnS
  rw [← e]
  exact h2
theorem wpList_appendS (w : World) {ops : Array Oper} {rest : List Oper} {o : Oper} {a : Act} {Q : Exit → Act → World → Prop}
    (hgd : o.guard = none) (s x : Operand) (ho : o.op = .call { callee := .builtin .append, args := #[s, x], argTypes := #[84, 84] })
    (B : Nat) (v : Value) (ss : List (List UInt8)) (y : List UInt8) (hs : a.eval s = v) (g c : Nat) (hx : a.eval x = .slice (some ⟨g, 0, none⟩) 1 c) (hown : OwnS w B v ss) (hr : w.cell? ⟨g, 0, none⟩ = some (.string (str y)))
    (hl : ss.length ≤ 10000000) (hB : B ≤ w.heap.size)
    (h : ∀ v' w', OwnS w' B v' (ss ++ [y]) → Below B w w' → wpList Tryd.prog ops Q rest (a.put o.dst v') w') : wpList Tryd.prog ops Q (o :: rest) a w := by
  obtain ⟨v', w', hrun, h1, h2⟩ := run_appendS w o.type B v ss y g c hown hr hl hB
  refine wpList_plain hgd fun K hK' => ?_
  unfold Oper.wp execOp
  simp only [ho, resolve, invoke, builtin, Sem.run_bind, Sem.run_pure, Result.andThen_ok, List.map_toArray, List.map_cons, List.map_nil, hs, hx, hrun]
  exact hK' _ _ (h v' w' h1 h2)
theorem join_len (ss : List (List UInt8)) (m : Nat) (h : ∀ s ∈ ss, s.length ≤ m) : (Lib.join ss [44]).length ≤ ss.length * (m + 1) := by
  cases ss with
  | nil => simp [Lib.join_nil]
  | cons x r =>
    have hx : x.length ≤ m := h x (by simp)
    have hr : ∀ s ∈ r, s.length ≤ m := fun s hs => h s (by simp [hs])
    have key : ∀ r : List (List UInt8), (∀ s ∈ r, s.length ≤ m) → (Lib.joinTail [44] r).length ≤ r.length * (m + 1) := by
      intro r
      induction r with
      | nil => intro _; simp [Lib.joinTail]
      | cons y r ih =>
        intro hr
        have h1 := ih (fun s hs => hr s (by simp [hs]))
        have h2 := hr y (by simp)
        simp only [Lib.joinTail, List.map_cons, List.flatten_cons, List.length_append, List.length_cons, List.length_nil, Nat.add_mul] at h1 ⊢
        omega
    rw [Lib.join_cons]
    have := key r hr
    simp only [List.length_append, List.length_cons, Nat.add_mul]
    omega

set_option maxHeartbeats 1000000 in
theorem printed_addr (A : ActP) (b l : Value) (w : World) (h : A.Fit) :
    Calls Tryd.prog 66 #[.agg (ak A b l), .int .i32 97] w fun e w' => e = .returned (.string (str (hexL A.addr))) ∧ Below w.heap.size w w' := by
  have hx := Lib.hid (Hex_calls (some ⟨w.heap.size, 1, none⟩) 20 20 A.addr (w.alloc (.cells (ak A b l) 64)) (RdB.sub w 64 (ak A b l) 1 20 A.addr h.ha (by unfold maxLen; omega) (ak_addr A b l)) (by omega))
  go_enter Tryd.func66, Tryd.ntmps66
  go_wp2_with (go_at_call 48; refine hx.out.mono ?_; rintro e w1 ⟨rfl, hb1⟩)
  go_ret
  exact ⟨rfl, thn (al (Below.refl _ _) _) hb1⟩

set_option maxHeartbeats 1000000 in
theorem printed_key (A : ActP) (b l : Value) (w : World) (h : A.Fit) :
    Calls Tryd.prog 66 #[.agg (ak A b l), .int .i32 107] w fun e w' => e = .returned (.string (str (hexL A.key))) ∧ Below w.heap.size w w' := by
  have hx := Lib.hid (Hex_calls (some ⟨w.heap.size, 21, none⟩) 32 32 A.key (w.alloc (.cells (ak A b l) 64)) (RdB.sub w 64 (ak A b l) 21 32 A.key h.hk (by unfold maxLen; omega) (ak_key A b l h)) (by omega))
  go_enter Tryd.func66, Tryd.ntmps66
  go_wp2_with (go_at_call 48; refine hx.out.mono ?_; rintro e w1 ⟨rfl, hb1⟩)
  go_ret
  exact ⟨rfl, thn (al (Below.refl _ _) _) hb1⟩

set_option maxHeartbeats 1000000 in
theorem printed_word (A : ActP) (b l : Value) (w : World) (h : A.Fit) :
    Calls Tryd.prog 66 #[.agg (ak A b l), .int .i32 119] w fun e w' => e = .returned (.string (str (hexL A.word))) ∧ Below w.heap.size w w' := by
  have hx := Lib.hid (Hex_calls (some ⟨w.heap.size, 53, none⟩) 32 32 A.word (w.alloc (.cells (ak A b l) 64)) (RdB.sub w 64 (ak A b l) 53 32 A.word h.hw (by unfold maxLen; omega) (ak_word A b l h)) (by omega))
  go_enter Tryd.func66, Tryd.ntmps66
  go_wp2_with (go_at_call 48; refine hx.out.mono ?_; rintro e w1 ⟨rfl, hb1⟩)
  go_ret
  exact ⟨rfl, thn (al (Below.refl _ _) _) hb1⟩

set_option maxHeartbeats 1000000 in
theorem printed_root (A : ActP) (b l : Value) (w : World) (h : A.Fit) :
    Calls Tryd.prog 66 #[.agg (ak A b l), .int .i32 114] w fun e w' => e = .returned (.string (str (hexL A.root))) ∧ Below w.heap.size w w' := by
  have hx := Lib.hid (Hex_calls (some ⟨w.heap.size, 85, none⟩) 32 32 A.root (w.alloc (.cells (ak A b l) 64)) (RdB.sub w 64 (ak A b l) 85 32 A.root h.hr (by unfold maxLen; omega) (ak_root A b l h)) (by omega))
  go_enter Tryd.func66, Tryd.ntmps66
  go_wp2_with (go_at_call 48; refine hx.out.mono ?_; rintro e w1 ⟨rfl, hb1⟩)
  go_ret
  exact ⟨rfl, thn (al (Below.refl _ _) _) hb1⟩

set_option maxHeartbeats 1000000 in
theorem printed_n (A : ActP) (b l : Value) (w : World) (h : A.Fit) (hL : LaidW w) :
    Calls Tryd.prog 66 #[.agg (ak A b l), .int .i32 110] w fun e w' => e = .returned (.string (str (Lib.itoa A.n))) ∧ Below w.heap.size w w' := by
  have hx := Lib.hid (Itoa_calls A.n (w.alloc (.cells (ak A b l) 64)) h.hn0 h.hn1 (hL.below (al (Below.refl _ _) _)))
  have hg : (ak A b l)[117]? = some (.int .i64 A.n) := ak_tail A b l h 0
  clear hL
  go_enter Tryd.func66, Tryd.ntmps66
  go_wp2_with (go_at_call 104; refine hx.out.mono ?_; rintro e w1 ⟨rfl, hb1⟩)
  go_ret
  exact ⟨rfl, thn (al (Below.refl _ _) _) hb1⟩

set_option maxHeartbeats 1000000 in
theorem printed_m (A : ActP) (b l : Value) (w : World) (h : A.Fit) (hL : LaidW w) :
    Calls Tryd.prog 66 #[.agg (ak A b l), .int .i32 109] w fun e w' => e = .returned (.string (str (Lib.itoa A.m))) ∧ Below w.heap.size w w' := by
  have hx := Lib.hid (Itoa_calls A.m (w.alloc (.cells (ak A b l) 64)) h.hm0 h.hm1 (hL.below (al (Below.refl _ _) _)))
  have hg : (ak A b l)[118]? = some (.int .i64 A.m) := ak_tail A b l h 1
  clear hL
  go_enter Tryd.func66, Tryd.ntmps66
  go_wp2_with (go_at_call 104; refine hx.out.mono ?_; rintro e w1 ⟨rfl, hb1⟩)
  go_ret
  exact ⟨rfl, thn (al (Below.refl _ _) _) hb1⟩

set_option maxHeartbeats 1000000 in
theorem printed_b (A : ActP) (bA : Option Addr) (bn bc : Nat) (l : Value) (w : World) (h : A.Fit) (hr : RdB w bA bn bc A.b) (hs : A.b.length ≤ 2000000) :
    Calls Tryd.prog 66 #[.agg (ak A (.slice bA bn bc) l), .int .i32 98] w fun e w' => e = .returned (.string (str (dotL (hexL A.b)))) ∧ Below w.heap.size w w' := by
  have hx := Lib.hid (digits105_calls bA bn bc A.b (w.alloc (.cells (ak A (.slice bA bn bc) l) 64)) (hr.alloc _) (by rw [← hr.1]; omega))
  have hg : (ak A (.slice bA bn bc) l)[119]? = some (.slice bA bn bc) := ak_tail A _ l h 2
  clear hr hs
  go_enter Tryd.func66, Tryd.ntmps66
  go_wp2_with (go_at_call 105; refine hx.out.mono ?_; rintro e w1 ⟨rfl, hb1⟩)
  go_ret
  exact ⟨rfl, thn (al (Below.refl _ _) _) hb1⟩

theorem keysT_take (l : List (List UInt8 × List UInt8)) (k : Nat) (h : k < l.length) : keysT (l.take (k + 1)) = keysT (l.take k) ++ [hexL (l.getD k ([], [])).1] := by
  rw [List.take_succ_eq_append_getElem h]
  simp only [keysT, List.map_append, List.map_cons, List.map_nil, List.getD_eq_getElem?_getD, List.getElem?_eq_getElem h, Option.getD_some]

/-- strings.Join at ',' -/
theorem Join_calls (w : World) (g c : Nat) (ss : List (List UInt8)) (sep : List UInt8) (m : Nat) (hs : ∀ s ∈ ss, s.length ≤ m) (hm : ss.length ≤ 2000000 ∧ m ≤ 4000000 ∧ sep = [44]) (hg : g < w.heap.size) (hc : ss.length ≤ c)
    (hcs : ∀ (j : Nat) s, ss[j]? = some s → w.cell? ⟨g, 0 + j, none⟩ = some (.string (str s))) :
    Calls Tryd.prog 47 #[.slice (some ⟨g, 0, none⟩) ss.length c, .string (str sep)] w fun e w' => e = .returned (.string (str (Lib.join ss sep))) ∧ Below w.heap.size w w' := by
  have e1 : (ss.map str).map (·.data.toList) = ss := by rw [List.map_map]; exact List.map_id'' (fun _ => rfl) ss
  have hle : (Lib.join ss sep).length ≤ 140737488355328 := by
    rw [hm.2.2]
    have := join_len ss m hs
    have h2 : ss.length * (m + 1) ≤ 2000000 * 4000001 := Nat.mul_le_mul hm.1 (by omega)
    omega
  have := Tryd.strings_Join g 0 c (ss.map str) (str sep) w (fun j x hx => by
    rw [List.getElem?_map, Option.map_eq_some_iff] at hx
    obtain ⟨s, h1, rfl⟩ := hx
    exact hcs j s h1) hg (by rw [List.length_map]; omega) (by rw [List.length_map]; exact hc) (by rw [e1]; exact hle)
  rw [e1, List.length_map] at this
  exact this

set_option maxRecDepth 100000 in
set_option maxHeartbeats 2000000 in
theorem printed_l (A : ActP) (b : Value) (lA : Option Addr) (ln lc : Nat) (c : Int) (w : World) (h : A.Fit) (hr : RdKV w lA ln lc A.l) (hS : A.Small)
    (hc : c ≠ 97 ∧ c ≠ 107 ∧ c ≠ 119 ∧ c ≠ 114 ∧ c ≠ 110 ∧ c ≠ 109 ∧ c ≠ 98) :
    Calls Tryd.prog 66 #[.agg (ak A b (.slice lA ln lc)), .int .i32 c] w fun e w' => e = .returned (.string (str (listL A.l))) ∧ Below w.heap.size w w' := by
  have hg : (ak A b (.slice lA ln lc))[120]? = some (.slice lA ln lc) := ak_tail A _ _ h 3
  have e1 : (c == 97) = false := by simpa using hc.1
  have e2 : (c == 107) = false := by simpa using hc.2.1
  have e3 : (c == 119) = false := by simpa using hc.2.2.1
  have e4 : (c == 114) = false := by simpa using hc.2.2.2.1
  have e5 : (c == 110) = false := by simpa using hc.2.2.2.2.1
  have e6 : (c == 109) = false := by simpa using hc.2.2.2.2.2.1
  have e7 : (c == 98) = false := by simpa using hc.2.2.2.2.2.2
  clear hc
  have hln := hr.1
  by_cases h0 : ln = 0
  · have hl : A.l = [] := List.eq_nil_of_length_eq_zero (by omega)
    rw [hl]
    subst h0
    clear hr hS hln
    go_enter Tryd.func66, Tryd.ntmps66
    go_wp2
    go_ret
    exact ⟨rfl, al (Below.refl _ _) _⟩
  · have hne : A.l ≠ [] := by intro e; rw [e] at hln; exact h0 (by simpa using hln.symm)
    have hll : Hid (listL A.l = Lib.join (keysT A.l) [44]) := by rw [listL, if_neg hne]; trivial
    have hm : ln ≤ 2000000 := by rw [← hln]; exact hS.hl
    have hx := Lib.hid (fun (B : Option Addr) (m d : Nat) (xs : List UInt8) (W : World) (hr : RdB W B m d xs) (hs : m ≤ 100000000) => Hex_calls B m d xs W hr hs)
    have HR := Lib.hid hr
    have HS := Lib.hid hS
    have hz : ((ln : Int) == 0) = false := by simp; omega
    clear hr hS
    go_enter Tryd.func66, Tryd.ntmps66
    go_wp2
    go_loopw [5, 51] (fun v i wr => ∃ k : Nat, k ≤ ln ∧ i = .int .i64 k ∧ OwnS wr w.heap.size v (keysT (A.l.take k)) ∧ Below w.heap.size w wr) (fun _ i _ => ln - (intOf i).toNat)
    case atStart => exact ⟨0, by omega, rfl, OwnS.nil _ _, al (Below.refl _ _) _⟩
    case round =>
      obtain ⟨k, hk, rfl, ho, hb⟩ := hrel
      have hbs := hb.size
      by_cases hlt : k < ln
      · obtain ⟨g, o, B, m, d, B', m', d', rfl, hgk, hc1, hr1, hc2, hr2⟩ := (HR.out.below hb).at_ hlt
        have HF := Lib.hid (keysT_take A.l k (by omega))
        have hmm : m ≤ 2000000 := by
          rw [← hr1.1]
          exact HS.out.hkv _ (List.mem_of_getElem? hgk)
        clear hgk hr2
        generalize (A.l.getD k ([], [])).1 = ys at *
        have HR1 := Lib.hid hr1
        clear hr1
        have hkl : Hid ((keysT (A.l.take k)).length = k) := by rw [keysT, List.length_map, List.length_take, hln]; exact Nat.min_eq_left hk
        go_wp2_with (first | (go_at_call 48; refine (hx.out B m d ys _ (HR1.out.alloc _) (by omega)).mono ?_; rintro e w1 ⟨rfl, hb1⟩) | (at_builtin; refine wpList_appendS _ rfl (.tmp 55) (.tmp 59) rfl w.heap.size _ (keysT (A.l.take k)) (hexL ys) rfl _ _ rfl ((ho.below (thn (al (Below.refl _ _) _) hb1)).alloc _) (World.cell?_alloc_at _ _ _ _ rfl) (by rw [hkl.out]; omega) (by have := hb1.size; simp at this ⊢; omega) ?_; intro v2 w2 ho2 hb2))
        go_roundw
        case rel => exact ⟨k + 1, by omega, by go_num, by rw [HF.out]; exact ho2, (al (thn (al hb _) hb1) _).trans hb2⟩
        case measure => simp [intOf]; omega
      · obtain rfl : k = ln := by omega
        rw [List.take_of_length_le (by omega)] at ho
        have hlen : (keysT A.l).length = k := by rw [keysT, List.length_map, hln]
        rcases ho.reads with ⟨rfl, he⟩ | ⟨g, cc, rfl, hgB, hgw, hlc, hcm, hcs⟩
        · rw [he] at hlen
          exact absurd hlen.symm h0
        · have hj := Lib.hid (Join_calls wr g cc (keysT A.l) [44] 4000000 (fun s hs => by
            obtain ⟨kv, hkv, rfl⟩ := List.mem_map.1 hs
            rw [hexL_length]
            have := HS.out.hkv kv hkv
            omega) ⟨by omega, by omega, rfl⟩ hgw hlc hcs)
          have hlen' := Lib.hid hlen
          clear hlen hcs hlc hcm
          rw [hlen'.out] at hj ⊢
          go_wp2_with (go_at_call 47; refine hj.out.mono ?_; rintro e w1 ⟨rfl, hb1⟩)
          go_ret
          exact ⟨by rw [hll.out]; rfl, thn hb hb1⟩
end Go.Proofs.YtfjfjjcdlgdbcaaDoor
