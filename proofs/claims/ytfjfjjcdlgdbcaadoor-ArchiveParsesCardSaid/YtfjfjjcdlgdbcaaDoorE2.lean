/- numbers in digits -/
import Derived.Test.YtfjfjjcdlgdbcaaDoorE1
import Derived.Test.YtfjfjjcdlgdbcaaDoorEShelf
namespace Go.Proofs.YtfjfjjcdlgdbcaaDoor
open Go.RowKit

theorem dec_step (u0 u : Nat) (out : List UInt8) (h : Lib.decDigits u0 = Lib.decDigits u ++ out) :
    (u / 10 = 0 → Lib.decDigits u0 = UInt8.ofNat (48 + u % 10) :: out) ∧ (¬ u / 10 = 0 → Lib.decDigits u0 = Lib.decDigits (u / 10) ++ (UInt8.ofNat (48 + u % 10) :: out)) := by
  have e : Lib.decDigits u = if h : u < 10 then [UInt8.ofNat (48 + u)] else Lib.decDigits (u / 10) ++ [UInt8.ofNat (48 + u % 10)] := by rw [Lib.decDigits]
  rw [e] at h
  constructor
  · intro h0
    have : u < 10 := by omega
    rw [dif_pos this] at h
    rw [h, show u % 10 = u by omega]
    rfl
  · intro h0
    rw [dif_neg (by omega)] at h
    rw [h]
    simp
theorem dec_len (u : Nat) (h : u < 18446744073709551616) : (Lib.decDigits u).length ≤ 20 := by
  have key : ∀ (k u : Nat), u < 10 ^ (k + 1) → (Lib.decDigits u).length ≤ k + 1 := by
    intro k
    induction k with
    | zero =>
      intro u hu
      rw [Lib.decDigits, dif_pos (by simpa using hu)]
      simp
    | succ k ih =>
      intro u hu
      rw [Lib.decDigits]
      split
      · simp
      · have := ih (u / 10) (by rw [Nat.pow_succ] at hu; omega)
        simp only [List.length_append, List.length_cons, List.length_nil]
        omega
  exact key 19 u (by have : (10 : Nat) ^ 20 = 100000000000000000000 := by decide
                     omega)

theorem itoa_of (n : Int) (u0 : Nat) (h : u0 = n.natAbs) : Lib.itoa n = if n < 0 then 45 :: Lib.decDigits u0 else Lib.decDigits u0 := by
  subst h
  unfold Lib.itoa
  split
  · rfl
  · congr 1
    omega
theorem dig_byte (m : Nat) : ((UInt8.ofNat (48 + m % 10)).toNat : Int) = 48 + (m : Int) % 10 := by
  simp
  omega

set_option maxRecDepth 100000 in
set_option maxHeartbeats 2000000 in
theorem number_calls (n : Int) (w : World) (h0 : -9223372036854775808 ≤ n) (h1 : n ≤ 9223372036854775807) :
    Calls Tryd.prog 69 #[.int .i64 n] w fun e w' => e = .returned (.string (str (Lib.itoa n))) ∧ Below w.heap.size w w' := by
  by_cases hn : n < 0
  · have hit := Lib.hid (itoa_of n _ rfl)
    rw [if_pos hn] at hit
    have hwn : IntKind.u64.wrap n = n + 18446744073709551616 := by rw [IntKind.wrap_u64]; omega
    have hwm : IntKind.u64.wrap (-(n + 18446744073709551616)) = -n := by rw [IntKind.wrap_u64]; omega
    go_enter Tryd.func69, Tryd.ntmps69
    go_wp2
    go_loopw [3, 4] (fun u v wr => ∃ (m : Nat) (out : List UInt8), u = .int .u64 m ∧ m < 18446744073709551616 ∧ OwnB wr w.heap.size v out ∧ Lib.decDigits n.natAbs = Lib.decDigits m ++ out ∧ Below w.heap.size w wr) (fun u _ _ => (intOf u).toNat)
    case atStart => exact ⟨n.natAbs, [], by congr 1; omega, by omega, OwnB.nil _ _, by simp, Below.refl _ _⟩
    case round =>
      obtain ⟨m, out, rfl, hm, ho, he, hb⟩ := hrel
      have hbs := hb.size
      have hst := dec_step _ _ _ he
      have hln : out.length ≤ 20 := by
        have := dec_len n.natAbs (by omega)
        rw [he] at this
        simp only [List.length_append] at this
        omega
      have HD := Lib.hid (dig_byte m)
      have HE := Lib.hid he
      have HS := Lib.hid hst
      clear he hst
      generalize UInt8.ofNat (48 + m % 10) = dd at HD HS
      have hwr : IntKind.u64.wrap (48 + (m : Int) % 10) = 48 + (m : Int) % 10 := IntWalk.u64_in _ (by omega)
      have hw8 : IntKind.u8.wrap (48 + (m : Int) % 10) = 48 + (m : Int) % 10 := IntWalk.u8_in _ (by omega)
      have hrm : (m : Int).tmod 10 = (m : Int) % 10 := Int.tmod_eq_emod_of_nonneg (by omega)
      obtain ⟨A1, c1, rfl, hr1⟩ := ho.reads
      by_cases hz : m / 10 = 0
      · have hzi : (m : Int) / 10 = 0 := by omega
        have hd := Lib.hid (HS.out.1 hz)
        go_wp2_with (first | at_builtin; refine wpList_appendB _ rfl (.tmp 15) (.tmp 16) rfl w.heap.size _ [dd] out rfl _ _ _ rfl (OwnB.one _ _ _ (by rw [HD.out]) _ hbs) (hr1.alloc _) (by simp; omega) (by simp; omega) ?_; intro v2 w2 ho2 hg2 hb2; obtain ⟨A2, c2, rfl, hr2⟩ := ho2.reads | (at_builtin; refine wpList_appendB _ rfl (.tmp 24) (.tmp 25) rfl w.heap.size _ [45] (dd :: out) rfl _ _ _ rfl (OwnB.one _ _ _ (by decide) _ (by have := hb2.size; simp at this ⊢; omega)) (hr2.alloc _) (by simp; omega) (by have := hb2.size; simp at this ⊢; omega) ?_; intro v3 w3 ho3 hg3 hb3; obtain ⟨A3, c3, rfl, hr3⟩ := ho3.reads; have hcv := run_convertB (P := Tryd.prog) w3 22 5 9 Tryd.underlying22 Tryd.underlying5 Tryd.underlying9 hr3; simp only [List.cons_append, List.nil_append, List.length_cons] at hcv))
        go_ret
        exact ⟨by rw [hit.out, hd.out]; rfl, (al ((al hb _).trans hb2) _).trans hb3⟩
      · have hzi : ¬ (m : Int) / 10 = 0 := by omega
        have hzi2 : ((m : Int) / 10 == 0) = false := by simp; omega
        have hd := Lib.hid (HS.out.2 hz)
        have hqi : (m : Int).tdiv 10 = (m : Int) / 10 := Int.tdiv_eq_ediv_of_nonneg (by omega)
        go_wp2_with (at_builtin; refine wpList_appendB _ rfl (.tmp 15) (.tmp 16) rfl w.heap.size _ [dd] out rfl _ _ _ rfl (OwnB.one _ _ _ (by rw [HD.out]) _ hbs) (hr1.alloc _) (by simp; omega) (by simp; omega) ?_; intro v2 w2 ho2 hg2 hb2)
        go_roundw
        case rel => exact ⟨m / 10, _, by simp, by omega, by assumption, hd.out, (al hb _).trans hb2⟩
        case measure => simp [intOf]; omega
  · have hit := Lib.hid (itoa_of n _ rfl)
    rw [if_neg hn] at hit
    have hwn : IntKind.u64.wrap n = n := IntWalk.u64_in _ (by omega)
    go_enter Tryd.func69, Tryd.ntmps69
    go_wp2
    go_loopw [3, 4] (fun u v wr => ∃ (m : Nat) (out : List UInt8), u = .int .u64 m ∧ m < 18446744073709551616 ∧ OwnB wr w.heap.size v out ∧ Lib.decDigits n.natAbs = Lib.decDigits m ++ out ∧ Below w.heap.size w wr) (fun u _ _ => (intOf u).toNat)
    case atStart => exact ⟨n.natAbs, [], by congr 1; omega, by omega, OwnB.nil _ _, by simp, Below.refl _ _⟩
    case round =>
      obtain ⟨m, out, rfl, hm, ho, he, hb⟩ := hrel
      have hbs := hb.size
      have hst := dec_step _ _ _ he
      have hln : out.length ≤ 20 := by
        have := dec_len n.natAbs (by omega)
        rw [he] at this
        simp only [List.length_append] at this
        omega
      have HD := Lib.hid (dig_byte m)
      have HE := Lib.hid he
      have HS := Lib.hid hst
      clear he hst
      generalize UInt8.ofNat (48 + m % 10) = dd at HD HS
      have hwr : IntKind.u64.wrap (48 + (m : Int) % 10) = 48 + (m : Int) % 10 := IntWalk.u64_in _ (by omega)
      have hw8 : IntKind.u8.wrap (48 + (m : Int) % 10) = 48 + (m : Int) % 10 := IntWalk.u8_in _ (by omega)
      have hrm : (m : Int).tmod 10 = (m : Int) % 10 := Int.tmod_eq_emod_of_nonneg (by omega)
      obtain ⟨A1, c1, rfl, hr1⟩ := ho.reads
      by_cases hz : m / 10 = 0
      · have hzi : (m : Int) / 10 = 0 := by omega
        have hd := Lib.hid (HS.out.1 hz)
        go_wp2_with (at_builtin; refine wpList_appendB _ rfl (.tmp 15) (.tmp 16) rfl w.heap.size _ [dd] out rfl _ _ _ rfl (OwnB.one _ _ _ (by rw [HD.out]) _ hbs) (hr1.alloc _) (by simp; omega) (by simp; omega) ?_; intro v2 w2 ho2 hg2 hb2; obtain ⟨A2, c2, rfl, hr2⟩ := ho2.reads; have hcv := run_convertB (P := Tryd.prog) w2 22 5 9 Tryd.underlying22 Tryd.underlying5 Tryd.underlying9 hr2; simp only [List.cons_append, List.nil_append, List.length_cons] at hcv)
        go_ret
        exact ⟨by rw [hit.out, hd.out]; rfl, (al hb _).trans hb2⟩
      · have hzi : ¬ (m : Int) / 10 = 0 := by omega
        have hzi2 : ((m : Int) / 10 == 0) = false := by simp; omega
        have hd := Lib.hid (HS.out.2 hz)
        have hqi : (m : Int).tdiv 10 = (m : Int) / 10 := Int.tdiv_eq_ediv_of_nonneg (by omega)
        go_wp2_with (at_builtin; refine wpList_appendB _ rfl (.tmp 15) (.tmp 16) rfl w.heap.size _ [dd] out rfl _ _ _ rfl (OwnB.one _ _ _ (by rw [HD.out]) _ hbs) (hr1.alloc _) (by simp; omega) (by simp; omega) ?_; intro v2 w2 ho2 hg2 hb2)
        go_roundw
        case rel => exact ⟨m / 10, _, by simp, by omega, by assumption, hd.out, (al hb _).trans hb2⟩
        case measure => simp [intOf]; omega
end Go.Proofs.YtfjfjjcdlgdbcaaDoor
