/- the texts D36b2, D36b3, D36b4, D36c1, D36c2, D36c3, D36c4, D36Q, D36D, D36, D37, D35S, D38, D39P of this proof, one behind the other -/
import Derived.Test.YtfjfjjcdlgdbcaaDoorF20
namespace Go.Proofs.YtfjfjjcdlgdbcaaDoor
open Go.RowKit Go.Shelf
set_option linter.unusedSimpArgs false
set_option linter.unusedVariables false

set_option maxRecDepth 100000 in
set_option maxHeartbeats 4000000 in
theorem line_b2 (A : Option Addr) (c : Nat) (es : List EntP) (x : List UInt8) (B : Nat) (w : World) (h : OwnE w B (.slice A es.length c) es) (hB : B ≤ w.heap.size) (hx : x.length ≤ 1000000) (s1 s2 : List UInt8) (hws : splitL 32 x = [slotW, s1, s2]) (hno : lineO es x = none) (ka va : List UInt8) (bk bv : Bool) (hk : unhexW s1 = (ka, bk)) (hv : unhexW s2 = (va, bv)) (hes : 0 < es.length) (h1 : bk = true) (h2 : bv = false) :
    Calls Tryd.prog 62 #[.slice A es.length c, .string (str x)] w (LineEnd B w (lineO es x)) := by
  rw [hno]
  clear hno
  have hwd0 := words_ready x w hx
  rw [hws] at hwd0
  simp only [List.length_cons, List.length_nil, Nat.zero_add, Nat.reduceAdd] at hwd0
  have hwd := Lib.hid hwd0
  have l1 : s1.length ≤ 100000000 := by have := split_small x s1 (by rw [hws]; simp); omega
  have l2 : s2.length ≤ 100000000 := by have := split_small x s2 (by rw [hws]; simp); omega
  have hu1 := Lib.hid (fun W => unhex101_p s1 ka bk hk l1 W)
  have hu2 := Lib.hid (fun W => unhex101_p s2 va bv hv l2 W)
  have hesI : (0 : Int) < (es.length : Int) := by omega
  have hqa : ((str slotW).toList == [97, 99, 99, 111, 117, 110, 116]) = false := by rw [str_list]; decide
  have hqs : ((str slotW).toList == [115, 108, 111, 116]) = true := by rw [str_list]; decide
  subst h1 h2
  clear hwd0 h hws hk hv l1 l2
  generalize hsw : slotW = s0 at *
  clear hsw
  go_enter Tryd.func62, Tryd.ntmps62
  go_wp2_with (first | (go_at_call 100; refine hwd.out.mono ?_; rintro e w1 ⟨r, rc, rfl, hcells, hrlt, hrw, hlc, hcm, hb1⟩; have c0 : w1.cell? ⟨r, 0, none⟩ = some (.string (str s0)) := hcells 0 _ rfl; have c1 : w1.cell? ⟨r, 1, none⟩ = some (.string (str s1)) := hcells 1 _ rfl; have c2 : w1.cell? ⟨r, 2, none⟩ = some (.string (str s2)) := hcells 2 _ rfl; clear hcells) | (go_at_call 101; (with_reducible refine (hu1.out w1).mono ?_); rintro e w2 ⟨A1, k1, rfl, hr1, ho1, hb2⟩; have d2 : w2.cell? ⟨r, 2, none⟩ = some (.string (str s2)) := cell_below' hb2 c2) | (go_at_call 101; (with_reducible refine (hu2.out w2).mono ?_); rintro e w3 ⟨A2, k2, rfl, hr2, ho2, hb3⟩))
  go_ret2
  exact ⟨(thn (thn hb1 hb2) hb3).mono hB, _, rfl⟩
end Go.Proofs.YtfjfjjcdlgdbcaaDoor
namespace Go.Proofs.YtfjfjjcdlgdbcaaDoor
open Go.RowKit Go.Shelf
set_option linter.unusedSimpArgs false
set_option linter.unusedVariables false

set_option maxRecDepth 100000 in
set_option maxHeartbeats 4000000 in
theorem line_b3 (A : Option Addr) (c : Nat) (es : List EntP) (x : List UInt8) (B : Nat) (w : World) (h : OwnE w B (.slice A es.length c) es) (hB : B ≤ w.heap.size) (hx : x.length ≤ 1000000) (s1 s2 : List UInt8) (hws : splitL 32 x = [slotW, s1, s2]) (hno : lineO es x = none) (ka va : List UInt8) (bk bv : Bool) (hk : unhexW s1 = (ka, bk)) (hv : unhexW s2 = (va, bv)) (hes : 0 < es.length) (h1 : bk = true) (h2 : bv = true) (h3 : ka.length ≠ 32) :
    Calls Tryd.prog 62 #[.slice A es.length c, .string (str x)] w (LineEnd B w (lineO es x)) := by
  rw [hno]
  clear hno
  have hwd0 := words_ready x w hx
  rw [hws] at hwd0
  simp only [List.length_cons, List.length_nil, Nat.zero_add, Nat.reduceAdd] at hwd0
  have hwd := Lib.hid hwd0
  have l1 : s1.length ≤ 100000000 := by have := split_small x s1 (by rw [hws]; simp); omega
  have l2 : s2.length ≤ 100000000 := by have := split_small x s2 (by rw [hws]; simp); omega
  have hu1 := Lib.hid (fun W => unhex101_p s1 ka bk hk l1 W)
  have hu2 := Lib.hid (fun W => unhex101_p s2 va bv hv l2 W)
  have hesI : (0 : Int) < (es.length : Int) := by omega
  have hqa : ((str slotW).toList == [97, 99, 99, 111, 117, 110, 116]) = false := by rw [str_list]; decide
  have hqs : ((str slotW).toList == [115, 108, 111, 116]) = true := by rw [str_list]; decide
  subst h1 h2
  have hn1 : ¬ (ka.length : Int) = 32 := by omega
  have hn2 : ((ka.length : Int) != 32) = true := by simpa using hn1
  have hn3 : ((ka.length : Int) == 32) = false := by rw [beq_eq_false_iff_ne]; exact hn1
  clear hwd0 h hws hk hv l1 l2
  generalize hsw : slotW = s0 at *
  clear hsw
  go_enter Tryd.func62, Tryd.ntmps62
  go_wp2_with (first | (go_at_call 100; refine hwd.out.mono ?_; rintro e w1 ⟨r, rc, rfl, hcells, hrlt, hrw, hlc, hcm, hb1⟩; have c0 : w1.cell? ⟨r, 0, none⟩ = some (.string (str s0)) := hcells 0 _ rfl; have c1 : w1.cell? ⟨r, 1, none⟩ = some (.string (str s1)) := hcells 1 _ rfl; have c2 : w1.cell? ⟨r, 2, none⟩ = some (.string (str s2)) := hcells 2 _ rfl; clear hcells) | (go_at_call 101; (with_reducible refine (hu1.out w1).mono ?_); rintro e w2 ⟨A1, k1, rfl, hr1, ho1, hb2⟩; have d2 : w2.cell? ⟨r, 2, none⟩ = some (.string (str s2)) := cell_below' hb2 c2) | (go_at_call 101; (with_reducible refine (hu2.out w2).mono ?_); rintro e w3 ⟨A2, k2, rfl, hr2, ho2, hb3⟩))
  go_ret2
  exact ⟨(thn (thn hb1 hb2) hb3).mono hB, _, rfl⟩
end Go.Proofs.YtfjfjjcdlgdbcaaDoor
namespace Go.Proofs.YtfjfjjcdlgdbcaaDoor
open Go.RowKit Go.Shelf
set_option linter.unusedSimpArgs false
set_option linter.unusedVariables false

set_option maxRecDepth 100000 in
set_option maxHeartbeats 4000000 in
theorem line_b4 (A : Option Addr) (c : Nat) (es : List EntP) (x : List UInt8) (B : Nat) (w : World) (h : OwnE w B (.slice A es.length c) es) (hB : B ≤ w.heap.size) (hx : x.length ≤ 1000000) (s1 s2 : List UInt8) (hws : splitL 32 x = [slotW, s1, s2]) (hno : lineO es x = none) (ka va : List UInt8) (bk bv : Bool) (hk : unhexW s1 = (ka, bk)) (hv : unhexW s2 = (va, bv)) (hes : 0 < es.length) (h1 : bk = true) (h2 : bv = true) (h3 : ka.length = 32) (h4 : va.length ≠ 32) :
    Calls Tryd.prog 62 #[.slice A es.length c, .string (str x)] w (LineEnd B w (lineO es x)) := by
  rw [hno]
  clear hno
  have hwd0 := words_ready x w hx
  rw [hws] at hwd0
  simp only [List.length_cons, List.length_nil, Nat.zero_add, Nat.reduceAdd] at hwd0
  have hwd := Lib.hid hwd0
  have l1 : s1.length ≤ 100000000 := by have := split_small x s1 (by rw [hws]; simp); omega
  have l2 : s2.length ≤ 100000000 := by have := split_small x s2 (by rw [hws]; simp); omega
  have hu1 := Lib.hid (fun W => unhex101_p s1 ka bk hk l1 W)
  have hu2 := Lib.hid (fun W => unhex101_p s2 va bv hv l2 W)
  have hesI : (0 : Int) < (es.length : Int) := by omega
  have hqa : ((str slotW).toList == [97, 99, 99, 111, 117, 110, 116]) = false := by rw [str_list]; decide
  have hqs : ((str slotW).toList == [115, 108, 111, 116]) = true := by rw [str_list]; decide
  subst h1 h2
  have hk1 : (ka.length : Int) = 32 := by omega
  have hn1 : ¬ (va.length : Int) = 32 := by omega
  have hn2 : ((va.length : Int) != 32) = true := by simpa using hn1
  have hn3 : ((va.length : Int) == 32) = false := by rw [beq_eq_false_iff_ne]; exact hn1
  clear hwd0 h hws hk hv l1 l2
  generalize hsw : slotW = s0 at *
  clear hsw
  go_enter Tryd.func62, Tryd.ntmps62
  go_wp2_with (first | (go_at_call 100; refine hwd.out.mono ?_; rintro e w1 ⟨r, rc, rfl, hcells, hrlt, hrw, hlc, hcm, hb1⟩; have c0 : w1.cell? ⟨r, 0, none⟩ = some (.string (str s0)) := hcells 0 _ rfl; have c1 : w1.cell? ⟨r, 1, none⟩ = some (.string (str s1)) := hcells 1 _ rfl; have c2 : w1.cell? ⟨r, 2, none⟩ = some (.string (str s2)) := hcells 2 _ rfl; clear hcells) | (go_at_call 101; (with_reducible refine (hu1.out w1).mono ?_); rintro e w2 ⟨A1, k1, rfl, hr1, ho1, hb2⟩; have d2 : w2.cell? ⟨r, 2, none⟩ = some (.string (str s2)) := cell_below' hb2 c2) | (go_at_call 101; (with_reducible refine (hu2.out w2).mono ?_); rintro e w3 ⟨A2, k2, rfl, hr2, ho2, hb3⟩))
  go_ret2
  exact ⟨(thn (thn hb1 hb2) hb3).mono hB, _, rfl⟩
end Go.Proofs.YtfjfjjcdlgdbcaaDoor
namespace Go.Proofs.YtfjfjjcdlgdbcaaDoor
open Go.RowKit Go.Shelf
set_option linter.unusedSimpArgs false
set_option linter.unusedVariables false

set_option maxRecDepth 100000 in
set_option maxHeartbeats 4000000 in
theorem line_c1 (A : Option Addr) (c : Nat) (es : List EntP) (x : List UInt8) (B : Nat) (w : World) (h : OwnE w B (.slice A es.length c) es) (hB : B ≤ w.heap.size) (hx : x.length ≤ 1000000) (w0 : List UInt8) (nl : Nat) (h0 : (splitL 32 x)[0]? = some w0) (hnl : (splitL 32 x).length = nl) (hno : lineO es x = none) (ha : w0 = accW) (hn : nl ≠ 5) :
    Calls Tryd.prog 62 #[.slice A es.length c, .string (str x)] w (LineEnd B w (lineO es x)) := by
  rw [hno]
  clear hno
  have hwd0 := words_ready x w hx
  have hpos : 0 < nl := by
    have := (List.getElem?_eq_some_iff.1 h0).1
    omega
  have hposI : (0 : Int) < (nl : Int) := by omega
  have hqa : ((str w0).toList == [97, 99, 99, 111, 117, 110, 116]) = true := by rw [str_list, ha]; decide
  have hqs : ((str w0).toList == [115, 108, 111, 116]) = false := by rw [str_list, ha]; decide
  have hm1 : ¬ (nl : Int) = 5 := by omega
  have hm2 : ((nl : Int) == 5) = false := by rw [beq_eq_false_iff_ne]; exact hm1
  have hm3 : ¬ nl = 5 := by omega
  rw [hnl] at hwd0
  have hwd := Lib.hid hwd0
  have H0 := Lib.hid h0
  clear hwd0 h hnl h0 ha hn
  go_enter Tryd.func62, Tryd.ntmps62
  go_wp2_with (go_at_call 100; refine hwd.out.mono ?_; rintro e w1 ⟨r, rc, rfl, hcells, hrlt, hrw, hlc, hcm, hb1⟩; have c0 : w1.cell? ⟨r, 0, none⟩ = some (.string (str w0)) := hcells 0 _ H0.out; clear hcells)
  go_ret2
  exact ⟨hb1.mono hB, _, rfl⟩
end Go.Proofs.YtfjfjjcdlgdbcaaDoor
namespace Go.Proofs.YtfjfjjcdlgdbcaaDoor
open Go.RowKit Go.Shelf
set_option linter.unusedSimpArgs false
set_option linter.unusedVariables false

set_option maxRecDepth 100000 in
set_option maxHeartbeats 4000000 in
theorem line_c2 (A : Option Addr) (c : Nat) (es : List EntP) (x : List UInt8) (B : Nat) (w : World) (h : OwnE w B (.slice A es.length c) es) (hB : B ≤ w.heap.size) (hx : x.length ≤ 1000000) (w0 : List UInt8) (nl : Nat) (h0 : (splitL 32 x)[0]? = some w0) (hnl : (splitL 32 x).length = nl) (hno : lineO es x = none) (ha : w0 ≠ accW) (hs : w0 ≠ slotW) :
    Calls Tryd.prog 62 #[.slice A es.length c, .string (str x)] w (LineEnd B w (lineO es x)) := by
  rw [hno]
  clear hno
  have hwd0 := words_ready x w hx
  have hpos : 0 < nl := by
    have := (List.getElem?_eq_some_iff.1 h0).1
    omega
  have hposI : (0 : Int) < (nl : Int) := by omega
  have hqa : ((str w0).toList == [97, 99, 99, 111, 117, 110, 116]) = false := by rw [str_list, beq_eq_false_iff_ne]; exact ha
  have hqs : ((str w0).toList == [115, 108, 111, 116]) = false := by rw [str_list, beq_eq_false_iff_ne]; exact hs
  rw [hnl] at hwd0
  have hwd := Lib.hid hwd0
  have H0 := Lib.hid h0
  clear hwd0 h hnl h0 ha hs
  go_enter Tryd.func62, Tryd.ntmps62
  go_wp2_with (go_at_call 100; refine hwd.out.mono ?_; rintro e w1 ⟨r, rc, rfl, hcells, hrlt, hrw, hlc, hcm, hb1⟩; have c0 : w1.cell? ⟨r, 0, none⟩ = some (.string (str w0)) := hcells 0 _ H0.out; clear hcells)
  go_ret2
  exact ⟨hb1.mono hB, _, rfl⟩
end Go.Proofs.YtfjfjjcdlgdbcaaDoor
namespace Go.Proofs.YtfjfjjcdlgdbcaaDoor
open Go.RowKit Go.Shelf
set_option linter.unusedSimpArgs false
set_option linter.unusedVariables false

set_option maxRecDepth 100000 in
set_option maxHeartbeats 4000000 in
theorem line_c3 (A : Option Addr) (c : Nat) (es : List EntP) (x : List UInt8) (B : Nat) (w : World) (h : OwnE w B (.slice A es.length c) es) (hB : B ≤ w.heap.size) (hx : x.length ≤ 1000000) (w0 : List UInt8) (nl : Nat) (h0 : (splitL 32 x)[0]? = some w0) (hnl : (splitL 32 x).length = nl) (hno : lineO es x = none) (hs : w0 = slotW) (hn : nl ≠ 3) :
    Calls Tryd.prog 62 #[.slice A es.length c, .string (str x)] w (LineEnd B w (lineO es x)) := by
  rw [hno]
  clear hno
  have hwd0 := words_ready x w hx
  have hpos : 0 < nl := by
    have := (List.getElem?_eq_some_iff.1 h0).1
    omega
  have hposI : (0 : Int) < (nl : Int) := by omega
  have hqa : ((str w0).toList == [97, 99, 99, 111, 117, 110, 116]) = false := by rw [str_list, hs]; decide
  have hqs : ((str w0).toList == [115, 108, 111, 116]) = true := by rw [str_list, hs]; decide
  have hm1 : ¬ (nl : Int) = 3 := by omega
  have hm2 : ((nl : Int) == 3) = false := by rw [beq_eq_false_iff_ne]; exact hm1
  have hm3 : ¬ nl = 3 := by omega
  rw [hnl] at hwd0
  have hwd := Lib.hid hwd0
  have H0 := Lib.hid h0
  clear hwd0 h hnl h0 hs hn
  go_enter Tryd.func62, Tryd.ntmps62
  go_wp2_with (go_at_call 100; refine hwd.out.mono ?_; rintro e w1 ⟨r, rc, rfl, hcells, hrlt, hrw, hlc, hcm, hb1⟩; have c0 : w1.cell? ⟨r, 0, none⟩ = some (.string (str w0)) := hcells 0 _ H0.out; clear hcells)
  go_ret2
  exact ⟨hb1.mono hB, _, rfl⟩
end Go.Proofs.YtfjfjjcdlgdbcaaDoor
namespace Go.Proofs.YtfjfjjcdlgdbcaaDoor
open Go.RowKit Go.Shelf
set_option linter.unusedSimpArgs false
set_option linter.unusedVariables false

set_option maxRecDepth 100000 in
set_option maxHeartbeats 4000000 in
theorem line_c4 (A : Option Addr) (c : Nat) (es : List EntP) (x : List UInt8) (B : Nat) (w : World) (h : OwnE w B (.slice A es.length c) es) (hB : B ≤ w.heap.size) (hx : x.length ≤ 1000000) (w0 : List UInt8) (nl : Nat) (h0 : (splitL 32 x)[0]? = some w0) (hnl : (splitL 32 x).length = nl) (hno : lineO es x = none) (hs : w0 = slotW) (hn : nl = 3) (he : es.length = 0) :
    Calls Tryd.prog 62 #[.slice A es.length c, .string (str x)] w (LineEnd B w (lineO es x)) := by
  rw [hno]
  clear hno
  have hwd0 := words_ready x w hx
  have hpos : 0 < nl := by
    have := (List.getElem?_eq_some_iff.1 h0).1
    omega
  have hposI : (0 : Int) < (nl : Int) := by omega
  have hqa : ((str w0).toList == [97, 99, 99, 111, 117, 110, 116]) = false := by rw [str_list, hs]; decide
  have hqs : ((str w0).toList == [115, 108, 111, 116]) = true := by rw [str_list, hs]; decide
  subst hn
  have hee : (es.length : Int) = 0 := by omega
  rw [hnl] at hwd0
  have hwd := Lib.hid hwd0
  have H0 := Lib.hid h0
  clear hwd0 h hnl h0 hs he
  go_enter Tryd.func62, Tryd.ntmps62
  go_wp2_with (go_at_call 100; refine hwd.out.mono ?_; rintro e w1 ⟨r, rc, rfl, hcells, hrlt, hrw, hlc, hcm, hb1⟩; have c0 : w1.cell? ⟨r, 0, none⟩ = some (.string (str w0)) := hcells 0 _ H0.out; clear hcells)
  go_ret2
  exact ⟨hb1.mono hB, _, rfl⟩
end Go.Proofs.YtfjfjjcdlgdbcaaDoor
namespace Go.Proofs.YtfjfjjcdlgdbcaaDoor
open Go.RowKit Go.Shelf
set_option linter.unusedSimpArgs false
set_option linter.unusedVariables false

theorem copy_key (w : World) (h : List UInt8 × List UInt8) (xs : List UInt8) (A : Option Addr) (c : Nat) (h1 : h.1.length = 32) (h2 : h.2.length = 32) (hr : RdB w A 32 c xs) :
    (Builtin.copy_ #[22, 22] 3 #[.slice (some ⟨w.heap.size, 0, none⟩) 32 32, .slice A 32 c]).run Tryd.prog (w.alloc (.cells (hk h).toArray 95)) = .ok (.int .i64 32) (w.alloc (.cells (hk (xs, h.2)).toArray 95)) := by
  have hx := hr.1
  have hsz : (hk h).toArray.size = 64 := by rw [List.size_toArray, hk_length h ⟨h1, h2⟩]
  rw [run_copyB (P := Tryd.prog) _ 22 22 3 5 _ _ 32 32 A 32 c xs Tryd.underlying22 (by kernel_rfl) (hr.alloc _) (roomAt_alloc_at _ _ _ _ _ _ rfl (by rw [hsz]; decide)),
    List.take_of_length_le (by omega), setCells_alloc_at _ _ _ _ _ _ rfl (by rw [hsz, bvs_length]; omega), ovw_hkey _ _ h1 hx]
  rfl
theorem copy_val (w : World) (h : List UInt8 × List UInt8) (xs : List UInt8) (A : Option Addr) (c : Nat) (h1 : h.1.length = 32) (h2 : h.2.length = 32) (hr : RdB w A 32 c xs) :
    (Builtin.copy_ #[22, 22] 3 #[.slice (some ⟨w.heap.size, 32, none⟩) 32 32, .slice A 32 c]).run Tryd.prog (w.alloc (.cells (hk h).toArray 95)) = .ok (.int .i64 32) (w.alloc (.cells (hk (h.1, xs)).toArray 95)) := by
  have hx := hr.1
  have hsz : (hk h).toArray.size = 64 := by rw [List.size_toArray, hk_length h ⟨h1, h2⟩]
  rw [run_copyB (P := Tryd.prog) _ 22 22 3 5 _ _ 32 32 A 32 c xs Tryd.underlying22 (by kernel_rfl) (hr.alloc _) (roomAt_alloc_at _ _ _ _ _ _ rfl (by rw [hsz]; decide)),
    List.take_of_length_le (by omega), setCells_alloc_at _ _ _ _ _ _ rfl (by rw [hsz, bvs_length]; omega), ovw_hval _ _ h1 h2 hx]
  rfl
theorem zH_l : zH.1.length = 32 ∧ zH.2.length = 32 := by unfold zH; decide
/-- a slot is laid behind the last account's -/
theorem slot_push {w : World} {B : Nat} {A : Option Addr} {c : Nat} {es : List EntP} (hO : OwnE w B (.slice A es.length c) es) (hB : B ≤ w.heap.size) (hne : es ≠ []) (hsm : ∀ e ∈ es, e.slots.length ≤ 100000000) (h : List UInt8 × List UInt8) (hf : h.1.length = 32 ∧ h.2.length = 32) :
    ∃ (n : Nat) (e : EntP) (g cap : Nat) (sv : Value), es.length = n + 1 ∧ es.getLast? = some e ∧ (Value.slice A es.length c) = .slice (some ⟨g, 0, none⟩) (n + 1) cap ∧ B ≤ g ∧ g < w.heap.size ∧ w.cell? ⟨g, n * 55 + 54, none⟩ = some sv ∧
      ∀ w4, Below w.heap.size w w4 → ∃ A2 m2 c2 w5, (Builtin.append_ #[77, 77] 77 #[sv, .slice (some ⟨w4.heap.size + 1, 0, none⟩) 1 1]).run Tryd.prog ((w4.alloc (.cells (hk h).toArray 95)).alloc (.cells (hk h).toArray 95)).drew = .ok (.slice A2 m2 c2) w5 ∧
        w5.cell? ⟨g, n * 55 + 54, none⟩ = some sv ∧ w5.frozen? ⟨g, n * 55 + 54, none⟩ = false ∧ CellsAt w5 w4.heap.size 0 (hk h) ∧
        OwnE (w5.setCell ⟨g, n * 55 + 54, none⟩ (.slice A2 m2 c2)) B (.slice (some ⟨g, 0, none⟩) (n + 1) cap) (es.dropLast ++ [{ e with slots := e.slots ++ [h] }]) ∧ Below B w (w5.setCell ⟨g, n * 55 + 54, none⟩ (.slice A2 m2 c2)) := by
  obtain ⟨init, p, g, cap, hes, hv, hP, hcg, hfg, hBg, hgl, hle, hcm⟩ := last_ent hO hne
  have hl2 : es.getLast? = some p.1 := by rw [hes]; simp
  have hdl : es.dropLast = init.map (·.1) := by rw [hes]; simp
  have hpm : p.1 ∈ es := by rw [hes]; simp
  refine ⟨init.length, p.1, g, cap, p.2.2, by rw [hes]; simp, hl2, hv, hBg, hgl, hcg, fun w4 hb4 => ?_⟩
  rw [hv] at hP
  have hb6 : Below w.heap.size w ((w4.alloc (.cells (hk h).toArray 95)).alloc (.cells (hk h).toArray 95)).drew := (al (al hb4 _) _).drew
  have hN : Blk ((w4.alloc (.cells (hk h).toArray 95)).alloc (.cells (hk h).toArray 95)).drew (w4.heap.size + 1) 95 (hk h).toArray := by
    have := Blk.new (w4.alloc (.cells (hk h).toArray 95)) 95 (hk h).toArray
    rw [World.size_alloc] at this
    exact this
  have hM : Blk ((w4.alloc (.cells (hk h).toArray 95)).alloc (.cells (hk h).toArray 95)).drew w4.heap.size 95 (hk h).toArray := (Blk.new w4 95 (hk h).toArray).alloc _
  have hp := hP.ents p (by simp)
  obtain ⟨s2, w5, hrun, r2, rB, rc, rf, ⟨A2, m2, c2, hs2⟩, hP6⟩ := slot_run hP hB hf (hsm p.1 hpm) (KeepsLo.below hb6) hN
  subst hs2
  have hlt4 := hM.lt
  have hM5 : Blk w5 w4.heap.size 95 (hk h).toArray := (r2.block _ hlt4 (fun e1 => by
    have := (hp.slots.lt _ e1.symm).2
    have := hb4.size
    omega)).trans hM
  refine ⟨A2, m2, c2, w5, hrun, rc, rf, cellsAt_blk hM5, ⟨_, by rw [hdl]; simp, hP6⟩, ?_⟩
  refine Below.setCell ⟨r2.os.trans hb6.os, r2.tape.trans hb6.tape, r2.output.trans hb6.output, Nat.le_trans hb6.size r2.size, fun k hk => ?_⟩ (by show B ≤ g; exact hBg) _
  exact (r2.block k (by have := hb6.size; omega) (fun e1 => by have := rB k e1.symm; omega)).trans (hb6.block k (by omega))

end Go.Proofs.YtfjfjjcdlgdbcaaDoor
namespace Go.Proofs.YtfjfjjcdlgdbcaaDoor
open Go.RowKit Go.Shelf
set_option linter.unusedSimpArgs false
set_option linter.unusedVariables false

set_option maxRecDepth 100000 in
set_option maxHeartbeats 2000000 in
theorem line_b5 (A : Option Addr) (c : Nat) (es : List EntP) (x : List UInt8) (B : Nat) (w : World) (h : OwnE w B (.slice A es.length c) es) (hB : B ≤ w.heap.size) (hx : x.length ≤ 1000000) (s1 s2 : List UInt8) (hws : splitL 32 x = [slotW, s1, s2]) (ka va : List UInt8) (hk1 : unhexW s1 = (ka, true)) (hv : unhexW s2 = (va, true)) (hes : 0 < es.length) (h3 : ka.length = 32) (h4 : va.length = 32)
    (hm : es.length ≤ 100000000) (hsm : ∀ e ∈ es, e.slots.length ≤ 100000000) (r : Option (List EntP)) (hr : ∀ e, es.getLast? = some e → r = if checkB (es.dropLast ++ [{ e with slots := e.slots ++ [(ka, va)] }]) = true then some (es.dropLast ++ [{ e with slots := e.slots ++ [(ka, va)] }]) else none) :
    Calls Tryd.prog 62 #[.slice A es.length c, .string (str x)] w (LineEnd B w r) := by
  have hwd0 := words_ready x w hx
  rw [hws] at hwd0
  simp only [List.length_cons, List.length_nil, Nat.zero_add, Nat.reduceAdd] at hwd0
  have hwd := Lib.hid hwd0
  have l1 : s1.length ≤ 100000000 := by have := split_small x s1 (by rw [hws]; simp); omega
  have l2 : s2.length ≤ 100000000 := by have := split_small x s2 (by rw [hws]; simp); omega
  have hu1 := Lib.hid (fun W => unhex101_p s1 ka true hk1 l1 W)
  have hu2 := Lib.hid (fun W => unhex101_p s2 va true hv l2 W)
  have hqa : ((str slotW).toList == [97, 99, 99, 111, 117, 110, 116]) = false := by rw [str_list]; decide
  have hqs : ((str slotW).toList == [115, 108, 111, 116]) = true := by rw [str_list]; decide
  have hff : (ka, va).1.length = 32 ∧ (ka, va).2.length = 32 := ⟨h3, h4⟩
  obtain ⟨n, e, g, cap, sv, hn, hla, hval, hBg, hgl, hcg, hpush⟩ := slot_push h hB (by intro e0; rw [e0] at hes; cases hes) hsm (ka, va) hff
  rw [hn] at hval ⊢
  injection hval with hv1 _ hv3
  subst hv1 hv3
  have hr' := hr e hla
  obtain ⟨es', hes'⟩ : ∃ es', es.dropLast ++ [{ e with slots := e.slots ++ [(ka, va)] }] = es' := ⟨_, rfl⟩
  rw [hes'] at hr'
  have hl' : es'.length = n + 1 := by rw [← hes', List.length_append, List.length_dropLast, hn]; simp
  have HPUSH : Hid (∀ w4, Below w.heap.size w w4 → ∃ A2 m2 c2 w5, (Builtin.append_ #[77, 77] 77 #[sv, .slice (some ⟨w4.heap.size + 1, 0, none⟩) 1 1]).run Tryd.prog ((w4.alloc (.cells (hk (ka, va)).toArray 95)).alloc (.cells (hk (ka, va)).toArray 95)).drew = .ok (.slice A2 m2 c2) w5 ∧
        w5.cell? ⟨g, n * 55 + 54, none⟩ = some sv ∧ w5.frozen? ⟨g, n * 55 + 54, none⟩ = false ∧ CellsAt w5 w4.heap.size 0 (hk (ka, va)) ∧
        OwnE (w5.setCell ⟨g, n * 55 + 54, none⟩ (.slice A2 m2 c2)) B (.slice (some ⟨g, 0, none⟩) (n + 1) c) es' ∧ Below B w (w5.setCell ⟨g, n * 55 + 54, none⟩ (.slice A2 m2 c2))) := by
    intro w4 hb4
    rw [← hes']
    exact hpush w4 hb4
  have HL' := Lib.hid hl'
  have HR := Lib.hid hr'
  have HB := Lib.hid hB
  have HCG := Lib.hid hcg
  have hnI : (0 : Int) < (n : Int) + 1 := by omega
  have hn0 : (0 : Int) ≤ (n : Int) := by omega
  have hn1 : (n : Int) ≤ 100000000 := by omega
  have hgI : (n : Int) < (n : Int) + 1 := by omega
  have hgJ : ¬ (n : Int) + 1 ≤ (n : Int) := by omega
  have htn : ((n : Int)).toNat = n := by omega
  have hK1 := Lib.hid h3
  have hV1 := Lib.hid h4
  have TS : Hid (∀ h : List UInt8 × List UInt8, h.1.length = 32 ∧ h.2.length = 32 → AggT Tryd.prog 95 (hk h).toArray.size) := fun h hh => by rw [List.size_toArray, hk_length h hh]; exact Tryd.agg95
  have TZ : Hid (∀ h : List UInt8 × List UInt8, h.1.length = 32 ∧ h.2.length = 32 → (hk h).toArray.size = 64) := fun h hh => by rw [List.size_toArray, hk_length h hh]
  have hi95 : Hid ((Tryd.prog.info? 95).map (·.size) = some (hk (ka, va)).length) := by rw [hk_length (ka, va) hff]; exact Tryd.agg95.2
  have HFF := Lib.hid hff
  have HZL0 := zH_l
  have HB95 : Hid (∀ {ops : Array Oper} {rest : List Oper} {o : Oper} {a : Act} {w : World} {Q : Exit → Act → World → Prop}, o.guard = none → o.op = .build 95 #[] → wpList Tryd.prog ops Q rest (a.put o.dst (.agg (hk zH).toArray)) w → wpList Tryd.prog ops Q (o :: rest) a w) := fun h1 h2 h3 => wpList_build95 h1 h2 h3
  generalize zH = h0 at *
  have HZL := Lib.hid HZL0
  clear HZL0
  clear hwd0 h hws hk1 hv l1 l2 hpush hes' hl' hr' hr hB hcg hla hn hes hm hsm hff
  rw [h3] at hu1
  rw [h4] at hu2
  clear h3 h4
  generalize hsw : slotW = s0 at *
  clear hsw
  go_enter Tryd.func62, Tryd.ntmps62
  go_upto_region 28 with (first | (go_at_call 100; refine hwd.out.mono ?_; rintro e w1 ⟨r, rc, rfl, hcells, hrlt, hrw, hlc, hcm, hb1⟩; have c0 : w1.cell? ⟨r, 0, none⟩ = some (.string (str s0)) := hcells 0 _ rfl; have c1 : w1.cell? ⟨r, 1, none⟩ = some (.string (str s1)) := hcells 1 _ rfl; have c2 : w1.cell? ⟨r, 2, none⟩ = some (.string (str s2)) := hcells 2 _ rfl; clear hcells) | (go_at_call 101; (with_reducible refine (hu1.out w1).mono ?_); rintro e w2 ⟨A1, k1, rfl, hr1, ho1, hb2⟩; have d2 : w2.cell? ⟨r, 2, none⟩ = some (.string (str s2)) := cell_below' hb2 c2) | (go_at_call 101; (with_reducible refine (hu2.out w2).mono ?_); rintro e w3 ⟨A2, k2, rfl, hr2, ho2, hb3⟩))
  go_upto_region 29 with (first | (refine HB95.out rfl rfl ?_) | (refine wpList_storeNew rfl rfl 95 (.tmp 21) _ rfl _ _ rfl (hk h0).toArray rfl (TS.out h0 HZL.out) (by rw [TZ.out h0 HZL.out]; rfl) (hk_one h0) ?_))
  have hcp1 := copy_key w3 h0 ka A1 k1 HZL.out.1 HZL.out.2 (hr1.below hb3)
  have hcp2 := copy_val w3 (ka, h0.2) va A2 k2 HFF.out.1 HZL.out.2 hr2
  go_upto_region 32 with fail
  clear hcp1 hcp2
  have hbw : Below w.heap.size w w3 := thn (thn hb1 hb2) hb3
  obtain ⟨A5, m5, c5, w5, hrun0, rc5, rf5, hC5, hO6, hB6⟩ := HPUSH.out w3 hbw
  have hrun := Lib.hid hrun0
  have HO6 := Lib.hid hO6
  have HB6 := Lib.hid hB6
  have HC5 := Lib.hid hC5
  have hcg1 : (w3.alloc (.cells (hk (ka, va)).toArray 95)).cell? ⟨g, n * 55 + 54, none⟩ = some sv := cell_below' (al hbw _) HCG.out
  have hcg2 : ((w3.alloc (.cells (hk (ka, va)).toArray 95)).alloc (.cells (hk (ka, va)).toArray 95)).cell? ⟨g, n * 55 + 54, none⟩ = some sv := cell_below' (al (al hbw _) _) HCG.out
  have hgw : g ≠ w3.heap.size := by have := hbw.size; omega
  have HCA : Hid (∀ W, Below (w3.alloc (.cells (hk (ka, va)).toArray 95)).heap.size (w3.alloc (.cells (hk (ka, va)).toArray 95)) W → CellsAt W w3.heap.size 0 (hk (ka, va))) := fun W hW => (cellsAt_blk (Blk.new w3 95 (hk (ka, va)).toArray)).below hW
  have HZh := TZ.out (ka, va) HFF.out
  clear hrun0 hO6 hB6 hC5 hr1 hr2 ho1 ho2 c0 c1 c2 d2 hb2 hb3 hb1
  refine wp_region_held_drew (S := fun Wx => CellsAt Wx w3.heap.size 0 (hk (ka, va))) (by kernel_rfl) (HCA.out _ (drawn_below' _ _ 1 (Nat.le_refl _))) (fun hHeld => ?_)
  refine wpAnyH_take (i := 0) (v := .pointer (some ⟨g, n * 55, none⟩)) rfl (by kernel_rfl) (by kernel_rfl) (by kernel_rfl) (fun _ _ _ h => h) (.inl ⟨by rfl, fun W hS => by go_simp⟩) hHeld ?_
  simp only [Act.put, List.setIfInBounds_toArray, List.set_cons_zero, List.set_cons_succ, List.getElem_toArray, List.getElem_cons_succ, List.getElem_cons_zero]
  refine wpAnyH_take (i := 1) (v := .pointer (some ⟨g, n * 55, none⟩)) rfl (by kernel_rfl) (by kernel_rfl) (by kernel_rfl) (fun _ _ _ h => h) (.inl ⟨by rfl, fun W hS => by go_simp⟩) hHeld ?_
  simp only [Act.put, List.setIfInBounds_toArray, List.set_cons_zero, List.set_cons_succ, List.getElem_toArray, List.getElem_cons_succ, List.getElem_cons_zero]
  refine wpAnyH_take (i := 2) (v := .pointer (some ⟨g, n * 55, none⟩)) rfl (by kernel_rfl) (by kernel_rfl) (by kernel_rfl) (fun _ _ _ h => h) (.inl ⟨by rfl, fun W hS => by go_simp⟩) hHeld ?_
  simp only [Act.put, List.setIfInBounds_toArray, List.set_cons_zero, List.set_cons_succ, List.getElem_toArray, List.getElem_cons_succ, List.getElem_cons_zero]
  refine wpAnyH_take (i := 3) (v := .pointer (some ⟨g, n * 55 + 54, none⟩)) rfl (by kernel_rfl) (by kernel_rfl) (by kernel_rfl) (fun _ _ _ h => h) (.inl ⟨by rfl, fun W hS => by go_simp⟩) hHeld ?_
  simp only [Act.put, List.setIfInBounds_toArray, List.set_cons_zero, List.set_cons_succ, List.getElem_toArray, List.getElem_cons_succ, List.getElem_cons_zero]
  refine wpAnyH_take (i := 5) (v := .agg (hk (ka, va)).toArray) rfl (by kernel_rfl) (by kernel_rfl) (by kernel_rfl) (fun _ _ _ h => h) (yieldsIf_load_mid (by rfl) 95 _ rfl w3.heap.size 0 rfl (hk (ka, va)) _ (fun W hS => hS) Tryd.underlying95 rfl hi95.out) hHeld ?_
  simp only [Act.put, List.setIfInBounds_toArray, List.set_cons_zero, List.set_cons_succ, List.getElem_toArray, List.getElem_cons_succ, List.getElem_cons_zero]
  refine wpAnyH_ready (rs := [4, 6]) (by kernel_rfl) (by simp) ?_
  refine AllReadyH.cons rfl (fun K hK => ?o1) (AllReadyH.cons rfl (fun K hK => ?o2) AllReadyH.nil)
  case' o1 =>
    go_simp
    refine hK.out _ _ hHeld (fun hHeld => ?_)
    clear hK K
    refine wpAnyH_ready (rs := [6]) (by kernel_rfl) (by simp) ?_
    refine AllReadyH.cons rfl (fun K hK => ?_) AllReadyH.nil
    refine armH_buildSlice1 _ 77 95 64 rfl (.tmp 187) rfl (hk (ka, va)).toArray rfl Tryd.underlying77 Tryd.agg95 (by kernel_rfl) HZh (by omega) (by omega) ?_
    simp only [Act.put, List.setIfInBounds_toArray, List.set_cons_zero, List.set_cons_succ, List.getElem_toArray, List.getElem_cons_succ, List.getElem_cons_zero, World.size_drew, World.size_alloc, World.alloc_drew]
    refine hK.out _ _ (HCA.out _ (al (Below.refl _ _) _).drew) (fun hHeld => ?_)
    clear hK K
  case' o2 =>
    refine armH_buildSlice1 _ 77 95 64 rfl (.tmp 187) rfl (hk (ka, va)).toArray rfl Tryd.underlying77 Tryd.agg95 (by kernel_rfl) HZh (by omega) (by omega) ?_
    simp only [Act.put, List.setIfInBounds_toArray, List.set_cons_zero, List.set_cons_succ, List.getElem_toArray, List.getElem_cons_succ, List.getElem_cons_zero, World.size_drew, World.size_alloc, World.alloc_drew]
    refine hK.out _ _ (HCA.out _ (al (Below.refl _ _) _).drew) (fun hHeld => ?_)
    clear hK K
    refine wpAnyH_ready (rs := [4]) (by kernel_rfl) (by simp) ?_
    refine AllReadyH.cons rfl (fun K hK => ?_) AllReadyH.nil
    go_simp
    refine hK.out _ _ hHeld (fun hHeld => ?_)
    clear hK K
  all_goals
    refine wpAnyH_ready (rs := [7]) (by kernel_rfl) (by simp) ?_
    refine AllReadyH.cons rfl (fun K hK => ?_) AllReadyH.nil
    refine armH_runT _ 77 rfl (.tmp 186) (.tmp 188) rfl rfl _ _ rfl rfl _ _ hrun.out ?_
    simp only [Act.put, List.setIfInBounds_toArray, List.set_cons_zero, List.set_cons_succ, List.getElem_toArray, List.getElem_cons_succ, List.getElem_cons_zero]
    refine hK.out _ _ HC5.out (fun hHeld => ?_)
    clear hK K
    refine wpAnyH_take (i := 8) (v := .pointer (some ⟨g, n * 55, none⟩)) rfl (by kernel_rfl) (by kernel_rfl) (by kernel_rfl) (fun _ _ _ h => h) (.inl ⟨by rfl, fun W hS => by go_simp⟩) hHeld ?_
    simp only [Act.put, List.setIfInBounds_toArray, List.set_cons_zero, List.set_cons_succ, List.getElem_toArray, List.getElem_cons_succ, List.getElem_cons_zero]
    refine wpAnyH_take (i := 9) (v := .pointer (some ⟨g, n * 55 + 54, none⟩)) rfl (by kernel_rfl) (by kernel_rfl) (by kernel_rfl) (fun _ _ _ h => h) (.inl ⟨by rfl, fun W hS => by go_simp⟩) hHeld ?_
    simp only [Act.put, List.setIfInBounds_toArray, List.set_cons_zero, List.set_cons_succ, List.getElem_toArray, List.getElem_cons_succ, List.getElem_cons_zero]
    refine wpAnyH_ready (rs := [10]) (by kernel_rfl) (by simp) ?_
    refine AllReadyH.cons rfl (fun K hK => ?_) AllReadyH.nil
    go_simp
    refine hK.out _ _ (hHeld.far (by show w3.heap.size ≠ g; omega) _) (fun hHeld => ?_)
    clear hK K
    refine wpAnyH_done (by kernel_rfl) ?_ _
    clear hHeld
    have HM : Hid (Calls Tryd.prog 53 #[.slice (some ⟨g, 0, none⟩) (n + 1) c] (w5.setCell ⟨g, n * 55 + 54, none⟩ (.slice A5 m5 c5)) fun e w' => e = .returned (.bool (checkB es')) ∧ Below (w5.setCell ⟨g, n * 55 + 54, none⟩ (.slice A5 m5 c5)).heap.size (w5.setCell ⟨g, n * 55 + 54, none⟩ (.slice A5 m5 c5)) w') := by
      obtain ⟨A6, c6, e6, hrd6⟩ := HO6.out.reads
      rw [HL'.out] at e6 hrd6
      injection e6 with e7 _ e8
      subst e7 e8
      exact May_calls _ _ _ es' _ hrd6
    clear rc5 rf5 hcg1 hcg2
    generalize w5.setCell ⟨g, n * 55 + 54, none⟩ (.slice A5 m5 c5) = W6 at *
    go_wp2_with (go_at_call 53; refine HM.out.mono ?_; rintro e w7 ⟨rfl, hb7⟩)
    go_ret2
    rw [HR.out]
    refine ⟨HB6.out.trans (hb7.mono (Nat.le_trans HB.out HB6.out.size)), ?_⟩
    cases hck : checkB es' with
    | false => exact ⟨_, rfl⟩
    | true => exact ⟨_, rfl, HO6.out.keeps (KeepsLo.below hb7)⟩
end Go.Proofs.YtfjfjjcdlgdbcaaDoor
namespace Go.Proofs.YtfjfjjcdlgdbcaaDoor
open Go.RowKit Go.Shelf
set_option linter.unusedSimpArgs false
set_option linter.unusedVariables false

theorem lineO_acc (es : List EntP) (x : List UInt8) (hs : slotL (splitL 32 x) = none) : lineO es x = (accL (splitL 32 x)).bind fun e => if checkB (es ++ [e]) = true then some (es ++ [e]) else none := by
  unfold lineO
  cases accL (splitL 32 x) with
  | some e => rfl
  | none => rw [hs]; rfl
theorem lineO_slot (es : List EntP) (x : List UInt8) (ha : accL (splitL 32 x) = none) (h : List UInt8 × List UInt8) (hs : slotL (splitL 32 x) = some h) (e : EntP) (hl : es.getLast? = some e) :
    lineO es x = if checkB (es.dropLast ++ [{ e with slots := e.slots ++ [h] }]) = true then some (es.dropLast ++ [{ e with slots := e.slots ++ [h] }]) else none := by
  unfold lineO
  rw [ha, hs, hl]
theorem lineO_no (es : List EntP) (x : List UInt8) (ha : accL (splitL 32 x) = none) (hs : slotL (splitL 32 x) = none) : lineO es x = none := by
  unfold lineO
  rw [ha, hs]
theorem lineO_nil (x : List UInt8) (ha : accL (splitL 32 x) = none) : lineO [] x = none := by
  unfold lineO
  rw [ha]
  cases slotL (splitL 32 x) <;> rfl
theorem list4' {α : Type} (l : List α) (h : l.length = 4) : ∃ a b c d, l = [a, b, c, d] := by
  obtain _ | ⟨a, l⟩ := l
  · simp at h
  obtain _ | ⟨b, l⟩ := l
  · simp at h
  obtain _ | ⟨c, l⟩ := l
  · simp at h
  obtain _ | ⟨d, l⟩ := l
  · simp at h
  obtain rfl : l = [] := List.eq_nil_of_length_eq_zero (by simpa using h)
  exact ⟨a, b, c, d, rfl⟩
theorem list2' {α : Type} (l : List α) (h : l.length = 2) : ∃ a b, l = [a, b] := by
  obtain _ | ⟨a, l⟩ := l
  · simp at h
  obtain _ | ⟨b, l⟩ := l
  · simp at h
  obtain rfl : l = [] := List.eq_nil_of_length_eq_zero (by simpa using h)
  exact ⟨a, b, rfl⟩
theorem acc_slot : accW ≠ slotW := by decide
theorem rline_calls (A : Option Addr) (c : Nat) (es : List EntP) (x : List UInt8) (B : Nat) (w : World) (h : OwnE w B (.slice A es.length c) es) (hB : B ≤ w.heap.size) (hx : x.length ≤ 1000000) (hm : es.length ≤ 100000000) (hsm : ∀ e ∈ es, e.slots.length ≤ 100000000) :
    Calls Tryd.prog 62 #[.slice A es.length c, .string (str x)] w (LineEnd B w (lineO es x)) := by
  obtain ⟨w0, rest, hws⟩ : ∃ w0 rest, splitL 32 x = w0 :: rest := by
    cases hs : splitL 32 x with
    | nil => exact absurd hs (splitL_ne 32 x)
    | cons p q => exact ⟨p, q, rfl⟩
  have h0 : (splitL 32 x)[0]? = some w0 := by rw [hws]; rfl
  have hd0 : (splitL 32 x).getD 0 [] = w0 := by rw [hws]; rfl
  by_cases ha : w0 = accW
  · have hsl : slotL (splitL 32 x) = none := slotL_no _ (fun hh => acc_slot (by rw [← ha, ← hd0, hh.2]))
    by_cases hn : (splitL 32 x).length = 5
    · obtain ⟨s1, s2, s3, s4, e4⟩ := list4' rest (by rw [hws] at hn; simpa using hn)
      rw [ha, e4] at hws
      have hacc := accL_of s1 s2 s3 s4
      rw [← hws] at hacc
      have hl := lineO_acc es x hsl
      rw [hacc] at hl
      rcases hu1 : unhexW s1 with ⟨a, b1⟩
      rw [hu1] at hl
      simp only at hl
      cases b1 with
      | false =>
        have hno : lineO es x = none := by rw [hl, if_neg (by simp)]; rfl
        exact line_a1 A c es x B w h hB hx s1 s2 s3 s4 hws hno a false _ _ hu1 rfl rfl rfl
      | true =>
        cases h2 : undecL s2 with
        | none =>
          have hno : lineO es x = none := by rw [hl, h2]; split <;> rfl
          exact line_a2 A c es x B w h hB hx s1 s2 s3 s4 hws hno a true false _ hu1 (by rw [h2]; rfl) rfl rfl rfl
        | some n =>
          cases h3 : undecL s3 with
          | none =>
            have hno : lineO es x = none := by rw [hl, h2, h3]; split <;> rfl
            exact line_a3 A c es x B w h hB hx s1 s2 s3 s4 hws hno a true true false hu1 (by rw [h2]; rfl) (by rw [h3]; rfl) rfl rfl rfl
          | some m =>
            rw [h2, h3] at hl
            simp only at hl
            by_cases hal : a.length = 20
            · rw [if_pos ⟨trivial, hal⟩] at hl
              by_cases hn64 : n < 18446744073709551616
              · rw [if_pos hn64] at hl
                by_cases h4 : s4 = [46]
                · rw [if_pos h4] at hl
                  exact line_a6 A c es x B w h hB hx s1 s2 s3 s4 hws a hu1 hal n m h2 h3 hn64 h4 hm _ hl
                · rw [if_neg h4] at hl
                  rcases hu4 : unhexW s4 with ⟨u, b4⟩
                  rw [hu4] at hl
                  simp only at hl
                  cases b4 with
                  | false => exact line_a7 A c es x B w h hB hx s1 s2 s3 s4 hws a hu1 hal n m h2 h3 hn64 u h4 hu4 _ (by rw [hl, if_neg (by simp)]; rfl)
                  | true => exact line_a8 A c es x B w h hB hx s1 s2 s3 s4 hws a hu1 hal n m h2 h3 hn64 u h4 hu4 hm _ (by rw [hl, if_pos rfl]; rfl)
              · rw [if_neg hn64] at hl
                exact line_a5 A c es x B w h hB hx s1 s2 s3 s4 hws a hu1 hal n m h2 h3 (by omega) _ hl
            · rw [if_neg (fun hh => hal hh.2)] at hl
              exact line_a4 A c es x B w h hB hx s1 s2 s3 s4 hws hl a true true true hu1 (by rw [h2]; rfl) (by rw [h3]; rfl) rfl rfl rfl hal
    · have hac : accL (splitL 32 x) = none := accL_no _ (fun hh => hn hh.1)
      exact line_c1 A c es x B w h hB hx w0 _ h0 rfl (lineO_no es x hac hsl) ha hn
  · have hac : accL (splitL 32 x) = none := accL_no _ (fun hh => ha (by rw [← hd0, hh.2]))
    by_cases hs : w0 = slotW
    · by_cases hn : (splitL 32 x).length = 3
      · by_cases he : es.length = 0
        · have he0 : es = [] := List.eq_nil_of_length_eq_zero he
          exact line_c4 A c es x B w h hB hx w0 _ h0 rfl (by rw [he0]; exact lineO_nil x hac) hs hn he
        · obtain ⟨s1, s2, e2⟩ := list2' rest (by rw [hws] at hn; simpa using hn)
          rw [hs, e2] at hws
          have hsl := slotL_of s1 s2
          rw [← hws] at hsl
          rcases hk : unhexW s1 with ⟨ka, bk⟩
          rcases hv : unhexW s2 with ⟨va, bv'⟩
          rw [hk, hv] at hsl
          simp only at hsl
          cases bk with
          | false => exact line_b1 A c es x B w h hB hx s1 s2 hws (lineO_no es x hac (by rw [hsl, if_neg (by simp)])) ka va false _ hk hv (by omega) rfl
          | true =>
            cases bv' with
            | false => exact line_b2 A c es x B w h hB hx s1 s2 hws (lineO_no es x hac (by rw [hsl, if_neg (by simp)])) ka va true false hk hv (by omega) rfl rfl
            | true =>
              by_cases h3 : ka.length = 32
              · by_cases h4 : va.length = 32
                · rw [if_pos ⟨⟨rfl, h3⟩, ⟨rfl, h4⟩⟩] at hsl
                  exact line_b5 A c es x B w h hB hx s1 s2 hws ka va hk hv (by omega) h3 h4 hm hsm _ (fun e hl => lineO_slot es x hac _ hsl e hl)
                · exact line_b4 A c es x B w h hB hx s1 s2 hws (lineO_no es x hac (by rw [hsl, if_neg (fun hh => h4 hh.2.2)])) ka va true true hk hv (by omega) rfl rfl h3 h4
              · exact line_b3 A c es x B w h hB hx s1 s2 hws (lineO_no es x hac (by rw [hsl, if_neg (fun hh => h3 hh.1.2)])) ka va true true hk hv (by omega) rfl rfl h3
      · exact line_c3 A c es x B w h hB hx w0 _ h0 rfl (lineO_no es x hac (slotL_no _ (fun hh => hn hh.1))) hs hn
    · exact line_c2 A c es x B w h hB hx w0 _ h0 rfl (lineO_no es x hac (slotL_no _ (fun hh => hs (by rw [← hd0, hh.2])))) ha hs
end Go.Proofs.YtfjfjjcdlgdbcaaDoor
namespace Go.Proofs.YtfjfjjcdlgdbcaaDoor
open Go.RowKit Go.Shelf
set_option linter.unusedSimpArgs false
set_option linter.unusedVariables false

set_option maxRecDepth 100000 in
set_option maxHeartbeats 8000000 in
theorem RParse_calls (s : List UInt8) (w : World) (hs : s.length ≤ 1000000) : Calls Tryd.prog 31 #[.string (str s)] w (ParseEndD w s) := by
  have hszx : (str s).size = s.length := rfl
  go_enter Tryd.func31, Tryd.ntmps31
  go_wp2
  go_loopw [5, 6, 7, 8] (fun v f n i wr => ∃ (k g : Nat) (o : List (List UInt8)) (es : List EntP), i = .int .i64 (k : Int) ∧ f = .int .i64 (g : Int) ∧ n = .int .i64 (o.length : Int) ∧ Cut 10 s k g o ∧ linesTo (o.map (·, true)) = some es ∧ checkB es = true ∧ OwnE wr w.heap.size v es ∧ Below w.heap.size w wr) (fun _ _ _ i _ => s.length - (intOf i).toNat)
  case atStart => exact ⟨0, 0, [], [], rfl, rfl, rfl, Cut.zero _ _, rfl, rfl, OwnE.nil _ _, Below.refl _ _⟩
  case round =>
    obtain ⟨k, g, o, es, rfl, rfl, rfl, hc, hl, hck, ho, hb⟩ := hrel
    obtain ⟨wo, rfl⟩ : ∃ wo : World, wo = wr := ⟨_, rfl⟩
    have hk := hc.hk
    have hf := hc.hf
    have hol := hc.len
    have hsm := linesTo_small _ _ _ (by rw [List.length_map]) hl
    have hex := extract_part s g k hf hk
    have HC := Lib.hid hc
    have HL := Lib.hid hl
    have HB := Lib.hid hb
    have hbs := hb.size
    have hkI : (0 : Int) ≤ (g : Int) ∧ (g : Int) ≤ (k : Int) := by omega
    clear hc hl hb
    by_cases hlt : k < s.length
    · have hltI : (k : Int) < (s.length : Int) := by omega
      have hg0 : s[k]? = some (s.getD k 0) := by rw [List.getD_eq_getElem?_getD, List.getElem?_eq_getElem hlt]; rfl
      have hi0 := fun W => idx_strs (P := Tryd.prog) s k _ hg0 W Tryd.underlying9
      clear hg0
      by_cases hbb : s.getD k 0 = 10
      · obtain ⟨hst, hkeep⟩ := lineO_step es ((s.take k).drop g) hck
        have HKEEP := Lib.hid hkeep
        have hxl : ((s.take k).drop g).length ≤ 1000000 := by rw [List.length_drop, List.length_take]; omega
        have hsep := Lib.hid (HC.out.sep hlt hbb)
        have hbad := Lib.hid (fun h => parse_bad HC.out hlt hbb HL.out h)
        have hmore := Lib.hid (fun es' h => linesTo_more (x := (s.take k).drop g) (es' := es') HL.out h)
        rw [hbb] at hi0
        have h10 : ((10 : UInt8).toNat : Int) = 10 := rfl
        rw [h10] at hi0
        obtain ⟨A, cc, rfl, hrd⟩ := ho.reads
        have hcall := Lib.hid (rline_calls A cc es ((s.take k).drop g) w.heap.size wo ho hbs hxl (by omega) (fun e he => by have := hsm.2 e he; omega))
        clear hbb h10 hrd ho hkeep hck hsm
        generalize (s.take k).drop g = x at *
        rw [hst] at hcall
        cases hsx : stepL es (x, true) with
        | none =>
          have HP := Lib.hid (hbad.out hsx)
          rw [hsx] at hcall
          clear hbad hmore hsep HKEEP hst hsx
          go_wp2_with (go_at_call 62; refine hcall.out.mono ?_; rintro e w1 ⟨hb1, h1⟩; obtain ⟨v1, rfl⟩ := h1)
          go_ret3
          refine ⟨HB.out.trans hb1, ?_⟩
          rw [HP.out]
          rfl
        | some es' =>
          have HK := Lib.hid (HKEEP.out es' (by rw [hst, hsx]))
          have HM := Lib.hid (hmore.out es' hsx)
          rw [hsx] at hcall
          clear hbad hmore HKEEP hst hsx
          go_wp2_with (go_at_call 62; refine hcall.out.mono ?_; rintro e w1 ⟨hb1, h1⟩; obtain ⟨v1, rfl, ho1⟩ := h1)
          go_roundw
          case rel => exact ⟨k + 1, k + 1, o ++ [x], es', by go_num, by go_num, by rw [List.length_append]; go_num, hsep.out, HM.out, HK.out, ho1, HB.out.trans hb1⟩
          case measure => simp [intOf]; omega
      · have hoth := Lib.hid (HC.out.other hlt hbb)
        have HCK := Lib.hid hck
        have HO := Lib.hid ho
        generalize s.getD k 0 = b at *
        have hq : ¬ ((b.toNat : Int) = 10) := fun e => hbb (UInt8.toNat_inj.1 (by show b.toNat = 10; omega))
        have hq2 : ((b.toNat : Int) == 10) = false := by simpa using hq
        have hq3 : ((b.toNat : Int) != 10) = true := by simpa using hq
        clear hbb hck ho hsm
        go_wp2
        go_roundw
        case rel => exact ⟨k + 1, g, o, es, by go_num, rfl, rfl, hoth.out, HL.out, HCK.out, HO.out, HB.out⟩
        case measure => simp [intOf]; omega
    · obtain rfl : k = s.length := by omega
      by_cases hg : g < s.length
      · have HP := Lib.hid (parse_open HC.out hg HL.out)
        have hgI : (g : Int) < (s.length : Int) := by omega
        clear hck ho hsm hex
        go_wp2
        go_ret3
        refine ⟨HB.out, ?_⟩
        rw [HP.out]
        rfl
      · have HP := Lib.hid (parse_whole HC.out hg HL.out)
        have hgI : ¬ (g : Int) < (s.length : Int) := by omega
        obtain ⟨A, cc, rfl, hrd⟩ := ho.reads
        have HRD := Lib.hid hrd
        clear hck ho hsm hex hrd
        go_wp2
        go_ret3
        refine ⟨HB.out, ?_⟩
        rw [HP.out]
        exact ⟨_, _, rfl, HRD.out⟩
end Go.Proofs.YtfjfjjcdlgdbcaaDoor
namespace Go.Proofs.YtfjfjjcdlgdbcaaDoor
open Go.RowKit Go.Shelf
set_option linter.unusedSimpArgs false
set_option linter.unusedVariables false

theorem eqFields_two {P : Program} (dd : Nat) (xs ys : Array Value) (f0 f1 : Field) (w : World) (a0 b0 a1 b1 : Value) (n0 : f0.name ≠ "_") (n1 : f1.name ≠ "_")
    (h1 : (part f0.type xs f0.offset).run P w = .ok a0 w) (h2 : (part f0.type ys f0.offset).run P w = .ok b0 w) (h3 : (Op.equalIn dd f0.type a0 b0).run P w = .ok true w)
    (h4 : (part f1.type xs f1.offset).run P w = .ok a1 w) (h5 : (part f1.type ys f1.offset).run P w = .ok b1 w) (h6 : (Op.equalIn dd f1.type a1 b1).run P w = .ok true w) : (Op.eqFields dd xs ys [f0, f1]).run P w = .ok true w := by
  simp [Op.eqFields, n0, n1, h1, h2, h3, h4, h5, h6]
theorem same_hkd (d : Nat) (h : List UInt8 × List UInt8) (h1 : h.1.length = 32 ∧ h.2.length = 32) (W : World) : (Op.equalIn (d + 2 + 1) 95 (.agg (hk h).toArray) (.agg (hk h).toArray)).run Tryd.prog W = .ok true W := by
  have hf : Tryd.prog.underlying 95 = some (.struct (Tryd.prog.fieldsOf 95)) := by
    unfold Program.fieldsOf
    rw [Tryd.underlying95]
  have x0 : (hk h).toArray.extract 0 (0 + 32) = (bvs h.1).toArray := by
    apply Array.ext'
    simp only [hk, Array.toList_extract, List.extract_eq_take_drop, List.drop_zero]
    exact List.take_left' (by rw [bvs_length, h1.1])
  have x1 : (hk h).toArray.extract 32 (32 + 32) = (bvs h.2).toArray := by
    apply Array.ext'
    simp only [hk, Array.toList_extract, List.extract_eq_take_drop]
    rw [List.drop_left' (by rw [bvs_length, h1.1])]
    exact List.take_of_length_le (by rw [bvs_length, h1.2]; decide)
  have p0 : (part 61 (hk h).toArray 0).run Tryd.prog W = .ok (.agg (bvs h.1).toArray) W := by
    simp only [part, Sem.run_bind, run_isAgg Tryd.agg61d, run_sizeOf Tryd.agg61d, Result.andThen_ok, if_true, Sem.run_pure, x0]
  have p1 : (part 61 (hk h).toArray 32).run Tryd.prog W = .ok (.agg (bvs h.2).toArray) W := by
    simp only [part, Sem.run_bind, run_isAgg Tryd.agg61d, run_sizeOf Tryd.agg61d, Result.andThen_ok, if_true, Sem.run_pure, x1]
  have e0 := same_row h.1 32 61 (by kernel_rfl) Tryd.underlying61 (by kernel_rfl) h1.1 d W
  have e1 := same_row h.2 32 61 (by kernel_rfl) Tryd.underlying61 (by kernel_rfl) h1.2 d W
  rw [run_equalIn_struct W (d + 2) 95 _ _ hf (by kernel_rfl)]
  obtain ⟨f0, f1, e, t0, o0, n0, t1, o1, n1⟩ : ∃ f0 f1 : Field, (Tryd.prog.fieldsOf 95).toList = [f0, f1] ∧ f0.type = 61 ∧ f0.offset = 0 ∧ f0.name ≠ "_" ∧ f1.type = 61 ∧ f1.offset = 32 ∧ f1.name ≠ "_" := by
    unfold Program.fieldsOf
    rw [Tryd.underlying95]
    exact ⟨_, _, rfl, rfl, rfl, by decide, rfl, rfl, by decide⟩
  rw [e]
  exact eqFields_two (d + 2) _ _ f0 f1 W _ _ _ _ n0 n1 (by rw [t0, o0]; exact p0) (by rw [t0, o0]; exact p0) (by rw [t0]; exact e0) (by rw [t1, o1]; exact p1) (by rw [t1, o1]; exact p1) (by rw [t1]; exact e1)
theorem same_hk (h : List UInt8 × List UInt8) (h1 : h.1.length = 32 ∧ h.2.length = 32) (W : World) : (Op.equalIn 10000 95 (.agg (hk h).toArray) (.agg (hk h).toArray)).run Tryd.prog W = .ok true W := by
  have := same_hkd 9997 h h1 W
  simp only [Nat.reduceAdd] at this
  exact this
end Go.Proofs.YtfjfjjcdlgdbcaaDoor
namespace Go.Proofs.YtfjfjjcdlgdbcaaDoor
open Go.RowKit Go.Shelf
set_option linter.unusedSimpArgs false
set_option linter.unusedVariables false
attribute [local irreducible] wpQuiet

theorem run_loadAtOne (w : World) (ty : TypeId) (a : Addr) (v : Value) (ht : (isAgg ty).run Tryd.prog w = .ok false w) (h : w.cell? a = some v) :
    (Instr.loadAt ty (.pointer (some a))).run Tryd.prog w = .ok v w := by
  go_simp
section
attribute [-go_sem] Instr.loadAt
set_option maxRecDepth 100000 in
set_option maxHeartbeats 2000000 in
theorem same32_calls (A : Option Addr) (n c : Nat) (B : Option Addr) (d : Nat) (es : List EntP) (w : World) (h : RdE w A n c es) (h' : RdE w B n d es) :
    Calls Tryd.prog 32 #[.slice A n c, .slice B n d] w fun e w' => e = .returned (.bool true) ∧ Below w.heap.size w w' := by
  have hm : n ≤ 9223372036854775807 := by have := h.2.1; have := h.2.2.1; unfold maxLen at this; omega
  have H := Lib.hid h
  have H' := Lib.hid h'
  have hnn : ((n : Int) == (n : Int)) = true := by simp
  have hnm : ((n : Int) != (n : Int)) = false := by simp
  clear h h'
  go_enter Tryd.func32, Tryd.ntmps32
  go_wp2
  go_loopw [5] (fun i wr => ∃ k : Nat, k ≤ n ∧ i = .int .i64 k ∧ Below w.heap.size w wr) (fun i _ => n - (intOf i).toNat)
  case atStart => exact ⟨0, by omega, rfl, Below.refl _ _⟩
  case round =>
    obtain ⟨k, hkn0, rfl, hb⟩ := hrel
    obtain ⟨wo, rfl⟩ : ∃ wo : World, wo = wr := ⟨_, rfl⟩
    have HB := Lib.hid hb
    by_cases hlt : k < n
    · obtain ⟨g, o, C, m, cc, S, l, q, rfl, hg, hc, hE⟩ := H.out.at_ hlt
      obtain ⟨g', o', C', m', cc', S', l', q', rfl, _, hc', hE'⟩ := H'.out.at_ hlt
      generalize es.getD k zE = x at *
      obtain rfl : m = m' := by rw [← hE.code.1, ← hE'.code.1]
      obtain rfl : l = l' := by rw [← hE.slots.1, ← hE'.slots.1]
      have hF := hE.fit
      have hkI : (0 : Int) ≤ (k : Int) ∧ (k : Int) < (n : Int) := by omega
      have htk : ((k : Int)).toNat = k := by omega
      have cell : ∀ {W : World} {gg oo : Nat} {c1 s1 : Value} (hcc : CellsAt W gg (oo + k * 55) (ek x c1 s1).toList), CellsAt W gg (oo + k * 55) (bvs x.addr) ∧ W.cell? ⟨gg, oo + k * 55 + 20, none⟩ = some (.int .u64 (x.nonce : Int)) ∧ CellsAt W gg (oo + k * 55 + 21) (bvs x.bal) ∧ W.cell? ⟨gg, oo + k * 55 + 53, none⟩ = some c1 ∧ W.cell? ⟨gg, oo + k * 55 + 54, none⟩ = some s1 := fun hcc => by
        refine ⟨?_, hcc 20 _ (by rw [Array.getElem?_toList]; exact ek_nonce _ _ _ hF), hcc.part 21 _ (fun j u hu => by rw [Array.getElem?_toList]; exact ek_bal _ _ _ hF j u hu), hcc 53 _ (by rw [Array.getElem?_toList]; exact ek_tail _ _ _ hF 0), hcc 54 _ (by rw [Array.getElem?_toList]; exact ek_tail _ _ _ hF 1)⟩
        have := hcc.part 0 _ (fun j u hu => by rw [Array.getElem?_toList]; exact ek_addr _ _ _ j u hu)
        rwa [Nat.add_zero] at this
      have HALL : Hid (∀ W, Below w.heap.size w W → (CellsAt W g (o + k * 55) (bvs x.addr) ∧ CellsAt W g' (o' + k * 55) (bvs x.addr) ∧ CellsAt W g (o + k * 55 + 21) (bvs x.bal) ∧ CellsAt W g' (o' + k * 55 + 21) (bvs x.bal)) ∧ (W.cell? ⟨g, o + k * 55 + 20, none⟩ = some (.int .u64 (x.nonce : Int)) ∧ W.cell? ⟨g', o' + k * 55 + 20, none⟩ = some (.int .u64 (x.nonce : Int))) ∧ (W.cell? ⟨g, o + k * 55 + 53, none⟩ = some (.slice C m cc) ∧ W.cell? ⟨g', o' + k * 55 + 53, none⟩ = some (.slice C' m cc')) ∧ (RdB W C m cc x.code ∧ RdB W C' m cc' x.code)) := fun W hW => ⟨⟨(cell (hc.below hW)).1, (cell (hc'.below hW)).1, (cell (hc.below hW)).2.2.1, (cell (hc'.below hW)).2.2.1⟩, ⟨(cell (hc.below hW)).2.1, (cell (hc'.below hW)).2.1⟩, ⟨(cell (hc.below hW)).2.2.2.1, (cell (hc'.below hW)).2.2.2.1⟩, hE.code.below hW, hE'.code.below hW⟩
      have HT60 : Hid (AggT Tryd.prog 60 (bvs x.addr).length) := by rw [bvs_length, hF.ha]; exact Tryd.agg60d
      have HT61 : Hid (AggT Tryd.prog 61 (bvs x.bal).length) := by rw [bvs_length, hF.hb]; exact Tryd.agg61d
      have hi60 : Hid ((Tryd.prog.info? 60).map (·.size) = some (bvs x.addr).length) := by rw [bvs_length, hF.ha]; exact Tryd.agg60d.2
      have hi61 : Hid ((Tryd.prog.info? 61).map (·.size) = some (bvs x.bal).length) := by rw [bvs_length, hF.hb]; exact Tryd.agg61d.2
      have HSL : Hid (∀ W, Below w.heap.size w W → W.cell? ⟨g, o + k * 55 + 54, none⟩ = some (.slice S l q) ∧ W.cell? ⟨g', o' + k * 55 + 54, none⟩ = some (.slice S' l q') ∧ RdS W S l q x.slots ∧ RdS W S' l q' x.slots) := fun W hW => ⟨(cell (hc.below hW)).2.2.2.2, (cell (hc'.below hW)).2.2.2.2, hE.slots.below hW, hE'.slots.below hW⟩
      have HS1 := Lib.hid hE.slots
      have HS2 := Lib.hid hE'.slots
      have HFIT := Lib.hid hF.hs
      have hlm : l ≤ 9223372036854775807 := by have := hE.slots.2.1; have := hE.slots.2.2.1; unfold maxLen at this; omega
      have hEa := same_row x.addr 20 60 (by kernel_rfl) Tryd.underlying60 (by kernel_rfl) hF.ha 9998
      have hEb := same_row x.bal 32 61 (by kernel_rfl) Tryd.underlying61 (by kernel_rfl) hF.hb 9998
      have g60 := Tryd.g60d
      have g61 := Tryd.g61d
      have hssc : ((str x.code).toList == (str x.code).toList) = true := by simp
      have hssd : ((str x.code).toList != (str x.code).toList) = false := by simp
      have hnq : ((x.nonce : Int) == (x.nonce : Int)) = true := by simp
      have hnd : ((x.nonce : Int) != (x.nonce : Int)) = false := by simp
      have hlq : ((l : Int) == (l : Int)) = true := by simp
      have hld : ((l : Int) != (l : Int)) = false := by simp
      clear hc hc' hE hE' hg cell hF
      simp only [Nat.reduceAdd] at hEa hEb
      generalize hra : (bvs x.addr) = ra at *
      generalize hrb : (bvs x.bal) = rb at *
      clear hra hrb
      have HA := HALL.out wo hb
      have HS := HSL.out wo hb
      have f1 := fun q => run_loadAtAgg (wo.drewN q) 60 g (o + k * 55) ra HT60.out (HA.1.1.drewN q)
      have f2 := fun q => run_loadAtAgg (wo.drewN q) 60 g' (o' + k * 55) ra HT60.out (HA.1.2.1.drewN q)
      have f3 := fun q => run_loadAtAgg (wo.drewN q) 61 g (o + k * 55 + 21) rb HT61.out (HA.1.2.2.1.drewN q)
      have f4 := fun q => run_loadAtAgg (wo.drewN q) 61 g' (o' + k * 55 + 21) rb HT61.out (HA.1.2.2.2.drewN q)
      have f5 := fun q => run_loadAtOne (wo.drewN q) 26 ⟨g, o + k * 55 + 20, none⟩ _ (by go_simp) HA.2.1.1
      have f6 := fun q => run_loadAtOne (wo.drewN q) 26 ⟨g', o' + k * 55 + 20, none⟩ _ (by go_simp) HA.2.1.2
      have f7 := fun q => run_loadAtOne (wo.drewN q) 22 ⟨g, o + k * 55 + 53, none⟩ _ (by go_simp) HA.2.2.1.1
      have f8 := fun q => run_loadAtOne (wo.drewN q) 22 ⟨g', o' + k * 55 + 53, none⟩ _ (by go_simp) HA.2.2.1.2
      have f9 := fun q => run_loadAtOne (wo.drewN q) 77 ⟨g, o + k * 55 + 54, none⟩ _ (by go_simp) HS.1
      have fA := fun q => run_loadAtOne (wo.drewN q) 77 ⟨g', o' + k * 55 + 54, none⟩ _ (by go_simp) HS.2.1
      have fB := fun q => run_convertB (P := Tryd.prog) (wo.drewN q) 22 5 9 Tryd.underlying22 Tryd.underlying5 Tryd.underlying9 (RdB.drewN HA.2.2.2.1 q)
      have fC := fun q => run_convertB (P := Tryd.prog) (wo.drewN q) 22 5 9 Tryd.underlying22 Tryd.underlying5 Tryd.underlying9 (RdB.drewN HA.2.2.2.2 q)
      clear HA HS
      go_upto_region 6 with (fail)
      go_quiet (fail)
      have HH6 : Hid (Below w.heap.size w (wo.drewN nq)) := hb.trans (drawn_below' _ _ _ hb.size)
      clear f1 f2 f3 f4 f5 f6 f7 f8 f9 fA fB fC
      go_wp2
      go_loopw [6] (fun i wr => ∃ m : Nat, m ≤ l ∧ i = .int .i64 m ∧ Below w.heap.size w wr) (fun i _ => l - (intOf i).toNat)
      case atStart => exact ⟨0, by omega, rfl, HH6.out⟩
      case round =>
        obtain ⟨m, hml, rfl, hbi⟩ := hrel
        obtain ⟨wi, rfl⟩ : ∃ wi : World, wi = wr := ⟨_, rfl⟩
        have HBI := Lib.hid hbi
        obtain ⟨t1, t2, _, _⟩ := HSL.out wi hbi
        have e0 := run_loadAtOne wi 77 ⟨g, o + k * 55 + 54, none⟩ _ (by go_simp) t1
        by_cases hlm2 : m < l
        · obtain ⟨g2, o2, rfl, hx2, hy2⟩ := HS1.out.at_ hlm2
          obtain ⟨g3, o3, rfl, hx3, hy3⟩ := HS2.out.at_ hlm2
          have hfit := HFIT.out _ (List.mem_of_getElem? hx2)
          generalize x.slots.getD m ([], []) = hh at *
          have hmI : (0 : Int) ≤ (m : Int) ∧ (m : Int) < (l : Int) := by omega
          have htm : ((m : Int)).toNat = m := by omega
          have HY2 := Lib.hid hy2
          have HY3 := Lib.hid hy3
          have HT95 : Hid (AggT Tryd.prog 95 (hk hh).length) := by rw [hk_length hh hfit]; exact Tryd.agg95
          have hi95 : Hid ((Tryd.prog.info? 95).map (·.size) = some (hk hh).length) := by rw [hk_length hh hfit]; exact Tryd.agg95.2
          have hEh := same_hk hh hfit
          have g95 := Tryd.g95d
          clear hx2 hx3 hy2 hy3 hfit
          go_wp2
          have e1 := fun q => run_loadAtOne (wi.drewN q) 77 ⟨g, o + k * 55 + 54, none⟩ _ (by go_simp) t1
          have e2 := fun q => run_loadAtOne (wi.drewN q) 77 ⟨g', o' + k * 55 + 54, none⟩ _ (by go_simp) t2
          have e3 := fun q => run_loadAtAgg (wi.drewN q) 95 g2 (o2 + m * 64) (hk hh) HT95.out ((HY2.out.below hbi).drewN q)
          have e4 := fun q => run_loadAtAgg (wi.drewN q) 95 g3 (o3 + m * 64) (hk hh) HT95.out ((HY3.out.below hbi).drewN q)
          go_quiet (fail)
          have HH : Hid (Below w.heap.size w (wi.drewN nq)) := hbi.trans (drawn_below' _ _ _ hbi.size)
          clear e1 e2 e3 e4
          go_wp2
          go_roundw
          case rel => exact ⟨m + 1, by omega, by go_num, HH.out⟩
          case measure => simp [intOf]; omega
        · obtain rfl : m = l := by omega
          go_wp2
          go_roundw
          case rel => exact ⟨k + 1, by omega, by go_num, HBI.out⟩
          case measure => simp [intOf]; omega
    · obtain rfl : k = n := by omega
      go_wp2
      go_ret
      exact ⟨rfl, hb⟩
end
end Go.Proofs.YtfjfjjcdlgdbcaaDoor
namespace Go.Proofs.YtfjfjjcdlgdbcaaDoor
open Go.RowKit Go.Shelf
set_option linter.unusedSimpArgs false
set_option linter.unusedVariables false

def ParsedL (w : World) (es : List EntP) (e : Ending) (w' : World) : Prop := Below w.heap.size w w' ∧ ∃ A c, e = .returned (.tuple #[.slice A es.length c, .int .i64 0, .int .i64 0]) ∧ RdE w' A es.length c es
theorem ended_l {w w' : World} {s : List UInt8} {es : List EntP} {e : Ending} (hp : parseGo [] 0 (linesL s) = .inl es) (h : ParseEndD w s e w') : ParsedL w es e w' := by
  obtain ⟨h1, h2⟩ := h
  rw [hp] at h2
  exact ⟨h1, h2⟩
theorem ended_r {w w' : World} {s : List UInt8} {n : Nat} {e : Ending} (hp : parseGo [] 0 (linesL s) = .inr n) (h : ParseEndD w s e w') : Below w.heap.size w w' ∧ e = .returned (.tuple #[.slice none 0 0, .int .i64 (n : Int), .int .i64 241]) := by
  obtain ⟨h1, h2⟩ := h
  rw [hp] at h2
  exact ⟨h1, h2⟩
theorem rdE_nil (w : World) : RdE w none 0 0 [] := ⟨rfl, Nat.le_refl _, by unfold maxLen; omega, fun h => absurd h (by omega)⟩
end Go.Proofs.YtfjfjjcdlgdbcaaDoor
