/- morainelaw20.known; the law ArchivePrints -/
import Derived.Test.YtfjfjjcdlgdbcaaDoorE14
namespace Go.Proofs.YtfjfjjcdlgdbcaaDoor
open Go.RowKit
set_option linter.unusedSimpArgs false
set_option linter.unusedVariables false

theorem zAct_small (k : Int) : (zAct k).Small := ⟨by simp [zAct], by simp [zAct], by simp [zAct]⟩
theorem prune_text : printT (zAct 22) = [112, 114, 117, 110, 101, 32, 46] := by decide
theorem prune_good : badA (zAct 22) = false := by decide
theorem prune_V : printV (zAct 22) = .tuple #[.string (str [112, 114, 117, 110, 101, 32, 46]), .int .i64 0] := by rw [printV_ok _ prune_good, prune_text]
theorem kind_commit : kindOf [99, 111, 109, 109, 105, 116] = 10 := kindOf_at _ 10 (by omega) (fun j hj => by
  have : ∀ j : Fin 10, decide ((kt.getD j.val ([], [])).1 ≠ [] ∧ (kt.getD j.val ([], [])).1 = [99, 111, 109, 109, 105, 116]) = false := by decide
  exact this ⟨j, hj⟩) (by decide)
theorem parse_commit (pF : ActP → UInt8 → List UInt8 → Option ActP) : parseG pF [99, 111, 109, 109, 105, 116] = some (zAct 10) := by
  rw [parseG_at pF _ [99, 111, 109, 109, 105, 116] [] (by decide) (by decide), kind_commit]
  rw [if_pos (by decide)]
  show (match some (zAct 10) with | none => none | some A => if badA A = false ∧ printT A = [99, 111, 109, 109, 105, 116] then some A else none) = some (zAct 10)
  simp only
  rw [if_pos (by decide)]
theorem Parse_commit (w : World) (hL : LaidW w) : Calls Tryd.prog 37 #[.string (str [99, 111, 109, 109, 105, 116])] w fun e w' => Below w.heap.size w w' ∧ ∃ bA bn bc lA ln lc, e = .returned (.tuple #[.agg (ak (zAct 10) (.slice bA bn bc) (.slice lA ln lc)), .int .i64 0]) := by
  have hs : (splitL 32 [99, 111, 109, 109, 105, 116]).headD [] = [99, 111, 109, 109, 105, 116] := by decide
  refine (Parse_callsG (fun _ _ _ => none) [99, 111, 109, 109, 105, 116] w hL (by decide) (fun c hc => ?_) (fun A hA => ?_)).mono fun e w' ⟨hb, h⟩ => ⟨hb, ?_⟩
  · rw [hs, kind_commit] at hc
    have : kf 10 = [] := by decide
    rw [this] at hc
    cases hc
  · rw [hs, kind_commit] at hA
    have : A = zAct 10 := (Option.some.inj hA).symm
    rw [this]
    exact zAct_small 10
  · rw [parse_commit] at h
    rcases h with ⟨h, _⟩ | ⟨A, bA, bn, bc, lA, ln, lc, h, he, _⟩
    · cases h
    · obtain rfl := Option.some.inj h
      exact ⟨bA, bn, bc, lA, ln, lc, he⟩

set_option maxRecDepth 100000 in
set_option maxHeartbeats 4000000 in
theorem known20_calls (w : World) (hL : LaidW w) : Calls Tryd.prog 33 #[] w fun e w' => e = .returned (.bool true) ∧ Below w.heap.size w w' := by
  have hp := Lib.hid (Print_calls (zAct 22) none 0 0 none 0 0 w ⟨zAct_fit 22 (by omega) (by omega), (RdBx.nil w 0).1, (RdKVx.nil w 0).1⟩ (zAct_small 22) hL)
  have hq := Lib.hid (fun W (hW : Below w.heap.size w W) => Parse_commit W (hL.below hW))
  rw [prune_V] at hp
  have hs1 : ((str [112, 114, 117, 110, 101, 32, 46]).toList == [112, 114, 117, 110, 101, 32, 46]) = true := by rw [str_list]; decide
  have hTA := fun b l => (show Hid (AggT Tryd.prog 64 (ak (zAct 10) b l).size) by rw [ak_size _ _ _ (zAct_fit 10 (by omega) (by omega))]; exact Tryd.agg64)
  have hA0 := fun b l => ak_0 (zAct 10) b l
  have hsz := fun b l => Lib.hid (ak_size (zAct 10) b l (zAct_fit 10 (by omega) (by omega)))
  have hk10 : (zAct 10).kind = 10 := rfl
  clear hL
  go_enter Tryd.func33, Tryd.ntmps33
  go_wp2_with (first | (refine wpList_build rfl 64 #[(0, .const (.int .i64 22))] rfl (.agg (ak (zAct 22) (.slice none 0 0) (.slice none 0 0))) (by kernel_rfl) ?_) | (go_at_call 35; refine hp.out.mono ?_; rintro e w1 ⟨rfl, hb1⟩) | (go_at_call 37; refine (hq.out _ hb1).mono ?_; rintro e w2 ⟨hb2, bA, bn, bc, lA, ln, lc, rfl⟩) | (refine wpList_storeNew rfl rfl 64 _ _ rfl _ _ rfl (ak (zAct 10) (.slice bA bn bc) (.slice lA ln lc)) rfl (hTA _ _).out (by rw [(hsz _ _).out]; rfl) (ak_oneCell _ _ _ _ _ _ _) ?_))
  go_ret
  exact ⟨rfl, al (thn hb1 hb2) _⟩

set_option maxRecDepth 100000 in
set_option maxHeartbeats 4000000 in
theorem archivePrints_walk (A : ActP) (bA : Option Addr) (bn bc : Nat) (lA : Option Addr) (ln lc : Nat) (w : World) (h : RdAct w A bA bn bc lA ln lc) (hH : A.Held) (hL : LaidW w) :
    Calls Tryd.prog 9 #[.agg (ak A (.slice bA bn bc) (.slice lA ln lc))] w fun e w' => e = .returned (.bool true) ∧ Below w.heap.size w w' := by
  have hw0 : Below w.heap.size w (w.alloc (.cells (ak A (.slice bA bn bc) (.slice lA ln lc)) 64)) := al (Below.refl _ _) _
  have hB0 := Lib.hid (Blk.new w 64 (ak A (.slice bA bn bc) (.slice lA ln lc)))
  have hR := Lib.hid (fun W (hW : Below w.heap.size w W) => h.below hW)
  have hLL := Lib.hid (fun W (hW : Below w.heap.size w W) => hL.below hW)
  have hk := Lib.hid (fun W (hW : Below w.heap.size w W) => known20_calls W (hL.below hW))
  have hf := Lib.hid (fun W (hW : Below w.heap.size w W) => few20_calls A bA bn bc lA ln lc W (h.below hW) hH)
  have hT : Hid (AggT Tryd.prog 64 (ak A (.slice bA bn bc) (.slice lA ln lc)).toList.length) := by rw [Array.length_toList, ak_size _ _ _ h.1]; exact Tryd.agg64
  have hag := Lib.hid (fun W (hW : Below (w.alloc (.cells (ak A (.slice bA bn bc) (.slice lA ln lc)) 64)).heap.size (w.alloc (.cells (ak A (.slice bA bn bc) (.slice lA ln lc)) 64)) W) => cellsAt_blk (hB0.out.below hW hB0.out.lt))
  have hW0 := Lib.hid hw0
  clear h hL hw0
  obtain ⟨w0, hw0⟩ : ∃ w0, w0 = w.alloc (.cells (ak A (.slice bA bn bc) (.slice lA ln lc)) 64) := ⟨_, rfl⟩
  rw [← hw0] at hB0 hag hW0
  have LA : ∀ W, Below w0.heap.size w0 W → Below w.heap.size w W := fun W hW => thn hW0.out hW
  by_cases hS : A.Small
  · have hpr := Lib.hid (fun W (hW : Below w.heap.size w W) => Print_calls A bA bn bc lA ln lc W (hR.out W hW) hS (hLL.out W hW))
    have hpr2 := Lib.hid (fun W (hW : Below w.heap.size w W) => Print20_calls A bA bn bc lA ln lc W (hR.out W hW) hS)
    have hpv : ∃ s n, printV A = .tuple #[.string s, .int .i64 n] := by
      unfold printV
      split
      · exact ⟨_, _, rfl⟩
      · exact ⟨_, _, rfl⟩
    obtain ⟨s, n, hpv⟩ := hpv
    rw [hpv] at hpr hpr2
    clear hpv hS
    have hss : (s.toList == s.toList) = true := by simp
    go_enter Tryd.func9, Tryd.ntmps9
    go_wp2_with (first | (go_at_call 33; rw [← hw0]; refine (hk.out _ hW0.out).mono ?_; rintro e w1 ⟨rfl, hb1⟩) | (refine wpList_loadAgg rfl 64 _ rfl w.heap.size 0 rfl _ hT.out (hag.out _ (by first | exact thn (thn (thn hb1 hb2) hb3) (Below.refl _ _) | exact thn (thn hb1 hb2) (Below.refl _ _) | exact thn hb1 (Below.refl _ _))) ?_) | (go_at_call 34; refine (hf.out _ (LA _ hb1)).mono ?_; rintro e w2 ⟨⟨b, rfl, hsm⟩, hb2⟩) | (go_at_call 35; refine (hpr.out _ (LA _ (thn hb1 hb2))).mono ?_; rintro e w3 ⟨rfl, hb3⟩) | (go_at_call 36; refine (hpr2.out _ (LA _ (thn (thn hb1 hb2) hb3))).mono ?_; rintro e w4 ⟨rfl, hb4⟩))
    · go_ret
      exact ⟨rfl, LA _ (thn hb1 hb2)⟩
    · go_ret
      exact ⟨rfl, LA _ (thn (thn (thn hb1 hb2) hb3) hb4)⟩
  · go_enter Tryd.func9, Tryd.ntmps9
    go_wp2_with (first | (go_at_call 33; rw [← hw0]; refine (hk.out _ hW0.out).mono ?_; rintro e w1 ⟨rfl, hb1⟩) | (refine wpList_loadAgg rfl 64 _ rfl w.heap.size 0 rfl _ hT.out (hag.out _ (thn hb1 (Below.refl _ _))) ?_) | (go_at_call 34; refine (hf.out _ (LA _ hb1)).mono ?_; rintro e w2 ⟨⟨b, rfl, hsm⟩, hb2⟩; obtain rfl : b = false := by (cases b; rfl; exact absurd (hsm rfl).small hS)))
    go_ret
    exact ⟨rfl, LA _ (thn hb1 hb2)⟩
end Go.Proofs.YtfjfjjcdlgdbcaaDoor
