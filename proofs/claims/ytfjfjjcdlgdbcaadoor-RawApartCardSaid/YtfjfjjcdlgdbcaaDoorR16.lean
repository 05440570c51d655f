/- a RawKey held against itself; the law RawParses -/
import Derived.Test.YtfjfjjcdlgdbcaaDoorR15
import Derived.Test.YtfjfjjcdlgdbcaaDoorA8
namespace Go.Proofs.YtfjfjjcdlgdbcaaDoor
open Go.RowKit

theorem Tryd.c5 : Tryd.prog.cellsOf 5 = 1 := by kernel_rfl
theorem Tryd.c25 : Tryd.prog.cellsOf 25 = 32 := by kernel_rfl
theorem Tryd.c28 : Tryd.prog.cellsOf 28 = 67 := by kernel_rfl
theorem Tryd.c26 : Tryd.prog.cellsOf 26 = 1 := by kernel_rfl
theorem Tryd.c9 : Tryd.prog.cellsOf 9 = 1 := by kernel_rfl
theorem Tryd.k28 : Tryd.prog.keyTypeAt 3 28 = true := by kernel_rfl

theorem rk_lits (l : UInt8) (f s : List UInt8) (n : Nat) (nm : ByteArray) (hf : f.length = 32) (hs : s.length = 32) (hn : n < 18446744073709551616) (hnm : nm.size ≤ maxLen) :
    ∃ L, Tryd.prog.keyLits 3 28 (rk l f s n nm).toList = some L := by
  have hlen : (rk l f s n nm).toList.length = 67 := by rw [Array.length_toList]; exact rk_size _ _ _ _ _ hf hs
  have p0 : ((rk l f s n nm).toList.drop 0).take 1 = [bv l] := by simp [rk]
  have p1 : ((rk l f s n nm).toList.drop 1).take 32 = bvs f := by
    simp [rk, List.take_append, bvs_length, hf]
  have p2 : ((rk l f s n nm).toList.drop 33).take 32 = bvs s := by
    simp [rk, List.drop_append, bvs_length, hf, hs, List.take_append]
  have e : (rk l f s n nm).toList = (bv l :: (bvs f ++ bvs s)) ++ [.int .u64 n, .string nm] := by simp [rk]
  have hl : (bv l :: (bvs f ++ bvs s)).length = 65 := by simp [bvs_length, hf, hs]
  have p3 : ((rk l f s n nm).toList.drop 65).take 1 = [.int .u64 n] := by
    rw [e, List.drop_append, hl, List.drop_eq_nil_of_le (by omega)]; rfl
  have p4 : ((rk l f s n nm).toList.drop 66).take 1 = [.string nm] := by
    rw [e, List.drop_append, hl, List.drop_eq_nil_of_le (by omega)]; rfl
  have q0 : Tryd.prog.keyLits 2 5 [bv l] = some [blit l] := by
    unfold Program.keyLits
    rw [Tryd.underlying5]
    have hw := blit_wf l
    unfold blit at hw
    simp only [bv, hw, and_self, if_true]
    rfl
  have q1 := fun z hz => keyLits_bytes (P := Tryd.prog) 0 25 5 32 z Tryd.underlying25 Tryd.underlying5 Tryd.c5 Tryd.c25 hz
  have q3 : Tryd.prog.keyLits 2 26 [.int .u64 (n : Int)] = some [.int .u64 (n : Int)] := by
    unfold Program.keyLits
    rw [Tryd.underlying26]
    have hw : (Lit.int .u64 (n : Int)).wf = true := by simp [Lit.wf, IntKind.min, IntKind.max, IntKind.signed, IntKind.bits]; omega
    simp only [hw, and_self, if_true]
  have q4 : Tryd.prog.keyLits 2 9 [.string nm] = some [.string nm.data.toList] := by
    unfold Program.keyLits
    rw [Tryd.underlying9]
    simp [hnm]
  unfold Program.keyLits
  rw [Tryd.underlying28]
  simp only [hlen, Tryd.c28]
  rw [if_pos ⟨trivial, by decide +kernel⟩]
  simp only [List.mapM_cons, List.mapM_nil, Tryd.c5, Tryd.c25, Tryd.c26, Tryd.c9, p0, p1, p2, p3, p4, q0, q1 f hf, q1 s hs, q3, q4]
  exact ⟨_, rfl⟩

theorem PK_form (key : List UInt8) : ∃ l f s n nm e, PK key = (rk l f s n nm, e) ∧ f.length = 32 ∧ s.length = 32 ∧ n < 18446744073709551616 ∧ nm.size ≤ maxLen := by
  have bad : ∃ l f s n nm e, (rk 0 z32 z32 0 ⟨#[]⟩, 132) = (rk l f s n nm, e) ∧ f.length = 32 ∧ s.length = 32 ∧ n < 18446744073709551616 ∧ nm.size ≤ maxLen :=
    ⟨0, z32, z32, 0, ⟨#[]⟩, 132, rfl, rfl, rfl, by omega, by unfold maxLen; show 0 ≤ _; omega⟩
  cases key with
  | nil => exact bad
  | cons b rest =>
    simp only [PK]
    split
    · split
      · rename_i h
        exact ⟨b, rest, z32, 0, ⟨#[]⟩, 0, rfl, h, rfl, by omega, by unfold maxLen; show 0 ≤ _; omega⟩
      · exact bad
    · split
      · split
        · rename_i h
          exact ⟨b, _, _, 0, ⟨#[]⟩, 0, rfl, by simp; omega, by simp; omega, by omega, by unfold maxLen; show 0 ≤ _; omega⟩
        · exact bad
      · split
        · split
          · exact ⟨b, z32, z32, _, ⟨#[]⟩, 0, rfl, rfl, rfl, unbig_lt _, by unfold maxLen; show 0 ≤ _; omega⟩
          · exact bad
        · split
          · split
            · rename_i h
              have h32 := (of_decide_eq_true h : nameP rest).2.1
              exact ⟨b, z32, z32, 0, str rest, 0, rfl, rfl, rfl, by omega, by unfold maxLen; rw [str_size]; omega⟩
            · exact bad
          · exact bad

theorem eql_rk (l : UInt8) (f s : List UInt8) (n : Nat) (nm : ByteArray) (hf : f.length = 32) (hs : s.length = 32) (hn : n < 18446744073709551616) (hnm : nm.size ≤ maxLen) (W : World) :
    (Op.equalIn 10000 28 (.agg (rk l f s n nm)) (.agg (rk l f s n nm))).run Tryd.prog W = .ok true W := by
  obtain ⟨L, hL⟩ := rk_lits l f s n nm hf hs hn hnm
  exact run_equalSame W 3 9997 3 28 _ L Tryd.k28 (by unfold Value.formed; rw [Tryd.underlying28]; simp [Tryd.c28, rk_size _ _ _ _ _ hf hs]) hL
theorem Tryd.g28 : Tryd.prog.eqGuardType Tryd.prog.depth 28 = false := by kernel_rfl

set_option maxRecDepth 100000 in
set_option maxHeartbeats 2000000 in
theorem rawParses_walk (A : Option Addr) (n c : Nat) (key : List UInt8) (w : World) (h : RdB w A n c key) : Calls Tryd.prog 3 #[.slice A n c] w fun e w' => e = .returned (.bool true) ∧ Below w.heap.size w w' := by
  obtain ⟨l, f, s, nn, nm, er, hpk, hf, hs, hn, hnm⟩ := PK_form key
  have hk := Lib.hid (fun W => known_calls W)
  have hp := Lib.hid (fun W h => Parse_calls A n c key W h)
  have hr := Lib.hid (fun W h => refParse_calls A n c key W h)
  rw [hpk] at hp hr
  have HEQ := fun W => eql_rk l f s nn nm hf hs hn hnm W
  have hg := Tryd.g28
  have hsz : (rk l f s nn nm).size = 67 := rk_size _ _ _ _ _ hf hs
  have hone : AllOne (rk l f s nn nm).toList := rk_oneCell _ _ _ _ _
  have hT : Hid (AggT Tryd.prog 28 (rk l f s nn nm).size) := by rw [hsz]; exact Tryd.agg28
  have hT2 : Hid (AggT Tryd.prog 28 (rk l f s nn nm).toList.length) := by rw [Array.length_toList, hsz]; exact Tryd.agg28
  have HZ : Hid (67 = (rk l f s nn nm).size) := hsz.symm
  have H := Lib.hid h
  clear h hpk hf hs hn hnm
  generalize rk l f s nn nm = cs at *
  have HON := Lib.hid hone
  clear hone
  go_enter Tryd.func3, Tryd.ntmps3
  go_wp2_with (first | (go_at_call 12; refine (hk.out _).mono ?_; rintro e w1 ⟨rfl, hb1⟩) | (go_at_call 13; refine (hp.out _ (H.out.below hb1)).mono ?_; rintro e w2 ⟨rfl, hb2⟩) | (refine wpList_storeNew rfl rfl 28 (.tmp 3) _ rfl _ _ rfl cs rfl hT.out HZ.out HON.out ?_) | (go_at_call 14; refine (hr.out _ (((H.out.below hb1).below hb2).alloc _)).mono ?_; rintro e w3 ⟨rfl, hb3⟩) | (refine wpList_storeNew rfl rfl 28 (.tmp 5) _ rfl _ _ rfl cs rfl hT.out HZ.out HON.out ?_) | (refine wpList_loadAgg rfl 28 (.tmp 3) rfl w2.heap.size 0 rfl cs.toList hT2.out (cells_past (below_cells (cellsAt_blk (Blk.new w2 28 cs)) hb3 (by simp)) (Nat.lt_of_lt_of_le (by simp) hb3.size) _) ?_) | (refine wpList_loadAgg rfl 28 (.tmp 5) rfl w3.heap.size 0 rfl cs.toList hT2.out (cellsAt_blk (Blk.new w3 28 cs)) ?_))
  go_ret
  exact ⟨rfl, al (thn (al (thn hb1 hb2) _) hb3) _⟩
end Go.Proofs.YtfjfjjcdlgdbcaaDoor
