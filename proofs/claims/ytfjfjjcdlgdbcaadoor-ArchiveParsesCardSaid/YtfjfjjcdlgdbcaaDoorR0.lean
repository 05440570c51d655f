/- Words of the keys' records. -/
import Derived.Test.YtfjfjjcdlgdbcaaDoorA1
import Derived.Test.YtfjfjjcdlgdbcaaDoorA3
namespace Go.Proofs.YtfjfjjcdlgdbcaaDoor
open Go.RowKit

/-- thirty-two zero bytes -/
def z32 : List UInt8 := List.replicate 32 0
/-- the cells of a RawKey -/
def rk (l : UInt8) (f s : List UInt8) (n : Nat) (nm : ByteArray) : Array Value := (bv l :: (bvs f ++ (bvs s ++ [.int .u64 n, .string nm]))).toArray
theorem rk_size (l : UInt8) (f s : List UInt8) (n : Nat) (nm : ByteArray) (hf : f.length = 32) (hs : s.length = 32) : (rk l f s n nm).size = 67 := by
  simp [rk, bvs_length, hf, hs]
theorem z32_length : z32.length = 32 := rfl
theorem rk_zero : Tryd.zeroCells28 = rk 0 z32 z32 0 ⟨#[]⟩ := by kernel_rfl
theorem rk_oneCell (l : UInt8) (f s : List UInt8) (n : Nat) (nm : ByteArray) : AllOne (rk l f s n nm).toList := by
  intro v hv
  simp only [rk, List.mem_cons, List.mem_append] at hv
  rcases hv with rfl | hv | hv | rfl | rfl | hv
  · rfl
  · exact oneCell_bvs _ _ hv
  · exact oneCell_bvs _ _ hv
  · rfl
  · rfl
  · cases hv
theorem rk_first (l : UInt8) (f s g : List UInt8) (n : Nat) (nm : ByteArray) (hf : f.length = 32) (hg : g.length = 32) : ovw (rk l f s n nm) 1 (bvs g) = rk l g s n nm := by
  simp [ovw, rk, bvs_length, hf, hg, List.drop_append, Nat.add_comm]
theorem rk_second (l : UInt8) (f s g : List UInt8) (n : Nat) (nm : ByteArray) (hf : f.length = 32) (hs : s.length = 32) (hg : g.length = 32) : ovw (rk l f s n nm) 33 (bvs g) = rk l f g n nm := by
  simp [ovw, rk, bvs_length, hf, hg, hs, List.drop_append, List.take_append, Nat.add_comm]
theorem rk_set0 (l b : UInt8) (f s : List UInt8) (n : Nat) (nm : ByteArray) : (rk l f s n nm).setIfInBounds 0 (.int .u8 (b.toNat : Int)) = rk b f s n nm := by
  simp [rk, bv]
theorem rk_set3 (l : UInt8) (f s : List UInt8) (n m : Nat) (nm : ByteArray) (hf : f.length = 32) (hs : s.length = 32) : (rk l f s n nm).setIfInBounds 65 (.int .u64 (m : Int)) = rk l f s m nm := by
  have e : bv l :: (bvs f ++ (bvs s ++ [.int .u64 n, .string nm])) = (bv l :: (bvs f ++ bvs s)) ++ [.int .u64 n, .string nm] := by simp
  simp only [rk, List.setIfInBounds_toArray, e]
  rw [List.set_append_right _ _ (by simp [bvs_length, hf, hs])]
  simp [bvs_length, hf, hs]
theorem rk_set4 (l : UInt8) (f s : List UInt8) (n : Nat) (nm nm' : ByteArray) (hf : f.length = 32) (hs : s.length = 32) : (rk l f s n nm).setIfInBounds 66 (.string nm') = rk l f s n nm' := by
  have e : bv l :: (bvs f ++ (bvs s ++ [.int .u64 n, .string nm])) = (bv l :: (bvs f ++ bvs s)) ++ [.int .u64 n, .string nm] := by simp
  simp only [rk, List.setIfInBounds_toArray, e]
  rw [List.set_append_right _ _ (by simp [bvs_length, hf, hs])]
  simp [bvs_length, hf, hs]
theorem rk_size0 (l : UInt8) (n : Nat) (nm : ByteArray) : (rk l z32 z32 n nm).size = 67 := rk_size _ _ _ _ _ rfl rfl
theorem build28 (b : UInt8) (w : World) : (Instr.build 28 #[(0, .int .u8 (b.toNat : Int))]).run Tryd.prog w = .ok (.agg (rk b z32 z32 0 ⟨#[]⟩)) w := by kernel_rfl

end Go.Proofs.YtfjfjjcdlgdbcaaDoor
