/- the texts FShelf, M32, C0, M33, M34, M35, M36 of this proof, one behind the other -/
import Derived.Test.YtejnfahfjmeabaaGreatDoorK4
import Derived.Shelf.Strings.Builder1
import Derived.Shelf.Strings.Builder2
import Derived.Shelf.Strings.OnBuilder
import Derived.Shelf.Strings.Trim
import Derived.Shelf.Small.Utf8
import Derived.Shelf.Small.Strs
import Derived.Shelf.Utf8.RuneCount
import Derived.Shelf.Strings.Search1
import Derived.Shelf.Strings.Search2
import Derived.Shelf.Strings.Search3
import Derived.Shelf.Strings.Count
import Derived.Shelf.LaysM
import Derived.Shelf.Strings.Shaped
import Derived.Shelf.Strings.Split
import Derived.Shelf.Strings.SplitShaped
import Derived.Shelf.Unicode.Decode
import Derived.Shelf.Strings.Runes
import Derived.Shelf.Strings.RuneCount
import Derived.Shelf.Strings.AsciiSet
import Derived.Shelf.Strings.Explode
import Derived.Shelf.Unicode.DecodeSlow
import Derived.Shelf.Unicode.DecodeAny
import Derived.Shelf.Unicode.DecodeLast
import Derived.Shelf.Slices.Equal
import Derived.Ground.Names2Prog
import Derived.Shelf.Slices.Clone
import Derived.Ground.SlgnProg
import Derived.Shelf.SlicesE.Clone
import Derived.Test.YtejnfahfjmeabaaGreatDoorProg
import Derived.Test.YtejnfahfjmeabaaGreatDoorCards
import Derived.ChangeOld
import Derived.PinnedBridge
import Derived.Lay
import Derived.LaidOnce
import Derived.LaidHandle
import Derived.Stop.Joined
import Derived.SliceStrings
import Derived.Deep.DeepHandedRow
import Derived.Shelf.Vars
import Derived.Lib.SlTrimSet
import Derived.Shelf.Strings.SlTrimAscii
set_option linter.unusedSimpArgs false
set_option linter.unusedVariables false
namespace Go.Proofs
open Go.Shelf
def Tryz.lays156_ren : Go.Shelf.Ren := ⟨fun | 156 => 106 | 165 => 120 | 166 => 121 | 169 => 122 | 240 => 134 | 241 => 135 | 276 => 138 | 277 => 139 | n => n, fun | 31 => 32 | 9 => 9 | 3 => 3 | 4 => 4 | 0 => 0 | 20 => 20 | 72 => 210 | 76 => 211 | 70 => 208 | 37 => 34 | 75 => 29 | 127 => 226 | 164 => 130 | 5 => 5 | 80 => 213 | n => n, fun | n => n⟩
theorem Tryz.lays156 : Go.Proofs.Lays.n156 Tryz.prog Tryz.lays156_ren := {
  mixed := by kernel_rfl
  f156 := Tryz.func106.trans (congrArg some (by kernel_rfl))
  f165 := Tryz.func120.trans (congrArg some (by kernel_rfl))
  f166 := Tryz.func121.trans (congrArg some (by kernel_rfl))
  f169 := Tryz.func122.trans (congrArg some (by kernel_rfl))
  f240 := Tryz.func134.trans (congrArg some (by kernel_rfl))
  f241 := Tryz.func135.trans (congrArg some (by kernel_rfl))
  f276 := Tryz.func138.trans (congrArg some (by kernel_rfl))
  f277 := Tryz.func139.trans (congrArg some (by kernel_rfl))
  t0 := Tryz.underlying0
  a0 := Tryz.isAgg0
  z0 := Tryz.sizeOf0
  v0 := Tryz.zeroValue0
  t3 := Tryz.underlying3
  a3 := Tryz.isAgg3
  z3 := Tryz.sizeOf3
  v3 := Tryz.zeroValue3
  t4 := Tryz.underlying4
  a4 := Tryz.isAgg4
  z4 := Tryz.sizeOf4
  v4 := Tryz.zeroValue4
  t9 := Tryz.underlying9
  a9 := Tryz.isAgg9
  z9 := Tryz.sizeOf9
  v9 := Tryz.zeroValue9
  t20 := Tryz.underlying20
  a20 := Tryz.isAgg20
  z20 := Tryz.sizeOf20
  v20 := Tryz.zeroValue20
  t31 := Tryz.underlying32
  a31 := Tryz.isAgg32
  z31 := Tryz.sizeOf32
  v31 := Tryz.zeroValue32
  t37 := Tryz.underlying34
  a37 := Tryz.isAgg34
  z37 := Tryz.sizeOf34
  v37 := Tryz.zeroValue34
  t70 := Tryz.underlying208
  a70 := Tryz.isAgg208
  z70 := Tryz.sizeOf208
  v70 := Tryz.zeroValue208
  t72 := Tryz.underlying210
  a72 := Tryz.isAgg210
  z72 := Tryz.sizeOf210
  v72 := Tryz.zeroValue210
  t75 := Tryz.underlying29
  a75 := Tryz.isAgg29
  z75 := Tryz.sizeOf29
  v75 := Tryz.zeroValue29
  t76 := Tryz.underlying211
  a76 := Tryz.isAgg211
  z76 := Tryz.sizeOf211
  v76 := Tryz.zeroValue211
  t127 := Tryz.underlying226
  a127 := Tryz.isAgg226
  z127 := Tryz.sizeOf226
  v127 := Tryz.zeroValue226
  t164 := Tryz.underlying130
  a164 := Tryz.isAgg130
  z164 := Tryz.sizeOf130
  v164 := Tryz.zeroValue130 }
theorem Tryz.Builder_Extra_156 : Builder.Extra Tryz.prog Tryz.lays156_ren := {
  sizeBuilder := by kernel_rfl
  liesBuilder := by kernel_rfl
  t5 := Tryz.underlying5
  a5 := Tryz.isAgg5
  z5 := Tryz.sizeOf5
  v5 := Tryz.zeroValue5
  infoByte := by kernel_rfl
  cellsByte := by kernel_rfl
  sizeByte := by kernel_rfl
  neB5 := by decide }
open Go.RowKit in
theorem Tryz.strings_Join (bk o c : Nat) (xs : List ByteArray) (sep : ByteArray) (w : World) (hcells : ∀ (j : Nat) x, xs[j]? = some x → w.cell? ⟨bk, o + j, none⟩ = some (.string x)) (hbk : bk < w.heap.size) (hN : xs.length ≤ 140737488355328) (hcap : xs.length ≤ c) (hlen : (Lib.join (xs.map (·.data.toList)) sep.data.toList).length ≤ 140737488355328) :
    Calls Tryz.prog 106 #[.slice (some ⟨bk, o, none⟩) xs.length c, .string sep] w fun e w' => e = .returned (.string ⟨(Lib.join (xs.map (·.data.toList)) sep.data.toList).toArray⟩) ∧ Below w.heap.size w w' := Any.strings_Join Tryz.lays156 Tryz.Builder_Extra_156 bk o c xs sep w hcells hbk hN hcap hlen
def Tryz.lays160_ren : Go.Shelf.Ren := ⟨fun | 160 => 52 | 232 => 78 | 231 => 77 | 227 => 79 | 234 => 81 | 233 => 80 | 236 => 83 | 235 => 82 | 228 => 102 | 271 => 105 | 151 => 104 | 197 => 103 | 120 => 119 | 152 => 118 | 260 => 117 | 137 => 130 | 119 => 131 | 224 => 132 | 225 => 133 | 217 => 136 | 266 => 140 | n => n, fun | 9 => 9 | 4 => 4 | 3 => 3 | 5 => 5 | 117 => 151 | 116 => 150 | 0 => 0 | 124 => 154 | 21 => 21 | 105 => 188 | 46 => 197 | 119 => 220 | 139 => 223 | 138 => 222 | n => n, fun | 3 => 1 | 4 => 2 | n => n⟩
theorem Tryz.lays160 : Go.Proofs.Lays.n160 Tryz.prog Tryz.lays160_ren := {
  mixed := by kernel_rfl
  f119 := Tryz.func131.trans (congrArg some (by kernel_rfl))
  f120 := Tryz.func119.trans (congrArg some (by kernel_rfl))
  f137 := Tryz.func130.trans (congrArg some (by kernel_rfl))
  f151 := Tryz.func104.trans (congrArg some (by kernel_rfl))
  f152 := Tryz.func118.trans (congrArg some (by kernel_rfl))
  f160 := Tryz.func52.trans (congrArg some (by kernel_rfl))
  f197 := Tryz.func103.trans (congrArg some (by kernel_rfl))
  f217 := Tryz.func136.trans (congrArg some (by kernel_rfl))
  f224 := Tryz.func132.trans (congrArg some (by kernel_rfl))
  f225 := Tryz.func133.trans (congrArg some (by kernel_rfl))
  f227 := Tryz.func79.trans (congrArg some (by kernel_rfl))
  f228 := Tryz.func102.trans (congrArg some (by kernel_rfl))
  f231 := Tryz.func77.trans (congrArg some (by kernel_rfl))
  f232 := Tryz.func78.trans (congrArg some (by kernel_rfl))
  f233 := Tryz.func80.trans (congrArg some (by kernel_rfl))
  f234 := Tryz.func81.trans (congrArg some (by kernel_rfl))
  f235 := Tryz.func82.trans (congrArg some (by kernel_rfl))
  f236 := Tryz.func83.trans (congrArg some (by kernel_rfl))
  f260 := Tryz.func117.trans (congrArg some (by kernel_rfl))
  f266 := Tryz.func140.trans (congrArg some (by kernel_rfl))
  f271 := Tryz.func105.trans (congrArg some (by kernel_rfl))
  t0 := Tryz.underlying0
  a0 := Tryz.isAgg0
  z0 := Tryz.sizeOf0
  v0 := Tryz.zeroValue0
  t3 := Tryz.underlying3
  a3 := Tryz.isAgg3
  z3 := Tryz.sizeOf3
  v3 := Tryz.zeroValue3
  t4 := Tryz.underlying4
  a4 := Tryz.isAgg4
  z4 := Tryz.sizeOf4
  v4 := Tryz.zeroValue4
  t5 := Tryz.underlying5
  a5 := Tryz.isAgg5
  z5 := Tryz.sizeOf5
  v5 := Tryz.zeroValue5
  t9 := Tryz.underlying9
  a9 := Tryz.isAgg9
  z9 := Tryz.sizeOf9
  v9 := Tryz.zeroValue9
  t21 := Tryz.underlying21
  a21 := Tryz.isAgg21
  z21 := Tryz.sizeOf21
  v21 := Tryz.zeroValue21
  t46 := Tryz.underlying197
  a46 := Tryz.isAgg197
  z46 := Tryz.sizeOf197
  v46 := Tryz.zeroValue197
  t105 := Tryz.underlying188
  a105 := Tryz.isAgg188
  z105 := Tryz.sizeOf188
  v105 := Tryz.zeroValue188
  t116 := Tryz.underlying150
  a116 := Tryz.isAgg150
  z116 := Tryz.sizeOf150
  t117 := Tryz.underlying151
  a117 := Tryz.isAgg151
  z117 := Tryz.sizeOf151
  v117 := Tryz.zeroValue151
  t119 := Tryz.underlying220
  a119 := Tryz.isAgg220
  z119 := Tryz.sizeOf220
  t124 := Tryz.underlying154
  a124 := Tryz.isAgg154
  z124 := Tryz.sizeOf154
  v124 := Tryz.zeroValue154
  t138 := Tryz.underlying222
  a138 := Tryz.isAgg222
  z138 := Tryz.sizeOf222
  v138 := Tryz.zeroValue222
  t139 := Tryz.underlying223
  a139 := Tryz.isAgg223
  z139 := Tryz.sizeOf223
  v139 := Tryz.zeroValue223
  g3 := by kernel_rfl
  g4 := by kernel_rfl }
def Tryz.lays146_ren : Go.Shelf.Ren := ⟨fun | 146 => 59 | 221 => 92 | 268 => 108 | 138 => 109 | 143 => 110 | 195 => 123 | 197 => 103 | 218 => 124 | 219 => 125 | 260 => 117 | 217 => 136 | 225 => 133 | 224 => 132 | 267 => 137 | 266 => 140 | 314 => 141 | n => n, fun | 9 => 9 | 31 => 32 | 3 => 3 | 4 => 4 | 0 => 0 | 105 => 188 | 21 => 21 | 5 => 5 | 46 => 197 | 119 => 220 | 139 => 223 | 138 => 222 | 146 => 229 | 51 => 161 | n => n, fun | 1 => 3 | 3 => 1 | 4 => 2 | n => n⟩
theorem Tryz.lays146 : Go.Proofs.Lays.n146 Tryz.prog Tryz.lays146_ren := {
  mixed := by kernel_rfl
  f138 := Tryz.func109.trans (congrArg some (by kernel_rfl))
  f143 := Tryz.func110.trans (congrArg some (by kernel_rfl))
  f146 := Tryz.func59.trans (congrArg some (by kernel_rfl))
  f195 := Tryz.func123.trans (congrArg some (by kernel_rfl))
  f197 := Tryz.func103.trans (congrArg some (by kernel_rfl))
  f217 := Tryz.func136.trans (congrArg some (by kernel_rfl))
  f218 := Tryz.func124.trans (congrArg some (by kernel_rfl))
  f219 := Tryz.func125.trans (congrArg some (by kernel_rfl))
  f221 := Tryz.func92.trans (congrArg some (by kernel_rfl))
  f224 := Tryz.func132.trans (congrArg some (by kernel_rfl))
  f225 := Tryz.func133.trans (congrArg some (by kernel_rfl))
  f260 := Tryz.func117.trans (congrArg some (by kernel_rfl))
  f266 := Tryz.func140.trans (congrArg some (by kernel_rfl))
  f267 := Tryz.func137.trans (congrArg some (by kernel_rfl))
  f268 := Tryz.func108.trans (congrArg some (by kernel_rfl))
  f314 := Tryz.func141.trans (congrArg some (by kernel_rfl))
  t0 := Tryz.underlying0
  a0 := Tryz.isAgg0
  z0 := Tryz.sizeOf0
  v0 := Tryz.zeroValue0
  t3 := Tryz.underlying3
  a3 := Tryz.isAgg3
  z3 := Tryz.sizeOf3
  v3 := Tryz.zeroValue3
  t4 := Tryz.underlying4
  a4 := Tryz.isAgg4
  z4 := Tryz.sizeOf4
  v4 := Tryz.zeroValue4
  t5 := Tryz.underlying5
  a5 := Tryz.isAgg5
  z5 := Tryz.sizeOf5
  v5 := Tryz.zeroValue5
  t9 := Tryz.underlying9
  a9 := Tryz.isAgg9
  z9 := Tryz.sizeOf9
  v9 := Tryz.zeroValue9
  t21 := Tryz.underlying21
  a21 := Tryz.isAgg21
  z21 := Tryz.sizeOf21
  v21 := Tryz.zeroValue21
  t31 := Tryz.underlying32
  a31 := Tryz.isAgg32
  z31 := Tryz.sizeOf32
  v31 := Tryz.zeroValue32
  t46 := Tryz.underlying197
  a46 := Tryz.isAgg197
  z46 := Tryz.sizeOf197
  v46 := Tryz.zeroValue197
  t51 := Tryz.underlying161
  a51 := Tryz.isAgg161
  z51 := Tryz.sizeOf161
  v51 := Tryz.zeroValue161
  t105 := Tryz.underlying188
  a105 := Tryz.isAgg188
  z105 := Tryz.sizeOf188
  v105 := Tryz.zeroValue188
  t119 := Tryz.underlying220
  a119 := Tryz.isAgg220
  z119 := Tryz.sizeOf220
  t138 := Tryz.underlying222
  a138 := Tryz.isAgg222
  z138 := Tryz.sizeOf222
  v138 := Tryz.zeroValue222
  t139 := Tryz.underlying223
  a139 := Tryz.isAgg223
  z139 := Tryz.sizeOf223
  v139 := Tryz.zeroValue223
  t146 := Tryz.underlying229
  a146 := Tryz.isAgg229
  z146 := Tryz.sizeOf229
  v146 := Tryz.zeroValue229
  g1 := by kernel_rfl
  g3 := by kernel_rfl
  g4 := by kernel_rfl }
open Go.RowKit Go.Lib in
theorem Tryz.strings_Split (s sep : ByteArray) (m : Int) (w : World) (hs : s.size < 4294967281) (hm : w.cell? ⟨3, 0, none⟩ = some (.int .i64 m)) (h1 : 1 ≤ sep.size) :
    Calls Tryz.prog 59 #[.string s, .string sep] w fun e w' =>
      e = .returned (.slice (some ⟨w.heap.size, 0, none⟩) (Lib.countB s sep + 1) (Lib.countB s sep + 1)) ∧ w' = w.alloc (.cells ((Lib.splitB sep 0 (Lib.countB s sep) s).map Value.string).toArray 9) := Any.strings_Split Tryz.lays146 (by kernel_rfl) s sep m w hs hm h1
def Tryz.lays193_ren : Go.Shelf.Ren := ⟨fun | 193 => 58 | n => n, fun | 31 => 32 | 9 => 9 | 4 => 4 | 3 => 3 | 0 => 0 | n => n, fun | n => n⟩
theorem Tryz.lays193 : Go.Proofs.Lays.n193 Tryz.prog Tryz.lays193_ren := {
  mixed := by kernel_rfl
  f193 := Tryz.func58.trans (congrArg some (by kernel_rfl))
  t0 := Tryz.underlying0
  a0 := Tryz.isAgg0
  z0 := Tryz.sizeOf0
  v0 := Tryz.zeroValue0
  t3 := Tryz.underlying3
  a3 := Tryz.isAgg3
  z3 := Tryz.sizeOf3
  v3 := Tryz.zeroValue3
  t4 := Tryz.underlying4
  a4 := Tryz.isAgg4
  z4 := Tryz.sizeOf4
  v4 := Tryz.zeroValue4
  t9 := Tryz.underlying9
  a9 := Tryz.isAgg9
  z9 := Tryz.sizeOf9
  v9 := Tryz.zeroValue9
  t31 := Tryz.underlying32
  a31 := Tryz.isAgg32
  z31 := Tryz.sizeOf32
  v31 := Tryz.zeroValue32 }
open Go.RowKit Go.Lib in
theorem Tryz.slices_Equal_string (b1 o1 n c b2 o2 m d : Nat) (xs ys : List ByteArray) (w : World) (hx : n ≤ xs.length) (hy : m ≤ ys.length) (hbig : n ≤ 9223372036854775807) (hbig2 : m ≤ 9223372036854775807) (hc1 : ∀ j, j < xs.length → w.cell? ⟨b1, o1 + j, none⟩ = some (.string (xs.getD j ByteArray.empty))) (hc2 : ∀ j, j < ys.length → w.cell? ⟨b2, o2 + j, none⟩ = some (.string (ys.getD j ByteArray.empty))) :
    Calls Tryz.prog 58 #[.slice (some ⟨b1, o1, none⟩) n c, .slice (some ⟨b2, o2, none⟩) m d] w fun e w' => e = .returned (.bool (decide (xs.take n = ys.take m))) ∧ ∃ q, w' = w.drewN q := Any.slices_Equal_string Tryz.lays193 b1 o1 n c b2 o2 m d xs ys w hx hy hbig hbig2 hc1 hc2
open Go.RowKit Go.Lib in
theorem Tryz.slices_Equal_string_empty (a1 a2 : Option Addr) (c m d : Nat) (w : World) (hbig2 : m ≤ 9223372036854775807) :
    Calls Tryz.prog 58 #[.slice a1 0 c, .slice a2 m d] w fun e w' => e = .returned (.bool (decide (m = 0))) ∧ w' = w := Any.slices_Equal_string_empty Tryz.lays193 a1 a2 c m d w hbig2
def Tryz.laysNm216_ren : Go.Shelf.Ren := ⟨fun | 16 => 34 | n => n, fun | 24 => 32 | 9 => 9 | 4 => 4 | n => n, fun | n => n⟩
theorem Tryz.laysNm216 : Go.Proofs.Lays2.n16 Tryz.prog Tryz.laysNm216_ren := {
  mixed := by kernel_rfl
  f16 := Tryz.func34.trans (congrArg some (by kernel_rfl))
  t4 := Tryz.underlying4
  a4 := Tryz.isAgg4
  z4 := Tryz.sizeOf4
  v4 := Tryz.zeroValue4
  t9 := Tryz.underlying9
  a9 := Tryz.isAgg9
  z9 := Tryz.sizeOf9
  v9 := Tryz.zeroValue9
  t24 := Tryz.underlying32
  a24 := Tryz.isAgg32
  z24 := Tryz.sizeOf32
  v24 := Tryz.zeroValue32
  i9 := by kernel_rfl }
open Go.RowKit Go.Lib in
theorem Tryz.slices_Clone_string (b off n c : Nat) (zs : List ByteArray) (w : World) (hz : n ≤ zs.length) (hbig : n * 16 ≤ 140737488355328) (hc : ∀ j, j < zs.length → w.cell? ⟨b, off + j, none⟩ = some (.string (zs.getD j ByteArray.empty))) :
    Calls Tryz.prog 34 #[.slice (some ⟨b, off, none⟩) n c] w fun e w' => ∃ v', e = .returned v' ∧ w'.ownsRow w.heap.size 9 1 v' n ((zs.take n).map (Value.string)) ∧ v' ≠ .slice none 0 0 ∧ Below w.heap.size w w' := Any.slices_Clone_string Tryz.laysNm216 b off n c zs w hz hbig hc
open Go.RowKit Go.Lib in
theorem Tryz.slices_Clone_string_nil (n c : Nat) (w : World) :
    Calls Tryz.prog 34 #[.slice none n c] w fun e w' => e = .returned (.slice none 0 0) ∧ w' = w := Any.slices_Clone_string_nil Tryz.laysNm216 n c w
open Go.RowKit Go.Lib in
theorem Tryz.slices_Clone_string_zero (a : Addr) (c : Nat) (w : World) :
    Calls Tryz.prog 34 #[.slice (some a) 0 c] w fun e w' => ∃ v', e = .returned v' ∧ w'.ownsRow w.heap.size 9 1 v' 0 [] ∧ v' ≠ .slice none 0 0 ∧ Below w.heap.size w w' := Any.slices_Clone_string_zero Tryz.laysNm216 a c w
end Go.Proofs
namespace Go.Proofs.YtejnfahfjmeabaaGreatDoor
open Go.RowKit
set_option linter.unusedSimpArgs false
set_option linter.unusedVariables false

/-- what the library's variables hold -/
structure Glob (w : World) : Prop where
  err : ErrG w
  max : ∃ m, w.cell? ⟨3, 0, none⟩ = some (.int .i64 m)
theorem Glob.below {w w' : World} (h : Glob w) (hb : Below w.heap.size w w') : Glob w' := ⟨h.err.below hb, by obtain ⟨m, hm⟩ := h.max; exact ⟨m, cell_below' hb hm⟩⟩
theorem Glob.upd {w w' : World} {s s' : Blocks} (h : Glob w) (hu : Upd s s' w w') (h0 : ¬ s 0) (h3 : ¬ s 3) : Glob w' := ⟨h.err.upd hu h0, by obtain ⟨m, hm⟩ := h.max; exact ⟨m, (World.cell?_of_block (a := ⟨3, 0, none⟩) (hu.block 3 (World.block_lt_of_cell? _ _ hm) h3)).trans hm⟩⟩
/-- a row of strings reads as these -/
def RdT (w : World) (A : Option Addr) (n c : Nat) (ss : List (List UInt8)) : Prop :=
  ss.length = n ∧ n ≤ c ∧ c ≤ maxLen ∧ (0 < n → ∃ g o, A = some ⟨g, o, none⟩ ∧ ∀ (j : Nat) s, ss[j]? = some s → w.cell? ⟨g, o + j, none⟩ = some (.string (str s)))
theorem RdT.keep {w w' : World} {A : Option Addr} {n c : Nat} {ss : List (List UInt8)} {t : Blocks} (h : RdT w A n c ss) (hk : KeepsOn t w w') (ht : ∀ ad, A = some ad → t ad.block) : RdT w' A n c ss :=
  ⟨h.1, h.2.1, h.2.2.1, fun hn => by
    obtain ⟨g, o, e, hc⟩ := h.2.2.2 hn
    exact ⟨g, o, e, fun j s hs => (World.cell?_of_block (a := ⟨g, o + j, none⟩) (hk g (ht _ e))).trans (hc j s hs)⟩⟩
theorem RdT.below {w w' : World} {A : Option Addr} {n c : Nat} {ss : List (List UInt8)} (h : RdT w A n c ss) (hb : Below w.heap.size w w') : RdT w' A n c ss :=
  ⟨h.1, h.2.1, h.2.2.1, fun hn => by
    obtain ⟨g, o, e, hc⟩ := h.2.2.2 hn
    exact ⟨g, o, e, fun j s hs => cell_below' hb (hc j s hs)⟩⟩
/-- tables that may be -/
def nameOkF (s : List UInt8) : Prop := 1 ≤ s.length ∧ s.length ≤ 16 ∧ ∀ b ∈ s, 97 ≤ b.toNat ∧ b.toNat ≤ 122
def TabsOk (T : List (List UInt8)) : Prop := 1 ≤ T.length ∧ T.length ≤ 8 ∧ (∀ s ∈ T, nameOkF s) ∧ T.Nodup
def tabB (T : List (List UInt8)) : List UInt8 := Lib.join T [32]
theorem join_len32 (ss : List (List UInt8)) (m : Nat) (h : ∀ s ∈ ss, s.length ≤ m) : (Lib.join ss [32]).length ≤ ss.length * (m + 1) := by
  cases ss with
  | nil => simp [Lib.join_nil]
  | cons x r =>
    have hx : x.length ≤ m := h x (by simp)
    have key : ∀ r : List (List UInt8), (∀ s ∈ r, s.length ≤ m) → (Lib.joinTail [32] r).length ≤ r.length * (m + 1) := by
      intro r
      induction r with
      | nil => intro _; simp [Lib.joinTail]
      | cons y r ih =>
        intro hr
        have h1 := ih (fun s hs => hr s (by simp [hs]))
        have h2 := hr y (by simp)
        simp only [Lib.joinTail, List.map_cons, List.flatten_cons, List.length_append, List.length_cons, List.length_nil, Nat.add_mul] at h1 ⊢
        omega
    rw [Lib.join_cons]
    have := key r (fun s hs => h s (by simp [hs]))
    simp only [List.length_append, List.length_cons, Nat.add_mul]
    omega
theorem tabB_len {T : List (List UInt8)} (h : TabsOk T) : (tabB T).length ≤ 136 := by
  have := join_len32 T 16 (fun s hs => (h.2.2.1 s hs).2.1)
  have h2 : T.length * (16 + 1) ≤ 8 * 17 := Nat.mul_le_mul h.2.1 (by omega)
  unfold tabB
  omega
theorem Join_calls (A : Option Addr) (n c : Nat) (T : List (List UInt8)) (w : World) (h : RdT w A n c T) (hT : TabsOk T) :
    Calls Tryz.prog 106 #[.slice A n c, .string (str [32])] w fun e w' => e = .returned (.string (str (tabB T))) ∧ Below w.heap.size w w' := by
  obtain ⟨h1, h2, h3, h4⟩ := h
  obtain ⟨g, o, rfl, hc⟩ := h4 (by have := hT.1; omega)
  subst h1
  have e1 : (T.map str).map (·.data.toList) = T := by rw [List.map_map]; exact List.map_id'' (fun _ => rfl) T
  have hl := tabB_len hT
  have h0 : T[0]? = some (T.getD 0 []) := by
    rw [List.getD_eq_getElem?_getD, List.getElem?_eq_getElem (by have := hT.1; omega)]
    rfl
  have hlt : g < w.heap.size := World.block_lt_of_cell? w _ (hc 0 _ h0)
  have := Tryz.strings_Join g o c (T.map str) (str [32]) w (fun j x hx => by
    rw [List.getElem?_map, Option.map_eq_some_iff] at hx
    obtain ⟨s, h1, rfl⟩ := hx
    exact hc j s h1) hlt (by rw [List.length_map]; have := hT.2.1; omega) (by rw [List.length_map]; exact h2) (by rw [e1]; exact Nat.le_trans hl (by omega))
  rw [e1, List.length_map] at this
  exact this
theorem toB_run (bs : List UInt8) (w : World) (hl : bs.length ≤ 140737488355328) : ∃ c w', (convert 9 34 (.string (str bs))).run Tryz.prog w = .ok (.slice (some ⟨w.heap.size, 0, none⟩) bs.length c) w' ∧ RdB w' (some ⟨w.heap.size, 0, none⟩) bs.length c bs ∧ Below w.heap.size w w' := by
  have hr := run_bytes_of_string (P := Tryz.prog) w 9 34 5 (str bs) Tryz.underlying9 Tryz.underlying34 Tryz.underlying5
  have hge := grownCap_ge w (str bs).size 0 5
  have hle := grownCap_le_maxLen w (str bs).size 0 5 (by rw [str_size]; unfold maxLen; omega)
  rw [str_size] at hr hge hle
  refine ⟨_, _, hr, ⟨rfl, hge, hle, fun hn => ⟨_, rfl, fun j b hb => ?_⟩⟩, ((Below.refl _ w).drew).alloc (Nat.le_refl _) _⟩
  have hj : j < bs.length := (List.getElem?_eq_some_iff.1 hb).1
  have e0 : (⟨w.heap.size, 0, none⟩ : Addr).add j = ⟨w.heap.size, j, none⟩ := by unfold Addr.add; split <;> simp_all
  rw [e0, cell_of_row _ w.heap.size j _ 5 _ (heap_alloc_new w.drew _)]
  unfold bytesRow
  rw [Array.getElem?_append_left (by rw [Array.size_map]; exact hj), Array.getElem?_map]
  show Option.map _ (bs.toArray[j]?) = _
  rw [List.getElem?_toArray, hb]
  rfl
def headL (T : List (List UInt8)) : List UInt8 := frameN (tabB T)
set_option maxRecDepth 100000 in
set_option maxHeartbeats 1000000 in
theorem head_calls (A : Option Addr) (n c : Nat) (T : List (List UInt8)) (w : World) (h : RdT w A n c T) (hT : TabsOk T) : Calls Tryz.prog 87 #[.slice A n c] w (NewB w (headL T)) := by
  have HJ := Lib.hid (Join_calls A n c T w h hT)
  have HL := Lib.hid (tabB_len hT)
  have e32 : (⟨#[32]⟩ : ByteArray) = str [32] := rfl
  unfold headL
  generalize tabB T = bs at *
  clear h hT
  go_enter Tryz.func87, Tryz.ntmps87
  rw [e32]
  go_wp2_with fail
  refine HJ.out.mono ?_
  rintro e w1 ⟨rfl, hb1⟩
  have HB := Lib.hid hb1
  obtain ⟨c2, w2, hr, hrd, hb2⟩ := toB_run bs w1 (by have := HL.out; omega)
  have HF := Lib.hid (framed_calls _ _ _ bs w2 hrd (by have := HL.out; omega))
  have HB2 := Lib.hid hb2
  clear hb1 hrd hb2
  go_wp2_with fail
  refine HF.out.mono ?_
  intro e w3 hnb
  obtain ⟨v, rfl, ho, hb3⟩ := hnb
  have hfin : Hid (NewB w (frameN bs) (.returned v) w3) := ⟨v, rfl, ho.more (Nat.le_trans HB.out.size HB2.out.size), thn (thn HB.out HB2.out) hb3⟩
  clear ho hb3
  go_wp2_with fail
  go_ret
  exact hfin.out
end Go.Proofs.YtejnfahfjmeabaaGreatDoor
namespace Go.Proofs.YtejnfahfjmeabaaGreatDoor
open Go.ChangeShapes Go.WideShapes Go.ChangeAt Go.RowKit
set_option linter.unusedSimpArgs false
set_option linter.unusedVariables false

def frL : List (String × DataW Unit) := [("unicode/utf8.acceptRanges", Rows.laid_unicode_utf8_acceptRanges), ("errors.errorType", Rows.laid_errors_errorType), ("unicode/utf8.first", Rows.laid_unicode_utf8_first)]
def frP : List (String × DataW Unit) := [("unicode/utf8.acceptRanges", Rows.laid_unicode_utf8_acceptRanges), ("unicode/utf8.first", Rows.laid_unicode_utf8_first)]
def frE : List (String × DataW Unit) := [("errors.errorType", Rows.laid_errors_errorType)]
theorem frE_is : (frL.filter fun x => x.2.handleName?.isSome) = frE := rfl
theorem frP_is : (frL.filter fun x => x.2.handleName?.isNone) = frP := rfl
theorem Tryz.et : Tryz.prog.globalNamed "errors.errorType" = some 0 := by kernel_rfl
theorem Tryz.rt : (Tryz.prog.cutTypes.find? (·.1 == "internal/reflectlite.rtype")).map (·.2) = some 176 := by kernel_rfl
theorem Tryz.oneRow : ((List.range Tryz.prog.types.size).filter fun t => Tryz.prog.rowNamed t [101, 114, 114, 111, 114]) = [29] := by kernel_rfl
theorem errG_of {W : World} (hL : laidMetH Tryz.prog frL W) : ErrG W := by
  have h' : laidMet Tryz.prog frP W ∧ handlesMet Tryz.prog frE W := hL
  obtain ⟨name, u, ty, e1, e2, e3, e4, e5⟩ := h'.2 _ (List.mem_singleton.2 rfl)
  have en : name = [101, 114, 114, 111, 114] := (Option.some.inj e1).symm
  subst en
  obtain rfl := Option.some.inj (Tryz.rt.symm.trans e2)
  have hm : ty ∈ (List.range Tryz.prog.types.size).filter fun t => Tryz.prog.rowNamed t [101, 114, 114, 111, 114] := List.mem_filter.2 ⟨List.mem_range.2 e3, e4⟩
  rw [Tryz.oneRow] at hm
  obtain rfl := List.mem_singleton.1 hm
  have hh : typeHandle Tryz.prog 29 = .pointer (some ⟨4, 29, none⟩) := by kernel_rfl
  rw [hh] at e5
  unfold ErrG
  simpa using World.var?_cell Tryz.et e5 0
theorem glob_of {W : World} (hL : laidMetH Tryz.prog frL W) (hS : W.ShapedOpen Tryz.prog) : Glob W :=
  ⟨errG_of hL, cell_of_shapedOpen_int (P := Tryz.prog) (g := 3) (t := 3) (zero := #[.int .i64 0]) hS (of_decide_eq_true (by kernel_rfl)) (by kernel_rfl) rfl (by kernel_rfl) (by kernel_rfl) Tryz.underlying3⟩

/-- a world that meets the condition -/
noncomputable def handW (os : Os) : World :=
  let w0 := World.holding Tryz.prog os ⟨#[], #[], []⟩
  { w0 with heap := w0.heap.modify 0 fun
      | .cells _ t frozen => .cells #[.iface 176 (.agg #[.pointer (some ⟨4, 29, none⟩)])] t frozen
      | o => o }
noncomputable def laidW1 (os : Os) : World := (handW os).layVars Tryz.prog frP
theorem laidW1_os (os : Os) : (laidW1 os).os = os := World.layVars_os _ _ _
set_option maxRecDepth 100000 in
theorem laidW1_met (os : Os) (args : Array Value) : laidMetH Tryz.prog frL ((laidW1 os).forCall (fun _ _ => 0) ⟨#[], args, []⟩).memory := by
  have e1 : (frP.filter fun x => (frP.map (·.1)).contains x.1) = frP := List.filter_eq_self.2 fun x hx => List.contains_iff_mem.2 (List.mem_map.2 ⟨x, hx, rfl⟩)
  have e2 : (frP.filter fun x => !(frP.map (·.1)).contains x.1) = [] := List.filter_eq_nil_iff.2 fun x hx => by rw [List.contains_iff_mem.2 (List.mem_map.2 ⟨x, hx, rfl⟩)]; simp
  have h : laidMet Tryz.prog frP (laidW1 os) := laidMet_layVars (w0 := handW os) (frP.map (·.1)) [] (by rw [e1]; rfl) (by rw [e1]; kernel_rfl) (by rw [e1]; kernel_rfl) (by rw [e2]; exact LaidIn.none)
  exact laidMetH.of_heap (w := laidW1 os) (by simp [World.memory, World.forCall, Input.heap]) (laidMetH_of_parts (by rw [frP_is]; exact h) (by rw [frE_is]; kernel_rfl))

section
variable {H : Type} {enc : TypeId × Value → H} {W : World} {base : Nat} {spare : Nat → Bool} {held : Bool}
theorem spot_of_cell {w : World} {a : Addr} {v : Value} (h : w.cell? a = some v) : a.spot = none := by
  unfold World.cell? at h
  split at h
  · split at h
    · cases h
    · rename_i hs; simpa using hs
  · cases h
set_option maxRecDepth 100000 in
/-- a row of names among the arguments -/
theorem open_names {v : Value} {b0 : Nat} {r : Reach} {d : DataW H} {p : List MemPlace} (hv : Value.okWide Tryz.prog W r b0 32 v) (h : DataW.Trod enc Tryz.prog W base (fun _ => true) held 32 v d p) :
    ∃ A n c T, v = .slice A n c ∧ RdT W A n c T ∧ ∀ s ∈ T, s.length ≤ 9223372036854775807 := by
  obtain ⟨a0, len0, cap0, rfl⟩ := okWide_slice Tryz.underlying32 hv
  obtain ⟨fuel, hf⟩ := h
  rcases open_strings Tryz.underlying32 Tryz.underlying9 (by kernel_rfl) hf with ⟨hcs, _⟩ | ⟨a, len, cap, ss, hcs, _, hl, hm, hz, _, hcell, hsz⟩
  · obtain ⟨rfl, rfl, rfl⟩ : a0 = none ∧ len0 = 0 ∧ cap0 = 0 := by simpa [Value.cells] using hcs
    exact ⟨none, 0, 0, [], rfl, ⟨rfl, Nat.le_refl _, Nat.zero_le _, fun h => absurd h (by omega)⟩, by simp⟩
  · obtain ⟨rfl, rfl, rfl⟩ : a0 = some a ∧ len0 = len ∧ cap0 = cap := by simpa [Value.cells] using hcs
    simp only [if_true] at hz
    have e0 : ∀ s : ByteArray, str s.data.toList = s := fun s => by cases s; simp [str]
    refine ⟨some a, len0, cap0, (ss.take len0).map (·.data.toList), rfl, ⟨by rw [List.length_map, List.length_take, hz]; omega, hl, hm, fun hp => ?_⟩, fun s hs => ?_⟩
    · have hsp : a.spot = none := by
        have := spot_of_cell (hcell 0 (by omega))
        unfold Addr.add at this
        split at this <;> simp_all
      obtain ⟨g, o, sp⟩ := a
      obtain rfl : sp = none := hsp
      refine ⟨g, o, rfl, fun j s hj => ?_⟩
      rw [List.getElem?_map, Option.map_eq_some_iff] at hj
      obtain ⟨x, hx, rfl⟩ := hj
      have hjl : j < len0 := by have := (List.getElem?_eq_some_iff.1 hx).1; rw [List.length_take] at this; omega
      rw [List.getElem?_take_of_lt hjl] at hx
      have h1 := hcell j (by omega)
      have ea : (⟨g, o, none⟩ : Addr).add j = ⟨g, o + j, none⟩ := by unfold Addr.add; split <;> simp_all
      rw [ea] at h1
      rw [h1, List.getD_eq_getElem?_getD, hx]
      simp [e0]
    · obtain ⟨x, hx, rfl⟩ := List.mem_map.1 hs
      have := hsz x (List.mem_of_mem_take hx)
      have e1 : x.size = x.data.toList.length := by cases x; simp [ByteArray.size]
      rw [← e1]
      have : maxLen ≤ 9223372036854775807 := by unfold maxLen; omega
      omega
end
end Go.Proofs.YtejnfahfjmeabaaGreatDoor
namespace Go.Proofs.YtejnfahfjmeabaaGreatDoor
open Go.RowKit
set_option linter.unusedSimpArgs false
set_option linter.unusedVariables false

/-- where an item's values stand, as it lies in memory -/
def spk (sp : List (Nat × Nat)) : List Value := sp.flatMap fun p => [.int .i64 (p.1 : Int), .int .i64 (p.2 : Int)]
def SpotsM (w : World) (q : Blocks) (v : Value) (sp : List (Nat × Nat)) : Prop := w.ownsRow 0 88 2 v sp.length (spk sp) ∧ ∀ k, ownS v k → q k
/-- the items' row -/
def ItemsM (w : World) (q : Blocks) (iv : Value) (its : List (List (Nat × Nat))) : Prop :=
  (iv = .slice none 0 0 ∧ its = []) ∨ ∃ g off cap cur, iv = .slice (some ⟨g, off, none⟩) its.length cap ∧ Blk w g 89 cur ∧ off + cap ≤ cur.size ∧ its.length ≤ cap ∧ off + cap ≤ maxLen ∧ q g ∧
    ∀ (j : Nat) sp, its[j]? = some sp → ∃ v, cur[off + j]? = some v ∧ SpotsM w q v sp
theorem SpotsM.keep {w w' : World} {q q' : Blocks} {v : Value} {sp : List (Nat × Nat)} (h : SpotsM w q v sp) (hk : KeepsOn q w w') (hs : ∀ k, q k → q' k) : SpotsM w' q' v sp := ⟨row_keep h.1 (hk.mono h.2), fun k e => hs k (h.2 k e)⟩
theorem ItemsM.keep {w w' : World} {q q' : Blocks} {iv : Value} {its : List (List (Nat × Nat))} (h : ItemsM w q iv its) (hk : KeepsOn q w w') (hs : ∀ k, q k → q' k) : ItemsM w' q' iv its := by
  rcases h with h | ⟨g, off, cap, cur, e, h1, h2, h3, h4, h5, h6⟩
  · exact .inl h
  · exact .inr ⟨g, off, cap, cur, e, (hk g h5).trans h1, h2, h3, h4, hs g h5, fun j sp hj => by
      obtain ⟨v, h7, h8⟩ := h6 j sp hj
      exact ⟨v, h7, h8.keep hk hs⟩⟩
theorem ItemsM.slice {w : World} {q : Blocks} {iv : Value} {its : List (List (Nat × Nat))} (h : ItemsM w q iv its) : ∃ A c, iv = .slice A its.length c ∧ its.length ≤ c ∧ c ≤ maxLen := by
  rcases h with ⟨e, rfl⟩ | ⟨g, off, cap, cur, e, h1, h2, h3, h4, h5, h6⟩
  · exact ⟨_, _, e, Nat.le_refl _, by unfold maxLen; omega⟩
  · exact ⟨_, _, e, h3, by omega⟩
/-- a freezer's cells -/
def zk (d : Nat) (tv : Value) (size tail : Nat) (iv : Value) (dead closed : Bool) : Array Value := #[.pointer (some ⟨d, 0, none⟩), tv, .int .i64 (size : Int), .int .i64 (tail : Int), iv, .bool dead, .bool closed]
structure FrzP (w : World) (s : Blocks) (f d cap : Nat) (D : HdS) (b : Bool) (num : Nat) (fs : FileS) (T : List (List UInt8)) (size : Nat) (z : FzS) (dead closed : Bool) (sd : Blocks) (A : Option Addr) (c : Nat) (iv : Value) (q : Blocks) : Prop where
  blk : Blk w f 80 (zk d (.slice A T.length c) size z.tail iv dead closed)
  disk : DiskF w sd d cap D b num fs
  sub : ∀ k, sd k → s k
  tab : RdT w A T.length c T
  tabs : ∀ ad, A = some ad → s ad.block ∧ ¬ sd ad.block ∧ ad.block ≠ f ∧ ¬ q ad.block
  items : ItemsM w q iv z.items
  qin : ∀ k, q k → s k ∧ ¬ sd k ∧ k ≠ f
  fin : s f
  nfd : ¬ sd f
  lt : ∀ k, s k → k < w.heap.size
theorem DiskF.lt {w : World} {s : Blocks} {d cap : Nat} {D : HdS} {b : Bool} {num : Nat} {fs : FileS} (h : DiskF w s d cap D b num fs) : ∀ k, s k → k < w.heap.size := by
  obtain ⟨nm, sm, pv, f, sf, h⟩ := h
  exact h.lt
/-- the disk did something -/
theorem FrzP.disked {w w' : World} {s : Blocks} {f d cap : Nat} {D D' : HdS} {b b' : Bool} {num : Nat} {fs fs' : FileS} {T : List (List UInt8)} {size : Nat} {z : FzS} {dead closed : Bool} {sd : Blocks} {A : Option Addr} {c : Nat} {iv : Value} {q : Blocks}
    (h : FrzP w s f d cap D b num fs T size z dead closed sd A c iv q) (hd : DiskF w' (grow sd w w') d cap D' b' num fs') (hu : Upd sd sd w w') : FrzP w' (grow s w w') f d cap D' b' num fs' T size z dead closed (grow sd w w') A c iv q := by
  have ng : ∀ k, s k → ¬ sd k → ¬ grow sd w w' k := fun k h1 h2 h3 => by
    rcases h3 with h3 | h3
    · exact h2 h3
    · have := h.lt k h1
      omega
  have K : KeepsOn (fun k => s k ∧ ¬ sd k) w w' := fun k hk => hu.block k (h.lt k hk.1) hk.2
  refine ⟨(K f ⟨h.fin, h.nfd⟩).trans h.blk, hd, fun k hk => ?_, h.tab.keep K (fun ad e => ⟨(h.tabs ad e).1, (h.tabs ad e).2.1⟩), fun ad e => ⟨.inl (h.tabs ad e).1, ng _ (h.tabs ad e).1 (h.tabs ad e).2.1, (h.tabs ad e).2.2⟩,
    h.items.keep (K.mono fun k hk => ⟨(h.qin k hk).1, (h.qin k hk).2.1⟩) (fun _ h => h), fun k hk => ⟨.inl (h.qin k hk).1, ng k (h.qin k hk).1 (h.qin k hk).2.1, (h.qin k hk).2.2⟩, .inl h.fin, ng f h.fin h.nfd, fun k hk => ?_⟩
  · rcases hk with hk | hk
    · exact .inl (h.sub k hk)
    · exact .inr hk
  · rcases hk with hk | hk
    · have := h.lt k hk
      have := hu.size
      omega
    · exact hk.2
/-- something new was made -/
theorem FrzP.below {w w' : World} {s : Blocks} {f d cap : Nat} {D : HdS} {b : Bool} {num : Nat} {fs : FileS} {T : List (List UInt8)} {size : Nat} {z : FzS} {dead closed : Bool} {sd : Blocks} {A : Option Addr} {c : Nat} {iv : Value} {q : Blocks}
    (h : FrzP w s f d cap D b num fs T size z dead closed sd A c iv q) (hb : Below w.heap.size w w') : FrzP w' s f d cap D b num fs T size z dead closed sd A c iv q :=
  ⟨h.blk.below hb h.blk.lt, h.disk.below hb, h.sub, h.tab.below hb, h.tabs, h.items.keep (KeepsOn.below hb fun k hk => h.lt k (h.qin k hk).1) (fun _ h => h), h.qin, h.fin, h.nfd, fun k hk => Nat.lt_of_lt_of_le (h.lt k hk) hb.size⟩
theorem FrzP.wide {w : World} {s : Blocks} {f d cap : Nat} {D : HdS} {b : Bool} {num : Nat} {fs : FileS} {T : List (List UInt8)} {size : Nat} {z : FzS} {dead closed : Bool} {sd : Blocks} {A : Option Addr} {c : Nat} {iv : Value} {q : Blocks}
    (h : FrzP w s f d cap D b num fs T size z dead closed sd A c iv q) {s' : Blocks} (hs : ∀ k, s k → s' k) (hl : ∀ k, s' k → k < w.heap.size) : FrzP w s' f d cap D b num fs T size z dead closed sd A c iv q :=
  ⟨h.blk, h.disk, fun k hk => hs k (h.sub k hk), h.tab, fun ad e => ⟨hs _ (h.tabs ad e).1, (h.tabs ad e).2⟩, h.items, fun k hk => ⟨hs k (h.qin k hk).1, (h.qin k hk).2⟩, hs f h.fin, h.nfd, hl⟩
/-- only the freezer's own cells were changed -/
theorem FrzP.own {w w' : World} {s : Blocks} {f d cap : Nat} {D : HdS} {b : Bool} {num : Nat} {fs : FileS} {T : List (List UInt8)} {size size' : Nat} {z : FzS} {dead closed dead' closed' : Bool} {sd : Blocks} {A : Option Addr} {c : Nat} {iv : Value} {q : Blocks}
    (h : FrzP w s f d cap D b num fs T size z dead closed sd A c iv q) (hb : Blk w' f 80 (zk d (.slice A T.length c) size' z.tail iv dead' closed')) (hK : KeepsOn (fun k => k ≠ f) w w') (hz : w'.heap.size = w.heap.size) : FrzP w' s f d cap D b num fs T size' z dead' closed' sd A c iv q := by
  have ks : KeepsOn sd w w' := hK.mono fun k hk e => h.nfd (e ▸ hk)
  refine ⟨hb, ?_, h.sub, h.tab.keep hK (fun ad e => (h.tabs ad e).2.2.1), h.tabs, h.items.keep (hK.mono fun k hk => (h.qin k hk).2.2) (fun _ h => h), h.qin, h.fin, h.nfd, fun k hk => by rw [hz]; exact h.lt k hk⟩
  obtain ⟨nm, sm, pv, fb, sf, hd⟩ := h.disk
  have km : ∀ bb n, MapAt w bb n → sd bb → MapAt w' bb n := fun bb n ⟨x, y, h1, h2⟩ hs => ⟨x, y, (ks bb hs).trans h1, h2⟩
  exact ⟨nm, sm, pv, fb, sf, (ks d hd.ind).trans hd.blk, km nm _ hd.nms hd.inm, km sm _ hd.sms hd.ism, hd.ne, hd.file.keeps (ks.mono hd.sub) (by rw [hz]; exact Nat.le_refl _), hd.sub, hd.nd, hd.nnm, hd.nsm, hd.pvm.keeps (ks.mono fun k hk => (pv_sub hd.pvm k hk).1) (fun _ h => h) (fun _ _ h => h), hd.ind, hd.inm, hd.ism, fun k hk => by rw [hz]; exact hd.lt k hk⟩
/-- a disk that does what it is told -/
structure Calm (D : HdS) : Prop where
  fail : D.fail = 0
  halt : D.halt = -1
  down : D.down = false
def HdS.tick (D : HdS) : HdS := { D with count := D.count + 1 }
theorem Calm.E {D : HdS} (h : Calm D) : D.beginsE = 0 := by
  unfold HdS.beginsE
  rw [h.halt, h.down, h.fail]
  decide
theorem Calm.begins {D : HdS} (h : Calm D) : D.begins = D.tick := by
  obtain ⟨files, count, fail, halt, down⟩ := D
  obtain ⟨h1, h2, h3⟩ := h
  simp only at h1 h2 h3
  subst h1 h2 h3
  rfl
theorem Calm.tick {D : HdS} (h : Calm D) : Calm D.tick := ⟨h.fail, h.halt, h.down⟩
theorem Calm.fit {D : HdS} (h : Calm D) (hf : D.files ≤ 1048576) (hc : D.count ≤ 4611686018427387904) : D.Fit := ⟨hf, hc, by rw [h.fail]; omega, by rw [h.halt]; omega, by rw [h.halt]; omega⟩
def nmE : ByteArray := ⟨#[111, 108, 100, 45, 108, 111, 103]⟩
theorem nmE_eq : nmE = str fName := rfl
/-- how sure ends on a calm disk -/
def SureR (w : World) (s : Blocks) (f d cap : Nat) (D : HdS) (num : Nat) (fs : FileS) (T : List (List UInt8)) (size : Nat) (z : FzS) (A : Option Addr) (c : Nat) (iv : Value) (q : Blocks) (e : Ending) (w' : World) : Prop :=
  e = .returned .nilIface ∧ ∃ sd, FrzP w' (grow s w w') f d cap D.tick.tick true num fs.settled T size z false false sd A c iv q ∧ Upd s s w w'
set_option maxRecDepth 100000 in
set_option maxHeartbeats 1000000 in
theorem sure_calls (s : Blocks) (f d cap : Nat) (D : HdS) (b : Bool) (num : Nat) (fs : FileS) (T : List (List UInt8)) (size : Nat) (z : FzS) (sd : Blocks) (A : Option Addr) (c : Nat) (iv : Value) (q : Blocks) (w : World)
    (h : FrzP w s f d cap D b num fs T size z false false sd A c iv q) (hC : Calm D) (hf : D.files ≤ 1048576) (hc : D.count ≤ 4611686018427380000) (hl : fs.bytes.length ≤ 140737488355328) :
    Calls Tryz.prog 63 #[.pointer (some ⟨f, 0, none⟩)] w (SureR w s f d cap D num fs T size z A c iv q) := by
  have c0 : w.cell? ⟨f, 0, none⟩ = some (.pointer (some ⟨d, 0, none⟩)) := h.blk.cell 0
  have HS := Lib.hid (dSync_calls d cap D b num fs sd w h.disk (hC.fit hf (by omega)) hl)
  have H := Lib.hid h
  have HC := Lib.hid hC
  have HCC := Lib.hid (show D.files ≤ 1048576 ∧ D.count ≤ 4611686018427380000 from ⟨hf, hc⟩)
  have hE : ((D.beginsE : Nat) : Int) = 0 := by rw [hC.E]; rfl
  unfold FileOp at HS
  rw [hE] at HS
  clear h hC hE hf hc
  have hnm : (⟨#[111, 108, 100, 45, 108, 111, 103]⟩ : ByteArray) = str fName := rfl
  go_enter Tryz.func63, Tryz.ntmps63
  rw [hnm]
  clear hnm
  generalize str fName = nmS at *
  go_wp2_with fail
  refine HS.out.mono ?_
  rintro e w1 ⟨rfl, hd1, hu1⟩
  rw [if_pos HC.out.E, HC.out.begins] at hd1
  have H1 := Lib.hid (H.out.disked hd1 hu1)
  have c1 : w1.cell? ⟨f, 0, none⟩ = some (.pointer (some ⟨d, 0, none⟩)) := H1.out.blk.cell 0
  have HD := Lib.hid (dSyncDir_calls d cap D.tick b num fs.settled (grow sd w w1) w1 H1.out.disk (HC.out.tick.fit HCC.out.1 (by have := HCC.out.2; show D.count + 1 ≤ _; omega)))
  have hE : ((D.tick.beginsE : Nat) : Int) = 0 := by rw [HC.out.tick.E]; rfl
  have HU1 := Lib.hid hu1
  unfold SyncDirR at HD
  rw [hE] at HD
  clear hd1 hE hu1
  go_wp2_with fail
  refine HD.out.mono ?_
  rintro e w2 ⟨rfl, hd2, hu2⟩
  rw [if_pos HC.out.tick.E, HC.out.tick.begins] at hd2
  have H2 := Lib.hid (H1.out.disked hd2 hu2)
  have HU2 := Lib.hid hu2
  clear hd2 hu2
  go_wp2_with fail
  refine (failOf_calls _ 0 w2).mono ?_
  rintro e w3 ⟨v, rfl, hv, hb3⟩
  obtain ⟨_, rfl⟩ | ⟨h0, _⟩ := hv
  rotate_left
  · exact absurd rfl h0
  have hfin : Hid (SureR w s f d cap D num fs T size z A c iv q (.returned .nilIface) w3) := by
    have z1 := HU1.out.size
    have z2 := HU2.out.size
    have z3 := hb3.size
    have U2 : Upd s s w w2 := ((Upd.refl s w).thenS HU1.out (fun k hk => .inl (H.out.sub k hk))).thenS HU2.out (fun k hk => by
      rcases hk with hk | hk
      · exact .inl (H.out.sub k hk)
      · exact .inr hk.1)
    refine ⟨rfl, _, (H2.out.below hb3).wide (fun k hk => ?_) (fun k hk => ?_), U2.thn hb3⟩
    · rcases hk with (hk | hk) | hk
      · exact .inl hk
      · exact .inr ⟨hk.1, by omega⟩
      · exact .inr ⟨by omega, by omega⟩
    · rcases hk with hk | hk
      · have := H.out.lt k hk
        omega
      · exact hk.2
  clear hb3
  go_wp2_with fail
  go_ret
  exact hfin.out
end Go.Proofs.YtejnfahfjmeabaaGreatDoor
namespace Go.Proofs.YtejnfahfjmeabaaGreatDoor
open Go.RowKit
set_option linter.unusedSimpArgs false
set_option linter.unusedVariables false

theorem frameN_len (b : List UInt8) : (frameN b).length = 4 + (putL b.length).length + b.length := by
  unfold frameN frameL
  simp only [List.length_append, le4_len]
  omega
theorem headL_pos (T : List (List UInt8)) : 0 < (headL T).length := by
  unfold headL
  rw [frameN_len]
  omega
def MadeR (w : World) (s : Blocks) (f d cap : Nat) (D : HdS) (num : Nat) (fs : FileS) (T : List (List UInt8)) (z : FzS) (A : Option Addr) (c : Nat) (iv : Value) (q : Blocks) (e : Ending) (w' : World) : Prop :=
  e = .returned .nilIface ∧ ∃ sd, FrzP w' (grow s w w') f d cap D.tick.tick.tick.tick true num (fs.app (headL T)).settled T (headL T).length z false false sd A c iv q ∧ Upd s s w w'
theorem grow_grow {s : Blocks} {w w1 w2 : World} (h1 : w.heap.size ≤ w1.heap.size) (h2 : w1.heap.size ≤ w2.heap.size) : ∀ k, grow (grow s w w1) w1 w2 k → grow s w w2 k := fun k hk => by
  rcases hk with (hk | hk) | hk
  · exact .inl hk
  · exact .inr ⟨hk.1, by omega⟩
  · exact .inr ⟨by omega, hk.2⟩
theorem grow_lt {s : Blocks} {w w1 : World} (h : ∀ k, s k → k < w.heap.size) (hz : w.heap.size ≤ w1.heap.size) : ∀ k, grow s w w1 k → k < w1.heap.size := fun k hk => by
  rcases hk with hk | hk
  · have := h k hk
    omega
  · exact hk.2
theorem Upd.growS {s : Blocks} {w w1 w2 : World} (h : Upd s s w w1) (h2 : Upd (grow s w w1) (grow s w w1) w1 w2) : Upd s s w w2 := h.thenS h2 (fun k hk => by
  rcases hk with hk | hk
  · exact .inl hk
  · exact .inr hk.1)
set_option maxRecDepth 100000 in
set_option maxHeartbeats 1000000 in
theorem made_calls (s : Blocks) (f d cap : Nat) (D : HdS) (b : Bool) (num : Nat) (fs : FileS) (T : List (List UInt8)) (size : Nat) (z : FzS) (sd : Blocks) (A : Option Addr) (c : Nat) (iv : Value) (q : Blocks) (w : World)
    (h : FrzP w s f d cap D b num fs T size z false false sd A c iv q) (hT : TabsOk T) (hC : Calm D) (hf : D.files ≤ 1048576) (hc : D.count ≤ 4611686018427370000) (h0 : fs.bytes = []) (hp : fs.pend.length ≤ 1000) (hcap : (headL T).length ≤ cap) (hcm : cap ≤ 67108864) :
    Calls Tryz.prog 56 #[.pointer (some ⟨f, 0, none⟩)] w (MadeR w s f d cap D num fs T z A c iv q) := by
  have c0 : w.cell? ⟨f, 0, none⟩ = some (.pointer (some ⟨d, 0, none⟩)) := h.blk.cell 0
  have HS : Hid (Calls Tryz.prog 62 #[.pointer (some ⟨d, 0, none⟩), .string (str fName), .int .i64 0] w (FileOp w sd d cap D b num fs fs)) := by
    have := dTrunc_same d cap D b num fs sd w h.disk (hC.fit hf (by omega))
    rw [h0] at this
    exact this
  have H := Lib.hid h
  have HC := Lib.hid hC
  have HT := Lib.hid hT
  have H0 := Lib.hid h0
  have HCC := Lib.hid (show D.files ≤ 1048576 ∧ D.count ≤ 4611686018427370000 from ⟨hf, hc⟩)
  have hE : ((D.beginsE : Nat) : Int) = 0 := by rw [hC.E]; rfl
  unfold FileOp at HS
  rw [hE] at HS
  clear h hC hE hf hc hT h0
  have hnm : (⟨#[111, 108, 100, 45, 108, 111, 103]⟩ : ByteArray) = str fName := rfl
  go_enter Tryz.func56, Tryz.ntmps56
  rw [hnm]
  clear hnm
  generalize hnS : str fName = nmS at *
  go_wp2_with fail
  refine HS.out.mono ?_
  rintro e w1 ⟨rfl, hd1, hu1⟩
  rw [if_pos HC.out.E, HC.out.begins] at hd1
  have H1 := Lib.hid (H.out.disked hd1 hu1)
  have c1 : w1.cell? ⟨f, 0, none⟩ = some (.pointer (some ⟨d, 0, none⟩)) := H1.out.blk.cell 0
  have c11 : w1.cell? ⟨f, 1, none⟩ = some (.slice A T.length c) := H1.out.blk.cell 1
  have HH := Lib.hid (head_calls A T.length c T w1 H1.out.tab HT.out)
  have HU1 := Lib.hid hu1
  clear hd1 hu1
  go_wp2_with fail
  refine HH.out.mono ?_
  intro e w2 hnb
  obtain ⟨A2, c2, rfl, ho2, hr2, hb2⟩ := hnb.out
  clear hnb
  have H2 := Lib.hid (H1.out.below hb2)
  have c2' : w2.cell? ⟨f, 0, none⟩ = some (.pointer (some ⟨d, 0, none⟩)) := H2.out.blk.cell 0
  have hA2 : ∀ ad, A2 = some ad → ¬ grow sd w w1 ad.block := fun ad e hk => by
    subst e
    have h1 := (ho2.block ad.block rfl).1
    rcases hk with hk | hk
    · have := H.out.lt ad.block (H.out.sub _ hk)
      have := HU1.out.size
      omega
    · omega
  have HB2 := Lib.hid hb2
  have HA := Lib.hid (dAppend_calls d cap D.tick b num fs (grow sd w w1) A2 (headL T).length c2 (headL T) w2 H2.out.disk (HC.out.tick.fit HCC.out.1 (by have := HCC.out.2; show D.count + 1 ≤ _; omega)) hr2 hA2 (headL_pos T) (by rw [H0.out]; simpa using hcap) hcm (by omega))
  have hE : ((D.tick.beginsE : Nat) : Int) = 0 := by rw [HC.out.tick.E]; rfl
  unfold FileOp at HA
  rw [hE, hnS] at HA
  obtain ⟨n, hn⟩ : ∃ n : Nat, n = (headL T).length := ⟨_, rfl⟩
  have HN := Lib.hid hn
  rw [← hn] at HA ⊢
  clear ho2 hr2 hb2 hA2 hE hn
  go_wp2_with fail
  refine HA.out.mono ?_
  rintro e w3 ⟨rfl, hd3, hu3⟩
  rw [if_pos HC.out.tick.E, HC.out.tick.begins] at hd3
  have H3 := Lib.hid (H2.out.disked hd3 hu3)
  have HU3 := Lib.hid hu3
  have f2 := H3.out.blk.frozen 2
  have c32 : w3.cell? ⟨f, 2, none⟩ = some (.int .i64 (size : Int)) := H3.out.blk.cell 2
  obtain ⟨w4, hw4⟩ : ∃ w4 : World, w4 = w3.setCell ⟨f, 2, none⟩ (.int .i64 (n : Int)) := ⟨_, rfl⟩
  have hz4 : w4.heap.size = w3.heap.size := by rw [hw4]; simp [World.setCell]
  have H4 : Hid (FrzP w4 (grow (grow s w w1) w2 w3) f d cap D.tick.tick b num (fs.app (headL T)) T n z false false (grow (grow sd w w1) w2 w3) A c iv q) :=
    H3.out.own (by rw [hw4]; exact (H3.out.blk.set_ 2 _).eq_ rfl) (fun k hk => by rw [hw4]; exact Below.heap_setCell w3 ⟨f, 2, none⟩ _ k hk) hz4
  have HZ := Lib.hid (show w.heap.size ≤ w1.heap.size ∧ w1.heap.size ≤ w2.heap.size ∧ w2.heap.size ≤ w3.heap.size from ⟨HU1.out.size, HB2.out.size, HU3.out.size⟩)
  have HSU := Lib.hid (sure_calls _ f d cap D.tick.tick b num (fs.app (headL T)) T n z _ A c iv q w4 H4.out HC.out.tick.tick HCC.out.1 (by have := HCC.out.2; show D.count + 1 + 1 ≤ _; omega) (by
    show (fs.bytes ++ headL T).length ≤ _
    rw [H0.out]
    simp
    omega))
  have U4 : Hid (Upd s s w w4) := by
    rw [hw4]
    refine Upd.setS (((((Upd.refl s w).thenS HU1.out (fun k hk => .inl (H.out.sub k hk))).thn HB2.out)).thenS HU3.out (fun k hk => ?_)) (.inl H.out.fin) _
    rcases hk with hk | hk
    · exact .inl (H.out.sub k hk)
    · exact .inr hk.1
  rw [hw4] at HSU
  clear hd3 hu3
  go_wp2_with fail
  refine HSU.out.mono ?_
  rintro e w5 ⟨rfl, sd5, H5, U5⟩
  rw [← hw4] at H5 U5
  have hfin : Hid (MadeR w s f d cap D num fs T z A c iv q (.returned .nilIface) w5) := by
    have hz := HZ.out
    have z5 := U5.size
    refine ⟨rfl, sd5, ?_, U4.out.thenS U5 (fun k hk => ?_)⟩
    · rw [← HN.out]
      refine H5.wide (fun k hk => ?_) (grow_lt H.out.lt (by omega))
      rcases hk with ((hk | hk) | hk) | hk
      · exact .inl hk
      · exact .inr ⟨hk.1, by omega⟩
      · exact .inr ⟨by omega, by omega⟩
      · exact .inr ⟨by omega, by omega⟩
    · rcases hk with (hk | hk) | hk
      · exact .inl hk
      · exact .inr hk.1
      · exact .inr (by omega)
  clear H5 U5 hw4
  go_wp2_with fail
  go_ret
  exact hfin.out
end Go.Proofs.YtejnfahfjmeabaaGreatDoor
namespace Go.Proofs.YtejnfahfjmeabaaGreatDoor
open Go.RowKit
set_option linter.unusedSimpArgs false
set_option linter.unusedVariables false

/-- a freezer whose disk has no file yet -/
structure FrzN (w : World) (s : Blocks) (f d cap : Nat) (D : HdS) (T : List (List UInt8)) (sd : Blocks) (A : Option Addr) (c : Nat) : Prop where
  blk : Blk w f 80 (zk d (.slice A T.length c) 0 0 (.slice none 0 0) false false)
  disk : DiskN w sd d cap D
  sub : ∀ k, sd k → s k
  tab : RdT w A T.length c T
  tabs : ∀ ad, A = some ad → s ad.block ∧ ¬ sd ad.block ∧ ad.block ≠ f
  fin : s f
  nfd : ¬ sd f
  lt : ∀ k, s k → k < w.heap.size
def z0 : FzS := ⟨0, []⟩
def noB : Blocks := fun _ => False
theorem FrzN.below {w w' : World} {s : Blocks} {f d cap : Nat} {D : HdS} {T : List (List UInt8)} {sd : Blocks} {A : Option Addr} {c : Nat} (h : FrzN w s f d cap D T sd A c) (hb : Below w.heap.size w w') : FrzN w' s f d cap D T sd A c :=
  ⟨h.blk.below hb h.blk.lt, h.disk.below hb, h.sub, h.tab.below hb, h.tabs, h.fin, h.nfd, fun k hk => Nat.lt_of_lt_of_le (h.lt k hk) hb.size⟩
theorem FrzN.disked {w w' : World} {s : Blocks} {f d cap : Nat} {D D' : HdS} {b : Bool} {num : Nat} {fs : FileS} {T : List (List UInt8)} {sd : Blocks} {A : Option Addr} {c : Nat}
    (h : FrzN w s f d cap D T sd A c) (hd : DiskF w' (grow sd w w') d cap D' b num fs) (hu : Upd sd sd w w') : FrzP w' (grow s w w') f d cap D' b num fs T 0 z0 false false (grow sd w w') A c (.slice none 0 0) noB := by
  have ng : ∀ k, s k → ¬ sd k → ¬ grow sd w w' k := fun k h1 h2 h3 => by
    rcases h3 with h3 | h3
    · exact h2 h3
    · have := h.lt k h1
      omega
  have K : KeepsOn (fun k => s k ∧ ¬ sd k) w w' := fun k hk => hu.block k (h.lt k hk.1) hk.2
  refine ⟨(K f ⟨h.fin, h.nfd⟩).trans h.blk, hd, fun k hk => ?_, h.tab.keep K (fun ad e => ⟨(h.tabs ad e).1, (h.tabs ad e).2.1⟩), fun ad e => ⟨.inl (h.tabs ad e).1, ng _ (h.tabs ad e).1 (h.tabs ad e).2.1, (h.tabs ad e).2.2, fun e => e⟩,
    .inl ⟨rfl, rfl⟩, fun k hk => hk.elim, .inl h.fin, ng f h.fin h.nfd, grow_lt h.lt hu.size⟩
  rcases hk with hk | hk
  · exact .inl (h.sub k hk)
  · exact .inr hk
def BeginsR (w : World) (s : Blocks) (f d cap : Nat) (D : HdS) (num : Nat) (fs : FileS) (T : List (List UInt8)) (size : Nat) (z : FzS) (e : Ending) (w' : World) : Prop :=
  e = .returned .nilIface ∧ ∃ sd A c iv q, FrzP w' (grow s w w') f d cap D true num fs T size z false false sd A c iv q ∧ Upd s s w w'
def mkT (D : HdS) : HdS := { D.tick with files := D.files + 1 }
set_option maxRecDepth 100000 in
set_option maxHeartbeats 1000000 in
theorem begins_none (s : Blocks) (f d cap : Nat) (D : HdS) (T : List (List UInt8)) (sd : Blocks) (A : Option Addr) (c : Nat) (w : World)
    (h : FrzN w s f d cap D T sd A c) (hT : TabsOk T) (hC : Calm D) (hf : D.files < 1048576) (hc : D.count ≤ 4611686018427360000) (hcap : (headL T).length ≤ cap) (hcm : cap ≤ 67108864) :
    Calls Tryz.prog 35 #[.pointer (some ⟨f, 0, none⟩)] w (BeginsR w s f d cap (mkT D).tick.tick.tick.tick D.files ((⟨[], [], []⟩ : FileS).app (headL T)).settled T (headL T).length z0) := by
  have c0 : w.cell? ⟨f, 0, none⟩ = some (.pointer (some ⟨d, 0, none⟩)) := h.blk.cell 0
  have HS := Lib.hid (dRead_none d cap D sd w h.disk hC.down)
  have H := Lib.hid h
  have HC := Lib.hid hC
  have HT := Lib.hid hT
  have HCC := Lib.hid (show D.files < 1048576 ∧ D.count ≤ 4611686018427360000 from ⟨hf, hc⟩)
  clear h hC hf hc hT
  have hnm : (⟨#[111, 108, 100, 45, 108, 111, 103]⟩ : ByteArray) = str fName := rfl
  go_enter Tryz.func35, Tryz.ntmps35
  rw [hnm]
  clear hnm
  generalize hnS : str fName = nmS at *
  go_wp2_with fail
  refine HS.out.mono ?_
  rintro e w1 ⟨rfl, hb1⟩
  have H1 := Lib.hid (H.out.below hb1)
  have HB1 := Lib.hid hb1
  have c1 : w1.cell? ⟨f, 0, none⟩ = some (.pointer (some ⟨d, 0, none⟩)) := H1.out.blk.cell 0
  clear hb1
  go_wp2_with fail
  refine (is_calls 13 13 w1).mono ?_
  rintro e w2 ⟨rfl, rfl⟩
  have hdt : (decide (13 = 13)) = true := rfl
  have HCR := Lib.hid (dCreate_calls d cap D sd w2 H1.out.disk (HC.out.fit (by have := HCC.out.1; omega) (by have := HCC.out.2; omega)) HC.out.E HCC.out.1)
  unfold CreateR at HCR
  rw [HC.out.begins, hnS] at HCR
  go_wp2_with fail
  refine HCR.out.mono ?_
  rintro e w3 ⟨rfl, hd3, hu3⟩
  have H3 := Lib.hid (H1.out.disked hd3 hu3)
  have HU3 := Lib.hid hu3
  have HCM : Hid (Calm (mkT D)) := ⟨HC.out.fail, HC.out.halt, HC.out.down⟩
  have HM := Lib.hid (made_calls _ f d cap (mkT D) false D.files ⟨[], [], []⟩ T 0 z0 _ A c (.slice none 0 0) noB w3 H3.out HT.out HCM.out (by have := HCC.out.1; show D.files + 1 ≤ _; omega) (by have := HCC.out.2; show D.count + 1 ≤ _; omega) rfl (by simp) hcap hcm)
  clear hd3 hu3
  go_wp2_with fail
  refine HM.out.mono ?_
  rintro e w4 ⟨rfl, sd4, H4, U4⟩
  have hfin : Hid (BeginsR w s f d cap (mkT D).tick.tick.tick.tick D.files ((⟨[], [], []⟩ : FileS).app (headL T)).settled T (headL T).length z0 (.returned .nilIface) w4) := by
    have z1 := HB1.out.size
    have z3 := HU3.out.size
    have z4 := U4.size
    refine ⟨rfl, sd4, A, c, _, _, H4.wide (fun k hk => ?_) (grow_lt H.out.lt (by omega)), ?_⟩
    · rcases hk with (hk | hk) | hk
      · exact .inl hk
      · exact .inr ⟨by omega, by omega⟩
      · exact .inr ⟨by omega, by omega⟩
    · have U1 : Upd s s w w3 := (Upd.below HB1.out).thenS HU3.out (fun k hk => .inl (H.out.sub k hk))
      exact U1.thenS U4 (fun k hk => by
        rcases hk with hk | hk
        · exact .inl hk
        · exact .inr (by omega))
  clear H4 U4
  go_wp2_with fail
  go_ret
  exact hfin.out
end Go.Proofs.YtejnfahfjmeabaaGreatDoor
namespace Go.Proofs.YtejnfahfjmeabaaGreatDoor
open Go.RowKit Go.MapKept
set_option linter.unusedSimpArgs false
set_option linter.unusedVariables false

def azs : List UInt8 := [97, 98, 99, 100, 101, 102, 103, 104, 105, 106, 107, 108, 109, 110, 111, 112, 113, 114, 115, 116, 117, 118, 119, 120, 121, 122]
theorem az_contains (b : UInt8) : azs.contains b = true ↔ 97 ≤ b.toNat ∧ b.toNat ≤ 122 := by
  have : ∀ b : Fin 256, azs.contains (UInt8.ofNat b.val) = decide (97 ≤ b.val ∧ b.val ≤ 122) := by decide +kernel
  have h := this ⟨b.toNat, b.toNat_lt⟩
  simp only [UInt8.ofNat_toNat] at h
  rw [h]
  simp
theorem dropWhile_nil (p : UInt8 → Bool) (l : List UInt8) : l.dropWhile p = [] ↔ ∀ b ∈ l, p b = true := by
  induction l with
  | nil => simp
  | cons x l ih =>
    simp only [List.dropWhile_cons, List.mem_cons, forall_eq_or_imp]
    by_cases h : p x = true
    · simp [h, ih]
    · simp [h]
theorem mem_dropWhile (p : UInt8 → Bool) (l : List UInt8) (b : UInt8) (hb : b ∈ l) (hp : p b = false) : b ∈ l.dropWhile p := by
  induction l with
  | nil => exact hb
  | cons x l ih =>
    simp only [List.dropWhile_cons]
    rcases List.mem_cons.1 hb with rfl | hb
    · simp [hp]
    · split
      · exact ih hb
      · exact List.mem_cons_of_mem _ hb
theorem trim_az (l : List UInt8) : Lib.trimS l azs = [] ↔ ∀ b ∈ l, 97 ≤ b.toNat ∧ b.toNat ≤ 122 := by
  unfold Lib.trimS Lib.trimLeftS Lib.trimRightS
  rw [dropWhile_nil]
  constructor
  · intro h b hb
    rw [← az_contains]
    by_cases hp : azs.contains b = true
    · exact hp
    · exact h b (List.mem_reverse.2 (mem_dropWhile _ _ b (List.mem_reverse.2 hb) (by simpa using hp)))
  · intro h b hb
    rw [az_contains]
    exact h b (List.mem_reverse.1 ((List.dropWhile_sublist _).subset (List.mem_reverse.1 hb)))
theorem ascii_of_all' {s : ByteArray} (h : s.data.toList.all (fun b => decide (b.toNat < 128)) = true) : ∀ (j : Nat) b, s.data.toList[j]? = some b → b.toNat < 128 := fun j b hb => by
  have := List.all_eq_true.1 h b (List.mem_of_getElem? hb)
  simpa using this
theorem Trim_calls (s : ByteArray) (w : World) (hs : s.size ≤ 9223372036854775807) :
    Calls Tryz.prog 52 #[.string s, .string ⟨#[97, 98, 99, 100, 101, 102, 103, 104, 105, 106, 107, 108, 109, 110, 111, 112, 113, 114, 115, 116, 117, 118, 119, 120, 121, 122]⟩] w fun e w' => e = .returned (.string ⟨(Lib.trimS s.data.toList azs).toArray⟩) ∧ Below w.heap.size w w' :=
  Go.Proofs.Any.strings_Trim_laid Tryz.lays160 (by kernel_rfl) s ⟨#[97, 98, 99, 100, 101, 102, 103, 104, 105, 106, 107, 108, 109, 110, 111, 112, 113, 114, 115, 116, 117, 118, 119, 120, 121, 122]⟩ w hs (by decide) (ascii_of_all' (by decide))
/-- a set of names -/
def SetM (w : World) (b : Nat) (ks : List (List UInt8)) : Prop := ∃ es clock, w.heap[b]? = some (.map es clock) ∧ es.toList.map (·.key) = ks.map fun s => Value.string (str s)
theorem str_inj {a b : List UInt8} (h : str a = str b) : a = b := by
  have : (str a).data.toList = (str b).data.toList := by rw [h]
  exact this
theorem set_put (w : World) (b : Nat) (ks : List (List UInt8)) (s : List UInt8) (v : Value) (h : SetM w b ks) :
    ∃ w', (Instr.mapUpdate 106 (.map (some b)) (.string (str s)) v).run Tryz.prog w = .ok () w' ∧ SetM w' b (if s ∈ ks then ks else ks ++ [s]) ∧ Upd (one b) (one b) w w' := by
  obtain ⟨es, clock, hb, he⟩ := h
  have hks : ∀ x ∈ es.toList, IsKey .string x.key := fun x hx => by
    have : x.key ∈ es.toList.map (·.key) := List.mem_map.2 ⟨x, hx, rfl⟩
    rw [he] at this
    obtain ⟨s', _, e⟩ := List.mem_map.1 this
    rw [← e]
    exact isKey_str s'
  have upd : ∀ o, Upd (one b) (one b) w { w with heap := w.heap.setIfInBounds b o } := fun o => ⟨rfl, rfl, rfl, by simp, fun k _ hk => (heap_set (o' := o) hb).2 k hk, fun _ h => .inl h⟩
  rcases findNow_spec (isKey_str s) es.toList 0 hks with ⟨h1, h2⟩ | ⟨j, e, h1, h2, h3⟩
  · have hn : s ∉ ks := fun hm => by
      have : Value.string (str s) ∈ es.toList.map (·.key) := by rw [he]; exact List.mem_map.2 ⟨s, hm, rfl⟩
      obtain ⟨x, hx, e⟩ := List.mem_map.1 this
      exact h2 x hx e
    rw [if_neg hn]
    refine ⟨_, by simp [Instr.mapUpdate, run_underlying Tryz.underlying106, MapKept.run_getObj_map hb, MapKept.run_checkKey Tryz.underlying9 (isKey_str s), MapKept.run_findKey Tryz.underlying9 h1, MapKept.run_setObj_map _ hb, Result.andThen]; rfl, ⟨_, _, (heap_set hb).1, ?_⟩, upd _⟩
    rw [Array.toList_push, List.map_append, he, List.map_append]
    rfl
  · have hj : es[j]? = some e := by simpa using h2
    have hm : s ∈ ks := by
      have : e.key ∈ es.toList.map (·.key) := List.mem_map.2 ⟨e, List.mem_of_getElem? h2, rfl⟩
      rw [he, h3] at this
      obtain ⟨s', hs', e'⟩ := List.mem_map.1 this
      have := str_inj (Value.string.inj e')
      rw [← this]
      exact hs'
    rw [if_pos hm]
    refine ⟨_, by simp [Instr.mapUpdate, run_underlying Tryz.underlying106, MapKept.run_getObj_map hb, MapKept.run_checkKey Tryz.underlying9 (isKey_str s), MapKept.run_findKey Tryz.underlying9 h1, hj, h3, MapKept.run_keyThatStays (isKey_str s), MapKept.run_setObj_map _ hb, Result.andThen]; rfl, ⟨_, _, (heap_set hb).1, ?_⟩, upd _⟩
    rw [← he]
    exact modify_keys j _ (fun e' he' => by rw [hj] at he'; cases he'; exact h3.symm)
theorem SetM.below {w w' : World} {b : Nat} {ks : List (List UInt8)} (h : SetM w b ks) (hb : Below w.heap.size w w') : SetM w' b ks := by
  obtain ⟨es, clock, h1, h2⟩ := h
  exact ⟨es, clock, (hb.block b (Array.getElem?_eq_some_iff.1 h1).1).trans h1, h2⟩
def metL : List (List UInt8) → List (List UInt8) → List (List UInt8)
  | ks, [] => ks
  | ks, s :: r => metL (if s ∈ ks then ks else ks ++ [s]) r
theorem metL_le : ∀ (r ks : List (List UInt8)), (metL ks r).length ≤ ks.length + r.length
  | [], ks => by simp [metL]
  | s :: r, ks => by
    have := metL_le r (if s ∈ ks then ks else ks ++ [s])
    rw [metL, List.length_cons]
    split at this
    · rw [if_pos (by assumption)]; omega
    · rw [if_neg (by assumption)]
      rw [List.length_append, List.length_singleton] at this
      omega
theorem metL_eq : ∀ (r ks : List (List UInt8)), (metL ks r).length = ks.length + r.length ↔ (r.Nodup ∧ ∀ s ∈ r, s ∉ ks)
  | [], ks => by simp [metL]
  | s :: r, ks => by
    rw [metL, List.length_cons, List.nodup_cons]
    by_cases hs : s ∈ ks
    · rw [if_pos hs]
      have := metL_le r ks
      constructor
      · intro h; omega
      · intro h; exact absurd hs (h.2 s (by simp))
    · rw [if_neg hs]
      have h1 := metL_eq r (ks ++ [s])
      rw [List.length_append, List.length_singleton] at h1
      rw [show ks.length + (r.length + 1) = ks.length + 1 + r.length by omega, h1]
      constructor
      · rintro ⟨h2, h3⟩
        refine ⟨⟨fun hm => h3 s hm (by simp), h2⟩, fun t ht => ?_⟩
        rcases List.mem_cons.1 ht with rfl | ht
        · exact hs
        · exact fun hk => h3 t ht (by simp [hk])
      · rintro ⟨⟨h2, h3⟩, h4⟩
        refine ⟨h3, fun t ht hk => ?_⟩
        rcases List.mem_append.1 hk with hk | hk
        · exact h4 t (by simp [ht]) hk
        · obtain rfl : t = s := by simpa using hk
          exact h2 ht
theorem metL_snoc : ∀ (r ks : List (List UInt8)) (s : List UInt8), metL ks (r ++ [s]) = if s ∈ metL ks r then metL ks r else metL ks r ++ [s]
  | [], ks, s => rfl
  | t :: r, ks, s => by rw [List.cons_append, metL, metL_snoc r, metL]
end Go.Proofs.YtejnfahfjmeabaaGreatDoor
