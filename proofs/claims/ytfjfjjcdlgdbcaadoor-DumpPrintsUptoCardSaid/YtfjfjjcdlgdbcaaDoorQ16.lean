/- the texts DShelf2, EShelf2, E20, E21 of this proof, one behind the other -/
import Derived.Test.YtfjfjjcdlgdbcaaDoorQ15
import Derived.Shelf.Strings.Builder1
import Derived.Shelf.Strings.Builder2
import Derived.Shelf.Strings.OnBuilder
import Derived.Shelf.Small.Utf8
import Derived.Shelf.Small.Strs
import Derived.Shelf.Strconv.Atoi
import Derived.Shelf.Strconv.Itoa0
import Derived.Shelf.Strconv.Itoa1
import Derived.Shelf.LaysM
import Derived.Shelf.Strconv.Itoa2
import Derived.Shelf.Strconv.Itoa3
import Derived.Shelf.Strconv.AtoiErrFast
import Derived.Shelf.Strconv.ParseIntEmpty
import Derived.Shelf.Strconv.AtoiFail
import Derived.Shelf.Strconv.Clone
import Derived.Shelf.Strconv.SyntaxError
import Derived.Shelf.LaysC
import Derived.Shelf.Strconv.ToError
import Derived.Shelf.Strconv.AtoiErr
import Derived.Shelf.Strconv.Lower
import Derived.Shelf.Strconv.ParseUint10
import Derived.Shelf.Strconv.ParseUint10Empty
import Derived.Shelf.Strconv.ParseUint10Any
import Derived.Shelf.Strconv.ParseInt10
import Derived.Shelf.Strconv.AtoiLong
import Derived.Shelf.Strconv.AtoiInnerAll
import Derived.Shelf.Strconv.RangeError
import Derived.Shelf.Strconv.ToErrorRange
import Derived.Shelf.Strconv.AtoiAll
import Derived.Shelf.Strconv.ErrVarAll
import Derived.Shelf.Strconv.ParseUintEmpty
import Derived.Shelf.Strconv.ParseUint10b64
import Derived.Shelf.Strconv.ParseUint10b32
import Derived.Shelf.Strconv.ParseUint10b16
import Derived.Shelf.Strconv.ParseUint10b8
import Derived.Shelf.Strconv.ParseUint10At
import Derived.Shelf.Strconv.ParseInt10At64
import Derived.Shelf.Strconv.ParseInt10At32
import Derived.Shelf.Strconv.ParseInt10At16
import Derived.Shelf.Strconv.ParseInt10At8
import Derived.Shelf.Strconv.ParseInt10All
import Derived.Ground.MpProg
import Derived.Shelf.Pu.ParseUintPublic10
import Derived.Shelf.Pu.ErrVarParseUint
import Derived.Shelf.Strings.Search1
import Derived.Shelf.Strings.Search2
import Derived.Shelf.Strings.Search3
import Derived.Shelf.Strings.Cut
import Derived.Shelf.Strings.Count
import Derived.Shelf.Strings.Shaped
import Derived.Shelf.Strings.Split
import Derived.Test.YtfjfjjcdlgdbcaaDoorProg
import Derived.Deep.RegionHeld3
namespace Go.Proofs
open Go.Shelf
def Tryd.laysPu14_ren : Go.Shelf.Ren := ⟨fun | 14 => 94 | 16 => 128 | 17 => 129 | 19 => 148 | 20 => 149 | 21 => 150 | 22 => 151 | 23 => 152 | 24 => 153 | 25 => 167 | 27 => 104 | 26 => 168 | 28 => 132 | 29 => 155 | 30 => 120 | 31 => 121 | 32 => 122 | 33 => 123 | 35 => 141 | 34 => 140 | 36 => 142 | 37 => 143 | 38 => 144 | 39 => 161 | 40 => 162 | n => n, fun | 9 => 9 | 3 => 3 | 22 => 26 | 24 => 86 | 25 => 150 | 4 => 4 | 34 => 193 | 5 => 5 | 36 => 136 | 37 => 22 | 0 => 0 | 39 => 195 | 21 => 21 | 44 => 206 | 47 => 141 | 50 => 218 | 48 => 216 | 2 => 2 | 52 => 171 | 55 => 174 | 59 => 187 | 60 => 188 | 20 => 20 | 61 => 138 | 65 => 24 | 66 => 213 | 67 => 96 | n => n, fun | 0 => 2 | 1 => 3 | 2 => 0 | 3 => 6 | 4 => 7 | n => n⟩
theorem Tryd.laysPu14 : Go.Proofs.LaysPu.n14 Tryd.prog Tryd.laysPu14_ren := {
  mixed := by kernel_rfl
  f14 := Tryd.func94.trans (congrArg some (by kernel_rfl))
  f16 := Tryd.func128.trans (congrArg some (by kernel_rfl))
  f17 := Tryd.func129.trans (congrArg some (by kernel_rfl))
  f19 := Tryd.func148.trans (congrArg some (by kernel_rfl))
  f20 := Tryd.func149.trans (congrArg some (by kernel_rfl))
  f21 := Tryd.func150.trans (congrArg some (by kernel_rfl))
  f22 := Tryd.func151.trans (congrArg some (by kernel_rfl))
  f23 := Tryd.func152.trans (congrArg some (by kernel_rfl))
  f24 := Tryd.func153.trans (congrArg some (by kernel_rfl))
  f25 := Tryd.func167.trans (congrArg some (by kernel_rfl))
  f26 := Tryd.func168.trans (congrArg some (by kernel_rfl))
  f27 := Tryd.func104.trans (congrArg some (by kernel_rfl))
  f28 := Tryd.func132.trans (congrArg some (by kernel_rfl))
  f29 := Tryd.func155.trans (congrArg some (by kernel_rfl))
  f30 := Tryd.func120.trans (congrArg some (by kernel_rfl))
  f31 := Tryd.func121.trans (congrArg some (by kernel_rfl))
  f32 := Tryd.func122.trans (congrArg some (by kernel_rfl))
  f33 := Tryd.func123.trans (congrArg some (by kernel_rfl))
  f34 := Tryd.func140.trans (congrArg some (by kernel_rfl))
  f35 := Tryd.func141.trans (congrArg some (by kernel_rfl))
  f36 := Tryd.func142.trans (congrArg some (by kernel_rfl))
  f37 := Tryd.func143.trans (congrArg some (by kernel_rfl))
  f38 := Tryd.func144.trans (congrArg some (by kernel_rfl))
  f39 := Tryd.func161.trans (congrArg some (by kernel_rfl))
  f40 := Tryd.func162.trans (congrArg some (by kernel_rfl))
  t0 := Tryd.underlying0
  a0 := Tryd.isAgg0
  z0 := Tryd.sizeOf0
  v0 := Tryd.zeroValue0
  i0 := by kernel_rfl
  t2 := Tryd.underlying2
  a2 := Tryd.isAgg2
  z2 := Tryd.sizeOf2
  v2 := Tryd.zeroValue2
  i2 := by kernel_rfl
  t3 := Tryd.underlying3
  a3 := Tryd.isAgg3
  z3 := Tryd.sizeOf3
  v3 := Tryd.zeroValue3
  i3 := by kernel_rfl
  t4 := Tryd.underlying4
  a4 := Tryd.isAgg4
  z4 := Tryd.sizeOf4
  v4 := Tryd.zeroValue4
  i4 := by kernel_rfl
  t5 := Tryd.underlying5
  a5 := Tryd.isAgg5
  z5 := Tryd.sizeOf5
  v5 := Tryd.zeroValue5
  i5 := by kernel_rfl
  t9 := Tryd.underlying9
  a9 := Tryd.isAgg9
  z9 := Tryd.sizeOf9
  v9 := Tryd.zeroValue9
  i9 := by kernel_rfl
  t20 := Tryd.underlying20
  a20 := Tryd.isAgg20
  z20 := Tryd.sizeOf20
  v20 := Tryd.zeroValue20
  i20 := by kernel_rfl
  t21 := Tryd.underlying21
  a21 := Tryd.isAgg21
  z21 := Tryd.sizeOf21
  v21 := Tryd.zeroValue21
  i21 := by kernel_rfl
  t22 := Tryd.underlying26
  a22 := Tryd.isAgg26
  z22 := Tryd.sizeOf26
  v22 := Tryd.zeroValue26
  i22 := by kernel_rfl
  t24 := Tryd.underlying86
  a24 := Tryd.isAgg86
  z24 := Tryd.sizeOf86
  v24 := Tryd.zeroValue86
  i24 := by kernel_rfl
  t25 := Tryd.underlying150
  a25 := Tryd.isAgg150
  z25 := Tryd.sizeOf150
  v25 := Tryd.zeroValue150
  i25 := by kernel_rfl
  t34 := Tryd.underlying193
  a34 := Tryd.isAgg193
  z34 := Tryd.sizeOf193
  v34 := Tryd.zeroValue193
  i34 := by kernel_rfl
  c34 := by kernel_rfl
  t36 := Tryd.underlying136
  a36 := Tryd.isAgg136
  z36 := Tryd.sizeOf136
  v36 := Tryd.zeroValue136
  i36 := by kernel_rfl
  t37 := Tryd.underlying22
  a37 := Tryd.isAgg22
  z37 := Tryd.sizeOf22
  v37 := Tryd.zeroValue22
  i37 := by kernel_rfl
  t39 := Tryd.underlying195
  a39 := Tryd.isAgg195
  z39 := Tryd.sizeOf195
  v39 := Tryd.zeroValue195
  i39 := by kernel_rfl
  t44 := Tryd.underlying206
  a44 := Tryd.isAgg206
  z44 := Tryd.sizeOf206
  v44 := Tryd.zeroValue206
  i44 := by kernel_rfl
  t47 := Tryd.underlying141
  a47 := Tryd.isAgg141
  z47 := Tryd.sizeOf141
  v47 := Tryd.zeroValue141
  i47 := by kernel_rfl
  t48 := Tryd.underlying216
  a48 := Tryd.isAgg216
  z48 := Tryd.sizeOf216
  v48 := Tryd.zeroValue216
  i48 := by kernel_rfl
  t50 := Tryd.underlying218
  a50 := Tryd.isAgg218
  z50 := Tryd.sizeOf218
  v50 := Tryd.zeroValue218
  i50 := by kernel_rfl
  t52 := Tryd.underlying171
  a52 := Tryd.isAgg171
  z52 := Tryd.sizeOf171
  v52 := Tryd.zeroValue171
  i52 := by kernel_rfl
  t55 := Tryd.underlying174
  a55 := Tryd.isAgg174
  z55 := Tryd.sizeOf174
  v55 := Tryd.zeroValue174
  i55 := by kernel_rfl
  t59 := Tryd.underlying187
  a59 := Tryd.isAgg187
  z59 := Tryd.sizeOf187
  v59 := Tryd.zeroValue187
  i59 := by kernel_rfl
  t60 := Tryd.underlying188
  a60 := Tryd.isAgg188
  z60 := Tryd.sizeOf188
  v60 := Tryd.zeroValue188
  i60 := by kernel_rfl
  t61 := Tryd.underlying138
  a61 := Tryd.isAgg138
  z61 := Tryd.sizeOf138
  t65 := Tryd.underlying24
  a65 := Tryd.isAgg24
  z65 := Tryd.sizeOf24
  v65 := Tryd.zeroValue24
  i65 := by kernel_rfl
  t66 := Tryd.underlying213
  a66 := Tryd.isAgg213
  z66 := Tryd.sizeOf213
  v66 := Tryd.zeroValue213
  i66 := by kernel_rfl
  t67 := Tryd.underlying96
  a67 := Tryd.isAgg96
  z67 := Tryd.sizeOf96
  v67 := Tryd.zeroValue96
  i67 := by kernel_rfl
  g0 := by kernel_rfl
  m0 := by kernel_rfl
  g1 := by kernel_rfl
  m1 := by kernel_rfl
  g2 := by kernel_rfl
  m2 := by kernel_rfl
  g3 := by kernel_rfl
  m3 := by kernel_rfl
  g4 := by kernel_rfl
  m4 := by kernel_rfl }
def Tryd.lays145_ren : Go.Shelf.Ren := ⟨fun | 145 => 88 | 220 => 124 | 219 => 145 | 217 => 163 | 225 => 164 | 224 => 165 | 267 => 166 | 266 => 171 | 314 => 172 | n => n, fun | 9 => 9 | 4 => 4 | 59 => 146 | 3 => 3 | 5 => 5 | 46 => 136 | 146 => 214 | 51 => 188 | n => n, fun | 1 => 1 | n => n⟩
theorem Tryd.lays145 : Go.Proofs.Lays.n145 Tryd.prog Tryd.lays145_ren := {
  mixed := by kernel_rfl
  f145 := Tryd.func88.trans (congrArg some (by kernel_rfl))
  f217 := Tryd.func163.trans (congrArg some (by kernel_rfl))
  f219 := Tryd.func145.trans (congrArg some (by kernel_rfl))
  f220 := Tryd.func124.trans (congrArg some (by kernel_rfl))
  f224 := Tryd.func165.trans (congrArg some (by kernel_rfl))
  f225 := Tryd.func164.trans (congrArg some (by kernel_rfl))
  f266 := Tryd.func171.trans (congrArg some (by kernel_rfl))
  f267 := Tryd.func166.trans (congrArg some (by kernel_rfl))
  f314 := Tryd.func172.trans (congrArg some (by kernel_rfl))
  t3 := Tryd.underlying3
  a3 := Tryd.isAgg3
  z3 := Tryd.sizeOf3
  v3 := Tryd.zeroValue3
  t4 := Tryd.underlying4
  a4 := Tryd.isAgg4
  z4 := Tryd.sizeOf4
  v4 := Tryd.zeroValue4
  t5 := Tryd.underlying5
  a5 := Tryd.isAgg5
  z5 := Tryd.sizeOf5
  v5 := Tryd.zeroValue5
  t9 := Tryd.underlying9
  a9 := Tryd.isAgg9
  z9 := Tryd.sizeOf9
  v9 := Tryd.zeroValue9
  t46 := Tryd.underlying136
  a46 := Tryd.isAgg136
  z46 := Tryd.sizeOf136
  v46 := Tryd.zeroValue136
  t51 := Tryd.underlying188
  a51 := Tryd.isAgg188
  z51 := Tryd.sizeOf188
  v51 := Tryd.zeroValue188
  t59 := Tryd.underlying146
  a59 := Tryd.isAgg146
  z59 := Tryd.sizeOf146
  v59 := Tryd.zeroValue146
  t146 := Tryd.underlying214
  a146 := Tryd.isAgg214
  z146 := Tryd.sizeOf214
  v146 := Tryd.zeroValue214
  g1 := by kernel_rfl }
open Go.RowKit Go.Lib in
theorem Tryd.strings_Cut (s sep : ByteArray) (m : Int) (w : World) (hs : s.size < 4294967281) (hm : w.cell? ⟨1, 0, none⟩ = some (.int .i64 m)) :
    Calls Tryd.prog 88 #[.string s, .string sep] w fun e w' => e = .returned (.tuple #[.string ⟨(Lib.cut s.data.toList sep.data.toList).1.toArray⟩, .string ⟨(Lib.cut s.data.toList sep.data.toList).2.1.toArray⟩, .bool (Lib.cut s.data.toList sep.data.toList).2.2]) ∧ ∃ n, w' = w.drewN n := Any.strings_Cut Tryd.lays145 s sep m w hs hm
open Go.RowKit in
/-- strconv.ParseUint of 10 and 64 at whatever string -/
theorem Tryd.ParseUint_all (s : ByteArray) (hlim : s.size ≤ 281474976710656) (w : World) (h2 : ∃ ev, w.cell? ⟨2, 0, none⟩ = some ev ∧ (ev = .nilIface ∨ ∃ te pe, ev = .iface te pe)) (h3 : ∃ ev, w.cell? ⟨3, 0, none⟩ = some ev ∧ (ev = .nilIface ∨ ∃ te pe, ev = .iface te pe)) :
    Calls Tryd.prog 94 #[.string s, .int .i64 10, .int .i64 64] w fun e w' => Below w.heap.size w w' ∧
      ((∃ v, Lib.parseUintB 64 s.data.toList = .ok v ∧ e = .returned (.tuple #[.int .u64 (v : Int), .nilIface])) ∨ ((∀ v, Lib.parseUintB 64 s.data.toList ≠ .ok v) ∧ ∃ (n : Nat) (N : Nat), n < 18446744073709551616 ∧ e = .returned (.tuple #[.int .u64 (n : Int), .iface 195 (.pointer (some ⟨N, 0, none⟩))]))) := by
  obtain ⟨ev2, hv2, he2⟩ := h2
  obtain ⟨ev3, hv3, he3⟩ := h3
  cases h : Lib.parseUintB 64 s.data.toList
  · rename_i v
    refine (Any.strconv_ParseUint_10_at64_ok Tryd.laysPu14 s (by omega) v h w).mono fun e w' ⟨he, hw⟩ => ⟨?_, .inl ⟨v, rfl, he⟩⟩
    rcases hw with rfl | rfl
    · exact Below.refl _ _
    · exact ⟨rfl, rfl, rfl, by rw [Lib.bytesWorld_size]; omega, fun i hi => Lib.bytesWorld_at_old _ _ _ i hi⟩
  · exact (Any.strconv_ParseUint_10_at64_syntax Tryd.laysPu14 s hlim h ev2 w hv2 he2).mono fun e w' ⟨N, he, _, _, hb⟩ => ⟨hb, .inr ⟨fun v hv => (by cases hv), 0, N, by omega, he⟩⟩
  · exact (Any.strconv_ParseUint_10_at64_range Tryd.laysPu14 s hlim h ev3 w hv3 he3).mono fun e w' ⟨N, he, _, _, hb⟩ => ⟨hb, .inr ⟨fun v hv => (by cases hv), 18446744073709551615, N, by omega, he⟩⟩
end Go.Proofs
namespace Go.Proofs
open Go.Shelf
def Tryd.laysC172_ren : Go.Shelf.Ren := ⟨fun | 172 => 107 | 244 => 133 | 245 => 129 | 247 => 156 | 279 => 150 | 280 => 151 | 281 => 152 | 282 => 153 | 287 => 128 | 316 => 167 | 171 => 104 | 205 => 168 | 321 => 148 | 322 => 149 | 243 => 132 | 246 => 155 | 283 => 120 | 284 => 121 | 285 => 122 | 286 => 123 | 129 => 141 | 317 => 140 | 318 => 142 | 319 => 143 | 320 => 144 | 337 => 161 | 338 => 162 | n => n, fun | 9 => 9 | 3 => 3 | 75 => 86 | 76 => 87 | 4 => 4 | 5 => 5 | 167 => 193 | 37 => 22 | 0 => 0 | 85 => 201 | 2 => 2 | 168 => 195 | 53 => 26 | 175 => 150 | 46 => 136 | 210 => 206 | 127 => 141 | 145 => 218 | 143 => 216 | 21 => 21 | 171 => 171 | 173 => 174 | 212 => 187 | 51 => 188 | 20 => 20 | 213 => 138 | 232 => 24 | 233 => 213 | 80 => 96 | n => n, fun | 15 => 2 | 16 => 3 | 17 => 0 | 18 => 6 | 19 => 7 | n => n⟩
theorem Tryd.laysC172 : Go.Proofs.LaysC.n172 Tryd.prog Tryd.laysC172_ren := {
  mixed := by kernel_rfl
  f129 := Tryd.func141.trans (congrArg some (by kernel_rfl))
  f171 := Tryd.func104.trans (congrArg some (by kernel_rfl))
  f172 := Tryd.func107.trans (congrArg some (by kernel_rfl))
  f205 := Tryd.func168.trans (congrArg some (by kernel_rfl))
  f243 := Tryd.func132.trans (congrArg some (by kernel_rfl))
  f244 := Tryd.func133.trans (congrArg some (by kernel_rfl))
  f245 := Tryd.func129.trans (congrArg some (by kernel_rfl))
  f246 := Tryd.func155.trans (congrArg some (by kernel_rfl))
  f247 := Tryd.func156.trans (congrArg some (by kernel_rfl))
  f279 := Tryd.func150.trans (congrArg some (by kernel_rfl))
  f280 := Tryd.func151.trans (congrArg some (by kernel_rfl))
  f281 := Tryd.func152.trans (congrArg some (by kernel_rfl))
  f282 := Tryd.func153.trans (congrArg some (by kernel_rfl))
  f283 := Tryd.func120.trans (congrArg some (by kernel_rfl))
  f284 := Tryd.func121.trans (congrArg some (by kernel_rfl))
  f285 := Tryd.func122.trans (congrArg some (by kernel_rfl))
  f286 := Tryd.func123.trans (congrArg some (by kernel_rfl))
  f287 := Tryd.func128.trans (congrArg some (by kernel_rfl))
  f316 := Tryd.func167.trans (congrArg some (by kernel_rfl))
  f317 := Tryd.func140.trans (congrArg some (by kernel_rfl))
  f318 := Tryd.func142.trans (congrArg some (by kernel_rfl))
  f319 := Tryd.func143.trans (congrArg some (by kernel_rfl))
  f320 := Tryd.func144.trans (congrArg some (by kernel_rfl))
  f321 := Tryd.func148.trans (congrArg some (by kernel_rfl))
  f322 := Tryd.func149.trans (congrArg some (by kernel_rfl))
  f337 := Tryd.func161.trans (congrArg some (by kernel_rfl))
  f338 := Tryd.func162.trans (congrArg some (by kernel_rfl))
  t0 := Tryd.underlying0
  a0 := Tryd.isAgg0
  z0 := Tryd.sizeOf0
  v0 := Tryd.zeroValue0
  t2 := Tryd.underlying2
  a2 := Tryd.isAgg2
  z2 := Tryd.sizeOf2
  v2 := Tryd.zeroValue2
  t3 := Tryd.underlying3
  a3 := Tryd.isAgg3
  z3 := Tryd.sizeOf3
  v3 := Tryd.zeroValue3
  t4 := Tryd.underlying4
  a4 := Tryd.isAgg4
  z4 := Tryd.sizeOf4
  v4 := Tryd.zeroValue4
  t5 := Tryd.underlying5
  a5 := Tryd.isAgg5
  z5 := Tryd.sizeOf5
  v5 := Tryd.zeroValue5
  t9 := Tryd.underlying9
  a9 := Tryd.isAgg9
  z9 := Tryd.sizeOf9
  v9 := Tryd.zeroValue9
  t20 := Tryd.underlying20
  a20 := Tryd.isAgg20
  z20 := Tryd.sizeOf20
  v20 := Tryd.zeroValue20
  t21 := Tryd.underlying21
  a21 := Tryd.isAgg21
  z21 := Tryd.sizeOf21
  v21 := Tryd.zeroValue21
  t37 := Tryd.underlying22
  a37 := Tryd.isAgg22
  z37 := Tryd.sizeOf22
  v37 := Tryd.zeroValue22
  t46 := Tryd.underlying136
  a46 := Tryd.isAgg136
  z46 := Tryd.sizeOf136
  v46 := Tryd.zeroValue136
  t51 := Tryd.underlying188
  a51 := Tryd.isAgg188
  z51 := Tryd.sizeOf188
  v51 := Tryd.zeroValue188
  t53 := Tryd.underlying26
  a53 := Tryd.isAgg26
  z53 := Tryd.sizeOf26
  v53 := Tryd.zeroValue26
  t75 := Tryd.underlying86
  a75 := Tryd.isAgg86
  z75 := Tryd.sizeOf86
  v75 := Tryd.zeroValue86
  t76 := Tryd.underlying87
  a76 := Tryd.isAgg87
  z76 := Tryd.sizeOf87
  v76 := Tryd.zeroValue87
  t85 := Tryd.underlying201
  a85 := Tryd.isAgg201
  z85 := Tryd.sizeOf201
  v85 := Tryd.zeroValue201
  t127 := Tryd.underlying141
  a127 := Tryd.isAgg141
  z127 := Tryd.sizeOf141
  v127 := Tryd.zeroValue141
  t143 := Tryd.underlying216
  a143 := Tryd.isAgg216
  z143 := Tryd.sizeOf216
  v143 := Tryd.zeroValue216
  t145 := Tryd.underlying218
  a145 := Tryd.isAgg218
  z145 := Tryd.sizeOf218
  v145 := Tryd.zeroValue218
  t167 := Tryd.underlying193
  a167 := Tryd.isAgg193
  z167 := Tryd.sizeOf193
  v167 := Tryd.zeroValue193
  t168 := Tryd.underlying195
  a168 := Tryd.isAgg195
  z168 := Tryd.sizeOf195
  v168 := Tryd.zeroValue195
  t171 := Tryd.underlying171
  a171 := Tryd.isAgg171
  z171 := Tryd.sizeOf171
  v171 := Tryd.zeroValue171
  t173 := Tryd.underlying174
  a173 := Tryd.isAgg174
  z173 := Tryd.sizeOf174
  v173 := Tryd.zeroValue174
  t175 := Tryd.underlying150
  a175 := Tryd.isAgg150
  z175 := Tryd.sizeOf150
  v175 := Tryd.zeroValue150
  t210 := Tryd.underlying206
  a210 := Tryd.isAgg206
  z210 := Tryd.sizeOf206
  v210 := Tryd.zeroValue206
  t212 := Tryd.underlying187
  a212 := Tryd.isAgg187
  z212 := Tryd.sizeOf187
  v212 := Tryd.zeroValue187
  t213 := Tryd.underlying138
  a213 := Tryd.isAgg138
  z213 := Tryd.sizeOf138
  t232 := Tryd.underlying24
  a232 := Tryd.isAgg24
  z232 := Tryd.sizeOf24
  v232 := Tryd.zeroValue24
  t233 := Tryd.underlying213
  a233 := Tryd.isAgg213
  z233 := Tryd.sizeOf213
  v233 := Tryd.zeroValue213
  g15 := by kernel_rfl
  g16 := by kernel_rfl
  g17 := by kernel_rfl
  g18 := by kernel_rfl
  g19 := by kernel_rfl
  t80 := Tryd.underlying96
  a80 := Tryd.isAgg96
  z80 := Tryd.sizeOf96
  v80 := Tryd.zeroValue96
  i0 := by kernel_rfl
  i2 := by kernel_rfl
  i3 := by kernel_rfl
  i4 := by kernel_rfl
  i5 := by kernel_rfl
  i9 := by kernel_rfl
  i20 := by kernel_rfl
  i21 := by kernel_rfl
  i37 := by kernel_rfl
  i46 := by kernel_rfl
  i51 := by kernel_rfl
  i53 := by kernel_rfl
  i75 := by kernel_rfl
  i76 := by kernel_rfl
  i80 := by kernel_rfl
  i85 := by kernel_rfl
  i127 := by kernel_rfl
  i143 := by kernel_rfl
  i145 := by kernel_rfl
  i167 := by kernel_rfl
  i168 := by kernel_rfl
  i171 := by kernel_rfl
  i173 := by kernel_rfl
  i175 := by kernel_rfl
  i210 := by kernel_rfl
  i212 := by kernel_rfl
  i232 := by kernel_rfl
  i233 := by kernel_rfl
  m15 := by kernel_rfl
  m16 := by kernel_rfl
  m17 := by kernel_rfl
  m18 := by kernel_rfl
  m19 := by kernel_rfl
  c0 := by kernel_rfl
  c2 := by kernel_rfl
  c3 := by kernel_rfl
  c4 := by kernel_rfl
  c5 := by kernel_rfl
  c9 := by kernel_rfl
  c20 := by kernel_rfl
  c21 := by kernel_rfl
  c37 := by kernel_rfl
  c46 := by kernel_rfl
  c51 := by kernel_rfl
  c53 := by kernel_rfl
  c75 := by kernel_rfl
  c76 := by kernel_rfl
  c80 := by kernel_rfl
  c85 := by kernel_rfl
  c127 := by kernel_rfl
  c143 := by kernel_rfl
  c145 := by kernel_rfl
  c167 := by kernel_rfl
  c168 := by kernel_rfl
  c171 := by kernel_rfl
  c173 := by kernel_rfl
  c175 := by kernel_rfl
  c210 := by kernel_rfl
  c212 := by kernel_rfl
  c213 := by kernel_rfl
  c232 := by kernel_rfl
  c233 := by kernel_rfl }
open Go.RowKit in
/-- strconv.Atoi at whatever string -/
theorem Tryd.Atoi_all (s : ByteArray) (hlim : s.size ≤ 281474976710656) (w : World) (h2 : ∃ ev, w.cell? ⟨2, 0, none⟩ = some ev ∧ (ev = .nilIface ∨ ∃ te pe, ev = .iface te pe)) (h3 : ∃ ev, w.cell? ⟨3, 0, none⟩ = some ev ∧ (ev = .nilIface ∨ ∃ te pe, ev = .iface te pe)) :
    Calls Tryd.prog 107 #[.string s] w fun e w' => Below w.heap.size w w' ∧
      ((∃ v, Lib.atoiAll s.data.toList = .ok v ∧ e = .returned (.tuple #[.int .i64 v, .nilIface])) ∨ ((∀ v, Lib.atoiAll s.data.toList ≠ .ok v) ∧ ∃ n N, e = .returned (.tuple #[.int .i64 n, .iface 195 (.pointer (some ⟨N, 0, none⟩))]))) := by
  obtain ⟨ev2, hv2, he2⟩ := h2
  obtain ⟨ev3, hv3, he3⟩ := h3
  cases h : Lib.atoiAll s.data.toList
  · rename_i v
    refine (Any.strconv_Atoi_ok Tryd.laysC172 s (by omega) v h w).mono fun e w' ⟨he, hw⟩ => ⟨?_, .inl ⟨v, rfl, he⟩⟩
    rcases hw with rfl | ⟨t, rfl⟩
    · exact Below.refl _ _
    · exact ⟨rfl, rfl, rfl, by rw [Lib.bytesWorld_size]; omega, fun i hi => Lib.bytesWorld_at_old _ _ _ i hi⟩
  · exact (Any.strconv_Atoi_syntax Tryd.laysC172 s hlim h ev2 w hv2 he2).mono fun e w' ⟨N, he, _, _, hb⟩ => ⟨hb, .inr ⟨fun v hv => (by cases hv), _, N, he⟩⟩
  · exact (Any.strconv_Atoi_range Tryd.laysC172 s hlim h ev3 w hv3 he3).mono fun e w' ⟨N, he, _, _, hb⟩ => ⟨hb, .inr ⟨fun v hv => (by cases hv), _, N, he⟩⟩
end Go.Proofs
namespace Go.Proofs.YtfjfjjcdlgdbcaaDoor
open Go.RowKit
set_option linter.unusedSimpArgs false
set_option linter.unusedVariables false

/-- the number that prints so -/
def numL (s : List UInt8) : Option Int := match Lib.atoiAll s with
  | .ok v => if Lib.itoa v = s then some v else none
  | _ => none
theorem numL_ok (s : List UInt8) (v : Int) (h : Lib.atoiAll s = .ok v) : numL s = if Lib.itoa v = s then some v else none := by rw [numL, h]
theorem numL_no (s : List UInt8) (h : ∀ v, Lib.atoiAll s ≠ .ok v) : numL s = none := by
  unfold numL
  split
  · rename_i v hv; exact absurd hv (h v)
  · rfl
theorem atoi_bounds (s : List UInt8) (v : Int) (h : Lib.atoiAll s = .ok v) : -9223372036854775808 ≤ v ∧ v ≤ 9223372036854775807 := by
  cases s with
  | nil => simp [Lib.atoiAll] at h
  | cons c r =>
    simp only [Lib.atoiAll] at h
    split at h
    · cases h
    · cases h
    · rename_i u hu
      have := Lib.parseMag_lt hu
      split at h
      · cases h
      · split at h
        · cases h
        · injection h with h
          rename_i h1 h2
          subst h
          split <;> omega

set_option maxRecDepth 100000 in
set_option maxHeartbeats 2000000 in
theorem number106_calls (s : List UInt8) (sb g off : Nat) (w : World) (hs : s.length ≤ 100000000) (hL : LaidW w) (hv : w.cell? ⟨sb, 0, none⟩ = some (.string (str s))) (hsg : sb ≠ g)
    (hroom : ∀ W, Below w.heap.size w W → RoomAt W g off 1) (hLs : ∀ W n, Below w.heap.size w W → LaidW (W.setCell ⟨g, off, none⟩ (.int .i64 n))) :
    Calls Tryd.prog 106 #[.pointer (some ⟨g, off, none⟩), .pointer (some ⟨sb, 0, none⟩)] w fun e w' => ∃ w2 n, Below w.heap.size w w2 ∧ Below (w2.setCell ⟨g, off, none⟩ (.int .i64 n)).heap.size (w2.setCell ⟨g, off, none⟩ (.int .i64 n)) w' ∧
      ((numL s = some n ∧ (-9223372036854775808 ≤ n ∧ n ≤ 9223372036854775807) ∧ e = .returned (.bool true)) ∨ (numL s = none ∧ e = .returned (.bool false))) := by
  have hc := Lib.hid (Tryd.Atoi_all (str s) (by rw [str_size]; omega) w hL.syn hL.rng)
  have hrm := Lib.hid (fun W hW => (hroom W hW 0 (by omega)))
  have hlt := World.block_lt_of_cell? w _ hv
  have hcv := Lib.hid (fun W n (hW : Below w.heap.size w W) => show (W.setCell ⟨g, off, none⟩ (.int .i64 n)).cell? ⟨sb, 0, none⟩ = some (.string (str s)) by
    have e : (W.setCell ⟨g, off, none⟩ (.int .i64 n)).cell? ⟨sb, 0, none⟩ = W.cell? ⟨sb, 0, none⟩ := by
      unfold World.cell?
      rw [Below.heap_setCell W ⟨g, off, none⟩ (.int .i64 n) sb hsg]
    rw [e, hW.cell hlt]; exact hv)
  have HLS := Lib.hid hLs
  clear hroom hL hLs
  by_cases ha : ∃ v, Lib.atoiAll s = .ok v
  · obtain ⟨v, ha⟩ := ha
    have hbd := atoi_bounds s v ha
    have hnl := Lib.hid (numL_ok s v ha)
    have hc2 := Lib.hid (hc.out.mono (fun e w' ⟨hb, h⟩ => (show Below w.heap.size w w' ∧ e = Ending.returned (.tuple #[.int .i64 v, .nilIface]) from ⟨hb, by
      rcases h with ⟨v', h1, h2⟩ | ⟨h1, _⟩
      · have : v' = v := by
          have h3 := h1.symm.trans ha
          injection h3
        rw [← this]; exact h2
      · exact absurd ha (h1 v)⟩)))
    have hit := Lib.hid (fun W (hW : LaidW W) => Itoa_calls v W hbd.1 hbd.2 hW)
    have hcmp : ((str (Lib.itoa v)).toList == (str s).toList) = decide (Lib.itoa v = s) := by rw [str_list, str_list, Bool.eq_iff_iff]; simp
    clear hc ha
    go_enter Tryd.func106, Tryd.ntmps106
    go_wp2_with (go_at_call 107; refine hc2.out.mono ?_; rintro e w1 ⟨hb1, rfl⟩; obtain ⟨u0, hu0⟩ := Option.isSome_iff_exists.1 (hrm.out w1 hb1).1; have hf0 := (hrm.out w1 hb1).2; simp only [Nat.add_zero] at hu0 hf0)
    have hLS := Lib.hid (HLS.out w1 v hb1)
    have hcw := hcv.out w1 v hb1
    refine wp_region_held_drew (S := (fun W => W.cell? ⟨sb, 0, none⟩ = some (Value.string (str s)))) (by kernel_rfl) (hcw) (fun hHeld => ?_)
    refine wpAnyH_take (i := 0) (v := .nilIface) rfl (by kernel_rfl) (by kernel_rfl) (by kernel_rfl) (fun _ _ _ h => h) (.inl ⟨by rfl, fun W hS => by go_simp⟩) hHeld ?_
    simp only [Act.put, List.setIfInBounds_toArray, List.set_cons_zero, List.set_cons_succ, List.getElem_toArray, List.getElem_cons_succ, List.getElem_cons_zero]
    refine wpAnyH_take (i := 1) (v := .bool true) rfl (by kernel_rfl) (by kernel_rfl) (by kernel_rfl) (fun _ _ _ h => h) (.inl ⟨by rfl, fun W hS => by go_simp⟩) hHeld ?_
    simp only [Act.put, List.setIfInBounds_toArray, List.set_cons_zero, List.set_cons_succ, List.getElem_toArray, List.getElem_cons_succ, List.getElem_cons_zero]
    refine wpAnyH_take (i := 2) (v := .bool true) rfl (by kernel_rfl) (by kernel_rfl) (by kernel_rfl) (fun _ _ _ h => h) (.inl ⟨by rfl, fun W hS => by go_simp⟩) hHeld ?_
    simp only [Act.put, List.setIfInBounds_toArray, List.set_cons_zero, List.set_cons_succ, List.getElem_toArray, List.getElem_cons_succ, List.getElem_cons_zero]
    refine wpAnyH_take (i := 3) (v := .int .i64 v) rfl (by kernel_rfl) (by kernel_rfl) (by kernel_rfl) (fun _ _ _ h => h) (.inl ⟨by rfl, fun W hS => by go_simp⟩) hHeld ?_
    simp only [Act.put, List.setIfInBounds_toArray, List.set_cons_zero, List.set_cons_succ, List.getElem_toArray, List.getElem_cons_succ, List.getElem_cons_zero]
    refine wpAnyH_take (i := 5) (v := .string (str s)) rfl (by kernel_rfl) (by kernel_rfl) (by kernel_rfl) (fun _ _ _ h => h) (.inl ⟨by rfl, fun W hS => by (have hS : W.cell? ⟨sb, 0, none⟩ = some (Value.string (str s)) := hS); go_simp⟩) hHeld ?_
    simp only [Act.put, List.setIfInBounds_toArray, List.set_cons_zero, List.set_cons_succ, List.getElem_toArray, List.getElem_cons_succ, List.getElem_cons_zero]
    refine wpAnyH_ready (rs := [4]) (by kernel_rfl) (by simp) ?_
    refine AllReadyH.cons rfl (fun K hK => ?_) AllReadyH.nil
    go_simp
    go_wp2_with (go_at_call 104; refine (hit.out _ (by first | exact hLS.out | exact hLS.out.below (Below.refl _ _).drew)).mono ?_; rintro e w3 ⟨rfl, hb3⟩)
    refine hK.out _ _ (cell_below' hb3 hcw) (fun hHeld => ?_)
    clear hK K
    refine wpAnyH_take (i := 6) (v := .bool (decide (Lib.itoa v = s))) rfl (by kernel_rfl) (by kernel_rfl) (by kernel_rfl) (fun _ _ _ h => h) (.inl ⟨by rfl, fun W hS => by go_simp⟩) hHeld ?_
    simp only [Act.put, List.setIfInBounds_toArray, List.set_cons_zero, List.set_cons_succ, List.getElem_toArray, List.getElem_cons_succ, List.getElem_cons_zero]
    refine wpAnyH_take (i := 7) (v := .bool (decide (Lib.itoa v = s))) rfl (by kernel_rfl) (by kernel_rfl) (by kernel_rfl) (fun _ _ _ h => h) (.inl ⟨by rfl, fun W hS => by go_simp⟩) hHeld ?_
    simp only [Act.put, List.setIfInBounds_toArray, List.set_cons_zero, List.set_cons_succ, List.getElem_toArray, List.getElem_cons_succ, List.getElem_cons_zero]
    refine wpAnyH_ready (rs := [8]) (by kernel_rfl) (by simp) ?_
    refine AllReadyH.cons rfl (fun K hK => ?_) AllReadyH.nil
    go_simp
    refine hK.out _ _ (cell_below' hb3 hcw) (fun hHeld => ?_)
    clear hK K
    refine wpAnyH_done (by kernel_rfl) ?_ _
    go_wp2
    go_ret
    refine ⟨w1, v, hb1, thn (Below.refl _ _).drew hb3, ?_⟩
    by_cases hi : Lib.itoa v = s
    · exact .inl ⟨by rw [hnl.out, if_pos hi], hbd, by simp [hi]⟩
    · exact .inr ⟨by rw [hnl.out, if_neg hi], by simp [hi]⟩
  · have hnl := Lib.hid (numL_no s (fun v hv => ha ⟨v, hv⟩))
    have hc2 := Lib.hid (hc.out.mono (fun e w' ⟨hb, h⟩ => (show Below w.heap.size w w' ∧ ∃ n N, e = Ending.returned (.tuple #[.int .i64 n, .iface 195 (.pointer (some ⟨N, 0, none⟩))]) from ⟨hb, by
      rcases h with ⟨v', h1, h2⟩ | ⟨_, h1⟩
      · exact absurd ⟨v', h1⟩ ha
      · exact h1⟩)))
    clear hc ha
    go_enter Tryd.func106, Tryd.ntmps106
    go_wp2_with (go_at_call 107; refine hc2.out.mono ?_; rintro e w1 ⟨hb1, n, N, rfl⟩; obtain ⟨u0, hu0⟩ := Option.isSome_iff_exists.1 (hrm.out w1 hb1).1; have hf0 := (hrm.out w1 hb1).2; simp only [Nat.add_zero] at hu0 hf0)
    refine wp_region_held_drew (S := fun _ => True) (by kernel_rfl) (trivial) (fun hHeld => ?_)
    refine wpAnyH_take (i := 0) (v := .iface 195 (.pointer (some ⟨N, 0, none⟩))) rfl (by kernel_rfl) (by kernel_rfl) (by kernel_rfl) (fun _ _ _ h => h) (.inl ⟨by rfl, fun W hS => by go_simp⟩) hHeld ?_
    simp only [Act.put, List.setIfInBounds_toArray, List.set_cons_zero, List.set_cons_succ, List.getElem_toArray, List.getElem_cons_succ, List.getElem_cons_zero]
    refine wpAnyH_take (i := 1) (v := .bool false) rfl (by kernel_rfl) (by kernel_rfl) (by kernel_rfl) (fun _ _ _ h => h) (.inl ⟨by rfl, fun W hS => by go_simp⟩) hHeld ?_
    simp only [Act.put, List.setIfInBounds_toArray, List.set_cons_zero, List.set_cons_succ, List.getElem_toArray, List.getElem_cons_succ, List.getElem_cons_zero]
    refine wpAnyH_take (i := 2) (v := .bool false) rfl (by kernel_rfl) (by kernel_rfl) (by kernel_rfl) (fun _ _ _ h => h) (.inl ⟨by rfl, fun W hS => by go_simp⟩) hHeld ?_
    simp only [Act.put, List.setIfInBounds_toArray, List.set_cons_zero, List.set_cons_succ, List.getElem_toArray, List.getElem_cons_succ, List.getElem_cons_zero]
    refine wpAnyH_take (i := 3) (v := undef) rfl (by kernel_rfl) (by kernel_rfl) (by kernel_rfl) (fun _ _ _ h => h) (.inr ⟨by kernel_rfl, rfl⟩) hHeld ?_
    simp only [Act.put, List.setIfInBounds_toArray, List.set_cons_zero, List.set_cons_succ, List.getElem_toArray, List.getElem_cons_succ, List.getElem_cons_zero]
    refine wpAnyH_take (i := 4) (v := undef) rfl (by kernel_rfl) (by kernel_rfl) (by kernel_rfl) (fun _ _ _ h => h) (.inr ⟨by kernel_rfl, rfl⟩) hHeld ?_
    simp only [Act.put, List.setIfInBounds_toArray, List.set_cons_zero, List.set_cons_succ, List.getElem_toArray, List.getElem_cons_succ, List.getElem_cons_zero]
    refine wpAnyH_take (i := 5) (v := undef) rfl (by kernel_rfl) (by kernel_rfl) (by kernel_rfl) (fun _ _ _ h => h) (.inr ⟨by kernel_rfl, rfl⟩) hHeld ?_
    simp only [Act.put, List.setIfInBounds_toArray, List.set_cons_zero, List.set_cons_succ, List.getElem_toArray, List.getElem_cons_succ, List.getElem_cons_zero]
    refine wpAnyH_take (i := 6) (v := undef) rfl (by kernel_rfl) (by kernel_rfl) (by kernel_rfl) (fun _ _ _ h => h) (.inr ⟨by kernel_rfl, rfl⟩) hHeld ?_
    simp only [Act.put, List.setIfInBounds_toArray, List.set_cons_zero, List.set_cons_succ, List.getElem_toArray, List.getElem_cons_succ, List.getElem_cons_zero]
    refine wpAnyH_take (i := 7) (v := .bool false) rfl (by kernel_rfl) (by kernel_rfl) (by kernel_rfl) (fun _ _ _ h => h) (.inl ⟨by rfl, fun W hS => by go_simp⟩) hHeld ?_
    simp only [Act.put, List.setIfInBounds_toArray, List.set_cons_zero, List.set_cons_succ, List.getElem_toArray, List.getElem_cons_succ, List.getElem_cons_zero]
    refine wpAnyH_ready (rs := [8]) (by kernel_rfl) (by simp) ?_
    refine AllReadyH.cons rfl (fun K hK => ?_) AllReadyH.nil
    go_simp
    refine hK.out _ _ (trivial) (fun hHeld => ?_)
    clear hK K
    refine wpAnyH_done (by kernel_rfl) ?_ _
    go_wp2
    go_ret
    exact ⟨w1, n, hb1, (Below.refl _ _).drew, .inr ⟨hnl.out, rfl⟩⟩
end Go.Proofs.YtfjfjjcdlgdbcaaDoor
namespace Go.Proofs.YtfjfjjcdlgdbcaaDoor
open Go.RowKit
set_option linter.unusedSimpArgs false
set_option linter.unusedVariables false

theorem gr_below {g : Nat} {W w : World} (h : Below W.heap.size W w) : W.grownBy w (some g) := ⟨h.os, h.tape, h.output, h.size, fun i hi _ => h.block i hi⟩
theorem gr_setCells {g : Nat} {W w : World} (h : W.grownBy w (some g)) (off : Nat) (vs : List Value) : W.grownBy (w.setCells g off vs) (some g) := by
  have hb := below_setCells (B := 0) (Below.refl 0 w) g off vs (Nat.zero_le _)
  refine ⟨hb.os.trans h.os, hb.tape.trans h.tape, hb.output.trans h.output, Nat.le_trans h.size hb.size, fun i hi hne => ?_⟩
  rw [heap_setCells_other vs off w g i (by intro e; exact hne (by rw [e]))]
  exact h.block i hi hne
theorem gr_setCell {g : Nat} {W w : World} (h : W.grownBy w (some g)) (off : Nat) (v : Value) : W.grownBy (w.setCell ⟨g, off, none⟩ v) (some g) := gr_setCells h off [v]
theorem gr_new {g : Nat} {W w : World} (h : W.grownBy w (some g)) (b : Nat) (v : Value) (hb : W.heap.size ≤ b) : W.grownBy (w.setCell ⟨b, 0, none⟩ v) (some g) := by
  have h0 := below_setCells (B := 0) (Below.refl 0 w) b 0 [v] (Nat.zero_le _)
  refine ⟨h0.os.trans h.os, h0.tape.trans h.tape, h0.output.trans h.output, Nat.le_trans h.size h0.size, fun i hi hne => ?_⟩
  rw [Below.heap_setCell w ⟨b, 0, none⟩ v i (by show i ≠ b; omega)]
  exact h.block i hi hne
theorem gr_then {g : Nat} {W w w' : World} (h : W.grownBy w (some g)) (k : Below w.heap.size w w') : W.grownBy w' (some g) :=
  ⟨k.os.trans h.os, k.tape.trans h.tape, k.output.trans h.output, Nat.le_trans h.size k.size, fun i hi hne => (k.block i (Nat.lt_of_lt_of_le hi h.size)).trans (h.block i hi hne)⟩
theorem ovw_mid (xs a a' r : List Value) (h : a'.length = a.length) : ovw (xs ++ (a ++ r)).toArray xs.length a' = (xs ++ (a' ++ r)).toArray := by
  unfold ovw
  congr 1
  rw [h]
  simp [List.take_append, List.drop_append]
theorem ovw_at (o : Nat) (xs a a' r : List Value) (ho : xs.length = o) (h : a'.length = a.length) : ovw (xs ++ (a ++ r)).toArray o a' = (xs ++ (a' ++ r)).toArray := by
  subst ho; exact ovw_mid xs a a' r h
theorem LaidW.set {W : World} (h : LaidW W) {g : Nat} {t : TypeId} {cs : Array Value} (hB : Blk W g t cs) (hs : cs.size = 121) (off : Nat) (ho : 1 ≤ off) (v : Value) : LaidW (W.setCell ⟨g, off, none⟩ v) := by
  have hcell : ∀ b u, W.cell? ⟨b, 0, none⟩ = some u → (W.setCell ⟨g, off, none⟩ v).cell? ⟨b, 0, none⟩ = some u := by
    intro b u hu
    by_cases e : b = g
    · subst e
      have hB2 := hB.set_ off v
      rw [hB.cell] at hu
      rw [hB2.cell, Array.getElem?_setIfInBounds, if_neg (by omega)]
      exact hu
    · rw [← hu]
      unfold World.cell?
      rw [Below.heap_setCell W ⟨g, off, none⟩ v b e]
  obtain ⟨h1, ⟨m, h2⟩, ⟨e2, h3, h3'⟩, ⟨e3, h4, h4'⟩⟩ := h
  refine ⟨?_, ⟨m, hcell _ _ h2⟩, ⟨e2, hcell _ _ h3, h3'⟩, ⟨e3, hcell _ _ h4, h4'⟩⟩
  unfold Lib.TabIs World.var? at h1 ⊢
  have hg : Tryd.prog.globalNamed "internal/strconv.uint64pow10" = some 0 := by kernel_rfl
  rw [hg] at h1 ⊢
  simp only [Option.bind_some] at h1 ⊢
  have hne : (0 : Nat) ≠ g := by
    intro e
    subst e
    unfold Blk at hB
    rw [hB] at h1
    have h5 := congrArg Array.size (Option.some.inj h1)
    rw [hs] at h5
    simp [Lib.pow10Tab] at h5
  rw [Below.heap_setCell W ⟨g, off, none⟩ v 0 hne]
  exact h1

/-- the keys of parts -/
def keysP : List (List UInt8) → Option (List (List UInt8 × List UInt8))
  | [] => some []
  | p :: ps => if (undigL p).2 = true ∧ p ≠ [46] then (keysP ps).map (((undigL p).1, []) :: ·) else none
/-- what a field is read as -/
def pF (A : ActP) (c : UInt8) (s : List UInt8) : Option ActP :=
  if c = 97 then (if (undigL s).2 = true ∧ (undigL s).1.length = 20 then some { A with addr := (undigL s).1 } else none)
  else if c = 107 then (if (undigL s).2 = true ∧ (undigL s).1.length = 32 then some { A with key := (undigL s).1 } else none)
  else if c = 119 then (if (undigL s).2 = true ∧ (undigL s).1.length = 32 then some { A with word := (undigL s).1 } else none)
  else if c = 114 then (if (undigL s).2 = true ∧ (undigL s).1.length = 32 then some { A with root := (undigL s).1 } else none)
  else if c = 110 then (numL s).map fun n => { A with n := n }
  else if c = 109 then (numL s).map fun n => { A with m := n }
  else if c = 98 then (if (undigL s).2 = true then some { A with b := (undigL s).1 } else none)
  else if s = [46] then some A else (keysP (splitL 44 s)).map fun l => { A with l := A.l ++ l }
theorem ovw_addr (A : ActP) (b l : Value) (xs : List UInt8) (h : A.Fit) (hx : xs.length = 20) : ovw (ak A b l) 1 (bvs xs) = ak { A with addr := xs } b l := by
  have := ovw_at 1 ([Value.int .i64 A.kind]) (bvs A.addr) (bvs xs) (bvs A.key ++ (bvs A.word ++ (bvs A.root ++ [.int .i64 A.n, .int .i64 A.m, b, l]))) (by simp [bvs_length, h.ha, h.hk, h.hw, h.hr]) (by rw [bvs_length, bvs_length, hx, h.ha])
  simpa [ak, List.append_assoc] using this
theorem ovw_key (A : ActP) (b l : Value) (xs : List UInt8) (h : A.Fit) (hx : xs.length = 32) : ovw (ak A b l) 21 (bvs xs) = ak { A with key := xs } b l := by
  have := ovw_at 21 ([Value.int .i64 A.kind] ++ bvs A.addr) (bvs A.key) (bvs xs) (bvs A.word ++ (bvs A.root ++ [.int .i64 A.n, .int .i64 A.m, b, l])) (by simp [bvs_length, h.ha, h.hk, h.hw, h.hr]) (by rw [bvs_length, bvs_length, hx, h.hk])
  simpa [ak, List.append_assoc] using this
theorem ovw_word (A : ActP) (b l : Value) (xs : List UInt8) (h : A.Fit) (hx : xs.length = 32) : ovw (ak A b l) 53 (bvs xs) = ak { A with word := xs } b l := by
  have := ovw_at 53 ([Value.int .i64 A.kind] ++ (bvs A.addr ++ bvs A.key)) (bvs A.word) (bvs xs) (bvs A.root ++ [.int .i64 A.n, .int .i64 A.m, b, l]) (by simp [bvs_length, h.ha, h.hk, h.hw, h.hr]) (by rw [bvs_length, bvs_length, hx, h.hw])
  simpa [ak, List.append_assoc] using this
theorem ovw_root (A : ActP) (b l : Value) (xs : List UInt8) (h : A.Fit) (hx : xs.length = 32) : ovw (ak A b l) 85 (bvs xs) = ak { A with root := xs } b l := by
  have := ovw_at 85 ([Value.int .i64 A.kind] ++ (bvs A.addr ++ (bvs A.key ++ bvs A.word))) (bvs A.root) (bvs xs) ([.int .i64 A.n, .int .i64 A.m, b, l]) (by simp [bvs_length, h.ha, h.hk, h.hw, h.hr]) (by rw [bvs_length, bvs_length, hx, h.hr])
  simpa [ak, List.append_assoc] using this
theorem set_n (A : ActP) (b l : Value) (n : Int) (h : A.Fit) : (ak A b l).setIfInBounds 117 (.int .i64 n) = ak { A with n := n } b l := by
  have e : (ak A b l).setIfInBounds 117 (.int .i64 n) = ovw (ak A b l) 117 [.int .i64 n] := by
    apply Array.ext_getElem?
    intro j
    have hs := ak_size A b l h
    rw [get_ovw _ _ _ (by simp; omega), Array.getElem?_setIfInBounds]
    by_cases e : 117 = j
    · subst e; simp [hs]
    · rw [if_neg e, if_neg (by simp; omega)]
  rw [e]
  have := ovw_at 117 ([Value.int .i64 A.kind] ++ (bvs A.addr ++ (bvs A.key ++ (bvs A.word ++ bvs A.root)))) [Value.int .i64 A.n] [Value.int .i64 n] ([.int .i64 A.m, b, l]) (by simp [bvs_length, h.ha, h.hk, h.hw, h.hr]) rfl
  simpa [ak, List.append_assoc] using this
theorem set_m (A : ActP) (b l : Value) (n : Int) (h : A.Fit) : (ak A b l).setIfInBounds 118 (.int .i64 n) = ak { A with m := n } b l := by
  have e : (ak A b l).setIfInBounds 118 (.int .i64 n) = ovw (ak A b l) 118 [.int .i64 n] := by
    apply Array.ext_getElem?
    intro j
    have hs := ak_size A b l h
    rw [get_ovw _ _ _ (by simp; omega), Array.getElem?_setIfInBounds]
    by_cases e : 118 = j
    · subst e; simp [hs]
    · rw [if_neg e, if_neg (by simp; omega)]
  rw [e]
  have := ovw_at 118 ([Value.int .i64 A.kind] ++ (bvs A.addr ++ (bvs A.key ++ (bvs A.word ++ bvs A.root))) ++ [.int .i64 A.n]) [Value.int .i64 A.m] [Value.int .i64 n] ([b, l]) (by simp [bvs_length, h.ha, h.hk, h.hw, h.hr]) rfl
  simpa [ak, List.append_assoc] using this
theorem set_b (A : ActP) (b b' l : Value) (xs : List UInt8) (h : A.Fit) : (ak A b l).setIfInBounds 119 b' = ak { A with b := xs } b' l := by
  have e : (ak A b l).setIfInBounds 119 b' = ovw (ak A b l) 119 [b'] := by
    apply Array.ext_getElem?
    intro j
    have hs := ak_size A b l h
    rw [get_ovw _ _ _ (by simp; omega), Array.getElem?_setIfInBounds]
    by_cases e : 119 = j
    · subst e; simp [hs]
    · rw [if_neg e, if_neg (by simp; omega)]
  rw [e]
  have := ovw_at 119 ([Value.int .i64 A.kind] ++ (bvs A.addr ++ (bvs A.key ++ (bvs A.word ++ bvs A.root))) ++ [.int .i64 A.n, .int .i64 A.m]) [b] [b'] [l] (by simp [bvs_length, h.ha, h.hk, h.hw, h.hr]) rfl
  simpa [ak, List.append_assoc] using this
theorem set_l (A : ActP) (b l l' : Value) (xs : List (List UInt8 × List UInt8)) (h : A.Fit) : (ak A b l).setIfInBounds 120 l' = ak { A with l := xs } b l' := by
  have e : (ak A b l).setIfInBounds 120 l' = ovw (ak A b l) 120 [l'] := by
    apply Array.ext_getElem?
    intro j
    have hs := ak_size A b l h
    rw [get_ovw _ _ _ (by simp; omega), Array.getElem?_setIfInBounds]
    by_cases e : 120 = j
    · subst e; simp [hs]
    · rw [if_neg e, if_neg (by simp; omega)]
  rw [e]
  have := ovw_at 120 ([Value.int .i64 A.kind] ++ (bvs A.addr ++ (bvs A.key ++ (bvs A.word ++ bvs A.root))) ++ [.int .i64 A.n, .int .i64 A.m, b]) [l] [l'] [] (by simp [bvs_length, h.ha, h.hk, h.hw, h.hr]) rfl
  simpa [ak, List.append_assoc] using this
end Go.Proofs.YtfjfjjcdlgdbcaaDoor
