/- strings.Cut, CutPrefix, TrimLeft, Split and strconv.Atoi at this program: the library's contracts, laid. Condition: block 1 holds bytealg.MaxLen. -/
import Derived.Shelf.LaysM
import Derived.Shelf.Strings.Cut
import Derived.Shelf.Strings.Split
import Derived.Shelf.Small.Wraps
import Derived.Shelf.Strings.Trim
import Derived.Shelf.Strconv.AtoiAll
import Derived.Test.YtidgpkccjcddgaaGreatDoorProg
import Derived.Test.YtidgpkccjcddgaaGreatDoorHab
import Derived.Test.YtidgpkccjcddgaaGreatDoorGm
import Derived.Test.YtidgpkccjcddgaaGreatDoorGk
namespace Go.Proofs.YtidgpkccjcddgaaGreatDoor.F
open Go.Shelf
def lays161_ren : Go.Shelf.Ren := ⟨fun | 161 => 185 | 231 => 236 | 227 => 237 | 233 => 238 | 235 => 239 | 228 => 277 | 197 => 232 | 151 => 278 | 260 => 271 | 152 => 295 | 137 => 259 | 119 => 300 | 224 => 274 | 225 => 273 | 217 => 272 | 266 => 293 | n => n, fun | 9 => 9 | 4 => 4 | 3 => 3 | 5 => 5 | 117 => 264 | 116 => 263 | 0 => 0 | 124 => 267 | 105 => 257 | 21 => 21 | 119 => 302 | 46 => 167 | 139 => 305 | 138 => 304 | n => n, fun | 3 => 6 | 4 => 7 | n => n⟩
theorem lays161 : Go.Proofs.Lays.n161 Tryz.prog lays161_ren := {
 mixed := by kernel_rfl
 f119 := Tryz.func300.trans (congrArg some (by kernel_rfl))
 f137 := Tryz.func259.trans (congrArg some (by kernel_rfl))
 f151 := Tryz.func278.trans (congrArg some (by kernel_rfl))
 f152 := Tryz.func295.trans (congrArg some (by kernel_rfl))
 f161 := Tryz.func185.trans (congrArg some (by kernel_rfl))
 f197 := Tryz.func232.trans (congrArg some (by kernel_rfl))
 f217 := Tryz.func272.trans (congrArg some (by kernel_rfl))
 f224 := Tryz.func274.trans (congrArg some (by kernel_rfl))
 f225 := Tryz.func273.trans (congrArg some (by kernel_rfl))
 f227 := Tryz.func237.trans (congrArg some (by kernel_rfl))
 f228 := Tryz.func277.trans (congrArg some (by kernel_rfl))
 f231 := Tryz.func236.trans (congrArg some (by kernel_rfl))
 f233 := Tryz.func238.trans (congrArg some (by kernel_rfl))
 f235 := Tryz.func239.trans (congrArg some (by kernel_rfl))
 f260 := Tryz.func271.trans (congrArg some (by kernel_rfl))
 f266 := Tryz.func293.trans (congrArg some (by kernel_rfl))
 t0 := Tryz.underlying0
 a0 := Tryz.isAgg0
 z0 := Tryz.sizeOf0
 v0 := Tryz.zeroValue0
 t3 := Tryz.underlying3
 a3 := Tryz.isAgg3
 z3 := Tryz.sizeOf3
 v3 := Tryz.zeroValue3
 t4 := Tryz.underlying4
 a4 := Tryz.isAgg4
 z4 := Tryz.sizeOf4
 v4 := Tryz.zeroValue4
 t5 := Tryz.underlying5
 a5 := Tryz.isAgg5
 z5 := Tryz.sizeOf5
 v5 := Tryz.zeroValue5
 t9 := Tryz.underlying9
 a9 := Tryz.isAgg9
 z9 := Tryz.sizeOf9
 v9 := Tryz.zeroValue9
 t21 := Tryz.underlying21
 a21 := Tryz.isAgg21
 z21 := Tryz.sizeOf21
 v21 := Tryz.zeroValue21
 t46 := Tryz.underlying167
 a46 := Tryz.isAgg167
 z46 := Tryz.sizeOf167
 v46 := Tryz.zeroValue167
 t105 := Tryz.underlying257
 a105 := Tryz.isAgg257
 z105 := Tryz.sizeOf257
 v105 := Tryz.zeroValue257
 t116 := Tryz.underlying263
 a116 := Tryz.isAgg263
 z116 := Tryz.sizeOf263
 t117 := Tryz.underlying264
 a117 := Tryz.isAgg264
 z117 := Tryz.sizeOf264
 v117 := Tryz.zeroValue264
 t119 := Tryz.underlying302
 a119 := Tryz.isAgg302
 z119 := Tryz.sizeOf302
 t124 := Tryz.underlying267
 a124 := Tryz.isAgg267
 z124 := Tryz.sizeOf267
 v124 := Tryz.zeroValue267
 t138 := Tryz.underlying304
 a138 := Tryz.isAgg304
 z138 := Tryz.sizeOf304
 v138 := Tryz.zeroValue304
 t139 := Tryz.underlying305
 a139 := Tryz.isAgg305
 z139 := Tryz.sizeOf305
 v139 := Tryz.zeroValue305
 g3 := by kernel_rfl
 g4 := by kernel_rfl }
open Go.RowKit in
theorem strings_TrimLeft_one (s : ByteArray) (c : UInt8) (hc : c.toNat < 128) (w : World) :
 Calls Tryz.prog 185 #[.string s, .string ⟨#[c]⟩] w fun e w' => e = .returned (.string ⟨(Lib.trimLeftB s.data.toList c).toArray⟩) ∧ w' = w := Any.strings_TrimLeft_one lays161 s c hc w
def lays103_ren : Go.Shelf.Ren := ⟨fun | 103 => 183 | 210 => 235 | 206 => 276 | n => n, fun | 9 => 9 | 4 => 4 | 24 => 206 | 3 => 3 | n => n, fun | n => n⟩
theorem lays103 : Go.Proofs.Lays.n103 Tryz.prog lays103_ren := {
 mixed := by kernel_rfl
 f103 := Tryz.func183.trans (congrArg some (by kernel_rfl))
 f206 := Tryz.func276.trans (congrArg some (by kernel_rfl))
 f210 := Tryz.func235.trans (congrArg some (by kernel_rfl))
 t3 := Tryz.underlying3
 a3 := Tryz.isAgg3
 z3 := Tryz.sizeOf3
 v3 := Tryz.zeroValue3
 t4 := Tryz.underlying4
 a4 := Tryz.isAgg4
 z4 := Tryz.sizeOf4
 v4 := Tryz.zeroValue4
 t9 := Tryz.underlying9
 a9 := Tryz.isAgg9
 z9 := Tryz.sizeOf9
 v9 := Tryz.zeroValue9
 t24 := Tryz.underlying206
 a24 := Tryz.isAgg206
 z24 := Tryz.sizeOf206
 v24 := Tryz.zeroValue206 }
open Go.RowKit in
theorem strings_CutPrefix (s p : ByteArray) (w : World) :
 Calls Tryz.prog 183 #[.string s, .string p] w fun e w' => e = .returned (.tuple #[.string ⟨(Lib.trimPrefix s.data.toList p.data.toList).toArray⟩, .bool (Lib.hasPrefix s.data.toList p.data.toList)]) ∧ w' = w := Any.strings_CutPrefix lays103 s p w
def laysC172_ren : Go.Shelf.Ren := ⟨fun | 172 => 118 | 244 => 188 | 245 => 189 | 247 => 242 | 279 => 243 | 280 => 244 | 281 => 245 | 282 => 246 | 287 => 279 | 316 => 280 | 171 => 111 | 205 => 281 | 321 => 296 | 322 => 297 | 243 => 178 | 246 => 230 | 283 => 267 | 284 => 268 | 285 => 269 | 286 => 270 | 129 => 289 | 317 => 288 | 318 => 290 | 319 => 291 | 320 => 292 | 337 => 298 | 338 => 299 | n => n, fun | 9 => 9 | 3 => 3 | 75 => 93 | 76 => 94 | 4 => 4 | 5 => 5 | 167 => 270 | 37 => 89 | 0 => 0 | 85 => 271 | 2 => 2 | 168 => 273 | 53 => 187 | 175 => 291 | 46 => 167 | 210 => 294 | 127 => 169 | 145 => 310 | 143 => 308 | 21 => 21 | 171 => 283 | 173 => 286 | 212 => 299 | 51 => 133 | 20 => 20 | 213 => 300 | 232 => 312 | 233 => 313 | 80 => 99 | n => n, fun | 15 => 2 | 16 => 3 | 17 => 5 | 18 => 8 | 19 => 9 | n => n⟩
theorem laysC172 : Go.Proofs.LaysC.n172 Tryz.prog laysC172_ren := {
 mixed := by kernel_rfl
 f129 := Tryz.func289.trans (congrArg some (by kernel_rfl))
 f171 := Tryz.func111.trans (congrArg some (by kernel_rfl))
 f172 := Tryz.func118.trans (congrArg some (by kernel_rfl))
 f205 := Tryz.func281.trans (congrArg some (by kernel_rfl))
 f243 := Tryz.func178.trans (congrArg some (by kernel_rfl))
 f244 := Tryz.func188.trans (congrArg some (by kernel_rfl))
 f245 := Tryz.func189.trans (congrArg some (by kernel_rfl))
 f246 := Tryz.func230.trans (congrArg some (by kernel_rfl))
 f247 := Tryz.func242.trans (congrArg some (by kernel_rfl))
 f279 := Tryz.func243.trans (congrArg some (by kernel_rfl))
 f280 := Tryz.func244.trans (congrArg some (by kernel_rfl))
 f281 := Tryz.func245.trans (congrArg some (by kernel_rfl))
 f282 := Tryz.func246.trans (congrArg some (by kernel_rfl))
 f283 := Tryz.func267.trans (congrArg some (by kernel_rfl))
 f284 := Tryz.func268.trans (congrArg some (by kernel_rfl))
 f285 := Tryz.func269.trans (congrArg some (by kernel_rfl))
 f286 := Tryz.func270.trans (congrArg some (by kernel_rfl))
 f287 := Tryz.func279.trans (congrArg some (by kernel_rfl))
 f316 := Tryz.func280.trans (congrArg some (by kernel_rfl))
 f317 := Tryz.func288.trans (congrArg some (by kernel_rfl))
 f318 := Tryz.func290.trans (congrArg some (by kernel_rfl))
 f319 := Tryz.func291.trans (congrArg some (by kernel_rfl))
 f320 := Tryz.func292.trans (congrArg some (by kernel_rfl))
 f321 := Tryz.func296.trans (congrArg some (by kernel_rfl))
 f322 := Tryz.func297.trans (congrArg some (by kernel_rfl))
 f337 := Tryz.func298.trans (congrArg some (by kernel_rfl))
 f338 := Tryz.func299.trans (congrArg some (by kernel_rfl))
 t0 := Tryz.underlying0
 a0 := Tryz.isAgg0
 z0 := Tryz.sizeOf0
 v0 := Tryz.zeroValue0
 t2 := Tryz.underlying2
 a2 := Tryz.isAgg2
 z2 := Tryz.sizeOf2
 v2 := Tryz.zeroValue2
 t3 := Tryz.underlying3
 a3 := Tryz.isAgg3
 z3 := Tryz.sizeOf3
 v3 := Tryz.zeroValue3
 t4 := Tryz.underlying4
 a4 := Tryz.isAgg4
 z4 := Tryz.sizeOf4
 v4 := Tryz.zeroValue4
 t5 := Tryz.underlying5
 a5 := Tryz.isAgg5
 z5 := Tryz.sizeOf5
 v5 := Tryz.zeroValue5
 t9 := Tryz.underlying9
 a9 := Tryz.isAgg9
 z9 := Tryz.sizeOf9
 v9 := Tryz.zeroValue9
 t20 := Tryz.underlying20
 a20 := Tryz.isAgg20
 z20 := Tryz.sizeOf20
 v20 := Tryz.zeroValue20
 t21 := Tryz.underlying21
 a21 := Tryz.isAgg21
 z21 := Tryz.sizeOf21
 v21 := Tryz.zeroValue21
 t37 := Tryz.underlying89
 a37 := Tryz.isAgg89
 z37 := Tryz.sizeOf89
 v37 := Tryz.zeroValue89
 t46 := Tryz.underlying167
 a46 := Tryz.isAgg167
 z46 := Tryz.sizeOf167
 v46 := Tryz.zeroValue167
 t51 := Tryz.underlying133
 a51 := Tryz.isAgg133
 z51 := Tryz.sizeOf133
 v51 := Tryz.zeroValue133
 t53 := Tryz.underlying187
 a53 := Tryz.isAgg187
 z53 := Tryz.sizeOf187
 v53 := Tryz.zeroValue187
 t75 := Tryz.underlying93
 a75 := Tryz.isAgg93
 z75 := Tryz.sizeOf93
 v75 := Tryz.zeroValue93
 t76 := Tryz.underlying94
 a76 := Tryz.isAgg94
 z76 := Tryz.sizeOf94
 v76 := Tryz.zeroValue94
 t85 := Tryz.underlying271
 a85 := Tryz.isAgg271
 z85 := Tryz.sizeOf271
 v85 := Tryz.zeroValue271
 t127 := Tryz.underlying169
 a127 := Tryz.isAgg169
 z127 := Tryz.sizeOf169
 v127 := Tryz.zeroValue169
 t143 := Tryz.underlying308
 a143 := Tryz.isAgg308
 z143 := Tryz.sizeOf308
 v143 := Tryz.zeroValue308
 t145 := Tryz.underlying310
 a145 := Tryz.isAgg310
 z145 := Tryz.sizeOf310
 v145 := Tryz.zeroValue310
 t167 := Tryz.underlying270
 a167 := Tryz.isAgg270
 z167 := Tryz.sizeOf270
 v167 := Tryz.zeroValue270
 t168 := Tryz.underlying273
 a168 := Tryz.isAgg273
 z168 := Tryz.sizeOf273
 v168 := Tryz.zeroValue273
 t171 := Tryz.underlying283
 a171 := Tryz.isAgg283
 z171 := Tryz.sizeOf283
 v171 := Tryz.zeroValue283
 t173 := Tryz.underlying286
 a173 := Tryz.isAgg286
 z173 := Tryz.sizeOf286
 v173 := Tryz.zeroValue286
 t175 := Tryz.underlying291
 a175 := Tryz.isAgg291
 z175 := Tryz.sizeOf291
 v175 := Tryz.zeroValue291
 t210 := Tryz.underlying294
 a210 := Tryz.isAgg294
 z210 := Tryz.sizeOf294
 v210 := Tryz.zeroValue294
 t212 := Tryz.underlying299
 a212 := Tryz.isAgg299
 z212 := Tryz.sizeOf299
 v212 := Tryz.zeroValue299
 t213 := Tryz.underlying300
 a213 := Tryz.isAgg300
 z213 := Tryz.sizeOf300
 t232 := Tryz.underlying312
 a232 := Tryz.isAgg312
 z232 := Tryz.sizeOf312
 v232 := Tryz.zeroValue312
 t233 := Tryz.underlying313
 a233 := Tryz.isAgg313
 z233 := Tryz.sizeOf313
 v233 := Tryz.zeroValue313
 g15 := by kernel_rfl
 g16 := by kernel_rfl
 g17 := by kernel_rfl
 g18 := by kernel_rfl
 g19 := by kernel_rfl
 t80 := Tryz.underlying99
 a80 := Tryz.isAgg99
 z80 := Tryz.sizeOf99
 v80 := Tryz.zeroValue99
 i0 := by kernel_rfl
 i2 := by kernel_rfl
 i3 := by kernel_rfl
 i4 := by kernel_rfl
 i5 := by kernel_rfl
 i9 := by kernel_rfl
 i20 := by kernel_rfl
 i21 := by kernel_rfl
 i37 := by kernel_rfl
 i46 := by kernel_rfl
 i51 := by kernel_rfl
 i53 := by kernel_rfl
 i75 := by kernel_rfl
 i76 := by kernel_rfl
 i80 := by kernel_rfl
 i85 := by kernel_rfl
 i127 := by kernel_rfl
 i143 := by kernel_rfl
 i145 := by kernel_rfl
 i167 := by kernel_rfl
 i168 := by kernel_rfl
 i171 := by kernel_rfl
 i173 := by kernel_rfl
 i175 := by kernel_rfl
 i210 := by kernel_rfl
 i212 := by kernel_rfl
 i232 := by kernel_rfl
 i233 := by kernel_rfl
 m15 := by kernel_rfl
 m16 := by kernel_rfl
 m17 := by kernel_rfl
 m18 := by kernel_rfl
 m19 := by kernel_rfl
 c0 := by kernel_rfl
 c2 := by kernel_rfl
 c3 := by kernel_rfl
 c4 := by kernel_rfl
 c5 := by kernel_rfl
 c9 := by kernel_rfl
 c20 := by kernel_rfl
 c21 := by kernel_rfl
 c37 := by kernel_rfl
 c46 := by kernel_rfl
 c51 := by kernel_rfl
 c53 := by kernel_rfl
 c75 := by kernel_rfl
 c76 := by kernel_rfl
 c80 := by kernel_rfl
 c85 := by kernel_rfl
 c127 := by kernel_rfl
 c143 := by kernel_rfl
 c145 := by kernel_rfl
 c167 := by kernel_rfl
 c168 := by kernel_rfl
 c171 := by kernel_rfl
 c173 := by kernel_rfl
 c175 := by kernel_rfl
 c210 := by kernel_rfl
 c212 := by kernel_rfl
 c213 := by kernel_rfl
 c232 := by kernel_rfl
 c233 := by kernel_rfl }
open Go.RowKit in
theorem strconv_Atoi_ok (s : ByteArray) (hmax : s.size ≤ 9223372036854775806) (v : Int) (h : Lib.atoiAll s.data.toList = .ok v) (w : World) :
 Calls Tryz.prog 118 #[.string s] w fun e w' => e = .returned (.tuple #[.int .i64 v, .nilIface]) ∧ (w' = w ∨ ∃ t, w' = Lib.bytesWorld w 5 t) := Any.strconv_Atoi_ok laysC172 s hmax v h w
open Go.RowKit in
theorem strconv_Atoi_range (s : ByteArray) (hlim : s.size ≤ 281474976710656) (h : Lib.atoiAll s.data.toList = .range) (ev : Value) (w : World) (hv : w.cell? ⟨3, 0, none⟩ = some ev) (hev : ev = .nilIface ∨ ∃ te pe, ev = .iface te pe) :
 Calls Tryz.prog 118 #[.string s] w fun e w' => ∃ N, e = .returned (.tuple #[.int .i64 (Lib.atoiSat s.data.toList), .iface 273 (.pointer (some ⟨N, 0, none⟩))]) ∧ w.heap.size ≤ N ∧ w'.heap[N]? = some (.cells #[.string ⟨#[65, 116, 111, 105]⟩, .string s, ev] 294 (0, 0)) ∧ Below w.heap.size w w' := Any.strconv_Atoi_range laysC172 s hlim h ev w hv hev
def lays145_ren : Go.Shelf.Ren := ⟨fun | 145 => 116 | 220 => 182 | 219 => 234 | 217 => 272 | 225 => 273 | 224 => 274 | 267 => 275 | 266 => 293 | 314 => 294 | n => n, fun | 9 => 9 | 4 => 4 | 59 => 172 | 3 => 3 | 5 => 5 | 46 => 167 | 146 => 268 | 51 => 133 | n => n, fun | 1 => 1 | n => n⟩
theorem lays145 : Go.Proofs.Lays.n145 Tryz.prog lays145_ren := {
 mixed := by kernel_rfl
 f145 := Tryz.func116.trans (congrArg some (by kernel_rfl))
 f217 := Tryz.func272.trans (congrArg some (by kernel_rfl))
 f219 := Tryz.func234.trans (congrArg some (by kernel_rfl))
 f220 := Tryz.func182.trans (congrArg some (by kernel_rfl))
 f224 := Tryz.func274.trans (congrArg some (by kernel_rfl))
 f225 := Tryz.func273.trans (congrArg some (by kernel_rfl))
 f266 := Tryz.func293.trans (congrArg some (by kernel_rfl))
 f267 := Tryz.func275.trans (congrArg some (by kernel_rfl))
 f314 := Tryz.func294.trans (congrArg some (by kernel_rfl))
 t3 := Tryz.underlying3
 a3 := Tryz.isAgg3
 z3 := Tryz.sizeOf3
 v3 := Tryz.zeroValue3
 t4 := Tryz.underlying4
 a4 := Tryz.isAgg4
 z4 := Tryz.sizeOf4
 v4 := Tryz.zeroValue4
 t5 := Tryz.underlying5
 a5 := Tryz.isAgg5
 z5 := Tryz.sizeOf5
 v5 := Tryz.zeroValue5
 t9 := Tryz.underlying9
 a9 := Tryz.isAgg9
 z9 := Tryz.sizeOf9
 v9 := Tryz.zeroValue9
 t46 := Tryz.underlying167
 a46 := Tryz.isAgg167
 z46 := Tryz.sizeOf167
 v46 := Tryz.zeroValue167
 t51 := Tryz.underlying133
 a51 := Tryz.isAgg133
 z51 := Tryz.sizeOf133
 v51 := Tryz.zeroValue133
 t59 := Tryz.underlying172
 a59 := Tryz.isAgg172
 z59 := Tryz.sizeOf172
 v59 := Tryz.zeroValue172
 t146 := Tryz.underlying268
 a146 := Tryz.isAgg268
 z146 := Tryz.sizeOf268
 v146 := Tryz.zeroValue268
 g1 := by kernel_rfl }
open Go.RowKit Go.Lib in
theorem strings_Cut (s sep : ByteArray) (m : Int) (w : World) (hs : s.size < 4294967281) (hm : w.cell? ⟨1, 0, none⟩ = some (.int .i64 m)) :
 Calls Tryz.prog 116 #[.string s, .string sep] w fun e w' => e = .returned (.tuple #[.string ⟨(Lib.cut s.data.toList sep.data.toList).1.toArray⟩, .string ⟨(Lib.cut s.data.toList sep.data.toList).2.1.toArray⟩, .bool (Lib.cut s.data.toList sep.data.toList).2.2]) ∧ ∃ n, w' = w.drewN n := Any.strings_Cut lays145 s sep m w hs hm
def lays146_ren : Go.Shelf.Ren := ⟨fun | 146 => 55 | 221 => 115 | 268 => 179 | 138 => 180 | 143 => 181 | 195 => 231 | 197 => 232 | 218 => 233 | 219 => 234 | 260 => 271 | 217 => 272 | 225 => 273 | 224 => 274 | 267 => 275 | 266 => 293 | 314 => 294 | n => n, fun | 9 => 9 | 31 => 105 | 3 => 3 | 4 => 4 | 0 => 0 | 105 => 257 | 21 => 21 | 5 => 5 | 46 => 167 | 119 => 302 | 139 => 305 | 138 => 304 | 146 => 268 | 51 => 133 | n => n, fun | 1 => 1 | 3 => 6 | 4 => 7 | n => n⟩
theorem lays146 : Go.Proofs.Lays.n146 Tryz.prog lays146_ren := {
 mixed := by kernel_rfl
 f138 := Tryz.func180.trans (congrArg some (by kernel_rfl))
 f143 := Tryz.func181.trans (congrArg some (by kernel_rfl))
 f146 := Tryz.func55.trans (congrArg some (by kernel_rfl))
 f195 := Tryz.func231.trans (congrArg some (by kernel_rfl))
 f197 := Tryz.func232.trans (congrArg some (by kernel_rfl))
 f217 := Tryz.func272.trans (congrArg some (by kernel_rfl))
 f218 := Tryz.func233.trans (congrArg some (by kernel_rfl))
 f219 := Tryz.func234.trans (congrArg some (by kernel_rfl))
 f221 := Tryz.func115.trans (congrArg some (by kernel_rfl))
 f224 := Tryz.func274.trans (congrArg some (by kernel_rfl))
 f225 := Tryz.func273.trans (congrArg some (by kernel_rfl))
 f260 := Tryz.func271.trans (congrArg some (by kernel_rfl))
 f266 := Tryz.func293.trans (congrArg some (by kernel_rfl))
 f267 := Tryz.func275.trans (congrArg some (by kernel_rfl))
 f268 := Tryz.func179.trans (congrArg some (by kernel_rfl))
 f314 := Tryz.func294.trans (congrArg some (by kernel_rfl))
 t0 := Tryz.underlying0
 a0 := Tryz.isAgg0
 z0 := Tryz.sizeOf0
 v0 := Tryz.zeroValue0
 t3 := Tryz.underlying3
 a3 := Tryz.isAgg3
 z3 := Tryz.sizeOf3
 v3 := Tryz.zeroValue3
 t4 := Tryz.underlying4
 a4 := Tryz.isAgg4
 z4 := Tryz.sizeOf4
 v4 := Tryz.zeroValue4
 t5 := Tryz.underlying5
 a5 := Tryz.isAgg5
 z5 := Tryz.sizeOf5
 v5 := Tryz.zeroValue5
 t9 := Tryz.underlying9
 a9 := Tryz.isAgg9
 z9 := Tryz.sizeOf9
 v9 := Tryz.zeroValue9
 t21 := Tryz.underlying21
 a21 := Tryz.isAgg21
 z21 := Tryz.sizeOf21
 v21 := Tryz.zeroValue21
 t31 := Tryz.underlying105
 a31 := Tryz.isAgg105
 z31 := Tryz.sizeOf105
 v31 := Tryz.zeroValue105
 t46 := Tryz.underlying167
 a46 := Tryz.isAgg167
 z46 := Tryz.sizeOf167
 v46 := Tryz.zeroValue167
 t51 := Tryz.underlying133
 a51 := Tryz.isAgg133
 z51 := Tryz.sizeOf133
 v51 := Tryz.zeroValue133
 t105 := Tryz.underlying257
 a105 := Tryz.isAgg257
 z105 := Tryz.sizeOf257
 v105 := Tryz.zeroValue257
 t119 := Tryz.underlying302
 a119 := Tryz.isAgg302
 z119 := Tryz.sizeOf302
 t138 := Tryz.underlying304
 a138 := Tryz.isAgg304
 z138 := Tryz.sizeOf304
 v138 := Tryz.zeroValue304
 t139 := Tryz.underlying305
 a139 := Tryz.isAgg305
 z139 := Tryz.sizeOf305
 v139 := Tryz.zeroValue305
 t146 := Tryz.underlying268
 a146 := Tryz.isAgg268
 z146 := Tryz.sizeOf268
 v146 := Tryz.zeroValue268
 g1 := by kernel_rfl
 g3 := by kernel_rfl
 g4 := by kernel_rfl }
open Go.RowKit Go.Lib in
theorem strings_Split (s sep : ByteArray) (m : Int) (w : World) (hs : s.size < 4294967281) (hm : w.cell? ⟨1, 0, none⟩ = some (.int .i64 m)) (h1 : 1 ≤ sep.size) :
 Calls Tryz.prog 55 #[.string s, .string sep] w fun e w' =>
  e = .returned (.slice (some ⟨w.heap.size, 0, none⟩) (Lib.countB s sep + 1) (Lib.countB s sep + 1)) ∧ w' = w.alloc (.cells ((Lib.splitB sep 0 (Lib.countB s sep) s).map Value.string).toArray 9) := Any.strings_Split lays146 (by kernel_rfl) s sep m w hs hm h1
end Go.Proofs.YtidgpkccjcddgaaGreatDoor.F
set_option linter.unusedVariables false
set_option linter.unusedSimpArgs false
namespace Go.Proofs.YtidgpkccjcddgaaGreatDoor.F
open Go.RowKit Go.Shelf Go.Proofs.YtidgpkccjcddgaaGreatDoorW.PrintLast
structure Laid (w : World) : Prop where
 tab : Tab w
 mx : ∃ m, w.cell? ⟨1, 0, none⟩ = some (.int .i64 m)
 sy : ∃ ev, w.cell? ⟨2, 0, none⟩ = some ev ∧ (ev = .nilIface ∨ ∃ te pe, ev = .iface te pe)
 rg : ∃ ev, w.cell? ⟨3, 0, none⟩ = some ev ∧ (ev = .nilIface ∨ ∃ te pe, ev = .iface te pe)
theorem Laid.below {w w' : World} (h : Laid w) (hb : Below w.heap.size w w') : Laid w' := by
 obtain ⟨m, hm⟩ := h.mx
 obtain ⟨e1, h1, h1'⟩ := h.sy
 obtain ⟨e2, h2, h2'⟩ := h.rg
 exact ⟨h.tab.below hb, ⟨m, cell_below hb hm⟩, ⟨e1, cell_below hb h1, h1'⟩, ⟨e2, cell_below hb h2, h2'⟩⟩
theorem prefix_l (l p : List UInt8) (w : World) :
 Calls Tryz.prog 183 #[.string ⟨l.toArray⟩, .string ⟨p.toArray⟩] w fun e w' => e = .returned (.tuple #[.string ⟨(Lib.trimPrefix l p).toArray⟩, .bool (Lib.hasPrefix l p)]) ∧ w' = w := strings_CutPrefix ⟨l.toArray⟩ ⟨p.toArray⟩ w
theorem cut_l (l p : List UInt8) (w : World) (hl : l.length ≤ 4000000000) (hL : Laid w) :
 Calls Tryz.prog 116 #[.string ⟨l.toArray⟩, .string ⟨p.toArray⟩] w fun e w' => e = .returned (.tuple #[.string ⟨(Lib.cut l p).1.toArray⟩, .string ⟨(Lib.cut l p).2.1.toArray⟩, .bool (Lib.cut l p).2.2]) ∧ Below w.heap.size w w' := by
 obtain ⟨m, hm⟩ := hL.mx
 refine (strings_Cut ⟨l.toArray⟩ ⟨p.toArray⟩ m w (by show l.toArray.size < _; rw [List.size_toArray]; omega) hm).mono ?_
 rintro e w' ⟨rfl, n, rfl⟩
 exact ⟨rfl, below_drewN (Below.refl _ _) n⟩
theorem trim_l (l : List UInt8) (c : UInt8) (hc : c.toNat < 128) (w : World) :
 Calls Tryz.prog 185 #[.string ⟨l.toArray⟩, .string ⟨#[c]⟩] w fun e w' => e = .returned (.string ⟨(Lib.trimLeftB l c).toArray⟩) ∧ w' = w := strings_TrimLeft_one ⟨l.toArray⟩ c hc w
theorem nOk_dec (n : Nat) : nOk (Lib.decDigits n) = true ∧ decV 0 (Lib.decDigits n) = n := by
 obtain ⟨h1, h2, h3⟩ := decDigits_facts n
 refine ⟨?_, h2⟩
 rw [nOk_of (fun e => by rw [e] at h3; simp at h3), List.all_eq_true.2 h1]
 rintro ⟨a, b⟩
 by_cases hn : n = 0
 · subst hn
   rw [dec_zero] at a
   simp at a
 · exact dec_head n (by omega) b
theorem cut_len (l p : List UInt8) : (Lib.cut l p).1.length + (Lib.cut l p).2.1.length ≤ l.length := by
 unfold Lib.cut
 split
 · simp only [List.length_take, List.length_drop]; omega
 · simp
theorem cut_len1 {l p : List UInt8} (hp : p ≠ []) (h : (Lib.cut l p).2.2 = true) : (Lib.cut l p).1.length + (Lib.cut l p).2.1.length + 1 ≤ l.length := by
 have h0 := List.length_pos_iff.2 hp
 unfold Lib.cut at h ⊢
 split
 · rename_i hi
   have := Lib.index_room l p hi
   simp only [List.length_take, List.length_drop]
   omega
 · rename_i hi
   rw [if_neg hi] at h
   cases h
theorem trimPrefix_len (l p : List UInt8) : (Lib.trimPrefix l p).length ≤ l.length := by
 unfold Lib.trimPrefix
 split
 · simp
 · exact Nat.le_refl _
theorem trimLeft_len (l : List UInt8) (c : UInt8) : (Lib.trimLeftB l c).length ≤ l.length := by
 unfold Lib.trimLeftB
 exact (List.dropWhile_sublist _).length_le
def ToldPR (w : World) (s : List UInt8) (e : Ending) (w' : World) : Prop :=
 (∃ (q : Rat) (A : Option Addr) (c : Nat) (B : Option Addr) (d : Nat), e = .returned (.tuple #[.agg #[.bool (decide (q.num < 0)), .slice A (dg q.num.natAbs).length c, .slice B (dg q.den).length d], .int .i64 0]) ∧ InQ w' A c B d q ∧ (dg q.num.natAbs).length + (dg q.den).length ≤ min (2 * s.length + 4) (6 * s.length) ∧ Below w.heap.size w w' ∧ ∀ q0, s = tq q0 → q = q0) ∨
 (e = .returned (.tuple #[.agg #[.bool false, .slice none 0 0, .slice none 0 0], .int .i64 31]) ∧ Below w.heap.size w w' ∧ ∀ q0, s ≠ tq q0)
theorem end_ratQ {w W : World} {bs : List (Nat × List Value)} {g : Nat} {q : Rat} {A : Option Addr} {c : Nat} {B : Option Addr} {d : Nat} {x : Bool} {y z : Value} (h : Fr w W ((g, [.bool x, y, z]) :: bs)) (hy : ∀ u, Value.int .u32 u ≠ y) (hz : ∀ u, Value.int .u32 u ≠ z) (hg : w.heap.size ≤ g)
 (hr : In W A c (dg q.num.natAbs)) (hd : In W B d (dg q.den)) {W' : World}
 (hW : W' = ((W.setCell ⟨g, 0, none⟩ (.bool (decide (q.num < 0)))).setCell ⟨g, 1, none⟩ (.slice A (dg q.num.natAbs).length c)).setCell ⟨g, 2, none⟩ (.slice B (dg q.den).length d)) :
 InQ W' A c B d q ∧ Below w.heap.size w W' ∧ Own W' g [.bool (decide (q.num < 0)), .slice A (dg q.num.natAbs).length c, .slice B (dg q.den).length d] := by
 obtain ⟨⟨A', c', B', d', he, i1, i2, i3⟩, ho⟩ := end_rat h hy hz hg hr hd hW
 simp only [Ending.returned.injEq, Value.agg.injEq, Array.mk.injEq, List.cons.injEq, Value.slice.injEq, and_true, true_and] at he
 obtain ⟨⟨rfl, rfl⟩, rfl, rfl⟩ := he
 exact ⟨⟨i1, i2⟩, i3, ho⟩
theorem end_no {w W : World} {bs : List (Nat × List Value)} {g : Nat} {x y z : Value} (h : Fr w W ((g, [x, y, z]) :: bs)) (hg : w.heap.size ≤ g) {W' : World}
 (hW : W' = ((W.setCell ⟨g, 0, none⟩ (.bool false)).setCell ⟨g, 1, none⟩ (.slice none 0 0)).setCell ⟨g, 2, none⟩ (.slice none 0 0)) :
 Below w.heap.size w W' ∧ Own W' g [.bool false, .slice none 0 0, .slice none 0 0] := by
 subst hW
 have ho := h.own (List.mem_cons_self ..)
 exact ⟨((h.1.setCell hg _).setCell hg _).setCell hg _, ((ho.set 0 _).set 1 _).set 2 _⟩
theorem results_cell_row2 {P : Program} {fn : Func} {p u : Tmp} {ty : TypeId} (h : fn.results = #[.cell p ty, .tmp u]) (tmps : Array Value) (w : World) (g : Nat) (t : TypeId) (cs : Array Value) (fr : Nat × Nat) (d : TypeDesc)
 (hp : tmps.getD p undef = .pointer (some ⟨g, 0, none⟩)) (hg : w.heap[g]? = some (.cells cs t fr))
 (hu : P.underlying ty = some d) (hd : (match d with | .struct _ | .array _ _ => true | _ => false) = true) (hi : (P.info? ty).map (·.size) = some cs.size) :
 (results fn tmps).run P w = .ok (.tuple #[.agg cs, tmps.getD u undef]) w := by
 have hp' : tmps[p]?.getD undef = .pointer (some ⟨g, 0, none⟩) := by simpa using hp
 simp [results, h, hp', asAddr, run_loadVar_row w g t ty cs fr d hg hu hd hi]
theorem post_ownU {P : Program} {fn : Func} {R : Ending → World → Prop} {a : Act} {w : World} {p u : Tmp} {ty : TypeId} {g : Nat} {vs : List Value} {d : TypeDesc} (ho : Own w g vs) (h : fn.results = #[.cell p ty, .tmp u]) (h0 : a.defers = [])
 (hp : a.tmps.getD p undef = .pointer (some ⟨g, 0, none⟩)) (hu : P.underlying ty = some d) (hd : (match d with | .struct _ | .array _ _ => true | _ => false) = true) (hi : (P.info? ty).map (·.size) = some vs.length)
 (hR : R (.returned (.tuple #[.agg vs.toArray, a.tmps.getD u undef])) w) : bodyPost P fn R .ret a w := by
 obtain ⟨t, ho⟩ := ho
 exact bodyPost_ret (results_cell_row2 h _ _ g t vs.toArray (0, 0) d hp ho hu hd (by simpa using hi)) h0 hR
theorem addN (A : Option Addr) (c m : Nat) (B : Option Addr) (d n : Nat) (w : World) (h : In w A c (dg m)) (hm : (dg m).length ≤ 549755813888) (k : In w B d (dg n)) (km : (dg n).length ≤ 549755813888) :
 Calls Tryz.prog 187 #[.slice A (dg m).length c, .slice B (dg n).length d] w fun e w' => ∃ A' c', e = .returned (.slice A' (dg (m + n)).length c') ∧ In w' A' c' (dg (m + n)) ∧ Below w.heap.size w w' := by
 refine (nat_Add A c (dg m) B d (dg n) w h.row h.lim h.cap hm k.row k.lim k.cap km).mono ?_
 rintro e w' ⟨A', c', rfl, h1, h2, h3⟩
 rw [V_dg, V_dg, show ((m : Int) + (n : Int)).toNat = m + n by omega] at h1 h2 ⊢
 exact ⟨A', c', rfl, In.dg h2 h1, h3⟩
theorem dg_ten_lt {n k : Nat} (h : n < 10 ^ k) : (dg n).length ≤ k + 1 := Nat.le_trans (dg_length_mono (Nat.le_of_lt h)) (dg_ten k)
theorem nOk_dig {l : List UInt8} (h : nOk l = true) : ∀ b ∈ l, isDig b = true := by
 unfold nOk at h
 simp only [Bool.and_eq_true] at h
 exact List.all_eq_true.1 h.2
theorem nOk_lt {l : List UInt8} (h : nOk l = true) : decV 0 l < 10 ^ l.length := by
 have := decV_lt l 0 (nOk_dig h)
 omega
theorem nOk_pos {l : List UInt8} (h : nOk l = true) : 1 ≤ l.length := by
 cases l with
 | nil => cases h
 | cons b r => simp
theorem nOk_len {l : List UInt8} (h : nOk l = true) : (dg (decV 0 l)).length ≤ l.length + 1 := dg_ten_lt (nOk_lt h)
set_option maxHeartbeats 20000000 in
set_option maxRecDepth 100000 in
theorem ratio_Parse (s : List UInt8) (w : World) (hs : s.length ≤ 4000000000) (hL : Laid w) :
 Calls Tryz.prog 117 #[.string ⟨s.toArray⟩] w (ToldPR w s) := by
 have HF := Lib.hid ((Fr.refl w).box [.bool false, .slice none 0 0, .slice none 0 0] 43)
 have HL := Lib.hid (hL.below HF.out.bel)
 have hP := fun (W : World) => prefix_l s [45] W
 have hrl := trimPrefix_len s [45]
 have hc0 : ∀ q0, s = tq q0 → Lib.trimPrefix s [45] = tr q0 ∧ Lib.hasPrefix s [45] = decide (q0.num < 0) := fun q0 h => by subst h; exact ⟨(tq_sign q0).2, (tq_sign q0).1⟩
 clear hL
 generalize Lib.trimPrefix s [45] = r at *
 generalize Lib.hasPrefix s [45] = nb at *
 have hC := fun (W : World) (k : Laid W) => cut_l r [47] W (by omega) k
 have hcl := cut_len r [47]
 have hcl1 := cut_len1 (l := r) (p := [47]) (by simp)
 generalize hct : Lib.cut r [47] = ct at *
 obtain ⟨a, b, ok⟩ := ct
 dsimp only at hC hcl hcl1
 have HP := Lib.hid hP
 have HC := Lib.hid hC
 have HC0 := Lib.hid hc0
 have HCT := Lib.hid hct
 clear hP hC hc0 hct
 go_enter Tryz.func117, Tryz.ntmps117
 go_wp2_with fail
 refine (HP.out _).mono ?_
 rintro e W1 ⟨rfl, rfl⟩
 clear HP
 go_wp2_with fail
 refine (HC.out _ HL.out).mono ?_
 rintro e W1 ⟨rfl, q1⟩
 replace HF := Lib.hid (HF.out.below q1)
 replace HL := Lib.hid (HL.out.below q1)
 clear q1 HC
 cases ok with
 | true =>
  have hcl2 := hcl1 rfl
  have HQ := Lib.hid (show ∀ q0, s = tq q0 → nOk a = true ∧ nOk b = true ∧ decV 0 a = q0.num.natAbs ∧ decV 0 b = q0.den ∧ nb = decide (q0.num < 0) from fun q0 h => by
   obtain ⟨h1, h2⟩ := HC0.out q0 h
   have h3 := HCT.out
   rw [h1] at h3
   by_cases hd : q0.den = 1
   · rw [(cut_tr_one hd).1] at h3
     simp at h3
   · rw [cut_tr hd] at h3
     simp only [Prod.mk.injEq, and_true] at h3
     obtain ⟨rfl, rfl⟩ := h3
     exact ⟨(nOk_dec _).1, (nOk_dec _).1, (nOk_dec _).2, (nOk_dec _).2, h2⟩)
  have hA := Lib.hid (fun (W : World) (k : Laid W) => nat_Parse a W (by omega) k.tab)
  have hB := Lib.hid (fun (W : World) (k : Laid W) => nat_Parse b W (by omega) k.tab)
  clear HC0 HCT hcl1
  go_wp2_with fail
  refine (hA.out _ HL.out).mono ?_
  rintro e W2 (⟨na, A1, c1, rfl, q1, q2⟩ | ⟨na, rfl, q2⟩)
  · have H1 := Lib.hid q1
    replace HF := Lib.hid (HF.out.below q2)
    replace HL := Lib.hid (HL.out.below q2)
    clear q1 q2 hA
    go_wp2_with fail
    refine (hB.out _ HL.out).mono ?_
    rintro e W3 (⟨nb2, A2, c2, rfl, q1, q2⟩ | ⟨nb2, rfl, q2⟩)
    · have H2 := Lib.hid q1
      replace HF := Lib.hid (HF.out.below q2)
      replace H1 := Lib.hid (H1.out.below q2)
      clear q1 q2 hB HL
      by_cases hz : decV 0 b = 0
      · have hdz : (dg (decV 0 b)).length = 0 := by rw [hz, dg_zero]; rfl
        rw [hdz]
        have HX := Lib.hid (show ∀ q0, s ≠ tq q0 from fun q0 h => by have h1 := (HQ.out q0 h).2.2.2.1; have h2 := q0.den_pos; omega)
        have hf0 := HF.out.frozenN 0 rfl 0
        have hf1 := HF.out.frozenN 0 rfl 1
        have hf2 := HF.out.frozenN 0 rfl 2
        have hd0 := HF.out.cellN 0 rfl 0 rfl
        have hd1 := HF.out.cellN 0 rfl 1 rfl
        have hd2 := HF.out.cellN 0 rfl 2 rfl
        have HE := Lib.hid (end_no HF.out (Nat.le_refl _) rfl)
        clear hz HQ H1 H2 HF
        go_wp2
        exact post_ownU HE.out.2 rfl rfl rfl Tryz.underlying43 rfl (by kernel_rfl) (.inr ⟨rfl, HE.out.1, HX.out⟩)
      · have hdp : 0 < (dg (decV 0 b)).length := List.length_pos_iff.2 (fun h => hz (dg_eq_nil.1 h))
        have hl1 := nOk_len na
        have hl2 := nOk_len nb2
        have hM := Lib.hid (ratio_made nb A1 c1 (dg (decV 0 a)) A2 c2 (dg (decV 0 b)) W3 H1.out (by omega) H2.out (by omega) (by rw [V_dg]; omega))
        have hrv := rv_len nb (Lim_dg (decV 0 a)) (Lim_dg (decV 0 b))
        have HQ2 := Lib.hid (show ∀ q0, s = tq q0 → rv nb (dg (decV 0 a)) (dg (decV 0 b)) = q0 from fun q0 h => by
         obtain ⟨_, _, h3, h4, h5⟩ := HQ.out q0 h
         rw [h3, h4, h5, rv_can])
        clear HQ H1 H2 hz
        generalize rv nb (dg (decV 0 a)) (dg (decV 0 b)) = q at *
        have hdz : ((((dg (decV 0 b)).length : Int)) == 0) = false := by rw [beq_eq_false_iff_ne]; omega
        generalize (dg (decV 0 b)).length = lb at *
        go_wp2_with fail
        refine hM.out.mono ?_
        rintro e W4 ⟨A3, c3, B3, d3, rfl, q1, q2, q3⟩
        replace HF := Lib.hid (HF.out.below q3)
        have hf0 := HF.out.frozenN 0 rfl 0
        have hf1 := HF.out.frozenN 0 rfl 1
        have hf2 := HF.out.frozenN 0 rfl 2
        have hd0 := HF.out.cellN 0 rfl 0 rfl
        have hd1 := HF.out.cellN 0 rfl 1 rfl
        have hd2 := HF.out.cellN 0 rfl 2 rfl
        have HE := Lib.hid (end_ratQ HF.out (by simp) (by simp) (Nat.le_refl _) q1 q2 rfl)
        have HS := Lib.hid (show (dg q.num.natAbs).length + (dg q.den).length ≤ min (2 * s.length + 4) (6 * s.length) by omega)
        clear HF q1 q2 q3 hM
        generalize hqb : decide (q.num < 0) = qb at *
        generalize hqn : (dg q.num.natAbs).length = qn at *
        go_wp2
        subst hqb hqn
        exact post_ownU HE.out.2.2 rfl rfl rfl Tryz.underlying43 rfl (by kernel_rfl) (.inl ⟨q, _, _, _, _, rfl, HE.out.1, HS.out, HE.out.2.1, HQ2.out⟩)
    · replace HF := Lib.hid (HF.out.below q2)
      clear q2 hB HL
      have HX := Lib.hid (show ∀ q0, s ≠ tq q0 from fun q0 h => by have h1 := (HQ.out q0 h).2.1; rw [nb2] at h1; cases h1)
      have hf0 := HF.out.frozenN 0 rfl 0
      have hf1 := HF.out.frozenN 0 rfl 1
      have hf2 := HF.out.frozenN 0 rfl 2
      have hd0 := HF.out.cellN 0 rfl 0 rfl
      have hd1 := HF.out.cellN 0 rfl 1 rfl
      have hd2 := HF.out.cellN 0 rfl 2 rfl
      have HE := Lib.hid (end_no HF.out (Nat.le_refl _) rfl)
      clear HQ H1 HF
      go_wp2
      exact post_ownU HE.out.2 rfl rfl rfl Tryz.underlying43 rfl (by kernel_rfl) (.inr ⟨rfl, HE.out.1, HX.out⟩)
  · replace HF := Lib.hid (HF.out.below q2)
    replace HL := Lib.hid (HL.out.below q2)
    have HX0 := Lib.hid (show ∀ q0, s ≠ tq q0 from fun q0 h => by have h1 := (HQ.out q0 h).1; rw [na] at h1; cases h1)
    clear q2 hA HQ
    go_wp2_with fail
    refine (hB.out _ HL.out).mono ?_
    rintro e W3 (⟨nb2, A2, c2, rfl, q1, q2⟩ | ⟨nb2, rfl, q2⟩)
    · replace HF := Lib.hid (HF.out.below q2)
      clear q1 q2 hB HL
      have HX := Lib.hid (show ∀ q0, s ≠ tq q0 from HX0.out)
      have hf0 := HF.out.frozenN 0 rfl 0
      have hf1 := HF.out.frozenN 0 rfl 1
      have hf2 := HF.out.frozenN 0 rfl 2
      have hd0 := HF.out.cellN 0 rfl 0 rfl
      have hd1 := HF.out.cellN 0 rfl 1 rfl
      have hd2 := HF.out.cellN 0 rfl 2 rfl
      have HE := Lib.hid (end_no HF.out (Nat.le_refl _) rfl)
      clear HX0 HF
      go_wp2
      exact post_ownU HE.out.2 rfl rfl rfl Tryz.underlying43 rfl (by kernel_rfl) (.inr ⟨rfl, HE.out.1, HX.out⟩)
    · replace HF := Lib.hid (HF.out.below q2)
      clear q2 hB HL
      have HX := Lib.hid (show ∀ q0, s ≠ tq q0 from HX0.out)
      have hf0 := HF.out.frozenN 0 rfl 0
      have hf1 := HF.out.frozenN 0 rfl 1
      have hf2 := HF.out.frozenN 0 rfl 2
      have hd0 := HF.out.cellN 0 rfl 0 rfl
      have hd1 := HF.out.cellN 0 rfl 1 rfl
      have hd2 := HF.out.cellN 0 rfl 2 rfl
      have HE := Lib.hid (end_no HF.out (Nat.le_refl _) rfl)
      clear HX0 HF
      go_wp2
      exact post_ownU HE.out.2 rfl rfl rfl Tryz.underlying43 rfl (by kernel_rfl) (.inr ⟨rfl, HE.out.1, HX.out⟩)
 | false =>
  clear hcl1
  have hc1 : ∀ q0, s = tq q0 → q0.den = 1 ∧ r = tr q0 ∧ nb = decide (q0.num < 0) := fun q0 h => by
   obtain ⟨h1, h2⟩ := HC0.out q0 h
   have h3 := HCT.out
   rw [h1] at h3
   by_cases hd : q0.den = 1
   · exact ⟨hd, h1, h2⟩
   · rw [cut_tr hd] at h3
     simp at h3
  clear HC0 HCT hcl
  have hC := fun (W : World) (k : Laid W) => cut_l r [46] W (by omega) k
  have hcl := cut_len r [46]
  have hcl1 := cut_len1 (l := r) (p := [46]) (by simp)
  have hc2 : ∀ q0, s = tq q0 → Lib.cut r [46] = (Lib.decDigits q0.num.natAbs, [], false) ∧ q0.den = 1 ∧ nb = decide (q0.num < 0) := fun q0 h => by
   obtain ⟨h1, h2, h3⟩ := hc1 q0 h
   refine ⟨?_, h1, h3⟩
   rw [h2, cut_tr_dot h1, (cut_tr_one h1).2]
  generalize Lib.cut r [46] = ct at *
  obtain ⟨a2, b2, pt⟩ := ct
  dsimp only at hC hcl hcl1
  have HC := Lib.hid hC
  have HC2 := Lib.hid hc2
  have HTr := Lib.hid (fun (W : World) => trim_l b2 48 (by decide) W)
  have htl := trimLeft_len b2 48
  have hA := Lib.hid (fun (W : World) (k : Laid W) => nat_Parse a2 W (by omega) k.tab)
  clear hC hc2 hc1
  go_wp2_with fail
  refine (HC.out _ HL.out).mono ?_
  rintro e W2 ⟨rfl, q1⟩
  replace HF := Lib.hid (HF.out.below q1)
  replace HL := Lib.hid (HL.out.below q1)
  clear q1 HC
  go_wp2_with fail
  refine (hA.out _ HL.out).mono ?_
  rintro e W3 (⟨na, A1, c1, rfl, q1, q2⟩ | ⟨na, rfl, q2⟩)
  · have H1 := Lib.hid q1
    replace HF := Lib.hid (HF.out.below q2)
    replace HL := Lib.hid (HL.out.below q2)
    clear q1 q2 hA
    by_cases hpb : pt = true ∧ b2 = []
    · obtain ⟨rfl, rfl⟩ := hpb
      have HX := Lib.hid (show ∀ q0, s ≠ tq q0 from fun q0 h => by have h1 := (HC2.out q0 h).1; simp at h1)
      have hf0 := HF.out.frozenN 0 rfl 0
      have hf1 := HF.out.frozenN 0 rfl 1
      have hf2 := HF.out.frozenN 0 rfl 2
      have hd0 := HF.out.cellN 0 rfl 0 rfl
      have hd1 := HF.out.cellN 0 rfl 1 rfl
      have hd2 := HF.out.cellN 0 rfl 2 rfl
      have HE := Lib.hid (end_no HF.out (Nat.le_refl _) rfl)
      clear HC2 H1 HL HTr HF
      go_wp2
      exact post_ownU HE.out.2 rfl rfl rfl Tryz.underlying43 rfl (by kernel_rfl) (.inr ⟨rfl, HE.out.1, HX.out⟩)
    · have hpb2 : pt = false ∨ (pt = true ∧ b2.isEmpty = false) := by
       cases pt with
       | false => exact .inl rfl
       | true => exact .inr ⟨rfl, by simpa using fun h => hpb ⟨rfl, h⟩⟩
      have htz : b2 = [] → Lib.trimLeftB b2 48 = [] := fun h => by subst h; rfl
      obtain ⟨t, ht⟩ : ∃ t, Lib.trimLeftB b2 48 = t := ⟨_, rfl⟩
      rw [ht] at HTr htl htz
      obtain ⟨t2, ht2⟩ : ∃ t2, t2 = if t = [] then [48] else t := ⟨_, rfl⟩
      have htl2 : t2.length ≤ b2.length + 1 := by
       rw [ht2]; split
       · simp
       · omega
      have HT2 := Lib.hid (show b2 = [] → nOk t2 = true ∧ decV 0 t2 = 0 from fun h => by rw [ht2, if_pos (htz h)]; exact ⟨rfl, rfl⟩)
      have hB := Lib.hid (fun (W : World) (k : Laid W) => nat_Parse t2 W (by omega) k.tab)
      have HTE := Lib.hid ht2
      clear ht htz hpb ht2
      obtain ⟨K, hK⟩ : ∃ K : Prop, K = True := ⟨_, rfl⟩
      clear K hK
      have hN0 : True := trivial
      rcases hpb2 with rfl | ⟨rfl, hbe⟩
      · clear hcl1
        go_wp2_with fail
        refine (HTr.out _).mono ?_
        rintro e W4 ⟨rfl, rfl⟩
        clear HTr
        by_cases ht0 : t = []
        · have hte : t.isEmpty = true := by simpa using ht0
          have htt : t2 = [48] := by rw [HTE.out, if_pos ht0]
          have hB2 := Lib.hid (show ∀ (W : World), Laid W → Calls Tryz.prog 184 #[.string ⟨#[48]⟩, .int .i64 10] W (ToldP W t2) from fun W k => by
           have h := hB.out W k
           rw [show (⟨#[48]⟩ : ByteArray) = ⟨t2.toArray⟩ by rw [htt]]
           exact h)
          replace hB := hB2
          clear HTE hB2 htt
          subst ht0
          go_wp2_with fail
          refine (hB.out _ HL.out).mono ?_
          rintro e W5 (⟨nt, A2, c2, rfl, q1, q2⟩ | ⟨nt, rfl, q2⟩)
          · have H2 := Lib.hid q1
            replace HF := Lib.hid (HF.out.below q2)
            replace H1 := Lib.hid (H1.out.below q2)
            clear q1 q2 hB HL
            have hl1 := nOk_len na
            have hl2 := nOk_len nt
            have hv1 := nOk_lt na
            have ha1 := nOk_pos na
            have hv2 := nOk_lt nt
            generalize hn0 : decV 0 a2 = n at *
            have HN0 := Lib.hid hn0.symm
            clear hn0
            have hTen := Lib.hid (fun (W : World) => ratio_ten b2.length W (by omega))
            have hlt := dg_ten b2.length
            go_wp2_with fail
            refine (hTen.out _).mono ?_
            rintro e W6 ⟨A3, c3, rfl, q1, q2⟩
            have H3 := Lib.hid q1
            replace HF := Lib.hid (HF.out.below q2)
            replace H1 := Lib.hid (H1.out.below q2)
            replace H2 := Lib.hid (H2.out.below q2)
            clear q1 q2 hTen
            have hM := Lib.hid (mulN A1 c1 n A3 c3 (10 ^ b2.length) W6 H1.out (by omega) H3.out (by omega))
            have hp1 : 1 ≤ 10 ^ b2.length := Nat.one_le_pow _ _ (by decide)
            have hb0 : b2 = [] → 10 ^ b2.length = 1 := fun h => by rw [h]; rfl
            have hnp : n * 10 ^ b2.length < 10 ^ (a2.length + b2.length) := by rw [Nat.pow_add]; exact Nat.mul_lt_mul_of_pos_right hv1 hp1
            have hpp : 10 ^ t2.length ≤ 10 ^ (a2.length + b2.length + 1) := Nat.pow_le_pow_right (by decide) (by omega)
            have hpq : (10 : Nat) ^ (a2.length + b2.length + 1) = 10 ^ (a2.length + b2.length) * 10 := Nat.pow_succ ..
            have hsum : n * 10 ^ b2.length + decV 0 t2 < 10 ^ (a2.length + b2.length + 2) := by
             have : (10 : Nat) ^ (a2.length + b2.length + 2) = 10 ^ (a2.length + b2.length + 1) * 10 := Nat.pow_succ ..
             omega
            have hls := dg_ten_lt hsum
            have hlm := dg_ten_lt hnp
            clear hnp hpp hpq hsum hv1 hv2 H1
            have HQ2 := Lib.hid (show ∀ q0, s = tq q0 → rv nb (dg (n * 10 ^ b2.length + decV 0 t2)) (dg (10 ^ b2.length)) = q0 from fun q0 h => by
             obtain ⟨h1, h2, h3⟩ := HC2.out q0 h
             simp only [Prod.mk.injEq] at h1
             have h5 := HT2.out h1.2.1
             have h6 : n = q0.num.natAbs := by
              have h7 := HN0.out
              rw [h1.1, (nOk_dec _).2] at h7
              exact h7
             rw [hb0 h1.2.1, h5.2, h6, h3, Nat.mul_one, Nat.add_zero]
             have h8 := rv_can q0
             rwa [h2] at h8)
            clear HC2 HT2 HN0
            generalize 10 ^ b2.length = p at *
            generalize decV 0 t2 = m at *
            have hlm2 : (dg m).length ≤ t2.length + 1 := hl2
            go_wp2_with fail
            refine hM.out.mono ?_
            rintro e W7 ⟨A4, c4, rfl, q1, q2⟩
            have H4 := Lib.hid q1
            replace HF := Lib.hid (HF.out.below q2)
            replace H2 := Lib.hid (H2.out.below q2)
            replace H3 := Lib.hid (H3.out.below q2)
            clear q1 q2 hM
            have hA2 := Lib.hid (addN A4 c4 (n * p) A2 c2 m W7 H4.out (by omega) H2.out (by omega))
            clear H4 H2
            generalize n * p + m = u at *
            go_wp2_with fail
            refine hA2.out.mono ?_
            rintro e W8 ⟨A5, c5, rfl, q1, q2⟩
            have H5 := Lib.hid q1
            replace HF := Lib.hid (HF.out.below q2)
            replace H3 := Lib.hid (H3.out.below q2)
            clear q1 q2 hA2
            have hMd := Lib.hid (ratio_made nb A5 c5 (dg u) A3 c3 (dg p) W8 H5.out (by omega) H3.out (by omega) (by rw [V_dg]; omega))
            have hrv := rv_len nb (Lim_dg u) (Lim_dg p)
            generalize rv nb (dg u) (dg p) = q at *
            clear H3 H5
            go_wp2_with fail
            refine hMd.out.mono ?_
            rintro e W9 ⟨A6, c6, B6, d6, rfl, q1, q2, q3⟩
            replace HF := Lib.hid (HF.out.below q3)
            have hf0 := HF.out.frozenN 0 rfl 0
            have hf1 := HF.out.frozenN 0 rfl 1
            have hf2 := HF.out.frozenN 0 rfl 2
            have hd0 := HF.out.cellN 0 rfl 0 rfl
            have hd1 := HF.out.cellN 0 rfl 1 rfl
            have hd2 := HF.out.cellN 0 rfl 2 rfl
            have HE := Lib.hid (end_ratQ HF.out (by simp) (by simp) (Nat.le_refl _) q1 q2 rfl)
            have HS := Lib.hid (show (dg q.num.natAbs).length + (dg q.den).length ≤ min (2 * s.length + 4) (6 * s.length) by have hcc := hcl; omega)
            clear HF q1 q2 q3 hMd
            generalize hqb : decide (q.num < 0) = qb at *
            generalize hqn : (dg q.num.natAbs).length = qn at *
            go_wp2
            subst hqb hqn
            exact post_ownU HE.out.2.2 rfl rfl rfl Tryz.underlying43 rfl (by kernel_rfl) (.inl ⟨q, _, _, _, _, rfl, HE.out.1, HS.out, HE.out.2.1, HQ2.out⟩)
          · replace HF := Lib.hid (HF.out.below q2)
            clear q2 hB HL
            have HX := Lib.hid (show ∀ q0, s ≠ tq q0 from fun q0 h => by have h1 := (HC2.out q0 h).1; simp only [Prod.mk.injEq] at h1; have h2 := (HT2.out h1.2.1).1; rw [nt] at h2; cases h2)
            have hf0 := HF.out.frozenN 0 rfl 0
            have hf1 := HF.out.frozenN 0 rfl 1
            have hf2 := HF.out.frozenN 0 rfl 2
            have hd0 := HF.out.cellN 0 rfl 0 rfl
            have hd1 := HF.out.cellN 0 rfl 1 rfl
            have hd2 := HF.out.cellN 0 rfl 2 rfl
            have HE := Lib.hid (end_no HF.out (Nat.le_refl _) rfl)
            clear HC2 H1 HT2 HF
            go_wp2
            exact post_ownU HE.out.2 rfl rfl rfl Tryz.underlying43 rfl (by kernel_rfl) (.inr ⟨rfl, HE.out.1, HX.out⟩)
        · have hte : t.isEmpty = false := by simpa using ht0
          have hte2 : (t == []) = false := by simpa using ht0
          have htt : t2 = t := by rw [HTE.out, if_neg ht0]
          clear HTE
          subst htt
          go_wp2_with fail
          refine (hB.out _ HL.out).mono ?_
          rintro e W5 (⟨nt, A2, c2, rfl, q1, q2⟩ | ⟨nt, rfl, q2⟩)
          · have H2 := Lib.hid q1
            replace HF := Lib.hid (HF.out.below q2)
            replace H1 := Lib.hid (H1.out.below q2)
            clear q1 q2 hB HL
            have hl1 := nOk_len na
            have hl2 := nOk_len nt
            have hv1 := nOk_lt na
            have ha1 := nOk_pos na
            have hv2 := nOk_lt nt
            generalize hn0 : decV 0 a2 = n at *
            have HN0 := Lib.hid hn0.symm
            clear hn0
            have hTen := Lib.hid (fun (W : World) => ratio_ten b2.length W (by omega))
            have hlt := dg_ten b2.length
            go_wp2_with fail
            refine (hTen.out _).mono ?_
            rintro e W6 ⟨A3, c3, rfl, q1, q2⟩
            have H3 := Lib.hid q1
            replace HF := Lib.hid (HF.out.below q2)
            replace H1 := Lib.hid (H1.out.below q2)
            replace H2 := Lib.hid (H2.out.below q2)
            clear q1 q2 hTen
            have hM := Lib.hid (mulN A1 c1 n A3 c3 (10 ^ b2.length) W6 H1.out (by omega) H3.out (by omega))
            have hp1 : 1 ≤ 10 ^ b2.length := Nat.one_le_pow _ _ (by decide)
            have hb0 : b2 = [] → 10 ^ b2.length = 1 := fun h => by rw [h]; rfl
            have hnp : n * 10 ^ b2.length < 10 ^ (a2.length + b2.length) := by rw [Nat.pow_add]; exact Nat.mul_lt_mul_of_pos_right hv1 hp1
            have hpp : 10 ^ t2.length ≤ 10 ^ (a2.length + b2.length + 1) := Nat.pow_le_pow_right (by decide) (by omega)
            have hpq : (10 : Nat) ^ (a2.length + b2.length + 1) = 10 ^ (a2.length + b2.length) * 10 := Nat.pow_succ ..
            have hsum : n * 10 ^ b2.length + decV 0 t2 < 10 ^ (a2.length + b2.length + 2) := by
             have : (10 : Nat) ^ (a2.length + b2.length + 2) = 10 ^ (a2.length + b2.length + 1) * 10 := Nat.pow_succ ..
             omega
            have hls := dg_ten_lt hsum
            have hlm := dg_ten_lt hnp
            clear hnp hpp hpq hsum hv1 hv2 H1
            have HQ2 := Lib.hid (show ∀ q0, s = tq q0 → rv nb (dg (n * 10 ^ b2.length + decV 0 t2)) (dg (10 ^ b2.length)) = q0 from fun q0 h => by
             obtain ⟨h1, h2, h3⟩ := HC2.out q0 h
             simp only [Prod.mk.injEq] at h1
             have h5 := HT2.out h1.2.1
             have h6 : n = q0.num.natAbs := by
              have h7 := HN0.out
              rw [h1.1, (nOk_dec _).2] at h7
              exact h7
             rw [hb0 h1.2.1, h5.2, h6, h3, Nat.mul_one, Nat.add_zero]
             have h8 := rv_can q0
             rwa [h2] at h8)
            clear HC2 HT2 HN0
            generalize 10 ^ b2.length = p at *
            generalize decV 0 t2 = m at *
            have hlm2 : (dg m).length ≤ t2.length + 1 := hl2
            go_wp2_with fail
            refine hM.out.mono ?_
            rintro e W7 ⟨A4, c4, rfl, q1, q2⟩
            have H4 := Lib.hid q1
            replace HF := Lib.hid (HF.out.below q2)
            replace H2 := Lib.hid (H2.out.below q2)
            replace H3 := Lib.hid (H3.out.below q2)
            clear q1 q2 hM
            have hA2 := Lib.hid (addN A4 c4 (n * p) A2 c2 m W7 H4.out (by omega) H2.out (by omega))
            clear H4 H2
            generalize n * p + m = u at *
            go_wp2_with fail
            refine hA2.out.mono ?_
            rintro e W8 ⟨A5, c5, rfl, q1, q2⟩
            have H5 := Lib.hid q1
            replace HF := Lib.hid (HF.out.below q2)
            replace H3 := Lib.hid (H3.out.below q2)
            clear q1 q2 hA2
            have hMd := Lib.hid (ratio_made nb A5 c5 (dg u) A3 c3 (dg p) W8 H5.out (by omega) H3.out (by omega) (by rw [V_dg]; omega))
            have hrv := rv_len nb (Lim_dg u) (Lim_dg p)
            generalize rv nb (dg u) (dg p) = q at *
            clear H3 H5
            go_wp2_with fail
            refine hMd.out.mono ?_
            rintro e W9 ⟨A6, c6, B6, d6, rfl, q1, q2, q3⟩
            replace HF := Lib.hid (HF.out.below q3)
            have hf0 := HF.out.frozenN 0 rfl 0
            have hf1 := HF.out.frozenN 0 rfl 1
            have hf2 := HF.out.frozenN 0 rfl 2
            have hd0 := HF.out.cellN 0 rfl 0 rfl
            have hd1 := HF.out.cellN 0 rfl 1 rfl
            have hd2 := HF.out.cellN 0 rfl 2 rfl
            have HE := Lib.hid (end_ratQ HF.out (by simp) (by simp) (Nat.le_refl _) q1 q2 rfl)
            have HS := Lib.hid (show (dg q.num.natAbs).length + (dg q.den).length ≤ min (2 * s.length + 4) (6 * s.length) by have hcc := hcl; omega)
            clear HF q1 q2 q3 hMd
            generalize hqb : decide (q.num < 0) = qb at *
            generalize hqn : (dg q.num.natAbs).length = qn at *
            go_wp2
            subst hqb hqn
            exact post_ownU HE.out.2.2 rfl rfl rfl Tryz.underlying43 rfl (by kernel_rfl) (.inl ⟨q, _, _, _, _, rfl, HE.out.1, HS.out, HE.out.2.1, HQ2.out⟩)
          · replace HF := Lib.hid (HF.out.below q2)
            clear q2 hB HL
            have HX := Lib.hid (show ∀ q0, s ≠ tq q0 from fun q0 h => by have h1 := (HC2.out q0 h).1; simp only [Prod.mk.injEq] at h1; have h2 := (HT2.out h1.2.1).1; rw [nt] at h2; cases h2)
            have hf0 := HF.out.frozenN 0 rfl 0
            have hf1 := HF.out.frozenN 0 rfl 1
            have hf2 := HF.out.frozenN 0 rfl 2
            have hd0 := HF.out.cellN 0 rfl 0 rfl
            have hd1 := HF.out.cellN 0 rfl 1 rfl
            have hd2 := HF.out.cellN 0 rfl 2 rfl
            have HE := Lib.hid (end_no HF.out (Nat.le_refl _) rfl)
            clear HC2 H1 HT2 HF
            go_wp2
            exact post_ownU HE.out.2 rfl rfl rfl Tryz.underlying43 rfl (by kernel_rfl) (.inr ⟨rfl, HE.out.1, HX.out⟩)
      · have hbe2 : (b2 == []) = false := by simpa using hbe
        have hcl2 := hcl1 rfl
        go_wp2_with fail
        refine (HTr.out _).mono ?_
        rintro e W4 ⟨rfl, rfl⟩
        clear HTr
        by_cases ht0 : t = []
        · have hte : t.isEmpty = true := by simpa using ht0
          have htt : t2 = [48] := by rw [HTE.out, if_pos ht0]
          have hB2 := Lib.hid (show ∀ (W : World), Laid W → Calls Tryz.prog 184 #[.string ⟨#[48]⟩, .int .i64 10] W (ToldP W t2) from fun W k => by
           have h := hB.out W k
           rw [show (⟨#[48]⟩ : ByteArray) = ⟨t2.toArray⟩ by rw [htt]]
           exact h)
          replace hB := hB2
          clear HTE hB2 htt
          subst ht0
          go_wp2_with fail
          refine (hB.out _ HL.out).mono ?_
          rintro e W5 (⟨nt, A2, c2, rfl, q1, q2⟩ | ⟨nt, rfl, q2⟩)
          · have H2 := Lib.hid q1
            replace HF := Lib.hid (HF.out.below q2)
            replace H1 := Lib.hid (H1.out.below q2)
            clear q1 q2 hB HL
            have hl1 := nOk_len na
            have hl2 := nOk_len nt
            have hv1 := nOk_lt na
            have ha1 := nOk_pos na
            have hv2 := nOk_lt nt
            generalize hn0 : decV 0 a2 = n at *
            have HN0 := Lib.hid hn0.symm
            clear hn0
            have hTen := Lib.hid (fun (W : World) => ratio_ten b2.length W (by omega))
            have hlt := dg_ten b2.length
            go_wp2_with fail
            refine (hTen.out _).mono ?_
            rintro e W6 ⟨A3, c3, rfl, q1, q2⟩
            have H3 := Lib.hid q1
            replace HF := Lib.hid (HF.out.below q2)
            replace H1 := Lib.hid (H1.out.below q2)
            replace H2 := Lib.hid (H2.out.below q2)
            clear q1 q2 hTen
            have hM := Lib.hid (mulN A1 c1 n A3 c3 (10 ^ b2.length) W6 H1.out (by omega) H3.out (by omega))
            have hp1 : 1 ≤ 10 ^ b2.length := Nat.one_le_pow _ _ (by decide)
            have hb0 : b2 = [] → 10 ^ b2.length = 1 := fun h => by rw [h]; rfl
            have hnp : n * 10 ^ b2.length < 10 ^ (a2.length + b2.length) := by rw [Nat.pow_add]; exact Nat.mul_lt_mul_of_pos_right hv1 hp1
            have hpp : 10 ^ t2.length ≤ 10 ^ (a2.length + b2.length + 1) := Nat.pow_le_pow_right (by decide) (by omega)
            have hpq : (10 : Nat) ^ (a2.length + b2.length + 1) = 10 ^ (a2.length + b2.length) * 10 := Nat.pow_succ ..
            have hsum : n * 10 ^ b2.length + decV 0 t2 < 10 ^ (a2.length + b2.length + 2) := by
             have : (10 : Nat) ^ (a2.length + b2.length + 2) = 10 ^ (a2.length + b2.length + 1) * 10 := Nat.pow_succ ..
             omega
            have hls := dg_ten_lt hsum
            have hlm := dg_ten_lt hnp
            clear hnp hpp hpq hsum hv1 hv2 H1
            have HQ2 := Lib.hid (show ∀ q0, s = tq q0 → rv nb (dg (n * 10 ^ b2.length + decV 0 t2)) (dg (10 ^ b2.length)) = q0 from fun q0 h => by
             obtain ⟨h1, h2, h3⟩ := HC2.out q0 h
             simp only [Prod.mk.injEq] at h1
             have h5 := HT2.out h1.2.1
             have h6 : n = q0.num.natAbs := by
              have h7 := HN0.out
              rw [h1.1, (nOk_dec _).2] at h7
              exact h7
             rw [hb0 h1.2.1, h5.2, h6, h3, Nat.mul_one, Nat.add_zero]
             have h8 := rv_can q0
             rwa [h2] at h8)
            clear HC2 HT2 HN0
            generalize 10 ^ b2.length = p at *
            generalize decV 0 t2 = m at *
            have hlm2 : (dg m).length ≤ t2.length + 1 := hl2
            go_wp2_with fail
            refine hM.out.mono ?_
            rintro e W7 ⟨A4, c4, rfl, q1, q2⟩
            have H4 := Lib.hid q1
            replace HF := Lib.hid (HF.out.below q2)
            replace H2 := Lib.hid (H2.out.below q2)
            replace H3 := Lib.hid (H3.out.below q2)
            clear q1 q2 hM
            have hA2 := Lib.hid (addN A4 c4 (n * p) A2 c2 m W7 H4.out (by omega) H2.out (by omega))
            clear H4 H2
            generalize n * p + m = u at *
            go_wp2_with fail
            refine hA2.out.mono ?_
            rintro e W8 ⟨A5, c5, rfl, q1, q2⟩
            have H5 := Lib.hid q1
            replace HF := Lib.hid (HF.out.below q2)
            replace H3 := Lib.hid (H3.out.below q2)
            clear q1 q2 hA2
            have hMd := Lib.hid (ratio_made nb A5 c5 (dg u) A3 c3 (dg p) W8 H5.out (by omega) H3.out (by omega) (by rw [V_dg]; omega))
            have hrv := rv_len nb (Lim_dg u) (Lim_dg p)
            generalize rv nb (dg u) (dg p) = q at *
            clear H3 H5
            go_wp2_with fail
            refine hMd.out.mono ?_
            rintro e W9 ⟨A6, c6, B6, d6, rfl, q1, q2, q3⟩
            replace HF := Lib.hid (HF.out.below q3)
            have hf0 := HF.out.frozenN 0 rfl 0
            have hf1 := HF.out.frozenN 0 rfl 1
            have hf2 := HF.out.frozenN 0 rfl 2
            have hd0 := HF.out.cellN 0 rfl 0 rfl
            have hd1 := HF.out.cellN 0 rfl 1 rfl
            have hd2 := HF.out.cellN 0 rfl 2 rfl
            have HE := Lib.hid (end_ratQ HF.out (by simp) (by simp) (Nat.le_refl _) q1 q2 rfl)
            have HS := Lib.hid (show (dg q.num.natAbs).length + (dg q.den).length ≤ min (2 * s.length + 4) (6 * s.length) by omega)
            clear HF q1 q2 q3 hMd
            generalize hqb : decide (q.num < 0) = qb at *
            generalize hqn : (dg q.num.natAbs).length = qn at *
            go_wp2
            subst hqb hqn
            exact post_ownU HE.out.2.2 rfl rfl rfl Tryz.underlying43 rfl (by kernel_rfl) (.inl ⟨q, _, _, _, _, rfl, HE.out.1, HS.out, HE.out.2.1, HQ2.out⟩)
          · replace HF := Lib.hid (HF.out.below q2)
            clear q2 hB HL
            have HX := Lib.hid (show ∀ q0, s ≠ tq q0 from fun q0 h => by have h1 := (HC2.out q0 h).1; simp only [Prod.mk.injEq] at h1; have h2 := (HT2.out h1.2.1).1; rw [nt] at h2; cases h2)
            have hf0 := HF.out.frozenN 0 rfl 0
            have hf1 := HF.out.frozenN 0 rfl 1
            have hf2 := HF.out.frozenN 0 rfl 2
            have hd0 := HF.out.cellN 0 rfl 0 rfl
            have hd1 := HF.out.cellN 0 rfl 1 rfl
            have hd2 := HF.out.cellN 0 rfl 2 rfl
            have HE := Lib.hid (end_no HF.out (Nat.le_refl _) rfl)
            clear HC2 H1 HT2 HF
            go_wp2
            exact post_ownU HE.out.2 rfl rfl rfl Tryz.underlying43 rfl (by kernel_rfl) (.inr ⟨rfl, HE.out.1, HX.out⟩)
        · have hte : t.isEmpty = false := by simpa using ht0
          have hte2 : (t == []) = false := by simpa using ht0
          have htt : t2 = t := by rw [HTE.out, if_neg ht0]
          clear HTE
          subst htt
          go_wp2_with fail
          refine (hB.out _ HL.out).mono ?_
          rintro e W5 (⟨nt, A2, c2, rfl, q1, q2⟩ | ⟨nt, rfl, q2⟩)
          · have H2 := Lib.hid q1
            replace HF := Lib.hid (HF.out.below q2)
            replace H1 := Lib.hid (H1.out.below q2)
            clear q1 q2 hB HL
            have hl1 := nOk_len na
            have hl2 := nOk_len nt
            have hv1 := nOk_lt na
            have ha1 := nOk_pos na
            have hv2 := nOk_lt nt
            generalize hn0 : decV 0 a2 = n at *
            have HN0 := Lib.hid hn0.symm
            clear hn0
            have hTen := Lib.hid (fun (W : World) => ratio_ten b2.length W (by omega))
            have hlt := dg_ten b2.length
            go_wp2_with fail
            refine (hTen.out _).mono ?_
            rintro e W6 ⟨A3, c3, rfl, q1, q2⟩
            have H3 := Lib.hid q1
            replace HF := Lib.hid (HF.out.below q2)
            replace H1 := Lib.hid (H1.out.below q2)
            replace H2 := Lib.hid (H2.out.below q2)
            clear q1 q2 hTen
            have hM := Lib.hid (mulN A1 c1 n A3 c3 (10 ^ b2.length) W6 H1.out (by omega) H3.out (by omega))
            have hp1 : 1 ≤ 10 ^ b2.length := Nat.one_le_pow _ _ (by decide)
            have hb0 : b2 = [] → 10 ^ b2.length = 1 := fun h => by rw [h]; rfl
            have hnp : n * 10 ^ b2.length < 10 ^ (a2.length + b2.length) := by rw [Nat.pow_add]; exact Nat.mul_lt_mul_of_pos_right hv1 hp1
            have hpp : 10 ^ t2.length ≤ 10 ^ (a2.length + b2.length + 1) := Nat.pow_le_pow_right (by decide) (by omega)
            have hpq : (10 : Nat) ^ (a2.length + b2.length + 1) = 10 ^ (a2.length + b2.length) * 10 := Nat.pow_succ ..
            have hsum : n * 10 ^ b2.length + decV 0 t2 < 10 ^ (a2.length + b2.length + 2) := by
             have : (10 : Nat) ^ (a2.length + b2.length + 2) = 10 ^ (a2.length + b2.length + 1) * 10 := Nat.pow_succ ..
             omega
            have hls := dg_ten_lt hsum
            have hlm := dg_ten_lt hnp
            clear hnp hpp hpq hsum hv1 hv2 H1
            have HQ2 := Lib.hid (show ∀ q0, s = tq q0 → rv nb (dg (n * 10 ^ b2.length + decV 0 t2)) (dg (10 ^ b2.length)) = q0 from fun q0 h => by
             obtain ⟨h1, h2, h3⟩ := HC2.out q0 h
             simp only [Prod.mk.injEq] at h1
             have h5 := HT2.out h1.2.1
             have h6 : n = q0.num.natAbs := by
              have h7 := HN0.out
              rw [h1.1, (nOk_dec _).2] at h7
              exact h7
             rw [hb0 h1.2.1, h5.2, h6, h3, Nat.mul_one, Nat.add_zero]
             have h8 := rv_can q0
             rwa [h2] at h8)
            clear HC2 HT2 HN0
            generalize 10 ^ b2.length = p at *
            generalize decV 0 t2 = m at *
            have hlm2 : (dg m).length ≤ t2.length + 1 := hl2
            go_wp2_with fail
            refine hM.out.mono ?_
            rintro e W7 ⟨A4, c4, rfl, q1, q2⟩
            have H4 := Lib.hid q1
            replace HF := Lib.hid (HF.out.below q2)
            replace H2 := Lib.hid (H2.out.below q2)
            replace H3 := Lib.hid (H3.out.below q2)
            clear q1 q2 hM
            have hA2 := Lib.hid (addN A4 c4 (n * p) A2 c2 m W7 H4.out (by omega) H2.out (by omega))
            clear H4 H2
            generalize n * p + m = u at *
            go_wp2_with fail
            refine hA2.out.mono ?_
            rintro e W8 ⟨A5, c5, rfl, q1, q2⟩
            have H5 := Lib.hid q1
            replace HF := Lib.hid (HF.out.below q2)
            replace H3 := Lib.hid (H3.out.below q2)
            clear q1 q2 hA2
            have hMd := Lib.hid (ratio_made nb A5 c5 (dg u) A3 c3 (dg p) W8 H5.out (by omega) H3.out (by omega) (by rw [V_dg]; omega))
            have hrv := rv_len nb (Lim_dg u) (Lim_dg p)
            generalize rv nb (dg u) (dg p) = q at *
            clear H3 H5
            go_wp2_with fail
            refine hMd.out.mono ?_
            rintro e W9 ⟨A6, c6, B6, d6, rfl, q1, q2, q3⟩
            replace HF := Lib.hid (HF.out.below q3)
            have hf0 := HF.out.frozenN 0 rfl 0
            have hf1 := HF.out.frozenN 0 rfl 1
            have hf2 := HF.out.frozenN 0 rfl 2
            have hd0 := HF.out.cellN 0 rfl 0 rfl
            have hd1 := HF.out.cellN 0 rfl 1 rfl
            have hd2 := HF.out.cellN 0 rfl 2 rfl
            have HE := Lib.hid (end_ratQ HF.out (by simp) (by simp) (Nat.le_refl _) q1 q2 rfl)
            have HS := Lib.hid (show (dg q.num.natAbs).length + (dg q.den).length ≤ min (2 * s.length + 4) (6 * s.length) by omega)
            clear HF q1 q2 q3 hMd
            generalize hqb : decide (q.num < 0) = qb at *
            generalize hqn : (dg q.num.natAbs).length = qn at *
            go_wp2
            subst hqb hqn
            exact post_ownU HE.out.2.2 rfl rfl rfl Tryz.underlying43 rfl (by kernel_rfl) (.inl ⟨q, _, _, _, _, rfl, HE.out.1, HS.out, HE.out.2.1, HQ2.out⟩)
          · replace HF := Lib.hid (HF.out.below q2)
            clear q2 hB HL
            have HX := Lib.hid (show ∀ q0, s ≠ tq q0 from fun q0 h => by have h1 := (HC2.out q0 h).1; simp only [Prod.mk.injEq] at h1; have h2 := (HT2.out h1.2.1).1; rw [nt] at h2; cases h2)
            have hf0 := HF.out.frozenN 0 rfl 0
            have hf1 := HF.out.frozenN 0 rfl 1
            have hf2 := HF.out.frozenN 0 rfl 2
            have hd0 := HF.out.cellN 0 rfl 0 rfl
            have hd1 := HF.out.cellN 0 rfl 1 rfl
            have hd2 := HF.out.cellN 0 rfl 2 rfl
            have HE := Lib.hid (end_no HF.out (Nat.le_refl _) rfl)
            clear HC2 H1 HT2 HF
            go_wp2
            exact post_ownU HE.out.2 rfl rfl rfl Tryz.underlying43 rfl (by kernel_rfl) (.inr ⟨rfl, HE.out.1, HX.out⟩)
  · replace HF := Lib.hid (HF.out.below q2)
    clear q2 hA HL HTr
    have HX := Lib.hid (show ∀ q0, s ≠ tq q0 from fun q0 h => by have h1 := (HC2.out q0 h).1; simp only [Prod.mk.injEq] at h1; rw [h1.1, (nOk_dec _).1] at na; cases na)
    have hf0 := HF.out.frozenN 0 rfl 0
    have hf1 := HF.out.frozenN 0 rfl 1
    have hf2 := HF.out.frozenN 0 rfl 2
    have hd0 := HF.out.cellN 0 rfl 0 rfl
    have hd1 := HF.out.cellN 0 rfl 1 rfl
    have hd2 := HF.out.cellN 0 rfl 2 rfl
    have HE := Lib.hid (end_no HF.out (Nat.le_refl _) rfl)
    clear HC2 HF
    go_wp2
    exact post_ownU HE.out.2 rfl rfl rfl Tryz.underlying43 rfl (by kernel_rfl) (.inr ⟨rfl, HE.out.1, HX.out⟩)
end Go.Proofs.YtidgpkccjcddgaaGreatDoor.F
