import Derived.Ground.NamesProg
import Derived.Shelf.Strings.SplitShaped
import Derived.Test.YtfmjgoeclilcnaaGreatDoorProg
import Derived.WalkKit
import Derived.Shelf.Strings.Shaped
import Derived.Shelf.Strings.OnBuilder
import Derived.Shelf.Strconv.ErrVarAll
import Derived.Test.YtfmjgoeclilcnaaGreatDoorM8
import Derived.Test.YtfmjgoeclilcnaaGreatDoorM9
import Derived.Test.YtfmjgoeclilcnaaGreatDoorM10
import Derived.Test.YtfmjgoeclilcnaaGreatDoorM12
set_option linter.unusedSimpArgs false
set_option linter.unusedVariables false
set_option linter.unusedSectionVars false
namespace Go.Proofs
open Go.Shelf
def Tryz.lays146_ren : Go.Shelf.Ren := ⟨fun | 146 => 130 | 221 => 188 | 268 => 214 | 138 => 215 | 143 => 216 | 195 => 241 | 197 => 242 | 218 => 243 | 219 => 244 | 260 => 265 | 217 => 266 | 225 => 267 | 224 => 268 | 267 => 269 | 266 => 282 | 314 => 283 | n => n, fun | 9 => 9 | 31 => 22 | 3 => 3 | 4 => 4 | 0 => 0 | 105 => 256 | 21 => 21 | 5 => 5 | 46 => 223 | 119 => 296 | 139 => 299 | 138 => 298 | 146 => 300 | 51 => 247 | n => n, fun | 1 => 2 | 3 => 3 | 4 => 4 | n => n⟩
theorem Tryz.lays146 : Go.Proofs.LaysM.n146 Tryz.prog Tryz.lays146_ren := {
 mixed := by kernel_rfl
 f138 := Tryz.func215.trans (congrArg some (by kernel_rfl))
 f143 := Tryz.func216.trans (congrArg some (by kernel_rfl))
 f146 := Tryz.func130.trans (congrArg some (by kernel_rfl))
 f195 := Tryz.func241.trans (congrArg some (by kernel_rfl))
 f197 := Tryz.func242.trans (congrArg some (by kernel_rfl))
 f217 := Tryz.func266.trans (congrArg some (by kernel_rfl))
 f218 := Tryz.func243.trans (congrArg some (by kernel_rfl))
 f219 := Tryz.func244.trans (congrArg some (by kernel_rfl))
 f221 := Tryz.func188.trans (congrArg some (by kernel_rfl))
 f224 := Tryz.func268.trans (congrArg some (by kernel_rfl))
 f225 := Tryz.func267.trans (congrArg some (by kernel_rfl))
 f260 := Tryz.func265.trans (congrArg some (by kernel_rfl))
 f266 := Tryz.func282.trans (congrArg some (by kernel_rfl))
 f267 := Tryz.func269.trans (congrArg some (by kernel_rfl))
 f268 := Tryz.func214.trans (congrArg some (by kernel_rfl))
 f314 := Tryz.func283.trans (congrArg some (by kernel_rfl))
 t0 := Tryz.underlying0
 a0 := Tryz.isAgg0
 z0 := Tryz.sizeOf0
 v0 := Tryz.zeroValue0
 t3 := Tryz.underlying3
 a3 := Tryz.isAgg3
 z3 := Tryz.sizeOf3
 v3 := Tryz.zeroValue3
 t4 := Tryz.underlying4
 a4 := Tryz.isAgg4
 z4 := Tryz.sizeOf4
 v4 := Tryz.zeroValue4
 t5 := Tryz.underlying5
 a5 := Tryz.isAgg5
 z5 := Tryz.sizeOf5
 v5 := Tryz.zeroValue5
 t9 := Tryz.underlying9
 a9 := Tryz.isAgg9
 z9 := Tryz.sizeOf9
 v9 := Tryz.zeroValue9
 t21 := Tryz.underlying21
 a21 := Tryz.isAgg21
 z21 := Tryz.sizeOf21
 v21 := Tryz.zeroValue21
 t31 := Tryz.underlying22
 a31 := Tryz.isAgg22
 z31 := Tryz.sizeOf22
 v31 := Tryz.zeroValue22
 t46 := Tryz.underlying223
 a46 := Tryz.isAgg223
 z46 := Tryz.sizeOf223
 v46 := Tryz.zeroValue223
 t51 := Tryz.underlying247
 a51 := Tryz.isAgg247
 z51 := Tryz.sizeOf247
 v51 := Tryz.zeroValue247
 t105 := Tryz.underlying256
 a105 := Tryz.isAgg256
 z105 := Tryz.sizeOf256
 v105 := Tryz.zeroValue256
 t119 := Tryz.underlying296
 a119 := Tryz.isAgg296
 z119 := Tryz.sizeOf296
 t138 := Tryz.underlying298
 a138 := Tryz.isAgg298
 z138 := Tryz.sizeOf298
 v138 := Tryz.zeroValue298
 t139 := Tryz.underlying299
 a139 := Tryz.isAgg299
 z139 := Tryz.sizeOf299
 v139 := Tryz.zeroValue299
 t146 := Tryz.underlying300
 a146 := Tryz.isAgg300
 z146 := Tryz.sizeOf300
 v146 := Tryz.zeroValue300
 g1 := by kernel_rfl
 g3 := by kernel_rfl
 g4 := by kernel_rfl
 i0 := by kernel_rfl
 i3 := by kernel_rfl
 i4 := by kernel_rfl
 i5 := by kernel_rfl
 i9 := by kernel_rfl
 i21 := by kernel_rfl
 i31 := by kernel_rfl
 i46 := by kernel_rfl
 i51 := by kernel_rfl
 i105 := by kernel_rfl
 i138 := by kernel_rfl
 i139 := by kernel_rfl
 i146 := by kernel_rfl
 m1 := by kernel_rfl
 s1_3 := fun w h => Go.Proofs.cell_of_shapedOpen_int (zero := #[.int .i64 0]) (t := 3) h (of_decide_eq_true (by kernel_rfl)) (by kernel_rfl) rfl (by kernel_rfl) (by kernel_rfl) Tryz.underlying3
 m3 := by kernel_rfl
 m4 := by kernel_rfl }
end Go.Proofs
namespace Go.Proofs
open Go.Shelf
def Tryz.lays145_ren : Go.Shelf.Ren := ⟨fun | 145 => 210 | 220 => 235 | 219 => 244 | 217 => 266 | 225 => 267 | 224 => 268 | 267 => 269 | 266 => 282 | 314 => 283 | n => n, fun | 9 => 9 | 4 => 4 | 59 => 229 | 3 => 3 | 5 => 5 | 46 => 223 | 146 => 300 | 51 => 247 | n => n, fun | 1 => 2 | n => n⟩
theorem Tryz.lays145 : Go.Proofs.LaysM.n145 Tryz.prog Tryz.lays145_ren := {
 mixed := by kernel_rfl
 f145 := Tryz.func210.trans (congrArg some (by kernel_rfl))
 f217 := Tryz.func266.trans (congrArg some (by kernel_rfl))
 f219 := Tryz.func244.trans (congrArg some (by kernel_rfl))
 f220 := Tryz.func235.trans (congrArg some (by kernel_rfl))
 f224 := Tryz.func268.trans (congrArg some (by kernel_rfl))
 f225 := Tryz.func267.trans (congrArg some (by kernel_rfl))
 f266 := Tryz.func282.trans (congrArg some (by kernel_rfl))
 f267 := Tryz.func269.trans (congrArg some (by kernel_rfl))
 f314 := Tryz.func283.trans (congrArg some (by kernel_rfl))
 t3 := Tryz.underlying3
 a3 := Tryz.isAgg3
 z3 := Tryz.sizeOf3
 v3 := Tryz.zeroValue3
 t4 := Tryz.underlying4
 a4 := Tryz.isAgg4
 z4 := Tryz.sizeOf4
 v4 := Tryz.zeroValue4
 t5 := Tryz.underlying5
 a5 := Tryz.isAgg5
 z5 := Tryz.sizeOf5
 v5 := Tryz.zeroValue5
 t9 := Tryz.underlying9
 a9 := Tryz.isAgg9
 z9 := Tryz.sizeOf9
 v9 := Tryz.zeroValue9
 t46 := Tryz.underlying223
 a46 := Tryz.isAgg223
 z46 := Tryz.sizeOf223
 v46 := Tryz.zeroValue223
 t51 := Tryz.underlying247
 a51 := Tryz.isAgg247
 z51 := Tryz.sizeOf247
 v51 := Tryz.zeroValue247
 t59 := Tryz.underlying229
 a59 := Tryz.isAgg229
 z59 := Tryz.sizeOf229
 v59 := Tryz.zeroValue229
 t146 := Tryz.underlying300
 a146 := Tryz.isAgg300
 z146 := Tryz.sizeOf300
 v146 := Tryz.zeroValue300
 g1 := by kernel_rfl
 i3 := by kernel_rfl
 i4 := by kernel_rfl
 i5 := by kernel_rfl
 i9 := by kernel_rfl
 i46 := by kernel_rfl
 i51 := by kernel_rfl
 i59 := by kernel_rfl
 i146 := by kernel_rfl
 m1 := by kernel_rfl
 s1_3 := fun w h => Go.Proofs.cell_of_shapedOpen_int (zero := #[.int .i64 0]) (t := 3) h (of_decide_eq_true (by kernel_rfl)) (by kernel_rfl) rfl (by kernel_rfl) (by kernel_rfl) Tryz.underlying3 }
end Go.Proofs
namespace Go.Proofs
open Go.Shelf
def Tryz.lays156_ren : Go.Shelf.Ren := ⟨fun | 156 => 221 | 165 => 253 | 166 => 254 | 169 => 255 | 240 => 277 | 241 => 278 | 276 => 290 | 277 => 291 | n => n, fun | 31 => 22 | 9 => 9 | 3 => 3 | 4 => 4 | 0 => 0 | 20 => 20 | 72 => 268 | 76 => 208 | 70 => 266 | 37 => 225 | 75 => 207 | 127 => 289 | 164 => 306 | 5 => 5 | 80 => 270 | n => n, fun | n => n⟩
theorem Tryz.lays156 : Go.Proofs.Lays.n156 Tryz.prog Tryz.lays156_ren := {
 mixed := by kernel_rfl
 f156 := Tryz.func221.trans (congrArg some (by kernel_rfl))
 f165 := Tryz.func253.trans (congrArg some (by kernel_rfl))
 f166 := Tryz.func254.trans (congrArg some (by kernel_rfl))
 f169 := Tryz.func255.trans (congrArg some (by kernel_rfl))
 f240 := Tryz.func277.trans (congrArg some (by kernel_rfl))
 f241 := Tryz.func278.trans (congrArg some (by kernel_rfl))
 f276 := Tryz.func290.trans (congrArg some (by kernel_rfl))
 f277 := Tryz.func291.trans (congrArg some (by kernel_rfl))
 t0 := Tryz.underlying0
 a0 := Tryz.isAgg0
 z0 := Tryz.sizeOf0
 v0 := Tryz.zeroValue0
 t3 := Tryz.underlying3
 a3 := Tryz.isAgg3
 z3 := Tryz.sizeOf3
 v3 := Tryz.zeroValue3
 t4 := Tryz.underlying4
 a4 := Tryz.isAgg4
 z4 := Tryz.sizeOf4
 v4 := Tryz.zeroValue4
 t9 := Tryz.underlying9
 a9 := Tryz.isAgg9
 z9 := Tryz.sizeOf9
 v9 := Tryz.zeroValue9
 t20 := Tryz.underlying20
 a20 := Tryz.isAgg20
 z20 := Tryz.sizeOf20
 v20 := Tryz.zeroValue20
 t31 := Tryz.underlying22
 a31 := Tryz.isAgg22
 z31 := Tryz.sizeOf22
 v31 := Tryz.zeroValue22
 t37 := Tryz.underlying225
 a37 := Tryz.isAgg225
 z37 := Tryz.sizeOf225
 v37 := Tryz.zeroValue225
 t70 := Tryz.underlying266
 a70 := Tryz.isAgg266
 z70 := Tryz.sizeOf266
 v70 := Tryz.zeroValue266
 t72 := Tryz.underlying268
 a72 := Tryz.isAgg268
 z72 := Tryz.sizeOf268
 v72 := Tryz.zeroValue268
 t75 := Tryz.underlying207
 a75 := Tryz.isAgg207
 z75 := Tryz.sizeOf207
 v75 := Tryz.zeroValue207
 t76 := Tryz.underlying208
 a76 := Tryz.isAgg208
 z76 := Tryz.sizeOf208
 v76 := Tryz.zeroValue208
 t127 := Tryz.underlying289
 a127 := Tryz.isAgg289
 z127 := Tryz.sizeOf289
 v127 := Tryz.zeroValue289
 t164 := Tryz.underlying306
 a164 := Tryz.isAgg306
 z164 := Tryz.sizeOf306
 v164 := Tryz.zeroValue306 }
end Go.Proofs
namespace Go.Proofs
open Go.Shelf
def Tryz.lays172_ren : Go.Shelf.Ren := ⟨fun | 172 => 184 | 244 => 212 | 245 => 213 | 247 => 236 | 279 => 237 | 280 => 238 | 281 => 239 | 282 => 240 | 287 => 262 | 316 => 263 | 171 => 194 | 205 => 264 | 321 => 280 | 322 => 281 | 243 => 220 | 246 => 252 | 283 => 273 | 284 => 274 | 285 => 275 | 286 => 276 | 129 => 234 | 317 => 286 | 318 => 287 | 319 => 288 | 320 => 289 | 337 => 294 | 338 => 295 | n => n, fun | 9 => 9 | 3 => 3 | 75 => 207 | 76 => 208 | 4 => 4 | 5 => 5 | 167 => 250 | 37 => 225 | 0 => 0 | 85 => 251 | 2 => 2 | 168 => 253 | 53 => 249 | 175 => 277 | 46 => 223 | 210 => 280 | 127 => 289 | 145 => 295 | 143 => 293 | 21 => 21 | 171 => 285 | 173 => 287 | 212 => 304 | 51 => 247 | 20 => 20 | 213 => 305 | 232 => 310 | 233 => 311 | 80 => 270 | n => n, fun | 15 => 0 | 16 => 1 | 17 => 5 | 18 => 6 | 19 => 7 | n => n⟩
theorem Tryz.lays172 : Go.Proofs.LaysC.n172 Tryz.prog Tryz.lays172_ren := {
 mixed := by kernel_rfl
 f129 := Tryz.func234.trans (congrArg some (by kernel_rfl))
 f171 := Tryz.func194.trans (congrArg some (by kernel_rfl))
 f172 := Tryz.func184.trans (congrArg some (by kernel_rfl))
 f205 := Tryz.func264.trans (congrArg some (by kernel_rfl))
 f243 := Tryz.func220.trans (congrArg some (by kernel_rfl))
 f244 := Tryz.func212.trans (congrArg some (by kernel_rfl))
 f245 := Tryz.func213.trans (congrArg some (by kernel_rfl))
 f246 := Tryz.func252.trans (congrArg some (by kernel_rfl))
 f247 := Tryz.func236.trans (congrArg some (by kernel_rfl))
 f279 := Tryz.func237.trans (congrArg some (by kernel_rfl))
 f280 := Tryz.func238.trans (congrArg some (by kernel_rfl))
 f281 := Tryz.func239.trans (congrArg some (by kernel_rfl))
 f282 := Tryz.func240.trans (congrArg some (by kernel_rfl))
 f283 := Tryz.func273.trans (congrArg some (by kernel_rfl))
 f284 := Tryz.func274.trans (congrArg some (by kernel_rfl))
 f285 := Tryz.func275.trans (congrArg some (by kernel_rfl))
 f286 := Tryz.func276.trans (congrArg some (by kernel_rfl))
 f287 := Tryz.func262.trans (congrArg some (by kernel_rfl))
 f316 := Tryz.func263.trans (congrArg some (by kernel_rfl))
 f317 := Tryz.func286.trans (congrArg some (by kernel_rfl))
 f318 := Tryz.func287.trans (congrArg some (by kernel_rfl))
 f319 := Tryz.func288.trans (congrArg some (by kernel_rfl))
 f320 := Tryz.func289.trans (congrArg some (by kernel_rfl))
 f321 := Tryz.func280.trans (congrArg some (by kernel_rfl))
 f322 := Tryz.func281.trans (congrArg some (by kernel_rfl))
 f337 := Tryz.func294.trans (congrArg some (by kernel_rfl))
 f338 := Tryz.func295.trans (congrArg some (by kernel_rfl))
 t0 := Tryz.underlying0
 a0 := Tryz.isAgg0
 z0 := Tryz.sizeOf0
 v0 := Tryz.zeroValue0
 t2 := Tryz.underlying2
 a2 := Tryz.isAgg2
 z2 := Tryz.sizeOf2
 v2 := Tryz.zeroValue2
 t3 := Tryz.underlying3
 a3 := Tryz.isAgg3
 z3 := Tryz.sizeOf3
 v3 := Tryz.zeroValue3
 t4 := Tryz.underlying4
 a4 := Tryz.isAgg4
 z4 := Tryz.sizeOf4
 v4 := Tryz.zeroValue4
 t5 := Tryz.underlying5
 a5 := Tryz.isAgg5
 z5 := Tryz.sizeOf5
 v5 := Tryz.zeroValue5
 t9 := Tryz.underlying9
 a9 := Tryz.isAgg9
 z9 := Tryz.sizeOf9
 v9 := Tryz.zeroValue9
 t20 := Tryz.underlying20
 a20 := Tryz.isAgg20
 z20 := Tryz.sizeOf20
 v20 := Tryz.zeroValue20
 t21 := Tryz.underlying21
 a21 := Tryz.isAgg21
 z21 := Tryz.sizeOf21
 v21 := Tryz.zeroValue21
 t37 := Tryz.underlying225
 a37 := Tryz.isAgg225
 z37 := Tryz.sizeOf225
 v37 := Tryz.zeroValue225
 t46 := Tryz.underlying223
 a46 := Tryz.isAgg223
 z46 := Tryz.sizeOf223
 v46 := Tryz.zeroValue223
 t51 := Tryz.underlying247
 a51 := Tryz.isAgg247
 z51 := Tryz.sizeOf247
 v51 := Tryz.zeroValue247
 t53 := Tryz.underlying249
 a53 := Tryz.isAgg249
 z53 := Tryz.sizeOf249
 v53 := Tryz.zeroValue249
 t75 := Tryz.underlying207
 a75 := Tryz.isAgg207
 z75 := Tryz.sizeOf207
 v75 := Tryz.zeroValue207
 t76 := Tryz.underlying208
 a76 := Tryz.isAgg208
 z76 := Tryz.sizeOf208
 v76 := Tryz.zeroValue208
 t85 := Tryz.underlying251
 a85 := Tryz.isAgg251
 z85 := Tryz.sizeOf251
 v85 := Tryz.zeroValue251
 t127 := Tryz.underlying289
 a127 := Tryz.isAgg289
 z127 := Tryz.sizeOf289
 v127 := Tryz.zeroValue289
 t143 := Tryz.underlying293
 a143 := Tryz.isAgg293
 z143 := Tryz.sizeOf293
 v143 := Tryz.zeroValue293
 t145 := Tryz.underlying295
 a145 := Tryz.isAgg295
 z145 := Tryz.sizeOf295
 v145 := Tryz.zeroValue295
 t167 := Tryz.underlying250
 a167 := Tryz.isAgg250
 z167 := Tryz.sizeOf250
 v167 := Tryz.zeroValue250
 t168 := Tryz.underlying253
 a168 := Tryz.isAgg253
 z168 := Tryz.sizeOf253
 v168 := Tryz.zeroValue253
 t171 := Tryz.underlying285
 a171 := Tryz.isAgg285
 z171 := Tryz.sizeOf285
 v171 := Tryz.zeroValue285
 t173 := Tryz.underlying287
 a173 := Tryz.isAgg287
 z173 := Tryz.sizeOf287
 v173 := Tryz.zeroValue287
 t175 := Tryz.underlying277
 a175 := Tryz.isAgg277
 z175 := Tryz.sizeOf277
 v175 := Tryz.zeroValue277
 t210 := Tryz.underlying280
 a210 := Tryz.isAgg280
 z210 := Tryz.sizeOf280
 v210 := Tryz.zeroValue280
 t212 := Tryz.underlying304
 a212 := Tryz.isAgg304
 z212 := Tryz.sizeOf304
 v212 := Tryz.zeroValue304
 t213 := Tryz.underlying305
 a213 := Tryz.isAgg305
 z213 := Tryz.sizeOf305
 t232 := Tryz.underlying310
 a232 := Tryz.isAgg310
 z232 := Tryz.sizeOf310
 v232 := Tryz.zeroValue310
 t233 := Tryz.underlying311
 a233 := Tryz.isAgg311
 z233 := Tryz.sizeOf311
 v233 := Tryz.zeroValue311
 g15 := by kernel_rfl
 g16 := by kernel_rfl
 g17 := by kernel_rfl
 g18 := by kernel_rfl
 g19 := by kernel_rfl
 t80 := Tryz.underlying270
 a80 := Tryz.isAgg270
 z80 := Tryz.sizeOf270
 v80 := Tryz.zeroValue270
 i0 := by kernel_rfl
 i2 := by kernel_rfl
 i3 := by kernel_rfl
 i4 := by kernel_rfl
 i5 := by kernel_rfl
 i9 := by kernel_rfl
 i20 := by kernel_rfl
 i21 := by kernel_rfl
 i37 := by kernel_rfl
 i46 := by kernel_rfl
 i51 := by kernel_rfl
 i53 := by kernel_rfl
 i75 := by kernel_rfl
 i76 := by kernel_rfl
 i80 := by kernel_rfl
 i85 := by kernel_rfl
 i127 := by kernel_rfl
 i143 := by kernel_rfl
 i145 := by kernel_rfl
 i167 := by kernel_rfl
 i168 := by kernel_rfl
 i171 := by kernel_rfl
 i173 := by kernel_rfl
 i175 := by kernel_rfl
 i210 := by kernel_rfl
 i212 := by kernel_rfl
 i232 := by kernel_rfl
 i233 := by kernel_rfl
 m15 := by kernel_rfl
 m16 := by kernel_rfl
 m17 := by kernel_rfl
 m18 := by kernel_rfl
 m19 := by kernel_rfl
 c0 := by kernel_rfl
 c2 := by kernel_rfl
 c3 := by kernel_rfl
 c4 := by kernel_rfl
 c5 := by kernel_rfl
 c9 := by kernel_rfl
 c20 := by kernel_rfl
 c21 := by kernel_rfl
 c37 := by kernel_rfl
 c46 := by kernel_rfl
 c51 := by kernel_rfl
 c53 := by kernel_rfl
 c75 := by kernel_rfl
 c76 := by kernel_rfl
 c80 := by kernel_rfl
 c85 := by kernel_rfl
 c127 := by kernel_rfl
 c143 := by kernel_rfl
 c145 := by kernel_rfl
 c167 := by kernel_rfl
 c168 := by kernel_rfl
 c171 := by kernel_rfl
 c173 := by kernel_rfl
 c175 := by kernel_rfl
 c210 := by kernel_rfl
 c212 := by kernel_rfl
 c213 := by kernel_rfl
 c232 := by kernel_rfl
 c233 := by kernel_rfl }
end Go.Proofs
namespace Go.Proofs.YtfmjgoeclilcnaaGreatDoor
open Go.RowKit
theorem post_plain {φ : Phi} {w w' : World} {s : St} {r : Value} (hrel : Rel φ (tabOf []) w) (hu : s.upd = []) (hn : s.news = []) (hv : ∀ φ T w, VR φ T w s.v r) (hb : Below w.heap.size w w') : Post φ (tabOf []) w 0 s (.returned r) w' := by
 have hT : newT (tabOf []) 0 s = tabOf [] := newT_pure _ _ _ hu hn
 have no : ∀ b, ¬ Own φ (tabOf []) b := fun b ⟨k, base, h1, _⟩ => by simp [tabOf] at h1
 have old : ∀ b, b < w.heap.size → w'.heap[b]? = w.heap[b]? := fun b hb' => hb.block b hb'
 refine ⟨r, φ, rfl, hv _ _ _, ?_, ?_, fun k hk => .inl hk, fun b hb' _ => old b hb'⟩
 ·rw [hT]
  exact ⟨fun k o h => by simp [tabOf] at h, fun k _ _ _ _ h _ _ _ => by simp [tabOf] at h, fun b h => ⟨Nat.lt_of_lt_of_le (hrel.frd b h).1 hb.size, no b⟩, fun q hq => by
   obtain ⟨-, c, e, f, h2, h3⟩ := hrel.glo q hq
   exact ⟨no _, c, e, f, (old _ (Array.getElem?_eq_some_iff.1 h2).1).trans h2, h3⟩⟩
 ·rw [hT]
  exact ⟨hb.os, hb.tape, hb.output, hb.size, fun _ _ h => h, fun b hb' _ => old b hb', fun b _ h => h, fun b hb' => by unfold sizeAt; rw [old b hb'], fun _ => Iff.rfl⟩
theorem glo0 {φ : Phi} {T : Tab} {w : World} (h : Rel φ T w) : GloOk0 w := fun q hq => (h.glo q hq).2
theorem flat_str : ∀ xs : List ByteArray, xs.flatMap ET.str.cells = xs.map Value.string
 | [] => rfl
 | x :: xs => by rw [List.flatMap_cons, flat_str xs]; rfl
theorem post_texts {φ : Phi} {w : World} {s : St} {xs : List ByteArray} {t : TypeId} (hrel : Rel φ (tabOf []) w) (hφ : ∀ k, φ k = none) (hs : s.upd = [] ∧ s.news = [.arr .str xs] ∧ s.v = .one (.osl .str 0 0 xs.length)) :
  Post φ (tabOf []) w 0 s (.returned (.slice (some ⟨w.heap.size, 0, none⟩) xs.length xs.length)) (w.alloc (.cells (xs.map Value.string).toArray t)) := by
 obtain ⟨h1, h2, h3⟩ := hs
 have hT : newT (tabOf []) 0 s = fun k => if k = 0 then some (Obj.arr .str xs) else none := by
  funext k
  unfold newT
  rw [h1, h2]
  cases k with
  | zero => simp [addT, updT, tabOf]
  | succ k => simp [addT, updT, tabOf]
 have hheap : (w.alloc (.cells (xs.map Value.string).toArray t)).heap = w.heap.push (.cells (xs.map Value.string).toArray t) := rfl
 have old : ∀ b, b < w.heap.size → (w.alloc (.cells (xs.map Value.string).toArray t)).heap[b]? = w.heap[b]? := fun b hb => by
  rw [hheap, Array.getElem?_push, if_neg (by omega)]
 have new : (w.alloc (.cells (xs.map Value.string).toArray t)).heap[w.heap.size]? = some (.cells (xs.map Value.string).toArray t) := by
  rw [hheap, Array.getElem?_push, if_pos rfl]
 have hfl := flat_str xs
 let φ' : Phi := ⟨fun k => if k = 0 then some (w.heap.size, 0) else none, φ.fr⟩
 have own : ∀ b, Own φ' (newT (tabOf []) 0 s) b → b = w.heap.size := by
  rintro b ⟨k, base, -, h⟩
  have h : (if k = 0 then some (w.heap.size, 0) else none) = some (b, base) := h
  split at h
  ·cases h; rfl
  ·cases h
 refine ⟨_, φ', rfl, ?_, ?_, ?_, ?_, fun b hb _ => old b hb⟩
 ·rw [h3]
  simp only [VR, CR]
  refine ⟨some ⟨w.heap.size, 0, none⟩, xs.length, rfl, Nat.le_refl _, ?_, ?_, fun _ => ⟨w.heap.size, 0, rfl, ?_, ?_⟩⟩
  ·intro h; cases h
  ·intro ad h; cases h; rfl
  ·simp
  ·unfold sizeAt
   rw [new]
   simp [ET.sz]
 ·refine ⟨fun k o h => ?_, fun k k' b base base' hk hk' _ _ => ?_, fun b hb => ⟨?_, fun ho => ?_⟩, fun q hq => ?_⟩
  ·rw [hT] at h
   simp only at h
   split at h
   ·rename_i hk
    cases h
    subst hk
    refine .inr ⟨w.heap.size, 0, _, rfl, ⟨_, _, new, fun j _ => by simp⟩, fun i v hi => ?_⟩
    rw [hfl] at hi
    simpa using hi
   ·cases h
  ·rw [hT] at hk hk'
   by_cases e1 : k = 0
   ·by_cases e2 : k' = 0
    ·rw [e1, e2]
    ·simp [e2] at hk'
   ·simp [e1] at hk
  ·have := (hrel.frd b hb).1
   rw [hheap, Array.size_push]; omega
  ·have h4 := own b ho
   have := (hrel.frd b hb).1
   omega
  ·obtain ⟨-, c, e, f, h5, h6⟩ := hrel.glo q hq
   have h7 := (Array.getElem?_eq_some_iff.1 h5).1
   exact ⟨fun ho => by have := own _ ho; omega, c, e, f, (old _ h7).trans h5, h6⟩
 ·exact ⟨rfl, rfl, rfl, by rw [hheap, Array.size_push]; omega, fun k p h => (by rw [hφ k] at h; cases h), fun b hb _ => old b hb, fun b hb ho => (by have := own b ho; omega), fun b hb => (by unfold sizeAt; rw [old b hb]), fun _ => Iff.rfl⟩
 ·intro k hk
  right
  by_cases e : k = 0
  ·subst e
   exact ⟨Nat.le_refl _, by rw [h2]; exact Nat.zero_lt_one⟩
  ·exact absurd (show (if k = 0 then some (w.heap.size, 0) else none) = none from if_neg e) hk
theorem glo_max {w : World} (h : GloOk0 w) : ∃ m, w.cell? ⟨2, 0, none⟩ = some (.int .i64 m) := by
 obtain ⟨c, e, f, h1, m, h2⟩ := h (2, fun c => ∃ m, c[0]? = some (.int .i64 m)) (by simp [gloL])
 exact ⟨m, by unfold World.cell?; simp only [h1]; exact h2⟩
theorem size_one {s : ByteArray} (h : s.size = 1) : s = ⟨#[s.data.getD 0 0]⟩ := by
 apply ByteArray.ext
 apply Array.ext
 ·simpa using h
 ·intro i h1 h2
  have : i = 0 := by simp at h2; omega
  subst this
  simp [Array.getD, h1]
  intro he
  rw [he] at h
  cases h
@[go_sem] def ctSplit : Ct := ⟨false, [], fun args os => match args, os with
  | [.one (.val (.string s)), .one (.val (.string sep))], [] => ⟨s.size < 4294967281 ∧ sep.size = 1, .one (.osl .str 0 0 (splitV (sep.data.getD 0 0) s).length), [], [.arr .str (splitV (sep.data.getD 0 0) s)]⟩
  | _, _ => no⟩
theorem s_split_e : EnterOk Tryz.prog 130 := ⟨_, Tryz.func130, rfl, by decide⟩
theorem s_split : Sound Tryz.prog 130 ctSplit := by
 intro args os hp φ w rargs hrel hv hn
 unfold ctSplit at hp ⊢
 dsimp only at hp ⊢
 split at hp
 ·rename_i s sep
  obtain ⟨hs, h1⟩ : s.size < 4294967281 ∧ sep.size = 1 := hp
  obtain rfl := plainV_R (vals := [.string s, .string sep]) hv
  obtain ⟨m, hm⟩ := glo_max (glo0 hrel)
  refine (Any.strings_Split { Tryz.lays146 with } Tryz.lays146.i9 s sep m w hs hm (by omega)).mono ?_
  rintro e w' ⟨rfl, rfl⟩
  have hsep := size_one h1
  generalize sep.data.getD 0 0 = c at hsep ⊢
  subst hsep
  have e1 := split_lib c s
  have e2 := Lib.splitB_all ⟨#[c]⟩ (by show 1 ≤ 1; omega) 0 _ s rfl
  rw [e1] at e2
  rw [← e2, e1]
  exact post_texts hrel (fun k => hn k (Nat.zero_le _)) ⟨rfl, rfl, rfl⟩
 ·exact hp.elim
@[go_sem] def ctCut : Ct := ⟨false, [], fun args os => match args, os with
  | [.one (.val (.string s)), .one (.val (.string sep))], [] => ifp (s.size < 4294967281 ∧ sep.size = 1) (.tup [vs (cutV (sep.data.getD 0 0) s).1, vs (cutV (sep.data.getD 0 0) s).2.1, vb (cutV (sep.data.getD 0 0) s).2.2])
  | _, _ => no⟩
theorem s_cut_e : EnterOk Tryz.prog 210 := ⟨_, Tryz.func210, rfl, by decide⟩
theorem s_cut : Sound Tryz.prog 210 ctCut := by
 intro args os hp φ w rargs hrel hv hn
 unfold ctCut at hp ⊢
 dsimp only at hp ⊢
 split at hp
 ·rename_i s sep
  obtain ⟨hs, h1⟩ : s.size < 4294967281 ∧ sep.size = 1 := hp
  obtain rfl := plainV_R (vals := [.string s, .string sep]) hv
  obtain ⟨m, hm⟩ := glo_max (glo0 hrel)
  refine (Any.strings_Cut { Tryz.lays145 with } s sep m w hs hm).mono ?_
  rintro e w' ⟨rfl, n, rfl⟩
  have hsep := size_one h1
  generalize sep.data.getD 0 0 = c at hsep ⊢
  subst hsep
  exact post_plain hrel rfl rfl (fun φ T w => by simp only [ifp, VR, VRs, CR, vs, vb]; exact ⟨_, rfl, rfl, rfl, rfl, trivial⟩) ⟨rfl, rfl, rfl, Nat.le_refl _, fun _ _ => rfl⟩
 ·exact hp.elim
@[go_sem] def ctJoin : Ct := ⟨false, [[some .str], []], fun args os => match args, os with
  | [.one (.isl .str xs), .one (.val (.string sep))], [] => ifp (xs.length ≤ 140737488355328 ∧ (joinV sep xs).size ≤ 140737488355328) (vs (joinV sep xs))
  | _, _ => no⟩
theorem s_join_e : EnterOk Tryz.prog 221 := ⟨_, Tryz.func221, rfl, by decide⟩
theorem join_extra : Builder.Extra Tryz.prog Tryz.lays156_ren where
 sizeBuilder := by kernel_rfl
 liesBuilder := by kernel_rfl
 t5 := Tryz.lays146.t5
 a5 := Tryz.lays146.a5
 z5 := Tryz.lays146.z5
 v5 := Tryz.lays146.v5
 infoByte := by kernel_rfl
 cellsByte := by kernel_rfl
 sizeByte := by kernel_rfl
 neB5 := by decide
theorem s_join : Sound Tryz.prog 221 ctJoin := by
 intro args os hp φ w rargs hrel hv hn
 unfold ctJoin at hp ⊢
 dsimp only at hp ⊢
 split at hp
 ·rename_i xs sep
  obtain ⟨h1, h2⟩ : xs.length ≤ 140737488355328 ∧ (joinV sep xs).size ≤ 140737488355328 := hp
  obtain ⟨v0, v1, rfl⟩ : ∃ v0 v1, rargs = [v0, v1] := by
   match rargs, hv with
   | [v0, v1], _ => exact ⟨v0, v1, rfl⟩
   | [], hv => simp [VRs] at hv
   | [_], hv => simp [VRs] at hv
   | _ :: _ :: _ :: _, hv => simp [VRs] at hv
  simp only [VRs, VR, CR] at hv
  obtain ⟨⟨a, cap, rfl, hcap, hnone, hspot, hcells⟩, rfl, -⟩ := hv
  have hlen : (Lib.join (xs.map (·.data.toList)) sep.data.toList).length ≤ 140737488355328 := h2
  have fin : ∀ (e : Ending) (w' : World), e = .returned (.string ⟨(Lib.join (xs.map (·.data.toList)) sep.data.toList).toArray⟩) ∧ Below w.heap.size w w' → Post φ (tabOf []) w 0 (ifp (xs.length ≤ 140737488355328 ∧ (joinV sep xs).size ≤ 140737488355328) (vs (joinV sep xs))) e w' := by
   rintro e w' ⟨rfl, hb⟩
   exact post_plain hrel rfl rfl (fun φ T w => by simp only [ifp, VR, CR, vs]; rfl) hb
  match xs, hcells, fin, h1, hcap, hlen with
  | [], _, fin, _, _, _ =>
    refine (Any.strings_Join_none Tryz.lays156 join_extra a cap sep w).mono fun e w' h => fin _ _ ⟨h.1, ?_⟩
    rw [h.2]; exact Below.refl _ _
  | x :: xs, hcells, fin, h1, hcap, hlen =>
    obtain ⟨b, o, rfl, himm, hat⟩ := hcells (by simp)
    exact (Any.strings_Join Tryz.lays156 join_extra b o cap (x :: xs) sep w (fun j y hy => by
     have hfl := flat_str (x :: xs)
     refine hat j (.string y) ?_
     rw [hfl, List.getElem?_map, hy]; rfl) himm.1 h1 hcap hlen).mono fun e w' h => fin _ _ h
 ·exact hp.elim
def atoiV (s : ByteArray) : Option Int := match Lib.atoiAll s.data.toList with
 | .ok v => some v
 | _ => none
def atoiN (s : ByteArray) : Int := match Lib.atoiAll s.data.toList with
 | .ok v => v
 | .range => Lib.atoiSat s.data.toList
 | _ => 0
@[go_sem] def ctAtoi : Ct := ⟨false, [], fun args os => match args, os with
  | [.one (.val (.string s))], [] => ifp (s.size ≤ 281474976710656) (.tup [vi (atoiN s), match atoiV s with | some _ => .one (.val .nilIface) | none => .one .ifc])
  | _, _ => no⟩
theorem s_atoi_e : EnterOk Tryz.prog 184 := ⟨_, Tryz.func184, rfl, by decide⟩
theorem s_atoi : Sound Tryz.prog 184 ctAtoi := by
 intro args os hp φ w rargs hrel hv hn
 unfold ctAtoi at hp ⊢
 dsimp only at hp ⊢
 split at hp
 ·rename_i s
  have hs : s.size ≤ 281474976710656 := hp
  obtain rfl := plainV_R (vals := [.string s]) hv
  have hg := glo0 hrel
  have err : ∀ n, n ∈ gloL → True := fun _ _ => trivial
  have var : ∀ (nm : String) (g : Nat), Tryz.prog.globalNamed nm = some g → (∃ c e f, w.heap[g]? = some (.cells c e f) ∧ ∃ t p, c = #[.iface t p]) → ∃ t p, w.var? Tryz.prog nm = some #[.iface t p] := by
   rintro nm g h1 ⟨c, e, f, h2, t, p, rfl⟩
   refine ⟨t, p, ?_⟩
   unfold World.var?
   rw [h1]
   simp only [Option.bind_some, h2]
  have fin : ∀ (e : Ending) (w' : World) (r : Value), e = .returned r → (∀ φ T w, VR φ T w (ifp (s.size ≤ 281474976710656) (.tup [vi (atoiN s), match atoiV s with | some _ => .one (.val .nilIface) | none => .one .ifc])).v r) → Below w.heap.size w w' → Post φ (tabOf []) w 0 (ifp (s.size ≤ 281474976710656) (.tup [vi (atoiN s), match atoiV s with | some _ => .one (.val .nilIface) | none => .one .ifc])) e w' := by
   rintro e w' r rfl h2 h3
   exact post_plain hrel rfl rfl h2 h3
  cases ha : Lib.atoiAll s.data.toList
  ·rename_i v
   have e1 : atoiV s = some v := by unfold atoiV; rw [ha]
   have e2 : atoiN s = v := by unfold atoiN; rw [ha]
   refine (Any.strconv_Atoi_ok Tryz.lays172 s (by omega) v ha w).mono ?_
   rintro e w' ⟨he, hw⟩
   refine fin _ _ _ he (fun φ T w => ?_) ?_
   ·simp only [ifp, e1, e2, VR, VRs, CR, vi]
    exact ⟨_, rfl, rfl, rfl, trivial⟩
   ·rcases hw with rfl | ⟨t, rfl⟩
    ·exact Below.refl _ _
    ·exact Lib.bytesWorld_below _ _ _
  ·have e1 : atoiV s = none := by unfold atoiV; rw [ha]
   have e2 : atoiN s = 0 := by unfold atoiN; rw [ha]
   obtain ⟨t, p, hvar⟩ := var "strconv.ErrSyntax" _ (by kernel_rfl) (hg (0, fun c => ∃ t p, c = #[.iface t p]) (by simp [gloL]))
   refine (Any.strconv_Atoi_syntax_var Tryz.lays172 s hs ha t p w hvar).mono ?_
   rintro e w' ⟨N, he, -, -, hb⟩
   refine fin _ _ _ he (fun φ T w => ?_) hb
   simp only [ifp, e1, e2, VR, VRs, CR, vi]
   exact ⟨_, rfl, rfl, ⟨_, _, rfl⟩, trivial⟩
  ·have e1 : atoiV s = none := by unfold atoiV; rw [ha]
   have e2 : atoiN s = Lib.atoiSat s.data.toList := by unfold atoiN; rw [ha]
   obtain ⟨t, p, hvar⟩ := var "strconv.ErrRange" _ (by kernel_rfl) (hg (1, fun c => ∃ t p, c = #[.iface t p]) (by simp [gloL]))
   refine (Any.strconv_Atoi_range_var Tryz.lays172 s hs ha t p w hvar).mono ?_
   rintro e w' ⟨N, he, -, -, hb⟩
   refine fin _ _ _ he (fun φ T w => ?_) hb
   simp only [ifp, e1, e2, VR, VRs, CR, vi]
   exact ⟨_, rfl, rfl, ⟨_, _, rfl⟩, trivial⟩
 ·exact hp.elim
end Go.Proofs.YtfmjgoeclilcnaaGreatDoor
namespace Go.Proofs.YtfmjgoeclilcnaaGreatDoor
open Go.RowKit
theorem decS_list (n : Int) : (decS n).data.toList = Lib.itoa n := by simp [decS]
theorem itoa_not {c : UInt8} (h1 : c.toNat ≠ 45) (h2 : c.toNat < 48 ∨ 57 < c.toNat) (n : Int) : c ∉ (decS n).data.toList := by
 rw [decS_list]
 have h3 : ∀ u, c ∉ Lib.decDigits u := fun u hm => by
  have := decD_dig u c hm
  unfold isDig at this; omega
 unfold Lib.itoa
 split
 ·rw [List.mem_cons, not_or]
  exact ⟨fun e => by subst e; exact h1 rfl, h3 _⟩
 ·exact h3 _
theorem no_dot (n : Int) : (46 : UInt8) ∉ (decS n).data.toList := itoa_not (by decide) (by decide) n
theorem no_blank (n : Int) : (32 : UInt8) ∉ (decS n).data.toList := itoa_not (by decide) (by decide) n
theorem no_colon (n : Int) : (58 : UInt8) ∉ (decS n).data.toList := itoa_not (by decide) (by decide) n
theorem decS_inj {n m : Int} (h : decS n = decS m) : n = m := by
 have h := congrArg (fun s : ByteArray => s.data.toList) h
 simp only [decS_list] at h
 have hd : ∀ u v, (45 : UInt8) :: Lib.decDigits u ≠ Lib.decDigits v := fun u v e => by
  have := decD_dig v 45 (by rw [← e]; simp)
  revert this; decide
 unfold Lib.itoa at h
 split at h <;> split at h
 ·injection h with _ h; have := decD_inj h; omega
 ·exact absurd h (hd _ _)
 ·exact absurd h.symm (hd _ _)
 ·have := decD_inj h; omega
theorem atoi_dig {u : Nat} (h : u < 10 ^ 17) : Lib.atoiAll (Lib.decDigits u) = .ok (u : Int) := by
 have hl := decD_len 16 u h
 have h1 : Lib.parseMag (Lib.decDigits u) = .ok u := by
  rw [Lib.parseMag_short _ (by omega)]
  unfold Lib.decNat
  rw [if_neg (by simpa using decD_ne u), decFrom_decD]; rfl
 cases hd : Lib.decDigits u with
 | nil => exact absurd hd (decD_ne u)
 | cons c r =>
   have hc := decD_dig u c (by rw [hd]; simp)
   unfold isDig at hc
   unfold Lib.atoiAll
   simp only
   rw [if_neg (by omega), ← hd, h1]
   simp only
   rw [if_neg (by omega), if_neg (by omega), if_neg (by omega)]
theorem atoi_dec {n : Int} (h0 : 0 ≤ n) (h1 : n < 10 ^ 17) : atoiV (decS n) = some n ∧ atoiN (decS n) = n := by
 obtain ⟨u, rfl⟩ := Int.eq_ofNat_of_zero_le h0
 have h := atoi_dig (u := u) (by omega)
 have e : Lib.itoa (u : Int) = Lib.decDigits u := by
  unfold Lib.itoa
  rw [if_neg (by omega), Int.toNat_natCast]
 unfold atoiV atoiN
 rw [decS_list, e, h]
 exact ⟨rfl, rfl⟩
theorem atoiV_in {s : ByteArray} {n : Int} (h : atoiV s = some n) : atoiN s = n ∧ -9223372036854775808 ≤ n ∧ n ≤ 9223372036854775807 := by
 unfold atoiV at h
 unfold atoiN
 cases ha : Lib.atoiAll s.data.toList
 ·rw [ha] at h
  cases h
  have := Lib.atoiAll_bounds ha
  exact ⟨rfl, this.1, this.2⟩
 ·rw [ha] at h; cases h
 ·rw [ha] at h; cases h
def pointsV (zs : List Int) : ByteArray := joinV ⟨#[46]⟩ (zs.map decS)
theorem joinL_len (s : Bs) (k : Nat) : ∀ xs : List Bs, (∀ x ∈ xs, x.length ≤ k) → (joinL s xs).length ≤ xs.length * (k + s.length)
 | [], _ => by simp [joinL]
 | [x], h => by
   have := h x (by simp)
   show x.length ≤ _
   simp; omega
 | x :: y :: r, h => by
   have h1 := h x (by simp)
   have h2 := joinL_len s k (y :: r) fun z hz => h z (List.mem_cons_of_mem _ hz)
   show (x ++ s ++ joinL s (y :: r)).length ≤ _
   rw [List.length_append, List.length_append, List.length_cons (a := x), Nat.succ_mul]
   omega
theorem joinV_size {sep : ByteArray} {k : Nat} {xs : List ByteArray} (h : ∀ x ∈ xs, x.size ≤ k) : (joinV sep xs).size ≤ xs.length * (k + sep.size) := by
 have h1 := joinL_len sep.data.toList k (xs.map (·.data.toList)) fun x hx => by
  obtain ⟨y, hy, rfl⟩ := List.mem_map.1 hx
  exact h y hy
 rw [List.length_map] at h1
 show (Lib.join _ _).toArray.size ≤ _
 rw [List.size_toArray, lib_join]
 exact h1
theorem pointsV_size {zs : List Int} (h : ∀ z ∈ zs, -9223372036854775808 ≤ z ∧ z ≤ 9223372036854775807) : (pointsV zs).size ≤ zs.length * 21 := by
 have := joinV_size (sep := ⟨#[46]⟩) (k := 20) (xs := zs.map decS) fun x hx => by
  obtain ⟨z, hz, rfl⟩ := List.mem_map.1 hx
  exact decS_size (h z hz).1 (h z hz).2
 rwa [List.length_map] at this
theorem pointsV_split {zs : List Int} (h : zs ≠ []) : splitV 46 (pointsV zs) = zs.map decS :=
 splitV_join (by simpa using h) fun w hw => by
  obtain ⟨z, -, rfl⟩ := List.mem_map.1 hw
  exact no_dot z
theorem pointsV_three (a b c : Int) : pointsV [a, b, c] = decS a ++ ⟨#[46]⟩ ++ decS b ++ ⟨#[46]⟩ ++ decS c := joinV_three 46 _ _ _
def ptrT (p : Ptr) : ByteArray := if ptrOkB p = true then (if p.at_ = 0 then ⟨#[45]⟩ else pointsV [p.at_, p.sum, p.birth]) else ⟨#[]⟩
theorem ptrOk_cases {p : Ptr} (h : ptrOkB p = true) : p = ⟨0, 0, 0⟩ ∨ (1 ≤ p.at_ ∧ p.at_ ≤ 119 ∧ 0 ≤ p.sum ∧ p.sum ≤ 65520 ∧ 0 ≤ p.birth ∧ p.birth ≤ 1000000) := by
 unfold ptrOkB at h
 simp only [Bool.or_eq_true, Bool.and_eq_true, decide_eq_true_eq] at h
 rcases h with h | h
 ·left; cases p; simp only at h; simp [h]
 ·right; omega
theorem ptrOk_real {p : Ptr} (h : realB p = true) : ptrOkB p = true ∧ p.at_ ≠ 0 ∧ ptrT p = pointsV [p.at_, p.sum, p.birth] := by
 unfold realB at h
 rw [Bool.and_eq_true] at h
 have h2 : p.at_ ≠ 0 := by simpa using h.2
 exact ⟨h.1, h2, by unfold ptrT; rw [if_pos h.1, if_neg h2]⟩
theorem ptrT_size (p : Ptr) : (ptrT p).size ≤ 63 := by
 unfold ptrT
 split
 ·rename_i h
  split
  ·show 1 ≤ 63; omega
  ·have hc := ptrOk_cases h
   have := pointsV_size (zs := [p.at_, p.sum, p.birth]) fun z hz => by
    simp only [List.mem_cons, List.not_mem_nil, or_false] at hz
    rcases hc with rfl | hc
    ·simp only at hz; omega
    ·omega
   simpa using this
 ·exact Nat.zero_le _
theorem ptrT_inj {p q : Ptr} (hp : ptrOkB p = true) (hq : ptrOkB q = true) (h : ptrT p = ptrT q) : p = q := by
 have hs : ∀ r : Ptr, ptrOkB r = true → r.at_ ≠ 0 → splitV 46 (ptrT r) = [decS r.at_, decS r.sum, decS r.birth] := fun r h1 h2 => by
  unfold ptrT
  rw [if_pos h1, if_neg h2, pointsV_split (by simp)]; rfl
 have hz : ∀ r : Ptr, ptrOkB r = true → r.at_ = 0 → r = ⟨0, 0, 0⟩ ∧ splitV 46 (ptrT r) = [⟨#[45]⟩] := fun r h1 h2 => by
  rcases ptrOk_cases h1 with rfl | h3
  ·exact ⟨rfl, by unfold ptrT; rw [if_pos h1, if_pos rfl]; decide⟩
  ·omega
 by_cases h1 : p.at_ = 0 <;> by_cases h2 : q.at_ = 0
 ·rw [(hz p hp h1).1, (hz q hq h2).1]
 ·have h3 := (hz p hp h1).2
  rw [h, hs q hq h2] at h3
  simp at h3
 ·have h3 := (hz q hq h2).2
  rw [← h, hs p hp h1] at h3
  simp at h3
 ·have h3 := hs p hp h1
  rw [h, hs q hq h2] at h3
  simp only [List.cons.injEq, and_true] at h3
  obtain ⟨e1, e2, e3⟩ := h3
  cases p; cases q
  simp only at e1 e2 e3
  rw [decS_inj e1, decS_inj e2, decS_inj e3]
noncomputable def ptrReadV (t : ByteArray) : Option Ptr := open Classical in if h : ∃ p, ptrOkB p = true ∧ ptrT p = t then some (Classical.choose h) else none
theorem ptrRead_some {t : ByteArray} {p : Ptr} : ptrReadV t = some p ↔ ptrOkB p = true ∧ ptrT p = t := by
 unfold ptrReadV
 constructor
 ·intro h
  split at h
  ·rename_i hx
   cases h
   exact Classical.choose_spec hx
  ·cases h
 ·rintro ⟨h1, h2⟩
  have hx : ∃ p, ptrOkB p = true ∧ ptrT p = t := ⟨p, h1, h2⟩
  rw [dif_pos hx]
  have h3 := Classical.choose_spec hx
  rw [ptrT_inj h3.1 h1 (h3.2.trans h2.symm)]
theorem ptrRead_none {t : ByteArray} (h : ∀ p, ptrOkB p = true → ptrT p = t → False) : ptrReadV t = none := by
 unfold ptrReadV
 rw [dif_neg fun ⟨p, h1, h2⟩ => h p h1 h2]
theorem ptrRead_dash : ptrReadV ⟨#[45]⟩ = some ⟨0, 0, 0⟩ := ptrRead_some.2 ⟨by decide, by unfold ptrT; rw [if_pos (by decide), if_pos rfl]⟩
def thr (t : ByteArray) : Option (Int × Int × Int) := match splitV 46 t with
 | [x, y, z] => (match atoiV x, atoiV y, atoiV z with
   | some a, some b, some c => some (a, b, c)
   | _, _, _ => none)
 | _ => none
theorem thr_read {t : ByteArray} (h : t ≠ ⟨#[45]⟩) : ptrReadV t = (match thr t with
 | some (a, b, c) => if pointsV [a, b, c] = t ∧ realB ⟨a, b, c⟩ = true then some ⟨a, b, c⟩ else none
 | none => none) := by
 have hk : ∀ p, ptrOkB p = true → ptrT p = t → thr t = some (p.at_, p.sum, p.birth) ∧ pointsV [p.at_, p.sum, p.birth] = t ∧ realB p = true := by
  intro p h1 h2
  have h3 : p.at_ ≠ 0 := fun h3 => h (by rw [← h2]; unfold ptrT; rw [if_pos h1, if_pos h3])
  have h4 : pointsV [p.at_, p.sum, p.birth] = t := by rw [← h2]; unfold ptrT; rw [if_pos h1, if_neg h3]
  refine ⟨?_, h4, by unfold realB; rw [h1]; simpa using h3⟩
  rcases ptrOk_cases h1 with rfl | hc
  ·exact absurd rfl h3
  ·unfold thr
   rw [← h4, pointsV_split (by simp)]
   simp only [List.map_cons, List.map_nil]
   rw [(atoi_dec (n := p.at_) (by omega) (by omega)).1, (atoi_dec (n := p.sum) (by omega) (by omega)).1, (atoi_dec (n := p.birth) (by omega) (by omega)).1]
 cases hr : ptrReadV t with
 | some p =>
   obtain ⟨h1, h2⟩ := ptrRead_some.1 hr
   obtain ⟨h3, h4, h5⟩ := hk p h1 h2
   rw [h3]
   simp only
   rw [if_pos ⟨h4, h5⟩]
 | none =>
   cases ht : thr t with
   | none => rfl
   | some x =>
     obtain ⟨a, b, c⟩ := x
     simp only
     rw [if_neg]
     rintro ⟨h1, h2⟩
     obtain ⟨h3, h4, h5⟩ := ptrOk_real h2
     have := ptrRead_some.2 ⟨h3, h5.trans h1⟩
     rw [hr] at this
     cases this
end Go.Proofs.YtfmjgoeclilcnaaGreatDoor
namespace Go.Proofs.YtfmjgoeclilcnaaGreatDoor
open Go.RowKit
theorem decS_fine {n : Int} (h0 : 0 ≤ n) (k : Nat) (h : n < 10 ^ (k + 1)) : (decS n).size ≤ k + 1 := by
 obtain ⟨u, rfl⟩ := Int.eq_ofNat_of_zero_le h0
 rw [decS_nat]
 refine decB_size k u ?_
 have : ((u : Nat) : Int) < ((10 ^ (k + 1) : Nat) : Int) := by rw [Int.natCast_pow]; exact h
 omega
theorem three_size {a b c : Int} {i j k : Nat} (h0 : 0 ≤ a) (h1 : 0 ≤ b) (h2 : 0 ≤ c) (ha : a < 10 ^ (i + 1)) (hb : b < 10 ^ (j + 1)) (hc : c < 10 ^ (k + 1)) : (pointsV [a, b, c]).size ≤ i + j + k + 5 := by
 have x := decS_fine h0 i ha
 have y := decS_fine h1 j hb
 have z := decS_fine h2 k hc
 have d : (⟨#[46]⟩ : ByteArray).size = 1 := rfl
 rw [pointsV_three, ByteArray.size_append, ByteArray.size_append, ByteArray.size_append, ByteArray.size_append, d]
 omega
theorem ptrT_fine (p : Ptr) : (ptrT p).size ≤ 17 := by
 unfold ptrT
 split
 ·rename_i h
  split
  ·show 1 ≤ 17; omega
  ·rename_i h0
   rcases ptrOk_cases h with rfl | ⟨h1, h2, h3, h4, h5, h6⟩
   ·exact absurd rfl h0
   ·exact three_size (i := 2) (j := 4) (k := 6) (by omega) h3 h5 (by omega) (by omega) (by omega)
 ·exact Nat.zero_le _
theorem joinL_snoc (s : Bs) : ∀ (xs : List Bs) (y : Bs), xs ≠ [] → joinL s (xs ++ [y]) = joinL s xs ++ s ++ y
 | [], y, h => absurd rfl h
 | [x], y, _ => by rw [List.singleton_append, joinL_cons _ _ (by simp)]; rfl
 | x :: z :: r, y, _ => by
   rw [List.cons_append, joinL_cons _ _ (by simp), joinL_snoc s (z :: r) y (by simp), joinL_cons s x (by simp : z :: r ≠ [])]
   simp [List.append_assoc]
theorem joinV_nil (sep : ByteArray) : joinV sep [] = ⟨#[]⟩ := by unfold joinV; rw [List.map_nil, lib_join]; rfl
theorem joinV_one (sep x : ByteArray) : joinV sep [x] = x := by
 unfold joinV; rw [List.map_cons, List.map_nil, lib_join]; exact bytesL_data x
theorem joinV_snoc (sep : ByteArray) (xs : List ByteArray) (y : ByteArray) (h : xs ≠ []) : joinV sep (xs ++ [y]) = joinV sep xs ++ sep ++ y := by
 unfold joinV
 rw [lib_join, lib_join, List.map_append, List.map_cons, List.map_nil, joinL_snoc _ _ _ (by simpa using h)]
 apply ByteArray.ext
 simp [bytesL]
noncomputable def mapT (m : Eight Ptr) : ByteArray := if m.list.any badPtr = true then ⟨#[]⟩ else joinV ⟨#[32]⟩ (m.list.map ptrT)
theorem mapT_size (m : Eight Ptr) : (mapT m).size ≤ 144 := by
 unfold mapT
 split
 ·exact Nat.zero_le _
 ·have := joinV_size (sep := ⟨#[32]⟩) (k := 17) (xs := m.list.map ptrT) fun x hx => by
   obtain ⟨z, -, rfl⟩ := List.mem_map.1 hx
   exact ptrT_fine z
  have e : (m.list.map ptrT).length = 8 := by rw [List.length_map]; rfl
  have e2 : (⟨#[32]⟩ : ByteArray).size = 1 := rfl
  rw [e, e2] at this
  exact this
def entT (e : Ent) : ByteArray := pointsV [e.sum, e.at_, e.count]
noncomputable def ddtT (es : List Ent) : ByteArray := if ddtB es = true then joinV ⟨#[32]⟩ (es.map entT) else ⟨#[]⟩
theorem ddtP_ent {es : List Ent} (h : ddtB es = true) {e : Ent} (he : e ∈ es) : entB e = true := by
 obtain ⟨i, hi, rfl⟩ := List.getElem_of_mem he
 have h := (ddtB_true.1 h).each i hi
 have h := h.ent
 rwa [show es.getD i ET.ent.dflt = es[i] by simp [hi]] at h
theorem entT_size {e : Ent} (h : entB e = true) : (entT e).size ≤ 14 := by
 obtain ⟨⟨h1, h2⟩, ⟨h3, h4⟩, h5, h6⟩ := entB_true h
 exact three_size (i := 4) (j := 2) (k := 3) h1 (by omega) (by omega) (by omega) (by omega) (by omega)
theorem ddtT_size {es : List Ent} (h : es.length ≤ 48) : (ddtT es).size ≤ es.length * 15 := by
 unfold ddtT
 split
 ·rename_i hd
  have := joinV_size (sep := ⟨#[32]⟩) (k := 14) (xs := es.map entT) fun x hx => by
   obtain ⟨z, hz, rfl⟩ := List.mem_map.1 hx
   exact entT_size (ddtP_ent hd hz)
  have e2 : (⟨#[32]⟩ : ByteArray).size = 1 := rfl
  rw [List.length_map, e2] at this
  exact this
 ·exact Nat.zero_le _
noncomputable def fromT (s : ByteArray) : ByteArray := if same s ⟨#[]⟩ = true then ⟨#[45]⟩ else s
noncomputable def setL (s : CSet) : ByteArray := ⟨#[10]⟩ ++ s.name ++ ⟨#[32]⟩ ++ decS s.kind ++ ⟨#[32]⟩ ++ fromT s.from_ ++ ⟨#[32]⟩ ++ ptrT s.home
def partL (p : Ptr) : ByteArray := ⟨#[10, 46, 32]⟩ ++ ptrT p
def root0 : ByteArray := ⟨#[114, 111, 111, 116]⟩
noncomputable def rootS (cs : List CSet) : ByteArray := cs.foldl (fun o s => o ++ setL s) root0
noncomputable def rootPs (o : ByteArray) (ps : List Ptr) : ByteArray := ps.foldl (fun o p => o ++ partL p) o
noncomputable def rootT (cs : List CSet) (ps : List Ptr) : ByteArray := if cs.any csetBad = true then ⟨#[]⟩ else if ps.any partBad = true then ⟨#[]⟩ else rootPs (rootS cs) ps
theorem csetB_parts {s : CSet} (h : csetB s = true) : nameB s.name = true ∧ (s.from_ = ⟨#[]⟩ ∨ nameB s.from_ = true) ∧ (s.kind = 1 ∨ s.kind = 2) ∧ ptrOkB s.home = true ∧ s.map.list.any badPtr = false := by
 unfold csetB at h
 simp only [Bool.and_eq_true, Bool.or_eq_true, decide_eq_true_eq, same_true, Bool.not_eq_true'] at h
 exact ⟨h.1.1.1.1, h.1.1.1.2, h.1.1.2, h.1.2, h.2⟩
theorem nameB_size {s : ByteArray} (h : nameB s = true) : 1 ≤ s.size ∧ s.size ≤ 6 := by
 unfold nameB at h
 simp only [Bool.and_eq_true, decide_eq_true_eq] at h
 exact h.1
theorem setL_size {s : CSet} (h : csetB s = true) : (setL s).size ≤ 40 := by
 obtain ⟨h1, h2, h3, h4, -⟩ := csetB_parts h
 have a := (nameB_size h1).2
 have b : (fromT s.from_).size ≤ 6 := by
  unfold fromT
  split
  ·show 1 ≤ 6; omega
  ·rename_i hx
   rcases h2 with h2 | h2
   ·exact absurd (same_true.2 h2) hx
   ·exact (nameB_size h2).2
 have c := decS_fine (n := s.kind) (by omega) 0 (by omega)
 have d := ptrT_fine s.home
 have e1 : (⟨#[10]⟩ : ByteArray).size = 1 := rfl
 have e2 : (⟨#[32]⟩ : ByteArray).size = 1 := rfl
 unfold setL
 simp only [ByteArray.size_append, e1, e2]
 omega
theorem partL_size (p : Ptr) : (partL p).size ≤ 20 := by
 have d := ptrT_fine p
 have e1 : (⟨#[10, 46, 32]⟩ : ByteArray).size = 3 := rfl
 unfold partL
 rw [ByteArray.size_append, e1]; omega
theorem rootS_snoc (cs : List CSet) (s : CSet) : rootS (cs ++ [s]) = rootS cs ++ setL s := by unfold rootS; rw [List.foldl_append]; rfl
theorem rootPs_snoc (o : ByteArray) (ps : List Ptr) (p : Ptr) : rootPs o (ps ++ [p]) = rootPs o ps ++ partL p := by unfold rootPs; rw [List.foldl_append]; rfl
theorem rootS_size (cs : List CSet) (h : ∀ s ∈ cs, csetB s = true) : (rootS cs).size ≤ 4 + cs.length * 40 := by
 suffices h2 : ∀ (cs : List CSet) (o : ByteArray), (∀ s ∈ cs, csetB s = true) → (cs.foldl (fun o s => o ++ setL s) o).size ≤ o.size + cs.length * 40 from h2 cs root0 h
 intro cs
 induction cs with
 | nil => intro o _; simp
 | cons s r ih =>
   intro o h
   have h1 := ih (o ++ setL s) fun s hs => h s (List.mem_cons_of_mem _ hs)
   have h2 := setL_size (h s (List.mem_cons_self ..))
   rw [ByteArray.size_append] at h1
   rw [List.foldl_cons, List.length_cons, Nat.succ_mul]
   omega
theorem rootPs_size (ps : List Ptr) : ∀ o : ByteArray, (rootPs o ps).size ≤ o.size + ps.length * 20 := by
 induction ps with
 | nil => intro o; simp [rootPs]
 | cons p r ih =>
   intro o
   have h1 := ih (o ++ partL p)
   have h2 := partL_size p
   rw [ByteArray.size_append] at h1
   show (rootPs (o ++ partL p) r).size ≤ _
   rw [List.length_cons, Nat.succ_mul]
   omega
end Go.Proofs.YtfmjgoeclilcnaaGreatDoor
namespace Go.Proofs.YtfmjgoeclilcnaaGreatDoor
open Go.RowKit
@[go_sem] def ctPoints : Ct := ⟨false, [[some .int]], fun args os => match args, os with
  | [.one (.isl .int zs)], [] => ifp (zs.length ≤ 1000 ∧ ∀ i : Nat, -9223372036854775808 ≤ zs.getD i ET.int.dflt ∧ zs.getD i ET.int.dflt ≤ 9223372036854775807) (vs (pointsV zs))
  | _, _ => no⟩
theorem s_points_e : EnterOk Tryz.prog 196 := ⟨_, Tryz.func196, rfl, by decide⟩
@[go_sem] def s_points_lv : List (List Nat) := [[0], [0, 3], [3, 6, 7, 8], [3, 6, 7, 8, 9], [3, 5, 6, 7, 8], [3, 6, 7, 8], [3, 6, 7, 8], [2]]
@[go_sem] noncomputable def s_points_K : Known := ((Known.nil).cons 194 ctItoa s_itoa s_itoa_e).cons 221 ctJoin s_join s_join_e
set_option maxHeartbeats 8000000 in
theorem s_points : Sound Tryz.prog 196 ctPoints := by
 have ke := s_points_K.env []
 have kl : Lives s_points_lv := trivial
 refine sound_intro (E := ⟨ti, s_points_K.Γ, []⟩) ke Tryz.func196 Tryz.ntmps196 rfl (rs := [.tmp 2]) rfl ?_
 intro args os hp
 unfold ctPoints at hp ⊢
 dsimp only at hp ⊢
 split at hp
 ·rename_i zs
  obtain ⟨hlen, hin⟩ : zs.length ≤ 1000 ∧ ∀ i : Nat, -9223372036854775808 ≤ zs.getD i ET.int.dflt ∧ zs.getD i ET.int.dflt ≤ 9223372036854775807 := hp
  refine ⟨by simp, fun φ0 w0 => ?_⟩
  refine goh trivial ?_
  refine W_for zs.length (fun i => True) (fun i => ⟨[(3, .one (.osl .str 0 0 i)), (6, .one (.isl .int zs)), (7, vi zs.length), (8, vi i)], [some (.arr .str ((zs.take i).map decS))], []⟩) [none] (leh trivial) trivial fun i hi _ => ?_
  have hl : ((zs.take i).map decS).length = i := by rw [List.length_map, List.length_take]; omega
  refine goh trivial ?_
  refine W_cnd ?_ ?_ <;> (try simp only [cnd_r]) <;> intro hlt
  ·have hin2 := hin i
   have hs : (zs.take (i + 1)).map decS = (zs.take i).map decS ++ [decS (zs.getD i ET.int.dflt)] := by
    have e : zs.getD i ET.int.dflt = zs[i] := by simp [show i < zs.length by omega]
    rw [e, List.take_add_one, List.getElem?_eq_getElem (by omega), List.map_append]; rfl
   have ht3 : ((zs.take i).map decS).take i = (zs.take i).map decS := List.take_of_length_le (by omega)
   refine goh (And.intro hl (And.intro hin2 ht3)) ?_
   exact ⟨[some 2], by omega, leh (And.intro hs hl), trivial⟩
  ·obtain rfl : i = zs.length := by omega
   have ht : zs.take zs.length = zs := List.take_length
   rw [ht] at hl ⊢
   have e : pointsV zs = joinV ⟨#[46]⟩ (zs.map decS) := rfl
   have hz := pointsV_size (zs := zs) fun z hz => by
    obtain ⟨j, hj, rfl⟩ := List.getElem_of_mem hz
    have := hin j
    rwa [show zs.getD j ET.int.dflt = zs[j] by simp [hj]] at this
   rw [e] at hz
   have hj : (zs.map decS).length ≤ 140737488355328 ∧ (joinV ⟨#[46]⟩ (zs.map decS)).size ≤ 140737488355328 := ⟨by omega, by omega⟩
   have ht2 : (zs.map decS).take zs.length = zs.map decS := List.take_of_length_le (by omega)
   refine goh (And.intro hl (And.intro hj ht2)) ?_
   exact finh [] e
 ·simp [no, ifp] at hp
@[go_sem] def ctPtrText : Ct := ⟨false, [], fun args os => match args, os with
  | [.agg [.val (.int .i64 a), .val (.int .i64 s), .val (.int .i64 b)]], [] => is (vs (ptrT ⟨a, s, b⟩))
  | _, _ => no⟩
theorem three_in {a s b : Int} (h : ptrOkB ⟨a, s, b⟩ = true) (i : Nat) : -9223372036854775808 ≤ [a, s, b].getD i ET.int.dflt ∧ [a, s, b].getD i ET.int.dflt ≤ 9223372036854775807 := by
 have hd : ET.int.dflt = (0 : Int) := rfl
 rcases ptrOk_cases h with h | h
 ·cases h
  match i with
  | 0 => simp
  | 1 => simp
  | 2 => simp
  | i + 3 => simp [hd]
 ·simp only at h
  match i with
  | 0 => simp; omega
  | 1 => simp; omega
  | 2 => simp; omega
  | i + 3 => simp [hd]
theorem s_ptrText_e : EnterOk Tryz.prog 195 := ⟨_, Tryz.func195, rfl, by decide⟩
@[go_sem] def s_ptrText_lv : List (List Nat) := [[1], [1, 3], [2], [1, 7], [2], [2]]
@[go_sem] noncomputable def s_ptrText_K : Known := ((Known.nil).cons 165 ctPtrOk s_ptrOk s_ptrOk_e).cons 196 ctPoints s_points s_points_e
set_option maxHeartbeats 8000000 in
theorem s_ptrText : Sound Tryz.prog 195 ctPtrText := by
 have ke := s_ptrText_K.env []
 have kl : Lives s_ptrText_lv := trivial
 refine sound_intro (E := ⟨ti, s_ptrText_K.Γ, []⟩) ke Tryz.func195 Tryz.ntmps195 rfl (rs := [.tmp 2]) rfl ?_
 intro args os hp
 unfold ctPtrText at hp ⊢
 dsimp only at hp ⊢
 split at hp
 ·rename_i a s b
  refine ⟨by simp, fun φ0 w0 => ?_⟩
  clear hp
  have nt : (!true) = false := rfl
  have nf : (!false) = true := rfl
  cases hk : ptrOkB ⟨a, s, b⟩ with
  | false =>
    have e : ptrT ⟨a, s, b⟩ = ⟨#[]⟩ := by unfold ptrT; rw [if_neg (by rw [hk]; decide)]
    refine goh (And.intro hk nf) ?_
    refine W_cnd ?_ ?_ <;> intro hlit <;> try (cases hlit; done)
    refine goh trivial ?_
    exact finh [] e
  | true =>
    refine goh (And.intro hk nt) ?_
    refine W_cnd ?_ ?_ <;> intro hlit <;> try (cases hlit; done)
    refine goh trivial ?_
    refine W_cnd ?_ ?_ <;> (try simp only [cnd_r]) <;> intro h0
    ·have e : ptrT ⟨a, s, b⟩ = ⟨#[45]⟩ := by unfold ptrT; rw [if_pos hk, if_pos h0]
     refine goh trivial ?_
     exact finh [] e
    ·simp only [beq_eq_false_iff_ne, ne_eq] at h0
     have e : ptrT ⟨a, s, b⟩ = pointsV [a, s, b] := by unfold ptrT; rw [if_pos hk, if_neg h0]
     have hin := three_in hk
     refine goh hin ?_
     exact finh [] e
 ·exact hp.elim
theorem s_specPtrText_e : EnterOk Tryz.prog 174 := ⟨_, Tryz.func174, rfl, by decide⟩
@[go_sem] def s_specPtrText_lv : List (List Nat) := [[1], [1, 5], [2], [1, 8], [2], [2]]
@[go_sem] noncomputable def s_specPtrText_K : Known := ((Known.nil).cons 87 ctPtrOk s_specPtrOk s_specPtrOk_e).cons 172 ctDecV s_dec2 s_dec2_e
set_option maxHeartbeats 8000000 in
theorem s_specPtrText : Sound Tryz.prog 174 ctPtrText := by
 have ke := s_specPtrText_K.env []
 have kl : Lives s_specPtrText_lv := trivial
 refine sound_intro (E := ⟨ti, s_specPtrText_K.Γ, []⟩) ke Tryz.func174 Tryz.ntmps174 rfl (rs := [.tmp 2]) rfl ?_
 intro args os hp
 unfold ctPtrText at hp ⊢
 dsimp only at hp ⊢
 split at hp
 ·rename_i a s b
  refine ⟨by simp, fun φ0 w0 => ?_⟩
  clear hp
  have nt : (!true) = false := rfl
  have nf : (!false) = true := rfl
  cases hk : ptrOkB ⟨a, s, b⟩ with
  | false =>
    have e : ptrT ⟨a, s, b⟩ = ⟨#[]⟩ := by unfold ptrT; rw [if_neg (by rw [hk]; decide)]
    refine goh (And.intro hk nf) ?_
    refine W_cnd ?_ ?_ <;> intro hlit <;> try (cases hlit; done)
    refine goh trivial ?_
    exact finh [] e
  | true =>
    refine goh (And.intro hk nt) ?_
    refine W_cnd ?_ ?_ <;> intro hlit <;> try (cases hlit; done)
    refine goh trivial ?_
    refine W_cnd ?_ ?_ <;> (try simp only [cnd_r]) <;> intro h0
    ·have e : ptrT ⟨a, s, b⟩ = ⟨#[45]⟩ := by unfold ptrT; rw [if_pos hk, if_pos h0]
     refine goh trivial ?_
     exact finh [] e
    ·simp only [beq_eq_false_iff_ne, ne_eq] at h0
     have e : ptrT ⟨a, s, b⟩ = decS a ++ ⟨#[46]⟩ ++ decS s ++ ⟨#[46]⟩ ++ decS b := by unfold ptrT; rw [if_pos hk, if_neg h0, pointsV_three]
     have hin := three_in hk
     have i0 := hin 0
     have i1 := hin 1
     have i2 := hin 2
     simp only [List.getD_cons_zero, List.getD_cons_succ] at i0 i1 i2
     have z0 := decS_size i0.1 i0.2
     have z1 := decS_size i1.1 i1.2
     have z2 := decS_size i2.1 i2.2
     have hc1 : (⟨#[46]⟩ : ByteArray).size = 1 := rfl
     refine goh trivial ?_
     exact finh [] e
 ·exact hp.elim
end Go.Proofs.YtfmjgoeclilcnaaGreatDoor
namespace Go.Proofs.YtfmjgoeclilcnaaGreatDoor
open Go.RowKit
noncomputable def sealV (s : ByteArray) : ByteArray := if 400 < s.size then ⟨#[]⟩ else decS (sumOf s) ++ ⟨#[58]⟩ ++ s
@[go_sem] noncomputable def ctSeal : Ct := ⟨false, [], fun args os => match args, os with
  | [.one (.val (.string s))], [] => is (vs (sealV s))
  | _, _ => no⟩
theorem s_seal_e : EnterOk Tryz.prog 211 := ⟨_, Tryz.func211, rfl, by decide⟩
@[go_sem] def s_seal_lv : List (List Nat) := [[0], [0, 5], [2], [2]]
@[go_sem] noncomputable def s_seal_K : Known := ((Known.nil).cons 166 ctSumOf s_sumOf s_sumOf_e).cons 194 ctItoa s_itoa s_itoa_e
set_option maxHeartbeats 8000000 in
theorem s_seal : Sound Tryz.prog 211 ctSeal := by
 have ke := s_seal_K.env []
 have kl : Lives s_seal_lv := trivial
 refine sound_intro (E := ⟨ti, s_seal_K.Γ, []⟩) ke Tryz.func211 Tryz.ntmps211 rfl (rs := [.tmp 2]) rfl ?_
 intro args os hp
 unfold ctSeal at hp ⊢
 dsimp only at hp ⊢
 split at hp
 ·rename_i s
  refine ⟨by simp, fun φ0 w0 => ?_⟩
  refine goh trivial ?_
  refine W_cnd ?_ ?_ <;> (try simp only [cnd_r]) <;> intro hc
  ·have e : sealV s = ⟨#[]⟩ := by unfold sealV; rw [if_pos (by omega)]
   refine goh trivial ?_
   exact finh [] e
  ·have e : sealV s = decS (sumOf s) ++ ⟨#[58]⟩ ++ s := by unfold sealV; rw [if_neg (by omega)]
   have h1 := sumAt_lt s s.size
   have h2 : sumAt s s.size = sumOf s := rfl
   have h3 := decS_size (n := sumOf s) (by omega) (by omega)
   have h4 : (⟨#[58]⟩ : ByteArray).size = 1 := rfl
   refine goh trivial ?_
   exact finh [] e
 ·simp [no, is, ifp] at hp
theorem s_specSeal_e : EnterOk Tryz.prog 208 := ⟨_, Tryz.func208, rfl, by decide⟩
@[go_sem] def s_specSeal_lv : List (List Nat) := [[0], [0, 5], [2], [2]]
@[go_sem] noncomputable def s_specSeal_K : Known := ((Known.nil).cons 88 ctSumOf s_specSum s_specSum_e).cons 172 ctDecV s_dec2 s_dec2_e
set_option maxHeartbeats 8000000 in
theorem s_specSeal : Sound Tryz.prog 208 ctSeal := by
 have ke := s_specSeal_K.env []
 have kl : Lives s_specSeal_lv := trivial
 refine sound_intro (E := ⟨ti, s_specSeal_K.Γ, []⟩) ke Tryz.func208 Tryz.ntmps208 rfl (rs := [.tmp 2]) rfl ?_
 intro args os hp
 unfold ctSeal at hp ⊢
 dsimp only at hp ⊢
 split at hp
 ·rename_i s
  refine ⟨by simp, fun φ0 w0 => ?_⟩
  refine goh trivial ?_
  refine W_cnd ?_ ?_ <;> (try simp only [cnd_r]) <;> intro hc
  ·have e : sealV s = ⟨#[]⟩ := by unfold sealV; rw [if_pos (by omega)]
   refine goh trivial ?_
   exact finh [] e
  ·have e : sealV s = decS (sumOf s) ++ ⟨#[58]⟩ ++ s := by unfold sealV; rw [if_neg (by omega)]
   have h1 := sumAt_lt s s.size
   have h2 : sumAt s s.size = sumOf s := rfl
   have h3 := decS_size (n := sumOf s) (by omega) (by omega)
   have h4 : (⟨#[58]⟩ : ByteArray).size = 1 := rfl
   refine goh trivial ?_
   exact finh [] e
 ·simp [no, is, ifp] at hp
end Go.Proofs.YtfmjgoeclilcnaaGreatDoor
namespace Go.Proofs.YtfmjgoeclilcnaaGreatDoor
open Go.RowKit
theorem cut_size (c : UInt8) : ∀ (l : Bs), ∀ w ∈ cutL c l, w.length ≤ l.length
 | [], w, hw => by simp [cutL] at hw; subst hw; exact Nat.le_refl _
 | b :: r, w, hw => by
   have ih := cut_size c r
   unfold cutL at hw
   split at hw
   ·rcases List.mem_cons.1 hw with rfl | hw
    ·exact Nat.zero_le _
    ·exact Nat.le_trans (ih w hw) (by simp)
   ·cases hc : cutL c r with
    | nil => exact absurd hc (cutL_ne c r)
    | cons v vs =>
      rw [hc] at hw ih
      rcases List.mem_cons.1 hw with rfl | hw
      ·have := ih v (by simp); simp; omega
      ·exact Nat.le_trans (ih w (by simp [hw])) (by simp)
theorem splitV_size {c : UInt8} {s w : ByteArray} (h : w ∈ splitV c s) : w.size ≤ s.size := by
 unfold splitV at h
 obtain ⟨l, hl, rfl⟩ := List.mem_map.1 h
 exact cut_size c _ l hl
@[go_sem] noncomputable def ctThree : Ct := ⟨false, [], fun args os => match args, os with
  | [.one (.val (.string t))], [] => ifp (t.size ≤ 1000000) (match thr t with | some (a, b, c) => .tup [vi a, vi b, vi c, vb (same (pointsV [a, b, c]) t)] | none => .tup [vi 0, vi 0, vi 0, vb false])
  | _, _ => no⟩
theorem s_three_e : EnterOk Tryz.prog 136 := ⟨_, Tryz.func136, rfl, by decide⟩
@[go_sem] def s_three_lv : List (List Nat) := [[0], [0, 6], [0, 6, 16], [2, 3, 4, 5], [0, 6, 7], [0, 7, 17, 18, 19], [0, 7, 17, 18, 19, 20], [0, 7, 8, 9, 17, 18, 19], [0, 7, 8, 10, 11, 17, 18, 19], [0, 7, 8, 10, 17, 18, 19, 30], [2, 3, 4, 5], [0, 7, 17, 18, 19], [0, 7, 17, 18, 19], [2, 3, 4, 5]]
@[go_sem] noncomputable def s_three_K : Known := (((Known.nil).cons 130 ctSplit s_split s_split_e).cons 184 ctAtoi s_atoi s_atoi_e).cons 196 ctPoints s_points s_points_e
set_option maxHeartbeats 8000000 in
theorem s_three : Sound Tryz.prog 136 ctThree := by
 have ke := s_three_K.env []
 have kl : Lives s_three_lv := trivial
 refine sound_intro (E := ⟨ti, s_three_K.Γ, []⟩) ke Tryz.func136 Tryz.ntmps136 rfl (rs := [.tmp 2, .tmp 3, .tmp 4, .tmp 5]) rfl ?_
 intro args os hp
 unfold ctThree at hp ⊢
 dsimp only at hp ⊢
 split at hp
 ·rename_i t
  refine ⟨by simp, fun φ0 w0 => ?_⟩
  have hlen : t.size ≤ 1000000 := hp
  have hsp : (⟨#[46]⟩ : ByteArray).data.getD 0 0 = 46 := rfl
  have hsz : (⟨#[46]⟩ : ByteArray).size = 1 := rfl
  have hwl := splitV_len 46 t
  have hms : ∀ w ∈ splitV 46 t, w.size ≤ 281474976710656 := fun w hw => Nat.le_trans (splitV_size hw) (by omega)
  obtain ⟨ws, hws⟩ : ∃ ws, splitV 46 t = ws := ⟨_, rfl⟩
  rw [hws] at hms hwl
  refine goh (And.intro hsp (And.intro hsz hws)) ?_
  refine W_cnd ?_ ?_ <;> (try simp only [cnd_r]) <;> intro h3
  ·have h3' : ws.length ≠ 3 := by intro e; rw [e] at h3; exact absurd h3 (by decide)
   have e : thr t = none := by
    unfold thr
    rw [hws]
    split
    ·exact absurd rfl h3'
    ·rfl
   refine goh trivial ?_
   exact finh [] e
  ·have h3' : ws.length = 3 := by omega
   match ws, h3' with
   | [x, y, z], _ =>
   have m0 := hms x (by simp)
   have m1 := hms y (by simp)
   have m2 := hms z (by simp)
   have thrE : thr t = (match atoiV x, atoiV y, atoiV z with
    | some a, some b, some c => some (a, b, c)
    | _, _, _ => none) := by unfold thr; rw [hws]; try rfl
   refine goh trivial ?_
   refine W_for 3 (fun i => (0 < i → atoiV x = some (atoiN x)) ∧ (1 < i → atoiV y = some (atoiN y)) ∧ (2 < i → atoiV z = some (atoiN z))) (fun i => ⟨[(0, vs t), (7, .one (.ptr 1 0)), (17, .one (.osl .str 0 0 3)), (18, vi 3), (19, vi i)], [some (.arr .str [x, y, z]), some (.cells [.val (.int .i64 (if 0 < i then atoiN x else 0)), .val (.int .i64 (if 1 < i then atoiN y else 0)), .val (.int .i64 (if 2 < i then atoiN z else 0))])], []⟩) [some 0, some 1] (leh trivial) ⟨by omega, by omega, by omega⟩ fun i hi hI => ?_
   obtain ⟨hI0, hI1, hI2⟩ := hI
   rcases (show i = 0 ∨ i = 1 ∨ i = 2 ∨ i = 3 by omega) with rfl | rfl | rfl | rfl
   ·cases ha : atoiV x with
    | none =>
      have e : thr t = none := by rw [thrE, ha]
      refine goh (And.intro ha m0) ?_
      refine W_cnd ?_ ?_ <;> intro hlit <;> try (cases hlit; done)
      refine goh (And.intro ha m0) ?_
      refine W_cnd ?_ ?_ <;> intro hlit <;> try (cases hlit; done)
      refine goh trivial ?_
      exact finh [] e
    | some a =>
      have hn := (atoiV_in ha).1
      refine goh (And.intro ha m0) ?_
      refine W_cnd ?_ ?_ <;> intro hlit <;> try (cases hlit; done)
      refine goh (And.intro ha m0) ?_
      refine W_cnd ?_ ?_ <;> intro hlit <;> try (cases hlit; done)
      refine goh trivial ?_
      exact ⟨[some 0, some 1], by omega, leh trivial, ⟨fun _ => by rw [hn], by omega, by omega⟩⟩
   ·cases ha : atoiV y with
    | none =>
      have e : thr t = none := by rw [thrE, ha]; cases atoiV x <;> rfl
      refine goh (And.intro ha m1) ?_
      refine W_cnd ?_ ?_ <;> intro hlit <;> try (cases hlit; done)
      refine goh (And.intro ha m1) ?_
      refine W_cnd ?_ ?_ <;> intro hlit <;> try (cases hlit; done)
      refine goh trivial ?_
      exact finh [] e
    | some a =>
      have hn := (atoiV_in ha).1
      refine goh (And.intro ha m1) ?_
      refine W_cnd ?_ ?_ <;> intro hlit <;> try (cases hlit; done)
      refine goh (And.intro ha m1) ?_
      refine W_cnd ?_ ?_ <;> intro hlit <;> try (cases hlit; done)
      refine goh trivial ?_
      exact ⟨[some 0, some 1], by omega, leh trivial, ⟨fun _ => hI0 (by omega), fun _ => by rw [hn], by omega⟩⟩
   ·cases ha : atoiV z with
    | none =>
      have e : thr t = none := by rw [thrE, ha]; cases atoiV x <;> cases atoiV y <;> rfl
      refine goh (And.intro ha m2) ?_
      refine W_cnd ?_ ?_ <;> intro hlit <;> try (cases hlit; done)
      refine goh (And.intro ha m2) ?_
      refine W_cnd ?_ ?_ <;> intro hlit <;> try (cases hlit; done)
      refine goh trivial ?_
      exact finh [] e
    | some a =>
      have hn := (atoiV_in ha).1
      refine goh (And.intro ha m2) ?_
      refine W_cnd ?_ ?_ <;> intro hlit <;> try (cases hlit; done)
      refine goh (And.intro ha m2) ?_
      refine W_cnd ?_ ?_ <;> intro hlit <;> try (cases hlit; done)
      refine goh trivial ?_
      exact ⟨[some 0, some 1], by omega, leh trivial, ⟨fun _ => hI0 (by omega), fun _ => hI1 (by omega), fun _ => by rw [hn]⟩⟩
   ·have e : thr t = some (atoiN x, atoiN y, atoiN z) := by rw [thrE, hI0 (by omega), hI1 (by omega), hI2 (by omega)]
    have b0 := (atoiV_in (hI0 (by omega))).2
    have b1 := (atoiV_in (hI1 (by omega))).2
    have b2 := (atoiV_in (hI2 (by omega))).2
    have hin : ∀ i : Nat, -9223372036854775808 ≤ [atoiN x, atoiN y, atoiN z].getD i ET.int.dflt ∧ [atoiN x, atoiN y, atoiN z].getD i ET.int.dflt ≤ 9223372036854775807 := fun i => by
     have hd : ET.int.dflt = (0 : Int) := rfl
     match i with
     | 0 => exact b0
     | 1 => exact b1
     | 2 => exact b2
     | i + 3 => simp [hd]
    refine goh trivial ?_
    refine W_cnd ?_ ?_ <;> intro hlit <;> try (cases hlit; done)
    refine goh hin ?_
    exact finh [] e
 ·simp [no, ifp] at hp
@[go_sem] noncomputable def ctPtrRead : Ct := ⟨false, [], fun args os => match args, os with
  | [.one (.val (.string t))], [] => ifp (t.size ≤ 1000000) (match ptrReadV t with | some p => .tup [.agg [.val (.int .i64 p.at_), .val (.int .i64 p.sum), .val (.int .i64 p.birth)], vb true] | none => .tup [.agg [.val (.int .i64 0), .val (.int .i64 0), .val (.int .i64 0)], vb false])
  | _, _ => no⟩
theorem s_ptrRead_e : EnterOk Tryz.prog 135 := ⟨_, Tryz.func135, rfl, by decide⟩
@[go_sem] def s_ptrRead_lv : List (List Nat) := [[0, 2], [0, 2, 10], [2, 3], [2, 4, 5, 6, 7], [2, 7, 8], [2, 8, 29], [2, 3], [2, 3]]
@[go_sem] noncomputable def s_ptrRead_K : Known := ((Known.nil).cons 136 ctThree s_three s_three_e).cons 96 ctReal s_isReal s_isReal_e
set_option maxHeartbeats 8000000 in
theorem s_ptrRead : Sound Tryz.prog 135 ctPtrRead := by
 have ke := s_ptrRead_K.env []
 have kl : Lives s_ptrRead_lv := trivial
 refine sound_intro (E := ⟨ti, s_ptrRead_K.Γ, []⟩) ke Tryz.func135 Tryz.ntmps135 rfl (rs := [.cell 2 71, .tmp 3]) rfl ?_
 intro args os hp
 unfold ctPtrRead at hp ⊢
 dsimp only at hp ⊢
 split at hp
 ·rename_i t
  refine ⟨by simp, fun φ0 w0 => ?_⟩
  have hlen : t.size ≤ 1000000 := hp
  have nt : (!true) = false := rfl
  have nf : (!false) = true := rfl
  refine goh trivial ?_
  refine W_cond _ (by exact rfl) (by exact trivial) ?_ ?_ <;> intro hc
  ·obtain rfl := same_true.1 hc
   have e := ptrRead_dash
   refine goh trivial ?_
   exact finh [] e
  ·have e := thr_read (same_false.1 hc)
   cases ht : thr t with
   | none =>
     rw [ht] at e
     simp only at e
     refine goh (And.intro ht nf) ?_
     refine W_cnd ?_ ?_ <;> intro hlit <;> try (cases hlit; done)
     refine goh trivial ?_
     exact finh [] e
   | some x =>
     obtain ⟨a, b, c⟩ := x
     rw [ht] at e
     simp only at e
     cases hs : same (pointsV [a, b, c]) t with
     | false =>
       rw [if_neg (fun h => by rw [same_true.2 h.1] at hs; cases hs)] at e
       refine goh (And.intro ht (And.intro hs nf)) ?_
       refine W_cnd ?_ ?_ <;> intro hlit <;> try (cases hlit; done)
       refine goh trivial ?_
       exact finh [] e
     | true =>
       cases hr : realB ⟨a, b, c⟩ with
       | false =>
         rw [if_neg (fun h => by rw [hr] at h; cases h.2)] at e
         refine goh (And.intro ht (And.intro hs (And.intro hr (And.intro nf nt)))) ?_
         refine W_cnd ?_ ?_ <;> intro hlit <;> try (cases hlit; done)
         refine goh trivial ?_
         exact finh [] e
       | true =>
         rw [if_pos ⟨same_true.1 hs, hr⟩] at e
         refine goh (And.intro ht (And.intro hs (And.intro hr (And.intro nf nt)))) ?_
         refine W_cnd ?_ ?_ <;> intro hlit <;> try (cases hlit; done)
         refine goh trivial ?_
         exact finh [] e
 ·simp [no, ifp] at hp
noncomputable def openV (s : ByteArray) : ByteArray × Bool := if (cutV 58 s).2.2 = true ∧ same (sealV (cutV 58 s).2.1) s = true then ((cutV 58 s).2.1, true) else (⟨#[]⟩, false)
@[go_sem] noncomputable def ctSumOpen : Ct := ⟨false, [], fun args os => match args, os with
  | [.one (.val (.string s))], [] => ifp (s.size ≤ 1000000) (.tup [vs (openV s).1, vb (openV s).2])
  | _, _ => no⟩
theorem s_sumOpen_e : EnterOk Tryz.prog 183 := ⟨_, Tryz.func183, rfl, by decide⟩
@[go_sem] def s_sumOpen_lv : List (List Nat) := [[0], [0, 5, 6], [5, 20], [2, 3], [2, 3]]
@[go_sem] noncomputable def s_sumOpen_K : Known := ((Known.nil).cons 210 ctCut s_cut s_cut_e).cons 211 ctSeal s_seal s_seal_e
set_option maxHeartbeats 8000000 in
theorem s_sumOpen : Sound Tryz.prog 183 ctSumOpen := by
 have ke := s_sumOpen_K.env []
 have kl : Lives s_sumOpen_lv := trivial
 refine sound_intro (E := ⟨ti, s_sumOpen_K.Γ, []⟩) ke Tryz.func183 Tryz.ntmps183 rfl (rs := [.tmp 2, .tmp 3]) rfl ?_
 intro args os hp
 unfold ctSumOpen at hp ⊢
 dsimp only at hp ⊢
 split at hp
 ·rename_i s
  refine ⟨by simp, fun φ0 w0 => ?_⟩
  have hlen : s.size ≤ 1000000 := hp
  have nt : (!true) = false := rfl
  have nf : (!false) = true := rfl
  have hsp : (⟨#[58]⟩ : ByteArray).data.getD 0 0 = 58 := rfl
  have hsz : (⟨#[58]⟩ : ByteArray).size = 1 := rfl
  obtain ⟨⟨b, t, ok⟩, hx⟩ : ∃ x, cutV 58 s = x := ⟨_, rfl⟩
  have e : openV s = if ok = true ∧ same (sealV t) s = true then (t, true) else (⟨#[]⟩, false) := by unfold openV; rw [hx]
  cases ok with
  | false =>
    rw [if_neg (fun h => by cases h.1)] at e
    refine goh (And.intro hsp (And.intro hsz (And.intro hx nf))) ?_
    refine W_cnd ?_ ?_ <;> intro hlit <;> try (cases hlit; done)
    refine goh trivial ?_
    exact finh [] e
  | true =>
    cases hs : same (sealV t) s with
    | false =>
      rw [if_neg (fun h => by rw [hs] at h; cases h.2)] at e
      refine goh (And.intro hsp (And.intro hsz (And.intro hx (And.intro hs (And.intro nf nt))))) ?_
      refine W_cnd ?_ ?_ <;> intro hlit <;> try (cases hlit; done)
      refine goh trivial ?_
      exact finh [] e
    | true =>
      rw [if_pos ⟨rfl, hs⟩] at e
      refine goh (And.intro hsp (And.intro hsz (And.intro hx (And.intro hs (And.intro nf nt))))) ?_
      refine W_cnd ?_ ?_ <;> intro hlit <;> try (cases hlit; done)
      refine goh trivial ?_
      exact finh [] e
 ·simp [no, ifp] at hp
end Go.Proofs.YtfmjgoeclilcnaaGreatDoor
namespace Go.Proofs.YtfmjgoeclilcnaaGreatDoor
open Go.RowKit
theorem ptr_back (p : Ptr) : ptrReadV (ptrT p) = if ptrOkB p = true then some p else none := by
 by_cases h : ptrOkB p = true
 ·rw [if_pos h]; exact ptrRead_some.2 ⟨h, rfl⟩
 ·rw [if_neg h]
  refine ptrRead_none fun q h1 h2 => ?_
  have e : ptrT p = ⟨#[]⟩ := by unfold ptrT; rw [if_neg h]
  rw [e] at h2
  unfold ptrT at h2
  rw [if_pos h1] at h2
  split at h2
  ·exact absurd h2 (by decide)
  ·have h3 := pointsV_split (zs := [q.at_, q.sum, q.birth]) (by simp)
   rw [h2] at h3
   have h4 : splitV 46 ⟨#[]⟩ = [⟨#[]⟩] := by decide
   rw [h4] at h3
   simp at h3
end Go.Proofs.YtfmjgoeclilcnaaGreatDoor
