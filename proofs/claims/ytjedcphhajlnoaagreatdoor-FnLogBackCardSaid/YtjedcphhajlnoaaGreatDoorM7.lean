import Derived.Test.YtjedcphhajlnoaaGreatDoorProg
import Derived.WalkKit
import Derived.Ground.NamesProg
import Derived.Shelf.Strings.Shaped
import Derived.Shelf.Strings.OnBuilder
import Derived.Shelf.Strconv.ErrVarAll
import Derived.Test.YtjedcphhajlnoaaGreatDoorM5
import Derived.Test.YtjedcphhajlnoaaGreatDoorM6
set_option linter.unusedSimpArgs false
set_option linter.unusedVariables false
set_option linter.unusedSectionVars false
/-
  DERIVED: THE SHELF's CONTRACTS AT THIS DUMP, IN PLAIN WORDS (tools/lay-plain.mjs out of 'YtjedcphhajlnoaaGreatDoorTSh5Q.lean', which tools/lay-shelf.mjs wrote): THE SAME DECLARATIONS UNDER THE SAME NAMES: 'import', 'namespace', 'open', 'def', 'theorem' AND NOTHING ELSE: no command of the shelf's: FOR A HAND-IN. Each laying: the table of numbers ('.._ren') and one theorem, a field a fact of the dump's own or the kernel's comparison; each contract: ONE APPLICATION.
-/
namespace Go.Proofs
open Go.Shelf
def Tryz.lays145_ren : Go.Shelf.Ren := ⟨fun | 145 => 130 | 220 => 205 | 219 => 255 | 217 => 256 | 225 => 282 | 224 => 283 | 267 => 284 | 266 => 285 | 314 => 300 | n => n, fun | 9 => 9 | 4 => 4 | 59 => 167 | 3 => 3 | 5 => 5 | 46 => 221 | 146 => 307 | 51 => 299 | n => n, fun | 1 => 2 | n => n⟩
theorem Tryz.lays145 : Go.Proofs.LaysM.n145 Tryz.prog Tryz.lays145_ren := {
  mixed := by kernel_rfl
  f145 := Tryz.func130.trans (congrArg some (by kernel_rfl))
  f217 := Tryz.func256.trans (congrArg some (by kernel_rfl))
  f219 := Tryz.func255.trans (congrArg some (by kernel_rfl))
  f220 := Tryz.func205.trans (congrArg some (by kernel_rfl))
  f224 := Tryz.func283.trans (congrArg some (by kernel_rfl))
  f225 := Tryz.func282.trans (congrArg some (by kernel_rfl))
  f266 := Tryz.func285.trans (congrArg some (by kernel_rfl))
  f267 := Tryz.func284.trans (congrArg some (by kernel_rfl))
  f314 := Tryz.func300.trans (congrArg some (by kernel_rfl))
  t3 := Tryz.underlying3
  a3 := Tryz.isAgg3
  z3 := Tryz.sizeOf3
  v3 := Tryz.zeroValue3
  t4 := Tryz.underlying4
  a4 := Tryz.isAgg4
  z4 := Tryz.sizeOf4
  v4 := Tryz.zeroValue4
  t5 := Tryz.underlying5
  a5 := Tryz.isAgg5
  z5 := Tryz.sizeOf5
  v5 := Tryz.zeroValue5
  t9 := Tryz.underlying9
  a9 := Tryz.isAgg9
  z9 := Tryz.sizeOf9
  v9 := Tryz.zeroValue9
  t46 := Tryz.underlying221
  a46 := Tryz.isAgg221
  z46 := Tryz.sizeOf221
  v46 := Tryz.zeroValue221
  t51 := Tryz.underlying299
  a51 := Tryz.isAgg299
  z51 := Tryz.sizeOf299
  v51 := Tryz.zeroValue299
  t59 := Tryz.underlying167
  a59 := Tryz.isAgg167
  z59 := Tryz.sizeOf167
  v59 := Tryz.zeroValue167
  t146 := Tryz.underlying307
  a146 := Tryz.isAgg307
  z146 := Tryz.sizeOf307
  v146 := Tryz.zeroValue307
  g1 := by kernel_rfl
  i3 := by kernel_rfl
  i4 := by kernel_rfl
  i5 := by kernel_rfl
  i9 := by kernel_rfl
  i46 := by kernel_rfl
  i51 := by kernel_rfl
  i59 := by kernel_rfl
  i146 := by kernel_rfl
  m1 := by kernel_rfl
  s1_3 := fun w h => Go.Proofs.cell_of_shapedOpen_int (zero := #[.int .i64 0]) (t := 3) h (of_decide_eq_true (by kernel_rfl)) (by kernel_rfl) rfl (by kernel_rfl) (by kernel_rfl) Tryz.underlying3 }
end Go.Proofs
/-
  DERIVED: THE SHELF's CONTRACTS AT THIS DUMP, IN PLAIN WORDS (tools/lay-plain.mjs out of 'YtjedcphhajlnoaaGreatDoorTSh6Q.lean', which tools/lay-shelf.mjs wrote): THE SAME DECLARATIONS UNDER THE SAME NAMES: 'import', 'namespace', 'open', 'def', 'theorem' AND NOTHING ELSE: no command of the shelf's: FOR A HAND-IN. Each laying: the table of numbers ('.._ren') and one theorem, a field a fact of the dump's own or the kernel's comparison; each contract: ONE APPLICATION.
-/
namespace Go.Proofs
open Go.Shelf
def Tryz.lays156_ren : Go.Shelf.Ren := ⟨fun | 156 => 129 | 165 => 202 | 166 => 203 | 169 => 204 | 240 => 253 | 241 => 254 | 276 => 280 | 277 => 281 | n => n, fun | 31 => 22 | 9 => 9 | 3 => 3 | 4 => 4 | 0 => 0 | 20 => 20 | 72 => 224 | 76 => 153 | 70 => 222 | 37 => 53 | 75 => 152 | 127 => 270 | 164 => 291 | 5 => 5 | 80 => 226 | n => n, fun | n => n⟩
theorem Tryz.lays156 : Go.Proofs.Lays.n156 Tryz.prog Tryz.lays156_ren := {
  mixed := by kernel_rfl
  f156 := Tryz.func129.trans (congrArg some (by kernel_rfl))
  f165 := Tryz.func202.trans (congrArg some (by kernel_rfl))
  f166 := Tryz.func203.trans (congrArg some (by kernel_rfl))
  f169 := Tryz.func204.trans (congrArg some (by kernel_rfl))
  f240 := Tryz.func253.trans (congrArg some (by kernel_rfl))
  f241 := Tryz.func254.trans (congrArg some (by kernel_rfl))
  f276 := Tryz.func280.trans (congrArg some (by kernel_rfl))
  f277 := Tryz.func281.trans (congrArg some (by kernel_rfl))
  t0 := Tryz.underlying0
  a0 := Tryz.isAgg0
  z0 := Tryz.sizeOf0
  v0 := Tryz.zeroValue0
  t3 := Tryz.underlying3
  a3 := Tryz.isAgg3
  z3 := Tryz.sizeOf3
  v3 := Tryz.zeroValue3
  t4 := Tryz.underlying4
  a4 := Tryz.isAgg4
  z4 := Tryz.sizeOf4
  v4 := Tryz.zeroValue4
  t9 := Tryz.underlying9
  a9 := Tryz.isAgg9
  z9 := Tryz.sizeOf9
  v9 := Tryz.zeroValue9
  t20 := Tryz.underlying20
  a20 := Tryz.isAgg20
  z20 := Tryz.sizeOf20
  v20 := Tryz.zeroValue20
  t31 := Tryz.underlying22
  a31 := Tryz.isAgg22
  z31 := Tryz.sizeOf22
  v31 := Tryz.zeroValue22
  t37 := Tryz.underlying53
  a37 := Tryz.isAgg53
  z37 := Tryz.sizeOf53
  v37 := Tryz.zeroValue53
  t70 := Tryz.underlying222
  a70 := Tryz.isAgg222
  z70 := Tryz.sizeOf222
  v70 := Tryz.zeroValue222
  t72 := Tryz.underlying224
  a72 := Tryz.isAgg224
  z72 := Tryz.sizeOf224
  v72 := Tryz.zeroValue224
  t75 := Tryz.underlying152
  a75 := Tryz.isAgg152
  z75 := Tryz.sizeOf152
  v75 := Tryz.zeroValue152
  t76 := Tryz.underlying153
  a76 := Tryz.isAgg153
  z76 := Tryz.sizeOf153
  v76 := Tryz.zeroValue153
  t127 := Tryz.underlying270
  a127 := Tryz.isAgg270
  z127 := Tryz.sizeOf270
  v127 := Tryz.zeroValue270
  t164 := Tryz.underlying291
  a164 := Tryz.isAgg291
  z164 := Tryz.sizeOf291
  v164 := Tryz.zeroValue291 }
end Go.Proofs
/-
  DERIVED: THE SHELF's CONTRACTS AT THIS DUMP, IN PLAIN WORDS (tools/lay-plain.mjs out of 'YtjedcphhajlnoaaGreatDoorTSh7Q.lean', which tools/lay-shelf.mjs wrote): THE SAME DECLARATIONS UNDER THE SAME NAMES: 'import', 'namespace', 'open', 'def', 'theorem' AND NOTHING ELSE: no command of the shelf's: FOR A HAND-IN. Each laying: the table of numbers ('.._ren') and one theorem, a field a fact of the dump's own or the kernel's comparison; each contract: ONE APPLICATION.
-/
namespace Go.Proofs
open Go.Shelf
def Tryz.lays172_ren : Go.Shelf.Ren := ⟨fun | 172 => 108 | 244 => 178 | 245 => 179 | 247 => 235 | 279 => 236 | 280 => 237 | 281 => 238 | 282 => 239 | 287 => 274 | 316 => 275 | 171 => 100 | 205 => 276 | 321 => 296 | 322 => 297 | 243 => 176 | 246 => 231 | 283 => 267 | 284 => 268 | 285 => 269 | 286 => 270 | 129 => 291 | 317 => 290 | 318 => 292 | 319 => 293 | 320 => 294 | 337 => 301 | 338 => 302 | n => n, fun | 9 => 9 | 3 => 3 | 75 => 152 | 76 => 153 | 4 => 4 | 5 => 5 | 167 => 254 | 37 => 53 | 0 => 0 | 85 => 255 | 2 => 2 | 168 => 257 | 53 => 277 | 175 => 284 | 46 => 221 | 210 => 287 | 127 => 270 | 145 => 305 | 143 => 303 | 21 => 21 | 171 => 276 | 173 => 280 | 212 => 298 | 51 => 299 | 20 => 20 | 213 => 300 | 232 => 315 | 233 => 316 | 80 => 226 | n => n, fun | 15 => 0 | 16 => 1 | 17 => 3 | 18 => 6 | 19 => 7 | n => n⟩
theorem Tryz.lays172 : Go.Proofs.LaysC.n172 Tryz.prog Tryz.lays172_ren := {
  mixed := by kernel_rfl
  f129 := Tryz.func291.trans (congrArg some (by kernel_rfl))
  f171 := Tryz.func100.trans (congrArg some (by kernel_rfl))
  f172 := Tryz.func108.trans (congrArg some (by kernel_rfl))
  f205 := Tryz.func276.trans (congrArg some (by kernel_rfl))
  f243 := Tryz.func176.trans (congrArg some (by kernel_rfl))
  f244 := Tryz.func178.trans (congrArg some (by kernel_rfl))
  f245 := Tryz.func179.trans (congrArg some (by kernel_rfl))
  f246 := Tryz.func231.trans (congrArg some (by kernel_rfl))
  f247 := Tryz.func235.trans (congrArg some (by kernel_rfl))
  f279 := Tryz.func236.trans (congrArg some (by kernel_rfl))
  f280 := Tryz.func237.trans (congrArg some (by kernel_rfl))
  f281 := Tryz.func238.trans (congrArg some (by kernel_rfl))
  f282 := Tryz.func239.trans (congrArg some (by kernel_rfl))
  f283 := Tryz.func267.trans (congrArg some (by kernel_rfl))
  f284 := Tryz.func268.trans (congrArg some (by kernel_rfl))
  f285 := Tryz.func269.trans (congrArg some (by kernel_rfl))
  f286 := Tryz.func270.trans (congrArg some (by kernel_rfl))
  f287 := Tryz.func274.trans (congrArg some (by kernel_rfl))
  f316 := Tryz.func275.trans (congrArg some (by kernel_rfl))
  f317 := Tryz.func290.trans (congrArg some (by kernel_rfl))
  f318 := Tryz.func292.trans (congrArg some (by kernel_rfl))
  f319 := Tryz.func293.trans (congrArg some (by kernel_rfl))
  f320 := Tryz.func294.trans (congrArg some (by kernel_rfl))
  f321 := Tryz.func296.trans (congrArg some (by kernel_rfl))
  f322 := Tryz.func297.trans (congrArg some (by kernel_rfl))
  f337 := Tryz.func301.trans (congrArg some (by kernel_rfl))
  f338 := Tryz.func302.trans (congrArg some (by kernel_rfl))
  t0 := Tryz.underlying0
  a0 := Tryz.isAgg0
  z0 := Tryz.sizeOf0
  v0 := Tryz.zeroValue0
  t2 := Tryz.underlying2
  a2 := Tryz.isAgg2
  z2 := Tryz.sizeOf2
  v2 := Tryz.zeroValue2
  t3 := Tryz.underlying3
  a3 := Tryz.isAgg3
  z3 := Tryz.sizeOf3
  v3 := Tryz.zeroValue3
  t4 := Tryz.underlying4
  a4 := Tryz.isAgg4
  z4 := Tryz.sizeOf4
  v4 := Tryz.zeroValue4
  t5 := Tryz.underlying5
  a5 := Tryz.isAgg5
  z5 := Tryz.sizeOf5
  v5 := Tryz.zeroValue5
  t9 := Tryz.underlying9
  a9 := Tryz.isAgg9
  z9 := Tryz.sizeOf9
  v9 := Tryz.zeroValue9
  t20 := Tryz.underlying20
  a20 := Tryz.isAgg20
  z20 := Tryz.sizeOf20
  v20 := Tryz.zeroValue20
  t21 := Tryz.underlying21
  a21 := Tryz.isAgg21
  z21 := Tryz.sizeOf21
  v21 := Tryz.zeroValue21
  t37 := Tryz.underlying53
  a37 := Tryz.isAgg53
  z37 := Tryz.sizeOf53
  v37 := Tryz.zeroValue53
  t46 := Tryz.underlying221
  a46 := Tryz.isAgg221
  z46 := Tryz.sizeOf221
  v46 := Tryz.zeroValue221
  t51 := Tryz.underlying299
  a51 := Tryz.isAgg299
  z51 := Tryz.sizeOf299
  v51 := Tryz.zeroValue299
  t53 := Tryz.underlying277
  a53 := Tryz.isAgg277
  z53 := Tryz.sizeOf277
  v53 := Tryz.zeroValue277
  t75 := Tryz.underlying152
  a75 := Tryz.isAgg152
  z75 := Tryz.sizeOf152
  v75 := Tryz.zeroValue152
  t76 := Tryz.underlying153
  a76 := Tryz.isAgg153
  z76 := Tryz.sizeOf153
  v76 := Tryz.zeroValue153
  t85 := Tryz.underlying255
  a85 := Tryz.isAgg255
  z85 := Tryz.sizeOf255
  v85 := Tryz.zeroValue255
  t127 := Tryz.underlying270
  a127 := Tryz.isAgg270
  z127 := Tryz.sizeOf270
  v127 := Tryz.zeroValue270
  t143 := Tryz.underlying303
  a143 := Tryz.isAgg303
  z143 := Tryz.sizeOf303
  v143 := Tryz.zeroValue303
  t145 := Tryz.underlying305
  a145 := Tryz.isAgg305
  z145 := Tryz.sizeOf305
  v145 := Tryz.zeroValue305
  t167 := Tryz.underlying254
  a167 := Tryz.isAgg254
  z167 := Tryz.sizeOf254
  v167 := Tryz.zeroValue254
  t168 := Tryz.underlying257
  a168 := Tryz.isAgg257
  z168 := Tryz.sizeOf257
  v168 := Tryz.zeroValue257
  t171 := Tryz.underlying276
  a171 := Tryz.isAgg276
  z171 := Tryz.sizeOf276
  v171 := Tryz.zeroValue276
  t173 := Tryz.underlying280
  a173 := Tryz.isAgg280
  z173 := Tryz.sizeOf280
  v173 := Tryz.zeroValue280
  t175 := Tryz.underlying284
  a175 := Tryz.isAgg284
  z175 := Tryz.sizeOf284
  v175 := Tryz.zeroValue284
  t210 := Tryz.underlying287
  a210 := Tryz.isAgg287
  z210 := Tryz.sizeOf287
  v210 := Tryz.zeroValue287
  t212 := Tryz.underlying298
  a212 := Tryz.isAgg298
  z212 := Tryz.sizeOf298
  v212 := Tryz.zeroValue298
  t213 := Tryz.underlying300
  a213 := Tryz.isAgg300
  z213 := Tryz.sizeOf300
  t232 := Tryz.underlying315
  a232 := Tryz.isAgg315
  z232 := Tryz.sizeOf315
  v232 := Tryz.zeroValue315
  t233 := Tryz.underlying316
  a233 := Tryz.isAgg316
  z233 := Tryz.sizeOf316
  v233 := Tryz.zeroValue316
  g15 := by kernel_rfl
  g16 := by kernel_rfl
  g17 := by kernel_rfl
  g18 := by kernel_rfl
  g19 := by kernel_rfl
  t80 := Tryz.underlying226
  a80 := Tryz.isAgg226
  z80 := Tryz.sizeOf226
  v80 := Tryz.zeroValue226
  i0 := by kernel_rfl
  i2 := by kernel_rfl
  i3 := by kernel_rfl
  i4 := by kernel_rfl
  i5 := by kernel_rfl
  i9 := by kernel_rfl
  i20 := by kernel_rfl
  i21 := by kernel_rfl
  i37 := by kernel_rfl
  i46 := by kernel_rfl
  i51 := by kernel_rfl
  i53 := by kernel_rfl
  i75 := by kernel_rfl
  i76 := by kernel_rfl
  i80 := by kernel_rfl
  i85 := by kernel_rfl
  i127 := by kernel_rfl
  i143 := by kernel_rfl
  i145 := by kernel_rfl
  i167 := by kernel_rfl
  i168 := by kernel_rfl
  i171 := by kernel_rfl
  i173 := by kernel_rfl
  i175 := by kernel_rfl
  i210 := by kernel_rfl
  i212 := by kernel_rfl
  i232 := by kernel_rfl
  i233 := by kernel_rfl
  m15 := by kernel_rfl
  m16 := by kernel_rfl
  m17 := by kernel_rfl
  m18 := by kernel_rfl
  m19 := by kernel_rfl
  c0 := by kernel_rfl
  c2 := by kernel_rfl
  c3 := by kernel_rfl
  c4 := by kernel_rfl
  c5 := by kernel_rfl
  c9 := by kernel_rfl
  c20 := by kernel_rfl
  c21 := by kernel_rfl
  c37 := by kernel_rfl
  c46 := by kernel_rfl
  c51 := by kernel_rfl
  c53 := by kernel_rfl
  c75 := by kernel_rfl
  c76 := by kernel_rfl
  c80 := by kernel_rfl
  c85 := by kernel_rfl
  c127 := by kernel_rfl
  c143 := by kernel_rfl
  c145 := by kernel_rfl
  c167 := by kernel_rfl
  c168 := by kernel_rfl
  c171 := by kernel_rfl
  c173 := by kernel_rfl
  c175 := by kernel_rfl
  c210 := by kernel_rfl
  c212 := by kernel_rfl
  c213 := by kernel_rfl
  c232 := by kernel_rfl
  c233 := by kernel_rfl }
end Go.Proofs
/- The library's words: Split, Cut, Join, Atoi. -/
namespace Go.Proofs.YtjedcphhajlnoaaGreatDoor
open Go.RowKit

/-- What is returned is plain, whatever the world; what was there is as it was. -/
theorem post_plain {φ : Phi} {w w' : World} {s : St} {r : Value} (hrel : Rel φ (tabOf []) w) (hu : s.upd = []) (hn : s.news = []) (hv : ∀ φ T w, VR φ T w s.v r) (hb : Below w.heap.size w w') : Post φ (tabOf []) w 0 s (.returned r) w' := by
  have hT : newT (tabOf []) 0 s = tabOf [] := newT_pure _ _ _ hu hn
  have no : ∀ b, ¬ Own φ (tabOf []) b := fun b ⟨k, base, h1, _⟩ => by simp [tabOf] at h1
  have old : ∀ b, b < w.heap.size → w'.heap[b]? = w.heap[b]? := fun b hb' => hb.block b hb'
  refine ⟨r, φ, rfl, hv _ _ _, ?_, ?_, fun k hk => .inl hk, fun b hb' _ => old b hb'⟩
  · rw [hT]
    exact ⟨fun k o h => by simp [tabOf] at h, fun k _ _ _ _ h _ _ _ => by simp [tabOf] at h, fun b h => ⟨Nat.lt_of_lt_of_le (hrel.frd b h).1 hb.size, no b⟩, fun q hq => by
      obtain ⟨-, c, e, f, h2, h3⟩ := hrel.glo q hq
      exact ⟨no _, c, e, f, (old _ (Array.getElem?_eq_some_iff.1 h2).1).trans h2, h3⟩⟩
  · rw [hT]
    exact ⟨hb.os, hb.tape, hb.output, hb.size, fun _ _ h => h, fun b hb' _ => old b hb', fun b _ h => h, fun b hb' => by unfold sizeAt; rw [old b hb'], fun _ => Iff.rfl⟩
theorem glo0 {φ : Phi} {T : Tab} {w : World} (h : Rel φ T w) : GloOk0 w := fun q hq => (h.glo q hq).2
theorem flat_str : ∀ xs : List ByteArray, xs.flatMap ET.str.cells = xs.map Value.string
  | [] => rfl
  | x :: xs => by rw [List.flatMap_cons, flat_str xs]; rfl
/-- Texts in a new array. -/
theorem post_texts {φ : Phi} {w : World} {s : St} {xs : List ByteArray} {t : TypeId} (hrel : Rel φ (tabOf []) w) (hφ : ∀ k, φ k = none) (hs : s.upd = [] ∧ s.news = [.arr .str xs] ∧ s.v = .one (.osl .str 0 0 xs.length)) :
    Post φ (tabOf []) w 0 s (.returned (.slice (some ⟨w.heap.size, 0, none⟩) xs.length xs.length)) (w.alloc (.cells (xs.map Value.string).toArray t)) := by
  obtain ⟨h1, h2, h3⟩ := hs
  have hT : newT (tabOf []) 0 s = fun k => if k = 0 then some (Obj.arr .str xs) else none := by
    funext k
    unfold newT
    rw [h1, h2]
    cases k with
    | zero => simp [addT, updT, tabOf]
    | succ k => simp [addT, updT, tabOf]
  have hheap : (w.alloc (.cells (xs.map Value.string).toArray t)).heap = w.heap.push (.cells (xs.map Value.string).toArray t) := rfl
  have old : ∀ b, b < w.heap.size → (w.alloc (.cells (xs.map Value.string).toArray t)).heap[b]? = w.heap[b]? := fun b hb => by
    rw [hheap, Array.getElem?_push, if_neg (by omega)]
  have new : (w.alloc (.cells (xs.map Value.string).toArray t)).heap[w.heap.size]? = some (.cells (xs.map Value.string).toArray t) := by
    rw [hheap, Array.getElem?_push, if_pos rfl]
  have hfl := flat_str xs
  let φ' : Phi := ⟨fun k => if k = 0 then some (w.heap.size, 0) else none, φ.fr⟩
  have own : ∀ b, Own φ' (newT (tabOf []) 0 s) b → b = w.heap.size := by
    rintro b ⟨k, base, -, h⟩
    have h : (if k = 0 then some (w.heap.size, 0) else none) = some (b, base) := h
    split at h
    · cases h; rfl
    · cases h
  refine ⟨_, φ', rfl, ?_, ?_, ?_, ?_, fun b hb _ => old b hb⟩
  · rw [h3]
    simp only [VR, CR]
    refine ⟨some ⟨w.heap.size, 0, none⟩, xs.length, rfl, Nat.le_refl _, ?_, ?_, fun _ => ⟨w.heap.size, 0, rfl, ?_, ?_⟩⟩
    · intro h; cases h
    · intro ad h; cases h; rfl
    · simp
    · unfold sizeAt
      rw [new]
      simp [ET.sz]
  · refine ⟨fun k o h => ?_, fun k k' b base base' hk hk' _ _ => ?_, fun b hb => ⟨?_, fun ho => ?_⟩, fun q hq => ?_⟩
    · rw [hT] at h
      simp only at h
      split at h
      · rename_i hk
        cases h
        subst hk
        refine .inr ⟨w.heap.size, 0, _, rfl, ⟨_, _, new, fun j _ => by simp⟩, fun i v hi => ?_⟩
        rw [hfl] at hi
        simpa using hi
      · cases h
    · rw [hT] at hk hk'
      by_cases e1 : k = 0
      · by_cases e2 : k' = 0
        · rw [e1, e2]
        · simp [e2] at hk'
      · simp [e1] at hk
    · have := (hrel.frd b hb).1
      rw [hheap, Array.size_push]; omega
    · have h4 := own b ho
      have := (hrel.frd b hb).1
      omega
    · obtain ⟨-, c, e, f, h5, h6⟩ := hrel.glo q hq
      have h7 := (Array.getElem?_eq_some_iff.1 h5).1
      exact ⟨fun ho => by have := own _ ho; omega, c, e, f, (old _ h7).trans h5, h6⟩
  · exact ⟨rfl, rfl, rfl, by rw [hheap, Array.size_push]; omega, fun k p h => (by rw [hφ k] at h; cases h), fun b hb _ => old b hb, fun b hb ho => (by have := own b ho; omega), fun b hb => (by unfold sizeAt; rw [old b hb]), fun _ => Iff.rfl⟩
  · intro k hk
    right
    by_cases e : k = 0
    · subst e
      exact ⟨Nat.le_refl _, by rw [h2]; exact Nat.zero_lt_one⟩
    · exact absurd (show (if k = 0 then some (w.heap.size, 0) else none) = none from if_neg e) hk
/-- The longest text that is looked for at once. -/
theorem glo_max {w : World} (h : GloOk0 w) : ∃ m, w.cell? ⟨2, 0, none⟩ = some (.int .i64 m) := by
  obtain ⟨c, e, f, h1, m, h2⟩ := h (2, fun c => ∃ m, c[0]? = some (.int .i64 m)) (by simp [gloL])
  exact ⟨m, by unfold World.cell?; simp only [h1]; exact h2⟩
theorem size_one {s : ByteArray} (h : s.size = 1) : s = ⟨#[s.data.getD 0 0]⟩ := by
  apply ByteArray.ext
  apply Array.ext
  · simpa using h
  · intro i h1 h2
    have : i = 0 := by simp at h2; omega
    subst this
    simp [Array.getD, h1]
    intro he
    rw [he] at h
    cases h
@[go_sem] def ctSplit : Ct := ⟨false, [], fun args os => match args, os with
  | [.one (.val (.string s)), .one (.val (.string sep))], [] => ⟨s.size < 4294967281 ∧ sep.size = 1, .one (.osl .str 0 0 (splitV (sep.data.getD 0 0) s).length), [], [.arr .str (splitV (sep.data.getD 0 0) s)]⟩
  | _, _ => no⟩
theorem s_split_e : EnterOk Tryz.prog 107 := ⟨_, Tryz.func107, rfl, by decide⟩
theorem s_split : Sound Tryz.prog 107 ctSplit := by
  intro args os hp φ w rargs hrel hv hn
  unfold ctSplit at hp ⊢
  dsimp only at hp ⊢
  split at hp
  · rename_i s sep
    obtain ⟨hs, h1⟩ : s.size < 4294967281 ∧ sep.size = 1 := hp
    obtain rfl := plainV_R (vals := [.string s, .string sep]) hv
    obtain ⟨m, hm⟩ := glo_max (glo0 hrel)
    refine (Any.strings_Split { Tryz.lays146 with } Tryz.lays146.i9 s sep m w hs hm (by omega)).mono ?_
    rintro e w' ⟨rfl, rfl⟩
    have hsep := size_one h1
    generalize sep.data.getD 0 0 = c at hsep ⊢
    subst hsep
    have e1 := split_lib c s
    have e2 := Lib.splitB_all ⟨#[c]⟩ (by show 1 ≤ 1; omega) 0 _ s rfl
    rw [e1] at e2
    rw [← e2, e1]
    exact post_texts hrel (fun k => hn k (Nat.zero_le _)) ⟨rfl, rfl, rfl⟩
  · exact hp.elim
@[go_sem] def ctCut : Ct := ⟨false, [], fun args os => match args, os with
  | [.one (.val (.string s)), .one (.val (.string sep))], [] => ifp (s.size < 4294967281 ∧ sep.size = 1) (.tup [vs (cutV (sep.data.getD 0 0) s).1, vs (cutV (sep.data.getD 0 0) s).2.1, vb (cutV (sep.data.getD 0 0) s).2.2])
  | _, _ => no⟩
theorem s_cut_e : EnterOk Tryz.prog 130 := ⟨_, Tryz.func130, rfl, by decide⟩
theorem s_cut : Sound Tryz.prog 130 ctCut := by
  intro args os hp φ w rargs hrel hv hn
  unfold ctCut at hp ⊢
  dsimp only at hp ⊢
  split at hp
  · rename_i s sep
    obtain ⟨hs, h1⟩ : s.size < 4294967281 ∧ sep.size = 1 := hp
    obtain rfl := plainV_R (vals := [.string s, .string sep]) hv
    obtain ⟨m, hm⟩ := glo_max (glo0 hrel)
    refine (Any.strings_Cut { Tryz.lays145 with } s sep m w hs hm).mono ?_
    rintro e w' ⟨rfl, n, rfl⟩
    have hsep := size_one h1
    generalize sep.data.getD 0 0 = c at hsep ⊢
    subst hsep
    exact post_plain hrel rfl rfl (fun φ T w => by simp only [ifp, VR, VRs, CR, vs, vb]; exact ⟨_, rfl, rfl, rfl, rfl, trivial⟩) ⟨rfl, rfl, rfl, Nat.le_refl _, fun _ _ => rfl⟩
  · exact hp.elim
@[go_sem] def ctJoin : Ct := ⟨false, [[some .str], []], fun args os => match args, os with
  | [.one (.isl .str xs), .one (.val (.string sep))], [] => ifp (xs.length ≤ 140737488355328 ∧ (joinV sep xs).size ≤ 140737488355328) (vs (joinV sep xs))
  | _, _ => no⟩
theorem s_join_e : EnterOk Tryz.prog 129 := ⟨_, Tryz.func129, rfl, by decide⟩
theorem join_extra : Builder.Extra Tryz.prog Tryz.lays156_ren where
  sizeBuilder := by kernel_rfl
  liesBuilder := by kernel_rfl
  t5 := Tryz.lays146.t5
  a5 := Tryz.lays146.a5
  z5 := Tryz.lays146.z5
  v5 := Tryz.lays146.v5
  infoByte := by kernel_rfl
  cellsByte := by kernel_rfl
  sizeByte := by kernel_rfl
  neB5 := by decide
theorem s_join : Sound Tryz.prog 129 ctJoin := by
  intro args os hp φ w rargs hrel hv hn
  unfold ctJoin at hp ⊢
  dsimp only at hp ⊢
  split at hp
  · rename_i xs sep
    obtain ⟨h1, h2⟩ : xs.length ≤ 140737488355328 ∧ (joinV sep xs).size ≤ 140737488355328 := hp
    obtain ⟨v0, v1, rfl⟩ : ∃ v0 v1, rargs = [v0, v1] := by
      match rargs, hv with
      | [v0, v1], _ => exact ⟨v0, v1, rfl⟩
      | [], hv => simp [VRs] at hv
      | [_], hv => simp [VRs] at hv
      | _ :: _ :: _ :: _, hv => simp [VRs] at hv
    simp only [VRs, VR, CR] at hv
    obtain ⟨⟨a, cap, rfl, hcap, hnone, hspot, hcells⟩, rfl, -⟩ := hv
    have hlen : (Lib.join (xs.map (·.data.toList)) sep.data.toList).length ≤ 140737488355328 := h2
    have fin : ∀ (e : Ending) (w' : World), e = .returned (.string ⟨(Lib.join (xs.map (·.data.toList)) sep.data.toList).toArray⟩) ∧ Below w.heap.size w w' → Post φ (tabOf []) w 0 (ifp (xs.length ≤ 140737488355328 ∧ (joinV sep xs).size ≤ 140737488355328) (vs (joinV sep xs))) e w' := by
      rintro e w' ⟨rfl, hb⟩
      exact post_plain hrel rfl rfl (fun φ T w => by simp only [ifp, VR, CR, vs]; rfl) hb
    match xs, hcells, fin, h1, hcap, hlen with
    | [], _, fin, _, _, _ =>
      refine (Any.strings_Join_none Tryz.lays156 join_extra a cap sep w).mono fun e w' h => fin _ _ ⟨h.1, ?_⟩
      rw [h.2]; exact Below.refl _ _
    | x :: xs, hcells, fin, h1, hcap, hlen =>
      obtain ⟨b, o, rfl, himm, hat⟩ := hcells (by simp)
      exact (Any.strings_Join Tryz.lays156 join_extra b o cap (x :: xs) sep w (fun j y hy => by
        have hfl := flat_str (x :: xs)
        refine hat j (.string y) ?_
        rw [hfl, List.getElem?_map, hy]; rfl) himm.1 h1 hcap hlen).mono fun e w' h => fin _ _ h
  · exact hp.elim
/-- A number that is read, or none. -/
def atoiV (s : ByteArray) : Option Int := match Lib.atoiAll s.data.toList with
  | .ok v => some v
  | _ => none
def atoiN (s : ByteArray) : Int := match Lib.atoiAll s.data.toList with
  | .ok v => v
  | .range => Lib.atoiSat s.data.toList
  | _ => 0
@[go_sem] def ctAtoi : Ct := ⟨false, [], fun args os => match args, os with
  | [.one (.val (.string s))], [] => ifp (s.size ≤ 281474976710656) (.tup [vi (atoiN s), match atoiV s with | some _ => .one (.val .nilIface) | none => .one .ifc])
  | _, _ => no⟩
theorem s_atoi_e : EnterOk Tryz.prog 108 := ⟨_, Tryz.func108, rfl, by decide⟩
theorem s_atoi : Sound Tryz.prog 108 ctAtoi := by
  intro args os hp φ w rargs hrel hv hn
  unfold ctAtoi at hp ⊢
  dsimp only at hp ⊢
  split at hp
  · rename_i s
    have hs : s.size ≤ 281474976710656 := hp
    obtain rfl := plainV_R (vals := [.string s]) hv
    have hg := glo0 hrel
    have err : ∀ n, n ∈ gloL → True := fun _ _ => trivial
    have var : ∀ (nm : String) (g : Nat), Tryz.prog.globalNamed nm = some g → (∃ c e f, w.heap[g]? = some (.cells c e f) ∧ ∃ t p, c = #[.iface t p]) → ∃ t p, w.var? Tryz.prog nm = some #[.iface t p] := by
      rintro nm g h1 ⟨c, e, f, h2, t, p, rfl⟩
      refine ⟨t, p, ?_⟩
      unfold World.var?
      rw [h1]
      simp only [Option.bind_some, h2]
    have fin : ∀ (e : Ending) (w' : World) (r : Value), e = .returned r → (∀ φ T w, VR φ T w (ifp (s.size ≤ 281474976710656) (.tup [vi (atoiN s), match atoiV s with | some _ => .one (.val .nilIface) | none => .one .ifc])).v r) → Below w.heap.size w w' → Post φ (tabOf []) w 0 (ifp (s.size ≤ 281474976710656) (.tup [vi (atoiN s), match atoiV s with | some _ => .one (.val .nilIface) | none => .one .ifc])) e w' := by
      rintro e w' r rfl h2 h3
      exact post_plain hrel rfl rfl h2 h3
    cases ha : Lib.atoiAll s.data.toList
    · rename_i v
      have e1 : atoiV s = some v := by unfold atoiV; rw [ha]
      have e2 : atoiN s = v := by unfold atoiN; rw [ha]
      refine (Any.strconv_Atoi_ok Tryz.lays172 s (by omega) v ha w).mono ?_
      rintro e w' ⟨he, hw⟩
      refine fin _ _ _ he (fun φ T w => ?_) ?_
      · simp only [ifp, e1, e2, VR, VRs, CR, vi]
        exact ⟨_, rfl, rfl, rfl, trivial⟩
      · rcases hw with rfl | ⟨t, rfl⟩
        · exact Below.refl _ _
        · exact Lib.bytesWorld_below _ _ _
    · have e1 : atoiV s = none := by unfold atoiV; rw [ha]
      have e2 : atoiN s = 0 := by unfold atoiN; rw [ha]
      obtain ⟨t, p, hvar⟩ := var "strconv.ErrSyntax" _ (by kernel_rfl) (hg (0, fun c => ∃ t p, c = #[.iface t p]) (by simp [gloL]))
      refine (Any.strconv_Atoi_syntax_var Tryz.lays172 s hs ha t p w hvar).mono ?_
      rintro e w' ⟨N, he, -, -, hb⟩
      refine fin _ _ _ he (fun φ T w => ?_) hb
      simp only [ifp, e1, e2, VR, VRs, CR, vi]
      exact ⟨_, rfl, rfl, ⟨_, _, rfl⟩, trivial⟩
    · have e1 : atoiV s = none := by unfold atoiV; rw [ha]
      have e2 : atoiN s = Lib.atoiSat s.data.toList := by unfold atoiN; rw [ha]
      obtain ⟨t, p, hvar⟩ := var "strconv.ErrRange" _ (by kernel_rfl) (hg (1, fun c => ∃ t p, c = #[.iface t p]) (by simp [gloL]))
      refine (Any.strconv_Atoi_range_var Tryz.lays172 s hs ha t p w hvar).mono ?_
      rintro e w' ⟨N, he, -, -, hb⟩
      refine fin _ _ _ he (fun φ T w => ?_) hb
      simp only [ifp, e1, e2, VR, VRs, CR, vi]
      exact ⟨_, rfl, rfl, ⟨_, _, rfl⟩, trivial⟩
  · exact hp.elim
end Go.Proofs.YtjedcphhajlnoaaGreatDoor
/- Functions: the reference's disks. -/
namespace Go.Proofs.YtjedcphhajlnoaaGreatDoor
open Go.RowKit

/-- What fits a sector. -/
def fits (n : Nat) (side at_ : Int) (t : ByteArray) : Bool := (decide (0 ≤ side) && decide (side ≤ 1)) && (decide (0 ≤ at_) && decide (at_ < (n : Int))) && decide (t.size ≤ 420)
@[go_sem] def ctThere : Ct := ⟨false, [[some .str, some .str, some .late]], fun args os => match args, os with
  | [.agg [.isl .str a, .isl .str b, .isl .late l], .one (.val (.int .i64 s)), .one (.val (.int .i64 k)), .one (.val (.string t))], [] => is (vb (fits a.length s k t))
  | _, _ => no⟩
theorem s_there_e : EnterOk Tryz.prog 93 := ⟨_, Tryz.func93, rfl, by decide⟩
@[go_sem] def s_there_lv : List (List Nat) := [[1, 2, 3, 4], [8]]
@[go_sem] noncomputable def s_there_K : Known := Known.nil
set_option maxHeartbeats 8000000 in
theorem s_there : Sound Tryz.prog 93 ctThere := by
  have ke := s_there_K.env []
  have kl : Lives s_there_lv := trivial
  refine sound_intro (E := ⟨ti, s_there_K.Γ, []⟩) ke Tryz.func93 Tryz.ntmps93 rfl (rs := [.tmp 8]) rfl ?_
  intro args os hp
  unfold ctThere at hp ⊢
  dsimp only at hp ⊢
  split at hp
  · rename_i a b l s k t
    refine ⟨by simp, fun φ0 w0 => ?_⟩
    clear hp
    refine goh trivial ?_
    refine ⟨by (simp only [go_sem, ↓reduceIte, reduceCtorEq, Nat.reduceAdd, Nat.reduceLT, Nat.reduceLeDiff, Nat.reduceEqDiff]) <;> trivial, [], ?_⟩
    all_goals try simp only [go_sem, inj_r, ↓reduceIte, reduceCtorEq, Nat.reduceAdd, Nat.reduceLT, Nat.reduceLeDiff, Nat.reduceEqDiff, Int.reduceEq]
    all_goals (repeat' refine And.intro ?_ ?_) <;> try exact shut7
    unfold fits
    by_cases e1 : 0 ≤ s <;> by_cases e2 : s ≤ 1 <;> by_cases e3 : 0 ≤ k <;> by_cases e4 : k < (a.length : Int) <;> simp [e1, e2, e3, e4]
    all_goals omega
  · simp [no, ifp] at hp

theorem s_copy_e : EnterOk Tryz.prog 85 := ⟨_, Tryz.func85, rfl, by decide⟩
@[go_sem] def s_copy_lv : List (List Nat) := [[1, 2], [2]]
@[go_sem] noncomputable def s_copy_K : Known := Known.nil
set_option maxHeartbeats 8000000 in
theorem s_copy : Sound Tryz.prog 85 ctOwn := by
  have ke := s_copy_K.env []
  have kl : Lives s_copy_lv := trivial
  refine sound_intro (E := ⟨ti, s_copy_K.Γ, []⟩) ke Tryz.func85 Tryz.ntmps85 rfl (rs := [.cell 2 39]) rfl ?_
  intro args os hp
  unfold ctOwn at hp ⊢
  dsimp only at hp ⊢
  split at hp
  · rename_i a b l
    refine ⟨by simp, fun φ0 w0 => ?_⟩
    obtain ⟨h1, h2, h3⟩ : a.length ≤ 4000000 ∧ b.length ≤ 4000000 ∧ l.length ≤ 4000000 := hp
    refine goh trivial ?_
    exact finh [some 3, some 5, some 7] trivial
  · simp [no] at hp

theorem any_false {α : Type} {p : α → Bool} {xs : List α} (d : α) : xs.any p = false ↔ ∀ j, j < xs.length → p (xs.getD j d) = false := by
  rw [List.any_eq_false]
  constructor
  · intro h j hj
    simpa [List.getD_eq_getElem?_getD, List.getElem?_eq_getElem hj] using h _ (List.getElem_mem hj)
  · intro h x hx
    obtain ⟨j, hj, rfl⟩ := List.getElem_of_mem hx
    simpa [List.getD_eq_getElem?_getD, List.getElem?_eq_getElem hj] using h j hj
theorem Dk.ok_iff (d : Dk) : d.ok = true ↔ 1 ≤ d.a.length ∧ d.a.length ≤ 120 ∧ d.b.length = d.a.length ∧ d.l.length ≤ 600 ∧ (∀ j, j < d.a.length → long (d.a.getD j ET.str.dflt) = false) ∧ (∀ j, j < d.b.length → long (d.b.getD j ET.str.dflt) = false) ∧ (∀ j, j < d.l.length → badLate d.a.length (d.l.getD j ET.late.dflt) = false) := by
  unfold Dk.ok
  simp only [Bool.and_eq_true, decide_eq_true_eq, Bool.not_eq_true', any_false ET.str.dflt, any_false (α := Late) ET.late.dflt]
  constructor
  · rintro ⟨⟨⟨⟨⟨⟨h1, h2⟩, h3⟩, h4⟩, h5⟩, h6⟩, h7⟩
    exact ⟨by omega, by omega, h3, h6, h4, h5, h7⟩
  · rintro ⟨h1, h2, h3, h6, h4, h5, h7⟩
    exact ⟨⟨⟨⟨⟨⟨by omega, by omega⟩, h3⟩, h4⟩, h5⟩, h6⟩, h7⟩
theorem Dk.notOk {d : Dk} (h : d.ok = true → False) : d.ok = false := by
  cases hd : d.ok with
  | true => exact (h hd).elim
  | false => rfl
theorem fits_bad (n : Nat) (w : Late) : fits n w.side w.at_ w.text = !(badLate n w) := by
  unfold fits badLate sector long
  by_cases e1 : 0 ≤ w.side <;> by_cases e2 : w.side ≤ 1 <;> by_cases e3 : 0 ≤ w.at_ <;> simp [e1, e2, e3]
  by_cases e4 : w.at_ < (n : Int)
  · have : w.at_ ≤ (n : Int) - 1 := by omega
    by_cases e5 : w.text.size ≤ 420
    · have : ¬ 420 < w.text.size := by omega
      simp [*]
    · have : 420 < w.text.size := by omega
      simp [*]
  · have : ¬ w.at_ ≤ (n : Int) - 1 := by omega
    simp [e4, this]
@[go_sem] def sgOk1 (a b : List ByteArray) (l : List Late) (i : Nat) : Sg := ⟨[(1, .one (.ptr 0 0)), (3, vi a.length), (4, vi i)], [some (.cells [.isl .str a, .isl .str b, .isl .late l])], []⟩
@[go_sem] def sgOk2 (a b : List ByteArray) (l : List Late) (i : Nat) : Sg := ⟨[(1, .one (.ptr 0 0)), (5, vi i)], [some (.cells [.isl .str a, .isl .str b, .isl .late l])], []⟩
theorem s_specDiskOk_e : EnterOk Tryz.prog 28 := ⟨_, Tryz.func28, rfl, by decide⟩
@[go_sem] def s_specDiskOk_lv : List (List Nat) := [[1], [1, 3], [1, 3, 29], [2], [1, 3, 4], [1, 3, 4, 32], [1, 3, 4], [1, 3, 4, 52], [2], [1, 5], [1, 5, 57], [1, 5], [1, 5, 80], [2], [2]]
@[go_sem] noncomputable def s_specDiskOk_K : Known := (Known.nil).cons 93 ctThere s_there s_there_e
set_option maxHeartbeats 8000000 in
theorem s_specDiskOk : Sound Tryz.prog 28 ctDiskOk := by
  have ke := s_specDiskOk_K.env []
  have kl : Lives s_specDiskOk_lv := trivial
  refine sound_intro (E := ⟨ti, s_specDiskOk_K.Γ, []⟩) ke Tryz.func28 Tryz.ntmps28 rfl (rs := [.tmp 2]) rfl ?_
  intro args os hp
  unfold ctDiskOk at hp ⊢
  dsimp only at hp ⊢
  split at hp
  · rename_i a b l
    refine ⟨by simp, fun φ0 w0 => ?_⟩
    obtain ⟨h1, h2, h3⟩ : a.length ≤ 4000000 ∧ b.length ≤ 4000000 ∧ l.length ≤ 4000000 := hp
    refine goh trivial ?_
    refine W_cond _ (by exact rfl) (by exact trivial) ?_ ?_ <;> intro hc
    · refine goh trivial ?_
      refine ⟨by (simp only [go_sem, ↓reduceIte, reduceCtorEq, Nat.reduceAdd, Nat.reduceLT, Nat.reduceLeDiff, Nat.reduceEqDiff]) <;> trivial, [], ?_⟩
      all_goals try simp only [go_sem, inj_r, ↓reduceIte, reduceCtorEq, Nat.reduceAdd, Nat.reduceLT, Nat.reduceLeDiff, Nat.reduceEqDiff, Int.reduceEq]
      all_goals (repeat' refine And.intro ?_ ?_) <;> try exact shut7
      refine (Dk.notOk fun hok => ?_).symm
      obtain ⟨q1, q2, q3, q4, -⟩ := (Dk.ok_iff _).1 hok
      simp only at q1 q2 q3 q4
      have e1 : ¬ (a.length : Int) < 1 := by omega
      have e2 : ¬ (a.length : Int) > 120 := by omega
      have e3 : ((b.length : Int) != (a.length : Int)) = false := by simp; omega
      have e4 : ¬ (l.length : Int) > 600 := by omega
      simp [e1, e2, e3, e4] at hc
    · obtain ⟨g1, g2, g3, g4⟩ : 1 ≤ a.length ∧ a.length ≤ 120 ∧ b.length = a.length ∧ l.length ≤ 600 := by
        by_cases e1 : (a.length : Int) < 1
        · simp [e1] at hc
        · by_cases e2 : (a.length : Int) > 120
          · simp [e1, e2] at hc
          · by_cases e3 : b.length = a.length
            · by_cases e4 : (l.length : Int) > 600
              · simp [e1, e2, e3, e4] at hc
              · exact ⟨by omega, by omega, e3, by omega⟩
            · have e3' : ((b.length : Int) != (a.length : Int)) = true := by simp; omega
              simp [e1, e2, e3'] at hc
      clear hc
      refine goh trivial ?_
      refine W_le (σ' := sgOk1 a b l 0) [some 0] (by
        simp only [go_sem, inj_r, ↓reduceIte, reduceCtorEq, Nat.reduceAdd, Nat.reduceLT, Nat.reduceLeDiff, Nat.reduceEqDiff, Int.reduceEq]
        all_goals (repeat' refine And.intro ?_ ?_) <;> try exact shut7
        ) ?_
      refine W_loop (fun n σ => ∃ i : Nat, i ≤ a.length ∧ n = a.length - i ∧ (∀ j, j < i → long (a.getD j ET.str.dflt) = false ∧ long (b.getD j ET.str.dflt) = false) ∧ σ = sgOk1 a b l i) a.length ⟨0, by omega, by omega, by omega, rfl⟩ ?_
      rintro n σ ⟨i, hi, rfl, hbef, rfl⟩
      unfold sgOk1
      refine goh trivial ?_
      refine W_cnd ?_ ?_ <;> (try simp only [cnd_r]) <;> intro hlt
      · refine goh trivial ?_
        refine W_cond _ (by exact rfl) (by exact trivial) ?_ ?_ <;> intro hc
        · refine goh trivial ?_
          refine ⟨by (simp only [go_sem, ↓reduceIte, reduceCtorEq, Nat.reduceAdd, Nat.reduceLT, Nat.reduceLeDiff, Nat.reduceEqDiff]) <;> trivial, [], ?_⟩
          all_goals try simp only [go_sem, inj_r, ↓reduceIte, reduceCtorEq, Nat.reduceAdd, Nat.reduceLT, Nat.reduceLeDiff, Nat.reduceEqDiff, Int.reduceEq]
          all_goals (repeat' refine And.intro ?_ ?_) <;> try exact shut7
          refine (Dk.notOk fun hok => ?_).symm
          obtain ⟨-, -, -, -, q5, q6, -⟩ := (Dk.ok_iff _).1 hok
          have q5 := q5 i (show i < a.length by omega)
          have q6 := q6 i (show i < b.length by omega)
          simp only [long, decide_eq_false_iff_not] at q5 q6
          split at hc
          · omega
          · simp only [decide_eq_true_eq] at hc; omega
        · obtain ⟨q5, q6⟩ : long (a.getD i ET.str.dflt) = false ∧ long (b.getD i ET.str.dflt) = false := by
            simp only [long, decide_eq_false_iff_not]
            split at hc
            · cases hc
            · simp only [decide_eq_false_iff_not] at hc; exact ⟨by omega, by omega⟩
          clear hc
          refine goh trivial ?_
          refine ⟨a.length - (i + 1), [some 0], sgOk1 a b l (i + 1), by omega, ?_, i + 1, by omega, rfl, fun j hj => ?_, rfl⟩
          · exact leh trivial
          · rcases Nat.lt_succ_iff_lt_or_eq.1 hj with h | rfl
            · exact hbef j h
            · exact ⟨q5, q6⟩
      · refine goh trivial ?_
        have hi' : i = a.length := by omega
        subst hi'
        refine W_le (σ' := sgOk2 a b l 0) [some 0] (by
          simp only [go_sem, inj_r, ↓reduceIte, reduceCtorEq, Nat.reduceAdd, Nat.reduceLT, Nat.reduceLeDiff, Nat.reduceEqDiff, Int.reduceEq]
          all_goals (repeat' refine And.intro ?_ ?_) <;> try exact shut7
          ) ?_
        refine W_loop (fun n σ => ∃ i : Nat, i ≤ l.length ∧ n = l.length - i ∧ (∀ j, j < i → badLate a.length (l.getD j ET.late.dflt) = false) ∧ σ = sgOk2 a b l i) l.length ⟨0, by omega, by omega, by omega, rfl⟩ ?_
        rintro n σ ⟨i, hi, rfl, hbef2, rfl⟩
        unfold sgOk2
        refine goh trivial ?_
        refine W_cnd ?_ ?_ <;> (try simp only [cnd_r]) <;> intro hlt2
        · refine goh trivial ?_
          refine W_cond _ (by exact rfl) (by exact trivial) ?_ ?_ <;> intro hc <;> rw [fits_bad] at hc
          · refine goh trivial ?_
            refine ⟨by (simp only [go_sem, ↓reduceIte, reduceCtorEq, Nat.reduceAdd, Nat.reduceLT, Nat.reduceLeDiff, Nat.reduceEqDiff]) <;> trivial, [], ?_⟩
            all_goals try simp only [go_sem, inj_r, ↓reduceIte, reduceCtorEq, Nat.reduceAdd, Nat.reduceLT, Nat.reduceLeDiff, Nat.reduceEqDiff, Int.reduceEq]
            all_goals (repeat' refine And.intro ?_ ?_) <;> try exact shut7
            refine (Dk.notOk fun hok => ?_).symm
            obtain ⟨-, -, -, -, -, -, q7⟩ := (Dk.ok_iff _).1 hok
            have q7 := q7 i (show i < l.length by omega)
            simp only at q7
            rw [q7] at hc; cases hc
          · refine goh trivial ?_
            refine ⟨l.length - (i + 1), [some 0], sgOk2 a b l (i + 1), by omega, ?_, i + 1, by omega, rfl, fun j hj => ?_, rfl⟩
            · exact leh trivial
            · rcases Nat.lt_succ_iff_lt_or_eq.1 hj with h | rfl
              · exact hbef2 j h
              · simpa using hc
        · refine goh trivial ?_
          refine ⟨by (simp only [go_sem, ↓reduceIte, reduceCtorEq, Nat.reduceAdd, Nat.reduceLT, Nat.reduceLeDiff, Nat.reduceEqDiff]) <;> trivial, [], ?_⟩
          all_goals try simp only [go_sem, inj_r, ↓reduceIte, reduceCtorEq, Nat.reduceAdd, Nat.reduceLT, Nat.reduceLeDiff, Nat.reduceEqDiff, Int.reduceEq]
          all_goals (repeat' refine And.intro ?_ ?_) <;> try exact shut7
          exact ((Dk.ok_iff _).2 ⟨g1, g2, g3, g4, fun j hj => (hbef j hj).1, fun j hj => (hbef j (by simp only at hj; omega)).2, fun j hj => hbef2 j (by simp only at hj; omega)⟩).symm
  · simp [no, ifp] at hp
end Go.Proofs.YtjedcphhajlnoaaGreatDoor
/- Functions: writes, flushes. -/
namespace Go.Proofs.YtjedcphhajlnoaaGreatDoor
open Go.RowKit

def Dk.nil : Dk := ⟨[], [], []⟩
/-- May a write be appended? -/
def Dk.may (d : Dk) (s k : Int) (t : ByteArray) : Bool := fits d.a.length s k t && decide (d.l.length < 600)
def Dk.add (d : Dk) (s k : Int) (t : ByteArray) : Dk := ⟨d.a, d.b, d.l ++ [⟨s, k, t⟩]⟩
/-- A write to a disk. -/
def dkWrite (d : Dk) (s k : Int) (t : ByteArray) : Dk := if d.ok then if d.may s k t then d.add s k t else d else .nil
def dkWrites (d : Dk) (s k : Int) (t : ByteArray) : Bool := d.ok && d.may s k t
theorem Dk.ok_small {d : Dk} (h : d.ok = true) : d.a.length ≤ 120 ∧ d.b.length ≤ 120 ∧ d.l.length ≤ 600 := by
  obtain ⟨h1, h2, h3, h4, -⟩ := (Dk.ok_iff d).1 h
  omega
@[go_sem] def ctDiskWrite : Ct := ⟨false, [[some .str, some .str, some .late]], fun args os => match args, os with
  | [.agg [.isl .str a, .isl .str b, .isl .late l], .one (.val (.int .i64 s)), .one (.val (.int .i64 k)), .one (.val (.string t))], [] => ⟨(Dk.mk a b l).small, .tup [(dkWrite ⟨a, b, l⟩ s k t).v 0, vb (dkWrites ⟨a, b, l⟩ s k t)], [], (dkWrite ⟨a, b, l⟩ s k t).objs⟩
  | _, _ => no⟩
theorem s_specWrite_e : EnterOk Tryz.prog 86 := ⟨_, Tryz.func86, rfl, by decide⟩
@[go_sem] def s_specWrite_lv : List (List Nat) := [[1, 2, 3, 4, 8], [1, 2, 3, 4, 8, 13], [8, 9], [1, 2, 3, 4, 8, 10], [1, 2, 3, 8, 10, 28], [8, 9], [8, 10], [8, 9]]
@[go_sem] noncomputable def s_specWrite_K : Known := (((Known.nil).cons 28 ctDiskOk s_specDiskOk s_specDiskOk_e).cons 85 ctOwn s_copy s_copy_e).cons 93 ctThere s_there s_there_e
set_option maxHeartbeats 8000000 in
theorem s_specWrite : Sound Tryz.prog 86 ctDiskWrite := by
  have ke := s_specWrite_K.env []
  have kl : Lives s_specWrite_lv := trivial
  refine sound_intro (E := ⟨ti, s_specWrite_K.Γ, []⟩) ke Tryz.func86 Tryz.ntmps86 rfl (rs := [.cell 8 39, .tmp 9]) rfl ?_
  intro args os hp
  unfold ctDiskWrite at hp ⊢
  dsimp only at hp ⊢
  split at hp
  · rename_i a b l s k t
    refine ⟨by simp, fun φ0 w0 => ?_⟩
    obtain ⟨h1, h2, h3⟩ : a.length ≤ 4000000 ∧ b.length ≤ 4000000 ∧ l.length ≤ 4000000 := hp
    refine goh trivial ?_
    refine W_cnd ?_ ?_ <;> (try simp only [cnd_r]) <;> intro hok
    · have e1 : dkWrite ⟨a, b, l⟩ s k t = .nil := by unfold dkWrite; rw [hok]; rfl
      have e2 : dkWrites ⟨a, b, l⟩ s k t = false := by unfold dkWrites; rw [hok]; rfl
      refine goh trivial ?_
      refine ⟨by (simp only [go_sem, e1, e2, Dk.nil, ↓reduceIte, reduceCtorEq, Nat.reduceAdd, Nat.reduceLT, Nat.reduceLeDiff, Nat.reduceEqDiff]) <;> trivial, [none, none, none], ?_⟩
      all_goals try simp only [go_sem, e1, e2, Dk.nil, inj_r, ↓reduceIte, reduceCtorEq, Nat.reduceAdd, Nat.reduceLT, Nat.reduceLeDiff, Nat.reduceEqDiff, Int.reduceEq]
      all_goals (repeat' refine And.intro ?_ ?_) <;> try exact shut7
    · have e3 : a.length ≤ 120 ∧ b.length ≤ 120 ∧ l.length ≤ 600 := Dk.ok_small hok
      have e1 : dkWrite ⟨a, b, l⟩ s k t = if (Dk.mk a b l).may s k t then (Dk.mk a b l).add s k t else ⟨a, b, l⟩ := by unfold dkWrite; rw [hok]; rfl
      have e2 : dkWrites ⟨a, b, l⟩ s k t = (Dk.mk a b l).may s k t := by unfold dkWrites; rw [hok]; rfl
      refine goh trivial ?_
      refine W_cond _ (by exact rfl) (by exact trivial) ?_ ?_ <;> intro hc
      · have hm : (Dk.mk a b l).may s k t = false := by
          unfold Dk.may
          cases hf : fits a.length s k t with
          | false => rfl
          | true => rw [hf] at hc; simp at hc; simp; omega
        refine goh trivial ?_
        exact finh [some 2, some 3, some 4] (And.intro e1 (And.intro e2 hm))
      · have hm : (Dk.mk a b l).may s k t = true := by
          unfold Dk.may
          cases hf : fits a.length s k t with
          | false => rw [hf] at hc; simp at hc
          | true => rw [hf] at hc; simp at hc; simp; omega
        refine goh trivial ?_
        refine ⟨by (simp only [go_sem, e1, e2, hm, Dk.add, ↓reduceIte, reduceCtorEq, Nat.reduceAdd, Nat.reduceLT, Nat.reduceLeDiff, Nat.reduceEqDiff]) <;> trivial, [some 2, some 3, some 7], ?_⟩
        all_goals try simp only [go_sem, e1, e2, hm, Dk.add, inj_r, ↓reduceIte, reduceCtorEq, Nat.reduceAdd, Nat.reduceLT, Nat.reduceLeDiff, Nat.reduceEqDiff, Int.reduceEq]
        all_goals (repeat' refine And.intro ?_ ?_) <;> try exact shut7
  · simp [no] at hp
/-- The two sides, a write performed. -/
def putW (x : List ByteArray × List ByteArray) (w : Late) : List ByteArray × List ByteArray := if w.side = 0 then (x.1.set w.at_.toNat w.text, x.2) else (x.1, x.2.set w.at_.toNat w.text)
theorem putW_len (x : List ByteArray × List ByteArray) (w : Late) : (putW x w).1.length = x.1.length ∧ (putW x w).2.length = x.2.length := by
  unfold putW; split <;> simp
def Dk.done (d : Dk) (n : Nat) : List ByteArray × List ByteArray := (d.l.take n).foldl putW (d.a, d.b)
theorem Dk.done_zero (d : Dk) : d.done 0 = (d.a, d.b) := by simp [Dk.done]
theorem take_succ_getD {α : Type} (l : List α) (n : Nat) (d : α) (h : n < l.length) : l.take (n + 1) = l.take n ++ [l.getD n d] := by
  rw [List.take_succ_eq_append_getElem h, List.getD_eq_getElem?_getD, List.getElem?_eq_getElem h]; rfl
theorem Dk.done_succ (d : Dk) (n : Nat) (h : n < d.l.length) : d.done (n + 1) = putW (d.done n) (d.l.getD n ET.late.dflt) := by
  unfold Dk.done
  rw [take_succ_getD _ _ ET.late.dflt h, List.foldl_append]; rfl
theorem Dk.done_len (d : Dk) : ∀ n, (d.done n).1.length = d.a.length ∧ (d.done n).2.length = d.b.length := by
  intro n
  unfold Dk.done
  generalize d.l.take n = l
  have : ∀ (l : List Late) (x : List ByteArray × List ByteArray), (l.foldl putW x).1.length = x.1.length ∧ (l.foldl putW x).2.length = x.2.length := by
    intro l
    induction l with
    | nil => intro x; exact ⟨rfl, rfl⟩
    | cons w l ih => intro x; rw [List.foldl_cons, (ih _).1, (ih _).2]; exact putW_len x w
  exact this l (d.a, d.b)
/-- All writes performed. -/
def Dk.flushed (d : Dk) : Dk := ⟨(d.done d.l.length).1, (d.done d.l.length).2, []⟩
def dkFlush (d : Dk) : Dk := if d.ok then d.flushed else .nil
@[go_sem] def ctDiskFlush : Ct := ⟨false, [[some .str, some .str, some .late]], fun args os => match args, os with
  | [.agg [.isl .str a, .isl .str b, .isl .late l]], [] => ⟨(Dk.mk a b l).small, (dkFlush ⟨a, b, l⟩).v 0, [], (dkFlush ⟨a, b, l⟩).objs⟩
  | _, _ => no⟩
theorem Dk.ok_late {d : Dk} (h : d.ok = true) (i : Nat) (hi : i < d.l.length) : ((d.l.getD i ET.late.dflt).side = 0 ∨ (d.l.getD i ET.late.dflt).side = 1) ∧ 0 ≤ (d.l.getD i ET.late.dflt).at_ ∧ (d.l.getD i ET.late.dflt).at_ < d.a.length ∧ (d.l.getD i ET.late.dflt).text.size ≤ 420 := by
  obtain ⟨-, -, -, -, -, -, h7⟩ := (Dk.ok_iff d).1 h
  have := h7 i hi
  unfold badLate sector long at this
  simp only [Bool.or_eq_false_iff, Bool.not_eq_false', Bool.and_eq_true, decide_eq_true_eq, decide_eq_false_iff_not] at this
  omega
@[go_sem] def sgFlush (a b : List ByteArray) (l : List Late) (x : List ByteArray × List ByteArray) (i : Nat) : Sg := ⟨[(1, .one (.ptr 0 0)), (2, .one (.ptr 1 0)), (3, .one (.ptr 5 0)), (4, vi i)],
  [some (.cells [.isl .str a, .isl .str b, .isl .late l]), some (.cells [.val (.slice none 0 0), .val (.slice none 0 0), .val (.slice none 0 0)]), some (.arr .str x.1), some (.arr .str x.2), some (.arr .late l), some (.cells [.osl .str 2 0 x.1.length, .osl .str 3 0 x.2.length, .osl .late 4 0 l.length])], []⟩
theorem s_specFlush_e : EnterOk Tryz.prog 118 := ⟨_, Tryz.func118, rfl, by decide⟩
@[go_sem] def s_specFlush_lv : List (List Nat) := [[1, 2], [1, 2, 7], [2], [1, 2, 3], [1, 2, 3, 4], [1, 2, 3, 4, 15], [1, 2, 3, 4], [1, 2, 3, 4], [2, 3], [2]]
@[go_sem] noncomputable def s_specFlush_K : Known := ((Known.nil).cons 28 ctDiskOk s_specDiskOk s_specDiskOk_e).cons 85 ctOwn s_copy s_copy_e
set_option maxHeartbeats 8000000 in
theorem s_specFlush : Sound Tryz.prog 118 ctDiskFlush := by
  have ke := s_specFlush_K.env []
  have kl : Lives s_specFlush_lv := trivial
  refine sound_intro (E := ⟨ti, s_specFlush_K.Γ, []⟩) ke Tryz.func118 Tryz.ntmps118 rfl (rs := [.cell 2 39]) rfl ?_
  intro args os hp
  unfold ctDiskFlush at hp ⊢
  dsimp only at hp ⊢
  split at hp
  · rename_i a b l
    refine ⟨by simp, fun φ0 w0 => ?_⟩
    obtain ⟨h1, h2, h3⟩ : a.length ≤ 4000000 ∧ b.length ≤ 4000000 ∧ l.length ≤ 4000000 := hp
    refine goh trivial ?_
    refine W_cnd ?_ ?_ <;> (try simp only [cnd_r]) <;> intro hok
    · have e1 : dkFlush ⟨a, b, l⟩ = .nil := by unfold dkFlush; rw [hok]; rfl
      refine goh trivial ?_
      refine ⟨by (simp only [go_sem, e1, Dk.nil, ↓reduceIte, reduceCtorEq, Nat.reduceAdd, Nat.reduceLT, Nat.reduceLeDiff, Nat.reduceEqDiff]) <;> trivial, [none, none, none], ?_⟩
      all_goals try simp only [go_sem, e1, Dk.nil, inj_r, ↓reduceIte, reduceCtorEq, Nat.reduceAdd, Nat.reduceLT, Nat.reduceLeDiff, Nat.reduceEqDiff, Int.reduceEq]
      all_goals (repeat' refine And.intro ?_ ?_) <;> try exact shut7
    · have e1 : dkFlush ⟨a, b, l⟩ = (Dk.mk a b l).flushed := by unfold dkFlush; rw [hok]; rfl
      refine goh trivial ?_
      refine W_le (σ' := sgFlush a b l ((Dk.mk a b l).done 0) 0) [some 0, some 1, some 2, some 3, some 4, some 5] (by
        simp only [go_sem, Dk.done_zero, inj_r, ↓reduceIte, reduceCtorEq, Nat.reduceAdd, Nat.reduceLT, Nat.reduceLeDiff, Nat.reduceEqDiff, Int.reduceEq]
        all_goals (repeat' refine And.intro ?_ ?_) <;> try exact shut7
        ) ?_
      refine W_loop (fun n σ => ∃ i : Nat, i ≤ l.length ∧ n = l.length - i ∧ σ = sgFlush a b l ((Dk.mk a b l).done i) i) l.length ⟨0, by omega, by omega, rfl⟩ ?_
      rintro n σ ⟨i, hi, rfl, rfl⟩
      obtain ⟨hl1, hl2⟩ := (Dk.mk a b l).done_len i
      simp only at hl1 hl2
      unfold sgFlush
      refine goh trivial ?_
      refine W_cnd ?_ ?_ <;> (try simp only [cnd_r]) <;> intro hlt
      · have hi' : i < l.length := by omega
        obtain ⟨ws, w1, w2, w3⟩ := Dk.ok_late hok i hi'
        have hd := (Dk.mk a b l).done_succ i hi'
        obtain ⟨-, -, hab, -⟩ := (Dk.ok_iff _).1 hok
        simp only at ws w1 w2 w3 hd hab
        generalize hx : (Dk.mk a b l).done i = x at *
        generalize hw : l.getD i ET.late.dflt = w at *
        obtain ⟨s, k, t⟩ := w
        simp only at ws w1 w2 w3
        rcases ws with rfl | rfl
        all_goals
          refine goh hw ?_
          refine ⟨l.length - (i + 1), [some 0, some 1, some 2, some 3, some 4, some 5], sgFlush a b l ((Dk.mk a b l).done (i + 1)) (i + 1), by omega, ?_, i + 1, by omega, rfl, rfl⟩
          rw [hd]
          simp only [go_sem, putW, List.length_set, inj_r, ↓reduceIte, reduceCtorEq, Nat.reduceAdd, Nat.reduceLT, Nat.reduceLeDiff, Nat.reduceEqDiff, Int.reduceEq]
          all_goals (repeat' refine And.intro ?_ ?_) <;> try exact shut7
      · refine goh trivial ?_
        have : i = l.length := by omega
        subst this
        refine ⟨by (simp only [go_sem, e1, Dk.flushed, ↓reduceIte, reduceCtorEq, Nat.reduceAdd, Nat.reduceLT, Nat.reduceLeDiff, Nat.reduceEqDiff]) <;> trivial, [some 2, some 3, none], ?_⟩
        all_goals try simp only [go_sem, e1, Dk.flushed, inj_r, ↓reduceIte, reduceCtorEq, Nat.reduceAdd, Nat.reduceLT, Nat.reduceLeDiff, Nat.reduceEqDiff, Int.reduceEq]
        all_goals (repeat' refine And.intro ?_ ?_) <;> try exact shut7
  · simp [no] at hp
end Go.Proofs.YtjedcphhajlnoaaGreatDoor
/- Functions: falls. -/
namespace Go.Proofs.YtjedcphhajlnoaaGreatDoor
open Go.RowKit

theorem at_set {α : Type} (xs : List α) (i j : Nat) (v d : α) : (xs.set i v).getD j d = if i = j ∧ j < xs.length then v else xs.getD j d := by
  simp only [List.getD_eq_getElem?_getD, List.getElem?_set]
  by_cases h : i = j
  · subst h
    by_cases h2 : i < xs.length
    · simp [h2]
    · simp [h2]
  · simp [h]
abbrev Two := List ByteArray × List ByteArray
/-- A sector. -/
def sec (x : Two) (s k : Int) : ByteArray := if s = 0 then ET.str.at x.1 k.toNat else ET.str.at x.2 k.toNat
def Sm (x : Two) : Prop := ∀ j : Nat, (x.1.getD j ET.str.dflt).size ≤ 420 ∧ (x.2.getD j ET.str.dflt).size ≤ 420
theorem Sm.sec {x : Two} (h : Sm x) (s k : Int) : (sec x s k).size ≤ 420 := by
  unfold Go.Proofs.YtjedcphhajlnoaaGreatDoor.sec; split
  · exact (h _).1
  · exact (h _).2
theorem Sm.put {x : Two} (h : Sm x) (w : Late) (hw : w.text.size ≤ 420) : Sm (putW x w) := by
  intro j
  unfold putW
  split
  · refine ⟨?_, (h j).2⟩
    simp only [at_set]
    split
    · exact hw
    · exact (h j).1
  · refine ⟨(h j).1, ?_⟩
    simp only [at_set]
    split
    · exact hw
    · exact (h j).2
theorem torn_size (old now : ByteArray) (h1 : old.size ≤ 420) (h2 : now.size ≤ 420) : (torn old now).size ≤ 420 := by
  unfold torn
  split
  · rw [ByteArray.size_append, ByteArray.size_extract, ByteArray.size_extract]; omega
  · rw [ByteArray.size_extract]; omega
/-- What becomes of a write. -/
def fell (f : Int) (x : Two) (w : Late) : Two := if f = 1 then putW x w else if f = 2 then putW x ⟨w.side, w.at_, torn (sec x w.side w.at_) w.text⟩ else x
theorem fell_len (f : Int) (x : Two) (w : Late) : (fell f x w).1.length = x.1.length ∧ (fell f x w).2.length = x.2.length := by
  unfold fell; split
  · exact putW_len x w
  · split
    · exact putW_len x _
    · exact ⟨rfl, rfl⟩
theorem Sm.fell {x : Two} (h : Sm x) (f : Int) (w : Late) (hw : w.text.size ≤ 420) : Sm (fell f x w) := by
  unfold Go.Proofs.YtjedcphhajlnoaaGreatDoor.fell; split
  · exact h.put w hw
  · split
    · exact h.put _ (torn_size _ _ (h.sec _ _) hw)
    · exact h
def Dk.fallN (d : Dk) (fate : List Int) : Nat → Two
  | 0 => (d.a, d.b)
  | n + 1 => fell (ET.int.at fate n) (d.fallN fate n) (ET.late.at d.l n)
theorem Dk.fallN_len (d : Dk) (fate : List Int) : ∀ n, (d.fallN fate n).1.length = d.a.length ∧ (d.fallN fate n).2.length = d.b.length
  | 0 => ⟨rfl, rfl⟩
  | n + 1 => by
    have h := fell_len (ET.int.at fate n) (d.fallN fate n) (ET.late.at d.l n)
    have h' := d.fallN_len fate n
    unfold Dk.fallN; rw [h.1, h.2]; exact h'
theorem Dk.ok_sm {d : Dk} (h : d.ok = true) : Sm (d.a, d.b) := by
  obtain ⟨-, -, -, -, h5, h6, -⟩ := (Dk.ok_iff d).1 h
  intro j
  have e : ∀ xs : List ByteArray, (∀ j, j < xs.length → long (xs.getD j ET.str.dflt) = false) → (xs.getD j ET.str.dflt).size ≤ 420 := by
    intro xs hx
    rcases Nat.lt_or_ge j xs.length with hj | hj
    · have := hx j hj; unfold long at this; simp only [decide_eq_false_iff_not] at this; omega
    · rw [List.getD_eq_getElem?_getD, List.getElem?_eq_none hj]; exact Nat.zero_le _
  exact ⟨e d.a h5, e d.b h6⟩
theorem Dk.fallN_sm {d : Dk} (h : d.ok = true) (fate : List Int) : ∀ n, n ≤ d.l.length → Sm (d.fallN fate n)
  | 0, _ => d.ok_sm h
  | n + 1, hn => (d.fallN_sm h fate n (by omega)).fell _ _ (Dk.ok_late h n (by omega)).2.2.2
def Dk.fallen (d : Dk) (fate : List Int) : Dk := ⟨(d.fallN fate (min d.l.length fate.length)).1, (d.fallN fate (min d.l.length fate.length)).2, []⟩
def dkFall (d : Dk) (fate : List Int) : Dk := if d.ok then d.fallen fate else .nil
@[go_sem] def ctDiskFall : Ct := ⟨false, [[some .str, some .str, some .late], [some .int]], fun args os => match args, os with
  | [.agg [.isl .str a, .isl .str b, .isl .late l], .one (.isl .int fate)], [] => ⟨(Dk.mk a b l).small ∧ fate.length ≤ 4000000, (dkFall ⟨a, b, l⟩ fate).v 0, [], (dkFall ⟨a, b, l⟩ fate).objs⟩
  | _, _ => no⟩
theorem extr_id (s : ByteArray) : s.extract 0 s.size = s := ByteArray.extract_zero_size
@[go_sem] def sgFall (a b : List ByteArray) (l : List Late) (fate : List Int) (x : Two) (i : Nat) : Sg := ⟨[(1, .one (.isl .int fate)), (2, .one (.ptr 0 0)), (4, .one (.ptr 1 0)), (5, .one (.ptr 5 0)), (6, vi i)],
  [some (.cells [.isl .str a, .isl .str b, .isl .late l]), some (.cells [.val (.slice none 0 0), .val (.slice none 0 0), .val (.slice none 0 0)]), some (.arr .str x.1), some (.arr .str x.2), some (.arr .late l), some (.cells [.osl .str 2 0 x.1.length, .osl .str 3 0 x.2.length, .osl .late 4 0 l.length])], []⟩
theorem s_specFall_e : EnterOk Tryz.prog 123 := ⟨_, Tryz.func123, rfl, by decide⟩
@[go_sem] def s_specFall_lv : List (List Nat) := [[1, 2, 4], [1, 2, 4, 10], [4], [1, 2, 4, 5], [1, 2, 4, 5, 6], [1, 2, 4, 5, 6, 24], [1, 2, 4, 5, 6], [1, 2, 4, 5, 6, 7], [1, 2, 4, 5, 6, 7, 35], [1, 2, 4, 5, 6, 7, 35, 36], [1, 2, 4, 5, 6], [1, 2, 4, 5, 6, 7, 48], [1, 2, 4, 5, 6], [4, 5], [4]]
@[go_sem] noncomputable def s_specFall_K : Known := (((Known.nil).cons 28 ctDiskOk s_specDiskOk s_specDiskOk_e).cons 85 ctOwn s_copy s_copy_e).cons 198 ctTorn s_torn s_torn_e
set_option maxHeartbeats 8000000 in
theorem s_specFall : Sound Tryz.prog 123 ctDiskFall := by
  have ke := s_specFall_K.env []
  have kl : Lives s_specFall_lv := trivial
  refine sound_intro (E := ⟨ti, s_specFall_K.Γ, []⟩) ke Tryz.func123 Tryz.ntmps123 rfl (rs := [.cell 4 39]) rfl ?_
  intro args os hp
  unfold ctDiskFall at hp ⊢
  dsimp only at hp ⊢
  split at hp
  · rename_i a b l fate
    refine ⟨by simp, fun φ0 w0 => ?_⟩
    obtain ⟨⟨h1, h2, h3⟩, h4⟩ : (a.length ≤ 4000000 ∧ b.length ≤ 4000000 ∧ l.length ≤ 4000000) ∧ fate.length ≤ 4000000 := hp
    refine goh trivial ?_
    refine W_cnd ?_ ?_ <;> (try simp only [cnd_r]) <;> intro hok
    · have e1 : dkFall ⟨a, b, l⟩ fate = .nil := by unfold dkFall; rw [hok]; rfl
      refine goh trivial ?_
      refine ⟨by (simp only [go_sem, e1, Dk.nil, ↓reduceIte, reduceCtorEq, Nat.reduceAdd, Nat.reduceLT, Nat.reduceLeDiff, Nat.reduceEqDiff]) <;> trivial, [none, none, none], ?_⟩
      all_goals try simp only [go_sem, e1, Dk.nil, inj_r, ↓reduceIte, reduceCtorEq, Nat.reduceAdd, Nat.reduceLT, Nat.reduceLeDiff, Nat.reduceEqDiff, Int.reduceEq]
      all_goals (repeat' refine And.intro ?_ ?_) <;> try exact shut7
    · have e1 : dkFall ⟨a, b, l⟩ fate = (Dk.mk a b l).fallen fate := by unfold dkFall; rw [hok]; rfl
      refine goh trivial ?_
      refine W_le (σ' := sgFall a b l fate ((Dk.mk a b l).fallN fate 0) 0) [some 0, some 1, some 2, some 3, some 4, some 5] (by
        simp only [go_sem, Dk.fallN, inj_r, ↓reduceIte, reduceCtorEq, Nat.reduceAdd, Nat.reduceLT, Nat.reduceLeDiff, Nat.reduceEqDiff, Int.reduceEq]
        all_goals (repeat' refine And.intro ?_ ?_) <;> try exact shut7
        ) ?_
      refine W_loop (fun n σ => ∃ i : Nat, i ≤ min l.length fate.length ∧ n = l.length - i ∧ σ = sgFall a b l fate ((Dk.mk a b l).fallN fate i) i) l.length ⟨0, by omega, by omega, rfl⟩ ?_
      rintro n σ ⟨i, hi, rfl, rfl⟩
      obtain ⟨hl1, hl2⟩ := (Dk.mk a b l).fallN_len fate i
      simp only at hl1 hl2
      unfold sgFall
      refine goh trivial ?_
      refine W_cond _ (by exact rfl) (by exact trivial) ?_ ?_ <;> intro hc
      · obtain ⟨hi1, hi2⟩ : i < l.length ∧ i < fate.length := by
          split at hc
          · simp only [decide_eq_true_eq] at hc; omega
          · cases hc
        clear hc
        obtain ⟨ws, w1, w2, w3⟩ := Dk.ok_late hok i hi1
        have hsm := Dk.fallN_sm hok fate i (show i ≤ l.length by omega)
        have hd : (Dk.mk a b l).fallN fate (i + 1) = fell (fate.getD i ET.int.dflt) ((Dk.mk a b l).fallN fate i) (l.getD i ET.late.dflt) := rfl
        obtain ⟨-, -, hab, -⟩ := (Dk.ok_iff _).1 hok
        simp only at ws w1 w2 w3 hd hab
        generalize hx : (Dk.mk a b l).fallN fate i = x at *
        generalize hw : l.getD i ET.late.dflt = w at *
        generalize hf : fate.getD i ET.int.dflt = f at *
        obtain ⟨s, k, t⟩ := w
        have hz := hsm.sec s k
        unfold sec at hz
        simp only at ws w1 w2 w3
        refine goh (And.intro hw hf) ?_
        refine W_cond _ (by exact rfl) (by exact trivial) ?_ ?_ <;> intro hc
        · obtain rfl : f = 1 := by simpa using hc
          rcases ws with rfl | rfl
          all_goals
            refine goh (And.intro hw hf) ?_
            refine ⟨l.length - (i + 1), [some 0, some 1, some 2, some 3, some 4, some 5], sgFall a b l fate ((Dk.mk a b l).fallN fate (i + 1)) (i + 1), by omega, ?_, i + 1, by omega, rfl, rfl⟩
            rw [hd]
            simp only [go_sem, fell, putW, List.length_set, inj_r, ↓reduceIte, reduceCtorEq, Nat.reduceAdd, Nat.reduceLT, Nat.reduceLeDiff, Nat.reduceEqDiff, Int.reduceEq]
            all_goals (repeat' refine And.intro ?_ ?_) <;> try exact shut7
        · have hf1 : ¬ f = 1 := by simpa using hc
          refine goh (And.intro hw hf) ?_
          refine W_cond _ (by exact rfl) (by exact trivial) ?_ ?_ <;> intro hc2
          · obtain rfl : f = 2 := by simpa using hc2
            rcases ws with rfl | rfl
            all_goals
              simp only [↓reduceIte, Int.reduceEq, ET.at] at hz
              refine goh (And.intro hw hf) ?_
              refine ⟨l.length - (i + 1), [some 0, some 1, some 2, some 3, some 4, some 5], sgFall a b l fate ((Dk.mk a b l).fallN fate (i + 1)) (i + 1), by omega, ?_, i + 1, by omega, rfl, rfl⟩
              rw [hd]
              simp only [go_sem, fell, putW, sec, List.length_set, inj_r, ↓reduceIte, reduceCtorEq, Nat.reduceAdd, Nat.reduceLT, Nat.reduceLeDiff, Nat.reduceEqDiff, Int.reduceEq]
              all_goals (repeat' refine And.intro ?_ ?_) <;> try exact shut7
          · have hf2 : ¬ f = 2 := by simpa using hc2
            refine goh (And.intro hw hf) ?_
            refine ⟨l.length - (i + 1), [some 0, some 1, some 2, some 3, some 4, some 5], sgFall a b l fate ((Dk.mk a b l).fallN fate (i + 1)) (i + 1), by omega, ?_, i + 1, by omega, rfl, rfl⟩
            rw [hd]
            simp only [go_sem, fell, hf1, hf2, inj_r, ↓reduceIte, reduceCtorEq, Nat.reduceAdd, Nat.reduceLT, Nat.reduceLeDiff, Nat.reduceEqDiff, Int.reduceEq]
            all_goals (repeat' refine And.intro ?_ ?_) <;> try exact shut7
      · have : i = min l.length fate.length := by
          split at hc
          · simp only [decide_eq_false_iff_not] at hc; omega
          · omega
        subst this
        refine goh trivial ?_
        refine ⟨by (simp only [go_sem, e1, Dk.fallen, ↓reduceIte, reduceCtorEq, Nat.reduceAdd, Nat.reduceLT, Nat.reduceLeDiff, Nat.reduceEqDiff]) <;> trivial, [some 2, some 3, none], ?_⟩
        all_goals try simp only [go_sem, e1, Dk.fallen, inj_r, ↓reduceIte, reduceCtorEq, Nat.reduceAdd, Nat.reduceLT, Nat.reduceLeDiff, Nat.reduceEqDiff, Int.reduceEq]
        all_goals (repeat' refine And.intro ?_ ?_) <;> try exact shut7
  · simp [no] at hp
end Go.Proofs.YtjedcphhajlnoaaGreatDoor
