/-
  DERIVED: THE SHELF's CONTRACTS AT THIS DUMP, IN PLAIN WORDS (tools/lay-plain.mjs out of 'TryzShelf.lean', which tools/lay-shelf.mjs wrote): THE SAME DECLARATIONS UNDER THE SAME NAMES: 'import', 'namespace', 'open', 'def', 'theorem' AND NOTHING ELSE: no command of the shelf's: FOR A HAND-IN. Each laying: the table of numbers ('.._ren') and one theorem, a field a fact of the dump's own or the kernel's comparison; each contract: ONE APPLICATION.
-/
import Derived.Shelf.Strings.Fields
import Derived.Test.YtcppbdlmcbjmeaaGreatDoorProg
namespace Go.Proofs
open Go.Shelf
def Tryz.lays157_ren : Go.Shelf.Ren := ⟨fun | 157 => 135 | 229 => 170 | 199 => 171 | 261 => 179 | 311 => 190 | 312 => 191 | n => n, fun | 9 => 9 | 31 => 234 | 3 => 3 | 5 => 5 | 4 => 4 | 119 => 261 | 0 => 0 | 40 => 263 | 152 => 272 | 21 => 21 | 154 => 274 | 51 => 142 | 141 => 276 | 196 => 289 | 193 => 286 | 198 => 292 | 49 => 290 | 194 => 287 | 201 => 295 | 226 => 300 | 46 => 65 | 227 => 301 | n => n, fun | 0 => 0 | 6 => 1 | n => n⟩
theorem Tryz.lays157 : Go.Proofs.Lays.n157 Tryz.prog Tryz.lays157_ren := {
  mixed := by kernel_rfl
  f157 := Tryz.func135.trans (congrArg some (by kernel_rfl))
  f199 := Tryz.func171.trans (congrArg some (by kernel_rfl))
  f229 := Tryz.func170.trans (congrArg some (by kernel_rfl))
  f261 := Tryz.func179.trans (congrArg some (by kernel_rfl))
  f311 := Tryz.func190.trans (congrArg some (by kernel_rfl))
  f312 := Tryz.func191.trans (congrArg some (by kernel_rfl))
  t0 := Tryz.underlying0
  a0 := Tryz.isAgg0
  z0 := Tryz.sizeOf0
  v0 := Tryz.zeroValue0
  t3 := Tryz.underlying3
  a3 := Tryz.isAgg3
  z3 := Tryz.sizeOf3
  v3 := Tryz.zeroValue3
  t4 := Tryz.underlying4
  a4 := Tryz.isAgg4
  z4 := Tryz.sizeOf4
  v4 := Tryz.zeroValue4
  t5 := Tryz.underlying5
  a5 := Tryz.isAgg5
  z5 := Tryz.sizeOf5
  v5 := Tryz.zeroValue5
  t9 := Tryz.underlying9
  a9 := Tryz.isAgg9
  z9 := Tryz.sizeOf9
  v9 := Tryz.zeroValue9
  t21 := Tryz.underlying21
  a21 := Tryz.isAgg21
  z21 := Tryz.sizeOf21
  v21 := Tryz.zeroValue21
  t31 := Tryz.underlying234
  a31 := Tryz.isAgg234
  z31 := Tryz.sizeOf234
  v31 := Tryz.zeroValue234
  t40 := Tryz.underlying263
  a40 := Tryz.isAgg263
  z40 := Tryz.sizeOf263
  v40 := Tryz.zeroValue263
  t46 := Tryz.underlying65
  a46 := Tryz.isAgg65
  z46 := Tryz.sizeOf65
  v46 := Tryz.zeroValue65
  t49 := Tryz.underlying290
  a49 := Tryz.isAgg290
  z49 := Tryz.sizeOf290
  v49 := Tryz.zeroValue290
  t51 := Tryz.underlying142
  a51 := Tryz.isAgg142
  z51 := Tryz.sizeOf142
  v51 := Tryz.zeroValue142
  t119 := Tryz.underlying261
  a119 := Tryz.isAgg261
  z119 := Tryz.sizeOf261
  t141 := Tryz.underlying276
  a141 := Tryz.isAgg276
  z141 := Tryz.sizeOf276
  v141 := Tryz.zeroValue276
  t152 := Tryz.underlying272
  a152 := Tryz.isAgg272
  z152 := Tryz.sizeOf272
  v152 := Tryz.zeroValue272
  t154 := Tryz.underlying274
  a154 := Tryz.isAgg274
  z154 := Tryz.sizeOf274
  v154 := Tryz.zeroValue274
  t193 := Tryz.underlying286
  a193 := Tryz.isAgg286
  z193 := Tryz.sizeOf286
  v193 := Tryz.zeroValue286
  t194 := Tryz.underlying287
  a194 := Tryz.isAgg287
  z194 := Tryz.sizeOf287
  v194 := Tryz.zeroValue287
  t196 := Tryz.underlying289
  a196 := Tryz.isAgg289
  z196 := Tryz.sizeOf289
  v196 := Tryz.zeroValue289
  t198 := Tryz.underlying292
  a198 := Tryz.isAgg292
  z198 := Tryz.sizeOf292
  v198 := Tryz.zeroValue292
  t201 := Tryz.underlying295
  a201 := Tryz.isAgg295
  z201 := Tryz.sizeOf295
  v201 := Tryz.zeroValue295
  t226 := Tryz.underlying300
  a226 := Tryz.isAgg300
  z226 := Tryz.sizeOf300
  v226 := Tryz.zeroValue300
  t227 := Tryz.underlying301
  a227 := Tryz.isAgg301
  z227 := Tryz.sizeOf301
  v227 := Tryz.zeroValue301
  g0 := by kernel_rfl
  g6 := by kernel_rfl }
open Go.RowKit Go.Lib in
/-- strings.Fields, the table by 'Lib.TabIs' (as strings.TrimSpace's contract). 'hg': the table's number, by its name: at a dump 'by kernel_rfl'. (LAID: no walk: one application.) -/
theorem Tryz.strings_Fields (s : ByteArray) (w : World) (hs : s.size < 4294967281) (hascii : ∀ (j : Nat) b, s.data.toList[j]? = some b → b.toNat < 128) (htab : Lib.TabIs Tryz.prog w "strings.asciiSpace" .u8 Lib.asciiSpaceTab) :
    Calls Tryz.prog 135 #[.string s] w fun e w' =>
      e = .returned (.slice (some ⟨w.heap.size, 0, none⟩) (Lib.fields s.data.toList).length (Lib.fields s.data.toList).length) ∧ w' = w.alloc (.cells ((Lib.fields s.data.toList).map fun l => Value.string ⟨l.toArray⟩).toArray 9) := Any.strings_Fields Tryz.lays157 (by kernel_rfl) (by kernel_rfl) s w hs hascii htab
end Go.Proofs
