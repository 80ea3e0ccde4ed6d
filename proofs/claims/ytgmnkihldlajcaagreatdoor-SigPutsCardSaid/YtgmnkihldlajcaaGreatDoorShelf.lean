/-
  DERIVED: THE SHELF's CONTRACTS AT THIS DUMP, IN PLAIN WORDS (tools/lay-plain.mjs out of 'TryzShelf.lean', which tools/lay-shelf.mjs wrote): THE SAME DECLARATIONS UNDER THE SAME NAMES: 'import', 'namespace', 'open', 'def', 'theorem' AND NOTHING ELSE: no command of the shelf's: FOR A HAND-IN. Each laying: the table of numbers ('.._ren') and one theorem, a field a fact of the dump's own or the kernel's comparison; each contract: ONE APPLICATION.
-/
import Derived.Shelf.Strings.Fields
import Derived.Test.YtgmnkihldlajcaaGreatDoorProg
namespace Go.Proofs
open Go.Shelf
def Tryz.lays157_ren : Go.Shelf.Ren := ⟨fun | 157 => 55 | 229 => 70 | 199 => 71 | 261 => 81 | 311 => 101 | 312 => 102 | n => n, fun | 9 => 9 | 31 => 100 | 3 => 3 | 5 => 5 | 4 => 4 | 119 => 111 | 0 => 0 | 40 => 113 | 152 => 121 | 21 => 21 | 154 => 123 | 51 => 48 | 141 => 125 | 196 => 152 | 193 => 149 | 198 => 155 | 49 => 153 | 194 => 150 | 201 => 158 | 226 => 169 | 46 => 65 | 227 => 170 | n => n, fun | 0 => 0 | 6 => 1 | n => n⟩
theorem Tryz.lays157 : Go.Proofs.Lays.n157 Tryz.prog Tryz.lays157_ren := {
  mixed := by kernel_rfl
  f157 := Tryz.func55.trans (congrArg some (by kernel_rfl))
  f199 := Tryz.func71.trans (congrArg some (by kernel_rfl))
  f229 := Tryz.func70.trans (congrArg some (by kernel_rfl))
  f261 := Tryz.func81.trans (congrArg some (by kernel_rfl))
  f311 := Tryz.func101.trans (congrArg some (by kernel_rfl))
  f312 := Tryz.func102.trans (congrArg some (by kernel_rfl))
  t0 := Tryz.underlying0
  a0 := Tryz.isAgg0
  z0 := Tryz.sizeOf0
  v0 := Tryz.zeroValue0
  t3 := Tryz.underlying3
  a3 := Tryz.isAgg3
  z3 := Tryz.sizeOf3
  v3 := Tryz.zeroValue3
  t4 := Tryz.underlying4
  a4 := Tryz.isAgg4
  z4 := Tryz.sizeOf4
  v4 := Tryz.zeroValue4
  t5 := Tryz.underlying5
  a5 := Tryz.isAgg5
  z5 := Tryz.sizeOf5
  v5 := Tryz.zeroValue5
  t9 := Tryz.underlying9
  a9 := Tryz.isAgg9
  z9 := Tryz.sizeOf9
  v9 := Tryz.zeroValue9
  t21 := Tryz.underlying21
  a21 := Tryz.isAgg21
  z21 := Tryz.sizeOf21
  v21 := Tryz.zeroValue21
  t31 := Tryz.underlying100
  a31 := Tryz.isAgg100
  z31 := Tryz.sizeOf100
  v31 := Tryz.zeroValue100
  t40 := Tryz.underlying113
  a40 := Tryz.isAgg113
  z40 := Tryz.sizeOf113
  v40 := Tryz.zeroValue113
  t46 := Tryz.underlying65
  a46 := Tryz.isAgg65
  z46 := Tryz.sizeOf65
  v46 := Tryz.zeroValue65
  t49 := Tryz.underlying153
  a49 := Tryz.isAgg153
  z49 := Tryz.sizeOf153
  v49 := Tryz.zeroValue153
  t51 := Tryz.underlying48
  a51 := Tryz.isAgg48
  z51 := Tryz.sizeOf48
  v51 := Tryz.zeroValue48
  t119 := Tryz.underlying111
  a119 := Tryz.isAgg111
  z119 := Tryz.sizeOf111
  t141 := Tryz.underlying125
  a141 := Tryz.isAgg125
  z141 := Tryz.sizeOf125
  v141 := Tryz.zeroValue125
  t152 := Tryz.underlying121
  a152 := Tryz.isAgg121
  z152 := Tryz.sizeOf121
  v152 := Tryz.zeroValue121
  t154 := Tryz.underlying123
  a154 := Tryz.isAgg123
  z154 := Tryz.sizeOf123
  v154 := Tryz.zeroValue123
  t193 := Tryz.underlying149
  a193 := Tryz.isAgg149
  z193 := Tryz.sizeOf149
  v193 := Tryz.zeroValue149
  t194 := Tryz.underlying150
  a194 := Tryz.isAgg150
  z194 := Tryz.sizeOf150
  v194 := Tryz.zeroValue150
  t196 := Tryz.underlying152
  a196 := Tryz.isAgg152
  z196 := Tryz.sizeOf152
  v196 := Tryz.zeroValue152
  t198 := Tryz.underlying155
  a198 := Tryz.isAgg155
  z198 := Tryz.sizeOf155
  v198 := Tryz.zeroValue155
  t201 := Tryz.underlying158
  a201 := Tryz.isAgg158
  z201 := Tryz.sizeOf158
  v201 := Tryz.zeroValue158
  t226 := Tryz.underlying169
  a226 := Tryz.isAgg169
  z226 := Tryz.sizeOf169
  v226 := Tryz.zeroValue169
  t227 := Tryz.underlying170
  a227 := Tryz.isAgg170
  z227 := Tryz.sizeOf170
  v227 := Tryz.zeroValue170
  g0 := by kernel_rfl
  g6 := by kernel_rfl }
open Go.RowKit Go.Lib in
/-- strings.Fields, the table by 'Lib.TabIs' (as strings.TrimSpace's contract). 'hg': the table's number, by its name: at a dump 'by kernel_rfl'. (LAID: no walk: one application.) -/
theorem Tryz.strings_Fields (s : ByteArray) (w : World) (hs : s.size < 4294967281) (hascii : ∀ (j : Nat) b, s.data.toList[j]? = some b → b.toNat < 128) (htab : Lib.TabIs Tryz.prog w "strings.asciiSpace" .u8 Lib.asciiSpaceTab) :
    Calls Tryz.prog 55 #[.string s] w fun e w' =>
      e = .returned (.slice (some ⟨w.heap.size, 0, none⟩) (Lib.fields s.data.toList).length (Lib.fields s.data.toList).length) ∧ w' = w.alloc (.cells ((Lib.fields s.data.toList).map fun l => Value.string ⟨l.toArray⟩).toArray 9) := Any.strings_Fields Tryz.lays157 (by kernel_rfl) (by kernel_rfl) s w hs hascii htab
end Go.Proofs
