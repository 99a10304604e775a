/- A part of the proof. -/
import Derived.Shelf.Strings.Search1
import Derived.Shelf.Strings.Search2
import Derived.Shelf.Strings.Search3
import Derived.Shelf.Strings.Count
import Derived.Shelf.LaysM
import Derived.Shelf.Strings.Shaped
import Derived.Shelf.Strings.Split
import Derived.Shelf.Strings.SplitShaped
import Derived.Shelf.Unicode.DecodeSlow
import Derived.Test.YthapfcoajahegaaDoorProg
/-
  DERIVED: THE SHELF's CONTRACTS AT THIS DUMP, IN PLAIN WORDS (tools/lay-plain.mjs out of 'TrydShelf.lean', which tools/lay-shelf.mjs wrote): THE SAME DECLARATIONS UNDER THE SAME NAMES: 'import', 'namespace', 'open', 'def', 'theorem' AND NOTHING ELSE: no command of the shelf's: FOR A HAND-IN. Each laying: the table of numbers ('.._ren') and one theorem, a field a fact of the dump's own or the kernel's comparison; each contract: ONE APPLICATION.
-/
namespace Go.Proofs
open Go.Shelf
def Tryd.aY:Go.Shelf.Ren:=⟨fun | 224=>53 | n=>n,fun | 3=>3 | n=>n,fun | n=>n⟩
theorem Tryd.mO:Go.Proofs.Lays.n224 Tryd.prog Tryd.aY:={
 mixed:=by kernel_rfl
 f224:=Tryd.func53.trans (congrArg some (by kernel_rfl))
 t3:=Tryd.underlying3
 a3:=Tryd.isAgg3
 z3:=Tryd.sizeOf3
 v3:=Tryd.zeroValue3}
open Go.RowKit Go.Lib in
theorem Tryd.bytealg_Cutover (n:Int) (h0:0≤n) (h1:n<4611686018427387904) (w:World):
  Calls Tryd.prog 53 #[.int .i64 n] w fun e w'=>e= .returned (.int .i64 ((n+16)/8))∧w'=w:=Any.bytealg_Cutover Tryd.mO n h0 h1 w
def Tryd.Z5:Go.Shelf.Ren:=⟨fun | 146=>12 | 221=>21 | 268=>35 | 138=>36 | 143=>37 | 195=>45 | 197=>46 | 218=>47 | 219=>48 | 260=>50 | 217=>51 | 225=>52 | 224=>53 | 267=>54 | 266=>55 | 314=>56 | n=>n,fun | 9=>9 | 31=>31 | 3=>3 | 4=>4 | 0=>0 | 105=>81 | 21=>21 | 5=>5 | 46=>87 | 119=>88 | 139=>91 | 138=>90 | 146=>93 | 51=>92 | n=>n,fun | 1=>0 | 3=>1 | 4=>2 | n=>n⟩
theorem Tryd.mY:Go.Proofs.Lays.n146 Tryd.prog Tryd.Z5:={
 mixed:=by kernel_rfl
 f138:=Tryd.func36.trans (congrArg some (by kernel_rfl))
 f143:=Tryd.func37.trans (congrArg some (by kernel_rfl))
 f146:=Tryd.func12.trans (congrArg some (by kernel_rfl))
 f195:=Tryd.func45.trans (congrArg some (by kernel_rfl))
 f197:=Tryd.func46.trans (congrArg some (by kernel_rfl))
 f217:=Tryd.func51.trans (congrArg some (by kernel_rfl))
 f218:=Tryd.func47.trans (congrArg some (by kernel_rfl))
 f219:=Tryd.func48.trans (congrArg some (by kernel_rfl))
 f221:=Tryd.func21.trans (congrArg some (by kernel_rfl))
 f224:=Tryd.func53.trans (congrArg some (by kernel_rfl))
 f225:=Tryd.func52.trans (congrArg some (by kernel_rfl))
 f260:=Tryd.func50.trans (congrArg some (by kernel_rfl))
 f266:=Tryd.func55.trans (congrArg some (by kernel_rfl))
 f267:=Tryd.func54.trans (congrArg some (by kernel_rfl))
 f268:=Tryd.func35.trans (congrArg some (by kernel_rfl))
 f314:=Tryd.func56.trans (congrArg some (by kernel_rfl))
 t0:=Tryd.underlying0
 a0:=Tryd.isAgg0
 z0:=Tryd.sizeOf0
 v0:=Tryd.zeroValue0
 t3:=Tryd.underlying3
 a3:=Tryd.isAgg3
 z3:=Tryd.sizeOf3
 v3:=Tryd.zeroValue3
 t4:=Tryd.underlying4
 a4:=Tryd.isAgg4
 z4:=Tryd.sizeOf4
 v4:=Tryd.zeroValue4
 t5:=Tryd.underlying5
 a5:=Tryd.isAgg5
 z5:=Tryd.sizeOf5
 v5:=Tryd.zeroValue5
 t9:=Tryd.underlying9
 a9:=Tryd.isAgg9
 z9:=Tryd.sizeOf9
 v9:=Tryd.zeroValue9
 t21:=Tryd.underlying21
 a21:=Tryd.isAgg21
 z21:=Tryd.sizeOf21
 v21:=Tryd.zeroValue21
 t31:=Tryd.underlying31
 a31:=Tryd.isAgg31
 z31:=Tryd.sizeOf31
 v31:=Tryd.zeroValue31
 t46:=Tryd.underlying87
 a46:=Tryd.isAgg87
 z46:=Tryd.sizeOf87
 v46:=Tryd.zeroValue87
 t51:=Tryd.underlying92
 a51:=Tryd.isAgg92
 z51:=Tryd.sizeOf92
 v51:=Tryd.zeroValue92
 t105:=Tryd.underlying81
 a105:=Tryd.isAgg81
 z105:=Tryd.sizeOf81
 v105:=Tryd.zeroValue81
 t119:=Tryd.underlying88
 a119:=Tryd.isAgg88
 z119:=Tryd.sizeOf88
 t138:=Tryd.underlying90
 a138:=Tryd.isAgg90
 z138:=Tryd.sizeOf90
 v138:=Tryd.zeroValue90
 t139:=Tryd.underlying91
 a139:=Tryd.isAgg91
 z139:=Tryd.sizeOf91
 v139:=Tryd.zeroValue91
 t146:=Tryd.underlying93
 a146:=Tryd.isAgg93
 z146:=Tryd.sizeOf93
 v146:=Tryd.zeroValue93
 g1:=by kernel_rfl
 g3:=by kernel_rfl
 g4:=by kernel_rfl}
open Go.RowKit Go.Lib in
theorem Tryd.strings_Split (s sep:ByteArray) (m:Int) (w:World) (hs:s.size<4294967281) (hm:w.cell? ⟨0,0,none⟩=some (.int .i64 m)) (h1:1≤sep.size):
  Calls Tryd.prog 12 #[.string s, .string sep] w fun e w'=>
   e= .returned (.slice (some ⟨w.heap.size,0,none⟩) (Lib.countB s sep+1) (Lib.countB s sep+1))∧w'=w.alloc (.cells ((Lib.splitB sep 0 (Lib.countB s sep) s).map Value.string).toArray 9):=Any.strings_Split Tryd.mY (by kernel_rfl) s sep m w hs hm h1
def Tryd.XK:Go.Shelf.Ren:=⟨fun | 146=>12 | 221=>21 | 268=>35 | 138=>36 | 143=>37 | 195=>45 | 197=>46 | 218=>47 | 219=>48 | 260=>50 | 217=>51 | 225=>52 | 224=>53 | 267=>54 | 266=>55 | 314=>56 | n=>n,fun | 9=>9 | 31=>31 | 3=>3 | 4=>4 | 0=>0 | 105=>81 | 21=>21 | 5=>5 | 46=>87 | 119=>88 | 139=>91 | 138=>90 | 146=>93 | 51=>92 | n=>n,fun | 1=>0 | 3=>1 | 4=>2 | n=>n⟩
theorem Tryd.jT:Go.Proofs.LaysM.n146 Tryd.prog Tryd.XK:={
 mixed:=by kernel_rfl
 f138:=Tryd.func36.trans (congrArg some (by kernel_rfl))
 f143:=Tryd.func37.trans (congrArg some (by kernel_rfl))
 f146:=Tryd.func12.trans (congrArg some (by kernel_rfl))
 f195:=Tryd.func45.trans (congrArg some (by kernel_rfl))
 f197:=Tryd.func46.trans (congrArg some (by kernel_rfl))
 f217:=Tryd.func51.trans (congrArg some (by kernel_rfl))
 f218:=Tryd.func47.trans (congrArg some (by kernel_rfl))
 f219:=Tryd.func48.trans (congrArg some (by kernel_rfl))
 f221:=Tryd.func21.trans (congrArg some (by kernel_rfl))
 f224:=Tryd.func53.trans (congrArg some (by kernel_rfl))
 f225:=Tryd.func52.trans (congrArg some (by kernel_rfl))
 f260:=Tryd.func50.trans (congrArg some (by kernel_rfl))
 f266:=Tryd.func55.trans (congrArg some (by kernel_rfl))
 f267:=Tryd.func54.trans (congrArg some (by kernel_rfl))
 f268:=Tryd.func35.trans (congrArg some (by kernel_rfl))
 f314:=Tryd.func56.trans (congrArg some (by kernel_rfl))
 t0:=Tryd.underlying0
 a0:=Tryd.isAgg0
 z0:=Tryd.sizeOf0
 v0:=Tryd.zeroValue0
 t3:=Tryd.underlying3
 a3:=Tryd.isAgg3
 z3:=Tryd.sizeOf3
 v3:=Tryd.zeroValue3
 t4:=Tryd.underlying4
 a4:=Tryd.isAgg4
 z4:=Tryd.sizeOf4
 v4:=Tryd.zeroValue4
 t5:=Tryd.underlying5
 a5:=Tryd.isAgg5
 z5:=Tryd.sizeOf5
 v5:=Tryd.zeroValue5
 t9:=Tryd.underlying9
 a9:=Tryd.isAgg9
 z9:=Tryd.sizeOf9
 v9:=Tryd.zeroValue9
 t21:=Tryd.underlying21
 a21:=Tryd.isAgg21
 z21:=Tryd.sizeOf21
 v21:=Tryd.zeroValue21
 t31:=Tryd.underlying31
 a31:=Tryd.isAgg31
 z31:=Tryd.sizeOf31
 v31:=Tryd.zeroValue31
 t46:=Tryd.underlying87
 a46:=Tryd.isAgg87
 z46:=Tryd.sizeOf87
 v46:=Tryd.zeroValue87
 t51:=Tryd.underlying92
 a51:=Tryd.isAgg92
 z51:=Tryd.sizeOf92
 v51:=Tryd.zeroValue92
 t105:=Tryd.underlying81
 a105:=Tryd.isAgg81
 z105:=Tryd.sizeOf81
 v105:=Tryd.zeroValue81
 t119:=Tryd.underlying88
 a119:=Tryd.isAgg88
 z119:=Tryd.sizeOf88
 t138:=Tryd.underlying90
 a138:=Tryd.isAgg90
 z138:=Tryd.sizeOf90
 v138:=Tryd.zeroValue90
 t139:=Tryd.underlying91
 a139:=Tryd.isAgg91
 z139:=Tryd.sizeOf91
 v139:=Tryd.zeroValue91
 t146:=Tryd.underlying93
 a146:=Tryd.isAgg93
 z146:=Tryd.sizeOf93
 v146:=Tryd.zeroValue93
 g1:=by kernel_rfl
 g3:=by kernel_rfl
 g4:=by kernel_rfl
 i0:=by kernel_rfl
 i3:=by kernel_rfl
 i4:=by kernel_rfl
 i5:=by kernel_rfl
 i9:=by kernel_rfl
 i21:=by kernel_rfl
 i31:=by kernel_rfl
 i46:=by kernel_rfl
 i51:=by kernel_rfl
 i105:=by kernel_rfl
 i138:=by kernel_rfl
 i139:=by kernel_rfl
 i146:=by kernel_rfl
 m1:=by kernel_rfl
 s1_3:=fun w h=>Go.Proofs.cell_of_shapedOpen_int (zero:= #[.int .i64 0]) (t:=3) h (of_decide_eq_true (by kernel_rfl)) (by kernel_rfl) rfl (by kernel_rfl) (by kernel_rfl) Tryd.underlying3
 m3:=by kernel_rfl
 m4:=by kernel_rfl}
end Go.Proofs
