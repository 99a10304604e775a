/- A part of the proof. -/
import Derived.Test.YtnhicpkhkaihoaaChecked
import Derived.Test.YtnhicpkhkaihoaaCkPZ0
import Derived.KernelRfl
namespace Go.Proofs.Ytnhicpkhkaihoaa.P
open Go Go.Proofs.Ytnhicpkhkaihoaa Go.Proofs.Ytnhicpkhkaihoaa.Eng
set_option linter.unusedVariables false
set_option maxRecDepth 100000
def D9.sg:Sg:=⟨[(0,[.t 1 0])],[(0,[.t 1])],[]⟩
def D9.txt (C:Ctx) (c0:List T) (K:J2):Prop:=
 apW c0 true 0 (cnt 1 c0) 16 (
 K [] [([]++c0)])
theorem D9.cl2 {w0:World} {c0:List T} {K:J2} (h:D9.txt ⟨Try.prog,w0⟩ c0 K):Eng.cl2 ⟨Try.prog,w0⟩ 144 D9.sg [] [c0] K:=
 AE (C:=⟨Try.prog,w0⟩) (f:=144) (fn:=Try.f144) [] [] [] Try.func144 (by kernel_rfl) (by kernel_rfl) (by kernel_rfl) h
def GO.sg:Sg:=⟨[(0,[.t 1 0]),(0,[.v])],[(0,[.v])],[]⟩
def GO.txt (C:Ctx) (a0:Value) (c0:List T) (K:J2):Prop:=
 BD (fun r3 x1 k2=>
 prP (bnI .lss (nx x1 2) (nx x1 1)) fun t10_5=>
 AU t10_5 (
 ixW (cnt 1 c0) (nx x1 2) fun t12_6=>
 ldc c0 [] ((AA t12_6)*1) fun t13_7=>
 prP (bnS .eql t13_7 (nx x1 0)) fun t16_8=>
 AU t16_8 (
 K [(nx x1 2)] []) (
 prP (bnI .add (nx x1 2) (.int .i64 1)) fun t18_9=>
 r3 [(nx x1 0),(nx x1 1),t18_9] [])) (
 K [(.int .i64 (-1))] [])) [a0,(iv (cnt 1 c0)),(.int .i64 0)] []
theorem GO.cl2 {w0:World} {a0:Value} {c0:List T} {K:J2} (h:GO.txt ⟨Try.prog,w0⟩ a0 c0 K):Eng.cl2 ⟨Try.prog,w0⟩ 115 GO.sg [a0] [c0] K:=
 AE (C:=⟨Try.prog,w0⟩) (f:=115) (fn:=Try.f115) [] [] [(26,⟨[.v, .t (.f 0) 1, .v, .v],[],[]⟩)] Try.func115 (by kernel_rfl) (by kernel_rfl) (by kernel_rfl) h
def IJ.sg:Sg:=⟨[(1,[.v, .v, .v, .v, .v]),(1,[.v, .v, .v, .v, .v])],[(0,[.v])],[]⟩
def IJ.txt (C:Ctx) (a0 a1 a2 a3 a4 a5 a6 a7 a8 a9:Value) (K:J2):Prop:=
 prP (bnI .neq a0 a5) fun t9_1=>
 AU t9_1 (
 K [(.bool false)] []) (
 prP (bnI .neq a1 a6) fun t14_2=>
 AU t14_2 (
 K [(.bool false)] []) (
 prP (bnI .neq a2 a7) fun t19_3=>
 AU t19_3 (
 K [(.bool false)] []) (
 prP (bnI .neq a3 a8) fun t24_4=>
 AU t24_4 (
 K [(.bool false)] []) (
 prP (bnS .neq a4 a9) fun t29_5=>
 AU t29_5 (
 K [(.bool false)] []) (
 K [(.bool true)] [])))))
theorem IJ.cl2 {w0:World} {a0 a1 a2 a3 a4 a5 a6 a7 a8 a9:Value} {K:J2} (h:IJ.txt ⟨Try.prog,w0⟩ a0 a1 a2 a3 a4 a5 a6 a7 a8 a9 K):Eng.cl2 ⟨Try.prog,w0⟩ 36 IJ.sg [a0,a1,a2,a3,a4,a5,a6,a7,a8,a9] [] K:=
 AE (C:=⟨Try.prog,w0⟩) (f:=36) (fn:=Try.f36) [] [] [] Try.func36 (by kernel_rfl) (by kernel_rfl) (by kernel_rfl) h
def HN.sg:Sg:=⟨[(0,[.t 5 0]),(0,[.t 5 0])],[(0,[.v])],[]⟩
def HN.txt (C:Ctx) (c0 c1:List T) (K:J2):Prop:=
 prP (bnI .neq (iv (cnt 5 c0)) (iv (cnt 5 c1))) fun t10_1=>
 AU t10_1 (
 K [(.bool false)] []) (
 BD (fun r4 x2 k3=>
 prP (bnI .lss (nx x2 0) (iv (cnt 5 c0))) fun t14_6=>
 AU t14_6 (
 ixW (cnt 5 c0) (nx x2 0) fun t19_7=>
 ldg c0 [] ((AA t19_7)*5) [.c, .c, .c, .c, .c] fun ts8=>
 ixW (cnt 5 c1) (nx x2 0) fun t23_9=>
 ldg c1 [] ((AA t23_9)*5) [.c, .c, .c, .c, .c] fun ts10=>
 cl2 C 36 IJ.sg [(tv (nxT ts8 0)),(tv (nxT ts8 1)),(tv (nxT ts8 2)),(tv (nxT ts8 3)),(tv (nxT ts8 4)),(tv (nxT ts10 0)),(tv (nxT ts10 1)),(tv (nxT ts10 2)),(tv (nxT ts10 3)),(tv (nxT ts10 4))] [] fun v11 d12=>
 prP (un .not (nx v11 0)) fun t26_14=>
 AU t26_14 (
 K [(.bool false)] []) (
 prP (bnI .add (nx x2 0) (.int .i64 1)) fun t16_15=>
 r4 [t16_15] [])) (
 K [(.bool true)] [])) [(.int .i64 0)] [])
theorem HN.cl2 {w0:World} {c0 c1:List T} {K:J2} (h:HN.txt ⟨Try.prog,w0⟩ c0 c1 K):Eng.cl2 ⟨Try.prog,w0⟩ 30 HN.sg [] [c0,c1] K:=
 AE (C:=⟨Try.prog,w0⟩) (f:=30) (fn:=Try.f30) [(36,IJ.sg)] [(6,[0,0,3,7,0,0,48,112,255,511])] [(58,⟨[.t (.f 0) 5, .t (.f 1) 5, .v],[],[]⟩)] Try.func30 (by kernel_rfl) (by kernel_rfl) (by kernel_rfl) h
def EN.sg:Sg:=⟨[(1,[.v, .v, .t 1 0]),(1,[.v, .v, .t 1 0])],[(0,[.v])],[]⟩
def EN.txt (C:Ctx) (a0 a1 a2 a3:Value) (c0 c1:List T) (K:J2):Prop:=
 prP (bnI .neq a0 a2) fun t9_1=>
 AU t9_1 (
 K [(.bool false)] []) (
 prP (bnI .neq a1 a3) fun t14_2=>
 AU t14_2 (
 K [(.bool false)] []) (
 cl2 C 17 DJ.sg [] [c0,c1] fun v3 d4=>
 prP (un .not (nx v3 0)) fun t20_6=>
 AU t20_6 (
 K [(.bool false)] []) (
 K [(.bool true)] [])))
theorem EN.cl2 {w0:World} {a0 a1 a2 a3:Value} {c0 c1:List T} {K:J2} (h:EN.txt ⟨Try.prog,w0⟩ a0 a1 a2 a3 c0 c1 K):Eng.cl2 ⟨Try.prog,w0⟩ 37 EN.sg [a0,a1,a2,a3] [c0,c1] K:=
 AE (C:=⟨Try.prog,w0⟩) (f:=37) (fn:=Try.f37) [(17,DJ.sg)] [] [] Try.func37 (by kernel_rfl) (by kernel_rfl) (by kernel_rfl) h
def C9.sg:Sg:=⟨[(0,[.t 3 0]),(0,[.t 3 0])],[(0,[.v])],[]⟩
def C9.txt (C:Ctx) (c0 c1:List T) (K:J2):Prop:=
 prP (bnI .neq (iv (cnt 3 c0)) (iv (cnt 3 c1))) fun t10_1=>
 AU t10_1 (
 K [(.bool false)] []) (
 BD (fun r4 x2 k3=>
 prP (bnI .lss (nx x2 0) (iv (cnt 3 c0))) fun t14_6=>
 AU t14_6 (
 ixW (cnt 3 c0) (nx x2 0) fun t19_7=>
 ldg c0 [] ((AA t19_7)*3) [.c, .c, .l 1] fun ts8=>
 ixW (cnt 3 c1) (nx x2 0) fun t23_9=>
 ldg c1 [] ((AA t23_9)*3) [.c, .c, .l 1] fun ts10=>
 cl2 C 37 EN.sg [(tv (nxT ts8 0)),(tv (nxT ts8 1)),(tv (nxT ts10 0)),(tv (nxT ts10 1))] [(FI c0 [(((AA t19_7)*3)+2)]),(FI c1 [(((AA t23_9)*3)+2)])] fun v11 d12=>
 prP (un .not (nx v11 0)) fun t26_14=>
 AU t26_14 (
 K [(.bool false)] []) (
 prP (bnI .add (nx x2 0) (.int .i64 1)) fun t16_15=>
 r4 [t16_15] [])) (
 K [(.bool true)] [])) [(.int .i64 0)] [])
theorem C9.cl2 {w0:World} {c0 c1:List T} {K:J2} (h:C9.txt ⟨Try.prog,w0⟩ c0 c1 K):Eng.cl2 ⟨Try.prog,w0⟩ 31 C9.sg [] [c0,c1] K:=
 AE (C:=⟨Try.prog,w0⟩) (f:=31) (fn:=Try.f31) [(37,EN.sg)] [(6,[0,0,3,7,0,0,48,112,255,511])] [(58,⟨[.t (.f 0) 3, .t (.f 1) 3, .v],[],[]⟩)] Try.func31 (by kernel_rfl) (by kernel_rfl) (by kernel_rfl) h
end Go.Proofs.Ytnhicpkhkaihoaa.P
