/- A part of the proof. -/
import Derived.Test.YtnhicpkhkaihoaaChecked
import Derived.Test.YtnhicpkhkaihoaaEvPZ4
import Derived.KernelRfl
namespace Go.Proofs.Ytnhicpkhkaihoaa.P
open Go Go.Proofs.Ytnhicpkhkaihoaa Go.Proofs.Ytnhicpkhkaihoaa.Eng
set_option linter.unusedVariables false
set_option maxRecDepth 100000
def DZ.sg:Sg:=⟨[],[(1,[.t 8, .t 2, .t 1, .t 1])],[]⟩
def DZ.txt (C:Ctx) (K:J2):Prop:=
 mkW 80 (.int .i64 8) (.int .i64 8) fun n1=>
 mkW 16 (.int .i64 8) (.int .i64 8) fun n2=>
 BG (fun r5 x3 k4=>
 prP (bnI .lss (nx x3 0) (iv (cnt 8 (nxc k4 0)))) fun t10_7=>
 AI t10_7 (
 cl2 C 181 CX.sg [] [] fun v8 d9=>
 ixW (cnt 8 (nxc k4 0)) (nx x3 0) fun t17_10=>
 stg (nxc k4 0) [] (((AA t17_10)*8)+6) [T.l 1 (nxc d9 0)] fun k11=>
 prP (bnI .add (nx x3 0) (.int .i64 1)) fun t12_12=>
 r5 [t12_12] [k11,(nxc k4 1)]) (
 K [] [(nxc k4 0),(nxc k4 1),[],[]])) [(.int .i64 0)] [(QJ (AA n1) [T.c (.bool false),T.c (.int .i64 0),T.c (.int .i64 0),T.c (.int .i64 0),T.c (.int .i64 0),T.c (.int .i64 0),T.l 1 [],T.c (.bool false)]),(QJ (AA n2) [T.c (.bool false),T.c (.int .i64 0)])]
theorem DZ.cl2 {w0:World} {K:J2} (h:DZ.txt ⟨Try.prog,w0⟩ K):Eng.cl2 ⟨Try.prog,w0⟩ 128 DZ.sg [] [] K:=
 AD (C:=⟨Try.prog,w0⟩) (f:=128) (fn:=Try.f128) [(181,CX.sg)] [(1,[0,0,3,0,15]),(5,[0,1,0,0,15,31,63])] [(58,⟨[.p (.j 0) 0, .p (.j 1) 0, .v],[],[.bx [.z, .z, .z, .z], .bx [.t (.j 2) 8, .t (.j 3) 2, .z, .z], .ls, .ls]⟩)] Try.func128 (by kernel_rfl) (by kernel_rfl) (by kernel_rfl) h
def H5.sg:Sg:=⟨[(0,[.t 5 0])],[(1,[.t 8, .t 2, .t 1, .t 1]),(0,[.t 3])],[]⟩
def H5.txt (C:Ctx) (c0:List T) (K:J2):Prop:=
 cl2 C 128 DZ.sg [] [] fun v1 d2=>
 BG (fun r5 x3 k4=>
 prP (bnI .lss (nx x3 0) (iv (cnt 5 c0))) fun t14_7=>
 gE t14_7 (
 gP t14_7 true (prP (bnI .lss (nx x3 0) (.int .i64 400))) fun t17_8=>
 prP (pk t14_7 t17_8 (.bool false)) fun t18_9=>
 AI t18_9 (
 ixW (cnt 5 c0) (nx x3 0) fun t25_10=>
 ldg c0 [] ((AA t25_10)*5) [.c, .c, .c, .c, .c] fun ts11=>
 cl2 C 62 EB.sg [(tv (nxT ts11 0)),(tv (nxT ts11 1)),(tv (nxT ts11 2)),(tv (nxT ts11 3)),(tv (nxT ts11 4))] [(nxc k4 1),(nxc k4 2),(nxc k4 3),(nxc k4 4)] fun v12 d13=>
 apW [T.c (nx v12 0),T.c (nx v12 1),T.l 1 (nxc d13 4)] false (cnt 3 (nxc k4 0)) (cnt 3 [T.c (nx v12 0),T.c (nx v12 1),T.l 1 (nxc d13 4)]) 40 (
 prP (bnI .add (nx x3 0) (.int .i64 1)) fun t20_14=>
 r5 [t20_14] [((nxc k4 0)++[T.c (nx v12 0),T.c (nx v12 1),T.l 1 (nxc d13 4)]),(nxc d13 0),(nxc d13 1),(nxc d13 2),(nxc d13 3)])) (
 K [] [(nxc k4 1),(nxc k4 2),(nxc k4 3),(nxc k4 4),(nxc k4 0)]))) [(.int .i64 0)] [[],(nxc d2 0),(nxc d2 1),(nxc d2 2),(nxc d2 3)]
theorem H5.cl2 {w0:World} {c0:List T} {K:J2} (h:H5.txt ⟨Try.prog,w0⟩ c0 K):Eng.cl2 ⟨Try.prog,w0⟩ 58 H5.sg [] [c0] K:=
 AD (C:=⟨Try.prog,w0⟩) (f:=58) (fn:=Try.f58) [(128,DZ.sg),(62,EB.sg)] [(6,[0,0,0,6,14,31,63,127,127,0,0,1791,4095])] [(122,⟨[.t (.f 0) 5, .p (.j 0) 0, .p (.j 1) 0, .t (.j 2) 3, .v],[],[.bx [.z, .z, .z, .z], .bx [.t (.j 3) 8, .t (.j 4) 2, .t (.j 5) 1, .t (.j 6) 1], .ls, .ls, .ls, .ls, .ls]⟩)] Try.func58 (by kernel_rfl) (by kernel_rfl) (by kernel_rfl) h
end Go.Proofs.Ytnhicpkhkaihoaa.P
