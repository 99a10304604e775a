/- A part of the proof. -/
import Derived.Test.YtnhicpkhkaihoaaGreatChecked
import Derived.Test.YtnhicpkhkaihoaaGreatFtPZ4
import Derived.KernelRfl
namespace Go.Proofs.YtnhicpkhkaihoaaGreat.P
open Go Go.Proofs.YtnhicpkhkaihoaaGreat Go.Proofs.YtnhicpkhkaihoaaGreat.Eng
set_option linter.unusedVariables false
set_option maxRecDepth 100000
def L6.sg:Sg:=⟨[(0,[.t 1 0])],[(0,[.v])],[]⟩
def L6.txt (C:Ctx) (c0:List T) (K:J2):Prop:=
 prP (bnI .gtr (iv (cnt 1 c0)) (.int .i64 1048576)) fun t5_1=>
 K [t5_1] []
theorem L6.cl2 {w0:World} {c0:List T} {K:J2} (h:L6.txt ⟨Tryz.prog,w0⟩ c0 K):Eng.cl2 ⟨Tryz.prog,w0⟩ 7 L6.sg [] [c0] K:=
 AD (C:=⟨Tryz.prog,w0⟩) (f:=7) (fn:=Tryz.f7) [] [] [] Tryz.func7 (by kernel_rfl) (by kernel_rfl) (by kernel_rfl) h
def JE.sg:Sg:=⟨[(0,[.t 1 0])],[(2,[.a 0, .v, .v])],[]⟩
def JE.txt (C:Ctx) (c0:List T) (K:J2):Prop:=
 prP (bnI .add (.int .i64 10101) (iv (cnt 1 c0))) fun t7_1=>
 BC (fun r4 x2 k3=>
 prP (bnI .lss (nx x2 1) (iv (cnt 1 c0))) fun t11_6=>
 gE t11_6 (
 gP t11_6 true (prP (bnI .lss (nx x2 1) (.int .i64 4000))) fun t14_7=>
 prP (pk t11_6 t14_7 (.bool false)) fun t15_8=>
 AV t15_8 (
 prP (bnI .mul (nx x2 0) (.int .i64 131)) fun t19_9=>
 ixW (cnt 1 c0) (nx x2 1) fun t22_10=>
 ldc c0 [] ((AA t22_10)*1) fun t23_11=>
 prP (cvI .i64 t23_11) fun t24_12=>
 prP (bnI .add t19_9 t24_12) fun t25_13=>
 prP (bnI .add t25_13 (.int .i64 7)) fun t26_14=>
 prP (bnI .and t26_14 (.int .i64 1073741823)) fun t27_15=>
 prP (bnI .add (nx x2 1) (.int .i64 1)) fun t17_16=>
 r4 [t27_15,t17_16] []) (
 K [(.int .i64 0),(nx x2 0)] []))) [t7_1,(.int .i64 0)] []
theorem JE.cl2 {w0:World} {c0:List T} {K:J2} (h:JE.txt ⟨Tryz.prog,w0⟩ c0 K):Eng.cl2 ⟨Tryz.prog,w0⟩ 32 JE.sg [] [c0] K:=
 AD (C:=⟨Tryz.prog,w0⟩) (f:=32) (fn:=Tryz.f32) [] [] [(58,⟨[.t (.f 0) 1, .v, .v],[.t (.f 0) 1],[]⟩)] Tryz.func32 (by kernel_rfl) (by kernel_rfl) (by kernel_rfl) h
def EW.sg:Sg:=⟨[(2,[.t 1 0, .v, .v])],[(0,[.v])],[[.a 0, .v, .v]]⟩
def EW.txt (C:Ctx) (a0 a1:Value) (c0:List T) (K:J2):Prop:=
 prP (bnI .mul a1 (.int .i64 6364136223846793005)) fun t9_1=>
 prP (bnI .add t9_1 (.int .i64 1442695040888963407)) fun t10_2=>
 prP (bnI .shr t10_2 (.int .u64 33)) fun t17_3=>
 prP (bnI .shr t10_2 (.int .u64 45)) fun t22_4=>
 prP (bnI .xor t17_3 t22_4) fun t23_5=>
 prP (bnI .and t23_5 (.int .i64 255)) fun t24_6=>
 BW (fun x8 k9=>
 K [(nx x8 0),(nx x8 1),(nx x8 2)] []) fun j10=>
 prP (bnI .lss a0 (iv (cnt 1 c0))) fun t34_11=>
 AV t34_11 (
 ixW (cnt 1 c0) a0 fun t44_12=>
 ldc c0 [] ((AA t44_12)*1) fun t45_13=>
 prP (cvI .i64 t45_13) fun t46_14=>
 prP (bnI .add t24_6 t46_14) fun t47_15=>
 prP (bnI .and t47_15 (.int .i64 255)) fun t48_16=>
 prP (bnI .add a0 (.int .i64 1)) fun t54_17=>
 j10 [t48_16,t54_17,t10_2] []) (
 j10 [t24_6,a0,t10_2] [])
theorem EW.cl2 {w0:World} {a0 a1:Value} {c0:List T} {K:J2} (h:EW.txt ⟨Tryz.prog,w0⟩ a0 a1 c0 K):Eng.cl2 ⟨Tryz.prog,w0⟩ 122 EW.sg [a0,a1] [c0] K:=
 AD (C:=⟨Tryz.prog,w0⟩) (f:=122) (fn:=Tryz.f122) [] [(2,[0,1,3,7,15,0,32,96,224,480,1023,2047,4095]),(3,[0,1,3,7,0,16,48,112,240,511]),(4,[0,0,2,6,14,0,32,96,224,510,1022,2046,4095,8191,16383])] [(15,⟨[.v],[.p (.j 0) 0, .t (.f 0) 1],[.bx [.t (.f 0) 1, .v, .v]]⟩)] Tryz.func122 (by kernel_rfl) (by kernel_rfl) (by kernel_rfl) h
def B5.sg:Sg:=⟨[(2,[.t 1 0, .v, .v]),(0,[.v])],[(0,[.v])],[[.a 0, .v, .v]]⟩
def B5.txt (C:Ctx) (a0 a1 a2:Value) (c0:List T) (K:J2):Prop:=
 prP (bnI .leq a2 (.int .i64 0)) fun t10_1=>
 AV t10_1 (
 K [(.int .i64 0),a0,a1] []) (
 prP (bnI .leq a2 (.int .i64 256)) fun t12_2=>
 AV t12_2 (
 cl2 C 122 EW.sg [a0,a1] [c0] fun v3 d4=>
 prP (bnI .rem (nx v3 0) a2) fun t16_5=>
 K [t16_5,(nx v3 1),(nx v3 2)] []) (
 cl2 C 122 EW.sg [a0,a1] [c0] fun v6 d7=>
 cl2 C 122 EW.sg [(nx v6 1),(nx v6 2)] [c0] fun v8 d9=>
 cl2 C 122 EW.sg [(nx v8 1),(nx v8 2)] [c0] fun v10 d11=>
 cl2 C 122 EW.sg [(nx v10 1),(nx v10 2)] [c0] fun v12 d13=>
 prP (bnI .mul (nx v6 0) (.int .i64 16777216)) fun t26_14=>
 prP (bnI .mul (nx v8 0) (.int .i64 65536)) fun t28_15=>
 prP (bnI .add t26_14 t28_15) fun t29_16=>
 prP (bnI .mul (nx v10 0) (.int .i64 256)) fun t31_17=>
 prP (bnI .add t29_16 t31_17) fun t32_18=>
 prP (bnI .add t32_18 (nx v12 0)) fun t34_19=>
 prP (bnI .rem t34_19 a2) fun t36_20=>
 K [t36_20,(nx v12 1),(nx v12 2)] []))
theorem B5.cl2 {w0:World} {a0 a1 a2:Value} {c0:List T} {K:J2} (h:B5.txt ⟨Tryz.prog,w0⟩ a0 a1 a2 c0 K):Eng.cl2 ⟨Tryz.prog,w0⟩ 70 B5.sg [a0,a1,a2] [c0] K:=
 AD (C:=⟨Tryz.prog,w0⟩) (f:=70) (fn:=Tryz.f70) [(122,EW.sg)] [] [] Tryz.func70 (by kernel_rfl) (by kernel_rfl) (by kernel_rfl) h
def CA.sg:Sg:=⟨[(2,[.t 1 0, .v, .v]),(0,[.t 1 0])],[(0,[.v])],[[.a 0, .v, .v]]⟩
def CA.txt (C:Ctx) (a0 a1:Value) (c0 c1:List T) (K:J2):Prop:=
 cl2 C 70 B5.sg [a0,a1,(iv (cnt 1 c1))] [c0] fun v1 d2=>
 ixW (cnt 1 c1) (nx v1 0) fun t10_3=>
 ldc c1 [] ((AA t10_3)*1) fun t11_4=>
 K [t11_4,(nx v1 1),(nx v1 2)] []
theorem CA.cl2 {w0:World} {a0 a1:Value} {c0 c1:List T} {K:J2} (h:CA.txt ⟨Tryz.prog,w0⟩ a0 a1 c0 c1 K):Eng.cl2 ⟨Tryz.prog,w0⟩ 123 CA.sg [a0,a1] [c0,c1] K:=
 AD (C:=⟨Tryz.prog,w0⟩) (f:=123) (fn:=Tryz.f123) [(70,B5.sg)] [] [] Tryz.func123 (by kernel_rfl) (by kernel_rfl) (by kernel_rfl) h
def GR.sg:Sg:=⟨[(2,[.t 1 0, .v, .v]),(0,[.t 1 0])],[(0,[.v])],[[.a 0, .v, .v]]⟩
def GR.txt (C:Ctx) (a0 a1:Value) (c0 c1:List T) (K:J2):Prop:=
 cl2 C 70 B5.sg [a0,a1,(iv (cnt 1 c1))] [c0] fun v1 d2=>
 ixW (cnt 1 c1) (nx v1 0) fun t10_3=>
 ldc c1 [] ((AA t10_3)*1) fun t11_4=>
 K [t11_4,(nx v1 1),(nx v1 2)] []
theorem GR.cl2 {w0:World} {a0 a1:Value} {c0 c1:List T} {K:J2} (h:GR.txt ⟨Tryz.prog,w0⟩ a0 a1 c0 c1 K):Eng.cl2 ⟨Tryz.prog,w0⟩ 124 GR.sg [a0,a1] [c0,c1] K:=
 AD (C:=⟨Tryz.prog,w0⟩) (f:=124) (fn:=Tryz.f124) [(70,B5.sg)] [] [] Tryz.func124 (by kernel_rfl) (by kernel_rfl) (by kernel_rfl) h
def HK.sg:Sg:=⟨[(1,[.t 8 0, .t 2 0, .t 1 0, .t 1 0])],[(0,[.t 1])],[]⟩
def HK.txt (C:Ctx) (c0 c1 c2 c3:List T) (K:J2):Prop:=
 BC (fun r3 x1 k2=>
 prP (bnI .lss (nx x1 0) (iv (cnt 8 c0))) fun t10_5=>
 gE t10_5 (
 gP t10_5 true (prP (bnI .lss (nx x1 0) (.int .i64 8))) fun t13_6=>
 prP (pk t10_5 t13_6 (.bool false)) fun t14_7=>
 AV t14_7 (
 BW (fun x9 k10=>
 prP (bnI .add (nx x9 0) (.int .i64 1)) fun t16_19=>
 r3 [t16_19] [(nxc k10 0)]) fun j11=>
 ixW (cnt 8 c0) (nx x1 0) fun t20_12=>
 ldc c0 [] ((AA t20_12)*8) fun t22_13=>
 AV t22_13 (
 ixW (cnt 8 c0) (nx x1 0) fun t28_14=>
 ldc c0 [] (((AA t28_14)*8)+1) fun t30_15=>
 cl2 C 58 EY.sg [(nx x1 0),t30_15] [] fun v16 d17=>
 apW [T.c (nx v16 0)] true (cnt 1 (nxc k2 0)) (cnt 1 [T.c (nx v16 0)]) 8 (
 j11 [(nx x1 0)] [((nxc k2 0)++[T.c (nx v16 0)])])) (
 j11 [(nx x1 0)] [(nxc k2 0)])) (
 K [] [(nxc k2 0)]))) [(.int .i64 0)] [[]]
theorem HK.cl2 {w0:World} {c0 c1 c2 c3:List T} {K:J2} (h:HK.txt ⟨Tryz.prog,w0⟩ c0 c1 c2 c3 K):Eng.cl2 ⟨Tryz.prog,w0⟩ 166 HK.sg [] [c0,c1,c2,c3] K:=
 AD (C:=⟨Tryz.prog,w0⟩) (f:=166) (fn:=Tryz.f166) [(58,EY.sg)] [] [(233,⟨[.p (.j 0) 0, .t (.j 1) 1, .v],[],[.bx [.t (.f 0) 8, .t (.f 1) 2, .t (.f 2) 1, .t (.f 3) 1], .ls]⟩),(58,⟨[.p (.j 0) 0, .t (.j 1) 1, .v],[],[.bx [.t (.f 0) 8, .t (.f 1) 2, .t (.f 2) 1, .t (.f 3) 1], .ls]⟩)] Tryz.func166 (by kernel_rfl) (by kernel_rfl) (by kernel_rfl) h
def FV.sg:Sg:=⟨[(2,[.t 1 0, .v, .v]),(0,[.v])],[(0,[.v])],[[.a 0, .v, .v]]⟩
def FV.txt (C:Ctx) (a0 a1 a2:Value) (c0:List T) (K:J2):Prop:=
 cl2 C 70 B5.sg [a0,a1,a2] [c0] fun v1 d2=>
 prP (bnI .eql (nx v1 0) (.int .i64 0)) fun t8_3=>
 K [t8_3,(nx v1 1),(nx v1 2)] []
theorem FV.cl2 {w0:World} {a0 a1 a2:Value} {c0:List T} {K:J2} (h:FV.txt ⟨Tryz.prog,w0⟩ a0 a1 a2 c0 K):Eng.cl2 ⟨Tryz.prog,w0⟩ 34 FV.sg [a0,a1,a2] [c0] K:=
 AD (C:=⟨Tryz.prog,w0⟩) (f:=34) (fn:=Tryz.f34) [(70,B5.sg)] [] [] Tryz.func34 (by kernel_rfl) (by kernel_rfl) (by kernel_rfl) h
def IU.sg:Sg:=⟨[(2,[.t 1 0, .v, .v]),(1,[.t 8 0, .t 2 0, .t 1 0, .t 1 0])],[(0,[.v])],[[.a 0, .v, .v]]⟩
def IU.txt (C:Ctx) (a0 a1:Value) (c0 c1 c2 c3 c4:List T) (K:J2):Prop:=
 cl2 C 166 HK.sg [] [c1,c2,c3,c4] fun v1 d2=>
 prP (bnI .eql (iv (cnt 1 (nxc d2 0))) (.int .i64 0)) fun t10_3=>
 gE t10_3 (
 gF t10_3 false (
 cl2 C 34 FV.sg [a0,a1,(.int .i64 16)] [c0] fun v4 d5=>
 prP (pk t10_3 (.bool true) (nx v4 0)) fun t14_6=>
 AV t14_6 (
 cl2 C 123 CA.sg [(nx v4 1),(nx v4 2)] [c0,[T.c (.int .i64 (-1)),T.c (.int .i64 0),T.c (.int .i64 8),T.c (.int .i64 9),T.c (.int .i64 17),T.c (.int .i64 4000)]] fun v7 d8=>
 K [(nx v7 0),(nx v7 1),(nx v7 2)] []) (
 cl2 C 70 B5.sg [(nx v4 1),(nx v4 2),(iv (cnt 1 (nxc d2 0)))] [c0] fun v9 d10=>
 ixW (cnt 1 (nxc d2 0)) (nx v9 0) fun t23_11=>
 ldc (nxc d2 0) [] ((AA t23_11)*1) fun t24_12=>
 K [t24_12,(nx v9 1),(nx v9 2)] [])) (
 prP (pk t10_3 (.bool true) undef) fun t14_13=>
 AV t14_13 (
 cl2 C 123 CA.sg [a0,a1] [c0,[T.c (.int .i64 (-1)),T.c (.int .i64 0),T.c (.int .i64 8),T.c (.int .i64 9),T.c (.int .i64 17),T.c (.int .i64 4000)]] fun v14 d15=>
 K [(nx v14 0),(nx v14 1),(nx v14 2)] []) (
 cl2 C 70 B5.sg [a0,a1,(iv (cnt 1 (nxc d2 0)))] [c0] fun v16 d17=>
 ixW (cnt 1 (nxc d2 0)) (nx v16 0) fun t23_18=>
 ldc (nxc d2 0) [] ((AA t23_18)*1) fun t24_19=>
 K [t24_19,(nx v16 1),(nx v16 2)] [])))
theorem IU.cl2 {w0:World} {a0 a1:Value} {c0 c1 c2 c3 c4:List T} {K:J2} (h:IU.txt ⟨Tryz.prog,w0⟩ a0 a1 c0 c1 c2 c3 c4 K):Eng.cl2 ⟨Tryz.prog,w0⟩ 125 IU.sg [a0,a1] [c0,c1,c2,c3,c4] K:=
 AD (C:=⟨Tryz.prog,w0⟩) (f:=125) (fn:=Tryz.f125) [(166,HK.sg),(34,FV.sg),(123,CA.sg),(70,B5.sg)] [] [] Tryz.func125 (by kernel_rfl) (by kernel_rfl) (by kernel_rfl) h
def KE.sg:Sg:=⟨[(2,[.t 1 0, .v, .v]),(1,[.t 8 0, .t 2 0, .t 1 0, .t 1 0])],[(1,[.v, .v, .v, .v, .v])],[[.a 0, .v, .v]]⟩
def KE.txt (C:Ctx) (a0 a1:Value) (c0 c1 c2 c3 c4:List T) (K:J2):Prop:=
 cl2 C 123 CA.sg [a0,a1] [c0,[T.c (.int .i64 1),T.c (.int .i64 1),T.c (.int .i64 1),T.c (.int .i64 2),T.c (.int .i64 3),T.c (.int .i64 3),T.c (.int .i64 3),T.c (.int .i64 4),T.c (.int .i64 4),T.c (.int .i64 4),T.c (.int .i64 4),T.c (.int .i64 5),T.c (.int .i64 6),T.c (.int .i64 7),T.c (.int .i64 8),T.c (.int .i64 9),T.c (.int .i64 10),T.c (.int .i64 4)]] fun v1 d2=>
 BW (fun x4 k5=>
 BW (fun x31 k32=>
 K [(nx x31 5),(nx x31 6),(nx x31 7),(nx x31 8),(nx x31 9),(nx x31 10),(nx x31 11)] []) fun j33=>
 cl2 C 70 B5.sg [(nx x4 0),(nx x4 1),(.int .i64 50)] [c0] fun v34 d35=>
 prP (bnI .eql (nx v34 0) (.int .i64 0)) fun t49_36=>
 AV t49_36 (
 cl2 C 123 CA.sg [(nx v34 1),(nx v34 2)] [c0,[T.c (.int .i64 0),T.c (.int .i64 11)]] fun v37 d38=>
 j33 [(nx x4 2),(nx x4 3),(nx x4 4),(nx x4 5),(nx x4 6),(nx v37 0),(nx x4 8),(nx x4 9),(nx x4 10),(nx x4 11),(nx v37 1),(nx v37 2)] []) (
 prP (bnI .eql (nx v34 0) (.int .i64 1)) fun t55_39=>
 AV t55_39 (
 cl2 C 123 CA.sg [(nx v34 1),(nx v34 2)] [c0,[T.c (.int .i64 (-1)),T.c (.int .i64 3)]] fun v40 d41=>
 j33 [(nx x4 2),(nx x4 3),(nx x4 4),(nx x4 5),(nx x4 6),(nx x4 7),(nx x4 8),(nx v40 0),(nx x4 10),(nx x4 11),(nx v40 1),(nx v40 2)] []) (
 prP (bnI .eql (nx v34 0) (.int .i64 2)) fun t61_42=>
 AV t61_42 (
 cl2 C 124 GR.sg [(nx v34 1),(nx v34 2)] [c0,[T.c (.string {data:= #[]}),T.c (.string {data:= #[116,111,111,108,111,110,103,97,115,105,116,101]}),T.c (.string {data:= #[115,49]}),T.c (.string {data:= #[115,50]}),T.c (.string {data:= #[115,51]}),T.c (.string {data:= #[115,52]}),T.c (.string {data:= #[115,53]})]] fun v43 d44=>
 j33 [(nx x4 2),(nx x4 3),(nx x4 4),(nx x4 5),(nx x4 6),(nx x4 7),(nx x4 8),(nx x4 9),(nx x4 10),(nx v43 0),(nx v43 1),(nx v43 2)] []) (
 j33 [(nx x4 2),(nx x4 3),(nx x4 4),(nx x4 5),(nx x4 6),(nx x4 7),(nx x4 8),(nx x4 9),(nx x4 10),(nx x4 11),(nx v34 1),(nx v34 2)] [])))) fun j6=>
 prP (bnI .eql (nx v1 0) (.int .i64 1)) fun t17_7=>
 AV t17_7 (
 cl2 C 124 GR.sg [(nx v1 1),(nx v1 2)] [c0,[T.c (.string {data:= #[97]}),T.c (.string {data:= #[98]}),T.c (.string {data:= #[108,105,115,116]}),T.c (.string {data:= #[110,111,100,101]})]] fun v8 d9=>
 j6 [(nx v8 1),(nx v8 2),(.int .i64 0),(.int .i64 0),(.int .i64 0),(.int .i64 0),(.string {data:= #[]}),(nx v1 0),(.int .i64 0),(.int .i64 0),(.int .i64 0),(nx v8 0)] []) (
 prP (bnI .eql (nx v1 0) (.int .i64 4)) fun t23_10=>
 AV t23_10 (
 cl2 C 125 IU.sg [(nx v1 1),(nx v1 2)] [c0,c1,c2,c3,c4] fun v11 d12=>
 cl2 C 70 B5.sg [(nx v11 1),(nx v11 2),(.int .i64 3)] [c0] fun v13 d14=>
 cl2 C 125 IU.sg [(nx v13 1),(nx v13 2)] [c0,c1,c2,c3,c4] fun v15 d16=>
 cl2 C 34 FV.sg [(nx v15 1),(nx v15 2),(.int .i64 4)] [c0] fun v17 d18=>
 AV (nx v17 0) (
 j6 [(nx v17 1),(nx v17 2),(.int .i64 0),(.int .i64 0),(.int .i64 0),(.int .i64 0),(.string {data:= #[]}),(nx v1 0),(nx v11 0),(nx v13 0),(.int .i64 (-1)),(.string {data:= #[]})] []) (
 j6 [(nx v17 1),(nx v17 2),(.int .i64 0),(.int .i64 0),(.int .i64 0),(.int .i64 0),(.string {data:= #[]}),(nx v1 0),(nx v11 0),(nx v13 0),(nx v15 0),(.string {data:= #[]})] [])) (
 BW (fun x20 k21=>
 AV (nx x20 1) (
 cl2 C 70 B5.sg [(nx x20 2),(nx x20 3),(.int .i64 4)] [c0] fun v25 d26=>
 j6 [(nx v25 1),(nx v25 2),(nx x20 4),(nx x20 5),(nx x20 6),(nx x20 7),(nx x20 8),(nx x20 9),(nx v25 0),(nx x20 11),(nx x20 12),(nx x20 13)] []) (
 prP (bnI .eql (nx x20 0) (.int .i64 10)) fun t45_27=>
 AV t45_27 (
 j6 [(nx x20 2),(nx x20 3),(nx x20 4),(nx x20 5),(nx x20 6),(nx x20 7),(nx x20 8),(nx x20 9),(nx x20 10),(nx x20 11),(nx x20 12),(nx x20 13)] []) (
 cl2 C 125 IU.sg [(nx x20 2),(nx x20 3)] [c0,c1,c2,c3,c4] fun v28 d29=>
 j6 [(nx v28 1),(nx v28 2),(nx x20 4),(nx x20 5),(nx x20 6),(nx x20 7),(nx x20 8),(nx x20 9),(nx v28 0),(nx x20 11),(nx x20 12),(nx x20 13)] []))) fun j22=>
 prP (bnI .eql (nx v1 0) (.int .i64 8)) fun t39_23=>
 AV t39_23 (
 j22 [(nx v1 0),t39_23,(nx v1 1),(nx v1 2),(.int .i64 0),(.int .i64 0),(.int .i64 0),(.int .i64 0),(.string {data:= #[]}),(nx v1 0),(.int .i64 0),(.int .i64 0),(.int .i64 0),(.string {data:= #[]})] []) (
 prP (bnI .eql (nx v1 0) (.int .i64 9)) fun t40_24=>
 j22 [(nx v1 0),t40_24,(nx v1 1),(nx v1 2),(.int .i64 0),(.int .i64 0),(.int .i64 0),(.int .i64 0),(.string {data:= #[]}),(nx v1 0),(.int .i64 0),(.int .i64 0),(.int .i64 0),(.string {data:= #[]})] [])))
theorem KE.cl2 {w0:World} {a0 a1:Value} {c0 c1 c2 c3 c4:List T} {K:J2} (h:KE.txt ⟨Tryz.prog,w0⟩ a0 a1 c0 c1 c2 c3 c4 K):Eng.cl2 ⟨Tryz.prog,w0⟩ 71 KE.sg [a0,a1] [c0,c1,c2,c3,c4] K:=
 AD (C:=⟨Tryz.prog,w0⟩) (f:=71) (fn:=Tryz.f71) [(123,CA.sg),(124,GR.sg),(125,IU.sg),(70,B5.sg),(34,FV.sg)] [] [(943,⟨[.p (.j 0) 0, .p (.j 1) 0, .p (.j 2) 0, .p (.j 3) 0, .v, .v],[.p (.j 0) 0, .t (.f 0) 1, .t (.f 1) 8, .t (.f 2) 2, .t (.f 3) 1, .t (.f 4) 1],[.bx [.t (.f 0) 1, .v, .v], .bx [.t (.f 1) 8, .t (.f 2) 2, .t (.f 3) 1, .t (.f 4) 1], .bx [.v, .v, .v, .v, .v], .bx [.v, .v, .v, .v, .v]]⟩),(7,⟨[.p (.j 0) 0, .p (.j 1) 0, .p (.j 2) 0],[.p (.j 0) 0, .t (.f 0) 1, .t (.f 1) 8, .t (.f 2) 2, .t (.f 3) 1, .t (.f 4) 1],[.bx [.t (.f 0) 1, .v, .v], .bx [.v, .v, .v, .v, .v], .bx [.v, .v, .v, .v, .v]]⟩),(15,⟨[.p (.j 0) 0, .p (.j 1) 0],[.p (.j 2) 0, .t (.f 0) 1, .t (.f 1) 8, .t (.f 2) 2, .t (.f 3) 1, .t (.f 4) 1],[.bx [.v, .v, .v, .v, .v], .bx [.v, .v, .v, .v, .v], .bx [.t (.f 0) 1, .v, .v]]⟩)] Tryz.func71 (by kernel_rfl) (by kernel_rfl) (by kernel_rfl) h
def JA.sg:Sg:=⟨[(2,[.t 1 0, .v, .v]),(0,[.v])],[(0,[.t 5])],[[.a 0, .v, .v]]⟩
def JA.txt (C:Ctx) (a0 a1 a2:Value) (c0:List T) (K:J2):Prop:=
 cl2 C 52 FO.sg [] [] fun v1 d2=>
 prP (bnI .add a2 (.int .i64 1)) fun t15_3=>
 cl2 C 70 B5.sg [a0,a1,t15_3] [c0] fun v4 d5=>
 BC (fun r8 x6 k7=>
 prP (bnI .gtr (nx x6 0) (.int .i64 0)) fun t18_10=>
 AV t18_10 (
 cl2 C 71 KE.sg [(nx x6 1),(nx x6 2)] [c0,(nxc k7 1),(nxc k7 2),(nxc k7 3),(nxc k7 4)] fun v11 d12=>
 cl2 C 53 HU.sg [(nx v11 0),(nx v11 1),(nx v11 2),(nx v11 3),(nx v11 4)] [(nxc k7 1),(nxc k7 2),(nxc k7 3),(nxc k7 4)] fun v13 d14=>
 apW [T.c (nx v11 0),T.c (nx v11 1),T.c (nx v11 2),T.c (nx v11 3),T.c (nx v11 4)] true (cnt 5 (nxc k7 0)) (cnt 5 [T.c (nx v11 0),T.c (nx v11 1),T.c (nx v11 2),T.c (nx v11 3),T.c (nx v11 4)]) 48 (
 prP (bnI .sub (nx x6 0) (.int .i64 1)) fun t20_15=>
 r8 [t20_15,(nx v11 5),(nx v11 6)] [((nxc k7 0)++[T.c (nx v11 0),T.c (nx v11 1),T.c (nx v11 2),T.c (nx v11 3),T.c (nx v11 4)]),(nxc d14 0),(nxc d14 1),(nxc d14 2),(nxc d14 3)])) (
 K [(nx x6 1),(nx x6 2)] [(nxc k7 0)])) [(nx v4 0),(nx v4 1),(nx v4 2)] [[],(nxc d2 0),(nxc d2 1),(nxc d2 2),(nxc d2 3)]
theorem JA.cl2 {w0:World} {a0 a1 a2:Value} {c0:List T} {K:J2} (h:JA.txt ⟨Tryz.prog,w0⟩ a0 a1 a2 c0 K):Eng.cl2 ⟨Tryz.prog,w0⟩ 33 JA.sg [a0,a1,a2] [c0] K:=
 AD (C:=⟨Tryz.prog,w0⟩) (f:=33) (fn:=Tryz.f33) [(52,FO.sg),(70,B5.sg),(71,KE.sg),(53,HU.sg)] [] [(122,⟨[.p (.j 0) 0, .p (.j 1) 0, .t (.j 2) 5, .v],[.p (.j 0) 0, .t (.f 0) 1],[.bx [.t (.f 0) 1, .v, .v], .bx [.t (.j 3) 8, .t (.j 4) 2, .t (.j 5) 1, .t (.j 6) 1], .ls, .ls, .ls, .ls, .ls]⟩)] Tryz.func33 (by kernel_rfl) (by kernel_rfl) (by kernel_rfl) h
def FW.sg:Sg:=⟨[(0,[.t 1 0])],[(0,[.t 5])],[]⟩
def FW.txt (C:Ctx) (c0:List T) (K:J2):Prop:=
 cl2 C 32 JE.sg [] [c0] fun v1 d2=>
 cl2 C 33 JA.sg [(nx v1 0),(nx v1 1),(.int .i64 50)] [c0] fun v3 d4=>
 BW (fun x6 k7=>
 K [] [(nxc k7 0)]) fun j8=>
 cl2 C 34 FV.sg [(nx v3 0),(nx v3 1),(.int .i64 16)] [c0] fun v9 d10=>
 AV (nx v9 0) (
 apW [T.c (.int .i64 5),T.c (.int .i64 9223372036854775807),T.c (.int .i64 0),T.c (.int .i64 0),T.c (.string {data:= #[]})] true (cnt 5 (nxc d4 0)) (cnt 5 [T.c (.int .i64 5),T.c (.int .i64 9223372036854775807),T.c (.int .i64 0),T.c (.int .i64 0),T.c (.string {data:= #[]})]) 48 (
 j8 [] [((nxc d4 0)++[T.c (.int .i64 5),T.c (.int .i64 9223372036854775807),T.c (.int .i64 0),T.c (.int .i64 0),T.c (.string {data:= #[]})])])) (
 j8 [] [(nxc d4 0)])
theorem FW.cl2 {w0:World} {c0:List T} {K:J2} (h:FW.txt ⟨Tryz.prog,w0⟩ c0 K):Eng.cl2 ⟨Tryz.prog,w0⟩ 8 FW.sg [] [c0] K:=
 AD (C:=⟨Tryz.prog,w0⟩) (f:=8) (fn:=Tryz.f8) [(32,JE.sg),(33,JA.sg),(34,FV.sg)] [] [(15,⟨[.t (.j 0) 5],[],[.ls]⟩)] Tryz.func8 (by kernel_rfl) (by kernel_rfl) (by kernel_rfl) h
def FD.sg:Sg:=⟨[(1,[.t 8 0, .t 2 0, .t 1 0, .t 1 0]),(1,[.t 8 0, .t 2 0, .t 1 0, .t 1 0])],[(0,[.v])],[]⟩
def FD.txt (C:Ctx) (c0 c1 c2 c3 c4 c5 c6 c7:List T) (K:J2):Prop:=
 prP (bnI .neq (iv (cnt 8 c0)) (iv (cnt 8 c4))) fun t16_1=>
 gE t16_1 (
 gE t16_1 (
 gE t16_1 (
 gE t16_1 (
 gE t16_1 (
 gE t16_1 (
 gP t16_1 false (prP (bnI .neq (iv (cnt 2 c1)) (iv (cnt 2 c5)))) fun t24_2=>
 prP (pk t16_1 (.bool true) t24_2) fun t25_3=>
 gE t25_3 (
 gE t25_3 (
 gE t25_3 (
 gE t25_3 (
 gP t25_3 false ((fun K=>cl2 C 38 FY.sg [] [c2,c6] fun v4 d5=>K (nx v4 0))) fun t31_6=>
 gP t25_3 false (prP (un .not t31_6)) fun t32_7=>
 prP (pk t25_3 (.bool true) t32_7) fun t33_8=>
 gE t33_8 (
 gE t33_8 (
 gE t33_8 (
 gE t33_8 (
 gE t33_8 (
 gE t33_8 (
 gP t33_8 false (prP (bnI .neq (iv (cnt 1 c3)) (iv (cnt 1 c7)))) fun t41_9=>
 prP (pk t33_8 (.bool true) t41_9) fun t42_10=>
 AV t42_10 (
 K [(.bool false)] []) (
 BC (fun r13 x11 k12=>
 prP (bnI .lss (nx x11 0) (iv (cnt 8 c0))) fun t47_15=>
 AV t47_15 (
 ixW (cnt 8 c0) (nx x11 0) fun t53_16=>
 ldg c0 [] ((AA t53_16)*8) [.c, .c, .c, .c, .c, .c, .l 1, .c] fun ts17=>
 ixW (cnt 8 c4) (nx x11 0) fun t58_18=>
 ldg c4 [] ((AA t58_18)*8) [.c, .c, .c, .c, .c, .c, .l 1, .c] fun ts19=>
 prP (bnB .neq (tv (nxT ts17 0)) (tv (nxT ts19 0))) fun t64_20=>
 gE t64_20 (
 gE t64_20 (
 gE t64_20 (
 gE t64_20 (
 gP t64_20 false (prP (bnI .neq (tv (nxT ts17 1)) (tv (nxT ts19 1)))) fun t70_21=>
 prP (pk t64_20 (.bool true) t70_21) fun t71_22=>
 gE t71_22 (
 gE t71_22 (
 gE t71_22 (
 gE t71_22 (
 gP t71_22 false (prP (bnI .neq (tv (nxT ts17 2)) (tv (nxT ts19 2)))) fun t77_23=>
 prP (pk t71_22 (.bool true) t77_23) fun t78_24=>
 gE t78_24 (
 gE t78_24 (
 gE t78_24 (
 gE t78_24 (
 gP t78_24 false (prP (bnI .neq (tv (nxT ts17 3)) (tv (nxT ts19 3)))) fun t84_25=>
 prP (pk t78_24 (.bool true) t84_25) fun t85_26=>
 gE t85_26 (
 gE t85_26 (
 gE t85_26 (
 gE t85_26 (
 gP t85_26 false (prP (bnI .neq (tv (nxT ts17 4)) (tv (nxT ts19 4)))) fun t91_27=>
 prP (pk t85_26 (.bool true) t91_27) fun t92_28=>
 gE t92_28 (
 gE t92_28 (
 gE t92_28 (
 gE t92_28 (
 gP t92_28 false (prP (bnI .neq (tv (nxT ts17 5)) (tv (nxT ts19 5)))) fun t98_29=>
 prP (pk t92_28 (.bool true) t98_29) fun t99_30=>
 gE t99_30 (
 gE t99_30 (
 gE t99_30 (
 gE t99_30 (
 gP t99_30 false (prP (bnB .neq (tv (nxT ts17 7)) (tv (nxT ts19 7)))) fun t105_31=>
 prP (pk t99_30 (.bool true) t105_31) fun t106_32=>
 gE t106_32 (
 gE t106_32 (
 gE t106_32 (
 gE t106_32 (
 gP t106_32 false ((fun K=>cl2 C 38 FY.sg [] [(G4 c0 [(((AA t53_16)*8)+6)]),(G4 c4 [(((AA t58_18)*8)+6)])] fun v33 d34=>K (nx v33 0))) fun t112_35=>
 gP t106_32 false (prP (un .not t112_35)) fun t113_36=>
 prP (pk t106_32 (.bool true) t113_36) fun t114_37=>
 AV t114_37 (
 K [(.bool false)] []) (
 prP (bnI .add (nx x11 0) (.int .i64 1)) fun t49_38=>
 r13 [t49_38] [])))))))))))))))))))))))))))))) (
 BC (fun r41 x39 k40=>
 prP (bnI .lss (nx x39 0) (iv (cnt 2 c1))) fun t119_43=>
 AV t119_43 (
 ixW (cnt 2 c1) (nx x39 0) fun t125_44=>
 ldg c1 [] ((AA t125_44)*2) [.c, .c] fun ts45=>
 ixW (cnt 2 c5) (nx x39 0) fun t130_46=>
 ldg c5 [] ((AA t130_46)*2) [.c, .c] fun ts47=>
 prP (bnA C.P .neq 70 (.agg #[(tv (nxT ts45 0)),(tv (nxT ts45 1))]) (.agg #[(tv (nxT ts47 0)),(tv (nxT ts47 1))])) fun t132_48=>
 AV t132_48 (
 K [(.bool false)] []) (
 prP (bnI .add (nx x39 0) (.int .i64 1)) fun t121_49=>
 r41 [t121_49] [])) (
 BC (fun r52 x50 k51=>
 prP (bnI .lss (nx x50 0) (iv (cnt 1 c3))) fun t137_54=>
 AV t137_54 (
 ixW (cnt 1 c3) (nx x50 0) fun t143_55=>
 ldc c3 [] ((AA t143_55)*1) fun t144_56=>
 ixW (cnt 1 c7) (nx x50 0) fun t148_57=>
 ldc c7 [] ((AA t148_57)*1) fun t149_58=>
 prP (bnS .neq t144_56 t149_58) fun t150_59=>
 AV t150_59 (
 K [(.bool false)] []) (
 prP (bnI .add (nx x50 0) (.int .i64 1)) fun t139_60=>
 r52 [t139_60] [])) (
 K [(.bool true)] [])) [(.int .i64 0)] [])) [(.int .i64 0)] [])) [(.int .i64 0)] [])))))))))))))))))
theorem FD.cl2 {w0:World} {c0 c1 c2 c3 c4 c5 c6 c7:List T} {K:J2} (h:FD.txt ⟨Tryz.prog,w0⟩ c0 c1 c2 c3 c4 c5 c6 c7 K):Eng.cl2 ⟨Tryz.prog,w0⟩ 11 FD.sg [] [c0,c1,c2,c3,c4,c5,c6,c7] K:=
 AD (C:=⟨Tryz.prog,w0⟩) (f:=11) (fn:=Tryz.f11) [(38,FY.sg)] [(13,[0,1,0,7,15,0,32,0,224,480,1023]),(18,[0,1,0,7,15,0,32,0,224,480,1023])] [(250,⟨[.p (.j 0) 0, .p (.j 1) 0, .v],[],[.bx [.t (.f 0) 8, .t (.f 1) 2, .t (.f 2) 1, .t (.f 3) 1], .bx [.t (.f 4) 8, .t (.f 5) 2, .t (.f 6) 1, .t (.f 7) 1]]⟩),(122,⟨[.p (.j 0) 0, .p (.j 1) 0, .v],[],[.bx [.t (.f 0) 8, .t (.f 1) 2, .t (.f 2) 1, .t (.f 3) 1], .bx [.t (.f 4) 8, .t (.f 5) 2, .t (.f 6) 1, .t (.f 7) 1]]⟩),(58,⟨[.p (.j 0) 0, .p (.j 1) 0, .v],[],[.bx [.t (.f 0) 8, .t (.f 1) 2, .t (.f 2) 1, .t (.f 3) 1], .bx [.t (.f 4) 8, .t (.f 5) 2, .t (.f 6) 1, .t (.f 7) 1]]⟩)] Tryz.func11 (by kernel_rfl) (by kernel_rfl) (by kernel_rfl) h
def DF.sg:Sg:=⟨[(0,[.t 3 0]),(0,[.t 3 0])],[(0,[.v])],[]⟩
def DF.txt (C:Ctx) (c0 c1:List T) (K:J2):Prop:=
 prP (bnI .neq (iv (cnt 3 c0)) (iv (cnt 3 c1))) fun t10_1=>
 AV t10_1 (
 K [(.bool false)] []) (
 BC (fun r4 x2 k3=>
 prP (bnI .lss (nx x2 0) (iv (cnt 3 c0))) fun t14_6=>
 AV t14_6 (
 ixW (cnt 3 c0) (nx x2 0) fun t19_7=>
 ldg c0 [] ((AA t19_7)*3) [.c, .c, .l 1] fun ts8=>
 ixW (cnt 3 c1) (nx x2 0) fun t23_9=>
 ldg c1 [] ((AA t23_9)*3) [.c, .c, .l 1] fun ts10=>
 cl2 C 39 EI.sg [(tv (nxT ts8 0)),(tv (nxT ts8 1)),(tv (nxT ts10 0)),(tv (nxT ts10 1))] [(G4 c0 [(((AA t19_7)*3)+2)]),(G4 c1 [(((AA t23_9)*3)+2)])] fun v11 d12=>
 prP (un .not (nx v11 0)) fun t26_14=>
 AV t26_14 (
 K [(.bool false)] []) (
 prP (bnI .add (nx x2 0) (.int .i64 1)) fun t16_15=>
 r4 [t16_15] [])) (
 K [(.bool true)] [])) [(.int .i64 0)] [])
theorem DF.cl2 {w0:World} {c0 c1:List T} {K:J2} (h:DF.txt ⟨Tryz.prog,w0⟩ c0 c1 K):Eng.cl2 ⟨Tryz.prog,w0⟩ 12 DF.sg [] [c0,c1] K:=
 AD (C:=⟨Tryz.prog,w0⟩) (f:=12) (fn:=Tryz.f12) [(39,EI.sg)] [(6,[0,0,3,7,0,0,48,112,255,511])] [(58,⟨[.t (.f 0) 3, .t (.f 1) 3, .v],[],[]⟩)] Tryz.func12 (by kernel_rfl) (by kernel_rfl) (by kernel_rfl) h
def IH.sg:Sg:=⟨[(0,[.t 5 0])],[(0,[.v])],[]⟩
def IH.txt (C:Ctx) (c0:List T) (K:J2):Prop:=
 BC (fun r3 x1 k2=>
 prP (bnI .lss (nx x1 0) (iv (cnt 5 c0))) fun t7_5=>
 AV t7_5 (
 ixW (cnt 5 c0) (nx x1 0) fun t12_6=>
 ldg c0 [] ((AA t12_6)*5) [.c, .c, .c, .c, .c] fun ts7=>
 cl2 C 40 EF.sg [(tv (nxT ts7 0)),(tv (nxT ts7 1)),(tv (nxT ts7 2)),(tv (nxT ts7 3)),(tv (nxT ts7 4))] [] fun v8 d9=>
 prP (un .not (nx v8 0)) fun t15_11=>
 AV t15_11 (
 K [(.bool false)] []) (
 prP (bnI .add (nx x1 0) (.int .i64 1)) fun t9_12=>
 r3 [t9_12] [])) (
 prP (bnI .lss (iv (cnt 5 c0)) (.int .i64 400)) fun t18_13=>
 K [t18_13] [])) [(.int .i64 0)] []
theorem IH.cl2 {w0:World} {c0:List T} {K:J2} (h:IH.txt ⟨Tryz.prog,w0⟩ c0 K):Eng.cl2 ⟨Tryz.prog,w0⟩ 13 IH.sg [] [c0] K:=
 AD (C:=⟨Tryz.prog,w0⟩) (f:=13) (fn:=Tryz.f13) [(40,EF.sg)] [] [(26,⟨[.t (.f 0) 5, .v],[],[]⟩)] Tryz.func13 (by kernel_rfl) (by kernel_rfl) (by kernel_rfl) h
def GD.sg:Sg:=⟨[(0,[.t 5 0]),(0,[.t 5 0])],[(0,[.v])],[]⟩
def GD.txt (C:Ctx) (c0 c1:List T) (K:J2):Prop:=
 prP (bnI .neq (iv (cnt 5 c0)) (iv (cnt 5 c1))) fun t10_1=>
 AV t10_1 (
 K [(.bool false)] []) (
 BC (fun r4 x2 k3=>
 prP (bnI .lss (nx x2 0) (iv (cnt 5 c0))) fun t14_6=>
 AV t14_6 (
 ixW (cnt 5 c0) (nx x2 0) fun t19_7=>
 ldg c0 [] ((AA t19_7)*5) [.c, .c, .c, .c, .c] fun ts8=>
 ixW (cnt 5 c1) (nx x2 0) fun t23_9=>
 ldg c1 [] ((AA t23_9)*5) [.c, .c, .c, .c, .c] fun ts10=>
 prP (bnA C.P .neq 63 (.agg #[(tv (nxT ts8 0)),(tv (nxT ts8 1)),(tv (nxT ts8 2)),(tv (nxT ts8 3)),(tv (nxT ts8 4))]) (.agg #[(tv (nxT ts10 0)),(tv (nxT ts10 1)),(tv (nxT ts10 2)),(tv (nxT ts10 3)),(tv (nxT ts10 4))])) fun t25_11=>
 AV t25_11 (
 K [(.bool false)] []) (
 prP (bnI .add (nx x2 0) (.int .i64 1)) fun t16_12=>
 r4 [t16_12] [])) (
 K [(.bool true)] [])) [(.int .i64 0)] [])
theorem GD.cl2 {w0:World} {c0 c1:List T} {K:J2} (h:GD.txt ⟨Tryz.prog,w0⟩ c0 c1 K):Eng.cl2 ⟨Tryz.prog,w0⟩ 16 GD.sg [] [c0,c1] K:=
 AD (C:=⟨Tryz.prog,w0⟩) (f:=16) (fn:=Tryz.f16) [] [(6,[0,0,3,7,0,0,48,112,255])] [(58,⟨[.t (.f 0) 5, .t (.f 1) 5, .v],[],[]⟩)] Tryz.func16 (by kernel_rfl) (by kernel_rfl) (by kernel_rfl) h
def J8.sg:Sg:=⟨[(0,[.t 1 0])],[(0,[.v])],[]⟩
def J8.txt (C:Ctx) (c0:List T) (K:J2):Prop:=
 cl2 C 7 L6.sg [] [c0] fun v1 d2=>
 AV (nx v1 0) (
 K [(.bool true)] []) (
 cl2 C 8 FW.sg [] [c0] fun v4 d5=>
 cl2 C 9 I2.sg [] [(nxc d5 0)] fun v6 d7=>
 cl2 C 10 I1.sg [] [(nxc d5 0)] fun v8 d9=>
 prP (bnS .neq (nx v6 0) (nx v8 0)) fun t22_10=>
 gE t22_10 (
 gE t22_10 (
 gE t22_10 (
 gE t22_10 (
 gP t22_10 false ((fun K=>cl2 C 11 FD.sg [] [(nxc d7 0),(nxc d7 1),(nxc d7 2),(nxc d7 3),(nxc d9 0),(nxc d9 1),(nxc d9 2),(nxc d9 3)] fun v11 d12=>K (nx v11 0))) fun t28_13=>
 gP t22_10 false (prP (un .not t28_13)) fun t29_14=>
 prP (pk t22_10 (.bool true) t29_14) fun t30_15=>
 gE t30_15 (
 gE t30_15 (
 gE t30_15 (
 gE t30_15 (
 gP t30_15 false ((fun K=>cl2 C 12 DF.sg [] [(nxc d7 4),(nxc d9 4)] fun v16 d17=>K (nx v16 0))) fun t36_18=>
 gP t30_15 false (prP (un .not t36_18)) fun t37_19=>
 prP (pk t30_15 (.bool true) t37_19) fun t38_20=>
 AV t38_20 (
 K [(.bool false)] []) (
 cl2 C 13 IH.sg [] [(nxc d5 0)] fun v21 d22=>
 prP (un .not (nx v21 0)) fun t41_24=>
 AV t41_24 (
 prP (bnS .eql (nx v6 0) (.string {data:= #[]})) fun t44_25=>
 K [t44_25] []) (
 cl2 C 14 GY.sg [(nx v6 0)] [] fun v26 d27=>
 cl2 C 15 I3.sg [(nx v6 0)] [] fun v28 d29=>
 prP (bnI .eql (nx v26 0) (.int .i64 0)) fun t56_30=>
 gE t56_30 (
 gE t56_30 (
 gP t56_30 true ((fun K=>cl2 C 16 GD.sg [] [(nxc d27 0),(nxc d5 0)] fun v31 d32=>K (nx v31 0))) fun t60_33=>
 prP (pk t56_30 t60_33 (.bool false)) fun t61_34=>
 gE t61_34 (
 gE t61_34 (
 gE t61_34 (
 gP t61_34 true ((fun K=>cl2 C 12 DF.sg [] [(nxc d27 1),(nxc d7 4)] fun v35 d36=>K (nx v35 0))) fun t66_37=>
 prP (pk t61_34 t66_37 (.bool false)) fun t67_38=>
 gE t67_38 (
 gE t67_38 (
 gP t67_38 true (prP (bnI .eql (nx v28 0) (.int .i64 0))) fun t71_39=>
 prP (pk t67_38 t71_39 (.bool false)) fun t72_40=>
 gE t72_40 (
 gE t72_40 (
 gE t72_40 (
 gE t72_40 (
 gP t72_40 true (prP (bnI .eql (nx v28 1) (iv (cnt 5 (nxc d5 0))))) fun t78_41=>
 prP (pk t72_40 t78_41 (.bool false)) fun t79_42=>
 gE t79_42 (
 gE t79_42 (
 gE t79_42 (
 gE t79_42 (
 gP t79_42 true ((fun K=>cl2 C 11 FD.sg [] [(nxc d29 0),(nxc d29 1),(nxc d29 2),(nxc d29 3),(nxc d7 0),(nxc d7 1),(nxc d7 2),(nxc d7 3)] fun v43 d44=>K (nx v43 0))) fun t85_45=>
 prP (pk t79_42 t85_45 (.bool false)) fun t86_46=>
 gE t86_46 (
 gE t86_46 (
 gE t86_46 (
 gP t86_46 true ((fun K=>cl2 C 16 GD.sg [] [(nxc d29 4),(nxc d5 0)] fun v47 d48=>K (nx v47 0))) fun t91_49=>
 prP (pk t86_46 t91_49 (.bool false)) fun t92_50=>
 gE t92_50 (
 gE t92_50 (
 gP t92_50 true ((fun K=>cl2 C 17 GV.sg [] [(nxc d27 0),(nxc d27 1)] fun v51 d52=>K (nx v51 0))) fun t96_53=>
 gE t92_50 (
 gE t92_50 (
 gP t92_50 true (prP (bnS .eql t96_53 (nx v6 0))) fun t99_54=>
 prP (pk t92_50 t99_54 (.bool false)) fun t100_55=>
 K [t100_55] [])))))))))))))))))))))))))))))))))
theorem J8.cl2 {w0:World} {c0:List T} {K:J2} (h:J8.txt ⟨Tryz.prog,w0⟩ c0 K):Eng.cl2 ⟨Tryz.prog,w0⟩ 3 J8.sg [] [c0] K:=
 AD (C:=⟨Tryz.prog,w0⟩) (f:=3) (fn:=Tryz.f3) [(7,L6.sg),(8,FW.sg),(9,I2.sg),(10,I1.sg),(11,FD.sg),(12,DF.sg),(13,IH.sg),(14,GY.sg),(15,I3.sg),(16,GD.sg),(17,GV.sg)] [(12,[0,1,3,7,7,31,63,127,255,255,767,2047,4095,8191,16383,32767,65535,131071,262143,524287,1048575,524287,2621439,8388607,16777215,33554431,67108863,134217727,67108863,335544319,1073741823,2147483647,4294967295,8589934591,17179869183,8589934591,68719476735,137438953471,274877906943,549755813887,549755813887,2199023255551,549755813887,4947802324991,17592186044415,35184372088831,70368744177663])] [] Tryz.func3 (by kernel_rfl) (by kernel_rfl) (by kernel_rfl) h
end Go.Proofs.YtnhicpkhkaihoaaGreat.P
