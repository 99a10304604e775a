/- A part of the proof. -/
import Derived.Test.YtnhicpkhkaihoaaGreatChecked
import Derived.Test.YtnhicpkhkaihoaaGreatFaPZ4
import Derived.KernelRfl
namespace Go.Proofs.YtnhicpkhkaihoaaGreat.P
open Go Go.Proofs.YtnhicpkhkaihoaaGreat Go.Proofs.YtnhicpkhkaihoaaGreat.Eng
set_option linter.unusedVariables false
set_option maxRecDepth 100000
def ME.sg:Sg:=⟨[(0,[.t 1 0])],[(0,[.v])],[]⟩
def ME.txt (C:Ctx) (c0:List T) (K:J2):Prop:=
 prP (bnI .gtr (iv (cnt 1 c0)) (.int .i64 1048576)) fun t5_1=>
 K [t5_1] []
theorem ME.cl2 {w0:World} {c0:List T} {K:J2} (h:ME.txt ⟨Tryz.prog,w0⟩ c0 K):Eng.cl2 ⟨Tryz.prog,w0⟩ 7 ME.sg [] [c0] K:=
 AB (C:=⟨Tryz.prog,w0⟩) (f:=7) (fn:=Tryz.f7) [] [] [] Tryz.func7 (by kernel_rfl) (by kernel_rfl) (by kernel_rfl) h
def IB.sg:Sg:=⟨[(0,[.t 1 0])],[(2,[.a 0, .v, .v])],[]⟩
def IB.txt (C:Ctx) (c0:List T) (K:J2):Prop:=
 prP (bnI .add (.int .i64 10101) (iv (cnt 1 c0))) fun t7_1=>
 BG (fun r4 x2 k3=>
 prP (bnI .lss (nx x2 1) (iv (cnt 1 c0))) fun t11_6=>
 gE t11_6 (
 gP t11_6 true (prP (bnI .lss (nx x2 1) (.int .i64 4000))) fun t14_7=>
 prP (pk t11_6 t14_7 (.bool false)) fun t15_8=>
 AU t15_8 (
 prP (bnI .mul (nx x2 0) (.int .i64 131)) fun t19_9=>
 ixW (cnt 1 c0) (nx x2 1) fun t22_10=>
 ldc c0 [] ((AA t22_10)*1) fun t23_11=>
 prP (cvI .i64 t23_11) fun t24_12=>
 prP (bnI .add t19_9 t24_12) fun t25_13=>
 prP (bnI .add t25_13 (.int .i64 7)) fun t26_14=>
 prP (bnI .and t26_14 (.int .i64 1073741823)) fun t27_15=>
 prP (bnI .add (nx x2 1) (.int .i64 1)) fun t17_16=>
 r4 [t27_15,t17_16] []) (
 K [(.int .i64 0),(nx x2 0)] []))) [t7_1,(.int .i64 0)] []
theorem IB.cl2 {w0:World} {c0:List T} {K:J2} (h:IB.txt ⟨Tryz.prog,w0⟩ c0 K):Eng.cl2 ⟨Tryz.prog,w0⟩ 32 IB.sg [] [c0] K:=
 AB (C:=⟨Tryz.prog,w0⟩) (f:=32) (fn:=Tryz.f32) [] [] [(58,⟨[.t (.f 0) 1, .v, .v],[.t (.f 0) 1],[]⟩)] Tryz.func32 (by kernel_rfl) (by kernel_rfl) (by kernel_rfl) h
def DE.sg:Sg:=⟨[(2,[.t 1 0, .v, .v])],[(0,[.v])],[[.a 0, .v, .v]]⟩
def DE.txt (C:Ctx) (a0 a1:Value) (c0:List T) (K:J2):Prop:=
 prP (bnI .mul a1 (.int .i64 6364136223846793005)) fun t9_1=>
 prP (bnI .add t9_1 (.int .i64 1442695040888963407)) fun t10_2=>
 prP (bnI .shr t10_2 (.int .u64 33)) fun t17_3=>
 prP (bnI .shr t10_2 (.int .u64 45)) fun t22_4=>
 prP (bnI .xor t17_3 t22_4) fun t23_5=>
 prP (bnI .and t23_5 (.int .i64 255)) fun t24_6=>
 BX (fun x8 k9=>
 K [(nx x8 0),(nx x8 1),(nx x8 2)] []) fun j10=>
 prP (bnI .lss a0 (iv (cnt 1 c0))) fun t34_11=>
 AU t34_11 (
 ixW (cnt 1 c0) a0 fun t44_12=>
 ldc c0 [] ((AA t44_12)*1) fun t45_13=>
 prP (cvI .i64 t45_13) fun t46_14=>
 prP (bnI .add t24_6 t46_14) fun t47_15=>
 prP (bnI .and t47_15 (.int .i64 255)) fun t48_16=>
 prP (bnI .add a0 (.int .i64 1)) fun t54_17=>
 j10 [t48_16,t54_17,t10_2] []) (
 j10 [t24_6,a0,t10_2] [])
theorem DE.cl2 {w0:World} {a0 a1:Value} {c0:List T} {K:J2} (h:DE.txt ⟨Tryz.prog,w0⟩ a0 a1 c0 K):Eng.cl2 ⟨Tryz.prog,w0⟩ 122 DE.sg [a0,a1] [c0] K:=
 AB (C:=⟨Tryz.prog,w0⟩) (f:=122) (fn:=Tryz.f122) [] [(2,[0,1,3,7,15,0,32,96,224,480,1023,2047,4095]),(3,[0,1,3,7,0,16,48,112,240,511]),(4,[0,0,2,6,14,0,32,96,224,510,1022,2046,4095,8191,16383])] [(15,⟨[.v],[.p (.j 0) 0, .t (.f 0) 1],[.bx [.t (.f 0) 1, .v, .v]]⟩)] Tryz.func122 (by kernel_rfl) (by kernel_rfl) (by kernel_rfl) h
def BN.sg:Sg:=⟨[(2,[.t 1 0, .v, .v]),(0,[.v])],[(0,[.v])],[[.a 0, .v, .v]]⟩
def BN.txt (C:Ctx) (a0 a1 a2:Value) (c0:List T) (K:J2):Prop:=
 prP (bnI .leq a2 (.int .i64 0)) fun t10_1=>
 AU t10_1 (
 K [(.int .i64 0),a0,a1] []) (
 prP (bnI .leq a2 (.int .i64 256)) fun t12_2=>
 AU t12_2 (
 cl2 C 122 DE.sg [a0,a1] [c0] fun v3 d4=>
 prP (bnI .rem (nx v3 0) a2) fun t16_5=>
 K [t16_5,(nx v3 1),(nx v3 2)] []) (
 cl2 C 122 DE.sg [a0,a1] [c0] fun v6 d7=>
 cl2 C 122 DE.sg [(nx v6 1),(nx v6 2)] [c0] fun v8 d9=>
 cl2 C 122 DE.sg [(nx v8 1),(nx v8 2)] [c0] fun v10 d11=>
 cl2 C 122 DE.sg [(nx v10 1),(nx v10 2)] [c0] fun v12 d13=>
 prP (bnI .mul (nx v6 0) (.int .i64 16777216)) fun t26_14=>
 prP (bnI .mul (nx v8 0) (.int .i64 65536)) fun t28_15=>
 prP (bnI .add t26_14 t28_15) fun t29_16=>
 prP (bnI .mul (nx v10 0) (.int .i64 256)) fun t31_17=>
 prP (bnI .add t29_16 t31_17) fun t32_18=>
 prP (bnI .add t32_18 (nx v12 0)) fun t34_19=>
 prP (bnI .rem t34_19 a2) fun t36_20=>
 K [t36_20,(nx v12 1),(nx v12 2)] []))
theorem BN.cl2 {w0:World} {a0 a1 a2:Value} {c0:List T} {K:J2} (h:BN.txt ⟨Tryz.prog,w0⟩ a0 a1 a2 c0 K):Eng.cl2 ⟨Tryz.prog,w0⟩ 70 BN.sg [a0,a1,a2] [c0] K:=
 AB (C:=⟨Tryz.prog,w0⟩) (f:=70) (fn:=Tryz.f70) [(122,DE.sg)] [] [] Tryz.func70 (by kernel_rfl) (by kernel_rfl) (by kernel_rfl) h
def CE.sg:Sg:=⟨[(2,[.t 1 0, .v, .v]),(0,[.t 1 0])],[(0,[.v])],[[.a 0, .v, .v]]⟩
def CE.txt (C:Ctx) (a0 a1:Value) (c0 c1:List T) (K:J2):Prop:=
 cl2 C 70 BN.sg [a0,a1,(iv (cnt 1 c1))] [c0] fun v1 d2=>
 ixW (cnt 1 c1) (nx v1 0) fun t10_3=>
 ldc c1 [] ((AA t10_3)*1) fun t11_4=>
 K [t11_4,(nx v1 1),(nx v1 2)] []
theorem CE.cl2 {w0:World} {a0 a1:Value} {c0 c1:List T} {K:J2} (h:CE.txt ⟨Tryz.prog,w0⟩ a0 a1 c0 c1 K):Eng.cl2 ⟨Tryz.prog,w0⟩ 123 CE.sg [a0,a1] [c0,c1] K:=
 AB (C:=⟨Tryz.prog,w0⟩) (f:=123) (fn:=Tryz.f123) [(70,BN.sg)] [] [] Tryz.func123 (by kernel_rfl) (by kernel_rfl) (by kernel_rfl) h
def G5.sg:Sg:=⟨[(2,[.t 1 0, .v, .v]),(0,[.t 1 0])],[(0,[.v])],[[.a 0, .v, .v]]⟩
def G5.txt (C:Ctx) (a0 a1:Value) (c0 c1:List T) (K:J2):Prop:=
 cl2 C 70 BN.sg [a0,a1,(iv (cnt 1 c1))] [c0] fun v1 d2=>
 ixW (cnt 1 c1) (nx v1 0) fun t10_3=>
 ldc c1 [] ((AA t10_3)*1) fun t11_4=>
 K [t11_4,(nx v1 1),(nx v1 2)] []
theorem G5.cl2 {w0:World} {a0 a1:Value} {c0 c1:List T} {K:J2} (h:G5.txt ⟨Tryz.prog,w0⟩ a0 a1 c0 c1 K):Eng.cl2 ⟨Tryz.prog,w0⟩ 124 G5.sg [a0,a1] [c0,c1] K:=
 AB (C:=⟨Tryz.prog,w0⟩) (f:=124) (fn:=Tryz.f124) [(70,BN.sg)] [] [] Tryz.func124 (by kernel_rfl) (by kernel_rfl) (by kernel_rfl) h
def H2.sg:Sg:=⟨[(1,[.t 8 0, .t 2 0, .t 1 0, .t 1 0])],[(0,[.t 1])],[]⟩
def H2.txt (C:Ctx) (c0 c1 c2 c3:List T) (K:J2):Prop:=
 BG (fun r3 x1 k2=>
 prP (bnI .lss (nx x1 0) (iv (cnt 8 c0))) fun t10_5=>
 gE t10_5 (
 gP t10_5 true (prP (bnI .lss (nx x1 0) (.int .i64 8))) fun t13_6=>
 prP (pk t10_5 t13_6 (.bool false)) fun t14_7=>
 AU t14_7 (
 BX (fun x9 k10=>
 prP (bnI .add (nx x9 0) (.int .i64 1)) fun t16_19=>
 r3 [t16_19] [(nxc k10 0)]) fun j11=>
 ixW (cnt 8 c0) (nx x1 0) fun t20_12=>
 ldc c0 [] ((AA t20_12)*8) fun t22_13=>
 AU t22_13 (
 ixW (cnt 8 c0) (nx x1 0) fun t28_14=>
 ldc c0 [] (((AA t28_14)*8)+1) fun t30_15=>
 cl2 C 58 FH.sg [(nx x1 0),t30_15] [] fun v16 d17=>
 apW [T.c (nx v16 0)] true (cnt 1 (nxc k2 0)) (cnt 1 [T.c (nx v16 0)]) 8 (
 j11 [(nx x1 0)] [((nxc k2 0)++[T.c (nx v16 0)])])) (
 j11 [(nx x1 0)] [(nxc k2 0)])) (
 K [] [(nxc k2 0)]))) [(.int .i64 0)] [[]]
theorem H2.cl2 {w0:World} {c0 c1 c2 c3:List T} {K:J2} (h:H2.txt ⟨Tryz.prog,w0⟩ c0 c1 c2 c3 K):Eng.cl2 ⟨Tryz.prog,w0⟩ 166 H2.sg [] [c0,c1,c2,c3] K:=
 AB (C:=⟨Tryz.prog,w0⟩) (f:=166) (fn:=Tryz.f166) [(58,FH.sg)] [] [(233,⟨[.p (.j 0) 0, .t (.j 1) 1, .v],[],[.bx [.t (.f 0) 8, .t (.f 1) 2, .t (.f 2) 1, .t (.f 3) 1], .ls]⟩),(58,⟨[.p (.j 0) 0, .t (.j 1) 1, .v],[],[.bx [.t (.f 0) 8, .t (.f 1) 2, .t (.f 2) 1, .t (.f 3) 1], .ls]⟩)] Tryz.func166 (by kernel_rfl) (by kernel_rfl) (by kernel_rfl) h
def EN.sg:Sg:=⟨[(2,[.t 1 0, .v, .v]),(0,[.v])],[(0,[.v])],[[.a 0, .v, .v]]⟩
def EN.txt (C:Ctx) (a0 a1 a2:Value) (c0:List T) (K:J2):Prop:=
 cl2 C 70 BN.sg [a0,a1,a2] [c0] fun v1 d2=>
 prP (bnI .eql (nx v1 0) (.int .i64 0)) fun t8_3=>
 K [t8_3,(nx v1 1),(nx v1 2)] []
theorem EN.cl2 {w0:World} {a0 a1 a2:Value} {c0:List T} {K:J2} (h:EN.txt ⟨Tryz.prog,w0⟩ a0 a1 a2 c0 K):Eng.cl2 ⟨Tryz.prog,w0⟩ 34 EN.sg [a0,a1,a2] [c0] K:=
 AB (C:=⟨Tryz.prog,w0⟩) (f:=34) (fn:=Tryz.f34) [(70,BN.sg)] [] [] Tryz.func34 (by kernel_rfl) (by kernel_rfl) (by kernel_rfl) h
def JK.sg:Sg:=⟨[(2,[.t 1 0, .v, .v]),(1,[.t 8 0, .t 2 0, .t 1 0, .t 1 0])],[(0,[.v])],[[.a 0, .v, .v]]⟩
def JK.txt (C:Ctx) (a0 a1:Value) (c0 c1 c2 c3 c4:List T) (K:J2):Prop:=
 cl2 C 166 H2.sg [] [c1,c2,c3,c4] fun v1 d2=>
 prP (bnI .eql (iv (cnt 1 (nxc d2 0))) (.int .i64 0)) fun t10_3=>
 gE t10_3 (
 gF t10_3 false (
 cl2 C 34 EN.sg [a0,a1,(.int .i64 16)] [c0] fun v4 d5=>
 prP (pk t10_3 (.bool true) (nx v4 0)) fun t14_6=>
 AU t14_6 (
 cl2 C 123 CE.sg [(nx v4 1),(nx v4 2)] [c0,[T.c (.int .i64 (-1)),T.c (.int .i64 0),T.c (.int .i64 8),T.c (.int .i64 9),T.c (.int .i64 17),T.c (.int .i64 4000)]] fun v7 d8=>
 K [(nx v7 0),(nx v7 1),(nx v7 2)] []) (
 cl2 C 70 BN.sg [(nx v4 1),(nx v4 2),(iv (cnt 1 (nxc d2 0)))] [c0] fun v9 d10=>
 ixW (cnt 1 (nxc d2 0)) (nx v9 0) fun t23_11=>
 ldc (nxc d2 0) [] ((AA t23_11)*1) fun t24_12=>
 K [t24_12,(nx v9 1),(nx v9 2)] [])) (
 prP (pk t10_3 (.bool true) undef) fun t14_13=>
 AU t14_13 (
 cl2 C 123 CE.sg [a0,a1] [c0,[T.c (.int .i64 (-1)),T.c (.int .i64 0),T.c (.int .i64 8),T.c (.int .i64 9),T.c (.int .i64 17),T.c (.int .i64 4000)]] fun v14 d15=>
 K [(nx v14 0),(nx v14 1),(nx v14 2)] []) (
 cl2 C 70 BN.sg [a0,a1,(iv (cnt 1 (nxc d2 0)))] [c0] fun v16 d17=>
 ixW (cnt 1 (nxc d2 0)) (nx v16 0) fun t23_18=>
 ldc (nxc d2 0) [] ((AA t23_18)*1) fun t24_19=>
 K [t24_19,(nx v16 1),(nx v16 2)] [])))
theorem JK.cl2 {w0:World} {a0 a1:Value} {c0 c1 c2 c3 c4:List T} {K:J2} (h:JK.txt ⟨Tryz.prog,w0⟩ a0 a1 c0 c1 c2 c3 c4 K):Eng.cl2 ⟨Tryz.prog,w0⟩ 125 JK.sg [a0,a1] [c0,c1,c2,c3,c4] K:=
 AB (C:=⟨Tryz.prog,w0⟩) (f:=125) (fn:=Tryz.f125) [(166,H2.sg),(34,EN.sg),(123,CE.sg),(70,BN.sg)] [] [] Tryz.func125 (by kernel_rfl) (by kernel_rfl) (by kernel_rfl) h
def KY.sg:Sg:=⟨[(2,[.t 1 0, .v, .v]),(1,[.t 8 0, .t 2 0, .t 1 0, .t 1 0])],[(1,[.v, .v, .v, .v, .v])],[[.a 0, .v, .v]]⟩
def KY.txt (C:Ctx) (a0 a1:Value) (c0 c1 c2 c3 c4:List T) (K:J2):Prop:=
 cl2 C 123 CE.sg [a0,a1] [c0,[T.c (.int .i64 1),T.c (.int .i64 1),T.c (.int .i64 1),T.c (.int .i64 2),T.c (.int .i64 3),T.c (.int .i64 3),T.c (.int .i64 3),T.c (.int .i64 4),T.c (.int .i64 4),T.c (.int .i64 4),T.c (.int .i64 4),T.c (.int .i64 5),T.c (.int .i64 6),T.c (.int .i64 7),T.c (.int .i64 8),T.c (.int .i64 9),T.c (.int .i64 10),T.c (.int .i64 4)]] fun v1 d2=>
 BX (fun x4 k5=>
 BX (fun x31 k32=>
 K [(nx x31 5),(nx x31 6),(nx x31 7),(nx x31 8),(nx x31 9),(nx x31 10),(nx x31 11)] []) fun j33=>
 cl2 C 70 BN.sg [(nx x4 0),(nx x4 1),(.int .i64 50)] [c0] fun v34 d35=>
 prP (bnI .eql (nx v34 0) (.int .i64 0)) fun t49_36=>
 AU t49_36 (
 cl2 C 123 CE.sg [(nx v34 1),(nx v34 2)] [c0,[T.c (.int .i64 0),T.c (.int .i64 11)]] fun v37 d38=>
 j33 [(nx x4 2),(nx x4 3),(nx x4 4),(nx x4 5),(nx x4 6),(nx v37 0),(nx x4 8),(nx x4 9),(nx x4 10),(nx x4 11),(nx v37 1),(nx v37 2)] []) (
 prP (bnI .eql (nx v34 0) (.int .i64 1)) fun t55_39=>
 AU t55_39 (
 cl2 C 123 CE.sg [(nx v34 1),(nx v34 2)] [c0,[T.c (.int .i64 (-1)),T.c (.int .i64 3)]] fun v40 d41=>
 j33 [(nx x4 2),(nx x4 3),(nx x4 4),(nx x4 5),(nx x4 6),(nx x4 7),(nx x4 8),(nx v40 0),(nx x4 10),(nx x4 11),(nx v40 1),(nx v40 2)] []) (
 prP (bnI .eql (nx v34 0) (.int .i64 2)) fun t61_42=>
 AU t61_42 (
 cl2 C 124 G5.sg [(nx v34 1),(nx v34 2)] [c0,[T.c (.string {data:= #[]}),T.c (.string {data:= #[116,111,111,108,111,110,103,97,115,105,116,101]}),T.c (.string {data:= #[115,49]}),T.c (.string {data:= #[115,50]}),T.c (.string {data:= #[115,51]}),T.c (.string {data:= #[115,52]}),T.c (.string {data:= #[115,53]})]] fun v43 d44=>
 j33 [(nx x4 2),(nx x4 3),(nx x4 4),(nx x4 5),(nx x4 6),(nx x4 7),(nx x4 8),(nx x4 9),(nx x4 10),(nx v43 0),(nx v43 1),(nx v43 2)] []) (
 j33 [(nx x4 2),(nx x4 3),(nx x4 4),(nx x4 5),(nx x4 6),(nx x4 7),(nx x4 8),(nx x4 9),(nx x4 10),(nx x4 11),(nx v34 1),(nx v34 2)] [])))) fun j6=>
 prP (bnI .eql (nx v1 0) (.int .i64 1)) fun t17_7=>
 AU t17_7 (
 cl2 C 124 G5.sg [(nx v1 1),(nx v1 2)] [c0,[T.c (.string {data:= #[97]}),T.c (.string {data:= #[98]}),T.c (.string {data:= #[108,105,115,116]}),T.c (.string {data:= #[110,111,100,101]})]] fun v8 d9=>
 j6 [(nx v8 1),(nx v8 2),(.int .i64 0),(.int .i64 0),(.int .i64 0),(.int .i64 0),(.string {data:= #[]}),(nx v1 0),(.int .i64 0),(.int .i64 0),(.int .i64 0),(nx v8 0)] []) (
 prP (bnI .eql (nx v1 0) (.int .i64 4)) fun t23_10=>
 AU t23_10 (
 cl2 C 125 JK.sg [(nx v1 1),(nx v1 2)] [c0,c1,c2,c3,c4] fun v11 d12=>
 cl2 C 70 BN.sg [(nx v11 1),(nx v11 2),(.int .i64 3)] [c0] fun v13 d14=>
 cl2 C 125 JK.sg [(nx v13 1),(nx v13 2)] [c0,c1,c2,c3,c4] fun v15 d16=>
 cl2 C 34 EN.sg [(nx v15 1),(nx v15 2),(.int .i64 4)] [c0] fun v17 d18=>
 AU (nx v17 0) (
 j6 [(nx v17 1),(nx v17 2),(.int .i64 0),(.int .i64 0),(.int .i64 0),(.int .i64 0),(.string {data:= #[]}),(nx v1 0),(nx v11 0),(nx v13 0),(.int .i64 (-1)),(.string {data:= #[]})] []) (
 j6 [(nx v17 1),(nx v17 2),(.int .i64 0),(.int .i64 0),(.int .i64 0),(.int .i64 0),(.string {data:= #[]}),(nx v1 0),(nx v11 0),(nx v13 0),(nx v15 0),(.string {data:= #[]})] [])) (
 BX (fun x20 k21=>
 AU (nx x20 1) (
 cl2 C 70 BN.sg [(nx x20 2),(nx x20 3),(.int .i64 4)] [c0] fun v25 d26=>
 j6 [(nx v25 1),(nx v25 2),(nx x20 4),(nx x20 5),(nx x20 6),(nx x20 7),(nx x20 8),(nx x20 9),(nx v25 0),(nx x20 11),(nx x20 12),(nx x20 13)] []) (
 prP (bnI .eql (nx x20 0) (.int .i64 10)) fun t45_27=>
 AU t45_27 (
 j6 [(nx x20 2),(nx x20 3),(nx x20 4),(nx x20 5),(nx x20 6),(nx x20 7),(nx x20 8),(nx x20 9),(nx x20 10),(nx x20 11),(nx x20 12),(nx x20 13)] []) (
 cl2 C 125 JK.sg [(nx x20 2),(nx x20 3)] [c0,c1,c2,c3,c4] fun v28 d29=>
 j6 [(nx v28 1),(nx v28 2),(nx x20 4),(nx x20 5),(nx x20 6),(nx x20 7),(nx x20 8),(nx x20 9),(nx v28 0),(nx x20 11),(nx x20 12),(nx x20 13)] []))) fun j22=>
 prP (bnI .eql (nx v1 0) (.int .i64 8)) fun t39_23=>
 AU t39_23 (
 j22 [(nx v1 0),t39_23,(nx v1 1),(nx v1 2),(.int .i64 0),(.int .i64 0),(.int .i64 0),(.int .i64 0),(.string {data:= #[]}),(nx v1 0),(.int .i64 0),(.int .i64 0),(.int .i64 0),(.string {data:= #[]})] []) (
 prP (bnI .eql (nx v1 0) (.int .i64 9)) fun t40_24=>
 j22 [(nx v1 0),t40_24,(nx v1 1),(nx v1 2),(.int .i64 0),(.int .i64 0),(.int .i64 0),(.int .i64 0),(.string {data:= #[]}),(nx v1 0),(.int .i64 0),(.int .i64 0),(.int .i64 0),(.string {data:= #[]})] [])))
theorem KY.cl2 {w0:World} {a0 a1:Value} {c0 c1 c2 c3 c4:List T} {K:J2} (h:KY.txt ⟨Tryz.prog,w0⟩ a0 a1 c0 c1 c2 c3 c4 K):Eng.cl2 ⟨Tryz.prog,w0⟩ 71 KY.sg [a0,a1] [c0,c1,c2,c3,c4] K:=
 AB (C:=⟨Tryz.prog,w0⟩) (f:=71) (fn:=Tryz.f71) [(123,CE.sg),(124,G5.sg),(125,JK.sg),(70,BN.sg),(34,EN.sg)] [] [(943,⟨[.p (.j 0) 0, .p (.j 1) 0, .p (.j 2) 0, .p (.j 3) 0, .v, .v],[.p (.j 0) 0, .t (.f 0) 1, .t (.f 1) 8, .t (.f 2) 2, .t (.f 3) 1, .t (.f 4) 1],[.bx [.t (.f 0) 1, .v, .v], .bx [.t (.f 1) 8, .t (.f 2) 2, .t (.f 3) 1, .t (.f 4) 1], .bx [.v, .v, .v, .v, .v], .bx [.v, .v, .v, .v, .v]]⟩),(7,⟨[.p (.j 0) 0, .p (.j 1) 0, .p (.j 2) 0],[.p (.j 0) 0, .t (.f 0) 1, .t (.f 1) 8, .t (.f 2) 2, .t (.f 3) 1, .t (.f 4) 1],[.bx [.t (.f 0) 1, .v, .v], .bx [.v, .v, .v, .v, .v], .bx [.v, .v, .v, .v, .v]]⟩),(15,⟨[.p (.j 0) 0, .p (.j 1) 0],[.p (.j 2) 0, .t (.f 0) 1, .t (.f 1) 8, .t (.f 2) 2, .t (.f 3) 1, .t (.f 4) 1],[.bx [.v, .v, .v, .v, .v], .bx [.v, .v, .v, .v, .v], .bx [.t (.f 0) 1, .v, .v]]⟩)] Tryz.func71 (by kernel_rfl) (by kernel_rfl) (by kernel_rfl) h
def JR.sg:Sg:=⟨[(2,[.t 1 0, .v, .v]),(0,[.v])],[(0,[.t 5])],[[.a 0, .v, .v]]⟩
def JR.txt (C:Ctx) (a0 a1 a2:Value) (c0:List T) (K:J2):Prop:=
 cl2 C 52 EC.sg [] [] fun v1 d2=>
 prP (bnI .add a2 (.int .i64 1)) fun t15_3=>
 cl2 C 70 BN.sg [a0,a1,t15_3] [c0] fun v4 d5=>
 BG (fun r8 x6 k7=>
 prP (bnI .gtr (nx x6 0) (.int .i64 0)) fun t18_10=>
 AU t18_10 (
 cl2 C 71 KY.sg [(nx x6 1),(nx x6 2)] [c0,(nxc k7 1),(nxc k7 2),(nxc k7 3),(nxc k7 4)] fun v11 d12=>
 cl2 C 53 GC.sg [(nx v11 0),(nx v11 1),(nx v11 2),(nx v11 3),(nx v11 4)] [(nxc k7 1),(nxc k7 2),(nxc k7 3),(nxc k7 4)] fun v13 d14=>
 apW [T.c (nx v11 0),T.c (nx v11 1),T.c (nx v11 2),T.c (nx v11 3),T.c (nx v11 4)] true (cnt 5 (nxc k7 0)) (cnt 5 [T.c (nx v11 0),T.c (nx v11 1),T.c (nx v11 2),T.c (nx v11 3),T.c (nx v11 4)]) 48 (
 prP (bnI .sub (nx x6 0) (.int .i64 1)) fun t20_15=>
 r8 [t20_15,(nx v11 5),(nx v11 6)] [((nxc k7 0)++[T.c (nx v11 0),T.c (nx v11 1),T.c (nx v11 2),T.c (nx v11 3),T.c (nx v11 4)]),(nxc d14 0),(nxc d14 1),(nxc d14 2),(nxc d14 3)])) (
 K [(nx x6 1),(nx x6 2)] [(nxc k7 0)])) [(nx v4 0),(nx v4 1),(nx v4 2)] [[],(nxc d2 0),(nxc d2 1),(nxc d2 2),(nxc d2 3)]
theorem JR.cl2 {w0:World} {a0 a1 a2:Value} {c0:List T} {K:J2} (h:JR.txt ⟨Tryz.prog,w0⟩ a0 a1 a2 c0 K):Eng.cl2 ⟨Tryz.prog,w0⟩ 33 JR.sg [a0,a1,a2] [c0] K:=
 AB (C:=⟨Tryz.prog,w0⟩) (f:=33) (fn:=Tryz.f33) [(52,EC.sg),(70,BN.sg),(71,KY.sg),(53,GC.sg)] [] [(122,⟨[.p (.j 0) 0, .p (.j 1) 0, .t (.j 2) 5, .v],[.p (.j 0) 0, .t (.f 0) 1],[.bx [.t (.f 0) 1, .v, .v], .bx [.t (.j 3) 8, .t (.j 4) 2, .t (.j 5) 1, .t (.j 6) 1], .ls, .ls, .ls, .ls, .ls]⟩)] Tryz.func33 (by kernel_rfl) (by kernel_rfl) (by kernel_rfl) h
def GL.sg:Sg:=⟨[(1,[.t 8 0, .t 2 0, .t 1 0, .t 1 0]),(1,[.t 8 0, .t 2 0, .t 1 0, .t 1 0])],[(0,[.v])],[]⟩
def GL.txt (C:Ctx) (c0 c1 c2 c3 c4 c5 c6 c7:List T) (K:J2):Prop:=
 prP (bnI .neq (iv (cnt 8 c0)) (iv (cnt 8 c4))) fun t16_1=>
 gE t16_1 (
 gE t16_1 (
 gE t16_1 (
 gE t16_1 (
 gE t16_1 (
 gE t16_1 (
 gP t16_1 false (prP (bnI .neq (iv (cnt 2 c1)) (iv (cnt 2 c5)))) fun t24_2=>
 prP (pk t16_1 (.bool true) t24_2) fun t25_3=>
 gE t25_3 (
 gE t25_3 (
 gE t25_3 (
 gE t25_3 (
 gP t25_3 false ((fun K=>cl2 C 38 DY.sg [] [c2,c6] fun v4 d5=>K (nx v4 0))) fun t31_6=>
 gP t25_3 false (prP (un .not t31_6)) fun t32_7=>
 prP (pk t25_3 (.bool true) t32_7) fun t33_8=>
 gE t33_8 (
 gE t33_8 (
 gE t33_8 (
 gE t33_8 (
 gE t33_8 (
 gE t33_8 (
 gP t33_8 false (prP (bnI .neq (iv (cnt 1 c3)) (iv (cnt 1 c7)))) fun t41_9=>
 prP (pk t33_8 (.bool true) t41_9) fun t42_10=>
 AU t42_10 (
 K [(.bool false)] []) (
 BG (fun r13 x11 k12=>
 prP (bnI .lss (nx x11 0) (iv (cnt 8 c0))) fun t47_15=>
 AU t47_15 (
 ixW (cnt 8 c0) (nx x11 0) fun t53_16=>
 ldg c0 [] ((AA t53_16)*8) [.c, .c, .c, .c, .c, .c, .l 1, .c] fun ts17=>
 ixW (cnt 8 c4) (nx x11 0) fun t58_18=>
 ldg c4 [] ((AA t58_18)*8) [.c, .c, .c, .c, .c, .c, .l 1, .c] fun ts19=>
 prP (bnB .neq (tv (nxT ts17 0)) (tv (nxT ts19 0))) fun t64_20=>
 gE t64_20 (
 gE t64_20 (
 gE t64_20 (
 gE t64_20 (
 gP t64_20 false (prP (bnI .neq (tv (nxT ts17 1)) (tv (nxT ts19 1)))) fun t70_21=>
 prP (pk t64_20 (.bool true) t70_21) fun t71_22=>
 gE t71_22 (
 gE t71_22 (
 gE t71_22 (
 gE t71_22 (
 gP t71_22 false (prP (bnI .neq (tv (nxT ts17 2)) (tv (nxT ts19 2)))) fun t77_23=>
 prP (pk t71_22 (.bool true) t77_23) fun t78_24=>
 gE t78_24 (
 gE t78_24 (
 gE t78_24 (
 gE t78_24 (
 gP t78_24 false (prP (bnI .neq (tv (nxT ts17 3)) (tv (nxT ts19 3)))) fun t84_25=>
 prP (pk t78_24 (.bool true) t84_25) fun t85_26=>
 gE t85_26 (
 gE t85_26 (
 gE t85_26 (
 gE t85_26 (
 gP t85_26 false (prP (bnI .neq (tv (nxT ts17 4)) (tv (nxT ts19 4)))) fun t91_27=>
 prP (pk t85_26 (.bool true) t91_27) fun t92_28=>
 gE t92_28 (
 gE t92_28 (
 gE t92_28 (
 gE t92_28 (
 gP t92_28 false (prP (bnI .neq (tv (nxT ts17 5)) (tv (nxT ts19 5)))) fun t98_29=>
 prP (pk t92_28 (.bool true) t98_29) fun t99_30=>
 gE t99_30 (
 gE t99_30 (
 gE t99_30 (
 gE t99_30 (
 gP t99_30 false (prP (bnB .neq (tv (nxT ts17 7)) (tv (nxT ts19 7)))) fun t105_31=>
 prP (pk t99_30 (.bool true) t105_31) fun t106_32=>
 gE t106_32 (
 gE t106_32 (
 gE t106_32 (
 gE t106_32 (
 gP t106_32 false ((fun K=>cl2 C 38 DY.sg [] [(HF c0 [(((AA t53_16)*8)+6)]),(HF c4 [(((AA t58_18)*8)+6)])] fun v33 d34=>K (nx v33 0))) fun t112_35=>
 gP t106_32 false (prP (un .not t112_35)) fun t113_36=>
 prP (pk t106_32 (.bool true) t113_36) fun t114_37=>
 AU t114_37 (
 K [(.bool false)] []) (
 prP (bnI .add (nx x11 0) (.int .i64 1)) fun t49_38=>
 r13 [t49_38] [])))))))))))))))))))))))))))))) (
 BG (fun r41 x39 k40=>
 prP (bnI .lss (nx x39 0) (iv (cnt 2 c1))) fun t119_43=>
 AU t119_43 (
 ixW (cnt 2 c1) (nx x39 0) fun t125_44=>
 ldg c1 [] ((AA t125_44)*2) [.c, .c] fun ts45=>
 ixW (cnt 2 c5) (nx x39 0) fun t130_46=>
 ldg c5 [] ((AA t130_46)*2) [.c, .c] fun ts47=>
 prP (bnA C.P .neq 70 (.agg #[(tv (nxT ts45 0)),(tv (nxT ts45 1))]) (.agg #[(tv (nxT ts47 0)),(tv (nxT ts47 1))])) fun t132_48=>
 AU t132_48 (
 K [(.bool false)] []) (
 prP (bnI .add (nx x39 0) (.int .i64 1)) fun t121_49=>
 r41 [t121_49] [])) (
 BG (fun r52 x50 k51=>
 prP (bnI .lss (nx x50 0) (iv (cnt 1 c3))) fun t137_54=>
 AU t137_54 (
 ixW (cnt 1 c3) (nx x50 0) fun t143_55=>
 ldc c3 [] ((AA t143_55)*1) fun t144_56=>
 ixW (cnt 1 c7) (nx x50 0) fun t148_57=>
 ldc c7 [] ((AA t148_57)*1) fun t149_58=>
 prP (bnS .neq t144_56 t149_58) fun t150_59=>
 AU t150_59 (
 K [(.bool false)] []) (
 prP (bnI .add (nx x50 0) (.int .i64 1)) fun t139_60=>
 r52 [t139_60] [])) (
 K [(.bool true)] [])) [(.int .i64 0)] [])) [(.int .i64 0)] [])) [(.int .i64 0)] [])))))))))))))))))
theorem GL.cl2 {w0:World} {c0 c1 c2 c3 c4 c5 c6 c7:List T} {K:J2} (h:GL.txt ⟨Tryz.prog,w0⟩ c0 c1 c2 c3 c4 c5 c6 c7 K):Eng.cl2 ⟨Tryz.prog,w0⟩ 11 GL.sg [] [c0,c1,c2,c3,c4,c5,c6,c7] K:=
 AB (C:=⟨Tryz.prog,w0⟩) (f:=11) (fn:=Tryz.f11) [(38,DY.sg)] [(13,[0,1,0,7,15,0,32,0,224,480,1023]),(18,[0,1,0,7,15,0,32,0,224,480,1023])] [(250,⟨[.p (.j 0) 0, .p (.j 1) 0, .v],[],[.bx [.t (.f 0) 8, .t (.f 1) 2, .t (.f 2) 1, .t (.f 3) 1], .bx [.t (.f 4) 8, .t (.f 5) 2, .t (.f 6) 1, .t (.f 7) 1]]⟩),(122,⟨[.p (.j 0) 0, .p (.j 1) 0, .v],[],[.bx [.t (.f 0) 8, .t (.f 1) 2, .t (.f 2) 1, .t (.f 3) 1], .bx [.t (.f 4) 8, .t (.f 5) 2, .t (.f 6) 1, .t (.f 7) 1]]⟩),(58,⟨[.p (.j 0) 0, .p (.j 1) 0, .v],[],[.bx [.t (.f 0) 8, .t (.f 1) 2, .t (.f 2) 1, .t (.f 3) 1], .bx [.t (.f 4) 8, .t (.f 5) 2, .t (.f 6) 1, .t (.f 7) 1]]⟩)] Tryz.func11 (by kernel_rfl) (by kernel_rfl) (by kernel_rfl) h
def H8.sg:Sg:=⟨[(2,[.t 1 0, .v, .v])],[(0,[.v])],[[.a 0, .v, .v]]⟩
def H8.txt (C:Ctx) (a0 a1:Value) (c0:List T) (K:J2):Prop:=
 cl2 C 33 JR.sg [a0,a1,(.int .i64 20)] [c0] fun v1 d2=>
 cl2 C 36 KZ.sg [] [(nxc d2 0)] fun v3 d4=>
 BX (fun x6 k7=>
 cl2 C 37 G6.sg [] [(nxc k7 0),(nxc k7 1)] fun v28 d29=>
 K [(nx v28 0),(nx x6 0),(nx x6 1)] []) fun j8=>
 prP (bnI .gtr (iv (cnt 3 (nxc d4 4))) (.int .i64 0)) fun t16_9=>
 gE t16_9 (
 gF t16_9 true (
 cl2 C 34 EN.sg [(nx v1 0),(nx v1 1),(.int .i64 8)] [c0] fun v10 d11=>
 prP (pk t16_9 (nx v10 0) (.bool false)) fun t20_12=>
 AU t20_12 (
 cl2 C 70 BN.sg [(nx v10 1),(nx v10 2),(iv (cnt 3 (nxc d4 4)))] [c0] fun v13 d14=>
 ixW (cnt 3 (nxc d4 4)) (nx v13 0) fun t29_15=>
 ldc (nxc d4 4) [] (((AA t29_15)*3)+1) fun t31_16=>
 prP (bnI .add t31_16 (.int .i64 1)) fun t32_17=>
 ixW (cnt 3 (nxc d4 4)) (nx v13 0) fun t33_18=>
 stc (nxc d4 4) [] (((AA t33_18)*3)+1) t32_17 fun k19=>
 j8 [(nx v13 1),(nx v13 2)] [(nxc d2 0),k19]) (
 j8 [(nx v10 1),(nx v10 2)] [(nxc d2 0),(nxc d4 4)])) (
 prP (pk t16_9 undef (.bool false)) fun t20_20=>
 AU t20_20 (
 cl2 C 70 BN.sg [(nx v1 0),(nx v1 1),(iv (cnt 3 (nxc d4 4)))] [c0] fun v21 d22=>
 ixW (cnt 3 (nxc d4 4)) (nx v21 0) fun t29_23=>
 ldc (nxc d4 4) [] (((AA t29_23)*3)+1) fun t31_24=>
 prP (bnI .add t31_24 (.int .i64 1)) fun t32_25=>
 ixW (cnt 3 (nxc d4 4)) (nx v21 0) fun t33_26=>
 stc (nxc d4 4) [] (((AA t33_26)*3)+1) t32_25 fun k27=>
 j8 [(nx v21 1),(nx v21 2)] [(nxc d2 0),k27]) (
 j8 [(nx v1 0),(nx v1 1)] [(nxc d2 0),(nxc d4 4)])))
theorem H8.cl2 {w0:World} {a0 a1:Value} {c0:List T} {K:J2} (h:H8.txt ⟨Tryz.prog,w0⟩ a0 a1 c0 K):Eng.cl2 ⟨Tryz.prog,w0⟩ 49 H8.sg [a0,a1] [c0] K:=
 AB (C:=⟨Tryz.prog,w0⟩) (f:=49) (fn:=Tryz.f49) [(33,JR.sg),(36,KZ.sg),(34,EN.sg),(70,BN.sg),(37,G6.sg)] [] [(15,⟨[.t (.j 0) 5, .t (.j 1) 3],[.p (.j 2) 0, .t (.f 0) 1],[.ls, .ls, .bx [.t (.f 0) 1, .v, .v]]⟩)] Tryz.func49 (by kernel_rfl) (by kernel_rfl) (by kernel_rfl) h
def IY.sg:Sg:=⟨[(2,[.t 1 0, .v, .v]),(0,[.v])],[(0,[.v])],[[.a 0, .v, .v]]⟩
def IY.txt (C:Ctx) (a0 a1 a2:Value) (c0:List T) (K:J2):Prop:=
 cl2 C 70 BN.sg [a0,a1,(.int .i64 4)] [c0] fun v1 d2=>
 prP (bnI .add a2 (.int .i64 1)) fun t14_3=>
 cl2 C 70 BN.sg [(nx v1 1),(nx v1 2),t14_3] [c0] fun v4 d5=>
 BG (fun r8 x6 k7=>
 prP (bnI .gtr (nx x6 1) (.int .i64 0)) fun t17_10=>
 AU t17_10 (
 cl2 C 122 DE.sg [(nx x6 2),(nx x6 3)] [c0] fun v11 d12=>
 BX (fun x14 k15=>
 BX (fun x20 k21=>
 prP (cvI .u8 (nx x20 2)) fun t33_26=>
 apW [T.c t33_26] true (cnt 1 (nxc k21 0)) (cnt 1 [T.c t33_26]) 1 (
 prP (bnI .sub (nx x20 1) (.int .i64 1)) fun t19_27=>
 r8 [(nx x20 0),t19_27,(nx x20 3),(nx x20 4)] [((nxc k21 0)++[T.c t33_26])])) fun j22=>
 prP (bnI .eql (nx x14 0) (.int .i64 2)) fun t27_23=>
 AU t27_23 (
 prP (bnI .rem (nx x14 2) (.int .i64 4)) fun t29_24=>
 prP (bnI .add (.int .i64 97) t29_24) fun t30_25=>
 j22 [(nx x14 0),(nx x14 1),t30_25,(nx x14 3),(nx x14 4)] [(nxc k15 0)]) (
 j22 [(nx x14 0),(nx x14 1),(nx x14 2),(nx x14 3),(nx x14 4)] [(nxc k15 0)])) fun j16=>
 prP (bnI .eql (nx x6 0) (.int .i64 1)) fun t23_17=>
 AU t23_17 (
 prP (bnI .rem (nx v11 0) (.int .i64 2)) fun t25_18=>
 j16 [(nx x6 0),(nx x6 1),t25_18,(nx v11 1),(nx v11 2)] [(nxc k7 0)]) (
 j16 [(nx x6 0),(nx x6 1),(nx v11 0),(nx v11 1),(nx v11 2)] [(nxc k7 0)])) (
 prP (b2T (nxc k7 0)) fun t37_28=>
 K [t37_28,(nx x6 2),(nx x6 3)] [])) [(nx v1 0),(nx v4 0),(nx v4 1),(nx v4 2)] [[]]
theorem IY.cl2 {w0:World} {a0 a1 a2:Value} {c0:List T} {K:J2} (h:IY.txt ⟨Tryz.prog,w0⟩ a0 a1 a2 c0 K):Eng.cl2 ⟨Tryz.prog,w0⟩ 154 IY.sg [a0,a1,a2] [c0] K:=
 AB (C:=⟨Tryz.prog,w0⟩) (f:=154) (fn:=Tryz.f154) [(70,BN.sg),(122,DE.sg)] [] [(3913,⟨[.p (.j 0) 0, .t (.j 1) 1, .v, .v, .v],[.p (.j 0) 0, .t (.f 0) 1],[.bx [.t (.f 0) 1, .v, .v], .ls]⟩),(7827,⟨[.p (.j 0) 0, .t (.j 1) 1, .v, .v, .v],[.p (.j 0) 0, .t (.f 0) 1],[.bx [.t (.f 0) 1, .v, .v], .ls]⟩),(122,⟨[.p (.j 0) 0, .t (.j 1) 1, .v, .v],[.p (.j 0) 0, .t (.f 0) 1],[.bx [.t (.f 0) 1, .v, .v], .ls]⟩)] Tryz.func154 (by kernel_rfl) (by kernel_rfl) (by kernel_rfl) h
def HT.sg:Sg:=⟨[(2,[.t 1 0, .v, .v]),(0,[.v])],[(0,[.v])],[[.a 0, .v, .v]]⟩
def HT.txt (C:Ctx) (a0 a1 a2:Value) (c0:List T) (K:J2):Prop:=
 prP (lnS a2) fun t7_1=>
 prP (bnI .eql t7_1 (.int .i64 0)) fun t8_2=>
 AU t8_2 (
 cl2 C 154 IY.sg [a0,a1,(.int .i64 3)] [c0] fun v3 d4=>
 K [(nx v3 0),(nx v3 1),(nx v3 2)] []) (
 prP (lnS a2) fun t13_5=>
 cl2 C 70 BN.sg [a0,a1,t13_5] [c0] fun v6 d7=>
 cl2 C 70 BN.sg [(nx v6 1),(nx v6 2),(.int .i64 4)] [c0] fun v8 d9=>
 prP (bnI .eql (nx v8 0) (.int .i64 0)) fun t18_10=>
 AU t18_10 (
 prP (scS a2 none (some (nx v6 0))) fun t21_11=>
 prP (bnI .add (nx v6 0) (.int .i64 1)) fun t24_12=>
 prP (scS a2 (some t24_12) none) fun t25_13=>
 prP (bnS .add t21_11 t25_13) fun t26_14=>
 K [t26_14,(nx v8 1),(nx v8 2)] []) (
 prP (bnI .eql (nx v8 0) (.int .i64 1)) fun t28_15=>
 AU t28_15 (
 prP (scS a2 none (some (nx v6 0))) fun t31_16=>
 cl2 C 122 DE.sg [(nx v8 1),(nx v8 2)] [c0] fun v17 d18=>
 prP (cvI .u8 (nx v17 0)) fun t34_19=>
 prP (b2T [T.c t34_19]) fun t36_20=>
 prP (bnS .add t31_16 t36_20) fun t37_21=>
 prP (scS a2 (some (nx v6 0)) none) fun t40_22=>
 prP (bnS .add t37_21 t40_22) fun t41_23=>
 K [t41_23,(nx v17 1),(nx v17 2)] []) (
 prP (bnI .eql (nx v8 0) (.int .i64 2)) fun t43_24=>
 AU t43_24 (
 prP (scS a2 none (some (nx v6 0))) fun t46_25=>
 K [t46_25,(nx v8 1),(nx v8 2)] []) (
 prP (scS a2 none (some (nx v6 0))) fun t49_26=>
 prP (ix a2 (nx v6 0)) fun t52_27=>
 prP (cvI .i64 t52_27) fun t53_28=>
 cl2 C 70 BN.sg [(nx v8 1),(nx v8 2),(.int .i64 255)] [c0] fun v29 d30=>
 prP (bnI .add (.int .i64 1) (nx v29 0)) fun t56_31=>
 prP (bnI .xor t53_28 t56_31) fun t57_32=>
 prP (cvI .u8 t57_32) fun t58_33=>
 prP (b2T [T.c t58_33]) fun t60_34=>
 prP (bnS .add t49_26 t60_34) fun t61_35=>
 prP (bnI .add (nx v6 0) (.int .i64 1)) fun t64_36=>
 prP (scS a2 (some t64_36) none) fun t65_37=>
 prP (bnS .add t61_35 t65_37) fun t66_38=>
 K [t66_38,(nx v29 1),(nx v29 2)] []))))
theorem HT.cl2 {w0:World} {a0 a1 a2:Value} {c0:List T} {K:J2} (h:HT.txt ⟨Tryz.prog,w0⟩ a0 a1 a2 c0 K):Eng.cl2 ⟨Tryz.prog,w0⟩ 96 HT.sg [a0,a1,a2] [c0] K:=
 AB (C:=⟨Tryz.prog,w0⟩) (f:=96) (fn:=Tryz.f96) [(154,IY.sg),(70,BN.sg),(122,DE.sg)] [(6,[0,0,3,0,0,16,56,127,255]),(8,[0,0,3,0,8,24,56,120,255,0,0,1536,4095,8191]),(11,[0,0,3,0,0,24,56,0,128,384,1016,2040,4088,8184,16383,0,0,65536,229376,524287,1048575])] [] Tryz.func96 (by kernel_rfl) (by kernel_rfl) (by kernel_rfl) h
def FZ.sg:Sg:=⟨[(0,[.t 1 0])],[(0,[.v])],[]⟩
def FZ.txt (C:Ctx) (c0:List T) (K:J2):Prop:=
 cl2 C 32 IB.sg [] [c0] fun v1 d2=>
 cl2 C 49 H8.sg [(nx v1 0),(nx v1 1)] [c0] fun v3 d4=>
 cl2 C 70 BN.sg [(nx v3 1),(nx v3 2),(.int .i64 5)] [c0] fun v5 d6=>
 prP (bnI .eql (nx v5 0) (.int .i64 0)) fun t12_7=>
 AU t12_7 (
 cl2 C 96 HT.sg [(nx v5 1),(nx v5 2),(nx v3 0)] [c0] fun v8 d9=>
 K [(nx v8 0)] []) (
 prP (bnI .eql (nx v5 0) (.int .i64 1)) fun t17_10=>
 AU t17_10 (
 prP (lnS (nx v3 0)) fun t21_11=>
 prP (bnI .add t21_11 (.int .i64 1)) fun t22_12=>
 cl2 C 70 BN.sg [(nx v5 1),(nx v5 2),t22_12] [c0] fun v13 d14=>
 prP (scS (nx v3 0) none (some (nx v13 0))) fun t24_15=>
 K [t24_15] []) (
 prP (bnI .eql (nx v5 0) (.int .i64 2)) fun t26_16=>
 AU t26_16 (
 cl2 C 75 FY.sg [] [[T.c (.string {data:= #[97]}),T.c (.string {data:= #[98]})]] fun v17 d18=>
 K [(nx v17 0)] []) (
 K [(nx v3 0)] [])))
theorem FZ.cl2 {w0:World} {c0:List T} {K:J2} (h:FZ.txt ⟨Tryz.prog,w0⟩ c0 K):Eng.cl2 ⟨Tryz.prog,w0⟩ 48 FZ.sg [] [c0] K:=
 AB (C:=⟨Tryz.prog,w0⟩) (f:=48) (fn:=Tryz.f48) [(32,IB.sg),(49,H8.sg),(70,BN.sg),(96,HT.sg),(75,FY.sg)] [] [] Tryz.func48 (by kernel_rfl) (by kernel_rfl) (by kernel_rfl) h
def F4.sg:Sg:=⟨[(0,[.t 1 0])],[(0,[.v])],[]⟩
def F4.txt (C:Ctx) (c0:List T) (K:J2):Prop:=
 cl2 C 32 IB.sg [] [c0] fun v1 d2=>
 cl2 C 34 EN.sg [(nx v1 0),(nx v1 1),(.int .i64 4)] [c0] fun v3 d4=>
 AU (nx v3 0) (
 cl2 C 48 FZ.sg [] [c0] fun v5 d6=>
 K [(nx v5 0)] []) (
 cl2 C 49 H8.sg [(nx v3 1),(nx v3 2)] [c0] fun v8 d9=>
 K [(nx v8 0)] [])
theorem F4.cl2 {w0:World} {c0:List T} {K:J2} (h:F4.txt ⟨Tryz.prog,w0⟩ c0 K):Eng.cl2 ⟨Tryz.prog,w0⟩ 18 F4.sg [] [c0] K:=
 AB (C:=⟨Tryz.prog,w0⟩) (f:=18) (fn:=Tryz.f18) [(32,IB.sg),(34,EN.sg),(48,FZ.sg),(49,H8.sg)] [] [] Tryz.func18 (by kernel_rfl) (by kernel_rfl) (by kernel_rfl) h
def H4.sg:Sg:=⟨[(0,[.t 1 0])],[(0,[.v])],[]⟩
def H4.txt (C:Ctx) (c0:List T) (K:J2):Prop:=
 cl2 C 7 ME.sg [] [c0] fun v1 d2=>
 AU (nx v1 0) (
 K [(.bool true)] []) (
 cl2 C 18 F4.sg [] [c0] fun v4 d5=>
 cl2 C 14 GX.sg [(nx v4 0)] [] fun v7 d8=>
 cl2 C 19 G7.sg [(nx v4 0)] [] fun v9 d10=>
 cl2 C 15 JM.sg [(nx v4 0)] [] fun v11 d12=>
 cl2 C 20 JN.sg [(nx v4 0)] [] fun v13 d14=>
 prP (bnI .neq (nx v7 0) (nx v9 0)) fun t34_15=>
 gE t34_15 (
 gE t34_15 (
 gE t34_15 (
 gE t34_15 (
 gP t34_15 false (prP (bnI .neq (nx v11 0) (nx v13 0))) fun t40_16=>
 prP (pk t34_15 (.bool true) t40_16) fun t41_17=>
 gE t41_17 (
 gE t41_17 (
 gE t41_17 (
 gE t41_17 (
 gP t41_17 false (prP (bnI .neq (nx v11 1) (nx v13 1))) fun t47_18=>
 prP (pk t41_17 (.bool true) t47_18) fun t48_19=>
 gE t48_19 (
 gE t48_19 (
 gE t48_19 (
 gE t48_19 (
 gP t48_19 false ((fun K=>cl2 C 11 GL.sg [] [(nxc d12 0),(nxc d12 1),(nxc d12 2),(nxc d12 3),(nxc d14 0),(nxc d14 1),(nxc d14 2),(nxc d14 3)] fun v20 d21=>K (nx v20 0))) fun t54_22=>
 gP t48_19 false (prP (un .not t54_22)) fun t55_23=>
 prP (pk t48_19 (.bool true) t55_23) fun t56_24=>
 AU t56_24 (
 K [(.bool false)] []) (
 prP (bnI .neq (nx v7 0) (.int .i64 0)) fun t58_25=>
 AU t58_25 (
 prP (bnI .eql (iv (cnt 5 (nxc d8 0))) (.int .i64 0)) fun t61_26=>
 gE t61_26 (
 gE t61_26 (
 gP t61_26 true (prP (bnI .eql (iv (cnt 3 (nxc d8 1))) (.int .i64 0))) fun t65_27=>
 prP (pk t61_26 t65_27 (.bool false)) fun t66_28=>
 gE t66_28 (
 gE t66_28 (
 gE t66_28 (
 gP t66_28 true (prP (bnI .eql (nx v11 0) (nx v7 0))) fun t71_29=>
 prP (pk t66_28 t71_29 (.bool false)) fun t72_30=>
 gE t72_30 (
 gE t72_30 (
 gP t72_30 true (prP (bnI .eql (nx v11 1) (.int .i64 0))) fun t76_31=>
 prP (pk t72_30 t76_31 (.bool false)) fun t77_32=>
 K [t77_32] [])))))))) (
 prP (bnI .eql (iv (cnt 5 (nxc d8 0))) (iv (cnt 3 (nxc d8 1)))) fun t82_33=>
 gE t82_33 (
 gE t82_33 (
 gP t82_33 true ((fun K=>cl2 C 17 IZ.sg [] [(nxc d8 0),(nxc d8 1)] fun v34 d35=>K (nx v34 0))) fun t86_36=>
 gE t82_33 (
 gP t82_33 true (prP (bnS .eql t86_36 (nx v4 0))) fun t88_37=>
 prP (pk t82_33 t88_37 (.bool false)) fun t89_38=>
 gE t89_38 (
 gE t89_38 (
 gP t89_38 true (prP (bnI .eql (nx v11 0) (.int .i64 0))) fun t93_39=>
 gE t89_38 (
 gE (CZ t89_38 true t93_39) (
 gE (CZ t89_38 true t93_39) (
 gP (CZ t89_38 true t93_39) false (prP (bnI .eql (nx v11 0) (.int .i64 3))) fun t97_40=>
 gP t89_38 true (prP (pk t93_39 (.bool true) t97_40)) fun t98_41=>
 prP (pk t89_38 t98_41 (.bool false)) fun t99_42=>
 gE t99_42 (
 gE t99_42 (
 gE t99_42 (
 gE t99_42 (
 gP t99_42 true (prP (bnI .leq (nx v11 1) (iv (cnt 5 (nxc d8 0))))) fun t105_43=>
 prP (pk t99_42 t105_43 (.bool false)) fun t106_44=>
 gE t106_44 (
 gE t106_44 (
 gE t106_44 (
 gE t106_44 (
 gP t106_44 true (prP (bnI .eql (nx v11 1) (iv (cnt 5 (nxc d8 0))))) fun t112_45=>
 gE t106_44 (
 gE t106_44 (
 gP t106_44 true (prP (bnI .eql (nx v11 0) (.int .i64 0))) fun t115_46=>
 gP t106_44 true (prP (bnB .eql t112_45 t115_46)) fun t116_47=>
 prP (pk t106_44 t116_47 (.bool false)) fun t117_48=>
 gE t117_48 (
 gE t117_48 (
 gP t117_48 true ((fun K=>cl2 C 21 GY.sg [] [(nxc d12 0),(nxc d12 1),(nxc d12 2),(nxc d12 3)] fun v49 d50=>K (nx v49 0))) fun t121_51=>
 prP (pk t117_48 t121_51 (.bool false)) fun t122_52=>
 K [t122_52] [])))))))))))))))))))))))))))))))))))
theorem H4.cl2 {w0:World} {c0:List T} {K:J2} (h:H4.txt ⟨Tryz.prog,w0⟩ c0 K):Eng.cl2 ⟨Tryz.prog,w0⟩ 4 H4.sg [] [c0] K:=
 AB (C:=⟨Tryz.prog,w0⟩) (f:=4) (fn:=Tryz.f4) [(7,ME.sg),(18,F4.sg),(14,GX.sg),(19,G7.sg),(15,JM.sg),(20,JN.sg),(11,GL.sg),(17,IZ.sg),(21,GY.sg)] [] [] Tryz.func4 (by kernel_rfl) (by kernel_rfl) (by kernel_rfl) h
end Go.Proofs.YtnhicpkhkaihoaaGreat.P
