/- A part of the proof. -/
import Derived.Test.YtnhicpkhkaihoaaChecked
import Derived.Test.YtnhicpkhkaihoaaEvPZ5
import Derived.KernelRfl
namespace Go.Proofs.Ytnhicpkhkaihoaa.P
open Go Go.Proofs.Ytnhicpkhkaihoaa Go.Proofs.Ytnhicpkhkaihoaa.Eng
set_option linter.unusedVariables false
set_option maxRecDepth 100000
def I6.sg:Sg:=⟨[(0,[.t 1 0])],[(0,[.v])],[]⟩
def I6.txt (C:Ctx) (c0:List T) (K:J2):Prop:=
 prP (bnI .gtr (iv (cnt 1 c0)) (.int .i64 1048576)) fun t5_1=>
 K [t5_1] []
theorem I6.cl2 {w0:World} {c0:List T} {K:J2} (h:I6.txt ⟨Try.prog,w0⟩ c0 K):Eng.cl2 ⟨Try.prog,w0⟩ 49 I6.sg [] [c0] K:=
 AD (C:=⟨Try.prog,w0⟩) (f:=49) (fn:=Try.f49) [] [] [] Try.func49 (by kernel_rfl) (by kernel_rfl) (by kernel_rfl) h
def FZ.sg:Sg:=⟨[(0,[.t 1 0])],[(2,[.a 0, .v, .v])],[]⟩
def FZ.txt (C:Ctx) (c0:List T) (K:J2):Prop:=
 prP (bnI .add (.int .i64 10101) (iv (cnt 1 c0))) fun t7_1=>
 BG (fun r4 x2 k3=>
 prP (bnI .lss (nx x2 1) (iv (cnt 1 c0))) fun t11_6=>
 gE t11_6 (
 gP t11_6 true (prP (bnI .lss (nx x2 1) (.int .i64 4000))) fun t14_7=>
 prP (pk t11_6 t14_7 (.bool false)) fun t15_8=>
 AI t15_8 (
 prP (bnI .mul (nx x2 0) (.int .i64 131)) fun t19_9=>
 ixW (cnt 1 c0) (nx x2 1) fun t22_10=>
 ldc c0 [] ((AA t22_10)*1) fun t23_11=>
 prP (cvI .i64 t23_11) fun t24_12=>
 prP (bnI .add t19_9 t24_12) fun t25_13=>
 prP (bnI .add t25_13 (.int .i64 7)) fun t26_14=>
 prP (bnI .and t26_14 (.int .i64 1073741823)) fun t27_15=>
 prP (bnI .add (nx x2 1) (.int .i64 1)) fun t17_16=>
 r4 [t27_15,t17_16] []) (
 K [(.int .i64 0),(nx x2 0)] []))) [t7_1,(.int .i64 0)] []
theorem FZ.cl2 {w0:World} {c0:List T} {K:J2} (h:FZ.txt ⟨Try.prog,w0⟩ c0 K):Eng.cl2 ⟨Try.prog,w0⟩ 108 FZ.sg [] [c0] K:=
 AD (C:=⟨Try.prog,w0⟩) (f:=108) (fn:=Try.f108) [] [] [(58,⟨[.t (.f 0) 1, .v, .v],[.t (.f 0) 1],[]⟩)] Try.func108 (by kernel_rfl) (by kernel_rfl) (by kernel_rfl) h
def CH.sg:Sg:=⟨[(2,[.t 1 0, .v, .v])],[(0,[.v])],[[.a 0, .v, .v]]⟩
def CH.txt (C:Ctx) (a0 a1:Value) (c0:List T) (K:J2):Prop:=
 prP (bnI .mul a1 (.int .i64 6364136223846793005)) fun t9_1=>
 prP (bnI .add t9_1 (.int .i64 1442695040888963407)) fun t10_2=>
 prP (bnI .shr t10_2 (.int .u64 33)) fun t17_3=>
 prP (bnI .shr t10_2 (.int .u64 45)) fun t22_4=>
 prP (bnI .xor t17_3 t22_4) fun t23_5=>
 prP (bnI .and t23_5 (.int .i64 255)) fun t24_6=>
 BZ (fun x8 k9=>
 K [(nx x8 0),(nx x8 1),(nx x8 2)] []) fun j10=>
 prP (bnI .lss a0 (iv (cnt 1 c0))) fun t34_11=>
 AI t34_11 (
 ixW (cnt 1 c0) a0 fun t44_12=>
 ldc c0 [] ((AA t44_12)*1) fun t45_13=>
 prP (cvI .i64 t45_13) fun t46_14=>
 prP (bnI .add t24_6 t46_14) fun t47_15=>
 prP (bnI .and t47_15 (.int .i64 255)) fun t48_16=>
 prP (bnI .add a0 (.int .i64 1)) fun t54_17=>
 j10 [t48_16,t54_17,t10_2] []) (
 j10 [t24_6,a0,t10_2] [])
theorem CH.cl2 {w0:World} {a0 a1:Value} {c0:List T} {K:J2} (h:CH.txt ⟨Try.prog,w0⟩ a0 a1 c0 K):Eng.cl2 ⟨Try.prog,w0⟩ 175 CH.sg [a0,a1] [c0] K:=
 AD (C:=⟨Try.prog,w0⟩) (f:=175) (fn:=Try.f175) [] [(2,[0,1,3,7,15,0,32,96,224,480,1023,2047,4095]),(3,[0,1,3,7,0,16,48,112,240,511]),(4,[0,0,2,6,14,0,32,96,224,510,1022,2046,4095,8191,16383])] [(15,⟨[.v],[.p (.j 0) 0, .t (.f 0) 1],[.bx [.t (.f 0) 1, .v, .v]]⟩)] Try.func175 (by kernel_rfl) (by kernel_rfl) (by kernel_rfl) h
def AZ.sg:Sg:=⟨[(2,[.t 1 0, .v, .v]),(0,[.v])],[(0,[.v])],[[.a 0, .v, .v]]⟩
def AZ.txt (C:Ctx) (a0 a1 a2:Value) (c0:List T) (K:J2):Prop:=
 prP (bnI .leq a2 (.int .i64 0)) fun t10_1=>
 AI t10_1 (
 K [(.int .i64 0),a0,a1] []) (
 prP (bnI .leq a2 (.int .i64 256)) fun t12_2=>
 AI t12_2 (
 cl2 C 175 CH.sg [a0,a1] [c0] fun v3 d4=>
 prP (bnI .rem (nx v3 0) a2) fun t16_5=>
 K [t16_5,(nx v3 1),(nx v3 2)] []) (
 cl2 C 175 CH.sg [a0,a1] [c0] fun v6 d7=>
 cl2 C 175 CH.sg [(nx v6 1),(nx v6 2)] [c0] fun v8 d9=>
 cl2 C 175 CH.sg [(nx v8 1),(nx v8 2)] [c0] fun v10 d11=>
 cl2 C 175 CH.sg [(nx v10 1),(nx v10 2)] [c0] fun v12 d13=>
 prP (bnI .mul (nx v6 0) (.int .i64 16777216)) fun t26_14=>
 prP (bnI .mul (nx v8 0) (.int .i64 65536)) fun t28_15=>
 prP (bnI .add t26_14 t28_15) fun t29_16=>
 prP (bnI .mul (nx v10 0) (.int .i64 256)) fun t31_17=>
 prP (bnI .add t29_16 t31_17) fun t32_18=>
 prP (bnI .add t32_18 (nx v12 0)) fun t34_19=>
 prP (bnI .rem t34_19 a2) fun t36_20=>
 K [t36_20,(nx v12 1),(nx v12 2)] []))
theorem AZ.cl2 {w0:World} {a0 a1 a2:Value} {c0:List T} {K:J2} (h:AZ.txt ⟨Try.prog,w0⟩ a0 a1 a2 c0 K):Eng.cl2 ⟨Try.prog,w0⟩ 111 AZ.sg [a0,a1,a2] [c0] K:=
 AD (C:=⟨Try.prog,w0⟩) (f:=111) (fn:=Try.f111) [(175,CH.sg)] [] [] Try.func111 (by kernel_rfl) (by kernel_rfl) (by kernel_rfl) h
def B2.sg:Sg:=⟨[(2,[.t 1 0, .v, .v]),(0,[.t 1 0])],[(0,[.v])],[[.a 0, .v, .v]]⟩
def B2.txt (C:Ctx) (a0 a1:Value) (c0 c1:List T) (K:J2):Prop:=
 cl2 C 111 AZ.sg [a0,a1,(iv (cnt 1 c1))] [c0] fun v1 d2=>
 ixW (cnt 1 c1) (nx v1 0) fun t10_3=>
 ldc c1 [] ((AA t10_3)*1) fun t11_4=>
 K [t11_4,(nx v1 1),(nx v1 2)] []
theorem B2.cl2 {w0:World} {a0 a1:Value} {c0 c1:List T} {K:J2} (h:B2.txt ⟨Try.prog,w0⟩ a0 a1 c0 c1 K):Eng.cl2 ⟨Try.prog,w0⟩ 212 B2.sg [a0,a1] [c0,c1] K:=
 AD (C:=⟨Try.prog,w0⟩) (f:=212) (fn:=Try.f212) [(111,AZ.sg)] [] [] Try.func212 (by kernel_rfl) (by kernel_rfl) (by kernel_rfl) h
def EO.sg:Sg:=⟨[(2,[.t 1 0, .v, .v]),(0,[.t 1 0])],[(0,[.v])],[[.a 0, .v, .v]]⟩
def EO.txt (C:Ctx) (a0 a1:Value) (c0 c1:List T) (K:J2):Prop:=
 cl2 C 111 AZ.sg [a0,a1,(iv (cnt 1 c1))] [c0] fun v1 d2=>
 ixW (cnt 1 c1) (nx v1 0) fun t10_3=>
 ldc c1 [] ((AA t10_3)*1) fun t11_4=>
 K [t11_4,(nx v1 1),(nx v1 2)] []
theorem EO.cl2 {w0:World} {a0 a1:Value} {c0 c1:List T} {K:J2} (h:EO.txt ⟨Try.prog,w0⟩ a0 a1 c0 c1 K):Eng.cl2 ⟨Try.prog,w0⟩ 213 EO.sg [a0,a1] [c0,c1] K:=
 AD (C:=⟨Try.prog,w0⟩) (f:=213) (fn:=Try.f213) [(111,AZ.sg)] [] [] Try.func213 (by kernel_rfl) (by kernel_rfl) (by kernel_rfl) h
def FB.sg:Sg:=⟨[(1,[.t 8 0, .t 2 0, .t 1 0, .t 1 0])],[(0,[.t 1])],[]⟩
def FB.txt (C:Ctx) (c0 c1 c2 c3:List T) (K:J2):Prop:=
 BG (fun r3 x1 k2=>
 prP (bnI .lss (nx x1 0) (iv (cnt 8 c0))) fun t10_5=>
 gE t10_5 (
 gP t10_5 true (prP (bnI .lss (nx x1 0) (.int .i64 8))) fun t13_6=>
 prP (pk t10_5 t13_6 (.bool false)) fun t14_7=>
 AI t14_7 (
 BZ (fun x9 k10=>
 prP (bnI .add (nx x9 0) (.int .i64 1)) fun t16_19=>
 r3 [t16_19] [(nxc k10 0)]) fun j11=>
 ixW (cnt 8 c0) (nx x1 0) fun t20_12=>
 ldc c0 [] ((AA t20_12)*8) fun t22_13=>
 AI t22_13 (
 ixW (cnt 8 c0) (nx x1 0) fun t28_14=>
 ldc c0 [] (((AA t28_14)*8)+1) fun t30_15=>
 cl2 C 79 DN.sg [(nx x1 0),t30_15] [] fun v16 d17=>
 apW [T.c (nx v16 0)] true (cnt 1 (nxc k2 0)) (cnt 1 [T.c (nx v16 0)]) 8 (
 j11 [(nx x1 0)] [((nxc k2 0)++[T.c (nx v16 0)])])) (
 j11 [(nx x1 0)] [(nxc k2 0)])) (
 K [] [(nxc k2 0)]))) [(.int .i64 0)] [[]]
theorem FB.cl2 {w0:World} {c0 c1 c2 c3:List T} {K:J2} (h:FB.txt ⟨Try.prog,w0⟩ c0 c1 c2 c3 K):Eng.cl2 ⟨Try.prog,w0⟩ 231 FB.sg [] [c0,c1,c2,c3] K:=
 AD (C:=⟨Try.prog,w0⟩) (f:=231) (fn:=Try.f231) [(79,DN.sg)] [] [(233,⟨[.p (.j 0) 0, .t (.j 1) 1, .v],[],[.bx [.t (.f 0) 8, .t (.f 1) 2, .t (.f 2) 1, .t (.f 3) 1], .ls]⟩),(58,⟨[.p (.j 0) 0, .t (.j 1) 1, .v],[],[.bx [.t (.f 0) 8, .t (.f 1) 2, .t (.f 2) 1, .t (.f 3) 1], .ls]⟩)] Try.func231 (by kernel_rfl) (by kernel_rfl) (by kernel_rfl) h
def D6.sg:Sg:=⟨[(2,[.t 1 0, .v, .v]),(0,[.v])],[(0,[.v])],[[.a 0, .v, .v]]⟩
def D6.txt (C:Ctx) (a0 a1 a2:Value) (c0:List T) (K:J2):Prop:=
 cl2 C 111 AZ.sg [a0,a1,a2] [c0] fun v1 d2=>
 prP (bnI .eql (nx v1 0) (.int .i64 0)) fun t8_3=>
 K [t8_3,(nx v1 1),(nx v1 2)] []
theorem D6.cl2 {w0:World} {a0 a1 a2:Value} {c0:List T} {K:J2} (h:D6.txt ⟨Try.prog,w0⟩ a0 a1 a2 c0 K):Eng.cl2 ⟨Try.prog,w0⟩ 174 D6.sg [a0,a1,a2] [c0] K:=
 AD (C:=⟨Try.prog,w0⟩) (f:=174) (fn:=Try.f174) [(111,AZ.sg)] [] [] Try.func174 (by kernel_rfl) (by kernel_rfl) (by kernel_rfl) h
def GV.sg:Sg:=⟨[(2,[.t 1 0, .v, .v]),(1,[.t 8 0, .t 2 0, .t 1 0, .t 1 0])],[(0,[.v])],[[.a 0, .v, .v]]⟩
def GV.txt (C:Ctx) (a0 a1:Value) (c0 c1 c2 c3 c4:List T) (K:J2):Prop:=
 cl2 C 231 FB.sg [] [c1,c2,c3,c4] fun v1 d2=>
 prP (bnI .eql (iv (cnt 1 (nxc d2 0))) (.int .i64 0)) fun t10_3=>
 gE t10_3 (
 gF t10_3 false (
 cl2 C 174 D6.sg [a0,a1,(.int .i64 16)] [c0] fun v4 d5=>
 prP (pk t10_3 (.bool true) (nx v4 0)) fun t14_6=>
 AI t14_6 (
 cl2 C 212 B2.sg [(nx v4 1),(nx v4 2)] [c0,[T.c (.int .i64 (-1)),T.c (.int .i64 0),T.c (.int .i64 8),T.c (.int .i64 9),T.c (.int .i64 17),T.c (.int .i64 4000)]] fun v7 d8=>
 K [(nx v7 0),(nx v7 1),(nx v7 2)] []) (
 cl2 C 111 AZ.sg [(nx v4 1),(nx v4 2),(iv (cnt 1 (nxc d2 0)))] [c0] fun v9 d10=>
 ixW (cnt 1 (nxc d2 0)) (nx v9 0) fun t23_11=>
 ldc (nxc d2 0) [] ((AA t23_11)*1) fun t24_12=>
 K [t24_12,(nx v9 1),(nx v9 2)] [])) (
 prP (pk t10_3 (.bool true) undef) fun t14_13=>
 AI t14_13 (
 cl2 C 212 B2.sg [a0,a1] [c0,[T.c (.int .i64 (-1)),T.c (.int .i64 0),T.c (.int .i64 8),T.c (.int .i64 9),T.c (.int .i64 17),T.c (.int .i64 4000)]] fun v14 d15=>
 K [(nx v14 0),(nx v14 1),(nx v14 2)] []) (
 cl2 C 111 AZ.sg [a0,a1,(iv (cnt 1 (nxc d2 0)))] [c0] fun v16 d17=>
 ixW (cnt 1 (nxc d2 0)) (nx v16 0) fun t23_18=>
 ldc (nxc d2 0) [] ((AA t23_18)*1) fun t24_19=>
 K [t24_19,(nx v16 1),(nx v16 2)] [])))
theorem GV.cl2 {w0:World} {a0 a1:Value} {c0 c1 c2 c3 c4:List T} {K:J2} (h:GV.txt ⟨Try.prog,w0⟩ a0 a1 c0 c1 c2 c3 c4 K):Eng.cl2 ⟨Try.prog,w0⟩ 214 GV.sg [a0,a1] [c0,c1,c2,c3,c4] K:=
 AD (C:=⟨Try.prog,w0⟩) (f:=214) (fn:=Try.f214) [(231,FB.sg),(174,D6.sg),(212,B2.sg),(111,AZ.sg)] [] [] Try.func214 (by kernel_rfl) (by kernel_rfl) (by kernel_rfl) h
def GU.sg:Sg:=⟨[(2,[.t 1 0, .v, .v]),(1,[.t 8 0, .t 2 0, .t 1 0, .t 1 0])],[(1,[.v, .v, .v, .v, .v])],[[.a 0, .v, .v]]⟩
def GU.txt (C:Ctx) (a0 a1:Value) (c0 c1 c2 c3 c4:List T) (K:J2):Prop:=
 cl2 C 212 B2.sg [a0,a1] [c0,[T.c (.int .i64 1),T.c (.int .i64 1),T.c (.int .i64 1),T.c (.int .i64 2),T.c (.int .i64 3),T.c (.int .i64 3),T.c (.int .i64 3),T.c (.int .i64 4),T.c (.int .i64 4),T.c (.int .i64 4),T.c (.int .i64 4),T.c (.int .i64 5),T.c (.int .i64 6),T.c (.int .i64 7),T.c (.int .i64 8),T.c (.int .i64 9),T.c (.int .i64 10),T.c (.int .i64 4)]] fun v1 d2=>
 BZ (fun x4 k5=>
 BZ (fun x31 k32=>
 K [(nx x31 5),(nx x31 6),(nx x31 7),(nx x31 8),(nx x31 9),(nx x31 10),(nx x31 11)] []) fun j33=>
 cl2 C 111 AZ.sg [(nx x4 0),(nx x4 1),(.int .i64 50)] [c0] fun v34 d35=>
 prP (bnI .eql (nx v34 0) (.int .i64 0)) fun t49_36=>
 AI t49_36 (
 cl2 C 212 B2.sg [(nx v34 1),(nx v34 2)] [c0,[T.c (.int .i64 0),T.c (.int .i64 11)]] fun v37 d38=>
 j33 [(nx x4 2),(nx x4 3),(nx x4 4),(nx x4 5),(nx x4 6),(nx v37 0),(nx x4 8),(nx x4 9),(nx x4 10),(nx x4 11),(nx v37 1),(nx v37 2)] []) (
 prP (bnI .eql (nx v34 0) (.int .i64 1)) fun t55_39=>
 AI t55_39 (
 cl2 C 212 B2.sg [(nx v34 1),(nx v34 2)] [c0,[T.c (.int .i64 (-1)),T.c (.int .i64 3)]] fun v40 d41=>
 j33 [(nx x4 2),(nx x4 3),(nx x4 4),(nx x4 5),(nx x4 6),(nx x4 7),(nx x4 8),(nx v40 0),(nx x4 10),(nx x4 11),(nx v40 1),(nx v40 2)] []) (
 prP (bnI .eql (nx v34 0) (.int .i64 2)) fun t61_42=>
 AI t61_42 (
 cl2 C 213 EO.sg [(nx v34 1),(nx v34 2)] [c0,[T.c (.string {data:= #[]}),T.c (.string {data:= #[116,111,111,108,111,110,103,97,115,105,116,101]}),T.c (.string {data:= #[115,49]}),T.c (.string {data:= #[115,50]}),T.c (.string {data:= #[115,51]}),T.c (.string {data:= #[115,52]}),T.c (.string {data:= #[115,53]})]] fun v43 d44=>
 j33 [(nx x4 2),(nx x4 3),(nx x4 4),(nx x4 5),(nx x4 6),(nx x4 7),(nx x4 8),(nx x4 9),(nx x4 10),(nx v43 0),(nx v43 1),(nx v43 2)] []) (
 j33 [(nx x4 2),(nx x4 3),(nx x4 4),(nx x4 5),(nx x4 6),(nx x4 7),(nx x4 8),(nx x4 9),(nx x4 10),(nx x4 11),(nx v34 1),(nx v34 2)] [])))) fun j6=>
 prP (bnI .eql (nx v1 0) (.int .i64 1)) fun t17_7=>
 AI t17_7 (
 cl2 C 213 EO.sg [(nx v1 1),(nx v1 2)] [c0,[T.c (.string {data:= #[97]}),T.c (.string {data:= #[98]}),T.c (.string {data:= #[108,105,115,116]}),T.c (.string {data:= #[110,111,100,101]})]] fun v8 d9=>
 j6 [(nx v8 1),(nx v8 2),(.int .i64 0),(.int .i64 0),(.int .i64 0),(.int .i64 0),(.string {data:= #[]}),(nx v1 0),(.int .i64 0),(.int .i64 0),(.int .i64 0),(nx v8 0)] []) (
 prP (bnI .eql (nx v1 0) (.int .i64 4)) fun t23_10=>
 AI t23_10 (
 cl2 C 214 GV.sg [(nx v1 1),(nx v1 2)] [c0,c1,c2,c3,c4] fun v11 d12=>
 cl2 C 111 AZ.sg [(nx v11 1),(nx v11 2),(.int .i64 3)] [c0] fun v13 d14=>
 cl2 C 214 GV.sg [(nx v13 1),(nx v13 2)] [c0,c1,c2,c3,c4] fun v15 d16=>
 cl2 C 174 D6.sg [(nx v15 1),(nx v15 2),(.int .i64 4)] [c0] fun v17 d18=>
 AI (nx v17 0) (
 j6 [(nx v17 1),(nx v17 2),(.int .i64 0),(.int .i64 0),(.int .i64 0),(.int .i64 0),(.string {data:= #[]}),(nx v1 0),(nx v11 0),(nx v13 0),(.int .i64 (-1)),(.string {data:= #[]})] []) (
 j6 [(nx v17 1),(nx v17 2),(.int .i64 0),(.int .i64 0),(.int .i64 0),(.int .i64 0),(.string {data:= #[]}),(nx v1 0),(nx v11 0),(nx v13 0),(nx v15 0),(.string {data:= #[]})] [])) (
 BZ (fun x20 k21=>
 AI (nx x20 1) (
 cl2 C 111 AZ.sg [(nx x20 2),(nx x20 3),(.int .i64 4)] [c0] fun v25 d26=>
 j6 [(nx v25 1),(nx v25 2),(nx x20 4),(nx x20 5),(nx x20 6),(nx x20 7),(nx x20 8),(nx x20 9),(nx v25 0),(nx x20 11),(nx x20 12),(nx x20 13)] []) (
 prP (bnI .eql (nx x20 0) (.int .i64 10)) fun t45_27=>
 AI t45_27 (
 j6 [(nx x20 2),(nx x20 3),(nx x20 4),(nx x20 5),(nx x20 6),(nx x20 7),(nx x20 8),(nx x20 9),(nx x20 10),(nx x20 11),(nx x20 12),(nx x20 13)] []) (
 cl2 C 214 GV.sg [(nx x20 2),(nx x20 3)] [c0,c1,c2,c3,c4] fun v28 d29=>
 j6 [(nx v28 1),(nx v28 2),(nx x20 4),(nx x20 5),(nx x20 6),(nx x20 7),(nx x20 8),(nx x20 9),(nx v28 0),(nx x20 11),(nx x20 12),(nx x20 13)] []))) fun j22=>
 prP (bnI .eql (nx v1 0) (.int .i64 8)) fun t39_23=>
 AI t39_23 (
 j22 [(nx v1 0),t39_23,(nx v1 1),(nx v1 2),(.int .i64 0),(.int .i64 0),(.int .i64 0),(.int .i64 0),(.string {data:= #[]}),(nx v1 0),(.int .i64 0),(.int .i64 0),(.int .i64 0),(.string {data:= #[]})] []) (
 prP (bnI .eql (nx v1 0) (.int .i64 9)) fun t40_24=>
 j22 [(nx v1 0),t40_24,(nx v1 1),(nx v1 2),(.int .i64 0),(.int .i64 0),(.int .i64 0),(.int .i64 0),(.string {data:= #[]}),(nx v1 0),(.int .i64 0),(.int .i64 0),(.int .i64 0),(.string {data:= #[]})] [])))
theorem GU.cl2 {w0:World} {a0 a1:Value} {c0 c1 c2 c3 c4:List T} {K:J2} (h:GU.txt ⟨Try.prog,w0⟩ a0 a1 c0 c1 c2 c3 c4 K):Eng.cl2 ⟨Try.prog,w0⟩ 173 GU.sg [a0,a1] [c0,c1,c2,c3,c4] K:=
 AD (C:=⟨Try.prog,w0⟩) (f:=173) (fn:=Try.f173) [(212,B2.sg),(213,EO.sg),(214,GV.sg),(111,AZ.sg),(174,D6.sg)] [] [(943,⟨[.p (.j 0) 0, .p (.j 1) 0, .p (.j 2) 0, .p (.j 3) 0, .v, .v],[.p (.j 0) 0, .t (.f 0) 1, .t (.f 1) 8, .t (.f 2) 2, .t (.f 3) 1, .t (.f 4) 1],[.bx [.t (.f 0) 1, .v, .v], .bx [.t (.f 1) 8, .t (.f 2) 2, .t (.f 3) 1, .t (.f 4) 1], .bx [.v, .v, .v, .v, .v], .bx [.v, .v, .v, .v, .v]]⟩),(7,⟨[.p (.j 0) 0, .p (.j 1) 0, .p (.j 2) 0],[.p (.j 0) 0, .t (.f 0) 1, .t (.f 1) 8, .t (.f 2) 2, .t (.f 3) 1, .t (.f 4) 1],[.bx [.t (.f 0) 1, .v, .v], .bx [.v, .v, .v, .v, .v], .bx [.v, .v, .v, .v, .v]]⟩),(15,⟨[.p (.j 0) 0, .p (.j 1) 0],[.p (.j 2) 0, .t (.f 0) 1, .t (.f 1) 8, .t (.f 2) 2, .t (.f 3) 1, .t (.f 4) 1],[.bx [.v, .v, .v, .v, .v], .bx [.v, .v, .v, .v, .v], .bx [.t (.f 0) 1, .v, .v]]⟩)] Try.func173 (by kernel_rfl) (by kernel_rfl) (by kernel_rfl) h
def HC.sg:Sg:=⟨[(2,[.t 1 0, .v, .v]),(0,[.v])],[(0,[.t 5])],[[.a 0, .v, .v]]⟩
def HC.txt (C:Ctx) (a0 a1 a2:Value) (c0:List T) (K:J2):Prop:=
 cl2 C 128 DZ.sg [] [] fun v1 d2=>
 prP (bnI .add a2 (.int .i64 1)) fun t15_3=>
 cl2 C 111 AZ.sg [a0,a1,t15_3] [c0] fun v4 d5=>
 BG (fun r8 x6 k7=>
 prP (bnI .gtr (nx x6 0) (.int .i64 0)) fun t18_10=>
 AI t18_10 (
 cl2 C 173 GU.sg [(nx x6 1),(nx x6 2)] [c0,(nxc k7 1),(nxc k7 2),(nxc k7 3),(nxc k7 4)] fun v11 d12=>
 cl2 C 62 EB.sg [(nx v11 0),(nx v11 1),(nx v11 2),(nx v11 3),(nx v11 4)] [(nxc k7 1),(nxc k7 2),(nxc k7 3),(nxc k7 4)] fun v13 d14=>
 apW [T.c (nx v11 0),T.c (nx v11 1),T.c (nx v11 2),T.c (nx v11 3),T.c (nx v11 4)] true (cnt 5 (nxc k7 0)) (cnt 5 [T.c (nx v11 0),T.c (nx v11 1),T.c (nx v11 2),T.c (nx v11 3),T.c (nx v11 4)]) 48 (
 prP (bnI .sub (nx x6 0) (.int .i64 1)) fun t20_15=>
 r8 [t20_15,(nx v11 5),(nx v11 6)] [((nxc k7 0)++[T.c (nx v11 0),T.c (nx v11 1),T.c (nx v11 2),T.c (nx v11 3),T.c (nx v11 4)]),(nxc d14 0),(nxc d14 1),(nxc d14 2),(nxc d14 3)])) (
 K [(nx x6 1),(nx x6 2)] [(nxc k7 0)])) [(nx v4 0),(nx v4 1),(nx v4 2)] [[],(nxc d2 0),(nxc d2 1),(nxc d2 2),(nxc d2 3)]
theorem HC.cl2 {w0:World} {a0 a1 a2:Value} {c0:List T} {K:J2} (h:HC.txt ⟨Try.prog,w0⟩ a0 a1 a2 c0 K):Eng.cl2 ⟨Try.prog,w0⟩ 211 HC.sg [a0,a1,a2] [c0] K:=
 AD (C:=⟨Try.prog,w0⟩) (f:=211) (fn:=Try.f211) [(128,DZ.sg),(111,AZ.sg),(173,GU.sg),(62,EB.sg)] [] [(122,⟨[.p (.j 0) 0, .p (.j 1) 0, .t (.j 2) 5, .v],[.p (.j 0) 0, .t (.f 0) 1],[.bx [.t (.f 0) 1, .v, .v], .bx [.t (.j 3) 8, .t (.j 4) 2, .t (.j 5) 1, .t (.j 6) 1], .ls, .ls, .ls, .ls, .ls]⟩)] Try.func211 (by kernel_rfl) (by kernel_rfl) (by kernel_rfl) h
def G5.sg:Sg:=⟨[(2,[.t 1 0, .v, .v])],[(1,[.t 8, .t 2, .t 1, .t 1])],[[.a 0, .v, .v]]⟩
def G5.txt (C:Ctx) (a0 a1:Value) (c0:List T) (K:J2):Prop:=
 cl2 C 211 HC.sg [a0,a1,(.int .i64 30)] [c0] fun v1 d2=>
 cl2 C 58 H5.sg [] [(nxc d2 0)] fun v3 d4=>
 K [(nx v1 0),(nx v1 1)] [(nxc d4 0),(nxc d4 1),(nxc d4 2),(nxc d4 3)]
theorem G5.cl2 {w0:World} {a0 a1:Value} {c0:List T} {K:J2} (h:G5.txt ⟨Try.prog,w0⟩ a0 a1 c0 K):Eng.cl2 ⟨Try.prog,w0⟩ 172 G5.sg [a0,a1] [c0] K:=
 AD (C:=⟨Try.prog,w0⟩) (f:=172) (fn:=Try.f172) [(211,HC.sg),(58,H5.sg)] [] [] Try.func172 (by kernel_rfl) (by kernel_rfl) (by kernel_rfl) h
def DU.sg:Sg:=⟨[(2,[.t 1 0, .v, .v])],[(1,[.v, .v, .v, .v, .v]),(1,[.v, .v, .t 1])],[[.a 0, .v, .v]]⟩
def DU.txt (C:Ctx) (a0 a1:Value) (c0:List T) (K:J2):Prop:=
 cl2 C 172 G5.sg [a0,a1] [c0] fun v1 d2=>
 cl2 C 173 GU.sg [(nx v1 0),(nx v1 1)] [c0,(nxc d2 0),(nxc d2 1),(nxc d2 2),(nxc d2 3)] fun v3 d4=>
 cl2 C 62 EB.sg [(nx v3 0),(nx v3 1),(nx v3 2),(nx v3 3),(nx v3 4)] [(nxc d2 0),(nxc d2 1),(nxc d2 2),(nxc d2 3)] fun v5 d6=>
 K [(nx v3 0),(nx v3 1),(nx v3 2),(nx v3 3),(nx v3 4),(nx v5 0),(nx v5 1),(nx v3 5),(nx v3 6)] [(nxc d6 4)]
theorem DU.cl2 {w0:World} {a0 a1:Value} {c0:List T} {K:J2} (h:DU.txt ⟨Try.prog,w0⟩ a0 a1 c0 K):Eng.cl2 ⟨Try.prog,w0⟩ 109 DU.sg [a0,a1] [c0] K:=
 AD (C:=⟨Try.prog,w0⟩) (f:=109) (fn:=Try.f109) [(172,G5.sg),(173,GU.sg),(62,EB.sg)] [(4,[0,0,1,7])] [] Try.func109 (by kernel_rfl) (by kernel_rfl) (by kernel_rfl) h
def ER.sg:Sg:=⟨[(2,[.t 1 0, .v, .v])],[(1,[.v, .t 1])],[[.a 0, .v, .v]]⟩
def ER.txt (C:Ctx) (a0 a1:Value) (c0:List T) (K:J2):Prop:=
 cl2 C 111 AZ.sg [a0,a1,(.int .i64 40)] [c0] fun v1 d2=>
 BG (fun r5 x3 k4=>
 prP (bnI .lss (nx x3 0) (iv (cnt 1 (nxc k4 0)))) fun t13_18=>
 AI t13_18 (
 BZ (fun x20 k21=>
 prP (bnI .add (nx x20 0) (.int .i64 1)) fun t15_27=>
 r5 [t15_27,(nx x20 1),(nx x20 2),(nx x20 3),(nx x20 4)] [(nxc k21 0),(nxc k21 1)]) fun j22=>
 cl2 C 174 D6.sg [(nx x3 1),(nx x3 2),(.int .i64 2)] [c0] fun v23 d24=>
 AI (nx v23 0) (
 ixW (cnt 1 (nxc k4 0)) (nx x3 0) fun t22_25=>
 ldc (nxc k4 0) [] ((AA t22_25)*1) fun t23_26=>
 apW [T.c t23_26] true (cnt 1 (nxc k4 1)) (cnt 1 [T.c t23_26]) 16 (
 j22 [(nx x3 0),(nx v23 1),(nx v23 2),(nx x3 3),(nx x3 4)] [(nxc k4 0),((nxc k4 1)++[T.c t23_26])])) (
 j22 [(nx x3 0),(nx v23 1),(nx v23 2),(nx x3 3),(nx x3 4)] [(nxc k4 0),(nxc k4 1)])) (
 K [(nx x3 4),(nx x3 1),(nx x3 2)] [(nxc k4 1)])) [(.int .i64 0),(nx v1 1),(nx v1 2),(.int .i64 0),(nx v1 0)] [[T.c (.string {data:= #[]}),T.c (.string {data:= #[97]}),T.c (.string {data:= #[98]}),T.c (.string {data:= #[108,105,115,116]})],[]]
theorem ER.cl2 {w0:World} {a0 a1:Value} {c0:List T} {K:J2} (h:ER.txt ⟨Try.prog,w0⟩ a0 a1 c0 K):Eng.cl2 ⟨Try.prog,w0⟩ 110 ER.sg [a0,a1] [c0] K:=
 AD (C:=⟨Try.prog,w0⟩) (f:=110) (fn:=Try.f110) [(111,AZ.sg),(174,D6.sg)] [(7,[0,1,0,0,12,28,60,127,255,511])] [(489,⟨[.p (.j 0) 0, .p (.j 1) 0, .p (.j 2) 0, .t (.j 3) 1, .v],[.p (.j 0) 0, .t (.f 0) 1],[.bx [.t (.f 0) 1, .v, .v], .bx [.v, .z], .bx [.v, .t (.j 4) 1], .ls, .ls]⟩),(122,⟨[.p (.j 0) 0, .p (.j 1) 0, .p (.j 2) 0, .t (.j 3) 1, .v],[.p (.j 0) 0, .t (.f 0) 1],[.bx [.t (.f 0) 1, .v, .v], .bx [.v, .z], .bx [.v, .t (.j 4) 1], .ls, .ls]⟩)] Try.func110 (by kernel_rfl) (by kernel_rfl) (by kernel_rfl) h
def CW.sg:Sg:=⟨[(0,[.t 1 0])],[(1,[.v, .t 1]),(1,[.v, .v, .v, .v, .v]),(1,[.v, .v, .t 1])],[]⟩
def CW.txt (C:Ctx) (c0:List T) (K:J2):Prop:=
 cl2 C 108 FZ.sg [] [c0] fun v1 d2=>
 cl2 C 109 DU.sg [(nx v1 0),(nx v1 1)] [c0] fun v3 d4=>
 cl2 C 110 ER.sg [(nx v3 7),(nx v3 8)] [c0] fun v5 d6=>
 BZ (fun x8 k9=>
 K [(nx x8 15),(nx x8 8),(nx x8 9),(nx x8 10),(nx x8 11),(nx x8 12),(nx x8 13),(nx x8 14)] [(nxc k9 1),(nxc k9 0)]) fun j10=>
 cl2 C 111 AZ.sg [(nx v5 1),(nx v5 2),(.int .i64 16)] [c0] fun v11 d12=>
 prP (bnI .eql (nx v11 0) (.int .i64 0)) fun t21_13=>
 AI t21_13 (
 j10 [(.int .i64 0),(.int .i64 0),(.int .i64 0),(.int .i64 0),(.int .i64 0),(.string {data:= #[]}),(.int .i64 0),(.int .i64 0),(nx v3 0),(.int .i64 1000000001),(nx v3 2),(nx v3 3),(nx v3 4),(nx v3 5),(nx v3 6),(nx v5 0)] [(nxc d4 0),(nxc d6 0)]) (
 prP (bnI .eql (nx v11 0) (.int .i64 1)) fun t24_14=>
 AI t24_14 (
 j10 [(.int .i64 0),(.int .i64 0),(.int .i64 0),(.int .i64 0),(.int .i64 0),(.string {data:= #[]}),(.int .i64 0),(.int .i64 0),(nx v3 0),(nx v3 1),(nx v3 2),(nx v3 3),(nx v3 4),(.int .i64 7),(nx v3 6),(nx v5 0)] [(nxc d4 0),(nxc d6 0)]) (
 prP (bnI .eql (nx v11 0) (.int .i64 2)) fun t27_15=>
 AI t27_15 (
 apW [T.c (.string {data:= #[120]}),T.c (.string {data:= #[120]})] true (cnt 1 (nxc d6 0)) (cnt 1 [T.c (.string {data:= #[120]}),T.c (.string {data:= #[120]})]) 16 (
 j10 [(.int .i64 0),(.int .i64 0),(.int .i64 0),(.int .i64 0),(.int .i64 0),(.string {data:= #[]}),(.int .i64 0),(.int .i64 0),(nx v3 0),(nx v3 1),(nx v3 2),(nx v3 3),(nx v3 4),(nx v3 5),(nx v3 6),(nx v5 0)] [(nxc d4 0),((nxc d6 0)++[T.c (.string {data:= #[120]}),T.c (.string {data:= #[120]})])])) (
 prP (bnI .eql (nx v11 0) (.int .i64 3)) fun t34_16=>
 AI t34_16 (
 cl2 C 111 AZ.sg [(nx v11 1),(nx v11 2),(.int .i64 2)] [c0] fun v17 d18=>
 prP (bnI .add (.int .i64 8) (nx v17 0)) fun t37_19=>
 mkW 8 t37_19 t37_19 fun n20=>
 j10 [(.int .i64 0),(.int .i64 0),(.int .i64 0),(.int .i64 0),(.int .i64 0),(.string {data:= #[]}),(.int .i64 0),(.int .i64 0),(nx v3 0),(nx v3 1),(nx v3 2),(nx v3 3),(nx v3 4),(nx v3 5),(nx v3 6),(nx v5 0)] [(QJ (AA n20) [T.c (.int .i64 0)]),(nxc d6 0)]) (
 j10 [(.int .i64 0),(.int .i64 0),(.int .i64 0),(.int .i64 0),(.int .i64 0),(.string {data:= #[]}),(.int .i64 0),(.int .i64 0),(nx v3 0),(nx v3 1),(nx v3 2),(nx v3 3),(nx v3 4),(nx v3 5),(nx v3 6),(nx v5 0)] [(nxc d4 0),(nxc d6 0)]))))
theorem CW.cl2 {w0:World} {c0:List T} {K:J2} (h:CW.txt ⟨Try.prog,w0⟩ c0 K):Eng.cl2 ⟨Try.prog,w0⟩ 50 CW.sg [] [c0] K:=
 AD (C:=⟨Try.prog,w0⟩) (f:=50) (fn:=Try.f50) [(108,FZ.sg),(109,DU.sg),(110,ER.sg),(111,AZ.sg)] [(13,[0,0,0,1,11,31])] [(31,⟨[.p (.j 0) 0, .p (.j 1) 0, .p (.j 2) 0, .p (.j 3) 0, .p (.j 4) 0, .p (.j 5) 0],[],[.bx [.v, .z], .bx [.v, .v, .v, .v, .v], .bx [.v, .v, .z], .bx [.v, .v, .v, .v, .v], .bx [.v, .v, .t (.j 6) 1], .bx [.v, .t (.j 7) 1], .ls, .ls]⟩)] Try.func50 (by kernel_rfl) (by kernel_rfl) (by kernel_rfl) h
def DX.sg:Sg:=⟨[(0,[.t 1 0]),(0,[.t 1 0])],[(0,[.v])],[]⟩
def DX.txt (C:Ctx) (c0 c1:List T) (K:J2):Prop:=
 prP (bnI .neq (iv (cnt 1 c0)) (iv (cnt 1 c1))) fun t10_1=>
 AI t10_1 (
 K [(.bool false)] []) (
 BG (fun r4 x2 k3=>
 prP (bnI .lss (nx x2 1) (nx x2 0)) fun t14_6=>
 AI t14_6 (
 ixW (cnt 1 c0) (nx x2 1) fun t18_7=>
 ldc c0 [] ((AA t18_7)*1) fun t19_8=>
 ixW (cnt 1 c1) (nx x2 1) fun t22_9=>
 ldc c1 [] ((AA t22_9)*1) fun t23_10=>
 prP (bnS .neq t19_8 t23_10) fun t24_11=>
 AI t24_11 (
 K [(.bool false)] []) (
 prP (bnI .add (nx x2 1) (.int .i64 1)) fun t25_12=>
 r4 [(nx x2 0),t25_12] [])) (
 K [(.bool true)] [])) [(iv (cnt 1 c0)),(.int .i64 0)] [])
theorem DX.cl2 {w0:World} {c0 c1:List T} {K:J2} (h:DX.txt ⟨Try.prog,w0⟩ c0 c1 K):Eng.cl2 ⟨Try.prog,w0⟩ 124 DX.sg [] [c0,c1] K:=
 AD (C:=⟨Try.prog,w0⟩) (f:=124) (fn:=Try.f124) [] [(6,[0,0,3,7,0,0,48,112,255])] [(58,⟨[.t (.f 0) 1, .t (.f 1) 1, .v, .v],[],[]⟩)] Try.func124 (by kernel_rfl) (by kernel_rfl) (by kernel_rfl) h
def FM.sg:Sg:=⟨[(1,[.v, .t 1 0]),(1,[.v, .t 1 0])],[(0,[.v])],[]⟩
def FM.txt (C:Ctx) (a0 a1:Value) (c0 c1:List T) (K:J2):Prop:=
 prP (bnI .eql a0 a1) fun t9_1=>
 gE t9_1 (
 gE t9_1 (
 gE t9_1 (
 gE t9_1 (
 gP t9_1 true ((fun K=>cl2 C 124 DX.sg [] [c0,c1] fun v2 d3=>K (nx v2 0))) fun t15_4=>
 prP (pk t9_1 t15_4 (.bool false)) fun t16_5=>
 K [t16_5] []))))
theorem FM.cl2 {w0:World} {a0 a1:Value} {c0 c1:List T} {K:J2} (h:FM.txt ⟨Try.prog,w0⟩ a0 a1 c0 c1 K):Eng.cl2 ⟨Try.prog,w0⟩ 53 FM.sg [a0,a1] [c0,c1] K:=
 AD (C:=⟨Try.prog,w0⟩) (f:=53) (fn:=Try.f53) [(124,DX.sg)] [] [] Try.func53 (by kernel_rfl) (by kernel_rfl) (by kernel_rfl) h
def GK.sg:Sg:=⟨[(0,[.t 1 0]),(0,[.t 1 0])],[(0,[.v])],[]⟩
def GK.txt (C:Ctx) (c0 c1:List T) (K:J2):Prop:=
 prP (bnI .neq (iv (cnt 1 c0)) (iv (cnt 1 c1))) fun t10_1=>
 AI t10_1 (
 K [(.bool false)] []) (
 BG (fun r4 x2 k3=>
 prP (bnI .lss (nx x2 0) (iv (cnt 1 c0))) fun t14_6=>
 AI t14_6 (
 ixW (cnt 1 c0) (nx x2 0) fun t19_7=>
 ldc c0 [] ((AA t19_7)*1) fun t20_8=>
 ixW (cnt 1 c1) (nx x2 0) fun t23_9=>
 ldc c1 [] ((AA t23_9)*1) fun t24_10=>
 prP (bnI .neq t20_8 t24_10) fun t25_11=>
 AI t25_11 (
 K [(.bool false)] []) (
 prP (bnI .add (nx x2 0) (.int .i64 1)) fun t16_12=>
 r4 [t16_12] [])) (
 K [(.bool true)] [])) [(.int .i64 0)] [])
theorem GK.cl2 {w0:World} {c0 c1:List T} {K:J2} (h:GK.txt ⟨Try.prog,w0⟩ c0 c1 K):Eng.cl2 ⟨Try.prog,w0⟩ 125 GK.sg [] [c0,c1] K:=
 AD (C:=⟨Try.prog,w0⟩) (f:=125) (fn:=Try.f125) [] [(6,[0,0,3,7,0,0,48,112,255])] [(58,⟨[.t (.f 0) 1, .t (.f 1) 1, .v],[],[]⟩)] Try.func125 (by kernel_rfl) (by kernel_rfl) (by kernel_rfl) h
def DI.sg:Sg:=⟨[(1,[.v, .v, .t 1 0]),(1,[.v, .v, .t 1 0])],[(0,[.v])],[]⟩
def DI.txt (C:Ctx) (a0 a1 a2 a3:Value) (c0 c1:List T) (K:J2):Prop:=
 prP (bnI .eql a0 a2) fun t9_1=>
 gE t9_1 (
 gE t9_1 (
 gE t9_1 (
 gE t9_1 (
 gP t9_1 true (prP (bnI .eql a1 a3)) fun t15_2=>
 prP (pk t9_1 t15_2 (.bool false)) fun t16_3=>
 gE t16_3 (
 gE t16_3 (
 gE t16_3 (
 gE t16_3 (
 gP t16_3 true ((fun K=>cl2 C 125 GK.sg [] [c0,c1] fun v4 d5=>K (nx v4 0))) fun t22_6=>
 prP (pk t16_3 t22_6 (.bool false)) fun t23_7=>
 K [t23_7] []))))))))
theorem DI.cl2 {w0:World} {a0 a1 a2 a3:Value} {c0 c1:List T} {K:J2} (h:DI.txt ⟨Try.prog,w0⟩ a0 a1 a2 a3 c0 c1 K):Eng.cl2 ⟨Try.prog,w0⟩ 54 DI.sg [a0,a1,a2,a3] [c0,c1] K:=
 AD (C:=⟨Try.prog,w0⟩) (f:=54) (fn:=Try.f54) [(125,GK.sg)] [] [] Try.func54 (by kernel_rfl) (by kernel_rfl) (by kernel_rfl) h
def FK.sg:Sg:=⟨[(1,[.v, .t 1 0]),(1,[.v, .t 1 0])],[(0,[.v])],[]⟩
def FK.txt (C:Ctx) (a0 a1:Value) (c0 c1:List T) (K:J2):Prop:=
 prP (bnI .neq a0 a1) fun t10_1=>
 gE t10_1 (
 gE t10_1 (
 gE t10_1 (
 gE t10_1 (
 gE t10_1 (
 gE t10_1 (
 gP t10_1 false (prP (bnI .neq (iv (cnt 1 c0)) (iv (cnt 1 c1)))) fun t18_2=>
 prP (pk t10_1 (.bool true) t18_2) fun t19_3=>
 AI t19_3 (
 K [(.bool false)] []) (
 BG (fun r6 x4 k5=>
 prP (bnI .lss (nx x4 0) (iv (cnt 1 c0))) fun t24_8=>
 AI t24_8 (
 ixW (cnt 1 c0) (nx x4 0) fun t30_9=>
 ldc c0 [] ((AA t30_9)*1) fun t31_10=>
 ixW (cnt 1 c1) (nx x4 0) fun t35_11=>
 ldc c1 [] ((AA t35_11)*1) fun t36_12=>
 prP (bnS .neq t31_10 t36_12) fun t37_13=>
 AI t37_13 (
 K [(.bool false)] []) (
 prP (bnI .add (nx x4 0) (.int .i64 1)) fun t26_14=>
 r6 [t26_14,(nx x4 1),(nx x4 2)] [])) (
 K [(.bool true)] [])) [(.int .i64 0),a0,a1] [])))))))
theorem FK.cl2 {w0:World} {a0 a1:Value} {c0 c1:List T} {K:J2} (h:FK.txt ⟨Try.prog,w0⟩ a0 a1 c0 c1 K):Eng.cl2 ⟨Try.prog,w0⟩ 55 FK.sg [a0,a1] [c0,c1] K:=
 AD (C:=⟨Try.prog,w0⟩) (f:=55) (fn:=Try.f55) [] [(6,[0,1,0,7,15,0,32,0,224,480,1023])] [(58,⟨[.p (.j 0) 0, .p (.j 1) 0, .v],[],[.bx [.v, .t (.f 0) 1], .bx [.v, .t (.f 1) 1]]⟩)] Try.func55 (by kernel_rfl) (by kernel_rfl) (by kernel_rfl) h
def GB.sg:Sg:=⟨[(2,[.t 1 0, .v, .v]),(0,[.v])],[(0,[.v])],[[.a 0, .v, .v]]⟩
def GB.txt (C:Ctx) (a0 a1 a2:Value) (c0:List T) (K:J2):Prop:=
 cl2 C 111 AZ.sg [a0,a1,(.int .i64 4)] [c0] fun v1 d2=>
 prP (bnI .add a2 (.int .i64 1)) fun t14_3=>
 cl2 C 111 AZ.sg [(nx v1 1),(nx v1 2),t14_3] [c0] fun v4 d5=>
 BG (fun r8 x6 k7=>
 prP (bnI .gtr (nx x6 1) (.int .i64 0)) fun t17_10=>
 AI t17_10 (
 cl2 C 175 CH.sg [(nx x6 2),(nx x6 3)] [c0] fun v11 d12=>
 BZ (fun x14 k15=>
 BZ (fun x20 k21=>
 prP (cvI .u8 (nx x20 2)) fun t33_26=>
 apW [T.c t33_26] true (cnt 1 (nxc k21 0)) (cnt 1 [T.c t33_26]) 1 (
 prP (bnI .sub (nx x20 1) (.int .i64 1)) fun t19_27=>
 r8 [(nx x20 0),t19_27,(nx x20 3),(nx x20 4)] [((nxc k21 0)++[T.c t33_26])])) fun j22=>
 prP (bnI .eql (nx x14 0) (.int .i64 2)) fun t27_23=>
 AI t27_23 (
 prP (bnI .rem (nx x14 2) (.int .i64 4)) fun t29_24=>
 prP (bnI .add (.int .i64 97) t29_24) fun t30_25=>
 j22 [(nx x14 0),(nx x14 1),t30_25,(nx x14 3),(nx x14 4)] [(nxc k15 0)]) (
 j22 [(nx x14 0),(nx x14 1),(nx x14 2),(nx x14 3),(nx x14 4)] [(nxc k15 0)])) fun j16=>
 prP (bnI .eql (nx x6 0) (.int .i64 1)) fun t23_17=>
 AI t23_17 (
 prP (bnI .rem (nx v11 0) (.int .i64 2)) fun t25_18=>
 j16 [(nx x6 0),(nx x6 1),t25_18,(nx v11 1),(nx v11 2)] [(nxc k7 0)]) (
 j16 [(nx x6 0),(nx x6 1),(nx v11 0),(nx v11 1),(nx v11 2)] [(nxc k7 0)])) (
 prP (b2T (nxc k7 0)) fun t37_28=>
 K [t37_28,(nx x6 2),(nx x6 3)] [])) [(nx v1 0),(nx v4 0),(nx v4 1),(nx v4 2)] [[]]
theorem GB.cl2 {w0:World} {a0 a1 a2:Value} {c0:List T} {K:J2} (h:GB.txt ⟨Try.prog,w0⟩ a0 a1 a2 c0 K):Eng.cl2 ⟨Try.prog,w0⟩ 180 GB.sg [a0,a1,a2] [c0] K:=
 AD (C:=⟨Try.prog,w0⟩) (f:=180) (fn:=Try.f180) [(111,AZ.sg),(175,CH.sg)] [] [(3913,⟨[.p (.j 0) 0, .t (.j 1) 1, .v, .v, .v],[.p (.j 0) 0, .t (.f 0) 1],[.bx [.t (.f 0) 1, .v, .v], .ls]⟩),(7827,⟨[.p (.j 0) 0, .t (.j 1) 1, .v, .v, .v],[.p (.j 0) 0, .t (.f 0) 1],[.bx [.t (.f 0) 1, .v, .v], .ls]⟩),(122,⟨[.p (.j 0) 0, .t (.j 1) 1, .v, .v],[.p (.j 0) 0, .t (.f 0) 1],[.bx [.t (.f 0) 1, .v, .v], .ls]⟩)] Try.func180 (by kernel_rfl) (by kernel_rfl) (by kernel_rfl) h
def FJ.sg:Sg:=⟨[(2,[.t 1 0, .v, .v]),(0,[.v])],[(0,[.v])],[[.a 0, .v, .v]]⟩
def FJ.txt (C:Ctx) (a0 a1 a2:Value) (c0:List T) (K:J2):Prop:=
 prP (lnS a2) fun t7_1=>
 prP (bnI .eql t7_1 (.int .i64 0)) fun t8_2=>
 AI t8_2 (
 cl2 C 180 GB.sg [a0,a1,(.int .i64 3)] [c0] fun v3 d4=>
 K [(nx v3 0),(nx v3 1),(nx v3 2)] []) (
 prP (lnS a2) fun t13_5=>
 cl2 C 111 AZ.sg [a0,a1,t13_5] [c0] fun v6 d7=>
 cl2 C 111 AZ.sg [(nx v6 1),(nx v6 2),(.int .i64 4)] [c0] fun v8 d9=>
 prP (bnI .eql (nx v8 0) (.int .i64 0)) fun t18_10=>
 AI t18_10 (
 prP (scS a2 none (some (nx v6 0))) fun t21_11=>
 prP (bnI .add (nx v6 0) (.int .i64 1)) fun t24_12=>
 prP (scS a2 (some t24_12) none) fun t25_13=>
 prP (bnS .add t21_11 t25_13) fun t26_14=>
 K [t26_14,(nx v8 1),(nx v8 2)] []) (
 prP (bnI .eql (nx v8 0) (.int .i64 1)) fun t28_15=>
 AI t28_15 (
 prP (scS a2 none (some (nx v6 0))) fun t31_16=>
 cl2 C 175 CH.sg [(nx v8 1),(nx v8 2)] [c0] fun v17 d18=>
 prP (cvI .u8 (nx v17 0)) fun t34_19=>
 prP (b2T [T.c t34_19]) fun t36_20=>
 prP (bnS .add t31_16 t36_20) fun t37_21=>
 prP (scS a2 (some (nx v6 0)) none) fun t40_22=>
 prP (bnS .add t37_21 t40_22) fun t41_23=>
 K [t41_23,(nx v17 1),(nx v17 2)] []) (
 prP (bnI .eql (nx v8 0) (.int .i64 2)) fun t43_24=>
 AI t43_24 (
 prP (scS a2 none (some (nx v6 0))) fun t46_25=>
 K [t46_25,(nx v8 1),(nx v8 2)] []) (
 prP (scS a2 none (some (nx v6 0))) fun t49_26=>
 prP (ix a2 (nx v6 0)) fun t52_27=>
 prP (cvI .i64 t52_27) fun t53_28=>
 cl2 C 111 AZ.sg [(nx v8 1),(nx v8 2),(.int .i64 255)] [c0] fun v29 d30=>
 prP (bnI .add (.int .i64 1) (nx v29 0)) fun t56_31=>
 prP (bnI .xor t53_28 t56_31) fun t57_32=>
 prP (cvI .u8 t57_32) fun t58_33=>
 prP (b2T [T.c t58_33]) fun t60_34=>
 prP (bnS .add t49_26 t60_34) fun t61_35=>
 prP (bnI .add (nx v6 0) (.int .i64 1)) fun t64_36=>
 prP (scS a2 (some t64_36) none) fun t65_37=>
 prP (bnS .add t61_35 t65_37) fun t66_38=>
 K [t66_38,(nx v29 1),(nx v29 2)] []))))
theorem FJ.cl2 {w0:World} {a0 a1 a2:Value} {c0:List T} {K:J2} (h:FJ.txt ⟨Try.prog,w0⟩ a0 a1 a2 c0 K):Eng.cl2 ⟨Try.prog,w0⟩ 127 FJ.sg [a0,a1,a2] [c0] K:=
 AD (C:=⟨Try.prog,w0⟩) (f:=127) (fn:=Try.f127) [(180,GB.sg),(111,AZ.sg),(175,CH.sg)] [(6,[0,0,3,0,0,16,56,127,255]),(8,[0,0,3,0,8,24,56,120,255,0,0,1536,4095,8191]),(11,[0,0,3,0,0,24,56,0,128,384,1016,2040,4088,8184,16383,0,0,65536,229376,524287,1048575])] [] Try.func127 (by kernel_rfl) (by kernel_rfl) (by kernel_rfl) h
def C0.sg:Sg:=⟨[(0,[.t 1 0])],[(1,[.v, .t 1]),(0,[.v])],[]⟩
def C0.txt (C:Ctx) (c0:List T) (K:J2):Prop:=
 cl2 C 108 FZ.sg [] [c0] fun v1 d2=>
 cl2 C 109 DU.sg [(nx v1 0),(nx v1 1)] [c0] fun v3 d4=>
 cl2 C 110 ER.sg [(nx v3 7),(nx v3 8)] [c0] fun v5 d6=>
 cl2 C 52 CN.sg [(nx v5 0),(nx v3 0),(nx v3 1),(nx v3 2),(nx v3 3),(nx v3 4),(nx v3 5),(nx v3 6)] [(nxc d6 0),(nxc d4 0)] fun v7 d8=>
 cl2 C 111 AZ.sg [(nx v5 1),(nx v5 2),(.int .i64 5)] [c0] fun v9 d10=>
 prP (bnI .eql (nx v9 0) (.int .i64 0)) fun t29_11=>
 AI t29_11 (
 cl2 C 127 FJ.sg [(nx v9 1),(nx v9 2),(nx v7 0)] [c0] fun v12 d13=>
 K [(nx v5 0),(nx v12 0)] [(nxc d6 0)]) (
 prP (bnI .eql (nx v9 0) (.int .i64 1)) fun t35_14=>
 AI t35_14 (
 prP (lnS (nx v7 0)) fun t40_15=>
 prP (bnI .add t40_15 (.int .i64 1)) fun t41_16=>
 cl2 C 111 AZ.sg [(nx v9 1),(nx v9 2),t41_16] [c0] fun v17 d18=>
 prP (scS (nx v7 0) none (some (nx v17 0))) fun t43_19=>
 K [(nx v5 0),t43_19] [(nxc d6 0)]) (
 K [(nx v5 0),(nx v7 0)] [(nxc d6 0)]))
theorem C0.cl2 {w0:World} {c0:List T} {K:J2} (h:C0.txt ⟨Try.prog,w0⟩ c0 K):Eng.cl2 ⟨Try.prog,w0⟩ 57 C0.sg [] [c0] K:=
 AD (C:=⟨Try.prog,w0⟩) (f:=57) (fn:=Try.f57) [(108,FZ.sg),(109,DU.sg),(110,ER.sg),(52,CN.sg),(111,AZ.sg),(127,FJ.sg)] [(7,[0,0,0,6,15,31]),(9,[0,0,0,0,8,24,60,126,125,511])] [] Try.func57 (by kernel_rfl) (by kernel_rfl) (by kernel_rfl) h
def FQ.sg:Sg:=⟨[(0,[.t 1 0])],[(0,[.v])],[]⟩
def FQ.txt (C:Ctx) (c0:List T) (K:J2):Prop:=
 cl2 C 49 I6.sg [] [c0] fun v1 d2=>
 AI (nx v1 0) (
 K [(.bool true)] []) (
 cl2 C 50 CW.sg [] [c0] fun v4 d5=>
 cl2 C 51 CM.sg [(nx v4 0),(nx v4 1),(nx v4 2),(nx v4 3),(nx v4 4),(nx v4 5),(nx v4 6),(nx v4 7)] [(nxc d5 0),(nxc d5 1)] fun v6 d7=>
 cl2 C 52 CN.sg [(nx v4 0),(nx v4 1),(nx v4 2),(nx v4 3),(nx v4 4),(nx v4 5),(nx v4 6),(nx v4 7)] [(nxc d5 0),(nxc d5 1)] fun v8 d9=>
 prP (bnS .neq (nx v6 0) (nx v8 0)) fun t46_10=>
 AI t46_10 (
 K [(.bool false)] []) (
 prP (bnS .eql (nx v6 0) (.string {data:= #[]})) fun t48_11=>
 AI t48_11 (
 cl2 C 53 FM.sg [(nx v6 1),(nx v4 0)] [(nxc d7 0),(nxc d5 0)] fun v12 d13=>
 K [(nx v12 0)] []) (
 cl2 C 35 DF.sg [(nx v4 0),(nx v6 0)] [(nxc d5 0)] fun v15 d16=>
 prP (un .not (nx v15 8)) fun t61_17=>
 gE t61_17 (
 gE t61_17 (
 gP t61_17 false (prP (bnA C.P .neq 56 (.agg #[(nx v15 0),(nx v15 1),(nx v15 2),(nx v15 3),(nx v15 4)]) (.agg #[(nx v4 1),(nx v4 2),(nx v4 3),(nx v4 4),(nx v4 5)]))) fun t65_18=>
 prP (pk t61_17 (.bool true) t65_18) fun t66_19=>
 gE t66_19 (
 gE t66_19 (
 gP t66_19 false ((fun K=>cl2 C 54 DI.sg [(nx v15 5),(nx v15 6),(nx v4 6),(nx v4 7)] [(nxc d16 0),(nxc d5 1)] fun v20 d21=>K (nx v20 0))) fun t70_22=>
 gP t66_19 false (prP (un .not t70_22)) fun t71_23=>
 prP (pk t66_19 (.bool true) t71_23) fun t72_24=>
 gE t72_24 (
 gE t72_24 (
 gP t72_24 false ((fun K=>cl2 C 55 FK.sg [(nx v6 1),(nx v15 7)] [(nxc d7 0),(nxc d16 1)] fun v25 d26=>K (nx v25 0))) fun t76_27=>
 gP t72_24 false (prP (un .not t76_27)) fun t77_28=>
 prP (pk t72_24 (.bool true) t77_28) fun t78_29=>
 gE t78_29 (
 gE t78_29 (
 gE t78_29 (
 gE t78_29 (
 gP t78_29 false (prP (bnI .neq (nx v6 1) (nx v4 2))) fun t84_30=>
 prP (pk t78_29 (.bool true) t84_30) fun t85_31=>
 gE t85_31 (
 gP t85_31 false ((fun K=>cl2 C 56 DE.sg [(nx v4 1),(nx v4 2),(nx v4 3),(nx v4 4),(nx v4 5)] [] fun v32 d33=>K (nx v32 0))) fun t88_34=>
 gP t85_31 false (prP (un .not t88_34)) fun t89_35=>
 prP (pk t85_31 (.bool true) t89_35) fun t90_36=>
 AI t90_36 (
 K [(.bool false)] []) (
 cl2 C 57 C0.sg [] [c0] fun v37 d38=>
 cl2 C 35 DF.sg [(nx v37 0),(nx v37 1)] [(nxc d38 0)] fun v39 d40=>
 cl2 C 52 CN.sg [(nx v37 0),(nx v39 0),(nx v39 1),(nx v39 2),(nx v39 3),(nx v39 4),(nx v39 5),(nx v39 6)] [(nxc d38 0),(nxc d40 0)] fun v41 d42=>
 prP (un .not (nx v39 8)) fun t112_43=>
 gE t112_43 (
 gE t112_43 (
 gP t112_43 false (prP (bnS .eql (nx v41 0) (nx v37 1))) fun t116_44=>
 prP (pk t112_43 (.bool true) t116_44) fun t117_45=>
 K [t117_45] [])))))))))))))))))
theorem FQ.cl2 {w0:World} {c0:List T} {K:J2} (h:FQ.txt ⟨Try.prog,w0⟩ c0 K):Eng.cl2 ⟨Try.prog,w0⟩ 8 FQ.sg [] [c0] K:=
 AD (C:=⟨Try.prog,w0⟩) (f:=8) (fn:=Try.f8) [(49,I6.sg),(50,CW.sg),(51,CM.sg),(52,CN.sg),(53,FM.sg),(35,DF.sg),(54,DI.sg),(55,FK.sg),(56,DE.sg),(57,C0.sg)] [] [] Try.func8 (by kernel_rfl) (by kernel_rfl) (by kernel_rfl) h
end Go.Proofs.Ytnhicpkhkaihoaa.P
