/- A part of the proof. -/
import Derived.Test.YtnhicpkhkaihoaaChecked
import Derived.Test.YtnhicpkhkaihoaaEvEngM5
import Derived.KernelRfl
namespace Go.Proofs.Ytnhicpkhkaihoaa.P
open Go Go.Proofs.Ytnhicpkhkaihoaa Go.Proofs.Ytnhicpkhkaihoaa.Eng
set_option linter.unusedVariables false
set_option maxRecDepth 100000
def BE.sg:Sg:=⟨[(0,[.v]),(0,[.v]),(0,[.v])],[(0,[.v])],[]⟩
def BE.txt (C:Ctx) (a0 a1 a2:Value) (K:J2):Prop:=
 prP (bnI .geq a0 a1) fun t9_1=>
 gE t9_1 (
 gE t9_1 (
 gP t9_1 true (prP (bnI .leq a0 a2)) fun t13_2=>
 prP (pk t9_1 t13_2 (.bool false)) fun t14_3=>
 K [t14_3] []))
theorem BE.cl2 {w0:World} {a0 a1 a2:Value} {K:J2} (h:BE.txt ⟨Try.prog,w0⟩ a0 a1 a2 K):Eng.cl2 ⟨Try.prog,w0⟩ 154 BE.sg [a0,a1,a2] [] K:=
 AD (C:=⟨Try.prog,w0⟩) (f:=154) (fn:=Try.f154) [] [] [] Try.func154 (by kernel_rfl) (by kernel_rfl) (by kernel_rfl) h
def DN.sg:Sg:=⟨[(0,[.v]),(0,[.v])],[(0,[.v])],[]⟩
def DN.txt (C:Ctx) (a0 a1:Value) (K:J2):Prop:=
 cl2 C 154 BE.sg [a0,(.int .i64 0),(.int .i64 7)] [] fun v1 d2=>
 prP (un .not (nx v1 0)) fun t7_4=>
 gE t7_4 (
 gP t7_4 false ((fun K=>cl2 C 154 BE.sg [a1,(.int .i64 1),(.int .i64 999)] [] fun v5 d6=>K (nx v5 0))) fun t10_7=>
 gP t7_4 false (prP (un .not t10_7)) fun t11_8=>
 prP (pk t7_4 (.bool true) t11_8) fun t12_9=>
 AI t12_9 (
 K [(.int .i64 (-1))] []) (
 prP (bnI .mul (.int .i64 8) a1) fun t15_10=>
 prP (bnI .add a0 t15_10) fun t16_11=>
 K [t16_11] []))
theorem DN.cl2 {w0:World} {a0 a1:Value} {K:J2} (h:DN.txt ⟨Try.prog,w0⟩ a0 a1 K):Eng.cl2 ⟨Try.prog,w0⟩ 79 DN.sg [a0,a1] [] K:=
 AD (C:=⟨Try.prog,w0⟩) (f:=79) (fn:=Try.f79) [(154,BE.sg)] [] [] Try.func79 (by kernel_rfl) (by kernel_rfl) (by kernel_rfl) h
def G9.sg:Sg:=⟨[(0,[.v]),(0,[.v]),(0,[.v])],[(0,[.v])],[]⟩
def G9.txt (C:Ctx) (a0 a1 a2:Value) (K:J2):Prop:=
 prP (bnI .geq a0 a1) fun t9_1=>
 gE t9_1 (
 gE t9_1 (
 gP t9_1 true (prP (bnI .leq a0 a2)) fun t13_2=>
 prP (pk t9_1 t13_2 (.bool false)) fun t14_3=>
 K [t14_3] []))
theorem G9.cl2 {w0:World} {a0 a1 a2:Value} {K:J2} (h:G9.txt ⟨Try.prog,w0⟩ a0 a1 a2 K):Eng.cl2 ⟨Try.prog,w0⟩ 157 G9.sg [a0,a1,a2] [] K:=
 AD (C:=⟨Try.prog,w0⟩) (f:=157) (fn:=Try.f157) [] [] [] Try.func157 (by kernel_rfl) (by kernel_rfl) (by kernel_rfl) h
def BM.sg:Sg:=⟨[(1,[.t 8 0, .t 2 0, .t 1 0, .t 1 0]),(0,[.v])],[(0,[.v])],[]⟩
def BM.txt (C:Ctx) (a0:Value) (c0 c1 c2 c3:List T) (K:J2):Prop:=
 prP (bnI .lss a0 (.int .i64 8)) fun t7_1=>
 gE t7_1 (
 gE t7_1 (
 gE t7_1 (
 gP t7_1 false (prP (bnI .neq (iv (cnt 8 c0)) (.int .i64 8))) fun t12_2=>
 prP (pk t7_1 (.bool true) t12_2) fun t13_3=>
 AI t13_3 (
 K [(.int .i64 (-1))] []) (
 prP (bnI .rem a0 (.int .i64 8)) fun t15_4=>
 ixW (cnt 8 c0) t15_4 fun t19_5=>
 ldc c0 [] ((AA t19_5)*8) fun t21_6=>
 prP (un .not t21_6) fun t22_7=>
 gE t22_7 (
 gE t22_7 (
 gE t22_7 (
 gP t22_7 false (ixW (cnt 8 c0) t15_4) fun t27_8=>
 gE t22_7 (
 gP t22_7 false (ldc c0 [] (((AA t27_8)*8)+1)) fun t29_9=>
 gE t22_7 (
 gP t22_7 false (prP (bnI .quo a0 (.int .i64 8))) fun t31_10=>
 gP t22_7 false (prP (bnI .neq t29_9 t31_10)) fun t32_11=>
 prP (pk t22_7 (.bool true) t32_11) fun t33_12=>
 AI t33_12 (
 K [(.int .i64 (-1))] []) (
 K [t15_4] []))))))))))
theorem BM.cl2 {w0:World} {a0:Value} {c0 c1 c2 c3:List T} {K:J2} (h:BM.txt ⟨Try.prog,w0⟩ a0 c0 c1 c2 c3 K):Eng.cl2 ⟨Try.prog,w0⟩ 91 BM.sg [a0] [c0,c1,c2,c3] K:=
 AD (C:=⟨Try.prog,w0⟩) (f:=91) (fn:=Try.f91) [] [] [] Try.func91 (by kernel_rfl) (by kernel_rfl) (by kernel_rfl) h
def EN.sg:Sg:=⟨[(1,[.v, .v, .v, .v, .v])],[(0,[.v])],[]⟩
def EN.txt (C:Ctx) (a0 a1 a2 a3 a4:Value) (K:J2):Prop:=
 cl2 C 154 BE.sg [a0,(.int .i64 (-1000000000)),(.int .i64 1000000000)] [] fun v1 d2=>
 gE (nx v1 0) (
 gE (nx v1 0) (
 gP (nx v1 0) true ((fun K=>cl2 C 154 BE.sg [a1,(.int .i64 (-1000000000)),(.int .i64 1000000000)] [] fun v4 d5=>K (nx v4 0))) fun t9_6=>
 prP (pk (nx v1 0) t9_6 (.bool false)) fun t10_7=>
 gE t10_7 (
 gE t10_7 (
 gP t10_7 true ((fun K=>cl2 C 154 BE.sg [a2,(.int .i64 (-1000000000)),(.int .i64 1000000000)] [] fun v8 d9=>K (nx v8 0))) fun t14_10=>
 prP (pk t10_7 t14_10 (.bool false)) fun t15_11=>
 gE t15_11 (
 gE t15_11 (
 gP t15_11 true ((fun K=>cl2 C 154 BE.sg [a3,(.int .i64 (-1000000000)),(.int .i64 1000000000)] [] fun v12 d13=>K (nx v12 0))) fun t19_14=>
 prP (pk t15_11 t19_14 (.bool false)) fun t20_15=>
 gE t20_15 (
 gE t20_15 (
 gP t20_15 true (prP (lnS a4)) fun t24_16=>
 gP t20_15 true (prP (bnI .leq t24_16 (.int .i64 8))) fun t25_17=>
 prP (pk t20_15 t25_17 (.bool false)) fun t26_18=>
 K [t26_18] []))))))))
theorem EN.cl2 {w0:World} {a0 a1 a2 a3 a4:Value} {K:J2} (h:EN.txt ⟨Try.prog,w0⟩ a0 a1 a2 a3 a4 K):Eng.cl2 ⟨Try.prog,w0⟩ 118 EN.sg [a0,a1,a2,a3,a4] [] K:=
 AD (C:=⟨Try.prog,w0⟩) (f:=118) (fn:=Try.f118) [(154,BE.sg)] [] [] Try.func118 (by kernel_rfl) (by kernel_rfl) (by kernel_rfl) h
def C6.sg:Sg:=⟨[(1,[.v, .v, .t 1 0])],[(0,[.v])],[]⟩
def C6.txt (C:Ctx) (a0 a1:Value) (c0:List T) (K:J2):Prop:=
 cl2 C 154 BE.sg [a0,(.int .i64 0),(.int .i64 6)] [] fun v1 d2=>
 prP (un .not (nx v1 0)) fun t7_4=>
 gE t7_4 (
 gE t7_4 (
 gP t7_4 false ((fun K=>cl2 C 154 BE.sg [a1,(.int .i64 (-1000000000)),(.int .i64 1000000000)] [] fun v5 d6=>K (nx v5 0))) fun t11_7=>
 gP t7_4 false (prP (un .not t11_7)) fun t12_8=>
 prP (pk t7_4 (.bool true) t12_8) fun t13_9=>
 gE t13_9 (
 gE t13_9 (
 gE t13_9 (
 gP t13_9 false (prP (bnI .gtr (iv (cnt 1 c0)) (.int .i64 8))) fun t18_10=>
 prP (pk t13_9 (.bool true) t18_10) fun t19_11=>
 AI t19_11 (
 K [(.bool false)] []) (
 BG (fun r14 x12 k13=>
 prP (bnI .lss (nx x12 0) (iv (cnt 1 c0))) fun t24_16=>
 AI t24_16 (
 ixW (cnt 1 c0) (nx x12 0) fun t30_17=>
 ldc c0 [] ((AA t30_17)*1) fun t31_18=>
 cl2 C 154 BE.sg [t31_18,(.int .i64 (-1000000000)),(.int .i64 1000000000)] [] fun v19 d20=>
 prP (un .not (nx v19 0)) fun t33_22=>
 AI t33_22 (
 K [(.bool false)] []) (
 prP (bnI .add (nx x12 0) (.int .i64 1)) fun t26_23=>
 r14 [t26_23,(nx x12 1),(nx x12 2)] [])) (
 K [(.bool true)] [])) [(.int .i64 0),a0,a1] []))))))
theorem C6.cl2 {w0:World} {a0 a1:Value} {c0:List T} {K:J2} (h:C6.txt ⟨Try.prog,w0⟩ a0 a1 c0 K):Eng.cl2 ⟨Try.prog,w0⟩ 119 C6.sg [a0,a1] [c0] K:=
 AD (C:=⟨Try.prog,w0⟩) (f:=119) (fn:=Try.f119) [(154,BE.sg)] [] [(58,⟨[.p (.j 0) 0, .v],[],[.bx [.v, .v, .t (.f 0) 1]]⟩)] Try.func119 (by kernel_rfl) (by kernel_rfl) (by kernel_rfl) h
end Go.Proofs.Ytnhicpkhkaihoaa.P
