/- A part of the proof. -/
import Derived.Test.YtklmcfpgdfibnaaClEngZ
import Derived.Test.YtklmcfpgdfibnaaClGdA
import Derived.Test.YtklmcfpgdfibnaaClDrA
import Derived.Test.YtklmcfpgdfibnaaClHpFb
namespace Go.Proofs.Ytklmcfpgdfibnaa.P
open Go Go.Proofs.Ytklmcfpgdfibnaa Go.Proofs.Ytklmcfpgdfibnaa.Eng
set_option linter.unusedVariables false
instance yN:DecidableEq Op5:=fun x y=>decidable_of_iff (x.kind=y.kind∧x.a=y.a∧x.b=y.b∧x.c=y.c∧x.site=y.site) (by cases x;cases y;simp)
instance yP:DecidableEq Wk:=fun x y=>decidable_of_iff (x.used=y.used∧x.target=y.target) (by cases x;cases y;simp)
instance yO:DecidableEq An:=fun x y=>decidable_of_iff (x.code=y.code∧x.val=y.val∧x.freed=y.freed) (by cases x;cases y;simp)
def fI (n : String) (o b : Nat) : Field := { name := n, type := 3, offset := o, embedded := false, tag := "", pkgPath := "", byteOffset := b }
def fB (n : String) (o b : Nat) : Field := { name := n, type := 4, offset := o, embedded := false, tag := "", pkgPath := "", byteOffset := b }
theorem yE {d : Nat} {xs ys : Array Value} {n : String} {o k : Nat} {fs : List Field} {a b : Int} (hn : n ≠ "_") (hx : xs[o]? = some (I a)) (hy : ys[o]? = some (I b)) :
  CD Try.prog (Op.eqFields (d+1) xs ys (fI n o k::fs))=if (a==b) then CD Try.prog (Op.eqFields (d+1) xs ys fs) else some false:=
 m4 (f:=fI n o k) hn Try.underlying3 rfl hx hy (uJ Try.underlying3)
theorem xU {d : Nat} {xs ys : Array Value} {n : String} {o k : Nat} {fs : List Field} {a b : Bool} (hn : n ≠ "_") (hx : xs[o]? = some (.bool a)) (hy : ys[o]? = some (.bool b)) :
  CD Try.prog (Op.eqFields (d+1) xs ys (fB n o k::fs))=if (a==b) then CD Try.prog (Op.eqFields (d+1) xs ys fs) else some false:=
 m4 (f:=fB n o k) hn Try.underlying4 rfl hx hy (u6 Try.underlying4)
theorem yG : (Try.prog.fieldsOf 103).toList = [fB "Used" 0 0, fI "Target" 1 8] := by kernel_rfl
theorem l5 {x y:Wk} {K:Value→Prop} (h:K (.bool (decide (x≠y)))):prP (bnA Try.prog .neq 103 (.agg #[.bool x.used,I x.target]) (.agg #[.bool y.used,I y.target])) K:=by
 obtain ⟨a1,a2⟩:=x
 obtain ⟨b1,b2⟩:=y
 have e:=qA (P:=Try.prog) (t:=103) (xs:= #[.bool a1,I a2]) (ys:= #[.bool b1,I b2]) (r:=decide ((⟨a1,a2⟩:Wk)=⟨b1,b2⟩)) (by simp [plain]) (by simp [plain]) (by kernel_rfl) (by kernel_rfl) (by kernel_rfl) (by
  rw [yG,xU (by decide) rfl rfl,yE (by decide) rfl rfl]
  have en:CD Try.prog (Op.eqFields 9999 #[.bool a1,I a2] #[.bool b1,I b2] [])=some true:=rfl
  rw [en]
  simp only [Wk.mk.injEq,beq_iff_eq]
  repeat' split
  all_goals simp_all)
 rw [e]
 refine CH rfl ?_
 have:(!decide ((⟨a1,a2⟩:Wk)=⟨b1,b2⟩))=decide ((⟨a1,a2⟩:Wk)≠⟨b1,b2⟩):=by simp
 rw [this];exact h
end Go.Proofs.Ytklmcfpgdfibnaa.P
namespace Go.Proofs.Ytklmcfpgdfibnaa.P
open Go Go.Proofs.Ytklmcfpgdfibnaa Go.Proofs.Ytklmcfpgdfibnaa.Eng
set_option linter.unusedVariables false
set_option maxHeartbeats 4000000
set_option linter.unusedVariables false
set_option linter.unusedSimpArgs false
attribute [local irreducible] prP gP gE gF A7 ixW ldc ldg ldl stc stg scW mkW apW BD cl2 BP DT C0
variable {w0:World}
theorem RA {l:List Int} {K:J2} (hl:(l.length:Int)<2^62) (h:K [.bool true] []):cl2 ⟨Try.prog,w0⟩ 104 F5.sg [] [tI l,tI l] K:=by
 refine F5.cl2 ?_
 unfold F5.txt
 simp only [AG,AR,AL,AJ,AK,AE,AH,AO,AI,AS,AN,AM,AP,AQ,BE,BM,BJ,BL,BH,BK,BF,A5,AX,AY,A4,A6,AZ]
 refine CP (D9 (fun hh=>hh rfl) (BC (fun i=>[iv i]) (fun _=>[]) l.length (fun _=>True) rfl rfl trivial (fun R i hi _ hR=> ?_)))
 simp only [AG,AR,AL,AJ,AK,AE,AH,AO,AI,AS,AN,AM,AP,AQ,BE,BM,BJ,BL,BH,BK,BF,A5,AX,AY,A4,A6,AZ]
 refine A8 (AW (fun hlt=> ?_) fun _=>h)
 have hlt:i<l.length:=by omega
 exact AU hlt (ldI hlt (AU hlt (ldI hlt (CP (D9 (fun hh=>hh rfl) (A9 (by omega) (hR hlt trivial)))))))
end Go.Proofs.Ytklmcfpgdfibnaa.P
namespace Go.Proofs.Ytklmcfpgdfibnaa.P
open Go Go.Proofs.Ytklmcfpgdfibnaa Go.Proofs.Ytklmcfpgdfibnaa.Eng
set_option linter.unusedVariables false
def tl:Int→List Int→ByteArray
 | _,[]=>⟨#[]⟩
 | b,x::xs=>SI (x-b)++tl x xs
end Go.Proofs.Ytklmcfpgdfibnaa.P
namespace Go.Proofs.Ytklmcfpgdfibnaa.P
open Go Go.Proofs.Ytklmcfpgdfibnaa Go.Proofs.Ytklmcfpgdfibnaa.Eng
set_option linter.unusedVariables false
end Go.Proofs.Ytklmcfpgdfibnaa.P
namespace Go.Proofs.Ytklmcfpgdfibnaa.P
open Go Go.Proofs.Ytklmcfpgdfibnaa Go.Proofs.Ytklmcfpgdfibnaa.Eng
set_option linter.unusedVariables false
set_option maxHeartbeats 4000000
set_option linter.unusedVariables false
set_option linter.unusedSimpArgs false
attribute [local irreducible] prP gP gE gF A7 ixW ldc ldg ldl stc stg scW mkW apW BD cl2 BP DT C0
variable {w0:World}
noncomputable def agr (ops:List Op5) (ans:List An):Nat→Nat
 | 0=>0
 | i+1=>if agr ops ans i=i∧(F6 (JY ops i).1 (po ops i)).2=an ans i then i+1 else agr ops ans i
structure RB2 where
 code:Int
 n:Nat
 hp:Hp
 ops:List Op5
 ans:List An
end Go.Proofs.Ytklmcfpgdfibnaa.P
namespace Go.Proofs.Ytklmcfpgdfibnaa.P
open Go Go.Proofs.Ytklmcfpgdfibnaa Go.Proofs.Ytklmcfpgdfibnaa.Eng
set_option linter.unusedVariables false
set_option maxHeartbeats 4000000
set_option linter.unusedVariables false
set_option linter.unusedSimpArgs false
attribute [local irreducible] prP gP gE gF A7 ixW ldc ldg ldl stc stg scW mkW apW BD cl2 BP DT C0
variable {w0:World}
end Go.Proofs.Ytklmcfpgdfibnaa.P
namespace Go.Proofs.Ytklmcfpgdfibnaa.P
open Go Go.Proofs.Ytklmcfpgdfibnaa Go.Proofs.Ytklmcfpgdfibnaa.Eng
set_option linter.unusedVariables false
end Go.Proofs.Ytklmcfpgdfibnaa.P
