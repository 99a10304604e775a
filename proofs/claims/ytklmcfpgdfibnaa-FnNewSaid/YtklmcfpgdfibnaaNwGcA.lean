/- A part of the proof. -/
import Derived.Test.YtklmcfpgdfibnaaNwParA
namespace Go.Proofs.Ytklmcfpgdfibnaa.P
open Go Go.Proofs.Ytklmcfpgdfibnaa Go.Proofs.Ytklmcfpgdfibnaa.Eng
set_option linter.unusedVariables false
set_option maxHeartbeats 4000000
set_option linter.unusedVariables false
set_option linter.unusedSimpArgs false
attribute [local irreducible] prP gP gE gF AV ixW ldc ldg ldl stc stg scW mkW apW BL cl2 BS EC CX
variable {w0:World}
theorem sR {w a:Bool} {m:J2→Prop} {K:J2} (ha:a=w) (h:m K):gC (.bool a) w m K:= .inl ⟨by rw [ha],h⟩
theorem tV {m:J2→Prop} {K:J2} (h:m K):gC (.bool true) true m K:=sR rfl h
theorem dG {l:List Int} {x:Int} {K:J2} (hl:(l.length:Int)<2^62) (h:K [.bool (decide (x∈l))] []):cl2 ⟨Try.prog,w0⟩ 25 I5.sg [I x] [tI l] K:=by
 refine I5.cl2 ?_
 unfold I5.txt
 simp only [AD]
 refine BD (fun i=>[I x,iv i]) (fun _=>[]) l.length (fun i=>x∉l.take i) rfl rfl (by simp) (fun R i hi hP hR=> ?_)
 simp only [AG,AK,AN,AM,AI,AD,AE,AP,AO,AJ,AQ,AR,AL,AH,BE,BJ,BH,BG,BK,BI,BF,A4,A8,A7,A6,A5,AZ]
 refine AX (AW (fun hlt=> ?_) fun hge=> ?_)
 ·have hlt:i<l.length:=by omega
  refine AS hlt (ldI hlt (BP (AW (fun he=> ?_) fun hne=>BA (by omega) (hR hlt ?_))))
  ·rw [decide_eq_true (by rw [←he, ←EE hlt];exact List.getElem_mem hlt)] at h
   exact h
  ·rw [List.take_succ_eq_append_getElem hlt,List.mem_append,List.mem_singleton]
   rintro (hh | hh)
   ·exact hP hh
   ·exact hne (by rw [hh,EE hlt])
 ·have:i=l.length:=by omega
  subst this
  rw [List.take_length] at hP
  rw [decide_eq_false hP] at h
  exact h
end Go.Proofs.Ytklmcfpgdfibnaa.P
