/- A part of the proof. -/
import Derived.Test.YtnhicpkhkaihoaaCkLawTyWeak
namespace Go.Proofs.Ytnhicpkhkaihoaa.P
open Go Go.Proofs.Ytnhicpkhkaihoaa Go.Proofs.Ytnhicpkhkaihoaa.Eng
set_option maxHeartbeats 4000000
set_option linter.unusedVariables false
set_option linter.unusedSimpArgs false
attribute [local irreducible] prP gP gE gF AU ixW ldc ldg ldl stc stg scW mkW apW BD cl2 BW FR DK
variable {w0:World}
def YU (k:Int) (o:Op5):Op5:=⟨k,k+1,k+1+1,k+1+1+1,mt (k+1+1+1+1)⟩
def KC (o:Op5):Int:=5
theorem TF (o:Op5):0≤KC o:=by unfold KC;omega
theorem Z8 {cur:List Op5} {i:Nat} {y:Op5} {v:Int} {K:List T→Prop} (hi:i<cur.length) (h:K (tR tP (cur.set i {y with kind:=v}))):stc (tR tP (cur.set i y)) [] (AA (iv i)*5) (I v) K:=SR hi rfl rfl h
theorem kQ {cur:List Op5} {i:Nat} {y:Op5} {v:Int} {K:List T→Prop} (hi:i<cur.length) (h:K (tR tP (cur.set i {y with a:=v}))):stc (tR tP (cur.set i y)) [] (AA (iv i)*5+1) (I v) K:=IH hi (by decide) rfl rfl h
theorem kO {cur:List Op5} {i:Nat} {y:Op5} {v:Int} {K:List T→Prop} (hi:i<cur.length) (h:K (tR tP (cur.set i {y with b:=v}))):stc (tR tP (cur.set i y)) [] (AA (iv i)*5+2) (I v) K:=IH hi (by decide) rfl rfl h
theorem kE {cur:List Op5} {i:Nat} {y:Op5} {v:Int} {K:List T→Prop} (hi:i<cur.length) (h:K (tR tP (cur.set i {y with c:=v}))):stc (tR tP (cur.set i y)) [] (AA (iv i)*5+3) (I v) K:=IH hi (by decide) rfl rfl h
theorem aG {cur:List Op5} {i:Nat} {y:Op5} {v:ByteArray} {K:List T→Prop} (hi:i<cur.length) (h:K (tR tP (cur.set i {y with site:=v}))):stc (tR tP (cur.set i y)) [] (AA (iv i)*5+4) (.string v) K:=IH hi (by decide) rfl rfl h
theorem cC {o:Op5} {K:J2} (h:K [.bool true] []):cl2 ⟨Try.prog,w0⟩ 36 IJ.sg [I o.kind,I o.a,I o.b,I o.c, .string o.site,I o.kind,I o.a,I o.b,I o.c, .string o.site] [] K:=by
 refine IJ.cl2 ?_
 unfold IJ.txt
 repeat' (first | refine B2 (fun h=>h rfl) ?_ | refine B6 ?_ | refine mK ?_)
 exact h
theorem ZR {l:List Op5} {K:J2} (hl:(l.length:Int)<2^62) (h:K [.bool true] []):cl2 ⟨Try.prog,w0⟩ 30 HN.sg [] [tR tP l,tR tP l] K:=by
 refine HN.cl2 ?_
 unfold HN.txt
 simp only [AI,AM,AP,AR,AT,AD,AH,AL,AK,AO,AQ,AJ,AS,AN,BE,BJ,BH,BK,BI,BG,BF,A1,AZ,A5,A7,A6,A4]
 refine B6 (B2 (fun h=>h rfl) ?_)
 refine BA (fun i=>[iv i]) (fun _=>[]) l.length (fun _=>True) rfl rfl trivial (fun R i hi hP hR=> ?_)
 refine AV (AW (fun hlt=> ?_) fun hge=> ?_)
 ·have hlt:i<l.length:=by omega
  refine AG hlt (KR hlt rfl rfl (AG hlt (KR hlt rfl rfl ?_)))
  refine cC ?_
  repeat' (first | refine BN ?_ | refine A8 (by omega) ?_ | refine BY ?_)
  exact hR hlt trivial
 ·exact h
theorem cA {o:Op5} {K:J2} (h:K [I o.kind,I o.a,I o.b,I o.c, .string o.site] []):cl2 ⟨Try.prog,w0⟩ 63 I8.sg [I o.kind,I o.a,I o.b,I o.c, .string o.site] [] K:=
 I8.cl2 h
theorem SL {l:List Op5} {K:J2} (hl:(l.length:Int)<2^40) (h:K [] [tR tP l]):cl2 ⟨Try.prog,w0⟩ 27 FO.sg [] [tR tP l] K:=by
 refine FO.cl2 ?_
 unfold FO.txt
 simp only [AI,AM,AP,AR,AT,AD,AH,AL,AK,AO,AQ,AJ,AS,AN,BE,BJ,BH,BK,BI,BG,BF,A1,AZ,A5,A7,A6,A4]
 refine rU (by omega) ?_
 refine BA (fun i=>[iv i]) (fun i=>[tR tP (l.take i++List.replicate (l.length-i) (⟨0,0,0,0,⟨#[]⟩⟩:Op5))]) l.length (fun _=>True) rfl ?_ trivial (fun R i hi hP hR=> ?_)
 ·rw [AY];exact congrArg (fun x=>[x]) ((U9 (f:=tP) l.length (⟨0,0,0,0,⟨#[]⟩⟩:Op5)).trans (by simp))
 have hln:(l.take i++List.replicate (l.length-i) (⟨0,0,0,0,⟨#[]⟩⟩:Op5)).length=l.length:=by simp;omega
 simp only [AI,AM,AP,AR,AT,AD,AH,AL,AK,AO,AQ,AJ,AS,AN,BE,BJ,BH,BK,BI,BG,BF,A1,AZ,A5,A7,A6,A4]
 refine AV (AW (fun hlt=> ?_) fun hge=> ?_)
 ·have hlt:i<l.length:=by omega
  replace hR:=hR hlt trivial
  rw [lG hlt] at hR
  refine AG hlt (KR hlt rfl rfl ?_)
  refine cA (o:=l[i]) ?_
  rw [hln]
  refine AG hlt (KQ (by rw [hln];exact hlt) (y:=l[i]) rfl (A8 (by omega) ?_))
  exact hR
 ·have:i=l.length:=by omega
  subst this
  simpa using h
theorem V6 {k:Int} {l:List Op5} {K:J2} (hl:(l.length:Int)<2^60) (hk:0≤k) (hb:k+szL KC l<2^60) (h:K [I (k+szL KC l)] [tR tP (mkL YU KC k l)]):cl2 ⟨Try.prog,w0⟩ 45 F6.sg [I k] [tR tP l] K:=by
 refine F6.cl2 ?_
 unfold F6.txt
 refine BA (fun i=>[I (k+szL KC (l.take i)),iv i]) (fun i=>[tR tP (mid YU KC k l i)]) l.length (fun _=>True) (by simp [szL,O1]) (by rw [gY]) trivial (fun R i hi hP hR=> ?_)
 simp only [AI,AM,AP,AR,AT,AD,AH,AL,AK,AO,AQ,AJ,AS,AN,BE,BJ,BH,BK,BI,BG,BF,A1,AZ,A5,A7,A6,A4]
 rw [MQ hi]
 refine AV (AW (fun hlt=> ?_) fun hge=> ?_)
 ·have hlt:i<l.length:=by omega
  have hs:=RK TF hlt
  have h0:=HH TF (l.take i)
  replace hR:=hR hlt trivial
  rw [KH hlt, ←U7 hlt] at hR
  have hln:=MQ (mk:=YU) (sz:=KC) (k:=k) hi
  have hg:=UT (mk:=YU) (sz:=KC) (k:=k) hlt (by omega)
  have hsm:=RW (f:=tP) (cur:=mid YU KC k l i) (i:=i) (by omega)
  rw [hg] at hsm
  rw [hsm]
  clear hg hsm
  generalize mid YU KC k l i=cur at hln hR ⊢
  generalize hx:l[i]=o at hR hs ⊢
  generalize szL KC (l.take i)=q at hR hs h0 ⊢
  have hzz:k+(q+KC o)=k+q+1+1+1+1+1:=by unfold KC;omega
  have hz0:KC o=5:=rfl
  rw [hzz] at hR
  repeat' (first | simp only [U2] | refine Z8 (by omega) ?_ | refine kQ (by omega) ?_ | refine kO (by omega) ?_ | refine kE (by omega) ?_ | refine aG (by omega) ?_ | refine CD.cl2 (KN (by omega) ?_) | refine A8 (by omega) ?_ | refine C1 ⟨by omega,by omega⟩ ?_ | refine AG (by omega) ?_)
  exact hR
 ·have:i=l.length:=by omega
  subst this
  rw [List.take_length,U8];exact h
end Go.Proofs.Ytnhicpkhkaihoaa.P
