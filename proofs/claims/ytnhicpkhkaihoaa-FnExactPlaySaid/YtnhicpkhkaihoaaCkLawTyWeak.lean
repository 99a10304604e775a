/- A part of the proof. -/
import Derived.Test.YtnhicpkhkaihoaaCkLawTyObj
namespace Go.Proofs.Ytnhicpkhkaihoaa.P
open Go Go.Proofs.Ytnhicpkhkaihoaa Go.Proofs.Ytnhicpkhkaihoaa.Eng
set_option maxHeartbeats 4000000
set_option linter.unusedVariables false
set_option linter.unusedSimpArgs false
attribute [local irreducible] prP gP gE gF AU ixW ldc ldg ldl stc stg scW mkW apW BD cl2 BW FR DK
variable {w0:World}
def YC (k:Int) (o:Wk):Wk:=⟨decide ((k) % 3=0),k+1⟩
def HD (o:Wk):Int:=2
theorem NI (o:Wk):0≤HD o:=by unfold HD;omega
theorem cZ {cur:List Wk} {i:Nat} {y:Wk} {v:Bool} {K:List T→Prop} (hi:i<cur.length) (h:K (tR tW (cur.set i {y with used:=v}))):stc (tR tW (cur.set i y)) [] (AA (iv i)*2) (.bool v) K:=SR hi rfl rfl h
theorem XR {cur:List Wk} {i:Nat} {y:Wk} {v:Int} {K:List T→Prop} (hi:i<cur.length) (h:K (tR tW (cur.set i {y with target:=v}))):stc (tR tW (cur.set i y)) [] (AA (iv i)*2+1) (I v) K:=IH hi (by decide) rfl rfl h
theorem XV {o:Wk} {K:J2} (h:K [.bool true] []):cl2 ⟨Try.prog,w0⟩ 159 GW.sg [.bool o.used,I o.target, .bool o.used,I o.target] [] K:=by
 refine GW.cl2 ?_
 unfold GW.txt
 repeat' (first | refine B2 (fun h=>h rfl) ?_ | refine B6 ?_ | refine DE ?_)
 exact h
theorem VN {l:List Wk} {K:J2} (hl:(l.length:Int)<2^62) (h:K [.bool true] []):cl2 ⟨Try.prog,w0⟩ 86 F7.sg [] [tR tW l,tR tW l] K:=by
 refine F7.cl2 ?_
 unfold F7.txt
 simp only [AI,AM,AP,AR,AT,AD,AH,AL,AK,AO,AQ,AJ,AS,AN,BE,BJ,BH,BK,BI,BG,BF,A1,AZ,A5,A7,A6,A4]
 refine B6 (B2 (fun h=>h rfl) ?_)
 refine BA (fun i=>[iv i]) (fun _=>[]) l.length (fun _=>True) rfl rfl trivial (fun R i hi hP hR=> ?_)
 refine AV (AW (fun hlt=> ?_) fun hge=> ?_)
 ·have hlt:i<l.length:=by omega
  refine AG hlt (KR hlt rfl rfl (AG hlt (KR hlt rfl rfl ?_)))
  refine XV ?_
  repeat' (first | refine BN ?_ | refine A8 (by omega) ?_ | refine BY ?_)
  exact hR hlt trivial
 ·exact h
theorem TB {k:Int} {l:List Wk} {K:J2} (hl:(l.length:Int)<2^60) (hk:0≤k) (hb:k+szL HD l<2^60) (h:K [I (k+szL HD l)] [tR tW (mkL YC HD k l)]):cl2 ⟨Try.prog,w0⟩ 89 EB.sg [I k] [tR tW l] K:=by
 refine EB.cl2 ?_
 unfold EB.txt
 refine BA (fun i=>[I (k+szL HD (l.take i)),iv i]) (fun i=>[tR tW (mid YC HD k l i)]) l.length (fun _=>True) (by simp [szL,O1]) (by rw [gY]) trivial (fun R i hi hP hR=> ?_)
 simp only [AI,AM,AP,AR,AT,AD,AH,AL,AK,AO,AQ,AJ,AS,AN,BE,BJ,BH,BK,BI,BG,BF,A1,AZ,A5,A7,A6,A4]
 rw [MQ hi]
 refine AV (AW (fun hlt=> ?_) fun hge=> ?_)
 ·have hlt:i<l.length:=by omega
  have hs:=RK NI hlt
  have h0:=HH NI (l.take i)
  replace hR:=hR hlt trivial
  rw [KH hlt, ←U7 hlt] at hR
  have hln:=MQ (mk:=YC) (sz:=HD) (k:=k) hi
  have hg:=UT (mk:=YC) (sz:=HD) (k:=k) hlt (by omega)
  have hsm:=RW (f:=tW) (cur:=mid YC HD k l i) (i:=i) (by omega)
  rw [hg] at hsm
  rw [hsm]
  clear hg hsm
  generalize mid YC HD k l i=cur at hln hR ⊢
  generalize hx:l[i]=o at hR hs ⊢
  generalize szL HD (l.take i)=q at hR hs h0 ⊢
  have hzz:k+(q+HD o)=k+q+1+1:=by unfold HD;omega
  have hz0:HD o=2:=rfl
  rw [hzz] at hR
  repeat' (first | simp only [U2] | refine cZ (by omega) ?_ | refine XR (by omega) ?_ | refine BT ?_ | refine A8 (by omega) ?_ | refine C1 ⟨by omega,by omega⟩ ?_ | refine PW (by omega) (by omega) ?_ | refine AG (by omega) ?_)
  exact hR
 ·have:i=l.length:=by omega
  subst this
  rw [List.take_length,U8];exact h
theorem TM {k:Int} {l:List Wk} {K:J2} (hl:(l.length:Int)<2^60) (hk:0≤k) (hb:k+szL HD l<2^60) (h:K [I (k+szL HD l)] []):cl2 ⟨Try.prog,w0⟩ 133 D8.sg [I k] [tR tW (mkL YC HD k l)] K:=by
 refine D8.cl2 ?_
 unfold D8.txt
 simp only [AI,AM,AP,AR,AT,AD,AH,AL,AK,AO,AQ,AJ,AS,AN,BE,BJ,BH,BK,BI,BG,BF,A1,AZ,A5,A7,A6,A4]
 rw [JJ]
 refine BA (fun i=>[I (k+szL HD (l.take i)),iv i]) (fun _=>[]) l.length (fun _=>True) (by simp [szL,O1]) rfl trivial (fun R i hi hP hR=> ?_)
 refine AV (AW (fun hlt=> ?_) fun hge=> ?_)
 ·have hlt:i<l.length:=by omega
  have hs:=RK NI hlt
  have h0:=HH NI (l.take i)
  replace hR:=hR hlt trivial
  rw [KH hlt] at hR
  have hln:=JJ (mk:=YC) (sz:=HD) l k
  have hM:=Z0 (mk:=YC) (sz:=HD) (k:=k) hlt (by omega)
  generalize hx:l[i]=o at hR hs hM ⊢
  generalize szL HD (l.take i)=q at hR hs h0 hM ⊢
  have hzz:k+(q+HD o)=k+q+1+1:=by unfold HD;omega
  have hz0:HD o=2:=rfl
  rw [hzz] at hR
  repeat' (first | refine N4 (by omega) (by rw [hM];rfl) ?_ | refine N0 (by omega) (by decide) (by rw [hM];rfl) ?_ | refine B2 (fun h=>h rfl) ?_ | refine BT ?_ | refine B6 ?_ | refine DE ?_ | refine A8 (by omega) ?_ | refine C1 ⟨by omega,by omega⟩ ?_ | refine PW (by omega) (by omega) ?_ | refine AG (by omega) ?_)
  exact hR
 ·have:i=l.length:=by omega
  subst this
  rw [List.take_length];exact h
end Go.Proofs.Ytnhicpkhkaihoaa.P
