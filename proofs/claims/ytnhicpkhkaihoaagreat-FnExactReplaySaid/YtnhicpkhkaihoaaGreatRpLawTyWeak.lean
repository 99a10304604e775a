/- A part of the proof. -/
import Derived.Test.YtnhicpkhkaihoaaGreatRpLawTyObj
namespace Go.Proofs.YtnhicpkhkaihoaaGreat.P
open Go Go.Proofs.YtnhicpkhkaihoaaGreat Go.Proofs.YtnhicpkhkaihoaaGreat.Eng
set_option maxHeartbeats 4000000
set_option linter.unusedVariables false
set_option linter.unusedSimpArgs false
attribute [local irreducible] prP gP gE gF AG ixW ldc ldg ldl stc stg scW mkW apW BA cl2 B6 G8 C3
variable {w0:World}
def dK (k:Int) (o:Wk):Wk:=⟨decide ((k) % 3=0),k+1⟩
def JU (o:Wk):Int:=2
theorem QC (o:Wk):0≤JU o:=by unfold JU;omega
theorem lS {cur:List Wk} {i:Nat} {y:Wk} {v:Bool} {K:List T→Prop} (hi:i<cur.length) (h:K (tR tW (cur.set i {y with used:=v}))):stc (tR tW (cur.set i y)) [] (AA (iv i)*2) (.bool v) K:=VU hi rfl rfl h
theorem cX {cur:List Wk} {i:Nat} {y:Wk} {v:Int} {K:List T→Prop} (hi:i<cur.length) (h:K (tR tW (cur.set i {y with target:=v}))):stc (tR tW (cur.set i y)) [] (AA (iv i)*2+1) (I v) K:=KZ hi (by decide) rfl rfl h
theorem dF {o:Wk} {K:J2} (h:K [.bool true] []):cl2 ⟨Tryz.prog,w0⟩ 165 IL.sg [.bool o.used,I o.target, .bool o.used,I o.target] [] K:=by
 refine IL.cl2 ?_
 unfold IL.txt
 repeat' (first | refine BV (fun h=>h rfl) ?_ | refine B2 ?_ | refine CF ?_)
 exact h
theorem cV {l:List Wk} {K:J2} (hl:(l.length:Int)<2^62) (h:K [.bool true] []):cl2 ⟨Tryz.prog,w0⟩ 110 HX.sg [] [tR tW l,tR tW l] K:=by
 refine HX.cl2 ?_
 unfold HX.txt
 simp only [AM,AT,AL,AK,AN,AE,AI,AV,AU,AS,AP,AQ,AO,AR,BD,BE,BH,BG,BJ,BL,BF,AZ,A6,A1,AY,A5,A4]
 refine B2 (BV (fun h=>h rfl) ?_)
 refine A7 (fun i=>[iv i]) (fun _=>[]) l.length (fun _=>True) rfl rfl trivial (fun R i hi hP hR=> ?_)
 refine AJ (AH (fun hlt=> ?_) fun hge=> ?_)
 ·have hlt:i<l.length:=by omega
  refine AW hlt (NU hlt rfl rfl (AW hlt (NU hlt rfl rfl ?_)))
  refine dF ?_
  repeat' (first | refine BQ ?_ | refine AX (by omega) ?_ | refine BN ?_)
  exact hR hlt trivial
 ·exact h
theorem WW {k:Int} {l:List Wk} {K:J2} (hl:(l.length:Int)<2^60) (hk:0≤k) (hb:k+szL JU l<2^60) (h:K [I (k+szL JU l)] [tR tW (mkL dK JU k l)]):cl2 ⟨Tryz.prog,w0⟩ 115 FP.sg [I k] [tR tW l] K:=by
 refine FP.cl2 ?_
 unfold FP.txt
 refine A7 (fun i=>[I (k+szL JU (l.take i)),iv i]) (fun i=>[tR tW (mid dK JU k l i)]) l.length (fun _=>True) (by simp [szL,RV]) (by rw [qE]) trivial (fun R i hi hP hR=> ?_)
 simp only [AM,AT,AL,AK,AN,AE,AI,AV,AU,AS,AP,AQ,AO,AR,BD,BE,BH,BG,BJ,BL,BF,AZ,A6,A1,AY,A5,A4]
 rw [PT hi]
 refine AJ (AH (fun hlt=> ?_) fun hge=> ?_)
 ·have hlt:i<l.length:=by omega
  have hs:=S8 QC hlt
  have h0:=JF QC (l.take i)
  replace hR:=hR hlt trivial
  rw [MI hlt, ←ZG hlt] at hR
  have hln:=PT (mk:=dK) (sz:=JU) (k:=k) hi
  have hg:=ZK (mk:=dK) (sz:=JU) (k:=k) hlt (by omega)
  have hsm:=WA (f:=tW) (cur:=mid dK JU k l i) (i:=i) (by omega)
  rw [hg] at hsm
  rw [hsm]
  clear hg hsm
  generalize mid dK JU k l i=cur at hln hR ⊢
  generalize hx:l[i]=o at hR hs ⊢
  generalize szL JU (l.take i)=q at hR hs h0 ⊢
  have hzz:k+(q+JU o)=k+q+1+1:=by unfold JU;omega
  have hz0:JU o=2:=rfl
  rw [hzz] at hR
  repeat' (first | simp only [Y8] | refine lS (by omega) ?_ | refine cX (by omega) ?_ | refine BI ?_ | refine AX (by omega) ?_ | refine BX ⟨by omega,by omega⟩ ?_ | refine J7 (by omega) (by omega) ?_ | refine AW (by omega) ?_)
  exact hR
 ·have:i=l.length:=by omega
  subst this
  rw [List.take_length,ZC];exact h
theorem WX {k:Int} {l:List Wk} {K:J2} (hl:(l.length:Int)<2^60) (hk:0≤k) (hb:k+szL JU l<2^60) (h:K [I (k+szL JU l)] []):cl2 ⟨Tryz.prog,w0⟩ 119 FN.sg [I k] [tR tW (mkL dK JU k l)] K:=by
 refine FN.cl2 ?_
 unfold FN.txt
 simp only [AM,AT,AL,AK,AN,AE,AI,AV,AU,AS,AP,AQ,AO,AR,BD,BE,BH,BG,BJ,BL,BF,AZ,A6,A1,AY,A5,A4]
 rw [K4]
 refine A7 (fun i=>[I (k+szL JU (l.take i)),iv i]) (fun _=>[]) l.length (fun _=>True) (by simp [szL,RV]) rfl trivial (fun R i hi hP hR=> ?_)
 refine AJ (AH (fun hlt=> ?_) fun hge=> ?_)
 ·have hlt:i<l.length:=by omega
  have hs:=S8 QC hlt
  have h0:=JF QC (l.take i)
  replace hR:=hR hlt trivial
  rw [MI hlt] at hR
  have hln:=K4 (mk:=dK) (sz:=JU) l k
  have hM:=ZE (mk:=dK) (sz:=JU) (k:=k) hlt (by omega)
  generalize hx:l[i]=o at hR hs hM ⊢
  generalize szL JU (l.take i)=q at hR hs h0 hM ⊢
  have hzz:k+(q+JU o)=k+q+1+1:=by unfold JU;omega
  have hz0:JU o=2:=rfl
  rw [hzz] at hR
  repeat' (first | refine PQ (by omega) (by rw [hM];rfl) ?_ | refine P2 (by omega) (by decide) (by rw [hM];rfl) ?_ | refine BV (fun h=>h rfl) ?_ | refine BI ?_ | refine B2 ?_ | refine CF ?_ | refine AX (by omega) ?_ | refine BX ⟨by omega,by omega⟩ ?_ | refine J7 (by omega) (by omega) ?_ | refine AW (by omega) ?_)
  exact hR
 ·have:i=l.length:=by omega
  subst this
  rw [List.take_length];exact h
end Go.Proofs.YtnhicpkhkaihoaaGreat.P
