/- A part of the proof. -/
import Derived.Test.YtnhicpkhkaihoaaGreatRcLawTyObj
namespace Go.Proofs.YtnhicpkhkaihoaaGreat.P
open Go Go.Proofs.YtnhicpkhkaihoaaGreat Go.Proofs.YtnhicpkhkaihoaaGreat.Eng
set_option maxHeartbeats 4000000
set_option linter.unusedVariables false
set_option linter.unusedSimpArgs false
attribute [local irreducible] prP gP gE gF AG ixW ldc ldg ldl stc stg scW mkW apW BB cl2 BY FT DG
variable {w0:World}
def aZ (k:Int) (o:Wk):Wk:=⟨decide ((k) % 3=0),k+1⟩
def IK (o:Wk):Int:=2
theorem PD (o:Wk):0≤IK o:=by unfold IK;omega
theorem hD {cur:List Wk} {i:Nat} {y:Wk} {v:Bool} {K:List T→Prop} (hi:i<cur.length) (h:K (tR tW (cur.set i {y with used:=v}))):stc (tR tW (cur.set i y)) [] (AA (iv i)*2) (.bool v) K:=UL hi rfl rfl h
theorem aM {cur:List Wk} {i:Nat} {y:Wk} {v:Int} {K:List T→Prop} (hi:i<cur.length) (h:K (tR tW (cur.set i {y with target:=v}))):stc (tR tW (cur.set i y)) [] (AA (iv i)*2+1) (I v) K:=J3 hi (by decide) rfl rfl h
theorem bF {o:Wk} {K:J2} (h:K [.bool true] []):cl2 ⟨Tryz.prog,w0⟩ 165 HR.sg [.bool o.used,I o.target, .bool o.used,I o.target] [] K:=by
 refine HR.cl2 ?_
 unfold HR.txt
 repeat' (first | refine BZ (fun h=>h rfl) ?_ | refine B5 ?_ | refine CM ?_)
 exact h
theorem ZB {l:List Wk} {K:J2} (hl:(l.length:Int)<2^62) (h:K [.bool true] []):cl2 ⟨Tryz.prog,w0⟩ 110 GZ.sg [] [tR tW l,tR tW l] K:=by
 refine GZ.cl2 ?_
 unfold GZ.txt
 simp only [AK,AQ,AN,AP,AS,AE,AI,AU,AL,AV,AT,AM,AR,AO,BF,BM,BL,BI,BK,BJ,BG,A7,A4,A5,A8,A6,A9]
 refine B5 (BZ (fun h=>h rfl) ?_)
 refine AY (fun i=>[iv i]) (fun _=>[]) l.length (fun _=>True) rfl rfl trivial (fun R i hi hP hR=> ?_)
 refine AJ (AW (fun hlt=> ?_) fun hge=> ?_)
 ·have hlt:i<l.length:=by omega
  refine AH hlt (LS hlt rfl rfl (AH hlt (LS hlt rfl rfl ?_)))
  refine bF ?_
  repeat' (first | refine BO ?_ | refine AX (by omega) ?_ | refine BP ?_)
  exact hR hlt trivial
 ·exact h
theorem VM {k:Int} {l:List Wk} {K:J2} (hl:(l.length:Int)<2^60) (hk:0≤k) (hb:k+szL IK l<2^60) (h:K [I (k+szL IK l)] [tR tW (mkL aZ IK k l)]):cl2 ⟨Tryz.prog,w0⟩ 115 EW.sg [I k] [tR tW l] K:=by
 refine EW.cl2 ?_
 unfold EW.txt
 refine AY (fun i=>[I (k+szL IK (l.take i)),iv i]) (fun i=>[tR tW (mid aZ IK k l i)]) l.length (fun _=>True) (by simp [szL,QY]) (by rw [nY]) trivial (fun R i hi hP hR=> ?_)
 simp only [AK,AQ,AN,AP,AS,AE,AI,AU,AL,AV,AT,AM,AR,AO,BF,BM,BL,BI,BK,BJ,BG,A7,A4,A5,A8,A6,A9]
 rw [N9 hi]
 refine AJ (AW (fun hlt=> ?_) fun hge=> ?_)
 ·have hlt:i<l.length:=by omega
  have hs:=TO PD hlt
  have h0:=I1 PD (l.take i)
  replace hR:=hR hlt trivial
  rw [L6 hlt, ←XN hlt] at hR
  have hln:=N9 (mk:=aZ) (sz:=IK) (k:=k) hi
  have hg:=XQ (mk:=aZ) (sz:=IK) (k:=k) hlt (by omega)
  have hsm:=UU (f:=tW) (cur:=mid aZ IK k l i) (i:=i) (by omega)
  rw [hg] at hsm
  rw [hsm]
  clear hg hsm
  generalize mid aZ IK k l i=cur at hln hR ⊢
  generalize hx:l[i]=o at hR hs ⊢
  generalize szL IK (l.take i)=q at hR hs h0 ⊢
  have hzz:k+(q+IK o)=k+q+1+1:=by unfold IK;omega
  have hz0:IK o=2:=rfl
  rw [hzz] at hR
  repeat' (first | simp only [XV] | refine hD (by omega) ?_ | refine aM (by omega) ?_ | refine BW ?_ | refine AX (by omega) ?_ | refine CC ⟨by omega,by omega⟩ ?_ | refine LF (by omega) (by omega) ?_ | refine AH (by omega) ?_)
  exact hR
 ·have:i=l.length:=by omega
  subst this
  rw [List.take_length,XW];exact h
theorem VX {k:Int} {l:List Wk} {K:J2} (hl:(l.length:Int)<2^60) (hk:0≤k) (hb:k+szL IK l<2^60) (h:K [I (k+szL IK l)] []):cl2 ⟨Tryz.prog,w0⟩ 119 EP.sg [I k] [tR tW (mkL aZ IK k l)] K:=by
 refine EP.cl2 ?_
 unfold EP.txt
 simp only [AK,AQ,AN,AP,AS,AE,AI,AU,AL,AV,AT,AM,AR,AO,BF,BM,BL,BI,BK,BJ,BG,A7,A4,A5,A8,A6,A9]
 rw [LB]
 refine AY (fun i=>[I (k+szL IK (l.take i)),iv i]) (fun _=>[]) l.length (fun _=>True) (by simp [szL,QY]) rfl trivial (fun R i hi hP hR=> ?_)
 refine AJ (AW (fun hlt=> ?_) fun hge=> ?_)
 ·have hlt:i<l.length:=by omega
  have hs:=TO PD hlt
  have h0:=I1 PD (l.take i)
  replace hR:=hR hlt trivial
  rw [L6 hlt] at hR
  have hln:=LB (mk:=aZ) (sz:=IK) l k
  have hM:=fD (mk:=aZ) (sz:=IK) (k:=k) hlt (by omega)
  generalize hx:l[i]=o at hR hs hM ⊢
  generalize szL IK (l.take i)=q at hR hs h0 hM ⊢
  have hzz:k+(q+IK o)=k+q+1+1:=by unfold IK;omega
  have hz0:IK o=2:=rfl
  rw [hzz] at hR
  repeat' (first | refine QC (by omega) (by rw [hM];rfl) ?_ | refine QD (by omega) (by decide) (by rw [hM];rfl) ?_ | refine BZ (fun h=>h rfl) ?_ | refine BW ?_ | refine B5 ?_ | refine CM ?_ | refine AX (by omega) ?_ | refine CC ⟨by omega,by omega⟩ ?_ | refine LF (by omega) (by omega) ?_ | refine AH (by omega) ?_)
  exact hR
 ·have:i=l.length:=by omega
  subst this
  rw [List.take_length];exact h
end Go.Proofs.YtnhicpkhkaihoaaGreat.P
