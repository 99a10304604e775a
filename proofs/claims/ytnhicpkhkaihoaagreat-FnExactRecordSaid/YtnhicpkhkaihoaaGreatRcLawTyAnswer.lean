/- A part of the proof. -/
import Derived.Test.YtnhicpkhkaihoaaGreatRcLawTyOp
namespace Go.Proofs.YtnhicpkhkaihoaaGreat.P
open Go Go.Proofs.YtnhicpkhkaihoaaGreat Go.Proofs.YtnhicpkhkaihoaaGreat.Eng
set_option maxHeartbeats 4000000
set_option linter.unusedVariables false
set_option linter.unusedSimpArgs false
attribute [local irreducible] prP gP gE gF AG ixW ldc ldg ldl stc stg scW mkW apW BB cl2 BY FT DG
variable {w0:World}
def VL (k:Int) (o:An):An:=⟨k,k+1,marks (k+1+1) o.freed.length⟩
def JD (o:An):Int:=2+(o.freed.length:Int)
theorem Q8 (o:An):0≤JD o:=by unfold JD;omega
theorem iQ {cur:List An} {i:Nat} {y:An} {v:Int} {K:List T→Prop} (hi:i<cur.length) (h:K (tR tA (cur.set i {y with code:=v}))):stc (tR tA (cur.set i y)) [] (AA (iv i)*3) (I v) K:=UL hi rfl rfl h
theorem kB {cur:List An} {i:Nat} {y:An} {v:Int} {K:List T→Prop} (hi:i<cur.length) (h:K (tR tA (cur.set i {y with val:=v}))):stc (tR tA (cur.set i y)) [] (AA (iv i)*3+1) (I v) K:=J3 hi (by decide) rfl rfl h
theorem dQ {cur:List An} {i:Nat} {y:An} {m:List Int} (hi:i<cur.length):IJ (tR tA (cur.set i y)) [AA (iv i)*3+2] (tI m)=tR tA (cur.set i {y with freed:=m}):=gX hi (by decide) rfl rfl
theorem eM {cur:List An} {i:Nat} {y:An} (hi:i<cur.length):FE (tR tA (cur.set i y)) [AA (iv i)*3+2]=tI y.freed:=jU hi (by decide) rfl
theorem WG {l:List An} {i:Nat} (hi:i<l.length):FE (tR tA l) [AA (iv i)*3+2]=tI l[i].freed:=T8 hi (by decide) rfl
theorem WZ {o:An} {K:J2} (h_freed:(o.freed.length:Int)<2^62) (h:K [.bool true] []):cl2 ⟨Tryz.prog,w0⟩ 113 FI.sg [I o.code,I o.val,I o.code,I o.val] [tI o.freed,tI o.freed] K:=by
 refine FI.cl2 ?_
 unfold FI.txt
 repeat' (first | refine O0 h_freed ?_ | refine BZ (fun h=>h rfl) ?_ | refine BO ?_ | refine B5 ?_ | refine BP ?_)
 exact h
theorem VP {l:List An} {K:J2} (hl:(l.length:Int)<2^62) (hs: ∀o∈l,(o.freed.length:Int)<2^62) (h:K [.bool true] []):cl2 ⟨Tryz.prog,w0⟩ 62 EK.sg [] [tR tA l,tR tA l] K:=by
 refine EK.cl2 ?_
 unfold EK.txt
 simp only [AK,AQ,AN,AP,AS,AE,AI,AU,AL,AV,AT,AM,AR,AO,BF,BM,BL,BI,BK,BJ,BG,A7,A4,A5,A8,A6,A9]
 refine B5 (BZ (fun h=>h rfl) ?_)
 refine AY (fun i=>[iv i]) (fun _=>[]) l.length (fun _=>True) rfl rfl trivial (fun R i hi hP hR=> ?_)
 refine AJ (AW (fun hlt=> ?_) fun hge=> ?_)
 ·have hlt:i<l.length:=by omega
  refine AH hlt (LS hlt rfl rfl (AH hlt (LS hlt rfl rfl ?_)))
  rw [WG hlt]
  refine WZ (hs _ (List.getElem_mem hlt)) ?_
  repeat' (first | refine BO ?_ | refine AX (by omega) ?_ | refine BP ?_)
  exact hR hlt trivial
 ·exact h
theorem TJ {k:Int} {l:List An} {K:J2} (hl:(l.length:Int)<2^60) (hk:0≤k) (hb:k+szL JD l<2^60) (h:K [I (k+szL JD l)] [tR tA (mkL VL JD k l)]):cl2 ⟨Tryz.prog,w0⟩ 66 DK.sg [I k] [tR tA l] K:=by
 refine DK.cl2 ?_
 unfold DK.txt
 refine AY (fun i=>[I (k+szL JD (l.take i)),iv i]) (fun i=>[tR tA (mid VL JD k l i)]) l.length (fun _=>True) (by simp [szL,QY]) (by rw [nY]) trivial (fun R i hi hP hR=> ?_)
 simp only [AK,AQ,AN,AP,AS,AE,AI,AU,AL,AV,AT,AM,AR,AO,BF,BM,BL,BI,BK,BJ,BG,A7,A4,A5,A8,A6,A9]
 rw [N9 hi]
 refine AJ (AW (fun hlt=> ?_) fun hge=> ?_)
 ·have hlt:i<l.length:=by omega
  have hs:=TO Q8 hlt
  have h0:=I1 Q8 (l.take i)
  replace hR:=hR hlt trivial
  rw [L6 hlt, ←XN hlt] at hR
  have hln:=N9 (mk:=VL) (sz:=JD) (k:=k) hi
  have hg:=XQ (mk:=VL) (sz:=JD) (k:=k) hlt (by omega)
  have hsm:=UU (f:=tA) (cur:=mid VL JD k l i) (i:=i) (by omega)
  rw [hg] at hsm
  rw [hsm]
  clear hg hsm
  generalize mid VL JD k l i=cur at hln hR ⊢
  generalize hx:l[i]=o at hR hs ⊢
  generalize szL JD (l.take i)=q at hR hs h0 ⊢
  have hzz:k+(q+JD o)=k+q+1+1+o.freed.length:=by unfold JD;omega
  have hz0:JD o=2+(o.freed.length:Int):=rfl
  rw [hzz] at hR
  repeat' (first | simp only [XV] | refine iQ (by omega) ?_ | refine kB (by omega) ?_ | refine R9 (by omega) (by decide) rfl ?_ | refine MP (by omega) ⟨by omega,by omega⟩ ?_ | simp only [eM (cur:=cur) (i:=i) (by omega),dQ (cur:=cur) (i:=i) (by omega)] | refine AX (by omega) ?_ | refine CC ⟨by omega,by omega⟩ ?_ | refine AH (by omega) ?_ | simp only [AK,AQ,AN,AP,AS,AE,AI,AU,AL,AV,AT,AM,AR,AO,BF,BM,BL,BI,BK,BJ,BG,A7,A4,A5,A8,A6,A9])
  exact hR
 ·have:i=l.length:=by omega
  subst this
  rw [List.take_length,XW];exact h
theorem TH {k:Int} {l:List An} {K:J2} (hl:(l.length:Int)<2^60) (hk:0≤k) (hb:k+szL JD l<2^60) (h:K [I (k+szL JD l)] []):cl2 ⟨Tryz.prog,w0⟩ 68 DM.sg [I k] [tR tA (mkL VL JD k l)] K:=by
 refine DM.cl2 ?_
 unfold DM.txt
 simp only [AK,AQ,AN,AP,AS,AE,AI,AU,AL,AV,AT,AM,AR,AO,BF,BM,BL,BI,BK,BJ,BG,A7,A4,A5,A8,A6,A9]
 rw [LB]
 refine AY (fun i=>[I (k+szL JD (l.take i)),iv i]) (fun _=>[]) l.length (fun _=>True) (by simp [szL,QY]) rfl trivial (fun R i hi hP hR=> ?_)
 refine AJ (AW (fun hlt=> ?_) fun hge=> ?_)
 ·have hlt:i<l.length:=by omega
  have hs:=TO Q8 hlt
  have h0:=I1 Q8 (l.take i)
  replace hR:=hR hlt trivial
  rw [L6 hlt] at hR
  have hln:=LB (mk:=VL) (sz:=JD) l k
  have hM:=fD (mk:=VL) (sz:=JD) (k:=k) hlt (by omega)
  have hf:=WG (l:=mkL VL JD k l) (i:=i) (by omega)
  rw [hM] at hf
  rw [show (VL (k+szL JD (l.take i)) l[i]).freed=marks (k+szL JD (l.take i)+1+1) l[i].freed.length from rfl] at hf
  generalize hx:l[i]=o at hR hs hM hf ⊢
  generalize szL JD (l.take i)=q at hR hs h0 hM hf ⊢
  have hzz:k+(q+JD o)=k+q+1+1+o.freed.length:=by unfold JD;omega
  have hz0:JD o=2+(o.freed.length:Int):=rfl
  rw [hzz] at hR
  repeat' (first | rw [hf] | refine OW (by omega) (by decide) (by rw [hM];rfl) ?_ | refine MQ (by omega) ⟨by omega,by omega⟩ ?_ | refine QC (by omega) (by rw [hM];rfl) ?_ | refine QD (by omega) (by decide) (by rw [hM];rfl) ?_ | refine BZ (fun h=>h rfl) ?_ | refine BZ (by first | with_reducible assumption | omega) ?_ | refine AJ ?_ | refine B5 ?_ | refine AX (by omega) ?_ | refine CC ⟨by omega,by omega⟩ ?_ | refine AH (by omega) ?_ | simp only [AK,AQ,AN,AP,AS,AE,AI,AU,AL,AV,AT,AM,AR,AO,BF,BM,BL,BI,BK,BJ,BG,A7,A4,A5,A8,A6,A9])
  exact hR
 ·have:i=l.length:=by omega
  subst this
  rw [List.take_length];exact h
end Go.Proofs.YtnhicpkhkaihoaaGreat.P
