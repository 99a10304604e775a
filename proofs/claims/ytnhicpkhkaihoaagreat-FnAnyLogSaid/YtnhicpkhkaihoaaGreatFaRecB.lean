/- A part of the proof. -/
import Derived.Test.YtnhicpkhkaihoaaGreatFaRecA
namespace Go.Proofs.YtnhicpkhkaihoaaGreat.P
open Go Go.Proofs.YtnhicpkhkaihoaaGreat Go.Proofs.YtnhicpkhkaihoaaGreat.Eng
set_option linter.unusedVariables false
set_option maxHeartbeats 4000000
set_option linter.unusedVariables false
set_option linter.unusedSimpArgs false
attribute [local irreducible] prP gP gE gF AU ixW ldc ldg ldl stc stg scW mkW apW BG cl2 BX GP CZ
variable {w0:World}
theorem Ao (o:An):tv (nxT (tA o) 0)=I o.code:=rfl
theorem Av (o:An):tv (nxT (tA o) 1)=I o.val:=rfl
theorem kZ {d:List Op5×List An×Int} {i:Nat} (h:agr d.1 d.2.1 i=i) (hne:(JL (DG d.1 i).1 (po d.1 i)).2≠an d.2.1 i) (hlt:i<d.1.length):OS d=⟨3,i,(DG d.1 i).1,d.1.take i,(DG d.1 i).2⟩:=by
 unfold OS
 rw [xW h hne hlt,if_neg (by omega)]
theorem iX {d:List Op5×List An×Int} (h:agr d.1 d.2.1 d.1.length=d.1.length):OS d=⟨d.2.2,d.1.length,(DG d.1 d.1.length).1,d.1.take d.1.length,(DG d.1 d.1.length).2⟩:=by
 unfold OS
 rw [h,if_pos rfl]
theorem lQ {ops:List Op5} {ans:List An} {i:Nat} (h:agr ops ans i=i) (he:(JL (DG ops i).1 (po ops i)).2=an ans i):agr ops ans (i+1)=i+1:=by rw [agr,if_pos ⟨h,he⟩]
theorem cS {s:ByteArray} {K:J2} (hs:(s.size:Int)<2^30) (h:K [I (OS (decode s)).code,iv (OS (decode s)).n] (trees (OS (decode s)).hp++[tR tP (OS (decode s)).ops,tR tA (OS (decode s)).ans])):cl2 ⟨Tryz.prog,w0⟩ 15 JM.sg [.string s] [] K:=by
 refine JM.cl2 (UA hs (bY (BS ?_)))
 obtain ⟨d1,d2,d3⟩:=US s
 have hb:=W4 s
 generalize decode s=d at h d1 d2 d3 hb ⊢
 simp only [AK,AS,AJ,AI,AM,AE,AH,AN,AO,AP,AL,AR,AT,AQ,BB,BE,BI,BH,BK,BJ,BF,AX,A4,AY,A1,AZ,A5]
 refine A9 (fun i=>[iv d.1.length,iv i,I 0,I 0,I d.2.2,iv i]) (fun i=>[tR tA d.2.1,tR tP d.1,tR tO (DG d.1 i).1.BD,tR tW (DG d.1 i).1.B8,tI (DG d.1 i).1.buffer,tS (DG d.1 i).1.sites,tR tP (d.1.take i),tR tA (DG d.1 i).2]) d.1.length (fun i=>agr d.1 d.2.1 i=i) rfl rfl rfl (fun R i hi hP hR=> ?_)
 obtain ⟨ok,pl⟩:=ND d.1 i
 simp only [AK,AS,AJ,AI,AM,AE,AH,AN,AO,AP,AL,AR,AT,AQ,BB,BE,BI,BH,BK,BJ,BF,AX,A4,AY,A1,AZ,A5]
 refine AV (AG (fun hlt=> ?_) fun hge=> ?_)
 ·have hlt:i<d.1.length:=by omega
  have hof:OpF (po d.1 i):=by rw [←dO hlt];exact d1 _ (List.getElem_mem hlt)
  refine AW hlt (WW hlt ?_)
  simp only [pB,qW,qX,qV,oD]
  refine fA ok.fits ok.iJ hof.a hof.c ?_
  rw [QC ok]
  refine AW (by omega) (iN (by omega) ?_)
  simp only [Ao,Av]
  simp only [AK,AS,AJ,AI,AM,AE,AH,AN,AO,AP,AL,AR,AT,AQ,BB,BE,BI,BH,BK,BJ,BF,AX,A4,AY,A1,AZ,A5]
  rw [fR (by omega)]
  have fr:=(ZB (ok.st ok.iJ) hof.c).fr
  refine V4 (a:=(JL (DG d.1 i).1 (po d.1 i)).2) (b:=an d.2.1 i) (by omega) (CP (AG (fun hne=> ?_) fun heq=> ?_))
  ·rw [kZ hP hne hlt] at h
   exact h
  ·have heq:=Classical.not_not.1 heq
   have hn:=hR hlt (lQ hP heq)
   refine A6 (by omega) (DP rfl (by show (cnt 5 (tR tP (List.take i d.1))+1)*48≤2^47;rw [AJ,List.length_take];omega) (X2 (by show (cnt 3 (tR tA (DG d.1 i).2)+1)*40≤2^47;rw [AI];omega) (A6 (by omega) ?_)))
   rw [oF hlt] at hn
   simp only [DG] at hn
   rw [←V7, ←VQ] at hn
   exact hn
 ·have:i=d.1.length:=by omega
  subst this
  rw [iX hP] at h
  exact h
theorem cV {s:ByteArray} {K:J2} (hs:(s.size:Int)<2^30) (h:K [I (OS (decode s)).code,iv (OS (decode s)).n] (trees (OS (decode s)).hp++[tR tP (OS (decode s)).ops,tR tA (OS (decode s)).ans])):cl2 ⟨Tryz.prog,w0⟩ 20 JN.sg [.string s] [] K:=by
 refine JN.cl2 (UJ hs (OT ?_))
 obtain ⟨d1,d2,d3⟩:=US s
 have hb:=W4 s
 generalize decode s=d at h d1 d2 d3 hb ⊢
 simp only [AK,AS,AJ,AI,AM,AE,AH,AN,AO,AP,AL,AR,AT,AQ,BB,BE,BI,BH,BK,BJ,BF,AX,A4,AY,A1,AZ,A5]
 refine A9 (fun i=>[iv i,I 0,I 0,I d.2.2,iv i]) (fun i=>[tR tP d.1,tR tA d.2.1,tR tO (DG d.1 i).1.BD,tR tW (DG d.1 i).1.B8,tI (DG d.1 i).1.buffer,tS (DG d.1 i).1.sites,tR tP (d.1.take i),tR tA (DG d.1 i).2]) d.1.length (fun i=>agr d.1 d.2.1 i=i) rfl rfl rfl (fun R i hi hP hR=> ?_)
 obtain ⟨ok,pl⟩:=ND d.1 i
 simp only [AK,AS,AJ,AI,AM,AE,AH,AN,AO,AP,AL,AR,AT,AQ,BB,BE,BI,BH,BK,BJ,BF,AX,A4,AY,A1,AZ,A5]
 refine AV (AG (fun hlt=> ?_) fun hge=> ?_)
 ·have hlt:i<d.1.length:=by omega
  have hof:OpF (po d.1 i):=by rw [←dO hlt];exact d1 _ (List.getElem_mem hlt)
  refine AW hlt (WW hlt ?_)
  simp only [pB,qW,qX,qV,oD]
  refine Q1 ok.fits ok.iJ hof.a hof.c ?_
  rw [QC ok]
  refine AW (by omega) (iN (by omega) ?_)
  simp only [Ao,Av]
  simp only [AK,AS,AJ,AI,AM,AE,AH,AN,AO,AP,AL,AR,AT,AQ,BB,BE,BI,BH,BK,BJ,BF,AX,A4,AY,A1,AZ,A5]
  rw [fR (by omega)]
  have fr:=(ZB (ok.st ok.iJ) hof.c).fr
  refine VF (a:=(JL (DG d.1 i).1 (po d.1 i)).2) (b:=an d.2.1 i) (by omega) (CP (AG (fun hne=> ?_) fun heq=> ?_))
  ·rw [kZ hP hne hlt] at h
   exact h
  ·have heq:=Classical.not_not.1 heq
   have hn:=hR hlt (lQ hP heq)
   refine AW hlt (WW hlt ?_)
   simp only [pB,qW,qX,qV,oD]
   refine DP rfl (by show (cnt 5 (tR tP (List.take i d.1))+1)*48≤2^47;rw [AJ,List.length_take];omega) (X2 (by show (cnt 3 (tR tA (DG d.1 i).2)+1)*40≤2^47;rw [AI];omega) (A6 (by omega) (A6 (by omega) ?_)))
   rw [oF hlt] at hn
   simp only [DG] at hn
   rw [←V7, ←VQ] at hn
   exact hn
 ·have:i=d.1.length:=by omega
  subst this
  rw [iX hP] at h
  exact h
end Go.Proofs.YtnhicpkhkaihoaaGreat.P
