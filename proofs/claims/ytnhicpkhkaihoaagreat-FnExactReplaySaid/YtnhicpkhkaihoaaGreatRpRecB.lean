/- A part of the proof. -/
import Derived.Test.YtnhicpkhkaihoaaGreatRpRecA
namespace Go.Proofs.YtnhicpkhkaihoaaGreat.P
open Go Go.Proofs.YtnhicpkhkaihoaaGreat Go.Proofs.YtnhicpkhkaihoaaGreat.Eng
set_option linter.unusedVariables false
set_option maxHeartbeats 4000000
set_option linter.unusedVariables false
set_option linter.unusedSimpArgs false
attribute [local irreducible] prP gP gE gF AG ixW ldc ldg ldl stc stg scW mkW apW BA cl2 B6 G8 C3
variable {w0:World}
theorem zF (o:An):tv (nxT (tA o) 0)=I o.code:=rfl
theorem y9 (o:An):tv (nxT (tA o) 1)=I o.val:=rfl
theorem l9 {d:List Op5×List An×Int} {i:Nat} (h:agr d.1 d.2.1 i=i) (hne:(KD (FJ d.1 i).1 (po d.1 i)).2≠an d.2.1 i) (hlt:i<d.1.length):PC d=⟨3,i,(FJ d.1 i).1,d.1.take i,(FJ d.1 i).2⟩:=by
 unfold PC
 rw [xF h hne hlt,if_neg (by omega)]
theorem kY {d:List Op5×List An×Int} (h:agr d.1 d.2.1 d.1.length=d.1.length):PC d=⟨d.2.2,d.1.length,(FJ d.1 d.1.length).1,d.1.take d.1.length,(FJ d.1 d.1.length).2⟩:=by
 unfold PC
 rw [h,if_pos rfl]
theorem mA {ops:List Op5} {ans:List An} {i:Nat} (h:agr ops ans i=i) (he:(KD (FJ ops i).1 (po ops i)).2=an ans i):agr ops ans (i+1)=i+1:=by rw [agr,if_pos ⟨h,he⟩]
theorem dV {s:ByteArray} {K:J2} (hs:(s.size:Int)<2^30) (h:K [I (PC (decode s)).code,iv (PC (decode s)).n] (trees (PC (decode s)).hp++[tR tP (PC (decode s)).ops,tR tA (PC (decode s)).ans])):cl2 ⟨Tryz.prog,w0⟩ 15 IW.sg [.string s] [] K:=by
 refine IW.cl2 (cZ hs (aN (B4 ?_)))
 obtain ⟨d1,d2,d3⟩:=US s
 have hb:=W7 s
 generalize decode s=d at h d1 d2 d3 hb ⊢
 simp only [AM,AT,AL,AK,AN,AE,AI,AV,AU,AS,AP,AQ,AO,AR,BD,BE,BH,BG,BJ,BL,BF,AZ,A6,A1,AY,A5,A4]
 refine A7 (fun i=>[iv d.1.length,iv i,I 0,I 0,I d.2.2,iv i]) (fun i=>[tR tA d.2.1,tR tP d.1,tR tO (FJ d.1 i).1.BC,tR tW (FJ d.1 i).1.B8,tI (FJ d.1 i).1.buffer,tS (FJ d.1 i).1.sites,tR tP (d.1.take i),tR tA (FJ d.1 i).2]) d.1.length (fun i=>agr d.1 d.2.1 i=i) rfl rfl rfl (fun R i hi hP hR=> ?_)
 obtain ⟨ok,pl⟩:=OS d.1 i
 simp only [AM,AT,AL,AK,AN,AE,AI,AV,AU,AS,AP,AQ,AO,AR,BD,BE,BH,BG,BJ,BL,BF,AZ,A6,A1,AY,A5,A4]
 refine AJ (AH (fun hlt=> ?_) fun hge=> ?_)
 ·have hlt:i<d.1.length:=by omega
  have hof:OpF (po d.1 i):=by rw [←l6 hlt];exact d1 _ (List.getElem_mem hlt)
  refine AW hlt (nQ hlt ?_)
  simp only [uN,wM,wG,wC,vI]
  refine jF ok.fits ok.rT hof.a hof.c ?_
  rw [U8 ok]
  refine AW (by omega) (sY (by omega) ?_)
  simp only [zF,y9]
  simp only [AM,AT,AL,AK,AN,AE,AI,AV,AU,AS,AP,AQ,AO,AR,BD,BE,BH,BG,BJ,BL,BF,AZ,A6,A1,AY,A5,A4]
  rw [tG (by omega)]
  have fr:=(Z0 (ok.st ok.rT) hof.c).fr
  refine VP (a:=(KD (FJ d.1 i).1 (po d.1 i)).2) (b:=an d.2.1 i) (by omega) (CF (AH (fun hne=> ?_) fun heq=> ?_))
  ·rw [l9 hP hne hlt] at h
   exact h
  ·have heq:=Classical.not_not.1 heq
   have hn:=hR hlt (mA hP heq)
   refine AX (by omega) (D8 rfl (by show (cnt 5 (tR tP (List.take i d.1))+1)*48≤2^47;rw [AL,List.length_take];omega) (bI (by show (cnt 3 (tR tA (FJ d.1 i).2)+1)*40≤2^47;rw [AK];omega) (AX (by omega) ?_)))
   rw [qB hlt] at hn
   simp only [FJ] at hn
   rw [←Y7, ←ZN] at hn
   exact hn
 ·have:i=d.1.length:=by omega
  subst this
  rw [kY hP] at h
  exact h
theorem dW {s:ByteArray} {K:J2} (hs:(s.size:Int)<2^30) (h:K [I (PC (decode s)).code,iv (PC (decode s)).n] (trees (PC (decode s)).hp++[tR tP (PC (decode s)).ops,tR tA (PC (decode s)).ans])):cl2 ⟨Tryz.prog,w0⟩ 20 JV.sg [.string s] [] K:=by
 refine JV.cl2 (dN hs (aO ?_))
 obtain ⟨d1,d2,d3⟩:=US s
 have hb:=W7 s
 generalize decode s=d at h d1 d2 d3 hb ⊢
 simp only [AM,AT,AL,AK,AN,AE,AI,AV,AU,AS,AP,AQ,AO,AR,BD,BE,BH,BG,BJ,BL,BF,AZ,A6,A1,AY,A5,A4]
 refine A7 (fun i=>[iv i,I 0,I 0,I d.2.2,iv i]) (fun i=>[tR tP d.1,tR tA d.2.1,tR tO (FJ d.1 i).1.BC,tR tW (FJ d.1 i).1.B8,tI (FJ d.1 i).1.buffer,tS (FJ d.1 i).1.sites,tR tP (d.1.take i),tR tA (FJ d.1 i).2]) d.1.length (fun i=>agr d.1 d.2.1 i=i) rfl rfl rfl (fun R i hi hP hR=> ?_)
 obtain ⟨ok,pl⟩:=OS d.1 i
 simp only [AM,AT,AL,AK,AN,AE,AI,AV,AU,AS,AP,AQ,AO,AR,BD,BE,BH,BG,BJ,BL,BF,AZ,A6,A1,AY,A5,A4]
 refine AJ (AH (fun hlt=> ?_) fun hge=> ?_)
 ·have hlt:i<d.1.length:=by omega
  have hof:OpF (po d.1 i):=by rw [←l6 hlt];exact d1 _ (List.getElem_mem hlt)
  refine AW hlt (nQ hlt ?_)
  simp only [uN,wM,wG,wC,vI]
  refine iH ok.fits ok.rT hof.a hof.c ?_
  rw [U8 ok]
  refine AW (by omega) (sY (by omega) ?_)
  simp only [zF,y9]
  simp only [AM,AT,AL,AK,AN,AE,AI,AV,AU,AS,AP,AQ,AO,AR,BD,BE,BH,BG,BJ,BL,BF,AZ,A6,A1,AY,A5,A4]
  rw [tG (by omega)]
  have fr:=(Z0 (ok.st ok.rT) hof.c).fr
  refine WM (a:=(KD (FJ d.1 i).1 (po d.1 i)).2) (b:=an d.2.1 i) (by omega) (CF (AH (fun hne=> ?_) fun heq=> ?_))
  ·rw [l9 hP hne hlt] at h
   exact h
  ·have heq:=Classical.not_not.1 heq
   have hn:=hR hlt (mA hP heq)
   refine AW hlt (nQ hlt ?_)
   simp only [uN,wM,wG,wC,vI]
   refine D8 rfl (by show (cnt 5 (tR tP (List.take i d.1))+1)*48≤2^47;rw [AL,List.length_take];omega) (bI (by show (cnt 3 (tR tA (FJ d.1 i).2)+1)*40≤2^47;rw [AK];omega) (AX (by omega) (AX (by omega) ?_)))
   rw [qB hlt] at hn
   simp only [FJ] at hn
   rw [←Y7, ←ZN] at hn
   exact hn
 ·have:i=d.1.length:=by omega
  subst this
  rw [kY hP] at h
  exact h
end Go.Proofs.YtnhicpkhkaihoaaGreat.P
