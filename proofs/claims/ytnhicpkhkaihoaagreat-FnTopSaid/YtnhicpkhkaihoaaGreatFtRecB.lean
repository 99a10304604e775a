/- A part of the proof. -/
import Derived.Test.YtnhicpkhkaihoaaGreatFtRecA
namespace Go.Proofs.YtnhicpkhkaihoaaGreat.P
open Go Go.Proofs.YtnhicpkhkaihoaaGreat Go.Proofs.YtnhicpkhkaihoaaGreat.Eng
set_option linter.unusedVariables false
set_option maxHeartbeats 4000000
set_option linter.unusedVariables false
set_option linter.unusedSimpArgs false
attribute [local irreducible] prP gP gE gF AV ixW ldc ldg ldl stc stg scW mkW apW BC cl2 BW F6 C2
variable {w0:World}
theorem zX (o:An):tv (nxT (tA o) 0)=I o.code:=rfl
theorem zO (o:An):tv (nxT (tA o) 1)=I o.val:=rfl
theorem sH {d:List Op5×List An×Int} {i:Nat} (h:agr d.1 d.2.1 i=i) (hne:(H6 (CD d.1 i).1 (po d.1 i)).2≠an d.2.1 i) (hlt:i<d.1.length):Y9 d=⟨3,i,(CD d.1 i).1,d.1.take i,(CD d.1 i).2⟩:=by
 unfold Y9
 rw [yD h hne hlt,if_neg (by omega)]
theorem jX {d:List Op5×List An×Int} (h:agr d.1 d.2.1 d.1.length=d.1.length):Y9 d=⟨d.2.2,d.1.length,(CD d.1 d.1.length).1,d.1.take d.1.length,(CD d.1 d.1.length).2⟩:=by
 unfold Y9
 rw [h,if_pos rfl]
theorem j5 {ops:List Op5} {ans:List An} {i:Nat} (h:agr ops ans i=i) (he:(H6 (CD ops i).1 (po ops i)).2=an ans i):agr ops ans (i+1)=i+1:=by rw [agr,if_pos ⟨h,he⟩]
theorem bU {s:ByteArray} {K:J2} (hs:(s.size:Int)<2^30) (h:K [I (Y9 (decode s)).code,iv (Y9 (decode s)).n] (trees (Y9 (decode s)).hp++[tR tP (Y9 (decode s)).ops,tR tA (Y9 (decode s)).ans])):cl2 ⟨Tryz.prog,w0⟩ 15 I3.sg [.string s] [] K:=by
 refine I3.cl2 (T5 hs (R9 (BS ?_)))
 obtain ⟨d1,d2,d3⟩:=l8 s
 have hb:=p9 s
 generalize decode s=d at h d1 d2 d3 hb ⊢
 simp only [AI,AL,AH,AJ,AM,AE,AG,AR,AP,AN,AQ,AO,AS,AK,BD,BF,BI,BJ,BH,BG,BE,A1,AZ,AY,AX,A4,A5]
 refine A8 (fun i=>[iv d.1.length,iv i,I 0,I 0,I d.2.2,iv i]) (fun i=>[tR tA d.2.1,tR tP d.1,tR tO (CD d.1 i).1.BA,tR tW (CD d.1 i).1.B7,tI (CD d.1 i).1.buffer,tS (CD d.1 i).1.sites,tR tP (d.1.take i),tR tA (CD d.1 i).2]) d.1.length (fun i=>agr d.1 d.2.1 i=i) rfl rfl rfl (fun R i hi hP hR=> ?_)
 obtain ⟨ok,pl⟩:=JL d.1 i
 simp only [AI,AL,AH,AJ,AM,AE,AG,AR,AP,AN,AQ,AO,AS,AK,BD,BF,BI,BJ,BH,BG,BE,A1,AZ,AY,AX,A4,A5]
 refine AW (AT (fun hlt=> ?_) fun hge=> ?_)
 ·have hlt:i<d.1.length:=by omega
  have hof:OpF (po d.1 i):=by rw [←dL hlt];exact d1 _ (List.getElem_mem hlt)
  refine AU hlt (RY hlt ?_)
  simp only [jM,hU,hS,gV,iO]
  refine dV ok.fits ok.m4 hof.a hof.c ?_
  rw [RP ok]
  refine AU (by omega) (aK (by omega) ?_)
  simp only [zX,zO]
  simp only [AI,AL,AH,AJ,AM,AE,AG,AR,AP,AN,AQ,AO,AS,AK,BD,BF,BI,BJ,BH,BG,BE,A1,AZ,AY,AX,A4,A5]
  rw [fX (by omega)]
  have fr:=(kO (ok.st ok.m4) hof.c).fr
  refine VA (a:=(H6 (CD d.1 i).1 (po d.1 i)).2) (b:=an d.2.1 i) (by omega) (CP (AT (fun hne=> ?_) fun heq=> ?_))
  ·rw [sH hP hne hlt] at h
   exact h
  ·have heq:=Classical.not_not.1 heq
   have hn:=hR hlt (j5 hP heq)
   refine A6 (by omega) (EB rfl (by show (cnt 5 (tR tP (List.take i d.1))+1)*48≤2^47;rw [AH,List.length_take];omega) (Y8 (by show (cnt 3 (tR tA (CD d.1 i).2)+1)*40≤2^47;rw [AJ];omega) (A6 (by omega) ?_)))
   rw [oG hlt] at hn
   simp only [CD] at hn
   rw [←YI, ←YK] at hn
   exact hn
 ·have:i=d.1.length:=by omega
  subst this
  rw [jX hP] at h
  exact h
end Go.Proofs.YtnhicpkhkaihoaaGreat.P
