/- A part of the proof. -/
import Derived.Test.YtklmcfpgdfibnaaReGrB
namespace Go.Proofs.Ytklmcfpgdfibnaa.P
open Go Go.Proofs.Ytklmcfpgdfibnaa Go.Proofs.Ytklmcfpgdfibnaa.Eng
set_option linter.unusedVariables false
set_option maxHeartbeats 4000000
set_option linter.unusedVariables false
set_option linter.unusedSimpArgs false
attribute [local irreducible] prP gP gE gF AY ixW ldc ldg ldl stc stg scW mkW apW BD cl2 BQ CZ B9
variable {w0:World}
theorem R6 {a:List Nd} {b c:List T} {K:J2} (ha:a.length=8) (hf: ∀i,i<8→(nd a i).field.length≤1000∧ ∀f∈(nd a i).field,F64 f) (h:K [] [tI (XB (grQ a))]):cl2 ⟨Try.prog,w0⟩ 73 DK.sg [] [tR tN a,b,c] K:=by
 have hol:(osN a).length=8:=by simpa using ha
 refine DK.cl2 ?_
 unfold DK.txt
 simp only [AJ,AN,AQ,AR,AK,AE,AL,AI,AS,AP,AU,AT,AM,AO,BJ,BP,BM,BN,BO,BS,BL,A4,A5,A9,A8,BA,A7]
 refine pX (by omega) ?_
 rw [AV,oX,ha, ←oQ]
 refine BF (fun i=>[iv 8,iv i]) (fun i=>[tBo (qB (JW (osN a) i)),tI (slQ (JW (osN a) i))]) 8 (fun _=>True) rfl rfl trivial (fun R i hi _ hR=> ?_)
 have qi:=Z5 hol i hi
 have ql:=qi.len
 have sl:(slQ (JW (osN a) i)).length=(JW (osN a) i).length:=by simp
 simp only [AJ,AN,AQ,AR,AK,AE,AL,AI,AS,AP,AU,AT,AM,AO,BJ,BP,BM,BN,BO,BS,BL,A4,A5,A9,A8,BA,A7]
 try simp only [KV,OB]
 refine A6 (AW (fun hlt=>BT ?_) fun hge=> ?_)
 ·have hlt:i<8:=by omega
  have hla:i<a.length:=by omega
  have hR:=hR hlt trivial
  have eo:=Q8 (l:=a) hla
  have ex:JW (osN a) (i+1)=JW (osN a) i++if (ob (osN a) i).live=true∧w64 ((ob (osN a) i).holds+(ob (osN a) i).roots)>0 then [((i:Int),(-1:Int))] else []:=rfl
  rw [eo] at ex
  have e1:(toO (nd a i)).live=(nd a i).live:=rfl
  have e2:(toO (nd a i)).holds=(nd a i).holds:=rfl
  have e3:(toO (nd a i)).roots=(nd a i).roots:=rfl
  rw [e1,e2,e3] at ex
  refine AH (by omega) (qE hla ?_)
  have t0:tv (nxT (tN (nd a i)) 0)= .bool (nd a i).live:=rfl
  have t3:tv (nxT (tN (nd a i)) 3)=I (nd a i).holds:=rfl
  have t4:tv (nxT (tN (nd a i)) 4)=I (nd a i).roots:=rfl
  rw [t0]
  simp only [t3,t4]
  cases hv:(nd a i).live with
  | false=>
    rw [if_neg (by rw [hv];simp),List.append_nil] at ex
    rw [ex] at hR
    exact BC (BC (BC (BC (FY (FY (SP rfl (B6 (BB (by omega) hR))))))))
  | true=>
    refine BC (BC (BC (BC (GP (GS (GP (H0 (OU rfl (AW (fun hc=> ?_) fun hc=> ?_)))))))))
    ·rw [if_pos ⟨hv,hc⟩] at ex
     rw [ex] at hR
     refine AH (by omega) (hU (p:= -1) (by omega) (DH rfl (by omega) (BB (by omega) ?_)))
     have es:tI (slQ (JW (osN a) i))++[T.c (I (i:Int))]=tI (slQ (JW (osN a) i++[((i:Int),(-1:Int))])):=by rw [CU];simp [slQ]
     rw [←es] at hR
     exact hR
    ·rw [if_neg (fun hh=>hc hh.2),List.append_nil] at ex
     rw [ex] at hR
     exact BB (by omega) hR
 have:i=8:=by omega
 subst this
 clear hR R
 unfold grQ at h
 obtain ⟨q0,eq0⟩: ∃q,JW (osN a) 8=q:=⟨_,rfl⟩
 rw [eq0] at qi ql sl h ⊢
 refine D6 (α:=Nat×Que×List Int×Nat) (fun s=>[iv (s.2.2.1.length-s.2.2.2),iv s.2.2.2]) (fun s=>[tBo (qB s.2.1),tI s.2.2.1]) (fun s=>9-s.1) (fun s=>QI (osN a) (-1) s.2.1∧s.1≤s.2.1.length∧s.2.2.1.drop s.2.2.2=(slQ s.2.1).drop s.1∧s.2.2.2≤s.2.2.1.length∧s.2.2.1.length≤8∧ ∃f,8<f+s.1∧J1 (osN a) (-1) f s.1 s.2.1=J1 (osN a) (-1) 9 0 q0) (0,q0,slQ q0,0) rfl rfl ⟨qi,by simp,rfl,Nat.zero_le _,by simp only;omega,9,by simp,rfl⟩ (fun R s hs hR=> ?_)
 obtain ⟨i,q,r,off⟩:=s
 obtain ⟨hq,hiq,hr,hoff,hrl,f,hff,hb⟩:=hs
 simp only at hq hiq hr hoff hrl hff hb
 have ql:=hq.len
 have sl:(slQ q).length=q.length:=by simp
 have hlen:r.length-off=q.length-i:=by
  have:=congrArg List.length hr
  simp only [List.length_drop,sl] at this
  exact this
 simp only [AJ,AN,AQ,AR,AK,AE,AL,AI,AS,AP,AU,AT,AM,AO,BJ,BP,BM,BN,BO,BS,BL,A4,A5,A9,A8,BA,A7]
 simp only [AV,ha]
 refine H0 (BC (BC (BC ?_)))
 by_cases hgt:(((r.length-off:Nat):Int))>0
 ·refine HG hgt (B1 (DX hgt rfl (FR (by decide) ?_)))
  have hlt:i<q.length:=by omega
  obtain ⟨k,ek,k8,kv,_⟩:=hq.lv _ (OZ hlt)
  rw [bO hlt,ek] at hr
  obtain ⟨g1,g2,g3⟩:=jU hr
  have hka:k<a.length:=by omega
  have eo:=Q8 (l:=a) hka
  have efl:(ob (osN a) k).field=(nd a k).field:=by rw [eo];rfl
  obtain ⟨f,rfl⟩: ∃f',f=f'+1:=⟨f-1,by omega⟩
  have hb':=hb
  rw [J1,if_pos hlt,TJ,ek,Int.toNat_natCast,efl] at hb'
  obtain ⟨hfl,hfF⟩:=hf k k8
  refine AH (j:=0) (by omega) ?_
  have eld: ∀{K:Value→Prop},K (I (gI r off))→ldc (tI r) [] (off+AA (iv 0)*1) K:=fun hK=>by
   have:=iN (l:=r) (a:=off) g2 hK
   rwa [AV off] at this
  refine eld (pM (by omega) ?_)
  rw [g1]
  simp only [AV]
  refine AH (by omega) (TF hka ?_)
  rw [Q6 hka]
  try simp only [AE]
  have esub:EF (tR tN a) [AA (iv (AA (iv k)*6+5))]=tI (nd a k).field:=by rw [AV (AA (iv k)*6+5)];exact Q6 hka
  refine D6 (α:=Nat×Que×List Int×Nat) (fun s=>[iv (s.2.2.1.length-s.2.2.2),iv s.2.2.2,iv (AA (iv k)*6+5),iv (nd a k).field.length,iv s.1]) (fun s=>[tBo (qB s.2.1),tI s.2.2.1]) (fun s=>(nd a k).field.length-s.1) (fun s=>s.1≤(nd a k).field.length∧QI (osN a) (-1) s.2.1∧s.2.1=OM (osN a) (-1) q k ((nd a k).field.take s.1)∧s.2.2.1.drop s.2.2.2=(slQ s.2.1).drop (i+1)∧s.2.2.2≤s.2.2.1.length∧s.2.2.1.length≤8∧i+1≤s.2.1.length) (0,q,r,off+1) (by rw [show r.length-off-1=r.length-(off+1) from by omega];simp only [AV];rfl) rfl ⟨Nat.zero_le _,hq,by simp [OM],g3,g2,hrl,by simp only;omega⟩ (fun R2 s hs hR2=> ?_)
  obtain ⟨j,q2,r2,off2⟩:=s
  obtain ⟨hj,hq2,eq2,hr2,hoff2,hrl2,hi2⟩:=hs
  simp only at hj hq2 eq2 hr2 hoff2 hrl2 hi2
  have ql2:=hq2.len
  have sl2:(slQ q2).length=q2.length:=by simp
  have hlen2:r2.length-off2=q2.length-(i+1):=by
   have:=congrArg List.length hr2
   simp only [List.length_drop,sl2] at this
   exact this
  simp only [AJ,AN,AQ,AR,AK,AE,AL,AI,AS,AP,AU,AT,AM,AO,BJ,BP,BM,BN,BO,BS,BL,A4,A5,A9,A8,BA,A7]
  rw [esub]
  try simp only [AE]
  refine A6 (AW (fun hlj=>BT ?_) fun hgj=> ?_)
  ·have hlj:j<(nd a k).field.length:=by omega
   have fid:F64 (gI (nd a k).field j):=hfF _ (DJ hlj)
   have es:OM (osN a) (-1) q k ((nd a k).field.take (j+1))=DZ (-1) q2 k (AB (osN a) (gI (nd a k).field j)):=by
    rw [eq2];unfold OM;exact E9 hlj _ _
   have eldf: ∀{K:Value→Prop},K (I (gI (nd a k).field j))→ldc (tR tN a) [AA (iv (AA (iv k)*6+5))] (AA (iv j)*1) K:=fun hK=>by
    rw [AV (AA (iv k)*6+5)]
    exact eY hka hlj hK
   refine AH hlj (eldf (QE fid (by omega) (I7 (BC (BC ?_)))))
   have stay:DZ (-1) q2 k (AB (osN a) (gI (nd a k).field j))=q2→R2 [iv (r2.length-off2),iv off2,iv (AA (iv k)*6+5),iv (nd a k).field.length,iv (j+1)] [tBo (qB q2),tI r2]:=fun e0=>hR2 (j+1,q2,r2,off2) ⟨hlj,hq2,by rw [es,e0],hr2,hoff2,hrl2,hi2⟩ (by simp only;omega)
   simp only [AV] at stay ⊢
   by_cases hc:AB (osN a) (gI (nd a k).field j)≥0
   ·obtain ⟨m,em⟩: ∃m:Nat,AB (osN a) (gI (nd a k).field j)=(m:Int):=⟨(AB (osN a) (gI (nd a k).field j)).toNat,by omega⟩
    have hlv:=P5 hc
    rw [em] at hc hlv es stay ⊢
    rw [Int.toNat_natCast] at hlv
    have m8:=hlv.1
    refine HG hc (AH (by rw [KV,OB];exact m8) (HG hc (iK m8 ?_)))
    by_cases hm:inQ q2 (m:Int)
    ·rw [decide_eq_true hm]
     exact HG hc (CC (DX hc rfl (B6 (BB (by omega) (stay (by unfold DZ;rw [if_pos (.inr (.inr hm))]))))))
    ·rw [decide_eq_false hm]
     have e1:DZ (-1) q2 k (m:Int)=q2++[((m:Int),(k:Int))]:=by
      unfold DZ
      rw [if_neg]
      simp only [not_or]
      exact ⟨by omega,by omega,hm⟩
     refine HG hc (CC (DX hc rfl (CG (AH (by rw [KV,OB];exact m8) (hU (p:=(k:Int)) m8 (DH rfl (by first | omega | (rw [AI];omega)) (BB (by omega) ?_)))))))
     have e2:=cR (l:=r2) (off:=off2)
     simp only [AV] at e2
     rw [e2]
     have e3:tI (r2.drop off2)++[T.c (I (m:Int))]=tI (r2.drop off2++[(m:Int)]):=CU _ _
     simp only [BJ,BP,BM,BN,BO,A4,A5,AV]
     rw [e3,AE]
     have hq3:QI (osN a) (-1) (q2++[((m:Int),(k:Int))]):=by
      rw [←e1]
      exact hq2.add fun _=>⟨by simpa using m8,by simpa using hlv.2⟩
     have ql3:=hq3.len
     rw [List.length_append,List.length_singleton] at ql3
     have hdl:(r2.drop off2).length=r2.length-off2:=List.length_drop
     have key:=hR2 (j+1,q2++[((m:Int),(k:Int))],r2.drop off2++[(m:Int)],0) ⟨hlj,hq3,by rw [es,e1],dM hr2 hi2,Nat.zero_le _,by simp only [List.length_append,List.length_singleton,hdl];omega,by simp only [List.length_append,List.length_singleton];omega⟩ (by simp only;omega)
     simp only [AV] at key
     exact key
   ·exact JG hc (JG hc (JG hc (EH hc rfl (B6 (BB (by omega) (stay (by unfold DZ;rw [if_pos (.inl (by omega))])))))))
  ·have:j=(nd a k).field.length:=by omega
   subst this
   rw [List.take_length] at eq2
   have key:=hR (i+1,q2,r2,off2) ⟨hq2,hi2,hr2,hoff2,hrl2,f,by simp only;omega,by rw [eq2];exact hb'⟩ (by simp only;omega)
   simp only [AV] at key ⊢
   exact key
 ·refine JG hgt (EH hgt rfl (B6 ?_))
  have hiq2:i=q.length:=by omega
  have hfin:J1 (osN a) (-1) 9 0 q0=q:=by
   rw [←hb]
   cases f with
   | zero=>rfl
   | succ f=>rw [J1,if_neg (by omega)]
  rw [hfin] at h
  try simp only [KV,OB]
  refine BF (fun i=>[iv 8,iv i]) (fun i=>[tI (pick (fun i=>if inQ q (i:Int) then [(i:Int)] else []) i),tBo (qB q)]) 8 (fun _=>True) rfl rfl trivial (fun R i hi _ hR=> ?_)
  have pl:(pick (fun i=>if inQ q (i:Int) then [(i:Int)] else []) i).length≤i:=FU (fun i=>by split <;> simp) i
  simp only [AJ,AN,AQ,AR,AK,AE,AL,AI,AS,AP,AU,AT,AM,AO,BJ,BP,BM,BN,BO,BS,BL,A4,A5,A9,A8,BA,A7]
  try simp only [KV,OB]
  refine A6 (AW (fun hlt=>BT ?_) fun hge=> ?_)
  ·have hlt:i<8:=by omega
   have hR:=hR hlt trivial
   refine AH hlt (iK hlt (AW (fun hm=> ?_) fun hm=> ?_))
   ·rw [pick,if_pos hm, ←CU] at hR
    exact DH rfl (by first | omega | (simp only [AJ,AN,AQ,AR,AK,AE,AL,AI,AS,AP,AU,AT,AM,AO,BJ,BP,BM,BN,BO,BS,BL,A4,A5,A9,A8,BA,A7];omega)) (BB (by omega) hR)
   ·rw [pick,if_neg hm,List.append_nil] at hR
    exact BB (by omega) hR
  ·have:i=8:=by omega
   subst this
   exact h
end Go.Proofs.Ytklmcfpgdfibnaa.P
