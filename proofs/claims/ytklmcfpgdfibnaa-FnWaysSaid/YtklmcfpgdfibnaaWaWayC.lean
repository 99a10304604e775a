/- A part of the proof. -/
import Derived.Test.YtklmcfpgdfibnaaWaWayB
namespace Go.Proofs.Ytklmcfpgdfibnaa.P
open Go Go.Proofs.Ytklmcfpgdfibnaa Go.Proofs.Ytklmcfpgdfibnaa.Eng
set_option linter.unusedVariables false
theorem vO {b n:Nat} {K:Value→Prop} (hb:b*n≤2^48) (h:K (iv n)):mkW b (iv n) (iv n) K:=⟨n,rfl,rfl,hb,h⟩
set_option maxHeartbeats 4000000
set_option linter.unusedVariables false
set_option linter.unusedSimpArgs false
attribute [local irreducible] prP gP gE gF AX ixW ldc ldg ldl stc stg scW mkW apW BE cl2 BK C2 CI
variable {w0:World}
theorem dY {x:Hp} {id:Int} {K:J2} (hk:BW x) (fid:F64 id) (h: ∀w:List Int,w.length=(NW x.AB id).length→K [] [tI w]):cl2 ⟨Try.prog,w0⟩ 55 IW.sg [I id] (trees x) K:=by
 have ol:=hk.ol
 have fits:=hk.fits
 refine IW.cl2 ?_
 unfold IW.txt
 try simp only [trees]
 try simp only [AI,AU,AL,AR,AQ,AG,AJ,AK,AO,AP,AN,AT,AS,AM,BH,BP,BS,BM,BQ,BN,BL,A6,A5,A4,A7,A8,A9]
 have p1: ¬(x.AB.length:Int)≠8:=by omega
 refine C8 (BO (BO (DU p1 (BX fid (by omega) (DU p1 (BA (EC p1 rfl (AZ (fun h0=> ?_) fun h0=> ?_))))))))
 ·exact h [] (by unfold NW;rw [if_pos (.inl h0)])
 have el:=R8 x.AB
 have hext:=cD hk
 have hpar:=qK hk
 have hqs:=QB.start x.AB (exts x.AB)
 have hQs:=QP.mO x.AB (exts x.AB)
 have hwhy: ∀w:List Int,(∀W,NW x.AB id=W→w.length=W.length)→K [] [tI w]:=fun w hw=>h w (hw _ rfl)
 have es: ∀v∈exts x.AB,0≤AA x.AB v∧F64 v:=fun v hv=>by
  refine ⟨?_,CB (by have:=YX _ v hv;omega)⟩
  obtain ⟨i,_,i8,iv',_,rfl⟩:=aR.1 hv
  rw [QX hk i8 iv'];omega
 refine I9 fits.ol ?_
 have hbm:HI x.AB (-1) (exts x.AB)=M7 x.AB (-1) 9 0 (CW x.AB (-1) (exts x.AB)):=rfl
 obtain ⟨q0,eq0⟩: ∃q,CW x.AB (-1) (exts x.AB)=q:=⟨_,rfl⟩
 rw [eq0] at hext hpar hqs hQs hbm
 obtain ⟨e,ee⟩: ∃e,exts x.AB=e:=⟨_,rfl⟩
 rw [ee] at el hext hpar hQs hbm es ⊢
 simp only [AI,AU,AL,AR,AQ,AG,AJ,AK,AO,AP,AN,AT,AS,AM,BH,BP,BS,BM,BQ,BN,BL,A6,A5,A4,A7,A8,A9]
 refine BJ (fun i=>[I id,iv i]) (fun i=>[tI (e.take i),tI e]) e.length (fun _=>True) rfl rfl trivial (fun R i hi _ hR=> ?_)
 have fl:(e.take i).length=i:=by rw [List.length_take];omega
 simp only [AI,AU,AL,AR,AQ,AG,AJ,AK,AO,AP,AN,AT,AS,AM,BH,BP,BS,BM,BQ,BN,BL,A6,A5,A4,A7,A8,A9]
 refine BA (AZ (fun hlt=>BY ?_) fun hge=> ?_)
 ·have hlt:i<e.length:=by omega
  have hR:=hR hlt trivial
  have hv:=es _ (C7 hlt)
  refine AH hlt (ldI hlt (BX hv.2 (by omega) (HL (EK hv.1 (AH hlt (ldI hlt (DW rfl (by omega) (BB (by omega) ?_))))))))
  rw [List.take_succ_eq_append_getElem hlt,DB hlt, ←C9] at hR
  exact hR
 have:i=e.length:=by omega
 subst this
 clear hR R fl
 rw [List.take_length]
 refine vO (by omega) ?_
 rw [AW,uH, ←hext]
 refine EJ (α:=Nat×Que×List Int) (fun s=>[I id,iv s.1]) (fun s=>[tI (HA x.AB s.2.1),tI s.2.2]) (fun s=>9-s.1) (fun s=>QB x.AB (-1) s.2.1∧QP x.AB e s.2.1∧W3 s.2.1 s.2.2∧(∀j,j<s.1→j<s.2.1.length→gQ s.2.1 j≠AA x.AB id)∧ ∃f,8<f+s.1∧M7 x.AB (-1) f s.1 s.2.1=HI x.AB (-1) e) (0,q0,List.replicate (HA x.AB q0).length 0) rfl rfl ⟨hqs,hQs,by rw [hext];exact hpar,fun j hj=>by simp at hj,9,by simp,hbm.symm⟩ (fun R s hs hR=> ?_)
 obtain ⟨i,q,F⟩:=s
 obtain ⟨hq,hQ,hF,hno,f,hf,hb⟩:=hs
 simp only at hq hQ hF hno hf hb
 have ql:=hQ.qi.len
 have il:=J7 x.AB q
 have Fl:=hF.1
 simp only [AI,AU,AL,AR,AQ,AG,AJ,AK,AO,AP,AN,AT,AS,AM,BH,BP,BS,BM,BQ,BN,BL,A6,A5,A4,A7,A8,A9]
 refine BA (AZ (fun hlt=> ?_) fun hge=> ?_)
 ·have hlt':i<(HA x.AB q).length:=by omega
  have hlt:i<q.length:=by omega
  obtain ⟨k,ek,k8,kv,_⟩:=hQ.qi.lv _ (J1 hlt)
  have ev:gI (HA x.AB q) i=PN x.AB k:=by rw [RX hlt,ek]
  refine AH hlt' (ldI hlt' (B1 (AZ (fun he=> ?_) fun hne=> ?_)))
  ·
   rw [RX hlt] at he
   have hg:=(XO hq hlt (by omega)).1 he
   obtain ⟨l,hl⟩:=hQ.way q.length i hlt hlt
   obtain ⟨p,rfl⟩:=hl.snoc
   have hgr:KI q (HI x.AB (-1) e):=by rw [←hb];exact (QP.run f i q hQ).2
   have hlen:(NW x.AB id).length=p.length+1:=by
    unfold NW
    rw [ee,if_neg]
    ·have hw:=hl.grow hgr
     rw [←hg, ←hgr.gq hlt,hw.chain (ZJ x.AB e).qi 9 (by omega)]
     simp
    ·simp only [not_or,Classical.not_not]
     refine ⟨by omega, ?_⟩
     rw [←hg];exact hgr.inq (J1 hlt)
   have pl:=hl.len
   rw [List.length_append,List.length_singleton] at pl
   refine EJ (α:=Nat×List Nat×List Int) (fun s=>[iv s.1]) (fun s=>[tI (HA x.AB q),tI F,tI s.2.2]) (fun s=>s.1) (fun s=>IU x.AB e q s.1 (s.2.1++[s.1])∧s.2.1.length+s.2.2.length=p.length+1) (i,p,[id]) rfl rfl ⟨hl,by simp⟩ (fun R2 s hs hR2=> ?_)
   obtain ⟨m,p2,out⟩:=s
   obtain ⟨hw,ho⟩:=hs
   simp only at hw ho
   have hm:=hw.lt
   simp only [AI,AU,AL,AR,AQ,AG,AJ,AK,AO,AP,AN,AT,AS,AM,BH,BP,BS,BM,BQ,BN,BL,A6,A5,A4,A7,A8,A9]
   refine AH (by omega) (ldI (by omega) (JQ (AZ (fun hgt=> ?_) fun hle=> ?_)))
   ·rcases hF.2 m hm with ⟨h0',_⟩ | ⟨n,hn,e1,e2⟩
    ·omega
    ·rcases hw.inv with ⟨_,hp⟩ | ⟨n',p',rfl,hw',hnn,hp⟩
     ·obtain ⟨k2,ek2,_⟩:=hQ.qi.lv _ (J1 (q:=q) (i:=n) (by omega))
      omega
     ·have hnn':n=n':=dR hQ.qi.nd (by omega) (by omega) (by rw [←e2,hp])
      subst hnn'
      refine AH (by omega) (ldI (by omega) ?_)
      rw [e1]
      refine G5 ⟨by omega,by omega⟩ ?_
      rw [show (n:Int)+1-1=(n:Int) from by omega]
      refine AH (by omega) (ldI (by omega) (DW (JT _) (by simp only [List.length_singleton,AG,AK] at*;omega) ?_))
      rw [iD]
      refine hR2 (n,p',_) ⟨hw', ?_⟩ (by simp only;omega)
      simp only [List.length_append,List.length_cons,List.length_nil] at ho ⊢
      omega
   ·refine hwhy out fun W hW=> ?_
    rw [←hW,hlen]
    rcases hF.2 m hm with ⟨_,h1⟩ | ⟨n,hn,e1,e2⟩
    ·rcases hw.inv with ⟨rfl,_⟩ | ⟨n',p',rfl,hw',hnn,hp⟩
     ·simpa using ho
     ·obtain ⟨k2,ek2,_⟩:=hQ.qi.lv _ (J1 (q:=q) (i:=n') (by omega))
      omega
    ·omega
  ·
   have hs:=hq.rid _ (J1 hlt)
   rw [ek] at hs
   have kl:k<x.AB.length:=by omega
   have nk:=hk.IH.ob k
   have fln:=(hk.hp.obj k k8).len
   have fv:F64 (PN x.AB k):=by
    have:=T1 hk k k8 kv
    unfold PN
    rw [Int.toNat_natCast]
    exact ⟨by omega,by omega⟩
   obtain ⟨f,rfl⟩: ∃f',f=f'+1:=⟨f-1,by omega⟩
   have hb':=hb
   rw [M7,if_pos hlt,XZ,ek,Int.toNat_natCast] at hb'
   refine AH hlt' (ldI hlt' ?_)
   rw [ev]
   refine BX fv (by omega) ?_
   rw [hs]
   simp only [AI,AU,AL,AR,AQ,AG,AJ,AK,AO,AP,AN,AT,AS,AM,BH,BP,BS,BM,BQ,BN,BL,A6,A5,A4,A7,A8,A9]
   refine AH kl (QE kl ?_)
   refine BJ (fun j=>[I id,iv i,iv (AD (iv k)*8+6),iv j]) (fun j=>[tI (HA x.AB (LC x.AB (-1) q k ((ob x.AB k).field.take j))),tI (F++List.replicate ((LC x.AB (-1) q k ((ob x.AB k).field.take j)).length-q.length) ((i:Int)+1))]) (ob x.AB k).field.length (fun j=>QP x.AB e (LC x.AB (-1) q k ((ob x.AB k).field.take j))∧KI q (LC x.AB (-1) q k ((ob x.AB k).field.take j))∧W3 (LC x.AB (-1) q k ((ob x.AB k).field.take j)) (F++List.replicate ((LC x.AB (-1) q k ((ob x.AB k).field.take j)).length-q.length) ((i:Int)+1))) rfl (by simp [LC]) ⟨by simpa [LC] using hQ,by simp [LC];exact .refl q,by simpa [LC] using hF⟩ (fun R2 j hj hP hR2=> ?_)
   have hq2:=U0 (b:= -1) (s:=(k:Int)) hq (l:=(ob x.AB k).field) j hj
   rw [O9] at hq2
   obtain ⟨q2,eq2⟩: ∃q2,LC x.AB (-1) q k ((ob x.AB k).field.take j)=q2:=⟨_,rfl⟩
   have il2:=J7 x.AB q2
   rw [eq2] at hq2 hP ⊢
   obtain ⟨hQ2,hg2,hF2⟩:=hP
   have ql2:=hQ2.qi.len
   have gl2:=hg2.len
   obtain ⟨F2,eF2⟩: ∃F2,F++List.replicate (q2.length-q.length) ((i:Int)+1)=F2:=⟨_,rfl⟩
   rw [eF2] at hF2 ⊢
   have Fl2:=hF2.1
   simp only [AI,AU,AL,AR,AQ,AG,AJ,AK,AO,AP,AN,AT,AS,AM,BH,BP,BS,BM,BQ,BN,BL,A6,A5,A4,A7,A8,A9]
   rw [AW (AD (iv k)*8+6),HF kl,AG]
   refine BA (AZ (fun hlj=>BY ?_) fun hgj=> ?_)
   ·have hlj:j<(ob x.AB k).field.length:=by omega
    have hR2:=hR2 hlj
    have es:LC x.AB (-1) q k ((ob x.AB k).field.take (j+1))=EI (-1) q2 k (AA x.AB (gI (ob x.AB k).field j)):=by
     rw [←eq2];unfold LC;exact FE hlj _ _
    rw [es] at hR2
    have hqi:=hq2.qi
    obtain ⟨a1,a2⟩:=VO (b:= -1) (p:=(k:Int)) (x:=gI (ob x.AB k).field j) hqi
    rw [O9] at a1 a2
    have fid:F64 (gI (ob x.AB k).field j):=nk.2.2.2.2.2 _ (C7 hlj)
    refine AH hlj (JE kl hlj (BX fid (by omega) (HL (BO (BO (BO ?_))))))
    have stay:(¬(AA x.AB (gI (ob x.AB k).field j)≥0∧gI (ob x.AB k).field j∉HA x.AB q2))→R2 [I id,iv i,iv (AD (iv k)*8+6),iv (j+1)] [tI (HA x.AB q2),tI F2]:=fun hn=>by
     have e0:EI (-1) q2 k (AA x.AB (gI (ob x.AB k).field j))=q2:=by
      unfold EI
      rw [if_pos]
      by_cases h0:0≤AA x.AB (gI (ob x.AB k).field j)
      ·have hm:gI (ob x.AB k).field j∈HA x.AB q2:=Classical.byContradiction fun hm=>hn ⟨h0,hm⟩
       exact .inr (.inr ((N0 hqi h0).1 hm))
      ·exact .inl (by omega)
     rw [e0,eF2] at hR2
     exact hR2 ⟨hQ2,hg2,hF2⟩
    by_cases hc:AA x.AB (gI (ob x.AB k).field j)≥0
    ·refine IA hc (AH hlj (IA hc (JE kl hlj (IA hc (GN (by omega) ?_)))))
     by_cases hm:gI (ob x.AB k).field j∈HA x.AB q2
     ·simp only [BH]
      rw [decide_eq_true hm]
      exact IA hc (CN (D9 hc rfl (CE (BB (by omega) (stay fun hh=>hh.2 hm)))))
     ·simp only [BH]
      rw [decide_eq_false hm]
      refine IA hc (CN (D9 hc rfl (CL (AH hlj (JE kl hlj (DW rfl (by omega) (BB (by omega) (DW rfl (by omega) ?_))))))))
      have hn1:gI (ob x.AB k).field j≠ -1:=fun he=>by rw [he,O9] at hc;omega
      have ea:=a1 (by omega) hm hn1
      have e1:EI (-1) q2 k (AA x.AB (gI (ob x.AB k).field j))=q2++[(AA x.AB (gI (ob x.AB k).field j),(k:Int))]:=by
       unfold EI
       rw [if_neg]
       simp only [not_or]
       exact ⟨by omega,by omega,fun hh=>hm ((N0 hqi hc).2 hh)⟩
      have eF3:F++List.replicate ((EI (-1) q2 k (AA x.AB (gI (ob x.AB k).field j))).length-q.length) ((i:Int)+1)=F2++[(i:Int)+1]:=by
       rw [e1,List.length_append,List.length_singleton,show q2.length+1-q.length=(q2.length-q.length)+1 by omega,List.replicate_succ', ←List.append_assoc,eF2]
      rw [eF3,ea, ←C9, ←C9] at hR2
      refine BB (by omega) (hR2 ⟨?_, ?_, ?_⟩)
      ·refine hQ2.add (fun h0=>RP h0) (.inr ⟨i,by omega,by rw [hg2.gq hlt,ek], ?_⟩)
       rw [hg2.gq hlt,ek,Int.toNat_natCast]
       exact FG.2 ⟨by omega,_,C7 hlj,rfl⟩
      ·exact hg2.trans .add
      ·have:=hF2.snoc (m:=i) (s:=AA x.AB (gI (ob x.AB k).field j)) (by omega)
       rw [hg2.gq hlt,ek] at this
       rw [e1];exact this
    ·exact K3 hc (K3 hc (K3 hc (K3 hc (EC hc rfl (CE (BB (by omega) (stay fun hh=>hc hh.1)))))))
   ·have:j=(ob x.AB k).field.length:=by omega
    subst this
    rw [List.take_length] at eq2
    rw [eq2] at hb'
    refine BB (by omega) (hR (i+1,q2,F2) ⟨hq2,hQ2,hF2,fun j hj hjl=> ?_,f,by simp only;omega,hb'⟩ (by simp only;omega))
    simp only at hj hjl ⊢
    rcases Nat.lt_or_ge j i with hji | hji
    ·rw [hg2.gq (by omega)];exact hno j hji (by omega)
    ·have:j=i:=by omega
     subst this
     rw [hg2.gq hlt]
     intro he
     rw [RX hlt] at hne
     exact hne ((XO hq hlt (by omega)).2 he)
 ·have hfin:HI x.AB (-1) e=q:=by
   rw [←hb]
   cases f with
   | zero=>rfl
   | succ f=>rw [M7,if_neg (by omega)]
  refine hwhy [] fun W hW=> ?_
  rw [←hW]
  unfold NW
  rw [ee,hfin,if_pos]
  right
  intro hin
  obtain ⟨a,ha,hs⟩:=List.mem_map.1 hin
  obtain ⟨j,hj,rfl⟩:=List.getElem_of_mem ha
  rw [P4 hj] at hs
  exact hno j (by omega) hj hs
end Go.Proofs.Ytklmcfpgdfibnaa.P
