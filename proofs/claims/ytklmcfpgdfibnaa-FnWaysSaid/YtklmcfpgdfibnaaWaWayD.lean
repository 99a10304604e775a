/- A part of the proof. -/
import Derived.Test.YtklmcfpgdfibnaaWaWayC
import Derived.Test.YtklmcfpgdfibnaaWaRchA
namespace Go.Proofs.Ytklmcfpgdfibnaa.P
open Go Go.Proofs.Ytklmcfpgdfibnaa Go.Proofs.Ytklmcfpgdfibnaa.Eng
set_option linter.unusedVariables false
set_option maxHeartbeats 4000000
set_option linter.unusedVariables false
set_option linter.unusedSimpArgs false
attribute [local irreducible] prP gP gE gF AX ixW ldc ldg ldl stc stg scW mkW apW BE cl2 BK C2 CI
variable {w0:World}
theorem iW {α:Type} [DecidableEq α] {a b:List α} (hn:a.Nodup) (hs: ∀x∈a,x∈b):a.length≤b.length:=by
 induction a generalizing b with
 | nil=>simp
 | cons x a ih=>
   have h1:=List.nodup_cons.1 hn
   have hx:=hs x (by simp)
   have:=ih (b:=b.erase x) h1.2 fun y hy=>(List.mem_erase_of_ne (fun he=>by subst he;exact h1.1 hy)).2 (hs y (by simp [hy]))
   rw [List.length_erase_of_mem hx] at this
   have:=List.length_pos_of_mem hx
   simp only [List.length_cons]
   omega
theorem aW {x:Hp} (hk:BW x) {id:Int} {k:Nat} (hs:AA x.AB id=(k:Int)):id∈bQ x.AB↔ ¬inQ (HI x.AB (-1) (exts x.AB)) (AA x.AB id):=by
 obtain ⟨k8,kv,e⟩:=pZ hk hs
 unfold bQ
 rw [List.mem_filter,decide_eq_true_eq,jG hk,hs,(T8 _ _ _).2 k,qV]
 constructor
 ·rintro ⟨_,h⟩ hr;exact h ⟨k,k8,kv,e,hr⟩
 ·intro h
  refine ⟨(SJ hk).2 ⟨k,k8,kv,e⟩, ?_⟩
  rintro ⟨m,m8,mv,e2,hr⟩
  have:=mY hk k8 kv m8 mv (by rw [←e,e2])
  subst this
  exact h hr
structure xI (os:List AE) (id:Int) (w:List Int):Prop where
 pos:0<w.length
 le:w.length≤8
 last:gI w (w.length-1)=id
 first:gI w 0∈exts os
 next: ∀i,i+1<w.length→ ∃k:Nat,k<8∧AA os (gI w i)=(k:Int)∧gI w (i+1)∈(ob os k).field
 nd: ∀i,i<w.length→gI w i∉w.take i
 live:w.length≤(IN os).length
 sm: ∀v∈w,8≤v∧v≤7999
theorem vN {x:Hp} (hk:BW x) {id:Int} (h0:0≤AA x.AB id) (hin:inQ (HI x.AB (-1) (exts x.AB)) (AA x.AB id)):xI x.AB id (NW x.AB id):=by
 obtain ⟨j,l,hw,ej,ec⟩:=gV hin
 have hQ:=ZJ x.AB (exts x.AB)
 have e:NW x.AB id=(l.map (gQ (HI x.AB (-1) (exts x.AB)))).map (idO x.AB):=by
  unfold NW
  rw [if_neg (by simp only [not_or,Classical.not_not];exact ⟨by omega,hin⟩),ec]
 rw [e]
 clear e ec
 generalize HI x.AB (-1) (exts x.AB)=q at*
 have hsl: ∀i,i<q.length→ ∃k:Nat,gQ q i=(k:Int)∧k<8∧(ob x.AB k).live=true∧idO x.AB (gQ q i)=B6 k (ob x.AB k).gen∧AA x.AB (idO x.AB (gQ q i))=(k:Int):=fun i hi=>by
  obtain ⟨k,ek,k8,kv,_⟩:=hQ.qi.lv _ (J1 hi)
  have e2:idO x.AB (gQ q i)=B6 k (ob x.AB k).gen:=by unfold idO;rw [ek,Int.toNat_natCast]
  exact ⟨k,ek,k8,kv,e2,by rw [e2];exact QX hk k8 kv⟩
 obtain ⟨hle,hpw,_⟩:=hw.le
 have hwl:=hw.len
 have hql:=hQ.qi.len
 have hjl:=hw.lt
 obtain ⟨f1,v,hv,hvs⟩:=hw.first
 have ll:(List.map (idO x.AB) (l.map (gQ q))).length=l.length:=by simp
 have hg: ∀i,i<l.length→gI (List.map (idO x.AB) (l.map (gQ q))) i=idO x.AB (gQ q (gN l i)):=fun i hi=>by
  rw [←DB (by rw [ll];exact hi), ←rA hi];simp
 have hnl: ∀i,i<l.length→gN l i<q.length:=fun i hi=>by rw [←rA hi];exact (hle _ (List.getElem_mem hi)).2
 have slot_eq: ∀{a b:Int} {k:Nat},AA x.AB a=(k:Int)→AA x.AB b=(k:Int)→a=b:=fun ha hb=>QF (l:=x.AB) (by omega) (by omega) (by omega)
 have hnd:(List.map (idO x.AB) (l.map (gQ q))).Nodup:=by
  rw [List.map_map]
  refine List.pairwise_map.2 (hpw.imp_of_mem fun {a b} ha hb hab he=> ?_)
  obtain ⟨k,ek,_,_,_,sk⟩:=hsl a (hle a ha).2
  obtain ⟨m,em,_,_,_,sm⟩:=hsl b (hle b hb).2
  have:AA x.AB (idO x.AB (gQ q a))=AA x.AB (idO x.AB (gQ q b)):=congrArg _ he
  have:=dR hQ.qi.nd (hle a ha).2 (hle b hb).2 (by rw [ek,em];omega)
  omega
 have hmem: ∀v∈List.map (idO x.AB) (l.map (gQ q)), ∃k:Nat,k<8∧(ob x.AB k).live=true∧v=B6 k (ob x.AB k).gen:=fun v hv=>by
  simp only [List.mem_map] at hv
  obtain ⟨_,⟨a,ha,rfl⟩,rfl⟩:=hv
  obtain ⟨k,ek,k8,kv,e2,_⟩:=hsl a (hle a ha).2
  exact ⟨k,k8,kv,e2⟩
 refine ⟨by rw [ll];exact f1,by rw [ll];omega, ?_, ?_,fun i hi=> ?_,fun i hi hm=> ?_,iW hnd fun v hv=>(SJ hk).2 (hmem v hv),fun v hv=> ?_⟩
 ·rw [ll,hg _ (by omega),hw.end]
  obtain ⟨k,ek,k8,kv,e2,sk⟩:=hsl j hjl
  exact slot_eq sk (by rw [ej,ek])
 ·rw [hg 0 f1]
  obtain ⟨k,ek,k8,kv,e2,sk⟩:=hsl _ (hnl 0 f1)
  rw [slot_eq sk (by rw [hvs,ek])];exact hv
 ·rw [ll] at hi
  rw [hg i (by omega),hg (i+1) hi]
  obtain ⟨k,ek,k8,kv,e2,sk⟩:=hsl _ (hnl i (by omega))
  obtain ⟨m,em,_,_,_,sm⟩:=hsl _ (hnl (i+1) hi)
  refine ⟨k,k8,sk, ?_⟩
  have:=hw.next i hi
  rw [ek,Int.toNat_natCast,em] at this
  obtain ⟨_,f,hf,hs⟩:=FG.1 this
  rw [slot_eq sm hs];exact hf
 ·rw [ll] at hi
  have hi':i<(List.map (idO x.AB) (l.map (gQ q))).length:=by rw [ll];exact hi
  rw [←DB hi'] at hm
  obtain ⟨a,ha,he⟩:=List.mem_take_iff_getElem.1 hm
  have:=(List.getElem_inj hnd).1 he
  omega
 ·obtain ⟨k,k8,kv,rfl⟩:=hmem v hv
  exact hk.VP (by rw [QX hk k8 kv];omega)
theorem nN {L:List Int} (g:VT L) {K:J2} (done:K [.bool true] []):GI.txt ⟨Try.prog,w0⟩ (tY L) K:=by
 unfold GI.txt
 refine cV (AZ (fun _=>done) fun hsz=> ?_)
 have hb:=g.f hsz
 refine UT hb fun h id hx id0 id1=> ?_
 have fid:F64 id:=CB (by omega)
 have ol:=hx.fits.ol
 refine c6 hx.fits hx.of fid ?_
 try simp only [trees]
 try simp only [AI,AU,AL,AR,AQ,AG,AJ,AK,AO,AP,AN,AT,AS,AM,BH,BP,BS,BM,BQ,BN,BL,A6,A5,A4,A7,A8,A9]
 refine MJ hx.fits hx.IH (fun ok=> ?_) fun nok=> ?_
 rotate_left
 ·refine CN (BO (BO (RJ (RJ (TP rfl (BO (vB (BO (RJ (TP rfl (CL (B1 (BO ?_)))))))))))))
  by_cases w0:((NW h.AB id).length:Int)=0
  ·exact IK w0 (IK w0 (D9 w0 rfl done))
  ·exact DU w0 (MJ hx.fits hx.IH (fun ok=>absurd ok nok) fun _=>DU w0 (CN (EC w0 rfl done)))
 have hol:=ok.ol
 refine CN (BO (BO (NS (BX fid (by omega) (NS (BA (WW rfl ?_)))))))
 have empty:NW h.AB id=[]→prP (bnI .eql (iv (NW h.AB id).length) (I 0)) fun t35_23=>
   gE t35_23 (
   gP t35_23 false ((fun K=>cl2 ⟨Try.prog,w0⟩ 19 DF.sg [] [tR tO h.AB,tR tW h.B2,tI h.buffer,tS h.sites] fun v24 d25=>K (nx v24 0))) fun t38_26=>
   gP t35_23 false (prP (un .not t38_26)) fun t39_27=>
   prP (pk t35_23 (.bool true) t39_27) fun t40_28=>
   K [t40_28] []):=fun he=>by
  have w0:((NW h.AB id).length:Int)=0:=by rw [he];rfl
  exact B1 (BO (IK w0 (IK w0 (D9 w0 rfl done))))
 by_cases hs:AA h.AB id<0
 ·exact BO (uX hs (BO (IK hs (D9 hs rfl (CL (empty (by unfold NW;rw [if_pos (.inl hs)])))))))
 have ll:=SB h.AB
 have lk:(bQ h.AB).length≤(IN h.AB).length:=List.length_filter_le _ _
 refine BO (rM hs (WV ok (BO (DU hs (NO (by omega) (EC hs rfl ?_))))))
 obtain ⟨k,ek⟩: ∃k:Nat,AA h.AB id=k:=⟨(AA h.AB id).toNat,by omega⟩
 have hrf:=aW ok ek
 refine AZ (fun hl=>empty (by unfold NW;rw [if_pos (.inr (hrf.1 hl))])) fun hl=> ?_
 have W:=vN ok (id:=id) (by omega) (Classical.byContradiction fun hn=>hl (hrf.2 hn))
 clear empty hrf
 generalize hw:NW h.AB id=w at W ⊢
 have wl:=W.le
 have wp:=W.pos
 have wF: ∀i,i<w.length→F64 (gI w i):=fun i hi=>CB (by have:=W.sm _ (C7 hi);omega)
 have n0: ¬((w.length:Nat):Int)=0:=by omega
 refine B1 (BO (BO (BO (DU n0 (G5 ⟨by omega,by omega⟩ ?_)))))
 rw [show ((w.length:Nat):Int)-1=((w.length-1:Nat):Int) from by omega]
 have n1: ¬gI w (w.length-1)≠id:=fun hh=>hh W.last
 have el:=R8 h.AB
 refine DU n0 (AH (by omega) (DU n0 (ldI (by omega) (BO (DU n0 (C8 (EC n0 rfl ?_)))))))
 refine BO (rM n1 (I9 ol (BO (DU n1 (AH (j:=0) (by omega) (DU n1 (ldI (by omega) (DU n1 (NO (by omega) (DU n1 ?_))))))))))
 simp only [BH]
 rw [decide_eq_true W.first]
 refine CN (EC n1 rfl (BO (BO (BO (BO (vX (dY ok fid fun w' hw'=>BO (NS (C8 (WW rfl (FM ?_ ?_)))))))))))
 ·rw [hw] at hw';simp only [AI,AU,AL,AR,AQ,AG,AJ,AK,AO,AP,AN,AT,AS,AM,BH,BP,BS,BM,BQ,BN,BL,A6,A5,A4,A7,A8,A9];omega
 refine BJ (fun i=>[iv (i+1)]) (fun _=>[tI w,tR tO h.AB,tR tW h.B2,tI h.buffer,tS h.sites]) (w.length-1) (fun _=>True) rfl rfl trivial (fun R i hi _ hR=> ?_)
 simp only [AI,AU,AL,AR,AQ,AG,AJ,AK,AO,AP,AN,AT,AS,AM,BH,BP,BS,BM,BQ,BN,BL,A6,A5,A4,A7,A8,A9]
 refine BA (AZ (fun hlt=> ?_) fun hge=> ?_)
 ·have hlt:i+1<w.length:=by omega
  have hR:=hR (by omega) trivial
  obtain ⟨k,k8,sk,fm⟩:=W.next i hlt
  have kl:k<h.AB.length:=by omega
  have fl:=(ok.hp.obj k k8).len
  refine G5 ⟨by omega,by omega⟩ ?_
  rw [show ((i+1:Nat):Int)-1=(i:Int) from by omega]
  refine AH (by omega) (ldI (by omega) (BX (wF i (by omega)) (by omega) ?_))
  rw [sk]
  have n2: ¬(k:Int)<0:=by omega
  refine BA (BO (BO (BO (DU n2 (AH kl (BO (DU n2 (QE kl (BO (BO (DU n2 (AH hlt (DU n2 (ldI hlt (DU n2 ?_)))))))))))))))
  rw [HF kl]
  refine NO (by omega) (DU n2 ?_)
  simp only [BH]
  rw [decide_eq_true fm]
  refine CN (EC n2 rfl (BO (BO (NS (cZ (by omega) ?_)))))
  refine BO (BO (NS (AH hlt (NS (ldI hlt (NS ?_))))))
  have e:GB (tI w) [] (AD (dM (two (iv 0) (iv (i+1))))*1) (AD (eD (two (iv 0) (iv (i+1))))*1)=tI (w.take (i+1)):=by
   show GB (tI w) [] (AD (iv 0)*1) (AD (iv (i+1))*1)=_
   rw [show AD (iv 0)*1=AD (iv 0) from by omega,mT,List.drop_zero]
  rw [e]
  have tl:(w.take (i+1)).length≤8:=by rw [List.length_take];omega
  refine NO (by omega) (WW rfl (FM (W.nd _ hlt) (BB (by omega) hR)))
 ·refine IX ol ?_
  simp only [AI,AU,AL,AR,AQ,AG,AJ,AK,AO,AP,AN,AT,AS,AM,BH,BP,BS,BM,BQ,BN,BL,A6,A5,A4,A7,A8,A9]
  refine IJ ?_
  have:((w.length:Nat):Int)≤((IN h.AB).length:Nat):=by have:=W.live;omega
  rw [decide_eq_true this]
  exact done
end Go.Proofs.Ytklmcfpgdfibnaa.P
