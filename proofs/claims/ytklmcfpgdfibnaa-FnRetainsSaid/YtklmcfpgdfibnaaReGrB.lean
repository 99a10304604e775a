/- A part of the proof. -/
import Derived.Test.YtklmcfpgdfibnaaReRetC
namespace Go.Proofs.Ytklmcfpgdfibnaa.P
open Go Go.Proofs.Ytklmcfpgdfibnaa Go.Proofs.Ytklmcfpgdfibnaa.Eng
set_option linter.unusedVariables false
theorem ZX {l:List Nd} {i k:Nat} {v:Nd} (hk:k<l.length):nd (l.set k v) i=if i=k then v else nd l i:=by
 unfold nd
 by_cases h:i=k
 ·subst h
  rw [if_pos rfl,List.getD_eq_getElem?_getD,List.getElem?_set_self hk];rfl
 ·rw [if_neg h,List.getD_eq_getElem?_getD,List.getElem?_set_ne (Ne.symm h),List.getD_eq_getElem?_getD]
theorem kE {l:List Nd} {i:Nat}:ob (osN l) i=toO (nd l i):=by
 by_cases hi:i<l.length
 ·exact Q8 hi
 ·unfold nd ob
  rw [List.getD_eq_getElem?_getD,List.getElem?_eq_none (by simpa using Nat.le_of_not_lt hi),List.getD_eq_getElem?_getD,List.getElem?_eq_none (by simpa using Nat.le_of_not_lt hi)]
  rfl
theorem pX {n:Nat} {K:Value→Prop} (hb:n≤2^48) (h:K (iv n)):mkW 1 (iv n) (iv n) K:=⟨n,rfl,rfl,by omega,h⟩
def tBo (l:List Bool):List T:=l.map fun b=>T.c (.bool b)
theorem KV (l:List Bool):cnt 1 (tBo l)=l.length:=by simp [cnt,tBo]
theorem oX (n:Nat):PQ n [T.c (.bool false)]=tBo (List.replicate n false):=by
 unfold PQ tBo
 induction n with
 | zero=>rfl
 | succ n ih=>rw [List.replicate_succ,List.flatten_cons,ih];rfl
def qB (q:Que):List Bool:=(List.range 8).map fun i:Nat=>decide (inQ q (i:Int))
theorem OB (q:Que):(qB q).length=8:=by simp [qB]
theorem oQ:qB []=List.replicate 8 false:=by
 unfold qB
 refine List.ext_getElem (by simp) fun i h1 h2=> ?_
 rw [List.getElem_map,List.getElem_replicate]
 exact decide_eq_false (by simp [inQ])
theorem iK {q:Que} {i:Nat} {K:Value→Prop} (hi:i<8) (h:K (.bool (decide (inQ q (i:Int))))):ldc (tBo (qB q)) [] (AA (iv i)*1) K:=by
 refine ⟨_, ?_,h⟩
 rw [AV]
 simp [cell,node,tBo,qB,hi]
theorem hU {q:Que} {i:Nat} {p:Int} {K:List T→Prop} (hi:i<8) (h:K (tBo (qB (q++[((i:Int),p)])))):stc (tBo (qB q)) [] (AA (iv i)*1) (.bool true) K:=by
 refine ⟨⟨.bool (decide (inQ q (i:Int))), ?_⟩, ?_⟩
 ·rw [AV]
  simp [cell,node,tBo,qB,hi]
 ·have e:IF (tBo (qB q)) [] (AA (iv i)*1) [.c (.bool true)]=tBo (qB (q++[((i:Int),p)])):=by
   have hl:i<(tBo (qB q)).length:=by simp [tBo,qB,hi]
   have e1:IF (tBo (qB q)) [] (AA (iv i)*1) [.c (.bool true)]=(tBo (qB q)).set i (.c (.bool true)):=by
    rw [AV,Nat.mul_one]
    unfold IF
    simp only [node,GR]
    exact VN hl
   rw [e1]
   refine List.ext_getElem (by simp [tBo,qB]) fun k h1 h2=> ?_
   have hk:k<8:=by simpa [tBo,qB] using h2
   rw [List.getElem_set]
   by_cases hki:i=k
   ·subst hki
    rw [if_pos rfl]
    simp [tBo,qB,MF,inQ]
   ·rw [if_neg hki]
    have:inQ (q++[((i:Int),p)]) (k:Int)↔inQ q (k:Int):=by
     rw [MF]
     refine ⟨fun h=>h.resolve_right fun hh=> ?_, .inl⟩
     simp [inQ] at hh;omega
    simp [tBo,qB,this]
  rw [e];exact h
theorem Z5 {os:List AG} (hol:os.length=8): ∀n,n≤8→QI os (-1) (JW os n)
 | 0,_=>QI.nil _ _
 | n+1,hn=>by
   have ih:=Z5 hol n (by omega)
   have e:JW os (n+1)=JW os n++if (ob os n).live=true∧w64 ((ob os n).holds+(ob os n).roots)>0 then [((n:Int),(-1:Int))] else []:=rfl
   rw [e]
   split
   ·rename_i hc
    have ea:JW os n++[((n:Int),(-1:Int))]=DZ (-1) (JW os n) (-1) (n:Int):=by
     unfold DZ
     rw [if_neg]
     simp only [not_or]
     exact ⟨by omega,by omega,fun hh=>by have:=jW hh;omega⟩
    rw [ea]
    exact ih.add fun _=>⟨by omega,by simpa using hc.1⟩
   ·simpa using ih
def grQ (a:List Nd):Que:=J1 (osN a) (-1) 9 0 (JW (osN a) 8)
theorem vX {a:List Nd} (ha:a.length=8) (hg: ∀i,i<8→(ob (osN a) i).live=true→1≤(ob (osN a) i).gen∧(ob (osN a) i).gen≤999):grQ a=GK (osN a) (-1) (exts (osN a)):=by
 have hl:(osN a).length=8:=by simpa using ha
 unfold grQ GK
 congr 1
 unfold exts
 rw [hl,YC hl hg 8 (Nat.le_refl _)]
theorem bO {q:Que} {i:Nat} (h:i<q.length):(slQ q).drop i=gQ q i::(slQ q).drop (i+1):=by
 have h2:i<(slQ q).length:=by simpa using h
 rw [List.drop_eq_getElem_cons h2]
 congr 1
 rw [DB h2,ZP h]
theorem jU {l:List Int} {off:Nat} {x:Int} {r:List Int} (h:l.drop off=x::r):gI l off=x∧off<l.length∧l.drop (off+1)=r:=by
 have hl:off<l.length:=by
  rcases Nat.lt_or_ge off l.length with h' | h'
  ·exact h'
  ·rw [List.drop_eq_nil_of_le h'] at h;cases h
 rw [List.drop_eq_getElem_cons hl] at h
 simp only [List.cons.injEq] at h
 exact ⟨by rw [←DB hl];exact h.1,hl,h.2⟩
theorem dM {q:Que} {r:List Int} {off i m:Nat} {p:Int} (h:r.drop off=(slQ q).drop i) (hi:i≤q.length):(r.drop off++[(m:Int)]).drop 0=(slQ (q++[((m:Int),p)])).drop i:=by
 rw [List.drop_zero,h]
 show _=((q++[((m:Int),p)]).map (·.1)).drop i
 rw [List.map_append,List.drop_append_of_le_length (by simpa using hi)]
 rfl
theorem cR {l:List Int} {off:Nat}:GJ (tI l) [] (AA (iv off)) (AA (iv (l.length-off))*1)=tI (l.drop off):=by
 rw [pU]
 congr 1
 rw [List.take_of_length_le]
 rw [List.length_drop]
 exact Nat.le_refl _
set_option maxHeartbeats 4000000
set_option linter.unusedVariables false
set_option linter.unusedSimpArgs false
attribute [local irreducible] prP gP gE gF AY ixW ldc ldg ldl stc stg scW mkW apW BD cl2 BQ CZ B9
variable {w0:World}
theorem L5 {a:List Nd} {b c:List T} {K:J2} (ha:a.length=8) (hf: ∀i,i<8→(nd a i).field.length≤1000∧ ∀f∈(nd a i).field,F64 f) (h:K [] [tI (XB (grQ a))]):cl2 ⟨Try.prog,w0⟩ 72 C6.sg [] [tR tN a,b,c] K:=by
 have hol:(osN a).length=8:=by simpa using ha
 refine C6.cl2 ?_
 unfold C6.txt
 simp only [AJ,AN,AQ,AR,AK,AE,AL,AI,AS,AP,AU,AT,AM,AO,BJ,BP,BM,BN,BO,BS,BL,A4,A5,A9,A8,BA,A7]
 refine pX (by omega) ?_
 rw [AV,oX,ha, ←oQ]
 refine BF (fun i=>[iv i]) (fun i=>[tBo (qB (JW (osN a) i)),tI (slQ (JW (osN a) i))]) 8 (fun _=>True) rfl rfl trivial (fun R i hi _ hR=> ?_)
 have qi:=Z5 hol i hi
 have ql:=qi.len
 have sl:(slQ (JW (osN a) i)).length=(JW (osN a) i).length:=by simp
 simp only [AJ,AN,AQ,AR,AK,AE,AL,AI,AS,AP,AU,AT,AM,AO,BJ,BP,BM,BN,BO,BS,BL,A4,A5,A9,A8,BA,A7]
 try simp only [KV,OB]
 refine A6 (AW (fun hlt=>BT ?_) fun hge=> ?_)
 ·have hlt:i<8:=by omega
  have hla:i<a.length:=by omega
  have hR:=hR hlt trivial
  have eo:=Q8 (l:=a) hla
  have ex:JW (osN a) (i+1)=JW (osN a) i++if (ob (osN a) i).live=true∧w64 ((ob (osN a) i).holds+(ob (osN a) i).roots)>0 then [((i:Int),(-1:Int))] else []:=rfl
  rw [eo] at ex
  have e1:(toO (nd a i)).live=(nd a i).live:=rfl
  have e2:(toO (nd a i)).holds=(nd a i).holds:=rfl
  have e3:(toO (nd a i)).roots=(nd a i).roots:=rfl
  rw [e1,e2,e3] at ex
  refine AH (by omega) (jX hla rfl ?_)
  cases hv:(nd a i).live with
  | false=>
    rw [if_neg (by rw [hv];simp),List.append_nil] at ex
    rw [ex] at hR
    exact BC (BC (BC (FY (BC (FY (BC (BC (BC (FY (BC (FY (FY (FY (SP rfl (B6 (BB (by omega) hR))))))))))))))))
  | true=>
    refine BC (BC (BC (GP (AH (by omega) (BC (GP (gT (c:=3) hla (by decide) rfl (BC (BC (BC (GP (AH (by omega) (BC (GP (gT (c:=4) hla (by decide) rfl (GP (GS (GP (H0 (OU rfl (AW (fun hc=> ?_) fun hc=> ?_)))))))))))))))))))))
    ·rw [if_pos ⟨hv,hc⟩] at ex
     rw [ex] at hR
     refine AH (by omega) (hU (p:= -1) (by omega) (DH rfl (by omega) (BB (by omega) ?_)))
     have es:tI (slQ (JW (osN a) i))++[T.c (I (i:Int))]=tI (slQ (JW (osN a) i++[((i:Int),(-1:Int))])):=by rw [CU];simp [slQ]
     rw [←es] at hR
     exact hR
    ·rw [if_neg (fun hh=>hc hh.2),List.append_nil] at ex
     rw [ex] at hR
     exact BB (by omega) hR
 have:i=8:=by omega
 subst this
 clear hR R
 unfold grQ at h
 obtain ⟨q0,eq0⟩: ∃q,JW (osN a) 8=q:=⟨_,rfl⟩
 rw [eq0] at qi ql sl h ⊢
 refine D6 (α:=Nat×Que×List Int×Nat) (fun s=>[iv (s.2.2.1.length-s.2.2.2),iv s.2.2.2]) (fun s=>[tBo (qB s.2.1),tI s.2.2.1]) (fun s=>9-s.1) (fun s=>QI (osN a) (-1) s.2.1∧s.1≤s.2.1.length∧s.2.2.1.drop s.2.2.2=(slQ s.2.1).drop s.1∧s.2.2.2≤s.2.2.1.length∧s.2.2.1.length≤8∧ ∃f,8<f+s.1∧J1 (osN a) (-1) f s.1 s.2.1=J1 (osN a) (-1) 9 0 q0) (0,q0,slQ q0,0) rfl rfl ⟨qi,by simp,rfl,Nat.zero_le _,by simp only;omega,9,by simp,rfl⟩ (fun R s hs hR=> ?_)
 obtain ⟨i,q,r,off⟩:=s
 obtain ⟨hq,hiq,hr,hoff,hrl,f,hff,hb⟩:=hs
 simp only at hq hiq hr hoff hrl hff hb
 have ql:=hq.len
 have sl:(slQ q).length=q.length:=by simp
 have hlen:r.length-off=q.length-i:=by
  have:=congrArg List.length hr
  simp only [List.length_drop,sl] at this
  exact this
 simp only [AJ,AN,AQ,AR,AK,AE,AL,AI,AS,AP,AU,AT,AM,AO,BJ,BP,BM,BN,BO,BS,BL,A4,A5,A9,A8,BA,A7]
 simp only [AV]
 refine H0 (AW (fun hgt=> ?_) fun hle=> ?_)
 ·have hlt:i<q.length:=by omega
  obtain ⟨k,ek,k8,kv,_⟩:=hq.lv _ (OZ hlt)
  rw [bO hlt,ek] at hr
  obtain ⟨g1,g2,g3⟩:=jU hr
  have hka:k<a.length:=by omega
  have eo:=Q8 (l:=a) hka
  have efl:(ob (osN a) k).field=(nd a k).field:=by rw [eo];rfl
  obtain ⟨f,rfl⟩: ∃f',f=f'+1:=⟨f-1,by omega⟩
  have hb':=hb
  rw [J1,if_pos hlt,TJ,ek,Int.toNat_natCast,efl] at hb'
  obtain ⟨hfl,hfF⟩:=hf k k8
  refine AH (j:=0) (by omega) ?_
  have eld: ∀{K:Value→Prop},K (I (gI r off))→ldc (tI r) [] (off+AA (iv 0)*1) K:=fun hK=>by
   have:=iN (l:=r) (a:=off) g2 hK
   rwa [AV off] at this
  refine eld (pM (by omega) ?_)
  rw [g1]
  simp only [AV]
  refine D6 (α:=Nat×Que×List Int×Nat) (fun s=>[iv (s.2.2.1.length-s.2.2.2),iv s.2.2.2,iv k,iv s.1]) (fun s=>[tBo (qB s.2.1),tI s.2.2.1]) (fun s=>(nd a k).field.length-s.1) (fun s=>s.1≤(nd a k).field.length∧QI (osN a) (-1) s.2.1∧s.2.1=OM (osN a) (-1) q k ((nd a k).field.take s.1)∧s.2.2.1.drop s.2.2.2=(slQ s.2.1).drop (i+1)∧s.2.2.2≤s.2.2.1.length∧s.2.2.1.length≤8∧i+1≤s.2.1.length) (0,q,r,off+1) (by rw [show r.length-off-1=r.length-(off+1) from by omega];rfl) rfl ⟨Nat.zero_le _,hq,by simp [OM],g3,g2,hrl,by simp only;omega⟩ (fun R2 s hs hR2=> ?_)
  obtain ⟨j,q2,r2,off2⟩:=s
  obtain ⟨hj,hq2,eq2,hr2,hoff2,hrl2,hi2⟩:=hs
  simp only at hj hq2 eq2 hr2 hoff2 hrl2 hi2
  have ql2:=hq2.len
  have sl2:(slQ q2).length=q2.length:=by simp
  have hlen2:r2.length-off2=q2.length-(i+1):=by
   have:=congrArg List.length hr2
   simp only [List.length_drop,sl2] at this
   exact this
  simp only [AJ,AN,AQ,AR,AK,AE,AL,AI,AS,AP,AU,AT,AM,AO,BJ,BP,BM,BN,BO,BS,BL,A4,A5,A9,A8,BA,A7]
  simp only [AV]
  refine AH (by omega) (TF hka ?_)
  rw [Q6 hka]
  try simp only [AE]
  refine A6 (AW (fun hlj=>BT ?_) fun hgj=> ?_)
  ·have hlj:j<(nd a k).field.length:=by omega
   have fid:F64 (gI (nd a k).field j):=hfF _ (DJ hlj)
   have es:OM (osN a) (-1) q k ((nd a k).field.take (j+1))=DZ (-1) q2 k (AB (osN a) (gI (nd a k).field j)):=by
    rw [eq2];unfold OM;exact E9 hlj _ _
   refine AH (by omega) (TF hka ?_)
   rw [Q6 hka]
   refine AH (by rw [AE];exact hlj) (eY hka hlj (XW fid (by omega) (I7 (BC (BC ?_)))))
   have stay:DZ (-1) q2 k (AB (osN a) (gI (nd a k).field j))=q2→R2 [iv (r2.length-off2),iv off2,iv k,iv (j+1)] [tBo (qB q2),tI r2]:=fun e0=>hR2 (j+1,q2,r2,off2) ⟨hlj,hq2,by rw [es,e0],hr2,hoff2,hrl2,hi2⟩ (by simp only;omega)
   by_cases hc:AB (osN a) (gI (nd a k).field j)≥0
   ·obtain ⟨m,em⟩: ∃m:Nat,AB (osN a) (gI (nd a k).field j)=(m:Int):=⟨(AB (osN a) (gI (nd a k).field j)).toNat,by omega⟩
    have hlv:=P5 hc
    rw [em] at hc hlv es stay ⊢
    rw [Int.toNat_natCast] at hlv
    have m8:=hlv.1
    refine HG hc (AH (by rw [KV,OB];exact m8) (HG hc (iK m8 ?_)))
    by_cases hm:inQ q2 (m:Int)
    ·rw [decide_eq_true hm]
     exact HG hc (CC (DX hc rfl (B6 (BB (by omega) (stay (by unfold DZ;rw [if_pos (.inr (.inr hm))]))))))
    ·rw [decide_eq_false hm]
     have e1:DZ (-1) q2 k (m:Int)=q2++[((m:Int),(k:Int))]:=by
      unfold DZ
      rw [if_neg]
      simp only [not_or]
      exact ⟨by omega,by omega,hm⟩
     refine HG hc (CC (DX hc rfl (CG (AH (by rw [KV,OB];exact m8) (hU (p:=(k:Int)) m8 (DH rfl (by first | omega | (rw [AI];omega)) (BB (by omega) ?_)))))))
     have e2:=cR (l:=r2) (off:=off2)
     simp only [AV] at e2
     rw [e2]
     have e3:tI (r2.drop off2)++[T.c (I (m:Int))]=tI (r2.drop off2++[(m:Int)]):=CU _ _
     simp only [BJ,BP,BM,BN,BO,A4,A5,AV]
     rw [e3,AE]
     have hq3:QI (osN a) (-1) (q2++[((m:Int),(k:Int))]):=by
      rw [←e1]
      exact hq2.add fun _=>⟨by simpa using m8,by simpa using hlv.2⟩
     have ql3:=hq3.len
     rw [List.length_append,List.length_singleton] at ql3
     have hdl:(r2.drop off2).length=r2.length-off2:=List.length_drop
     exact hR2 (j+1,q2++[((m:Int),(k:Int))],r2.drop off2++[(m:Int)],0) ⟨hlj,hq3,by rw [es,e1],dM hr2 hi2,Nat.zero_le _,by simp only [List.length_append,List.length_singleton,hdl];omega,by simp only [List.length_append,List.length_singleton];omega⟩ (by simp only;omega)
   ·exact JG hc (JG hc (JG hc (EH hc rfl (B6 (BB (by omega) (stay (by unfold DZ;rw [if_pos (.inl (by omega))])))))))
  ·have:j=(nd a k).field.length:=by omega
   subst this
   rw [List.take_length] at eq2
   exact hR (i+1,q2,r2,off2) ⟨hq2,hi2,hr2,hoff2,hrl2,f,by simp only;omega,by rw [eq2];exact hb'⟩ (by simp only;omega)
 ·have hiq2:i=q.length:=by omega
  have hfin:J1 (osN a) (-1) 9 0 q0=q:=by
   rw [←hb]
   cases f with
   | zero=>rfl
   | succ f=>rw [J1,if_neg (by omega)]
  rw [hfin] at h
  refine BF (fun i=>[iv i]) (fun i=>[tBo (qB q),tI (pick (fun i=>if inQ q (i:Int) then [(i:Int)] else []) i)]) 8 (fun _=>True) rfl rfl trivial (fun R i hi _ hR=> ?_)
  have pl:(pick (fun i=>if inQ q (i:Int) then [(i:Int)] else []) i).length≤i:=FU (fun i=>by split <;> simp) i
  simp only [AJ,AN,AQ,AR,AK,AE,AL,AI,AS,AP,AU,AT,AM,AO,BJ,BP,BM,BN,BO,BS,BL,A4,A5,A9,A8,BA,A7]
  try simp only [KV,OB]
  refine A6 (AW (fun hlt=>BT ?_) fun hge=> ?_)
  ·have hlt:i<8:=by omega
   have hR:=hR hlt trivial
   refine AH hlt (iK hlt (AW (fun hm=> ?_) fun hm=> ?_))
   ·rw [pick,if_pos hm, ←CU] at hR
    exact DH rfl (by first | omega | (simp only [AJ,AN,AQ,AR,AK,AE,AL,AI,AS,AP,AU,AT,AM,AO,BJ,BP,BM,BN,BO,BS,BL,A4,A5,A9,A8,BA,A7];omega)) (BB (by omega) hR)
   ·rw [pick,if_neg hm,List.append_nil] at hR
    exact BB (by omega) hR
  ·have:i=8:=by omega
   subst this
   exact h
end Go.Proofs.Ytklmcfpgdfibnaa.P
