/- A part of the proof. -/
import Derived.Test.YtklmcfpgdfibnaaKeKepA
namespace Go.Proofs.Ytklmcfpgdfibnaa.P
open Go Go.Proofs.Ytklmcfpgdfibnaa Go.Proofs.Ytklmcfpgdfibnaa.Eng
set_option linter.unusedVariables false
theorem QG {l:List Nd} {i k:Nat} {v:Nd} (hk:k<l.length):nd (l.set k v) i=if i=k then v else nd l i:=by
 unfold nd
 by_cases h:i=k
 ·subst h
  rw [if_pos rfl,List.getD_eq_getElem?_getD,List.getElem?_set_self hk];rfl
 ·rw [if_neg h,List.getD_eq_getElem?_getD,List.getElem?_set_ne (Ne.symm h),List.getD_eq_getElem?_getD]
theorem GO {l:List Nd} {i:Nat}:ob (osN l) i=toO (nd l i):=by
 by_cases hi:i<l.length
 ·exact cZ hi
 ·unfold nd ob
  rw [List.getD_eq_getElem?_getD,List.getElem?_eq_none (by simpa using Nat.le_of_not_lt hi),List.getD_eq_getElem?_getD,List.getElem?_eq_none (by simpa using Nat.le_of_not_lt hi)]
  rfl
theorem nK {l:List Nd} {i j:Nat} {v:Int} {K:List T→Prop} (hi:i<l.length) (hj:j<(nd l i).field.length) (h:K (tR tN (l.set i {nd l i with field:=(nd l i).field.set j v}))):stc (tR tN l) [AA (iv i)*6+5] (AA (iv j)*1) (I v) K:=by
 rw [A9 j,Nat.mul_one]
 rw [←QD hi] at h hj
 exact mB hi (by decide) rfl (jT hj) (by simp only [iX];rfl) h
theorem nP {l:List Nd} {i:Nat} {v:Int} {K:List T→Prop} (hi:i<l.length) (h:K (tR tN (l.set i {nd l i with holds:=v}))):stc (tR tN l) [] (AA (iv i)*6+3) (I v) K:=by
 rw [←QD hi] at h
 exact OB hi (by decide) rfl rfl h
theorem oJ {l:List Nd} {i:Nat} {v:Int} {K:List T→Prop} (hi:i<l.length) (h:K (tR tN (l.set i {nd l i with roots:=v}))):stc (tR tN l) [] (AA (iv i)*6+4) (I v) K:=by
 rw [←QD hi] at h
 exact OB hi (by decide) rfl rfl h
theorem PX {os:List AU} {i:Nat}:nd (os.map HE) i=HE (ob os i):=by
 by_cases hi:i<os.length
 ·have h2:i<(os.map HE).length:=by simpa using hi
  rw [←QD h2, ←DH hi];simp
 ·unfold nd ob
  rw [List.getD_eq_getElem?_getD,List.getElem?_eq_none (by simpa using Nat.le_of_not_lt hi),List.getD_eq_getElem?_getD,List.getElem?_eq_none (by simpa using Nat.le_of_not_lt hi)]
  rfl
theorem zC {n:Nat} {K:Value→Prop} (hb:n≤2^48) (h:K (iv n)):mkW 1 (iv n) (iv n) K:=⟨n,rfl,rfl,by omega,h⟩
def tBo (l:List Bool):List T:=l.map fun b=>T.c (.bool b)
theorem WJ (l:List Bool):cnt 1 (tBo l)=l.length:=by simp [cnt,tBo]
theorem zG (n:Nat):R6 n [T.c (.bool false)]=tBo (List.replicate n false):=by
 unfold R6 tBo
 induction n with
 | zero=>rfl
 | succ n ih=>rw [List.replicate_succ,List.flatten_cons,ih];rfl
def qB (q:Que):List Bool:=(List.range 8).map fun i:Nat=>decide (inQ q (i:Int))
theorem c6 (q:Que):(qB q).length=8:=by simp [qB]
theorem yW:qB []=List.replicate 8 false:=by
 unfold qB
 refine List.ext_getElem (by simp) fun i h1 h2=> ?_
 rw [List.getElem_map,List.getElem_replicate]
 exact decide_eq_false (by simp [inQ])
theorem xG {q:Que} {i:Nat} {K:Value→Prop} (hi:i<8) (h:K (.bool (decide (inQ q (i:Int))))):ldc (tBo (qB q)) [] (AA (iv i)*1) K:=by
 refine ⟨_, ?_,h⟩
 rw [A9]
 simp [cell,node,tBo,qB,hi]
theorem xM {q:Que} {i:Nat} {p:Int} {K:List T→Prop} (hi:i<8) (h:K (tBo (qB (q++[((i:Int),p)])))):stc (tBo (qB q)) [] (AA (iv i)*1) (.bool true) K:=by
 refine ⟨⟨.bool (decide (inQ q (i:Int))), ?_⟩, ?_⟩
 ·rw [A9]
  simp [cell,node,tBo,qB,hi]
 ·have e:JZ (tBo (qB q)) [] (AA (iv i)*1) [.c (.bool true)]=tBo (qB (q++[((i:Int),p)])):=by
   have hl:i<(tBo (qB q)).length:=by simp [tBo,qB,hi]
   have e1:JZ (tBo (qB q)) [] (AA (iv i)*1) [.c (.bool true)]=(tBo (qB q)).set i (.c (.bool true)):=by
    rw [A9,Nat.mul_one]
    unfold JZ
    simp only [node,HY]
    exact U0 hl
   rw [e1]
   refine List.ext_getElem (by simp [tBo,qB]) fun k h1 h2=> ?_
   have hk:k<8:=by simpa [tBo,qB] using h2
   rw [List.getElem_set]
   by_cases hki:i=k
   ·subst hki
    rw [if_pos rfl]
    simp [tBo,qB,RS,inQ]
   ·rw [if_neg hki]
    have:inQ (q++[((i:Int),p)]) (k:Int)↔inQ q (k:Int):=by
     rw [RS]
     refine ⟨fun h=>h.resolve_right fun hh=> ?_, .inl⟩
     simp [inQ] at hh;omega
    simp [tBo,qB,this]
  rw [e];exact h
theorem dB {os:List AU} (hol:os.length=8): ∀n,n≤8→QI os (-1) (O6 os n)
 | 0,_=>QI.nil _ _
 | n+1,hn=>by
   have ih:=dB hol n (by omega)
   have e:O6 os (n+1)=O6 os n++if (ob os n).live=true∧w64 ((ob os n).holds+(ob os n).roots)>0 then [((n:Int),(-1:Int))] else []:=rfl
   rw [e]
   split
   ·rename_i hc
    have ea:O6 os n++[((n:Int),(-1:Int))]=J7 (-1) (O6 os n) (-1) (n:Int):=by
     unfold J7
     rw [if_neg]
     simp only [not_or]
     exact ⟨by omega,by omega,fun hh=>by have:=mK hh;omega⟩
    rw [ea]
    exact ih.add fun _=>⟨by omega,by simpa using hc.1⟩
   ·simpa using ih
def grQ (a:List Nd):Que:=QU (osN a) (-1) 9 0 (O6 (osN a) 8)
theorem z0 {a:List Nd} (ha:a.length=8) (hg: ∀i,i<8→(ob (osN a) i).live=true→1≤(ob (osN a) i).gen∧(ob (osN a) i).gen≤999):grQ a=iH (osN a) (-1) (exts (osN a)):=by
 have hl:(osN a).length=8:=by simpa using ha
 unfold grQ iH
 congr 1
 unfold exts
 rw [hl,aY hl hg 8 (Nat.le_refl _)]
theorem yN {a:List Nd} (ha:a.length=8):QI (osN a) (-1) (grQ a):=by
 unfold grQ
 have h0:=dB (os:=osN a) (by simpa using ha) 8 (Nat.le_refl _)
 generalize O6 (osN a) 8=q at h0
 generalize (0:Nat)=i
 generalize (9:Nat)=f
 induction f generalizing i q with
 | zero=>exact h0
 | succ f ih=>
   simp only [QU]
   split
   ·exact ih _ (TT _ h0).1 _
   ·exact h0
theorem s7 {q:Que} {i:Nat} (h:i<q.length):(slQ q).drop i=gQ q i::(slQ q).drop (i+1):=by
 have h2:i<(slQ q).length:=by simpa using h
 rw [List.drop_eq_getElem_cons h2]
 congr 1
 rw [DL h2,uC h]
theorem wJ {l:List Int} {off:Nat} {x:Int} {r:List Int} (h:l.drop off=x::r):gI l off=x∧off<l.length∧l.drop (off+1)=r:=by
 have hl:off<l.length:=by
  rcases Nat.lt_or_ge off l.length with h' | h'
  ·exact h'
  ·rw [List.drop_eq_nil_of_le h'] at h;cases h
 rw [List.drop_eq_getElem_cons hl] at h
 simp only [List.cons.injEq] at h
 exact ⟨by rw [←DL hl];exact h.1,hl,h.2⟩
theorem tQ {q:Que} {r:List Int} {off i m:Nat} {p:Int} (h:r.drop off=(slQ q).drop i) (hi:i≤q.length):(r.drop off++[(m:Int)]).drop 0=(slQ (q++[((m:Int),p)])).drop i:=by
 rw [List.drop_zero,h]
 show _=((q++[((m:Int),p)]).map (·.1)).drop i
 rw [List.map_append,List.drop_append_of_le_length (by simpa using hi)]
 rfl
theorem rM {l:List Int} {off:Nat}:G4 (tI l) [] (AA (iv off)) (AA (iv (l.length-off))*1)=tI (l.drop off):=by
 rw [pF]
 congr 1
 rw [List.take_of_length_le]
 rw [List.length_drop]
 exact Nat.le_refl _
set_option maxHeartbeats 4000000
set_option linter.unusedVariables false
set_option linter.unusedSimpArgs false
attribute [local irreducible] prP gP gE gF AX ixW ldc ldg ldl stc stg scW mkW apW BE cl2 BS DF CB
variable {w0:World}
theorem NX {a:List Nd} {b c:List T} {K:J2} (ha:a.length=8) (hf: ∀i,i<8→(nd a i).field.length≤1000∧ ∀f∈(nd a i).field,F64 f) (h:K [] [tI (SR (grQ a))]):cl2 ⟨Try.prog,w0⟩ 72 DA.sg [] [tR tN a,b,c] K:=by
 have hol:(osN a).length=8:=by simpa using ha
 refine DA.cl2 ?_
 unfold DA.txt
 simp only [AI,AO,AM,AS,AH,AE,AG,AK,AN,AP,AR,AT,AQ,AL,BD,BJ,BL,BK,BM,BN,BG,A4,AZ,A6,A8,A5,A7]
 refine zC (by omega) ?_
 rw [A9,zG,ha, ←yW]
 refine BH (fun i=>[iv i]) (fun i=>[tBo (qB (O6 (osN a) i)),tI (slQ (O6 (osN a) i))]) 8 (fun _=>True) rfl rfl trivial (fun R i hi _ hR=> ?_)
 have qi:=dB hol i hi
 have ql:=qi.len
 have sl:(slQ (O6 (osN a) i)).length=(O6 (osN a) i).length:=by simp
 simp only [AI,AO,AM,AS,AH,AE,AG,AK,AN,AP,AR,AT,AQ,AL,BD,BJ,BL,BK,BM,BN,BG,A4,AZ,A6,A8,A5,A7]
 try simp only [WJ,c6]
 refine AY (AW (fun hlt=>BP ?_) fun hge=> ?_)
 ·have hlt:i<8:=by omega
  have hla:i<a.length:=by omega
  have hR:=hR hlt trivial
  have eo:=cZ (l:=a) hla
  have ex:O6 (osN a) (i+1)=O6 (osN a) i++if (ob (osN a) i).live=true∧w64 ((ob (osN a) i).holds+(ob (osN a) i).roots)>0 then [((i:Int),(-1:Int))] else []:=rfl
  rw [eo] at ex
  have e1:(toO (nd a i)).live=(nd a i).live:=rfl
  have e2:(toO (nd a i)).holds=(nd a i).holds:=rfl
  have e3:(toO (nd a i)).roots=(nd a i).roots:=rfl
  rw [e1,e2,e3] at ex
  refine AJ (by omega) (K2 hla rfl ?_)
  cases hv:(nd a i).live with
  | false=>
    rw [if_neg (by rw [hv];simp),List.append_nil] at ex
    rw [ex] at hR
    exact BC (BC (BC (HC (BC (HC (BC (BC (BC (HC (BC (HC (HC (HC (P5 rfl (BU (BA (by omega) hR))))))))))))))))
  | true=>
    refine BC (BC (BC (H4 (AJ (by omega) (BC (H4 (KI (c:=3) hla (by decide) rfl (BC (BC (BC (H4 (AJ (by omega) (BC (H4 (KI (c:=4) hla (by decide) rfl (H4 (GH (H4 (HB (P9 rfl (AW (fun hc=> ?_) fun hc=> ?_)))))))))))))))))))))
    ·rw [if_pos ⟨hv,hc⟩] at ex
     rw [ex] at hR
     refine AJ (by omega) (xM (p:= -1) (by omega) (DC rfl (by omega) (BA (by omega) ?_)))
     have es:tI (slQ (O6 (osN a) i))++[T.c (I (i:Int))]=tI (slQ (O6 (osN a) i++[((i:Int),(-1:Int))])):=by rw [DO];simp [slQ]
     rw [←es] at hR
     exact hR
    ·rw [if_neg (fun hh=>hc hh.2),List.append_nil] at ex
     rw [ex] at hR
     exact BA (by omega) hR
 have:i=8:=by omega
 subst this
 clear hR R
 unfold grQ at h
 obtain ⟨q0,eq0⟩: ∃q,O6 (osN a) 8=q:=⟨_,rfl⟩
 rw [eq0] at qi ql sl h ⊢
 refine DI (α:=Nat×Que×List Int×Nat) (fun s=>[iv (s.2.2.1.length-s.2.2.2),iv s.2.2.2]) (fun s=>[tBo (qB s.2.1),tI s.2.2.1]) (fun s=>9-s.1) (fun s=>QI (osN a) (-1) s.2.1∧s.1≤s.2.1.length∧s.2.2.1.drop s.2.2.2=(slQ s.2.1).drop s.1∧s.2.2.2≤s.2.2.1.length∧s.2.2.1.length≤8∧ ∃f,8<f+s.1∧QU (osN a) (-1) f s.1 s.2.1=QU (osN a) (-1) 9 0 q0) (0,q0,slQ q0,0) rfl rfl ⟨qi,by simp,rfl,Nat.zero_le _,by simp only;omega,9,by simp,rfl⟩ (fun R s hs hR=> ?_)
 obtain ⟨i,q,r,off⟩:=s
 obtain ⟨hq,hiq,hr,hoff,hrl,f,hff,hb⟩:=hs
 simp only at hq hiq hr hoff hrl hff hb
 have ql:=hq.len
 have sl:(slQ q).length=q.length:=by simp
 have hlen:r.length-off=q.length-i:=by
  have:=congrArg List.length hr
  simp only [List.length_drop,sl] at this
  exact this
 simp only [AI,AO,AM,AS,AH,AE,AG,AK,AN,AP,AR,AT,AQ,AL,BD,BJ,BL,BK,BM,BN,BG,A4,AZ,A6,A8,A5,A7]
 simp only [A9]
 refine HB (AW (fun hgt=> ?_) fun hle=> ?_)
 ·have hlt:i<q.length:=by omega
  obtain ⟨k,ek,k8,kv,_⟩:=hq.lv _ (fE hlt)
  rw [s7 hlt,ek] at hr
  obtain ⟨g1,g2,g3⟩:=wJ hr
  have hka:k<a.length:=by omega
  have eo:=cZ (l:=a) hka
  have efl:(ob (osN a) k).field=(nd a k).field:=by rw [eo];rfl
  obtain ⟨f,rfl⟩: ∃f',f=f'+1:=⟨f-1,by omega⟩
  have hb':=hb
  rw [QU,if_pos hlt,nX,ek,Int.toNat_natCast,efl] at hb'
  obtain ⟨hfl,hfF⟩:=hf k k8
  refine AJ (j:=0) (by omega) ?_
  have eld: ∀{K:Value→Prop},K (I (gI r off))→ldc (tI r) [] (off+AA (iv 0)*1) K:=fun hK=>by
   have:=uI (l:=r) (a:=off) g2 hK
   rwa [A9 off] at this
  refine eld (sH (by omega) ?_)
  rw [g1]
  simp only [A9]
  refine DI (α:=Nat×Que×List Int×Nat) (fun s=>[iv (s.2.2.1.length-s.2.2.2),iv s.2.2.2,iv k,iv s.1]) (fun s=>[tBo (qB s.2.1),tI s.2.2.1]) (fun s=>(nd a k).field.length-s.1) (fun s=>s.1≤(nd a k).field.length∧QI (osN a) (-1) s.2.1∧s.2.1=nO (osN a) (-1) q k ((nd a k).field.take s.1)∧s.2.2.1.drop s.2.2.2=(slQ s.2.1).drop (i+1)∧s.2.2.2≤s.2.2.1.length∧s.2.2.1.length≤8∧i+1≤s.2.1.length) (0,q,r,off+1) (by rw [show r.length-off-1=r.length-(off+1) from by omega];rfl) rfl ⟨Nat.zero_le _,hq,by simp [nO],g3,g2,hrl,by simp only;omega⟩ (fun R2 s hs hR2=> ?_)
  obtain ⟨j,q2,r2,off2⟩:=s
  obtain ⟨hj,hq2,eq2,hr2,hoff2,hrl2,hi2⟩:=hs
  simp only at hj hq2 eq2 hr2 hoff2 hrl2 hi2
  have ql2:=hq2.len
  have sl2:(slQ q2).length=q2.length:=by simp
  have hlen2:r2.length-off2=q2.length-(i+1):=by
   have:=congrArg List.length hr2
   simp only [List.length_drop,sl2] at this
   exact this
  simp only [AI,AO,AM,AS,AH,AE,AG,AK,AN,AP,AR,AT,AQ,AL,BD,BJ,BL,BK,BM,BN,BG,A4,AZ,A6,A8,A5,A7]
  simp only [A9]
  refine AJ (by omega) (YO hka ?_)
  rw [TG hka]
  try simp only [AE]
  refine AY (AW (fun hlj=>BP ?_) fun hgj=> ?_)
  ·have hlj:j<(nd a k).field.length:=by omega
   have fid:F64 (gI (nd a k).field j):=hfF _ (DS hlj)
   have es:nO (osN a) (-1) q k ((nd a k).field.take (j+1))=J7 (-1) q2 k (AB (osN a) (gI (nd a k).field j)):=by
    rw [eq2];unfold nO;exact O4 hlj _ _
   refine AJ (by omega) (YO hka ?_)
   rw [TG hka]
   refine AJ (by rw [AE];exact hlj) (p9 hka hlj (I2 fid (by omega) (JW (BC (BC ?_)))))
   have stay:J7 (-1) q2 k (AB (osN a) (gI (nd a k).field j))=q2→R2 [iv (r2.length-off2),iv off2,iv k,iv (j+1)] [tBo (qB q2),tI r2]:=fun e0=>hR2 (j+1,q2,r2,off2) ⟨hlj,hq2,by rw [es,e0],hr2,hoff2,hrl2,hi2⟩ (by simp only;omega)
   by_cases hc:AB (osN a) (gI (nd a k).field j)≥0
   ·obtain ⟨m,em⟩: ∃m:Nat,AB (osN a) (gI (nd a k).field j)=(m:Int):=⟨(AB (osN a) (gI (nd a k).field j)).toNat,by omega⟩
    have hlv:=WB hc
    rw [em] at hc hlv es stay ⊢
    rw [Int.toNat_natCast] at hlv
    have m8:=hlv.1
    refine FF hc (AJ (by rw [WJ,c6];exact m8) (FF hc (xG m8 ?_)))
    by_cases hm:inQ q2 (m:Int)
    ·rw [decide_eq_true hm]
     exact FF hc (B2 (C4 hc rfl (BU (BA (by omega) (stay (by unfold J7;rw [if_pos (.inr (.inr hm))]))))))
    ·rw [decide_eq_false hm]
     have e1:J7 (-1) q2 k (m:Int)=q2++[((m:Int),(k:Int))]:=by
      unfold J7
      rw [if_neg]
      simp only [not_or]
      exact ⟨by omega,by omega,hm⟩
     refine FF hc (B2 (C4 hc rfl (BV (AJ (by rw [WJ,c6];exact m8) (xM (p:=(k:Int)) m8 (DC rfl (by first | omega | (rw [AK];omega)) (BA (by omega) ?_)))))))
     have e2:=rM (l:=r2) (off:=off2)
     simp only [A9] at e2
     rw [e2]
     have e3:tI (r2.drop off2)++[T.c (I (m:Int))]=tI (r2.drop off2++[(m:Int)]):=DO _ _
     simp only [BD,BJ,BL,BK,BM,A4,AZ,A9]
     rw [e3,AE]
     have hq3:QI (osN a) (-1) (q2++[((m:Int),(k:Int))]):=by
      rw [←e1]
      exact hq2.add fun _=>⟨by simpa using m8,by simpa using hlv.2⟩
     have ql3:=hq3.len
     rw [List.length_append,List.length_singleton] at ql3
     have hdl:(r2.drop off2).length=r2.length-off2:=List.length_drop
     exact hR2 (j+1,q2++[((m:Int),(k:Int))],r2.drop off2++[(m:Int)],0) ⟨hlj,hq3,by rw [es,e1],tQ hr2 hi2,Nat.zero_le _,by simp only [List.length_append,List.length_singleton,hdl];omega,by simp only [List.length_append,List.length_singleton];omega⟩ (by simp only;omega)
   ·exact IB hc (IB hc (IB hc (CZ hc rfl (BU (BA (by omega) (stay (by unfold J7;rw [if_pos (.inl (by omega))])))))))
  ·have:j=(nd a k).field.length:=by omega
   subst this
   rw [List.take_length] at eq2
   exact hR (i+1,q2,r2,off2) ⟨hq2,hi2,hr2,hoff2,hrl2,f,by simp only;omega,by rw [eq2];exact hb'⟩ (by simp only;omega)
 ·have hiq2:i=q.length:=by omega
  have hfin:QU (osN a) (-1) 9 0 q0=q:=by
   rw [←hb]
   cases f with
   | zero=>rfl
   | succ f=>rw [QU,if_neg (by omega)]
  rw [hfin] at h
  refine BH (fun i=>[iv i]) (fun i=>[tBo (qB q),tI (pick (fun i=>if inQ q (i:Int) then [(i:Int)] else []) i)]) 8 (fun _=>True) rfl rfl trivial (fun R i hi _ hR=> ?_)
  have pl:(pick (fun i=>if inQ q (i:Int) then [(i:Int)] else []) i).length≤i:=JQ (fun i=>by split <;> simp) i
  simp only [AI,AO,AM,AS,AH,AE,AG,AK,AN,AP,AR,AT,AQ,AL,BD,BJ,BL,BK,BM,BN,BG,A4,AZ,A6,A8,A5,A7]
  try simp only [WJ,c6]
  refine AY (AW (fun hlt=>BP ?_) fun hge=> ?_)
  ·have hlt:i<8:=by omega
   have hR:=hR hlt trivial
   refine AJ hlt (xG hlt (AW (fun hm=> ?_) fun hm=> ?_))
   ·rw [pick,if_pos hm, ←DO] at hR
    exact DC rfl (by first | omega | (simp only [AI,AO,AM,AS,AH,AE,AG,AK,AN,AP,AR,AT,AQ,AL,BD,BJ,BL,BK,BM,BN,BG,A4,AZ,A6,A8,A5,A7];omega)) (BA (by omega) hR)
   ·rw [pick,if_neg hm,List.append_nil] at hR
    exact BA (by omega) hR
  ·have:i=8:=by omega
   subst this
   exact h
end Go.Proofs.Ytklmcfpgdfibnaa.P
namespace Go.Proofs.Ytklmcfpgdfibnaa.P
open Go Go.Proofs.Ytklmcfpgdfibnaa Go.Proofs.Ytklmcfpgdfibnaa.Eng
set_option linter.unusedVariables false
set_option maxHeartbeats 4000000
set_option linter.unusedVariables false
set_option linter.unusedSimpArgs false
attribute [local irreducible] prP gP gE gF AX ixW ldc ldg ldl stc stg scW mkW apW BE cl2 BS DF CB
variable {w0:World}
end Go.Proofs.Ytklmcfpgdfibnaa.P
namespace Go.Proofs.Ytklmcfpgdfibnaa.P
open Go Go.Proofs.Ytklmcfpgdfibnaa Go.Proofs.Ytklmcfpgdfibnaa.Eng
set_option linter.unusedVariables false
theorem gT {l:List Nd} {i:Nat} {y:Nd} {ts:List T} {K:List T→Prop} (hi:i<l.length) (hy:ts=tN y) (h:K (tR tN (l.set i y))):stg (tR tN l) [] (AA (iv i)*6) ts K:=KF (f:=tN) hi (y:=y) hy h
theorem xC {l:List Int} {i:Nat} {v:Int} {K:List T→Prop} (hi:i<l.length) (h:K (tI (l.set i v))):stc (tI l) [] (AA (iv i)*1) (I v) K:=by
 refine ⟨⟨I l[i], ?_⟩, ?_⟩
 ·rw [A9,Nat.mul_one]
  show (tI l)[i]? =_
  exact jT hi
 ·have hl:i<(tI l).length:=by simpa [tI] using hi
  have e:JZ (tI l) [] (AA (iv i)*1) [.c (I v)]=tI (l.set i v):=by
   rw [A9,Nat.mul_one]
   unfold JZ
   simp only [node,HY]
   rw [U0 hl,iX]
  rw [e];exact h
set_option maxHeartbeats 4000000
set_option linter.unusedVariables false
set_option linter.unusedSimpArgs false
attribute [local irreducible] prP gP gE gF AX ixW ldc ldg ldl stc stg scW mkW apW BE cl2 BS DF CB
variable {w0:World}
theorem pN {l:List Int} {K:J2} (hl:l.length≤1000) (h: ∀out:List Int,out.Perm l→out.Pairwise (· ≤ ·)→K [] [tI out]):FH.txt ⟨Try.prog,w0⟩ (tI l) K:=by
 unfold FH.txt
 simp only [AI,AO,AM,AS,AH,AE,AG,AK,AN,AP,AR,AT,AQ,AL,BD,BJ,BL,BK,BM,BN,BG,A4,AZ,A6,A8,A5,A7]
 refine DC (KZ l) (by omega) ?_
 rw [List.nil_append]
 refine DI (α:=Nat×List Int) (fun s=>[iv s.1]) (fun s=>[tI s.2]) (fun s=>l.length-s.1) (fun s=>s.1≤l.length∧s.2.Perm l∧upI s.1 s.2) (0,l) rfl rfl ⟨Nat.zero_le _,List.Perm.refl _,fun a b h1 h2=>by simp only at h2;omega⟩ (fun R s hs hR=> ?_)
 obtain ⟨i,q⟩:=s
 obtain ⟨hi,hp,hu⟩:=hs
 simp only at hi hp hu
 have ql:=hp.length_eq
 simp only [AI,AO,AM,AS,AH,AE,AG,AK,AN,AP,AR,AT,AQ,AL,BD,BJ,BL,BK,BM,BN,BG,A4,AZ,A6,A8,A5,A7]
 refine AY (AW (fun hlt=> ?_) fun hge=> ?_)
 ·have hlt:i<l.length:=by omega
  refine DI (α:=Nat×List Int) (fun s=>[iv i,iv s.1]) (fun s=>[tI s.2]) (fun s=>s.1) (fun s=>cN l i s.1 s.2) (i,q) rfl rfl (cN.start hp hu) (fun R2 s hs hR2=> ?_)
  obtain ⟨k,q2⟩:=s
  simp only at hs
  have ql2:=hs.pm.length_eq
  have ki:=hs.ki
  simp only [AI,AO,AM,AS,AH,AE,AG,AK,AN,AP,AR,AT,AQ,AL,BD,BJ,BL,BK,BM,BN,BG,A4,AZ,A6,A8,A5,A7]
  have fin:(k=0∨gI q2 (k-1)≤gI q2 k)→prP (bnI .add (iv i) (I 1)) fun t15_29=>R [t15_29] [tI q2]:=fun he=>BA (by omega) (hR (i+1,q2) ⟨hlt,hs.pm,hs.done he⟩ (by simp only;omega))
  refine HB (BC (BC ?_))
  by_cases h0:(k:Int)>0
  ·have kl:k<q2.length:=by omega
   have e1:(k:Int)-1=((k-1:Nat):Int):=by omega
   refine FF h0 (AJ kl (FF h0 (ldI kl (BC (BC (FF h0 (FJ ⟨by omega,by omega⟩ ?_)))))))
   rw [e1]
   refine FF h0 (AJ (by omega) (FF h0 (ldI (by omega) (FF h0 (AY (C4 h0 rfl (AW (fun hc=> ?_) fun hc=> ?_)))))))
   ·refine AJ kl (ldI kl (FJ ⟨by omega,by omega⟩ ?_))
    rw [e1]
    refine AJ (by omega) (ldI (by omega) (AJ kl (xC kl (FJ ⟨by omega,by omega⟩ ?_))))
    rw [e1]
    refine AJ (by rw [AE,List.length_set];omega) (xC (by rw [List.length_set];omega) (FJ ⟨by omega,by omega⟩ ?_))
    rw [e1]
    exact hR2 (k-1,swp q2 k) (hs.swap (by omega) (by omega) hc) (by simp only;omega)
   ·exact fin (.inr (by omega))
  ·exact IB h0 (IB h0 (BC (BC (IB h0 (IB h0 (IB h0 (IB h0 (CZ h0 rfl (BU (fin (.inl (by omega))))))))))))
 ·have:i=l.length:=by omega
  subst this
  exact h q hp (mY (by rw [ql];exact hu))
theorem SJ {l:List Int} {K:J2} (hl:l.length≤1000) (h: ∀out:List Int,out.Perm l→out.Pairwise (· ≤ ·)→K [] [tI out]):cl2 ⟨Try.prog,w0⟩ 160 FH.sg [] [tI l] K:=FH.cl2 (pN hl h)
theorem ZM {l:List Int} {K:J2} (hl:l.length≤1000) (h: ∀out:List Int,out.Perm l→out.Pairwise (· ≤ ·)→K [] [tI out]):cl2 ⟨Try.prog,w0⟩ 66 IF.sg [] [tI l] K:=IF.cl2 (pN (w0:=w0) hl h)
structure NOk (a:List Nd):Prop where
 len:a.length=8
 nd: ∀i,i<8→(nd a i).field.length=3∧(∀f∈(Eng.nd a i).field,F64 f)∧(0≤(Eng.nd a i).gen∧(Eng.nd a i).gen≤1000)∧(0≤(Eng.nd a i).holds∧(Eng.nd a i).holds≤20)∧(0≤(Eng.nd a i).roots∧(Eng.nd a i).roots≤20)
theorem NOk.fl {a:List Nd} (h:NOk a): ∀i,i<8→(Eng.nd a i).field.length≤1000∧ ∀f∈(Eng.nd a i).field,F64 f:=fun i hi=>⟨by rw [(h.nd i hi).1];omega,(h.nd i hi).2.1⟩
theorem NOk.set {a:List Nd} (h:NOk a) {k:Nat} {v:Nd} (hk:k<8) (h1:v.field.length=3) (h2: ∀f∈v.field,F64 f) (h3:0≤v.gen∧v.gen≤1000) (h4:0≤v.holds∧v.holds≤20) (h5:0≤v.roots∧v.roots≤20):NOk (a.set k v):=by
 have hl:=h.len
 refine ⟨by simp [hl],fun i hi=> ?_⟩
 rw [QG (by omega)]
 split
 ·exact ⟨h1,h2,h3,h4,h5⟩
 ·exact h.nd i hi
def MB (g:Int):Nd:=⟨false,g,0,0,0,MX⟩
theorem l7: ∀f∈MX,F64 f:=by simp [MX,F64]
theorem NOk.free {a:List Nd} (h:NOk a) {k:Nat} (hk:k<8):NOk (a.set k (MB (Eng.nd a k).gen)):=h.set hk rfl l7 (h.nd k hk).2.2.1 ⟨by simp [MB],by simp [MB]⟩ ⟨by simp [MB],by simp [MB]⟩
theorem mE (a:List Nd) (k:Nat) (v:Nd):osN (a.set k v)=(osN a).set k (toO v):=List.map_set
def pO (a:List Nd) (i:Nat):Int:=(nd a i).holds+(nd a i).roots+(CJ (osN a) (B9 i (nd a i).gen):Int)
theorem TX {a:List Nd} {b c:List T} {i:Nat} {K:J2} (na:NOk a) (hi:i<8) (hv:(nd a i).live=true) (h:K [I (pO a i)] []):cl2 ⟨Try.prog,w0⟩ 161 EA.sg [iv i] [tR tN a,b,c] K:=by
 have al:=na.len
 have il:i<a.length:=by omega
 obtain ⟨_,_,⟨g1,g2⟩,⟨h1,h2⟩,r1,r2⟩:=na.nd i hi
 refine EA.cl2 ?_
 unfold EA.txt
 simp only [AI,AO,AM,AS,AH,AE,AG,AK,AN,AP,AR,AT,AQ,AL,BD,BJ,BL,BK,BM,BN,BG,A4,AZ,A6,A8,A5,A7]
 refine FJ ⟨by omega,by omega⟩ (CN (CQ ?_))
 have p1: ¬ ¬(0≤(i:Int)∧(i:Int)≤(a.length:Int)-1):=by omega
 refine BC (BC (BC (EC p1 (AJ il (BC (EC p1 (K2 (v:= .bool true) il (by simp [tN,hv]) (EC p1 (B2 (CZ p1 rfl (BU ?_)))))))))))
 refine AJ il (KI (c:=3) il (by decide) rfl (AJ il (KI (c:=4) il (by decide) rfl (DN ⟨by omega,by omega⟩ (AJ il (KI (c:=1) il (by decide) rfl (FD ?_)))))))
 unfold pO at h
 generalize B9 (i:Int) (nd a i).gen=id at h ⊢
 generalize hbs:(nd a i).holds+(nd a i).roots=bs at h ⊢
 refine BH (fun m=>[I (bs+(CJ ((osN a).take m) id:Nat)),I id,iv m]) (fun _=>[]) a.length (fun _=>True) (by rw [List.take_zero,show CJ [] id=0 from by simp [CJ],Int.natCast_zero,Int.add_zero];rfl) rfl trivial (fun R m hm _ hR=> ?_)
 have he:=NB (l:=(osN a).take m) (id:=id) (b:=3) fun o ho=>by
  obtain ⟨j,hj,rfl⟩:=List.getElem_of_mem (List.mem_of_mem_take ho)
  rw [DH hj,GO]
  show (nd a j).field.length≤3
  rw [(na.nd j (by simp at hj;omega)).1];exact Nat.le_refl _
 have hln:((osN a).take m).length≤8:=by simp;omega
 have hmul:((osN a).take m).length*3≤8*3:=Nat.mul_le_mul_right _ (by omega)
 simp only [AI,AO,AM,AS,AH,AE,AG,AK,AN,AP,AR,AT,AQ,AL,BD,BJ,BL,BK,BM,BN,BG,A4,AZ,A6,A8,A5,A7]
 refine AY (AW (fun hlt=> ?_) fun hge=> ?_)
 ·have hlt:m<a.length:=by omega
  have m8:m<8:=by omega
  have hR:=hR hlt trivial
  rw [S9 (by simpa using hlt),MG,GO] at hR
  have fl:=(na.nd m m8).1
  have t1:(toO (nd a m)).live=(nd a m).live:=rfl
  have t2:(toO (nd a m)).field=(nd a m).field:=rfl
  rw [t1,t2] at hR
  refine BH (fun j=>[I (bs+((CJ ((osN a).take m) id+(if (nd a m).live=true then ((nd a m).field.take j).count id else 0):Nat):Int)),I id,iv m,iv j]) (fun _=>[]) (nd a m).field.length (fun _=>True) (by simp only [List.take_zero,List.count_nil,ite_self,Nat.add_zero];rfl) rfl trivial (fun R2 j hj _ hR2=> ?_)
  have hc:((nd a m).field.take j).count id≤j:=Nat.le_trans List.count_le_length (by simp;omega)
  simp only [AI,AO,AM,AS,AH,AE,AG,AK,AN,AP,AR,AT,AQ,AL,BD,BJ,BL,BK,BM,BN,BG,A4,AZ,A6,A8,A5,A7]
  refine AJ hlt (YO hlt ?_)
  rw [TG hlt,AE]
  refine AY (AW (fun hlj=>BP ?_) fun hgj=> ?_)
  ·have hlj:j<(nd a m).field.length:=by omega
   have hR2:=hR2 hlj trivial
   rw [S7 hlj] at hR2
   refine AJ hlt ?_
   by_cases hv2:(nd a m).live=true
   ·simp only [if_pos hv2] at hR2 ⊢
    refine K2 (v:= .bool true) hlt (by simp [tN,hv2]) (BC (BC (BC (H4 (AJ hlt (BC (H4 (YO hlt (BC ?_)))))))))
    rw [TG hlt,AE]
    refine H4 (AJ hlj (H4 (p9 hlt hlj (BC (H4 (BF (P9 rfl (AW (fun he2=> ?_) fun he2=> ?_))))))))
    ·rw [if_pos he2] at hR2
     refine DN ⟨by omega,by omega⟩ (BA (by omega) ?_)
     rw [show bs+((CJ ((osN a).take m) id+((nd a m).field.take j).count id:Nat):Int)+1=bs+((CJ ((osN a).take m) id+(((nd a m).field.take j).count id+1):Nat):Int) from by omega]
     exact hR2
    ·rw [if_neg he2] at hR2
     exact BA (by omega) hR2
   ·have hv2:(nd a m).live=false:=by simpa using hv2
    simp only [hv2,Bool.false_eq_true,if_false] at hR2 ⊢
    exact K2 (v:= .bool false) hlt (by simp [tN,hv2]) (BC (BC (BC (HC (BC (HC (BC (HC (HC (BC (HC (P5 rfl (BU (BA (by omega) hR2))))))))))))))
  ·have:j=(nd a m).field.length:=by omega
   subst this
   rw [List.take_length] at hc ⊢
   exact BA (by omega) hR
 ·have:m=a.length:=by omega
  subst this
  have e:(osN a).take a.length=osN a:=List.take_of_length_le (by simp)
  rw [e];exact h
end Go.Proofs.Ytklmcfpgdfibnaa.P
namespace Go.Proofs.Ytklmcfpgdfibnaa.P
open Go Go.Proofs.Ytklmcfpgdfibnaa Go.Proofs.Ytklmcfpgdfibnaa.Eng
set_option linter.unusedVariables false
set_option maxHeartbeats 4000000
set_option linter.unusedVariables false
set_option linter.unusedSimpArgs false
attribute [local irreducible] prP gP gE gF AX ixW ldc ldg ldl stc stg scW mkW apW BE cl2 BS DF CB
variable {w0:World}
def qO (a:List Nd):Prop:= ∀i,i<8→(nd a i).live=true→1≤(nd a i).gen∧(nd a i).gen≤999
theorem rG {a:List Nd} (na:NOk a) {i:Nat} (hi:i<8) (hv:(nd a i).live=true):lvs (osN (a.set i (MB (nd a i).gen)))+1=lvs (osN a):=by
 have il:i<(osN a).length:=by have:=na.len;simp;omega
 have:=PJ (os:=osN a) (k:=i) il (by rw [GO];exact hv) (toO (MB (nd a i).gen))
 rw [mE]
 rw [if_neg (by simp [toO,MB])] at this
 omega
theorem qS {a:List Nd} (na:NOk a) {i:Nat} (hi:i<8) (h:pO a i≠0):PT (osN a) i:=by
 obtain ⟨_,_,_,⟨h1,_⟩,r1,_⟩:=na.nd i hi
 have e:ob (osN a) i=toO (nd a i):=GO
 unfold pO at h
 unfold PT
 rw [e]
 by_cases h0:0<(nd a i).holds+(nd a i).roots
 ·exact .inl h0
 ·obtain ⟨j,hj,jv,jm⟩:=aD (os:=osN a) (id:=B9 i (nd a i).gen) (by omega)
  exact .inr ⟨j,by have:=na.len;simp at hj;omega,jv,jm⟩
theorem SD {a:List Nd} {b c:List T} {K:J2} (na:NOk a) (hg:qO a) (h: ∀(a':List Nd) (fr out:List Int),NOk a'→HX (osN a) (osN a') fr→JN (osN a) (osN a')→(∀i,i<8→(ob (osN a') i).live=true→PT (osN a') i)→out.Perm fr→out.Pairwise (· ≤ ·)→K [] [tR tN a',tI out]):cl2 ⟨Try.prog,w0⟩ 138 F5.sg [] [tR tN a,b,c] K:=by
 have ol:(osN a).length=8:=by simpa using na.len
 have lv8:=US ol
 refine F5.cl2 ?_
 unfold F5.txt
 refine DI (α:=Bool×List Nd×List Int) (fun s=>[.bool s.1]) (fun s=>[tI s.2.2,tR tN s.2.1]) (fun s=>lvs (osN s.2.1)+if s.1=true then 1 else 0) (fun s=>NOk s.2.1∧HX (osN a) (osN s.2.1) s.2.2∧JN (osN a) (osN s.2.1)∧(s.1=false→ ∀i,i<8→(ob (osN s.2.1) i).live=true→PT (osN s.2.1) i)) (true,a,[]) rfl rfl ⟨na,HX.refl ol,JN.refl _,fun hh=>(by cases hh)⟩ (fun R s hs hR=> ?_)
 obtain ⟨again,a1,fr1⟩:=s
 obtain ⟨n1,R1,D1,H1⟩:=hs
 simp only at n1 R1 D1 H1
 have al1:=n1.len
 have ct1:=R1.ct
 simp only [AI,AO,AM,AS,AH,AE,AG,AK,AN,AP,AR,AT,AQ,AL,BD,BJ,BL,BK,BM,BN,BG,A4,AZ,A6,A8,A5,A7]
 cases again with
 | false=>
   exact BU (SJ (by omega) fun out hp hs=>h a1 fr1 out n1 R1 D1 (H1 rfl) hp hs)
 | true=>
   refine BV ?_
   refine DI (α:=Nat×Bool×List Nd×List Int) (fun s=>[.bool s.2.1,iv s.1]) (fun s=>[tI s.2.2.2,tR tN s.2.2.1]) (fun s=>8-s.1) (fun s=>s.1≤8∧NOk s.2.2.1∧HX (osN a) (osN s.2.2.1) s.2.2.2∧JN (osN a) (osN s.2.2.1)∧(s.2.1=true→lvs (osN s.2.2.1)+1≤lvs (osN a1))∧(s.2.1=false→s.2.2.1=a1∧ ∀m,m<s.1→(nd a1 m).live=true→PT (osN a1) m)) (0,false,a1,fr1) rfl rfl ⟨by simp,n1,R1,D1,fun hh=>(by cases hh),fun _=>⟨rfl,fun m hm=>by simp at hm⟩⟩ (fun R2 s hs hR2=> ?_)
   obtain ⟨i,ag,a2,fr2⟩:=s
   obtain ⟨hi,n2,R2',D2,L2,H2⟩:=hs
   simp only at hi n2 R2' D2 L2 H2
   have al2:=n2.len
   have ct2:=R2'.ct
   simp only [AI,AO,AM,AS,AH,AE,AG,AK,AN,AP,AR,AT,AQ,AL,BD,BJ,BL,BK,BM,BN,BG,A4,AZ,A6,A8,A5,A7]
   refine AY (AW (fun hlt=>BP ?_) fun hge=> ?_)
   ·have i8:i<8:=by omega
    have il:i<a2.length:=by omega
    refine AJ il ?_
    cases hv:(nd a2 i).live with
    | false=>
      refine K2 (v:= .bool false) il (by simp [tN,hv]) (BC (BC (HC (HC (P5 rfl (BU (BA (by omega) ?_)))))))
      refine hR2 (i+1,ag,a2,fr2) ⟨i8,n2,R2',D2,L2,fun hh=> ?_⟩ (by simp only;omega)
      obtain ⟨e1,e2⟩:=H2 hh
      refine ⟨e1,fun m hm mv=> ?_⟩
      simp only at e1 hm
      by_cases hmi:m=i
      ·subst hmi;rw [←e1,hv] at mv;cases mv
      ·exact e2 m (by omega) mv
    | true=>
      refine K2 (v:= .bool true) il (by simp [tN,hv]) (BC (BC (H4 (TX n2 i8 hv (H4 (BF (P9 rfl (AW (fun h0=> ?_) fun h0=> ?_))))))))
      ·have gi:1≤(nd a2 i).gen∧(nd a2 i).gen≤999:=by
        have e:=R2'.gn i i8
        have sm:=(R2'.sm i i8 (by rw [GO];exact hv)).1
        rw [GO,GO] at e
        rw [GO] at sm
        have:=hg i i8 sm
        have e:(nd a2 i).gen=(nd a i).gen:=e
        rw [e];exact this
       have e2:ob (osN a2) i=toO (nd a2 i):=GO
       have hs:AB (osN a2) (B9 i (nd a2 i).gen)=(i:Int):=by
        have:=EM (os:=osN a2) (by simpa using al2) i8 (by rw [e2];exact hv) (by rw [e2];exact gi.1) (by rw [e2];exact gi.2)
        rw [e2] at this
        exact this
       refine AJ il (KI (c:=1) il (by decide) rfl (FD (DC rfl (by first | omega | (simp only [AI,AO,AM,AS,AH,AE,AG,AK,AN,AP,AR,AT,AQ,AL,BD,BJ,BL,BK,BM,BN,BG,A4,AZ,A6,A8,A5,A7];omega)) (AJ il (KI (c:=1) il (by decide) rfl (GX (AJ il (gT (y:=MB (nd a2 i).gen) il rfl (BA (by omega) ?_)))))))))
       simp only [BD]
       rw [DO]
       obtain ⟨_,_,_,⟨q1,_⟩,q2,_⟩:=n2.nd i i8
       have h0':=h0
       unfold pO at h0'
       have F:=R2'.free hs
       have Dn:=D2.free (v:=toO (MB (nd a2 i).gen)) R2' i8 (by rw [e2];exact hv) (by rw [e2];show (nd a2 i).holds+(nd a2 i).roots=0;omega) (fun j j8 jv=>by
        rw [e2]
        exact PL (os:=osN a2) (id:=B9 i (nd a2 i).gen) (by omega) (by simp;omega) jv)
       rw [e2] at F
       have F:HX (osN a) ((osN a2).set i (toO (MB (nd a2 i).gen))) (fr2++[B9 i (nd a2 i).gen]):=F
       rw [←mE] at F Dn
       have lf:=rG n2 i8 hv
       refine hR2 (i+1,true,a2.set i (MB (nd a2 i).gen),fr2++[B9 i (nd a2 i).gen]) ⟨i8,n2.free i8,F,Dn,fun _=> ?_,fun hh=>(by cases hh)⟩ (by simp only;omega)
       simp only
       cases ag with
       | true=>have:=L2 rfl;omega
       | false=>rw [←(H2 rfl).1];omega
      ·refine BA (by omega) (hR2 (i+1,ag,a2,fr2) ⟨i8,n2,R2',D2,L2,fun hh=> ?_⟩ (by simp only;omega))
       obtain ⟨e1,e2⟩:=H2 hh
       simp only at e1 hh
       refine ⟨e1,fun m hm mv=> ?_⟩
       simp only at hm
       by_cases hmi:m=i
       ·subst hmi;rw [←e1];exact qS n2 i8 h0
       ·exact e2 m (by omega) mv
   ·have:i=8:=by omega
    subst this
    refine hR (ag,a2,fr2) ⟨n2,R2',D2,fun hh j j8 jv=> ?_⟩ ?_
    ·obtain ⟨e1,e2⟩:=H2 hh
     simp only at e1 jv ⊢
     subst e1
     exact e2 j j8 (by rw [GO] at jv;exact jv)
    ·simp only
     cases ag with
     | true=>have:=L2 rfl;simp;omega
     | false=>rw [(H2 rfl).1];simp
def swL (a:List Nd) (n:Nat):List Int:=pick (fun i=>if (nd a i).live=true∧ ¬inQ (grQ a) (i:Int) then [B9 i (nd a i).gen] else []) n
theorem uG (a:List Nd) (n:Nat):(swL a n).length≤n:=JQ (fun i=>by split <;> simp) n
theorem Z8 {q:Que} {i:Nat} (hi:i<8):(i:Int)∈SR q↔inQ q (i:Int):=by
 unfold SR
 rw [KU]
 constructor
 ·rintro ⟨k,hk,h⟩
  split at h
  ·rename_i hq
   have:=List.mem_singleton.1 h
   have:i=k:=by omega
   subst this;exact hq
  ·cases h
 ·intro h
  exact ⟨i,hi,by rw [if_pos h];simp⟩
theorem sN (a:List Nd) (i:Nat):swL a (i+1)=swL a i++if (nd a i).live=true∧ ¬inQ (grQ a) (i:Int) then [B9 i (nd a i).gen] else []:=rfl
theorem Aj (a:List Nd):swL a 0=[]:=rfl
attribute [local irreducible] swL SR grQ
theorem XX {a:List Nd} {b c:List T} {K:J2} (na:NOk a) (h: ∀(a':List Nd) (out:List Int),NOk a'→(∀i,i<8→nd a' i=if (nd a i).live=true∧ ¬inQ (grQ a) (i:Int) then MB (nd a i).gen else nd a i)→out.Perm (swL a 8)→out.Pairwise (· ≤ ·)→K [] [tR tN a',tI out]):cl2 ⟨Try.prog,w0⟩ 137 GQ.sg [] [tR tN a,b,c] K:=by
 have al:=na.len
 refine GQ.cl2 ?_
 unfold GQ.txt
 refine NX al na.fl ?_
 have sl:=Z0 (grQ a)
 simp only [AI,AO,AM,AS,AH,AE,AG,AK,AN,AP,AR,AT,AQ,AL,BD,BJ,BL,BK,BM,BN,BG,A4,AZ,A6,A8,A5,A7]
 refine DI (α:=Nat×List Nd) (fun s=>[iv s.1]) (fun s=>[tI (SR (grQ a)),tI (swL a s.1),tR tN s.2]) (fun s=>8-s.1) (fun s=>s.1≤8∧NOk s.2∧ ∀i,i<8→nd s.2 i=if i<s.1∧(nd a i).live=true∧ ¬inQ (grQ a) (i:Int) then MB (nd a i).gen else nd a i) (0,a) rfl (by rw [Aj];rfl) ⟨by simp,na,fun i hi=>by rw [if_neg (by simp)]⟩ (fun R s hs hR=> ?_)
 obtain ⟨i,a1⟩:=s
 obtain ⟨hi,n1,ha⟩:=hs
 simp only at hi n1 ha
 have al1:=n1.len
 have fl:=uG a i
 simp only [AI,AO,AM,AS,AH,AE,AG,AK,AN,AP,AR,AT,AQ,AL,BD,BJ,BL,BK,BM,BN,BG,A4,AZ,A6,A8,A5,A7]
 refine AY (AW (fun hlt=>BP ?_) fun hge=> ?_)
 ·have i8:i<8:=by omega
  have il:i<a1.length:=by omega
  have ei:=ha i i8
  rw [if_neg (by omega)] at ei
  have esw:=sN a i
  have stay: ¬((nd a i).live=true∧ ¬inQ (grQ a) (i:Int))→R [iv (i+1)] [tI (SR (grQ a)),tI (swL a i),tR tN a1]:=fun hn=>by
   rw [if_neg hn,List.append_nil] at esw
   have key:=hR (i+1,a1) ⟨i8,n1,fun m hm=>by
    rw [ha m hm]
    by_cases hmi:m=i
    ·subst hmi;rw [if_neg (by omega),if_neg (fun hh=>hn hh.2)]
    ·by_cases hc:m<i∧(nd a m).live=true∧ ¬inQ (grQ a) (m:Int)
     ·rw [if_pos hc,if_pos ⟨by omega,hc.2⟩]
     ·rw [if_neg hc,if_neg (fun hh=>hc ⟨by omega,hh.2⟩)]⟩ (by simp only;omega)
   rw [esw] at key
   exact key
  refine AJ il ?_
  cases hv:(nd a i).live with
  | false=>
    exact K2 (v:= .bool false) il (by simp [tN,ei,hv]) (BC (BC (HC (HC (P5 rfl (BU (BA (by omega) (stay fun hh=>by rw [hv] at hh;cases hh.1))))))))
  | true=>
    refine K2 (v:= .bool true) il (by simp [tN,ei,hv]) (BC (BC (H4 (MS (by omega) (H4 (CQ (P9 rfl (AW (fun hm=> ?_) fun hm=> ?_))))))))
    ·have hm': ¬inQ (grQ a) (i:Int):=fun hh=>hm ((Z8 i8).2 hh)
     rw [if_pos ⟨hv,hm'⟩] at esw
     refine AJ il (KI (c:=1) il (by decide) rfl (FD (DC rfl (by first | omega | (simp only [AI,AO,AM,AS,AH,AE,AG,AK,AN,AP,AR,AT,AQ,AL,BD,BJ,BL,BK,BM,BN,BG,A4,AZ,A6,A8,A5,A7];omega)) (AJ il (KI (c:=1) il (by decide) rfl (GX (AJ il (gT (y:=MB (nd a1 i).gen) il rfl (BA (by omega) ?_)))))))))
     simp only [BD]
     rw [ei,DO, ←esw]
     refine hR (i+1,a1.set i (MB (nd a i).gen)) ⟨i8,by rw [←ei];exact n1.free i8,fun m hm2=> ?_⟩ (by simp only;omega)
     simp only
     rw [QG il]
     by_cases hmi:m=i
     ·subst hmi;rw [if_pos rfl,if_pos ⟨by omega,hv,hm'⟩]
     ·rw [if_neg hmi,ha m hm2]
      by_cases hc:m<i∧(nd a m).live=true∧ ¬inQ (grQ a) (m:Int)
      ·rw [if_pos hc,if_pos ⟨by omega,hc.2⟩]
      ·rw [if_neg hc,if_neg (fun hh=>hc ⟨by omega,hh.2⟩)]
    ·exact BA (by omega) (stay fun hh=>hh.2 (Classical.byContradiction fun hn=>hm fun hh2=>hn ((Z8 i8).1 hh2)))
 ·have:i=8:=by omega
  subst this
  refine SJ (by omega) fun out hp hs=>h a1 out n1 (fun m hm=> ?_) hp hs
  rw [ha m hm]
  by_cases hc:(nd a m).live=true∧ ¬inQ (grQ a) (m:Int)
  ·rw [if_pos hc,if_pos ⟨hm,hc⟩]
  ·rw [if_neg hc,if_neg (fun hh=>hc hh.2)]
end Go.Proofs.Ytklmcfpgdfibnaa.P
