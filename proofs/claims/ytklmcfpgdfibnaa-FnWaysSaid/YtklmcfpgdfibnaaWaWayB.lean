/- A part of the proof. -/
import Derived.Test.YtklmcfpgdfibnaaWaWayA
namespace Go.Proofs.Ytklmcfpgdfibnaa.P
open Go Go.Proofs.Ytklmcfpgdfibnaa Go.Proofs.Ytklmcfpgdfibnaa.Eng
set_option linter.unusedVariables false
set_option maxHeartbeats 4000000
set_option linter.unusedVariables false
set_option linter.unusedSimpArgs false
attribute [local irreducible] prP gP gE gF AX ixW ldc ldg ldl stc stg scW mkW apW BE cl2 BK C2 CI
variable {w0:World}
theorem IU.snoc {os:List AE} {ids:List Int} {q:Que} {j:Nat} {l:List Nat} (h:IU os ids q j l): ∃p,l=p++[j]:=by
 cases h with
 | one a b c=>exact ⟨[],rfl⟩
 | more h a b c d=>exact ⟨_,rfl⟩
theorem IU.inv {os:List AE} {ids:List Int} {q:Que} {j:Nat} {p:List Nat} (h:IU os ids q j (p++[j])):(p=[]∧pQ q j= -1)∨ ∃i p',p=p'++[i]∧IU os ids q i (p'++[i])∧i<j∧pQ q j=gQ q i:=by
 generalize hl:p++[j]=l at h
 cases h with
 | one a b c=>
   cases p with
   | nil=>exact .inl ⟨rfl,b⟩
   | cons x p=>simp at hl
 | more h a b c d=>
   rename_i i l
   obtain ⟨e,_⟩:=List.append_inj' hl rfl
   subst e
   obtain ⟨p',rfl⟩:=h.snoc
   exact .inr ⟨i,p',rfl,h,a,c⟩
theorem IU.len {os:List AE} {ids:List Int} {q:Que} {j:Nat} {l:List Nat} (h:IU os ids q j l):l.length≤j+1:=by
 induction h with
 | one a b c=>simp
 | more h a b c d ih=>simp;omega
def idO (os:List AE) (s:Int):Int:=B6 s (ob os s.toNat).gen
def NW (os:List AE) (id:Int):List Int:=if AA os id<0∨ ¬inQ (HI os (-1) (exts os)) (AA os id) then [] else (QC (HI os (-1) (exts os)) 9 (AA os id)).map (idO os)
theorem gV {os:List AE} {s:Int} (hs:inQ (HI os (-1) (exts os)) s): ∃j l,IU os (exts os) (HI os (-1) (exts os)) j l∧s=gQ (HI os (-1) (exts os)) j∧QC (HI os (-1) (exts os)) 9 s=l.map (gQ (HI os (-1) (exts os))):=by
 have hQ:=ZJ os (exts os)
 generalize HI os (-1) (exts os)=q at*
 obtain ⟨e,he,hs⟩:=List.mem_map.1 hs
 obtain ⟨j,hj,rfl⟩:=List.getElem_of_mem he
 rw [P4 hj] at hs
 obtain ⟨l,hl⟩:=hQ.way q.length j hj hj
 have:=hQ.qi.len
 refine ⟨j,l,hl,hs.symm, ?_⟩
 rw [←hs]
 exact hl.chain hQ.qi 9 (by omega)
theorem uG {q:Que}: ∀k,k<8→arG [I (frQ q 0),I (frQ q 1),I (frQ q 2),I (frQ q 3),I (frQ q 4),I (frQ q 5),I (frQ q 6),I (frQ q 7)] (iv k)=some (I (frQ q k))
 | 0,_=>rfl | 1,_=>rfl | 2,_=>rfl | 3,_=>rfl | 4,_=>rfl | 5,_=>rfl | 6,_=>rfl | 7,_=>rfl
 | k+8,h=>by omega
theorem iD (x:Int) (l:List Int):[T.c (I x)]++tI l=tI (x::l):=rfl
theorem c6 {x:Hp} {id:Int} {K:J2} (hx:Fits x) (hof: ∀o∈x.AB,OF o) (fid:F64 id) (h:K [] [tI (NW x.AB id)]):cl2 ⟨Try.prog,w0⟩ 54 IT.sg [I id] (trees x) K:=by
 have ol:=hx.ol
 refine IT.cl2 ?_
 unfold IT.txt
 try simp only [trees]
 try simp only [AI,AU,AL,AR,AQ,AG,AJ,AK,AO,AP,AN,AT,AS,AM,BH,BP,BS,BM,BQ,BN,BL,A6,A5,A4,A7,A8,A9]
 have el:=R8 x.AB
 have eF: ∀v∈exts x.AB,F64 v:=fun v hv=>CB (by have:=YX _ v hv;omega)
 unfold NW at h
 refine L6 fid (by omega) (SO ol (WL (x:=x) (but:= -1) hx hof eF (by omega) (by omega) ?_))
 have hQ:=ZJ x.AB (exts x.AB)
 have hpos:=pY (os:=x.AB) (but:= -1) (ids:=exts x.AB)
 have hway:=fun s hs=>gV (os:=x.AB) (s:=s) hs
 generalize HI x.AB (-1) (exts x.AB)=q at h hQ hpos hway ⊢
 refine BA (BO (BO (BO (BO ?_))))
 by_cases h0:AA x.AB id<0
 ·rw [if_pos (.inl h0)] at h
  exact IK h0 (IK h0 (IK h0 (D9 h0 rfl (CL h))))
 ·obtain ⟨k,ek⟩: ∃k:Nat,AA x.AB id=k:=⟨(AA x.AB id).toNat,by omega⟩
  have hbd:=BF (l:=x.AB) (id:=id) (by omega)
  rw [ek] at h h0 hbd ⊢
  rw [Int.toNat_natCast] at hbd
  have k8:k<8:=hbd.2.2.2.1
  refine DU h0 (AH k8 (DU h0 (cU (nT k k8) rfl (DU h0 (CN (EC h0 rfl (R7 (fun hm=> ?_) fun hm=> ?_)))))))
  ·rw [if_pos] at h
   ·exact h
   ·right
    intro hin
    have:mtQ (-1) q k=true:=decide_eq_true (.inl hin)
    rw [this] at hm;cases hm
  ·have hin:inQ q (k:Int):=by
    cases hq:mtQ (-1) q k with
    | false=>rw [hq] at hm;cases hm
    | true=>exact (of_decide_eq_true hq).resolve_right (by omega)
   rw [if_neg (by simp only [not_or,Classical.not_not];exact ⟨h0,hin⟩)] at h
   obtain ⟨j0,l0,hw0,ej0,ec0⟩:=hway _ hin
   rw [ec0] at h
   obtain ⟨p0,rfl⟩:=hw0.snoc
   have hqp:0<q.length:=by have:=hw0.lt;omega
   have hol:=hpos hqp
   have hl0:=hw0.len
   have hj0:=hw0.lt
   have hql:=hQ.qi.len
   obtain ⟨Wf,hWf⟩: ∃Wf,List.map (idO x.AB) ((p0++[j0]).map (gQ q))=Wf:=⟨_,rfl⟩
   have hWl:Wf.length≤8:=by rw [←hWf];simp only [List.length_map];omega
   rw [hWf] at h
   refine EJ (α:=Nat×Int×List Int) (fun s=>I s.2.1::bxV (-1) q) (fun s=>[tI s.2.2,tI (slQ q)]) (fun s=>s.1) (fun s=>(s.1=0∧s.2.1= -1∧s.2.2=Wf)∨ ∃j p,s.1=j+1∧IU x.AB (exts x.AB) q j (p++[j])∧s.2.1=gQ q j∧((p++[j]).map (gQ q)).map (idO x.AB)++s.2.2=Wf) (j0+1,(k:Int),[]) rfl rfl (.inr ⟨j0,p0,rfl,hw0,ej0,by rw [List.append_nil];exact hWf⟩) (fun R s hs hR=> ?_)
   obtain ⟨n,s,out⟩:=s
   simp only at hs
   simp only [AI,AU,AL,AR,AQ,AG,AJ,AK,AO,AP,AN,AT,AS,AM,BH,BP,BS,BM,BQ,BN,BL,A6,A5,A4,A7,A8,A9]
   rcases hs with ⟨rfl,rfl,rfl⟩ | ⟨j,p,rfl,hw,rfl,hout⟩
   ·exact HL (FM (by omega) h)
   ·obtain ⟨m,em,m8,mv,_⟩:=hQ.qi.lv _ (J1 hw.lt)
    have hfr:=cP hQ.qi hw.lt
    rw [em] at hfr ⊢
    rw [Int.toNat_natCast] at hfr
    have hol2:out.length≤8:=by
     have:(((p++[j]).map (gQ q)).map (idO x.AB)++out).length=Wf.length:=by rw [hout]
     rw [List.length_append] at this;omega
    refine HL (EK (by omega) (AH (by omega) (JG (by omega) (by decide) rfl (S4 (DW (JT _) (by first | omega | (simp only [AI,AU,AL,AR,AQ,AG,AJ,AK,AO,AP,AN,AT,AS,AM,BH,BP,BS,BM,BQ,BN,BL,A6,A5,A4,A7,A8,A9];simp only [List.length_singleton];omega)) (AH m8 (cU (uG m m8) rfl ?_)))))))
    simp only [BH]
    rw [iD,hfr]
    have eo:B6 (m:Int) (ob x.AB m).gen=idO x.AB (gQ q j):=by unfold idO;rw [em,Int.toNat_natCast]
    rcases hw.inv with ⟨rfl,hp⟩ | ⟨i,p',rfl,hw',hij,hp⟩
    ·rw [hp]
     refine hR (0, -1,B6 (m:Int) (ob x.AB m).gen::out) (.inl ⟨rfl,rfl, ?_⟩) (by simp only;omega)
     rw [←hout,eo];rfl
    ·rw [hp]
     refine hR (i+1,gQ q i,B6 (m:Int) (ob x.AB m).gen::out) (.inr ⟨i,p',rfl,hw',rfl, ?_⟩) (by simp only;omega)
     rw [←hout,eo]
     simp
def W3 (q:Que) (F:List Int):Prop:=F.length=q.length∧ ∀j,j<q.length→(gI F j=0∧pQ q j= -1)∨ ∃m,m<j∧gI F j=(m:Int)+1∧pQ q j=gQ q m
theorem oZ {l:List Int} {x:Int} {i:Nat}:gI (l++[x]) i=if i<l.length then gI l i else if i=l.length then x else 0:=by
 unfold gI
 split
 ·rename_i h;rw [List.getD_eq_getElem?_getD,List.getElem?_append_left h,List.getD_eq_getElem?_getD]
 ·rename_i h
  split
  ·rename_i h2;subst h2;simp
  ·rw [List.getD_eq_getElem?_getD,List.getElem?_eq_none (by simp;omega)];rfl
theorem W3.snoc {q:Que} {F:List Int} {m:Nat} {s:Int} (h:W3 q F) (hm:m<q.length):W3 (q++[(s,gQ q m)]) (F++[(m:Int)+1]):=by
 obtain ⟨h1,h2⟩:=h
 refine ⟨by simp [h1],fun j hj=> ?_⟩
 rw [List.length_append,List.length_singleton] at hj
 rw [oZ]
 rcases Nat.lt_or_ge j q.length with hl | hl
 ·rw [if_pos (by omega),eN hl]
  rcases h2 j hl with h | ⟨i,a,b,c⟩
  ·exact .inl h
  ·exact .inr ⟨i,a,b,by rw [OG (by omega)];exact c⟩
 ·have:j=q.length:=by omega
  subst this
  rw [if_neg (by omega),if_pos h1.symm,fO]
  exact .inr ⟨m,hm,rfl,by rw [OG hm]⟩
theorem T1 {x:Hp} (hk:BW x): ∀i,i<8→(ob x.AB i).live=true→1≤(ob x.AB i).gen∧(ob x.AB i).gen≤999:=fun i hi hv=>⟨((hk.hp.obj i hi).lv hv).1,(hk.hp.obj i hi).gen.2⟩
theorem cD {x:Hp} (hk:BW x):HA x.AB (CW x.AB (-1) (exts x.AB))=exts x.AB:=by
 unfold exts
 rw [hk.ol,SU hk.ol (T1 hk) 8 (Nat.le_refl _)]
 unfold HA lJ
 rw [lV]
 refine dF fun i hi=> ?_
 unfold J9
 by_cases hc:(ob x.AB i).live=true∧w64 ((ob x.AB i).holds+(ob x.AB i).roots)>0
 ·rw [if_pos hc,if_pos ⟨by omega,hc⟩]
  have g:=T1 hk i hi hc.1
  simp only [List.map_cons,List.map_nil]
  rw [F4 hi g.1 g.2]
  unfold PN;rw [Int.toNat_natCast]
 ·rw [if_neg hc,if_neg (fun hh=>hc hh.2)];rfl
theorem uH (n:Nat):PO n [T.c (I 0)]=tI (List.replicate n 0):=by
 unfold PO tI
 induction n with
 | zero=>rfl
 | succ n ih=>rw [List.replicate_succ,List.flatten_cons,ih];rfl
theorem sW {n i:Nat}:gI (List.replicate n 0) i=0:=by
 unfold gI
 rw [List.getD_eq_getElem?_getD,List.getElem?_replicate]
 split <;> rfl
theorem qK {x:Hp} (hk:BW x):W3 (CW x.AB (-1) (exts x.AB)) (List.replicate (exts x.AB).length 0):=by
 have e:(CW x.AB (-1) (exts x.AB)).length=(exts x.AB).length:=by
  rw [←J7 x.AB,cD hk]
 refine ⟨by rw [List.length_replicate,e],fun j hj=> .inl ⟨sW, ?_⟩⟩
 have e2:CW x.AB (-1) (exts x.AB)=lJ x.AB 8:=by unfold exts;rw [hk.ol,SU hk.ol (T1 hk) 8 (Nat.le_refl _)]
 rw [←qY hj]
 have hm:=List.getElem_mem hj
 generalize (CW x.AB (-1) (exts x.AB))[j]=y at hm ⊢
 rw [e2] at hm
 obtain ⟨i,hi,h⟩:=LB.1 hm
 split at h
 ·rw [List.mem_singleton.1 h]
 ·cases h
theorem QB.start (os:List AE) (ids:List Int):QB os (-1) (CW os (-1) ids):=by
 have:=QM (os:=os) (b:= -1) (ids:=ids) ids.length (Nat.le_refl _)
 rwa [List.take_length,O9] at this
theorem XO {os:List AE} {q:Que} (hq:QB os (-1) q) {i:Nat} (hi:i<q.length) {id:Int} (hs:0≤AA os id):PN os (gQ q i)=id↔gQ q i=AA os id:=by
 constructor
 ·intro h;rw [←hq.rid _ (J1 hi),h]
 ·intro h;rw [h];exact (LD hs).symm
end Go.Proofs.Ytklmcfpgdfibnaa.P
