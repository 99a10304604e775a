/- A part of the proof. -/
import Derived.Test.YthapfcoajahegaaDoorReHpE
namespace Go.Proofs.YthapfcoajahegaaDoor.P
open Go Go.Proofs.YthapfcoajahegaaDoor Go.Proofs.YthapfcoajahegaaDoor.Eng
set_option maxHeartbeats 4000000
set_option linter.unusedVariables false
set_option linter.unusedSimpArgs false
attribute [local irreducible] prP gP gE gF AY ixW ldc ldg ldl stc stg scW mkW apW A6 cl2 BL C5 BX
variable {w0:World}
end Go.Proofs.YthapfcoajahegaaDoor.P
namespace Go.Proofs.YthapfcoajahegaaDoor.P
open Go Go.Proofs.YthapfcoajahegaaDoor Go.Proofs.YthapfcoajahegaaDoor.Eng
set_option linter.unusedVariables false
theorem sK {n:Nat} (hn:1≤n) {K:Value→Value→Prop} (h:K (iv 1) (iv (n-1))):scW n (some (.int .i64 1)) none K:=⟨1,n,rfl,rfl,hn,Nat.le_refl _,h⟩
set_option maxHeartbeats 4000000
set_option linter.unusedVariables false
set_option linter.unusedSimpArgs false
attribute [local irreducible] prP gP gE gF AY ixW ldc ldg ldl stc stg scW mkW apW A6 cl2 BL C5 BX
variable {w0:World}
def NL:List Int:=[-1, -1, -1]
def BS (g:Int):AD:=⟨false,g,0,0,0,0,NL,false⟩
def IY:Nat→List AD→List Int→List Int→List Int→List AD×List Int×List Int
 | 0,os,buf,freed,_=>(os,buf,freed)
 | f+1,os,buf,freed,todo=>match todo with
   | []=>(os,buf,freed)
   | id::todo=>if freed.length>8 then (os,buf,freed) else
     if AA os id<0 then IY f os buf freed todo else
     if w64 ((ob os (AA os id).toNat).count-1)>0 then
      (if (ob os (AA os id).toNat).purple=true then IY f (os.set (AA os id).toNat {ob os (AA os id).toNat with count:=w64 ((ob os (AA os id).toNat).count-1)}) buf freed todo
       else IY f (os.set (AA os id).toNat {ob os (AA os id).toNat with count:=w64 ((ob os (AA os id).toNat).count-1),purple:=true}) (buf++[id]) freed todo)
     else IY f (os.set (AA os id).toNat (BS (ob os (AA os id).toNat).gen)) (buf.filter fun x=>decide (x≠id)) (freed++[id]) (todo++(ob os (AA os id).toNat).field.filter fun x=>decide (0≤x))
def mu (freed todo:List Int):Nat:=todo.length+4*(9-freed.length)
def H8 (os:List AD) (buf ids:List Int):List AD×List Int×List Int:=IY (ids.length+37) os buf [] ids
theorem A7 {l:List AD} {id:Int} (h:0≤AA l id):l.length=8∧8≤id∧AA l id=id % 8∧(AA l id).toNat<8∧(ob l (AA l id).toNat).live=true∧(ob l (AA l id).toNat).gen=id/8:=by
 unfold AA at h ⊢
 split at h
 ·omega
 ·split at h
  ·rename_i h1 h2
   rw [if_neg h1,if_pos h2]
   exact ⟨by omega,by omega,rfl,by omega,h2.1,h2.2⟩
  ·omega
structure OF (o:AD):Prop where
 gen:F64 o.gen
 len:o.field.length=3
 fld: ∀f∈o.field,F64 f
theorem OF.free {g:Int} (h:F64 g):OF (BS g):=⟨h,rfl,by simp [BS,NL,F64]⟩
theorem Q6 {l:List AD} {P:AD→Prop} {i:Nat} {o:AD} (h: ∀x∈l,P x) (ho:P o): ∀x∈l.set i o,P x:=fun x hx=>(List.mem_or_eq_of_mem_set hx).elim (h x) fun he=>he ▸ ho
structure LsI (R:List AD×List Int×List Int) (M:Nat) (q:List AD×List Int×List Int×List Int×Nat):Prop where
 ol:q.1.length=8
 of: ∀o∈q.1,OF o
 fr:q.2.2.1.length≤9
 off:q.2.2.2.2≤q.2.2.2.1.length
 td: ∀x∈q.2.2.2.1.drop q.2.2.2.2,F64 x
 sz:q.2.1.length+mu q.2.2.1 (q.2.2.2.1.drop q.2.2.2.2)≤M
 go: ∃f,mu q.2.2.1 (q.2.2.2.1.drop q.2.2.2.2)<f∧IY f q.1 q.2.1 q.2.2.1 (q.2.2.2.1.drop q.2.2.2.2)=R
theorem UR {l:List Int} {x:Int} {K:J2} (hl:(l.length:Int)≤2^40) (h:K [] [tI (l.filter fun y=>decide (y≠x))]):cl2 ⟨Tryd.prog,w0⟩ 39 GS.sg [I x] [tI l] K:=by
 refine GS.cl2 ?_
 unfold GS.txt
 simp only [AM,AS,AW,AU,AO,AI,AJ,AQ,AK,AP,AN,AR,AL,AV,CF,CQ,CO,CT,CL,CN,CP,BD,BE,BG,BH,BJ,BF]
 refine DZ (fun i=>[I x,iv l.length,iv i]) (fun i=>[tI ((l.take i).filter fun y=>decide (y≠x))]) l.length (fun _=>True) rfl rfl trivial (fun R i hi _ hR=> ?_)
 have hln:=List.length_filter_le (fun y=>decide (y≠x)) (l.take i)
 have hlt2:(l.take i).length≤i:=by simp;omega
 simp only [AM,AS,AW,AU,AO,AI,AJ,AQ,AK,AP,AN,AR,AL,AV,CF,CQ,CO,CT,CL,CN,CP,BD,BE,BG,BH,BJ,BF]
 refine A4 (A8 (fun hlt=> ?_) fun hge=> ?_)
 ·have hlt:i<l.length:=by omega
  replace hR:=hR hlt trivial
  rw [List.take_succ_eq_append_getElem hlt,List.filter_append,G3 hlt] at hR
  refine HH (A5 hlt (ldI hlt (CB (A8 (fun he=> ?_) fun he=> ?_))))
  ·refine D5 rfl (by omega) (AZ (by omega) ?_)
   have e:([gI l i].filter fun y=>decide (y≠x))=[gI l i]:=by simp [he]
   rw [e, ←KJ] at hR;exact hR
  ·refine AZ (by omega) ?_
   have e:([gI l i].filter fun y=>decide (y≠x))=[]:=by simp at he;simp [he]
   rw [e,List.append_nil] at hR;exact hR
 ·have:i=l.length:=by omega
  subst this
  rw [List.take_length];exact h
theorem PA {g:Value} {K:J2} (h:K [.bool false,g,I 0,I 0,I 0,I 0, .bool false] [tI NL]):cl2 ⟨Tryd.prog,w0⟩ 13 G9.sg [g] [] K:=G9.cl2 h
theorem qO {l:List Int} {a:Nat} {K:Value→Prop} (ha:a<l.length) (h:K (I (gI l a))):ldc (tI l) [] (a+AB (iv 0)*1) K:=by
 have e:a+AB (iv 0)*1=AB (iv a)*1:=by rw [BB,BB];omega
 rw [e];exact ldI ha h
theorem drop_cons {l:List Int} {a:Nat} (ha:a<l.length):l.drop a=gI l a::l.drop (a+1):=by rw [List.drop_eq_getElem_cons ha,G3 ha]
theorem eH {freed todo:List Int} {x:Int}:mu freed (x::todo)=mu freed todo+1:=by simp only [mu,List.length_cons];omega
theorem LO {l:List AD} {i:Nat} (h:i<l.length):ob l i∈l:=by rw [←FH h];exact List.getElem_mem h
theorem pW {l:List AD} {i:Nat} (h:i<l.length):tR tO l=tR tO (l.set i (ob l i)):=by rw [←FH h];exact mQ h
theorem LsI.start {os:List AD} {buf ids:List Int} (hol:os.length=8) (hof: ∀o∈os,OF o) (hid: ∀x∈ids,F64 x):LsI (H8 os buf ids) (buf.length+ids.length+36) (os,buf,[],ids,0):=
 ⟨hol,hof,Nat.zero_le _,Nat.zero_le _,by simpa using hid,by simp only [mu,List.drop_zero,List.length_nil];omega,ids.length+37,by simp only [mu,List.drop_zero,List.length_nil];omega,rfl⟩
section
variable {R:List AD×List Int×List Int} {M:Nat} {os:List AD} {buf freed row:List Int} {off:Nat}
theorem LsI.stop (h:LsI R M (os,buf,freed,row,off)) (hs:row.length≤off∨8<freed.length):R=(os,buf,freed):=by
 obtain ⟨_,_,_,_,_,_,f,hf,go⟩:=h
 simp only at hf go
 obtain ⟨f,rfl⟩: ∃f',f=f'+1:=⟨f-1,by omega⟩
 rcases hs with hs | hs
 ·rw [List.drop_of_length_le hs] at go
  rw [←go];rfl
 ·rw [←go]
  cases row.drop off with
  | nil=>rfl
  | cons x l=>simp only [IY,if_pos hs]
theorem LsI.step (h:LsI R M (os,buf,freed,row,off)) (hlt:off<row.length) (hfr:freed.length≤8):F64 (gI row off)∧ ∃f,mu freed (row.drop (off+1))<f∧IY (f+1) os buf freed (gI row off::row.drop (off+1))=R∧buf.length+mu freed (row.drop (off+1))+1≤M∧ ∀x∈row.drop (off+1),F64 x:=by
 obtain ⟨_,_,_,_,td,sz,f,hf,go⟩:=h
 simp only at td sz hf go
 rw [drop_cons hlt] at td sz hf go
 rw [eH] at sz hf
 obtain ⟨f,rfl⟩: ∃f',f=f'+1:=⟨f-1,by omega⟩
 exact ⟨td _ (by simp),f,by omega,go,by omega,fun x hx=>td x (by simp [hx])⟩
theorem LsI.skip (h:LsI R M (os,buf,freed,row,off)) (hlt:off<row.length) (hfr:freed.length≤8) (hs:AA os (gI row off)<0):LsI R M (os,buf,freed,row,off+1):=by
 obtain ⟨_,f,h1,h2,h3,h4⟩:=h.step hlt hfr
 rw [IY] at h2
 simp only at h2
 rw [if_neg (by omega),if_pos hs] at h2
 exact ⟨h.ol,h.of,h.fr,hlt,h4,by simp only;omega,f,h1,h2⟩
theorem LsI.KL (h:LsI R M (os,buf,freed,row,off)) (hlt:off<row.length) (hfr:freed.length≤8) (hs:0≤AA os (gI row off)) (hc:w64 ((ob os (AA os (gI row off)).toNat).count-1)>0) (hp:(ob os (AA os (gI row off)).toNat).purple=true):
  LsI R M (os.set (AA os (gI row off)).toNat {ob os (AA os (gI row off)).toNat with count:=w64 ((ob os (AA os (gI row off)).toNat).count-1)},buf,freed,row,off+1):=by
 obtain ⟨_,f,h1,h2,h3,h4⟩:=h.step hlt hfr
 have hk:=A7 hs
 have ho:=h.of _ (LO (l:=os) (i:=(AA os (gI row off)).toNat) (by omega))
 rw [IY] at h2
 simp only at h2
 rw [if_neg (by omega),if_neg (by omega),if_pos hc,if_pos hp] at h2
 exact ⟨by simp only [List.length_set];exact h.ol,Q6 h.of ⟨ho.gen,ho.len,ho.fld⟩,h.fr,hlt,h4,by simp only;omega,f,h1,h2⟩
theorem LsI.put (h:LsI R M (os,buf,freed,row,off)) (hlt:off<row.length) (hfr:freed.length≤8) (hs:0≤AA os (gI row off)) (hc:w64 ((ob os (AA os (gI row off)).toNat).count-1)>0) (hp:(ob os (AA os (gI row off)).toNat).purple=false):
  LsI R M (os.set (AA os (gI row off)).toNat {ob os (AA os (gI row off)).toNat with count:=w64 ((ob os (AA os (gI row off)).toNat).count-1),purple:=true},buf++[gI row off],freed,row,off+1):=by
 obtain ⟨_,f,h1,h2,h3,h4⟩:=h.step hlt hfr
 have hk:=A7 hs
 have ho:=h.of _ (LO (l:=os) (i:=(AA os (gI row off)).toNat) (by omega))
 rw [IY] at h2
 simp only at h2
 rw [if_neg (by omega),if_neg (by omega),if_pos hc,if_neg (by rw [hp];decide)] at h2
 exact ⟨by simp only [List.length_set];exact h.ol,Q6 h.of ⟨ho.gen,ho.len,ho.fld⟩,h.fr,hlt,h4,by simp only [List.length_append,List.length_singleton];omega,f,h1,h2⟩
theorem LsI.free (h:LsI R M (os,buf,freed,row,off)) (hlt:off<row.length) (hfr:freed.length≤8) (hs:0≤AA os (gI row off)) (hc: ¬w64 ((ob os (AA os (gI row off)).toNat).count-1)>0) {row':List Int} {off':Nat} (hrow:row'.drop off'=row.drop (off+1)++(ob os (AA os (gI row off)).toNat).field.filter fun x=>decide (0≤x)) (hle:off'≤row'.length):
  LsI R M (os.set (AA os (gI row off)).toNat (BS (ob os (AA os (gI row off)).toNat).gen),buf.filter fun x=>decide (x≠gI row off),freed++[gI row off],row',off'):=by
 obtain ⟨_,f,h1,h2,h3,h4⟩:=h.step hlt hfr
 have hk:=A7 hs
 have ho:=h.of _ (LO (l:=os) (i:=(AA os (gI row off)).toNat) (by omega))
 have hfl:=List.length_filter_le (fun x=>decide (0≤x)) (ob os (AA os (gI row off)).toNat).field
 have hbl:=List.length_filter_le (fun x=>decide (x≠gI row off)) buf
 rw [ho.len] at hfl
 rw [IY] at h2
 simp only at h2
 rw [if_neg (by omega),if_neg (by omega),if_neg hc] at h2
 have hmu:mu (freed++[gI row off]) (row'.drop off')≤mu freed (row.drop (off+1)):=by
  rw [hrow];simp only [mu,List.length_append,List.length_singleton];omega
 refine ⟨by simp only [List.length_set];exact h.ol,Q6 h.of (OF.free ho.gen),by simp only [List.length_append,List.length_singleton];omega,hle,fun x hx=> ?_,by simp only;omega,f,by simp only;omega,by rw [←h2,hrow]⟩
 simp only at hx
 rw [hrow] at hx
 rcases List.mem_append.1 hx with hx | hx
 ·exact h4 x hx
 ·exact ho.fld x (List.mem_filter.1 hx).1
end
section
variable {cur:List AD} {k:Nat} {y:AD}
theorem uI (hk:k<cur.length):L5 (tR tO (cur.set k y)) [k*8+6]=tI y.field:=by have:=PE (y:=y) hk;rwa [BB] at this
theorem sQ {i:Nat} {K:Value→Prop} (hk:k<cur.length) (hi:i<y.field.length) (h:K (I (gI y.field i))):ldc (tR tO (cur.set k y)) [k*8+6] i K:=by
 have:=EE (l:=cur.set k y) (i:=k) (j:=i) (K:=K) (by simpa using hk) (by rw [←FH (by simpa using hk),List.getElem_set_self];exact hi) (by rw [←FH (by simpa using hk),List.getElem_set_self];exact h)
 simpa only [BB,Nat.mul_one] using this
theorem tV {K:Value→Prop} (hk:k<cur.length) (h:K (I y.gen)):ldc (tR tO (cur.set k y)) [] (k*8+1) K:=by
 have:=K6 (f:=tO) (K:=K) (c:=1) (y:=y) hk (by decide) rfl h
 rwa [BB] at this
theorem uC {ts:List T} {z:AD} {K:List T→Prop} (hk:k<cur.length) (hy:ts=tO z) (h:K (tR tO (cur.set k z))):stg (tR tO (cur.set k y)) [] (k*8) ts K:=by
 have:=SP (f:=tO) (l:=cur.set k y) (K:=K) (by simpa using hk) hy (by rw [List.set_set];exact h)
 rwa [BB] at this
theorem kK (l:List Int) (a m:Nat):MJ (tI l) [] a m=tI ((l.drop a).take m):=by simp [MJ,node,tI,List.map_drop,List.map_take]
end
theorem PC {os:List AD} {buf ids:List Int} {b d:List T} {K:J2} (hol:os.length=8) (hof: ∀o∈os,OF o) (hb:buf.length≤2^30) (hi:ids.length≤2^30) (hid: ∀x∈ids,F64 x) (h:K [] [tI (H8 os buf ids).2.2,tR tO (H8 os buf ids).1,tI (H8 os buf ids).2.1]):cl2 ⟨Tryd.prog,w0⟩ 27 DY.sg [] [tR tO os,b,tI buf,d,tI ids] K:=by
 refine DY.cl2 ?_
 unfold DY.txt
 refine IL (by omega) ?_
 obtain ⟨R,hR0⟩: ∃R,H8 os buf ids=R:=⟨_,rfl⟩
 have st:=LsI.start (buf:=buf) hol hof hid
 rw [hR0] at st h
 simp only [AM,AS,AW,AU,AO,AI,AJ,AQ,AK,AP,AN,AR,AL,AV,CF,CQ,CO,CT,CL,CN,CP,BD,BE,BG,BH,BJ,BF]
 refine NI (α:=List AD×List Int×List Int×List Int×Nat) (fun q=>[iv (q.2.2.2.1.length-q.2.2.2.2),iv q.2.2.2.2]) (fun q=>[tI q.2.2.1,tI q.2.2.2.1,tR tO q.1,tI q.2.1]) (fun q=>mu q.2.2.1 (q.2.2.2.1.drop q.2.2.2.2)) (LsI R (buf.length+ids.length+36)) (os,buf,[],ids,0) rfl rfl st (fun Rr q hq hR=> ?_)
 obtain ⟨os,bf,freed,row,off⟩:=q
 have hq':LsI R (buf.length+ids.length+36) (os,bf,freed,row,off):=hq
 obtain ⟨ol,of,fr,ofl,td,sz,_⟩:=id hq'
 simp only at ol of fr ofl td sz
 have hmz:mu freed (row.drop off)=(row.length-off)+4*(9-freed.length):=by simp [mu]
 simp only [AM,AS,AW,AU,AO,AI,AJ,AQ,AK,AP,AN,AR,AL,AV,CF,CQ,CO,CT,CL,CN,CP,BD,BE,BG,BH,BJ,BF]
 simp only [BB]
 refine CX (IQ (IQ (G5 (fun hlt=> ?_) fun hge=> ?_)))
 rotate_left
 ·refine JJ hge rfl (DI ?_)
  have:=hq'.stop (.inl (by
   have: ¬(((row.length-off:Nat):Int)>0):=hge
   omega))
  rw [this] at h;exact h
 have hlt':off<row.length:=by
  have:((row.length-off:Nat):Int)>0:=hlt
  omega
 refine CZ (JT hlt rfl (A8 (fun h8=> ?_) fun h8=> ?_))
 rotate_left
 ·have:=hq'.stop (.inr (by omega))
  rw [this] at h;exact h
 have h8':freed.length≤8:=by omega
 obtain ⟨hidf,_⟩:=hq'.step hlt' h8'
 refine A5 (j:=0) (by omega) (qO hlt' (sK (by omega) (C6 hidf (by omega) ?_)))
 have e1:off+AB (iv 1)*1=off+1:=by rw [BB]
 have e2:row.length-off-1=row.length-(off+1):=by omega
 simp only [BB,e2,Nat.mul_one,CF]
 have mu1:mu freed (row.drop (off+1))<mu freed (row.drop off):=by rw [drop_cons hlt',eH];omega
 refine A4 (A8 (fun hs=>hR (os,bf,freed,row,off+1) (hq'.skip hlt' h8' hs) mu1) fun hs=> ?_)
 have hs':0≤AA os (gI row off):=by omega
 have hk:=A7 hs'
 have n1:=hq'.KL hlt' h8' hs'
 have n2:=hq'.put hlt' h8' hs'
 have n3:=fun hc row' off'=>hq'.free hlt' h8' hs' hc (row':=row') (off':=off')
 have hobf:=of _ (LO (l:=os) (i:=(AA os (gI row off)).toNat) (by omega))
 generalize hgid:gI row off=id at*
 obtain ⟨k,hkk⟩: ∃k,(AA os id).toNat=k:=⟨_,rfl⟩
 have hkI:AA os id=(k:Int):=by omega
 rw [hkk] at hk n1 n2 n3 hobf
 rw [hkI]
 have hkl:k<os.length:=by omega
 rw [pW hkl]
 generalize ho:ob os k=o at*
 refine A5 (by omega) (K6 (i:=k) hkl (by decide) rfl (B6 (L6 hkl ?_)))
 generalize hcc:w64 (o.count-1)=c at*
 refine K6 (v:=I c) (i:=k) hkl (by decide) rfl ?_
 refine CX (IQ (IQ (IQ (G5 (fun hc=> ?_) fun hc=> ?_))))
 ·refine K6 (v:= .bool o.purple) (i:=k) hkl (by decide) rfl (HA hc (CJ (JT hc rfl ?_)))
  cases hp:o.purple with
  | false=>
    refine EC (TG hkl (D5 rfl (by omega) ?_))
    have:=hR _ (n2 hc hp) (by simp only;exact mu1)
    simp only at this
    rw [←KJ] at this
    exact this
  | true=>
    refine DI (K6 (v:=I c) (i:=k) hkl (by decide) rfl (CZ (CW (by omega) ?_)))
    have:=hR _ (n1 hc hp) (by simp only;exact mu1)
    simp only [hp] at this
    exact this
 ·refine HN hc (JJ hc rfl (DI (K6 (v:=I c) (i:=k) hkl (by decide) rfl (CZ (BW (by omega) (D5 rfl (by omega) (mU (i:=k) hkl (by decide) rfl ?_)))))))
  rw [PE hkl,AI]
  have hfl:o.field.length=3:=hobf.len
  rw [hfl]
  refine NI (α:=Nat×List Int×Nat) (fun q=>[iv (q.2.1.length-q.2.2),iv q.2.2,I id,iv (k*8),iv (k*8+6),iv 3,iv q.1]) (fun q=>[tI (freed++[id]),tI q.2.1,tR tO (os.set k {o with count:=c}),tI bf]) (fun q=>3-q.1) (fun q=>q.1≤3∧q.2.2≤q.2.1.length∧q.2.1.drop q.2.2=row.drop (off+1)++(o.field.take q.1).filter fun x=>decide (0≤x)) (0,row,off+1) ?_ ?_ ⟨by omega,hlt',by simp⟩ (fun R2 q hq2 hR2=> ?_)
  ·rfl
  ·simp only [KJ]
  obtain ⟨i,rw',of'⟩:=q
  obtain ⟨hi3,hof',hdr⟩:=hq2
  simp only at hi3 hof' hdr
  have hrl:rw'.length-of'≤row.length-(off+1)+3:=by
   have e:=congrArg List.length hdr
   have:=List.length_filter_le (fun x=>decide (0≤x)) (o.field.take i)
   simp only [List.length_drop,List.length_append,List.length_take] at e this
   omega
  simp only [AM,AS,AW,AU,AO,AI,AJ,AQ,AK,AP,AN,AR,AL,AV,CF,CQ,CO,CT,CL,CN,CP,BD,BE,BG,BH,BJ,BF]
  simp only [BB]
  refine A4 (A8 (fun hlt=> ?_) fun hge=> ?_)
  ·have hlt:i<o.field.length:=by omega
   have hfx:=hobf.fld _ (JH hlt)
   refine HH ?_
   simp only [uI hkl,AI,kK]
   have ed:(rw'.drop of').take (rw'.length-of')=rw'.drop of':=by rw [←List.length_drop,List.take_length]
   rw [ed]
   have ea:tI (rw'.drop of')++[T.c (I (gI o.field i))]=tI (rw'.drop of'++[gI o.field i]):=KJ _ _
   refine A5 hlt (sQ hkl hlt ?_)
   simp only [BB]
   refine C0 (A8 (fun hp=> ?_) fun hp=> ?_)
   ·refine D5 rfl (by omega) ?_
    have:=hR2 (i+1,rw'.drop of'++[gI o.field i],0) ⟨by simp only;omega,by simp only;omega,by simp only [List.drop_zero];rw [hdr,List.take_succ_eq_append_getElem hlt,List.filter_append, ←List.append_assoc,G3 hlt];congr 1;simp [hp]⟩ (by simp only;omega)
    refine AZ (by omega) ?_
    rw [ea]
    simp only [AM,AS,AW,AU,AO,AI,AJ,AQ,AK,AP,AN,AR,AL,AV,CF,CQ,CO,CT,CL,CN,CP,BD,BE,BG,BH,BJ,BF]
    simp only [BB]
    exact this
   ·have:=hR2 (i+1,rw',of') ⟨by simp only;omega,hof',by simp only;rw [hdr,List.take_succ_eq_append_getElem hlt,List.filter_append, ←List.append_assoc,G3 hlt];simp;omega⟩ (by simp only;omega)
    refine AZ (by omega) ?_
    simp only [AM,AS,AW,AU,AO,AI,AJ,AQ,AK,AP,AN,AR,AL,AV,CF,CQ,CO,CT,CL,CN,CP,BD,BE,BG,BH,BJ,BF]
    simp only [BB]
    exact this
  ·have:i=o.field.length:=by omega
   subst this
   rw [List.take_length] at hdr
   refine UR (by omega) (tV hkl (PA (uC hkl (z:=BS o.gen) rfl ?_)))
   exact hR _ (n3 hc _ _ hdr hof') (by simp only;rw [hdr];simp only [mu,List.length_append,List.length_singleton] at mu1 ⊢;have:=List.length_filter_le (fun x=>decide (0≤x)) o.field;omega)
end Go.Proofs.YthapfcoajahegaaDoor.P
namespace Go.Proofs.YthapfcoajahegaaDoor.P
open Go Go.Proofs.YthapfcoajahegaaDoor Go.Proofs.YthapfcoajahegaaDoor.Eng
set_option maxHeartbeats 4000000
set_option linter.unusedVariables false
set_option linter.unusedSimpArgs false
attribute [local irreducible] prP gP gE gF AY ixW ldc ldg ldl stc stg scW mkW apW A6 cl2 BL C5 BX
variable {w0:World}
theorem tJ (o:Wk):tv (nxT (tW o) 0)= .bool o.used:=rfl
theorem s9 (o:AD):tv (nxT (tO o) 0)= .bool o.live:=rfl
theorem sG (o:AD):tv (nxT (tO o) 1)=I o.gen:=rfl
theorem tQ (o:AD):tv (nxT (tO o) 5)=I o.count:=rfl
end Go.Proofs.YthapfcoajahegaaDoor.P
namespace Go.Proofs.YthapfcoajahegaaDoor.P
open Go Go.Proofs.YthapfcoajahegaaDoor Go.Proofs.YthapfcoajahegaaDoor.Eng
set_option linter.unusedVariables false
set_option maxHeartbeats 4000000
set_option linter.unusedVariables false
set_option linter.unusedSimpArgs false
attribute [local irreducible] prP gP gE gF AY ixW ldc ldg ldl stc stg scW mkW apW A6 cl2 BL C5 BX
variable {w0:World}
structure St (h:Hp):Prop where
 ol:h.AG.length=8
 wl:h.CY.length=8
 sl:h.sites.length≤6
 bl:h.buffer.length≤100
 of: ∀o∈h.AG,OF o
 ss: ∀s∈h.sites,(s.size:Int)≤1048576
 wf: ∀w∈h.CY,F64 w.target
 bf: ∀x∈h.buffer,F64 x
theorem St.fits {h:Hp} (s:St h):Fits h:=⟨by have:=s.ol;omega,fun o ho=>by have:=(s.of o ho).len;omega,by have:=s.wl;omega,by have:=s.bl;omega,by have:=s.sl;omega,s.ss⟩
def GN (os:List AD) (id:Int):List AD:=if AA os id<0 then os else os.set (AA os id).toNat {ob os (AA os id).toNat with count:=w64 ((ob os (AA os id).toNat).count+1)}
theorem XE (os:List AD) (id:Int):(GN os id).length=os.length:=by unfold GN;split <;> simp
theorem jP {os:List AD} {id:Int} (h: ∀o∈os,OF o): ∀o∈GN os id,OF o:=by
 unfold GN
 split
 ·exact h
 ·have hk:=A7 (l:=os) (id:=id) (by omega)
  have ho:=h _ (LO (l:=os) (i:=(AA os id).toNat) (by omega))
  exact Q6 h ⟨ho.gen,ho.len,ho.fld⟩
theorem O1 {os:List AD} {b c d:List T} {id:Int} {K:J2} (hid:F64 id) (hol:os.length=8) (h:K [] [tR tO (GN os id)]):cl2 ⟨Tryd.prog,w0⟩ 26 DW.sg [I id] [tR tO os,b,c,d] K:=by
 refine DW.cl2 ?_
 unfold DW.txt
 simp only [AM,AS,AW,AU,AO,AI,AJ,AQ,AK,AP,AN,AR,AL,AV,CF,CQ,CO,CT,CL,CN,CP,BD,BE,BG,BH,BJ,BF]
 refine C6 hid (by omega) ?_
 simp only [AM,AS,AW,AU,AO,AI,AJ,AQ,AK,AP,AN,AR,AL,AV,CF,CQ,CO,CT,CL,CN,CP,BD,BE,BG,BH,BJ,BF]
 unfold GN at h
 refine C0 (A8 (fun hs=> ?_) fun hs=> ?_)
 ·have hk:=A7 (l:=os) (id:=id) (by omega)
  rw [if_neg (by omega)] at h
  obtain ⟨k,hkk⟩: ∃k,(AA os id).toNat=k:=⟨_,rfl⟩
  have hkI:AA os id=(k:Int):=by omega
  rw [hkk] at h
  rw [hkI]
  have hkl:k<os.length:=by omega
  rw [pW hkl]
  exact A5 (by omega) (K6 (i:=k) hkl (by decide) rfl (BV (A5 (by omega) (L6 hkl h))))
 ·rw [if_pos (by omega)] at h;exact h
end Go.Proofs.YthapfcoajahegaaDoor.P
