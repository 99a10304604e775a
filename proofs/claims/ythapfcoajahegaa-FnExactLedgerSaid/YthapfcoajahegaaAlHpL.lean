/- A part of the proof. -/
import Derived.Test.YthapfcoajahegaaAlHpE
namespace Go.Proofs.Ythapfcoajahegaa.P
open Go Go.Proofs.Ythapfcoajahegaa Go.Proofs.Ythapfcoajahegaa.Eng
set_option maxHeartbeats 4000000
set_option linter.unusedVariables false
set_option linter.unusedSimpArgs false
attribute [local irreducible] prP gP gE gF AH ixW ldc ldg ldl stc stg scW mkW apW AP cl2 AX C9 BW
variable {w0:World}
end Go.Proofs.Ythapfcoajahegaa.P
namespace Go.Proofs.Ythapfcoajahegaa.P
open Go Go.Proofs.Ythapfcoajahegaa Go.Proofs.Ythapfcoajahegaa.Eng
set_option linter.unusedVariables false
set_option maxHeartbeats 4000000
set_option linter.unusedVariables false
set_option linter.unusedSimpArgs false
attribute [local irreducible] prP gP gE gF AH ixW ldc ldg ldl stc stg scW mkW apW AP cl2 AX C9 BW
variable {w0:World}
def SG:List Int:=[-1, -1, -1]
def CM (g:Int):AE:=⟨false,g,0,0,0,0,SG,false⟩
def KD:Nat→List AE→List Int→List Int→List Int→List AE×List Int×List Int
 | 0,os,buf,freed,_=>(os,buf,freed)
 | f+1,os,buf,freed,todo=>match todo with
   | []=>(os,buf,freed)
   | id::todo=>if freed.length>8 then (os,buf,freed) else
     if AA os id<0 then KD f os buf freed todo else
     if w64 ((ob os (AA os id).toNat).count-1)>0 then
      (if (ob os (AA os id).toNat).purple=true then KD f (os.set (AA os id).toNat {ob os (AA os id).toNat with count:=w64 ((ob os (AA os id).toNat).count-1)}) buf freed todo
       else KD f (os.set (AA os id).toNat {ob os (AA os id).toNat with count:=w64 ((ob os (AA os id).toNat).count-1),purple:=true}) (buf++[id]) freed todo)
     else KD f (os.set (AA os id).toNat (CM (ob os (AA os id).toNat).gen)) (buf.filter fun x=>decide (x≠id)) (freed++[id]) (todo++(ob os (AA os id).toNat).field.filter fun x=>decide (0≤x))
def mu (freed todo:List Int):Nat:=todo.length+4*(9-freed.length)
def OB (os:List AE) (buf ids:List Int):List AE×List Int×List Int:=KD (ids.length+37) os buf [] ids
theorem BH {l:List AE} {id:Int} (h:0≤AA l id):l.length=8∧8≤id∧AA l id=id % 8∧(AA l id).toNat<8∧(ob l (AA l id).toNat).live=true∧(ob l (AA l id).toNat).gen=id/8:=by
 unfold AA at h ⊢
 split at h
 ·omega
 ·split at h
  ·rename_i h1 h2
   rw [if_neg h1,if_pos h2]
   exact ⟨by omega,by omega,rfl,by omega,h2.1,h2.2⟩
  ·omega
structure OF (o:AE):Prop where
 gen:F64 o.gen
 len:o.field.length=3
 fld: ∀f∈o.field,F64 f
theorem OF.free {g:Int} (h:F64 g):OF (CM g):=⟨h,rfl,by simp [CM,SG,F64]⟩
theorem dN {l:List AE} {P:AE→Prop} {i:Nat} {o:AE} (h: ∀x∈l,P x) (ho:P o): ∀x∈l.set i o,P x:=fun x hx=>(List.mem_or_eq_of_mem_set hx).elim (h x) fun he=>he ▸ ho
structure LsI (R:List AE×List Int×List Int) (M:Nat) (q:List AE×List Int×List Int×List Int×Nat):Prop where
 ol:q.1.length=8
 of: ∀o∈q.1,OF o
 fr:q.2.2.1.length≤9
 off:q.2.2.2.2≤q.2.2.2.1.length
 td: ∀x∈q.2.2.2.1.drop q.2.2.2.2,F64 x
 sz:q.2.1.length+mu q.2.2.1 (q.2.2.2.1.drop q.2.2.2.2)≤M
 go: ∃f,mu q.2.2.1 (q.2.2.2.1.drop q.2.2.2.2)<f∧KD f q.1 q.2.1 q.2.2.1 (q.2.2.2.1.drop q.2.2.2.2)=R
theorem drop_cons {l:List Int} {a:Nat} (ha:a<l.length):l.drop a=gI l a::l.drop (a+1):=by rw [List.drop_eq_getElem_cons ha,I6 ha]
theorem oJ {freed todo:List Int} {x:Int}:mu freed (x::todo)=mu freed todo+1:=by simp only [mu,List.length_cons];omega
theorem dJ {l:List AE} {i:Nat} (h:i<l.length):ob l i∈l:=by rw [←ID h];exact List.getElem_mem h
section
variable {R:List AE×List Int×List Int} {M:Nat} {os:List AE} {buf freed row:List Int} {off:Nat}
theorem LsI.step (h:LsI R M (os,buf,freed,row,off)) (hlt:off<row.length) (hfr:freed.length≤8):F64 (gI row off)∧ ∃f,mu freed (row.drop (off+1))<f∧KD (f+1) os buf freed (gI row off::row.drop (off+1))=R∧buf.length+mu freed (row.drop (off+1))+1≤M∧ ∀x∈row.drop (off+1),F64 x:=by
 obtain ⟨_,_,_,_,td,sz,f,hf,go⟩:=h
 simp only at td sz hf go
 rw [drop_cons hlt] at td sz hf go
 rw [oJ] at sz hf
 obtain ⟨f,rfl⟩: ∃f',f=f'+1:=⟨f-1,by omega⟩
 exact ⟨td _ (by simp),f,by omega,go,by omega,fun x hx=>td x (by simp [hx])⟩
theorem LsI.skip (h:LsI R M (os,buf,freed,row,off)) (hlt:off<row.length) (hfr:freed.length≤8) (hs:AA os (gI row off)<0):LsI R M (os,buf,freed,row,off+1):=by
 obtain ⟨_,f,h1,h2,h3,h4⟩:=h.step hlt hfr
 rw [KD] at h2
 simp only at h2
 rw [if_neg (by omega),if_pos hs] at h2
 exact ⟨h.ol,h.of,h.fr,hlt,h4,by simp only;omega,f,h1,h2⟩
theorem LsI.P2 (h:LsI R M (os,buf,freed,row,off)) (hlt:off<row.length) (hfr:freed.length≤8) (hs:0≤AA os (gI row off)) (hc:w64 ((ob os (AA os (gI row off)).toNat).count-1)>0) (hp:(ob os (AA os (gI row off)).toNat).purple=true):
  LsI R M (os.set (AA os (gI row off)).toNat {ob os (AA os (gI row off)).toNat with count:=w64 ((ob os (AA os (gI row off)).toNat).count-1)},buf,freed,row,off+1):=by
 obtain ⟨_,f,h1,h2,h3,h4⟩:=h.step hlt hfr
 have hk:=BH hs
 have ho:=h.of _ (dJ (l:=os) (i:=(AA os (gI row off)).toNat) (by omega))
 rw [KD] at h2
 simp only at h2
 rw [if_neg (by omega),if_neg (by omega),if_pos hc,if_pos hp] at h2
 exact ⟨by simp only [List.length_set];exact h.ol,dN h.of ⟨ho.gen,ho.len,ho.fld⟩,h.fr,hlt,h4,by simp only;omega,f,h1,h2⟩
theorem LsI.put (h:LsI R M (os,buf,freed,row,off)) (hlt:off<row.length) (hfr:freed.length≤8) (hs:0≤AA os (gI row off)) (hc:w64 ((ob os (AA os (gI row off)).toNat).count-1)>0) (hp:(ob os (AA os (gI row off)).toNat).purple=false):
  LsI R M (os.set (AA os (gI row off)).toNat {ob os (AA os (gI row off)).toNat with count:=w64 ((ob os (AA os (gI row off)).toNat).count-1),purple:=true},buf++[gI row off],freed,row,off+1):=by
 obtain ⟨_,f,h1,h2,h3,h4⟩:=h.step hlt hfr
 have hk:=BH hs
 have ho:=h.of _ (dJ (l:=os) (i:=(AA os (gI row off)).toNat) (by omega))
 rw [KD] at h2
 simp only at h2
 rw [if_neg (by omega),if_neg (by omega),if_pos hc,if_neg (by rw [hp];decide)] at h2
 exact ⟨by simp only [List.length_set];exact h.ol,dN h.of ⟨ho.gen,ho.len,ho.fld⟩,h.fr,hlt,h4,by simp only [List.length_append,List.length_singleton];omega,f,h1,h2⟩
theorem LsI.free (h:LsI R M (os,buf,freed,row,off)) (hlt:off<row.length) (hfr:freed.length≤8) (hs:0≤AA os (gI row off)) (hc: ¬w64 ((ob os (AA os (gI row off)).toNat).count-1)>0) {row':List Int} {off':Nat} (hrow:row'.drop off'=row.drop (off+1)++(ob os (AA os (gI row off)).toNat).field.filter fun x=>decide (0≤x)) (hle:off'≤row'.length):
  LsI R M (os.set (AA os (gI row off)).toNat (CM (ob os (AA os (gI row off)).toNat).gen),buf.filter fun x=>decide (x≠gI row off),freed++[gI row off],row',off'):=by
 obtain ⟨_,f,h1,h2,h3,h4⟩:=h.step hlt hfr
 have hk:=BH hs
 have ho:=h.of _ (dJ (l:=os) (i:=(AA os (gI row off)).toNat) (by omega))
 have hfl:=List.length_filter_le (fun x=>decide (0≤x)) (ob os (AA os (gI row off)).toNat).field
 have hbl:=List.length_filter_le (fun x=>decide (x≠gI row off)) buf
 rw [ho.len] at hfl
 rw [KD] at h2
 simp only at h2
 rw [if_neg (by omega),if_neg (by omega),if_neg hc] at h2
 have hmu:mu (freed++[gI row off]) (row'.drop off')≤mu freed (row.drop (off+1)):=by
  rw [hrow];simp only [mu,List.length_append,List.length_singleton];omega
 refine ⟨by simp only [List.length_set];exact h.ol,dN h.of (OF.free ho.gen),by simp only [List.length_append,List.length_singleton];omega,hle,fun x hx=> ?_,by simp only;omega,f,by simp only;omega,by rw [←h2,hrow]⟩
 simp only at hx
 rw [hrow] at hx
 rcases List.mem_append.1 hx with hx | hx
 ·exact h4 x hx
 ·exact ho.fld x (List.mem_filter.1 hx).1
end
section
variable {cur:List AE} {k:Nat} {y:AE}
end
end Go.Proofs.Ythapfcoajahegaa.P
namespace Go.Proofs.Ythapfcoajahegaa.P
open Go Go.Proofs.Ythapfcoajahegaa Go.Proofs.Ythapfcoajahegaa.Eng
set_option maxHeartbeats 4000000
set_option linter.unusedVariables false
set_option linter.unusedSimpArgs false
attribute [local irreducible] prP gP gE gF AH ixW ldc ldg ldl stc stg scW mkW apW AP cl2 AX C9 BW
variable {w0:World}
end Go.Proofs.Ythapfcoajahegaa.P
namespace Go.Proofs.Ythapfcoajahegaa.P
open Go Go.Proofs.Ythapfcoajahegaa Go.Proofs.Ythapfcoajahegaa.Eng
set_option linter.unusedVariables false
set_option maxHeartbeats 4000000
set_option linter.unusedVariables false
set_option linter.unusedSimpArgs false
attribute [local irreducible] prP gP gE gF AH ixW ldc ldg ldl stc stg scW mkW apW AP cl2 AX C9 BW
variable {w0:World}
structure St (h:Hp):Prop where
 ol:h.BC.length=8
 wl:h.DO.length=8
 sl:h.sites.length≤6
 bl:h.buffer.length≤100
 of: ∀o∈h.BC,OF o
 ss: ∀s∈h.sites,(s.size:Int)≤1048576
 wf: ∀w∈h.DO,F64 w.target
 bf: ∀x∈h.buffer,F64 x
theorem St.fits {h:Hp} (s:St h):Fits h:=⟨by have:=s.ol;omega,fun o ho=>by have:=(s.of o ho).len;omega,by have:=s.wl;omega,by have:=s.bl;omega,by have:=s.sl;omega,s.ss⟩
def GQ (os:List AE) (id:Int):List AE:=if AA os id<0 then os else os.set (AA os id).toNat {ob os (AA os id).toNat with count:=w64 ((ob os (AA os id).toNat).count+1)}
theorem iQ (os:List AE) (id:Int):(GQ os id).length=os.length:=by unfold GQ;split <;> simp
end Go.Proofs.Ythapfcoajahegaa.P
namespace Go.Proofs.Ythapfcoajahegaa.P
open Go Go.Proofs.Ythapfcoajahegaa Go.Proofs.Ythapfcoajahegaa.Eng
set_option linter.unusedVariables false
set_option maxHeartbeats 4000000
set_option linter.unusedVariables false
set_option linter.unusedSimpArgs false
attribute [local irreducible] prP gP gE gF AH ixW ldc ldg ldl stc stg scW mkW apW AP cl2 AX C9 BW
variable {w0:World}
def RS (n:Nat) (p:Nat→Bool):Int:=match (List.range n).find? p with
 | some i=>(i:Int)
 | none=> -1
theorem QZ (n:Nat) (p:Nat→Bool):(RS n p= -1∧ ∀k,k<n→p k=false)∨ ∃i,i<n∧RS n p=(i:Int)∧p i=true∧ ∀k,k<i→p k=false:=by
 cases h:(List.range n).find? p with
 | none=>exact .inl ⟨by rw [RS,h],fun k hk=>by have:=List.find?_range_eq_none.1 h k hk;simpa using this⟩
 | some i=>
   obtain ⟨h1,h2,h3⟩:=List.find?_range_eq_some.1 h
   exact .inr ⟨i,List.mem_range.1 h2,by rw [RS,h],h1,fun k hk=>by have:=h3 k hk;simpa using this⟩
def XC (os:List AE) (i:Nat):Bool:= !(ob os i).live&&decide ((ob os i).gen<999)
def EF (os:List AE):Int:=RS os.length (XC os)
def K8 (ws:List Wk):Int:=RS ws.length fun i=> !(wk ws i).used
def M7 (g s:Int):AE:=⟨true,g,s,1,0,1,SG,false⟩
def P3 (os:List AE) (ss:List ByteArray) (s:ByteArray):List AE×List ByteArray×An:=
 if ¬(1≤(s.size:Int)∧(s.size:Int)≤8) then (os,ss,⟨2,0,[]⟩)
 else if EF os<0 then (os,ss,⟨3,0,[]⟩)
 else if at_ ss s<0∧6≤ss.length then (os,ss,⟨6,0,[]⟩)
 else (os.set (EF os).toNat (M7 (w64 ((ob os (EF os).toNat).gen+1)) (if at_ ss s<0 then ss.length else at_ ss s)),(if at_ ss s<0 then ss++[s] else ss),⟨0,DA (EF os) (w64 ((ob os (EF os).toNat).gen+1)),[]⟩)
theorem ZD {os:List AE} (h: ¬EF os<0):(EF os).toNat<os.length∧EF os=((EF os).toNat:Int)∧XC os (EF os).toNat=true:=by
 rcases QZ os.length (XC os) with ⟨h1,_⟩ | ⟨i,h1,h2,h3,_⟩
 ·unfold EF at h;omega
 ·have e:EF os=i:=h2
  have e2:(EF os).toNat=i:=by omega
  rw [e2];exact ⟨h1,e,h3⟩
def PW (r:List AE×List Int×List Int):List AE×List Int×An:=(r.1,r.2.1,⟨0,0,r.2.2⟩)
def SA (os:List AE) (buf:List Int) (kind id:Int):List AE×List Int×An:=
 if AA os id<0 then (os,buf,⟨1,0,[]⟩) else
 if kind=2 then
  if (ob os (AA os id).toNat).holds=20 then (os,buf,⟨4,0,[]⟩) else (GQ (os.set (AA os id).toNat {ob os (AA os id).toNat with holds:=(ob os (AA os id).toNat).holds+1}) id,buf,⟨0,0,[]⟩)
 else if kind=5 then
  if (ob os (AA os id).toNat).roots=20 then (os,buf,⟨4,0,[]⟩) else (GQ (os.set (AA os id).toNat {ob os (AA os id).toNat with roots:=(ob os (AA os id).toNat).roots+1}) id,buf,⟨0,0,[]⟩)
 else if kind=3 then
  if (ob os (AA os id).toNat).holds=0 then (os,buf,⟨5,0,[]⟩) else PW (OB (os.set (AA os id).toNat {ob os (AA os id).toNat with holds:=(ob os (AA os id).toNat).holds-1}) buf [id])
 else
  if (ob os (AA os id).toNat).roots=0 then (os,buf,⟨5,0,[]⟩) else PW (OB (os.set (AA os id).toNat {ob os (AA os id).toNat with roots:=(ob os (AA os id).toNat).roots-1}) buf [id])
theorem St.set {h:Hp} {os:List AE} (st:St h) (hl:os.length=h.BC.length) (ho: ∀o∈os,OF o):St {h with BC:=os}:=⟨by have:=st.ol;simp only;omega,st.wl,st.sl,st.bl,ho,st.ss,st.wf,st.bf⟩
end Go.Proofs.Ythapfcoajahegaa.P
namespace Go.Proofs.Ythapfcoajahegaa.P
open Go Go.Proofs.Ythapfcoajahegaa Go.Proofs.Ythapfcoajahegaa.Eng
set_option linter.unusedVariables false
set_option maxHeartbeats 4000000
set_option linter.unusedVariables false
set_option linter.unusedSimpArgs false
attribute [local irreducible] prP gP gE gF AH ixW ldc ldg ldl stc stg scW mkW apW AP cl2 AX C9 BW
variable {w0:World}
def OL (os:List AE) (buf:List Int) (a b c:Int):List AE×List Int×An:=
 if AA os a<0∨(c≠ -1∧AA os c<0) then (os,buf,⟨1,0,[]⟩) else
 if ¬(0≤b∧b≤2) then (os,buf,⟨2,0,[]⟩) else
 if gI (ob os (AA os a).toNat).field b.toNat= -1 then
  ((GQ os c).set (AA os a).toNat {ob (GQ os c) (AA os a).toNat with field:=(ob os (AA os a).toNat).field.set b.toNat c},buf,⟨0,0,[]⟩)
 else PW (OB ((GQ os c).set (AA os a).toNat {ob (GQ os c) (AA os a).toNat with field:=(ob os (AA os a).toNat).field.set b.toNat c}) buf [gI (ob os (AA os a).toNat).field b.toNat])
theorem GA {l:List AE} {i k:Nat} {o:AE} (hk:k<l.length):ob (l.set k o) i=if i=k then o else ob l i:=by
 unfold ob
 by_cases h:i=k
 ·subst h
  rw [if_pos rfl,List.getD_eq_getElem?_getD,List.getElem?_set_self hk];rfl
 ·rw [if_neg h,List.getD_eq_getElem?_getD,List.getElem?_set_ne (Ne.symm h),List.getD_eq_getElem?_getD]
theorem jM {os:List AE} {id:Int} {i:Nat}:(ob (GQ os id) i).live=(ob os i).live∧(ob (GQ os id) i).gen=(ob os i).gen∧(ob (GQ os id) i).site=(ob os i).site∧(ob (GQ os id) i).holds=(ob os i).holds∧(ob (GQ os id) i).roots=(ob os i).roots∧(ob (GQ os id) i).field=(ob os i).field∧(ob (GQ os id) i).purple=(ob os i).purple:=by
 unfold GQ
 split
 ·exact ⟨rfl,rfl,rfl,rfl,rfl,rfl,rfl⟩
 ·have hk:=BH (l:=os) (id:=id) (by omega)
  rw [GA (by omega)]
  split
  ·rename_i h;subst h;exact ⟨rfl,rfl,rfl,rfl,rfl,rfl,rfl⟩
  ·exact ⟨rfl,rfl,rfl,rfl,rfl,rfl,rfl⟩
theorem OF.put {o:AE} {m:List Int} (h:OF o) (hl:m.length=3) (hf: ∀x∈m,F64 x):OF {o with field:=m}:=⟨h.gen,hl,hf⟩
def WK (os:List AE) (ws:List Wk) (id:Int):List Wk×An:=
 if AA os id<0 then (ws,⟨1,0,[]⟩) else if K8 ws<0 then (ws,⟨3,0,[]⟩) else (ws.set (K8 ws).toNat ⟨true,id⟩,⟨0,K8 ws,[]⟩)
def PB (os:List AE) (ws:List Wk) (kind k:Int):List Wk×An:=
 if ¬(0≤k∧k≤(ws.length:Int)-1) then (ws,⟨2,0,[]⟩) else
 if (wk ws k.toNat).used=false then (ws,⟨2,0,[]⟩) else
 if kind=9 then (ws.set k.toNat ⟨false,0⟩,⟨0,0,[]⟩) else
 if AA os (wk ws k.toNat).target<0 then (ws,⟨0, -1,[]⟩) else (ws,⟨0,(wk ws k.toNat).target,[]⟩)
theorem gO {ws:List Wk} (h: ¬K8 ws<0):(K8 ws).toNat<ws.length∧K8 ws=((K8 ws).toNat:Int)∧(wk ws (K8 ws).toNat).used=false:=by
 rcases QZ ws.length (fun i=> !(wk ws i).used) with ⟨h1,_⟩ | ⟨i,h1,h2,h3,_⟩
 ·unfold K8 at h;omega
 ·have e:K8 ws=i:=h2
  have e2:(K8 ws).toNat=i:=by omega
  rw [e2];exact ⟨h1,e,by simpa using h3⟩
end Go.Proofs.Ythapfcoajahegaa.P
namespace Go.Proofs.Ythapfcoajahegaa.P
open Go Go.Proofs.Ythapfcoajahegaa Go.Proofs.Ythapfcoajahegaa.Eng
set_option linter.unusedVariables false
theorem iU (n:Int):w64 n=(n+9223372036854775808) % 18446744073709551616-9223372036854775808:=by
 simp only [w64,IntKind.wrap,IntKind.bits,IntKind.signed]
 simp
 split <;> omega
theorem NB (a b:Int):w64 (w64 a+b)=w64 (a+b):=by simp only [iU];omega
theorem oP (a:Int):F64 (w64 a):=by rw [iU];exact ⟨by omega,by omega⟩
def HM:Nat→(Nat→Int)→Int
 | 0,_=>0
 | n+1,f=>HM n f+f n
theorem OT {n:Nat} {f g:Nat→Int} (h: ∀k,k<n→f k=g k):HM n f=HM n g:=by
 induction n with
 | zero=>rfl
 | succ n ih=>simp only [HM];rw [ih fun k hk=>h k (by omega),h n (by omega)]
theorem RP {n k0:Nat} {f g:Nat→Int} (hk:k0<n) (h: ∀k,k<n→k≠k0→f k=g k):HM n g=HM n f+(g k0-f k0):=by
 induction n with
 | zero=>omega
 | succ n ih=>
   simp only [HM]
   by_cases he:k0=n
   ·subst he
    rw [OT (g:=g) fun k hk=>h k (by omega) (by omega)];omega
   ·rw [ih (by omega) fun k hk hne=>h k (by omega) hne,h n (by omega) (by omega)];omega
theorem iR {n:Nat} {f g:Nat→Int}:HM n (fun k=>f k+g k)=HM n f+HM n g:=by
 induction n with
 | zero=>rfl
 | succ n ih=>simp only [HM,ih];omega
theorem KY {n:Nat} {f:Nat→Int} (h: ∀k,k<n→f k=0):HM n f=0:=by
 induction n with
 | zero=>rfl
 | succ n ih=>simp only [HM];rw [ih fun k hk=>h k (by omega),h n (by omega)];rfl
theorem OE {n:Nat} {f g:Nat→Int} (h: ∀k,k<n→f k≤g k):HM n f≤HM n g:=by
 induction n with
 | zero=>exact Int.le_refl _
 | succ n ih=>simp only [HM];have:=ih fun k hk=>h k (by omega);have:=h n (by omega);omega
theorem L7 {l:List Int} {i k:Nat} {v:Int} (hk:k<l.length):gI (l.set k v) i=if i=k then v else gI l i:=by
 unfold gI
 by_cases h:i=k
 ·subst h
  rw [if_pos rfl,List.getD_eq_getElem?_getD,List.getElem?_set_self hk];rfl
 ·rw [if_neg h,List.getD_eq_getElem?_getD,List.getElem?_set_ne (Ne.symm h),List.getD_eq_getElem?_getD]
def BE (os:List AE) (k:Nat):List Int:=((ob os k).field.map (AA os)).filter fun x=>decide (0≤x)
def E (os:List AE) (k i:Nat):Int:=((BE os k).count (i:Int):Nat)
theorem EM {os:List AE} {k:Nat} {x:Int} (h:x∈BE os k):0≤x∧x.toNat<8∧x=(x.toNat:Int)∧os.length=8∧(ob os x.toNat).live=true:=by
 obtain ⟨h1,h2⟩:=List.mem_filter.1 h
 obtain ⟨f,_,rfl⟩:=List.mem_map.1 h1
 have h2:0≤AA os f:=by simpa using h2
 have:=BH h2
 exact ⟨h2,this.2.2.2.1,by omega,this.1,this.2.2.2.2.1⟩
theorem QP (os:List AE) (k i:Nat):0≤E os k i:=Int.natCast_nonneg _
inductive Reach (os:List AE) (s:Nat):Nat→Prop
 | refl:Reach os s s
 | step {k:Nat} {j:Int}:Reach os s k→j∈BE os k→Reach os s j.toNat
theorem Reach.trans {os:List AE} {a b c:Nat} (h:Reach os a b) (g:Reach os b c):Reach os a c:=by
 induction g with
 | refl=>exact h
 | step _ hj ih=>exact .step ih hj
theorem Reach.closed {os:List AE} {P:Nat→Prop} {s k:Nat} (h:Reach os s k) (hs:P s) (hc: ∀k,P k→ ∀j∈BE os k,P j.toNat):P k:=by
 induction h with
 | refl=>exact hs
 | step _ hj ih=>exact hc _ ih _ hj
theorem Reach.lt {os:List AE} {s k:Nat} (h:Reach os s k) (hs:s<8):k<8:=h.closed (P:=fun k=>k<8) hs fun _ _ _ hj=>(EM hj).2.1
def S (os:List AE) (P:Nat→Bool) (i:Nat):Int:=HM 8 fun k=>if P k then E os k i else 0
theorem rL {os:List AE} {P Q:Nat→Bool} {i k0:Nat} (hk:k0<8) (h0:P k0=false) (h1:Q k0=true) (h: ∀k,k<8→k≠k0→P k=Q k):S os Q i=S os P i+E os k0 i:=by
 unfold S
 rw [RP (n:=8) (f:=fun k=>if P k then E os k i else 0) (g:=fun k=>if Q k then E os k i else 0) hk fun k hk hne=>by rw [h k hk hne]]
 simp only [h0,h1];simp
theorem nN {os:List AE} {P:Nat→Bool} {i:Nat}:S os P i+S os (fun k=> !P k) i=S os (fun _=>true) i:=by
 unfold S
 rw [←iR]
 refine OT fun k hk=> ?_
 cases h:P k <;> simp [h]
def isC (col:List Int) (c:Int) (k:Nat):Bool:=decide (gI col k=c)
theorem e7 {col:List Int} {c:Int} {k s:Nat} (hs:s<col.length):isC (col.set s c) c k=(decide (k=s)||isC col c k):=by
 unfold isC
 rw [L7 hs]
 by_cases h:k=s
 ·simp [h]
 ·simp [h]
def iI (col:List Int) (c:Int):Nat:=(HM 8 fun k=>if isC col c k then 0 else 1).toNat
theorem oG {a b:List Int} {c:Int} {s:Nat} (hs:s<8) (h0:gI a s≠c) (h1:gI b s=c) (h: ∀k,k<8→gI a k=c→gI b k=c):iI b c<iI a c:=by
 have hle:HM 8 (fun k=>if isC b c k then 0 else 1)≤HM 8 (fun k=>if isC a c k∨k=s then 0 else 1):=OE fun k hk=>by
  by_cases h2:gI a k=c
  ·simp [isC,h2,h k hk h2]
  ·by_cases hks:k=s
   ·subst hks;simp [isC,h1]
   ·by_cases h3:gI b k=c <;> simp [isC,h2,h3,hks]
 have hu:=RP (n:=8) (k0:=s) (f:=fun k=>if isC a c k∨k=s then (0:Int) else 1) (g:=fun k=>if isC a c k then (0:Int) else 1) hs fun k hk hne=>by simp [hne]
 have e1:isC a c s=false:=by simp [isC,h0]
 simp only [e1,or_true,if_true] at hu
 have h3:0≤HM 8 (fun k=>if isC b c k then (0:Int) else 1):=by
  have:=OE (n:=8) (f:=fun _=>0) (g:=fun k=>if isC b c k then (0:Int) else 1) fun k hk=>by split <;> simp
  rw [KY (fun _ _=>rfl)] at this;exact this
 simp only [Bool.false_eq_true,if_false] at hu
 unfold iI;omega
structure XS (os:List AE) (c m:Int) (cs col cs' col':List Int) (s:Nat):Prop where
 len:cs'.length=8∧col'.length=8
 f: ∀i,i<8→F64 (gI cs' i)
 P2: ∀k,k<8→gI col k=c→gI col' k=c
 only: ∀k,k<8→gI col' k≠c→gI col' k=gI col k
 got:gI col' s=c
 clo: ∀k,k<8→gI col' k=c→gI col k≠c→Reach os s k∧ ∀j∈BE os k,gI col' j.toNat=c
 cnt: ∀i,i<8→gI cs' i=w64 (gI cs i+m*(S os (isC col' c) i-S os (isC col c) i))
theorem XS.refl {os:List AE} {c m:Int} {cs col:List Int} {s:Nat} (h1:cs.length=8) (h2:col.length=8) (hf: ∀i,i<8→F64 (gI cs i)) (hs:gI col s=c):XS os c m cs col cs col s:=
 ⟨⟨h1,h2⟩,hf,fun _ _ h=>h,fun _ _ _=>rfl,hs,fun _ _ h1 h2=>absurd h1 h2,fun i hi=>by rw [Int.sub_self,Int.mul_zero,Int.add_zero,ON (hf i hi)]⟩
end Go.Proofs.Ythapfcoajahegaa.P
