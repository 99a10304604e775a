/- A part of the proof. -/
import Derived.Test.YtklmcfpgdfibnaaNwTxtE
namespace Go.Proofs.Ytklmcfpgdfibnaa.P
open Go Go.Proofs.Ytklmcfpgdfibnaa Go.Proofs.Ytklmcfpgdfibnaa.Eng
set_option linter.unusedVariables false
def szB (s:ByteArray):Bool:=decide ((s.size:Int)≤8)
def sM (l:List ByteArray):Bool:=l.all szB&&decide l.Nodup
def tX (n:Int) (l:List ByteArray):Bool:=(OY n&&decide (l.length≤400))&&sM l
theorem l9 {n i:Nat} (hi:i≤n) {K:Value→Value→Prop} (h:K (iv 0) (iv i)):scW n none (some (iv i)) K:=
 ⟨0,i,rfl,by simp [bnd,iv],Nat.zero_le _,hi,h⟩
def mZ (l:List ByteArray) (s:ByteArray):ByteArray:=if s∈l then V (at_ l s+1) else V 0++ST s
def sZ (l:List ByteArray) (s:ByteArray):List ByteArray:=if s∈l then l else l++[s]
end Go.Proofs.Ytklmcfpgdfibnaa.P
namespace Go.Proofs.Ytklmcfpgdfibnaa.P
open Go Go.Proofs.Ytklmcfpgdfibnaa Go.Proofs.Ytklmcfpgdfibnaa.Eng
set_option maxHeartbeats 4000000
set_option linter.unusedVariables false
set_option linter.unusedSimpArgs false
attribute [local irreducible] prP gP gE gF AV ixW ldc ldg ldl stc stg scW mkW apW BL cl2 BS EC CX
variable {w0:World}
theorem e6 {a:List AU} {i:Nat} (hi:i<a.length):tR tO (a.take i)++[T.c (.bool (ob a i).live), .c (I (ob a i).gen), .c (I (ob a i).site), .c (I (ob a i).holds), .c (I (ob a i).roots), .c (I (ob a i).count), .l 1 (tI (ob a i).field), .c (.bool (ob a i).purple)]=tR tO (a.take (i+1)):=by
 rw [List.take_succ_eq_append_getElem hi,DH hi]
 exact hI _ (ob a i)
theorem TK {h:Hp} {K:J2} (hf:Fits h) (hk:K [] (trees h)):cl2 ⟨Try.prog,w0⟩ 97 EP.sg [] (trees h) K:=by
 obtain ⟨a,b,c,d⟩:=h
 have g1:=hf.ol;have g2:=hf.wl;have g3:=hf.sl;have g4:=hf.bl
 simp only at g1 g2 g3 g4
 refine EP.cl2 ?_
 unfold EP.txt
 simp only [AG,AK,AN,AM,AI,AD,AE,AP,AO,AJ,AQ,AR,AL,AH,BE,BJ,BH,BG,BK,BI,BF,A4,A8,A7,A6,A5,AZ]
 refine EH (X8 _) (by omega) (HE (by omega) (R8 (by omega) ?_))
 refine BD (fun i=>[iv a.length,iv i]) (fun i=>[tR tO (a.take i),tR tW b,tI c,tS d]) a.length (fun _=>True) rfl rfl trivial (fun R i hi hP hR=> ?_)
 simp only [AG,AK,AN,AM,AI,AD,AE,AP,AO,AJ,AQ,AR,AL,AH,BE,BJ,BH,BG,BK,BI,BF,A4,A8,A7,A6,A5,AZ]
 refine AX (AW (fun hlt=> ?_) fun hge=> ?_)
 ·have hlt:i<a.length:=by omega
  have hfo:((ob a i).field.length:Int)≤1048576:=p5 (l:=a) hf.of hlt
  have hln:(a.take i).length=i:=by simp;omega
  replace hR:=hR hlt trivial
  refine AS hlt (MB hlt ?_)
  rw [G3 hlt]
  refine HE (by omega) (fW (by rw [hln];omega) (BA (by omega) ?_))
  rw [←e6 hlt] at hR
  exact hR
 ·have:i=a.length:=by omega
  subst this
  rw [List.take_length];exact hk
theorem J3 {h:Hp} {K:J2} (hf:Fits h) (hk:K [] (trees h)):cl2 ⟨Try.prog,w0⟩ 122 C3.sg [] (trees h) K:=by
 obtain ⟨a,b,c,d⟩:=h
 have g1:=hf.ol;have g2:=hf.wl;have g3:=hf.sl;have g4:=hf.bl
 simp only at g1 g2 g3 g4
 refine C3.cl2 ?_
 unfold C3.txt
 simp only [AG,AK,AN,AM,AI,AD,AE,AP,AO,AJ,AQ,AR,AL,AH,BE,BJ,BH,BG,BK,BI,BF,A4,A8,A7,A6,A5,AZ]
 refine EH (X8 _) (by simp only [cnt,List.length_nil];omega) (EH (LZ _) (by omega) (EH (X4 _) (by omega) ?_))
 refine BD (fun i=>[iv i]) (fun i=>[tR tO (a.take i),tR tW b,tI c,tS d]) a.length (fun _=>True) rfl rfl trivial (fun R i hi hP hR=> ?_)
 simp only [AG,AK,AN,AM,AI,AD,AE,AP,AO,AJ,AQ,AR,AL,AH,BE,BJ,BH,BG,BK,BI,BF,A4,A8,A7,A6,A5,AZ]
 refine AX (AW (fun hlt=> ?_) fun hge=> ?_)
 ·have hlt:i<a.length:=by omega
  have hfo:((ob a i).field.length:Int)≤1048576:=p5 (l:=a) hf.of hlt
  have hln:(a.take i).length=i:=by simp;omega
  replace hR:=hR hlt trivial
  refine AS hlt (MB hlt ?_)
  rw [G3 hlt]
  refine EH (LZ _) (by first | omega | (simp only [AG,AK,AN,AM,AI,AD,AE,AP,AO,AJ,AQ,AR,AL,AH,BE,BJ,BH,BG,BK,BI,BF,A4,A8,A7,A6,A5,AZ];omega)) (fW (by rw [hln];omega) (BA (by omega) ?_))
  rw [←e6 hlt] at hR
  exact hR
 ·have:i=a.length:=by omega
  subst this
  rw [List.take_length];exact hk
structure L8 (l:List ByteArray):Prop where
 len:l.length≤6
 sz: ∀i,i<l.length→1≤((gS l i).size:Int)∧((gS l i).size:Int)≤8
 one: ∀i,i<l.length→gS l i∉l.take i
theorem dP {l:List ByteArray} {i:Nat} {x:ByteArray} (hi:i<l.length) (h:x∉l.take i) (hn:gS l i≠x):x∉l.take (i+1):=by
 rw [List.take_succ_eq_append_getElem hi,Q3 hi]
 simp only [List.mem_append,List.mem_singleton,not_or]
 exact ⟨h,fun he=>hn he.symm⟩
structure SW (h:Hp) (i:Nat):Prop where
 gen:0≤(ob h.BB i).gen∧(ob h.BB i).gen≤999
 len:(ob h.BB i).field.length=3
 lead: ∀j,j<3→gI (ob h.BB i).field j≠ -1→(ob h.BB i).live=true∧0≤AB h.BB (gI (ob h.BB i).field j)
 dead:(ob h.BB i).live=false→(ob h.BB i).site=0∧(ob h.BB i).holds=0∧(ob h.BB i).roots=0∧(ob h.BB i).count=0∧(ob h.BB i).purple=false
 lv:(ob h.BB i).live=true→1≤(ob h.BB i).gen∧(0≤(ob h.BB i).site∧(ob h.BB i).site≤(h.sites.length:Int)-1)∧(0≤(ob h.BB i).holds∧(ob h.BB i).holds≤20)∧(0≤(ob h.BB i).roots∧(ob h.BB i).roots≤20)∧
  (ob h.BB i).count=(ob h.BB i).holds+(ob h.BB i).roots+inE h.BB i∧1≤(ob h.BB i).count∧(ob h.BB i).purple=decide (CM i (ob h.BB i).gen∈h.buffer)
structure DB (h:Hp):Prop where
 ol:h.BB.length=8
 wl:h.CA.length=8
 sites:L8 h.sites
 obj: ∀i,i<8→SW h i
 weak: ∀i,i<8→((wk h.CA i).used=false→(wk h.CA i).target=0)∧((wk h.CA i).used=true→8≤(wk h.CA i).target∧(wk h.CA i).target≤7999)
 buf: ∀i,i<h.buffer.length→0≤AB h.BB (gI h.buffer i)∧gI h.buffer i∉h.buffer.take i
theorem pY {l:List Int} {P:Int→Prop} (h0:P 0) (h: ∀x∈l,P x) (i:Nat):P (gI l i):=by
 by_cases hi:i<l.length
 ·rw [←EE hi];exact h _ (List.getElem_mem hi)
 ·unfold gI;rw [List.getD_eq_getElem?_getD,List.getElem?_eq_none (by omega)];exact h0
theorem VW:F64 0:=⟨by omega,by omega⟩
theorem T7.ob {h:Hp} (hn:T7 h) (i:Nat):F64 (ob h.BB i).gen∧F64 (ob h.BB i).site∧F64 (ob h.BB i).holds∧F64 (ob h.BB i).roots∧F64 (ob h.BB i).count∧ ∀f∈(ob h.BB i).field,F64 f:=by
 by_cases hi:i<h.BB.length
 ·rw [←DH hi];exact hn.obj _ (List.getElem_mem hi)
 ·unfold Eng.ob;rw [List.getD_eq_getElem?_getD,List.getElem?_eq_none (by omega)]
  exact ⟨VW,VW,VW,VW,VW,fun f hf=>by simp at hf⟩
theorem T7.fld {h:Hp} (hn:T7 h) (i j:Nat):F64 (gI (Eng.ob h.BB i).field j):=pY VW (hn.ob i).2.2.2.2.2 j
theorem T7.bf {h:Hp} (hn:T7 h) (i:Nat):F64 (gI h.buffer i):=pY VW hn.buf i
theorem qD {l:List AU} (hl:(l.length:Int)≤1048576) (hf: ∀o∈l,(o.field.length:Int)≤1048576) (s:Int):0≤inE l s∧inE l s≤2^40:=by
 rw [inE];split
 ·have he:=M4 (l:=l) (id:=CM s (ob l s.toNat).gen) (b:=1048576) fun o ho=>by have:=hf o ho;omega
  have hmul:l.length*1048576≤1048576*1048576:=Nat.mul_le_mul_right _ (by omega)
  omega
 ·omega
end Go.Proofs.Ytklmcfpgdfibnaa.P
namespace Go.Proofs.Ytklmcfpgdfibnaa.P
open Go Go.Proofs.Ytklmcfpgdfibnaa Go.Proofs.Ytklmcfpgdfibnaa.Eng
set_option maxHeartbeats 4000000
set_option linter.unusedVariables false
set_option linter.unusedSimpArgs false
attribute [local irreducible] prP gP gE gF AV ixW ldc ldg ldl stc stg scW mkW apW BL cl2 BS EC CX
variable {w0:World}
end Go.Proofs.Ytklmcfpgdfibnaa.P
namespace Go.Proofs.Ytklmcfpgdfibnaa.P
open Go Go.Proofs.Ytklmcfpgdfibnaa Go.Proofs.Ytklmcfpgdfibnaa.Eng
set_option linter.unusedVariables false
theorem p8 {n:Nat} (hn:1≤n) {K:Value→Value→Prop} (h:K (iv 1) (iv (n-1))):scW n (some (.int .i64 1)) none K:=⟨1,n,rfl,rfl,hn,Nat.le_refl _,h⟩
set_option maxHeartbeats 4000000
set_option linter.unusedVariables false
set_option linter.unusedSimpArgs false
attribute [local irreducible] prP gP gE gF AV ixW ldc ldg ldl stc stg scW mkW apW BL cl2 BS EC CX
variable {w0:World}
def N9:List Int:=[-1, -1, -1]
def B4 (g:Int):AU:=⟨false,g,0,0,0,0,N9,false⟩
def JJ:Nat→List AU→List Int→List Int→List Int→List AU×List Int×List Int
 | 0,os,buf,freed,_=>(os,buf,freed)
 | f+1,os,buf,freed,todo=>match todo with
   | []=>(os,buf,freed)
   | id::todo=>if freed.length>8 then (os,buf,freed) else
     if AB os id<0 then JJ f os buf freed todo else
     if w64 ((ob os (AB os id).toNat).count-1)>0 then
      (if (ob os (AB os id).toNat).purple=true then JJ f (os.set (AB os id).toNat {ob os (AB os id).toNat with count:=w64 ((ob os (AB os id).toNat).count-1)}) buf freed todo
       else JJ f (os.set (AB os id).toNat {ob os (AB os id).toNat with count:=w64 ((ob os (AB os id).toNat).count-1),purple:=true}) (buf++[id]) freed todo)
     else JJ f (os.set (AB os id).toNat (B4 (ob os (AB os id).toNat).gen)) (buf.filter fun x=>decide (x≠id)) (freed++[id]) (todo++(ob os (AB os id).toNat).field.filter fun x=>decide (0≤x))
def mu (freed todo:List Int):Nat:=todo.length+4*(9-freed.length)
def HD (os:List AU) (buf ids:List Int):List AU×List Int×List Int:=JJ (ids.length+37) os buf [] ids
theorem BN {l:List AU} {id:Int} (h:0≤AB l id):l.length=8∧8≤id∧AB l id=id % 8∧(AB l id).toNat<8∧(ob l (AB l id).toNat).live=true∧(ob l (AB l id).toNat).gen=id/8:=by
 unfold AB at h ⊢
 split at h
 ·omega
 ·split at h
  ·rename_i h1 h2
   rw [if_neg h1,if_pos h2]
   exact ⟨by omega,by omega,rfl,by omega,h2.1,h2.2⟩
  ·omega
structure OF (o:AU):Prop where
 gen:F64 o.gen
 len:o.field.length=3
 fld: ∀f∈o.field,F64 f
theorem OF.free {g:Int} (h:F64 g):OF (B4 g):=⟨h,rfl,by simp [B4,N9,F64]⟩
theorem JP {l:List AU} {P:AU→Prop} {i:Nat} {o:AU} (h: ∀x∈l,P x) (ho:P o): ∀x∈l.set i o,P x:=fun x hx=>(List.mem_or_eq_of_mem_set hx).elim (h x) fun he=>he ▸ ho
structure LsI (R:List AU×List Int×List Int) (M:Nat) (q:List AU×List Int×List Int×List Int×Nat):Prop where
 ol:q.1.length=8
 of: ∀o∈q.1,OF o
 fr:q.2.2.1.length≤9
 off:q.2.2.2.2≤q.2.2.2.1.length
 td: ∀x∈q.2.2.2.1.drop q.2.2.2.2,F64 x
 sz:q.2.1.length+mu q.2.2.1 (q.2.2.2.1.drop q.2.2.2.2)≤M
 go: ∃f,mu q.2.2.1 (q.2.2.2.1.drop q.2.2.2.2)<f∧JJ f q.1 q.2.1 q.2.2.1 (q.2.2.2.1.drop q.2.2.2.2)=R
theorem VO {l:List Int} {x:Int} {K:J2} (hl:(l.length:Int)≤2^40) (h:K [] [tI (l.filter fun y=>decide (y≠x))]):cl2 ⟨Try.prog,w0⟩ 172 FK.sg [I x] [tI l] K:=by
 refine FK.cl2 ?_
 unfold FK.txt
 simp only [AG,AK,AN,AM,AI,AD,AE,AP,AO,AJ,AQ,AR,AL,AH,BE,BJ,BH,BG,BK,BI,BF,A4,A8,A7,A6,A5,AZ]
 refine BD (fun i=>[I x,iv l.length,iv i]) (fun i=>[tI ((l.take i).filter fun y=>decide (y≠x))]) l.length (fun _=>True) rfl rfl trivial (fun R i hi _ hR=> ?_)
 have hln:=List.length_filter_le (fun y=>decide (y≠x)) (l.take i)
 have hlt2:(l.take i).length≤i:=by simp;omega
 simp only [AG,AK,AN,AM,AI,AD,AE,AP,AO,AJ,AQ,AR,AL,AH,BE,BJ,BH,BG,BK,BI,BF,A4,A8,A7,A6,A5,AZ]
 refine AX (AW (fun hlt=> ?_) fun hge=> ?_)
 ·have hlt:i<l.length:=by omega
  replace hR:=hR hlt trivial
  rw [List.take_succ_eq_append_getElem hlt,List.filter_append,EE hlt] at hR
  refine BO (AS hlt (ldI hlt (CN (AW (fun he=> ?_) fun he=> ?_))))
  ·refine EH rfl (by omega) (BA (by omega) ?_)
   have e:([gI l i].filter fun y=>decide (y≠x))=[gI l i]:=by simp [he]
   rw [e, ←D6] at hR;exact hR
  ·refine BA (by omega) ?_
   have e:([gI l i].filter fun y=>decide (y≠x))=[]:=by simp at he;simp [he]
   rw [e,List.append_nil] at hR;exact hR
 ·have:i=l.length:=by omega
  subst this
  rw [List.take_length];exact h
theorem SL {l:List Int} {x:Int} {K:J2} (hl:(l.length:Int)≤2^40) (h:K [] [tI (l.filter fun y=>decide (y≠x))]):cl2 ⟨Try.prog,w0⟩ 167 D5.sg [I x] [tI l] K:=by
 refine D5.cl2 ?_
 unfold D5.txt
 simp only [AG,AK,AN,AM,AI,AD,AE,AP,AO,AJ,AQ,AR,AL,AH,BE,BJ,BH,BG,BK,BI,BF,A4,A8,A7,A6,A5,AZ]
 refine BD (fun i=>[I x,iv i]) (fun i=>[tI ((l.take i).filter fun y=>decide (y≠x))]) l.length (fun _=>True) rfl rfl trivial (fun R i hi _ hR=> ?_)
 have hln:=List.length_filter_le (fun y=>decide (y≠x)) (l.take i)
 have hlt2:(l.take i).length≤i:=by simp;omega
 simp only [AG,AK,AN,AM,AI,AD,AE,AP,AO,AJ,AQ,AR,AL,AH,BE,BJ,BH,BG,BK,BI,BF,A4,A8,A7,A6,A5,AZ]
 refine AX (AW (fun hlt=> ?_) fun hge=> ?_)
 ·have hlt:i<l.length:=by omega
  replace hR:=hR hlt trivial
  rw [List.take_succ_eq_append_getElem hlt,List.filter_append,EE hlt] at hR
  refine BO (AS hlt (ldI hlt (CN (AW (fun he=> ?_) fun he=> ?_))))
  ·refine AS hlt (ldI hlt (EH rfl (by omega) (BA (by omega) ?_)))
   have e:([gI l i].filter fun y=>decide (y≠x))=[gI l i]:=by simp [he]
   rw [e, ←D6] at hR;exact hR
  ·refine BA (by omega) ?_
   have e:([gI l i].filter fun y=>decide (y≠x))=[]:=by simp at he;simp [he]
   rw [e,List.append_nil] at hR;exact hR
 ·have:i=l.length:=by omega
  subst this
  rw [List.take_length];exact h
theorem OR {g:Value} {K:J2} (h:K [.bool false,g,I 0,I 0,I 0,I 0, .bool false] [tI N9]):cl2 ⟨Try.prog,w0⟩ 99 GB.sg [g] [] K:=GB.cl2 h
theorem lP {l:List Int} {a:Nat} {K:Value→Prop} (ha:a<l.length) (h:K (I (gI l a))):ldc (tI l) [] (a+AA (iv 0)*1) K:=by
 have e:a+AA (iv 0)*1=AA (iv a)*1:=by rw [AY,AY];omega
 rw [e];exact ldI ha h
theorem drop_cons {l:List Int} {a:Nat} (ha:a<l.length):l.drop a=gI l a::l.drop (a+1):=by rw [List.drop_eq_getElem_cons ha,EE ha]
theorem ZM {freed todo:List Int} {x:Int}:mu freed (x::todo)=mu freed todo+1:=by simp only [mu,List.length_cons];omega
theorem HR {l:List AU} {i:Nat} (h:i<l.length):ob l i∈l:=by rw [←DH h];exact List.getElem_mem h
theorem gD {l:List AU} {i:Nat} (h:i<l.length):tR tO l=tR tO (l.set i (ob l i)):=by rw [←DH h];exact oX h
theorem LsI.start {os:List AU} {buf ids:List Int} (hol:os.length=8) (hof: ∀o∈os,OF o) (hid: ∀x∈ids,F64 x):LsI (HD os buf ids) (buf.length+ids.length+36) (os,buf,[],ids,0):=
 ⟨hol,hof,Nat.zero_le _,Nat.zero_le _,by simpa using hid,by simp only [mu,List.drop_zero,List.length_nil];omega,ids.length+37,by simp only [mu,List.drop_zero,List.length_nil];omega,rfl⟩
section
variable {R:List AU×List Int×List Int} {M:Nat} {os:List AU} {buf freed row:List Int} {off:Nat}
theorem LsI.stop (h:LsI R M (os,buf,freed,row,off)) (hs:row.length≤off∨8<freed.length):R=(os,buf,freed):=by
 obtain ⟨_,_,_,_,_,_,f,hf,go⟩:=h
 simp only at hf go
 obtain ⟨f,rfl⟩: ∃f',f=f'+1:=⟨f-1,by omega⟩
 rcases hs with hs | hs
 ·rw [List.drop_of_length_le hs] at go
  rw [←go];rfl
 ·rw [←go]
  cases row.drop off with
  | nil=>rfl
  | cons x l=>simp only [JJ,if_pos hs]
theorem LsI.step (h:LsI R M (os,buf,freed,row,off)) (hlt:off<row.length) (hfr:freed.length≤8):F64 (gI row off)∧ ∃f,mu freed (row.drop (off+1))<f∧JJ (f+1) os buf freed (gI row off::row.drop (off+1))=R∧buf.length+mu freed (row.drop (off+1))+1≤M∧ ∀x∈row.drop (off+1),F64 x:=by
 obtain ⟨_,_,_,_,td,sz,f,hf,go⟩:=h
 simp only at td sz hf go
 rw [drop_cons hlt] at td sz hf go
 rw [ZM] at sz hf
 obtain ⟨f,rfl⟩: ∃f',f=f'+1:=⟨f-1,by omega⟩
 exact ⟨td _ (by simp),f,by omega,go,by omega,fun x hx=>td x (by simp [hx])⟩
theorem LsI.skip (h:LsI R M (os,buf,freed,row,off)) (hlt:off<row.length) (hfr:freed.length≤8) (hs:AB os (gI row off)<0):LsI R M (os,buf,freed,row,off+1):=by
 obtain ⟨_,f,h1,h2,h3,h4⟩:=h.step hlt hfr
 rw [JJ] at h2
 simp only at h2
 rw [if_neg (by omega),if_pos hs] at h2
 exact ⟨h.ol,h.of,h.fr,hlt,h4,by simp only;omega,f,h1,h2⟩
theorem LsI.IL (h:LsI R M (os,buf,freed,row,off)) (hlt:off<row.length) (hfr:freed.length≤8) (hs:0≤AB os (gI row off)) (hc:w64 ((ob os (AB os (gI row off)).toNat).count-1)>0) (hp:(ob os (AB os (gI row off)).toNat).purple=true):
  LsI R M (os.set (AB os (gI row off)).toNat {ob os (AB os (gI row off)).toNat with count:=w64 ((ob os (AB os (gI row off)).toNat).count-1)},buf,freed,row,off+1):=by
 obtain ⟨_,f,h1,h2,h3,h4⟩:=h.step hlt hfr
 have hk:=BN hs
 have ho:=h.of _ (HR (l:=os) (i:=(AB os (gI row off)).toNat) (by omega))
 rw [JJ] at h2
 simp only at h2
 rw [if_neg (by omega),if_neg (by omega),if_pos hc,if_pos hp] at h2
 exact ⟨by simp only [List.length_set];exact h.ol,JP h.of ⟨ho.gen,ho.len,ho.fld⟩,h.fr,hlt,h4,by simp only;omega,f,h1,h2⟩
theorem LsI.put (h:LsI R M (os,buf,freed,row,off)) (hlt:off<row.length) (hfr:freed.length≤8) (hs:0≤AB os (gI row off)) (hc:w64 ((ob os (AB os (gI row off)).toNat).count-1)>0) (hp:(ob os (AB os (gI row off)).toNat).purple=false):
  LsI R M (os.set (AB os (gI row off)).toNat {ob os (AB os (gI row off)).toNat with count:=w64 ((ob os (AB os (gI row off)).toNat).count-1),purple:=true},buf++[gI row off],freed,row,off+1):=by
 obtain ⟨_,f,h1,h2,h3,h4⟩:=h.step hlt hfr
 have hk:=BN hs
 have ho:=h.of _ (HR (l:=os) (i:=(AB os (gI row off)).toNat) (by omega))
 rw [JJ] at h2
 simp only at h2
 rw [if_neg (by omega),if_neg (by omega),if_pos hc,if_neg (by rw [hp];decide)] at h2
 exact ⟨by simp only [List.length_set];exact h.ol,JP h.of ⟨ho.gen,ho.len,ho.fld⟩,h.fr,hlt,h4,by simp only [List.length_append,List.length_singleton];omega,f,h1,h2⟩
theorem LsI.free (h:LsI R M (os,buf,freed,row,off)) (hlt:off<row.length) (hfr:freed.length≤8) (hs:0≤AB os (gI row off)) (hc: ¬w64 ((ob os (AB os (gI row off)).toNat).count-1)>0) {row':List Int} {off':Nat} (hrow:row'.drop off'=row.drop (off+1)++(ob os (AB os (gI row off)).toNat).field.filter fun x=>decide (0≤x)) (hle:off'≤row'.length):
  LsI R M (os.set (AB os (gI row off)).toNat (B4 (ob os (AB os (gI row off)).toNat).gen),buf.filter fun x=>decide (x≠gI row off),freed++[gI row off],row',off'):=by
 obtain ⟨_,f,h1,h2,h3,h4⟩:=h.step hlt hfr
 have hk:=BN hs
 have ho:=h.of _ (HR (l:=os) (i:=(AB os (gI row off)).toNat) (by omega))
 have hfl:=List.length_filter_le (fun x=>decide (0≤x)) (ob os (AB os (gI row off)).toNat).field
 have hbl:=List.length_filter_le (fun x=>decide (x≠gI row off)) buf
 rw [ho.len] at hfl
 rw [JJ] at h2
 simp only at h2
 rw [if_neg (by omega),if_neg (by omega),if_neg hc] at h2
 have hmu:mu (freed++[gI row off]) (row'.drop off')≤mu freed (row.drop (off+1)):=by
  rw [hrow];simp only [mu,List.length_append,List.length_singleton];omega
 refine ⟨by simp only [List.length_set];exact h.ol,JP h.of (OF.free ho.gen),by simp only [List.length_append,List.length_singleton];omega,hle,fun x hx=> ?_,by simp only;omega,f,by simp only;omega,by rw [←h2,hrow]⟩
 simp only at hx
 rw [hrow] at hx
 rcases List.mem_append.1 hx with hx | hx
 ·exact h4 x hx
 ·exact ho.fld x (List.mem_filter.1 hx).1
end
section
variable {cur:List AU} {k:Nat} {y:AU}
theorem gV (hk:k<cur.length):GM (tR tO (cur.set k y)) [k*8+6]=tI y.field:=by have:=OC (y:=y) hk;rwa [AY] at this
theorem lU {i:Nat} {K:Value→Prop} (hk:k<cur.length) (hi:i<y.field.length) (h:K (I (gI y.field i))):ldc (tR tO (cur.set k y)) [k*8+6] i K:=by
 have:=MJ (l:=cur.set k y) (i:=k) (j:=i) (K:=K) (by simpa using hk) (by rw [←DH (by simpa using hk),List.getElem_set_self];exact hi) (by rw [←DH (by simpa using hk),List.getElem_set_self];exact h)
 simpa only [AY,Nat.mul_one] using this
theorem pX {K:Value→Prop} (hk:k<cur.length) (h:K (I y.gen)):ldc (tR tO (cur.set k y)) [] (k*8+1) K:=by
 have:=HM (f:=tO) (K:=K) (c:=1) (y:=y) hk (by decide) rfl h
 rwa [AY] at this
theorem qA {ts:List T} {z:AU} {K:List T→Prop} (hk:k<cur.length) (hy:ts=tO z) (h:K (tR tO (cur.set k z))):stg (tR tO (cur.set k y)) [] (k*8) ts K:=by
 have:=K3 (f:=tO) (l:=cur.set k y) (K:=K) (by simpa using hk) hy (by rw [List.set_set];exact h)
 rwa [AY] at this
theorem ON (l:List Int) (a m:Nat):IA (tI l) [] a m=tI ((l.drop a).take m):=by simp [IA,node,tI,List.map_drop,List.map_take]
end
theorem O4 {os:List AU} {buf ids:List Int} {b d:List T} {K:J2} (hol:os.length=8) (hof: ∀o∈os,OF o) (hb:buf.length≤2^30) (hi:ids.length≤2^30) (hid: ∀x∈ids,F64 x) (h:K [] [tI (HD os buf ids).2.2,tR tO (HD os buf ids).1,tI (HD os buf ids).2.1]):cl2 ⟨Try.prog,w0⟩ 164 C5.sg [] [tR tO os,b,tI buf,d,tI ids] K:=by
 refine C5.cl2 ?_
 unfold C5.txt
 refine HE (by omega) ?_
 obtain ⟨R,hR0⟩: ∃R,HD os buf ids=R:=⟨_,rfl⟩
 have st:=LsI.start (buf:=buf) hol hof hid
 rw [hR0] at st h
 simp only [AG,AK,AN,AM,AI,AD,AE,AP,AO,AJ,AQ,AR,AL,AH,BE,BJ,BH,BG,BK,BI,BF,A4,A8,A7,A6,A5,AZ]
 refine EI (α:=List AU×List Int×List Int×List Int×Nat) (fun q=>[iv (q.2.2.2.1.length-q.2.2.2.2),iv q.2.2.2.2]) (fun q=>[tI q.2.2.1,tI q.2.2.2.1,tR tO q.1,tI q.2.1]) (fun q=>mu q.2.2.1 (q.2.2.2.1.drop q.2.2.2.2)) (LsI R (buf.length+ids.length+36)) (os,buf,[],ids,0) rfl rfl st (fun Rr q hq hR=> ?_)
 obtain ⟨os,bf,freed,row,off⟩:=q
 have hq':LsI R (buf.length+ids.length+36) (os,bf,freed,row,off):=hq
 obtain ⟨ol,of,fr,ofl,td,sz,_⟩:=id hq'
 simp only at ol of fr ofl td sz
 have hmz:mu freed (row.drop off)=(row.length-off)+4*(9-freed.length):=by simp [mu]
 simp only [AG,AK,AN,AM,AI,AD,AE,AP,AO,AJ,AQ,AR,AL,AH,BE,BJ,BH,BG,BK,BI,BF,A4,A8,A7,A6,A5,AZ]
 simp only [AY]
 refine IJ (BW (BW (KI (fun hlt=> ?_) fun hge=> ?_)))
 rotate_left
 ·refine DW hge rfl (BY ?_)
  have:=hq'.stop (.inl (by
   have: ¬(((row.length-off:Nat):Int)>0):=hge
   omega))
  rw [this] at h;exact h
 have hlt':off<row.length:=by
  have:((row.length-off:Nat):Int)>0:=hlt
  omega
 refine G8 (DX hlt rfl (AW (fun h8=> ?_) fun h8=> ?_))
 rotate_left
 ·have:=hq'.stop (.inr (by omega))
  rw [this] at h;exact h
 have h8':freed.length≤8:=by omega
 obtain ⟨hidf,_⟩:=hq'.step hlt' h8'
 refine AS (j:=0) (by omega) (lP hlt' (p8 (by omega) (C6 hidf (by omega) ?_)))
 have e1:off+AA (iv 1)*1=off+1:=by rw [AY]
 have e2:row.length-off-1=row.length-(off+1):=by omega
 simp only [AY,e2,Nat.mul_one,BE]
 have mu1:mu freed (row.drop (off+1))<mu freed (row.drop off):=by rw [drop_cons hlt',ZM];omega
 refine AX (AW (fun hs=>hR (os,bf,freed,row,off+1) (hq'.skip hlt' h8' hs) mu1) fun hs=> ?_)
 have hs':0≤AB os (gI row off):=by omega
 have hk:=BN hs'
 have n1:=hq'.IL hlt' h8' hs'
 have n2:=hq'.put hlt' h8' hs'
 have n3:=fun hc row' off'=>hq'.free hlt' h8' hs' hc (row':=row') (off':=off')
 have hobf:=of _ (HR (l:=os) (i:=(AB os (gI row off)).toNat) (by omega))
 generalize hgid:gI row off=id at*
 obtain ⟨k,hkk⟩: ∃k,(AB os id).toNat=k:=⟨_,rfl⟩
 have hkI:AB os id=(k:Int):=by omega
 rw [hkk] at hk n1 n2 n3 hobf
 rw [hkI]
 have hkl:k<os.length:=by omega
 rw [gD hkl]
 generalize ho:ob os k=o at*
 refine AS (by omega) (HM (i:=k) hkl (by decide) rfl (VH (GR hkl ?_)))
 generalize hcc:w64 (o.count-1)=c at*
 refine HM (v:=I c) (i:=k) hkl (by decide) rfl ?_
 refine IJ (BW (BW (BW (KI (fun hc=> ?_) fun hc=> ?_))))
 ·refine HM (v:= .bool o.purple) (i:=k) hkl (by decide) rfl (HV hc (CT (DX hc rfl ?_)))
  cases hp:o.purple with
  | false=>
    refine B6 (N5 hkl (EH rfl (by omega) ?_))
    have:=hR _ (n2 hc hp) (by simp only;exact mu1)
    simp only at this
    rw [←D6] at this
    exact this
  | true=>
    refine BY (HM (v:=I c) (i:=k) hkl (by decide) rfl (G8 (DE (by omega) ?_)))
    have:=hR _ (n1 hc hp) (by simp only;exact mu1)
    simp only [hp] at this
    exact this
 ·refine LA hc (DW hc rfl (BY (HM (v:=I c) (i:=k) hkl (by decide) rfl (G8 (DC (by omega) (EH rfl (by omega) (T6 (i:=k) hkl (by decide) rfl ?_)))))))
  rw [OC hkl,AD]
  have hfl:o.field.length=3:=hobf.len
  rw [hfl]
  refine EI (α:=Nat×List Int×Nat) (fun q=>[iv (q.2.1.length-q.2.2),iv q.2.2,I id,iv (k*8),iv (k*8+6),iv 3,iv q.1]) (fun q=>[tI (freed++[id]),tI q.2.1,tR tO (os.set k {o with count:=c}),tI bf]) (fun q=>3-q.1) (fun q=>q.1≤3∧q.2.2≤q.2.1.length∧q.2.1.drop q.2.2=row.drop (off+1)++(o.field.take q.1).filter fun x=>decide (0≤x)) (0,row,off+1) ?_ ?_ ⟨by omega,hlt',by simp⟩ (fun R2 q hq2 hR2=> ?_)
  ·rfl
  ·simp only [D6]
  obtain ⟨i,rw',of'⟩:=q
  obtain ⟨hi3,hof',hdr⟩:=hq2
  simp only at hi3 hof' hdr
  have hrl:rw'.length-of'≤row.length-(off+1)+3:=by
   have e:=congrArg List.length hdr
   have:=List.length_filter_le (fun x=>decide (0≤x)) (o.field.take i)
   simp only [List.length_drop,List.length_append,List.length_take] at e this
   omega
  simp only [AG,AK,AN,AM,AI,AD,AE,AP,AO,AJ,AQ,AR,AL,AH,BE,BJ,BH,BG,BK,BI,BF,A4,A8,A7,A6,A5,AZ]
  simp only [AY]
  refine AX (AW (fun hlt=> ?_) fun hge=> ?_)
  ·have hlt:i<o.field.length:=by omega
   have hfx:=hobf.fld _ (DV hlt)
   refine BO ?_
   simp only [gV hkl,AD,ON]
   have ed:(rw'.drop of').take (rw'.length-of')=rw'.drop of':=by rw [←List.length_drop,List.take_length]
   rw [ed]
   have ea:tI (rw'.drop of')++[T.c (I (gI o.field i))]=tI (rw'.drop of'++[gI o.field i]):=D6 _ _
   refine AS hlt (lU hkl hlt ?_)
   simp only [AY]
   refine LO (AW (fun hp=> ?_) fun hp=> ?_)
   ·refine EH rfl (by omega) ?_
    have:=hR2 (i+1,rw'.drop of'++[gI o.field i],0) ⟨by simp only;omega,by simp only;omega,by simp only [List.drop_zero];rw [hdr,List.take_succ_eq_append_getElem hlt,List.filter_append, ←List.append_assoc,EE hlt];congr 1;simp [hp]⟩ (by simp only;omega)
    refine BA (by omega) ?_
    rw [ea]
    simp only [AG,AK,AN,AM,AI,AD,AE,AP,AO,AJ,AQ,AR,AL,AH,BE,BJ,BH,BG,BK,BI,BF,A4,A8,A7,A6,A5,AZ]
    simp only [AY]
    exact this
   ·have:=hR2 (i+1,rw',of') ⟨by simp only;omega,hof',by simp only;rw [hdr,List.take_succ_eq_append_getElem hlt,List.filter_append, ←List.append_assoc,EE hlt];simp;omega⟩ (by simp only;omega)
    refine BA (by omega) ?_
    simp only [AG,AK,AN,AM,AI,AD,AE,AP,AO,AJ,AQ,AR,AL,AH,BE,BJ,BH,BG,BK,BI,BF,A4,A8,A7,A6,A5,AZ]
    simp only [AY]
    exact this
  ·have:i=o.field.length:=by omega
   subst this
   rw [List.take_length] at hdr
   refine VO (by omega) (pX hkl (OR (qA hkl (z:=B4 o.gen) rfl ?_)))
   exact hR _ (n3 hc _ _ hdr hof') (by simp only;rw [hdr];simp only [mu,List.length_append,List.length_singleton] at mu1 ⊢;have:=List.length_filter_le (fun x=>decide (0≤x)) o.field;omega)
end Go.Proofs.Ytklmcfpgdfibnaa.P
