/- A part of the proof. -/
import Derived.Test.YtklmcfpgdfibnaaKeHpE
namespace Go.Proofs.Ytklmcfpgdfibnaa.P
open Go Go.Proofs.Ytklmcfpgdfibnaa Go.Proofs.Ytklmcfpgdfibnaa.Eng
set_option maxHeartbeats 4000000
set_option linter.unusedVariables false
set_option linter.unusedSimpArgs false
attribute [local irreducible] prP gP gE gF AX ixW ldc ldg ldl stc stg scW mkW apW BE cl2 BS DF CB
variable {w0:World}
theorem ZH {h:Hp} {K:J2} (hf:Fits h) (hn:RY h) (h1:B1 h→K [.bool true] []) (h2: ¬B1 h→K [.bool false] []):cl2 ⟨Try.prog,w0⟩ 82 HM.sg [] (trees h) K:=by
 have g1:=hf.ol;have g2:=hf.wl;have g3:=hf.sl;have g4:=hf.bl
 refine HM.cl2 ?_
 unfold HM.txt
 simp only [AI,AO,AM,AS,AH,AE,AG,AK,AN,AP,AR,AT,AQ,AL,BD,BJ,BL,BK,BM,BN,BG,A4,AZ,A6,A8,A5,A7]
 refine CM (BC (BC (BC (KM (fun ho=> ?_) fun ho=> ?_))))
 rotate_left
 ·refine C4 ho rfl (BC (BC (L5 (L5 (P9 rfl (BV (h2 fun hk=>ho (by have:=hk.ol;omega))))))))
 refine CM (CZ ho rfl (BC (BC (KM (fun hw=> ?_) fun hw=> ?_))))
 rotate_left
 ·exact J3 hw (C4 hw rfl (BV (h2 fun hk=>hw (by have:=hk.wl;omega))))
 refine ZB (by omega) (fun hs=> ?_) fun hs=> ?_
 rotate_left
 ·exact EC hw (B2 (CZ hw rfl (BV (h2 fun hk=>hs hk.sites))))
 refine EC hw (B2 (CZ hw rfl (BU ?_)))
 have o8:h.AD.length=8:=by omega
 have w8:h.BW.length=8:=by omega
 refine BH (fun i=>[iv h.AD.length,iv i]) (fun _=>[]) h.AD.length (fun i=> ∀k,k<i→OJ h k) rfl rfl (fun k hk=>by omega) (fun R i hi hP hR=> ?_)
 refine AY (AW (fun hlt=> ?_) fun hge=> ?_)
 ·have hlt:i<h.AD.length:=by omega
  refine bO hf hn hlt (fun hk=>B2 (BU (BA (by omega) (hR hlt fun k hki=> ?_)))) fun hk=>B2 (BV (h2 fun hh=>hk (hh.obj i (by omega))))
  rcases Nat.lt_succ_iff_lt_or_eq.1 hki with h4 | rfl
  ·exact hP k h4
  ·exact hk
 have hi8:i=8:=by omega
 subst hi8
 refine BH (fun i=>[iv h.BW.length,iv i]) (fun _=>[]) h.BW.length (fun i=> ∀k,k<i→((wk h.BW k).used=false→(wk h.BW k).target=0)∧((wk h.BW k).used=true→8≤(wk h.BW k).target∧(wk h.BW k).target≤7999)) rfl rfl (fun k hk=>by omega) (fun R2 i hi hP2 hR2=> ?_)
 refine AY (AW (fun hlt=> ?_) fun hge=> ?_)
 ·have hlt:i<h.BW.length:=by omega
  refine AJ hlt (hQ hlt ?_)
  have stepR:=fun hk=>hR2 hlt fun k hki=>(Nat.lt_succ_iff_lt_or_eq.1 hki).elim (hP2 k) fun he=>he ▸ hk
  cases hu:(wk h.BW i).used with
  | false=>
    refine B2 ?_
    repeat' (first | refine BC ?_ | refine PW ?_ | refine W6 ?_ | refine O8 (by first | with_reducible assumption | omega) ?_ | refine S1 (by first | with_reducible assumption | omega) ?_ | refine K7 ?_ | refine J3 (by first | with_reducible assumption | omega) ?_ | refine EC (by first | with_reducible assumption | omega) ?_ | refine uF (by with_reducible assumption) ?_ | refine oF (by with_reducible assumption) rfl ?_ | refine sY (by with_reducible assumption) rfl ?_ | refine C4 (by first | with_reducible assumption | omega) rfl ?_ | refine CZ (by first | with_reducible assumption | omega) rfl ?_ | refine P5 rfl ?_ | refine BV ?_ | refine BU ?_ | refine CM ?_ | refine BA (by omega) ?_ | refine jH (fun _=> ?_) (fun _=> ?_) | refine qW (fun _=> ?_) (fun _=> ?_) | simp only [AI,AO,AM,AS,AH,AE,AG,AK,AN,AP,AR,AT,AQ,AL,BD,BJ,BL,BK,BM,BN,BG,A4,AZ,A6,A8,A5,A7])
    all_goals first
     | (refine stepR ⟨fun _=> ?_,fun hh=>(by rw [hu] at hh;cases hh)⟩
        first
         | omega
         | (simp_all;done))
     | (refine h2 fun hk=> ?_
        have h4:=(hk.weak i (by omega)).1 hu
        first
         | omega
         | (simp_all;done))
  | true=>
    refine B2 ?_
    repeat' (first | refine HH ?_ | refine BC ?_ | refine PW ?_ | refine W6 ?_ | refine O8 (by first | with_reducible assumption | omega) ?_ | refine S1 (by first | with_reducible assumption | omega) ?_ | refine K7 ?_ | refine J3 (by first | with_reducible assumption | omega) ?_ | refine EC (by first | with_reducible assumption | omega) ?_ | refine QL (by with_reducible assumption) ?_ | refine oF (by with_reducible assumption) rfl ?_ | refine sY (by with_reducible assumption) rfl ?_ | refine C4 (by first | with_reducible assumption | omega) rfl ?_ | refine CZ (by first | with_reducible assumption | omega) rfl ?_ | refine P5 rfl ?_ | refine BV ?_ | refine CY (by first | with_reducible assumption | omega) ?_ | refine CM ?_ | refine CQ ?_ | refine BA (by omega) ?_ | refine AW (fun _=> ?_) (fun _=> ?_) | refine jH (fun _=> ?_) (fun _=> ?_) | refine qW (fun _=> ?_) (fun _=> ?_) | simp only [AI,AO,AM,AS,AH,AE,AG,AK,AN,AP,AR,AT,AQ,AL,BD,BJ,BL,BK,BM,BN,BG,A4,AZ,A6,A8,A5,A7])
    all_goals first
     | (refine stepR ⟨fun hh=>(by rw [hu] at hh;cases hh),fun _=> ?_⟩
        first
         | omega
         | (simp_all;done))
     | (refine h2 fun hk=> ?_
        have h4:=(hk.weak i (by omega)).2 hu
        first
         | omega
         | (simp_all;done))
 have hi8:i=8:=by omega
 subst hi8
 refine BH (fun i=>[iv h.buffer.length,iv i]) (fun _=>[]) h.buffer.length (fun i=> ∀k,k<i→0≤AB h.AD (gI h.buffer k)∧gI h.buffer k∉h.buffer.take k) rfl rfl (fun k hk=>by omega) (fun R3 i hi hP3 hR3=> ?_)
 simp only [AI,AO,AM,AS,AH,AE,AG,AK,AN,AP,AR,AT,AQ,AL,BD,BJ,BL,BK,BM,BN,BG,A4,AZ,A6,A8,A5,A7]
 refine AY (AW (fun hlt=> ?_) fun hge=> ?_)
 ·have hlt:i<h.buffer.length:=by omega
  have e:G4 (tI h.buffer) [] (AA (YJ (two (iv 0) (iv i)))*1) (AA (XH (two (iv 0) (iv i)))*1)=tI (h.buffer.take i):=by
   have h1:AA (YJ (two (iv 0) (iv i)))=0:=rfl
   have h2:AA (XH (two (iv 0) (iv i)))=i:=A9 i
   rw [h1,h2];simp [G4,node,tI,List.map_take]
  refine AJ hlt (ldI hlt (C5 (hn.bf i) (by omega) (AY (BC (BC (BC (KM (fun hb=> ?_) fun hb=> ?_)))))))
  ·refine cT (by omega) (BC (EC hb ?_))
   rw [e]
   refine SW (by simp;omega) (CZ hb rfl (AW (fun hm=>h2 fun hk=>(hk.buf i hlt).2 hm) fun hm=> ?_))
   refine BA (by omega) (hR3 hlt fun k hk=> ?_)
   rcases Nat.lt_succ_iff_lt_or_eq.1 hk with h3 | rfl
   ·exact hP3 k h3
   ·exact ⟨by omega,hm⟩
  ·exact BC (J3 hb (C4 hb rfl (BV (h2 fun hk=>by have:=(hk.buf i hlt).1;omega))))
 ·have hib:i=h.buffer.length:=by omega
  subst hib
  exact h1 ⟨o8,w8,hs,fun i hi=>hP i hi,fun i hi=>hP2 i hi,fun i hi=>hP3 i hi⟩
end Go.Proofs.Ytklmcfpgdfibnaa.P
namespace Go.Proofs.Ytklmcfpgdfibnaa.P
open Go Go.Proofs.Ytklmcfpgdfibnaa Go.Proofs.Ytklmcfpgdfibnaa.Eng
set_option linter.unusedVariables false
theorem sH {n:Nat} (hn:1≤n) {K:Value→Value→Prop} (h:K (iv 1) (iv (n-1))):scW n (some (.int .i64 1)) none K:=⟨1,n,rfl,rfl,hn,Nat.le_refl _,h⟩
set_option maxHeartbeats 4000000
set_option linter.unusedVariables false
set_option linter.unusedSimpArgs false
attribute [local irreducible] prP gP gE gF AX ixW ldc ldg ldl stc stg scW mkW apW BE cl2 BS DF CB
variable {w0:World}
def MX:List Int:=[-1, -1, -1]
def CA (g:Int):AU:=⟨false,g,0,0,0,0,MX,false⟩
def JM:Nat→List AU→List Int→List Int→List Int→List AU×List Int×List Int
 | 0,os,buf,freed,_=>(os,buf,freed)
 | f+1,os,buf,freed,todo=>match todo with
   | []=>(os,buf,freed)
   | id::todo=>if freed.length>8 then (os,buf,freed) else
     if AB os id<0 then JM f os buf freed todo else
     if w64 ((ob os (AB os id).toNat).count-1)>0 then
      (if (ob os (AB os id).toNat).purple=true then JM f (os.set (AB os id).toNat {ob os (AB os id).toNat with count:=w64 ((ob os (AB os id).toNat).count-1)}) buf freed todo
       else JM f (os.set (AB os id).toNat {ob os (AB os id).toNat with count:=w64 ((ob os (AB os id).toNat).count-1),purple:=true}) (buf++[id]) freed todo)
     else JM f (os.set (AB os id).toNat (CA (ob os (AB os id).toNat).gen)) (buf.filter fun x=>decide (x≠id)) (freed++[id]) (todo++(ob os (AB os id).toNat).field.filter fun x=>decide (0≤x))
def mu (freed todo:List Int):Nat:=todo.length+4*(9-freed.length)
def FK (os:List AU) (buf ids:List Int):List AU×List Int×List Int:=JM (ids.length+37) os buf [] ids
theorem BT {l:List AU} {id:Int} (h:0≤AB l id):l.length=8∧8≤id∧AB l id=id % 8∧(AB l id).toNat<8∧(ob l (AB l id).toNat).live=true∧(ob l (AB l id).toNat).gen=id/8:=by
 unfold AB at h ⊢
 split at h
 ·omega
 ·split at h
  ·rename_i h1 h2
   rw [if_neg h1,if_pos h2]
   exact ⟨by omega,by omega,rfl,by omega,h2.1,h2.2⟩
  ·omega
structure OF (o:AU):Prop where
 gen:F64 o.gen
 len:o.field.length=3
 fld: ∀f∈o.field,F64 f
theorem OF.free {g:Int} (h:F64 g):OF (CA g):=⟨h,rfl,by simp [CA,MX,F64]⟩
theorem LH {l:List AU} {P:AU→Prop} {i:Nat} {o:AU} (h: ∀x∈l,P x) (ho:P o): ∀x∈l.set i o,P x:=fun x hx=>(List.mem_or_eq_of_mem_set hx).elim (h x) fun he=>he ▸ ho
structure LsI (R:List AU×List Int×List Int) (M:Nat) (q:List AU×List Int×List Int×List Int×Nat):Prop where
 ol:q.1.length=8
 of: ∀o∈q.1,OF o
 fr:q.2.2.1.length≤9
 off:q.2.2.2.2≤q.2.2.2.1.length
 td: ∀x∈q.2.2.2.1.drop q.2.2.2.2,F64 x
 sz:q.2.1.length+mu q.2.2.1 (q.2.2.2.1.drop q.2.2.2.2)≤M
 go: ∃f,mu q.2.2.1 (q.2.2.2.1.drop q.2.2.2.2)<f∧JM f q.1 q.2.1 q.2.2.1 (q.2.2.2.1.drop q.2.2.2.2)=R
theorem uI {l:List Int} {a:Nat} {K:Value→Prop} (ha:a<l.length) (h:K (I (gI l a))):ldc (tI l) [] (AA (iv a)+AA (iv 0)*1) K:=by
 have e:AA (iv a)+AA (iv 0)*1=AA (iv a)*1:=by rw [A9,A9];omega
 rw [e];exact ldI ha h
theorem pF (l:List Int) (a m:Nat):G4 (tI l) [] (AA (iv a)) (AA (iv m)*1)=tI ((l.drop a).take m):=by
 rw [A9,A9];simp [G4,node,tI,List.map_drop,List.map_take]
theorem XB {l:List Int} {x:Int} {K:J2} (hl:(l.length:Int)≤2^40) (h:K [] [tI (l.filter fun y=>decide (y≠x))]):cl2 ⟨Try.prog,w0⟩ 172 GM.sg [I x] [tI l] K:=by
 refine GM.cl2 ?_
 unfold GM.txt
 simp only [AI,AO,AM,AS,AH,AE,AG,AK,AN,AP,AR,AT,AQ,AL,BD,BJ,BL,BK,BM,BN,BG,A4,AZ,A6,A8,A5,A7]
 refine BH (fun i=>[I x,iv l.length,iv i]) (fun i=>[tI ((l.take i).filter fun y=>decide (y≠x))]) l.length (fun _=>True) rfl rfl trivial (fun R i hi _ hR=> ?_)
 have hln:=List.length_filter_le (fun y=>decide (y≠x)) (l.take i)
 have hlt2:(l.take i).length≤i:=by simp;omega
 simp only [AI,AO,AM,AS,AH,AE,AG,AK,AN,AP,AR,AT,AQ,AL,BD,BJ,BL,BK,BM,BN,BG,A4,AZ,A6,A8,A5,A7]
 refine AY (AW (fun hlt=> ?_) fun hge=> ?_)
 ·have hlt:i<l.length:=by omega
  replace hR:=hR hlt trivial
  rw [List.take_succ_eq_append_getElem hlt,List.filter_append,DL hlt] at hR
  refine BP (AJ hlt (ldI hlt (CM (AW (fun he=> ?_) fun he=> ?_))))
  ·refine DC rfl (by omega) (BA (by omega) ?_)
   have e:([gI l i].filter fun y=>decide (y≠x))=[gI l i]:=by simp [he]
   rw [e, ←DO] at hR;exact hR
  ·refine BA (by omega) ?_
   have e:([gI l i].filter fun y=>decide (y≠x))=[]:=by simp at he;simp [he]
   rw [e,List.append_nil] at hR;exact hR
 ·have:i=l.length:=by omega
  subst this
  rw [List.take_length];exact h
theorem U3 {l:List Int} {x:Int} {K:J2} (hl:(l.length:Int)≤2^40) (h:K [] [tI (l.filter fun y=>decide (y≠x))]):cl2 ⟨Try.prog,w0⟩ 167 E9.sg [I x] [tI l] K:=by
 refine E9.cl2 ?_
 unfold E9.txt
 simp only [AI,AO,AM,AS,AH,AE,AG,AK,AN,AP,AR,AT,AQ,AL,BD,BJ,BL,BK,BM,BN,BG,A4,AZ,A6,A8,A5,A7]
 refine BH (fun i=>[I x,iv i]) (fun i=>[tI ((l.take i).filter fun y=>decide (y≠x))]) l.length (fun _=>True) rfl rfl trivial (fun R i hi _ hR=> ?_)
 have hln:=List.length_filter_le (fun y=>decide (y≠x)) (l.take i)
 have hlt2:(l.take i).length≤i:=by simp;omega
 simp only [AI,AO,AM,AS,AH,AE,AG,AK,AN,AP,AR,AT,AQ,AL,BD,BJ,BL,BK,BM,BN,BG,A4,AZ,A6,A8,A5,A7]
 refine AY (AW (fun hlt=> ?_) fun hge=> ?_)
 ·have hlt:i<l.length:=by omega
  replace hR:=hR hlt trivial
  rw [List.take_succ_eq_append_getElem hlt,List.filter_append,DL hlt] at hR
  refine BP (AJ hlt (ldI hlt (CM (AW (fun he=> ?_) fun he=> ?_))))
  ·refine AJ hlt (ldI hlt (DC rfl (by omega) (BA (by omega) ?_)))
   have e:([gI l i].filter fun y=>decide (y≠x))=[gI l i]:=by simp [he]
   rw [e, ←DO] at hR;exact hR
  ·refine BA (by omega) ?_
   have e:([gI l i].filter fun y=>decide (y≠x))=[]:=by simp at he;simp [he]
   rw [e,List.append_nil] at hR;exact hR
 ·have:i=l.length:=by omega
  subst this
  rw [List.take_length];exact h
theorem VU {g:Value} {K:J2} (h:K [.bool false,g,I 0,I 0,I 0,I 0, .bool false] [tI MX]):cl2 ⟨Try.prog,w0⟩ 99 I1.sg [g] [] K:=I1.cl2 h
theorem rQ {l:List Int} {a:Nat} {K:Value→Prop} (ha:a<l.length) (h:K (I (gI l a))):ldc (tI l) [] (a+AA (iv 0)*1) K:=by
 have e:a+AA (iv 0)*1=AA (iv a)*1:=by rw [A9,A9];omega
 rw [e];exact ldI ha h
theorem drop_cons {l:List Int} {a:Nat} (ha:a<l.length):l.drop a=gI l a::l.drop (a+1):=by rw [List.drop_eq_getElem_cons ha,DL ha]
theorem dA {freed todo:List Int} {x:Int}:mu freed (x::todo)=mu freed todo+1:=by simp only [mu,List.length_cons];omega
theorem JJ {l:List AU} {i:Nat} (h:i<l.length):ob l i∈l:=by rw [←DH h];exact List.getElem_mem h
theorem mO {l:List AU} {i:Nat} (h:i<l.length):tR tO l=tR tO (l.set i (ob l i)):=by rw [←DH h];exact tZ h
theorem LsI.start {os:List AU} {buf ids:List Int} (hol:os.length=8) (hof: ∀o∈os,OF o) (hid: ∀x∈ids,F64 x):LsI (FK os buf ids) (buf.length+ids.length+36) (os,buf,[],ids,0):=
 ⟨hol,hof,Nat.zero_le _,Nat.zero_le _,by simpa using hid,by simp only [mu,List.drop_zero,List.length_nil];omega,ids.length+37,by simp only [mu,List.drop_zero,List.length_nil];omega,rfl⟩
section
variable {R:List AU×List Int×List Int} {M:Nat} {os:List AU} {buf freed row:List Int} {off:Nat}
theorem LsI.stop (h:LsI R M (os,buf,freed,row,off)) (hs:row.length≤off∨8<freed.length):R=(os,buf,freed):=by
 obtain ⟨_,_,_,_,_,_,f,hf,go⟩:=h
 simp only at hf go
 obtain ⟨f,rfl⟩: ∃f',f=f'+1:=⟨f-1,by omega⟩
 rcases hs with hs | hs
 ·rw [List.drop_of_length_le hs] at go
  rw [←go];rfl
 ·rw [←go]
  cases row.drop off with
  | nil=>rfl
  | cons x l=>simp only [JM,if_pos hs]
theorem LsI.step (h:LsI R M (os,buf,freed,row,off)) (hlt:off<row.length) (hfr:freed.length≤8):F64 (gI row off)∧ ∃f,mu freed (row.drop (off+1))<f∧JM (f+1) os buf freed (gI row off::row.drop (off+1))=R∧buf.length+mu freed (row.drop (off+1))+1≤M∧ ∀x∈row.drop (off+1),F64 x:=by
 obtain ⟨_,_,_,_,td,sz,f,hf,go⟩:=h
 simp only at td sz hf go
 rw [drop_cons hlt] at td sz hf go
 rw [dA] at sz hf
 obtain ⟨f,rfl⟩: ∃f',f=f'+1:=⟨f-1,by omega⟩
 exact ⟨td _ (by simp),f,by omega,go,by omega,fun x hx=>td x (by simp [hx])⟩
theorem LsI.skip (h:LsI R M (os,buf,freed,row,off)) (hlt:off<row.length) (hfr:freed.length≤8) (hs:AB os (gI row off)<0):LsI R M (os,buf,freed,row,off+1):=by
 obtain ⟨_,f,h1,h2,h3,h4⟩:=h.step hlt hfr
 rw [JM] at h2
 simp only at h2
 rw [if_neg (by omega),if_pos hs] at h2
 exact ⟨h.ol,h.of,h.fr,hlt,h4,by simp only;omega,f,h1,h2⟩
theorem LsI.IT (h:LsI R M (os,buf,freed,row,off)) (hlt:off<row.length) (hfr:freed.length≤8) (hs:0≤AB os (gI row off)) (hc:w64 ((ob os (AB os (gI row off)).toNat).count-1)>0) (hp:(ob os (AB os (gI row off)).toNat).purple=true):
  LsI R M (os.set (AB os (gI row off)).toNat {ob os (AB os (gI row off)).toNat with count:=w64 ((ob os (AB os (gI row off)).toNat).count-1)},buf,freed,row,off+1):=by
 obtain ⟨_,f,h1,h2,h3,h4⟩:=h.step hlt hfr
 have hk:=BT hs
 have ho:=h.of _ (JJ (l:=os) (i:=(AB os (gI row off)).toNat) (by omega))
 rw [JM] at h2
 simp only at h2
 rw [if_neg (by omega),if_neg (by omega),if_pos hc,if_pos hp] at h2
 exact ⟨by simp only [List.length_set];exact h.ol,LH h.of ⟨ho.gen,ho.len,ho.fld⟩,h.fr,hlt,h4,by simp only;omega,f,h1,h2⟩
theorem LsI.put (h:LsI R M (os,buf,freed,row,off)) (hlt:off<row.length) (hfr:freed.length≤8) (hs:0≤AB os (gI row off)) (hc:w64 ((ob os (AB os (gI row off)).toNat).count-1)>0) (hp:(ob os (AB os (gI row off)).toNat).purple=false):
  LsI R M (os.set (AB os (gI row off)).toNat {ob os (AB os (gI row off)).toNat with count:=w64 ((ob os (AB os (gI row off)).toNat).count-1),purple:=true},buf++[gI row off],freed,row,off+1):=by
 obtain ⟨_,f,h1,h2,h3,h4⟩:=h.step hlt hfr
 have hk:=BT hs
 have ho:=h.of _ (JJ (l:=os) (i:=(AB os (gI row off)).toNat) (by omega))
 rw [JM] at h2
 simp only at h2
 rw [if_neg (by omega),if_neg (by omega),if_pos hc,if_neg (by rw [hp];decide)] at h2
 exact ⟨by simp only [List.length_set];exact h.ol,LH h.of ⟨ho.gen,ho.len,ho.fld⟩,h.fr,hlt,h4,by simp only [List.length_append,List.length_singleton];omega,f,h1,h2⟩
theorem LsI.free (h:LsI R M (os,buf,freed,row,off)) (hlt:off<row.length) (hfr:freed.length≤8) (hs:0≤AB os (gI row off)) (hc: ¬w64 ((ob os (AB os (gI row off)).toNat).count-1)>0) {row':List Int} {off':Nat} (hrow:row'.drop off'=row.drop (off+1)++(ob os (AB os (gI row off)).toNat).field.filter fun x=>decide (0≤x)) (hle:off'≤row'.length):
  LsI R M (os.set (AB os (gI row off)).toNat (CA (ob os (AB os (gI row off)).toNat).gen),buf.filter fun x=>decide (x≠gI row off),freed++[gI row off],row',off'):=by
 obtain ⟨_,f,h1,h2,h3,h4⟩:=h.step hlt hfr
 have hk:=BT hs
 have ho:=h.of _ (JJ (l:=os) (i:=(AB os (gI row off)).toNat) (by omega))
 have hfl:=List.length_filter_le (fun x=>decide (0≤x)) (ob os (AB os (gI row off)).toNat).field
 have hbl:=List.length_filter_le (fun x=>decide (x≠gI row off)) buf
 rw [ho.len] at hfl
 rw [JM] at h2
 simp only at h2
 rw [if_neg (by omega),if_neg (by omega),if_neg hc] at h2
 have hmu:mu (freed++[gI row off]) (row'.drop off')≤mu freed (row.drop (off+1)):=by
  rw [hrow];simp only [mu,List.length_append,List.length_singleton];omega
 refine ⟨by simp only [List.length_set];exact h.ol,LH h.of (OF.free ho.gen),by simp only [List.length_append,List.length_singleton];omega,hle,fun x hx=> ?_,by simp only;omega,f,by simp only;omega,by rw [←h2,hrow]⟩
 simp only at hx
 rw [hrow] at hx
 rcases List.mem_append.1 hx with hx | hx
 ·exact h4 x hx
 ·exact ho.fld x (List.mem_filter.1 hx).1
end
section
variable {cur:List AU} {k:Nat} {y:AU}
theorem lX (hk:k<cur.length):EG (tR tO (cur.set k y)) [k*8+6]=tI y.field:=by have:=QC (y:=y) hk;rwa [A9] at this
theorem p5 {i:Nat} {K:Value→Prop} (hk:k<cur.length) (hi:i<y.field.length) (h:K (I (gI y.field i))):ldc (tR tO (cur.set k y)) [k*8+6] i K:=by
 have:=NG (l:=cur.set k y) (i:=k) (j:=i) (K:=K) (by simpa using hk) (by rw [←DH (by simpa using hk),List.getElem_set_self];exact hi) (by rw [←DH (by simpa using hk),List.getElem_set_self];exact h)
 simpa only [A9,Nat.mul_one] using this
theorem xL {K:Value→Prop} (hk:k<cur.length) (h:K (I y.gen)):ldc (tR tO (cur.set k y)) [] (k*8+1) K:=by
 have:=JA (f:=tO) (K:=K) (c:=1) (y:=y) hk (by decide) rfl h
 rwa [A9] at this
theorem w9 {ts:List T} {z:AU} {K:List T→Prop} (hk:k<cur.length) (hy:ts=tO z) (h:K (tR tO (cur.set k z))):stg (tR tO (cur.set k y)) [] (k*8) ts K:=by
 have:=KF (f:=tO) (l:=cur.set k y) (K:=K) (by simpa using hk) hy (by rw [List.set_set];exact h)
 rwa [A9] at this
theorem QR (l:List Int) (a m:Nat):G4 (tI l) [] a m=tI ((l.drop a).take m):=by simp [G4,node,tI,List.map_drop,List.map_take]
end
theorem Q5 {os:List AU} {buf ids:List Int} {b d:List T} {K:J2} (hol:os.length=8) (hof: ∀o∈os,OF o) (hb:buf.length≤2^30) (hi:ids.length≤2^30) (hid: ∀x∈ids,F64 x) (h:K [] [tI (FK os buf ids).2.2,tR tO (FK os buf ids).1,tI (FK os buf ids).2.1]):cl2 ⟨Try.prog,w0⟩ 164 DU.sg [] [tR tO os,b,tI buf,d,tI ids] K:=by
 refine DU.cl2 ?_
 unfold DU.txt
 refine IY (by omega) ?_
 obtain ⟨R,hR0⟩: ∃R,FK os buf ids=R:=⟨_,rfl⟩
 have st:=LsI.start (buf:=buf) hol hof hid
 rw [hR0] at st h
 simp only [AI,AO,AM,AS,AH,AE,AG,AK,AN,AP,AR,AT,AQ,AL,BD,BJ,BL,BK,BM,BN,BG,A4,AZ,A6,A8,A5,A7]
 refine DI (α:=List AU×List Int×List Int×List Int×Nat) (fun q=>[iv (q.2.2.2.1.length-q.2.2.2.2),iv q.2.2.2.2]) (fun q=>[tI q.2.2.1,tI q.2.2.2.1,tR tO q.1,tI q.2.1]) (fun q=>mu q.2.2.1 (q.2.2.2.1.drop q.2.2.2.2)) (LsI R (buf.length+ids.length+36)) (os,buf,[],ids,0) rfl rfl st (fun Rr q hq hR=> ?_)
 obtain ⟨os,bf,freed,row,off⟩:=q
 have hq':LsI R (buf.length+ids.length+36) (os,bf,freed,row,off):=hq
 obtain ⟨ol,of,fr,ofl,td,sz,_⟩:=id hq'
 simp only at ol of fr ofl td sz
 have hmz:mu freed (row.drop off)=(row.length-off)+4*(9-freed.length):=by simp [mu]
 simp only [AI,AO,AM,AS,AH,AE,AG,AK,AN,AP,AR,AT,AQ,AL,BD,BJ,BL,BK,BM,BN,BG,A4,AZ,A6,A8,A5,A7]
 simp only [A9]
 refine HB (BC (BC (J1 (fun hlt=> ?_) fun hge=> ?_)))
 rotate_left
 ·refine CZ hge rfl (BU ?_)
  have:=hq'.stop (.inl (by
   have: ¬(((row.length-off:Nat):Int)>0):=hge
   omega))
  rw [this] at h;exact h
 have hlt':off<row.length:=by
  have:((row.length-off:Nat):Int)>0:=hlt
  omega
 refine HR (C4 hlt rfl (AW (fun h8=> ?_) fun h8=> ?_))
 rotate_left
 ·have:=hq'.stop (.inr (by omega))
  rw [this] at h;exact h
 have h8':freed.length≤8:=by omega
 obtain ⟨hidf,_⟩:=hq'.step hlt' h8'
 refine AJ (j:=0) (by omega) (rQ hlt' (sH (by omega) (C5 hidf (by omega) ?_)))
 have e1:off+AA (iv 1)*1=off+1:=by rw [A9]
 have e2:row.length-off-1=row.length-(off+1):=by omega
 simp only [A9,e2,Nat.mul_one,BD]
 have mu1:mu freed (row.drop (off+1))<mu freed (row.drop off):=by rw [drop_cons hlt',dA];omega
 refine AY (AW (fun hs=>hR (os,bf,freed,row,off+1) (hq'.skip hlt' h8' hs) mu1) fun hs=> ?_)
 have hs':0≤AB os (gI row off):=by omega
 have hk:=BT hs'
 have n1:=hq'.IT hlt' h8' hs'
 have n2:=hq'.put hlt' h8' hs'
 have n3:=fun hc row' off'=>hq'.free hlt' h8' hs' hc (row':=row') (off':=off')
 have hobf:=of _ (JJ (l:=os) (i:=(AB os (gI row off)).toNat) (by omega))
 generalize hgid:gI row off=id at*
 obtain ⟨k,hkk⟩: ∃k,(AB os id).toNat=k:=⟨_,rfl⟩
 have hkI:AB os id=(k:Int):=by omega
 rw [hkk] at hk n1 n2 n3 hobf
 rw [hkI]
 have hkl:k<os.length:=by omega
 rw [mO hkl]
 generalize ho:ob os k=o at*
 refine AJ (by omega) (JA (i:=k) hkl (by decide) rfl (XA (H8 hkl ?_)))
 generalize hcc:w64 (o.count-1)=c at*
 refine JA (v:=I c) (i:=k) hkl (by decide) rfl ?_
 refine HB (BC (BC (BC (J1 (fun hc=> ?_) fun hc=> ?_))))
 ·refine JA (v:= .bool o.purple) (i:=k) hkl (by decide) rfl (FF hc (B2 (C4 hc rfl ?_)))
  cases hp:o.purple with
  | false=>
    refine BV (PS hkl (DC rfl (by omega) ?_))
    have:=hR _ (n2 hc hp) (by simp only;exact mu1)
    simp only at this
    rw [←DO] at this
    exact this
  | true=>
    refine BU (JA (v:=I c) (i:=k) hkl (by decide) rfl (HR (C0 (by omega) ?_)))
    have:=hR _ (n1 hc hp) (by simp only;exact mu1)
    simp only [hp] at this
    exact this
 ·refine IB hc (CZ hc rfl (BU (JA (v:=I c) (i:=k) hkl (by decide) rfl (HR (CY (by omega) (DC rfl (by omega) (WI (i:=k) hkl (by decide) rfl ?_)))))))
  rw [QC hkl,AE]
  have hfl:o.field.length=3:=hobf.len
  rw [hfl]
  refine DI (α:=Nat×List Int×Nat) (fun q=>[iv (q.2.1.length-q.2.2),iv q.2.2,I id,iv (k*8),iv (k*8+6),iv 3,iv q.1]) (fun q=>[tI (freed++[id]),tI q.2.1,tR tO (os.set k {o with count:=c}),tI bf]) (fun q=>3-q.1) (fun q=>q.1≤3∧q.2.2≤q.2.1.length∧q.2.1.drop q.2.2=row.drop (off+1)++(o.field.take q.1).filter fun x=>decide (0≤x)) (0,row,off+1) ?_ ?_ ⟨by omega,hlt',by simp⟩ (fun R2 q hq2 hR2=> ?_)
  ·rfl
  ·simp only [DO]
  obtain ⟨i,rw',of'⟩:=q
  obtain ⟨hi3,hof',hdr⟩:=hq2
  simp only at hi3 hof' hdr
  have hrl:rw'.length-of'≤row.length-(off+1)+3:=by
   have e:=congrArg List.length hdr
   have:=List.length_filter_le (fun x=>decide (0≤x)) (o.field.take i)
   simp only [List.length_drop,List.length_append,List.length_take] at e this
   omega
  simp only [AI,AO,AM,AS,AH,AE,AG,AK,AN,AP,AR,AT,AQ,AL,BD,BJ,BL,BK,BM,BN,BG,A4,AZ,A6,A8,A5,A7]
  simp only [A9]
  refine AY (AW (fun hlt=> ?_) fun hge=> ?_)
  ·have hlt:i<o.field.length:=by omega
   have hfx:=hobf.fld _ (DS hlt)
   refine BP ?_
   simp only [lX hkl,AE,QR]
   have ed:(rw'.drop of').take (rw'.length-of')=rw'.drop of':=by rw [←List.length_drop,List.take_length]
   rw [ed]
   have ea:tI (rw'.drop of')++[T.c (I (gI o.field i))]=tI (rw'.drop of'++[gI o.field i]):=DO _ _
   refine AJ hlt (p5 hkl hlt ?_)
   simp only [A9]
   refine JW (AW (fun hp=> ?_) fun hp=> ?_)
   ·refine DC rfl (by omega) ?_
    have:=hR2 (i+1,rw'.drop of'++[gI o.field i],0) ⟨by simp only;omega,by simp only;omega,by simp only [List.drop_zero];rw [hdr,List.take_succ_eq_append_getElem hlt,List.filter_append, ←List.append_assoc,DL hlt];congr 1;simp [hp]⟩ (by simp only;omega)
    refine BA (by omega) ?_
    rw [ea]
    simp only [AI,AO,AM,AS,AH,AE,AG,AK,AN,AP,AR,AT,AQ,AL,BD,BJ,BL,BK,BM,BN,BG,A4,AZ,A6,A8,A5,A7]
    simp only [A9]
    exact this
   ·have:=hR2 (i+1,rw',of') ⟨by simp only;omega,hof',by simp only;rw [hdr,List.take_succ_eq_append_getElem hlt,List.filter_append, ←List.append_assoc,DL hlt];simp;omega⟩ (by simp only;omega)
    refine BA (by omega) ?_
    simp only [AI,AO,AM,AS,AH,AE,AG,AK,AN,AP,AR,AT,AQ,AL,BD,BJ,BL,BK,BM,BN,BG,A4,AZ,A6,A8,A5,A7]
    simp only [A9]
    exact this
  ·have:i=o.field.length:=by omega
   subst this
   rw [List.take_length] at hdr
   refine XB (by omega) (xL hkl (VU (w9 hkl (z:=CA o.gen) rfl ?_)))
   exact hR _ (n3 hc _ _ hdr hof') (by simp only;rw [hdr];simp only [mu,List.length_append,List.length_singleton] at mu1 ⊢;have:=List.length_filter_le (fun x=>decide (0≤x)) o.field;omega)
end Go.Proofs.Ytklmcfpgdfibnaa.P
namespace Go.Proofs.Ytklmcfpgdfibnaa.P
open Go Go.Proofs.Ytklmcfpgdfibnaa Go.Proofs.Ytklmcfpgdfibnaa.Eng
set_option maxHeartbeats 4000000
set_option linter.unusedVariables false
set_option linter.unusedSimpArgs false
attribute [local irreducible] prP gP gE gF AX ixW ldc ldg ldl stc stg scW mkW apW BE cl2 BS DF CB
variable {w0:World}
theorem qT (a b c d e f g h:Value) (l:List Value):nx (a::b::c::d::e::f::g::h::l) 7=h:=rfl
theorem pW (a b c d e f g h i:Value) (l:List Value):nx (a::b::c::d::e::f::g::h::i::l) 8=i:=rfl
theorem zZ (a b c d e f g h i j:Value) (l:List Value):nx (a::b::c::d::e::f::g::h::i::j::l) 9=j:=rfl
theorem xI (o:Wk):tv (nxT (tW o) 0)= .bool o.used:=rfl
theorem Ck (o:Wk):tv (nxT (tW o) 1)=I o.target:=rfl
theorem sQ (o:AU):tv (nxT (tO o) 0)= .bool o.live:=rfl
theorem qL (o:AU):tv (nxT (tO o) 1)=I o.gen:=rfl
theorem xS (o:AU):tv (nxT (tO o) 2)=I o.site:=rfl
theorem xF (o:AU):tv (nxT (tO o) 3)=I o.holds:=rfl
theorem xD (o:AU):tv (nxT (tO o) 4)=I o.roots:=rfl
theorem qI (o:AU):tv (nxT (tO o) 5)=I o.count:=rfl
theorem xH (o:AU):tv (nxT (tO o) 7)= .bool o.purple:=rfl
theorem SY {h:Hp} {K:J2} (hf:Fits h) (hn:RY h) (h1:B1 h→K [.bool true] []) (h2: ¬B1 h→K [.bool false] []):cl2 ⟨Try.prog,w0⟩ 19 GB.sg [] (trees h) K:=by
 have g1:=hf.ol;have g2:=hf.wl;have g3:=hf.sl;have g4:=hf.bl
 refine GB.cl2 ?_
 unfold GB.txt
 simp only [AI,AO,AM,AS,AH,AE,AG,AK,AN,AP,AR,AT,AQ,AL,BD,BJ,BL,BK,BM,BN,BG,A4,AZ,A6,A8,A5,A7]
 refine CM (BC (BC (BC (KM (fun ho=> ?_) fun ho=> ?_))))
 rotate_left
 ·refine C4 ho rfl (BC (BC (BC (L5 (P9 rfl (BV (h2 fun hk=>ho (by have:=hk.ol;omega))))))))
 refine CM (CZ ho rfl (BC (BC (BC (KM (fun hw=> ?_) fun hw=> ?_)))))
 rotate_left
 ·exact C4 hw rfl (BV (h2 fun hk=>hw (by have:=hk.wl;omega)))
 refine HB (CZ hw rfl (AW (fun h6=>h2 fun hk=>(by have:=hk.sites.len;omega)) fun h6=> ?_))
 have o8:h.AD.length=8:=by omega
 have w8:h.BW.length=8:=by omega
 refine BH (fun i=>[iv i]) (fun _=>[]) h.AD.length (fun i=> ∀k,k<i→OJ h k) rfl rfl (fun k hk=>by omega) (fun R i hi hP hR=> ?_)
 simp only [AI,AO,AM,AS,AH,AE,AG,AK,AN,AP,AR,AT,AQ,AL,BD,BJ,BL,BK,BM,BN,BG,A4,AZ,A6,A8,A5,A7]
 refine AY (AW (fun hlt=> ?_) fun hge=> ?_)
 ·have hi:i<h.AD.length:=by omega
  refine BP ?_
  have stepR:OJ h i→R [iv (i+1)] []:=fun hk=>hR hi fun k hki=>(Nat.lt_succ_iff_lt_or_eq.1 hki).elim (hP k) fun he=>he ▸ hk
  have no: ¬OJ h i→K [.bool false] []:=fun hk=>h2 fun hh=>hk (hh.obj i (by omega))
  clear hR h1 h2
  have hfo:=dG hf.of i
  have hnum:=hn.ob i
  obtain ⟨⟨n1,n2⟩,⟨n3,n4⟩,⟨n7,n8⟩,⟨n9,n10⟩,⟨n5,n6⟩,_⟩:=hnum
  have hib:=tE hf.ol hf.of i
  refine AJ hi (OC hi ?_)
  rw [HG hi,AE]
  refine CN (CQ (BC (BC (BC (KM (fun hg=> ?_) fun hg=> ?_)))))
  rotate_left
  ·exact C4 hg rfl (BV (no fun hk=>hg hk.gen))
  refine CM (CZ hg rfl (AW (fun h3=>no fun hk=>by have:=hk.len;omega) fun h3=> ?_))
  have hl3:(ob h.AD i).field.length=3:=by omega
  have hg:0≤(ob h.AD i).gen∧(ob h.AD i).gen≤999:=Decidable.not_not.1 hg
  simp only [sQ,qL,xS,xF,xD,qI,xH]
  cases hv:(ob h.AD i).live with
  | false=>
    have dd:OJ h i→(ob h.AD i).site=0∧(ob h.AD i).holds=0∧(ob h.AD i).roots=0∧(ob h.AD i).count=0∧(ob h.AD i).purple=false:=fun hk=>hk.dead hv
    refine B2 (BV ?_)
    cases hpu:(ob h.AD i).purple
    ·repeat' (first | refine BC ?_ | refine L5 ?_ | refine C4 (by first | with_reducible assumption | omega) rfl ?_ | refine CZ (by first | with_reducible assumption | omega) rfl ?_ | refine P9 rfl ?_ | refine BV ?_ | refine BU ?_ | refine CM ?_ | refine w6 rfl rfl (fun _=> ?_) (fun _=> ?_) | refine KM (fun _=> ?_) (fun _=> ?_) | simp only [AI,AO,AM,AS,AH,AE,AG,AK,AN,AP,AR,AT,AQ,AL,BD,BJ,BL,BK,BM,BN,BG,A4,AZ,A6,A8,A5,A7])
     all_goals try exact no fun hk=>by have:=dd hk;omega
     have mk:(∀j,j<3→gI (ob h.AD i).field j= -1)→OJ h i:=fun ha=>⟨hg,hl3,fun j hj hne=>absurd (ha j hj) hne,fun _=>⟨by omega,by omega,by omega,by omega,hpu⟩,fun hh=>by rw [hv] at hh;cases hh⟩
     refine BH (fun j=>[iv i,iv j, .bool false,I (ob h.AD i).gen,I (ob h.AD i).site,I (ob h.AD i).holds,I (ob h.AD i).roots,I (ob h.AD i).count,iv (AA (iv i)*8+6), .bool false]) (fun _=>[]) 3 (fun j=> ∀k,k<j→gI (ob h.AD i).field k= -1) rfl rfl (fun k hk=>by omega) (fun R2 j hj hP2 hR2=> ?_)
     simp only [AI,AO,AM,AS,AH,AE,AG,AK,AN,AP,AR,AT,AQ,AL,BD,BJ,BL,BK,BM,BN,BG,A4,AZ,A6,A8,A5,A7]
     simp only [BG,qT,pW,zZ]
     rw [A9 (AA (iv i)*8+6),HG hi,AE,hl3]
     refine AY (AW (fun hlt=> ?_) fun hge=> ?_)
     ·have hlt:j<3:=by omega
      refine AJ hlt (NG hi (by omega) (CM (AW (fun hne=> ?_) fun hne=> ?_)))
      ·exact no fun hk=>by have:=(hk.lead j hlt hne).1;rw [hv] at this;cases this
      ·refine BA (by omega) (hR2 hlt fun k hk=> ?_)
       rcases Nat.lt_succ_iff_lt_or_eq.1 hk with h4 | rfl
       ·exact hP2 k h4
       ·omega
     ·have hj3:j=3:=by omega
      subst hj3
      exact BA (by omega) (stepR (mk hP2))
    ·repeat' (first | refine BC ?_ | refine L5 ?_ | refine C4 (by first | with_reducible assumption | omega) rfl ?_ | refine CZ (by first | with_reducible assumption | omega) rfl ?_ | refine P9 rfl ?_ | refine BV ?_ | refine CM ?_ | refine w6 rfl rfl (fun _=> ?_) (fun _=> ?_) | refine KM (fun _=> ?_) (fun _=> ?_))
     all_goals exact no fun hk=>by have:=(dd hk).2.2.2.2;rw [hpu] at this;cases this
  | true=>
    have ll:=fun hk:OJ h i=>hk.lv hv
    refine B2 (BU ?_)
    by_cases hz:1≤(ob h.AD i).gen∧(0≤(ob h.AD i).site∧(ob h.AD i).site≤(h.sites.length:Int)-1)∧(0≤(ob h.AD i).holds∧(ob h.AD i).holds≤20)∧(0≤(ob h.AD i).roots∧(ob h.AD i).roots≤20)
    ·obtain ⟨z1,z2,z3,z4⟩:=hz
     repeat' (first | refine CN ?_ | refine BC ?_ | refine EC (by first | with_reducible assumption | omega) ?_ | refine CZ (by first | with_reducible assumption | omega) rfl ?_ | refine C0 (by first | with_reducible assumption | omega) ?_ | refine AY ?_ | refine CQ ?_ | refine FJ ⟨by omega,by omega⟩ ?_ | simp only [AI,AO,AM,AS,AH,AE,AG,AK,AN,AP,AR,AT,AQ,AL,BD,BJ,BL,BK,BM,BN,BG,A4,AZ,A6,A8,A5,A7])
     all_goals try (exfalso;omega)
     refine BH (fun j=>[iv i,iv j, .bool true,I (ob h.AD i).gen,I (ob h.AD i).site,I (ob h.AD i).holds,I (ob h.AD i).roots,I (ob h.AD i).count,iv (AA (iv i)*8+6), .bool (ob h.AD i).purple]) (fun _=>[]) 3 (fun j=> ∀k,k<j→gI (ob h.AD i).field k≠ -1→(ob h.AD i).live=true∧0≤AB h.AD (gI (ob h.AD i).field k)) rfl rfl (fun k hk=>by omega) (fun R2 j hj hP2 hR2=> ?_)
     simp only [AI,AO,AM,AS,AH,AE,AG,AK,AN,AP,AR,AT,AQ,AL,BD,BJ,BL,BK,BM,BN,BG,A4,AZ,A6,A8,A5,A7]
     simp only [BG,qT,pW,zZ]
     rw [A9 (AA (iv i)*8+6),HG hi,AE,hl3]
     refine AY (AW (fun hlt=> ?_) fun hge=> ?_)
     ·have hlt:j<3:=by omega
      refine AJ hlt (NG hi (by omega) ?_)
      repeat' (first | refine CW (hn.fld i j) (by omega) ?_ | refine BC ?_ | refine FF (by first | with_reducible assumption | omega) ?_ | refine IB (by first | with_reducible assumption | omega) ?_ | refine C4 (by first | with_reducible assumption | omega) rfl ?_ | refine CZ (by first | with_reducible assumption | omega) rfl ?_ | refine BU ?_ | refine AY ?_ | refine CM ?_ | refine BA (by omega) ?_ | refine AJ (by omega) ?_ | refine NG (by omega) (by omega) ?_ | refine AW (fun _=> ?_) (fun _=> ?_) | refine J1 (fun _=> ?_) (fun _=> ?_))
      all_goals first
       | (refine hR2 hlt fun k hk hne=> ?_
          rcases Nat.lt_succ_iff_lt_or_eq.1 hk with h4 | rfl
          ·exact hP2 k h4 hne
          ·first
           | exact absurd hne (by assumption)
           | exact ⟨hv,by omega⟩)
       | (refine no fun hk=> ?_
          have h4:=hk.lead j hlt (by assumption)
          omega)
     ·have hj3:j=3:=by omega
      subst hj3
      have fin:(ob h.AD i).count=(ob h.AD i).holds+(ob h.AD i).roots+inE h.AD i→1≤(ob h.AD i).count→(ob h.AD i).purple=decide (B9 i (ob h.AD i).gen∈h.buffer)→OJ h i:=fun e f hp=>⟨hg,hl3,hP2,fun hh=>(by rw [hv] at hh;cases hh),fun _=>⟨z1,z2,z3,z4,e,f,hp⟩⟩
      refine DN ⟨by omega,by omega⟩ (Q1 ⟨by omega,by omega⟩ (by omega) hf.of (DN ⟨by omega,by omega⟩ ?_))
      repeat' (first | refine FD ?_ | refine MS (by omega) ?_ | refine BC ?_ | refine L5 ?_ | refine J3 (by first | with_reducible assumption | omega) ?_ | refine EC (by first | with_reducible assumption | omega) ?_ | refine C4 (by first | with_reducible assumption | omega) rfl ?_ | refine CZ (by first | with_reducible assumption | omega) rfl ?_ | refine P9 rfl ?_ | refine BV ?_ | refine AY ?_ | refine CM ?_ | refine CQ ?_ | refine BA (by omega) ?_ | refine AW (fun _=> ?_) (fun _=> ?_) | refine KM (fun _=> ?_) (fun _=> ?_))
      all_goals first
       | (refine no fun hk=> ?_
          have h4:=ll hk
          omega)
       | exact stepR (fin (by omega) (by omega) (Decidable.not_not.1 (by assumption)))
       | exact no fun hk=>absurd (ll hk).2.2.2.2.2.2 (by assumption)
    ·repeat' (first | refine CN ?_ | refine BC ?_ | refine L5 ?_ | refine J3 (by first | with_reducible assumption | omega) ?_ | refine EC (by first | with_reducible assumption | omega) ?_ | refine C4 (by first | with_reducible assumption | omega) rfl ?_ | refine CZ (by first | with_reducible assumption | omega) rfl ?_ | refine P9 rfl ?_ | refine BV ?_ | refine CY (by first | with_reducible assumption | omega) ?_ | refine AY ?_ | refine CQ ?_ | refine FJ ⟨by omega,by omega⟩ ?_ | refine KM (fun _=> ?_) (fun _=> ?_))
     all_goals first
      | (refine no fun hk=>hz ?_
         have:=ll hk
         exact ⟨this.1,this.2.1,this.2.2.1,this.2.2.2.1⟩)
      | (exfalso;omega)
 have hi8:i=8:=by omega
 subst hi8
 refine BH (fun i=>[iv i]) (fun _=>[]) h.BW.length (fun i=> ∀k,k<i→((wk h.BW k).used=false→(wk h.BW k).target=0)∧((wk h.BW k).used=true→8≤(wk h.BW k).target∧(wk h.BW k).target≤7999)) rfl rfl (fun k hk=>by omega) (fun R2 i hi hP2 hR2=> ?_)
 simp only [AI,AO,AM,AS,AH,AE,AG,AK,AN,AP,AR,AT,AQ,AL,BD,BJ,BL,BK,BM,BN,BG,A4,AZ,A6,A8,A5,A7]
 refine AY (AW (fun hlt=> ?_) fun hge=> ?_)
 ·have hlt:i<h.BW.length:=by omega
  refine AJ hlt (hQ hlt ?_)
  have stepR:=fun hk=>hR2 hlt fun k hki=>(Nat.lt_succ_iff_lt_or_eq.1 hki).elim (hP2 k) fun he=>he ▸ hk
  simp only [xI,Ck]
  cases hu:(wk h.BW i).used with
  | false=>
    refine B2 ?_
    repeat' (first | refine BC ?_ | refine PW ?_ | refine O8 (by first | with_reducible assumption | omega) ?_ | refine S1 (by first | with_reducible assumption | omega) ?_ | refine H4 ?_ | refine HC ?_ | refine J3 (by first | with_reducible assumption | omega) ?_ | refine EC (by first | with_reducible assumption | omega) ?_ | refine C4 (by first | with_reducible assumption | omega) rfl ?_ | refine CZ (by first | with_reducible assumption | omega) rfl ?_ | refine P9 rfl ?_ | refine P5 rfl ?_ | refine BV ?_ | refine BU ?_ | refine CM ?_ | refine BA (by omega) ?_ | refine jH (fun _=> ?_) (fun _=> ?_))
    all_goals first
     | (refine stepR ⟨fun _=> ?_,fun hh=>(by rw [hu] at hh;cases hh)⟩
        first
         | omega
         | (simp_all;done))
     | (refine h2 fun hk=> ?_
        have h4:=(hk.weak i (by omega)).1 hu
        first
         | omega
         | (simp_all;done))
  | true=>
    refine B2 ?_
    repeat' (first | refine CN ?_ | refine BC ?_ | refine PW ?_ | refine W6 ?_ | refine H4 ?_ | refine K7 ?_ | refine HC ?_ | refine P9 rfl ?_ | refine P5 rfl ?_ | refine CQ ?_ | refine BA (by omega) ?_ | refine AW (fun _=> ?_) (fun _=> ?_))
    all_goals first
     | (refine stepR ⟨fun hh=>(by rw [hu] at hh;cases hh),fun _=> ?_⟩
        first
         | omega
         | (simp_all;done))
     | (refine h2 fun hk=> ?_
        have h4:=(hk.weak i (by omega)).2 hu
        first
         | omega
         | (simp_all;done))
 have hi8:i=8:=by omega
 subst hi8
 refine BH (fun i=>[iv i]) (fun _=>[]) h.buffer.length (fun i=> ∀k,k<i→0≤AB h.AD (gI h.buffer k)∧gI h.buffer k∉h.buffer.take k) rfl rfl (fun k hk=>by omega) (fun R3 i hi hP3 hR3=> ?_)
 simp only [AI,AO,AM,AS,AH,AE,AG,AK,AN,AP,AR,AT,AQ,AL,BD,BJ,BL,BK,BM,BN,BG,A4,AZ,A6,A8,A5,A7]
 refine AY (AW (fun hlt=> ?_) fun hge=> ?_)
 ·have hlt:i<h.buffer.length:=by omega
  have e:G4 (tI h.buffer) [] (AA (YJ (two (iv 0) (iv i)))*1) (AA (XH (two (iv 0) (iv i)))*1)=tI (h.buffer.take i):=by
   have h1:AA (YJ (two (iv 0) (iv i)))=0:=rfl
   have h2:AA (XH (two (iv 0) (iv i)))=i:=A9 i
   rw [h1,h2];simp [G4,node,tI,List.map_take]
  refine AJ hlt (ldI hlt (CW (hn.bf i) (by omega) (AY (BC (BC (BC (KM (fun hb=> ?_) fun hb=> ?_)))))))
  ·refine cT (by omega) (BC (BC (BC (EC hb (AJ hlt (EC hb (ldI hlt (EC hb ?_))))))))
   rw [e]
   refine MS (by simp;omega) (CZ hb rfl (AW (fun hm=>h2 fun hk=>(hk.buf i hlt).2 hm) fun hm=> ?_))
   refine BA (by omega) (hR3 hlt fun k hk=> ?_)
   rcases Nat.lt_succ_iff_lt_or_eq.1 hk with h3 | rfl
   ·exact hP3 k h3
   ·exact ⟨by omega,hm⟩
  ·repeat' (first | refine BC ?_ | refine J3 (by first | with_reducible assumption | omega) ?_ | refine C4 (by first | with_reducible assumption | omega) rfl ?_ | refine BV ?_)
   all_goals exact h2 fun hk=>by have:=(hk.buf i hlt).1;omega
 have hib:i=h.buffer.length:=by omega
 subst hib
 refine BH (fun i=>[iv i]) (fun _=>[]) h.sites.length (fun i=> ∀k,k<i→(1≤((gS h.sites k).size:Int)∧((gS h.sites k).size:Int)≤8)∧gS h.sites k∉h.sites.take k) rfl rfl (fun k hk=>by omega) (fun R4 i hi hP4 hR4=> ?_)
 simp only [AI,AO,AM,AS,AH,AE,AG,AK,AN,AP,AR,AT,AQ,AL,BD,BJ,BL,BK,BM,BN,BG,A4,AZ,A6,A8,A5,A7]
 refine AY (AW (fun hlt=> ?_) fun hge=> ?_)
 ·have hlt:i<h.sites.length:=by omega
  refine AJ hlt (ldS hlt (T2 (CN (CQ (AW (fun hb=>h2 fun hk=>hb (hk.sites.sz i hlt)) fun hb=> ?_)))))
  refine BH (fun j=>[iv i,iv j]) (fun _=>[]) i (fun j=>gS h.sites i∉h.sites.take j) rfl rfl (by simp) (fun R5 j hj hP5 hR5=> ?_)
  simp only [AI,AO,AM,AS,AH,AE,AG,AK,AN,AP,AR,AT,AQ,AL,BD,BJ,BL,BK,BM,BN,BG,A4,AZ,A6,A8,A5,A7]
  refine AY (AW (fun hlj=> ?_) fun hgj=> ?_)
  ·have hlj:j<i:=by omega
   refine AJ (by omega) (ldS (by omega) (AJ hlt (ldS hlt (gK (AW (fun he=>h2 fun hk=>hk.sites.one i hlt ?_) fun he=> ?_)))))
   ·rw [←he, ←QK (by omega)]
    exact List.mem_take_iff_getElem.2 ⟨j,by omega,rfl⟩
   ·exact BA (by omega) (hR5 hlj (iN (by omega) hP5 he))
  ·have:j=i:=by omega
   subst this
   refine BA (by omega) (hR4 hlt fun k hk=> ?_)
   rcases Nat.lt_succ_iff_lt_or_eq.1 hk with h3 | rfl
   ·exact hP4 k h3
   ·exact ⟨Decidable.not_not.1 hb,hP5⟩
 ·have:i=h.sites.length:=by omega
  subst this
  exact h1 ⟨o8,w8,⟨by omega,fun i hi=>(hP4 i hi).1,fun i hi=>(hP4 i hi).2⟩,fun i hi=>hP i hi,fun i hi=>hP2 i hi,fun i hi=>hP3 i hi⟩
end Go.Proofs.Ytklmcfpgdfibnaa.P
namespace Go.Proofs.Ytklmcfpgdfibnaa.P
open Go Go.Proofs.Ytklmcfpgdfibnaa Go.Proofs.Ytklmcfpgdfibnaa.Eng
set_option linter.unusedVariables false
set_option maxHeartbeats 4000000
set_option linter.unusedVariables false
set_option linter.unusedSimpArgs false
attribute [local irreducible] prP gP gE gF AX ixW ldc ldg ldl stc stg scW mkW apW BE cl2 BS DF CB
variable {w0:World}
theorem GX {K:J2} (h:K [] [tI MX]):cl2 ⟨Try.prog,w0⟩ 121 CL.sg [] [] K:=by
 refine CL.cl2 ?_
 unfold CL.txt
 refine BH (fun i=>[iv i]) (fun i=>[tI (List.replicate i (-1))]) 3 (fun _=>True) rfl rfl trivial (fun R i hi hP hR=> ?_)
 simp only [AI,AO,AM,AS,AH,AE,AG,AK,AN,AP,AR,AT,AQ,AL,BD,BJ,BL,BK,BM,BN,BG,A4,AZ,A6,A8,A5,A7]
 refine AY (AW (fun hlt=> ?_) fun hge=> ?_)
 ·have hlt:i<3:=by omega
  refine DC rfl (by simp;omega) (BA (by omega) ?_)
  have:=hR hlt trivial
  rw [List.replicate_succ', ←DO] at this
  exact this
 ·have:i=3:=by omega
  subst this
  exact h
structure St (h:Hp):Prop where
 ol:h.AD.length=8
 wl:h.BW.length=8
 sl:h.sites.length≤6
 bl:h.buffer.length≤100
 of: ∀o∈h.AD,OF o
 ss: ∀s∈h.sites,(s.size:Int)≤1048576
 wf: ∀w∈h.BW,F64 w.target
 bf: ∀x∈h.buffer,F64 x
theorem St.fits {h:Hp} (s:St h):Fits h:=⟨by have:=s.ol;omega,fun o ho=>by have:=(s.of o ho).len;omega,by have:=s.wl;omega,by have:=s.bl;omega,by have:=s.sl;omega,s.ss⟩
def FE (os:List AU) (id:Int):List AU:=if AB os id<0 then os else os.set (AB os id).toNat {ob os (AB os id).toNat with count:=w64 ((ob os (AB os id).toNat).count+1)}
theorem UX (os:List AU) (id:Int):(FE os id).length=os.length:=by unfold FE;split <;> simp
theorem eF {os:List AU} {id:Int} (h: ∀o∈os,OF o): ∀o∈FE os id,OF o:=by
 unfold FE
 split
 ·exact h
 ·have hk:=BT (l:=os) (id:=id) (by omega)
  have ho:=h _ (JJ (l:=os) (i:=(AB os id).toNat) (by omega))
  exact LH h ⟨ho.gen,ho.len,ho.fld⟩
theorem Q4 {os:List AU} {b c d:List T} {id:Int} {K:J2} (hid:F64 id) (hol:os.length=8) (h:K [] [tR tO (FE os id)]):cl2 ⟨Try.prog,w0⟩ 163 DT.sg [I id] [tR tO os,b,c,d] K:=by
 refine DT.cl2 ?_
 unfold DT.txt
 simp only [AI,AO,AM,AS,AH,AE,AG,AK,AN,AP,AR,AT,AQ,AL,BD,BJ,BL,BK,BM,BN,BG,A4,AZ,A6,A8,A5,A7]
 refine C5 hid (by omega) ?_
 simp only [AI,AO,AM,AS,AH,AE,AG,AK,AN,AP,AR,AT,AQ,AL,BD,BJ,BL,BK,BM,BN,BG,A4,AZ,A6,A8,A5,A7]
 unfold FE at h
 refine JW (AW (fun hs=> ?_) fun hs=> ?_)
 ·have hk:=BT (l:=os) (id:=id) (by omega)
  rw [if_neg (by omega)] at h
  obtain ⟨k,hkk⟩: ∃k,(AB os id).toNat=k:=⟨_,rfl⟩
  have hkI:AB os id=(k:Int):=by omega
  rw [hkk] at h
  rw [hkI]
  have hkl:k<os.length:=by omega
  rw [mO hkl]
  exact AJ (by omega) (JA (i:=k) hkl (by decide) rfl (GH (AJ (by omega) (H8 hkl h))))
 ·rw [if_pos (by omega)] at h;exact h
theorem VQ {h:Hp} {id:Int} {K:J2} (st:St h) (hid:F64 id) (hk:K [] (trees {h with AD:=FE h.AD id})):cl2 ⟨Try.prog,w0⟩ 153 GG.sg [I id] (trees h) K:=by
 refine GG.cl2 ?_
 unfold GG.txt
 refine LQ st.fits ?_
 obtain ⟨os,ws,bf,ss⟩:=h
 have hol:os.length=8:=st.ol
 simp only [trees] at hk ⊢
 refine CW hid (by omega) ?_
 simp only [AI,AO,AM,AS,AH,AE,AG,AK,AN,AP,AR,AT,AQ,AL,BD,BJ,BL,BK,BM,BN,BG,A4,AZ,A6,A8,A5,A7]
 unfold FE at hk
 refine BP (JW (AW (fun hs=> ?_) fun hs=> ?_))
 ·have hkk:=BT (l:=os) (id:=id) (by omega)
  rw [if_neg (by omega)] at hk
  obtain ⟨k,hkk⟩: ∃k,(AB os id).toNat=k:=⟨_,rfl⟩
  have hkI:AB os id=(k:Int):=by omega
  rw [hkk] at hk
  rw [hkI]
  have hkl:k<os.length:=by omega
  rw [mO hkl]
  exact AJ (by omega) (JA (i:=k) hkl (by decide) rfl (GH (AJ (by omega) (H8 hkl hk))))
 ·rw [if_pos (by omega)] at hk;exact hk
theorem VF {h:Hp} {ids:List Int} {K:J2} (st:St h) (hi:ids.length≤100) (hid: ∀x∈ids,F64 x) (hK:K [] [tR tO (FK h.AD h.buffer ids).1,tR tW h.BW,tI (FK h.AD h.buffer ids).2.1,tS h.sites,tI (FK h.AD h.buffer ids).2.2]):cl2 ⟨Try.prog,w0⟩ 154 G6.sg [] [tR tO h.AD,tR tW h.BW,tI h.buffer,tS h.sites,tI ids] K:=by
 refine G6.cl2 ?_
 unfold G6.txt
 refine LQ st.fits ?_
 obtain ⟨os,ws,buf,ss⟩:=h
 have hol:os.length=8:=st.ol
 have hof: ∀o∈os,OF o:=st.of
 have hb:buf.length≤100:=st.bl
 simp only [trees] at hK ⊢
 rw [List.nil_append]
 simp only [AI,AO,AM,AS,AH,AE,AG,AK,AN,AP,AR,AT,AQ,AL,BD,BJ,BL,BK,BM,BN,BG,A4,AZ,A6,A8,A5,A7]
 refine DC (KZ _) (by first | omega | (simp only [cnt,List.length_nil];omega)) ?_
 obtain ⟨R,hR0⟩: ∃R,FK os buf ids=R:=⟨_,rfl⟩
 have st:=LsI.start (buf:=buf) hol hof hid
 rw [hR0] at st hK
 refine DI (α:=List AU×List Int×List Int×List Int×Nat) (fun q=>[iv (q.2.2.2.1.length-q.2.2.2.2),iv q.2.2.2.2]) (fun q=>[tI q.2.2.1,tI q.2.2.2.1,tR tO q.1,tR tW ws,tI q.2.1,tS ss]) (fun q=>mu q.2.2.1 (q.2.2.2.1.drop q.2.2.2.2)) (LsI R (buf.length+ids.length+36)) (os,buf,[],ids,0) rfl rfl st (fun Rr q hq hR=> ?_)
 obtain ⟨os,bf,freed,row,off⟩:=q
 have hq':LsI R (buf.length+ids.length+36) (os,bf,freed,row,off):=hq
 obtain ⟨ol,of,fr,ofl,td,sz,_⟩:=id hq'
 simp only at ol of fr ofl td sz
 have hmz:mu freed (row.drop off)=(row.length-off)+4*(9-freed.length):=by simp [mu]
 simp only [AI,AO,AM,AS,AH,AE,AG,AK,AN,AP,AR,AT,AQ,AL,BD,BJ,BL,BK,BM,BN,BG,A4,AZ,A6,A8,A5,A7]
 simp only [A9]
 refine HB (BC (BC (J1 (fun hlt=> ?_) fun hge=> ?_)))
 rotate_left
 ·refine CZ hge rfl (BU ?_)
  have:=hq'.stop (.inl (by
   have: ¬(((row.length-off:Nat):Int)>0):=hge
   omega))
  rw [this] at hK;exact hK
 have hlt':off<row.length:=by
  have:((row.length-off:Nat):Int)>0:=hlt
  omega
 refine HR (C4 hlt rfl (AW (fun h8=> ?_) fun h8=> ?_))
 rotate_left
 ·have:=hq'.stop (.inr (by omega))
  rw [this] at hK;exact hK
 have h8':freed.length≤8:=by omega
 obtain ⟨hidf,_⟩:=hq'.step hlt' h8'
 refine AJ (j:=0) (by omega) (rQ hlt' (sH (by omega) (CW hidf (by omega) ?_)))
 have e1:off+AA (iv 1)*1=off+1:=by rw [A9]
 have e2:row.length-off-1=row.length-(off+1):=by omega
 simp only [A9,e2,Nat.mul_one,BD]
 have mu1:mu freed (row.drop (off+1))<mu freed (row.drop off):=by rw [drop_cons hlt',dA];omega
 refine AY (AW (fun hs=>hR (os,bf,freed,row,off+1) (hq'.skip hlt' h8' hs) mu1) fun hs=> ?_)
 have hs':0≤AB os (gI row off):=by omega
 have hk:=BT hs'
 have n1:=hq'.IT hlt' h8' hs'
 have n2:=hq'.put hlt' h8' hs'
 have n3:=fun hc row' off'=>hq'.free hlt' h8' hs' hc (row':=row') (off':=off')
 have hobf:=of _ (JJ (l:=os) (i:=(AB os (gI row off)).toNat) (by omega))
 generalize hgid:gI row off=id at*
 obtain ⟨k,hkk⟩: ∃k,(AB os id).toNat=k:=⟨_,rfl⟩
 have hkI:AB os id=(k:Int):=by omega
 rw [hkk] at hk n1 n2 n3 hobf
 rw [hkI]
 have hkl:k<os.length:=by omega
 rw [mO hkl]
 generalize ho:ob os k=o at*
 refine AJ (by omega) (JA (i:=k) hkl (by decide) rfl (XA (AJ (by omega) (H8 hkl ?_))))
 generalize hcc:w64 (o.count-1)=c at*
 simp only [AI,AO,AM,AS,AH,AE,AG,AK,AN,AP,AR,AT,AQ,AL,BD,BJ,BL,BK,BM,BN,BG,A4,AZ,A6,A8,A5,A7]
 have hl8:(os.set k {o with count:=c}).length=os.length:=List.length_set
 simp only [List.length_set]
 refine AJ (by omega) (JA (v:=I c) (i:=k) hkl (by decide) rfl ?_)
 refine HB (AW (fun hc=> ?_) fun hc=> ?_)
 ·refine BP (AJ (by omega) (JA (v:= .bool o.purple) (i:=k) hkl (by decide) rfl (B2 ?_)))
  cases hp:o.purple with
  | false=>
    refine BV (AJ (by omega) (PS hkl (DC rfl (by omega) ?_)))
    have:=hR _ (n2 hc hp) (by simp only;exact mu1)
    simp only at this
    rw [←DO] at this
    simp only [AI,AO,AM,AS,AH,AE,AG,AK,AN,AP,AR,AT,AQ,AL,BD,BJ,BL,BK,BM,BN,BG,A4,AZ,A6,A8,A5,A7]
    simp only [A9]
    exact this
  | true=>
    have:=hR _ (n1 hc hp) (by simp only;exact mu1)
    simp only [hp] at this
    refine BU ?_
    simp only [AI,AO,AM,AS,AH,AE,AG,AK,AN,AP,AR,AT,AQ,AL,BD,BJ,BL,BK,BM,BN,BG,A4,AZ,A6,A8,A5,A7]
    simp only [A9]
    exact this
 ·refine DC rfl (by omega) ?_
  have hfl:o.field.length=3:=hobf.len
  refine DI (α:=Nat×List Int×Nat) (fun q=>[iv (q.2.1.length-q.2.2),iv q.2.2,I id,iv k,iv q.1]) (fun q=>[tI (freed++[id]),tI q.2.1,tR tO (os.set k {o with count:=c}),tR tW ws,tI bf,tS ss]) (fun q=>3-q.1) (fun q=>q.1≤3∧q.2.2≤q.2.1.length∧q.2.1.drop q.2.2=row.drop (off+1)++(o.field.take q.1).filter fun x=>decide (0≤x)) (0,row,off+1) rfl ?_ ⟨by omega,hlt',by simp⟩ (fun R2 q hq2 hR2=> ?_)
  ·simp only [DO]
  obtain ⟨i,rw',of'⟩:=q
  obtain ⟨hi3,hof',hdr⟩:=hq2
  simp only at hi3 hof' hdr
  have hrl:rw'.length-of'≤row.length-(off+1)+3:=by
   have e:=congrArg List.length hdr
   have:=List.length_filter_le (fun x=>decide (0≤x)) (o.field.take i)
   simp only [List.length_drop,List.length_append,List.length_take] at e this
   omega
  simp only [AI,AO,AM,AS,AH,AE,AG,AK,AN,AP,AR,AT,AQ,AL,BD,BJ,BL,BK,BM,BN,BG,A4,AZ,A6,A8,A5,A7]
  simp only [List.length_set]
  refine AJ (by omega) (WI (i:=k) hkl (by decide) rfl ?_)
  simp only [A9,lX hkl,AE]
  refine AY (AW (fun hlt=> ?_) fun hge=> ?_)
  ·have hlt:i<o.field.length:=by omega
   have hfx:=hobf.fld _ (DS hlt)
   refine BP (AJ (by omega) (WI (i:=k) hkl (by decide) rfl ?_))
   have ed:(rw'.drop of').take (rw'.length-of')=rw'.drop of':=by rw [←List.length_drop,List.take_length]
   have ea:tI (rw'.drop of')++[T.c (I (gI o.field i))]=tI (rw'.drop of'++[gI o.field i]):=DO _ _
   simp only [A9,lX hkl,AE,QR,Nat.mul_one,ed]
   refine AJ hlt (p5 hkl hlt ?_)
   simp only [A9]
   refine JW (AW (fun hp=> ?_) fun hp=> ?_)
   ·refine AJ (by omega) (WI (i:=k) hkl (by decide) rfl ?_)
    simp only [A9,lX hkl,AE]
    refine AJ hlt (p5 hkl hlt ?_)
    simp only [A9]
    refine DC rfl (by omega) ?_
    have:=hR2 (i+1,rw'.drop of'++[gI o.field i],0) ⟨by simp only;omega,by simp only;omega,by simp only [List.drop_zero];rw [hdr,List.take_succ_eq_append_getElem hlt,List.filter_append, ←List.append_assoc,DL hlt];congr 1;simp [hp]⟩ (by simp only;omega)
    refine BA (by omega) ?_
    rw [ea]
    simp only [AI,AO,AM,AS,AH,AE,AG,AK,AN,AP,AR,AT,AQ,AL,BD,BJ,BL,BK,BM,BN,BG,A4,AZ,A6,A8,A5,A7]
    simp only [A9]
    exact this
   ·have:=hR2 (i+1,rw',of') ⟨by simp only;omega,hof',by simp only;rw [hdr,List.take_succ_eq_append_getElem hlt,List.filter_append, ←List.append_assoc,DL hlt];simp;omega⟩ (by simp only;omega)
    refine BA (by omega) ?_
    simp only [AI,AO,AM,AS,AH,AE,AG,AK,AN,AP,AR,AT,AQ,AL,BD,BJ,BL,BK,BM,BN,BG,A4,AZ,A6,A8,A5,A7]
    simp only [A9]
    exact this
  ·have:i=o.field.length:=by omega
   subst this
   rw [List.take_length] at hdr
   refine U3 (by omega) ?_
   try simp only [AI,List.length_set]
   refine AJ (by omega) ?_
   simp only [A9]
   refine xL hkl (GX ?_)
   refine AJ (by omega) ?_
   simp only [A9]
   refine w9 hkl (z:=CA o.gen) rfl ?_
   exact hR _ (n3 hc _ _ hdr hof') (by simp only;rw [hdr];simp only [mu,List.length_append,List.length_singleton] at mu1 ⊢;have:=List.length_filter_le (fun x=>decide (0≤x)) o.field;omega)
end Go.Proofs.Ytklmcfpgdfibnaa.P
