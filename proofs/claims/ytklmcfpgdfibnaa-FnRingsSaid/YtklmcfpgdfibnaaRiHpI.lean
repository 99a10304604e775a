/- A part of the proof. -/
import Derived.Test.YtklmcfpgdfibnaaRiHpE
namespace Go.Proofs.Ytklmcfpgdfibnaa.P
open Go Go.Proofs.Ytklmcfpgdfibnaa Go.Proofs.Ytklmcfpgdfibnaa.Eng
set_option maxHeartbeats 4000000
set_option linter.unusedVariables false
set_option linter.unusedSimpArgs false
attribute [local irreducible] prP gP gE gF AW ixW ldc ldg ldl stc stg scW mkW apW AZ cl2 BJ CH B2
variable {w0:World}
theorem V9 {h:Hp} {K:J2} (hf:Fits h) (hn:QR h) (h1:BG h→K [.bool true] []) (h2: ¬BG h→K [.bool false] []):cl2 ⟨Try.prog,w0⟩ 82 FR.sg [] (trees h) K:=by
 have g1:=hf.ol;have g2:=hf.wl;have g3:=hf.sl;have g4:=hf.bl
 refine FR.cl2 ?_
 unfold FR.txt
 simp only [AJ,AO,AS,AN,AQ,AG,AK,AI,AR,AT,AU,AM,AL,AP,BP,BU,BW,BT,BV,BS,BQ,AY,A6,A7,A4,A5,A8]
 refine DN (B9 (B9 (B9 (S3 (fun ho=> ?_) fun ho=> ?_))))
 rotate_left
 ·refine HR ho rfl (B9 (B9 (h9 (h9 (lO rfl (CV (h2 fun hk=>ho (by have:=hk.ol;omega))))))))
 refine DN (F8 ho rfl (B9 (B9 (S3 (fun hw=> ?_) fun hw=> ?_))))
 rotate_left
 ·exact J6 hw (HR hw rfl (CV (h2 fun hk=>hw (by have:=hk.wl;omega))))
 refine T9 (by omega) (fun hs=> ?_) fun hs=> ?_
 rotate_left
 ·exact D9 hw (DR (F8 hw rfl (CV (h2 fun hk=>hs hk.sites))))
 refine D9 hw (DR (F8 hw rfl (C7 ?_)))
 have o8:h.AB.length=8:=by omega
 have w8:h.CB.length=8:=by omega
 refine BL (fun i=>[iv h.AB.length,iv i]) (fun _=>[]) h.AB.length (fun i=> ∀k,k<i→WT h k) rfl rfl (fun k hk=>by omega) (fun R i hi hP hR=> ?_)
 refine BE (BB (fun hlt=> ?_) fun hge=> ?_)
 ·have hlt:i<h.AB.length:=by omega
  refine ZR hf hn hlt (fun hk=>DR (C7 (A9 (by omega) (hR hlt fun k hki=> ?_)))) fun hk=>DR (CV (h2 fun hh=>hk (hh.obj i (by omega))))
  rcases Nat.lt_succ_iff_lt_or_eq.1 hki with h4 | rfl
  ·exact hP k h4
  ·exact hk
 have hi8:i=8:=by omega
 subst hi8
 refine BL (fun i=>[iv h.CB.length,iv i]) (fun _=>[]) h.CB.length (fun i=> ∀k,k<i→((wk h.CB k).used=false→(wk h.CB k).target=0)∧((wk h.CB k).used=true→8≤(wk h.CB k).target∧(wk h.CB k).target≤7999)) rfl rfl (fun k hk=>by omega) (fun R2 i hi hP2 hR2=> ?_)
 refine BE (BB (fun hlt=> ?_) fun hge=> ?_)
 ·have hlt:i<h.CB.length:=by omega
  refine BF hlt (nH hlt ?_)
  have stepR:=fun hk=>hR2 hlt fun k hki=>(Nat.lt_succ_iff_lt_or_eq.1 hki).elim (hP2 k) fun he=>he ▸ hk
  cases hu:(wk h.CB i).used with
  | false=>
    refine DR ?_
    repeat' (first | refine B9 ?_ | refine W6 ?_ | refine dI ?_ | refine UW (by first | with_reducible assumption | omega) ?_ | refine X4 (by first | with_reducible assumption | omega) ?_ | refine TY ?_ | refine J6 (by first | with_reducible assumption | omega) ?_ | refine D9 (by first | with_reducible assumption | omega) ?_ | refine iX (by with_reducible assumption) ?_ | refine kJ (by with_reducible assumption) rfl ?_ | refine nI (by with_reducible assumption) rfl ?_ | refine HR (by first | with_reducible assumption | omega) rfl ?_ | refine F8 (by first | with_reducible assumption | omega) rfl ?_ | refine X8 rfl ?_ | refine CV ?_ | refine C7 ?_ | refine DN ?_ | refine A9 (by omega) ?_ | refine nK (fun _=> ?_) (fun _=> ?_) | refine gH (fun _=> ?_) (fun _=> ?_) | simp only [AJ,AO,AS,AN,AQ,AG,AK,AI,AR,AT,AU,AM,AL,AP,BP,BU,BW,BT,BV,BS,BQ,AY,A6,A7,A4,A5,A8])
    all_goals first
     | (refine stepR ⟨fun _=> ?_,fun hh=>(by rw [hu] at hh;cases hh)⟩
        first
         | omega
         | (simp_all;done))
     | (refine h2 fun hk=> ?_
        have h4:=(hk.weak i (by omega)).1 hu
        first
         | omega
         | (simp_all;done))
  | true=>
    refine DR ?_
    repeat' (first | refine FG ?_ | refine B9 ?_ | refine W6 ?_ | refine dI ?_ | refine UW (by first | with_reducible assumption | omega) ?_ | refine X4 (by first | with_reducible assumption | omega) ?_ | refine TY ?_ | refine J6 (by first | with_reducible assumption | omega) ?_ | refine D9 (by first | with_reducible assumption | omega) ?_ | refine NX (by with_reducible assumption) ?_ | refine kJ (by with_reducible assumption) rfl ?_ | refine nI (by with_reducible assumption) rfl ?_ | refine HR (by first | with_reducible assumption | omega) rfl ?_ | refine F8 (by first | with_reducible assumption | omega) rfl ?_ | refine X8 rfl ?_ | refine CV ?_ | refine IY (by first | with_reducible assumption | omega) ?_ | refine DN ?_ | refine HZ ?_ | refine A9 (by omega) ?_ | refine BB (fun _=> ?_) (fun _=> ?_) | refine nK (fun _=> ?_) (fun _=> ?_) | refine gH (fun _=> ?_) (fun _=> ?_) | simp only [AJ,AO,AS,AN,AQ,AG,AK,AI,AR,AT,AU,AM,AL,AP,BP,BU,BW,BT,BV,BS,BQ,AY,A6,A7,A4,A5,A8])
    all_goals first
     | (refine stepR ⟨fun hh=>(by rw [hu] at hh;cases hh),fun _=> ?_⟩
        first
         | omega
         | (simp_all;done))
     | (refine h2 fun hk=> ?_
        have h4:=(hk.weak i (by omega)).2 hu
        first
         | omega
         | (simp_all;done))
 have hi8:i=8:=by omega
 subst hi8
 refine BL (fun i=>[iv h.buffer.length,iv i]) (fun _=>[]) h.buffer.length (fun i=> ∀k,k<i→0≤AA h.AB (gI h.buffer k)∧gI h.buffer k∉h.buffer.take k) rfl rfl (fun k hk=>by omega) (fun R3 i hi hP3 hR3=> ?_)
 simp only [AJ,AO,AS,AN,AQ,AG,AK,AI,AR,AT,AU,AM,AL,AP,BP,BU,BW,BT,BV,BS,BQ,AY,A6,A7,A4,A5,A8]
 refine BE (BB (fun hlt=> ?_) fun hge=> ?_)
 ·have hlt:i<h.buffer.length:=by omega
  have e:I2 (tI h.buffer) [] (AD (aN (two (iv 0) (iv i)))*1) (AD (bN (two (iv 0) (iv i)))*1)=tI (h.buffer.take i):=by
   have h1:AD (aN (two (iv 0) (iv i)))=0:=rfl
   have h2:AD (bN (two (iv 0) (iv i)))=i:=BA i
   rw [h1,h2];simp [I2,node,tI,List.map_take]
  refine BF hlt (ldI hlt (B5 (hn.bf i) (by omega) (BE (B9 (B9 (B9 (S3 (fun hb=> ?_) fun hb=> ?_)))))))
  ·refine oU (by omega) (B9 (D9 hb ?_))
   rw [e]
   refine FV (by simp;omega) (F8 hb rfl (BB (fun hm=>h2 fun hk=>(hk.buf i hlt).2 hm) fun hm=> ?_))
   refine A9 (by omega) (hR3 hlt fun k hk=> ?_)
   rcases Nat.lt_succ_iff_lt_or_eq.1 hk with h3 | rfl
   ·exact hP3 k h3
   ·exact ⟨by omega,hm⟩
  ·exact B9 (J6 hb (HR hb rfl (CV (h2 fun hk=>by have:=(hk.buf i hlt).1;omega))))
 ·have hib:i=h.buffer.length:=by omega
  subst hib
  exact h1 ⟨o8,w8,hs,fun i hi=>hP i hi,fun i hi=>hP2 i hi,fun i hi=>hP3 i hi⟩
end Go.Proofs.Ytklmcfpgdfibnaa.P
namespace Go.Proofs.Ytklmcfpgdfibnaa.P
open Go Go.Proofs.Ytklmcfpgdfibnaa Go.Proofs.Ytklmcfpgdfibnaa.Eng
set_option linter.unusedVariables false
theorem wE {n:Nat} (hn:1≤n) {K:Value→Value→Prop} (h:K (iv 1) (iv (n-1))):scW n (some (.int .i64 1)) none K:=⟨1,n,rfl,rfl,hn,Nat.le_refl _,h⟩
set_option maxHeartbeats 4000000
set_option linter.unusedVariables false
set_option linter.unusedSimpArgs false
attribute [local irreducible] prP gP gE gF AW ixW ldc ldg ldl stc stg scW mkW apW AZ cl2 BJ CH B2
variable {w0:World}
def G4:List Int:=[-1, -1, -1]
def B7 (g:Int):AE:=⟨false,g,0,0,0,0,G4,false⟩
def HC:Nat→List AE→List Int→List Int→List Int→List AE×List Int×List Int
 | 0,os,buf,freed,_=>(os,buf,freed)
 | f+1,os,buf,freed,todo=>match todo with
   | []=>(os,buf,freed)
   | id::todo=>if freed.length>8 then (os,buf,freed) else
     if AA os id<0 then HC f os buf freed todo else
     if w64 ((ob os (AA os id).toNat).count-1)>0 then
      (if (ob os (AA os id).toNat).purple=true then HC f (os.set (AA os id).toNat {ob os (AA os id).toNat with count:=w64 ((ob os (AA os id).toNat).count-1)}) buf freed todo
       else HC f (os.set (AA os id).toNat {ob os (AA os id).toNat with count:=w64 ((ob os (AA os id).toNat).count-1),purple:=true}) (buf++[id]) freed todo)
     else HC f (os.set (AA os id).toNat (B7 (ob os (AA os id).toNat).gen)) (buf.filter fun x=>decide (x≠id)) (freed++[id]) (todo++(ob os (AA os id).toNat).field.filter fun x=>decide (0≤x))
def mu (freed todo:List Int):Nat:=todo.length+4*(9-freed.length)
def GA (os:List AE) (buf ids:List Int):List AE×List Int×List Int:=HC (ids.length+37) os buf [] ids
theorem BH {l:List AE} {id:Int} (h:0≤AA l id):l.length=8∧8≤id∧AA l id=id % 8∧(AA l id).toNat<8∧(ob l (AA l id).toNat).live=true∧(ob l (AA l id).toNat).gen=id/8:=by
 unfold AA at h ⊢
 split at h
 ·omega
 ·split at h
  ·rename_i h1 h2
   rw [if_neg h1,if_pos h2]
   exact ⟨by omega,by omega,rfl,by omega,h2.1,h2.2⟩
  ·omega
structure OF (o:AE):Prop where
 gen:F64 o.gen
 len:o.field.length=3
 fld: ∀f∈o.field,F64 f
theorem OF.free {g:Int} (h:F64 g):OF (B7 g):=⟨h,rfl,by simp [B7,G4,F64]⟩
theorem QH {l:List AE} {P:AE→Prop} {i:Nat} {o:AE} (h: ∀x∈l,P x) (ho:P o): ∀x∈l.set i o,P x:=fun x hx=>(List.mem_or_eq_of_mem_set hx).elim (h x) fun he=>he ▸ ho
structure LsI (R:List AE×List Int×List Int) (M:Nat) (q:List AE×List Int×List Int×List Int×Nat):Prop where
 ol:q.1.length=8
 of: ∀o∈q.1,OF o
 fr:q.2.2.1.length≤9
 off:q.2.2.2.2≤q.2.2.2.1.length
 td: ∀x∈q.2.2.2.1.drop q.2.2.2.2,F64 x
 sz:q.2.1.length+mu q.2.2.1 (q.2.2.2.1.drop q.2.2.2.2)≤M
 go: ∃f,mu q.2.2.1 (q.2.2.2.1.drop q.2.2.2.2)<f∧HC f q.1 q.2.1 q.2.2.1 (q.2.2.2.1.drop q.2.2.2.2)=R
theorem UC {l:List Int} {x:Int} {K:J2} (hl:(l.length:Int)≤2^40) (h:K [] [tI (l.filter fun y=>decide (y≠x))]):cl2 ⟨Try.prog,w0⟩ 172 ES.sg [I x] [tI l] K:=by
 refine ES.cl2 ?_
 unfold ES.txt
 simp only [AJ,AO,AS,AN,AQ,AG,AK,AI,AR,AT,AU,AM,AL,AP,BP,BU,BW,BT,BV,BS,BQ,AY,A6,A7,A4,A5,A8]
 refine BL (fun i=>[I x,iv l.length,iv i]) (fun i=>[tI ((l.take i).filter fun y=>decide (y≠x))]) l.length (fun _=>True) rfl rfl trivial (fun R i hi _ hR=> ?_)
 have hln:=List.length_filter_le (fun y=>decide (y≠x)) (l.take i)
 have hlt2:(l.take i).length≤i:=by simp;omega
 simp only [AJ,AO,AS,AN,AQ,AG,AK,AI,AR,AT,AU,AM,AL,AP,BP,BU,BW,BT,BV,BS,BQ,AY,A6,A7,A4,A5,A8]
 refine BE (BB (fun hlt=> ?_) fun hge=> ?_)
 ·have hlt:i<l.length:=by omega
  replace hR:=hR hlt trivial
  rw [List.take_succ_eq_append_getElem hlt,List.filter_append,DE hlt] at hR
  refine DB (BF hlt (ldI hlt (DN (BB (fun he=> ?_) fun he=> ?_))))
  ·refine GH rfl (by omega) (A9 (by omega) ?_)
   have e:([gI l i].filter fun y=>decide (y≠x))=[gI l i]:=by simp [he]
   rw [e, ←F4] at hR;exact hR
  ·refine A9 (by omega) ?_
   have e:([gI l i].filter fun y=>decide (y≠x))=[]:=by simp at he;simp [he]
   rw [e,List.append_nil] at hR;exact hR
 ·have:i=l.length:=by omega
  subst this
  rw [List.take_length];exact h
theorem OK {g:Value} {K:J2} (h:K [.bool false,g,I 0,I 0,I 0,I 0, .bool false] [tI G4]):cl2 ⟨Try.prog,w0⟩ 99 FH.sg [g] [] K:=FH.cl2 h
theorem uV {l:List Int} {a:Nat} {K:Value→Prop} (ha:a<l.length) (h:K (I (gI l a))):ldc (tI l) [] (a+AD (iv 0)*1) K:=by
 have e:a+AD (iv 0)*1=AD (iv a)*1:=by rw [BA,BA];omega
 rw [e];exact ldI ha h
theorem drop_cons {l:List Int} {a:Nat} (ha:a<l.length):l.drop a=gI l a::l.drop (a+1):=by rw [List.drop_eq_getElem_cons ha,DE ha]
theorem gU {freed todo:List Int} {x:Int}:mu freed (x::todo)=mu freed todo+1:=by simp only [mu,List.length_cons];omega
theorem JY {l:List AE} {i:Nat} (h:i<l.length):ob l i∈l:=by rw [←DQ h];exact List.getElem_mem h
theorem sS {l:List AE} {i:Nat} (h:i<l.length):tR tO l=tR tO (l.set i (ob l i)):=by rw [←DQ h];exact rV h
theorem LsI.start {os:List AE} {buf ids:List Int} (hol:os.length=8) (hof: ∀o∈os,OF o) (hid: ∀x∈ids,F64 x):LsI (GA os buf ids) (buf.length+ids.length+36) (os,buf,[],ids,0):=
 ⟨hol,hof,Nat.zero_le _,Nat.zero_le _,by simpa using hid,by simp only [mu,List.drop_zero,List.length_nil];omega,ids.length+37,by simp only [mu,List.drop_zero,List.length_nil];omega,rfl⟩
section
variable {R:List AE×List Int×List Int} {M:Nat} {os:List AE} {buf freed row:List Int} {off:Nat}
theorem LsI.stop (h:LsI R M (os,buf,freed,row,off)) (hs:row.length≤off∨8<freed.length):R=(os,buf,freed):=by
 obtain ⟨_,_,_,_,_,_,f,hf,go⟩:=h
 simp only at hf go
 obtain ⟨f,rfl⟩: ∃f',f=f'+1:=⟨f-1,by omega⟩
 rcases hs with hs | hs
 ·rw [List.drop_of_length_le hs] at go
  rw [←go];rfl
 ·rw [←go]
  cases row.drop off with
  | nil=>rfl
  | cons x l=>simp only [HC,if_pos hs]
theorem LsI.step (h:LsI R M (os,buf,freed,row,off)) (hlt:off<row.length) (hfr:freed.length≤8):F64 (gI row off)∧ ∃f,mu freed (row.drop (off+1))<f∧HC (f+1) os buf freed (gI row off::row.drop (off+1))=R∧buf.length+mu freed (row.drop (off+1))+1≤M∧ ∀x∈row.drop (off+1),F64 x:=by
 obtain ⟨_,_,_,_,td,sz,f,hf,go⟩:=h
 simp only at td sz hf go
 rw [drop_cons hlt] at td sz hf go
 rw [gU] at sz hf
 obtain ⟨f,rfl⟩: ∃f',f=f'+1:=⟨f-1,by omega⟩
 exact ⟨td _ (by simp),f,by omega,go,by omega,fun x hx=>td x (by simp [hx])⟩
theorem LsI.skip (h:LsI R M (os,buf,freed,row,off)) (hlt:off<row.length) (hfr:freed.length≤8) (hs:AA os (gI row off)<0):LsI R M (os,buf,freed,row,off+1):=by
 obtain ⟨_,f,h1,h2,h3,h4⟩:=h.step hlt hfr
 rw [HC] at h2
 simp only at h2
 rw [if_neg (by omega),if_pos hs] at h2
 exact ⟨h.ol,h.of,h.fr,hlt,h4,by simp only;omega,f,h1,h2⟩
theorem LsI.II (h:LsI R M (os,buf,freed,row,off)) (hlt:off<row.length) (hfr:freed.length≤8) (hs:0≤AA os (gI row off)) (hc:w64 ((ob os (AA os (gI row off)).toNat).count-1)>0) (hp:(ob os (AA os (gI row off)).toNat).purple=true):
  LsI R M (os.set (AA os (gI row off)).toNat {ob os (AA os (gI row off)).toNat with count:=w64 ((ob os (AA os (gI row off)).toNat).count-1)},buf,freed,row,off+1):=by
 obtain ⟨_,f,h1,h2,h3,h4⟩:=h.step hlt hfr
 have hk:=BH hs
 have ho:=h.of _ (JY (l:=os) (i:=(AA os (gI row off)).toNat) (by omega))
 rw [HC] at h2
 simp only at h2
 rw [if_neg (by omega),if_neg (by omega),if_pos hc,if_pos hp] at h2
 exact ⟨by simp only [List.length_set];exact h.ol,QH h.of ⟨ho.gen,ho.len,ho.fld⟩,h.fr,hlt,h4,by simp only;omega,f,h1,h2⟩
theorem LsI.put (h:LsI R M (os,buf,freed,row,off)) (hlt:off<row.length) (hfr:freed.length≤8) (hs:0≤AA os (gI row off)) (hc:w64 ((ob os (AA os (gI row off)).toNat).count-1)>0) (hp:(ob os (AA os (gI row off)).toNat).purple=false):
  LsI R M (os.set (AA os (gI row off)).toNat {ob os (AA os (gI row off)).toNat with count:=w64 ((ob os (AA os (gI row off)).toNat).count-1),purple:=true},buf++[gI row off],freed,row,off+1):=by
 obtain ⟨_,f,h1,h2,h3,h4⟩:=h.step hlt hfr
 have hk:=BH hs
 have ho:=h.of _ (JY (l:=os) (i:=(AA os (gI row off)).toNat) (by omega))
 rw [HC] at h2
 simp only at h2
 rw [if_neg (by omega),if_neg (by omega),if_pos hc,if_neg (by rw [hp];decide)] at h2
 exact ⟨by simp only [List.length_set];exact h.ol,QH h.of ⟨ho.gen,ho.len,ho.fld⟩,h.fr,hlt,h4,by simp only [List.length_append,List.length_singleton];omega,f,h1,h2⟩
theorem LsI.free (h:LsI R M (os,buf,freed,row,off)) (hlt:off<row.length) (hfr:freed.length≤8) (hs:0≤AA os (gI row off)) (hc: ¬w64 ((ob os (AA os (gI row off)).toNat).count-1)>0) {row':List Int} {off':Nat} (hrow:row'.drop off'=row.drop (off+1)++(ob os (AA os (gI row off)).toNat).field.filter fun x=>decide (0≤x)) (hle:off'≤row'.length):
  LsI R M (os.set (AA os (gI row off)).toNat (B7 (ob os (AA os (gI row off)).toNat).gen),buf.filter fun x=>decide (x≠gI row off),freed++[gI row off],row',off'):=by
 obtain ⟨_,f,h1,h2,h3,h4⟩:=h.step hlt hfr
 have hk:=BH hs
 have ho:=h.of _ (JY (l:=os) (i:=(AA os (gI row off)).toNat) (by omega))
 have hfl:=List.length_filter_le (fun x=>decide (0≤x)) (ob os (AA os (gI row off)).toNat).field
 have hbl:=List.length_filter_le (fun x=>decide (x≠gI row off)) buf
 rw [ho.len] at hfl
 rw [HC] at h2
 simp only at h2
 rw [if_neg (by omega),if_neg (by omega),if_neg hc] at h2
 have hmu:mu (freed++[gI row off]) (row'.drop off')≤mu freed (row.drop (off+1)):=by
  rw [hrow];simp only [mu,List.length_append,List.length_singleton];omega
 refine ⟨by simp only [List.length_set];exact h.ol,QH h.of (OF.free ho.gen),by simp only [List.length_append,List.length_singleton];omega,hle,fun x hx=> ?_,by simp only;omega,f,by simp only;omega,by rw [←h2,hrow]⟩
 simp only at hx
 rw [hrow] at hx
 rcases List.mem_append.1 hx with hx | hx
 ·exact h4 x hx
 ·exact ho.fld x (List.mem_filter.1 hx).1
end
section
variable {cur:List AE} {k:Nat} {y:AE}
theorem yH (hk:k<cur.length):HX (tR tO (cur.set k y)) [k*8+6]=tI y.field:=by have:=OO (y:=y) hk;rwa [BA] at this
theorem xU {i:Nat} {K:Value→Prop} (hk:k<cur.length) (hi:i<y.field.length) (h:K (I (gI y.field i))):ldc (tR tO (cur.set k y)) [k*8+6] i K:=by
 have:=VL (l:=cur.set k y) (i:=k) (j:=i) (K:=K) (by simpa using hk) (by rw [←DQ (by simpa using hk),List.getElem_set_self];exact hi) (by rw [←DQ (by simpa using hk),List.getElem_set_self];exact h)
 simpa only [BA,Nat.mul_one] using this
theorem xX {K:Value→Prop} (hk:k<cur.length) (h:K (I y.gen)):ldc (tR tO (cur.set k y)) [] (k*8+1) K:=by
 have:=JJ (f:=tO) (K:=K) (c:=1) (y:=y) hk (by decide) rfl h
 rwa [BA] at this
theorem wR {ts:List T} {z:AE} {K:List T→Prop} (hk:k<cur.length) (hy:ts=tO z) (h:K (tR tO (cur.set k z))):stg (tR tO (cur.set k y)) [] (k*8) ts K:=by
 have:=R9 (f:=tO) (l:=cur.set k y) (K:=K) (by simpa using hk) hy (by rw [List.set_set];exact h)
 rwa [BA] at this
theorem mK (l:List Int) (a m:Nat):I2 (tI l) [] a m=tI ((l.drop a).take m):=by simp [I2,node,tI,List.map_drop,List.map_take]
end
theorem OB {os:List AE} {buf ids:List Int} {b d:List T} {K:J2} (hol:os.length=8) (hof: ∀o∈os,OF o) (hb:buf.length≤2^30) (hi:ids.length≤2^30) (hid: ∀x∈ids,F64 x) (h:K [] [tI (GA os buf ids).2.2,tR tO (GA os buf ids).1,tI (GA os buf ids).2.1]):cl2 ⟨Try.prog,w0⟩ 164 C1.sg [] [tR tO os,b,tI buf,d,tI ids] K:=by
 refine C1.cl2 ?_
 unfold C1.txt
 refine GV (by omega) ?_
 obtain ⟨R,hR0⟩: ∃R,GA os buf ids=R:=⟨_,rfl⟩
 have st:=LsI.start (buf:=buf) hol hof hid
 rw [hR0] at st h
 simp only [AJ,AO,AS,AN,AQ,AG,AK,AI,AR,AT,AU,AM,AL,AP,BP,BU,BW,BT,BV,BS,BQ,AY,A6,A7,A4,A5,A8]
 refine IX (α:=List AE×List Int×List Int×List Int×Nat) (fun q=>[iv (q.2.2.2.1.length-q.2.2.2.2),iv q.2.2.2.2]) (fun q=>[tI q.2.2.1,tI q.2.2.2.1,tR tO q.1,tI q.2.1]) (fun q=>mu q.2.2.1 (q.2.2.2.1.drop q.2.2.2.2)) (LsI R (buf.length+ids.length+36)) (os,buf,[],ids,0) rfl rfl st (fun Rr q hq hR=> ?_)
 obtain ⟨os,bf,freed,row,off⟩:=q
 have hq':LsI R (buf.length+ids.length+36) (os,bf,freed,row,off):=hq
 obtain ⟨ol,of,fr,ofl,td,sz,_⟩:=id hq'
 simp only at ol of fr ofl td sz
 have hmz:mu freed (row.drop off)=(row.length-off)+4*(9-freed.length):=by simp [mu]
 simp only [AJ,AO,AS,AN,AQ,AG,AK,AI,AR,AT,AU,AM,AL,AP,BP,BU,BW,BT,BV,BS,BQ,AY,A6,A7,A4,A5,A8]
 simp only [BA]
 refine RD (B9 (B9 (QW (fun hlt=> ?_) fun hge=> ?_)))
 rotate_left
 ·refine F8 hge rfl (C7 ?_)
  have:=hq'.stop (.inl (by
   have: ¬(((row.length-off:Nat):Int)>0):=hge
   omega))
  rw [this] at h;exact h
 have hlt':off<row.length:=by
  have:((row.length-off:Nat):Int)>0:=hlt
  omega
 refine IU (HR hlt rfl (BB (fun h8=> ?_) fun h8=> ?_))
 rotate_left
 ·have:=hq'.stop (.inr (by omega))
  rw [this] at h;exact h
 have h8':freed.length≤8:=by omega
 obtain ⟨hidf,_⟩:=hq'.step hlt' h8'
 refine BF (j:=0) (by omega) (uV hlt' (wE (by omega) (B5 hidf (by omega) ?_)))
 have e1:off+AD (iv 1)*1=off+1:=by rw [BA]
 have e2:row.length-off-1=row.length-(off+1):=by omega
 simp only [BA,e2,Nat.mul_one,BP]
 have mu1:mu freed (row.drop (off+1))<mu freed (row.drop off):=by rw [drop_cons hlt',gU];omega
 refine BE (BB (fun hs=>hR (os,bf,freed,row,off+1) (hq'.skip hlt' h8' hs) mu1) fun hs=> ?_)
 have hs':0≤AA os (gI row off):=by omega
 have hk:=BH hs'
 have n1:=hq'.II hlt' h8' hs'
 have n2:=hq'.put hlt' h8' hs'
 have n3:=fun hc row' off'=>hq'.free hlt' h8' hs' hc (row':=row') (off':=off')
 have hobf:=of _ (JY (l:=os) (i:=(AA os (gI row off)).toNat) (by omega))
 generalize hgid:gI row off=id at*
 obtain ⟨k,hkk⟩: ∃k,(AA os id).toNat=k:=⟨_,rfl⟩
 have hkI:AA os id=(k:Int):=by omega
 rw [hkk] at hk n1 n2 n3 hobf
 rw [hkI]
 have hkl:k<os.length:=by omega
 rw [sS hkl]
 generalize ho:ob os k=o at*
 refine BF (by omega) (JJ (i:=k) hkl (by decide) rfl (mG (KR hkl ?_)))
 generalize hcc:w64 (o.count-1)=c at*
 refine JJ (v:=I c) (i:=k) hkl (by decide) rfl ?_
 refine RD (B9 (B9 (B9 (QW (fun hc=> ?_) fun hc=> ?_))))
 ·refine JJ (v:= .bool o.purple) (i:=k) hkl (by decide) rfl (NI hc (DR (HR hc rfl ?_)))
  cases hp:o.purple with
  | false=>
    refine CV (S6 hkl (GH rfl (by omega) ?_))
    have:=hR _ (n2 hc hp) (by simp only;exact mu1)
    simp only at this
    rw [←F4] at this
    exact this
  | true=>
    refine C7 (JJ (v:=I c) (i:=k) hkl (by decide) rfl (IU (HI (by omega) ?_)))
    have:=hR _ (n1 hc hp) (by simp only;exact mu1)
    simp only [hp] at this
    exact this
 ·refine V0 hc (F8 hc rfl (C7 (JJ (v:=I c) (i:=k) hkl (by decide) rfl (IU (IY (by omega) (GH rfl (by omega) (qI (i:=k) hkl (by decide) rfl ?_)))))))
  rw [OO hkl,AG]
  have hfl:o.field.length=3:=hobf.len
  rw [hfl]
  refine IX (α:=Nat×List Int×Nat) (fun q=>[iv (q.2.1.length-q.2.2),iv q.2.2,I id,iv (k*8),iv (k*8+6),iv 3,iv q.1]) (fun q=>[tI (freed++[id]),tI q.2.1,tR tO (os.set k {o with count:=c}),tI bf]) (fun q=>3-q.1) (fun q=>q.1≤3∧q.2.2≤q.2.1.length∧q.2.1.drop q.2.2=row.drop (off+1)++(o.field.take q.1).filter fun x=>decide (0≤x)) (0,row,off+1) ?_ ?_ ⟨by omega,hlt',by simp⟩ (fun R2 q hq2 hR2=> ?_)
  ·rfl
  ·simp only [F4]
  obtain ⟨i,rw',of'⟩:=q
  obtain ⟨hi3,hof',hdr⟩:=hq2
  simp only at hi3 hof' hdr
  have hrl:rw'.length-of'≤row.length-(off+1)+3:=by
   have e:=congrArg List.length hdr
   have:=List.length_filter_le (fun x=>decide (0≤x)) (o.field.take i)
   simp only [List.length_drop,List.length_append,List.length_take] at e this
   omega
  simp only [AJ,AO,AS,AN,AQ,AG,AK,AI,AR,AT,AU,AM,AL,AP,BP,BU,BW,BT,BV,BS,BQ,AY,A6,A7,A4,A5,A8]
  simp only [BA]
  refine BE (BB (fun hlt=> ?_) fun hge=> ?_)
  ·have hlt:i<o.field.length:=by omega
   have hfx:=hobf.fld _ (D6 hlt)
   refine DB ?_
   simp only [yH hkl,AG,mK]
   have ed:(rw'.drop of').take (rw'.length-of')=rw'.drop of':=by rw [←List.length_drop,List.take_length]
   rw [ed]
   have ea:tI (rw'.drop of')++[T.c (I (gI o.field i))]=tI (rw'.drop of'++[gI o.field i]):=F4 _ _
   refine BF hlt (xU hkl hlt ?_)
   simp only [BA]
   refine Q3 (BB (fun hp=> ?_) fun hp=> ?_)
   ·refine GH rfl (by omega) ?_
    have:=hR2 (i+1,rw'.drop of'++[gI o.field i],0) ⟨by simp only;omega,by simp only;omega,by simp only [List.drop_zero];rw [hdr,List.take_succ_eq_append_getElem hlt,List.filter_append, ←List.append_assoc,DE hlt];congr 1;simp [hp]⟩ (by simp only;omega)
    refine A9 (by omega) ?_
    rw [ea]
    simp only [AJ,AO,AS,AN,AQ,AG,AK,AI,AR,AT,AU,AM,AL,AP,BP,BU,BW,BT,BV,BS,BQ,AY,A6,A7,A4,A5,A8]
    simp only [BA]
    exact this
   ·have:=hR2 (i+1,rw',of') ⟨by simp only;omega,hof',by simp only;rw [hdr,List.take_succ_eq_append_getElem hlt,List.filter_append, ←List.append_assoc,DE hlt];simp;omega⟩ (by simp only;omega)
    refine A9 (by omega) ?_
    simp only [AJ,AO,AS,AN,AQ,AG,AK,AI,AR,AT,AU,AM,AL,AP,BP,BU,BW,BT,BV,BS,BQ,AY,A6,A7,A4,A5,A8]
    simp only [BA]
    exact this
  ·have:i=o.field.length:=by omega
   subst this
   rw [List.take_length] at hdr
   refine UC (by omega) (xX hkl (OK (wR hkl (z:=B7 o.gen) rfl ?_)))
   exact hR _ (n3 hc _ _ hdr hof') (by simp only;rw [hdr];simp only [mu,List.length_append,List.length_singleton] at mu1 ⊢;have:=List.length_filter_le (fun x=>decide (0≤x)) o.field;omega)
end Go.Proofs.Ytklmcfpgdfibnaa.P
namespace Go.Proofs.Ytklmcfpgdfibnaa.P
open Go Go.Proofs.Ytklmcfpgdfibnaa Go.Proofs.Ytklmcfpgdfibnaa.Eng
set_option maxHeartbeats 4000000
set_option linter.unusedVariables false
set_option linter.unusedSimpArgs false
attribute [local irreducible] prP gP gE gF AW ixW ldc ldg ldl stc stg scW mkW apW AZ cl2 BJ CH B2
variable {w0:World}
theorem wZ (o:Wk):tv (nxT (tW o) 0)= .bool o.used:=rfl
theorem s9 (o:AE):tv (nxT (tO o) 0)= .bool o.live:=rfl
theorem sV (o:AE):tv (nxT (tO o) 1)=I o.gen:=rfl
theorem xR (o:AE):tv (nxT (tO o) 5)=I o.count:=rfl
end Go.Proofs.Ytklmcfpgdfibnaa.P
namespace Go.Proofs.Ytklmcfpgdfibnaa.P
open Go Go.Proofs.Ytklmcfpgdfibnaa Go.Proofs.Ytklmcfpgdfibnaa.Eng
set_option linter.unusedVariables false
set_option maxHeartbeats 4000000
set_option linter.unusedVariables false
set_option linter.unusedSimpArgs false
attribute [local irreducible] prP gP gE gF AW ixW ldc ldg ldl stc stg scW mkW apW AZ cl2 BJ CH B2
variable {w0:World}
structure St (h:Hp):Prop where
 ol:h.AB.length=8
 wl:h.CB.length=8
 sl:h.sites.length≤6
 bl:h.buffer.length≤100
 of: ∀o∈h.AB,OF o
 ss: ∀s∈h.sites,(s.size:Int)≤1048576
 wf: ∀w∈h.CB,F64 w.target
 bf: ∀x∈h.buffer,F64 x
theorem St.fits {h:Hp} (s:St h):Fits h:=⟨by have:=s.ol;omega,fun o ho=>by have:=(s.of o ho).len;omega,by have:=s.wl;omega,by have:=s.bl;omega,by have:=s.sl;omega,s.ss⟩
def EO (os:List AE) (id:Int):List AE:=if AA os id<0 then os else os.set (AA os id).toNat {ob os (AA os id).toNat with count:=w64 ((ob os (AA os id).toNat).count+1)}
theorem SJ (os:List AE) (id:Int):(EO os id).length=os.length:=by unfold EO;split <;> simp
theorem oE {os:List AE} {id:Int} (h: ∀o∈os,OF o): ∀o∈EO os id,OF o:=by
 unfold EO
 split
 ·exact h
 ·have hk:=BH (l:=os) (id:=id) (by omega)
  have ho:=h _ (JY (l:=os) (i:=(AA os id).toNat) (by omega))
  exact QH h ⟨ho.gen,ho.len,ho.fld⟩
theorem N8 {os:List AE} {b c d:List T} {id:Int} {K:J2} (hid:F64 id) (hol:os.length=8) (h:K [] [tR tO (EO os id)]):cl2 ⟨Try.prog,w0⟩ 163 C0.sg [I id] [tR tO os,b,c,d] K:=by
 refine C0.cl2 ?_
 unfold C0.txt
 simp only [AJ,AO,AS,AN,AQ,AG,AK,AI,AR,AT,AU,AM,AL,AP,BP,BU,BW,BT,BV,BS,BQ,AY,A6,A7,A4,A5,A8]
 refine B5 hid (by omega) ?_
 simp only [AJ,AO,AS,AN,AQ,AG,AK,AI,AR,AT,AU,AM,AL,AP,BP,BU,BW,BT,BV,BS,BQ,AY,A6,A7,A4,A5,A8]
 unfold EO at h
 refine Q3 (BB (fun hs=> ?_) fun hs=> ?_)
 ·have hk:=BH (l:=os) (id:=id) (by omega)
  rw [if_neg (by omega)] at h
  obtain ⟨k,hkk⟩: ∃k,(AA os id).toNat=k:=⟨_,rfl⟩
  have hkI:AA os id=(k:Int):=by omega
  rw [hkk] at h
  rw [hkI]
  have hkl:k<os.length:=by omega
  rw [sS hkl]
  exact BF (by omega) (JJ (i:=k) hkl (by decide) rfl (KM (BF (by omega) (KR hkl h))))
 ·rw [if_pos (by omega)] at h;exact h
end Go.Proofs.Ytklmcfpgdfibnaa.P
