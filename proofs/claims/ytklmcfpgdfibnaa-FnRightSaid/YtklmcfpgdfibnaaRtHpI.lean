/- A part of the proof. -/
import Derived.Test.YtklmcfpgdfibnaaRtHpE
namespace Go.Proofs.Ytklmcfpgdfibnaa.P
open Go Go.Proofs.Ytklmcfpgdfibnaa Go.Proofs.Ytklmcfpgdfibnaa.Eng
set_option maxHeartbeats 4000000
set_option linter.unusedVariables false
set_option linter.unusedSimpArgs false
attribute [local irreducible] prP gP gE gF AX ixW ldc ldg ldl stc stg scW mkW apW BN cl2 BV EN CJ
variable {w0:World}
theorem QW {h:Hp} {K:J2} (hf:Fits h) (hn:RK h) (h1:B5 h→K [.bool true] []) (h2: ¬B5 h→K [.bool false] []):cl2 ⟨Try.prog,w0⟩ 82 FK.sg [] (trees h) K:=by
 have g1:=hf.ol;have g2:=hf.wl;have g3:=hf.sl;have g4:=hf.bl
 refine FK.cl2 ?_
 unfold FK.txt
 simp only [AH,AR,AN,AS,AJ,AD,AG,AP,AO,AK,AM,AL,AI,AQ,BD,BI,BH,BJ,BG,BF,BE,A5,AZ,A4,A6,A7,AY]
 refine CA (BK (BK (BK (J3 (fun ho=> ?_) fun ho=> ?_))))
 rotate_left
 ·refine C6 ho rfl (BK (BK (QV (QV (PX rfl (B2 (h2 fun hk=>ho (by have:=hk.ol;omega))))))))
 refine CA (C2 ho rfl (BK (BK (J3 (fun hw=> ?_) fun hw=> ?_))))
 rotate_left
 ·exact KY hw (C6 hw rfl (B2 (h2 fun hk=>hw (by have:=hk.wl;omega))))
 refine VE (by omega) (fun hs=> ?_) fun hs=> ?_
 rotate_left
 ·exact EY hw (B4 (C2 hw rfl (B2 (h2 fun hk=>hs hk.sites))))
 refine EY hw (B4 (C2 hw rfl (BU ?_)))
 have o8:h.AE.length=8:=by omega
 have w8:h.B1.length=8:=by omega
 refine BC (fun i=>[iv h.AE.length,iv i]) (fun _=>[]) h.AE.length (fun i=> ∀k,k<i→NO h k) rfl rfl (fun k hk=>by omega) (fun R i hi hP hR=> ?_)
 refine A8 (AW (fun hlt=> ?_) fun hge=> ?_)
 ·have hlt:i<h.AE.length:=by omega
  refine aD hf hn hlt (fun hk=>B4 (BU (BA (by omega) (hR hlt fun k hki=> ?_)))) fun hk=>B4 (B2 (h2 fun hh=>hk (hh.obj i (by omega))))
  rcases Nat.lt_succ_iff_lt_or_eq.1 hki with h4 | rfl
  ·exact hP k h4
  ·exact hk
 have hi8:i=8:=by omega
 subst hi8
 refine BC (fun i=>[iv h.B1.length,iv i]) (fun _=>[]) h.B1.length (fun i=> ∀k,k<i→((wk h.B1 k).used=false→(wk h.B1 k).target=0)∧((wk h.B1 k).used=true→8≤(wk h.B1 k).target∧(wk h.B1 k).target≤7999)) rfl rfl (fun k hk=>by omega) (fun R2 i hi hP2 hR2=> ?_)
 refine A8 (AW (fun hlt=> ?_) fun hge=> ?_)
 ·have hlt:i<h.B1.length:=by omega
  refine AT hlt (WH hlt ?_)
  have stepR:=fun hk=>hR2 hlt fun k hki=>(Nat.lt_succ_iff_lt_or_eq.1 hki).elim (hP2 k) fun he=>he ▸ hk
  cases hu:(wk h.B1 i).used with
  | false=>
    refine B4 ?_
    repeat' (first | refine BK ?_ | refine PH ?_ | refine VM ?_ | refine OW (by first | with_reducible assumption | omega) ?_ | refine TT (by first | with_reducible assumption | omega) ?_ | refine NU ?_ | refine KY (by first | with_reducible assumption | omega) ?_ | refine EY (by first | with_reducible assumption | omega) ?_ | refine pC (by with_reducible assumption) ?_ | refine kK (by with_reducible assumption) rfl ?_ | refine lB (by with_reducible assumption) rfl ?_ | refine C6 (by first | with_reducible assumption | omega) rfl ?_ | refine C2 (by first | with_reducible assumption | omega) rfl ?_ | refine TJ rfl ?_ | refine B2 ?_ | refine BU ?_ | refine CA ?_ | refine BA (by omega) ?_ | refine dF (fun _=> ?_) (fun _=> ?_) | refine oA (fun _=> ?_) (fun _=> ?_) | simp only [AH,AR,AN,AS,AJ,AD,AG,AP,AO,AK,AM,AL,AI,AQ,BD,BI,BH,BJ,BG,BF,BE,A5,AZ,A4,A6,A7,AY])
    all_goals first
     | (refine stepR ⟨fun _=> ?_,fun hh=>(by rw [hu] at hh;cases hh)⟩
        first
         | omega
         | (simp_all;done))
     | (refine h2 fun hk=> ?_
        have h4:=(hk.weak i (by omega)).1 hu
        first
         | omega
         | (simp_all;done))
  | true=>
    refine B4 ?_
    repeat' (first | refine GR ?_ | refine BK ?_ | refine PH ?_ | refine VM ?_ | refine OW (by first | with_reducible assumption | omega) ?_ | refine TT (by first | with_reducible assumption | omega) ?_ | refine NU ?_ | refine KY (by first | with_reducible assumption | omega) ?_ | refine EY (by first | with_reducible assumption | omega) ?_ | refine PB (by with_reducible assumption) ?_ | refine kK (by with_reducible assumption) rfl ?_ | refine lB (by with_reducible assumption) rfl ?_ | refine C6 (by first | with_reducible assumption | omega) rfl ?_ | refine C2 (by first | with_reducible assumption | omega) rfl ?_ | refine TJ rfl ?_ | refine B2 ?_ | refine C3 (by first | with_reducible assumption | omega) ?_ | refine CA ?_ | refine DK ?_ | refine BA (by omega) ?_ | refine AW (fun _=> ?_) (fun _=> ?_) | refine dF (fun _=> ?_) (fun _=> ?_) | refine oA (fun _=> ?_) (fun _=> ?_) | simp only [AH,AR,AN,AS,AJ,AD,AG,AP,AO,AK,AM,AL,AI,AQ,BD,BI,BH,BJ,BG,BF,BE,A5,AZ,A4,A6,A7,AY])
    all_goals first
     | (refine stepR ⟨fun hh=>(by rw [hu] at hh;cases hh),fun _=> ?_⟩
        first
         | omega
         | (simp_all;done))
     | (refine h2 fun hk=> ?_
        have h4:=(hk.weak i (by omega)).2 hu
        first
         | omega
         | (simp_all;done))
 have hi8:i=8:=by omega
 subst hi8
 refine BC (fun i=>[iv h.buffer.length,iv i]) (fun _=>[]) h.buffer.length (fun i=> ∀k,k<i→0≤AB h.AE (gI h.buffer k)∧gI h.buffer k∉h.buffer.take k) rfl rfl (fun k hk=>by omega) (fun R3 i hi hP3 hR3=> ?_)
 simp only [AH,AR,AN,AS,AJ,AD,AG,AP,AO,AK,AM,AL,AI,AQ,BD,BI,BH,BJ,BG,BF,BE,A5,AZ,A4,A6,A7,AY]
 refine A8 (AW (fun hlt=> ?_) fun hge=> ?_)
 ·have hlt:i<h.buffer.length:=by omega
  have e:GM (tI h.buffer) [] (AA (SQ (two (iv 0) (iv i)))*1) (AA (RY (two (iv 0) (iv i)))*1)=tI (h.buffer.take i):=by
   have h1:AA (SQ (two (iv 0) (iv i)))=0:=rfl
   have h2:AA (RY (two (iv 0) (iv i)))=i:=A9 i
   rw [h1,h2];simp [GM,node,tI,List.map_take]
  refine AT hlt (ldI hlt (CM (hn.bf i) (by omega) (A8 (BK (BK (BK (J3 (fun hb=> ?_) fun hb=> ?_)))))))
  ·refine aP (by omega) (BK (EY hb ?_))
   rw [e]
   refine Q8 (by simp;omega) (C2 hb rfl (AW (fun hm=>h2 fun hk=>(hk.buf i hlt).2 hm) fun hm=> ?_))
   refine BA (by omega) (hR3 hlt fun k hk=> ?_)
   rcases Nat.lt_succ_iff_lt_or_eq.1 hk with h3 | rfl
   ·exact hP3 k h3
   ·exact ⟨by omega,hm⟩
  ·exact BK (KY hb (C6 hb rfl (B2 (h2 fun hk=>by have:=(hk.buf i hlt).1;omega))))
 ·have hib:i=h.buffer.length:=by omega
  subst hib
  exact h1 ⟨o8,w8,hs,fun i hi=>hP i hi,fun i hi=>hP2 i hi,fun i hi=>hP3 i hi⟩
end Go.Proofs.Ytklmcfpgdfibnaa.P
namespace Go.Proofs.Ytklmcfpgdfibnaa.P
open Go Go.Proofs.Ytklmcfpgdfibnaa Go.Proofs.Ytklmcfpgdfibnaa.Eng
set_option linter.unusedVariables false
theorem rA {n:Nat} (hn:1≤n) {K:Value→Value→Prop} (h:K (iv 1) (iv (n-1))):scW n (some (.int .i64 1)) none K:=⟨1,n,rfl,rfl,hn,Nat.le_refl _,h⟩
set_option maxHeartbeats 4000000
set_option linter.unusedVariables false
set_option linter.unusedSimpArgs false
attribute [local irreducible] prP gP gE gF AX ixW ldc ldg ldl stc stg scW mkW apW BN cl2 BV EN CJ
variable {w0:World}
def PQ:List Int:=[-1, -1, -1]
def B7 (g:Int):AV:=⟨false,g,0,0,0,0,PQ,false⟩
def I2:Nat→List AV→List Int→List Int→List Int→List AV×List Int×List Int
 | 0,os,buf,freed,_=>(os,buf,freed)
 | f+1,os,buf,freed,todo=>match todo with
   | []=>(os,buf,freed)
   | id::todo=>if freed.length>8 then (os,buf,freed) else
     if AB os id<0 then I2 f os buf freed todo else
     if w64 ((ob os (AB os id).toNat).count-1)>0 then
      (if (ob os (AB os id).toNat).purple=true then I2 f (os.set (AB os id).toNat {ob os (AB os id).toNat with count:=w64 ((ob os (AB os id).toNat).count-1)}) buf freed todo
       else I2 f (os.set (AB os id).toNat {ob os (AB os id).toNat with count:=w64 ((ob os (AB os id).toNat).count-1),purple:=true}) (buf++[id]) freed todo)
     else I2 f (os.set (AB os id).toNat (B7 (ob os (AB os id).toNat).gen)) (buf.filter fun x=>decide (x≠id)) (freed++[id]) (todo++(ob os (AB os id).toNat).field.filter fun x=>decide (0≤x))
def mu (freed todo:List Int):Nat:=todo.length+4*(9-freed.length)
def FU (os:List AV) (buf ids:List Int):List AV×List Int×List Int:=I2 (ids.length+37) os buf [] ids
theorem BO {l:List AV} {id:Int} (h:0≤AB l id):l.length=8∧8≤id∧AB l id=id % 8∧(AB l id).toNat<8∧(ob l (AB l id).toNat).live=true∧(ob l (AB l id).toNat).gen=id/8:=by
 unfold AB at h ⊢
 split at h
 ·omega
 ·split at h
  ·rename_i h1 h2
   rw [if_neg h1,if_pos h2]
   exact ⟨by omega,by omega,rfl,by omega,h2.1,h2.2⟩
  ·omega
structure OF (o:AV):Prop where
 gen:F64 o.gen
 len:o.field.length=3
 fld: ∀f∈o.field,F64 f
theorem OF.free {g:Int} (h:F64 g):OF (B7 g):=⟨h,rfl,by simp [B7,PQ,F64]⟩
theorem KJ {l:List AV} {P:AV→Prop} {i:Nat} {o:AV} (h: ∀x∈l,P x) (ho:P o): ∀x∈l.set i o,P x:=fun x hx=>(List.mem_or_eq_of_mem_set hx).elim (h x) fun he=>he ▸ ho
structure LsI (R:List AV×List Int×List Int) (M:Nat) (q:List AV×List Int×List Int×List Int×Nat):Prop where
 ol:q.1.length=8
 of: ∀o∈q.1,OF o
 fr:q.2.2.1.length≤9
 off:q.2.2.2.2≤q.2.2.2.1.length
 td: ∀x∈q.2.2.2.1.drop q.2.2.2.2,F64 x
 sz:q.2.1.length+mu q.2.2.1 (q.2.2.2.1.drop q.2.2.2.2)≤M
 go: ∃f,mu q.2.2.1 (q.2.2.2.1.drop q.2.2.2.2)<f∧I2 f q.1 q.2.1 q.2.2.1 (q.2.2.2.1.drop q.2.2.2.2)=R
theorem W7 {l:List Int} {x:Int} {K:J2} (hl:(l.length:Int)≤2^40) (h:K [] [tI (l.filter fun y=>decide (y≠x))]):cl2 ⟨Try.prog,w0⟩ 172 F7.sg [I x] [tI l] K:=by
 refine F7.cl2 ?_
 unfold F7.txt
 simp only [AH,AR,AN,AS,AJ,AD,AG,AP,AO,AK,AM,AL,AI,AQ,BD,BI,BH,BJ,BG,BF,BE,A5,AZ,A4,A6,A7,AY]
 refine BC (fun i=>[I x,iv l.length,iv i]) (fun i=>[tI ((l.take i).filter fun y=>decide (y≠x))]) l.length (fun _=>True) rfl rfl trivial (fun R i hi _ hR=> ?_)
 have hln:=List.length_filter_le (fun y=>decide (y≠x)) (l.take i)
 have hlt2:(l.take i).length≤i:=by simp;omega
 simp only [AH,AR,AN,AS,AJ,AD,AG,AP,AO,AK,AM,AL,AI,AQ,BD,BI,BH,BJ,BG,BF,BE,A5,AZ,A4,A6,A7,AY]
 refine A8 (AW (fun hlt=> ?_) fun hge=> ?_)
 ·have hlt:i<l.length:=by omega
  replace hR:=hR hlt trivial
  rw [List.take_succ_eq_append_getElem hlt,List.filter_append,D4 hlt] at hR
  refine BQ (AT hlt (ldI hlt (CA (AW (fun he=> ?_) fun he=> ?_))))
  ·refine EJ rfl (by omega) (BA (by omega) ?_)
   have e:([gI l i].filter fun y=>decide (y≠x))=[gI l i]:=by simp [he]
   rw [e, ←EB] at hR;exact hR
  ·refine BA (by omega) ?_
   have e:([gI l i].filter fun y=>decide (y≠x))=[]:=by simp at he;simp [he]
   rw [e,List.append_nil] at hR;exact hR
 ·have:i=l.length:=by omega
  subst this
  rw [List.take_length];exact h
theorem TN {l:List Int} {x:Int} {K:J2} (hl:(l.length:Int)≤2^40) (h:K [] [tI (l.filter fun y=>decide (y≠x))]):cl2 ⟨Try.prog,w0⟩ 167 ED.sg [I x] [tI l] K:=by
 refine ED.cl2 ?_
 unfold ED.txt
 simp only [AH,AR,AN,AS,AJ,AD,AG,AP,AO,AK,AM,AL,AI,AQ,BD,BI,BH,BJ,BG,BF,BE,A5,AZ,A4,A6,A7,AY]
 refine BC (fun i=>[I x,iv i]) (fun i=>[tI ((l.take i).filter fun y=>decide (y≠x))]) l.length (fun _=>True) rfl rfl trivial (fun R i hi _ hR=> ?_)
 have hln:=List.length_filter_le (fun y=>decide (y≠x)) (l.take i)
 have hlt2:(l.take i).length≤i:=by simp;omega
 simp only [AH,AR,AN,AS,AJ,AD,AG,AP,AO,AK,AM,AL,AI,AQ,BD,BI,BH,BJ,BG,BF,BE,A5,AZ,A4,A6,A7,AY]
 refine A8 (AW (fun hlt=> ?_) fun hge=> ?_)
 ·have hlt:i<l.length:=by omega
  replace hR:=hR hlt trivial
  rw [List.take_succ_eq_append_getElem hlt,List.filter_append,D4 hlt] at hR
  refine BQ (AT hlt (ldI hlt (CA (AW (fun he=> ?_) fun he=> ?_))))
  ·refine AT hlt (ldI hlt (EJ rfl (by omega) (BA (by omega) ?_)))
   have e:([gI l i].filter fun y=>decide (y≠x))=[gI l i]:=by simp [he]
   rw [e, ←EB] at hR;exact hR
  ·refine BA (by omega) ?_
   have e:([gI l i].filter fun y=>decide (y≠x))=[]:=by simp at he;simp [he]
   rw [e,List.append_nil] at hR;exact hR
 ·have:i=l.length:=by omega
  subst this
  rw [List.take_length];exact h
theorem T1 {g:Value} {K:J2} (h:K [.bool false,g,I 0,I 0,I 0,I 0, .bool false] [tI PQ]):cl2 ⟨Try.prog,w0⟩ 99 H2.sg [g] [] K:=H2.cl2 h
theorem mH {l:List Int} {a:Nat} {K:Value→Prop} (ha:a<l.length) (h:K (I (gI l a))):ldc (tI l) [] (a+AA (iv 0)*1) K:=by
 have e:a+AA (iv 0)*1=AA (iv a)*1:=by rw [A9,A9];omega
 rw [e];exact ldI ha h
theorem drop_cons {l:List Int} {a:Nat} (ha:a<l.length):l.drop a=gI l a::l.drop (a+1):=by rw [List.drop_eq_getElem_cons ha,D4 ha]
theorem ZX {freed todo:List Int} {x:Int}:mu freed (x::todo)=mu freed todo+1:=by simp only [mu,List.length_cons];omega
theorem H9 {l:List AV} {i:Nat} (h:i<l.length):ob l i∈l:=by rw [←DF h];exact List.getElem_mem h
theorem fZ {l:List AV} {i:Nat} (h:i<l.length):tR tO l=tR tO (l.set i (ob l i)):=by rw [←DF h];exact oY h
theorem LsI.start {os:List AV} {buf ids:List Int} (hol:os.length=8) (hof: ∀o∈os,OF o) (hid: ∀x∈ids,F64 x):LsI (FU os buf ids) (buf.length+ids.length+36) (os,buf,[],ids,0):=
 ⟨hol,hof,Nat.zero_le _,Nat.zero_le _,by simpa using hid,by simp only [mu,List.drop_zero,List.length_nil];omega,ids.length+37,by simp only [mu,List.drop_zero,List.length_nil];omega,rfl⟩
section
variable {R:List AV×List Int×List Int} {M:Nat} {os:List AV} {buf freed row:List Int} {off:Nat}
theorem LsI.stop (h:LsI R M (os,buf,freed,row,off)) (hs:row.length≤off∨8<freed.length):R=(os,buf,freed):=by
 obtain ⟨_,_,_,_,_,_,f,hf,go⟩:=h
 simp only at hf go
 obtain ⟨f,rfl⟩: ∃f',f=f'+1:=⟨f-1,by omega⟩
 rcases hs with hs | hs
 ·rw [List.drop_of_length_le hs] at go
  rw [←go];rfl
 ·rw [←go]
  cases row.drop off with
  | nil=>rfl
  | cons x l=>simp only [I2,if_pos hs]
theorem LsI.step (h:LsI R M (os,buf,freed,row,off)) (hlt:off<row.length) (hfr:freed.length≤8):F64 (gI row off)∧ ∃f,mu freed (row.drop (off+1))<f∧I2 (f+1) os buf freed (gI row off::row.drop (off+1))=R∧buf.length+mu freed (row.drop (off+1))+1≤M∧ ∀x∈row.drop (off+1),F64 x:=by
 obtain ⟨_,_,_,_,td,sz,f,hf,go⟩:=h
 simp only at td sz hf go
 rw [drop_cons hlt] at td sz hf go
 rw [ZX] at sz hf
 obtain ⟨f,rfl⟩: ∃f',f=f'+1:=⟨f-1,by omega⟩
 exact ⟨td _ (by simp),f,by omega,go,by omega,fun x hx=>td x (by simp [hx])⟩
theorem LsI.skip (h:LsI R M (os,buf,freed,row,off)) (hlt:off<row.length) (hfr:freed.length≤8) (hs:AB os (gI row off)<0):LsI R M (os,buf,freed,row,off+1):=by
 obtain ⟨_,f,h1,h2,h3,h4⟩:=h.step hlt hfr
 rw [I2] at h2
 simp only at h2
 rw [if_neg (by omega),if_pos hs] at h2
 exact ⟨h.ol,h.of,h.fr,hlt,h4,by simp only;omega,f,h1,h2⟩
theorem LsI.JN (h:LsI R M (os,buf,freed,row,off)) (hlt:off<row.length) (hfr:freed.length≤8) (hs:0≤AB os (gI row off)) (hc:w64 ((ob os (AB os (gI row off)).toNat).count-1)>0) (hp:(ob os (AB os (gI row off)).toNat).purple=true):
  LsI R M (os.set (AB os (gI row off)).toNat {ob os (AB os (gI row off)).toNat with count:=w64 ((ob os (AB os (gI row off)).toNat).count-1)},buf,freed,row,off+1):=by
 obtain ⟨_,f,h1,h2,h3,h4⟩:=h.step hlt hfr
 have hk:=BO hs
 have ho:=h.of _ (H9 (l:=os) (i:=(AB os (gI row off)).toNat) (by omega))
 rw [I2] at h2
 simp only at h2
 rw [if_neg (by omega),if_neg (by omega),if_pos hc,if_pos hp] at h2
 exact ⟨by simp only [List.length_set];exact h.ol,KJ h.of ⟨ho.gen,ho.len,ho.fld⟩,h.fr,hlt,h4,by simp only;omega,f,h1,h2⟩
theorem LsI.put (h:LsI R M (os,buf,freed,row,off)) (hlt:off<row.length) (hfr:freed.length≤8) (hs:0≤AB os (gI row off)) (hc:w64 ((ob os (AB os (gI row off)).toNat).count-1)>0) (hp:(ob os (AB os (gI row off)).toNat).purple=false):
  LsI R M (os.set (AB os (gI row off)).toNat {ob os (AB os (gI row off)).toNat with count:=w64 ((ob os (AB os (gI row off)).toNat).count-1),purple:=true},buf++[gI row off],freed,row,off+1):=by
 obtain ⟨_,f,h1,h2,h3,h4⟩:=h.step hlt hfr
 have hk:=BO hs
 have ho:=h.of _ (H9 (l:=os) (i:=(AB os (gI row off)).toNat) (by omega))
 rw [I2] at h2
 simp only at h2
 rw [if_neg (by omega),if_neg (by omega),if_pos hc,if_neg (by rw [hp];decide)] at h2
 exact ⟨by simp only [List.length_set];exact h.ol,KJ h.of ⟨ho.gen,ho.len,ho.fld⟩,h.fr,hlt,h4,by simp only [List.length_append,List.length_singleton];omega,f,h1,h2⟩
theorem LsI.free (h:LsI R M (os,buf,freed,row,off)) (hlt:off<row.length) (hfr:freed.length≤8) (hs:0≤AB os (gI row off)) (hc: ¬w64 ((ob os (AB os (gI row off)).toNat).count-1)>0) {row':List Int} {off':Nat} (hrow:row'.drop off'=row.drop (off+1)++(ob os (AB os (gI row off)).toNat).field.filter fun x=>decide (0≤x)) (hle:off'≤row'.length):
  LsI R M (os.set (AB os (gI row off)).toNat (B7 (ob os (AB os (gI row off)).toNat).gen),buf.filter fun x=>decide (x≠gI row off),freed++[gI row off],row',off'):=by
 obtain ⟨_,f,h1,h2,h3,h4⟩:=h.step hlt hfr
 have hk:=BO hs
 have ho:=h.of _ (H9 (l:=os) (i:=(AB os (gI row off)).toNat) (by omega))
 have hfl:=List.length_filter_le (fun x=>decide (0≤x)) (ob os (AB os (gI row off)).toNat).field
 have hbl:=List.length_filter_le (fun x=>decide (x≠gI row off)) buf
 rw [ho.len] at hfl
 rw [I2] at h2
 simp only at h2
 rw [if_neg (by omega),if_neg (by omega),if_neg hc] at h2
 have hmu:mu (freed++[gI row off]) (row'.drop off')≤mu freed (row.drop (off+1)):=by
  rw [hrow];simp only [mu,List.length_append,List.length_singleton];omega
 refine ⟨by simp only [List.length_set];exact h.ol,KJ h.of (OF.free ho.gen),by simp only [List.length_append,List.length_singleton];omega,hle,fun x hx=> ?_,by simp only;omega,f,by simp only;omega,by rw [←h2,hrow]⟩
 simp only at hx
 rw [hrow] at hx
 rcases List.mem_append.1 hx with hx | hx
 ·exact h4 x hx
 ·exact ho.fld x (List.mem_filter.1 hx).1
end
section
variable {cur:List AV} {k:Nat} {y:AV}
theorem fR (hk:k<cur.length):GL (tR tO (cur.set k y)) [k*8+6]=tI y.field:=by have:=O8 (y:=y) hk;rwa [A9] at this
theorem lP {i:Nat} {K:Value→Prop} (hk:k<cur.length) (hi:i<y.field.length) (h:K (I (gI y.field i))):ldc (tR tO (cur.set k y)) [k*8+6] i K:=by
 have:=MB (l:=cur.set k y) (i:=k) (j:=i) (K:=K) (by simpa using hk) (by rw [←DF (by simpa using hk),List.getElem_set_self];exact hi) (by rw [←DF (by simpa using hk),List.getElem_set_self];exact h)
 simpa only [A9,Nat.mul_one] using this
theorem rC {K:Value→Prop} (hk:k<cur.length) (h:K (I y.gen)):ldc (tR tO (cur.set k y)) [] (k*8+1) K:=by
 have:=H7 (f:=tO) (K:=K) (c:=1) (y:=y) hk (by decide) rfl h
 rwa [A9] at this
theorem rJ {ts:List T} {z:AV} {K:List T→Prop} (hk:k<cur.length) (hy:ts=tO z) (h:K (tR tO (cur.set k z))):stg (tR tO (cur.set k y)) [] (k*8) ts K:=by
 have:=LD (f:=tO) (l:=cur.set k y) (K:=K) (by simpa using hk) hy (by rw [List.set_set];exact h)
 rwa [A9] at this
theorem PF (l:List Int) (a m:Nat):GM (tI l) [] a m=tI ((l.drop a).take m):=by simp [GM,node,tI,List.map_drop,List.map_take]
end
theorem PA {os:List AV} {buf ids:List Int} {b d:List T} {K:J2} (hol:os.length=8) (hof: ∀o∈os,OF o) (hb:buf.length≤2^30) (hi:ids.length≤2^30) (hid: ∀x∈ids,F64 x) (h:K [] [tI (FU os buf ids).2.2,tR tO (FU os buf ids).1,tI (FU os buf ids).2.1]):cl2 ⟨Try.prog,w0⟩ 164 DD.sg [] [tR tO os,b,tI buf,d,tI ids] K:=by
 refine DD.cl2 ?_
 unfold DD.txt
 refine HW (by omega) ?_
 obtain ⟨R,hR0⟩: ∃R,FU os buf ids=R:=⟨_,rfl⟩
 have st:=LsI.start (buf:=buf) hol hof hid
 rw [hR0] at st h
 simp only [AH,AR,AN,AS,AJ,AD,AG,AP,AO,AK,AM,AL,AI,AQ,BD,BI,BH,BJ,BG,BF,BE,A5,AZ,A4,A6,A7,AY]
 refine FP (α:=List AV×List Int×List Int×List Int×Nat) (fun q=>[iv (q.2.2.2.1.length-q.2.2.2.2),iv q.2.2.2.2]) (fun q=>[tI q.2.2.1,tI q.2.2.2.1,tR tO q.1,tI q.2.1]) (fun q=>mu q.2.2.1 (q.2.2.2.1.drop q.2.2.2.2)) (LsI R (buf.length+ids.length+36)) (os,buf,[],ids,0) rfl rfl st (fun Rr q hq hR=> ?_)
 obtain ⟨os,bf,freed,row,off⟩:=q
 have hq':LsI R (buf.length+ids.length+36) (os,bf,freed,row,off):=hq
 obtain ⟨ol,of,fr,ofl,td,sz,_⟩:=id hq'
 simp only at ol of fr ofl td sz
 have hmz:mu freed (row.drop off)=(row.length-off)+4*(9-freed.length):=by simp [mu]
 simp only [AH,AR,AN,AS,AJ,AD,AG,AP,AO,AK,AM,AL,AI,AQ,BD,BI,BH,BJ,BG,BF,BE,A5,AZ,A4,A6,A7,AY]
 simp only [A9]
 refine I7 (BK (BK (I4 (fun hlt=> ?_) fun hge=> ?_)))
 rotate_left
 ·refine C2 hge rfl (BU ?_)
  have:=hq'.stop (.inl (by
   have: ¬(((row.length-off:Nat):Int)>0):=hge
   omega))
  rw [this] at h;exact h
 have hlt':off<row.length:=by
  have:((row.length-off:Nat):Int)>0:=hlt
  omega
 refine GY (C6 hlt rfl (AW (fun h8=> ?_) fun h8=> ?_))
 rotate_left
 ·have:=hq'.stop (.inr (by omega))
  rw [this] at h;exact h
 have h8':freed.length≤8:=by omega
 obtain ⟨hidf,_⟩:=hq'.step hlt' h8'
 refine AT (j:=0) (by omega) (mH hlt' (rA (by omega) (CM hidf (by omega) ?_)))
 have e1:off+AA (iv 1)*1=off+1:=by rw [A9]
 have e2:row.length-off-1=row.length-(off+1):=by omega
 simp only [A9,e2,Nat.mul_one,BD]
 have mu1:mu freed (row.drop (off+1))<mu freed (row.drop off):=by rw [drop_cons hlt',ZX];omega
 refine A8 (AW (fun hs=>hR (os,bf,freed,row,off+1) (hq'.skip hlt' h8' hs) mu1) fun hs=> ?_)
 have hs':0≤AB os (gI row off):=by omega
 have hk:=BO hs'
 have n1:=hq'.JN hlt' h8' hs'
 have n2:=hq'.put hlt' h8' hs'
 have n3:=fun hc row' off'=>hq'.free hlt' h8' hs' hc (row':=row') (off':=off')
 have hobf:=of _ (H9 (l:=os) (i:=(AB os (gI row off)).toNat) (by omega))
 generalize hgid:gI row off=id at*
 obtain ⟨k,hkk⟩: ∃k,(AB os id).toNat=k:=⟨_,rfl⟩
 have hkI:AB os id=(k:Int):=by omega
 rw [hkk] at hk n1 n2 n3 hobf
 rw [hkI]
 have hkl:k<os.length:=by omega
 rw [fZ hkl]
 generalize ho:ob os k=o at*
 refine AT (by omega) (H7 (i:=k) hkl (by decide) rfl (VC (HD hkl ?_)))
 generalize hcc:w64 (o.count-1)=c at*
 refine H7 (v:=I c) (i:=k) hkl (by decide) rfl ?_
 refine I7 (BK (BK (BK (I4 (fun hc=> ?_) fun hc=> ?_))))
 ·refine H7 (v:= .bool o.purple) (i:=k) hkl (by decide) rfl (H8 hc (B4 (C6 hc rfl ?_)))
  cases hp:o.purple with
  | false=>
    refine B2 (OO hkl (EJ rfl (by omega) ?_))
    have:=hR _ (n2 hc hp) (by simp only;exact mu1)
    simp only at this
    rw [←EB] at this
    exact this
  | true=>
    refine BU (H7 (v:=I c) (i:=k) hkl (by decide) rfl (GY (DM (by omega) ?_)))
    have:=hR _ (n1 hc hp) (by simp only;exact mu1)
    simp only [hp] at this
    exact this
 ·refine ML hc (C2 hc rfl (BU (H7 (v:=I c) (i:=k) hkl (by decide) rfl (GY (C3 (by omega) (EJ rfl (by omega) (UP (i:=k) hkl (by decide) rfl ?_)))))))
  rw [O8 hkl,AD]
  have hfl:o.field.length=3:=hobf.len
  rw [hfl]
  refine FP (α:=Nat×List Int×Nat) (fun q=>[iv (q.2.1.length-q.2.2),iv q.2.2,I id,iv (k*8),iv (k*8+6),iv 3,iv q.1]) (fun q=>[tI (freed++[id]),tI q.2.1,tR tO (os.set k {o with count:=c}),tI bf]) (fun q=>3-q.1) (fun q=>q.1≤3∧q.2.2≤q.2.1.length∧q.2.1.drop q.2.2=row.drop (off+1)++(o.field.take q.1).filter fun x=>decide (0≤x)) (0,row,off+1) ?_ ?_ ⟨by omega,hlt',by simp⟩ (fun R2 q hq2 hR2=> ?_)
  ·rfl
  ·simp only [EB]
  obtain ⟨i,rw',of'⟩:=q
  obtain ⟨hi3,hof',hdr⟩:=hq2
  simp only at hi3 hof' hdr
  have hrl:rw'.length-of'≤row.length-(off+1)+3:=by
   have e:=congrArg List.length hdr
   have:=List.length_filter_le (fun x=>decide (0≤x)) (o.field.take i)
   simp only [List.length_drop,List.length_append,List.length_take] at e this
   omega
  simp only [AH,AR,AN,AS,AJ,AD,AG,AP,AO,AK,AM,AL,AI,AQ,BD,BI,BH,BJ,BG,BF,BE,A5,AZ,A4,A6,A7,AY]
  simp only [A9]
  refine A8 (AW (fun hlt=> ?_) fun hge=> ?_)
  ·have hlt:i<o.field.length:=by omega
   have hfx:=hobf.fld _ (DW hlt)
   refine BQ ?_
   simp only [fR hkl,AD,PF]
   have ed:(rw'.drop of').take (rw'.length-of')=rw'.drop of':=by rw [←List.length_drop,List.take_length]
   rw [ed]
   have ea:tI (rw'.drop of')++[T.c (I (gI o.field i))]=tI (rw'.drop of'++[gI o.field i]):=EB _ _
   refine AT hlt (lP hkl hlt ?_)
   simp only [A9]
   refine LG (AW (fun hp=> ?_) fun hp=> ?_)
   ·refine EJ rfl (by omega) ?_
    have:=hR2 (i+1,rw'.drop of'++[gI o.field i],0) ⟨by simp only;omega,by simp only;omega,by simp only [List.drop_zero];rw [hdr,List.take_succ_eq_append_getElem hlt,List.filter_append, ←List.append_assoc,D4 hlt];congr 1;simp [hp]⟩ (by simp only;omega)
    refine BA (by omega) ?_
    rw [ea]
    simp only [AH,AR,AN,AS,AJ,AD,AG,AP,AO,AK,AM,AL,AI,AQ,BD,BI,BH,BJ,BG,BF,BE,A5,AZ,A4,A6,A7,AY]
    simp only [A9]
    exact this
   ·have:=hR2 (i+1,rw',of') ⟨by simp only;omega,hof',by simp only;rw [hdr,List.take_succ_eq_append_getElem hlt,List.filter_append, ←List.append_assoc,D4 hlt];simp;omega⟩ (by simp only;omega)
    refine BA (by omega) ?_
    simp only [AH,AR,AN,AS,AJ,AD,AG,AP,AO,AK,AM,AL,AI,AQ,BD,BI,BH,BJ,BG,BF,BE,A5,AZ,A4,A6,A7,AY]
    simp only [A9]
    exact this
  ·have:i=o.field.length:=by omega
   subst this
   rw [List.take_length] at hdr
   refine W7 (by omega) (rC hkl (T1 (rJ hkl (z:=B7 o.gen) rfl ?_)))
   exact hR _ (n3 hc _ _ hdr hof') (by simp only;rw [hdr];simp only [mu,List.length_append,List.length_singleton] at mu1 ⊢;have:=List.length_filter_le (fun x=>decide (0≤x)) o.field;omega)
end Go.Proofs.Ytklmcfpgdfibnaa.P
namespace Go.Proofs.Ytklmcfpgdfibnaa.P
open Go Go.Proofs.Ytklmcfpgdfibnaa Go.Proofs.Ytklmcfpgdfibnaa.Eng
set_option maxHeartbeats 4000000
set_option linter.unusedVariables false
set_option linter.unusedSimpArgs false
attribute [local irreducible] prP gP gE gF AX ixW ldc ldg ldl stc stg scW mkW apW BN cl2 BV EN CJ
variable {w0:World}
theorem rS (a b c d e f g h:Value) (l:List Value):nx (a::b::c::d::e::f::g::h::l) 7=h:=rfl
theorem sL (a b c d e f g h i:Value) (l:List Value):nx (a::b::c::d::e::f::g::h::i::l) 8=i:=rfl
theorem tH (a b c d e f g h i j:Value) (l:List Value):nx (a::b::c::d::e::f::g::h::i::j::l) 9=j:=rfl
theorem lO (o:Wk):tv (nxT (tW o) 0)= .bool o.used:=rfl
theorem rM (o:Wk):tv (nxT (tW o) 1)=I o.target:=rfl
theorem X6 (o:AV):tv (nxT (tO o) 0)= .bool o.live:=rfl
theorem YX (o:AV):tv (nxT (tO o) 1)=I o.gen:=rfl
theorem fW (o:AV):tv (nxT (tO o) 2)=I o.site:=rfl
theorem gD (o:AV):tv (nxT (tO o) 3)=I o.holds:=rfl
theorem fV (o:AV):tv (nxT (tO o) 4)=I o.roots:=rfl
theorem bC (o:AV):tv (nxT (tO o) 5)=I o.count:=rfl
theorem kX (o:AV):tv (nxT (tO o) 7)= .bool o.purple:=rfl
theorem Q7 {h:Hp} {K:J2} (hf:Fits h) (hn:RK h) (h1:B5 h→K [.bool true] []) (h2: ¬B5 h→K [.bool false] []):cl2 ⟨Try.prog,w0⟩ 19 FQ.sg [] (trees h) K:=by
 have g1:=hf.ol;have g2:=hf.wl;have g3:=hf.sl;have g4:=hf.bl
 refine FQ.cl2 ?_
 unfold FQ.txt
 simp only [AH,AR,AN,AS,AJ,AD,AG,AP,AO,AK,AM,AL,AI,AQ,BD,BI,BH,BJ,BG,BF,BE,A5,AZ,A4,A6,A7,AY]
 refine CA (BK (BK (BK (J3 (fun ho=> ?_) fun ho=> ?_))))
 rotate_left
 ·refine C6 ho rfl (BK (BK (BK (QV (PX rfl (B2 (h2 fun hk=>ho (by have:=hk.ol;omega))))))))
 refine CA (C2 ho rfl (BK (BK (BK (J3 (fun hw=> ?_) fun hw=> ?_)))))
 rotate_left
 ·exact C6 hw rfl (B2 (h2 fun hk=>hw (by have:=hk.wl;omega)))
 refine I7 (C2 hw rfl (AW (fun h6=>h2 fun hk=>(by have:=hk.sites.len;omega)) fun h6=> ?_))
 have o8:h.AE.length=8:=by omega
 have w8:h.B1.length=8:=by omega
 refine BC (fun i=>[iv i]) (fun _=>[]) h.AE.length (fun i=> ∀k,k<i→NO h k) rfl rfl (fun k hk=>by omega) (fun R i hi hP hR=> ?_)
 simp only [AH,AR,AN,AS,AJ,AD,AG,AP,AO,AK,AM,AL,AI,AQ,BD,BI,BH,BJ,BG,BF,BE,A5,AZ,A4,A6,A7,AY]
 refine A8 (AW (fun hlt=> ?_) fun hge=> ?_)
 ·have hi:i<h.AE.length:=by omega
  refine BQ ?_
  have stepR:NO h i→R [iv (i+1)] []:=fun hk=>hR hi fun k hki=>(Nat.lt_succ_iff_lt_or_eq.1 hki).elim (hP k) fun he=>he ▸ hk
  have no: ¬NO h i→K [.bool false] []:=fun hk=>h2 fun hh=>hk (hh.obj i (by omega))
  clear hR h1 h2
  have hfo:=ZH hf.of i
  have hnum:=hn.ob i
  obtain ⟨⟨n1,n2⟩,⟨n3,n4⟩,⟨n7,n8⟩,⟨n9,n10⟩,⟨n5,n6⟩,_⟩:=hnum
  have hib:=eO hf.ol hf.of i
  refine AT hi (KN hi ?_)
  rw [GO hi,AD]
  refine D9 (DK (BK (BK (BK (J3 (fun hg=> ?_) fun hg=> ?_)))))
  rotate_left
  ·exact C6 hg rfl (B2 (no fun hk=>hg hk.gen))
  refine CA (C2 hg rfl (AW (fun h3=>no fun hk=>by have:=hk.len;omega) fun h3=> ?_))
  have hl3:(ob h.AE i).field.length=3:=by omega
  have hg:0≤(ob h.AE i).gen∧(ob h.AE i).gen≤999:=Decidable.not_not.1 hg
  simp only [X6,YX,fW,gD,fV,bC,kX]
  cases hv:(ob h.AE i).live with
  | false=>
    have dd:NO h i→(ob h.AE i).site=0∧(ob h.AE i).holds=0∧(ob h.AE i).roots=0∧(ob h.AE i).count=0∧(ob h.AE i).purple=false:=fun hk=>hk.dead hv
    refine B4 (B2 ?_)
    cases hpu:(ob h.AE i).purple
    ·repeat' (first | refine BK ?_ | refine QV ?_ | refine C6 (by first | with_reducible assumption | omega) rfl ?_ | refine C2 (by first | with_reducible assumption | omega) rfl ?_ | refine PX rfl ?_ | refine B2 ?_ | refine BU ?_ | refine CA ?_ | refine rP rfl rfl (fun _=> ?_) (fun _=> ?_) | refine J3 (fun _=> ?_) (fun _=> ?_) | simp only [AH,AR,AN,AS,AJ,AD,AG,AP,AO,AK,AM,AL,AI,AQ,BD,BI,BH,BJ,BG,BF,BE,A5,AZ,A4,A6,A7,AY])
     all_goals try exact no fun hk=>by have:=dd hk;omega
     have mk:(∀j,j<3→gI (ob h.AE i).field j= -1)→NO h i:=fun ha=>⟨hg,hl3,fun j hj hne=>absurd (ha j hj) hne,fun _=>⟨by omega,by omega,by omega,by omega,hpu⟩,fun hh=>by rw [hv] at hh;cases hh⟩
     refine BC (fun j=>[iv i,iv j, .bool false,I (ob h.AE i).gen,I (ob h.AE i).site,I (ob h.AE i).holds,I (ob h.AE i).roots,I (ob h.AE i).count,iv (AA (iv i)*8+6), .bool false]) (fun _=>[]) 3 (fun j=> ∀k,k<j→gI (ob h.AE i).field k= -1) rfl rfl (fun k hk=>by omega) (fun R2 j hj hP2 hR2=> ?_)
     simp only [AH,AR,AN,AS,AJ,AD,AG,AP,AO,AK,AM,AL,AI,AQ,BD,BI,BH,BJ,BG,BF,BE,A5,AZ,A4,A6,A7,AY]
     simp only [BE,rS,sL,tH]
     rw [A9 (AA (iv i)*8+6),GO hi,AD,hl3]
     refine A8 (AW (fun hlt=> ?_) fun hge=> ?_)
     ·have hlt:j<3:=by omega
      refine AT hlt (MB hi (by omega) (CA (AW (fun hne=> ?_) fun hne=> ?_)))
      ·exact no fun hk=>by have:=(hk.lead j hlt hne).1;rw [hv] at this;cases this
      ·refine BA (by omega) (hR2 hlt fun k hk=> ?_)
       rcases Nat.lt_succ_iff_lt_or_eq.1 hk with h4 | rfl
       ·exact hP2 k h4
       ·omega
     ·have hj3:j=3:=by omega
      subst hj3
      exact BA (by omega) (stepR (mk hP2))
    ·repeat' (first | refine BK ?_ | refine QV ?_ | refine C6 (by first | with_reducible assumption | omega) rfl ?_ | refine C2 (by first | with_reducible assumption | omega) rfl ?_ | refine PX rfl ?_ | refine B2 ?_ | refine CA ?_ | refine rP rfl rfl (fun _=> ?_) (fun _=> ?_) | refine J3 (fun _=> ?_) (fun _=> ?_))
     all_goals exact no fun hk=>by have:=(dd hk).2.2.2.2;rw [hpu] at this;cases this
  | true=>
    have ll:=fun hk:NO h i=>hk.lv hv
    refine B4 (BU ?_)
    by_cases hz:1≤(ob h.AE i).gen∧(0≤(ob h.AE i).site∧(ob h.AE i).site≤(h.sites.length:Int)-1)∧(0≤(ob h.AE i).holds∧(ob h.AE i).holds≤20)∧(0≤(ob h.AE i).roots∧(ob h.AE i).roots≤20)
    ·obtain ⟨z1,z2,z3,z4⟩:=hz
     repeat' (first | refine D9 ?_ | refine BK ?_ | refine EY (by first | with_reducible assumption | omega) ?_ | refine C2 (by first | with_reducible assumption | omega) rfl ?_ | refine DM (by first | with_reducible assumption | omega) ?_ | refine A8 ?_ | refine DK ?_ | refine H6 ⟨by omega,by omega⟩ ?_ | simp only [AH,AR,AN,AS,AJ,AD,AG,AP,AO,AK,AM,AL,AI,AQ,BD,BI,BH,BJ,BG,BF,BE,A5,AZ,A4,A6,A7,AY])
     all_goals try (exfalso;omega)
     refine BC (fun j=>[iv i,iv j, .bool true,I (ob h.AE i).gen,I (ob h.AE i).site,I (ob h.AE i).holds,I (ob h.AE i).roots,I (ob h.AE i).count,iv (AA (iv i)*8+6), .bool (ob h.AE i).purple]) (fun _=>[]) 3 (fun j=> ∀k,k<j→gI (ob h.AE i).field k≠ -1→(ob h.AE i).live=true∧0≤AB h.AE (gI (ob h.AE i).field k)) rfl rfl (fun k hk=>by omega) (fun R2 j hj hP2 hR2=> ?_)
     simp only [AH,AR,AN,AS,AJ,AD,AG,AP,AO,AK,AM,AL,AI,AQ,BD,BI,BH,BJ,BG,BF,BE,A5,AZ,A4,A6,A7,AY]
     simp only [BE,rS,sL,tH]
     rw [A9 (AA (iv i)*8+6),GO hi,AD,hl3]
     refine A8 (AW (fun hlt=> ?_) fun hge=> ?_)
     ·have hlt:j<3:=by omega
      refine AT hlt (MB hi (by omega) ?_)
      repeat' (first | refine CL (hn.fld i j) (by omega) ?_ | refine BK ?_ | refine H8 (by first | with_reducible assumption | omega) ?_ | refine ML (by first | with_reducible assumption | omega) ?_ | refine C6 (by first | with_reducible assumption | omega) rfl ?_ | refine C2 (by first | with_reducible assumption | omega) rfl ?_ | refine BU ?_ | refine A8 ?_ | refine CA ?_ | refine BA (by omega) ?_ | refine AT (by omega) ?_ | refine MB (by omega) (by omega) ?_ | refine AW (fun _=> ?_) (fun _=> ?_) | refine I4 (fun _=> ?_) (fun _=> ?_))
      all_goals first
       | (refine hR2 hlt fun k hk hne=> ?_
          rcases Nat.lt_succ_iff_lt_or_eq.1 hk with h4 | rfl
          ·exact hP2 k h4 hne
          ·first
           | exact absurd hne (by assumption)
           | exact ⟨hv,by omega⟩)
       | (refine no fun hk=> ?_
          have h4:=hk.lead j hlt (by assumption)
          omega)
     ·have hj3:j=3:=by omega
      subst hj3
      have fin:(ob h.AE i).count=(ob h.AE i).holds+(ob h.AE i).roots+inE h.AE i→1≤(ob h.AE i).count→(ob h.AE i).purple=decide (CE i (ob h.AE i).gen∈h.buffer)→NO h i:=fun e f hp=>⟨hg,hl3,hP2,fun hh=>(by rw [hv] at hh;cases hh),fun _=>⟨z1,z2,z3,z4,e,f,hp⟩⟩
      refine DT ⟨by omega,by omega⟩ (PG ⟨by omega,by omega⟩ (by omega) hf.of (DT ⟨by omega,by omega⟩ ?_))
      repeat' (first | refine IC ?_ | refine OG (by omega) ?_ | refine BK ?_ | refine QV ?_ | refine KY (by first | with_reducible assumption | omega) ?_ | refine EY (by first | with_reducible assumption | omega) ?_ | refine C6 (by first | with_reducible assumption | omega) rfl ?_ | refine C2 (by first | with_reducible assumption | omega) rfl ?_ | refine PX rfl ?_ | refine B2 ?_ | refine A8 ?_ | refine CA ?_ | refine DK ?_ | refine BA (by omega) ?_ | refine AW (fun _=> ?_) (fun _=> ?_) | refine J3 (fun _=> ?_) (fun _=> ?_))
      all_goals first
       | (refine no fun hk=> ?_
          have h4:=ll hk
          omega)
       | exact stepR (fin (by omega) (by omega) (Decidable.not_not.1 (by assumption)))
       | exact no fun hk=>absurd (ll hk).2.2.2.2.2.2 (by assumption)
    ·repeat' (first | refine D9 ?_ | refine BK ?_ | refine QV ?_ | refine KY (by first | with_reducible assumption | omega) ?_ | refine EY (by first | with_reducible assumption | omega) ?_ | refine C6 (by first | with_reducible assumption | omega) rfl ?_ | refine C2 (by first | with_reducible assumption | omega) rfl ?_ | refine PX rfl ?_ | refine B2 ?_ | refine C3 (by first | with_reducible assumption | omega) ?_ | refine A8 ?_ | refine DK ?_ | refine H6 ⟨by omega,by omega⟩ ?_ | refine J3 (fun _=> ?_) (fun _=> ?_))
     all_goals first
      | (refine no fun hk=>hz ?_
         have:=ll hk
         exact ⟨this.1,this.2.1,this.2.2.1,this.2.2.2.1⟩)
      | (exfalso;omega)
 have hi8:i=8:=by omega
 subst hi8
 refine BC (fun i=>[iv i]) (fun _=>[]) h.B1.length (fun i=> ∀k,k<i→((wk h.B1 k).used=false→(wk h.B1 k).target=0)∧((wk h.B1 k).used=true→8≤(wk h.B1 k).target∧(wk h.B1 k).target≤7999)) rfl rfl (fun k hk=>by omega) (fun R2 i hi hP2 hR2=> ?_)
 simp only [AH,AR,AN,AS,AJ,AD,AG,AP,AO,AK,AM,AL,AI,AQ,BD,BI,BH,BJ,BG,BF,BE,A5,AZ,A4,A6,A7,AY]
 refine A8 (AW (fun hlt=> ?_) fun hge=> ?_)
 ·have hlt:i<h.B1.length:=by omega
  refine AT hlt (WH hlt ?_)
  have stepR:=fun hk=>hR2 hlt fun k hki=>(Nat.lt_succ_iff_lt_or_eq.1 hki).elim (hP2 k) fun he=>he ▸ hk
  simp only [lO,rM]
  cases hu:(wk h.B1 i).used with
  | false=>
    refine B4 ?_
    repeat' (first | refine BK ?_ | refine PH ?_ | refine OW (by first | with_reducible assumption | omega) ?_ | refine TT (by first | with_reducible assumption | omega) ?_ | refine IZ ?_ | refine JZ ?_ | refine KY (by first | with_reducible assumption | omega) ?_ | refine EY (by first | with_reducible assumption | omega) ?_ | refine C6 (by first | with_reducible assumption | omega) rfl ?_ | refine C2 (by first | with_reducible assumption | omega) rfl ?_ | refine PX rfl ?_ | refine TJ rfl ?_ | refine B2 ?_ | refine BU ?_ | refine CA ?_ | refine BA (by omega) ?_ | refine dF (fun _=> ?_) (fun _=> ?_))
    all_goals first
     | (refine stepR ⟨fun _=> ?_,fun hh=>(by rw [hu] at hh;cases hh)⟩
        first
         | omega
         | (simp_all;done))
     | (refine h2 fun hk=> ?_
        have h4:=(hk.weak i (by omega)).1 hu
        first
         | omega
         | (simp_all;done))
  | true=>
    refine B4 ?_
    repeat' (first | refine D9 ?_ | refine BK ?_ | refine PH ?_ | refine VM ?_ | refine IZ ?_ | refine NU ?_ | refine JZ ?_ | refine PX rfl ?_ | refine TJ rfl ?_ | refine DK ?_ | refine BA (by omega) ?_ | refine AW (fun _=> ?_) (fun _=> ?_))
    all_goals first
     | (refine stepR ⟨fun hh=>(by rw [hu] at hh;cases hh),fun _=> ?_⟩
        first
         | omega
         | (simp_all;done))
     | (refine h2 fun hk=> ?_
        have h4:=(hk.weak i (by omega)).2 hu
        first
         | omega
         | (simp_all;done))
 have hi8:i=8:=by omega
 subst hi8
 refine BC (fun i=>[iv i]) (fun _=>[]) h.buffer.length (fun i=> ∀k,k<i→0≤AB h.AE (gI h.buffer k)∧gI h.buffer k∉h.buffer.take k) rfl rfl (fun k hk=>by omega) (fun R3 i hi hP3 hR3=> ?_)
 simp only [AH,AR,AN,AS,AJ,AD,AG,AP,AO,AK,AM,AL,AI,AQ,BD,BI,BH,BJ,BG,BF,BE,A5,AZ,A4,A6,A7,AY]
 refine A8 (AW (fun hlt=> ?_) fun hge=> ?_)
 ·have hlt:i<h.buffer.length:=by omega
  have e:GM (tI h.buffer) [] (AA (SQ (two (iv 0) (iv i)))*1) (AA (RY (two (iv 0) (iv i)))*1)=tI (h.buffer.take i):=by
   have h1:AA (SQ (two (iv 0) (iv i)))=0:=rfl
   have h2:AA (RY (two (iv 0) (iv i)))=i:=A9 i
   rw [h1,h2];simp [GM,node,tI,List.map_take]
  refine AT hlt (ldI hlt (CL (hn.bf i) (by omega) (A8 (BK (BK (BK (J3 (fun hb=> ?_) fun hb=> ?_)))))))
  ·refine aP (by omega) (BK (BK (BK (EY hb (AT hlt (EY hb (ldI hlt (EY hb ?_))))))))
   rw [e]
   refine OG (by simp;omega) (C2 hb rfl (AW (fun hm=>h2 fun hk=>(hk.buf i hlt).2 hm) fun hm=> ?_))
   refine BA (by omega) (hR3 hlt fun k hk=> ?_)
   rcases Nat.lt_succ_iff_lt_or_eq.1 hk with h3 | rfl
   ·exact hP3 k h3
   ·exact ⟨by omega,hm⟩
  ·repeat' (first | refine BK ?_ | refine KY (by first | with_reducible assumption | omega) ?_ | refine C6 (by first | with_reducible assumption | omega) rfl ?_ | refine B2 ?_)
   all_goals exact h2 fun hk=>by have:=(hk.buf i hlt).1;omega
 have hib:i=h.buffer.length:=by omega
 subst hib
 refine BC (fun i=>[iv i]) (fun _=>[]) h.sites.length (fun i=> ∀k,k<i→(1≤((gS h.sites k).size:Int)∧((gS h.sites k).size:Int)≤8)∧gS h.sites k∉h.sites.take k) rfl rfl (fun k hk=>by omega) (fun R4 i hi hP4 hR4=> ?_)
 simp only [AH,AR,AN,AS,AJ,AD,AG,AP,AO,AK,AM,AL,AI,AQ,BD,BI,BH,BJ,BG,BF,BE,A5,AZ,A4,A6,A7,AY]
 refine A8 (AW (fun hlt=> ?_) fun hge=> ?_)
 ·have hlt:i<h.sites.length:=by omega
  refine AT hlt (ldS hlt (US (D9 (DK (AW (fun hb=>h2 fun hk=>hb (hk.sites.sz i hlt)) fun hb=> ?_)))))
  refine BC (fun j=>[iv i,iv j]) (fun _=>[]) i (fun j=>gS h.sites i∉h.sites.take j) rfl rfl (by simp) (fun R5 j hj hP5 hR5=> ?_)
  simp only [AH,AR,AN,AS,AJ,AD,AG,AP,AO,AK,AM,AL,AI,AQ,BD,BI,BH,BJ,BG,BF,BE,A5,AZ,A4,A6,A7,AY]
  refine A8 (AW (fun hlj=> ?_) fun hgj=> ?_)
  ·have hlj:j<i:=by omega
   refine AT (by omega) (ldS (by omega) (AT hlt (ldS hlt (bE (AW (fun he=>h2 fun hk=>hk.sites.one i hlt ?_) fun he=> ?_)))))
   ·rw [←he, ←R8 (by omega)]
    exact List.mem_take_iff_getElem.2 ⟨j,by omega,rfl⟩
   ·exact BA (by omega) (hR5 hlj (eS (by omega) hP5 he))
  ·have:j=i:=by omega
   subst this
   refine BA (by omega) (hR4 hlt fun k hk=> ?_)
   rcases Nat.lt_succ_iff_lt_or_eq.1 hk with h3 | rfl
   ·exact hP4 k h3
   ·exact ⟨Decidable.not_not.1 hb,hP5⟩
 ·have:i=h.sites.length:=by omega
  subst this
  exact h1 ⟨o8,w8,⟨by omega,fun i hi=>(hP4 i hi).1,fun i hi=>(hP4 i hi).2⟩,fun i hi=>hP i hi,fun i hi=>hP2 i hi,fun i hi=>hP3 i hi⟩
end Go.Proofs.Ytklmcfpgdfibnaa.P
namespace Go.Proofs.Ytklmcfpgdfibnaa.P
open Go Go.Proofs.Ytklmcfpgdfibnaa Go.Proofs.Ytklmcfpgdfibnaa.Eng
set_option linter.unusedVariables false
set_option maxHeartbeats 4000000
set_option linter.unusedVariables false
set_option linter.unusedSimpArgs false
attribute [local irreducible] prP gP gE gF AX ixW ldc ldg ldl stc stg scW mkW apW BN cl2 BV EN CJ
variable {w0:World}
theorem I5 {K:J2} (h:K [] [tI PQ]):cl2 ⟨Try.prog,w0⟩ 121 DA.sg [] [] K:=by
 refine DA.cl2 ?_
 unfold DA.txt
 refine BC (fun i=>[iv i]) (fun i=>[tI (List.replicate i (-1))]) 3 (fun _=>True) rfl rfl trivial (fun R i hi hP hR=> ?_)
 simp only [AH,AR,AN,AS,AJ,AD,AG,AP,AO,AK,AM,AL,AI,AQ,BD,BI,BH,BJ,BG,BF,BE,A5,AZ,A4,A6,A7,AY]
 refine A8 (AW (fun hlt=> ?_) fun hge=> ?_)
 ·have hlt:i<3:=by omega
  refine EJ rfl (by simp;omega) (BA (by omega) ?_)
  have:=hR hlt trivial
  rw [List.replicate_succ', ←EB] at this
  exact this
 ·have:i=3:=by omega
  subst this
  exact h
structure St (h:Hp):Prop where
 ol:h.AE.length=8
 wl:h.B1.length=8
 sl:h.sites.length≤6
 bl:h.buffer.length≤100
 of: ∀o∈h.AE,OF o
 ss: ∀s∈h.sites,(s.size:Int)≤1048576
 wf: ∀w∈h.B1,F64 w.target
 bf: ∀x∈h.buffer,F64 x
theorem St.fits {h:Hp} (s:St h):Fits h:=⟨by have:=s.ol;omega,fun o ho=>by have:=(s.of o ho).len;omega,by have:=s.wl;omega,by have:=s.bl;omega,by have:=s.sl;omega,s.ss⟩
def EP (os:List AV) (id:Int):List AV:=if AB os id<0 then os else os.set (AB os id).toNat {ob os (AB os id).toNat with count:=w64 ((ob os (AB os id).toNat).count+1)}
theorem TM (os:List AV) (id:Int):(EP os id).length=os.length:=by unfold EP;split <;> simp
theorem bY {os:List AV} {id:Int} (h: ∀o∈os,OF o): ∀o∈EP os id,OF o:=by
 unfold EP
 split
 ·exact h
 ·have hk:=BO (l:=os) (id:=id) (by omega)
  have ho:=h _ (H9 (l:=os) (i:=(AB os id).toNat) (by omega))
  exact KJ h ⟨ho.gen,ho.len,ho.fld⟩
theorem PT {os:List AV} {b c d:List T} {id:Int} {K:J2} (hid:F64 id) (hol:os.length=8) (h:K [] [tR tO (EP os id)]):cl2 ⟨Try.prog,w0⟩ 163 DE.sg [I id] [tR tO os,b,c,d] K:=by
 refine DE.cl2 ?_
 unfold DE.txt
 simp only [AH,AR,AN,AS,AJ,AD,AG,AP,AO,AK,AM,AL,AI,AQ,BD,BI,BH,BJ,BG,BF,BE,A5,AZ,A4,A6,A7,AY]
 refine CM hid (by omega) ?_
 simp only [AH,AR,AN,AS,AJ,AD,AG,AP,AO,AK,AM,AL,AI,AQ,BD,BI,BH,BJ,BG,BF,BE,A5,AZ,A4,A6,A7,AY]
 unfold EP at h
 refine LG (AW (fun hs=> ?_) fun hs=> ?_)
 ·have hk:=BO (l:=os) (id:=id) (by omega)
  rw [if_neg (by omega)] at h
  obtain ⟨k,hkk⟩: ∃k,(AB os id).toNat=k:=⟨_,rfl⟩
  have hkI:AB os id=(k:Int):=by omega
  rw [hkk] at h
  rw [hkI]
  have hkl:k<os.length:=by omega
  rw [fZ hkl]
  exact AT (by omega) (H7 (i:=k) hkl (by decide) rfl (GJ (AT (by omega) (HD hkl h))))
 ·rw [if_pos (by omega)] at h;exact h
theorem T3 {h:Hp} {id:Int} {K:J2} (st:St h) (hid:F64 id) (hk:K [] (trees {h with AE:=EP h.AE id})):cl2 ⟨Try.prog,w0⟩ 153 FT.sg [I id] (trees h) K:=by
 refine FT.cl2 ?_
 unfold FT.txt
 refine KW st.fits ?_
 obtain ⟨os,ws,bf,ss⟩:=h
 have hol:os.length=8:=st.ol
 simp only [trees] at hk ⊢
 refine CL hid (by omega) ?_
 simp only [AH,AR,AN,AS,AJ,AD,AG,AP,AO,AK,AM,AL,AI,AQ,BD,BI,BH,BJ,BG,BF,BE,A5,AZ,A4,A6,A7,AY]
 unfold EP at hk
 refine BQ (LG (AW (fun hs=> ?_) fun hs=> ?_))
 ·have hkk:=BO (l:=os) (id:=id) (by omega)
  rw [if_neg (by omega)] at hk
  obtain ⟨k,hkk⟩: ∃k,(AB os id).toNat=k:=⟨_,rfl⟩
  have hkI:AB os id=(k:Int):=by omega
  rw [hkk] at hk
  rw [hkI]
  have hkl:k<os.length:=by omega
  rw [fZ hkl]
  exact AT (by omega) (H7 (i:=k) hkl (by decide) rfl (GJ (AT (by omega) (HD hkl hk))))
 ·rw [if_pos (by omega)] at hk;exact hk
theorem TZ {h:Hp} {ids:List Int} {K:J2} (st:St h) (hi:ids.length≤100) (hid: ∀x∈ids,F64 x) (hK:K [] [tR tO (FU h.AE h.buffer ids).1,tR tW h.B1,tI (FU h.AE h.buffer ids).2.1,tS h.sites,tI (FU h.AE h.buffer ids).2.2]):cl2 ⟨Try.prog,w0⟩ 154 GF.sg [] [tR tO h.AE,tR tW h.B1,tI h.buffer,tS h.sites,tI ids] K:=by
 refine GF.cl2 ?_
 unfold GF.txt
 refine KW st.fits ?_
 obtain ⟨os,ws,buf,ss⟩:=h
 have hol:os.length=8:=st.ol
 have hof: ∀o∈os,OF o:=st.of
 have hb:buf.length≤100:=st.bl
 simp only [trees] at hK ⊢
 rw [List.nil_append]
 simp only [AH,AR,AN,AS,AJ,AD,AG,AP,AO,AK,AM,AL,AI,AQ,BD,BI,BH,BJ,BG,BF,BE,A5,AZ,A4,A6,A7,AY]
 refine EJ (MI _) (by first | omega | (simp only [cnt,List.length_nil];omega)) ?_
 obtain ⟨R,hR0⟩: ∃R,FU os buf ids=R:=⟨_,rfl⟩
 have st:=LsI.start (buf:=buf) hol hof hid
 rw [hR0] at st hK
 refine FP (α:=List AV×List Int×List Int×List Int×Nat) (fun q=>[iv (q.2.2.2.1.length-q.2.2.2.2),iv q.2.2.2.2]) (fun q=>[tI q.2.2.1,tI q.2.2.2.1,tR tO q.1,tR tW ws,tI q.2.1,tS ss]) (fun q=>mu q.2.2.1 (q.2.2.2.1.drop q.2.2.2.2)) (LsI R (buf.length+ids.length+36)) (os,buf,[],ids,0) rfl rfl st (fun Rr q hq hR=> ?_)
 obtain ⟨os,bf,freed,row,off⟩:=q
 have hq':LsI R (buf.length+ids.length+36) (os,bf,freed,row,off):=hq
 obtain ⟨ol,of,fr,ofl,td,sz,_⟩:=id hq'
 simp only at ol of fr ofl td sz
 have hmz:mu freed (row.drop off)=(row.length-off)+4*(9-freed.length):=by simp [mu]
 simp only [AH,AR,AN,AS,AJ,AD,AG,AP,AO,AK,AM,AL,AI,AQ,BD,BI,BH,BJ,BG,BF,BE,A5,AZ,A4,A6,A7,AY]
 simp only [A9]
 refine I7 (BK (BK (I4 (fun hlt=> ?_) fun hge=> ?_)))
 rotate_left
 ·refine C2 hge rfl (BU ?_)
  have:=hq'.stop (.inl (by
   have: ¬(((row.length-off:Nat):Int)>0):=hge
   omega))
  rw [this] at hK;exact hK
 have hlt':off<row.length:=by
  have:((row.length-off:Nat):Int)>0:=hlt
  omega
 refine GY (C6 hlt rfl (AW (fun h8=> ?_) fun h8=> ?_))
 rotate_left
 ·have:=hq'.stop (.inr (by omega))
  rw [this] at hK;exact hK
 have h8':freed.length≤8:=by omega
 obtain ⟨hidf,_⟩:=hq'.step hlt' h8'
 refine AT (j:=0) (by omega) (mH hlt' (rA (by omega) (CL hidf (by omega) ?_)))
 have e1:off+AA (iv 1)*1=off+1:=by rw [A9]
 have e2:row.length-off-1=row.length-(off+1):=by omega
 simp only [A9,e2,Nat.mul_one,BD]
 have mu1:mu freed (row.drop (off+1))<mu freed (row.drop off):=by rw [drop_cons hlt',ZX];omega
 refine A8 (AW (fun hs=>hR (os,bf,freed,row,off+1) (hq'.skip hlt' h8' hs) mu1) fun hs=> ?_)
 have hs':0≤AB os (gI row off):=by omega
 have hk:=BO hs'
 have n1:=hq'.JN hlt' h8' hs'
 have n2:=hq'.put hlt' h8' hs'
 have n3:=fun hc row' off'=>hq'.free hlt' h8' hs' hc (row':=row') (off':=off')
 have hobf:=of _ (H9 (l:=os) (i:=(AB os (gI row off)).toNat) (by omega))
 generalize hgid:gI row off=id at*
 obtain ⟨k,hkk⟩: ∃k,(AB os id).toNat=k:=⟨_,rfl⟩
 have hkI:AB os id=(k:Int):=by omega
 rw [hkk] at hk n1 n2 n3 hobf
 rw [hkI]
 have hkl:k<os.length:=by omega
 rw [fZ hkl]
 generalize ho:ob os k=o at*
 refine AT (by omega) (H7 (i:=k) hkl (by decide) rfl (VC (AT (by omega) (HD hkl ?_))))
 generalize hcc:w64 (o.count-1)=c at*
 simp only [AH,AR,AN,AS,AJ,AD,AG,AP,AO,AK,AM,AL,AI,AQ,BD,BI,BH,BJ,BG,BF,BE,A5,AZ,A4,A6,A7,AY]
 have hl8:(os.set k {o with count:=c}).length=os.length:=List.length_set
 simp only [List.length_set]
 refine AT (by omega) (H7 (v:=I c) (i:=k) hkl (by decide) rfl ?_)
 refine I7 (AW (fun hc=> ?_) fun hc=> ?_)
 ·refine BQ (AT (by omega) (H7 (v:= .bool o.purple) (i:=k) hkl (by decide) rfl (B4 ?_)))
  cases hp:o.purple with
  | false=>
    refine B2 (AT (by omega) (OO hkl (EJ rfl (by omega) ?_)))
    have:=hR _ (n2 hc hp) (by simp only;exact mu1)
    simp only at this
    rw [←EB] at this
    simp only [AH,AR,AN,AS,AJ,AD,AG,AP,AO,AK,AM,AL,AI,AQ,BD,BI,BH,BJ,BG,BF,BE,A5,AZ,A4,A6,A7,AY]
    simp only [A9]
    exact this
  | true=>
    have:=hR _ (n1 hc hp) (by simp only;exact mu1)
    simp only [hp] at this
    refine BU ?_
    simp only [AH,AR,AN,AS,AJ,AD,AG,AP,AO,AK,AM,AL,AI,AQ,BD,BI,BH,BJ,BG,BF,BE,A5,AZ,A4,A6,A7,AY]
    simp only [A9]
    exact this
 ·refine EJ rfl (by omega) ?_
  have hfl:o.field.length=3:=hobf.len
  refine FP (α:=Nat×List Int×Nat) (fun q=>[iv (q.2.1.length-q.2.2),iv q.2.2,I id,iv k,iv q.1]) (fun q=>[tI (freed++[id]),tI q.2.1,tR tO (os.set k {o with count:=c}),tR tW ws,tI bf,tS ss]) (fun q=>3-q.1) (fun q=>q.1≤3∧q.2.2≤q.2.1.length∧q.2.1.drop q.2.2=row.drop (off+1)++(o.field.take q.1).filter fun x=>decide (0≤x)) (0,row,off+1) rfl ?_ ⟨by omega,hlt',by simp⟩ (fun R2 q hq2 hR2=> ?_)
  ·simp only [EB]
  obtain ⟨i,rw',of'⟩:=q
  obtain ⟨hi3,hof',hdr⟩:=hq2
  simp only at hi3 hof' hdr
  have hrl:rw'.length-of'≤row.length-(off+1)+3:=by
   have e:=congrArg List.length hdr
   have:=List.length_filter_le (fun x=>decide (0≤x)) (o.field.take i)
   simp only [List.length_drop,List.length_append,List.length_take] at e this
   omega
  simp only [AH,AR,AN,AS,AJ,AD,AG,AP,AO,AK,AM,AL,AI,AQ,BD,BI,BH,BJ,BG,BF,BE,A5,AZ,A4,A6,A7,AY]
  simp only [List.length_set]
  refine AT (by omega) (UP (i:=k) hkl (by decide) rfl ?_)
  simp only [A9,fR hkl,AD]
  refine A8 (AW (fun hlt=> ?_) fun hge=> ?_)
  ·have hlt:i<o.field.length:=by omega
   have hfx:=hobf.fld _ (DW hlt)
   refine BQ (AT (by omega) (UP (i:=k) hkl (by decide) rfl ?_))
   have ed:(rw'.drop of').take (rw'.length-of')=rw'.drop of':=by rw [←List.length_drop,List.take_length]
   have ea:tI (rw'.drop of')++[T.c (I (gI o.field i))]=tI (rw'.drop of'++[gI o.field i]):=EB _ _
   simp only [A9,fR hkl,AD,PF,Nat.mul_one,ed]
   refine AT hlt (lP hkl hlt ?_)
   simp only [A9]
   refine LG (AW (fun hp=> ?_) fun hp=> ?_)
   ·refine AT (by omega) (UP (i:=k) hkl (by decide) rfl ?_)
    simp only [A9,fR hkl,AD]
    refine AT hlt (lP hkl hlt ?_)
    simp only [A9]
    refine EJ rfl (by omega) ?_
    have:=hR2 (i+1,rw'.drop of'++[gI o.field i],0) ⟨by simp only;omega,by simp only;omega,by simp only [List.drop_zero];rw [hdr,List.take_succ_eq_append_getElem hlt,List.filter_append, ←List.append_assoc,D4 hlt];congr 1;simp [hp]⟩ (by simp only;omega)
    refine BA (by omega) ?_
    rw [ea]
    simp only [AH,AR,AN,AS,AJ,AD,AG,AP,AO,AK,AM,AL,AI,AQ,BD,BI,BH,BJ,BG,BF,BE,A5,AZ,A4,A6,A7,AY]
    simp only [A9]
    exact this
   ·have:=hR2 (i+1,rw',of') ⟨by simp only;omega,hof',by simp only;rw [hdr,List.take_succ_eq_append_getElem hlt,List.filter_append, ←List.append_assoc,D4 hlt];simp;omega⟩ (by simp only;omega)
    refine BA (by omega) ?_
    simp only [AH,AR,AN,AS,AJ,AD,AG,AP,AO,AK,AM,AL,AI,AQ,BD,BI,BH,BJ,BG,BF,BE,A5,AZ,A4,A6,A7,AY]
    simp only [A9]
    exact this
  ·have:i=o.field.length:=by omega
   subst this
   rw [List.take_length] at hdr
   refine TN (by omega) ?_
   try simp only [AH,List.length_set]
   refine AT (by omega) ?_
   simp only [A9]
   refine rC hkl (I5 ?_)
   refine AT (by omega) ?_
   simp only [A9]
   refine rJ hkl (z:=B7 o.gen) rfl ?_
   exact hR _ (n3 hc _ _ hdr hof') (by simp only;rw [hdr];simp only [mu,List.length_append,List.length_singleton] at mu1 ⊢;have:=List.length_filter_le (fun x=>decide (0≤x)) o.field;omega)
end Go.Proofs.Ytklmcfpgdfibnaa.P
