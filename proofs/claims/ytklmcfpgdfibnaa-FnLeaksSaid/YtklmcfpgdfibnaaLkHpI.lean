/- A part of the proof. -/
import Derived.Test.YtklmcfpgdfibnaaLkHpE
namespace Go.Proofs.Ytklmcfpgdfibnaa.P
open Go Go.Proofs.Ytklmcfpgdfibnaa Go.Proofs.Ytklmcfpgdfibnaa.Eng
set_option maxHeartbeats 4000000
set_option linter.unusedVariables false
set_option linter.unusedSimpArgs false
attribute [local irreducible] prP gP gE gF A6 ixW ldc ldg ldl stc stg scW mkW apW BD cl2 BP C3 B9
variable {w0:World}
end Go.Proofs.Ytklmcfpgdfibnaa.P
namespace Go.Proofs.Ytklmcfpgdfibnaa.P
open Go Go.Proofs.Ytklmcfpgdfibnaa Go.Proofs.Ytklmcfpgdfibnaa.Eng
set_option linter.unusedVariables false
theorem zE {n:Nat} (hn:1≤n) {K:Value→Value→Prop} (h:K (iv 1) (iv (n-1))):scW n (some (.int .i64 1)) none K:=⟨1,n,rfl,rfl,hn,Nat.le_refl _,h⟩
set_option maxHeartbeats 4000000
set_option linter.unusedVariables false
set_option linter.unusedSimpArgs false
attribute [local irreducible] prP gP gE gF A6 ixW ldc ldg ldl stc stg scW mkW apW BD cl2 BP C3 B9
variable {w0:World}
def RI:List Int:=[-1, -1, -1]
def CF (g:Int):AG:=⟨false,g,0,0,0,0,RI,false⟩
def IV:Nat→List AG→List Int→List Int→List Int→List AG×List Int×List Int
 | 0,os,buf,freed,_=>(os,buf,freed)
 | f+1,os,buf,freed,todo=>match todo with
   | []=>(os,buf,freed)
   | id::todo=>if freed.length>8 then (os,buf,freed) else
     if AB os id<0 then IV f os buf freed todo else
     if w64 ((ob os (AB os id).toNat).count-1)>0 then
      (if (ob os (AB os id).toNat).purple=true then IV f (os.set (AB os id).toNat {ob os (AB os id).toNat with count:=w64 ((ob os (AB os id).toNat).count-1)}) buf freed todo
       else IV f (os.set (AB os id).toNat {ob os (AB os id).toNat with count:=w64 ((ob os (AB os id).toNat).count-1),purple:=true}) (buf++[id]) freed todo)
     else IV f (os.set (AB os id).toNat (CF (ob os (AB os id).toNat).gen)) (buf.filter fun x=>decide (x≠id)) (freed++[id]) (todo++(ob os (AB os id).toNat).field.filter fun x=>decide (0≤x))
def mu (freed todo:List Int):Nat:=todo.length+4*(9-freed.length)
def FY (os:List AG) (buf ids:List Int):List AG×List Int×List Int:=IV (ids.length+37) os buf [] ids
theorem BT {l:List AG} {id:Int} (h:0≤AB l id):l.length=8∧8≤id∧AB l id=id % 8∧(AB l id).toNat<8∧(ob l (AB l id).toNat).live=true∧(ob l (AB l id).toNat).gen=id/8:=by
 unfold AB at h ⊢
 split at h
 ·omega
 ·split at h
  ·rename_i h1 h2
   rw [if_neg h1,if_pos h2]
   exact ⟨by omega,by omega,rfl,by omega,h2.1,h2.2⟩
  ·omega
structure OF (o:AG):Prop where
 gen:F64 o.gen
 len:o.field.length=3
 fld: ∀f∈o.field,F64 f
theorem OF.free {g:Int} (h:F64 g):OF (CF g):=⟨h,rfl,by simp [CF,RI,F64]⟩
theorem MX {l:List AG} {P:AG→Prop} {i:Nat} {o:AG} (h: ∀x∈l,P x) (ho:P o): ∀x∈l.set i o,P x:=fun x hx=>(List.mem_or_eq_of_mem_set hx).elim (h x) fun he=>he ▸ ho
structure LsI (R:List AG×List Int×List Int) (M:Nat) (q:List AG×List Int×List Int×List Int×Nat):Prop where
 ol:q.1.length=8
 of: ∀o∈q.1,OF o
 fr:q.2.2.1.length≤9
 off:q.2.2.2.2≤q.2.2.2.1.length
 td: ∀x∈q.2.2.2.1.drop q.2.2.2.2,F64 x
 sz:q.2.1.length+mu q.2.2.1 (q.2.2.2.1.drop q.2.2.2.2)≤M
 go: ∃f,mu q.2.2.1 (q.2.2.2.1.drop q.2.2.2.2)<f∧IV f q.1 q.2.1 q.2.2.1 (q.2.2.2.1.drop q.2.2.2.2)=R
theorem TX {l:List Int} {x:Int} {K:J2} (hl:(l.length:Int)≤2^40) (h:K [] [tI (l.filter fun y=>decide (y≠x))]):cl2 ⟨Try.prog,w0⟩ 167 D8.sg [I x] [tI l] K:=by
 refine D8.cl2 ?_
 unfold D8.txt
 simp only [AI,AP,AN,AS,AK,AE,AJ,AH,AM,AT,AL,AR,AO,AQ,BC,BE,BF,BJ,BL,BK,BH,AW,A5,AZ,A4,AY,AX]
 refine BM (fun i=>[I x,iv i]) (fun i=>[tI ((l.take i).filter fun y=>decide (y≠x))]) l.length (fun _=>True) rfl rfl trivial (fun R i hi _ hR=> ?_)
 have hln:=List.length_filter_le (fun y=>decide (y≠x)) (l.take i)
 have hlt2:(l.take i).length≤i:=by simp;omega
 simp only [AI,AP,AN,AS,AK,AE,AJ,AH,AM,AT,AL,AR,AO,AQ,BC,BE,BF,BJ,BL,BK,BH,AW,A5,AZ,A4,AY,AX]
 refine A9 (A7 (fun hlt=> ?_) fun hge=> ?_)
 ·have hlt:i<l.length:=by omega
  replace hR:=hR hlt trivial
  rw [List.take_succ_eq_append_getElem hlt,List.filter_append,CM hlt] at hR
  refine BW (AU hlt (ldI hlt (CT (A7 (fun he=> ?_) fun he=> ?_))))
  ·refine AU hlt (ldI hlt (DG rfl (by omega) (A8 (by omega) ?_)))
   have e:([gI l i].filter fun y=>decide (y≠x))=[gI l i]:=by simp [he]
   rw [e, ←C4] at hR;exact hR
  ·refine A8 (by omega) ?_
   have e:([gI l i].filter fun y=>decide (y≠x))=[]:=by simp at he;simp [he]
   rw [e,List.append_nil] at hR;exact hR
 ·have:i=l.length:=by omega
  subst this
  rw [List.take_length];exact h
theorem vS {l:List Int} {a:Nat} {K:Value→Prop} (ha:a<l.length) (h:K (I (gI l a))):ldc (tI l) [] (a+AD (iv 0)*1) K:=by
 have e:a+AD (iv 0)*1=AD (iv a)*1:=by rw [BB,BB];omega
 rw [e];exact ldI ha h
theorem drop_cons {l:List Int} {a:Nat} (ha:a<l.length):l.drop a=gI l a::l.drop (a+1):=by rw [List.drop_eq_getElem_cons ha,CM ha]
theorem jK {freed todo:List Int} {x:Int}:mu freed (x::todo)=mu freed todo+1:=by simp only [mu,List.length_cons];omega
theorem JW {l:List AG} {i:Nat} (h:i<l.length):ob l i∈l:=by rw [←DL h];exact List.getElem_mem h
theorem tV {l:List AG} {i:Nat} (h:i<l.length):tR tO l=tR tO (l.set i (ob l i)):=by rw [←DL h];exact sT h
theorem LsI.start {os:List AG} {buf ids:List Int} (hol:os.length=8) (hof: ∀o∈os,OF o) (hid: ∀x∈ids,F64 x):LsI (FY os buf ids) (buf.length+ids.length+36) (os,buf,[],ids,0):=
 ⟨hol,hof,Nat.zero_le _,Nat.zero_le _,by simpa using hid,by simp only [mu,List.drop_zero,List.length_nil];omega,ids.length+37,by simp only [mu,List.drop_zero,List.length_nil];omega,rfl⟩
section
variable {R:List AG×List Int×List Int} {M:Nat} {os:List AG} {buf freed row:List Int} {off:Nat}
theorem LsI.stop (h:LsI R M (os,buf,freed,row,off)) (hs:row.length≤off∨8<freed.length):R=(os,buf,freed):=by
 obtain ⟨_,_,_,_,_,_,f,hf,go⟩:=h
 simp only at hf go
 obtain ⟨f,rfl⟩: ∃f',f=f'+1:=⟨f-1,by omega⟩
 rcases hs with hs | hs
 ·rw [List.drop_of_length_le hs] at go
  rw [←go];rfl
 ·rw [←go]
  cases row.drop off with
  | nil=>rfl
  | cons x l=>simp only [IV,if_pos hs]
theorem LsI.step (h:LsI R M (os,buf,freed,row,off)) (hlt:off<row.length) (hfr:freed.length≤8):F64 (gI row off)∧ ∃f,mu freed (row.drop (off+1))<f∧IV (f+1) os buf freed (gI row off::row.drop (off+1))=R∧buf.length+mu freed (row.drop (off+1))+1≤M∧ ∀x∈row.drop (off+1),F64 x:=by
 obtain ⟨_,_,_,_,td,sz,f,hf,go⟩:=h
 simp only at td sz hf go
 rw [drop_cons hlt] at td sz hf go
 rw [jK] at sz hf
 obtain ⟨f,rfl⟩: ∃f',f=f'+1:=⟨f-1,by omega⟩
 exact ⟨td _ (by simp),f,by omega,go,by omega,fun x hx=>td x (by simp [hx])⟩
theorem LsI.skip (h:LsI R M (os,buf,freed,row,off)) (hlt:off<row.length) (hfr:freed.length≤8) (hs:AB os (gI row off)<0):LsI R M (os,buf,freed,row,off+1):=by
 obtain ⟨_,f,h1,h2,h3,h4⟩:=h.step hlt hfr
 rw [IV] at h2
 simp only at h2
 rw [if_neg (by omega),if_pos hs] at h2
 exact ⟨h.ol,h.of,h.fr,hlt,h4,by simp only;omega,f,h1,h2⟩
theorem LsI.KD (h:LsI R M (os,buf,freed,row,off)) (hlt:off<row.length) (hfr:freed.length≤8) (hs:0≤AB os (gI row off)) (hc:w64 ((ob os (AB os (gI row off)).toNat).count-1)>0) (hp:(ob os (AB os (gI row off)).toNat).purple=true):
  LsI R M (os.set (AB os (gI row off)).toNat {ob os (AB os (gI row off)).toNat with count:=w64 ((ob os (AB os (gI row off)).toNat).count-1)},buf,freed,row,off+1):=by
 obtain ⟨_,f,h1,h2,h3,h4⟩:=h.step hlt hfr
 have hk:=BT hs
 have ho:=h.of _ (JW (l:=os) (i:=(AB os (gI row off)).toNat) (by omega))
 rw [IV] at h2
 simp only at h2
 rw [if_neg (by omega),if_neg (by omega),if_pos hc,if_pos hp] at h2
 exact ⟨by simp only [List.length_set];exact h.ol,MX h.of ⟨ho.gen,ho.len,ho.fld⟩,h.fr,hlt,h4,by simp only;omega,f,h1,h2⟩
theorem LsI.put (h:LsI R M (os,buf,freed,row,off)) (hlt:off<row.length) (hfr:freed.length≤8) (hs:0≤AB os (gI row off)) (hc:w64 ((ob os (AB os (gI row off)).toNat).count-1)>0) (hp:(ob os (AB os (gI row off)).toNat).purple=false):
  LsI R M (os.set (AB os (gI row off)).toNat {ob os (AB os (gI row off)).toNat with count:=w64 ((ob os (AB os (gI row off)).toNat).count-1),purple:=true},buf++[gI row off],freed,row,off+1):=by
 obtain ⟨_,f,h1,h2,h3,h4⟩:=h.step hlt hfr
 have hk:=BT hs
 have ho:=h.of _ (JW (l:=os) (i:=(AB os (gI row off)).toNat) (by omega))
 rw [IV] at h2
 simp only at h2
 rw [if_neg (by omega),if_neg (by omega),if_pos hc,if_neg (by rw [hp];decide)] at h2
 exact ⟨by simp only [List.length_set];exact h.ol,MX h.of ⟨ho.gen,ho.len,ho.fld⟩,h.fr,hlt,h4,by simp only [List.length_append,List.length_singleton];omega,f,h1,h2⟩
theorem LsI.free (h:LsI R M (os,buf,freed,row,off)) (hlt:off<row.length) (hfr:freed.length≤8) (hs:0≤AB os (gI row off)) (hc: ¬w64 ((ob os (AB os (gI row off)).toNat).count-1)>0) {row':List Int} {off':Nat} (hrow:row'.drop off'=row.drop (off+1)++(ob os (AB os (gI row off)).toNat).field.filter fun x=>decide (0≤x)) (hle:off'≤row'.length):
  LsI R M (os.set (AB os (gI row off)).toNat (CF (ob os (AB os (gI row off)).toNat).gen),buf.filter fun x=>decide (x≠gI row off),freed++[gI row off],row',off'):=by
 obtain ⟨_,f,h1,h2,h3,h4⟩:=h.step hlt hfr
 have hk:=BT hs
 have ho:=h.of _ (JW (l:=os) (i:=(AB os (gI row off)).toNat) (by omega))
 have hfl:=List.length_filter_le (fun x=>decide (0≤x)) (ob os (AB os (gI row off)).toNat).field
 have hbl:=List.length_filter_le (fun x=>decide (x≠gI row off)) buf
 rw [ho.len] at hfl
 rw [IV] at h2
 simp only at h2
 rw [if_neg (by omega),if_neg (by omega),if_neg hc] at h2
 have hmu:mu (freed++[gI row off]) (row'.drop off')≤mu freed (row.drop (off+1)):=by
  rw [hrow];simp only [mu,List.length_append,List.length_singleton];omega
 refine ⟨by simp only [List.length_set];exact h.ol,MX h.of (OF.free ho.gen),by simp only [List.length_append,List.length_singleton];omega,hle,fun x hx=> ?_,by simp only;omega,f,by simp only;omega,by rw [←h2,hrow]⟩
 simp only at hx
 rw [hrow] at hx
 rcases List.mem_append.1 hx with hx | hx
 ·exact h4 x hx
 ·exact ho.fld x (List.mem_filter.1 hx).1
end
section
variable {cur:List AG} {k:Nat} {y:AG}
theorem nF (hk:k<cur.length):EK (tR tO (cur.set k y)) [k*8+6]=tI y.field:=by have:=V7 (y:=y) hk;rwa [BB] at this
theorem uG {i:Nat} {K:Value→Prop} (hk:k<cur.length) (hi:i<y.field.length) (h:K (I (gI y.field i))):ldc (tR tO (cur.set k y)) [k*8+6] i K:=by
 have:=M5 (l:=cur.set k y) (i:=k) (j:=i) (K:=K) (by simpa using hk) (by rw [←DL (by simpa using hk),List.getElem_set_self];exact hi) (by rw [←DL (by simpa using hk),List.getElem_set_self];exact h)
 simpa only [BB,Nat.mul_one] using this
theorem yP {K:Value→Prop} (hk:k<cur.length) (h:K (I y.gen)):ldc (tR tO (cur.set k y)) [] (k*8+1) K:=by
 have:=SR (f:=tO) (K:=K) (c:=1) (y:=y) hk (by decide) rfl h
 rwa [BB] at this
theorem zC {ts:List T} {z:AG} {K:List T→Prop} (hk:k<cur.length) (hy:ts=tO z) (h:K (tR tO (cur.set k z))):stg (tR tO (cur.set k y)) [] (k*8) ts K:=by
 have:=RW (f:=tO) (l:=cur.set k y) (K:=K) (by simpa using hk) hy (by rw [List.set_set];exact h)
 rwa [BB] at this
theorem TE (l:List Int) (a m:Nat):HW (tI l) [] a m=tI ((l.drop a).take m):=by simp [HW,node,tI,List.map_drop,List.map_take]
end
end Go.Proofs.Ytklmcfpgdfibnaa.P
namespace Go.Proofs.Ytklmcfpgdfibnaa.P
open Go Go.Proofs.Ytklmcfpgdfibnaa Go.Proofs.Ytklmcfpgdfibnaa.Eng
set_option maxHeartbeats 4000000
set_option linter.unusedVariables false
set_option linter.unusedSimpArgs false
attribute [local irreducible] prP gP gE gF A6 ixW ldc ldg ldl stc stg scW mkW apW BD cl2 BP C3 B9
variable {w0:World}
theorem uP (a b c d e f g h:Value) (l:List Value):nx (a::b::c::d::e::f::g::h::l) 7=h:=rfl
theorem wN (a b c d e f g h i:Value) (l:List Value):nx (a::b::c::d::e::f::g::h::i::l) 8=i:=rfl
theorem w4 (a b c d e f g h i j:Value) (l:List Value):nx (a::b::c::d::e::f::g::h::i::j::l) 9=j:=rfl
theorem xZ (o:Wk):tv (nxT (tW o) 0)= .bool o.used:=rfl
theorem yV (o:Wk):tv (nxT (tW o) 1)=I o.target:=rfl
theorem qL (o:AG):tv (nxT (tO o) 0)= .bool o.live:=rfl
theorem mT (o:AG):tv (nxT (tO o) 1)=I o.gen:=rfl
theorem uI (o:AG):tv (nxT (tO o) 2)=I o.site:=rfl
theorem uE (o:AG):tv (nxT (tO o) 3)=I o.holds:=rfl
theorem tZ (o:AG):tv (nxT (tO o) 4)=I o.roots:=rfl
theorem uC (o:AG):tv (nxT (tO o) 5)=I o.count:=rfl
theorem uD (o:AG):tv (nxT (tO o) 7)= .bool o.purple:=rfl
theorem RF {h:Hp} {K:J2} (hf:Fits h) (hn:U4 h) (h1:BO h→K [.bool true] []) (h2: ¬BO h→K [.bool false] []):cl2 ⟨Try.prog,w0⟩ 19 EY.sg [] (trees h) K:=by
 have g1:=hf.ol;have g2:=hf.wl;have g3:=hf.sl;have g4:=hf.bl
 refine EY.cl2 ?_
 unfold EY.txt
 simp only [AI,AP,AN,AS,AK,AE,AJ,AH,AM,AT,AL,AR,AO,AQ,BC,BE,BF,BJ,BL,BK,BH,AW,A5,AZ,A4,AY,AX]
 refine CT (BG (BG (BG (NM (fun ho=> ?_) fun ho=> ?_))))
 rotate_left
 ·refine FH ho rfl (BG (BG (BG (JY (R6 rfl (CE (h2 fun hk=>ho (by have:=hk.ol;omega))))))))
 refine CT (ER ho rfl (BG (BG (BG (NM (fun hw=> ?_) fun hw=> ?_)))))
 rotate_left
 ·exact FH hw rfl (CE (h2 fun hk=>hw (by have:=hk.wl;omega)))
 refine JJ (ER hw rfl (A7 (fun h6=>h2 fun hk=>(by have:=hk.sites.len;omega)) fun h6=> ?_))
 have o8:h.AA.length=8:=by omega
 have w8:h.B4.length=8:=by omega
 refine BM (fun i=>[iv i]) (fun _=>[]) h.AA.length (fun i=> ∀k,k<i→UY h k) rfl rfl (fun k hk=>by omega) (fun R i hi hP hR=> ?_)
 simp only [AI,AP,AN,AS,AK,AE,AJ,AH,AM,AT,AL,AR,AO,AQ,BC,BE,BF,BJ,BL,BK,BH,AW,A5,AZ,A4,AY,AX]
 refine A9 (A7 (fun hlt=> ?_) fun hge=> ?_)
 ·have hi:i<h.AA.length:=by omega
  refine BW ?_
  have stepR:UY h i→R [iv (i+1)] []:=fun hk=>hR hi fun k hki=>(Nat.lt_succ_iff_lt_or_eq.1 hki).elim (hP k) fun he=>he ▸ hk
  have no: ¬UY h i→K [.bool false] []:=fun hk=>h2 fun hh=>hk (hh.obj i (by omega))
  clear hR h1 h2
  have hfo:=nI hf.of i
  have hnum:=hn.ob i
  obtain ⟨⟨n1,n2⟩,⟨n3,n4⟩,⟨n7,n8⟩,⟨n9,n10⟩,⟨n5,n6⟩,_⟩:=hnum
  have hib:=uS hf.ol hf.of i
  refine AU hi (UA hi ?_)
  rw [IL hi,AE]
  refine DR (F4 (BG (BG (BG (NM (fun hg=> ?_) fun hg=> ?_)))))
  rotate_left
  ·exact FH hg rfl (CE (no fun hk=>hg hk.gen))
  refine CT (ER hg rfl (A7 (fun h3=>no fun hk=>by have:=hk.len;omega) fun h3=> ?_))
  have hl3:(ob h.AA i).field.length=3:=by omega
  have hg:0≤(ob h.AA i).gen∧(ob h.AA i).gen≤999:=Decidable.not_not.1 hg
  simp only [qL,mT,uI,uE,tZ,uC,uD]
  cases hv:(ob h.AA i).live with
  | false=>
    have dd:UY h i→(ob h.AA i).site=0∧(ob h.AA i).holds=0∧(ob h.AA i).roots=0∧(ob h.AA i).count=0∧(ob h.AA i).purple=false:=fun hk=>hk.dead hv
    refine CY (CE ?_)
    cases hpu:(ob h.AA i).purple
    ·repeat' (first | refine BG ?_ | refine JY ?_ | refine FH (by first | with_reducible assumption | omega) rfl ?_ | refine ER (by first | with_reducible assumption | omega) rfl ?_ | refine R6 rfl ?_ | refine CE ?_ | refine B5 ?_ | refine CT ?_ | refine oW rfl rfl (fun _=> ?_) (fun _=> ?_) | refine NM (fun _=> ?_) (fun _=> ?_) | simp only [AI,AP,AN,AS,AK,AE,AJ,AH,AM,AT,AL,AR,AO,AQ,BC,BE,BF,BJ,BL,BK,BH,AW,A5,AZ,A4,AY,AX])
     all_goals try exact no fun hk=>by have:=dd hk;omega
     have mk:(∀j,j<3→gI (ob h.AA i).field j= -1)→UY h i:=fun ha=>⟨hg,hl3,fun j hj hne=>absurd (ha j hj) hne,fun _=>⟨by omega,by omega,by omega,by omega,hpu⟩,fun hh=>by rw [hv] at hh;cases hh⟩
     refine BM (fun j=>[iv i,iv j, .bool false,I (ob h.AA i).gen,I (ob h.AA i).site,I (ob h.AA i).holds,I (ob h.AA i).roots,I (ob h.AA i).count,iv (AD (iv i)*8+6), .bool false]) (fun _=>[]) 3 (fun j=> ∀k,k<j→gI (ob h.AA i).field k= -1) rfl rfl (fun k hk=>by omega) (fun R2 j hj hP2 hR2=> ?_)
     simp only [AI,AP,AN,AS,AK,AE,AJ,AH,AM,AT,AL,AR,AO,AQ,BC,BE,BF,BJ,BL,BK,BH,AW,A5,AZ,A4,AY,AX]
     simp only [BH,uP,wN,w4]
     rw [BB (AD (iv i)*8+6),IL hi,AE,hl3]
     refine A9 (A7 (fun hlt=> ?_) fun hge=> ?_)
     ·have hlt:j<3:=by omega
      refine AU hlt (M5 hi (by omega) (CT (A7 (fun hne=> ?_) fun hne=> ?_)))
      ·exact no fun hk=>by have:=(hk.lead j hlt hne).1;rw [hv] at this;cases this
      ·refine A8 (by omega) (hR2 hlt fun k hk=> ?_)
       rcases Nat.lt_succ_iff_lt_or_eq.1 hk with h4 | rfl
       ·exact hP2 k h4
       ·omega
     ·have hj3:j=3:=by omega
      subst hj3
      exact A8 (by omega) (stepR (mk hP2))
    ·repeat' (first | refine BG ?_ | refine JY ?_ | refine FH (by first | with_reducible assumption | omega) rfl ?_ | refine ER (by first | with_reducible assumption | omega) rfl ?_ | refine R6 rfl ?_ | refine CE ?_ | refine CT ?_ | refine oW rfl rfl (fun _=> ?_) (fun _=> ?_) | refine NM (fun _=> ?_) (fun _=> ?_))
     all_goals exact no fun hk=>by have:=(dd hk).2.2.2.2;rw [hpu] at this;cases this
  | true=>
    have ll:=fun hk:UY h i=>hk.lv hv
    refine CY (B5 ?_)
    by_cases hz:1≤(ob h.AA i).gen∧(0≤(ob h.AA i).site∧(ob h.AA i).site≤(h.sites.length:Int)-1)∧(0≤(ob h.AA i).holds∧(ob h.AA i).holds≤20)∧(0≤(ob h.AA i).roots∧(ob h.AA i).roots≤20)
    ·obtain ⟨z1,z2,z3,z4⟩:=hz
     repeat' (first | refine DR ?_ | refine BG ?_ | refine C7 (by first | with_reducible assumption | omega) ?_ | refine ER (by first | with_reducible assumption | omega) rfl ?_ | refine DU (by first | with_reducible assumption | omega) ?_ | refine A9 ?_ | refine F4 ?_ | refine JP ⟨by omega,by omega⟩ ?_ | simp only [AI,AP,AN,AS,AK,AE,AJ,AH,AM,AT,AL,AR,AO,AQ,BC,BE,BF,BJ,BL,BK,BH,AW,A5,AZ,A4,AY,AX])
     all_goals try (exfalso;omega)
     refine BM (fun j=>[iv i,iv j, .bool true,I (ob h.AA i).gen,I (ob h.AA i).site,I (ob h.AA i).holds,I (ob h.AA i).roots,I (ob h.AA i).count,iv (AD (iv i)*8+6), .bool (ob h.AA i).purple]) (fun _=>[]) 3 (fun j=> ∀k,k<j→gI (ob h.AA i).field k≠ -1→(ob h.AA i).live=true∧0≤AB h.AA (gI (ob h.AA i).field k)) rfl rfl (fun k hk=>by omega) (fun R2 j hj hP2 hR2=> ?_)
     simp only [AI,AP,AN,AS,AK,AE,AJ,AH,AM,AT,AL,AR,AO,AQ,BC,BE,BF,BJ,BL,BK,BH,AW,A5,AZ,A4,AY,AX]
     simp only [BH,uP,wN,w4]
     rw [BB (AD (iv i)*8+6),IL hi,AE,hl3]
     refine A9 (A7 (fun hlt=> ?_) fun hge=> ?_)
     ·have hlt:j<3:=by omega
      refine AU hlt (M5 hi (by omega) ?_)
      repeat' (first | refine B1 (hn.fld i j) (by omega) ?_ | refine BG ?_ | refine LN (by first | with_reducible assumption | omega) ?_ | refine PX (by first | with_reducible assumption | omega) ?_ | refine FH (by first | with_reducible assumption | omega) rfl ?_ | refine ER (by first | with_reducible assumption | omega) rfl ?_ | refine B5 ?_ | refine A9 ?_ | refine CT ?_ | refine A8 (by omega) ?_ | refine AU (by omega) ?_ | refine M5 (by omega) (by omega) ?_ | refine A7 (fun _=> ?_) (fun _=> ?_) | refine ME (fun _=> ?_) (fun _=> ?_))
      all_goals first
       | (refine hR2 hlt fun k hk hne=> ?_
          rcases Nat.lt_succ_iff_lt_or_eq.1 hk with h4 | rfl
          ·exact hP2 k h4 hne
          ·first
           | exact absurd hne (by assumption)
           | exact ⟨hv,by omega⟩)
       | (refine no fun hk=> ?_
          have h4:=hk.lead j hlt (by assumption)
          omega)
     ·have hj3:j=3:=by omega
      subst hj3
      have fin:(ob h.AA i).count=(ob h.AA i).holds+(ob h.AA i).roots+inE h.AA i→1≤(ob h.AA i).count→(ob h.AA i).purple=decide (B6 i (ob h.AA i).gen∈h.buffer)→UY h i:=fun e f hp=>⟨hg,hl3,hP2,fun hh=>(by rw [hv] at hh;cases hh),fun _=>⟨z1,z2,z3,z4,e,f,hp⟩⟩
      refine EC ⟨by omega,by omega⟩ (P1 ⟨by omega,by omega⟩ (by omega) hf.of (EC ⟨by omega,by omega⟩ ?_))
      repeat' (first | refine G5 ?_ | refine FP (by omega) ?_ | refine BG ?_ | refine JY ?_ | refine HI (by first | with_reducible assumption | omega) ?_ | refine C7 (by first | with_reducible assumption | omega) ?_ | refine FH (by first | with_reducible assumption | omega) rfl ?_ | refine ER (by first | with_reducible assumption | omega) rfl ?_ | refine R6 rfl ?_ | refine CE ?_ | refine A9 ?_ | refine CT ?_ | refine F4 ?_ | refine A8 (by omega) ?_ | refine A7 (fun _=> ?_) (fun _=> ?_) | refine NM (fun _=> ?_) (fun _=> ?_))
      all_goals first
       | (refine no fun hk=> ?_
          have h4:=ll hk
          omega)
       | exact stepR (fin (by omega) (by omega) (Decidable.not_not.1 (by assumption)))
       | exact no fun hk=>absurd (ll hk).2.2.2.2.2.2 (by assumption)
    ·repeat' (first | refine DR ?_ | refine BG ?_ | refine JY ?_ | refine HI (by first | with_reducible assumption | omega) ?_ | refine C7 (by first | with_reducible assumption | omega) ?_ | refine FH (by first | with_reducible assumption | omega) rfl ?_ | refine ER (by first | with_reducible assumption | omega) rfl ?_ | refine R6 rfl ?_ | refine CE ?_ | refine GA (by first | with_reducible assumption | omega) ?_ | refine A9 ?_ | refine F4 ?_ | refine JP ⟨by omega,by omega⟩ ?_ | refine NM (fun _=> ?_) (fun _=> ?_))
     all_goals first
      | (refine no fun hk=>hz ?_
         have:=ll hk
         exact ⟨this.1,this.2.1,this.2.2.1,this.2.2.2.1⟩)
      | (exfalso;omega)
 have hi8:i=8:=by omega
 subst hi8
 refine BM (fun i=>[iv i]) (fun _=>[]) h.B4.length (fun i=> ∀k,k<i→((wk h.B4 k).used=false→(wk h.B4 k).target=0)∧((wk h.B4 k).used=true→8≤(wk h.B4 k).target∧(wk h.B4 k).target≤7999)) rfl rfl (fun k hk=>by omega) (fun R2 i hi hP2 hR2=> ?_)
 simp only [AI,AP,AN,AS,AK,AE,AJ,AH,AM,AT,AL,AR,AO,AQ,BC,BE,BF,BJ,BL,BK,BH,AW,A5,AZ,A4,AY,AX]
 refine A9 (A7 (fun hlt=> ?_) fun hge=> ?_)
 ·have hlt:i<h.B4.length:=by omega
  refine AU hlt (vU hlt ?_)
  have stepR:=fun hk=>hR2 hlt fun k hki=>(Nat.lt_succ_iff_lt_or_eq.1 hki).elim (hP2 k) fun he=>he ▸ hk
  simp only [xZ,yV]
  cases hu:(wk h.B4 i).used with
  | false=>
    refine CY ?_
    repeat' (first | refine BG ?_ | refine eF ?_ | refine bB (by first | with_reducible assumption | omega) ?_ | refine gJ (by first | with_reducible assumption | omega) ?_ | refine IH ?_ | refine HJ ?_ | refine HI (by first | with_reducible assumption | omega) ?_ | refine C7 (by first | with_reducible assumption | omega) ?_ | refine FH (by first | with_reducible assumption | omega) rfl ?_ | refine ER (by first | with_reducible assumption | omega) rfl ?_ | refine R6 rfl ?_ | refine R1 rfl ?_ | refine CE ?_ | refine B5 ?_ | refine CT ?_ | refine A8 (by omega) ?_ | refine vQ (fun _=> ?_) (fun _=> ?_))
    all_goals first
     | (refine stepR ⟨fun _=> ?_,fun hh=>(by rw [hu] at hh;cases hh)⟩
        first
         | omega
         | (simp_all;done))
     | (refine h2 fun hk=> ?_
        have h4:=(hk.weak i (by omega)).1 hu
        first
         | omega
         | (simp_all;done))
  | true=>
    refine CY ?_
    repeat' (first | refine DR ?_ | refine BG ?_ | refine eF ?_ | refine nX ?_ | refine IH ?_ | refine HU ?_ | refine HJ ?_ | refine R6 rfl ?_ | refine R1 rfl ?_ | refine F4 ?_ | refine A8 (by omega) ?_ | refine A7 (fun _=> ?_) (fun _=> ?_))
    all_goals first
     | (refine stepR ⟨fun hh=>(by rw [hu] at hh;cases hh),fun _=> ?_⟩
        first
         | omega
         | (simp_all;done))
     | (refine h2 fun hk=> ?_
        have h4:=(hk.weak i (by omega)).2 hu
        first
         | omega
         | (simp_all;done))
 have hi8:i=8:=by omega
 subst hi8
 refine BM (fun i=>[iv i]) (fun _=>[]) h.buffer.length (fun i=> ∀k,k<i→0≤AB h.AA (gI h.buffer k)∧gI h.buffer k∉h.buffer.take k) rfl rfl (fun k hk=>by omega) (fun R3 i hi hP3 hR3=> ?_)
 simp only [AI,AP,AN,AS,AK,AE,AJ,AH,AM,AT,AL,AR,AO,AQ,BC,BE,BF,BJ,BL,BK,BH,AW,A5,AZ,A4,AY,AX]
 refine A9 (A7 (fun hlt=> ?_) fun hge=> ?_)
 ·have hlt:i<h.buffer.length:=by omega
  have e:HW (tI h.buffer) [] (AD (p5 (two (iv 0) (iv i)))*1) (AD (oX (two (iv 0) (iv i)))*1)=tI (h.buffer.take i):=by
   have h1:AD (p5 (two (iv 0) (iv i)))=0:=rfl
   have h2:AD (oX (two (iv 0) (iv i)))=i:=BB i
   rw [h1,h2];simp [HW,node,tI,List.map_take]
  refine AU hlt (ldI hlt (B1 (hn.bf i) (by omega) (A9 (BG (BG (BG (NM (fun hb=> ?_) fun hb=> ?_)))))))
  ·refine nD (by omega) (BG (BG (BG (C7 hb (AU hlt (C7 hb (ldI hlt (C7 hb ?_))))))))
   rw [e]
   refine FP (by simp;omega) (ER hb rfl (A7 (fun hm=>h2 fun hk=>(hk.buf i hlt).2 hm) fun hm=> ?_))
   refine A8 (by omega) (hR3 hlt fun k hk=> ?_)
   rcases Nat.lt_succ_iff_lt_or_eq.1 hk with h3 | rfl
   ·exact hP3 k h3
   ·exact ⟨by omega,hm⟩
  ·repeat' (first | refine BG ?_ | refine HI (by first | with_reducible assumption | omega) ?_ | refine FH (by first | with_reducible assumption | omega) rfl ?_ | refine CE ?_)
   all_goals exact h2 fun hk=>by have:=(hk.buf i hlt).1;omega
 have hib:i=h.buffer.length:=by omega
 subst hib
 refine BM (fun i=>[iv i]) (fun _=>[]) h.sites.length (fun i=> ∀k,k<i→(1≤((gS h.sites k).size:Int)∧((gS h.sites k).size:Int)≤8)∧gS h.sites k∉h.sites.take k) rfl rfl (fun k hk=>by omega) (fun R4 i hi hP4 hR4=> ?_)
 simp only [AI,AP,AN,AS,AK,AE,AJ,AH,AM,AT,AL,AR,AO,AQ,BC,BE,BF,BJ,BL,BK,BH,AW,A5,AZ,A4,AY,AX]
 refine A9 (A7 (fun hlt=> ?_) fun hge=> ?_)
 ·have hlt:i<h.sites.length:=by omega
  refine AU hlt (ldS hlt (iB (DR (F4 (A7 (fun hb=>h2 fun hk=>hb (hk.sites.sz i hlt)) fun hb=> ?_)))))
  refine BM (fun j=>[iv i,iv j]) (fun _=>[]) i (fun j=>gS h.sites i∉h.sites.take j) rfl rfl (by simp) (fun R5 j hj hP5 hR5=> ?_)
  simp only [AI,AP,AN,AS,AK,AE,AJ,AH,AM,AT,AL,AR,AO,AQ,BC,BE,BF,BJ,BL,BK,BH,AW,A5,AZ,A4,AY,AX]
  refine A9 (A7 (fun hlj=> ?_) fun hgj=> ?_)
  ·have hlj:j<i:=by omega
   refine AU (by omega) (ldS (by omega) (AU hlt (ldS hlt (dS (A7 (fun he=>h2 fun hk=>hk.sites.one i hlt ?_) fun he=> ?_)))))
   ·rw [←he, ←SX (by omega)]
    exact List.mem_take_iff_getElem.2 ⟨j,by omega,rfl⟩
   ·exact A8 (by omega) (hR5 hlj (hI (by omega) hP5 he))
  ·have:j=i:=by omega
   subst this
   refine A8 (by omega) (hR4 hlt fun k hk=> ?_)
   rcases Nat.lt_succ_iff_lt_or_eq.1 hk with h3 | rfl
   ·exact hP4 k h3
   ·exact ⟨Decidable.not_not.1 hb,hP5⟩
 ·have:i=h.sites.length:=by omega
  subst this
  exact h1 ⟨o8,w8,⟨by omega,fun i hi=>(hP4 i hi).1,fun i hi=>(hP4 i hi).2⟩,fun i hi=>hP i hi,fun i hi=>hP2 i hi,fun i hi=>hP3 i hi⟩
end Go.Proofs.Ytklmcfpgdfibnaa.P
namespace Go.Proofs.Ytklmcfpgdfibnaa.P
open Go Go.Proofs.Ytklmcfpgdfibnaa Go.Proofs.Ytklmcfpgdfibnaa.Eng
set_option linter.unusedVariables false
set_option maxHeartbeats 4000000
set_option linter.unusedVariables false
set_option linter.unusedSimpArgs false
attribute [local irreducible] prP gP gE gF A6 ixW ldc ldg ldl stc stg scW mkW apW BD cl2 BP C3 B9
variable {w0:World}
theorem IP {K:J2} (h:K [] [tI RI]):cl2 ⟨Try.prog,w0⟩ 121 C6.sg [] [] K:=by
 refine C6.cl2 ?_
 unfold C6.txt
 refine BM (fun i=>[iv i]) (fun i=>[tI (List.replicate i (-1))]) 3 (fun _=>True) rfl rfl trivial (fun R i hi hP hR=> ?_)
 simp only [AI,AP,AN,AS,AK,AE,AJ,AH,AM,AT,AL,AR,AO,AQ,BC,BE,BF,BJ,BL,BK,BH,AW,A5,AZ,A4,AY,AX]
 refine A9 (A7 (fun hlt=> ?_) fun hge=> ?_)
 ·have hlt:i<3:=by omega
  refine DG rfl (by simp;omega) (A8 (by omega) ?_)
  have:=hR hlt trivial
  rw [List.replicate_succ', ←C4] at this
  exact this
 ·have:i=3:=by omega
  subst this
  exact h
structure St (h:Hp):Prop where
 ol:h.AA.length=8
 wl:h.B4.length=8
 sl:h.sites.length≤6
 bl:h.buffer.length≤100
 of: ∀o∈h.AA,OF o
 ss: ∀s∈h.sites,(s.size:Int)≤1048576
 wf: ∀w∈h.B4,F64 w.target
 bf: ∀x∈h.buffer,F64 x
theorem St.fits {h:Hp} (s:St h):Fits h:=⟨by have:=s.ol;omega,fun o ho=>by have:=(s.of o ho).len;omega,by have:=s.wl;omega,by have:=s.bl;omega,by have:=s.sl;omega,s.ss⟩
def EO (os:List AG) (id:Int):List AG:=if AB os id<0 then os else os.set (AB os id).toNat {ob os (AB os id).toNat with count:=w64 ((ob os (AB os id).toNat).count+1)}
theorem ZN (os:List AG) (id:Int):(EO os id).length=os.length:=by unfold EO;split <;> simp
theorem oO {os:List AG} {id:Int} (h: ∀o∈os,OF o): ∀o∈EO os id,OF o:=by
 unfold EO
 split
 ·exact h
 ·have hk:=BT (l:=os) (id:=id) (by omega)
  have ho:=h _ (JW (l:=os) (i:=(AB os id).toNat) (by omega))
  exact MX h ⟨ho.gen,ho.len,ho.fld⟩
theorem UP {h:Hp} {id:Int} {K:J2} (st:St h) (hid:F64 id) (hk:K [] (trees {h with AA:=EO h.AA id})):cl2 ⟨Try.prog,w0⟩ 153 FF.sg [I id] (trees h) K:=by
 refine FF.cl2 ?_
 unfold FF.txt
 refine KI st.fits ?_
 obtain ⟨os,ws,bf,ss⟩:=h
 have hol:os.length=8:=st.ol
 simp only [trees] at hk ⊢
 refine B1 hid (by omega) ?_
 simp only [AI,AP,AN,AS,AK,AE,AJ,AH,AM,AT,AL,AR,AO,AQ,BC,BE,BF,BJ,BL,BK,BH,AW,A5,AZ,A4,AY,AX]
 unfold EO at hk
 refine BW (LA (A7 (fun hs=> ?_) fun hs=> ?_))
 ·have hkk:=BT (l:=os) (id:=id) (by omega)
  rw [if_neg (by omega)] at hk
  obtain ⟨k,hkk⟩: ∃k,(AB os id).toNat=k:=⟨_,rfl⟩
  have hkI:AB os id=(k:Int):=by omega
  rw [hkk] at hk
  rw [hkI]
  have hkl:k<os.length:=by omega
  rw [tV hkl]
  exact AU (by omega) (SR (i:=k) hkl (by decide) rfl (H4 (AU (by omega) (L9 hkl hk))))
 ·rw [if_pos (by omega)] at hk;exact hk
theorem UN {h:Hp} {ids:List Int} {K:J2} (st:St h) (hi:ids.length≤100) (hid: ∀x∈ids,F64 x) (hK:K [] [tR tO (FY h.AA h.buffer ids).1,tR tW h.B4,tI (FY h.AA h.buffer ids).2.1,tS h.sites,tI (FY h.AA h.buffer ids).2.2]):cl2 ⟨Try.prog,w0⟩ 154 FT.sg [] [tR tO h.AA,tR tW h.B4,tI h.buffer,tS h.sites,tI ids] K:=by
 refine FT.cl2 ?_
 unfold FT.txt
 refine KI st.fits ?_
 obtain ⟨os,ws,buf,ss⟩:=h
 have hol:os.length=8:=st.ol
 have hof: ∀o∈os,OF o:=st.of
 have hb:buf.length≤100:=st.bl
 simp only [trees] at hK ⊢
 rw [List.nil_append]
 simp only [AI,AP,AN,AS,AK,AE,AJ,AH,AM,AT,AL,AR,AO,AQ,BC,BE,BF,BJ,BL,BK,BH,AW,A5,AZ,A4,AY,AX]
 refine DG (KH _) (by first | omega | (simp only [cnt,List.length_nil];omega)) ?_
 obtain ⟨R,hR0⟩: ∃R,FY os buf ids=R:=⟨_,rfl⟩
 have st:=LsI.start (buf:=buf) hol hof hid
 rw [hR0] at st hK
 refine DJ (α:=List AG×List Int×List Int×List Int×Nat) (fun q=>[iv (q.2.2.2.1.length-q.2.2.2.2),iv q.2.2.2.2]) (fun q=>[tI q.2.2.1,tI q.2.2.2.1,tR tO q.1,tR tW ws,tI q.2.1,tS ss]) (fun q=>mu q.2.2.1 (q.2.2.2.1.drop q.2.2.2.2)) (LsI R (buf.length+ids.length+36)) (os,buf,[],ids,0) rfl rfl st (fun Rr q hq hR=> ?_)
 obtain ⟨os,bf,freed,row,off⟩:=q
 have hq':LsI R (buf.length+ids.length+36) (os,bf,freed,row,off):=hq
 obtain ⟨ol,of,fr,ofl,td,sz,_⟩:=id hq'
 simp only at ol of fr ofl td sz
 have hmz:mu freed (row.drop off)=(row.length-off)+4*(9-freed.length):=by simp [mu]
 simp only [AI,AP,AN,AS,AK,AE,AJ,AH,AM,AT,AL,AR,AO,AQ,BC,BE,BF,BJ,BL,BK,BH,AW,A5,AZ,A4,AY,AX]
 simp only [BB]
 refine JJ (BG (BG (ME (fun hlt=> ?_) fun hge=> ?_)))
 rotate_left
 ·refine ER hge rfl (B5 ?_)
  have:=hq'.stop (.inl (by
   have: ¬(((row.length-off:Nat):Int)>0):=hge
   omega))
  rw [this] at hK;exact hK
 have hlt':off<row.length:=by
  have:((row.length-off:Nat):Int)>0:=hlt
  omega
 refine KN (FH hlt rfl (A7 (fun h8=> ?_) fun h8=> ?_))
 rotate_left
 ·have:=hq'.stop (.inr (by omega))
  rw [this] at hK;exact hK
 have h8':freed.length≤8:=by omega
 obtain ⟨hidf,_⟩:=hq'.step hlt' h8'
 refine AU (j:=0) (by omega) (vS hlt' (zE (by omega) (B1 hidf (by omega) ?_)))
 have e1:off+AD (iv 1)*1=off+1:=by rw [BB]
 have e2:row.length-off-1=row.length-(off+1):=by omega
 simp only [BB,e2,Nat.mul_one,BC]
 have mu1:mu freed (row.drop (off+1))<mu freed (row.drop off):=by rw [drop_cons hlt',jK];omega
 refine A9 (A7 (fun hs=>hR (os,bf,freed,row,off+1) (hq'.skip hlt' h8' hs) mu1) fun hs=> ?_)
 have hs':0≤AB os (gI row off):=by omega
 have hk:=BT hs'
 have n1:=hq'.KD hlt' h8' hs'
 have n2:=hq'.put hlt' h8' hs'
 have n3:=fun hc row' off'=>hq'.free hlt' h8' hs' hc (row':=row') (off':=off')
 have hobf:=of _ (JW (l:=os) (i:=(AB os (gI row off)).toNat) (by omega))
 generalize hgid:gI row off=id at*
 obtain ⟨k,hkk⟩: ∃k,(AB os id).toNat=k:=⟨_,rfl⟩
 have hkI:AB os id=(k:Int):=by omega
 rw [hkk] at hk n1 n2 n3 hobf
 rw [hkI]
 have hkl:k<os.length:=by omega
 rw [tV hkl]
 generalize ho:ob os k=o at*
 refine AU (by omega) (SR (i:=k) hkl (by decide) rfl (b7 (AU (by omega) (L9 hkl ?_))))
 generalize hcc:w64 (o.count-1)=c at*
 simp only [AI,AP,AN,AS,AK,AE,AJ,AH,AM,AT,AL,AR,AO,AQ,BC,BE,BF,BJ,BL,BK,BH,AW,A5,AZ,A4,AY,AX]
 have hl8:(os.set k {o with count:=c}).length=os.length:=List.length_set
 simp only [List.length_set]
 refine AU (by omega) (SR (v:=I c) (i:=k) hkl (by decide) rfl ?_)
 refine JJ (A7 (fun hc=> ?_) fun hc=> ?_)
 ·refine BW (AU (by omega) (SR (v:= .bool o.purple) (i:=k) hkl (by decide) rfl (CY ?_)))
  cases hp:o.purple with
  | false=>
    refine CE (AU (by omega) (VB hkl (DG rfl (by omega) ?_)))
    have:=hR _ (n2 hc hp) (by simp only;exact mu1)
    simp only at this
    rw [←C4] at this
    simp only [AI,AP,AN,AS,AK,AE,AJ,AH,AM,AT,AL,AR,AO,AQ,BC,BE,BF,BJ,BL,BK,BH,AW,A5,AZ,A4,AY,AX]
    simp only [BB]
    exact this
  | true=>
    have:=hR _ (n1 hc hp) (by simp only;exact mu1)
    simp only [hp] at this
    refine B5 ?_
    simp only [AI,AP,AN,AS,AK,AE,AJ,AH,AM,AT,AL,AR,AO,AQ,BC,BE,BF,BJ,BL,BK,BH,AW,A5,AZ,A4,AY,AX]
    simp only [BB]
    exact this
 ·refine DG rfl (by omega) ?_
  have hfl:o.field.length=3:=hobf.len
  refine DJ (α:=Nat×List Int×Nat) (fun q=>[iv (q.2.1.length-q.2.2),iv q.2.2,I id,iv k,iv q.1]) (fun q=>[tI (freed++[id]),tI q.2.1,tR tO (os.set k {o with count:=c}),tR tW ws,tI bf,tS ss]) (fun q=>3-q.1) (fun q=>q.1≤3∧q.2.2≤q.2.1.length∧q.2.1.drop q.2.2=row.drop (off+1)++(o.field.take q.1).filter fun x=>decide (0≤x)) (0,row,off+1) rfl ?_ ⟨by omega,hlt',by simp⟩ (fun R2 q hq2 hR2=> ?_)
  ·simp only [C4]
  obtain ⟨i,rw',of'⟩:=q
  obtain ⟨hi3,hof',hdr⟩:=hq2
  simp only at hi3 hof' hdr
  have hrl:rw'.length-of'≤row.length-(off+1)+3:=by
   have e:=congrArg List.length hdr
   have:=List.length_filter_le (fun x=>decide (0≤x)) (o.field.take i)
   simp only [List.length_drop,List.length_append,List.length_take] at e this
   omega
  simp only [AI,AP,AN,AS,AK,AE,AJ,AH,AM,AT,AL,AR,AO,AQ,BC,BE,BF,BJ,BL,BK,BH,AW,A5,AZ,A4,AY,AX]
  simp only [List.length_set]
  refine AU (by omega) (bH (i:=k) hkl (by decide) rfl ?_)
  simp only [BB,nF hkl,AE]
  refine A9 (A7 (fun hlt=> ?_) fun hge=> ?_)
  ·have hlt:i<o.field.length:=by omega
   have hfx:=hobf.fld _ (CH hlt)
   refine BW (AU (by omega) (bH (i:=k) hkl (by decide) rfl ?_))
   have ed:(rw'.drop of').take (rw'.length-of')=rw'.drop of':=by rw [←List.length_drop,List.take_length]
   have ea:tI (rw'.drop of')++[T.c (I (gI o.field i))]=tI (rw'.drop of'++[gI o.field i]):=C4 _ _
   simp only [BB,nF hkl,AE,TE,Nat.mul_one,ed]
   refine AU hlt (uG hkl hlt ?_)
   simp only [BB]
   refine LA (A7 (fun hp=> ?_) fun hp=> ?_)
   ·refine AU (by omega) (bH (i:=k) hkl (by decide) rfl ?_)
    simp only [BB,nF hkl,AE]
    refine AU hlt (uG hkl hlt ?_)
    simp only [BB]
    refine DG rfl (by omega) ?_
    have:=hR2 (i+1,rw'.drop of'++[gI o.field i],0) ⟨by simp only;omega,by simp only;omega,by simp only [List.drop_zero];rw [hdr,List.take_succ_eq_append_getElem hlt,List.filter_append, ←List.append_assoc,CM hlt];congr 1;simp [hp]⟩ (by simp only;omega)
    refine A8 (by omega) ?_
    rw [ea]
    simp only [AI,AP,AN,AS,AK,AE,AJ,AH,AM,AT,AL,AR,AO,AQ,BC,BE,BF,BJ,BL,BK,BH,AW,A5,AZ,A4,AY,AX]
    simp only [BB]
    exact this
   ·have:=hR2 (i+1,rw',of') ⟨by simp only;omega,hof',by simp only;rw [hdr,List.take_succ_eq_append_getElem hlt,List.filter_append, ←List.append_assoc,CM hlt];simp;omega⟩ (by simp only;omega)
    refine A8 (by omega) ?_
    simp only [AI,AP,AN,AS,AK,AE,AJ,AH,AM,AT,AL,AR,AO,AQ,BC,BE,BF,BJ,BL,BK,BH,AW,A5,AZ,A4,AY,AX]
    simp only [BB]
    exact this
  ·have:i=o.field.length:=by omega
   subst this
   rw [List.take_length] at hdr
   refine TX (by omega) ?_
   try simp only [AI,List.length_set]
   refine AU (by omega) ?_
   simp only [BB]
   refine yP hkl (IP ?_)
   refine AU (by omega) ?_
   simp only [BB]
   refine zC hkl (z:=CF o.gen) rfl ?_
   exact hR _ (n3 hc _ _ hdr hof') (by simp only;rw [hdr];simp only [mu,List.length_append,List.length_singleton] at mu1 ⊢;have:=List.length_filter_le (fun x=>decide (0≤x)) o.field;omega)
end Go.Proofs.Ytklmcfpgdfibnaa.P
