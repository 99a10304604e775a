/- A part of the proof. -/
import Derived.Test.YtklmcfpgdfibnaaLeHpE
namespace Go.Proofs.Ytklmcfpgdfibnaa.P
open Go Go.Proofs.Ytklmcfpgdfibnaa Go.Proofs.Ytklmcfpgdfibnaa.Eng
set_option maxHeartbeats 4000000
set_option linter.unusedVariables false
set_option linter.unusedSimpArgs false
attribute [local irreducible] prP gP gE gF AJ ixW ldc ldg ldl stc stg scW mkW apW A6 cl2 BF CM CB
variable {w0:World}
end Go.Proofs.Ytklmcfpgdfibnaa.P
namespace Go.Proofs.Ytklmcfpgdfibnaa.P
open Go Go.Proofs.Ytklmcfpgdfibnaa Go.Proofs.Ytklmcfpgdfibnaa.Eng
set_option linter.unusedVariables false
theorem yJ {n:Nat} (hn:1≤n) {K:Value→Value→Prop} (h:K (iv 1) (iv (n-1))):scW n (some (.int .i64 1)) none K:=⟨1,n,rfl,rfl,hn,Nat.le_refl _,h⟩
set_option maxHeartbeats 4000000
set_option linter.unusedVariables false
set_option linter.unusedSimpArgs false
attribute [local irreducible] prP gP gE gF AJ ixW ldc ldg ldl stc stg scW mkW apW A6 cl2 BF CM CB
variable {w0:World}
def MY:List Int:=[-1, -1, -1]
def CA (g:Int):AE:=⟨false,g,0,0,0,0,MY,false⟩
def HN:Nat→List AE→List Int→List Int→List Int→List AE×List Int×List Int
 | 0,os,buf,freed,_=>(os,buf,freed)
 | f+1,os,buf,freed,todo=>match todo with
   | []=>(os,buf,freed)
   | id::todo=>if freed.length>8 then (os,buf,freed) else
     if AA os id<0 then HN f os buf freed todo else
     if w64 ((ob os (AA os id).toNat).count-1)>0 then
      (if (ob os (AA os id).toNat).purple=true then HN f (os.set (AA os id).toNat {ob os (AA os id).toNat with count:=w64 ((ob os (AA os id).toNat).count-1)}) buf freed todo
       else HN f (os.set (AA os id).toNat {ob os (AA os id).toNat with count:=w64 ((ob os (AA os id).toNat).count-1),purple:=true}) (buf++[id]) freed todo)
     else HN f (os.set (AA os id).toNat (CA (ob os (AA os id).toNat).gen)) (buf.filter fun x=>decide (x≠id)) (freed++[id]) (todo++(ob os (AA os id).toNat).field.filter fun x=>decide (0≤x))
def mu (freed todo:List Int):Nat:=todo.length+4*(9-freed.length)
def EZ (os:List AE) (buf ids:List Int):List AE×List Int×List Int:=HN (ids.length+37) os buf [] ids
theorem BG {l:List AE} {id:Int} (h:0≤AA l id):l.length=8∧8≤id∧AA l id=id % 8∧(AA l id).toNat<8∧(ob l (AA l id).toNat).live=true∧(ob l (AA l id).toNat).gen=id/8:=by
 unfold AA at h ⊢
 split at h
 ·omega
 ·split at h
  ·rename_i h1 h2
   rw [if_neg h1,if_pos h2]
   exact ⟨by omega,by omega,rfl,by omega,h2.1,h2.2⟩
  ·omega
structure OF (o:AE):Prop where
 gen:F64 o.gen
 len:o.field.length=3
 fld: ∀f∈o.field,F64 f
theorem OF.free {g:Int} (h:F64 g):OF (CA g):=⟨h,rfl,by simp [CA,MY,F64]⟩
theorem LX {l:List AE} {P:AE→Prop} {i:Nat} {o:AE} (h: ∀x∈l,P x) (ho:P o): ∀x∈l.set i o,P x:=fun x hx=>(List.mem_or_eq_of_mem_set hx).elim (h x) fun he=>he ▸ ho
structure LsI (R:List AE×List Int×List Int) (M:Nat) (q:List AE×List Int×List Int×List Int×Nat):Prop where
 ol:q.1.length=8
 of: ∀o∈q.1,OF o
 fr:q.2.2.1.length≤9
 off:q.2.2.2.2≤q.2.2.2.1.length
 td: ∀x∈q.2.2.2.1.drop q.2.2.2.2,F64 x
 sz:q.2.1.length+mu q.2.2.1 (q.2.2.2.1.drop q.2.2.2.2)≤M
 go: ∃f,mu q.2.2.1 (q.2.2.2.1.drop q.2.2.2.2)<f∧HN f q.1 q.2.1 q.2.2.1 (q.2.2.2.1.drop q.2.2.2.2)=R
theorem SX {l:List Int} {x:Int} {K:J2} (hl:(l.length:Int)≤2^40) (h:K [] [tI (l.filter fun y=>decide (y≠x))]):cl2 ⟨Try.prog,w0⟩ 167 DL.sg [I x] [tI l] K:=by
 refine DL.cl2 ?_
 unfold DL.txt
 simp only [AN,AV,AK,AM,AU,AH,AL,AW,AO,AR,AS,AQ,AT,AP,BQ,BU,BY,BX,BZ,BW,BT,A7,BA,BB,A9,BC,A8]
 refine BK (fun i=>[I x,iv i]) (fun i=>[tI ((l.take i).filter fun y=>decide (y≠x))]) l.length (fun _=>True) rfl rfl trivial (fun R i hi _ hR=> ?_)
 have hln:=List.length_filter_le (fun y=>decide (y≠x)) (l.take i)
 have hlt2:(l.take i).length≤i:=by simp;omega
 simp only [AN,AV,AK,AM,AU,AH,AL,AW,AO,AR,AS,AQ,AT,AP,BQ,BU,BY,BX,BZ,BW,BT,A7,BA,BB,A9,BC,A8]
 refine A4 (AY (fun hlt=> ?_) fun hge=> ?_)
 ·have hlt:i<l.length:=by omega
  replace hR:=hR hlt trivial
  rw [List.take_succ_eq_append_getElem hlt,List.filter_append,EN hlt] at hR
  refine BV (AG hlt (ldI hlt (C0 (AY (fun he=> ?_) fun he=> ?_))))
  ·refine AG hlt (ldI hlt (GN rfl (by omega) (BD (by omega) ?_)))
   have e:([gI l i].filter fun y=>decide (y≠x))=[gI l i]:=by simp [he]
   rw [e, ←HV] at hR;exact hR
  ·refine BD (by omega) ?_
   have e:([gI l i].filter fun y=>decide (y≠x))=[]:=by simp at he;simp [he]
   rw [e,List.append_nil] at hR;exact hR
 ·have:i=l.length:=by omega
  subst this
  rw [List.take_length];exact h
theorem xE {l:List Int} {a:Nat} {K:Value→Prop} (ha:a<l.length) (h:K (I (gI l a))):ldc (tI l) [] (a+AB (iv 0)*1) K:=by
 have e:a+AB (iv 0)*1=AB (iv a)*1:=by rw [AX,AX];omega
 rw [e];exact ldI ha h
theorem drop_cons {l:List Int} {a:Nat} (ha:a<l.length):l.drop a=gI l a::l.drop (a+1):=by rw [List.drop_eq_getElem_cons ha,EN ha]
theorem jL {freed todo:List Int} {x:Int}:mu freed (x::todo)=mu freed todo+1:=by simp only [mu,List.length_cons];omega
theorem KF {l:List AE} {i:Nat} (h:i<l.length):ob l i∈l:=by rw [←DG h];exact List.getElem_mem h
theorem u6 {l:List AE} {i:Nat} (h:i<l.length):tR tO l=tR tO (l.set i (ob l i)):=by rw [←DG h];exact sJ h
theorem LsI.start {os:List AE} {buf ids:List Int} (hol:os.length=8) (hof: ∀o∈os,OF o) (hid: ∀x∈ids,F64 x):LsI (EZ os buf ids) (buf.length+ids.length+36) (os,buf,[],ids,0):=
 ⟨hol,hof,Nat.zero_le _,Nat.zero_le _,by simpa using hid,by simp only [mu,List.drop_zero,List.length_nil];omega,ids.length+37,by simp only [mu,List.drop_zero,List.length_nil];omega,rfl⟩
section
variable {R:List AE×List Int×List Int} {M:Nat} {os:List AE} {buf freed row:List Int} {off:Nat}
theorem LsI.stop (h:LsI R M (os,buf,freed,row,off)) (hs:row.length≤off∨8<freed.length):R=(os,buf,freed):=by
 obtain ⟨_,_,_,_,_,_,f,hf,go⟩:=h
 simp only at hf go
 obtain ⟨f,rfl⟩: ∃f',f=f'+1:=⟨f-1,by omega⟩
 rcases hs with hs | hs
 ·rw [List.drop_of_length_le hs] at go
  rw [←go];rfl
 ·rw [←go]
  cases row.drop off with
  | nil=>rfl
  | cons x l=>simp only [HN,if_pos hs]
theorem LsI.step (h:LsI R M (os,buf,freed,row,off)) (hlt:off<row.length) (hfr:freed.length≤8):F64 (gI row off)∧ ∃f,mu freed (row.drop (off+1))<f∧HN (f+1) os buf freed (gI row off::row.drop (off+1))=R∧buf.length+mu freed (row.drop (off+1))+1≤M∧ ∀x∈row.drop (off+1),F64 x:=by
 obtain ⟨_,_,_,_,td,sz,f,hf,go⟩:=h
 simp only at td sz hf go
 rw [drop_cons hlt] at td sz hf go
 rw [jL] at sz hf
 obtain ⟨f,rfl⟩: ∃f',f=f'+1:=⟨f-1,by omega⟩
 exact ⟨td _ (by simp),f,by omega,go,by omega,fun x hx=>td x (by simp [hx])⟩
theorem LsI.skip (h:LsI R M (os,buf,freed,row,off)) (hlt:off<row.length) (hfr:freed.length≤8) (hs:AA os (gI row off)<0):LsI R M (os,buf,freed,row,off+1):=by
 obtain ⟨_,f,h1,h2,h3,h4⟩:=h.step hlt hfr
 rw [HN] at h2
 simp only at h2
 rw [if_neg (by omega),if_pos hs] at h2
 exact ⟨h.ol,h.of,h.fr,hlt,h4,by simp only;omega,f,h1,h2⟩
theorem LsI.IX (h:LsI R M (os,buf,freed,row,off)) (hlt:off<row.length) (hfr:freed.length≤8) (hs:0≤AA os (gI row off)) (hc:w64 ((ob os (AA os (gI row off)).toNat).count-1)>0) (hp:(ob os (AA os (gI row off)).toNat).purple=true):
  LsI R M (os.set (AA os (gI row off)).toNat {ob os (AA os (gI row off)).toNat with count:=w64 ((ob os (AA os (gI row off)).toNat).count-1)},buf,freed,row,off+1):=by
 obtain ⟨_,f,h1,h2,h3,h4⟩:=h.step hlt hfr
 have hk:=BG hs
 have ho:=h.of _ (KF (l:=os) (i:=(AA os (gI row off)).toNat) (by omega))
 rw [HN] at h2
 simp only at h2
 rw [if_neg (by omega),if_neg (by omega),if_pos hc,if_pos hp] at h2
 exact ⟨by simp only [List.length_set];exact h.ol,LX h.of ⟨ho.gen,ho.len,ho.fld⟩,h.fr,hlt,h4,by simp only;omega,f,h1,h2⟩
theorem LsI.put (h:LsI R M (os,buf,freed,row,off)) (hlt:off<row.length) (hfr:freed.length≤8) (hs:0≤AA os (gI row off)) (hc:w64 ((ob os (AA os (gI row off)).toNat).count-1)>0) (hp:(ob os (AA os (gI row off)).toNat).purple=false):
  LsI R M (os.set (AA os (gI row off)).toNat {ob os (AA os (gI row off)).toNat with count:=w64 ((ob os (AA os (gI row off)).toNat).count-1),purple:=true},buf++[gI row off],freed,row,off+1):=by
 obtain ⟨_,f,h1,h2,h3,h4⟩:=h.step hlt hfr
 have hk:=BG hs
 have ho:=h.of _ (KF (l:=os) (i:=(AA os (gI row off)).toNat) (by omega))
 rw [HN] at h2
 simp only at h2
 rw [if_neg (by omega),if_neg (by omega),if_pos hc,if_neg (by rw [hp];decide)] at h2
 exact ⟨by simp only [List.length_set];exact h.ol,LX h.of ⟨ho.gen,ho.len,ho.fld⟩,h.fr,hlt,h4,by simp only [List.length_append,List.length_singleton];omega,f,h1,h2⟩
theorem LsI.free (h:LsI R M (os,buf,freed,row,off)) (hlt:off<row.length) (hfr:freed.length≤8) (hs:0≤AA os (gI row off)) (hc: ¬w64 ((ob os (AA os (gI row off)).toNat).count-1)>0) {row':List Int} {off':Nat} (hrow:row'.drop off'=row.drop (off+1)++(ob os (AA os (gI row off)).toNat).field.filter fun x=>decide (0≤x)) (hle:off'≤row'.length):
  LsI R M (os.set (AA os (gI row off)).toNat (CA (ob os (AA os (gI row off)).toNat).gen),buf.filter fun x=>decide (x≠gI row off),freed++[gI row off],row',off'):=by
 obtain ⟨_,f,h1,h2,h3,h4⟩:=h.step hlt hfr
 have hk:=BG hs
 have ho:=h.of _ (KF (l:=os) (i:=(AA os (gI row off)).toNat) (by omega))
 have hfl:=List.length_filter_le (fun x=>decide (0≤x)) (ob os (AA os (gI row off)).toNat).field
 have hbl:=List.length_filter_le (fun x=>decide (x≠gI row off)) buf
 rw [ho.len] at hfl
 rw [HN] at h2
 simp only at h2
 rw [if_neg (by omega),if_neg (by omega),if_neg hc] at h2
 have hmu:mu (freed++[gI row off]) (row'.drop off')≤mu freed (row.drop (off+1)):=by
  rw [hrow];simp only [mu,List.length_append,List.length_singleton];omega
 refine ⟨by simp only [List.length_set];exact h.ol,LX h.of (OF.free ho.gen),by simp only [List.length_append,List.length_singleton];omega,hle,fun x hx=> ?_,by simp only;omega,f,by simp only;omega,by rw [←h2,hrow]⟩
 simp only at hx
 rw [hrow] at hx
 rcases List.mem_append.1 hx with hx | hx
 ·exact h4 x hx
 ·exact ho.fld x (List.mem_filter.1 hx).1
end
section
variable {cur:List AE} {k:Nat} {y:AE}
theorem pY (hk:k<cur.length):HF (tR tO (cur.set k y)) [k*8+6]=tI y.field:=by have:=UP (y:=y) hk;rwa [AX] at this
theorem uH {i:Nat} {K:Value→Prop} (hk:k<cur.length) (hi:i<y.field.length) (h:K (I (gI y.field i))):ldc (tR tO (cur.set k y)) [k*8+6] i K:=by
 have:=QO (l:=cur.set k y) (i:=k) (j:=i) (K:=K) (by simpa using hk) (by rw [←DG (by simpa using hk),List.getElem_set_self];exact hi) (by rw [←DG (by simpa using hk),List.getElem_set_self];exact h)
 simpa only [AX,Nat.mul_one] using this
theorem yB {K:Value→Prop} (hk:k<cur.length) (h:K (I y.gen)):ldc (tR tO (cur.set k y)) [] (k*8+1) K:=by
 have:=RR (f:=tO) (K:=K) (c:=1) (y:=y) hk (by decide) rfl h
 rwa [AX] at this
theorem yF {ts:List T} {z:AE} {K:List T→Prop} (hk:k<cur.length) (hy:ts=tO z) (h:K (tR tO (cur.set k z))):stg (tR tO (cur.set k y)) [] (k*8) ts K:=by
 have:=S0 (f:=tO) (l:=cur.set k y) (K:=K) (by simpa using hk) hy (by rw [List.set_set];exact h)
 rwa [AX] at this
theorem RU (l:List Int) (a m:Nat):H9 (tI l) [] a m=tI ((l.drop a).take m):=by simp [H9,node,tI,List.map_drop,List.map_take]
end
end Go.Proofs.Ytklmcfpgdfibnaa.P
namespace Go.Proofs.Ytklmcfpgdfibnaa.P
open Go Go.Proofs.Ytklmcfpgdfibnaa Go.Proofs.Ytklmcfpgdfibnaa.Eng
set_option maxHeartbeats 4000000
set_option linter.unusedVariables false
set_option linter.unusedSimpArgs false
attribute [local irreducible] prP gP gE gF AJ ixW ldc ldg ldl stc stg scW mkW apW A6 cl2 BF CM CB
variable {w0:World}
theorem vP (a b c d e f g h:Value) (l:List Value):nx (a::b::c::d::e::f::g::h::l) 7=h:=rfl
theorem vX (a b c d e f g h i:Value) (l:List Value):nx (a::b::c::d::e::f::g::h::i::l) 8=i:=rfl
theorem xC (a b c d e f g h i j:Value) (l:List Value):nx (a::b::c::d::e::f::g::h::i::j::l) 9=j:=rfl
theorem zF (o:Wk):tv (nxT (tW o) 0)= .bool o.used:=rfl
theorem yC (o:Wk):tv (nxT (tW o) 1)=I o.target:=rfl
theorem uL (o:AE):tv (nxT (tO o) 0)= .bool o.live:=rfl
theorem uJ (o:AE):tv (nxT (tO o) 1)=I o.gen:=rfl
theorem u9 (o:AE):tv (nxT (tO o) 2)=I o.site:=rfl
theorem uS (o:AE):tv (nxT (tO o) 3)=I o.holds:=rfl
theorem uY (o:AE):tv (nxT (tO o) 4)=I o.roots:=rfl
theorem uV (o:AE):tv (nxT (tO o) 5)=I o.count:=rfl
theorem u7 (o:AE):tv (nxT (tO o) 7)= .bool o.purple:=rfl
theorem XD {h:Hp} {K:J2} (hf:Fits h) (hn:V5 h) (h1:BO h→K [.bool true] []) (h2: ¬BO h→K [.bool false] []):cl2 ⟨Try.prog,w0⟩ 19 FT.sg [] (trees h) K:=by
 have g1:=hf.ol;have g2:=hf.wl;have g3:=hf.sl;have g4:=hf.bl
 refine FT.cl2 ?_
 unfold FT.txt
 simp only [AN,AV,AK,AM,AU,AH,AL,AW,AO,AR,AS,AQ,AT,AP,BQ,BU,BY,BX,BZ,BW,BT,A7,BA,BB,A9,BC,A8]
 refine C0 (BH (BH (BH (OK (fun ho=> ?_) fun ho=> ?_))))
 rotate_left
 ·refine GC ho rfl (BH (BH (BH (YD (NX rfl (CU (h2 fun hk=>ho (by have:=hk.ol;omega))))))))
 refine C0 (F7 ho rfl (BH (BH (BH (OK (fun hw=> ?_) fun hw=> ?_)))))
 rotate_left
 ·exact GC hw rfl (CU (h2 fun hk=>hw (by have:=hk.wl;omega)))
 refine KJ (F7 hw rfl (AY (fun h6=>h2 fun hk=>(by have:=hk.sites.len;omega)) fun h6=> ?_))
 have o8:h.AD.length=8:=by omega
 have w8:h.B6.length=8:=by omega
 refine BK (fun i=>[iv i]) (fun _=>[]) h.AD.length (fun i=> ∀k,k<i→S4 h k) rfl rfl (fun k hk=>by omega) (fun R i hi hP hR=> ?_)
 simp only [AN,AV,AK,AM,AU,AH,AL,AW,AO,AR,AS,AQ,AT,AP,BQ,BU,BY,BX,BZ,BW,BT,A7,BA,BB,A9,BC,A8]
 refine A4 (AY (fun hlt=> ?_) fun hge=> ?_)
 ·have hi:i<h.AD.length:=by omega
  refine BV ?_
  have stepR:S4 h i→R [iv (i+1)] []:=fun hk=>hR hi fun k hki=>(Nat.lt_succ_iff_lt_or_eq.1 hki).elim (hP k) fun he=>he ▸ hk
  have no: ¬S4 h i→K [.bool false] []:=fun hk=>h2 fun hh=>hk (hh.obj i (by omega))
  clear hR h1 h2
  have hfo:=mQ hf.of i
  have hnum:=hn.ob i
  obtain ⟨⟨n1,n2⟩,⟨n3,n4⟩,⟨n7,n8⟩,⟨n9,n10⟩,⟨n5,n6⟩,_⟩:=hnum
  have hib:=wT hf.ol hf.of i
  refine AG hi (eE hi ?_)
  rw [KY hi,AH]
  refine DB (G5 (BH (BH (BH (OK (fun hg=> ?_) fun hg=> ?_)))))
  rotate_left
  ·exact GC hg rfl (CU (no fun hk=>hg hk.gen))
  refine C0 (F7 hg rfl (AY (fun h3=>no fun hk=>by have:=hk.len;omega) fun h3=> ?_))
  have hl3:(ob h.AD i).field.length=3:=by omega
  have hg:0≤(ob h.AD i).gen∧(ob h.AD i).gen≤999:=Decidable.not_not.1 hg
  simp only [uL,uJ,u9,uS,uY,uV,u7]
  cases hv:(ob h.AD i).live with
  | false=>
    have dd:S4 h i→(ob h.AD i).site=0∧(ob h.AD i).holds=0∧(ob h.AD i).roots=0∧(ob h.AD i).count=0∧(ob h.AD i).purple=false:=fun hk=>hk.dead hv
    refine EJ (CU ?_)
    cases hpu:(ob h.AD i).purple
    ·repeat' (first | refine BH ?_ | refine YD ?_ | refine GC (by first | with_reducible assumption | omega) rfl ?_ | refine F7 (by first | with_reducible assumption | omega) rfl ?_ | refine NX rfl ?_ | refine CU ?_ | refine B7 ?_ | refine C0 ?_ | refine uO rfl rfl (fun _=> ?_) (fun _=> ?_) | refine OK (fun _=> ?_) (fun _=> ?_) | simp only [AN,AV,AK,AM,AU,AH,AL,AW,AO,AR,AS,AQ,AT,AP,BQ,BU,BY,BX,BZ,BW,BT,A7,BA,BB,A9,BC,A8])
     all_goals try exact no fun hk=>by have:=dd hk;omega
     have mk:(∀j,j<3→gI (ob h.AD i).field j= -1)→S4 h i:=fun ha=>⟨hg,hl3,fun j hj hne=>absurd (ha j hj) hne,fun _=>⟨by omega,by omega,by omega,by omega,hpu⟩,fun hh=>by rw [hv] at hh;cases hh⟩
     refine BK (fun j=>[iv i,iv j, .bool false,I (ob h.AD i).gen,I (ob h.AD i).site,I (ob h.AD i).holds,I (ob h.AD i).roots,I (ob h.AD i).count,iv (AB (iv i)*8+6), .bool false]) (fun _=>[]) 3 (fun j=> ∀k,k<j→gI (ob h.AD i).field k= -1) rfl rfl (fun k hk=>by omega) (fun R2 j hj hP2 hR2=> ?_)
     simp only [AN,AV,AK,AM,AU,AH,AL,AW,AO,AR,AS,AQ,AT,AP,BQ,BU,BY,BX,BZ,BW,BT,A7,BA,BB,A9,BC,A8]
     simp only [BT,vP,vX,xC]
     rw [AX (AB (iv i)*8+6),KY hi,AH,hl3]
     refine A4 (AY (fun hlt=> ?_) fun hge=> ?_)
     ·have hlt:j<3:=by omega
      refine AG hlt (QO hi (by omega) (C0 (AY (fun hne=> ?_) fun hne=> ?_)))
      ·exact no fun hk=>by have:=(hk.lead j hlt hne).1;rw [hv] at this;cases this
      ·refine BD (by omega) (hR2 hlt fun k hk=> ?_)
       rcases Nat.lt_succ_iff_lt_or_eq.1 hk with h4 | rfl
       ·exact hP2 k h4
       ·omega
     ·have hj3:j=3:=by omega
      subst hj3
      exact BD (by omega) (stepR (mk hP2))
    ·repeat' (first | refine BH ?_ | refine YD ?_ | refine GC (by first | with_reducible assumption | omega) rfl ?_ | refine F7 (by first | with_reducible assumption | omega) rfl ?_ | refine NX rfl ?_ | refine CU ?_ | refine C0 ?_ | refine uO rfl rfl (fun _=> ?_) (fun _=> ?_) | refine OK (fun _=> ?_) (fun _=> ?_))
     all_goals exact no fun hk=>by have:=(dd hk).2.2.2.2;rw [hpu] at this;cases this
  | true=>
    have ll:=fun hk:S4 h i=>hk.lv hv
    refine EJ (B7 ?_)
    by_cases hz:1≤(ob h.AD i).gen∧(0≤(ob h.AD i).site∧(ob h.AD i).site≤(h.sites.length:Int)-1)∧(0≤(ob h.AD i).holds∧(ob h.AD i).holds≤20)∧(0≤(ob h.AD i).roots∧(ob h.AD i).roots≤20)
    ·obtain ⟨z1,z2,z3,z4⟩:=hz
     repeat' (first | refine DB ?_ | refine BH ?_ | refine G6 (by first | with_reducible assumption | omega) ?_ | refine F7 (by first | with_reducible assumption | omega) rfl ?_ | refine F9 (by first | with_reducible assumption | omega) ?_ | refine A4 ?_ | refine G5 ?_ | refine F8 ⟨by omega,by omega⟩ ?_ | simp only [AN,AV,AK,AM,AU,AH,AL,AW,AO,AR,AS,AQ,AT,AP,BQ,BU,BY,BX,BZ,BW,BT,A7,BA,BB,A9,BC,A8])
     all_goals try (exfalso;omega)
     refine BK (fun j=>[iv i,iv j, .bool true,I (ob h.AD i).gen,I (ob h.AD i).site,I (ob h.AD i).holds,I (ob h.AD i).roots,I (ob h.AD i).count,iv (AB (iv i)*8+6), .bool (ob h.AD i).purple]) (fun _=>[]) 3 (fun j=> ∀k,k<j→gI (ob h.AD i).field k≠ -1→(ob h.AD i).live=true∧0≤AA h.AD (gI (ob h.AD i).field k)) rfl rfl (fun k hk=>by omega) (fun R2 j hj hP2 hR2=> ?_)
     simp only [AN,AV,AK,AM,AU,AH,AL,AW,AO,AR,AS,AQ,AT,AP,BQ,BU,BY,BX,BZ,BW,BT,A7,BA,BB,A9,BC,A8]
     simp only [BT,vP,vX,xC]
     rw [AX (AB (iv i)*8+6),KY hi,AH,hl3]
     refine A4 (AY (fun hlt=> ?_) fun hge=> ?_)
     ·have hlt:j<3:=by omega
      refine AG hlt (QO hi (by omega) ?_)
      repeat' (first | refine CL (hn.fld i j) (by omega) ?_ | refine BH ?_ | refine PW (by first | with_reducible assumption | omega) ?_ | refine VP (by first | with_reducible assumption | omega) ?_ | refine GC (by first | with_reducible assumption | omega) rfl ?_ | refine F7 (by first | with_reducible assumption | omega) rfl ?_ | refine B7 ?_ | refine A4 ?_ | refine C0 ?_ | refine BD (by omega) ?_ | refine AG (by omega) ?_ | refine QO (by omega) (by omega) ?_ | refine AY (fun _=> ?_) (fun _=> ?_) | refine NV (fun _=> ?_) (fun _=> ?_))
      all_goals first
       | (refine hR2 hlt fun k hk hne=> ?_
          rcases Nat.lt_succ_iff_lt_or_eq.1 hk with h4 | rfl
          ·exact hP2 k h4 hne
          ·first
           | exact absurd hne (by assumption)
           | exact ⟨hv,by omega⟩)
       | (refine no fun hk=> ?_
          have h4:=hk.lead j hlt (by assumption)
          omega)
     ·have hj3:j=3:=by omega
      subst hj3
      have fin:(ob h.AD i).count=(ob h.AD i).holds+(ob h.AD i).roots+inE h.AD i→1≤(ob h.AD i).count→(ob h.AD i).purple=decide (B2 i (ob h.AD i).gen∈h.buffer)→S4 h i:=fun e f hp=>⟨hg,hl3,hP2,fun hh=>(by rw [hv] at hh;cases hh),fun _=>⟨z1,z2,z3,z4,e,f,hp⟩⟩
      refine EB ⟨by omega,by omega⟩ (OE ⟨by omega,by omega⟩ (by omega) hf.of (EB ⟨by omega,by omega⟩ ?_))
      repeat' (first | refine IP ?_ | refine M7 (by omega) ?_ | refine BH ?_ | refine YD ?_ | refine TD (by first | with_reducible assumption | omega) ?_ | refine G6 (by first | with_reducible assumption | omega) ?_ | refine GC (by first | with_reducible assumption | omega) rfl ?_ | refine F7 (by first | with_reducible assumption | omega) rfl ?_ | refine NX rfl ?_ | refine CU ?_ | refine A4 ?_ | refine C0 ?_ | refine G5 ?_ | refine BD (by omega) ?_ | refine AY (fun _=> ?_) (fun _=> ?_) | refine OK (fun _=> ?_) (fun _=> ?_))
      all_goals first
       | (refine no fun hk=> ?_
          have h4:=ll hk
          omega)
       | exact stepR (fin (by omega) (by omega) (Decidable.not_not.1 (by assumption)))
       | exact no fun hk=>absurd (ll hk).2.2.2.2.2.2 (by assumption)
    ·repeat' (first | refine DB ?_ | refine BH ?_ | refine YD ?_ | refine TD (by first | with_reducible assumption | omega) ?_ | refine G6 (by first | with_reducible assumption | omega) ?_ | refine GC (by first | with_reducible assumption | omega) rfl ?_ | refine F7 (by first | with_reducible assumption | omega) rfl ?_ | refine NX rfl ?_ | refine CU ?_ | refine FQ (by first | with_reducible assumption | omega) ?_ | refine A4 ?_ | refine G5 ?_ | refine F8 ⟨by omega,by omega⟩ ?_ | refine OK (fun _=> ?_) (fun _=> ?_))
     all_goals first
      | (refine no fun hk=>hz ?_
         have:=ll hk
         exact ⟨this.1,this.2.1,this.2.2.1,this.2.2.2.1⟩)
      | (exfalso;omega)
 have hi8:i=8:=by omega
 subst hi8
 refine BK (fun i=>[iv i]) (fun _=>[]) h.B6.length (fun i=> ∀k,k<i→((wk h.B6 k).used=false→(wk h.B6 k).target=0)∧((wk h.B6 k).used=true→8≤(wk h.B6 k).target∧(wk h.B6 k).target≤7999)) rfl rfl (fun k hk=>by omega) (fun R2 i hi hP2 hR2=> ?_)
 simp only [AN,AV,AK,AM,AU,AH,AL,AW,AO,AR,AS,AQ,AT,AP,BQ,BU,BY,BX,BZ,BW,BT,A7,BA,BB,A9,BC,A8]
 refine A4 (AY (fun hlt=> ?_) fun hge=> ?_)
 ·have hlt:i<h.B6.length:=by omega
  refine AG hlt (xF hlt ?_)
  have stepR:=fun hk=>hR2 hlt fun k hki=>(Nat.lt_succ_iff_lt_or_eq.1 hki).elim (hP2 k) fun he=>he ▸ hk
  simp only [zF,yC]
  cases hu:(wk h.B6 i).used with
  | false=>
    refine EJ ?_
    repeat' (first | refine BH ?_ | refine b7 ?_ | refine Z6 (by first | with_reducible assumption | omega) ?_ | refine fK (by first | with_reducible assumption | omega) ?_ | refine GO ?_ | refine GF ?_ | refine TD (by first | with_reducible assumption | omega) ?_ | refine G6 (by first | with_reducible assumption | omega) ?_ | refine GC (by first | with_reducible assumption | omega) rfl ?_ | refine F7 (by first | with_reducible assumption | omega) rfl ?_ | refine NX rfl ?_ | refine SO rfl ?_ | refine CU ?_ | refine B7 ?_ | refine C0 ?_ | refine BD (by omega) ?_ | refine w9 (fun _=> ?_) (fun _=> ?_))
    all_goals first
     | (refine stepR ⟨fun _=> ?_,fun hh=>(by rw [hu] at hh;cases hh)⟩
        first
         | omega
         | (simp_all;done))
     | (refine h2 fun hk=> ?_
        have h4:=(hk.weak i (by omega)).1 hu
        first
         | omega
         | (simp_all;done))
  | true=>
    refine EJ ?_
    repeat' (first | refine DB ?_ | refine BH ?_ | refine b7 ?_ | refine pO ?_ | refine GO ?_ | refine cF ?_ | refine GF ?_ | refine NX rfl ?_ | refine SO rfl ?_ | refine G5 ?_ | refine BD (by omega) ?_ | refine AY (fun _=> ?_) (fun _=> ?_))
    all_goals first
     | (refine stepR ⟨fun hh=>(by rw [hu] at hh;cases hh),fun _=> ?_⟩
        first
         | omega
         | (simp_all;done))
     | (refine h2 fun hk=> ?_
        have h4:=(hk.weak i (by omega)).2 hu
        first
         | omega
         | (simp_all;done))
 have hi8:i=8:=by omega
 subst hi8
 refine BK (fun i=>[iv i]) (fun _=>[]) h.buffer.length (fun i=> ∀k,k<i→0≤AA h.AD (gI h.buffer k)∧gI h.buffer k∉h.buffer.take k) rfl rfl (fun k hk=>by omega) (fun R3 i hi hP3 hR3=> ?_)
 simp only [AN,AV,AK,AM,AU,AH,AL,AW,AO,AR,AS,AQ,AT,AP,BQ,BU,BY,BX,BZ,BW,BT,A7,BA,BB,A9,BC,A8]
 refine A4 (AY (fun hlt=> ?_) fun hge=> ?_)
 ·have hlt:i<h.buffer.length:=by omega
  have e:H9 (tI h.buffer) [] (AB (oS (two (iv 0) (iv i)))*1) (AB (qG (two (iv 0) (iv i)))*1)=tI (h.buffer.take i):=by
   have h1:AB (oS (two (iv 0) (iv i)))=0:=rfl
   have h2:AB (qG (two (iv 0) (iv i)))=i:=AX i
   rw [h1,h2];simp [H9,node,tI,List.map_take]
  refine AG hlt (ldI hlt (CL (hn.bf i) (by omega) (A4 (BH (BH (BH (OK (fun hb=> ?_) fun hb=> ?_)))))))
  ·refine oG (by omega) (BH (BH (BH (G6 hb (AG hlt (G6 hb (ldI hlt (G6 hb ?_))))))))
   rw [e]
   refine M7 (by simp;omega) (F7 hb rfl (AY (fun hm=>h2 fun hk=>(hk.buf i hlt).2 hm) fun hm=> ?_))
   refine BD (by omega) (hR3 hlt fun k hk=> ?_)
   rcases Nat.lt_succ_iff_lt_or_eq.1 hk with h3 | rfl
   ·exact hP3 k h3
   ·exact ⟨by omega,hm⟩
  ·repeat' (first | refine BH ?_ | refine TD (by first | with_reducible assumption | omega) ?_ | refine GC (by first | with_reducible assumption | omega) rfl ?_ | refine CU ?_)
   all_goals exact h2 fun hk=>by have:=(hk.buf i hlt).1;omega
 have hib:i=h.buffer.length:=by omega
 subst hib
 refine BK (fun i=>[iv i]) (fun _=>[]) h.sites.length (fun i=> ∀k,k<i→(1≤((gS h.sites k).size:Int)∧((gS h.sites k).size:Int)≤8)∧gS h.sites k∉h.sites.take k) rfl rfl (fun k hk=>by omega) (fun R4 i hi hP4 hR4=> ?_)
 simp only [AN,AV,AK,AM,AU,AH,AL,AW,AO,AR,AS,AQ,AT,AP,BQ,BU,BY,BX,BZ,BW,BT,A7,BA,BB,A9,BC,A8]
 refine A4 (AY (fun hlt=> ?_) fun hge=> ?_)
 ·have hlt:i<h.sites.length:=by omega
  refine AG hlt (ldS hlt (iM (DB (G5 (AY (fun hb=>h2 fun hk=>hb (hk.sites.sz i hlt)) fun hb=> ?_)))))
  refine BK (fun j=>[iv i,iv j]) (fun _=>[]) i (fun j=>gS h.sites i∉h.sites.take j) rfl rfl (by simp) (fun R5 j hj hP5 hR5=> ?_)
  simp only [AN,AV,AK,AM,AU,AH,AL,AW,AO,AR,AS,AQ,AT,AP,BQ,BU,BY,BX,BZ,BW,BT,A7,BA,BB,A9,BC,A8]
  refine A4 (AY (fun hlj=> ?_) fun hgj=> ?_)
  ·have hlj:j<i:=by omega
   refine AG (by omega) (ldS (by omega) (AG hlt (ldS hlt (RK (AY (fun he=>h2 fun hk=>hk.sites.one i hlt ?_) fun he=> ?_)))))
   ·rw [←he, ←PV (by omega)]
    exact List.mem_take_iff_getElem.2 ⟨j,by omega,rfl⟩
   ·exact BD (by omega) (hR5 hlj (eY (by omega) hP5 he))
  ·have:j=i:=by omega
   subst this
   refine BD (by omega) (hR4 hlt fun k hk=> ?_)
   rcases Nat.lt_succ_iff_lt_or_eq.1 hk with h3 | rfl
   ·exact hP4 k h3
   ·exact ⟨Decidable.not_not.1 hb,hP5⟩
 ·have:i=h.sites.length:=by omega
  subst this
  exact h1 ⟨o8,w8,⟨by omega,fun i hi=>(hP4 i hi).1,fun i hi=>(hP4 i hi).2⟩,fun i hi=>hP i hi,fun i hi=>hP2 i hi,fun i hi=>hP3 i hi⟩
end Go.Proofs.Ytklmcfpgdfibnaa.P
namespace Go.Proofs.Ytklmcfpgdfibnaa.P
open Go Go.Proofs.Ytklmcfpgdfibnaa Go.Proofs.Ytklmcfpgdfibnaa.Eng
set_option linter.unusedVariables false
set_option maxHeartbeats 4000000
set_option linter.unusedVariables false
set_option linter.unusedSimpArgs false
attribute [local irreducible] prP gP gE gF AJ ixW ldc ldg ldl stc stg scW mkW apW A6 cl2 BF CM CB
variable {w0:World}
theorem IB {K:J2} (h:K [] [tI MY]):cl2 ⟨Try.prog,w0⟩ 121 CY.sg [] [] K:=by
 refine CY.cl2 ?_
 unfold CY.txt
 refine BK (fun i=>[iv i]) (fun i=>[tI (List.replicate i (-1))]) 3 (fun _=>True) rfl rfl trivial (fun R i hi hP hR=> ?_)
 simp only [AN,AV,AK,AM,AU,AH,AL,AW,AO,AR,AS,AQ,AT,AP,BQ,BU,BY,BX,BZ,BW,BT,A7,BA,BB,A9,BC,A8]
 refine A4 (AY (fun hlt=> ?_) fun hge=> ?_)
 ·have hlt:i<3:=by omega
  refine GN rfl (by simp;omega) (BD (by omega) ?_)
  have:=hR hlt trivial
  rw [List.replicate_succ', ←HV] at this
  exact this
 ·have:i=3:=by omega
  subst this
  exact h
structure St (h:Hp):Prop where
 ol:h.AD.length=8
 wl:h.B6.length=8
 sl:h.sites.length≤6
 bl:h.buffer.length≤100
 of: ∀o∈h.AD,OF o
 ss: ∀s∈h.sites,(s.size:Int)≤1048576
 wf: ∀w∈h.B6,F64 w.target
 bf: ∀x∈h.buffer,F64 x
theorem St.fits {h:Hp} (s:St h):Fits h:=⟨by have:=s.ol;omega,fun o ho=>by have:=(s.of o ho).len;omega,by have:=s.wl;omega,by have:=s.bl;omega,by have:=s.sl;omega,s.ss⟩
def DX (os:List AE) (id:Int):List AE:=if AA os id<0 then os else os.set (AA os id).toNat {ob os (AA os id).toNat with count:=w64 ((ob os (AA os id).toNat).count+1)}
theorem YW (os:List AE) (id:Int):(DX os id).length=os.length:=by unfold DX;split <;> simp
theorem oL {os:List AE} {id:Int} (h: ∀o∈os,OF o): ∀o∈DX os id,OF o:=by
 unfold DX
 split
 ·exact h
 ·have hk:=BG (l:=os) (id:=id) (by omega)
  have ho:=h _ (KF (l:=os) (i:=(AA os id).toNat) (by omega))
  exact LX h ⟨ho.gen,ho.len,ho.fld⟩
theorem S7 {h:Hp} {id:Int} {K:J2} (st:St h) (hid:F64 id) (hk:K [] (trees {h with AD:=DX h.AD id})):cl2 ⟨Try.prog,w0⟩ 153 EK.sg [I id] (trees h) K:=by
 refine EK.cl2 ?_
 unfold EK.txt
 refine JX st.fits ?_
 obtain ⟨os,ws,bf,ss⟩:=h
 have hol:os.length=8:=st.ol
 simp only [trees] at hk ⊢
 refine CL hid (by omega) ?_
 simp only [AN,AV,AK,AM,AU,AH,AL,AW,AO,AR,AS,AQ,AT,AP,BQ,BU,BY,BX,BZ,BW,BT,A7,BA,BB,A9,BC,A8]
 unfold DX at hk
 refine BV (O7 (AY (fun hs=> ?_) fun hs=> ?_))
 ·have hkk:=BG (l:=os) (id:=id) (by omega)
  rw [if_neg (by omega)] at hk
  obtain ⟨k,hkk⟩: ∃k,(AA os id).toNat=k:=⟨_,rfl⟩
  have hkI:AA os id=(k:Int):=by omega
  rw [hkk] at hk
  rw [hkI]
  have hkl:k<os.length:=by omega
  rw [u6 hkl]
  exact AG (by omega) (RR (i:=k) hkl (by decide) rfl (I4 (AG (by omega) (K4 hkl hk))))
 ·rw [if_pos (by omega)] at hk;exact hk
theorem S9 {h:Hp} {ids:List Int} {K:J2} (st:St h) (hi:ids.length≤100) (hid: ∀x∈ids,F64 x) (hK:K [] [tR tO (EZ h.AD h.buffer ids).1,tR tW h.B6,tI (EZ h.AD h.buffer ids).2.1,tS h.sites,tI (EZ h.AD h.buffer ids).2.2]):cl2 ⟨Try.prog,w0⟩ 154 FB.sg [] [tR tO h.AD,tR tW h.B6,tI h.buffer,tS h.sites,tI ids] K:=by
 refine FB.cl2 ?_
 unfold FB.txt
 refine JX st.fits ?_
 obtain ⟨os,ws,buf,ss⟩:=h
 have hol:os.length=8:=st.ol
 have hof: ∀o∈os,OF o:=st.of
 have hb:buf.length≤100:=st.bl
 simp only [trees] at hK ⊢
 rw [List.nil_append]
 simp only [AN,AV,AK,AM,AU,AH,AL,AW,AO,AR,AS,AQ,AT,AP,BQ,BU,BY,BX,BZ,BW,BT,A7,BA,BB,A9,BC,A8]
 refine GN (OW _) (by first | omega | (simp only [cnt,List.length_nil];omega)) ?_
 obtain ⟨R,hR0⟩: ∃R,EZ os buf ids=R:=⟨_,rfl⟩
 have st:=LsI.start (buf:=buf) hol hof hid
 rw [hR0] at st hK
 refine G7 (α:=List AE×List Int×List Int×List Int×Nat) (fun q=>[iv (q.2.2.2.1.length-q.2.2.2.2),iv q.2.2.2.2]) (fun q=>[tI q.2.2.1,tI q.2.2.2.1,tR tO q.1,tR tW ws,tI q.2.1,tS ss]) (fun q=>mu q.2.2.1 (q.2.2.2.1.drop q.2.2.2.2)) (LsI R (buf.length+ids.length+36)) (os,buf,[],ids,0) rfl rfl st (fun Rr q hq hR=> ?_)
 obtain ⟨os,bf,freed,row,off⟩:=q
 have hq':LsI R (buf.length+ids.length+36) (os,bf,freed,row,off):=hq
 obtain ⟨ol,of,fr,ofl,td,sz,_⟩:=id hq'
 simp only at ol of fr ofl td sz
 have hmz:mu freed (row.drop off)=(row.length-off)+4*(9-freed.length):=by simp [mu]
 simp only [AN,AV,AK,AM,AU,AH,AL,AW,AO,AR,AS,AQ,AT,AP,BQ,BU,BY,BX,BZ,BW,BT,A7,BA,BB,A9,BC,A8]
 simp only [AX]
 refine KJ (BH (BH (NV (fun hlt=> ?_) fun hge=> ?_)))
 rotate_left
 ·refine F7 hge rfl (B7 ?_)
  have:=hq'.stop (.inl (by
   have: ¬(((row.length-off:Nat):Int)>0):=hge
   omega))
  rw [this] at hK;exact hK
 have hlt':off<row.length:=by
  have:((row.length-off:Nat):Int)>0:=hlt
  omega
 refine KO (GC hlt rfl (AY (fun h8=> ?_) fun h8=> ?_))
 rotate_left
 ·have:=hq'.stop (.inr (by omega))
  rw [this] at hK;exact hK
 have h8':freed.length≤8:=by omega
 obtain ⟨hidf,_⟩:=hq'.step hlt' h8'
 refine AG (j:=0) (by omega) (xE hlt' (yJ (by omega) (CL hidf (by omega) ?_)))
 have e1:off+AB (iv 1)*1=off+1:=by rw [AX]
 have e2:row.length-off-1=row.length-(off+1):=by omega
 simp only [AX,e2,Nat.mul_one,BQ]
 have mu1:mu freed (row.drop (off+1))<mu freed (row.drop off):=by rw [drop_cons hlt',jL];omega
 refine A4 (AY (fun hs=>hR (os,bf,freed,row,off+1) (hq'.skip hlt' h8' hs) mu1) fun hs=> ?_)
 have hs':0≤AA os (gI row off):=by omega
 have hk:=BG hs'
 have n1:=hq'.IX hlt' h8' hs'
 have n2:=hq'.put hlt' h8' hs'
 have n3:=fun hc row' off'=>hq'.free hlt' h8' hs' hc (row':=row') (off':=off')
 have hobf:=of _ (KF (l:=os) (i:=(AA os (gI row off)).toNat) (by omega))
 generalize hgid:gI row off=id at*
 obtain ⟨k,hkk⟩: ∃k,(AA os id).toNat=k:=⟨_,rfl⟩
 have hkI:AA os id=(k:Int):=by omega
 rw [hkk] at hk n1 n2 n3 hobf
 rw [hkI]
 have hkl:k<os.length:=by omega
 rw [u6 hkl]
 generalize ho:ob os k=o at*
 refine AG (by omega) (RR (i:=k) hkl (by decide) rfl (dO (AG (by omega) (K4 hkl ?_))))
 generalize hcc:w64 (o.count-1)=c at*
 simp only [AN,AV,AK,AM,AU,AH,AL,AW,AO,AR,AS,AQ,AT,AP,BQ,BU,BY,BX,BZ,BW,BT,A7,BA,BB,A9,BC,A8]
 have hl8:(os.set k {o with count:=c}).length=os.length:=List.length_set
 simp only [List.length_set]
 refine AG (by omega) (RR (v:=I c) (i:=k) hkl (by decide) rfl ?_)
 refine KJ (AY (fun hc=> ?_) fun hc=> ?_)
 ·refine BV (AG (by omega) (RR (v:= .bool o.purple) (i:=k) hkl (by decide) rfl (EJ ?_)))
  cases hp:o.purple with
  | false=>
    refine CU (AG (by omega) (TO hkl (GN rfl (by omega) ?_)))
    have:=hR _ (n2 hc hp) (by simp only;exact mu1)
    simp only at this
    rw [←HV] at this
    simp only [AN,AV,AK,AM,AU,AH,AL,AW,AO,AR,AS,AQ,AT,AP,BQ,BU,BY,BX,BZ,BW,BT,A7,BA,BB,A9,BC,A8]
    simp only [AX]
    exact this
  | true=>
    have:=hR _ (n1 hc hp) (by simp only;exact mu1)
    simp only [hp] at this
    refine B7 ?_
    simp only [AN,AV,AK,AM,AU,AH,AL,AW,AO,AR,AS,AQ,AT,AP,BQ,BU,BY,BX,BZ,BW,BT,A7,BA,BB,A9,BC,A8]
    simp only [AX]
    exact this
 ·refine GN rfl (by omega) ?_
  have hfl:o.field.length=3:=hobf.len
  refine G7 (α:=Nat×List Int×Nat) (fun q=>[iv (q.2.1.length-q.2.2),iv q.2.2,I id,iv k,iv q.1]) (fun q=>[tI (freed++[id]),tI q.2.1,tR tO (os.set k {o with count:=c}),tR tW ws,tI bf,tS ss]) (fun q=>3-q.1) (fun q=>q.1≤3∧q.2.2≤q.2.1.length∧q.2.1.drop q.2.2=row.drop (off+1)++(o.field.take q.1).filter fun x=>decide (0≤x)) (0,row,off+1) rfl ?_ ⟨by omega,hlt',by simp⟩ (fun R2 q hq2 hR2=> ?_)
  ·simp only [HV]
  obtain ⟨i,rw',of'⟩:=q
  obtain ⟨hi3,hof',hdr⟩:=hq2
  simp only at hi3 hof' hdr
  have hrl:rw'.length-of'≤row.length-(off+1)+3:=by
   have e:=congrArg List.length hdr
   have:=List.length_filter_le (fun x=>decide (0≤x)) (o.field.take i)
   simp only [List.length_drop,List.length_append,List.length_take] at e this
   omega
  simp only [AN,AV,AK,AM,AU,AH,AL,AW,AO,AR,AS,AQ,AT,AP,BQ,BU,BY,BX,BZ,BW,BT,A7,BA,BB,A9,BC,A8]
  simp only [List.length_set]
  refine AG (by omega) (Y2 (i:=k) hkl (by decide) rfl ?_)
  simp only [AX,pY hkl,AH]
  refine A4 (AY (fun hlt=> ?_) fun hge=> ?_)
  ·have hlt:i<o.field.length:=by omega
   have hfx:=hobf.fld _ (ER hlt)
   refine BV (AG (by omega) (Y2 (i:=k) hkl (by decide) rfl ?_))
   have ed:(rw'.drop of').take (rw'.length-of')=rw'.drop of':=by rw [←List.length_drop,List.take_length]
   have ea:tI (rw'.drop of')++[T.c (I (gI o.field i))]=tI (rw'.drop of'++[gI o.field i]):=HV _ _
   simp only [AX,pY hkl,AH,RU,Nat.mul_one,ed]
   refine AG hlt (uH hkl hlt ?_)
   simp only [AX]
   refine O7 (AY (fun hp=> ?_) fun hp=> ?_)
   ·refine AG (by omega) (Y2 (i:=k) hkl (by decide) rfl ?_)
    simp only [AX,pY hkl,AH]
    refine AG hlt (uH hkl hlt ?_)
    simp only [AX]
    refine GN rfl (by omega) ?_
    have:=hR2 (i+1,rw'.drop of'++[gI o.field i],0) ⟨by simp only;omega,by simp only;omega,by simp only [List.drop_zero];rw [hdr,List.take_succ_eq_append_getElem hlt,List.filter_append, ←List.append_assoc,EN hlt];congr 1;simp [hp]⟩ (by simp only;omega)
    refine BD (by omega) ?_
    rw [ea]
    simp only [AN,AV,AK,AM,AU,AH,AL,AW,AO,AR,AS,AQ,AT,AP,BQ,BU,BY,BX,BZ,BW,BT,A7,BA,BB,A9,BC,A8]
    simp only [AX]
    exact this
   ·have:=hR2 (i+1,rw',of') ⟨by simp only;omega,hof',by simp only;rw [hdr,List.take_succ_eq_append_getElem hlt,List.filter_append, ←List.append_assoc,EN hlt];simp;omega⟩ (by simp only;omega)
    refine BD (by omega) ?_
    simp only [AN,AV,AK,AM,AU,AH,AL,AW,AO,AR,AS,AQ,AT,AP,BQ,BU,BY,BX,BZ,BW,BT,A7,BA,BB,A9,BC,A8]
    simp only [AX]
    exact this
  ·have:i=o.field.length:=by omega
   subst this
   rw [List.take_length] at hdr
   refine SX (by omega) ?_
   try simp only [AN,List.length_set]
   refine AG (by omega) ?_
   simp only [AX]
   refine yB hkl (IB ?_)
   refine AG (by omega) ?_
   simp only [AX]
   refine yF hkl (z:=CA o.gen) rfl ?_
   exact hR _ (n3 hc _ _ hdr hof') (by simp only;rw [hdr];simp only [mu,List.length_append,List.length_singleton] at mu1 ⊢;have:=List.length_filter_le (fun x=>decide (0≤x)) o.field;omega)
end Go.Proofs.Ytklmcfpgdfibnaa.P
