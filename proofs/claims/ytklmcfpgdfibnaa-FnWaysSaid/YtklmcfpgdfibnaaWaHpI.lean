/- A part of the proof. -/
import Derived.Test.YtklmcfpgdfibnaaWaHpE
namespace Go.Proofs.Ytklmcfpgdfibnaa.P
open Go Go.Proofs.Ytklmcfpgdfibnaa Go.Proofs.Ytklmcfpgdfibnaa.Eng
set_option maxHeartbeats 4000000
set_option linter.unusedVariables false
set_option linter.unusedSimpArgs false
attribute [local irreducible] prP gP gE gF AX ixW ldc ldg ldl stc stg scW mkW apW BE cl2 BK C2 CI
variable {w0:World}
end Go.Proofs.Ytklmcfpgdfibnaa.P
namespace Go.Proofs.Ytklmcfpgdfibnaa.P
open Go Go.Proofs.Ytklmcfpgdfibnaa Go.Proofs.Ytklmcfpgdfibnaa.Eng
set_option linter.unusedVariables false
theorem wL {n:Nat} (hn:1≤n) {K:Value→Value→Prop} (h:K (iv 1) (iv (n-1))):scW n (some (.int .i64 1)) none K:=⟨1,n,rfl,rfl,hn,Nat.le_refl _,h⟩
set_option maxHeartbeats 4000000
set_option linter.unusedVariables false
set_option linter.unusedSimpArgs false
attribute [local irreducible] prP gP gE gF AX ixW ldc ldg ldl stc stg scW mkW apW BE cl2 BK C2 CI
variable {w0:World}
def P2:List Int:=[-1, -1, -1]
def B8 (g:Int):AE:=⟨false,g,0,0,0,0,P2,false⟩
def HW:Nat→List AE→List Int→List Int→List Int→List AE×List Int×List Int
 | 0,os,buf,freed,_=>(os,buf,freed)
 | f+1,os,buf,freed,todo=>match todo with
   | []=>(os,buf,freed)
   | id::todo=>if freed.length>8 then (os,buf,freed) else
     if AA os id<0 then HW f os buf freed todo else
     if w64 ((ob os (AA os id).toNat).count-1)>0 then
      (if (ob os (AA os id).toNat).purple=true then HW f (os.set (AA os id).toNat {ob os (AA os id).toNat with count:=w64 ((ob os (AA os id).toNat).count-1)}) buf freed todo
       else HW f (os.set (AA os id).toNat {ob os (AA os id).toNat with count:=w64 ((ob os (AA os id).toNat).count-1),purple:=true}) (buf++[id]) freed todo)
     else HW f (os.set (AA os id).toNat (B8 (ob os (AA os id).toNat).gen)) (buf.filter fun x=>decide (x≠id)) (freed++[id]) (todo++(ob os (AA os id).toNat).field.filter fun x=>decide (0≤x))
def mu (freed todo:List Int):Nat:=todo.length+4*(9-freed.length)
def FH (os:List AE) (buf ids:List Int):List AE×List Int×List Int:=HW (ids.length+37) os buf [] ids
theorem BF {l:List AE} {id:Int} (h:0≤AA l id):l.length=8∧8≤id∧AA l id=id % 8∧(AA l id).toNat<8∧(ob l (AA l id).toNat).live=true∧(ob l (AA l id).toNat).gen=id/8:=by
 unfold AA at h ⊢
 split at h
 ·omega
 ·split at h
  ·rename_i h1 h2
   rw [if_neg h1,if_pos h2]
   exact ⟨by omega,by omega,rfl,by omega,h2.1,h2.2⟩
  ·omega
structure OF (o:AE):Prop where
 gen:F64 o.gen
 len:o.field.length=3
 fld: ∀f∈o.field,F64 f
theorem OF.free {g:Int} (h:F64 g):OF (B8 g):=⟨h,rfl,by simp [B8,P2,F64]⟩
theorem ME {l:List AE} {P:AE→Prop} {i:Nat} {o:AE} (h: ∀x∈l,P x) (ho:P o): ∀x∈l.set i o,P x:=fun x hx=>(List.mem_or_eq_of_mem_set hx).elim (h x) fun he=>he ▸ ho
structure LsI (R:List AE×List Int×List Int) (M:Nat) (q:List AE×List Int×List Int×List Int×Nat):Prop where
 ol:q.1.length=8
 of: ∀o∈q.1,OF o
 fr:q.2.2.1.length≤9
 off:q.2.2.2.2≤q.2.2.2.1.length
 td: ∀x∈q.2.2.2.1.drop q.2.2.2.2,F64 x
 sz:q.2.1.length+mu q.2.2.1 (q.2.2.2.1.drop q.2.2.2.2)≤M
 go: ∃f,mu q.2.2.1 (q.2.2.2.1.drop q.2.2.2.2)<f∧HW f q.1 q.2.1 q.2.2.1 (q.2.2.2.1.drop q.2.2.2.2)=R
theorem mT (l:List Int) (a m:Nat):GB (tI l) [] (AD (iv a)) (AD (iv m)*1)=tI ((l.drop a).take m):=by
 rw [AW,AW];simp [GB,node,tI,List.map_drop,List.map_take]
theorem SQ {l:List Int} {x:Int} {K:J2} (hl:(l.length:Int)≤2^40) (h:K [] [tI (l.filter fun y=>decide (y≠x))]):cl2 ⟨Try.prog,w0⟩ 167 DP.sg [I x] [tI l] K:=by
 refine DP.cl2 ?_
 unfold DP.txt
 simp only [AI,AU,AL,AR,AQ,AG,AJ,AK,AO,AP,AN,AT,AS,AM,BH,BP,BS,BM,BQ,BN,BL,A6,A5,A4,A7,A8,A9]
 refine BJ (fun i=>[I x,iv i]) (fun i=>[tI ((l.take i).filter fun y=>decide (y≠x))]) l.length (fun _=>True) rfl rfl trivial (fun R i hi _ hR=> ?_)
 have hln:=List.length_filter_le (fun y=>decide (y≠x)) (l.take i)
 have hlt2:(l.take i).length≤i:=by simp;omega
 simp only [AI,AU,AL,AR,AQ,AG,AJ,AK,AO,AP,AN,AT,AS,AM,BH,BP,BS,BM,BQ,BN,BL,A6,A5,A4,A7,A8,A9]
 refine BA (AZ (fun hlt=> ?_) fun hge=> ?_)
 ·have hlt:i<l.length:=by omega
  replace hR:=hR hlt trivial
  rw [List.take_succ_eq_append_getElem hlt,List.filter_append,DB hlt] at hR
  refine BY (AH hlt (ldI hlt (C8 (AZ (fun he=> ?_) fun he=> ?_))))
  ·refine AH hlt (ldI hlt (DW rfl (by omega) (BB (by omega) ?_)))
   have e:([gI l i].filter fun y=>decide (y≠x))=[gI l i]:=by simp [he]
   rw [e, ←C9] at hR;exact hR
  ·refine BB (by omega) ?_
   have e:([gI l i].filter fun y=>decide (y≠x))=[]:=by simp at he;simp [he]
   rw [e,List.append_nil] at hR;exact hR
 ·have:i=l.length:=by omega
  subst this
  rw [List.take_length];exact h
theorem uK {l:List Int} {a:Nat} {K:Value→Prop} (ha:a<l.length) (h:K (I (gI l a))):ldc (tI l) [] (a+AD (iv 0)*1) K:=by
 have e:a+AD (iv 0)*1=AD (iv a)*1:=by rw [AW,AW];omega
 rw [e];exact ldI ha h
theorem drop_cons {l:List Int} {a:Nat} (ha:a<l.length):l.drop a=gI l a::l.drop (a+1):=by rw [List.drop_eq_getElem_cons ha,DB ha]
theorem fC {freed todo:List Int} {x:Int}:mu freed (x::todo)=mu freed todo+1:=by simp only [mu,List.length_cons];omega
theorem IS {l:List AE} {i:Nat} (h:i<l.length):ob l i∈l:=by rw [←DC h];exact List.getElem_mem h
theorem rN {l:List AE} {i:Nat} (h:i<l.length):tR tO l=tR tO (l.set i (ob l i)):=by rw [←DC h];exact oV h
theorem LsI.start {os:List AE} {buf ids:List Int} (hol:os.length=8) (hof: ∀o∈os,OF o) (hid: ∀x∈ids,F64 x):LsI (FH os buf ids) (buf.length+ids.length+36) (os,buf,[],ids,0):=
 ⟨hol,hof,Nat.zero_le _,Nat.zero_le _,by simpa using hid,by simp only [mu,List.drop_zero,List.length_nil];omega,ids.length+37,by simp only [mu,List.drop_zero,List.length_nil];omega,rfl⟩
section
variable {R:List AE×List Int×List Int} {M:Nat} {os:List AE} {buf freed row:List Int} {off:Nat}
theorem LsI.stop (h:LsI R M (os,buf,freed,row,off)) (hs:row.length≤off∨8<freed.length):R=(os,buf,freed):=by
 obtain ⟨_,_,_,_,_,_,f,hf,go⟩:=h
 simp only at hf go
 obtain ⟨f,rfl⟩: ∃f',f=f'+1:=⟨f-1,by omega⟩
 rcases hs with hs | hs
 ·rw [List.drop_of_length_le hs] at go
  rw [←go];rfl
 ·rw [←go]
  cases row.drop off with
  | nil=>rfl
  | cons x l=>simp only [HW,if_pos hs]
theorem LsI.step (h:LsI R M (os,buf,freed,row,off)) (hlt:off<row.length) (hfr:freed.length≤8):F64 (gI row off)∧ ∃f,mu freed (row.drop (off+1))<f∧HW (f+1) os buf freed (gI row off::row.drop (off+1))=R∧buf.length+mu freed (row.drop (off+1))+1≤M∧ ∀x∈row.drop (off+1),F64 x:=by
 obtain ⟨_,_,_,_,td,sz,f,hf,go⟩:=h
 simp only at td sz hf go
 rw [drop_cons hlt] at td sz hf go
 rw [fC] at sz hf
 obtain ⟨f,rfl⟩: ∃f',f=f'+1:=⟨f-1,by omega⟩
 exact ⟨td _ (by simp),f,by omega,go,by omega,fun x hx=>td x (by simp [hx])⟩
theorem LsI.skip (h:LsI R M (os,buf,freed,row,off)) (hlt:off<row.length) (hfr:freed.length≤8) (hs:AA os (gI row off)<0):LsI R M (os,buf,freed,row,off+1):=by
 obtain ⟨_,f,h1,h2,h3,h4⟩:=h.step hlt hfr
 rw [HW] at h2
 simp only at h2
 rw [if_neg (by omega),if_pos hs] at h2
 exact ⟨h.ol,h.of,h.fr,hlt,h4,by simp only;omega,f,h1,h2⟩
theorem LsI.JL (h:LsI R M (os,buf,freed,row,off)) (hlt:off<row.length) (hfr:freed.length≤8) (hs:0≤AA os (gI row off)) (hc:w64 ((ob os (AA os (gI row off)).toNat).count-1)>0) (hp:(ob os (AA os (gI row off)).toNat).purple=true):
  LsI R M (os.set (AA os (gI row off)).toNat {ob os (AA os (gI row off)).toNat with count:=w64 ((ob os (AA os (gI row off)).toNat).count-1)},buf,freed,row,off+1):=by
 obtain ⟨_,f,h1,h2,h3,h4⟩:=h.step hlt hfr
 have hk:=BF hs
 have ho:=h.of _ (IS (l:=os) (i:=(AA os (gI row off)).toNat) (by omega))
 rw [HW] at h2
 simp only at h2
 rw [if_neg (by omega),if_neg (by omega),if_pos hc,if_pos hp] at h2
 exact ⟨by simp only [List.length_set];exact h.ol,ME h.of ⟨ho.gen,ho.len,ho.fld⟩,h.fr,hlt,h4,by simp only;omega,f,h1,h2⟩
theorem LsI.put (h:LsI R M (os,buf,freed,row,off)) (hlt:off<row.length) (hfr:freed.length≤8) (hs:0≤AA os (gI row off)) (hc:w64 ((ob os (AA os (gI row off)).toNat).count-1)>0) (hp:(ob os (AA os (gI row off)).toNat).purple=false):
  LsI R M (os.set (AA os (gI row off)).toNat {ob os (AA os (gI row off)).toNat with count:=w64 ((ob os (AA os (gI row off)).toNat).count-1),purple:=true},buf++[gI row off],freed,row,off+1):=by
 obtain ⟨_,f,h1,h2,h3,h4⟩:=h.step hlt hfr
 have hk:=BF hs
 have ho:=h.of _ (IS (l:=os) (i:=(AA os (gI row off)).toNat) (by omega))
 rw [HW] at h2
 simp only at h2
 rw [if_neg (by omega),if_neg (by omega),if_pos hc,if_neg (by rw [hp];decide)] at h2
 exact ⟨by simp only [List.length_set];exact h.ol,ME h.of ⟨ho.gen,ho.len,ho.fld⟩,h.fr,hlt,h4,by simp only [List.length_append,List.length_singleton];omega,f,h1,h2⟩
theorem LsI.free (h:LsI R M (os,buf,freed,row,off)) (hlt:off<row.length) (hfr:freed.length≤8) (hs:0≤AA os (gI row off)) (hc: ¬w64 ((ob os (AA os (gI row off)).toNat).count-1)>0) {row':List Int} {off':Nat} (hrow:row'.drop off'=row.drop (off+1)++(ob os (AA os (gI row off)).toNat).field.filter fun x=>decide (0≤x)) (hle:off'≤row'.length):
  LsI R M (os.set (AA os (gI row off)).toNat (B8 (ob os (AA os (gI row off)).toNat).gen),buf.filter fun x=>decide (x≠gI row off),freed++[gI row off],row',off'):=by
 obtain ⟨_,f,h1,h2,h3,h4⟩:=h.step hlt hfr
 have hk:=BF hs
 have ho:=h.of _ (IS (l:=os) (i:=(AA os (gI row off)).toNat) (by omega))
 have hfl:=List.length_filter_le (fun x=>decide (0≤x)) (ob os (AA os (gI row off)).toNat).field
 have hbl:=List.length_filter_le (fun x=>decide (x≠gI row off)) buf
 rw [ho.len] at hfl
 rw [HW] at h2
 simp only at h2
 rw [if_neg (by omega),if_neg (by omega),if_neg hc] at h2
 have hmu:mu (freed++[gI row off]) (row'.drop off')≤mu freed (row.drop (off+1)):=by
  rw [hrow];simp only [mu,List.length_append,List.length_singleton];omega
 refine ⟨by simp only [List.length_set];exact h.ol,ME h.of (OF.free ho.gen),by simp only [List.length_append,List.length_singleton];omega,hle,fun x hx=> ?_,by simp only;omega,f,by simp only;omega,by rw [←h2,hrow]⟩
 simp only at hx
 rw [hrow] at hx
 rcases List.mem_append.1 hx with hx | hx
 ·exact h4 x hx
 ·exact ho.fld x (List.mem_filter.1 hx).1
end
section
variable {cur:List AE} {k:Nat} {y:AE}
theorem m0 (hk:k<cur.length):FJ (tR tO (cur.set k y)) [k*8+6]=tI y.field:=by have:=WJ (y:=y) hk;rwa [AW] at this
theorem rG {i:Nat} {K:Value→Prop} (hk:k<cur.length) (hi:i<y.field.length) (h:K (I (gI y.field i))):ldc (tR tO (cur.set k y)) [k*8+6] i K:=by
 have:=JE (l:=cur.set k y) (i:=k) (j:=i) (K:=K) (by simpa using hk) (by rw [←DC (by simpa using hk),List.getElem_set_self];exact hi) (by rw [←DC (by simpa using hk),List.getElem_set_self];exact h)
 simpa only [AW,Nat.mul_one] using this
theorem wT {K:Value→Prop} (hk:k<cur.length) (h:K (I y.gen)):ldc (tR tO (cur.set k y)) [] (k*8+1) K:=by
 have:=Q6 (f:=tO) (K:=K) (c:=1) (y:=y) hk (by decide) rfl h
 rwa [AW] at this
theorem wW {ts:List T} {z:AE} {K:List T→Prop} (hk:k<cur.length) (hy:ts=tO z) (h:K (tR tO (cur.set k z))):stg (tR tO (cur.set k y)) [] (k*8) ts K:=by
 have:=QG (f:=tO) (l:=cur.set k y) (K:=K) (by simpa using hk) hy (by rw [List.set_set];exact h)
 rwa [AW] at this
theorem Q7 (l:List Int) (a m:Nat):GB (tI l) [] a m=tI ((l.drop a).take m):=by simp [GB,node,tI,List.map_drop,List.map_take]
end
end Go.Proofs.Ytklmcfpgdfibnaa.P
namespace Go.Proofs.Ytklmcfpgdfibnaa.P
open Go Go.Proofs.Ytklmcfpgdfibnaa Go.Proofs.Ytklmcfpgdfibnaa.Eng
set_option maxHeartbeats 4000000
set_option linter.unusedVariables false
set_option linter.unusedSimpArgs false
attribute [local irreducible] prP gP gE gF AX ixW ldc ldg ldl stc stg scW mkW apW BE cl2 BK C2 CI
variable {w0:World}
theorem s9 (a b c d e f g h:Value) (l:List Value):nx (a::b::c::d::e::f::g::h::l) 7=h:=rfl
theorem r6 (a b c d e f g h i:Value) (l:List Value):nx (a::b::c::d::e::f::g::h::i::l) 8=i:=rfl
theorem rY (a b c d e f g h i j:Value) (l:List Value):nx (a::b::c::d::e::f::g::h::i::j::l) 9=j:=rfl
theorem vC (o:Wk):tv (nxT (tW o) 0)= .bool o.used:=rfl
theorem wU (o:Wk):tv (nxT (tW o) 1)=I o.target:=rfl
theorem rU (o:AE):tv (nxT (tO o) 0)= .bool o.live:=rfl
theorem q9 (o:AE):tv (nxT (tO o) 1)=I o.gen:=rfl
theorem rS (o:AE):tv (nxT (tO o) 2)=I o.site:=rfl
theorem rC (o:AE):tv (nxT (tO o) 3)=I o.holds:=rfl
theorem rJ (o:AE):tv (nxT (tO o) 4)=I o.roots:=rfl
theorem rQ (o:AE):tv (nxT (tO o) 5)=I o.count:=rfl
theorem rT (o:AE):tv (nxT (tO o) 7)= .bool o.purple:=rfl
theorem MJ {h:Hp} {K:J2} (hf:Fits h) (hn:TL h) (h1:BW h→K [.bool true] []) (h2: ¬BW h→K [.bool false] []):cl2 ⟨Try.prog,w0⟩ 19 DF.sg [] (trees h) K:=by
 have g1:=hf.ol;have g2:=hf.wl;have g3:=hf.sl;have g4:=hf.bl
 refine DF.cl2 ?_
 unfold DF.txt
 simp only [AI,AU,AL,AR,AQ,AG,AJ,AK,AO,AP,AN,AT,AS,AM,BH,BP,BS,BM,BQ,BN,BL,A6,A5,A4,A7,A8,A9]
 refine C8 (BO (BO (BO (MP (fun ho=> ?_) fun ho=> ?_))))
 rotate_left
 ·refine D9 ho rfl (BO (BO (BO (RJ (TP rfl (CL (h2 fun hk=>ho (by have:=hk.ol;omega))))))))
 refine C8 (EC ho rfl (BO (BO (BO (MP (fun hw=> ?_) fun hw=> ?_)))))
 rotate_left
 ·exact D9 hw rfl (CL (h2 fun hk=>hw (by have:=hk.wl;omega)))
 refine JQ (EC hw rfl (AZ (fun h6=>h2 fun hk=>(by have:=hk.sites.len;omega)) fun h6=> ?_))
 have o8:h.AB.length=8:=by omega
 have w8:h.B2.length=8:=by omega
 refine BJ (fun i=>[iv i]) (fun _=>[]) h.AB.length (fun i=> ∀k,k<i→TC h k) rfl rfl (fun k hk=>by omega) (fun R i hi hP hR=> ?_)
 simp only [AI,AU,AL,AR,AQ,AG,AJ,AK,AO,AP,AN,AT,AS,AM,BH,BP,BS,BM,BQ,BN,BL,A6,A5,A4,A7,A8,A9]
 refine BA (AZ (fun hlt=> ?_) fun hge=> ?_)
 ·have hi:i<h.AB.length:=by omega
  refine BY ?_
  have stepR:TC h i→R [iv (i+1)] []:=fun hk=>hR hi fun k hki=>(Nat.lt_succ_iff_lt_or_eq.1 hki).elim (hP k) fun he=>he ▸ hk
  have no: ¬TC h i→K [.bool false] []:=fun hk=>h2 fun hh=>hk (hh.obj i (by omega))
  clear hR h1 h2
  have hfo:=nH hf.of i
  have hnum:=hn.ob i
  obtain ⟨⟨n1,n2⟩,⟨n3,n4⟩,⟨n7,n8⟩,⟨n9,n10⟩,⟨n5,n6⟩,_⟩:=hnum
  have hib:=uN hf.ol hf.of i
  refine AH hi (V9 hi ?_)
  rw [HF hi,AG]
  refine DI (FW (BO (BO (BO (MP (fun hg=> ?_) fun hg=> ?_)))))
  rotate_left
  ·exact D9 hg rfl (CL (no fun hk=>hg hk.gen))
  refine C8 (EC hg rfl (AZ (fun h3=>no fun hk=>by have:=hk.len;omega) fun h3=> ?_))
  have hl3:(ob h.AB i).field.length=3:=by omega
  have hg:0≤(ob h.AB i).gen∧(ob h.AB i).gen≤999:=Decidable.not_not.1 hg
  simp only [rU,q9,rS,rC,rJ,rQ,rT]
  cases hv:(ob h.AB i).live with
  | false=>
    have dd:TC h i→(ob h.AB i).site=0∧(ob h.AB i).holds=0∧(ob h.AB i).roots=0∧(ob h.AB i).count=0∧(ob h.AB i).purple=false:=fun hk=>hk.dead hv
    refine CN (CL ?_)
    cases hpu:(ob h.AB i).purple
    ·repeat' (first | refine BO ?_ | refine RJ ?_ | refine D9 (by first | with_reducible assumption | omega) rfl ?_ | refine EC (by first | with_reducible assumption | omega) rfl ?_ | refine TP rfl ?_ | refine CL ?_ | refine CE ?_ | refine C8 ?_ | refine lY rfl rfl (fun _=> ?_) (fun _=> ?_) | refine MP (fun _=> ?_) (fun _=> ?_) | simp only [AI,AU,AL,AR,AQ,AG,AJ,AK,AO,AP,AN,AT,AS,AM,BH,BP,BS,BM,BQ,BN,BL,A6,A5,A4,A7,A8,A9])
     all_goals try exact no fun hk=>by have:=dd hk;omega
     have mk:(∀j,j<3→gI (ob h.AB i).field j= -1)→TC h i:=fun ha=>⟨hg,hl3,fun j hj hne=>absurd (ha j hj) hne,fun _=>⟨by omega,by omega,by omega,by omega,hpu⟩,fun hh=>by rw [hv] at hh;cases hh⟩
     refine BJ (fun j=>[iv i,iv j, .bool false,I (ob h.AB i).gen,I (ob h.AB i).site,I (ob h.AB i).holds,I (ob h.AB i).roots,I (ob h.AB i).count,iv (AD (iv i)*8+6), .bool false]) (fun _=>[]) 3 (fun j=> ∀k,k<j→gI (ob h.AB i).field k= -1) rfl rfl (fun k hk=>by omega) (fun R2 j hj hP2 hR2=> ?_)
     simp only [AI,AU,AL,AR,AQ,AG,AJ,AK,AO,AP,AN,AT,AS,AM,BH,BP,BS,BM,BQ,BN,BL,A6,A5,A4,A7,A8,A9]
     simp only [BL,s9,r6,rY]
     rw [AW (AD (iv i)*8+6),HF hi,AG,hl3]
     refine BA (AZ (fun hlt=> ?_) fun hge=> ?_)
     ·have hlt:j<3:=by omega
      refine AH hlt (JE hi (by omega) (C8 (AZ (fun hne=> ?_) fun hne=> ?_)))
      ·exact no fun hk=>by have:=(hk.lead j hlt hne).1;rw [hv] at this;cases this
      ·refine BB (by omega) (hR2 hlt fun k hk=> ?_)
       rcases Nat.lt_succ_iff_lt_or_eq.1 hk with h4 | rfl
       ·exact hP2 k h4
       ·omega
     ·have hj3:j=3:=by omega
      subst hj3
      exact BB (by omega) (stepR (mk hP2))
    ·repeat' (first | refine BO ?_ | refine RJ ?_ | refine D9 (by first | with_reducible assumption | omega) rfl ?_ | refine EC (by first | with_reducible assumption | omega) rfl ?_ | refine TP rfl ?_ | refine CL ?_ | refine C8 ?_ | refine lY rfl rfl (fun _=> ?_) (fun _=> ?_) | refine MP (fun _=> ?_) (fun _=> ?_))
     all_goals exact no fun hk=>by have:=(dd hk).2.2.2.2;rw [hpu] at this;cases this
  | true=>
    have ll:=fun hk:TC h i=>hk.lv hv
    refine CN (CE ?_)
    by_cases hz:1≤(ob h.AB i).gen∧(0≤(ob h.AB i).site∧(ob h.AB i).site≤(h.sites.length:Int)-1)∧(0≤(ob h.AB i).holds∧(ob h.AB i).holds≤20)∧(0≤(ob h.AB i).roots∧(ob h.AB i).roots≤20)
    ·obtain ⟨z1,z2,z3,z4⟩:=hz
     repeat' (first | refine DI ?_ | refine BO ?_ | refine DU (by first | with_reducible assumption | omega) ?_ | refine EC (by first | with_reducible assumption | omega) rfl ?_ | refine FM (by first | with_reducible assumption | omega) ?_ | refine BA ?_ | refine FW ?_ | refine G5 ⟨by omega,by omega⟩ ?_ | simp only [AI,AU,AL,AR,AQ,AG,AJ,AK,AO,AP,AN,AT,AS,AM,BH,BP,BS,BM,BQ,BN,BL,A6,A5,A4,A7,A8,A9])
     all_goals try (exfalso;omega)
     refine BJ (fun j=>[iv i,iv j, .bool true,I (ob h.AB i).gen,I (ob h.AB i).site,I (ob h.AB i).holds,I (ob h.AB i).roots,I (ob h.AB i).count,iv (AD (iv i)*8+6), .bool (ob h.AB i).purple]) (fun _=>[]) 3 (fun j=> ∀k,k<j→gI (ob h.AB i).field k≠ -1→(ob h.AB i).live=true∧0≤AA h.AB (gI (ob h.AB i).field k)) rfl rfl (fun k hk=>by omega) (fun R2 j hj hP2 hR2=> ?_)
     simp only [AI,AU,AL,AR,AQ,AG,AJ,AK,AO,AP,AN,AT,AS,AM,BH,BP,BS,BM,BQ,BN,BL,A6,A5,A4,A7,A8,A9]
     simp only [BL,s9,r6,rY]
     rw [AW (AD (iv i)*8+6),HF hi,AG,hl3]
     refine BA (AZ (fun hlt=> ?_) fun hge=> ?_)
     ·have hlt:j<3:=by omega
      refine AH hlt (JE hi (by omega) ?_)
      repeat' (first | refine BX (hn.fld i j) (by omega) ?_ | refine BO ?_ | refine IA (by first | with_reducible assumption | omega) ?_ | refine K3 (by first | with_reducible assumption | omega) ?_ | refine D9 (by first | with_reducible assumption | omega) rfl ?_ | refine EC (by first | with_reducible assumption | omega) rfl ?_ | refine CE ?_ | refine BA ?_ | refine C8 ?_ | refine BB (by omega) ?_ | refine AH (by omega) ?_ | refine JE (by omega) (by omega) ?_ | refine AZ (fun _=> ?_) (fun _=> ?_) | refine LP (fun _=> ?_) (fun _=> ?_))
      all_goals first
       | (refine hR2 hlt fun k hk hne=> ?_
          rcases Nat.lt_succ_iff_lt_or_eq.1 hk with h4 | rfl
          ·exact hP2 k h4 hne
          ·first
           | exact absurd hne (by assumption)
           | exact ⟨hv,by omega⟩)
       | (refine no fun hk=> ?_
          have h4:=hk.lead j hlt (by assumption)
          omega)
     ·have hj3:j=3:=by omega
      subst hj3
      have fin:(ob h.AB i).count=(ob h.AB i).holds+(ob h.AB i).roots+inE h.AB i→1≤(ob h.AB i).count→(ob h.AB i).purple=decide (B6 i (ob h.AB i).gen∈h.buffer)→TC h i:=fun e f hp=>⟨hg,hl3,hP2,fun hh=>(by rw [hv] at hh;cases hh),fun _=>⟨z1,z2,z3,z4,e,f,hp⟩⟩
      refine FR ⟨by omega,by omega⟩ (OB ⟨by omega,by omega⟩ (by omega) hf.of (FR ⟨by omega,by omega⟩ ?_))
      repeat' (first | refine GK ?_ | refine GN (by omega) ?_ | refine BO ?_ | refine RJ ?_ | refine IK (by first | with_reducible assumption | omega) ?_ | refine DU (by first | with_reducible assumption | omega) ?_ | refine D9 (by first | with_reducible assumption | omega) rfl ?_ | refine EC (by first | with_reducible assumption | omega) rfl ?_ | refine TP rfl ?_ | refine CL ?_ | refine BA ?_ | refine C8 ?_ | refine FW ?_ | refine BB (by omega) ?_ | refine AZ (fun _=> ?_) (fun _=> ?_) | refine MP (fun _=> ?_) (fun _=> ?_))
      all_goals first
       | (refine no fun hk=> ?_
          have h4:=ll hk
          omega)
       | exact stepR (fin (by omega) (by omega) (Decidable.not_not.1 (by assumption)))
       | exact no fun hk=>absurd (ll hk).2.2.2.2.2.2 (by assumption)
    ·repeat' (first | refine DI ?_ | refine BO ?_ | refine RJ ?_ | refine IK (by first | with_reducible assumption | omega) ?_ | refine DU (by first | with_reducible assumption | omega) ?_ | refine D9 (by first | with_reducible assumption | omega) rfl ?_ | refine EC (by first | with_reducible assumption | omega) rfl ?_ | refine TP rfl ?_ | refine CL ?_ | refine EK (by first | with_reducible assumption | omega) ?_ | refine BA ?_ | refine FW ?_ | refine G5 ⟨by omega,by omega⟩ ?_ | refine MP (fun _=> ?_) (fun _=> ?_))
     all_goals first
      | (refine no fun hk=>hz ?_
         have:=ll hk
         exact ⟨this.1,this.2.1,this.2.2.1,this.2.2.2.1⟩)
      | (exfalso;omega)
 have hi8:i=8:=by omega
 subst hi8
 refine BJ (fun i=>[iv i]) (fun _=>[]) h.B2.length (fun i=> ∀k,k<i→((wk h.B2 k).used=false→(wk h.B2 k).target=0)∧((wk h.B2 k).used=true→8≤(wk h.B2 k).target∧(wk h.B2 k).target≤7999)) rfl rfl (fun k hk=>by omega) (fun R2 i hi hP2 hR2=> ?_)
 simp only [AI,AU,AL,AR,AQ,AG,AJ,AK,AO,AP,AN,AT,AS,AM,BH,BP,BS,BM,BQ,BN,BL,A6,A5,A4,A7,A8,A9]
 refine BA (AZ (fun hlt=> ?_) fun hge=> ?_)
 ·have hlt:i<h.B2.length:=by omega
  refine AH hlt (tB hlt ?_)
  have stepR:=fun hk=>hR2 hlt fun k hki=>(Nat.lt_succ_iff_lt_or_eq.1 hki).elim (hP2 k) fun he=>he ▸ hk
  simp only [vC,wU]
  cases hu:(wk h.B2 i).used with
  | false=>
    refine CN ?_
    repeat' (first | refine BO ?_ | refine Z1 ?_ | refine YM (by first | with_reducible assumption | omega) ?_ | refine c7 (by first | with_reducible assumption | omega) ?_ | refine LN ?_ | refine JW ?_ | refine IK (by first | with_reducible assumption | omega) ?_ | refine DU (by first | with_reducible assumption | omega) ?_ | refine D9 (by first | with_reducible assumption | omega) rfl ?_ | refine EC (by first | with_reducible assumption | omega) rfl ?_ | refine TP rfl ?_ | refine WW rfl ?_ | refine CL ?_ | refine CE ?_ | refine C8 ?_ | refine BB (by omega) ?_ | refine sE (fun _=> ?_) (fun _=> ?_))
    all_goals first
     | (refine stepR ⟨fun _=> ?_,fun hh=>(by rw [hu] at hh;cases hh)⟩
        first
         | omega
         | (simp_all;done))
     | (refine h2 fun hk=> ?_
        have h4:=(hk.weak i (by omega)).1 hu
        first
         | omega
         | (simp_all;done))
  | true=>
    refine CN ?_
    repeat' (first | refine DI ?_ | refine BO ?_ | refine Z1 ?_ | refine mU ?_ | refine LN ?_ | refine NS ?_ | refine JW ?_ | refine TP rfl ?_ | refine WW rfl ?_ | refine FW ?_ | refine BB (by omega) ?_ | refine AZ (fun _=> ?_) (fun _=> ?_))
    all_goals first
     | (refine stepR ⟨fun hh=>(by rw [hu] at hh;cases hh),fun _=> ?_⟩
        first
         | omega
         | (simp_all;done))
     | (refine h2 fun hk=> ?_
        have h4:=(hk.weak i (by omega)).2 hu
        first
         | omega
         | (simp_all;done))
 have hi8:i=8:=by omega
 subst hi8
 refine BJ (fun i=>[iv i]) (fun _=>[]) h.buffer.length (fun i=> ∀k,k<i→0≤AA h.AB (gI h.buffer k)∧gI h.buffer k∉h.buffer.take k) rfl rfl (fun k hk=>by omega) (fun R3 i hi hP3 hR3=> ?_)
 simp only [AI,AU,AL,AR,AQ,AG,AJ,AK,AO,AP,AN,AT,AS,AM,BH,BP,BS,BM,BQ,BN,BL,A6,A5,A4,A7,A8,A9]
 refine BA (AZ (fun hlt=> ?_) fun hge=> ?_)
 ·have hlt:i<h.buffer.length:=by omega
  have e:GB (tI h.buffer) [] (AD (dM (two (iv 0) (iv i)))*1) (AD (eD (two (iv 0) (iv i)))*1)=tI (h.buffer.take i):=by
   have h1:AD (dM (two (iv 0) (iv i)))=0:=rfl
   have h2:AD (eD (two (iv 0) (iv i)))=i:=AW i
   rw [h1,h2];simp [GB,node,tI,List.map_take]
  refine AH hlt (ldI hlt (BX (hn.bf i) (by omega) (BA (BO (BO (BO (MP (fun hb=> ?_) fun hb=> ?_)))))))
  ·refine cZ (by omega) (BO (BO (BO (DU hb (AH hlt (DU hb (ldI hlt (DU hb ?_))))))))
   rw [e]
   refine GN (by simp;omega) (EC hb rfl (AZ (fun hm=>h2 fun hk=>(hk.buf i hlt).2 hm) fun hm=> ?_))
   refine BB (by omega) (hR3 hlt fun k hk=> ?_)
   rcases Nat.lt_succ_iff_lt_or_eq.1 hk with h3 | rfl
   ·exact hP3 k h3
   ·exact ⟨by omega,hm⟩
  ·repeat' (first | refine BO ?_ | refine IK (by first | with_reducible assumption | omega) ?_ | refine D9 (by first | with_reducible assumption | omega) rfl ?_ | refine CL ?_)
   all_goals exact h2 fun hk=>by have:=(hk.buf i hlt).1;omega
 have hib:i=h.buffer.length:=by omega
 subst hib
 refine BJ (fun i=>[iv i]) (fun _=>[]) h.sites.length (fun i=> ∀k,k<i→(1≤((gS h.sites k).size:Int)∧((gS h.sites k).size:Int)≤8)∧gS h.sites k∉h.sites.take k) rfl rfl (fun k hk=>by omega) (fun R4 i hi hP4 hR4=> ?_)
 simp only [AI,AU,AL,AR,AQ,AG,AJ,AK,AO,AP,AN,AT,AS,AM,BH,BP,BS,BM,BQ,BN,BL,A6,A5,A4,A7,A8,A9]
 refine BA (AZ (fun hlt=> ?_) fun hge=> ?_)
 ·have hlt:i<h.sites.length:=by omega
  refine AH hlt (ldS hlt (eX (DI (FW (AZ (fun hb=>h2 fun hk=>hb (hk.sites.sz i hlt)) fun hb=> ?_)))))
  refine BJ (fun j=>[iv i,iv j]) (fun _=>[]) i (fun j=>gS h.sites i∉h.sites.take j) rfl rfl (by simp) (fun R5 j hj hP5 hR5=> ?_)
  simp only [AI,AU,AL,AR,AQ,AG,AJ,AK,AO,AP,AN,AT,AS,AM,BH,BP,BS,BM,BQ,BN,BL,A6,A5,A4,A7,A8,A9]
  refine BA (AZ (fun hlj=> ?_) fun hgj=> ?_)
  ·have hlj:j<i:=by omega
   refine AH (by omega) (ldS (by omega) (AH hlt (ldS hlt (cC (AZ (fun he=>h2 fun hk=>hk.sites.one i hlt ?_) fun he=> ?_)))))
   ·rw [←he, ←RM (by omega)]
    exact List.mem_take_iff_getElem.2 ⟨j,by omega,rfl⟩
   ·exact BB (by omega) (hR5 hlj (eM (by omega) hP5 he))
  ·have:j=i:=by omega
   subst this
   refine BB (by omega) (hR4 hlt fun k hk=> ?_)
   rcases Nat.lt_succ_iff_lt_or_eq.1 hk with h3 | rfl
   ·exact hP4 k h3
   ·exact ⟨Decidable.not_not.1 hb,hP5⟩
 ·have:i=h.sites.length:=by omega
  subst this
  exact h1 ⟨o8,w8,⟨by omega,fun i hi=>(hP4 i hi).1,fun i hi=>(hP4 i hi).2⟩,fun i hi=>hP i hi,fun i hi=>hP2 i hi,fun i hi=>hP3 i hi⟩
end Go.Proofs.Ytklmcfpgdfibnaa.P
namespace Go.Proofs.Ytklmcfpgdfibnaa.P
open Go Go.Proofs.Ytklmcfpgdfibnaa Go.Proofs.Ytklmcfpgdfibnaa.Eng
set_option linter.unusedVariables false
set_option maxHeartbeats 4000000
set_option linter.unusedVariables false
set_option linter.unusedSimpArgs false
attribute [local irreducible] prP gP gE gF AX ixW ldc ldg ldl stc stg scW mkW apW BE cl2 BK C2 CI
variable {w0:World}
theorem HV {K:J2} (h:K [] [tI P2]):cl2 ⟨Try.prog,w0⟩ 121 C0.sg [] [] K:=by
 refine C0.cl2 ?_
 unfold C0.txt
 refine BJ (fun i=>[iv i]) (fun i=>[tI (List.replicate i (-1))]) 3 (fun _=>True) rfl rfl trivial (fun R i hi hP hR=> ?_)
 simp only [AI,AU,AL,AR,AQ,AG,AJ,AK,AO,AP,AN,AT,AS,AM,BH,BP,BS,BM,BQ,BN,BL,A6,A5,A4,A7,A8,A9]
 refine BA (AZ (fun hlt=> ?_) fun hge=> ?_)
 ·have hlt:i<3:=by omega
  refine DW rfl (by simp;omega) (BB (by omega) ?_)
  have:=hR hlt trivial
  rw [List.replicate_succ', ←C9] at this
  exact this
 ·have:i=3:=by omega
  subst this
  exact h
structure St (h:Hp):Prop where
 ol:h.AB.length=8
 wl:h.B2.length=8
 sl:h.sites.length≤6
 bl:h.buffer.length≤100
 of: ∀o∈h.AB,OF o
 ss: ∀s∈h.sites,(s.size:Int)≤1048576
 wf: ∀w∈h.B2,F64 w.target
 bf: ∀x∈h.buffer,F64 x
theorem St.fits {h:Hp} (s:St h):Fits h:=⟨by have:=s.ol;omega,fun o ho=>by have:=(s.of o ho).len;omega,by have:=s.wl;omega,by have:=s.bl;omega,by have:=s.sl;omega,s.ss⟩
def DZ (os:List AE) (id:Int):List AE:=if AA os id<0 then os else os.set (AA os id).toNat {ob os (AA os id).toNat with count:=w64 ((ob os (AA os id).toNat).count+1)}
theorem XL (os:List AE) (id:Int):(DZ os id).length=os.length:=by unfold DZ;split <;> simp
theorem lI {os:List AE} {id:Int} (h: ∀o∈os,OF o): ∀o∈DZ os id,OF o:=by
 unfold DZ
 split
 ·exact h
 ·have hk:=BF (l:=os) (id:=id) (by omega)
  have ho:=h _ (IS (l:=os) (i:=(AA os id).toNat) (by omega))
  exact ME h ⟨ho.gen,ho.len,ho.fld⟩
theorem TH {h:Hp} {id:Int} {K:J2} (st:St h) (hid:F64 id) (hk:K [] (trees {h with AB:=DZ h.AB id})):cl2 ⟨Try.prog,w0⟩ 153 EG.sg [I id] (trees h) K:=by
 refine EG.cl2 ?_
 unfold EG.txt
 refine JR st.fits ?_
 obtain ⟨os,ws,bf,ss⟩:=h
 have hol:os.length=8:=st.ol
 simp only [trees] at hk ⊢
 refine BX hid (by omega) ?_
 simp only [AI,AU,AL,AR,AQ,AG,AJ,AK,AO,AP,AN,AT,AS,AM,BH,BP,BS,BM,BQ,BN,BL,A6,A5,A4,A7,A8,A9]
 unfold DZ at hk
 refine BY (HL (AZ (fun hs=> ?_) fun hs=> ?_))
 ·have hkk:=BF (l:=os) (id:=id) (by omega)
  rw [if_neg (by omega)] at hk
  obtain ⟨k,hkk⟩: ∃k,(AA os id).toNat=k:=⟨_,rfl⟩
  have hkI:AA os id=(k:Int):=by omega
  rw [hkk] at hk
  rw [hkI]
  have hkl:k<os.length:=by omega
  rw [rN hkl]
  exact AH (by omega) (Q6 (i:=k) hkl (by decide) rfl (HG (AH (by omega) (KP hkl hk))))
 ·rw [if_pos (by omega)] at hk;exact hk
theorem TD {h:Hp} {ids:List Int} {K:J2} (st:St h) (hi:ids.length≤100) (hid: ∀x∈ids,F64 x) (hK:K [] [tR tO (FH h.AB h.buffer ids).1,tR tW h.B2,tI (FH h.AB h.buffer ids).2.1,tS h.sites,tI (FH h.AB h.buffer ids).2.2]):cl2 ⟨Try.prog,w0⟩ 154 E9.sg [] [tR tO h.AB,tR tW h.B2,tI h.buffer,tS h.sites,tI ids] K:=by
 refine E9.cl2 ?_
 unfold E9.txt
 refine JR st.fits ?_
 obtain ⟨os,ws,buf,ss⟩:=h
 have hol:os.length=8:=st.ol
 have hof: ∀o∈os,OF o:=st.of
 have hb:buf.length≤100:=st.bl
 simp only [trees] at hK ⊢
 rw [List.nil_append]
 simp only [AI,AU,AL,AR,AQ,AG,AJ,AK,AO,AP,AN,AT,AS,AM,BH,BP,BS,BM,BQ,BN,BL,A6,A5,A4,A7,A8,A9]
 refine DW (JT _) (by first | omega | (simp only [cnt,List.length_nil];omega)) ?_
 obtain ⟨R,hR0⟩: ∃R,FH os buf ids=R:=⟨_,rfl⟩
 have st:=LsI.start (buf:=buf) hol hof hid
 rw [hR0] at st hK
 refine EJ (α:=List AE×List Int×List Int×List Int×Nat) (fun q=>[iv (q.2.2.2.1.length-q.2.2.2.2),iv q.2.2.2.2]) (fun q=>[tI q.2.2.1,tI q.2.2.2.1,tR tO q.1,tR tW ws,tI q.2.1,tS ss]) (fun q=>mu q.2.2.1 (q.2.2.2.1.drop q.2.2.2.2)) (LsI R (buf.length+ids.length+36)) (os,buf,[],ids,0) rfl rfl st (fun Rr q hq hR=> ?_)
 obtain ⟨os,bf,freed,row,off⟩:=q
 have hq':LsI R (buf.length+ids.length+36) (os,bf,freed,row,off):=hq
 obtain ⟨ol,of,fr,ofl,td,sz,_⟩:=id hq'
 simp only at ol of fr ofl td sz
 have hmz:mu freed (row.drop off)=(row.length-off)+4*(9-freed.length):=by simp [mu]
 simp only [AI,AU,AL,AR,AQ,AG,AJ,AK,AO,AP,AN,AT,AS,AM,BH,BP,BS,BM,BQ,BN,BL,A6,A5,A4,A7,A8,A9]
 simp only [AW]
 refine JQ (BO (BO (LP (fun hlt=> ?_) fun hge=> ?_)))
 rotate_left
 ·refine EC hge rfl (CE ?_)
  have:=hq'.stop (.inl (by
   have: ¬(((row.length-off:Nat):Int)>0):=hge
   omega))
  rw [this] at hK;exact hK
 have hlt':off<row.length:=by
  have:((row.length-off:Nat):Int)>0:=hlt
  omega
 refine IJ (D9 hlt rfl (AZ (fun h8=> ?_) fun h8=> ?_))
 rotate_left
 ·have:=hq'.stop (.inr (by omega))
  rw [this] at hK;exact hK
 have h8':freed.length≤8:=by omega
 obtain ⟨hidf,_⟩:=hq'.step hlt' h8'
 refine AH (j:=0) (by omega) (uK hlt' (wL (by omega) (BX hidf (by omega) ?_)))
 have e1:off+AD (iv 1)*1=off+1:=by rw [AW]
 have e2:row.length-off-1=row.length-(off+1):=by omega
 simp only [AW,e2,Nat.mul_one,BH]
 have mu1:mu freed (row.drop (off+1))<mu freed (row.drop off):=by rw [drop_cons hlt',fC];omega
 refine BA (AZ (fun hs=>hR (os,bf,freed,row,off+1) (hq'.skip hlt' h8' hs) mu1) fun hs=> ?_)
 have hs':0≤AA os (gI row off):=by omega
 have hk:=BF hs'
 have n1:=hq'.JL hlt' h8' hs'
 have n2:=hq'.put hlt' h8' hs'
 have n3:=fun hc row' off'=>hq'.free hlt' h8' hs' hc (row':=row') (off':=off')
 have hobf:=of _ (IS (l:=os) (i:=(AA os (gI row off)).toNat) (by omega))
 generalize hgid:gI row off=id at*
 obtain ⟨k,hkk⟩: ∃k,(AA os id).toNat=k:=⟨_,rfl⟩
 have hkI:AA os id=(k:Int):=by omega
 rw [hkk] at hk n1 n2 n3 hobf
 rw [hkI]
 have hkl:k<os.length:=by omega
 rw [rN hkl]
 generalize ho:ob os k=o at*
 refine AH (by omega) (Q6 (i:=k) hkl (by decide) rfl (bO (AH (by omega) (KP hkl ?_))))
 generalize hcc:w64 (o.count-1)=c at*
 simp only [AI,AU,AL,AR,AQ,AG,AJ,AK,AO,AP,AN,AT,AS,AM,BH,BP,BS,BM,BQ,BN,BL,A6,A5,A4,A7,A8,A9]
 have hl8:(os.set k {o with count:=c}).length=os.length:=List.length_set
 simp only [List.length_set]
 refine AH (by omega) (Q6 (v:=I c) (i:=k) hkl (by decide) rfl ?_)
 refine JQ (AZ (fun hc=> ?_) fun hc=> ?_)
 ·refine BY (AH (by omega) (Q6 (v:= .bool o.purple) (i:=k) hkl (by decide) rfl (CN ?_)))
  cases hp:o.purple with
  | false=>
    refine CL (AH (by omega) (TM hkl (DW rfl (by omega) ?_)))
    have:=hR _ (n2 hc hp) (by simp only;exact mu1)
    simp only at this
    rw [←C9] at this
    simp only [AI,AU,AL,AR,AQ,AG,AJ,AK,AO,AP,AN,AT,AS,AM,BH,BP,BS,BM,BQ,BN,BL,A6,A5,A4,A7,A8,A9]
    simp only [AW]
    exact this
  | true=>
    have:=hR _ (n1 hc hp) (by simp only;exact mu1)
    simp only [hp] at this
    refine CE ?_
    simp only [AI,AU,AL,AR,AQ,AG,AJ,AK,AO,AP,AN,AT,AS,AM,BH,BP,BS,BM,BQ,BN,BL,A6,A5,A4,A7,A8,A9]
    simp only [AW]
    exact this
 ·refine DW rfl (by omega) ?_
  have hfl:o.field.length=3:=hobf.len
  refine EJ (α:=Nat×List Int×Nat) (fun q=>[iv (q.2.1.length-q.2.2),iv q.2.2,I id,iv k,iv q.1]) (fun q=>[tI (freed++[id]),tI q.2.1,tR tO (os.set k {o with count:=c}),tR tW ws,tI bf,tS ss]) (fun q=>3-q.1) (fun q=>q.1≤3∧q.2.2≤q.2.1.length∧q.2.1.drop q.2.2=row.drop (off+1)++(o.field.take q.1).filter fun x=>decide (0≤x)) (0,row,off+1) rfl ?_ ⟨by omega,hlt',by simp⟩ (fun R2 q hq2 hR2=> ?_)
  ·simp only [C9]
  obtain ⟨i,rw',of'⟩:=q
  obtain ⟨hi3,hof',hdr⟩:=hq2
  simp only at hi3 hof' hdr
  have hrl:rw'.length-of'≤row.length-(off+1)+3:=by
   have e:=congrArg List.length hdr
   have:=List.length_filter_le (fun x=>decide (0≤x)) (o.field.take i)
   simp only [List.length_drop,List.length_append,List.length_take] at e this
   omega
  simp only [AI,AU,AL,AR,AQ,AG,AJ,AK,AO,AP,AN,AT,AS,AM,BH,BP,BS,BM,BQ,BN,BL,A6,A5,A4,A7,A8,A9]
  simp only [List.length_set]
  refine AH (by omega) (X7 (i:=k) hkl (by decide) rfl ?_)
  simp only [AW,m0 hkl,AG]
  refine BA (AZ (fun hlt=> ?_) fun hge=> ?_)
  ·have hlt:i<o.field.length:=by omega
   have hfx:=hobf.fld _ (C7 hlt)
   refine BY (AH (by omega) (X7 (i:=k) hkl (by decide) rfl ?_))
   have ed:(rw'.drop of').take (rw'.length-of')=rw'.drop of':=by rw [←List.length_drop,List.take_length]
   have ea:tI (rw'.drop of')++[T.c (I (gI o.field i))]=tI (rw'.drop of'++[gI o.field i]):=C9 _ _
   simp only [AW,m0 hkl,AG,Q7,Nat.mul_one,ed]
   refine AH hlt (rG hkl hlt ?_)
   simp only [AW]
   refine HL (AZ (fun hp=> ?_) fun hp=> ?_)
   ·refine AH (by omega) (X7 (i:=k) hkl (by decide) rfl ?_)
    simp only [AW,m0 hkl,AG]
    refine AH hlt (rG hkl hlt ?_)
    simp only [AW]
    refine DW rfl (by omega) ?_
    have:=hR2 (i+1,rw'.drop of'++[gI o.field i],0) ⟨by simp only;omega,by simp only;omega,by simp only [List.drop_zero];rw [hdr,List.take_succ_eq_append_getElem hlt,List.filter_append, ←List.append_assoc,DB hlt];congr 1;simp [hp]⟩ (by simp only;omega)
    refine BB (by omega) ?_
    rw [ea]
    simp only [AI,AU,AL,AR,AQ,AG,AJ,AK,AO,AP,AN,AT,AS,AM,BH,BP,BS,BM,BQ,BN,BL,A6,A5,A4,A7,A8,A9]
    simp only [AW]
    exact this
   ·have:=hR2 (i+1,rw',of') ⟨by simp only;omega,hof',by simp only;rw [hdr,List.take_succ_eq_append_getElem hlt,List.filter_append, ←List.append_assoc,DB hlt];simp;omega⟩ (by simp only;omega)
    refine BB (by omega) ?_
    simp only [AI,AU,AL,AR,AQ,AG,AJ,AK,AO,AP,AN,AT,AS,AM,BH,BP,BS,BM,BQ,BN,BL,A6,A5,A4,A7,A8,A9]
    simp only [AW]
    exact this
  ·have:i=o.field.length:=by omega
   subst this
   rw [List.take_length] at hdr
   refine SQ (by omega) ?_
   try simp only [AI,List.length_set]
   refine AH (by omega) ?_
   simp only [AW]
   refine wT hkl (HV ?_)
   refine AH (by omega) ?_
   simp only [AW]
   refine wW hkl (z:=B8 o.gen) rfl ?_
   exact hR _ (n3 hc _ _ hdr hof') (by simp only;rw [hdr];simp only [mu,List.length_append,List.length_singleton] at mu1 ⊢;have:=List.length_filter_le (fun x=>decide (0≤x)) o.field;omega)
end Go.Proofs.Ytklmcfpgdfibnaa.P
