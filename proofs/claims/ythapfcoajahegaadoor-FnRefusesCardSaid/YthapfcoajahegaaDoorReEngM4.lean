/- A part of the proof. -/
import Derived.Test.YthapfcoajahegaaDoorReEngM3
namespace Go.Proofs.YthapfcoajahegaaDoor.Eng
open Go Go.RowKit
set_option linter.unusedVariables false
set_option linter.unusedSimpArgs false
set_option linter.constructorNameAsVariable false
mutual
theorem cY {s:St} {o o':Bool}: ∀(t:T) (u:Value) (F F':List Nat),TR s o t u F→TR s o' t u F'→F=F'
 | .c v,u,F,F',h,h'=>by simp only [TR] at h h';rw [h.2.2,h'.2.2]
 | .x,u,F,F',h,h'=>by simp only [TR] at h h';rw [h.2,h'.2]
 | .l e cs,u,F,F',h,h'=>by
   simp only [TR] at h h'
   rcases h with ⟨rfl,rfl,rfl⟩ | ⟨x,b,n,ob,F1,rfl,h2,h3,h4,h5,h6,rfl⟩
   ·rcases h' with ⟨_,_,rfl⟩ | ⟨x,b,n,ob,F1,h1,_⟩
    ·rfl
    ·cases h1
   ·rcases h' with ⟨h1,_⟩ | ⟨x',b',n',ob',F1',h1,k2,k3,k4,k5,k6,rfl⟩
    ·cases h1
    ·cases h1
     rw [h3] at k3;cases k3
     rw [YO cs _ _ _ h6 k6]
theorem YO {s:St} {o o':Bool}: ∀(ts:List T) (us:List Value) (F F':List Nat),TRs s o ts us F→TRs s o' ts us F'→F=F'
 | [],us,F,F',h,h'=>by simp only [TRs] at h h';rw [h.2,h'.2]
 | t::ts,us,F,F',h,h'=>by
   simp only [TRs] at h h'
   obtain ⟨u,us',F1,F2,rfl,h2,h3,rfl⟩:=h
   obtain ⟨u',us'',F1',F2',he,k2,k3,rfl⟩:=h'
   cases he
   rw [cY t u _ _ h2 k2,YO ts us' _ _ h3 k3]
end
theorem Win.vQ {s:St} {o o':Bool} {cs:List T} {h b:Nat} {F F':List Nat} (h1:Win s o cs h b F) (h2:Win s o' cs h b F'):F=F':=by
 obtain ⟨ob,F1,a1,a2,a3,a4,rfl⟩:=h1
 obtain ⟨ob',F2,b1,b2,b3,b4,rfl⟩:=h2
 rw [a1] at b1;cases b1
 rw [YO _ _ _ _ a4 b4]
theorem Win.uS {s s':St} {h' b':Nat} {ds ds':List T} {G Gn:List Nat} (hl:ds'.length=ds.length) (hG:Win s true ds h' b' G) (hnew:Win s' true ds' h' b' Gn) (hGn:Gn.Nodup): ∀{pre:List Nat} {cs:List T} {h b:Nat} {F:List Nat},Win s true cs h b F→F.Nodup→Eng.node cs pre=some ds→spot s h b pre=some (h',b')→
  (∀x∈Gn,x∈F→x∈G)→(∀x∈F,x∉G→s'.get x=s.get x)→ ∃F2,Win s' true (IG cs pre ds') h b F2∧F2.Nodup∧ ∀x∈F2,x∈Gn∨(x∈F∧x∉G)
 | [],cs,h,b,F,hw,hnd,hn,hs,hc,hfr=>by
   simp only [Eng.node,Option.some.injEq] at hn;subst hn
   simp only [spot,Option.some.injEq,Prod.mk.injEq] at hs
   obtain ⟨rfl,rfl⟩:=hs
   exact ⟨Gn,hnew,hGn,fun x hx=> .inl hx⟩
 | i::r,cs,h,b,F,hw,hnd,hn,hs,hc,hfr=>by
   simp only [Eng.node] at hn
   obtain ⟨ob,F1,h1,h2,h3,h4,rfl⟩:=hw
   split at hn
   ·rename_i e es hi
    have hlt:=(List.getElem?_eq_some_iff.1 hi).1
    obtain ⟨Fa,Fb,Fc,rfl,k1,k2,k3⟩:=K7 h4 i 1
    have e1:(cs.drop i).take 1=[.l e es]:=by rw [List.take_one,List.head?_drop,hi];rfl
    rw [e1] at k2
    obtain ⟨u,hu,ht⟩:=IE.1 k2
    have hu':ob.cells[b+i]? =some u:=by
     rw [←JE _ _ _ _ hlt]
     rw [List.take_one,List.head?_drop] at hu
     cases hx:((ob.cells.drop b).take cs.length)[i]? with
     | none=>rw [hx] at hu;simp at hu
     | some y=>rw [hx] at hu;simp at hu;rw [hu]
    simp only [spot,h1,hu'] at hs
    rcases IA.1 ht with ⟨rfl,_⟩ | ⟨x1,b1,n1,rfl,hlen,hw1⟩
    ·simp [nl] at hs
    ·simp only [sl] at hs
     have hnd1:=List.nodup_cons.1 hnd
     have nda:=List.nodup_append.1 hnd1.2
     have ndb:=List.nodup_append.1 nda.2.1
     have hGb: ∀x∈G,x∈Fb:=by
      rcases hw1.node hn with ⟨_,_,hh⟩ | ⟨h'',b'',F3,a1,a2,a3⟩
      ·rw [hh] at hs;cases hs
      ·rw [a1] at hs;cases hs
       rw [hG.vQ a2];exact fun x hx=>a3.subset hx
     have hsub: ∀x∈Fb,x∈h::(Fa++(Fb++Fc)):=fun x hx=>by simp [hx]
     obtain ⟨F2,g1,g2,g3⟩:=Win.uS hl hG hnew hGn hw1 ndb.1 hn hs (fun x hx hb=>hc x hx (hsub x hb)) (fun x hx hg=>hfr x (hsub x hx) hg)
     have hout: ∀x,x∈h::(Fa++(Fb++Fc))→x∉Fb→x∉F2:=fun x hx hnb h2=>by
      rcases g3 x h2 with hx2 | hx2
      ·exact hnb (hGb x (hc x hx2 hx))
      ·exact hnb hx2.1
     have hkeep: ∀x∈h::(Fa++(Fb++Fc)),x∉Fb→s'.get x=s.get x:=fun x hx hnb=>hfr x hx fun hg=>hnb (hGb x hg)
     have hhb:h∉Fb:=fun hb=>hnd1.1 (by simp [hb])
     have hab: ∀x∈Fa,x∉Fb:=fun x hx hb=>nda.2.2 x hx x (by simp [hb]) rfl
     have hcb: ∀x∈Fc,x∉Fb:=fun x hx hb=>ndb.2.2 x hb x hx rfl
     have hh:s'.get h=some ob:=by rw [hkeep h (by simp) hhb];exact h1
     refine ⟨h::(Fa++(F2++Fc)),⟨ob,_,hh,h2, ?_, ?_,rfl⟩, ?_,fun x hx=> ?_⟩
     ·simp only [IG,hi,List.length_set];exact h3
     ·simp only [IG,hi,List.length_set]
      rw [IJ _ _ _ hlt]
      have hval:(ob.cells.drop b).take cs.length=((ob.cells.drop b).take cs.length).take i++([sl x1 b1 n1 e]++((ob.cells.drop b).take cs.length).drop (i+1)):=by
       conv=>lhs;rw [←List.take_append_drop i ((ob.cells.drop b).take cs.length)]
       congr 1
       rw [←List.drop_drop]
       conv=>lhs;rw [←List.take_append_drop 1 (((ob.cells.drop b).take cs.length).drop i)]
       rw [hu]
      rw [hval]
      exact ON (Fb:=Fb) (ts':=[.l e (IG es r ds')]) k1 k3 (IE.2 ⟨_,rfl,IA.2 (.inr ⟨x1,b1,n1,rfl,by rw [I2 hn hl];exact hlen,g1⟩)⟩) (fun x hx=>hkeep x (by simp [hx]) (hab x hx)) (fun x hx=>hkeep x (by simp [hx]) (hcb x hx))
     ·refine List.nodup_cons.2 ⟨fun hx=> ?_,List.nodup_append.2 ⟨nda.1,List.nodup_append.2 ⟨g2,ndb.2.1,fun x hx y hy he=> ?_⟩,fun x hx y hy he=> ?_⟩⟩
      ·rcases List.mem_append.1 hx with hx | hx
       ·exact hnd1.1 (by simp [hx])
       ·rcases List.mem_append.1 hx with hx | hx
        ·exact hout h (by simp) hhb hx
        ·exact hnd1.1 (by simp [hx])
      ·subst he;exact hout x (by simp [hy]) (hcb x hy) hx
      ·subst he
       rcases List.mem_append.1 hy with hy | hy
       ·exact hout x (by simp [hx]) (hab x hx) hy
       ·exact nda.2.2 x hx x (by simp [hy]) rfl
     ·rcases List.mem_cons.1 hx with rfl | hx
      ·exact .inr ⟨by simp,fun hg=>hhb (hGb _ hg)⟩
      ·rcases List.mem_append.1 hx with hx | hx
       ·exact .inr ⟨by simp [hx],fun hg=>hab x hx (hGb _ hg)⟩
       ·rcases List.mem_append.1 hx with hx | hx
        ·rcases g3 x hx with hx | hx
         ·exact .inl hx
         ·exact .inr ⟨hsub x hx.1,hx.2⟩
        ·exact .inr ⟨by simp [hx],fun hg=>hcb x hx (hGb _ hg)⟩
   ·cases hn
theorem fI {B:Bas} {ro:List (List T)} {m:Mst} (hm:Mem B ro m) {x:E0} {e n:Nat} {c:List T} {u:Value} (hr:E0R ro m x u) (hc:EK ro m.ob x e=some c) (ho:M9 m.ob x=true): ∃F,TR m.s true (.l e c) u F∧F.Nodup∧(∀y∈F, ∃k∈F6 x,y∈(m.A k).F)∧ ∀k∈F6 x, ∃o,A9 m.ob k=some o∧HE o=true:=by
 cases x with
 | z=>
   simp only [EK,Option.some.injEq] at hc;subst hc
   exact ⟨[],IA.2 (.inl ⟨hr,rfl,rfl⟩),List.nodup_nil,fun y hy=>by simp at hy,fun k hk=>by simp [F6] at hk⟩
 | t k e'=>
   simp only [M9] at ho
   split at ho
   ·rename_i cs hl
    have hl2:=BC (ro:=ro) hl
    simp only [EK,hl2] at hc
    split at hc
    ·rename_i hb
     have:=Nat.eq_of_beq_eq_true hb;subst this
     simp only [Option.some.injEq] at hc;subst hc
     exact ⟨_,X5 hm hl2 hr,(hm.own k _ hl2 rfl).1,fun y hy=>⟨k,by simp [F6],hy⟩,fun j hj=>by simp only [F6,List.mem_singleton] at hj;subst hj;exact ⟨_,hl,rfl⟩⟩
    ·cases hc
   ·cases ho
 | n k pre e'=>
   simp only [M9] at ho
   split at ho
   ·rename_i cs hl
    have hl2:=BC (ro:=ro) hl
    simp only [EK,hl2] at hc
    split at hc
    ·rename_i hb
     have:=Nat.eq_of_beq_eq_true hb;subst this
     simp only [Option.some.injEq] at hc;subst hc
     obtain ⟨_,_,hpos,hr⟩:=hr
     obtain ⟨ds,h1,hr⟩:=hr _ _ hl2
     have hsub:L5 cs pre=ds:=by unfold L5;rw [h1]
     have hroot: ∀j∈F6 (.n k pre e), ∃o,A9 m.ob j=some o∧HE o=true:=fun j hj=>by simp only [F6,List.mem_singleton] at hj;subst hj;exact ⟨_,hl,rfl⟩
     rw [hsub]
     rcases hr with ⟨rfl,rfl⟩ | ⟨n',h,b,h3,h4,h5,rfl⟩
     ·exact ⟨[],IA.2 (.inl ⟨rfl,rfl,rfl⟩),List.nodup_nil,fun y hy=>by simp at hy,hroot⟩
     ·obtain ⟨F,hw,hF⟩:=hm.node hl2 h3 h1 h4
      exact ⟨F,IA.2 (.inr ⟨h,b,n',rfl,h5,hw⟩),hF.nodup (hm.own k _ hl2 rfl).1,fun y hy=>⟨k,by simp [F6],hF.subset hy⟩,hroot⟩
    ·cases hc
   ·cases ho
 | _=>simp [M9] at ho
theorem lZ {ob:Obs} {x:E0} (h:YL ob x=true):M9 ob x=true:=by
 cases x <;> first | exact h | (simp [YL] at h)
theorem ZQ {ro:List (List T)} {ob:Obs} {x:E0} {e:Nat} {c:List T} (h:EK ro ob x e=some c): ∃n,JN ro ob x=some n:=by
 cases x with
 | z=>exact ⟨0,rfl⟩
 | t k e'=>
   simp only [EK] at h;split at h
   ·split at h
    ·rename_i hl;simp only [JN,hl];exact ⟨_,rfl⟩
    ·cases h
   ·cases h
 | s k pre off n e'=>
   simp only [EK] at h;split at h
   ·split at h
    ·rename_i hl;simp only [JN,hl];exact ⟨_,rfl⟩
    ·cases h
   ·cases h
 | n k pre e'=>
   simp only [EK] at h;split at h
   ·split at h
    ·rename_i hl;simp only [JN,hl];exact ⟨_,rfl⟩
    ·cases h
   ·cases h
 | _=>simp [EK] at h
theorem n8 {B:Bas} {ro:List (List T)} {m:Mst} (hm:Mem B ro m) {x:E0} {e:Nat} {c:List T} {u:Value} (hr:E0R ro m x u) (hc:EK ro m.ob x e=some c): ∃F,TR m.s false (.l e c) u F∧(∀y∈F, ∃k∈F6 x,y∈(m.A k).F)∧ ∀k∈F6 x, ∃o,AE ro m.ob k=some o:=by
 obtain ⟨n,hn⟩:=ZQ hc
 have hco:=LB hm hr hc hn
 have hroot: ∀k∈F6 x, ∃o,AE ro m.ob k=some o:=by
  intro k hk
  cases x <;> simp only [F6,List.mem_singleton,List.not_mem_nil] at hk <;> (try subst hk) <;> simp only [EK] at hc <;> (try cases hc) <;> (split at hc <;> try cases hc) <;> (split at hc <;> try cases hc) <;> exact ⟨_,by assumption⟩
 have hrt: ∀k,OR x=some k→k∈F6 x:=fun k hk=>by cases x <;> simp only [OR,reduceCtorEq,Option.some.injEq] at hk <;> subst hk <;> simp [F6]
 rcases hco.at_ with ⟨rfl,_,rfl⟩ | ⟨h,b,F,own,rfl,hw,k,hk,hs⟩
 ·exact ⟨[],IA.2 (.inl ⟨rfl,rfl,rfl⟩),fun y hy=>by simp at hy,hroot⟩
 ·exact ⟨F,IA.2 (.inr ⟨h,b,n,rfl,hco.len,hw.ro⟩),fun y hy=>⟨k,hrt k hk,hs.subset hy⟩,hroot⟩
theorem WR: ∀{l:List Nat},T7 l=true→l.Nodup
 | [],_=>List.nodup_nil
 | a::r,h=>by
   simp only [T7,Bool.and_eq_true,Bool.not_eq_true'] at h
   refine List.nodup_cons.2 ⟨fun ha=> ?_,WR h.2⟩
   have:=List.any_eq_false.1 h.1 a ha
   simp at this
theorem iJ {a b:List Nat} (h:XP a b=true): ∀x∈a,x∉b:=by
 intro x hx hb
 unfold XP at h
 have:=List.all_eq_true.1 h x hx
 simp only [Bool.not_eq_true'] at this
 have:=List.any_eq_false.1 this x hb
 simp at this
def I8:List CS→List E0→List Nat
 | .v::r,sl=>I8 r sl
 | .t e 2::r, .t k _::sl=>k::I8 r sl
 | .t e _::r,x::sl=>I8 r sl
 | _,_=>[]
def I5:List CS→List E0→List Nat
 | .v::r,sl=>I5 r sl
 | .t e 1::r,x::sl=>F6 x++I5 r sl
 | .t e _::r,x::sl=>I5 r sl
 | _,_=>[]
def nsl:List CS→Nat
 | []=>0
 | .v::r=>nsl r
 | .t _ _::r=>nsl r+1
def One (m:Mst) (M:List Nat):List CS→List E0→List Value→List (List T)→Prop
 | .v::r,sl,sv,cs=>One m M r sl sv cs
 | .t _ 0::r,_::sl,_::sv,_::cs=>One m M r sl sv cs
 | .t e _::r,x::sl,u::sv,c::cs=>(∀k∈F6 x, ∀F,TR m.s true (.l e c) u F→ ∀y∈M,y∈(m.A k).F→y∈F)∧One m M r sl sv cs
 | _,_,_,_=>True
def IM:List CS→List E0→List Nat
 | .v::r,sl=>IM r sl
 | .t _ 0::r,_::sl=>IM r sl
 | .t _ _::r,x::sl=>F6 x++IM r sl
 | _,_=>[]
theorem One.mono {m:Mst} {M M':List Nat}: ∀{css:List CS} {sl:List E0} {sv:List Value} {cs:List (List T)},One m M css sl sv cs→(∀y∈M',y∈M∨ ∀k∈IM css sl,y∉(m.A k).F)→One m M' css sl sv cs
 | [],sl,sv,cs,_,_=>by simp only [One]
 | .v::r,sl,sv,cs,h,hy=>by simp only [One,IM] at*;exact One.mono h hy
 | .t e md::r,[],sv,cs,h,hy=>by cases md <;> simp only [One]
 | .t e md::r,x::sl,[],cs,h,hy=>by cases md <;> simp only [One]
 | .t e md::r,x::sl,u::sv,[],h,hy=>by cases md <;> simp only [One]
 | .t e 0::r,x::sl,u::sv,c::cs,h,hy=>by simp only [One,IM] at*;exact One.mono h hy
 | .t e (md+1)::r,x::sl,u::sv,c::cs,h,hy=>by
   simp only [One,IM] at*
   refine ⟨fun k hk F hF y hyM hyk=> ?_,One.mono h.2 fun y hyM=>(hy y hyM).imp id fun hh k hk=>hh k (by simp [hk])⟩
   rcases hy y hyM with h1 | h1
   ·exact h.1 k hk F hF y h1 hyk
   ·exact absurd hyk (h1 k (by simp [hk]))
theorem One.app {m:Mst} {M:List Nat} {c2:List CS} {s2:List E0} {v2:List Value} {k2:List (List T)} (h2:One m M c2 s2 v2 k2): ∀{c1:List CS} {s1:List E0} {v1:List Value} {k1:List (List T)},One m M c1 s1 v1 k1→s1.length=nsl c1→v1.length=nsl c1→k1.length=nsl c1→One m M (c1++c2) (s1++s2) (v1++v2) (k1++k2)
 | [],s1,v1,k1,_,a,b,c=>by
   rw [List.eq_nil_of_length_eq_zero a,List.eq_nil_of_length_eq_zero b,List.eq_nil_of_length_eq_zero c];exact h2
 | .v::r,s1,v1,k1,h,a,b,c=>by simp only [List.cons_append,One] at*;exact One.app h2 h a b c
 | .t e md::r,[],v1,k1,h,a,b,c=>by simp [nsl] at a
 | .t e md::r,x::s1,[],k1,h,a,b,c=>by simp [nsl] at b
 | .t e md::r,x::s1,u::v1,[],h,a,b,c=>by simp [nsl] at c
 | .t e 0::r,x::s1,u::v1,d::k1,h,a,b,c=>by simp only [List.cons_append,One] at*;exact One.app h2 h (by simpa [nsl] using a) (by simpa [nsl] using b) (by simpa [nsl] using c)
 | .t e (md+1)::r,x::s1,u::v1,d::k1,h,a,b,c=>by simp only [List.cons_append,One] at*;exact ⟨h.1,One.app h2 h.2 (by simpa [nsl] using a) (by simpa [nsl] using b) (by simpa [nsl] using c)⟩
theorem NZ {s:St}: ∀{k:List CS} {us vs:List Value} {cs:List (List T)} {sv:List Value} {M D:List Nat},C1 s k us vs cs sv M D→cs.length=nsl k∧sv.length=nsl k
 | [],us,vs,cs,sv,M,D,h=>by simp only [C1] at h;rw [h.2.2.1,h.2.2.2.1];exact ⟨rfl,rfl⟩
 | .v::r,us,vs,cs,sv,M,D,h=>by
   simp only [C1] at h
   obtain ⟨u,us',vs',rfl,_,_,h⟩:=h
   have:=NZ h
   simpa [nsl] using this
 | .t e m::r,us,vs,cs,sv,M,D,h=>by
   simp only [C1] at h
   obtain ⟨u,us',c,cs',sv',F,M',D',rfl,rfl,rfl,_,_,h⟩:=h
   obtain ⟨h1,h2⟩:=NZ h
   exact ⟨by simp [nsl,h1],by simp [nsl,h2]⟩
def AF (ro:List (List T)) (ob:Obs):List CS→List E0→List (List T)→Prop
 | .v::r,sl,cs=>AF ro ob r sl cs
 | .t e 1::r,x::sl,c::cs=>EK ro ob x e=some c∧M9 ob x=true∧AF ro ob r sl cs
 | .t _ _::r,_::sl,_::cs=>AF ro ob r sl cs
 | _,_,_=>True
theorem AF.app {ro:List (List T)} {ob:Obs} {c2:List CS} {s2:List E0} {k2:List (List T)} (h2:AF ro ob c2 s2 k2): ∀{c1:List CS} {s1:List E0} {k1:List (List T)},AF ro ob c1 s1 k1→s1.length=nsl c1→k1.length=nsl c1→AF ro ob (c1++c2) (s1++s2) (k1++k2)
 | [],s1,k1,_,a,c=>by
   rw [List.eq_nil_of_length_eq_zero a,List.eq_nil_of_length_eq_zero c];exact h2
 | .v::r,s1,k1,h,a,c=>by simp only [List.cons_append,AF] at*;exact AF.app h2 h a c
 | .t e md::r,[],k1,h,a,c=>by simp [nsl] at a
 | .t e md::r,x::s1,[],h,a,c=>by simp [nsl] at c
 | .t e 0::r,x::s1,d::k1,h,a,c=>by simp only [List.cons_append,AF] at*;exact AF.app h2 h (by simpa [nsl] using a) (by simpa [nsl] using c)
 | .t e 1::r,x::s1,d::k1,h,a,c=>by simp only [List.cons_append,AF] at*;exact ⟨h.1,h.2.1,AF.app h2 h.2.2 (by simpa [nsl] using a) (by simpa [nsl] using c)⟩
 | .t e (n+2)::r,x::s1,d::k1,h,a,c=>by simp only [List.cons_append,AF] at*;exact AF.app h2 h (by simpa [nsl] using a) (by simpa [nsl] using c)
structure iA (ro:List (List T)) (m:Mst) (css:List CS) (us:List Value) (p:Ar) (sv:List Value) (M D:List Nat):Prop where
 cells:C1 m.s css us p.vs p.cs sv M D
 sl:C3 (E0R ro m) p.sl sv
 mM: ∀x∈M, ∃k∈p.mu,x∈(m.A k).F
 dD: ∀x∈D, ∃k∈p.rd,x∈(m.A k).F
 nd:p.mu.Nodup→M.Nodup
 mu: ∀k∈p.mu, ∃o,A9 m.ob k=some o∧HE o=true
 rd: ∀k∈p.rd, ∃o,AE ro m.ob k=some o
 perm:p.mu.Perm (I8 css p.sl++I5 css p.sl)
 len:p.sl.length=nsl css
 muE:p.mu=IM css p.sl
 one:p.mu.Nodup→One m M css p.sl sv p.cs
 af:AF ro m.ob css p.sl p.cs
theorem IH {B:Bas} {ro:List (List T)} {m:Mst} (hm:Mem B ro m) {a b:List Nat} (ha: ∀k∈a, ∃o,A9 m.ob k=some o∧HE o=true) (hb: ∀k∈b, ∃o,AE ro m.ob k=some o) (hab: ∀k∈a,k∉b) {x:Nat} (h1: ∃k∈a,x∈(m.A k).F) (h2: ∃k∈b,x∈(m.A k).F):False:=by
 obtain ⟨k,hk,hx⟩:=h1
 obtain ⟨j,hj,hy⟩:=h2
 obtain ⟨o,ho,how⟩:=ha k hk
 obtain ⟨o2,ho2⟩:=hb j hj
 exact hm.dis k j o o2 (fun he=>hab k hk (he ▸ hj)) (BC ho) ho2 how x hx hy
theorem RU {B:Bas} {ro:List (List T)} {m:Mst} (hm:Mem B ro m): ∀(css:List CS) (xs:List E0) (us:List Value) (p:Ar),okC css=true→OJ ro m.ob css xs=some p→C3 (E0R ro m) xs us→ ∃sv M D,iA ro m css us p sv M D
 | [],[],[],p,_,h,_=>by
   simp only [OJ,Option.some.injEq] at h;subst h
   exact ⟨[],[],[],by simp only [C1];simp,trivial,fun x hx=>by simp at hx,fun x hx=>by simp at hx,fun _=>List.nodup_nil,fun x hx=>by simp at hx,fun x hx=>by simp at hx,by simp [I8,I5],rfl,rfl,fun _=>by simp only [One],by simp only [AF]⟩
 | [],x::xs,us,p,_,h,_=>by simp [OJ] at h
 | [],[],u::us,p,_,h,ha=>ha.elim
 | .v::r,[],us,p,_,h,_=>by simp [OJ] at h
 | .t e md::r,[],us,p,_,h,_=>by simp [OJ] at h
 | c::r,x::xs,[],p,_,h,ha=>ha.elim
 | .v::r,x::xs,u::us,p,hok,h,ha=>by
   cases x <;> simp only [OJ,reduceCtorEq] at h
   simp only [Option.map_eq_some_iff] at h
   obtain ⟨q,h1,rfl⟩:=h
   obtain ⟨sv,M,D,hq⟩:=RU hm r xs us q hok h1 ha.2
   have hx:=ha.1
   exact ⟨sv,M,D,by simp only [C1];exact ⟨u,us,q.vs,rfl,by rw [hx.1],by rw [hx.1];exact hx.2,hq.cells⟩,hq.sl,hq.mM,hq.dD,hq.nd,hq.mu,hq.rd,hq.perm,by simp [nsl,hq.len],hq.muE,fun hnd=>by simp only [One];exact hq.one hnd,by simp only [AF];exact hq.af⟩
 | .t e md::r,x::xs,u::us,p,hok,h,ha=>by
   simp only [OJ,Option.bind_eq_some_iff] at h
   obtain ⟨c,hc,q,h1,h⟩:=h
   simp only [okC,Bool.and_eq_true] at hok
   obtain ⟨sv,M,D,hq⟩:=RU hm r xs us q hok.2 h1 ha.2
   have hx:=ha.1
   match md,hok,h with
   | 0,hok,h=>
     simp only [Option.some.injEq] at h;subst h
     obtain ⟨F,f1,f2,f3⟩:=n8 hm hx hc
     refine ⟨u::sv,M,F++D,by simp only [C1];exact ⟨u,us,c,q.cs,sv,F,M,D,rfl,rfl,rfl,f1,⟨rfl,rfl⟩,hq.cells⟩,⟨hx,hq.sl⟩,hq.mM,fun y hy=> ?_,hq.nd,hq.mu,fun k hk=> ?_,by simpa [I8,I5] using hq.perm,by simp [nsl,hq.len],hq.muE,fun hnd=>by simp only [One];exact hq.one hnd,by simp only [AF];exact hq.af⟩
     ·rcases List.mem_append.1 hy with hy | hy
      ·obtain ⟨k,hk,hky⟩:=f2 y hy;exact ⟨k,by simp [hk],hky⟩
      ·obtain ⟨k,hk,hky⟩:=hq.dD y hy;exact ⟨k,by simp [hk],hky⟩
     ·rcases List.mem_append.1 hk with hk | hk
      ·exact f3 k hk
      ·exact hq.rd k hk
   | 1,hok,h=>
     simp only at h
     split at h
     ·rename_i ho
      simp only [Option.some.injEq] at h;subst h
      obtain ⟨F,f1,f2,f3,f4⟩:=fI (n:=0) hm hx hc ho
      refine ⟨u::sv,F++M,D,by simp only [C1];exact ⟨u,us,c,q.cs,sv,F,M,D,rfl,rfl,rfl,f1,⟨rfl,rfl⟩,hq.cells⟩,⟨hx,hq.sl⟩,fun y hy=> ?_,hq.dD,fun hnd=> ?_,fun k hk=> ?_,hq.rd, ?_,by simp [nsl,hq.len],by simp [IM,hq.muE],fun hnd=> ?_,by simp only [AF];exact ⟨hc,ho,hq.af⟩⟩
      ·rcases List.mem_append.1 hy with hy | hy
       ·obtain ⟨k,hk,hky⟩:=f3 y hy;exact ⟨k,by simp [hk],hky⟩
       ·obtain ⟨k,hk,hky⟩:=hq.mM y hy;exact ⟨k,by simp [hk],hky⟩
      ·have nd:=List.nodup_append.1 hnd
       refine List.nodup_append.2 ⟨f2,hq.nd nd.2.1,fun y hy z hz he=> ?_⟩
       subst he
       exact IH hm f4 (fun k hk=>by obtain ⟨o,ho,_⟩:=hq.mu k hk;exact ⟨o,BC ho⟩) (fun k hk hk2=>nd.2.2 k hk k hk2 rfl) (f3 y hy) (hq.mM y hz)
      ·rcases List.mem_append.1 hk with hk | hk
       ·exact f4 k hk
       ·exact hq.mu k hk
      ·simp only [I8,I5]
       refine (hq.perm.append_left (F6 x)).trans ?_
       rw [←List.append_assoc, ←List.append_assoc]
       exact List.perm_append_comm.append_right _
      ·have nd:=List.nodup_append.1 hnd
       have hap: ∀{y:Nat},(∃k∈F6 x,y∈(m.A k).F)→(∃k∈q.mu,y∈(m.A k).F)→False:=fun a b=>IH hm f4 (fun k hk=>by obtain ⟨o,ho,_⟩:=hq.mu k hk;exact ⟨o,BC ho⟩) (fun k hk hk2=>nd.2.2 k hk k hk2 rfl) a b
       simp only [One]
       refine ⟨fun k hk F0 hF0 y hy hyk=> ?_,(hq.one nd.2.1).mono fun y hy=> ?_⟩
       ·rw [cY _ _ _ _ hF0 f1]
        rcases List.mem_append.1 hy with hy | hy
        ·exact hy
        ·exact (hap ⟨k,hk,hyk⟩ (hq.mM y hy)).elim
       ·rcases List.mem_append.1 hy with hy | hy
        ·right
         rw [←hq.muE]
         exact fun k hk hyk=>hap (f3 y hy) ⟨k,hk,hyk⟩
        ·exact .inl hy
     ·cases h
   | 2,hok,h=>
     simp only at h
     split at h
     ·rename_i ho
      simp only [Option.some.injEq] at h;subst h
      obtain ⟨F,f1,f2,f3,f4⟩:=fI (n:=0) hm hx hc (lZ ho)
      refine ⟨u::sv,F++M,D,by simp only [C1];exact ⟨u,us,c,q.cs,sv,F,M,D,rfl,rfl,rfl,f1,⟨rfl,rfl⟩,hq.cells⟩,⟨hx,hq.sl⟩,fun y hy=> ?_,hq.dD,fun hnd=> ?_,fun k hk=> ?_,hq.rd, ?_,by simp [nsl,hq.len],by simp [IM,hq.muE],fun hnd=> ?_,by simp only [AF];exact hq.af⟩
      ·rcases List.mem_append.1 hy with hy | hy
       ·obtain ⟨k,hk,hky⟩:=f3 y hy;exact ⟨k,by simp [hk],hky⟩
       ·obtain ⟨k,hk,hky⟩:=hq.mM y hy;exact ⟨k,by simp [hk],hky⟩
      ·have nd:=List.nodup_append.1 hnd
       refine List.nodup_append.2 ⟨f2,hq.nd nd.2.1,fun y hy z hz he=> ?_⟩
       subst he
       exact IH hm f4 (fun k hk=>by obtain ⟨o,ho,_⟩:=hq.mu k hk;exact ⟨o,BC ho⟩) (fun k hk hk2=>nd.2.2 k hk k hk2 rfl) (f3 y hy) (hq.mM y hz)
      ·rcases List.mem_append.1 hk with hk | hk
       ·exact f4 k hk
       ·exact hq.mu k hk
      ·cases x <;> simp only [YL] at ho <;> (try cases ho) <;> simp only [I8,I5,F6,List.nil_append,List.cons_append]
       ·exact hq.perm
       ·exact hq.perm.cons _
      ·have nd:=List.nodup_append.1 hnd
       have hap: ∀{y:Nat},(∃k∈F6 x,y∈(m.A k).F)→(∃k∈q.mu,y∈(m.A k).F)→False:=fun a b=>IH hm f4 (fun k hk=>by obtain ⟨o,ho,_⟩:=hq.mu k hk;exact ⟨o,BC ho⟩) (fun k hk hk2=>nd.2.2 k hk k hk2 rfl) a b
       simp only [One]
       refine ⟨fun k hk F0 hF0 y hy hyk=> ?_,(hq.one nd.2.1).mono fun y hy=> ?_⟩
       ·rw [cY _ _ _ _ hF0 f1]
        rcases List.mem_append.1 hy with hy | hy
        ·exact hy
        ·exact (hap ⟨k,hk,hyk⟩ (hq.mM y hy)).elim
       ·rcases List.mem_append.1 hy with hy | hy
        ·right
         rw [←hq.muE]
         exact fun k hk hyk=>hap (f3 y hy) ⟨k,hk,hyk⟩
        ·exact .inl hy
     ·cases h
   | n+3,hok,h=>
     have:=Nat.le_of_ble_eq_true hok.1.2
     omega
end Go.Proofs.YthapfcoajahegaaDoor.Eng
namespace Go.Proofs.YthapfcoajahegaaDoor.Eng
open Go Go.RowKit
set_option linter.unusedVariables false
set_option linter.unusedSimpArgs false
set_option linter.constructorNameAsVariable false
theorem YT {c2:List CS}: ∀{c1:List CS},nsl (c1++c2)=nsl c1+nsl c2
 | []=>by simp [nsl]
 | .v::r=>by simp only [List.cons_append,nsl];exact YT
 | .t _ _::r=>by simp only [List.cons_append,nsl,YT (c1:=r)];omega
theorem NT {c2:List CS} {s2:List E0}: ∀{c1:List CS} {s1:List E0},s1.length=nsl c1→I8 (c1++c2) (s1++s2)=I8 c1 s1++I8 c2 s2
 | [],s1,h=>by
   have:s1=[]:=List.eq_nil_of_length_eq_zero h
   subst this;simp [I8]
 | .v::r,s1,h=>by simp only [List.cons_append,I8];exact NT h
 | .t e m::r,[],h=>by simp [nsl] at h
 | .t e m::r,x::s1,h=>by
   have h':s1.length=nsl r:=by simpa [nsl] using h
   match m with
   | 2=>cases x <;> simp only [List.cons_append,I8,NT h']
   | 0=>simp only [List.cons_append,I8,NT h']
   | 1=>simp only [List.cons_append,I8,NT h']
   | n+3=>simp only [List.cons_append,I8,NT h']
theorem PH {c2:List CS} {s2:List E0}: ∀{c1:List CS} {s1:List E0},s1.length=nsl c1→I5 (c1++c2) (s1++s2)=I5 c1 s1++I5 c2 s2
 | [],s1,h=>by
   have:s1=[]:=List.eq_nil_of_length_eq_zero h
   subst this;simp [I5]
 | .v::r,s1,h=>by simp only [List.cons_append,I5];exact PH h
 | .t e m::r,[],h=>by simp [nsl] at h
 | .t e m::r,x::s1,h=>by
   have h':s1.length=nsl r:=by simpa [nsl] using h
   match m with
   | 1=>simp only [List.cons_append,I5,PH h',List.append_assoc]
   | 0=>simp only [List.cons_append,I5,PH h']
   | n+2=>simp only [List.cons_append,I5,PH h']
def EM:List (Nat×List CS)→List EV→List Nat
 | (2,_)::r, .o (.p b _)::as=>b::EM r as
 | _::r,_::as=>EM r as
 | _,_=>[]
def TN (R:EV→Value→Prop):List EV→List Value→Prop
 | [],[]=>True
 | x::xs,u::us=>R x u∧TN R xs us
 | _,_=>False
def BR (m:Mst):List (Nat×List CS)→List EV→List Value→Prop
 | [],[],[]=>True
 | (w,_)::r,e::es,a::as=>((w=2∧ ∃b,e= .o (.p b 0)∧a=pt (m.A b).h 0∧(∃xs,A9 m.ob b=some (.bx xs))∧(m.A b).F=[(m.A b).h])∨w<2)∧BR m r es as
 | _,_,_=>False
theorem NJ {c2:List CS} {s2:List E0}: ∀{c1:List CS} {s1:List E0},s1.length=nsl c1→IM (c1++c2) (s1++s2)=IM c1 s1++IM c2 s2
 | [],s1,h=>by
   have:s1=[]:=List.eq_nil_of_length_eq_zero h
   subst this;simp [IM]
 | .v::r,s1,h=>by simp only [List.cons_append,IM];exact NJ h
 | .t e m::r,[],h=>by simp [nsl] at h
 | .t e m::r,x::s1,h=>by
   have h':s1.length=nsl r:=by simpa [nsl] using h
   match m with
   | 0=>simp only [List.cons_append,IM,NJ h']
   | n+1=>simp only [List.cons_append,IM,NJ h',List.append_assoc]
structure vK (ro:List (List T)) (m:Mst) (ps:List (Nat×List CS)) (es:List EV) (as:List Value) (p:Ar) (sv:List Value) (M D:List Nat):Prop where
 par:OX m.s ps as p.vs p.cs sv M D
 sl:C3 (E0R ro m) p.sl sv
 mM: ∀x∈M, ∃k∈p.mu,x∈(m.A k).F
 dD: ∀x∈D, ∃k∈p.rd,x∈(m.A k).F
 nd:p.mu.Nodup→M.Nodup
 mu: ∀k∈p.mu, ∃o,A9 m.ob k=some o∧HE o=true
 rd: ∀k∈p.rd, ∃o,AE ro m.ob k=some o
 perm:p.mu.Perm (EM ps es++(I8 (CU ps) p.sl++I5 (CU ps) p.sl))
 one:p.mu.Nodup→One m M (CU ps) p.sl sv p.cs
 muI: ∀k∈IM (CU ps) p.sl,k∈p.mu
 af:AF ro m.ob (CU ps) p.sl p.cs
 ns:p.sl.length=nsl (CU ps)
 br:BR m ps es as
theorem e9 {B:Bas} {ro:List (List T)} {m:Mst} (hm:Mem B ro m): ∀(ps:List (Nat×List CS)) (es:List EV) (as:List Value) (p:Ar),(ps.all fun p=>okC p.2)=true→QK ro m.ob ps es=some p→TN (EVR (E0R ro m)) es as→ ∃sv M D,vK ro m ps es as p sv M D
 | [],[],[],p,_,h,_=>by
   simp only [QK,Option.some.injEq] at h;subst h
   exact ⟨[],[],[],by simp only [OX];simp,trivial,fun x hx=>by simp at hx,fun x hx=>by simp at hx,fun _=>List.nodup_nil,fun x hx=>by simp at hx,fun x hx=>by simp at hx,by simp [I8,I5,CU,EM],fun _=>by simp only [CU,List.map_nil,List.flatten_nil,One],fun k hk=>by simp [CU,IM] at hk,by simp only [CU,List.map_nil,List.flatten_nil,AF],rfl,trivial⟩
 | [],e::es,as,p,_,h,_=>by simp [QK] at h
 | [],[],u::us,p,_,h,ha=>ha.elim
 | (w,k)::r,[],as,p,_,h,_=>by simp [QK] at h
 | (w,k)::r,e::es,[],p,_,h,ha=>ha.elim
 | (w,k)::r,e::es,a::as,p,hok,h,ha=>by
   simp only [List.all_cons,Bool.and_eq_true] at hok
   simp only [QK,Option.bind_eq_some_iff] at h
   obtain ⟨q,hq,h⟩:=h
   obtain ⟨sv2,M2,D2,hq⟩:=e9 hm r es as q hok.2 hq ha.2
   have he:=ha.1
   have hsplit: ∀{p1:Ar} {sv1 us:List Value} {M1 D1:List Nat},iA ro m k us p1 sv1 M1 D1→(p1.mu++q.mu).Perm ((I8 (CU ((w,k)::r)) (p1.sl++q.sl)++I5 (CU ((w,k)::r)) (p1.sl++q.sl))++EM r es):=by
    intro p1 sv1 us M1 D1 h1
    have hl:p1.sl.length=nsl k:=h1.len
    have hc:CU ((w,k)::r)=k++CU r:=by simp [CU]
    rw [hc,NT hl,PH hl]
    refine (h1.perm.append hq.perm).trans ?_
    generalize I8 k p1.sl=a1;generalize I5 k p1.sl=b1;generalize I8 (CU r) q.sl=a2;generalize I5 (CU r) q.sl=b2;generalize EM r es=c
    apply List.perm_iff_count.2
    intro x
    simp only [List.count_append];omega
   have hall: ∀{p1:Ar} {sv1 us:List Value} {M1 D1:List Nat},iA ro m k us p1 sv1 M1 D1→C3 (E0R ro m) (p1.sl++q.sl) (sv1++sv2)∧(∀x∈D1++D2, ∃k∈p1.rd++q.rd,x∈(m.A k).F)∧(∀x∈M1++M2, ∃k∈p1.mu++q.mu,x∈(m.A k).F)∧((p1.mu++q.mu).Nodup→(M1++M2).Nodup)∧(∀k∈p1.mu++q.mu, ∃o,A9 m.ob k=some o∧HE o=true)∧ ∀k∈p1.rd++q.rd, ∃o,AE ro m.ob k=some o:=by
    intro p1 sv1 us M1 D1 h1
    refine ⟨IK h1.sl hq.sl,fun x hx=> ?_,fun x hx=> ?_,fun hnd=> ?_,fun k hk=> ?_,fun k hk=> ?_⟩
    ·rcases List.mem_append.1 hx with hx | hx
     ·obtain ⟨k,hk,hky⟩:=h1.dD x hx;exact ⟨k,by simp [hk],hky⟩
     ·obtain ⟨k,hk,hky⟩:=hq.dD x hx;exact ⟨k,by simp [hk],hky⟩
    ·rcases List.mem_append.1 hx with hx | hx
     ·obtain ⟨k,hk,hky⟩:=h1.mM x hx;exact ⟨k,by simp [hk],hky⟩
     ·obtain ⟨k,hk,hky⟩:=hq.mM x hx;exact ⟨k,by simp [hk],hky⟩
    ·have nd:=List.nodup_append.1 hnd
     refine List.nodup_append.2 ⟨h1.nd nd.1,hq.nd nd.2.1,fun y hy z hz he=> ?_⟩
     subst he
     exact IH hm h1.mu (fun k hk=>by obtain ⟨o,ho,_⟩:=hq.mu k hk;exact ⟨o,BC ho⟩) (fun k hk hk2=>nd.2.2 k hk k hk2 rfl) (h1.mM y hy) (hq.mM y hz)
    ·rcases List.mem_append.1 hk with hk | hk
     ·exact h1.mu k hk
     ·exact hq.mu k hk
    ·rcases List.mem_append.1 hk with hk | hk
     ·exact h1.rd k hk
     ·exact hq.rd k hk
   have hone: ∀{p1:Ar} {sv1 us:List Value} {M1 D1:List Nat} {M:List Nat},iA ro m k us p1 sv1 M1 D1→(p1.mu++q.mu).Nodup→(∀y∈M,y∈M1∨y∈M2∨ ∀k∈p1.mu++q.mu,y∉(m.A k).F)→One m M (CU ((w,k)::r)) (p1.sl++q.sl) (sv1++sv2) (p1.cs++q.cs):=by
    intro p1 sv1 us M1 D1 M h1 hnd hM
    have nd:=List.nodup_append.1 hnd
    have hap: ∀{y:Nat},(∃k∈p1.mu,y∈(m.A k).F)→(∃k∈q.mu,y∈(m.A k).F)→False:=fun a b=>IH hm h1.mu (fun k hk=>by obtain ⟨o,ho,_⟩:=hq.mu k hk;exact ⟨o,BC ho⟩) (fun k hk hk2=>nd.2.2 k hk k hk2 rfl) a b
    have hc:CU ((w,k)::r)=k++CU r:=by simp [CU]
    rw [hc]
    obtain ⟨l1,l2⟩:=NZ h1.cells
    refine One.app ((hq.one nd.2.1).mono fun y hy=> ?_) ((h1.one nd.1).mono fun y hy=> ?_) h1.len l2 l1
    ·rcases hM y hy with h2 | h2 | h2
     ·exact .inr fun k hk hyk=>hap (h1.mM y h2) ⟨k,hq.muI k hk,hyk⟩
     ·exact .inl h2
     ·exact .inr fun k hk=>h2 k (by simp [hq.muI k hk])
    ·rcases hM y hy with h2 | h2 | h2
     ·exact .inl h2
     ·exact .inr fun k hk hyk=>hap ⟨k,by rw [h1.muE];exact hk,hyk⟩ (hq.mM y h2)
     ·exact .inr fun k hk=>h2 k (by rw [←h1.muE] at hk;simp [hk])
   have hmuI: ∀{p1:Ar} {sv1 us:List Value} {M1 D1:List Nat},iA ro m k us p1 sv1 M1 D1→ ∀j∈IM (CU ((w,k)::r)) (p1.sl++q.sl),j∈p1.mu++q.mu:=by
    intro p1 sv1 us M1 D1 h1 j hj
    have hc:CU ((w,k)::r)=k++CU r:=by simp [CU]
    rw [hc,NJ h1.len] at hj
    rcases List.mem_append.1 hj with hj | hj
    ·rw [h1.muE];simp [hj]
    ·simp [hq.muI j hj]
   have haf: ∀{p1:Ar} {sv1 us:List Value} {M1 D1:List Nat},iA ro m k us p1 sv1 M1 D1→AF ro m.ob (CU ((w,k)::r)) (p1.sl++q.sl) (p1.cs++q.cs)∧(p1.sl++q.sl).length=nsl (CU ((w,k)::r)):=by
    intro p1 sv1 us M1 D1 h1
    have hc:CU ((w,k)::r)=k++CU r:=by simp [CU]
    rw [hc]
    obtain ⟨l1,_⟩:=NZ h1.cells
    refine ⟨AF.app hq.af h1.af h1.len l1, ?_⟩
    rw [List.length_append,h1.len,hq.ns]
    exact YT.symm
   split at h
   ·rename_i x
    simp only [Option.map_eq_some_iff] at h
    obtain ⟨p1,h1,rfl⟩:=h
    obtain ⟨sv1,M1,D1,h1⟩:=RU hm k [x] [a] p1 hok.1 h1 ⟨he,trivial⟩
    obtain ⟨a1,a2,a3,a4,a5,a6⟩:=hall h1
    refine ⟨sv1++sv2,M1++M2,D1++D2, ?_,a1,a3,a2,a4,a5,a6, ?_,fun hnd=>hone h1 hnd fun y hy=>(List.mem_append.1 hy).elim .inl fun h=> .inr (.inl h),hmuI h1,(haf h1).1,(haf h1).2,⟨.inr (by omega),hq.br⟩⟩
    ·simp only [OX]
     exact ⟨a,as,[a],_,_,_,_,sv1,sv2,M1,M2,D1,D2,rfl,rfl,rfl,rfl,rfl,h1.cells,hq.par,rfl,rfl⟩
    ·refine (hsplit h1).trans ?_
     have:EM ((0,k)::r) (EV.o x::es)=EM r es:=by simp [EM]
     rw [this];exact List.perm_append_comm
   ·rename_i xs
    simp only [Option.map_eq_some_iff] at h
    obtain ⟨p1,h1,rfl⟩:=h
    obtain ⟨us,rfl,hx⟩:=he
    obtain ⟨sv1,M1,D1,h1⟩:=RU hm k xs us p1 hok.1 h1 hx
    obtain ⟨a1,a2,a3,a4,a5,a6⟩:=hall h1
    refine ⟨sv1++sv2,M1++M2,D1++D2, ?_,a1,a3,a2,a4,a5,a6, ?_,fun hnd=>hone h1 hnd fun y hy=>(List.mem_append.1 hy).elim .inl fun h=> .inr (.inl h),hmuI h1,(haf h1).1,(haf h1).2,⟨.inr (by omega),hq.br⟩⟩
    ·simp only [OX]
     exact ⟨_,as,us,_,_,_,_,sv1,sv2,M1,M2,D1,D2,rfl,rfl,rfl,rfl,rfl,h1.cells,hq.par,rfl,rfl⟩
    ·refine (hsplit h1).trans ?_
     have:EM ((1,k)::r) (EV.g xs::es)=EM r es:=by simp [EM]
     rw [this];exact List.perm_append_comm
   ·rename_i b
    split at h
    ·rename_i xs hl
     simp only [Option.map_eq_some_iff] at h
     obtain ⟨p1,h1,rfl⟩:=h
     have hl2:=BC (ro:=ro) hl
     obtain ⟨hF,us,hg,hx⟩:=hm.obr b _ hl2
     have hpt:=he.2.2 xs hl2
     subst hpt
     obtain ⟨sv1,M1,D1,h1⟩:=RU hm k xs us p1 hok.1 h1 hx
     obtain ⟨a1,a2,a3,a4,a5,a6⟩:=hall h1
     have hb: ∀j∈[b], ∃o,A9 m.ob j=some o∧HE o=true:=fun j hj=>by rw [List.mem_singleton.1 hj];exact ⟨_,hl,rfl⟩
     refine ⟨sv1++sv2,(m.A b).h::(M1++M2),D1++D2, ?_,a1,fun x hx=> ?_,a2,fun hnd=> ?_,fun j hj=> ?_,a6, ?_,fun hnd=>hone h1 (List.nodup_cons.1 hnd).2 fun y hy=> ?_,fun j hj=>by have:=hmuI h1 j hj;simp at this ⊢;exact .inr this,(haf h1).1,(haf h1).2,⟨.inl ⟨rfl,b,rfl,rfl,⟨xs,hl⟩,hF⟩,hq.br⟩⟩
     ·simp only [OX]
      exact ⟨_,as,us,_,_,_,_,sv1,sv2,M1,M2,D1,D2,rfl,rfl,rfl,rfl,rfl,h1.cells,hq.par,(m.A b).h,rfl,hg,rfl⟩
     ·rcases List.mem_cons.1 hx with rfl | hx
      ·exact ⟨b,by simp,by rw [hF];simp⟩
      ·obtain ⟨j,hj,hy⟩:=a3 x hx;exact ⟨j,by simp at hj ⊢;exact .inr hj,hy⟩
     ·have nd:=List.nodup_cons.1 hnd
      refine List.nodup_cons.2 ⟨fun hx=> ?_,a4 nd.2⟩
      exact IH hm hb (fun k hk=>by obtain ⟨o,ho,_⟩:=a5 k hk;exact ⟨o,BC ho⟩) (fun j hj hj2=>nd.1 (by rw [←List.mem_singleton.1 hj];exact hj2)) ⟨b,by simp,by rw [hF];simp⟩ (a3 _ hx)
     ·rcases List.mem_cons.1 hj with rfl | hj
      ·exact ⟨_,hl,rfl⟩
      ·exact a5 j hj
     ·have:EM ((2,k)::r) (EV.o (E0.p b 0)::es)=b::EM r es:=by simp [EM]
      rw [this]
      exact ((hsplit h1).trans List.perm_append_comm).cons b
     ·rcases List.mem_cons.1 hy with rfl | hy
      ·right;right
       exact fun j hj hyk=>IH hm hb (fun k hk=>by obtain ⟨o,ho,_⟩:=a5 k hk;exact ⟨o,BC ho⟩) (fun i hi hi2=>(List.nodup_cons.1 hnd).1 (by rw [←List.mem_singleton.1 hi];exact hi2)) ⟨b,by simp,by rw [hF];simp⟩ ⟨j,hj,hyk⟩
      ·exact (List.mem_append.1 hy).elim .inl fun h=> .inr (.inl h)
    ·cases h
   ·cases h
structure En where
 k:Nat
 o:Ob2
 a:Asg
 P:List Nat
def LOk (s:St) (c:List T) (a:Asg):Prop:=(a.nil=true∧c=[]∧a.F=[])∨(a.nil=false∧Win s true c a.h a.b a.F)
def Fits (ro:List (List T)) (m':Mst) (x:En):Prop:=x.k<m'.nk∧m'.A x.k=x.a∧ ∀c,x.o= .ls true c→AE ro m'.ob x.k=some (.ls true c)
def Z0 (s:St) (sl:List E0) (sv:List Value) (Ls:List En) (x:En):Prop:=(∃c,x.o= .ls true c∧LOk s c x.a)∨
 (∃xs us,x.o= .bx xs∧x.a.F=[x.a.h]∧s.get x.a.h=some ⟨us,true⟩∧ ∀ro m',(∀y∈Ls,Fits ro m' y)→C3 (E0R ro m') sl sv→C3 (E0R ro m') xs us)
theorem Z0.mono {s:St} {sl:List E0} {sv:List Value} {L L':List En} {x:En} (h:Z0 s sl sv L x) (hs: ∀y∈L,y∈L'):Z0 s sl sv L' x:=by
 rcases h with h | ⟨xs,us,h1,h2,h3,h4⟩
 ·exact .inl h
 ·exact .inr ⟨xs,us,h1,h2,h3,fun ro m' hf ha=>h4 ro m' (fun y hy=>hf y (hs y hy)) ha⟩
def J6 (A:Nat→Asg):List En→Nat→Asg
 | [],k=>A k
 | x::r,k=>if x.k=k then x.a else J6 A r k
theorem LH {A:Nat→Asg}: ∀{L:List En} {x:En},(L.map (·.k)).Nodup→x∈L→J6 A L x.k=x.a
 | y::r,x,hnd,hx=>by
   simp only [List.map_cons,List.nodup_cons] at hnd
   simp only [J6]
   rcases List.mem_cons.1 hx with rfl | hx
   ·rw [if_pos rfl]
   ·rw [if_neg (fun he=>hnd.1 (List.mem_map.2 ⟨x,hx,he.symm⟩)),LH hnd.2 hx]
theorem NO {A:Nat→Asg}: ∀{L:List En} {k:Nat},(∀x∈L,x.k≠k)→J6 A L k=A k
 | [],k,_=>rfl
 | y::r,k,h=>by
   simp only [J6]
   rw [if_neg (h y (by simp)),NO fun x hx=>h x (by simp [hx])]
theorem XF {L:List En} (h:((L.map (·.P)).flatten).Nodup): ∀{x y:En},x∈L→y∈L→x.k≠y.k→ ∀z∈x.P,z∉y.P:=by
 induction L with
 | nil=>intro x y hx;simp at hx
 | cons w r ih=>
   intro x y hx hy hne z hz hz'
   simp only [List.map_cons,List.flatten_cons,List.nodup_append] at h
   have hin: ∀{v:En},v∈r→z∈v.P→z∈(r.map (·.P)).flatten:=fun hv hzv=>List.mem_flatten.2 ⟨_,List.mem_map.2 ⟨_,hv,rfl⟩,hzv⟩
   rcases List.mem_cons.1 hx with hx1 | hx1
   ·rcases List.mem_cons.1 hy with hy1 | hy1
    ·exact hne (by rw [hx1,hy1])
    ·subst hx1;exact h.2.2 z hz z (hin hy1 hz') rfl
   ·rcases List.mem_cons.1 hy with hy1 | hy1
    ·subst hy1;exact h.2.2 z hz' z (hin hx1 hz) rfl
    ·exact ih h.2.1 hx1 hy1 hne z hz hz'
theorem cG {ro:List (List T)} {m:Mst} {kl:List Nat} {x:E0} {u:Value} (h:E0R ro m x u):E0R ro m (EA kl x) u:=Kp.e0 Kp.refl h
structure eB (B:Bas) (ro:List (List T)) (m:Mst) (s':St) (M mu:List Nat) (obF:Obs) (nkF:Nat) (L:List En) (sl:List E0) (sv:List Value):Prop where
 n:m.s.n≤s'.n
 nk:m.nk≤nkF
 fr: ∀h,h<m.s.n→h∉M→s'.get h=m.s.get h
 own: ∀k∈mu, ∃o,A9 m.ob k=some o∧HE o=true
 mM: ∀x∈M, ∃k∈mu,x∈(m.A k).F
 kok:KOk ro obF nkF
 keys:(L.map (·.k)).Nodup
 look: ∀x∈L,AE ro obF x.k=some (JL mu x.o)
 gone: ∀k∈mu,(∀x∈L,x.k≠k)→AE ro obF k=none
 rest: ∀k,k∉mu→(∀x∈L,x.k≠k)→AE ro obF k=(AE ro m.ob k).map (JL mu)
 ids: ∀x∈L,(x.k∈mu∧match x.o with
  | .bx _=>(∃xs,AE ro m.ob x.k=some (.bx xs))∧x.a.h=(m.A x.k).h
  | .ls _ c'=> ∃own cs,AE ro m.ob x.k=some (.ls own cs)∧c'.length=cs.length∧x.a.nil=(m.A x.k).nil∧x.a.h=(m.A x.k).h∧x.a.b=(m.A x.k).b)∨(m.nk≤x.k∧x.k<nkF)
 nd: ∀x∈L,x.a.F.Nodup
 rows: ∀x∈L, ∀y∈x.a.F,y∈x.P∨(y∈(m.A x.k).F∧y∉M∧x.k∈mu)
 part:((L.map (·.P)).flatten).Nodup
 from_: ∀x∈L, ∀y∈x.P,y∈M∨m.s.n≤y
 ok: ∀x∈L,Z0 s' sl sv L x
 sl:C3 (fun x u=> ∃y,x=EA mu y∧E0R ro m y u) sl sv
theorem kU {B:Bas} {ro:List (List T)} {m:Mst} {s':St} {M mu:List Nat} {obF:Obs} {nkF:Nat} {L:List En} {sl:List E0} {sv:List Value} (hm:Mem B ro m) (h:eB B ro m s' M mu obF nkF L sl sv):
  Mem B ro ⟨s',obF,nkF,J6 m.A L⟩∧Kp ro m ⟨s',obF,nkF,J6 m.A L⟩ mu∧(∀x∈L,Fits ro ⟨s',obF,nkF,J6 m.A L⟩ x)∧C3 (E0R ro ⟨s',obF,nkF,J6 m.A L⟩) sl sv∧(∀k,k<ro.length→J6 m.A L k=m.A k):=by
 have hmro: ∀k∈mu,ro.length≤k∧k<m.nk:=fun k hk=>by
  obtain ⟨o,ho,_⟩:=h.own k hk;exact hm.kok.lt _ (I7 ho)
 have hkeyU: ∀k,k∉mu→(∃o,AE ro m.ob k=some o)→ ∀x∈L,x.k≠k:=by
  intro k hk ⟨o,ho⟩ x hx he
  rcases h.ids x hx with ⟨h1,_⟩ | ⟨h1,_⟩
  ·exact hk (he ▸ h1)
  ·have:=PO hm.kok ho;omega
 have hnotU: ∀k o',AE ro obF k=some o'→ ¬(k∉mu∧ ∃o,AE ro m.ob k=some o)→ ∃x∈L,x.k=k∧o'=JL mu x.o:=by
  intro k o' ho hu
  by_cases hx: ∃x∈L,x.k=k
  ·obtain ⟨x,hx,rfl⟩:=hx
   rw [h.look x hx] at ho
   exact ⟨x,hx,rfl,(Option.some.inj ho).symm⟩
  ·have hx': ∀x∈L,x.k≠k:=fun x hxx he=>hx ⟨x,hxx,he⟩
   by_cases hk:k∈mu
   ·rw [h.gone k hk hx'] at ho;cases ho
   ·rw [h.rest k hk hx'] at ho
    cases hq:AE ro m.ob k with
    | none=>rw [hq] at ho;cases ho
    | some o=>exact absurd ⟨hk,o,hq⟩ hu
 have hmuF: ∀x∈L,x.k∈mu→ ∃o,AE ro m.ob x.k=some o∧HE o=true:=fun x _ hk=>by
  obtain ⟨o,ho,how⟩:=h.own x.k hk;exact ⟨o,BC ho,how⟩
 have hst:Step B ro m ⟨s',obF,nkF,J6 m.A L⟩ mu (fun k=>k∉mu∧ ∃o,AE ro m.ob k=some o):=by
  refine ⟨h.n,h.nk,h.kok,fun k hu=> ?_,fun y hy hx=>h.fr y hy fun hyM=> ?_,fun k hk hu=> ?_,fun k hk hu hq=> ?_,fun k o' ho hu=> ?_,fun k k' o o' hne ho ho' hu hu' y hy hy'=> ?_⟩
  ·obtain ⟨hk,o,ho⟩:=hu
   have hx:=hkeyU k hk ⟨o,ho⟩
   exact ⟨o,ho,by rw [h.rest k hk hx,ho];rfl,NO hx⟩
  ·obtain ⟨k,hk,hky⟩:=h.mM y hyM
   obtain ⟨o,ho,how⟩:=h.own k hk
   exact hx k o (BC ho) (fun hu=>hu.1 hk) how hky
  ·intro o' ho
   obtain ⟨x,hx,rfl,rfl⟩:=hnotU k o' ho hu
   have hA:=LH (A:=m.A) h.keys hx
   rcases h.ids x hx with ⟨hmu,hid⟩ | ⟨hge,_⟩
   ·cases hxo:x.o with
    | bx xs=>
      rw [hxo] at hid
      exact ⟨hid.1,by show (J6 m.A L x.k).h=_;rw [hA];exact hid.2⟩
    | ls own c'=>
      rw [hxo] at hid
      obtain ⟨own,cs,h1,h2,h3,h4,h5⟩:=hid
      exact ⟨own,cs,h1,h2,by show (J6 m.A L x.k).nil=_;rw [hA];exact h3,by show (J6 m.A L x.k).h=_;rw [hA];exact h4,by show (J6 m.A L x.k).b=_;rw [hA];exact h5⟩
   ·omega
  ·intro own cs own' cs' hl hl'
   obtain ⟨x,hx,rfl,_⟩:=hnotU k _ hl' hu
   rcases h.ids x hx with ⟨hmu,_⟩ | ⟨hge,_⟩
   ·have:=List.any_eq_false.1 hq x.k hmu;simp at this
   ·omega
  ·obtain ⟨x,hx,rfl,rfl⟩:=hnotU k o' ho hu
   have hA:=LH (A:=m.A) h.keys hx
   simp only [hA]
   refine ⟨h.nd x hx,fun y hy=> ?_⟩
   rcases h.rows x hx y hy with hy | ⟨hy,_,hk⟩
   ·rcases h.from_ x hx y hy with hM | hge
    ·obtain ⟨k,hk,hky⟩:=h.mM y hM
     obtain ⟨o,ho,how⟩:=h.own k hk
     exact .inl ⟨k,o,BC ho,fun hu=>hu.1 hk,how,hky⟩
    ·exact .inr hge
   ·obtain ⟨o,ho,how⟩:=hmuF x hx hk
    exact .inl ⟨x.k,o,ho,fun hu=>hu.1 hk,how,hy⟩
  ·obtain ⟨x,hx,rfl,rfl⟩:=hnotU k o ho hu
   obtain ⟨z,hz,rfl,rfl⟩:=hnotU k' o' ho' hu'
   simp only [LH (A:=m.A) h.keys hx] at hy
   simp only [LH (A:=m.A) h.keys hz] at hy'
   rcases h.rows x hx y hy with h1 | ⟨h1,h1M,h1k⟩
   ·rcases h.rows z hz y hy' with h2 | ⟨h2,h2M,h2k⟩
    ·exact XF h.part hx hz hne y h1 h2
    ·obtain ⟨o,ho,_⟩:=hmuF z hz h2k
     rcases h.from_ x hx y h1 with h3 | h3
     ·exact h2M h3
     ·have:=(hm.obr _ _ ho).lt y h2;omega
   ·obtain ⟨o,ho,how⟩:=hmuF x hx h1k
    rcases h.rows z hz y hy' with h2 | ⟨h2,h2M,h2k⟩
    ·rcases h.from_ z hz y h2 with h3 | h3
     ·exact h1M h3
     ·have:=(hm.obr _ _ ho).lt y h1;omega
    ·obtain ⟨o2,ho2,_⟩:=hmuF z hz h2k
     exact hm.dis x.k z.k o o2 hne ho ho2 how y h1 h2
 have hkp:=hst.kp hm
 have hfit: ∀x∈L,Fits ro ⟨s',obF,nkF,J6 m.A L⟩ x:=fun x hx=>by
  refine ⟨?_,LH h.keys hx,fun c hc=>by rw [h.look x hx,hc];rfl⟩
  rcases h.ids x hx with ⟨hmu,_⟩ | ⟨_,hlt⟩
  ·exact Nat.lt_of_lt_of_le (hmro _ hmu).2 h.nk
  ·exact hlt
 have hsl:C3 (E0R ro ⟨s',obF,nkF,J6 m.A L⟩) sl sv:=by
  have:=IW (f:=fun x=>x) (R':=E0R ro ⟨s',obF,nkF,J6 m.A L⟩) (fun x u hx=>by obtain ⟨y,rfl,hy⟩:=hx;exact hkp.e0 hy) h.sl
  rwa [show (fun x:E0=>x)=id from rfl,List.map_id] at this
 refine ⟨hst.mem hm fun k o' ho hu=> ?_,hkp,hfit,hsl,fun k hk=>NO fun x hx he=> ?_⟩
 ·obtain ⟨x,hx,rfl,rfl⟩:=hnotU k o' ho hu
  have hA:=LH (A:=m.A) h.keys hx
  rcases h.ok x hx with ⟨c,hc,hok⟩ | ⟨xs,us,hxo,hF,hg,hall⟩
  ·rw [hc]
   show ObR ro _ x.k (.ls true c)
   rcases hok with ⟨h1,h2,h3⟩ | ⟨h1,h2⟩
   ·exact .inl ⟨by simp only [hA];exact h1,h2,by simp only [hA];exact h3⟩
   ·exact .inr ⟨by simp only [hA];exact h1,by simp only [hA];exact h2⟩
  ·rw [hxo]
   refine ⟨by simp only [hA];exact hF,us,by simp only [hA];exact hg, ?_⟩
   exact IW (f:=EA mu) (fun x u hx=>cG hx) (hall ro _ hfit hsl)
 ·rcases h.ids x hx with ⟨hmu,_⟩ | ⟨hge,_⟩
  ·have:=(hmro _ hmu).1;omega
  ·have:=hm.kok.ro;omega
end Go.Proofs.YthapfcoajahegaaDoor.Eng
namespace Go.Proofs.YthapfcoajahegaaDoor.Eng
open Go Go.RowKit
set_option linter.unusedVariables false
set_option linter.unusedSimpArgs false
set_option linter.constructorNameAsVariable false
def NK (L:List En):List Nat:=(L.map (·.P)).flatten
theorem L4 (L L':List En):NK (L++L')=NK L++NK L':=by simp [NK]
def pT (ro:List (List T)) (m:Mst) (x:En):Prop:=match x.o with
 | .bx _=>(∃xs,AE ro m.ob x.k=some (.bx xs))∧x.a.h=(m.A x.k).h
 | .ls _ c'=> ∃own cs,AE ro m.ob x.k=some (.ls own cs)∧c'.length=cs.length∧x.a.nil=(m.A x.k).nil∧x.a.h=(m.A x.k).h∧x.a.b=(m.A x.k).b
structure Ph (ro:List (List T)) (m:Mst) (s:St) (sl:List E0) (sv:List Value) (Mo:List Nat) (ob:Obs) (nk:Nat) (ob':Obs) (nk':Nat) (L:List En) (ids:List Nat) (M:List Nat):Prop where
 look: ∀x∈L,AE ro ob' x.k=some x.o
 rest: ∀k,(∀x∈L,x.k≠k)→AE ro ob' k=AE ro ob k
 kok:KOk ro ob' nk'
 le:nk≤nk'
 keys:(L.map (·.k)).Nodup
 key: ∀x∈L,(x.k∈ids∧pT ro m x)∨(nk≤x.k∧x.k<nk')
 cov: ∀k∈ids, ∃x∈L,x.k=k
 ok: ∀x∈L,Z0 s sl sv L x
 nd:(NK L).Nodup→ ∀x∈L,x.a.F.Nodup
 rows: ∀x∈L, ∀y∈x.a.F,y∈x.P∨(y∈(m.A x.k).F∧y∉Mo∧x.k∈ids)
 perm:(NK L).Perm M
 has: ∀k,(∀x∈L,x.k≠k)→A9 ob' k=A9 ob k
theorem Ph.nil {ro:List (List T)} {m:Mst} {s:St} {sl:List E0} {sv:List Value} {Mo:List Nat} {ob:Obs} {nk:Nat} (h:KOk ro ob nk):Ph ro m s sl sv Mo ob nk ob nk [] [] []:=
 ⟨fun x hx=>by simp at hx,fun k _=>rfl,h,Nat.le_refl _,by simp,fun x hx=>by simp at hx,fun x hx=>by simp at hx,fun x hx=>by simp at hx,fun _ x hx=>by simp at hx,fun x hx=>by simp at hx,by simp [NK],fun k _=>rfl⟩
theorem Ph.comp {ro:List (List T)} {m:Mst} {s:St} {sl:List E0} {sv:List Value} {Mo:List Nat} {ob ob1 ob2:Obs} {nk nk1 nk2:Nat} {L1 L2:List En} {i1 i2 M1 M2:List Nat} (h1:Ph ro m s sl sv Mo ob nk ob1 nk1 L1 i1 M1) (h2:Ph ro m s sl sv Mo ob1 nk1 ob2 nk2 L2 i2 M2)
  (hd: ∀k∈i1,k∉i2) (ho1: ∀k∈i1,k<nk) (ho2: ∀k∈i2,k<nk):Ph ro m s sl sv Mo ob nk ob2 nk2 (L1++L2) (i1++i2) (M1++M2):=by
 have hne: ∀x∈L1, ∀y∈L2,x.k≠y.k:=by
  intro x hx y hy he
  rcases h1.key x hx with ⟨a,_⟩ | ⟨a,b⟩ <;> rcases h2.key y hy with ⟨c,_⟩ | ⟨c,d⟩
  ·exact hd _ a (he ▸ c)
  ·have:=ho1 _ a;have:=h1.le;omega
  ·have:=ho2 _ c;omega
  ·omega
 refine ⟨fun x hx=> ?_,fun k hk=> ?_,h2.kok,Nat.le_trans h1.le h2.le, ?_,fun x hx=> ?_,fun k hk=> ?_,fun x hx=> ?_,fun hnd x hx=> ?_,fun x hx y hy=> ?_, ?_,fun k hk=> ?_⟩
 ·rcases List.mem_append.1 hx with hx | hx
  ·rw [h2.rest _ fun y hy he=>hne x hx y hy he.symm];exact h1.look x hx
  ·exact h2.look x hx
 ·rw [h2.rest k fun x hx=>hk x (by simp [hx]),h1.rest k fun x hx=>hk x (by simp [hx])]
 ·rw [List.map_append]
  refine List.nodup_append.2 ⟨h1.keys,h2.keys,fun a ha b hb he=> ?_⟩
  obtain ⟨x,hx,rfl⟩:=List.mem_map.1 ha
  obtain ⟨y,hy,rfl⟩:=List.mem_map.1 hb
  exact hne x hx y hy he
 ·rcases List.mem_append.1 hx with hx | hx
  ·rcases h1.key x hx with ⟨a,b⟩ | ⟨a,b⟩
   ·exact .inl ⟨by simp [a],b⟩
   ·exact .inr ⟨a,Nat.lt_of_lt_of_le b h2.le⟩
  ·rcases h2.key x hx with ⟨a,b⟩ | ⟨a,b⟩
   ·exact .inl ⟨by simp [a],b⟩
   ·exact .inr ⟨Nat.le_trans h1.le a,b⟩
 ·rcases List.mem_append.1 hk with hk | hk
  ·obtain ⟨x,hx,he⟩:=h1.cov k hk;exact ⟨x,by simp [hx],he⟩
  ·obtain ⟨x,hx,he⟩:=h2.cov k hk;exact ⟨x,by simp [hx],he⟩
 ·rcases List.mem_append.1 hx with hx | hx
  ·exact (h1.ok x hx).mono fun y hy=>by simp [hy]
  ·exact (h2.ok x hx).mono fun y hy=>by simp [hy]
 ·rw [L4] at hnd
  have nd:=List.nodup_append.1 hnd
  rcases List.mem_append.1 hx with hx | hx
  ·exact h1.nd nd.1 x hx
  ·exact h2.nd nd.2.1 x hx
 ·rcases List.mem_append.1 hx with hx | hx
  ·rcases h1.rows x hx y hy with a | ⟨a,b,c⟩
   ·exact .inl a
   ·exact .inr ⟨a,b,by simp [c]⟩
  ·rcases h2.rows x hx y hy with a | ⟨a,b,c⟩
   ·exact .inl a
   ·exact .inr ⟨a,b,by simp [c]⟩
 ·rw [L4];exact h1.perm.append h2.perm
 ·rw [h2.has k fun x hx=>hk x (by simp [hx]),h1.has k fun x hx=>hk x (by simp [hx])]
theorem Ph.list {ro:List (List T)} {m:Mst} {s:St} {sl:List E0} {sv:List Value} {Mo:List Nat} {ob:Obs} {nk e:Nat} {c:List T} {u:Value} {F:List Nat} (h:KOk ro ob nk) (ht:TR s true (.l e c) u F) (he:0<e):
  ∃x:En,x.k=nk∧x.o= .ls true c∧Ph ro m s sl sv Mo ob nk ((nk, .ls true c)::ob) (nk+1) [x] [] F∧ ∀ro m',Fits ro m' x→E0R ro m' (.t nk e) u:=by
 have mk: ∀a:Asg,a.F=F→LOk s c a→Ph ro m s sl sv Mo ob nk ((nk, .ls true c)::ob) (nk+1) [⟨nk, .ls true c,a,F⟩] [] F:=by
  intro a ha hl
  have hlook: ∀k,AE ro ((nk,Ob2.ls true c)::ob) k=if nk=k then some (.ls true c) else AE ro ob k:=fun k=>HQ
  refine ⟨fun x hx=> ?_,fun k hk=> ?_,h.cons,by omega,by simp,fun x hx=> ?_,fun k hk=>by simp at hk,fun x hx=> ?_,fun hnd x hx=> ?_,fun x hx y hy=> ?_,by simp [NK],fun k hk=> ?_⟩
  ·rw [List.mem_singleton.1 hx,hlook,if_pos rfl]
  ·rw [hlook,if_neg (show nk≠k from hk ⟨nk, .ls true c,a,F⟩ (by simp))]
  ·rw [List.mem_singleton.1 hx];exact .inr ⟨Nat.le_refl _,Nat.lt_succ_self _⟩
  ·rw [List.mem_singleton.1 hx];exact .inl ⟨c,rfl,hl⟩
  ·rw [List.mem_singleton.1 hx];simp only [NK,List.map_cons,List.map_nil,List.flatten_cons,List.flatten_nil,List.append_nil] at hnd;rw [ha];exact hnd
  ·rw [List.mem_singleton.1 hx] at hy ⊢;rw [ha] at hy;exact .inl hy
  ·rw [CM,if_neg (show nk≠k from hk ⟨nk, .ls true c,a,F⟩ (by simp))]
 rcases IA.1 ht with ⟨rfl,rfl,rfl⟩ | ⟨y,b,n,rfl,hlen,hw⟩
 ·refine ⟨⟨nk, .ls true [],⟨true,0,0,[]⟩,[]⟩,rfl,rfl,mk _ rfl (.inl ⟨rfl,rfl,rfl⟩),fun ro m' hf=>⟨hf.1,rfl,he,fun own cs hl=> .inl ⟨rfl, ?_⟩⟩⟩
  have:=hf.2.1
  simp only at this;rw [this]
 ·refine ⟨⟨nk, .ls true c,⟨false,y,b,F⟩,F⟩,rfl,rfl,mk _ rfl (.inr ⟨rfl,hw⟩),fun ro m' hf=>⟨hf.1,rfl,he,fun own cs hl=> .inr ⟨n, ?_, ?_, ?_⟩⟩⟩
  ·have:=hf.2.1;simp only at this;rw [this]
  ·have:=hf.2.2 c rfl
   simp only at this;rw [hl] at this;cases this;exact hlen
  ·have:=hf.2.1;simp only at this;rw [this]
theorem T5 {R:E0→Value→Prop}: ∀{xs:List E0} {us:List Value} {j:Nat} {u:Value},C3 R xs us→us[j]? =some u→R (xs.getD j .w) u
 | [],[],j,u,_,h=>by simp at h
 | x::xs,v::us,0,u,ha,h=>by simp at h;subst h;exact ha.1
 | x::xs,v::us,j+1,u,ha,h=>by simpa using T5 ha.2 (by simpa using h)
 | [],_::_,_,_,ha,_=>ha.elim
 | _::_,[],_,_,ha,_=>ha.elim
def Str (vs:List Value) (i:Nat) (v1:List Value):Prop:= ∀t x,v1[t]? =some x→nx vs (i+t)=x
def PT (cs:List (List T)) (j:Nat) (c1:List (List T)):Prop:= ∀t x,c1[t]? =some x→nxc cs (j+t)=x
theorem Str.tl {vs:List Value} {i:Nat} {v:Value} {v1:List Value} (h:Str vs i (v::v1)):nx vs i=v∧Str vs (i+1) v1:=
 ⟨h 0 v rfl,fun t x hx=>by rw [show i+1+t=i+(t+1) by omega];exact h (t+1) x (by simpa using hx)⟩
theorem PT.tl {cs:List (List T)} {j:Nat} {c:List T} {c1:List (List T)} (h:PT cs j (c::c1)):nxc cs j=c∧PT cs (j+1) c1:=
 ⟨h 0 c rfl,fun t x hx=>by rw [show j+1+t=j+(t+1) by omega];exact h (t+1) x (by simpa using hx)⟩
theorem Str.app {vs:List Value} {i:Nat} {a b:List Value} (h:Str vs i (a++b)):Str vs i a∧Str vs (i+a.length) b:=
 ⟨fun t x hx=>h t x (by rw [List.getElem?_append_left (List.getElem?_eq_some_iff.1 hx).1];exact hx),fun t x hx=>by rw [Nat.add_assoc];exact h (a.length+t) x (by rw [List.getElem?_append_right (by omega)];simpa using hx)⟩
theorem PT.app {cs:List (List T)} {j:Nat} {a b:List (List T)} (h:PT cs j (a++b)):PT cs j a∧PT cs (j+a.length) b:=
 ⟨fun t x hx=>h t x (by rw [List.getElem?_append_left (List.getElem?_eq_some_iff.1 hx).1];exact hx),fun t x hx=>by rw [Nat.add_assoc];exact h (a.length+t) x (by rw [List.getElem?_append_right (by omega)];simpa using hx)⟩
theorem qC {ro:List (List T)} {m:Mst} {x:E0} {s' v u:Value} (hx:E0R ro m x s') (he:ElR s' v u):E0R ro m (elM x v) u:=by
 cases x with
 | t k e=>
   obtain ⟨h1,h2,h3,h4⟩:=hx
   rcases he with ⟨rfl,rfl⟩ | ⟨h,b,n,e',off,hs,rfl,rfl⟩
   ·exact ⟨h1,rfl,fun own cs hl=> .inl ⟨rfl,rfl⟩⟩
   ·refine ⟨h1,rfl,fun own cs hl=> ?_⟩
    rcases h4 own cs hl with ⟨hu,_⟩ | ⟨n',hn,_,hu⟩
    ·rw [hs] at hu;cases hu
    ·rw [hs] at hu
     obtain ⟨rfl,rfl⟩:h=(m.A k).h∧b=(m.A k).b:=by
      simp only [sl,Value.slice.injEq,Option.some.injEq,Addr.mk.injEq] at hu
      exact ⟨by omega,by omega⟩
     exact .inr ⟨off,rfl,hn,rfl⟩
 | _=>trivial
theorem P3 {ro:List (List T)} {m:Mst} {s:St} {sl:List E0} {sv:List Value} {Mo:List Nat} {vs:List Value} {cs:List (List T)}: ∀(rcs:List RC) (us v1:List Value) (c1:List (List T)) (M1:List Nat) (ob:Obs) (nk i j:Nat),okR rcs=true→KOk ro ob nk→LV s sv rcs us v1 c1 M1→Str vs i v1→PT cs j c1→
  ∃L,Ph ro m s sl sv Mo ob nk (H5 sl vs cs rcs ob nk i j).ob (H5 sl vs cs rcs ob nk i j).nk L [] M1∧(H5 sl vs cs rcs ob nk i j).i=i+v1.length∧(H5 sl vs cs rcs ob nk i j).j=j+c1.length∧
   ∀ro m',(∀x∈L,Fits ro m' x)→C3 (E0R ro m') sl sv→C3 (E0R ro m') (H5 sl vs cs rcs ob nk i j).xs us
 | [],us,v1,c1,M1,ob,nk,i,j,_,hk,h,_,_=>by
   simp only [LV] at h
   obtain ⟨rfl,rfl,rfl,rfl⟩:=h
   exact ⟨[],Ph.nil hk,rfl,rfl,fun ro m' _ _=>trivial⟩
 | .v::r,us,v1,c1,M1,ob,nk,i,j,hok,hk,h,hv,hc=>by
   simp only [LV] at h
   obtain ⟨u,us',vs',rfl,rfl,hp,h⟩:=h
   obtain ⟨hv1,hv2⟩:=hv.tl
   obtain ⟨L,g1,g2,g3,g4⟩:=P3 r us' vs' c1 M1 ob nk (i+1) j hok hk h hv2 hc
   refine ⟨L,g1, ?_,g3,fun ro m' hf ha=>⟨⟨hv1.symm,by rw [hv1];exact hp⟩,g4 ro m' hf ha⟩⟩
   show (H5 sl vs cs r ob nk (i+1) j).i=_
   rw [g2,List.length_cons];omega
 | .t e::r,us,v1,c1,M1,ob,nk,i,j,hok,hk,h,hv,hc=>by
   simp only [LV] at h
   obtain ⟨u,us',c,cs',F,M',rfl,rfl,ht,rfl,h⟩:=h
   simp only [okR,Bool.and_eq_true] at hok
   have he:=Nat.le_of_ble_eq_true hok.1
   obtain ⟨hc1,hc2⟩:=hc.tl
   obtain ⟨x,hxk,hxo,hx1,hx2⟩:=Ph.list (m:=m) (sl:=sl) (sv:=sv) (Mo:=Mo) hk ht he
   obtain ⟨L,g1,g2,g3,g4⟩:=P3 r us' v1 cs' M' ((nk, .ls true c)::ob) (nk+1) i (j+1) hok.2 hk.cons h hv hc2
   refine ⟨[x]++L, ?_, ?_, ?_,fun ro m' hf ha=>⟨hx2 ro m' (hf x (by simp)), ?_⟩⟩
   ·have:=hx1.comp g1 (fun k hk=>by simp at hk) (fun k hk=>by simp at hk) (fun k hk=>by simp at hk)
    simp only [H5,hc1];exact this
   ·simp only [H5,hc1];exact g2
   ·simp only [H5,hc1];rw [g3,List.length_cons];omega
   ·simp only [hc1];exact g4 ro m' (fun y hy=>hf y (by simp [hy])) ha
 | .a n::r,us,v1,c1,M1,ob,nk,i,j,hok,hk,h,hv,hc=>by
   simp only [LV] at h
   obtain ⟨u,us',rfl,hu,h⟩:=h
   obtain ⟨L,g1,g2,g3,g4⟩:=P3 r us' v1 c1 M1 ob nk i j hok hk h hv hc
   exact ⟨L,g1,g2,g3,fun ro m' hf ha=>⟨T5 ha hu,g4 ro m' hf ha⟩⟩
 | .r n::r,us,v1,c1,M1,ob,nk,i,j,hok,hk,h,hv,hc=>by
   simp only [LV] at h
   obtain ⟨u,us',v,vs',s',rfl,rfl,hu,he,h⟩:=h
   obtain ⟨hv1,hv2⟩:=hv.tl
   obtain ⟨L,g1,g2,g3,g4⟩:=P3 r us' vs' c1 M1 ob nk (i+1) j hok hk h hv2 hc
   refine ⟨L,g1, ?_,g3,fun ro m' hf ha=>⟨?_,g4 ro m' hf ha⟩⟩
   ·show (H5 sl vs cs r ob nk (i+1) j).i=_
    rw [g2,List.length_cons];omega
   ·rw [hv1];exact qC (T5 ha hu) he
def YsR (R:E0→Value→Prop):List (Nat×List E0)→List Value→Prop
 | [],[]=>True
 | (0,xs)::ys,a::as=>C3 R xs [a]∧YsR R ys as
 | (1,xs)::ys,a::as=>(∃us:List Value,a= .agg us.toArray∧C3 R xs us)∧YsR R ys as
 | _,_=>False
theorem Ph.box {s:St} {sl:List E0} {sv:List Value} {nk h:Nat} {xs:List E0} {us:List Value} {Lc:List En} (hg:s.get h=some ⟨us,true⟩)
  (hx: ∀ro m',(∀y∈Lc,Fits ro m' y)→C3 (E0R ro m') sl sv→C3 (E0R ro m') xs us):
  ∃x:En,x.k=nk∧x.a.h=h∧x.P=[h]∧x.a.F=[h]∧x.o= .bx xs∧Z0 s sl sv Lc x:=
 ⟨⟨nk, .bx xs,⟨false,h,0,[h]⟩,[h]⟩,rfl,rfl,rfl,rfl,rfl, .inr ⟨xs,us,rfl,rfl,hg,hx⟩⟩
theorem Ph.lA {ro:List (List T)} {m:Mst} {s:St} {sl:List E0} {sv:List Value} {Mo:List Nat} {ob ob1:Obs} {nk nk1:Nat} {L:List En} {M1:List Nat} {x:En} {xs:List E0} (h:Ph ro m s sl sv Mo ob nk ob1 nk1 L [] M1) (hxk:x.k=nk1) (hxo:x.o= .bx xs) (hP:x.P=[x.a.h]) (hF:x.a.F=[x.a.h]) (hok:Z0 s sl sv L x):
  Ph ro m s sl sv Mo ob nk ((nk1, .bx xs)::ob1) (nk1+1) (L++[x]) [] (M1++[x.a.h]):=by
 have hlt: ∀y∈L,y.k<nk1:=fun y hy=>by
  rcases h.key y hy with ⟨a,_⟩ | ⟨_,b⟩
  ·simp at a
  ·exact b
 refine ⟨fun y hy=> ?_,fun k hk=> ?_,h.kok.cons,by have:=h.le;omega, ?_,fun y hy=> ?_,fun k hk=>by simp at hk,fun y hy=> ?_,fun hnd y hy=> ?_,fun y hy z hz=> ?_, ?_,fun k hk=> ?_⟩
 ·rcases List.mem_append.1 hy with hy | hy
  ·have:=hlt y hy
   rw [HQ,if_neg (by omega)];exact h.look y hy
  ·rw [List.mem_singleton.1 hy,HQ,if_pos hxk.symm,hxo]
 ·rw [HQ,if_neg (fun he=>hk x (by simp) (by rw [hxk,he])),h.rest k fun y hy=>hk y (by simp [hy])]
 ·rw [List.map_append]
  refine List.nodup_append.2 ⟨h.keys,by simp,fun a ha b hb he=> ?_⟩
  obtain ⟨y,hy,rfl⟩:=List.mem_map.1 ha
  simp at hb
  have:=hlt y hy;omega
 ·rcases List.mem_append.1 hy with hy | hy
  ·rcases h.key y hy with ⟨a,_⟩ | ⟨a,b⟩
   ·simp at a
   ·exact .inr ⟨a,by omega⟩
  ·rw [List.mem_singleton.1 hy];exact .inr ⟨by rw [hxk];exact h.le,by omega⟩
 ·rcases List.mem_append.1 hy with hy | hy
  ·exact (h.ok y hy).mono fun z hz=>by simp [hz]
  ·rw [List.mem_singleton.1 hy];exact hok.mono fun z hz=>by simp [hz]
 ·rw [L4] at hnd
  rcases List.mem_append.1 hy with hy | hy
  ·exact h.nd (List.nodup_append.1 hnd).1 y hy
  ·rw [List.mem_singleton.1 hy,hF];simp
 ·rcases List.mem_append.1 hy with hy | hy
  ·rcases h.rows y hy z hz with a | ⟨_,_,a⟩
   ·exact .inl a
   ·simp at a
  ·rw [List.mem_singleton.1 hy] at hz ⊢;rw [hF] at hz;rw [hP];exact .inl hz
 ·rw [L4]
  refine h.perm.append ?_
  simp [NK,hP]
 ·rw [CM,if_neg (fun he=>hk x (by simp) (by rw [hxk,he])),h.has k fun y hy=>hk y (by simp [hy])]
theorem TX {ro:List (List T)} {m:Mst} {s:St} {sl:List E0} {sv:List Value} {Mo:List Nat} {vs:List Value} {cs:List (List T)}: ∀(rs:List (Nat×List RC)) (as v1:List Value) (c1:List (List T)) (M1:List Nat) (ob:Obs) (nk i j:Nat),(rs.all fun p=>okR p.2&&Nat.ble p.1 2)=true→KOk ro ob nk→UN s sv rs as v1 c1 M1→Str vs i v1→PT cs j c1→
  ∃L,Ph ro m s sl sv Mo ob nk (J9 sl vs cs rs ob nk i j).ob (J9 sl vs cs rs ob nk i j).nk L [] M1∧(J9 sl vs cs rs ob nk i j).i=i+v1.length∧(J9 sl vs cs rs ob nk i j).j=j+c1.length∧
   ∀ro m',(∀x∈L,Fits ro m' x)→C3 (E0R ro m') sl sv→YsR (E0R ro m') (J9 sl vs cs rs ob nk i j).ys as
 | [],as,v1,c1,M1,ob,nk,i,j,_,hk,h,_,_=>by
   simp only [UN] at h
   obtain ⟨rfl,rfl,rfl,rfl⟩:=h
   exact ⟨[],Ph.nil hk,rfl,rfl,fun ro m' _ _=>trivial⟩
 | (w,k)::r,as,v1,c1,M1,ob,nk,i,j,hok,hk,h,hv,hc=>by
   simp only [List.all_cons,Bool.and_eq_true] at hok
   simp only [UN] at h
   obtain ⟨a,as',us,v2,v3,c2,c3,M2,M3,rfl,rfl,rfl,h1,h2,hw⟩:=h
   obtain ⟨L1,g1,g2,g3,g4⟩:=P3 (m:=m) (sl:=sl) (sv:=sv) (Mo:=Mo) (vs:=vs) (cs:=cs) k us v2 c2 M2 ob nk i j hok.1.1 hk h1 hv.app.1 hc.app.1
   have hno: ∀k:Nat,k∈([]:List Nat)→False:=fun k hk=>by simp at hk
   match w,hok.1.2,hw with
   | 0,_,hw=>
     obtain ⟨rfl,rfl⟩:=hw
     obtain ⟨L2,f1,f2,f3,f4⟩:=TX (m:=m) (sl:=sl) (sv:=sv) (Mo:=Mo) (vs:=vs) (cs:=cs) r as' v3 c3 M3 _ _ (H5 sl vs cs k ob nk i j).i (H5 sl vs cs k ob nk i j).j hok.2 g1.kok h2 (by rw [g2];exact hv.app.2) (by rw [g3];exact hc.app.2)
     refine ⟨L1++L2, ?_, ?_, ?_,fun ro m' hf ha=>⟨g4 ro m' (fun y hy=>hf y (by simp [hy])) ha,f4 ro m' (fun y hy=>hf y (by simp [hy])) ha⟩⟩
     ·exact g1.comp f1 (fun k hk=>(hno k hk).elim) (fun k hk=>(hno k hk).elim) (fun k hk=>(hno k hk).elim)
     ·simp only [J9];rw [f2,g2,List.length_append];omega
     ·simp only [J9];rw [f3,g3,List.length_append];omega
   | 1,_,hw=>
     obtain ⟨rfl,rfl⟩:=hw
     obtain ⟨L2,f1,f2,f3,f4⟩:=TX (m:=m) (sl:=sl) (sv:=sv) (Mo:=Mo) (vs:=vs) (cs:=cs) r as' v3 c3 M3 _ _ (H5 sl vs cs k ob nk i j).i (H5 sl vs cs k ob nk i j).j hok.2 g1.kok h2 (by rw [g2];exact hv.app.2) (by rw [g3];exact hc.app.2)
     refine ⟨L1++L2, ?_, ?_, ?_,fun ro m' hf ha=>⟨⟨us,rfl,g4 ro m' (fun y hy=>hf y (by simp [hy])) ha⟩,f4 ro m' (fun y hy=>hf y (by simp [hy])) ha⟩⟩
     ·exact g1.comp f1 (fun k hk=>(hno k hk).elim) (fun k hk=>(hno k hk).elim) (fun k hk=>(hno k hk).elim)
     ·simp only [J9];rw [f2,g2,List.length_append];omega
     ·simp only [J9];rw [f3,g3,List.length_append];omega
   | 2,_,hw=>
     obtain ⟨h,rfl,hg,rfl⟩:=hw
     obtain ⟨x,x1,x2,x3,x4,x5,x6⟩:=Ph.box (nk:=(H5 sl vs cs k ob nk i j).nk) (sl:=sl) (sv:=sv) (Lc:=L1) hg g4
     have gb:=g1.lA x1 x5 (by rw [x3,x2]) (by rw [x4,x2]) x6
     obtain ⟨L2,f1,f2,f3,f4⟩:=TX (m:=m) (sl:=sl) (sv:=sv) (Mo:=Mo) (vs:=vs) (cs:=cs) r as' v3 c3 M3 _ _ (H5 sl vs cs k ob nk i j).i (H5 sl vs cs k ob nk i j).j hok.2 gb.kok h2 (by rw [g2];exact hv.app.2) (by rw [g3];exact hc.app.2)
     have hcomp:=gb.comp f1 (fun k hk=>(hno k hk).elim) (fun k hk=>(hno k hk).elim) (fun k hk=>(hno k hk).elim)
     refine ⟨(L1++[x])++L2, ?_, ?_, ?_,fun ro m' hf ha=>⟨⟨⟨?_,rfl,fun ys _=> ?_⟩,trivial⟩,f4 ro m' (fun y hy=>hf y (by simp [hy])) ha⟩⟩
     ·refine ⟨hcomp.look,hcomp.rest,hcomp.kok,hcomp.le,hcomp.keys,hcomp.key,hcomp.cov,hcomp.ok,hcomp.nd,hcomp.rows,hcomp.perm.trans ?_,hcomp.has⟩
      rw [x2]
      apply List.perm_iff_count.2
      intro z
      simp only [List.count_append,List.count_cons,List.count_nil];omega
     ·simp only [J9];rw [f2,g2,List.length_append];omega
     ·simp only [J9];rw [f3,g3,List.length_append];omega
     ·have:=(hf x (by simp)).1;rw [x1] at this;exact this
     ·have:=(hf x (by simp)).2.1;rw [x1] at this;rw [this,x2]
   | n+3,hb,_=>have:=Nat.le_of_ble_eq_true hb;omega
theorem o7 {R:E0→Value→Prop} {ys:List (Nat×List E0)} {as:List Value} (h:YsR R ys as):EVR R (QT ys) (UD as):=by
 have hY: ∀{ys:List (Nat×List E0)} {as:List Value},YsR R ys as→gU R (ys.map fun y=>(Nat.beq y.1 1,y.2)) as:=by
  intro ys
  induction ys with
  | nil=>intro as h;cases as with
    | nil=>trivial
    | cons a as=>exact h.elim
  | cons y ys ih=>
    intro as h
    obtain ⟨w,xs⟩:=y
    cases as with
    | nil=>cases w with
      | zero=>exact h.elim
      | succ w=>cases w <;> exact h.elim
    | cons a as=>
      match w,h with
      | 0,h=>
        refine ⟨?_,ih h.2⟩
        have:=H6 h.1
        match xs,h.1 with
        | [x],h1=>exact ⟨x,rfl,h1.1⟩
      | 1,h=>exact ⟨h.1,ih h.2⟩
      | n+2,h=>exact h.elim
 match ys,as,h with
 | [],[],_=>exact ⟨[],rfl,trivial⟩
 | [(0,xs)],[a],h=>
   match xs,h.1 with
   | [x],h1=>exact h1.1
 | [(1,xs)],[a],h=>exact h.1
 | [(n+2,xs)],[a],h=>exact h.elim
 | y::y'::ys,[],h=>obtain ⟨w,xs⟩:=y;cases w with
   | zero=>exact h.elim
   | succ w=>cases w <;> exact h.elim
 | [y],[],h=>obtain ⟨w,xs⟩:=y;cases w with
   | zero=>exact h.elim
   | succ w=>cases w <;> exact h.elim
 | [],a::as,h=>exact h.elim
 | [(0,xs)],a::b::as,h=>exact h.2.elim
 | [(1,xs)],a::b::as,h=>exact h.2.elim
 | [(n+2,xs)],a::b::as,h=>exact h.elim
 | (0,xs)::y'::ys,[a],h=>obtain ⟨w,xs⟩:=y';cases w with
   | zero=>exact h.2.elim
   | succ w=>cases w <;> exact h.2.elim
 | (1,xs)::y'::ys,[a],h=>obtain ⟨w,xs⟩:=y';cases w with
   | zero=>exact h.2.elim
   | succ w=>cases w <;> exact h.2.elim
 | (n+2,xs)::y'::ys,[a],h=>exact h.elim
 | y::y'::ys,a::b::as,h=>
   have e:QT (y::y'::ys)= .u ((y::y'::ys).map fun y=>(Nat.beq y.1 1,y.2)):=by
    obtain ⟨w,xs⟩:=y
    cases w with
    | zero=>cases xs with
      | nil=>rfl
      | cons x xs=>cases xs <;> rfl
    | succ w=>rfl
   rw [e]
   exact ⟨a::b::as,rfl,hY h⟩
end Go.Proofs.YthapfcoajahegaaDoor.Eng
namespace Go.Proofs.YthapfcoajahegaaDoor.Eng
open Go Go.RowKit
set_option linter.unusedVariables false
set_option linter.unusedSimpArgs false
set_option linter.constructorNameAsVariable false
theorem o6 {ro:List (List T)} {m:Mst}: ∀(css:List CS) (sl:List E0) (ob1:Obs) (dl0:List Nat),HO ro m.ob ob1 m.nk dl0→(I8 css sl).Nodup→(∀k∈I8 css sl,k∉dl0∧ ∃o,A9 m.ob k=some o∧HE o=true)→ ∃dl,HO ro m.ob (MG css sl ob1) m.nk dl∧ ∀k,k∈dl↔k∈dl0∨k∈I8 css sl:=by
 intro css
 induction css with
 | nil=>intro sl ob1 dl0 hg _ _;exact ⟨dl0,by simpa [MG] using hg,fun k=>by simp [I8]⟩
 | cons c r ih=>
   intro sl ob1 dl0 hg hnd hh
   cases c with
   | v=>simp only [MG,I8] at*;exact ih sl ob1 dl0 hg hnd hh
   | t e md=>
     cases sl with
     | nil=>exact ⟨dl0,by simpa [MG] using hg,fun k=>by simp [I8]⟩
     | cons x sl=>
       by_cases hc:md=2∧ ∃k e',x= .t k e'
       ·obtain ⟨rfl,k,e',rfl⟩:=hc
        simp only [MG,I8] at*
        obtain ⟨h1,o,ho,how⟩:=hh k (by simp)
        have hl:A9 ob1 k=some o:=PS (ro:=ro) (by rw [hg.look,if_neg h1];exact BC ho) how
        have hnd':=List.nodup_cons.1 hnd
        obtain ⟨dl,g1,g2⟩:=ih sl _ _ (hg.del hl how) hnd'.2 fun j hj=>⟨fun hj2=>by
         rcases List.mem_cons.1 hj2 with rfl | hj2
         ·exact hnd'.1 hj
         ·exact (hh j (by simp [hj])).1 hj2,(hh j (by simp [hj])).2⟩
        exact ⟨dl,g1,fun j=>by
         rw [g2];simp only [List.mem_cons]
         constructor
         ·rintro ((h | h) | h)
          ·exact .inr (.inl h)
          ·exact .inl h
          ·exact .inr (.inr h)
         ·rintro (h | h | h)
          ·exact .inl (.inr h)
          ·exact .inl (.inl h)
          ·exact .inr h⟩
       ·have e1:MG (.t e md::r) (x::sl) ob1=MG r sl ob1:=by
         match md,x,hc with
         | 0,_,_=>rfl
         | 1,_,_=>rfl
         | n+3,_,_=>rfl
         | 2, .t k e',hc=>exact absurd ⟨rfl,k,e',rfl⟩ hc
         | 2, .v _,_=>rfl
         | 2, .q _,_=>rfl
         | 2, .z,_=>rfl
         | 2, .p _ _,_=>rfl
         | 2, .e _ _ _,_=>rfl
         | 2, .s _ _ _ _ _,_=>rfl
         | 2, .n _ _ _,_=>rfl
         | 2, .a _ _ _ _,_=>rfl
         | 2, .m _ _,_=>rfl
         | 2, .w,_=>rfl
        have e2:I8 (.t e md::r) (x::sl)=I8 r sl:=by
         match md,x,hc with
         | 0,_,_=>rfl
         | 1,_,_=>rfl
         | n+3,_,_=>rfl
         | 2, .t k e',hc=>exact absurd ⟨rfl,k,e',rfl⟩ hc
         | 2, .v _,_=>rfl
         | 2, .q _,_=>rfl
         | 2, .z,_=>rfl
         | 2, .p _ _,_=>rfl
         | 2, .e _ _ _,_=>rfl
         | 2, .s _ _ _ _ _,_=>rfl
         | 2, .n _ _ _,_=>rfl
         | 2, .a _ _ _ _,_=>rfl
         | 2, .m _ _,_=>rfl
         | 2, .w,_=>rfl
        rw [e1,e2];rw [e2] at hnd hh
        exact ih sl ob1 dl0 hg hnd hh
theorem Ph.set {ro:List (List T)} {m:Mst} {s:St} {sl:List E0} {sv:List Value} {Mo:List Nat} {ob ob1:Obs} {nk nk1:Nat} {L:List En} {ids M1:List Nat} {x:En} {o0:Ob2} {P:List Nat} (h:Ph ro m s sl sv Mo ob nk ob1 nk1 L ids M1) (hl:A9 ob1 x.k=some o0) (hid:x.k∉ids) (hlt:x.k<nk) (hold:pT ro m x) (hok:Z0 s sl sv L x)
  (hnd:x.P.Nodup→x.a.F.Nodup) (hrow: ∀y∈x.a.F,y∈x.P∨(y∈(m.A x.k).F∧y∉Mo)) (hP:x.P=P):Ph ro m s sl sv Mo ob nk (IB ob1 x.k x.o) nk1 (L++[x]) (ids++[x.k]) (M1++P):=by
 have hne: ∀y∈L,y.k≠x.k:=fun y hy he=>by
  rcases h.key y hy with ⟨a,_⟩ | ⟨a,_⟩
  ·exact hid (he ▸ a)
  ·omega
 refine ⟨fun y hy=> ?_,fun k hk=> ?_,h.kok.set,h.le, ?_,fun y hy=> ?_,fun k hk=> ?_,fun y hy=> ?_,fun hn y hy=> ?_,fun y hy z hz=> ?_, ?_,fun k hk=> ?_⟩
 ·rcases List.mem_append.1 hy with hy | hy
  ·rw [IP hl,if_neg (Ne.symm (hne y hy))];exact h.look y hy
  ·rw [List.mem_singleton.1 hy,IP hl,if_pos rfl]
 ·rw [IP hl,if_neg (hk x (by simp)),h.rest k fun y hy=>hk y (by simp [hy])]
 ·rw [List.map_append]
  refine List.nodup_append.2 ⟨h.keys,by simp,fun a ha b hb he=> ?_⟩
  obtain ⟨y,hy,rfl⟩:=List.mem_map.1 ha
  simp at hb
  exact hne y hy (he.trans hb)
 ·rcases List.mem_append.1 hy with hy | hy
  ·rcases h.key y hy with ⟨a,b⟩ | a
   ·exact .inl ⟨by simp [a],b⟩
   ·exact .inr a
  ·rw [List.mem_singleton.1 hy];exact .inl ⟨by simp,hold⟩
 ·rcases List.mem_append.1 hk with hk | hk
  ·obtain ⟨y,hy,he⟩:=h.cov k hk;exact ⟨y,by simp [hy],he⟩
  ·exact ⟨x,by simp,(List.mem_singleton.1 hk).symm⟩
 ·rcases List.mem_append.1 hy with hy | hy
  ·exact (h.ok y hy).mono fun z hz=>by simp [hz]
  ·rw [List.mem_singleton.1 hy];exact hok.mono fun z hz=>by simp [hz]
 ·rw [L4] at hn
  have nd:=List.nodup_append.1 hn
  rcases List.mem_append.1 hy with hy | hy
  ·exact h.nd nd.1 y hy
  ·rw [List.mem_singleton.1 hy];exact hnd (by simpa [NK] using nd.2.1)
 ·rcases List.mem_append.1 hy with hy | hy
  ·rcases h.rows y hy z hz with a | ⟨a,b,c⟩
   ·exact .inl a
   ·exact .inr ⟨a,b,by simp [c]⟩
  ·rw [List.mem_singleton.1 hy] at hz ⊢
   rcases hrow z hz with a | ⟨a,b⟩
   ·exact .inl a
   ·exact .inr ⟨a,b,by simp⟩
 ·rw [L4]
  refine h.perm.append ?_
  simp [NK,hP]
 ·rw [LZ,if_neg (hk x (by simp)),h.has k fun y hy=>hk y (by simp [hy])]
theorem oW {ro:List (List T)} {m:Mst} {s:St} {sl:List E0} {sv:List Value} {Mo:List Nat} {vs:List Value} {cs:List (List T)}: ∀(ps:List (Nat×List CS)) (es:List EV) (as:List Value) (bs:List (List RC)) (v1:List Value) (c1:List (List T)) (M1:List Nat) (ob:Obs) (nk i j:Nat),bs.all okR=true→KOk ro ob nk→BR m ps es as→(EM ps es).Nodup→
  (∀b∈EM ps es,b<nk∧ ∃o,A9 ob b=some o)→Q4 s sv ps as bs v1 c1 M1→Str vs i v1→PT cs j c1→
  ∃L,Ph ro m s sl sv Mo ob nk (LQ sl vs cs ps es bs ob nk i j).ob (LQ sl vs cs ps es bs ob nk i j).nk L (EM ps es) M1∧(LQ sl vs cs ps es bs ob nk i j).j=j+c1.length:=by
 intro ps
 induction ps with
 | nil=>
   intro es as bs v1 c1 M1 ob nk i j _ hk hbr _ _ h _ _
   simp only [Q4] at h
   obtain ⟨rfl,rfl,rfl,rfl⟩:=h
   cases es with
   | nil=>exact ⟨[],by simpa [LQ,EM] using Ph.nil hk,by simp [LQ]⟩
   | cons e es=>exact ⟨[],by simpa [LQ,EM] using Ph.nil hk,by simp [LQ]⟩
 | cons p r ih=>
   obtain ⟨w,k⟩:=p
   intro es as bs v1 c1 M1 ob nk i j hok hk hbr hnd hb h hv hc
   cases es with
   | nil=>cases as <;> exact hbr.elim
   | cons e es=>
     cases as with
     | nil=>exact hbr.elim
     | cons a as=>
       obtain ⟨hw,hbr⟩:=hbr
       rcases hw with ⟨rfl,b,rfl,rfl,⟨xs0,hx0⟩,hF⟩ | hw
       ·simp only [Q4] at h
        obtain ⟨h',as',x,bs',us,v2,v3,c2,c3,M2,M3,he,rfl,rfl,rfl,hg,h1,h2,rfl⟩:=h
        simp only [List.cons.injEq] at he
        obtain ⟨he,rfl⟩:=he
        have hhb:h'=(m.A b).h:=by simp only [pt,Value.pointer.injEq,Option.some.injEq,Addr.mk.injEq] at he;exact he.1.symm
        subst hhb
        simp only [List.all_cons,Bool.and_eq_true] at hok
        have e1:EM ((2,k)::r) (EV.o (E0.p b 0)::es)=b::EM r es:=by simp [EM]
        rw [e1] at hnd hb ⊢
        have hnd':=List.nodup_cons.1 hnd
        obtain ⟨hblt,o0,ho0⟩:=hb b (by simp)
        obtain ⟨L1,g1,g2,g3,g4⟩:=P3 (m:=m) (sl:=sl) (sv:=sv) (Mo:=Mo) (vs:=vs) (cs:=cs) x us v2 c2 M2 ob nk i j hok.1 hk h1 hv.app.1 hc.app.1
        have hL1: ∀y∈L1,nk≤y.k:=fun y hy=>by
         rcases g1.key y hy with ⟨a,_⟩ | ⟨a,_⟩
         ·simp at a
         ·exact a
        have hob1:A9 (H5 sl vs cs x ob nk i j).ob b=some o0:=by
         rw [g1.has b fun y hy he=>by have:=hL1 y hy;omega];exact ho0
        have gs:=g1.set (x:=⟨b, .bx (H5 sl vs cs x ob nk i j).xs,⟨(m.A b).nil,(m.A b).h,(m.A b).b,[(m.A b).h]⟩,[(m.A b).h]⟩) hob1 (by simp) hblt ⟨⟨xs0,BC hx0⟩,rfl⟩ (.inr ⟨_,us,rfl,rfl,hg,g4⟩) (fun h=>h) (fun y hy=> .inl hy) rfl
        obtain ⟨L2,f1,f2⟩:=ih es as bs' v3 c3 M3 (IB (H5 sl vs cs x ob nk i j).ob b (.bx (H5 sl vs cs x ob nk i j).xs)) (H5 sl vs cs x ob nk i j).nk (H5 sl vs cs x ob nk i j).i (H5 sl vs cs x ob nk i j).j hok.2 gs.kok hbr hnd'.2 (fun b' hb'=>by
         obtain ⟨h3,o',h4⟩:=hb b' (by simp [hb'])
         refine ⟨Nat.lt_of_lt_of_le h3 g1.le,o', ?_⟩
         have hne:b≠b':=fun he=>hnd'.1 (he ▸ hb')
         rw [LZ,if_neg hne,g1.has b' fun y hy he=>by have:=hL1 y hy;omega];exact h4) h2 (by rw [g2];exact hv.app.2) (by rw [g3];exact hc.app.2)
        have hcomp:=gs.comp f1 (fun k hk=>by simp at hk;subst hk;exact hnd'.1) (fun k hk=>by simp at hk;subst hk;exact hblt) (fun k hk=>(hb k (by simp [hk])).1)
        have e3:LQ sl vs cs ((2,k)::r) (EV.o (E0.p b 0)::es) (x::bs') ob nk i j=LQ sl vs cs r es bs' (IB (H5 sl vs cs x ob nk i j).ob b (.bx (H5 sl vs cs x ob nk i j).xs)) (H5 sl vs cs x ob nk i j).nk (H5 sl vs cs x ob nk i j).i (H5 sl vs cs x ob nk i j).j:=by simp only [LQ]
        rw [e3]
        refine ⟨_,⟨hcomp.look,hcomp.rest,hcomp.kok,hcomp.le,hcomp.keys,fun y hy=>by simpa using hcomp.key y hy,fun y hy=>hcomp.cov y (by simpa using hy),hcomp.ok,hcomp.nd,fun y hy z hz=>by simpa using hcomp.rows y hy z hz,hcomp.perm.trans ?_,hcomp.has⟩, ?_⟩
        ·apply List.perm_iff_count.2
         intro z
         simp only [List.count_append,List.count_cons,List.count_nil];omega
        ·rw [f2,g3,List.length_append];omega
       ·have e1:EM ((w,k)::r) (e::es)=EM r es:=by
         match w,hw with
         | 0,_=>simp [EM]
         | 1,_=>simp [EM]
        have e2:LQ sl vs cs ((w,k)::r) (e::es) bs ob nk i j=LQ sl vs cs r es bs ob nk i j:=by
         match w,hw with
         | 0,_=>simp [LQ]
         | 1,_=>simp [LQ]
        have h2:Q4 s sv r as bs v1 c1 M1:=by
         match w,hw,h with
         | 0,_,h=>simp only [Q4] at h;obtain ⟨_,_,he,h⟩:=h;cases he;exact h
         | 1,_,h=>simp only [Q4] at h;obtain ⟨_,_,he,h⟩:=h;cases he;exact h
        rw [e1] at hnd hb ⊢
        rw [e2]
        exact ih es as bs v1 c1 M1 ob nk i j hok hk hbr hnd hb h2 hv hc
theorem WU: ∀{pre:List Nat} {cs ds:List T},node cs pre=some ds→IG cs pre ds=cs
 | [],cs,ds,h=>by simp only [node,Option.some.injEq] at h;simp [IG,h]
 | i::r,cs,ds,h=>by
   simp only [node] at h
   split at h
   ·rename_i e es hi
    simp only [IG,hi,WU h]
    obtain ⟨hlt,he⟩:=List.getElem?_eq_some_iff.1 hi
    rw [←he];exact List.set_getElem_self hlt
   ·cases h
end Go.Proofs.YthapfcoajahegaaDoor.Eng
namespace Go.Proofs.YthapfcoajahegaaDoor.Eng
open Go Go.RowKit
set_option linter.unusedVariables false
set_option linter.unusedSimpArgs false
set_option linter.constructorNameAsVariable false
theorem MR {B:Bas} {ro:List (List T)} {m:Mst} {s:St} {slX:List E0} {svX:List Value} {Mo:List Nat} {cs:List (List T)} (hm:Mem B ro m) (hfr: ∀h,h<m.s.n→h∉Mo→s.get h=m.s.get h):
  ∀(css:List CS) (sl:List E0) (sv:List Value) (cs0 c1:List (List T)) (M1:List Nat) (ob:Obs) (nk j:Nat),okC css=true→KOk ro ob nk→C3 (E0R ro m) sl sv→One m Mo css sl sv cs0→AF ro m.ob css sl cs0→(I5 css sl).Nodup→
  (∀k∈I5 css sl,k<nk∧A9 ob k=A9 m.ob k)→(∀k∈I5 css sl, ∀y∈Mo,y∈(m.A k).F→True)→M1.Nodup→(∀y∈M1,y∈Mo∨m.s.n≤y)→PN s css sv cs0 c1 M1→PT cs j c1→
  ∃L,Ph ro m s slX svX Mo ob nk (IV ro cs css sl ob j) nk L (I5 css sl) M1
 | [],sl,sv,cs0,c1,M1,ob,nk,j,_,hk,_,_,_,_,_,_,_,_,h,_=>by
   simp only [PN] at h
   obtain ⟨rfl,rfl⟩:=h
   exact ⟨[],by simpa [IV,I5] using Ph.nil hk⟩
 | .v::r,sl,sv,cs0,c1,M1,ob,nk,j,hok,hk,ha,ho,haf,hnd,hl,ht,hM,hMo,h,hc=>by
   simp only [PN,One,AF,I5,IV] at*
   exact MR hm hfr r sl sv cs0 c1 M1 ob nk j hok hk ha ho haf hnd hl ht hM hMo h hc
 | .t e 0::r,sl,sv,cs0,c1,M1,ob,nk,j,hok,hk,ha,ho,haf,hnd,hl,ht,hM,hMo,h,hc=>by
   simp only [PN] at h
   obtain ⟨u,sv1,c,cs1,rfl,rfl,h⟩:=h
   simp only [okC,Bool.and_eq_true] at hok
   cases sl with
   | nil=>exact ha.elim
   | cons x sl=>
     simp only [One,AF,I5,IV] at*
     exact MR hm hfr r sl sv1 cs1 c1 M1 ob nk j hok.2 hk ha.2 ho haf hnd hl ht hM hMo h hc
 | .t e (n+2)::r,sl,sv,cs0,c1,M1,ob,nk,j,hok,hk,ha,ho,haf,hnd,hl,ht,hM,hMo,h,hc=>by
   simp only [PN] at h
   obtain ⟨u,sv1,c,cs1,rfl,rfl,h⟩:=h
   simp only [okC,Bool.and_eq_true] at hok
   cases sl with
   | nil=>exact ha.elim
   | cons x sl=>
     simp only [One,AF,I5,IV] at*
     exact MR hm hfr r sl sv1 cs1 c1 M1 ob nk j hok.2 hk ha.2 ho.2 haf hnd hl ht hM hMo h hc
 | .t e 1::r,sl,sv,cs0,c1,M1,ob,nk,j,hok,hk,ha,ho,haf,hnd,hl,ht,hM,hMo,h,hc=>by
   simp only [PN] at h
   obtain ⟨u,sv1,c,cs1,c',c1',F,M',rfl,rfl,rfl,htr,hlen,rfl,h⟩:=h
   simp only [okC,Bool.and_eq_true] at hok
   obtain ⟨hc1,hc2⟩:=hc.tl
   have nd:=List.nodup_append.1 hM
   cases sl with
   | nil=>exact ha.elim
   | cons x sl=>
     obtain ⟨hx,ha⟩:=ha
     simp only [One] at ho
     simp only [AF] at haf
     obtain ⟨hcont,hown,haf⟩:=haf
     have hMo': ∀y∈M',y∈Mo∨m.s.n≤y:=fun y hy=>hMo y (by simp [hy])
     cases x with
     | z=>
       simp only [I5,F6,List.nil_append] at*
       have hu:u=nl:=hx
       subst hu
       have hF:F=[]:=by
        rcases IA.1 htr with ⟨_,_,h3⟩ | ⟨_,_,_,h3,_⟩
        ·exact h3
        ·cases h3
       subst hF
       simp only [IV,List.nil_append]
       exact MR hm hfr r sl sv1 cs1 c1' M' ob nk (j+1) hok.2 hk ha ho.2 haf hnd hl (fun _ _ _ _ _=>trivial) nd.2.1 hMo' h hc2
     | t k e'=>
       simp only [I5,F6,List.cons_append,List.nil_append] at hnd hl ht ⊢
       have hnd':=List.nodup_cons.1 hnd
       simp only [M9] at hown
       split at hown
       ·rename_i c0 hlk
        have hl2:=BC (ro:=ro) hlk
        simp only [EK,hl2] at hcont
        split at hcont
        ·rename_i hb
         have:=Nat.eq_of_beq_eq_true hb;subst this
         simp only [Option.some.injEq] at hcont;subst hcont
         have hlob:A9 ob k=some (.ls true c0):=by rw [(hl k (by simp)).2];exact hlk
         obtain ⟨_,_,_,hr⟩:=hx
         have hLOk:LOk s c' ⟨(m.A k).nil,(m.A k).h,(m.A k).b,F⟩:=by
          rcases hr _ _ hl2 with ⟨rfl,h4⟩ | ⟨n,h4,h5,rfl⟩
          ·rcases IA.1 htr with ⟨_,h6,h7⟩ | ⟨_,_,_,h6,_⟩
           ·exact .inl ⟨h4,h6,h7⟩
           ·cases h6
          ·rcases IA.1 htr with ⟨h6,_⟩ | ⟨_,_,_,h6,_,h7⟩
           ·cases h6
           ·cases h6;exact .inr ⟨h4,h7⟩
         have gs:=(Ph.nil (m:=m) (s:=s) (sl:=slX) (sv:=svX) (Mo:=Mo) hk).set (x:=⟨k, .ls true c',⟨(m.A k).nil,(m.A k).h,(m.A k).b,F⟩,F⟩) hlob (by simp) (hl k (by simp)).1 ⟨true,c0,hl2,hlen,rfl,rfl,rfl⟩ (.inl ⟨c',rfl,hLOk⟩) (fun h=>h) (fun y hy=> .inl hy) rfl
         obtain ⟨L,f1⟩:=MR (slX:=slX) (svX:=svX) hm hfr r sl sv1 cs1 c1' M' (IB ob k (.ls true c')) nk (j+1) hok.2 gs.kok ha ho.2 haf hnd'.2 (fun k' hk'=>⟨(hl k' (by simp [hk'])).1,by have hne:k≠k':=fun he=>hnd'.1 (he ▸ hk');rw [LZ,if_neg hne];exact (hl k' (by simp [hk'])).2⟩) (fun _ _ _ _ _=>trivial) nd.2.1 hMo' h hc2
         have hcomp:=gs.comp f1 (fun k' hk'=>by simp at hk';subst hk';exact hnd'.1) (fun k' hk'=>by simp at hk';subst hk';exact (hl k' (by simp)).1) (fun k' hk'=>(hl k' (by simp [hk'])).1)
         simp only [List.nil_append,List.cons_append] at hcomp
         simp only [IV,hc1]
         exact ⟨_,hcomp⟩
        ·cases hcont
       ·cases hown
     | n k pre e'=>
       simp only [I5,F6,List.cons_append,List.nil_append] at hnd hl ht ⊢
       have hnd':=List.nodup_cons.1 hnd
       simp only [M9] at hown
       split at hown
       ·rename_i c0 hlk
        have hl2:=BC (ro:=ro) hlk
        simp only [EK,hl2] at hcont
        split at hcont
        ·rename_i hb
         have:=Nat.eq_of_beq_eq_true hb;subst this
         simp only [Option.some.injEq] at hcont;subst hcont
         have hlob:A9 ob k=some (.ls true c0):=by rw [(hl k (by simp)).2];exact hlk
         obtain ⟨_,_,hpos,hr⟩:=hx
         obtain ⟨ds,h1,hr⟩:=hr _ _ hl2
         have hsub:L5 c0 pre=ds:=by unfold L5;rw [h1]
         rw [hsub] at hlen
         have hownk:=(hm.own k _ hl2 rfl).1
         have key: ∃F2,LOk s (IG c0 pre c') ⟨(m.A k).nil,(m.A k).h,(m.A k).b,F2⟩∧F2.Nodup∧(∀y∈F2,y∈F∨(y∈(m.A k).F∧y∉Mo)):=by
          rcases hr with ⟨rfl,rfl⟩ | ⟨n',h,b,h3,h4,h5,rfl⟩
          ·have hc0:c'=[]:=List.eq_nil_of_length_eq_zero (by rw [hlen];rfl)
           subst hc0
           have hnot: ∀y∈(m.A k).F,y∉Mo:=fun y hy hyM=>by
            have:=ho.1 k (by simp [F6]) [] (IA.2 (.inl ⟨rfl,hsub,rfl⟩)) y hyM hy
            simp at this
           refine ⟨(m.A k).F, ?_,hownk,fun y hy=> .inr ⟨hy,hnot y hy⟩⟩
           rw [WU h1]
           rcases hm.obr k _ hl2 with ⟨a,b,c⟩ | ⟨a,b⟩
           ·exact .inl ⟨a,b,c⟩
           ·exact .inr ⟨a,b.frame fun y hy=>hfr y (b.lt y hy) (hnot y hy)⟩
          ·rcases IA.1 htr with ⟨h6,_⟩ | ⟨_,_,_,h6,_,h7⟩
           ·cases h6
           ·cases h6
            obtain ⟨_,hwk⟩:_∧Win m.s true c0 (m.A k).h (m.A k).b (m.A k).F:=by
             rcases hm.obr k _ hl2 with ⟨hh,_⟩ | hh
             ·rw [h3] at hh;cases hh
             ·exact hh
            obtain ⟨G,hG,hGs⟩:=hm.node hl2 h3 h1 h4
            have hone:=ho.1 k (by simp [F6]) G (by rw [hsub];exact IA.2 (.inr ⟨h,b,n',rfl,h5,hG⟩))
            obtain ⟨F2,p1,p2,p3⟩:=Win.uS (s':=s) hlen hG h7 nd.1 hwk hownk h1 h4 (fun y hy hyk=>by
             rcases hMo y (by simp [hy]) with hh | hh
             ·exact hone y hh hyk
             ·have:=hwk.lt y hyk;omega) (fun y hy hyG=>hfr y (hwk.lt y hy) fun hyM=>hyG (hone y hyM hy))
            refine ⟨F2, .inr ⟨h3,p1⟩,p2,fun y hy=>(p3 y hy).imp id fun hh=>⟨hh.1,fun hyM=>hh.2 (hone y hyM hh.1)⟩⟩
         obtain ⟨F2,q1,q2,q3⟩:=key
         have hnl:(IG c0 pre c').length=c0.length:=I2 h1 hlen
         have gs:=(Ph.nil (m:=m) (s:=s) (sl:=slX) (sv:=svX) (Mo:=Mo) hk).set (x:=⟨k, .ls true (IG c0 pre c'),⟨(m.A k).nil,(m.A k).h,(m.A k).b,F2⟩,F⟩) hlob (by simp) (hl k (by simp)).1 ⟨true,c0,hl2,hnl,rfl,rfl,rfl⟩ (.inl ⟨_,rfl,q1⟩) (fun _=>q2) q3 rfl
         obtain ⟨L,f1⟩:=MR (slX:=slX) (svX:=svX) hm hfr r sl sv1 cs1 c1' M' (IB ob k (.ls true (IG c0 pre c'))) nk (j+1) hok.2 gs.kok ha ho.2 haf hnd'.2 (fun k' hk'=>⟨(hl k' (by simp [hk'])).1,by have hne:k≠k':=fun he=>hnd'.1 (he ▸ hk');rw [LZ,if_neg hne];exact (hl k' (by simp [hk'])).2⟩) (fun _ _ _ _ _=>trivial) nd.2.1 hMo' h hc2
         have hcomp:=gs.comp f1 (fun k' hk'=>by simp at hk';subst hk';exact hnd'.1) (fun k' hk'=>by simp at hk';subst hk';exact (hl k' (by simp)).1) (fun k' hk'=>(hl k' (by simp [hk'])).1)
         simp only [List.nil_append,List.cons_append] at hcomp
         simp only [IV,hlob,hc1]
         exact ⟨_,hcomp⟩
        ·cases hcont
       ·cases hown
     | _=>simp [M9] at hown
theorem X8 {C:Ctx} {B:Bas} {ro:List (List T)} {m:Mst} {f:FuncId} {g:Sg} {es:List EV} {as:List Value} {ar:Ar} {K:J2} (hm:Mem B ro m) (hok:jA g=true) (hp:QK ro m.ob g.ps es=some ar) (ha:TN (EVR (E0R ro m)) es as) (hnd:T7 ar.mu=true) (hap:XP ar.mu ar.rd=true)
  (h:cl2 C f g ar.vs ar.cs K): ∃vs' cs' v s' A',K vs' cs'∧(let sl:=ar.sl.map (EA ar.mu)
   let r:=J9 sl vs' cs' g.rs (MG (CU g.ps) ar.sl m.ob) m.nk 0 0
   let b:=LQ sl vs' cs' g.ps es g.bs r.ob r.nk r.i r.j
   Out C B ro m ar.mu ar.mu (.call f as) v (QT r.ys) ⟨s',GI ar.mu (IV ro cs' (CU g.ps) ar.sl b.ob b.j),b.nk,A'⟩∧
   (ar.mu=[]→ ∀k,(k<m.nk∨b.nk≤k)→A' k=m.A k)∧(oL g.rs=true→plain (nx vs' 0)=true∧v=nx vs' 0)):=by
 unfold jA at hok
 simp only [Bool.and_eq_true] at hok
 obtain ⟨sv,M,D,hA⟩:=e9 hm g.ps es as ar hok.1.1 hp ha
 have hmu:=WR hnd
 have hrd:=iJ hap
 have hMn:=hA.nd hmu
 have hMD: ∀x∈M,x∉D:=fun x hx hd=>IH hm hA.mu hA.rd hrd (hA.mM x hx) (hA.dD x hd)
 obtain ⟨v,s',M',vs',cs',hgo,hfr,hres,hM'n,hM'f,hn,hK⟩:=h m.s as sv M D hA.par hMn hMD
 obtain ⟨as',v1,v2,c1,c2,c3,M1,M2,M3,rfl,_,rfl,rfl,rfl,hRV,hRB,hRM⟩:=hres.ex
 have hperm:=hA.perm
 have hpn:(EM g.ps es++(I8 (CU g.ps) ar.sl++I5 (CU g.ps) ar.sl)).Nodup:=hperm.nodup_iff.1 hmu
 have nd1:=List.nodup_append.1 hpn
 have nd2:=List.nodup_append.1 nd1.2.1
 have hin: ∀k,k∈ar.mu↔k∈EM g.ps es∨k∈I8 (CU g.ps) ar.sl∨k∈I5 (CU g.ps) ar.sl:=fun k=>by rw [hperm.mem_iff];simp
 obtain ⟨dl,hg,hdl⟩:=o6 (CU g.ps) ar.sl m.ob [] (HO.nil hm.kok) nd2.1 (fun k hk=>⟨by simp,hA.mu k ((hin k).2 (.inr (.inl hk)))⟩)
 have hdl': ∀k,k∈dl↔k∈I8 (CU g.ps) ar.sl:=fun k=>by rw [hdl];simp
 have hlook: ∀k,k∈ar.mu→k∉dl→A9 (MG (CU g.ps) ar.sl m.ob) k=A9 m.ob k:=fun k hk hkd=>by
  obtain ⟨o,ho,how⟩:=hA.mu k hk
  rw [ho]
  exact PS (ro:=ro) (by rw [hg.look,if_neg hkd];exact BC ho) how
 have hltmu: ∀k∈ar.mu,k<m.nk:=fun k hk=>by obtain ⟨o,ho,_⟩:=hA.mu k hk;exact (hm.kok.lt _ (I7 ho)).2
 have s1:Str (v1++v2) 0 (v1++v2):=fun t x hx=>by simp [nx,List.getD_eq_getElem?_getD,hx]
 have s2:PT (c1++(c2++c3)) 0 (c1++(c2++c3)):=fun t x hx=>by simp [nxc,List.getD_eq_getElem?_getD,hx]
 obtain ⟨L1,p1,p2,p3,p4⟩:=TX (m:=m) (sl:=ar.sl.map (EA ar.mu)) (sv:=sv) (Mo:=M) g.rs as' v1 c1 M1 (MG (CU g.ps) ar.sl m.ob) m.nk 0 0 hok.1.2 hg.kok hRV s1.app.1 s2.app.1
 have hL1: ∀y∈L1,m.nk≤y.k:=fun y hy=>by
  rcases p1.key y hy with ⟨a,_⟩ | ⟨a,_⟩
  ·simp at a
  ·exact a
 have hL1k: ∀k,k<m.nk→ ∀y∈L1,y.k≠k:=fun k hk y hy he=>by have:=hL1 y hy;omega
 generalize hr:J9 (ar.sl.map (EA ar.mu)) (v1++v2) (c1++(c2++c3)) g.rs (MG (CU g.ps) ar.sl m.ob) m.nk 0 0=r at*
 obtain ⟨L2,q1,q2⟩:=oW (m:=m) (sl:=ar.sl.map (EA ar.mu)) (sv:=sv) (Mo:=M) (vs:=v1++v2) (cs:=c1++(c2++c3)) g.ps es as g.bs v2 c2 M2 r.ob r.nk r.i r.j hok.2 p1.kok hA.br nd1.1 (fun b hb=>by
  have hbm:=(hin b).2 (.inl hb)
  have hbd:b∉dl:=fun h=>nd1.2.2 b hb b (by rw [hdl'] at h;simp [h]) rfl
  obtain ⟨o,ho,_⟩:=hA.mu b hbm
  refine ⟨Nat.lt_of_lt_of_le (hltmu b hbm) p1.le,o, ?_⟩
  rw [p1.has b (hL1k b (hltmu b hbm)),hlook b hbm hbd];exact ho) hRB (by rw [p2];exact s1.app.2) (by rw [p3];exact s2.app.2.app.1)
 generalize hb:LQ (ar.sl.map (EA ar.mu)) (v1++v2) (c1++(c2++c3)) g.ps es g.bs r.ob r.nk r.i r.j=b at*
 have hL2k: ∀k,k<m.nk→k∉EM g.ps es→ ∀y∈L2,y.k≠k:=fun k hk hkb y hy he=>by
  rcases q1.key y hy with ⟨a,_⟩ | ⟨a,_⟩
  ·exact hkb (he ▸ a)
  ·have:=p1.le;omega
 have hM3n:M3.Nodup:=(List.nodup_append.1 (List.nodup_append.1 hM'n).2.1).2.1
 obtain ⟨L3,t1⟩:=MR (slX:=ar.sl.map (EA ar.mu)) (svX:=sv) (Mo:=M) (cs:=c1++(c2++c3)) hm hfr (CU g.ps) ar.sl sv ar.cs c3 M3 b.ob b.nk b.j (by
   unfold CU
   have:=hok.1.1
   generalize g.ps=ps at this
   induction ps with
   | nil=>rfl
   | cons p r ih=>
     simp only [List.all_cons,Bool.and_eq_true] at this
     simp only [List.map_cons,List.flatten_cons]
     have h2:=ih this.2
     have h1:=this.1
     generalize p.2=a at h1
     induction a with
     | nil=>exact h2
     | cons c a iha=>
       cases c with
       | v=>simp only [List.cons_append,okC] at*;exact iha h1
       | t e md=>simp only [List.cons_append,okC,Bool.and_eq_true] at*;exact ⟨h1.1,iha h1.2⟩) q1.kok hA.sl (hA.one hmu) hA.af nd2.2.1 (fun k hk=>by
   have hkm:=(hin k).2 (.inr (.inr hk))
   have hkd:k∉dl:=fun h=>nd2.2.2 k (by rw [hdl'] at h;exact h) k hk rfl
   have hkb:k∉EM g.ps es:=fun h=>nd1.2.2 k h k (by simp [hk]) rfl
   refine ⟨Nat.lt_of_lt_of_le (hltmu k hkm) (Nat.le_trans p1.le q1.le), ?_⟩
   rw [q1.has k (hL2k k (hltmu k hkm) hkb),p1.has k (hL1k k (hltmu k hkm)),hlook k hkm hkd]) (fun _ _ _ _ _=>trivial) hM3n (fun y hy=>hM'f y (by simp [hy])) hRM (by rw [q2,p3,Nat.add_assoc];have:=s2.app.2.app.2;rwa [Nat.zero_add] at this ⊢)
 have c12:=p1.comp q1 (fun k hk=>by simp at hk) (fun k hk=>by simp at hk) (fun k hk=>hltmu k ((hin k).2 (.inl hk)))
 have c123:=c12.comp t1 (fun k hk=>by simp at hk;exact fun h=>nd1.2.2 k hk k (by simp [h]) rfl) (fun k hk=>by simp at hk;exact hltmu k ((hin k).2 (.inl hk))) (fun k hk=>hltmu k ((hin k).2 (.inr (.inr hk))))
 have hLk: ∀k,k∈dl→ ∀y∈(L1++L2)++L3,y.k≠k:=fun k hk y hy he=>by
  rw [hdl'] at hk
  rcases c123.key y hy with ⟨a,_⟩ | ⟨a,_⟩
  ·simp at a
   rcases a with a | a
   ·exact nd1.2.2 y.k a k (by simp [hk]) he
   ·exact nd2.2.2 k hk y.k a he.symm
  ·have:=hltmu k ((hin k).2 (.inr (.inl hk)));omega
 have hyp:eB B ro m s' M ar.mu (GI ar.mu (IV ro (c1++(c2++c3)) (CU g.ps) ar.sl b.ob b.j)) b.nk ((L1++L2)++L3) (ar.sl.map (EA ar.mu)) sv:=by
  refine ⟨hn,c123.le,hfr,hA.mu,hA.mM,c123.kok.kill,c123.keys,fun x hx=>by rw [JW,c123.look x hx];rfl,fun k hk hx=> ?_,fun k hk hx=> ?_,fun x hx=> ?_, ?_,fun x hx y hy=> ?_, ?_,fun x hx y hy=> ?_,c123.ok, ?_⟩
  ·rw [JW,c123.rest k hx,hg.look]
   by_cases hkd:k∈dl
   ·rw [if_pos hkd];rfl
   ·exfalso
    rcases (hin k).1 hk with h1 | h1 | h1
    ·obtain ⟨y,hy,he⟩:=c123.cov k (by simp [h1]);exact hx y hy he
    ·exact hkd ((hdl' k).2 h1)
    ·obtain ⟨y,hy,he⟩:=c123.cov k (by simp [h1]);exact hx y hy he
  ·rw [JW,c123.rest k hx,hg.look,if_neg fun h=>hk ((hin k).2 (.inr (.inl ((hdl' k).1 h))))]
  ·rcases c123.key x hx with ⟨a,b⟩ | a
   ·refine .inl ⟨(hin x.k).2 ?_,b⟩
    simp at a
    rcases a with a | a
    ·exact .inl a
    ·exact .inr (.inr a)
   ·exact .inr a
  ·exact c123.nd (c123.perm.nodup_iff.2 (by rw [List.append_assoc];exact hM'n))
  ·rcases c123.rows x hx y hy with a | ⟨a,b,c⟩
   ·exact .inl a
   ·refine .inr ⟨a,b,(hin x.k).2 ?_⟩
    simp at c
    rcases c with c | c
    ·exact .inl c
    ·exact .inr (.inr c)
  ·exact c123.perm.nodup_iff.2 (by rw [List.append_assoc];exact hM'n)
  ·refine hM'f y ?_
   rw [←List.append_assoc, ←c123.perm.mem_iff]
   exact List.mem_flatten.2 ⟨_,List.mem_map.2 ⟨x,hx,rfl⟩,hy⟩
  ·exact IW (f:=EA ar.mu) (fun x u hx=>⟨x,rfl,hx⟩) hA.sl
 obtain ⟨z1,z2,z3,z4,z5⟩:=kU hm hyp
 refine ⟨v1++v2,c1++(c2++c3),UD as',s',J6 m.A ((L1++L2)++L3),hK, ?_⟩
 simp only [hr,hb]
 refine ⟨⟨hgo,z1,z2,o7 (p4 ro _ (fun x hx=>z3 x (by simp [hx])) z4),fun k o hk hak x hx=>hfr x ((hm.obr k o hk).lt x hx) fun hxM=> ?_,hn,z5⟩,fun hmn k hk=>NO fun x hx he=> ?_,fun hv=> ?_⟩
 ·obtain ⟨j,hj,hjx⟩:=hA.mM x hxM
  obtain ⟨o2,ho2,how⟩:=hA.mu j hj
  have hne:j≠k:=fun he=>by
   have:=List.any_eq_false.1 hak j hj;rw [he] at this;simp at this
  exact hm.dis j k o2 o hne (BC ho2) hk how x hjx hx
 ·rcases hyp.ids x hx with ⟨a,_⟩ | ⟨a,a2⟩
  ·rw [hmn] at a;simp at a
  ·omega
 ·unfold oL at hv
  split at hv
  ·rename_i hrs
   rw [hrs] at hRV
   simp only [UN,LV] at hRV
   obtain ⟨a,as2,us,w1,w2,d1,d2,N1,N2,rfl,rfl,rfl,⟨u,us',vs2,rfl,rfl,hpl,rfl,rfl,rfl,rfl⟩,⟨rfl,rfl,rfl,rfl⟩,hw,_⟩:=hRV
   simp only [List.cons.injEq,and_true] at hw
   subst hw
   exact ⟨hpl,rfl⟩
  ·cases hv
theorem KY: ∀{css:List CS} {sl:List E0} {ob:Obs},IM css sl=[]→MG css sl ob=ob
 | [],sl,ob,_=>by simp [MG]
 | .v::r,sl,ob,h=>by simp only [IM,MG] at*;exact KY h
 | .t e md::r,[],ob,_=>by simp [MG]
 | .t e 0::r,x::sl,ob,h=>by simp only [IM,MG] at*;exact KY h
 | .t e 1::r,x::sl,ob,h=>by
   simp only [IM,List.append_eq_nil_iff] at h
   simp only [MG];exact KY h.2
 | .t e 2::r,x::sl,ob,h=>by
   simp only [IM,List.append_eq_nil_iff] at h
   cases x <;> first | (simp [F6] at h;done) | (simp only [MG];exact KY h.2)
 | .t e (n+3)::r,x::sl,ob,h=>by
   simp only [IM,List.append_eq_nil_iff] at h
   simp only [MG];exact KY h.2
theorem KW {ro:List (List T)} {cs:List (List T)}: ∀{css:List CS} {sl:List E0} {ob:Obs} {j:Nat},IM css sl=[]→IV ro cs css sl ob j=ob
 | [],sl,ob,j,_=>by simp [IV]
 | .v::r,sl,ob,j,h=>by simp only [IM,IV] at*;exact KW h
 | .t e md::r,[],ob,j,_=>by simp [IV]
 | .t e 0::r,x::sl,ob,j,h=>by simp only [IM,IV] at*;exact KW h
 | .t e 1::r,x::sl,ob,j,h=>by
   simp only [IM,List.append_eq_nil_iff] at h
   cases x <;> first | (simp [F6] at h;done) | (simp only [IV];exact KW h.2)
 | .t e (n+2)::r,x::sl,ob,j,h=>by
   simp only [IM,List.append_eq_nil_iff] at h
   simp only [IV];exact KW h.2
theorem T4 {ro:List (List T)} {ob:Obs}: ∀{css:List CS} {xs:List E0} {p:Ar},OJ ro ob css xs=some p→p.mu=IM css p.sl∧p.sl.length=nsl css
 | [],[],p,h=>by simp only [OJ,Option.some.injEq] at h;subst h;exact ⟨rfl,rfl⟩
 | [],x::xs,p,h=>by simp [OJ] at h
 | .v::r,[],p,h=>by simp [OJ] at h
 | .t e md::r,[],p,h=>by simp [OJ] at h
 | .v::r,x::xs,p,h=>by
   cases x <;> simp only [OJ,reduceCtorEq] at h
   simp only [Option.map_eq_some_iff] at h
   obtain ⟨q,h1,rfl⟩:=h
   have:=T4 h1
   exact ⟨by simp only [IM];exact this.1,by simp only [nsl];exact this.2⟩
 | .t e md::r,x::xs,p,h=>by
   simp only [OJ,Option.bind_eq_some_iff] at h
   obtain ⟨c,hc,q,h1,h⟩:=h
   have:=T4 h1
   match md,h with
   | 0,h=>simp only [Option.some.injEq] at h;subst h;exact ⟨by simp only [IM];exact this.1,by simp [nsl,this.2]⟩
   | 1,h=>
     simp only at h
     split at h
     ·simp only [Option.some.injEq] at h;subst h;exact ⟨by simp only [IM];rw [this.1],by simp [nsl,this.2]⟩
     ·cases h
   | n+2,h=>
     simp only at h
     split at h
     ·simp only [Option.some.injEq] at h;subst h;exact ⟨by simp only [IM];rw [this.1],by simp [nsl,this.2]⟩
     ·cases h
theorem TU {ro:List (List T)} {ob:Obs}: ∀{ps:List (Nat×List CS)} {es:List EV} {p:Ar},QK ro ob ps es=some p→p.mu=[]→IM (CU ps) p.sl=[]
 | [],[],p,h,_=>by simp [CU,IM]
 | [],e::es,p,h,_=>by simp [QK] at h
 | (w,k)::r,[],p,h,_=>by simp [QK] at h
 | (w,k)::r,e::es,p,h,hp=>by
   simp only [QK,Option.bind_eq_some_iff] at h
   obtain ⟨q,hq,h⟩:=h
   have hc:CU ((w,k)::r)=k++CU r:=by simp [CU]
   split at h
   ·simp only [Option.map_eq_some_iff] at h
    obtain ⟨p1,h1,rfl⟩:=h
    simp only [List.append_eq_nil_iff] at hp
    obtain ⟨h2,h3⟩:=T4 h1
    rw [hc,NJ h3, ←h2,hp.1,TU hq hp.2];rfl
   ·simp only [Option.map_eq_some_iff] at h
    obtain ⟨p1,h1,rfl⟩:=h
    simp only [List.append_eq_nil_iff] at hp
    obtain ⟨h2,h3⟩:=T4 h1
    rw [hc,NJ h3, ←h2,hp.1,TU hq hp.2];rfl
   ·split at h
    ·simp only [Option.map_eq_some_iff] at h
     obtain ⟨p1,h1,rfl⟩:=h
     simp at hp
    ·cases h
   ·cases h
theorem P7 {ro:List (List T)} {ob:Obs}: ∀{ps:List (Nat×List CS)} {es:List EV} {p:Ar},QK ro ob ps es=some p→p.mu=[]→ ∀(sl:List E0) (vs:List Value) (cs:List (List T)) (ob':Obs) (nk i j:Nat) (bs:List (List RC)),(LQ sl vs cs ps es bs ob' nk i j).ob=ob'∧(LQ sl vs cs ps es bs ob' nk i j).nk=nk
 | [],[],p,h,_=>fun _ _ _ _ _ _ _ _=>by simp [LQ]
 | [],e::es,p,h,_=>by simp [QK] at h
 | (w,k)::r,[],p,h,_=>by simp [QK] at h
 | (w,k)::r,e::es,p,h,hp=>by
   simp only [QK,Option.bind_eq_some_iff] at h
   obtain ⟨q,hq,h⟩:=h
   intro sl vs cs ob' nk i j bs
   split at h
   ·simp only [Option.map_eq_some_iff] at h
    obtain ⟨p1,h1,rfl⟩:=h
    simp only [List.append_eq_nil_iff] at hp
    simp only [LQ];exact P7 hq hp.2 sl vs cs ob' nk i j bs
   ·simp only [Option.map_eq_some_iff] at h
    obtain ⟨p1,h1,rfl⟩:=h
    simp only [List.append_eq_nil_iff] at hp
    simp only [LQ];exact P7 hq hp.2 sl vs cs ob' nk i j bs
   ·split at h
    ·simp only [Option.map_eq_some_iff] at h
     obtain ⟨p1,h1,rfl⟩:=h
     simp at hp
    ·cases h
   ·cases h
end Go.Proofs.YthapfcoajahegaaDoor.Eng
namespace Go.Proofs.YthapfcoajahegaaDoor.Eng
open Go Go.RowKit
set_option linter.unusedVariables false
set_option linter.unusedSimpArgs false
set_option linter.constructorNameAsVariable false
theorem TY {ro:List (List T)} {m:Mst} {env:FG} {env1:Env} {av:List (Nat×Bool)} (hE:JI ro m env env1) (ha:V3 env1 av) {x:Option Operand} {l:Option Value} (h:bG av env x=some l):x.map (ev env1)=l:=by
 cases x with
 | none=>simp only [bG,Option.some.injEq] at h;subst h;rfl
 | some x=>
   simp only [bG,Option.map_eq_some_iff] at h
   obtain ⟨a,h1,rfl⟩:=h
   rw [Option.map_some,GZ hE ha h1]
theorem YA {ro:List (List T)} {m:Mst}: ∀{xs:List E0} {us a:List Value},OT xs=some a→C3 (E0R ro m) xs us→us=a
 | [],[],a,h,_=>by simp only [OT,Option.some.injEq] at h;exact h
 | x::xs,u::us,a,h,ha=>by
   cases x <;> simp only [OT,reduceCtorEq] at h
   simp only [Option.map_eq_some_iff] at h
   obtain ⟨b,h1,rfl⟩:=h
   rw [ha.1.1,YA h1 ha.2]
 | [],u::us,a,h,ha=>ha.elim
 | x::xs,[],a,h,ha=>ha.elim
theorem aC {ro:List (List T)} {m:Mst} {P:Program} {env:FG} {env1:Env} {av:List (Nat×Bool)} (hE:JI ro m env env1) (ha:V3 env1 av) {fields:Array Field}: ∀(parts:List (Nat×Operand)) (ps:List (Nat×Nat×List E0)) (cells:List E0) (cs:List Value) (xs:List E0),
  Q0 P av env fields parts=some ps→aP cells ps=some xs→C3 (E0R ro m) cells cs→ ∃l us,JF P env1 fields parts=some l∧MU cs l=some us∧C3 (E0R ro m) xs us
 | [],ps,cells,cs,xs,hp,hf,hc=>by
   simp only [Q0,Option.some.injEq] at hp;subst hp
   simp only [aP,Option.some.injEq] at hf;subst hf
   exact ⟨[],cs,rfl,rfl,hc⟩
 | (i,x)::r,ps,cells,cs,xs,hp,hf,hc=>by
   simp only [Q0,Option.bind_eq_some_iff,Option.map_eq_some_iff] at hp
   obtain ⟨f,h1,sz,h2,ys,h3,l,h4,rfl⟩:=hp
   simp only [aP] at hf
   split at hf
   ·rename_i hb
    simp only [Bool.and_eq_true] at hb
    have e1:=Nat.eq_of_beq_eq_true hb.1
    have e2:=Nat.le_of_ble_eq_true hb.2
    obtain ⟨hv,hy⟩:=NM h3 (HX hE ha x)
    have hl:=H6 hy
    have hlc:=H6 hc
    have hc':C3 (E0R ro m) (cells.take f.offset++(ys++cells.drop (f.offset+ys.length))) (B9 cs f.offset (cellsOf (ev env1 x))):=by
     unfold B9
     rw [List.append_assoc,hl]
     exact IK (KR _ hc) (IK hy (K4 _ hc))
    obtain ⟨l',us,g1,g2,g3⟩:=aC hE ha r l _ _ xs h4 hf hc'
    refine ⟨(f.offset,sz,ev env1 x)::l',us, ?_, ?_,g3⟩
    ·simp only [JF,h1,h2,g1,Option.bind_some,Option.map_some]
    ·simp only [MU,hv,hl,e1,beq_self_eq_true,Bool.and_self,Bool.true_and,decide_eq_true (show f.offset+sz≤cs.length by omega),if_true]
     exact g2
   ·cases hf
theorem R1 {R:E0→Value→Prop} {x:E0} {us:List Value} (h:C3 R [x] us): ∃u,us=[u]∧R x u:=by
 match us,h with
 | [u],h=>exact ⟨u,rfl,h.1⟩
theorem lX {B:Bas} {ro:List (List T)} {m:Mst} (hm:Mem B ro m) {k off sz:Nat} {xs:List E0} {u:Value} (hr:E0R ro m (.p k off) u) (hl:A9 m.ob k=some (.bx xs)) (hs:((xs.drop off).take sz).length=sz) (hsz:sz≠0∨off≤xs.length): ∃us:List Value,C3 (E0R ro m) ((xs.drop off).take sz) us∧us.length=sz∧
  ld true sz u m.s=some (.agg us.toArray,m.s)∧(∀v,us=[v]→sz=1→ld false 1 u m.s=some (v,m.s)):=by
 have hl2:=BC (ro:=ro) hl
 obtain ⟨hF,us,hg,ha⟩:=hm.obr k _ hl2
 have hpt:=hr.2.2 xs hl2
 subst hpt
 have hlen:=H6 ha
 have hh:=KR sz (K4 off ha)
 have hul:=H6 hh
 rw [List.length_take,List.length_drop] at hs
 refine ⟨_,hh,by rw [hul,List.length_take,List.length_drop];exact hs,kI hg (by simp;omega) rfl,fun v hv h1=> ?_⟩
 subst h1
 refine XL hg ?_
 simp only
 rw [List.take_one,List.head?_drop] at hv
 cases hx:us[off]? with
 | none=>rw [hx] at hv;simp at hv
 | some y=>rw [hx] at hv;simp at hv;rw [hv]
theorem PU: ∀{xs:List E0} {vs:List Value},OT xs=some vs→xs=vs.map E0.v
 | [],vs,h=>by simp only [OT,Option.some.injEq] at h;subst h;rfl
 | .v a::r,vs,h=>by
   simp only [OT,Option.map_eq_some_iff] at h
   obtain ⟨l,h1,rfl⟩:=h
   rw [List.map_cons, ←PU h1]
 | .q _::_,_,h | .z::_,_,h | .p _ _::_,_,h | .e _ _ _::_,_,h | .s _ _ _ _ _::_,_,h | .t _ _::_,_,h | .n _ _ _::_,_,h | .a _ _ _ _::_,_,h | .w::_,_,h=>by simp [OT] at h
theorem QA (i:Nat):AB (iv i)=i:=by simp [AB,iv]
theorem iN {a:Value} {i:Nat}: ∀(vs:List Value) (t:Nat),i<t→arS (iv i) a vs t=vs.map E0.v
 | [],_,_=>rfl
 | v::r,t,h=>by
   have:Nat.beq i t=false:=by cases hb:Nat.beq i t;rfl;exact absurd (Nat.eq_of_beq_eq_true hb) (by omega)
   rw [arS,iN r (t+1) (by omega),arP,QA,this];rfl
theorem dF {a:Value}: ∀(vs:List Value) (t i:Nat),arS (iv (t+i)) a vs t=(vs.set i a).map E0.v
 | [],_,_=>rfl
 | v::r,t,0=>by
   have:Nat.beq t t=true:=Nat.beq_refl t
   rw [arS,Nat.add_zero,iN r (t+1) (by omega),arP,QA,this];rfl
 | v::r,t,i+1=>by
   have:Nat.beq (t+(i+1)) t=false:=by cases hb:Nat.beq (t+(i+1)) t;rfl;exact absurd (Nat.eq_of_beq_eq_true hb) (by omega)
   rw [arS,arP,QA,this,show t+(i+1)=(t+1)+i from by omega,dF r (t+1) i];rfl
theorem XX {xs:List E0} {off n:Nat}:xs=xs.take off++((xs.drop off).take n++xs.drop (off+n)):=by
 rw [←List.drop_drop,List.take_append_drop,List.take_append_drop]
theorem QX {xs:List E0} {vs:List Value} {off n i:Nat} (hv:(xs.drop off).take n=vs.map E0.v) (hn:vs.length=n) (hi:i<n): ∃v,vs[i]? =some v∧xs[off+i]? =some (.v v):=by
 obtain ⟨v,hv'⟩: ∃v,vs[i]? =some v:=⟨vs[i],List.getElem?_eq_getElem (by omega)⟩
 refine ⟨v,hv', ?_⟩
 have h:=congrArg (fun l=>l[i]?) hv
 simp only [List.getElem?_take_of_lt hi,List.getElem?_drop,List.getElem?_map,hv',Option.map_some] at h
 exact h
theorem c6 {xs:List E0} {vs:List Value} {off n i:Nat} {a:Value} (hv:(xs.drop off).take n=vs.map E0.v) (hn:vs.length=n) (hi:i<n):xs.take off++(arS (iv i) a vs 0++xs.drop (off+n))=xs.take (off+i)++([E0.v a]++xs.drop (off+i+1)):=by
 obtain ⟨v,_,hg⟩:=QX hv hn hi
 have hlt:off+i<xs.length:=(List.getElem?_eq_some_iff.1 hg).1
 have e1:xs.set (off+i) (E0.v a)=xs.take (off+i)++([E0.v a]++xs.drop (off+i+1)):=by
  rw [List.set_eq_take_append_cons_drop,if_pos hlt];rfl
 have e0:arS (iv i) a vs 0=(vs.set i a).map E0.v:=by have:=dF (a:=a) vs 0 i;rwa [Nat.zero_add] at this
 have hto:(xs.take off).length=off:=by rw [List.length_take];omega
 rw [←e1,e0,List.map_set, ←hv]
 have hsp:=XX (xs:=xs) (off:=off) (n:=n)
 have hln:((xs.drop off).take n).length=n:=by rw [hv,List.length_map,hn]
 have:xs.set (off+i) (E0.v a)=(xs.take off++((xs.drop off).take n++xs.drop (off+n))).set (off+i) (E0.v a):=by rw [←hsp]
 rw [this,List.set_append_right _ _ (by omega),hto,show off+i-off=i from by omega,List.set_append_left _ _ (by omega)]
theorem cQ {ro:List (List T)} {m:Mst} {k off n:Nat} {j u:Value} (h:E0R ro m (.a k off n j) u): ∃i,j=iv i∧i<n∧E0R ro m (.p k (off+i)) u:=by
 obtain ⟨hk,hone,i,hj,hi,hu⟩:=h
 exact ⟨i,hj,hi,hk,hone,hu⟩
theorem lP {B:Bas} {ro:List (List T)} {m:Mst} (hm:Mem B ro m) {k off n i:Nat} {xs:List E0} {vs:List Value} {u:Value} (hr:E0R ro m (.p k (off+i)) u) (hl:A9 m.ob k=some (.bx xs)) (hv:(xs.drop off).take n=vs.map E0.v) (hn:vs.length=n) (hi:i<n):
  ∃v,vs[i]? =some v∧ld false 1 u m.s=some (v,m.s):=by
 obtain ⟨v,hv',hg⟩:=QX hv hn hi
 have hlt:off+i<xs.length:=(List.getElem?_eq_some_iff.1 hg).1
 have e1:(xs.drop (off+i)).take 1=[E0.v v]:=by
  rw [List.take_one,List.head?_drop,hg];rfl
 obtain ⟨us,g1,g2,g3,g4⟩:=lX hm hr hl (sz:=1) (by rw [e1];rfl) (.inl (by omega))
 rw [e1] at g1
 obtain ⟨w,rfl,g5⟩:=R1 g1
 have:w=v:=g5.1
 subst this
 exact ⟨w,hv',g4 w rfl rfl⟩
theorem Out.word {C:Ctx} {B:Bas} {ro:List (List T)} {m:Mst} {st:Stp} {v:Value} {e:EV} (hm:Mem B ro m) (hg:B1 C st m.s v m.s) (he:EVR (E0R ro m) e v):Out C B ro m [] [] st v e ⟨m.s,m.ob,m.nk,m.A⟩:=Out.same hm hg he
theorem cE {n sz a b:Nat} {lo hi:Option Value} {l h:Nat} (h1:bnd 0 lo=some l) (h2:bnd n hi=some h) (h3:l≤h) (h4:h≤n):scL sz (sl a b n sz) lo hi=some (sl a (b+l*sz) (h-l) sz):=by
 simp only [scL,sl,h1,h2,Option.bind_some,h3,h4,and_self,if_true]
theorem iQ {C:Ctx} {B:Bas} {ro:List (List T)} {m:Mst} (hm:Mem B ro m) {k off sz:Nat} {pre:List Nat} {u:Value} {own:Bool} {cs:List T} {ks:List CK} {r:R2} (hp:VW ks) (hr:E0R ro m (.e k pre off) u) (hl:AE ro m.ob k=some (.ls own cs)) (hs:ks.length=sz) (h:fB cs k pre off ks false=some r):
  R2S C B ro m (.rd u (ld false sz u)) r:=by
 unfold fB at h
 split at h
 ·cases h
  simp at hs;subst hs
  refine ⟨fun x y h=>(by cases h;rfl), ?_⟩
  rintro K ⟨v,h1,h2⟩
  obtain ⟨h3,h4⟩:=tB hm hr hl h1
  exact ⟨v,v,m.s,h2,Out.word hm h3 ⟨rfl,h4⟩⟩
 ·cases h
  simp at hs;subst hs
  refine ⟨fun x y h=>(by cases h), ?_⟩
  rintro K ⟨⟨ds,h1⟩,h2⟩
  obtain ⟨v,h3,h4⟩:=uM hm hp.1 hr hl h1
  exact ⟨iv 0,v,m.s,h2,Out.word hm h3 h4⟩
 ·cases h
theorem mA {ro:List (List T)} {m:Mst} {e:EV} {u:Value} {i:Nat} {v:Value} (hr:EVR (E0R ro m) e u) (hx:ex u i=some v):EVR (E0R ro m) (exE e i) v:=by
 cases e with
 | o x=>trivial
 | g xs=>trivial
 | u ys=>
   obtain ⟨us,rfl,ha⟩:=hr
   simp only [ex,List.getElem?_toArray] at hx
   simp only [exE]
   revert ha
   induction ys generalizing us i with
   | nil=>intro ha;cases us with
     | nil=>simp at hx
     | cons u us=>exact ha.elim
   | cons y ys ih=>
     intro ha
     cases us with
     | nil=>exact ha.elim
     | cons u us=>
       cases i with
       | zero=>
         simp at hx;subst hx
         have h1:=ha.1
         unfold YR at h1
         obtain ⟨b,xs⟩:=y
         cases b with
         | true=>obtain ⟨vs,hv,h1⟩:=h1;exact ⟨vs,hv,h1⟩
         | false=>obtain ⟨x,hx,h1⟩:=h1;simp only at hx;subst hx;exact h1
       | succ i=>simpa using ih (us:=us) (i:=i) (by simpa using hx) ha.2
theorem Y7 {R:E0→Value→Prop}: ∀{xs:List (Bool×List E0)} {us:List Value},gU R xs us→us.length=xs.length
 | [],[],_=>rfl
 | x::xs,u::us,hr=>by simp [Y7 hr.2]
 | [],_::_,hr=>hr.elim
 | _::_,[],hr=>hr.elim
theorem ZJ {ro:List (List T)} {m:Mst} {env:FG} {env1:Env} {av:List (Nat×Bool)} (hE:JI ro m env env1) (ha:V3 env1 av): ∀(l:List Operand),TN (EVR (E0R ro m)) (l.map (ev2 av env)) (l.map (ev env1))
 | []=>trivial
 | x::l=>⟨HX hE ha x,ZJ hE ha l⟩
theorem rF {ro:List (List T)} {m:Mst} {k:Nat} {v u:Value} {own:Bool} {cs:List T} {op:BinOp} (hl:AE ro m.ob k=some (.ls own cs)) (hx:E0R ro m (.m k v) u):bnP op u (.pointer none)=bnM op v:=by
 obtain ⟨_,_,hx⟩:=hx
 rcases hx _ _ hl with ⟨rfl,rfl⟩ | ⟨off,rfl,_,rfl⟩
 ·cases op <;> rfl
 ·have e:((off:Int)== -1)=false:=by
   rw [beq_eq_false_iff_ne];omega
  cases op <;> simp [bnP,bnM,pt,iv,bnI,e] <;> omega
theorem Z6 {B:Bas} {ro:List (List T)} {m:Mst} (hm:Mem B ro m) {y:E0} {u:Value} (hk:SZ ro m.ob y=true) (hx:E0R ro m y u): ∃a b,u=pt a b:=by
 cases y <;> simp only [SZ,Bool.false_eq_true] at hk
 ·split at hk
  ·rename_i xs hl
   exact ⟨_,_,hx.2.2 _ (BC hl)⟩
  ·cases hk
 ·split at hk
  ·rename_i own cs hl
   obtain ⟨_,_,hx⟩:=hx
   obtain ⟨ds,h,b,_,_,_,hu⟩:=hx _ _ hl
   exact ⟨_,_,hu⟩
  ·cases hk
theorem rN {ro:List (List T)} {m:Mst} {y:E0} {u:Value} {a b n:Nat} (hx:E0R ro m y u) (hu:u=pt a b) (hk:SZ ro m.ob y=true):E0R ro m (sS y n) (pt a (b+n)):=by
 cases y <;> simp only [SZ,Bool.false_eq_true] at hk
 ·refine ⟨hx.1,rfl,fun xs hl=> ?_⟩
  have:=hx.2.2 xs hl
  rw [hu] at this
  simp only [pt,Value.pointer.injEq,Option.some.injEq,Addr.mk.injEq,and_true] at this ⊢
  exact ⟨this.1,by rw [this.2]⟩
 ·obtain ⟨h1,h2,hx⟩:=hx
  refine ⟨h1,rfl,fun own cs hl=> ?_⟩
  obtain ⟨ds,h,b',g1,g2,g3,g4⟩:=hx own cs hl
  rw [hu] at g4
  simp only [pt,Value.pointer.injEq,Option.some.injEq,Addr.mk.injEq,and_true] at g4
  exact ⟨ds,h,b',g1,g2,g3,by rw [g4.1,g4.2,Nat.add_assoc]⟩
theorem XR {s:St} {o:Bool}: ∀{c:List T} {us:List Value} {F:List Nat},TRs s o c us F→c.all P5=us.all isByte∧ ∀b,c.foldl ZO b=us.foldl WT b
 | [],us,F,h=>by simp only [TRs] at h;rw [h.1];exact ⟨rfl,fun b=>rfl⟩
 | .c v::c,us,F,h=>by
   simp only [TRs] at h
   obtain ⟨u,us',F1,F2,rfl,h1,h2,_⟩:=h
   simp only [TR] at h1
   obtain ⟨rfl,_,_⟩:=h1
   obtain ⟨g1,g2⟩:=XR h2
   have e1:P5 (.c u)=isByte u:=by
    unfold P5 isByte
    cases u <;> try rfl
    all_goals (rename IntKind=>k;cases k <;> rfl)
   have e2: ∀b,ZO b (.c u)=WT b u:=fun b=>by cases u <;> rfl
   exact ⟨by simp only [List.all_cons,e1,g1],fun b=>by simp only [List.foldl_cons,e2,g2]⟩
 | .l e cs::c,us,F,h=>by
   simp only [TRs] at h
   obtain ⟨u,us',F1,F2,rfl,h1,h2,_⟩:=h
   obtain ⟨g1,g2⟩:=XR h2
   have hu:isByte u=false∧ ∀b,WT b u=b:=by
    rcases IA.1 h1 with ⟨rfl,_⟩ | ⟨_,_,_,rfl,_⟩ <;> exact ⟨rfl,fun b=>rfl⟩
   exact ⟨by simp only [List.all_cons,P5,hu.1,Bool.false_and],fun b=>by simp only [List.foldl_cons,ZO,hu.2,g2]⟩
 | .x::c,us,F,h=>by
   simp only [TRs] at h
   obtain ⟨u,us',F1,F2,rfl,h1,h2,_⟩:=h
   obtain ⟨g1,g2⟩:=XR h2
   have hu:isByte u=false∧ ∀b,WT b u=b:=by
    simp only [TR] at h1
    cases u <;> first | (simp [rS] at h1;done) | exact ⟨rfl,fun b=>rfl⟩
   exact ⟨by simp only [List.all_cons,P5,hu.1,Bool.false_and],fun b=>by simp only [List.foldl_cons,ZO,hu.2,g2]⟩
theorem ZW {B:Bas} {ro:List (List T)} {m:Mst} (hm:Mem B ro m) {y:E0} {u:Value} {n:Nat} (hx:E0R ro m y u) (hn:JN ro m.ob y=some n): ∃c,EK ro m.ob y (szE y)=some c:=by
 cases y with
 | z=>exact ⟨[],rfl⟩
 | t k e=>
   simp only [JN] at hn
   split at hn
   ·rename_i hl;exact ⟨_,by simp only [EK,szE,Nat.beq_refl,hl];rfl⟩
   ·cases hn
 | s k pre off n' e=>
   simp only [JN] at hn
   split at hn
   ·rename_i hl;exact ⟨_,by simp only [EK,szE,Nat.beq_refl,hl];rfl⟩
   ·cases hn
 | n k pre e=>
   simp only [JN] at hn
   split at hn
   ·rename_i hl;exact ⟨_,by simp only [EK,szE,Nat.beq_refl,hl];rfl⟩
   ·cases hn
 | _=>simp [JN] at hn
theorem BB (n:Nat):AB (iv n)=n:=Int.toNat_natCast n
theorem eD {B:Bas} {ro:List (List T)} {m:Mst} (hm:Mem B ro m) {y:E0} {u:Value} {n sz l h:Nat} {c:List T} {lo hi:Option Value} (hx:E0R ro m y u) (hc:EK ro m.ob y (szE y)=some c) (hn:JN ro m.ob y=some n) (hb:szE y=sz∨isZ y=true) (k1:bnd 0 lo=some l) (k2:bnd n hi=some h) (k3:l≤h) (k4:h≤n):
  ∃v,scL sz u lo hi=some v∧EVR (E0R ro m) (MV y sz (iv l) (iv (h-l))) v:=by
 have hco:=LB hm hx hc hn
 have hnil:u=nl→n=0→scL sz u lo hi=some nl∧h-l=0:=fun hu h0=>by
  subst hu;subst h0
  have:h=0:=by omega
  subst this
  have:l=0:=by omega
  subst this
  exact ⟨by simp only [scL,nl,k1,k2,Option.bind_some,and_self,if_true],rfl⟩
 have hmul:l*sz+(h-l)*sz≤n*sz:=by rw [←Nat.add_mul];exact Nat.mul_le_mul_right _ (by omega)
 cases y with
 | z=>
   simp only [JN,Option.some.injEq] at hn;subst hn
   exact ⟨nl,(hnil hx rfl).1,rfl⟩
 | t k e=>
   have hb:e=sz:=hb.resolve_right (by simp [isZ])
   subst hb
   obtain ⟨hlt,hone,hpos,hr⟩:=hx
   rcases hco.at_ with ⟨hu,h0,_⟩ | ⟨a,b,F,own,hu,hw,_⟩
   ·obtain ⟨g1,g2⟩:=hnil hu h0
    refine ⟨nl,g1, ?_⟩
    simp only [MV,BB]
    exact ⟨hlt,rfl,fun own cs hl=> .inl ⟨rfl,g2⟩⟩
   ·refine ⟨_,by rw [hu];exact cE k1 k2 k3 k4, ?_⟩
    simp only [MV,BB]
    refine ⟨hlt,rfl,fun own cs hl=> ?_⟩
    rcases hr own cs hl with ⟨hh,_⟩ | ⟨n',h1,h2,h3⟩
    ·rw [hu] at hh;cases hh
    ·rw [hu] at h3
     simp only [sl,Value.slice.injEq,Option.some.injEq,Addr.mk.injEq,and_true] at h3
     obtain ⟨⟨e1,e2⟩,e3⟩:=h3
     exact .inr ⟨cs,_,_,rfl,by rw [h2, ←e3.1];exact hmul,h1,rfl,by rw [e1,e2]⟩
 | s k pre off n' e=>
   have hb:e=sz:=hb.resolve_right (by simp [isZ])
   subst hb
   obtain ⟨hlt,hone,hr⟩:=hx
   rcases hco.at_ with ⟨hu,h0,_⟩ | ⟨a,b,F,own,hu,hw,_⟩
   ·obtain ⟨g1,g2⟩:=hnil hu h0
    refine ⟨nl,g1, ?_⟩
    simp only [MV,BB]
    exact ⟨hlt,rfl,fun own cs hl=> .inl ⟨rfl,g2⟩⟩
   ·refine ⟨_,by rw [hu];exact cE k1 k2 k3 k4, ?_⟩
    simp only [MV,BB]
    refine ⟨hlt,rfl,fun own cs hl=> ?_⟩
    rcases hr own cs hl with ⟨hh,_⟩ | ⟨ds,x,b',h1,h2,h3,h4,h5⟩
    ·rw [hu] at hh;cases hh
    ·rw [hu] at h5
     simp only [sl,Value.slice.injEq,Option.some.injEq,Addr.mk.injEq,and_true] at h5
     obtain ⟨⟨e1,e2⟩,e3⟩:=h5
     exact .inr ⟨ds,x,b',h1,by rw [←e3.1] at h2;omega,h3,h4,by rw [e1,e2,Nat.add_assoc]⟩
 | n k pre e=>
   have hb:e=sz:=hb.resolve_right (by simp [isZ])
   subst hb
   obtain ⟨hlt,hone,hpos,hr⟩:=hx
   rcases hco.at_ with ⟨hu,h0,_⟩ | ⟨a,b,F,own,hu,hw,_⟩
   ·obtain ⟨g1,g2⟩:=hnil hu h0
    refine ⟨nl,g1, ?_⟩
    simp only [MV,BB]
    exact ⟨hlt,rfl,fun own cs hl=> .inl ⟨rfl,g2⟩⟩
   ·refine ⟨_,by rw [hu];exact cE k1 k2 k3 k4, ?_⟩
    simp only [MV,BB]
    refine ⟨hlt,rfl,fun own cs hl=> ?_⟩
    obtain ⟨ds,h1,hr⟩:=hr own cs hl
    rcases hr with ⟨hh,_⟩ | ⟨n',x,b',h3,h4,h2,h5⟩
    ·rw [hu] at hh;cases hh
    ·rw [hu] at h5
     simp only [sl,Value.slice.injEq,Option.some.injEq,Addr.mk.injEq,and_true] at h5
     obtain ⟨⟨e1,e2⟩,e3⟩:=h5
     exact .inr ⟨ds,x,b',h1,by rw [h2, ←e3.1];exact hmul,h3,h4,by rw [e1,e2]⟩
 | _=>simp [JN] at hn
theorem bO {C:Ctx} {B:Bas} {ro:List (List T)} {m:Mst} {f:FuncId} {g:Sg} {es:List EV} {as:List Value} {r:R2} (hm:Mem B ro m) (ha:TN (EVR (E0R ro m)) es as) (h:pG C ro m.ob f g es=some r):R2S C B ro m (.call f as) r:=by
 unfold pG at h
 split at h
 ·rename_i y w sz md hps
  simp only [Option.bind_eq_some_iff] at h
  obtain ⟨n,hn,c,hc,h⟩:=h
  split at h
  ·rename_i hb
   cases h
   obtain ⟨u,as',rfl,hu,ha2⟩: ∃u as',as=u::as'∧EVR (E0R ro m) (.o y) u∧TN (EVR (E0R ro m)) [] as':=by
    cases as with
    | nil=>exact ha.elim
    | cons u as'=>exact ⟨u,as',rfl,ha.1,ha.2⟩
   cases as' with
   | cons a l=>exact ha2.elim
   | nil=>
   have hbb:szE y=sz∨isZ y=true:=by
    simp only [Bool.or_eq_true] at hb
    exact hb.imp (fun h=>Nat.eq_of_beq_eq_true h) id
   refine ⟨fun x v hh=> ?_, ?_⟩
   ·cases y <;> simp [MV] at hh
   ·rintro K ⟨k,hk,hg,hK⟩
    have hbn:bnd n (some (iv k))=some k:=rfl
    obtain ⟨v,h1,h2⟩:=eD hm hu hc hn hbb (lo:=none) (hi:=some (iv k)) (l:=0) (h:=k) rfl hbn (Nat.zero_le _) hk
    refine ⟨iv k,v,m.s,hK,Out.word hm (hg _ _ _ ?_ h1) (by simpa using h2)⟩
    have hco:=LB hm hu hc hn
    rcases hco.at_ with ⟨hu,h0,_⟩ | ⟨a,b,F,own,hu,hw,_⟩
    ·exact .inl ⟨hu,h0⟩
    ·rcases hbb with hbb | hbb
     ·subst hbb;exact .inr ⟨a,b,hu⟩
     ·cases y <;> simp [isZ] at hbb
      simp only [JN,Option.some.injEq] at hn
      subst hn
      have hu':u=nl:= ‹EVR (E0R ro m) (EV.o E0.z) u›
      exact .inl ⟨hu',rfl⟩
  ·cases h
 ·cases h
theorem ZM {C:Ctx} {B:Bas} {ro:List (List T)} {m:Mst} {f:FuncId} {g:Sg} {es:List EV} {as:List Value} {r:R2} (hm:Mem B ro m) (ha:TN (EVR (E0R ro m)) es as) (h:eI C ro m.ob m.nk f g es=some r):R2S C B ro m (.call f as) r:=by
 unfold eI at h
 split at h
 ·exact bO hm ha h
 simp only [Option.bind_eq_some_iff] at h
 obtain ⟨ar,hp,h⟩:=h
 split at h
 ·cases h
 ·rename_i hc
  simp only [Bool.and_eq_true] at hc
  split at h
  ·rename_i hv
   cases h
   simp only [Bool.and_eq_true,List.isEmpty_iff] at hv
   refine ⟨fun x y h=>(by cases h;rfl), ?_⟩
   intro K hK
   obtain ⟨vs',cs',v,s',A',h1,h2,h3,h4⟩:=X8 (C:=C) hm hc.1.1 hp ha hc.1.2 hc.2 hK
   obtain ⟨h4,rfl⟩:=h4 hv.1.1
   have hmo:=TU hp hv.1.2
   have hbids:=P7 hp hv.1.2
   rw [KY hmo] at h2 h3
   have hrs: ∀(sl:List E0) (i j:Nat),J9 sl vs' cs' g.rs m.ob m.nk i j=⟨[(0,[.v (nx vs' i)])],m.ob,m.nk,i+1,j⟩:=by
    intro sl i j
    have hh:=hv.1.1
    unfold oL at hh
    split at hh
    ·rename_i hrs;rw [hrs];rfl
    ·cases hh
   simp only [hrs] at h2 h3
   rw [KW hmo,(hbids _ _ _ _ _ _ _ _).1,(hbids _ _ _ _ _ _ _ _).2,hv.1.2,I6] at h2
   have hA:A'=m.A:=funext fun k=>by
    have:=h3 hv.1.2 k
    rw [(hbids _ _ _ _ _ _ _ _).2] at this
    exact this (by omega)
   subst hA
   exact ⟨nx vs' 0,nx vs' 0,s',h1,h2⟩
  ·split at h
   ·rename_i hv
    cases h
    simp only [Bool.and_eq_true,List.isEmpty_iff] at hv
    intro K hK
    obtain ⟨vs',cs',v,s',A',h1,h2,h3,h4⟩:=X8 (C:=C) hm hc.1.1 hp ha hc.1.2 hc.2 hK
    have hmo:=TU hp hv.1
    have hbids:=P7 hp hv.1
    have hf:EA []=id:=funext fun _=>J7
    rw [KY hmo] at h2
    rw [KW hmo,(hbids _ _ _ _ _ _ _ _).1,(hbids _ _ _ _ _ _ _ _).2,hv.1,I6,hf,List.map_id] at h2
    exact ⟨_,_,_,v,s',A',h1,h2⟩
   ·cases h
    intro K hK
    obtain ⟨vs',cs',v,s',A',h1,h2,h3,h4⟩:=X8 (C:=C) hm hc.1.1 hp ha hc.1.2 hc.2 hK
    exact ⟨_,_,_,v,s',A',h1,h2⟩
theorem l5 {B:Bas} {ro:List (List T)} {m:Mst} (hm:Mem B ro m) {y:E0} {u:Value} {n sz j:Nat} (hx:E0R ro m y u) (hn:JN ro m.ob y=some n) (hb:szE y=sz) (hj:j<n) (ik:IntKind):
  ∃v,ia sz u (.int ik (Int.ofNat j))=some v∧EVR (E0R ro m) (VQ y sz (iv j)) v:=by
 obtain ⟨c,hc⟩:=ZW hm hx hn
 have hco:=LB hm hx hc hn
 subst hb
 obtain ⟨a,b,hu,hia⟩:=uJ hco hj ik
 refine ⟨_,hia, ?_⟩
 cases y with
 | z=>simp only [JN,Option.some.injEq] at hn;omega
 | t k e=>
   obtain ⟨hlt,hone,hpos,hr⟩:=hx
   simp only [VQ,BB,szE] at*
   refine ⟨hlt,rfl,fun own cs hl=> ?_⟩
   rcases hr own cs hl with ⟨hh,_⟩ | ⟨n',h1,h2,h3⟩
   ·rw [hu] at hh;cases hh
   ·rw [hu] at h3
    simp only [sl,Value.slice.injEq,Option.some.injEq,Addr.mk.injEq,and_true] at h3
    obtain ⟨⟨e1,e2⟩,e3⟩:=h3
    exact ⟨cs,_,_,rfl,h1,rfl,by rw [e1,e2]⟩
 | s k pre off n' e=>
   obtain ⟨hlt,hone,hr⟩:=hx
   simp only [VQ,BB,szE] at*
   refine ⟨hlt,rfl,fun own cs hl=> ?_⟩
   rcases hr own cs hl with ⟨hh,_⟩ | ⟨ds,x,b',h1,h2,h3,h4,h5⟩
   ·rw [hu] at hh;cases hh
   ·rw [hu] at h5
    simp only [sl,Value.slice.injEq,Option.some.injEq,Addr.mk.injEq,and_true] at h5
    obtain ⟨⟨e1,e2⟩,e3⟩:=h5
    exact ⟨ds,x,b',h1,h3,h4,by rw [e1,e2,Nat.add_assoc]⟩
 | n k pre e=>
   obtain ⟨hlt,hone,hpos,hr⟩:=hx
   simp only [VQ,BB,szE] at*
   refine ⟨hlt,rfl,fun own cs hl=> ?_⟩
   obtain ⟨ds,h1,hr⟩:=hr own cs hl
   rcases hr with ⟨hh,_⟩ | ⟨n',x,b',h3,h4,h2,h5⟩
   ·rw [hu] at hh;cases hh
   ·rw [hu] at h5
    simp only [sl,Value.slice.injEq,Option.some.injEq,Addr.mk.injEq,and_true] at h5
    obtain ⟨⟨e1,e2⟩,e3⟩:=h5
    exact ⟨ds,x,b',h1,h3,h4,by rw [e1,e2]⟩
 | _=>simp [JN] at hn
theorem W3 {C:Ctx} {B:Bas} {ro:List (List T)} {m:Mst} {sgs:List (Nat×Sg)} {env:FG} {env1:Env} {av:List (Nat×Bool)} {o:Oper} {r:R2} (hm:Mem B ro m) (hE:JI ro m env env1) (ha:V3 env1 av) (h:op2 C sgs ro m.ob m.nk av env o=some r): ∃st,AH C.P env1 o=some st∧R2S C B ro m st r:=by
 obtain ⟨dst,op,type,pos,after,guard⟩:=o
 cases op
 case move x=>
  simp only [op2,Option.some.injEq] at h;subst h
  exact ⟨_,rfl,_,Out.same hm ⟨rfl,rfl⟩ (HX hE ha x)⟩
 case assign x=>
  simp only [op2,Option.some.injEq] at h;subst h
  exact ⟨_,rfl,_,Out.same hm ⟨rfl,rfl⟩ (HX hE ha x)⟩
 case pick c a b=>
  simp only [op2,Option.bind_eq_some_iff,Option.map_eq_some_iff] at h
  obtain ⟨cv,h1,x,h2,y,h3,rfl⟩:=h
  refine ⟨_,rfl,fun x y h=>(by cases h;rfl), ?_⟩
  rintro K ⟨v,k1,k2,k3⟩
  have hc:=GZ hE ha h1
  have hav: ∀w,cv= .bool w→V3 env1 (XT c w av):=by
   intro w hw
   cases c with
   | tmp t=>
     intro g w' hg
     simp only [XT,QG,Bool.or_eq_true,Bool.and_eq_true] at hg
     rcases hg with ⟨e1,e2⟩ | hg
     ·have:=Nat.eq_of_beq_eq_true e1;subst this
      have:w=w':=by simpa using e2
      subst this
      have:ev env1 (.tmp t)=lk env1 t:=rfl
      rw [←this,hc,hw]
     ·exact ha g w' hg
   | _=>exact ha
  refine ⟨v,v,m.s,k3,Out.word hm ⟨?_,rfl⟩ ⟨rfl,k2⟩⟩
  rw [hc]
  cases cv with
  | bool w=>
    cases w with
    | true=>
      have:=GZ hE (hav true rfl) h2
      simp only [pk] at k1 ⊢;rw [this];exact k1
    | false=>
      have:=GZ hE (hav false rfl) h3
      simp only [pk] at k1 ⊢;rw [this];exact k1
  | _=>simp [pk] at k1
 case alloc t=>
  simp only [op2,Option.map_eq_some_iff] at h
  obtain ⟨z,hz,rfl⟩:=h
  refine ⟨.al (al z.1),by simp only [AH,hz,Option.map_some],_,_,_,eC hm (MX ?_) rfl⟩
  simp only [J5,Option.bind_eq_some_iff] at hz
  obtain ⟨i,_,w,_,hz⟩:=hz
  split at hz
  ·rename_i hc
   simp only [Bool.and_eq_true] at hc
   cases hz;exact hc.2
  ·cases hz
 case box t x=>
  simp only [op2,Option.map_eq_some_iff] at h
  obtain ⟨xs,h1,rfl⟩:=h
  obtain ⟨hv,hx⟩:=NM h1 (HX hE ha x)
  exact ⟨.al (bx (ev env1 x)),rfl,_,_,_,eC hm hx (by simp only [B1,bx,hv,if_true])⟩
 case build t parts=>
  simp only [op2,Option.bind_eq_some_iff] at h
  obtain ⟨z,hz,h⟩:=h
  split at h
  ·rename_i fields hu
   split at h
   ·rename_i hfo
    simp only [Option.bind_eq_some_iff,Option.map_eq_some_iff] at h
    obtain ⟨ps,h1,xs,h2,rfl⟩:=h
    have hzc:z.1.all JY=true:=by
     simp only [J5,Option.bind_eq_some_iff] at hz
     obtain ⟨i,_,w,_,hz⟩:=hz
     split at hz
     ·rename_i hc
      simp only [Bool.and_eq_true] at hc
      cases hz;exact hc.2
     ·cases hz
    obtain ⟨l,us,g1,g2,g3⟩:=aC hE ha parts.toList ps _ z.1 xs h1 h2 (MX hzc)
    refine ⟨.pure (bd z.1 l),by simp only [AH,hz,hu,hfo,Option.bind_some,if_true,g1,Option.map_some],_,Out.same hm ⟨by simp only [bd,g2,Option.map_some],rfl⟩ ⟨us,rfl,g3⟩⟩
   ·cases h
  ·cases h
 case buildSlice t len parts=>
  simp only [op2] at h
  split at h
  ·rename_i e hu
   simp only [Option.bind_eq_some_iff] at h
   obtain ⟨z,hz,ks,hks,zt,hzt,h⟩:=h
   split at h
   ·rename_i hc
    simp only [Option.bind_eq_some_iff] at h
    obtain ⟨ps,h1,h⟩:=h
    simp only [Bool.and_eq_true,decide_eq_true_eq] at hc
    split at h
    ·rename_i k cs pre off e1 hmv
     cases h
     obtain ⟨rfl,rfl,rfl,hl0⟩:=jS hmv
     have hz1:z.2.1=1:=(Nat.eq_of_beq_eq_true hc.2).symm
     have hst:AH C.P env1 ⟨dst, .buildSlice t 1 parts,type,pos,after,guard⟩=some (.al (bs z.2.1 1 z.1 (H9 env1 z.2.1 parts.toList))):=by
      simp only [AH,hu,hz,Option.bind_some]
      rw [if_pos (by simp only [Bool.and_eq_true,decide_eq_true_eq];exact hc.1)]
     refine ⟨_,hst,fun K hK=> ?_⟩
     obtain ⟨ds,hc2,hK⟩:=hK
     rw [hz1] at h1
     obtain ⟨x,hp1,u,hu1,hu2⟩: ∃x,parts.toList=[(0,x)]∧ ∃u,cellsOf (ev env1 x)=[u]∧(vok (ev env1 x)=true∧E0R ro m (.n k (pre++[off]) e1) u):=by
      cases hpl:parts.toList with
      | nil=>rw [hpl] at h1;simp [OZ] at h1
      | cons a r=>
        rw [hpl] at h1
        obtain ⟨i,x⟩:=a
        simp only [OZ,Option.bind_eq_some_iff,Option.map_eq_some_iff] at h1
        obtain ⟨xs,g1,l,g2,g3⟩:=h1
        simp only [List.cons.injEq,Prod.mk.injEq] at g3
        obtain ⟨⟨g3,rfl⟩,rfl⟩:=g3
        have hr:r=[]:=by
         cases r with
         | nil=>rfl
         | cons a r=>obtain ⟨i',x'⟩:=a;simp only [OZ,Option.bind_eq_some_iff,Option.map_eq_some_iff] at g2;obtain ⟨_,_,_,_,g2⟩:=g2;cases g2
        subst hr
        obtain ⟨hv,hx⟩:=NM g1 (HX hE ha x)
        obtain ⟨u,hu1,hu2⟩:=R1 hx
        exact ⟨x,by rw [show i=0 by omega],u,hu1,hv,hu2⟩
     obtain ⟨A',key⟩:=lY (C:=C) (st:= .al (bs z.2.1 1 z.1 (H9 env1 z.2.1 parts.toList))) hm hl0 hc2 hu2.2 (by
      have hzl:(zTs [CK.l e1] z.1)=some zt:=hzt
      obtain ⟨hz3,hz4⟩:=VX (s:=m.s) hzt
      have hz5:=JQ hz3
      simp only [B1,bs,hp1,hz1,H9,MU,hu2.1,hu1,Nat.zero_mul,beq_self_eq_true,Bool.and_self,Bool.true_and,List.length_singleton]
      have hrl:(NB 1 z.1).length=1:=by simp [NB,hz5,hz4]
      rw [if_pos (by rw [hrl];decide)]
      have hsp:B9 (NB 1 z.1) 0 [u]=[u]:=by
       unfold B9
       rw [List.take_zero,List.nil_append,List.drop_of_length_le (by rw [hrl];simp),List.append_nil]
      simp only [Option.map_some,hsp])
     exact ⟨_,_,_,_,_,A',hK,key⟩
    simp only [Option.map_eq_some_iff] at h
    obtain ⟨p,h2,rfl⟩:=h
    have hkl:ks.length=z.2.1:=Nat.eq_of_beq_eq_true hc.2
    obtain ⟨hz1,hz2⟩:=VX (s:=m.s) hzt
    obtain ⟨hr1,hr2⟩:=bT (n:=len) hz1
    obtain ⟨cs',dl',Fn',g1,g2,g3,g4,g5⟩:=dE hm hE ha hkl parts.toList ps _ m.ob p.1 p.2 _ [] [] h1 (HO.nil hm.kok) (Mov.nil m) hr1 h2
    refine ⟨.al (bs z.2.1 len z.1 (H9 env1 z.2.1 parts.toList)), ?_,_,_,_,RF (s1:=m.s) (n:=len) (aff:=[]) hm g2 g3 g4 rfl (fun _ _ _=>rfl) hc.1.1 (by rw [g5,hr2,hz2,hkl]) ?_ (fun _ _ _ _ _ _=>rfl)⟩
    ·simp only [AH,hu,hz,Option.bind_some]
     rw [if_pos (by simp only [Bool.and_eq_true,decide_eq_true_eq];exact hc.1)]
    ·simp only [B1,bs,g1,Option.map_some]
   ·cases h
  ·cases h
 case load t x=>
  simp only [op2,Option.bind_eq_some_iff] at h
  obtain ⟨sz,hsz,ag,hag,h⟩:=h
  have hx:=HX hE ha x
  refine ⟨.rd (ev env1 x) (ld ag sz (ev env1 x)),by simp only [AH,hsz,hag,Option.bind_some,Option.map_some], ?_⟩
  split at h
  ·rename_i k off he
   rw [he] at hx
   split at h
   ·rename_i xs hl
    split at h
    ·rename_i hb
     simp only [Bool.and_eq_true] at hb
     have hlen:=Nat.eq_of_beq_eq_true hb.1
     have hpos:0<sz:=Nat.le_of_ble_eq_true hb.2
     obtain ⟨us,g1,g2,g3,g4⟩:=lX hm hx hl hlen (.inl (by omega))
     cases ag with
     | true=>
       cases h
       exact ⟨_,Out.same hm g3 ⟨us,rfl,g1⟩⟩
     | false=>
       simp only at h
       split at h
       ·rename_i y hy
        cases h
        rw [hy] at hlen g1
        simp at hlen
        subst hlen
        obtain ⟨v,rfl,g5⟩:=R1 g1
        exact ⟨v,Out.same hm (g4 v rfl rfl) g5⟩
       ·cases h
    ·cases h
   ·cases h
  ·rename_i k pre off he
   rw [he] at hx
   split at h
   ·rename_i own cs hl
    simp only [Option.bind_eq_some_iff] at h
    obtain ⟨ks,hks,h⟩:=h
    have hp:=Q8 hks
    split at h
    ·rename_i hb
     simp only [Bool.and_eq_true] at hb
     have hkl:ks.length=sz:=Nat.eq_of_beq_eq_true hb.1
     have hpos:0<sz:=Nat.le_of_ble_eq_true hb.2
     cases ag with
     | false=>exact iQ hm hp hx hl hkl h
     | true=>
       simp only at h
       split at h
       ·rename_i hoc
        cases h
        refine ⟨fun x y h=>(by cases h), ?_⟩
        rintro K ⟨ts,k1,k2,k3⟩
        obtain ⟨us,g1,g2⟩:=pX hm hp (by omega) hx hl k1 k2
        rw [hkl] at g1
        rw [jY hoc] at g2
        exact ⟨_,_,m.s,k3,Out.same hm g1 ⟨us,rfl,g2⟩⟩
       ·cases h
        rintro K ⟨ts,k1,k2,k3⟩
        obtain ⟨us,g1,g2⟩:=pX hm hp (by omega) hx hl k1 k2
        rw [hkl] at g1
        exact ⟨_,_,_,_,m.s,m.A,k3,Out.same hm g1 ⟨us,rfl,g2⟩⟩
    ·cases h
   ·cases h
  ·rename_i k off n j he
   rw [he] at hx
   split at h
   ·rename_i xs hl
    simp only [Option.bind_eq_some_iff] at h
    obtain ⟨vs,hvs,h⟩:=h
    split at h
    ·rename_i hb
     cases h
     simp only [Bool.and_eq_true] at hb
     obtain rfl:sz=1:=Nat.eq_of_beq_eq_true hb.1
     obtain ⟨i,rfl,hi,hp⟩:=cQ hx
     obtain ⟨v,g1,g2⟩:=lP hm hp hl (PU hvs) (Nat.eq_of_beq_eq_true hb.2) hi
     refine ⟨fun x y h=>by cases h;rfl, ?_⟩
     rintro K ⟨w,k1,k2,k3⟩
     have:w=v:=by
      rw [arG,QA,g1] at k1
      exact (Option.some.inj k1).symm
     subst this
     exact ⟨w,w,m.s,k3,Out.same hm g2 ⟨rfl,k2⟩⟩
    ·cases h
   ·cases h
  ·cases h
 case store t x v=>
  simp only [op2,Option.bind_eq_some_iff] at h
  obtain ⟨sz,hsz,h⟩:=h
  have hx:=HX hE ha x
  refine ⟨.mu (sto sz (ev env1 x) (ev env1 v)),by simp only [AH,hsz,Option.map_some], ?_⟩
  split at h
  ·rename_i k off he
   rw [he] at hx
   split at h
   ·rename_i xs hl
    simp only [Option.bind_eq_some_iff] at h
    obtain ⟨ys,hy,h⟩:=h
    split at h
    ·rename_i hb
     cases h
     simp only [Bool.and_eq_true] at hb
     obtain ⟨hv,hya⟩:=NM hy (HX hE ha v)
     obtain ⟨s',ho⟩:=WC (C:=C) hm hl hx hv hya (Nat.eq_of_beq_eq_true hb.1) (Nat.le_of_ble_eq_true hb.2)
     exact ⟨undef,s',_,ho⟩
    ·cases h
   ·cases h
  ·rename_i k pre off he
   rw [he] at hx
   simp only [Option.bind_eq_some_iff] at h
   obtain ⟨ks,hks,h⟩:=h
   split at h
   ·rename_i hb
    simp only [Bool.and_eq_true] at hb
    have hkl:ks.length=sz:=Nat.eq_of_beq_eq_true hb.1
    have hpos:0<sz:=Nat.le_of_ble_eq_true hb.2
    unfold cP at h
    split at h
    ·rename_i a cs hva hl
     cases h
     simp at hkl;subst hkl
     rintro K ⟨⟨w,k1⟩,k2⟩
     have hv:=HX hE ha v
     rw [hva] at hv
     obtain ⟨s',A',ho⟩:=mT (C:=C) hm hl hx hv.2 k1
     rw [hv.1]
     exact ⟨_,_,_,undef,s',A',k2,ho⟩
    ·simp only [Option.bind_eq_some_iff] at h
     obtain ⟨xs,h1,p,h2,h⟩:=h
     split at h
     ·rename_i cs hl
      cases h
      rintro K ⟨⟨ds,k1,k2⟩,k3⟩
      obtain ⟨hv,hxa⟩:=NM h1 (HX hE ha v)
      obtain ⟨s',A',ho⟩:=pM (C:=C) hm h2 hl hx hv hxa hkl k1 k2 hpos
      exact ⟨_,_,_,undef,s',A',k3,ho⟩
     ·cases h
   ·cases h
  ·rename_i k off n j he
   rw [he] at hx
   split at h
   ·rename_i xs a hl hva
    simp only [Option.bind_eq_some_iff] at h
    obtain ⟨vs,hvs,h⟩:=h
    split at h
    ·rename_i hb
     cases h
     simp only [Bool.and_eq_true] at hb
     obtain rfl:sz=1:=Nat.eq_of_beq_eq_true hb.1
     obtain ⟨i,rfl,hi,hp⟩:=cQ hx
     have hn:=Nat.eq_of_beq_eq_true hb.2
     obtain ⟨_,_,hg⟩:=QX (PU hvs) hn hi
     have hlt:=(List.getElem?_eq_some_iff.1 hg).1
     have hv:=HX hE ha v
     rw [hva] at hv
     obtain ⟨o1,o2⟩:=SX hv.2
     rw [hv.1]
     obtain ⟨s',ho⟩:=WC (C:=C) (ys:=[.v a]) hm hl hp o1 (by rw [o2];exact ⟨⟨rfl,hv.2⟩,trivial⟩) rfl (by simp only [List.length_singleton];omega)
     rw [c6 (PU hvs) hn hi]
     exact ⟨undef,s',_,ho⟩
    ·cases h
   ·cases h
  ·cases h
 case nilCheck x=>
  simp only [op2] at h
  have hx:=HX hE ha x
  refine ⟨.pure (nc (ev env1 x)),rfl, ?_⟩
  split at h
  ·rename_i y he
   rw [he] at hx
   split at h
   ·rename_i hk
    cases h
    obtain ⟨a,b,hu⟩:=Z6 hm hk hx
    exact ⟨_,Out.same hm ⟨by rw [hu];rfl,rfl⟩ hx⟩
   ·split at h
    ·rename_i k v
     split at h
     ·rename_i own cs hl
      cases h
      obtain ⟨hlt,_,hx⟩:=hx
      refine ⟨fun x y h=>(by cases h), ?_⟩
      rintro K ⟨n,k1,k2⟩
      rcases hx _ _ hl with ⟨hv,_⟩ | ⟨off,hv,hn,hu⟩
      ·rw [hv] at k1
       simp only [iv,Value.int.injEq,true_and] at k1
       omega
      ·rw [hv] at k1
       simp only [iv,Value.int.injEq,true_and] at k1
       obtain rfl:off=n:=by omega
       exact ⟨iv off,_,m.s,k2,Out.word hm ⟨by rw [hu];rfl,rfl⟩ ⟨hlt,rfl,fun own cs hl=>⟨cs,_,_,rfl,hn,rfl,rfl⟩⟩⟩
     ·cases h
    ·cases h
  ·cases h
 case fieldAddr t x i=>
  simp only [op2] at h
  have hx:=HX hE ha x
  split at h
  ·rename_i fields hu
   simp only [Option.bind_eq_some_iff] at h
   obtain ⟨f,h1,sz,h2,h⟩:=h
   split at h
   ·cases h
   ·rename_i h0
    split at h
    ·rename_i y he
     rw [he] at hx
     split at h
     ·rename_i hk
      cases h
      obtain ⟨a,b,hpt⟩:=Z6 hm hk hx
      refine ⟨.pure (fa f.offset (ev env1 x)),by simp only [AH,hu,h1,h2,Option.bind_some,h0,if_false],pt a (b+f.offset),Out.same hm ⟨by rw [hpt];rfl,rfl⟩ (rN hx hpt hk)⟩
     ·cases h
    ·cases h
  ·cases h
 case binOp op t x y z=>
  simp only [op2] at h
  split at h
  ·rename_i k hu
   simp only [Option.bind_eq_some_iff,Option.map_eq_some_iff] at h
   obtain ⟨a,h1,b,h2,rfl⟩:=h
   exact ⟨.pure (bnI op (ev env1 x) (ev env1 y)),by simp only [AH,hu],R2S.pure hm (by rw [GZ hE ha h1,GZ hE ha h2])⟩
  ·rename_i hu
   simp only [Option.bind_eq_some_iff,Option.map_eq_some_iff] at h
   obtain ⟨a,h1,b,h2,rfl⟩:=h
   exact ⟨.pure (bnS op (ev env1 x) (ev env1 y)),by simp only [AH,hu],R2S.pure hm (by rw [GZ hE ha h1,GZ hE ha h2])⟩
  ·rename_i hu
   simp only [Option.bind_eq_some_iff,Option.map_eq_some_iff] at h
   obtain ⟨a,h1,b,h2,rfl⟩:=h
   exact ⟨.pure (bnB op (ev env1 x) (ev env1 y)),by simp only [AH,hu],R2S.pure hm (by rw [GZ hE ha h1,GZ hE ha h2])⟩
  ·rename_i fs hu
   have hx:=HX hE ha x
   have hy:=HX hE ha y
   split at h
   ·rename_i xs ys he1 he2
    rw [he1] at hx;rw [he2] at hy
    simp only [Option.bind_eq_some_iff,Option.map_eq_some_iff] at h
    obtain ⟨a,h1,b,h2,rfl⟩:=h
    obtain ⟨us,hu1,hx⟩:=hx
    obtain ⟨ws,hu2,hy⟩:=hy
    exact ⟨.pure (bnA C.P op t (ev env1 x) (ev env1 y)),by simp only [AH,hu],R2S.pure hm (by rw [hu1,hu2,YA h1 hx,YA h2 hy])⟩
   ·cases h
  ·rename_i e hu
   have hx:=HX hE ha x
   have hy:=HX hE ha y
   split at h
   ·rename_i k v he1 he2
    rw [he1] at hx;rw [he2] at hy
    split at h
    ·rename_i own cs hl
     cases h
     have hy:ev env1 y= .pointer none:=hy
     exact ⟨.pure (bnP op (ev env1 x) (ev env1 y)),by simp only [AH,hu],R2S.pure hm (by rw [hy];exact rF hl hx)⟩
    ·cases h
   ·cases h
  ·cases h
 case unOp op t x=>
  simp only [op2,Option.map_eq_some_iff] at h
  obtain ⟨a,h1,rfl⟩:=h
  exact ⟨_,rfl,R2S.pure hm (by rw [GZ hE ha h1])⟩
 case convert src dst' x=>
  simp only [op2] at h
  split at h
  ·rename_i k1 k hu1 hu2
   simp only [Option.map_eq_some_iff] at h
   obtain ⟨a,h1,rfl⟩:=h
   exact ⟨.pure (cvI k (ev env1 x)),by simp only [AH,hu1,hu2],R2S.pure hm (by rw [GZ hE ha h1])⟩
  ·rename_i e hu1 hu2
   have hx:=HX hE ha x
   split at h
   ·rename_i y hu3 he
    rw [he] at hx
    simp only [Option.map_eq_some_iff] at h
    obtain ⟨c,h1,rfl⟩:=h
    refine ⟨.rd (ev env1 x) (b2s (ev env1 x)),by simp only [AH,hu1,hu2,hu3],fun x y h=>(by cases h;rfl), ?_⟩
    rintro K ⟨v,k1,k2,k3⟩
    obtain ⟨n,hn⟩:=ZQ h1
    have hc:=LB hm hx h1 hn
    obtain ⟨us,F,own,g1,g2⟩:=hc.got
    refine ⟨v,v,m.s,k3,Out.word hm ?_ ⟨rfl,k2⟩⟩
    simp only [B1,b2s,g1,Option.bind_some]
    obtain ⟨e1,e2⟩:=XR g2
    unfold b2T at k1
    rw [e1] at k1
    split at k1
    ·rename_i hb
     rw [if_pos hb]
     rw [e2] at k1
     cases k1;rfl
    ·cases k1
   ·cases h
  ·cases h
 case makeSlice t l c=>
  simp only [op2] at h
  split at h
  ·rename_i e hu
   simp only [Option.bind_eq_some_iff] at h
   obtain ⟨z,hz,ks,hks,zt,hzt,h⟩:=h
   split at h
   ·rename_i hc
    simp only [Option.bind_eq_some_iff,Option.map_eq_some_iff] at h
    obtain ⟨a,h1,b,h2,rfl⟩:=h
    simp only [Bool.and_eq_true,decide_eq_true_eq] at hc
    have hkl:ks.length=z.2.1:=Nat.eq_of_beq_eq_true hc.2
    refine ⟨.al (mk z.2.2 z.2.1 z.1 (ev env1 l) (ev env1 c)), ?_, ?_⟩
    ·simp only [AH,hu,hz,Option.bind_some]
     rw [if_pos (by simp only [Bool.and_eq_true,decide_eq_true_eq];exact hc.1)]
    ·rintro K ⟨n,k1,k2,k3,k4⟩
     obtain ⟨hz1,hz2⟩:=VX (s:=m.s) hzt
     obtain ⟨hr1,hr2⟩:=bT (n:=n) hz1
     rw [GZ hE ha h1,GZ hE ha h2,k1,k2]
     refine ⟨_,_,_,_,_,_,k4,RF (s1:=m.s) (us:=NB n z.1) (n:=n) (aff:=[]) hm (HO.nil hm.kok) (Mov.nil m) ?_ rfl (fun _ _ _=>rfl) hc.1.1 ?_ ?_ (fun _ _ _ _ _ _=>rfl)⟩
     ·simp only [AB,iv,Int.toNat_natCast];exact hr1
     ·simp only [AB,iv,Int.toNat_natCast];rw [hr2,hz2,hkl]
     ·simp only [B1,mk,iv]
      rw [if_pos ⟨by omega,trivial,by exact_mod_cast k3⟩,Int.toNat_natCast]
   ·cases h
  ·cases h
 case slice t x lo hi mx=>
  cases mx with
  | some mx=>simp [op2] at h
  | none=>
  simp only [op2] at h
  split at h
  ·rename_i hu
   simp only [Option.bind_eq_some_iff,Option.map_eq_some_iff] at h
   obtain ⟨a,h1,l,h2,hh,h3,rfl⟩:=h
   exact ⟨.pure (scS (ev env1 x) (lo.map (ev env1)) (hi.map (ev env1))),by simp only [AH,hu],R2S.pure hm (by rw [GZ hE ha h1,TY hE ha h2,TY hE ha h3])⟩
  ·rename_i e hu
   simp only [Option.bind_eq_some_iff] at h
   obtain ⟨sz,hsz,h⟩:=h
   have hx:=HX hE ha x
   split at h
   ·rename_i y he
    rw [he] at hx
    simp only [Option.bind_eq_some_iff] at h
    obtain ⟨n,hn,c,hc,h⟩:=h
    split at h
    ·rename_i hb
     simp only [Option.bind_eq_some_iff,Option.map_eq_some_iff] at h
     obtain ⟨l,h2,hh,h3,rfl⟩:=h
     refine ⟨.pure (scL sz (ev env1 x) (lo.map (ev env1)) (hi.map (ev env1))),by simp only [AH,hu,hsz,Option.map_some], ?_⟩
     refine ⟨fun x z hz=>by cases y <;> simp [MV] at hz, ?_⟩
     rintro K ⟨a,b,k1,k2,k3,k4,k5⟩
     rw [TY hE ha h2,TY hE ha h3]
     obtain ⟨v,g1,g2⟩:=eD hm hx hc hn (by simp only [Bool.or_eq_true] at hb;exact hb.imp Nat.eq_of_beq_eq_true id) k1 k2 k3 k4
     exact ⟨_,v,m.s,k5,Out.same hm ⟨g1,rfl⟩ g2⟩
    ·cases h
   ·cases h
  ·cases h
 case indexAddr t x i=>
  simp only [op2] at h
  split at h
  ·rename_i e hu
   simp only [Option.bind_eq_some_iff] at h
   obtain ⟨sz,hsz,h⟩:=h
   have hx:=HX hE ha x
   split at h
   ·rename_i y he
    rw [he] at hx
    simp only [Option.bind_eq_some_iff] at h
    obtain ⟨n,hn,h⟩:=h
    split at h
    ·rename_i hb
     simp only [Option.map_eq_some_iff] at h
     obtain ⟨a,h1,rfl⟩:=h
     refine ⟨.pure (ia sz (ev env1 x) (ev env1 i)),by simp only [AH,hu,hsz,Option.map_some],fun x y h=>by (unfold VQ at h;split at h <;> cases h), ?_⟩
     rintro K ⟨ik,j,k1,k2,k3⟩
     rw [GZ hE ha h1,k1]
     obtain ⟨v,g1,g2⟩:=l5 hm hx hn (Nat.eq_of_beq_eq_true hb) k2 ik
     exact ⟨iv j,v,m.s,k3,Out.word hm ⟨g1,rfl⟩ g2⟩
    ·cases h
   ·cases h
  ·rename_i n e hu
   simp only [Option.bind_eq_some_iff] at h
   obtain ⟨sz,hsz,h⟩:=h
   have hx:=HX hE ha x
   split at h
   ·rename_i k off he
    rw [he] at hx
    split at h
    ·rename_i xs hl
     split at h
     ·rename_i hb
      simp only [Option.map_eq_some_iff] at h
      obtain ⟨a,h1,rfl⟩:=h
      obtain rfl:sz=1:=Nat.eq_of_beq_eq_true hb
      have hpt:=hx.2.2 _ (BC hl)
      refine ⟨.pure (iaA n 1 (ev env1 x) (ev env1 i)),by simp only [AH,hu,hsz,Option.map_some],fun x y h=>(by cases h), ?_⟩
      rintro K ⟨ik,j,k1,k2,k3⟩
      rw [GZ hE ha h1,k1]
      have hia:iaA n 1 (ev env1 x) (.int ik (Int.ofNat j))=some (pt (m.A k).h (off+j)):=by
       rw [hpt]
       have:(0:Int)≤(j:Int)∧(j:Int)<(n:Int):=⟨by omega,by omega⟩
       simp [iaA,pt,this]
      exact ⟨iv j,pt (m.A k).h (off+j),m.s,k3,Out.word hm ⟨hia,rfl⟩ ⟨hx.1,rfl,j,rfl,k2,fun _ _=>rfl⟩⟩
     ·cases h
    ·cases h
   ·cases h
  ·cases h
 case index t x i=>
  simp only [op2] at h
  split at h
  ·rename_i hu
   simp only [Option.bind_eq_some_iff,Option.map_eq_some_iff] at h
   obtain ⟨a,h1,b,h2,rfl⟩:=h
   exact ⟨.pure (ix (ev env1 x) (ev env1 i)),by simp only [AH,hu],R2S.pure hm (by rw [GZ hE ha h1,GZ hE ha h2])⟩
  ·cases h
 case extract x i=>
  simp only [op2] at h
  have hx:=HX hE ha x
  split at h
  ·rename_i ys he
   rw [he] at hx
   split at h
   ·rename_i hb
    cases h
    obtain ⟨us,hu,hy⟩:=hx
    have hlt:i<us.length:=by rw [Y7 hy];exact Nat.le_of_ble_eq_true hb
    have hex:ex (ev env1 x) i=some us[i]:=by rw [hu];simp [ex,hlt]
    exact ⟨_,rfl,us[i],Out.same hm ⟨hex,rfl⟩ (mA (e:= .u ys) ⟨us,hu,hy⟩ hex)⟩
   ·cases h
  ·cases h
 case call c=>
  obtain ⟨callee,args,argTypes⟩:=c
  simp only [op2] at h
  split at h
  ·rename_i f
   split at h
   ·rename_i b hb
    split at h
    ·cases h
    ·rename_i hname
     simp only [Option.bind_eq_some_iff] at h
     obtain ⟨g,hg,h⟩:=h
     exact ⟨.call f (args.toList.map (ev env1)),by simp only [AH,hb,hname,Bool.false_eq_true,if_false],ZM hm (ZJ hE ha args.toList) h⟩
   ·cases h
  ·split at h
   ·rename_i t x hat hax
    have hx:=HX hE ha x
    split at h
    ·rename_i hu
     simp only [Option.map_eq_some_iff] at h
     obtain ⟨a,h1,rfl⟩:=h
     exact ⟨.pure (lnS (ev env1 x)),by simp only [AH,hat,hax,hu],R2S.pure hm (by rw [GZ hE ha h1])⟩
    ·rename_i e hu
     split at h
     ·rename_i y he
      rw [he] at hx
      simp only [Option.map_eq_some_iff] at h
      obtain ⟨n,hn,rfl⟩:=h
      obtain ⟨c,hc⟩:=ZW hm hx hn
      exact ⟨.pure (lnL (ev env1 x)),by simp only [AH,hat,hax,hu],iv n,Out.same hm ⟨(LB hm hx hc hn).sB,rfl⟩ ⟨rfl,rfl⟩⟩
     ·cases h
    ·cases h
   ·cases h
  ·split at h
   ·rename_i x y hax
    simp only [Option.bind_eq_some_iff,Option.map_eq_some_iff] at h
    obtain ⟨a,h1,b,h2,rfl⟩:=h
    exact ⟨.pure (mn (ev env1 x) (ev env1 y)),by simp only [AH,hax],R2S.pure hm (by rw [GZ hE ha h1,GZ hE ha h2])⟩
   ·cases h
  ·split at h
   ·rename_i t u x y hat hax
    split at h
    ·rename_i htu
     split at h
     ·rename_i e hu
      simp only [Option.bind_eq_some_iff] at h
      obtain ⟨z,hz,ks,hks,h⟩:=h
      split at h
      ·rename_i hc
       simp only [Bool.and_eq_true,decide_eq_true_eq] at hc
       have hx:=HX hE ha x
       have hy:=HX hE ha y
       split at h
       ·rename_i a b he1 he2
        rw [he1] at hx;rw [he2] at hy
        simp only [Option.bind_eq_some_iff,Option.map_eq_some_iff] at h
        obtain ⟨⟨c1,n,ob1,aff⟩,h1,mm,h2,⟨c2,ob2⟩,h3,rfl⟩:=h
        refine ⟨.mu (ap z.2.1 z.2.2 (ev env1 x) (ev env1 y)), ?_, ?_⟩
        ·simp only [AH,hat,hax,htu,hu,hz,Option.bind_some,if_true]
         rw [if_pos (by simp only [Bool.and_eq_true,decide_eq_true_eq];exact hc.1)]
        ·rintro K ⟨k1,k2,k3⟩
         obtain ⟨v,s',A',ho⟩:=qE (C:=C) hm hc.1.1 hx hy h1 h2 h3 k1 k2
         exact ⟨_,_,_,v,s',A',k3,ho⟩
       ·cases h
      ·cases h
     ·cases h
    ·cases h
   ·cases h
  ·cases h
 all_goals (simp [op2] at h)
end Go.Proofs.YthapfcoajahegaaDoor.Eng
namespace Go.Proofs.YthapfcoajahegaaDoor.Eng
open Go Go.RowKit
set_option linter.unusedVariables false
set_option linter.unusedSimpArgs false
set_option linter.constructorNameAsVariable false
structure Nx2 (ro:List (List T)) (m:Mst) (aff kl:List Nat) (m':Mst):Prop where
 kp:Kp ro m m' kl
 afr: ∀k o,AE ro m.ob k=some o→aff.any (Nat.beq k)=false→ ∀h∈(m.A k).F,m'.s.get h=m.s.get h
 n:m.s.n≤m'.s.n
 agr: ∀k,k<ro.length→m'.A k=m.A k
theorem Nx2.refl {ro:List (List T)} {m:Mst} {aff kl:List Nat}:Nx2 ro m aff kl m:=⟨Kp.refl,fun _ _ _ _ _ _=>rfl,Nat.le_refl _,fun _ _=>rfl⟩
theorem Out.nxt {C:Ctx} {B:Bas} {ro:List (List T)} {m m':Mst} {aff kl:List Nat} {st:Stp} {v:Value} {e:EV} (h:Out C B ro m aff kl st v e m'):Nx2 ro m aff kl m':=⟨h.kp,h.afr,h.n,h.agr⟩
theorem oH {dst:Option Tmp} {tag:Option (Nat×Bool)} {e:EV} {env:FG} {t:Nat}:lkE (OV dst tag e env) t=if dst=some t then (tag,e) else lkE env t:=by
 cases dst with
 | none=>simp [OV]
 | some d=>
   simp only [OV,lkE]
   split
   ·rename_i hb;rw [if_pos (by rw [Nat.eq_of_beq_eq_true hb])]
   ·rename_i hb;rw [if_neg];intro h;cases h;simp at hb
theorem cM {dst:Option Tmp} {v:Value} {env:Env} {t:Nat}:lk (GW dst v env) t=if dst=some t then v else lk env t:=by
 cases dst with
 | none=>simp [GW]
 | some d=>
   simp only [GW,lk]
   split
   ·rename_i hb;rw [if_pos (by rw [Nat.eq_of_beq_eq_true hb])]
   ·rename_i hb;rw [if_neg];intro h;cases h;simp at hb
theorem UB: ∀{env:FG} {d t g:Nat} {w:Bool} {e:EV},OQ env d=true→lkE env t=(some (g,w),e)→g≠d
 | [],d,t,g,w,e,_,h=>by simp [lkE] at h
 | (a,none,x)::r,d,t,g,w,e,hn,h=>by
   simp only [lkE] at h
   split at h
   ·cases h
   ·exact UB (by simpa [OQ] using hn) h
 | (a,some (g',w'),x)::r,d,t,g,w,e,hn,h=>by
   simp only [OQ,Bool.and_eq_true,Bool.not_eq_true'] at hn
   simp only [lkE] at h
   split at h
   ·cases h
    intro he;subst he;simp at hn
   ·exact UB hn.2 h
theorem VF {kl:List Nat} {d:Nat}: ∀{env:FG},OQ env d=true→OQ (JP kl env) d=true:=by
 intro env h
 cases kl with
 | nil=>exact h
 | cons a l=>
   simp only [JP]
   induction env with
   | nil=>rfl
   | cons x r ih=>
     obtain ⟨t,tg,e⟩:=x
     cases tg with
     | none=>simp only [List.map_cons,OQ] at*;exact ih h
     | some gw=>obtain ⟨g,w⟩:=gw;simp only [List.map_cons,OQ,Bool.and_eq_true] at*;exact ⟨h.1,ih h.2⟩
theorem OL {ro:List (List T)} {m:Mst} {env:FG} {env1:Env} {dst:Option Tmp} {g:Option (Nat×Bool×Value)} {tag:Option (Nat×Bool)} {e:EV} {v:Value} (hE:JI ro m env env1) (hn: ∀d,dst=some d→OQ env d=true) (ht: ∀d,dst=some d→ ∀g w,tag=some (g,w)→g≠d) (hv:VC (E0R ro m) env1 (tag,e) v):JI ro m (OV dst tag e env) (GW dst v env1):=by
 intro t
 rw [oH,cM]
 have hlk: ∀{g:Nat},(∀d,dst=some d→g≠d)→lk (GW dst v env1) g=lk env1 g:=fun {g} hg=>by
  rw [cM,if_neg]
  intro he;exact hg g he rfl
 by_cases hd:dst=some t
 ·rw [if_pos hd,if_pos hd]
  unfold VC at hv ⊢
  cases tag with
  | none=>exact hv
  | some gw=>
    obtain ⟨g,w⟩:=gw
    simp only at hv ⊢
    rw [hlk fun d hd=>ht d hd g w rfl]
    exact hv
 ·rw [if_neg hd,if_neg hd]
  have:=hE t
  unfold VC at this ⊢
  cases hx:lkE env t with
  | mk tg e'=>
    rw [hx] at this
    cases tg with
    | none=>exact this
    | some gw=>
      obtain ⟨g,w⟩:=gw
      simp only at this ⊢
      rw [hlk fun d hd=>UB (hn d hd) hx]
      exact this
theorem aJ {ro:List (List T)} {m:Mst} {env:FG} {env1:Env} (hE:JI ro m env env1): ∀(n g:Nat) (w:Bool),lk env1 g= .bool w→V3 env1 (aU env n g w)
 | 0,g,w,h=>fun g' w' hm=>by
   simp only [aU,QG,Bool.or_false,Bool.and_eq_true] at hm
   have e1:=Nat.eq_of_beq_eq_true hm.1
   have e2:w=w':=by simpa using hm.2
   rw [←e1, ←e2];exact h
 | n+1,g,w,h=>fun g' w' hm=>by
   simp only [aU,QG,Bool.or_eq_true,Bool.and_eq_true] at hm
   rcases hm with hm | hm
   ·have e1:=Nat.eq_of_beq_eq_true hm.1
    have e2:w=w':=by simpa using hm.2
    rw [←e1, ←e2];exact h
   ·have:=hE g
    unfold VC at this
    cases hx:(lkE env g).1 with
    | none=>rw [hx] at hm;simp [QG] at hm
    | some gw=>
      obtain ⟨g2,w2⟩:=gw
      rw [hx] at hm this
      rcases this.2.2 with h2 | h2
      ·exact aJ hE n g2 w2 h2 g' w' hm
      ·rw [h2] at h;cases h
theorem mS {dst:Option Tmp} {g:Option (Nat×Bool×Value)} {env:FG} (h:kO dst g env=true):(∀d,dst=some d→OQ env d=true)∧ ∀d,dst=some d→ ∀t w gv,g=some (t,w,gv)→t≠d:=by
 cases dst with
 | none=>exact ⟨fun d hd=>(by cases hd),fun d hd=>(by cases hd)⟩
 | some d=>
   simp only [kO,Bool.and_eq_true] at h
   refine ⟨fun d' hd=>(by cases hd;exact h.1),fun d' hd t w gv hg he=> ?_⟩
   cases hd;subst hg;subst he
   simp at h
theorem TB {P:Program} {env:FG} {env1:Env} {av:List (Nat×Bool)} {fields:Array Field}: ∀{parts:List (Nat×Operand)} {ps:List (Nat×Nat×List E0)},Q0 P av env fields parts=some ps→ ∃l,JF P env1 fields parts=some l
 | [],ps,hp=>⟨[],rfl⟩
 | (i,x)::r,ps,hp=>by
   simp only [Q0,Option.bind_eq_some_iff,Option.map_eq_some_iff] at hp
   obtain ⟨f,h1,sz,h2,ys,h3,l,h4,rfl⟩:=hp
   obtain ⟨l',h5⟩:=TB (env1:=env1) h4
   simp only [JF,h1,h2,h5,Option.bind_some,Option.map_some]
   exact ⟨_,rfl⟩
theorem lB {y:E0} {sz:Nat}: ∀x z,MV y sz (uO x) (sI x)= .o (.v z)→z=x:=fun x z h=>by
 cases y <;> simp [MV] at h
theorem eX {ro:List (List T)} {m:Mst} {env:FG} {env1:Env} (hE:JI ro m env env1): ∀(n t:Nat) (gv:Value),nF env n t=some gv→lk env1 t=gv
 | 0,t,gv,h=>cX h (W6 (fun g w h=>by simp [QG] at h) (hE t))
 | n+1,t,gv,h=>by
   unfold nF at h
   have ht:=hE t
   split at h
   ·rename_i g w a he
    simp only [Option.map_eq_some_iff] at h
    obtain ⟨gw,h1,rfl⟩:=h
    have hg:=eX hE n g gw h1
    rw [he] at ht
    obtain ⟨t1,t2,t3⟩:=ht
    by_cases hon:lk env1 g= .bool w
    ·have:=(t1 hon).1
     rw [hg] at hon;subst hon
     rw [this];cases w <;> rfl
    ·have hu:=t3.resolve_left hon
     rw [hu]
     rw [hg] at hon
     unfold BX
     split
     ·exact absurd rfl hon
     ·exact absurd rfl hon
     ·rfl
   ·exact cX h (W6 (fun g w h=>by simp [QG] at h) ht)
theorem NS {C:Ctx} {ro:List (List T)} {sgs:List (Nat×Sg)} {ob:Obs} {nk:Nat} {env:FG} {env1:Env} {av:List (Nat×Bool)} {o:Oper} {r:R2} (h:op2 C sgs ro ob nk av env o=some r): ∃st,AH C.P env1 o=some st∧ ∀w mk,r= .wd w mk→ ∀x y,mk x= .o (.v y)→y=x:=by
 have hv: ∀{m:(Value→Prop)→Prop}, ∀w mk,R2.wd m OW= .wd w mk→ ∀x y,mk x= .o (.v y)→y=x:=fun w mk hh x y hy=>by cases hh;cases hy;rfl
 obtain ⟨dst,op,type,pos,after,guard⟩:=o
 cases op
 case move x=>simp only [op2,Option.some.injEq] at h;subst h;exact ⟨_,rfl,fun w mk hh=>(by cases hh)⟩
 case assign x=>simp only [op2,Option.some.injEq] at h;subst h;exact ⟨_,rfl,fun w mk hh=>(by cases hh)⟩
 case pick c a b=>
  simp only [op2,Option.bind_eq_some_iff,Option.map_eq_some_iff] at h
  obtain ⟨cv,h1,x,h2,y,h3,rfl⟩:=h
  exact ⟨_,rfl,hv⟩
 case alloc t=>
  simp only [op2,Option.map_eq_some_iff] at h
  obtain ⟨z,hz,rfl⟩:=h
  exact ⟨.al (al z.1),by simp only [AH,hz,Option.map_some],fun w mk hh=>(by cases hh)⟩
 case box t x=>
  simp only [op2,Option.map_eq_some_iff] at h
  obtain ⟨xs,h1,rfl⟩:=h
  exact ⟨_,rfl,fun w mk hh=>(by cases hh)⟩
 case build t parts=>
  simp only [op2,Option.bind_eq_some_iff] at h
  obtain ⟨z,hz,h⟩:=h
  split at h
  ·rename_i fields hu
   split at h
   ·rename_i hfo
    simp only [Option.bind_eq_some_iff,Option.map_eq_some_iff] at h
    obtain ⟨ps,h1,xs,h2,rfl⟩:=h
    obtain ⟨l,g1⟩:=TB (env1:=env1) h1
    exact ⟨.pure (bd z.1 l),by simp only [AH,hz,hu,hfo,Option.bind_some,if_true,g1,Option.map_some],fun w mk hh=>(by cases hh)⟩
   ·cases h
  ·cases h
 case buildSlice t len parts=>
  simp only [op2] at h
  split at h
  ·rename_i e hu
   simp only [Option.bind_eq_some_iff] at h
   obtain ⟨z,hz,ks,hks,zt,hzt,h⟩:=h
   split at h
   ·rename_i hc
    simp only [Option.bind_eq_some_iff] at h
    obtain ⟨ps,h1,h⟩:=h
    simp only [Bool.and_eq_true,decide_eq_true_eq] at hc
    refine ⟨.al (bs z.2.1 len z.1 (H9 env1 z.2.1 parts.toList)), ?_,fun w mk hh=>(by
     subst hh
     split at h
     ·cases h
     ·simp only [Option.map_eq_some_iff] at h
      obtain ⟨_,_,h⟩:=h
      cases h)⟩
    simp only [AH,hu,hz,Option.bind_some]
    rw [if_pos (by simp only [Bool.and_eq_true,decide_eq_true_eq];exact hc.1)]
   ·cases h
  ·cases h
 case load t x=>
  simp only [op2,Option.bind_eq_some_iff] at h
  obtain ⟨sz,hsz,ag,hag,h⟩:=h
  refine ⟨.rd (ev env1 x) (ld ag sz (ev env1 x)),by simp only [AH,hsz,hag,Option.bind_some,Option.map_some],fun w mk hh=> ?_⟩
  subst hh
  split at h
  ·split at h
   ·split at h
    ·cases ag with
     | true=>simp at h
     | false=>simp only at h;split at h <;> simp at h
    ·cases h
   ·cases h
  ·split at h
   ·simp only [Option.bind_eq_some_iff] at h
    obtain ⟨ks,_,h⟩:=h
    split at h
    ·cases ag with
     | true=>
       simp only at h
       split at h
       ·simp only [Option.some.injEq,R2.wd.injEq] at h
        obtain ⟨_,rfl⟩:=h
        exact fun x y hy=>(by cases hy)
       ·simp at h
     | false=>
       simp only at h
       unfold fB at h
       split at h
       ·cases h;exact fun x y hy=>(by cases hy;rfl)
       ·cases h;exact fun x y hy=>(by cases hy)
       ·cases h
    ·cases h
   ·cases h
  ·split at h
   ·simp only [Option.bind_eq_some_iff] at h
    obtain ⟨vs,_,h⟩:=h
    split at h
    ·cases h;exact fun x y hy=>(by cases hy;rfl)
    ·cases h
   ·cases h
  ·cases h
 case store t x v=>
  simp only [op2,Option.bind_eq_some_iff] at h
  obtain ⟨sz,hsz,h⟩:=h
  refine ⟨.mu (sto sz (ev env1 x) (ev env1 v)),by simp only [AH,hsz,Option.map_some],fun w mk hh=> ?_⟩
  subst hh
  split at h
  ·split at h
   ·simp only [Option.bind_eq_some_iff] at h
    obtain ⟨ys,_,h⟩:=h
    split at h <;> simp at h
   ·cases h
  ·simp only [Option.bind_eq_some_iff] at h
   obtain ⟨ks,_,h⟩:=h
   split at h
   ·unfold cP at h
    split at h
    ·cases h
    ·simp only [Option.bind_eq_some_iff] at h
     obtain ⟨_,_,_,_,h⟩:=h
     split at h <;> cases h
   ·cases h
  ·split at h
   ·simp only [Option.bind_eq_some_iff] at h
    obtain ⟨vs,_,h⟩:=h
    split at h <;> simp at h
   ·cases h
  ·cases h
 case nilCheck x=>
  simp only [op2] at h
  refine ⟨.pure (nc (ev env1 x)),rfl,fun w mk hh=> ?_⟩
  subst hh
  split at h
  ·split at h
   ·simp at h
   ·split at h
    ·split at h
     ·simp only [Option.some.injEq,R2.wd.injEq] at h
      obtain ⟨_,rfl⟩:=h
      intro x y hxy;cases hxy
     ·simp at h
    ·simp at h
  ·cases h
 case fieldAddr t x i=>
  simp only [op2] at h
  split at h
  ·rename_i fields hu
   simp only [Option.bind_eq_some_iff] at h
   obtain ⟨f,h1,sz,h2,h⟩:=h
   split at h
   ·cases h
   ·rename_i h0
    refine ⟨.pure (fa f.offset (ev env1 x)),by simp only [AH,hu,h1,h2,Option.bind_some,h0,if_false],fun w mk hh=> ?_⟩
    subst hh
    split at h
    ·split at h <;> simp at h
    ·cases h
  ·cases h
 case binOp op t x y z=>
  simp only [op2] at h
  split at h
  ·rename_i k hu
   simp only [Option.bind_eq_some_iff,Option.map_eq_some_iff] at h
   obtain ⟨a,h1,b,h2,rfl⟩:=h
   exact ⟨.pure (bnI op (ev env1 x) (ev env1 y)),by simp only [AH,hu],hv⟩
  ·rename_i hu
   simp only [Option.bind_eq_some_iff,Option.map_eq_some_iff] at h
   obtain ⟨a,h1,b,h2,rfl⟩:=h
   exact ⟨.pure (bnS op (ev env1 x) (ev env1 y)),by simp only [AH,hu],hv⟩
  ·rename_i hu
   simp only [Option.bind_eq_some_iff,Option.map_eq_some_iff] at h
   obtain ⟨a,h1,b,h2,rfl⟩:=h
   exact ⟨.pure (bnB op (ev env1 x) (ev env1 y)),by simp only [AH,hu],hv⟩
  ·rename_i fs hu
   split at h
   ·simp only [Option.bind_eq_some_iff,Option.map_eq_some_iff] at h
    obtain ⟨a,h1,b,h2,rfl⟩:=h
    exact ⟨.pure (bnA C.P op t (ev env1 x) (ev env1 y)),by simp only [AH,hu],hv⟩
   ·cases h
  ·rename_i e hu
   split at h
   ·split at h
    ·cases h
     exact ⟨.pure (bnP op (ev env1 x) (ev env1 y)),by simp only [AH,hu],hv⟩
    ·cases h
   ·cases h
  ·cases h
 case unOp op t x=>
  simp only [op2,Option.map_eq_some_iff] at h
  obtain ⟨a,h1,rfl⟩:=h
  exact ⟨_,rfl,hv⟩
 case convert src dst' x=>
  simp only [op2] at h
  split at h
  ·rename_i k1 k hu1 hu2
   simp only [Option.map_eq_some_iff] at h
   obtain ⟨a,h1,rfl⟩:=h
   exact ⟨.pure (cvI k (ev env1 x)),by simp only [AH,hu1,hu2],hv⟩
  ·rename_i e hu1 hu2
   split at h
   ·rename_i y hu3 he
    simp only [Option.map_eq_some_iff] at h
    obtain ⟨c,h1,rfl⟩:=h
    exact ⟨.rd (ev env1 x) (b2s (ev env1 x)),by simp only [AH,hu1,hu2,hu3],hv⟩
   ·cases h
  ·cases h
 case makeSlice t l c=>
  simp only [op2] at h
  split at h
  ·rename_i e hu
   simp only [Option.bind_eq_some_iff] at h
   obtain ⟨z,hz,ks,hks,zt,hzt,h⟩:=h
   split at h
   ·rename_i hc
    simp only [Option.bind_eq_some_iff,Option.map_eq_some_iff] at h
    obtain ⟨a,h1,b,h2,rfl⟩:=h
    simp only [Bool.and_eq_true,decide_eq_true_eq] at hc
    refine ⟨.al (mk z.2.2 z.2.1 z.1 (ev env1 l) (ev env1 c)), ?_,fun w mk hh=>(by cases hh)⟩
    simp only [AH,hu,hz,Option.bind_some]
    rw [if_pos (by simp only [Bool.and_eq_true,decide_eq_true_eq];exact hc.1)]
   ·cases h
  ·cases h
 case slice t x lo hi mx=>
  cases mx with
  | some mx=>simp [op2] at h
  | none=>
  simp only [op2] at h
  split at h
  ·rename_i hu
   simp only [Option.bind_eq_some_iff,Option.map_eq_some_iff] at h
   obtain ⟨a,h1,l,h2,hh,h3,rfl⟩:=h
   exact ⟨.pure (scS (ev env1 x) (lo.map (ev env1)) (hi.map (ev env1))),by simp only [AH,hu],hv⟩
  ·rename_i e hu
   simp only [Option.bind_eq_some_iff] at h
   obtain ⟨sz,hsz,h⟩:=h
   refine ⟨.pure (scL sz (ev env1 x) (lo.map (ev env1)) (hi.map (ev env1))),by simp only [AH,hu,hsz,Option.map_some],fun w mk hh=> ?_⟩
   subst hh
   split at h
   ·simp only [Option.bind_eq_some_iff] at h
    obtain ⟨_,_,_,_,h⟩:=h
    split at h
    ·simp only [Option.bind_eq_some_iff,Option.map_eq_some_iff] at h
     obtain ⟨_,_,_,_,h⟩:=h
     cases h
     exact lB
    ·cases h
   ·cases h
  ·cases h
 case indexAddr t x i=>
  simp only [op2] at h
  split at h
  ·rename_i e hu
   simp only [Option.bind_eq_some_iff] at h
   obtain ⟨sz,hsz,h⟩:=h
   refine ⟨.pure (ia sz (ev env1 x) (ev env1 i)),by simp only [AH,hu,hsz,Option.map_some],fun w mk hh=> ?_⟩
   subst hh
   split at h
   ·simp only [Option.bind_eq_some_iff] at h
    obtain ⟨_,_,h⟩:=h
    split at h
    ·simp only [Option.map_eq_some_iff] at h
     obtain ⟨a,_,h⟩:=h
     cases h
     exact fun x y hy=>(by unfold VQ at hy;split at hy <;> cases hy)
    ·cases h
   ·cases h
  ·rename_i n e hu
   simp only [Option.bind_eq_some_iff] at h
   obtain ⟨sz,hsz,h⟩:=h
   refine ⟨.pure (iaA n sz (ev env1 x) (ev env1 i)),by simp only [AH,hu,hsz,Option.map_some],fun w mk hh=> ?_⟩
   subst hh
   split at h
   ·split at h
    ·split at h
     ·simp only [Option.map_eq_some_iff] at h
      obtain ⟨a,_,h⟩:=h
      cases h
      exact fun x y hy=>(by cases hy)
     ·cases h
    ·cases h
   ·cases h
  ·cases h
 case index t x i=>
  simp only [op2] at h
  split at h
  ·rename_i hu
   simp only [Option.bind_eq_some_iff,Option.map_eq_some_iff] at h
   obtain ⟨a,h1,b,h2,rfl⟩:=h
   exact ⟨.pure (ix (ev env1 x) (ev env1 i)),by simp only [AH,hu],hv⟩
  ·cases h
 case extract x i=>
  simp only [op2] at h
  refine ⟨_,rfl,fun w mk hh=> ?_⟩
  subst hh
  split at h
  ·split at h <;> simp at h
  ·cases h
 case call c=>
  obtain ⟨callee,args,argTypes⟩:=c
  simp only [op2] at h
  split at h
  ·rename_i f
   split at h
   ·rename_i b hb
    split at h
    ·cases h
    ·rename_i hname
     simp only [Option.bind_eq_some_iff] at h
     obtain ⟨g,hg,h⟩:=h
     refine ⟨.call f (args.toList.map (ev env1)),by simp only [AH,hb,hname,Bool.false_eq_true,if_false],fun w mk hh=> ?_⟩
     subst hh
     unfold eI at h
     split at h
     ·unfold pG at h
      split at h
      ·simp only [Option.bind_eq_some_iff] at h
       obtain ⟨n,hn,c,hc,h⟩:=h
       split at h
       ·cases h
        rename E0=>y
        intro x v hh
        cases y <;> simp [MV] at hh
       ·cases h
      ·cases h
     simp only [Option.bind_eq_some_iff] at h
     obtain ⟨ar,_,h⟩:=h
     split at h
     ·cases h
     ·split at h
      ·cases h;exact fun x y hy=>(by cases hy;rfl)
      ·split at h <;> cases h
   ·cases h
  ·split at h
   ·rename_i t x hat hax
    split at h
    ·rename_i hu
     simp only [Option.map_eq_some_iff] at h
     obtain ⟨a,h1,rfl⟩:=h
     exact ⟨.pure (lnS (ev env1 x)),by simp only [AH,hat,hax,hu],hv⟩
    ·rename_i e hu
     split at h
     ·simp only [Option.map_eq_some_iff] at h
      obtain ⟨n,hn,rfl⟩:=h
      exact ⟨.pure (lnL (ev env1 x)),by simp only [AH,hat,hax,hu],fun w mk hh=>(by cases hh)⟩
     ·cases h
    ·cases h
   ·cases h
  ·split at h
   ·rename_i x y hax
    simp only [Option.bind_eq_some_iff,Option.map_eq_some_iff] at h
    obtain ⟨a,h1,b,h2,rfl⟩:=h
    exact ⟨.pure (mn (ev env1 x) (ev env1 y)),by simp only [AH,hax],hv⟩
   ·cases h
  ·split at h
   ·rename_i t u x y hat hax
    split at h
    ·rename_i htu
     split at h
     ·rename_i e hu
      simp only [Option.bind_eq_some_iff] at h
      obtain ⟨z,hz,ks,hks,h⟩:=h
      split at h
      ·rename_i hc
       simp only [Bool.and_eq_true,decide_eq_true_eq] at hc
       split at h
       ·simp only [Option.bind_eq_some_iff,Option.map_eq_some_iff] at h
        obtain ⟨⟨c1,n,ob1,aff⟩,h1,mm,h2,⟨c2,ob2⟩,h3,rfl⟩:=h
        refine ⟨.mu (ap z.2.1 z.2.2 (ev env1 x) (ev env1 y)), ?_,fun w mk hh=>(by cases hh)⟩
        simp only [AH,hat,hax,htu,hu,hz,Option.bind_some,if_true]
        rw [if_pos (by simp only [Bool.and_eq_true,decide_eq_true_eq];exact hc.1)]
       ·cases h
      ·cases h
     ·cases h
    ·cases h
   ·cases h
  ·cases h
 all_goals (simp [op2] at h)
structure Emp (ro:List (List T)) (m m':Mst):Prop where
 s:m'.s=m.s
 nk:m.nk≤m'.nk
 old: ∀k,k<m.nk→m'.A k=m.A k∧AE ro m'.ob k=AE ro m.ob k
theorem Emp.refl {ro:List (List T)} {m:Mst}:Emp ro m m:=⟨rfl,Nat.le_refl _,fun _ _=>⟨rfl,rfl⟩⟩
theorem Emp.trans {ro:List (List T)} {m m' m'':Mst} (h:Emp ro m m') (h':Emp ro m' m''):Emp ro m m'':=
 ⟨h'.s.trans h.s,Nat.le_trans h.nk h'.nk,fun k hk=>by
  have a:=h.old k hk
  have b:=h'.old k (Nat.lt_of_lt_of_le hk h.nk)
  exact ⟨b.1.trans a.1,b.2.trans a.2⟩⟩
theorem Emp.nxt {ro:List (List T)} {m m':Mst} (h:Emp ro m m') (hr:ro.length≤m.nk):Nx2 ro m [] [] m':=by
 refine ⟨⟨h.nk,fun k hk o' ho=> ?_,fun k hk _ own cs own' cs' h1 h2=> ?_⟩,fun k o _ _ x _=>by rw [h.s],by rw [h.s];exact Nat.le_refl _,fun k hk=>(h.old k (by omega)).1⟩
 ·obtain ⟨a,b⟩:=h.old k hk
  rw [b] at ho
  cases o' with
  | bx xs=>exact ⟨⟨xs,ho⟩,by rw [a]⟩
  | ls own cs=>exact ⟨own,cs,ho,rfl,by rw [a],by rw [a],by rw [a]⟩
 ·obtain ⟨a,b⟩:=h.old k hk
  rw [b,h1] at h2;cases h2
  exact ⟨fun pre ds h3=>⟨ds,h3,rfl⟩,fun _ pre ds hb _ h4=>by rw [h.s];exact h4⟩
theorem qN (C:Ctx) {B:Bas} {ro:List (List T)} {m:Mst} (hm:Mem B ro m):Mem B ro ⟨m.s,(m.nk, .ls true [])::m.ob,m.nk+1,KZ m.A m.nk ⟨true,0,0,[]⟩⟩∧Emp ro m ⟨m.s,(m.nk, .ls true [])::m.ob,m.nk+1,KZ m.A m.nk ⟨true,0,0,[]⟩⟩:=by
 have ho:Out C B ro m [] [] (.val undef) undef (.o .w) ⟨m.s,(m.nk, .ls true [])::m.ob,m.nk+1,KZ m.A m.nk ⟨true,0,0,[]⟩⟩:=
  TV hm (HO.nil hm.kok) (Nat.le_refl _) (fun _ _ _=>rfl) List.nodup_nil (fun h hh=>by simp at hh) ⟨rfl,rfl⟩ (fun _=> .inl ⟨by simp only [BP],rfl,by simp only [BP]⟩) trivial (fun _ _ _ _ _ _=>rfl)
 refine ⟨ho.mem,rfl,Nat.le_succ _,fun k hk=>⟨MY (by omega), ?_⟩⟩
 rw [HQ,if_neg (by omega)]
theorem RP (C:Ctx) {B:Bas} {ro:List (List T)} {sl:List E0}: ∀(rs:List RC) (s:St) (ob:Obs) (nk:Nat) (A:Nat→Asg) (i j:Nat),Mem B ro ⟨s,ob,nk,A⟩→ ∃A',Mem B ro ⟨s,(H5 sl [] [] rs ob nk i j).ob,(H5 sl [] [] rs ob nk i j).nk,A'⟩∧Emp ro ⟨s,ob,nk,A⟩ ⟨s,(H5 sl [] [] rs ob nk i j).ob,(H5 sl [] [] rs ob nk i j).nk,A'⟩
 | [],s,ob,nk,A,i,j,hm=>⟨A,hm,Emp.refl⟩
 | .v::r,s,ob,nk,A,i,j,hm=>RP C r s ob nk A (i+1) j hm
 | .a n::r,s,ob,nk,A,i,j,hm=>RP C r s ob nk A i j hm
 | .r n::r,s,ob,nk,A,i,j,hm=>RP C r s ob nk A (i+1) j hm
 | .t e::r,s,ob,nk,A,i,j,hm=>by
   obtain ⟨h1,h2⟩:=qN C hm
   obtain ⟨A',h3,h4⟩:=RP C r s ((nk, .ls true [])::ob) (nk+1) _ i (j+1) h1
   have e:nxc [] j=[]:=by simp [nxc]
   refine ⟨A', ?_⟩
   simp only [H5,e]
   exact ⟨h3,h2.trans h4⟩
theorem eS (C:Ctx) {B:Bas} {ro:List (List T)} {sl:List E0}: ∀(rs:List (Nat×List RC)) (s:St) (ob:Obs) (nk:Nat) (A:Nat→Asg) (i j:Nat),mB rs=true→Mem B ro ⟨s,ob,nk,A⟩→ ∃A',Mem B ro ⟨s,(J9 sl [] [] rs ob nk i j).ob,(J9 sl [] [] rs ob nk i j).nk,A'⟩∧Emp ro ⟨s,ob,nk,A⟩ ⟨s,(J9 sl [] [] rs ob nk i j).ob,(J9 sl [] [] rs ob nk i j).nk,A'⟩
 | [],s,ob,nk,A,i,j,_,hm=>⟨A,hm,Emp.refl⟩
 | (w,k)::r,s,ob,nk,A,i,j,hc,hm=>by
   simp only [mB,Bool.and_eq_true,Bool.not_eq_true'] at hc
   obtain ⟨A1,h1,h2⟩:=RP C (sl:=sl) k s ob nk A i j hm
   obtain ⟨A2,h3,h4⟩:=eS C (sl:=sl) r s _ _ A1 (H5 sl [] [] k ob nk i j).i (H5 sl [] [] k ob nk i j).j hc.2 h1
   have hw:w≠2:=fun h=>by subst h;simp at hc
   refine ⟨A2, ?_⟩
   unfold J9
   split
   ·exact absurd rfl hw
   ·exact ⟨h3,h2.trans h4⟩
theorem KU {C:Ctx} {B:Bas} {ro:List (List T)} {m:Mst} {sgs:List (Nat×Sg)} {ops:Array Oper} {env:FG} {env1:Env} {o:Oper} {g:Option (Nat×Bool×Value)×List (Nat×Bool)} {r:R2} {K:Obs→Nat→FG→Prop} (hm:Mem B ro m) (hE:JI ro m env env1)
  (hg:oE ops env o=some g) (hop:op2 C sgs ro m.ob m.nk g.2 env o=some r) (h:TD g.1 r o.dst m.ob m.nk env K):
  ∃st,AH C.P env1 o=some st∧ ∃v m' env',K m'.ob m'.nk env'∧Mem B ro m'∧Nx2 ro m (eK r) (SV r) m'∧JI ro m' env' (GW o.dst v env1)∧
   match o.guard with
   | none=>B1 C st m.s v m'.s
   | some (j,want)=> ∃t,ED ops j=some t∧((lk env1 t= .bool want∧B1 C st m.s v m'.s)∨((lk env1 t= .bool !want∨lk env1 t=undef)∧v=undef∧m'.s=m.s)):=by
 unfold TD at h
 split at h
 ·exact h.elim
 ·rename_i hfree
  obtain ⟨hf1,hf2⟩:=mS hfree
  unfold oE at hg
  cases hgu:o.guard with
  | none=>
    rw [hgu] at hg
    simp only [Option.some.injEq] at hg;subst hg
    obtain ⟨st,hst,hr⟩:=W3 (C:=C) hm hE (fun g w h=>by simp [QG] at h) hop
    refine ⟨st,hst, ?_⟩
    have put: ∀{aff kl:List Nat} {v:Value} {e:EV} {m':Mst},Out C B ro m aff kl st v e m'→JI ro m' (OV o.dst none e (JP kl env)) (GW o.dst v env1):=fun ho=>
     OL (g:=none) (ho.kp.env hE) (fun d hd=>VF (hf1 d hd)) (fun d hd g w hh=>(by cases hh)) ho.ev
    cases r with
    | ev e=>obtain ⟨v,ho⟩:=hr;exact ⟨v,m,_,h,ho.mem,ho.nxt,put ho,ho.goes⟩
    | st aff ob nk e=>obtain ⟨v,s',A',ho⟩:=hr;exact ⟨v,⟨s',ob,nk,A'⟩,_,h,ho.mem,ho.nxt,put ho,ho.goes⟩
    | wd w mk=>obtain ⟨x,v,s',hK,ho⟩:=hr.2 _ h;exact ⟨v,⟨s',m.ob,m.nk,m.A⟩,_,hK,ho.mem,ho.nxt,put ho,ho.goes⟩
    | fr aff kl w=>obtain ⟨ob,nk,e,v,s',A',hK,ho⟩:=hr _ h;exact ⟨v,⟨s',ob,nk,A'⟩,_,hK,ho.mem,ho.nxt,put ho,ho.goes⟩
    | cr w sl rs=>obtain ⟨ob,nk,e,v,s',A',hK,ho⟩:=hr (fun ob' nk' e=>K ob' nk' (OV o.dst none e env)) h;exact ⟨v,⟨s',ob,nk,A'⟩,_,hK,ho.mem,ho.nxt,put ho,ho.goes⟩
  | some jw=>
    obtain ⟨j,want⟩:=jw
    rw [hgu] at hg
    simp only [Option.bind_eq_some_iff,Option.map_eq_some_iff] at hg
    obtain ⟨t,ht,gv,hgv,rfl⟩:=hg
    have hgl:lk env1 t=gv:=eX hE 6 t gv hgv
    have htd: ∀d,o.dst=some d→t≠d:=fun d hd=>hf2 d hd t want gv rfl
    have hop2:lk env1 t= .bool want→ ∃st,AH C.P env1 o=some st∧R2S C B ro m st r:=fun hon=>W3 (C:=C) hm hE (aJ hE 6 t want hon) hop
    have off: ∀{e:EV},(lk env1 t= .bool !want∨lk env1 t=undef)→(∀a,e= .o (.q a)→undef=a)→JI ro m (OV o.dst (some (t,want)) e env) (GW o.dst undef env1):=fun hoff hq=>
     OL (g:=none) hE hf1 (fun d hd g w hh=>(by cases hh;exact htd d hd)) ⟨fun hon=>(by rcases hoff with h1 | h1 <;> rw [h1] at hon <;> cases want <;> cases hon),hq, .inr rfl⟩
    have on: ∀{e e':EV} {v:Value} {m':Mst},Out C B ro m [] [] (Stp.val v) v e m'→True:=fun _=>trivial
    cases r with
    | ev e=>
      obtain ⟨hb,hK⟩:=h
      rw [←hgl] at hb
      by_cases hon:lk env1 t= .bool want
      ·obtain ⟨st,hst,v,ho⟩:=hop2 hon
       refine ⟨st,hst,v,m,_,hK,hm,Nx2.refl,OL (g:=none) hE hf1 (fun d hd g w hh=>(by cases hh;exact htd d hd)) ⟨fun _=> ?_,fun a ha=> ?_, .inl hon⟩,t,ht, .inl ⟨hon,ho.goes⟩⟩
       ·have hev:=ho.ev
        cases e with
        | o x=>cases x <;> first | exact hev | trivial
        | g xs=>exact hev
        | u ys=>exact hev
       ·cases e with
        | o x=>cases x <;> simp [noQ] at ha
        | g xs=>simp [noQ] at ha
        | u ys=>simp [noQ] at ha
      ·have hoff:lk env1 t= .bool !want∨lk env1 t=undef:=by
        cases hx:lk env1 t with
        | bool b=>
          left
          rw [hx] at hon
          cases b <;> cases want <;> first | exact absurd rfl hon | rfl
        | tuple vs=>
          obtain ⟨l⟩:=vs
          cases l with
          | nil=>exact .inr rfl
          | cons a l=>rw [hx] at hb;simp [isB] at hb
        | _=>rw [hx] at hb;simp [isB] at hb
       obtain ⟨st,hst,_⟩:=NS (C:=C) (env1:=env1) hop
       refine ⟨st,hst,undef,m,_,hK,hm,Nx2.refl,off hoff fun a ha=> ?_,t,ht, .inr ⟨hoff,rfl,rfl⟩⟩
       cases e with
       | o x=>cases x <;> simp [noQ] at ha
       | g xs=>simp [noQ] at ha
       | u ys=>simp [noQ] at ha
    | wd w mk=>
      rcases h with ⟨h1,h2⟩ | ⟨h1,h2⟩
      ·rw [←hgl] at h1
       obtain ⟨st,hst,hmk,hr⟩:=hop2 h1
       obtain ⟨x,v,s',hK,ho⟩:=hr _ h2
       refine ⟨st,hst,v,⟨s',m.ob,m.nk,m.A⟩,_,hK,ho.mem,ho.nxt,OL (g:=none) (by have:=ho.kp.env hE;simpa [JP] using this) hf1 (fun d hd g w hh=>(by cases hh;exact htd d hd)) ⟨fun _=> ?_,fun a ha=> ?_, .inl h1⟩,t,ht, .inl ⟨h1,ho.goes⟩⟩
       ·have hev:=ho.ev
        cases hx:mk x with
        | o y=>rw [hx] at hev;cases y <;> first | exact hev | trivial
        | g xs=>rw [hx] at hev;exact hev
        | u ys=>rw [hx] at hev;exact hev
       ·have hev:=ho.ev
        cases hx:mk x with
        | o y=>
          rw [hx] at hev ha
          cases y <;> simp [qq] at ha
          subst ha;exact hev.1
        | g xs=>rw [hx] at ha;simp [qq] at ha
        | u ys=>rw [hx] at ha;simp [qq] at ha
      ·rw [←hgl] at h1
       obtain ⟨st,hst,hmk⟩:=NS (C:=C) (env1:=env1) hop
       replace hmk:=hmk _ _ rfl
       refine ⟨st,hst,undef,m,_,h2,hm,Nx2.refl,off h1 fun a ha=> ?_,t,ht, .inr ⟨h1,rfl,rfl⟩⟩
       cases hx:mk undef with
       | o y=>
         rw [hx] at ha
         cases y <;> simp [qq] at ha
         subst ha
         exact (hmk _ _ hx).symm
       | g xs=>rw [hx] at ha;simp [qq] at ha
       | u ys=>rw [hx] at ha;simp [qq] at ha
    | st aff ob nk e=>exact h.elim
    | fr aff kl w=>
      rcases h with ⟨h1,h2⟩ | ⟨h1,h2⟩
      ·rw [←hgl] at h1
       obtain ⟨st,hst,hr⟩:=hop2 h1
       obtain ⟨ob,nk,e,v,s',A',hK,ho⟩:=hr _ h2
       refine ⟨st,hst,v,⟨s',ob,nk,A'⟩,_,hK,ho.mem,ho.nxt,OL (g:=none) (ho.kp.env hE) (fun d hd=>VF (hf1 d hd)) (fun d hd g w hh=>(by cases hh;exact htd d hd)) ⟨fun _=> ?_,fun a ha=> ?_, .inl h1⟩,t,ht, .inl ⟨h1,ho.goes⟩⟩
       ·have hev:=ho.ev
        cases e with
        | o y=>cases y <;> first | exact hev | trivial
        | g xs=>exact hev
        | u ys=>exact hev
       ·have hev:=ho.ev
        cases e with
        | o y=>
          cases y <;> simp [qq] at ha
          subst ha;exact hev.1
        | g xs=>simp [qq] at ha
        | u ys=>simp [qq] at ha
      ·rw [←hgl] at h1
       obtain ⟨st,hst,_⟩:=NS (C:=C) (env1:=env1) hop
       exact ⟨st,hst,undef,m,_,h2,hm,Nx2.refl,off h1 fun a ha=>by simpa using ha,t,ht, .inr ⟨h1,rfl,rfl⟩⟩
    | cr w sl rs=>
      simp only at h
      split at h
      ·rename_i hcr
       rcases h with ⟨h1,h2⟩ | ⟨h1,h2⟩
       ·rw [←hgl] at h1
        obtain ⟨st,hst,hr⟩:=hop2 h1
        obtain ⟨ob,nk,e,v,s',A',hK,ho⟩:=hr (fun ob' nk' e=>K ob' nk' (OV o.dst (some (t,want)) (noQ e) env)) h2
        refine ⟨st,hst,v,⟨s',ob,nk,A'⟩,_,hK,ho.mem,ho.nxt,OL (g:=none) (by have:=ho.kp.env hE;simpa [JP] using this) hf1 (fun d hd g w hh=>(by cases hh;exact htd d hd)) ⟨fun _=> ?_,fun a ha=> ?_, .inl h1⟩,t,ht, .inl ⟨h1,ho.goes⟩⟩
        ·have hev:=ho.ev
         cases e with
         | o x=>cases x <;> first | exact hev | trivial
         | g xs=>exact hev
         | u ys=>exact hev
        ·cases e with
         | o x=>cases x <;> simp [noQ] at ha
         | g xs=>simp [noQ] at ha
         | u ys=>simp [noQ] at ha
       ·rw [←hgl] at h1
        obtain ⟨st,hst,_⟩:=NS (C:=C) (env1:=env1) hop
        obtain ⟨A',hmm,hex⟩:=eS C (B:=B) (ro:=ro) (sl:=sl) rs m.s m.ob m.nk m.A 0 0 hcr hm
        have hnx:=hex.nxt hm.kok.ro
        have hE':=hnx.kp.env hE
        simp only [JP] at hE'
        have hq: ∀a,noQ (QT (J9 sl [] [] rs m.ob m.nk 0 0).ys)= .o (.q a)→undef=a:=fun a ha=>by
         exfalso
         cases hb:QT (J9 sl [] [] rs m.ob m.nk 0 0).ys with
         | o x=>rw [hb] at ha;cases x <;> simp [noQ] at ha
         | g xs=>rw [hb] at ha;simp [noQ] at ha
         | u ys=>rw [hb] at ha;simp [noQ] at ha
        have hE2:=OL (g:=none) (tag:=some (t,want)) (e:=noQ (QT (J9 sl [] [] rs m.ob m.nk 0 0).ys)) (v:=undef) hE' hf1 (fun d hd g w hh=>(by cases hh;exact htd d hd)) ⟨fun hon=>(by rcases h1 with h1 | h1 <;> rw [h1] at hon <;> cases want <;> cases hon),hq, .inr rfl⟩
        exact ⟨st,hst,undef,_,_,h2,hmm,hnx,hE2,t,ht, .inr ⟨h1,rfl,rfl⟩⟩
      ·exact h.elim
theorem dI {C:Ctx} {ops:Array Oper} {env1:Env} {o:Oper} {st:Stp} {K1:Value→Q} {s s':St} {v:Value} (hk:K1 v s') (h:match o.guard with
   | none=>B1 C st s v s'
   | some (j,want)=> ∃t,ED ops j=some t∧((lk env1 t= .bool want∧B1 C st s v s')∨((lk env1 t= .bool !want∨lk env1 t=undef)∧v=undef∧s'=s))):gdd ops env1 o (MC C st) K1 s:=by
 unfold gdd
 cases hg:o.guard with
 | none=>rw [hg] at h;exact KG.2 ⟨v,s',h,hk⟩
 | some jw=>
   obtain ⟨j,want⟩:=jw
   rw [hg] at h
   obtain ⟨t,ht,h⟩:=h
   simp only [ht]
   rcases h with ⟨h1,h2⟩ | ⟨h1,rfl,rfl⟩
   ·exact .inl ⟨h1,KG.2 ⟨v,s',h2,hk⟩⟩
   ·exact .inr ⟨h1,hk⟩
theorem UT {C:Ctx} {B:Bas} {ro:List (List T)} {sgs:List (Nat×Sg)} {ops:Array Oper} {K:Obs→Nat→FG→Prop} {K1:Env→Q} {Φ:Mst→Prop} (hΦ: ∀m m' aff kl,Φ m→Nx2 ro m aff kl m'→Φ m') (hK: ∀m env env1,K m.ob m.nk env→Mem B ro m→JI ro m env env1→Φ m→K1 env1 m.s):
  ∀(l:List Oper) (m:Mst) (env:FG) (env1:Env),Mem B ro m→JI ro m env env1→Φ m→TQ C sgs ro ops l m.ob m.nk env K→O9 C ops l env1 K1 m.s
 | [],m,env,env1,hm,hE,hF,h=>hK m env env1 h hm hE hF
 | o::r,m,env,env1,hm,hE,hF,h=>by
   simp only [TQ] at h
   split at h
   ·exact h.elim
   ·rename_i g hg
    split at h
    ·exact h.elim
    ·rename_i x hx
     obtain ⟨st,hst,v,m',env',h1,h2,h3,h4,h5⟩:=KU hm hE hg hx h
     simp only [O9]
     have he:W8 C env1 o=MC C st:=by funext K s;unfold W8;rw [hst]
     rw [he]
     exact dI (UT hΦ hK r m' env' _ h2 h4 (hΦ _ _ _ _ hF h3) h1) h5
end Go.Proofs.YthapfcoajahegaaDoor.Eng
