/- A part of the proof. -/
import Derived.Test.YthapfcoajahegaaDoorReRecD
import Derived.Test.YthapfcoajahegaaDoorReRowB
import Derived.Test.YthapfcoajahegaaDoorReHpFb
namespace Go.Proofs.YthapfcoajahegaaDoor.P
open Go Go.Proofs.YthapfcoajahegaaDoor Go.Proofs.YthapfcoajahegaaDoor.Eng
set_option linter.unusedVariables false
set_option maxHeartbeats 4000000
set_option linter.unusedVariables false
set_option linter.unusedSimpArgs false
attribute [local irreducible] prP gP gE gF AY ixW ldc ldg ldl stc stg scW mkW apW A6 cl2 BL C5 BX
variable {w0:World}
theorem bN {L:List Int} {K:J2} (h:K [.bool (decide ((L.length:Int)>1048576))] []):cl2 ⟨Tryd.prog,w0⟩ 4 KD.sg [] [tY L] K:=by
 refine KD.cl2 ?_
 unfold KD.txt
 rw [jI]
 exact CX h
end Go.Proofs.YthapfcoajahegaaDoor.P
namespace Go.Proofs.YthapfcoajahegaaDoor.P
open Go Go.Proofs.YthapfcoajahegaaDoor Go.Proofs.YthapfcoajahegaaDoor.Eng
set_option linter.unusedVariables false
set_option maxHeartbeats 4000000
set_option linter.unusedVariables false
set_option linter.unusedSimpArgs false
attribute [local irreducible] prP gP gE gF AY ixW ldc ldg ldl stc stg scW mkW apW A6 cl2 BL C5 BX
variable {w0:World}
end Go.Proofs.YthapfcoajahegaaDoor.P
namespace Go.Proofs.YthapfcoajahegaaDoor.P
open Go Go.Proofs.YthapfcoajahegaaDoor Go.Proofs.YthapfcoajahegaaDoor.Eng
set_option linter.unusedVariables false
set_option maxHeartbeats 4000000
set_option linter.unusedVariables false
set_option linter.unusedSimpArgs false
attribute [local irreducible] prP gP gE gF AY ixW ldc ldg ldl stc stg scW mkW apW A6 cl2 BL C5 BX
variable {w0:World}
theorem P9 {L:List Int} {k:Nat} {K:J2} (hb:oM L) (hl:L.length≤1048576) (hk:k≤1000) (h: ∀x:Int,0≤x→x≤255→K [I x] []):cl2 ⟨Tryd.prog,w0⟩ 5 JR.sg [iv k] [tY L] K:=by
 refine JR.cl2 ?_
 unfold JR.txt
 rw [jI]
 refine A4 (A8 (fun hlt=> ?_) fun hge=> ?_)
 ·have hlt:k<L.length:=by omega
  have hx:=hb.at hlt
  exact A5 hlt (ldY hlt (iW ⟨by omega,by omega⟩ (h _ (by omega) (by omega))))
 ·refine Y2 ⟨by omega,by omega⟩ (Y2 ⟨by omega,by omega⟩ (CC ⟨by omega,by omega⟩ (C2 (by omega) (by omega) ?_)))
  exact h _ (by omega) (by omega)
attribute [local irreducible] CG
end Go.Proofs.YthapfcoajahegaaDoor.P
namespace Go.Proofs.YthapfcoajahegaaDoor.P
open Go Go.Proofs.YthapfcoajahegaaDoor Go.Proofs.YthapfcoajahegaaDoor.Eng
set_option linter.unusedVariables false
set_option maxHeartbeats 4000000
set_option linter.unusedVariables false
set_option linter.unusedSimpArgs false
attribute [local irreducible] prP gP gE gF AY ixW ldc ldg ldl stc stg scW mkW apW A6 cl2 BL C5 BX
variable {w0:World}
end Go.Proofs.YthapfcoajahegaaDoor.P
namespace Go.Proofs.YthapfcoajahegaaDoor.P
open Go Go.Proofs.YthapfcoajahegaaDoor Go.Proofs.YthapfcoajahegaaDoor.Eng
set_option linter.unusedVariables false
section
variable {os:List AD} {ns:Nat} {buf:List Int} {k:Nat}
theorem Gd.put (h:HP os ns buf []) (k8:k<8) (hd:(ob os k).live=false) {t:Int} (g:Gd os buf):Gd (os.set k (JG ((ob os k).gen+1) t)) buf:=by
 have hol:=h.ol
 have eo: ∀i,ob (os.set k (JG ((ob os k).gen+1) t)) i=if i=k then JG ((ob os k).gen+1) t else ob os i:=fun i=>D9 (by omega)
 have sl: ∀(x:Int) (s:Nat),AA os x=(s:Int)→s≠k∧AA (os.set k (JG ((ob os k).gen+1) t)) x=(s:Int):=fun x s hs=>by
  have sv:=LY hs
  have hsk:s≠k:=fun hh=>by rw [hh,hd] at sv;cases sv.2
  refine ⟨hsk, ?_⟩
  have hb:=A7 (l:=os) (id:=x) (by omega)
  have e:(x % 8).toNat=s:=by omega
  have e2:(AA os x).toNat=s:=by omega
  rw [e2] at hb
  rw [I1 hb.2.1 (by simpa using hol) (by rw [List.length_set];omega) (by rw [e,eo,if_neg hsk];exact sv.2) (by rw [e,eo,if_neg hsk];exact hb.2.2.2.2.2)]
  omega
 have kk: ∀y,(y<8∧(ob os y).live=true∧y≠k)→ ∀j∈BA os y,j∈BA (os.set k (JG ((ob os k).gen+1) t)) y∧(j.toNat<8∧(ob os j.toNat).live=true∧j.toNat≠k):=fun y ⟨y8,yv,yk⟩ j hj=>by
  have hb:=B2 hj
  obtain ⟨h0,f,hf,hs⟩:=IX.1 hj
  obtain ⟨h1,h2⟩:=sl f j.toNat (by omega)
  exact ⟨IX.2 ⟨h0,f,by rw [eo,if_neg yk];exact hf,by omega⟩,hb.2.1,hb.2.2.2.2,h1⟩
 intro y y8 yv
 by_cases hyk:y=k
 ·subst hyk
  exact .inl ⟨y,⟨k8,yv,by rw [eo,if_pos rfl];simp [JG]⟩, .refl⟩
 ·rw [eo,if_neg hyk] at yv
  rcases g y y8 yv with ⟨e,he,hr⟩ | ⟨x,hx,s,hs,hr⟩
  ·have hek:e≠k:=fun hh=>by have:=he.lv;rw [hh,hd] at this;cases this
   exact .inl ⟨e,⟨he.lt,by rw [eo,if_neg hek];exact he.lv,by rw [eo,if_neg hek];exact he.pos⟩,(hr.KL (P:=fun y=>y<8∧(ob os y).live=true∧y≠k) ⟨he.lt,he.lv,hek⟩ kk).1⟩
  ·have sv:=LY hs
   obtain ⟨h1,h2⟩:=sl x s hs
   exact .inr ⟨x,hx,s,h2,(hr.KL (P:=fun y=>y<8∧(ob os y).live=true∧y≠k) ⟨sv.1,sv.2,h1⟩ kk).1⟩
theorem lG {ss:List ByteArray} {s:ByteArray} (h:HP os ns buf []) (g:Gd os buf):Gd (GY os ss s).1 buf:=by
 unfold GY
 split
 ·exact g
 ·split
  ·exact g
  ·split
   ·exact g
   ·rename_i hf _
    obtain ⟨h1,h2,h3⟩:=PJ hf
    have hol:=h.ol
    simp only [JV,Bool.and_eq_true,Bool.not_eq_true',decide_eq_true_eq] at h3
    have hg:=(h.obj (BZ os).toNat (by omega)).gen
    simp only
    rw [JU (n:=(ob os (BZ os).toNat).gen+1) ⟨by omega,by omega⟩]
    exact g.put h (by omega) h3.1
theorem vS (os:List AD) (P:Nat→Bool) (j:Nat):0≤S os P j:=by
 have:=LG (n:=8) (f:=fun _=>0) (g:=fun x=>if P x then E os x j else 0) fun x hx=>by
  split
  ·exact PB _ _ _
  ·exact Int.le_refl _
 rw [JX (fun _ _=>rfl)] at this;exact this
theorem oV (h:HP os ns buf []) {e:Nat} (he:l8 os e) (hr:Reach os e k): ¬RB os buf k∨ ∃x,Out os (fun i=>(ob os i).count) buf x∧Reach os x k:=by
 induction hr with
 | refl=>
   by_cases hb:RB os buf e
   ·right
    have:=vS os (fun k=> !N5 os buf k) e
    have:=he.pos
    exact ⟨e,⟨he.lt,hb,(h.ext he.lt he.lv).2 (by omega)⟩, .refl⟩
   ·exact .inl hb
 | step hr hj ih=>
   rename_i y j
   rcases ih with ih | ⟨x,hx,ih⟩
   ·by_cases hb:RB os buf j.toNat
    ·right
     have hjb:=B2 hj
     have yl:=hr.live ⟨he.lt,he.lv⟩
     have hm:((j.toNat:Nat):Int)∈BA os y:=by rw [←hjb.2.2.1];exact hj
     have e1:=pU (os:=os) (P:=fun k=> !N5 os buf k) (j:=j.toNat) yl.1 (by simp [SL.2 ih])
     have hE:0<E os y j.toNat:=by unfold E;have:=List.count_pos_iff.2 hm;omega
     have hlv:=(h.obj j.toNat hjb.2.1).lv hjb.2.2.2.2
     exact ⟨j.toNat,⟨hjb.2.1,hb,(h.ext hjb.2.1 hjb.2.2.2.2).2 (by omega)⟩, .refl⟩
    ·exact .inl hb
   ·exact .inr ⟨x,hx, .step ih hj⟩
def Rch (os:List AD) (k:Nat):Prop:= ∃e,l8 os e∧Reach os e k
theorem Rch.live {os:List AD} {k:Nat}:Rch os k→k<8∧(ob os k).live=true:=fun ⟨_,he,hr⟩=>hr.live ⟨he.lt,he.lv⟩
theorem gB (h:HP os ns buf []) (g:Gd os buf) (k8:k<8) (kv:(ob os k).live=true):ML os (fun i=>(ob os i).count) buf k=true↔ ¬Rch os k:=by
 rw [KB]
 constructor
 ·rintro ⟨hb,hn⟩ ⟨e,he,hr⟩
  rcases oV h he hr with h1 | h1
  ·exact h1 hb
  ·exact hn h1
 ·intro hn
  have hb: ∀y,y<8→(ob os y).live=true→ ¬Rch os y→RB os buf y:=fun y y8 yv hy=>by
   rcases g y y8 yv with hc | ⟨x,hx,s,hs,hr⟩
   ·exact absurd hc hy
   ·exact ⟨x,hx,s,hs,hr⟩
  refine ⟨hb k k8 kv hn, ?_⟩
  rintro ⟨x,⟨x8,xr,hx⟩,hr⟩
  have xv:(ob os x).live=true:=xr.live
  have hp:=(h.ext x8 xv).1 hx
  by_cases h0:0<(ob os x).holds+(ob os x).roots
  ·exact hn ⟨x,⟨x8,xv,h0⟩,hr⟩
  ·obtain ⟨p,p8,hpp,hE⟩:=kD (os:=os) (P:=fun k=> !N5 os buf k) (j:=x) (by omega)
   have hpn: ¬RB os buf p:=by simp only [Bool.not_eq_true'] at hpp;exact SL.1 hpp
   have hm:=fD hE
   obtain ⟨_,f,hf,hs⟩:=IX.1 hm
   have pv:=((h.obj p p8).lead f hf (fun hh=>by rw [hh,J0 (.inl (by omega))] at hs;omega)).1
   obtain ⟨e,he,her⟩:Rch os p:=Classical.byContradiction fun hh=>hpn (hb p p8 pv hh)
   have:=Reach.step her hm
   rw [Int.toNat_natCast] at this
   exact hn ⟨e,he,this.trans hr⟩
theorem jG {W:Nat→Bool} {i:Nat} (h:W i=true):IC os W i=BS (ob os i).gen:=by
 unfold IC
 rw [show G8 os W i=BS (ob os i).gen from by unfold G8;rw [if_pos h]]
 rfl
theorem cR {W:Nat→Bool} {i:Nat} (h:W i=false):(IC os W i).live=(ob os i).live∧(IC os W i).gen=(ob os i).gen∧(IC os W i).site=(ob os i).site∧(IC os W i).holds=(ob os i).holds∧(IC os W i).roots=(ob os i).roots∧(IC os W i).field=(ob os i).field:=by
 have e:G8 os W i={ob os i with purple:=false}:=by unfold G8;rw [if_neg (by rw [h];decide)]
 unfold IC
 rw [e]
 split
 ·exact ⟨rfl,rfl,rfl,rfl,rfl,rfl⟩
 ·exact ⟨rfl,rfl,rfl,rfl,rfl,rfl⟩
structure tG (os os':List AD):Prop where
 len:os'.length=8
 lv: ∀k,k<8→((ob os' k).live=true↔Rch os k)
 rch: ∀k,Rch os k→Rch os' k
 sm: ∀k,k<8→Rch os k→(ob os' k).gen=(ob os k).gen∧(ob os' k).site=(ob os k).site∧(ob os' k).holds=(ob os k).holds∧(ob os' k).roots=(ob os k).roots∧(ob os' k).field=(ob os k).field
 gn: ∀k,k<8→(ob os' k).gen=(ob os k).gen
theorem iX (h:HP os ns buf []) (g:Gd os buf):tG os (JM os buf).1:=by
 obtain ⟨W,hW⟩: ∃W,W=ML os (fun i=>(ob os i).count) buf:=⟨_,rfl⟩
 have wi: ∀k,k<8→(ob os k).live=true→(W k=true↔ ¬Rch os k):=fun k k8 kv=>by rw [hW];exact gB h g k8 kv
 have wl: ∀k,W k=true→(ob os k).live=true:=fun k hk=>by rw [hW,KB] at hk;exact hk.1.live
 have eo: ∀i,i<8→ob (JM os buf).1 i=IC os W i:=fun i hi=>by
  unfold JM;simp only;rw [KX hi,hW]
 have hf: ∀k,Rch os k→W k=false:=fun k hk=>by
  cases hw:W k with
  | false=>rfl
  | true=>exact absurd hk ((wi k hk.live.1 hk.live.2).1 hw)
 have sm: ∀k,k<8→Rch os k→(ob (JM os buf).1 k).gen=(ob os k).gen∧(ob (JM os buf).1 k).site=(ob os k).site∧(ob (JM os buf).1 k).holds=(ob os k).holds∧(ob (JM os buf).1 k).roots=(ob os k).roots∧(ob (JM os buf).1 k).field=(ob os k).field:=fun k k8 hk=>by
  rw [eo k k8];exact (cR (hf k hk)).2
 have lv: ∀k,k<8→((ob (JM os buf).1 k).live=true↔Rch os k):=fun k k8=>by
  rw [eo k k8]
  cases hw:W k with
  | true=>
    rw [jG hw]
    exact ⟨fun hh=>(by cases hh),fun hh=>absurd hh ((wi k k8 (wl k hw)).1 hw)⟩
  | false=>
    rw [(cR hw).1]
    refine ⟨fun hv=>Classical.byContradiction fun hn=> ?_,fun hh=>hh.live.2⟩
    rw [(wi k k8 hv).2 hn] at hw;cases hw
 have hln:(JM os buf).1.length=8:=FE _
 refine ⟨hln,lv,fun k hk=> ?_,sm,fun k k8=> ?_⟩
 ·obtain ⟨e,he,hr⟩:=hk
  have rr:Rch os e:=⟨e,he, .refl⟩
  refine ⟨e,⟨he.lt,(lv e he.lt).2 rr,by rw [(sm e he.lt rr).2.2.1,(sm e he.lt rr).2.2.2.1];exact he.pos⟩,(hr.KL (P:=Rch os) rr fun y hy j hj=> ?_).1⟩
  have hb:=B2 hj
  obtain ⟨e',he',hr'⟩:=hy
  have rj:Rch os j.toNat:=⟨e',he', .step hr' hj⟩
  have hy:Rch os y:=⟨e',he',hr'⟩
  obtain ⟨h0,f,hf',hs⟩:=IX.1 hj
  have hfb:=A7 (l:=os) (id:=f) (by omega)
  have ej:(f % 8).toNat=j.toNat:=by omega
  have ej2:(AA os f).toNat=j.toNat:=by omega
  rw [ej2] at hfb
  refine ⟨IX.2 ⟨h0,f,by rw [(sm y hy.live.1 hy).2.2.2.2];exact hf', ?_⟩,rj⟩
  rw [I1 hfb.2.1 hln (by rw [hln];omega) (by rw [ej];exact (lv _ hb.2.1).2 rj) (by rw [ej,(sm _ hb.2.1 rj).1];exact hfb.2.2.2.2.2)]
  omega
 ·rw [eo k k8]
  cases hw:W k with
  | true=>rw [jG hw];rfl
  | false=>exact (cR hw).2.1
theorem nV (h:HP os ns buf []) (g:Gd os buf):Gd (JM os buf).1 []:=fun k k8 kv=>by
 have R:=iX h g
 exact .inl (R.rch k ((R.lv k k8).1 kv))
end
theorem DX.gd {h:Hp} {o:Op5} (hk:DX h) (g:Gd h.AG h.buffer):Gd (BO h o).1.AG (BO h o).1.buffer:=by
 have hp:=hk.hp
 unfold BO
 split
 ·exact lG hp g
 ·split
  ·exact (hp.aM (id:=o.a) (kd:=o.kind)).gd g
  ·split
   ·exact (hp.WQ (a:=o.a) (b:=o.b) (c:=o.c)).gd g
   ·split
    ·exact g
    ·split
     ·exact g
     ·split
      ·exact nV hp g
      ·exact g
end Go.Proofs.YthapfcoajahegaaDoor.P
namespace Go.Proofs.YthapfcoajahegaaDoor.P
open Go Go.Proofs.YthapfcoajahegaaDoor Go.Proofs.YthapfcoajahegaaDoor.Eng
set_option linter.unusedVariables false
set_option maxHeartbeats 4000000
set_option linter.unusedVariables false
set_option linter.unusedSimpArgs false
attribute [local irreducible] prP gP gE gF AY ixW ldc ldg ldl stc stg scW mkW apW A6 cl2 BL C5 BX
variable {w0:World}
structure uF (x:Hp):Prop where
 fits:Fits x
 jD:V4 x
 gd:DX x→Gd x.AG x.buffer
 of: ∀o∈x.AG,OF o
theorem uF.ok {x:Hp} (h:DX x) (g:Gd x.AG x.buffer):uF x:=⟨h.fits,h.jD,fun _=>g,(h.st h.jD).of⟩
theorem Gd.as {a b:List AD} {L:List Int} (g:Gd a L) (h: ∀i,i<8→(ob b i).live=(ob a i).live∧(ob b i).holds=(ob a i).holds∧(ob b i).roots=(ob a i).roots) (hk: ∀y,y<8→BA b y=BA a y) (hs: ∀x∈L,AA b x=AA a x):Gd b L:=fun k k8 kv=>by
 have kr: ∀{s y},s<8∧(ob a s).live=true→Reach a s y→Reach b s y:=fun hs hr=>(hr.KL (P:=fun y=>y<8) hs.1 fun y hy j hj=>⟨by rw [hk y hy];exact hj,(B2 hj).2.1⟩).1
 rcases g k k8 (by rw [←(h k k8).1];exact kv) with ⟨e,he,hr⟩ | ⟨x,hx,s,hsx,hr⟩
 ·exact .inl ⟨e,⟨he.lt,by rw [(h e he.lt).1];exact he.lv,by rw [(h e he.lt).2.1,(h e he.lt).2.2];exact he.pos⟩,kr ⟨he.lt,he.lv⟩ hr⟩
 ·exact .inr ⟨x,hx,s,by rw [hs x hx];exact hsx,kr (LY hsx) hr⟩
end Go.Proofs.YthapfcoajahegaaDoor.P
namespace Go.Proofs.YthapfcoajahegaaDoor.P
open Go Go.Proofs.YthapfcoajahegaaDoor Go.Proofs.YthapfcoajahegaaDoor.Eng
set_option linter.unusedVariables false
abbrev Que:=List (Int×Int)
def inQ (q:Que) (s:Int):Prop:=s∈q.map (·.1)
instance (q:Que) (s:Int):Decidable (inQ q s):=inferInstanceAs (Decidable (_∈_))
def PI (but:Int) (q:Que) (p s:Int):Que:=if s<0∨s=but∨inQ q s then q else q++[(s,p)]
def SW (os:List AD) (but:Int) (ids:List Int):Que:=ids.foldl (fun q x=>PI but q (-1) (AA os x)) []
def WS (os:List AD) (but:Int) (q:Que) (s:Int):Que:=(BA os s.toNat).foldl (fun q' t=>PI but q' s t) q
def gQ (q:Que) (i:Nat):Int:=(q.getD i (0,0)).1
def bX (os:List AD) (but:Int):Nat→Nat→Que→Que
 | 0,_,q=>q
 | f+1,i,q=>if i<q.length then bX os but f (i+1) (WS os but q (gQ q i)) else q
theorem T3 {q r:Que} {s:Int}:inQ (q++r) s↔inQ q s∨inQ r s:=by unfold inQ;rw [List.map_append,List.mem_append]
theorem sX {q:Que} {i:Nat} (h:i<q.length):(q[i]).1=gQ q i:=by simp [gQ,h]
theorem uY {q:Que} {i:Nat} (h:i<q.length):inQ q (gQ q i):=by
 rw [←sX h];exact List.mem_map.2 ⟨_,List.getElem_mem h,rfl⟩
theorem rD {q r:Que} {i:Nat} (h:i<q.length):gQ (q++r) i=gQ q i:=by
 unfold gQ;rw [List.getD_eq_getElem?_getD,List.getElem?_append_left h,List.getD_eq_getElem?_getD]
structure QI (os:List AD) (but:Int) (q:Que):Prop where
 nd:(q.map (·.1)).Nodup
 lv: ∀s,inQ q s→ ∃k:Nat,s=(k:Int)∧k<8∧(ob os k).live=true∧s≠but
theorem QI.nil (os:List AD) (but:Int):QI os but []:=⟨List.nodup_nil,fun s h=>by simp [inQ] at h⟩
theorem QI.len {os:List AD} {but:Int} {q:Que} (h:QI os but q):q.length≤8:=by
 have:=few (n:=8) (l:=q.map (·.1)) (fun x=>x.toNat) h.nd (fun x hx=>by obtain ⟨k,h1,h2,_⟩:=h.lv x hx;omega) fun x hx y hy he=>by
  obtain ⟨k,h1,_⟩:=h.lv x hx
  obtain ⟨k',h1',_⟩:=h.lv y hy
  omega
 simpa using this
theorem QI.add {os:List AD} {but:Int} {q:Que} {p s:Int} (h:QI os but q) (hs:0≤s→s.toNat<8∧(ob os s.toNat).live=true):QI os but (PI but q p s):=by
 unfold PI
 split
 ·exact h
 ·rename_i hn
  simp only [not_or] at hn
  refine ⟨?_,fun x hx=> ?_⟩
  ·rw [List.map_append]
   exact List.nodup_append.2 ⟨h.nd,by simp,fun a ha b hb=>by
    have hb:b=s:=by simpa using hb
    rw [hb];rintro rfl
    exact hn.2.2 ha⟩
  ·rcases T3.1 hx with hx | hx
   ·exact h.lv x hx
   ·have hx:x=s:=by simpa [inQ] using hx
    subst hx
    exact ⟨x.toNat,by omega,(hs (by omega)).1,(hs (by omega)).2,hn.2.1⟩
theorem dK {os:List AD} {x:Int}:0≤AA os x→(AA os x).toNat<8∧(ob os (AA os x).toNat).live=true:=fun h=>⟨(A7 h).2.2.2.1,(A7 h).2.2.2.2.1⟩
def OU (q q':Que):Prop:= ∃r,q'=q++r
theorem OU.refl (q:Que):OU q q:=⟨[],by simp⟩
theorem OU.trans {a b c:Que}:OU a b→OU b c→OU a c:=fun ⟨r,h⟩ ⟨r',h'⟩=>⟨r++r',by rw [h',h,List.append_assoc]⟩
theorem OU.add {but:Int} {q:Que} {p s:Int}:OU q (PI but q p s):=by
 unfold PI;split
 ·exact .refl q
 ·exact ⟨_,rfl⟩
theorem OU.inq {q q':Que} {s:Int} (h:OU q q') (hs:inQ q s):inQ q' s:=by obtain ⟨r,rfl⟩:=h;exact T3.2 (.inl hs)
theorem OU.len {q q':Que} (h:OU q q'):q.length≤q'.length:=by obtain ⟨r,rfl⟩:=h;simp
theorem OU.gq {q q':Que} {i:Nat} (h:OU q q') (hi:i<q.length):gQ q' i=gQ q i:=by obtain ⟨r,rfl⟩:=h;exact rD hi
theorem rC {but:Int} {q:Que} {p s:Int} (h0:0≤s) (hb:s≠but):inQ (PI but q p s) s:=by
 unfold PI;split
 ·rename_i h
  rcases h with h | h | h
  ·omega
  ·exact absurd h hb
  ·exact h
 ·exact T3.2 (.inr (by simp [inQ]))
theorem eG {but:Int} {q:Que} {p s x:Int} (h:inQ (PI but q p s) x):inQ q x∨(x=s∧0≤s∧s≠but):=by
 unfold PI at h;split at h
 ·exact .inl h
 ·rename_i hn
  simp only [not_or] at hn
  rcases T3.1 h with h | h
  ·exact .inl h
  ·exact .inr ⟨by simpa [inQ] using h,by omega,hn.2.1⟩
theorem YH {os:List AD} {but:Int} {p:Int}: ∀{l:List Int} {q:Que},QI os but q→(∀s∈l,0≤s→s.toNat<8∧(ob os s.toNat).live=true)→
  QI os but (l.foldl (fun q' t=>PI but q' p t) q)∧OU q (l.foldl (fun q' t=>PI but q' p t) q)∧(∀s∈l,0≤s→s≠but→inQ (l.foldl (fun q' t=>PI but q' p t) q) s)∧ ∀x,inQ (l.foldl (fun q' t=>PI but q' p t) q) x→inQ q x∨(x∈l∧0≤x∧x≠but)
 | [],q,h,_=>⟨h, .refl q,by simp,fun x hx=> .inl hx⟩
 | s::l,q,h,hl=>by
   obtain ⟨h1,h2,h3,h4⟩:=YH (p:=p) (l:=l) (q:=PI but q p s) (h.add (hl s (by simp))) fun t ht=>hl t (by simp [ht])
   rw [List.foldl_cons]
   refine ⟨h1,OU.add.trans h2,fun t ht h0 hb=> ?_,fun x hx=> ?_⟩
   ·rcases List.mem_cons.1 ht with rfl | ht
    ·exact h2.inq (rC h0 hb)
    ·exact h3 t ht h0 hb
   ·rcases h4 x hx with hx | ⟨a,b,c⟩
    ·rcases eG hx with hx | ⟨a,b,c⟩
     ·exact .inl hx
     ·exact .inr ⟨by simp [a],by omega,by rw [a];exact c⟩
    ·exact .inr ⟨by simp [a],b,c⟩
theorem iF (os:List AD) (but:Int) (ids:List Int):SW os but ids=(ids.map (AA os)).foldl (fun q t=>PI but q (-1) t) []:=by
 unfold SW;rw [List.foldl_map]
theorem iB (os:List AD) (but:Int) (ids:List Int):QI os but (SW os but ids)∧(∀x∈ids,0≤AA os x→AA os x≠but→inQ (SW os but ids) (AA os x))∧ ∀s,inQ (SW os but ids) s→ ∃x∈ids,AA os x=s∧0≤s∧s≠but:=by
 rw [iF]
 obtain ⟨h1,_,h3,h4⟩:=YH (os:=os) (but:=but) (p:= -1) (l:=ids.map (AA os)) (QI.nil os but) fun s hs h0=>by
  obtain ⟨x,_,rfl⟩:=List.mem_map.1 hs
  exact dK h0
 refine ⟨h1,fun x hx h0 hb=>h3 _ (List.mem_map.2 ⟨x,hx,rfl⟩) h0 hb,fun s hs=> ?_⟩
 rcases h4 s hs with h | ⟨a,b,c⟩
 ·simp [inQ] at h
 ·obtain ⟨x,hx,rfl⟩:=List.mem_map.1 a
  exact ⟨x,hx,rfl,b,c⟩
theorem ZB {os:List AD} {but:Int} {q:Que} (s:Int) (h:QI os but q):QI os but (WS os but q s)∧OU q (WS os but q s)∧(∀j∈BA os s.toNat,j≠but→inQ (WS os but q s) j)∧ ∀x,inQ (WS os but q s) x→inQ q x∨(x∈BA os s.toNat∧x≠but):=by
 obtain ⟨h1,h2,h3,h4⟩:=YH (p:=s) (l:=BA os s.toNat) h fun t ht _=>⟨(B2 ht).2.1,(B2 ht).2.2.2.2⟩
 exact ⟨h1,h2,fun j hj hb=>h3 j hj (B2 hj).1 hb,fun x hx=>(h4 x hx).imp id fun ⟨a,_,c⟩=>⟨a,c⟩⟩
inductive SR (os:List AD) (but:Int) (s:Nat):Nat→Prop
 | refl:SR os but s s
 | step {k:Nat} {j:Int}:SR os but s k→j∈BA os k→j≠but→SR os but s j.toNat
def qB (os:List AD) (but:Int) (ids:List Int) (k:Nat):Prop:= ∃x∈ids, ∃s:Nat,AA os x=(s:Int)∧(s:Int)≠but∧SR os but s k
structure BI (os:List AD) (but:Int) (ids:List Int) (i:Nat) (q:Que):Prop where
 qi:QI os but q
 snd: ∀s,inQ q s→qB os but ids s.toNat
 ini: ∀x∈ids,0≤AA os x→AA os x≠but→inQ q (AA os x)
 cls: ∀m,m<i→m<q.length→ ∀j∈BA os (gQ q m).toNat,j≠but→inQ q j
theorem BI.start (os:List AD) (but:Int) (ids:List Int):BI os but ids 0 (SW os but ids):=by
 obtain ⟨h1,h2,h3⟩:=iB os but ids
 refine ⟨h1,fun s hs=> ?_,h2,fun m hm=>by omega⟩
 obtain ⟨x,hx,rfl,h0,hb⟩:=h3 s hs
 exact ⟨x,hx,(AA os x).toNat,by omega,by rw [Int.toNat_of_nonneg h0];exact hb, .refl⟩
theorem BI.step {os:List AD} {but:Int} {ids:List Int} {i:Nat} {q:Que} (h:BI os but ids i q) (hi:i<q.length):BI os but ids (i+1) (WS os but q (gQ q i)):=by
 obtain ⟨h1,h2,h3,h4⟩:=ZB (gQ q i) h.qi
 refine ⟨h1,fun s hs=> ?_,fun x hx h0 hb=>h2.inq (h.ini x hx h0 hb),fun m hm hml j hj hb=> ?_⟩
 ·rcases h4 s hs with hs | ⟨hs,hb⟩
  ·exact h.snd s hs
  ·obtain ⟨x,hx,s',e1,e2,hr⟩:=h.snd _ (uY hi)
   exact ⟨x,hx,s',e1,e2, .step hr hs hb⟩
 ·rcases Nat.lt_or_ge m i with hmi | hmi
  ·rw [h2.gq (by omega)] at hj
   exact h2.inq (h.cls m hmi (by omega) j hj hb)
  ·have:m=i:=by omega
   subst this
   rw [h2.gq hi] at hj
   exact h3 j hj hb
theorem BI.run {os:List AD} {but:Int} {ids:List Int}: ∀(f i:Nat) (q:Que),BI os but ids i q→8<f+i→BI os but ids (bX os but f i q).length (bX os but f i q)∧OU q (bX os but f i q)
 | 0,i,q,h,hf=>by
   have:=h.qi.len
   exact ⟨⟨h.qi,h.snd,h.ini,fun m hm hl=>h.cls m (by simp only [bX] at hl;omega) hl⟩, .refl q⟩
 | f+1,i,q,h,hf=>by
   simp only [bX]
   split
   ·rename_i hi
    obtain ⟨h1,h2⟩:=BI.run f (i+1) _ (h.step hi) (by omega)
    exact ⟨h1,(ZB (gQ q i) h.qi).2.1.trans h2⟩
   ·rename_i hi
    exact ⟨⟨h.qi,h.snd,h.ini,fun m hm hl=>h.cls m (by omega) hl⟩, .refl q⟩
end Go.Proofs.YthapfcoajahegaaDoor.P
