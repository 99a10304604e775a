/- A part of the proof. -/
import Derived.Test.YtklmcfpgdfibnaaRiRecD
import Derived.Test.YtklmcfpgdfibnaaRiRowB
import Derived.Test.YtklmcfpgdfibnaaRiHpFa
import Derived.Test.YtklmcfpgdfibnaaRiDrA
namespace Go.Proofs.Ytklmcfpgdfibnaa.P
open Go Go.Proofs.Ytklmcfpgdfibnaa Go.Proofs.Ytklmcfpgdfibnaa.Eng
set_option linter.unusedVariables false
set_option maxHeartbeats 4000000
set_option linter.unusedVariables false
set_option linter.unusedSimpArgs false
attribute [local irreducible] prP gP gE gF AW ixW ldc ldg ldl stc stg scW mkW apW AZ cl2 BJ CH B2
variable {w0:World}
theorem cT {L:List Int} {K:J2} (h:K [.bool (decide ((L.length:Int)>1048576))] []):cl2 ⟨Try.prog,w0⟩ 17 IK.sg [] [tY L] K:=by
 refine IK.cl2 ?_
 unfold IK.txt
 rw [oP]
 exact RD h
end Go.Proofs.Ytklmcfpgdfibnaa.P
namespace Go.Proofs.Ytklmcfpgdfibnaa.P
open Go Go.Proofs.Ytklmcfpgdfibnaa Go.Proofs.Ytklmcfpgdfibnaa.Eng
set_option linter.unusedVariables false
set_option maxHeartbeats 4000000
set_option linter.unusedVariables false
set_option linter.unusedSimpArgs false
attribute [local irreducible] prP gP gE gF AW ixW ldc ldg ldl stc stg scW mkW apW AZ cl2 BJ CH B2
variable {w0:World}
end Go.Proofs.Ytklmcfpgdfibnaa.P
namespace Go.Proofs.Ytklmcfpgdfibnaa.P
open Go Go.Proofs.Ytklmcfpgdfibnaa Go.Proofs.Ytklmcfpgdfibnaa.Eng
set_option linter.unusedVariables false
set_option maxHeartbeats 4000000
set_option linter.unusedVariables false
set_option linter.unusedSimpArgs false
attribute [local irreducible] prP gP gE gF AW ixW ldc ldg ldl stc stg scW mkW apW AZ cl2 BJ CH B2
variable {w0:World}
attribute [local irreducible] EY
end Go.Proofs.Ytklmcfpgdfibnaa.P
namespace Go.Proofs.Ytklmcfpgdfibnaa.P
open Go Go.Proofs.Ytklmcfpgdfibnaa Go.Proofs.Ytklmcfpgdfibnaa.Eng
set_option linter.unusedVariables false
set_option maxHeartbeats 4000000
set_option linter.unusedVariables false
set_option linter.unusedSimpArgs false
attribute [local irreducible] prP gP gE gF AW ixW ldc ldg ldl stc stg scW mkW apW AZ cl2 BJ CH B2
variable {w0:World}
theorem s7 {w a:Bool} {m:J2→Prop} {K:J2} (ha:a=w) (h:m K):gC (.bool a) w m K:= .inl ⟨by rw [ha],h⟩
theorem wM {m:J2→Prop} {K:J2} (h:m K):gC (.bool true) true m K:=s7 rfl h
theorem sZ {c:Prop} [Decidable c] {m:J2→Prop} {K:J2} (hc: ¬c) (h:m K):gC (.bool (decide c)) false m K:=s7 (decide_eq_false hc) h
end Go.Proofs.Ytklmcfpgdfibnaa.P
namespace Go.Proofs.Ytklmcfpgdfibnaa.P
open Go Go.Proofs.Ytklmcfpgdfibnaa Go.Proofs.Ytklmcfpgdfibnaa.Eng
set_option linter.unusedVariables false
section
variable {os:List AE} {ns:Nat} {buf:List Int} {k:Nat}
theorem Gd.put (h:HP os ns buf []) (k8:k<8) (hd:(ob os k).live=false) {t:Int} (g:Gd os buf):Gd (os.set k (IE ((ob os k).gen+1) t)) buf:=by
 have hol:=h.ol
 have eo: ∀i,ob (os.set k (IE ((ob os k).gen+1) t)) i=if i=k then IE ((ob os k).gen+1) t else ob os i:=fun i=>DP (by omega)
 have sl: ∀(x:Int) (s:Nat),AA os x=(s:Int)→s≠k∧AA (os.set k (IE ((ob os k).gen+1) t)) x=(s:Int):=fun x s hs=>by
  have sv:=HS hs
  have hsk:s≠k:=fun hh=>by rw [hh,hd] at sv;cases sv.2
  refine ⟨hsk, ?_⟩
  have hb:=BH (l:=os) (id:=x) (by omega)
  have e:(x % 8).toNat=s:=by omega
  have e2:(AA os x).toNat=s:=by omega
  rw [e2] at hb
  rw [HF hb.2.1 (by simpa using hol) (by rw [List.length_set];omega) (by rw [e,eo,if_neg hsk];exact sv.2) (by rw [e,eo,if_neg hsk];exact hb.2.2.2.2.2)]
  omega
 have kk: ∀y,(y<8∧(ob os y).live=true∧y≠k)→ ∀j∈BC os y,j∈BC (os.set k (IE ((ob os k).gen+1) t)) y∧(j.toNat<8∧(ob os j.toNat).live=true∧j.toNat≠k):=fun y ⟨y8,yv,yk⟩ j hj=>by
  have hb:=BZ hj
  obtain ⟨h0,f,hf,hs⟩:=EI.1 hj
  obtain ⟨h1,h2⟩:=sl f j.toNat (by omega)
  exact ⟨EI.2 ⟨h0,f,by rw [eo,if_neg yk];exact hf,by omega⟩,hb.2.1,hb.2.2.2.2,h1⟩
 intro y y8 yv
 by_cases hyk:y=k
 ·subst hyk
  exact .inl ⟨y,⟨k8,yv,by rw [eo,if_pos rfl];simp [IE]⟩, .refl⟩
 ·rw [eo,if_neg hyk] at yv
  rcases g y y8 yv with ⟨e,he,hr⟩ | ⟨x,hx,s,hs,hr⟩
  ·have hek:e≠k:=fun hh=>by have:=he.lv;rw [hh,hd] at this;cases this
   exact .inl ⟨e,⟨he.lt,by rw [eo,if_neg hek];exact he.lv,by rw [eo,if_neg hek];exact he.pos⟩,(hr.II (P:=fun y=>y<8∧(ob os y).live=true∧y≠k) ⟨he.lt,he.lv,hek⟩ kk).1⟩
  ·have sv:=HS hs
   obtain ⟨h1,h2⟩:=sl x s hs
   exact .inr ⟨x,hx,s,h2,(hr.II (P:=fun y=>y<8∧(ob os y).live=true∧y≠k) ⟨sv.1,sv.2,h1⟩ kk).1⟩
theorem oH {ss:List ByteArray} {s:ByteArray} (h:HP os ns buf []) (g:Gd os buf):Gd (HE os ss s).1 buf:=by
 unfold HE
 split
 ·exact g
 ·split
  ·exact g
  ·split
   ·exact g
   ·rename_i hf _
    obtain ⟨h1,h2,h3⟩:=NV hf
    have hol:=h.ol
    simp only [I5,Bool.and_eq_true,Bool.not_eq_true',decide_eq_true_eq] at h3
    have hg:=(h.obj (CM os).toNat (by omega)).gen
    simp only
    rw [G9 (n:=(ob os (CM os).toNat).gen+1) ⟨by omega,by omega⟩]
    exact g.put h (by omega) h3.1
theorem y1 (os:List AE) (P:Nat→Bool) (j:Nat):0≤S os P j:=by
 have:=JM (n:=8) (f:=fun _=>0) (g:=fun x=>if P x then E os x j else 0) fun x hx=>by
  split
  ·exact OI _ _ _
  ·exact Int.le_refl _
 rw [H8 (fun _ _=>rfl)] at this;exact this
theorem qH (h:HP os ns buf []) {e:Nat} (he:oY os e) (hr:Reach os e k): ¬RB os buf k∨ ∃x,Out os (fun i=>(ob os i).count) buf x∧Reach os x k:=by
 induction hr with
 | refl=>
   by_cases hb:RB os buf e
   ·right
    have:=y1 os (fun k=> !MY os buf k) e
    have:=he.pos
    exact ⟨e,⟨he.lt,hb,(h.ext he.lt he.lv).2 (by omega)⟩, .refl⟩
   ·exact .inl hb
 | step hr hj ih=>
   rename_i y j
   rcases ih with ih | ⟨x,hx,ih⟩
   ·by_cases hb:RB os buf j.toNat
    ·right
     have hjb:=BZ hj
     have yl:=hr.live ⟨he.lt,he.lv⟩
     have hm:((j.toNat:Nat):Int)∈BC os y:=by rw [←hjb.2.2.1];exact hj
     have e1:=sX (os:=os) (P:=fun k=> !MY os buf k) (j:=j.toNat) yl.1 (by simp [SE.2 ih])
     have hE:0<E os y j.toNat:=by unfold E;have:=List.count_pos_iff.2 hm;omega
     have hlv:=(h.obj j.toNat hjb.2.1).lv hjb.2.2.2.2
     exact ⟨j.toNat,⟨hjb.2.1,hb,(h.ext hjb.2.1 hjb.2.2.2.2).2 (by omega)⟩, .refl⟩
    ·exact .inl hb
   ·exact .inr ⟨x,hx, .step ih hj⟩
def Rch (os:List AE) (k:Nat):Prop:= ∃e,oY os e∧Reach os e k
theorem Rch.live {os:List AE} {k:Nat}:Rch os k→k<8∧(ob os k).live=true:=fun ⟨_,he,hr⟩=>hr.live ⟨he.lt,he.lv⟩
theorem XU (h:HP os ns buf []) (g:Gd os buf) (k8:k<8) (kv:(ob os k).live=true):H7 os (fun i=>(ob os i).count) buf k=true↔ ¬Rch os k:=by
 rw [H0]
 constructor
 ·rintro ⟨hb,hn⟩ ⟨e,he,hr⟩
  rcases qH h he hr with h1 | h1
  ·exact h1 hb
  ·exact hn h1
 ·intro hn
  have hb: ∀y,y<8→(ob os y).live=true→ ¬Rch os y→RB os buf y:=fun y y8 yv hy=>by
   rcases g y y8 yv with hc | ⟨x,hx,s,hs,hr⟩
   ·exact absurd hc hy
   ·exact ⟨x,hx,s,hs,hr⟩
  refine ⟨hb k k8 kv hn, ?_⟩
  rintro ⟨x,⟨x8,xr,hx⟩,hr⟩
  have xv:(ob os x).live=true:=xr.live
  have hp:=(h.ext x8 xv).1 hx
  by_cases h0:0<(ob os x).holds+(ob os x).roots
  ·exact hn ⟨x,⟨x8,xv,h0⟩,hr⟩
  ·obtain ⟨p,p8,hpp,hE⟩:=mZ (os:=os) (P:=fun k=> !MY os buf k) (j:=x) (by omega)
   have hpn: ¬RB os buf p:=by simp only [Bool.not_eq_true'] at hpp;exact SE.1 hpp
   have hm:=iG hE
   obtain ⟨_,f,hf,hs⟩:=EI.1 hm
   have pv:=((h.obj p p8).lead f hf (fun hh=>by rw [hh,HJ (.inl (by omega))] at hs;omega)).1
   obtain ⟨e,he,her⟩:Rch os p:=Classical.byContradiction fun hh=>hpn (hb p p8 pv hh)
   have:=Reach.step her hm
   rw [Int.toNat_natCast] at this
   exact hn ⟨e,he,this.trans hr⟩
theorem nU {W:Nat→Bool} {i:Nat} (h:W i=true):GC os W i=B7 (ob os i).gen:=by
 unfold GC
 rw [show FF os W i=B7 (ob os i).gen from by unfold FF;rw [if_pos h]]
 rfl
theorem c7 {W:Nat→Bool} {i:Nat} (h:W i=false):(GC os W i).live=(ob os i).live∧(GC os W i).gen=(ob os i).gen∧(GC os W i).site=(ob os i).site∧(GC os W i).holds=(ob os i).holds∧(GC os W i).roots=(ob os i).roots∧(GC os W i).field=(ob os i).field:=by
 have e:FF os W i={ob os i with purple:=false}:=by unfold FF;rw [if_neg (by rw [h];decide)]
 unfold GC
 rw [e]
 split
 ·exact ⟨rfl,rfl,rfl,rfl,rfl,rfl⟩
 ·exact ⟨rfl,rfl,rfl,rfl,rfl,rfl⟩
structure wG (os os':List AE):Prop where
 len:os'.length=8
 lv: ∀k,k<8→((ob os' k).live=true↔Rch os k)
 rch: ∀k,Rch os k→Rch os' k
 sm: ∀k,k<8→Rch os k→(ob os' k).gen=(ob os k).gen∧(ob os' k).site=(ob os k).site∧(ob os' k).holds=(ob os k).holds∧(ob os' k).roots=(ob os k).roots∧(ob os' k).field=(ob os k).field
 gn: ∀k,k<8→(ob os' k).gen=(ob os k).gen
theorem dN (h:HP os ns buf []) (g:Gd os buf):wG os (F9 os buf).1:=by
 obtain ⟨W,hW⟩: ∃W,W=H7 os (fun i=>(ob os i).count) buf:=⟨_,rfl⟩
 have wi: ∀k,k<8→(ob os k).live=true→(W k=true↔ ¬Rch os k):=fun k k8 kv=>by rw [hW];exact XU h g k8 kv
 have wl: ∀k,W k=true→(ob os k).live=true:=fun k hk=>by rw [hW,H0] at hk;exact hk.1.live
 have eo: ∀i,i<8→ob (F9 os buf).1 i=GC os W i:=fun i hi=>by
  unfold F9;simp only;rw [JF hi,hW]
 have hf: ∀k,Rch os k→W k=false:=fun k hk=>by
  cases hw:W k with
  | false=>rfl
  | true=>exact absurd hk ((wi k hk.live.1 hk.live.2).1 hw)
 have sm: ∀k,k<8→Rch os k→(ob (F9 os buf).1 k).gen=(ob os k).gen∧(ob (F9 os buf).1 k).site=(ob os k).site∧(ob (F9 os buf).1 k).holds=(ob os k).holds∧(ob (F9 os buf).1 k).roots=(ob os k).roots∧(ob (F9 os buf).1 k).field=(ob os k).field:=fun k k8 hk=>by
  rw [eo k k8];exact (c7 (hf k hk)).2
 have lv: ∀k,k<8→((ob (F9 os buf).1 k).live=true↔Rch os k):=fun k k8=>by
  rw [eo k k8]
  cases hw:W k with
  | true=>
    rw [nU hw]
    exact ⟨fun hh=>(by cases hh),fun hh=>absurd hh ((wi k k8 (wl k hw)).1 hw)⟩
  | false=>
    rw [(c7 hw).1]
    refine ⟨fun hv=>Classical.byContradiction fun hn=> ?_,fun hh=>hh.live.2⟩
    rw [(wi k k8 hv).2 hn] at hw;cases hw
 have hln:(F9 os buf).1.length=8:=DS _
 refine ⟨hln,lv,fun k hk=> ?_,sm,fun k k8=> ?_⟩
 ·obtain ⟨e,he,hr⟩:=hk
  have rr:Rch os e:=⟨e,he, .refl⟩
  refine ⟨e,⟨he.lt,(lv e he.lt).2 rr,by rw [(sm e he.lt rr).2.2.1,(sm e he.lt rr).2.2.2.1];exact he.pos⟩,(hr.II (P:=Rch os) rr fun y hy j hj=> ?_).1⟩
  have hb:=BZ hj
  obtain ⟨e',he',hr'⟩:=hy
  have rj:Rch os j.toNat:=⟨e',he', .step hr' hj⟩
  have hy:Rch os y:=⟨e',he',hr'⟩
  obtain ⟨h0,f,hf',hs⟩:=EI.1 hj
  have hfb:=BH (l:=os) (id:=f) (by omega)
  have ej:(f % 8).toNat=j.toNat:=by omega
  have ej2:(AA os f).toNat=j.toNat:=by omega
  rw [ej2] at hfb
  refine ⟨EI.2 ⟨h0,f,by rw [(sm y hy.live.1 hy).2.2.2.2];exact hf', ?_⟩,rj⟩
  rw [HF hfb.2.1 hln (by rw [hln];omega) (by rw [ej];exact (lv _ hb.2.1).2 rj) (by rw [ej,(sm _ hb.2.1 rj).1];exact hfb.2.2.2.2.2)]
  omega
 ·rw [eo k k8]
  cases hw:W k with
  | true=>rw [nU hw];rfl
  | false=>exact (c7 hw).2.1
theorem rP (h:HP os ns buf []) (g:Gd os buf):Gd (F9 os buf).1 []:=fun k k8 kv=>by
 have R:=dN h g
 exact .inl (R.rch k ((R.lv k k8).1 kv))
end
theorem BG.gd {h:Hp} {o:Op5} (hk:BG h) (g:Gd h.AB h.buffer):Gd (CA h o).1.AB (CA h o).1.buffer:=by
 have hp:=hk.hp
 unfold CA
 split
 ·exact oH hp g
 ·split
  ·exact (hp.bP (id:=o.a) (kd:=o.kind)).gd g
  ·split
   ·exact (hp.WO (a:=o.a) (b:=o.b) (c:=o.c)).gd g
   ·split
    ·exact g
    ·split
     ·exact g
     ·split
      ·exact rP hp g
      ·exact g
theorem vY:Gd hp0.AB hp0.buffer:=fun k k8 kv=>by
 have:ob hp0.AB k=B7 0:=by
  unfold hp0 ob;simp only;rw [List.getD_eq_getElem?_getD,List.getElem?_replicate,if_pos k8];rfl
 rw [this] at kv;cases kv
theorem aS (l:List Op5): ∀i,Gd (EY l i).1.AB (EY l i).1.buffer
 | 0=>vY
 | i+1=>(L8 l i).1.gd (aS l i)
end Go.Proofs.Ytklmcfpgdfibnaa.P
namespace Go.Proofs.Ytklmcfpgdfibnaa.P
open Go Go.Proofs.Ytklmcfpgdfibnaa Go.Proofs.Ytklmcfpgdfibnaa.Eng
set_option linter.unusedVariables false
set_option maxHeartbeats 4000000
set_option linter.unusedVariables false
set_option linter.unusedSimpArgs false
attribute [local irreducible] prP gP gE gF AW ixW ldc ldg ldl stc stg scW mkW apW AZ cl2 BJ CH B2
variable {w0:World}
structure yA (x:Hp):Prop where
 fits:Fits x
 Y5:QR x
 gd:BG x→Gd x.AB x.buffer
 of: ∀o∈x.AB,OF o
theorem yA.ok {x:Hp} (h:BG x) (g:Gd x.AB x.buffer):yA x:=⟨h.fits,h.Y5,fun _=>g,(h.st h.Y5).of⟩
theorem Gd.as {a b:List AE} {L:List Int} (g:Gd a L) (h: ∀i,i<8→(ob b i).live=(ob a i).live∧(ob b i).holds=(ob a i).holds∧(ob b i).roots=(ob a i).roots) (hk: ∀y,y<8→BC b y=BC a y) (hs: ∀x∈L,AA b x=AA a x):Gd b L:=fun k k8 kv=>by
 have kr: ∀{s y},s<8∧(ob a s).live=true→Reach a s y→Reach b s y:=fun hs hr=>(hr.II (P:=fun y=>y<8) hs.1 fun y hy j hj=>⟨by rw [hk y hy];exact hj,(BZ hj).2.1⟩).1
 rcases g k k8 (by rw [←(h k k8).1];exact kv) with ⟨e,he,hr⟩ | ⟨x,hx,s,hsx,hr⟩
 ·exact .inl ⟨e,⟨he.lt,by rw [(h e he.lt).1];exact he.lv,by rw [(h e he.lt).2.1,(h e he.lt).2.2];exact he.pos⟩,kr ⟨he.lt,he.lv⟩ hr⟩
 ·exact .inr ⟨x,hx,s,by rw [hs x hx];exact hsx,kr (HS hsx) hr⟩
end Go.Proofs.Ytklmcfpgdfibnaa.P
namespace Go.Proofs.Ytklmcfpgdfibnaa.P
open Go Go.Proofs.Ytklmcfpgdfibnaa Go.Proofs.Ytklmcfpgdfibnaa.Eng
set_option linter.unusedVariables false
abbrev Que:=List (Int×Int)
def inQ (q:Que) (s:Int):Prop:=s∈q.map (·.1)
instance (q:Que) (s:Int):Decidable (inQ q s):=inferInstanceAs (Decidable (_∈_))
def G8 (but:Int) (q:Que) (p s:Int):Que:=if s<0∨s=but∨inQ q s then q else q++[(s,p)]
def FB (os:List AE) (but:Int) (ids:List Int):Que:=ids.foldl (fun q x=>G8 but q (-1) (AA os x)) []
def SQ (os:List AE) (but:Int) (q:Que) (s:Int):Que:=(BC os s.toNat).foldl (fun q' t=>G8 but q' s t) q
def gQ (q:Que) (i:Nat):Int:=(q.getD i (0,0)).1
def QL (os:List AE) (but:Int):Nat→Nat→Que→Que
 | 0,_,q=>q
 | f+1,i,q=>if i<q.length then QL os but f (i+1) (SQ os but q (gQ q i)) else q
def LS (os:List AE) (but:Int) (ids:List Int):Que:=QL os but 9 0 (FB os but ids)
theorem O1 {q r:Que} {s:Int}:inQ (q++r) s↔inQ q s∨inQ r s:=by unfold inQ;rw [List.map_append,List.mem_append]
theorem VM {q:Que} {i:Nat} (h:i<q.length):(q[i]).1=gQ q i:=by simp [gQ,h]
theorem W9 {q:Que} {i:Nat} (h:i<q.length):inQ q (gQ q i):=by
 rw [←VM h];exact List.mem_map.2 ⟨_,List.getElem_mem h,rfl⟩
theorem NO {q r:Que} {i:Nat} (h:i<q.length):gQ (q++r) i=gQ q i:=by
 unfold gQ;rw [List.getD_eq_getElem?_getD,List.getElem?_append_left h,List.getD_eq_getElem?_getD]
structure QI (os:List AE) (but:Int) (q:Que):Prop where
 nd:(q.map (·.1)).Nodup
 lv: ∀s,inQ q s→ ∃k:Nat,s=(k:Int)∧k<8∧(ob os k).live=true∧s≠but
theorem QI.nil (os:List AE) (but:Int):QI os but []:=⟨List.nodup_nil,fun s h=>by simp [inQ] at h⟩
theorem QI.len {os:List AE} {but:Int} {q:Que} (h:QI os but q):q.length≤8:=by
 have:=few (n:=8) (l:=q.map (·.1)) (fun x=>x.toNat) h.nd (fun x hx=>by obtain ⟨k,h1,h2,_⟩:=h.lv x hx;omega) fun x hx y hy he=>by
  obtain ⟨k,h1,_⟩:=h.lv x hx
  obtain ⟨k',h1',_⟩:=h.lv y hy
  omega
 simpa using this
theorem QI.add {os:List AE} {but:Int} {q:Que} {p s:Int} (h:QI os but q) (hs:0≤s→s.toNat<8∧(ob os s.toNat).live=true):QI os but (G8 but q p s):=by
 unfold G8
 split
 ·exact h
 ·rename_i hn
  simp only [not_or] at hn
  refine ⟨?_,fun x hx=> ?_⟩
  ·rw [List.map_append]
   exact List.nodup_append.2 ⟨h.nd,by simp,fun a ha b hb=>by
    have hb:b=s:=by simpa using hb
    rw [hb];rintro rfl
    exact hn.2.2 ha⟩
  ·rcases O1.1 hx with hx | hx
   ·exact h.lv x hx
   ·have hx:x=s:=by simpa [inQ] using hx
    subst hx
    exact ⟨x.toNat,by omega,(hs (by omega)).1,(hs (by omega)).2,hn.2.1⟩
theorem TK {os:List AE} {x:Int}:0≤AA os x→(AA os x).toNat<8∧(ob os (AA os x).toNat).live=true:=fun h=>⟨(BH h).2.2.2.1,(BH h).2.2.2.2.1⟩
def LU (q q':Que):Prop:= ∃r,q'=q++r
theorem LU.refl (q:Que):LU q q:=⟨[],by simp⟩
theorem LU.trans {a b c:Que}:LU a b→LU b c→LU a c:=fun ⟨r,h⟩ ⟨r',h'⟩=>⟨r++r',by rw [h',h,List.append_assoc]⟩
theorem LU.add {but:Int} {q:Que} {p s:Int}:LU q (G8 but q p s):=by
 unfold G8;split
 ·exact .refl q
 ·exact ⟨_,rfl⟩
theorem LU.inq {q q':Que} {s:Int} (h:LU q q') (hs:inQ q s):inQ q' s:=by obtain ⟨r,rfl⟩:=h;exact O1.2 (.inl hs)
theorem LU.len {q q':Que} (h:LU q q'):q.length≤q'.length:=by obtain ⟨r,rfl⟩:=h;simp
theorem LU.gq {q q':Que} {i:Nat} (h:LU q q') (hi:i<q.length):gQ q' i=gQ q i:=by obtain ⟨r,rfl⟩:=h;exact NO hi
theorem vD {but:Int} {q:Que} {p s:Int} (h0:0≤s) (hb:s≠but):inQ (G8 but q p s) s:=by
 unfold G8;split
 ·rename_i h
  rcases h with h | h | h
  ·omega
  ·exact absurd h hb
  ·exact h
 ·exact O1.2 (.inr (by simp [inQ]))
theorem fX {but:Int} {q:Que} {p s x:Int} (h:inQ (G8 but q p s) x):inQ q x∨(x=s∧0≤s∧s≠but):=by
 unfold G8 at h;split at h
 ·exact .inl h
 ·rename_i hn
  simp only [not_or] at hn
  rcases O1.1 h with h | h
  ·exact .inl h
  ·exact .inr ⟨by simpa [inQ] using h,by omega,hn.2.1⟩
theorem ZF {os:List AE} {but:Int} {p:Int}: ∀{l:List Int} {q:Que},QI os but q→(∀s∈l,0≤s→s.toNat<8∧(ob os s.toNat).live=true)→
  QI os but (l.foldl (fun q' t=>G8 but q' p t) q)∧LU q (l.foldl (fun q' t=>G8 but q' p t) q)∧(∀s∈l,0≤s→s≠but→inQ (l.foldl (fun q' t=>G8 but q' p t) q) s)∧ ∀x,inQ (l.foldl (fun q' t=>G8 but q' p t) q) x→inQ q x∨(x∈l∧0≤x∧x≠but)
 | [],q,h,_=>⟨h, .refl q,by simp,fun x hx=> .inl hx⟩
 | s::l,q,h,hl=>by
   obtain ⟨h1,h2,h3,h4⟩:=ZF (p:=p) (l:=l) (q:=G8 but q p s) (h.add (hl s (by simp))) fun t ht=>hl t (by simp [ht])
   rw [List.foldl_cons]
   refine ⟨h1,LU.add.trans h2,fun t ht h0 hb=> ?_,fun x hx=> ?_⟩
   ·rcases List.mem_cons.1 ht with rfl | ht
    ·exact h2.inq (vD h0 hb)
    ·exact h3 t ht h0 hb
   ·rcases h4 x hx with hx | ⟨a,b,c⟩
    ·rcases fX hx with hx | ⟨a,b,c⟩
     ·exact .inl hx
     ·exact .inr ⟨by simp [a],by omega,by rw [a];exact c⟩
    ·exact .inr ⟨by simp [a],b,c⟩
theorem kM (os:List AE) (but:Int) (ids:List Int):FB os but ids=(ids.map (AA os)).foldl (fun q t=>G8 but q (-1) t) []:=by
 unfold FB;rw [List.foldl_map]
theorem XT (os:List AE) (but:Int) (ids:List Int):QI os but (FB os but ids)∧(∀x∈ids,0≤AA os x→AA os x≠but→inQ (FB os but ids) (AA os x))∧ ∀s,inQ (FB os but ids) s→ ∃x∈ids,AA os x=s∧0≤s∧s≠but:=by
 rw [kM]
 obtain ⟨h1,_,h3,h4⟩:=ZF (os:=os) (but:=but) (p:= -1) (l:=ids.map (AA os)) (QI.nil os but) fun s hs h0=>by
  obtain ⟨x,_,rfl⟩:=List.mem_map.1 hs
  exact TK h0
 refine ⟨h1,fun x hx h0 hb=>h3 _ (List.mem_map.2 ⟨x,hx,rfl⟩) h0 hb,fun s hs=> ?_⟩
 rcases h4 s hs with h | ⟨a,b,c⟩
 ·simp [inQ] at h
 ·obtain ⟨x,hx,rfl⟩:=List.mem_map.1 a
  exact ⟨x,hx,rfl,b,c⟩
theorem UB {os:List AE} {but:Int} {q:Que} (s:Int) (h:QI os but q):QI os but (SQ os but q s)∧LU q (SQ os but q s)∧(∀j∈BC os s.toNat,j≠but→inQ (SQ os but q s) j)∧ ∀x,inQ (SQ os but q s) x→inQ q x∨(x∈BC os s.toNat∧x≠but):=by
 obtain ⟨h1,h2,h3,h4⟩:=ZF (p:=s) (l:=BC os s.toNat) h fun t ht _=>⟨(BZ ht).2.1,(BZ ht).2.2.2.2⟩
 exact ⟨h1,h2,fun j hj hb=>h3 j hj (BZ hj).1 hb,fun x hx=>(h4 x hx).imp id fun ⟨a,_,c⟩=>⟨a,c⟩⟩
inductive P6 (os:List AE) (but:Int) (s:Nat):Nat→Prop
 | refl:P6 os but s s
 | step {k:Nat} {j:Int}:P6 os but s k→j∈BC os k→j≠but→P6 os but s j.toNat
def c8 (os:List AE) (but:Int) (ids:List Int) (k:Nat):Prop:= ∃x∈ids, ∃s:Nat,AA os x=(s:Int)∧(s:Int)≠but∧P6 os but s k
structure BI (os:List AE) (but:Int) (ids:List Int) (i:Nat) (q:Que):Prop where
 qi:QI os but q
 snd: ∀s,inQ q s→c8 os but ids s.toNat
 ini: ∀x∈ids,0≤AA os x→AA os x≠but→inQ q (AA os x)
 cls: ∀m,m<i→m<q.length→ ∀j∈BC os (gQ q m).toNat,j≠but→inQ q j
theorem BI.start (os:List AE) (but:Int) (ids:List Int):BI os but ids 0 (FB os but ids):=by
 obtain ⟨h1,h2,h3⟩:=XT os but ids
 refine ⟨h1,fun s hs=> ?_,h2,fun m hm=>by omega⟩
 obtain ⟨x,hx,rfl,h0,hb⟩:=h3 s hs
 exact ⟨x,hx,(AA os x).toNat,by omega,by rw [Int.toNat_of_nonneg h0];exact hb, .refl⟩
theorem BI.step {os:List AE} {but:Int} {ids:List Int} {i:Nat} {q:Que} (h:BI os but ids i q) (hi:i<q.length):BI os but ids (i+1) (SQ os but q (gQ q i)):=by
 obtain ⟨h1,h2,h3,h4⟩:=UB (gQ q i) h.qi
 refine ⟨h1,fun s hs=> ?_,fun x hx h0 hb=>h2.inq (h.ini x hx h0 hb),fun m hm hml j hj hb=> ?_⟩
 ·rcases h4 s hs with hs | ⟨hs,hb⟩
  ·exact h.snd s hs
  ·obtain ⟨x,hx,s',e1,e2,hr⟩:=h.snd _ (W9 hi)
   exact ⟨x,hx,s',e1,e2, .step hr hs hb⟩
 ·rcases Nat.lt_or_ge m i with hmi | hmi
  ·rw [h2.gq (by omega)] at hj
   exact h2.inq (h.cls m hmi (by omega) j hj hb)
  ·have:m=i:=by omega
   subst this
   rw [h2.gq hi] at hj
   exact h3 j hj hb
theorem BI.run {os:List AE} {but:Int} {ids:List Int}: ∀(f i:Nat) (q:Que),BI os but ids i q→8<f+i→BI os but ids (QL os but f i q).length (QL os but f i q)∧LU q (QL os but f i q)
 | 0,i,q,h,hf=>by
   have:=h.qi.len
   exact ⟨⟨h.qi,h.snd,h.ini,fun m hm hl=>h.cls m (by simp only [QL] at hl;omega) hl⟩, .refl q⟩
 | f+1,i,q,h,hf=>by
   simp only [QL]
   split
   ·rename_i hi
    obtain ⟨h1,h2⟩:=BI.run f (i+1) _ (h.step hi) (by omega)
    exact ⟨h1,(UB (gQ q i) h.qi).2.1.trans h2⟩
   ·rename_i hi
    exact ⟨⟨h.qi,h.snd,h.ini,fun m hm hl=>h.cls m (by omega) hl⟩, .refl q⟩
theorem TP (os:List AE) (but:Int) (ids:List Int):QI os but (LS os but ids)∧ ∀k:Nat,inQ (LS os but ids) (k:Int)↔c8 os but ids k:=by
 have h:BI os but ids (LS os but ids).length (LS os but ids):=(BI.run 9 0 (FB os but ids) (BI.start os but ids) (by omega)).1
 refine ⟨h.qi,fun k=>⟨fun hk=>by have:=h.snd _ hk;rwa [Int.toNat_natCast] at this, ?_⟩⟩
 rintro ⟨x,hx,s,hs,hsb,hr⟩
 have hst:inQ (LS os but ids) (s:Int):=by rw [←hs];exact h.ini x hx (by omega) (by rw [hs];exact hsb)
 induction hr with
 | refl=>exact hst
 | step hr' hj hb ih=>
   rename_i y j
   have h0:=BZ hj
   obtain ⟨p,hp,he⟩:=List.mem_map.1 ih
   obtain ⟨m,hm,rfl⟩:=List.getElem_of_mem hp
   rw [VM hm] at he
   have:=h.cls m hm hm j (by show j∈BC os (gQ _ m).toNat;rw [he,Int.toNat_natCast];exact hj) hb
   rw [←h0.2.2.1];exact this
theorem O3 {os:List AE} {s k:Nat}:P6 os (-1) s k↔Reach os s k:=by
 constructor
 ·intro h
  induction h with
  | refl=>exact .refl
  | step _ hj _ ih=>exact .step ih hj
 ·intro h
  induction h with
  | refl=>exact .refl
  | step _ hj ih=>exact .step ih hj (by have:=(BZ hj).1;omega)
end Go.Proofs.Ytklmcfpgdfibnaa.P
