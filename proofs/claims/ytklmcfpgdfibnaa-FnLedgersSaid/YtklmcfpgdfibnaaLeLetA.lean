/- A part of the proof. -/
import Derived.Test.YtklmcfpgdfibnaaLeHpFa
import Derived.Test.YtklmcfpgdfibnaaLeGcA
import Derived.Test.YtklmcfpgdfibnaaLeDrA
namespace Go.Proofs.Ytklmcfpgdfibnaa.P
open Go Go.Proofs.Ytklmcfpgdfibnaa Go.Proofs.Ytklmcfpgdfibnaa.Eng
set_option linter.unusedVariables false
section
variable {os:List AE} {ns:Nat} {buf:List Int} {k:Nat}
theorem Gd.put (h:HP os ns buf []) (k8:k<8) (hd:(ob os k).live=false) {t:Int} (g:Gd os buf):Gd (os.set k (HH ((ob os k).gen+1) t)) buf:=by
 have hol:=h.ol
 have eo: ∀i,ob (os.set k (HH ((ob os k).gen+1) t)) i=if i=k then HH ((ob os k).gen+1) t else ob os i:=fun i=>DS (by omega)
 have sl: ∀(x:Int) (s:Nat),AA os x=(s:Int)→s≠k∧AA (os.set k (HH ((ob os k).gen+1) t)) x=(s:Int):=fun x s hs=>by
  have sv:=KQ hs
  have hsk:s≠k:=fun hh=>by rw [hh,hd] at sv;cases sv.2
  refine ⟨hsk, ?_⟩
  have hb:=BG (l:=os) (id:=x) (by omega)
  have e:(x % 8).toNat=s:=by omega
  have e2:(AA os x).toNat=s:=by omega
  rw [e2] at hb
  rw [IJ hb.2.1 (by simpa using hol) (by rw [List.length_set];omega) (by rw [e,eo,if_neg hsk];exact sv.2) (by rw [e,eo,if_neg hsk];exact hb.2.2.2.2.2)]
  omega
 have kk: ∀y,(y<8∧(ob os y).live=true∧y≠k)→ ∀j∈BE os y,j∈BE (os.set k (HH ((ob os k).gen+1) t)) y∧(j.toNat<8∧(ob os j.toNat).live=true∧j.toNat≠k):=fun y ⟨y8,yv,yk⟩ j hj=>by
  have hb:=B5 hj
  obtain ⟨h0,f,hf,hs⟩:=FD.1 hj
  obtain ⟨h1,h2⟩:=sl f j.toNat (by omega)
  exact ⟨FD.2 ⟨h0,f,by rw [eo,if_neg yk];exact hf,by omega⟩,hb.2.1,hb.2.2.2.2,h1⟩
 intro y y8 yv
 by_cases hyk:y=k
 ·subst hyk
  exact .inl ⟨y,⟨k8,yv,by rw [eo,if_pos rfl];simp [HH]⟩, .refl⟩
 ·rw [eo,if_neg hyk] at yv
  rcases g y y8 yv with ⟨e,he,hr⟩ | ⟨x,hx,s,hs,hr⟩
  ·have hek:e≠k:=fun hh=>by have:=he.lv;rw [hh,hd] at this;cases this
   exact .inl ⟨e,⟨he.lt,by rw [eo,if_neg hek];exact he.lv,by rw [eo,if_neg hek];exact he.pos⟩,(hr.IX (P:=fun y=>y<8∧(ob os y).live=true∧y≠k) ⟨he.lt,he.lv,hek⟩ kk).1⟩
  ·have sv:=KQ hs
   obtain ⟨h1,h2⟩:=sl x s hs
   exact .inr ⟨x,hx,s,h2,(hr.IX (P:=fun y=>y<8∧(ob os y).live=true∧y≠k) ⟨sv.1,sv.2,h1⟩ kk).1⟩
theorem m5 {ss:List ByteArray} {s:ByteArray} (h:HP os ns buf []) (g:Gd os buf):Gd (GH os ss s).1 buf:=by
 unfold GH
 split
 ·exact g
 ·split
  ·exact g
  ·split
   ·exact g
   ·rename_i hf _
    obtain ⟨h1,h2,h3⟩:=LV hf
    have hol:=h.ol
    simp only [KB,Bool.and_eq_true,Bool.not_eq_true',decide_eq_true_eq] at h3
    have hg:=(h.obj (CO os).toNat (by omega)).gen
    simp only
    rw [H4 (n:=(ob os (CO os).toNat).gen+1) ⟨by omega,by omega⟩]
    exact g.put h (by omega) h3.1
theorem Bs (os:List AE) (P:Nat→Bool) (j:Nat):0≤S os P j:=by
 have:=J1 (n:=8) (f:=fun _=>0) (g:=fun x=>if P x then E os x j else 0) fun x hx=>by
  split
  ·exact N9 _ _ _
  ·exact Int.le_refl _
 rw [IK (fun _ _=>rfl)] at this;exact this
theorem sZ (h:HP os ns buf []) {e:Nat} (he:qK os e) (hr:Reach os e k): ¬RB os buf k∨ ∃x,Out os (fun i=>(ob os i).count) buf x∧Reach os x k:=by
 induction hr with
 | refl=>
   by_cases hb:RB os buf e
   ·right
    have:=Bs os (fun k=> !NP os buf k) e
    have:=he.pos
    exact ⟨e,⟨he.lt,hb,(h.ext he.lt he.lv).2 (by omega)⟩, .refl⟩
   ·exact .inl hb
 | step hr hj ih=>
   rename_i y j
   rcases ih with ih | ⟨x,hx,ih⟩
   ·by_cases hb:RB os buf j.toNat
    ·right
     have hjb:=B5 hj
     have yl:=hr.live ⟨he.lt,he.lv⟩
     have hm:((j.toNat:Nat):Int)∈BE os y:=by rw [←hjb.2.2.1];exact hj
     have e1:=uN (os:=os) (P:=fun k=> !NP os buf k) (j:=j.toNat) yl.1 (by simp [SY.2 ih])
     have hE:0<E os y j.toNat:=by unfold E;have:=List.count_pos_iff.2 hm;omega
     have hlv:=(h.obj j.toNat hjb.2.1).lv hjb.2.2.2.2
     exact ⟨j.toNat,⟨hjb.2.1,hb,(h.ext hjb.2.1 hjb.2.2.2.2).2 (by omega)⟩, .refl⟩
    ·exact .inl hb
   ·exact .inr ⟨x,hx, .step ih hj⟩
def Rch (os:List AE) (k:Nat):Prop:= ∃e,qK os e∧Reach os e k
theorem Rch.live {os:List AE} {k:Nat}:Rch os k→k<8∧(ob os k).live=true:=fun ⟨_,he,hr⟩=>hr.live ⟨he.lt,he.lv⟩
theorem YK (h:HP os ns buf []) (g:Gd os buf) (k8:k<8) (kv:(ob os k).live=true):HB os (fun i=>(ob os i).count) buf k=true↔ ¬Rch os k:=by
 rw [HQ]
 constructor
 ·rintro ⟨hb,hn⟩ ⟨e,he,hr⟩
  rcases sZ h he hr with h1 | h1
  ·exact h1 hb
  ·exact hn h1
 ·intro hn
  have hb: ∀y,y<8→(ob os y).live=true→ ¬Rch os y→RB os buf y:=fun y y8 yv hy=>by
   rcases g y y8 yv with hc | ⟨x,hx,s,hs,hr⟩
   ·exact absurd hc hy
   ·exact ⟨x,hx,s,hs,hr⟩
  refine ⟨hb k k8 kv hn, ?_⟩
  rintro ⟨x,⟨x8,xr,hx⟩,hr⟩
  have xv:(ob os x).live=true:=xr.live
  have hp:=(h.ext x8 xv).1 hx
  by_cases h0:0<(ob os x).holds+(ob os x).roots
  ·exact hn ⟨x,⟨x8,xv,h0⟩,hr⟩
  ·obtain ⟨p,p8,hpp,hE⟩:=qE (os:=os) (P:=fun k=> !NP os buf k) (j:=x) (by omega)
   have hpn: ¬RB os buf p:=by simp only [Bool.not_eq_true'] at hpp;exact SY.1 hpp
   have hm:=iT hE
   obtain ⟨_,f,hf,hs⟩:=FD.1 hm
   have pv:=((h.obj p p8).lead f hf (fun hh=>by rw [hh,G8 (.inl (by omega))] at hs;omega)).1
   obtain ⟨e,he,her⟩:Rch os p:=Classical.byContradiction fun hh=>hpn (hb p p8 pv hh)
   have:=Reach.step her hm
   rw [Int.toNat_natCast] at this
   exact hn ⟨e,he,this.trans hr⟩
theorem pR {W:Nat→Bool} {i:Nat} (h:W i=true):GG os W i=CA (ob os i).gen:=by
 unfold GG
 rw [show DH os W i=CA (ob os i).gen from by unfold DH;rw [if_pos h]]
 rfl
theorem eW {W:Nat→Bool} {i:Nat} (h:W i=false):(GG os W i).live=(ob os i).live∧(GG os W i).gen=(ob os i).gen∧(GG os W i).site=(ob os i).site∧(GG os W i).holds=(ob os i).holds∧(GG os W i).roots=(ob os i).roots∧(GG os W i).field=(ob os i).field:=by
 have e:DH os W i={ob os i with purple:=false}:=by unfold DH;rw [if_neg (by rw [h];decide)]
 unfold GG
 rw [e]
 split
 ·exact ⟨rfl,rfl,rfl,rfl,rfl,rfl⟩
 ·exact ⟨rfl,rfl,rfl,rfl,rfl,rfl⟩
structure yU (os os':List AE):Prop where
 len:os'.length=8
 lv: ∀k,k<8→((ob os' k).live=true↔Rch os k)
 rch: ∀k,Rch os k→Rch os' k
 sm: ∀k,k<8→Rch os k→(ob os' k).gen=(ob os k).gen∧(ob os' k).site=(ob os k).site∧(ob os' k).holds=(ob os k).holds∧(ob os' k).roots=(ob os k).roots∧(ob os' k).field=(ob os k).field
 gn: ∀k,k<8→(ob os' k).gen=(ob os k).gen
theorem fO (h:HP os ns buf []) (g:Gd os buf):yU os (F4 os buf).1:=by
 obtain ⟨W,hW⟩: ∃W,W=HB os (fun i=>(ob os i).count) buf:=⟨_,rfl⟩
 have wi: ∀k,k<8→(ob os k).live=true→(W k=true↔ ¬Rch os k):=fun k k8 kv=>by rw [hW];exact YK h g k8 kv
 have wl: ∀k,W k=true→(ob os k).live=true:=fun k hk=>by rw [hW,HQ] at hk;exact hk.1.live
 have eo: ∀i,i<8→ob (F4 os buf).1 i=GG os W i:=fun i hi=>by
  unfold F4;simp only;rw [H5 hi,hW]
 have hf: ∀k,Rch os k→W k=false:=fun k hk=>by
  cases hw:W k with
  | false=>rfl
  | true=>exact absurd hk ((wi k hk.live.1 hk.live.2).1 hw)
 have sm: ∀k,k<8→Rch os k→(ob (F4 os buf).1 k).gen=(ob os k).gen∧(ob (F4 os buf).1 k).site=(ob os k).site∧(ob (F4 os buf).1 k).holds=(ob os k).holds∧(ob (F4 os buf).1 k).roots=(ob os k).roots∧(ob (F4 os buf).1 k).field=(ob os k).field:=fun k k8 hk=>by
  rw [eo k k8];exact (eW (hf k hk)).2
 have lv: ∀k,k<8→((ob (F4 os buf).1 k).live=true↔Rch os k):=fun k k8=>by
  rw [eo k k8]
  cases hw:W k with
  | true=>
    rw [pR hw]
    exact ⟨fun hh=>(by cases hh),fun hh=>absurd hh ((wi k k8 (wl k hw)).1 hw)⟩
  | false=>
    rw [(eW hw).1]
    refine ⟨fun hv=>Classical.byContradiction fun hn=> ?_,fun hh=>hh.live.2⟩
    rw [(wi k k8 hv).2 hn] at hw;cases hw
 have hln:(F4 os buf).1.length=8:=C1 _
 refine ⟨hln,lv,fun k hk=> ?_,sm,fun k k8=> ?_⟩
 ·obtain ⟨e,he,hr⟩:=hk
  have rr:Rch os e:=⟨e,he, .refl⟩
  refine ⟨e,⟨he.lt,(lv e he.lt).2 rr,by rw [(sm e he.lt rr).2.2.1,(sm e he.lt rr).2.2.2.1];exact he.pos⟩,(hr.IX (P:=Rch os) rr fun y hy j hj=> ?_).1⟩
  have hb:=B5 hj
  obtain ⟨e',he',hr'⟩:=hy
  have rj:Rch os j.toNat:=⟨e',he', .step hr' hj⟩
  have hy:Rch os y:=⟨e',he',hr'⟩
  obtain ⟨h0,f,hf',hs⟩:=FD.1 hj
  have hfb:=BG (l:=os) (id:=f) (by omega)
  have ej:(f % 8).toNat=j.toNat:=by omega
  have ej2:(AA os f).toNat=j.toNat:=by omega
  rw [ej2] at hfb
  refine ⟨FD.2 ⟨h0,f,by rw [(sm y hy.live.1 hy).2.2.2.2];exact hf', ?_⟩,rj⟩
  rw [IJ hfb.2.1 hln (by rw [hln];omega) (by rw [ej];exact (lv _ hb.2.1).2 rj) (by rw [ej,(sm _ hb.2.1 rj).1];exact hfb.2.2.2.2.2)]
  omega
 ·rw [eo k k8]
  cases hw:W k with
  | true=>rw [pR hw];rfl
  | false=>exact (eW hw).2.1
theorem rA (h:HP os ns buf []) (g:Gd os buf):Gd (F4 os buf).1 []:=fun k k8 kv=>by
 have R:=fO h g
 exact .inl (R.rch k ((R.lv k k8).1 kv))
end
theorem BO.gd {h:Hp} {o:Op5} (hk:BO h) (g:Gd h.AD h.buffer):Gd (CG h o).1.AD (CG h o).1.buffer:=by
 have hp:=hk.hp
 unfold CG
 split
 ·exact m5 hp g
 ·split
  ·exact (hp.W0 (id:=o.a) (kd:=o.kind)).gd g
  ·split
   ·exact (hp.SL (a:=o.a) (b:=o.b) (c:=o.c)).gd g
   ·split
    ·exact g
    ·split
     ·exact g
     ·split
      ·exact rA hp g
      ·exact g
theorem vL:Gd hp0.AD hp0.buffer:=fun k k8 kv=>by
 have:ob hp0.AD k=CA 0:=by
  unfold hp0 ob;simp only;rw [List.getD_eq_getElem?_getD,List.getElem?_replicate,if_pos k8];rfl
 rw [this] at kv;cases kv
theorem aX (l:List Op5): ∀i,Gd (DV l i).1.AD (DV l i).1.buffer
 | 0=>vL
 | i+1=>(I9 l i).1.gd (aX l i)
end Go.Proofs.Ytklmcfpgdfibnaa.P
namespace Go.Proofs.Ytklmcfpgdfibnaa.P
open Go Go.Proofs.Ytklmcfpgdfibnaa Go.Proofs.Ytklmcfpgdfibnaa.Eng
set_option linter.unusedVariables false
set_option maxHeartbeats 4000000
set_option linter.unusedVariables false
set_option linter.unusedSimpArgs false
attribute [local irreducible] prP gP gE gF AJ ixW ldc ldg ldl stc stg scW mkW apW A6 cl2 BF CM CB
variable {w0:World}
structure zK (x:Hp):Prop where
 fits:Fits x
 lT:V5 x
 gd:BO x→Gd x.AD x.buffer
 of: ∀o∈x.AD,OF o
theorem zK.ok {x:Hp} (h:BO x) (g:Gd x.AD x.buffer):zK x:=⟨h.fits,h.lT,fun _=>g,(h.st h.lT).of⟩
theorem Gd.as {a b:List AE} {L:List Int} (g:Gd a L) (h: ∀i,i<8→(ob b i).live=(ob a i).live∧(ob b i).holds=(ob a i).holds∧(ob b i).roots=(ob a i).roots) (hk: ∀y,y<8→BE b y=BE a y) (hs: ∀x∈L,AA b x=AA a x):Gd b L:=fun k k8 kv=>by
 have kr: ∀{s y},s<8∧(ob a s).live=true→Reach a s y→Reach b s y:=fun hs hr=>(hr.IX (P:=fun y=>y<8) hs.1 fun y hy j hj=>⟨by rw [hk y hy];exact hj,(B5 hj).2.1⟩).1
 rcases g k k8 (by rw [←(h k k8).1];exact kv) with ⟨e,he,hr⟩ | ⟨x,hx,s,hsx,hr⟩
 ·exact .inl ⟨e,⟨he.lt,by rw [(h e he.lt).1];exact he.lv,by rw [(h e he.lt).2.1,(h e he.lt).2.2];exact he.pos⟩,kr ⟨he.lt,he.lv⟩ hr⟩
 ·exact .inr ⟨x,hx,s,by rw [hs x hx];exact hsx,kr (KQ hsx) hr⟩
end Go.Proofs.Ytklmcfpgdfibnaa.P
namespace Go.Proofs.Ytklmcfpgdfibnaa.P
open Go Go.Proofs.Ytklmcfpgdfibnaa Go.Proofs.Ytklmcfpgdfibnaa.Eng
set_option linter.unusedVariables false
abbrev Que:=List (Int×Int)
def inQ (q:Que) (s:Int):Prop:=s∈q.map (·.1)
instance (q:Que) (s:Int):Decidable (inQ q s):=inferInstanceAs (Decidable (_∈_))
def L6 (but:Int) (q:Que) (p s:Int):Que:=if s<0∨s=but∨inQ q s then q else q++[(s,p)]
def II (os:List AE) (but:Int) (ids:List Int):Que:=ids.foldl (fun q x=>L6 but q (-1) (AA os x)) []
def U8 (os:List AE) (but:Int) (q:Que) (s:Int):Que:=(BE os s.toNat).foldl (fun q' t=>L6 but q' s t) q
def gQ (q:Que) (i:Nat):Int:=(q.getD i (0,0)).1
def U6 (os:List AE) (but:Int):Nat→Nat→Que→Que
 | 0,_,q=>q
 | f+1,i,q=>if i<q.length then U6 os but f (i+1) (U8 os but q (gQ q i)) else q
def dR (os:List AE) (but:Int) (ids:List Int):Que:=U6 os but 9 0 (II os but ids)
theorem T7 {q r:Que} {s:Int}:inQ (q++r) s↔inQ q s∨inQ r s:=by unfold inQ;rw [List.map_append,List.mem_append]
theorem XT {q:Que} {i:Nat} (h:i<q.length):(q[i]).1=gQ q i:=by simp [gQ,h]
theorem iI {q:Que} {i:Nat} (h:i<q.length):inQ q (gQ q i):=by
 rw [←XT h];exact List.mem_map.2 ⟨_,List.getElem_mem h,rfl⟩
theorem OS {q r:Que} {i:Nat} (h:i<q.length):gQ (q++r) i=gQ q i:=by
 unfold gQ;rw [List.getD_eq_getElem?_getD,List.getElem?_append_left h,List.getD_eq_getElem?_getD]
structure QI (os:List AE) (but:Int) (q:Que):Prop where
 nd:(q.map (·.1)).Nodup
 lv: ∀s,inQ q s→ ∃k:Nat,s=(k:Int)∧k<8∧(ob os k).live=true∧s≠but
theorem QI.nil (os:List AE) (but:Int):QI os but []:=⟨List.nodup_nil,fun s h=>by simp [inQ] at h⟩
theorem QI.len {os:List AE} {but:Int} {q:Que} (h:QI os but q):q.length≤8:=by
 have:=few (n:=8) (l:=q.map (·.1)) (fun x=>x.toNat) h.nd (fun x hx=>by obtain ⟨k,h1,h2,_⟩:=h.lv x hx;omega) fun x hx y hy he=>by
  obtain ⟨k,h1,_⟩:=h.lv x hx
  obtain ⟨k',h1',_⟩:=h.lv y hy
  omega
 simpa using this
theorem QI.add {os:List AE} {but:Int} {q:Que} {p s:Int} (h:QI os but q) (hs:0≤s→s.toNat<8∧(ob os s.toNat).live=true):QI os but (L6 but q p s):=by
 unfold L6
 split
 ·exact h
 ·rename_i hn
  simp only [not_or] at hn
  refine ⟨?_,fun x hx=> ?_⟩
  ·rw [List.map_append]
   exact List.nodup_append.2 ⟨h.nd,by simp,fun a ha b hb=>by
    have hb:b=s:=by simpa using hb
    rw [hb];rintro rfl
    exact hn.2.2 ha⟩
  ·rcases T7.1 hx with hx | hx
   ·exact h.lv x hx
   ·have hx:x=s:=by simpa [inQ] using hx
    subst hx
    exact ⟨x.toNat,by omega,(hs (by omega)).1,(hs (by omega)).2,hn.2.1⟩
theorem ZD {os:List AE} {x:Int}:0≤AA os x→(AA os x).toNat<8∧(ob os (AA os x).toNat).live=true:=fun h=>⟨(BG h).2.2.2.1,(BG h).2.2.2.2.1⟩
def MZ (q q':Que):Prop:= ∃r,q'=q++r
theorem MZ.refl (q:Que):MZ q q:=⟨[],by simp⟩
theorem MZ.trans {a b c:Que}:MZ a b→MZ b c→MZ a c:=fun ⟨r,h⟩ ⟨r',h'⟩=>⟨r++r',by rw [h',h,List.append_assoc]⟩
theorem MZ.add {but:Int} {q:Que} {p s:Int}:MZ q (L6 but q p s):=by
 unfold L6;split
 ·exact .refl q
 ·exact ⟨_,rfl⟩
theorem MZ.inq {q q':Que} {s:Int} (h:MZ q q') (hs:inQ q s):inQ q' s:=by obtain ⟨r,rfl⟩:=h;exact T7.2 (.inl hs)
theorem MZ.len {q q':Que} (h:MZ q q'):q.length≤q'.length:=by obtain ⟨r,rfl⟩:=h;simp
theorem MZ.gq {q q':Que} {i:Nat} (h:MZ q q') (hi:i<q.length):gQ q' i=gQ q i:=by obtain ⟨r,rfl⟩:=h;exact OS hi
theorem wQ {but:Int} {q:Que} {p s:Int} (h0:0≤s) (hb:s≠but):inQ (L6 but q p s) s:=by
 unfold L6;split
 ·rename_i h
  rcases h with h | h | h
  ·omega
  ·exact absurd h hb
  ·exact h
 ·exact T7.2 (.inr (by simp [inQ]))
theorem j0 {but:Int} {q:Que} {p s x:Int} (h:inQ (L6 but q p s) x):inQ q x∨(x=s∧0≤s∧s≠but):=by
 unfold L6 at h;split at h
 ·exact .inl h
 ·rename_i hn
  simp only [not_or] at hn
  rcases T7.1 h with h | h
  ·exact .inl h
  ·exact .inr ⟨by simpa [inQ] using h,by omega,hn.2.1⟩
theorem aM {os:List AE} {but:Int} {p:Int}: ∀{l:List Int} {q:Que},QI os but q→(∀s∈l,0≤s→s.toNat<8∧(ob os s.toNat).live=true)→
  QI os but (l.foldl (fun q' t=>L6 but q' p t) q)∧MZ q (l.foldl (fun q' t=>L6 but q' p t) q)∧(∀s∈l,0≤s→s≠but→inQ (l.foldl (fun q' t=>L6 but q' p t) q) s)∧ ∀x,inQ (l.foldl (fun q' t=>L6 but q' p t) q) x→inQ q x∨(x∈l∧0≤x∧x≠but)
 | [],q,h,_=>⟨h, .refl q,by simp,fun x hx=> .inl hx⟩
 | s::l,q,h,hl=>by
   obtain ⟨h1,h2,h3,h4⟩:=aM (p:=p) (l:=l) (q:=L6 but q p s) (h.add (hl s (by simp))) fun t ht=>hl t (by simp [ht])
   rw [List.foldl_cons]
   refine ⟨h1,MZ.add.trans h2,fun t ht h0 hb=> ?_,fun x hx=> ?_⟩
   ·rcases List.mem_cons.1 ht with rfl | ht
    ·exact h2.inq (wQ h0 hb)
    ·exact h3 t ht h0 hb
   ·rcases h4 x hx with hx | ⟨a,b,c⟩
    ·rcases j0 hx with hx | ⟨a,b,c⟩
     ·exact .inl hx
     ·exact .inr ⟨by simp [a],by omega,by rw [a];exact c⟩
    ·exact .inr ⟨by simp [a],b,c⟩
theorem l8 (os:List AE) (but:Int) (ids:List Int):II os but ids=(ids.map (AA os)).foldl (fun q t=>L6 but q (-1) t) []:=by
 unfold II;rw [List.foldl_map]
theorem l9 (os:List AE) (but:Int) (ids:List Int):QI os but (II os but ids)∧(∀x∈ids,0≤AA os x→AA os x≠but→inQ (II os but ids) (AA os x))∧ ∀s,inQ (II os but ids) s→ ∃x∈ids,AA os x=s∧0≤s∧s≠but:=by
 rw [l8]
 obtain ⟨h1,_,h3,h4⟩:=aM (os:=os) (but:=but) (p:= -1) (l:=ids.map (AA os)) (QI.nil os but) fun s hs h0=>by
  obtain ⟨x,_,rfl⟩:=List.mem_map.1 hs
  exact ZD h0
 refine ⟨h1,fun x hx h0 hb=>h3 _ (List.mem_map.2 ⟨x,hx,rfl⟩) h0 hb,fun s hs=> ?_⟩
 rcases h4 s hs with h | ⟨a,b,c⟩
 ·simp [inQ] at h
 ·obtain ⟨x,hx,rfl⟩:=List.mem_map.1 a
  exact ⟨x,hx,rfl,b,c⟩
theorem VM {os:List AE} {but:Int} {q:Que} (s:Int) (h:QI os but q):QI os but (U8 os but q s)∧MZ q (U8 os but q s)∧(∀j∈BE os s.toNat,j≠but→inQ (U8 os but q s) j)∧ ∀x,inQ (U8 os but q s) x→inQ q x∨(x∈BE os s.toNat∧x≠but):=by
 obtain ⟨h1,h2,h3,h4⟩:=aM (p:=s) (l:=BE os s.toNat) h fun t ht _=>⟨(B5 ht).2.1,(B5 ht).2.2.2.2⟩
 exact ⟨h1,h2,fun j hj hb=>h3 j hj (B5 hj).1 hb,fun x hx=>(h4 x hx).imp id fun ⟨a,_,c⟩=>⟨a,c⟩⟩
inductive QF (os:List AE) (but:Int) (s:Nat):Nat→Prop
 | refl:QF os but s s
 | step {k:Nat} {j:Int}:QF os but s k→j∈BE os k→j≠but→QF os but s j.toNat
def o5 (os:List AE) (but:Int) (ids:List Int) (k:Nat):Prop:= ∃x∈ids, ∃s:Nat,AA os x=(s:Int)∧(s:Int)≠but∧QF os but s k
structure BI (os:List AE) (but:Int) (ids:List Int) (i:Nat) (q:Que):Prop where
 qi:QI os but q
 snd: ∀s,inQ q s→o5 os but ids s.toNat
 ini: ∀x∈ids,0≤AA os x→AA os x≠but→inQ q (AA os x)
 cls: ∀m,m<i→m<q.length→ ∀j∈BE os (gQ q m).toNat,j≠but→inQ q j
theorem BI.start (os:List AE) (but:Int) (ids:List Int):BI os but ids 0 (II os but ids):=by
 obtain ⟨h1,h2,h3⟩:=l9 os but ids
 refine ⟨h1,fun s hs=> ?_,h2,fun m hm=>by omega⟩
 obtain ⟨x,hx,rfl,h0,hb⟩:=h3 s hs
 exact ⟨x,hx,(AA os x).toNat,by omega,by rw [Int.toNat_of_nonneg h0];exact hb, .refl⟩
theorem BI.step {os:List AE} {but:Int} {ids:List Int} {i:Nat} {q:Que} (h:BI os but ids i q) (hi:i<q.length):BI os but ids (i+1) (U8 os but q (gQ q i)):=by
 obtain ⟨h1,h2,h3,h4⟩:=VM (gQ q i) h.qi
 refine ⟨h1,fun s hs=> ?_,fun x hx h0 hb=>h2.inq (h.ini x hx h0 hb),fun m hm hml j hj hb=> ?_⟩
 ·rcases h4 s hs with hs | ⟨hs,hb⟩
  ·exact h.snd s hs
  ·obtain ⟨x,hx,s',e1,e2,hr⟩:=h.snd _ (iI hi)
   exact ⟨x,hx,s',e1,e2, .step hr hs hb⟩
 ·rcases Nat.lt_or_ge m i with hmi | hmi
  ·rw [h2.gq (by omega)] at hj
   exact h2.inq (h.cls m hmi (by omega) j hj hb)
  ·have:m=i:=by omega
   subst this
   rw [h2.gq hi] at hj
   exact h3 j hj hb
theorem BI.run {os:List AE} {but:Int} {ids:List Int}: ∀(f i:Nat) (q:Que),BI os but ids i q→8<f+i→BI os but ids (U6 os but f i q).length (U6 os but f i q)∧MZ q (U6 os but f i q)
 | 0,i,q,h,hf=>by
   have:=h.qi.len
   exact ⟨⟨h.qi,h.snd,h.ini,fun m hm hl=>h.cls m (by simp only [U6] at hl;omega) hl⟩, .refl q⟩
 | f+1,i,q,h,hf=>by
   simp only [U6]
   split
   ·rename_i hi
    obtain ⟨h1,h2⟩:=BI.run f (i+1) _ (h.step hi) (by omega)
    exact ⟨h1,(VM (gQ q i) h.qi).2.1.trans h2⟩
   ·rename_i hi
    exact ⟨⟨h.qi,h.snd,h.ini,fun m hm hl=>h.cls m (by omega) hl⟩, .refl q⟩
theorem rD (os:List AE) (but:Int) (ids:List Int):QI os but (dR os but ids)∧ ∀k:Nat,inQ (dR os but ids) (k:Int)↔o5 os but ids k:=by
 have h:BI os but ids (dR os but ids).length (dR os but ids):=(BI.run 9 0 (II os but ids) (BI.start os but ids) (by omega)).1
 refine ⟨h.qi,fun k=>⟨fun hk=>by have:=h.snd _ hk;rwa [Int.toNat_natCast] at this, ?_⟩⟩
 rintro ⟨x,hx,s,hs,hsb,hr⟩
 have hst:inQ (dR os but ids) (s:Int):=by rw [←hs];exact h.ini x hx (by omega) (by rw [hs];exact hsb)
 induction hr with
 | refl=>exact hst
 | step hr' hj hb ih=>
   rename_i y j
   have h0:=B5 hj
   obtain ⟨p,hp,he⟩:=List.mem_map.1 ih
   obtain ⟨m,hm,rfl⟩:=List.getElem_of_mem hp
   rw [XT hm] at he
   have:=h.cls m hm hm j (by show j∈BE os (gQ _ m).toNat;rw [he,Int.toNat_natCast];exact hj) hb
   rw [←h0.2.2.1];exact this
theorem XP {os:List AE} {s k:Nat}:QF os (-1) s k↔Reach os s k:=by
 constructor
 ·intro h
  induction h with
  | refl=>exact .refl
  | step _ hj _ ih=>exact .step ih hj
 ·intro h
  induction h with
  | refl=>exact .refl
  | step _ hj ih=>exact .step ih hj (by have:=(B5 hj).1;omega)
end Go.Proofs.Ytklmcfpgdfibnaa.P
namespace Go.Proofs.Ytklmcfpgdfibnaa.P
open Go Go.Proofs.Ytklmcfpgdfibnaa Go.Proofs.Ytklmcfpgdfibnaa.Eng
set_option linter.unusedVariables false
set_option maxHeartbeats 4000000
set_option linter.unusedVariables false
set_option linter.unusedSimpArgs false
attribute [local irreducible] prP gP gE gF AJ ixW ldc ldg ldl stc stg scW mkW apW A6 cl2 BF CM CB
variable {w0:World}
def lR (os:List AE) (s:Int):Int:=s+8*(ob os s.toNat).gen
def q9 (os:List AE) (q:Que):List Int:=q.map fun e=>lR os e.1
theorem U3 {os:List AE} {x:Int} (h:0≤AA os x):x=lR os (AA os x):=by
 have hb:=BG h
 unfold lR;omega
theorem pP {os:List AE} {but:Int} {q:Que} (h:QI os but q) {x:Int} (hx:0≤AA os x):x∈q9 os q↔inQ q (AA os x):=by
 unfold q9 inQ
 simp only [List.mem_map]
 constructor
 ·rintro ⟨e,he,hr⟩
  obtain ⟨k,h1,k8,_⟩:=h.lv e.1 (List.mem_map.2 ⟨e,he,rfl⟩)
  have:=(BG hx).2.2.1
  refine ⟨e,he, ?_⟩
  unfold lR at hr
  omega
 ·rintro ⟨e,he,hr⟩
  exact ⟨e,he,by rw [hr];exact (U3 hx).symm⟩
structure QB (os:List AE) (b:Int) (q:Que):Prop where
 qi:QI os (AA os b) q
 rid: ∀s,inQ q s→AA os (lR os s)=s
theorem QB.nil (os:List AE) (b:Int):QB os b []:=⟨QI.nil _ _,fun s h=>by simp [inQ] at h⟩
theorem QB.add {os:List AE} {b:Int} {q:Que} {p:Int} (h:QB os b q) (x:Int):QB os b (L6 (AA os b) q p (AA os x)):=by
 refine ⟨h.qi.add fun h0=>ZD h0,fun s hs=> ?_⟩
 rcases j0 hs with hs | ⟨rfl,h0,_⟩
 ·exact h.rid s hs
 ·rw [←U3 h0]
theorem QK {l:List Int} {i:Nat} (hi:i<l.length) {α:Type} (f:α→Int→α) (a:α):(l.take (i+1)).foldl f a=f ((l.take i).foldl f a) (gI l i):=by
 rw [List.take_succ_eq_append_getElem hi,List.foldl_append,EN hi];rfl
theorem WY {os:List AE} {b:Int} {ids:List Int}: ∀i,i≤ids.length→QB os b (II os (AA os b) (ids.take i))
 | 0,_=>by simp [II];exact QB.nil _ _
 | i+1,hi=>by
   unfold II
   rw [QK (by omega)]
   exact (WY i (by omega)).add _
end Go.Proofs.Ytklmcfpgdfibnaa.P
namespace Go.Proofs.Ytklmcfpgdfibnaa.P
open Go Go.Proofs.Ytklmcfpgdfibnaa Go.Proofs.Ytklmcfpgdfibnaa.Eng
set_option linter.unusedVariables false
set_option maxHeartbeats 4000000
set_option linter.unusedVariables false
set_option linter.unusedSimpArgs false
attribute [local irreducible] prP gP gE gF AJ ixW ldc ldg ldl stc stg scW mkW apW A6 cl2 BF CM CB
variable {w0:World}
theorem J9 {α:Type} {f:Nat→List α} {x:α}: ∀{n:Nat},x∈pick f n↔ ∃i,i<n∧x∈f i
 | 0=>by simp [pick]
 | n+1=>by
   rw [pick,List.mem_append,J9]
   constructor
   ·rintro (⟨i,h1,h2⟩ | h)
    ·exact ⟨i,by omega,h2⟩
    ·exact ⟨n,by omega,h⟩
   ·rintro ⟨i,h1,h2⟩
    rcases Nat.lt_or_ge i n with h | h
    ·exact .inl ⟨i,h,h2⟩
    ·have:i=n:=by omega
     subst this;exact .inr h2
theorem R9 {os:List AE} {k:Nat} (hol:os.length=8) (k8:k<8) (kv:(ob os k).live=true):B2 k (ob os k).gen∈JD os:=
 J9.2 ⟨k,by omega,by unfold HE;rw [if_pos ⟨by omega,kv⟩];simp⟩
theorem l6 {os:List AE} (h: ∀k,k<8→(ob os k).live=false):JD os=[]:=by
 refine List.eq_nil_iff_forall_not_mem.2 fun x hx=> ?_
 obtain ⟨i,_,hi⟩:=J9.1 hx
 unfold HE at hi
 split at hi
 ·rename_i hh
  have:=h i (by omega)
  rw [hh.2] at this;cases this
 ·cases hi
structure Sub (a b:List AE):Prop where
 la:a.length=8
 lb:b.length=8
 lv: ∀i,i<8→(ob b i).live=true→(ob a i).live=true∧(ob b i).gen=(ob a i).gen
theorem Sub.refl {a:List AE} (h:a.length=8):Sub a a:=⟨h,h,fun _ _ h=>⟨h,rfl⟩⟩
theorem Sub.trans {a b c:List AE} (h:Sub a b) (h':Sub b c):Sub a c:=⟨h.la,h'.lb,fun i hi hv=>by
 obtain ⟨x,y⟩:=h'.lv i hi hv
 obtain ⟨u,v⟩:=h.lv i hi x
 exact ⟨u,by rw [y,v]⟩⟩
theorem Sub.slot {a b:List AE} (h:Sub a b) {x:Int} {k:Nat} (hs:AA b x=(k:Int)):AA a x=(k:Int):=by
 have hb:=BG (l:=b) (id:=x) (by omega)
 have ek:(AA b x).toNat=k:=by omega
 rw [ek] at hb
 obtain ⟨_,b1,b2,k8,kv,kg⟩:=hb
 obtain ⟨u,v⟩:=h.lv k k8 kv
 have e:(x % 8).toNat=k:=by omega
 rw [IJ b1 h.la (by have:=h.la;omega) (by rw [e];exact u) (by rw [e, ←v];exact kg)]
 omega
abbrev hr_ (os:List AE) (k:Nat):Int:=(ob os k).holds+(ob os k).roots
theorem BO.hr0 {x:Hp} (hk:BO x) {id:Int} {k:Nat} (hs:AA x.AD id=(k:Int)):(0≤(ob x.AD k).holds∧(ob x.AD k).holds≤20)∧(0≤(ob x.AD k).roots∧(ob x.AD k).roots≤20):=(hk.hp.QA hs).2.2.2
theorem xL {os:List AE} {buf:List Int} {ns:Nat} {id:Int} {k:Nat} (h:HP os ns buf []) (hk:AA os id=(k:Int)) {v:AE} (ev:v={ob os k with holds:=v.holds,roots:=v.roots}) (v4:0≤v.holds∧v.holds≤20) (v5:0≤v.roots∧v.roots≤20) (hs:v.holds+v.roots+1=hr_ os k):
  IN (os.set k v) (EZ (os.set k v) buf [id]).1 (EZ (os.set k v) buf [id]).2.2:=by
 have hls:0≤AA os id:=by omega
 obtain ⟨c1,c2,c3,_,_⟩:=h.QA hk
 have e1:v.count=(ob os k).count:=by rw [ev]
 have h1:=h.upd (pd':=[id]) (v:=v) hk (by rw [ev]) (by rw [ev]) (by rw [ev]) v4 v5 (by rw [ev]) (by rw [ev]) (by simp only [List.count_singleton_self];simp only [hr_] at hs;omega) (by omega) (fun x hx=>by simp [Ne.symm hx]) (by simpa using hls)
 exact aR h1
theorem rN {x:Hp} (hk:BO x) {id kd:Int} {k:Nat} {s:ByteArray} (hs:AA x.AD id=(k:Int)) (h0:hr_ x.AD k≠0) (hkd:(kd=6∧(ob x.AD k).holds=0)∨(kd=3∧(ob x.AD k).holds≠0)):
  (CG x ⟨kd,id,0,0,s⟩).2.code=0∧Sub x.AD (CG x ⟨kd,id,0,0,s⟩).1.AD∧ ∀i,i<8→(ob (CG x ⟨kd,id,0,0,s⟩).1.AD i).live=true→hr_ (CG x ⟨kd,id,0,0,s⟩).1.AD i=hr_ x.AD i-(if i=k then 1 else 0):=by
 have hp:=hk.hp
 have hol:=hk.ol
 obtain ⟨b1,b2⟩:=hk.hr0 hs
 have k8:k<8:=(hp.me hs).1
 have hkl:k<x.AD.length:=by omega
 have e:AA x.AD id=((k:Nat):Int):=hs
 have fin: ∀v:AE,v={ob x.AD k with holds:=v.holds,roots:=v.roots}→(0≤v.holds∧v.holds≤20)→(0≤v.roots∧v.roots≤20)→v.holds+v.roots+1=hr_ x.AD k→
   Sub x.AD (EZ (x.AD.set k v) x.buffer [id]).1∧ ∀i,i<8→(ob (EZ (x.AD.set k v) x.buffer [id]).1 i).live=true→hr_ (EZ (x.AD.set k v) x.buffer [id]).1 i=hr_ x.AD i-(if i=k then 1 else 0):=fun v ev v4 v5 hsum=>by
  have R:=xL hp hs ev v4 v5 hsum
  have eo: ∀i,ob (x.AD.set k v) i=if i=k then v else ob x.AD i:=fun i=>DS hkl
  refine ⟨⟨hol,R.len,fun i hi hv=> ?_⟩,fun i hi hv=> ?_⟩
  ·obtain ⟨a,_⟩:=R.sm i hi hv
   have g:=R.gn i hi
   rw [eo] at a g
   split at a
   ·rename_i he;subst he
    rw [if_pos rfl] at g
    have vl:v.live=(ob x.AD i).live:=by rw [ev]
    have vg:v.gen=(ob x.AD i).gen:=by rw [ev]
    exact ⟨by rw [←vl];exact a,by rw [g,vg]⟩
   ·rename_i he
    rw [if_neg he] at g
    exact ⟨a,g⟩
  ·obtain ⟨_,_,a,b,_⟩:=R.sm i hi hv
   simp only [hr_]
   rw [a,b,eo]
   split
   ·rename_i he;subst he;simp only [hr_] at hsum;omega
   ·omega
 rcases hkd with ⟨rfl,hz⟩ | ⟨rfl,hz⟩
 ·have es:CG x ⟨6,id,0,0,s⟩=(⟨(FH x.AD x.buffer 6 id).1,x.B6,(FH x.AD x.buffer 6 id).2.1,x.sites⟩,(FH x.AD x.buffer 6 id).2.2):=by simp [CG]
  have hr:(ob x.AD k).roots≠0:=by simp only [hr_] at h0;omega
  have eh:FH x.AD x.buffer 6 id=NS (EZ (x.AD.set k {ob x.AD k with roots:=(ob x.AD k).roots-1}) x.buffer [id]):=by
   unfold FH
   rw [e,Int.toNat_natCast,if_neg (by omega),if_neg (by decide),if_neg (by decide),if_neg (by decide),if_neg hr]
  rw [es,eh]
  exact ⟨rfl,fin _ rfl (by simp only;omega) (by simp only;omega) (by simp only [hr_];omega)⟩
 ·have es:CG x ⟨3,id,0,0,s⟩=(⟨(FH x.AD x.buffer 3 id).1,x.B6,(FH x.AD x.buffer 3 id).2.1,x.sites⟩,(FH x.AD x.buffer 3 id).2.2):=by simp [CG]
  have eh:FH x.AD x.buffer 3 id=NS (EZ (x.AD.set k {ob x.AD k with holds:=(ob x.AD k).holds-1}) x.buffer [id]):=by
   unfold FH
   rw [e,Int.toNat_natCast,if_neg (by omega),if_neg (by decide),if_neg (by decide),if_pos rfl,if_neg hz]
  rw [es,eh]
  exact ⟨rfl,fin _ rfl (by simp only;omega) (by simp only;omega) (by simp only [hr_];omega)⟩
theorem lZ (x:Hp) (s:ByteArray):CG x ⟨10,0,0,0,s⟩=(⟨(F4 x.AD x.buffer).1,x.B6,[],x.sites⟩,⟨0,0,(F4 x.AD x.buffer).2⟩):=by simp [CG]
structure oM (h0:Hp) (i:Nat) (x:Hp):Prop where
 ok:BO x
 gd:Gd x.AD x.buffer
 sub:Sub h0.AD x.AD
 dn: ∀j,j<i→ ∀k:Nat,AA x.AD (gI (JD h0.AD) j)=(k:Int)→hr_ x.AD k=0
theorem oM.drop {h0 x:Hp} {i:Nat} (h:oM h0 i x) {id kd:Int} {k:Nat} {s:ByteArray} (hs:AA x.AD id=(k:Int)) (hz:hr_ x.AD k≠0) (hkd:(kd=6∧(ob x.AD k).holds=0)∨(kd=3∧(ob x.AD k).holds≠0)):
  (CG x ⟨kd,id,0,0,s⟩).2.code=0∧oM h0 i (CG x ⟨kd,id,0,0,s⟩).1∧ ∀v:Int, ∀m:Nat,AA (CG x ⟨kd,id,0,0,s⟩).1.AD v=(m:Int)→AA x.AD v=(m:Int)∧hr_ (CG x ⟨kd,id,0,0,s⟩).1.AD m=hr_ x.AD m-(if m=k then 1 else 0):=by
 obtain ⟨c,S,H⟩:=rN (s:=s) h.ok hs hz hkd
 have back: ∀v:Int, ∀m:Nat,AA (CG x ⟨kd,id,0,0,s⟩).1.AD v=(m:Int)→AA x.AD v=(m:Int)∧hr_ (CG x ⟨kd,id,0,0,s⟩).1.AD m=hr_ x.AD m-(if m=k then 1 else 0):=fun v m hm=>by
  have hl:=KQ hm
  exact ⟨S.slot hm,H m hl.1 hl.2⟩
 refine ⟨c,⟨h.ok.step,h.ok.gd h.gd,h.sub.trans S,fun j hj m hm=> ?_⟩,back⟩
 obtain ⟨a,b⟩:=back _ m hm
 have z:=h.dn j hj m a
 have p:=h.ok.step.hr0 hm
 simp only [hr_] at b z p ⊢
 split at b <;> omega
theorem oM.fin {h0 x:Hp} (h:oM h0 (JD h0.AD).length x) (s:ByteArray):JD (CG x ⟨10,0,0,0,s⟩).1.AD=[]:=by
 rw [lZ]
 have hp:=h.ok.hp
 have R:=fO hp h.gd
 refine l6 fun k k8=> ?_
 cases hv:(ob (F4 x.AD x.buffer).1 k).live with
 | false=>rfl
 | true=>
   exfalso
   obtain ⟨e,he,_⟩:=(R.lv k k8).1 hv
   obtain ⟨u,v⟩:=h.sub.lv e he.lt he.lv
   have hm:=R9 h.sub.la he.lt u
   rw [←v] at hm
   obtain ⟨j,hj,ej⟩:=List.getElem_of_mem hm
   rw [EN hj] at ej
   have hoe:=(hp.obj e he.lt)
   have sl:=DQ h.ok.ol he.lt he.lv (hoe.lv he.lv).1 hoe.gen.2
   rw [←ej] at sl
   have z:=h.dn j hj e sl
   have p:=he.pos
   simp only [hr_] at z;omega
end Go.Proofs.Ytklmcfpgdfibnaa.P
