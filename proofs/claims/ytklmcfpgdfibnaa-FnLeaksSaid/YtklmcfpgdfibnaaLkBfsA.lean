/- A part of the proof. -/
import Derived.Test.YtklmcfpgdfibnaaLkRecD
import Derived.Test.YtklmcfpgdfibnaaLkRowB
import Derived.Test.YtklmcfpgdfibnaaLkHpFa
import Derived.Test.YtklmcfpgdfibnaaLkDrA
namespace Go.Proofs.Ytklmcfpgdfibnaa.P
open Go Go.Proofs.Ytklmcfpgdfibnaa Go.Proofs.Ytklmcfpgdfibnaa.Eng
set_option linter.unusedVariables false
set_option maxHeartbeats 4000000
set_option linter.unusedVariables false
set_option linter.unusedSimpArgs false
attribute [local irreducible] prP gP gE gF A6 ixW ldc ldg ldl stc stg scW mkW apW BD cl2 BP C3 B9
variable {w0:World}
theorem fB {L:List Int} {K:J2} (h:K [.bool (decide ((L.length:Int)>1048576))] []):cl2 ⟨Try.prog,w0⟩ 17 JV.sg [] [tY L] K:=by
 refine JV.cl2 ?_
 unfold JV.txt
 rw [eT]
 exact JJ h
end Go.Proofs.Ytklmcfpgdfibnaa.P
namespace Go.Proofs.Ytklmcfpgdfibnaa.P
open Go Go.Proofs.Ytklmcfpgdfibnaa Go.Proofs.Ytklmcfpgdfibnaa.Eng
set_option linter.unusedVariables false
set_option maxHeartbeats 4000000
set_option linter.unusedVariables false
set_option linter.unusedSimpArgs false
attribute [local irreducible] prP gP gE gF A6 ixW ldc ldg ldl stc stg scW mkW apW BD cl2 BP C3 B9
variable {w0:World}
end Go.Proofs.Ytklmcfpgdfibnaa.P
namespace Go.Proofs.Ytklmcfpgdfibnaa.P
open Go Go.Proofs.Ytklmcfpgdfibnaa Go.Proofs.Ytklmcfpgdfibnaa.Eng
set_option linter.unusedVariables false
set_option maxHeartbeats 4000000
set_option linter.unusedVariables false
set_option linter.unusedSimpArgs false
attribute [local irreducible] prP gP gE gF A6 ixW ldc ldg ldl stc stg scW mkW apW BD cl2 BP C3 B9
variable {w0:World}
attribute [local irreducible] J1
end Go.Proofs.Ytklmcfpgdfibnaa.P
namespace Go.Proofs.Ytklmcfpgdfibnaa.P
open Go Go.Proofs.Ytklmcfpgdfibnaa Go.Proofs.Ytklmcfpgdfibnaa.Eng
set_option linter.unusedVariables false
set_option maxHeartbeats 4000000
set_option linter.unusedVariables false
set_option linter.unusedSimpArgs false
attribute [local irreducible] prP gP gE gF A6 ixW ldc ldg ldl stc stg scW mkW apW BD cl2 BP C3 B9
variable {w0:World}
theorem yU {w a:Bool} {m:J2→Prop} {K:J2} (ha:a=w) (h:m K):gC (.bool a) w m K:= .inl ⟨by rw [ha],h⟩
theorem xQ {c:Prop} [Decidable c] {m:J2→Prop} {K:J2} (hc: ¬c) (h:m K):gC (.bool (decide c)) false m K:=yU (decide_eq_false hc) h
theorem gV {l:List Int} {x:Int} {K:J2} (hl:(l.length:Int)<2^62) (h:K [.bool (decide (x∈l))] []):cl2 ⟨Try.prog,w0⟩ 25 JU.sg [I x] [tI l] K:=by
 refine JU.cl2 ?_
 unfold JU.txt
 simp only [AE]
 refine BM (fun i=>[I x,iv i]) (fun _=>[]) l.length (fun i=>x∉l.take i) rfl rfl (by simp) (fun R i hi hP hR=> ?_)
 simp only [AI,AP,AN,AS,AK,AE,AJ,AH,AM,AT,AL,AR,AO,AQ,BC,BE,BF,BJ,BL,BK,BH,AW,A5,AZ,A4,AY,AX]
 refine A9 (A7 (fun hlt=> ?_) fun hge=> ?_)
 ·have hlt:i<l.length:=by omega
  refine AU hlt (ldI hlt (B3 (A7 (fun he=> ?_) fun hne=>A8 (by omega) (hR hlt ?_))))
  ·rw [decide_eq_true (by rw [←he, ←CM hlt];exact List.getElem_mem hlt)] at h
   exact h
  ·rw [List.take_succ_eq_append_getElem hlt,List.mem_append,List.mem_singleton]
   rintro (hh | hh)
   ·exact hP hh
   ·exact hne (by rw [hh,CM hlt])
 ·have:i=l.length:=by omega
  subst this
  rw [List.take_length] at hP
  rw [decide_eq_false hP] at h
  exact h
end Go.Proofs.Ytklmcfpgdfibnaa.P
namespace Go.Proofs.Ytklmcfpgdfibnaa.P
open Go Go.Proofs.Ytklmcfpgdfibnaa Go.Proofs.Ytklmcfpgdfibnaa.Eng
set_option linter.unusedVariables false
section
variable {os:List AG} {ns:Nat} {buf:List Int} {k:Nat}
theorem Gd.put (h:HP os ns buf []) (k8:k<8) (hd:(ob os k).live=false) {t:Int} (g:Gd os buf):Gd (os.set k (J7 ((ob os k).gen+1) t)) buf:=by
 have hol:=h.ol
 have eo: ∀i,ob (os.set k (J7 ((ob os k).gen+1) t)) i=if i=k then J7 ((ob os k).gen+1) t else ob os i:=fun i=>DV (by omega)
 have sl: ∀(x:Int) (s:Nat),AB os x=(s:Int)→s≠k∧AB (os.set k (J7 ((ob os k).gen+1) t)) x=(s:Int):=fun x s hs=>by
  have sv:=IA hs
  have hsk:s≠k:=fun hh=>by rw [hh,hd] at sv;cases sv.2
  refine ⟨hsk, ?_⟩
  have hb:=BT (l:=os) (id:=x) (by omega)
  have e:(x % 8).toNat=s:=by omega
  have e2:(AB os x).toNat=s:=by omega
  rw [e2] at hb
  rw [H6 hb.2.1 (by simpa using hol) (by rw [List.length_set];omega) (by rw [e,eo,if_neg hsk];exact sv.2) (by rw [e,eo,if_neg hsk];exact hb.2.2.2.2.2)]
  omega
 have kk: ∀y,(y<8∧(ob os y).live=true∧y≠k)→ ∀j∈BQ os y,j∈BQ (os.set k (J7 ((ob os k).gen+1) t)) y∧(j.toNat<8∧(ob os j.toNat).live=true∧j.toNat≠k):=fun y ⟨y8,yv,yk⟩ j hj=>by
  have hb:=B8 hj
  obtain ⟨h0,f,hf,hs⟩:=FW.1 hj
  obtain ⟨h1,h2⟩:=sl f j.toNat (by omega)
  exact ⟨FW.2 ⟨h0,f,by rw [eo,if_neg yk];exact hf,by omega⟩,hb.2.1,hb.2.2.2.2,h1⟩
 intro y y8 yv
 by_cases hyk:y=k
 ·subst hyk
  exact .inl ⟨y,⟨k8,yv,by rw [eo,if_pos rfl];simp [J7]⟩, .refl⟩
 ·rw [eo,if_neg hyk] at yv
  rcases g y y8 yv with ⟨e,he,hr⟩ | ⟨x,hx,s,hs,hr⟩
  ·have hek:e≠k:=fun hh=>by have:=he.lv;rw [hh,hd] at this;cases this
   exact .inl ⟨e,⟨he.lt,by rw [eo,if_neg hek];exact he.lv,by rw [eo,if_neg hek];exact he.pos⟩,(hr.KD (P:=fun y=>y<8∧(ob os y).live=true∧y≠k) ⟨he.lt,he.lv,hek⟩ kk).1⟩
  ·have sv:=IA hs
   obtain ⟨h1,h2⟩:=sl x s hs
   exact .inr ⟨x,hx,s,h2,(hr.KD (P:=fun y=>y<8∧(ob os y).live=true∧y≠k) ⟨sv.1,sv.2,h1⟩ kk).1⟩
theorem p7 {ss:List ByteArray} {s:ByteArray} (h:HP os ns buf []) (g:Gd os buf):Gd (I3 os ss s).1 buf:=by
 unfold I3
 split
 ·exact g
 ·split
  ·exact g
  ·split
   ·exact g
   ·rename_i hf _
    obtain ⟨h1,h2,h3⟩:=O2 hf
    have hol:=h.ol
    simp only [LR,Bool.and_eq_true,Bool.not_eq_true',decide_eq_true_eq] at h3
    have hg:=(h.obj (CX os).toNat (by omega)).gen
    simp only
    rw [I2 (n:=(ob os (CX os).toNat).gen+1) ⟨by omega,by omega⟩]
    exact g.put h (by omega) h3.1
theorem zX (os:List AG) (P:Nat→Bool) (j:Nat):0≤S os P j:=by
 have:=KQ (n:=8) (f:=fun _=>0) (g:=fun x=>if P x then E os x j else 0) fun x hx=>by
  split
  ·exact PH _ _ _
  ·exact Int.le_refl _
 rw [I5 (fun _ _=>rfl)] at this;exact this
theorem tM (h:HP os ns buf []) {e:Nat} (he:nP os e) (hr:Reach os e k): ¬RB os buf k∨ ∃x,Out os (fun i=>(ob os i).count) buf x∧Reach os x k:=by
 induction hr with
 | refl=>
   by_cases hb:RB os buf e
   ·right
    have:=zX os (fun k=> !OH os buf k) e
    have:=he.pos
    exact ⟨e,⟨he.lt,hb,(h.ext he.lt he.lv).2 (by omega)⟩, .refl⟩
   ·exact .inl hb
 | step hr hj ih=>
   rename_i y j
   rcases ih with ih | ⟨x,hx,ih⟩
   ·by_cases hb:RB os buf j.toNat
    ·right
     have hjb:=B8 hj
     have yl:=hr.live ⟨he.lt,he.lv⟩
     have hm:((j.toNat:Nat):Int)∈BQ os y:=by rw [←hjb.2.2.1];exact hj
     have e1:=uH (os:=os) (P:=fun k=> !OH os buf k) (j:=j.toNat) yl.1 (by simp [TM.2 ih])
     have hE:0<E os y j.toNat:=by unfold E;have:=List.count_pos_iff.2 hm;omega
     have hlv:=(h.obj j.toNat hjb.2.1).lv hjb.2.2.2.2
     exact ⟨j.toNat,⟨hjb.2.1,hb,(h.ext hjb.2.1 hjb.2.2.2.2).2 (by omega)⟩, .refl⟩
    ·exact .inl hb
   ·exact .inr ⟨x,hx, .step ih hj⟩
def Rch (os:List AG) (k:Nat):Prop:= ∃e,nP os e∧Reach os e k
theorem Rch.live {os:List AG} {k:Nat}:Rch os k→k<8∧(ob os k).live=true:=fun ⟨_,he,hr⟩=>hr.live ⟨he.lt,he.lv⟩
theorem lT (h:HP os ns buf []) (g:Gd os buf) (k8:k<8) (kv:(ob os k).live=true):LO os (fun i=>(ob os i).count) buf k=true↔ ¬Rch os k:=by
 rw [JR]
 constructor
 ·rintro ⟨hb,hn⟩ ⟨e,he,hr⟩
  rcases tM h he hr with h1 | h1
  ·exact h1 hb
  ·exact hn h1
 ·intro hn
  have hb: ∀y,y<8→(ob os y).live=true→ ¬Rch os y→RB os buf y:=fun y y8 yv hy=>by
   rcases g y y8 yv with hc | ⟨x,hx,s,hs,hr⟩
   ·exact absurd hc hy
   ·exact ⟨x,hx,s,hs,hr⟩
  refine ⟨hb k k8 kv hn, ?_⟩
  rintro ⟨x,⟨x8,xr,hx⟩,hr⟩
  have xv:(ob os x).live=true:=xr.live
  have hp:=(h.ext x8 xv).1 hx
  by_cases h0:0<(ob os x).holds+(ob os x).roots
  ·exact hn ⟨x,⟨x8,xv,h0⟩,hr⟩
  ·obtain ⟨p,p8,hpp,hE⟩:=pD (os:=os) (P:=fun k=> !OH os buf k) (j:=x) (by omega)
   have hpn: ¬RB os buf p:=by simp only [Bool.not_eq_true'] at hpp;exact TM.1 hpp
   have hm:=jJ hE
   obtain ⟨_,f,hf,hs⟩:=FW.1 hm
   have pv:=((h.obj p p8).lead f hf (fun hh=>by rw [hh,FG (.inl (by omega))] at hs;omega)).1
   obtain ⟨e,he,her⟩:Rch os p:=Classical.byContradiction fun hh=>hpn (hb p p8 pv hh)
   have:=Reach.step her hm
   rw [Int.toNat_natCast] at this
   exact hn ⟨e,he,this.trans hr⟩
theorem m6 {W:Nat→Bool} {i:Nat} (h:W i=true):GX os W i=CF (ob os i).gen:=by
 unfold GX
 rw [show EF os W i=CF (ob os i).gen from by unfold EF;rw [if_pos h]]
 rfl
theorem eY {W:Nat→Bool} {i:Nat} (h:W i=false):(GX os W i).live=(ob os i).live∧(GX os W i).gen=(ob os i).gen∧(GX os W i).site=(ob os i).site∧(GX os W i).holds=(ob os i).holds∧(GX os W i).roots=(ob os i).roots∧(GX os W i).field=(ob os i).field:=by
 have e:EF os W i={ob os i with purple:=false}:=by unfold EF;rw [if_neg (by rw [h];decide)]
 unfold GX
 rw [e]
 split
 ·exact ⟨rfl,rfl,rfl,rfl,rfl,rfl⟩
 ·exact ⟨rfl,rfl,rfl,rfl,rfl,rfl⟩
structure xT (os os':List AG):Prop where
 len:os'.length=8
 lv: ∀k,k<8→((ob os' k).live=true↔Rch os k)
 rch: ∀k,Rch os k→Rch os' k
 sm: ∀k,k<8→Rch os k→(ob os' k).gen=(ob os k).gen∧(ob os' k).site=(ob os k).site∧(ob os' k).holds=(ob os k).holds∧(ob os' k).roots=(ob os k).roots∧(ob os' k).field=(ob os k).field
 gn: ∀k,k<8→(ob os' k).gen=(ob os k).gen
theorem pO (h:HP os ns buf []) (g:Gd os buf):xT os (IT os buf).1:=by
 obtain ⟨W,hW⟩: ∃W,W=LO os (fun i=>(ob os i).count) buf:=⟨_,rfl⟩
 have wi: ∀k,k<8→(ob os k).live=true→(W k=true↔ ¬Rch os k):=fun k k8 kv=>by rw [hW];exact lT h g k8 kv
 have wl: ∀k,W k=true→(ob os k).live=true:=fun k hk=>by rw [hW,JR] at hk;exact hk.1.live
 have eo: ∀i,i<8→ob (IT os buf).1 i=GX os W i:=fun i hi=>by
  unfold IT;simp only;rw [I1 hi,hW]
 have hf: ∀k,Rch os k→W k=false:=fun k hk=>by
  cases hw:W k with
  | false=>rfl
  | true=>exact absurd hk ((wi k hk.live.1 hk.live.2).1 hw)
 have sm: ∀k,k<8→Rch os k→(ob (IT os buf).1 k).gen=(ob os k).gen∧(ob (IT os buf).1 k).site=(ob os k).site∧(ob (IT os buf).1 k).holds=(ob os k).holds∧(ob (IT os buf).1 k).roots=(ob os k).roots∧(ob (IT os buf).1 k).field=(ob os k).field:=fun k k8 hk=>by
  rw [eo k k8];exact (eY (hf k hk)).2
 have lv: ∀k,k<8→((ob (IT os buf).1 k).live=true↔Rch os k):=fun k k8=>by
  rw [eo k k8]
  cases hw:W k with
  | true=>
    rw [m6 hw]
    exact ⟨fun hh=>(by cases hh),fun hh=>absurd hh ((wi k k8 (wl k hw)).1 hw)⟩
  | false=>
    rw [(eY hw).1]
    refine ⟨fun hv=>Classical.byContradiction fun hn=> ?_,fun hh=>hh.live.2⟩
    rw [(wi k k8 hv).2 hn] at hw;cases hw
 have hln:(IT os buf).1.length=8:=DH _
 refine ⟨hln,lv,fun k hk=> ?_,sm,fun k k8=> ?_⟩
 ·obtain ⟨e,he,hr⟩:=hk
  have rr:Rch os e:=⟨e,he, .refl⟩
  refine ⟨e,⟨he.lt,(lv e he.lt).2 rr,by rw [(sm e he.lt rr).2.2.1,(sm e he.lt rr).2.2.2.1];exact he.pos⟩,(hr.KD (P:=Rch os) rr fun y hy j hj=> ?_).1⟩
  have hb:=B8 hj
  obtain ⟨e',he',hr'⟩:=hy
  have rj:Rch os j.toNat:=⟨e',he', .step hr' hj⟩
  have hy:Rch os y:=⟨e',he',hr'⟩
  obtain ⟨h0,f,hf',hs⟩:=FW.1 hj
  have hfb:=BT (l:=os) (id:=f) (by omega)
  have ej:(f % 8).toNat=j.toNat:=by omega
  have ej2:(AB os f).toNat=j.toNat:=by omega
  rw [ej2] at hfb
  refine ⟨FW.2 ⟨h0,f,by rw [(sm y hy.live.1 hy).2.2.2.2];exact hf', ?_⟩,rj⟩
  rw [H6 hfb.2.1 hln (by rw [hln];omega) (by rw [ej];exact (lv _ hb.2.1).2 rj) (by rw [ej,(sm _ hb.2.1 rj).1];exact hfb.2.2.2.2.2)]
  omega
 ·rw [eo k k8]
  cases hw:W k with
  | true=>rw [m6 hw];rfl
  | false=>exact (eY hw).2.1
theorem rY (h:HP os ns buf []) (g:Gd os buf):Gd (IT os buf).1 []:=fun k k8 kv=>by
 have R:=pO h g
 exact .inl (R.rch k ((R.lv k k8).1 kv))
end
theorem BO.gd {h:Hp} {o:Op5} (hk:BO h) (g:Gd h.AA h.buffer):Gd (FQ h o).1.AA (FQ h o).1.buffer:=by
 have hp:=hk.hp
 unfold FQ
 split
 ·exact p7 hp g
 ·split
  ·exact (hp.eC (id:=o.a) (kd:=o.kind)).gd g
  ·split
   ·exact (hp.Y7 (a:=o.a) (b:=o.b) (c:=o.c)).gd g
   ·split
    ·exact g
    ·split
     ·exact g
     ·split
      ·exact rY hp g
      ·exact g
theorem wP:Gd hp0.AA hp0.buffer:=fun k k8 kv=>by
 have:ob hp0.AA k=CF 0:=by
  unfold hp0 ob;simp only;rw [List.getD_eq_getElem?_getD,List.getElem?_replicate,if_pos k8];rfl
 rw [this] at kv;cases kv
theorem XP (l:List Op5): ∀i,Gd (J1 l i).1.AA (J1 l i).1.buffer
 | 0=>wP
 | i+1=>(NW l i).1.gd (XP l i)
end Go.Proofs.Ytklmcfpgdfibnaa.P
namespace Go.Proofs.Ytklmcfpgdfibnaa.P
open Go Go.Proofs.Ytklmcfpgdfibnaa Go.Proofs.Ytklmcfpgdfibnaa.Eng
set_option linter.unusedVariables false
set_option maxHeartbeats 4000000
set_option linter.unusedVariables false
set_option linter.unusedSimpArgs false
attribute [local irreducible] prP gP gE gF A6 ixW ldc ldg ldl stc stg scW mkW apW BD cl2 BP C3 B9
variable {w0:World}
theorem YB {L:List Int} {i:Nat} {z:Int} {K:J2} (hb:QW L) (hi:i≤L.length) (h: ∀(x:Hp) i' z',BO x→Gd x.AA x.buffer→i'≤L.length→K [iv i',I z'] (trees x)):cl2 ⟨Try.prog,w0⟩ 94 G4.sg [iv i,I z] [tY L] K:=by
 refine G4.cl2 (bC (m:=30) hb hi (by omega) fun l i1 z1 hl ho h1=> ?_)
 refine UU (by omega) (fun o hx=>(ho o hx).f) ?_
 exact h _ i1 z1 (NW l _).1 (XP l _) h1
structure fZ (x:Hp):Prop where
 fits:Fits x
 I6:U4 x
 gd:BO x→Gd x.AA x.buffer
 of: ∀o∈x.AA,OF o
theorem fZ.ok {x:Hp} (h:BO x) (g:Gd x.AA x.buffer):fZ x:=⟨h.fits,h.I6,fun _=>g,(h.st h.I6).of⟩
theorem bE {b:Hp} (hb:BO b) {k:Nat} {v:AG} (hf:v.field.length=3) (hn:F64 v.gen∧F64 v.site∧F64 v.holds∧F64 v.roots∧F64 v.count∧ ∀f∈v.field,F64 f)
  (hg:BO ⟨b.AA.set k v,b.B4,b.buffer,b.sites⟩→Gd (b.AA.set k v) b.buffer):fZ ⟨b.AA.set k v,b.B4,b.buffer,b.sites⟩:=by
 obtain ⟨f1,f2,f3,f4,f5,f6⟩:=hb.fits
 obtain ⟨n1,n2,n3⟩:=hb.I6
 refine ⟨⟨by simpa using f1,fun o ho=> ?_,f3,f4,f5,f6⟩,⟨fun o ho=> ?_,n2,n3⟩,hg,fun o ho=> ?_⟩
 ·rcases List.mem_or_eq_of_mem_set ho with h | rfl
  ·exact f2 o h
  ·omega
 ·rcases List.mem_or_eq_of_mem_set ho with h | rfl
  ·exact n1 o h
  ·exact hn
 ·rcases List.mem_or_eq_of_mem_set ho with h | rfl
  ·exact (hb.st hb.I6).of o h
  ·exact ⟨hn.1,hf,hn.2.2.2.2.2⟩
theorem Gd.as {a b:List AG} {L:List Int} (g:Gd a L) (h: ∀i,i<8→(ob b i).live=(ob a i).live∧(ob b i).holds=(ob a i).holds∧(ob b i).roots=(ob a i).roots) (hk: ∀y,y<8→BQ b y=BQ a y) (hs: ∀x∈L,AB b x=AB a x):Gd b L:=fun k k8 kv=>by
 have kr: ∀{s y},s<8∧(ob a s).live=true→Reach a s y→Reach b s y:=fun hs hr=>(hr.KD (P:=fun y=>y<8) hs.1 fun y hy j hj=>⟨by rw [hk y hy];exact hj,(B8 hj).2.1⟩).1
 rcases g k k8 (by rw [←(h k k8).1];exact kv) with ⟨e,he,hr⟩ | ⟨x,hx,s,hsx,hr⟩
 ·exact .inl ⟨e,⟨he.lt,by rw [(h e he.lt).1];exact he.lv,by rw [(h e he.lt).2.1,(h e he.lt).2.2];exact he.pos⟩,kr ⟨he.lt,he.lv⟩ hr⟩
 ·exact .inr ⟨x,hx,s,by rw [hs x hx];exact hsx,kr (IA hsx) hr⟩
theorem u9 {b:Hp} (hb:BO b) (g:Gd b.AA b.buffer) {k:Nat} (k8:k<8) {v:Int} (hx:BO ⟨b.AA.set k {ob b.AA k with gen:=v},b.B4,b.buffer,b.sites⟩):Gd (b.AA.set k {ob b.AA k with gen:=v}) b.buffer:=by
 have hol:=hb.ol
 have hkl:k<b.AA.length:=by omega
 have eo: ∀i,ob (b.AA.set k {ob b.AA k with gen:=v}) i=if i=k then {ob b.AA k with gen:=v} else ob b.AA i:=fun i=>DV hkl
 have sl: ∀x:Int,(0≤AB b.AA x↔0≤AB (b.AA.set k {ob b.AA k with gen:=v}) x)→AB (b.AA.set k {ob b.AA k with gen:=v}) x=AB b.AA x:=fun x hh=>by
  have m1: ∀l:List AG,AB l x= -1∨(0≤AB l x∧AB l x=x % 8):=fun l=>by
   by_cases h0:0≤AB l x
   ·exact .inr ⟨h0,(BT h0).2.2.1⟩
   ·left
    unfold AB at h0 ⊢
    split
    ·rfl
    ·rename_i h1
     rw [if_neg h1] at h0
     split at h0
     ·omega
     ·rename_i h2;rw [if_neg h2]
  rcases m1 b.AA with h1 | h1 <;> rcases m1 (b.AA.set k {ob b.AA k with gen:=v}) with h2 | h2 <;> omega
 have hxp:=hx.hp
 have hbp:=hb.hp
 have fl: ∀y,y<8→ ∀f∈(ob b.AA y).field,AB (b.AA.set k {ob b.AA k with gen:=v}) f=AB b.AA f:=fun y hy f hf=>by
  by_cases h1:f= -1
  ·subst h1;rw [FG (.inl (by omega)),FG (.inl (by omega))]
  ·have a:=((hbp.obj y hy).lead f hf h1).2
   have c:=((hxp.obj y hy).lead f (by
    rw [eo]
    by_cases he:y=k
    ·rw [if_pos he, ←he];exact hf
    ·rw [if_neg he];exact hf) h1).2
   exact sl f ⟨fun _=>c,fun _=>a⟩
 refine g.as (fun i hi=> ?_) (fun y hy=> ?_) fun x hx'=> ?_
 ·rw [eo];split
  ·rename_i he;subst he;exact ⟨rfl,rfl,rfl⟩
  ·exact ⟨rfl,rfl,rfl⟩
 ·have ef:(ob (b.AA.set k {ob b.AA k with gen:=v}) y).field=(ob b.AA y).field:=by
   rw [eo];split
   ·rename_i he;subst he;rfl
   ·rfl
  unfold BQ
  rw [ef]
  congr 1
  exact List.map_congr_left fun f hf=>fl y hy f hf
 ·have a:0≤AB b.AA x:=hbp.blv x hx'
  have c:0≤AB (b.AA.set k {ob b.AA k with gen:=v}) x:=hxp.blv x hx'
  exact sl x ⟨fun _=>c,fun _=>a⟩
theorem wT {b:Hp} (hb:BO b) {k:Nat} (k8:k<8) {v f:Int} {r:List Int} (v0:0≤v) (hfr:(ob b.AA k).field=f::r) (hvf:v≠f) {w:AG} (wl:w.live=(ob b.AA k).live) (wg:w.gen=(ob b.AA k).gen) (wh:w.holds=(ob b.AA k).holds) (wr:w.roots=(ob b.AA k).roots) (wc:w.count=(ob b.AA k).count) (wf:w.field=v::r) (hx:BO ⟨b.AA.set k w,b.B4,b.buffer,b.sites⟩):False:=by
 have hol:=hb.ol
 have hkl:k<b.AA.length:=by omega
 have hxp:=hx.hp
 have hbp:=hb.hp
 have eo: ∀i,ob (b.AA.set k w) i=if i=k then w else ob b.AA i:=fun i=>DV hkl
 have sl: ∀x,AB (b.AA.set k w) x=AB b.AA x:=fun x=>EH (by simp) fun i _=>by
  rw [eo];split
  ·rename_i he;subst he;exact ⟨wl,wg⟩
  ·exact ⟨rfl,rfl⟩
 have lv:=((hxp.obj k k8).lead v (by rw [eo,if_pos rfl,wf];simp) (by omega))
 have kv:w.live=true:=by have:=lv.1;rw [eo,if_pos rfl] at this;exact this
 rw [sl] at lv
 have hbd:=BT lv.2
 obtain ⟨s,hs⟩: ∃s:Nat,(AB b.AA v).toNat=s:=⟨_,rfl⟩
 rw [hs] at hbd
 have s8:=hbd.2.2.2.1
 have sv:=hbd.2.2.2.2.1
 have g1:=((hbp.obj s s8).lv sv).1
 have g2:=(hbp.obj s s8).gen.2
 have hid:v=B6 s (ob b.AA s).gen:=by rw [HF s8 g1 g2];omega
 have c1:=((hbp.obj s s8).lv sv).2.2.2.2.1
 have same:(ob (b.AA.set k w) s).live=(ob b.AA s).live∧(ob (b.AA.set k w) s).gen=(ob b.AA s).gen∧(ob (b.AA.set k w) s).holds=(ob b.AA s).holds∧(ob (b.AA.set k w) s).roots=(ob b.AA s).roots∧(ob (b.AA.set k w) s).count=(ob b.AA s).count:=by
  rw [eo];split
  ·rename_i he;subst he;exact ⟨wl,wg,wh,wr,wc⟩
  ·exact ⟨rfl,rfl,rfl,rfl,rfl⟩
 have c2:=((hxp.obj s s8).lv (by rw [same.1];exact sv)).2.2.2.2.1
 rw [same.2.1,same.2.2.1,same.2.2.2.1,same.2.2.2.2, ←hid] at c2
 rw [←hid] at c1
 have ed:=QJ (os:=b.AA) (k:=k) (v:=w) (id:=v) hkl
 have e1:L5 v (ob b.AA k)=r.count v:=by
  unfold L5;rw [←wl,if_pos kv,hfr,List.count_cons_of_ne (Ne.symm hvf)]
 have e2:L5 v w=r.count v+1:=by
  unfold L5;rw [if_pos kv,wf,List.count_cons_self]
 simp only [List.count_nil] at c1 c2
 omega
theorem wG {b:Hp} (hb:BO b) {k:Nat} (k8:k<8) {v:Int} (v0:0≤v) (hx:BO ⟨b.AA.set k {ob b.AA k with field:=(ob b.AA k).field.set 0 v},b.B4,b.buffer,b.sites⟩):b.AA.set k {ob b.AA k with field:=(ob b.AA k).field.set 0 v}=b.AA:=by
 have h3:=(hb.hp.obj k k8).len
 obtain ⟨f,r,hfr⟩: ∃f r,(ob b.AA k).field=f::r:=by
  cases hf:(ob b.AA k).field with
  | nil=>rw [hf] at h3;cases h3
  | cons f r=>exact ⟨f,r,rfl⟩
 have es:(ob b.AA k).field.set 0 v=v::r:=by rw [hfr];rfl
 by_cases hvf:v=f
 ·rw [es,hvf, ←hfr]
  exact List.ext_getElem (by simp) fun i h1 h2=>by
   rw [List.getElem_set]
   split
   ·rename_i he;subst he;rw [DL h2]
   ·rfl
 ·exact (wT hb k8 v0 hfr hvf (w:={ob b.AA k with field:=(ob b.AA k).field.set 0 v}) rfl rfl rfl rfl rfl es hx).elim
theorem zY {l:List Int} (h: ∀f∈l,F64 f) {v:Int} (hv:F64 v): ∀f∈l.set 0 v,F64 f:=fun f hf=>by
 rcases List.mem_or_eq_of_mem_set hf with hf | rfl
 ·exact h f hf
 ·exact hv
theorem bG {L:List Int} {i:Nat} {z:Int} {K:J2} (hb:QW L) (hi:i≤L.length) (h: ∀(x:Hp) i' z',fZ x→i'≤L.length→K [iv i',I z'] (trees x)):cl2 ⟨Try.prog,w0⟩ 96 HE.sg [iv i,I z] [tY L] K:=by
 refine HE.cl2 ?_
 unfold HE.txt
 refine YB hb hi fun b i1 z1 ok gd h1=>CC hb h1 fun k i2 z2 k0 k1 h2=>CC hb h2 fun c i3 z3 c0 c1 h3=> ?_
 obtain ⟨k,rfl⟩: ∃n:Nat,k=n:=⟨k.toNat,by omega⟩
 have hol:=ok.ol
 have hp:=ok.hp
 have k8:k<8:=by omega
 have kl:k<b.AA.length:=by omega
 have hk:=hp.obj k k8
 have nk:=ok.I6.ob k
 have fits:=ok.fits
 simp only [trees,List.cons_append,List.nil_append]
 simp only [AI,AP,AN,AS,AK,AE,AJ,AH,AM,AT,AL,AR,AO,AQ,BC,BE,BF,BJ,BL,BK,BH,AW,A5,AZ,A4,AY,AX]
 refine B3 (A7 (fun _=> ?_) fun _=>B3 (A7 (fun _=> ?_) fun _=>B3 (A7 (fun _=> ?_) fun _=>B3 (A7 (fun _=> ?_) fun _=>B3 (A7 (fun _=> ?_) fun _=>B3 (A7 (fun _=> ?_) fun _=>B3 (A7 (fun _=> ?_) fun _=>h b i3 z3 (.ok ok gd) h3)))))))
 ·have cb:0≤(ob b.AA k).count∧(ob b.AA k).count≤1000:=by
   refine ⟨?_,hk.cb⟩
   cases hv:(ob b.AA k).live with
   | false=>have:=(hk.dead hv).2.2.2.1;omega
   | true=>have:=(hk.lv hv).2.2.2.2.2.1;omega
  refine AU kl (HQ kl (by decide) rfl (EC ⟨by omega,by omega⟩ (AU kl (lB kl ?_))))
  rw [DL kl]
  refine h ⟨b.AA.set k {ob b.AA k with count:=(ob b.AA k).count+1},b.B4,b.buffer,b.sites⟩ i3 z3 (bE ok hk.len ⟨nk.1,nk.2.1,nk.2.2.1,nk.2.2.2.1,BV (by simp only;omega),nk.2.2.2.2.2⟩ fun hx=> ?_) h3
  have eo: ∀i,ob (b.AA.set k {ob b.AA k with count:=(ob b.AA k).count+1}) i=if i=k then {ob b.AA k with count:=(ob b.AA k).count+1} else ob b.AA i:=fun i=>DV kl
  have sm: ∀i,(ob b.AA i).live=(ob (b.AA.set k {ob b.AA k with count:=(ob b.AA k).count+1}) i).live∧(ob b.AA i).gen=(ob (b.AA.set k {ob b.AA k with count:=(ob b.AA k).count+1}) i).gen∧(ob b.AA i).field=(ob (b.AA.set k {ob b.AA k with count:=(ob b.AA k).count+1}) i).field∧(ob b.AA i).holds=(ob (b.AA.set k {ob b.AA k with count:=(ob b.AA k).count+1}) i).holds∧(ob b.AA i).roots=(ob (b.AA.set k {ob b.AA k with count:=(ob b.AA k).count+1}) i).roots:=fun i=>by
   rw [eo];split
   ·rename_i he;subst he;exact ⟨rfl,rfl,rfl,rfl,rfl⟩
   ·exact ⟨rfl,rfl,rfl,rfl,rfl⟩
  exact gd.upd (by simp) (fun i=>⟨(sm i).1,(sm i).2.1,(sm i).2.2.1⟩) (fun e he=> .inl ⟨he.lt,by rw [←(sm e).1];exact he.lv,by rw [←(sm e).2.2.2.1, ←(sm e).2.2.2.2];exact he.pos⟩) fun _ hx _=>hx
 ·have fl:(0:Nat)<(ob b.AA k).field.length:=by rw [hk.len];decide
  refine AU kl (TJ kl (CC hb h3 fun v i4 z4 v0 v1 h4=> ?_))
  rw [IL kl]
  simp only [AI,AP,AN,AS,AK,AE,AJ,AH,AM,AT,AL,AR,AO,AQ,BC,BE,BF,BJ,BL,BK,BH,AW,A5,AZ,A4,AY,AX]
  refine AU (j:=0) fl (stF kl fl ?_)
  refine h ⟨b.AA.set k {ob b.AA k with field:=(ob b.AA k).field.set 0 v},b.B4,b.buffer,b.sites⟩ i4 z4 (bE ok (by simp [hk.len]) ⟨nk.1,nk.2.1,nk.2.2.1,nk.2.2.2.1,nk.2.2.2.2.1,zY nk.2.2.2.2.2 (BV (by omega))⟩ fun hx=> ?_) h4
  rw [wG ok k8 v0 hx]
  exact gd
 ·refine AU kl (HQ kl (by decide) rfl (G5 ?_))
  have bl:=fits.bl
  refine DG rfl (by first | omega | (simp only [AI,AP,AN,AS,AK,AE,AJ,AH,AM,AT,AL,AR,AO,AQ,BC,BE,BF,BJ,BL,BK,BH,AW,A5,AZ,A4,AY,AX];omega)) ?_
  simp only [AI,AP,AN,AS,AK,AE,AJ,AH,AM,AT,AL,AR,AO,AQ,BC,BE,BF,BJ,BL,BK,BH,AW,A5,AZ,A4,AY,AX]
  rw [C4]
  have ib:=VJ k (ob b.AA k).gen
  refine h ⟨b.AA,b.B4,b.buffer++[B6 k (ob b.AA k).gen],b.sites⟩ i3 z3 ⟨⟨fits.ol,fits.of,fits.wl, ?_,fits.sl,fits.ss⟩,⟨ok.I6.obj,ok.I6.weak,fun x hx=> ?_⟩,fun _=>gd.mono fun x hx _=>List.mem_append_left _ hx,(ok.st ok.I6).of⟩ h3
  ·have:=ok.yS;simp only [List.length_append,List.length_singleton];omega
  ·rcases List.mem_append.1 hx with hx | hx
   ·exact ok.I6.buf x hx
   ·rw [List.mem_singleton.1 hx];exact BV (by omega)
 ·refine HN hb h3 fun u i4 z4 h4=>FV (l:=[0,9, -1,7]) hb h4 (by simp) fun v hv i5 z5 h5=> ?_
  have w0l:0<b.B4.length:=by have:=ok.wl;omega
  refine AU (j:=0) w0l (RW (y:=⟨u,v⟩) w0l rfl ?_)
  refine h ⟨b.AA,b.B4.set 0 ⟨u,v⟩,b.buffer,b.sites⟩ i5 z5 ⟨⟨fits.ol,fits.of,by simpa using fits.wl,fits.bl,fits.sl,fits.ss⟩,⟨ok.I6.obj,fun w hw=> ?_,ok.I6.buf⟩,fun _=>gd,(ok.st ok.I6).of⟩ h5
  rcases List.mem_or_eq_of_mem_set hw with hw | rfl
  ·exact ok.I6.weak w hw
  ·simp only [List.mem_cons,List.not_mem_nil,or_false] at hv
   exact BV (by simp only;omega)
 ·refine KM (l:=[⟨#[]⟩,⟨#[97]⟩,⟨#[116,111,111,108,111,110,103,97,115,105,116,101]⟩]) hb h3 (by simp) fun s hs i4 z4 h4=> ?_
  have sl:=ok.sites.len
  refine DG rfl (by first | omega | (simp only [AI,AP,AN,AS,AK,AE,AJ,AH,AM,AT,AL,AR,AO,AQ,BC,BE,BF,BJ,BL,BK,BH,AW,A5,AZ,A4,AY,AX];omega)) ?_
  simp only [AI,AP,AN,AS,AK,AE,AJ,AH,AM,AT,AL,AR,AO,AQ,BC,BE,BF,BJ,BL,BK,BH,AW,A5,AZ,A4,AY,AX]
  rw [j7]
  refine h ⟨b.AA,b.B4,b.buffer,b.sites++[s]⟩ i4 z4 ⟨⟨fits.ol,fits.of,fits.wl,fits.bl,by simp only [List.length_append,List.length_singleton];omega,fun x hx=> ?_⟩,⟨ok.I6.obj,ok.I6.weak,ok.I6.buf⟩,fun _=>gd,(ok.st ok.I6).of⟩ h4
  rcases List.mem_append.1 hx with hx | hx
  ·exact fits.ss x hx
  ·rw [List.mem_singleton.1 hx]
   simp only [List.mem_cons,List.not_mem_nil,or_false] at hs
   rcases hs with rfl | rfl | rfl <;> decide
 ·refine aM (by omega) ?_
  have e1:HW (tR tO b.AA) [] (AD (iv 0)*8) (AD (iv k)*8)=tR tO (b.AA.take k):=by
   rw [BB,BB,sU,List.drop_zero]
  rw [e1]
  refine h ⟨b.AA.take k,b.B4,b.buffer,b.sites⟩ i3 z3 ⟨⟨by simp only [List.length_take];omega,fun o ho=>fits.of o (List.mem_of_mem_take ho),fits.wl,fits.bl,fits.sl,fits.ss⟩,⟨fun o ho=>ok.I6.obj o (List.mem_of_mem_take ho),ok.I6.weak,ok.I6.buf⟩,fun hx=> ?_,fun o ho=>(ok.st ok.I6).of o (List.mem_of_mem_take ho)⟩ h3
  have:=hx.ol
  simp only [List.length_take] at this
  omega
 ·refine FV (l:=[0,999,1000]) hb h3 (by simp) fun v hv i4 z4 h4=>AU kl (qR kl ?_)
  rw [DL kl]
  simp only [List.mem_cons,List.not_mem_nil,or_false] at hv
  exact h ⟨b.AA.set k {ob b.AA k with gen:=v},b.B4,b.buffer,b.sites⟩ i4 z4 (bE ok hk.len ⟨BV (by simp only;omega),nk.2.1,nk.2.2.1,nk.2.2.2.1,nk.2.2.2.2.1,nk.2.2.2.2.2⟩ fun hx=>u9 ok gd k8 hx) h4
end Go.Proofs.Ytklmcfpgdfibnaa.P
namespace Go.Proofs.Ytklmcfpgdfibnaa.P
open Go Go.Proofs.Ytklmcfpgdfibnaa Go.Proofs.Ytklmcfpgdfibnaa.Eng
set_option linter.unusedVariables false
abbrev Que:=List (Int×Int)
def inQ (q:Que) (s:Int):Prop:=s∈q.map (·.1)
instance (q:Que) (s:Int):Decidable (inQ q s):=inferInstanceAs (Decidable (_∈_))
def F8 (but:Int) (q:Que) (p s:Int):Que:=if s<0∨s=but∨inQ q s then q else q++[(s,p)]
def EN (os:List AG) (but:Int) (ids:List Int):Que:=ids.foldl (fun q x=>F8 but q (-1) (AB os x)) []
def Q6 (os:List AG) (but:Int) (q:Que) (s:Int):Que:=(BQ os s.toNat).foldl (fun q' t=>F8 but q' s t) q
def gQ (q:Que) (i:Nat):Int:=(q.getD i (0,0)).1
def QX (os:List AG) (but:Int):Nat→Nat→Que→Que
 | 0,_,q=>q
 | f+1,i,q=>if i<q.length then QX os but f (i+1) (Q6 os but q (gQ q i)) else q
def KA (os:List AG) (but:Int) (ids:List Int):Que:=QX os but 9 0 (EN os but ids)
theorem P8 {q r:Que} {s:Int}:inQ (q++r) s↔inQ q s∨inQ r s:=by unfold inQ;rw [List.map_append,List.mem_append]
theorem UI {q:Que} {i:Nat} (h:i<q.length):(q[i]).1=gQ q i:=by simp [gQ,h]
theorem UK {q:Que} {i:Nat} (h:i<q.length):inQ q (gQ q i):=by
 rw [←UI h];exact List.mem_map.2 ⟨_,List.getElem_mem h,rfl⟩
theorem PF {q r:Que} {i:Nat} (h:i<q.length):gQ (q++r) i=gQ q i:=by
 unfold gQ;rw [List.getD_eq_getElem?_getD,List.getElem?_append_left h,List.getD_eq_getElem?_getD]
structure QI (os:List AG) (but:Int) (q:Que):Prop where
 nd:(q.map (·.1)).Nodup
 lv: ∀s,inQ q s→ ∃k:Nat,s=(k:Int)∧k<8∧(ob os k).live=true∧s≠but
theorem QI.nil (os:List AG) (but:Int):QI os but []:=⟨List.nodup_nil,fun s h=>by simp [inQ] at h⟩
theorem QI.len {os:List AG} {but:Int} {q:Que} (h:QI os but q):q.length≤8:=by
 have:=few (n:=8) (l:=q.map (·.1)) (fun x=>x.toNat) h.nd (fun x hx=>by obtain ⟨k,h1,h2,_⟩:=h.lv x hx;omega) fun x hx y hy he=>by
  obtain ⟨k,h1,_⟩:=h.lv x hx
  obtain ⟨k',h1',_⟩:=h.lv y hy
  omega
 simpa using this
theorem QI.add {os:List AG} {but:Int} {q:Que} {p s:Int} (h:QI os but q) (hs:0≤s→s.toNat<8∧(ob os s.toNat).live=true):QI os but (F8 but q p s):=by
 unfold F8
 split
 ·exact h
 ·rename_i hn
  simp only [not_or] at hn
  refine ⟨?_,fun x hx=> ?_⟩
  ·rw [List.map_append]
   exact List.nodup_append.2 ⟨h.nd,by simp,fun a ha b hb=>by
    have hb:b=s:=by simpa using hb
    rw [hb];rintro rfl
    exact hn.2.2 ha⟩
  ·rcases P8.1 hx with hx | hx
   ·exact h.lv x hx
   ·have hx:x=s:=by simpa [inQ] using hx
    subst hx
    exact ⟨x.toNat,by omega,(hs (by omega)).1,(hs (by omega)).2,hn.2.1⟩
theorem VH {os:List AG} {x:Int}:0≤AB os x→(AB os x).toNat<8∧(ob os (AB os x).toNat).live=true:=fun h=>⟨(BT h).2.2.2.1,(BT h).2.2.2.2.1⟩
def M6 (q q':Que):Prop:= ∃r,q'=q++r
theorem M6.refl (q:Que):M6 q q:=⟨[],by simp⟩
theorem M6.trans {a b c:Que}:M6 a b→M6 b c→M6 a c:=fun ⟨r,h⟩ ⟨r',h'⟩=>⟨r++r',by rw [h',h,List.append_assoc]⟩
theorem M6.add {but:Int} {q:Que} {p s:Int}:M6 q (F8 but q p s):=by
 unfold F8;split
 ·exact .refl q
 ·exact ⟨_,rfl⟩
theorem M6.inq {q q':Que} {s:Int} (h:M6 q q') (hs:inQ q s):inQ q' s:=by obtain ⟨r,rfl⟩:=h;exact P8.2 (.inl hs)
theorem M6.len {q q':Que} (h:M6 q q'):q.length≤q'.length:=by obtain ⟨r,rfl⟩:=h;simp
theorem M6.gq {q q':Que} {i:Nat} (h:M6 q q') (hi:i<q.length):gQ q' i=gQ q i:=by obtain ⟨r,rfl⟩:=h;exact PF hi
theorem uQ {but:Int} {q:Que} {p s:Int} (h0:0≤s) (hb:s≠but):inQ (F8 but q p s) s:=by
 unfold F8;split
 ·rename_i h
  rcases h with h | h | h
  ·omega
  ·exact absurd h hb
  ·exact h
 ·exact P8.2 (.inr (by simp [inQ]))
theorem kE {but:Int} {q:Que} {p s x:Int} (h:inQ (F8 but q p s) x):inQ q x∨(x=s∧0≤s∧s≠but):=by
 unfold F8 at h;split at h
 ·exact .inl h
 ·rename_i hn
  simp only [not_or] at hn
  rcases P8.1 h with h | h
  ·exact .inl h
  ·exact .inr ⟨by simpa [inQ] using h,by omega,hn.2.1⟩
theorem aX {os:List AG} {but:Int} {p:Int}: ∀{l:List Int} {q:Que},QI os but q→(∀s∈l,0≤s→s.toNat<8∧(ob os s.toNat).live=true)→
  QI os but (l.foldl (fun q' t=>F8 but q' p t) q)∧M6 q (l.foldl (fun q' t=>F8 but q' p t) q)∧(∀s∈l,0≤s→s≠but→inQ (l.foldl (fun q' t=>F8 but q' p t) q) s)∧ ∀x,inQ (l.foldl (fun q' t=>F8 but q' p t) q) x→inQ q x∨(x∈l∧0≤x∧x≠but)
 | [],q,h,_=>⟨h, .refl q,by simp,fun x hx=> .inl hx⟩
 | s::l,q,h,hl=>by
   obtain ⟨h1,h2,h3,h4⟩:=aX (p:=p) (l:=l) (q:=F8 but q p s) (h.add (hl s (by simp))) fun t ht=>hl t (by simp [ht])
   rw [List.foldl_cons]
   refine ⟨h1,M6.add.trans h2,fun t ht h0 hb=> ?_,fun x hx=> ?_⟩
   ·rcases List.mem_cons.1 ht with rfl | ht
    ·exact h2.inq (uQ h0 hb)
    ·exact h3 t ht h0 hb
   ·rcases h4 x hx with hx | ⟨a,b,c⟩
    ·rcases kE hx with hx | ⟨a,b,c⟩
     ·exact .inl hx
     ·exact .inr ⟨by simp [a],by omega,by rw [a];exact c⟩
    ·exact .inr ⟨by simp [a],b,c⟩
theorem kX (os:List AG) (but:Int) (ids:List Int):EN os but ids=(ids.map (AB os)).foldl (fun q t=>F8 but q (-1) t) []:=by
 unfold EN;rw [List.foldl_map]
theorem ZT (os:List AG) (but:Int) (ids:List Int):QI os but (EN os but ids)∧(∀x∈ids,0≤AB os x→AB os x≠but→inQ (EN os but ids) (AB os x))∧ ∀s,inQ (EN os but ids) s→ ∃x∈ids,AB os x=s∧0≤s∧s≠but:=by
 rw [kX]
 obtain ⟨h1,_,h3,h4⟩:=aX (os:=os) (but:=but) (p:= -1) (l:=ids.map (AB os)) (QI.nil os but) fun s hs h0=>by
  obtain ⟨x,_,rfl⟩:=List.mem_map.1 hs
  exact VH h0
 refine ⟨h1,fun x hx h0 hb=>h3 _ (List.mem_map.2 ⟨x,hx,rfl⟩) h0 hb,fun s hs=> ?_⟩
 rcases h4 s hs with h | ⟨a,b,c⟩
 ·simp [inQ] at h
 ·obtain ⟨x,hx,rfl⟩:=List.mem_map.1 a
  exact ⟨x,hx,rfl,b,c⟩
theorem WC {os:List AG} {but:Int} {q:Que} (s:Int) (h:QI os but q):QI os but (Q6 os but q s)∧M6 q (Q6 os but q s)∧(∀j∈BQ os s.toNat,j≠but→inQ (Q6 os but q s) j)∧ ∀x,inQ (Q6 os but q s) x→inQ q x∨(x∈BQ os s.toNat∧x≠but):=by
 obtain ⟨h1,h2,h3,h4⟩:=aX (p:=s) (l:=BQ os s.toNat) h fun t ht _=>⟨(B8 ht).2.1,(B8 ht).2.2.2.2⟩
 exact ⟨h1,h2,fun j hj hb=>h3 j hj (B8 hj).1 hb,fun x hx=>(h4 x hx).imp id fun ⟨a,_,c⟩=>⟨a,c⟩⟩
inductive RY (os:List AG) (but:Int) (s:Nat):Nat→Prop
 | refl:RY os but s s
 | step {k:Nat} {j:Int}:RY os but s k→j∈BQ os k→j≠but→RY os but s j.toNat
def eQ (os:List AG) (but:Int) (ids:List Int) (k:Nat):Prop:= ∃x∈ids, ∃s:Nat,AB os x=(s:Int)∧(s:Int)≠but∧RY os but s k
structure BI (os:List AG) (but:Int) (ids:List Int) (i:Nat) (q:Que):Prop where
 qi:QI os but q
 snd: ∀s,inQ q s→eQ os but ids s.toNat
 ini: ∀x∈ids,0≤AB os x→AB os x≠but→inQ q (AB os x)
 cls: ∀m,m<i→m<q.length→ ∀j∈BQ os (gQ q m).toNat,j≠but→inQ q j
theorem BI.start (os:List AG) (but:Int) (ids:List Int):BI os but ids 0 (EN os but ids):=by
 obtain ⟨h1,h2,h3⟩:=ZT os but ids
 refine ⟨h1,fun s hs=> ?_,h2,fun m hm=>by omega⟩
 obtain ⟨x,hx,rfl,h0,hb⟩:=h3 s hs
 exact ⟨x,hx,(AB os x).toNat,by omega,by rw [Int.toNat_of_nonneg h0];exact hb, .refl⟩
theorem BI.step {os:List AG} {but:Int} {ids:List Int} {i:Nat} {q:Que} (h:BI os but ids i q) (hi:i<q.length):BI os but ids (i+1) (Q6 os but q (gQ q i)):=by
 obtain ⟨h1,h2,h3,h4⟩:=WC (gQ q i) h.qi
 refine ⟨h1,fun s hs=> ?_,fun x hx h0 hb=>h2.inq (h.ini x hx h0 hb),fun m hm hml j hj hb=> ?_⟩
 ·rcases h4 s hs with hs | ⟨hs,hb⟩
  ·exact h.snd s hs
  ·obtain ⟨x,hx,s',e1,e2,hr⟩:=h.snd _ (UK hi)
   exact ⟨x,hx,s',e1,e2, .step hr hs hb⟩
 ·rcases Nat.lt_or_ge m i with hmi | hmi
  ·rw [h2.gq (by omega)] at hj
   exact h2.inq (h.cls m hmi (by omega) j hj hb)
  ·have:m=i:=by omega
   subst this
   rw [h2.gq hi] at hj
   exact h3 j hj hb
theorem BI.run {os:List AG} {but:Int} {ids:List Int}: ∀(f i:Nat) (q:Que),BI os but ids i q→8<f+i→BI os but ids (QX os but f i q).length (QX os but f i q)∧M6 q (QX os but f i q)
 | 0,i,q,h,hf=>by
   have:=h.qi.len
   exact ⟨⟨h.qi,h.snd,h.ini,fun m hm hl=>h.cls m (by simp only [QX] at hl;omega) hl⟩, .refl q⟩
 | f+1,i,q,h,hf=>by
   simp only [QX]
   split
   ·rename_i hi
    obtain ⟨h1,h2⟩:=BI.run f (i+1) _ (h.step hi) (by omega)
    exact ⟨h1,(WC (gQ q i) h.qi).2.1.trans h2⟩
   ·rename_i hi
    exact ⟨⟨h.qi,h.snd,h.ini,fun m hm hl=>h.cls m (by omega) hl⟩, .refl q⟩
theorem QG (os:List AG) (but:Int) (ids:List Int):QI os but (KA os but ids)∧ ∀k:Nat,inQ (KA os but ids) (k:Int)↔eQ os but ids k:=by
 have h:BI os but ids (KA os but ids).length (KA os but ids):=(BI.run 9 0 (EN os but ids) (BI.start os but ids) (by omega)).1
 refine ⟨h.qi,fun k=>⟨fun hk=>by have:=h.snd _ hk;rwa [Int.toNat_natCast] at this, ?_⟩⟩
 rintro ⟨x,hx,s,hs,hsb,hr⟩
 have hst:inQ (KA os but ids) (s:Int):=by rw [←hs];exact h.ini x hx (by omega) (by rw [hs];exact hsb)
 induction hr with
 | refl=>exact hst
 | step hr' hj hb ih=>
   rename_i y j
   have h0:=B8 hj
   obtain ⟨p,hp,he⟩:=List.mem_map.1 ih
   obtain ⟨m,hm,rfl⟩:=List.getElem_of_mem hp
   rw [UI hm] at he
   have:=h.cls m hm hm j (by show j∈BQ os (gQ _ m).toNat;rw [he,Int.toNat_natCast];exact hj) hb
   rw [←h0.2.2.1];exact this
theorem QF {os:List AG} {s k:Nat}:RY os (-1) s k↔Reach os s k:=by
 constructor
 ·intro h
  induction h with
  | refl=>exact .refl
  | step _ hj _ ih=>exact .step ih hj
 ·intro h
  induction h with
  | refl=>exact .refl
  | step _ hj ih=>exact .step ih hj (by have:=(B8 hj).1;omega)
end Go.Proofs.Ytklmcfpgdfibnaa.P
