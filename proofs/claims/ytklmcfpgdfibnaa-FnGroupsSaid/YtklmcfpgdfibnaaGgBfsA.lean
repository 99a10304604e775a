/- A part of the proof. -/
import Derived.Test.YtklmcfpgdfibnaaGgRecD
import Derived.Test.YtklmcfpgdfibnaaGgRowB
import Derived.Test.YtklmcfpgdfibnaaGgHpFa
import Derived.Test.YtklmcfpgdfibnaaGgDrA
namespace Go.Proofs.Ytklmcfpgdfibnaa.P
open Go Go.Proofs.Ytklmcfpgdfibnaa Go.Proofs.Ytklmcfpgdfibnaa.Eng
set_option linter.unusedVariables false
set_option maxHeartbeats 4000000
set_option linter.unusedVariables false
set_option linter.unusedSimpArgs false
attribute [local irreducible] prP gP gE gF AV ixW ldc ldg ldl stc stg scW mkW apW BC cl2 BS CU B1
variable {w0:World}
theorem fJ {L:List Int} {K:J2} (h:K [.bool (decide ((L.length:Int)>1048576))] []):cl2 ⟨Try.prog,w0⟩ 17 JD.sg [] [tY L] K:=by
 refine JD.cl2 ?_
 unfold JD.txt
 rw [dN]
 exact HR h
end Go.Proofs.Ytklmcfpgdfibnaa.P
namespace Go.Proofs.Ytklmcfpgdfibnaa.P
open Go Go.Proofs.Ytklmcfpgdfibnaa Go.Proofs.Ytklmcfpgdfibnaa.Eng
set_option linter.unusedVariables false
set_option maxHeartbeats 4000000
set_option linter.unusedVariables false
set_option linter.unusedSimpArgs false
attribute [local irreducible] prP gP gE gF AV ixW ldc ldg ldl stc stg scW mkW apW BC cl2 BS CU B1
variable {w0:World}
end Go.Proofs.Ytklmcfpgdfibnaa.P
namespace Go.Proofs.Ytklmcfpgdfibnaa.P
open Go Go.Proofs.Ytklmcfpgdfibnaa Go.Proofs.Ytklmcfpgdfibnaa.Eng
set_option linter.unusedVariables false
set_option maxHeartbeats 4000000
set_option linter.unusedVariables false
set_option linter.unusedSimpArgs false
attribute [local irreducible] prP gP gE gF AV ixW ldc ldg ldl stc stg scW mkW apW BC cl2 BS CU B1
variable {w0:World}
attribute [local irreducible] JF
end Go.Proofs.Ytklmcfpgdfibnaa.P
namespace Go.Proofs.Ytklmcfpgdfibnaa.P
open Go Go.Proofs.Ytklmcfpgdfibnaa Go.Proofs.Ytklmcfpgdfibnaa.Eng
set_option linter.unusedVariables false
set_option maxHeartbeats 4000000
set_option linter.unusedVariables false
set_option linter.unusedSimpArgs false
attribute [local irreducible] prP gP gE gF AV ixW ldc ldg ldl stc stg scW mkW apW BC cl2 BS CU B1
variable {w0:World}
theorem vX {w a:Bool} {m:J2→Prop} {K:J2} (ha:a=w) (h:m K):gC (.bool a) w m K:= .inl ⟨by rw [ha],h⟩
theorem iT {c:Prop} [Decidable c] {m:J2→Prop} {K:J2} (hc:c) (h:m K):gC (.bool (decide c)) true m K:=vX (decide_eq_true hc) h
theorem dB {l:List Int} {x:Int} {K:J2} (hl:(l.length:Int)<2^62) (h:K [.bool (decide (x∈l))] []):cl2 ⟨Try.prog,w0⟩ 25 JE.sg [I x] [tI l] K:=by
 refine JE.cl2 ?_
 unfold JE.txt
 simp only [AE]
 refine BF (fun i=>[I x,iv i]) (fun _=>[]) l.length (fun i=>x∉l.take i) rfl rfl (by simp) (fun R i hi hP hR=> ?_)
 simp only [AK,AO,AL,AM,AT,AE,AJ,AI,AR,AQ,AN,AU,AP,AS,BG,BO,BL,BN,BM,BP,BK,A5,A6,A8,AZ,A7,A4]
 refine BA (A9 (fun hlt=> ?_) fun hge=> ?_)
 ·have hlt:i<l.length:=by omega
  refine AH hlt (ldI hlt (BZ (A9 (fun he=> ?_) fun hne=>BB (by omega) (hR hlt ?_))))
  ·rw [decide_eq_true (by rw [←he, ←CN hlt];exact List.getElem_mem hlt)] at h
   exact h
  ·rw [List.take_succ_eq_append_getElem hlt,List.mem_append,List.mem_singleton]
   rintro (hh | hh)
   ·exact hP hh
   ·exact hne (by rw [hh,CN hlt])
 ·have:i=l.length:=by omega
  subst this
  rw [List.take_length] at hP
  rw [decide_eq_false hP] at h
  exact h
end Go.Proofs.Ytklmcfpgdfibnaa.P
namespace Go.Proofs.Ytklmcfpgdfibnaa.P
open Go Go.Proofs.Ytklmcfpgdfibnaa Go.Proofs.Ytklmcfpgdfibnaa.Eng
set_option linter.unusedVariables false
section
variable {os:List AG} {ns:Nat} {buf:List Int} {k:Nat}
theorem Gd.put (h:HP os ns buf []) (k8:k<8) (hd:(ob os k).live=false) {t:Int} (g:Gd os buf):Gd (os.set k (JM ((ob os k).gen+1) t)) buf:=by
 have hol:=h.ol
 have eo: ∀i,ob (os.set k (JM ((ob os k).gen+1) t)) i=if i=k then JM ((ob os k).gen+1) t else ob os i:=fun i=>DO (by omega)
 have sl: ∀(x:Int) (s:Nat),AA os x=(s:Int)→s≠k∧AA (os.set k (JM ((ob os k).gen+1) t)) x=(s:Int):=fun x s hs=>by
  have sv:=IT hs
  have hsk:s≠k:=fun hh=>by rw [hh,hd] at sv;cases sv.2
  refine ⟨hsk, ?_⟩
  have hb:=BJ (l:=os) (id:=x) (by omega)
  have e:(x % 8).toNat=s:=by omega
  have e2:(AA os x).toNat=s:=by omega
  rw [e2] at hb
  rw [HK hb.2.1 (by simpa using hol) (by rw [List.length_set];omega) (by rw [e,eo,if_neg hsk];exact sv.2) (by rw [e,eo,if_neg hsk];exact hb.2.2.2.2.2)]
  omega
 have kk: ∀y,(y<8∧(ob os y).live=true∧y≠k)→ ∀j∈BH os y,j∈BH (os.set k (JM ((ob os k).gen+1) t)) y∧(j.toNat<8∧(ob os j.toNat).live=true∧j.toNat≠k):=fun y ⟨y8,yv,yk⟩ j hj=>by
  have hb:=B5 hj
  obtain ⟨h0,f,hf,hs⟩:=FK.1 hj
  obtain ⟨h1,h2⟩:=sl f j.toNat (by omega)
  exact ⟨FK.2 ⟨h0,f,by rw [eo,if_neg yk];exact hf,by omega⟩,hb.2.1,hb.2.2.2.2,h1⟩
 intro y y8 yv
 by_cases hyk:y=k
 ·subst hyk
  exact .inl ⟨y,⟨k8,yv,by rw [eo,if_pos rfl];simp [JM]⟩, .refl⟩
 ·rw [eo,if_neg hyk] at yv
  rcases g y y8 yv with ⟨e,he,hr⟩ | ⟨x,hx,s,hs,hr⟩
  ·have hek:e≠k:=fun hh=>by have:=he.lv;rw [hh,hd] at this;cases this
   exact .inl ⟨e,⟨he.lt,by rw [eo,if_neg hek];exact he.lv,by rw [eo,if_neg hek];exact he.pos⟩,(hr.JR (P:=fun y=>y<8∧(ob os y).live=true∧y≠k) ⟨he.lt,he.lv,hek⟩ kk).1⟩
  ·have sv:=IT hs
   obtain ⟨h1,h2⟩:=sl x s hs
   exact .inr ⟨x,hx,s,h2,(hr.JR (P:=fun y=>y<8∧(ob os y).live=true∧y≠k) ⟨sv.1,sv.2,h1⟩ kk).1⟩
theorem mF {ss:List ByteArray} {s:ByteArray} (h:HP os ns buf []) (g:Gd os buf):Gd (IH os ss s).1 buf:=by
 unfold IH
 split
 ·exact g
 ·split
  ·exact g
  ·split
   ·exact g
   ·rename_i hf _
    obtain ⟨h1,h2,h3⟩:=OZ hf
    have hol:=h.ol
    simp only [KX,Bool.and_eq_true,Bool.not_eq_true',decide_eq_true_eq] at h3
    have hg:=(h.obj (CT os).toNat (by omega)).gen
    simp only
    rw [JJ (n:=(ob os (CT os).toNat).gen+1) ⟨by omega,by omega⟩]
    exact g.put h (by omega) h3.1
theorem y7 (os:List AG) (P:Nat→Bool) (j:Nat):0≤S os P j:=by
 have:=KA (n:=8) (f:=fun _=>0) (g:=fun x=>if P x then E os x j else 0) fun x hx=>by
  split
  ·exact OC _ _ _
  ·exact Int.le_refl _
 rw [IM (fun _ _=>rfl)] at this;exact this
theorem pS (h:HP os ns buf []) {e:Nat} (he:mK os e) (hr:Reach os e k): ¬RB os buf k∨ ∃x,Out os (fun i=>(ob os i).count) buf x∧Reach os x k:=by
 induction hr with
 | refl=>
   by_cases hb:RB os buf e
   ·right
    have:=y7 os (fun k=> !NO os buf k) e
    have:=he.pos
    exact ⟨e,⟨he.lt,hb,(h.ext he.lt he.lv).2 (by omega)⟩, .refl⟩
   ·exact .inl hb
 | step hr hj ih=>
   rename_i y j
   rcases ih with ih | ⟨x,hx,ih⟩
   ·by_cases hb:RB os buf j.toNat
    ·right
     have hjb:=B5 hj
     have yl:=hr.live ⟨he.lt,he.lv⟩
     have hm:((j.toNat:Nat):Int)∈BH os y:=by rw [←hjb.2.2.1];exact hj
     have e1:=sG (os:=os) (P:=fun k=> !NO os buf k) (j:=j.toNat) yl.1 (by simp [S3.2 ih])
     have hE:0<E os y j.toNat:=by unfold E;have:=List.count_pos_iff.2 hm;omega
     have hlv:=(h.obj j.toNat hjb.2.1).lv hjb.2.2.2.2
     exact ⟨j.toNat,⟨hjb.2.1,hb,(h.ext hjb.2.1 hjb.2.2.2.2).2 (by omega)⟩, .refl⟩
    ·exact .inl hb
   ·exact .inr ⟨x,hx, .step ih hj⟩
def Rch (os:List AG) (k:Nat):Prop:= ∃e,mK os e∧Reach os e k
theorem Rch.live {os:List AG} {k:Nat}:Rch os k→k<8∧(ob os k).live=true:=fun ⟨_,he,hr⟩=>hr.live ⟨he.lt,he.lv⟩
theorem j0 (h:HP os ns buf []) (g:Gd os buf) (k8:k<8) (kv:(ob os k).live=true):KZ os (fun i=>(ob os i).count) buf k=true↔ ¬Rch os k:=by
 rw [I3]
 constructor
 ·rintro ⟨hb,hn⟩ ⟨e,he,hr⟩
  rcases pS h he hr with h1 | h1
  ·exact h1 hb
  ·exact hn h1
 ·intro hn
  have hb: ∀y,y<8→(ob os y).live=true→ ¬Rch os y→RB os buf y:=fun y y8 yv hy=>by
   rcases g y y8 yv with hc | ⟨x,hx,s,hs,hr⟩
   ·exact absurd hc hy
   ·exact ⟨x,hx,s,hs,hr⟩
  refine ⟨hb k k8 kv hn, ?_⟩
  rintro ⟨x,⟨x8,xr,hx⟩,hr⟩
  have xv:(ob os x).live=true:=xr.live
  have hp:=(h.ext x8 xv).1 hx
  by_cases h0:0<(ob os x).holds+(ob os x).roots
  ·exact hn ⟨x,⟨x8,xv,h0⟩,hr⟩
  ·obtain ⟨p,p8,hpp,hE⟩:=mL (os:=os) (P:=fun k=> !NO os buf k) (j:=x) (by omega)
   have hpn: ¬RB os buf p:=by simp only [Bool.not_eq_true'] at hpp;exact S3.1 hpp
   have hm:=jF hE
   obtain ⟨_,f,hf,hs⟩:=FK.1 hm
   have pv:=((h.obj p p8).lead f hf (fun hh=>by rw [hh,ET (.inl (by omega))] at hs;omega)).1
   obtain ⟨e,he,her⟩:Rch os p:=Classical.byContradiction fun hh=>hpn (hb p p8 pv hh)
   have:=Reach.step her hm
   rw [Int.toNat_natCast] at this
   exact hn ⟨e,he,this.trans hr⟩
theorem mQ {W:Nat→Bool} {i:Nat} (h:W i=true):GP os W i=CB (ob os i).gen:=by
 unfold GP
 rw [show DW os W i=CB (ob os i).gen from by unfold DW;rw [if_pos h]]
 rfl
theorem eB {W:Nat→Bool} {i:Nat} (h:W i=false):(GP os W i).live=(ob os i).live∧(GP os W i).gen=(ob os i).gen∧(GP os W i).site=(ob os i).site∧(GP os W i).holds=(ob os i).holds∧(GP os W i).roots=(ob os i).roots∧(GP os W i).field=(ob os i).field:=by
 have e:DW os W i={ob os i with purple:=false}:=by unfold DW;rw [if_neg (by rw [h];decide)]
 unfold GP
 rw [e]
 split
 ·exact ⟨rfl,rfl,rfl,rfl,rfl,rfl⟩
 ·exact ⟨rfl,rfl,rfl,rfl,rfl,rfl⟩
structure xN (os os':List AG):Prop where
 len:os'.length=8
 lv: ∀k,k<8→((ob os' k).live=true↔Rch os k)
 rch: ∀k,Rch os k→Rch os' k
 sm: ∀k,k<8→Rch os k→(ob os' k).gen=(ob os k).gen∧(ob os' k).site=(ob os k).site∧(ob os' k).holds=(ob os k).holds∧(ob os' k).roots=(ob os k).roots∧(ob os' k).field=(ob os k).field
 gn: ∀k,k<8→(ob os' k).gen=(ob os k).gen
theorem lI (h:HP os ns buf []) (g:Gd os buf):xN os (ID os buf).1:=by
 obtain ⟨W,hW⟩: ∃W,W=KZ os (fun i=>(ob os i).count) buf:=⟨_,rfl⟩
 have wi: ∀k,k<8→(ob os k).live=true→(W k=true↔ ¬Rch os k):=fun k k8 kv=>by rw [hW];exact j0 h g k8 kv
 have wl: ∀k,W k=true→(ob os k).live=true:=fun k hk=>by rw [hW,I3] at hk;exact hk.1.live
 have eo: ∀i,i<8→ob (ID os buf).1 i=GP os W i:=fun i hi=>by
  unfold ID;simp only;rw [IJ hi,hW]
 have hf: ∀k,Rch os k→W k=false:=fun k hk=>by
  cases hw:W k with
  | false=>rfl
  | true=>exact absurd hk ((wi k hk.live.1 hk.live.2).1 hw)
 have sm: ∀k,k<8→Rch os k→(ob (ID os buf).1 k).gen=(ob os k).gen∧(ob (ID os buf).1 k).site=(ob os k).site∧(ob (ID os buf).1 k).holds=(ob os k).holds∧(ob (ID os buf).1 k).roots=(ob os k).roots∧(ob (ID os buf).1 k).field=(ob os k).field:=fun k k8 hk=>by
  rw [eo k k8];exact (eB (hf k hk)).2
 have lv: ∀k,k<8→((ob (ID os buf).1 k).live=true↔Rch os k):=fun k k8=>by
  rw [eo k k8]
  cases hw:W k with
  | true=>
    rw [mQ hw]
    exact ⟨fun hh=>(by cases hh),fun hh=>absurd hh ((wi k k8 (wl k hw)).1 hw)⟩
  | false=>
    rw [(eB hw).1]
    refine ⟨fun hv=>Classical.byContradiction fun hn=> ?_,fun hh=>hh.live.2⟩
    rw [(wi k k8 hv).2 hn] at hw;cases hw
 have hln:(ID os buf).1.length=8:=C9 _
 refine ⟨hln,lv,fun k hk=> ?_,sm,fun k k8=> ?_⟩
 ·obtain ⟨e,he,hr⟩:=hk
  have rr:Rch os e:=⟨e,he, .refl⟩
  refine ⟨e,⟨he.lt,(lv e he.lt).2 rr,by rw [(sm e he.lt rr).2.2.1,(sm e he.lt rr).2.2.2.1];exact he.pos⟩,(hr.JR (P:=Rch os) rr fun y hy j hj=> ?_).1⟩
  have hb:=B5 hj
  obtain ⟨e',he',hr'⟩:=hy
  have rj:Rch os j.toNat:=⟨e',he', .step hr' hj⟩
  have hy:Rch os y:=⟨e',he',hr'⟩
  obtain ⟨h0,f,hf',hs⟩:=FK.1 hj
  have hfb:=BJ (l:=os) (id:=f) (by omega)
  have ej:(f % 8).toNat=j.toNat:=by omega
  have ej2:(AA os f).toNat=j.toNat:=by omega
  rw [ej2] at hfb
  refine ⟨FK.2 ⟨h0,f,by rw [(sm y hy.live.1 hy).2.2.2.2];exact hf', ?_⟩,rj⟩
  rw [HK hfb.2.1 hln (by rw [hln];omega) (by rw [ej];exact (lv _ hb.2.1).2 rj) (by rw [ej,(sm _ hb.2.1 rj).1];exact hfb.2.2.2.2.2)]
  omega
 ·rw [eo k k8]
  cases hw:W k with
  | true=>rw [mQ hw];rfl
  | false=>exact (eB hw).2.1
theorem rT (h:HP os ns buf []) (g:Gd os buf):Gd (ID os buf).1 []:=fun k k8 kv=>by
 have R:=lI h g
 exact .inl (R.rch k ((R.lv k k8).1 kv))
end
theorem BT.gd {h:Hp} {o:Op5} (hk:BT h) (g:Gd h.AD h.buffer):Gd (FE h o).1.AD (FE h o).1.buffer:=by
 have hp:=hk.hp
 unfold FE
 split
 ·exact mF hp g
 ·split
  ·exact (hp.cT (id:=o.a) (kd:=o.kind)).gd g
  ·split
   ·exact (hp.XZ (a:=o.a) (b:=o.b) (c:=o.c)).gd g
   ·split
    ·exact g
    ·split
     ·exact g
     ·split
      ·exact rT hp g
      ·exact g
theorem vR:Gd hp0.AD hp0.buffer:=fun k k8 kv=>by
 have:ob hp0.AD k=CB 0:=by
  unfold hp0 ob;simp only;rw [List.getD_eq_getElem?_getD,List.getElem?_replicate,if_pos k8];rfl
 rw [this] at kv;cases kv
theorem aQ (l:List Op5): ∀i,Gd (JF l i).1.AD (JF l i).1.buffer
 | 0=>vR
 | i+1=>(OO l i).1.gd (aQ l i)
end Go.Proofs.Ytklmcfpgdfibnaa.P
namespace Go.Proofs.Ytklmcfpgdfibnaa.P
open Go Go.Proofs.Ytklmcfpgdfibnaa Go.Proofs.Ytklmcfpgdfibnaa.Eng
set_option linter.unusedVariables false
set_option maxHeartbeats 4000000
set_option linter.unusedVariables false
set_option linter.unusedSimpArgs false
attribute [local irreducible] prP gP gE gF AV ixW ldc ldg ldl stc stg scW mkW apW BC cl2 BS CU B1
variable {w0:World}
theorem W6 {L:List Int} {i:Nat} {z:Int} {K:J2} (hb:QU L) (hi:i≤L.length) (h: ∀(x:Hp) i' z',BT x→Gd x.AD x.buffer→i'≤L.length→K [iv i',I z'] (trees x)):cl2 ⟨Try.prog,w0⟩ 94 GQ.sg [iv i,I z] [tY L] K:=by
 refine GQ.cl2 (ZP (m:=30) hb hi (by omega) fun l i1 z1 hl ho h1=> ?_)
 refine cD (by omega) (fun o hx=>(ho o hx).f) ?_
 exact h _ i1 z1 (OO l _).1 (aQ l _) h1
structure oV (x:Hp):Prop where
 fits:Fits x
 I8:T4 x
 gd:BT x→Gd x.AD x.buffer
 of: ∀o∈x.AD,OF o
theorem oV.ok {x:Hp} (h:BT x) (g:Gd x.AD x.buffer):oV x:=⟨h.fits,h.I8,fun _=>g,(h.st h.I8).of⟩
theorem aC {b:Hp} (hb:BT b) {k:Nat} {v:AG} (hf:v.field.length=3) (hn:F64 v.gen∧F64 v.site∧F64 v.holds∧F64 v.roots∧F64 v.count∧ ∀f∈v.field,F64 f)
  (hg:BT ⟨b.AD.set k v,b.B2,b.buffer,b.sites⟩→Gd (b.AD.set k v) b.buffer):oV ⟨b.AD.set k v,b.B2,b.buffer,b.sites⟩:=by
 obtain ⟨f1,f2,f3,f4,f5,f6⟩:=hb.fits
 obtain ⟨n1,n2,n3⟩:=hb.I8
 refine ⟨⟨by simpa using f1,fun o ho=> ?_,f3,f4,f5,f6⟩,⟨fun o ho=> ?_,n2,n3⟩,hg,fun o ho=> ?_⟩
 ·rcases List.mem_or_eq_of_mem_set ho with h | rfl
  ·exact f2 o h
  ·omega
 ·rcases List.mem_or_eq_of_mem_set ho with h | rfl
  ·exact n1 o h
  ·exact hn
 ·rcases List.mem_or_eq_of_mem_set ho with h | rfl
  ·exact (hb.st hb.I8).of o h
  ·exact ⟨hn.1,hf,hn.2.2.2.2.2⟩
theorem Gd.as {a b:List AG} {L:List Int} (g:Gd a L) (h: ∀i,i<8→(ob b i).live=(ob a i).live∧(ob b i).holds=(ob a i).holds∧(ob b i).roots=(ob a i).roots) (hk: ∀y,y<8→BH b y=BH a y) (hs: ∀x∈L,AA b x=AA a x):Gd b L:=fun k k8 kv=>by
 have kr: ∀{s y},s<8∧(ob a s).live=true→Reach a s y→Reach b s y:=fun hs hr=>(hr.JR (P:=fun y=>y<8) hs.1 fun y hy j hj=>⟨by rw [hk y hy];exact hj,(B5 hj).2.1⟩).1
 rcases g k k8 (by rw [←(h k k8).1];exact kv) with ⟨e,he,hr⟩ | ⟨x,hx,s,hsx,hr⟩
 ·exact .inl ⟨e,⟨he.lt,by rw [(h e he.lt).1];exact he.lv,by rw [(h e he.lt).2.1,(h e he.lt).2.2];exact he.pos⟩,kr ⟨he.lt,he.lv⟩ hr⟩
 ·exact .inr ⟨x,hx,s,by rw [hs x hx];exact hsx,kr (IT hsx) hr⟩
theorem vN {b:Hp} (hb:BT b) (g:Gd b.AD b.buffer) {k:Nat} (k8:k<8) {v:Int} (hx:BT ⟨b.AD.set k {ob b.AD k with gen:=v},b.B2,b.buffer,b.sites⟩):Gd (b.AD.set k {ob b.AD k with gen:=v}) b.buffer:=by
 have hol:=hb.ol
 have hkl:k<b.AD.length:=by omega
 have eo: ∀i,ob (b.AD.set k {ob b.AD k with gen:=v}) i=if i=k then {ob b.AD k with gen:=v} else ob b.AD i:=fun i=>DO hkl
 have sl: ∀x:Int,(0≤AA b.AD x↔0≤AA (b.AD.set k {ob b.AD k with gen:=v}) x)→AA (b.AD.set k {ob b.AD k with gen:=v}) x=AA b.AD x:=fun x hh=>by
  have m1: ∀l:List AG,AA l x= -1∨(0≤AA l x∧AA l x=x % 8):=fun l=>by
   by_cases h0:0≤AA l x
   ·exact .inr ⟨h0,(BJ h0).2.2.1⟩
   ·left
    unfold AA at h0 ⊢
    split
    ·rfl
    ·rename_i h1
     rw [if_neg h1] at h0
     split at h0
     ·omega
     ·rename_i h2;rw [if_neg h2]
  rcases m1 b.AD with h1 | h1 <;> rcases m1 (b.AD.set k {ob b.AD k with gen:=v}) with h2 | h2 <;> omega
 have hxp:=hx.hp
 have hbp:=hb.hp
 have fl: ∀y,y<8→ ∀f∈(ob b.AD y).field,AA (b.AD.set k {ob b.AD k with gen:=v}) f=AA b.AD f:=fun y hy f hf=>by
  by_cases h1:f= -1
  ·subst h1;rw [ET (.inl (by omega)),ET (.inl (by omega))]
  ·have a:=((hbp.obj y hy).lead f hf h1).2
   have c:=((hxp.obj y hy).lead f (by
    rw [eo]
    by_cases he:y=k
    ·rw [if_pos he, ←he];exact hf
    ·rw [if_neg he];exact hf) h1).2
   exact sl f ⟨fun _=>c,fun _=>a⟩
 refine g.as (fun i hi=> ?_) (fun y hy=> ?_) fun x hx'=> ?_
 ·rw [eo];split
  ·rename_i he;subst he;exact ⟨rfl,rfl,rfl⟩
  ·exact ⟨rfl,rfl,rfl⟩
 ·have ef:(ob (b.AD.set k {ob b.AD k with gen:=v}) y).field=(ob b.AD y).field:=by
   rw [eo];split
   ·rename_i he;subst he;rfl
   ·rfl
  unfold BH
  rw [ef]
  congr 1
  exact List.map_congr_left fun f hf=>fl y hy f hf
 ·have a:0≤AA b.AD x:=hbp.blv x hx'
  have c:0≤AA (b.AD.set k {ob b.AD k with gen:=v}) x:=hxp.blv x hx'
  exact sl x ⟨fun _=>c,fun _=>a⟩
theorem vV {b:Hp} (hb:BT b) {k:Nat} (k8:k<8) {v f:Int} {r:List Int} (v0:0≤v) (hfr:(ob b.AD k).field=f::r) (hvf:v≠f) {w:AG} (wl:w.live=(ob b.AD k).live) (wg:w.gen=(ob b.AD k).gen) (wh:w.holds=(ob b.AD k).holds) (wr:w.roots=(ob b.AD k).roots) (wc:w.count=(ob b.AD k).count) (wf:w.field=v::r) (hx:BT ⟨b.AD.set k w,b.B2,b.buffer,b.sites⟩):False:=by
 have hol:=hb.ol
 have hkl:k<b.AD.length:=by omega
 have hxp:=hx.hp
 have hbp:=hb.hp
 have eo: ∀i,ob (b.AD.set k w) i=if i=k then w else ob b.AD i:=fun i=>DO hkl
 have sl: ∀x,AA (b.AD.set k w) x=AA b.AD x:=fun x=>DZ (by simp) fun i _=>by
  rw [eo];split
  ·rename_i he;subst he;exact ⟨wl,wg⟩
  ·exact ⟨rfl,rfl⟩
 have lv:=((hxp.obj k k8).lead v (by rw [eo,if_pos rfl,wf];simp) (by omega))
 have kv:w.live=true:=by have:=lv.1;rw [eo,if_pos rfl] at this;exact this
 rw [sl] at lv
 have hbd:=BJ lv.2
 obtain ⟨s,hs⟩: ∃s:Nat,(AA b.AD v).toNat=s:=⟨_,rfl⟩
 rw [hs] at hbd
 have s8:=hbd.2.2.2.1
 have sv:=hbd.2.2.2.2.1
 have g1:=((hbp.obj s s8).lv sv).1
 have g2:=(hbp.obj s s8).gen.2
 have hid:v=CA s (ob b.AD s).gen:=by rw [GS s8 g1 g2];omega
 have c1:=((hbp.obj s s8).lv sv).2.2.2.2.1
 have same:(ob (b.AD.set k w) s).live=(ob b.AD s).live∧(ob (b.AD.set k w) s).gen=(ob b.AD s).gen∧(ob (b.AD.set k w) s).holds=(ob b.AD s).holds∧(ob (b.AD.set k w) s).roots=(ob b.AD s).roots∧(ob (b.AD.set k w) s).count=(ob b.AD s).count:=by
  rw [eo];split
  ·rename_i he;subst he;exact ⟨wl,wg,wh,wr,wc⟩
  ·exact ⟨rfl,rfl,rfl,rfl,rfl⟩
 have c2:=((hxp.obj s s8).lv (by rw [same.1];exact sv)).2.2.2.2.1
 rw [same.2.1,same.2.2.1,same.2.2.2.1,same.2.2.2.2, ←hid] at c2
 rw [←hid] at c1
 have ed:=PH (os:=b.AD) (k:=k) (v:=w) (id:=v) hkl
 have e1:KV v (ob b.AD k)=r.count v:=by
  unfold KV;rw [←wl,if_pos kv,hfr,List.count_cons_of_ne (Ne.symm hvf)]
 have e2:KV v w=r.count v+1:=by
  unfold KV;rw [if_pos kv,wf,List.count_cons_self]
 simp only [List.count_nil] at c1 c2
 omega
theorem vQ {b:Hp} (hb:BT b) {k:Nat} (k8:k<8) {v:Int} (v0:0≤v) (hx:BT ⟨b.AD.set k {ob b.AD k with field:=(ob b.AD k).field.set 0 v},b.B2,b.buffer,b.sites⟩):b.AD.set k {ob b.AD k with field:=(ob b.AD k).field.set 0 v}=b.AD:=by
 have h3:=(hb.hp.obj k k8).len
 obtain ⟨f,r,hfr⟩: ∃f r,(ob b.AD k).field=f::r:=by
  cases hf:(ob b.AD k).field with
  | nil=>rw [hf] at h3;cases h3
  | cons f r=>exact ⟨f,r,rfl⟩
 have es:(ob b.AD k).field.set 0 v=v::r:=by rw [hfr];rfl
 by_cases hvf:v=f
 ·rw [es,hvf, ←hfr]
  exact List.ext_getElem (by simp) fun i h1 h2=>by
   rw [List.getElem_set]
   split
   ·rename_i he;subst he;rw [DB h2]
   ·rfl
 ·exact (vV hb k8 v0 hfr hvf (w:={ob b.AD k with field:=(ob b.AD k).field.set 0 v}) rfl rfl rfl rfl rfl es hx).elim
theorem yT {l:List Int} (h: ∀f∈l,F64 f) {v:Int} (hv:F64 v): ∀f∈l.set 0 v,F64 f:=fun f hf=>by
 rcases List.mem_or_eq_of_mem_set hf with hf | rfl
 ·exact h f hf
 ·exact hv
theorem ZR {L:List Int} {i:Nat} {z:Int} {K:J2} (hb:QU L) (hi:i≤L.length) (h: ∀(x:Hp) i' z',oV x→i'≤L.length→K [iv i',I z'] (trees x)):cl2 ⟨Try.prog,w0⟩ 96 G5.sg [iv i,I z] [tY L] K:=by
 refine G5.cl2 ?_
 unfold G5.txt
 refine W6 hb hi fun b i1 z1 ok gd h1=>CP hb h1 fun k i2 z2 k0 k1 h2=>CP hb h2 fun c i3 z3 c0 c1 h3=> ?_
 obtain ⟨k,rfl⟩: ∃n:Nat,k=n:=⟨k.toNat,by omega⟩
 have hol:=ok.ol
 have hp:=ok.hp
 have k8:k<8:=by omega
 have kl:k<b.AD.length:=by omega
 have hk:=hp.obj k k8
 have nk:=ok.I8.ob k
 have fits:=ok.fits
 simp only [trees,List.cons_append,List.nil_append]
 simp only [AK,AO,AL,AM,AT,AE,AJ,AI,AR,AQ,AN,AU,AP,AS,BG,BO,BL,BN,BM,BP,BK,A5,A6,A8,AZ,A7,A4]
 refine BZ (A9 (fun _=> ?_) fun _=>BZ (A9 (fun _=> ?_) fun _=>BZ (A9 (fun _=> ?_) fun _=>BZ (A9 (fun _=> ?_) fun _=>BZ (A9 (fun _=> ?_) fun _=>BZ (A9 (fun _=> ?_) fun _=>BZ (A9 (fun _=> ?_) fun _=>h b i3 z3 (.ok ok gd) h3)))))))
 ·have cb:0≤(ob b.AD k).count∧(ob b.AD k).count≤1000:=by
   refine ⟨?_,hk.cb⟩
   cases hv:(ob b.AD k).live with
   | false=>have:=(hk.dead hv).2.2.2.1;omega
   | true=>have:=(hk.lv hv).2.2.2.2.2.1;omega
  refine AH kl (KJ kl (by decide) rfl (FY ⟨by omega,by omega⟩ (AH kl (lA kl ?_))))
  rw [DB kl]
  refine h ⟨b.AD.set k {ob b.AD k with count:=(ob b.AD k).count+1},b.B2,b.buffer,b.sites⟩ i3 z3 (aC ok hk.len ⟨nk.1,nk.2.1,nk.2.2.1,nk.2.2.2.1,B8 (by simp only;omega),nk.2.2.2.2.2⟩ fun hx=> ?_) h3
  have eo: ∀i,ob (b.AD.set k {ob b.AD k with count:=(ob b.AD k).count+1}) i=if i=k then {ob b.AD k with count:=(ob b.AD k).count+1} else ob b.AD i:=fun i=>DO kl
  have sm: ∀i,(ob b.AD i).live=(ob (b.AD.set k {ob b.AD k with count:=(ob b.AD k).count+1}) i).live∧(ob b.AD i).gen=(ob (b.AD.set k {ob b.AD k with count:=(ob b.AD k).count+1}) i).gen∧(ob b.AD i).field=(ob (b.AD.set k {ob b.AD k with count:=(ob b.AD k).count+1}) i).field∧(ob b.AD i).holds=(ob (b.AD.set k {ob b.AD k with count:=(ob b.AD k).count+1}) i).holds∧(ob b.AD i).roots=(ob (b.AD.set k {ob b.AD k with count:=(ob b.AD k).count+1}) i).roots:=fun i=>by
   rw [eo];split
   ·rename_i he;subst he;exact ⟨rfl,rfl,rfl,rfl,rfl⟩
   ·exact ⟨rfl,rfl,rfl,rfl,rfl⟩
  exact gd.upd (by simp) (fun i=>⟨(sm i).1,(sm i).2.1,(sm i).2.2.1⟩) (fun e he=> .inl ⟨he.lt,by rw [←(sm e).1];exact he.lv,by rw [←(sm e).2.2.2.1, ←(sm e).2.2.2.2];exact he.pos⟩) fun _ hx _=>hx
 ·have fl:(0:Nat)<(ob b.AD k).field.length:=by rw [hk.len];decide
  refine AH kl (S1 kl (CP hb h3 fun v i4 z4 v0 v1 h4=> ?_))
  rw [H6 kl]
  simp only [AK,AO,AL,AM,AT,AE,AJ,AI,AR,AQ,AN,AU,AP,AS,BG,BO,BL,BN,BM,BP,BK,A5,A6,A8,AZ,A7,A4]
  refine AH (j:=0) fl (stF kl fl ?_)
  refine h ⟨b.AD.set k {ob b.AD k with field:=(ob b.AD k).field.set 0 v},b.B2,b.buffer,b.sites⟩ i4 z4 (aC ok (by simp [hk.len]) ⟨nk.1,nk.2.1,nk.2.2.1,nk.2.2.2.1,nk.2.2.2.2.1,yT nk.2.2.2.2.2 (B8 (by omega))⟩ fun hx=> ?_) h4
  rw [vQ ok k8 v0 hx]
  exact gd
 ·refine AH kl (KJ kl (by decide) rfl (HN ?_))
  have bl:=fits.bl
  refine D9 rfl (by first | omega | (simp only [AK,AO,AL,AM,AT,AE,AJ,AI,AR,AQ,AN,AU,AP,AS,BG,BO,BL,BN,BM,BP,BK,A5,A6,A8,AZ,A7,A4];omega)) ?_
  simp only [AK,AO,AL,AM,AT,AE,AJ,AI,AR,AQ,AN,AU,AP,AS,BG,BO,BL,BN,BM,BP,BK,A5,A6,A8,AZ,A7,A4]
  rw [DS]
  have ib:=ZG k (ob b.AD k).gen
  refine h ⟨b.AD,b.B2,b.buffer++[CA k (ob b.AD k).gen],b.sites⟩ i3 z3 ⟨⟨fits.ol,fits.of,fits.wl, ?_,fits.sl,fits.ss⟩,⟨ok.I8.obj,ok.I8.weak,fun x hx=> ?_⟩,fun _=>gd.mono fun x hx _=>List.mem_append_left _ hx,(ok.st ok.I8).of⟩ h3
  ·have:=ok.wA;simp only [List.length_append,List.length_singleton];omega
  ·rcases List.mem_append.1 hx with hx | hx
   ·exact ok.I8.buf x hx
   ·rw [List.mem_singleton.1 hx];exact B8 (by omega)
 ·refine ML hb h3 fun u i4 z4 h4=>FH (l:=[0,9, -1,7]) hb h4 (by simp) fun v hv i5 z5 h5=> ?_
  have w0l:0<b.B2.length:=by have:=ok.wl;omega
  refine AH (j:=0) w0l (QW (y:=⟨u,v⟩) w0l rfl ?_)
  refine h ⟨b.AD,b.B2.set 0 ⟨u,v⟩,b.buffer,b.sites⟩ i5 z5 ⟨⟨fits.ol,fits.of,by simpa using fits.wl,fits.bl,fits.sl,fits.ss⟩,⟨ok.I8.obj,fun w hw=> ?_,ok.I8.buf⟩,fun _=>gd,(ok.st ok.I8).of⟩ h5
  rcases List.mem_or_eq_of_mem_set hw with hw | rfl
  ·exact ok.I8.weak w hw
  ·simp only [List.mem_cons,List.not_mem_nil,or_false] at hv
   exact B8 (by simp only;omega)
 ·refine MN (l:=[⟨#[]⟩,⟨#[97]⟩,⟨#[116,111,111,108,111,110,103,97,115,105,116,101]⟩]) hb h3 (by simp) fun s hs i4 z4 h4=> ?_
  have sl:=ok.sites.len
  refine D9 rfl (by first | omega | (simp only [AK,AO,AL,AM,AT,AE,AJ,AI,AR,AQ,AN,AU,AP,AS,BG,BO,BL,BN,BM,BP,BK,A5,A6,A8,AZ,A7,A4];omega)) ?_
  simp only [AK,AO,AL,AM,AT,AE,AJ,AI,AR,AQ,AN,AU,AP,AS,BG,BO,BL,BN,BM,BP,BK,A5,A6,A8,AZ,A7,A4]
  rw [gD]
  refine h ⟨b.AD,b.B2,b.buffer,b.sites++[s]⟩ i4 z4 ⟨⟨fits.ol,fits.of,fits.wl,fits.bl,by simp only [List.length_append,List.length_singleton];omega,fun x hx=> ?_⟩,⟨ok.I8.obj,ok.I8.weak,ok.I8.buf⟩,fun _=>gd,(ok.st ok.I8).of⟩ h4
  rcases List.mem_append.1 hx with hx | hx
  ·exact fits.ss x hx
  ·rw [List.mem_singleton.1 hx]
   simp only [List.mem_cons,List.not_mem_nil,or_false] at hs
   rcases hs with rfl | rfl | rfl <;> decide
 ·refine Y2 (by omega) ?_
  have e1:HF (tR tO b.AD) [] (AB (iv 0)*8) (AB (iv k)*8)=tR tO (b.AD.take k):=by
   rw [AW,AW,rC,List.drop_zero]
  rw [e1]
  refine h ⟨b.AD.take k,b.B2,b.buffer,b.sites⟩ i3 z3 ⟨⟨by simp only [List.length_take];omega,fun o ho=>fits.of o (List.mem_of_mem_take ho),fits.wl,fits.bl,fits.sl,fits.ss⟩,⟨fun o ho=>ok.I8.obj o (List.mem_of_mem_take ho),ok.I8.weak,ok.I8.buf⟩,fun hx=> ?_,fun o ho=>(ok.st ok.I8).of o (List.mem_of_mem_take ho)⟩ h3
  have:=hx.ol
  simp only [List.length_take] at this
  omega
 ·refine FH (l:=[0,999,1000]) hb h3 (by simp) fun v hv i4 z4 h4=>AH kl (qT kl ?_)
  rw [DB kl]
  simp only [List.mem_cons,List.not_mem_nil,or_false] at hv
  exact h ⟨b.AD.set k {ob b.AD k with gen:=v},b.B2,b.buffer,b.sites⟩ i4 z4 (aC ok hk.len ⟨B8 (by simp only;omega),nk.2.1,nk.2.2.1,nk.2.2.2.1,nk.2.2.2.2.1,nk.2.2.2.2.2⟩ fun hx=>vN ok gd k8 hx) h4
end Go.Proofs.Ytklmcfpgdfibnaa.P
namespace Go.Proofs.Ytklmcfpgdfibnaa.P
open Go Go.Proofs.Ytklmcfpgdfibnaa Go.Proofs.Ytklmcfpgdfibnaa.Eng
set_option linter.unusedVariables false
abbrev Que:=List (Int×Int)
def inQ (q:Que) (s:Int):Prop:=s∈q.map (·.1)
instance (q:Que) (s:Int):Decidable (inQ q s):=inferInstanceAs (Decidable (_∈_))
def FW (but:Int) (q:Que) (p s:Int):Que:=if s<0∨s=but∨inQ q s then q else q++[(s,p)]
def D8 (os:List AG) (but:Int) (ids:List Int):Que:=ids.foldl (fun q x=>FW but q (-1) (AA os x)) []
def QE (os:List AG) (but:Int) (q:Que) (s:Int):Que:=(BH os s.toNat).foldl (fun q' t=>FW but q' s t) q
def gQ (q:Que) (i:Nat):Int:=(q.getD i (0,0)).1
def P0 (os:List AG) (but:Int):Nat→Nat→Que→Que
 | 0,_,q=>q
 | f+1,i,q=>if i<q.length then P0 os but f (i+1) (QE os but q (gQ q i)) else q
def NR (os:List AG) (but:Int) (ids:List Int):Que:=P0 os but 9 0 (D8 os but ids)
theorem PA {q r:Que} {s:Int}:inQ (q++r) s↔inQ q s∨inQ r s:=by unfold inQ;rw [List.map_append,List.mem_append]
theorem TG {q:Que} {i:Nat} (h:i<q.length):(q[i]).1=gQ q i:=by simp [gQ,h]
theorem TJ {q:Que} {i:Nat} (h:i<q.length):inQ q (gQ q i):=by
 rw [←TG h];exact List.mem_map.2 ⟨_,List.getElem_mem h,rfl⟩
theorem O5 {q r:Que} {i:Nat} (h:i<q.length):gQ (q++r) i=gQ q i:=by
 unfold gQ;rw [List.getD_eq_getElem?_getD,List.getElem?_append_left h,List.getD_eq_getElem?_getD]
structure QI (os:List AG) (but:Int) (q:Que):Prop where
 nd:(q.map (·.1)).Nodup
 lv: ∀s,inQ q s→ ∃k:Nat,s=(k:Int)∧k<8∧(ob os k).live=true∧s≠but
theorem QI.nil (os:List AG) (but:Int):QI os but []:=⟨List.nodup_nil,fun s h=>by simp [inQ] at h⟩
theorem QI.len {os:List AG} {but:Int} {q:Que} (h:QI os but q):q.length≤8:=by
 have:=few (n:=8) (l:=q.map (·.1)) (fun x=>x.toNat) h.nd (fun x hx=>by obtain ⟨k,h1,h2,_⟩:=h.lv x hx;omega) fun x hx y hy he=>by
  obtain ⟨k,h1,_⟩:=h.lv x hx
  obtain ⟨k',h1',_⟩:=h.lv y hy
  omega
 simpa using this
theorem QI.add {os:List AG} {but:Int} {q:Que} {p s:Int} (h:QI os but q) (hs:0≤s→s.toNat<8∧(ob os s.toNat).live=true):QI os but (FW but q p s):=by
 unfold FW
 split
 ·exact h
 ·rename_i hn
  simp only [not_or] at hn
  refine ⟨?_,fun x hx=> ?_⟩
  ·rw [List.map_append]
   exact List.nodup_append.2 ⟨h.nd,by simp,fun a ha b hb=>by
    have hb:b=s:=by simpa using hb
    rw [hb];rintro rfl
    exact hn.2.2 ha⟩
  ·rcases PA.1 hx with hx | hx
   ·exact h.lv x hx
   ·have hx:x=s:=by simpa [inQ] using hx
    subst hx
    exact ⟨x.toNat,by omega,(hs (by omega)).1,(hs (by omega)).2,hn.2.1⟩
theorem UE {os:List AG} {x:Int}:0≤AA os x→(AA os x).toNat<8∧(ob os (AA os x).toNat).live=true:=fun h=>⟨(BJ h).2.2.2.1,(BJ h).2.2.2.2.1⟩
def ME (q q':Que):Prop:= ∃r,q'=q++r
theorem ME.refl (q:Que):ME q q:=⟨[],by simp⟩
theorem ME.trans {a b c:Que}:ME a b→ME b c→ME a c:=fun ⟨r,h⟩ ⟨r',h'⟩=>⟨r++r',by rw [h',h,List.append_assoc]⟩
theorem ME.add {but:Int} {q:Que} {p s:Int}:ME q (FW but q p s):=by
 unfold FW;split
 ·exact .refl q
 ·exact ⟨_,rfl⟩
theorem ME.inq {q q':Que} {s:Int} (h:ME q q') (hs:inQ q s):inQ q' s:=by obtain ⟨r,rfl⟩:=h;exact PA.2 (.inl hs)
theorem ME.len {q q':Que} (h:ME q q'):q.length≤q'.length:=by obtain ⟨r,rfl⟩:=h;simp
theorem ME.gq {q q':Que} {i:Nat} (h:ME q q') (hi:i<q.length):gQ q' i=gQ q i:=by obtain ⟨r,rfl⟩:=h;exact O5 hi
theorem uC {but:Int} {q:Que} {p s:Int} (h0:0≤s) (hb:s≠but):inQ (FW but q p s) s:=by
 unfold FW;split
 ·rename_i h
  rcases h with h | h | h
  ·omega
  ·exact absurd h hb
  ·exact h
 ·exact PA.2 (.inr (by simp [inQ]))
theorem iS {but:Int} {q:Que} {p s x:Int} (h:inQ (FW but q p s) x):inQ q x∨(x=s∧0≤s∧s≠but):=by
 unfold FW at h;split at h
 ·exact .inl h
 ·rename_i hn
  simp only [not_or] at hn
  rcases PA.1 h with h | h
  ·exact .inl h
  ·exact .inr ⟨by simpa [inQ] using h,by omega,hn.2.1⟩
theorem ZX {os:List AG} {but:Int} {p:Int}: ∀{l:List Int} {q:Que},QI os but q→(∀s∈l,0≤s→s.toNat<8∧(ob os s.toNat).live=true)→
  QI os but (l.foldl (fun q' t=>FW but q' p t) q)∧ME q (l.foldl (fun q' t=>FW but q' p t) q)∧(∀s∈l,0≤s→s≠but→inQ (l.foldl (fun q' t=>FW but q' p t) q) s)∧ ∀x,inQ (l.foldl (fun q' t=>FW but q' p t) q) x→inQ q x∨(x∈l∧0≤x∧x≠but)
 | [],q,h,_=>⟨h, .refl q,by simp,fun x hx=> .inl hx⟩
 | s::l,q,h,hl=>by
   obtain ⟨h1,h2,h3,h4⟩:=ZX (p:=p) (l:=l) (q:=FW but q p s) (h.add (hl s (by simp))) fun t ht=>hl t (by simp [ht])
   rw [List.foldl_cons]
   refine ⟨h1,ME.add.trans h2,fun t ht h0 hb=> ?_,fun x hx=> ?_⟩
   ·rcases List.mem_cons.1 ht with rfl | ht
    ·exact h2.inq (uC h0 hb)
    ·exact h3 t ht h0 hb
   ·rcases h4 x hx with hx | ⟨a,b,c⟩
    ·rcases iS hx with hx | ⟨a,b,c⟩
     ·exact .inl hx
     ·exact .inr ⟨by simp [a],by omega,by rw [a];exact c⟩
    ·exact .inr ⟨by simp [a],b,c⟩
theorem jU (os:List AG) (but:Int) (ids:List Int):D8 os but ids=(ids.map (AA os)).foldl (fun q t=>FW but q (-1) t) []:=by
 unfold D8;rw [List.foldl_map]
theorem XW (os:List AG) (but:Int) (ids:List Int):QI os but (D8 os but ids)∧(∀x∈ids,0≤AA os x→AA os x≠but→inQ (D8 os but ids) (AA os x))∧ ∀s,inQ (D8 os but ids) s→ ∃x∈ids,AA os x=s∧0≤s∧s≠but:=by
 rw [jU]
 obtain ⟨h1,_,h3,h4⟩:=ZX (os:=os) (but:=but) (p:= -1) (l:=ids.map (AA os)) (QI.nil os but) fun s hs h0=>by
  obtain ⟨x,_,rfl⟩:=List.mem_map.1 hs
  exact UE h0
 refine ⟨h1,fun x hx h0 hb=>h3 _ (List.mem_map.2 ⟨x,hx,rfl⟩) h0 hb,fun s hs=> ?_⟩
 rcases h4 s hs with h | ⟨a,b,c⟩
 ·simp [inQ] at h
 ·obtain ⟨x,hx,rfl⟩:=List.mem_map.1 a
  exact ⟨x,hx,rfl,b,c⟩
theorem WN {os:List AG} {but:Int} {q:Que} (s:Int) (h:QI os but q):QI os but (QE os but q s)∧ME q (QE os but q s)∧(∀j∈BH os s.toNat,j≠but→inQ (QE os but q s) j)∧ ∀x,inQ (QE os but q s) x→inQ q x∨(x∈BH os s.toNat∧x≠but):=by
 obtain ⟨h1,h2,h3,h4⟩:=ZX (p:=s) (l:=BH os s.toNat) h fun t ht _=>⟨(B5 ht).2.1,(B5 ht).2.2.2.2⟩
 exact ⟨h1,h2,fun j hj hb=>h3 j hj (B5 hj).1 hb,fun x hx=>(h4 x hx).imp id fun ⟨a,_,c⟩=>⟨a,c⟩⟩
inductive QK (os:List AG) (but:Int) (s:Nat):Nat→Prop
 | refl:QK os but s s
 | step {k:Nat} {j:Int}:QK os but s k→j∈BH os k→j≠but→QK os but s j.toNat
def eD (os:List AG) (but:Int) (ids:List Int) (k:Nat):Prop:= ∃x∈ids, ∃s:Nat,AA os x=(s:Int)∧(s:Int)≠but∧QK os but s k
structure BI (os:List AG) (but:Int) (ids:List Int) (i:Nat) (q:Que):Prop where
 qi:QI os but q
 snd: ∀s,inQ q s→eD os but ids s.toNat
 ini: ∀x∈ids,0≤AA os x→AA os x≠but→inQ q (AA os x)
 cls: ∀m,m<i→m<q.length→ ∀j∈BH os (gQ q m).toNat,j≠but→inQ q j
theorem BI.start (os:List AG) (but:Int) (ids:List Int):BI os but ids 0 (D8 os but ids):=by
 obtain ⟨h1,h2,h3⟩:=XW os but ids
 refine ⟨h1,fun s hs=> ?_,h2,fun m hm=>by omega⟩
 obtain ⟨x,hx,rfl,h0,hb⟩:=h3 s hs
 exact ⟨x,hx,(AA os x).toNat,by omega,by rw [Int.toNat_of_nonneg h0];exact hb, .refl⟩
theorem BI.step {os:List AG} {but:Int} {ids:List Int} {i:Nat} {q:Que} (h:BI os but ids i q) (hi:i<q.length):BI os but ids (i+1) (QE os but q (gQ q i)):=by
 obtain ⟨h1,h2,h3,h4⟩:=WN (gQ q i) h.qi
 refine ⟨h1,fun s hs=> ?_,fun x hx h0 hb=>h2.inq (h.ini x hx h0 hb),fun m hm hml j hj hb=> ?_⟩
 ·rcases h4 s hs with hs | ⟨hs,hb⟩
  ·exact h.snd s hs
  ·obtain ⟨x,hx,s',e1,e2,hr⟩:=h.snd _ (TJ hi)
   exact ⟨x,hx,s',e1,e2, .step hr hs hb⟩
 ·rcases Nat.lt_or_ge m i with hmi | hmi
  ·rw [h2.gq (by omega)] at hj
   exact h2.inq (h.cls m hmi (by omega) j hj hb)
  ·have:m=i:=by omega
   subst this
   rw [h2.gq hi] at hj
   exact h3 j hj hb
theorem BI.run {os:List AG} {but:Int} {ids:List Int}: ∀(f i:Nat) (q:Que),BI os but ids i q→8<f+i→BI os but ids (P0 os but f i q).length (P0 os but f i q)∧ME q (P0 os but f i q)
 | 0,i,q,h,hf=>by
   have:=h.qi.len
   exact ⟨⟨h.qi,h.snd,h.ini,fun m hm hl=>h.cls m (by simp only [P0] at hl;omega) hl⟩, .refl q⟩
 | f+1,i,q,h,hf=>by
   simp only [P0]
   split
   ·rename_i hi
    obtain ⟨h1,h2⟩:=BI.run f (i+1) _ (h.step hi) (by omega)
    exact ⟨h1,(WN (gQ q i) h.qi).2.1.trans h2⟩
   ·rename_i hi
    exact ⟨⟨h.qi,h.snd,h.ini,fun m hm hl=>h.cls m (by omega) hl⟩, .refl q⟩
theorem Z0 (os:List AG) (but:Int) (ids:List Int):QI os but (NR os but ids)∧ ∀k:Nat,inQ (NR os but ids) (k:Int)↔eD os but ids k:=by
 have h:BI os but ids (NR os but ids).length (NR os but ids):=(BI.run 9 0 (D8 os but ids) (BI.start os but ids) (by omega)).1
 refine ⟨h.qi,fun k=>⟨fun hk=>by have:=h.snd _ hk;rwa [Int.toNat_natCast] at this, ?_⟩⟩
 rintro ⟨x,hx,s,hs,hsb,hr⟩
 have hst:inQ (NR os but ids) (s:Int):=by rw [←hs];exact h.ini x hx (by omega) (by rw [hs];exact hsb)
 induction hr with
 | refl=>exact hst
 | step hr' hj hb ih=>
   rename_i y j
   have h0:=B5 hj
   obtain ⟨p,hp,he⟩:=List.mem_map.1 ih
   obtain ⟨m,hm,rfl⟩:=List.getElem_of_mem hp
   rw [TG hm] at he
   have:=h.cls m hm hm j (by show j∈BH os (gQ _ m).toNat;rw [he,Int.toNat_natCast];exact hj) hb
   rw [←h0.2.2.1];exact this
theorem PJ {os:List AG} {s k:Nat}:QK os (-1) s k↔Reach os s k:=by
 constructor
 ·intro h
  induction h with
  | refl=>exact .refl
  | step _ hj _ ih=>exact .step ih hj
 ·intro h
  induction h with
  | refl=>exact .refl
  | step _ hj ih=>exact .step ih hj (by have:=(B5 hj).1;omega)
end Go.Proofs.Ytklmcfpgdfibnaa.P
