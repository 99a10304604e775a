/- A part of the proof. -/
import Derived.Test.YtklmcfpgdfibnaaKeRecD
import Derived.Test.YtklmcfpgdfibnaaKeRowB
import Derived.Test.YtklmcfpgdfibnaaKeHpFa
import Derived.Test.YtklmcfpgdfibnaaKeDrA
namespace Go.Proofs.Ytklmcfpgdfibnaa.P
open Go Go.Proofs.Ytklmcfpgdfibnaa Go.Proofs.Ytklmcfpgdfibnaa.Eng
set_option linter.unusedVariables false
set_option maxHeartbeats 4000000
set_option linter.unusedVariables false
set_option linter.unusedSimpArgs false
attribute [local irreducible] prP gP gE gF AX ixW ldc ldg ldl stc stg scW mkW apW BE cl2 BS DF CB
variable {w0:World}
theorem hX {L:List Int} {K:J2} (h:K [.bool (decide ((L.length:Int)>1048576))] []):cl2 ⟨Try.prog,w0⟩ 17 K3.sg [] [tY L] K:=by
 refine K3.cl2 ?_
 unfold K3.txt
 rw [iE]
 exact HB h
end Go.Proofs.Ytklmcfpgdfibnaa.P
namespace Go.Proofs.Ytklmcfpgdfibnaa.P
open Go Go.Proofs.Ytklmcfpgdfibnaa Go.Proofs.Ytklmcfpgdfibnaa.Eng
set_option linter.unusedVariables false
set_option maxHeartbeats 4000000
set_option linter.unusedVariables false
set_option linter.unusedSimpArgs false
attribute [local irreducible] prP gP gE gF AX ixW ldc ldg ldl stc stg scW mkW apW BE cl2 BS DF CB
variable {w0:World}
end Go.Proofs.Ytklmcfpgdfibnaa.P
namespace Go.Proofs.Ytklmcfpgdfibnaa.P
open Go Go.Proofs.Ytklmcfpgdfibnaa Go.Proofs.Ytklmcfpgdfibnaa.Eng
set_option linter.unusedVariables false
set_option maxHeartbeats 4000000
set_option linter.unusedVariables false
set_option linter.unusedSimpArgs false
attribute [local irreducible] prP gP gE gF AX ixW ldc ldg ldl stc stg scW mkW apW BE cl2 BS DF CB
variable {w0:World}
attribute [local irreducible] LC
end Go.Proofs.Ytklmcfpgdfibnaa.P
namespace Go.Proofs.Ytklmcfpgdfibnaa.P
open Go Go.Proofs.Ytklmcfpgdfibnaa Go.Proofs.Ytklmcfpgdfibnaa.Eng
set_option linter.unusedVariables false
set_option maxHeartbeats 4000000
set_option linter.unusedVariables false
set_option linter.unusedSimpArgs false
attribute [local irreducible] prP gP gE gF AX ixW ldc ldg ldl stc stg scW mkW apW BE cl2 BS DF CB
variable {w0:World}
theorem Bl {w a:Bool} {m:J2→Prop} {K:J2} (ha:a=w) (h:m K):gC (.bool a) w m K:= .inl ⟨by rw [ha],h⟩
theorem Ba {c:Prop} [Decidable c] {m:J2→Prop} {K:J2} (hc:c) (h:m K):gC (.bool (decide c)) true m K:=Bl (decide_eq_true hc) h
theorem iK {l:List Int} {x:Int} {K:J2} (hl:(l.length:Int)<2^62) (h:K [.bool (decide (x∈l))] []):cl2 ⟨Try.prog,w0⟩ 25 K6.sg [I x] [tI l] K:=by
 refine K6.cl2 ?_
 unfold K6.txt
 simp only [AE]
 refine BH (fun i=>[I x,iv i]) (fun _=>[]) l.length (fun i=>x∉l.take i) rfl rfl (by simp) (fun R i hi hP hR=> ?_)
 simp only [AI,AO,AM,AS,AH,AE,AG,AK,AN,AP,AR,AT,AQ,AL,BD,BJ,BL,BK,BM,BN,BG,A4,AZ,A6,A8,A5,A7]
 refine AY (AW (fun hlt=> ?_) fun hge=> ?_)
 ·have hlt:i<l.length:=by omega
  refine AJ hlt (ldI hlt (BF (AW (fun he=> ?_) fun hne=>BA (by omega) (hR hlt ?_))))
  ·rw [decide_eq_true (by rw [←he, ←DL hlt];exact List.getElem_mem hlt)] at h
   exact h
  ·rw [List.take_succ_eq_append_getElem hlt,List.mem_append,List.mem_singleton]
   rintro (hh | hh)
   ·exact hP hh
   ·exact hne (by rw [hh,DL hlt])
 ·have:i=l.length:=by omega
  subst this
  rw [List.take_length] at hP
  rw [decide_eq_false hP] at h
  exact h
end Go.Proofs.Ytklmcfpgdfibnaa.P
namespace Go.Proofs.Ytklmcfpgdfibnaa.P
open Go Go.Proofs.Ytklmcfpgdfibnaa Go.Proofs.Ytklmcfpgdfibnaa.Eng
set_option linter.unusedVariables false
section
variable {os:List AU} {ns:Nat} {buf:List Int} {k:Nat}
theorem Gd.put (h:HP os ns buf []) (k8:k<8) (hd:(ob os k).live=false) {t:Int} (g:Gd os buf):Gd (os.set k (K9 ((ob os k).gen+1) t)) buf:=by
 have hol:=h.ol
 have eo: ∀i,ob (os.set k (K9 ((ob os k).gen+1) t)) i=if i=k then K9 ((ob os k).gen+1) t else ob os i:=fun i=>DZ (by omega)
 have sl: ∀(x:Int) (s:Nat),AB os x=(s:Int)→s≠k∧AB (os.set k (K9 ((ob os k).gen+1) t)) x=(s:Int):=fun x s hs=>by
  have sv:=I3 hs
  have hsk:s≠k:=fun hh=>by rw [hh,hd] at sv;cases sv.2
  refine ⟨hsk, ?_⟩
  have hb:=BT (l:=os) (id:=x) (by omega)
  have e:(x % 8).toNat=s:=by omega
  have e2:(AB os x).toNat=s:=by omega
  rw [e2] at hb
  rw [IK hb.2.1 (by simpa using hol) (by rw [List.length_set];omega) (by rw [e,eo,if_neg hsk];exact sv.2) (by rw [e,eo,if_neg hsk];exact hb.2.2.2.2.2)]
  omega
 have kk: ∀y,(y<8∧(ob os y).live=true∧y≠k)→ ∀j∈BO os y,j∈BO (os.set k (K9 ((ob os k).gen+1) t)) y∧(j.toNat<8∧(ob os j.toNat).live=true∧j.toNat≠k):=fun y ⟨y8,yv,yk⟩ j hj=>by
  have hb:=CG hj
  obtain ⟨h0,f,hf,hs⟩:=HZ.1 hj
  obtain ⟨h1,h2⟩:=sl f j.toNat (by omega)
  exact ⟨HZ.2 ⟨h0,f,by rw [eo,if_neg yk];exact hf,by omega⟩,hb.2.1,hb.2.2.2.2,h1⟩
 intro y y8 yv
 by_cases hyk:y=k
 ·subst hyk
  exact .inl ⟨y,⟨k8,yv,by rw [eo,if_pos rfl];simp [K9]⟩, .refl⟩
 ·rw [eo,if_neg hyk] at yv
  rcases g y y8 yv with ⟨e,he,hr⟩ | ⟨x,hx,s,hs,hr⟩
  ·have hek:e≠k:=fun hh=>by have:=he.lv;rw [hh,hd] at this;cases this
   exact .inl ⟨e,⟨he.lt,by rw [eo,if_neg hek];exact he.lv,by rw [eo,if_neg hek];exact he.pos⟩,(hr.IT (P:=fun y=>y<8∧(ob os y).live=true∧y≠k) ⟨he.lt,he.lv,hek⟩ kk).1⟩
  ·have sv:=I3 hs
   obtain ⟨h1,h2⟩:=sl x s hs
   exact .inr ⟨x,hx,s,h2,(hr.IT (P:=fun y=>y<8∧(ob os y).live=true∧y≠k) ⟨sv.1,sv.2,h1⟩ kk).1⟩
theorem sC {ss:List ByteArray} {s:ByteArray} (h:HP os ns buf []) (g:Gd os buf):Gd (DD os ss s).1 buf:=by
 unfold DD
 split
 ·exact g
 ·split
  ·exact g
  ·split
   ·exact g
   ·rename_i hf _
    obtain ⟨h1,h2,h3⟩:=ME hf
    have hol:=h.ol
    simp only [F6,Bool.and_eq_true,Bool.not_eq_true',decide_eq_true_eq] at h3
    have hg:=(h.obj (B8 os).toNat (by omega)).gen
    simp only
    rw [JK (n:=(ob os (B8 os).toNat).gen+1) ⟨by omega,by omega⟩]
    exact g.put h (by omega) h3.1
theorem Dl (os:List AU) (P:Nat→Bool) (j:Nat):0≤S os P j:=by
 have:=MD (n:=8) (f:=fun _=>0) (g:=fun x=>if P x then E os x j else 0) fun x hx=>by
  split
  ·exact P8 _ _ _
  ·exact Int.le_refl _
 rw [KG (fun _ _=>rfl)] at this;exact this
theorem wR (h:HP os ns buf []) {e:Nat} (he:qP os e) (hr:Reach os e k): ¬RB os buf k∨ ∃x,Out os (fun i=>(ob os i).count) buf x∧Reach os x k:=by
 induction hr with
 | refl=>
   by_cases hb:RB os buf e
   ·right
    have:=Dl os (fun k=> !PG os buf k) e
    have:=he.pos
    exact ⟨e,⟨he.lt,hb,(h.ext he.lt he.lv).2 (by omega)⟩, .refl⟩
   ·exact .inl hb
 | step hr hj ih=>
   rename_i y j
   rcases ih with ih | ⟨x,hx,ih⟩
   ·by_cases hb:RB os buf j.toNat
    ·right
     have hjb:=CG hj
     have yl:=hr.live ⟨he.lt,he.lv⟩
     have hm:((j.toNat:Nat):Int)∈BO os y:=by rw [←hjb.2.2.1];exact hj
     have e1:=xN (os:=os) (P:=fun k=> !PG os buf k) (j:=j.toNat) yl.1 (by simp [U2.2 ih])
     have hE:0<E os y j.toNat:=by unfold E;have:=List.count_pos_iff.2 hm;omega
     have hlv:=(h.obj j.toNat hjb.2.1).lv hjb.2.2.2.2
     exact ⟨j.toNat,⟨hjb.2.1,hb,(h.ext hjb.2.1 hjb.2.2.2.2).2 (by omega)⟩, .refl⟩
    ·exact .inl hb
   ·exact .inr ⟨x,hx, .step ih hj⟩
def Rch (os:List AU) (k:Nat):Prop:= ∃e,qP os e∧Reach os e k
theorem Rch.live {os:List AU} {k:Nat}:Rch os k→k<8∧(ob os k).live=true:=fun ⟨_,he,hr⟩=>hr.live ⟨he.lt,he.lv⟩
theorem aQ (h:HP os ns buf []) (g:Gd os buf) (k8:k<8) (kv:(ob os k).live=true):I7 os (fun i=>(ob os i).count) buf k=true↔ ¬Rch os k:=by
 rw [JF]
 constructor
 ·rintro ⟨hb,hn⟩ ⟨e,he,hr⟩
  rcases wR h he hr with h1 | h1
  ·exact h1 hb
  ·exact hn h1
 ·intro hn
  have hb: ∀y,y<8→(ob os y).live=true→ ¬Rch os y→RB os buf y:=fun y y8 yv hy=>by
   rcases g y y8 yv with hc | ⟨x,hx,s,hs,hr⟩
   ·exact absurd hc hy
   ·exact ⟨x,hx,s,hs,hr⟩
  refine ⟨hb k k8 kv hn, ?_⟩
  rintro ⟨x,⟨x8,xr,hx⟩,hr⟩
  have xv:(ob os x).live=true:=xr.live
  have hp:=(h.ext x8 xv).1 hx
  by_cases h0:0<(ob os x).holds+(ob os x).roots
  ·exact hn ⟨x,⟨x8,xv,h0⟩,hr⟩
  ·obtain ⟨p,p8,hpp,hE⟩:=sV (os:=os) (P:=fun k=> !PG os buf k) (j:=x) (by omega)
   have hpn: ¬RB os buf p:=by simp only [Bool.not_eq_true'] at hpp;exact U2.1 hpp
   have hm:=lA hE
   obtain ⟨_,f,hf,hs⟩:=HZ.1 hm
   have pv:=((h.obj p p8).lead f hf (fun hh=>by rw [hh,FB (.inl (by omega))] at hs;omega)).1
   obtain ⟨e,he,her⟩:Rch os p:=Classical.byContradiction fun hh=>hpn (hb p p8 pv hh)
   have:=Reach.step her hm
   rw [Int.toNat_natCast] at this
   exact hn ⟨e,he,this.trans hr⟩
theorem sZ {W:Nat→Bool} {i:Nat} (h:W i=true):FN os W i=CA (ob os i).gen:=by
 unfold FN
 rw [show DM os W i=CA (ob os i).gen from by unfold DM;rw [if_pos h]]
 rfl
theorem jE {W:Nat→Bool} {i:Nat} (h:W i=false):(FN os W i).live=(ob os i).live∧(FN os W i).gen=(ob os i).gen∧(FN os W i).site=(ob os i).site∧(FN os W i).holds=(ob os i).holds∧(FN os W i).roots=(ob os i).roots∧(FN os W i).field=(ob os i).field:=by
 have e:DM os W i={ob os i with purple:=false}:=by unfold DM;rw [if_neg (by rw [h];decide)]
 unfold FN
 rw [e]
 split
 ·exact ⟨rfl,rfl,rfl,rfl,rfl,rfl⟩
 ·exact ⟨rfl,rfl,rfl,rfl,rfl,rfl⟩
structure Cd (os os':List AU):Prop where
 len:os'.length=8
 lv: ∀k,k<8→((ob os' k).live=true↔Rch os k)
 rch: ∀k,Rch os k→Rch os' k
 sm: ∀k,k<8→Rch os k→(ob os' k).gen=(ob os k).gen∧(ob os' k).site=(ob os k).site∧(ob os' k).holds=(ob os k).holds∧(ob os' k).roots=(ob os k).roots∧(ob os' k).field=(ob os k).field
 gn: ∀k,k<8→(ob os' k).gen=(ob os k).gen
theorem jC (h:HP os ns buf []) (g:Gd os buf):Cd os (GZ os buf).1:=by
 obtain ⟨W,hW⟩: ∃W,W=I7 os (fun i=>(ob os i).count) buf:=⟨_,rfl⟩
 have wi: ∀k,k<8→(ob os k).live=true→(W k=true↔ ¬Rch os k):=fun k k8 kv=>by rw [hW];exact aQ h g k8 kv
 have wl: ∀k,W k=true→(ob os k).live=true:=fun k hk=>by rw [hW,JF] at hk;exact hk.1.live
 have eo: ∀i,i<8→ob (GZ os buf).1 i=FN os W i:=fun i hi=>by
  unfold GZ;simp only;rw [IP hi,hW]
 have hf: ∀k,Rch os k→W k=false:=fun k hk=>by
  cases hw:W k with
  | false=>rfl
  | true=>exact absurd hk ((wi k hk.live.1 hk.live.2).1 hw)
 have sm: ∀k,k<8→Rch os k→(ob (GZ os buf).1 k).gen=(ob os k).gen∧(ob (GZ os buf).1 k).site=(ob os k).site∧(ob (GZ os buf).1 k).holds=(ob os k).holds∧(ob (GZ os buf).1 k).roots=(ob os k).roots∧(ob (GZ os buf).1 k).field=(ob os k).field:=fun k k8 hk=>by
  rw [eo k k8];exact (jE (hf k hk)).2
 have lv: ∀k,k<8→((ob (GZ os buf).1 k).live=true↔Rch os k):=fun k k8=>by
  rw [eo k k8]
  cases hw:W k with
  | true=>
    rw [sZ hw]
    exact ⟨fun hh=>(by cases hh),fun hh=>absurd hh ((wi k k8 (wl k hw)).1 hw)⟩
  | false=>
    rw [(jE hw).1]
    refine ⟨fun hv=>Classical.byContradiction fun hn=> ?_,fun hh=>hh.live.2⟩
    rw [(wi k k8 hv).2 hn] at hw;cases hw
 have hln:(GZ os buf).1.length=8:=CT _
 refine ⟨hln,lv,fun k hk=> ?_,sm,fun k k8=> ?_⟩
 ·obtain ⟨e,he,hr⟩:=hk
  have rr:Rch os e:=⟨e,he, .refl⟩
  refine ⟨e,⟨he.lt,(lv e he.lt).2 rr,by rw [(sm e he.lt rr).2.2.1,(sm e he.lt rr).2.2.2.1];exact he.pos⟩,(hr.IT (P:=Rch os) rr fun y hy j hj=> ?_).1⟩
  have hb:=CG hj
  obtain ⟨e',he',hr'⟩:=hy
  have rj:Rch os j.toNat:=⟨e',he', .step hr' hj⟩
  have hy:Rch os y:=⟨e',he',hr'⟩
  obtain ⟨h0,f,hf',hs⟩:=HZ.1 hj
  have hfb:=BT (l:=os) (id:=f) (by omega)
  have ej:(f % 8).toNat=j.toNat:=by omega
  have ej2:(AB os f).toNat=j.toNat:=by omega
  rw [ej2] at hfb
  refine ⟨HZ.2 ⟨h0,f,by rw [(sm y hy.live.1 hy).2.2.2.2];exact hf', ?_⟩,rj⟩
  rw [IK hfb.2.1 hln (by rw [hln];omega) (by rw [ej];exact (lv _ hb.2.1).2 rj) (by rw [ej,(sm _ hb.2.1 rj).1];exact hfb.2.2.2.2.2)]
  omega
 ·rw [eo k k8]
  cases hw:W k with
  | true=>rw [sZ hw];rfl
  | false=>exact (jE hw).2.1
theorem uD (h:HP os ns buf []) (g:Gd os buf):Gd (GZ os buf).1 []:=fun k k8 kv=>by
 have R:=jC h g
 exact .inl (R.rch k ((R.lv k k8).1 kv))
end
theorem B1.gd {h:Hp} {o:Op5} (hk:B1 h) (g:Gd h.AD h.buffer):Gd (CD h o).1.AD (CD h o).1.buffer:=by
 have hp:=hk.hp
 unfold CD
 split
 ·exact sC hp g
 ·split
  ·exact (hp.YI (id:=o.a) (kd:=o.kind)).gd g
  ·split
   ·exact (hp.VB (a:=o.a) (b:=o.b) (c:=o.c)).gd g
   ·split
    ·exact g
    ·split
     ·exact g
     ·split
      ·exact uD hp g
      ·exact g
theorem yQ:Gd hp0.AD hp0.buffer:=fun k k8 kv=>by
 have:ob hp0.AD k=CA 0:=by
  unfold hp0 ob;simp only;rw [List.getD_eq_getElem?_getD,List.getElem?_replicate,if_pos k8];rfl
 rw [this] at kv;cases kv
theorem fC (l:List Op5): ∀i,Gd (LC l i).1.AD (LC l i).1.buffer
 | 0=>yQ
 | i+1=>(RD l i).1.gd (fC l i)
end Go.Proofs.Ytklmcfpgdfibnaa.P
namespace Go.Proofs.Ytklmcfpgdfibnaa.P
open Go Go.Proofs.Ytklmcfpgdfibnaa Go.Proofs.Ytklmcfpgdfibnaa.Eng
set_option linter.unusedVariables false
set_option maxHeartbeats 4000000
set_option linter.unusedVariables false
set_option linter.unusedSimpArgs false
attribute [local irreducible] prP gP gE gF AX ixW ldc ldg ldl stc stg scW mkW apW BE cl2 BS DF CB
variable {w0:World}
theorem SS {L:List Int} {i:Nat} {z:Int} {K:J2} (hb:TE L) (hi:i≤L.length) (h: ∀(x:Hp) i' z',B1 x→Gd x.AD x.buffer→i'≤L.length→K [iv i',I z'] (trees x)):cl2 ⟨Try.prog,w0⟩ 94 G3.sg [iv i,I z] [tY L] K:=by
 refine G3.cl2 (bL (m:=30) hb hi (by omega) fun l i1 z1 hl ho h1=> ?_)
 refine eZ (by omega) (fun o hx=>(ho o hx).f) ?_
 exact h _ i1 z1 (RD l _).1 (fC l _) h1
structure oN (x:Hp):Prop where
 fits:Fits x
 KE:RY x
 gd:B1 x→Gd x.AD x.buffer
 of: ∀o∈x.AD,OF o
theorem oN.ok {x:Hp} (h:B1 x) (g:Gd x.AD x.buffer):oN x:=⟨h.fits,h.KE,fun _=>g,(h.st h.KE).of⟩
theorem bQ {b:Hp} (hb:B1 b) {k:Nat} {v:AU} (hf:v.field.length=3) (hn:F64 v.gen∧F64 v.site∧F64 v.holds∧F64 v.roots∧F64 v.count∧ ∀f∈v.field,F64 f)
  (hg:B1 ⟨b.AD.set k v,b.BW,b.buffer,b.sites⟩→Gd (b.AD.set k v) b.buffer):oN ⟨b.AD.set k v,b.BW,b.buffer,b.sites⟩:=by
 obtain ⟨f1,f2,f3,f4,f5,f6⟩:=hb.fits
 obtain ⟨n1,n2,n3⟩:=hb.KE
 refine ⟨⟨by simpa using f1,fun o ho=> ?_,f3,f4,f5,f6⟩,⟨fun o ho=> ?_,n2,n3⟩,hg,fun o ho=> ?_⟩
 ·rcases List.mem_or_eq_of_mem_set ho with h | rfl
  ·exact f2 o h
  ·omega
 ·rcases List.mem_or_eq_of_mem_set ho with h | rfl
  ·exact n1 o h
  ·exact hn
 ·rcases List.mem_or_eq_of_mem_set ho with h | rfl
  ·exact (hb.st hb.KE).of o h
  ·exact ⟨hn.1,hf,hn.2.2.2.2.2⟩
theorem Gd.as {a b:List AU} {L:List Int} (g:Gd a L) (h: ∀i,i<8→(ob b i).live=(ob a i).live∧(ob b i).holds=(ob a i).holds∧(ob b i).roots=(ob a i).roots) (hk: ∀y,y<8→BO b y=BO a y) (hs: ∀x∈L,AB b x=AB a x):Gd b L:=fun k k8 kv=>by
 have kr: ∀{s y},s<8∧(ob a s).live=true→Reach a s y→Reach b s y:=fun hs hr=>(hr.IT (P:=fun y=>y<8) hs.1 fun y hy j hj=>⟨by rw [hk y hy];exact hj,(CG hj).2.1⟩).1
 rcases g k k8 (by rw [←(h k k8).1];exact kv) with ⟨e,he,hr⟩ | ⟨x,hx,s,hsx,hr⟩
 ·exact .inl ⟨e,⟨he.lt,by rw [(h e he.lt).1];exact he.lv,by rw [(h e he.lt).2.1,(h e he.lt).2.2];exact he.pos⟩,kr ⟨he.lt,he.lv⟩ hr⟩
 ·exact .inr ⟨x,hx,s,by rw [hs x hx];exact hsx,kr (I3 hsx) hr⟩
theorem zW {b:Hp} (hb:B1 b) (g:Gd b.AD b.buffer) {k:Nat} (k8:k<8) {v:Int} (hx:B1 ⟨b.AD.set k {ob b.AD k with gen:=v},b.BW,b.buffer,b.sites⟩):Gd (b.AD.set k {ob b.AD k with gen:=v}) b.buffer:=by
 have hol:=hb.ol
 have hkl:k<b.AD.length:=by omega
 have eo: ∀i,ob (b.AD.set k {ob b.AD k with gen:=v}) i=if i=k then {ob b.AD k with gen:=v} else ob b.AD i:=fun i=>DZ hkl
 have sl: ∀x:Int,(0≤AB b.AD x↔0≤AB (b.AD.set k {ob b.AD k with gen:=v}) x)→AB (b.AD.set k {ob b.AD k with gen:=v}) x=AB b.AD x:=fun x hh=>by
  have m1: ∀l:List AU,AB l x= -1∨(0≤AB l x∧AB l x=x % 8):=fun l=>by
   by_cases h0:0≤AB l x
   ·exact .inr ⟨h0,(BT h0).2.2.1⟩
   ·left
    unfold AB at h0 ⊢
    split
    ·rfl
    ·rename_i h1
     rw [if_neg h1] at h0
     split at h0
     ·omega
     ·rename_i h2;rw [if_neg h2]
  rcases m1 b.AD with h1 | h1 <;> rcases m1 (b.AD.set k {ob b.AD k with gen:=v}) with h2 | h2 <;> omega
 have hxp:=hx.hp
 have hbp:=hb.hp
 have fl: ∀y,y<8→ ∀f∈(ob b.AD y).field,AB (b.AD.set k {ob b.AD k with gen:=v}) f=AB b.AD f:=fun y hy f hf=>by
  by_cases h1:f= -1
  ·subst h1;rw [FB (.inl (by omega)),FB (.inl (by omega))]
  ·have a:=((hbp.obj y hy).lead f hf h1).2
   have c:=((hxp.obj y hy).lead f (by
    rw [eo]
    by_cases he:y=k
    ·rw [if_pos he, ←he];exact hf
    ·rw [if_neg he];exact hf) h1).2
   exact sl f ⟨fun _=>c,fun _=>a⟩
 refine g.as (fun i hi=> ?_) (fun y hy=> ?_) fun x hx'=> ?_
 ·rw [eo];split
  ·rename_i he;subst he;exact ⟨rfl,rfl,rfl⟩
  ·exact ⟨rfl,rfl,rfl⟩
 ·have ef:(ob (b.AD.set k {ob b.AD k with gen:=v}) y).field=(ob b.AD y).field:=by
   rw [eo];split
   ·rename_i he;subst he;rfl
   ·rfl
  unfold BO
  rw [ef]
  congr 1
  exact List.map_congr_left fun f hf=>fl y hy f hf
 ·have a:0≤AB b.AD x:=hbp.blv x hx'
  have c:0≤AB (b.AD.set k {ob b.AD k with gen:=v}) x:=hxp.blv x hx'
  exact sl x ⟨fun _=>c,fun _=>a⟩
theorem yT {b:Hp} (hb:B1 b) {k:Nat} (k8:k<8) {v f:Int} {r:List Int} (v0:0≤v) (hfr:(ob b.AD k).field=f::r) (hvf:v≠f) {w:AU} (wl:w.live=(ob b.AD k).live) (wg:w.gen=(ob b.AD k).gen) (wh:w.holds=(ob b.AD k).holds) (wr:w.roots=(ob b.AD k).roots) (wc:w.count=(ob b.AD k).count) (wf:w.field=v::r) (hx:B1 ⟨b.AD.set k w,b.BW,b.buffer,b.sites⟩):False:=by
 have hol:=hb.ol
 have hkl:k<b.AD.length:=by omega
 have hxp:=hx.hp
 have hbp:=hb.hp
 have eo: ∀i,ob (b.AD.set k w) i=if i=k then w else ob b.AD i:=fun i=>DZ hkl
 have sl: ∀x,AB (b.AD.set k w) x=AB b.AD x:=fun x=>EI (by simp) fun i _=>by
  rw [eo];split
  ·rename_i he;subst he;exact ⟨wl,wg⟩
  ·exact ⟨rfl,rfl⟩
 have lv:=((hxp.obj k k8).lead v (by rw [eo,if_pos rfl,wf];simp) (by omega))
 have kv:w.live=true:=by have:=lv.1;rw [eo,if_pos rfl] at this;exact this
 rw [sl] at lv
 have hbd:=BT lv.2
 obtain ⟨s,hs⟩: ∃s:Nat,(AB b.AD v).toNat=s:=⟨_,rfl⟩
 rw [hs] at hbd
 have s8:=hbd.2.2.2.1
 have sv:=hbd.2.2.2.2.1
 have g1:=((hbp.obj s s8).lv sv).1
 have g2:=(hbp.obj s s8).gen.2
 have hid:v=B9 s (ob b.AD s).gen:=by rw [IU s8 g1 g2];omega
 have c1:=((hbp.obj s s8).lv sv).2.2.2.2.1
 have same:(ob (b.AD.set k w) s).live=(ob b.AD s).live∧(ob (b.AD.set k w) s).gen=(ob b.AD s).gen∧(ob (b.AD.set k w) s).holds=(ob b.AD s).holds∧(ob (b.AD.set k w) s).roots=(ob b.AD s).roots∧(ob (b.AD.set k w) s).count=(ob b.AD s).count:=by
  rw [eo];split
  ·rename_i he;subst he;exact ⟨wl,wg,wh,wr,wc⟩
  ·exact ⟨rfl,rfl,rfl,rfl,rfl⟩
 have c2:=((hxp.obj s s8).lv (by rw [same.1];exact sv)).2.2.2.2.1
 rw [same.2.1,same.2.2.1,same.2.2.2.1,same.2.2.2.2, ←hid] at c2
 rw [←hid] at c1
 have ed:=RG (os:=b.AD) (k:=k) (v:=w) (id:=v) hkl
 have e1:MG v (ob b.AD k)=r.count v:=by
  unfold MG;rw [←wl,if_pos kv,hfr,List.count_cons_of_ne (Ne.symm hvf)]
 have e2:MG v w=r.count v+1:=by
  unfold MG;rw [if_pos kv,wf,List.count_cons_self]
 simp only [List.count_nil] at c1 c2
 omega
theorem zA {b:Hp} (hb:B1 b) {k:Nat} (k8:k<8) {v:Int} (v0:0≤v) (hx:B1 ⟨b.AD.set k {ob b.AD k with field:=(ob b.AD k).field.set 0 v},b.BW,b.buffer,b.sites⟩):b.AD.set k {ob b.AD k with field:=(ob b.AD k).field.set 0 v}=b.AD:=by
 have h3:=(hb.hp.obj k k8).len
 obtain ⟨f,r,hfr⟩: ∃f r,(ob b.AD k).field=f::r:=by
  cases hf:(ob b.AD k).field with
  | nil=>rw [hf] at h3;cases h3
  | cons f r=>exact ⟨f,r,rfl⟩
 have es:(ob b.AD k).field.set 0 v=v::r:=by rw [hfr];rfl
 by_cases hvf:v=f
 ·rw [es,hvf, ←hfr]
  exact List.ext_getElem (by simp) fun i h1 h2=>by
   rw [List.getElem_set]
   split
   ·rename_i he;subst he;rw [DH h2]
   ·rfl
 ·exact (yT hb k8 v0 hfr hvf (w:={ob b.AD k with field:=(ob b.AD k).field.set 0 v}) rfl rfl rfl rfl rfl es hx).elim
theorem Df {l:List Int} (h: ∀f∈l,F64 f) {v:Int} (hv:F64 v): ∀f∈l.set 0 v,F64 f:=fun f hf=>by
 rcases List.mem_or_eq_of_mem_set hf with hf | rfl
 ·exact h f hf
 ·exact hv
theorem bH {L:List Int} {i:Nat} {z:Int} {K:J2} (hb:TE L) (hi:i≤L.length) (h: ∀(x:Hp) i' z',oN x→i'≤L.length→K [iv i',I z'] (trees x)):cl2 ⟨Try.prog,w0⟩ 96 IN.sg [iv i,I z] [tY L] K:=by
 refine IN.cl2 ?_
 unfold IN.txt
 refine SS hb hi fun b i1 z1 ok gd h1=>C9 hb h1 fun k i2 z2 k0 k1 h2=>C9 hb h2 fun c i3 z3 c0 c1 h3=> ?_
 obtain ⟨k,rfl⟩: ∃n:Nat,k=n:=⟨k.toNat,by omega⟩
 have hol:=ok.ol
 have hp:=ok.hp
 have k8:k<8:=by omega
 have kl:k<b.AD.length:=by omega
 have hk:=hp.obj k k8
 have nk:=ok.KE.ob k
 have fits:=ok.fits
 simp only [trees,List.cons_append,List.nil_append]
 simp only [AI,AO,AM,AS,AH,AE,AG,AK,AN,AP,AR,AT,AQ,AL,BD,BJ,BL,BK,BM,BN,BG,A4,AZ,A6,A8,A5,A7]
 refine BF (AW (fun _=> ?_) fun _=>BF (AW (fun _=> ?_) fun _=>BF (AW (fun _=> ?_) fun _=>BF (AW (fun _=> ?_) fun _=>BF (AW (fun _=> ?_) fun _=>BF (AW (fun _=> ?_) fun _=>BF (AW (fun _=> ?_) fun _=>h b i3 z3 (.ok ok gd) h3)))))))
 ·have cb:0≤(ob b.AD k).count∧(ob b.AD k).count≤1000:=by
   refine ⟨?_,hk.cb⟩
   cases hv:(ob b.AD k).live with
   | false=>have:=(hk.dead hv).2.2.2.1;omega
   | true=>have:=(hk.lv hv).2.2.2.2.2.1;omega
  refine AJ kl (H0 kl (by decide) rfl (DN ⟨by omega,by omega⟩ (AJ kl (oE kl ?_))))
  rw [DH kl]
  refine h ⟨b.AD.set k {ob b.AD k with count:=(ob b.AD k).count+1},b.BW,b.buffer,b.sites⟩ i3 z3 (bQ ok hk.len ⟨nk.1,nk.2.1,nk.2.2.1,nk.2.2.2.1,DE (by simp only;omega),nk.2.2.2.2.2⟩ fun hx=> ?_) h3
  have eo: ∀i,ob (b.AD.set k {ob b.AD k with count:=(ob b.AD k).count+1}) i=if i=k then {ob b.AD k with count:=(ob b.AD k).count+1} else ob b.AD i:=fun i=>DZ kl
  have sm: ∀i,(ob b.AD i).live=(ob (b.AD.set k {ob b.AD k with count:=(ob b.AD k).count+1}) i).live∧(ob b.AD i).gen=(ob (b.AD.set k {ob b.AD k with count:=(ob b.AD k).count+1}) i).gen∧(ob b.AD i).field=(ob (b.AD.set k {ob b.AD k with count:=(ob b.AD k).count+1}) i).field∧(ob b.AD i).holds=(ob (b.AD.set k {ob b.AD k with count:=(ob b.AD k).count+1}) i).holds∧(ob b.AD i).roots=(ob (b.AD.set k {ob b.AD k with count:=(ob b.AD k).count+1}) i).roots:=fun i=>by
   rw [eo];split
   ·rename_i he;subst he;exact ⟨rfl,rfl,rfl,rfl,rfl⟩
   ·exact ⟨rfl,rfl,rfl,rfl,rfl⟩
  exact gd.upd (by simp) (fun i=>⟨(sm i).1,(sm i).2.1,(sm i).2.2.1⟩) (fun e he=> .inl ⟨he.lt,by rw [←(sm e).1];exact he.lv,by rw [←(sm e).2.2.2.1, ←(sm e).2.2.2.2];exact he.pos⟩) fun _ hx _=>hx
 ·have fl:(0:Nat)<(ob b.AD k).field.length:=by rw [hk.len];decide
  refine AJ kl (XO kl (C9 hb h3 fun v i4 z4 v0 v1 h4=> ?_))
  rw [HG kl]
  simp only [AI,AO,AM,AS,AH,AE,AG,AK,AN,AP,AR,AT,AQ,AL,BD,BJ,BL,BK,BM,BN,BG,A4,AZ,A6,A8,A5,A7]
  refine AJ (j:=0) fl (stF kl fl ?_)
  refine h ⟨b.AD.set k {ob b.AD k with field:=(ob b.AD k).field.set 0 v},b.BW,b.buffer,b.sites⟩ i4 z4 (bQ ok (by simp [hk.len]) ⟨nk.1,nk.2.1,nk.2.2.1,nk.2.2.2.1,nk.2.2.2.2.1,Df nk.2.2.2.2.2 (DE (by omega))⟩ fun hx=> ?_) h4
  rw [zA ok k8 v0 hx]
  exact gd
 ·refine AJ kl (H0 kl (by decide) rfl (FD ?_))
  have bl:=fits.bl
  refine DC rfl (by first | omega | (simp only [AI,AO,AM,AS,AH,AE,AG,AK,AN,AP,AR,AT,AQ,AL,BD,BJ,BL,BK,BM,BN,BG,A4,AZ,A6,A8,A5,A7];omega)) ?_
  simp only [AI,AO,AM,AS,AH,AE,AG,AK,AN,AP,AR,AT,AQ,AL,BD,BJ,BL,BK,BM,BN,BG,A4,AZ,A6,A8,A5,A7]
  rw [DO]
  have ib:=dE k (ob b.AD k).gen
  refine h ⟨b.AD,b.BW,b.buffer++[B9 k (ob b.AD k).gen],b.sites⟩ i3 z3 ⟨⟨fits.ol,fits.of,fits.wl, ?_,fits.sl,fits.ss⟩,⟨ok.KE.obj,ok.KE.weak,fun x hx=> ?_⟩,fun _=>gd.mono fun x hx _=>List.mem_append_left _ hx,(ok.st ok.KE).of⟩ h3
  ·have:=ok.Aw;simp only [List.length_append,List.length_singleton];omega
  ·rcases List.mem_append.1 hx with hx | hx
   ·exact ok.KE.buf x hx
   ·rw [List.mem_singleton.1 hx];exact DE (by omega)
 ·refine LR hb h3 fun u i4 z4 h4=>G5 (l:=[0,9, -1,7]) hb h4 (by simp) fun v hv i5 z5 h5=> ?_
  have w0l:0<b.BW.length:=by have:=ok.wl;omega
  refine AJ (j:=0) w0l (KF (y:=⟨u,v⟩) w0l rfl ?_)
  refine h ⟨b.AD,b.BW.set 0 ⟨u,v⟩,b.buffer,b.sites⟩ i5 z5 ⟨⟨fits.ol,fits.of,by simpa using fits.wl,fits.bl,fits.sl,fits.ss⟩,⟨ok.KE.obj,fun w hw=> ?_,ok.KE.buf⟩,fun _=>gd,(ok.st ok.KE).of⟩ h5
  rcases List.mem_or_eq_of_mem_set hw with hw | rfl
  ·exact ok.KE.weak w hw
  ·simp only [List.mem_cons,List.not_mem_nil,or_false] at hv
   exact DE (by simp only;omega)
 ·refine N4 (l:=[⟨#[]⟩,⟨#[97]⟩,⟨#[116,111,111,108,111,110,103,97,115,105,116,101]⟩]) hb h3 (by simp) fun s hs i4 z4 h4=> ?_
  have sl:=ok.sites.len
  refine DC rfl (by first | omega | (simp only [AI,AO,AM,AS,AH,AE,AG,AK,AN,AP,AR,AT,AQ,AL,BD,BJ,BL,BK,BM,BN,BG,A4,AZ,A6,A8,A5,A7];omega)) ?_
  simp only [AI,AO,AM,AS,AH,AE,AG,AK,AN,AP,AR,AT,AQ,AL,BD,BJ,BL,BK,BM,BN,BG,A4,AZ,A6,A8,A5,A7]
  rw [WQ]
  refine h ⟨b.AD,b.BW,b.buffer,b.sites++[s]⟩ i4 z4 ⟨⟨fits.ol,fits.of,fits.wl,fits.bl,by simp only [List.length_append,List.length_singleton];omega,fun x hx=> ?_⟩,⟨ok.KE.obj,ok.KE.weak,ok.KE.buf⟩,fun _=>gd,(ok.st ok.KE).of⟩ h4
  rcases List.mem_append.1 hx with hx | hx
  ·exact fits.ss x hx
  ·rw [List.mem_singleton.1 hx]
   simp only [List.mem_cons,List.not_mem_nil,or_false] at hs
   rcases hs with rfl | rfl | rfl <;> decide
 ·refine b9 (by omega) ?_
  have e1:G4 (tR tO b.AD) [] (AA (iv 0)*8) (AA (iv k)*8)=tR tO (b.AD.take k):=by
   rw [A9,A9,wA,List.drop_zero]
  rw [e1]
  refine h ⟨b.AD.take k,b.BW,b.buffer,b.sites⟩ i3 z3 ⟨⟨by simp only [List.length_take];omega,fun o ho=>fits.of o (List.mem_of_mem_take ho),fits.wl,fits.bl,fits.sl,fits.ss⟩,⟨fun o ho=>ok.KE.obj o (List.mem_of_mem_take ho),ok.KE.weak,ok.KE.buf⟩,fun hx=> ?_,fun o ho=>(ok.st ok.KE).of o (List.mem_of_mem_take ho)⟩ h3
  have:=hx.ol
  simp only [List.length_take] at this
  omega
 ·refine G5 (l:=[0,999,1000]) hb h3 (by simp) fun v hv i4 z4 h4=>AJ kl (uH kl ?_)
  rw [DH kl]
  simp only [List.mem_cons,List.not_mem_nil,or_false] at hv
  exact h ⟨b.AD.set k {ob b.AD k with gen:=v},b.BW,b.buffer,b.sites⟩ i4 z4 (bQ ok hk.len ⟨DE (by simp only;omega),nk.2.1,nk.2.2.1,nk.2.2.2.1,nk.2.2.2.2.1,nk.2.2.2.2.2⟩ fun hx=>zW ok gd k8 hx) h4
theorem UW {L:List Int} {K:J2} (hb:TE L) (h: ∀(x:Hp) (o:Op5),oN x→OpF o→K [I o.kind,I o.a,I o.b,I o.c, .string o.site] (trees x)):cl2 ⟨Try.prog,w0⟩ 80 ET.sg [] [tY L] K:=by
 refine ET.cl2 ?_
 unfold ET.txt
 refine dO hb fun z=>SS hb (Nat.zero_le _) fun b i1 z1 ok gd h1=> ?_
 refine jZ (fun xs cs=> ∃(x:Hp) (i':Nat) (z':Int) (y1 y2 y3 y4 y5:Value),oN x∧i'≤L.length∧xs=[y1,y2,y3,y4,y5,iv i',I z']∧cs=trees x) ?_ fun j hj=> ?_
 ·rintro xs cs ⟨x,i',z',y1,y2,y3,y4,y5,hx,h',rfl,rfl⟩
  exact VN hb h' hx.fits.ol fun o i2 z2 ho h2=>h x o hx ho.f
 ·refine LR hb h1 fun u i2 z2 h2=>TD (fun _=> ?_) fun _=>hj _ _ ⟨b,i2,z2,_,_,_,_,_, .ok ok gd,h2,rfl,rfl⟩
  exact bH hb h2 fun x i3 z3 hx h3=>hj _ _ ⟨x,i3,z3,_,_,_,_,_,hx,h3,rfl,rfl⟩
end Go.Proofs.Ytklmcfpgdfibnaa.P
namespace Go.Proofs.Ytklmcfpgdfibnaa.P
open Go Go.Proofs.Ytklmcfpgdfibnaa Go.Proofs.Ytklmcfpgdfibnaa.Eng
set_option linter.unusedVariables false
abbrev Que:=List (Int×Int)
def inQ (q:Que) (s:Int):Prop:=s∈q.map (·.1)
instance (q:Que) (s:Int):Decidable (inQ q s):=inferInstanceAs (Decidable (_∈_))
def J7 (but:Int) (q:Que) (p s:Int):Que:=if s<0∨s=but∨inQ q s then q else q++[(s,p)]
def JL (os:List AU) (but:Int) (ids:List Int):Que:=ids.foldl (fun q x=>J7 but q (-1) (AB os x)) []
def T8 (os:List AU) (but:Int) (q:Que) (s:Int):Que:=(BO os s.toNat).foldl (fun q' t=>J7 but q' s t) q
def gQ (q:Que) (i:Nat):Int:=(q.getD i (0,0)).1
def QU (os:List AU) (but:Int):Nat→Nat→Que→Que
 | 0,_,q=>q
 | f+1,i,q=>if i<q.length then QU os but f (i+1) (T8 os but q (gQ q i)) else q
def iH (os:List AU) (but:Int) (ids:List Int):Que:=QU os but 9 0 (JL os but ids)
theorem RS {q r:Que} {s:Int}:inQ (q++r) s↔inQ q s∨inQ r s:=by unfold inQ;rw [List.map_append,List.mem_append]
theorem Y0 {q:Que} {i:Nat} (h:i<q.length):(q[i]).1=gQ q i:=by simp [gQ,h]
theorem fE {q:Que} {i:Nat} (h:i<q.length):inQ q (gQ q i):=by
 rw [←Y0 h];exact List.mem_map.2 ⟨_,List.getElem_mem h,rfl⟩
theorem QJ {q r:Que} {i:Nat} (h:i<q.length):gQ (q++r) i=gQ q i:=by
 unfold gQ;rw [List.getD_eq_getElem?_getD,List.getElem?_append_left h,List.getD_eq_getElem?_getD]
structure QI (os:List AU) (but:Int) (q:Que):Prop where
 nd:(q.map (·.1)).Nodup
 lv: ∀s,inQ q s→ ∃k:Nat,s=(k:Int)∧k<8∧(ob os k).live=true∧s≠but
theorem QI.nil (os:List AU) (but:Int):QI os but []:=⟨List.nodup_nil,fun s h=>by simp [inQ] at h⟩
theorem QI.len {os:List AU} {but:Int} {q:Que} (h:QI os but q):q.length≤8:=by
 have:=few (n:=8) (l:=q.map (·.1)) (fun x=>x.toNat) h.nd (fun x hx=>by obtain ⟨k,h1,h2,_⟩:=h.lv x hx;omega) fun x hx y hy he=>by
  obtain ⟨k,h1,_⟩:=h.lv x hx
  obtain ⟨k',h1',_⟩:=h.lv y hy
  omega
 simpa using this
theorem QI.add {os:List AU} {but:Int} {q:Que} {p s:Int} (h:QI os but q) (hs:0≤s→s.toNat<8∧(ob os s.toNat).live=true):QI os but (J7 but q p s):=by
 unfold J7
 split
 ·exact h
 ·rename_i hn
  simp only [not_or] at hn
  refine ⟨?_,fun x hx=> ?_⟩
  ·rw [List.map_append]
   exact List.nodup_append.2 ⟨h.nd,by simp,fun a ha b hb=>by
    have hb:b=s:=by simpa using hb
    rw [hb];rintro rfl
    exact hn.2.2 ha⟩
  ·rcases RS.1 hx with hx | hx
   ·exact h.lv x hx
   ·have hx:x=s:=by simpa [inQ] using hx
    subst hx
    exact ⟨x.toNat,by omega,(hs (by omega)).1,(hs (by omega)).2,hn.2.1⟩
theorem WB {os:List AU} {x:Int}:0≤AB os x→(AB os x).toNat<8∧(ob os (AB os x).toNat).live=true:=fun h=>⟨(BT h).2.2.2.1,(BT h).2.2.2.2.1⟩
def OI (q q':Que):Prop:= ∃r,q'=q++r
theorem OI.refl (q:Que):OI q q:=⟨[],by simp⟩
theorem OI.trans {a b c:Que}:OI a b→OI b c→OI a c:=fun ⟨r,h⟩ ⟨r',h'⟩=>⟨r++r',by rw [h',h,List.append_assoc]⟩
theorem OI.add {but:Int} {q:Que} {p s:Int}:OI q (J7 but q p s):=by
 unfold J7;split
 ·exact .refl q
 ·exact ⟨_,rfl⟩
theorem OI.inq {q q':Que} {s:Int} (h:OI q q') (hs:inQ q s):inQ q' s:=by obtain ⟨r,rfl⟩:=h;exact RS.2 (.inl hs)
theorem OI.len {q q':Que} (h:OI q q'):q.length≤q'.length:=by obtain ⟨r,rfl⟩:=h;simp
theorem OI.gq {q q':Que} {i:Nat} (h:OI q q') (hi:i<q.length):gQ q' i=gQ q i:=by obtain ⟨r,rfl⟩:=h;exact QJ hi
theorem xW {but:Int} {q:Que} {p s:Int} (h0:0≤s) (hb:s≠but):inQ (J7 but q p s) s:=by
 unfold J7;split
 ·rename_i h
  rcases h with h | h | h
  ·omega
  ·exact absurd h hb
  ·exact h
 ·exact RS.2 (.inr (by simp [inQ]))
theorem lS {but:Int} {q:Que} {p s x:Int} (h:inQ (J7 but q p s) x):inQ q x∨(x=s∧0≤s∧s≠but):=by
 unfold J7 at h;split at h
 ·exact .inl h
 ·rename_i hn
  simp only [not_or] at hn
  rcases RS.1 h with h | h
  ·exact .inl h
  ·exact .inr ⟨by simpa [inQ] using h,by omega,hn.2.1⟩
theorem dH {os:List AU} {but:Int} {p:Int}: ∀{l:List Int} {q:Que},QI os but q→(∀s∈l,0≤s→s.toNat<8∧(ob os s.toNat).live=true)→
  QI os but (l.foldl (fun q' t=>J7 but q' p t) q)∧OI q (l.foldl (fun q' t=>J7 but q' p t) q)∧(∀s∈l,0≤s→s≠but→inQ (l.foldl (fun q' t=>J7 but q' p t) q) s)∧ ∀x,inQ (l.foldl (fun q' t=>J7 but q' p t) q) x→inQ q x∨(x∈l∧0≤x∧x≠but)
 | [],q,h,_=>⟨h, .refl q,by simp,fun x hx=> .inl hx⟩
 | s::l,q,h,hl=>by
   obtain ⟨h1,h2,h3,h4⟩:=dH (p:=p) (l:=l) (q:=J7 but q p s) (h.add (hl s (by simp))) fun t ht=>hl t (by simp [ht])
   rw [List.foldl_cons]
   refine ⟨h1,OI.add.trans h2,fun t ht h0 hb=> ?_,fun x hx=> ?_⟩
   ·rcases List.mem_cons.1 ht with rfl | ht
    ·exact h2.inq (xW h0 hb)
    ·exact h3 t ht h0 hb
   ·rcases h4 x hx with hx | ⟨a,b,c⟩
    ·rcases lS hx with hx | ⟨a,b,c⟩
     ·exact .inl hx
     ·exact .inr ⟨by simp [a],by omega,by rw [a];exact c⟩
    ·exact .inr ⟨by simp [a],b,c⟩
theorem nH (os:List AU) (but:Int) (ids:List Int):JL os but ids=(ids.map (AB os)).foldl (fun q t=>J7 but q (-1) t) []:=by
 unfold JL;rw [List.foldl_map]
theorem nR (os:List AU) (but:Int) (ids:List Int):QI os but (JL os but ids)∧(∀x∈ids,0≤AB os x→AB os x≠but→inQ (JL os but ids) (AB os x))∧ ∀s,inQ (JL os but ids) s→ ∃x∈ids,AB os x=s∧0≤s∧s≠but:=by
 rw [nH]
 obtain ⟨h1,_,h3,h4⟩:=dH (os:=os) (but:=but) (p:= -1) (l:=ids.map (AB os)) (QI.nil os but) fun s hs h0=>by
  obtain ⟨x,_,rfl⟩:=List.mem_map.1 hs
  exact WB h0
 refine ⟨h1,fun x hx h0 hb=>h3 _ (List.mem_map.2 ⟨x,hx,rfl⟩) h0 hb,fun s hs=> ?_⟩
 rcases h4 s hs with h | ⟨a,b,c⟩
 ·simp [inQ] at h
 ·obtain ⟨x,hx,rfl⟩:=List.mem_map.1 a
  exact ⟨x,hx,rfl,b,c⟩
theorem TT {os:List AU} {but:Int} {q:Que} (s:Int) (h:QI os but q):QI os but (T8 os but q s)∧OI q (T8 os but q s)∧(∀j∈BO os s.toNat,j≠but→inQ (T8 os but q s) j)∧ ∀x,inQ (T8 os but q s) x→inQ q x∨(x∈BO os s.toNat∧x≠but):=by
 obtain ⟨h1,h2,h3,h4⟩:=dH (p:=s) (l:=BO os s.toNat) h fun t ht _=>⟨(CG ht).2.1,(CG ht).2.2.2.2⟩
 exact ⟨h1,h2,fun j hj hb=>h3 j hj (CG hj).1 hb,fun x hx=>(h4 x hx).imp id fun ⟨a,_,c⟩=>⟨a,c⟩⟩
inductive S5 (os:List AU) (but:Int) (s:Nat):Nat→Prop
 | refl:S5 os but s s
 | step {k:Nat} {j:Int}:S5 os but s k→j∈BO os k→j≠but→S5 os but s j.toNat
def e6 (os:List AU) (but:Int) (ids:List Int) (k:Nat):Prop:= ∃x∈ids, ∃s:Nat,AB os x=(s:Int)∧(s:Int)≠but∧S5 os but s k
structure BI (os:List AU) (but:Int) (ids:List Int) (i:Nat) (q:Que):Prop where
 qi:QI os but q
 snd: ∀s,inQ q s→e6 os but ids s.toNat
 ini: ∀x∈ids,0≤AB os x→AB os x≠but→inQ q (AB os x)
 cls: ∀m,m<i→m<q.length→ ∀j∈BO os (gQ q m).toNat,j≠but→inQ q j
theorem BI.start (os:List AU) (but:Int) (ids:List Int):BI os but ids 0 (JL os but ids):=by
 obtain ⟨h1,h2,h3⟩:=nR os but ids
 refine ⟨h1,fun s hs=> ?_,h2,fun m hm=>by omega⟩
 obtain ⟨x,hx,rfl,h0,hb⟩:=h3 s hs
 exact ⟨x,hx,(AB os x).toNat,by omega,by rw [Int.toNat_of_nonneg h0];exact hb, .refl⟩
theorem BI.step {os:List AU} {but:Int} {ids:List Int} {i:Nat} {q:Que} (h:BI os but ids i q) (hi:i<q.length):BI os but ids (i+1) (T8 os but q (gQ q i)):=by
 obtain ⟨h1,h2,h3,h4⟩:=TT (gQ q i) h.qi
 refine ⟨h1,fun s hs=> ?_,fun x hx h0 hb=>h2.inq (h.ini x hx h0 hb),fun m hm hml j hj hb=> ?_⟩
 ·rcases h4 s hs with hs | ⟨hs,hb⟩
  ·exact h.snd s hs
  ·obtain ⟨x,hx,s',e1,e2,hr⟩:=h.snd _ (fE hi)
   exact ⟨x,hx,s',e1,e2, .step hr hs hb⟩
 ·rcases Nat.lt_or_ge m i with hmi | hmi
  ·rw [h2.gq (by omega)] at hj
   exact h2.inq (h.cls m hmi (by omega) j hj hb)
  ·have:m=i:=by omega
   subst this
   rw [h2.gq hi] at hj
   exact h3 j hj hb
theorem BI.run {os:List AU} {but:Int} {ids:List Int}: ∀(f i:Nat) (q:Que),BI os but ids i q→8<f+i→BI os but ids (QU os but f i q).length (QU os but f i q)∧OI q (QU os but f i q)
 | 0,i,q,h,hf=>by
   have:=h.qi.len
   exact ⟨⟨h.qi,h.snd,h.ini,fun m hm hl=>h.cls m (by simp only [QU] at hl;omega) hl⟩, .refl q⟩
 | f+1,i,q,h,hf=>by
   simp only [QU]
   split
   ·rename_i hi
    obtain ⟨h1,h2⟩:=BI.run f (i+1) _ (h.step hi) (by omega)
    exact ⟨h1,(TT (gQ q i) h.qi).2.1.trans h2⟩
   ·rename_i hi
    exact ⟨⟨h.qi,h.snd,h.ini,fun m hm hl=>h.cls m (by omega) hl⟩, .refl q⟩
theorem wG (os:List AU) (but:Int) (ids:List Int):QI os but (iH os but ids)∧ ∀k:Nat,inQ (iH os but ids) (k:Int)↔e6 os but ids k:=by
 have h:BI os but ids (iH os but ids).length (iH os but ids):=(BI.run 9 0 (JL os but ids) (BI.start os but ids) (by omega)).1
 refine ⟨h.qi,fun k=>⟨fun hk=>by have:=h.snd _ hk;rwa [Int.toNat_natCast] at this, ?_⟩⟩
 rintro ⟨x,hx,s,hs,hsb,hr⟩
 have hst:inQ (iH os but ids) (s:Int):=by rw [←hs];exact h.ini x hx (by omega) (by rw [hs];exact hsb)
 induction hr with
 | refl=>exact hst
 | step hr' hj hb ih=>
   rename_i y j
   have h0:=CG hj
   obtain ⟨p,hp,he⟩:=List.mem_map.1 ih
   obtain ⟨m,hm,rfl⟩:=List.getElem_of_mem hp
   rw [Y0 hm] at he
   have:=h.cls m hm hm j (by show j∈BO os (gQ _ m).toNat;rw [he,Int.toNat_natCast];exact hj) hb
   rw [←h0.2.2.1];exact this
theorem aR {os:List AU} {s k:Nat}:S5 os (-1) s k↔Reach os s k:=by
 constructor
 ·intro h
  induction h with
  | refl=>exact .refl
  | step _ hj _ ih=>exact .step ih hj
 ·intro h
  induction h with
  | refl=>exact .refl
  | step _ hj ih=>exact .step ih hj (by have:=(CG hj).1;omega)
end Go.Proofs.Ytklmcfpgdfibnaa.P
