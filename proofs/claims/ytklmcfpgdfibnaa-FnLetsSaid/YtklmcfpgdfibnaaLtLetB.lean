/- A part of the proof. -/
import Derived.Test.YtklmcfpgdfibnaaLtRecD
import Derived.Test.YtklmcfpgdfibnaaLtRowB
import Derived.Test.YtklmcfpgdfibnaaLtHpFb
namespace Go.Proofs.Ytklmcfpgdfibnaa.P
open Go Go.Proofs.Ytklmcfpgdfibnaa Go.Proofs.Ytklmcfpgdfibnaa.Eng
set_option linter.unusedVariables false
set_option maxHeartbeats 4000000
set_option linter.unusedVariables false
set_option linter.unusedSimpArgs false
attribute [local irreducible] prP gP gE gF AX ixW ldc ldg ldl stc stg scW mkW apW BL cl2 BS EB B8
variable {w0:World}
theorem dC {L:List Int} {K:J2} (h:K [.bool (decide ((L.length:Int)>1048576))] []):cl2 ⟨Try.prog,w0⟩ 17 JH.sg [] [tY L] K:=by
 refine JH.cl2 ?_
 unfold JH.txt
 rw [eQ]
 exact ID h
end Go.Proofs.Ytklmcfpgdfibnaa.P
namespace Go.Proofs.Ytklmcfpgdfibnaa.P
open Go Go.Proofs.Ytklmcfpgdfibnaa Go.Proofs.Ytklmcfpgdfibnaa.Eng
set_option linter.unusedVariables false
set_option maxHeartbeats 4000000
set_option linter.unusedVariables false
set_option linter.unusedSimpArgs false
attribute [local irreducible] prP gP gE gF AX ixW ldc ldg ldl stc stg scW mkW apW BL cl2 BS EB B8
variable {w0:World}
end Go.Proofs.Ytklmcfpgdfibnaa.P
namespace Go.Proofs.Ytklmcfpgdfibnaa.P
open Go Go.Proofs.Ytklmcfpgdfibnaa Go.Proofs.Ytklmcfpgdfibnaa.Eng
set_option linter.unusedVariables false
set_option maxHeartbeats 4000000
set_option linter.unusedVariables false
set_option linter.unusedSimpArgs false
attribute [local irreducible] prP gP gE gF AX ixW ldc ldg ldl stc stg scW mkW apW BL cl2 BS EB B8
variable {w0:World}
theorem TL {L:List Int} {K:J2} (hb:SO L) (h: ∀l:List Op5,l.length≤70→(∀o∈l,OpF o)→K [] [tR tP l]):cl2 ⟨Try.prog,w0⟩ 43 EW.sg [] [tY L] K:=by
 refine EW.cl2 ?_
 unfold EW.txt
 refine YJ hb fun z=> ?_
 exact ZL (m:=70) hb (Nat.zero_le _) (by omega) fun l i1 z1 hl ho h1=>h l hl fun o hx=>(ho o hx).f
attribute [local irreducible] I4
end Go.Proofs.Ytklmcfpgdfibnaa.P
namespace Go.Proofs.Ytklmcfpgdfibnaa.P
open Go Go.Proofs.Ytklmcfpgdfibnaa Go.Proofs.Ytklmcfpgdfibnaa.Eng
set_option linter.unusedVariables false
set_option maxHeartbeats 4000000
set_option linter.unusedVariables false
set_option linter.unusedSimpArgs false
attribute [local irreducible] prP gP gE gF AX ixW ldc ldg ldl stc stg scW mkW apW BL cl2 BS EB B8
variable {w0:World}
theorem pT {w a:Bool} {m:J2→Prop} {K:J2} (ha:a=w) (h:m K):gC (.bool a) w m K:= .inl ⟨by rw [ha],h⟩
theorem lN {w a:Bool} {m:J2→Prop} {K:J2} (ha:a= !w) (h:K [] []):gC (.bool a) w m K:= .inr ⟨.inl (by rw [ha]),h⟩
theorem uO {m:J2→Prop} {K:J2} (h:m K):gC (.bool false) false m K:=pT rfl h
theorem tJ {m:J2→Prop} {K:J2} (h:K [] []):gC (.bool false) true m K:=lN rfl h
theorem pZ {c:Prop} [Decidable c] {m:J2→Prop} {K:J2} (hc:c) (h:m K):gC (.bool (decide c)) true m K:=pT (decide_eq_true hc) h
theorem sM {c:Prop} [Decidable c] {m:J2→Prop} {K:J2} (hc: ¬c) (h:K [] []):gC (.bool (decide c)) true m K:=lN (decide_eq_false hc) h
end Go.Proofs.Ytklmcfpgdfibnaa.P
namespace Go.Proofs.Ytklmcfpgdfibnaa.P
open Go Go.Proofs.Ytklmcfpgdfibnaa Go.Proofs.Ytklmcfpgdfibnaa.Eng
set_option linter.unusedVariables false
section
variable {os:List AV} {ns:Nat} {buf:List Int} {k:Nat}
theorem Gd.put (h:HP os ns buf []) (k8:k<8) (hd:(ob os k).live=false) {t:Int} (g:Gd os buf):Gd (os.set k (JI ((ob os k).gen+1) t)) buf:=by
 have hol:=h.ol
 have eo: ∀i,ob (os.set k (JI ((ob os k).gen+1) t)) i=if i=k then JI ((ob os k).gen+1) t else ob os i:=fun i=>FR (by omega)
 have sl: ∀(x:Int) (s:Nat),AB os x=(s:Int)→s≠k∧AB (os.set k (JI ((ob os k).gen+1) t)) x=(s:Int):=fun x s hs=>by
  have sv:=PV hs
  have hsk:s≠k:=fun hh=>by rw [hh,hd] at sv;cases sv.2
  refine ⟨hsk, ?_⟩
  have hb:=BN (l:=os) (id:=x) (by omega)
  have e:(x % 8).toNat=s:=by omega
  have e2:(AB os x).toNat=s:=by omega
  rw [e2] at hb
  rw [IA hb.2.1 (by simpa using hol) (by rw [List.length_set];omega) (by rw [e,eo,if_neg hsk];exact sv.2) (by rw [e,eo,if_neg hsk];exact hb.2.2.2.2.2)]
  omega
 have kk: ∀y,(y<8∧(ob os y).live=true∧y≠k)→ ∀j∈BP os y,j∈BP (os.set k (JI ((ob os k).gen+1) t)) y∧(j.toNat<8∧(ob os j.toNat).live=true∧j.toNat≠k):=fun y ⟨y8,yv,yk⟩ j hj=>by
  have hb:=CO hj
  obtain ⟨h0,f,hf,hs⟩:=H4.1 hj
  obtain ⟨h1,h2⟩:=sl f j.toNat (by omega)
  exact ⟨H4.2 ⟨h0,f,by rw [eo,if_neg yk];exact hf,by omega⟩,hb.2.1,hb.2.2.2.2,h1⟩
 intro y y8 yv
 by_cases hyk:y=k
 ·subst hyk
  exact .inl ⟨y,⟨k8,yv,by rw [eo,if_pos rfl];simp [JI]⟩, .refl⟩
 ·rw [eo,if_neg hyk] at yv
  rcases g y y8 yv with ⟨e,he,hr⟩ | ⟨x,hx,s,hs,hr⟩
  ·have hek:e≠k:=fun hh=>by have:=he.lv;rw [hh,hd] at this;cases this
   exact .inl ⟨e,⟨he.lt,by rw [eo,if_neg hek];exact he.lv,by rw [eo,if_neg hek];exact he.pos⟩,(hr.JR (P:=fun y=>y<8∧(ob os y).live=true∧y≠k) ⟨he.lt,he.lv,hek⟩ kk).1⟩
  ·have sv:=PV hs
   obtain ⟨h1,h2⟩:=sl x s hs
   exact .inr ⟨x,hx,s,h2,(hr.JR (P:=fun y=>y<8∧(ob os y).live=true∧y≠k) ⟨sv.1,sv.2,h1⟩ kk).1⟩
theorem jW {ss:List ByteArray} {s:ByteArray} (h:HP os ns buf []) (g:Gd os buf):Gd (GW os ss s).1 buf:=by
 unfold GW
 split
 ·exact g
 ·split
  ·exact g
  ·split
   ·exact g
   ·rename_i hf _
    obtain ⟨h1,h2,h3⟩:=L6 hf
    have hol:=h.ol
    simp only [H6,Bool.and_eq_true,Bool.not_eq_true',decide_eq_true_eq] at h3
    have hg:=(h.obj (CC os).toNat (by omega)).gen
    simp only
    rw [KA (n:=(ob os (CC os).toNat).gen+1) ⟨by omega,by omega⟩]
    exact g.put h (by omega) h3.1
theorem uU (os:List AV) (P:Nat→Bool) (j:Nat):0≤S os P j:=by
 have:=KN (n:=8) (f:=fun _=>0) (g:=fun x=>if P x then E os x j else 0) fun x hx=>by
  split
  ·exact O6 _ _ _
  ·exact Int.le_refl _
 rw [IY (fun _ _=>rfl)] at this;exact this
theorem nR (h:HP os ns buf []) {e:Nat} (he:kB os e) (hr:Reach os e k): ¬RB os buf k∨ ∃x,Out os (fun i=>(ob os i).count) buf x∧Reach os x k:=by
 induction hr with
 | refl=>
   by_cases hb:RB os buf e
   ·right
    have:=uU os (fun k=> !NY os buf k) e
    have:=he.pos
    exact ⟨e,⟨he.lt,hb,(h.ext he.lt he.lv).2 (by omega)⟩, .refl⟩
   ·exact .inl hb
 | step hr hj ih=>
   rename_i y j
   rcases ih with ih | ⟨x,hx,ih⟩
   ·by_cases hb:RB os buf j.toNat
    ·right
     have hjb:=CO hj
     have yl:=hr.live ⟨he.lt,he.lv⟩
     have hm:((j.toNat:Nat):Int)∈BP os y:=by rw [←hjb.2.2.1];exact hj
     have e1:=p6 (os:=os) (P:=fun k=> !NY os buf k) (j:=j.toNat) yl.1 (by simp [S1.2 ih])
     have hE:0<E os y j.toNat:=by unfold E;have:=List.count_pos_iff.2 hm;omega
     have hlv:=(h.obj j.toNat hjb.2.1).lv hjb.2.2.2.2
     exact ⟨j.toNat,⟨hjb.2.1,hb,(h.ext hjb.2.1 hjb.2.2.2.2).2 (by omega)⟩, .refl⟩
    ·exact .inl hb
   ·exact .inr ⟨x,hx, .step ih hj⟩
def Rch (os:List AV) (k:Nat):Prop:= ∃e,kB os e∧Reach os e k
theorem Rch.live {os:List AV} {k:Nat}:Rch os k→k<8∧(ob os k).live=true:=fun ⟨_,he,hr⟩=>hr.live ⟨he.lt,he.lv⟩
theorem jJ (h:HP os ns buf []) (g:Gd os buf) (k8:k<8) (kv:(ob os k).live=true):KU os (fun i=>(ob os i).count) buf k=true↔ ¬Rch os k:=by
 rw [JJ]
 constructor
 ·rintro ⟨hb,hn⟩ ⟨e,he,hr⟩
  rcases nR h he hr with h1 | h1
  ·exact h1 hb
  ·exact hn h1
 ·intro hn
  have hb: ∀y,y<8→(ob os y).live=true→ ¬Rch os y→RB os buf y:=fun y y8 yv hy=>by
   rcases g y y8 yv with hc | ⟨x,hx,s,hs,hr⟩
   ·exact absurd hc hy
   ·exact ⟨x,hx,s,hs,hr⟩
  refine ⟨hb k k8 kv hn, ?_⟩
  rintro ⟨x,⟨x8,xr,hx⟩,hr⟩
  have xv:(ob os x).live=true:=xr.live
  have hp:=(h.ext x8 xv).1 hx
  by_cases h0:0<(ob os x).holds+(ob os x).roots
  ·exact hn ⟨x,⟨x8,xv,h0⟩,hr⟩
  ·obtain ⟨p,p8,hpp,hE⟩:=kL (os:=os) (P:=fun k=> !NY os buf k) (j:=x) (by omega)
   have hpn: ¬RB os buf p:=by simp only [Bool.not_eq_true'] at hpp;exact S1.1 hpp
   have hm:=eR hE
   obtain ⟨_,f,hf,hs⟩:=H4.1 hm
   have pv:=((h.obj p p8).lead f hf (fun hh=>by rw [hh,G8 (.inl (by omega))] at hs;omega)).1
   obtain ⟨e,he,her⟩:Rch os p:=Classical.byContradiction fun hh=>hpn (hb p p8 pv hh)
   have:=Reach.step her hm
   rw [Int.toNat_natCast] at this
   exact hn ⟨e,he,this.trans hr⟩
theorem mG {W:Nat→Bool} {i:Nat} (h:W i=true):FF os W i=B4 (ob os i).gen:=by
 unfold FF
 rw [show DD os W i=B4 (ob os i).gen from by unfold DD;rw [if_pos h]]
 rfl
theorem eE {W:Nat→Bool} {i:Nat} (h:W i=false):(FF os W i).live=(ob os i).live∧(FF os W i).gen=(ob os i).gen∧(FF os W i).site=(ob os i).site∧(FF os W i).holds=(ob os i).holds∧(FF os W i).roots=(ob os i).roots∧(FF os W i).field=(ob os i).field:=by
 have e:DD os W i={ob os i with purple:=false}:=by unfold DD;rw [if_neg (by rw [h];decide)]
 unfold FF
 rw [e]
 split
 ·exact ⟨rfl,rfl,rfl,rfl,rfl,rfl⟩
 ·exact ⟨rfl,rfl,rfl,rfl,rfl,rfl⟩
structure uR (os os':List AV):Prop where
 len:os'.length=8
 lv: ∀k,k<8→((ob os' k).live=true↔Rch os k)
 rch: ∀k,Rch os k→Rch os' k
 sm: ∀k,k<8→Rch os k→(ob os' k).gen=(ob os k).gen∧(ob os' k).site=(ob os k).site∧(ob os' k).holds=(ob os k).holds∧(ob os' k).roots=(ob os k).roots∧(ob os' k).field=(ob os k).field
 gn: ∀k,k<8→(ob os' k).gen=(ob os k).gen
theorem kO (h:HP os ns buf []) (g:Gd os buf):uR os (HT os buf).1:=by
 obtain ⟨W,hW⟩: ∃W,W=KU os (fun i=>(ob os i).count) buf:=⟨_,rfl⟩
 have wi: ∀k,k<8→(ob os k).live=true→(W k=true↔ ¬Rch os k):=fun k k8 kv=>by rw [hW];exact jJ h g k8 kv
 have wl: ∀k,W k=true→(ob os k).live=true:=fun k hk=>by rw [hW,JJ] at hk;exact hk.1.live
 have eo: ∀i,i<8→ob (HT os buf).1 i=FF os W i:=fun i hi=>by
  unfold HT;simp only;rw [HQ hi,hW]
 have hf: ∀k,Rch os k→W k=false:=fun k hk=>by
  cases hw:W k with
  | false=>rfl
  | true=>exact absurd hk ((wi k hk.live.1 hk.live.2).1 hw)
 have sm: ∀k,k<8→Rch os k→(ob (HT os buf).1 k).gen=(ob os k).gen∧(ob (HT os buf).1 k).site=(ob os k).site∧(ob (HT os buf).1 k).holds=(ob os k).holds∧(ob (HT os buf).1 k).roots=(ob os k).roots∧(ob (HT os buf).1 k).field=(ob os k).field:=fun k k8 hk=>by
  rw [eo k k8];exact (eE (hf k hk)).2
 have lv: ∀k,k<8→((ob (HT os buf).1 k).live=true↔Rch os k):=fun k k8=>by
  rw [eo k k8]
  cases hw:W k with
  | true=>
    rw [mG hw]
    exact ⟨fun hh=>(by cases hh),fun hh=>absurd hh ((wi k k8 (wl k hw)).1 hw)⟩
  | false=>
    rw [(eE hw).1]
    refine ⟨fun hv=>Classical.byContradiction fun hn=> ?_,fun hh=>hh.live.2⟩
    rw [(wi k k8 hv).2 hn] at hw;cases hw
 have hln:(HT os buf).1.length=8:=CH _
 refine ⟨hln,lv,fun k hk=> ?_,sm,fun k k8=> ?_⟩
 ·obtain ⟨e,he,hr⟩:=hk
  have rr:Rch os e:=⟨e,he, .refl⟩
  refine ⟨e,⟨he.lt,(lv e he.lt).2 rr,by rw [(sm e he.lt rr).2.2.1,(sm e he.lt rr).2.2.2.1];exact he.pos⟩,(hr.JR (P:=Rch os) rr fun y hy j hj=> ?_).1⟩
  have hb:=CO hj
  obtain ⟨e',he',hr'⟩:=hy
  have rj:Rch os j.toNat:=⟨e',he', .step hr' hj⟩
  have hy:Rch os y:=⟨e',he',hr'⟩
  obtain ⟨h0,f,hf',hs⟩:=H4.1 hj
  have hfb:=BN (l:=os) (id:=f) (by omega)
  have ej:(f % 8).toNat=j.toNat:=by omega
  have ej2:(AB os f).toNat=j.toNat:=by omega
  rw [ej2] at hfb
  refine ⟨H4.2 ⟨h0,f,by rw [(sm y hy.live.1 hy).2.2.2.2];exact hf', ?_⟩,rj⟩
  rw [IA hfb.2.1 hln (by rw [hln];omega) (by rw [ej];exact (lv _ hb.2.1).2 rj) (by rw [ej,(sm _ hb.2.1 rj).1];exact hfb.2.2.2.2.2)]
  omega
 ·rw [eo k k8]
  cases hw:W k with
  | true=>rw [mG hw];rfl
  | false=>exact (eE hw).2.1
theorem pR (h:HP os ns buf []) (g:Gd os buf):Gd (HT os buf).1 []:=fun k k8 kv=>by
 have R:=kO h g
 exact .inl (R.rch k ((R.lv k k8).1 kv))
end
theorem CN.gd {h:Hp} {o:Op5} (hk:CN h) (g:Gd h.AU h.buffer):Gd (DM h o).1.AU (DM h o).1.buffer:=by
 have hp:=hk.hp
 unfold DM
 split
 ·exact jW hp g
 ·split
  ·exact (hp.bS (id:=o.a) (kd:=o.kind)).gd g
  ·split
   ·exact (hp.XS (a:=o.a) (b:=o.b) (c:=o.c)).gd g
   ·split
    ·exact g
    ·split
     ·exact g
     ·split
      ·exact pR hp g
      ·exact g
theorem qW:Gd hp0.AU hp0.buffer:=fun k k8 kv=>by
 have:ob hp0.AU k=B4 0:=by
  unfold hp0 ob;simp only;rw [List.getD_eq_getElem?_getD,List.getElem?_replicate,if_pos k8];rfl
 rw [this] at kv;cases kv
theorem cE (l:List Op5): ∀i,Gd (I4 l i).1.AU (I4 l i).1.buffer
 | 0=>qW
 | i+1=>(OH l i).1.gd (cE l i)
end Go.Proofs.Ytklmcfpgdfibnaa.P
namespace Go.Proofs.Ytklmcfpgdfibnaa.P
open Go Go.Proofs.Ytklmcfpgdfibnaa Go.Proofs.Ytklmcfpgdfibnaa.Eng
set_option linter.unusedVariables false
set_option maxHeartbeats 4000000
set_option linter.unusedVariables false
set_option linter.unusedSimpArgs false
attribute [local irreducible] prP gP gE gF AX ixW ldc ldg ldl stc stg scW mkW apW BL cl2 BS EB B8
variable {w0:World}
theorem UP {α:Type} {f:Nat→List α} {x:α}: ∀{n:Nat},x∈pick f n↔ ∃i,i<n∧x∈f i
 | 0=>by simp [pick]
 | n+1=>by
   rw [pick,List.mem_append,UP]
   constructor
   ·rintro (⟨i,h1,h2⟩ | h)
    ·exact ⟨i,by omega,h2⟩
    ·exact ⟨n,by omega,h⟩
   ·rintro ⟨i,h1,h2⟩
    rcases Nat.lt_or_ge i n with h | h
    ·exact .inl ⟨i,h,h2⟩
    ·have:i=n:=by omega
     subst this;exact .inr h2
theorem jC {os:List AV} {k:Nat} (hol:os.length=8) (k8:k<8) (kv:(ob os k).live=true):CL k (ob os k).gen∈MC os:=
 UP.2 ⟨k,by omega,by unfold IL;rw [if_pos ⟨by omega,kv⟩];simp⟩
theorem iU {os:List AV} (h: ∀k,k<8→(ob os k).live=false):MC os=[]:=by
 refine List.eq_nil_iff_forall_not_mem.2 fun x hx=> ?_
 obtain ⟨i,_,hi⟩:=UP.1 hx
 unfold IL at hi
 split at hi
 ·rename_i hh
  have:=h i (by omega)
  rw [hh.2] at this;cases this
 ·cases hi
theorem V4 {a:List AV} {b c d:List T} {K:J2} (hl:(a.length:Int)≤1048576) (h:K [] [tI (MC a)]):cl2 ⟨Try.prog,w0⟩ 40 E9.sg [] [tR tO a,b,c,d] K:=by
 refine E9.cl2 ?_
 unfold E9.txt
 simp only [AG,AQ,AP,AN,AI,AD,AE,AL,AO,AK,AM,AJ,AR,AH,BC,BI,BF,BH,BJ,BG,BD,AZ,A4,A6,A8,A7,A5]
 refine BK (fun i=>[iv a.length,iv i]) (fun i=>[tI (pick (IL a) i)]) a.length (fun i=>True) rfl rfl trivial (fun R i hi _ hR=> ?_)
 have hpl:=JG (SP a) i
 simp only [AG,AQ,AP,AN,AI,AD,AE,AL,AO,AK,AM,AJ,AR,AH,BC,BI,BF,BH,BJ,BG,BD,AZ,A4,A6,A8,A7,A5]
 refine AY (AW (fun hlt=>BQ ?_) fun hge=> ?_)
 ·have hlt:i<a.length:=by omega
  have hR:=hR hlt trivial
  refine AT hlt (MH hlt (AY (BM (BM ?_))))
  simp only [gK,fW]
  by_cases h8:(i:Int)<8
  ·refine CX h8 rfl ?_
   cases hv:(ob a i).live with
   | true=>
     have e:IL a i=[CL i (ob a i).gen]:=by unfold IL;rw [if_pos ⟨by omega,hv⟩]
     refine BZ (JA (EJ rfl (by first | omega | (simp only [AG,AQ,AP,AN,AI,AD,AE,AL,AO,AK,AM,AJ,AR,AH,BC,BI,BF,BH,BJ,BG,BD,AZ,A4,A6,A8,A7,A5];omega)) ?_))
     simp only [AG,AQ,AP,AN,AI,AD,AE,AL,AO,AK,AM,AJ,AR,AH,BC,BI,BF,BH,BJ,BG,BD,AZ,A4,A6,A8,A7,A5]
     rw [D7,aD e]
     exact BB (by omega) hR
   | false=>
     have e:IL a i=[]:=by unfold IL;rw [if_neg];rintro ⟨_,h⟩;rw [hv] at h;cases h
     refine BX ?_
     simp only [AG,AQ,AP,AN,AI,AD,AE,AL,AO,AK,AM,AJ,AR,AH,BC,BI,BF,BH,BJ,BG,BD,AZ,A4,A6,A8,A7,A5]
     rw [←SS e] at hR
     exact BB (by omega) hR
  ·refine C4 h8 rfl (BX ?_)
   have e:IL a i=[]:=by unfold IL;rw [if_neg];omega
   simp only [AG,AQ,AP,AN,AI,AD,AE,AL,AO,AK,AM,AJ,AR,AH,BC,BI,BF,BH,BJ,BG,BD,AZ,A4,A6,A8,A7,A5]
   rw [←SS e] at hR
   exact BB (by omega) hR
 ·have:i=a.length:=by omega
  subst this
  exact h
structure Sub (a b:List AV):Prop where
 la:a.length=8
 lb:b.length=8
 lv: ∀i,i<8→(ob b i).live=true→(ob a i).live=true∧(ob b i).gen=(ob a i).gen
theorem Sub.refl {a:List AV} (h:a.length=8):Sub a a:=⟨h,h,fun _ _ h=>⟨h,rfl⟩⟩
theorem Sub.trans {a b c:List AV} (h:Sub a b) (h':Sub b c):Sub a c:=⟨h.la,h'.lb,fun i hi hv=>by
 obtain ⟨x,y⟩:=h'.lv i hi hv
 obtain ⟨u,v⟩:=h.lv i hi x
 exact ⟨u,by rw [y,v]⟩⟩
theorem Sub.slot {a b:List AV} (h:Sub a b) {x:Int} {k:Nat} (hs:AB b x=(k:Int)):AB a x=(k:Int):=by
 have hb:=BN (l:=b) (id:=x) (by omega)
 have ek:(AB b x).toNat=k:=by omega
 rw [ek] at hb
 obtain ⟨_,b1,b2,k8,kv,kg⟩:=hb
 obtain ⟨u,v⟩:=h.lv k k8 kv
 have e:(x % 8).toNat=k:=by omega
 rw [IA b1 h.la (by have:=h.la;omega) (by rw [e];exact u) (by rw [e, ←v];exact kg)]
 omega
abbrev hr_ (os:List AV) (k:Nat):Int:=(ob os k).holds+(ob os k).roots
theorem CN.hr0 {x:Hp} (hk:CN x) {id:Int} {k:Nat} (hs:AB x.AU id=(k:Int)):(0≤(ob x.AU k).holds∧(ob x.AU k).holds≤20)∧(0≤(ob x.AU k).roots∧(ob x.AU k).roots≤20):=(hk.hp.QX hs).2.2.2
theorem rK {os:List AV} {buf:List Int} {ns:Nat} {id:Int} {k:Nat} (h:HP os ns buf []) (hk:AB os id=(k:Int)) {v:AV} (ev:v={ob os k with holds:=v.holds,roots:=v.roots}) (v4:0≤v.holds∧v.holds≤20) (v5:0≤v.roots∧v.roots≤20) (hs:v.holds+v.roots+1=hr_ os k):
  M4 (os.set k v) (FK (os.set k v) buf [id]).1 (FK (os.set k v) buf [id]).2.2:=by
 have hls:0≤AB os id:=by omega
 obtain ⟨c1,c2,c3,_,_⟩:=h.QX hk
 have e1:v.count=(ob os k).count:=by rw [ev]
 have h1:=h.upd (pd':=[id]) (v:=v) hk (by rw [ev]) (by rw [ev]) (by rw [ev]) v4 v5 (by rw [ev]) (by rw [ev]) (by simp only [List.count_singleton_self];simp only [hr_] at hs;omega) (by omega) (fun x hx=>by simp [Ne.symm hx]) (by simpa using hls)
 exact fM h1
theorem oC {x:Hp} (hk:CN x) {id kd:Int} {k:Nat} {s:ByteArray} (hs:AB x.AU id=(k:Int)) (h0:hr_ x.AU k≠0) (hkd:(kd=6∧(ob x.AU k).holds=0)∨(kd=3∧(ob x.AU k).holds≠0)):
  (DM x ⟨kd,id,0,0,s⟩).2.code=0∧Sub x.AU (DM x ⟨kd,id,0,0,s⟩).1.AU∧ ∀i,i<8→(ob (DM x ⟨kd,id,0,0,s⟩).1.AU i).live=true→hr_ (DM x ⟨kd,id,0,0,s⟩).1.AU i=hr_ x.AU i-(if i=k then 1 else 0):=by
 have hp:=hk.hp
 have hol:=hk.ol
 obtain ⟨b1,b2⟩:=hk.hr0 hs
 have k8:k<8:=(hp.me hs).1
 have hkl:k<x.AU.length:=by omega
 have e:AB x.AU id=((k:Nat):Int):=hs
 have fin: ∀v:AV,v={ob x.AU k with holds:=v.holds,roots:=v.roots}→(0≤v.holds∧v.holds≤20)→(0≤v.roots∧v.roots≤20)→v.holds+v.roots+1=hr_ x.AU k→
   Sub x.AU (FK (x.AU.set k v) x.buffer [id]).1∧ ∀i,i<8→(ob (FK (x.AU.set k v) x.buffer [id]).1 i).live=true→hr_ (FK (x.AU.set k v) x.buffer [id]).1 i=hr_ x.AU i-(if i=k then 1 else 0):=fun v ev v4 v5 hsum=>by
  have R:=rK hp hs ev v4 v5 hsum
  have eo: ∀i,ob (x.AU.set k v) i=if i=k then v else ob x.AU i:=fun i=>FR hkl
  refine ⟨⟨hol,R.len,fun i hi hv=> ?_⟩,fun i hi hv=> ?_⟩
  ·obtain ⟨a,_⟩:=R.sm i hi hv
   have g:=R.gn i hi
   rw [eo] at a g
   split at a
   ·rename_i he;subst he
    rw [if_pos rfl] at g
    have vl:v.live=(ob x.AU i).live:=by rw [ev]
    have vg:v.gen=(ob x.AU i).gen:=by rw [ev]
    exact ⟨by rw [←vl];exact a,by rw [g,vg]⟩
   ·rename_i he
    rw [if_neg he] at g
    exact ⟨a,g⟩
  ·obtain ⟨_,_,a,b,_⟩:=R.sm i hi hv
   simp only [hr_]
   rw [a,b,eo]
   split
   ·rename_i he;subst he;simp only [hr_] at hsum;omega
   ·omega
 rcases hkd with ⟨rfl,hz⟩ | ⟨rfl,hz⟩
 ·have es:DM x ⟨6,id,0,0,s⟩=(⟨(GO x.AU x.buffer 6 id).1,x.B2,(GO x.AU x.buffer 6 id).2.1,x.sites⟩,(GO x.AU x.buffer 6 id).2.2):=by simp [DM]
  have hr:(ob x.AU k).roots≠0:=by simp only [hr_] at h0;omega
  have eh:GO x.AU x.buffer 6 id=O7 (FK (x.AU.set k {ob x.AU k with roots:=(ob x.AU k).roots-1}) x.buffer [id]):=by
   unfold GO
   rw [e,Int.toNat_natCast,if_neg (by omega),if_neg (by decide),if_neg (by decide),if_neg (by decide),if_neg hr]
  rw [es,eh]
  exact ⟨rfl,fin _ rfl (by simp only;omega) (by simp only;omega) (by simp only [hr_];omega)⟩
 ·have es:DM x ⟨3,id,0,0,s⟩=(⟨(GO x.AU x.buffer 3 id).1,x.B2,(GO x.AU x.buffer 3 id).2.1,x.sites⟩,(GO x.AU x.buffer 3 id).2.2):=by simp [DM]
  have eh:GO x.AU x.buffer 3 id=O7 (FK (x.AU.set k {ob x.AU k with holds:=(ob x.AU k).holds-1}) x.buffer [id]):=by
   unfold GO
   rw [e,Int.toNat_natCast,if_neg (by omega),if_neg (by decide),if_neg (by decide),if_pos rfl,if_neg hz]
  rw [es,eh]
  exact ⟨rfl,fin _ rfl (by simp only;omega) (by simp only;omega) (by simp only [hr_];omega)⟩
theorem W7 (x:Hp) (s:ByteArray):DM x ⟨10,0,0,0,s⟩=(⟨(HT x.AU x.buffer).1,x.B2,[],x.sites⟩,⟨0,0,(HT x.AU x.buffer).2⟩):=by simp [DM]
structure Z2 (h0:Hp) (i:Nat) (x:Hp):Prop where
 ok:CN x
 gd:Gd x.AU x.buffer
 sub:Sub h0.AU x.AU
 dn: ∀j,j<i→ ∀k:Nat,AB x.AU (gI (MC h0.AU) j)=(k:Int)→hr_ x.AU k=0
theorem Z2.drop {h0 x:Hp} {i:Nat} (h:Z2 h0 i x) {id kd:Int} {k:Nat} {s:ByteArray} (hs:AB x.AU id=(k:Int)) (hz:hr_ x.AU k≠0) (hkd:(kd=6∧(ob x.AU k).holds=0)∨(kd=3∧(ob x.AU k).holds≠0)):
  (DM x ⟨kd,id,0,0,s⟩).2.code=0∧Z2 h0 i (DM x ⟨kd,id,0,0,s⟩).1∧ ∀v:Int, ∀m:Nat,AB (DM x ⟨kd,id,0,0,s⟩).1.AU v=(m:Int)→AB x.AU v=(m:Int)∧hr_ (DM x ⟨kd,id,0,0,s⟩).1.AU m=hr_ x.AU m-(if m=k then 1 else 0):=by
 obtain ⟨c,S,H⟩:=oC (s:=s) h.ok hs hz hkd
 have back: ∀v:Int, ∀m:Nat,AB (DM x ⟨kd,id,0,0,s⟩).1.AU v=(m:Int)→AB x.AU v=(m:Int)∧hr_ (DM x ⟨kd,id,0,0,s⟩).1.AU m=hr_ x.AU m-(if m=k then 1 else 0):=fun v m hm=>by
  have hl:=PV hm
  exact ⟨S.slot hm,H m hl.1 hl.2⟩
 refine ⟨c,⟨h.ok.step,h.ok.gd h.gd,h.sub.trans S,fun j hj m hm=> ?_⟩,back⟩
 obtain ⟨a,b⟩:=back _ m hm
 have z:=h.dn j hj m a
 have p:=h.ok.step.hr0 hm
 simp only [hr_] at b z p ⊢
 split at b <;> omega
theorem Z2.fin {h0 x:Hp} (h:Z2 h0 (MC h0.AU).length x) (s:ByteArray):MC (DM x ⟨10,0,0,0,s⟩).1.AU=[]:=by
 rw [W7]
 have hp:=h.ok.hp
 have R:=kO hp h.gd
 refine iU fun k k8=> ?_
 cases hv:(ob (HT x.AU x.buffer).1 k).live with
 | false=>rfl
 | true=>
   exfalso
   obtain ⟨e,he,_⟩:=(R.lv k k8).1 hv
   obtain ⟨u,v⟩:=h.sub.lv e he.lt he.lv
   have hm:=jC h.sub.la he.lt u
   rw [←v] at hm
   obtain ⟨j,hj,ej⟩:=List.getElem_of_mem hm
   rw [EM hj] at ej
   have hoe:=(hp.obj e he.lt)
   have sl:=HY h.ok.ol he.lt he.lv (hoe.lv he.lv).1 hoe.gen.2
   rw [←ej] at sl
   have z:=h.dn j hj e sl
   have p:=he.pos
   simp only [hr_] at z;omega
end Go.Proofs.Ytklmcfpgdfibnaa.P
namespace Go.Proofs.Ytklmcfpgdfibnaa.P
open Go Go.Proofs.Ytklmcfpgdfibnaa Go.Proofs.Ytklmcfpgdfibnaa.Eng
set_option linter.unusedVariables false
set_option maxHeartbeats 4000000
set_option linter.unusedVariables false
set_option linter.unusedSimpArgs false
attribute [local irreducible] prP gP gE gF AX ixW ldc ldg ldl stc stg scW mkW apW BL cl2 BS EB B8
variable {w0:World}
theorem iK {x:Hp} (ol:x.AU.length=8) {n:Nat} {P Q:Prop} (hQ:Q):
  gE (.bool false) (
  gC (.bool false) false (cl2 ⟨Try.prog,w0⟩ 30 C3.sg [] (trees x)) fun v12 d13=>
  gE (.bool false) (
  gP (.bool false) false (prP (bnI .eql (iv (cnt 1 (nxc d13 0))) (.int .i64 0))) fun t31_14=>
  gE (.bool false) (
  gE (B8 (.bool false) false t31_14) (
  gE (B8 (.bool false) false t31_14) (
  gP (B8 (.bool false) false t31_14) true (prP (bnI .gtr (iv n) (.int .i64 12))) fun t35_15=>
  gP (.bool false) false (prP (pk t31_14 t35_15 (.bool false))) fun t36_16=>
  gE (.bool false) (
  gE (B8 (.bool false) false t36_16) (
  gC (B8 (.bool false) false t36_16) true (cl2 ⟨Try.prog,w0⟩ 40 E9.sg [] (trees x)) fun v17 d18=>
  gE (B8 (.bool false) false t36_16) (
  gP (B8 (.bool false) false t36_16) true (prP (bnI .neq (iv (cnt 1 (nxc d18 0))) (.int .i64 0))) fun t41_19=>
  gP (.bool false) false (prP (pk t36_16 t41_19 (.bool false))) fun t42_20=>
  prP (pk (.bool false) (.bool true) t42_20) fun t43_21=>
  AX t43_21 P Q)))))))):=by
 refine BM (uO (JK (by omega) ?_))
 simp only [AG,AQ,AP,AN,AI,AD,AE,AL,AO,AK,AM,AJ,AR,AH,BC,BI,BF,BH,BJ,BG,BD,AZ,A4,A6,A8,A7,A5]
 refine BM (JZ (BO (BM ?_)))
 try simp only [B8]
 by_cases h0:((MC x.AU).length:Int)=0
 ·refine BM (BM (G5 h0 (ID (JZ (CX h0 rfl (BM ?_))))))
  try simp only [B8]
  by_cases h1:(n:Int)>12
  ·refine BM (pZ h1 (V4 (by omega) ?_))
   simp only [AG,AQ,AP,AN,AI,AD,AE,AL,AO,AK,AM,AJ,AR,AH,BC,BI,BF,BH,BJ,BG,BD,AZ,A4,A6,A8,A7,A5]
   have h2: ¬((MC x.AU).length:Int)≠0:=fun hh=>hh h0
   exact BM (G5 h1 (CI (JZ (CX h1 rfl (Q4 rfl (EZ h2 hQ))))))
  ·exact BM (sM h1 (BM (KY h1 (JZ (C4 h1 rfl (Q4 rfl (BX hQ)))))))
 ·refine BM (BM (KY h0 (JZ (C4 h0 rfl (BM ?_)))))
  try simp only [B8]
  exact BM (tJ (BM (KX (JZ (Q4 rfl (Q4 rfl (BX hQ)))))))
attribute [local irreducible] I4 DM
theorem kM {L:List Int} (g:VU L) {K:J2} (done:K [.bool true] []):HA.txt ⟨Try.prog,w0⟩ (tY L) K:=by
 unfold HA.txt
 refine dC (AW (fun _=>done) fun hsz=> ?_)
 have hb:=g.f hsz
 refine TL hb fun l hl ho=>aT (by omega) ho ?_
 have ok0:=(OH l (min l.length 400)).1
 have gd0:=cE l (min l.length 400)
 obtain ⟨h0,eh⟩: ∃h0,(I4 l (min l.length 400)).1=h0:=⟨_,rfl⟩
 rw [eh] at ok0 gd0 ⊢
 simp only [trees,List.cons_append,List.nil_append]
 simp only [AG,AQ,AP,AN,AI,AD,AE,AL,AO,AK,AM,AJ,AR,AH,BC,BI,BF,BH,BJ,BG,BD,AZ,A4,A6,A8,A7,A5]
 refine MP ok0.fits ok0.eF (fun _=> ?_) fun hh=>absurd ok0 hh
 refine B5 (iK (x:=h0) ok0.ol ?_)
 refine JK (by have:=ok0.ol;omega) ?_
 simp only [AG,AQ,AP,AN,AI,AD,AE,AL,AO,AK,AM,AJ,AR,AH,BC,BI,BF,BH,BJ,BG,BD,AZ,A4,A6,A8,A7,A5]
 obtain ⟨ids,hids⟩: ∃ids,MC h0.AU=ids:=⟨_,rfl⟩
 have idb: ∀j, -1≤gI ids j∧gI ids j≤7999:=fun j=>mT (P:=fun x=> -1≤x∧x≤7999) (by omega) (by rw [←hids];exact bD _) j
 have idl:ids.length≤8:=by rw [←hids, ←ok0.ol];exact iQ _
 rw [hids]
 refine D4 (α:=Nat×Hp) (fun q=>[iv q.1]) (fun q=>[tI ids,tR tO q.2.AU,tR tW q.2.B2,tI q.2.buffer,tS q.2.sites]) (fun q=>ids.length-q.1) (fun q=>q.1≤ids.length∧Z2 h0 q.1 q.2) (0,h0) rfl rfl ⟨Nat.zero_le _,ok0,gd0,Sub.refl ok0.ol,fun j hj=>by omega⟩ (fun R q hq hR=> ?_)
 obtain ⟨i,x⟩:=q
 obtain ⟨hi,hI⟩:=hq
 simp only at hi hI
 simp only [AG,AQ,AP,AN,AI,AD,AE,AL,AO,AK,AM,AJ,AR,AH,BC,BI,BF,BH,BJ,BG,BD,AZ,A4,A6,A8,A7,A5]
 refine AY (AW (fun hlt=> ?_) fun hge=> ?_)
 ·have hlt:i<ids.length:=by omega
  refine hD (fun xs cs=> ∃x',Z2 h0 (i+1) x'∧xs=[iv i]∧cs=[tI ids,tR tO x'.AU,tR tW x'.B2,tI x'.buffer,tS x'.sites]) ?_ fun j hj=> ?_
  ·rintro xs cs ⟨x',hI',rfl,rfl⟩
   exact BB (by omega) (hR (i+1,x') ⟨by simp only;omega,hI'⟩ (by simp only;omega))
  ·refine D4 (α:=Nat×Hp) (fun q=>[iv i,iv q.1]) (fun q=>[tI ids,tR tO q.2.AU,tR tW q.2.B2,tI q.2.buffer,tS q.2.sites]) (fun q=>41-q.1) (fun q=>q.1≤41∧Z2 h0 i q.2∧ ∀k:Nat,AB q.2.AU (gI ids i)=(k:Int)→hr_ q.2.AU k+q.1≤40) (0,x) rfl rfl ⟨by simp only;omega,hI,fun k hk=>by have:=hI.ok.hr0 hk;simp only [hr_];omega⟩ (fun R2 q hq hR2=> ?_)
   obtain ⟨n,y⟩:=q
   obtain ⟨hn,hJ,hc⟩:=hq
   simp only at hn hJ hc
   have yl:=hJ.ok.ol
   simp only [AG,AQ,AP,AN,AI,AD,AE,AL,AO,AK,AM,AJ,AR,AH,BC,BI,BF,BH,BJ,BG,BD,AZ,A4,A6,A8,A7,A5]
   have out:(∀k:Nat,AB y.AU (gI ids i)=(k:Int)→hr_ y.AU k=0)→j [iv i] [tI ids,tR tO y.AU,tR tW y.B2,tI y.buffer,tS y.sites]:=fun hz=>by
    refine hj _ _ ⟨y,⟨hJ.ok,hJ.gd,hJ.sub,fun m hm k hk=> ?_⟩,rfl,rfl⟩
    rcases Nat.lt_or_ge m i with h | h
    ·exact hJ.dn m h k hk
    ·have:m=i:=by omega
     subst this
     rw [hids] at hk
     exact hz k hk
   refine GA (AW (fun hle=> ?_) fun hgt=> ?_)
   ·have hle:n≤40:=by omega
    have fid:F64 (gI ids i):=EE (by have:=idb i;omega)
    refine AT hlt (ldI hlt (CF fid (by omega) (AY (BM (BM (BM ?_))))))
    by_cases hs:AB y.AU (gI ids i)<0
    ·refine H7 hs (BM (H7 hs (BM (BM (BM (H7 hs (BM (H7 hs (H7 hs (H7 hs (CX hs rfl (BZ (out fun k hk=> ?_)))))))))))))
     omega
    ·obtain ⟨k,hk⟩: ∃k:Nat,AB y.AU (gI ids i)=(k:Int):=⟨(AB y.AU (gI ids i)).toNat,by omega⟩
     have hkb:=BN (l:=y.AU) (id:=gI ids i) (by omega)
     have kl:k<y.AU.length:=by omega
     obtain ⟨b1,b2⟩:=hJ.ok.hr0 hk
     rw [hk]
     have hs': ¬((k:Nat):Int)<0:=by omega
     refine F9 hs' (AT kl (BM (F9 hs' (GU kl (by decide) rfl (BM (BM (BM (F9 hs' (AT kl (BM (F9 hs' (GU kl (by decide) rfl (F9 hs' (ED ⟨by omega,by omega⟩ (F9 hs' (BO (C4 hs' rfl (AW (fun hz=> ?_) fun hz=> ?_))))))))))))))))))
     ·exact out fun k' hk'=>by
       have:k'=k:=by omega
       subst this;exact hz
     ·refine hD (fun xs cs=> ∃kd:Int,((kd=6∧(ob y.AU k).holds=0)∨(kd=3∧(ob y.AU k).holds≠0))∧xs=[iv i,iv n,I kd]∧cs=[tI ids,tR tO y.AU,tR tW y.B2,tI y.buffer,tS y.sites]) ?_ fun j2 hj2=> ?_
      ·rintro xs cs ⟨kd,hkd,rfl,rfl⟩
       obtain ⟨d1,d2,d3⟩:=hJ.drop (s:=⟨#[]⟩) hk hz hkd
       simp only [AG,AQ,AP,AN,AI,AD,AE,AL,AO,AK,AM,AJ,AR,AH,BC,BI,BF,BH,BJ,BG,BD,AZ,A4,A6,A8,A7,A5]
       refine AT hlt (ldI hlt (RH (o:=⟨kd,gI ids i,0,0,⟨#[]⟩⟩) hJ.ok.fits hJ.ok.eF fid QN ?_))
       rw [OK hJ.ok]
       obtain ⟨z,ez⟩: ∃z,DM y ⟨kd,gI ids i,0,0,⟨#[]⟩⟩=z:=⟨_,rfl⟩
       rw [ez] at d1 d2 d3 ⊢
       refine CI (EZ (fun hh=>hh d1) (BB (by omega) ?_))
       refine hR2 (n+1,z.1) ⟨by simp only;omega,d2,fun m hm=> ?_⟩ (by simp only;omega)
       obtain ⟨a,b⟩:=d3 _ m hm
       have e:m=k:=by omega
       subst e
       rw [if_pos rfl] at b
       have:=hc m a
       simp only at*
       omega
      ·refine AT kl (GU kl (by decide) rfl (BO (AW (fun h6=> ?_) fun h3=> ?_)))
       ·exact hj2 _ _ ⟨6, .inl ⟨rfl,h6⟩,rfl,rfl⟩
       ·exact hj2 _ _ ⟨3, .inr ⟨rfl,h3⟩,rfl,rfl⟩
   ·refine out fun k hk=> ?_
    have:=hc k hk
    have:=hJ.ok.hr0 hk
    simp only [hr_] at*
    omega
 ·have:i=ids.length:=by omega
  subst this
  rw [←hids] at hI
  refine RH (o:=⟨10,0,0,0,⟨#[]⟩⟩) hI.ok.fits hI.ok.eF QN QN ?_
  rw [OK hI.ok]
  have ef:=hI.fin ⟨#[]⟩
  have ec:(DM x ⟨10,0,0,0,⟨#[]⟩⟩).2.code=0:=by rw [W7]
  have ok':CN (DM x ⟨10,0,0,0,⟨#[]⟩⟩).1:=hI.ok.step
  obtain ⟨z,ez⟩: ∃z,DM x ⟨10,0,0,0,⟨#[]⟩⟩=z:=⟨_,rfl⟩
  rw [ez] at ef ec ok' ⊢
  have zl:=ok'.ol
  simp only [trees,List.cons_append,List.nil_append]
  simp only [AG,AQ,AP,AN,AI,AD,AE,AL,AO,AK,AM,AJ,AR,AH,BC,BI,BF,BH,BJ,BG,BD,AZ,A4,A6,A8,A7,A5]
  refine BO (BM (pZ ec (JK (by omega) ?_)))
  rw [ef]
  simp only [AG,AQ,AP,AN,AI,AD,AE,AL,AO,AK,AM,AJ,AR,AH,BC,BI,BF,BH,BJ,BG,BD,AZ,A4,A6,A8,A7,A5]
  have e0:((([]:List Int).length:Nat):Int)=0:=rfl
  refine BM (G5 ec (BO (CX ec rfl (BM (BM (BM (G5 e0 ?_)))))))
  have e8:((z.1.AU.length:Nat):Int)=8:=by omega
  refine BO (CX e0 rfl (BM (G5 e8 ?_)))
  exact MP ok'.fits ok'.eF (fun _=>CX e8 rfl done) fun hh=>absurd ok' hh
end Go.Proofs.Ytklmcfpgdfibnaa.P
