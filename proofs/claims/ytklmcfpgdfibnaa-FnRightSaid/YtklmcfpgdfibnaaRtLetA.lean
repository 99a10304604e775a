/- A part of the proof. -/
import Derived.Test.YtklmcfpgdfibnaaRtRecD
import Derived.Test.YtklmcfpgdfibnaaRtRowB
import Derived.Test.YtklmcfpgdfibnaaRtHpFb
namespace Go.Proofs.Ytklmcfpgdfibnaa.P
open Go Go.Proofs.Ytklmcfpgdfibnaa Go.Proofs.Ytklmcfpgdfibnaa.Eng
set_option linter.unusedVariables false
set_option maxHeartbeats 4000000
set_option linter.unusedVariables false
set_option linter.unusedSimpArgs false
attribute [local irreducible] prP gP gE gF AX ixW ldc ldg ldl stc stg scW mkW apW BN cl2 BV EN CJ
variable {w0:World}
theorem dK {L:List Int} {K:J2} (h:K [.bool (decide ((L.length:Int)>1048576))] []):cl2 ⟨Try.prog,w0⟩ 17 J1.sg [] [tY L] K:=by
 refine J1.cl2 ?_
 unfold J1.txt
 rw [fE]
 exact I7 h
end Go.Proofs.Ytklmcfpgdfibnaa.P
namespace Go.Proofs.Ytklmcfpgdfibnaa.P
open Go Go.Proofs.Ytklmcfpgdfibnaa Go.Proofs.Ytklmcfpgdfibnaa.Eng
set_option linter.unusedVariables false
set_option maxHeartbeats 4000000
set_option linter.unusedVariables false
set_option linter.unusedSimpArgs false
attribute [local irreducible] prP gP gE gF AX ixW ldc ldg ldl stc stg scW mkW apW BN cl2 BV EN CJ
variable {w0:World}
theorem OR {h:Hp} {K:J2} (hf:Fits h) (hk:K [.bool true] []):cl2 ⟨Try.prog,w0⟩ 36 FC.sg [] (trees h++trees h) K:=by
 obtain ⟨f1,f2,f3,f4,f5,_⟩:=hf
 refine FC.cl2 ?_
 unfold FC.txt
 simp only [AH,AR,AN,AS,AJ,AD,AG,AP,AO,AK,AM,AL,AI,AQ,BD,BI,BH,BJ,BG,BF,BE,A5,AZ,A4,A6,A7,AY]
 repeat' (first | refine M7 (by omega) ?_ | refine BK ?_ | refine NU ?_ | refine EY (by first | with_reducible assumption | omega) ?_ | refine C2 (by first | with_reducible assumption | omega) rfl ?_ | refine TJ rfl ?_ | refine DM (by first | with_reducible assumption | omega) ?_ | refine CA ?_ | refine B4 ?_)
 refine BC (fun i=>[iv i]) (fun _=>[]) h.AE.length (fun _=>True) rfl rfl trivial (fun R i hi _ hR=> ?_)
 simp only [AH,AR,AN,AS,AJ,AD,AG,AP,AO,AK,AM,AL,AI,AQ,BD,BI,BH,BJ,BG,BF,BE,A5,AZ,A4,A6,A7,AY]
 refine A8 (AW (fun hlt=> ?_) fun _=> ?_)
 ·have hlt:i<h.AE.length:=by omega
  have hR:=hR hlt trivial
  have hfl:=f2 _ (List.getElem_mem hlt)
  rw [DF hlt] at hfl
  refine AT hlt (KN hlt (AT hlt (KN hlt ?_)))
  simp only [X6,YX,fW,gD,fV,bC,kX]
  rw [GO hlt]
  have nb: ∀b:Bool, ¬b≠b:=fun b hh=>hh rfl
  repeat' (first | refine M7 (by omega) ?_ | refine EY (nb _) ?_ | refine C2 (nb _) rfl ?_ | refine BK ?_ | refine EY (by first | with_reducible assumption | omega) ?_ | refine C2 (by first | with_reducible assumption | omega) rfl ?_ | refine BU ?_ | refine CA ?_ | refine DK ?_ | refine BA (by omega) ?_ | refine B4 ?_)
  exact hR
 ·refine BC (fun i=>[iv i]) (fun _=>[]) h.B1.length (fun _=>True) rfl rfl trivial (fun R i hi _ hR=> ?_)
  simp only [AH,AR,AN,AS,AJ,AD,AG,AP,AO,AK,AM,AL,AI,AQ,BD,BI,BH,BJ,BG,BF,BE,A5,AZ,A4,A6,A7,AY]
  refine A8 (AW (fun hlt=> ?_) fun _=> ?_)
  ·have hlt:i<h.B1.length:=by omega
   have hR:=hR hlt trivial
   refine AT hlt (WH hlt (AT hlt (WH hlt ?_)))
   simp only [lO,rM]
   exact kR (DM (fun hh=>hh rfl) (BA (by omega) hR))
  ·refine BC (fun i=>[iv i]) (fun _=>[]) h.sites.length (fun _=>True) rfl rfl trivial (fun R i hi _ hR=> ?_)
   simp only [AH,AR,AN,AS,AJ,AD,AG,AP,AO,AK,AM,AL,AI,AQ,BD,BI,BH,BJ,BG,BF,BE,A5,AZ,A4,A6,A7,AY]
   refine A8 (AW (fun hlt=> ?_) fun _=>hk)
   have hlt:i<h.sites.length:=by omega
   exact AT hlt (ldS hlt (AT hlt (ldS hlt (kY (DM (fun hh=>hh rfl) (BA (by omega) (hR hlt trivial)))))))
end Go.Proofs.Ytklmcfpgdfibnaa.P
namespace Go.Proofs.Ytklmcfpgdfibnaa.P
open Go Go.Proofs.Ytklmcfpgdfibnaa Go.Proofs.Ytklmcfpgdfibnaa.Eng
set_option linter.unusedVariables false
set_option maxHeartbeats 4000000
set_option linter.unusedVariables false
set_option linter.unusedSimpArgs false
attribute [local irreducible] prP gP gE gF AX ixW ldc ldg ldl stc stg scW mkW apW BN cl2 BV EN CJ
variable {w0:World}
attribute [local irreducible] KB
end Go.Proofs.Ytklmcfpgdfibnaa.P
namespace Go.Proofs.Ytklmcfpgdfibnaa.P
open Go Go.Proofs.Ytklmcfpgdfibnaa Go.Proofs.Ytklmcfpgdfibnaa.Eng
set_option linter.unusedVariables false
set_option maxHeartbeats 4000000
set_option linter.unusedVariables false
set_option linter.unusedSimpArgs false
attribute [local irreducible] prP gP gE gF AX ixW ldc ldg ldl stc stg scW mkW apW BN cl2 BV EN CJ
variable {w0:World}
theorem uJ {w a:Bool} {m:J2→Prop} {K:J2} (ha:a=w) (h:m K):gC (.bool a) w m K:= .inl ⟨by rw [ha],h⟩
theorem rO {m:J2→Prop} {K:J2} (h:m K):gC (.bool true) true m K:=uJ rfl h
theorem eR {l:List Int} {x:Int} {K:J2} (hl:(l.length:Int)<2^62) (h:K [.bool (decide (x∈l))] []):cl2 ⟨Try.prog,w0⟩ 25 J5.sg [I x] [tI l] K:=by
 refine J5.cl2 ?_
 unfold J5.txt
 simp only [AD]
 refine BC (fun i=>[I x,iv i]) (fun _=>[]) l.length (fun i=>x∉l.take i) rfl rfl (by simp) (fun R i hi hP hR=> ?_)
 simp only [AH,AR,AN,AS,AJ,AD,AG,AP,AO,AK,AM,AL,AI,AQ,BD,BI,BH,BJ,BG,BF,BE,A5,AZ,A4,A6,A7,AY]
 refine A8 (AW (fun hlt=> ?_) fun hge=> ?_)
 ·have hlt:i<l.length:=by omega
  refine AT hlt (ldI hlt (BM (AW (fun he=> ?_) fun hne=>BA (by omega) (hR hlt ?_))))
  ·rw [decide_eq_true (by rw [←he, ←D4 hlt];exact List.getElem_mem hlt)] at h
   exact h
  ·rw [List.take_succ_eq_append_getElem hlt,List.mem_append,List.mem_singleton]
   rintro (hh | hh)
   ·exact hP hh
   ·exact hne (by rw [hh,D4 hlt])
 ·have:i=l.length:=by omega
  subst this
  rw [List.take_length] at hP
  rw [decide_eq_false hP] at h
  exact h
end Go.Proofs.Ytklmcfpgdfibnaa.P
namespace Go.Proofs.Ytklmcfpgdfibnaa.P
open Go Go.Proofs.Ytklmcfpgdfibnaa Go.Proofs.Ytklmcfpgdfibnaa.Eng
set_option linter.unusedVariables false
section
variable {os:List AV} {ns:Nat} {buf:List Int} {k:Nat}
theorem Gd.put (h:HP os ns buf []) (k8:k<8) (hd:(ob os k).live=false) {t:Int} (g:Gd os buf):Gd (os.set k (J6 ((ob os k).gen+1) t)) buf:=by
 have hol:=h.ol
 have eo: ∀i,ob (os.set k (J6 ((ob os k).gen+1) t)) i=if i=k then J6 ((ob os k).gen+1) t else ob os i:=fun i=>EW (by omega)
 have sl: ∀(x:Int) (s:Nat),AB os x=(s:Int)→s≠k∧AB (os.set k (J6 ((ob os k).gen+1) t)) x=(s:Int):=fun x s hs=>by
  have sv:=NN hs
  have hsk:s≠k:=fun hh=>by rw [hh,hd] at sv;cases sv.2
  refine ⟨hsk, ?_⟩
  have hb:=BO (l:=os) (id:=x) (by omega)
  have e:(x % 8).toNat=s:=by omega
  have e2:(AB os x).toNat=s:=by omega
  rw [e2] at hb
  rw [IH hb.2.1 (by simpa using hol) (by rw [List.length_set];omega) (by rw [e,eo,if_neg hsk];exact sv.2) (by rw [e,eo,if_neg hsk];exact hb.2.2.2.2.2)]
  omega
 have kk: ∀y,(y<8∧(ob os y).live=true∧y≠k)→ ∀j∈BP os y,j∈BP (os.set k (J6 ((ob os k).gen+1) t)) y∧(j.toNat<8∧(ob os j.toNat).live=true∧j.toNat≠k):=fun y ⟨y8,yv,yk⟩ j hj=>by
  have hb:=CO hj
  obtain ⟨h0,f,hf,hs⟩:=IJ.1 hj
  obtain ⟨h1,h2⟩:=sl f j.toNat (by omega)
  exact ⟨IJ.2 ⟨h0,f,by rw [eo,if_neg yk];exact hf,by omega⟩,hb.2.1,hb.2.2.2.2,h1⟩
 intro y y8 yv
 by_cases hyk:y=k
 ·subst hyk
  exact .inl ⟨y,⟨k8,yv,by rw [eo,if_pos rfl];simp [J6]⟩, .refl⟩
 ·rw [eo,if_neg hyk] at yv
  rcases g y y8 yv with ⟨e,he,hr⟩ | ⟨x,hx,s,hs,hr⟩
  ·have hek:e≠k:=fun hh=>by have:=he.lv;rw [hh,hd] at this;cases this
   exact .inl ⟨e,⟨he.lt,by rw [eo,if_neg hek];exact he.lv,by rw [eo,if_neg hek];exact he.pos⟩,(hr.JN (P:=fun y=>y<8∧(ob os y).live=true∧y≠k) ⟨he.lt,he.lv,hek⟩ kk).1⟩
  ·have sv:=NN hs
   obtain ⟨h1,h2⟩:=sl x s hs
   exact .inr ⟨x,hx,s,h2,(hr.JN (P:=fun y=>y<8∧(ob os y).live=true∧y≠k) ⟨sv.1,sv.2,h1⟩ kk).1⟩
theorem oI {ss:List ByteArray} {s:ByteArray} (h:HP os ns buf []) (g:Gd os buf):Gd (GQ os ss s).1 buf:=by
 unfold GQ
 split
 ·exact g
 ·split
  ·exact g
  ·split
   ·exact g
   ·rename_i hf _
    obtain ⟨h1,h2,h3⟩:=MO hf
    have hol:=h.ol
    simp only [IG,Bool.and_eq_true,Bool.not_eq_true',decide_eq_true_eq] at h3
    have hg:=(h.obj (CD os).toNat (by omega)).gen
    simp only
    rw [KC (n:=(ob os (CD os).toNat).gen+1) ⟨by omega,by omega⟩]
    exact g.put h (by omega) h3.1
theorem wR (os:List AV) (P:Nat→Bool) (j:Nat):0≤S os P j:=by
 have:=K9 (n:=8) (f:=fun _=>0) (g:=fun x=>if P x then E os x j else 0) fun x hx=>by
  split
  ·exact PE _ _ _
  ·exact Int.le_refl _
 rw [I9 (fun _ _=>rfl)] at this;exact this
theorem oW (h:HP os ns buf []) {e:Nat} (he:m5 os e) (hr:Reach os e k): ¬RB os buf k∨ ∃x,Out os (fun i=>(ob os i).count) buf x∧Reach os x k:=by
 induction hr with
 | refl=>
   by_cases hb:RB os buf e
   ·right
    have:=wR os (fun k=> !OA os buf k) e
    have:=he.pos
    exact ⟨e,⟨he.lt,hb,(h.ext he.lt he.lv).2 (by omega)⟩, .refl⟩
   ·exact .inl hb
 | step hr hj ih=>
   rename_i y j
   rcases ih with ih | ⟨x,hx,ih⟩
   ·by_cases hb:RB os buf j.toNat
    ·right
     have hjb:=CO hj
     have yl:=hr.live ⟨he.lt,he.lv⟩
     have hm:((j.toNat:Nat):Int)∈BP os y:=by rw [←hjb.2.2.1];exact hj
     have e1:=rN (os:=os) (P:=fun k=> !OA os buf k) (j:=j.toNat) yl.1 (by simp [S8.2 ih])
     have hE:0<E os y j.toNat:=by unfold E;have:=List.count_pos_iff.2 hm;omega
     have hlv:=(h.obj j.toNat hjb.2.1).lv hjb.2.2.2.2
     exact ⟨j.toNat,⟨hjb.2.1,hb,(h.ext hjb.2.1 hjb.2.2.2.2).2 (by omega)⟩, .refl⟩
    ·exact .inl hb
   ·exact .inr ⟨x,hx, .step ih hj⟩
def Rch (os:List AV) (k:Nat):Prop:= ∃e,m5 os e∧Reach os e k
theorem Rch.live {os:List AV} {k:Nat}:Rch os k→k<8∧(ob os k).live=true:=fun ⟨_,he,hr⟩=>hr.live ⟨he.lt,he.lv⟩
theorem jG (h:HP os ns buf []) (g:Gd os buf) (k8:k<8) (kv:(ob os k).live=true):JA os (fun i=>(ob os i).count) buf k=true↔ ¬Rch os k:=by
 rw [I3]
 constructor
 ·rintro ⟨hb,hn⟩ ⟨e,he,hr⟩
  rcases oW h he hr with h1 | h1
  ·exact h1 hb
  ·exact hn h1
 ·intro hn
  have hb: ∀y,y<8→(ob os y).live=true→ ¬Rch os y→RB os buf y:=fun y y8 yv hy=>by
   rcases g y y8 yv with hc | ⟨x,hx,s,hs,hr⟩
   ·exact absurd hc hy
   ·exact ⟨x,hx,s,hs,hr⟩
  refine ⟨hb k k8 kv hn, ?_⟩
  rintro ⟨x,⟨x8,xr,hx⟩,hr⟩
  have xv:(ob os x).live=true:=xr.live
  have hp:=(h.ext x8 xv).1 hx
  by_cases h0:0<(ob os x).holds+(ob os x).roots
  ·exact hn ⟨x,⟨x8,xv,h0⟩,hr⟩
  ·obtain ⟨p,p8,hpp,hE⟩:=lL (os:=os) (P:=fun k=> !OA os buf k) (j:=x) (by omega)
   have hpn: ¬RB os buf p:=by simp only [Bool.not_eq_true'] at hpp;exact S8.1 hpp
   have hm:=gL hE
   obtain ⟨_,f,hf,hs⟩:=IJ.1 hm
   have pv:=((h.obj p p8).lead f hf (fun hh=>by rw [hh,GI (.inl (by omega))] at hs;omega)).1
   obtain ⟨e,he,her⟩:Rch os p:=Classical.byContradiction fun hh=>hpn (hb p p8 pv hh)
   have:=Reach.step her hm
   rw [Int.toNat_natCast] at this
   exact hn ⟨e,he,this.trans hr⟩
theorem mO {W:Nat→Bool} {i:Nat} (h:W i=true):FI os W i=B7 (ob os i).gen:=by
 unfold FI
 rw [show C7 os W i=B7 (ob os i).gen from by unfold C7;rw [if_pos h]]
 rfl
theorem dW {W:Nat→Bool} {i:Nat} (h:W i=false):(FI os W i).live=(ob os i).live∧(FI os W i).gen=(ob os i).gen∧(FI os W i).site=(ob os i).site∧(FI os W i).holds=(ob os i).holds∧(FI os W i).roots=(ob os i).roots∧(FI os W i).field=(ob os i).field:=by
 have e:C7 os W i={ob os i with purple:=false}:=by unfold C7;rw [if_neg (by rw [h];decide)]
 unfold FI
 rw [e]
 split
 ·exact ⟨rfl,rfl,rfl,rfl,rfl,rfl⟩
 ·exact ⟨rfl,rfl,rfl,rfl,rfl,rfl⟩
structure vR (os os':List AV):Prop where
 len:os'.length=8
 lv: ∀k,k<8→((ob os' k).live=true↔Rch os k)
 rch: ∀k,Rch os k→Rch os' k
 sm: ∀k,k<8→Rch os k→(ob os' k).gen=(ob os k).gen∧(ob os' k).site=(ob os k).site∧(ob os' k).holds=(ob os k).holds∧(ob os' k).roots=(ob os k).roots∧(ob os' k).field=(ob os k).field
 gn: ∀k,k<8→(ob os' k).gen=(ob os k).gen
theorem mG (h:HP os ns buf []) (g:Gd os buf):vR os (H0 os buf).1:=by
 obtain ⟨W,hW⟩: ∃W,W=JA os (fun i=>(ob os i).count) buf:=⟨_,rfl⟩
 have wi: ∀k,k<8→(ob os k).live=true→(W k=true↔ ¬Rch os k):=fun k k8 kv=>by rw [hW];exact jG h g k8 kv
 have wl: ∀k,W k=true→(ob os k).live=true:=fun k hk=>by rw [hW,I3] at hk;exact hk.1.live
 have eo: ∀i,i<8→ob (H0 os buf).1 i=FI os W i:=fun i hi=>by
  unfold H0;simp only;rw [HK hi,hW]
 have hf: ∀k,Rch os k→W k=false:=fun k hk=>by
  cases hw:W k with
  | false=>rfl
  | true=>exact absurd hk ((wi k hk.live.1 hk.live.2).1 hw)
 have sm: ∀k,k<8→Rch os k→(ob (H0 os buf).1 k).gen=(ob os k).gen∧(ob (H0 os buf).1 k).site=(ob os k).site∧(ob (H0 os buf).1 k).holds=(ob os k).holds∧(ob (H0 os buf).1 k).roots=(ob os k).roots∧(ob (H0 os buf).1 k).field=(ob os k).field:=fun k k8 hk=>by
  rw [eo k k8];exact (dW (hf k hk)).2
 have lv: ∀k,k<8→((ob (H0 os buf).1 k).live=true↔Rch os k):=fun k k8=>by
  rw [eo k k8]
  cases hw:W k with
  | true=>
    rw [mO hw]
    exact ⟨fun hh=>(by cases hh),fun hh=>absurd hh ((wi k k8 (wl k hw)).1 hw)⟩
  | false=>
    rw [(dW hw).1]
    refine ⟨fun hv=>Classical.byContradiction fun hn=> ?_,fun hh=>hh.live.2⟩
    rw [(wi k k8 hv).2 hn] at hw;cases hw
 have hln:(H0 os buf).1.length=8:=CG _
 refine ⟨hln,lv,fun k hk=> ?_,sm,fun k k8=> ?_⟩
 ·obtain ⟨e,he,hr⟩:=hk
  have rr:Rch os e:=⟨e,he, .refl⟩
  refine ⟨e,⟨he.lt,(lv e he.lt).2 rr,by rw [(sm e he.lt rr).2.2.1,(sm e he.lt rr).2.2.2.1];exact he.pos⟩,(hr.JN (P:=Rch os) rr fun y hy j hj=> ?_).1⟩
  have hb:=CO hj
  obtain ⟨e',he',hr'⟩:=hy
  have rj:Rch os j.toNat:=⟨e',he', .step hr' hj⟩
  have hy:Rch os y:=⟨e',he',hr'⟩
  obtain ⟨h0,f,hf',hs⟩:=IJ.1 hj
  have hfb:=BO (l:=os) (id:=f) (by omega)
  have ej:(f % 8).toNat=j.toNat:=by omega
  have ej2:(AB os f).toNat=j.toNat:=by omega
  rw [ej2] at hfb
  refine ⟨IJ.2 ⟨h0,f,by rw [(sm y hy.live.1 hy).2.2.2.2];exact hf', ?_⟩,rj⟩
  rw [IH hfb.2.1 hln (by rw [hln];omega) (by rw [ej];exact (lv _ hb.2.1).2 rj) (by rw [ej,(sm _ hb.2.1 rj).1];exact hfb.2.2.2.2.2)]
  omega
 ·rw [eo k k8]
  cases hw:W k with
  | true=>rw [mO hw];rfl
  | false=>exact (dW hw).2.1
theorem oQ (h:HP os ns buf []) (g:Gd os buf):Gd (H0 os buf).1 []:=fun k k8 kv=>by
 have R:=mG h g
 exact .inl (R.rch k ((R.lv k k8).1 kv))
end
theorem B5.gd {h:Hp} {o:Op5} (hk:B5 h) (g:Gd h.AE h.buffer):Gd (D8 h o).1.AE (D8 h o).1.buffer:=by
 have hp:=hk.hp
 unfold D8
 split
 ·exact oI hp g
 ·split
  ·exact (hp.XF (id:=o.a) (kd:=o.kind)).gd g
  ·split
   ·exact (hp.TC (a:=o.a) (b:=o.b) (c:=o.c)).gd g
   ·split
    ·exact g
    ·split
     ·exact g
     ·split
      ·exact oQ hp g
      ·exact g
theorem sX:Gd hp0.AE hp0.buffer:=fun k k8 kv=>by
 have:ob hp0.AE k=B7 0:=by
  unfold hp0 ob;simp only;rw [List.getD_eq_getElem?_getD,List.getElem?_replicate,if_pos k8];rfl
 rw [this] at kv;cases kv
theorem bX (l:List Op5): ∀i,Gd (KB l i).1.AE (KB l i).1.buffer
 | 0=>sX
 | i+1=>(PZ l i).1.gd (bX l i)
end Go.Proofs.Ytklmcfpgdfibnaa.P
namespace Go.Proofs.Ytklmcfpgdfibnaa.P
open Go Go.Proofs.Ytklmcfpgdfibnaa Go.Proofs.Ytklmcfpgdfibnaa.Eng
set_option linter.unusedVariables false
set_option maxHeartbeats 4000000
set_option linter.unusedVariables false
set_option linter.unusedSimpArgs false
attribute [local irreducible] prP gP gE gF AX ixW ldc ldg ldl stc stg scW mkW apW BN cl2 BV EN CJ
variable {w0:World}
theorem RA {L:List Int} {i:Nat} {z:Int} {K:J2} (hb:RS L) (hi:i≤L.length) (h: ∀(x:Hp) i' z',B5 x→Gd x.AE x.buffer→i'≤L.length→K [iv i',I z'] (trees x)):cl2 ⟨Try.prog,w0⟩ 94 GC.sg [iv i,I z] [tY L] K:=by
 refine GC.cl2 (aF (m:=30) hb hi (by omega) fun l i1 z1 hl ho h1=> ?_)
 refine b8 (by omega) (fun o hx=>(ho o hx).f) ?_
 exact h _ i1 z1 (PZ l _).1 (bX l _) h1
structure kN (x:Hp):Prop where
 fits:Fits x
 L5:RK x
 gd:B5 x→Gd x.AE x.buffer
theorem kN.ok {x:Hp} (h:B5 x) (g:Gd x.AE x.buffer):kN x:=⟨h.fits,h.L5,fun _=>g⟩
theorem ZZ {b:Hp} (hb:B5 b) {k:Nat} {v:AV} (hf:v.field.length=3) (hn:F64 v.gen∧F64 v.site∧F64 v.holds∧F64 v.roots∧F64 v.count∧ ∀f∈v.field,F64 f)
  (hg:B5 ⟨b.AE.set k v,b.B1,b.buffer,b.sites⟩→Gd (b.AE.set k v) b.buffer):kN ⟨b.AE.set k v,b.B1,b.buffer,b.sites⟩:=by
 obtain ⟨f1,f2,f3,f4,f5,f6⟩:=hb.fits
 obtain ⟨n1,n2,n3⟩:=hb.L5
 refine ⟨⟨by simpa using f1,fun o ho=> ?_,f3,f4,f5,f6⟩,⟨fun o ho=> ?_,n2,n3⟩,hg⟩
 ·rcases List.mem_or_eq_of_mem_set ho with h | rfl
  ·exact f2 o h
  ·omega
 ·rcases List.mem_or_eq_of_mem_set ho with h | rfl
  ·exact n1 o h
  ·exact hn
theorem Gd.as {a b:List AV} {L:List Int} (g:Gd a L) (h: ∀i,i<8→(ob b i).live=(ob a i).live∧(ob b i).holds=(ob a i).holds∧(ob b i).roots=(ob a i).roots) (hk: ∀y,y<8→BP b y=BP a y) (hs: ∀x∈L,AB b x=AB a x):Gd b L:=fun k k8 kv=>by
 have kr: ∀{s y},s<8∧(ob a s).live=true→Reach a s y→Reach b s y:=fun hs hr=>(hr.JN (P:=fun y=>y<8) hs.1 fun y hy j hj=>⟨by rw [hk y hy];exact hj,(CO hj).2.1⟩).1
 rcases g k k8 (by rw [←(h k k8).1];exact kv) with ⟨e,he,hr⟩ | ⟨x,hx,s,hsx,hr⟩
 ·exact .inl ⟨e,⟨he.lt,by rw [(h e he.lt).1];exact he.lv,by rw [(h e he.lt).2.1,(h e he.lt).2.2];exact he.pos⟩,kr ⟨he.lt,he.lv⟩ hr⟩
 ·exact .inr ⟨x,hx,s,by rw [hs x hx];exact hsx,kr (NN hsx) hr⟩
theorem sZ {b:Hp} (hb:B5 b) (g:Gd b.AE b.buffer) {k:Nat} (k8:k<8) {v:Int} (hx:B5 ⟨b.AE.set k {ob b.AE k with gen:=v},b.B1,b.buffer,b.sites⟩):Gd (b.AE.set k {ob b.AE k with gen:=v}) b.buffer:=by
 have hol:=hb.ol
 have hkl:k<b.AE.length:=by omega
 have eo: ∀i,ob (b.AE.set k {ob b.AE k with gen:=v}) i=if i=k then {ob b.AE k with gen:=v} else ob b.AE i:=fun i=>EW hkl
 have sl: ∀x:Int,(0≤AB b.AE x↔0≤AB (b.AE.set k {ob b.AE k with gen:=v}) x)→AB (b.AE.set k {ob b.AE k with gen:=v}) x=AB b.AE x:=fun x hh=>by
  have m1: ∀l:List AV,AB l x= -1∨(0≤AB l x∧AB l x=x % 8):=fun l=>by
   by_cases h0:0≤AB l x
   ·exact .inr ⟨h0,(BO h0).2.2.1⟩
   ·left
    unfold AB at h0 ⊢
    split
    ·rfl
    ·rename_i h1
     rw [if_neg h1] at h0
     split at h0
     ·omega
     ·rename_i h2;rw [if_neg h2]
  rcases m1 b.AE with h1 | h1 <;> rcases m1 (b.AE.set k {ob b.AE k with gen:=v}) with h2 | h2 <;> omega
 have hxp:=hx.hp
 have hbp:=hb.hp
 have fl: ∀y,y<8→ ∀f∈(ob b.AE y).field,AB (b.AE.set k {ob b.AE k with gen:=v}) f=AB b.AE f:=fun y hy f hf=>by
  by_cases h1:f= -1
  ·subst h1;rw [GI (.inl (by omega)),GI (.inl (by omega))]
  ·have a:=((hbp.obj y hy).lead f hf h1).2
   have c:=((hxp.obj y hy).lead f (by
    rw [eo]
    by_cases he:y=k
    ·rw [if_pos he, ←he];exact hf
    ·rw [if_neg he];exact hf) h1).2
   exact sl f ⟨fun _=>c,fun _=>a⟩
 refine g.as (fun i hi=> ?_) (fun y hy=> ?_) fun x hx'=> ?_
 ·rw [eo];split
  ·rename_i he;subst he;exact ⟨rfl,rfl,rfl⟩
  ·exact ⟨rfl,rfl,rfl⟩
 ·have ef:(ob (b.AE.set k {ob b.AE k with gen:=v}) y).field=(ob b.AE y).field:=by
   rw [eo];split
   ·rename_i he;subst he;rfl
   ·rfl
  unfold BP
  rw [ef]
  congr 1
  exact List.map_congr_left fun f hf=>fl y hy f hf
 ·have a:0≤AB b.AE x:=hbp.blv x hx'
  have c:0≤AB (b.AE.set k {ob b.AE k with gen:=v}) x:=hxp.blv x hx'
  exact sl x ⟨fun _=>c,fun _=>a⟩
theorem tF {b:Hp} (hb:B5 b) {k:Nat} (k8:k<8) {v f:Int} {r:List Int} (v0:0≤v) (hfr:(ob b.AE k).field=f::r) (hvf:v≠f) {w:AV} (wl:w.live=(ob b.AE k).live) (wg:w.gen=(ob b.AE k).gen) (wh:w.holds=(ob b.AE k).holds) (wr:w.roots=(ob b.AE k).roots) (wc:w.count=(ob b.AE k).count) (wf:w.field=v::r) (hx:B5 ⟨b.AE.set k w,b.B1,b.buffer,b.sites⟩):False:=by
 have hol:=hb.ol
 have hkl:k<b.AE.length:=by omega
 have hxp:=hx.hp
 have hbp:=hb.hp
 have eo: ∀i,ob (b.AE.set k w) i=if i=k then w else ob b.AE i:=fun i=>EW hkl
 have sl: ∀x,AB (b.AE.set k w) x=AB b.AE x:=fun x=>GD (by simp) fun i _=>by
  rw [eo];split
  ·rename_i he;subst he;exact ⟨wl,wg⟩
  ·exact ⟨rfl,rfl⟩
 have lv:=((hxp.obj k k8).lead v (by rw [eo,if_pos rfl,wf];simp) (by omega))
 have kv:w.live=true:=by have:=lv.1;rw [eo,if_pos rfl] at this;exact this
 rw [sl] at lv
 have hbd:=BO lv.2
 obtain ⟨s,hs⟩: ∃s:Nat,(AB b.AE v).toNat=s:=⟨_,rfl⟩
 rw [hs] at hbd
 have s8:=hbd.2.2.2.1
 have sv:=hbd.2.2.2.2.1
 have g1:=((hbp.obj s s8).lv sv).1
 have g2:=(hbp.obj s s8).gen.2
 have hid:v=CE s (ob b.AE s).gen:=by rw [HI s8 g1 g2];omega
 have c1:=((hbp.obj s s8).lv sv).2.2.2.2.1
 have same:(ob (b.AE.set k w) s).live=(ob b.AE s).live∧(ob (b.AE.set k w) s).gen=(ob b.AE s).gen∧(ob (b.AE.set k w) s).holds=(ob b.AE s).holds∧(ob (b.AE.set k w) s).roots=(ob b.AE s).roots∧(ob (b.AE.set k w) s).count=(ob b.AE s).count:=by
  rw [eo];split
  ·rename_i he;subst he;exact ⟨wl,wg,wh,wr,wc⟩
  ·exact ⟨rfl,rfl,rfl,rfl,rfl⟩
 have c2:=((hxp.obj s s8).lv (by rw [same.1];exact sv)).2.2.2.2.1
 rw [same.2.1,same.2.2.1,same.2.2.2.1,same.2.2.2.2, ←hid] at c2
 rw [←hid] at c1
 have ed:=QK (os:=b.AE) (k:=k) (v:=w) (id:=v) hkl
 have e1:LN v (ob b.AE k)=r.count v:=by
  unfold LN;rw [←wl,if_pos kv,hfr,List.count_cons_of_ne (Ne.symm hvf)]
 have e2:LN v w=r.count v+1:=by
  unfold LN;rw [if_pos kv,wf,List.count_cons_self]
 simp only [List.count_nil] at c1 c2
 omega
theorem tE {b:Hp} (hb:B5 b) {k:Nat} (k8:k<8) {v:Int} (v0:0≤v) (hx:B5 ⟨b.AE.set k {ob b.AE k with field:=(ob b.AE k).field.set 0 v},b.B1,b.buffer,b.sites⟩):b.AE.set k {ob b.AE k with field:=(ob b.AE k).field.set 0 v}=b.AE:=by
 have h3:=(hb.hp.obj k k8).len
 obtain ⟨f,r,hfr⟩: ∃f r,(ob b.AE k).field=f::r:=by
  cases hf:(ob b.AE k).field with
  | nil=>rw [hf] at h3;cases h3
  | cons f r=>exact ⟨f,r,rfl⟩
 have es:(ob b.AE k).field.set 0 v=v::r:=by rw [hfr];rfl
 by_cases hvf:v=f
 ·rw [es,hvf, ←hfr]
  exact List.ext_getElem (by simp) fun i h1 h2=>by
   rw [List.getElem_set]
   split
   ·rename_i he;subst he;rw [DF h2]
   ·rfl
 ·exact (tF hb k8 v0 hfr hvf (w:={ob b.AE k with field:=(ob b.AE k).field.set 0 v}) rfl rfl rfl rfl rfl es hx).elim
theorem wN {l:List Int} (h: ∀f∈l,F64 f) {v:Int} (hv:F64 v): ∀f∈l.set 0 v,F64 f:=fun f hf=>by
 rcases List.mem_or_eq_of_mem_set hf with hf | rfl
 ·exact h f hf
 ·exact hv
theorem ZT {L:List Int} {i:Nat} {z:Int} {K:J2} (hb:RS L) (hi:i≤L.length) (h: ∀(x:Hp) i' z',kN x→i'≤L.length→K [iv i',I z'] (trees x)):cl2 ⟨Try.prog,w0⟩ 96 HT.sg [iv i,I z] [tY L] K:=by
 refine HT.cl2 ?_
 unfold HT.txt
 refine RA hb hi fun b i1 z1 ok gd h1=>CY hb h1 fun k i2 z2 k0 k1 h2=>CY hb h2 fun c i3 z3 c0 c1 h3=> ?_
 obtain ⟨k,rfl⟩: ∃n:Nat,k=n:=⟨k.toNat,by omega⟩
 have hol:=ok.ol
 have hp:=ok.hp
 have k8:k<8:=by omega
 have kl:k<b.AE.length:=by omega
 have hk:=hp.obj k k8
 have nk:=ok.L5.ob k
 have fits:=ok.fits
 simp only [trees,List.cons_append,List.nil_append]
 simp only [AH,AR,AN,AS,AJ,AD,AG,AP,AO,AK,AM,AL,AI,AQ,BD,BI,BH,BJ,BG,BF,BE,A5,AZ,A4,A6,A7,AY]
 refine BM (AW (fun _=> ?_) fun _=>BM (AW (fun _=> ?_) fun _=>BM (AW (fun _=> ?_) fun _=>BM (AW (fun _=> ?_) fun _=>BM (AW (fun _=> ?_) fun _=>BM (AW (fun _=> ?_) fun _=>BM (AW (fun _=> ?_) fun _=>h b i3 z3 (.ok ok gd) h3)))))))
 ·have cb:0≤(ob b.AE k).count∧(ob b.AE k).count≤1000:=by
   refine ⟨?_,hk.cb⟩
   cases hv:(ob b.AE k).live with
   | false=>have:=(hk.dead hv).2.2.2.1;omega
   | true=>have:=(hk.lv hv).2.2.2.2.2.1;omega
  refine AT kl (HA kl (by decide) rfl (DT ⟨by omega,by omega⟩ (AT kl (jD kl ?_))))
  rw [DF kl]
  refine h ⟨b.AE.set k {ob b.AE k with count:=(ob b.AE k).count+1},b.B1,b.buffer,b.sites⟩ i3 z3 (ZZ ok hk.len ⟨nk.1,nk.2.1,nk.2.2.1,nk.2.2.2.1,C0 (by simp only;omega),nk.2.2.2.2.2⟩ fun hx=> ?_) h3
  have eo: ∀i,ob (b.AE.set k {ob b.AE k with count:=(ob b.AE k).count+1}) i=if i=k then {ob b.AE k with count:=(ob b.AE k).count+1} else ob b.AE i:=fun i=>EW kl
  have sm: ∀i,(ob b.AE i).live=(ob (b.AE.set k {ob b.AE k with count:=(ob b.AE k).count+1}) i).live∧(ob b.AE i).gen=(ob (b.AE.set k {ob b.AE k with count:=(ob b.AE k).count+1}) i).gen∧(ob b.AE i).field=(ob (b.AE.set k {ob b.AE k with count:=(ob b.AE k).count+1}) i).field∧(ob b.AE i).holds=(ob (b.AE.set k {ob b.AE k with count:=(ob b.AE k).count+1}) i).holds∧(ob b.AE i).roots=(ob (b.AE.set k {ob b.AE k with count:=(ob b.AE k).count+1}) i).roots:=fun i=>by
   rw [eo];split
   ·rename_i he;subst he;exact ⟨rfl,rfl,rfl,rfl,rfl⟩
   ·exact ⟨rfl,rfl,rfl,rfl,rfl⟩
  exact gd.upd (by simp) (fun i=>⟨(sm i).1,(sm i).2.1,(sm i).2.2.1⟩) (fun e he=> .inl ⟨he.lt,by rw [←(sm e).1];exact he.lv,by rw [←(sm e).2.2.2.1, ←(sm e).2.2.2.2];exact he.pos⟩) fun _ hx _=>hx
 ·have fl:(0:Nat)<(ob b.AE k).field.length:=by rw [hk.len];decide
  refine AT kl (WX kl (CY hb h3 fun v i4 z4 v0 v1 h4=> ?_))
  rw [GO kl]
  simp only [AH,AR,AN,AS,AJ,AD,AG,AP,AO,AK,AM,AL,AI,AQ,BD,BI,BH,BJ,BG,BF,BE,A5,AZ,A4,A6,A7,AY]
  refine AT (j:=0) fl (stF kl fl ?_)
  refine h ⟨b.AE.set k {ob b.AE k with field:=(ob b.AE k).field.set 0 v},b.B1,b.buffer,b.sites⟩ i4 z4 (ZZ ok (by simp [hk.len]) ⟨nk.1,nk.2.1,nk.2.2.1,nk.2.2.2.1,nk.2.2.2.2.1,wN nk.2.2.2.2.2 (C0 (by omega))⟩ fun hx=> ?_) h4
  rw [tE ok k8 v0 hx]
  exact gd
 ·refine AT kl (HA kl (by decide) rfl (IC ?_))
  have bl:=fits.bl
  refine EJ rfl (by first | omega | (simp only [AH,AR,AN,AS,AJ,AD,AG,AP,AO,AK,AM,AL,AI,AQ,BD,BI,BH,BJ,BG,BF,BE,A5,AZ,A4,A6,A7,AY];omega)) ?_
  simp only [AH,AR,AN,AS,AJ,AD,AG,AP,AO,AK,AM,AL,AI,AQ,BD,BI,BH,BJ,BG,BF,BE,A5,AZ,A4,A6,A7,AY]
  rw [EB]
  have ib:=Y6 k (ob b.AE k).gen
  refine h ⟨b.AE,b.B1,b.buffer++[CE k (ob b.AE k).gen],b.sites⟩ i3 z3 ⟨⟨fits.ol,fits.of,fits.wl, ?_,fits.sl,fits.ss⟩,⟨ok.L5.obj,ok.L5.weak,fun x hx=> ?_⟩,fun _=>gd.mono fun x hx _=>List.mem_append_left _ hx⟩ h3
  ·have:=ok.uI;simp only [List.length_append,List.length_singleton];omega
  ·rcases List.mem_append.1 hx with hx | hx
   ·exact ok.L5.buf x hx
   ·rw [List.mem_singleton.1 hx];exact C0 (by omega)
 ·refine KU hb h3 fun u i4 z4 h4=>GH (l:=[0,9, -1,7]) hb h4 (by simp) fun v hv i5 z5 h5=> ?_
  have w0l:0<b.B1.length:=by have:=ok.wl;omega
  refine AT (j:=0) w0l (LD (y:=⟨u,v⟩) w0l rfl ?_)
  refine h ⟨b.AE,b.B1.set 0 ⟨u,v⟩,b.buffer,b.sites⟩ i5 z5 ⟨⟨fits.ol,fits.of,by simpa using fits.wl,fits.bl,fits.sl,fits.ss⟩,⟨ok.L5.obj,fun w hw=> ?_,ok.L5.buf⟩,fun _=>gd⟩ h5
  rcases List.mem_or_eq_of_mem_set hw with hw | rfl
  ·exact ok.L5.weak w hw
  ·simp only [List.mem_cons,List.not_mem_nil,or_false] at hv
   exact C0 (by simp only;omega)
 ·refine M4 (l:=[⟨#[]⟩,⟨#[97]⟩,⟨#[116,111,111,108,111,110,103,97,115,105,116,101]⟩]) hb h3 (by simp) fun s hs i4 z4 h4=> ?_
  have sl:=ok.sites.len
  refine EJ rfl (by first | omega | (simp only [AH,AR,AN,AS,AJ,AD,AG,AP,AO,AK,AM,AL,AI,AQ,BD,BI,BH,BJ,BG,BF,BE,A5,AZ,A4,A6,A7,AY];omega)) ?_
  simp only [AH,AR,AN,AS,AJ,AD,AG,AP,AO,AK,AM,AL,AI,AQ,BD,BI,BH,BJ,BG,BF,BE,A5,AZ,A4,A6,A7,AY]
  rw [ZS]
  refine h ⟨b.AE,b.B1,b.buffer,b.sites++[s]⟩ i4 z4 ⟨⟨fits.ol,fits.of,fits.wl,fits.bl,by simp only [List.length_append,List.length_singleton];omega,fun x hx=> ?_⟩,⟨ok.L5.obj,ok.L5.weak,ok.L5.buf⟩,fun _=>gd⟩ h4
  rcases List.mem_append.1 hx with hx | hx
  ·exact fits.ss x hx
  ·rw [List.mem_singleton.1 hx]
   simp only [List.mem_cons,List.not_mem_nil,or_false] at hs
   rcases hs with rfl | rfl | rfl <;> decide
 ·refine XH (by omega) ?_
  have e1:GM (tR tO b.AE) [] (AA (iv 0)*8) (AA (iv k)*8)=tR tO (b.AE.take k):=by
   rw [A9,A9,qG,List.drop_zero]
  rw [e1]
  refine h ⟨b.AE.take k,b.B1,b.buffer,b.sites⟩ i3 z3 ⟨⟨by simp only [List.length_take];omega,fun o ho=>fits.of o (List.mem_of_mem_take ho),fits.wl,fits.bl,fits.sl,fits.ss⟩,⟨fun o ho=>ok.L5.obj o (List.mem_of_mem_take ho),ok.L5.weak,ok.L5.buf⟩,fun hx=> ?_⟩ h3
  have:=hx.ol
  simp only [List.length_take] at this
  omega
 ·refine GH (l:=[0,999,1000]) hb h3 (by simp) fun v hv i4 z4 h4=>AT kl (oK kl ?_)
  rw [DF kl]
  simp only [List.mem_cons,List.not_mem_nil,or_false] at hv
  exact h ⟨b.AE.set k {ob b.AE k with gen:=v},b.B1,b.buffer,b.sites⟩ i4 z4 (ZZ ok hk.len ⟨C0 (by simp only;omega),nk.2.1,nk.2.2.1,nk.2.2.2.1,nk.2.2.2.2.1,nk.2.2.2.2.2⟩ fun hx=>sZ ok gd k8 hx) h4
theorem TG {L:List Int} {K:J2} (hb:RS L) (h: ∀(x:Hp) (o:Op5),kN x→OpF o→K [I o.kind,I o.a,I o.b,I o.c, .string o.site] (trees x)):cl2 ⟨Try.prog,w0⟩ 80 EK.sg [] [tY L] K:=by
 refine EK.cl2 ?_
 unfold EK.txt
 refine Y7 hb fun z=>RA hb (Nat.zero_le _) fun b i1 z1 ok gd h1=> ?_
 refine p5 (fun xs cs=> ∃(x:Hp) (i':Nat) (z':Int) (y1 y2 y3 y4 y5:Value),kN x∧i'≤L.length∧xs=[y1,y2,y3,y4,y5,iv i',I z']∧cs=trees x) ?_ fun j hj=> ?_
 ·rintro xs cs ⟨x,i',z',y1,y2,y3,y4,y5,hx,h',rfl,rfl⟩
  exact TX hb h' hx.fits.ol fun o i2 z2 ho h2=>h x o hx ho.f
 ·refine KU hb h1 fun u i2 z2 h2=>RR (fun _=> ?_) fun _=>hj _ _ ⟨b,i2,z2,_,_,_,_,_, .ok ok gd,h2,rfl,rfl⟩
  exact ZT hb h2 fun x i3 z3 hx h3=>hj _ _ ⟨x,i3,z3,_,_,_,_,_,hx,h3,rfl,rfl⟩
end Go.Proofs.Ytklmcfpgdfibnaa.P
namespace Go.Proofs.Ytklmcfpgdfibnaa.P
open Go Go.Proofs.Ytklmcfpgdfibnaa Go.Proofs.Ytklmcfpgdfibnaa.Eng
set_option linter.unusedVariables false
set_option maxHeartbeats 4000000
set_option linter.unusedVariables false
set_option linter.unusedSimpArgs false
attribute [local irreducible] prP gP gE gF AX ixW ldc ldg ldl stc stg scW mkW apW BN cl2 BV EN CJ
variable {w0:World}
theorem VT {α:Type} {f:Nat→List α} {x:α}: ∀{n:Nat},x∈pick f n↔ ∃i,i<n∧x∈f i
 | 0=>by simp [pick]
 | n+1=>by
   rw [pick,List.mem_append,VT]
   constructor
   ·rintro (⟨i,h1,h2⟩ | h)
    ·exact ⟨i,by omega,h2⟩
    ·exact ⟨n,by omega,h⟩
   ·rintro ⟨i,h1,h2⟩
    rcases Nat.lt_or_ge i n with h | h
    ·exact .inl ⟨i,h,h2⟩
    ·have:i=n:=by omega
     subst this;exact .inr h2
theorem kO {os:List AV} {k:Nat} (hol:os.length=8) (k8:k<8) (kv:(ob os k).live=true):CE k (ob os k).gen∈Q3 os:=
 VT.2 ⟨k,by omega,by unfold IS;rw [if_pos ⟨by omega,kv⟩];simp⟩
theorem jK {os:List AV} (h: ∀k,k<8→(ob os k).live=false):Q3 os=[]:=by
 refine List.eq_nil_iff_forall_not_mem.2 fun x hx=> ?_
 obtain ⟨i,_,hi⟩:=VT.1 hx
 unfold IS at hi
 split at hi
 ·rename_i hh
  have:=h i (by omega)
  rw [hh.2] at this;cases this
 ·cases hi
theorem VZ {a:List AV} {b c d:List T} {K:J2} (hl:(a.length:Int)≤1048576) (h:K [] [tI (Q3 a)]):cl2 ⟨Try.prog,w0⟩ 40 FW.sg [] [tR tO a,b,c,d] K:=by
 refine FW.cl2 ?_
 unfold FW.txt
 simp only [AH,AR,AN,AS,AJ,AD,AG,AP,AO,AK,AM,AL,AI,AQ,BD,BI,BH,BJ,BG,BF,BE,A5,AZ,A4,A6,A7,AY]
 refine BC (fun i=>[iv a.length,iv i]) (fun i=>[tI (pick (IS a) i)]) a.length (fun i=>True) rfl rfl trivial (fun R i hi _ hR=> ?_)
 have hpl:=JY (XZ a) i
 simp only [AH,AR,AN,AS,AJ,AD,AG,AP,AO,AK,AM,AL,AI,AQ,BD,BI,BH,BJ,BG,BF,BE,A5,AZ,A4,A6,A7,AY]
 refine A8 (AW (fun hlt=>BQ ?_) fun hge=> ?_)
 ·have hlt:i<a.length:=by omega
  have hR:=hR hlt trivial
  refine AT hlt (KN hlt (A8 (BK (BK ?_))))
  simp only [X6,YX]
  by_cases h8:(i:Int)<8
  ·refine C6 h8 rfl ?_
   cases hv:(ob a i).live with
   | true=>
     have e:IS a i=[CE i (ob a i).gen]:=by unfold IS;rw [if_pos ⟨by omega,hv⟩]
     refine B2 (JD (EJ rfl (by first | omega | (simp only [AH,AR,AN,AS,AJ,AD,AG,AP,AO,AK,AM,AL,AI,AQ,BD,BI,BH,BJ,BG,BF,BE,A5,AZ,A4,A6,A7,AY];omega)) ?_))
     simp only [AH,AR,AN,AS,AJ,AD,AG,AP,AO,AK,AM,AL,AI,AQ,BD,BI,BH,BJ,BG,BF,BE,A5,AZ,A4,A6,A7,AY]
     rw [EB,cV e]
     exact BA (by omega) hR
   | false=>
     have e:IS a i=[]:=by unfold IS;rw [if_neg];rintro ⟨_,h⟩;rw [hv] at h;cases h
     refine BU ?_
     simp only [AH,AR,AN,AS,AJ,AD,AG,AP,AO,AK,AM,AL,AI,AQ,BD,BI,BH,BJ,BG,BF,BE,A5,AZ,A4,A6,A7,AY]
     rw [←TS e] at hR
     exact BA (by omega) hR
  ·refine C2 h8 rfl (BU ?_)
   have e:IS a i=[]:=by unfold IS;rw [if_neg];omega
   simp only [AH,AR,AN,AS,AJ,AD,AG,AP,AO,AK,AM,AL,AI,AQ,BD,BI,BH,BJ,BG,BF,BE,A5,AZ,A4,A6,A7,AY]
   rw [←TS e] at hR
   exact BA (by omega) hR
 ·have:i=a.length:=by omega
  subst this
  exact h
structure Sub (a b:List AV):Prop where
 la:a.length=8
 lb:b.length=8
 lv: ∀i,i<8→(ob b i).live=true→(ob a i).live=true∧(ob b i).gen=(ob a i).gen
theorem Sub.refl {a:List AV} (h:a.length=8):Sub a a:=⟨h,h,fun _ _ h=>⟨h,rfl⟩⟩
theorem Sub.trans {a b c:List AV} (h:Sub a b) (h':Sub b c):Sub a c:=⟨h.la,h'.lb,fun i hi hv=>by
 obtain ⟨x,y⟩:=h'.lv i hi hv
 obtain ⟨u,v⟩:=h.lv i hi x
 exact ⟨u,by rw [y,v]⟩⟩
theorem Sub.slot {a b:List AV} (h:Sub a b) {x:Int} {k:Nat} (hs:AB b x=(k:Int)):AB a x=(k:Int):=by
 have hb:=BO (l:=b) (id:=x) (by omega)
 have ek:(AB b x).toNat=k:=by omega
 rw [ek] at hb
 obtain ⟨_,b1,b2,k8,kv,kg⟩:=hb
 obtain ⟨u,v⟩:=h.lv k k8 kv
 have e:(x % 8).toNat=k:=by omega
 rw [IH b1 h.la (by have:=h.la;omega) (by rw [e];exact u) (by rw [e, ←v];exact kg)]
 omega
abbrev hr_ (os:List AV) (k:Nat):Int:=(ob os k).holds+(ob os k).roots
theorem B5.hr0 {x:Hp} (hk:B5 x) {id:Int} {k:Nat} (hs:AB x.AE id=(k:Int)):(0≤(ob x.AE k).holds∧(ob x.AE k).holds≤20)∧(0≤(ob x.AE k).roots∧(ob x.AE k).roots≤20):=(hk.hp.RM hs).2.2.2
theorem sT {os:List AV} {buf:List Int} {ns:Nat} {id:Int} {k:Nat} (h:HP os ns buf []) (hk:AB os id=(k:Int)) {v:AV} (ev:v={ob os k with holds:=v.holds,roots:=v.roots}) (v4:0≤v.holds∧v.holds≤20) (v5:0≤v.roots∧v.roots≤20) (hs:v.holds+v.roots+1=hr_ os k):
  NT (os.set k v) (FU (os.set k v) buf [id]).1 (FU (os.set k v) buf [id]).2.2:=by
 have hls:0≤AB os id:=by omega
 obtain ⟨c1,c2,c3,_,_⟩:=h.RM hk
 have e1:v.count=(ob os k).count:=by rw [ev]
 have h1:=h.upd (pd':=[id]) (v:=v) hk (by rw [ev]) (by rw [ev]) (by rw [ev]) v4 v5 (by rw [ev]) (by rw [ev]) (by simp only [List.count_singleton_self];simp only [hr_] at hs;omega) (by omega) (fun x hx=>by simp [Ne.symm hx]) (by simpa using hls)
 exact iA h1
theorem oM {x:Hp} (hk:B5 x) {id kd:Int} {k:Nat} {s:ByteArray} (hs:AB x.AE id=(k:Int)) (h0:hr_ x.AE k≠0) (hkd:(kd=6∧(ob x.AE k).holds=0)∨(kd=3∧(ob x.AE k).holds≠0)):
  (D8 x ⟨kd,id,0,0,s⟩).2.code=0∧Sub x.AE (D8 x ⟨kd,id,0,0,s⟩).1.AE∧ ∀i,i<8→(ob (D8 x ⟨kd,id,0,0,s⟩).1.AE i).live=true→hr_ (D8 x ⟨kd,id,0,0,s⟩).1.AE i=hr_ x.AE i-(if i=k then 1 else 0):=by
 have hp:=hk.hp
 have hol:=hk.ol
 obtain ⟨b1,b2⟩:=hk.hr0 hs
 have k8:k<8:=(hp.me hs).1
 have hkl:k<x.AE.length:=by omega
 have e:AB x.AE id=((k:Nat):Int):=hs
 have fin: ∀v:AV,v={ob x.AE k with holds:=v.holds,roots:=v.roots}→(0≤v.holds∧v.holds≤20)→(0≤v.roots∧v.roots≤20)→v.holds+v.roots+1=hr_ x.AE k→
   Sub x.AE (FU (x.AE.set k v) x.buffer [id]).1∧ ∀i,i<8→(ob (FU (x.AE.set k v) x.buffer [id]).1 i).live=true→hr_ (FU (x.AE.set k v) x.buffer [id]).1 i=hr_ x.AE i-(if i=k then 1 else 0):=fun v ev v4 v5 hsum=>by
  have R:=sT hp hs ev v4 v5 hsum
  have eo: ∀i,ob (x.AE.set k v) i=if i=k then v else ob x.AE i:=fun i=>EW hkl
  refine ⟨⟨hol,R.len,fun i hi hv=> ?_⟩,fun i hi hv=> ?_⟩
  ·obtain ⟨a,_⟩:=R.sm i hi hv
   have g:=R.gn i hi
   rw [eo] at a g
   split at a
   ·rename_i he;subst he
    rw [if_pos rfl] at g
    have vl:v.live=(ob x.AE i).live:=by rw [ev]
    have vg:v.gen=(ob x.AE i).gen:=by rw [ev]
    exact ⟨by rw [←vl];exact a,by rw [g,vg]⟩
   ·rename_i he
    rw [if_neg he] at g
    exact ⟨a,g⟩
  ·obtain ⟨_,_,a,b,_⟩:=R.sm i hi hv
   simp only [hr_]
   rw [a,b,eo]
   split
   ·rename_i he;subst he;simp only [hr_] at hsum;omega
   ·omega
 rcases hkd with ⟨rfl,hz⟩ | ⟨rfl,hz⟩
 ·have es:D8 x ⟨6,id,0,0,s⟩=(⟨(GZ x.AE x.buffer 6 id).1,x.B1,(GZ x.AE x.buffer 6 id).2.1,x.sites⟩,(GZ x.AE x.buffer 6 id).2.2):=by simp [D8]
  have hr:(ob x.AE k).roots≠0:=by simp only [hr_] at h0;omega
  have eh:GZ x.AE x.buffer 6 id=P2 (FU (x.AE.set k {ob x.AE k with roots:=(ob x.AE k).roots-1}) x.buffer [id]):=by
   unfold GZ
   rw [e,Int.toNat_natCast,if_neg (by omega),if_neg (by decide),if_neg (by decide),if_neg (by decide),if_neg hr]
  rw [es,eh]
  exact ⟨rfl,fin _ rfl (by simp only;omega) (by simp only;omega) (by simp only [hr_];omega)⟩
 ·have es:D8 x ⟨3,id,0,0,s⟩=(⟨(GZ x.AE x.buffer 3 id).1,x.B1,(GZ x.AE x.buffer 3 id).2.1,x.sites⟩,(GZ x.AE x.buffer 3 id).2.2):=by simp [D8]
  have eh:GZ x.AE x.buffer 3 id=P2 (FU (x.AE.set k {ob x.AE k with holds:=(ob x.AE k).holds-1}) x.buffer [id]):=by
   unfold GZ
   rw [e,Int.toNat_natCast,if_neg (by omega),if_neg (by decide),if_neg (by decide),if_pos rfl,if_neg hz]
  rw [es,eh]
  exact ⟨rfl,fin _ rfl (by simp only;omega) (by simp only;omega) (by simp only [hr_];omega)⟩
theorem jF (x:Hp) (s:ByteArray):D8 x ⟨10,0,0,0,s⟩=(⟨(H0 x.AE x.buffer).1,x.B1,[],x.sites⟩,⟨0,0,(H0 x.AE x.buffer).2⟩):=by simp [D8]
structure mV (h0:Hp) (i:Nat) (x:Hp):Prop where
 ok:B5 x
 gd:Gd x.AE x.buffer
 sub:Sub h0.AE x.AE
 dn: ∀j,j<i→ ∀k:Nat,AB x.AE (gI (Q3 h0.AE) j)=(k:Int)→hr_ x.AE k=0
theorem mV.drop {h0 x:Hp} {i:Nat} (h:mV h0 i x) {id kd:Int} {k:Nat} {s:ByteArray} (hs:AB x.AE id=(k:Int)) (hz:hr_ x.AE k≠0) (hkd:(kd=6∧(ob x.AE k).holds=0)∨(kd=3∧(ob x.AE k).holds≠0)):
  (D8 x ⟨kd,id,0,0,s⟩).2.code=0∧mV h0 i (D8 x ⟨kd,id,0,0,s⟩).1∧ ∀v:Int, ∀m:Nat,AB (D8 x ⟨kd,id,0,0,s⟩).1.AE v=(m:Int)→AB x.AE v=(m:Int)∧hr_ (D8 x ⟨kd,id,0,0,s⟩).1.AE m=hr_ x.AE m-(if m=k then 1 else 0):=by
 obtain ⟨c,S,H⟩:=oM (s:=s) h.ok hs hz hkd
 have back: ∀v:Int, ∀m:Nat,AB (D8 x ⟨kd,id,0,0,s⟩).1.AE v=(m:Int)→AB x.AE v=(m:Int)∧hr_ (D8 x ⟨kd,id,0,0,s⟩).1.AE m=hr_ x.AE m-(if m=k then 1 else 0):=fun v m hm=>by
  have hl:=NN hm
  exact ⟨S.slot hm,H m hl.1 hl.2⟩
 refine ⟨c,⟨h.ok.step,h.ok.gd h.gd,h.sub.trans S,fun j hj m hm=> ?_⟩,back⟩
 obtain ⟨a,b⟩:=back _ m hm
 have z:=h.dn j hj m a
 have p:=h.ok.step.hr0 hm
 simp only [hr_] at b z p ⊢
 split at b <;> omega
theorem mV.fin {h0 x:Hp} (h:mV h0 (Q3 h0.AE).length x) (s:ByteArray):Q3 (D8 x ⟨10,0,0,0,s⟩).1.AE=[]:=by
 rw [jF]
 have hp:=h.ok.hp
 have R:=mG hp h.gd
 refine jK fun k k8=> ?_
 cases hv:(ob (H0 x.AE x.buffer).1 k).live with
 | false=>rfl
 | true=>
   exfalso
   obtain ⟨e,he,_⟩:=(R.lv k k8).1 hv
   obtain ⟨u,v⟩:=h.sub.lv e he.lt he.lv
   have hm:=kO h.sub.la he.lt u
   rw [←v] at hm
   obtain ⟨j,hj,ej⟩:=List.getElem_of_mem hm
   rw [D4 hj] at ej
   have hoe:=(hp.obj e he.lt)
   have sl:=HH h.ok.ol he.lt he.lv (hoe.lv he.lv).1 hoe.gen.2
   rw [←ej] at sl
   have z:=h.dn j hj e sl
   have p:=he.pos
   simp only [hr_] at z;omega
end Go.Proofs.Ytklmcfpgdfibnaa.P
