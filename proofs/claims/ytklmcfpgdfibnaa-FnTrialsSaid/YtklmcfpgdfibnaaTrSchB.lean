/- A part of the proof. -/
import Derived.Test.YtklmcfpgdfibnaaTrSchA
import Derived.Test.YtklmcfpgdfibnaaTrLetA
namespace Go.Proofs.Ytklmcfpgdfibnaa.P
open Go Go.Proofs.Ytklmcfpgdfibnaa Go.Proofs.Ytklmcfpgdfibnaa.Eng
set_option linter.unusedVariables false
set_option maxHeartbeats 4000000
set_option linter.unusedVariables false
set_option linter.unusedSimpArgs false
attribute [local irreducible] prP gP gE gF AX ixW ldc ldg ldl stc stg scW mkW apW BF cl2 BS DK CW
variable {w0:World}
theorem SR {α:Type} (p:α→Bool) {f:Nat→List α}: ∀n,(pick f n).filter p=pick (fun i=>(f i).filter p) n
 | 0=>rfl
 | n+1=>by rw [pick,List.filter_append,SR p n];rfl
theorem VG {a:List AG} {b c d:List T} {l:List Int} {K:J2} (hl:(a.length:Int)≤1048576) (hl2:l.length≤1000) (h:K [] [tI ((JW a).filter fun v=>decide (v∈l))]):cl2 ⟨Try.prog,w0⟩ 101 EZ.sg [] [tR tO a,b,c,d,tI l] K:=by
 refine EZ.cl2 ?_
 unfold EZ.txt
 refine K3 hl ?_
 obtain ⟨m,hm⟩: ∃m,JW a=m:=⟨_,rfl⟩
 have ml:(m.length:Int)≤1048576:=by have:=XP a;rw [hm] at this;omega
 rw [hm] at h ⊢
 simp only [AJ,AT,AL,AR,AS,AE,AI,AU,AK,AN,AO,AQ,AM,AP,BJ,BO,BL,BM,BN,BP,BK,A9,A4,A6,A7,A8,A5]
 refine BG (fun i=>[iv i]) (fun i=>[tI ((m.take i).filter fun v=>decide (v∈l)),tI m]) m.length (fun _=>True) rfl rfl trivial (fun R i hi _ hR=> ?_)
 have fl:((m.take i).filter fun v=>decide (v∈l)).length≤m.length:=Nat.le_trans (List.length_filter_le _ _) (List.length_take_le' _ _)
 simp only [AJ,AT,AL,AR,AS,AE,AI,AU,AK,AN,AO,AQ,AM,AP,BJ,BO,BL,BM,BN,BP,BK,A9,A4,A6,A7,A8,A5]
 refine BA (AW (fun hlt=>BT ?_) fun hge=> ?_)
 ·have hlt:i<m.length:=by omega
  have hR:=hR hlt trivial
  rw [List.take_succ_eq_append_getElem hlt,List.filter_append,DA hlt] at hR
  refine AH hlt (ldI hlt (HK (by omega) (AW (fun hm=> ?_) fun hm=> ?_)))
  ·have e:[gI m i].filter (fun v=>decide (v∈l))=[gI m i]:=by simp [hm]
   rw [e, ←DJ] at hR
   exact AH hlt (ldI hlt (EH rfl (by omega) (BB (by omega) hR)))
  ·have e:[gI m i].filter (fun v=>decide (v∈l))=[]:=by simp [hm]
   rw [e,List.append_nil] at hR
   exact BB (by omega) hR
 ·have:i=m.length:=by omega
  subst this
  rw [List.take_length]
  exact h
def R0 (os:List AG) (ids:List Int):List Int:=(JW os).filter fun v=>decide (v∈KY os (T3 os (-1) ids))
theorem eN (os:List AG):AA os (-1)= -1:=EN (.inl (by omega))
theorem BZ.uY {x:Hp} (hk:BZ x): ∀i,i<8→ -1000000≤(ob x.AD i).gen∧(ob x.AD i).gen≤1000000:=fun i hi=>by
 have:=(hk.obj i hi).gen
 omega
theorem RY {x:Hp} {ids:List Int} {K:J2} (hk:BZ x) (hids: ∀v∈ids,F64 v) (hl:ids.length≤1000) (h:K [] [tI (R0 x.AD ids)]):cl2 ⟨Try.prog,w0⟩ 32 DN.sg [] (trees x++[tI ids]) K:=by
 have ol:=hk.ol
 have fits:=hk.fits
 refine DN.cl2 ?_
 unfold DN.txt
 try simp only [trees,List.cons_append,List.nil_append]
 try simp only [AJ,AT,AL,AR,AS,AE,AI,AU,AK,AN,AO,AQ,AM,AP,BJ,BO,BL,BM,BN,BP,BK,A9,A4,A6,A7,A8,A5]
 refine CI (D8 (by omega) (S7 (x:=x) (b:= -1) fits hk.KK hk.uY hids hl ?_))
 rw [eN]
 have ql:=(dW x.AD (-1) ids).1.len
 have il:=OK x.AD (T3 x.AD (-1) ids)
 exact VG fits.ol (by omega) h
theorem mP (os:List AG):(exts os).length≤os.length:=HY (bS os) _
theorem nP (os:List AG): ∀v∈exts os, -1≤v∧v≤7999:=VU (fun i x hx=>by
 unfold R8 at hx;split at hx
 ·rw [List.mem_singleton.1 hx];exact X9 _ _
 ·cases hx) _
theorem iQ {x:Hp} (hk:BZ x) {ids:List Int} {k:Nat} (k8:k<8) (kv:(ob x.AD k).live=true):CC k (ob x.AD k).gen∈KY x.AD (T3 x.AD (-1) ids)↔RB x.AD ids k:=by
 have hp:=hk.hp.obj k k8
 have hs:=FA hk.ol k8 kv (hp.lv kv).1 hp.gen.2
 obtain ⟨h1,h2⟩:=dW x.AD (-1) ids
 rw [T1 h1 (by omega),hs,h2]
 unfold qG RB
 constructor
 ·rintro ⟨v,hv,s,e,_,hr⟩;exact ⟨v,hv,s,e,XD.1 hr⟩
 ·rintro ⟨v,hv,s,e,hr⟩;exact ⟨v,hv,s,e,by omega,XD.2 hr⟩
theorem nI {x:Hp} (hk:BZ x) {k:Nat}:RB x.AD (exts x.AD) k↔Rch x.AD k:=by
 constructor
 ·rintro ⟨v,hv,s,hs,hr⟩
  obtain ⟨i,hi,hx⟩:=N6.1 hv
  unfold R8 at hx
  split at hx
  ·rename_i hc
   rw [List.mem_singleton.1 hx] at hs
   have i8:i<8:=by omega
   have hp:=hk.hp.obj i i8
   have l:=hp.lv hc.2.1
   rw [FA hk.ol i8 hc.2.1 l.1 hp.gen.2] at hs
   have:i=s:=by omega
   subst this
   have e:=hc.2.2
   rw [G8 ⟨by omega,by omega⟩] at e
   exact ⟨i,⟨i8,hc.2.1,e⟩,hr⟩
  ·cases hx
 ·rintro ⟨e,he,hr⟩
  have hp:=hk.hp.obj e he.lt
  have l:=hp.lv he.lv
  refine ⟨CC e (ob x.AD e).gen,N6.2 ⟨e,by rw [hk.ol];exact he.lt, ?_⟩,e,FA hk.ol he.lt he.lv l.1 hp.gen.2,hr⟩
  unfold R8
  rw [if_pos ⟨by have:=he.lt;omega,he.lv,by rw [G8 ⟨by omega,by omega⟩];exact he.pos⟩]
  simp
def XS (os:List AG):List Int:=(JW os).filter fun v=>decide (v∉R0 os (exts os))
theorem V6 {x:Hp} {K:J2} (hk:BZ x) (h:K [] [tI (XS x.AD)]):cl2 ⟨Try.prog,w0⟩ 22 FU.sg [] (trees x) K:=by
 have ol:=hk.ol
 have fits:=hk.fits
 refine FU.cl2 ?_
 unfold FU.txt
 try simp only [trees]
 try simp only [AJ,AT,AL,AR,AS,AE,AI,AU,AK,AN,AO,AQ,AM,AP,BJ,BO,BL,BM,BN,BP,BK,A9,A4,A6,A7,A8,A5]
 have el:=mP x.AD
 refine CI (D8 (by omega) (RM fits.ol (RY (x:=x) hk (fun v hv=>CU (by have:=nP _ v hv;omega)) (by omega) (K3 fits.ol ?_))))
 unfold XS at h
 obtain ⟨m,hm⟩: ∃m,JW x.AD=m:=⟨_,rfl⟩
 obtain ⟨r,hr⟩: ∃r,R0 x.AD (exts x.AD)=r:=⟨_,rfl⟩
 have ml:m.length≤8:=by have:=XP x.AD;rw [hm] at this;omega
 have rl:r.length≤8:=by rw [←hr];unfold R0;rw [hm];exact Nat.le_trans (List.length_filter_le _ _) ml
 rw [hm,hr] at h ⊢
 simp only [AJ,AT,AL,AR,AS,AE,AI,AU,AK,AN,AO,AQ,AM,AP,BJ,BO,BL,BM,BN,BP,BK,A9,A4,A6,A7,A8,A5]
 refine BG (fun i=>[iv i]) (fun i=>[tI ((m.take i).filter fun v=>decide (v∉r)),tI r,tI m]) m.length (fun _=>True) rfl rfl trivial (fun R i hi _ hR=> ?_)
 have fl:((m.take i).filter fun v=>decide (v∉r)).length≤m.length:=Nat.le_trans (List.length_filter_le _ _) (List.length_take_le' _ _)
 simp only [AJ,AT,AL,AR,AS,AE,AI,AU,AK,AN,AO,AQ,AM,AP,BJ,BO,BL,BM,BN,BP,BK,A9,A4,A6,A7,A8,A5]
 refine BA (AW (fun hlt=>BT ?_) fun hge=> ?_)
 ·have hlt:i<m.length:=by omega
  have hR:=hR hlt trivial
  rw [List.take_succ_eq_append_getElem hlt,List.filter_append,DA hlt] at hR
  refine AH hlt (ldI hlt (HK (by omega) (F8 (AW (fun hm=> ?_) fun hm=> ?_))))
  ·have e:[gI m i].filter (fun v=>decide (v∉r))=[gI m i]:=by simp [hm]
   rw [e, ←DJ] at hR
   exact AH hlt (ldI hlt (EH rfl (by omega) (BB (by omega) hR)))
  ·have e:[gI m i].filter (fun v=>decide (v∉r))=[]:=by simpa using hm
   rw [e,List.append_nil] at hR
   exact BB (by omega) hR
 ·have:i=m.length:=by omega
  subst this
  rw [List.take_length]
  exact h
theorem bZ {x:Hp} (hk:BZ x) (g:Gd x.AD x.buffer):XS x.AD=IH x.AD (HN x.AD (fun i=>(ob x.AD i).count) x.buffer) 8:=by
 have wi: ∀k,k<8→(ob x.AD k).live=true→(HN x.AD (fun i=>(ob x.AD i).count) x.buffer k=true↔ ¬Rch x.AD k):=fun k k8 kv=>XE hk.hp g k8 kv
 have wl: ∀k,HN x.AD (fun i=>(ob x.AD i).count) x.buffer k=true→(ob x.AD k).live=true:=fun k hw=>(HS.1 hw).1.live
 generalize HN x.AD (fun i=>(ob x.AD i).count) x.buffer=W at wi wl
 unfold XS IH
 have e:JW x.AD=pick (JU x.AD) 8:=by unfold JW;rw [hk.ol]
 rw [e,SR]
 refine VJ fun i i8=> ?_
 unfold JU
 cases hv:(ob x.AD i).live with
 | false=>
   rw [if_neg (by simp)]
   have: ¬W i=true:=fun hw=>by rw [wl i hw] at hv;cases hv
   rw [if_neg this];rfl
 | true=>
   rw [if_pos ⟨by omega,rfl⟩]
   have hin:CC i (ob x.AD i).gen∈R0 x.AD (exts x.AD)↔Rch x.AD i:=by
    unfold R0
    rw [List.mem_filter,decide_eq_true_eq,iQ hk i8 hv,nI hk]
    exact ⟨fun hh=>hh.2,fun hh=>⟨WY hk.ol i8 hv,hh⟩⟩
   by_cases hw:W i=true
   ·rw [if_pos hw]
    have:=(wi i i8 hv).1 hw
    simp only [List.filter_cons,List.filter_nil]
    rw [if_pos (by simpa using fun hh=>this (hin.1 hh))]
   ·rw [if_neg hw]
    have:Rch x.AD i:=Classical.byContradiction fun hn=>hw ((wi i i8 hv).2 hn)
    simp only [List.filter_cons,List.filter_nil]
    rw [if_neg (by simpa using hin.2 this)]
end Go.Proofs.Ytklmcfpgdfibnaa.P
