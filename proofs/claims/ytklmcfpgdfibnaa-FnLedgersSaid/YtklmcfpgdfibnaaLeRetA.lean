/- A part of the proof. -/
import Derived.Test.YtklmcfpgdfibnaaLeLetA
namespace Go.Proofs.Ytklmcfpgdfibnaa.P
open Go Go.Proofs.Ytklmcfpgdfibnaa Go.Proofs.Ytklmcfpgdfibnaa.Eng
set_option linter.unusedVariables false
set_option maxHeartbeats 4000000
set_option linter.unusedVariables false
set_option linter.unusedSimpArgs false
attribute [local irreducible] prP gP gE gF AJ ixW ldc ldg ldl stc stg scW mkW apW A6 cl2 BF CM CB
variable {w0:World}
theorem S3 {α:Type} (p:α→Bool) {f:Nat→List α}: ∀n,(pick f n).filter p=pick (fun i=>(f i).filter p) n
 | 0=>rfl
 | n+1=>by rw [pick,List.filter_append,S3 p n];rfl
def WC (os:List AE) (ids:List Int):List Int:=(JD os).filter fun v=>decide (v∈q9 os (dR os (-1) ids))
theorem jA (os:List AE):AA os (-1)= -1:=G8 (.inl (by omega))
theorem SW {x:Hp} (hk:BO x) {ids:List Int} {k:Nat} (k8:k<8) (kv:(ob x.AD k).live=true):B2 k (ob x.AD k).gen∈q9 x.AD (dR x.AD (-1) ids)↔RB x.AD ids k:=by
 have hp:=hk.hp.obj k k8
 have hs:=DQ hk.ol k8 kv (hp.lv kv).1 hp.gen.2
 obtain ⟨h1,h2⟩:=rD x.AD (-1) ids
 rw [pP h1 (by omega),hs,h2]
 unfold o5 RB
 constructor
 ·rintro ⟨v,hv,s,e,_,hr⟩;exact ⟨v,hv,s,e,XP.1 hr⟩
 ·rintro ⟨v,hv,s,e,hr⟩;exact ⟨v,hv,s,e,by omega,XP.2 hr⟩
theorem aJ {x:Hp} (hk:BO x) {k:Nat}:RB x.AD (exts x.AD) k↔Rch x.AD k:=by
 constructor
 ·rintro ⟨v,hv,s,hs,hr⟩
  obtain ⟨i,hi,hx⟩:=J9.1 hv
  unfold mE at hx
  split at hx
  ·rename_i hc
   rw [List.mem_singleton.1 hx] at hs
   have i8:i<8:=by omega
   have hp:=hk.hp.obj i i8
   have l:=hp.lv hc.2.1
   rw [DQ hk.ol i8 hc.2.1 l.1 hp.gen.2] at hs
   have:i=s:=by omega
   subst this
   have e:=hc.2.2
   rw [H4 ⟨by omega,by omega⟩] at e
   exact ⟨i,⟨i8,hc.2.1,e⟩,hr⟩
  ·cases hx
 ·rintro ⟨e,he,hr⟩
  have hp:=hk.hp.obj e he.lt
  have l:=hp.lv he.lv
  refine ⟨B2 e (ob x.AD e).gen,J9.2 ⟨e,by rw [hk.ol];exact he.lt, ?_⟩,e,DQ hk.ol he.lt he.lv l.1 hp.gen.2,hr⟩
  unfold mE
  rw [if_pos ⟨by have:=he.lt;omega,he.lv,by rw [H4 ⟨by omega,by omega⟩];exact he.pos⟩]
  simp
def cU (os:List AE):List Int:=(JD os).filter fun v=>decide (v∉WC os (exts os))
theorem eJ {x:Hp} (hk:BO x) (g:Gd x.AD x.buffer):cU x.AD=HK x.AD (HB x.AD (fun i=>(ob x.AD i).count) x.buffer) 8:=by
 have wi: ∀k,k<8→(ob x.AD k).live=true→(HB x.AD (fun i=>(ob x.AD i).count) x.buffer k=true↔ ¬Rch x.AD k):=fun k k8 kv=>YK hk.hp g k8 kv
 have wl: ∀k,HB x.AD (fun i=>(ob x.AD i).count) x.buffer k=true→(ob x.AD k).live=true:=fun k hw=>(HQ.1 hw).1.live
 generalize HB x.AD (fun i=>(ob x.AD i).count) x.buffer=W at wi wl
 unfold cU HK
 have e:JD x.AD=pick (HE x.AD) 8:=by unfold JD;rw [hk.ol]
 rw [e,S3]
 refine P5 fun i i8=> ?_
 unfold HE
 cases hv:(ob x.AD i).live with
 | false=>
   rw [if_neg (by simp)]
   have: ¬W i=true:=fun hw=>by rw [wl i hw] at hv;cases hv
   rw [if_neg this];rfl
 | true=>
   rw [if_pos ⟨by omega,rfl⟩]
   have hin:B2 i (ob x.AD i).gen∈WC x.AD (exts x.AD)↔Rch x.AD i:=by
    unfold WC
    rw [List.mem_filter,decide_eq_true_eq,SW hk i8 hv,aJ hk]
    exact ⟨fun hh=>hh.2,fun hh=>⟨R9 hk.ol i8 hv,hh⟩⟩
   by_cases hw:W i=true
   ·rw [if_pos hw]
    have:=(wi i i8 hv).1 hw
    simp only [List.filter_cons,List.filter_nil]
    rw [if_pos (by simpa using fun hh=>this (hin.1 hh))]
   ·rw [if_neg hw]
    have:Rch x.AD i:=Classical.byContradiction fun hn=>hw ((wi i i8 hv).2 hn)
    simp only [List.filter_cons,List.filter_nil]
    rw [if_neg (by simpa using hin.2 this)]
end Go.Proofs.Ytklmcfpgdfibnaa.P
namespace Go.Proofs.Ytklmcfpgdfibnaa.P
open Go Go.Proofs.Ytklmcfpgdfibnaa Go.Proofs.Ytklmcfpgdfibnaa.Eng
set_option linter.unusedVariables false
set_option maxHeartbeats 4000000
set_option linter.unusedVariables false
set_option linter.unusedSimpArgs false
attribute [local irreducible] prP gP gE gF AJ ixW ldc ldg ldl stc stg scW mkW apW A6 cl2 BF CM CB
variable {w0:World}
def frQ (q:Que) (i:Nat):Int:=((q.find? fun e=>decide (e.1=(i:Int))).map (·.2)).getD 0
end Go.Proofs.Ytklmcfpgdfibnaa.P
namespace Go.Proofs.Ytklmcfpgdfibnaa.P
open Go Go.Proofs.Ytklmcfpgdfibnaa Go.Proofs.Ytklmcfpgdfibnaa.Eng
set_option linter.unusedVariables false
set_option maxHeartbeats 4000000
set_option linter.unusedVariables false
set_option linter.unusedSimpArgs false
attribute [local irreducible] prP gP gE gF AJ ixW ldc ldg ldl stc stg scW mkW apW A6 cl2 BF CM CB
variable {w0:World}
end Go.Proofs.Ytklmcfpgdfibnaa.P
namespace Go.Proofs.Ytklmcfpgdfibnaa.P
open Go Go.Proofs.Ytklmcfpgdfibnaa Go.Proofs.Ytklmcfpgdfibnaa.Eng
set_option linter.unusedVariables false
set_option maxHeartbeats 4000000
set_option linter.unusedVariables false
set_option linter.unusedSimpArgs false
attribute [local irreducible] prP gP gE gF AJ ixW ldc ldg ldl stc stg scW mkW apW A6 cl2 BF CM CB
variable {w0:World}
end Go.Proofs.Ytklmcfpgdfibnaa.P
namespace Go.Proofs.Ytklmcfpgdfibnaa.P
open Go Go.Proofs.Ytklmcfpgdfibnaa Go.Proofs.Ytklmcfpgdfibnaa.Eng
set_option linter.unusedVariables false
set_option maxHeartbeats 4000000
set_option linter.unusedVariables false
set_option linter.unusedSimpArgs false
attribute [local irreducible] prP gP gE gF AJ ixW ldc ldg ldl stc stg scW mkW apW A6 cl2 BF CM CB
variable {w0:World}
end Go.Proofs.Ytklmcfpgdfibnaa.P
namespace Go.Proofs.Ytklmcfpgdfibnaa.P
open Go Go.Proofs.Ytklmcfpgdfibnaa Go.Proofs.Ytklmcfpgdfibnaa.Eng
set_option linter.unusedVariables false
set_option maxHeartbeats 4000000
set_option linter.unusedVariables false
set_option linter.unusedSimpArgs false
attribute [local irreducible] prP gP gE gF AJ ixW ldc ldg ldl stc stg scW mkW apW A6 cl2 BF CM CB
variable {w0:World}
theorem X7 {x:Hp} (hk:BO x) {v:Int}:v∈JD x.AD↔ ∃k:Nat,k<8∧(ob x.AD k).live=true∧v=B2 k (ob x.AD k).gen:=by
 constructor
 ·intro hv
  obtain ⟨i,hi,hx⟩:=J9.1 hv
  unfold HE at hx
  split at hx
  ·rename_i hc;exact ⟨i,by omega,hc.2,List.mem_singleton.1 hx⟩
  ·cases hx
 ·rintro ⟨k,k8,kv,rfl⟩;exact R9 hk.ol k8 kv
theorem kV {x:Hp} (hk:BO x) {ids:List Int} {v:Int}:v∈WC x.AD ids↔ ∃k:Nat,k<8∧(ob x.AD k).live=true∧v=B2 k (ob x.AD k).gen∧RB x.AD ids k:=by
 unfold WC
 rw [List.mem_filter,decide_eq_true_eq,X7 hk]
 constructor
 ·rintro ⟨⟨k,k8,kv,rfl⟩,h⟩;exact ⟨k,k8,kv,rfl,(SW hk k8 kv).1 h⟩
 ·rintro ⟨k,k8,kv,rfl,h⟩;exact ⟨⟨k,k8,kv,rfl⟩,(SW hk k8 kv).2 h⟩
theorem UA {x:Hp} (hk:BO x) {k:Nat} (k8:k<8) (kv:(ob x.AD k).live=true):AA x.AD (B2 k (ob x.AD k).gen)=(k:Int):=
 DQ hk.ol k8 kv ((hk.hp.obj k k8).lv kv).1 (hk.hp.obj k k8).gen.2
theorem ZE {x:Hp} (hk:BO x) {v:Int} {k:Nat} (h:AA x.AD v=(k:Int)):k<8∧(ob x.AD k).live=true∧v=B2 k (ob x.AD k).gen:=by
 have l:=KQ h
 have g:=(hk.hp.obj k l.1).lv l.2
 have e:=U3 (os:=x.AD) (x:=v) (by omega)
 rw [h] at e
 refine ⟨l.1,l.2, ?_⟩
 rw [e,GR l.1 g.1 (hk.hp.obj k l.1).gen.2]
 unfold lR
 rw [Int.toNat_natCast]
end Go.Proofs.Ytklmcfpgdfibnaa.P
namespace Go.Proofs.Ytklmcfpgdfibnaa.P
open Go Go.Proofs.Ytklmcfpgdfibnaa Go.Proofs.Ytklmcfpgdfibnaa.Eng
set_option linter.unusedVariables false
set_option maxHeartbeats 4000000
set_option linter.unusedVariables false
set_option linter.unusedSimpArgs false
attribute [local irreducible] prP gP gE gF AJ ixW ldc ldg ldl stc stg scW mkW apW A6 cl2 BF CM CB
variable {w0:World}
end Go.Proofs.Ytklmcfpgdfibnaa.P
