/- A part of the proof. -/
import Derived.Test.YtklmcfpgdfibnaaReRetA
namespace Go.Proofs.Ytklmcfpgdfibnaa.P
open Go Go.Proofs.Ytklmcfpgdfibnaa Go.Proofs.Ytklmcfpgdfibnaa.Eng
set_option linter.unusedVariables false
set_option maxHeartbeats 4000000
set_option linter.unusedVariables false
set_option linter.unusedSimpArgs false
attribute [local irreducible] prP gP gE gF AY ixW ldc ldg ldl stc stg scW mkW apW BD cl2 BQ CZ B9
variable {w0:World}
theorem P2 {os:List AG} {q:Que} {v:Int}:v∈pick (DV os q) 8↔ ∃k:Nat,k<8∧inQ q (k:Int)∧v=B7 k (ob os k).gen:=by
 rw [LQ]
 constructor
 ·rintro ⟨i,hi,h⟩
  unfold DV at h
  split at h
  ·rename_i hm;exact ⟨i,hi,hm,List.mem_singleton.1 h⟩
  ·cases h
 ·rintro ⟨k,k8,hm,rfl⟩
  refine ⟨k,k8, ?_⟩
  unfold DV
  rw [if_pos (show (k:Int)∈slQ q from hm)];simp
theorem VQ {x:Hp} (hk:BW x) {k m:Nat} (k8:k<8) (kv:(ob x.AD k).live=true) (m8:m<8) (mv:(ob x.AD m).live=true) (h:B7 k (ob x.AD k).gen=B7 m (ob x.AD m).gen):k=m:=by
 have a:=OA hk k8 kv
 rw [h,OA hk m8 mv] at a
 omega
theorem aU {x:Hp} (hk:BW x) {but v:Int}:v∈SJ x.AD but↔ ∃k:Nat,k<8∧(ob x.AD k).live=true∧v=B7 k (ob x.AD k).gen∧RB x.AD (exts x.AD) k∧ ¬RG x.AD but (exts x.AD) k:=by
 obtain ⟨a1,a2⟩:=HO x.AD (-1) (exts x.AD)
 obtain ⟨b1,b2⟩:=HO x.AD but (exts x.AD)
 have fr: ∀k:Nat,RG x.AD (-1) (exts x.AD) k↔RB x.AD (exts x.AD) k:=fun k=>by
  unfold RG RB
  constructor
  ·rintro ⟨v,hv,s,e,_,hr⟩;exact ⟨v,hv,s,e,KZ.1 hr⟩
  ·rintro ⟨v,hv,s,e,hr⟩;exact ⟨v,hv,s,e,by omega,KZ.2 hr⟩
 unfold SJ
 rw [List.mem_filter,decide_eq_true_eq,P2,P2]
 constructor
 ·rintro ⟨⟨k,k8,hq,rfl⟩,hn⟩
  obtain ⟨k',e,_,kv,_⟩:=a1.lv _ hq
  have:k=k':=by omega
  subst this
  exact ⟨k,k8,kv,rfl,(fr k).1 ((a2 k).1 hq),fun hf=>hn ⟨k,k8,(b2 k).2 hf,rfl⟩⟩
 ·rintro ⟨k,k8,kv,rfl,hr,hn⟩
  refine ⟨⟨k,k8,(a2 k).2 ((fr k).2 hr),rfl⟩, ?_⟩
  rintro ⟨m,m8,hq,e⟩
  obtain ⟨m',em,_,mv,_⟩:=b1.lv _ hq
  have:m=m':=by omega
  subst this
  have:k=m:=VQ hk k8 kv m8 mv e
  subst this
  exact hn ((b2 k).1 hq)
end Go.Proofs.Ytklmcfpgdfibnaa.P
