/- A part of the proof. -/
import Derived.Test.YtklmcfpgdfibnaaWaColA
namespace Go.Proofs.Ytklmcfpgdfibnaa.P
open Go Go.Proofs.Ytklmcfpgdfibnaa Go.Proofs.Ytklmcfpgdfibnaa.Eng
set_option linter.unusedVariables false
set_option maxHeartbeats 4000000
set_option linter.unusedVariables false
set_option linter.unusedSimpArgs false
attribute [local irreducible] prP gP gE gF AX ixW ldc ldg ldl stc stg scW mkW apW BE cl2 BK C2 CI
variable {w0:World}
theorem SJ {x:Hp} (hk:BW x) {v:Int}:v∈IN x.AB↔ ∃k:Nat,k<8∧(ob x.AB k).live=true∧v=B6 k (ob x.AB k).gen:=by
 constructor
 ·intro hv
  obtain ⟨i,hi,hx⟩:=LB.1 hv
  unfold KD at hx
  split at hx
  ·rename_i hc;exact ⟨i,by omega,hc.2,List.mem_singleton.1 hx⟩
  ·cases hx
 ·rintro ⟨k,k8,kv,rfl⟩;exact XM hk.ol k8 kv
theorem jG {x:Hp} (hk:BW x) {ids:List Int} {v:Int}:v∈SD x.AB ids↔ ∃k:Nat,k<8∧(ob x.AB k).live=true∧v=B6 k (ob x.AB k).gen∧RB x.AB ids k:=by
 unfold SD
 rw [List.mem_filter,decide_eq_true_eq,SJ hk]
 constructor
 ·rintro ⟨⟨k,k8,kv,rfl⟩,h⟩;exact ⟨k,k8,kv,rfl,(XD hk k8 kv).1 h⟩
 ·rintro ⟨k,k8,kv,rfl,h⟩;exact ⟨⟨k,k8,kv,rfl⟩,(XD hk k8 kv).2 h⟩
theorem QX {x:Hp} (hk:BW x) {k:Nat} (k8:k<8) (kv:(ob x.AB k).live=true):AA x.AB (B6 k (ob x.AB k).gen)=(k:Int):=
 EZ hk.ol k8 kv ((hk.hp.obj k k8).lv kv).1 (hk.hp.obj k k8).gen.2
theorem pZ {x:Hp} (hk:BW x) {v:Int} {k:Nat} (h:AA x.AB v=(k:Int)):k<8∧(ob x.AB k).live=true∧v=B6 k (ob x.AB k).gen:=by
 have l:=KL h
 have g:=(hk.hp.obj k l.1).lv l.2
 have e:=LD (os:=x.AB) (x:=v) (by omega)
 rw [h] at e
 refine ⟨l.1,l.2, ?_⟩
 rw [e,F4 l.1 g.1 (hk.hp.obj k l.1).gen.2]
 unfold PN
 rw [Int.toNat_natCast]
end Go.Proofs.Ytklmcfpgdfibnaa.P
