/- A part of the proof. -/
import Derived.Test.YtklmcfpgdfibnaaReWayC
import Derived.Test.YtklmcfpgdfibnaaReRchA
namespace Go.Proofs.Ytklmcfpgdfibnaa.P
open Go Go.Proofs.Ytklmcfpgdfibnaa Go.Proofs.Ytklmcfpgdfibnaa.Eng
set_option linter.unusedVariables false
set_option maxHeartbeats 4000000
set_option linter.unusedVariables false
set_option linter.unusedSimpArgs false
attribute [local irreducible] prP gP gE gF AY ixW ldc ldg ldl stc stg scW mkW apW BD cl2 BQ CZ B9
variable {w0:World}
theorem b6 {x:Hp} (hk:BW x) {id:Int} {k:Nat} (hs:AB x.AD id=(k:Int)):id∈bM x.AD↔ ¬inQ (GK x.AD (-1) (exts x.AD)) (AB x.AD id):=by
 obtain ⟨k8,kv,e⟩:=gY hk hs
 unfold bM
 rw [List.mem_filter,decide_eq_true_eq,kU hk,hs,(HO _ _ _).2 k,aX]
 constructor
 ·rintro ⟨_,h⟩ hr;exact h ⟨k,k8,kv,e,hr⟩
 ·intro h
  refine ⟨(Y0 hk).2 ⟨k,k8,kv,e⟩, ?_⟩
  rintro ⟨m,m8,mv,e2,hr⟩
  have:=VQ hk k8 kv m8 mv (by rw [←e,e2])
  subst this
  exact h hr
structure z9 (os:List AG) (id:Int) (w:List Int):Prop where
 pos:0<w.length
 le:w.length≤8
 last:gI w (w.length-1)=id
 first:gI w 0∈exts os
 next: ∀i,i+1<w.length→ ∃k:Nat,k<8∧AB os (gI w i)=(k:Int)∧gI w (i+1)∈(ob os k).field
 nd: ∀i,i<w.length→gI w i∉w.take i
 live:w.length≤(IB os).length
 sm: ∀v∈w,8≤v∧v≤7999
end Go.Proofs.Ytklmcfpgdfibnaa.P
