/- A part of the proof. -/
import Derived.Test.YtklmcfpgdfibnaaRcSchA
import Derived.Test.YtklmcfpgdfibnaaRcLetA
namespace Go.Proofs.Ytklmcfpgdfibnaa.P
open Go Go.Proofs.Ytklmcfpgdfibnaa Go.Proofs.Ytklmcfpgdfibnaa.Eng
set_option linter.unusedVariables false
set_option maxHeartbeats 4000000
set_option linter.unusedVariables false
set_option linter.unusedSimpArgs false
attribute [local irreducible] prP gP gE gF AW ixW ldc ldg ldl stc stg scW mkW apW BE cl2 BS C6 CO
variable {w0:World}
theorem SR {α:Type} (p:α→Bool) {f:Nat→List α}: ∀n,(pick f n).filter p=pick (fun i=>(f i).filter p) n
 | 0=>rfl
 | n+1=>by rw [pick,List.filter_append,SR p n];rfl
def DV (os:List AG) (ids:List Int):List Int:=(GF os).filter fun v=>decide (v∈HJ os (H6 os (-1) ids))
theorem nP (os:List AG):AA os (-1)= -1:=EG (.inl (by omega))
theorem BW.vS {x:Hp} (hk:BW x): ∀i,i<8→ -1000000≤(ob x.AD i).gen∧(ob x.AD i).gen≤1000000:=fun i hi=>by
 have:=(hk.obj i hi).gen
 omega
theorem aX (os:List AG):(exts os).length≤os.length:=HC (VI os) _
theorem e7 (os:List AG): ∀v∈exts os, -1≤v∧v≤7999:=UY (fun i x hx=>by
 unfold PE at hx;split at hx
 ·rw [List.mem_singleton.1 hx];exact Y1 _ _
 ·cases hx) _
theorem MJ {x:Hp} (hk:BW x) {ids:List Int} {k:Nat} (k8:k<8) (kv:(ob x.AD k).live=true):B8 k (ob x.AD k).gen∈HJ x.AD (H6 x.AD (-1) ids)↔RB x.AD ids k:=by
 have hp:=hk.hp.obj k k8
 have hs:=EW hk.ol k8 kv (hp.lv kv).1 hp.gen.2
 obtain ⟨h1,h2⟩:=TY x.AD (-1) ids
 rw [QW h1 (by omega),hs,h2]
 unfold q8 RB
 constructor
 ·rintro ⟨v,hv,s,e,_,hr⟩;exact ⟨v,hv,s,e,W8.1 hr⟩
 ·rintro ⟨v,hv,s,e,hr⟩;exact ⟨v,hv,s,e,by omega,W8.2 hr⟩
def PW (os:List AG):List Int:=(GF os).filter fun v=>decide (v∉DV os (exts os))
end Go.Proofs.Ytklmcfpgdfibnaa.P
