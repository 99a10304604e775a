/- A part of the proof. -/
import Derived.Test.YtklmcfpgdfibnaaNwPlA
namespace Go.Proofs.Ytklmcfpgdfibnaa.P
open Go Go.Proofs.Ytklmcfpgdfibnaa Go.Proofs.Ytklmcfpgdfibnaa.Eng
set_option linter.unusedVariables false
section
variable {os:List AU} {ns:Nat} {buf:List Int} {k:Nat}
theorem Gd.put (h:HP os ns buf []) (k8:k<8) (hd:(ob os k).live=false) {t:Int} (g:Gd os buf):Gd (os.set k (I0 ((ob os k).gen+1) t)) buf:=by
 have hol:=h.ol
 have eo: ∀i,ob (os.set k (I0 ((ob os k).gen+1) t)) i=if i=k then I0 ((ob os k).gen+1) t else ob os i:=fun i=>FQ (by omega)
 have sl: ∀(x:Int) (s:Nat),AB os x=(s:Int)→s≠k∧AB (os.set k (I0 ((ob os k).gen+1) t)) x=(s:Int):=fun x s hs=>by
  have sv:=SB hs
  have hsk:s≠k:=fun hh=>by rw [hh,hd] at sv;cases sv.2
  refine ⟨hsk, ?_⟩
  have hb:=BN (l:=os) (id:=x) (by omega)
  have e:(x % 8).toNat=s:=by omega
  have e2:(AB os x).toNat=s:=by omega
  rw [e2] at hb
  rw [JQ hb.2.1 (by simpa using hol) (by rw [List.length_set];omega) (by rw [e,eo,if_neg hsk];exact sv.2) (by rw [e,eo,if_neg hsk];exact hb.2.2.2.2.2)]
  omega
 have kk: ∀y,(y<8∧(ob os y).live=true∧y≠k)→ ∀j∈BM os y,j∈BM (os.set k (I0 ((ob os k).gen+1) t)) y∧(j.toNat<8∧(ob os j.toNat).live=true∧j.toNat≠k):=fun y ⟨y8,yv,yk⟩ j hj=>by
  have hb:=CQ hj
  obtain ⟨h0,f,hf,hs⟩:=J8.1 hj
  obtain ⟨h1,h2⟩:=sl f j.toNat (by omega)
  exact ⟨J8.2 ⟨h0,f,by rw [eo,if_neg yk];exact hf,by omega⟩,hb.2.1,hb.2.2.2.2,h1⟩
 intro y y8 yv
 by_cases hyk:y=k
 ·subst hyk
  exact .inl ⟨y,⟨k8,yv,by rw [eo,if_pos rfl];simp [I0]⟩, .refl⟩
 ·rw [eo,if_neg hyk] at yv
  rcases g y y8 yv with ⟨e,he,hr⟩ | ⟨x,hx,s,hs,hr⟩
  ·have hek:e≠k:=fun hh=>by have:=he.lv;rw [hh,hd] at this;cases this
   exact .inl ⟨e,⟨he.lt,by rw [eo,if_neg hek];exact he.lv,by rw [eo,if_neg hek];exact he.pos⟩,(hr.IL (P:=fun y=>y<8∧(ob os y).live=true∧y≠k) ⟨he.lt,he.lv,hek⟩ kk).1⟩
  ·have sv:=SB hs
   obtain ⟨h1,h2⟩:=sl x s hs
   exact .inr ⟨x,hx,s,h2,(hr.IL (P:=fun y=>y<8∧(ob os y).live=true∧y≠k) ⟨sv.1,sv.2,h1⟩ kk).1⟩
def Rch (os:List AU) (k:Nat):Prop:= ∃e,m7 os e∧Reach os e k
theorem Rch.live {os:List AU} {k:Nat}:Rch os k→k<8∧(ob os k).live=true:=fun ⟨_,he,hr⟩=>hr.live ⟨he.lt,he.lv⟩
theorem qQ {W:Nat→Bool} {i:Nat} (h:W i=true):FF os W i=B4 (ob os i).gen:=by
 unfold FF
 rw [show C7 os W i=B4 (ob os i).gen from by unfold C7;rw [if_pos h]]
 rfl
theorem sA {W:Nat→Bool} {i:Nat} (h:W i=false):(FF os W i).live=(ob os i).live∧(FF os W i).gen=(ob os i).gen∧(FF os W i).site=(ob os i).site∧(FF os W i).holds=(ob os i).holds∧(FF os W i).roots=(ob os i).roots∧(FF os W i).field=(ob os i).field:=by
 have e:C7 os W i={ob os i with purple:=false}:=by unfold C7;rw [if_neg (by rw [h];decide)]
 unfold FF
 rw [e]
 split
 ·exact ⟨rfl,rfl,rfl,rfl,rfl,rfl⟩
 ·exact ⟨rfl,rfl,rfl,rfl,rfl,rfl⟩
structure vG (os os':List AU):Prop where
 len:os'.length=8
 lv: ∀k,k<8→((ob os' k).live=true↔Rch os k)
 rch: ∀k,Rch os k→Rch os' k
 sm: ∀k,k<8→Rch os k→(ob os' k).gen=(ob os k).gen∧(ob os' k).site=(ob os k).site∧(ob os' k).holds=(ob os k).holds∧(ob os' k).roots=(ob os k).roots∧(ob os' k).field=(ob os k).field
 gn: ∀k,k<8→(ob os' k).gen=(ob os k).gen
end
end Go.Proofs.Ytklmcfpgdfibnaa.P
