/- A part of the proof. -/
import Derived.Test.YtklmcfpgdfibnaaReWayA
namespace Go.Proofs.Ytklmcfpgdfibnaa.P
open Go Go.Proofs.Ytklmcfpgdfibnaa Go.Proofs.Ytklmcfpgdfibnaa.Eng
set_option linter.unusedVariables false
set_option maxHeartbeats 4000000
set_option linter.unusedVariables false
set_option linter.unusedSimpArgs false
attribute [local irreducible] prP gP gE gF AY ixW ldc ldg ldl stc stg scW mkW apW BD cl2 BQ CZ B9
variable {w0:World}
theorem LP.snoc {os:List AG} {ids:List Int} {q:Que} {j:Nat} {l:List Nat} (h:LP os ids q j l): ∃p,l=p++[j]:=by
 cases h with
 | one a b c=>exact ⟨[],rfl⟩
 | more h a b c d=>exact ⟨_,rfl⟩
theorem LP.inv {os:List AG} {ids:List Int} {q:Que} {j:Nat} {p:List Nat} (h:LP os ids q j (p++[j])):(p=[]∧pQ q j= -1)∨ ∃i p',p=p'++[i]∧LP os ids q i (p'++[i])∧i<j∧pQ q j=gQ q i:=by
 generalize hl:p++[j]=l at h
 cases h with
 | one a b c=>
   cases p with
   | nil=>exact .inl ⟨rfl,b⟩
   | cons x p=>simp at hl
 | more h a b c d=>
   rename_i i l
   obtain ⟨e,_⟩:=List.append_inj' hl rfl
   subst e
   obtain ⟨p',rfl⟩:=h.snoc
   exact .inr ⟨i,p',rfl,h,a,c⟩
theorem LP.len {os:List AG} {ids:List Int} {q:Que} {j:Nat} {l:List Nat} (h:LP os ids q j l):l.length≤j+1:=by
 induction h with
 | one a b c=>simp
 | more h a b c d ih=>simp;omega
def pP (q:Que) (F:List Int):Prop:=F.length=q.length∧ ∀j,j<q.length→(gI F j=0∧pQ q j= -1)∨ ∃m,m<j∧gI F j=(m:Int)+1∧pQ q j=gQ q m
theorem sT {l:List Int} {x:Int} {i:Nat}:gI (l++[x]) i=if i<l.length then gI l i else if i=l.length then x else 0:=by
 unfold gI
 split
 ·rename_i h;rw [List.getD_eq_getElem?_getD,List.getElem?_append_left h,List.getD_eq_getElem?_getD]
 ·rename_i h
  split
  ·rename_i h2;subst h2;simp
  ·rw [List.getD_eq_getElem?_getD,List.getElem?_eq_none (by simp;omega)];rfl
theorem pP.snoc {q:Que} {F:List Int} {m:Nat} {s:Int} (h:pP q F) (hm:m<q.length):pP (q++[(s,gQ q m)]) (F++[(m:Int)+1]):=by
 obtain ⟨h1,h2⟩:=h
 refine ⟨by simp [h1],fun j hj=> ?_⟩
 rw [List.length_append,List.length_singleton] at hj
 rw [sT]
 rcases Nat.lt_or_ge j q.length with hl | hl
 ·rw [if_pos (by omega),pL hl]
  rcases h2 j hl with h | ⟨i,a,b,c⟩
  ·exact .inl h
  ·exact .inr ⟨i,a,b,by rw [OY (by omega)];exact c⟩
 ·have:j=q.length:=by omega
  subst this
  rw [if_neg (by omega),if_pos h1.symm,jO]
  exact .inr ⟨m,hm,rfl,by rw [OY hm]⟩
theorem sJ {x:Hp} (hk:BW x): ∀i,i<8→(ob x.AD i).live=true→1≤(ob x.AD i).gen∧(ob x.AD i).gen≤999:=fun i hi hv=>⟨((hk.hp.obj i hi).lv hv).1,(hk.hp.obj i hi).gen.2⟩
theorem QB.start (os:List AG) (ids:List Int):QB os (-1) (D4 os (-1) ids):=by
 have:=RL (os:=os) (b:= -1) (ids:=ids) ids.length (Nat.le_refl _)
 rwa [List.take_length,U3] at this
end Go.Proofs.Ytklmcfpgdfibnaa.P
