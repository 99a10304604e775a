/- A part of the proof. -/
import Derived.Test.YtklmcfpgdfibnaaGgWayA
namespace Go.Proofs.Ytklmcfpgdfibnaa.P
open Go Go.Proofs.Ytklmcfpgdfibnaa Go.Proofs.Ytklmcfpgdfibnaa.Eng
set_option linter.unusedVariables false
set_option maxHeartbeats 4000000
set_option linter.unusedVariables false
set_option linter.unusedSimpArgs false
attribute [local irreducible] prP gP gE gF AV ixW ldc ldg ldl stc stg scW mkW apW BC cl2 BS CU B1
variable {w0:World}
theorem LD.snoc {os:List AG} {ids:List Int} {q:Que} {j:Nat} {l:List Nat} (h:LD os ids q j l): ∃p,l=p++[j]:=by
 cases h with
 | one a b c=>exact ⟨[],rfl⟩
 | more h a b c d=>exact ⟨_,rfl⟩
theorem LD.inv {os:List AG} {ids:List Int} {q:Que} {j:Nat} {p:List Nat} (h:LD os ids q j (p++[j])):(p=[]∧pQ q j= -1)∨ ∃i p',p=p'++[i]∧LD os ids q i (p'++[i])∧i<j∧pQ q j=gQ q i:=by
 generalize hl:p++[j]=l at h
 cases h with
 | one a b c=>
   cases p with
   | nil=>exact .inl ⟨rfl,b⟩
   | cons x p=>simp at hl
 | more h a b c d=>
   rename_i i l
   obtain ⟨e,_⟩:=List.append_inj' hl rfl
   subst e
   obtain ⟨p',rfl⟩:=h.snoc
   exact .inr ⟨i,p',rfl,h,a,c⟩
theorem LD.len {os:List AG} {ids:List Int} {q:Que} {j:Nat} {l:List Nat} (h:LD os ids q j l):l.length≤j+1:=by
 induction h with
 | one a b c=>simp
 | more h a b c d ih=>simp;omega
def idO (os:List AG) (s:Int):Int:=CA s (ob os s.toNat).gen
def m3 (q:Que) (F:List Int):Prop:=F.length=q.length∧ ∀j,j<q.length→(gI F j=0∧pQ q j= -1)∨ ∃m,m<j∧gI F j=(m:Int)+1∧pQ q j=gQ q m
theorem pN {l:List Int} {x:Int} {i:Nat}:gI (l++[x]) i=if i<l.length then gI l i else if i=l.length then x else 0:=by
 unfold gI
 split
 ·rename_i h;rw [List.getD_eq_getElem?_getD,List.getElem?_append_left h,List.getD_eq_getElem?_getD]
 ·rename_i h
  split
  ·rename_i h2;subst h2;simp
  ·rw [List.getD_eq_getElem?_getD,List.getElem?_eq_none (by simp;omega)];rfl
theorem m3.snoc {q:Que} {F:List Int} {m:Nat} {s:Int} (h:m3 q F) (hm:m<q.length):m3 (q++[(s,gQ q m)]) (F++[(m:Int)+1]):=by
 obtain ⟨h1,h2⟩:=h
 refine ⟨by simp [h1],fun j hj=> ?_⟩
 rw [List.length_append,List.length_singleton] at hj
 rw [pN]
 rcases Nat.lt_or_ge j q.length with hl | hl
 ·rw [if_pos (by omega),mA hl]
  rcases h2 j hl with h | ⟨i,a,b,c⟩
  ·exact .inl h
  ·exact .inr ⟨i,a,b,by rw [O5 (by omega)];exact c⟩
 ·have:j=q.length:=by omega
  subst this
  rw [if_neg (by omega),if_pos h1.symm,fT]
  exact .inr ⟨m,hm,rfl,by rw [O5 hm]⟩
theorem QB.start (os:List AG) (ids:List Int):QB os (-1) (D8 os (-1) ids):=by
 have:=QN (os:=os) (b:= -1) (ids:=ids) ids.length (Nat.le_refl _)
 rwa [List.take_length,YY] at this
end Go.Proofs.Ytklmcfpgdfibnaa.P
namespace Go.Proofs.Ytklmcfpgdfibnaa.P
open Go Go.Proofs.Ytklmcfpgdfibnaa Go.Proofs.Ytklmcfpgdfibnaa.Eng
set_option linter.unusedVariables false
set_option maxHeartbeats 4000000
set_option linter.unusedVariables false
set_option linter.unusedSimpArgs false
attribute [local irreducible] prP gP gE gF AV ixW ldc ldg ldl stc stg scW mkW apW BC cl2 BS CU B1
variable {w0:World}
end Go.Proofs.Ytklmcfpgdfibnaa.P
namespace Go.Proofs.Ytklmcfpgdfibnaa.P
open Go Go.Proofs.Ytklmcfpgdfibnaa Go.Proofs.Ytklmcfpgdfibnaa.Eng
set_option linter.unusedVariables false
set_option maxHeartbeats 4000000
set_option linter.unusedVariables false
set_option linter.unusedSimpArgs false
attribute [local irreducible] prP gP gE gF AV ixW ldc ldg ldl stc stg scW mkW apW BC cl2 BS CU B1
variable {w0:World}
theorem kH {α:Type} [DecidableEq α] {a b:List α} (hn:a.Nodup) (hs: ∀x∈a,x∈b):a.length≤b.length:=by
 induction a generalizing b with
 | nil=>simp
 | cons x a ih=>
   have h1:=List.nodup_cons.1 hn
   have hx:=hs x (by simp)
   have:=ih (b:=b.erase x) h1.2 fun y hy=>(List.mem_erase_of_ne (fun he=>by subst he;exact h1.1 hy)).2 (hs y (by simp [hy]))
   rw [List.length_erase_of_mem hx] at this
   have:=List.length_pos_of_mem hx
   simp only [List.length_cons]
   omega
structure zD (os:List AG) (id:Int) (w:List Int):Prop where
 pos:0<w.length
 le:w.length≤8
 last:gI w (w.length-1)=id
 first:gI w 0∈exts os
 next: ∀i,i+1<w.length→ ∃k:Nat,k<8∧AA os (gI w i)=(k:Int)∧gI w (i+1)∈(ob os k).field
 nd: ∀i,i<w.length→gI w i∉w.take i
 live:w.length≤(CD os).length
 sm: ∀v∈w,8≤v∧v≤7999
end Go.Proofs.Ytklmcfpgdfibnaa.P
namespace Go.Proofs.Ytklmcfpgdfibnaa.P
open Go Go.Proofs.Ytklmcfpgdfibnaa Go.Proofs.Ytklmcfpgdfibnaa.Eng
set_option linter.unusedVariables false
inductive aI (os:List AG):Nat→Prop
 | mk {k:Nat}:k<8→(ob os k).live=true→(ob os k).holds+(ob os k).roots=0→(∀j,j<8→(ob os j).live=true→CA k (ob os k).gen∈(ob os j).field→aI os j)→aI os k
def TN (os0 os:List AG):Prop:= ∀i,i<8→(ob os0 i).live=true→(ob os i).live=false→aI os0 i
def w7 (os:List AG) (i:Nat):Prop:=0<(ob os i).holds+(ob os i).roots∨ ∃j,j<8∧(ob os j).live=true∧CA i (ob os i).gen∈(ob os j).field
theorem TN.refl (os:List AG):TN os os:=fun i _ h1 h2=>by rw [h1] at h2;cases h2
def VB (a b:List AG):Prop:= ∀i,i<8→(ob a i).live=(ob b i).live∧(ob a i).gen=(ob b i).gen∧(ob a i).holds=(ob b i).holds∧(ob a i).roots=(ob b i).roots∧(ob a i).field=(ob b i).field
theorem VB.symm {a b:List AG} (h:VB a b):VB b a:=fun i hi=>let ⟨h1,h2,h3,h4,h5⟩:=h i hi;⟨h1.symm,h2.symm,h3.symm,h4.symm,h5.symm⟩
theorem VB.dead {a b:List AG} (h:VB a b) {k:Nat} (hd:aI a k):aI b k:=by
 induction hd with
 | mk k8 kv k0 hj ih=>
   obtain ⟨h1,h2,h3,h4,h5⟩:=h _ k8
   refine .mk k8 (by rw [←h1];exact kv) (by omega) fun j j8 jv jm=> ?_
   obtain ⟨g1,g2,g3,g4,g5⟩:=h j j8
   exact ih j j8 (by rw [g1];exact jv) (by rw [h2,g5];exact jm)
theorem VB.slot {a b:List AG} (h:VB a b) (ha:a.length=8) (hb:b.length=8) (x:Int):AA a x=AA b x:=DZ (by omega) fun i hi=>⟨(h i (by omega)).1,(h i (by omega)).2.1⟩
theorem qL {l:List Nat} (h:0<l.sum): ∃x∈l,0<x:=by
 induction l with
 | nil=>simp at h
 | cons a l ih=>
   rw [List.sum_cons] at h
   by_cases ha:0<a
   ·exact ⟨a,by simp,ha⟩
   ·obtain ⟨x,hx,h0⟩:=ih (by omega)
    exact ⟨x,by simp [hx],h0⟩
theorem kE {os:List AG} {id:Int} (h:0<CE os id): ∃j,j<os.length∧(ob os j).live=true∧id∈(ob os j).field:=by
 unfold CE at h
 obtain ⟨x,hx,h0⟩:=qL h
 obtain ⟨o,ho,rfl⟩:=List.mem_map.1 hx
 obtain ⟨j,hj,rfl⟩:=List.getElem_of_mem ho
 rw [DB hj] at h0
 cases hv:(ob os j).live with
 | false=>rw [MW hv] at h0;omega
 | true=>
   rw [HW hv] at h0
   exact ⟨j,hj,hv,List.count_pos_iff.1 h0⟩
theorem HP.held {os:List AG} {ns:Nat} {buf:List Int} (h:HP os ns buf []) {i:Nat} (hi:i<8) (hv:(ob os i).live=true):w7 os i:=by
 obtain ⟨_,_,a,b,c,d,_⟩:=(h.obj i hi).lv hv
 rw [List.count_nil] at c
 by_cases h0:0<(ob os i).holds+(ob os i).roots
 ·exact .inl h0
 ·obtain ⟨j,hj,jv,jm⟩:=kE (os:=os) (id:=CA i (ob os i).gen) (by omega)
  exact .inr ⟨j,by have:=h.ol;omega,jv,jm⟩
theorem TN.dec {os0 os:List AG} {k:Nat} {v:AG} (h:TN os0 os) (hk:k<os.length) (v1:v.live=true):TN os0 (os.set k v):=fun i hi h0 hv=>by
 rw [DO hk] at hv
 split at hv
 ·rw [v1] at hv;cases hv
 ·exact h i hi h0 hv
theorem TN.free {os0 os:List AG} {freed:List Int} {k:Nat} {v:AG} (R:LN os0 os freed) (h:TN os0 os) (k8:k<8) (kv:(ob os k).live=true) (k0:(ob os k).holds+(ob os k).roots=0) (ke: ∀j,j<8→(ob os j).live=true→CA k (ob os k).gen∉(ob os j).field):TN os0 (os.set k v):=fun i hi h0 hv=>by
 rw [DO (by have:=R.len;omega)] at hv
 by_cases e:i=k
 ·subst e
  obtain ⟨_,_,s3,s4,_⟩:=R.sm i hi kv
  refine .mk hi h0 (by omega) fun j j8 jv jm=> ?_
  cases hv':(ob os j).live with
  | false=>exact h j j8 jv hv'
  | true=>
    obtain ⟨_,_,_,_,t5⟩:=R.sm j j8 hv'
    rw [←R.gn i hi, ←t5] at jm
    exact absurd jm (ke j j8 hv')
 ·rw [if_neg e] at hv
  exact h i hi h0 hv
theorem jW {a b:List Int} (h:a.Perm b) (ha:a.Pairwise (· ≤ ·)) (hb:b.Pairwise (· ≤ ·)):a=b:=by
 induction a generalizing b with
 | nil=>exact h.nil_eq
 | cons x a ih=>
   cases b with
   | nil=>exact absurd h.length_eq (by simp)
   | cons y b=>
     have hx:=List.pairwise_cons.1 ha
     have hy:=List.pairwise_cons.1 hb
     have e:x=y:=by
      have h1:x∈y::b:=h.subset (by simp)
      have h2:y∈x::a:=h.symm.subset (by simp)
      rcases List.mem_cons.1 h1 with h1 | h1
      ·exact h1
      ·rcases List.mem_cons.1 h2 with h2 | h2
       ·exact h2.symm
       ·have:=hx.1 y h2;have:=hy.1 x h1;omega
     subst e
     rw [ih ((List.perm_cons x).1 h) hx.2 hy.2]
structure ZM (l:List Int) (i k:Nat) (q:List Int):Prop where
 pm:q.Perm l
 ki:k≤i
 so: ∀a b,a<b→b≤i→b<q.length→a≠k→b≠k→gI q a≤gI q b
 hd: ∀b,k<b→b≤i→b<q.length→gI q k≤gI q b
def upI (i:Nat) (q:List Int):Prop:= ∀a b,a<b→b<i→b<q.length→gI q a≤gI q b
def swp (q:List Int) (k:Nat):List Int:=(q.set k (gI q (k-1))).set (k-1) (gI q k)
theorem iV (q:List Int) (k:Nat):(swp q k).length=q.length:=by simp [swp]
theorem YV {q:List Int} {k i:Nat} (hk:k<q.length) (h1:1≤k):gI (swp q k) i=if i=k-1 then gI q k else if i=k then gI q (k-1) else gI q i:=by
 unfold swp
 rw [EO (by simp;omega),EO hk]
theorem nY {q:List Int} {k:Nat} (hk:k<q.length) (h1:1≤k):(swp q k).Perm q:=by
 have e:q=q.take (k-1)++(gI q (k-1)::gI q k::q.drop (k+1)):=by
  have a1:q.drop (k-1)=gI q (k-1)::q.drop k:=by
   rw [List.drop_eq_getElem_cons (by omega),CN (by omega),show k-1+1=k from by omega]
  have a2:q.drop k=gI q k::q.drop (k+1):=by rw [List.drop_eq_getElem_cons hk,CN hk]
  rw [←a2, ←a1,List.take_append_drop]
 have e2:swp q k=q.take (k-1)++(gI q k::gI q (k-1)::q.drop (k+1)):=by
  refine List.ext_getElem? fun i=> ?_
  have lt:(q.take (k-1)).length=k-1:=by rw [List.length_take];omega
  unfold swp
  by_cases h3:i<k-1
  ·rw [List.getElem?_set_ne (by omega),List.getElem?_set_ne (by omega),List.getElem?_append_left (by omega),List.getElem?_take_of_lt h3]
  ·rw [List.getElem?_append_right (by omega),lt]
   by_cases h4:i=k-1
   ·subst h4;rw [List.getElem?_set_self (by simp;omega)];simp
   ·rw [List.getElem?_set_ne (by omega)]
    by_cases h5:i=k
    ·subst h5;rw [List.getElem?_set_self hk,show i-(i-1)=1 from by omega];simp
    ·rw [List.getElem?_set_ne (by omega),show i-(k-1)=(i-(k+1))+2 from by omega]
     simp only [List.getElem?_cons_succ,List.getElem?_drop]
     congr 1;omega
 rw [e2]
 conv=>rhs;rw [e]
 exact List.Perm.append_left _ (List.Perm.swap _ _ _)
theorem ZM.swap {l q:List Int} {i k:Nat} (h:ZM l i k q) (hi:i<q.length) (h1:1≤k) (hlt:gI q k<gI q (k-1)):ZM l i (k-1) (swp q k):=by
 have hk:k<q.length:=by have:=h.ki;omega
 refine ⟨(nY hk h1).trans h.pm,by have:=h.ki;omega,fun a b hab hb hl ha hb'=> ?_,fun b hb hbi hl=> ?_⟩
 ·rw [iV] at hl
  rw [YV hk h1,YV hk h1,if_neg ha,if_neg hb']
  by_cases e1:a=k
  ·rw [if_pos e1,if_neg (by omega)]
   exact h.so (k-1) b (by omega) hb hl (by omega) (by omega)
  ·rw [if_neg e1]
   by_cases e2:b=k
   ·rw [if_pos e2]
    exact h.so a (k-1) (by omega) (by omega) (by omega) e1 (by omega)
   ·rw [if_neg e2]
    exact h.so a b hab hb hl e1 e2
 ·rw [iV] at hl
  rw [YV hk h1,YV hk h1,if_pos rfl,if_neg (by omega)]
  by_cases e2:b=k
  ·rw [if_pos e2];omega
  ·rw [if_neg e2];exact h.hd b (by omega) hbi hl
theorem ZM.done {l q:List Int} {i k:Nat} (h:ZM l i k q) (he:k=0∨gI q (k-1)≤gI q k):upI (i+1) q:=fun a b hab hb hl=>by
 by_cases e1:a=k
 ·subst e1;exact h.hd b hab (by omega) hl
 ·by_cases e2:b=k
  ·subst e2
   rcases he with he | he
   ·omega
   ·by_cases e3:a=b-1
    ·rw [e3];exact he
    ·have:=h.so a (b-1) (by omega) (by omega) (by omega) e1 (by omega);omega
  ·exact h.so a b hab (by omega) hl e1 e2
theorem ZM.start {l q:List Int} {i:Nat} (hp:q.Perm l) (hu:upI i q):ZM l i i q:=⟨hp,Nat.le_refl _,fun a b hab hb hl _ hb'=>hu a b hab (by omega) hl,fun b hb hbi _=>by omega⟩
theorem kL {q:List Int} (h:upI q.length q):q.Pairwise (· ≤ ·):=by
 refine List.pairwise_iff_getElem.2 fun a b ha hb hab=> ?_
 rw [CN ha,CN hb]
 exact h a b hab hb hb
end Go.Proofs.Ytklmcfpgdfibnaa.P
