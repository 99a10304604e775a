/- A part of the proof. -/
import Derived.Test.YtklmcfpgdfibnaaLkWayA
namespace Go.Proofs.Ytklmcfpgdfibnaa.P
open Go Go.Proofs.Ytklmcfpgdfibnaa Go.Proofs.Ytklmcfpgdfibnaa.Eng
set_option linter.unusedVariables false
set_option maxHeartbeats 4000000
set_option linter.unusedVariables false
set_option linter.unusedSimpArgs false
attribute [local irreducible] prP gP gE gF A6 ixW ldc ldg ldl stc stg scW mkW apW BD cl2 BP C3 B9
variable {w0:World}
theorem L8.snoc {os:List AG} {ids:List Int} {q:Que} {j:Nat} {l:List Nat} (h:L8 os ids q j l): ∃p,l=p++[j]:=by
 cases h with
 | one a b c=>exact ⟨[],rfl⟩
 | more h a b c d=>exact ⟨_,rfl⟩
theorem L8.inv {os:List AG} {ids:List Int} {q:Que} {j:Nat} {p:List Nat} (h:L8 os ids q j (p++[j])):(p=[]∧pQ q j= -1)∨ ∃i p',p=p'++[i]∧L8 os ids q i (p'++[i])∧i<j∧pQ q j=gQ q i:=by
 generalize hl:p++[j]=l at h
 cases h with
 | one a b c=>
   cases p with
   | nil=>exact .inl ⟨rfl,b⟩
   | cons x p=>simp at hl
 | more h a b c d=>
   rename_i i l
   obtain ⟨e,_⟩:=List.append_inj' hl rfl
   subst e
   obtain ⟨p',rfl⟩:=h.snoc
   exact .inr ⟨i,p',rfl,h,a,c⟩
theorem L8.len {os:List AG} {ids:List Int} {q:Que} {j:Nat} {l:List Nat} (h:L8 os ids q j l):l.length≤j+1:=by
 induction h with
 | one a b c=>simp
 | more h a b c d ih=>simp;omega
def idO (os:List AG) (s:Int):Int:=B6 s (ob os s.toNat).gen
def qC (q:Que) (F:List Int):Prop:=F.length=q.length∧ ∀j,j<q.length→(gI F j=0∧pQ q j= -1)∨ ∃m,m<j∧gI F j=(m:Int)+1∧pQ q j=gQ q m
theorem sD {l:List Int} {x:Int} {i:Nat}:gI (l++[x]) i=if i<l.length then gI l i else if i=l.length then x else 0:=by
 unfold gI
 split
 ·rename_i h;rw [List.getD_eq_getElem?_getD,List.getElem?_append_left h,List.getD_eq_getElem?_getD]
 ·rename_i h
  split
  ·rename_i h2;subst h2;simp
  ·rw [List.getD_eq_getElem?_getD,List.getElem?_eq_none (by simp;omega)];rfl
theorem qC.snoc {q:Que} {F:List Int} {m:Nat} {s:Int} (h:qC q F) (hm:m<q.length):qC (q++[(s,gQ q m)]) (F++[(m:Int)+1]):=by
 obtain ⟨h1,h2⟩:=h
 refine ⟨by simp [h1],fun j hj=> ?_⟩
 rw [List.length_append,List.length_singleton] at hj
 rw [sD]
 rcases Nat.lt_or_ge j q.length with hl | hl
 ·rw [if_pos (by omega),m4 hl]
  rcases h2 j hl with h | ⟨i,a,b,c⟩
  ·exact .inl h
  ·exact .inr ⟨i,a,b,by rw [PF (by omega)];exact c⟩
 ·have:j=q.length:=by omega
  subst this
  rw [if_neg (by omega),if_pos h1.symm,jN]
  exact .inr ⟨m,hm,rfl,by rw [PF hm]⟩
theorem QB.start (os:List AG) (ids:List Int):QB os (-1) (EN os (-1) ids):=by
 have:=RV (os:=os) (b:= -1) (ids:=ids) ids.length (Nat.le_refl _)
 rwa [List.take_length,VS] at this
end Go.Proofs.Ytklmcfpgdfibnaa.P
namespace Go.Proofs.Ytklmcfpgdfibnaa.P
open Go Go.Proofs.Ytklmcfpgdfibnaa Go.Proofs.Ytklmcfpgdfibnaa.Eng
set_option linter.unusedVariables false
set_option maxHeartbeats 4000000
set_option linter.unusedVariables false
set_option linter.unusedSimpArgs false
attribute [local irreducible] prP gP gE gF A6 ixW ldc ldg ldl stc stg scW mkW apW BD cl2 BP C3 B9
variable {w0:World}
end Go.Proofs.Ytklmcfpgdfibnaa.P
namespace Go.Proofs.Ytklmcfpgdfibnaa.P
open Go Go.Proofs.Ytklmcfpgdfibnaa Go.Proofs.Ytklmcfpgdfibnaa.Eng
set_option linter.unusedVariables false
set_option maxHeartbeats 4000000
set_option linter.unusedVariables false
set_option linter.unusedSimpArgs false
attribute [local irreducible] prP gP gE gF A6 ixW ldc ldg ldl stc stg scW mkW apW BD cl2 BP C3 B9
variable {w0:World}
theorem mJ {α:Type} [DecidableEq α] {a b:List α} (hn:a.Nodup) (hs: ∀x∈a,x∈b):a.length≤b.length:=by
 induction a generalizing b with
 | nil=>simp
 | cons x a ih=>
   have h1:=List.nodup_cons.1 hn
   have hx:=hs x (by simp)
   have:=ih (b:=b.erase x) h1.2 fun y hy=>(List.mem_erase_of_ne (fun he=>by subst he;exact h1.1 hy)).2 (hs y (by simp [hy]))
   rw [List.length_erase_of_mem hx] at this
   have:=List.length_pos_of_mem hx
   simp only [List.length_cons]
   omega
structure Ag (os:List AG) (id:Int) (w:List Int):Prop where
 pos:0<w.length
 le:w.length≤8
 last:gI w (w.length-1)=id
 first:gI w 0∈exts os
 next: ∀i,i+1<w.length→ ∃k:Nat,k<8∧AB os (gI w i)=(k:Int)∧gI w (i+1)∈(ob os k).field
 nd: ∀i,i<w.length→gI w i∉w.take i
 live:w.length≤(B2 os).length
 sm: ∀v∈w,8≤v∧v≤7999
end Go.Proofs.Ytklmcfpgdfibnaa.P
namespace Go.Proofs.Ytklmcfpgdfibnaa.P
open Go Go.Proofs.Ytklmcfpgdfibnaa Go.Proofs.Ytklmcfpgdfibnaa.Eng
set_option linter.unusedVariables false
inductive cO (os:List AG):Nat→Prop
 | mk {k:Nat}:k<8→(ob os k).live=true→(ob os k).holds+(ob os k).roots=0→(∀j,j<8→(ob os j).live=true→B6 k (ob os k).gen∈(ob os j).field→cO os j)→cO os k
def U0 (os0 os:List AG):Prop:= ∀i,i<8→(ob os0 i).live=true→(ob os i).live=false→cO os0 i
def xL (os:List AG) (i:Nat):Prop:=0<(ob os i).holds+(ob os i).roots∨ ∃j,j<8∧(ob os j).live=true∧B6 i (ob os i).gen∈(ob os j).field
theorem U0.refl (os:List AG):U0 os os:=fun i _ h1 h2=>by rw [h1] at h2;cases h2
def XL (a b:List AG):Prop:= ∀i,i<8→(ob a i).live=(ob b i).live∧(ob a i).gen=(ob b i).gen∧(ob a i).holds=(ob b i).holds∧(ob a i).roots=(ob b i).roots∧(ob a i).field=(ob b i).field
theorem XL.symm {a b:List AG} (h:XL a b):XL b a:=fun i hi=>let ⟨h1,h2,h3,h4,h5⟩:=h i hi;⟨h1.symm,h2.symm,h3.symm,h4.symm,h5.symm⟩
theorem XL.dead {a b:List AG} (h:XL a b) {k:Nat} (hd:cO a k):cO b k:=by
 induction hd with
 | mk k8 kv k0 hj ih=>
   obtain ⟨h1,h2,h3,h4,h5⟩:=h _ k8
   refine .mk k8 (by rw [←h1];exact kv) (by omega) fun j j8 jv jm=> ?_
   obtain ⟨g1,g2,g3,g4,g5⟩:=h j j8
   exact ih j j8 (by rw [g1];exact jv) (by rw [h2,g5];exact jm)
theorem XL.slot {a b:List AG} (h:XL a b) (ha:a.length=8) (hb:b.length=8) (x:Int):AB a x=AB b x:=EH (by omega) fun i hi=>⟨(h i (by omega)).1,(h i (by omega)).2.1⟩
theorem rC {l:List Nat} (h:0<l.sum): ∃x∈l,0<x:=by
 induction l with
 | nil=>simp at h
 | cons a l ih=>
   rw [List.sum_cons] at h
   by_cases ha:0<a
   ·exact ⟨a,by simp,ha⟩
   ·obtain ⟨x,hx,h0⟩:=ih (by omega)
    exact ⟨x,by simp [hx],h0⟩
theorem lD {os:List AG} {id:Int} (h:0<CI os id): ∃j,j<os.length∧(ob os j).live=true∧id∈(ob os j).field:=by
 unfold CI at h
 obtain ⟨x,hx,h0⟩:=rC h
 obtain ⟨o,ho,rfl⟩:=List.mem_map.1 hx
 obtain ⟨j,hj,rfl⟩:=List.getElem_of_mem ho
 rw [DL hj] at h0
 cases hv:(ob os j).live with
 | false=>rw [NO hv] at h0;omega
 | true=>
   rw [H8 hv] at h0
   exact ⟨j,hj,hv,List.count_pos_iff.1 h0⟩
theorem HP.held {os:List AG} {ns:Nat} {buf:List Int} (h:HP os ns buf []) {i:Nat} (hi:i<8) (hv:(ob os i).live=true):xL os i:=by
 obtain ⟨_,_,a,b,c,d,_⟩:=(h.obj i hi).lv hv
 rw [List.count_nil] at c
 by_cases h0:0<(ob os i).holds+(ob os i).roots
 ·exact .inl h0
 ·obtain ⟨j,hj,jv,jm⟩:=lD (os:=os) (id:=B6 i (ob os i).gen) (by omega)
  exact .inr ⟨j,by have:=h.ol;omega,jv,jm⟩
theorem U0.dec {os0 os:List AG} {k:Nat} {v:AG} (h:U0 os0 os) (hk:k<os.length) (v1:v.live=true):U0 os0 (os.set k v):=fun i hi h0 hv=>by
 rw [DV hk] at hv
 split at hv
 ·rw [v1] at hv;cases hv
 ·exact h i hi h0 hv
theorem U0.free {os0 os:List AG} {freed:List Int} {k:Nat} {v:AG} (R:ML os0 os freed) (h:U0 os0 os) (k8:k<8) (kv:(ob os k).live=true) (k0:(ob os k).holds+(ob os k).roots=0) (ke: ∀j,j<8→(ob os j).live=true→B6 k (ob os k).gen∉(ob os j).field):U0 os0 (os.set k v):=fun i hi h0 hv=>by
 rw [DV (by have:=R.len;omega)] at hv
 by_cases e:i=k
 ·subst e
  obtain ⟨_,_,s3,s4,_⟩:=R.sm i hi kv
  refine .mk hi h0 (by omega) fun j j8 jv jm=> ?_
  cases hv':(ob os j).live with
  | false=>exact h j j8 jv hv'
  | true=>
    obtain ⟨_,_,_,_,t5⟩:=R.sm j j8 hv'
    rw [←R.gn i hi, ←t5] at jm
    exact absurd jm (ke j j8 hv')
 ·rw [if_neg e] at hv
  exact h i hi h0 hv
structure qQ (l:List Int) (i k:Nat) (q:List Int):Prop where
 pm:q.Perm l
 ki:k≤i
 so: ∀a b,a<b→b≤i→b<q.length→a≠k→b≠k→gI q a≤gI q b
 hd: ∀b,k<b→b≤i→b<q.length→gI q k≤gI q b
def upI (i:Nat) (q:List Int):Prop:= ∀a b,a<b→b<i→b<q.length→gI q a≤gI q b
theorem qQ.done {l q:List Int} {i k:Nat} (h:qQ l i k q) (he:k=0∨gI q (k-1)≤gI q k):upI (i+1) q:=fun a b hab hb hl=>by
 by_cases e1:a=k
 ·subst e1;exact h.hd b hab (by omega) hl
 ·by_cases e2:b=k
  ·subst e2
   rcases he with he | he
   ·omega
   ·by_cases e3:a=b-1
    ·rw [e3];exact he
    ·have:=h.so a (b-1) (by omega) (by omega) (by omega) e1 (by omega);omega
  ·exact h.so a b hab (by omega) hl e1 e2
theorem qQ.start {l q:List Int} {i:Nat} (hp:q.Perm l) (hu:upI i q):qQ l i i q:=⟨hp,Nat.le_refl _,fun a b hab hb hl _ hb'=>hu a b hab (by omega) hl,fun b hb hbi _=>by omega⟩
end Go.Proofs.Ytklmcfpgdfibnaa.P
