/- A part of the proof. -/
import Derived.Test.YtklmcfpgdfibnaaLeGrC
import Derived.Test.YtklmcfpgdfibnaaLeRetA
namespace Go.Proofs.Ytklmcfpgdfibnaa.P
open Go Go.Proofs.Ytklmcfpgdfibnaa Go.Proofs.Ytklmcfpgdfibnaa.Eng
set_option linter.unusedVariables false
def pQ (q:Que) (i:Nat):Int:=(q.getD i (0,0)).2
theorem y7 {q:Que} {i:Nat} (h:i<q.length):(q[i]).2=pQ q i:=by simp [pQ,h]
theorem mY {q r:Que} {i:Nat} (h:i<q.length):pQ (q++r) i=pQ q i:=by
 unfold pQ;rw [List.getD_eq_getElem?_getD,List.getElem?_append_left h,List.getD_eq_getElem?_getD]
theorem sI {q:Que} {e:Int×Int}:gQ (q++[e]) q.length=e.1:=by simp [gQ]
theorem iX {q:Que} {e:Int×Int}:pQ (q++[e]) q.length=e.2:=by simp [pQ]
theorem wG {q:Que} (h:(q.map (·.1)).Nodup) {i j:Nat} (hi:i<q.length) (hj:j<q.length) (e:gQ q i=gQ q j):i=j:=by
 have hi':i<(q.map (·.1)).length:=by simpa using hi
 have hj':j<(q.map (·.1)).length:=by simpa using hj
 rw [←XT hi, ←XT hj] at e
 exact (List.getElem_inj h (h₀:=hi') (h₁:=hj')).1 (by simpa using e)
structure QP (os:List AE) (ids:List Int) (q:Que):Prop where
 qi:QI os (-1) q
 par: ∀j,j<q.length→(pQ q j= -1∧ ∃x∈ids,AA os x=gQ q j)∨ ∃i,i<j∧pQ q j=gQ q i∧gQ q j∈BE os (gQ q i).toNat
theorem QP.nil (os:List AE) (ids:List Int):QP os ids []:=⟨QI.nil _ _,fun j h=>by simp at h⟩
theorem QP.add {os:List AE} {ids:List Int} {q:Que} {p s:Int} (h:QP os ids q) (hs:0≤s→s.toNat<8∧(ob os s.toNat).live=true) (hp:(p= -1∧ ∃x∈ids,AA os x=s)∨ ∃i,i<q.length∧p=gQ q i∧s∈BE os (gQ q i).toNat):QP os ids (L6 (-1) q p s):=by
 refine ⟨h.qi.add hs, ?_⟩
 unfold L6
 split
 ·exact h.par
 ·intro j hj
  rw [List.length_append] at hj
  simp only [List.length_cons,List.length_nil] at hj
  rcases Nat.lt_or_ge j q.length with hl | hl
  ·rw [mY hl,OS hl]
   rcases h.par j hl with h | ⟨i,a,b,c⟩
   ·exact .inl h
   ·exact .inr ⟨i,a,by rw [OS (by omega)];exact b,by rw [OS (by omega)];exact c⟩
  ·have:j=q.length:=by omega
   subst this
   rw [sI,iX]
   rcases hp with h | ⟨i,a,b,c⟩
   ·exact .inl h
   ·exact .inr ⟨i,a,by rw [OS a];exact b,by rw [OS a];exact c⟩
theorem QP.start {os:List AE} {ids:List Int}: ∀i,i≤ids.length→QP os ids (II os (-1) (ids.take i))
 | 0,_=>by simp [II];exact QP.nil _ _
 | i+1,hi=>by
   unfold II
   rw [QK (by omega)]
   exact (QP.start i (by omega)).add (fun h0=>ZD h0) (.inl ⟨rfl,_,ER (by omega),rfl⟩)
theorem QP.kids {os:List AE} {ids:List Int} {q:Que} {m:Nat} (h:QP os ids q) (hm:m<q.length) {l:List Int} (hl: ∀t∈l,t∈BE os (gQ q m).toNat): ∀i,i≤l.length→QP os ids ((l.take i).foldl (fun q' t=>L6 (-1) q' (gQ q m) t) q)∧MZ q ((l.take i).foldl (fun q' t=>L6 (-1) q' (gQ q m) t) q)
 | 0,_=>⟨by simpa using h,by simp;exact .refl q⟩
 | i+1,hi=>by
   rw [QK (by omega)]
   obtain ⟨a,b⟩:=QP.kids h hm hl i (by omega)
   have hk:=hl _ (ER (l:=l) (i:=i) (by omega))
   refine ⟨a.add (fun _=>⟨(B5 hk).2.1,(B5 hk).2.2.2.2⟩) (.inr ⟨m,by have:=b.len;omega,(b.gq hm).symm,by rw [b.gq hm];exact hk⟩),b.trans .add⟩
theorem QP.step {os:List AE} {ids:List Int} {q:Que} {m:Nat} (h:QP os ids q) (hm:m<q.length):QP os ids (U8 os (-1) q (gQ q m)):=by
 have:=(QP.kids h hm (l:=BE os (gQ q m).toNat) (fun _ h=>h) _ (Nat.le_refl _)).1
 rwa [List.take_length] at this
theorem QP.run {os:List AE} {ids:List Int}: ∀(f i:Nat) (q:Que),QP os ids q→QP os ids (U6 os (-1) f i q)∧MZ q (U6 os (-1) f i q)
 | 0,i,q,h=>⟨h, .refl q⟩
 | f+1,i,q,h=>by
   simp only [U6]
   split
   ·rename_i hi
    obtain ⟨a,b⟩:=QP.run f (i+1) _ (h.step hi)
    exact ⟨a,(VM (gQ q i) h.qi).2.1.trans b⟩
   ·exact ⟨h, .refl q⟩
inductive KV (os:List AE) (ids:List Int) (q:Que):Nat→List Nat→Prop
 | one {j:Nat}:j<q.length→pQ q j= -1→(∃x∈ids,AA os x=gQ q j)→KV os ids q j [j]
 | more {i j:Nat} {l:List Nat}:KV os ids q i l→i<j→j<q.length→pQ q j=gQ q i→gQ q j∈BE os (gQ q i).toNat→KV os ids q j (l++[j])
theorem QP.way {os:List AE} {ids:List Int} {q:Que} (h:QP os ids q): ∀n j,j<n→j<q.length→ ∃l,KV os ids q j l
 | 0,j,hn,_=>by omega
 | n+1,j,hn,hj=>by
   rcases h.par j hj with ⟨a,b⟩ | ⟨i,a,b,c⟩
   ·exact ⟨_, .one hj a b⟩
   ·obtain ⟨l,hl⟩:=h.way n i (by omega) (by omega)
    exact ⟨_, .more hl a hj b c⟩
theorem KV.lt {os:List AE} {ids:List Int} {q:Que} {j:Nat} {l:List Nat} (h:KV os ids q j l):j<q.length:=by cases h <;> assumption
def VE (q:Que):Nat→Int→List Int
 | 0,_=>[]
 | f+1,s=>if s<0 then [] else VE q f (frQ q s.toNat)++[s]
theorem nO {q:Que} {j:Nat} {but:Int} {os:List AE} (h:QI os but q) (hj:j<q.length):frQ q (gQ q j).toNat=pQ q j:=by
 obtain ⟨k,ek,_⟩:=h.lv _ (iI hj)
 rw [ek,Int.toNat_natCast]
 unfold frQ
 have hf:q.find? (fun e=>decide (e.1=(k:Int)))=some q[j]:=by
  rw [List.find?_eq_some_iff_getElem]
  refine ⟨by rw [XT hj];exact decide_eq_true ek,j,hj,rfl,fun i hi=> ?_⟩
  rw [XT (by omega)]
  have: ¬gQ q i=(k:Int):=fun he=>by
   have:=wG h.nd (i:=i) (j:=j) (by omega) hj (by rw [he,ek])
   omega
  simp [this]
 rw [hf]
 simp [y7 hj]
theorem KV.chain {os:List AE} {ids:List Int} {q:Que} (hq:QI os (-1) q) {j:Nat} {l:List Nat} (h:KV os ids q j l): ∀f,j<f→VE q f (gQ q j)=l.map (gQ q):=by
 induction h with
 | one a b c=>
   intro f hf
   obtain ⟨f,rfl⟩: ∃m,f=m+1:=⟨f-1,by omega⟩
   obtain ⟨k,ek,_⟩:=hq.lv _ (iI a)
   rw [VE,if_neg (by omega),nO hq a,b]
   cases f with
   | zero=>rfl
   | succ f=>rw [VE,if_pos (by omega)];rfl
 | more h a b c d ih=>
   intro f hf
   obtain ⟨f,rfl⟩: ∃m,f=m+1:=⟨f-1,by omega⟩
   obtain ⟨k,ek,_⟩:=hq.lv _ (iI b)
   rw [VE,if_neg (by omega),nO hq b,c,ih f (by omega)]
   simp
theorem KV.le {os:List AE} {ids:List Int} {q:Que} {j:Nat} {l:List Nat} (h:KV os ids q j l):(∀i∈l,i≤j∧i<q.length)∧l.Pairwise (· < ·)∧l.getLast?=some j:=by
 induction h with
 | one a b c=>simp;exact a
 | more h a b c d ih=>
   rename_i i j l
   obtain ⟨h1,h2,h3⟩:=ih
   refine ⟨fun m hm=> ?_, ?_,by simp⟩
   ·rcases List.mem_append.1 hm with hm | hm
    ·have:=h1 m hm;omega
    ·rw [List.mem_singleton.1 hm];omega
   ·rw [List.pairwise_append]
    refine ⟨h2,by simp,fun m hm n hn=> ?_⟩
    rw [List.mem_singleton.1 hn]
    have:=h1 m hm;omega
def gN (l:List Nat) (i:Nat):Nat:=l.getD i 0
theorem Y5 {l r:List Nat} {i:Nat} (h:i<l.length):gN (l++r) i=gN l i:=by
 unfold gN;rw [List.getD_eq_getElem?_getD,List.getElem?_append_left h,List.getD_eq_getElem?_getD]
theorem KV.first {os:List AE} {ids:List Int} {q:Que} {j:Nat} {l:List Nat} (h:KV os ids q j l):0<l.length∧ ∃x∈ids,AA os x=gQ q (gN l 0):=by
 induction h with
 | one a b c=>exact ⟨by simp,by simpa [gN] using c⟩
 | more h a b c d ih=>exact ⟨by simp,by rw [Y5 ih.1];exact ih.2⟩
theorem KV.end {os:List AE} {ids:List Int} {q:Que} {j:Nat} {l:List Nat} (h:KV os ids q j l):gN l (l.length-1)=j:=by
 cases h with
 | one a b c=>simp [gN]
 | more h a b c d=>simp [gN]
theorem KV.next {os:List AE} {ids:List Int} {q:Que} {j:Nat} {l:List Nat} (h:KV os ids q j l): ∀i,i+1<l.length→gQ q (gN l (i+1))∈BE os (gQ q (gN l i)).toNat:=by
 induction h with
 | one a b c=>intro i hi;simp at hi
 | more h a b c d ih=>
   rename_i m j l
   intro i hi
   rw [List.length_append] at hi
   simp only [List.length_cons,List.length_nil] at hi
   rcases Nat.lt_or_ge (i+1) l.length with hl | hl
   ·rw [Y5 hl,Y5 (by omega)];exact ih i hl
   ·have e:i+1=l.length:=by omega
    have hp:=h.first.1
    rw [Y5 (i:=i) (by omega),e]
    have e1:gN (l++[j]) l.length=j:=by simp [gN]
    have e2:gN l i=m:=by rw [←h.end];congr 1;omega
    rw [e1,e2];exact d
end Go.Proofs.Ytklmcfpgdfibnaa.P
namespace Go.Proofs.Ytklmcfpgdfibnaa.P
open Go Go.Proofs.Ytklmcfpgdfibnaa Go.Proofs.Ytklmcfpgdfibnaa.Eng
set_option linter.unusedVariables false
set_option maxHeartbeats 4000000
set_option linter.unusedVariables false
set_option linter.unusedSimpArgs false
attribute [local irreducible] prP gP gE gF AJ ixW ldc ldg ldl stc stg scW mkW apW A6 cl2 BF CM CB
variable {w0:World}
theorem KV.snoc {os:List AE} {ids:List Int} {q:Que} {j:Nat} {l:List Nat} (h:KV os ids q j l): ∃p,l=p++[j]:=by
 cases h with
 | one a b c=>exact ⟨[],rfl⟩
 | more h a b c d=>exact ⟨_,rfl⟩
theorem KV.inv {os:List AE} {ids:List Int} {q:Que} {j:Nat} {p:List Nat} (h:KV os ids q j (p++[j])):(p=[]∧pQ q j= -1)∨ ∃i p',p=p'++[i]∧KV os ids q i (p'++[i])∧i<j∧pQ q j=gQ q i:=by
 generalize hl:p++[j]=l at h
 cases h with
 | one a b c=>
   cases p with
   | nil=>exact .inl ⟨rfl,b⟩
   | cons x p=>simp at hl
 | more h a b c d=>
   rename_i i l
   obtain ⟨e,_⟩:=List.append_inj' hl rfl
   subst e
   obtain ⟨p',rfl⟩:=h.snoc
   exact .inr ⟨i,p',rfl,h,a,c⟩
theorem KV.len {os:List AE} {ids:List Int} {q:Que} {j:Nat} {l:List Nat} (h:KV os ids q j l):l.length≤j+1:=by
 induction h with
 | one a b c=>simp
 | more h a b c d ih=>simp;omega
def nY (q:Que) (F:List Int):Prop:=F.length=q.length∧ ∀j,j<q.length→(gI F j=0∧pQ q j= -1)∨ ∃m,m<j∧gI F j=(m:Int)+1∧pQ q j=gQ q m
theorem rV {l:List Int} {x:Int} {i:Nat}:gI (l++[x]) i=if i<l.length then gI l i else if i=l.length then x else 0:=by
 unfold gI
 split
 ·rename_i h;rw [List.getD_eq_getElem?_getD,List.getElem?_append_left h,List.getD_eq_getElem?_getD]
 ·rename_i h
  split
  ·rename_i h2;subst h2;simp
  ·rw [List.getD_eq_getElem?_getD,List.getElem?_eq_none (by simp;omega)];rfl
theorem nY.snoc {q:Que} {F:List Int} {m:Nat} {s:Int} (h:nY q F) (hm:m<q.length):nY (q++[(s,gQ q m)]) (F++[(m:Int)+1]):=by
 obtain ⟨h1,h2⟩:=h
 refine ⟨by simp [h1],fun j hj=> ?_⟩
 rw [List.length_append,List.length_singleton] at hj
 rw [rV]
 rcases Nat.lt_or_ge j q.length with hl | hl
 ·rw [if_pos (by omega),mY hl]
  rcases h2 j hl with h | ⟨i,a,b,c⟩
  ·exact .inl h
  ·exact .inr ⟨i,a,b,by rw [OS (by omega)];exact c⟩
 ·have:j=q.length:=by omega
  subst this
  rw [if_neg (by omega),if_pos h1.symm,iX]
  exact .inr ⟨m,hm,rfl,by rw [OS hm]⟩
theorem QB.start (os:List AE) (ids:List Int):QB os (-1) (II os (-1) ids):=by
 have:=WY (os:=os) (b:= -1) (ids:=ids) ids.length (Nat.le_refl _)
 rwa [List.take_length,jA] at this
end Go.Proofs.Ytklmcfpgdfibnaa.P
namespace Go.Proofs.Ytklmcfpgdfibnaa.P
open Go Go.Proofs.Ytklmcfpgdfibnaa Go.Proofs.Ytklmcfpgdfibnaa.Eng
set_option linter.unusedVariables false
set_option maxHeartbeats 4000000
set_option linter.unusedVariables false
set_option linter.unusedSimpArgs false
attribute [local irreducible] prP gP gE gF AJ ixW ldc ldg ldl stc stg scW mkW apW A6 cl2 BF CM CB
variable {w0:World}
end Go.Proofs.Ytklmcfpgdfibnaa.P
namespace Go.Proofs.Ytklmcfpgdfibnaa.P
open Go Go.Proofs.Ytklmcfpgdfibnaa Go.Proofs.Ytklmcfpgdfibnaa.Eng
set_option linter.unusedVariables false
set_option maxHeartbeats 4000000
set_option linter.unusedVariables false
set_option linter.unusedSimpArgs false
attribute [local irreducible] prP gP gE gF AJ ixW ldc ldg ldl stc stg scW mkW apW A6 cl2 BF CM CB
variable {w0:World}
structure Cd (os:List AE) (id:Int) (w:List Int):Prop where
 pos:0<w.length
 le:w.length≤8
 last:gI w (w.length-1)=id
 first:gI w 0∈exts os
 next: ∀i,i+1<w.length→ ∃k:Nat,k<8∧AA os (gI w i)=(k:Int)∧gI w (i+1)∈(ob os k).field
 nd: ∀i,i<w.length→gI w i∉w.take i
 live:w.length≤(JD os).length
 sm: ∀v∈w,8≤v∧v≤7999
end Go.Proofs.Ytklmcfpgdfibnaa.P
namespace Go.Proofs.Ytklmcfpgdfibnaa.P
open Go Go.Proofs.Ytklmcfpgdfibnaa Go.Proofs.Ytklmcfpgdfibnaa.Eng
set_option linter.unusedVariables false
theorem xJ {os:List AE} {k m:Nat}:RB os (ob os k).field m↔ ∃j:Nat,(j:Int)∈BE os k∧Reach os j m:=by
 constructor
 ·rintro ⟨f,hf,s,hs,hr⟩
  exact ⟨s,FD.2 ⟨by omega,f,hf,hs⟩,hr⟩
 ·rintro ⟨j,hj,hr⟩
  obtain ⟨_,f,hf,hs⟩:=FD.1 hj
  exact ⟨f,hf,j,hs,hr⟩
theorem bU {x:Hp} (hk:BO x):(JD x.AD).Nodup:=by
 have e:JD x.AD=pick (HE x.AD) 8:=by unfold JD;rw [hk.ol]
 rw [e]
 have key: ∀n,n≤8→(pick (HE x.AD) n).Nodup:=fun n=>by
  induction n with
  | zero=>intro _;exact List.nodup_nil
  | succ n ih=>
    intro hn
    show (pick (HE x.AD) n++HE x.AD n).Nodup
    refine List.nodup_append.2 ⟨ih (by omega), ?_,fun a ha b hb he=> ?_⟩
    ·unfold HE;split <;> simp
    ·subst he
     obtain ⟨i,hi,h1⟩:=J9.1 ha
     unfold HE at h1 hb
     split at h1
     ·rename_i c1
      split at hb
      ·rename_i c2
       have e1:=List.mem_singleton.1 h1
       have e2:=List.mem_singleton.1 hb
       have:=MX hk (show i<8 by omega) c1.2 (show n<8 by omega) c2.2 (by rw [←e1, ←e2])
       omega
      ·cases hb
     ·cases h1
 exact key 8 (Nat.le_refl _)
def Bj (mu:Int→Int→Bool) (ids:List Int) (i:Nat):List Int:=gI ids i::(ids.drop (i+1)).filter (mu (gI ids i))
structure Ch (mu:Int→Int→Bool) (ids:List Int) (i:Nat) (s:List (List Int)×List Int):Prop where
 fl:s.2=s.1.flatten
 nd:s.2.Nodup
 sub: ∀x∈s.2,x∈ids
 all: ∀j,j<i→gI ids j∈s.2
 form: ∀g∈s.1, ∃j,j<i∧j<ids.length∧g=Bj mu ids j
 apart:s.1.Pairwise fun a b=>mu (gI b 0) (gI a 0)=false
theorem oV {x:Hp} (hk:BO x) {v:Int}:v∈cU x.AD↔ ∃k:Nat,k<8∧(ob x.AD k).live=true∧v=B2 k (ob x.AD k).gen∧ ¬Rch x.AD k:=by
 unfold cU
 rw [List.mem_filter,decide_eq_true_eq,X7 hk,kV hk]
 constructor
 ·rintro ⟨⟨k,k8,kv,rfl⟩,h⟩
  exact ⟨k,k8,kv,rfl,fun hr=>h ⟨k,k8,kv,rfl,(aJ hk).2 hr⟩⟩
 ·rintro ⟨k,k8,kv,rfl,h⟩
  refine ⟨⟨k,k8,kv,rfl⟩, ?_⟩
  rintro ⟨m,m8,mv,e,hr⟩
  have:=MX hk k8 kv m8 mv e
  subst this
  exact h ((aJ hk).1 hr)
theorem Rch.on {os:List AE} {a b:Nat} (h:Rch os a) (hr:RB os (ob os a).field b):Rch os b:=by
 obtain ⟨e,he,h⟩:=h
 obtain ⟨j,hj,hr⟩:=xJ.1 hr
 refine ⟨e,he,(Reach.step h hj).trans ?_⟩
 rw [Int.toNat_natCast];exact hr
end Go.Proofs.Ytklmcfpgdfibnaa.P
