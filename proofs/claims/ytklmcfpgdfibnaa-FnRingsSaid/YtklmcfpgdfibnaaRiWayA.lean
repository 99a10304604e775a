/- A part of the proof. -/
import Derived.Test.YtklmcfpgdfibnaaRiTriA
namespace Go.Proofs.Ytklmcfpgdfibnaa.P
open Go Go.Proofs.Ytklmcfpgdfibnaa Go.Proofs.Ytklmcfpgdfibnaa.Eng
set_option linter.unusedVariables false
set_option maxHeartbeats 4000000
set_option linter.unusedVariables false
set_option linter.unusedSimpArgs false
attribute [local irreducible] prP gP gE gF AW ixW ldc ldg ldl stc stg scW mkW apW AZ cl2 BJ CH B2
variable {w0:World}
end Go.Proofs.Ytklmcfpgdfibnaa.P
namespace Go.Proofs.Ytklmcfpgdfibnaa.P
open Go Go.Proofs.Ytklmcfpgdfibnaa Go.Proofs.Ytklmcfpgdfibnaa.Eng
set_option linter.unusedVariables false
set_option maxHeartbeats 4000000
set_option linter.unusedVariables false
set_option linter.unusedSimpArgs false
attribute [local irreducible] prP gP gE gF AW ixW ldc ldg ldl stc stg scW mkW apW AZ cl2 BJ CH B2
variable {w0:World}
theorem XO {x:Hp} (hk:BG x) {v:Int}:v∈B1 x.AB↔ ∃k:Nat,k<8∧(ob x.AB k).live=true∧v=B6 k (ob x.AB k).gen:=by
 constructor
 ·intro hv
  obtain ⟨i,hi,hx⟩:=JN.1 hv
  unfold EZ at hx
  split at hx
  ·rename_i hc;exact ⟨i,by omega,hc.2,List.mem_singleton.1 hx⟩
  ·cases hx
 ·rintro ⟨k,k8,kv,rfl⟩;exact RW hk.ol k8 kv
theorem kI {x:Hp} (hk:BG x) {ids:List Int} {v:Int}:v∈LM x.AB ids↔ ∃k:Nat,k<8∧(ob x.AB k).live=true∧v=B6 k (ob x.AB k).gen∧RB x.AB ids k:=by
 unfold LM
 rw [List.mem_filter,decide_eq_true_eq,XO hk]
 constructor
 ·rintro ⟨⟨k,k8,kv,rfl⟩,h⟩;exact ⟨k,k8,kv,rfl,(O6 hk k8 kv).1 h⟩
 ·rintro ⟨k,k8,kv,rfl,h⟩;exact ⟨⟨k,k8,kv,rfl⟩,(O6 hk k8 kv).2 h⟩
theorem RJ {x:Hp} (hk:BG x) {k:Nat} (k8:k<8) (kv:(ob x.AB k).live=true):AA x.AB (B6 k (ob x.AB k).gen)=(k:Int):=
 D4 hk.ol k8 kv ((hk.hp.obj k k8).lv kv).1 (hk.hp.obj k k8).gen.2
theorem qB {x:Hp} (hk:BG x) {v:Int} {k:Nat} (h:AA x.AB v=(k:Int)):k<8∧(ob x.AB k).live=true∧v=B6 k (ob x.AB k).gen:=by
 have l:=HS h
 have g:=(hk.hp.obj k l.1).lv l.2
 have e:=UG (os:=x.AB) (x:=v) (by omega)
 rw [h] at e
 refine ⟨l.1,l.2, ?_⟩
 rw [e,GN l.1 g.1 (hk.hp.obj k l.1).gen.2]
 unfold jC
 rw [Int.toNat_natCast]
end Go.Proofs.Ytklmcfpgdfibnaa.P
namespace Go.Proofs.Ytklmcfpgdfibnaa.P
open Go Go.Proofs.Ytklmcfpgdfibnaa Go.Proofs.Ytklmcfpgdfibnaa.Eng
set_option linter.unusedVariables false
set_option maxHeartbeats 4000000
set_option linter.unusedVariables false
set_option linter.unusedSimpArgs false
attribute [local irreducible] prP gP gE gF AW ixW ldc ldg ldl stc stg scW mkW apW AZ cl2 BJ CH B2
variable {w0:World}
end Go.Proofs.Ytklmcfpgdfibnaa.P
namespace Go.Proofs.Ytklmcfpgdfibnaa.P
open Go Go.Proofs.Ytklmcfpgdfibnaa Go.Proofs.Ytklmcfpgdfibnaa.Eng
set_option linter.unusedVariables false
set_option maxHeartbeats 4000000
set_option linter.unusedVariables false
set_option linter.unusedSimpArgs false
attribute [local irreducible] prP gP gE gF AW ixW ldc ldg ldl stc stg scW mkW apW AZ cl2 BJ CH B2
variable {w0:World}
theorem mJ {x:Hp} (hk:BG x) {k m:Nat} (k8:k<8) (kv:(ob x.AB k).live=true) (m8:m<8) (mv:(ob x.AB m).live=true) (h:B6 k (ob x.AB k).gen=B6 m (ob x.AB m).gen):k=m:=by
 have a:=RJ hk k8 kv
 rw [h,RJ hk m8 mv] at a
 omega
end Go.Proofs.Ytklmcfpgdfibnaa.P
namespace Go.Proofs.Ytklmcfpgdfibnaa.P
open Go Go.Proofs.Ytklmcfpgdfibnaa Go.Proofs.Ytklmcfpgdfibnaa.Eng
set_option linter.unusedVariables false
set_option maxHeartbeats 4000000
set_option linter.unusedVariables false
set_option linter.unusedSimpArgs false
attribute [local irreducible] prP gP gE gF AW ixW ldc ldg ldl stc stg scW mkW apW AZ cl2 BJ CH B2
variable {w0:World}
def toO (n:Nd):AE:=⟨n.live,n.gen,n.site,n.holds,n.roots,0,n.field,false⟩
abbrev osN (l:List Nd):List AE:=l.map toO
theorem vW {l:List Nd} {i:Nat} (hi:i<l.length):ob (osN l) i=toO (nd l i):=by
 have h2:i<(osN l).length:=by simpa using hi
 rw [←DQ h2, ←sP hi]
 simp [osN]
def y2 (os:List AE):Nat→Que:=pick fun i=>if (ob os i).live=true∧w64 ((ob os i).holds+(ob os i).roots)>0 then [((i:Int),(-1:Int))] else []
end Go.Proofs.Ytklmcfpgdfibnaa.P
namespace Go.Proofs.Ytklmcfpgdfibnaa.P
open Go Go.Proofs.Ytklmcfpgdfibnaa Go.Proofs.Ytklmcfpgdfibnaa.Eng
set_option linter.unusedVariables false
theorem mN {os:List AE} {x:Int}:x∈exts os↔ ∃i:Nat,i<os.length∧i<8∧(ob os i).live=true∧w64 ((ob os i).holds+(ob os i).roots)>0∧x=B6 i (ob os i).gen:=by
 unfold exts
 rw [JN]
 constructor
 ·rintro ⟨i,hi,h⟩
  unfold QX at h
  split at h
  ·rename_i hc;exact ⟨i,hi,by omega,hc.2.1,hc.2.2,List.mem_singleton.1 h⟩
  ·cases h
 ·rintro ⟨i,hi,h8,hv,hw,rfl⟩
  refine ⟨i,hi, ?_⟩
  unfold QX
  rw [if_pos ⟨by omega,hv,hw⟩];simp
theorem P6.ne {os:List AE} {but:Int} {s k:Nat} (h:P6 os but s k) (hs:(s:Int)≠but):(k:Int)≠but:=by
 cases h with
 | refl=>exact hs
 | step _ hj hb=>rwa [←(BZ hj).2.2.1]
theorem c8.ne {os:List AE} {but:Int} {ids:List Int} {k:Nat} (h:c8 os but ids k):(k:Int)≠but:=by
 obtain ⟨x,_,s,_,hs,hr⟩:=h
 exact hr.ne hs
def uR (id f:Int):Int:=if f=id then -1 else f
structure kV (os os':List AE) (b:Nat) (id:Int):Prop where
 len:os'.length=os.length
 live: ∀i,(ob os' i).live=(ob os i).live
 gen: ∀i,(ob os' i).gen=(ob os i).gen
 field: ∀i,(ob os' i).field=(ob os i).field.map (uR id)
 holds: ∀i,w64 ((ob os' i).holds+(ob os' i).roots)=if i=b then 0 else w64 ((ob os i).holds+(ob os i).roots)
theorem kV.slot {os os':List AE} {b:Nat} {id:Int} (h:kV os os' b id) (v:Int):AA os' v=AA os v:=D5 h.len fun i _=>⟨h.live i,h.gen i⟩
theorem kV.kids {os os':List AE} {b:Nat} {id:Int} (h:kV os os' b id) (hs:AA os id=(b:Int)) {k:Nat} {j:Int}:j∈BC os' k↔j∈BC os k∧j≠(b:Int):=by
 rw [EI,EI,h.field]
 constructor
 ·rintro ⟨h0,f,hf,e⟩
  obtain ⟨f',hf',rfl⟩:=List.mem_map.1 hf
  rw [h.slot] at e
  unfold uR at e
  split at e
  ·rw [YS] at e;omega
  ·rename_i hne
   refine ⟨⟨h0,f',hf',e⟩,fun hb=>hne ?_⟩
   exact TZ (l:=os) (by omega) (by omega) (by omega)
 ·rintro ⟨⟨h0,f,hf,e⟩,hb⟩
  refine ⟨h0,f,List.mem_map.2 ⟨f,hf, ?_⟩,by rw [h.slot];exact e⟩
  unfold uR
  rw [if_neg]
  rintro rfl
  exact hb (by omega)
theorem kV.ext {os os':List AE} {b:Nat} {id:Int} (h:kV os os' b id) {x:Int}:x∈exts os'↔ ∃i:Nat,i≠b∧i<os.length∧i<8∧(ob os i).live=true∧w64 ((ob os i).holds+(ob os i).roots)>0∧x=B6 i (ob os i).gen:=by
 rw [mN]
 constructor
 ·rintro ⟨i,hi,h8,hv,hw,rfl⟩
  rw [h.holds] at hw
  split at hw
  ·omega
  ·rename_i hne
   exact ⟨i,hne,by rw [←h.len];exact hi,h8,by rw [←h.live];exact hv,hw,by rw [h.gen]⟩
 ·rintro ⟨i,hne,hi,h8,hv,hw,rfl⟩
  exact ⟨i,by rw [h.len];exact hi,h8,by rw [h.live];exact hv,by rw [h.holds,if_neg hne];exact hw,by rw [h.gen]⟩
def yG (q:Que):List Int:=pick (fun i=>if inQ q (i:Int) then [(i:Int)] else []) 8
theorem rK {os:List AE} {ids:List Int} {k:Nat}:c8 os (-1) ids k↔RB os ids k:=by
 unfold c8 RB
 constructor
 ·rintro ⟨v,hv,s,e,_,hr⟩;exact ⟨v,hv,s,e,O3.1 hr⟩
 ·rintro ⟨v,hv,s,e,hr⟩;exact ⟨v,hv,s,e,by omega,O3.2 hr⟩
end Go.Proofs.Ytklmcfpgdfibnaa.P
namespace Go.Proofs.Ytklmcfpgdfibnaa.P
open Go Go.Proofs.Ytklmcfpgdfibnaa Go.Proofs.Ytklmcfpgdfibnaa.Eng
set_option linter.unusedVariables false
def pQ (q:Que) (i:Nat):Int:=(q.getD i (0,0)).2
theorem wH {q:Que} {i:Nat} (h:i<q.length):(q[i]).2=pQ q i:=by simp [pQ,h]
theorem nS {q r:Que} {i:Nat} (h:i<q.length):pQ (q++r) i=pQ q i:=by
 unfold pQ;rw [List.getD_eq_getElem?_getD,List.getElem?_append_left h,List.getD_eq_getElem?_getD]
theorem pI {q:Que} {e:Int×Int}:gQ (q++[e]) q.length=e.1:=by simp [gQ]
theorem fE {q:Que} {e:Int×Int}:pQ (q++[e]) q.length=e.2:=by simp [pQ]
theorem tD {q:Que} (h:(q.map (·.1)).Nodup) {i j:Nat} (hi:i<q.length) (hj:j<q.length) (e:gQ q i=gQ q j):i=j:=by
 have hi':i<(q.map (·.1)).length:=by simpa using hi
 have hj':j<(q.map (·.1)).length:=by simpa using hj
 rw [←VM hi, ←VM hj] at e
 exact (List.getElem_inj h (h₀:=hi') (h₁:=hj')).1 (by simpa using e)
structure QP (os:List AE) (ids:List Int) (q:Que):Prop where
 qi:QI os (-1) q
 par: ∀j,j<q.length→(pQ q j= -1∧ ∃x∈ids,AA os x=gQ q j)∨ ∃i,i<j∧pQ q j=gQ q i∧gQ q j∈BC os (gQ q i).toNat
theorem QP.nil (os:List AE) (ids:List Int):QP os ids []:=⟨QI.nil _ _,fun j h=>by simp at h⟩
theorem QP.add {os:List AE} {ids:List Int} {q:Que} {p s:Int} (h:QP os ids q) (hs:0≤s→s.toNat<8∧(ob os s.toNat).live=true) (hp:(p= -1∧ ∃x∈ids,AA os x=s)∨ ∃i,i<q.length∧p=gQ q i∧s∈BC os (gQ q i).toNat):QP os ids (G8 (-1) q p s):=by
 refine ⟨h.qi.add hs, ?_⟩
 unfold G8
 split
 ·exact h.par
 ·intro j hj
  rw [List.length_append] at hj
  simp only [List.length_cons,List.length_nil] at hj
  rcases Nat.lt_or_ge j q.length with hl | hl
  ·rw [nS hl,NO hl]
   rcases h.par j hl with h | ⟨i,a,b,c⟩
   ·exact .inl h
   ·exact .inr ⟨i,a,by rw [NO (by omega)];exact b,by rw [NO (by omega)];exact c⟩
  ·have:j=q.length:=by omega
   subst this
   rw [pI,fE]
   rcases hp with h | ⟨i,a,b,c⟩
   ·exact .inl h
   ·exact .inr ⟨i,a,by rw [NO a];exact b,by rw [NO a];exact c⟩
theorem QP.start {os:List AE} {ids:List Int}: ∀i,i≤ids.length→QP os ids (FB os (-1) (ids.take i))
 | 0,_=>by simp [FB];exact QP.nil _ _
 | i+1,hi=>by
   unfold FB
   rw [H5 (by omega)]
   exact (QP.start i (by omega)).add (fun h0=>TK h0) (.inl ⟨rfl,_,D6 (by omega),rfl⟩)
theorem QP.kids {os:List AE} {ids:List Int} {q:Que} {m:Nat} (h:QP os ids q) (hm:m<q.length) {l:List Int} (hl: ∀t∈l,t∈BC os (gQ q m).toNat): ∀i,i≤l.length→QP os ids ((l.take i).foldl (fun q' t=>G8 (-1) q' (gQ q m) t) q)∧LU q ((l.take i).foldl (fun q' t=>G8 (-1) q' (gQ q m) t) q)
 | 0,_=>⟨by simpa using h,by simp;exact .refl q⟩
 | i+1,hi=>by
   rw [H5 (by omega)]
   obtain ⟨a,b⟩:=QP.kids h hm hl i (by omega)
   have hk:=hl _ (D6 (l:=l) (i:=i) (by omega))
   refine ⟨a.add (fun _=>⟨(BZ hk).2.1,(BZ hk).2.2.2.2⟩) (.inr ⟨m,by have:=b.len;omega,(b.gq hm).symm,by rw [b.gq hm];exact hk⟩),b.trans .add⟩
theorem QP.step {os:List AE} {ids:List Int} {q:Que} {m:Nat} (h:QP os ids q) (hm:m<q.length):QP os ids (SQ os (-1) q (gQ q m)):=by
 have:=(QP.kids h hm (l:=BC os (gQ q m).toNat) (fun _ h=>h) _ (Nat.le_refl _)).1
 rwa [List.take_length] at this
theorem QP.run {os:List AE} {ids:List Int}: ∀(f i:Nat) (q:Que),QP os ids q→QP os ids (QL os (-1) f i q)∧LU q (QL os (-1) f i q)
 | 0,i,q,h=>⟨h, .refl q⟩
 | f+1,i,q,h=>by
   simp only [QL]
   split
   ·rename_i hi
    obtain ⟨a,b⟩:=QP.run f (i+1) _ (h.step hi)
    exact ⟨a,(UB (gQ q i) h.qi).2.1.trans b⟩
   ·exact ⟨h, .refl q⟩
inductive KP (os:List AE) (ids:List Int) (q:Que):Nat→List Nat→Prop
 | one {j:Nat}:j<q.length→pQ q j= -1→(∃x∈ids,AA os x=gQ q j)→KP os ids q j [j]
 | more {i j:Nat} {l:List Nat}:KP os ids q i l→i<j→j<q.length→pQ q j=gQ q i→gQ q j∈BC os (gQ q i).toNat→KP os ids q j (l++[j])
theorem QP.way {os:List AE} {ids:List Int} {q:Que} (h:QP os ids q): ∀n j,j<n→j<q.length→ ∃l,KP os ids q j l
 | 0,j,hn,_=>by omega
 | n+1,j,hn,hj=>by
   rcases h.par j hj with ⟨a,b⟩ | ⟨i,a,b,c⟩
   ·exact ⟨_, .one hj a b⟩
   ·obtain ⟨l,hl⟩:=h.way n i (by omega) (by omega)
    exact ⟨_, .more hl a hj b c⟩
theorem KP.lt {os:List AE} {ids:List Int} {q:Que} {j:Nat} {l:List Nat} (h:KP os ids q j l):j<q.length:=by cases h <;> assumption
def U2 (q:Que):Nat→Int→List Int
 | 0,_=>[]
 | f+1,s=>if s<0 then [] else U2 q f (frQ q s.toNat)++[s]
theorem kX {q:Que} {j:Nat} {but:Int} {os:List AE} (h:QI os but q) (hj:j<q.length):frQ q (gQ q j).toNat=pQ q j:=by
 obtain ⟨k,ek,_⟩:=h.lv _ (W9 hj)
 rw [ek,Int.toNat_natCast]
 unfold frQ
 have hf:q.find? (fun e=>decide (e.1=(k:Int)))=some q[j]:=by
  rw [List.find?_eq_some_iff_getElem]
  refine ⟨by rw [VM hj];exact decide_eq_true ek,j,hj,rfl,fun i hi=> ?_⟩
  rw [VM (by omega)]
  have: ¬gQ q i=(k:Int):=fun he=>by
   have:=tD h.nd (i:=i) (j:=j) (by omega) hj (by rw [he,ek])
   omega
  simp [this]
 rw [hf]
 simp [wH hj]
theorem KP.chain {os:List AE} {ids:List Int} {q:Que} (hq:QI os (-1) q) {j:Nat} {l:List Nat} (h:KP os ids q j l): ∀f,j<f→U2 q f (gQ q j)=l.map (gQ q):=by
 induction h with
 | one a b c=>
   intro f hf
   obtain ⟨f,rfl⟩: ∃m,f=m+1:=⟨f-1,by omega⟩
   obtain ⟨k,ek,_⟩:=hq.lv _ (W9 a)
   rw [U2,if_neg (by omega),kX hq a,b]
   cases f with
   | zero=>rfl
   | succ f=>rw [U2,if_pos (by omega)];rfl
 | more h a b c d ih=>
   intro f hf
   obtain ⟨f,rfl⟩: ∃m,f=m+1:=⟨f-1,by omega⟩
   obtain ⟨k,ek,_⟩:=hq.lv _ (W9 b)
   rw [U2,if_neg (by omega),kX hq b,c,ih f (by omega)]
   simp
theorem KP.le {os:List AE} {ids:List Int} {q:Que} {j:Nat} {l:List Nat} (h:KP os ids q j l):(∀i∈l,i≤j∧i<q.length)∧l.Pairwise (· < ·)∧l.getLast?=some j:=by
 induction h with
 | one a b c=>simp;exact a
 | more h a b c d ih=>
   rename_i i j l
   obtain ⟨h1,h2,h3⟩:=ih
   refine ⟨fun m hm=> ?_, ?_,by simp⟩
   ·rcases List.mem_append.1 hm with hm | hm
    ·have:=h1 m hm;omega
    ·rw [List.mem_singleton.1 hm];omega
   ·rw [List.pairwise_append]
    refine ⟨h2,by simp,fun m hm n hn=> ?_⟩
    rw [List.mem_singleton.1 hn]
    have:=h1 m hm;omega
def gN (l:List Nat) (i:Nat):Nat:=l.getD i 0
theorem YZ {l r:List Nat} {i:Nat} (h:i<l.length):gN (l++r) i=gN l i:=by
 unfold gN;rw [List.getD_eq_getElem?_getD,List.getElem?_append_left h,List.getD_eq_getElem?_getD]
theorem KP.first {os:List AE} {ids:List Int} {q:Que} {j:Nat} {l:List Nat} (h:KP os ids q j l):0<l.length∧ ∃x∈ids,AA os x=gQ q (gN l 0):=by
 induction h with
 | one a b c=>exact ⟨by simp,by simpa [gN] using c⟩
 | more h a b c d ih=>exact ⟨by simp,by rw [YZ ih.1];exact ih.2⟩
theorem KP.end {os:List AE} {ids:List Int} {q:Que} {j:Nat} {l:List Nat} (h:KP os ids q j l):gN l (l.length-1)=j:=by
 cases h with
 | one a b c=>simp [gN]
 | more h a b c d=>simp [gN]
theorem KP.next {os:List AE} {ids:List Int} {q:Que} {j:Nat} {l:List Nat} (h:KP os ids q j l): ∀i,i+1<l.length→gQ q (gN l (i+1))∈BC os (gQ q (gN l i)).toNat:=by
 induction h with
 | one a b c=>intro i hi;simp at hi
 | more h a b c d ih=>
   rename_i m j l
   intro i hi
   rw [List.length_append] at hi
   simp only [List.length_cons,List.length_nil] at hi
   rcases Nat.lt_or_ge (i+1) l.length with hl | hl
   ·rw [YZ hl,YZ (by omega)];exact ih i hl
   ·have e:i+1=l.length:=by omega
    have hp:=h.first.1
    rw [YZ (i:=i) (by omega),e]
    have e1:gN (l++[j]) l.length=j:=by simp [gN]
    have e2:gN l i=m:=by rw [←h.end];congr 1;omega
    rw [e1,e2];exact d
end Go.Proofs.Ytklmcfpgdfibnaa.P
