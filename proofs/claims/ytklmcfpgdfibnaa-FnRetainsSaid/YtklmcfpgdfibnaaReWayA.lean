/- A part of the proof. -/
import Derived.Test.YtklmcfpgdfibnaaReRetC
namespace Go.Proofs.Ytklmcfpgdfibnaa.P
open Go Go.Proofs.Ytklmcfpgdfibnaa Go.Proofs.Ytklmcfpgdfibnaa.Eng
set_option linter.unusedVariables false
def pQ (q:Que) (i:Nat):Int:=(q.getD i (0,0)).2
theorem xY {q:Que} {i:Nat} (h:i<q.length):(q[i]).2=pQ q i:=by simp [pQ,h]
theorem pL {q r:Que} {i:Nat} (h:i<q.length):pQ (q++r) i=pQ q i:=by
 unfold pQ;rw [List.getD_eq_getElem?_getD,List.getElem?_append_left h,List.getD_eq_getElem?_getD]
theorem rS {q:Que} {e:Int×Int}:gQ (q++[e]) q.length=e.1:=by simp [gQ]
theorem jO {q:Que} {e:Int×Int}:pQ (q++[e]) q.length=e.2:=by simp [pQ]
theorem vC {q:Que} (h:(q.map (·.1)).Nodup) {i j:Nat} (hi:i<q.length) (hj:j<q.length) (e:gQ q i=gQ q j):i=j:=by
 have hi':i<(q.map (·.1)).length:=by simpa using hi
 have hj':j<(q.map (·.1)).length:=by simpa using hj
 rw [←UF hi, ←UF hj] at e
 exact (List.getElem_inj h (h₀:=hi') (h₁:=hj')).1 (by simpa using e)
structure QP (os:List AG) (ids:List Int) (q:Que):Prop where
 qi:QI os (-1) q
 par: ∀j,j<q.length→(pQ q j= -1∧ ∃x∈ids,AB os x=gQ q j)∨ ∃i,i<j∧pQ q j=gQ q i∧gQ q j∈BK os (gQ q i).toNat
theorem QP.nil (os:List AG) (ids:List Int):QP os ids []:=⟨QI.nil _ _,fun j h=>by simp at h⟩
theorem QP.add {os:List AG} {ids:List Int} {q:Que} {p s:Int} (h:QP os ids q) (hs:0≤s→s.toNat<8∧(ob os s.toNat).live=true) (hp:(p= -1∧ ∃x∈ids,AB os x=s)∨ ∃i,i<q.length∧p=gQ q i∧s∈BK os (gQ q i).toNat):QP os ids (DZ (-1) q p s):=by
 refine ⟨h.qi.add hs, ?_⟩
 unfold DZ
 split
 ·exact h.par
 ·intro j hj
  rw [List.length_append] at hj
  simp only [List.length_cons,List.length_nil] at hj
  rcases Nat.lt_or_ge j q.length with hl | hl
  ·rw [pL hl,OY hl]
   rcases h.par j hl with h | ⟨i,a,b,c⟩
   ·exact .inl h
   ·exact .inr ⟨i,a,by rw [OY (by omega)];exact b,by rw [OY (by omega)];exact c⟩
  ·have:j=q.length:=by omega
   subst this
   rw [rS,jO]
   rcases hp with h | ⟨i,a,b,c⟩
   ·exact .inl h
   ·exact .inr ⟨i,a,by rw [OY a];exact b,by rw [OY a];exact c⟩
theorem QP.start {os:List AG} {ids:List Int}: ∀i,i≤ids.length→QP os ids (D4 os (-1) (ids.take i))
 | 0,_=>by simp [D4];exact QP.nil _ _
 | i+1,hi=>by
   unfold D4
   rw [E9 (by omega)]
   exact (QP.start i (by omega)).add (fun h0=>P5 h0) (.inl ⟨rfl,_,DJ (by omega),rfl⟩)
theorem QP.kids {os:List AG} {ids:List Int} {q:Que} {m:Nat} (h:QP os ids q) (hm:m<q.length) {l:List Int} (hl: ∀t∈l,t∈BK os (gQ q m).toNat): ∀i,i≤l.length→QP os ids ((l.take i).foldl (fun q' t=>DZ (-1) q' (gQ q m) t) q)∧M5 q ((l.take i).foldl (fun q' t=>DZ (-1) q' (gQ q m) t) q)
 | 0,_=>⟨by simpa using h,by simp;exact .refl q⟩
 | i+1,hi=>by
   rw [E9 (by omega)]
   obtain ⟨a,b⟩:=QP.kids h hm hl i (by omega)
   have hk:=hl _ (DJ (l:=l) (i:=i) (by omega))
   refine ⟨a.add (fun _=>⟨(B3 hk).2.1,(B3 hk).2.2.2.2⟩) (.inr ⟨m,by have:=b.len;omega,(b.gq hm).symm,by rw [b.gq hm];exact hk⟩),b.trans .add⟩
theorem QP.step {os:List AG} {ids:List Int} {q:Que} {m:Nat} (h:QP os ids q) (hm:m<q.length):QP os ids (QU os (-1) q (gQ q m)):=by
 have:=(QP.kids h hm (l:=BK os (gQ q m).toNat) (fun _ h=>h) _ (Nat.le_refl _)).1
 rwa [List.take_length] at this
theorem QP.run {os:List AG} {ids:List Int}: ∀(f i:Nat) (q:Que),QP os ids q→QP os ids (J1 os (-1) f i q)∧M5 q (J1 os (-1) f i q)
 | 0,i,q,h=>⟨h, .refl q⟩
 | f+1,i,q,h=>by
   simp only [J1]
   split
   ·rename_i hi
    obtain ⟨a,b⟩:=QP.run f (i+1) _ (h.step hi)
    exact ⟨a,(XD (gQ q i) h.qi).2.1.trans b⟩
   ·exact ⟨h, .refl q⟩
inductive LP (os:List AG) (ids:List Int) (q:Que):Nat→List Nat→Prop
 | one {j:Nat}:j<q.length→pQ q j= -1→(∃x∈ids,AB os x=gQ q j)→LP os ids q j [j]
 | more {i j:Nat} {l:List Nat}:LP os ids q i l→i<j→j<q.length→pQ q j=gQ q i→gQ q j∈BK os (gQ q i).toNat→LP os ids q j (l++[j])
theorem QP.way {os:List AG} {ids:List Int} {q:Que} (h:QP os ids q): ∀n j,j<n→j<q.length→ ∃l,LP os ids q j l
 | 0,j,hn,_=>by omega
 | n+1,j,hn,hj=>by
   rcases h.par j hj with ⟨a,b⟩ | ⟨i,a,b,c⟩
   ·exact ⟨_, .one hj a b⟩
   ·obtain ⟨l,hl⟩:=h.way n i (by omega) (by omega)
    exact ⟨_, .more hl a hj b c⟩
theorem LP.lt {os:List AG} {ids:List Int} {q:Que} {j:Nat} {l:List Nat} (h:LP os ids q j l):j<q.length:=by cases h <;> assumption
def WA (q:Que):Nat→Int→List Int
 | 0,_=>[]
 | f+1,s=>if s<0 then [] else WA q f (frQ q s.toNat)++[s]
theorem mI {q:Que} {j:Nat} {but:Int} {os:List AG} (h:QI os but q) (hj:j<q.length):frQ q (gQ q j).toNat=pQ q j:=by
 obtain ⟨k,ek,_⟩:=h.lv _ (OZ hj)
 rw [ek,Int.toNat_natCast]
 unfold frQ
 have hf:q.find? (fun e=>decide (e.1=(k:Int)))=some q[j]:=by
  rw [List.find?_eq_some_iff_getElem]
  refine ⟨by rw [UF hj];exact decide_eq_true ek,j,hj,rfl,fun i hi=> ?_⟩
  rw [UF (by omega)]
  have: ¬gQ q i=(k:Int):=fun he=>by
   have:=vC h.nd (i:=i) (j:=j) (by omega) hj (by rw [he,ek])
   omega
  simp [this]
 rw [hf]
 simp [xY hj]
theorem LP.chain {os:List AG} {ids:List Int} {q:Que} (hq:QI os (-1) q) {j:Nat} {l:List Nat} (h:LP os ids q j l): ∀f,j<f→WA q f (gQ q j)=l.map (gQ q):=by
 induction h with
 | one a b c=>
   intro f hf
   obtain ⟨f,rfl⟩: ∃m,f=m+1:=⟨f-1,by omega⟩
   obtain ⟨k,ek,_⟩:=hq.lv _ (OZ a)
   rw [WA,if_neg (by omega),mI hq a,b]
   cases f with
   | zero=>rfl
   | succ f=>rw [WA,if_pos (by omega)];rfl
 | more h a b c d ih=>
   intro f hf
   obtain ⟨f,rfl⟩: ∃m,f=m+1:=⟨f-1,by omega⟩
   obtain ⟨k,ek,_⟩:=hq.lv _ (OZ b)
   rw [WA,if_neg (by omega),mI hq b,c,ih f (by omega)]
   simp
theorem LP.le {os:List AG} {ids:List Int} {q:Que} {j:Nat} {l:List Nat} (h:LP os ids q j l):(∀i∈l,i≤j∧i<q.length)∧l.Pairwise (· < ·)∧l.getLast?=some j:=by
 induction h with
 | one a b c=>simp;exact a
 | more h a b c d ih=>
   rename_i i j l
   obtain ⟨h1,h2,h3⟩:=ih
   refine ⟨fun m hm=> ?_, ?_,by simp⟩
   ·rcases List.mem_append.1 hm with hm | hm
    ·have:=h1 m hm;omega
    ·rw [List.mem_singleton.1 hm];omega
   ·rw [List.pairwise_append]
    refine ⟨h2,by simp,fun m hm n hn=> ?_⟩
    rw [List.mem_singleton.1 hn]
    have:=h1 m hm;omega
def gN (l:List Nat) (i:Nat):Nat:=l.getD i 0
theorem aV {l r:List Nat} {i:Nat} (h:i<l.length):gN (l++r) i=gN l i:=by
 unfold gN;rw [List.getD_eq_getElem?_getD,List.getElem?_append_left h,List.getD_eq_getElem?_getD]
theorem LP.first {os:List AG} {ids:List Int} {q:Que} {j:Nat} {l:List Nat} (h:LP os ids q j l):0<l.length∧ ∃x∈ids,AB os x=gQ q (gN l 0):=by
 induction h with
 | one a b c=>exact ⟨by simp,by simpa [gN] using c⟩
 | more h a b c d ih=>exact ⟨by simp,by rw [aV ih.1];exact ih.2⟩
theorem LP.end {os:List AG} {ids:List Int} {q:Que} {j:Nat} {l:List Nat} (h:LP os ids q j l):gN l (l.length-1)=j:=by
 cases h with
 | one a b c=>simp [gN]
 | more h a b c d=>simp [gN]
theorem LP.next {os:List AG} {ids:List Int} {q:Que} {j:Nat} {l:List Nat} (h:LP os ids q j l): ∀i,i+1<l.length→gQ q (gN l (i+1))∈BK os (gQ q (gN l i)).toNat:=by
 induction h with
 | one a b c=>intro i hi;simp at hi
 | more h a b c d ih=>
   rename_i m j l
   intro i hi
   rw [List.length_append] at hi
   simp only [List.length_cons,List.length_nil] at hi
   rcases Nat.lt_or_ge (i+1) l.length with hl | hl
   ·rw [aV hl,aV (by omega)];exact ih i hl
   ·have e:i+1=l.length:=by omega
    have hp:=h.first.1
    rw [aV (i:=i) (by omega),e]
    have e1:gN (l++[j]) l.length=j:=by simp [gN]
    have e2:gN l i=m:=by rw [←h.end];congr 1;omega
    rw [e1,e2];exact d
end Go.Proofs.Ytklmcfpgdfibnaa.P
