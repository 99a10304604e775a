/- A part of the proof. -/
import Derived.Test.YtklmcfpgdfibnaaWaRetC
namespace Go.Proofs.Ytklmcfpgdfibnaa.P
open Go Go.Proofs.Ytklmcfpgdfibnaa Go.Proofs.Ytklmcfpgdfibnaa.Eng
set_option linter.unusedVariables false
def pQ (q:Que) (i:Nat):Int:=(q.getD i (0,0)).2
theorem qY {q:Que} {i:Nat} (h:i<q.length):(q[i]).2=pQ q i:=by simp [pQ,h]
theorem eN {q r:Que} {i:Nat} (h:i<q.length):pQ (q++r) i=pQ q i:=by
 unfold pQ;rw [List.getD_eq_getElem?_getD,List.getElem?_append_left h,List.getD_eq_getElem?_getD]
theorem oP {q:Que} {e:Int×Int}:gQ (q++[e]) q.length=e.1:=by simp [gQ]
theorem fO {q:Que} {e:Int×Int}:pQ (q++[e]) q.length=e.2:=by simp [pQ]
theorem dR {q:Que} (h:(q.map (·.1)).Nodup) {i j:Nat} (hi:i<q.length) (hj:j<q.length) (e:gQ q i=gQ q j):i=j:=by
 have hi':i<(q.map (·.1)).length:=by simpa using hi
 have hj':j<(q.map (·.1)).length:=by simpa using hj
 rw [←P4 hi, ←P4 hj] at e
 exact (List.getElem_inj h (h₀:=hi') (h₁:=hj')).1 (by simpa using e)
structure QP (os:List AE) (ids:List Int) (q:Que):Prop where
 qi:QI os (-1) q
 par: ∀j,j<q.length→(pQ q j= -1∧ ∃x∈ids,AA os x=gQ q j)∨ ∃i,i<j∧pQ q j=gQ q i∧gQ q j∈BG os (gQ q i).toNat
theorem QP.nil (os:List AE) (ids:List Int):QP os ids []:=⟨QI.nil _ _,fun j h=>by simp at h⟩
theorem QP.add {os:List AE} {ids:List Int} {q:Que} {p s:Int} (h:QP os ids q) (hs:0≤s→s.toNat<8∧(ob os s.toNat).live=true) (hp:(p= -1∧ ∃x∈ids,AA os x=s)∨ ∃i,i<q.length∧p=gQ q i∧s∈BG os (gQ q i).toNat):QP os ids (EI (-1) q p s):=by
 refine ⟨h.qi.add hs, ?_⟩
 unfold EI
 split
 ·exact h.par
 ·intro j hj
  rw [List.length_append] at hj
  simp only [List.length_cons,List.length_nil] at hj
  rcases Nat.lt_or_ge j q.length with hl | hl
  ·rw [eN hl,OG hl]
   rcases h.par j hl with h | ⟨i,a,b,c⟩
   ·exact .inl h
   ·exact .inr ⟨i,a,by rw [OG (by omega)];exact b,by rw [OG (by omega)];exact c⟩
  ·have:j=q.length:=by omega
   subst this
   rw [oP,fO]
   rcases hp with h | ⟨i,a,b,c⟩
   ·exact .inl h
   ·exact .inr ⟨i,a,by rw [OG a];exact b,by rw [OG a];exact c⟩
theorem QP.start {os:List AE} {ids:List Int}: ∀i,i≤ids.length→QP os ids (CW os (-1) (ids.take i))
 | 0,_=>by simp [CW];exact QP.nil _ _
 | i+1,hi=>by
   unfold CW
   rw [FE (by omega)]
   exact (QP.start i (by omega)).add (fun h0=>RP h0) (.inl ⟨rfl,_,C7 (by omega),rfl⟩)
theorem QP.mO (os:List AE) (ids:List Int):QP os ids (CW os (-1) ids):=by
 have:=QP.start (os:=os) (ids:=ids) ids.length (Nat.le_refl _)
 rwa [List.take_length] at this
theorem QP.kids {os:List AE} {ids:List Int} {q:Que} {m:Nat} (h:QP os ids q) (hm:m<q.length) {l:List Int} (hl: ∀t∈l,t∈BG os (gQ q m).toNat): ∀i,i≤l.length→QP os ids ((l.take i).foldl (fun q' t=>EI (-1) q' (gQ q m) t) q)∧KI q ((l.take i).foldl (fun q' t=>EI (-1) q' (gQ q m) t) q)
 | 0,_=>⟨by simpa using h,by simp;exact .refl q⟩
 | i+1,hi=>by
   rw [FE (by omega)]
   obtain ⟨a,b⟩:=QP.kids h hm hl i (by omega)
   have hk:=hl _ (C7 (l:=l) (i:=i) (by omega))
   refine ⟨a.add (fun _=>⟨(B4 hk).2.1,(B4 hk).2.2.2.2⟩) (.inr ⟨m,by have:=b.len;omega,(b.gq hm).symm,by rw [b.gq hm];exact hk⟩),b.trans .add⟩
theorem QP.step {os:List AE} {ids:List Int} {q:Que} {m:Nat} (h:QP os ids q) (hm:m<q.length):QP os ids (P0 os (-1) q (gQ q m)):=by
 have:=(QP.kids h hm (l:=BG os (gQ q m).toNat) (fun _ h=>h) _ (Nat.le_refl _)).1
 rwa [List.take_length] at this
theorem QP.run {os:List AE} {ids:List Int}: ∀(f i:Nat) (q:Que),QP os ids q→QP os ids (M7 os (-1) f i q)∧KI q (M7 os (-1) f i q)
 | 0,i,q,h=>⟨h, .refl q⟩
 | f+1,i,q,h=>by
   simp only [M7]
   split
   ·rename_i hi
    obtain ⟨a,b⟩:=QP.run f (i+1) _ (h.step hi)
    exact ⟨a,(U1 (gQ q i) h.qi).2.1.trans b⟩
   ·exact ⟨h, .refl q⟩
theorem ZJ (os:List AE) (ids:List Int):QP os ids (HI os (-1) ids):=(QP.run 9 0 _ (QP.mO os ids)).1
inductive IU (os:List AE) (ids:List Int) (q:Que):Nat→List Nat→Prop
 | one {j:Nat}:j<q.length→pQ q j= -1→(∃x∈ids,AA os x=gQ q j)→IU os ids q j [j]
 | more {i j:Nat} {l:List Nat}:IU os ids q i l→i<j→j<q.length→pQ q j=gQ q i→gQ q j∈BG os (gQ q i).toNat→IU os ids q j (l++[j])
theorem QP.way {os:List AE} {ids:List Int} {q:Que} (h:QP os ids q): ∀n j,j<n→j<q.length→ ∃l,IU os ids q j l
 | 0,j,hn,_=>by omega
 | n+1,j,hn,hj=>by
   rcases h.par j hj with ⟨a,b⟩ | ⟨i,a,b,c⟩
   ·exact ⟨_, .one hj a b⟩
   ·obtain ⟨l,hl⟩:=h.way n i (by omega) (by omega)
    exact ⟨_, .more hl a hj b c⟩
theorem IU.lt {os:List AE} {ids:List Int} {q:Que} {j:Nat} {l:List Nat} (h:IU os ids q j l):j<q.length:=by cases h <;> assumption
theorem IU.grow {os:List AE} {ids:List Int} {q q':Que} {j:Nat} {l:List Nat} (h:IU os ids q j l) (hg:KI q q'):IU os ids q' j l:=by
 have pg: ∀{i},i<q.length→pQ q' i=pQ q i:=fun hi=>by obtain ⟨r,rfl⟩:=hg;exact eN hi
 have gl:=hg.len
 induction h with
 | one a b c=>exact .one (by omega) (by rw [pg a];exact b) (by rw [hg.gq a];exact c)
 | more h a b c d ih=>exact .more ih a (by omega) (by rw [pg b,hg.gq h.lt];exact c) (by rw [hg.gq b,hg.gq h.lt];exact d)
def QC (q:Que):Nat→Int→List Int
 | 0,_=>[]
 | f+1,s=>if s<0 then [] else QC q f (frQ q s.toNat)++[s]
theorem cP {q:Que} {j:Nat} {but:Int} {os:List AE} (h:QI os but q) (hj:j<q.length):frQ q (gQ q j).toNat=pQ q j:=by
 obtain ⟨k,ek,_⟩:=h.lv _ (J1 hj)
 rw [ek,Int.toNat_natCast]
 unfold frQ
 have hf:q.find? (fun e=>decide (e.1=(k:Int)))=some q[j]:=by
  rw [List.find?_eq_some_iff_getElem]
  refine ⟨by rw [P4 hj];exact decide_eq_true ek,j,hj,rfl,fun i hi=> ?_⟩
  rw [P4 (by omega)]
  have: ¬gQ q i=(k:Int):=fun he=>by
   have:=dR h.nd (i:=i) (j:=j) (by omega) hj (by rw [he,ek])
   omega
  simp [this]
 rw [hf]
 simp [qY hj]
theorem IU.chain {os:List AE} {ids:List Int} {q:Que} (hq:QI os (-1) q) {j:Nat} {l:List Nat} (h:IU os ids q j l): ∀f,j<f→QC q f (gQ q j)=l.map (gQ q):=by
 induction h with
 | one a b c=>
   intro f hf
   obtain ⟨f,rfl⟩: ∃m,f=m+1:=⟨f-1,by omega⟩
   obtain ⟨k,ek,_⟩:=hq.lv _ (J1 a)
   rw [QC,if_neg (by omega),cP hq a,b]
   cases f with
   | zero=>rfl
   | succ f=>rw [QC,if_pos (by omega)];rfl
 | more h a b c d ih=>
   intro f hf
   obtain ⟨f,rfl⟩: ∃m,f=m+1:=⟨f-1,by omega⟩
   obtain ⟨k,ek,_⟩:=hq.lv _ (J1 b)
   rw [QC,if_neg (by omega),cP hq b,c,ih f (by omega)]
   simp
theorem IU.le {os:List AE} {ids:List Int} {q:Que} {j:Nat} {l:List Nat} (h:IU os ids q j l):(∀i∈l,i≤j∧i<q.length)∧l.Pairwise (· < ·)∧l.getLast?=some j:=by
 induction h with
 | one a b c=>simp;exact a
 | more h a b c d ih=>
   rename_i i j l
   obtain ⟨h1,h2,h3⟩:=ih
   refine ⟨fun m hm=> ?_, ?_,by simp⟩
   ·rcases List.mem_append.1 hm with hm | hm
    ·have:=h1 m hm;omega
    ·rw [List.mem_singleton.1 hm];omega
   ·rw [List.pairwise_append]
    refine ⟨h2,by simp,fun m hm n hn=> ?_⟩
    rw [List.mem_singleton.1 hn]
    have:=h1 m hm;omega
def gN (l:List Nat) (i:Nat):Nat:=l.getD i 0
theorem rA {l:List Nat} {i:Nat} (h:i<l.length):l[i]=gN l i:=by simp [gN,h]
theorem ZO {l r:List Nat} {i:Nat} (h:i<l.length):gN (l++r) i=gN l i:=by
 unfold gN;rw [List.getD_eq_getElem?_getD,List.getElem?_append_left h,List.getD_eq_getElem?_getD]
theorem IU.first {os:List AE} {ids:List Int} {q:Que} {j:Nat} {l:List Nat} (h:IU os ids q j l):0<l.length∧ ∃x∈ids,AA os x=gQ q (gN l 0):=by
 induction h with
 | one a b c=>exact ⟨by simp,by simpa [gN] using c⟩
 | more h a b c d ih=>exact ⟨by simp,by rw [ZO ih.1];exact ih.2⟩
theorem IU.end {os:List AE} {ids:List Int} {q:Que} {j:Nat} {l:List Nat} (h:IU os ids q j l):gN l (l.length-1)=j:=by
 cases h with
 | one a b c=>simp [gN]
 | more h a b c d=>simp [gN]
theorem IU.next {os:List AE} {ids:List Int} {q:Que} {j:Nat} {l:List Nat} (h:IU os ids q j l): ∀i,i+1<l.length→gQ q (gN l (i+1))∈BG os (gQ q (gN l i)).toNat:=by
 induction h with
 | one a b c=>intro i hi;simp at hi
 | more h a b c d ih=>
   rename_i m j l
   intro i hi
   rw [List.length_append] at hi
   simp only [List.length_cons,List.length_nil] at hi
   rcases Nat.lt_or_ge (i+1) l.length with hl | hl
   ·rw [ZO hl,ZO (by omega)];exact ih i hl
   ·have e:i+1=l.length:=by omega
    have hp:=h.first.1
    rw [ZO (i:=i) (by omega),e]
    have e1:gN (l++[j]) l.length=j:=by simp [gN]
    have e2:gN l i=m:=by rw [←h.end];congr 1;omega
    rw [e1,e2];exact d
end Go.Proofs.Ytklmcfpgdfibnaa.P
