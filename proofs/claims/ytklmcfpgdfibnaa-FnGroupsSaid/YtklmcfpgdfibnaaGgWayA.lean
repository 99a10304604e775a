/- A part of the proof. -/
import Derived.Test.YtklmcfpgdfibnaaGgTriA
namespace Go.Proofs.Ytklmcfpgdfibnaa.P
open Go Go.Proofs.Ytklmcfpgdfibnaa Go.Proofs.Ytklmcfpgdfibnaa.Eng
set_option linter.unusedVariables false
set_option maxHeartbeats 4000000
set_option linter.unusedVariables false
set_option linter.unusedSimpArgs false
attribute [local irreducible] prP gP gE gF AV ixW ldc ldg ldl stc stg scW mkW apW BC cl2 BS CU B1
variable {w0:World}
end Go.Proofs.Ytklmcfpgdfibnaa.P
namespace Go.Proofs.Ytklmcfpgdfibnaa.P
open Go Go.Proofs.Ytklmcfpgdfibnaa Go.Proofs.Ytklmcfpgdfibnaa.Eng
set_option linter.unusedVariables false
set_option maxHeartbeats 4000000
set_option linter.unusedVariables false
set_option linter.unusedSimpArgs false
attribute [local irreducible] prP gP gE gF AV ixW ldc ldg ldl stc stg scW mkW apW BC cl2 BS CU B1
variable {w0:World}
theorem jL {x:Hp} (hk:BT x) {v:Int}:v∈CD x.AD↔ ∃k:Nat,k<8∧(ob x.AD k).live=true∧v=CA k (ob x.AD k).gen:=by
 constructor
 ·intro hv
  obtain ⟨i,hi,hx⟩:=NH.1 hv
  unfold F9 at hx
  split at hx
  ·rename_i hc;exact ⟨i,by omega,hc.2,List.mem_singleton.1 hx⟩
  ·cases hx
 ·rintro ⟨k,k8,kv,rfl⟩;exact X3 hk.ol k8 kv
theorem RJ {x:Hp} (hk:BT x) {k:Nat} (k8:k<8) (kv:(ob x.AD k).live=true):AA x.AD (CA k (ob x.AD k).gen)=(k:Int):=
 FU hk.ol k8 kv ((hk.hp.obj k k8).lv kv).1 (hk.hp.obj k k8).gen.2
theorem rX {x:Hp} (hk:BT x) {v:Int} {k:Nat} (h:AA x.AD v=(k:Int)):k<8∧(ob x.AD k).live=true∧v=CA k (ob x.AD k).gen:=by
 have l:=IT h
 have g:=(hk.hp.obj k l.1).lv l.2
 have e:=MZ (os:=x.AD) (x:=v) (by omega)
 rw [h] at e
 refine ⟨l.1,l.2, ?_⟩
 rw [e,GS l.1 g.1 (hk.hp.obj k l.1).gen.2]
 unfold U5
 rw [Int.toNat_natCast]
theorem ZJ {x:Hp} {a b:Int} {k m:Nat} {K:J2} (hk:BT x) (fa:F64 a) (fb:F64 b) (ha:AA x.AD a=(k:Int)) (hb:AA x.AD b=(m:Int)) (h:K [.bool (decide (b∈KO x.AD (NR x.AD (-1) (ob x.AD k).field)))] []):cl2 ⟨Try.prog,w0⟩ 26 C7.sg [I a,I b] (trees x) K:=by
 have ol:=hk.ol
 have k8:=(IT ha).1
 have kl:k<x.AD.length:=by omega
 have hp:=hk.hp.obj k k8
 have nk:=hk.I8.ob k
 refine C7.cl2 ?_
 unfold C7.txt
 try simp only [trees]
 try simp only [AK,AO,AL,AM,AT,AE,AJ,AI,AR,AQ,AN,AU,AP,AS,BG,BO,BL,BN,BM,BP,BK,A5,A6,A8,AZ,A7,A4]
 have p1: ¬(x.AD.length:Int)≠8:=by omega
 have p2: ¬AA x.AD a<0:=by omega
 have p3: ¬AA x.AD b<0:=by omega
 refine CY (BD (BD (EN p1 (B3 fa (by omega) (EN p1 (BA (EW p1 rfl ?_)))))))
 refine BD (BD (EN p2 (B3 fb (by omega) (EN p2 (BA (EW p2 rfl (DP p3 (B3 fa (by omega) ?_))))))))
 rw [ha]
 simp only [AK,AO,AL,AM,AT,AE,AJ,AI,AR,AQ,AN,AU,AP,AS,BG,BO,BL,BN,BM,BP,BK,A5,A6,A8,AZ,A7,A4]
 refine AH kl (S1 kl ?_)
 rw [H6 kl]
 refine TX (x:=x) (b:= -1) hk.fits hk.I8 hk.yK nk.2.2.2.2.2 (by rw [hp.len];omega) ?_
 rw [YY]
 have ql:=(Z0 x.AD (-1) (ob x.AD k).field).1.len
 have il:=O3 x.AD (NR x.AD (-1) (ob x.AD k).field)
 exact HY (by omega) h
end Go.Proofs.Ytklmcfpgdfibnaa.P
namespace Go.Proofs.Ytklmcfpgdfibnaa.P
open Go Go.Proofs.Ytklmcfpgdfibnaa Go.Proofs.Ytklmcfpgdfibnaa.Eng
set_option linter.unusedVariables false
set_option maxHeartbeats 4000000
set_option linter.unusedVariables false
set_option linter.unusedSimpArgs false
attribute [local irreducible] prP gP gE gF AV ixW ldc ldg ldl stc stg scW mkW apW BC cl2 BS CU B1
variable {w0:World}
end Go.Proofs.Ytklmcfpgdfibnaa.P
namespace Go.Proofs.Ytklmcfpgdfibnaa.P
open Go Go.Proofs.Ytklmcfpgdfibnaa Go.Proofs.Ytklmcfpgdfibnaa.Eng
set_option linter.unusedVariables false
set_option maxHeartbeats 4000000
set_option linter.unusedVariables false
set_option linter.unusedSimpArgs false
attribute [local irreducible] prP gP gE gF AV ixW ldc ldg ldl stc stg scW mkW apW BC cl2 BS CU B1
variable {w0:World}
theorem lR {x:Hp} (hk:BT x) {k m:Nat} (k8:k<8) (kv:(ob x.AD k).live=true) (m8:m<8) (mv:(ob x.AD m).live=true) (h:CA k (ob x.AD k).gen=CA m (ob x.AD m).gen):k=m:=by
 have a:=RJ hk k8 kv
 rw [h,RJ hk m8 mv] at a
 omega
end Go.Proofs.Ytklmcfpgdfibnaa.P
namespace Go.Proofs.Ytklmcfpgdfibnaa.P
open Go Go.Proofs.Ytklmcfpgdfibnaa Go.Proofs.Ytklmcfpgdfibnaa.Eng
set_option linter.unusedVariables false
set_option maxHeartbeats 4000000
set_option linter.unusedVariables false
set_option linter.unusedSimpArgs false
attribute [local irreducible] prP gP gE gF AV ixW ldc ldg ldl stc stg scW mkW apW BC cl2 BS CU B1
variable {w0:World}
end Go.Proofs.Ytklmcfpgdfibnaa.P
namespace Go.Proofs.Ytklmcfpgdfibnaa.P
open Go Go.Proofs.Ytklmcfpgdfibnaa Go.Proofs.Ytklmcfpgdfibnaa.Eng
set_option linter.unusedVariables false
theorem oI {os:List AG} {x:Int}:x∈exts os↔ ∃i:Nat,i<os.length∧i<8∧(ob os i).live=true∧w64 ((ob os i).holds+(ob os i).roots)>0∧x=CA i (ob os i).gen:=by
 unfold exts
 rw [NH]
 constructor
 ·rintro ⟨i,hi,h⟩
  unfold uB at h
  split at h
  ·rename_i hc;exact ⟨i,hi,by omega,hc.2.1,hc.2.2,List.mem_singleton.1 h⟩
  ·cases h
 ·rintro ⟨i,hi,h8,hv,hw,rfl⟩
  refine ⟨i,hi, ?_⟩
  unfold uB
  rw [if_pos ⟨by omega,hv,hw⟩];simp
theorem QK.ne {os:List AG} {but:Int} {s k:Nat} (h:QK os but s k) (hs:(s:Int)≠but):(k:Int)≠but:=by
 cases h with
 | refl=>exact hs
 | step _ hj hb=>rwa [←(B5 hj).2.2.1]
theorem eD.ne {os:List AG} {but:Int} {ids:List Int} {k:Nat} (h:eD os but ids k):(k:Int)≠but:=by
 obtain ⟨x,_,s,_,hs,hr⟩:=h
 exact hr.ne hs
def uG (id f:Int):Int:=if f=id then -1 else f
structure jK (os os':List AG) (b:Nat) (id:Int):Prop where
 len:os'.length=os.length
 live: ∀i,(ob os' i).live=(ob os i).live
 gen: ∀i,(ob os' i).gen=(ob os i).gen
 field: ∀i,(ob os' i).field=(ob os i).field.map (uG id)
 holds: ∀i,w64 ((ob os' i).holds+(ob os' i).roots)=if i=b then 0 else w64 ((ob os i).holds+(ob os i).roots)
theorem jK.slot {os os':List AG} {b:Nat} {id:Int} (h:jK os os' b id) (v:Int):AA os' v=AA os v:=DZ h.len fun i _=>⟨h.live i,h.gen i⟩
theorem jK.kids {os os':List AG} {b:Nat} {id:Int} (h:jK os os' b id) (hs:AA os id=(b:Int)) {k:Nat} {j:Int}:j∈BH os' k↔j∈BH os k∧j≠(b:Int):=by
 rw [FK,FK,h.field]
 constructor
 ·rintro ⟨h0,f,hf,e⟩
  obtain ⟨f',hf',rfl⟩:=List.mem_map.1 hf
  rw [h.slot] at e
  unfold uG at e
  split at e
  ·rw [YY] at e;omega
  ·rename_i hne
   refine ⟨⟨h0,f',hf',e⟩,fun hb=>hne ?_⟩
   exact V5 (l:=os) (by omega) (by omega) (by omega)
 ·rintro ⟨⟨h0,f,hf,e⟩,hb⟩
  refine ⟨h0,f,List.mem_map.2 ⟨f,hf, ?_⟩,by rw [h.slot];exact e⟩
  unfold uG
  rw [if_neg]
  rintro rfl
  exact hb (by omega)
theorem jK.ext {os os':List AG} {b:Nat} {id:Int} (h:jK os os' b id) {x:Int}:x∈exts os'↔ ∃i:Nat,i≠b∧i<os.length∧i<8∧(ob os i).live=true∧w64 ((ob os i).holds+(ob os i).roots)>0∧x=CA i (ob os i).gen:=by
 rw [oI]
 constructor
 ·rintro ⟨i,hi,h8,hv,hw,rfl⟩
  rw [h.holds] at hw
  split at hw
  ·omega
  ·rename_i hne
   exact ⟨i,hne,by rw [←h.len];exact hi,h8,by rw [←h.live];exact hv,hw,by rw [h.gen]⟩
 ·rintro ⟨i,hne,hi,h8,hv,hw,rfl⟩
  exact ⟨i,by rw [h.len];exact hi,h8,by rw [h.live];exact hv,by rw [h.holds,if_neg hne];exact hw,by rw [h.gen]⟩
theorem qC {os:List AG} {ids:List Int} {k:Nat}:eD os (-1) ids k↔RB os ids k:=by
 unfold eD RB
 constructor
 ·rintro ⟨v,hv,s,e,_,hr⟩;exact ⟨v,hv,s,e,PJ.1 hr⟩
 ·rintro ⟨v,hv,s,e,hr⟩;exact ⟨v,hv,s,e,by omega,PJ.2 hr⟩
end Go.Proofs.Ytklmcfpgdfibnaa.P
namespace Go.Proofs.Ytklmcfpgdfibnaa.P
open Go Go.Proofs.Ytklmcfpgdfibnaa Go.Proofs.Ytklmcfpgdfibnaa.Eng
set_option linter.unusedVariables false
def pQ (q:Que) (i:Nat):Int:=(q.getD i (0,0)).2
theorem yC {q:Que} {i:Nat} (h:i<q.length):(q[i]).2=pQ q i:=by simp [pQ,h]
theorem mA {q r:Que} {i:Nat} (h:i<q.length):pQ (q++r) i=pQ q i:=by
 unfold pQ;rw [List.getD_eq_getElem?_getD,List.getElem?_append_left h,List.getD_eq_getElem?_getD]
theorem pM {q:Que} {e:Int×Int}:gQ (q++[e]) q.length=e.1:=by simp [gQ]
theorem fT {q:Que} {e:Int×Int}:pQ (q++[e]) q.length=e.2:=by simp [pQ]
theorem uA {q:Que} (h:(q.map (·.1)).Nodup) {i j:Nat} (hi:i<q.length) (hj:j<q.length) (e:gQ q i=gQ q j):i=j:=by
 have hi':i<(q.map (·.1)).length:=by simpa using hi
 have hj':j<(q.map (·.1)).length:=by simpa using hj
 rw [←TG hi, ←TG hj] at e
 exact (List.getElem_inj h (h₀:=hi') (h₁:=hj')).1 (by simpa using e)
structure QP (os:List AG) (ids:List Int) (q:Que):Prop where
 qi:QI os (-1) q
 par: ∀j,j<q.length→(pQ q j= -1∧ ∃x∈ids,AA os x=gQ q j)∨ ∃i,i<j∧pQ q j=gQ q i∧gQ q j∈BH os (gQ q i).toNat
theorem QP.nil (os:List AG) (ids:List Int):QP os ids []:=⟨QI.nil _ _,fun j h=>by simp at h⟩
theorem QP.add {os:List AG} {ids:List Int} {q:Que} {p s:Int} (h:QP os ids q) (hs:0≤s→s.toNat<8∧(ob os s.toNat).live=true) (hp:(p= -1∧ ∃x∈ids,AA os x=s)∨ ∃i,i<q.length∧p=gQ q i∧s∈BH os (gQ q i).toNat):QP os ids (FW (-1) q p s):=by
 refine ⟨h.qi.add hs, ?_⟩
 unfold FW
 split
 ·exact h.par
 ·intro j hj
  rw [List.length_append] at hj
  simp only [List.length_cons,List.length_nil] at hj
  rcases Nat.lt_or_ge j q.length with hl | hl
  ·rw [mA hl,O5 hl]
   rcases h.par j hl with h | ⟨i,a,b,c⟩
   ·exact .inl h
   ·exact .inr ⟨i,a,by rw [O5 (by omega)];exact b,by rw [O5 (by omega)];exact c⟩
  ·have:j=q.length:=by omega
   subst this
   rw [pM,fT]
   rcases hp with h | ⟨i,a,b,c⟩
   ·exact .inl h
   ·exact .inr ⟨i,a,by rw [O5 a];exact b,by rw [O5 a];exact c⟩
theorem QP.start {os:List AG} {ids:List Int}: ∀i,i≤ids.length→QP os ids (D8 os (-1) (ids.take i))
 | 0,_=>by simp [D8];exact QP.nil _ _
 | i+1,hi=>by
   unfold D8
   rw [GB (by omega)]
   exact (QP.start i (by omega)).add (fun h0=>UE h0) (.inl ⟨rfl,_,CH (by omega),rfl⟩)
theorem QP.kids {os:List AG} {ids:List Int} {q:Que} {m:Nat} (h:QP os ids q) (hm:m<q.length) {l:List Int} (hl: ∀t∈l,t∈BH os (gQ q m).toNat): ∀i,i≤l.length→QP os ids ((l.take i).foldl (fun q' t=>FW (-1) q' (gQ q m) t) q)∧ME q ((l.take i).foldl (fun q' t=>FW (-1) q' (gQ q m) t) q)
 | 0,_=>⟨by simpa using h,by simp;exact .refl q⟩
 | i+1,hi=>by
   rw [GB (by omega)]
   obtain ⟨a,b⟩:=QP.kids h hm hl i (by omega)
   have hk:=hl _ (CH (l:=l) (i:=i) (by omega))
   refine ⟨a.add (fun _=>⟨(B5 hk).2.1,(B5 hk).2.2.2.2⟩) (.inr ⟨m,by have:=b.len;omega,(b.gq hm).symm,by rw [b.gq hm];exact hk⟩),b.trans .add⟩
theorem QP.step {os:List AG} {ids:List Int} {q:Que} {m:Nat} (h:QP os ids q) (hm:m<q.length):QP os ids (QE os (-1) q (gQ q m)):=by
 have:=(QP.kids h hm (l:=BH os (gQ q m).toNat) (fun _ h=>h) _ (Nat.le_refl _)).1
 rwa [List.take_length] at this
theorem QP.run {os:List AG} {ids:List Int}: ∀(f i:Nat) (q:Que),QP os ids q→QP os ids (P0 os (-1) f i q)∧ME q (P0 os (-1) f i q)
 | 0,i,q,h=>⟨h, .refl q⟩
 | f+1,i,q,h=>by
   simp only [P0]
   split
   ·rename_i hi
    obtain ⟨a,b⟩:=QP.run f (i+1) _ (h.step hi)
    exact ⟨a,(WN (gQ q i) h.qi).2.1.trans b⟩
   ·exact ⟨h, .refl q⟩
inductive LD (os:List AG) (ids:List Int) (q:Que):Nat→List Nat→Prop
 | one {j:Nat}:j<q.length→pQ q j= -1→(∃x∈ids,AA os x=gQ q j)→LD os ids q j [j]
 | more {i j:Nat} {l:List Nat}:LD os ids q i l→i<j→j<q.length→pQ q j=gQ q i→gQ q j∈BH os (gQ q i).toNat→LD os ids q j (l++[j])
theorem QP.way {os:List AG} {ids:List Int} {q:Que} (h:QP os ids q): ∀n j,j<n→j<q.length→ ∃l,LD os ids q j l
 | 0,j,hn,_=>by omega
 | n+1,j,hn,hj=>by
   rcases h.par j hj with ⟨a,b⟩ | ⟨i,a,b,c⟩
   ·exact ⟨_, .one hj a b⟩
   ·obtain ⟨l,hl⟩:=h.way n i (by omega) (by omega)
    exact ⟨_, .more hl a hj b c⟩
theorem LD.lt {os:List AG} {ids:List Int} {q:Que} {j:Nat} {l:List Nat} (h:LD os ids q j l):j<q.length:=by cases h <;> assumption
def WM (q:Que):Nat→Int→List Int
 | 0,_=>[]
 | f+1,s=>if s<0 then [] else WM q f (frQ q s.toNat)++[s]
theorem nM {q:Que} {j:Nat} {but:Int} {os:List AG} (h:QI os but q) (hj:j<q.length):frQ q (gQ q j).toNat=pQ q j:=by
 obtain ⟨k,ek,_⟩:=h.lv _ (TJ hj)
 rw [ek,Int.toNat_natCast]
 unfold frQ
 have hf:q.find? (fun e=>decide (e.1=(k:Int)))=some q[j]:=by
  rw [List.find?_eq_some_iff_getElem]
  refine ⟨by rw [TG hj];exact decide_eq_true ek,j,hj,rfl,fun i hi=> ?_⟩
  rw [TG (by omega)]
  have: ¬gQ q i=(k:Int):=fun he=>by
   have:=uA h.nd (i:=i) (j:=j) (by omega) hj (by rw [he,ek])
   omega
  simp [this]
 rw [hf]
 simp [yC hj]
theorem LD.chain {os:List AG} {ids:List Int} {q:Que} (hq:QI os (-1) q) {j:Nat} {l:List Nat} (h:LD os ids q j l): ∀f,j<f→WM q f (gQ q j)=l.map (gQ q):=by
 induction h with
 | one a b c=>
   intro f hf
   obtain ⟨f,rfl⟩: ∃m,f=m+1:=⟨f-1,by omega⟩
   obtain ⟨k,ek,_⟩:=hq.lv _ (TJ a)
   rw [WM,if_neg (by omega),nM hq a,b]
   cases f with
   | zero=>rfl
   | succ f=>rw [WM,if_pos (by omega)];rfl
 | more h a b c d ih=>
   intro f hf
   obtain ⟨f,rfl⟩: ∃m,f=m+1:=⟨f-1,by omega⟩
   obtain ⟨k,ek,_⟩:=hq.lv _ (TJ b)
   rw [WM,if_neg (by omega),nM hq b,c,ih f (by omega)]
   simp
theorem LD.le {os:List AG} {ids:List Int} {q:Que} {j:Nat} {l:List Nat} (h:LD os ids q j l):(∀i∈l,i≤j∧i<q.length)∧l.Pairwise (· < ·)∧l.getLast?=some j:=by
 induction h with
 | one a b c=>simp;exact a
 | more h a b c d ih=>
   rename_i i j l
   obtain ⟨h1,h2,h3⟩:=ih
   refine ⟨fun m hm=> ?_, ?_,by simp⟩
   ·rcases List.mem_append.1 hm with hm | hm
    ·have:=h1 m hm;omega
    ·rw [List.mem_singleton.1 hm];omega
   ·rw [List.pairwise_append]
    refine ⟨h2,by simp,fun m hm n hn=> ?_⟩
    rw [List.mem_singleton.1 hn]
    have:=h1 m hm;omega
def gN (l:List Nat) (i:Nat):Nat:=l.getD i 0
theorem Y9 {l r:List Nat} {i:Nat} (h:i<l.length):gN (l++r) i=gN l i:=by
 unfold gN;rw [List.getD_eq_getElem?_getD,List.getElem?_append_left h,List.getD_eq_getElem?_getD]
theorem LD.first {os:List AG} {ids:List Int} {q:Que} {j:Nat} {l:List Nat} (h:LD os ids q j l):0<l.length∧ ∃x∈ids,AA os x=gQ q (gN l 0):=by
 induction h with
 | one a b c=>exact ⟨by simp,by simpa [gN] using c⟩
 | more h a b c d ih=>exact ⟨by simp,by rw [Y9 ih.1];exact ih.2⟩
theorem LD.end {os:List AG} {ids:List Int} {q:Que} {j:Nat} {l:List Nat} (h:LD os ids q j l):gN l (l.length-1)=j:=by
 cases h with
 | one a b c=>simp [gN]
 | more h a b c d=>simp [gN]
theorem LD.next {os:List AG} {ids:List Int} {q:Que} {j:Nat} {l:List Nat} (h:LD os ids q j l): ∀i,i+1<l.length→gQ q (gN l (i+1))∈BH os (gQ q (gN l i)).toNat:=by
 induction h with
 | one a b c=>intro i hi;simp at hi
 | more h a b c d ih=>
   rename_i m j l
   intro i hi
   rw [List.length_append] at hi
   simp only [List.length_cons,List.length_nil] at hi
   rcases Nat.lt_or_ge (i+1) l.length with hl | hl
   ·rw [Y9 hl,Y9 (by omega)];exact ih i hl
   ·have e:i+1=l.length:=by omega
    have hp:=h.first.1
    rw [Y9 (i:=i) (by omega),e]
    have e1:gN (l++[j]) l.length=j:=by simp [gN]
    have e2:gN l i=m:=by rw [←h.end];congr 1;omega
    rw [e1,e2];exact d
end Go.Proofs.Ytklmcfpgdfibnaa.P
