/- A part of the proof. -/
import Derived.Test.YtklmcfpgdfibnaaLkTriA
namespace Go.Proofs.Ytklmcfpgdfibnaa.P
open Go Go.Proofs.Ytklmcfpgdfibnaa Go.Proofs.Ytklmcfpgdfibnaa.Eng
set_option linter.unusedVariables false
set_option maxHeartbeats 4000000
set_option linter.unusedVariables false
set_option linter.unusedSimpArgs false
attribute [local irreducible] prP gP gE gF A6 ixW ldc ldg ldl stc stg scW mkW apW BD cl2 BP C3 B9
variable {w0:World}
end Go.Proofs.Ytklmcfpgdfibnaa.P
namespace Go.Proofs.Ytklmcfpgdfibnaa.P
open Go Go.Proofs.Ytklmcfpgdfibnaa Go.Proofs.Ytklmcfpgdfibnaa.Eng
set_option linter.unusedVariables false
set_option maxHeartbeats 4000000
set_option linter.unusedVariables false
set_option linter.unusedSimpArgs false
attribute [local irreducible] prP gP gE gF A6 ixW ldc ldg ldl stc stg scW mkW apW BD cl2 BP C3 B9
variable {w0:World}
theorem KE {x:Hp} (hk:BO x) {v:Int}:v∈B2 x.AA↔ ∃k:Nat,k<8∧(ob x.AA k).live=true∧v=B6 k (ob x.AA k).gen:=by
 constructor
 ·intro hv
  obtain ⟨i,hi,hx⟩:=KV.1 hv
  unfold FE at hx
  split at hx
  ·rename_i hc;exact ⟨i,by omega,hc.2,List.mem_singleton.1 hx⟩
  ·cases hx
 ·rintro ⟨k,k8,kv,rfl⟩;exact YU hk.ol k8 kv
theorem lX {x:Hp} (hk:BO x) {ids:List Int} {v:Int}:v∈LZ x.AA ids↔ ∃k:Nat,k<8∧(ob x.AA k).live=true∧v=B6 k (ob x.AA k).gen∧RB x.AA ids k:=by
 unfold LZ
 rw [List.mem_filter,decide_eq_true_eq,KE hk]
 constructor
 ·rintro ⟨⟨k,k8,kv,rfl⟩,h⟩;exact ⟨k,k8,kv,rfl,(TW hk k8 kv).1 h⟩
 ·rintro ⟨k,k8,kv,rfl,h⟩;exact ⟨⟨k,k8,kv,rfl⟩,(TW hk k8 kv).2 h⟩
theorem JM {x:Hp} (hk:BO x) {k:Nat} (k8:k<8) (kv:(ob x.AA k).live=true):AB x.AA (B6 k (ob x.AA k).gen)=(k:Int):=
 EG hk.ol k8 kv ((hk.hp.obj k k8).lv kv).1 (hk.hp.obj k k8).gen.2
theorem sH {x:Hp} (hk:BO x) {v:Int} {k:Nat} (h:AB x.AA v=(k:Int)):k<8∧(ob x.AA k).live=true∧v=B6 k (ob x.AA k).gen:=by
 have l:=IA h
 have g:=(hk.hp.obj k l.1).lv l.2
 have e:=NY (os:=x.AA) (x:=v) (by omega)
 rw [h] at e
 refine ⟨l.1,l.2, ?_⟩
 rw [e,HF l.1 g.1 (hk.hp.obj k l.1).gen.2]
 unfold WB
 rw [Int.toNat_natCast]
theorem bF {x:Hp} {a b:Int} {k m:Nat} {K:J2} (hk:BO x) (fa:F64 a) (fb:F64 b) (ha:AB x.AA a=(k:Int)) (hb:AB x.AA b=(m:Int)) (h:K [.bool (decide (b∈K2 x.AA (KA x.AA (-1) (ob x.AA k).field)))] []):cl2 ⟨Try.prog,w0⟩ 26 DF.sg [I a,I b] (trees x) K:=by
 have ol:=hk.ol
 have k8:=(IA ha).1
 have kl:k<x.AA.length:=by omega
 have hp:=hk.hp.obj k k8
 have nk:=hk.I6.ob k
 refine DF.cl2 ?_
 unfold DF.txt
 try simp only [trees]
 try simp only [AI,AP,AN,AS,AK,AE,AJ,AH,AM,AT,AL,AR,AO,AQ,BC,BE,BF,BJ,BL,BK,BH,AW,A5,AZ,A4,AY,AX]
 have p1: ¬(x.AA.length:Int)≠8:=by omega
 have p2: ¬AB x.AA a<0:=by omega
 have p3: ¬AB x.AA b<0:=by omega
 refine CT (BG (BG (C7 p1 (B1 fa (by omega) (C7 p1 (A9 (ER p1 rfl ?_)))))))
 refine BG (BG (C7 p2 (B1 fb (by omega) (C7 p2 (A9 (ER p2 rfl (DU p3 (B1 fa (by omega) ?_))))))))
 rw [ha]
 simp only [AI,AP,AN,AS,AK,AE,AJ,AH,AM,AT,AL,AR,AO,AQ,BC,BE,BF,BJ,BL,BK,BH,AW,A5,AZ,A4,AY,AX]
 refine AU kl (TJ kl ?_)
 rw [IL kl]
 refine OW (x:=x) (b:= -1) hk.fits hk.I6 hk.yI nk.2.2.2.2.2 (by rw [hp.len];omega) ?_
 rw [VS]
 have ql:=(QG x.AA (-1) (ob x.AA k).field).1.len
 have il:=NJ x.AA (KA x.AA (-1) (ob x.AA k).field)
 exact FP (by omega) h
end Go.Proofs.Ytklmcfpgdfibnaa.P
namespace Go.Proofs.Ytklmcfpgdfibnaa.P
open Go Go.Proofs.Ytklmcfpgdfibnaa Go.Proofs.Ytklmcfpgdfibnaa.Eng
set_option linter.unusedVariables false
set_option maxHeartbeats 4000000
set_option linter.unusedVariables false
set_option linter.unusedSimpArgs false
attribute [local irreducible] prP gP gE gF A6 ixW ldc ldg ldl stc stg scW mkW apW BD cl2 BP C3 B9
variable {w0:World}
end Go.Proofs.Ytklmcfpgdfibnaa.P
namespace Go.Proofs.Ytklmcfpgdfibnaa.P
open Go Go.Proofs.Ytklmcfpgdfibnaa Go.Proofs.Ytklmcfpgdfibnaa.Eng
set_option linter.unusedVariables false
set_option maxHeartbeats 4000000
set_option linter.unusedVariables false
set_option linter.unusedSimpArgs false
attribute [local irreducible] prP gP gE gF A6 ixW ldc ldg ldl stc stg scW mkW apW BD cl2 BP C3 B9
variable {w0:World}
theorem dX {x:Hp} (hk:BO x) {k m:Nat} (k8:k<8) (kv:(ob x.AA k).live=true) (m8:m<8) (mv:(ob x.AA m).live=true) (h:B6 k (ob x.AA k).gen=B6 m (ob x.AA m).gen):k=m:=by
 have a:=JM hk k8 kv
 rw [h,JM hk m8 mv] at a
 omega
end Go.Proofs.Ytklmcfpgdfibnaa.P
namespace Go.Proofs.Ytklmcfpgdfibnaa.P
open Go Go.Proofs.Ytklmcfpgdfibnaa Go.Proofs.Ytklmcfpgdfibnaa.Eng
set_option linter.unusedVariables false
set_option maxHeartbeats 4000000
set_option linter.unusedVariables false
set_option linter.unusedSimpArgs false
attribute [local irreducible] prP gP gE gF A6 ixW ldc ldg ldl stc stg scW mkW apW BD cl2 BP C3 B9
variable {w0:World}
end Go.Proofs.Ytklmcfpgdfibnaa.P
namespace Go.Proofs.Ytklmcfpgdfibnaa.P
open Go Go.Proofs.Ytklmcfpgdfibnaa Go.Proofs.Ytklmcfpgdfibnaa.Eng
set_option linter.unusedVariables false
theorem oZ {os:List AG} {x:Int}:x∈exts os↔ ∃i:Nat,i<os.length∧i<8∧(ob os i).live=true∧w64 ((ob os i).holds+(ob os i).roots)>0∧x=B6 i (ob os i).gen:=by
 unfold exts
 rw [KV]
 constructor
 ·rintro ⟨i,hi,h⟩
  unfold NF at h
  split at h
  ·rename_i hc;exact ⟨i,hi,by omega,hc.2.1,hc.2.2,List.mem_singleton.1 h⟩
  ·cases h
 ·rintro ⟨i,hi,h8,hv,hw,rfl⟩
  refine ⟨i,hi, ?_⟩
  unfold NF
  rw [if_pos ⟨by omega,hv,hw⟩];simp
theorem RY.ne {os:List AG} {but:Int} {s k:Nat} (h:RY os but s k) (hs:(s:Int)≠but):(k:Int)≠but:=by
 cases h with
 | refl=>exact hs
 | step _ hj hb=>rwa [←(B8 hj).2.2.1]
theorem eQ.ne {os:List AG} {but:Int} {ids:List Int} {k:Nat} (h:eQ os but ids k):(k:Int)≠but:=by
 obtain ⟨x,_,s,_,hs,hr⟩:=h
 exact hr.ne hs
theorem Reach.head {os:List AG} {s k:Nat} (h:Reach os s k):s=k∨ ∃j∈BQ os s,Reach os j.toNat k:=by
 induction h with
 | refl=>exact .inl rfl
 | step hr hj ih=>
   rename_i y j
   rcases ih with rfl | ⟨i,hi,hr'⟩
   ·exact .inr ⟨j,hj, .refl⟩
   ·exact .inr ⟨i,hi, .step hr' hj⟩
def vN (id f:Int):Int:=if f=id then -1 else f
structure lP (os os':List AG) (b:Nat) (id:Int):Prop where
 len:os'.length=os.length
 live: ∀i,(ob os' i).live=(ob os i).live
 gen: ∀i,(ob os' i).gen=(ob os i).gen
 field: ∀i,(ob os' i).field=(ob os i).field.map (vN id)
 holds: ∀i,w64 ((ob os' i).holds+(ob os' i).roots)=if i=b then 0 else w64 ((ob os i).holds+(ob os i).roots)
theorem lP.slot {os os':List AG} {b:Nat} {id:Int} (h:lP os os' b id) (v:Int):AB os' v=AB os v:=EH h.len fun i _=>⟨h.live i,h.gen i⟩
theorem lP.kids {os os':List AG} {b:Nat} {id:Int} (h:lP os os' b id) (hs:AB os id=(b:Int)) {k:Nat} {j:Int}:j∈BQ os' k↔j∈BQ os k∧j≠(b:Int):=by
 rw [FW,FW,h.field]
 constructor
 ·rintro ⟨h0,f,hf,e⟩
  obtain ⟨f',hf',rfl⟩:=List.mem_map.1 hf
  rw [h.slot] at e
  unfold vN at e
  split at e
  ·rw [VS] at e;omega
  ·rename_i hne
   refine ⟨⟨h0,f',hf',e⟩,fun hb=>hne ?_⟩
   exact WO (l:=os) (by omega) (by omega) (by omega)
 ·rintro ⟨⟨h0,f,hf,e⟩,hb⟩
  refine ⟨h0,f,List.mem_map.2 ⟨f,hf, ?_⟩,by rw [h.slot];exact e⟩
  unfold vN
  rw [if_neg]
  rintro rfl
  exact hb (by omega)
theorem lP.ext {os os':List AG} {b:Nat} {id:Int} (h:lP os os' b id) {x:Int}:x∈exts os'↔ ∃i:Nat,i≠b∧i<os.length∧i<8∧(ob os i).live=true∧w64 ((ob os i).holds+(ob os i).roots)>0∧x=B6 i (ob os i).gen:=by
 rw [oZ]
 constructor
 ·rintro ⟨i,hi,h8,hv,hw,rfl⟩
  rw [h.holds] at hw
  split at hw
  ·omega
  ·rename_i hne
   exact ⟨i,hne,by rw [←h.len];exact hi,h8,by rw [←h.live];exact hv,hw,by rw [h.gen]⟩
 ·rintro ⟨i,hne,hi,h8,hv,hw,rfl⟩
  exact ⟨i,by rw [h.len];exact hi,h8,by rw [h.live];exact hv,by rw [h.holds,if_neg hne];exact hw,by rw [h.gen]⟩
theorem sW {os:List AG} {ids:List Int} {k:Nat}:eQ os (-1) ids k↔RB os ids k:=by
 unfold eQ RB
 constructor
 ·rintro ⟨v,hv,s,e,_,hr⟩;exact ⟨v,hv,s,e,QF.1 hr⟩
 ·rintro ⟨v,hv,s,e,hr⟩;exact ⟨v,hv,s,e,by omega,QF.2 hr⟩
end Go.Proofs.Ytklmcfpgdfibnaa.P
namespace Go.Proofs.Ytklmcfpgdfibnaa.P
open Go Go.Proofs.Ytklmcfpgdfibnaa Go.Proofs.Ytklmcfpgdfibnaa.Eng
set_option linter.unusedVariables false
def pQ (q:Que) (i:Nat):Int:=(q.getD i (0,0)).2
theorem xP {q:Que} {i:Nat} (h:i<q.length):(q[i]).2=pQ q i:=by simp [pQ,h]
theorem m4 {q r:Que} {i:Nat} (h:i<q.length):pQ (q++r) i=pQ q i:=by
 unfold pQ;rw [List.getD_eq_getElem?_getD,List.getElem?_append_left h,List.getD_eq_getElem?_getD]
theorem rV {q:Que} {e:Int×Int}:gQ (q++[e]) q.length=e.1:=by simp [gQ]
theorem jN {q:Que} {e:Int×Int}:pQ (q++[e]) q.length=e.2:=by simp [pQ]
theorem wV {q:Que} (h:(q.map (·.1)).Nodup) {i j:Nat} (hi:i<q.length) (hj:j<q.length) (e:gQ q i=gQ q j):i=j:=by
 have hi':i<(q.map (·.1)).length:=by simpa using hi
 have hj':j<(q.map (·.1)).length:=by simpa using hj
 rw [←UI hi, ←UI hj] at e
 exact (List.getElem_inj h (h₀:=hi') (h₁:=hj')).1 (by simpa using e)
structure QP (os:List AG) (ids:List Int) (q:Que):Prop where
 qi:QI os (-1) q
 par: ∀j,j<q.length→(pQ q j= -1∧ ∃x∈ids,AB os x=gQ q j)∨ ∃i,i<j∧pQ q j=gQ q i∧gQ q j∈BQ os (gQ q i).toNat
theorem QP.nil (os:List AG) (ids:List Int):QP os ids []:=⟨QI.nil _ _,fun j h=>by simp at h⟩
theorem QP.add {os:List AG} {ids:List Int} {q:Que} {p s:Int} (h:QP os ids q) (hs:0≤s→s.toNat<8∧(ob os s.toNat).live=true) (hp:(p= -1∧ ∃x∈ids,AB os x=s)∨ ∃i,i<q.length∧p=gQ q i∧s∈BQ os (gQ q i).toNat):QP os ids (F8 (-1) q p s):=by
 refine ⟨h.qi.add hs, ?_⟩
 unfold F8
 split
 ·exact h.par
 ·intro j hj
  rw [List.length_append] at hj
  simp only [List.length_cons,List.length_nil] at hj
  rcases Nat.lt_or_ge j q.length with hl | hl
  ·rw [m4 hl,PF hl]
   rcases h.par j hl with h | ⟨i,a,b,c⟩
   ·exact .inl h
   ·exact .inr ⟨i,a,by rw [PF (by omega)];exact b,by rw [PF (by omega)];exact c⟩
  ·have:j=q.length:=by omega
   subst this
   rw [rV,jN]
   rcases hp with h | ⟨i,a,b,c⟩
   ·exact .inl h
   ·exact .inr ⟨i,a,by rw [PF a];exact b,by rw [PF a];exact c⟩
theorem QP.start {os:List AG} {ids:List Int}: ∀i,i≤ids.length→QP os ids (EN os (-1) (ids.take i))
 | 0,_=>by simp [EN];exact QP.nil _ _
 | i+1,hi=>by
   unfold EN
   rw [GL (by omega)]
   exact (QP.start i (by omega)).add (fun h0=>VH h0) (.inl ⟨rfl,_,CH (by omega),rfl⟩)
theorem QP.kids {os:List AG} {ids:List Int} {q:Que} {m:Nat} (h:QP os ids q) (hm:m<q.length) {l:List Int} (hl: ∀t∈l,t∈BQ os (gQ q m).toNat): ∀i,i≤l.length→QP os ids ((l.take i).foldl (fun q' t=>F8 (-1) q' (gQ q m) t) q)∧M6 q ((l.take i).foldl (fun q' t=>F8 (-1) q' (gQ q m) t) q)
 | 0,_=>⟨by simpa using h,by simp;exact .refl q⟩
 | i+1,hi=>by
   rw [GL (by omega)]
   obtain ⟨a,b⟩:=QP.kids h hm hl i (by omega)
   have hk:=hl _ (CH (l:=l) (i:=i) (by omega))
   refine ⟨a.add (fun _=>⟨(B8 hk).2.1,(B8 hk).2.2.2.2⟩) (.inr ⟨m,by have:=b.len;omega,(b.gq hm).symm,by rw [b.gq hm];exact hk⟩),b.trans .add⟩
theorem QP.step {os:List AG} {ids:List Int} {q:Que} {m:Nat} (h:QP os ids q) (hm:m<q.length):QP os ids (Q6 os (-1) q (gQ q m)):=by
 have:=(QP.kids h hm (l:=BQ os (gQ q m).toNat) (fun _ h=>h) _ (Nat.le_refl _)).1
 rwa [List.take_length] at this
theorem QP.run {os:List AG} {ids:List Int}: ∀(f i:Nat) (q:Que),QP os ids q→QP os ids (QX os (-1) f i q)∧M6 q (QX os (-1) f i q)
 | 0,i,q,h=>⟨h, .refl q⟩
 | f+1,i,q,h=>by
   simp only [QX]
   split
   ·rename_i hi
    obtain ⟨a,b⟩:=QP.run f (i+1) _ (h.step hi)
    exact ⟨a,(WC (gQ q i) h.qi).2.1.trans b⟩
   ·exact ⟨h, .refl q⟩
inductive L8 (os:List AG) (ids:List Int) (q:Que):Nat→List Nat→Prop
 | one {j:Nat}:j<q.length→pQ q j= -1→(∃x∈ids,AB os x=gQ q j)→L8 os ids q j [j]
 | more {i j:Nat} {l:List Nat}:L8 os ids q i l→i<j→j<q.length→pQ q j=gQ q i→gQ q j∈BQ os (gQ q i).toNat→L8 os ids q j (l++[j])
theorem QP.way {os:List AG} {ids:List Int} {q:Que} (h:QP os ids q): ∀n j,j<n→j<q.length→ ∃l,L8 os ids q j l
 | 0,j,hn,_=>by omega
 | n+1,j,hn,hj=>by
   rcases h.par j hj with ⟨a,b⟩ | ⟨i,a,b,c⟩
   ·exact ⟨_, .one hj a b⟩
   ·obtain ⟨l,hl⟩:=h.way n i (by omega) (by omega)
    exact ⟨_, .more hl a hj b c⟩
theorem L8.lt {os:List AG} {ids:List Int} {q:Que} {j:Nat} {l:List Nat} (h:L8 os ids q j l):j<q.length:=by cases h <;> assumption
def XZ (q:Que):Nat→Int→List Int
 | 0,_=>[]
 | f+1,s=>if s<0 then [] else XZ q f (frQ q s.toNat)++[s]
theorem oB {q:Que} {j:Nat} {but:Int} {os:List AG} (h:QI os but q) (hj:j<q.length):frQ q (gQ q j).toNat=pQ q j:=by
 obtain ⟨k,ek,_⟩:=h.lv _ (UK hj)
 rw [ek,Int.toNat_natCast]
 unfold frQ
 have hf:q.find? (fun e=>decide (e.1=(k:Int)))=some q[j]:=by
  rw [List.find?_eq_some_iff_getElem]
  refine ⟨by rw [UI hj];exact decide_eq_true ek,j,hj,rfl,fun i hi=> ?_⟩
  rw [UI (by omega)]
  have: ¬gQ q i=(k:Int):=fun he=>by
   have:=wV h.nd (i:=i) (j:=j) (by omega) hj (by rw [he,ek])
   omega
  simp [this]
 rw [hf]
 simp [xP hj]
theorem L8.chain {os:List AG} {ids:List Int} {q:Que} (hq:QI os (-1) q) {j:Nat} {l:List Nat} (h:L8 os ids q j l): ∀f,j<f→XZ q f (gQ q j)=l.map (gQ q):=by
 induction h with
 | one a b c=>
   intro f hf
   obtain ⟨f,rfl⟩: ∃m,f=m+1:=⟨f-1,by omega⟩
   obtain ⟨k,ek,_⟩:=hq.lv _ (UK a)
   rw [XZ,if_neg (by omega),oB hq a,b]
   cases f with
   | zero=>rfl
   | succ f=>rw [XZ,if_pos (by omega)];rfl
 | more h a b c d ih=>
   intro f hf
   obtain ⟨f,rfl⟩: ∃m,f=m+1:=⟨f-1,by omega⟩
   obtain ⟨k,ek,_⟩:=hq.lv _ (UK b)
   rw [XZ,if_neg (by omega),oB hq b,c,ih f (by omega)]
   simp
theorem L8.le {os:List AG} {ids:List Int} {q:Que} {j:Nat} {l:List Nat} (h:L8 os ids q j l):(∀i∈l,i≤j∧i<q.length)∧l.Pairwise (· < ·)∧l.getLast?=some j:=by
 induction h with
 | one a b c=>simp;exact a
 | more h a b c d ih=>
   rename_i i j l
   obtain ⟨h1,h2,h3⟩:=ih
   refine ⟨fun m hm=> ?_, ?_,by simp⟩
   ·rcases List.mem_append.1 hm with hm | hm
    ·have:=h1 m hm;omega
    ·rw [List.mem_singleton.1 hm];omega
   ·rw [List.pairwise_append]
    refine ⟨h2,by simp,fun m hm n hn=> ?_⟩
    rw [List.mem_singleton.1 hn]
    have:=h1 m hm;omega
def gN (l:List Nat) (i:Nat):Nat:=l.getD i 0
theorem aF {l r:List Nat} {i:Nat} (h:i<l.length):gN (l++r) i=gN l i:=by
 unfold gN;rw [List.getD_eq_getElem?_getD,List.getElem?_append_left h,List.getD_eq_getElem?_getD]
theorem L8.first {os:List AG} {ids:List Int} {q:Que} {j:Nat} {l:List Nat} (h:L8 os ids q j l):0<l.length∧ ∃x∈ids,AB os x=gQ q (gN l 0):=by
 induction h with
 | one a b c=>exact ⟨by simp,by simpa [gN] using c⟩
 | more h a b c d ih=>exact ⟨by simp,by rw [aF ih.1];exact ih.2⟩
theorem L8.end {os:List AG} {ids:List Int} {q:Que} {j:Nat} {l:List Nat} (h:L8 os ids q j l):gN l (l.length-1)=j:=by
 cases h with
 | one a b c=>simp [gN]
 | more h a b c d=>simp [gN]
theorem L8.next {os:List AG} {ids:List Int} {q:Que} {j:Nat} {l:List Nat} (h:L8 os ids q j l): ∀i,i+1<l.length→gQ q (gN l (i+1))∈BQ os (gQ q (gN l i)).toNat:=by
 induction h with
 | one a b c=>intro i hi;simp at hi
 | more h a b c d ih=>
   rename_i m j l
   intro i hi
   rw [List.length_append] at hi
   simp only [List.length_cons,List.length_nil] at hi
   rcases Nat.lt_or_ge (i+1) l.length with hl | hl
   ·rw [aF hl,aF (by omega)];exact ih i hl
   ·have e:i+1=l.length:=by omega
    have hp:=h.first.1
    rw [aF (i:=i) (by omega),e]
    have e1:gN (l++[j]) l.length=j:=by simp [gN]
    have e2:gN l i=m:=by rw [←h.end];congr 1;omega
    rw [e1,e2];exact d
end Go.Proofs.Ytklmcfpgdfibnaa.P
