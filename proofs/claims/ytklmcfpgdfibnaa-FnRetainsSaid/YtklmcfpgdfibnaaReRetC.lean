/- A part of the proof. -/
import Derived.Test.YtklmcfpgdfibnaaReGrA
namespace Go.Proofs.Ytklmcfpgdfibnaa.P
open Go Go.Proofs.Ytklmcfpgdfibnaa Go.Proofs.Ytklmcfpgdfibnaa.Eng
set_option linter.unusedVariables false
theorem V1 {os:List AG} {x:Int}:x∈exts os↔ ∃i:Nat,i<os.length∧i<8∧(ob os i).live=true∧w64 ((ob os i).holds+(ob os i).roots)>0∧x=B7 i (ob os i).gen:=by
 unfold exts
 rw [LQ]
 constructor
 ·rintro ⟨i,hi,h⟩
  unfold KY at h
  split at h
  ·rename_i hc;exact ⟨i,hi,by omega,hc.2.1,hc.2.2,List.mem_singleton.1 h⟩
  ·cases h
 ·rintro ⟨i,hi,h8,hv,hw,rfl⟩
  refine ⟨i,hi, ?_⟩
  unfold KY
  rw [if_pos ⟨by omega,hv,hw⟩];simp
theorem cB {os:List AG} {ids:List Int} {b k:Nat} (h:RB os ids k):RG os (b:Int) ids k∨(RB os ids b∧Reach os b k):=by
 obtain ⟨v,hv,s,hs,hr⟩:=h
 induction hr with
 | refl=>
   by_cases hb:s=b
   ·subst hb;exact .inr ⟨⟨v,hv,s,hs, .refl⟩, .refl⟩
   ·exact .inl ⟨v,hv,s,hs,by omega, .refl⟩
 | step hr hj ih=>
   rename_i y j
   have hjb:=B3 hj
   rcases ih with ⟨v',hv',s',hs',hsb,hr'⟩ | ⟨hb',hr'⟩
   ·by_cases hb:j=(b:Int)
    ·right
     have:j.toNat=b:=by omega
     rw [this]
     refine ⟨⟨v,hv,s,hs, ?_⟩, .refl⟩
     rw [←this];exact .step hr hj
    ·exact .inl ⟨v',hv',s',hs',hsb, .step hr' hj hb⟩
   ·exact .inr ⟨hb', .step hr' hj⟩
theorem RA.ne {os:List AG} {but:Int} {s k:Nat} (h:RA os but s k) (hs:(s:Int)≠but):(k:Int)≠but:=by
 cases h with
 | refl=>exact hs
 | step _ hj hb=>rwa [←(B3 hj).2.2.1]
theorem RG.ne {os:List AG} {but:Int} {ids:List Int} {k:Nat} (h:RG os but ids k):(k:Int)≠but:=by
 obtain ⟨x,_,s,_,hs,hr⟩:=h
 exact hr.ne hs
theorem RG.rb {os:List AG} {but:Int} {ids:List Int} {k:Nat} (h:RG os but ids k):RB os ids k:=by
 obtain ⟨x,hx,s,hs,_,hr⟩:=h
 refine ⟨x,hx,s,hs, ?_⟩
 induction hr with
 | refl=>exact .refl
 | step _ hj _ ih=>exact .step ih hj
theorem Reach.head {os:List AG} {s k:Nat} (h:Reach os s k):s=k∨ ∃j∈BK os s,Reach os j.toNat k:=by
 induction h with
 | refl=>exact .inl rfl
 | step hr hj ih=>
   rename_i y j
   rcases ih with rfl | ⟨i,hi,hr'⟩
   ·exact .inr ⟨j,hj, .refl⟩
   ·exact .inr ⟨i,hi, .step hr' hj⟩
theorem nT {x:Hp} (hk:BW x) {b k:Nat} (h:Reach x.AD b k) (hne:b≠k):RB x.AD (ob x.AD b).field k:=by
 rcases h.head with e | ⟨j,hj,hr⟩
 ·exact absurd e hne
 ·obtain ⟨h0,f,hf,hs⟩:=F7.1 hj
  exact ⟨f,hf,j.toNat,by omega,hr⟩
def TK (id f:Int):Int:=if f=id then -1 else f
structure aW (os os':List AG) (b:Nat) (id:Int):Prop where
 len:os'.length=os.length
 live: ∀i,(ob os' i).live=(ob os i).live
 gen: ∀i,(ob os' i).gen=(ob os i).gen
 field: ∀i,(ob os' i).field=(ob os i).field.map (TK id)
 holds: ∀i,w64 ((ob os' i).holds+(ob os' i).roots)=if i=b then 0 else w64 ((ob os i).holds+(ob os i).roots)
theorem aW.slot {os os':List AG} {b:Nat} {id:Int} (h:aW os os' b id) (v:Int):AB os' v=AB os v:=EU h.len fun i _=>⟨h.live i,h.gen i⟩
theorem aW.kids {os os':List AG} {b:Nat} {id:Int} (h:aW os os' b id) (hs:AB os id=(b:Int)) {k:Nat} {j:Int}:j∈BK os' k↔j∈BK os k∧j≠(b:Int):=by
 rw [F7,F7,h.field]
 constructor
 ·rintro ⟨h0,f,hf,e⟩
  obtain ⟨f',hf',rfl⟩:=List.mem_map.1 hf
  rw [h.slot] at e
  unfold TK at e
  split at e
  ·rw [U3] at e;omega
  ·rename_i hne
   refine ⟨⟨h0,f',hf',e⟩,fun hb=>hne ?_⟩
   exact WZ (l:=os) (by omega) (by omega) (by omega)
 ·rintro ⟨⟨h0,f,hf,e⟩,hb⟩
  refine ⟨h0,f,List.mem_map.2 ⟨f,hf, ?_⟩,by rw [h.slot];exact e⟩
  unfold TK
  rw [if_neg]
  rintro rfl
  exact hb (by omega)
theorem aW.ext {os os':List AG} {b:Nat} {id:Int} (h:aW os os' b id) {x:Int}:x∈exts os'↔ ∃i:Nat,i≠b∧i<os.length∧i<8∧(ob os i).live=true∧w64 ((ob os i).holds+(ob os i).roots)>0∧x=B7 i (ob os i).gen:=by
 rw [V1]
 constructor
 ·rintro ⟨i,hi,h8,hv,hw,rfl⟩
  rw [h.holds] at hw
  split at hw
  ·omega
  ·rename_i hne
   exact ⟨i,hne,by rw [←h.len];exact hi,h8,by rw [←h.live];exact hv,hw,by rw [h.gen]⟩
 ·rintro ⟨i,hne,hi,h8,hv,hw,rfl⟩
  exact ⟨i,by rw [h.len];exact hi,h8,by rw [h.live];exact hv,by rw [h.holds,if_neg hne];exact hw,by rw [h.gen]⟩
theorem mE {x:Hp} (hk:BW x) {os':List AG} {b:Nat} {id:Int} (h:aW x.AD os' b id) (hs:AB x.AD id=(b:Int)) (k:Nat):RG os' (-1) (exts os') k↔RG x.AD (b:Int) (exts x.AD) k:=by
 constructor
 ·rintro ⟨v,hv,s,e,_,hr⟩
  obtain ⟨i,hne,hi,h8,lv,hw,rfl⟩:=h.ext.1 hv
  rw [h.slot,OA hk h8 lv] at e
  refine ⟨_,V1.2 ⟨i,hi,h8,lv,hw,rfl⟩,s,by rw [OA hk h8 lv];exact e,by omega, ?_⟩
  induction hr with
  | refl=>exact .refl
  | step _ hj _ ih=>exact .step ih ((h.kids hs).1 hj).1 ((h.kids hs).1 hj).2
 ·rintro ⟨v,hv,s,e,hb,hr⟩
  obtain ⟨i,hi,h8,lv,hw,rfl⟩:=V1.1 hv
  rw [OA hk h8 lv] at e
  refine ⟨_,h.ext.2 ⟨i,by omega,hi,h8,lv,hw,rfl⟩,s,by rw [h.slot,OA hk h8 lv];exact e,by omega, ?_⟩
  induction hr with
  | refl=>exact .refl
  | step _ hj hb' ih=>exact .step ih ((h.kids hs).2 ⟨hj,hb'⟩) (by have:=(B3 hj).1;omega)
def XB (q:Que):List Int:=pick (fun i=>if inQ q (i:Int) then [(i:Int)] else []) 8
theorem lT (q:Que):(XB q).length≤8:=FU (fun i=>by split <;> simp) 8
theorem YQ {α β:Type} {f:Nat→List α} {g:Nat→List β}: ∀{n:Nat},(∀i,i<n→(f i).length=(g i).length)→(pick f n).length=(pick g n).length
 | 0,_=>rfl
 | n+1,h=>by
   rw [pick,pick,List.length_append,List.length_append,YQ (n:=n) fun i hi=>h i (by omega),h n (by omega)]
theorem aX {os:List AG} {ids:List Int} {k:Nat}:RG os (-1) ids k↔RB os ids k:=by
 unfold RG RB
 constructor
 ·rintro ⟨v,hv,s,e,_,hr⟩;exact ⟨v,hv,s,e,KZ.1 hr⟩
 ·rintro ⟨v,hv,s,e,hr⟩;exact ⟨v,hv,s,e,by omega,KZ.2 hr⟩
theorem qO {x:Hp} (hk:BW x) {os':List AG} {b:Nat} {id:Int} (h:aW x.AD os' b id) (hs:AB x.AD id=(b:Int)):(XB (GK os' (-1) (exts os'))).length+(SJ x.AD (b:Int)).length=(KJ x.AD (exts x.AD)).length:=by
 rw [←cF hk]
 unfold SJ
 obtain ⟨a1,a2⟩:=HO x.AD (-1) (exts x.AD)
 obtain ⟨b1,b2⟩:=HO x.AD (b:Int) (exts x.AD)
 obtain ⟨c1,c2⟩:=HO os' (-1) (exts os')
 generalize hA:GK x.AD (-1) (exts x.AD)=A at a1 a2 ⊢
 generalize hB:GK x.AD (b:Int) (exts x.AD)=B at b1 b2 ⊢
 generalize hC:GK os' (-1) (exts os')=C at c1 c2 ⊢
 have hl:=eL (l:=pick (DV x.AD A) 8) (p:=fun v=>decide (v∈pick (DV x.AD B) 8)) (q:=fun v=>decide (v∉pick (DV x.AD B) 8)) fun v _=>by simp
 have he:(XB C).length=((pick (DV x.AD A) 8).filter fun v=>decide (v∈pick (DV x.AD B) 8)).length:=by
  rw [PI]
  unfold XB
  refine YQ fun i i8=> ?_
  have hci:=c2 i
  rw [mE hk h hs] at hci
  have hbi:=b2 i
  have key:inQ C (i:Int)↔inQ B (i:Int):=by rw [hci,hbi]
  by_cases hb:inQ B (i:Int)
  ·have hf:=hbi.1 hb
   have ha:inQ A (i:Int):=(a2 i).2 (aX.2 hf.rb)
   rw [if_pos (key.2 hb)]
   have e:DV x.AD A i=[B7 i (ob x.AD i).gen]:=by unfold DV;rw [if_pos (show (i:Int)∈slQ A from ha)]
   rw [e,List.filter_cons,if_pos]
   ·simp
   ·exact decide_eq_true (P2.2 ⟨i,i8,hb,rfl⟩)
  ·rw [if_neg (fun hh=>hb (key.1 hh))]
   symm
   rw [List.length_nil,List.length_eq_zero_iff,List.filter_eq_nil_iff]
   intro v hv hm
   unfold DV at hv
   split at hv
   ·rename_i hin
    rw [List.mem_singleton.1 hv] at hm
    obtain ⟨m,m8,hm2,em⟩:=P2.1 (of_decide_eq_true hm)
    obtain ⟨i',ei,_,iv',_⟩:=a1.lv _ hin
    obtain ⟨m',em',_,mv',_⟩:=b1.lv _ hm2
    have e1:i=i':=by omega
    have e2:m=m':=by omega
    subst e1;subst e2
    have:=VQ hk i8 iv' m8 mv' em
    subst this
    exact hb hm2
   ·cases hv
 omega
end Go.Proofs.Ytklmcfpgdfibnaa.P
