/- A part of the proof. -/
import Derived.Test.YtklmcfpgdfibnaaRcSchB
namespace Go.Proofs.Ytklmcfpgdfibnaa.P
open Go Go.Proofs.Ytklmcfpgdfibnaa Go.Proofs.Ytklmcfpgdfibnaa.Eng
set_option linter.unusedVariables false
set_option maxHeartbeats 4000000
set_option linter.unusedVariables false
set_option linter.unusedSimpArgs false
attribute [local irreducible] prP gP gE gF AW ixW ldc ldg ldl stc stg scW mkW apW BE cl2 BS C6 CO
variable {w0:World}
def frQ (q:Que) (i:Nat):Int:=((q.find? fun e=>decide (e.1=(i:Int))).map (·.2)).getD 0
def mtQ (but:Int) (q:Que) (i:Nat):Bool:=decide (inQ q (i:Int)∨(i:Int)=but)
abbrev bxV (but:Int) (q:Que):List Value:=[I (frQ q 0),I (frQ q 1),I (frQ q 2),I (frQ q 3),I (frQ q 4),I (frQ q 5),I (frQ q 6),I (frQ q 7), .bool (mtQ but q 0), .bool (mtQ but q 1), .bool (mtQ but q 2), .bool (mtQ but q 3), .bool (mtQ but q 4), .bool (mtQ but q 5), .bool (mtQ but q 6), .bool (mtQ but q 7)]
abbrev slQ (q:Que):List Int:=q.map (·.1)
theorem cU (k i:Nat) (a v:Value):arP (iv k) i a v=if k=i then a else v:=by
 unfold arP
 rw [AZ]
 by_cases h:k=i
 ·subst h;simp
 ·rw [if_neg h]
  cases hb:Nat.beq k i with
  | true=>exact absurd (Nat.eq_of_beq_eq_true hb) h
  | false=>rfl
theorem rQ {q:Que} {k:Nat} {p:Int} (h: ¬inQ q (k:Int)) (i:Nat):arP (iv k) i (I p) (I (frQ q i))=I (frQ (q++[((k:Int),p)]) i):=by
 rw [cU]
 unfold frQ
 rw [List.find?_append]
 by_cases hi:k=i
 ·subst hi
  rw [if_pos rfl]
  have:q.find? (fun e=>decide (e.1=(k:Int)))=none:=by
   rw [List.find?_eq_none]
   intro e he hh
   exact h (List.mem_map.2 ⟨e,he,by simpa using hh⟩)
  rw [this];simp
 ·rw [if_neg hi]
  have:[((k:Int),p)].find? (fun e=>decide (e.1=(i:Int)))=none:=by
   rw [List.find?_eq_none]
   intro e he hh
   have:e=((k:Int),p):=by simpa using he
   subst this
   simp at hh
   omega
  rw [this,Option.or_none]
theorem rV {but:Int} {q:Que} {k:Nat} {p:Int} (i:Nat):arP (iv k) i (.bool true) (.bool (mtQ but q i))= .bool (mtQ but (q++[((k:Int),p)]) i):=by
 rw [cU]
 unfold mtQ
 by_cases hi:k=i
 ·subst hi
  rw [if_pos rfl,decide_eq_true (.inl (OZ.2 (.inr (by simp [inQ]))))]
 ·rw [if_neg hi]
  have e:inQ (q++[((k:Int),p)]) (i:Int)↔inQ q (i:Int):=by
   rw [OZ]
   refine ⟨fun h=>h.resolve_right fun hh=> ?_, .inl⟩
   simp [inQ] at hh;omega
  simp only [e]
theorem sQ {but:Int} {q:Que}: ∀k,k<8→arG [.bool (mtQ but q 0), .bool (mtQ but q 1), .bool (mtQ but q 2), .bool (mtQ but q 3), .bool (mtQ but q 4), .bool (mtQ but q 5), .bool (mtQ but q 6), .bool (mtQ but q 7)] (iv k)=some (.bool (mtQ but q k))
 | 0,_=>rfl | 1,_=>rfl | 2,_=>rfl | 3,_=>rfl | 4,_=>rfl | 5,_=>rfl | 6,_=>rfl | 7,_=>rfl
 | k+8,h=>by omega
theorem lM {r:Option Value} {v:Value} {K:Value→Prop} (h:r=some v) (hp:plain v=true) (hk:K v):prP r K:=by subst h;exact CI hp hk
theorem K9 {but:Int} {q:Que} {s p:Int} {K:J2} (hl:q.length≤8) (hs:s<8) (h:K (bxV but (GD but q p s)) [tI (slQ (GD but q p s))]):cl2 ⟨Try.prog,w0⟩ 143 C1.sg (bxV but q++[I s,I p]) [tI (slQ q)] K:=by
 refine C1.cl2 ?_
 unfold C1.txt
 have sl:(slQ q).length=q.length:=by simp
 refine BA (BT (BT (BT (BT ?_))))
 by_cases h0:s<0
 ·have e:GD but q p s=q:=by unfold GD;rw [if_pos (.inl h0)]
  rw [e] at h
  exact NO h0 (NO h0 (EI h0 rfl (CT h)))
 ·obtain ⟨k,rfl⟩: ∃k:Nat,s=k:=⟨s.toNat,by omega⟩
  have k8:k<8:=by omega
  refine GY h0 (AU k8 (GY h0 (lM (sQ k k8) rfl (EJ h0 rfl (UR (fun hm=> ?_) fun hm=> ?_)))))
  ·have e:GD but q p k=q:=by
    unfold GD
    rw [if_pos]
    have:=of_decide_eq_true hm
    exact .inr (this.symm)
   rw [e] at h
   exact h
  ·have hm:=of_decide_eq_false hm
   simp only [not_or] at hm
   have e:GD but q p k=q++[((k:Int),p)]:=by
    unfold GD
    rw [if_neg]
    simp only [not_or]
    exact ⟨h0,hm.2,hm.1⟩
   rw [e] at h
   refine AU k8 (AU k8 ?_)
   simp only [AH,AP,AK,AM,AO,AE,AI,AR,AN,AL,AS,AJ,AT,AQ,BH,BL,BM,BN,BP,BO,BK,A5,A8,A4,A9,A6,A7]
   refine EH rfl (by first | omega | (simp only [AH,AP,AK,AM,AO,AE,AI,AR,AN,AL,AS,AJ,AT,AQ,BH,BL,BM,BN,BP,BO,BK,A5,A8,A4,A9,A6,A7];omega)) ?_
   have es:tI (slQ q)++[T.c (I (k:Int))]=tI (slQ (q++[((k:Int),p)])):=by rw [DJ];simp [slQ]
   simp only [rQ hm.1,rV (p:=p)]
   rw [es]
   exact h
theorem gT {q:Que} {i:Nat} (hi:i<q.length):gI (slQ q) i=gQ q i:=by
 have h2:i<(slQ q).length:=by simpa using hi
 rw [←DM h2, ←eT hi]
 simp [slQ]
theorem fF {but:Int} {i:Nat}:mtQ but [] i=decide ((i:Int)=but):=by simp [mtQ,inQ]
theorem gD {os:List AG} {but:Int} {ids:List Int}: ∀i,i≤ids.length→QI os but (FF os but (ids.take i))
 | 0,_=>by simp [FF];exact QI.nil _ _
 | i+1,hi=>by
   unfold FF
   rw [HB (by omega)]
   exact (gD i (by omega)).add fun h0=>ZE h0
theorem p6 {os:List AG} {but:Int} {q:Que} {s:Int} (hq:QI os but q) {l:List Int} (hl: ∀j∈l,j.toNat<8∧(ob os j.toNat).live=true): ∀i,i≤l.length→QI os but ((l.take i).foldl (fun q' t=>GD but q' s t) q)∧M8 q ((l.take i).foldl (fun q' t=>GD but q' s t) q)
 | 0,_=>⟨by simpa using hq,by simp;exact .refl q⟩
 | i+1,hi=>by
   rw [HB (by omega)]
   obtain ⟨a,b⟩:=p6 hq hl i (by omega)
   exact ⟨a.add fun _=>hl _ (C7 (by omega)),b.trans .add⟩
theorem WA {x:Hp} {ids:List Int} {but:Int} {K:J2} (hx:Fits x) (hof: ∀o∈x.AD,OF o) (hids: ∀v∈ids,F64 v) (hl:ids.length≤1000) (hb: -1≤but∧but<8) (h:K (bxV but (H6 x.AD but ids)) [tI (slQ (H6 x.AD but ids))]):cl2 ⟨Try.prog,w0⟩ 102 FN.sg [I but] (trees x++[tI ids]) K:=by
 have ol:=hx.ol
 refine FN.cl2 ?_
 unfold FN.txt
 try simp only [trees,List.cons_append,List.nil_append]
 try simp only [AH,AP,AK,AM,AO,AE,AI,AR,AN,AL,AS,AJ,AT,AQ,BH,BL,BM,BN,BP,BO,BK,A5,A8,A4,A9,A6,A7]
 refine oZ (fun xs cs=>xs=bxV but []∧cs=[]) ?_ fun j hj=> ?_
 rotate_left
 ·refine IM (AX (fun h0=> ?_) fun h0=> ?_)
  ·obtain ⟨k,rfl⟩: ∃k:Nat,but=k:=⟨but.toNat,by omega⟩
   have k8:k<8:=by omega
   refine AU k8 (hj _ _ ⟨?_,rfl⟩)
   have e: ∀i:Nat,arP (iv k) i (.bool true) (.bool false)= .bool (mtQ (k:Int) [] i):=fun i=>by
    rw [cU,fF]
    by_cases hi:k=i
    ·subst hi;simp
    ·rw [if_neg hi,decide_eq_false (by omega)]
   simp only [e]
   rfl
  ·refine hj _ _ ⟨?_,rfl⟩
   have e: ∀i:Nat,mtQ but [] i=false:=fun i=>by rw [fF];exact decide_eq_false (by omega)
   simp only [bxV,e]
   rfl
 rintro xs cs ⟨rfl,rfl⟩
 refine BG (fun i=>iv ids.length::iv i::bxV but (FF x.AD but (ids.take i))) (fun i=>[tI (slQ (FF x.AD but (ids.take i)))]) ids.length (fun _=>True) rfl rfl trivial (fun R i hi _ hR=> ?_)
 have hq:=gD (os:=x.AD) (but:=but) i hi
 obtain ⟨q,eq⟩: ∃q,FF x.AD but (ids.take i)=q:=⟨_,rfl⟩
 rw [eq] at hq ⊢
 have ql:=hq.len
 simp only [AH,AP,AK,AM,AO,AE,AI,AR,AN,AL,AS,AJ,AT,AQ,BH,BL,BM,BN,BP,BO,BK,A5,A8,A4,A9,A6,A7]
 refine BA (AX (fun hlt=> ?_) fun hge=> ?_)
 ·have hlt:i<ids.length:=by omega
  have hR:=hR hlt trivial
  have es:FF x.AD but (ids.take (i+1))=GD but q (-1) (AA x.AD (gI ids i)):=by
   rw [←eq];unfold FF;exact HB hlt _ _
  rw [es] at hR
  have fid:F64 (gI ids i):=by rw [←DM hlt];exact hids _ (List.getElem_mem hlt)
  have sb:AA x.AD (gI ids i)<8:=by
   by_cases h0:0≤AA x.AD (gI ids i)
   ·have:=(BF h0).2.2.2.1;omega
   ·omega
  refine AU hlt (ldI hlt (PQ fid (by omega) (K9 (but:=but) (q:=q) (s:=AA x.AD (gI ids i)) (p:= -1) ql sb (BB (by omega) ?_))))
  exact hR
 ·have:i=ids.length:=by omega
  subst this
  rw [List.take_length] at eq
  have h8:0<q.length→x.AD.length=8:=fun h0=>by
   have hin:=bE h0
   rw [←eq] at hin
   obtain ⟨v,_,hv,hv0,_⟩:=(XC x.AD but ids).2.2 _ hin
   exact (BF (l:=x.AD) (id:=v) (by omega)).1
  refine FG (α:=Nat×Que) (fun s=>iv s.1::bxV but s.2) (fun s=>[tI (slQ s.2)]) (fun s=>9-s.1) (fun s=>QI x.AD but s.2∧(0<s.2.length→x.AD.length=8)∧ ∃f,8<f+s.1∧SM x.AD but f s.1 s.2=H6 x.AD but ids) (0,q) rfl rfl ⟨hq,h8,9,by simp,by unfold H6;rw [eq]⟩ (fun R s hs hR=> ?_)
  clear hq ql eq h8
  obtain ⟨i,q⟩:=s
  obtain ⟨hq,h8,f,hf,hbf⟩:=hs
  simp only at hq h8 hf hbf
  have ql:=hq.len
  have sl:(slQ q).length=q.length:=by simp
  simp only [AH,AP,AK,AM,AO,AE,AI,AR,AN,AL,AS,AJ,AT,AQ,BH,BL,BM,BN,BP,BO,BK,A5,A8,A4,A9,A6,A7]
  refine BA (AX (fun hlt=> ?_) fun hge=> ?_)
  ·have hlt':i<(slQ q).length:=by omega
   have hlt:i<q.length:=by omega
   obtain ⟨k,ek,k8,kv,kb⟩:=hq.lv _ (bE hlt)
   obtain ⟨f,rfl⟩: ∃f',f=f'+1:=⟨f-1,by omega⟩
   have hb':=hbf
   rw [SM,if_pos hlt,ek] at hb'
   unfold QS at hb'
   rw [Int.toNat_natCast] at hb'
   have ol8:x.AD.length=8:=h8 (by omega)
   have kl:=OI hof (k:=k) (by omega)
   refine AU hlt' (ldI hlt' ?_)
   rw [gT hlt,ek]
   refine VG ol8 hof k8 ?_
   obtain ⟨ks,hks⟩: ∃ks,BJ x.AD k=ks:=⟨_,rfl⟩
   have hkb: ∀j∈ks,j<8∧j.toNat<8∧(ob x.AD j.toNat).live=true:=fun j hj=>by
    rw [←hks] at hj
    have:=B4 hj
    exact ⟨by omega,this.2.1,this.2.2.2.2⟩
   rw [hks] at hb' kl ⊢
   simp only [AH,AP,AK,AM,AO,AE,AI,AR,AN,AL,AS,AJ,AT,AQ,BH,BL,BM,BN,BP,BO,BK,A5,A8,A4,A9,A6,A7]
   refine BG (fun j=>iv i::iv ks.length::iv j::bxV but ((ks.take j).foldl (fun q' t=>GD but q' k t) q)) (fun j=>[tI ks,tI (slQ ((ks.take j).foldl (fun q' t=>GD but q' k t) q))]) ks.length (fun _=>True) rfl rfl trivial (fun R2 j hj _ hR2=> ?_)
   obtain ⟨hq2,hgr⟩:=p6 (s:=(k:Int)) hq (fun j hj=>(hkb j hj).2) j hj
   obtain ⟨q2,eq2⟩: ∃q2,(ks.take j).foldl (fun q' t=>GD but q' k t) q=q2:=⟨_,rfl⟩
   rw [eq2] at hq2 hgr ⊢
   have ql2:=hq2.len
   have sl2:(slQ q2).length=q2.length:=by simp
   have gl:=hgr.len
   simp only [AH,AP,AK,AM,AO,AE,AI,AR,AN,AL,AS,AJ,AT,AQ,BH,BL,BM,BN,BP,BO,BK,A5,A8,A4,A9,A6,A7]
   refine BA (AX (fun hlj=> ?_) fun hgj=> ?_)
   ·have hlj:j<ks.length:=by omega
    have hR2:=hR2 hlj trivial
    rw [HB hlj,eq2] at hR2
    refine AU hlj (ldI hlj (AU (j:=i) (by omega) (ldI (by omega) ?_)))
    rw [gT (by omega),hgr.gq hlt,ek]
    exact K9 (but:=but) (q:=q2) (s:=gI ks j) (p:=(k:Int)) ql2 (hkb _ (C7 hlj)).1 (BB (by omega) hR2)
   ·have:j=ks.length:=by omega
    subst this
    rw [List.take_length] at eq2
    rw [eq2] at hb'
    exact BB (by omega) (hR (i+1,q2) ⟨hq2,fun _=>ol8,f,by simp only at hf ⊢;omega,hb'⟩ (by simp only;omega))
  ·rw [←hbf] at h
   cases f with
   | zero=>exact h
   | succ f=>rw [SM,if_neg (by omega)] at h;exact h
end Go.Proofs.Ytklmcfpgdfibnaa.P
