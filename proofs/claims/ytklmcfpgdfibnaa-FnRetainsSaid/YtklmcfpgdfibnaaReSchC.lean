/- A part of the proof. -/
import Derived.Test.YtklmcfpgdfibnaaReSchB
namespace Go.Proofs.Ytklmcfpgdfibnaa.P
open Go Go.Proofs.Ytklmcfpgdfibnaa Go.Proofs.Ytklmcfpgdfibnaa.Eng
set_option linter.unusedVariables false
set_option maxHeartbeats 4000000
set_option linter.unusedVariables false
set_option linter.unusedSimpArgs false
attribute [local irreducible] prP gP gE gF AY ixW ldc ldg ldl stc stg scW mkW apW BD cl2 BQ CZ B9
variable {w0:World}
def frQ (q:Que) (i:Nat):Int:=((q.find? fun e=>decide (e.1=(i:Int))).map (·.2)).getD 0
def mtQ (but:Int) (q:Que) (i:Nat):Bool:=decide (inQ q (i:Int)∨(i:Int)=but)
abbrev bxV (but:Int) (q:Que):List Value:=[I (frQ q 0),I (frQ q 1),I (frQ q 2),I (frQ q 3),I (frQ q 4),I (frQ q 5),I (frQ q 6),I (frQ q 7), .bool (mtQ but q 0), .bool (mtQ but q 1), .bool (mtQ but q 2), .bool (mtQ but q 3), .bool (mtQ but q 4), .bool (mtQ but q 5), .bool (mtQ but q 6), .bool (mtQ but q 7)]
abbrev slQ (q:Que):List Int:=q.map (·.1)
theorem e7 (k i:Nat) (a v:Value):arP (iv k) i a v=if k=i then a else v:=by
 unfold arP
 rw [AV]
 by_cases h:k=i
 ·subst h;simp
 ·rw [if_neg h]
  cases hb:Nat.beq k i with
  | true=>exact absurd (Nat.eq_of_beq_eq_true hb) h
  | false=>rfl
theorem wP {q:Que} {k:Nat} {p:Int} (h: ¬inQ q (k:Int)) (i:Nat):arP (iv k) i (I p) (I (frQ q i))=I (frQ (q++[((k:Int),p)]) i):=by
 rw [e7]
 unfold frQ
 rw [List.find?_append]
 by_cases hi:k=i
 ·subst hi
  rw [if_pos rfl]
  have:q.find? (fun e=>decide (e.1=(k:Int)))=none:=by
   rw [List.find?_eq_none]
   intro e he hh
   exact h (List.mem_map.2 ⟨e,he,by simpa using hh⟩)
  rw [this];simp
 ·rw [if_neg hi]
  have:[((k:Int),p)].find? (fun e=>decide (e.1=(i:Int)))=none:=by
   rw [List.find?_eq_none]
   intro e he hh
   have:e=((k:Int),p):=by simpa using he
   subst this
   simp at hh
   omega
  rw [this,Option.or_none]
theorem wA {but:Int} {q:Que} {k:Nat} {p:Int} (i:Nat):arP (iv k) i (.bool true) (.bool (mtQ but q i))= .bool (mtQ but (q++[((k:Int),p)]) i):=by
 rw [e7]
 unfold mtQ
 by_cases hi:k=i
 ·subst hi
  rw [if_pos rfl,decide_eq_true (.inl (MF.2 (.inr (by simp [inQ]))))]
 ·rw [if_neg hi]
  have e:inQ (q++[((k:Int),p)]) (i:Int)↔inQ q (i:Int):=by
   rw [MF]
   refine ⟨fun h=>h.resolve_right fun hh=> ?_, .inl⟩
   simp [inQ] at hh;omega
  simp only [e]
theorem wT {but:Int} {q:Que}: ∀k,k<8→arG [.bool (mtQ but q 0), .bool (mtQ but q 1), .bool (mtQ but q 2), .bool (mtQ but q 3), .bool (mtQ but q 4), .bool (mtQ but q 5), .bool (mtQ but q 6), .bool (mtQ but q 7)] (iv k)=some (.bool (mtQ but q k))
 | 0,_=>rfl | 1,_=>rfl | 2,_=>rfl | 3,_=>rfl | 4,_=>rfl | 5,_=>rfl | 6,_=>rfl | 7,_=>rfl
 | k+8,h=>by omega
theorem vZ {r:Option Value} {v:Value} {K:Value→Prop} (h:r=some v) (hp:plain v=true) (hk:K v):prP r K:=by subst h;exact CM hp hk
theorem L4 {but:Int} {q:Que} {s p:Int} {K:J2} (hl:q.length≤8) (hs:s<8) (h:K (bxV but (DZ but q p s)) [tI (slQ (DZ but q p s))]):cl2 ⟨Try.prog,w0⟩ 143 C7.sg (bxV but q++[I s,I p]) [tI (slQ q)] K:=by
 refine C7.cl2 ?_
 unfold C7.txt
 have sl:(slQ q).length=q.length:=by simp
 refine A6 (BC (BC (BC (BC ?_))))
 by_cases h0:s<0
 ·have e:DZ but q p s=q:=by unfold DZ;rw [if_pos (.inl h0)]
  rw [e] at h
  exact JF h0 (JF h0 (DX h0 rfl (CG h)))
 ·obtain ⟨k,rfl⟩: ∃k:Nat,s=k:=⟨s.toNat,by omega⟩
  have k8:k<8:=by omega
  refine HH h0 (AH k8 (HH h0 (vZ (wT k k8) rfl (EH h0 rfl (V7 (fun hm=> ?_) fun hm=> ?_)))))
  ·have e:DZ but q p k=q:=by
    unfold DZ
    rw [if_pos]
    have:=of_decide_eq_true hm
    exact .inr (this.symm)
   rw [e] at h
   exact h
  ·have hm:=of_decide_eq_false hm
   simp only [not_or] at hm
   have e:DZ but q p k=q++[((k:Int),p)]:=by
    unfold DZ
    rw [if_neg]
    simp only [not_or]
    exact ⟨h0,hm.2,hm.1⟩
   rw [e] at h
   refine AH k8 (AH k8 ?_)
   simp only [AJ,AN,AQ,AR,AK,AE,AL,AI,AS,AP,AU,AT,AM,AO,BJ,BP,BM,BN,BO,BS,BL,A4,A5,A9,A8,BA,A7]
   refine DH rfl (by first | omega | (simp only [AJ,AN,AQ,AR,AK,AE,AL,AI,AS,AP,AU,AT,AM,AO,BJ,BP,BM,BN,BO,BS,BL,A4,A5,A9,A8,BA,A7];omega)) ?_
   have es:tI (slQ q)++[T.c (I (k:Int))]=tI (slQ (q++[((k:Int),p)])):=by rw [CU];simp [slQ]
   simp only [wP hm.1,wA (p:=p)]
   rw [es]
   exact h
theorem ZP {q:Que} {i:Nat} (hi:i<q.length):gI (slQ q) i=gQ q i:=by
 have h2:i<(slQ q).length:=by simpa using hi
 rw [←DB h2, ←UF hi]
 simp [slQ]
theorem jK {but:Int} {i:Nat}:mtQ but [] i=decide ((i:Int)=but):=by simp [mtQ,inQ]
theorem hX {os:List AG} {but:Int} {ids:List Int}: ∀i,i≤ids.length→QI os but (D4 os but (ids.take i))
 | 0,_=>by simp [D4];exact QI.nil _ _
 | i+1,hi=>by
   unfold D4
   rw [E9 (by omega)]
   exact (hX i (by omega)).add fun h0=>P5 h0
theorem uJ {os:List AG} {but:Int} {q:Que} {s:Int} (hq:QI os but q) {l:List Int} (hl: ∀j∈l,j.toNat<8∧(ob os j.toNat).live=true): ∀i,i≤l.length→QI os but ((l.take i).foldl (fun q' t=>DZ but q' s t) q)∧M5 q ((l.take i).foldl (fun q' t=>DZ but q' s t) q)
 | 0,_=>⟨by simpa using hq,by simp;exact .refl q⟩
 | i+1,hi=>by
   rw [E9 (by omega)]
   obtain ⟨a,b⟩:=uJ hq hl i (by omega)
   exact ⟨a.add fun _=>hl _ (DJ (by omega)),b.trans .add⟩
theorem Q3 {x:Hp} {ids:List Int} {but:Int} {K:J2} (hx:Fits x) (hof: ∀o∈x.AD,OF o) (hids: ∀v∈ids,F64 v) (hl:ids.length≤1000) (hb: -1≤but∧but<8) (h:K (bxV but (GK x.AD but ids)) [tI (slQ (GK x.AD but ids))]):cl2 ⟨Try.prog,w0⟩ 102 ET.sg [I but] (trees x++[tI ids]) K:=by
 have ol:=hx.ol
 refine ET.cl2 ?_
 unfold ET.txt
 try simp only [trees,List.cons_append,List.nil_append]
 try simp only [AJ,AN,AQ,AR,AK,AE,AL,AI,AS,AP,AU,AT,AM,AO,BJ,BP,BM,BN,BO,BS,BL,A4,A5,A9,A8,BA,A7]
 refine rX (fun xs cs=>xs=bxV but []∧cs=[]) ?_ fun j hj=> ?_
 rotate_left
 ·refine I7 (AW (fun h0=> ?_) fun h0=> ?_)
  ·obtain ⟨k,rfl⟩: ∃k:Nat,but=k:=⟨but.toNat,by omega⟩
   have k8:k<8:=by omega
   refine AH k8 (hj _ _ ⟨?_,rfl⟩)
   have e: ∀i:Nat,arP (iv k) i (.bool true) (.bool false)= .bool (mtQ (k:Int) [] i):=fun i=>by
    rw [e7,jK]
    by_cases hi:k=i
    ·subst hi;simp
    ·rw [if_neg hi,decide_eq_false (by omega)]
   simp only [e]
   rfl
  ·refine hj _ _ ⟨?_,rfl⟩
   have e: ∀i:Nat,mtQ but [] i=false:=fun i=>by rw [jK];exact decide_eq_false (by omega)
   simp only [bxV,e]
   rfl
 rintro xs cs ⟨rfl,rfl⟩
 refine BF (fun i=>iv ids.length::iv i::bxV but (D4 x.AD but (ids.take i))) (fun i=>[tI (slQ (D4 x.AD but (ids.take i)))]) ids.length (fun _=>True) rfl rfl trivial (fun R i hi _ hR=> ?_)
 have hq:=hX (os:=x.AD) (but:=but) i hi
 obtain ⟨q,eq⟩: ∃q,D4 x.AD but (ids.take i)=q:=⟨_,rfl⟩
 rw [eq] at hq ⊢
 have ql:=hq.len
 simp only [AJ,AN,AQ,AR,AK,AE,AL,AI,AS,AP,AU,AT,AM,AO,BJ,BP,BM,BN,BO,BS,BL,A4,A5,A9,A8,BA,A7]
 refine A6 (AW (fun hlt=> ?_) fun hge=> ?_)
 ·have hlt:i<ids.length:=by omega
  have hR:=hR hlt trivial
  have es:D4 x.AD but (ids.take (i+1))=DZ but q (-1) (AB x.AD (gI ids i)):=by
   rw [←eq];unfold D4;exact E9 hlt _ _
  rw [es] at hR
  have fid:F64 (gI ids i):=by rw [←DB hlt];exact hids _ (List.getElem_mem hlt)
  have sb:AB x.AD (gI ids i)<8:=by
   by_cases h0:0≤AB x.AD (gI ids i)
   ·have:=(BH h0).2.2.2.1;omega
   ·omega
  refine AH hlt (ldI hlt (MS fid (by omega) (L4 (but:=but) (q:=q) (s:=AB x.AD (gI ids i)) (p:= -1) ql sb (BB (by omega) ?_))))
  exact hR
 ·have:i=ids.length:=by omega
  subst this
  rw [List.take_length] at eq
  have h8:0<q.length→x.AD.length=8:=fun h0=>by
   have hin:=OZ h0
   rw [←eq] at hin
   obtain ⟨v,_,hv,hv0,_⟩:=(YE x.AD but ids).2.2 _ hin
   exact (BH (l:=x.AD) (id:=v) (by omega)).1
  refine D6 (α:=Nat×Que) (fun s=>iv s.1::bxV but s.2) (fun s=>[tI (slQ s.2)]) (fun s=>9-s.1) (fun s=>QI x.AD but s.2∧(0<s.2.length→x.AD.length=8)∧ ∃f,8<f+s.1∧J1 x.AD but f s.1 s.2=GK x.AD but ids) (0,q) rfl rfl ⟨hq,h8,9,by simp,by unfold GK;rw [eq]⟩ (fun R s hs hR=> ?_)
  clear hq ql eq h8
  obtain ⟨i,q⟩:=s
  obtain ⟨hq,h8,f,hf,hbf⟩:=hs
  simp only at hq h8 hf hbf
  have ql:=hq.len
  have sl:(slQ q).length=q.length:=by simp
  simp only [AJ,AN,AQ,AR,AK,AE,AL,AI,AS,AP,AU,AT,AM,AO,BJ,BP,BM,BN,BO,BS,BL,A4,A5,A9,A8,BA,A7]
  refine A6 (AW (fun hlt=> ?_) fun hge=> ?_)
  ·have hlt':i<(slQ q).length:=by omega
   have hlt:i<q.length:=by omega
   obtain ⟨k,ek,k8,kv,kb⟩:=hq.lv _ (OZ hlt)
   obtain ⟨f,rfl⟩: ∃f',f=f'+1:=⟨f-1,by omega⟩
   have hb':=hbf
   rw [J1,if_pos hlt,ek] at hb'
   unfold QU at hb'
   rw [Int.toNat_natCast] at hb'
   have ol8:x.AD.length=8:=h8 (by omega)
   have kl:=O5 hof (k:=k) (by omega)
   refine AH hlt' (ldI hlt' ?_)
   rw [ZP hlt,ek]
   refine XJ ol8 hof k8 ?_
   obtain ⟨ks,hks⟩: ∃ks,BK x.AD k=ks:=⟨_,rfl⟩
   have hkb: ∀j∈ks,j<8∧j.toNat<8∧(ob x.AD j.toNat).live=true:=fun j hj=>by
    rw [←hks] at hj
    have:=B3 hj
    exact ⟨by omega,this.2.1,this.2.2.2.2⟩
   rw [hks] at hb' kl ⊢
   simp only [AJ,AN,AQ,AR,AK,AE,AL,AI,AS,AP,AU,AT,AM,AO,BJ,BP,BM,BN,BO,BS,BL,A4,A5,A9,A8,BA,A7]
   refine BF (fun j=>iv i::iv ks.length::iv j::bxV but ((ks.take j).foldl (fun q' t=>DZ but q' k t) q)) (fun j=>[tI ks,tI (slQ ((ks.take j).foldl (fun q' t=>DZ but q' k t) q))]) ks.length (fun _=>True) rfl rfl trivial (fun R2 j hj _ hR2=> ?_)
   obtain ⟨hq2,hgr⟩:=uJ (s:=(k:Int)) hq (fun j hj=>(hkb j hj).2) j hj
   obtain ⟨q2,eq2⟩: ∃q2,(ks.take j).foldl (fun q' t=>DZ but q' k t) q=q2:=⟨_,rfl⟩
   rw [eq2] at hq2 hgr ⊢
   have ql2:=hq2.len
   have sl2:(slQ q2).length=q2.length:=by simp
   have gl:=hgr.len
   simp only [AJ,AN,AQ,AR,AK,AE,AL,AI,AS,AP,AU,AT,AM,AO,BJ,BP,BM,BN,BO,BS,BL,A4,A5,A9,A8,BA,A7]
   refine A6 (AW (fun hlj=> ?_) fun hgj=> ?_)
   ·have hlj:j<ks.length:=by omega
    have hR2:=hR2 hlj trivial
    rw [E9 hlj,eq2] at hR2
    refine AH hlj (ldI hlj (AH (j:=i) (by omega) (ldI (by omega) ?_)))
    rw [ZP (by omega),hgr.gq hlt,ek]
    exact L4 (but:=but) (q:=q2) (s:=gI ks j) (p:=(k:Int)) ql2 (hkb _ (DJ hlj)).1 (BB (by omega) hR2)
   ·have:j=ks.length:=by omega
    subst this
    rw [List.take_length] at eq2
    rw [eq2] at hb'
    exact BB (by omega) (hR (i+1,q2) ⟨hq2,fun _=>ol8,f,by simp only at hf ⊢;omega,hb'⟩ (by simp only;omega))
  ·rw [←hbf] at h
   cases f with
   | zero=>exact h
   | succ f=>rw [J1,if_neg (by omega)] at h;exact h
end Go.Proofs.Ytklmcfpgdfibnaa.P
