/- A part of the proof. -/
import Derived.Test.YtklmcfpgdfibnaaReBfsA
namespace Go.Proofs.Ytklmcfpgdfibnaa.P
open Go Go.Proofs.Ytklmcfpgdfibnaa Go.Proofs.Ytklmcfpgdfibnaa.Eng
set_option linter.unusedVariables false
set_option maxHeartbeats 4000000
set_option linter.unusedVariables false
set_option linter.unusedSimpArgs false
attribute [local irreducible] prP gP gE gF AY ixW ldc ldg ldl stc stg scW mkW apW BD cl2 BQ CZ B9
variable {w0:World}
theorem dZ {N i:Nat} {I0:Value} {CS:List T} {PRE:List Nat} {x b:Int} {c:Prop} [Decidable c] {acc:List Int} {Q1:Value→Prop} {Q2:Prop} (hix: ∀K:Value→Prop,K (iv i)→ixW N I0 K) (hld: ∀K:Value→Prop,K (I x)→ldc CS PRE (AA (iv i)*1) K) (hl:acc.length≤100) (h1:c→x∉acc→x≠b→Q1 (I x)) (h2: ¬(c∧x∉acc∧x≠b)→Q2):
  gE (.bool (decide c)) (
  gE (.bool (decide c)) (
  gE (.bool (decide c)) (
  gP (.bool (decide c)) true (ixW N I0) fun t30=>
  gP (.bool (decide c)) true (ldc CS PRE ((AA t30)*1)) fun t31=>
  gP (.bool (decide c)) true ((fun K=>cl2 ⟨Try.prog,w0⟩ 89 CD.sg [t31] [tI acc] fun v18 d19=>K (nx v18 0))) fun t32=>
  gP (.bool (decide c)) true (prP (un .not t32)) fun t33=>
  prP (pk (.bool (decide c)) t33 (.bool false)) fun t34=>
  gE t34 (
  gE t34 (
  gP t34 true (ixW N I0) fun t38=>
  gP t34 true (ldc CS PRE ((AA t38)*1)) fun t39=>
  gE t34 (
  gP t34 true (prP (bnI .neq t39 (I b))) fun t41=>
  prP (pk t34 t41 (.bool false)) fun t42=>
  AY t42 (
  ixW N I0 fun t46=>
  ldc CS PRE ((AA t46)*1) fun t47=>
  apW [T.c t47] true acc.length 1 8 (Q1 t47)) Q2)))))):=by
 by_cases hc:c
 ·refine BC (BC (BC (HG hc (hix _ (HG hc (hld _ (HG hc (HB (by omega) ?_))))))))
  by_cases hm:x∈acc
  ·have e:(.bool (decide (x∈acc)):Value)= .bool true:=by rw [decide_eq_true hm]
   simp only [BJ]
   rw [e]
   exact HG hc (CC (DX hc rfl (BC (BC (FY (FY (BC (FY (SP rfl (B6 (h2 fun hh=>hh.2.1 hm)))))))))))
  ·have e:(.bool (decide (x∈acc)):Value)= .bool false:=by rw [decide_eq_false hm]
   simp only [BJ]
   rw [e]
   refine HG hc (CC (DX hc rfl (BC (BC (GP (hix _ (GP (hld _ (BC (GP (C0 (OU rfl (AW (fun hb=> ?_) fun hb=> ?_)))))))))))))
   ·exact hix _ (hld _ (DH rfl (by omega) (h1 hc hm hb)))
   ·exact h2 fun hh=>hb hh.2.2
 ·exact BC (BC (BC (JG hc (JG hc (JG hc (JG hc (EH hc rfl (BC (BC (FY (FY (BC (FY (SP rfl (B6 (h2 fun hh=>hc hh.1))))))))))))))))
def W3 (os:List AG) (s:Int):Int:=s+8*(ob os s.toNat).gen
def KI (os:List AG) (q:Que):List Int:=q.map fun e=>W3 os e.1
theorem NA {os:List AG} {x:Int} (h:0≤AB os x):x=W3 os (AB os x):=by
 have hb:=BH h
 unfold W3;omega
theorem SF {os:List AG} {but:Int} {q:Que} (h:QI os but q) {x:Int} (hx:0≤AB os x):x∈KI os q↔inQ q (AB os x):=by
 unfold KI inQ
 simp only [List.mem_map]
 constructor
 ·rintro ⟨e,he,hr⟩
  obtain ⟨k,h1,k8,_⟩:=h.lv e.1 (List.mem_map.2 ⟨e,he,rfl⟩)
  have:=(BH hx).2.2.1
  refine ⟨e,he, ?_⟩
  unfold W3 at hr
  omega
 ·rintro ⟨e,he,hr⟩
  exact ⟨e,he,by rw [hr];exact (NA hx).symm⟩
theorem NB (os:List AG) (q:Que):(KI os q).length=q.length:=by simp [KI]
theorem nD {os:List AG} {q:Que} {i:Nat} (hi:i<q.length):gI (KI os q) i=W3 os (gQ q i):=by
 have h2:i<(KI os q).length:=by rw [NB];exact hi
 rw [←DB h2, ←UF hi]
 simp [KI]
theorem dJ {os:List AG} {b:Int} {q:Que} {p x:Int} (h:QI os (AB os b) q):
  (0≤AB os x→x∉KI os q→x≠b→KI os (DZ (AB os b) q p (AB os x))=KI os q++[x])∧
  (¬(AB os x≥0∧x∉KI os q∧x≠b)→KI os (DZ (AB os b) q p (AB os x))=KI os q):=by
 constructor
 ·intro h0 hm hb
  rw [SF h h0] at hm
  have:AB os x≠AB os b:=fun he=>hb (by rw [NA h0,he];exact (NA (by omega)).symm)
  unfold DZ
  rw [if_neg (by simp only [not_or];exact ⟨by omega,this,hm⟩)]
  simp only [KI,List.map_append,List.map_cons,List.map_nil]
  rw [←NA h0]
 ·intro hn
  unfold DZ
  rw [if_pos]
  by_cases h0:0≤AB os x
  ·by_cases hm:x∈KI os q
   ·exact .inr (.inr ((SF h h0).1 hm))
   ·by_cases hb:x=b
    ·exact .inr (.inl (by rw [hb]))
    ·exact absurd ⟨h0,hm,hb⟩ hn
  ·exact .inl (by omega)
structure QB (os:List AG) (b:Int) (q:Que):Prop where
 qi:QI os (AB os b) q
 rid: ∀s,inQ q s→AB os (W3 os s)=s
theorem QB.nil (os:List AG) (b:Int):QB os b []:=⟨QI.nil _ _,fun s h=>by simp [inQ] at h⟩
theorem QB.add {os:List AG} {b:Int} {q:Que} {p:Int} (h:QB os b q) (x:Int):QB os b (DZ (AB os b) q p (AB os x)):=by
 refine ⟨h.qi.add fun h0=>P5 h0,fun s hs=> ?_⟩
 rcases jM hs with hs | ⟨rfl,h0,_⟩
 ·exact h.rid s hs
 ·rw [←NA h0]
theorem E9 {l:List Int} {i:Nat} (hi:i<l.length) {α:Type} (f:α→Int→α) (a:α):(l.take (i+1)).foldl f a=f ((l.take i).foldl f a) (gI l i):=by
 rw [List.take_succ_eq_append_getElem hi,List.foldl_append,DB hi];rfl
theorem RL {os:List AG} {b:Int} {ids:List Int}: ∀i,i≤ids.length→QB os b (D4 os (AB os b) (ids.take i))
 | 0,_=>by simp [D4];exact QB.nil _ _
 | i+1,hi=>by
   unfold D4
   rw [E9 (by omega)]
   exact (RL i (by omega)).add _
def OM (os:List AG) (but:Int) (q:Que) (s:Int) (l:List Int):Que:=l.foldl (fun q' f=>DZ but q' s (AB os f)) q
theorem TJ {os:List AG} {but:Int} {q:Que} {s:Int}:QU os but q s=OM os but q s (ob os s.toNat).field:=by
 unfold QU OM BK
 generalize (ob os s.toNat).field=l
 induction l generalizing q with
 | nil=>rfl
 | cons f l ih=>
   simp only [List.map_cons,List.foldl_cons,List.filter_cons]
   by_cases h0:0≤AB os f
   ·rw [if_pos (by simpa using h0)]
    simp only [List.foldl_cons]
    exact ih
   ·rw [if_neg (by simpa using h0)]
    have e:DZ but q s (AB os f)=q:=by unfold DZ;rw [if_pos (.inl (by omega))]
    rw [e]
    exact ih
theorem bK {os:List AG} {b:Int} {q:Que} {s:Int} (hq:QB os b q) {l:List Int}: ∀i,i≤l.length→QB os b (OM os (AB os b) q s (l.take i))
 | 0,_=>by simp [OM];exact hq
 | i+1,hi=>by
   unfold OM
   rw [E9 (by omega)]
   exact (bK hq i (by omega)).add _
theorem OI {x:Hp} {ids:List Int} {b:Int} {K:J2} (hx:Fits x) (hn:UP x) (hg: ∀i,i<8→ -1000000≤(ob x.AD i).gen∧(ob x.AD i).gen≤1000000) (hids: ∀v∈ids,F64 v) (hl:ids.length≤1000) (h:K [] [tI (KI x.AD (GK x.AD (AB x.AD b) ids))]):cl2 ⟨Try.prog,w0⟩ 93 DF.sg [I b] (trees x++[tI ids]) K:=by
 have ol:=hx.ol
 refine DF.cl2 ?_
 unfold DF.txt
 simp only [AJ,AN,AQ,AR,AK,AE,AL,AI,AS,AP,AU,AT,AM,AO,BJ,BP,BM,BN,BO,BS,BL,A4,A5,A9,A8,BA,A7]
 refine BF (fun i=>[I b,iv i]) (fun i=>[tI (KI x.AD (D4 x.AD (AB x.AD b) (ids.take i)))]) ids.length (fun _=>True) rfl rfl trivial (fun R i hi _ hR=> ?_)
 have hq:=RL (os:=x.AD) (b:=b) i hi
 obtain ⟨q,eq⟩: ∃q,D4 x.AD (AB x.AD b) (ids.take i)=q:=⟨_,rfl⟩
 have il:=NB x.AD q
 rw [eq] at hq ⊢
 have ql:=hq.qi.len
 simp only [AJ,AN,AQ,AR,AK,AE,AL,AI,AS,AP,AU,AT,AM,AO,BJ,BP,BM,BN,BO,BS,BL,A4,A5,A9,A8,BA,A7]
 refine A6 (AW (fun hlt=>BT ?_) fun hge=> ?_)
 ·have hlt:i<ids.length:=by omega
  have hR:=hR hlt trivial
  have es:D4 x.AD (AB x.AD b) (ids.take (i+1))=DZ (AB x.AD b) q (-1) (AB x.AD (gI ids i)):=by
   rw [←eq];unfold D4;exact E9 hlt _ _
  rw [es] at hR
  obtain ⟨a1,a2⟩:=dJ (p:= -1) (x:=gI ids i) hq.qi
  have fid:F64 (gI ids i):=by rw [←DB hlt];exact hids _ (List.getElem_mem hlt)
  refine AH hlt (ldI hlt (BY fid (by omega) (I7 ?_)))
  refine dZ (c:=AB x.AD (gI ids i)≥0) (fun K hK=>AH hlt hK) (fun K hK=>ldI hlt hK) (by omega) (fun h0 hm hb=> ?_) fun hno=> ?_
  ·rw [a1 h0 hm hb, ←CU] at hR
   exact BB (by omega) hR
  ·rw [a2 hno] at hR
   exact BB (by omega) hR
 ·have:i=ids.length:=by omega
  subst this
  rw [List.take_length] at eq
  refine D6 (α:=Nat×Que) (fun s=>[I b,iv s.1]) (fun s=>[tI (KI x.AD s.2)]) (fun s=>9-s.1) (fun s=>QB x.AD b s.2∧ ∃f,8<f+s.1∧J1 x.AD (AB x.AD b) f s.1 s.2=GK x.AD (AB x.AD b) ids) (0,q) rfl rfl ⟨hq,9,by simp,by unfold GK;rw [eq]⟩ (fun R s hs hR=> ?_)
  obtain ⟨i,q⟩:=s
  obtain ⟨hq,f,hf,hb⟩:=hs
  simp only at hq hf hb
  have ql:=hq.qi.len
  have il:=NB x.AD q
  simp only [AJ,AN,AQ,AR,AK,AE,AL,AI,AS,AP,AU,AT,AM,AO,BJ,BP,BM,BN,BO,BS,BL,A4,A5,A9,A8,BA,A7]
  refine A6 (AW (fun hlt=> ?_) fun hge=> ?_)
  ·have hlt':i<(KI x.AD q).length:=by omega
   have hlt:i<q.length:=by omega
   obtain ⟨k,ek,k8,kv,kb⟩:=hq.qi.lv _ (OZ hlt)
   obtain ⟨f,rfl⟩: ∃f',f=f'+1:=⟨f-1,by omega⟩
   have hb':=hb
   rw [J1,if_pos hlt,TJ,ek,Int.toNat_natCast] at hb'
   have hs:=hq.rid _ (OZ hlt)
   rw [ek] at hs
   have ev:gI (KI x.AD q) i=W3 x.AD k:=by rw [nD hlt,ek]
   have hbd:=BH (l:=x.AD) (id:=W3 x.AD k) (by omega)
   have hol:=hbd.1
   have kl:k<x.AD.length:=by omega
   have nk:=hn.ob k
   have fk:=hx.of _ (I4 kl)
   have fv:F64 (W3 x.AD k):=by
    have:=hg k k8
    unfold W3
    rw [Int.toNat_natCast]
    exact ⟨by omega,by omega⟩
   refine AH hlt' (ldI hlt' ?_)
   rw [ev]
   refine BY fv (by omega) ?_
   rw [hs]
   simp only [AJ,AN,AQ,AR,AK,AE,AL,AI,AS,AP,AU,AT,AM,AO,BJ,BP,BM,BN,BO,BS,BL,A4,A5,A9,A8,BA,A7]
   refine AH kl (TI kl ?_)
   refine BF (fun j=>[I b,iv i,iv (AA (iv k)*8+6),iv j]) (fun j=>[tI (KI x.AD (OM x.AD (AB x.AD b) q k ((ob x.AD k).field.take j)))]) (ob x.AD k).field.length (fun _=>True) rfl (by simp [OM]) trivial (fun R2 j hj _ hR2=> ?_)
   have hq2:=bK (s:=(k:Int)) hq (l:=(ob x.AD k).field) j hj
   obtain ⟨q2,eq2⟩: ∃q2,OM x.AD (AB x.AD b) q k ((ob x.AD k).field.take j)=q2:=⟨_,rfl⟩
   have il2:=NB x.AD q2
   rw [eq2] at hq2 ⊢
   have ql2:=hq2.qi.len
   simp only [AJ,AN,AQ,AR,AK,AE,AL,AI,AS,AP,AU,AT,AM,AO,BJ,BP,BM,BN,BO,BS,BL,A4,A5,A9,A8,BA,A7]
   rw [AV (AA (iv k)*8+6),HT kl,AE]
   refine A6 (AW (fun hlj=>BT ?_) fun hgj=> ?_)
   ·have hlj:j<(ob x.AD k).field.length:=by omega
    have hR2:=hR2 hlj trivial
    have es:OM x.AD (AB x.AD b) q k ((ob x.AD k).field.take (j+1))=DZ (AB x.AD b) q2 k (AB x.AD (gI (ob x.AD k).field j)):=by
     rw [←eq2];unfold OM;exact E9 hlj _ _
    rw [es] at hR2
    obtain ⟨a1,a2⟩:=dJ (p:=(k:Int)) (x:=gI (ob x.AD k).field j) hq2.qi
    have fid:F64 (gI (ob x.AD k).field j):=nk.2.2.2.2.2 _ (DJ hlj)
    refine AH hlj (MR kl hlj (BY fid (by omega) (I7 ?_)))
    refine dZ (c:=AB x.AD (gI (ob x.AD k).field j)≥0) (fun K hK=>AH hlj hK) (fun K hK=>MR kl hlj hK) (by omega) (fun h0 hm hb=> ?_) fun hno=> ?_
    ·rw [a1 h0 hm hb, ←CU] at hR2
     exact BB (by omega) hR2
    ·rw [a2 hno] at hR2
     exact BB (by omega) hR2
   ·have:j=(ob x.AD k).field.length:=by omega
    subst this
    rw [List.take_length] at eq2
    refine BB (by omega) (hR (i+1,q2) ⟨hq2,f,by simp only at hf ⊢;omega, ?_⟩ (by simp only;omega))
    simp only
    rw [←eq2]
    exact hb'
  ·rw [←hb] at h
   cases f with
   | zero=>exact h
   | succ f=>rw [J1,if_neg (by omega)] at h;exact h
end Go.Proofs.Ytklmcfpgdfibnaa.P
