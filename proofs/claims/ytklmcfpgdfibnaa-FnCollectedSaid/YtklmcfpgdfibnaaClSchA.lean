/- A part of the proof. -/
import Derived.Test.YtklmcfpgdfibnaaClBfsA
namespace Go.Proofs.Ytklmcfpgdfibnaa.P
open Go Go.Proofs.Ytklmcfpgdfibnaa Go.Proofs.Ytklmcfpgdfibnaa.Eng
set_option linter.unusedVariables false
set_option maxHeartbeats 4000000
set_option linter.unusedVariables false
set_option linter.unusedSimpArgs false
attribute [local irreducible] prP gP gE gF A7 ixW ldc ldg ldl stc stg scW mkW apW BD cl2 BP DT C0
variable {w0:World}
theorem dS {N i:Nat} {I0:Value} {CS:List T} {PRE:List Nat} {x b:Int} {c:Prop} [Decidable c] {acc:List Int} {Q1:Value→Prop} {Q2:Prop} (hix: ∀K:Value→Prop,K (iv i)→ixW N I0 K) (hld: ∀K:Value→Prop,K (I x)→ldc CS PRE (AB (iv i)*1) K) (hl:acc.length≤100) (h1:c→x∉acc→x≠b→Q1 (I x)) (h2: ¬(c∧x∉acc∧x≠b)→Q2):
  gE (.bool (decide c)) (
  gE (.bool (decide c)) (
  gE (.bool (decide c)) (
  gP (.bool (decide c)) true (ixW N I0) fun t30=>
  gP (.bool (decide c)) true (ldc CS PRE ((AB t30)*1)) fun t31=>
  gP (.bool (decide c)) true ((fun K=>cl2 ⟨Try.prog,w0⟩ 89 CN.sg [t31] [tI acc] fun v18 d19=>K (nx v18 0))) fun t32=>
  gP (.bool (decide c)) true (prP (un .not t32)) fun t33=>
  prP (pk (.bool (decide c)) t33 (.bool false)) fun t34=>
  gE t34 (
  gE t34 (
  gP t34 true (ixW N I0) fun t38=>
  gP t34 true (ldc CS PRE ((AB t38)*1)) fun t39=>
  gE t34 (
  gP t34 true (prP (bnI .neq t39 (I b))) fun t41=>
  prP (pk t34 t41 (.bool false)) fun t42=>
  A7 t42 (
  ixW N I0 fun t46=>
  ldc CS PRE ((AB t46)*1) fun t47=>
  apW [T.c t47] true acc.length 1 8 (Q1 t47)) Q2)))))):=by
 by_cases hc:c
 ·refine BU (BU (BU (KX hc (hix _ (KX hc (hld _ (KX hc (IE (by omega) ?_))))))))
  by_cases hm:x∈acc
  ·have e:(.bool (decide (x∈acc)):Value)= .bool true:=by rw [decide_eq_true hm]
   simp only [BE]
   rw [e]
   exact KX hc (C3 (FI hc rfl (BU (BU (JW (JW (BU (JW (ZI rfl (B7 (h2 fun hh=>hh.2.1 hm)))))))))))
  ·have e:(.bool (decide (x∈acc)):Value)= .bool false:=by rw [decide_eq_false hm]
   simp only [BE]
   rw [e]
   refine KX hc (C3 (FI hc rfl (BU (BU (HG (hix _ (HG (hld _ (BU (HG (CP (OA rfl (AW (fun hb=> ?_) fun hb=> ?_)))))))))))))
   ·exact hix _ (hld _ (DQ rfl (by omega) (h1 hc hm hb)))
   ·exact h2 fun hh=>hb hh.2.2
 ·exact BU (BU (BU (OQ hc (OQ hc (OQ hc (OQ hc (FL hc rfl (BU (BU (JW (JW (BU (JW (ZI rfl (B7 (h2 fun hh=>hc hh.1))))))))))))))))
def X2 (os:List AT) (s:Int):Int:=s+8*(ob os s.toNat).gen
def KM (os:List AT) (q:Que):List Int:=q.map fun e=>X2 os e.1
theorem P1 {os:List AT} {x:Int} (h:0≤AA os x):x=X2 os (AA os x):=by
 have hb:=BN h
 unfold X2;omega
theorem R0 {os:List AT} {but:Int} {q:Que} (h:QI os but q) {x:Int} (hx:0≤AA os x):x∈KM os q↔inQ q (AA os x):=by
 unfold KM inQ
 simp only [List.mem_map]
 constructor
 ·rintro ⟨e,he,hr⟩
  obtain ⟨k,h1,k8,_⟩:=h.lv e.1 (List.mem_map.2 ⟨e,he,rfl⟩)
  have:=(BN hx).2.2.1
  refine ⟨e,he, ?_⟩
  unfold X2 at hr
  omega
 ·rintro ⟨e,he,hr⟩
  exact ⟨e,he,by rw [hr];exact (P1 hx).symm⟩
theorem PU (os:List AT) (q:Que):(KM os q).length=q.length:=by simp [KM]
theorem nI {os:List AT} {q:Que} {i:Nat} (hi:i<q.length):gI (KM os q) i=X2 os (gQ q i):=by
 have h2:i<(KM os q).length:=by rw [PU];exact hi
 rw [←DP h2, ←hZ hi]
 simp [KM]
theorem cZ {os:List AT} {b:Int} {q:Que} {p x:Int} (h:QI os (AA os b) q):
  (0≤AA os x→x∉KM os q→x≠b→KM os (G5 (AA os b) q p (AA os x))=KM os q++[x])∧
  (¬(AA os x≥0∧x∉KM os q∧x≠b)→KM os (G5 (AA os b) q p (AA os x))=KM os q):=by
 constructor
 ·intro h0 hm hb
  rw [R0 h h0] at hm
  have:AA os x≠AA os b:=fun he=>hb (by rw [P1 h0,he];exact (P1 (by omega)).symm)
  unfold G5
  rw [if_neg (by simp only [not_or];exact ⟨by omega,this,hm⟩)]
  simp only [KM,List.map_append,List.map_cons,List.map_nil]
  rw [←P1 h0]
 ·intro hn
  unfold G5
  rw [if_pos]
  by_cases h0:0≤AA os x
  ·by_cases hm:x∈KM os q
   ·exact .inr (.inr ((R0 h h0).1 hm))
   ·by_cases hb:x=b
    ·exact .inr (.inl (by rw [hb]))
    ·exact absurd ⟨h0,hm,hb⟩ hn
  ·exact .inl (by omega)
structure QB (os:List AT) (b:Int) (q:Que):Prop where
 qi:QI os (AA os b) q
 rid: ∀s,inQ q s→AA os (X2 os s)=s
theorem QB.nil (os:List AT) (b:Int):QB os b []:=⟨QI.nil _ _,fun s h=>by simp [inQ] at h⟩
theorem QB.add {os:List AT} {b:Int} {q:Que} {p:Int} (h:QB os b q) (x:Int):QB os b (G5 (AA os b) q p (AA os x)):=by
 refine ⟨h.qi.add fun h0=>ZZ h0,fun s hs=> ?_⟩
 rcases gX hs with hs | ⟨rfl,h0,_⟩
 ·exact h.rid s hs
 ·rw [←P1 h0]
theorem HU {l:List Int} {i:Nat} (hi:i<l.length) {α:Type} (f:α→Int→α) (a:α):(l.take (i+1)).foldl f a=f ((l.take i).foldl f a) (gI l i):=by
 rw [List.take_succ_eq_append_getElem hi,List.foldl_append,DP hi];rfl
theorem XH {os:List AT} {b:Int} {ids:List Int}: ∀i,i≤ids.length→QB os b (GC os (AA os b) (ids.take i))
 | 0,_=>by simp [GC];exact QB.nil _ _
 | i+1,hi=>by
   unfold GC
   rw [HU (by omega)]
   exact (XH i (by omega)).add _
def XY (os:List AT) (but:Int) (q:Que) (s:Int) (l:List Int):Que:=l.foldl (fun q' f=>G5 but q' s (AA os f)) q
theorem lA {os:List AT} {but:Int} {q:Que} {s:Int}:R7 os but q s=XY os but q s (ob os s.toNat).field:=by
 unfold R7 XY BO
 generalize (ob os s.toNat).field=l
 induction l generalizing q with
 | nil=>rfl
 | cons f l ih=>
   simp only [List.map_cons,List.foldl_cons,List.filter_cons]
   by_cases h0:0≤AA os f
   ·rw [if_pos (by simpa using h0)]
    simp only [List.foldl_cons]
    exact ih
   ·rw [if_neg (by simpa using h0)]
    have e:G5 but q s (AA os f)=q:=by unfold G5;rw [if_pos (.inl (by omega))]
    rw [e]
    exact ih
theorem cF {os:List AT} {b:Int} {q:Que} {s:Int} (hq:QB os b q) {l:List Int}: ∀i,i≤l.length→QB os b (XY os (AA os b) q s (l.take i))
 | 0,_=>by simp [XY];exact hq
 | i+1,hi=>by
   unfold XY
   rw [HU (by omega)]
   exact (cF hq i (by omega)).add _
theorem UT {x:Hp} {ids:List Int} {b:Int} {K:J2} (hx:Fits x) (hn:UG x) (hg: ∀i,i<8→ -1000000≤(ob x.AD i).gen∧(ob x.AD i).gen≤1000000) (hids: ∀v∈ids,F64 v) (hl:ids.length≤1000) (h:K [] [tI (KM x.AD (LK x.AD (AA x.AD b) ids))]):cl2 ⟨Try.prog,w0⟩ 93 EO.sg [I b] (trees x++[tI ids]) K:=by
 have ol:=hx.ol
 refine EO.cl2 ?_
 unfold EO.txt
 simp only [AG,AR,AL,AJ,AK,AE,AH,AO,AI,AS,AN,AM,AP,AQ,BE,BM,BJ,BL,BH,BK,BF,A5,AX,AY,A4,A6,AZ]
 refine BC (fun i=>[I b,iv i]) (fun i=>[tI (KM x.AD (GC x.AD (AA x.AD b) (ids.take i)))]) ids.length (fun _=>True) rfl rfl trivial (fun R i hi _ hR=> ?_)
 have hq:=XH (os:=x.AD) (b:=b) i hi
 obtain ⟨q,eq⟩: ∃q,GC x.AD (AA x.AD b) (ids.take i)=q:=⟨_,rfl⟩
 have il:=PU x.AD q
 rw [eq] at hq ⊢
 have ql:=hq.qi.len
 simp only [AG,AR,AL,AJ,AK,AE,AH,AO,AI,AS,AN,AM,AP,AQ,BE,BM,BJ,BL,BH,BK,BF,A5,AX,AY,A4,A6,AZ]
 refine A8 (AW (fun hlt=>BQ ?_) fun hge=> ?_)
 ·have hlt:i<ids.length:=by omega
  have hR:=hR hlt trivial
  have es:GC x.AD (AA x.AD b) (ids.take (i+1))=G5 (AA x.AD b) q (-1) (AA x.AD (gI ids i)):=by
   rw [←eq];unfold GC;exact HU hlt _ _
  rw [es] at hR
  obtain ⟨a1,a2⟩:=cZ (p:= -1) (x:=gI ids i) hq.qi
  have fid:F64 (gI ids i):=by rw [←DP hlt];exact hids _ (List.getElem_mem hlt)
  refine AU hlt (ldI hlt (B6 fid (by omega) (LB ?_)))
  refine dS (c:=AA x.AD (gI ids i)≥0) (fun K hK=>AU hlt hK) (fun K hK=>ldI hlt hK) (by omega) (fun h0 hm hb=> ?_) fun hno=> ?_
  ·rw [a1 h0 hm hb, ←C1] at hR
   exact A9 (by omega) hR
  ·rw [a2 hno] at hR
   exact A9 (by omega) hR
 ·have:i=ids.length:=by omega
  subst this
  rw [List.take_length] at eq
  refine FA (α:=Nat×Que) (fun s=>[I b,iv s.1]) (fun s=>[tI (KM x.AD s.2)]) (fun s=>9-s.1) (fun s=>QB x.AD b s.2∧ ∃f,8<f+s.1∧TO x.AD (AA x.AD b) f s.1 s.2=LK x.AD (AA x.AD b) ids) (0,q) rfl rfl ⟨hq,9,by simp,by unfold LK;rw [eq]⟩ (fun R s hs hR=> ?_)
  obtain ⟨i,q⟩:=s
  obtain ⟨hq,f,hf,hb⟩:=hs
  simp only at hq hf hb
  have ql:=hq.qi.len
  have il:=PU x.AD q
  simp only [AG,AR,AL,AJ,AK,AE,AH,AO,AI,AS,AN,AM,AP,AQ,BE,BM,BJ,BL,BH,BK,BF,A5,AX,AY,A4,A6,AZ]
  refine A8 (AW (fun hlt=> ?_) fun hge=> ?_)
  ·have hlt':i<(KM x.AD q).length:=by omega
   have hlt:i<q.length:=by omega
   obtain ⟨k,ek,k8,kv,kb⟩:=hq.qi.lv _ (bW hlt)
   obtain ⟨f,rfl⟩: ∃f',f=f'+1:=⟨f-1,by omega⟩
   have hb':=hb
   rw [TO,if_pos hlt,lA,ek,Int.toNat_natCast] at hb'
   have hs:=hq.rid _ (bW hlt)
   rw [ek] at hs
   have ev:gI (KM x.AD q) i=X2 x.AD k:=by rw [nI hlt,ek]
   have hbd:=BN (l:=x.AD) (id:=X2 x.AD k) (by omega)
   have hol:=hbd.1
   have kl:k<x.AD.length:=by omega
   have nk:=hn.ob k
   have fk:=hx.of _ (JD kl)
   have fv:F64 (X2 x.AD k):=by
    have:=hg k k8
    unfold X2
    rw [Int.toNat_natCast]
    exact ⟨by omega,by omega⟩
   refine AU hlt' (ldI hlt' ?_)
   rw [ev]
   refine B6 fv (by omega) ?_
   rw [hs]
   simp only [AG,AR,AL,AJ,AK,AE,AH,AO,AI,AS,AN,AM,AP,AQ,BE,BM,BJ,BL,BH,BK,BF,A5,AX,AY,A4,A6,AZ]
   refine AU kl (VU kl ?_)
   refine BC (fun j=>[I b,iv i,iv (AB (iv k)*8+6),iv j]) (fun j=>[tI (KM x.AD (XY x.AD (AA x.AD b) q k ((ob x.AD k).field.take j)))]) (ob x.AD k).field.length (fun _=>True) rfl (by simp [XY]) trivial (fun R2 j hj _ hR2=> ?_)
   have hq2:=cF (s:=(k:Int)) hq (l:=(ob x.AD k).field) j hj
   obtain ⟨q2,eq2⟩: ∃q2,XY x.AD (AA x.AD b) q k ((ob x.AD k).field.take j)=q2:=⟨_,rfl⟩
   have il2:=PU x.AD q2
   rw [eq2] at hq2 ⊢
   have ql2:=hq2.qi.len
   simp only [AG,AR,AL,AJ,AK,AE,AH,AO,AI,AS,AN,AM,AP,AQ,BE,BM,BJ,BL,BH,BK,BF,A5,AX,AY,A4,A6,AZ]
   rw [BB (AB (iv k)*8+6),G9 kl,AE]
   refine A8 (AW (fun hlj=>BQ ?_) fun hgj=> ?_)
   ·have hlj:j<(ob x.AD k).field.length:=by omega
    have hR2:=hR2 hlj trivial
    have es:XY x.AD (AA x.AD b) q k ((ob x.AD k).field.take (j+1))=G5 (AA x.AD b) q2 k (AA x.AD (gI (ob x.AD k).field j)):=by
     rw [←eq2];unfold XY;exact HU hlj _ _
    rw [es] at hR2
    obtain ⟨a1,a2⟩:=cZ (p:=(k:Int)) (x:=gI (ob x.AD k).field j) hq2.qi
    have fid:F64 (gI (ob x.AD k).field j):=nk.2.2.2.2.2 _ (DN hlj)
    refine AU hlj (LX kl hlj (B6 fid (by omega) (LB ?_)))
    refine dS (c:=AA x.AD (gI (ob x.AD k).field j)≥0) (fun K hK=>AU hlj hK) (fun K hK=>LX kl hlj hK) (by omega) (fun h0 hm hb=> ?_) fun hno=> ?_
    ·rw [a1 h0 hm hb, ←C1] at hR2
     exact A9 (by omega) hR2
    ·rw [a2 hno] at hR2
     exact A9 (by omega) hR2
   ·have:j=(ob x.AD k).field.length:=by omega
    subst this
    rw [List.take_length] at eq2
    refine A9 (by omega) (hR (i+1,q2) ⟨hq2,f,by simp only at hf ⊢;omega, ?_⟩ (by simp only;omega))
    simp only
    rw [←eq2]
    exact hb'
  ·rw [←hb] at h
   cases f with
   | zero=>exact h
   | succ f=>rw [TO,if_neg (by omega)] at h;exact h
end Go.Proofs.Ytklmcfpgdfibnaa.P
