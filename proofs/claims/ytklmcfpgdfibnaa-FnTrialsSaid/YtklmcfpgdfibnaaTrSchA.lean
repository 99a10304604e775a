/- A part of the proof. -/
import Derived.Test.YtklmcfpgdfibnaaTrBfsA
namespace Go.Proofs.Ytklmcfpgdfibnaa.P
open Go Go.Proofs.Ytklmcfpgdfibnaa Go.Proofs.Ytklmcfpgdfibnaa.Eng
set_option linter.unusedVariables false
set_option maxHeartbeats 4000000
set_option linter.unusedVariables false
set_option linter.unusedSimpArgs false
attribute [local irreducible] prP gP gE gF AX ixW ldc ldg ldl stc stg scW mkW apW BF cl2 BS DK CW
variable {w0:World}
theorem aT {N i:Nat} {I0:Value} {CS:List T} {PRE:List Nat} {x b:Int} {c:Prop} [Decidable c] {acc:List Int} {Q1:Value→Prop} {Q2:Prop} (hix: ∀K:Value→Prop,K (iv i)→ixW N I0 K) (hld: ∀K:Value→Prop,K (I x)→ldc CS PRE (AB (iv i)*1) K) (hl:acc.length≤100) (h1:c→x∉acc→x≠b→Q1 (I x)) (h2: ¬(c∧x∉acc∧x≠b)→Q2):
  gE (.bool (decide c)) (
  gE (.bool (decide c)) (
  gE (.bool (decide c)) (
  gP (.bool (decide c)) true (ixW N I0) fun t30=>
  gP (.bool (decide c)) true (ldc CS PRE ((AB t30)*1)) fun t31=>
  gP (.bool (decide c)) true ((fun K=>cl2 ⟨Try.prog,w0⟩ 89 CH.sg [t31] [tI acc] fun v18 d19=>K (nx v18 0))) fun t32=>
  gP (.bool (decide c)) true (prP (un .not t32)) fun t33=>
  prP (pk (.bool (decide c)) t33 (.bool false)) fun t34=>
  gE t34 (
  gE t34 (
  gP t34 true (ixW N I0) fun t38=>
  gP t34 true (ldc CS PRE ((AB t38)*1)) fun t39=>
  gE t34 (
  gP t34 true (prP (bnI .neq t39 (I b))) fun t41=>
  prP (pk t34 t41 (.bool false)) fun t42=>
  AX t42 (
  ixW N I0 fun t46=>
  ldc CS PRE ((AB t46)*1) fun t47=>
  apW [T.c t47] true acc.length 1 8 (Q1 t47)) Q2)))))):=by
 by_cases hc:c
 ·refine BX (BX (BX (JQ hc (hix _ (JQ hc (hld _ (JQ hc (HK (by omega) ?_))))))))
  by_cases hm:x∈acc
  ·have e:(.bool (decide (x∈acc)):Value)= .bool true:=by rw [decide_eq_true hm]
   simp only [BJ]
   rw [e]
   exact JQ hc (CT (FG hc rfl (BX (BX (IM (IM (BX (IM (X6 rfl (CB (h2 fun hh=>hh.2.1 hm)))))))))))
  ·have e:(.bool (decide (x∈acc)):Value)= .bool false:=by rw [decide_eq_false hm]
   simp only [BJ]
   rw [e]
   refine JQ hc (CT (FG hc rfl (BX (BX (JN (hix _ (JN (hld _ (BX (JN (CI (TA rfl (AW (fun hb=> ?_) fun hb=> ?_)))))))))))))
   ·exact hix _ (hld _ (EH rfl (by omega) (h1 hc hm hb)))
   ·exact h2 fun hh=>hb hh.2.2
 ·exact BX (BX (BX (NB hc (NB hc (NB hc (NB hc (FM hc rfl (BX (BX (IM (IM (BX (IM (X6 rfl (CB (h2 fun hh=>hc hh.1))))))))))))))))
def V4 (os:List AG) (s:Int):Int:=s+8*(ob os s.toNat).gen
def KY (os:List AG) (q:Que):List Int:=q.map fun e=>V4 os e.1
theorem N9 {os:List AG} {x:Int} (h:0≤AA os x):x=V4 os (AA os x):=by
 have hb:=BD h
 unfold V4;omega
theorem T1 {os:List AG} {but:Int} {q:Que} (h:QI os but q) {x:Int} (hx:0≤AA os x):x∈KY os q↔inQ q (AA os x):=by
 unfold KY inQ
 simp only [List.mem_map]
 constructor
 ·rintro ⟨e,he,hr⟩
  obtain ⟨k,h1,k8,_⟩:=h.lv e.1 (List.mem_map.2 ⟨e,he,rfl⟩)
  have:=(BD hx).2.2.1
  refine ⟨e,he, ?_⟩
  unfold V4 at hr
  omega
 ·rintro ⟨e,he,hr⟩
  exact ⟨e,he,by rw [hr];exact (N9 hx).symm⟩
theorem OK (os:List AG) (q:Que):(KY os q).length=q.length:=by simp [KY]
theorem mI {os:List AG} {q:Que} {i:Nat} (hi:i<q.length):gI (KY os q) i=V4 os (gQ q i):=by
 have h2:i<(KY os q).length:=by rw [OK];exact hi
 rw [←DA h2, ←l8 hi]
 simp [KY]
theorem ZU {os:List AG} {b:Int} {q:Que} {p x:Int} (h:QI os (AA os b) q):
  (0≤AA os x→x∉KY os q→x≠b→KY os (JZ (AA os b) q p (AA os x))=KY os q++[x])∧
  (¬(AA os x≥0∧x∉KY os q∧x≠b)→KY os (JZ (AA os b) q p (AA os x))=KY os q):=by
 constructor
 ·intro h0 hm hb
  rw [T1 h h0] at hm
  have:AA os x≠AA os b:=fun he=>hb (by rw [N9 h0,he];exact (N9 (by omega)).symm)
  unfold JZ
  rw [if_neg (by simp only [not_or];exact ⟨by omega,this,hm⟩)]
  simp only [KY,List.map_append,List.map_cons,List.map_nil]
  rw [←N9 h0]
 ·intro hn
  unfold JZ
  rw [if_pos]
  by_cases h0:0≤AA os x
  ·by_cases hm:x∈KY os q
   ·exact .inr (.inr ((T1 h h0).1 hm))
   ·by_cases hb:x=b
    ·exact .inr (.inl (by rw [hb]))
    ·exact absurd ⟨h0,hm,hb⟩ hn
  ·exact .inl (by omega)
structure QB (os:List AG) (b:Int) (q:Que):Prop where
 qi:QI os (AA os b) q
 rid: ∀s,inQ q s→AA os (V4 os s)=s
theorem QB.nil (os:List AG) (b:Int):QB os b []:=⟨QI.nil _ _,fun s h=>by simp [inQ] at h⟩
theorem QB.add {os:List AG} {b:Int} {q:Que} {p:Int} (h:QB os b q) (x:Int):QB os b (JZ (AA os b) q p (AA os x)):=by
 refine ⟨h.qi.add fun h0=>fM h0,fun s hs=> ?_⟩
 rcases eJ hs with hs | ⟨rfl,h0,_⟩
 ·exact h.rid s hs
 ·rw [←N9 h0]
theorem M4 {l:List Int} {i:Nat} (hi:i<l.length) {α:Type} (f:α→Int→α) (a:α):(l.take (i+1)).foldl f a=f ((l.take i).foldl f a) (gI l i):=by
 rw [List.take_succ_eq_append_getElem hi,List.foldl_append,DA hi];rfl
theorem UL {os:List AG} {b:Int} {ids:List Int}: ∀i,i≤ids.length→QB os b (H2 os (AA os b) (ids.take i))
 | 0,_=>by simp [H2];exact QB.nil _ _
 | i+1,hi=>by
   unfold H2
   rw [M4 (by omega)]
   exact (UL i (by omega)).add _
def WD (os:List AG) (but:Int) (q:Que) (s:Int) (l:List Int):Que:=l.foldl (fun q' f=>JZ but q' s (AA os f)) q
theorem iL {os:List AG} {but:Int} {q:Que} {s:Int}:SB os but q s=WD os but q s (ob os s.toNat).field:=by
 unfold SB WD BE
 generalize (ob os s.toNat).field=l
 induction l generalizing q with
 | nil=>rfl
 | cons f l ih=>
   simp only [List.map_cons,List.foldl_cons,List.filter_cons]
   by_cases h0:0≤AA os f
   ·rw [if_pos (by simpa using h0)]
    simp only [List.foldl_cons]
    exact ih
   ·rw [if_neg (by simpa using h0)]
    have e:JZ but q s (AA os f)=q:=by unfold JZ;rw [if_pos (.inl (by omega))]
    rw [e]
    exact ih
theorem Z4 {os:List AG} {b:Int} {q:Que} {s:Int} (hq:QB os b q) {l:List Int}: ∀i,i≤l.length→QB os b (WD os (AA os b) q s (l.take i))
 | 0,_=>by simp [WD];exact hq
 | i+1,hi=>by
   unfold WD
   rw [M4 (by omega)]
   exact (Z4 hq i (by omega)).add _
theorem S7 {x:Hp} {ids:List Int} {b:Int} {K:J2} (hx:Fits x) (hn:S9 x) (hg: ∀i,i<8→ -1000000≤(ob x.AD i).gen∧(ob x.AD i).gen≤1000000) (hids: ∀v∈ids,F64 v) (hl:ids.length≤1000) (h:K [] [tI (KY x.AD (T3 x.AD (AA x.AD b) ids))]):cl2 ⟨Try.prog,w0⟩ 93 EA.sg [I b] (trees x++[tI ids]) K:=by
 have ol:=hx.ol
 refine EA.cl2 ?_
 unfold EA.txt
 simp only [AJ,AT,AL,AR,AS,AE,AI,AU,AK,AN,AO,AQ,AM,AP,BJ,BO,BL,BM,BN,BP,BK,A9,A4,A6,A7,A8,A5]
 refine BG (fun i=>[I b,iv i]) (fun i=>[tI (KY x.AD (H2 x.AD (AA x.AD b) (ids.take i)))]) ids.length (fun _=>True) rfl rfl trivial (fun R i hi _ hR=> ?_)
 have hq:=UL (os:=x.AD) (b:=b) i hi
 obtain ⟨q,eq⟩: ∃q,H2 x.AD (AA x.AD b) (ids.take i)=q:=⟨_,rfl⟩
 have il:=OK x.AD q
 rw [eq] at hq ⊢
 have ql:=hq.qi.len
 simp only [AJ,AT,AL,AR,AS,AE,AI,AU,AK,AN,AO,AQ,AM,AP,BJ,BO,BL,BM,BN,BP,BK,A9,A4,A6,A7,A8,A5]
 refine BA (AW (fun hlt=>BT ?_) fun hge=> ?_)
 ·have hlt:i<ids.length:=by omega
  have hR:=hR hlt trivial
  have es:H2 x.AD (AA x.AD b) (ids.take (i+1))=JZ (AA x.AD b) q (-1) (AA x.AD (gI ids i)):=by
   rw [←eq];unfold H2;exact M4 hlt _ _
  rw [es] at hR
  obtain ⟨a1,a2⟩:=ZU (p:= -1) (x:=gI ids i) hq.qi
  have fid:F64 (gI ids i):=by rw [←DA hlt];exact hids _ (List.getElem_mem hlt)
  refine AH hlt (ldI hlt (B2 fid (by omega) (KA ?_)))
  refine aT (c:=AA x.AD (gI ids i)≥0) (fun K hK=>AH hlt hK) (fun K hK=>ldI hlt hK) (by omega) (fun h0 hm hb=> ?_) fun hno=> ?_
  ·rw [a1 h0 hm hb, ←DJ] at hR
   exact BB (by omega) hR
  ·rw [a2 hno] at hR
   exact BB (by omega) hR
 ·have:i=ids.length:=by omega
  subst this
  rw [List.take_length] at eq
  refine ER (α:=Nat×Que) (fun s=>[I b,iv s.1]) (fun s=>[tI (KY x.AD s.2)]) (fun s=>9-s.1) (fun s=>QB x.AD b s.2∧ ∃f,8<f+s.1∧V1 x.AD (AA x.AD b) f s.1 s.2=T3 x.AD (AA x.AD b) ids) (0,q) rfl rfl ⟨hq,9,by simp,by unfold T3;rw [eq]⟩ (fun R s hs hR=> ?_)
  obtain ⟨i,q⟩:=s
  obtain ⟨hq,f,hf,hb⟩:=hs
  simp only at hq hf hb
  have ql:=hq.qi.len
  have il:=OK x.AD q
  simp only [AJ,AT,AL,AR,AS,AE,AI,AU,AK,AN,AO,AQ,AM,AP,BJ,BO,BL,BM,BN,BP,BK,A9,A4,A6,A7,A8,A5]
  refine BA (AW (fun hlt=> ?_) fun hge=> ?_)
  ·have hlt':i<(KY x.AD q).length:=by omega
   have hlt:i<q.length:=by omega
   obtain ⟨k,ek,k8,kv,kb⟩:=hq.qi.lv _ (lX hlt)
   obtain ⟨f,rfl⟩: ∃f',f=f'+1:=⟨f-1,by omega⟩
   have hb':=hb
   rw [V1,if_pos hlt,iL,ek,Int.toNat_natCast] at hb'
   have hs:=hq.rid _ (lX hlt)
   rw [ek] at hs
   have ev:gI (KY x.AD q) i=V4 x.AD k:=by rw [mI hlt,ek]
   have hbd:=BD (l:=x.AD) (id:=V4 x.AD k) (by omega)
   have hol:=hbd.1
   have kl:k<x.AD.length:=by omega
   have nk:=hn.ob k
   have fk:=hx.of _ (IS kl)
   have fv:F64 (V4 x.AD k):=by
    have:=hg k k8
    unfold V4
    rw [Int.toNat_natCast]
    exact ⟨by omega,by omega⟩
   refine AH hlt' (ldI hlt' ?_)
   rw [ev]
   refine B2 fv (by omega) ?_
   rw [hs]
   simp only [AJ,AT,AL,AR,AS,AE,AI,AU,AK,AN,AO,AQ,AM,AP,BJ,BO,BL,BM,BN,BP,BK,A9,A4,A6,A7,A8,A5]
   refine AH kl (P1 kl ?_)
   refine BG (fun j=>[I b,iv i,iv (AB (iv k)*8+6),iv j]) (fun j=>[tI (KY x.AD (WD x.AD (AA x.AD b) q k ((ob x.AD k).field.take j)))]) (ob x.AD k).field.length (fun _=>True) rfl (by simp [WD]) trivial (fun R2 j hj _ hR2=> ?_)
   have hq2:=Z4 (s:=(k:Int)) hq (l:=(ob x.AD k).field) j hj
   obtain ⟨q2,eq2⟩: ∃q2,WD x.AD (AA x.AD b) q k ((ob x.AD k).field.take j)=q2:=⟨_,rfl⟩
   have il2:=OK x.AD q2
   rw [eq2] at hq2 ⊢
   have ql2:=hq2.qi.len
   simp only [AJ,AT,AL,AR,AS,AE,AI,AU,AK,AN,AO,AQ,AM,AP,BJ,BO,BL,BM,BN,BP,BK,A9,A4,A6,A7,A8,A5]
   rw [AZ (AB (iv k)*8+6),G6 kl,AE]
   refine BA (AW (fun hlj=>BT ?_) fun hgj=> ?_)
   ·have hlj:j<(ob x.AD k).field.length:=by omega
    have hR2:=hR2 hlj trivial
    have es:WD x.AD (AA x.AD b) q k ((ob x.AD k).field.take (j+1))=JZ (AA x.AD b) q2 k (AA x.AD (gI (ob x.AD k).field j)):=by
     rw [←eq2];unfold WD;exact M4 hlj _ _
    rw [es] at hR2
    obtain ⟨a1,a2⟩:=ZU (p:=(k:Int)) (x:=gI (ob x.AD k).field j) hq2.qi
    have fid:F64 (gI (ob x.AD k).field j):=nk.2.2.2.2.2 _ (DU hlj)
    refine AH hlj (KO kl hlj (B2 fid (by omega) (KA ?_)))
    refine aT (c:=AA x.AD (gI (ob x.AD k).field j)≥0) (fun K hK=>AH hlj hK) (fun K hK=>KO kl hlj hK) (by omega) (fun h0 hm hb=> ?_) fun hno=> ?_
    ·rw [a1 h0 hm hb, ←DJ] at hR2
     exact BB (by omega) hR2
    ·rw [a2 hno] at hR2
     exact BB (by omega) hR2
   ·have:j=(ob x.AD k).field.length:=by omega
    subst this
    rw [List.take_length] at eq2
    refine BB (by omega) (hR (i+1,q2) ⟨hq2,f,by simp only at hf ⊢;omega, ?_⟩ (by simp only;omega))
    simp only
    rw [←eq2]
    exact hb'
  ·rw [←hb] at h
   cases f with
   | zero=>exact h
   | succ f=>rw [V1,if_neg (by omega)] at h;exact h
end Go.Proofs.Ytklmcfpgdfibnaa.P
