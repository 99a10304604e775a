/- A part of the proof. -/
import Derived.Test.YtklmcfpgdfibnaaRcBfsA
namespace Go.Proofs.Ytklmcfpgdfibnaa.P
open Go Go.Proofs.Ytklmcfpgdfibnaa Go.Proofs.Ytklmcfpgdfibnaa.Eng
set_option linter.unusedVariables false
set_option maxHeartbeats 4000000
set_option linter.unusedVariables false
set_option linter.unusedSimpArgs false
attribute [local irreducible] prP gP gE gF AW ixW ldc ldg ldl stc stg scW mkW apW BE cl2 BS C6 CO
variable {w0:World}
theorem bQ {N i:Nat} {I0:Value} {CS:List T} {PRE:List Nat} {x b:Int} {c:Prop} [Decidable c] {acc:List Int} {Q1:Value→Prop} {Q2:Prop} (hix: ∀K:Value→Prop,K (iv i)→ixW N I0 K) (hld: ∀K:Value→Prop,K (I x)→ldc CS PRE (AB (iv i)*1) K) (hl:acc.length≤100) (h1:c→x∉acc→x≠b→Q1 (I x)) (h2: ¬(c∧x∉acc∧x≠b)→Q2):
  gE (.bool (decide c)) (
  gE (.bool (decide c)) (
  gE (.bool (decide c)) (
  gP (.bool (decide c)) true (ixW N I0) fun t30=>
  gP (.bool (decide c)) true (ldc CS PRE ((AB t30)*1)) fun t31=>
  gP (.bool (decide c)) true ((fun K=>cl2 ⟨Try.prog,w0⟩ 89 CU.sg [t31] [tI acc] fun v18 d19=>K (nx v18 0))) fun t32=>
  gP (.bool (decide c)) true (prP (un .not t32)) fun t33=>
  prP (pk (.bool (decide c)) t33 (.bool false)) fun t34=>
  gE t34 (
  gE t34 (
  gP t34 true (ixW N I0) fun t38=>
  gP t34 true (ldc CS PRE ((AB t38)*1)) fun t39=>
  gE t34 (
  gP t34 true (prP (bnI .neq t39 (I b))) fun t41=>
  prP (pk t34 t41 (.bool false)) fun t42=>
  AW t42 (
  ixW N I0 fun t46=>
  ldc CS PRE ((AB t46)*1) fun t47=>
  apW [T.c t47] true acc.length 1 8 (Q1 t47)) Q2)))))):=by
 by_cases hc:c
 ·refine BT (BT (BT (HQ hc (hix _ (HQ hc (hld _ (HQ hc (II (by omega) ?_))))))))
  by_cases hm:x∈acc
  ·have e:(.bool (decide (x∈acc)):Value)= .bool true:=by rw [decide_eq_true hm]
   simp only [BH]
   rw [e]
   exact HQ hc (CV (EI hc rfl (BT (BT (JZ (JZ (BT (JZ (bK rfl (B7 (h2 fun hh=>hh.2.1 hm)))))))))))
  ·have e:(.bool (decide (x∈acc)):Value)= .bool false:=by rw [decide_eq_false hm]
   simp only [BH]
   rw [e]
   refine HQ hc (CV (EI hc rfl (BT (BT (KT (hix _ (KT (hld _ (BT (KT (DK (TJ rfl (AX (fun hb=> ?_) fun hb=> ?_)))))))))))))
   ·exact hix _ (hld _ (EH rfl (by omega) (h1 hc hm hb)))
   ·exact h2 fun hh=>hb hh.2.2
 ·exact BT (BT (BT (J1 hc (J1 hc (J1 hc (J1 hc (EJ hc rfl (BT (BT (JZ (JZ (BT (JZ (bK rfl (B7 (h2 fun hh=>hc hh.1))))))))))))))))
def VS (os:List AG) (s:Int):Int:=s+8*(ob os s.toNat).gen
def HJ (os:List AG) (q:Que):List Int:=q.map fun e=>VS os e.1
theorem MN {os:List AG} {x:Int} (h:0≤AA os x):x=VS os (AA os x):=by
 have hb:=BF h
 unfold VS;omega
theorem QW {os:List AG} {but:Int} {q:Que} (h:QI os but q) {x:Int} (hx:0≤AA os x):x∈HJ os q↔inQ q (AA os x):=by
 unfold HJ inQ
 simp only [List.mem_map]
 constructor
 ·rintro ⟨e,he,hr⟩
  obtain ⟨k,h1,k8,_⟩:=h.lv e.1 (List.mem_map.2 ⟨e,he,rfl⟩)
  have:=(BF hx).2.2.1
  refine ⟨e,he, ?_⟩
  unfold VS at hr
  omega
 ·rintro ⟨e,he,hr⟩
  exact ⟨e,he,by rw [hr];exact (MN hx).symm⟩
theorem OD (os:List AG) (q:Que):(HJ os q).length=q.length:=by simp [HJ]
theorem mX {os:List AG} {q:Que} {i:Nat} (hi:i<q.length):gI (HJ os q) i=VS os (gQ q i):=by
 have h2:i<(HJ os q).length:=by rw [OD];exact hi
 rw [←DM h2, ←eT hi]
 simp [HJ]
theorem bI {os:List AG} {b:Int} {q:Que} {p x:Int} (h:QI os (AA os b) q):
  (0≤AA os x→x∉HJ os q→x≠b→HJ os (GD (AA os b) q p (AA os x))=HJ os q++[x])∧
  (¬(AA os x≥0∧x∉HJ os q∧x≠b)→HJ os (GD (AA os b) q p (AA os x))=HJ os q):=by
 constructor
 ·intro h0 hm hb
  rw [QW h h0] at hm
  have:AA os x≠AA os b:=fun he=>hb (by rw [MN h0,he];exact (MN (by omega)).symm)
  unfold GD
  rw [if_neg (by simp only [not_or];exact ⟨by omega,this,hm⟩)]
  simp only [HJ,List.map_append,List.map_cons,List.map_nil]
  rw [←MN h0]
 ·intro hn
  unfold GD
  rw [if_pos]
  by_cases h0:0≤AA os x
  ·by_cases hm:x∈HJ os q
   ·exact .inr (.inr ((QW h h0).1 hm))
   ·by_cases hb:x=b
    ·exact .inr (.inl (by rw [hb]))
    ·exact absurd ⟨h0,hm,hb⟩ hn
  ·exact .inl (by omega)
structure QB (os:List AG) (b:Int) (q:Que):Prop where
 qi:QI os (AA os b) q
 rid: ∀s,inQ q s→AA os (VS os s)=s
theorem QB.nil (os:List AG) (b:Int):QB os b []:=⟨QI.nil _ _,fun s h=>by simp [inQ] at h⟩
theorem QB.add {os:List AG} {b:Int} {q:Que} {p:Int} (h:QB os b q) (x:Int):QB os b (GD (AA os b) q p (AA os x)):=by
 refine ⟨h.qi.add fun h0=>ZE h0,fun s hs=> ?_⟩
 rcases fX hs with hs | ⟨rfl,h0,_⟩
 ·exact h.rid s hs
 ·rw [←MN h0]
theorem HB {l:List Int} {i:Nat} (hi:i<l.length) {α:Type} (f:α→Int→α) (a:α):(l.take (i+1)).foldl f a=f ((l.take i).foldl f a) (gI l i):=by
 rw [List.take_succ_eq_append_getElem hi,List.foldl_append,DM hi];rfl
theorem VA {os:List AG} {b:Int} {ids:List Int}: ∀i,i≤ids.length→QB os b (FF os (AA os b) (ids.take i))
 | 0,_=>by simp [FF];exact QB.nil _ _
 | i+1,hi=>by
   unfold FF
   rw [HB (by omega)]
   exact (VA i (by omega)).add _
def WJ (os:List AG) (but:Int) (q:Que) (s:Int) (l:List Int):Que:=l.foldl (fun q' f=>GD but q' s (AA os f)) q
theorem iC {os:List AG} {but:Int} {q:Que} {s:Int}:QS os but q s=WJ os but q s (ob os s.toNat).field:=by
 unfold QS WJ BJ
 generalize (ob os s.toNat).field=l
 induction l generalizing q with
 | nil=>rfl
 | cons f l ih=>
   simp only [List.map_cons,List.foldl_cons,List.filter_cons]
   by_cases h0:0≤AA os f
   ·rw [if_pos (by simpa using h0)]
    simp only [List.foldl_cons]
    exact ih
   ·rw [if_neg (by simpa using h0)]
    have e:GD but q s (AA os f)=q:=by unfold GD;rw [if_pos (.inl (by omega))]
    rw [e]
    exact ih
theorem bP {os:List AG} {b:Int} {q:Que} {s:Int} (hq:QB os b q) {l:List Int}: ∀i,i≤l.length→QB os b (WJ os (AA os b) q s (l.take i))
 | 0,_=>by simp [WJ];exact hq
 | i+1,hi=>by
   unfold WJ
   rw [HB (by omega)]
   exact (bP hq i (by omega)).add _
theorem TH {x:Hp} {ids:List Int} {b:Int} {K:J2} (hx:Fits x) (hn:TB x) (hg: ∀i,i<8→ -1000000≤(ob x.AD i).gen∧(ob x.AD i).gen≤1000000) (hids: ∀v∈ids,F64 v) (hl:ids.length≤1000) (h:K [] [tI (HJ x.AD (H6 x.AD (AA x.AD b) ids))]):cl2 ⟨Try.prog,w0⟩ 93 D4.sg [I b] (trees x++[tI ids]) K:=by
 have ol:=hx.ol
 refine D4.cl2 ?_
 unfold D4.txt
 simp only [AH,AP,AK,AM,AO,AE,AI,AR,AN,AL,AS,AJ,AT,AQ,BH,BL,BM,BN,BP,BO,BK,A5,A8,A4,A9,A6,A7]
 refine BG (fun i=>[I b,iv i]) (fun i=>[tI (HJ x.AD (FF x.AD (AA x.AD b) (ids.take i)))]) ids.length (fun _=>True) rfl rfl trivial (fun R i hi _ hR=> ?_)
 have hq:=VA (os:=x.AD) (b:=b) i hi
 obtain ⟨q,eq⟩: ∃q,FF x.AD (AA x.AD b) (ids.take i)=q:=⟨_,rfl⟩
 have il:=OD x.AD q
 rw [eq] at hq ⊢
 have ql:=hq.qi.len
 simp only [AH,AP,AK,AM,AO,AE,AI,AR,AN,AL,AS,AJ,AT,AQ,BH,BL,BM,BN,BP,BO,BK,A5,A8,A4,A9,A6,A7]
 refine BA (AX (fun hlt=>BZ ?_) fun hge=> ?_)
 ·have hlt:i<ids.length:=by omega
  have hR:=hR hlt trivial
  have es:FF x.AD (AA x.AD b) (ids.take (i+1))=GD (AA x.AD b) q (-1) (AA x.AD (gI ids i)):=by
   rw [←eq];unfold FF;exact HB hlt _ _
  rw [es] at hR
  obtain ⟨a1,a2⟩:=bI (p:= -1) (x:=gI ids i) hq.qi
  have fid:F64 (gI ids i):=by rw [←DM hlt];exact hids _ (List.getElem_mem hlt)
  refine AU hlt (ldI hlt (BX fid (by omega) (IM ?_)))
  refine bQ (c:=AA x.AD (gI ids i)≥0) (fun K hK=>AU hlt hK) (fun K hK=>ldI hlt hK) (by omega) (fun h0 hm hb=> ?_) fun hno=> ?_
  ·rw [a1 h0 hm hb, ←DJ] at hR
   exact BB (by omega) hR
  ·rw [a2 hno] at hR
   exact BB (by omega) hR
 ·have:i=ids.length:=by omega
  subst this
  rw [List.take_length] at eq
  refine FG (α:=Nat×Que) (fun s=>[I b,iv s.1]) (fun s=>[tI (HJ x.AD s.2)]) (fun s=>9-s.1) (fun s=>QB x.AD b s.2∧ ∃f,8<f+s.1∧SM x.AD (AA x.AD b) f s.1 s.2=H6 x.AD (AA x.AD b) ids) (0,q) rfl rfl ⟨hq,9,by simp,by unfold H6;rw [eq]⟩ (fun R s hs hR=> ?_)
  obtain ⟨i,q⟩:=s
  obtain ⟨hq,f,hf,hb⟩:=hs
  simp only at hq hf hb
  have ql:=hq.qi.len
  have il:=OD x.AD q
  simp only [AH,AP,AK,AM,AO,AE,AI,AR,AN,AL,AS,AJ,AT,AQ,BH,BL,BM,BN,BP,BO,BK,A5,A8,A4,A9,A6,A7]
  refine BA (AX (fun hlt=> ?_) fun hge=> ?_)
  ·have hlt':i<(HJ x.AD q).length:=by omega
   have hlt:i<q.length:=by omega
   obtain ⟨k,ek,k8,kv,kb⟩:=hq.qi.lv _ (bE hlt)
   obtain ⟨f,rfl⟩: ∃f',f=f'+1:=⟨f-1,by omega⟩
   have hb':=hb
   rw [SM,if_pos hlt,iC,ek,Int.toNat_natCast] at hb'
   have hs:=hq.rid _ (bE hlt)
   rw [ek] at hs
   have ev:gI (HJ x.AD q) i=VS x.AD k:=by rw [mX hlt,ek]
   have hbd:=BF (l:=x.AD) (id:=VS x.AD k) (by omega)
   have hol:=hbd.1
   have kl:k<x.AD.length:=by omega
   have nk:=hn.ob k
   have fk:=hx.of _ (IH kl)
   have fv:F64 (VS x.AD k):=by
    have:=hg k k8
    unfold VS
    rw [Int.toNat_natCast]
    exact ⟨by omega,by omega⟩
   refine AU hlt' (ldI hlt' ?_)
   rw [ev]
   refine BX fv (by omega) ?_
   rw [hs]
   simp only [AH,AP,AK,AM,AO,AE,AI,AR,AN,AL,AS,AJ,AT,AQ,BH,BL,BM,BN,BP,BO,BK,A5,A8,A4,A9,A6,A7]
   refine AU kl (OJ kl ?_)
   refine BG (fun j=>[I b,iv i,iv (AB (iv k)*8+6),iv j]) (fun j=>[tI (HJ x.AD (WJ x.AD (AA x.AD b) q k ((ob x.AD k).field.take j)))]) (ob x.AD k).field.length (fun _=>True) rfl (by simp [WJ]) trivial (fun R2 j hj _ hR2=> ?_)
   have hq2:=bP (s:=(k:Int)) hq (l:=(ob x.AD k).field) j hj
   obtain ⟨q2,eq2⟩: ∃q2,WJ x.AD (AA x.AD b) q k ((ob x.AD k).field.take j)=q2:=⟨_,rfl⟩
   have il2:=OD x.AD q2
   rw [eq2] at hq2 ⊢
   have ql2:=hq2.qi.len
   simp only [AH,AP,AK,AM,AO,AE,AI,AR,AN,AL,AS,AJ,AT,AQ,BH,BL,BM,BN,BP,BO,BK,A5,A8,A4,A9,A6,A7]
   rw [AZ (AB (iv k)*8+6),GW kl,AE]
   refine BA (AX (fun hlj=>BZ ?_) fun hgj=> ?_)
   ·have hlj:j<(ob x.AD k).field.length:=by omega
    have hR2:=hR2 hlj trivial
    have es:WJ x.AD (AA x.AD b) q k ((ob x.AD k).field.take (j+1))=GD (AA x.AD b) q2 k (AA x.AD (gI (ob x.AD k).field j)):=by
     rw [←eq2];unfold WJ;exact HB hlj _ _
    rw [es] at hR2
    obtain ⟨a1,a2⟩:=bI (p:=(k:Int)) (x:=gI (ob x.AD k).field j) hq2.qi
    have fid:F64 (gI (ob x.AD k).field j):=nk.2.2.2.2.2 _ (C7 hlj)
    refine AU hlj (J8 kl hlj (BX fid (by omega) (IM ?_)))
    refine bQ (c:=AA x.AD (gI (ob x.AD k).field j)≥0) (fun K hK=>AU hlj hK) (fun K hK=>J8 kl hlj hK) (by omega) (fun h0 hm hb=> ?_) fun hno=> ?_
    ·rw [a1 h0 hm hb, ←DJ] at hR2
     exact BB (by omega) hR2
    ·rw [a2 hno] at hR2
     exact BB (by omega) hR2
   ·have:j=(ob x.AD k).field.length:=by omega
    subst this
    rw [List.take_length] at eq2
    refine BB (by omega) (hR (i+1,q2) ⟨hq2,f,by simp only at hf ⊢;omega, ?_⟩ (by simp only;omega))
    simp only
    rw [←eq2]
    exact hb'
  ·rw [←hb] at h
   cases f with
   | zero=>exact h
   | succ f=>rw [SM,if_neg (by omega)] at h;exact h
end Go.Proofs.Ytklmcfpgdfibnaa.P
