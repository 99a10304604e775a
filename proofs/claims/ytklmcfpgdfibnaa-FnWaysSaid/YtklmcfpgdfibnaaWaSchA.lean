/- A part of the proof. -/
import Derived.Test.YtklmcfpgdfibnaaWaBfsA
namespace Go.Proofs.Ytklmcfpgdfibnaa.P
open Go Go.Proofs.Ytklmcfpgdfibnaa Go.Proofs.Ytklmcfpgdfibnaa.Eng
set_option linter.unusedVariables false
set_option maxHeartbeats 4000000
set_option linter.unusedVariables false
set_option linter.unusedSimpArgs false
attribute [local irreducible] prP gP gE gF AX ixW ldc ldg ldl stc stg scW mkW apW BE cl2 BK C2 CI
variable {w0:World}
theorem b9 {N i:Nat} {I0:Value} {CS:List T} {PRE:List Nat} {x b:Int} {c:Prop} [Decidable c] {acc:List Int} {Q1:Value→Prop} {Q2:Prop} (hix: ∀K:Value→Prop,K (iv i)→ixW N I0 K) (hld: ∀K:Value→Prop,K (I x)→ldc CS PRE (AD (iv i)*1) K) (hl:acc.length≤100) (h1:c→x∉acc→x≠b→Q1 (I x)) (h2: ¬(c∧x∉acc∧x≠b)→Q2):
  gE (.bool (decide c)) (
  gE (.bool (decide c)) (
  gE (.bool (decide c)) (
  gP (.bool (decide c)) true (ixW N I0) fun t30=>
  gP (.bool (decide c)) true (ldc CS PRE ((AD t30)*1)) fun t31=>
  gP (.bool (decide c)) true ((fun K=>cl2 ⟨Try.prog,w0⟩ 89 CA.sg [t31] [tI acc] fun v18 d19=>K (nx v18 0))) fun t32=>
  gP (.bool (decide c)) true (prP (un .not t32)) fun t33=>
  prP (pk (.bool (decide c)) t33 (.bool false)) fun t34=>
  gE t34 (
  gE t34 (
  gP t34 true (ixW N I0) fun t38=>
  gP t34 true (ldc CS PRE ((AD t38)*1)) fun t39=>
  gE t34 (
  gP t34 true (prP (bnI .neq t39 (I b))) fun t41=>
  prP (pk t34 t41 (.bool false)) fun t42=>
  AX t42 (
  ixW N I0 fun t46=>
  ldc CS PRE ((AD t46)*1) fun t47=>
  apW [T.c t47] true acc.length 1 8 (Q1 t47)) Q2)))))):=by
 by_cases hc:c
 ·refine BO (BO (BO (IA hc (hix _ (IA hc (hld _ (IA hc (GN (by omega) ?_))))))))
  by_cases hm:x∈acc
  ·have e:(.bool (decide (x∈acc)):Value)= .bool true:=by rw [decide_eq_true hm]
   simp only [BH]
   rw [e]
   exact IA hc (CN (D9 hc rfl (BO (BO (JW (JW (BO (JW (WW rfl (CE (h2 fun hh=>hh.2.1 hm)))))))))))
  ·have e:(.bool (decide (x∈acc)):Value)= .bool false:=by rw [decide_eq_false hm]
   simp only [BH]
   rw [e]
   refine IA hc (CN (D9 hc rfl (BO (BO (LN (hix _ (LN (hld _ (BO (LN (C8 (TP rfl (AZ (fun hb=> ?_) fun hb=> ?_)))))))))))))
   ·exact hix _ (hld _ (DW rfl (by omega) (h1 hc hm hb)))
   ·exact h2 fun hh=>hb hh.2.2
 ·exact BO (BO (BO (K3 hc (K3 hc (K3 hc (K3 hc (EC hc rfl (BO (BO (JW (JW (BO (JW (WW rfl (CE (h2 fun hh=>hc hh.1))))))))))))))))
def PN (os:List AE) (s:Int):Int:=s+8*(ob os s.toNat).gen
def HA (os:List AE) (q:Que):List Int:=q.map fun e=>PN os e.1
theorem LD {os:List AE} {x:Int} (h:0≤AA os x):x=PN os (AA os x):=by
 have hb:=BF h
 unfold PN;omega
theorem N0 {os:List AE} {but:Int} {q:Que} (h:QI os but q) {x:Int} (hx:0≤AA os x):x∈HA os q↔inQ q (AA os x):=by
 unfold HA inQ
 simp only [List.mem_map]
 constructor
 ·rintro ⟨e,he,hr⟩
  obtain ⟨k,h1,k8,_⟩:=h.lv e.1 (List.mem_map.2 ⟨e,he,rfl⟩)
  have:=(BF hx).2.2.1
  refine ⟨e,he, ?_⟩
  unfold PN at hr
  omega
 ·rintro ⟨e,he,hr⟩
  exact ⟨e,he,by rw [hr];exact (LD hx).symm⟩
theorem J7 (os:List AE) (q:Que):(HA os q).length=q.length:=by simp [HA]
theorem RX {os:List AE} {q:Que} {i:Nat} (hi:i<q.length):gI (HA os q) i=PN os (gQ q i):=by
 have h2:i<(HA os q).length:=by rw [J7];exact hi
 rw [←DB h2, ←P4 hi]
 simp [HA]
theorem VO {os:List AE} {b:Int} {q:Que} {p x:Int} (h:QI os (AA os b) q):
  (0≤AA os x→x∉HA os q→x≠b→HA os (EI (AA os b) q p (AA os x))=HA os q++[x])∧
  (¬(AA os x≥0∧x∉HA os q∧x≠b)→HA os (EI (AA os b) q p (AA os x))=HA os q):=by
 constructor
 ·intro h0 hm hb
  rw [N0 h h0] at hm
  have:AA os x≠AA os b:=fun he=>hb (by rw [LD h0,he];exact (LD (by omega)).symm)
  unfold EI
  rw [if_neg (by simp only [not_or];exact ⟨by omega,this,hm⟩)]
  simp only [HA,List.map_append,List.map_cons,List.map_nil]
  rw [←LD h0]
 ·intro hn
  unfold EI
  rw [if_pos]
  by_cases h0:0≤AA os x
  ·by_cases hm:x∈HA os q
   ·exact .inr (.inr ((N0 h h0).1 hm))
   ·by_cases hb:x=b
    ·exact .inr (.inl (by rw [hb]))
    ·exact absurd ⟨h0,hm,hb⟩ hn
  ·exact .inl (by omega)
structure QB (os:List AE) (b:Int) (q:Que):Prop where
 qi:QI os (AA os b) q
 rid: ∀s,inQ q s→AA os (PN os s)=s
theorem QB.nil (os:List AE) (b:Int):QB os b []:=⟨QI.nil _ _,fun s h=>by simp [inQ] at h⟩
theorem QB.add {os:List AE} {b:Int} {q:Que} {p:Int} (h:QB os b q) (x:Int):QB os b (EI (AA os b) q p (AA os x)):=by
 refine ⟨h.qi.add fun h0=>RP h0,fun s hs=> ?_⟩
 rcases fQ hs with hs | ⟨rfl,h0,_⟩
 ·exact h.rid s hs
 ·rw [←LD h0]
theorem FE {l:List Int} {i:Nat} (hi:i<l.length) {α:Type} (f:α→Int→α) (a:α):(l.take (i+1)).foldl f a=f ((l.take i).foldl f a) (gI l i):=by
 rw [List.take_succ_eq_append_getElem hi,List.foldl_append,DB hi];rfl
theorem QM {os:List AE} {b:Int} {ids:List Int}: ∀i,i≤ids.length→QB os b (CW os (AA os b) (ids.take i))
 | 0,_=>by simp [CW];exact QB.nil _ _
 | i+1,hi=>by
   unfold CW
   rw [FE (by omega)]
   exact (QM i (by omega)).add _
def LC (os:List AE) (but:Int) (q:Que) (s:Int) (l:List Int):Que:=l.foldl (fun q' f=>EI but q' s (AA os f)) q
theorem XZ {os:List AE} {but:Int} {q:Que} {s:Int}:P0 os but q s=LC os but q s (ob os s.toNat).field:=by
 unfold P0 LC BG
 generalize (ob os s.toNat).field=l
 induction l generalizing q with
 | nil=>rfl
 | cons f l ih=>
   simp only [List.map_cons,List.foldl_cons,List.filter_cons]
   by_cases h0:0≤AA os f
   ·rw [if_pos (by simpa using h0)]
    simp only [List.foldl_cons]
    exact ih
   ·rw [if_neg (by simpa using h0)]
    have e:EI but q s (AA os f)=q:=by unfold EI;rw [if_pos (.inl (by omega))]
    rw [e]
    exact ih
theorem U0 {os:List AE} {b:Int} {q:Que} {s:Int} (hq:QB os b q) {l:List Int}: ∀i,i≤l.length→QB os b (LC os (AA os b) q s (l.take i))
 | 0,_=>by simp [LC];exact hq
 | i+1,hi=>by
   unfold LC
   rw [FE (by omega)]
   exact (U0 hq i (by omega)).add _
theorem TK {x:Hp} {ids:List Int} {b:Int} {K:J2} (hx:Fits x) (hn:TL x) (hg: ∀i,i<8→ -1000000≤(ob x.AB i).gen∧(ob x.AB i).gen≤1000000) (hids: ∀v∈ids,F64 v) (hl:ids.length≤1000) (h:K [] [tI (HA x.AB (HI x.AB (AA x.AB b) ids))]):cl2 ⟨Try.prog,w0⟩ 93 D6.sg [I b] (trees x++[tI ids]) K:=by
 have ol:=hx.ol
 refine D6.cl2 ?_
 unfold D6.txt
 simp only [AI,AU,AL,AR,AQ,AG,AJ,AK,AO,AP,AN,AT,AS,AM,BH,BP,BS,BM,BQ,BN,BL,A6,A5,A4,A7,A8,A9]
 refine BJ (fun i=>[I b,iv i]) (fun i=>[tI (HA x.AB (CW x.AB (AA x.AB b) (ids.take i)))]) ids.length (fun _=>True) rfl rfl trivial (fun R i hi _ hR=> ?_)
 have hq:=QM (os:=x.AB) (b:=b) i hi
 obtain ⟨q,eq⟩: ∃q,CW x.AB (AA x.AB b) (ids.take i)=q:=⟨_,rfl⟩
 have il:=J7 x.AB q
 rw [eq] at hq ⊢
 have ql:=hq.qi.len
 simp only [AI,AU,AL,AR,AQ,AG,AJ,AK,AO,AP,AN,AT,AS,AM,BH,BP,BS,BM,BQ,BN,BL,A6,A5,A4,A7,A8,A9]
 refine BA (AZ (fun hlt=>BY ?_) fun hge=> ?_)
 ·have hlt:i<ids.length:=by omega
  have hR:=hR hlt trivial
  have es:CW x.AB (AA x.AB b) (ids.take (i+1))=EI (AA x.AB b) q (-1) (AA x.AB (gI ids i)):=by
   rw [←eq];unfold CW;exact FE hlt _ _
  rw [es] at hR
  obtain ⟨a1,a2⟩:=VO (p:= -1) (x:=gI ids i) hq.qi
  have fid:F64 (gI ids i):=by rw [←DB hlt];exact hids _ (List.getElem_mem hlt)
  refine AH hlt (ldI hlt (BX fid (by omega) (HL ?_)))
  refine b9 (c:=AA x.AB (gI ids i)≥0) (fun K hK=>AH hlt hK) (fun K hK=>ldI hlt hK) (by omega) (fun h0 hm hb=> ?_) fun hno=> ?_
  ·rw [a1 h0 hm hb, ←C9] at hR
   exact BB (by omega) hR
  ·rw [a2 hno] at hR
   exact BB (by omega) hR
 ·have:i=ids.length:=by omega
  subst this
  rw [List.take_length] at eq
  refine EJ (α:=Nat×Que) (fun s=>[I b,iv s.1]) (fun s=>[tI (HA x.AB s.2)]) (fun s=>9-s.1) (fun s=>QB x.AB b s.2∧ ∃f,8<f+s.1∧M7 x.AB (AA x.AB b) f s.1 s.2=HI x.AB (AA x.AB b) ids) (0,q) rfl rfl ⟨hq,9,by simp,by unfold HI;rw [eq]⟩ (fun R s hs hR=> ?_)
  obtain ⟨i,q⟩:=s
  obtain ⟨hq,f,hf,hb⟩:=hs
  simp only at hq hf hb
  have ql:=hq.qi.len
  have il:=J7 x.AB q
  simp only [AI,AU,AL,AR,AQ,AG,AJ,AK,AO,AP,AN,AT,AS,AM,BH,BP,BS,BM,BQ,BN,BL,A6,A5,A4,A7,A8,A9]
  refine BA (AZ (fun hlt=> ?_) fun hge=> ?_)
  ·have hlt':i<(HA x.AB q).length:=by omega
   have hlt:i<q.length:=by omega
   obtain ⟨k,ek,k8,kv,kb⟩:=hq.qi.lv _ (J1 hlt)
   obtain ⟨f,rfl⟩: ∃f',f=f'+1:=⟨f-1,by omega⟩
   have hb':=hb
   rw [M7,if_pos hlt,XZ,ek,Int.toNat_natCast] at hb'
   have hs:=hq.rid _ (J1 hlt)
   rw [ek] at hs
   have ev:gI (HA x.AB q) i=PN x.AB k:=by rw [RX hlt,ek]
   have hbd:=BF (l:=x.AB) (id:=PN x.AB k) (by omega)
   have hol:=hbd.1
   have kl:k<x.AB.length:=by omega
   have nk:=hn.ob k
   have fk:=hx.of _ (IS kl)
   have fv:F64 (PN x.AB k):=by
    have:=hg k k8
    unfold PN
    rw [Int.toNat_natCast]
    exact ⟨by omega,by omega⟩
   refine AH hlt' (ldI hlt' ?_)
   rw [ev]
   refine BX fv (by omega) ?_
   rw [hs]
   simp only [AI,AU,AL,AR,AQ,AG,AJ,AK,AO,AP,AN,AT,AS,AM,BH,BP,BS,BM,BQ,BN,BL,A6,A5,A4,A7,A8,A9]
   refine AH kl (QE kl ?_)
   refine BJ (fun j=>[I b,iv i,iv (AD (iv k)*8+6),iv j]) (fun j=>[tI (HA x.AB (LC x.AB (AA x.AB b) q k ((ob x.AB k).field.take j)))]) (ob x.AB k).field.length (fun _=>True) rfl (by simp [LC]) trivial (fun R2 j hj _ hR2=> ?_)
   have hq2:=U0 (s:=(k:Int)) hq (l:=(ob x.AB k).field) j hj
   obtain ⟨q2,eq2⟩: ∃q2,LC x.AB (AA x.AB b) q k ((ob x.AB k).field.take j)=q2:=⟨_,rfl⟩
   have il2:=J7 x.AB q2
   rw [eq2] at hq2 ⊢
   have ql2:=hq2.qi.len
   simp only [AI,AU,AL,AR,AQ,AG,AJ,AK,AO,AP,AN,AT,AS,AM,BH,BP,BS,BM,BQ,BN,BL,A6,A5,A4,A7,A8,A9]
   rw [AW (AD (iv k)*8+6),HF kl,AG]
   refine BA (AZ (fun hlj=>BY ?_) fun hgj=> ?_)
   ·have hlj:j<(ob x.AB k).field.length:=by omega
    have hR2:=hR2 hlj trivial
    have es:LC x.AB (AA x.AB b) q k ((ob x.AB k).field.take (j+1))=EI (AA x.AB b) q2 k (AA x.AB (gI (ob x.AB k).field j)):=by
     rw [←eq2];unfold LC;exact FE hlj _ _
    rw [es] at hR2
    obtain ⟨a1,a2⟩:=VO (p:=(k:Int)) (x:=gI (ob x.AB k).field j) hq2.qi
    have fid:F64 (gI (ob x.AB k).field j):=nk.2.2.2.2.2 _ (C7 hlj)
    refine AH hlj (JE kl hlj (BX fid (by omega) (HL ?_)))
    refine b9 (c:=AA x.AB (gI (ob x.AB k).field j)≥0) (fun K hK=>AH hlj hK) (fun K hK=>JE kl hlj hK) (by omega) (fun h0 hm hb=> ?_) fun hno=> ?_
    ·rw [a1 h0 hm hb, ←C9] at hR2
     exact BB (by omega) hR2
    ·rw [a2 hno] at hR2
     exact BB (by omega) hR2
   ·have:j=(ob x.AB k).field.length:=by omega
    subst this
    rw [List.take_length] at eq2
    refine BB (by omega) (hR (i+1,q2) ⟨hq2,f,by simp only at hf ⊢;omega, ?_⟩ (by simp only;omega))
    simp only
    rw [←eq2]
    exact hb'
  ·rw [←hb] at h
   cases f with
   | zero=>exact h
   | succ f=>rw [M7,if_neg (by omega)] at h;exact h
end Go.Proofs.Ytklmcfpgdfibnaa.P
