/- A part of the proof. -/
import Derived.Test.YtklmcfpgdfibnaaGgBfsA
import Derived.Test.YtklmcfpgdfibnaaGgDrA
namespace Go.Proofs.Ytklmcfpgdfibnaa.P
open Go Go.Proofs.Ytklmcfpgdfibnaa Go.Proofs.Ytklmcfpgdfibnaa.Eng
set_option linter.unusedVariables false
set_option maxHeartbeats 4000000
set_option linter.unusedVariables false
set_option linter.unusedSimpArgs false
attribute [local irreducible] prP gP gE gF AV ixW ldc ldg ldl stc stg scW mkW apW BC cl2 BS CU B1
variable {w0:World}
theorem cJ {N i:Nat} {I0:Value} {CS:List T} {PRE:List Nat} {x b:Int} {c:Prop} [Decidable c] {acc:List Int} {Q1:Value→Prop} {Q2:Prop} (hix: ∀K:Value→Prop,K (iv i)→ixW N I0 K) (hld: ∀K:Value→Prop,K (I x)→ldc CS PRE (AB (iv i)*1) K) (hl:acc.length≤100) (h1:c→x∉acc→x≠b→Q1 (I x)) (h2: ¬(c∧x∉acc∧x≠b)→Q2):
  gE (.bool (decide c)) (
  gE (.bool (decide c)) (
  gE (.bool (decide c)) (
  gP (.bool (decide c)) true (ixW N I0) fun t30=>
  gP (.bool (decide c)) true (ldc CS PRE ((AB t30)*1)) fun t31=>
  gP (.bool (decide c)) true ((fun K=>cl2 ⟨Try.prog,w0⟩ 89 CI.sg [t31] [tI acc] fun v18 d19=>K (nx v18 0))) fun t32=>
  gP (.bool (decide c)) true (prP (un .not t32)) fun t33=>
  prP (pk (.bool (decide c)) t33 (.bool false)) fun t34=>
  gE t34 (
  gE t34 (
  gP t34 true (ixW N I0) fun t38=>
  gP t34 true (ldc CS PRE ((AB t38)*1)) fun t39=>
  gE t34 (
  gP t34 true (prP (bnI .neq t39 (I b))) fun t41=>
  prP (pk t34 t41 (.bool false)) fun t42=>
  AV t42 (
  ixW N I0 fun t46=>
  ldc CS PRE ((AB t46)*1) fun t47=>
  apW [T.c t47] true acc.length 1 8 (Q1 t47)) Q2)))))):=by
 by_cases hc:c
 ·refine BD (BD (BD (HG hc (hix _ (HG hc (hld _ (HG hc (HY (by omega) ?_))))))))
  by_cases hm:x∈acc
  ·have e:(.bool (decide (x∈acc)):Value)= .bool true:=by rw [decide_eq_true hm]
   simp only [BG]
   rw [e]
   exact HG hc (CX (ER hc rfl (BD (BD (DY (DY (BD (DY (SO rfl (B4 (h2 fun hh=>hh.2.1 hm)))))))))))
  ·have e:(.bool (decide (x∈acc)):Value)= .bool false:=by rw [decide_eq_false hm]
   simp only [BG]
   rw [e]
   refine HG hc (CX (ER hc rfl (BD (BD (D6 (hix _ (D6 (hld _ (BD (D6 (CY (QM rfl (A9 (fun hb=> ?_) fun hb=> ?_)))))))))))))
   ·exact hix _ (hld _ (D9 rfl (by omega) (h1 hc hm hb)))
   ·exact h2 fun hh=>hb hh.2.2
 ·exact BD (BD (BD (KE hc (KE hc (KE hc (KE hc (EW hc rfl (BD (BD (DY (DY (BD (DY (SO rfl (B4 (h2 fun hh=>hc hh.1))))))))))))))))
def U5 (os:List AG) (s:Int):Int:=s+8*(ob os s.toNat).gen
def KO (os:List AG) (q:Que):List Int:=q.map fun e=>U5 os e.1
theorem MZ {os:List AG} {x:Int} (h:0≤AA os x):x=U5 os (AA os x):=by
 have hb:=BJ h
 unfold U5;omega
theorem U1 {os:List AG} {but:Int} {q:Que} (h:QI os but q) {x:Int} (hx:0≤AA os x):x∈KO os q↔inQ q (AA os x):=by
 unfold KO inQ
 simp only [List.mem_map]
 constructor
 ·rintro ⟨e,he,hr⟩
  obtain ⟨k,h1,k8,_⟩:=h.lv e.1 (List.mem_map.2 ⟨e,he,rfl⟩)
  have:=(BJ hx).2.2.1
  refine ⟨e,he, ?_⟩
  unfold U5 at hr
  omega
 ·rintro ⟨e,he,hr⟩
  exact ⟨e,he,by rw [hr];exact (MZ hx).symm⟩
theorem O3 (os:List AG) (q:Que):(KO os q).length=q.length:=by simp [KO]
theorem lM {os:List AG} {q:Que} {i:Nat} (hi:i<q.length):gI (KO os q) i=U5 os (gQ q i):=by
 have h2:i<(KO os q).length:=by rw [O3];exact hi
 rw [←CN h2, ←TG hi]
 simp [KO]
theorem cH {os:List AG} {b:Int} {q:Que} {p x:Int} (h:QI os (AA os b) q):
  (0≤AA os x→x∉KO os q→x≠b→KO os (FW (AA os b) q p (AA os x))=KO os q++[x])∧
  (¬(AA os x≥0∧x∉KO os q∧x≠b)→KO os (FW (AA os b) q p (AA os x))=KO os q):=by
 constructor
 ·intro h0 hm hb
  rw [U1 h h0] at hm
  have:AA os x≠AA os b:=fun he=>hb (by rw [MZ h0,he];exact (MZ (by omega)).symm)
  unfold FW
  rw [if_neg (by simp only [not_or];exact ⟨by omega,this,hm⟩)]
  simp only [KO,List.map_append,List.map_cons,List.map_nil]
  rw [←MZ h0]
 ·intro hn
  unfold FW
  rw [if_pos]
  by_cases h0:0≤AA os x
  ·by_cases hm:x∈KO os q
   ·exact .inr (.inr ((U1 h h0).1 hm))
   ·by_cases hb:x=b
    ·exact .inr (.inl (by rw [hb]))
    ·exact absurd ⟨h0,hm,hb⟩ hn
  ·exact .inl (by omega)
structure QB (os:List AG) (b:Int) (q:Que):Prop where
 qi:QI os (AA os b) q
 rid: ∀s,inQ q s→AA os (U5 os s)=s
theorem QB.nil (os:List AG) (b:Int):QB os b []:=⟨QI.nil _ _,fun s h=>by simp [inQ] at h⟩
theorem QB.add {os:List AG} {b:Int} {q:Que} {p:Int} (h:QB os b q) (x:Int):QB os b (FW (AA os b) q p (AA os x)):=by
 refine ⟨h.qi.add fun h0=>UE h0,fun s hs=> ?_⟩
 rcases iS hs with hs | ⟨rfl,h0,_⟩
 ·exact h.rid s hs
 ·rw [←MZ h0]
theorem GB {l:List Int} {i:Nat} (hi:i<l.length) {α:Type} (f:α→Int→α) (a:α):(l.take (i+1)).foldl f a=f ((l.take i).foldl f a) (gI l i):=by
 rw [List.take_succ_eq_append_getElem hi,List.foldl_append,CN hi];rfl
theorem QN {os:List AG} {b:Int} {ids:List Int}: ∀i,i≤ids.length→QB os b (D8 os (AA os b) (ids.take i))
 | 0,_=>by simp [D8];exact QB.nil _ _
 | i+1,hi=>by
   unfold D8
   rw [GB (by omega)]
   exact (QN i (by omega)).add _
def XA (os:List AG) (but:Int) (q:Que) (s:Int) (l:List Int):Que:=l.foldl (fun q' f=>FW but q' s (AA os f)) q
theorem kR {os:List AG} {but:Int} {q:Que} {s:Int}:QE os but q s=XA os but q s (ob os s.toNat).field:=by
 unfold QE XA BH
 generalize (ob os s.toNat).field=l
 induction l generalizing q with
 | nil=>rfl
 | cons f l ih=>
   simp only [List.map_cons,List.foldl_cons,List.filter_cons]
   by_cases h0:0≤AA os f
   ·rw [if_pos (by simpa using h0)]
    simp only [List.foldl_cons]
    exact ih
   ·rw [if_neg (by simpa using h0)]
    have e:FW but q s (AA os f)=q:=by unfold FW;rw [if_pos (.inl (by omega))]
    rw [e]
    exact ih
theorem cA {os:List AG} {b:Int} {q:Que} {s:Int} (hq:QB os b q) {l:List Int}: ∀i,i≤l.length→QB os b (XA os (AA os b) q s (l.take i))
 | 0,_=>by simp [XA];exact hq
 | i+1,hi=>by
   unfold XA
   rw [GB (by omega)]
   exact (cA hq i (by omega)).add _
theorem TX {x:Hp} {ids:List Int} {b:Int} {K:J2} (hx:Fits x) (hn:T4 x) (hg: ∀i,i<8→ -1000000≤(ob x.AD i).gen∧(ob x.AD i).gen≤1000000) (hids: ∀v∈ids,F64 v) (hl:ids.length≤1000) (h:K [] [tI (KO x.AD (NR x.AD (AA x.AD b) ids))]):cl2 ⟨Try.prog,w0⟩ 93 EE.sg [I b] (trees x++[tI ids]) K:=by
 have ol:=hx.ol
 refine EE.cl2 ?_
 unfold EE.txt
 simp only [AK,AO,AL,AM,AT,AE,AJ,AI,AR,AQ,AN,AU,AP,AS,BG,BO,BL,BN,BM,BP,BK,A5,A6,A8,AZ,A7,A4]
 refine BF (fun i=>[I b,iv i]) (fun i=>[tI (KO x.AD (D8 x.AD (AA x.AD b) (ids.take i)))]) ids.length (fun _=>True) rfl rfl trivial (fun R i hi _ hR=> ?_)
 have hq:=QN (os:=x.AD) (b:=b) i hi
 obtain ⟨q,eq⟩: ∃q,D8 x.AD (AA x.AD b) (ids.take i)=q:=⟨_,rfl⟩
 have il:=O3 x.AD q
 rw [eq] at hq ⊢
 have ql:=hq.qi.len
 simp only [AK,AO,AL,AM,AT,AE,AJ,AI,AR,AQ,AN,AU,AP,AS,BG,BO,BL,BN,BM,BP,BK,A5,A6,A8,AZ,A7,A4]
 refine BA (A9 (fun hlt=>BX ?_) fun hge=> ?_)
 ·have hlt:i<ids.length:=by omega
  have hR:=hR hlt trivial
  have es:D8 x.AD (AA x.AD b) (ids.take (i+1))=FW (AA x.AD b) q (-1) (AA x.AD (gI ids i)):=by
   rw [←eq];unfold D8;exact GB hlt _ _
  rw [es] at hR
  obtain ⟨a1,a2⟩:=cH (p:= -1) (x:=gI ids i) hq.qi
  have fid:F64 (gI ids i):=by rw [←CN hlt];exact hids _ (List.getElem_mem hlt)
  refine AH hlt (ldI hlt (B3 fid (by omega) (KQ ?_)))
  refine cJ (c:=AA x.AD (gI ids i)≥0) (fun K hK=>AH hlt hK) (fun K hK=>ldI hlt hK) (by omega) (fun h0 hm hb=> ?_) fun hno=> ?_
  ·rw [a1 h0 hm hb, ←DS] at hR
   exact BB (by omega) hR
  ·rw [a2 hno] at hR
   exact BB (by omega) hR
 ·have:i=ids.length:=by omega
  subst this
  rw [List.take_length] at eq
  refine EY (α:=Nat×Que) (fun s=>[I b,iv s.1]) (fun s=>[tI (KO x.AD s.2)]) (fun s=>9-s.1) (fun s=>QB x.AD b s.2∧ ∃f,8<f+s.1∧P0 x.AD (AA x.AD b) f s.1 s.2=NR x.AD (AA x.AD b) ids) (0,q) rfl rfl ⟨hq,9,by simp,by unfold NR;rw [eq]⟩ (fun R s hs hR=> ?_)
  obtain ⟨i,q⟩:=s
  obtain ⟨hq,f,hf,hb⟩:=hs
  simp only at hq hf hb
  have ql:=hq.qi.len
  have il:=O3 x.AD q
  simp only [AK,AO,AL,AM,AT,AE,AJ,AI,AR,AQ,AN,AU,AP,AS,BG,BO,BL,BN,BM,BP,BK,A5,A6,A8,AZ,A7,A4]
  refine BA (A9 (fun hlt=> ?_) fun hge=> ?_)
  ·have hlt':i<(KO x.AD q).length:=by omega
   have hlt:i<q.length:=by omega
   obtain ⟨k,ek,k8,kv,kb⟩:=hq.qi.lv _ (TJ hlt)
   obtain ⟨f,rfl⟩: ∃f',f=f'+1:=⟨f-1,by omega⟩
   have hb':=hb
   rw [P0,if_pos hlt,kR,ek,Int.toNat_natCast] at hb'
   have hs:=hq.rid _ (TJ hlt)
   rw [ek] at hs
   have ev:gI (KO x.AD q) i=U5 x.AD k:=by rw [lM hlt,ek]
   have hbd:=BJ (l:=x.AD) (id:=U5 x.AD k) (by omega)
   have hol:=hbd.1
   have kl:k<x.AD.length:=by omega
   have nk:=hn.ob k
   have fk:=hx.of _ (I2 kl)
   have fv:F64 (U5 x.AD k):=by
    have:=hg k k8
    unfold U5
    rw [Int.toNat_natCast]
    exact ⟨by omega,by omega⟩
   refine AH hlt' (ldI hlt' ?_)
   rw [ev]
   refine B3 fv (by omega) ?_
   rw [hs]
   simp only [AK,AO,AL,AM,AT,AE,AJ,AI,AR,AQ,AN,AU,AP,AS,BG,BO,BL,BN,BM,BP,BK,A5,A6,A8,AZ,A7,A4]
   refine AH kl (S1 kl ?_)
   refine BF (fun j=>[I b,iv i,iv (AB (iv k)*8+6),iv j]) (fun j=>[tI (KO x.AD (XA x.AD (AA x.AD b) q k ((ob x.AD k).field.take j)))]) (ob x.AD k).field.length (fun _=>True) rfl (by simp [XA]) trivial (fun R2 j hj _ hR2=> ?_)
   have hq2:=cA (s:=(k:Int)) hq (l:=(ob x.AD k).field) j hj
   obtain ⟨q2,eq2⟩: ∃q2,XA x.AD (AA x.AD b) q k ((ob x.AD k).field.take j)=q2:=⟨_,rfl⟩
   have il2:=O3 x.AD q2
   rw [eq2] at hq2 ⊢
   have ql2:=hq2.qi.len
   simp only [AK,AO,AL,AM,AT,AE,AJ,AI,AR,AQ,AN,AU,AP,AS,BG,BO,BL,BN,BM,BP,BK,A5,A6,A8,AZ,A7,A4]
   rw [AW (AB (iv k)*8+6),H6 kl,AE]
   refine BA (A9 (fun hlj=>BX ?_) fun hgj=> ?_)
   ·have hlj:j<(ob x.AD k).field.length:=by omega
    have hR2:=hR2 hlj trivial
    have es:XA x.AD (AA x.AD b) q k ((ob x.AD k).field.take (j+1))=FW (AA x.AD b) q2 k (AA x.AD (gI (ob x.AD k).field j)):=by
     rw [←eq2];unfold XA;exact GB hlj _ _
    rw [es] at hR2
    obtain ⟨a1,a2⟩:=cH (p:=(k:Int)) (x:=gI (ob x.AD k).field j) hq2.qi
    have fid:F64 (gI (ob x.AD k).field j):=nk.2.2.2.2.2 _ (CH hlj)
    refine AH hlj (MP kl hlj (B3 fid (by omega) (KQ ?_)))
    refine cJ (c:=AA x.AD (gI (ob x.AD k).field j)≥0) (fun K hK=>AH hlj hK) (fun K hK=>MP kl hlj hK) (by omega) (fun h0 hm hb=> ?_) fun hno=> ?_
    ·rw [a1 h0 hm hb, ←DS] at hR2
     exact BB (by omega) hR2
    ·rw [a2 hno] at hR2
     exact BB (by omega) hR2
   ·have:j=(ob x.AD k).field.length:=by omega
    subst this
    rw [List.take_length] at eq2
    refine BB (by omega) (hR (i+1,q2) ⟨hq2,f,by simp only at hf ⊢;omega, ?_⟩ (by simp only;omega))
    simp only
    rw [←eq2]
    exact hb'
  ·rw [←hb] at h
   cases f with
   | zero=>exact h
   | succ f=>rw [P0,if_neg (by omega)] at h;exact h
end Go.Proofs.Ytklmcfpgdfibnaa.P
namespace Go.Proofs.Ytklmcfpgdfibnaa.P
open Go Go.Proofs.Ytklmcfpgdfibnaa Go.Proofs.Ytklmcfpgdfibnaa.Eng
set_option linter.unusedVariables false
set_option maxHeartbeats 4000000
set_option linter.unusedVariables false
set_option linter.unusedSimpArgs false
attribute [local irreducible] prP gP gE gF AV ixW ldc ldg ldl stc stg scW mkW apW BC cl2 BS CU B1
variable {w0:World}
theorem NH {α:Type} {f:Nat→List α} {x:α}: ∀{n:Nat},x∈pick f n↔ ∃i,i<n∧x∈f i
 | 0=>by simp [pick]
 | n+1=>by
   rw [pick,List.mem_append,NH]
   constructor
   ·rintro (⟨i,h1,h2⟩ | h)
    ·exact ⟨i,by omega,h2⟩
    ·exact ⟨n,by omega,h⟩
   ·rintro ⟨i,h1,h2⟩
    rcases Nat.lt_or_ge i n with h | h
    ·exact .inl ⟨i,h,h2⟩
    ·have:i=n:=by omega
     subst this;exact .inr h2
theorem X3 {os:List AG} {k:Nat} (hol:os.length=8) (k8:k<8) (kv:(ob os k).live=true):CA k (ob os k).gen∈CD os:=
 NH.2 ⟨k,by omega,by unfold F9;rw [if_pos ⟨by omega,kv⟩];simp⟩
theorem kN {os:List AG} (h: ∀k,k<8→(ob os k).live=false):CD os=[]:=by
 refine List.eq_nil_iff_forall_not_mem.2 fun x hx=> ?_
 obtain ⟨i,_,hi⟩:=NH.1 hx
 unfold F9 at hi
 split at hi
 ·rename_i hh
  have:=h i (by omega)
  rw [hh.2] at this;cases this
 ·cases hi
theorem US {a:List AG} {b c d:List T} {K:J2} (hl:(a.length:Int)≤1048576) (h:K [] [tI (CD a)]):cl2 ⟨Try.prog,w0⟩ 40 EZ.sg [] [tR tO a,b,c,d] K:=by
 refine EZ.cl2 ?_
 unfold EZ.txt
 simp only [AK,AO,AL,AM,AT,AE,AJ,AI,AR,AQ,AN,AU,AP,AS,BG,BO,BL,BN,BM,BP,BK,A5,A6,A8,AZ,A7,A4]
 refine BF (fun i=>[iv a.length,iv i]) (fun i=>[tI (pick (F9 a) i)]) a.length (fun i=>True) rfl rfl trivial (fun R i hi _ hR=> ?_)
 have hpl:=KY (SP a) i
 simp only [AK,AO,AL,AM,AT,AE,AJ,AI,AR,AQ,AN,AU,AP,AS,BG,BO,BL,BN,BM,BP,BK,A5,A6,A8,AZ,A7,A4]
 refine BA (A9 (fun hlt=>BX ?_) fun hge=> ?_)
 ·have hlt:i<a.length:=by omega
  have hR:=hR hlt trivial
  refine AH hlt (WE hlt (BA (BD (BD ?_))))
  simp only [lJ,oN]
  by_cases h8:(i:Int)<8
  ·refine ER h8 rfl ?_
   cases hv:(ob a i).live with
   | true=>
     have e:F9 a i=[CA i (ob a i).gen]:=by unfold F9;rw [if_pos ⟨by omega,hv⟩]
     refine CG (TB (D9 rfl (by first | omega | (simp only [AK,AO,AL,AM,AT,AE,AJ,AI,AR,AQ,AN,AU,AP,AS,BG,BO,BL,BN,BM,BP,BK,A5,A6,A8,AZ,A7,A4];omega)) ?_))
     simp only [AK,AO,AL,AM,AT,AE,AJ,AI,AR,AQ,AN,AU,AP,AS,BG,BO,BL,BN,BM,BP,BK,A5,A6,A8,AZ,A7,A4]
     rw [DS,b9 e]
     exact BB (by omega) hR
   | false=>
     have e:F9 a i=[]:=by unfold F9;rw [if_neg];rintro ⟨_,h⟩;rw [hv] at h;cases h
     refine B4 ?_
     simp only [AK,AO,AL,AM,AT,AE,AJ,AI,AR,AQ,AN,AU,AP,AS,BG,BO,BL,BN,BM,BP,BK,A5,A6,A8,AZ,A7,A4]
     rw [←S8 e] at hR
     exact BB (by omega) hR
  ·refine EW h8 rfl (B4 ?_)
   have e:F9 a i=[]:=by unfold F9;rw [if_neg];omega
   simp only [AK,AO,AL,AM,AT,AE,AJ,AI,AR,AQ,AN,AU,AP,AS,BG,BO,BL,BN,BM,BP,BK,A5,A6,A8,AZ,A7,A4]
   rw [←S8 e] at hR
   exact BB (by omega) hR
 ·have:i=a.length:=by omega
  subst this
  exact h
structure Sub (a b:List AG):Prop where
 la:a.length=8
 lb:b.length=8
 lv: ∀i,i<8→(ob b i).live=true→(ob a i).live=true∧(ob b i).gen=(ob a i).gen
theorem Sub.refl {a:List AG} (h:a.length=8):Sub a a:=⟨h,h,fun _ _ h=>⟨h,rfl⟩⟩
theorem Sub.trans {a b c:List AG} (h:Sub a b) (h':Sub b c):Sub a c:=⟨h.la,h'.lb,fun i hi hv=>by
 obtain ⟨x,y⟩:=h'.lv i hi hv
 obtain ⟨u,v⟩:=h.lv i hi x
 exact ⟨u,by rw [y,v]⟩⟩
theorem Sub.slot {a b:List AG} (h:Sub a b) {x:Int} {k:Nat} (hs:AA b x=(k:Int)):AA a x=(k:Int):=by
 have hb:=BJ (l:=b) (id:=x) (by omega)
 have ek:(AA b x).toNat=k:=by omega
 rw [ek] at hb
 obtain ⟨_,b1,b2,k8,kv,kg⟩:=hb
 obtain ⟨u,v⟩:=h.lv k k8 kv
 have e:(x % 8).toNat=k:=by omega
 rw [HK b1 h.la (by have:=h.la;omega) (by rw [e];exact u) (by rw [e, ←v];exact kg)]
 omega
abbrev hr_ (os:List AG) (k:Nat):Int:=(ob os k).holds+(ob os k).roots
theorem BT.hr0 {x:Hp} (hk:BT x) {id:Int} {k:Nat} (hs:AA x.AD id=(k:Int)):(0≤(ob x.AD k).holds∧(ob x.AD k).holds≤20)∧(0≤(ob x.AD k).roots∧(ob x.AD k).roots≤20):=(hk.hp.QV hs).2.2.2
theorem vT {os:List AG} {buf:List Int} {ns:Nat} {id:Int} {k:Nat} (h:HP os ns buf []) (hk:AA os id=(k:Int)) {v:AG} (ev:v={ob os k with holds:=v.holds,roots:=v.roots}) (v4:0≤v.holds∧v.holds≤20) (v5:0≤v.roots∧v.roots≤20) (hs:v.holds+v.roots+1=hr_ os k):
  LN (os.set k v) (FJ (os.set k v) buf [id]).1 (FJ (os.set k v) buf [id]).2.2:=by
 have hls:0≤AA os id:=by omega
 obtain ⟨c1,c2,c3,_,_⟩:=h.QV hk
 have e1:v.count=(ob os k).count:=by rw [ev]
 have h1:=h.upd (pd':=[id]) (v:=v) hk (by rw [ev]) (by rw [ev]) (by rw [ev]) v4 v5 (by rw [ev]) (by rw [ev]) (by simp only [List.count_singleton_self];simp only [hr_] at hs;omega) (by omega) (fun x hx=>by simp [Ne.symm hx]) (by simpa using hls)
 exact hU h1
theorem qJ {x:Hp} (hk:BT x) {id kd:Int} {k:Nat} {s:ByteArray} (hs:AA x.AD id=(k:Int)) (h0:hr_ x.AD k≠0) (hkd:(kd=6∧(ob x.AD k).holds=0)∨(kd=3∧(ob x.AD k).holds≠0)):
  (FE x ⟨kd,id,0,0,s⟩).2.code=0∧Sub x.AD (FE x ⟨kd,id,0,0,s⟩).1.AD∧ ∀i,i<8→(ob (FE x ⟨kd,id,0,0,s⟩).1.AD i).live=true→hr_ (FE x ⟨kd,id,0,0,s⟩).1.AD i=hr_ x.AD i-(if i=k then 1 else 0):=by
 have hp:=hk.hp
 have hol:=hk.ol
 obtain ⟨b1,b2⟩:=hk.hr0 hs
 have k8:k<8:=(hp.me hs).1
 have hkl:k<x.AD.length:=by omega
 have e:AA x.AD id=((k:Nat):Int):=hs
 have fin: ∀v:AG,v={ob x.AD k with holds:=v.holds,roots:=v.roots}→(0≤v.holds∧v.holds≤20)→(0≤v.roots∧v.roots≤20)→v.holds+v.roots+1=hr_ x.AD k→
   Sub x.AD (FJ (x.AD.set k v) x.buffer [id]).1∧ ∀i,i<8→(ob (FJ (x.AD.set k v) x.buffer [id]).1 i).live=true→hr_ (FJ (x.AD.set k v) x.buffer [id]).1 i=hr_ x.AD i-(if i=k then 1 else 0):=fun v ev v4 v5 hsum=>by
  have R:=vT hp hs ev v4 v5 hsum
  have eo: ∀i,ob (x.AD.set k v) i=if i=k then v else ob x.AD i:=fun i=>DO hkl
  refine ⟨⟨hol,R.len,fun i hi hv=> ?_⟩,fun i hi hv=> ?_⟩
  ·obtain ⟨a,_⟩:=R.sm i hi hv
   have g:=R.gn i hi
   rw [eo] at a g
   split at a
   ·rename_i he;subst he
    rw [if_pos rfl] at g
    have vl:v.live=(ob x.AD i).live:=by rw [ev]
    have vg:v.gen=(ob x.AD i).gen:=by rw [ev]
    exact ⟨by rw [←vl];exact a,by rw [g,vg]⟩
   ·rename_i he
    rw [if_neg he] at g
    exact ⟨a,g⟩
  ·obtain ⟨_,_,a,b,_⟩:=R.sm i hi hv
   simp only [hr_]
   rw [a,b,eo]
   split
   ·rename_i he;subst he;simp only [hr_] at hsum;omega
   ·omega
 rcases hkd with ⟨rfl,hz⟩ | ⟨rfl,hz⟩
 ·have es:FE x ⟨6,id,0,0,s⟩=(⟨(HD x.AD x.buffer 6 id).1,x.B2,(HD x.AD x.buffer 6 id).2.1,x.sites⟩,(HD x.AD x.buffer 6 id).2.2):=by simp [FE]
  have hr:(ob x.AD k).roots≠0:=by simp only [hr_] at h0;omega
  have eh:HD x.AD x.buffer 6 id=N9 (FJ (x.AD.set k {ob x.AD k with roots:=(ob x.AD k).roots-1}) x.buffer [id]):=by
   unfold HD
   rw [e,Int.toNat_natCast,if_neg (by omega),if_neg (by decide),if_neg (by decide),if_neg (by decide),if_neg hr]
  rw [es,eh]
  exact ⟨rfl,fin _ rfl (by simp only;omega) (by simp only;omega) (by simp only [hr_];omega)⟩
 ·have es:FE x ⟨3,id,0,0,s⟩=(⟨(HD x.AD x.buffer 3 id).1,x.B2,(HD x.AD x.buffer 3 id).2.1,x.sites⟩,(HD x.AD x.buffer 3 id).2.2):=by simp [FE]
  have eh:HD x.AD x.buffer 3 id=N9 (FJ (x.AD.set k {ob x.AD k with holds:=(ob x.AD k).holds-1}) x.buffer [id]):=by
   unfold HD
   rw [e,Int.toNat_natCast,if_neg (by omega),if_neg (by decide),if_neg (by decide),if_pos rfl,if_neg hz]
  rw [es,eh]
  exact ⟨rfl,fin _ rfl (by simp only;omega) (by simp only;omega) (by simp only [hr_];omega)⟩
theorem kY (x:Hp) (s:ByteArray):FE x ⟨10,0,0,0,s⟩=(⟨(ID x.AD x.buffer).1,x.B2,[],x.sites⟩,⟨0,0,(ID x.AD x.buffer).2⟩):=by simp [FE]
structure mP (h0:Hp) (i:Nat) (x:Hp):Prop where
 ok:BT x
 gd:Gd x.AD x.buffer
 sub:Sub h0.AD x.AD
 dn: ∀j,j<i→ ∀k:Nat,AA x.AD (gI (CD h0.AD) j)=(k:Int)→hr_ x.AD k=0
theorem mP.drop {h0 x:Hp} {i:Nat} (h:mP h0 i x) {id kd:Int} {k:Nat} {s:ByteArray} (hs:AA x.AD id=(k:Int)) (hz:hr_ x.AD k≠0) (hkd:(kd=6∧(ob x.AD k).holds=0)∨(kd=3∧(ob x.AD k).holds≠0)):
  (FE x ⟨kd,id,0,0,s⟩).2.code=0∧mP h0 i (FE x ⟨kd,id,0,0,s⟩).1∧ ∀v:Int, ∀m:Nat,AA (FE x ⟨kd,id,0,0,s⟩).1.AD v=(m:Int)→AA x.AD v=(m:Int)∧hr_ (FE x ⟨kd,id,0,0,s⟩).1.AD m=hr_ x.AD m-(if m=k then 1 else 0):=by
 obtain ⟨c,S,H⟩:=qJ (s:=s) h.ok hs hz hkd
 have back: ∀v:Int, ∀m:Nat,AA (FE x ⟨kd,id,0,0,s⟩).1.AD v=(m:Int)→AA x.AD v=(m:Int)∧hr_ (FE x ⟨kd,id,0,0,s⟩).1.AD m=hr_ x.AD m-(if m=k then 1 else 0):=fun v m hm=>by
  have hl:=IT hm
  exact ⟨S.slot hm,H m hl.1 hl.2⟩
 refine ⟨c,⟨h.ok.step,h.ok.gd h.gd,h.sub.trans S,fun j hj m hm=> ?_⟩,back⟩
 obtain ⟨a,b⟩:=back _ m hm
 have z:=h.dn j hj m a
 have p:=h.ok.step.hr0 hm
 simp only [hr_] at b z p ⊢
 split at b <;> omega
theorem mP.fin {h0 x:Hp} (h:mP h0 (CD h0.AD).length x) (s:ByteArray):CD (FE x ⟨10,0,0,0,s⟩).1.AD=[]:=by
 rw [kY]
 have hp:=h.ok.hp
 have R:=lI hp h.gd
 refine kN fun k k8=> ?_
 cases hv:(ob (ID x.AD x.buffer).1 k).live with
 | false=>rfl
 | true=>
   exfalso
   obtain ⟨e,he,_⟩:=(R.lv k k8).1 hv
   obtain ⟨u,v⟩:=h.sub.lv e he.lt he.lv
   have hm:=X3 h.sub.la he.lt u
   rw [←v] at hm
   obtain ⟨j,hj,ej⟩:=List.getElem_of_mem hm
   rw [CN hj] at ej
   have hoe:=(hp.obj e he.lt)
   have sl:=FU h.ok.ol he.lt he.lv (hoe.lv he.lv).1 hoe.gen.2
   rw [←ej] at sl
   have z:=h.dn j hj e sl
   have p:=he.pos
   simp only [hr_] at z;omega
end Go.Proofs.Ytklmcfpgdfibnaa.P
namespace Go.Proofs.Ytklmcfpgdfibnaa.P
open Go Go.Proofs.Ytklmcfpgdfibnaa Go.Proofs.Ytklmcfpgdfibnaa.Eng
set_option linter.unusedVariables false
set_option maxHeartbeats 4000000
set_option linter.unusedVariables false
set_option linter.unusedSimpArgs false
attribute [local irreducible] prP gP gE gF AV ixW ldc ldg ldl stc stg scW mkW apW BC cl2 BS CU B1
variable {w0:World}
theorem YY (os:List AG):AA os (-1)= -1:=ET (.inl (by omega))
theorem BT.yK {x:Hp} (hk:BT x): ∀i,i<8→ -1000000≤(ob x.AD i).gen∧(ob x.AD i).gen≤1000000:=fun i hi=>by
 have:=(hk.obj i hi).gen
 omega
theorem jM {x:Hp} (hk:BT x) {ids:List Int} {k:Nat} (k8:k<8) (kv:(ob x.AD k).live=true):CA k (ob x.AD k).gen∈KO x.AD (NR x.AD (-1) ids)↔RB x.AD ids k:=by
 have hp:=hk.hp.obj k k8
 have hs:=FU hk.ol k8 kv (hp.lv kv).1 hp.gen.2
 obtain ⟨h1,h2⟩:=Z0 x.AD (-1) ids
 rw [U1 h1 (by omega),hs,h2]
 unfold eD RB
 constructor
 ·rintro ⟨v,hv,s,e,_,hr⟩;exact ⟨v,hv,s,e,PJ.1 hr⟩
 ·rintro ⟨v,hv,s,e,hr⟩;exact ⟨v,hv,s,e,by omega,PJ.2 hr⟩
end Go.Proofs.Ytklmcfpgdfibnaa.P
namespace Go.Proofs.Ytklmcfpgdfibnaa.P
open Go Go.Proofs.Ytklmcfpgdfibnaa Go.Proofs.Ytklmcfpgdfibnaa.Eng
set_option linter.unusedVariables false
set_option maxHeartbeats 4000000
set_option linter.unusedVariables false
set_option linter.unusedSimpArgs false
attribute [local irreducible] prP gP gE gF AV ixW ldc ldg ldl stc stg scW mkW apW BC cl2 BS CU B1
variable {w0:World}
def frQ (q:Que) (i:Nat):Int:=((q.find? fun e=>decide (e.1=(i:Int))).map (·.2)).getD 0
def mtQ (but:Int) (q:Que) (i:Nat):Bool:=decide (inQ q (i:Int)∨(i:Int)=but)
abbrev bxV (but:Int) (q:Que):List Value:=[I (frQ q 0),I (frQ q 1),I (frQ q 2),I (frQ q 3),I (frQ q 4),I (frQ q 5),I (frQ q 6),I (frQ q 7), .bool (mtQ but q 0), .bool (mtQ but q 1), .bool (mtQ but q 2), .bool (mtQ but q 3), .bool (mtQ but q 4), .bool (mtQ but q 5), .bool (mtQ but q 6), .bool (mtQ but q 7)]
abbrev slQ (q:Que):List Int:=q.map (·.1)
theorem eZ (k i:Nat) (a v:Value):arP (iv k) i a v=if k=i then a else v:=by
 unfold arP
 rw [AW]
 by_cases h:k=i
 ·subst h;simp
 ·rw [if_neg h]
  cases hb:Nat.beq k i with
  | true=>exact absurd (Nat.eq_of_beq_eq_true hb) h
  | false=>rfl
theorem uW {q:Que} {k:Nat} {p:Int} (h: ¬inQ q (k:Int)) (i:Nat):arP (iv k) i (I p) (I (frQ q i))=I (frQ (q++[((k:Int),p)]) i):=by
 rw [eZ]
 unfold frQ
 rw [List.find?_append]
 by_cases hi:k=i
 ·subst hi
  rw [if_pos rfl]
  have:q.find? (fun e=>decide (e.1=(k:Int)))=none:=by
   rw [List.find?_eq_none]
   intro e he hh
   exact h (List.mem_map.2 ⟨e,he,by simpa using hh⟩)
  rw [this];simp
 ·rw [if_neg hi]
  have:[((k:Int),p)].find? (fun e=>decide (e.1=(i:Int)))=none:=by
   rw [List.find?_eq_none]
   intro e he hh
   have:e=((k:Int),p):=by simpa using he
   subst this
   simp at hh
   omega
  rw [this,Option.or_none]
theorem uM {but:Int} {q:Que} {k:Nat} {p:Int} (i:Nat):arP (iv k) i (.bool true) (.bool (mtQ but q i))= .bool (mtQ but (q++[((k:Int),p)]) i):=by
 rw [eZ]
 unfold mtQ
 by_cases hi:k=i
 ·subst hi
  rw [if_pos rfl,decide_eq_true (.inl (PA.2 (.inr (by simp [inQ]))))]
 ·rw [if_neg hi]
  have e:inQ (q++[((k:Int),p)]) (i:Int)↔inQ q (i:Int):=by
   rw [PA]
   refine ⟨fun h=>h.resolve_right fun hh=> ?_, .inl⟩
   simp [inQ] at hh;omega
  simp only [e]
theorem uO {but:Int} {q:Que}: ∀k,k<8→arG [.bool (mtQ but q 0), .bool (mtQ but q 1), .bool (mtQ but q 2), .bool (mtQ but q 3), .bool (mtQ but q 4), .bool (mtQ but q 5), .bool (mtQ but q 6), .bool (mtQ but q 7)] (iv k)=some (.bool (mtQ but q k))
 | 0,_=>rfl | 1,_=>rfl | 2,_=>rfl | 3,_=>rfl | 4,_=>rfl | 5,_=>rfl | 6,_=>rfl | 7,_=>rfl
 | k+8,h=>by omega
theorem vU {r:Option Value} {v:Value} {K:Value→Prop} (h:r=some v) (hp:plain v=true) (hk:K v):prP r K:=by subst h;exact CM hp hk
theorem LS {but:Int} {q:Que} {s p:Int} {K:J2} (hl:q.length≤8) (hs:s<8) (h:K (bxV but (FW but q p s)) [tI (slQ (FW but q p s))]):cl2 ⟨Try.prog,w0⟩ 143 C3.sg (bxV but q++[I s,I p]) [tI (slQ q)] K:=by
 refine C3.cl2 ?_
 unfold C3.txt
 have sl:(slQ q).length=q.length:=by simp
 refine BA (BD (BD (BD (BD ?_))))
 by_cases h0:s<0
 ·have e:FW but q p s=q:=by unfold FW;rw [if_pos (.inl h0)]
  rw [e] at h
  exact G9 h0 (G9 h0 (ER h0 rfl (CG h)))
 ·obtain ⟨k,rfl⟩: ∃k:Nat,s=k:=⟨s.toNat,by omega⟩
  have k8:k<8:=by omega
  refine EN h0 (AH k8 (EN h0 (vU (uO k k8) rfl (EW h0 rfl (VO (fun hm=> ?_) fun hm=> ?_)))))
  ·have e:FW but q p k=q:=by
    unfold FW
    rw [if_pos]
    have:=of_decide_eq_true hm
    exact .inr (this.symm)
   rw [e] at h
   exact h
  ·have hm:=of_decide_eq_false hm
   simp only [not_or] at hm
   have e:FW but q p k=q++[((k:Int),p)]:=by
    unfold FW
    rw [if_neg]
    simp only [not_or]
    exact ⟨h0,hm.2,hm.1⟩
   rw [e] at h
   refine AH k8 (AH k8 ?_)
   simp only [AK,AO,AL,AM,AT,AE,AJ,AI,AR,AQ,AN,AU,AP,AS,BG,BO,BL,BN,BM,BP,BK,A5,A6,A8,AZ,A7,A4]
   refine D9 rfl (by first | omega | (simp only [AK,AO,AL,AM,AT,AE,AJ,AI,AR,AQ,AN,AU,AP,AS,BG,BO,BL,BN,BM,BP,BK,A5,A6,A8,AZ,A7,A4];omega)) ?_
   have es:tI (slQ q)++[T.c (I (k:Int))]=tI (slQ (q++[((k:Int),p)])):=by rw [DS];simp [slQ]
   simp only [uW hm.1,uM (p:=p)]
   rw [es]
   exact h
theorem iQ {q:Que} {i:Nat} (hi:i<q.length):gI (slQ q) i=gQ q i:=by
 have h2:i<(slQ q).length:=by simpa using hi
 rw [←CN h2, ←TG hi]
 simp [slQ]
theorem iU {but:Int} {i:Nat}:mtQ but [] i=decide ((i:Int)=but):=by simp [mtQ,inQ]
theorem fY {os:List AG} {but:Int} {ids:List Int}: ∀i,i≤ids.length→QI os but (D8 os but (ids.take i))
 | 0,_=>by simp [D8];exact QI.nil _ _
 | i+1,hi=>by
   unfold D8
   rw [GB (by omega)]
   exact (fY i (by omega)).add fun h0=>UE h0
theorem sL {os:List AG} {but:Int} {q:Que} {s:Int} (hq:QI os but q) {l:List Int} (hl: ∀j∈l,j.toNat<8∧(ob os j.toNat).live=true): ∀i,i≤l.length→QI os but ((l.take i).foldl (fun q' t=>FW but q' s t) q)∧ME q ((l.take i).foldl (fun q' t=>FW but q' s t) q)
 | 0,_=>⟨by simpa using hq,by simp;exact .refl q⟩
 | i+1,hi=>by
   rw [GB (by omega)]
   obtain ⟨a,b⟩:=sL hq hl i (by omega)
   exact ⟨a.add fun _=>hl _ (CH (by omega)),b.trans .add⟩
theorem W4 {x:Hp} {ids:List Int} {but:Int} {K:J2} (hx:Fits x) (hof: ∀o∈x.AD,OF o) (hids: ∀v∈ids,F64 v) (hl:ids.length≤1000) (hb: -1≤but∧but<8) (h:K (bxV but (NR x.AD but ids)) [tI (slQ (NR x.AD but ids))]):cl2 ⟨Try.prog,w0⟩ 102 FP.sg [I but] (trees x++[tI ids]) K:=by
 have ol:=hx.ol
 refine FP.cl2 ?_
 unfold FP.txt
 try simp only [trees,List.cons_append,List.nil_append]
 try simp only [AK,AO,AL,AM,AT,AE,AJ,AI,AR,AQ,AN,AU,AP,AS,BG,BO,BL,BN,BM,BP,BK,A5,A6,A8,AZ,A7,A4]
 refine rV (fun xs cs=>xs=bxV but []∧cs=[]) ?_ fun j hj=> ?_
 rotate_left
 ·refine KQ (A9 (fun h0=> ?_) fun h0=> ?_)
  ·obtain ⟨k,rfl⟩: ∃k:Nat,but=k:=⟨but.toNat,by omega⟩
   have k8:k<8:=by omega
   refine AH k8 (hj _ _ ⟨?_,rfl⟩)
   have e: ∀i:Nat,arP (iv k) i (.bool true) (.bool false)= .bool (mtQ (k:Int) [] i):=fun i=>by
    rw [eZ,iU]
    by_cases hi:k=i
    ·subst hi;simp
    ·rw [if_neg hi,decide_eq_false (by omega)]
   simp only [e]
   rfl
  ·refine hj _ _ ⟨?_,rfl⟩
   have e: ∀i:Nat,mtQ but [] i=false:=fun i=>by rw [iU];exact decide_eq_false (by omega)
   simp only [bxV,e]
   rfl
 rintro xs cs ⟨rfl,rfl⟩
 refine BF (fun i=>iv ids.length::iv i::bxV but (D8 x.AD but (ids.take i))) (fun i=>[tI (slQ (D8 x.AD but (ids.take i)))]) ids.length (fun _=>True) rfl rfl trivial (fun R i hi _ hR=> ?_)
 have hq:=fY (os:=x.AD) (but:=but) i hi
 obtain ⟨q,eq⟩: ∃q,D8 x.AD but (ids.take i)=q:=⟨_,rfl⟩
 rw [eq] at hq ⊢
 have ql:=hq.len
 simp only [AK,AO,AL,AM,AT,AE,AJ,AI,AR,AQ,AN,AU,AP,AS,BG,BO,BL,BN,BM,BP,BK,A5,A6,A8,AZ,A7,A4]
 refine BA (A9 (fun hlt=> ?_) fun hge=> ?_)
 ·have hlt:i<ids.length:=by omega
  have hR:=hR hlt trivial
  have es:D8 x.AD but (ids.take (i+1))=FW but q (-1) (AA x.AD (gI ids i)):=by
   rw [←eq];unfold D8;exact GB hlt _ _
  rw [es] at hR
  have fid:F64 (gI ids i):=by rw [←CN hlt];exact hids _ (List.getElem_mem hlt)
  have sb:AA x.AD (gI ids i)<8:=by
   by_cases h0:0≤AA x.AD (gI ids i)
   ·have:=(BJ h0).2.2.2.1;omega
   ·omega
  refine AH hlt (ldI hlt (JX fid (by omega) (LS (but:=but) (q:=q) (s:=AA x.AD (gI ids i)) (p:= -1) ql sb (BB (by omega) ?_))))
  exact hR
 ·have:i=ids.length:=by omega
  subst this
  rw [List.take_length] at eq
  have h8:0<q.length→x.AD.length=8:=fun h0=>by
   have hin:=TJ h0
   rw [←eq] at hin
   obtain ⟨v,_,hv,hv0,_⟩:=(XW x.AD but ids).2.2 _ hin
   exact (BJ (l:=x.AD) (id:=v) (by omega)).1
  refine EY (α:=Nat×Que) (fun s=>iv s.1::bxV but s.2) (fun s=>[tI (slQ s.2)]) (fun s=>9-s.1) (fun s=>QI x.AD but s.2∧(0<s.2.length→x.AD.length=8)∧ ∃f,8<f+s.1∧P0 x.AD but f s.1 s.2=NR x.AD but ids) (0,q) rfl rfl ⟨hq,h8,9,by simp,by unfold NR;rw [eq]⟩ (fun R s hs hR=> ?_)
  clear hq ql eq h8
  obtain ⟨i,q⟩:=s
  obtain ⟨hq,h8,f,hf,hbf⟩:=hs
  simp only at hq h8 hf hbf
  have ql:=hq.len
  have sl:(slQ q).length=q.length:=by simp
  simp only [AK,AO,AL,AM,AT,AE,AJ,AI,AR,AQ,AN,AU,AP,AS,BG,BO,BL,BN,BM,BP,BK,A5,A6,A8,AZ,A7,A4]
  refine BA (A9 (fun hlt=> ?_) fun hge=> ?_)
  ·have hlt':i<(slQ q).length:=by omega
   have hlt:i<q.length:=by omega
   obtain ⟨k,ek,k8,kv,kb⟩:=hq.lv _ (TJ hlt)
   obtain ⟨f,rfl⟩: ∃f',f=f'+1:=⟨f-1,by omega⟩
   have hb':=hbf
   rw [P0,if_pos hlt,ek] at hb'
   unfold QE at hb'
   rw [Int.toNat_natCast] at hb'
   have ol8:x.AD.length=8:=h8 (by omega)
   have kl:=MX hof (k:=k) (by omega)
   refine AH hlt' (ldI hlt' ?_)
   rw [iQ hlt,ek]
   refine O6 ol8 hof k8 ?_
   obtain ⟨ks,hks⟩: ∃ks,BH x.AD k=ks:=⟨_,rfl⟩
   have hkb: ∀j∈ks,j<8∧j.toNat<8∧(ob x.AD j.toNat).live=true:=fun j hj=>by
    rw [←hks] at hj
    have:=B5 hj
    exact ⟨by omega,this.2.1,this.2.2.2.2⟩
   rw [hks] at hb' kl ⊢
   simp only [AK,AO,AL,AM,AT,AE,AJ,AI,AR,AQ,AN,AU,AP,AS,BG,BO,BL,BN,BM,BP,BK,A5,A6,A8,AZ,A7,A4]
   refine BF (fun j=>iv i::iv ks.length::iv j::bxV but ((ks.take j).foldl (fun q' t=>FW but q' k t) q)) (fun j=>[tI ks,tI (slQ ((ks.take j).foldl (fun q' t=>FW but q' k t) q))]) ks.length (fun _=>True) rfl rfl trivial (fun R2 j hj _ hR2=> ?_)
   obtain ⟨hq2,hgr⟩:=sL (s:=(k:Int)) hq (fun j hj=>(hkb j hj).2) j hj
   obtain ⟨q2,eq2⟩: ∃q2,(ks.take j).foldl (fun q' t=>FW but q' k t) q=q2:=⟨_,rfl⟩
   rw [eq2] at hq2 hgr ⊢
   have ql2:=hq2.len
   have sl2:(slQ q2).length=q2.length:=by simp
   have gl:=hgr.len
   simp only [AK,AO,AL,AM,AT,AE,AJ,AI,AR,AQ,AN,AU,AP,AS,BG,BO,BL,BN,BM,BP,BK,A5,A6,A8,AZ,A7,A4]
   refine BA (A9 (fun hlj=> ?_) fun hgj=> ?_)
   ·have hlj:j<ks.length:=by omega
    have hR2:=hR2 hlj trivial
    rw [GB hlj,eq2] at hR2
    refine AH hlj (ldI hlj (AH (j:=i) (by omega) (ldI (by omega) ?_)))
    rw [iQ (by omega),hgr.gq hlt,ek]
    exact LS (but:=but) (q:=q2) (s:=gI ks j) (p:=(k:Int)) ql2 (hkb _ (CH hlj)).1 (BB (by omega) hR2)
   ·have:j=ks.length:=by omega
    subst this
    rw [List.take_length] at eq2
    rw [eq2] at hb'
    exact BB (by omega) (hR (i+1,q2) ⟨hq2,fun _=>ol8,f,by simp only at hf ⊢;omega,hb'⟩ (by simp only;omega))
  ·rw [←hbf] at h
   cases f with
   | zero=>exact h
   | succ f=>rw [P0,if_neg (by omega)] at h;exact h
end Go.Proofs.Ytklmcfpgdfibnaa.P
namespace Go.Proofs.Ytklmcfpgdfibnaa.P
open Go Go.Proofs.Ytklmcfpgdfibnaa Go.Proofs.Ytklmcfpgdfibnaa.Eng
set_option linter.unusedVariables false
set_option maxHeartbeats 4000000
set_option linter.unusedVariables false
set_option linter.unusedSimpArgs false
attribute [local irreducible] prP gP gE gF AV ixW ldc ldg ldl stc stg scW mkW apW BC cl2 BS CU B1
variable {w0:World}
end Go.Proofs.Ytklmcfpgdfibnaa.P
namespace Go.Proofs.Ytklmcfpgdfibnaa.P
open Go Go.Proofs.Ytklmcfpgdfibnaa Go.Proofs.Ytklmcfpgdfibnaa.Eng
set_option linter.unusedVariables false
set_option maxHeartbeats 4000000
set_option linter.unusedVariables false
set_option linter.unusedSimpArgs false
attribute [local irreducible] prP gP gE gF AV ixW ldc ldg ldl stc stg scW mkW apW BC cl2 BS CU B1
variable {w0:World}
theorem T7 {l:List Int} {K:J2} (hl:(l.length:Int)<2^62) (h:K [.bool true] []):cl2 ⟨Try.prog,w0⟩ 31 EC.sg [] [tI l,tI l] K:=by
 refine EC.cl2 ?_
 unfold EC.txt
 simp only [AK,AO,AL,AM,AT,AE,AJ,AI,AR,AQ,AN,AU,AP,AS,BG,BO,BL,BN,BM,BP,BK,A5,A6,A8,AZ,A7,A4]
 refine CY (DP (fun hh=>hh rfl) (BF (fun i=>[iv i]) (fun _=>[]) l.length (fun _=>True) rfl rfl trivial (fun R i hi _ hR=> ?_)))
 simp only [AK,AO,AL,AM,AT,AE,AJ,AI,AR,AQ,AN,AU,AP,AS,BG,BO,BL,BN,BM,BP,BK,A5,A6,A8,AZ,A7,A4]
 refine BA (A9 (fun hlt=> ?_) fun _=>h)
 have hlt:i<l.length:=by omega
 exact AH hlt (ldI hlt (AH hlt (ldI hlt (CY (DP (fun hh=>hh rfl) (BB (by omega) (hR hlt trivial)))))))
end Go.Proofs.Ytklmcfpgdfibnaa.P
