/- A part of the proof. -/
import Derived.Test.YtklmcfpgdfibnaaLkBfsA
import Derived.Test.YtklmcfpgdfibnaaLkDrA
namespace Go.Proofs.Ytklmcfpgdfibnaa.P
open Go Go.Proofs.Ytklmcfpgdfibnaa Go.Proofs.Ytklmcfpgdfibnaa.Eng
set_option linter.unusedVariables false
set_option maxHeartbeats 4000000
set_option linter.unusedVariables false
set_option linter.unusedSimpArgs false
attribute [local irreducible] prP gP gE gF A6 ixW ldc ldg ldl stc stg scW mkW apW BD cl2 BP C3 B9
variable {w0:World}
theorem cT {N i:Nat} {I0:Value} {CS:List T} {PRE:List Nat} {x b:Int} {c:Prop} [Decidable c] {acc:List Int} {Q1:Value→Prop} {Q2:Prop} (hix: ∀K:Value→Prop,K (iv i)→ixW N I0 K) (hld: ∀K:Value→Prop,K (I x)→ldc CS PRE (AD (iv i)*1) K) (hl:acc.length≤100) (h1:c→x∉acc→x≠b→Q1 (I x)) (h2: ¬(c∧x∉acc∧x≠b)→Q2):
  gE (.bool (decide c)) (
  gE (.bool (decide c)) (
  gE (.bool (decide c)) (
  gP (.bool (decide c)) true (ixW N I0) fun t30=>
  gP (.bool (decide c)) true (ldc CS PRE ((AD t30)*1)) fun t31=>
  gP (.bool (decide c)) true ((fun K=>cl2 ⟨Try.prog,w0⟩ 89 B7.sg [t31] [tI acc] fun v18 d19=>K (nx v18 0))) fun t32=>
  gP (.bool (decide c)) true (prP (un .not t32)) fun t33=>
  prP (pk (.bool (decide c)) t33 (.bool false)) fun t34=>
  gE t34 (
  gE t34 (
  gP t34 true (ixW N I0) fun t38=>
  gP t34 true (ldc CS PRE ((AD t38)*1)) fun t39=>
  gE t34 (
  gP t34 true (prP (bnI .neq t39 (I b))) fun t41=>
  prP (pk t34 t41 (.bool false)) fun t42=>
  A6 t42 (
  ixW N I0 fun t46=>
  ldc CS PRE ((AD t46)*1) fun t47=>
  apW [T.c t47] true acc.length 1 8 (Q1 t47)) Q2)))))):=by
 by_cases hc:c
 ·refine BG (BG (BG (LN hc (hix _ (LN hc (hld _ (LN hc (FP (by omega) ?_))))))))
  by_cases hm:x∈acc
  ·have e:(.bool (decide (x∈acc)):Value)= .bool true:=by rw [decide_eq_true hm]
   simp only [BC]
   rw [e]
   exact LN hc (CY (FH hc rfl (BG (BG (HJ (HJ (BG (HJ (R1 rfl (B5 (h2 fun hh=>hh.2.1 hm)))))))))))
  ·have e:(.bool (decide (x∈acc)):Value)= .bool false:=by rw [decide_eq_false hm]
   simp only [BC]
   rw [e]
   refine LN hc (CY (FH hc rfl (BG (BG (IH (hix _ (IH (hld _ (BG (IH (CT (R6 rfl (A7 (fun hb=> ?_) fun hb=> ?_)))))))))))))
   ·exact hix _ (hld _ (DG rfl (by omega) (h1 hc hm hb)))
   ·exact h2 fun hh=>hb hh.2.2
 ·exact BG (BG (BG (PX hc (PX hc (PX hc (PX hc (ER hc rfl (BG (BG (HJ (HJ (BG (HJ (R1 rfl (B5 (h2 fun hh=>hc hh.1))))))))))))))))
def WB (os:List AG) (s:Int):Int:=s+8*(ob os s.toNat).gen
def K2 (os:List AG) (q:Que):List Int:=q.map fun e=>WB os e.1
theorem NY {os:List AG} {x:Int} (h:0≤AB os x):x=WB os (AB os x):=by
 have hb:=BT h
 unfold WB;omega
theorem SO {os:List AG} {but:Int} {q:Que} (h:QI os but q) {x:Int} (hx:0≤AB os x):x∈K2 os q↔inQ q (AB os x):=by
 unfold K2 inQ
 simp only [List.mem_map]
 constructor
 ·rintro ⟨e,he,hr⟩
  obtain ⟨k,h1,k8,_⟩:=h.lv e.1 (List.mem_map.2 ⟨e,he,rfl⟩)
  have:=(BT hx).2.2.1
  refine ⟨e,he, ?_⟩
  unfold WB at hr
  omega
 ·rintro ⟨e,he,hr⟩
  exact ⟨e,he,by rw [hr];exact (NY hx).symm⟩
theorem NJ (os:List AG) (q:Que):(K2 os q).length=q.length:=by simp [K2]
theorem qD {os:List AG} {q:Que} {i:Nat} (hi:i<q.length):gI (K2 os q) i=WB os (gQ q i):=by
 have h2:i<(K2 os q).length:=by rw [NJ];exact hi
 rw [←CM h2, ←UI hi]
 simp [K2]
theorem dY {os:List AG} {b:Int} {q:Que} {p x:Int} (h:QI os (AB os b) q):
  (0≤AB os x→x∉K2 os q→x≠b→K2 os (F8 (AB os b) q p (AB os x))=K2 os q++[x])∧
  (¬(AB os x≥0∧x∉K2 os q∧x≠b)→K2 os (F8 (AB os b) q p (AB os x))=K2 os q):=by
 constructor
 ·intro h0 hm hb
  rw [SO h h0] at hm
  have:AB os x≠AB os b:=fun he=>hb (by rw [NY h0,he];exact (NY (by omega)).symm)
  unfold F8
  rw [if_neg (by simp only [not_or];exact ⟨by omega,this,hm⟩)]
  simp only [K2,List.map_append,List.map_cons,List.map_nil]
  rw [←NY h0]
 ·intro hn
  unfold F8
  rw [if_pos]
  by_cases h0:0≤AB os x
  ·by_cases hm:x∈K2 os q
   ·exact .inr (.inr ((SO h h0).1 hm))
   ·by_cases hb:x=b
    ·exact .inr (.inl (by rw [hb]))
    ·exact absurd ⟨h0,hm,hb⟩ hn
  ·exact .inl (by omega)
structure QB (os:List AG) (b:Int) (q:Que):Prop where
 qi:QI os (AB os b) q
 rid: ∀s,inQ q s→AB os (WB os s)=s
theorem QB.nil (os:List AG) (b:Int):QB os b []:=⟨QI.nil _ _,fun s h=>by simp [inQ] at h⟩
theorem QB.add {os:List AG} {b:Int} {q:Que} {p:Int} (h:QB os b q) (x:Int):QB os b (F8 (AB os b) q p (AB os x)):=by
 refine ⟨h.qi.add fun h0=>VH h0,fun s hs=> ?_⟩
 rcases kE hs with hs | ⟨rfl,h0,_⟩
 ·exact h.rid s hs
 ·rw [←NY h0]
theorem GL {l:List Int} {i:Nat} (hi:i<l.length) {α:Type} (f:α→Int→α) (a:α):(l.take (i+1)).foldl f a=f ((l.take i).foldl f a) (gI l i):=by
 rw [List.take_succ_eq_append_getElem hi,List.foldl_append,CM hi];rfl
theorem RV {os:List AG} {b:Int} {ids:List Int}: ∀i,i≤ids.length→QB os b (EN os (AB os b) (ids.take i))
 | 0,_=>by simp [EN];exact QB.nil _ _
 | i+1,hi=>by
   unfold EN
   rw [GL (by omega)]
   exact (RV i (by omega)).add _
def YF (os:List AG) (but:Int) (q:Que) (s:Int) (l:List Int):Que:=l.foldl (fun q' f=>F8 but q' s (AB os f)) q
theorem kV {os:List AG} {but:Int} {q:Que} {s:Int}:Q6 os but q s=YF os but q s (ob os s.toNat).field:=by
 unfold Q6 YF BQ
 generalize (ob os s.toNat).field=l
 induction l generalizing q with
 | nil=>rfl
 | cons f l ih=>
   simp only [List.map_cons,List.foldl_cons,List.filter_cons]
   by_cases h0:0≤AB os f
   ·rw [if_pos (by simpa using h0)]
    simp only [List.foldl_cons]
    exact ih
   ·rw [if_neg (by simpa using h0)]
    have e:F8 but q s (AB os f)=q:=by unfold F8;rw [if_pos (.inl (by omega))]
    rw [e]
    exact ih
theorem dC {os:List AG} {b:Int} {q:Que} {s:Int} (hq:QB os b q) {l:List Int}: ∀i,i≤l.length→QB os b (YF os (AB os b) q s (l.take i))
 | 0,_=>by simp [YF];exact hq
 | i+1,hi=>by
   unfold YF
   rw [GL (by omega)]
   exact (dC hq i (by omega)).add _
theorem OW {x:Hp} {ids:List Int} {b:Int} {K:J2} (hx:Fits x) (hn:U4 x) (hg: ∀i,i<8→ -1000000≤(ob x.AA i).gen∧(ob x.AA i).gen≤1000000) (hids: ∀v∈ids,F64 v) (hl:ids.length≤1000) (h:K [] [tI (K2 x.AA (KA x.AA (AB x.AA b) ids))]):cl2 ⟨Try.prog,w0⟩ 93 DI.sg [I b] (trees x++[tI ids]) K:=by
 have ol:=hx.ol
 refine DI.cl2 ?_
 unfold DI.txt
 simp only [AI,AP,AN,AS,AK,AE,AJ,AH,AM,AT,AL,AR,AO,AQ,BC,BE,BF,BJ,BL,BK,BH,AW,A5,AZ,A4,AY,AX]
 refine BM (fun i=>[I b,iv i]) (fun i=>[tI (K2 x.AA (EN x.AA (AB x.AA b) (ids.take i)))]) ids.length (fun _=>True) rfl rfl trivial (fun R i hi _ hR=> ?_)
 have hq:=RV (os:=x.AA) (b:=b) i hi
 obtain ⟨q,eq⟩: ∃q,EN x.AA (AB x.AA b) (ids.take i)=q:=⟨_,rfl⟩
 have il:=NJ x.AA q
 rw [eq] at hq ⊢
 have ql:=hq.qi.len
 simp only [AI,AP,AN,AS,AK,AE,AJ,AH,AM,AT,AL,AR,AO,AQ,BC,BE,BF,BJ,BL,BK,BH,AW,A5,AZ,A4,AY,AX]
 refine A9 (A7 (fun hlt=>BW ?_) fun hge=> ?_)
 ·have hlt:i<ids.length:=by omega
  have hR:=hR hlt trivial
  have es:EN x.AA (AB x.AA b) (ids.take (i+1))=F8 (AB x.AA b) q (-1) (AB x.AA (gI ids i)):=by
   rw [←eq];unfold EN;exact GL hlt _ _
  rw [es] at hR
  obtain ⟨a1,a2⟩:=dY (p:= -1) (x:=gI ids i) hq.qi
  have fid:F64 (gI ids i):=by rw [←CM hlt];exact hids _ (List.getElem_mem hlt)
  refine AU hlt (ldI hlt (B1 fid (by omega) (LA ?_)))
  refine cT (c:=AB x.AA (gI ids i)≥0) (fun K hK=>AU hlt hK) (fun K hK=>ldI hlt hK) (by omega) (fun h0 hm hb=> ?_) fun hno=> ?_
  ·rw [a1 h0 hm hb, ←C4] at hR
   exact A8 (by omega) hR
  ·rw [a2 hno] at hR
   exact A8 (by omega) hR
 ·have:i=ids.length:=by omega
  subst this
  rw [List.take_length] at eq
  refine DJ (α:=Nat×Que) (fun s=>[I b,iv s.1]) (fun s=>[tI (K2 x.AA s.2)]) (fun s=>9-s.1) (fun s=>QB x.AA b s.2∧ ∃f,8<f+s.1∧QX x.AA (AB x.AA b) f s.1 s.2=KA x.AA (AB x.AA b) ids) (0,q) rfl rfl ⟨hq,9,by simp,by unfold KA;rw [eq]⟩ (fun R s hs hR=> ?_)
  obtain ⟨i,q⟩:=s
  obtain ⟨hq,f,hf,hb⟩:=hs
  simp only at hq hf hb
  have ql:=hq.qi.len
  have il:=NJ x.AA q
  simp only [AI,AP,AN,AS,AK,AE,AJ,AH,AM,AT,AL,AR,AO,AQ,BC,BE,BF,BJ,BL,BK,BH,AW,A5,AZ,A4,AY,AX]
  refine A9 (A7 (fun hlt=> ?_) fun hge=> ?_)
  ·have hlt':i<(K2 x.AA q).length:=by omega
   have hlt:i<q.length:=by omega
   obtain ⟨k,ek,k8,kv,kb⟩:=hq.qi.lv _ (UK hlt)
   obtain ⟨f,rfl⟩: ∃f',f=f'+1:=⟨f-1,by omega⟩
   have hb':=hb
   rw [QX,if_pos hlt,kV,ek,Int.toNat_natCast] at hb'
   have hs:=hq.rid _ (UK hlt)
   rw [ek] at hs
   have ev:gI (K2 x.AA q) i=WB x.AA k:=by rw [qD hlt,ek]
   have hbd:=BT (l:=x.AA) (id:=WB x.AA k) (by omega)
   have hol:=hbd.1
   have kl:k<x.AA.length:=by omega
   have nk:=hn.ob k
   have fk:=hx.of _ (JW kl)
   have fv:F64 (WB x.AA k):=by
    have:=hg k k8
    unfold WB
    rw [Int.toNat_natCast]
    exact ⟨by omega,by omega⟩
   refine AU hlt' (ldI hlt' ?_)
   rw [ev]
   refine B1 fv (by omega) ?_
   rw [hs]
   simp only [AI,AP,AN,AS,AK,AE,AJ,AH,AM,AT,AL,AR,AO,AQ,BC,BE,BF,BJ,BL,BK,BH,AW,A5,AZ,A4,AY,AX]
   refine AU kl (TJ kl ?_)
   refine BM (fun j=>[I b,iv i,iv (AD (iv k)*8+6),iv j]) (fun j=>[tI (K2 x.AA (YF x.AA (AB x.AA b) q k ((ob x.AA k).field.take j)))]) (ob x.AA k).field.length (fun _=>True) rfl (by simp [YF]) trivial (fun R2 j hj _ hR2=> ?_)
   have hq2:=dC (s:=(k:Int)) hq (l:=(ob x.AA k).field) j hj
   obtain ⟨q2,eq2⟩: ∃q2,YF x.AA (AB x.AA b) q k ((ob x.AA k).field.take j)=q2:=⟨_,rfl⟩
   have il2:=NJ x.AA q2
   rw [eq2] at hq2 ⊢
   have ql2:=hq2.qi.len
   simp only [AI,AP,AN,AS,AK,AE,AJ,AH,AM,AT,AL,AR,AO,AQ,BC,BE,BF,BJ,BL,BK,BH,AW,A5,AZ,A4,AY,AX]
   rw [BB (AD (iv k)*8+6),IL kl,AE]
   refine A9 (A7 (fun hlj=>BW ?_) fun hgj=> ?_)
   ·have hlj:j<(ob x.AA k).field.length:=by omega
    have hR2:=hR2 hlj trivial
    have es:YF x.AA (AB x.AA b) q k ((ob x.AA k).field.take (j+1))=F8 (AB x.AA b) q2 k (AB x.AA (gI (ob x.AA k).field j)):=by
     rw [←eq2];unfold YF;exact GL hlj _ _
    rw [es] at hR2
    obtain ⟨a1,a2⟩:=dY (p:=(k:Int)) (x:=gI (ob x.AA k).field j) hq2.qi
    have fid:F64 (gI (ob x.AA k).field j):=nk.2.2.2.2.2 _ (CH hlj)
    refine AU hlj (M5 kl hlj (B1 fid (by omega) (LA ?_)))
    refine cT (c:=AB x.AA (gI (ob x.AA k).field j)≥0) (fun K hK=>AU hlj hK) (fun K hK=>M5 kl hlj hK) (by omega) (fun h0 hm hb=> ?_) fun hno=> ?_
    ·rw [a1 h0 hm hb, ←C4] at hR2
     exact A8 (by omega) hR2
    ·rw [a2 hno] at hR2
     exact A8 (by omega) hR2
   ·have:j=(ob x.AA k).field.length:=by omega
    subst this
    rw [List.take_length] at eq2
    refine A8 (by omega) (hR (i+1,q2) ⟨hq2,f,by simp only at hf ⊢;omega, ?_⟩ (by simp only;omega))
    simp only
    rw [←eq2]
    exact hb'
  ·rw [←hb] at h
   cases f with
   | zero=>exact h
   | succ f=>rw [QX,if_neg (by omega)] at h;exact h
end Go.Proofs.Ytklmcfpgdfibnaa.P
namespace Go.Proofs.Ytklmcfpgdfibnaa.P
open Go Go.Proofs.Ytklmcfpgdfibnaa Go.Proofs.Ytklmcfpgdfibnaa.Eng
set_option linter.unusedVariables false
set_option maxHeartbeats 4000000
set_option linter.unusedVariables false
set_option linter.unusedSimpArgs false
attribute [local irreducible] prP gP gE gF A6 ixW ldc ldg ldl stc stg scW mkW apW BD cl2 BP C3 B9
variable {w0:World}
theorem KV {α:Type} {f:Nat→List α} {x:α}: ∀{n:Nat},x∈pick f n↔ ∃i,i<n∧x∈f i
 | 0=>by simp [pick]
 | n+1=>by
   rw [pick,List.mem_append,KV]
   constructor
   ·rintro (⟨i,h1,h2⟩ | h)
    ·exact ⟨i,by omega,h2⟩
    ·exact ⟨n,by omega,h⟩
   ·rintro ⟨i,h1,h2⟩
    rcases Nat.lt_or_ge i n with h | h
    ·exact .inl ⟨i,h,h2⟩
    ·have:i=n:=by omega
     subst this;exact .inr h2
theorem YU {os:List AG} {k:Nat} (hol:os.length=8) (k8:k<8) (kv:(ob os k).live=true):B6 k (ob os k).gen∈B2 os:=
 KV.2 ⟨k,by omega,by unfold FE;rw [if_pos ⟨by omega,kv⟩];simp⟩
theorem lF {os:List AG} (h: ∀k,k<8→(ob os k).live=false):B2 os=[]:=by
 refine List.eq_nil_iff_forall_not_mem.2 fun x hx=> ?_
 obtain ⟨i,_,hi⟩:=KV.1 hx
 unfold FE at hi
 split at hi
 ·rename_i hh
  have:=h i (by omega)
  rw [hh.2] at this;cases this
 ·cases hi
theorem PU {a:List AG} {b c d:List T} {K:J2} (hl:(a.length:Int)≤1048576) (h:K [] [tI (B2 a)]):cl2 ⟨Try.prog,w0⟩ 40 EA.sg [] [tR tO a,b,c,d] K:=by
 refine EA.cl2 ?_
 unfold EA.txt
 simp only [AI,AP,AN,AS,AK,AE,AJ,AH,AM,AT,AL,AR,AO,AQ,BC,BE,BF,BJ,BL,BK,BH,AW,A5,AZ,A4,AY,AX]
 refine BM (fun i=>[iv a.length,iv i]) (fun i=>[tI (pick (FE a) i)]) a.length (fun i=>True) rfl rfl trivial (fun R i hi _ hR=> ?_)
 have hpl:=HY (T8 a) i
 simp only [AI,AP,AN,AS,AK,AE,AJ,AH,AM,AT,AL,AR,AO,AQ,BC,BE,BF,BJ,BL,BK,BH,AW,A5,AZ,A4,AY,AX]
 refine A9 (A7 (fun hlt=>BW ?_) fun hge=> ?_)
 ·have hlt:i<a.length:=by omega
  have hR:=hR hlt trivial
  refine AU hlt (UA hlt (A9 (BG (BG ?_))))
  simp only [qL,mT]
  by_cases h8:(i:Int)<8
  ·refine FH h8 rfl ?_
   cases hv:(ob a i).live with
   | true=>
     have e:FE a i=[B6 i (ob a i).gen]:=by unfold FE;rw [if_pos ⟨by omega,hv⟩]
     refine CE (MU (DG rfl (by first | omega | (simp only [AI,AP,AN,AS,AK,AE,AJ,AH,AM,AT,AL,AR,AO,AQ,BC,BE,BF,BJ,BL,BK,BH,AW,A5,AZ,A4,AY,AX];omega)) ?_))
     simp only [AI,AP,AN,AS,AK,AE,AJ,AH,AM,AT,AL,AR,AO,AQ,BC,BE,BF,BJ,BL,BK,BH,AW,A5,AZ,A4,AY,AX]
     rw [C4,SZ e]
     exact A8 (by omega) hR
   | false=>
     have e:FE a i=[]:=by unfold FE;rw [if_neg];rintro ⟨_,h⟩;rw [hv] at h;cases h
     refine B5 ?_
     simp only [AI,AP,AN,AS,AK,AE,AJ,AH,AM,AT,AL,AR,AO,AQ,BC,BE,BF,BJ,BL,BK,BH,AW,A5,AZ,A4,AY,AX]
     rw [←N0 e] at hR
     exact A8 (by omega) hR
  ·refine ER h8 rfl (B5 ?_)
   have e:FE a i=[]:=by unfold FE;rw [if_neg];omega
   simp only [AI,AP,AN,AS,AK,AE,AJ,AH,AM,AT,AL,AR,AO,AQ,BC,BE,BF,BJ,BL,BK,BH,AW,A5,AZ,A4,AY,AX]
   rw [←N0 e] at hR
   exact A8 (by omega) hR
 ·have:i=a.length:=by omega
  subst this
  exact h
structure Sub (a b:List AG):Prop where
 la:a.length=8
 lb:b.length=8
 lv: ∀i,i<8→(ob b i).live=true→(ob a i).live=true∧(ob b i).gen=(ob a i).gen
theorem Sub.refl {a:List AG} (h:a.length=8):Sub a a:=⟨h,h,fun _ _ h=>⟨h,rfl⟩⟩
theorem Sub.trans {a b c:List AG} (h:Sub a b) (h':Sub b c):Sub a c:=⟨h.la,h'.lb,fun i hi hv=>by
 obtain ⟨x,y⟩:=h'.lv i hi hv
 obtain ⟨u,v⟩:=h.lv i hi x
 exact ⟨u,by rw [y,v]⟩⟩
theorem Sub.slot {a b:List AG} (h:Sub a b) {x:Int} {k:Nat} (hs:AB b x=(k:Int)):AB a x=(k:Int):=by
 have hb:=BT (l:=b) (id:=x) (by omega)
 have ek:(AB b x).toNat=k:=by omega
 rw [ek] at hb
 obtain ⟨_,b1,b2,k8,kv,kg⟩:=hb
 obtain ⟨u,v⟩:=h.lv k k8 kv
 have e:(x % 8).toNat=k:=by omega
 rw [H6 b1 h.la (by have:=h.la;omega) (by rw [e];exact u) (by rw [e, ←v];exact kg)]
 omega
abbrev hr_ (os:List AG) (k:Nat):Int:=(ob os k).holds+(ob os k).roots
theorem BO.hr0 {x:Hp} (hk:BO x) {id:Int} {k:Nat} (hs:AB x.AA id=(k:Int)):(0≤(ob x.AA k).holds∧(ob x.AA k).holds≤20)∧(0≤(ob x.AA k).roots∧(ob x.AA k).roots≤20):=(hk.hp.RR hs).2.2.2
theorem vK {os:List AG} {buf:List Int} {ns:Nat} {id:Int} {k:Nat} (h:HP os ns buf []) (hk:AB os id=(k:Int)) {v:AG} (ev:v={ob os k with holds:=v.holds,roots:=v.roots}) (v4:0≤v.holds∧v.holds≤20) (v5:0≤v.roots∧v.roots≤20) (hs:v.holds+v.roots+1=hr_ os k):
  ML (os.set k v) (FY (os.set k v) buf [id]).1 (FY (os.set k v) buf [id]).2.2:=by
 have hls:0≤AB os id:=by omega
 obtain ⟨c1,c2,c3,_,_⟩:=h.RR hk
 have e1:v.count=(ob os k).count:=by rw [ev]
 have h1:=h.upd (pd':=[id]) (v:=v) hk (by rw [ev]) (by rw [ev]) (by rw [ev]) v4 v5 (by rw [ev]) (by rw [ev]) (by simp only [List.count_singleton_self];simp only [hr_] at hs;omega) (by omega) (fun x hx=>by simp [Ne.symm hx]) (by simpa using hls)
 exact kO h1
theorem sC {x:Hp} (hk:BO x) {id kd:Int} {k:Nat} {s:ByteArray} (hs:AB x.AA id=(k:Int)) (h0:hr_ x.AA k≠0) (hkd:(kd=6∧(ob x.AA k).holds=0)∨(kd=3∧(ob x.AA k).holds≠0)):
  (FQ x ⟨kd,id,0,0,s⟩).2.code=0∧Sub x.AA (FQ x ⟨kd,id,0,0,s⟩).1.AA∧ ∀i,i<8→(ob (FQ x ⟨kd,id,0,0,s⟩).1.AA i).live=true→hr_ (FQ x ⟨kd,id,0,0,s⟩).1.AA i=hr_ x.AA i-(if i=k then 1 else 0):=by
 have hp:=hk.hp
 have hol:=hk.ol
 obtain ⟨b1,b2⟩:=hk.hr0 hs
 have k8:k<8:=(hp.me hs).1
 have hkl:k<x.AA.length:=by omega
 have e:AB x.AA id=((k:Nat):Int):=hs
 have fin: ∀v:AG,v={ob x.AA k with holds:=v.holds,roots:=v.roots}→(0≤v.holds∧v.holds≤20)→(0≤v.roots∧v.roots≤20)→v.holds+v.roots+1=hr_ x.AA k→
   Sub x.AA (FY (x.AA.set k v) x.buffer [id]).1∧ ∀i,i<8→(ob (FY (x.AA.set k v) x.buffer [id]).1 i).live=true→hr_ (FY (x.AA.set k v) x.buffer [id]).1 i=hr_ x.AA i-(if i=k then 1 else 0):=fun v ev v4 v5 hsum=>by
  have R:=vK hp hs ev v4 v5 hsum
  have eo: ∀i,ob (x.AA.set k v) i=if i=k then v else ob x.AA i:=fun i=>DV hkl
  refine ⟨⟨hol,R.len,fun i hi hv=> ?_⟩,fun i hi hv=> ?_⟩
  ·obtain ⟨a,_⟩:=R.sm i hi hv
   have g:=R.gn i hi
   rw [eo] at a g
   split at a
   ·rename_i he;subst he
    rw [if_pos rfl] at g
    have vl:v.live=(ob x.AA i).live:=by rw [ev]
    have vg:v.gen=(ob x.AA i).gen:=by rw [ev]
    exact ⟨by rw [←vl];exact a,by rw [g,vg]⟩
   ·rename_i he
    rw [if_neg he] at g
    exact ⟨a,g⟩
  ·obtain ⟨_,_,a,b,_⟩:=R.sm i hi hv
   simp only [hr_]
   rw [a,b,eo]
   split
   ·rename_i he;subst he;simp only [hr_] at hsum;omega
   ·omega
 rcases hkd with ⟨rfl,hz⟩ | ⟨rfl,hz⟩
 ·have es:FQ x ⟨6,id,0,0,s⟩=(⟨(HT x.AA x.buffer 6 id).1,x.B4,(HT x.AA x.buffer 6 id).2.1,x.sites⟩,(HT x.AA x.buffer 6 id).2.2):=by simp [FQ]
  have hr:(ob x.AA k).roots≠0:=by simp only [hr_] at h0;omega
  have eh:HT x.AA x.buffer 6 id=OS (FY (x.AA.set k {ob x.AA k with roots:=(ob x.AA k).roots-1}) x.buffer [id]):=by
   unfold HT
   rw [e,Int.toNat_natCast,if_neg (by omega),if_neg (by decide),if_neg (by decide),if_neg (by decide),if_neg hr]
  rw [es,eh]
  exact ⟨rfl,fin _ rfl (by simp only;omega) (by simp only;omega) (by simp only [hr_];omega)⟩
 ·have es:FQ x ⟨3,id,0,0,s⟩=(⟨(HT x.AA x.buffer 3 id).1,x.B4,(HT x.AA x.buffer 3 id).2.1,x.sites⟩,(HT x.AA x.buffer 3 id).2.2):=by simp [FQ]
  have eh:HT x.AA x.buffer 3 id=OS (FY (x.AA.set k {ob x.AA k with holds:=(ob x.AA k).holds-1}) x.buffer [id]):=by
   unfold HT
   rw [e,Int.toNat_natCast,if_neg (by omega),if_neg (by decide),if_neg (by decide),if_pos rfl,if_neg hz]
  rw [es,eh]
  exact ⟨rfl,fin _ rfl (by simp only;omega) (by simp only;omega) (by simp only [hr_];omega)⟩
theorem lC (x:Hp) (s:ByteArray):FQ x ⟨10,0,0,0,s⟩=(⟨(IT x.AA x.buffer).1,x.B4,[],x.sites⟩,⟨0,0,(IT x.AA x.buffer).2⟩):=by simp [FQ]
structure p9 (h0:Hp) (i:Nat) (x:Hp):Prop where
 ok:BO x
 gd:Gd x.AA x.buffer
 sub:Sub h0.AA x.AA
 dn: ∀j,j<i→ ∀k:Nat,AB x.AA (gI (B2 h0.AA) j)=(k:Int)→hr_ x.AA k=0
theorem p9.drop {h0 x:Hp} {i:Nat} (h:p9 h0 i x) {id kd:Int} {k:Nat} {s:ByteArray} (hs:AB x.AA id=(k:Int)) (hz:hr_ x.AA k≠0) (hkd:(kd=6∧(ob x.AA k).holds=0)∨(kd=3∧(ob x.AA k).holds≠0)):
  (FQ x ⟨kd,id,0,0,s⟩).2.code=0∧p9 h0 i (FQ x ⟨kd,id,0,0,s⟩).1∧ ∀v:Int, ∀m:Nat,AB (FQ x ⟨kd,id,0,0,s⟩).1.AA v=(m:Int)→AB x.AA v=(m:Int)∧hr_ (FQ x ⟨kd,id,0,0,s⟩).1.AA m=hr_ x.AA m-(if m=k then 1 else 0):=by
 obtain ⟨c,S,H⟩:=sC (s:=s) h.ok hs hz hkd
 have back: ∀v:Int, ∀m:Nat,AB (FQ x ⟨kd,id,0,0,s⟩).1.AA v=(m:Int)→AB x.AA v=(m:Int)∧hr_ (FQ x ⟨kd,id,0,0,s⟩).1.AA m=hr_ x.AA m-(if m=k then 1 else 0):=fun v m hm=>by
  have hl:=IA hm
  exact ⟨S.slot hm,H m hl.1 hl.2⟩
 refine ⟨c,⟨h.ok.step,h.ok.gd h.gd,h.sub.trans S,fun j hj m hm=> ?_⟩,back⟩
 obtain ⟨a,b⟩:=back _ m hm
 have z:=h.dn j hj m a
 have p:=h.ok.step.hr0 hm
 simp only [hr_] at b z p ⊢
 split at b <;> omega
theorem p9.fin {h0 x:Hp} (h:p9 h0 (B2 h0.AA).length x) (s:ByteArray):B2 (FQ x ⟨10,0,0,0,s⟩).1.AA=[]:=by
 rw [lC]
 have hp:=h.ok.hp
 have R:=pO hp h.gd
 refine lF fun k k8=> ?_
 cases hv:(ob (IT x.AA x.buffer).1 k).live with
 | false=>rfl
 | true=>
   exfalso
   obtain ⟨e,he,_⟩:=(R.lv k k8).1 hv
   obtain ⟨u,v⟩:=h.sub.lv e he.lt he.lv
   have hm:=YU h.sub.la he.lt u
   rw [←v] at hm
   obtain ⟨j,hj,ej⟩:=List.getElem_of_mem hm
   rw [CM hj] at ej
   have hoe:=(hp.obj e he.lt)
   have sl:=EG h.ok.ol he.lt he.lv (hoe.lv he.lv).1 hoe.gen.2
   rw [←ej] at sl
   have z:=h.dn j hj e sl
   have p:=he.pos
   simp only [hr_] at z;omega
end Go.Proofs.Ytklmcfpgdfibnaa.P
namespace Go.Proofs.Ytklmcfpgdfibnaa.P
open Go Go.Proofs.Ytklmcfpgdfibnaa Go.Proofs.Ytklmcfpgdfibnaa.Eng
set_option linter.unusedVariables false
set_option maxHeartbeats 4000000
set_option linter.unusedVariables false
set_option linter.unusedSimpArgs false
attribute [local irreducible] prP gP gE gF A6 ixW ldc ldg ldl stc stg scW mkW apW BD cl2 BP C3 B9
variable {w0:World}
theorem UJ {α:Type} (p:α→Bool) {f:Nat→List α}: ∀n,(pick f n).filter p=pick (fun i=>(f i).filter p) n
 | 0=>rfl
 | n+1=>by rw [pick,List.filter_append,UJ p n];rfl
theorem XF {a:List AG} {b c d:List T} {l:List Int} {K:J2} (hl:(a.length:Int)≤1048576) (hl2:l.length≤1000) (h:K [] [tI ((B2 a).filter fun v=>decide (v∈l))]):cl2 ⟨Try.prog,w0⟩ 101 FJ.sg [] [tR tO a,b,c,d,tI l] K:=by
 refine FJ.cl2 ?_
 unfold FJ.txt
 refine JG hl ?_
 obtain ⟨m,hm⟩: ∃m,B2 a=m:=⟨_,rfl⟩
 have ml:(m.length:Int)≤1048576:=by have:=GN a;rw [hm] at this;omega
 rw [hm] at h ⊢
 simp only [AI,AP,AN,AS,AK,AE,AJ,AH,AM,AT,AL,AR,AO,AQ,BC,BE,BF,BJ,BL,BK,BH,AW,A5,AZ,A4,AY,AX]
 refine BM (fun i=>[iv i]) (fun i=>[tI ((m.take i).filter fun v=>decide (v∈l)),tI m]) m.length (fun _=>True) rfl rfl trivial (fun R i hi _ hR=> ?_)
 have fl:((m.take i).filter fun v=>decide (v∈l)).length≤m.length:=Nat.le_trans (List.length_filter_le _ _) (List.length_take_le' _ _)
 simp only [AI,AP,AN,AS,AK,AE,AJ,AH,AM,AT,AL,AR,AO,AQ,BC,BE,BF,BJ,BL,BK,BH,AW,A5,AZ,A4,AY,AX]
 refine A9 (A7 (fun hlt=>BW ?_) fun hge=> ?_)
 ·have hlt:i<m.length:=by omega
  have hR:=hR hlt trivial
  rw [List.take_succ_eq_append_getElem hlt,List.filter_append,CM hlt] at hR
  refine AU hlt (ldI hlt (FP (by omega) (A7 (fun hm=> ?_) fun hm=> ?_)))
  ·have e:[gI m i].filter (fun v=>decide (v∈l))=[gI m i]:=by simp [hm]
   rw [e, ←C4] at hR
   exact AU hlt (ldI hlt (DG rfl (by omega) (A8 (by omega) hR)))
  ·have e:[gI m i].filter (fun v=>decide (v∈l))=[]:=by simp [hm]
   rw [e,List.append_nil] at hR
   exact A8 (by omega) hR
 ·have:i=m.length:=by omega
  subst this
  rw [List.take_length]
  exact h
def LZ (os:List AG) (ids:List Int):List Int:=(B2 os).filter fun v=>decide (v∈K2 os (KA os (-1) ids))
theorem VS (os:List AG):AB os (-1)= -1:=FG (.inl (by omega))
theorem BO.yI {x:Hp} (hk:BO x): ∀i,i<8→ -1000000≤(ob x.AA i).gen∧(ob x.AA i).gen≤1000000:=fun i hi=>by
 have:=(hk.obj i hi).gen
 omega
theorem TT {x:Hp} {ids:List Int} {K:J2} (hk:BO x) (hids: ∀v∈ids,F64 v) (hl:ids.length≤1000) (h:K [] [tI (LZ x.AA ids)]):cl2 ⟨Try.prog,w0⟩ 32 D9.sg [] (trees x++[tI ids]) K:=by
 have ol:=hk.ol
 have fits:=hk.fits
 refine D9.cl2 ?_
 unfold D9.txt
 try simp only [trees,List.cons_append,List.nil_append]
 try simp only [AI,AP,AN,AS,AK,AE,AJ,AH,AM,AT,AL,AR,AO,AQ,BC,BE,BF,BJ,BL,BK,BH,AW,A5,AZ,A4,AY,AX]
 refine CT (DU (by omega) (OW (x:=x) (b:= -1) fits hk.I6 hk.yI hids hl ?_))
 rw [VS]
 have ql:=(QG x.AA (-1) ids).1.len
 have il:=NJ x.AA (KA x.AA (-1) ids)
 exact XF fits.ol (by omega) h
theorem cP (os:List AG):(exts os).length≤os.length:=HY (X6 os) _
theorem jG (os:List AG): ∀v∈exts os, -1≤v∧v≤7999:=WS (fun i x hx=>by
 unfold NF at hx;split at hx
 ·rw [List.mem_singleton.1 hx];exact VJ _ _
 ·cases hx) _
theorem TW {x:Hp} (hk:BO x) {ids:List Int} {k:Nat} (k8:k<8) (kv:(ob x.AA k).live=true):B6 k (ob x.AA k).gen∈K2 x.AA (KA x.AA (-1) ids)↔RB x.AA ids k:=by
 have hp:=hk.hp.obj k k8
 have hs:=EG hk.ol k8 kv (hp.lv kv).1 hp.gen.2
 obtain ⟨h1,h2⟩:=QG x.AA (-1) ids
 rw [SO h1 (by omega),hs,h2]
 unfold eQ RB
 constructor
 ·rintro ⟨v,hv,s,e,_,hr⟩;exact ⟨v,hv,s,e,QF.1 hr⟩
 ·rintro ⟨v,hv,s,e,hr⟩;exact ⟨v,hv,s,e,by omega,QF.2 hr⟩
theorem kD {x:Hp} (hk:BO x) {k:Nat}:RB x.AA (exts x.AA) k↔Rch x.AA k:=by
 constructor
 ·rintro ⟨v,hv,s,hs,hr⟩
  obtain ⟨i,hi,hx⟩:=KV.1 hv
  unfold NF at hx
  split at hx
  ·rename_i hc
   rw [List.mem_singleton.1 hx] at hs
   have i8:i<8:=by omega
   have hp:=hk.hp.obj i i8
   have l:=hp.lv hc.2.1
   rw [EG hk.ol i8 hc.2.1 l.1 hp.gen.2] at hs
   have:i=s:=by omega
   subst this
   have e:=hc.2.2
   rw [I2 ⟨by omega,by omega⟩] at e
   exact ⟨i,⟨i8,hc.2.1,e⟩,hr⟩
  ·cases hx
 ·rintro ⟨e,he,hr⟩
  have hp:=hk.hp.obj e he.lt
  have l:=hp.lv he.lv
  refine ⟨B6 e (ob x.AA e).gen,KV.2 ⟨e,by rw [hk.ol];exact he.lt, ?_⟩,e,EG hk.ol he.lt he.lv l.1 hp.gen.2,hr⟩
  unfold NF
  rw [if_pos ⟨by have:=he.lt;omega,he.lv,by rw [I2 ⟨by omega,by omega⟩];exact he.pos⟩]
  simp
def IG (os:List AG):List Int:=(B2 os).filter fun v=>decide (v∉LZ os (exts os))
theorem RD {x:Hp} {K:J2} (hk:BO x) (h:K [] [tI (IG x.AA)]):cl2 ⟨Try.prog,w0⟩ 22 FA.sg [] (trees x) K:=by
 have ol:=hk.ol
 have fits:=hk.fits
 refine FA.cl2 ?_
 unfold FA.txt
 try simp only [trees]
 try simp only [AI,AP,AN,AS,AK,AE,AJ,AH,AM,AT,AL,AR,AO,AQ,BC,BE,BF,BJ,BL,BK,BH,AW,A5,AZ,A4,AY,AX]
 have el:=cP x.AA
 refine CT (DU (by omega) (T6 fits.ol (TT (x:=x) hk (fun v hv=>BV (by have:=jG _ v hv;omega)) (by omega) (JG fits.ol ?_))))
 unfold IG at h
 obtain ⟨m,hm⟩: ∃m,B2 x.AA=m:=⟨_,rfl⟩
 obtain ⟨r,hr⟩: ∃r,LZ x.AA (exts x.AA)=r:=⟨_,rfl⟩
 have ml:m.length≤8:=by have:=GN x.AA;rw [hm] at this;omega
 have rl:r.length≤8:=by rw [←hr];unfold LZ;rw [hm];exact Nat.le_trans (List.length_filter_le _ _) ml
 rw [hm,hr] at h ⊢
 simp only [AI,AP,AN,AS,AK,AE,AJ,AH,AM,AT,AL,AR,AO,AQ,BC,BE,BF,BJ,BL,BK,BH,AW,A5,AZ,A4,AY,AX]
 refine BM (fun i=>[iv i]) (fun i=>[tI ((m.take i).filter fun v=>decide (v∉r)),tI r,tI m]) m.length (fun _=>True) rfl rfl trivial (fun R i hi _ hR=> ?_)
 have fl:((m.take i).filter fun v=>decide (v∉r)).length≤m.length:=Nat.le_trans (List.length_filter_le _ _) (List.length_take_le' _ _)
 simp only [AI,AP,AN,AS,AK,AE,AJ,AH,AM,AT,AL,AR,AO,AQ,BC,BE,BF,BJ,BL,BK,BH,AW,A5,AZ,A4,AY,AX]
 refine A9 (A7 (fun hlt=>BW ?_) fun hge=> ?_)
 ·have hlt:i<m.length:=by omega
  have hR:=hR hlt trivial
  rw [List.take_succ_eq_append_getElem hlt,List.filter_append,CM hlt] at hR
  refine AU hlt (ldI hlt (FP (by omega) (F4 (A7 (fun hm=> ?_) fun hm=> ?_))))
  ·have e:[gI m i].filter (fun v=>decide (v∉r))=[gI m i]:=by simp [hm]
   rw [e, ←C4] at hR
   exact AU hlt (ldI hlt (DG rfl (by omega) (A8 (by omega) hR)))
  ·have e:[gI m i].filter (fun v=>decide (v∉r))=[]:=by simpa using hm
   rw [e,List.append_nil] at hR
   exact A8 (by omega) hR
 ·have:i=m.length:=by omega
  subst this
  rw [List.take_length]
  exact h
end Go.Proofs.Ytklmcfpgdfibnaa.P
namespace Go.Proofs.Ytklmcfpgdfibnaa.P
open Go Go.Proofs.Ytklmcfpgdfibnaa Go.Proofs.Ytklmcfpgdfibnaa.Eng
set_option linter.unusedVariables false
set_option maxHeartbeats 4000000
set_option linter.unusedVariables false
set_option linter.unusedSimpArgs false
attribute [local irreducible] prP gP gE gF A6 ixW ldc ldg ldl stc stg scW mkW apW BD cl2 BP C3 B9
variable {w0:World}
def frQ (q:Que) (i:Nat):Int:=((q.find? fun e=>decide (e.1=(i:Int))).map (·.2)).getD 0
def mtQ (but:Int) (q:Que) (i:Nat):Bool:=decide (inQ q (i:Int)∨(i:Int)=but)
abbrev bxV (but:Int) (q:Que):List Value:=[I (frQ q 0),I (frQ q 1),I (frQ q 2),I (frQ q 3),I (frQ q 4),I (frQ q 5),I (frQ q 6),I (frQ q 7), .bool (mtQ but q 0), .bool (mtQ but q 1), .bool (mtQ but q 2), .bool (mtQ but q 3), .bool (mtQ but q 4), .bool (mtQ but q 5), .bool (mtQ but q 6), .bool (mtQ but q 7)]
abbrev slQ (q:Que):List Int:=q.map (·.1)
theorem gT (k i:Nat) (a v:Value):arP (iv k) i a v=if k=i then a else v:=by
 unfold arP
 rw [BB]
 by_cases h:k=i
 ·subst h;simp
 ·rw [if_neg h]
  cases hb:Nat.beq k i with
  | true=>exact absurd (Nat.eq_of_beq_eq_true hb) h
  | false=>rfl
theorem wW {q:Que} {k:Nat} {p:Int} (h: ¬inQ q (k:Int)) (i:Nat):arP (iv k) i (I p) (I (frQ q i))=I (frQ (q++[((k:Int),p)]) i):=by
 rw [gT]
 unfold frQ
 rw [List.find?_append]
 by_cases hi:k=i
 ·subst hi
  rw [if_pos rfl]
  have:q.find? (fun e=>decide (e.1=(k:Int)))=none:=by
   rw [List.find?_eq_none]
   intro e he hh
   exact h (List.mem_map.2 ⟨e,he,by simpa using hh⟩)
  rw [this];simp
 ·rw [if_neg hi]
  have:[((k:Int),p)].find? (fun e=>decide (e.1=(i:Int)))=none:=by
   rw [List.find?_eq_none]
   intro e he hh
   have:e=((k:Int),p):=by simpa using he
   subst this
   simp at hh
   omega
  rw [this,Option.or_none]
theorem vP {but:Int} {q:Que} {k:Nat} {p:Int} (i:Nat):arP (iv k) i (.bool true) (.bool (mtQ but q i))= .bool (mtQ but (q++[((k:Int),p)]) i):=by
 rw [gT]
 unfold mtQ
 by_cases hi:k=i
 ·subst hi
  rw [if_pos rfl,decide_eq_true (.inl (P8.2 (.inr (by simp [inQ]))))]
 ·rw [if_neg hi]
  have e:inQ (q++[((k:Int),p)]) (i:Int)↔inQ q (i:Int):=by
   rw [P8]
   refine ⟨fun h=>h.resolve_right fun hh=> ?_, .inl⟩
   simp [inQ] at hh;omega
  simp only [e]
theorem vE {but:Int} {q:Que}: ∀k,k<8→arG [.bool (mtQ but q 0), .bool (mtQ but q 1), .bool (mtQ but q 2), .bool (mtQ but q 3), .bool (mtQ but q 4), .bool (mtQ but q 5), .bool (mtQ but q 6), .bool (mtQ but q 7)] (iv k)=some (.bool (mtQ but q k))
 | 0,_=>rfl | 1,_=>rfl | 2,_=>rfl | 3,_=>rfl | 4,_=>rfl | 5,_=>rfl | 6,_=>rfl | 7,_=>rfl
 | k+8,h=>by omega
theorem oV {r:Option Value} {v:Value} {K:Value→Prop} (h:r=some v) (hp:plain v=true) (hk:K v):prP r K:=by subst h;exact CP hp hk
theorem MI {but:Int} {q:Que} {s p:Int} {K:J2} (hl:q.length≤8) (hs:s<8) (h:K (bxV but (F8 but q p s)) [tI (slQ (F8 but q p s))]):cl2 ⟨Try.prog,w0⟩ 143 DB.sg (bxV but q++[I s,I p]) [tI (slQ q)] K:=by
 refine DB.cl2 ?_
 unfold DB.txt
 have sl:(slQ q).length=q.length:=by simp
 refine A9 (BG (BG (BG (BG ?_))))
 by_cases h0:s<0
 ·have e:F8 but q p s=q:=by unfold F8;rw [if_pos (.inl h0)]
  rw [e] at h
  exact HI h0 (HI h0 (FH h0 rfl (CE h)))
 ·obtain ⟨k,rfl⟩: ∃k:Nat,s=k:=⟨s.toNat,by omega⟩
  have k8:k<8:=by omega
  refine C7 h0 (AU k8 (C7 h0 (oV (vE k k8) rfl (ER h0 rfl (X0 (fun hm=> ?_) fun hm=> ?_)))))
  ·have e:F8 but q p k=q:=by
    unfold F8
    rw [if_pos]
    have:=of_decide_eq_true hm
    exact .inr (this.symm)
   rw [e] at h
   exact h
  ·have hm:=of_decide_eq_false hm
   simp only [not_or] at hm
   have e:F8 but q p k=q++[((k:Int),p)]:=by
    unfold F8
    rw [if_neg]
    simp only [not_or]
    exact ⟨h0,hm.2,hm.1⟩
   rw [e] at h
   refine AU k8 (AU k8 ?_)
   simp only [AI,AP,AN,AS,AK,AE,AJ,AH,AM,AT,AL,AR,AO,AQ,BC,BE,BF,BJ,BL,BK,BH,AW,A5,AZ,A4,AY,AX]
   refine DG rfl (by first | omega | (simp only [AI,AP,AN,AS,AK,AE,AJ,AH,AM,AT,AL,AR,AO,AQ,BC,BE,BF,BJ,BL,BK,BH,AW,A5,AZ,A4,AY,AX];omega)) ?_
   have es:tI (slQ q)++[T.c (I (k:Int))]=tI (slQ (q++[((k:Int),p)])):=by rw [C4];simp [slQ]
   simp only [wW hm.1,vP (p:=p)]
   rw [es]
   exact h
theorem iD {q:Que} {i:Nat} (hi:i<q.length):gI (slQ q) i=gQ q i:=by
 have h2:i<(slQ q).length:=by simpa using hi
 rw [←CM h2, ←UI hi]
 simp [slQ]
theorem iT {but:Int} {i:Nat}:mtQ but [] i=decide ((i:Int)=but):=by simp [mtQ,inQ]
theorem jP {os:List AG} {but:Int} {ids:List Int}: ∀i,i≤ids.length→QI os but (EN os but (ids.take i))
 | 0,_=>by simp [EN];exact QI.nil _ _
 | i+1,hi=>by
   unfold EN
   rw [GL (by omega)]
   exact (jP i (by omega)).add fun h0=>VH h0
theorem uB {os:List AG} {but:Int} {q:Que} {s:Int} (hq:QI os but q) {l:List Int} (hl: ∀j∈l,j.toNat<8∧(ob os j.toNat).live=true): ∀i,i≤l.length→QI os but ((l.take i).foldl (fun q' t=>F8 but q' s t) q)∧M6 q ((l.take i).foldl (fun q' t=>F8 but q' s t) q)
 | 0,_=>⟨by simpa using hq,by simp;exact .refl q⟩
 | i+1,hi=>by
   rw [GL (by omega)]
   obtain ⟨a,b⟩:=uB hq hl i (by omega)
   exact ⟨a.add fun _=>hl _ (CH (by omega)),b.trans .add⟩
theorem Q5 {x:Hp} {ids:List Int} {but:Int} {K:J2} (hx:Fits x) (hof: ∀o∈x.AA,OF o) (hids: ∀v∈ids,F64 v) (hl:ids.length≤1000) (hb: -1≤but∧but<8) (h:K (bxV but (KA x.AA but ids)) [tI (slQ (KA x.AA but ids))]):cl2 ⟨Try.prog,w0⟩ 102 FC.sg [I but] (trees x++[tI ids]) K:=by
 have ol:=hx.ol
 refine FC.cl2 ?_
 unfold FC.txt
 try simp only [trees,List.cons_append,List.nil_append]
 try simp only [AI,AP,AN,AS,AK,AE,AJ,AH,AM,AT,AL,AR,AO,AQ,BC,BE,BF,BJ,BL,BK,BH,AW,A5,AZ,A4,AY,AX]
 refine iE (fun xs cs=>xs=bxV but []∧cs=[]) ?_ fun j hj=> ?_
 rotate_left
 ·refine LA (A7 (fun h0=> ?_) fun h0=> ?_)
  ·obtain ⟨k,rfl⟩: ∃k:Nat,but=k:=⟨but.toNat,by omega⟩
   have k8:k<8:=by omega
   refine AU k8 (hj _ _ ⟨?_,rfl⟩)
   have e: ∀i:Nat,arP (iv k) i (.bool true) (.bool false)= .bool (mtQ (k:Int) [] i):=fun i=>by
    rw [gT,iT]
    by_cases hi:k=i
    ·subst hi;simp
    ·rw [if_neg hi,decide_eq_false (by omega)]
   simp only [e]
   rfl
  ·refine hj _ _ ⟨?_,rfl⟩
   have e: ∀i:Nat,mtQ but [] i=false:=fun i=>by rw [iT];exact decide_eq_false (by omega)
   simp only [bxV,e]
   rfl
 rintro xs cs ⟨rfl,rfl⟩
 refine BM (fun i=>iv ids.length::iv i::bxV but (EN x.AA but (ids.take i))) (fun i=>[tI (slQ (EN x.AA but (ids.take i)))]) ids.length (fun _=>True) rfl rfl trivial (fun R i hi _ hR=> ?_)
 have hq:=jP (os:=x.AA) (but:=but) i hi
 obtain ⟨q,eq⟩: ∃q,EN x.AA but (ids.take i)=q:=⟨_,rfl⟩
 rw [eq] at hq ⊢
 have ql:=hq.len
 simp only [AI,AP,AN,AS,AK,AE,AJ,AH,AM,AT,AL,AR,AO,AQ,BC,BE,BF,BJ,BL,BK,BH,AW,A5,AZ,A4,AY,AX]
 refine A9 (A7 (fun hlt=> ?_) fun hge=> ?_)
 ·have hlt:i<ids.length:=by omega
  have hR:=hR hlt trivial
  have es:EN x.AA but (ids.take (i+1))=F8 but q (-1) (AB x.AA (gI ids i)):=by
   rw [←eq];unfold EN;exact GL hlt _ _
  rw [es] at hR
  have fid:F64 (gI ids i):=by rw [←CM hlt];exact hids _ (List.getElem_mem hlt)
  have sb:AB x.AA (gI ids i)<8:=by
   by_cases h0:0≤AB x.AA (gI ids i)
   ·have:=(BT h0).2.2.2.1;omega
   ·omega
  refine AU hlt (ldI hlt (IN fid (by omega) (MI (but:=but) (q:=q) (s:=AB x.AA (gI ids i)) (p:= -1) ql sb (A8 (by omega) ?_))))
  exact hR
 ·have:i=ids.length:=by omega
  subst this
  rw [List.take_length] at eq
  have h8:0<q.length→x.AA.length=8:=fun h0=>by
   have hin:=UK h0
   rw [←eq] at hin
   obtain ⟨v,_,hv,hv0,_⟩:=(ZT x.AA but ids).2.2 _ hin
   exact (BT (l:=x.AA) (id:=v) (by omega)).1
  refine DJ (α:=Nat×Que) (fun s=>iv s.1::bxV but s.2) (fun s=>[tI (slQ s.2)]) (fun s=>9-s.1) (fun s=>QI x.AA but s.2∧(0<s.2.length→x.AA.length=8)∧ ∃f,8<f+s.1∧QX x.AA but f s.1 s.2=KA x.AA but ids) (0,q) rfl rfl ⟨hq,h8,9,by simp,by unfold KA;rw [eq]⟩ (fun R s hs hR=> ?_)
  clear hq ql eq h8
  obtain ⟨i,q⟩:=s
  obtain ⟨hq,h8,f,hf,hbf⟩:=hs
  simp only at hq h8 hf hbf
  have ql:=hq.len
  have sl:(slQ q).length=q.length:=by simp
  simp only [AI,AP,AN,AS,AK,AE,AJ,AH,AM,AT,AL,AR,AO,AQ,BC,BE,BF,BJ,BL,BK,BH,AW,A5,AZ,A4,AY,AX]
  refine A9 (A7 (fun hlt=> ?_) fun hge=> ?_)
  ·have hlt':i<(slQ q).length:=by omega
   have hlt:i<q.length:=by omega
   obtain ⟨k,ek,k8,kv,kb⟩:=hq.lv _ (UK hlt)
   obtain ⟨f,rfl⟩: ∃f',f=f'+1:=⟨f-1,by omega⟩
   have hb':=hbf
   rw [QX,if_pos hlt,ek] at hb'
   unfold Q6 at hb'
   rw [Int.toNat_natCast] at hb'
   have ol8:x.AA.length=8:=h8 (by omega)
   have kl:=NR hof (k:=k) (by omega)
   refine AU hlt' (ldI hlt' ?_)
   rw [iD hlt,ek]
   refine PM ol8 hof k8 ?_
   obtain ⟨ks,hks⟩: ∃ks,BQ x.AA k=ks:=⟨_,rfl⟩
   have hkb: ∀j∈ks,j<8∧j.toNat<8∧(ob x.AA j.toNat).live=true:=fun j hj=>by
    rw [←hks] at hj
    have:=B8 hj
    exact ⟨by omega,this.2.1,this.2.2.2.2⟩
   rw [hks] at hb' kl ⊢
   simp only [AI,AP,AN,AS,AK,AE,AJ,AH,AM,AT,AL,AR,AO,AQ,BC,BE,BF,BJ,BL,BK,BH,AW,A5,AZ,A4,AY,AX]
   refine BM (fun j=>iv i::iv ks.length::iv j::bxV but ((ks.take j).foldl (fun q' t=>F8 but q' k t) q)) (fun j=>[tI ks,tI (slQ ((ks.take j).foldl (fun q' t=>F8 but q' k t) q))]) ks.length (fun _=>True) rfl rfl trivial (fun R2 j hj _ hR2=> ?_)
   obtain ⟨hq2,hgr⟩:=uB (s:=(k:Int)) hq (fun j hj=>(hkb j hj).2) j hj
   obtain ⟨q2,eq2⟩: ∃q2,(ks.take j).foldl (fun q' t=>F8 but q' k t) q=q2:=⟨_,rfl⟩
   rw [eq2] at hq2 hgr ⊢
   have ql2:=hq2.len
   have sl2:(slQ q2).length=q2.length:=by simp
   have gl:=hgr.len
   simp only [AI,AP,AN,AS,AK,AE,AJ,AH,AM,AT,AL,AR,AO,AQ,BC,BE,BF,BJ,BL,BK,BH,AW,A5,AZ,A4,AY,AX]
   refine A9 (A7 (fun hlj=> ?_) fun hgj=> ?_)
   ·have hlj:j<ks.length:=by omega
    have hR2:=hR2 hlj trivial
    rw [GL hlj,eq2] at hR2
    refine AU hlj (ldI hlj (AU (j:=i) (by omega) (ldI (by omega) ?_)))
    rw [iD (by omega),hgr.gq hlt,ek]
    exact MI (but:=but) (q:=q2) (s:=gI ks j) (p:=(k:Int)) ql2 (hkb _ (CH hlj)).1 (A8 (by omega) hR2)
   ·have:j=ks.length:=by omega
    subst this
    rw [List.take_length] at eq2
    rw [eq2] at hb'
    exact A8 (by omega) (hR (i+1,q2) ⟨hq2,fun _=>ol8,f,by simp only at hf ⊢;omega,hb'⟩ (by simp only;omega))
  ·rw [←hbf] at h
   cases f with
   | zero=>exact h
   | succ f=>rw [QX,if_neg (by omega)] at h;exact h
end Go.Proofs.Ytklmcfpgdfibnaa.P
namespace Go.Proofs.Ytklmcfpgdfibnaa.P
open Go Go.Proofs.Ytklmcfpgdfibnaa Go.Proofs.Ytklmcfpgdfibnaa.Eng
set_option linter.unusedVariables false
set_option maxHeartbeats 4000000
set_option linter.unusedVariables false
set_option linter.unusedSimpArgs false
attribute [local irreducible] prP gP gE gF A6 ixW ldc ldg ldl stc stg scW mkW apW BD cl2 BP C3 B9
variable {w0:World}
def K7 (os:List AG) (q:Que) (i:Nat):List Int:=if (i:Int)∈slQ q then [B6 i (ob os i).gen] else []
theorem RO {x:Hp} {but:Int} {q:Que} {K:J2} (hq:QI x.AA but q) (hol:0<q.length→x.AA.length=8) (h:K (bxV but q) [tI (pick (K7 x.AA q) 8)]):cl2 ⟨Try.prog,w0⟩ 103 DD.sg (bxV but q) (tI (slQ q)::trees x) K:=by
 have ql:=hq.len
 have sl:(slQ q).length=q.length:=by simp
 refine DD.cl2 ?_
 unfold DD.txt
 refine BM (fun i=>iv i::bxV but q) (fun i=>[tI (pick (K7 x.AA q) i)]) 8 (fun _=>True) rfl rfl trivial (fun R i hi _ hR=> ?_)
 have pl:(pick (K7 x.AA q) i).length≤i:=HY (fun i=>by unfold K7;split <;> simp) i
 try simp only [trees]
 simp only [AI,AP,AN,AS,AK,AE,AJ,AH,AM,AT,AL,AR,AO,AQ,BC,BE,BF,BJ,BL,BK,BH,AW,A5,AZ,A4,AY,AX]
 refine A9 (A7 (fun hlt=>BW ?_) fun hge=> ?_)
 ·have hlt:i<8:=by omega
  have hR:=hR hlt trivial
  rw [pick] at hR
  refine IQ (x:=(i:Int)) (by omega) (A7 (fun hm=> ?_) fun hm=> ?_)
  ·have e:K7 x.AA q i=[B6 i (ob x.AA i).gen]:=by unfold K7;rw [if_pos hm]
   rw [e, ←C4] at hR
   have ol:=hol (by rw [←sl];exact List.length_pos_of_mem hm)
   have il:i<x.AA.length:=by omega
   exact AU il (HQ il (by decide) rfl (MU (DG rfl (by first | omega | (simp only [AI,AP,AN,AS,AK,AE,AJ,AH,AM,AT,AL,AR,AO,AQ,BC,BE,BF,BJ,BL,BK,BH,AW,A5,AZ,A4,AY,AX];omega)) (A8 (by omega) hR))))
  ·have e:K7 x.AA q i=[]:=by unfold K7;rw [if_neg hm]
   rw [e,List.append_nil] at hR
   exact A8 (by omega) hR
 ·have:i=8:=by omega
  subst this
  exact h
theorem cU {x:Hp} (hk:BO x) (ids:List Int):pick (K7 x.AA (KA x.AA (-1) ids)) 8=LZ x.AA ids:=by
 unfold LZ
 have e:B2 x.AA=pick (FE x.AA) 8:=by unfold B2;rw [hk.ol]
 rw [e,UJ]
 refine eZ fun i i8=> ?_
 obtain ⟨h1,h2⟩:=QG x.AA (-1) ids
 cases hv:(ob x.AA i).live with
 | false=>
   have a:K7 x.AA (KA x.AA (-1) ids) i=[]:=by
    unfold K7
    rw [if_neg]
    intro hm
    obtain ⟨k,e1,_,kv,_⟩:=h1.lv _ hm
    have:i=k:=by omega
    subst this
    rw [hv] at kv;cases kv
   have b:FE x.AA i=[]:=by
    unfold FE
    rw [if_neg]
    rintro ⟨_,h⟩
    rw [hv] at h;cases h
   rw [a,b];rfl
 | true=>
   have b:FE x.AA i=[B6 i (ob x.AA i).gen]:=by
    unfold FE
    rw [if_pos ⟨by omega,hv⟩]
   rw [b]
   unfold K7
   have hi:(i:Int)∈slQ (KA x.AA (-1) ids)↔B6 i (ob x.AA i).gen∈K2 x.AA (KA x.AA (-1) ids):=by
    have hp:=hk.hp.obj i i8
    have hs:=EG hk.ol i8 hv (hp.lv hv).1 hp.gen.2
    rw [SO h1 (by omega),hs];exact Iff.rfl
   by_cases hm:(i:Int)∈slQ (KA x.AA (-1) ids)
   ·rw [if_pos hm]
    simp only [List.filter_cons,List.filter_nil]
    rw [if_pos (by simpa using hi.1 hm)]
   ·rw [if_neg hm]
    simp only [List.filter_cons,List.filter_nil]
    rw [if_neg (by simpa using fun hh=>hm (hi.2 hh))]
theorem T3 {x:Hp} {ids:List Int} {K:J2} (hk:BO x) (hids: ∀v∈ids,F64 v) (hl:ids.length≤1000) (h:K [] [tI (LZ x.AA ids)]):cl2 ⟨Try.prog,w0⟩ 34 DZ.sg [] (trees x++[tI ids]) K:=by
 have hof:=(hk.st hk.I6).of
 refine DZ.cl2 ?_
 unfold DZ.txt
 refine Q5 (x:=x) (but:= -1) hk.fits hof hids hl (by omega) ?_
 refine RO (x:=x) (but:= -1) (q:=KA x.AA (-1) ids) (QG _ _ _).1 (fun _=>hk.ol) ?_
 rw [cU hk]
 exact h
theorem MW {x:Hp} {K:J2} (hk:BO x) (h:K [] [tI (IG x.AA)]):cl2 ⟨Try.prog,w0⟩ 27 DQ.sg [] (trees x) K:=by
 have ol:=hk.ol
 have fits:=hk.fits
 refine DQ.cl2 ?_
 unfold DQ.txt
 try simp only [trees]
 try simp only [AI,AP,AN,AS,AK,AE,AJ,AH,AM,AT,AL,AR,AO,AQ,BC,BE,BF,BJ,BL,BK,BH,AW,A5,AZ,A4,AY,AX]
 have el:=cP x.AA
 refine CT (DU (by omega) (TN fits.ol (T3 (x:=x) hk (fun v hv=>BV (by have:=jG _ v hv;omega)) (by omega) (PU fits.ol ?_))))
 unfold IG at h
 obtain ⟨m,hm⟩: ∃m,B2 x.AA=m:=⟨_,rfl⟩
 obtain ⟨r,hr⟩: ∃r,LZ x.AA (exts x.AA)=r:=⟨_,rfl⟩
 have ml:m.length≤8:=by have:=GN x.AA;rw [hm] at this;omega
 have rl:r.length≤8:=by rw [←hr];unfold LZ;rw [hm];exact Nat.le_trans (List.length_filter_le _ _) ml
 rw [hm,hr] at h ⊢
 simp only [AI,AP,AN,AS,AK,AE,AJ,AH,AM,AT,AL,AR,AO,AQ,BC,BE,BF,BJ,BL,BK,BH,AW,A5,AZ,A4,AY,AX]
 refine BM (fun i=>[iv m.length,iv i]) (fun i=>[tI r,tI ((m.take i).filter fun v=>decide (v∉r)),tI m]) m.length (fun _=>True) rfl rfl trivial (fun R i hi _ hR=> ?_)
 have fl:((m.take i).filter fun v=>decide (v∉r)).length≤m.length:=Nat.le_trans (List.length_filter_le _ _) (List.length_take_le' _ _)
 simp only [AI,AP,AN,AS,AK,AE,AJ,AH,AM,AT,AL,AR,AO,AQ,BC,BE,BF,BJ,BL,BK,BH,AW,A5,AZ,A4,AY,AX]
 refine A9 (A7 (fun hlt=>BW ?_) fun hge=> ?_)
 ·have hlt:i<m.length:=by omega
  have hR:=hR hlt trivial
  rw [List.take_succ_eq_append_getElem hlt,List.filter_append,CM hlt] at hR
  refine AU hlt (ldI hlt (IQ (by omega) (F4 (A7 (fun hm=> ?_) fun hm=> ?_))))
  ·have e:[gI m i].filter (fun v=>decide (v∉r))=[gI m i]:=by simp [hm]
   rw [e, ←C4] at hR
   exact DG rfl (by omega) (A8 (by omega) hR)
  ·have e:[gI m i].filter (fun v=>decide (v∉r))=[]:=by simpa using hm
   rw [e,List.append_nil] at hR
   exact A8 (by omega) hR
 ·have:i=m.length:=by omega
  subst this
  rw [List.take_length]
  exact h
end Go.Proofs.Ytklmcfpgdfibnaa.P
namespace Go.Proofs.Ytklmcfpgdfibnaa.P
open Go Go.Proofs.Ytklmcfpgdfibnaa Go.Proofs.Ytklmcfpgdfibnaa.Eng
set_option linter.unusedVariables false
set_option maxHeartbeats 4000000
set_option linter.unusedVariables false
set_option linter.unusedSimpArgs false
attribute [local irreducible] prP gP gE gF A6 ixW ldc ldg ldl stc stg scW mkW apW BD cl2 BP C3 B9
variable {w0:World}
end Go.Proofs.Ytklmcfpgdfibnaa.P
