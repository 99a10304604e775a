/- A part of the proof. -/
import Derived.Test.YtnhicpkhkaihoaaGreatFaHpA
import Derived.Test.YtnhicpkhkaihoaaGreatFaLawTyNode
import Derived.Test.YtnhicpkhkaihoaaGreatFaRowT
import Derived.Test.YtnhicpkhkaihoaaGreatFaTxtB
namespace Go.Proofs.YtnhicpkhkaihoaaGreat.P
open Go Go.Proofs.YtnhicpkhkaihoaaGreat Go.Proofs.YtnhicpkhkaihoaaGreat.Eng
set_option maxHeartbeats 4000000
set_option linter.unusedVariables false
set_option linter.unusedSimpArgs false
attribute [local irreducible] prP gP gE gF AU ixW ldc ldg ldl stc stg scW mkW apW BG cl2 BX GP CZ
variable {w0:World}
structure Gr where
 nodes:List Nd
 B8:List Wk
 sites:List ByteArray
def Gc (o:A7):Nd:=⟨o.live,o.gen,o.site,o.holds,o.roots,o.field⟩
def Ec (h:Hp):Gr:=⟨h.BD.map Gc,h.B8,h.sites⟩
theorem J6 {l:List Int} {K:J2} (hl:(l.length:Int)≤2^40) (h:K [] [tI l]):cl2 ⟨Tryz.prog,w0⟩ 144 C0.sg [] [tI l] K:=by
 refine C0.cl2 ?_
 unfold C0.txt
 simp only [AK,AS,AJ,AI,AM,AE,AH,AN,AO,AP,AL,AR,AT,AQ,BB,BE,BI,BH,BK,BJ,BF,AX,A4,AY,A1,AZ,A5]
 refine DP (PQ l) (by omega) ?_
 rw [List.nil_append];exact h
theorem WS {l:List ByteArray} {K:J2} (hl:(l.length:Int)≤2^40) (h:K [] [tS l]):cl2 ⟨Tryz.prog,w0⟩ 143 DM.sg [] [tS l] K:=by
 refine DM.cl2 ?_
 unfold DM.txt
 simp only [AK,AS,AJ,AI,AM,AE,AH,AN,AO,AP,AL,AR,AT,AQ,BB,BE,BI,BH,BK,BJ,BF,AX,A4,AY,A1,AZ,A5]
 refine DP (RG l) (by omega) ?_
 rw [List.nil_append];exact h
theorem Ax {l:List A7} {P:A7→Prop} (h: ∀o∈l,P o) {i:Nat} (hi:i<l.length):P (ob l i):=by rw [←EG hi];exact h _ (List.getElem_mem hi)
def Cw (g:Gr):Int:=szL nM g.nodes+szL X5 g.B8+g.sites.length
structure X1 (g:Gr):Prop where
 nl:(g.nodes.length:Int)≤1048576
 nf: ∀o∈g.nodes,(o.field.length:Int)≤1048576
 wl:(g.B8.length:Int)≤1048576
 sl:(g.sites.length:Int)≤1048576
theorem X1.of {h:Hp} (hf:Fits h):X1 (Ec h):=by
 refine ⟨?_, ?_,hf.wl,hf.sl⟩
 ·simp only [Ec,List.length_map];exact hf.ol
 ·intro o ho
  obtain ⟨x,hx,rfl⟩:=List.mem_map.1 ho
  exact hf.of x hx
theorem X1.nodes {g:Gr} (hf:X1 g):0≤szL nM g.nodes∧szL nM g.nodes≤2^41:=by
 refine ⟨VL tT _, ?_⟩
 have h1:=Y7 (sz:=nM) (b:=1048581) (l:=g.nodes) fun o ho=>by have:=hf.nf o ho;unfold nM;omega
 have h2:=hf.nl
 have h3:(g.nodes.length:Int)*1048581≤1048576*1048581:=Int.mul_le_mul_of_nonneg_right h2 (by omega)
 omega
theorem X1.B8 {g:Gr} (hf:X1 g):0≤szL X5 g.B8∧szL X5 g.B8≤2^41:=by
 refine ⟨VL kY _, ?_⟩
 have h1:=Y7 (sz:=X5) (b:=2) (l:=g.B8) fun o ho=>by unfold X5;omega
 have h2:=hf.wl
 omega
theorem X1.sz {g:Gr} (hf:X1 g):0≤Cw g∧Cw g≤2^43:=by
 have h1:=hf.nodes;have h2:=hf.B8;have h4:=hf.sl
 unfold Cw;omega
end Go.Proofs.YtnhicpkhkaihoaaGreat.P
namespace Go.Proofs.YtnhicpkhkaihoaaGreat.P
open Go Go.Proofs.YtnhicpkhkaihoaaGreat Go.Proofs.YtnhicpkhkaihoaaGreat.Eng
set_option maxHeartbeats 4000000
set_option linter.unusedVariables false
set_option linter.unusedSimpArgs false
attribute [local irreducible] prP gP gE gF AU ixW ldc ldg ldl stc stg scW mkW apW BG cl2 BX GP CZ
variable {w0:World}
def QQ (id:Int) (o:A7):Nat:=if o.live=true then o.field.count id else 0
def CY (l:List A7) (id:Int):Nat:=(l.map (QQ id)).sum
def inE (l:List A7) (s:Int):Int:=if (0≤s∧s≤l.length-1)∧(ob l s.toNat).live=true then CY l (C8 s (ob l s.toNat).gen) else 0
theorem bS {l:List A7} {i:Nat} {id:Int} (hi:i<l.length):CY (l.take (i+1)) id=CY (l.take i) id+QQ id (ob l i):=by
 rw [CY,List.take_succ_eq_append_getElem hi,List.map_append,List.sum_append,EG hi];simp [CY]
theorem ZL {l:List Int} {j:Nat} {id:Int} (hj:j<l.length):(l.take (j+1)).count id=(l.take j).count id+if gI l j=id then 1 else 0:=by
 rw [List.take_succ_eq_append_getElem hj,List.count_append,GD hj,List.count_singleton]
 simp
theorem xR (id:Int) (o:A7):QQ id o≤o.field.length:=by
 unfold QQ;split
 ·exact List.count_le_length
 ·exact Nat.zero_le _
theorem QA {l:List A7} {id:Int} {b:Nat} (h: ∀o∈l,o.field.length≤b):CY l id≤l.length*b:=by
 induction l with
 | nil=>simp [CY]
 | cons o l ih=>
   have h1:=ih fun x hx=>h x (by simp [hx])
   have h2:=xR id o
   have h3:=h o (by simp)
   simp only [CY,List.map_cons,List.sum_cons,List.length_cons,Nat.add_mul,Nat.one_mul] at h1 ⊢
   omega
theorem iF {l:List A7} (hf: ∀o∈l,(o.field.length:Int)≤1048576) (i:Nat):((ob l i).field.length:Int)≤1048576:=by
 by_cases hi:i<l.length
 ·rw [←EG hi];exact hf _ (List.getElem_mem hi)
 ·unfold ob;rw [List.getD_eq_getElem?_getD,List.getElem?_eq_none (by omega)];simp
theorem SS {a:List A7} {b c d:List T} {s:Int} {K:J2} (hs:F64 s) (hl:(a.length:Int)≤1048576) (hf: ∀o∈a,(o.field.length:Int)≤1048576) (h:K [I (inE a s)] []):cl2 ⟨Tryz.prog,w0⟩ 176 FW.sg [I s] [tR tO a,b,c,d] K:=by
 obtain ⟨s1,s2⟩:=hs
 refine FW.cl2 ?_
 unfold FW.txt
 simp only [AK,AS,AJ,AI,AM,AE,AH,AN,AO,AP,AL,AR,AT,AQ,BB,BE,BI,BH,BK,BJ,BF,AX,A4,AY,A1,AZ,A5]
 repeat' (first | refine GA ?_ | refine NI ?_ | refine BM ?_ | refine I8 (by first | with_reducible assumption | omega) ?_ | refine EP (by first | with_reducible assumption | omega) ?_ | refine CI (by first | with_reducible assumption | omega) rfl ?_ | refine CD (by first | with_reducible assumption | omega) rfl ?_ | refine BP ?_ | refine CP ?_ | refine DO ⟨by omega,by omega⟩ ?_ | refine QU (by omega) (by omega) ?_ | refine J8 (by omega) (by decide) rfl ?_ | refine NA (by omega) rfl ?_ | refine F5 (fun _=> ?_) (fun _=> ?_) | refine JJ (fun _=> ?_) (fun _=> ?_) | refine BU ?_ | simp only [AK,AS,AJ,AI,AM,AE,AH,AN,AO,AP,AL,AR,AT,AQ,BB,BE,BI,BH,BK,BJ,BF,AX,A4,AY,A1,AZ,A5])
 ·rw [inE,if_neg (by simp_all)] at h;exact h
 ·rename_i hin hlv
  have hin:0≤s∧s≤(a.length:Int)-1:=Decidable.not_not.1 hin
  rw [inE,if_pos ⟨hin,by simpa using hlv⟩] at h
  generalize C8 s (ob a s.toNat).gen=id at h ⊢
  refine A9 (fun i=>[I id,I (CY (a.take i) id),iv a.length,iv i]) (fun _=>[]) a.length (fun _=>True) rfl rfl trivial (fun R i hi _ hR=> ?_)
  have he:=QA (l:=a.take i) (id:=id) (b:=1048576) fun o ho=>by have:=hf o (List.mem_of_mem_take ho);omega
  have hln:(a.take i).length≤a.length:=by simp;omega
  have hmul:(a.take i).length*1048576≤1048576*1048576:=Nat.mul_le_mul_right _ (by omega)
  have hfo:=iF hf i
  simp only [AK,AS,AJ,AI,AM,AE,AH,AN,AO,AP,AL,AR,AT,AQ,BB,BE,BI,BH,BK,BJ,BF,AX,A4,AY,A1,AZ,A5]
  refine AV (AG (fun hlt=> ?_) fun hge=> ?_)
  ·have hlt:i<a.length:=by omega
   replace hR:=hR hlt trivial
   rw [bS hlt,QQ] at hR
   refine AW hlt (OM hlt ?_)
   rw [I5 hlt,AE]
   refine A9 (fun j=>[I id,I ((CY (a.take i) id+(if (ob a i).live=true then ((ob a i).field.take j).count id else 0):Nat):Int),iv a.length,iv i,iv (AA (iv i)*8+6),iv (ob a i).field.length,iv j, .bool (ob a i).live,I (ob a i).gen,I (ob a i).site,I (ob a i).holds,I (ob a i).roots,I (ob a i).count,iv (AA (iv i)*8+6), .bool (ob a i).purple]) (fun _=>[]) (ob a i).field.length (fun _=>True) (by simp only [List.take_zero,List.count_nil,ite_self,Nat.add_zero];rfl) rfl trivial (fun R2 j hj _ hR2=> ?_)
   have hc:((ob a i).field.take j).count id≤j:=Nat.le_trans List.count_le_length (by simp;omega)
   simp only [AK,AS,AJ,AI,AM,AE,AH,AN,AO,AP,AL,AR,AT,AQ,BB,BE,BI,BH,BK,BJ,BF,AX,A4,AY,A1,AZ,A5]
   refine AV (AG (fun hlt2=> ?_) fun hge2=> ?_)
   ·have hlt2:j<(ob a i).field.length:=by omega
    replace hR2:=hR2 hlt2 trivial
    rw [ZL hlt2] at hR2
    rw [A8 (AA (iv i)*8+6),I5 hlt,AE]
    refine BS (AW hlt2 (OL hlt hlt2 (BM (BM ?_))))
    by_cases hv:(ob a i).live=true
    ·simp only [if_pos hv] at hR2 ⊢
     refine S4 hv (BA (rC hv rfl (AG (fun he=> ?_) fun he=> ?_)))
     ·rw [if_pos he] at hR2
      exact B3 ⟨by omega,by omega⟩ (A6 (by omega) hR2)
     ·rw [if_neg he] at hR2
      exact A6 (by omega) hR2
    ·have hv:(ob a i).live=false:=by simpa using hv
     simp only [hv,Bool.false_eq_true,if_false] at hR2 ⊢
     exact NF (VA rfl (BT (A6 (by omega) hR2)))
   ·have:j=(ob a i).field.length:=by omega
    subst this
    rw [List.take_length] at hc ⊢
    exact A6 (by omega) hR
  ·have:i=a.length:=by omega
   subst this
   rw [List.take_length];exact h
 ·rw [inE,if_neg (by rintro ⟨h1,h2⟩;simp_all)] at h;exact h
theorem S1 {a:List A7} {b c d:List T} {s:Int} {K:J2} (hs:F64 s) (hl:(a.length:Int)≤1048576) (hf: ∀o∈a,(o.field.length:Int)≤1048576) (h:K [I (inE a s)] []):cl2 ⟨Tryz.prog,w0⟩ 56 FM.sg [I s] [tR tO a,b,c,d] K:=by
 obtain ⟨s1,s2⟩:=hs
 refine FM.cl2 ?_
 unfold FM.txt
 simp only [AK,AS,AJ,AI,AM,AE,AH,AN,AO,AP,AL,AR,AT,AQ,BB,BE,BI,BH,BK,BJ,BF,AX,A4,AY,A1,AZ,A5]
 repeat' (first | refine D6 ?_ | refine LH ?_ | refine BM ?_ | refine I8 (by first | with_reducible assumption | omega) ?_ | refine EP (by first | with_reducible assumption | omega) ?_ | refine CI (by first | with_reducible assumption | omega) rfl ?_ | refine CD (by first | with_reducible assumption | omega) rfl ?_ | refine BP ?_ | refine CP ?_ | refine DO ⟨by omega,by omega⟩ ?_ | refine QU (by omega) (by omega) ?_ | refine J8 (by omega) (by decide) rfl ?_ | refine NA (by omega) rfl ?_ | refine F5 (fun _=> ?_) (fun _=> ?_) | refine JJ (fun _=> ?_) (fun _=> ?_) | refine BU ?_ | simp only [AK,AS,AJ,AI,AM,AE,AH,AN,AO,AP,AL,AR,AT,AQ,BB,BE,BI,BH,BK,BJ,BF,AX,A4,AY,A1,AZ,A5])
 ·rw [inE,if_neg (by simp_all)] at h;exact h
 ·rename_i hin hlv
  have hin:0≤s∧s≤(a.length:Int)-1:=Decidable.not_not.1 hin
  rw [inE,if_pos ⟨hin,by simpa using hlv⟩] at h
  generalize C8 s (ob a s.toNat).gen=id at h ⊢
  refine A9 (fun i=>[I (CY (a.take i) id),I id,iv i]) (fun _=>[]) a.length (fun _=>True) rfl rfl trivial (fun R i hi _ hR=> ?_)
  have he:=QA (l:=a.take i) (id:=id) (b:=1048576) fun o ho=>by have:=hf o (List.mem_of_mem_take ho);omega
  have hln:(a.take i).length≤a.length:=by simp;omega
  have hmul:(a.take i).length*1048576≤1048576*1048576:=Nat.mul_le_mul_right _ (by omega)
  have hfo:=iF hf i
  simp only [AK,AS,AJ,AI,AM,AE,AH,AN,AO,AP,AL,AR,AT,AQ,BB,BE,BI,BH,BK,BJ,BF,AX,A4,AY,A1,AZ,A5]
  refine AV (AG (fun hlt=> ?_) fun hge=> ?_)
  ·have hlt:i<a.length:=by omega
   replace hR:=hR hlt trivial
   rw [bS hlt,QQ] at hR
   refine A9 (fun j=>[I ((CY (a.take i) id+(if (ob a i).live=true then ((ob a i).field.take j).count id else 0):Nat):Int),I id,iv i,iv j]) (fun _=>[]) (ob a i).field.length (fun _=>True) (by simp only [List.take_zero,List.count_nil,ite_self,Nat.add_zero];rfl) rfl trivial (fun R2 j hj _ hR2=> ?_)
   have hc:((ob a i).field.take j).count id≤j:=Nat.le_trans List.count_le_length (by simp;omega)
   refine AW hlt (iO hlt ?_)
   rw [I5 hlt,AE]
   by_cases hv:(ob a i).live=true
   ·simp only [if_pos hv] at hR hR2 ⊢
    refine AV (BM (BM (BM (IG (fun hlt2=> ?_) fun hge2=> ?_))))
    ·have hlt2':j<(ob a i).field.length:=by
      have:(j:Int)<((ob a i).field.length:Int):=hlt2
      omega
     replace hR2:=hR2 hlt2' trivial
     rw [ZL hlt2'] at hR2
     refine AW hlt (BM (IF hlt2 (NA hlt rfl (CI hlt2 rfl (o9 hv (BS (AW hlt (iO hlt ?_))))))))
     rw [I5 hlt,AE]
     refine AW hlt2' (OL hlt hlt2' (BA (AG (fun he=> ?_) fun he=> ?_)))
     ·rw [if_pos he] at hR2
      exact B3 ⟨by omega,by omega⟩ (A6 (by omega) hR2)
     ·rw [if_neg he] at hR2
      exact A6 (by omega) hR2
    ·have:j=(ob a i).field.length:=by
      have: ¬(j:Int)<((ob a i).field.length:Int):=hge2
      omega
     subst this
     rw [List.take_length] at hc ⊢
     exact BM (LP hge2 (CD hge2 rfl (BT (A6 (by omega) hR))))
   ·have hv:(ob a i).live=false:=by simpa using hv
    simp only [hv,Bool.false_eq_true,if_false] at hR hR2 ⊢
    refine AV (BM (BM (BM (IG (fun hlt2=> ?_) fun hge2=> ?_))))
    ·exact AW hlt (BM (IF hlt2 (NA hlt (v:= .bool false) (by rw [←hv];rfl) (CI hlt2 rfl (BT (A6 (by omega) hR))))))
    ·exact BM (LP hge2 (CD hge2 rfl (BT (A6 (by omega) hR))))
  ·have:i=a.length:=by omega
   subst this
   rw [List.take_length];exact h
 ·rw [inE,if_neg (by rintro ⟨h1,h2⟩;simp_all)] at h;exact h
theorem dJ {l:List Int} {i:Nat} {x:Int} (hi:i<l.length) (h:x∉l.take i) (hn:gI l i≠x):x∉l.take (i+1):=by
 rw [List.take_succ_eq_append_getElem hi,GD hi]
 simp only [List.mem_append,List.mem_singleton,not_or]
 exact ⟨h,fun he=>hn he.symm⟩
theorem FD {l:List Int} {i:Nat} (h:i<l.length):gI l i∈l:=by rw [←GD h];exact List.getElem_mem h
theorem UH {l:List Int} {x:Int} {K:J2} (hl:(l.length:Int)<2^62) (h:K [.bool (decide (x∈l))] []):cl2 ⟨Tryz.prog,w0⟩ 148 G9.sg [I x] [tI l] K:=by
 refine G9.cl2 ?_
 unfold G9.txt
 simp only [AK,AS,AJ,AI,AM,AE,AH,AN,AO,AP,AL,AR,AT,AQ,BB,BE,BI,BH,BK,BJ,BF,AX,A4,AY,A1,AZ,A5]
 refine A9 (fun i=>[I x,iv l.length,iv i]) (fun _=>[]) l.length (fun i=>x∉l.take i) rfl rfl (by simp) (fun R i hi hP hR=> ?_)
 refine AV (AG (fun hlt=> ?_) fun hge=> ?_)
 ·have hlt:i<l.length:=by omega
  refine AW hlt (ldI hlt (BA (AG (fun he=> ?_) fun he=> ?_)))
  ·rw [decide_eq_true (he ▸ FD hlt)] at h;exact h
  ·exact A6 (by omega) (hR hlt (dJ hlt hP he))
 ·have:i=l.length:=by omega
  subst this
  rw [List.take_length] at hP
  rw [decide_eq_false hP] at h;exact h
theorem RD {l:List Int} {x:Int} {K:J2} (hl:(l.length:Int)<2^62) (h:K [.bool (decide (x∈l))] []):cl2 ⟨Tryz.prog,w0⟩ 57 HH.sg [I x] [tI l] K:=by
 refine HH.cl2 ?_
 unfold HH.txt
 simp only [AK,AS,AJ,AI,AM,AE,AH,AN,AO,AP,AL,AR,AT,AQ,BB,BE,BI,BH,BK,BJ,BF,AX,A4,AY,A1,AZ,A5]
 refine A9 (fun i=>[I x,iv i]) (fun _=>[]) l.length (fun i=>x∉l.take i) rfl rfl (by simp) (fun R i hi hP hR=> ?_)
 refine AV (AG (fun hlt=> ?_) fun hge=> ?_)
 ·have hlt:i<l.length:=by omega
  refine AW hlt (ldI hlt (BA (AG (fun he=> ?_) fun he=> ?_)))
  ·rw [decide_eq_true (he ▸ FD hlt)] at h;exact h
  ·exact A6 (by omega) (hR hlt (dJ hlt hP he))
 ·have:i=l.length:=by omega
  subst this
  rw [List.take_length] at hP
  rw [decide_eq_false hP] at h;exact h
attribute [irreducible] inE CY
end Go.Proofs.YtnhicpkhkaihoaaGreat.P
namespace Go.Proofs.YtnhicpkhkaihoaaGreat.P
open Go Go.Proofs.YtnhicpkhkaihoaaGreat Go.Proofs.YtnhicpkhkaihoaaGreat.Eng
set_option linter.unusedVariables false
theorem IJ {b:Bool} {q:Prop} (h:q):gE (.bool b) q:=⟨rfl,h⟩
theorem NS {a b:Bool} {m:(Value→Prop)→Prop} {K:Value→Prop} (hm:a=true→ ∀K:Value→Prop,K (.bool b)→m K) (h:K (.bool (a&&b))):gP (.bool a) true m fun t=>prP (pk (.bool a) t (.bool false)) K:=by
 cases a
 ·exact .inr ⟨.inl rfl,BL rfl h⟩
 ·exact .inl ⟨rfl,hm rfl _ (BL rfl (by simpa using h))⟩
theorem oK {a b:Bool} {x:Value} {m1:(Value→Prop)→Prop} {m2:Value→(Value→Prop)→Prop} {K:Value→Prop} (h1:a=true→ ∀K:Value→Prop,K x→m1 K) (h2:a=true→ ∀K:Value→Prop,K (.bool b)→m2 x K) (h:K (.bool (a&&b))):
  gP (.bool a) true m1 fun x=>gP (.bool a) true (m2 x) fun t=>prP (pk (.bool a) t (.bool false)) K:=by
 cases a
 ·exact .inr ⟨.inl rfl, .inr ⟨.inl rfl,BL rfl h⟩⟩
 ·exact .inl ⟨rfl,h1 rfl _ (.inl ⟨rfl,h2 rfl _ (BL rfl (by simpa using h))⟩)⟩
theorem Du {a b:Bool} {m:(Value→Prop)→Prop} {K:Value→Prop} (hm:a=false→ ∀K:Value→Prop,K (.bool b)→m K) (h:K (.bool (a||b))):gP (.bool a) false m fun t=>prP (pk (.bool a) (.bool true) t) K:=by
 cases a
 ·exact .inl ⟨rfl,hm rfl _ (BL rfl (by simpa using h))⟩
 ·exact .inr ⟨.inl rfl,BL rfl h⟩
theorem Z6 {a b:Bool} {m:(Value→Prop)→Prop} {K:Value→Prop} (hm:a=false→ ∀K:Value→Prop,K (.bool b)→m K) (h:K (.bool (a|| !b))):gP (.bool a) false m fun t=>gP (.bool a) false (prP (un .not t)) fun t=>prP (pk (.bool a) (.bool true) t) K:=by
 cases a
 ·exact .inl ⟨rfl,hm rfl _ (.inl ⟨rfl,BU (BL rfl (by simpa using h))⟩)⟩
 ·exact .inr ⟨.inl rfl, .inr ⟨.inl rfl,BL rfl h⟩⟩
def inB (n lo hi:Int):Bool:=decide (n≥lo)&&decide (n≤hi)
theorem kA {C:Ctx} {n lo hi:Int} {K:J2} (h:K [.bool (inB n lo hi)] []):BQ.txt C (I n) (I lo) (I hi) K:=
 JA (IJ (IJ (NS (fun _ K hk=>DV hk) h)))
theorem rJ {C:Ctx} {n lo hi:Int} {K:J2} (h:K [.bool (inB n lo hi)] []):B7.txt C (I n) (I lo) (I hi) K:=
 JA (IJ (IJ (NS (fun _ K hk=>DV hk) h)))
theorem H7 {w0:World} {n lo hi:Int} {K:J2} (h:K [.bool (inB n lo hi)] []):cl2 ⟨Tryz.prog,w0⟩ 54 BQ.sg [I n,I lo,I hi] [] K:=BQ.cl2 (kA h)
theorem TN {w0:World} {n lo hi:Int} {K:J2} (h:K [.bool (inB n lo hi)] []):cl2 ⟨Tryz.prog,w0⟩ 94 B7.sg [I n,I lo,I hi] [] K:=B7.cl2 (rJ h)
def MH (n:Int):Bool:=inB n (-1000000000) 1000000000
theorem JQ {w0:World} {n:Int} {K:J2} (h:K [.bool (MH n)] []):cl2 ⟨Tryz.prog,w0⟩ 149 EJ.sg [I n] [] K:=EJ.cl2 (TN h)
def cY (a b c d:Int) (s:ByteArray):Bool:=(((MH a&&MH b)&&MH c)&&MH d)&&decide ((s.size:Int)≤8)
theorem WV {w0:World} {a b c d:Int} {s:ByteArray} {K:J2} (h:K [.bool (cY a b c d s)] []):cl2 ⟨Tryz.prog,w0⟩ 40 G3.sg [I a,I b,I c,I d, .string s] [] K:=
 G3.cl2 (H7 (IJ (IJ (NS (fun _ K hk=>H7 hk) (IJ (IJ (NS (fun _ K hk=>H7 hk) (IJ (IJ (NS (fun _ K hk=>H7 hk) (IJ (IJ (oK (fun _ K hk=>CJ hk) (fun _ K hk=>DV hk) h)))))))))))))
theorem WZ {w0:World} {a b c d:Int} {s:ByteArray} {K:J2} (h:K [.bool (cY a b c d s)] []):cl2 ⟨Tryz.prog,w0⟩ 87 HB.sg [I a,I b,I c,I d, .string s] [] K:=
 HB.cl2 (JQ (IJ (IJ (NS (fun _ K hk=>JQ hk) (IJ (IJ (NS (fun _ K hk=>JQ hk) (IJ (IJ (NS (fun _ K hk=>JQ hk) (IJ (IJ (oK (fun _ K hk=>CJ hk) (fun _ K hk=>DV hk) h)))))))))))))
def WI (c v:Int) (l:List Int):Bool:=(inB c 0 6&&MH v&&decide (l.length≤8))&&l.all MH
theorem y8 {a b:Nat} {K:Value→Prop} (h:K (.bool (decide (a>b)))):prP (bnI .gtr (iv a) (iv b)) K:=FJ (a:=Int.ofNat a) (b:=Int.ofNat b) (by
 have:decide (Int.ofNat a>Int.ofNat b)=decide (a>b):=by simp
 rw [this];exact h)
theorem fJ {a b:Nat} {K:Value→Prop} (h:K (.bool (decide (a≤b)))):prP (bnI .leq (iv a) (iv b)) K:=DV (a:=Int.ofNat a) (b:=Int.ofNat b) (by
 have:decide (Int.ofNat a≤Int.ofNat b)=decide (a≤b):=by simp
 rw [this];exact h)
theorem jE {l:List Int} {i:Nat} (hi:i<l.length) (p:Int→Bool):(l.take (i+1)).all p=((l.take i).all p&&p l[i]):=by
 rw [List.take_succ_eq_append_getElem hi];simp only [List.all_append,List.all_cons,List.all_nil,Bool.and_true]
theorem U6 {w0:World} {c v:Int} {l:List Int} {K:J2} (hl:(l.length:Int)<2^62) (h:K [.bool (WI c v l)] []):cl2 ⟨Tryz.prog,w0⟩ 132 EB.sg [I c,I v] [tI l] K:=by
 refine EB.cl2 ?_
 unfold EB.txt
 simp only [AE]
 refine H7 (BU (IJ (IJ (Z6 (fun _ K hk=>H7 hk) (IJ (IJ (IJ (Du (fun _ K hk=>y8 (b:=8) hk) (JJ (fun hb=> ?_) fun hb=> ?_)))))))))
 ·have:WI c v l=false:=by
   unfold WI MH
   revert hb
   cases inB c 0 6 <;> cases inB v (-1000000000) 1000000000 <;> simp
   intro h1 h2;omega
  rw [this] at h;exact h
 ·have hh:(inB c 0 6&&MH v&&decide (l.length≤8))=true:=by
   unfold MH
   revert hb
   cases inB c 0 6 <;> cases inB v (-1000000000) 1000000000 <;> simp
  refine A9 (fun i=>[iv i,I c,I v]) (fun _=>[]) l.length (fun i=>(l.take i).all MH=true) rfl rfl rfl (fun R i hi hP hR=> ?_)
  refine L6 (AG (fun hlt=> ?_) fun hge=> ?_)
  ·refine AW hlt (OP hlt (H7 (BU (JJ (fun hb=> ?_) fun hb=> ?_))))
   ·have:l.all MH=false:=by
     rw [List.all_eq_false];exact ⟨l[i],List.getElem_mem hlt,by unfold MH;simpa using hb⟩
    rw [WI,hh,this] at h;exact h
   ·exact A6 (by omega) (hR hlt (by rw [jE hlt,hP];unfold MH;simpa using hb))
  ·have:i=l.length:=by omega
   subst this
   rw [List.take_length] at hP
   rw [WI,hh,hP] at h;exact h
theorem VT {w0:World} {c v:Int} {l:List Int} {K:J2} (hl:(l.length:Int)<2^62) (h:K [.bool (WI c v l)] []):cl2 ⟨Tryz.prog,w0⟩ 88 ES.sg [I c,I v] [tI l] K:=by
 refine ES.cl2 ?_
 unfold ES.txt
 simp only [AE]
 refine A9 (fun i=>[iv l.length,iv i,I c,I v]) (fun _=>[]) l.length (fun i=>(l.take i).all MH=true) rfl rfl rfl (fun R i hi hP hR=> ?_)
 refine L6 (AG (fun hlt=> ?_) fun hge=> ?_)
 ·refine AW hlt (OP hlt (JQ (BU (JJ (fun hb=> ?_) fun hb=> ?_))))
  ·have:l.all MH=false:=by
    rw [List.all_eq_false];exact ⟨l[i],List.getElem_mem hlt,by simpa using hb⟩
   rw [WI,this,Bool.and_false] at h;exact h
  ·exact A6 (by omega) (hR hlt (by rw [jE hlt,hP];simpa using hb))
 ·have:i=l.length:=by omega
  subst this
  rw [List.take_length] at hP
  refine TN (IJ (IJ (NS (fun _ K hk=>JQ hk) (IJ (IJ (IJ (NS (fun _ K hk=>fJ (b:=8) hk) ?_)))))))
  rw [WI,hP,Bool.and_true] at h;exact h
end Go.Proofs.YtnhicpkhkaihoaaGreat.P
namespace Go.Proofs.YtnhicpkhkaihoaaGreat.P
open Go Go.Proofs.YtnhicpkhkaihoaaGreat Go.Proofs.YtnhicpkhkaihoaaGreat.Eng
set_option linter.unusedVariables false
def tB (l:List Nat):List T:=l.map fun (b:Nat)=> .c (.int .u8 (b:Int))
def HI (l:List Nat):ByteArray:=l.foldl (fun b n=>b.push (UInt8.ofNat n)) ByteArray.empty
theorem aJ (l:List Nat):b2T (tB l)=some (.string (HI l)):=by
 have h1:(tB l).all Q6=true:=by simp [tB,Q6]
 have h2: ∀(l:List Nat) (b:ByteArray),(tB l).foldl jS b=l.foldl (fun b n=>b.push (UInt8.ofNat n)) b:=by
  intro l
  induction l with
  | nil=>intro b;rfl
  | cons a l ih=>intro b;exact ih _
 simp only [b2T,h1,if_true,h2];rfl
theorem HA (l:List Nat):(HI l).size=l.length:=by
 have: ∀(l:List Nat) (b:ByteArray),(l.foldl (fun b n=>b.push (UInt8.ofNat n)) b).size=b.size+l.length:=by
  intro l
  induction l with
  | nil=>intro b;rfl
  | cons a l ih=>intro b;rw [List.foldl_cons,ih,ByteArray.size_push,List.length_cons];omega
 rw [HI,this];simp
def vd:Nat→Nat→List Nat
 | 0,n=>[n]
 | k+1,n=>if n≥128 then (128+n % 128)::vd k (n/128) else [n]
theorem sY: ∀k n,(vd k n).length≤k+1
 | 0,n=>by simp [vd]
 | k+1,n=>by
   unfold vd;split
   ·have:=sY k (n/128);simp only [List.length_cons];omega
   ·simp
def V (n:Int):ByteArray:=if inB n 0 562949953421311 then HI (vd 6 n.toNat) else ⟨#[]⟩
theorem IK (n:Int):(V n).size≤7:=by
 unfold V;split
 ·rw [HA];exact sY 6 _
 ·exact Nat.zero_le _
theorem mJ (l:List Nat):cnt 1 (tB l)=l.length:=by simp [cnt,tB]
theorem VO {c:List T} {n m b:Nat} {q:Prop} (hf:flat c=true) (hn:(n+m)*b≤2^47) (h:q):apW c true n m b q:=⟨fun _=>hf,hn,h⟩
theorem KF {w0:World} {n:Int} {K:J2} (hn:F64 n) (h:K [.string (V n)] []):cl2 ⟨Tryz.prog,w0⟩ 136 EI.sg [I n] [] K:=by
 refine EI.cl2 ?_
 unfold EI.txt
 refine H7 (BU (JJ (fun hb=> ?_) fun hb=> ?_))
 ·have hb:inB n 0 562949953421311=false:=by simpa using hb
  rw [V,hb] at h;exact h
 ·have hb:inB n 0 562949953421311=true:=by simpa using hb
  rw [V,if_pos hb] at h
  unfold inB at hb
  simp only [Bool.and_eq_true,decide_eq_true_eq] at hb
  obtain ⟨m,rfl⟩: ∃m:Nat,n=m:=⟨n.toNat,by omega⟩
  rw [Int.toNat_natCast] at h
  refine CQ (α:=Nat×Nat×List Nat) (fun p=>[iv p.2.1]) (fun p=>[tB p.2.2]) (fun p=>p.1) (fun p=>p.2.1<128^(p.1+1)∧p.2.1<2^62∧p.2.2.length+p.1≤6∧p.2.2++vd p.1 p.2.1=vd 6 m) (6,m,[]) rfl rfl ⟨by simp only;omega,by simp only;omega,by simp,rfl⟩ (fun R p hp hR=> ?_)
  obtain ⟨k,m',l⟩:=p
  obtain ⟨p1,p2,p3,p4⟩:=hp
  simp only at p1 p2 p3 p4
  have hcn:cnt 1 (nxc [tB l] 0)=l.length:=mJ l
  simp only [hcn]
  refine JA (a:=Int.ofNat m') (b:=128) (AG (fun hge=> ?_) fun hlt=> ?_)
  ·have hge:128≤m':=by simp at hge;omega
   cases k with
   | zero=>simp at p1;omega
   | succ k=>
     have h1:(Int.ofNat m').tmod 128=((m' % 128:Nat):Int):=by simp [Int.tmod_eq_emod_of_nonneg]
     refine BL (v:= .int .i64 ((Int.ofNat m').tmod 128)) rfl ?_
     rw [h1]
     refine B3 (a:=128) ⟨by omega,by omega⟩ ?_
     refine BL (v:= .int .u8 (IntKind.u8.wrap (128+((m' % 128:Nat):Int)))) rfl ?_
     have h2:IntKind.u8.wrap (128+((m' % 128:Nat):Int))=((128+m' % 128:Nat):Int):=by rw [IntKind.wrap_u8];omega
     rw [h2]
     refine VO rfl (by simp [cnt];omega) ?_
     have h3:(Int.ofNat m').tdiv 128=((m'/128:Nat):Int):=rfl
     refine BL (v:= .int .i64 (IntKind.i64.wrap ((Int.ofNat m').tdiv 128))) rfl ?_
     rw [h3,LC ⟨by omega,by omega⟩]
     have:=hR (k,m'/128,l++[128+m' % 128]) ⟨by simp only;rw [Nat.pow_succ] at p1;omega,by simp only;omega,by simp;omega,by simp only;rw [←p4,vd,if_pos hge];simp⟩ (Nat.lt_succ_self k)
     have e9:tB (l++[128+m' % 128])=tB l++[T.c (.int .u8 ((128+m' % 128:Nat):Int))]:=by simp [tB]
     show R [iv (m'/128)] [tB l++[T.c (.int .u8 ((128+m' % 128:Nat):Int))]]
     rw [←e9];exact this
  ·have hlt:m'<128:=by simp at hlt;omega
   refine BL (v:= .int .u8 (IntKind.u8.wrap (Int.ofNat m'))) rfl ?_
   have h2:IntKind.u8.wrap (Int.ofNat m')=(m':Int):=by rw [IntKind.wrap_u8];simp only [Int.ofNat_eq_natCast];omega
   rw [h2]
   refine VO rfl (by simp [cnt];omega) ?_
   have h4:vd k m'=[m']:=by cases k with | zero=>rfl | succ k=>rw [vd,if_neg (by omega)]
   have h5:nxc [tB l] 0++[T.c (.int .u8 (m':Int))]=tB (vd 6 m):=by rw [←p4,h4];simp [tB,nxc]
   rw [h5,aJ]
   exact BL rfl h
theorem LG {w0:World} {n:Int} {K:J2} (hn:F64 n) (h:K [.string (V n)] []):cl2 ⟨Tryz.prog,w0⟩ 92 FO.sg [I n] [] K:=by
 refine FO.cl2 ?_
 unfold FO.txt
 refine TN (BU (JJ (fun hb=> ?_) fun hb=> ?_))
 ·have hb:inB n 0 562949953421311=false:=by simpa using hb
  rw [V,hb] at h;exact h
 ·have hb:inB n 0 562949953421311=true:=by simpa using hb
  rw [V,if_pos hb] at h
  unfold inB at hb
  simp only [Bool.and_eq_true,decide_eq_true_eq] at hb
  obtain ⟨m,rfl⟩: ∃m:Nat,n=m:=⟨n.toNat,by omega⟩
  rw [Int.toNat_natCast] at h
  refine CQ (α:=Nat×Nat×List Nat) (fun p=>[iv p.2.1]) (fun p=>[tB p.2.2]) (fun p=>p.1) (fun p=>p.2.1<128^(p.1+1)∧p.2.1<2^62∧p.2.2.length+p.1≤6∧p.2.2++vd p.1 p.2.1=vd 6 m) (6,m,[]) rfl rfl ⟨by simp only;omega,by simp only;omega,by simp,rfl⟩ (fun R p hp hR=> ?_)
  obtain ⟨k,m',l⟩:=p
  obtain ⟨p1,p2,p3,p4⟩:=hp
  simp only at p1 p2 p3 p4
  have hcn:cnt 1 (nxc [tB l] 0)=l.length:=mJ l
  simp only [hcn]
  refine FJ (a:=Int.ofNat m') (b:=127) (AG (fun hge=> ?_) fun hlt=> ?_)
  ·have hge:128≤m':=by simp at hge;omega
   cases k with
   | zero=>simp at p1;omega
   | succ k=>
     have h1:(Int.ofNat m').tmod 128=((m' % 128:Nat):Int):=by simp [Int.tmod_eq_emod_of_nonneg]
     refine BL (v:= .int .i64 ((Int.ofNat m').tmod 128)) rfl ?_
     rw [h1]
     refine B3 (b:=128) ⟨by omega,by omega⟩ ?_
     refine BL (v:= .int .u8 (IntKind.u8.wrap (((m' % 128:Nat):Int)+128))) rfl ?_
     have h2:IntKind.u8.wrap (((m' % 128:Nat):Int)+128)=((128+m' % 128:Nat):Int):=by rw [IntKind.wrap_u8];omega
     rw [h2]
     refine VO rfl (by simp [cnt];omega) ?_
     have h3:(Int.ofNat m').tdiv 128=((m'/128:Nat):Int):=rfl
     refine BL (v:= .int .i64 (IntKind.i64.wrap ((Int.ofNat m').tdiv 128))) rfl ?_
     rw [h3,LC ⟨by omega,by omega⟩]
     have:=hR (k,m'/128,l++[128+m' % 128]) ⟨by simp only;rw [Nat.pow_succ] at p1;omega,by simp only;omega,by simp;omega,by simp only;rw [←p4,vd,if_pos hge];simp⟩ (Nat.lt_succ_self k)
     have e9:tB (l++[128+m' % 128])=tB l++[T.c (.int .u8 ((128+m' % 128:Nat):Int))]:=by simp [tB]
     show R [iv (m'/128)] [tB l++[T.c (.int .u8 ((128+m' % 128:Nat):Int))]]
     rw [←e9];exact this
  ·have hlt:m'<128:=by simp at hlt;omega
   refine BL (v:= .int .u8 (IntKind.u8.wrap (Int.ofNat m'))) rfl ?_
   have h2:IntKind.u8.wrap (Int.ofNat m')=(m':Int):=by rw [IntKind.wrap_u8];simp only [Int.ofNat_eq_natCast];omega
   rw [h2]
   refine VO rfl (by simp [cnt];omega) ?_
   have h4:vd k m'=[m']:=by cases k with | zero=>rfl | succ k=>rw [vd,if_neg (by omega)]
   have h5:nxc [tB l] 0++[T.c (.int .u8 (m':Int))]=tB (vd 6 m):=by rw [←p4,h4];simp [tB,nxc]
   rw [h5,aJ]
   exact BL rfl h
attribute [irreducible] V
end Go.Proofs.YtnhicpkhkaihoaaGreat.P
namespace Go.Proofs.YtnhicpkhkaihoaaGreat.P
open Go Go.Proofs.YtnhicpkhkaihoaaGreat Go.Proofs.YtnhicpkhkaihoaaGreat.Eng
set_option linter.unusedVariables false
def zg (n:Int):Int:=if inB n (-100000000000000) 100000000000000 then (if n<0 then -2*n-1 else 2*n) else -1
theorem KR {n lo hi:Int}:inB n lo hi=true↔lo≤n∧n≤hi:=by simp [inB]
theorem qB (n:Int):F64 (zg n):=by
 unfold zg;split
 ·rename_i h;rw [KR] at h
  split <;> constructor <;> omega
 ·constructor <;> omega
theorem nN {w0:World} {n:Int} {K:J2} (h:K [I (zg n)] []):cl2 ⟨Tryz.prog,w0⟩ 178 NJ.sg [I n] [] K:=by
 refine NJ.cl2 (H7 (BU (JJ (fun hb=> ?_) fun hb=> ?_)))
 ·have hb:inB n (-100000000000000) 100000000000000=false:=by simpa using hb
  rw [zg,hb] at h;exact h
 ·have hb:inB n (-100000000000000) 100000000000000=true:=by simpa using hb
  rw [zg,if_pos hb] at h
  rw [KR] at hb
  refine AV (AG (fun hl=> ?_) fun hl=> ?_)
  ·rw [if_pos hl] at h
   exact KU (a:= -2) ⟨by omega,by omega⟩ (DO (b:=1) ⟨by omega,by omega⟩ h)
  ·rw [if_neg hl] at h
   exact KU (a:=2) ⟨by omega,by omega⟩ h
theorem l9 {w0:World} {n:Int} {K:J2} (h:K [I (zg n)] []):cl2 ⟨Tryz.prog,w0⟩ 151 NM.sg [I n] [] K:=by
 refine NM.cl2 (TN (BU (JJ (fun hb=> ?_) fun hb=> ?_)))
 ·have hb:inB n (-100000000000000) 100000000000000=false:=by simpa using hb
  rw [zg,hb] at h;exact h
 ·have hb:inB n (-100000000000000) 100000000000000=true:=by simpa using hb
  rw [zg,if_pos hb] at h
  rw [KR] at hb
  refine AV (AG (fun hl=> ?_) fun hl=> ?_)
  ·rw [if_pos hl] at h
   exact KU (a:= -2) ⟨by omega,by omega⟩ (DO (b:=1) ⟨by omega,by omega⟩ h)
  ·rw [if_neg hl] at h
   exact KU (a:=2) ⟨by omega,by omega⟩ h
def SI (n:Int):ByteArray:=V (zg n)
theorem IC {w0:World} {n:Int} {K:J2} (h:K [.string (SI n)] []):cl2 ⟨Tryz.prog,w0⟩ 135 DF.sg [I n] [] K:=by
 refine DF.cl2 (nN (AV (AG (fun hl=> ?_) fun hl=>KF (qB n) h)))
 have:SI n=⟨#[]⟩:=by
  have hb:inB (zg n) 0 562949953421311=false:=by
   cases hx:inB (zg n) 0 562949953421311
   ·rfl
   ·rw [KR] at hx;omega
  rw [SI,V,hb];rfl
 rw [this] at h;exact h
theorem JI {w0:World} {n:Int} {K:J2} (h:K [.string (SI n)] []):cl2 ⟨Tryz.prog,w0⟩ 90 EA.sg [I n] [] K:=
 EA.cl2 (l9 (LG (qB n) h))
def ST (s:ByteArray):ByteArray:=if (s.size:Int)>8 then ⟨#[]⟩ else V s.size++s
theorem X8 {w0:World} {s:ByteArray} {K:J2} (h:K [.string (ST s)] []):cl2 ⟨Tryz.prog,w0⟩ 177 H6.sg [.string s] [] K:=by
 refine H6.cl2 (CJ (FJ (AG (fun hl=> ?_) fun hl=> ?_)))
 ·rw [ST,if_pos hl] at h;exact h
 ·rw [ST,if_neg hl] at h
  have:=IK s.size
  exact CJ (KF ⟨by omega,by omega⟩ (CB (by omega) h))
theorem YH {w0:World} {s:ByteArray} {K:J2} (h:K [.string (ST s)] []):cl2 ⟨Tryz.prog,w0⟩ 93 H3.sg [.string s] [] K:=by
 refine H3.cl2 (CJ (FJ (AG (fun hl=> ?_) fun hl=> ?_)))
 ·rw [ST,if_pos hl] at h;exact h
 ·rw [ST,if_neg hl] at h
  have:=IK s.size
  exact CJ (LG ⟨by omega,by omega⟩ (CB (by omega) h))
theorem fN (s:ByteArray):(ST s).size≤15:=by
 unfold ST;split
 ·exact Nat.zero_le _
 ·have:=IK s.size
  rw [ByteArray.size_append];omega
theorem aC {a b:ByteArray} {p q:Prop} (h1:a=b→p) (h2:a≠b→q):AU (.bool (a.toList==b.toList)) p q:=
 JJ (fun h=>h1 (nK (by simpa using h))) (fun h=>h2 (by rintro rfl;simp at h))
instance :LawfulBEq ByteArray where
 eq_of_beq {a b} h:=by
  cases a;cases b
  have h:_==_:=h
  first | exact congrArg _ (eq_of_beq h) | (simp [BEq.beq,instBEqByteArray.beq] at h;simpa using h) | (simp_all)
 rfl {a}:=by
  cases a
  first | exact beq_self_eq_true (α:=Array UInt8) _ | (show ByteArray.beq _ _=true;unfold ByteArray.beq;simp) | (simp [BEq.beq,ByteArray.beq])
def at_ (l:List ByteArray) (s:ByteArray):Int:=if s∈l then (l.idxOf s:Int) else -1
theorem UR {l:List ByteArray} {s:ByteArray} {i:Nat} (hi:i<l.length) (h1:s∉l.take i) (h2:l[i]≠s):s∉l.take (i+1):=by
 rw [List.take_succ_eq_append_getElem hi]
 simp only [List.mem_append,List.mem_singleton,not_or]
 exact ⟨h1,fun h=>h2 h.symm⟩
theorem pR {l:List ByteArray} {s:ByteArray} {i:Nat} (hi:i<l.length) (h1:s∉l.take i) (h2:l[i]=s):at_ l s=i:=by
 have hm:s∈l:=h2 ▸ List.getElem_mem hi
 rw [at_,if_pos hm]
 have e:l=l.take i++l[i]::l.drop (i+1):=by rw [←List.drop_eq_getElem_cons hi,List.take_append_drop]
 have hx:l.idxOf s=i:=by
  rw [e,List.idxOf_append,if_neg h1,h2,List.idxOf_cons_self]
  simp;omega
 rw [hx]
theorem PZ {w0:World} {s:ByteArray} {l:List ByteArray} {K:J2} (hl:(l.length:Int)<2^62) (h:K [I (at_ l s)] []):cl2 ⟨Tryz.prog,w0⟩ 91 FE.sg [.string s] [tS l] K:=by
 refine FE.cl2 ?_
 unfold FE.txt
 simp only [AH]
 refine A9 (fun i=>[.string s,iv l.length,iv i]) (fun _=>[]) l.length (fun i=>s∉l.take i) rfl rfl (by simp) (fun R i hi hP hR=> ?_)
 refine L6 (AG (fun hlt=> ?_) fun hge=> ?_)
 ·refine AW hlt (U5 hlt (V0 (aC (fun he=> ?_) fun hne=> ?_)))
  ·rw [pR hlt hP he] at h;exact h
  ·exact A6 (by omega) (hR hlt (UR hlt hP hne))
 ·have:i=l.length:=by omega
  subst this
  rw [List.take_length] at hP
  rw [at_,if_neg hP] at h;exact h
theorem SR {w0:World} {s:ByteArray} {l:List ByteArray} {K:J2} (hl:(l.length:Int)<2^62) (h:K [.bool (decide (s∈l))] []):cl2 ⟨Tryz.prog,w0⟩ 150 GJ.sg [.string s] [tS l] K:=by
 refine GJ.cl2 (PZ hl (JA ?_))
 have:decide (at_ l s≥0)=decide (s∈l):=by
  by_cases hm:s∈l <;> simp [at_,hm]
 rw [this];exact h
theorem S5 {w0:World} {n:Value} {l:List ByteArray} {K:J2} (hl:l.length≤2^40) (h:K [n] [tS l]):cl2 ⟨Tryz.prog,w0⟩ 81 EY.sg [n] [tS l] K:=by
 refine EY.cl2 (DM.cl2 (VO (RG l) (by rw [AH];omega) ?_))
 exact h
end Go.Proofs.YtnhicpkhkaihoaaGreat.P
