/- A part of the proof. -/
import Derived.Test.YtnhicpkhkaihoaaGreatRpHpA
import Derived.Test.YtnhicpkhkaihoaaGreatRpLawTyNode
import Derived.Test.YtnhicpkhkaihoaaGreatRpRowT
import Derived.Test.YtnhicpkhkaihoaaGreatRpTxtB
namespace Go.Proofs.YtnhicpkhkaihoaaGreat.P
open Go Go.Proofs.YtnhicpkhkaihoaaGreat Go.Proofs.YtnhicpkhkaihoaaGreat.Eng
set_option maxHeartbeats 4000000
set_option linter.unusedVariables false
set_option linter.unusedSimpArgs false
attribute [local irreducible] prP gP gE gF AG ixW ldc ldg ldl stc stg scW mkW apW BA cl2 B6 G8 C3
variable {w0:World}
structure Gr where
 nodes:List Nd
 B8:List Wk
 sites:List ByteArray
def Ds (o:A8):Nd:=⟨o.live,o.gen,o.site,o.holds,o.roots,o.field⟩
def Bo (h:Hp):Gr:=⟨h.BC.map Ds,h.B8,h.sites⟩
theorem KC {l:List Int} {K:J2} (hl:(l.length:Int)≤2^40) (h:K [] [tI l]):cl2 ⟨Tryz.prog,w0⟩ 144 CV.sg [] [tI l] K:=by
 refine CV.cl2 ?_
 unfold CV.txt
 simp only [AM,AT,AL,AK,AN,AE,AI,AV,AU,AS,AP,AQ,AO,AR,BD,BE,BH,BG,BJ,BL,BF,AZ,A6,A1,AY,A5,A4]
 refine D8 (PK l) (by omega) ?_
 rw [List.nil_append];exact h
theorem XD {l:List ByteArray} {K:J2} (hl:(l.length:Int)≤2^40) (h:K [] [tS l]):cl2 ⟨Tryz.prog,w0⟩ 143 DF.sg [] [tS l] K:=by
 refine DF.cl2 ?_
 unfold DF.txt
 simp only [AM,AT,AL,AK,AN,AE,AI,AV,AU,AS,AP,AQ,AO,AR,BD,BE,BH,BG,BJ,BL,BF,AZ,A6,A1,AY,A5,A4]
 refine D8 (RM l) (by omega) ?_
 rw [List.nil_append];exact h
theorem y5 {l:List A8} {P:A8→Prop} (h: ∀o∈l,P o) {i:Nat} (hi:i<l.length):P (ob l i):=by rw [←EW hi];exact h _ (List.getElem_mem hi)
def Bk (g:Gr):Int:=szL oK g.nodes+szL JU g.B8+g.sites.length
structure X6 (g:Gr):Prop where
 nl:(g.nodes.length:Int)≤1048576
 nf: ∀o∈g.nodes,(o.field.length:Int)≤1048576
 wl:(g.B8.length:Int)≤1048576
 sl:(g.sites.length:Int)≤1048576
theorem X6.of {h:Hp} (hf:Fits h):X6 (Bo h):=by
 refine ⟨?_, ?_,hf.wl,hf.sl⟩
 ·simp only [Bo,List.length_map];exact hf.ol
 ·intro o ho
  obtain ⟨x,hx,rfl⟩:=List.mem_map.1 ho
  exact hf.of x hx
theorem X6.nodes {g:Gr} (hf:X6 g):0≤szL oK g.nodes∧szL oK g.nodes≤2^41:=by
 refine ⟨JF tX _, ?_⟩
 have h1:=UP (sz:=oK) (b:=1048581) (l:=g.nodes) fun o ho=>by have:=hf.nf o ho;unfold oK;omega
 have h2:=hf.nl
 have h3:(g.nodes.length:Int)*1048581≤1048576*1048581:=Int.mul_le_mul_of_nonneg_right h2 (by omega)
 omega
theorem X6.B8 {g:Gr} (hf:X6 g):0≤szL JU g.B8∧szL JU g.B8≤2^41:=by
 refine ⟨JF QC _, ?_⟩
 have h1:=UP (sz:=JU) (b:=2) (l:=g.B8) fun o ho=>by unfold JU;omega
 have h2:=hf.wl
 omega
theorem X6.sz {g:Gr} (hf:X6 g):0≤Bk g∧Bk g≤2^43:=by
 have h1:=hf.nodes;have h2:=hf.B8;have h4:=hf.sl
 unfold Bk;omega
end Go.Proofs.YtnhicpkhkaihoaaGreat.P
namespace Go.Proofs.YtnhicpkhkaihoaaGreat.P
open Go Go.Proofs.YtnhicpkhkaihoaaGreat Go.Proofs.YtnhicpkhkaihoaaGreat.Eng
set_option maxHeartbeats 4000000
set_option linter.unusedVariables false
set_option linter.unusedSimpArgs false
attribute [local irreducible] prP gP gE gF AG ixW ldc ldg ldl stc stg scW mkW apW BA cl2 B6 G8 C3
variable {w0:World}
def QI (id:Int) (o:A8):Nat:=if o.live=true then o.field.count id else 0
def CU (l:List A8) (id:Int):Nat:=(l.map (QI id)).sum
def inE (l:List A8) (s:Int):Int:=if (0≤s∧s≤l.length-1)∧(ob l s.toNat).live=true then CU l (DB s (ob l s.toNat).gen) else 0
theorem cM {l:List A8} {i:Nat} {id:Int} (hi:i<l.length):CU (l.take (i+1)) id=CU (l.take i) id+QI id (ob l i):=by
 rw [CU,List.take_succ_eq_append_getElem hi,List.map_append,List.sum_append,EW hi];simp [CU]
theorem aS {l:List Int} {j:Nat} {id:Int} (hj:j<l.length):(l.take (j+1)).count id=(l.take j).count id+if gI l j=id then 1 else 0:=by
 rw [List.take_succ_eq_append_getElem hj,List.count_append,G7 hj,List.count_singleton]
 simp
theorem yR (id:Int) (o:A8):QI id o≤o.field.length:=by
 unfold QI;split
 ·exact List.count_le_length
 ·exact Nat.zero_le _
theorem QS {l:List A8} {id:Int} {b:Nat} (h: ∀o∈l,o.field.length≤b):CU l id≤l.length*b:=by
 induction l with
 | nil=>simp [CU]
 | cons o l ih=>
   have h1:=ih fun x hx=>h x (by simp [hx])
   have h2:=yR id o
   have h3:=h o (by simp)
   simp only [CU,List.map_cons,List.sum_cons,List.length_cons,Nat.add_mul,Nat.one_mul] at h1 ⊢
   omega
theorem jO {l:List A8} (hf: ∀o∈l,(o.field.length:Int)≤1048576) (i:Nat):((ob l i).field.length:Int)≤1048576:=by
 by_cases hi:i<l.length
 ·rw [←EW hi];exact hf _ (List.getElem_mem hi)
 ·unfold ob;rw [List.getD_eq_getElem?_getD,List.getElem?_eq_none (by omega)];simp
theorem SX {a:List A8} {b c d:List T} {s:Int} {K:J2} (hs:F64 s) (hl:(a.length:Int)≤1048576) (hf: ∀o∈a,(o.field.length:Int)≤1048576) (h:K [I (inE a s)] []):cl2 ⟨Tryz.prog,w0⟩ 176 FM.sg [I s] [tR tO a,b,c,d] K:=by
 obtain ⟨s1,s2⟩:=hs
 refine FM.cl2 ?_
 unfold FM.txt
 simp only [AM,AT,AL,AK,AN,AE,AI,AV,AU,AS,AP,AQ,AO,AR,BD,BE,BH,BG,BJ,BL,BF,AZ,A6,A1,AY,A5,A4]
 repeat' (first | refine HB ?_ | refine NJ ?_ | refine BM ?_ | refine JL (by first | with_reducible assumption | omega) ?_ | refine F8 (by first | with_reducible assumption | omega) ?_ | refine CL (by first | with_reducible assumption | omega) rfl ?_ | refine CJ (by first | with_reducible assumption | omega) rfl ?_ | refine BS ?_ | refine CF ?_ | refine DM ⟨by omega,by omega⟩ ?_ | refine UE (by omega) (by omega) ?_ | refine KM (by omega) (by decide) rfl ?_ | refine N8 (by omega) rfl ?_ | refine HC (fun _=> ?_) (fun _=> ?_) | refine KO (fun _=> ?_) (fun _=> ?_) | refine BN ?_ | simp only [AM,AT,AL,AK,AN,AE,AI,AV,AU,AS,AP,AQ,AO,AR,BD,BE,BH,BG,BJ,BL,BF,AZ,A6,A1,AY,A5,A4])
 ·rw [inE,if_neg (by simp_all)] at h;exact h
 ·rename_i hin hlv
  have hin:0≤s∧s≤(a.length:Int)-1:=Decidable.not_not.1 hin
  rw [inE,if_pos ⟨hin,by simpa using hlv⟩] at h
  generalize DB s (ob a s.toNat).gen=id at h ⊢
  refine A7 (fun i=>[I id,I (CU (a.take i) id),iv a.length,iv i]) (fun _=>[]) a.length (fun _=>True) rfl rfl trivial (fun R i hi _ hR=> ?_)
  have he:=QS (l:=a.take i) (id:=id) (b:=1048576) fun o ho=>by have:=hf o (List.mem_of_mem_take ho);omega
  have hln:(a.take i).length≤a.length:=by simp;omega
  have hmul:(a.take i).length*1048576≤1048576*1048576:=Nat.mul_le_mul_right _ (by omega)
  have hfo:=jO hf i
  simp only [AM,AT,AL,AK,AN,AE,AI,AV,AU,AS,AP,AQ,AO,AR,BD,BE,BH,BG,BJ,BL,BF,AZ,A6,A1,AY,A5,A4]
  refine AJ (AH (fun hlt=> ?_) fun hge=> ?_)
  ·have hlt:i<a.length:=by omega
   replace hR:=hR hlt trivial
   rw [cM hlt,QI] at hR
   refine AW hlt (RI hlt ?_)
   rw [JJ hlt,AE]
   refine A7 (fun j=>[I id,I ((CU (a.take i) id+(if (ob a i).live=true then ((ob a i).field.take j).count id else 0):Nat):Int),iv a.length,iv i,iv (AA (iv i)*8+6),iv (ob a i).field.length,iv j, .bool (ob a i).live,I (ob a i).gen,I (ob a i).site,I (ob a i).holds,I (ob a i).roots,I (ob a i).count,iv (AA (iv i)*8+6), .bool (ob a i).purple]) (fun _=>[]) (ob a i).field.length (fun _=>True) (by simp only [List.take_zero,List.count_nil,ite_self,Nat.add_zero];rfl) rfl trivial (fun R2 j hj _ hR2=> ?_)
   have hc:((ob a i).field.take j).count id≤j:=Nat.le_trans List.count_le_length (by simp;omega)
   simp only [AM,AT,AL,AK,AN,AE,AI,AV,AU,AS,AP,AQ,AO,AR,BD,BE,BH,BG,BJ,BL,BF,AZ,A6,A1,AY,A5,A4]
   refine AJ (AH (fun hlt2=> ?_) fun hge2=> ?_)
   ·have hlt2:j<(ob a i).field.length:=by omega
    replace hR2:=hR2 hlt2 trivial
    rw [aS hlt2] at hR2
    rw [A9 (AA (iv i)*8+6),JJ hlt,AE]
    refine B4 (AW hlt2 (ON hlt hlt2 (BM (BM ?_))))
    by_cases hv:(ob a i).live=true
    ·simp only [if_pos hv] at hR2 ⊢
     refine R7 hv (BI (rE hv rfl (AH (fun he=> ?_) fun he=> ?_)))
     ·rw [if_pos he] at hR2
      exact BX ⟨by omega,by omega⟩ (AX (by omega) hR2)
     ·rw [if_neg he] at hR2
      exact AX (by omega) hR2
    ·have hv:(ob a i).live=false:=by simpa using hv
     simp only [hv,Bool.false_eq_true,if_false] at hR2 ⊢
     exact M9 (WB rfl (BQ (AX (by omega) hR2)))
   ·have:j=(ob a i).field.length:=by omega
    subst this
    rw [List.take_length] at hc ⊢
    exact AX (by omega) hR
  ·have:i=a.length:=by omega
   subst this
   rw [List.take_length];exact h
 ·rw [inE,if_neg (by rintro ⟨h1,h2⟩;simp_all)] at h;exact h
theorem SB {a:List A8} {b c d:List T} {s:Int} {K:J2} (hs:F64 s) (hl:(a.length:Int)≤1048576) (hf: ∀o∈a,(o.field.length:Int)≤1048576) (h:K [I (inE a s)] []):cl2 ⟨Tryz.prog,w0⟩ 56 FI.sg [I s] [tR tO a,b,c,d] K:=by
 obtain ⟨s1,s2⟩:=hs
 refine FI.cl2 ?_
 unfold FI.txt
 simp only [AM,AT,AL,AK,AN,AE,AI,AV,AU,AS,AP,AQ,AO,AR,BD,BE,BH,BG,BJ,BL,BF,AZ,A6,A1,AY,A5,A4]
 repeat' (first | refine DU ?_ | refine NC ?_ | refine BM ?_ | refine JL (by first | with_reducible assumption | omega) ?_ | refine F8 (by first | with_reducible assumption | omega) ?_ | refine CL (by first | with_reducible assumption | omega) rfl ?_ | refine CJ (by first | with_reducible assumption | omega) rfl ?_ | refine BS ?_ | refine CF ?_ | refine DM ⟨by omega,by omega⟩ ?_ | refine UE (by omega) (by omega) ?_ | refine KM (by omega) (by decide) rfl ?_ | refine N8 (by omega) rfl ?_ | refine HC (fun _=> ?_) (fun _=> ?_) | refine KO (fun _=> ?_) (fun _=> ?_) | refine BN ?_ | simp only [AM,AT,AL,AK,AN,AE,AI,AV,AU,AS,AP,AQ,AO,AR,BD,BE,BH,BG,BJ,BL,BF,AZ,A6,A1,AY,A5,A4])
 ·rw [inE,if_neg (by simp_all)] at h;exact h
 ·rename_i hin hlv
  have hin:0≤s∧s≤(a.length:Int)-1:=Decidable.not_not.1 hin
  rw [inE,if_pos ⟨hin,by simpa using hlv⟩] at h
  generalize DB s (ob a s.toNat).gen=id at h ⊢
  refine A7 (fun i=>[I (CU (a.take i) id),I id,iv i]) (fun _=>[]) a.length (fun _=>True) rfl rfl trivial (fun R i hi _ hR=> ?_)
  have he:=QS (l:=a.take i) (id:=id) (b:=1048576) fun o ho=>by have:=hf o (List.mem_of_mem_take ho);omega
  have hln:(a.take i).length≤a.length:=by simp;omega
  have hmul:(a.take i).length*1048576≤1048576*1048576:=Nat.mul_le_mul_right _ (by omega)
  have hfo:=jO hf i
  simp only [AM,AT,AL,AK,AN,AE,AI,AV,AU,AS,AP,AQ,AO,AR,BD,BE,BH,BG,BJ,BL,BF,AZ,A6,A1,AY,A5,A4]
  refine AJ (AH (fun hlt=> ?_) fun hge=> ?_)
  ·have hlt:i<a.length:=by omega
   replace hR:=hR hlt trivial
   rw [cM hlt,QI] at hR
   refine A7 (fun j=>[I ((CU (a.take i) id+(if (ob a i).live=true then ((ob a i).field.take j).count id else 0):Nat):Int),I id,iv i,iv j]) (fun _=>[]) (ob a i).field.length (fun _=>True) (by simp only [List.take_zero,List.count_nil,ite_self,Nat.add_zero];rfl) rfl trivial (fun R2 j hj _ hR2=> ?_)
   have hc:((ob a i).field.take j).count id≤j:=Nat.le_trans List.count_le_length (by simp;omega)
   refine AW hlt (jJ hlt ?_)
   rw [JJ hlt,AE]
   by_cases hv:(ob a i).live=true
   ·simp only [if_pos hv] at hR hR2 ⊢
    refine AJ (BM (BM (BM (JR (fun hlt2=> ?_) fun hge2=> ?_))))
    ·have hlt2':j<(ob a i).field.length:=by
      have:(j:Int)<((ob a i).field.length:Int):=hlt2
      omega
     replace hR2:=hR2 hlt2' trivial
     rw [aS hlt2'] at hR2
     refine AW hlt (BM (JA hlt2 (N8 hlt rfl (CL hlt2 rfl (pO hv (B4 (AW hlt (jJ hlt ?_))))))))
     rw [JJ hlt,AE]
     refine AW hlt2' (ON hlt hlt2' (BI (AH (fun he=> ?_) fun he=> ?_)))
     ·rw [if_pos he] at hR2
      exact BX ⟨by omega,by omega⟩ (AX (by omega) hR2)
     ·rw [if_neg he] at hR2
      exact AX (by omega) hR2
    ·have:j=(ob a i).field.length:=by
      have: ¬(j:Int)<((ob a i).field.length:Int):=hge2
      omega
     subst this
     rw [List.take_length] at hc ⊢
     exact BM (L5 hge2 (CJ hge2 rfl (BQ (AX (by omega) hR))))
   ·have hv:(ob a i).live=false:=by simpa using hv
    simp only [hv,Bool.false_eq_true,if_false] at hR hR2 ⊢
    refine AJ (BM (BM (BM (JR (fun hlt2=> ?_) fun hge2=> ?_))))
    ·exact AW hlt (BM (JA hlt2 (N8 hlt (v:= .bool false) (by rw [←hv];rfl) (CL hlt2 rfl (BQ (AX (by omega) hR))))))
    ·exact BM (L5 hge2 (CJ hge2 rfl (BQ (AX (by omega) hR))))
  ·have:i=a.length:=by omega
   subst this
   rw [List.take_length];exact h
 ·rw [inE,if_neg (by rintro ⟨h1,h2⟩;simp_all)] at h;exact h
theorem eG {l:List Int} {i:Nat} {x:Int} (hi:i<l.length) (h:x∉l.take i) (hn:gI l i≠x):x∉l.take (i+1):=by
 rw [List.take_succ_eq_append_getElem hi,G7 hi]
 simp only [List.mem_append,List.mem_singleton,not_or]
 exact ⟨h,fun he=>hn he.symm⟩
theorem FZ {l:List Int} {i:Nat} (h:i<l.length):gI l i∈l:=by rw [←G7 h];exact List.getElem_mem h
theorem UC {l:List Int} {x:Int} {K:J2} (hl:(l.length:Int)<2^62) (h:K [.bool (decide (x∈l))] []):cl2 ⟨Tryz.prog,w0⟩ 148 G4.sg [I x] [tI l] K:=by
 refine G4.cl2 ?_
 unfold G4.txt
 simp only [AM,AT,AL,AK,AN,AE,AI,AV,AU,AS,AP,AQ,AO,AR,BD,BE,BH,BG,BJ,BL,BF,AZ,A6,A1,AY,A5,A4]
 refine A7 (fun i=>[I x,iv l.length,iv i]) (fun _=>[]) l.length (fun i=>x∉l.take i) rfl rfl (by simp) (fun R i hi hP hR=> ?_)
 refine AJ (AH (fun hlt=> ?_) fun hge=> ?_)
 ·have hlt:i<l.length:=by omega
  refine AW hlt (ldI hlt (BI (AH (fun he=> ?_) fun he=> ?_)))
  ·rw [decide_eq_true (he ▸ FZ hlt)] at h;exact h
  ·exact AX (by omega) (hR hlt (eG hlt hP he))
 ·have:i=l.length:=by omega
  subst this
  rw [List.take_length] at hP
  rw [decide_eq_false hP] at h;exact h
theorem Q7 {l:List Int} {x:Int} {K:J2} (hl:(l.length:Int)<2^62) (h:K [.bool (decide (x∈l))] []):cl2 ⟨Tryz.prog,w0⟩ 57 HF.sg [I x] [tI l] K:=by
 refine HF.cl2 ?_
 unfold HF.txt
 simp only [AM,AT,AL,AK,AN,AE,AI,AV,AU,AS,AP,AQ,AO,AR,BD,BE,BH,BG,BJ,BL,BF,AZ,A6,A1,AY,A5,A4]
 refine A7 (fun i=>[I x,iv i]) (fun _=>[]) l.length (fun i=>x∉l.take i) rfl rfl (by simp) (fun R i hi hP hR=> ?_)
 refine AJ (AH (fun hlt=> ?_) fun hge=> ?_)
 ·have hlt:i<l.length:=by omega
  refine AW hlt (ldI hlt (BI (AH (fun he=> ?_) fun he=> ?_)))
  ·rw [decide_eq_true (he ▸ FZ hlt)] at h;exact h
  ·exact AX (by omega) (hR hlt (eG hlt hP he))
 ·have:i=l.length:=by omega
  subst this
  rw [List.take_length] at hP
  rw [decide_eq_false hP] at h;exact h
attribute [irreducible] inE CU
end Go.Proofs.YtnhicpkhkaihoaaGreat.P
namespace Go.Proofs.YtnhicpkhkaihoaaGreat.P
open Go Go.Proofs.YtnhicpkhkaihoaaGreat Go.Proofs.YtnhicpkhkaihoaaGreat.Eng
set_option linter.unusedVariables false
theorem II {b:Bool} {q:Prop} (h:q):gE (.bool b) q:=⟨rfl,h⟩
theorem NQ {a b:Bool} {m:(Value→Prop)→Prop} {K:Value→Prop} (hm:a=true→ ∀K:Value→Prop,K (.bool b)→m K) (h:K (.bool (a&&b))):gP (.bool a) true m fun t=>prP (pk (.bool a) t (.bool false)) K:=by
 cases a
 ·exact .inr ⟨.inl rfl,BK rfl h⟩
 ·exact .inl ⟨rfl,hm rfl _ (BK rfl (by simpa using h))⟩
theorem pK {a b:Bool} {x:Value} {m1:(Value→Prop)→Prop} {m2:Value→(Value→Prop)→Prop} {K:Value→Prop} (h1:a=true→ ∀K:Value→Prop,K x→m1 K) (h2:a=true→ ∀K:Value→Prop,K (.bool b)→m2 x K) (h:K (.bool (a&&b))):
  gP (.bool a) true m1 fun x=>gP (.bool a) true (m2 x) fun t=>prP (pk (.bool a) t (.bool false)) K:=by
 cases a
 ·exact .inr ⟨.inl rfl, .inr ⟨.inl rfl,BK rfl h⟩⟩
 ·exact .inl ⟨rfl,h1 rfl _ (.inl ⟨rfl,h2 rfl _ (BK rfl (by simpa using h))⟩)⟩
theorem Cy {a b:Bool} {m:(Value→Prop)→Prop} {K:Value→Prop} (hm:a=false→ ∀K:Value→Prop,K (.bool b)→m K) (h:K (.bool (a||b))):gP (.bool a) false m fun t=>prP (pk (.bool a) (.bool true) t) K:=by
 cases a
 ·exact .inl ⟨rfl,hm rfl _ (BK rfl (by simpa using h))⟩
 ·exact .inr ⟨.inl rfl,BK rfl h⟩
theorem aH {a b:Bool} {m:(Value→Prop)→Prop} {K:Value→Prop} (hm:a=false→ ∀K:Value→Prop,K (.bool b)→m K) (h:K (.bool (a|| !b))):gP (.bool a) false m fun t=>gP (.bool a) false (prP (un .not t)) fun t=>prP (pk (.bool a) (.bool true) t) K:=by
 cases a
 ·exact .inl ⟨rfl,hm rfl _ (.inl ⟨rfl,BN (BK rfl (by simpa using h))⟩)⟩
 ·exact .inr ⟨.inl rfl, .inr ⟨.inl rfl,BK rfl h⟩⟩
def inB (n lo hi:Int):Bool:=decide (n≥lo)&&decide (n≤hi)
theorem jW {C:Ctx} {n lo hi:Int} {K:J2} (h:K [.bool (inB n lo hi)] []):BP.txt C (I n) (I lo) (I hi) K:=
 JD (II (II (NQ (fun _ K hk=>FE hk) h)))
theorem sD {C:Ctx} {n lo hi:Int} {K:J2} (h:K [.bool (inB n lo hi)] []):B9.txt C (I n) (I lo) (I hi) K:=
 JD (II (II (NQ (fun _ K hk=>FE hk) h)))
theorem H5 {w0:World} {n lo hi:Int} {K:J2} (h:K [.bool (inB n lo hi)] []):cl2 ⟨Tryz.prog,w0⟩ 54 BP.sg [I n,I lo,I hi] [] K:=BP.cl2 (jW h)
theorem TH {w0:World} {n lo hi:Int} {K:J2} (h:K [.bool (inB n lo hi)] []):cl2 ⟨Tryz.prog,w0⟩ 94 B9.sg [I n,I lo,I hi] [] K:=B9.cl2 (sD h)
def ML (n:Int):Bool:=inB n (-1000000000) 1000000000
theorem J0 {w0:World} {n:Int} {K:J2} (h:K [.bool (ML n)] []):cl2 ⟨Tryz.prog,w0⟩ 149 EC.sg [I n] [] K:=EC.cl2 (TH h)
def dJ (a b c d:Int) (s:ByteArray):Bool:=(((ML a&&ML b)&&ML c)&&ML d)&&decide ((s.size:Int)≤8)
theorem W0 {w0:World} {a b c d:Int} {s:ByteArray} {K:J2} (h:K [.bool (dJ a b c d s)] []):cl2 ⟨Tryz.prog,w0⟩ 40 G5.sg [I a,I b,I c,I d, .string s] [] K:=
 G5.cl2 (H5 (II (II (NQ (fun _ K hk=>H5 hk) (II (II (NQ (fun _ K hk=>H5 hk) (II (II (NQ (fun _ K hk=>H5 hk) (II (II (pK (fun _ K hk=>CM hk) (fun _ K hk=>FE hk) h)))))))))))))
theorem XU {w0:World} {a b c d:Int} {s:ByteArray} {K:J2} (h:K [.bool (dJ a b c d s)] []):cl2 ⟨Tryz.prog,w0⟩ 87 G6.sg [I a,I b,I c,I d, .string s] [] K:=
 G6.cl2 (J0 (II (II (NQ (fun _ K hk=>J0 hk) (II (II (NQ (fun _ K hk=>J0 hk) (II (II (NQ (fun _ K hk=>J0 hk) (II (II (pK (fun _ K hk=>CM hk) (fun _ K hk=>FE hk) h)))))))))))))
def U6 (c v:Int) (l:List Int):Bool:=(inB c 0 6&&ML v&&decide (l.length≤8))&&l.all ML
theorem xK {a b:Nat} {K:Value→Prop} (h:K (.bool (decide (a>b)))):prP (bnI .gtr (iv a) (iv b)) K:=G9 (a:=Int.ofNat a) (b:=Int.ofNat b) (by
 have:decide (Int.ofNat a>Int.ofNat b)=decide (a>b):=by simp
 rw [this];exact h)
theorem gU {a b:Nat} {K:Value→Prop} (h:K (.bool (decide (a≤b)))):prP (bnI .leq (iv a) (iv b)) K:=FE (a:=Int.ofNat a) (b:=Int.ofNat b) (by
 have:decide (Int.ofNat a≤Int.ofNat b)=decide (a≤b):=by simp
 rw [this];exact h)
theorem kE {l:List Int} {i:Nat} (hi:i<l.length) (p:Int→Bool):(l.take (i+1)).all p=((l.take i).all p&&p l[i]):=by
 rw [List.take_succ_eq_append_getElem hi];simp only [List.all_append,List.all_cons,List.all_nil,Bool.and_true]
theorem UY {w0:World} {c v:Int} {l:List Int} {K:J2} (hl:(l.length:Int)<2^62) (h:K [.bool (U6 c v l)] []):cl2 ⟨Tryz.prog,w0⟩ 132 D4.sg [I c,I v] [tI l] K:=by
 refine D4.cl2 ?_
 unfold D4.txt
 simp only [AE]
 refine H5 (BN (II (II (aH (fun _ K hk=>H5 hk) (II (II (II (Cy (fun _ K hk=>xK (b:=8) hk) (KO (fun hb=> ?_) fun hb=> ?_)))))))))
 ·have:U6 c v l=false:=by
   unfold U6 ML
   revert hb
   cases inB c 0 6 <;> cases inB v (-1000000000) 1000000000 <;> simp
   intro h1 h2;omega
  rw [this] at h;exact h
 ·have hh:(inB c 0 6&&ML v&&decide (l.length≤8))=true:=by
   unfold ML
   revert hb
   cases inB c 0 6 <;> cases inB v (-1000000000) 1000000000 <;> simp
  refine A7 (fun i=>[iv i,I c,I v]) (fun _=>[]) l.length (fun i=>(l.take i).all ML=true) rfl rfl rfl (fun R i hi hP hR=> ?_)
  refine IV (AH (fun hlt=> ?_) fun hge=> ?_)
  ·refine AW hlt (L6 hlt (H5 (BN (KO (fun hb=> ?_) fun hb=> ?_))))
   ·have:l.all ML=false:=by
     rw [List.all_eq_false];exact ⟨l[i],List.getElem_mem hlt,by unfold ML;simpa using hb⟩
    rw [U6,hh,this] at h;exact h
   ·exact AX (by omega) (hR hlt (by rw [kE hlt,hP];unfold ML;simpa using hb))
  ·have:i=l.length:=by omega
   subst this
   rw [List.take_length] at hP
   rw [U6,hh,hP] at h;exact h
theorem VT {w0:World} {c v:Int} {l:List Int} {K:J2} (hl:(l.length:Int)<2^62) (h:K [.bool (U6 c v l)] []):cl2 ⟨Tryz.prog,w0⟩ 88 EM.sg [I c,I v] [tI l] K:=by
 refine EM.cl2 ?_
 unfold EM.txt
 simp only [AE]
 refine A7 (fun i=>[iv l.length,iv i,I c,I v]) (fun _=>[]) l.length (fun i=>(l.take i).all ML=true) rfl rfl rfl (fun R i hi hP hR=> ?_)
 refine IV (AH (fun hlt=> ?_) fun hge=> ?_)
 ·refine AW hlt (L6 hlt (J0 (BN (KO (fun hb=> ?_) fun hb=> ?_))))
  ·have:l.all ML=false:=by
    rw [List.all_eq_false];exact ⟨l[i],List.getElem_mem hlt,by simpa using hb⟩
   rw [U6,this,Bool.and_false] at h;exact h
  ·exact AX (by omega) (hR hlt (by rw [kE hlt,hP];simpa using hb))
 ·have:i=l.length:=by omega
  subst this
  rw [List.take_length] at hP
  refine TH (II (II (NQ (fun _ K hk=>J0 hk) (II (II (II (NQ (fun _ K hk=>gU (b:=8) hk) ?_)))))))
  rw [U6,hP,Bool.and_true] at h;exact h
end Go.Proofs.YtnhicpkhkaihoaaGreat.P
namespace Go.Proofs.YtnhicpkhkaihoaaGreat.P
open Go Go.Proofs.YtnhicpkhkaihoaaGreat Go.Proofs.YtnhicpkhkaihoaaGreat.Eng
set_option linter.unusedVariables false
def tB (l:List Nat):List T:=l.map fun (b:Nat)=> .c (.int .u8 (b:Int))
def HU (l:List Nat):ByteArray:=l.foldl (fun b n=>b.push (UInt8.ofNat n)) ByteArray.empty
theorem fT (l:List Nat):b2T (tB l)=some (.string (HU l)):=by
 have h1:(tB l).all Q2=true:=by simp [tB,Q2]
 have h2: ∀(l:List Nat) (b:ByteArray),(tB l).foldl lX b=l.foldl (fun b n=>b.push (UInt8.ofNat n)) b:=by
  intro l
  induction l with
  | nil=>intro b;rfl
  | cons a l ih=>intro b;exact ih _
 simp only [b2T,h1,if_true,h2];rfl
theorem R6 (l:List Nat):(HU l).size=l.length:=by
 have: ∀(l:List Nat) (b:ByteArray),(l.foldl (fun b n=>b.push (UInt8.ofNat n)) b).size=b.size+l.length:=by
  intro l
  induction l with
  | nil=>intro b;rfl
  | cons a l ih=>intro b;rw [List.foldl_cons,ih,ByteArray.size_push,List.length_cons];omega
 rw [HU,this];simp
def vd:Nat→Nat→List Nat
 | 0,n=>[n]
 | k+1,n=>if n≥128 then (128+n % 128)::vd k (n/128) else [n]
theorem uE: ∀k n,(vd k n).length≤k+1
 | 0,n=>by simp [vd]
 | k+1,n=>by
   unfold vd;split
   ·have:=uE k (n/128);simp only [List.length_cons];omega
   ·simp
def V (n:Int):ByteArray:=if inB n 0 562949953421311 then HU (vd 6 n.toNat) else ⟨#[]⟩
theorem JI (n:Int):(V n).size≤7:=by
 unfold V;split
 ·rw [R6];exact uE 6 _
 ·exact Nat.zero_le _
theorem tV (l:List Nat):cnt 1 (tB l)=l.length:=by simp [cnt,tB]
theorem V4 {c:List T} {n m b:Nat} {q:Prop} (hf:flat c=true) (hn:(n+m)*b≤2^47) (h:q):apW c true n m b q:=⟨fun _=>hf,hn,h⟩
theorem KR {w0:World} {n:Int} {K:J2} (hn:F64 n) (h:K [.string (V n)] []):cl2 ⟨Tryz.prog,w0⟩ 136 D9.sg [I n] [] K:=by
 refine D9.cl2 ?_
 unfold D9.txt
 refine H5 (BN (KO (fun hb=> ?_) fun hb=> ?_))
 ·have hb:inB n 0 562949953421311=false:=by simpa using hb
  rw [V,hb] at h;exact h
 ·have hb:inB n 0 562949953421311=true:=by simpa using hb
  rw [V,if_pos hb] at h
  unfold inB at hb
  simp only [Bool.and_eq_true,decide_eq_true_eq] at hb
  obtain ⟨m,rfl⟩: ∃m:Nat,n=m:=⟨n.toNat,by omega⟩
  rw [Int.toNat_natCast] at h
  refine C8 (α:=Nat×Nat×List Nat) (fun p=>[iv p.2.1]) (fun p=>[tB p.2.2]) (fun p=>p.1) (fun p=>p.2.1<128^(p.1+1)∧p.2.1<2^62∧p.2.2.length+p.1≤6∧p.2.2++vd p.1 p.2.1=vd 6 m) (6,m,[]) rfl rfl ⟨by simp only;omega,by simp only;omega,by simp,rfl⟩ (fun R p hp hR=> ?_)
  obtain ⟨k,m',l⟩:=p
  obtain ⟨p1,p2,p3,p4⟩:=hp
  simp only at p1 p2 p3 p4
  have hcn:cnt 1 (nxc [tB l] 0)=l.length:=tV l
  simp only [hcn]
  refine JD (a:=Int.ofNat m') (b:=128) (AH (fun hge=> ?_) fun hlt=> ?_)
  ·have hge:128≤m':=by simp at hge;omega
   cases k with
   | zero=>simp at p1;omega
   | succ k=>
     have h1:(Int.ofNat m').tmod 128=((m' % 128:Nat):Int):=by simp [Int.tmod_eq_emod_of_nonneg]
     refine BK (v:= .int .i64 ((Int.ofNat m').tmod 128)) rfl ?_
     rw [h1]
     refine BX (a:=128) ⟨by omega,by omega⟩ ?_
     refine BK (v:= .int .u8 (IntKind.u8.wrap (128+((m' % 128:Nat):Int)))) rfl ?_
     have h2:IntKind.u8.wrap (128+((m' % 128:Nat):Int))=((128+m' % 128:Nat):Int):=by rw [IntKind.wrap_u8];omega
     rw [h2]
     refine V4 rfl (by simp [cnt];omega) ?_
     have h3:(Int.ofNat m').tdiv 128=((m'/128:Nat):Int):=rfl
     refine BK (v:= .int .i64 (IntKind.i64.wrap ((Int.ofNat m').tdiv 128))) rfl ?_
     rw [h3,LJ ⟨by omega,by omega⟩]
     have:=hR (k,m'/128,l++[128+m' % 128]) ⟨by simp only;rw [Nat.pow_succ] at p1;omega,by simp only;omega,by simp;omega,by simp only;rw [←p4,vd,if_pos hge];simp⟩ (Nat.lt_succ_self k)
     have e9:tB (l++[128+m' % 128])=tB l++[T.c (.int .u8 ((128+m' % 128:Nat):Int))]:=by simp [tB]
     show R [iv (m'/128)] [tB l++[T.c (.int .u8 ((128+m' % 128:Nat):Int))]]
     rw [←e9];exact this
  ·have hlt:m'<128:=by simp at hlt;omega
   refine BK (v:= .int .u8 (IntKind.u8.wrap (Int.ofNat m'))) rfl ?_
   have h2:IntKind.u8.wrap (Int.ofNat m')=(m':Int):=by rw [IntKind.wrap_u8];simp only [Int.ofNat_eq_natCast];omega
   rw [h2]
   refine V4 rfl (by simp [cnt];omega) ?_
   have h4:vd k m'=[m']:=by cases k with | zero=>rfl | succ k=>rw [vd,if_neg (by omega)]
   have h5:nxc [tB l] 0++[T.c (.int .u8 (m':Int))]=tB (vd 6 m):=by rw [←p4,h4];simp [tB,nxc]
   rw [h5,fT]
   exact BK rfl h
theorem LM {w0:World} {n:Int} {K:J2} (hn:F64 n) (h:K [.string (V n)] []):cl2 ⟨Tryz.prog,w0⟩ 92 FL.sg [I n] [] K:=by
 refine FL.cl2 ?_
 unfold FL.txt
 refine TH (BN (KO (fun hb=> ?_) fun hb=> ?_))
 ·have hb:inB n 0 562949953421311=false:=by simpa using hb
  rw [V,hb] at h;exact h
 ·have hb:inB n 0 562949953421311=true:=by simpa using hb
  rw [V,if_pos hb] at h
  unfold inB at hb
  simp only [Bool.and_eq_true,decide_eq_true_eq] at hb
  obtain ⟨m,rfl⟩: ∃m:Nat,n=m:=⟨n.toNat,by omega⟩
  rw [Int.toNat_natCast] at h
  refine C8 (α:=Nat×Nat×List Nat) (fun p=>[iv p.2.1]) (fun p=>[tB p.2.2]) (fun p=>p.1) (fun p=>p.2.1<128^(p.1+1)∧p.2.1<2^62∧p.2.2.length+p.1≤6∧p.2.2++vd p.1 p.2.1=vd 6 m) (6,m,[]) rfl rfl ⟨by simp only;omega,by simp only;omega,by simp,rfl⟩ (fun R p hp hR=> ?_)
  obtain ⟨k,m',l⟩:=p
  obtain ⟨p1,p2,p3,p4⟩:=hp
  simp only at p1 p2 p3 p4
  have hcn:cnt 1 (nxc [tB l] 0)=l.length:=tV l
  simp only [hcn]
  refine G9 (a:=Int.ofNat m') (b:=127) (AH (fun hge=> ?_) fun hlt=> ?_)
  ·have hge:128≤m':=by simp at hge;omega
   cases k with
   | zero=>simp at p1;omega
   | succ k=>
     have h1:(Int.ofNat m').tmod 128=((m' % 128:Nat):Int):=by simp [Int.tmod_eq_emod_of_nonneg]
     refine BK (v:= .int .i64 ((Int.ofNat m').tmod 128)) rfl ?_
     rw [h1]
     refine BX (b:=128) ⟨by omega,by omega⟩ ?_
     refine BK (v:= .int .u8 (IntKind.u8.wrap (((m' % 128:Nat):Int)+128))) rfl ?_
     have h2:IntKind.u8.wrap (((m' % 128:Nat):Int)+128)=((128+m' % 128:Nat):Int):=by rw [IntKind.wrap_u8];omega
     rw [h2]
     refine V4 rfl (by simp [cnt];omega) ?_
     have h3:(Int.ofNat m').tdiv 128=((m'/128:Nat):Int):=rfl
     refine BK (v:= .int .i64 (IntKind.i64.wrap ((Int.ofNat m').tdiv 128))) rfl ?_
     rw [h3,LJ ⟨by omega,by omega⟩]
     have:=hR (k,m'/128,l++[128+m' % 128]) ⟨by simp only;rw [Nat.pow_succ] at p1;omega,by simp only;omega,by simp;omega,by simp only;rw [←p4,vd,if_pos hge];simp⟩ (Nat.lt_succ_self k)
     have e9:tB (l++[128+m' % 128])=tB l++[T.c (.int .u8 ((128+m' % 128:Nat):Int))]:=by simp [tB]
     show R [iv (m'/128)] [tB l++[T.c (.int .u8 ((128+m' % 128:Nat):Int))]]
     rw [←e9];exact this
  ·have hlt:m'<128:=by simp at hlt;omega
   refine BK (v:= .int .u8 (IntKind.u8.wrap (Int.ofNat m'))) rfl ?_
   have h2:IntKind.u8.wrap (Int.ofNat m')=(m':Int):=by rw [IntKind.wrap_u8];simp only [Int.ofNat_eq_natCast];omega
   rw [h2]
   refine V4 rfl (by simp [cnt];omega) ?_
   have h4:vd k m'=[m']:=by cases k with | zero=>rfl | succ k=>rw [vd,if_neg (by omega)]
   have h5:nxc [tB l] 0++[T.c (.int .u8 (m':Int))]=tB (vd 6 m):=by rw [←p4,h4];simp [tB,nxc]
   rw [h5,fT]
   exact BK rfl h
attribute [irreducible] V
end Go.Proofs.YtnhicpkhkaihoaaGreat.P
namespace Go.Proofs.YtnhicpkhkaihoaaGreat.P
open Go Go.Proofs.YtnhicpkhkaihoaaGreat Go.Proofs.YtnhicpkhkaihoaaGreat.Eng
set_option linter.unusedVariables false
def zg (n:Int):Int:=if inB n (-100000000000000) 100000000000000 then (if n<0 then -2*n-1 else 2*n) else -1
theorem LL {n lo hi:Int}:inB n lo hi=true↔lo≤n∧n≤hi:=by simp [inB]
theorem qA (n:Int):F64 (zg n):=by
 unfold zg;split
 ·rename_i h;rw [LL] at h
  split <;> constructor <;> omega
 ·constructor <;> omega
theorem nN {w0:World} {n:Int} {K:J2} (h:K [I (zg n)] []):cl2 ⟨Tryz.prog,w0⟩ 178 NA.sg [I n] [] K:=by
 refine NA.cl2 (H5 (BN (KO (fun hb=> ?_) fun hb=> ?_)))
 ·have hb:inB n (-100000000000000) 100000000000000=false:=by simpa using hb
  rw [zg,hb] at h;exact h
 ·have hb:inB n (-100000000000000) 100000000000000=true:=by simpa using hb
  rw [zg,if_pos hb] at h
  rw [LL] at hb
  refine AJ (AH (fun hl=> ?_) fun hl=> ?_)
  ·rw [if_pos hl] at h
   exact M4 (a:= -2) ⟨by omega,by omega⟩ (DM (b:=1) ⟨by omega,by omega⟩ h)
  ·rw [if_neg hl] at h
   exact M4 (a:=2) ⟨by omega,by omega⟩ h
theorem m0 {w0:World} {n:Int} {K:J2} (h:K [I (zg n)] []):cl2 ⟨Tryz.prog,w0⟩ 151 NK.sg [I n] [] K:=by
 refine NK.cl2 (TH (BN (KO (fun hb=> ?_) fun hb=> ?_)))
 ·have hb:inB n (-100000000000000) 100000000000000=false:=by simpa using hb
  rw [zg,hb] at h;exact h
 ·have hb:inB n (-100000000000000) 100000000000000=true:=by simpa using hb
  rw [zg,if_pos hb] at h
  rw [LL] at hb
  refine AJ (AH (fun hl=> ?_) fun hl=> ?_)
  ·rw [if_pos hl] at h
   exact M4 (a:= -2) ⟨by omega,by omega⟩ (DM (b:=1) ⟨by omega,by omega⟩ h)
  ·rw [if_neg hl] at h
   exact M4 (a:=2) ⟨by omega,by omega⟩ h
def SI (n:Int):ByteArray:=V (zg n)
theorem IC {w0:World} {n:Int} {K:J2} (h:K [.string (SI n)] []):cl2 ⟨Tryz.prog,w0⟩ 135 DA.sg [I n] [] K:=by
 refine DA.cl2 (nN (AJ (AH (fun hl=> ?_) fun hl=>KR (qA n) h)))
 have:SI n=⟨#[]⟩:=by
  have hb:inB (zg n) 0 562949953421311=false:=by
   cases hx:inB (zg n) 0 562949953421311
   ·rfl
   ·rw [LL] at hx;omega
  rw [SI,V,hb];rfl
 rw [this] at h;exact h
theorem JN {w0:World} {n:Int} {K:J2} (h:K [.string (SI n)] []):cl2 ⟨Tryz.prog,w0⟩ 90 D5.sg [I n] [] K:=
 D5.cl2 (m0 (LM (qA n) h))
def ST (s:ByteArray):ByteArray:=if (s.size:Int)>8 then ⟨#[]⟩ else V s.size++s
theorem YM {w0:World} {s:ByteArray} {K:J2} (h:K [.string (ST s)] []):cl2 ⟨Tryz.prog,w0⟩ 177 H3.sg [.string s] [] K:=by
 refine H3.cl2 (CM (G9 (AH (fun hl=> ?_) fun hl=> ?_)))
 ·rw [ST,if_pos hl] at h;exact h
 ·rw [ST,if_neg hl] at h
  have:=JI s.size
  exact CM (KR ⟨by omega,by omega⟩ (CQ (by omega) h))
theorem YZ {w0:World} {s:ByteArray} {K:J2} (h:K [.string (ST s)] []):cl2 ⟨Tryz.prog,w0⟩ 93 H4.sg [.string s] [] K:=by
 refine H4.cl2 (CM (G9 (AH (fun hl=> ?_) fun hl=> ?_)))
 ·rw [ST,if_pos hl] at h;exact h
 ·rw [ST,if_neg hl] at h
  have:=JI s.size
  exact CM (LM ⟨by omega,by omega⟩ (CQ (by omega) h))
theorem hU (s:ByteArray):(ST s).size≤15:=by
 unfold ST;split
 ·exact Nat.zero_le _
 ·have:=JI s.size
  rw [ByteArray.size_append];omega
theorem Z3 {a b:ByteArray} {p q:Prop} (h1:a=b→p) (h2:a≠b→q):AG (.bool (a.toList==b.toList)) p q:=
 KO (fun h=>h1 (iW (by simpa using h))) (fun h=>h2 (by rintro rfl;simp at h))
instance :LawfulBEq ByteArray where
 eq_of_beq {a b} h:=by
  cases a;cases b
  have h:_==_:=h
  first | exact congrArg _ (eq_of_beq h) | (simp [BEq.beq,instBEqByteArray.beq] at h;simpa using h) | (simp_all)
 rfl {a}:=by
  cases a
  first | exact beq_self_eq_true (α:=Array UInt8) _ | (show ByteArray.beq _ _=true;unfold ByteArray.beq;simp) | (simp [BEq.beq,ByteArray.beq])
def at_ (l:List ByteArray) (s:ByteArray):Int:=if s∈l then (l.idxOf s:Int) else -1
theorem U4 {l:List ByteArray} {s:ByteArray} {i:Nat} (hi:i<l.length) (h1:s∉l.take i) (h2:l[i]≠s):s∉l.take (i+1):=by
 rw [List.take_succ_eq_append_getElem hi]
 simp only [List.mem_append,List.mem_singleton,not_or]
 exact ⟨h1,fun h=>h2 h.symm⟩
theorem qV {l:List ByteArray} {s:ByteArray} {i:Nat} (hi:i<l.length) (h1:s∉l.take i) (h2:l[i]=s):at_ l s=i:=by
 have hm:s∈l:=h2 ▸ List.getElem_mem hi
 rw [at_,if_pos hm]
 have e:l=l.take i++l[i]::l.drop (i+1):=by rw [←List.drop_eq_getElem_cons hi,List.take_append_drop]
 have hx:l.idxOf s=i:=by
  rw [e,List.idxOf_append,if_neg h1,h2,List.idxOf_cons_self]
  simp;omega
 rw [hx]
theorem P0 {w0:World} {s:ByteArray} {l:List ByteArray} {K:J2} (hl:(l.length:Int)<2^62) (h:K [I (at_ l s)] []):cl2 ⟨Tryz.prog,w0⟩ 91 FB.sg [.string s] [tS l] K:=by
 refine FB.cl2 ?_
 unfold FB.txt
 simp only [AI]
 refine A7 (fun i=>[.string s,iv l.length,iv i]) (fun _=>[]) l.length (fun i=>s∉l.take i) rfl rfl (by simp) (fun R i hi hP hR=> ?_)
 refine IV (AH (fun hlt=> ?_) fun hge=> ?_)
 ·refine AW hlt (PV hlt (VS (Z3 (fun he=> ?_) fun hne=> ?_)))
  ·rw [qV hlt hP he] at h;exact h
  ·exact AX (by omega) (hR hlt (U4 hlt hP hne))
 ·have:i=l.length:=by omega
  subst this
  rw [List.take_length] at hP
  rw [at_,if_neg hP] at h;exact h
theorem S5 {w0:World} {s:ByteArray} {l:List ByteArray} {K:J2} (hl:(l.length:Int)<2^62) (h:K [.bool (decide (s∈l))] []):cl2 ⟨Tryz.prog,w0⟩ 150 GS.sg [.string s] [tS l] K:=by
 refine GS.cl2 (P0 hl (JD ?_))
 have:decide (at_ l s≥0)=decide (s∈l):=by
  by_cases hm:s∈l <;> simp [at_,hm]
 rw [this];exact h
theorem S3 {w0:World} {n:Value} {l:List ByteArray} {K:J2} (hl:l.length≤2^40) (h:K [n] [tS l]):cl2 ⟨Tryz.prog,w0⟩ 81 EP.sg [n] [tS l] K:=by
 refine EP.cl2 (DF.cl2 (V4 (RM l) (by rw [AI];omega) ?_))
 exact h
end Go.Proofs.YtnhicpkhkaihoaaGreat.P
