/- A part of the proof. -/
import Derived.Test.YtnhicpkhkaihoaaGreatFtHpA
import Derived.Test.YtnhicpkhkaihoaaGreatFtLawTyNode
import Derived.Test.YtnhicpkhkaihoaaGreatFtRowT
import Derived.Test.YtnhicpkhkaihoaaGreatFtTxtB
namespace Go.Proofs.YtnhicpkhkaihoaaGreat.P
open Go Go.Proofs.YtnhicpkhkaihoaaGreat Go.Proofs.YtnhicpkhkaihoaaGreat.Eng
set_option maxHeartbeats 4000000
set_option linter.unusedVariables false
set_option linter.unusedSimpArgs false
attribute [local irreducible] prP gP gE gF AV ixW ldc ldg ldl stc stg scW mkW apW BC cl2 BW F6 C2
variable {w0:World}
structure Gr where
 nodes:List Nd
 B7:List Wk
 sites:List ByteArray
def Ey (o:A7):Nd:=⟨o.live,o.gen,o.site,o.holds,o.roots,o.field⟩
def Dp (h:Hp):Gr:=⟨h.BA.map Ey,h.B7,h.sites⟩
theorem JP {l:List Int} {K:J2} (hl:(l.length:Int)≤2^40) (h:K [] [tI l]):cl2 ⟨Tryz.prog,w0⟩ 144 CV.sg [] [tI l] K:=by
 refine CV.cl2 ?_
 unfold CV.txt
 simp only [AI,AL,AH,AJ,AM,AE,AG,AR,AP,AN,AQ,AO,AS,AK,BD,BF,BI,BJ,BH,BG,BE,A1,AZ,AY,AX,A4,A5]
 refine EB (O1 l) (by omega) ?_
 rw [List.nil_append];exact h
theorem WY {l:List ByteArray} {K:J2} (hl:(l.length:Int)≤2^40) (h:K [] [tS l]):cl2 ⟨Tryz.prog,w0⟩ 143 DD.sg [] [tS l] K:=by
 refine DD.cl2 ?_
 unfold DD.txt
 simp only [AI,AL,AH,AJ,AM,AE,AG,AR,AP,AN,AQ,AO,AS,AK,BD,BF,BI,BJ,BH,BG,BE,A1,AZ,AY,AX,A4,A5]
 refine EB (S8 l) (by omega) ?_
 rw [List.nil_append];exact h
theorem zF {l:List A7} {P:A7→Prop} (h: ∀o∈l,P o) {i:Nat} (hi:i<l.length):P (ob l i):=by rw [←D6 hi];exact h _ (List.getElem_mem hi)
def Ax (g:Gr):Int:=szL lR g.nodes+szL XT g.B7+g.sites.length
structure XD (g:Gr):Prop where
 nl:(g.nodes.length:Int)≤1048576
 nf: ∀o∈g.nodes,(o.field.length:Int)≤1048576
 wl:(g.B7.length:Int)≤1048576
 sl:(g.sites.length:Int)≤1048576
theorem XD.of {h:Hp} (hf:Fits h):XD (Dp h):=by
 refine ⟨?_, ?_,hf.wl,hf.sl⟩
 ·simp only [Dp,List.length_map];exact hf.ol
 ·intro o ho
  obtain ⟨x,hx,rfl⟩:=List.mem_map.1 ho
  exact hf.of x hx
theorem XD.nodes {g:Gr} (hf:XD g):0≤szL lR g.nodes∧szL lR g.nodes≤2^41:=by
 refine ⟨VU rP _, ?_⟩
 have h1:=aW (sz:=lR) (b:=1048581) (l:=g.nodes) fun o ho=>by have:=hf.nf o ho;unfold lR;omega
 have h2:=hf.nl
 have h3:(g.nodes.length:Int)*1048581≤1048576*1048581:=Int.mul_le_mul_of_nonneg_right h2 (by omega)
 omega
theorem XD.B7 {g:Gr} (hf:XD g):0≤szL XT g.B7∧szL XT g.B7≤2^41:=by
 refine ⟨VU kE _, ?_⟩
 have h1:=aW (sz:=XT) (b:=2) (l:=g.B7) fun o ho=>by unfold XT;omega
 have h2:=hf.wl
 omega
theorem XD.sz {g:Gr} (hf:XD g):0≤Ax g∧Ax g≤2^43:=by
 have h1:=hf.nodes;have h2:=hf.B7;have h4:=hf.sl
 unfold Ax;omega
end Go.Proofs.YtnhicpkhkaihoaaGreat.P
namespace Go.Proofs.YtnhicpkhkaihoaaGreat.P
open Go Go.Proofs.YtnhicpkhkaihoaaGreat Go.Proofs.YtnhicpkhkaihoaaGreat.Eng
set_option maxHeartbeats 4000000
set_option linter.unusedVariables false
set_option linter.unusedSimpArgs false
attribute [local irreducible] prP gP gE gF AV ixW ldc ldg ldl stc stg scW mkW apW BC cl2 BW F6 C2
variable {w0:World}
def PW (id:Int) (o:A7):Nat:=if o.live=true then o.field.count id else 0
def CT (l:List A7) (id:Int):Nat:=(l.map (PW id)).sum
def inE (l:List A7) (s:Int):Int:=if (0≤s∧s≤l.length-1)∧(ob l s.toNat).live=true then CT l (CU s (ob l s.toNat).gen) else 0
theorem aR {l:List A7} {i:Nat} {id:Int} (hi:i<l.length):CT (l.take (i+1)) id=CT (l.take i) id+PW id (ob l i):=by
 rw [CT,List.take_succ_eq_append_getElem hi,List.map_append,List.sum_append,D6 hi];simp [CT]
theorem aX {l:List Int} {j:Nat} {id:Int} (hj:j<l.length):(l.take (j+1)).count id=(l.take j).count id+if gI l j=id then 1 else 0:=by
 rw [List.take_succ_eq_append_getElem hj,List.count_append,G3 hj,List.count_singleton]
 simp
theorem zB (id:Int) (o:A7):PW id o≤o.field.length:=by
 unfold PW;split
 ·exact List.count_le_length
 ·exact Nat.zero_le _
theorem QH {l:List A7} {id:Int} {b:Nat} (h: ∀o∈l,o.field.length≤b):CT l id≤l.length*b:=by
 induction l with
 | nil=>simp [CT]
 | cons o l ih=>
   have h1:=ih fun x hx=>h x (by simp [hx])
   have h2:=zB id o
   have h3:=h o (by simp)
   simp only [CT,List.map_cons,List.sum_cons,List.length_cons,Nat.add_mul,Nat.one_mul] at h1 ⊢
   omega
theorem gK {l:List A7} (hf: ∀o∈l,(o.field.length:Int)≤1048576) (i:Nat):((ob l i).field.length:Int)≤1048576:=by
 by_cases hi:i<l.length
 ·rw [←D6 hi];exact hf _ (List.getElem_mem hi)
 ·unfold ob;rw [List.getD_eq_getElem?_getD,List.getElem?_eq_none (by omega)];simp
theorem R1 {a:List A7} {b c d:List T} {s:Int} {K:J2} (hs:F64 s) (hl:(a.length:Int)≤1048576) (hf: ∀o∈a,(o.field.length:Int)≤1048576) (h:K [I (inE a s)] []):cl2 ⟨Tryz.prog,w0⟩ 176 FP.sg [I s] [tR tO a,b,c,d] K:=by
 obtain ⟨s1,s2⟩:=hs
 refine FP.cl2 ?_
 unfold FP.txt
 simp only [AI,AL,AH,AJ,AM,AE,AG,AR,AP,AN,AQ,AO,AS,AK,BD,BF,BI,BJ,BH,BG,BE,A1,AZ,AY,AX,A4,A5]
 repeat' (first | refine F8 ?_ | refine NF ?_ | refine BM ?_ | refine JZ (by first | with_reducible assumption | omega) ?_ | refine GA (by first | with_reducible assumption | omega) ?_ | refine CL (by first | with_reducible assumption | omega) rfl ?_ | refine CJ (by first | with_reducible assumption | omega) rfl ?_ | refine BQ ?_ | refine CP ?_ | refine DZ ⟨by omega,by omega⟩ ?_ | refine Q3 (by omega) (by omega) ?_ | refine JT (by omega) (by decide) rfl ?_ | refine MU (by omega) rfl ?_ | refine IN (fun _=> ?_) (fun _=> ?_) | refine JI (fun _=> ?_) (fun _=> ?_) | refine BP ?_ | simp only [AI,AL,AH,AJ,AM,AE,AG,AR,AP,AN,AQ,AO,AS,AK,BD,BF,BI,BJ,BH,BG,BE,A1,AZ,AY,AX,A4,A5])
 ·rw [inE,if_neg (by simp_all)] at h;exact h
 ·rename_i hin hlv
  have hin:0≤s∧s≤(a.length:Int)-1:=Decidable.not_not.1 hin
  rw [inE,if_pos ⟨hin,by simpa using hlv⟩] at h
  generalize CU s (ob a s.toNat).gen=id at h ⊢
  refine A8 (fun i=>[I id,I (CT (a.take i) id),iv a.length,iv i]) (fun _=>[]) a.length (fun _=>True) rfl rfl trivial (fun R i hi _ hR=> ?_)
  have he:=QH (l:=a.take i) (id:=id) (b:=1048576) fun o ho=>by have:=hf o (List.mem_of_mem_take ho);omega
  have hln:(a.take i).length≤a.length:=by simp;omega
  have hmul:(a.take i).length*1048576≤1048576*1048576:=Nat.mul_le_mul_right _ (by omega)
  have hfo:=gK hf i
  simp only [AI,AL,AH,AJ,AM,AE,AG,AR,AP,AN,AQ,AO,AS,AK,BD,BF,BI,BJ,BH,BG,BE,A1,AZ,AY,AX,A4,A5]
  refine AW (AT (fun hlt=> ?_) fun hge=> ?_)
  ·have hlt:i<a.length:=by omega
   replace hR:=hR hlt trivial
   rw [aR hlt,PW] at hR
   refine AU hlt (OJ hlt ?_)
   rw [IK hlt,AE]
   refine A8 (fun j=>[I id,I ((CT (a.take i) id+(if (ob a i).live=true then ((ob a i).field.take j).count id else 0):Nat):Int),iv a.length,iv i,iv (AA (iv i)*8+6),iv (ob a i).field.length,iv j, .bool (ob a i).live,I (ob a i).gen,I (ob a i).site,I (ob a i).holds,I (ob a i).roots,I (ob a i).count,iv (AA (iv i)*8+6), .bool (ob a i).purple]) (fun _=>[]) (ob a i).field.length (fun _=>True) (by simp only [List.take_zero,List.count_nil,ite_self,Nat.add_zero];rfl) rfl trivial (fun R2 j hj _ hR2=> ?_)
   have hc:((ob a i).field.take j).count id≤j:=Nat.le_trans List.count_le_length (by simp;omega)
   simp only [AI,AL,AH,AJ,AM,AE,AG,AR,AP,AN,AQ,AO,AS,AK,BD,BF,BI,BJ,BH,BG,BE,A1,AZ,AY,AX,A4,A5]
   refine AW (AT (fun hlt2=> ?_) fun hge2=> ?_)
   ·have hlt2:j<(ob a i).field.length:=by omega
    replace hR2:=hR2 hlt2 trivial
    rw [aX hlt2] at hR2
    rw [A9 (AA (iv i)*8+6),IK hlt,AE]
    refine BS (AU hlt2 (N8 hlt hlt2 (BM (BM ?_))))
    by_cases hv:(ob a i).live=true
    ·simp only [if_pos hv] at hR2 ⊢
     refine SG hv (BL (qO hv rfl (AT (fun he=> ?_) fun he=> ?_)))
     ·rw [if_pos he] at hR2
      exact CW ⟨by omega,by omega⟩ (A6 (by omega) hR2)
     ·rw [if_neg he] at hR2
      exact A6 (by omega) hR2
    ·have hv:(ob a i).live=false:=by simpa using hv
     simp only [hv,Bool.false_eq_true,if_false] at hR2 ⊢
     exact NM (UH rfl (BT (A6 (by omega) hR2)))
   ·have:j=(ob a i).field.length:=by omega
    subst this
    rw [List.take_length] at hc ⊢
    exact A6 (by omega) hR
  ·have:i=a.length:=by omega
   subst this
   rw [List.take_length];exact h
 ·rw [inE,if_neg (by rintro ⟨h1,h2⟩;simp_all)] at h;exact h
theorem RJ {a:List A7} {b c d:List T} {s:Int} {K:J2} (hs:F64 s) (hl:(a.length:Int)≤1048576) (hf: ∀o∈a,(o.field.length:Int)≤1048576) (h:K [I (inE a s)] []):cl2 ⟨Tryz.prog,w0⟩ 56 FR.sg [I s] [tR tO a,b,c,d] K:=by
 obtain ⟨s1,s2⟩:=hs
 refine FR.cl2 ?_
 unfold FR.txt
 simp only [AI,AL,AH,AJ,AM,AE,AG,AR,AP,AN,AQ,AO,AS,AK,BD,BF,BI,BJ,BH,BG,BE,A1,AZ,AY,AX,A4,A5]
 repeat' (first | refine DO ?_ | refine LM ?_ | refine BM ?_ | refine JZ (by first | with_reducible assumption | omega) ?_ | refine GA (by first | with_reducible assumption | omega) ?_ | refine CL (by first | with_reducible assumption | omega) rfl ?_ | refine CJ (by first | with_reducible assumption | omega) rfl ?_ | refine BQ ?_ | refine CP ?_ | refine DZ ⟨by omega,by omega⟩ ?_ | refine Q3 (by omega) (by omega) ?_ | refine JT (by omega) (by decide) rfl ?_ | refine MU (by omega) rfl ?_ | refine IN (fun _=> ?_) (fun _=> ?_) | refine JI (fun _=> ?_) (fun _=> ?_) | refine BP ?_ | simp only [AI,AL,AH,AJ,AM,AE,AG,AR,AP,AN,AQ,AO,AS,AK,BD,BF,BI,BJ,BH,BG,BE,A1,AZ,AY,AX,A4,A5])
 ·rw [inE,if_neg (by simp_all)] at h;exact h
 ·rename_i hin hlv
  have hin:0≤s∧s≤(a.length:Int)-1:=Decidable.not_not.1 hin
  rw [inE,if_pos ⟨hin,by simpa using hlv⟩] at h
  generalize CU s (ob a s.toNat).gen=id at h ⊢
  refine A8 (fun i=>[I (CT (a.take i) id),I id,iv i]) (fun _=>[]) a.length (fun _=>True) rfl rfl trivial (fun R i hi _ hR=> ?_)
  have he:=QH (l:=a.take i) (id:=id) (b:=1048576) fun o ho=>by have:=hf o (List.mem_of_mem_take ho);omega
  have hln:(a.take i).length≤a.length:=by simp;omega
  have hmul:(a.take i).length*1048576≤1048576*1048576:=Nat.mul_le_mul_right _ (by omega)
  have hfo:=gK hf i
  simp only [AI,AL,AH,AJ,AM,AE,AG,AR,AP,AN,AQ,AO,AS,AK,BD,BF,BI,BJ,BH,BG,BE,A1,AZ,AY,AX,A4,A5]
  refine AW (AT (fun hlt=> ?_) fun hge=> ?_)
  ·have hlt:i<a.length:=by omega
   replace hR:=hR hlt trivial
   rw [aR hlt,PW] at hR
   refine A8 (fun j=>[I ((CT (a.take i) id+(if (ob a i).live=true then ((ob a i).field.take j).count id else 0):Nat):Int),I id,iv i,iv j]) (fun _=>[]) (ob a i).field.length (fun _=>True) (by simp only [List.take_zero,List.count_nil,ite_self,Nat.add_zero];rfl) rfl trivial (fun R2 j hj _ hR2=> ?_)
   have hc:((ob a i).field.take j).count id≤j:=Nat.le_trans List.count_le_length (by simp;omega)
   refine AU hlt (eY hlt ?_)
   rw [IK hlt,AE]
   by_cases hv:(ob a i).live=true
   ·simp only [if_pos hv] at hR hR2 ⊢
    refine AW (BM (BM (BM (IQ (fun hlt2=> ?_) fun hge2=> ?_))))
    ·have hlt2':j<(ob a i).field.length:=by
      have:(j:Int)<((ob a i).field.length:Int):=hlt2
      omega
     replace hR2:=hR2 hlt2' trivial
     rw [aX hlt2'] at hR2
     refine AU hlt (BM (HV hlt2 (MU hlt rfl (CL hlt2 rfl (oP hv (BS (AU hlt (eY hlt ?_))))))))
     rw [IK hlt,AE]
     refine AU hlt2' (N8 hlt hlt2' (BL (AT (fun he=> ?_) fun he=> ?_)))
     ·rw [if_pos he] at hR2
      exact CW ⟨by omega,by omega⟩ (A6 (by omega) hR2)
     ·rw [if_neg he] at hR2
      exact A6 (by omega) hR2
    ·have:j=(ob a i).field.length:=by
      have: ¬(j:Int)<((ob a i).field.length:Int):=hge2
      omega
     subst this
     rw [List.take_length] at hc ⊢
     exact BM (ME hge2 (CJ hge2 rfl (BT (A6 (by omega) hR))))
   ·have hv:(ob a i).live=false:=by simpa using hv
    simp only [hv,Bool.false_eq_true,if_false] at hR hR2 ⊢
    refine AW (BM (BM (BM (IQ (fun hlt2=> ?_) fun hge2=> ?_))))
    ·exact AU hlt (BM (HV hlt2 (MU hlt (v:= .bool false) (by rw [←hv];rfl) (CL hlt2 rfl (BT (A6 (by omega) hR))))))
    ·exact BM (ME hge2 (CJ hge2 rfl (BT (A6 (by omega) hR))))
  ·have:i=a.length:=by omega
   subst this
   rw [List.take_length];exact h
 ·rw [inE,if_neg (by rintro ⟨h1,h2⟩;simp_all)] at h;exact h
theorem dC {l:List Int} {i:Nat} {x:Int} (hi:i<l.length) (h:x∉l.take i) (hn:gI l i≠x):x∉l.take (i+1):=by
 rw [List.take_succ_eq_append_getElem hi,G3 hi]
 simp only [List.mem_append,List.mem_singleton,not_or]
 exact ⟨h,fun he=>hn he.symm⟩
theorem ER {l:List Int} {i:Nat} (h:i<l.length):gI l i∈l:=by rw [←G3 h];exact List.getElem_mem h
theorem TZ {l:List Int} {x:Int} {K:J2} (hl:(l.length:Int)<2^62) (h:K [.bool (decide (x∈l))] []):cl2 ⟨Tryz.prog,w0⟩ 148 GZ.sg [I x] [tI l] K:=by
 refine GZ.cl2 ?_
 unfold GZ.txt
 simp only [AI,AL,AH,AJ,AM,AE,AG,AR,AP,AN,AQ,AO,AS,AK,BD,BF,BI,BJ,BH,BG,BE,A1,AZ,AY,AX,A4,A5]
 refine A8 (fun i=>[I x,iv l.length,iv i]) (fun _=>[]) l.length (fun i=>x∉l.take i) rfl rfl (by simp) (fun R i hi hP hR=> ?_)
 refine AW (AT (fun hlt=> ?_) fun hge=> ?_)
 ·have hlt:i<l.length:=by omega
  refine AU hlt (ldI hlt (BL (AT (fun he=> ?_) fun he=> ?_)))
  ·rw [decide_eq_true (he ▸ ER hlt)] at h;exact h
  ·exact A6 (by omega) (hR hlt (dC hlt hP he))
 ·have:i=l.length:=by omega
  subst this
  rw [List.take_length] at hP
  rw [decide_eq_false hP] at h;exact h
theorem QP {l:List Int} {x:Int} {K:J2} (hl:(l.length:Int)<2^62) (h:K [.bool (decide (x∈l))] []):cl2 ⟨Tryz.prog,w0⟩ 57 G7.sg [I x] [tI l] K:=by
 refine G7.cl2 ?_
 unfold G7.txt
 simp only [AI,AL,AH,AJ,AM,AE,AG,AR,AP,AN,AQ,AO,AS,AK,BD,BF,BI,BJ,BH,BG,BE,A1,AZ,AY,AX,A4,A5]
 refine A8 (fun i=>[I x,iv i]) (fun _=>[]) l.length (fun i=>x∉l.take i) rfl rfl (by simp) (fun R i hi hP hR=> ?_)
 refine AW (AT (fun hlt=> ?_) fun hge=> ?_)
 ·have hlt:i<l.length:=by omega
  refine AU hlt (ldI hlt (BL (AT (fun he=> ?_) fun he=> ?_)))
  ·rw [decide_eq_true (he ▸ ER hlt)] at h;exact h
  ·exact A6 (by omega) (hR hlt (dC hlt hP he))
 ·have:i=l.length:=by omega
  subst this
  rw [List.take_length] at hP
  rw [decide_eq_false hP] at h;exact h
attribute [irreducible] inE CT
end Go.Proofs.YtnhicpkhkaihoaaGreat.P
namespace Go.Proofs.YtnhicpkhkaihoaaGreat.P
open Go Go.Proofs.YtnhicpkhkaihoaaGreat Go.Proofs.YtnhicpkhkaihoaaGreat.Eng
set_option linter.unusedVariables false
theorem HX {b:Bool} {q:Prop} (h:q):gE (.bool b) q:=⟨rfl,h⟩
theorem NH {a b:Bool} {m:(Value→Prop)→Prop} {K:Value→Prop} (hm:a=true→ ∀K:Value→Prop,K (.bool b)→m K) (h:K (.bool (a&&b))):gP (.bool a) true m fun t=>prP (pk (.bool a) t (.bool false)) K:=by
 cases a
 ·exact .inr ⟨.inl rfl,BK rfl h⟩
 ·exact .inl ⟨rfl,hm rfl _ (BK rfl (by simpa using h))⟩
theorem nK {a b:Bool} {x:Value} {m1:(Value→Prop)→Prop} {m2:Value→(Value→Prop)→Prop} {K:Value→Prop} (h1:a=true→ ∀K:Value→Prop,K x→m1 K) (h2:a=true→ ∀K:Value→Prop,K (.bool b)→m2 x K) (h:K (.bool (a&&b))):
  gP (.bool a) true m1 fun x=>gP (.bool a) true (m2 x) fun t=>prP (pk (.bool a) t (.bool false)) K:=by
 cases a
 ·exact .inr ⟨.inl rfl, .inr ⟨.inl rfl,BK rfl h⟩⟩
 ·exact .inl ⟨rfl,h1 rfl _ (.inl ⟨rfl,h2 rfl _ (BK rfl (by simpa using h))⟩)⟩
theorem Dy {a b:Bool} {m:(Value→Prop)→Prop} {K:Value→Prop} (hm:a=false→ ∀K:Value→Prop,K (.bool b)→m K) (h:K (.bool (a||b))):gP (.bool a) false m fun t=>prP (pk (.bool a) (.bool true) t) K:=by
 cases a
 ·exact .inl ⟨rfl,hm rfl _ (BK rfl (by simpa using h))⟩
 ·exact .inr ⟨.inl rfl,BK rfl h⟩
theorem Y0 {a b:Bool} {m:(Value→Prop)→Prop} {K:Value→Prop} (hm:a=false→ ∀K:Value→Prop,K (.bool b)→m K) (h:K (.bool (a|| !b))):gP (.bool a) false m fun t=>gP (.bool a) false (prP (un .not t)) fun t=>prP (pk (.bool a) (.bool true) t) K:=by
 cases a
 ·exact .inl ⟨rfl,hm rfl _ (.inl ⟨rfl,BP (BK rfl (by simpa using h))⟩)⟩
 ·exact .inr ⟨.inl rfl, .inr ⟨.inl rfl,BK rfl h⟩⟩
def inB (n lo hi:Int):Bool:=decide (n≥lo)&&decide (n≤hi)
theorem jV {C:Ctx} {n lo hi:Int} {K:J2} (h:K [.bool (inB n lo hi)] []):BO.txt C (I n) (I lo) (I hi) K:=
 I4 (HX (HX (NH (fun _ K hk=>EA hk) h)))
theorem q8 {C:Ctx} {n lo hi:Int} {K:J2} (h:K [.bool (inB n lo hi)] []):B6.txt C (I n) (I lo) (I hi) K:=
 I4 (HX (HX (NH (fun _ K hk=>EA hk) h)))
theorem HQ {w0:World} {n lo hi:Int} {K:J2} (h:K [.bool (inB n lo hi)] []):cl2 ⟨Tryz.prog,w0⟩ 54 BO.sg [I n,I lo,I hi] [] K:=BO.cl2 (jV h)
theorem SY {w0:World} {n lo hi:Int} {K:J2} (h:K [.bool (inB n lo hi)] []):cl2 ⟨Tryz.prog,w0⟩ 94 B6.sg [I n,I lo,I hi] [] K:=B6.cl2 (q8 h)
def KW (n:Int):Bool:=inB n (-1000000000) 1000000000
theorem I8 {w0:World} {n:Int} {K:J2} (h:K [.bool (KW n)] []):cl2 ⟨Tryz.prog,w0⟩ 149 D9.sg [I n] [] K:=D9.cl2 (SY h)
def RT (a b c d:Int) (s:ByteArray):Bool:=(((KW a&&KW b)&&KW c)&&KW d)&&decide ((s.size:Int)≤8)
theorem PS {w0:World} {a b c d:Int} {s:ByteArray} {K:J2} (h:K [.bool (RT a b c d s)] []):cl2 ⟨Tryz.prog,w0⟩ 40 EF.sg [I a,I b,I c,I d, .string s] [] K:=
 EF.cl2 (HQ (HX (HX (NH (fun _ K hk=>HQ hk) (HX (HX (NH (fun _ K hk=>HQ hk) (HX (HX (NH (fun _ K hk=>HQ hk) (HX (HX (nK (fun _ K hk=>DX hk) (fun _ K hk=>EA hk) h)))))))))))))
theorem WV {w0:World} {a b c d:Int} {s:ByteArray} {K:J2} (h:K [.bool (RT a b c d s)] []):cl2 ⟨Tryz.prog,w0⟩ 87 GW.sg [I a,I b,I c,I d, .string s] [] K:=
 GW.cl2 (I8 (HX (HX (NH (fun _ K hk=>I8 hk) (HX (HX (NH (fun _ K hk=>I8 hk) (HX (HX (NH (fun _ K hk=>I8 hk) (HX (HX (nK (fun _ K hk=>DX hk) (fun _ K hk=>EA hk) h)))))))))))))
def SL (c v:Int) (l:List Int):Bool:=(inB c 0 6&&KW v&&decide (l.length≤8))&&l.all KW
theorem w3 {a b:Nat} {K:Value→Prop} (h:K (.bool (decide (a>b)))):prP (bnI .gtr (iv a) (iv b)) K:=GN (a:=Int.ofNat a) (b:=Int.ofNat b) (by
 have:decide (Int.ofNat a>Int.ofNat b)=decide (a>b):=by simp
 rw [this];exact h)
theorem gB {a b:Nat} {K:Value→Prop} (h:K (.bool (decide (a≤b)))):prP (bnI .leq (iv a) (iv b)) K:=EA (a:=Int.ofNat a) (b:=Int.ofNat b) (by
 have:decide (Int.ofNat a≤Int.ofNat b)=decide (a≤b):=by simp
 rw [this];exact h)
theorem kD {l:List Int} {i:Nat} (hi:i<l.length) (p:Int→Bool):(l.take (i+1)).all p=((l.take i).all p&&p l[i]):=by
 rw [List.take_succ_eq_append_getElem hi];simp only [List.all_append,List.all_cons,List.all_nil,Bool.and_true]
theorem UN {w0:World} {c v:Int} {l:List Int} {K:J2} (hl:(l.length:Int)<2^62) (h:K [.bool (SL c v l)] []):cl2 ⟨Tryz.prog,w0⟩ 132 D4.sg [I c,I v] [tI l] K:=by
 refine D4.cl2 ?_
 unfold D4.txt
 simp only [AE]
 refine HQ (BP (HX (HX (Y0 (fun _ K hk=>HQ hk) (HX (HX (HX (Dy (fun _ K hk=>w3 (b:=8) hk) (JI (fun hb=> ?_) fun hb=> ?_)))))))))
 ·have:SL c v l=false:=by
   unfold SL KW
   revert hb
   cases inB c 0 6 <;> cases inB v (-1000000000) 1000000000 <;> simp
   intro h1 h2;omega
  rw [this] at h;exact h
 ·have hh:(inB c 0 6&&KW v&&decide (l.length≤8))=true:=by
   unfold KW
   revert hb
   cases inB c 0 6 <;> cases inB v (-1000000000) 1000000000 <;> simp
  refine A8 (fun i=>[iv i,I c,I v]) (fun _=>[]) l.length (fun i=>(l.take i).all KW=true) rfl rfl rfl (fun R i hi hP hR=> ?_)
  refine MX (AT (fun hlt=> ?_) fun hge=> ?_)
  ·refine AU hlt (QI hlt (HQ (BP (JI (fun hb=> ?_) fun hb=> ?_))))
   ·have:l.all KW=false:=by
     rw [List.all_eq_false];exact ⟨l[i],List.getElem_mem hlt,by unfold KW;simpa using hb⟩
    rw [SL,hh,this] at h;exact h
   ·exact A6 (by omega) (hR hlt (by rw [kD hlt,hP];unfold KW;simpa using hb))
  ·have:i=l.length:=by omega
   subst this
   rw [List.take_length] at hP
   rw [SL,hh,hP] at h;exact h
theorem U8 {w0:World} {c v:Int} {l:List Int} {K:J2} (hl:(l.length:Int)<2^62) (h:K [.bool (SL c v l)] []):cl2 ⟨Tryz.prog,w0⟩ 88 EJ.sg [I c,I v] [tI l] K:=by
 refine EJ.cl2 ?_
 unfold EJ.txt
 simp only [AE]
 refine A8 (fun i=>[iv l.length,iv i,I c,I v]) (fun _=>[]) l.length (fun i=>(l.take i).all KW=true) rfl rfl rfl (fun R i hi hP hR=> ?_)
 refine MX (AT (fun hlt=> ?_) fun hge=> ?_)
 ·refine AU hlt (QI hlt (I8 (BP (JI (fun hb=> ?_) fun hb=> ?_))))
  ·have:l.all KW=false:=by
    rw [List.all_eq_false];exact ⟨l[i],List.getElem_mem hlt,by simpa using hb⟩
   rw [SL,this,Bool.and_false] at h;exact h
  ·exact A6 (by omega) (hR hlt (by rw [kD hlt,hP];simpa using hb))
 ·have:i=l.length:=by omega
  subst this
  rw [List.take_length] at hP
  refine SY (HX (HX (NH (fun _ K hk=>I8 hk) (HX (HX (HX (NH (fun _ K hk=>gB (b:=8) hk) ?_)))))))
  rw [SL,hP,Bool.and_true] at h;exact h
end Go.Proofs.YtnhicpkhkaihoaaGreat.P
namespace Go.Proofs.YtnhicpkhkaihoaaGreat.P
open Go Go.Proofs.YtnhicpkhkaihoaaGreat Go.Proofs.YtnhicpkhkaihoaaGreat.Eng
set_option linter.unusedVariables false
def tB (l:List Nat):List T:=l.map fun (b:Nat)=> .c (.int .u8 (b:Int))
def FB (l:List Nat):ByteArray:=l.foldl (fun b n=>b.push (UInt8.ofNat n)) ByteArray.empty
theorem eJ (l:List Nat):b2T (tB l)=some (.string (FB l)):=by
 have h1:(tB l).all QX=true:=by simp [tB,QX]
 have h2: ∀(l:List Nat) (b:ByteArray),(tB l).foldl jC b=l.foldl (fun b n=>b.push (UInt8.ofNat n)) b:=by
  intro l
  induction l with
  | nil=>intro b;rfl
  | cons a l ih=>intro b;exact ih _
 simp only [b2T,h1,if_true,h2];rfl
theorem LB (l:List Nat):(FB l).size=l.length:=by
 have: ∀(l:List Nat) (b:ByteArray),(l.foldl (fun b n=>b.push (UInt8.ofNat n)) b).size=b.size+l.length:=by
  intro l
  induction l with
  | nil=>intro b;rfl
  | cons a l ih=>intro b;rw [List.foldl_cons,ih,ByteArray.size_push,List.length_cons];omega
 rw [FB,this];simp
def vd:Nat→Nat→List Nat
 | 0,n=>[n]
 | k+1,n=>if n≥128 then (128+n % 128)::vd k (n/128) else [n]
theorem lQ: ∀k n,(vd k n).length≤k+1
 | 0,n=>by simp [vd]
 | k+1,n=>by
   unfold vd;split
   ·have:=lQ k (n/128);simp only [List.length_cons];omega
   ·simp
def V (n:Int):ByteArray:=if inB n 0 562949953421311 then FB (vd 6 n.toNat) else ⟨#[]⟩
theorem H0 (n:Int):(V n).size≤7:=by
 unfold V;split
 ·rw [LB];exact lQ 6 _
 ·exact Nat.zero_le _
theorem vJ (l:List Nat):cnt 1 (tB l)=l.length:=by simp [cnt,tB]
theorem U4 {c:List T} {n m b:Nat} {q:Prop} (hf:flat c=true) (hn:(n+m)*b≤2^47) (h:q):apW c true n m b q:=⟨fun _=>hf,hn,h⟩
theorem K6 {w0:World} {n:Int} {K:J2} (hn:F64 n) (h:K [.string (V n)] []):cl2 ⟨Tryz.prog,w0⟩ 136 FA.sg [I n] [] K:=by
 refine FA.cl2 ?_
 unfold FA.txt
 refine HQ (BP (JI (fun hb=> ?_) fun hb=> ?_))
 ·have hb:inB n 0 562949953421311=false:=by simpa using hb
  rw [V,hb] at h;exact h
 ·have hb:inB n 0 562949953421311=true:=by simpa using hb
  rw [V,if_pos hb] at h
  unfold inB at hb
  simp only [Bool.and_eq_true,decide_eq_true_eq] at hb
  obtain ⟨m,rfl⟩: ∃m:Nat,n=m:=⟨n.toNat,by omega⟩
  rw [Int.toNat_natCast] at h
  refine DK (α:=Nat×Nat×List Nat) (fun p=>[iv p.2.1]) (fun p=>[tB p.2.2]) (fun p=>p.1) (fun p=>p.2.1<128^(p.1+1)∧p.2.1<2^62∧p.2.2.length+p.1≤6∧p.2.2++vd p.1 p.2.1=vd 6 m) (6,m,[]) rfl rfl ⟨by simp only;omega,by simp only;omega,by simp,rfl⟩ (fun R p hp hR=> ?_)
  obtain ⟨k,m',l⟩:=p
  obtain ⟨p1,p2,p3,p4⟩:=hp
  simp only at p1 p2 p3 p4
  have hcn:cnt 1 (nxc [tB l] 0)=l.length:=vJ l
  simp only [hcn]
  refine I4 (a:=Int.ofNat m') (b:=128) (AT (fun hge=> ?_) fun hlt=> ?_)
  ·have hge:128≤m':=by simp at hge;omega
   cases k with
   | zero=>simp at p1;omega
   | succ k=>
     have h1:(Int.ofNat m').tmod 128=((m' % 128:Nat):Int):=by simp [Int.tmod_eq_emod_of_nonneg]
     refine BK (v:= .int .i64 ((Int.ofNat m').tmod 128)) rfl ?_
     rw [h1]
     refine CW (a:=128) ⟨by omega,by omega⟩ ?_
     refine BK (v:= .int .u8 (IntKind.u8.wrap (128+((m' % 128:Nat):Int)))) rfl ?_
     have h2:IntKind.u8.wrap (128+((m' % 128:Nat):Int))=((128+m' % 128:Nat):Int):=by rw [IntKind.wrap_u8];omega
     rw [h2]
     refine U4 rfl (by simp [cnt];omega) ?_
     have h3:(Int.ofNat m').tdiv 128=((m'/128:Nat):Int):=rfl
     refine BK (v:= .int .i64 (IntKind.i64.wrap ((Int.ofNat m').tdiv 128))) rfl ?_
     rw [h3,K3 ⟨by omega,by omega⟩]
     have:=hR (k,m'/128,l++[128+m' % 128]) ⟨by simp only;rw [Nat.pow_succ] at p1;omega,by simp only;omega,by simp;omega,by simp only;rw [←p4,vd,if_pos hge];simp⟩ (Nat.lt_succ_self k)
     have e9:tB (l++[128+m' % 128])=tB l++[T.c (.int .u8 ((128+m' % 128:Nat):Int))]:=by simp [tB]
     show R [iv (m'/128)] [tB l++[T.c (.int .u8 ((128+m' % 128:Nat):Int))]]
     rw [←e9];exact this
  ·have hlt:m'<128:=by simp at hlt;omega
   refine BK (v:= .int .u8 (IntKind.u8.wrap (Int.ofNat m'))) rfl ?_
   have h2:IntKind.u8.wrap (Int.ofNat m')=(m':Int):=by rw [IntKind.wrap_u8];simp only [Int.ofNat_eq_natCast];omega
   rw [h2]
   refine U4 rfl (by simp [cnt];omega) ?_
   have h4:vd k m'=[m']:=by cases k with | zero=>rfl | succ k=>rw [vd,if_neg (by omega)]
   have h5:nxc [tB l] 0++[T.c (.int .u8 (m':Int))]=tB (vd 6 m):=by rw [←p4,h4];simp [tB,nxc]
   rw [h5,eJ]
   exact BK rfl h
theorem K8 {w0:World} {n:Int} {K:J2} (hn:F64 n) (h:K [.string (V n)] []):cl2 ⟨Tryz.prog,w0⟩ 92 FG.sg [I n] [] K:=by
 refine FG.cl2 ?_
 unfold FG.txt
 refine SY (BP (JI (fun hb=> ?_) fun hb=> ?_))
 ·have hb:inB n 0 562949953421311=false:=by simpa using hb
  rw [V,hb] at h;exact h
 ·have hb:inB n 0 562949953421311=true:=by simpa using hb
  rw [V,if_pos hb] at h
  unfold inB at hb
  simp only [Bool.and_eq_true,decide_eq_true_eq] at hb
  obtain ⟨m,rfl⟩: ∃m:Nat,n=m:=⟨n.toNat,by omega⟩
  rw [Int.toNat_natCast] at h
  refine DK (α:=Nat×Nat×List Nat) (fun p=>[iv p.2.1]) (fun p=>[tB p.2.2]) (fun p=>p.1) (fun p=>p.2.1<128^(p.1+1)∧p.2.1<2^62∧p.2.2.length+p.1≤6∧p.2.2++vd p.1 p.2.1=vd 6 m) (6,m,[]) rfl rfl ⟨by simp only;omega,by simp only;omega,by simp,rfl⟩ (fun R p hp hR=> ?_)
  obtain ⟨k,m',l⟩:=p
  obtain ⟨p1,p2,p3,p4⟩:=hp
  simp only at p1 p2 p3 p4
  have hcn:cnt 1 (nxc [tB l] 0)=l.length:=vJ l
  simp only [hcn]
  refine GN (a:=Int.ofNat m') (b:=127) (AT (fun hge=> ?_) fun hlt=> ?_)
  ·have hge:128≤m':=by simp at hge;omega
   cases k with
   | zero=>simp at p1;omega
   | succ k=>
     have h1:(Int.ofNat m').tmod 128=((m' % 128:Nat):Int):=by simp [Int.tmod_eq_emod_of_nonneg]
     refine BK (v:= .int .i64 ((Int.ofNat m').tmod 128)) rfl ?_
     rw [h1]
     refine CW (b:=128) ⟨by omega,by omega⟩ ?_
     refine BK (v:= .int .u8 (IntKind.u8.wrap (((m' % 128:Nat):Int)+128))) rfl ?_
     have h2:IntKind.u8.wrap (((m' % 128:Nat):Int)+128)=((128+m' % 128:Nat):Int):=by rw [IntKind.wrap_u8];omega
     rw [h2]
     refine U4 rfl (by simp [cnt];omega) ?_
     have h3:(Int.ofNat m').tdiv 128=((m'/128:Nat):Int):=rfl
     refine BK (v:= .int .i64 (IntKind.i64.wrap ((Int.ofNat m').tdiv 128))) rfl ?_
     rw [h3,K3 ⟨by omega,by omega⟩]
     have:=hR (k,m'/128,l++[128+m' % 128]) ⟨by simp only;rw [Nat.pow_succ] at p1;omega,by simp only;omega,by simp;omega,by simp only;rw [←p4,vd,if_pos hge];simp⟩ (Nat.lt_succ_self k)
     have e9:tB (l++[128+m' % 128])=tB l++[T.c (.int .u8 ((128+m' % 128:Nat):Int))]:=by simp [tB]
     show R [iv (m'/128)] [tB l++[T.c (.int .u8 ((128+m' % 128:Nat):Int))]]
     rw [←e9];exact this
  ·have hlt:m'<128:=by simp at hlt;omega
   refine BK (v:= .int .u8 (IntKind.u8.wrap (Int.ofNat m'))) rfl ?_
   have h2:IntKind.u8.wrap (Int.ofNat m')=(m':Int):=by rw [IntKind.wrap_u8];simp only [Int.ofNat_eq_natCast];omega
   rw [h2]
   refine U4 rfl (by simp [cnt];omega) ?_
   have h4:vd k m'=[m']:=by cases k with | zero=>rfl | succ k=>rw [vd,if_neg (by omega)]
   have h5:nxc [tB l] 0++[T.c (.int .u8 (m':Int))]=tB (vd 6 m):=by rw [←p4,h4];simp [tB,nxc]
   rw [h5,eJ]
   exact BK rfl h
attribute [irreducible] V
end Go.Proofs.YtnhicpkhkaihoaaGreat.P
namespace Go.Proofs.YtnhicpkhkaihoaaGreat.P
open Go Go.Proofs.YtnhicpkhkaihoaaGreat Go.Proofs.YtnhicpkhkaihoaaGreat.Eng
set_option linter.unusedVariables false
def zg (n:Int):Int:=if inB n (-100000000000000) 100000000000000 then (if n<0 then -2*n-1 else 2*n) else -1
theorem K5 {n lo hi:Int}:inB n lo hi=true↔lo≤n∧n≤hi:=by simp [inB]
theorem oZ (n:Int):F64 (zg n):=by
 unfold zg;split
 ·rename_i h;rw [K5] at h
  split <;> constructor <;> omega
 ·constructor <;> omega
theorem kV {w0:World} {n:Int} {K:J2} (h:K [I (zg n)] []):cl2 ⟨Tryz.prog,w0⟩ 178 NC.sg [I n] [] K:=by
 refine NC.cl2 (HQ (BP (JI (fun hb=> ?_) fun hb=> ?_)))
 ·have hb:inB n (-100000000000000) 100000000000000=false:=by simpa using hb
  rw [zg,hb] at h;exact h
 ·have hb:inB n (-100000000000000) 100000000000000=true:=by simpa using hb
  rw [zg,if_pos hb] at h
  rw [K5] at hb
  refine AW (AT (fun hl=> ?_) fun hl=> ?_)
  ·rw [if_pos hl] at h
   exact K4 (a:= -2) ⟨by omega,by omega⟩ (DZ (b:=1) ⟨by omega,by omega⟩ h)
  ·rw [if_neg hl] at h
   exact K4 (a:=2) ⟨by omega,by omega⟩ h
theorem mG {w0:World} {n:Int} {K:J2} (h:K [I (zg n)] []):cl2 ⟨Tryz.prog,w0⟩ 151 NG.sg [I n] [] K:=by
 refine NG.cl2 (SY (BP (JI (fun hb=> ?_) fun hb=> ?_)))
 ·have hb:inB n (-100000000000000) 100000000000000=false:=by simpa using hb
  rw [zg,hb] at h;exact h
 ·have hb:inB n (-100000000000000) 100000000000000=true:=by simpa using hb
  rw [zg,if_pos hb] at h
  rw [K5] at hb
  refine AW (AT (fun hl=> ?_) fun hl=> ?_)
  ·rw [if_pos hl] at h
   exact K4 (a:= -2) ⟨by omega,by omega⟩ (DZ (b:=1) ⟨by omega,by omega⟩ h)
  ·rw [if_neg hl] at h
   exact K4 (a:=2) ⟨by omega,by omega⟩ h
def SI (n:Int):ByteArray:=V (zg n)
theorem IZ {w0:World} {n:Int} {K:J2} (h:K [.string (SI n)] []):cl2 ⟨Tryz.prog,w0⟩ 135 D5.sg [I n] [] K:=by
 refine D5.cl2 (kV (AW (AT (fun hl=> ?_) fun hl=>K6 (oZ n) h)))
 have:SI n=⟨#[]⟩:=by
  have hb:inB (zg n) 0 562949953421311=false:=by
   cases hx:inB (zg n) 0 562949953421311
   ·rfl
   ·rw [K5] at hx;omega
  rw [SI,V,hb];rfl
 rw [this] at h;exact h
theorem I0 {w0:World} {n:Int} {K:J2} (h:K [.string (SI n)] []):cl2 ⟨Tryz.prog,w0⟩ 90 DW.sg [I n] [] K:=
 DW.cl2 (mG (K8 (oZ n) h))
def ST (s:ByteArray):ByteArray:=if (s.size:Int)>8 then ⟨#[]⟩ else V s.size++s
theorem XV {w0:World} {s:ByteArray} {K:J2} (h:K [.string (ST s)] []):cl2 ⟨Tryz.prog,w0⟩ 177 HN.sg [.string s] [] K:=by
 refine HN.cl2 (DX (GN (AT (fun hl=> ?_) fun hl=> ?_)))
 ·rw [ST,if_pos hl] at h;exact h
 ·rw [ST,if_neg hl] at h
  have:=H0 s.size
  exact DX (K6 ⟨by omega,by omega⟩ (CH (by omega) h))
theorem XY {w0:World} {s:ByteArray} {K:J2} (h:K [.string (ST s)] []):cl2 ⟨Tryz.prog,w0⟩ 93 HR.sg [.string s] [] K:=by
 refine HR.cl2 (DX (GN (AT (fun hl=> ?_) fun hl=> ?_)))
 ·rw [ST,if_pos hl] at h;exact h
 ·rw [ST,if_neg hl] at h
  have:=H0 s.size
  exact DX (K8 ⟨by omega,by omega⟩ (CH (by omega) h))
theorem fF (s:ByteArray):(ST s).size≤15:=by
 unfold ST;split
 ·exact Nat.zero_le _
 ·have:=H0 s.size
  rw [ByteArray.size_append];omega
theorem bD {a b:ByteArray} {p q:Prop} (h1:a=b→p) (h2:a≠b→q):AV (.bool (a.toList==b.toList)) p q:=
 JI (fun h=>h1 (lY (by simpa using h))) (fun h=>h2 (by rintro rfl;simp at h))
instance :LawfulBEq ByteArray where
 eq_of_beq {a b} h:=by
  cases a;cases b
  have h:_==_:=h
  first | exact congrArg _ (eq_of_beq h) | (simp [BEq.beq,instBEqByteArray.beq] at h;simpa using h) | (simp_all)
 rfl {a}:=by
  cases a
  first | exact beq_self_eq_true (α:=Array UInt8) _ | (show ByteArray.beq _ _=true;unfold ByteArray.beq;simp) | (simp [BEq.beq,ByteArray.beq])
def at_ (l:List ByteArray) (s:ByteArray):Int:=if s∈l then (l.idxOf s:Int) else -1
theorem UP {l:List ByteArray} {s:ByteArray} {i:Nat} (hi:i<l.length) (h1:s∉l.take i) (h2:l[i]≠s):s∉l.take (i+1):=by
 rw [List.take_succ_eq_append_getElem hi]
 simp only [List.mem_append,List.mem_singleton,not_or]
 exact ⟨h1,fun h=>h2 h.symm⟩
theorem oH {l:List ByteArray} {s:ByteArray} {i:Nat} (hi:i<l.length) (h1:s∉l.take i) (h2:l[i]=s):at_ l s=i:=by
 have hm:s∈l:=h2 ▸ List.getElem_mem hi
 rw [at_,if_pos hm]
 have e:l=l.take i++l[i]::l.drop (i+1):=by rw [←List.drop_eq_getElem_cons hi,List.take_append_drop]
 have hx:l.idxOf s=i:=by
  rw [e,List.idxOf_append,if_neg h1,h2,List.idxOf_cons_self]
  simp;omega
 rw [hx]
theorem PG {w0:World} {s:ByteArray} {l:List ByteArray} {K:J2} (hl:(l.length:Int)<2^62) (h:K [I (at_ l s)] []):cl2 ⟨Tryz.prog,w0⟩ 91 ET.sg [.string s] [tS l] K:=by
 refine ET.cl2 ?_
 unfold ET.txt
 simp only [AG]
 refine A8 (fun i=>[.string s,iv l.length,iv i]) (fun _=>[]) l.length (fun i=>s∉l.take i) rfl rfl (by simp) (fun R i hi hP hR=> ?_)
 refine MX (AT (fun hlt=> ?_) fun hge=> ?_)
 ·refine AU hlt (UD hlt (VN (bD (fun he=> ?_) fun hne=> ?_)))
  ·rw [oH hlt hP he] at h;exact h
  ·exact A6 (by omega) (hR hlt (UP hlt hP hne))
 ·have:i=l.length:=by omega
  subst this
  rw [List.take_length] at hP
  rw [at_,if_neg hP] at h;exact h
theorem Q9 {w0:World} {s:ByteArray} {l:List ByteArray} {K:J2} (hl:(l.length:Int)<2^62) (h:K [.bool (decide (s∈l))] []):cl2 ⟨Tryz.prog,w0⟩ 150 GJ.sg [.string s] [tS l] K:=by
 refine GJ.cl2 (PG hl (I4 ?_))
 have:decide (at_ l s≥0)=decide (s∈l):=by
  by_cases hm:s∈l <;> simp [at_,hm]
 rw [this];exact h
theorem RK {w0:World} {n:Value} {l:List ByteArray} {K:J2} (hl:l.length≤2^40) (h:K [n] [tS l]):cl2 ⟨Tryz.prog,w0⟩ 81 EK.sg [n] [tS l] K:=by
 refine EK.cl2 (DD.cl2 (U4 (S8 l) (by rw [AG];omega) ?_))
 exact h
end Go.Proofs.YtnhicpkhkaihoaaGreat.P
