/- A part of the proof. -/
import Derived.Test.YtnhicpkhkaihoaaGreatRcHpA
import Derived.Test.YtnhicpkhkaihoaaGreatRcLawTyNode
import Derived.Test.YtnhicpkhkaihoaaGreatRcRowT
import Derived.Test.YtnhicpkhkaihoaaGreatRcTxtB
namespace Go.Proofs.YtnhicpkhkaihoaaGreat.P
open Go Go.Proofs.YtnhicpkhkaihoaaGreat Go.Proofs.YtnhicpkhkaihoaaGreat.Eng
set_option maxHeartbeats 4000000
set_option linter.unusedVariables false
set_option linter.unusedSimpArgs false
attribute [local irreducible] prP gP gE gF AG ixW ldc ldg ldl stc stg scW mkW apW BB cl2 BY FT DG
variable {w0:World}
structure Gr where
 nodes:List Nd
 B9:List Wk
 sites:List ByteArray
def Ay (o:AZ):Nd:=⟨o.live,o.gen,o.site,o.holds,o.roots,o.field⟩
def zO (h:Hp):Gr:=⟨h.BC.map Ay,h.B9,h.sites⟩
theorem I6 {l:List Int} {K:J2} (hl:(l.length:Int)≤2^40) (h:K [] [tI l]):cl2 ⟨Tryz.prog,w0⟩ 144 CI.sg [] [tI l] K:=by
 refine CI.cl2 ?_
 unfold CI.txt
 simp only [AK,AQ,AN,AP,AS,AE,AI,AU,AL,AV,AT,AM,AR,AO,BF,BM,BL,BI,BK,BJ,BG,A7,A4,A5,A8,A6,A9]
 refine FC (ON l) (by omega) ?_
 rw [List.nil_append];exact h
theorem U8 {l:List ByteArray} {K:J2} (hl:(l.length:Int)≤2^40) (h:K [] [tS l]):cl2 ⟨Tryz.prog,w0⟩ 143 CY.sg [] [tS l] K:=by
 refine CY.cl2 ?_
 unfold CY.txt
 simp only [AK,AQ,AN,AP,AS,AE,AI,AU,AL,AV,AT,AM,AR,AO,BF,BM,BL,BI,BK,BJ,BG,A7,A4,A5,A8,A6,A9]
 refine FC (RZ l) (by omega) ?_
 rw [List.nil_append];exact h
theorem w9 {l:List AZ} {P:AZ→Prop} (h: ∀o∈l,P o) {i:Nat} (hi:i<l.length):P (ob l i):=by rw [←D9 hi];exact h _ (List.getElem_mem hi)
def yJ (g:Gr):Int:=szL kL g.nodes+szL IK g.B9+g.sites.length
structure WA (g:Gr):Prop where
 nl:(g.nodes.length:Int)≤1048576
 nf: ∀o∈g.nodes,(o.field.length:Int)≤1048576
 wl:(g.B9.length:Int)≤1048576
 sl:(g.sites.length:Int)≤1048576
theorem WA.of {h:Hp} (hf:Fits h):WA (zO h):=by
 refine ⟨?_, ?_,hf.wl,hf.sl⟩
 ·simp only [zO,List.length_map];exact hf.ol
 ·intro o ho
  obtain ⟨x,hx,rfl⟩:=List.mem_map.1 ho
  exact hf.of x hx
theorem WA.nodes {g:Gr} (hf:WA g):0≤szL kL g.nodes∧szL kL g.nodes≤2^41:=by
 refine ⟨I1 sA _, ?_⟩
 have h1:=TQ (sz:=kL) (b:=1048581) (l:=g.nodes) fun o ho=>by have:=hf.nf o ho;unfold kL;omega
 have h2:=hf.nl
 have h3:(g.nodes.length:Int)*1048581≤1048576*1048581:=Int.mul_le_mul_of_nonneg_right h2 (by omega)
 omega
theorem WA.B9 {g:Gr} (hf:WA g):0≤szL IK g.B9∧szL IK g.B9≤2^41:=by
 refine ⟨I1 PD _, ?_⟩
 have h1:=TQ (sz:=IK) (b:=2) (l:=g.B9) fun o ho=>by unfold IK;omega
 have h2:=hf.wl
 omega
theorem WA.sz {g:Gr} (hf:WA g):0≤yJ g∧yJ g≤2^43:=by
 have h1:=hf.nodes;have h2:=hf.B9;have h4:=hf.sl
 unfold yJ;omega
end Go.Proofs.YtnhicpkhkaihoaaGreat.P
namespace Go.Proofs.YtnhicpkhkaihoaaGreat.P
open Go Go.Proofs.YtnhicpkhkaihoaaGreat Go.Proofs.YtnhicpkhkaihoaaGreat.Eng
set_option maxHeartbeats 4000000
set_option linter.unusedVariables false
set_option linter.unusedSimpArgs false
attribute [local irreducible] prP gP gE gF AG ixW ldc ldg ldl stc stg scW mkW apW BB cl2 BY FT DG
variable {w0:World}
def PE (id:Int) (o:AZ):Nat:=if o.live=true then o.field.count id else 0
def CG (l:List AZ) (id:Int):Nat:=(l.map (PE id)).sum
def inE (l:List AZ) (s:Int):Int:=if (0≤s∧s≤l.length-1)∧(ob l s.toNat).live=true then CG l (C0 s (ob l s.toNat).gen) else 0
theorem Y7 {l:List AZ} {i:Nat} {id:Int} (hi:i<l.length):CG (l.take (i+1)) id=CG (l.take i) id+PE id (ob l i):=by
 rw [CG,List.take_succ_eq_append_getElem hi,List.map_append,List.sum_append,D9 hi];simp [CG]
theorem ZR {l:List Int} {j:Nat} {id:Int} (hj:j<l.length):(l.take (j+1)).count id=(l.take j).count id+if gI l j=id then 1 else 0:=by
 rw [List.take_succ_eq_append_getElem hj,List.count_append,GG hj,List.count_singleton]
 simp
theorem uZ (id:Int) (o:AZ):PE id o≤o.field.length:=by
 unfold PE;split
 ·exact List.count_le_length
 ·exact Nat.zero_le _
theorem PJ {l:List AZ} {id:Int} {b:Nat} (h: ∀o∈l,o.field.length≤b):CG l id≤l.length*b:=by
 induction l with
 | nil=>simp [CG]
 | cons o l ih=>
   have h1:=ih fun x hx=>h x (by simp [hx])
   have h2:=uZ id o
   have h3:=h o (by simp)
   simp only [CG,List.map_cons,List.sum_cons,List.length_cons,Nat.add_mul,Nat.one_mul] at h1 ⊢
   omega
theorem kZ {l:List AZ} (hf: ∀o∈l,(o.field.length:Int)≤1048576) (i:Nat):((ob l i).field.length:Int)≤1048576:=by
 by_cases hi:i<l.length
 ·rw [←D9 hi];exact hf _ (List.getElem_mem hi)
 ·unfold ob;rw [List.getD_eq_getElem?_getD,List.getElem?_eq_none (by omega)];simp
theorem X6 {a:List AZ} {b c d:List T} {s:Int} {K:J2} (hs:F64 s) (hl:(a.length:Int)≤1048576) (hf: ∀o∈a,(o.field.length:Int)≤1048576) (h:K [I (inE a s)] []):cl2 ⟨Tryz.prog,w0⟩ 176 GL.sg [I s] [tR tO a,b,c,d] K:=by
 obtain ⟨s1,s2⟩:=hs
 refine GL.cl2 ?_
 unfold GL.txt
 simp only [AK,AQ,AN,AP,AS,AE,AI,AU,AL,AV,AT,AM,AR,AO,BF,BM,BL,BI,BK,BJ,BG,A7,A4,A5,A8,A6,A9]
 repeat' (first | refine IH ?_ | refine OC ?_ | refine B2 ?_ | refine NJ (by first | with_reducible assumption | omega) ?_ | refine JG (by first | with_reducible assumption | omega) ?_ | refine EE (by first | with_reducible assumption | omega) rfl ?_ | refine EJ (by first | with_reducible assumption | omega) rfl ?_ | refine B3 ?_ | refine CM ?_ | refine EI ⟨by omega,by omega⟩ ?_ | refine WH (by omega) (by omega) ?_ | refine JF (by omega) (by decide) rfl ?_ | refine MT (by omega) rfl ?_ | refine LD (fun _=> ?_) (fun _=> ?_) | refine JJ (fun _=> ?_) (fun _=> ?_) | refine BP ?_ | simp only [AK,AQ,AN,AP,AS,AE,AI,AU,AL,AV,AT,AM,AR,AO,BF,BM,BL,BI,BK,BJ,BG,A7,A4,A5,A8,A6,A9])
 ·rw [inE,if_neg (by simp_all)] at h;exact h
 ·rename_i hin hlv
  have hin:0≤s∧s≤(a.length:Int)-1:=Decidable.not_not.1 hin
  rw [inE,if_pos ⟨hin,by simpa using hlv⟩] at h
  generalize C0 s (ob a s.toNat).gen=id at h ⊢
  refine AY (fun i=>[I id,I (CG (a.take i) id),iv a.length,iv i]) (fun _=>[]) a.length (fun _=>True) rfl rfl trivial (fun R i hi _ hR=> ?_)
  have he:=PJ (l:=a.take i) (id:=id) (b:=1048576) fun o ho=>by have:=hf o (List.mem_of_mem_take ho);omega
  have hln:(a.take i).length≤a.length:=by simp;omega
  have hmul:(a.take i).length*1048576≤1048576*1048576:=Nat.mul_le_mul_right _ (by omega)
  have hfo:=kZ hf i
  simp only [AK,AQ,AN,AP,AS,AE,AI,AU,AL,AV,AT,AM,AR,AO,BF,BM,BL,BI,BK,BJ,BG,A7,A4,A5,A8,A6,A9]
  refine AJ (AW (fun hlt=> ?_) fun hge=> ?_)
  ·have hlt:i<a.length:=by omega
   replace hR:=hR hlt trivial
   rw [Y7 hlt,PE] at hR
   refine AH hlt (RF hlt ?_)
   rw [I8 hlt,AE]
   refine AY (fun j=>[I id,I ((CG (a.take i) id+(if (ob a i).live=true then ((ob a i).field.take j).count id else 0):Nat):Int),iv a.length,iv i,iv (AA (iv i)*8+6),iv (ob a i).field.length,iv j, .bool (ob a i).live,I (ob a i).gen,I (ob a i).site,I (ob a i).holds,I (ob a i).roots,I (ob a i).count,iv (AA (iv i)*8+6), .bool (ob a i).purple]) (fun _=>[]) (ob a i).field.length (fun _=>True) (by simp only [List.take_zero,List.count_nil,ite_self,Nat.add_zero];rfl) rfl trivial (fun R2 j hj _ hR2=> ?_)
   have hc:((ob a i).field.take j).count id≤j:=Nat.le_trans List.count_le_length (by simp;omega)
   simp only [AK,AQ,AN,AP,AS,AE,AI,AU,AL,AV,AT,AM,AR,AO,BF,BM,BL,BI,BK,BJ,BG,A7,A4,A5,A8,A6,A9]
   refine AJ (AW (fun hlt2=> ?_) fun hge2=> ?_)
   ·have hlt2:j<(ob a i).field.length:=by omega
    replace hR2:=hR2 hlt2 trivial
    rw [ZR hlt2] at hR2
    rw [A1 (AA (iv i)*8+6),I8 hlt,AE]
    refine BV (AH hlt2 (OY hlt hlt2 (B2 (B2 ?_))))
    by_cases hv:(ob a i).live=true
    ·simp only [if_pos hv] at hR2 ⊢
     refine UH hv (BW (xT hv rfl (AW (fun he=> ?_) fun he=> ?_)))
     ·rw [if_pos he] at hR2
      exact CC ⟨by omega,by omega⟩ (AX (by omega) hR2)
     ·rw [if_neg he] at hR2
      exact AX (by omega) hR2
    ·have hv:(ob a i).live=false:=by simpa using hv
     simp only [hv,Bool.false_eq_true,if_false] at hR2 ⊢
     exact QO (oI rfl (BO (AX (by omega) hR2)))
   ·have:j=(ob a i).field.length:=by omega
    subst this
    rw [List.take_length] at hc ⊢
    exact AX (by omega) hR
  ·have:i=a.length:=by omega
   subst this
   rw [List.take_length];exact h
 ·rw [inE,if_neg (by rintro ⟨h1,h2⟩;simp_all)] at h;exact h
theorem Q1 {a:List AZ} {b c d:List T} {s:Int} {K:J2} (hs:F64 s) (hl:(a.length:Int)≤1048576) (hf: ∀o∈a,(o.field.length:Int)≤1048576) (h:K [I (inE a s)] []):cl2 ⟨Tryz.prog,w0⟩ 56 ES.sg [I s] [tR tO a,b,c,d] K:=by
 obtain ⟨s1,s2⟩:=hs
 refine ES.cl2 ?_
 unfold ES.txt
 simp only [AK,AQ,AN,AP,AS,AE,AI,AU,AL,AV,AT,AM,AR,AO,BF,BM,BL,BI,BK,BJ,BG,A7,A4,A5,A8,A6,A9]
 repeat' (first | refine DA ?_ | refine MG ?_ | refine B2 ?_ | refine NJ (by first | with_reducible assumption | omega) ?_ | refine JG (by first | with_reducible assumption | omega) ?_ | refine EE (by first | with_reducible assumption | omega) rfl ?_ | refine EJ (by first | with_reducible assumption | omega) rfl ?_ | refine B3 ?_ | refine CM ?_ | refine EI ⟨by omega,by omega⟩ ?_ | refine WH (by omega) (by omega) ?_ | refine JF (by omega) (by decide) rfl ?_ | refine MT (by omega) rfl ?_ | refine LD (fun _=> ?_) (fun _=> ?_) | refine JJ (fun _=> ?_) (fun _=> ?_) | refine BP ?_ | simp only [AK,AQ,AN,AP,AS,AE,AI,AU,AL,AV,AT,AM,AR,AO,BF,BM,BL,BI,BK,BJ,BG,A7,A4,A5,A8,A6,A9])
 ·rw [inE,if_neg (by simp_all)] at h;exact h
 ·rename_i hin hlv
  have hin:0≤s∧s≤(a.length:Int)-1:=Decidable.not_not.1 hin
  rw [inE,if_pos ⟨hin,by simpa using hlv⟩] at h
  generalize C0 s (ob a s.toNat).gen=id at h ⊢
  refine AY (fun i=>[I (CG (a.take i) id),I id,iv i]) (fun _=>[]) a.length (fun _=>True) rfl rfl trivial (fun R i hi _ hR=> ?_)
  have he:=PJ (l:=a.take i) (id:=id) (b:=1048576) fun o ho=>by have:=hf o (List.mem_of_mem_take ho);omega
  have hln:(a.take i).length≤a.length:=by simp;omega
  have hmul:(a.take i).length*1048576≤1048576*1048576:=Nat.mul_le_mul_right _ (by omega)
  have hfo:=kZ hf i
  simp only [AK,AQ,AN,AP,AS,AE,AI,AU,AL,AV,AT,AM,AR,AO,BF,BM,BL,BI,BK,BJ,BG,A7,A4,A5,A8,A6,A9]
  refine AJ (AW (fun hlt=> ?_) fun hge=> ?_)
  ·have hlt:i<a.length:=by omega
   replace hR:=hR hlt trivial
   rw [Y7 hlt,PE] at hR
   refine AY (fun j=>[I ((CG (a.take i) id+(if (ob a i).live=true then ((ob a i).field.take j).count id else 0):Nat):Int),I id,iv i,iv j]) (fun _=>[]) (ob a i).field.length (fun _=>True) (by simp only [List.take_zero,List.count_nil,ite_self,Nat.add_zero];rfl) rfl trivial (fun R2 j hj _ hR2=> ?_)
   have hc:((ob a i).field.take j).count id≤j:=Nat.le_trans List.count_le_length (by simp;omega)
   refine AH hlt (fG hlt ?_)
   rw [I8 hlt,AE]
   by_cases hv:(ob a i).live=true
   ·simp only [if_pos hv] at hR hR2 ⊢
    refine AJ (B2 (B2 (B2 (NT (fun hlt2=> ?_) fun hge2=> ?_))))
    ·have hlt2':j<(ob a i).field.length:=by
      have:(j:Int)<((ob a i).field.length:Int):=hlt2
      omega
     replace hR2:=hR2 hlt2' trivial
     rw [ZR hlt2'] at hR2
     refine AH hlt (B2 (KQ hlt2 (MT hlt rfl (EE hlt2 rfl (m9 hv (BV (AH hlt (fG hlt ?_))))))))
     rw [I8 hlt,AE]
     refine AH hlt2' (OY hlt hlt2' (BW (AW (fun he=> ?_) fun he=> ?_)))
     ·rw [if_pos he] at hR2
      exact CC ⟨by omega,by omega⟩ (AX (by omega) hR2)
     ·rw [if_neg he] at hR2
      exact AX (by omega) hR2
    ·have:j=(ob a i).field.length:=by
      have: ¬(j:Int)<((ob a i).field.length:Int):=hge2
      omega
     subst this
     rw [List.take_length] at hc ⊢
     exact B2 (QJ hge2 (EJ hge2 rfl (BO (AX (by omega) hR))))
   ·have hv:(ob a i).live=false:=by simpa using hv
    simp only [hv,Bool.false_eq_true,if_false] at hR hR2 ⊢
    refine AJ (B2 (B2 (B2 (NT (fun hlt2=> ?_) fun hge2=> ?_))))
    ·exact AH hlt (B2 (KQ hlt2 (MT hlt (v:= .bool false) (by rw [←hv];rfl) (EE hlt2 rfl (BO (AX (by omega) hR))))))
    ·exact B2 (QJ hge2 (EJ hge2 rfl (BO (AX (by omega) hR))))
  ·have:i=a.length:=by omega
   subst this
   rw [List.take_length];exact h
 ·rw [inE,if_neg (by rintro ⟨h1,h2⟩;simp_all)] at h;exact h
theorem oJ {l:List Int} {i:Nat} {x:Int} (hi:i<l.length) (h:x∉l.take i) (hn:gI l i≠x):x∉l.take (i+1):=by
 rw [List.take_succ_eq_append_getElem hi,GG hi]
 simp only [List.mem_append,List.mem_singleton,not_or]
 exact ⟨h,fun he=>hn he.symm⟩
theorem EZ {l:List Int} {i:Nat} (h:i<l.length):gI l i∈l:=by rw [←GG h];exact List.getElem_mem h
theorem PX {l:List Int} {x:Int} {K:J2} (hl:(l.length:Int)<2^62) (h:K [.bool (decide (x∈l))] []):cl2 ⟨Tryz.prog,w0⟩ 57 GH.sg [I x] [tI l] K:=by
 refine GH.cl2 ?_
 unfold GH.txt
 simp only [AK,AQ,AN,AP,AS,AE,AI,AU,AL,AV,AT,AM,AR,AO,BF,BM,BL,BI,BK,BJ,BG,A7,A4,A5,A8,A6,A9]
 refine AY (fun i=>[I x,iv i]) (fun _=>[]) l.length (fun i=>x∉l.take i) rfl rfl (by simp) (fun R i hi hP hR=> ?_)
 refine AJ (AW (fun hlt=> ?_) fun hge=> ?_)
 ·have hlt:i<l.length:=by omega
  refine AH hlt (ldI hlt (BW (AW (fun he=> ?_) fun he=> ?_)))
  ·rw [decide_eq_true (he ▸ EZ hlt)] at h;exact h
  ·exact AX (by omega) (hR hlt (oJ hlt hP he))
 ·have:i=l.length:=by omega
  subst this
  rw [List.take_length] at hP
  rw [decide_eq_false hP] at h;exact h
attribute [irreducible] inE CG
end Go.Proofs.YtnhicpkhkaihoaaGreat.P
namespace Go.Proofs.YtnhicpkhkaihoaaGreat.P
open Go Go.Proofs.YtnhicpkhkaihoaaGreat Go.Proofs.YtnhicpkhkaihoaaGreat.Eng
set_option linter.unusedVariables false
theorem HL {b:Bool} {q:Prop} (h:q):gE (.bool b) q:=⟨rfl,h⟩
theorem MH {a b:Bool} {m:(Value→Prop)→Prop} {K:Value→Prop} (hm:a=true→ ∀K:Value→Prop,K (.bool b)→m K) (h:K (.bool (a&&b))):gP (.bool a) true m fun t=>prP (pk (.bool a) t (.bool false)) K:=by
 cases a
 ·exact .inr ⟨.inl rfl,BD rfl h⟩
 ·exact .inl ⟨rfl,hm rfl _ (BD rfl (by simpa using h))⟩
theorem mA {a b:Bool} {x:Value} {m1:(Value→Prop)→Prop} {m2:Value→(Value→Prop)→Prop} {K:Value→Prop} (h1:a=true→ ∀K:Value→Prop,K x→m1 K) (h2:a=true→ ∀K:Value→Prop,K (.bool b)→m2 x K) (h:K (.bool (a&&b))):
  gP (.bool a) true m1 fun x=>gP (.bool a) true (m2 x) fun t=>prP (pk (.bool a) t (.bool false)) K:=by
 cases a
 ·exact .inr ⟨.inl rfl, .inr ⟨.inl rfl,BD rfl h⟩⟩
 ·exact .inl ⟨rfl,h1 rfl _ (.inl ⟨rfl,h2 rfl _ (BD rfl (by simpa using h))⟩)⟩
theorem zZ {a b:Bool} {m:(Value→Prop)→Prop} {K:Value→Prop} (hm:a=false→ ∀K:Value→Prop,K (.bool b)→m K) (h:K (.bool (a||b))):gP (.bool a) false m fun t=>prP (pk (.bool a) (.bool true) t) K:=by
 cases a
 ·exact .inl ⟨rfl,hm rfl _ (BD rfl (by simpa using h))⟩
 ·exact .inr ⟨.inl rfl,BD rfl h⟩
theorem Y5 {a b:Bool} {m:(Value→Prop)→Prop} {K:Value→Prop} (hm:a=false→ ∀K:Value→Prop,K (.bool b)→m K) (h:K (.bool (a|| !b))):gP (.bool a) false m fun t=>gP (.bool a) false (prP (un .not t)) fun t=>prP (pk (.bool a) (.bool true) t) K:=by
 cases a
 ·exact .inl ⟨rfl,hm rfl _ (.inl ⟨rfl,BP (BD rfl (by simpa using h))⟩)⟩
 ·exact .inr ⟨.inl rfl, .inr ⟨.inl rfl,BD rfl h⟩⟩
def inB (n lo hi:Int):Bool:=decide (n≥lo)&&decide (n≤hi)
theorem h9 {C:Ctx} {n lo hi:Int} {K:J2} (h:K [.bool (inB n lo hi)] []):BH.txt C (I n) (I lo) (I hi) K:=
 JT (HL (HL (MH (fun _ K hk=>FB hk) h)))
theorem pK {C:Ctx} {n lo hi:Int} {K:J2} (h:K [.bool (inB n lo hi)] []):CA.txt C (I n) (I lo) (I hi) K:=
 JT (HL (HL (MH (fun _ K hk=>FB hk) h)))
theorem G8 {w0:World} {n lo hi:Int} {K:J2} (h:K [.bool (inB n lo hi)] []):cl2 ⟨Tryz.prog,w0⟩ 54 BH.sg [I n,I lo,I hi] [] K:=BH.cl2 (h9 h)
theorem RU {w0:World} {n lo hi:Int} {K:J2} (h:K [.bool (inB n lo hi)] []):cl2 ⟨Tryz.prog,w0⟩ 94 CA.sg [I n,I lo,I hi] [] K:=CA.cl2 (pK h)
def LG (n:Int):Bool:=inB n (-1000000000) 1000000000
theorem IZ {w0:World} {n:Int} {K:J2} (h:K [.bool (LG n)] []):cl2 ⟨Tryz.prog,w0⟩ 149 DR.sg [I n] [] K:=DR.cl2 (RU h)
def eS (a b c d:Int) (s:ByteArray):Bool:=(((LG a&&LG b)&&LG c)&&LG d)&&decide ((s.size:Int)≤8)
theorem V1 {w0:World} {a b c d:Int} {s:ByteArray} {K:J2} (h:K [.bool (eS a b c d s)] []):cl2 ⟨Tryz.prog,w0⟩ 40 F7.sg [I a,I b,I c,I d, .string s] [] K:=
 F7.cl2 (G8 (HL (HL (MH (fun _ K hk=>G8 hk) (HL (HL (MH (fun _ K hk=>G8 hk) (HL (HL (MH (fun _ K hk=>G8 hk) (HL (HL (mA (fun _ K hk=>HE hk) (fun _ K hk=>FB hk) h)))))))))))))
theorem VO {w0:World} {a b c d:Int} {s:ByteArray} {K:J2} (h:K [.bool (eS a b c d s)] []):cl2 ⟨Tryz.prog,w0⟩ 87 GA.sg [I a,I b,I c,I d, .string s] [] K:=
 GA.cl2 (IZ (HL (HL (MH (fun _ K hk=>IZ hk) (HL (HL (MH (fun _ K hk=>IZ hk) (HL (HL (MH (fun _ K hk=>IZ hk) (HL (HL (mA (fun _ K hk=>HE hk) (fun _ K hk=>FB hk) h)))))))))))))
def UO (c v:Int) (l:List Int):Bool:=(inB c 0 6&&LG v&&decide (l.length≤8))&&l.all LG
theorem vK {a b:Nat} {K:Value→Prop} (h:K (.bool (decide (a>b)))):prP (bnI .gtr (iv a) (iv b)) K:=GD (a:=Int.ofNat a) (b:=Int.ofNat b) (by
 have:decide (Int.ofNat a>Int.ofNat b)=decide (a>b):=by simp
 rw [this];exact h)
theorem eC {a b:Nat} {K:Value→Prop} (h:K (.bool (decide (a≤b)))):prP (bnI .leq (iv a) (iv b)) K:=FB (a:=Int.ofNat a) (b:=Int.ofNat b) (by
 have:decide (Int.ofNat a≤Int.ofNat b)=decide (a≤b):=by simp
 rw [this];exact h)
theorem jK {l:List Int} {i:Nat} (hi:i<l.length) (p:Int→Bool):(l.take (i+1)).all p=((l.take i).all p&&p l[i]):=by
 rw [List.take_succ_eq_append_getElem hi];simp only [List.all_append,List.all_cons,List.all_nil,Bool.and_true]
theorem S9 {w0:World} {c v:Int} {l:List Int} {K:J2} (hl:(l.length:Int)<2^62) (h:K [.bool (UO c v l)] []):cl2 ⟨Tryz.prog,w0⟩ 132 DN.sg [I c,I v] [tI l] K:=by
 refine DN.cl2 ?_
 unfold DN.txt
 simp only [AE]
 refine G8 (BP (HL (HL (Y5 (fun _ K hk=>G8 hk) (HL (HL (HL (zZ (fun _ K hk=>vK (b:=8) hk) (JJ (fun hb=> ?_) fun hb=> ?_)))))))))
 ·have:UO c v l=false:=by
   unfold UO LG
   revert hb
   cases inB c 0 6 <;> cases inB v (-1000000000) 1000000000 <;> simp
   intro h1 h2;omega
  rw [this] at h;exact h
 ·have hh:(inB c 0 6&&LG v&&decide (l.length≤8))=true:=by
   unfold LG
   revert hb
   cases inB c 0 6 <;> cases inB v (-1000000000) 1000000000 <;> simp
  refine AY (fun i=>[iv i,I c,I v]) (fun _=>[]) l.length (fun i=>(l.take i).all LG=true) rfl rfl rfl (fun R i hi hP hR=> ?_)
  refine IS (AW (fun hlt=> ?_) fun hge=> ?_)
  ·refine AH hlt (O3 hlt (G8 (BP (JJ (fun hb=> ?_) fun hb=> ?_))))
   ·have:l.all LG=false:=by
     rw [List.all_eq_false];exact ⟨l[i],List.getElem_mem hlt,by unfold LG;simpa using hb⟩
    rw [UO,hh,this] at h;exact h
   ·exact AX (by omega) (hR hlt (by rw [jK hlt,hP];unfold LG;simpa using hb))
  ·have:i=l.length:=by omega
   subst this
   rw [List.take_length] at hP
   rw [UO,hh,hP] at h;exact h
theorem TY {w0:World} {c v:Int} {l:List Int} {K:J2} (hl:(l.length:Int)<2^62) (h:K [.bool (UO c v l)] []):cl2 ⟨Tryz.prog,w0⟩ 88 D7.sg [I c,I v] [tI l] K:=by
 refine D7.cl2 ?_
 unfold D7.txt
 simp only [AE]
 refine AY (fun i=>[iv l.length,iv i,I c,I v]) (fun _=>[]) l.length (fun i=>(l.take i).all LG=true) rfl rfl rfl (fun R i hi hP hR=> ?_)
 refine IS (AW (fun hlt=> ?_) fun hge=> ?_)
 ·refine AH hlt (O3 hlt (IZ (BP (JJ (fun hb=> ?_) fun hb=> ?_))))
  ·have:l.all LG=false:=by
    rw [List.all_eq_false];exact ⟨l[i],List.getElem_mem hlt,by simpa using hb⟩
   rw [UO,this,Bool.and_false] at h;exact h
  ·exact AX (by omega) (hR hlt (by rw [jK hlt,hP];simpa using hb))
 ·have:i=l.length:=by omega
  subst this
  rw [List.take_length] at hP
  refine RU (HL (HL (MH (fun _ K hk=>IZ hk) (HL (HL (HL (MH (fun _ K hk=>eC (b:=8) hk) ?_)))))))
  rw [UO,hP,Bool.and_true] at h;exact h
end Go.Proofs.YtnhicpkhkaihoaaGreat.P
namespace Go.Proofs.YtnhicpkhkaihoaaGreat.P
open Go Go.Proofs.YtnhicpkhkaihoaaGreat Go.Proofs.YtnhicpkhkaihoaaGreat.Eng
set_option linter.unusedVariables false
def tB (l:List Nat):List T:=l.map fun (b:Nat)=> .c (.int .u8 (b:Int))
def GY (l:List Nat):ByteArray:=l.foldl (fun b n=>b.push (UInt8.ofNat n)) ByteArray.empty
theorem dM (l:List Nat):b2T (tB l)=some (.string (GY l)):=by
 have h1:(tB l).all QE=true:=by simp [tB,QE]
 have h2: ∀(l:List Nat) (b:ByteArray),(tB l).foldl jL b=l.foldl (fun b n=>b.push (UInt8.ofNat n)) b:=by
  intro l
  induction l with
  | nil=>intro b;rfl
  | cons a l ih=>intro b;exact ih _
 simp only [b2T,h1,if_true,h2];rfl
theorem Q6 (l:List Nat):(GY l).size=l.length:=by
 have: ∀(l:List Nat) (b:ByteArray),(l.foldl (fun b n=>b.push (UInt8.ofNat n)) b).size=b.size+l.length:=by
  intro l
  induction l with
  | nil=>intro b;rfl
  | cons a l ih=>intro b;rw [List.foldl_cons,ih,ByteArray.size_push,List.length_cons];omega
 rw [GY,this];simp
def vd:Nat→Nat→List Nat
 | 0,n=>[n]
 | k+1,n=>if n≥128 then (128+n % 128)::vd k (n/128) else [n]
theorem sD: ∀k n,(vd k n).length≤k+1
 | 0,n=>by simp [vd]
 | k+1,n=>by
   unfold vd;split
   ·have:=sD k (n/128);simp only [List.length_cons];omega
   ·simp
def V (n:Int):ByteArray:=if inB n 0 562949953421311 then GY (vd 6 n.toNat) else ⟨#[]⟩
theorem HI (n:Int):(V n).size≤7:=by
 unfold V;split
 ·rw [Q6];exact sD 6 _
 ·exact Nat.zero_le _
theorem rZ (l:List Nat):cnt 1 (tB l)=l.length:=by simp [cnt,tB]
theorem UX {c:List T} {n m b:Nat} {q:Prop} (hf:flat c=true) (hn:(n+m)*b≤2^47) (h:q):apW c true n m b q:=⟨fun _=>hf,hn,h⟩
theorem KF {w0:World} {n:Int} {K:J2} (hn:F64 n) (h:K [.string (V n)] []):cl2 ⟨Tryz.prog,w0⟩ 136 EC.sg [I n] [] K:=by
 refine EC.cl2 ?_
 unfold EC.txt
 refine G8 (BP (JJ (fun hb=> ?_) fun hb=> ?_))
 ·have hb:inB n 0 562949953421311=false:=by simpa using hb
  rw [V,hb] at h;exact h
 ·have hb:inB n 0 562949953421311=true:=by simpa using hb
  rw [V,if_pos hb] at h
  unfold inB at hb
  simp only [Bool.and_eq_true,decide_eq_true_eq] at hb
  obtain ⟨m,rfl⟩: ∃m:Nat,n=m:=⟨n.toNat,by omega⟩
  rw [Int.toNat_natCast] at h
  refine DX (α:=Nat×Nat×List Nat) (fun p=>[iv p.2.1]) (fun p=>[tB p.2.2]) (fun p=>p.1) (fun p=>p.2.1<128^(p.1+1)∧p.2.1<2^62∧p.2.2.length+p.1≤6∧p.2.2++vd p.1 p.2.1=vd 6 m) (6,m,[]) rfl rfl ⟨by simp only;omega,by simp only;omega,by simp,rfl⟩ (fun R p hp hR=> ?_)
  obtain ⟨k,m',l⟩:=p
  obtain ⟨p1,p2,p3,p4⟩:=hp
  simp only at p1 p2 p3 p4
  have hcn:cnt 1 (nxc [tB l] 0)=l.length:=rZ l
  simp only [hcn]
  refine JT (a:=Int.ofNat m') (b:=128) (AW (fun hge=> ?_) fun hlt=> ?_)
  ·have hge:128≤m':=by simp at hge;omega
   cases k with
   | zero=>simp at p1;omega
   | succ k=>
     have h1:(Int.ofNat m').tmod 128=((m' % 128:Nat):Int):=by simp [Int.tmod_eq_emod_of_nonneg]
     refine BD (v:= .int .i64 ((Int.ofNat m').tmod 128)) rfl ?_
     rw [h1]
     refine CC (a:=128) ⟨by omega,by omega⟩ ?_
     refine BD (v:= .int .u8 (IntKind.u8.wrap (128+((m' % 128:Nat):Int)))) rfl ?_
     have h2:IntKind.u8.wrap (128+((m' % 128:Nat):Int))=((128+m' % 128:Nat):Int):=by rw [IntKind.wrap_u8];omega
     rw [h2]
     refine UX rfl (by simp [cnt];omega) ?_
     have h3:(Int.ofNat m').tdiv 128=((m'/128:Nat):Int):=rfl
     refine BD (v:= .int .i64 (IntKind.i64.wrap ((Int.ofNat m').tdiv 128))) rfl ?_
     rw [h3,LX ⟨by omega,by omega⟩]
     have:=hR (k,m'/128,l++[128+m' % 128]) ⟨by simp only;rw [Nat.pow_succ] at p1;omega,by simp only;omega,by simp;omega,by simp only;rw [←p4,vd,if_pos hge];simp⟩ (Nat.lt_succ_self k)
     have e9:tB (l++[128+m' % 128])=tB l++[T.c (.int .u8 ((128+m' % 128:Nat):Int))]:=by simp [tB]
     show R [iv (m'/128)] [tB l++[T.c (.int .u8 ((128+m' % 128:Nat):Int))]]
     rw [←e9];exact this
  ·have hlt:m'<128:=by simp at hlt;omega
   refine BD (v:= .int .u8 (IntKind.u8.wrap (Int.ofNat m'))) rfl ?_
   have h2:IntKind.u8.wrap (Int.ofNat m')=(m':Int):=by rw [IntKind.wrap_u8];simp only [Int.ofNat_eq_natCast];omega
   rw [h2]
   refine UX rfl (by simp [cnt];omega) ?_
   have h4:vd k m'=[m']:=by cases k with | zero=>rfl | succ k=>rw [vd,if_neg (by omega)]
   have h5:nxc [tB l] 0++[T.c (.int .u8 (m':Int))]=tB (vd 6 m):=by rw [←p4,h4];simp [tB,nxc]
   rw [h5,dM]
   exact BD rfl h
theorem KG {w0:World} {n:Int} {K:J2} (hn:F64 n) (h:K [.string (V n)] []):cl2 ⟨Tryz.prog,w0⟩ 92 EM.sg [I n] [] K:=by
 refine EM.cl2 ?_
 unfold EM.txt
 refine RU (BP (JJ (fun hb=> ?_) fun hb=> ?_))
 ·have hb:inB n 0 562949953421311=false:=by simpa using hb
  rw [V,hb] at h;exact h
 ·have hb:inB n 0 562949953421311=true:=by simpa using hb
  rw [V,if_pos hb] at h
  unfold inB at hb
  simp only [Bool.and_eq_true,decide_eq_true_eq] at hb
  obtain ⟨m,rfl⟩: ∃m:Nat,n=m:=⟨n.toNat,by omega⟩
  rw [Int.toNat_natCast] at h
  refine DX (α:=Nat×Nat×List Nat) (fun p=>[iv p.2.1]) (fun p=>[tB p.2.2]) (fun p=>p.1) (fun p=>p.2.1<128^(p.1+1)∧p.2.1<2^62∧p.2.2.length+p.1≤6∧p.2.2++vd p.1 p.2.1=vd 6 m) (6,m,[]) rfl rfl ⟨by simp only;omega,by simp only;omega,by simp,rfl⟩ (fun R p hp hR=> ?_)
  obtain ⟨k,m',l⟩:=p
  obtain ⟨p1,p2,p3,p4⟩:=hp
  simp only at p1 p2 p3 p4
  have hcn:cnt 1 (nxc [tB l] 0)=l.length:=rZ l
  simp only [hcn]
  refine GD (a:=Int.ofNat m') (b:=127) (AW (fun hge=> ?_) fun hlt=> ?_)
  ·have hge:128≤m':=by simp at hge;omega
   cases k with
   | zero=>simp at p1;omega
   | succ k=>
     have h1:(Int.ofNat m').tmod 128=((m' % 128:Nat):Int):=by simp [Int.tmod_eq_emod_of_nonneg]
     refine BD (v:= .int .i64 ((Int.ofNat m').tmod 128)) rfl ?_
     rw [h1]
     refine CC (b:=128) ⟨by omega,by omega⟩ ?_
     refine BD (v:= .int .u8 (IntKind.u8.wrap (((m' % 128:Nat):Int)+128))) rfl ?_
     have h2:IntKind.u8.wrap (((m' % 128:Nat):Int)+128)=((128+m' % 128:Nat):Int):=by rw [IntKind.wrap_u8];omega
     rw [h2]
     refine UX rfl (by simp [cnt];omega) ?_
     have h3:(Int.ofNat m').tdiv 128=((m'/128:Nat):Int):=rfl
     refine BD (v:= .int .i64 (IntKind.i64.wrap ((Int.ofNat m').tdiv 128))) rfl ?_
     rw [h3,LX ⟨by omega,by omega⟩]
     have:=hR (k,m'/128,l++[128+m' % 128]) ⟨by simp only;rw [Nat.pow_succ] at p1;omega,by simp only;omega,by simp;omega,by simp only;rw [←p4,vd,if_pos hge];simp⟩ (Nat.lt_succ_self k)
     have e9:tB (l++[128+m' % 128])=tB l++[T.c (.int .u8 ((128+m' % 128:Nat):Int))]:=by simp [tB]
     show R [iv (m'/128)] [tB l++[T.c (.int .u8 ((128+m' % 128:Nat):Int))]]
     rw [←e9];exact this
  ·have hlt:m'<128:=by simp at hlt;omega
   refine BD (v:= .int .u8 (IntKind.u8.wrap (Int.ofNat m'))) rfl ?_
   have h2:IntKind.u8.wrap (Int.ofNat m')=(m':Int):=by rw [IntKind.wrap_u8];simp only [Int.ofNat_eq_natCast];omega
   rw [h2]
   refine UX rfl (by simp [cnt];omega) ?_
   have h4:vd k m'=[m']:=by cases k with | zero=>rfl | succ k=>rw [vd,if_neg (by omega)]
   have h5:nxc [tB l] 0++[T.c (.int .u8 (m':Int))]=tB (vd 6 m):=by rw [←p4,h4];simp [tB,nxc]
   rw [h5,dM]
   exact BD rfl h
attribute [irreducible] V
end Go.Proofs.YtnhicpkhkaihoaaGreat.P
namespace Go.Proofs.YtnhicpkhkaihoaaGreat.P
open Go Go.Proofs.YtnhicpkhkaihoaaGreat Go.Proofs.YtnhicpkhkaihoaaGreat.Eng
set_option linter.unusedVariables false
def zg (n:Int):Int:=if inB n (-100000000000000) 100000000000000 then (if n<0 then -2*n-1 else 2*n) else -1
theorem P6 {n lo hi:Int}:inB n lo hi=true↔lo≤n∧n≤hi:=by simp [inB]
theorem m7 (n:Int):F64 (zg n):=by
 unfold zg;split
 ·rename_i h;rw [P6] at h
  split <;> constructor <;> omega
 ·constructor <;> omega
theorem kX {w0:World} {n:Int} {K:J2} (h:K [I (zg n)] []):cl2 ⟨Tryz.prog,w0⟩ 178 ME.sg [I n] [] K:=by
 refine ME.cl2 (G8 (BP (JJ (fun hb=> ?_) fun hb=> ?_)))
 ·have hb:inB n (-100000000000000) 100000000000000=false:=by simpa using hb
  rw [zg,hb] at h;exact h
 ·have hb:inB n (-100000000000000) 100000000000000=true:=by simpa using hb
  rw [zg,if_pos hb] at h
  rw [P6] at hb
  refine AJ (AW (fun hl=> ?_) fun hl=> ?_)
  ·rw [if_pos hl] at h
   exact OI (a:= -2) ⟨by omega,by omega⟩ (EI (b:=1) ⟨by omega,by omega⟩ h)
  ·rw [if_neg hl] at h
   exact OI (a:=2) ⟨by omega,by omega⟩ h
theorem kU {w0:World} {n:Int} {K:J2} (h:K [I (zg n)] []):cl2 ⟨Tryz.prog,w0⟩ 151 L7.sg [I n] [] K:=by
 refine L7.cl2 (RU (BP (JJ (fun hb=> ?_) fun hb=> ?_)))
 ·have hb:inB n (-100000000000000) 100000000000000=false:=by simpa using hb
  rw [zg,hb] at h;exact h
 ·have hb:inB n (-100000000000000) 100000000000000=true:=by simpa using hb
  rw [zg,if_pos hb] at h
  rw [P6] at hb
  refine AJ (AW (fun hl=> ?_) fun hl=> ?_)
  ·rw [if_pos hl] at h
   exact OI (a:= -2) ⟨by omega,by omega⟩ (EI (b:=1) ⟨by omega,by omega⟩ h)
  ·rw [if_neg hl] at h
   exact OI (a:=2) ⟨by omega,by omega⟩ h
def SI (n:Int):ByteArray:=V (zg n)
theorem II {w0:World} {n:Int} {K:J2} (h:K [.string (SI n)] []):cl2 ⟨Tryz.prog,w0⟩ 135 DI.sg [I n] [] K:=by
 refine DI.cl2 (kX (AJ (AW (fun hl=> ?_) fun hl=>KF (m7 n) h)))
 have:SI n=⟨#[]⟩:=by
  have hb:inB (zg n) 0 562949953421311=false:=by
   cases hx:inB (zg n) 0 562949953421311
   ·rfl
   ·rw [P6] at hx;omega
  rw [SI,V,hb];rfl
 rw [this] at h;exact h
theorem IE {w0:World} {n:Int} {K:J2} (h:K [.string (SI n)] []):cl2 ⟨Tryz.prog,w0⟩ 90 DL.sg [I n] [] K:=
 DL.cl2 (kU (KG (m7 n) h))
def ST (s:ByteArray):ByteArray:=if (s.size:Int)>8 then ⟨#[]⟩ else V s.size++s
theorem WW {w0:World} {s:ByteArray} {K:J2} (h:K [.string (ST s)] []):cl2 ⟨Tryz.prog,w0⟩ 177 G6.sg [.string s] [] K:=by
 refine G6.cl2 (HE (GD (AW (fun hl=> ?_) fun hl=> ?_)))
 ·rw [ST,if_pos hl] at h;exact h
 ·rw [ST,if_neg hl] at h
  have:=HI s.size
  exact HE (KF ⟨by omega,by omega⟩ (B8 (by omega) h))
theorem XF {w0:World} {s:ByteArray} {K:J2} (h:K [.string (ST s)] []):cl2 ⟨Tryz.prog,w0⟩ 93 G7.sg [.string s] [] K:=by
 refine G7.cl2 (HE (GD (AW (fun hl=> ?_) fun hl=> ?_)))
 ·rw [ST,if_pos hl] at h;exact h
 ·rw [ST,if_neg hl] at h
  have:=HI s.size
  exact HE (KG ⟨by omega,by omega⟩ (B8 (by omega) h))
theorem fU (s:ByteArray):(ST s).size≤15:=by
 unfold ST;split
 ·exact Nat.zero_le _
 ·have:=HI s.size
  rw [ByteArray.size_append];omega
theorem ZL {a b:ByteArray} {p q:Prop} (h1:a=b→p) (h2:a≠b→q):AG (.bool (a.toList==b.toList)) p q:=
 JJ (fun h=>h1 (dU (by simpa using h))) (fun h=>h2 (by rintro rfl;simp at h))
instance :LawfulBEq ByteArray where
 eq_of_beq {a b} h:=by
  cases a;cases b
  have h:_==_:=h
  first | exact congrArg _ (eq_of_beq h) | (simp [BEq.beq,instBEqByteArray.beq] at h;simpa using h) | (simp_all)
 rfl {a}:=by
  cases a
  first | exact beq_self_eq_true (α:=Array UInt8) _ | (show ByteArray.beq _ _=true;unfold ByteArray.beq;simp) | (simp [BEq.beq,ByteArray.beq])
def at_ (l:List ByteArray) (s:ByteArray):Int:=if s∈l then (l.idxOf s:Int) else -1
theorem TE {l:List ByteArray} {s:ByteArray} {i:Nat} (hi:i<l.length) (h1:s∉l.take i) (h2:l[i]≠s):s∉l.take (i+1):=by
 rw [List.take_succ_eq_append_getElem hi]
 simp only [List.mem_append,List.mem_singleton,not_or]
 exact ⟨h1,fun h=>h2 h.symm⟩
theorem mZ {l:List ByteArray} {s:ByteArray} {i:Nat} (hi:i<l.length) (h1:s∉l.take i) (h2:l[i]=s):at_ l s=i:=by
 have hm:s∈l:=h2 ▸ List.getElem_mem hi
 rw [at_,if_pos hm]
 have e:l=l.take i++l[i]::l.drop (i+1):=by rw [←List.drop_eq_getElem_cons hi,List.take_append_drop]
 have hx:l.idxOf s=i:=by
  rw [e,List.idxOf_append,if_neg h1,h2,List.idxOf_cons_self]
  simp;omega
 rw [hx]
theorem OS {w0:World} {s:ByteArray} {l:List ByteArray} {K:J2} (hl:(l.length:Int)<2^62) (h:K [I (at_ l s)] []):cl2 ⟨Tryz.prog,w0⟩ 91 ED.sg [.string s] [tS l] K:=by
 refine ED.cl2 ?_
 unfold ED.txt
 simp only [AI]
 refine AY (fun i=>[.string s,iv l.length,iv i]) (fun _=>[]) l.length (fun i=>s∉l.take i) rfl rfl (by simp) (fun R i hi hP hR=> ?_)
 refine IS (AW (fun hlt=> ?_) fun hge=> ?_)
 ·refine AH hlt (OU hlt (UN (ZL (fun he=> ?_) fun hne=> ?_)))
  ·rw [mZ hlt hP he] at h;exact h
  ·exact AX (by omega) (hR hlt (TE hlt hP hne))
 ·have:i=l.length:=by omega
  subst this
  rw [List.take_length] at hP
  rw [at_,if_neg hP] at h;exact h
theorem YO {w0:World} {s:ByteArray} {l:List ByteArray} {K:J2} (hl:(l.length:Int)<2^62) (h:K [.bool (decide (s∈l))] []):cl2 ⟨Tryz.prog,w0⟩ 150 HU.sg [.string s] [tS l] K:=by
 refine HU.cl2 (OS hl (JT ?_))
 have:decide (at_ l s≥0)=decide (s∈l):=by
  by_cases hm:s∈l <;> simp [at_,hm]
 rw [this];exact h
theorem ZI {w0:World} {n:Value} {l:List ByteArray} {K:J2} (hl:l.length≤2^40) (h:K [n] [tS l]):cl2 ⟨Tryz.prog,w0⟩ 81 H2.sg [n] [tS l] K:=by
 refine H2.cl2 (CY.cl2 (UX (RZ l) (by rw [AI];omega) ?_))
 exact h
end Go.Proofs.YtnhicpkhkaihoaaGreat.P
