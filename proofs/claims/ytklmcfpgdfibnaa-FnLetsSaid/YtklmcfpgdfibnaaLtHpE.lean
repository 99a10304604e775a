/- A part of the proof. -/
import Derived.Test.YtklmcfpgdfibnaaLtLawTyNode
import Derived.Test.YtklmcfpgdfibnaaLtRowT
import Derived.Test.YtklmcfpgdfibnaaLtTxtB
namespace Go.Proofs.Ytklmcfpgdfibnaa.P
open Go Go.Proofs.Ytklmcfpgdfibnaa Go.Proofs.Ytklmcfpgdfibnaa.Eng
set_option maxHeartbeats 4000000
set_option linter.unusedVariables false
set_option linter.unusedSimpArgs false
attribute [local irreducible] prP gP gE gF AX ixW ldc ldg ldl stc stg scW mkW apW BL cl2 BS EB B8
variable {w0:World}
structure Gr where
 nodes:List Nd
 B2:List Wk
 sites:List ByteArray
def vE (o:AV):Nd:=⟨o.live,o.gen,o.site,o.holds,o.roots,o.field⟩
def sT (h:Hp):Gr:=⟨h.AU.map vE,h.B2,h.sites⟩
theorem HO {l:List Int} {K:J2} (hl:(l.length:Int)≤2^40) (h:K [] [tI l]):cl2 ⟨Try.prog,w0⟩ 141 CG.sg [] [tI l] K:=by
 refine CG.cl2 ?_
 unfold CG.txt
 simp only [AG,AQ,AP,AN,AI,AD,AE,AL,AO,AK,AM,AJ,AR,AH,BC,BI,BF,BH,BJ,BG,BD,AZ,A4,A6,A8,A7,A5]
 refine EJ (L4 l) (by omega) ?_
 rw [List.nil_append];exact h
theorem S5 {l:List ByteArray} {K:J2} (hl:(l.length:Int)≤2^40) (h:K [] [tS l]):cl2 ⟨Try.prog,w0⟩ 142 D6.sg [] [tS l] K:=by
 refine D6.cl2 ?_
 unfold D6.txt
 simp only [AG,AQ,AP,AN,AI,AD,AE,AL,AO,AK,AM,AJ,AR,AH,BC,BI,BF,BH,BJ,BG,BD,AZ,A4,A6,A8,A7,A5]
 refine EJ (ZB l) (by omega) ?_
 rw [List.nil_append];exact h
theorem pY {l:List AV} {P:AV→Prop} (h: ∀o∈l,P o) {i:Nat} (hi:i<l.length):P (ob l i):=by rw [←DN hi];exact h _ (List.getElem_mem hi)
def qY (g:Gr):Int:=szL dR g.nodes+szL TU g.B2+g.sites.length
structure TC (g:Gr):Prop where
 nl:(g.nodes.length:Int)≤1048576
 nf: ∀o∈g.nodes,(o.field.length:Int)≤1048576
 wl:(g.B2.length:Int)≤1048576
 sl:(g.sites.length:Int)≤1048576
theorem TC.of {h:Hp} (hf:Fits h):TC (sT h):=by
 refine ⟨?_, ?_,hf.wl,hf.sl⟩
 ·simp only [sT,List.length_map];exact hf.ol
 ·intro o ho
  obtain ⟨x,hx,rfl⟩:=List.mem_map.1 ho
  exact hf.of x hx
theorem TC.nodes {g:Gr} (hf:TC g):0≤szL dR g.nodes∧szL dR g.nodes≤2^41:=by
 refine ⟨RX mH _, ?_⟩
 have h1:=WJ (sz:=dR) (b:=1048581) (l:=g.nodes) fun o ho=>by have:=hf.nf o ho;unfold dR;omega
 have h2:=hf.nl
 have h3:(g.nodes.length:Int)*1048581≤1048576*1048581:=Int.mul_le_mul_of_nonneg_right h2 (by omega)
 omega
theorem TC.B2 {g:Gr} (hf:TC g):0≤szL TU g.B2∧szL TU g.B2≤2^41:=by
 refine ⟨RX aH _, ?_⟩
 have h1:=WJ (sz:=TU) (b:=2) (l:=g.B2) fun o ho=>by unfold TU;omega
 have h2:=hf.wl
 omega
theorem TC.sz {g:Gr} (hf:TC g):0≤qY g∧qY g≤2^43:=by
 have h1:=hf.nodes;have h2:=hf.B2;have h4:=hf.sl
 unfold qY;omega
end Go.Proofs.Ytklmcfpgdfibnaa.P
namespace Go.Proofs.Ytklmcfpgdfibnaa.P
open Go Go.Proofs.Ytklmcfpgdfibnaa Go.Proofs.Ytklmcfpgdfibnaa.Eng
set_option maxHeartbeats 4000000
set_option linter.unusedVariables false
set_option linter.unusedSimpArgs false
attribute [local irreducible] prP gP gE gF AX ixW ldc ldg ldl stc stg scW mkW apW BL cl2 BS EB B8
variable {w0:World}
def MT (id:Int) (o:AV):Nat:=if o.live=true then o.field.count id else 0
def CE (l:List AV) (id:Int):Nat:=(l.map (MT id)).sum
def inE (l:List AV) (s:Int):Int:=if (0≤s∧s≤l.length-1)∧(ob l s.toNat).live=true then CE l (CL s (ob l s.toNat).gen) else 0
theorem WL {l:List AV} {i:Nat} {id:Int} (hi:i<l.length):CE (l.take (i+1)) id=CE (l.take i) id+MT id (ob l i):=by
 rw [CE,List.take_succ_eq_append_getElem hi,List.map_append,List.sum_append,DN hi];simp [CE]
theorem VB {l:List Int} {j:Nat} {id:Int} (hj:j<l.length):(l.take (j+1)).count id=(l.take j).count id+if gI l j=id then 1 else 0:=by
 rw [List.take_succ_eq_append_getElem hj,List.count_append,EM hj,List.count_singleton]
 simp
theorem oQ (id:Int) (o:AV):MT id o≤o.field.length:=by
 unfold MT;split
 ·exact List.count_le_length
 ·exact Nat.zero_le _
theorem MS {l:List AV} {id:Int} {b:Nat} (h: ∀o∈l,o.field.length≤b):CE l id≤l.length*b:=by
 induction l with
 | nil=>simp [CE]
 | cons o l ih=>
   have h1:=ih fun x hx=>h x (by simp [hx])
   have h2:=oQ id o
   have h3:=h o (by simp)
   simp only [CE,List.map_cons,List.sum_cons,List.length_cons,Nat.add_mul,Nat.one_mul] at h1 ⊢
   omega
theorem ZK {l:List AV} (hf: ∀o∈l,(o.field.length:Int)≤1048576) (i:Nat):((ob l i).field.length:Int)≤1048576:=by
 by_cases hi:i<l.length
 ·rw [←DN hi];exact hf _ (List.getElem_mem hi)
 ·unfold ob;rw [List.getD_eq_getElem?_getD,List.getElem?_eq_none (by omega)];simp
theorem PC {a:List AV} {b c d:List T} {s:Int} {K:J2} (hs:F64 s) (hl:(a.length:Int)≤1048576) (hf: ∀o∈a,(o.field.length:Int)≤1048576) (h:K [I (inE a s)] []):cl2 ⟨Try.prog,w0⟩ 100 EA.sg [I s] [tR tO a,b,c,d] K:=by
 obtain ⟨s1,s2⟩:=hs
 refine EA.cl2 ?_
 unfold EA.txt
 simp only [AG,AQ,AP,AN,AI,AD,AE,AL,AO,AK,AM,AJ,AR,AH,BC,BI,BF,BH,BJ,BG,BD,AZ,A4,A6,A8,A7,A5]
 repeat' (first | refine GF ?_ | refine JA ?_ | refine BM ?_ | refine H7 (by first | with_reducible assumption | omega) ?_ | refine F9 (by first | with_reducible assumption | omega) ?_ | refine CX (by first | with_reducible assumption | omega) rfl ?_ | refine C4 (by first | with_reducible assumption | omega) rfl ?_ | refine BZ ?_ | refine DH ?_ | refine HV ⟨by omega,by omega⟩ ?_ | refine O5 (by omega) (by omega) ?_ | refine GU (by omega) (by decide) rfl ?_ | refine KC (by omega) rfl ?_ | refine JV (fun _=> ?_) (fun _=> ?_) | refine SQ (fun _=> ?_) (fun _=> ?_) | refine B5 ?_ | simp only [AG,AQ,AP,AN,AI,AD,AE,AL,AO,AK,AM,AJ,AR,AH,BC,BI,BF,BH,BJ,BG,BD,AZ,A4,A6,A8,A7,A5])
 ·rw [inE,if_neg (by simp_all)] at h;exact h
 ·rename_i hin hlv
  have hin:0≤s∧s≤(a.length:Int)-1:=Decidable.not_not.1 hin
  rw [inE,if_pos ⟨hin,by simpa using hlv⟩] at h
  generalize CL s (ob a s.toNat).gen=id at h ⊢
  refine BK (fun i=>[I id,I (CE (a.take i) id),iv a.length,iv i]) (fun _=>[]) a.length (fun _=>True) rfl rfl trivial (fun R i hi _ hR=> ?_)
  have he:=MS (l:=a.take i) (id:=id) (b:=1048576) fun o ho=>by have:=hf o (List.mem_of_mem_take ho);omega
  have hln:(a.take i).length≤a.length:=by simp;omega
  have hmul:(a.take i).length*1048576≤1048576*1048576:=Nat.mul_le_mul_right _ (by omega)
  have hfo:=ZK hf i
  simp only [AG,AQ,AP,AN,AI,AD,AE,AL,AO,AK,AM,AJ,AR,AH,BC,BI,BF,BH,BJ,BG,BD,AZ,A4,A6,A8,A7,A5]
  refine AY (AW (fun hlt=> ?_) fun hge=> ?_)
  ·have hlt:i<a.length:=by omega
   replace hR:=hR hlt trivial
   rw [WL hlt,MT] at hR
   refine AT hlt (MH hlt ?_)
   rw [G6 hlt,AD]
   refine BK (fun j=>[I id,I ((CE (a.take i) id+(if (ob a i).live=true then ((ob a i).field.take j).count id else 0):Nat):Int),iv a.length,iv i,iv (AA (iv i)*8+6),iv (ob a i).field.length,iv j, .bool (ob a i).live,I (ob a i).gen,I (ob a i).site,I (ob a i).holds,I (ob a i).roots,I (ob a i).count,iv (AA (iv i)*8+6), .bool (ob a i).purple]) (fun _=>[]) (ob a i).field.length (fun _=>True) (by simp only [List.take_zero,List.count_nil,ite_self,Nat.add_zero];rfl) rfl trivial (fun R2 j hj _ hR2=> ?_)
   have hc:((ob a i).field.take j).count id≤j:=Nat.le_trans List.count_le_length (by simp;omega)
   simp only [AG,AQ,AP,AN,AI,AD,AE,AL,AO,AK,AM,AJ,AR,AH,BC,BI,BF,BH,BJ,BG,BD,AZ,A4,A6,A8,A7,A5]
   refine AY (AW (fun hlt2=> ?_) fun hge2=> ?_)
   ·have hlt2:j<(ob a i).field.length:=by omega
    replace hR2:=hR2 hlt2 trivial
    rw [VB hlt2] at hR2
    rw [A9 (AA (iv i)*8+6),G6 hlt,AD]
    refine BQ (AT hlt2 (LB hlt hlt2 (BM (BM ?_))))
    by_cases hv:(ob a i).live=true
    ·simp only [if_pos hv] at hR2 ⊢
     refine OU hv (BO (jA hv rfl (AW (fun he=> ?_) fun he=> ?_)))
     ·rw [if_pos he] at hR2
      exact ED ⟨by omega,by omega⟩ (BB (by omega) hR2)
     ·rw [if_neg he] at hR2
      exact BB (by omega) hR2
    ·have hv:(ob a i).live=false:=by simpa using hv
     simp only [hv,Bool.false_eq_true,if_false] at hR2 ⊢
     exact KX (Q4 rfl (BX (BB (by omega) hR2)))
   ·have:j=(ob a i).field.length:=by omega
    subst this
    rw [List.take_length] at hc ⊢
    exact BB (by omega) hR
  ·have:i=a.length:=by omega
   subst this
   rw [List.take_length];exact h
 ·rw [inE,if_neg (by rintro ⟨h1,h2⟩;simp_all)] at h;exact h
theorem PJ {a:List AV} {b c d:List T} {s:Int} {K:J2} (hs:F64 s) (hl:(a.length:Int)≤1048576) (hf: ∀o∈a,(o.field.length:Int)≤1048576) (h:K [I (inE a s)] []):cl2 ⟨Try.prog,w0⟩ 88 DZ.sg [I s] [tR tO a,b,c,d] K:=by
 obtain ⟨s1,s2⟩:=hs
 refine DZ.cl2 ?_
 unfold DZ.txt
 simp only [AG,AQ,AP,AN,AI,AD,AE,AL,AO,AK,AM,AJ,AR,AH,BC,BI,BF,BH,BJ,BG,BD,AZ,A4,A6,A8,A7,A5]
 repeat' (first | refine DS ?_ | refine I8 ?_ | refine BM ?_ | refine H7 (by first | with_reducible assumption | omega) ?_ | refine F9 (by first | with_reducible assumption | omega) ?_ | refine CX (by first | with_reducible assumption | omega) rfl ?_ | refine C4 (by first | with_reducible assumption | omega) rfl ?_ | refine BZ ?_ | refine DH ?_ | refine HV ⟨by omega,by omega⟩ ?_ | refine O5 (by omega) (by omega) ?_ | refine GU (by omega) (by decide) rfl ?_ | refine KC (by omega) rfl ?_ | refine JV (fun _=> ?_) (fun _=> ?_) | refine SQ (fun _=> ?_) (fun _=> ?_) | refine B5 ?_ | simp only [AG,AQ,AP,AN,AI,AD,AE,AL,AO,AK,AM,AJ,AR,AH,BC,BI,BF,BH,BJ,BG,BD,AZ,A4,A6,A8,A7,A5])
 ·rw [inE,if_neg (by simp_all)] at h;exact h
 ·rename_i hin hlv
  have hin:0≤s∧s≤(a.length:Int)-1:=Decidable.not_not.1 hin
  rw [inE,if_pos ⟨hin,by simpa using hlv⟩] at h
  generalize CL s (ob a s.toNat).gen=id at h ⊢
  refine BK (fun i=>[I (CE (a.take i) id),I id,iv i]) (fun _=>[]) a.length (fun _=>True) rfl rfl trivial (fun R i hi _ hR=> ?_)
  have he:=MS (l:=a.take i) (id:=id) (b:=1048576) fun o ho=>by have:=hf o (List.mem_of_mem_take ho);omega
  have hln:(a.take i).length≤a.length:=by simp;omega
  have hmul:(a.take i).length*1048576≤1048576*1048576:=Nat.mul_le_mul_right _ (by omega)
  have hfo:=ZK hf i
  simp only [AG,AQ,AP,AN,AI,AD,AE,AL,AO,AK,AM,AJ,AR,AH,BC,BI,BF,BH,BJ,BG,BD,AZ,A4,A6,A8,A7,A5]
  refine AY (AW (fun hlt=> ?_) fun hge=> ?_)
  ·have hlt:i<a.length:=by omega
   replace hR:=hR hlt trivial
   rw [WL hlt,MT] at hR
   refine BK (fun j=>[I ((CE (a.take i) id+(if (ob a i).live=true then ((ob a i).field.take j).count id else 0):Nat):Int),I id,iv i,iv j]) (fun _=>[]) (ob a i).field.length (fun _=>True) (by simp only [List.take_zero,List.count_nil,ite_self,Nat.add_zero];rfl) rfl trivial (fun R2 j hj _ hR2=> ?_)
   have hc:((ob a i).field.take j).count id≤j:=Nat.le_trans List.count_le_length (by simp;omega)
   refine AT hlt (YY hlt ?_)
   rw [G6 hlt,AD]
   by_cases hv:(ob a i).live=true
   ·simp only [if_pos hv] at hR hR2 ⊢
    refine AY (BM (BM (BM (JB (fun hlt2=> ?_) fun hge2=> ?_))))
    ·have hlt2':j<(ob a i).field.length:=by
      have:(j:Int)<((ob a i).field.length:Int):=hlt2
      omega
     replace hR2:=hR2 hlt2' trivial
     rw [VB hlt2'] at hR2
     refine AT hlt (BM (G5 hlt2 (KC hlt rfl (CX hlt2 rfl (fN hv (BQ (AT hlt (YY hlt ?_))))))))
     rw [G6 hlt,AD]
     refine AT hlt2' (LB hlt hlt2' (BO (AW (fun he=> ?_) fun he=> ?_)))
     ·rw [if_pos he] at hR2
      exact ED ⟨by omega,by omega⟩ (BB (by omega) hR2)
     ·rw [if_neg he] at hR2
      exact BB (by omega) hR2
    ·have:j=(ob a i).field.length:=by
      have: ¬(j:Int)<((ob a i).field.length:Int):=hge2
      omega
     subst this
     rw [List.take_length] at hc ⊢
     exact BM (KY hge2 (C4 hge2 rfl (BX (BB (by omega) hR))))
   ·have hv:(ob a i).live=false:=by simpa using hv
    simp only [hv,Bool.false_eq_true,if_false] at hR hR2 ⊢
    refine AY (BM (BM (BM (JB (fun hlt2=> ?_) fun hge2=> ?_))))
    ·exact AT hlt (BM (G5 hlt2 (KC hlt (v:= .bool false) (by rw [←hv];rfl) (CX hlt2 rfl (BX (BB (by omega) hR))))))
    ·exact BM (KY hge2 (C4 hge2 rfl (BX (BB (by omega) hR))))
  ·have:i=a.length:=by omega
   subst this
   rw [List.take_length];exact h
 ·rw [inE,if_neg (by rintro ⟨h1,h2⟩;simp_all)] at h;exact h
theorem XY {l:List Int} {i:Nat} {x:Int} (hi:i<l.length) (h:x∉l.take i) (hn:gI l i≠x):x∉l.take (i+1):=by
 rw [List.take_succ_eq_append_getElem hi,EM hi]
 simp only [List.mem_append,List.mem_singleton,not_or]
 exact ⟨h,fun he=>hn he.symm⟩
theorem DQ {l:List Int} {i:Nat} (h:i<l.length):gI l i∈l:=by rw [←EM h];exact List.getElem_mem h
theorem QD {l:List Int} {x:Int} {K:J2} (hl:(l.length:Int)<2^62) (h:K [.bool (decide (x∈l))] []):cl2 ⟨Try.prog,w0⟩ 91 FG.sg [I x] [tI l] K:=by
 refine FG.cl2 ?_
 unfold FG.txt
 simp only [AG,AQ,AP,AN,AI,AD,AE,AL,AO,AK,AM,AJ,AR,AH,BC,BI,BF,BH,BJ,BG,BD,AZ,A4,A6,A8,A7,A5]
 refine BK (fun i=>[I x,iv l.length,iv i]) (fun _=>[]) l.length (fun i=>x∉l.take i) rfl rfl (by simp) (fun R i hi hP hR=> ?_)
 refine AY (AW (fun hlt=> ?_) fun hge=> ?_)
 ·have hlt:i<l.length:=by omega
  refine AT hlt (ldI hlt (BO (AW (fun he=> ?_) fun he=> ?_)))
  ·rw [decide_eq_true (he ▸ DQ hlt)] at h;exact h
  ·exact BB (by omega) (hR hlt (XY hlt hP he))
 ·have:i=l.length:=by omega
  subst this
  rw [List.take_length] at hP
  rw [decide_eq_false hP] at h;exact h
theorem NK {l:List Int} {x:Int} {K:J2} (hl:(l.length:Int)<2^62) (h:K [.bool (decide (x∈l))] []):cl2 ⟨Try.prog,w0⟩ 89 FL.sg [I x] [tI l] K:=by
 refine FL.cl2 ?_
 unfold FL.txt
 simp only [AG,AQ,AP,AN,AI,AD,AE,AL,AO,AK,AM,AJ,AR,AH,BC,BI,BF,BH,BJ,BG,BD,AZ,A4,A6,A8,A7,A5]
 refine BK (fun i=>[I x,iv i]) (fun _=>[]) l.length (fun i=>x∉l.take i) rfl rfl (by simp) (fun R i hi hP hR=> ?_)
 refine AY (AW (fun hlt=> ?_) fun hge=> ?_)
 ·have hlt:i<l.length:=by omega
  refine AT hlt (ldI hlt (BO (AW (fun he=> ?_) fun he=> ?_)))
  ·rw [decide_eq_true (he ▸ DQ hlt)] at h;exact h
  ·exact BB (by omega) (hR hlt (XY hlt hP he))
 ·have:i=l.length:=by omega
  subst this
  rw [List.take_length] at hP
  rw [decide_eq_false hP] at h;exact h
attribute [irreducible] inE CE
end Go.Proofs.Ytklmcfpgdfibnaa.P
namespace Go.Proofs.Ytklmcfpgdfibnaa.P
open Go Go.Proofs.Ytklmcfpgdfibnaa Go.Proofs.Ytklmcfpgdfibnaa.Eng
set_option linter.unusedVariables false
def inB (n lo hi:Int):Bool:=decide (n≥lo)&&decide (n≤hi)
def OO (n:Int):Bool:=inB n (-1000000000) 1000000000
def sG (a b c d:Int) (s:ByteArray):Bool:=(((OO a&&OO b)&&OO c)&&OO d)&&decide ((s.size:Int)≤8)
def s7 (c v:Int) (l:List Int):Bool:=(inB c 0 6&&OO v&&decide (l.length≤8))&&l.all OO
end Go.Proofs.Ytklmcfpgdfibnaa.P
namespace Go.Proofs.Ytklmcfpgdfibnaa.P
open Go Go.Proofs.Ytklmcfpgdfibnaa Go.Proofs.Ytklmcfpgdfibnaa.Eng
set_option linter.unusedVariables false
def ML (l:List Nat):ByteArray:=l.foldl (fun b n=>b.push (UInt8.ofNat n)) ByteArray.empty
theorem bT (l:List Nat):(ML l).size=l.length:=by
 have: ∀(l:List Nat) (b:ByteArray),(l.foldl (fun b n=>b.push (UInt8.ofNat n)) b).size=b.size+l.length:=by
  intro l
  induction l with
  | nil=>intro b;rfl
  | cons a l ih=>intro b;rw [List.foldl_cons,ih,ByteArray.size_push,List.length_cons];omega
 rw [ML,this];simp
def vd:Nat→Nat→List Nat
 | 0,n=>[n]
 | k+1,n=>if n≥128 then (128+n % 128)::vd k (n/128) else [n]
theorem mX: ∀k n,(vd k n).length≤k+1
 | 0,n=>by simp [vd]
 | k+1,n=>by
   unfold vd;split
   ·have:=mX k (n/128);simp only [List.length_cons];omega
   ·simp
def V (n:Int):ByteArray:=if inB n 0 562949953421311 then ML (vd 6 n.toNat) else ⟨#[]⟩
theorem QV (n:Int):(V n).size≤7:=by
 unfold V;split
 ·rw [bT];exact mX 6 _
 ·exact Nat.zero_le _
attribute [irreducible] V
end Go.Proofs.Ytklmcfpgdfibnaa.P
namespace Go.Proofs.Ytklmcfpgdfibnaa.P
open Go Go.Proofs.Ytklmcfpgdfibnaa Go.Proofs.Ytklmcfpgdfibnaa.Eng
set_option linter.unusedVariables false
def zg (n:Int):Int:=if inB n (-100000000000000) 100000000000000 then (if n<0 then -2*n-1 else 2*n) else -1
theorem eX {n lo hi:Int}:inB n lo hi=true↔lo≤n∧n≤hi:=by simp [inB]
def SI (n:Int):ByteArray:=V (zg n)
def ST (s:ByteArray):ByteArray:=if (s.size:Int)>8 then ⟨#[]⟩ else V s.size++s
theorem nP (s:ByteArray):(ST s).size≤15:=by
 unfold ST;split
 ·exact Nat.zero_le _
 ·have:=QV s.size
  rw [ByteArray.size_append];omega
theorem kE {a b:ByteArray} {p q:Prop} (h1:a=b→p) (h2:a≠b→q):AX (.bool (a.toList==b.toList)) p q:=
 SQ (fun h=>h1 (l5 (by simpa using h))) (fun h=>h2 (by rintro rfl;simp at h))
instance :LawfulBEq ByteArray where
 eq_of_beq {a b} h:=by
  cases a;cases b
  have h:_==_:=h
  first | exact congrArg _ (eq_of_beq h) | (simp [BEq.beq,instBEqByteArray.beq] at h;simpa using h) | (simp_all)
 rfl {a}:=by
  cases a
  first | exact beq_self_eq_true (α:=Array UInt8) _ | (show ByteArray.beq _ _=true;unfold ByteArray.beq;simp) | (simp [BEq.beq,ByteArray.beq])
def at_ (l:List ByteArray) (s:ByteArray):Int:=if s∈l then (l.idxOf s:Int) else -1
theorem eL {l:List ByteArray} {s:ByteArray} {i:Nat} (hi:i<l.length) (h1:s∉l.take i) (h2:l[i]≠s):s∉l.take (i+1):=by
 rw [List.take_succ_eq_append_getElem hi]
 simp only [List.mem_append,List.mem_singleton,not_or]
 exact ⟨h1,fun h=>h2 h.symm⟩
theorem nM {l:List ByteArray} {s:ByteArray} {i:Nat} (hi:i<l.length) (h1:s∉l.take i) (h2:l[i]=s):at_ l s=i:=by
 have hm:s∈l:=h2 ▸ List.getElem_mem hi
 rw [at_,if_pos hm]
 have e:l=l.take i++l[i]::l.drop (i+1):=by rw [←List.drop_eq_getElem_cons hi,List.take_append_drop]
 have hx:l.idxOf s=i:=by
  rw [e,List.idxOf_append,if_neg h1,h2,List.idxOf_cons_self]
  simp;omega
 rw [hx]
theorem QF {w0:World} {s:ByteArray} {l:List ByteArray} {K:J2} (hl:(l.length:Int)<2^62) (h:K [I (at_ l s)] []):cl2 ⟨Try.prog,w0⟩ 162 FH.sg [.string s] [tS l] K:=by
 refine FH.cl2 ?_
 unfold FH.txt
 simp only [AE]
 refine BK (fun i=>[.string s,iv l.length,iv i]) (fun _=>[]) l.length (fun i=>s∉l.take i) rfl rfl (by simp) (fun R i hi hP hR=> ?_)
 refine oE (AW (fun hlt=> ?_) fun hge=> ?_)
 ·refine AT hlt (lX hlt (bM (kE (fun he=> ?_) fun hne=> ?_)))
  ·rw [nM hlt hP he] at h;exact h
  ·exact BB (by omega) (hR hlt (eL hlt hP hne))
 ·have:i=l.length:=by omega
  subst this
  rw [List.take_length] at hP
  rw [at_,if_neg hP] at h;exact h
theorem U5 {w0:World} {s:ByteArray} {l:List ByteArray} {K:J2} (hl:(l.length:Int)<2^62) (h:K [.bool (decide (s∈l))] []):cl2 ⟨Try.prog,w0⟩ 159 GH.sg [.string s] [tS l] K:=by
 refine GH.cl2 (QF hl (K6 ?_))
 have:decide (at_ l s≥0)=decide (s∈l):=by
  by_cases hm:s∈l <;> simp [at_,hm]
 rw [this];exact h
end Go.Proofs.Ytklmcfpgdfibnaa.P
namespace Go.Proofs.Ytklmcfpgdfibnaa.P
open Go Go.Proofs.Ytklmcfpgdfibnaa Go.Proofs.Ytklmcfpgdfibnaa.Eng
set_option linter.unusedVariables false
def szB (s:ByteArray):Bool:=decide ((s.size:Int)≤8)
def tU (l:List ByteArray):Bool:=l.all szB&&decide l.Nodup
def s9 (n:Int) (l:List ByteArray):Bool:=(OO n&&decide (l.length≤400))&&tU l
theorem Y2 {n i:Nat} (hi:i≤n) {K:Value→Value→Prop} (h:K (iv 0) (iv i)):scW n none (some (iv i)) K:=
 ⟨0,i,rfl,by simp [bnd,iv],Nat.zero_le _,hi,h⟩
def kV (l:List ByteArray) (s:ByteArray):ByteArray:=if s∈l then V (at_ l s+1) else V 0++ST s
def sV (l:List ByteArray) (s:ByteArray):List ByteArray:=if s∈l then l else l++[s]
end Go.Proofs.Ytklmcfpgdfibnaa.P
namespace Go.Proofs.Ytklmcfpgdfibnaa.P
open Go Go.Proofs.Ytklmcfpgdfibnaa Go.Proofs.Ytklmcfpgdfibnaa.Eng
set_option maxHeartbeats 4000000
set_option linter.unusedVariables false
set_option linter.unusedSimpArgs false
attribute [local irreducible] prP gP gE gF AX ixW ldc ldg ldl stc stg scW mkW apW BL cl2 BS EB B8
variable {w0:World}
theorem gQ {a:List AV} {i:Nat} (hi:i<a.length):tR tO (a.take i)++[T.c (.bool (ob a i).live), .c (I (ob a i).gen), .c (I (ob a i).site), .c (I (ob a i).holds), .c (I (ob a i).roots), .c (I (ob a i).count), .l 1 (tI (ob a i).field), .c (.bool (ob a i).purple)]=tR tO (a.take (i+1)):=by
 rw [List.take_succ_eq_append_getElem hi,DN hi]
 exact fC _ (ob a i)
theorem N0 {h:Hp} {K:J2} (hf:Fits h) (hk:K [] (trees h)):cl2 ⟨Try.prog,w0⟩ 97 DI.sg [] (trees h) K:=by
 obtain ⟨a,b,c,d⟩:=h
 have g1:=hf.ol;have g2:=hf.wl;have g3:=hf.sl;have g4:=hf.bl
 simp only at g1 g2 g3 g4
 refine DI.cl2 ?_
 unfold DI.txt
 simp only [AG,AQ,AP,AN,AI,AD,AE,AL,AO,AK,AM,AJ,AR,AH,BC,BI,BF,BH,BJ,BG,BD,AZ,A4,A6,A8,A7,A5]
 refine EJ (Z0 _) (by omega) (HO (by omega) (S5 (by omega) ?_))
 refine BK (fun i=>[iv a.length,iv i]) (fun i=>[tR tO (a.take i),tR tW b,tI c,tS d]) a.length (fun _=>True) rfl rfl trivial (fun R i hi hP hR=> ?_)
 simp only [AG,AQ,AP,AN,AI,AD,AE,AL,AO,AK,AM,AJ,AR,AH,BC,BI,BF,BH,BJ,BG,BD,AZ,A4,A6,A8,A7,A5]
 refine AY (AW (fun hlt=> ?_) fun hge=> ?_)
 ·have hlt:i<a.length:=by omega
  have hfo:((ob a i).field.length:Int)≤1048576:=pY (l:=a) hf.of hlt
  have hln:(a.take i).length=i:=by simp;omega
  replace hR:=hR hlt trivial
  refine AT hlt (MH hlt ?_)
  rw [G6 hlt]
  refine HO (by omega) (fI (by rw [hln];omega) (BB (by omega) ?_))
  rw [←gQ hlt] at hR
  exact hR
 ·have:i=a.length:=by omega
  subst this
  rw [List.take_length];exact hk
theorem KG {h:Hp} {K:J2} (hf:Fits h) (hk:K [] (trees h)):cl2 ⟨Try.prog,w0⟩ 122 C7.sg [] (trees h) K:=by
 obtain ⟨a,b,c,d⟩:=h
 have g1:=hf.ol;have g2:=hf.wl;have g3:=hf.sl;have g4:=hf.bl
 simp only at g1 g2 g3 g4
 refine C7.cl2 ?_
 unfold C7.txt
 simp only [AG,AQ,AP,AN,AI,AD,AE,AL,AO,AK,AM,AJ,AR,AH,BC,BI,BF,BH,BJ,BG,BD,AZ,A4,A6,A8,A7,A5]
 refine EJ (Z0 _) (by simp only [cnt,List.length_nil];omega) (EJ (L4 _) (by omega) (EJ (ZB _) (by omega) ?_))
 refine BK (fun i=>[iv i]) (fun i=>[tR tO (a.take i),tR tW b,tI c,tS d]) a.length (fun _=>True) rfl rfl trivial (fun R i hi hP hR=> ?_)
 simp only [AG,AQ,AP,AN,AI,AD,AE,AL,AO,AK,AM,AJ,AR,AH,BC,BI,BF,BH,BJ,BG,BD,AZ,A4,A6,A8,A7,A5]
 refine AY (AW (fun hlt=> ?_) fun hge=> ?_)
 ·have hlt:i<a.length:=by omega
  have hfo:((ob a i).field.length:Int)≤1048576:=pY (l:=a) hf.of hlt
  have hln:(a.take i).length=i:=by simp;omega
  replace hR:=hR hlt trivial
  refine AT hlt (MH hlt ?_)
  rw [G6 hlt]
  refine EJ (L4 _) (by first | omega | (simp only [AG,AQ,AP,AN,AI,AD,AE,AL,AO,AK,AM,AJ,AR,AH,BC,BI,BF,BH,BJ,BG,BD,AZ,A4,A6,A8,A7,A5];omega)) (fI (by rw [hln];omega) (BB (by omega) ?_))
  rw [←gQ hlt] at hR
  exact hR
 ·have:i=a.length:=by omega
  subst this
  rw [List.take_length];exact hk
structure KD (l:List ByteArray):Prop where
 len:l.length≤6
 sz: ∀i,i<l.length→1≤((gS l i).size:Int)∧((gS l i).size:Int)≤8
 one: ∀i,i<l.length→gS l i∉l.take i
theorem eJ {l:List ByteArray} {i:Nat} {x:ByteArray} (hi:i<l.length) (h:x∉l.take i) (hn:gS l i≠x):x∉l.take (i+1):=by
 rw [List.take_succ_eq_append_getElem hi,SD hi]
 simp only [List.mem_append,List.mem_singleton,not_or]
 exact ⟨h,fun he=>hn he.symm⟩
theorem V3 {l:List ByteArray} {K:J2} (hl:(l.length:Int)<2^62) (h1:KD l→K [.bool true] []) (h2: ¬KD l→K [.bool false] []):cl2 ⟨Try.prog,w0⟩ 129 FN.sg [] [tS l] K:=by
 refine FN.cl2 ?_
 unfold FN.txt
 simp only [AG,AQ,AP,AN,AI,AD,AE,AL,AO,AK,AM,AJ,AR,AH,BC,BI,BF,BH,BJ,BG,BD,AZ,A4,A6,A8,A7,A5]
 refine BK (fun i=>[iv l.length,iv i]) (fun _=>[]) l.length (fun i=> ∀k,k<i→(1≤((gS l k).size:Int)∧((gS l k).size:Int)≤8)∧gS l k∉l.take k) rfl rfl (fun k hk=>by omega) (fun R i hi hP hR=> ?_)
 simp only [AG,AQ,AP,AN,AI,AD,AE,AL,AO,AK,AM,AJ,AR,AH,BC,BI,BF,BH,BJ,BG,BD,AZ,A4,A6,A8,A7,A5]
 refine AY (AW (fun hlt=> ?_) fun hge=> ?_)
 ·have hlt:i<l.length:=by omega
  refine AT hlt (ldS hlt (UE (GF (DH (BM (BM (JV (fun hb=> ?_) fun hb=> ?_)))))))
  ·refine Y2 (by omega) (BM (F9 hb ?_))
   have e:HE (tS l) [] (AA (WC (two (iv 0) (iv i)))*1) (AA (V7 (two (iv 0) (iv i)))*1)=tS (l.take i):=by
    have h1:AA (WC (two (iv 0) (iv i)))=0:=rfl
    have h2:AA (V7 (two (iv 0) (iv i)))=i:=A9 i
    rw [h1,h2];simp [HE,node,tS,List.map_take]
   rw [e]
   refine U5 (by simp;omega) (C4 hb rfl (AW (fun hm=>h2 fun hk=>hk.one i hlt hm) fun hm=> ?_))
   refine BB (by omega) (hR hlt fun k hk=> ?_)
   rcases Nat.lt_succ_iff_lt_or_eq.1 hk with h3 | rfl
   ·exact hP k h3
   ·exact ⟨Decidable.not_not.1 hb,hm⟩
  ·exact BM (H7 hb (CX hb rfl (BZ (h2 fun hk=>hb (hk.sz i hlt)))))
 ·have:i=l.length:=by omega
  subst this
  refine GA ?_
  by_cases h6:(l.length:Int)≤6
  ·rw [decide_eq_true h6]
   exact h1 ⟨by omega,fun i hi=>(hP i hi).1,fun i hi=>(hP i hi).2⟩
  ·rw [decide_eq_false h6]
   exact h2 fun hk=>by have:=hk.len;omega
structure M7 (h:Hp) (i:Nat):Prop where
 gen:0≤(ob h.AU i).gen∧(ob h.AU i).gen≤999
 len:(ob h.AU i).field.length=3
 lead: ∀j,j<3→gI (ob h.AU i).field j≠ -1→(ob h.AU i).live=true∧0≤AB h.AU (gI (ob h.AU i).field j)
 dead:(ob h.AU i).live=false→(ob h.AU i).site=0∧(ob h.AU i).holds=0∧(ob h.AU i).roots=0∧(ob h.AU i).count=0∧(ob h.AU i).purple=false
 lv:(ob h.AU i).live=true→1≤(ob h.AU i).gen∧(0≤(ob h.AU i).site∧(ob h.AU i).site≤(h.sites.length:Int)-1)∧(0≤(ob h.AU i).holds∧(ob h.AU i).holds≤20)∧(0≤(ob h.AU i).roots∧(ob h.AU i).roots≤20)∧
  (ob h.AU i).count=(ob h.AU i).holds+(ob h.AU i).roots+inE h.AU i∧1≤(ob h.AU i).count∧(ob h.AU i).purple=decide (CL i (ob h.AU i).gen∈h.buffer)
structure CN (h:Hp):Prop where
 ol:h.AU.length=8
 wl:h.B2.length=8
 sites:KD h.sites
 obj: ∀i,i<8→M7 h i
 weak: ∀i,i<8→((wk h.B2 i).used=false→(wk h.B2 i).target=0)∧((wk h.B2 i).used=true→8≤(wk h.B2 i).target∧(wk h.B2 i).target≤7999)
 buf: ∀i,i<h.buffer.length→0≤AB h.AU (gI h.buffer i)∧gI h.buffer i∉h.buffer.take i
theorem mT {l:List Int} {P:Int→Prop} (h0:P 0) (h: ∀x∈l,P x) (i:Nat):P (gI l i):=by
 by_cases hi:i<l.length
 ·rw [←EM hi];exact h _ (List.getElem_mem hi)
 ·unfold gI;rw [List.getD_eq_getElem?_getD,List.getElem?_eq_none (by omega)];exact h0
theorem QN:F64 0:=⟨by omega,by omega⟩
theorem RK.ob {h:Hp} (hn:RK h) (i:Nat):F64 (ob h.AU i).gen∧F64 (ob h.AU i).site∧F64 (ob h.AU i).holds∧F64 (ob h.AU i).roots∧F64 (ob h.AU i).count∧ ∀f∈(ob h.AU i).field,F64 f:=by
 by_cases hi:i<h.AU.length
 ·rw [←DN hi];exact hn.obj _ (List.getElem_mem hi)
 ·unfold Eng.ob;rw [List.getD_eq_getElem?_getD,List.getElem?_eq_none (by omega)]
  exact ⟨QN,QN,QN,QN,QN,fun f hf=>by simp at hf⟩
theorem RK.fld {h:Hp} (hn:RK h) (i j:Nat):F64 (gI (Eng.ob h.AU i).field j):=mT QN (hn.ob i).2.2.2.2.2 j
theorem RK.bf {h:Hp} (hn:RK h) (i:Nat):F64 (gI h.buffer i):=mT QN hn.buf i
theorem lO {l:List AV} (hl:(l.length:Int)≤1048576) (hf: ∀o∈l,(o.field.length:Int)≤1048576) (s:Int):0≤inE l s∧inE l s≤2^40:=by
 rw [inE];split
 ·have he:=MS (l:=l) (id:=CL s (ob l s.toNat).gen) (b:=1048576) fun o ho=>by have:=hf o ho;omega
  have hmul:l.length*1048576≤1048576*1048576:=Nat.mul_le_mul_right _ (by omega)
  omega
 ·omega
theorem ZY {h:Hp} {i:Nat} {K:J2} (hf:Fits h) (hn:RK h) (hi:i<h.AU.length) (h1:M7 h i→K [.bool true] []) (h2: ¬M7 h i→K [.bool false] []):cl2 ⟨Try.prog,w0⟩ 130 HH.sg [I i] (trees h) K:=by
 have g1:=hf.ol;have g3:=hf.sl;have g4:=hf.bl
 refine HH.cl2 ?_
 unfold HH.txt
 simp only [AG,AQ,AP,AN,AI,AD,AE,AL,AO,AK,AM,AJ,AR,AH,BC,BI,BF,BH,BJ,BG,BD,AZ,A4,A6,A8,A7,A5]
 refine AT hi (MH hi ?_)
 rw [G6 hi,AD]
 have hfo:=ZK hf.of i
 have hnum:=hn.ob i
 obtain ⟨⟨n1,n2⟩,⟨n3,n4⟩,_,_,⟨n5,n6⟩,_⟩:=hnum
 have hib:=lO hf.ol hf.of i
 refine GF (DH (BM (BM (BM (JV (fun hg=> ?_) fun hg=> ?_)))))
 rotate_left
 ·exact CX hg rfl (BZ (h2 fun hk=>hg hk.gen))
 refine CI (C4 hg rfl (AW (fun h3=>h2 fun hk=>by have:=hk.len;omega) fun h3=> ?_))
 have hl3:(ob h.AU i).field.length=3:=by omega
 have hg:0≤(ob h.AU i).gen∧(ob h.AU i).gen≤999:=Decidable.not_not.1 hg
 rw [hl3]
 refine BK (fun j=>[iv i,iv (AA (iv i)*8+6),iv 3,iv j, .bool (ob h.AU i).live,I (ob h.AU i).gen,I (ob h.AU i).site,I (ob h.AU i).holds,I (ob h.AU i).roots,I (ob h.AU i).count,iv (AA (iv i)*8+6), .bool (ob h.AU i).purple]) (fun _=>[]) 3 (fun j=> ∀k,k<j→gI (ob h.AU i).field k≠ -1→(ob h.AU i).live=true∧0≤AB h.AU (gI (ob h.AU i).field k)) rfl rfl (fun k hk=>by omega) (fun R j hj hP hR=> ?_)
 simp only [AG,AQ,AP,AN,AI,AD,AE,AL,AO,AK,AM,AJ,AR,AH,BC,BI,BF,BH,BJ,BG,BD,AZ,A4,A6,A8,A7,A5]
 rw [A9 (AA (iv i)*8+6),G6 hi,AD,hl3]
 refine AY (AW (fun hlt=> ?_) fun hge=> ?_)
 ·have hlt:j<3:=by omega
  refine AT hlt (LB hi (by omega) ?_)
  repeat' (first | refine CT (hn.fld i j) (by omega) ?_ | refine BM ?_ | refine OR ?_ | refine mI ?_ | refine sO (by first | with_reducible assumption | omega) ?_ | refine s6 (by first | with_reducible assumption | omega) ?_ | refine G5 (by first | with_reducible assumption | omega) ?_ | refine KY (by first | with_reducible assumption | omega) ?_ | refine OU (by with_reducible assumption) ?_ | refine ZR (by with_reducible assumption) ?_ | refine jA (by with_reducible assumption) rfl ?_ | refine lZ (by with_reducible assumption) rfl ?_ | refine CX (by first | with_reducible assumption | omega) rfl ?_ | refine C4 (by first | with_reducible assumption | omega) rfl ?_ | refine BZ ?_ | refine BX ?_ | refine AY ?_ | refine CI ?_ | refine BB (by omega) ?_ | refine AW (fun _=> ?_) (fun _=> ?_) | refine JB (fun _=> ?_) (fun _=> ?_) | refine gO (fun _=> ?_) (fun _=> ?_) | refine B5 ?_)
  all_goals first
   | (refine hR hlt fun k hk hne=> ?_
      rcases Nat.lt_succ_iff_lt_or_eq.1 hk with h4 | rfl
      ·exact hP k h4 hne
      ·first
       | exact absurd hne (by assumption)
       | exact ⟨by simp_all,by omega⟩)
   | (refine h2 fun hk=> ?_
      have h4:=hk.lead j hlt (by assumption)
      first
       | omega
       | simp_all)
 ·have hj3:j=3:=by omega
  subst hj3
  cases hv:(ob h.AU i).live with
  | false=>
    have mk:(ob h.AU i).site=0→(ob h.AU i).holds=0→(ob h.AU i).roots=0→(ob h.AU i).count=0→(ob h.AU i).purple=false→M7 h i:=fun a b c d e=>⟨hg,hl3,hP,fun _=>⟨a,b,c,d,e⟩,fun hh=>by rw [hv] at hh;cases hh⟩
    refine B5 (BZ ?_)
    cases hpu:(ob h.AU i).purple
    ·repeat' (first | refine BM ?_ | refine KX ?_ | refine CX (by first | with_reducible assumption | omega) rfl ?_ | refine C4 (by first | with_reducible assumption | omega) rfl ?_ | refine Q4 rfl ?_ | refine BO ?_ | refine JB (fun _=> ?_) (fun _=> ?_) | refine B5 ?_)
     all_goals first
      | exact h1 (mk (by assumption) (by assumption) (by assumption) (by assumption) hpu)
      | (refine h2 fun hk=> ?_
         have h4:=hk.dead hv
         omega)
    ·repeat' (first | refine BM ?_ | refine KX ?_ | refine CX (by first | with_reducible assumption | omega) rfl ?_ | refine C4 (by first | with_reducible assumption | omega) rfl ?_ | refine Q4 rfl ?_ | refine BO ?_ | refine JB (fun _=> ?_) (fun _=> ?_) | refine B5 ?_)
     all_goals
      refine h2 fun hk=> ?_
      have h4:=hk.dead hv
      rw [hpu] at h4
      first
       | omega
       | exact absurd h4.2.2.2.2 (by decide)
  | true=>
    refine B5 (BX ?_)
    have fin:1≤(ob h.AU i).gen→(0≤(ob h.AU i).site∧(ob h.AU i).site≤(h.sites.length:Int)-1)→(0≤(ob h.AU i).holds∧(ob h.AU i).holds≤20)→(0≤(ob h.AU i).roots∧(ob h.AU i).roots≤20)→(ob h.AU i).count=(ob h.AU i).holds+(ob h.AU i).roots+inE h.AU i→1≤(ob h.AU i).count→K [.bool (decide ((ob h.AU i).purple=decide (CL i (ob h.AU i).gen∈h.buffer)))] []:=fun a b c d e f=>by
     by_cases hp:(ob h.AU i).purple=decide (CL i (ob h.AU i).gen∈h.buffer)
     ·rw [decide_eq_true hp]
      exact h1 ⟨hg,hl3,hP,fun hh=>(by rw [hv] at hh;cases hh),fun _=>⟨a,b,c,d,e,f,hp⟩⟩
     ·rw [decide_eq_false hp]
      exact h2 fun hk=>hp (hk.lv hv).2.2.2.2.2.2
    have no: ∀{P:Prop}, ¬P→(M7 h i→P)→K [.bool false] []:=fun hp hi=>h2 fun hk=>hp (hi hk)
    repeat' (first | refine GF ?_ | refine PC ⟨by omega,by omega⟩ (by omega) hf.of ?_ | refine JA ?_ | refine QD (by omega) ?_ | refine BM ?_ | refine KX ?_ | refine G5 (by first | with_reducible assumption | omega) ?_ | refine KY (by first | with_reducible assumption | omega) ?_ | refine CX (by first | with_reducible assumption | omega) rfl ?_ | refine C4 (by first | with_reducible assumption | omega) rfl ?_ | refine Q4 rfl ?_ | refine GA ?_ | refine BO ?_ | refine ED ⟨by omega,by omega⟩ ?_ | refine HV ⟨by omega,by omega⟩ ?_ | refine nE ?_ | refine JB (fun _=> ?_) (fun _=> ?_))
    all_goals first
     | exact fin (by assumption) (by assumption) (by assumption) (by assumption) (by assumption) (by assumption)
     | (refine h2 fun hk=> ?_
        have h4:=hk.lv hv
        omega)
end Go.Proofs.Ytklmcfpgdfibnaa.P
